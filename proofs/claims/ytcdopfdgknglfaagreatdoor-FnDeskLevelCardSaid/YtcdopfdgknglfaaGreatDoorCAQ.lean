/- Lemmas. -/
import Derived.Test.YtcdopfdgknglfaaGreatDoorCAP
import Derived.Lib.SplitLaws
import Derived.Laws.IdiomStrings
import Derived.Laws.OwnMore
set_option maxHeartbeats 16000000
set_option maxRecDepth 8000
set_option linter.all false
namespace Go.Proofs.YtcdopfdgknglfaaGreatDoor
open Go.RowKit
theorem ng(s sub:List UInt8):Lib.index s sub=-1∨∃i:Nat,Lib.index s sub=i:=by
 have:=Lib.index_ge s sub
 by_cases h:Lib.index s sub=-1
 ·exact .inl h
 ·exact .inr ⟨(Lib.index s sub).toNat,by omega⟩
theorem index_hit{c:UInt8}{l sub:List UInt8}(h:sub.isPrefixOf (c :: l)=true):Lib.index (c :: l) sub=0:=by rw[Lib.index,ah h]
theorem G7{c:UInt8}{l sub:List UInt8}(h:sub.isPrefixOf (c :: l)=false):Lib.index (c :: l) sub=if Lib.index l sub == -1 then -1 else Lib.index l sub+1:=by rw[Lib.index,h];rfl
theorem uj{c:UInt8}{l sub:List UInt8}(h:sub.isPrefixOf (c :: l)=false):(Lib.index (c :: l) sub=-1->Lib.index l sub=-1)/\∀i:Nat,Lib.index (c :: l) sub=i->∃j:Nat,i=j+1/\Lib.index l sub=j:=by
 rw[G7 h]
 have:=Lib.index_ge l sub
 by_cases e:Lib.index l sub=-1
 ·rw[e];exact⟨λ_=>rfl,λi hi=>by simp at hi⟩
 ·have:(Lib.index l sub == -1)=false:=by simpa using e
  rw[this];refine⟨λh=>?_,λi hi=>⟨i-1,?_,?_⟩⟩<;>simp at*<;> omega
theorem lX(b:UInt8):∀s:List UInt8,(Lib.index s [b]=-1->splitL b s=[s])/\∀i:Nat,Lib.index s [b]=i->splitL b s=s.take i :: splitL b (s.drop (i+1))
 | []=>⟨λ_=>rfl,λi h=>by simp[Lib.index]at h⟩
 | c :: l=>by
   obtain⟨h1,h2⟩:=lX b l;by_cases hc:c=b
   ·subst hc;have e:Lib.index (c :: l) [c]=0:=index_hit (by simp);refine⟨λh=>?_,λi h=>?_⟩
    ·rw[e]at h;cases h
    ·rw[e]at h;obtain rfl:i=0:=by omega
     simp[splitL]
   ·obtain⟨n1,n2⟩:=uj (c:=c) (l:=l) (sub:=[b]) (by simp[List.isPrefixOf,Ne.symm hc]);refine⟨λh=>?_,λi h=>?_⟩
    ·rw[splitL,ak hc,h1 (n1 h)]
    ·obtain⟨j,rfl,hj⟩:=n2 i h;rw[splitL,ak hc,h2 j hj];rfl
theorem pI:∀s:List UInt8,(Lib.index s [59,32]=-1->splitS s=[s])/\∀i:Nat,Lib.index s [59,32]=i->splitS s=s.take i :: splitS (s.drop (i+2))
 | []=>⟨λ_=>rfl,λi h=>by simp[Lib.index]at h⟩
 | c :: l=>by
   obtain⟨h1,h2⟩:=pI l;by_cases hc:∃r,c :: l=59 :: 32 :: r
   ·obtain⟨r,hr⟩:=hc;have e:Lib.index (c :: l) [59,32]=0:=by rw[hr];exact index_hit (by simp[List.isPrefixOf])
    refine⟨λh=>?_,λi h=>?_⟩
    ·rw[e]at h;cases h
    ·rw[e]at h;obtain rfl:i=0:=by omega
     rw[hr];simp[splitS]
   ·have hp:List.isPrefixOf [59,32] (c :: l)=false:=by rw[Bool.eq_false_iff];intro h;obtain⟨r,hr⟩:=List.isPrefixOf_iff_prefix.1 h;exact hc ⟨r,hr.symm⟩
    have hs:splitS (c :: l)=match splitS l with
     | []=>[[c]]
     | y :: r=>(c :: y) :: r:=by
     rw[splitS]
     all_goals first
      | rfl
      | (rintro t rfl rfl
         exact hc ⟨_,rfl⟩)
    obtain⟨n1,n2⟩:=uj hp;refine⟨λh=>?_,λi h=>?_⟩
    ·rw[hs,h1 (n1 h)]
    ·obtain⟨j,rfl,hj⟩:=n2 i h;rw[hs,h2 j hj];rfl
theorem uU(b:UInt8):∀(k:Nat) (s:List UInt8),Lib.count s [b]=k->Lib.splitK [b] 0 k s=splitL b s
 | 0,s,h=>by
   rcases ng s [b] with e|⟨i,e⟩
   ·exact((lX b s).1 e).symm
   ·rw[Lib.count_hit (by simp) e]at h;omega
 | k+1,s,h=>by
   rcases ng s [b] with e|⟨i,e⟩
   ·rw[Lib.count_miss e]at h;omega
   ·rw[Lib.count_hit (by simp) e]at h;have ih:=uU b k (s.drop (i+1)) (by simp at h;omega);rw[Lib.splitK,(lX b s).2 i e,e,ak (by simp)];simp only[oN,gL,eF,jK,kP];rw[ih]
theorem Ep(b:UInt8)(s:List UInt8):(splitL b s).length=Lib.count s [b]+1:=by
 have:∀(k:Nat) (s:List UInt8),Lib.count s [b]=k->(splitL b s).length=k+1:=by
  intro k
  induction k with
  | zero=>
    intro s h;rcases ng s [b] with e|⟨i,e⟩
    ·rw[(lX b s).1 e];rfl
    ·rw[Lib.count_hit (by simp) e]at h;omega
  | succ k ih=>
    intro s h;rcases ng s [b] with e|⟨i,e⟩
    ·rw[Lib.count_miss e]at h;omega
    ·rw[Lib.count_hit (by simp) e]at h;rw[(lX b s).2 i e,eF,ih _ (by simp at h;omega)]
 exact this _ s rfl
theorem uB(b:UInt8):∀s:List UInt8,(splitL b s).length<=s.length+1
 | []=>by simp[splitL]
 | c :: l=>by
   have:=uB b l
   rw[splitL];split
   ·simp;omega
   ·split
    ·simp
    ·rename_i e;rw[e]at this;simp at this ⊢;omega
theorem tX(b:UInt8):∀s:List UInt8,∀x∈splitL b s,x.length<=s.length
 | [],x,h=>by simp[splitL]at h;subst h;simp
 | c :: l,x,h=>by
   have ih:=tX b l;rw[splitL]at h;split at h
   ·rcases iC.1 h with rfl|h
    ·simp
    ·have:=ih x h;simp;omega
   ·split at h
    ·simp at h;subst h;simp
    ·rename_i y r e;rw[e]at ih;rcases iC.1 h with rfl|h
     ·have:=ih y (by simp);simp;omega
     ·have:=ih x (by simp[h]);simp;omega
def eO(s:List UInt8):List UInt8:=s.takeWhile (· != 32)
def fA(s:List UInt8):List UInt8:=(s.dropWhile (· != 32)).drop 1
theorem yJ:∀s:List UInt8,(Lib.index s [32]=-1->eO s=s/\fA s=[])/\∀i:Nat,Lib.index s [32]=i->eO s=s.take i/\fA s=s.drop (i+1)
 | []=>⟨λ_=>⟨rfl,rfl⟩,λi h=>by simp[Lib.index]at h⟩
 | c :: l=>by
   obtain⟨h1,h2⟩:=yJ l;by_cases hc:c=32
   ·subst hc;have e:Lib.index (32 :: l) [32]=0:=index_hit (by simp);refine⟨λh=>?_,λi h=>?_⟩
    ·rw[e]at h;cases h
    ·rw[e]at h;obtain rfl:i=0:=by omega
     simp[eO,fA]
   ·obtain⟨n1,n2⟩:=uj (c:=c) (l:=l) (sub:=[32]) (by simp[List.isPrefixOf,Ne.symm hc]);have w1:eO (c :: l)=c :: eO l:=by simp[eO,hc]
    have w2:fA (c :: l)=fA l:=by simp[fA,hc]
    refine⟨λh=>?_,λi h=>?_⟩
    ·rw[w1,w2,(h1 (n1 h)).1,(h1 (n1 h)).2];exact⟨rfl,rfl⟩
    ·obtain⟨j,rfl,hj⟩:=n2 i h;rw[w1,w2,(h2 j hj).1,(h2 j hj).2];exact⟨rfl,rfl⟩
theorem NY(s:List UInt8):(Lib.cut s [32]).1=eO s/\(Lib.cut s [32]).2.1=fA s:=by
 rcases ng s [32] with e|⟨i,e⟩
 ·obtain⟨h1,h2⟩:=(yJ s).1 e;unfold Lib.cut;rw[e,ak (by omega),h1,h2];exact⟨rfl,rfl⟩
 ·obtain⟨h1,h2⟩:=(yJ s).2 i e;unfold Lib.cut;rw[e,ah (by omega),h1,h2];exact⟨rfl,rfl⟩
theorem Ku(s:List UInt8):(fA s).length<=s.length:=by
 unfold fA;rw[kU]
 have:=List.Sublist.length_le (List.dropWhile_sublist (l:=s) (· != (32:UInt8)))
 omega
def ku(b:UInt8):Bool:=decide (48<=b.toNat)&&decide (b.toNat<=57)
def lQ(l:List UInt8):Bool:=(l.length==1 || (l.length==2&&l.head? != some 48))&&l.all ku
def dU(l:List UInt8):Option Nat:=if lQ l then some (numOf l) else none
theorem H9(a:UInt8):dU [a]=if ku a then some (a.toNat-48) else none:=by simp[dU,lQ,numOf]
theorem yU(a b:UInt8):dU [a,b]=if a≠48/\ku a=true/\ku b=true then some (10*(a.toNat-48)+(b.toNat-48)) else none:=by
 unfold dU
 have:lQ [a,b]=true↔a≠48/\ku a=true/\ku b=true:=by simp[lQ]
 by_cases h:a≠48/\ku a=true/\ku b=true
 ·rw[ah (this.2 h),ah h];simp[numOf]
 ·rw[ak (λe=>h (this.1 e)),ak h]
theorem wY{l:List UInt8}(h:l.length=0∨3<=l.length):dU l=none:=by
 have:lQ l=false:=by unfold lQ;rw[show (l.length==1)=false by simp;omega,show (l.length==2)=false by simp;omega];rfl
 rw[dU,this];rfl
theorem J6{l:List UInt8}{n:Nat}(h:dU l=some n):n<100/\dh n=l:=by
 match l with
 | []=>cases h
 | [a]=>
   rw[H9]at h;split at h
   ·rename_i hd;cases h;simp only[ku,bK,eG]at hd;refine⟨by omega,?_⟩;unfold dh;rw[ah (by omega)];unfold mW;rw[show 48+(a.toNat-48)=a.toNat by omega];simp
   ·cases h
 | [a,b]=>
   rw[yU]at h;split at h
   ·rename_i hd;obtain⟨h0,h1,h2⟩:=hd;cases h;simp only[ku,bK,eG]at h1 h2;have ha:a.toNat≠48:=λe=>h0 (UInt8.toNat_inj.1 (by rw[e];rfl));refine⟨by omega,?_⟩;unfold dh;rw[ak (by omega)];unfold mW;rw[show 48+(10*(a.toNat-48)+(b.toNat-48))/10=a.toNat by omega,show 48+(10*(a.toNat-48)+(b.toNat-48))%10=b.toNat by omega];simp
   ·cases h
 | a :: b :: c :: r=>rw[wY (.inr (by simp))]at h;cases h
theorem AL(b:UInt8):∀s:List UInt8,joinL [b] (splitL b s)=s
 | []=>rfl
 | c :: l=>by
   have ih:=AL b l;rw[splitL];by_cases hc:c=b
   ·rw[ah hc,fV _ _ _ (Ca b l),ih,hc];rfl
   ·rw[ak hc]
    cases e:splitL b l with
    | nil=>exact absurd e (Ca b l)
    | cons y r=>
      rw[e]at ih;rw[<-ih]
      cases r with
      | nil=>rfl
      | cons z r=>rw[fV [b] (c :: y) (z :: r) (by simp),fV [b] y (z :: r) (by simp)];rfl
theorem KH{s:List UInt8}{t:aF}(h:iK s=some t):eP t=true/\splitL 32 s=gZ t:=by obtain⟨h1,rfl⟩:=qj.1 h;exact⟨h1,vG h1⟩
theorem AA{s:List UInt8}(h:∀t,eP t=true->splitL 32 s≠gZ t):iK s=none:=by
 cases e:iK s with
 | none=>rfl
 | some t=>obtain⟨h1,h2⟩:=KH e;exact absurd h2 (h t h1)
theorem AU{l:List (List UInt8)}{k:Nat}{x:List UInt8}(hk:0<k)(hx:l[k]? =some x)(sep:List UInt8):joinL sep (l.take (k+1))=joinL sep (l.take k)++sep++x:=by
 have hl:=(aS.1 hx).1;rw[aj hx];exact um sep _ _ (λh=>by
  have:=fU List.length h
  rw[ig]at this;simp only[jK]at this
  omega)
theorem wM{l:List (List UInt8)}{x:List UInt8}(hx:l[0]? =some x)(sep:List UInt8):joinL sep (l.take 1)=x:=by
 cases l with
 | nil=>cases hx
 | cons a r=>cases hx;simp[joinL]
theorem Fq{a b c d:UInt8}{r:List UInt8}{v:Int}(hv:∀n,n<100->d :: r=dh n->v=(n:Int)) :
 (jg ⟨if a=119 then 2 else 1,(b.toNat:Int)-48,v⟩=a :: b :: c :: d :: r->jy (a :: b :: c :: d :: r)=some ⟨if a=119 then 2 else 1,(b.toNat:Int)-48,v⟩) /\
 (jg ⟨if a=119 then 2 else 1,(b.toNat:Int)-48,v⟩≠a :: b :: c :: d :: r->jy (a :: b :: c :: d :: r)=none):=by
 constructor
 ·intro h;generalize (⟨if a=119 then 2 else 1,(b.toNat:Int)-48,v⟩:aJ)=o at *;unfold jg at h;split at h
  ·rename_i hk;exact nY.2 ⟨hk,h⟩
  ·cases h
 ·intro h
  cases e:jy (a :: b :: c :: d :: r) with
  | none=>rfl
  | some o=>
    exfalso;obtain⟨hk,he⟩:=nY.1 e;have k1:=jr hk;have k2:=nA hk;have he2:=he;unfold vD at he2;injection he2 with e1 he2;injection he2 with e2 he2;injection he2 with e3 e4;have hb:b.toNat=48+o.key.toNat:=by rw[<-e2];exact mH (by omega)
    have hval:=hv o.value.toNat (by omega) e4.symm;have ho:o=⟨if a=119 then 2 else 1,(b.toNat:Int)-48,v⟩:=by
     refine aJ.ext' ?_ ?_ ?_
     ·rw[<-e1];unfold bu jl;rcases vF hk with q|q<;>rw[q]<;>simp
     ·simp only;omega
     ·simp only;omega
    rw[<-ho,jg,ah hk]at h;exact h he
theorem Dc{l:List UInt8}(h:l.length<4):jy l=none:=EL λo _ e=>by
 have:=fU List.length e
 unfold vD at this;simp only[eF]at this
 have:0<(dh o.value.toNat).length:=by unfold dh;split<;>simp
 omega
def tx(l:List UInt8):ByteArray:=⟨l.toArray⟩
theorem eu(l:List UInt8):(tx l).toList=l:=ByteArray.toList_mk l
theorem Dp(l:List UInt8):(tx l).data.toList=l:=rfl
theorem eZ(l:List UInt8):(tx l).size=l.length:=rfl
theorem Ut(s:ByteArray):tx s.data.toList=s:=rfl
theorem Qo{a b:List UInt8}(h:tx a=tx b):a=b:=by rw[<-eu a,<-eu b,h]
theorem QV(a b:List UInt8):tx a++tx b=tx (a++b):=ByteArray.mk_append_mk a b
theorem dI(a b:List UInt8)(h:a.length+b.length<=9223372036854775807)(w:World):(Op.stringOp .add (tx a) (tx b)).run Tryz.prog w=.ok (.string (tx (a++b))) w:=by rw[run_string_add_sum w (tx a) (tx b) h,QV]
theorem nQ(n:Nat):(dh n).length<=2:=by unfold dh;split<;>simp
def encS(l:List UInt8)(_:Nat):Value:=.string (tx l)
theorem kG:(Tryz.prog.info? 9).map (λi=>(i.zero,i.size,i.bytes))=some (some (.string ⟨#[]⟩),1,16):=by kernel_rfl
theorem JO{E:TypeId}{α:Type}{enc:α->Nat->Value}(w:World)(x y:α):Row E 1 enc w.heap.size (w.alloc (.cells #[enc x 0,enc y 0] E)) (.slice (some ⟨w.heap.size,0,none⟩) 2 2) [x,y]:=
 ⟨rfl,.inr ⟨w.heap.size,2,_,rfl,ay _,dx w _,ay _,by simp[maxLen],rfl,rfl⟩⟩
theorem JB(o:aJ):(vD o).length<=5:=by have:=nQ o.value.toNat;simp[vD];omega
theorem mY(sep:List UInt8)(M:Nat):∀ws:List (List UInt8),(∀w∈ws,w.length<=M)->(joinL sep ws).length<=ws.length*(M+sep.length)
 | [],_=>by simp[joinL]
 | [x],h=>by have:=h x (by simp);simp[joinL];omega
 | x :: y :: r,h=>by have h1:=h x (by simp);have h2:=mY sep M (y :: r) (λw hw=>h w (by simp[hw]));rw[fV sep x (y :: r) (by simp)];simp only[bN,eF,Nat.add_mul]at h2 ⊢;omega
theorem yg{l:List UInt8}{k:Nat}{x:UInt8}(hx:l[k]? =some x)(j:Int)(hj:j=(k:Int))(W:World):(Instr.index 9 (.string (tx l)) (.int .i64 j)).run Tryz.prog W=.ok (.int .u8 (x.toNat:Int)) W:=by
 subst hj;have hl:=(aS.1 hx).1;rw[run_index_string W 9 (tx l) .i64 k Tryz.underlying9,dif_pos ⟨by omega,by rw[eZ];omega⟩];have e:(tx l)[(k:Int).toNat]'(by rw[eZ];omega)=x:=by
  have:=(aS.1 hx).2
  rw[<-this];rfl
 rw[e]
theorem zG(l:List UInt8)(i j:Nat):(tx l).extract i j=tx ((l.take j).drop i):=by
 have h:((tx l).extract i j).data=(tx ((l.take j).drop i)).data:=by rw[ByteArray.data_extract];show (l.toArray).extract i j = _;apply Array.ext';simp[tx,List.extract_eq_drop_take];rw[List.drop_take]
 exact fU ByteArray.mk h
theorem LP(l:List UInt8)(i:Nat):(tx l).extract i (tx l).size=tx (l.drop i):=by rw[zG,eZ,bY]
theorem fG{w:World}{b:Nat}{u0 u1 u2:Value}(x0 x1 x2:Value)(h0:w.cell? ⟨b,0,none⟩=some u0)(h1:w.cell? ⟨b,1,none⟩=some u1)(h2:w.cell? ⟨b,2,none⟩=some u2) :
 (((w.setCell ⟨b,0,none⟩ x0).setCell ⟨b,1,none⟩ x1).setCell ⟨b,2,none⟩ x2).cell? ⟨b,0,none⟩=some x0/\(((w.setCell ⟨b,0,none⟩ x0).setCell ⟨b,1,none⟩ x1).setCell ⟨b,2,none⟩ x2).cell? ⟨b,1,none⟩=some x1/\(((w.setCell ⟨b,0,none⟩ x0).setCell ⟨b,1,none⟩ x1).setCell ⟨b,2,none⟩ x2).cell? ⟨b,2,none⟩=some x2:=by
 have Zl:(⟨b,0,none⟩:Addr)≠⟨b,1,none⟩:=by simp
 have n02:(⟨b,0,none⟩:Addr)≠⟨b,2,none⟩:=by simp
 have n12:(⟨b,1,none⟩:Addr)≠⟨b,2,none⟩:=by simp
 have a0:=dN h0 x0;have a1:=(av Zl x0).trans h1;have a2:=(av n02 x0).trans h2;have b0:=(av Zl.symm x1).trans a0;have b1:=dN a1 x1;have b2:=(av n12 x1).trans a2;exact⟨(av n02.symm x2).trans b0,(av n12.symm x2).trans b1,dN b2 x2⟩
section
open Go.RowKit
end
section
section
variable{W:Nat->Nat}
inductive Path (W:Nat->Nat):Nat->Nat->Prop
 | edge {a b:Nat}:(W a).testBit b=true->Path W a b
 | step {a b c:Nat}:Path W a b->(W b).testBit c=true->Path W a c
theorem Path.trans{a b c:Nat}(h:Path W a b)(k:Path W b c):Path W a c:=by
 induction k with
 | edge e=>exact h.step e
 | step _ e ih=>exact ih.step e
def war(W:Nat->Nat):Nat->Nat->Nat
 | 0,x=>W x
 | k+1,x=>if (war W k x).testBit k=true then war W k x ||| war W k k else war W k x
theorem O7{k x y:Nat}:(war W (k+1) x).testBit y=true↔(war W k x).testBit y=true∨((war W k x).testBit k=true/\(war W k k).testBit y=true):=by
 rw[war];split
 ·rename_i h;rw[Nat.testBit_or,qo];simp[h]
 ·rename_i h;simp[h]
theorem Cw{k x y:Nat}(h:(war W k x).testBit y=true):Path W x y:=by
 induction k generalizing x y with
 | zero=>exact .edge h
 | succ k ih=>
   rcases O7.1 h with h|⟨h1,h2⟩
   ·exact ih h
   ·exact(ih h1).trans (ih h2)
end
end
section
section
variable{es:List Edge}{t:Int}{many s j:Nat}{f:List Int}{e:Edge}{df dt:Int}
end
def rowsOf(es:List Edge)(x:Nat):Nat:=es.foldl (λr e=>if e.iG=(x:Int) then r ||| 2 ^ e.to.toNat else r) 0
theorem FR(es:List Edge)(x y r:Nat):(es.foldl (λr e=>if e.iG=(x:Int) then r ||| 2 ^ e.to.toNat else r) r).testBit y=true↔r.testBit y=true∨∃e∈es,e.iG=(x:Int)/\e.to.toNat=y:=by
 induction es generalizing r with
 | nil=>simp
 | cons e es ih=>
   rw[kL,ih];by_cases h:e.iG=(x:Int)
   ·rw[ah h,Nat.testBit_or,qo,Nat.testBit_two_pow];constructor
    ·rintro ((h1|h1)|⟨e',he',h1⟩)
     ·exact .inl h1
     ·exact .inr ⟨e,by simp,h,by simpa using h1⟩
     ·exact .inr ⟨e',by simp[he'],h1⟩
    ·rintro (h1|⟨e',he',h1,h2⟩)
     ·exact .inl (.inl h1)
     ·rcases iC.1 he' with rfl|he'
      ·exact .inl (.inr (by simpa using h2))
      ·exact .inr ⟨e',he',h1,h2⟩
   ·rw[ak h];constructor
    ·rintro (h1|⟨e',he',h1⟩)
     ·exact .inl h1
     ·exact .inr ⟨e',by simp[he'],h1⟩
    ·rintro (h1|⟨e',he',h1,h2⟩)
     ·exact .inl h1
     ·rcases iC.1 he' with rfl|he'
      ·exact absurd h1 h
      ·exact .inr ⟨e',he',h1,h2⟩
theorem uy{es:List Edge}{x y:Nat}:(rowsOf es x).testBit y=true↔∃e∈es,e.iG=(x:Int)/\e.to.toNat=y:=by unfold rowsOf;rw[FR];simp
end
def edgeOk(many:Nat)(e:Edge):Prop:=(0<=e.iG/\e.iG<many)/\(0<=e.to/\e.to<many)/\e.iG≠e.to/\1<=e.kind/\e.kind<=4
theorem xJ{many:Nat}{B:Nat}(e:Edge)(W:World)(hm:many<=6)(hB:W.cell? ⟨B,0,none⟩=some (.int .i64 (many:Int)))(he:edgeOk many e) :
 Calls Tryz.prog 261 #[.agg #[.int .i64 e.iG,.int .i64 e.to,.int .i64 e.kind],.pointer (some ⟨B,0,none⟩)] W λr w'=>r=.returned (.bool false)/\Ext W w':=by
 obtain⟨h1,h2,h3,h4⟩:=he;have b1:kV e.iG 0 ((many:Int)-1)=true:=cK.2 (by omega);have b2:kV e.to 0 ((many:Int)-1)=true:=cK.2 (by omega);have b3:(e.iG==e.to)=false:=oO.2 h3;have b4:kV e.kind 1 4=true:=cK.2 h4;have hE:Ext W (W.alloc (.cells #[.int .i64 e.iG,.int .i64 e.to,.int .i64 e.kind] 200)):=(af _).alloc _;have cB:=hE.cell hB;have hw:IntKind.i64.wrap ((many:Int)-1)=(many:Int)-1:=jI _ (by omega);have HE:=aa hE;clear h1 h2 h3 h4 hE;go_enter Tryz.func261,Tryz.ntmps261;go_wp2_with (first|(go_at_call 106;refine(bQ _ _ _ _).mono ?_;rw[b1];rintro e w' ⟨rfl,rfl⟩)|(go_at_call 106;refine(bQ _ _ _ _).mono ?_;rw[b2];rintro e w' ⟨rfl,rfl⟩)|(go_at_call 106;refine(bQ _ _ _ _).mono ?_;rw[b4];rintro e w' ⟨rfl,rfl⟩))
 go_returns;exact⟨rfl,HE.out⟩
theorem Bb(args:Array Value)(W:World):(callFunc 261 args).run Tryz.prog W=.ok (.enter 261 args) W:=by kernel_rfl
theorem xC{v:Value}{es:List Edge}(many:Nat)(w:World)(hm:many<=6)(h:aI 3 bL w v es)(hl:es.length<=144)(hok:∀e∈es,edgeOk many e) :
 Calls Tryz.prog 237 #[.int .i64 (many:Int),v] w λr w'=>r=.returned (.bool true)/\Ext w w':=by
 obtain⟨A,c,rfl,_⟩:=id h;have b1:kV (many:Int) 0 6=true:=cK.2 (by omega);have hE:Ext w (w.alloc (.cells #[.int .i64 (many:Int)] 3)):=(af _).alloc _;have cB:(w.alloc (.cells #[.int .i64 (many:Int)] 3)).cell? ⟨w.heap.size,0,none⟩=some (.int .i64 (many:Int)):=az rfl;have hcon:=qO (w.alloc (.cells #[.int .i64 (many:Int)] 3)) 261 #[.pointer (some ⟨w.heap.size,0,none⟩)] (λ_=>false) (h.ext hE) (by omega) Bb (λx hx W hW=>xJ x W hm (hW.cell cB) (hok x hx));rw[show (es.any λ_=>false)=false by simp]at hcon;have HC:=aa hcon;have HE:=aa hE;have hlt:¬(144<(es.length:Int)):=by omega
 clear h hok hcon hE;go_enter Tryz.func237,Tryz.ntmps237;go_wp2_with (first|(go_at_call 106;refine(bQ _ _ _ _).mono ?_;rw[b1];rintro e w' ⟨rfl,rfl⟩)|(go_at_call 260;refine HC.out.mono ?_;rintro e w' ⟨rfl,bb⟩;have B9:=aa (HE.out.trans bb)))
 go_returns;exact⟨rfl,B9.out⟩
theorem CW{h:List aF}{n:Int}(hn:0<=n)(hd:isDone h n=true):n<h.length:=by
 unfold isDone at hd
 cases ht:h[n.toNat]? with
 | none=>rw[ht]at hd;simp at hd
 | some t=>have:=(aS.1 ht).1;omega
theorem vZ{h:List aF}{f t k:Int}(hk:1<=k/\k<=4){e:Edge}(he:e∈gU h f t k):edgeOk h.length e:=by
 unfold gU at he;split at he;case isFalse=>cases he
 rename_i hc;simp at he;subst he;exact⟨⟨hc.1,CW hc.1 hc.2.2.2.1⟩,⟨hc.2.1,CW hc.2.1 hc.2.2.2.2⟩,hc.2.2.1,hk⟩
theorem Gg{h:List aF}{os:List (List Int)}{e:Edge}(he:e∈aX h os):edgeOk h.length e:=by
 unfold aX at he;rcases iR.1 he with h1|h1
 ·obtain⟨key,_,h2⟩:=List.mem_flatMap.1 h1;unfold chainTo at h2;obtain⟨i,_,h3⟩:=List.mem_flatMap.1 h2;exact vZ (by omega) h3
 ·obtain⟨n,_,h2⟩:=List.mem_flatMap.1 h1;obtain⟨o,_,h3⟩:=List.mem_flatMap.1 h2;unfold fJ at h3;rcases iR.1 h3 with h4|h4
  ·exact vZ (by omega) h4
  ·unfold overOf at h4;split at h4
   ·cases h4
   ·split at h4
    ·exact vZ (by omega) h4
    ·cases h4
theorem Km{h:List aF}{os:List (List Int)}(hok:aH h=true)(h6:∀k:Nat,(os.getD k []).length<=6):(aX h os).length<=90:=by
 rw[raw_eq,bN];have h1:=mM (h:=h) h6 3;have h2:=rM (h:=h) (os:=os) (L:=6) (λn=>by
  unfold opsOf
  cases hn:h[n]? with
  | none=>simp
  | some t=>have:=eY (dW hok (aN hn));simpa using this) (aB h).length
 have h3:=jA h;have h4:=aT hok;omega
theorem MU{h:List aF}{os:List (List Int)}{ds:List Edge}(hok:aH h=true)(ho:rE h os)(hs:uL (aX h os) ds):ds.length<=144/\∀e∈ds,edgeOk h.length e:=by
 have h6:∀k:Nat,(os.getD k []).length<=6:=λk=>by
  cases hk:os[k]? with
  | none=>simp[List.getD,hk]
  | some o=>simp only[List.getD,hk,Option.getD_some];rw[(ho.2 k o hk).length_eq];have:=jd h (k:Int);have:=aT hok;omega
 have:=Km (h:=h) (os:=os) hok h6
 exact⟨aR hs.2 (by omega),λe he=>Gg ((hs.1 e).1 he)⟩
def Words(w:World)(g N:Nat)(f:Nat->Nat):Prop:=kK w g N/\∀o,o<N->w.cell? ⟨g,o,none⟩=some (.int .u64 (f o:Int))
theorem Words.ext{w w':World}{g N:Nat}{f:Nat->Nat}(h:Words w g N f)(hb:Ext w w'):Words w' g N f:=⟨h.1.ext hb,λo ho=>hb.cell (h.2 o ho)⟩
theorem Words.set{w:World}{g N:Nat}{f f':Nat->Nat}{j:Nat}(h:Words w g N f)(hj:j<N)(hf:∀o,o≠j->f' o=f o):Words (w.setCell ⟨g,j,none⟩ (.int .u64 (f' j:Int))) g N f':=
 ⟨h.1.set _ _,λo ho=>by
  by_cases e:o=j
  ·subst e;exact bT h.1 hj _
  ·rw[av (by intro e';injection e' with _ e' _;omega),hf o e];exact h.2 o ho⟩
theorem Words.congr{w:World}{g N:Nat}{f f':Nat->Nat}(h:Words w g N f)(e:∀o,o<N->f' o=f o):Words w g N f':=⟨h.1,λo ho=>by rw[e o ho];exact h.2 o ho⟩
def tu(f:Nat->Nat):Value:=.agg #[.int .u64 (f 0:Int),.int .u64 (f 1:Int),.int .u64 (f 2:Int),.int .u64 (f 3:Int),.int .u64 (f 4:Int),.int .u64 (f 5:Int)]
theorem pF(w:World)(f:Nat->Nat)(T:TypeId):Words (w.alloc (.cells #[.int .u64 (f 0:Int),.int .u64 (f 1:Int),.int .u64 (f 2:Int),.int .u64 (f 3:Int),.int .u64 (f 4:Int),.int .u64 (f 5:Int)] T)) w.heap.size 6 f:=by
 refine⟨kK.made w #[.int .u64 (f 0:Int),.int .u64 (f 1:Int),.int .u64 (f 2:Int),.int .u64 (f 3:Int),.int .u64 (f 4:Int),.int .u64 (f 5:Int)] T,λo ho=>?_⟩
 match o,ho with
 | 0,_=>exact(cell_of_row _ _ _ _ T (0,0) (dx w _)).trans rfl
 | 1,_=>exact(cell_of_row _ _ _ _ T (0,0) (dx w _)).trans rfl
 | 2,_=>exact(cell_of_row _ _ _ _ T (0,0) (dx w _)).trans rfl
 | 3,_=>exact(cell_of_row _ _ _ _ T (0,0) (dx w _)).trans rfl
 | 4,_=>exact(cell_of_row _ _ _ _ T (0,0) (dx w _)).trans rfl
 | 5,_=>exact(cell_of_row _ _ _ _ T (0,0) (dx w _)).trans rfl
theorem IV{f:Nat->Nat}(hf:∀o,f o<64)(k x:Nat):war f k x<64:=by
 induction k generalizing x with
 | zero=>exact hf x
 | succ k ih=>
   rw[war];split
   ·exact Nat.or_lt_two_pow (n:=6) (ih x) (ih k)
   ·exact ih x
theorem Nt(f:Nat->Nat)(k:Nat):war f (k+1) k=war f k k:=by
 rw[war];split
 ·simp
 ·rfl
def sG(f:Nat->Nat)(k i x:Nat):Nat:=if x<i then war f (k+1) x else war f k x
theorem Rk(f:Nat->Nat)(k i:Nat):sG f k i k=war f k k:=by
 unfold sG;split
 ·exact Nt f k
 ·rfl
theorem Ob(f:Nat->Nat)(k i:Nat):sG f k i i=war f k i:=by unfold sG;rw[ak (by omega)]
theorem KR(f:Nat->Nat)(k i:Nat):sG f k (i+1) i=if (war f k i).testBit k=true then war f k i ||| war f k k else war f k i:=by unfold sG;rw[ah (by omega),war]
theorem AZ(f:Nat->Nat)(k i x:Nat)(h:x≠i):sG f k (i+1) x=sG f k i x:=by
 unfold sG;by_cases h1:x<i
 ·rw[ah h1,ah (by omega)]
 ·rw[ak h1,ak (by omega)]
theorem JH(f:Nat->Nat)(i j:Nat)(w:World)(hi:i<6)(hj:j<6)(hf:∀o,f o<64) :
 Calls Tryz.prog 241 #[tu f,.int .i64 (i:Int),.int .i64 (j:Int)] w λe w'=>e=.returned (.bool ((f i).testBit j))/\Ext w w':=by
 have hW:=(pF w f 241).2 i hi;have i0:(0:Int)<=(i:Int):=by omega
 have i1:(i:Int)<6:=by omega
 have hfi:=hf i;have hbit:=DJ (f i) j (by omega);obtain⟨t,ht⟩:∃t,(f i).testBit j=t:=⟨_,rfl⟩;rw[ht]at hbit ⊢;clear ht;obtain⟨n,hn⟩:∃n,f i=n:=⟨_,rfl⟩;rw[hn]at hbit hW;have Uv:n<64:=by omega
 clear hn hfi hf;unfold tu
 cases t with
 | true=>
   rw[ah rfl]at hbit;go_enter Tryz.func241,Tryz.ntmps241;go_wp2;go_returns;exact⟨rfl,(af _).alloc _⟩
 | false=>
   rw[ak (by decide)]at hbit;go_enter Tryz.func241,Tryz.ntmps241;go_wp2;go_returns;exact⟨rfl,(af _).alloc _⟩
theorem Cq(f:Nat->Nat)(w:World)(hf:∀o,f o<64) :
 Calls Tryz.prog 240 #[tu f] w λe w'=>e=.returned (tu (war f 6))/\Ext w w':=by
 have HF:=aa (λk x=>IV hf k x);have hz:=(pF w f 241).ext ((af (w.alloc (.cells #[.int .u64 (f 0:Int),.int .u64 (f 1:Int),.int .u64 (f 2:Int),.int .u64 (f 3:Int),.int .u64 (f 4:Int),.int .u64 (f 5:Int)] 241))).alloc (.cells #[.int .u64 0,.int .u64 0,.int .u64 0,.int .u64 0,.int .u64 0,.int .u64 0] 241));have HZ:=aa hz;have hb2:=kK.made (w.alloc (.cells #[.int .u64 (f 0:Int),.int .u64 (f 1:Int),.int .u64 (f 2:Int),.int .u64 (f 3:Int),.int .u64 (f 4:Int),.int .u64 (f 5:Int)] 241)) #[.int .u64 0,.int .u64 0,.int .u64 0,.int .u64 0,.int .u64 0,.int .u64 0] 241;rw[show (w.alloc (.cells #[.int .u64 (f 0:Int),.int .u64 (f 1:Int),.int .u64 (f 2:Int),.int .u64 (f 3:Int),.int .u64 (f 4:Int),.int .u64 (f 5:Int)] 241)).heap.size=w.heap.size+1 from by simp]at hb2;have HB2:=aa hb2;clear hz hb2 hf;unfold tu;go_enter Tryz.func240,Tryz.ntmps240;go_wp2;go_loopw [5] (λi wr=>Ext w wr/\∃k:Nat,k<=6/\i=.int .i64 k/\Hid (kK wr (w.heap.size+1) 6/\Words wr w.heap.size 6 (war f k))) (λi _=>6-(intOf i).toNat)
 case atStart=>exact⟨((af _).alloc _).alloc _,0,by omega,rfl,HB2.out,HZ.out⟩
 case round=>
  clear HZ HB2;obtain⟨hb,k,hk,rfl,HW⟩:=hrel;by_cases hlt:k<6
  ·have hkd:decide ((k:Int)<6)=true:=by simp;omega
   have k0:(0:Int)<=(k:Int):=by omega
   have k1:(k:Int)<6:=by omega
   go_wp2;go_loopw [8] (λi wr=>Ext w wr/\∃q:Nat,q<=6/\i=.int .i64 q/\Hid (kK wr (w.heap.size+1) 6/\Words wr w.heap.size 6 (sG f k q))) (λi _=>6-(intOf i).toNat)
   case atStart=>exact⟨hb,0,by omega,rfl,HW.out.1,HW.out.2.congr λo _=>by unfold sG;rw[ak (by omega)]⟩
   case round=>
    clear HW hb;obtain⟨hb,q,hq,rfl,HI⟩:=hrel;by_cases Wj:q<6
    ·have q0:(0:Int)<=(q:Int):=by omega
     have q1:(q:Int)<6:=by omega
     have hqd:decide ((q:Int)<6)=true:=by simp;omega
     have cq:=HI.out.2.2 q Wj;rw[Ob]at cq;have ck:=HI.out.2.2 k hlt;rw[Rk]at ck;have HN:=aa (KR f k q);have Uv:=HF.out k q;have Sw:=HF.out k k;obtain⟨n,hn⟩:∃n,war f k q=n:=⟨_,rfl⟩;obtain⟨m,hm⟩:∃m,war f k k=m:=⟨_,rfl⟩;have Yl:=HN.out;rw[hn]at cq Uv;rw[hm]at ck Sw;rw[hn,hm]at Yl;have lZ:=aa Yl;have hbit:=DJ n k (by omega);clear HN Yl hn hm;by_cases ht:n.testBit k=true
     ·rw[ah ht]at hbit;have hv:Hid (sG f k (q+1) q=n ||| m):=by show _ = _;rw[lZ.out,ah ht]
      have hor:=u64_or n m (by omega) (by omega);have hfr:=HI.out.2.1.free q;have u0:({ wr with drawn:=wr.drawn+1 }:World).cell? ⟨w.heap.size,q,none⟩=some (.int .u64 (n:Int)):=cq;have u1:({ wr with drawn:=wr.drawn+1 }:World).cell? ⟨w.heap.size,k,none⟩=some (.int .u64 (m:Int)):=ck;clear ht;go_wp2;go_still_tail 7,(by kernel_rfl)
      change wpList _ _ _ _ _ wr.drew;clear u0 u1;go_wp2;have X:=(af wr).drew;have hW:=(HI.out.2.ext X).set (j:=q) (f':=sG f k (q+1)) Wj (λo ho=>AZ f k q o ho);rw[hv.out]at hW;have NT:=aa hW;clear hW;go_roundw;case rel=>exact⟨(hb.trans X).setCell (ay _) _,q+1,by omega,by go_num,(HI.out.1.ext X).set _ _,NT.out⟩
      case measure=>simp[intOf];omega
     ·rw[ak ht]at hbit;have hv:Hid (sG f k (q+1) q=n):=by show _ = _;rw[lZ.out,ak ht]
      have HC:Hid (Words wr w.heap.size 6 (sG f k (q+1))):=⟨HI.out.2.1,λo ho=>by
       by_cases e:o=q
       ·subst e;rw[hv.out];exact cq
       ·rw[AZ f k q o e];exact HI.out.2.2 o ho⟩
      clear ht;go_wp2;go_roundw;case rel=>exact⟨hb,q+1,by omega,by go_num,HI.out.1,HC.out⟩
      case measure=>simp[intOf];omega
    ·obtain rfl:q=6:=by omega
     go_wp2;go_roundw;case rel=>exact⟨hb,k+1,by omega,by go_num,HI.out.1,HI.out.2.congr λo ho=>by unfold sG;rw[ah (by omega)]⟩
     case measure=>simp[intOf];omega
  ·obtain rfl:k=6:=by omega
   have hA:=aa HW.out.1;have w0:=HW.out.2.2 0 (by omega);have w1:=HW.out.2.2 1 (by omega);have w2:=HW.out.2.2 2 (by omega);have w3:=HW.out.2.2 3 (by omega);have w4:=HW.out.2.2 4 (by omega);have w5:=HW.out.2.2 5 (by omega);obtain⟨g,hg⟩:∃g,war f 6=g:=⟨_,rfl⟩;have X7:=aa hg;rw[hg]at w0 w1 w2 w3 w4 w5;clear hg;obtain⟨y0,z0⟩:=hA.out.cell (j:=0) (by omega);obtain⟨y1,z1⟩:=hA.out.cell (j:=1) (by omega);obtain⟨y2,z2⟩:=hA.out.cell (j:=2) (by omega);obtain⟨y3,z3⟩:=hA.out.cell (j:=3) (by omega);obtain⟨y4,z4⟩:=hA.out.cell (j:=4) (by omega);obtain⟨y5,z5⟩:=hA.out.cell (j:=5) (by omega);have s0:=bT hA.out (j:=0) (by omega) (.int .u64 (g 0:Nat));have hA1:=aa (hA.out.set ⟨w.heap.size+1,0,none⟩ (.int .u64 (g 0:Nat)));have s1:=bT hA1.out (j:=1) (by omega) (.int .u64 (g 1:Nat));have hA2:=aa (hA1.out.set ⟨w.heap.size+1,1,none⟩ (.int .u64 (g 1:Nat)));have s2:=bT hA2.out (j:=2) (by omega) (.int .u64 (g 2:Nat));have hA3:=aa (hA2.out.set ⟨w.heap.size+1,2,none⟩ (.int .u64 (g 2:Nat)));have s3:=bT hA3.out (j:=3) (by omega) (.int .u64 (g 3:Nat));have Qd:=aa (hA3.out.set ⟨w.heap.size+1,3,none⟩ (.int .u64 (g 3:Nat)));have s4:=bT Qd.out (j:=4) (by omega) (.int .u64 (g 4:Nat));have Yr:=aa (Qd.out.set ⟨w.heap.size+1,4,none⟩ (.int .u64 (g 4:Nat)));have s5:=bT Yr.out (j:=5) (by omega) (.int .u64 (g 5:Nat));have f0:=hA.out.free 0;have f1:=hA.out.free 1;have f2:=hA.out.free 2;have f3:=hA.out.free 3;have f4:=hA.out.free 4;have f5:=hA.out.free 5;go_wp2;refine bodyPost_ret (v:=tu g) (by simp[results,Tryz.results240,go_sem,s0,s1,s2,s3,s4,s5,tu]) rfl ?_;exact⟨by rw[X7.out];rfl,(((((hb.setCell (oq _) _).setCell (oq _) _).setCell (oq _) _).setCell (oq _) _).setCell (oq _) _).setCell (oq _) _⟩
theorem I5(f:Nat->Nat)(w:World)(hf:∀o,f o<64) :
 Calls Tryz.prog 239 #[tu f] w λe w'=>e=.returned (.bool ((List.range 6).any λi=>(war f 6 i).testBit i))/\Ext w w':=by
 have HF:=aa (λk x=>IV hf k x);have ZY:=aa hf;obtain⟨R,hR⟩:∃R,((List.range 6).any λi=>(war f 6 i).testBit i)=R:=⟨_,rfl⟩;rw[hR];have HR:=aa hR;clear hR hf;unfold tu;go_enter Tryz.func239,Tryz.ntmps239;go_wp2_with fail
 refine(Cq f _ ZY.out).mono ?_
 rintro e w1 ⟨rfl,b1⟩;have HG:=aa (λx=>HF.out 6 x);obtain⟨g,hg⟩:∃g,war f 6=g:=⟨_,rfl⟩;have hR:=HR.out;have hG:=HG.out;rw[hg]at hR hG ⊢;have HR2:=aa hR;have HG2:=aa hG;clear hg HR HG hR hG HF ZY;unfold tu;have HZ:=aa (pF w1 g 241);have hb:=((af w).alloc (.cells #[.int .u64 (f 0:Int),.int .u64 (f 1:Int),.int .u64 (f 2:Int),.int .u64 (f 3:Int),.int .u64 (f 4:Int),.int .u64 (f 5:Int)] 241)).trans b1;clear b1;go_wp2;go_loopw [7] (λi wr=>Ext w wr/\∃k:Nat,k<=6/\i=.int .i64 k/\Hid (Words wr w1.heap.size 6 g)/\Hid (∀i,i<k->(g i).testBit i=false)) (λi _=>6-(intOf i).toNat)
 case atStart=>exact⟨hb.alloc _,0,by omega,rfl,HZ.out,λ_ h=>absurd h (oF _)⟩
 case round=>
  clear HZ hb;obtain⟨hb,k,hk,rfl,HW,HK⟩:=hrel;by_cases hlt:k<6
  ·have hkd:decide ((k:Int)<6)=true:=by simp;omega
   have c0:=HW.out.2 0 (by omega);have c1:=HW.out.2 1 (by omega);have c2:=HW.out.2 2 (by omega);have c3:=HW.out.2 3 (by omega);have c4:=HW.out.2 4 (by omega);have c5:=HW.out.2 5 (by omega);obtain⟨t,ht⟩:∃t,(g k).testBit k=t:=⟨_,rfl⟩;have HT:=aa ht;clear ht;go_wp2_with fail
   refine(JH g k k _ hlt hlt HG2.out).mono ?_
   rw[HT.out];rintro e w2 ⟨rfl,b2⟩
   cases t with
   | true=>
     have hf:Hid (true=R):=by show _ = _;rw[<-HR2.out];symm;rw[gN];exact⟨k,by simpa using hlt,HT.out⟩
     go_wp2;go_returns;exact⟨aU hf.out,hb.trans b2⟩
   | false=>
     have HW2:=aa (HW.out.ext b2);go_wp2;go_roundw;case rel=>exact⟨hb.trans b2,k+1,by omega,by go_num,HW2.out,λi hi=>if e:i=k then e▸HT.out else HK.out i (by omega)⟩
     case measure=>simp[intOf];omega
  ·obtain rfl:k=6:=by omega
   have hf:Hid (false=R):=by
    show _ = _;rw[<-HR2.out];symm;rw[List.any_eq_false];intro o ho;rw[HK.out o (by simpa using ho)]
    decide
   go_wp2;go_returns;exact⟨aU hf.out,hb⟩
theorem Lj(xs:List Int)(v:Int):decide (0<=idxOf xs v)=xs.contains v:=by
 unfold idxOf
 cases hf:xs.findIdx? (·==v) with
 | none=>
   rw[List.findIdx?_eq_none_iff]at hf;simp;intro h
   have:=hf v h
   simp at this
 | some i=>
   have:=List.findIdx?_eq_some_iff_getElem.1 hf
   obtain⟨hi,hx,_⟩:=this;simp at hx;simp;rw[<-hx];exact List.getElem_mem hi
theorem oV{u:Value}{xs:List Int}(v:Int)(w:World)(h:mD encI w u xs)(hlen:xs.length<=2097152) :
 Calls Tryz.prog 262 #[u,.int .i64 v] w λe w'=>e=.returned (.bool (xs.contains v))/\Ext w w':=by
 have HM:=aa (Lj xs v);have HI:=aa (ou v w h hlen);obtain⟨A,c,rfl,_⟩:=id h;obtain⟨z,hz⟩:∃z,idxOf xs v=z:=⟨_,rfl⟩;rw[hz]at HM HI;clear h hz;go_enter Tryz.func262,Tryz.ntmps262;go_wp2_with fail
 refine HI.out.mono ?_;rintro e w1 ⟨rfl,b1⟩;go_wp2;go_returns;exact⟨aU HM.out,b1⟩
def bU(es:List Edge)(ks:List Int):List Edge:=es.filter λe=>ks.contains e.kind
theorem E9(l:List Edge)(e:Edge)(x:Nat):rowsOf (l++[e]) x=if e.iG=(x:Int) then rowsOf l x ||| 2 ^ e.to.toNat else rowsOf l x:=by unfold rowsOf;rw[tO];rfl
theorem Dm{es:List Edge}{ks:List Int}{k:Nat}{e:Edge}(he:es[k]? =some e):bU (es.take (k+1)) ks=bU (es.take k) ks++if ks.contains e.kind=true then [e] else []:=by unfold bU;rw[aj he,yl];congr 1;rw[uk];simp only[List.filter_nil]
theorem Cv{es:List Edge}(h:∀e∈es,edgeOk 6 e)(x:Nat):rowsOf es x<64:=by
 unfold rowsOf
 have:∀(l:List Edge) (r:Nat),(∀e∈l,edgeOk 6 e)->r<64->l.foldl (λr e=>if e.iG=(x:Int) then r ||| 2 ^ e.to.toNat else r) r<64:=by
  intro l
  induction l with
  | nil=>intro r _ hr;exact hr
  | cons e l ih=>
    intro r hl hr;rw[kL];refine ih _ (λe' h'=>hl e' (List.mem_cons_of_mem _ h')) ?_;split
    ·have he:=hl e (List.mem_cons_self);exact Nat.or_lt_two_pow (n:=6) hr (Nat.pow_lt_pow_right (by omega) (by have:=he.2.1;omega))
    ·exact hr
 exact this es 0 h (by omega)
def JE(es:List Edge):Bool:=(List.range 6).any λi=>(war (rowsOf es) 6 i).testBit i
def oK(ds:List Edge)(e:Edge):Bool:=e.kind==3&&(war (rowsOf (bU ds [1,2])) 6 e.to.toNat).testBit e.iG.toNat
def dG(ds:List Edge)(kind:Int):Bool:=
 if kind=1 then JE (bU ds [1]) else if kind=2 then JE (bU ds [1,2]) else if kind=3 then ds.any (oK ds) else if kind=4 then JE (bU ds [1,2,3]) else false
theorem wL{es es':List Edge}(h:∀x,x∈es↔x∈es'):rowsOf es=rowsOf es':=by funext x;apply Nat.eq_of_testBit_eq;intro y;rw[lH,uy,uy];simp[h]
theorem mK{es es':List Edge}(h:∀x,x∈es↔x∈es')(ks:List Int):∀x,x∈bU es ks↔x∈bU es' ks:=λx=>by unfold bU;simp[lC,h]
theorem zO{es es':List Edge}(h:∀x,x∈es↔x∈es'):JE es=JE es':=by unfold JE;rw[wL h]
theorem CX{es es':List Edge}(h:∀x,x∈es↔x∈es')(k:Int):dG es k=dG es' k:=by
 unfold dG;rw[zO (mK h [1]),zO (mK h [1,2]),zO (mK h [1,2,3])]
 have:es.any (oK es)=es'.any (oK es'):=by unfold oK;rw[wL (mK h [1,2]),lH,gN,gN];simp only[h]
 rw[this]
def lI(ds:List Edge)(l:Nat):Bool:=(List.range l).any λk=>dG ds ((k:Int)+1)
def gJ(h:List aF)(ds:List Edge)(l:Nat):Bool:=!lI ds l&&(decide (l<2) || gP h)
def levelFrom(h:List aF)(ds:List Edge):Nat->Nat
 | 0=>0
 | l+1=>if gJ h ds (l+1) then l+1 else levelFrom h ds l
def gq(h:List aF)(ds:List Edge):Nat:=levelFrom h ds 4
theorem lW(ds:List Edge)(l:Nat):lI ds (l+1)=(lI ds l || dG ds ((l:Int)+1)):=by unfold lI;rw[kD,List.any_append];simp
theorem Lm{ds:List Edge}{k l:Nat}(hk:k<=l)(h:lI ds k=true):lI ds l=true:=by unfold lI at h ⊢;rw[gN]at h ⊢;obtain⟨x,hx,hy⟩:=h;exact⟨x,by rw[j5]at hx ⊢;omega,hy⟩
theorem Df(h:List aF)(ds:List Edge):gJ h ds 0=true:=by simp[gJ,lI]
theorem oI{h:List aF}{ds:List Edge}{l:Nat}(ha:gJ h ds l=true):levelFrom h ds l=l:=by
 cases l with
 | zero=>rfl
 | succ l=>rw[levelFrom,ah ha]
theorem qK{h:List aF}{ds:List Edge}{l:Nat}(ha:gJ h ds (l+1)=false):levelFrom h ds (l+1)=levelFrom h ds l:=by rw[levelFrom,ha,ak (by decide)]
theorem uJ(h:List aF)(ds:List Edge):∀l,levelFrom h ds l<=l
 | 0=>ay _
 | l+1=>by
   have:=uJ h ds l
   rw[levelFrom]
   split<;>omega
theorem Eb{h:List aF}{es es':List Edge}(he:∀x,x∈es↔x∈es')(l:Nat):gJ h es l=gJ h es' l:=by unfold gJ lI;simp only[CX he]
theorem FI{h:List aF}{es es':List Edge}(he:∀x,x∈es↔x∈es'):gq h es=gq h es':=by simp only[gq,levelFrom,Eb he]
theorem vL(h:List aF)(ds:List Edge):gq h ds<=4:=uJ h ds 4
def jL(h:List aF)(l:List (List (List Int)))(m:Nat):Int:=(l.take m).foldl (λb os=>max b (gq h (aX h os):Int)) (-1)
def nN(h:List aF):Int:=jL h (gD h) (gD h).length
theorem EZ{h:List aF}{l:List (List (List Int))}{m:Nat}{os:List (List Int)}(ho:l[m]? =some os):jL h l (m+1)=max (jL h l m) (gq h (aX h os):Int):=by unfold jL;rw[aj ho,tO];rfl
theorem Kc(h:List aF)(l:List (List (List Int)))(m:Nat):-1<=jL h l m/\jL h l m<=4:=by
 unfold jL
 have:∀(l:List (List (List Int))) (b:Int),-1<=b/\b<=4->-1<=l.foldl (λb os=>max b (gq h (aX h os):Int)) b/\l.foldl (λb os=>max b (gq h (aX h os):Int)) b<=4:=by
  intro l
  induction l with
  | nil=>intro b hb;exact hb
  | cons os l ih=>
    intro b hb;rw[kL]
    have:=vL h (aX h os)
    exact ih _ ⟨by omega,by omega⟩
 exact this _ _ ⟨by omega,by omega⟩
theorem Jf{many:Nat}(hm:many<=6){e:Edge}(h:edgeOk many e):edgeOk 6 e:=⟨⟨h.1.1,by have:=h.1.2;omega⟩,⟨h.2.1.1,by have:=h.2.1.2;omega⟩,h.2.2⟩
def dV(h:List aF):List UInt8:=if nN h<0 then Ev else levL (nN h).toNat
def tellSerialR(h:List aF):List UInt8:=match fQ h with
 | none=>Ev
 | some ns=>QJ (numsL (ns.map λ(n:Nat)=>(n:Int)))
def rV(h:List aF):List UInt8:=QJ (FW h)
theorem Li(h:List aF)(l:List (List (List Int))):∀m,-1<=jL h l m/\jL h l m<=4:=λm=>by
 unfold jL;generalize l.take m=l;have key:∀(l:List (List (List Int))) (b:Int),-1<=b/\b<=4->-1<=l.foldl (λb os=>max b (gq h (aX h os):Int)) b/\l.foldl (λb os=>max b (gq h (aX h os):Int)) b<=4:=by
  intro l
  induction l with
  | nil=>intro b hb;exact hb
  | cons x l ih=>
    intro b hb;rw[kL];refine ih _ ?_
    have:=vL h (aX h x)
    omega
 exact key l (-1) (by omega)
theorem FZ(h:List aF):-1<=nN h/\nN h<=4:=Li h _ _
theorem Jv(h:List aF)(all:List Nat):∀(f:Nat) (s:jk) (order r:List Nat),dfs h all f s order=some r->r.length=order.length+f/\∀x∈r,x∈order∨x∈all
 | 0,s,order,r,e=>by cases e;exact⟨rfl,λx hx=>.inl hx⟩
 | f+1,s,order,r,e=>by
   rw[dfs]at e;obtain⟨n,hn,e⟩:=List.exists_of_findSome?_eq_some e;split at e
   ·cases e
   ·obtain⟨s',_,e⟩:=Option.bind_eq_some_iff.1 e;obtain⟨h1,h2⟩:=Jv h all f s' _ r e;refine⟨by rw[h1,bN];simp;omega,λx hx=>?_⟩;rcases h2 x hx with h3|h3
    ·rcases iR.1 h3 with h4|h4
     ·exact .inl h4
     ·simp at h4;subst h4;exact .inr hn
    ·exact .inr h3
theorem Af{h:List aF}{r:List Nat}(e:fQ h=some r):r.length<=h.length/\∀x∈r,x<h.length:=by
 obtain⟨h1,h2⟩:=Jv h _ _ _ _ _ e;refine⟨?_,λx hx=>?_⟩
 ·rw[h1]
  have:(aB h).length<=(List.range h.length).length:=zM _ _
  simpa using this
 ·rcases h2 x hx with h3|h3
  ·cases h3
  ·have:=(lC.1 h3).1
   simpa using this
def kN:List UInt8:=[108,101,118,101,108]
def kS:List UInt8:=[115,101,114,105,97,108]
def rA:List UInt8:=[116,101,120,116]
def GY:List UInt8:=[112,117,116]
def pV:List UInt8:=[114,117,110]
def EN:List UInt8:=[100,114,111,112]
noncomputable def putR (h:List aF) (r:List UInt8):List aF × List UInt8:=match iK r with
 | some t=>if aH (h++[t])=true then (h++[t],Jo) else (h,Ev)
 | none=>(h,Ev)
noncomputable def runD (h:List aF) (r:List UInt8):List aF × List UInt8:=match dO r with
 | some p=>(jJ p,Jo)
 | none=>(h,Ev)
def Cz(h:List aF)(n:Nat):List aF × List UInt8:=if n<h.length then (mq h n,Jo) else (h,Ev)
noncomputable def deskR (h:List aF) (s:List UInt8):List aF × List UInt8:=
 if s=kN then (h,dV h) else if s=kS then (h,tellSerialR h) else if s=rA then (h,rV h)
 else if eO s=GY/\fA s≠[] then putR h (fA s)
 else if eO s=pV/\fA s≠[] then runD h (fA s)
 else if eO s=EN then match dU (fA s) with
  | some n=>Cz h n
  | none=>(h,CV)
 else (h,CV)
theorem MX{s:List UInt8}:(s=kN->eO s=kN)/\(s=kS->eO s=kS)/\(s=rA->eO s=rA):=by refine⟨?_,?_,?_⟩<;>(rintro rfl;decide)
theorem Da{s:List UInt8}(h:eO s=GY∨eO s=pV∨eO s=EN):s≠kN/\s≠kS/\s≠rA:=by
 obtain⟨h1,h2,h3⟩:=MX (s:=s);refine⟨λe=>?_,λe=>?_,λe=>?_⟩
 ·rw[h1 e]at h;revert h;decide
 ·rw[h2 e]at h;revert h;decide
 ·rw[h3 e]at h;revert h;decide
theorem Lc{h:List aF}{s:List UInt8}(hw:eO s=GY)(hr:fA s≠[]):deskR h s=putR h (fA s):=by obtain⟨h1,h2,h3⟩:=Da (.inl hw);rw[deskR,ak h1,ak h2,ak h3,ah ⟨hw,hr⟩]
theorem CU{h:List aF}{s:List UInt8}(hw:eO s=pV)(hr:fA s≠[]):deskR h s=runD h (fA s):=by obtain⟨h1,h2,h3⟩:=Da (.inr (.inl hw));rw[deskR,ak h1,ak h2,ak h3,ak (λe=>by rw[hw]at e;exact absurd e.1 (by decide)),ah ⟨hw,hr⟩]
theorem G5{h:List aF}{s:List UInt8}{n:Nat}(hw:eO s=EN)(hr:dU (fA s)=some n):deskR h s=Cz h n:=by obtain⟨h1,h2,h3⟩:=Da (.inr (.inr hw));rw[deskR,ak h1,ak h2,ak h3,ak (λe=>by rw[hw]at e;exact absurd e.1 (by decide)),ak (λe=>by rw[hw]at e;exact absurd e.1 (by decide)),ah hw,hr]
theorem wV(h:List aF):deskR h kN=(h,dV h):=ah rfl
theorem DL(h:List aF):deskR h kS=(h,tellSerialR h):=by rw[deskR,ak (by decide),ah rfl]
theorem Il(h:List aF):deskR h rA=(h,rV h):=by rw[deskR,ak (by decide),ak (by decide),ah rfl]
theorem tJ{h:List aF}{s:List UInt8}(h1:s≠kN)(h2:s≠kS)(h3:s≠rA)(h4:¬(eO s=GY/\fA s≠[]))(h5:¬(eO s=pV/\fA s≠[]))(h6:eO s=EN->dU (fA s)=none):deskR h s=(h,CV):=by
 rw[deskR,ak h1,ak h2,ak h3,ak h4,ak h5];split
 ·rename_i hw;rw[h6 hw]
 ·rfl
theorem Pg{h:List aF}(hok:aH h=true)(r:List UInt8):aH (putR h r).1=true:=by
 unfold putR;split
 ·split
  ·rename_i h';exact h'
  ·exact hok
 ·exact hok
theorem OW{h:List aF}(hok:aH h=true)(r:List UInt8):aH (runD h r).1=true:=by
 unfold runD;split
 ·rename_i p e;exact p8 (je.1 e).1
 ·exact hok
theorem NH{h:List aF}(hok:aH h=true)(n:Nat):aH (Cz h n).1=true:=by
 unfold Cz;split
 ·exact Ak hok n
 ·exact hok
theorem LQ{h:List aF}(hok:aH h=true)(s:List UInt8):aH (deskR h s).1=true:=by
 unfold deskR
 repeat' split
 all_goals first
  | exact hok
  | exact Pg hok _
  | exact OW hok _
  | exact NH hok _
theorem mR{v u:Value}{es:List Edge}{ks:List Int}(w:World)(h:aI 3 bL w v es)(hk:mD encI w u ks)(hl:es.length<=144)(hkl:ks.length<=2097152)(hok:∀e∈es,edgeOk 6 e) :
 Calls Tryz.prog 238 #[v,u] w λe w'=>e=.returned (tu (rowsOf (bU es ks)))/\Ext w w':=by
 have HO:=aa hok;have HK:=aa hk;obtain⟨A,c,rfl,hc0⟩:=id h;have HC:=aa hc0;obtain⟨B,d,rfl,_⟩:=id hk;have HL:=aa hkl;clear h hk hok hc0 hkl;have hz:Words ((w.alloc (.cells #[.int .u64 0,.int .u64 0,.int .u64 0,.int .u64 0,.int .u64 0,.int .u64 0] 241)).alloc (.cells #[.int .u64 0,.int .u64 0,.int .u64 0,.int .u64 0,.int .u64 0,.int .u64 0] 241)) (w.heap.size+1) 6 (rowsOf (bU (es.take 0) ks)):=by have hb:=pF (w.alloc (.cells #[.int .u64 0,.int .u64 0,.int .u64 0,.int .u64 0,.int .u64 0,.int .u64 0] 241)) (λ_=>0) 241;rw[show (w.alloc (.cells #[.int .u64 0,.int .u64 0,.int .u64 0,.int .u64 0,.int .u64 0,.int .u64 0] 241)).heap.size=w.heap.size+1 from by simp]at hb;exact hb.congr λ_ _=>rfl
 have HZ:=aa hz;have hb2:kK ((w.alloc (.cells #[.int .u64 0,.int .u64 0,.int .u64 0,.int .u64 0,.int .u64 0,.int .u64 0] 241)).alloc (.cells #[.int .u64 0,.int .u64 0,.int .u64 0,.int .u64 0,.int .u64 0,.int .u64 0] 241)) w.heap.size 6:=(kK.made w #[.int .u64 0,.int .u64 0,.int .u64 0,.int .u64 0,.int .u64 0,.int .u64 0] 241).ext ((af _).alloc _);have HB2:=aa hb2;clear hz hb2;go_enter Tryz.func238,Tryz.ntmps238;go_wp2;go_loopw [10] (λi wr=>Ext w wr/\∃k:Nat,k<=es.length/\i=.int .i64 k/\Hid (kK wr w.heap.size 6/\Words wr (w.heap.size+1) 6 (rowsOf (bU (es.take k) ks)))) (λi _=>es.length-(intOf i).toNat)
 case atStart=>exact⟨((af _).alloc _).alloc _,0,bR _,rfl,HB2.out,HZ.out⟩
 case round=>
  clear HZ HB2;obtain⟨hb,k,hk,rfl,HW⟩:=hrel;by_cases hlt:k<es.length
  ·obtain⟨b,off,rfl,hbl,hcell⟩:=HC.out (by omega);obtain⟨x,hx⟩:=au hlt;have c0:=hb.cell (hcell k x hx 0 (by omega));have c1:=hb.cell (hcell k x hx 1 (by omega));have c2:=hb.cell (hcell k x hx 2 (by omega));simp only[bL,gL]at c0 c1 c2;have HN:=aa (Dm (ks:=ks) hx);have hxo:=HO.out x (aN hx);have PT:=aa (Cv (es:=bU (es.take k) ks) (λe he=>HO.out e (uA (lC.1 he).1)));obtain⟨xf,xt,xk⟩:=x;obtain⟨⟨UX,WI⟩,⟨Vv,Wn⟩,_,_,_⟩:=hxo;simp only at UX WI Vv Wn;obtain⟨q,rfl⟩:=iH UX;obtain⟨wo,rfl⟩:∃wo:World,wo=wr:=⟨_,rfl⟩;have HX:=aa ((af wo).alloc (.cells #[.int .i64 (q:Int),.int .i64 xt,.int .i64 xk] 200));have ZB:=aa hb.size;have HW1:=aa HW.out.2.1.lt;clear hcell hx
   cases hcon:ks.contains xk with
   | true=>
     have HT:Hid (∀y,rowsOf (bU (es.take (k+1)) ks) y=if (q:Int)=(y:Int) then rowsOf (bU (es.take k) ks) y ||| 2 ^ xt.toNat else rowsOf (bU (es.take k) ks) y):=λy=>by rw[HN.out,ah hcon,E9]
     clear HN;obtain⟨m,hm⟩:∃m,rowsOf (bU (es.take k) ks) q=m:=⟨_,rfl⟩;have Sw:m<64:=by rw[<-hm];exact PT.out q
     have hor:=JY m xt.toNat (by omega) (by omega);have HM:=aa hm;have NN:=aa hcon;clear hm hcon;go_wp2_with (go_at_call 262;refine(oV xk _ (HK.out.ext (hb.trans HX.out)) HL.out).mono ?_;rw[NN.out];rintro e w4 ⟨rfl,b4⟩;have Jm:=aa (HX.out.trans b4);have v0:=b4.cell (p:=⟨wo.heap.size,0,none⟩) (v:=.int .i64 (q:Int)) (by go_cell);have v1:=b4.cell (p:=⟨wo.heap.size,1,none⟩) (v:=.int .i64 xt) (by go_cell);have v2:=Jm.out.cell (HW.out.2.2 q (by omega));rw[HM.out]at v2;have v3:=(HW.out.2.1.ext Jm.out).free q;clear b4)
     have HG:=aa (aL v0 v1);clear c0 c1 c2;have u0:({ w4 with drawn:=w4.drawn+1 }:World).cell? ⟨wo.heap.size,0,none⟩=some (.int .i64 (q:Int)):=v0;have u1:({ w4 with drawn:=w4.drawn+1 }:World).cell? ⟨wo.heap.size,1,none⟩=some (.int .i64 xt):=v1;have u2:({ w4 with drawn:=w4.drawn+1 }:World).cell? ⟨w.heap.size+1,q,none⟩=some (.int .u64 (m:Int)):=v2;have hqi:(q:Int)<6:=by omega
     have hq0:(0:Int)<=(q:Int):=by omega
     go_still_tail 8,(by kernel_rfl)
     change wpList _ _ _ _ _ w4.drew;clear u0 u1 u2;go_wp2;have X:=Jm.out.drew;have hW:=(HW.out.2.ext X).set (j:=q) (f':=rowsOf (bU (es.take (k+1)) ks)) (by omega) (λo ho=>by rw[HT.out o,ak (by omega)]);rw[HT.out q,ah rfl,HM.out]at hW;have NT:=aa hW;clear hW;go_roundw;case rel=>exact⟨(hb.trans X).setCell (by simp) _,k+1,by omega,by go_num,(HW.out.1.ext X).set _ _,NT.out⟩
     case measure=>simp[intOf];omega
   | false=>
     have HT:Hid (bU (es.take (k+1)) ks=bU (es.take k) ks):=by show _ = _;rw[HN.out,hcon];simp
     have NN:=aa hcon;clear HN hcon;go_wp2_with (go_at_call 262;refine(oV xk _ (HK.out.ext (hb.trans HX.out)) HL.out).mono ?_;rw[NN.out];rintro e w4 ⟨rfl,b4⟩)
     go_roundw;case rel=>exact⟨hb.trans (HX.out.trans b4),k+1,by omega,by go_num,HW.out.1.ext (HX.out.trans b4),by rw[HT.out];exact HW.out.2.ext (HX.out.trans b4)⟩
     case measure=>simp[intOf];omega
  ·obtain rfl:k=es.length:=by omega
   have hA:=aa HW.out.1;have PN:=HW.out.2;rw[bY]at PN;have w0:=PN.2 0 (by omega);have w1:=PN.2 1 (by omega);have w2:=PN.2 2 (by omega);have w3:=PN.2 3 (by omega);have w4:=PN.2 4 (by omega);have w5:=PN.2 5 (by omega);obtain⟨g,hg⟩:∃g,rowsOf (bU es ks)=g:=⟨_,rfl⟩;rw[hg]at w0 w1 w2 w3 w4 w5;have X7:=aa hg;clear hg PN;obtain⟨y0,z0⟩:=hA.out.cell (j:=0) (by omega);obtain⟨y1,z1⟩:=hA.out.cell (j:=1) (by omega);obtain⟨y2,z2⟩:=hA.out.cell (j:=2) (by omega);obtain⟨y3,z3⟩:=hA.out.cell (j:=3) (by omega);obtain⟨y4,z4⟩:=hA.out.cell (j:=4) (by omega);obtain⟨y5,z5⟩:=hA.out.cell (j:=5) (by omega);have s0:=bT hA.out (j:=0) (by omega) (.int .u64 (g 0:Nat));have hA1:=aa (hA.out.set ⟨w.heap.size,0,none⟩ (.int .u64 (g 0:Nat)));have s1:=bT hA1.out (j:=1) (by omega) (.int .u64 (g 1:Nat));have hA2:=aa (hA1.out.set ⟨w.heap.size,1,none⟩ (.int .u64 (g 1:Nat)));have s2:=bT hA2.out (j:=2) (by omega) (.int .u64 (g 2:Nat));have hA3:=aa (hA2.out.set ⟨w.heap.size,2,none⟩ (.int .u64 (g 2:Nat)));have s3:=bT hA3.out (j:=3) (by omega) (.int .u64 (g 3:Nat));have Qd:=aa (hA3.out.set ⟨w.heap.size,3,none⟩ (.int .u64 (g 3:Nat)));have s4:=bT Qd.out (j:=4) (by omega) (.int .u64 (g 4:Nat));have Yr:=aa (Qd.out.set ⟨w.heap.size,4,none⟩ (.int .u64 (g 4:Nat)));have s5:=bT Yr.out (j:=5) (by omega) (.int .u64 (g 5:Nat));have f0:=hA.out.free 0;have f1:=hA.out.free 1;have f2:=hA.out.free 2;have f3:=hA.out.free 3;have f4:=hA.out.free 4;have f5:=hA.out.free 5;go_wp2;refine bodyPost_ret (v:=tu g) (by simp[results,Tryz.results238,go_sem,s0,s1,s2,s3,s4,s5,tu]) rfl ?_;exact⟨by rw[X7.out],(((((hb.setCell (ay _) _).setCell (ay _) _).setCell (ay _) _).setCell (ay _) _).setCell (ay _) _).setCell (ay _) _⟩
section
def Ex(rb:Nat)(w w':World):Prop:=w.grownBy w' (some rb)
theorem Ex.size{rb:Nat}{w w':World}(h:Ex rb w w'):w.heap.size<=w'.heap.size:=World.grownBy.size h
theorem Ex.refl(rb:Nat)(w:World):Ex rb w w:=⟨rfl,rfl,rfl,ay _,λ_ _ _=>rfl⟩
theorem Ex.trans{rb:Nat}{a b c:World}(h:Ex rb a b)(k:Ex rb b c):Ex rb a c:=
 ⟨(World.grownBy.os k).trans (World.grownBy.os h),(World.grownBy.tape k).trans (World.grownBy.tape h),(World.grownBy.output k).trans (World.grownBy.output h),aR h.size k.size,λi hi hn=>(World.grownBy.block k i (dJ hi h.size) hn).trans (World.grownBy.block h i hi hn)⟩
theorem Ex.aO{rb:Nat}{w w':World}(h:Ext w w'):Ex rb w w':=⟨Below.os h,Below.tape h,Below.output h,Ext.size h,λk hk _=>Below.block h k hk⟩
theorem Ex.ext{rb:Nat}{a b c:World}(h:Ex rb a b)(k:Ext b c):Ex rb a c:=h.trans (Ex.aO k)
theorem Ex.alloc{rb:Nat}{a b:World}(h:Ex rb a b)(o:Obj):Ex rb a (b.alloc o):=h.ext ((af b).alloc o)
theorem Ex.drew{rb:Nat}{a b:World}(h:Ex rb a b):Ex rb a b.drew:=h.ext ((af b).drew)
theorem Ex.setCell{rb:Nat}{a b:World}(h:Ex rb a b)(o:Nat)(u:Value):Ex rb a (b.setCell ⟨rb,o,none⟩ u):=
 h.trans ⟨rfl,rfl,rfl,by simp[World.setCell],λk _ hn=>Below.heap_setCell _ _ _ _ (λe=>hn (by simp at e;rw[e]))⟩
theorem Ex.cell{rb:Nat}{w w':World}(h:Ex rb w w'){p:Addr}{v:Value}(hc:w.cell? p=some v)(hne:p.block≠rb):w'.cell? p=some v:=
 World.grownBy.cell h hc (by simpa using hne)
def Off(rb:Nat)(v:Value):Prop:=∀a n c,v=.slice (some a) n c->0<n->a.block≠rb
def Under(rb:Nat)(v:Value):Prop:=∀a n c,v=.slice (some a) n c->0<n->a.block<rb
theorem Under.off{rb:Nat}{v:Value}(h:Under rb v):Off rb v:=λa n c hv hn e=>by have:=h a n c hv hn;omega
theorem aI.off{α:Type}{m rb:Nat}{enc:α->Nat->Value}{w w':World}{v:Value}{xs:List α}(h:aI m enc w v xs)(hx:Ex rb w w')(ho:Off rb v):aI m enc w' v xs:=by obtain⟨A,c,hA,h⟩:=h;refine⟨A,c,hA,λhn=>?_⟩;obtain⟨b,off,hb,hlt,hc⟩:=h hn;refine⟨b,off,hb,dJ hlt hx.size,λi x hi j hj=>hx.cell (hc i x hi j hj) ?_⟩;subst hb;exact ho ⟨b,off,none⟩ _ _ hA hn
theorem mD.off{α:Type}{rb:Nat}{enc:α->Value}{w w':World}{v:Value}{xs:List α}(h:mD enc w v xs)(hx:Ex rb w w')(ho:Off rb v):mD enc w' v xs:=by obtain⟨A,c,hA,h⟩:=h;refine⟨A,c,hA,λhn=>?_⟩;obtain⟨b,off,hb,hlt,hc⟩:=h hn;refine⟨b,off,hb,dJ hlt hx.size,λi x hi=>hx.cell (hc i x hi) ?_⟩;subst hb;exact ho ⟨b,off,none⟩ _ _ hA hn
theorem Own.off{lo rb:Nat}{w:World}{v:Value}(h:Own lo w v)(hl:rb<lo):Off rb v:=λa n c hv hn e=>by
 have:=(h a n c hv hn).1
 omega
theorem Own.ex{lo rb:Nat}{w w':World}{v:Value}(h:Own lo w v)(hx:Ex rb w w')(hl:rb<lo):Own lo w' v:=λa n c hv hn=>by obtain⟨h1,h2,h3⟩:=h a n c hv hn;refine⟨h1,dJ h2 hx.size,λi=>?_⟩;rw[<-h3 i];exact World.frozen?_of_block (a:=⟨a.block,i,none⟩) (World.grownBy.block hx a.block h2 (by simp;omega))
theorem Row.ex{α:Type}{e:TypeId}{m rb:Nat}{enc:α->Nat->Value}{base:Nat}{w w':World}{v:Value}{xs:List α}(h:Row e m enc base w v xs)(hx:Ex rb w w')(hl:rb<base):Row e m enc base w' v xs:=by
 refine World.ownsRow.kept (row:=some rb) h hx ?_
 cases hv:v.ownBlock with
 | none=>exact .inl rfl
 | some k=>
   right
   have:=h.block k hv
   intro e;injection e with e;omega
theorem Ext.ex{rb:Nat}{w w1 w2:World}(h:Ext w w1)(hx:Ex rb w1 w2)(hl:w.heap.size<=rb):Ext w w2:=Ext.grown h hx (λk hk=>by injection hk with hk;omega)
def FY(x:Int):Value:=.int .u8 x
def Bn(B:Nat)(w:World)(rb m:Nat):Prop:=
 ∃(A:Option Addr) (xs:List Int) (c p:Nat) (T:TypeId),w.heap[rb]? =some (.cells #[.slice A xs.length c,.int .i64 (p:Int)] T (0,0))/\p<=m/\mD FY w (.slice A xs.length c) xs/\(∀x∈xs,0<=x/\x<=255)/\xs.length<=2000/\Under B (.slice A xs.length c)/\B<=rb
def Rd(w:World)(rb m:Nat):Prop:=Bn rb w rb m
theorem Bn.lt{B:Nat}{w:World}{rb m:Nat}(h:Bn B w rb m):rb<w.heap.size:=by
 obtain⟨A,xs,c,p,T,h,_⟩:=h
 exact(dB.1 h).1
theorem Bn.mono{B:Nat}{w:World}{rb m m':Nat}(h:Bn B w rb m)(hm:m<=m'):Bn B w rb m':=by obtain⟨A,xs,c,p,T,h1,h2,h3⟩:=h;exact⟨A,xs,c,p,T,h1,aR h2 hm,h3⟩
theorem Bn.rd{B:Nat}{w:World}{rb m:Nat}(h:Bn B w rb m):Rd w rb m:=by obtain⟨A,xs,c,p,T,h1,h2,h3,h4,h5,h6,h7⟩:=h;exact⟨A,xs,c,p,T,h1,h2,h3,h4,h5,λa n c hv hn=>dJ (h6 a n c hv hn) h7,ay _⟩
theorem Bn.ext{B:Nat}{w w':World}{rb m:Nat}(h:Bn B w rb m)(hx:Ext w w'):Bn B w' rb m:=by have hl:=h.lt;obtain⟨A,xs,c,p,T,h1,h2,h3,h4⟩:=h;exact⟨A,xs,c,p,T,(Below.block hx rb hl).trans h1,h2,h3.ext hx,h4⟩
theorem Bn.grown{B:Nat}{w w':World}{rb m:Nat}{row:Option Nat}(h:Bn B w rb m)(hg:w.grownBy w' row)(hr:∀k,row=some k->B<=k/\k≠rb):Bn B w' rb m:=by have hl:=h.lt;obtain⟨A,xs,c,p,T,h1,h2,⟨A',c',hA,hs⟩,h4,h5,h6⟩:=h;injection hA with e1 e2 e3;subst e1 e3;refine⟨A,xs,c,p,T,(hg.block rb hl (λe=>(hr rb e.symm).2 rfl)).trans h1,h2,⟨A,c,rfl,λhn=>?_⟩,h4,h5,h6⟩;obtain⟨b,off,hb,hlt,hc⟩:=hs hn;refine⟨b,off,hb,dJ hlt hg.size,λi x hx=>hg.cell (hc i x hx) (λe=>?_)⟩;have h7:=(hr b e.symm).1;have h8:=h6.1 ⟨b,off,none⟩ _ _ (by rw[hb]) hn;simp at h8;omega
theorem Rd.lt{w:World}{rb m:Nat}(h:Rd w rb m):rb<w.heap.size:=Bn.lt h
theorem Rd.mono{w:World}{rb m m':Nat}(h:Rd w rb m)(hm:m<=m'):Rd w rb m':=Bn.mono h hm
theorem Rd.ext{w w':World}{rb m:Nat}(h:Rd w rb m)(hx:Ext w w'):Rd w' rb m:=Bn.ext h hx
theorem Rd.grown{w w':World}{rb m:Nat}{row:Option Nat}(h:Rd w rb m)(hg:w.grownBy w' row)(hr:∀k,row=some k->rb<k):Rd w' rb m:=
 Bn.grown h hg (λk hk=>by have:=hr k hk;omega)
theorem Ex.grown{rb:Nat}{w0 w w':World}{row:Option Nat}(h:Ex rb w0 w)(hg:w.grownBy w' row)(hr:∀k,row=some k->w0.heap.size<=k):Ex rb w0 w':=
 ⟨hg.os.trans (World.grownBy.os h),hg.tape.trans (World.grownBy.tape h),hg.output.trans (World.grownBy.output h),aR h.size hg.size,
  λi hi hn=>(hg.block i (dJ hi h.size) (λe=>by have:=hr i e.symm;omega)).trans (World.grownBy.block h i hi hn)⟩
theorem Rd.alloc{w:World}{rb m:Nat}(h:Rd w rb m)(o:Obj):Rd (w.alloc o) rb m:=h.ext ((af w).alloc o)
theorem Rd.drew{w:World}{rb m:Nat}(h:Rd w rb m):Rd w.drew rb m:=h.ext ((af w).drew)
def OJ(B:Nat)(n:Int)(rb m:Nat)(w:World)(e:Ending)(w':World):Prop:=∃k:Int,e=.returned (.int .i64 k)/\0<=k/\k<n/\Bn B w' rb (m+1)/\Ex rb w w'
def QK(n:Int)(rb m:Nat)(w:World)(e:Ending)(w':World):Prop:=∃k:Int,e=.returned (.int .i64 k)/\0<=k/\k<n/\Rd w' rb (m+1)/\Ex rb w w'
def UY(rb m:Nat)(w:World)(e:Ending)(w':World):Prop:=∃k:Bool,e=.returned (.bool k)/\Rd w' rb (m+1)/\Ex rb w w'
theorem KS(x:Nat)(hx:x<9223372036854775808):bits .xor .i64 (x:Int) ((x:Int)/64)=((x ^^^ x/64:Nat):Int):=by
 have h1:x/64<2 ^ 63:=by omega
 have hx':x ^^^ x/64<2 ^ 63:=Nat.xor_lt_two_pow (by omega) h1;have e:((x:Int)/64)=((x/64:Nat):Int):=by simp
 rw[e];show IntKind.i64.wrap ((BitVec.ofInt 64 (x:Int) ^^^ BitVec.ofInt 64 ((x/64:Nat):Int)).toNat:Int) = _;rw[BitVec.toNat_xor];have a1:(BitVec.ofInt 64 (x:Int)).toNat=x:=by rw[BitVec.ofInt_natCast,BitVec.toNat_ofNat];exact xZ (by omega)
 have a2:(BitVec.ofInt 64 ((x/64:Nat):Int)).toNat=x/64:=by rw[BitVec.ofInt_natCast,BitVec.toNat_ofNat];exact xZ (by omega)
 rw[a1,a2,Ej];omega
theorem Ez(w:World)(o:Obj):(w.alloc o).heap.size=w.heap.size+1:=by simp
theorem aI.lit{α:Type}{m:Nat}{enc:α->Nat->Value}(w:World)(cs:Array Value)(T:TypeId)(c:Nat)(xs:List α)(h:cs.toList=xs.flatMap (aG m enc)):aI m enc (w.alloc (.cells cs T)) (.slice (some ⟨w.heap.size,0,none⟩) xs.length c) xs:=by refine⟨_,c,rfl,λ_=>⟨w.heap.size,0,rfl,by simp,λi x hx j hj=>?_⟩⟩;have h1:=vX (enc:=enc) hx hj;rw[<-h]at h1;simp only[World.cell?,dx,kP];simpa using h1
theorem Row.made{α:Type}{m:Nat}{enc:α->Nat->Value}(w:World)(e:TypeId):Row e m enc w.heap.size (w.alloc (.cells #[] e)) (.slice (some ⟨w.heap.size,0,none⟩) 0 0) ([]:List α):=
 World.ownsRow_made w #[] 0 (ay _) (by simp[maxLen]) (by simp)
theorem Row.ne{α:Type}{e T:TypeId}{m g:Nat}{enc:α->Nat->Value}{base:Nat}{w:World}{v:Value}{xs:List α}{cs:Array Value}{f:Nat × Nat}(h:Row e m enc base w v xs)(hg:w.heap[g]? =some (.cells cs T f))(hne:e≠T):some g≠v.ownBlock:=by
 rcases h.2 with ⟨rfl,_⟩|⟨g',cap,cur,rfl,hb,hgg,_⟩
 ·simp[Value.ownBlock]
 ·intro e';simp[Value.ownBlock]at e';subst e';rw[hg]at hgg;injection hgg with hgg;injection hgg with _ h2 _;exact hne h2.symm
section
variable{P:Program}{α:Type}{t e:TypeId}{m b:Nat}{z:Value}{enc:α->Nat->Value}{base:Nat}{w:World}{v:Value}{xs ys:List α}
end
end
section
theorem fT.ex{I:TypeId}{rb lo:Nat}{w w':World}{u:Value}(h:fT I w u)(ho:Own lo w u)(hx:Ex rb w w')(hl:rb<lo):fT I w' u:=λa n c hu hn=>by obtain⟨cs,fr,hg⟩:=h a n c hu hn;have h1:=(ho a n c hu hn).1;exact⟨cs,fr,(World.grownBy.block hx _ (dB.1 hg).1 (by simp;omega)).trans hg⟩
def eT(base:Nat)(w:World)(u:Value)(ops:List aJ):Prop:=aI 3 encOpr w u ops/\qM u/\Own base w u/\fT 67 w u
theorem eT.ext{base:Nat}{w w':World}{u:Value}{ops:List aJ}(h:eT base w u ops)(hb:Ext w w'):eT base w' u ops:=⟨h.1.ext hb,h.2.1,h.2.2.1.ext hb,h.2.2.2.ext hb⟩
theorem eT.ex{base rb:Nat}{w w':World}{u:Value}{ops:List aJ}(h:eT base w u ops)(hb:Ex rb w w')(hl:rb<base):eT base w' u ops:=⟨h.1.off hb (h.2.2.1.off hl),h.2.1,h.2.2.1.ex hb hl,h.2.2.2.ex h.2.2.1 hb hl⟩
theorem eT.mono{base base':Nat}{w:World}{u:Value}{ops:List aJ}(h:eT base w u ops)(hl:base'<=base):eT base' w u ops:=⟨h.1,h.2.1,h.2.2.1.mono hl,h.2.2.2⟩
theorem eT.grown{base:Nat}{w w':World}{u:Value}{ops:List aJ}{row:Option Nat}(h:eT base w u ops)(hg:w.grownBy w' row)(hr:∀a n c,u=.slice (some a) n c->0<n->row≠some a.block):eT base w' u ops:=
 ⟨h.1.grown hg hr,h.2.1,h.2.2.1.grown hg hr,h.2.2.2.grown hg hr⟩
theorem eT.none(base:Nat)(w:World):eT base w (.slice none 0 0) []:=⟨aI.nil _ _ _ _ _,(λA n c e=>by cases e;exact⟨ay _,by omega⟩),Own.nil _ _ _ _,λa n c e=>by cases e⟩
theorem eT.row{base:Nat}{w:World}{u:Value}{ops:List aJ}(h:Row 67 3 encOpr base w u ops):eT base w u ops:=⟨h.cell.1,h.cap,h.cell.2,h.Ng⟩
theorem eT.far{α:Type}{e:TypeId}{m:Nat}{enc:α->Nat->Value}{base b:Nat}{w:World}{v u:Value}{xs:List α}{ops:List aJ}(h:eT b w u ops)(hr:Row e m enc base w v xs)(hne:e≠67):∀a n c,u=.slice (some a) n c->0<n->v.ownBlock≠some a.block:=hr.far h.2.2.2 hne
def ER(rb m:Nat)(w W:World):Prop:=Ex rb w W/\Rd W rb m
theorem ER.set{rb m g:Nat}{w W:World}(h:ER rb m w W)(hr:rb<w.heap.size)(hg:w.heap.size<=g)(j:Nat)(u:Value):ER rb m w (W.setCell ⟨g,j,none⟩ u):=
 ⟨h.1.grown (qw W ⟨g,j,none⟩ u) (λk hk=>by injection hk with hk;subst hk;exact hg),h.2.grown (qw W ⟨g,j,none⟩ u) (λk hk=>by injection hk with hk;subst hk;exact dJ hr hg)⟩
theorem ER.alloc{rb m:Nat}{w W:World}(h:ER rb m w W)(o:Obj):ER rb m w (W.alloc o):=⟨h.1.alloc o,h.2.alloc o⟩
theorem ER.grown{rb m:Nat}{w W W':World}{row:Option Nat}(h:ER rb m w W)(hg:W.grownBy W' row)(hr:rb<w.heap.size)(hk:∀k,row=some k->w.heap.size<=k):ER rb m w W':=
 ⟨h.1.grown hg hk,h.2.grown hg (λk e=>dJ hr (hk k e))⟩
theorem ER.ext{rb m:Nat}{w W W':World}(h:ER rb m w W)(b:Ext W W'):ER rb m w W':=⟨h.1.ext b,h.2.ext b⟩
theorem ER.mono{rb m m':Nat}{w W:World}(h:ER rb m w W)(hm:m<=m'):ER rb m' w W:=⟨h.1,h.2.mono hm⟩
theorem ER.size{rb m:Nat}{w W:World}(h:ER rb m w W):w.heap.size<=W.heap.size:=h.1.size
section
variable{P:Program}{α:Type}{t e:TypeId}{m b:Nat}{z:Value}{enc:α->Nat->Value}{base:Nat}{w:World}{v:Value}{xs ys:List α}
theorem Gs(ht:P.underlying t=some (.slice e))(hinfo:(P.info? e).map (λi=>(i.zero,i.size,i.bytes))=some (some z,m,b))(hzs:z.cells.size=m)(hm:0<m)(hb:b<=64)
 {ops:Array Oper} {rest:List Oper} {o:Oper} {a:Act} {Q:Exit->Act->World->Prop} {s x:Operand} {A:Option Addr} {n c:Nat} (hwant:Region.wanted o (yielded ops a.tmps)=true)
 (ho:o.op=.call { callee:=.builtin .append,args:=#[s,x],argTypes:=#[t,t] }) (hs:a.eval s=v) (hx:a.eval x=.slice A n c)
 (hrow:Row e m enc base w v xs) (hsrc:aI m enc w (.slice A n c) ys) (h1:∀x∈ys,∀j,(enc x j).oneCell'=true) (hn:xs.length+ys.length<=4194304) (hbase:base<=w.heap.size)
 (h:∀v' w',Row e m enc base w' v' (xs++ys)->w.grownBy w' v.ownBlock->wpList P ops Q rest (a.put o.dst v') w'):wpList P ops Q (o :: rest) a w:=by
 obtain⟨v',w',hrun,hrow',hg⟩:=mU (P:=P) (ty:=o.type) ht hinfo hzs hm hrow hsrc h1 hn hb hbase;refine wpList_step λK hK=>?_;rw[ah hwant];unfold Oper.wp execOp;simp only[ho,resolve,invoke,builtin,Sem.run_bind,Sem.run_pure,Result.andThen_ok,List.map_toArray,iF,nH,hs,hx,hrun];exact hK _ _ (h v' w' hrow' hg)
end
section
variable{base:Nat}{w:World}{v:Value}{ops:Array Oper}{rest:List Oper}{o:Oper}{a:Act}{Q:Exit->Act->World->Prop}{s x:Operand}{A:Option Addr}{n c:Nat}
theorem Jy:(Tryz.prog.info? 67).map (λi=>(i.zero,i.size,i.bytes))=some (some (.agg #[.int .i64 0,.int .i64 0,.int .i64 0]),3,24):=by kernel_rfl
theorem yV:(Tryz.prog.info? 79).map (λi=>(i.zero,i.size,i.bytes))=some (some (.agg #[.int .i64 0,.slice none 0 0]),2,32):=by kernel_rfl
end
end
