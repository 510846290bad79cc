/- Lemmas. -/
import Derived.Test.YtcdopfdgknglfaaGreatDoorCAA
import Derived.Test.YtcdopfdgknglfaaGreatDoorRows
import Derived.MapKept
set_option maxHeartbeats 16000000
set_option maxRecDepth 8000
set_option linter.all false
namespace Go.Proofs.YtcdopfdgknglfaaGreatDoor
open Go.RowKit
section
section
variable{α:Type}{enc:α->Value}{g N k:Nat}{xs:List α}{w w':World}{x:α}
end
theorem yu{v:Value}{xs:List Int}(w:World)(F:FuncId)(cap:Array Value)(p:Int->Bool)(h:mD encI w v xs)(hlen:xs.length<=2097152)
 (hcf:∀args W,(callFunc F args).run Tryz.prog W=.ok (.enter F args) W) (hF:∀x∈xs,∀W,Ext w W->Calls Tryz.prog F (#[.int .i64 x]++cap) W λe w'=>e=.returned (.bool (p x))/\Ext W w') :
 Calls Tryz.prog 174 #[v,.func (.func F) #[] cap] w λe w'=>e=.returned (.int .i64 (findAt p xs 0))/\Ext w w':=by
 obtain⟨A,c,rfl,h⟩:=h;have HF:=aa hF;clear hF;go_enter Tryz.func174,Tryz.ntmps174;go_wp2;go_loopw [8] (λi wr=>Ext w wr/\∃k:Nat,k<=xs.length/\i=.int .i64 k/\Hid (findAt p xs 0=findAt p (xs.drop k) k)) (λi _=>xs.length-(intOf i).toNat)
 case atStart=>exact⟨af _,0,bR _,rfl,rfl⟩
 case round=>
  obtain⟨hb,k,hk,rfl,HI⟩:=hrel;by_cases hlt:k<xs.length
  ·obtain⟨b,off,rfl,hbl,hc⟩:=h (by omega);obtain⟨x,hx⟩:=au hlt;have c0:wr.cell? ⟨b,off+k,none⟩=some (.int .i64 x):=hb.cell (hc k x hx);have Hx:=aa hx;have Hm:=aN hx;clear hx h hc;go_wp2_with fail
   refine(HF.out x Hm _ hb).mono ?_
   rintro e w1 ⟨rfl,b1⟩;by_cases hp:p x=true
   ·have hr:=aa (HI.out.trans (lu Hx.out hp));go_wp2;go_returns;exact⟨dH hr.out.symm,hb.trans b1⟩
   ·simp only[Bool.not_eq_true]at hp;have hr:=aa (HI.out.trans (kr Hx.out hp));go_wp2;go_roundw;case rel=>exact⟨hb.trans b1,k+1,by omega,by go_num,hr⟩
    case measure=>simp[intOf];omega
  ·obtain rfl:k=xs.length:=by omega
   go_wp2;go_returns;exact⟨dH (by rw[HI.out];simp[findAt]),hb⟩
theorem nW{v:Value}{xs:List Int}(w:World)(F:FuncId)(cap:Array Value)(p:Int->Bool)(h:mD encI w v xs)(hlen:xs.length<=2097152)
 (hcf:∀args W,(callFunc F args).run Tryz.prog W=.ok (.enter F args) W) (hF:∀x∈xs,∀W,Ext w W->Calls Tryz.prog F (#[.int .i64 x]++cap) W λe w'=>e=.returned (.bool (p x))/\Ext W w') :
 Calls Tryz.prog 131 #[v,.func (.func F) #[] cap] w λe w'=>e=.returned (.bool (xs.any p))/\Ext w w':=by
 have HF:=aa hF;clear hF;go_enter Tryz.func131,Tryz.ntmps131;go_wp2_with fail
 refine(yu w F cap p h hlen hcf HF.out).mono ?_
 rintro e w1 ⟨rfl,b1⟩;go_wp2;go_returns;exact⟨aU (lD),b1⟩
end
section
def aG{α:Type}(m:Nat)(enc:α->Nat->Value)(x:α):List Value:=(List.range m).map (enc x)
def Row{α:Type}(e:TypeId)(m:Nat)(enc:α->Nat->Value)(base:Nat)(w:World)(v:Value)(xs:List α):Prop:=
 w.ownsRow base e m v xs.length (xs.flatMap (aG m enc))
theorem kT{α:Type}{m:Nat}{enc:α->Nat->Value}(xs:List α):(xs.flatMap (aG m enc)).length=xs.length*m:=by
 induction xs with
 | nil=>simp
 | cons x xs ih=>simp only[qI,bN,ih,eF,Nat.succ_mul];simp[aG];omega
theorem vX{α:Type}{m:Nat}{enc:α->Nat->Value}{xs:List α}{i j:Nat}{x:α}(hx:xs[i]? =some x)(hj:j<m):(xs.flatMap (aG m enc))[i*m+j]? =some (enc x j):=by
 induction xs generalizing i with
 | nil=>simp at hx
 | cons y xs ih=>
   rw[qI]
   cases i with
   | zero=>
     simp at hx;subst hx;rw[nZ (by simp[aG];omega)];simp[aG,hj]
   | succ i=>
     simp at hx;rw[qp (by simp[aG];rw[Nat.succ_mul];omega)]
     have:=ih hx
     rw[<-this];congr 1;simp[aG];rw[Nat.succ_mul];omega
section
variable{α:Type}{e:TypeId}{m:Nat}{enc:α->Nat->Value}{base:Nat}{w w':World}{v:Value}{xs:List α}
theorem Row.nil:Row e m enc base w (.slice none 0 0) ([]:List α):=World.ownsRow_nil w base e m
theorem Row.ext(h:Row e m enc base w v xs)(hb:Ext w w'):Row e m enc base w' v xs:=by refine World.ownsRow.kept (row:=none) h ⟨Below.os hb,Below.tape hb,Below.output hb,hb.size,λk hk _=>Below.block hb k hk⟩ ?_;cases hv:v.ownBlock<;>simp
theorem Row.cell(h:Row e m enc base w v xs):aI m enc w v xs/\Own base w v:=by
 refine⟨?_,?_⟩
 ·rcases h.2 with ⟨rfl,hn⟩|⟨g,cap,cur,rfl,hb,hg,hnc,hcm,hcs,htake⟩
  ·have:xs=[]:=kZ hn
   subst this;exact aI.nil _ _ _ _ _
  ·refine⟨_,cap,rfl,λhn=>⟨g,0,rfl,(dB.1 hg).1,λi x hx j hj=>?_⟩⟩;have h1:=vX (enc:=enc) hx hj;rw[<-htake,zg]at h1;split at h1
   ·rw[kP];simp only[World.cell?,hg];simpa using h1
   ·cases h1
 ·intro a n c hv hn;rcases h.2 with ⟨rfl,_⟩|⟨g,cap,cur,rfl,hb,hg,hnc,hcm,hcs,htake⟩
  ·cases hv
  ·injection hv with h1 h2 h3;injection h1 with h1;subst h1;exact⟨hb,(dB.1 hg).1,λi=>by simp[World.frozen?,hg]⟩
theorem Row.cap(h:Row e m enc base w v xs):∀A n c,v=.slice A n c->n<=c/\c<=9223372036854775807:=by
 intro A n c hv;rcases h.2 with ⟨rfl,_⟩|⟨g,cap,cur,rfl,hb,hg,hnc,hcm,hcs,htake⟩
 ·injection hv with h1 h2 h3;omega
 ·injection hv with h1 h2 h3;simp only[maxLen]at hcm;omega
theorem Ext.grown{a:World}{row:Option Nat}(h:Ext a w)(hg:w.grownBy w' row)(hr:∀k,row=some k->a.heap.size<=k):Ext a w':=
 Below.grown h hg h.size hr
theorem Row.block(h:Row e m enc base w v xs):∀k,v.ownBlock=some k->base<=k:=λk hk=>(World.ownsRow.lt h k hk).1
end
theorem Row.low{α:Type}{e:TypeId}{m:Nat}{enc:α->Nat->Value}{base base':Nat}{w:World}{v:Value}{xs:List α}(h:Row e m enc base w v xs)(hb:base'<=base):Row e m enc base' w v xs:=
 ⟨h.1,h.2.imp id λ⟨g,cap,cur,a,b,rest⟩=>⟨g,cap,cur,a,aR hb b,rest⟩⟩
section
variable{P:Program}{α:Type}{t ty e:TypeId}{m b:Nat}{z:Value}{enc:α->Nat->Value}{base:Nat}{w:World}{v:Value}{xs:List α}
theorem o9(ht:P.underlying t=some (.slice e))(hinfo:(P.info? e).map (λi=>(i.zero,i.size,i.bytes))=some (some z,m,b))(hzs:z.cells.size=m)(hm:0<m)
 (h:Row e m enc base w v xs) (x:α) (h1:∀j,(enc x j).oneCell'=true) (hn:xs.length+1<=4194304) (hb:b<=64) (hbase:base<=w.heap.size) :
 ∃v' w',(Builtin.append_ #[t,t] ty #[v,.slice (some ⟨w.heap.size,0,none⟩) 1 1]).run P (w.alloc (.cells (aG m enc x).toArray e))=.ok v' w'/\Row e m enc base w' v' (xs++[x])/\(w.alloc (.cells (aG m enc x).toArray e)).grownBy w' v.ownBlock:=by
 obtain⟨i,hi,hz,hs,hby⟩:=mQ hinfo;have hl:(aG m enc x).length=1*m:=by simp[aG]
 obtain⟨v',w',hrun,hown,hgrow,_⟩:=run_append_own (P:=P) (w.alloc (.cells (aG m enc x).toArray e)) base t ty e i z m b ht hi hz hs hby hzs hm v xs.length _ (World.ownsRow.alloc h _)
  ⟨w.heap.size,0,none⟩ 1 1 (aG m enc x) hl
  (λj u hu=>by
   have hadd:(⟨w.heap.size,0,none⟩:Addr).add j=⟨w.heap.size,j,none⟩:=by unfold Addr.add;split<;>simp_all
   rw[hadd,cell_of_row _ _ j _ e (0,0) (dx w _)];simpa using hu)
  (λu hu=>by simp[aG]at hu;obtain⟨j,_,rfl⟩:=hu;exact h1 j) (by simp only[maxLen];omega)
  (by have:(xs.length+1)*b<=4194304*64:=Nat.mul_le_mul hn hb;omega) (by simp;omega)
 refine⟨v',w',hrun,?_,hgrow⟩;unfold Row;rw[kI,bN];simpa using hown
theorem xK{i:TypeInfo}{n c0:Nat}{cs:List Value}(ht:P.underlying t=some (.slice e))(hi:P.info? e=some i)(hown:w.ownsRow base e c0 v n cs)(c:Nat):(Builtin.append_ #[t,t] ty #[v,.slice none 0 c]).run P w=.ok v w:=by
 rcases hown.2 with ⟨rfl,rfl⟩|⟨g,cap,cur,rfl,_,_,hnc,_⟩
 ·simp[Builtin.append_,run_underlying ht,sizeOf,typeInfo,hi,Builtin.lenOf,Builtin.firstCells]
 ·simp[Builtin.append_,run_underlying ht,sizeOf,typeInfo,hi,Builtin.lenOf,Builtin.firstCells,hnc,storeCells]
theorem mU(ht:P.underlying t=some (.slice e))(hinfo:(P.info? e).map (λi=>(i.zero,i.size,i.bytes))=some (some z,m,b))(hzs:z.cells.size=m)(hm:0<m)
 (h:Row e m enc base w v xs) {A:Option Addr} {n c:Nat} {ys:List α} (hy:aI m enc w (.slice A n c) ys) (h1:∀x∈ys,∀j,(enc x j).oneCell'=true) (hn:xs.length+ys.length<=4194304) (hb:b<=64) (hbase:base<=w.heap.size) :
 ∃v' w',(Builtin.append_ #[t,t] ty #[v,.slice A n c]).run P w=.ok v' w'/\Row e m enc base w' v' (xs++ys)/\w.grownBy w' v.ownBlock:=by
 obtain⟨i,hi,hz,hs,hby⟩:=mQ hinfo;obtain⟨A',c',hA,hc⟩:=hy;injection hA with e1 e2 e3;subst e1 e2;by_cases h0:0<ys.length
 ·obtain⟨blk,off,rfl,hlt,hcell⟩:=hc h0;have hl:(ys.flatMap (aG m enc)).length=ys.length*m:=kT ys;obtain⟨v',w',hrun,hown,hgrow,_⟩:=run_append_own (P:=P) (ty:=ty) w base t e i z m b ht hi hz hs hby hzs hm v xs.length _ h
   ⟨blk,off,none⟩ ys.length c (ys.flatMap (aG m enc)) hl
   (λj u hu=>by
    have hadd:(⟨blk,off,none⟩:Addr).add j=⟨blk,off+j,none⟩:=by unfold Addr.add;split<;>simp_all
    have hjl:j<ys.length*m:=by rw[<-hl];exact(aS.1 hu).1
    have hd:j/m<ys.length:=Nat.div_lt_of_lt_mul (by rw[Nat.mul_comm];exact hjl);obtain⟨y,hy⟩:=au hd;have hmod:=zZ j hm;have NQ:j/m*m+j%m=j:=by rw[Nat.mul_comm];exact Nat.div_add_mod j m
    have h2:=vX (enc:=enc) hy hmod;rw[NQ,hu]at h2;have h3:=hcell _ y hy _ hmod;rw[Nat.add_assoc,NQ]at h3;rw[hadd,h3,h2])
   (λu hu=>by obtain⟨y,hy,hu⟩:=List.mem_flatMap.1 hu;simp[aG]at hu;obtain⟨j,_,rfl⟩:=hu;exact h1 y hy j) (by simp only[maxLen];omega)
   (by have:(xs.length+ys.length)*b<=4194304*64:=Nat.mul_le_mul hn hb;omega) hbase
  refine⟨v',w',hrun,?_,hgrow⟩;unfold Row;rw[kI,bN];exact hown
 ·have:ys=[]:=kZ (by omega)
  subst this
  cases A with
  | none=>
    refine⟨v,w,xK ht hi h c,by simpa using h,⟨rfl,rfl,rfl,ay _,λ_ _ _=>rfl⟩⟩
  | some ad=>
    obtain⟨v',w',hrun,hown,hgrow,_⟩:=run_append_own (P:=P) (ty:=ty) w base t e i z m b ht hi hz hs hby hzs hm v xs.length _ h ad 0 c [] (by simp) (λj u hu=>by simp at hu) (λu hu=>by cases hu) (by simp only[maxLen];omega)
     (by have:(xs.length+0)*b<=4194304*64:=Nat.mul_le_mul (by simpa using hn) hb;omega) hbase
    exact⟨v',w',by simpa using hrun,by simpa[Row] using hown,hgrow⟩
end
theorem wpList_append_run{P:Program}{w w':World}{ops:Array Oper}{rest:List Oper}{o:Oper}{a:Act}{Q:Exit->Act->World->Prop}{s x:Operand}{t:TypeId}{v u v':Value}(hgd:o.guard=none)
 (ho:o.op=.call { callee:=.builtin .append,args:=#[s,x],argTypes:=#[t,t] }) (hs:a.eval s=v) (hx:a.eval x=u) (hrun:(Builtin.append_ #[t,t] o.type #[v,u]).run P w=.ok v' w')
 (h:wpList P ops Q rest (a.put o.dst v') w'):wpList P ops Q (o :: rest) a w:=
 wpList_plain hgd λK hK=>by unfold Oper.wp execOp;simp only[ho,resolve,invoke,builtin,Sem.run_bind,Sem.run_pure,Result.andThen_ok,List.map_toArray,iF,nH,hs,hx,hrun];exact hK _ _ h
def one{α:Type}(enc:α->Value):α->Nat->Value:=λx _=>enc x
theorem mD.SI{α:Type}{enc:α->Value}{w:World}{v:Value}{xs:List α}(h:mD enc w v xs):aI 1 (one enc) w v xs:=by
 obtain⟨A,c,rfl,h⟩:=h;refine⟨A,c,rfl,λhn=>?_⟩;obtain⟨b,off,hA,hlt,hc⟩:=h hn;exact⟨b,off,hA,hlt,λi x hx j hj=>by
  obtain rfl:j=0:=by omega
  rw[Nat.mul_one,gL];exact hc i x hx⟩
theorem aI.Si{α:Type}{enc:α->Value}{w:World}{v:Value}{xs:List α}(h:aI 1 (one enc) w v xs):mD enc w v xs:=by
 obtain⟨A,c,rfl,h⟩:=h;refine⟨A,c,rfl,λhn=>?_⟩;obtain⟨b,off,hA,hlt,hc⟩:=h hn;exact⟨b,off,hA,hlt,λi x hx=>by
  have:=hc i x hx 0 (by omega)
  rw[Nat.mul_one,gL]at this;exact this⟩
end
theorem bQ(x lo hi:Int)(w:World) :
 Calls Tryz.prog 106 #[.int .i64 x,.int .i64 lo,.int .i64 hi] w λe w'=>e=.returned (.bool (kV x lo hi))/\w=w':=by
 unfold kV;by_cases h1:lo<=x<;>by_cases h2:x<=hi<;>(
  go_enter Tryz.func106,Tryz.ntmps106;go_wp2;go_ret
  simp[h1,h2])
theorem nC(x lo hi:Int)(w:World) :
 Calls Tryz.prog 68 #[.int .i64 x,.int .i64 lo,.int .i64 hi] w λe w'=>e=.returned (.bool (kV x lo hi))/\w=w':=by
 unfold kV;by_cases h1:lo<=x<;>by_cases h2:x<=hi<;>(
  go_enter Tryz.func68,Tryz.ntmps68;go_wp2;go_ret
  simp[h1,h2])
theorem FH(x:Int)(w:World) :
 Calls Tryz.prog 120 #[.int .i64 x] w λe w'=>e=.returned (.bool (kV x 0 99))/\w=w':=by
 go_enter Tryz.func120,Tryz.ntmps120;go_wp2_with (go_at_call 106;refine(bQ _ _ _ _).mono ?_;rintro e w' ⟨rfl,rfl⟩)
 go_ret
 simp
theorem vS(x:Int)(w:World) :
 Calls Tryz.prog 119 #[.int .i64 x] w λe w'=>e=.returned (.bool (kV x 0 2))/\w=w':=by
 go_enter Tryz.func119,Tryz.ntmps119;go_wp2_with (go_at_call 106;refine(bQ _ _ _ _).mono ?_;rintro e w' ⟨rfl,rfl⟩)
 go_ret
 simp
theorem He(x:Int)(w:World) :
 Calls Tryz.prog 133 #[.int .i64 x] w λe w'=>e=.returned (.bool (kV x 0 1000))/\w=w':=by
 go_enter Tryz.func133,Tryz.ntmps133;go_wp2_with (go_at_call 106;refine(bQ _ _ _ _).mono ?_;rintro e w' ⟨rfl,rfl⟩)
 go_ret
 simp
theorem sO(x:Int)(w:World) :
 Calls Tryz.prog 84 #[.int .i64 x] w λe w'=>e=.returned (.bool (kV x 0 3))/\w=w':=by
 go_enter Tryz.func84,Tryz.ntmps84;go_wp2_with (go_at_call 106;refine(bQ _ _ _ _).mono ?_;rintro e w' ⟨rfl,rfl⟩)
 go_ret
 simp
section
structure wR (P:Program) (KT:TypeId) {K:Type} [DecidableEq K] (fC:K->Value):Prop where
 check:∀b k W,(Instr.checkKey b 10000 KT (fC k)).run P W=.ok () W
 find:∀k (es:List MapEntry) (l:List (K × Value)),es.map (λe=>(e.key,e.val))=l.map (λp=>(fC p.1,p.2))->∀W,(Instr.findKey KT (fC k) es).run P W=.ok ((l.findIdx? (λp=>p.1==k)).map λj=>(j,(l[j]?.map (·.2)).getD undef)) W
 stay:∀k W,(Instr.keyThatStays (fC k) (fC k)).run P W=.ok (fC k) W
def iJ(w:World)(g:Nat){K:Type}[DecidableEq K](fC:K->Value)(m:K->Option Value):Prop:=
 ∃(es:Array MapEntry) (sP:Nat) (l:List (K × Value)),w.heap[g]? =some (.map es sP)/\es.toList.map (λe=>(e.key,e.val))=l.map (λp=>(fC p.1,p.2))/\∀k,(l.find? λp=>p.1==k).map (·.2)=m k
def aK(w:World)(g:Nat)(o:Obj):World:={ w with heap:=w.heap.setIfInBounds g o }
def DZ(w:World)(g n:Nat):Prop:=∃(es:Array MapEntry) (sP:Nat),w.heap[g]? =some (.map es sP)/\es.size<=n
theorem DZ.ext{w w':World}{g n:Nat}(h:DZ w g n)(hb:Ext w w'):DZ w' g n:=by obtain⟨es,sP,h,h2⟩:=h;exact⟨es,sP,(Below.block hb g (by rcases eX g w.heap.size with h'|h';exact h';rw[oJ h']at h;cases h)).trans h,h2⟩
theorem DZ.made(w:World):DZ (w.alloc (.map #[] 0)) w.heap.size 0:=⟨#[],0,dx w _,ay _⟩
section
variable{K:Type}[DecidableEq K]{fC:K->Value}{m m':K->Option Value}{P:Program}{w w':World}{g:Nat}{T KT E:TypeId}
theorem iJ.lt(h:iJ w g fC m):g<w.heap.size:=by
 obtain⟨es,sP,l,h,_⟩:=h;rcases eX g w.heap.size with h'|h'
 ·exact h'
 ·rw[oJ h']at h;cases h
theorem iJ.ext(h:iJ w g fC m)(hb:Ext w w'):iJ w' g fC m:=by have hl:=h.lt;obtain⟨es,sP,l,h,h2⟩:=h;exact⟨es,sP,l,(Below.block hb g hl).trans h,h2⟩
theorem iJ.congr(h:iJ w g fC m)(e:∀k,m k=m' k):iJ w g fC m':=by obtain⟨es,sP,l,h1,h2,h3⟩:=h;exact⟨es,sP,l,h1,h2,λk=>(h3 k).trans (e k)⟩
theorem iJ.made(w:World)(fC:K->Value):iJ (w.alloc (.map #[] 0)) w.heap.size fC (λ_=>none):=
 ⟨#[],0,[],dx w _,rfl,λ_=>rfl⟩
theorem mV(l:List (K × Value))(k:K):l.find? (λp=>p.1==k)=(l.findIdx? (λp=>p.1==k)).bind λj=>l[j]?:=by
 induction l with
 | nil=>rfl
 | cons p l ih=>
   rw[List.find?_cons,List.findIdx?_cons];by_cases e:(p.1==k)=true
   ·simp[e]
   ·simp only[Bool.not_eq_true]at e;simp only[e,ih]
    cases l.findIdx? (λp=>p.1==k) with
    | none=>simp
    | some j=>simp
theorem kg(hT:P.underlying T=some (.map KT E))(hK:wR P KT fC){z:Value}(hE:∀w,(zeroValue E).run P w=.ok z w)(h:iJ w g fC m)(k:K) :
 (Instr.lookup T (.map (some g)) (fC k) true).run P w=.ok (.tuple #[(m k).getD z,.bool (m k).isSome]) w:=by
 obtain⟨es,sP,l,hg,hl,hm⟩:=h;have hf:=hK.find k es.toList l hl w;have EP:(getObj g).run P w=.ok (.map es sP) w:=by simp[getObj,Sem.run,hg]
 simp only[Instr.lookup,Sem.run_bind,run_underlying hT,Result.andThen_ok,EP,Sem.run_pure,hK.check,hf];have hmk:=hm k;rw[mV]at hmk
 cases hidx:l.findIdx? (λp=>p.1==k) with
 | none=>
   rw[hidx]at hmk;simp only[Option.bind_none,Option.map_none]at hmk;rw[<-hmk];simp[hE]
 | some j=>
   rw[hidx]at hmk;simp only[Option.bind_some]at hmk;have hj:j<l.length:=(List.findIdx?_eq_some_iff_getElem.1 hidx).1;rw[dz hj]at hmk;simp only[Option.map_some]at hmk;rw[<-hmk];simp[dz hj]
theorem uX(hT:P.underlying T=some (.map KT E))(hK:wR P KT fC){z:Value}(hE:∀w,(zeroValue E).run P w=.ok z w)(h:iJ w g fC m)(k:K) :
 (Instr.lookup T (.map (some g)) (fC k) false).run P w=.ok ((m k).getD z) w:=by
 obtain⟨es,sP,l,hg,hl,hm⟩:=h;have hf:=hK.find k es.toList l hl w;have EP:(getObj g).run P w=.ok (.map es sP) w:=by simp[getObj,Sem.run,hg]
 simp only[Instr.lookup,Sem.run_bind,run_underlying hT,Result.andThen_ok,EP,Sem.run_pure,hK.check,hf];have hmk:=hm k;rw[mV]at hmk
 cases hidx:l.findIdx? (λp=>p.1==k) with
 | none=>
   rw[hidx]at hmk;simp only[Option.bind_none,Option.map_none]at hmk;rw[<-hmk];simp[hE]
 | some j=>
   rw[hidx]at hmk;simp only[Option.bind_some]at hmk;have hj:j<l.length:=(List.findIdx?_eq_some_iff_getElem.1 hidx).1;rw[dz hj]at hmk;simp only[Option.map_some]at hmk;rw[<-hmk];simp[dz hj]
theorem dP(hT:P.underlying T=some (.map KT E))(hK:wR P KT fC)(h:iJ w g fC m)(k:K)(v:Value) :
 ∃o,(Instr.mapUpdate T (.map (some g)) (fC k) v).run P w=.ok () (aK w g o)/\iJ (aK w g o) g fC (λi=>if i=k then some v else m i)/\∀n,DZ w g n->DZ (aK w g o) g (n+1):=by
 have hlt:=h.lt;obtain⟨es,sP,l,hg,hl,hm⟩:=h;have hf:=hK.find k es.toList l hl w;have EP:(getObj g).run P w=.ok (.map es sP) w:=by simp[getObj,Sem.run,hg]
 have hset:∀o,(setObj g o).run P w=.ok () (aK w g o):=λo=>by simp[setObj,Sem.run,hg,aK]
 cases hidx:l.findIdx? (λp=>p.1==k) with
 | none=>
   refine⟨.map (es.push { key:=fC k,val:=v,born:=sP }) (sP+1),?_,?_,λn ⟨es2,X8,h2,hn⟩=>⟨_,_,by simp[aK,hlt];exact⟨rfl,rfl⟩,by rw[hg]at h2;cases h2;simp;exact hn⟩⟩
   ·simp only[Instr.mapUpdate,Sem.run_bind,run_underlying hT,Result.andThen_ok,EP,hK.check,hf,hidx,Option.map_none];exact hset _
   ·refine⟨_,_,l++[(k,v)],by simp[aK,hlt];exact⟨rfl,rfl⟩,by simp[hl],λi=>?_⟩;have hnone:l.find? (λp=>p.1==k)=none:=by rw[mV,hidx];rfl
    show _=if i=k then some v else m i
    rw[List.find?_append];by_cases e:i=k
    ·subst e;rw[hnone];simp
    ·have e1:(k==i)=false:=by simp;exact λh=>e h.symm
     rw[ak e,<-hm i]
     cases l.find? (λp=>p.1==i) with
     | none=>simp[e1]
     | some q=>simp
 | some j=>
   have hj:j<l.length:=(List.findIdx?_eq_some_iff_getElem.1 hidx).1;have hjk:(l[j].1==k)=true:=(List.findIdx?_eq_some_iff_getElem.1 hidx).2.1;have hbef:∀i (hi:i<j),(l[i].1==k)=false:=λi hi=>by
    have:=(List.findIdx?_eq_some_iff_getElem.1 hidx).2.2 i hi
    simpa using this
   have hes:es.toList.length=l.length:=by have:=fU List.length hl;simpa using this
   have hkey:(es[j]?.map (·.key))=some (fC k):=by
    have h1:=fU (λx=>x[j]?) hl;simp only[jM,dz hj,Option.map_some]at h1;have h2:es.toList[j]? =es[j]?:=by simp
    rw[h2]at h1
    cases he:es[j]? with
    | none=>rw[he]at h1;simp at h1
    | some e=>
      rw[he]at h1;simp at h1;simp only[Option.map_some,h1.1];rw[eq_of_beq hjk]
   refine⟨.map (es.modify j λe=>{ e with key:=fC k,val:=v }) sP,?_,?_,λn ⟨es2,X8,h2,hn⟩=>⟨_,_,by simp[aK,hlt];exact⟨rfl,rfl⟩,by rw[hg]at h2;cases h2;simp;omega⟩⟩
   ·simp only[Instr.mapUpdate,Sem.run_bind,run_underlying hT,Result.andThen_ok,EP,hK.check,hf,hidx,Option.map_some,hkey,Option.getD_some,hK.stay];exact hset _
   ·refine⟨_,_,l.modify j (λ_=>(k,v)),by simp[aK,hlt];exact⟨rfl,rfl⟩,?_,λi=>?_⟩
    ·apply List.ext_getElem?;intro i;have h1:=fU (λx=>x[i]?) hl;simp only[jM]at h1;simp only[jM,Array.toList_modify,List.getElem?_modify];by_cases e:j=i
     ·subst e;simp only[if_true];rw[dz hj,dz (by omega)];rfl
     ·simp only[ak e];cases h2:es.toList[i]?<;>cases h3:l[i]?<;>rw[h2,h3]at h1<;>simp_all
    ·show _=if i=k then some v else m i
     by_cases e:i=k
     ·subst e;rw[ah rfl,mV]
      have:(l.modify j λ_=>(i,v)).findIdx? (λp=>p.1==i)=some j:=by rw[List.findIdx?_eq_some_iff_getElem];refine⟨by simpa using hj,by simp,λq hq=>?_⟩;rw[List.getElem_modify,ak (by omega)];simpa using hbef q hq
      rw[this];simp[List.getElem?_modify,hj]
     ·rw[ak e,<-hm i];have hne:∀q:K × Value,q.1=k->(q.1==i)=false:=λq hq=>by simp[hq];exact λh=>e h.symm
      have V3:l[j].1=k:=eq_of_beq hjk;congr 1;have key:∀(l:List (K × Value)) (j:Nat),(∀q,l[j]? =some q->q.1=k)->(l.modify j λ_=>(k,v)).find? (λp=>p.1==i)=l.find? (λp=>p.1==i):=by
       intro l
       induction l with
       | nil=>intro j _;simp
       | cons p l ih=>
         intro j hq
         cases j with
         | zero=>
           have:=hq p (by simp)
           simp[hne p this,hne (k,v) rfl]
         | succ j=>
           simp only[List.modify_succ_cons,List.find?_cons];rw[ih j (λq h=>hq q (by simpa using h))]
      exact key l j (λq h=>by rw[dz hj]at h;cases h;exact V3)
theorem Ext.aK{a b:World}(h:Ext a b){g:Nat}(hg:a.heap.size<=g)(o:Obj):Ext a (aK b g o):=by have h':Below a.heap.size a b:=h;refine⟨h'.os,h'.tape,h'.output,by simp[Proofs.YtcdopfdgknglfaaGreatDoor.aK];exact h'.size,λk hk=>?_⟩;simp only[Proofs.YtcdopfdgknglfaaGreatDoor.aK,Array.getElem?_setIfInBounds];rw[ak (by omega)];exact h'.block k hk
theorem FQ{w:World}{g:Nat}{o:Obj}{p:Addr}(hp:p.block≠g):(Proofs.YtcdopfdgknglfaaGreatDoor.aK w g o).cell? p=w.cell? p:=by simp only[World.cell?,Proofs.YtcdopfdgknglfaaGreatDoor.aK,Array.getElem?_setIfInBounds];rw[ak (λe=>hp e.symm)]
end
theorem Ga(k:Int):∀(es:List MapEntry) (l:List (Int × Value)) (i:Nat),es.map (λe=>(e.key,e.val))=l.map (λp=>(Value.int .i64 p.1,p.2)) ->
 Instr.findNow (.int .i64) (.int .i64 k) es i=some ((l.findIdx? (λp=>p.1==k)).map λj=>(i+j,(l[j]?.map (·.2)).getD undef))
 | [],[],i,_=>by simp[Instr.findNow]
 | [],_ :: _,_,h=>by simp at h
 | _ :: _,[],_,h=>by simp at h
 | e :: es,p :: l,i,h=>by
   simp only[iF,List.cons.injEq,Prod.mk.injEq]at h;obtain⟨⟨hk,hv⟩,h⟩:=h;have ih:=Ga k es l (i+1) h;rw[Instr.findNow,hk,hv];simp only[Instr.sameNow,if_true];by_cases e:k=p.1
   ·subst e;simp[List.findIdx?_cons]
   ·have e1:(k==p.1)=false:=by simp[e]
    have e2:(p.1==k)=false:=by simp;exact λh=>e h.symm
    rw[e1];simp only[ih,List.findIdx?_cons,e2];simp only[Option.map_map,Bool.false_eq_true,if_false]
    cases l.findIdx? (λp=>p.1==k) with
    | none=>rfl
    | some j=>simp;omega
theorem jG{P:Program}{KT:TypeId}(hK:P.underlying KT=some (.int .i64)):wR P KT (Value.int .i64) where
 check b k W:=Go.MapKept.run_checkKey hK (by simp[Go.MapKept.IsKey]) b 9999
 find k es l h W:=by simp only[Instr.findKey,Sem.run_bind,run_underlying hK,Result.andThen_ok,Ga k es l 0 h,Sem.run_pure,kP]
 stay k W:=by simp[Instr.keyThatStays,Instr.sameBits]
theorem zu{P:Program}{KT:TypeId}{K:Type}[DecidableEq K]{fC:K->Value}{d:TypeDesc}(hd:P.underlying KT=some d)(hno:∀k p,Instr.sameNow d (fC k) (fC p)=none)
 (hc:∀b k W,(Instr.checkKey b 10000 KT (fC k)).run P W=.ok () W) (he:∀k p W,(Op.equal KT (fC k) (fC p)).run P W=.ok (decide (k=p)) W) (hs:∀k,Instr.sameBits 10000 (fC k) (fC k)=true):wR P KT fC where
 check:=hc
 find k es l h W:=by
  have YB:∀(es:List MapEntry) (l:List (K × Value)) (i:Nat),es.map (λe=>(e.key,e.val))=l.map (λp=>(fC p.1,p.2))->(Instr.findAsking KT (fC k) es i).run P W=.ok ((l.findIdx? (λp=>p.1==k)).map λj=>(i+j,(l[j]?.map (·.2)).getD undef)) W:=by
   intro es
   induction es with
   | nil=>
     intro l i h
     cases l with
     | nil=>simp[Instr.findAsking]
     | cons p l=>simp at h
   | cons e es ih=>
     intro l i h
     cases l with
     | nil=>simp at h
     | cons p l=>
       simp only[iF,List.cons.injEq,Prod.mk.injEq]at h;obtain⟨⟨hk,hv⟩,h⟩:=h;have ih:=ih l (i+1) h;rw[Instr.findAsking,hk,hv];simp only[Sem.run_bind,he,Result.andThen_ok];by_cases e:k=p.1
       ·subst e;simp[List.findIdx?_cons]
       ·have e2:(p.1==k)=false:=by simp;exact λh=>e h.symm
        simp only[jW e,Bool.false_eq_true,if_false,ih,List.findIdx?_cons,e2];simp only[Option.map_map]
        cases l.findIdx? (λp=>p.1==k) with
        | none=>rfl
        | some j=>simp;omega
  simp only[Instr.findKey,Sem.run_bind,run_underlying hd,Result.andThen_ok]
  cases es with
  | nil=>
    cases l with
    | nil=>simp[Instr.findNow]
    | cons p l=>simp at h
  | cons e es=>
    cases l with
    | nil=>simp at h
    | cons p l=>
      have hk:e.key=fC p.1:=by simp only[iF,List.cons.injEq,Prod.mk.injEq]at h;exact h.1.1
      have:=YB (e :: es) (p :: l) 0 h
      simp only[kP]at this;rw[Instr.findNow,hk,hno];exact this
 stay k W:=by simp[Instr.keyThatStays,hs]
end
