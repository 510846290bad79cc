/- Lemmas. -/
import Derived.Test.YtcdopfdgknglfaaGreatDoorKAB
set_option maxHeartbeats 16000000
set_option maxRecDepth 8000
set_option linter.all false
namespace Go.Proofs.YtcdopfdgknglfaaGreatDoor
open Go.RowKit
def tq(p:Int × Int):Value:=.agg #[.int .i64 p.1,.int .i64 p.2]
theorem JV(a b c d:Int)(W:World):(Op.equalIn 10000 118 (.agg #[.int .i64 a,.int .i64 b]) (.agg #[.int .i64 c,.int .i64 d])).run Tryz.prog W=.ok (decide (a=c)&&decide (b=d)) W:=by
 have u3:=agC;have a3:=Tryz.isAgg3;have z3:=Tryz.sizeOf3;have hS:Tryz.prog.underlying 118=some (.struct (Tryz.prog.fieldsOf 118)):=by kernel_rfl
 have hp:Tryz.prog.stoodInHeld 118=false:=by kernel_rfl
 rw[show (10000:Nat)=9999+1 from rfl,run_equalIn_agg W 9999 _ _ _ hS hp];simp only[Program.fieldsOf,Tryz.underlying118];go_simp;by_cases h1:a=c<;>by_cases h2:b=d<;>simp[h1,h2]
theorem P9(p q:Int × Int)(W:World):(Op.equal 118 (tq p) (tq q)).run Tryz.prog W=.ok (decide (p=q)) W:=by obtain⟨a,b⟩:=p;obtain⟨c,d⟩:=q;have h:=JV a b c d W;unfold tq;simp only[Op.equal,Op.maxDepth];rw[h];congr 1;rw[kQ];simp
theorem xg:Er Tryz.prog 118 tq:=
 Ia Tryz.underlying118 (λk p=>by simp[Instr.sameNow]) (λb k W=>by have u3:=agC;have a3:=Tryz.isAgg3;have z3:=Tryz.sizeOf3;have hi:∀x W,(Instr.checkKey b 9999 3 (.int .i64 x)).run Tryz.prog W=.ok () W:=λx W=>Go.MapKept.run_checkKey u3 (by simp[Go.MapKept.IsKey]) b 9998;unfold tq;rw[show (10000:Nat)=9999+1 from rfl,Instr.checkKey];simp only[Sem.run_bind,run_underlying Tryz.underlying118,Result.andThen_ok];go_simp) P9 (λk=>by unfold tq;simp[Instr.sameBits])
theorem sw(a b c a' b' c':Int)(W:World):(Op.equalIn 10000 67 (.agg #[.int .i64 a,.int .i64 b,.int .i64 c]) (.agg #[.int .i64 a',.int .i64 b',.int .i64 c'])).run Tryz.prog W=.ok (decide (a=a'/\b=b'/\c=c')) W:=by
 have u3:=agC;have a3:=Tryz.isAgg3;have z3:=Tryz.sizeOf3;have hS:Tryz.prog.underlying 67=some (.struct (Tryz.prog.fieldsOf 67)):=by kernel_rfl
 have hp:Tryz.prog.stoodInHeld 67=false:=by kernel_rfl
 rw[show (10000:Nat)=9999+1 from rfl,run_equalIn_agg W 9999 _ _ _ hS hp];simp only[Program.fieldsOf,Mr];go_simp;by_cases h1:a=a'<;>by_cases h2:b=b'<;>by_cases h3:c=c'<;>simp[h1,h2,h3]
theorem BD:Tryz.prog.eqGuardType Tryz.prog.depth 67=false:=by kernel_rfl
def N9(h:List aG)(key value:Int):Nat:=((Da h).map (·.1)).count (key,value)
def o8(h:List aG)(k:Nat)(ops:List aV)(j:Nat)(key value:Int):Nat:=((dY h k ops j).map (·.1)).count (key,value)
theorem U4{h:List aG}{k j:Nat}{ops:List aV}{o:aV}{key value:Int}(ho:ops[j]? =some o)(he:o.kind=2/\o.key=key/\o.value=value):o8 h k ops (j+1) key value=o8 h k ops j key value+1:=by
 have hw:jQ o=true:=by simp[jQ,he.1]
 unfold o8;rw[tu ho hw,rR,List.count_append];simp[he.2.1,he.2.2]
theorem Sz{h:List aG}{k j:Nat}{ops:List aV}{o:aV}{key value:Int}(ho:ops[j]? =some o)(he:¬(o.kind=2/\o.key=key/\o.value=value)):o8 h k ops (j+1) key value=o8 h k ops j key value:=by
 unfold o8
 cases hw:jQ o with
 | true=>
   have hk:o.kind=2:=by simpa[jQ] using hw
   rw[tu ho hw,rR,List.count_append]
   have:List.count (key,value) (List.map (λp:(Int × Int) × Nat=>p.1) [((o.key,o.value),k)])=0:=by rw[List.count_eq_zero];simp;intro h1 h2;exact he ⟨hk,h1.symm,h2.symm⟩
   rw[this];rfl
 | false=>rw[Bn ho hw]
theorem Ry{h:List aG}{k:Nat}{t:aG}{key value:Int}(ht:h[k]? =some t):o8 h k t.ops t.ops.length key value=((wrsFrom 0 (h.take (k+1))).map (·.1)).count (key,value):=by unfold o8;rw[C8 ht]
theorem Uv{h:List aG}{M:Nat}(hM:∀t∈h,t.ops.length<=M)(k:Nat)(ops:List aV)(j:Nat):(dY h k ops j).length<=k*M+j:=by
 have h1:∀n (l:List aG),(∀t∈l,t.ops.length<=M)->(wrsFrom n l).length<=l.length*M:=by
  intro n l
  induction l generalizing n with
  | nil=>simp[wrsFrom]
  | cons t l ih=>
    intro hl;have h2:=ih (n+1) (λt ht=>hl t (by simp[ht]));have h3:=hl t (by simp);have h4:(iC n t.ops).length<=t.ops.length:=by simp[iC];exact mO _ _
    rw[wrsFrom,dw,eO,Nat.succ_mul];omega
 have h2:=h1 0 (h.take k) (λt ht=>hM t (oI ht));have h3:(iC k (ops.take j)).length<=j:=by
  have:(iC k (ops.take j)).length<=(ops.take j).length:=by simp only[iC,dX];exact mO _ _
  have h5:=List.length_take_le j ops;omega
 have h4:(h.take k).length*M<=k*M:=Nat.mul_le_mul_right _ (List.length_take_le _ _);rw[dY,dw];omega
theorem Wv{h:List aG}{M:Nat}(hM:∀t∈h,t.ops.length<=M)(k:Nat)(ops:List aV)(j:Nat)(key value:Int):o8 h k ops j key value<=k*M+j:=by have h1:=Uv hM k ops j;have h2:o8 h k ops j key value<=((dY h k ops j).map (·.1)).length:=List.count_le_length;rw[dX]at h2;omega
theorem Mq{v:Value}{h:List aG}(key value:Int)(w:World)(H:iM w v h)(hlen:h.length<=2097152)(hM:∀t∈h,t.ops.length<=2097152) :
 Calls Tryz.prog 39 #[v,.int .i64 key,.int .i64 value] w λe w'=>e=.returned (.int .i64 (N9 h key value:Nat))/\w=w':=by
 obtain⟨A,c,rfl⟩:=H.slice;have HH:=aa H;have HM:=aa hM;have hg:=BD;clear H hM;go_enter Tryz.func39,Tryz.ntmps39;go_wp2;go_loopw [7,8] (λm i wr=>w=wr/\∃k:Nat,k<=h.length/\i=.int .i64 k/\m=.int .i64 ((o8 h k [] 0 key value:Nat):Int)) (λ_ i _=>h.length-(intOf i).toNat)
 case atStart=>exact⟨rfl,0,aT _,rfl,by simp[o8,dY,wrsFrom,iC]⟩
 case round=>
  obtain⟨rfl,k,hk,rfl,rfl⟩:=hrel;by_cases hlt:k<h.length
  ·obtain⟨b,off,rfl,hbl,hc⟩:=HH.out.head (by omega);obtain⟨t,ht⟩:=ah hlt;obtain⟨ov,c0,c1,c2,hs⟩:=hc k t ht;obtain⟨A',c',rfl,hc'⟩:=hs;have hl:=HM.out t (aM ht);have hc0:Hid (o8 h k [] 0 key value=o8 h k t.ops 0 key value):=by show _ = _;simp[o8,dY,iC]
   have HT:=aa ht;have HC':=aa hc';rw[hc0.out];clear ht hc hc' c0 c2 hc0;go_wp2;go_loopw [7,9] (λm i wr'=>w=wr'/\∃j:Nat,j<=t.ops.length/\i=.int .i64 j/\m=.int .i64 ((o8 h k t.ops j key value:Nat):Int)) (λ_ i _=>t.ops.length-(intOf i).toNat)
   case atStart=>exact⟨rfl,0,aT _,rfl,rfl⟩
   case round=>
    obtain⟨rfl,j,hj,rfl,rfl⟩:=hrel;by_cases hjt:j<t.ops.length
    ·obtain⟨b',off',rfl,ru,hcc⟩:=HC'.out (by omega);obtain⟨o,ho⟩:=ah hjt;have d0:w.cell? ⟨b',off'+j*3,none⟩=some (.int .i64 o.kind):=hcc j o ho 0 (by omega);have d1:w.cell? ⟨b',off'+j*3+1,none⟩=some (.int .i64 o.key):=hcc j o ho 1 (by omega);have d2:w.cell? ⟨b',off'+j*3+2,none⟩=some (.int .i64 o.value):=hcc j o ho 2 (by omega);have he:=λW=>sw o.kind o.key o.value 2 key value W;have hle:=Wv HM.out k t.ops j key value;by_cases hm:o.kind=2/\o.key=key/\o.value=value
     ·have hn:=aa (U4 (h:=h) (k:=k) ho hm);rw[jw hm]at he;clear hm ho hcc;go_wp2;go_roundw;case rel=>exact⟨trivial,j+1,by omega,by go_num,by rw[hn.out];go_num⟩
      case measure=>simp[intOf];omega
     ·have hn:=aa (Sz (h:=h) (k:=k) ho hm);rw[dU hm]at he;clear hm ho hcc;go_wp2;go_roundw;case rel=>exact⟨trivial,j+1,by omega,by go_num,by rw[hn.out]⟩
      case measure=>simp[intOf];omega
    ·obtain rfl:j=t.ops.length:=by omega
     go_wp2;go_roundw;case rel=>exact⟨trivial,k+1,by omega,by go_num,by rw[Ry HT.out];simp[o8,dY,iC]⟩
     case measure=>simp[intOf];omega
  ·obtain rfl:k=h.length:=by omega
   go_wp2;go_returns;exact⟨bU (by simp[o8,dY,iC,N9,Da]),rfl⟩
theorem QV{h:List aG}{t:aG}(ht:t∈h)(hb:dG t=false):aD h=false:=by rw[aD,show h.all dG=false from by rw[List.all_eq_false];exact⟨t,ht,by simp[hb]⟩];simp
theorem O6{h:List aG}{key value:Int}(hc:1<N9 h key value):aD h=false:=by
 have:kH h=false:=by
  unfold kH;rw[decide_eq_false_iff_not,List.nodup_iff_count];intro hn
  have:=hn (key,value)
  unfold N9 at hc;omega
 rw[aD,this];simp
theorem Ub{h:List aG}{q:Int × Int}{n:Nat}(hm:(q,n)∈Da h):∃t,h[n]? =some t/\∃o∈t.ops,jQ o=true/\(o.key,o.value)=q:=by
 have key:∀(l:List aG) (s:Nat),(q,n)∈wrsFrom s l->∃i t,n=s+i/\l[i]? =some t/\∃o∈t.ops,jQ o=true/\(o.key,o.value)=q:=by
  intro l
  induction l with
  | nil=>intro s hm;simp[wrsFrom]at hm
  | cons t l ih=>
    intro s hm;rw[wrsFrom,iR]at hm;rcases hm with hm|hm
    ·simp only[iC,fV,nT]at hm;obtain⟨o,⟨ho,hw⟩,e⟩:=hm;injection e with e1 e2;exact⟨0,t,by omega,rfl,o,ho,hw,e1⟩
    ·obtain⟨i,t',e,ht,h2⟩:=ih (s+1) hm;exact⟨i+1,t',by omega,by simpa using ht,h2⟩
 obtain⟨i,t,e,ht,h2⟩:=key h 0 hm;exact⟨t,by rw[e,ig];exact ht,h2⟩
theorem OO{h:List aG}(ht:∀t∈h,dG t=true)(hc:∀t∈h,∀o∈t.ops,jQ o=true->N9 h o.key o.value<=1):aD h=decide (h.length<=6):=by
 have h1:h.all dG=true:=by rw[kT];exact ht
 have h2:kH h=true:=by
  unfold kH;rw[rU,List.nodup_iff_count];intro q;rcases Nat.eq_zero_or_pos (((Da h).map (·.1)).count q) with h0|h0
  ·omega
  ·obtain⟨p,hp,rfl⟩:=fV.1 (List.count_pos_iff.1 h0);obtain⟨q,n⟩:=p;obtain⟨t,ht,o,ho,hw,rfl⟩:=Ub hp;exact hc t (aM ht) o ho hw
 rw[aD,h1,h2];simp
theorem bJ{v:Value}{h:List aG}(w:World)(H:iM w v h)(hlen:h.length<=2097152)(hM:∀t∈h,t.ops.length<=2097152) :
 Calls Tryz.prog 10 #[v] w λe w'=>e=.returned (.bool (aD h))/\Ext w w':=by
 obtain⟨A,c,rfl⟩:=H.slice;have HH:=aa H;have HM:=aa hM;clear H hM;go_enter Tryz.func10,Tryz.ntmps10;go_wp2;go_loopw [3] (λi wr=>Ext w wr/\∃k:Nat,k<=h.length/\i=.int .i64 k/\Hid (∀i t,i<k->h[i]? =some t->dG t=true/\∀o∈t.ops,jQ o=true->N9 h o.key o.value<=1)) (λi _=>h.length-(intOf i).toNat)
 case atStart=>exact⟨af _,0,aT _,rfl,λi t hi=>absurd hi (gu i)⟩
 case round=>
  obtain⟨hb,k,hk,rfl,HI⟩:=hrel;by_cases hlt:k<h.length
  ·obtain⟨b,off,rfl,hbl,hc⟩:=HH.out.head (by omega);obtain⟨t,ht⟩:=ah hlt;obtain⟨ov,c0,c1,c2,hs⟩:=hc k t ht;replace c0:=hb.cell c0;replace c1:=hb.cell c1;replace c2:=hb.cell c2;have hl:=HM.out t (aM ht);have HT:=aa ht;have HS:=aa (hs.ext hb);clear ht hc hs;go_wp2_with fail
   refine(nE t ov _ HS.out hl).mono ?_
   cases hok:dG t with
   | false=>
     rintro e w1 ⟨rfl,b1⟩;go_wp2;go_returns;exact⟨aS (QV (aM HT.out) hok).symm,hb.trans b1⟩
   | true=>
     rintro e w1 ⟨rfl,b1⟩;have c1':=b1.cell c1;have yS:=aa (HS.out.ext b1);obtain⟨A',c',rfl,_⟩:=id yS.out;clear c0 c1 c2 HS;go_wp2;go_loopw [4] (λi wr'=>Ext w1 wr'/\∃j:Nat,j<=t.ops.length/\i=.int .i64 j/\Hid (∀i o,i<j->t.ops[i]? =some o->jQ o=true->N9 h o.key o.value<=1)) (λi _=>t.ops.length-(intOf i).toNat)
     case atStart=>exact⟨af _,0,aT _,rfl,λi o hi=>absurd hi (gu i)⟩
     case round=>
      obtain⟨hb2,j,hj,rfl,HJ⟩:=hrel;replace c1':=hb2.cell c1';by_cases hjt:j<t.ops.length
      ·obtain⟨A2,c2,hA2,hcc⟩:=yS.out.ext hb2;injection hA2 with e1 e2 e3;subst e1 e3;obtain⟨b',off',rfl,ru,hcc⟩:=hcc (by omega);obtain⟨o,ho⟩:=ah hjt;have d0:wr.cell? ⟨b',off'+j*3,none⟩=some (.int .i64 o.kind):=hcc j o ho 0 (by omega);have d1:wr.cell? ⟨b',off'+j*3+1,none⟩=some (.int .i64 o.key):=hcc j o ho 1 (by omega);have d2:wr.cell? ⟨b',off'+j*3+2,none⟩=some (.int .i64 o.value):=hcc j o ho 2 (by omega);have Ho:=aa ho;have adK:Hid (Ext w (wr.alloc (.cells #[.int .i64 o.kind,.int .i64 o.key,.int .i64 o.value] 67))):=(((hb.trans b1).trans hb2).alloc _);clear hcc ho e2
       cases hw:(o.kind==2) with
       | false=>
         go_wp2;go_roundw;case rel=>exact⟨hb2.alloc _,j+1,by omega,by go_num,λi o' hi ho' hw'=>by
          rcases eP i j with h'|h'
          ·exact HJ.out i o' h' ho' hw'
          ·obtain rfl:i=j:=by omega
           rw[Ho.out]at ho';cases ho';simp only[jQ,hw]at hw';cases hw'⟩
         case measure=>simp[intOf];omega
       | true=>
         go_wp2_with fail
         refine(Mq o.key o.value _ (HH.out.ext adK.out) hlen HM.out).mono ?_
         rintro e w2 ⟨rfl,rfl⟩;by_cases hcn:1<N9 h o.key o.value
         ·go_wp2;go_returns;exact⟨aS (O6 hcn).symm,adK.out⟩
         ·go_wp2;go_roundw;case rel=>exact⟨hb2.alloc _,j+1,by omega,by go_num,λi o' hi ho' hw'=>by
           rcases eP i j with h'|h'
           ·exact HJ.out i o' h' ho' hw'
           ·obtain rfl:i=j:=by omega
            rw[Ho.out]at ho';cases ho'
            omega⟩
          case measure=>simp[intOf];omega
      ·obtain rfl:j=t.ops.length:=by omega
       go_wp2;go_roundw;case rel=>exact⟨(hb.trans b1).trans hb2,k+1,by omega,by go_num,λi t' hi ht'=>by
        rcases eP i k with h'|h'
        ·exact HI.out i t' h' ht'
        ·obtain rfl:i=k:=by omega
         rw[HT.out]at ht';cases ht';exact⟨hok,λo ho hw=>by obtain⟨i,hi,rfl⟩:=jq ho;exact HJ.out i _ hi (dJ hi) hw⟩⟩
       case measure=>simp[intOf];omega
  ·obtain rfl:k=h.length:=by omega
   have hf:Hid (∀r,decide (h.length<=6)=r->aD h=r):=λr hr=>by
    rw[<-hr];refine OO (λt ht=>?_) (λt ht=>?_)
    ·obtain⟨i,hi,rfl⟩:=jq ht
     exact(HI.out i _ hi (dJ hi)).1
    ·obtain⟨i,hi,rfl⟩:=jq ht
     exact(HI.out i _ hi (dJ hi)).2
   by_cases h6:h.length<=6
   ·go_wp2;go_returns;exact⟨aS (by rw[hf.out true (by simpa using h6)];simp;omega),hb⟩
   ·go_wp2;go_returns;exact⟨aS (by rw[hf.out false (by simpa using h6)];simp;omega),hb⟩
def jl(n:Nat):Value:=.int .i64 (n:Int)
def Ba(l:List ((Int × Int) × Nat))(q:Int × Int):Option Value:=(lookW l q).map jl
def acF(h:List aG)(w:World)(e:Ending)(w':World):Prop:=
 Ext w w'/\((kH h=true/\∃g,e=.returned (.tuple #[.map (some g),.bool true])/\lY w' g tq (Ba (Da h)))∨(kH h=false/\e=.returned (.tuple #[.map none,.bool false])))
theorem VO{l:List ((Int × Int) × Nat)}{q:Int × Int}{n:Nat}(hq:lookW l q=none)(r:Int × Int):(if r=q then some (jl n) else Ba l r)=Ba (l++[(q,n)]) r:=by
 unfold Ba;rw[SN l q n hq]
 split<;>rfl
theorem H8(W:World):(zeroValue 3).run Tryz.prog W=.ok (.int .i64 0) W:=by kernel_rfl
theorem Bu{v:Value}{h:List aG}(w:World)(H:iM w v h)(hlen:h.length<=2097152)(hM:∀t∈h,t.ops.length<=2097152) :
 Calls Tryz.prog 44 #[v] w (acF h w):=by
 obtain⟨A,c,rfl⟩:=H.slice;have HH:=aa H;have HM:=aa hM;have hmk:=@run_makeMap Tryz.prog;clear H hM;go_enter Tryz.func44,Tryz.ntmps44;go_wp2;clear hmk;go_loopw [15] (λi wr=>Ext w wr/\∃k:Nat,k<=h.length/\i=.int .i64 k/\Hid (lY wr w.heap.size tq (Ba (dY h k [] 0))/\((dY h k [] 0).map (·.1)).Nodup)) (λi _=>h.length-(intOf i).toNat)
 case atStart=>exact⟨(af _).alloc _,0,aT _,rfl,lY.made w tq,by simp[dY,wrsFrom,iC]⟩
 case round=>
  obtain⟨hb,k,hk,rfl,HI⟩:=hrel;by_cases hlt:k<h.length
  ·obtain⟨b,off,rfl,hbl,hc⟩:=HH.out.head (by omega);obtain⟨t,ht⟩:=ah hlt;obtain⟨ov,c0,c1,c2,hs⟩:=hc k t ht;replace c0:=hb.cell c0;replace c1:=hb.cell c1;replace c2:=hb.cell c2;obtain⟨A',c',rfl,_⟩:=id hs;have hl:=HM.out t (aM ht);have HT:=aa ht;have TN:=aa hs;have HI':Hid (lY (wr.alloc (.cells #[.int .i64 t.az,.slice A' t.ops.length c',.bool t.done] 48)) w.heap.size tq (Ba (dY h k t.ops 0))/\((dY h k t.ops 0).map (·.1)).Nodup):=by
    have e:dY h k t.ops 0=dY h k [] 0:=by simp[dY,iC]
    rw[e];exact⟨HI.out.1.ext ((af _).alloc _),HI.out.2⟩
   have NM:Hid (Ext w (wr.alloc (.cells #[.int .i64 t.az,.slice A' t.ops.length c',.bool t.done] 48))):=hb.alloc _;clear ht hc hs HI;go_wp2;go_loopw [23] (λi wr=>Ext w wr/\∃j:Nat,j<=t.ops.length/\i=.int .i64 j/\Hid (lY wr w.heap.size tq (Ba (dY h k t.ops j))/\((dY h k t.ops j).map (·.1)).Nodup)) (λi _=>t.ops.length-(intOf i).toNat)
   case atStart=>exact⟨NM.out,0,aT _,rfl,HI'.out⟩
   case round=>
    obtain⟨hb2,j,hj,rfl,HJ⟩:=hrel;by_cases hjt:j<t.ops.length
    ·obtain⟨A2,c2,hA2,hcc⟩:=TN.out.ext hb2;injection hA2 with e1 e2 e3;subst e1 e3;obtain⟨b',off',rfl,ru,hcc⟩:=hcc (by omega);obtain⟨o,ho⟩:=ah hjt;have d0:wr.cell? ⟨b',off'+j*3,none⟩=some (.int .i64 o.kind):=hcc j o ho 0 (by omega);have d1:wr.cell? ⟨b',off'+j*3+1,none⟩=some (.int .i64 o.key):=hcc j o ho 1 (by omega);have d2:wr.cell? ⟨b',off'+j*3+2,none⟩=some (.int .i64 o.value):=hcc j o ho 2 (by omega);have Ho:=aa ho;have hl1:=oC (w:=(wr.alloc (.cells #[.int .i64 o.kind,.int .i64 o.key,.int .i64 o.value] 67)).alloc (.cells #[.int .i64 o.key,.int .i64 o.value] 118)) Tryz.underlying71 xg H8 (HJ.out.1.ext (((af _).alloc _).alloc _)) (o.key,o.value);have VX:Hid (Ext wr ((((wr.alloc (.cells #[.int .i64 o.kind,.int .i64 o.key,.int .i64 o.value] 67)).alloc (.cells #[.int .i64 o.key,.int .i64 o.value] 118)).alloc (.cells #[.int .i64 o.kind,.int .i64 o.key,.int .i64 o.value] 67)).alloc (.cells #[.int .i64 o.kind,.int .i64 o.key,.int .i64 o.value] 67))):=((((af _).alloc _).alloc _).alloc _).alloc _;clear hcc ho e2;unfold tq at hl1
     cases hw:(o.kind==2) with
     | false=>
       go_wp2_with (go_at_call 87;refine(gI _ _ _ _).mono ?_;rw[hw];rintro e w' ⟨rfl,rfl⟩)
       go_roundw;case rel=>exact⟨hb2.trans VX.out,j+1,by omega,by go_num,by rw[Bn Ho.out hw];exact⟨HJ.out.1.ext VX.out,HJ.out.2⟩⟩
       case measure=>simp[intOf];omega
     | true=>
       cases hlk:lookW (dY h k t.ops j) (o.key,o.value) with
       | some n=>
         have hX:Ba (dY h k t.ops j) (o.key,o.value)=some (.int .i64 (n:Int)):=by unfold Ba;rw[hlk];rfl
         rw[hX]at hl1;have HX:=aa (zX HT.out Ho.out hw hlk);clear hX hlk;go_wp2_with (go_at_call 87;refine(gI _ _ _ _).mono ?_;rw[hw];rintro e w' ⟨rfl,rfl⟩)
         go_returns;exact⟨((hb2.alloc _).alloc _).alloc _,.inr ⟨HX.out,rfl⟩⟩
       | none=>
         have hX:Ba (dY h k t.ops j) (o.key,o.value)=none:=by unfold Ba;rw[hlk];rfl
         rw[hX]at hl1;obtain⟨ob,hu,hG⟩:=iB Tryz.underlying71 xg (HJ.out.1.ext VX.out) (o.key,o.value) (.int .i64 (k:Int));have HG:=aa hG;have HLK:=aa hlk;unfold tq at hu;clear hX hG hlk;go_wp2_with (go_at_call 87;refine(gI _ _ _ _).mono ?_;rw[hw];rintro e w' ⟨rfl,rfl⟩)
         go_roundw;case rel=>exact⟨(hb2.trans VX.out).bD (av _) _,j+1,by omega,by go_num,by
          rw[tu Ho.out hw];exact⟨HG.out.1.congr (VO HLK.out),Sv HJ.out.2 HLK.out⟩⟩
         case measure=>simp[intOf];omega
    ·obtain rfl:j=t.ops.length:=by omega
     go_wp2;go_roundw;case rel=>exact⟨hb2,k+1,by omega,by go_num,by
      have e:dY h (k+1) [] 0=dY h k t.ops t.ops.length:=by rw[C8 HT.out];simp[dY,iC]
      rw[e];exact HJ.out⟩
     case measure=>simp[intOf];omega
  ·obtain rfl:k=h.length:=by omega
   go_wp2;go_returns;refine⟨hb,.inl ?_⟩;have e:dY h h.length [] 0=Da h:=by simp[dY,iC,Da]
   rw[<-e];exact⟨by unfold kH;rw[<-e];exact jw HI.out.2,_,rfl,HI.out.1⟩
theorem xH(t:aG)(ov:Value)(w:World)(h:aL 3 encOpr w ov t.ops)(hlen:t.ops.length<=2097152) :
 Calls Tryz.prog 42 #[o9 t ov] w λe w'=>e=.returned (.bool (!dG t))/\Ext w w':=by
 have HS:=aa h;obtain⟨A,c,rfl,_⟩:=id h;clear h;show Calls Tryz.prog 42 #[.agg #[.int .i64 t.az,.slice A t.ops.length c,.bool t.done]] w _;cases hk:dG t<;>(
  go_enter Tryz.func42,Tryz.ntmps42;go_wp2_with (go_at_call 43;refine(zF t _ _ (HS.out.ext ((af _).alloc _)) hlen).mono ?_;rw[hk];rintro e w1 ⟨rfl,b1⟩)
  go_returns;refine⟨rfl,?_⟩
  exact((af _).alloc _).trans b1)
theorem zS(args:Array Value)(W:World):(callFunc 42 args).run Tryz.prog W=.ok (.enter 42 args) W:=by kernel_rfl
theorem bZ{v:Value}{h:List aG}(w:World)(H:iM w v h)(hlen:h.length<=2097152)(hM:∀t∈h,t.ops.length<=2097152) :
 Calls Tryz.prog 12 #[v] w λe w'=>e=.returned (.bool (aD h))/\Ext w w':=by
 obtain⟨A,c,rfl⟩:=H.slice;have HH:=aa H;have HM:=aa hM;have hf:Hid (∀a b c,decide (h.length<=6)=a->(h.any λt=>!dG t)=b->kH h=c->aD h=(a && !b&&c)):=λa b c e1 e2 e3=>by subst e1 e2 e3;simp[aD,List.all_eq_not_any_not]
 clear H hM;by_cases h6:h.length<=6
 ·cases ha:(h.any λt=>!dG t) with
  | true=>
    have hr:=aa (hf.out true true _ (by simpa using h6) ha rfl);have HA:=aa ha;clear ha;go_enter Tryz.func12,Tryz.ntmps12;go_wp2_with (go_at_call 41;refine(qX _ 42 #[] (λt=>!dG t) HH.out hlen zS (λt ht ov W _ hs=>xH t ov W hs (HM.out t ht))).mono ?_;rw[HA.out];rintro e w1 ⟨rfl,b1⟩)
    go_returns;exact⟨aS (by rw[hr.out];rfl),b1⟩
  | false=>
    have hr:=aa (hf.out true false _ (by simpa using h6) ha rfl);have HA:=aa ha;clear ha;go_enter Tryz.func12,Tryz.ntmps12;go_wp2_with (go_at_call 41;refine(qX _ 42 #[] (λt=>!dG t) HH.out hlen zS (λt ht ov W _ hs=>xH t ov W hs (HM.out t ht))).mono ?_;rw[HA.out];rintro e w1 ⟨rfl,b1⟩)
    refine(Bu _ (HH.out.ext b1) hlen HM.out).mono ?_
    rintro e w2 ⟨b2,⟨hn,g,rfl,_⟩|⟨hn,rfl⟩⟩
    ·go_wp2;go_returns;exact⟨aS (by rw[hr.out,hn];rfl),b1.trans b2⟩
    ·go_wp2;go_returns;exact⟨aS (by rw[hr.out,hn];rfl),b1.trans b2⟩
 ·have hr:=aa (hf.out false _ _ (by simpa using h6) rfl rfl);go_enter Tryz.func12,Tryz.ntmps12;go_wp2;go_returns;exact⟨aS (by rw[hr.out];simp),af _⟩
