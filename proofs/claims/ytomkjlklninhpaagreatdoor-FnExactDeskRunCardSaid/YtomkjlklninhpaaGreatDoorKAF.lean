/- Lemmas. -/
import Derived.Test.YtomkjlklninhpaaGreatDoorKAD
set_option maxHeartbeats 16000000
set_option maxRecDepth 8000
set_option linter.all false
namespace Go.Proofs.YtomkjlklninhpaaGreatDoor
open Go.RowKit
def qH(p:Int × Int):Value:=.agg #[.int .i64 p.1,.int .i64 p.2]
theorem IX(a b c d:Int)(W:World):(Op.equalIn 10000 125 (.agg #[.int .i64 a,.int .i64 b]) (.agg #[.int .i64 c,.int .i64 d])).run Tryz.prog W=.ok (decide (a=c)&&decide (b=d)) W:=by
 have u3:=Tryz.underlying3;have a3:=Tryz.isAgg3;have z3:=Tryz.sizeOf3;have hS:Tryz.prog.underlying 125=some (.struct (Tryz.prog.fieldsOf 125)):=by kernel_rfl
 have hp:Tryz.prog.stoodInHeld 125=false:=by kernel_rfl
 rw[show (10000:Nat)=9999+1 from rfl,run_equalIn_agg W 9999 _ _ _ hS hp];simp only[Program.fieldsOf,Tryz.underlying125];go_simp;by_cases h1:a=c<;>by_cases h2:b=d<;>simp[h1,h2]
theorem MF(p q:Int × Int)(W:World):(Op.equal 125 (qH p) (qH q)).run Tryz.prog W=.ok (decide (p=q)) W:=by obtain⟨a,b⟩:=p;obtain⟨c,d⟩:=q;have h:=IX a b c d W;unfold qH;simp only[Op.equal,Op.maxDepth];rw[h];congr 1;rw[Bool.eq_iff_iff];simp
theorem uV:Dt Tryz.prog 125 qH:=
 Gf Tryz.underlying125 (fun k p=>by simp[Instr.sameNow]) (fun b k W=>by have u3:=Tryz.underlying3;have a3:=Tryz.isAgg3;have z3:=Tryz.sizeOf3;have hi:∀x W,(Instr.checkKey b 9999 3 (.int .i64 x)).run Tryz.prog W=.ok () W:=fun x W=>Go.MapKept.run_checkKey u3 (by simp[Go.MapKept.IsKey]) b 9998;unfold qH;rw[show (10000:Nat)=9999+1 from rfl,Instr.checkKey];simp only[Sem.run_bind,run_underlying Tryz.underlying125,Result.andThen_ok];go_simp) MF (fun k=>by unfold qH;simp[Instr.sameBits])
theorem pY(a b c a' b' c':Int)(W:World):(Op.equalIn 10000 71 (.agg #[.int .i64 a,.int .i64 b,.int .i64 c]) (.agg #[.int .i64 a',.int .i64 b',.int .i64 c'])).run Tryz.prog W=.ok (decide (a=a'/\b=b'/\c=c')) W:=by
 have u3:=Tryz.underlying3;have a3:=Tryz.isAgg3;have z3:=Tryz.sizeOf3;have hS:Tryz.prog.underlying 71=some (.struct (Tryz.prog.fieldsOf 71)):=by kernel_rfl
 have hp:Tryz.prog.stoodInHeld 71=false:=by kernel_rfl
 rw[show (10000:Nat)=9999+1 from rfl,run_equalIn_agg W 9999 _ _ _ hS hp];simp only[Program.fieldsOf,Tryz.underlying71];go_simp;by_cases h1:a=a'<;>by_cases h2:b=b'<;>by_cases h3:c=c'<;>simp[h1,h2,h3]
theorem AZ:Tryz.prog.eqGuardType Tryz.prog.depth 71=false:=by kernel_rfl
def Ou(h:List aA)(key value:Int):Nat:=((Bo h).map (·.1)).count (key,value)
def mY(h:List aA)(k:Nat)(ops:List aQ)(j:Nat)(key value:Int):Nat:=((dB h k ops j).map (·.1)).count (key,value)
theorem TZ{h:List aA}{k j:Nat}{ops:List aQ}{o:aQ}{key value:Int}(ho:ops[j]? =some o)(he:o.kind=2/\o.key=key/\o.value=value):mY h k ops (j+1) key value=mY h k ops j key value+1:=by
 have hw:iN o=true:=by simp[iN,he.1]
 unfold mY;rw[qF ho hw,List.map_append,List.count_append];simp[he.2.1,he.2.2]
theorem QB{h:List aA}{k j:Nat}{ops:List aQ}{o:aQ}{key value:Int}(ho:ops[j]? =some o)(he:¬(o.kind=2/\o.key=key/\o.value=value)):mY h k ops (j+1) key value=mY h k ops j key value:=by
 unfold mY
 cases hw:iN o with
 | true=>
   have hk:o.kind=2:=by simpa[iN] using hw
   rw[qF ho hw,List.map_append,List.count_append]
   have:List.count (key,value) (List.map (fun p:(Int × Int) × Nat=>p.1) [((o.key,o.value),k)])=0:=by rw[List.count_eq_zero];simp;intro h1 h2;exact he ⟨hk,h1.symm,h2.symm⟩
   rw[this];rfl
 | false=>rw[yg ho hw]
theorem QG{h:List aA}{k:Nat}{t:aA}{key value:Int}(ht:h[k]? =some t):mY h k t.ops t.ops.length key value=((dL 0 (h.take (k+1))).map (·.1)).count (key,value):=by unfold mY;rw[Ck ht]
theorem Sk{h:List aA}{M:Nat}(hM:∀t∈h,t.ops.length<=M)(k:Nat)(ops:List aQ)(j:Nat):(dB h k ops j).length<=k*M+j:=by
 have h1:∀n (l:List aA),(∀t∈l,t.ops.length<=M)->(dL n l).length<=l.length*M:=by
  intro n l
  induction l generalizing n with
  | nil=>simp[dL]
  | cons t l ih=>
    intro hl;have h2:=ih (n+1) (fun t ht=>hl t (by simp[ht]));have h3:=hl t (by simp);have h4:(fH n t.ops).length<=t.ops.length:=by simp[fH];exact List.length_filter_le _ _
    rw[dL,List.length_append,List.length_cons,Nat.succ_mul];omega
 have h2:=h1 0 (h.take k) (fun t ht=>hM t (List.mem_of_mem_take ht));have h3:(fH k (ops.take j)).length<=j:=by
  have:(fH k (ops.take j)).length<=(ops.take j).length:=by simp only[fH,List.length_map];exact List.length_filter_le _ _
  have h5:=List.length_take_le j ops;omega
 have h4:(h.take k).length*M<=k*M:=Nat.mul_le_mul_right _ (List.length_take_le _ _);rw[dB,List.length_append];omega
theorem VL{h:List aA}{M:Nat}(hM:∀t∈h,t.ops.length<=M)(k:Nat)(ops:List aQ)(j:Nat)(key value:Int):mY h k ops j key value<=k*M+j:=by have h1:=Sk hM k ops j;have h2:mY h k ops j key value<=((dB h k ops j).map (·.1)).length:=List.count_le_length;rw[List.length_map]at h2;omega
theorem KS{v:Value}{h:List aA}(key value:Int)(w:World)(H:gL w v h)(hlen:h.length<=2097152)(hM:∀t∈h,t.ops.length<=2097152) :
 Calls Tryz.prog 43 #[v,.int .i64 key,.int .i64 value] w fun e w'=>e=.returned (.int .i64 (Ou h key value:Nat))/\w=w':=by
 obtain⟨A,c,rfl⟩:=H.slice;have HH:=aa H;have HM:=aa hM;have hg:=AZ;clear H hM;go_enter Tryz.func43,Tryz.ntmps43;go_wp2;go_loopw [7,8] (fun m i wr=>w=wr/\∃k:Nat,k<=h.length/\i=.int .i64 k/\m=.int .i64 ((mY h k [] 0 key value:Nat):Int)) (fun _ i _=>h.length-(intOf i).toNat)
 case atStart=>exact⟨rfl,0,Nat.zero_le _,rfl,by simp[mY,dB,dL,fH]⟩
 case round=>
  obtain⟨rfl,k,hk,rfl,rfl⟩:=hrel;by_cases hlt:k<h.length
  ·obtain⟨b,off,rfl,hbl,hc⟩:=HH.out.head (by omega);obtain⟨t,ht⟩:=af hlt;obtain⟨ov,c0,c1,c2,hs⟩:=hc k t ht;obtain⟨A',c',rfl,hc'⟩:=hs;have hl:=HM.out t (List.mem_of_getElem? ht);have hc0:Hid (mY h k [] 0 key value=mY h k t.ops 0 key value):=by show _ = _;simp[mY,dB,fH]
   have HT:=aa ht;have HC':=aa hc';rw[hc0.out];clear ht hc hc' c0 c2 hc0;go_wp2;go_loopw [7,9] (fun m i wr'=>w=wr'/\∃j:Nat,j<=t.ops.length/\i=.int .i64 j/\m=.int .i64 ((mY h k t.ops j key value:Nat):Int)) (fun _ i _=>t.ops.length-(intOf i).toNat)
   case atStart=>exact⟨rfl,0,Nat.zero_le _,rfl,rfl⟩
   case round=>
    obtain⟨rfl,j,hj,rfl,rfl⟩:=hrel;by_cases hjt:j<t.ops.length
    ·obtain⟨b',off',rfl,pg,hcc⟩:=HC'.out (by omega);obtain⟨o,ho⟩:=af hjt;have d0:w.cell? ⟨b',off'+j*3,none⟩=some (.int .i64 o.kind):=hcc j o ho 0 (by omega);have d1:w.cell? ⟨b',off'+j*3+1,none⟩=some (.int .i64 o.key):=hcc j o ho 1 (by omega);have d2:w.cell? ⟨b',off'+j*3+2,none⟩=some (.int .i64 o.value):=hcc j o ho 2 (by omega);have he:=fun W=>pY o.kind o.key o.value 2 key value W;have hle:=VL HM.out k t.ops j key value;by_cases hm:o.kind=2/\o.key=key/\o.value=value
     ·have hn:=aa (TZ (h:=h) (k:=k) ho hm);rw[decide_eq_true hm]at he;clear hm ho hcc;go_wp2;go_roundw;case rel=>exact⟨trivial,j+1,by omega,by go_num,by rw[hn.out];go_num⟩
      case measure=>simp[intOf];omega
     ·have hn:=aa (QB (h:=h) (k:=k) ho hm);rw[decide_eq_false hm]at he;clear hm ho hcc;go_wp2;go_roundw;case rel=>exact⟨trivial,j+1,by omega,by go_num,by rw[hn.out]⟩
      case measure=>simp[intOf];omega
    ·obtain rfl:j=t.ops.length:=by omega
     go_wp2;go_roundw;case rel=>exact⟨trivial,k+1,by omega,by go_num,by rw[QG HT.out];simp[mY,dB,fH]⟩
     case measure=>simp[intOf];omega
  ·obtain rfl:k=h.length:=by omega
   go_wp2;go_returns;exact⟨aX (by simp[mY,dB,fH,Ou,Bo]),rfl⟩
theorem P6{h:List aA}{t:aA}(ht:t∈h)(hb:bX t=false):aC h=false:=by rw[aC,show h.all bX=false from by rw[List.all_eq_false];exact⟨t,ht,by simp[hb]⟩];simp
theorem M5{h:List aA}{key value:Int}(hc:1<Ou h key value):aC h=false:=by
 have:jh h=false:=by
  unfold jh;rw[decide_eq_false_iff_not,List.nodup_iff_count];intro hn
  have:=hn (key,value)
  unfold Ou at hc;omega
 rw[aC,this];simp
theorem Ry{h:List aA}{q:Int × Int}{n:Nat}(hm:(q,n)∈Bo h):∃t,h[n]? =some t/\∃o∈t.ops,iN o=true/\(o.key,o.value)=q:=by
 have key:∀(l:List aA) (s:Nat),(q,n)∈dL s l->∃i t,n=s+i/\l[i]? =some t/\∃o∈t.ops,iN o=true/\(o.key,o.value)=q:=by
  intro l
  induction l with
  | nil=>intro s hm;simp[dL]at hm
  | cons t l ih=>
    intro s hm;rw[dL,List.mem_append]at hm;rcases hm with hm|hm
    ·simp only[fH,List.mem_map,List.mem_filter]at hm;obtain⟨o,⟨ho,hw⟩,e⟩:=hm;injection e with e1 e2;exact⟨0,t,by omega,rfl,o,ho,hw,e1⟩
    ·obtain⟨i,t',e,ht,h2⟩:=ih (s+1) hm;exact⟨i+1,t',by omega,by simpa using ht,h2⟩
 obtain⟨i,t,e,ht,h2⟩:=key h 0 hm;exact⟨t,by rw[e,Nat.zero_add];exact ht,h2⟩
theorem Nn{h:List aA}(ht:∀t∈h,bX t=true)(hc:∀t∈h,∀o∈t.ops,iN o=true->Ou h o.key o.value<=1):aC h=decide (h.length<=6):=by
 have h1:h.all bX=true:=by rw[List.all_eq_true];exact ht
 have h2:jh h=true:=by
  unfold jh;rw[decide_eq_true_eq,List.nodup_iff_count];intro q;rcases Nat.eq_zero_or_pos (((Bo h).map (·.1)).count q) with h0|h0
  ·omega
  ·obtain⟨p,hp,rfl⟩:=List.mem_map.1 (List.count_pos_iff.1 h0);obtain⟨q,n⟩:=p;obtain⟨t,ht,o,ho,hw,rfl⟩:=Ry hp;exact hc t (List.mem_of_getElem? ht) o ho hw
 rw[aC,h1,h2];simp
theorem bu{v:Value}{h:List aA}(w:World)(H:gL w v h)(hlen:h.length<=2097152)(hM:∀t∈h,t.ops.length<=2097152) :
 Calls Tryz.prog 20 #[v] w fun e w'=>e=.returned (.bool (aC h))/\Ext w w':=by
 obtain⟨A,c,rfl⟩:=H.slice;have HH:=aa H;have HM:=aa hM;clear H hM;go_enter Tryz.func20,Tryz.ntmps20;go_wp2;go_loopw [3] (fun i wr=>Ext w wr/\∃k:Nat,k<=h.length/\i=.int .i64 k/\Hid (∀i t,i<k->h[i]? =some t->bX t=true/\∀o∈t.ops,iN o=true->Ou h o.key o.value<=1)) (fun i _=>h.length-(intOf i).toNat)
 case atStart=>exact⟨Ext.refl _,0,Nat.zero_le _,rfl,fun i t hi=>absurd hi (Nat.not_lt_zero i)⟩
 case round=>
  obtain⟨hb,k,hk,rfl,HI⟩:=hrel;by_cases hlt:k<h.length
  ·obtain⟨b,off,rfl,hbl,hc⟩:=HH.out.head (by omega);obtain⟨t,ht⟩:=af hlt;obtain⟨ov,c0,c1,c2,hs⟩:=hc k t ht;replace c0:=hb.cell c0;replace c1:=hb.cell c1;replace c2:=hb.cell c2;have hl:=HM.out t (List.mem_of_getElem? ht);have HT:=aa ht;have HS:=aa (hs.ext hb);clear ht hc hs;go_wp2_with fail
   refine(lN t ov _ HS.out hl).mono ?_
   cases hok:bX t with
   | false=>
     rintro e w1 ⟨rfl,b1⟩;go_wp2;go_returns;exact⟨aN (P6 (List.mem_of_getElem? HT.out) hok).symm,hb.trans b1⟩
   | true=>
     rintro e w1 ⟨rfl,b1⟩;have c1':=b1.cell c1;have uJ:=aa (HS.out.ext b1);obtain⟨A',c',rfl,_⟩:=id uJ.out;clear c0 c1 c2 HS;go_wp2;go_loopw [4] (fun i wr'=>Ext w1 wr'/\∃j:Nat,j<=t.ops.length/\i=.int .i64 j/\Hid (∀i o,i<j->t.ops[i]? =some o->iN o=true->Ou h o.key o.value<=1)) (fun i _=>t.ops.length-(intOf i).toNat)
     case atStart=>exact⟨Ext.refl _,0,Nat.zero_le _,rfl,fun i o hi=>absurd hi (Nat.not_lt_zero i)⟩
     case round=>
      obtain⟨hb2,j,hj,rfl,HJ⟩:=hrel;replace c1':=hb2.cell c1';by_cases hjt:j<t.ops.length
      ·obtain⟨A2,c2,hA2,hcc⟩:=uJ.out.ext hb2;injection hA2 with e1 e2 e3;subst e1 e3;obtain⟨b',off',rfl,pg,hcc⟩:=hcc (by omega);obtain⟨o,ho⟩:=af hjt;have d0:wr.cell? ⟨b',off'+j*3,none⟩=some (.int .i64 o.kind):=hcc j o ho 0 (by omega);have d1:wr.cell? ⟨b',off'+j*3+1,none⟩=some (.int .i64 o.key):=hcc j o ho 1 (by omega);have d2:wr.cell? ⟨b',off'+j*3+2,none⟩=some (.int .i64 o.value):=hcc j o ho 2 (by omega);have Ho:=aa ho;have acP:Hid (Ext w (wr.alloc (.cells #[.int .i64 o.kind,.int .i64 o.key,.int .i64 o.value] 71))):=(((hb.trans b1).trans hb2).alloc _);clear hcc ho e2
       cases hw:(o.kind==2) with
       | false=>
         go_wp2;go_roundw;case rel=>exact⟨hb2.alloc _,j+1,by omega,by go_num,fun i o' hi ho' hw'=>by
          rcases Nat.lt_or_ge i j with h'|h'
          ·exact HJ.out i o' h' ho' hw'
          ·obtain rfl:i=j:=by omega
           rw[Ho.out]at ho';cases ho';simp only[iN,hw]at hw';cases hw'⟩
         case measure=>simp[intOf];omega
       | true=>
         go_wp2_with fail
         refine(KS o.key o.value _ (HH.out.ext acP.out) hlen HM.out).mono ?_
         rintro e w2 ⟨rfl,rfl⟩;by_cases hcn:1<Ou h o.key o.value
         ·go_wp2;go_returns;exact⟨aN (M5 hcn).symm,acP.out⟩
         ·go_wp2;go_roundw;case rel=>exact⟨hb2.alloc _,j+1,by omega,by go_num,fun i o' hi ho' hw'=>by
           rcases Nat.lt_or_ge i j with h'|h'
           ·exact HJ.out i o' h' ho' hw'
           ·obtain rfl:i=j:=by omega
            rw[Ho.out]at ho';cases ho'
            omega⟩
          case measure=>simp[intOf];omega
      ·obtain rfl:j=t.ops.length:=by omega
       go_wp2;go_roundw;case rel=>exact⟨(hb.trans b1).trans hb2,k+1,by omega,by go_num,fun i t' hi ht'=>by
        rcases Nat.lt_or_ge i k with h'|h'
        ·exact HI.out i t' h' ht'
        ·obtain rfl:i=k:=by omega
         rw[HT.out]at ht';cases ht';exact⟨hok,fun o ho hw=>by obtain⟨i,hi,rfl⟩:=List.getElem_of_mem ho;exact HJ.out i _ hi (List.getElem?_eq_getElem hi) hw⟩⟩
       case measure=>simp[intOf];omega
  ·obtain rfl:k=h.length:=by omega
   have hf:Hid (∀r,decide (h.length<=6)=r->aC h=r):=fun r hr=>by
    rw[<-hr];refine Nn (fun t ht=>?_) (fun t ht=>?_)
    ·obtain⟨i,hi,rfl⟩:=List.getElem_of_mem ht
     exact(HI.out i _ hi (List.getElem?_eq_getElem hi)).1
    ·obtain⟨i,hi,rfl⟩:=List.getElem_of_mem ht
     exact(HI.out i _ hi (List.getElem?_eq_getElem hi)).2
   by_cases h6:h.length<=6
   ·go_wp2;go_returns;exact⟨aN (by rw[hf.out true (by simpa using h6)];simp;omega),hb⟩
   ·go_wp2;go_returns;exact⟨aN (by rw[hf.out false (by simpa using h6)];simp;omega),hb⟩
def gT(n:Nat):Value:=.int .i64 (n:Int)
def yw(l:List ((Int × Int) × Nat))(q:Int × Int):Option Value:=(lookW l q).map gT
def ac6(h:List aA)(w:World)(e:Ending)(w':World):Prop:=
 Ext w w'/\((jh h=true/\∃g,e=.returned (.tuple #[.map (some g),.bool true])/\j4 w' g qH (yw (Bo h)))∨(jh h=false/\e=.returned (.tuple #[.map none,.bool false])))
theorem TR{l:List ((Int × Int) × Nat)}{q:Int × Int}{n:Nat}(hq:lookW l q=none)(r:Int × Int):(if r=q then some (gT n) else yw l r)=yw (l++[(q,n)]) r:=by
 unfold yw;rw[QO l q n hq]
 split<;>rfl
theorem FW(W:World):(zeroValue 3).run Tryz.prog W=.ok (.int .i64 0) W:=by kernel_rfl
theorem zW{v:Value}{h:List aA}(w:World)(H:gL w v h)(hlen:h.length<=2097152)(hM:∀t∈h,t.ops.length<=2097152) :
 Calls Tryz.prog 66 #[v] w (ac6 h w):=by
 obtain⟨A,c,rfl⟩:=H.slice;have HH:=aa H;have HM:=aa hM;have hmk:=@run_makeMap Tryz.prog;clear H hM;go_enter Tryz.func66,Tryz.ntmps66;go_wp2;clear hmk;go_loopw [15] (fun i wr=>Ext w wr/\∃k:Nat,k<=h.length/\i=.int .i64 k/\Hid (j4 wr w.heap.size qH (yw (dB h k [] 0))/\((dB h k [] 0).map (·.1)).Nodup)) (fun i _=>h.length-(intOf i).toNat)
 case atStart=>exact⟨(Ext.refl _).alloc _,0,Nat.zero_le _,rfl,j4.made w qH,by simp[dB,dL,fH]⟩
 case round=>
  obtain⟨hb,k,hk,rfl,HI⟩:=hrel;by_cases hlt:k<h.length
  ·obtain⟨b,off,rfl,hbl,hc⟩:=HH.out.head (by omega);obtain⟨t,ht⟩:=af hlt;obtain⟨ov,c0,c1,c2,hs⟩:=hc k t ht;replace c0:=hb.cell c0;replace c1:=hb.cell c1;replace c2:=hb.cell c2;obtain⟨A',c',rfl,_⟩:=id hs;have hl:=HM.out t (List.mem_of_getElem? ht);have HT:=aa ht;have Py:=aa hs;have HI':Hid (j4 (wr.alloc (.cells #[.int .i64 t.az,.slice A' t.ops.length c',.bool t.done] 48)) w.heap.size qH (yw (dB h k t.ops 0))/\((dB h k t.ops 0).map (·.1)).Nodup):=by
    have e:dB h k t.ops 0=dB h k [] 0:=by simp[dB,fH]
    rw[e];exact⟨HI.out.1.ext ((Ext.refl _).alloc _),HI.out.2⟩
   have LY:Hid (Ext w (wr.alloc (.cells #[.int .i64 t.az,.slice A' t.ops.length c',.bool t.done] 48))):=hb.alloc _;clear ht hc hs HI;go_wp2;go_loopw [23] (fun i wr=>Ext w wr/\∃j:Nat,j<=t.ops.length/\i=.int .i64 j/\Hid (j4 wr w.heap.size qH (yw (dB h k t.ops j))/\((dB h k t.ops j).map (·.1)).Nodup)) (fun i _=>t.ops.length-(intOf i).toNat)
   case atStart=>exact⟨LY.out,0,Nat.zero_le _,rfl,HI'.out⟩
   case round=>
    obtain⟨hb2,j,hj,rfl,HJ⟩:=hrel;by_cases hjt:j<t.ops.length
    ·obtain⟨A2,c2,hA2,hcc⟩:=Py.out.ext hb2;injection hA2 with e1 e2 e3;subst e1 e3;obtain⟨b',off',rfl,pg,hcc⟩:=hcc (by omega);obtain⟨o,ho⟩:=af hjt;have d0:wr.cell? ⟨b',off'+j*3,none⟩=some (.int .i64 o.kind):=hcc j o ho 0 (by omega);have d1:wr.cell? ⟨b',off'+j*3+1,none⟩=some (.int .i64 o.key):=hcc j o ho 1 (by omega);have d2:wr.cell? ⟨b',off'+j*3+2,none⟩=some (.int .i64 o.value):=hcc j o ho 2 (by omega);have Ho:=aa ho;have hl1:=l8 (w:=(wr.alloc (.cells #[.int .i64 o.kind,.int .i64 o.key,.int .i64 o.value] 71)).alloc (.cells #[.int .i64 o.key,.int .i64 o.value] 125)) Tryz.underlying97 uV FW (HJ.out.1.ext (((Ext.refl _).alloc _).alloc _)) (o.key,o.value);have Sy:Hid (Ext wr ((((wr.alloc (.cells #[.int .i64 o.kind,.int .i64 o.key,.int .i64 o.value] 71)).alloc (.cells #[.int .i64 o.key,.int .i64 o.value] 125)).alloc (.cells #[.int .i64 o.kind,.int .i64 o.key,.int .i64 o.value] 71)).alloc (.cells #[.int .i64 o.kind,.int .i64 o.key,.int .i64 o.value] 71))):=((((Ext.refl _).alloc _).alloc _).alloc _).alloc _;clear hcc ho e2;unfold qH at hl1
     cases hw:(o.kind==2) with
     | false=>
       go_wp2_with (go_at_call 93;refine(eX _ _ _ _).mono ?_;rw[hw];rintro e w' ⟨rfl,rfl⟩)
       go_roundw;case rel=>exact⟨hb2.trans Sy.out,j+1,by omega,by go_num,by rw[yg Ho.out hw];exact⟨HJ.out.1.ext Sy.out,HJ.out.2⟩⟩
       case measure=>simp[intOf];omega
     | true=>
       cases hlk:lookW (dB h k t.ops j) (o.key,o.value) with
       | some n=>
         have hX:yw (dB h k t.ops j) (o.key,o.value)=some (.int .i64 (n:Int)):=by unfold yw;rw[hlk];rfl
         rw[hX]at hl1;have HX:=aa (xR HT.out Ho.out hw hlk);clear hX hlk;go_wp2_with (go_at_call 93;refine(eX _ _ _ _).mono ?_;rw[hw];rintro e w' ⟨rfl,rfl⟩)
         go_returns;exact⟨((hb2.alloc _).alloc _).alloc _,.inr ⟨HX.out,rfl⟩⟩
       | none=>
         have hX:yw (dB h k t.ops j) (o.key,o.value)=none:=by unfold yw;rw[hlk];rfl
         rw[hX]at hl1;obtain⟨ob,hu,hG⟩:=fG Tryz.underlying97 uV (HJ.out.1.ext Sy.out) (o.key,o.value) (.int .i64 (k:Int));have HG:=aa hG;have HLK:=aa hlk;unfold qH at hu;clear hX hG hlk;go_wp2_with (go_at_call 93;refine(eX _ _ _ _).mono ?_;rw[hw];rintro e w' ⟨rfl,rfl⟩)
         go_roundw;case rel=>exact⟨(hb2.trans Sy.out).aS (Nat.le_refl _) _,j+1,by omega,by go_num,by
          rw[qF Ho.out hw];exact⟨HG.out.1.congr (TR HLK.out),QI HJ.out.2 HLK.out⟩⟩
         case measure=>simp[intOf];omega
    ·obtain rfl:j=t.ops.length:=by omega
     go_wp2;go_roundw;case rel=>exact⟨hb2,k+1,by omega,by go_num,by
      have e:dB h (k+1) [] 0=dB h k t.ops t.ops.length:=by rw[Ck HT.out];simp[dB,fH]
      rw[e];exact HJ.out⟩
     case measure=>simp[intOf];omega
  ·obtain rfl:k=h.length:=by omega
   go_wp2;go_returns;refine⟨hb,.inl ?_⟩;have e:dB h h.length [] 0=Bo h:=by simp[dB,fH,Bo]
   rw[<-e];exact⟨by unfold jh;rw[<-e];exact decide_eq_true HI.out.2,_,rfl,HI.out.1⟩
theorem vW(t:aA)(ov:Value)(w:World)(h:aF 3 aj w ov t.ops)(hlen:t.ops.length<=2097152) :
 Calls Tryz.prog 64 #[ng t ov] w fun e w'=>e=.returned (.bool (!bX t))/\Ext w w':=by
 have HS:=aa h;obtain⟨A,c,rfl,_⟩:=id h;clear h;show Calls Tryz.prog 64 #[.agg #[.int .i64 t.az,.slice A t.ops.length c,.bool t.done]] w _;cases hk:bX t<;>(
  go_enter Tryz.func64,Tryz.ntmps64;go_wp2_with (go_at_call 65;refine(xG t _ _ (HS.out.ext ((Ext.refl _).alloc _)) hlen).mono ?_;rw[hk];rintro e w1 ⟨rfl,b1⟩)
  go_returns;refine⟨rfl,?_⟩
  exact((Ext.refl _).alloc _).trans b1)
theorem xO(args:Array Value)(W:World):(callFunc 64 args).run Tryz.prog W=.ok (.enter 64 args) W:=by kernel_rfl
theorem bN{v:Value}{h:List aA}(w:World)(H:gL w v h)(hlen:h.length<=2097152)(hM:∀t∈h,t.ops.length<=2097152) :
 Calls Tryz.prog 34 #[v] w fun e w'=>e=.returned (.bool (aC h))/\Ext w w':=by
 obtain⟨A,c,rfl⟩:=H.slice;have HH:=aa H;have HM:=aa hM;have hf:Hid (∀a b c,decide (h.length<=6)=a->(h.any fun t=>!bX t)=b->jh h=c->aC h=(a && !b&&c)):=fun a b c e1 e2 e3=>by subst e1 e2 e3;simp[aC,List.all_eq_not_any_not]
 clear H hM;by_cases h6:h.length<=6
 ·cases ha:(h.any fun t=>!bX t) with
  | true=>
    have hr:=aa (hf.out true true _ (by simpa using h6) ha rfl);have HA:=aa ha;clear ha;go_enter Tryz.func34,Tryz.ntmps34;go_wp2_with (go_at_call 63;refine(oU _ 64 #[] (fun t=>!bX t) HH.out hlen xO (fun t ht ov W _ hs=>vW t ov W hs (HM.out t ht))).mono ?_;rw[HA.out];rintro e w1 ⟨rfl,b1⟩)
    go_returns;exact⟨aN (by rw[hr.out];rfl),b1⟩
  | false=>
    have hr:=aa (hf.out true false _ (by simpa using h6) ha rfl);have HA:=aa ha;clear ha;go_enter Tryz.func34,Tryz.ntmps34;go_wp2_with (go_at_call 63;refine(oU _ 64 #[] (fun t=>!bX t) HH.out hlen xO (fun t ht ov W _ hs=>vW t ov W hs (HM.out t ht))).mono ?_;rw[HA.out];rintro e w1 ⟨rfl,b1⟩)
    refine(zW _ (HH.out.ext b1) hlen HM.out).mono ?_
    rintro e w2 ⟨b2,⟨hn,g,rfl,_⟩|⟨hn,rfl⟩⟩
    ·go_wp2;go_returns;exact⟨aN (by rw[hr.out,hn];rfl),b1.trans b2⟩
    ·go_wp2;go_returns;exact⟨aN (by rw[hr.out,hn];rfl),b1.trans b2⟩
 ·have hr:=aa (hf.out false _ _ (by simpa using h6) rfl rfl);go_enter Tryz.func34,Tryz.ntmps34;go_wp2;go_returns;exact⟨aN (by rw[hr.out];simp),Ext.refl _⟩
