/- Lemmas. -/
import Derived.Test.YtomkjlklninhpaaGreatDoorKAL
set_option maxHeartbeats 16000000
set_option maxRecDepth 8000
set_option linter.all false
namespace Go.Proofs.YtomkjlklninhpaaGreatDoor
open Go.RowKit
theorem tV(s:Int)(d:Bool){ov:Value}{ops:List aQ}(n:Nat)(key:Int)(w:World)(h:aF 3 aj w ov ops)(hlen:ops.length<=2097152)(hn:n<=ops.length) :
 Calls Tryz.prog 80 #[.agg #[.int .i64 s,ov,.bool d],.int .i64 (n:Int),.int .i64 key] w fun e w'=>e=.returned (.int .i64 ((before (ops.take n) key).getD (-1)))/\Ext w w':=by
 obtain⟨A0,c0,rfl,_⟩:=id h;have HS:=aa h;clear h;go_enter Tryz.func80,Tryz.ntmps80;go_wp2;go_loopw [7] (fun i wr=>Ext (w.alloc (.cells #[.int .i64 s,.slice A0 ops.length c0,.bool d] 48)) wr/\∃k:Nat,k<=n/\i=.int .i64 ((k:Int)-1)/\Hid (before (ops.take n) key=before (ops.take k) key)) (fun i _=>((intOf i)+1).toNat)
 case atStart=>exact⟨Ext.refl _,n,Nat.le_refl _,rfl,rfl⟩
 case round=>
  obtain⟨hb,k,hk,rfl,HI⟩:=hrel;have hbb:=((Ext.refl w).alloc _).trans hb
  cases k with
  | zero=>
    rw[show (((0:Nat):Int)-1)=-1 by omega];go_wp2;go_returns;exact⟨aX (by rw[HI.out];rfl),hbb⟩
  | succ m=>
    rw[show (((m+1:Nat):Int)-1)=(m:Int) by omega];have e1:wr.cell? ⟨w.heap.size,1,none⟩=some (.slice A0 ops.length c0):=hb.cell (av rfl);obtain⟨A2,c2,hA2,hcc⟩:=HS.out.ext hbb;injection hA2 with Zl e2 e3;subst Zl e3;obtain⟨b,off,rfl,hbl,hcc⟩:=hcc (by omega);have hlt:m<ops.length:=by omega
    obtain⟨o,ho⟩:=af hlt;have d1:wr.cell? ⟨b,off+m*3+1,none⟩=some (.int .i64 o.key):=hcc m o ho 1 (by omega);have d2:wr.cell? ⟨b,off+m*3+2,none⟩=some (.int .i64 o.value):=hcc m o ho 2 (by omega);have hst:Hid (before (ops.take n) key=if key=o.key then some o.value else before (ops.take m) key):=by show _ = _;rw[HI.out,ah ho,vV]
    clear hcc ho e2 HI;by_cases hkey:o.key=key
    ·go_wp2;go_returns;exact⟨aX (by rw[hst.out,if_pos hkey.symm];rfl),hbb⟩
    ·go_wp2;go_roundw;case rel=>exact⟨hb,m,by omega,rfl,by show _ = _;rw[hst.out,if_neg (fun e=>hkey e.symm)]⟩
     case measure=>first|(simp[intOf];done)|(simp[intOf];omega)
theorem Pm{ops:List aQ}{m:Nat}{o:aQ}(ho:ops[m]? =some o)(key:Int):fB (ops.take (m+1)) key=if iN o=true/\o.key=key then some o else fB (ops.take m) key:=by rw[ah ho,sV]
theorem oM(t:aA)(ov:Value)(w:World)(h:aF 3 aj w ov t.ops)(hok:bX t=true) :
 Calls Tryz.prog 56 #[ng t ov] w (YA w (bD t.ops)):=by
 obtain⟨s,ops,d⟩:=t;have hlen:=bU hok;simp only at hlen h ⊢;obtain⟨A0,c0,rfl,_⟩:=id h;have HS:=aa h;have dO:=aa hok;clear h hok;show Calls Tryz.prog 56 #[.agg #[.int .i64 s,.slice A0 ops.length c0,.bool d]] w _;go_enter Tryz.func56,Tryz.ntmps56;go_wp2;go_loopw [3,4] (fun o i wr=>Ext (w.alloc (.cells #[.int .i64 s,.slice A0 ops.length c0,.bool d] 48)) wr/\∃k:Nat,k<=3/\i=.int .i64 k/\Hid (Row 71 3 aj (w.heap.size+1) wr o (wh ops k))) (fun _ i _=>3-(intOf i).toNat)
 case atStart=>
  refine⟨(Ext.refl _).alloc _,0,Nat.zero_le _,rfl,?_⟩;have hR:=bT (E:=71) (m:=3) (enc:=aj) (w:=w.alloc (.cells #[.int .i64 s,.slice A0 ops.length c0,.bool d] 48));rw[show (w.alloc (.cells #[.int .i64 s,.slice A0 ops.length c0,.bool d] 48)).heap.size=w.heap.size+1 by simp]at hR;exact hR
 case round=>
  obtain⟨hb,k,hk,rfl,HI⟩:=hrel;have hkl:=lV ops k;have hbb:=((Ext.refl w).alloc _).trans hb;by_cases hlt:k<3
  ·have e0:wr.cell? ⟨w.heap.size,0,none⟩=some (.int .i64 s):=hb.cell (av rfl);have e1:wr.cell? ⟨w.heap.size,1,none⟩=some (.slice A0 ops.length c0):=hb.cell (av rfl);have e2:wr.cell? ⟨w.heap.size,2,none⟩=some (.bool d):=hb.cell (av rfl);go_wp2_with fail
   refine(lN ⟨s,ops,d⟩ _ _ (HS.out.ext hbb) (by show ops.length<=_;omega)).mono ?_
   rw[dO.out];rintro e w1 ⟨rfl,b1⟩;replace e1:=b1.cell e1;have KO:=aa (hb.trans b1);have HR1:=aa (HI.out.ext b1);have hsz1:w.heap.size+1<=w1.heap.size:=by have:=KO.out.size;simpa using this
   have hnx:=aa (De ops k);clear e0 e2 b1 hbb hb HI;go_wp2;go_loopw [3,5] (fun o i wr=>w1=wr/\o=u3/\∃m:Nat,m<=ops.length/\i=.int .i64 ((m:Int)-1)/\Hid (fB ops (k:Int)=fB (ops.take m) (k:Int))) (fun _ i _=>((intOf i)+1).toNat)
   case atStart=>exact⟨rfl,rfl,ops.length,Nat.le_refl _,rfl,by show _ = _;rw[List.take_length]⟩
   case round=>
    obtain⟨rfl,rfl,m,hm,rfl,HJ⟩:=hrel
    cases m with
    | zero=>
      rw[show (((0:Nat):Int)-1)=-1 by omega];go_wp2;go_roundw;case rel=>exact⟨KO.out,k+1,by omega,by go_num,by show Row _ _ _ _ _ _ _;rw[hnx.out,HJ.out];simpa[fB] using HR1.out⟩
      case measure=>simp[intOf];omega
    | succ m=>
      rw[show (((m+1:Nat):Int)-1)=(m:Int) by omega];obtain⟨A2,c2,hA2,hcc⟩:=HS.out.ext (((Ext.refl w).alloc _).trans KO.out);injection hA2 with Zl e2 e3;subst Zl e3;obtain⟨b,off,rfl,hbl,hcc⟩:=hcc (by omega);have aeV:m<ops.length:=by omega
      obtain⟨o,ho⟩:=af aeV;have d0:w1.cell? ⟨b,off+m*3,none⟩=some (.int .i64 o.kind):=hcc m o ho 0 (by omega);have d1:w1.cell? ⟨b,off+m*3+1,none⟩=some (.int .i64 o.key):=hcc m o ho 1 (by omega);have d2:w1.cell? ⟨b,off+m*3+2,none⟩=some (.int .i64 o.value):=hcc m o ho 2 (by omega);have hst:=Pm ho (k:Int);rw[<-HJ.out]at hst;have HST:=aa hst;clear hcc ho e2 HJ hst;by_cases hw:iN o=true/\o.key=(k:Int)
      ·have hw1:(o.kind==2)=true:=hw.1;have hw2:(o.key==(k:Int))=true:=by simpa using hw.2
       have hs2:=HST.out;rw[if_pos hw]at hs2;have HS2:=aa hs2;obtain⟨v',w2,hrun,hP⟩:=uR w1.heap.size rfl HR1.out (Ext.refl _) o hsz1 (by omega);have aU:=aa hrun;have HB2:=aa hP.1;have HE2:=aa (hP.2.1 _ KO.out (by simp));clear hw hs2 hrun hP;go_wp2_with (at_builtin;refine wpList_append_run rfl rfl rfl rfl aU.out ?_)
       go_roundw;case rel=>exact⟨HE2.out,k+1,by omega,by go_num,by rw[hnx.out,HS2.out];exact HB2.out⟩
       case measure=>simp[intOf];omega
      ·have hs2:=HST.out;rw[if_neg hw]at hs2;have HS2:=aa hs2
       cases hw1:(o.kind==2) with
       | false=>
         clear hw hs2;go_wp2;go_roundw;case rel=>exact⟨trivial,rfl,m,by omega,rfl,HS2.out⟩
         case measure=>first|(simp[intOf];done)|(simp[intOf];omega)
       | true=>
         have hw2:(o.key==(k:Int))=false:=by rw[beq_eq_false_iff_ne];exact fun e=>hw ⟨hw1,e⟩
         clear hw hs2;go_wp2;go_roundw;case rel=>exact⟨trivial,rfl,m,by omega,rfl,HS2.out⟩
         case measure=>first|(simp[intOf];done)|(simp[intOf];omega)
  ·obtain rfl:k=3:=by omega
   obtain⟨A',c',rfl,_⟩:=HI.out.cell.1;go_wp2;go_returns;exact⟨_,rfl,by rw[<-j6];exact HI.out.low (by omega),hbb⟩
theorem xD{t:aA}(hok:bX t=true){k:Nat}{key v:Int}(h:before (t.ops.take k) key=some v):0<=v:=by
 obtain⟨o,ho,_,rfl⟩:=wu h
 exact(j5 (eT hok (List.mem_of_mem_take ho))).1
theorem uG(t:aA)(ov:Value)(w:World)(h:aF 3 aj w ov t.ops)(hok:bX t=true) :
 Calls Tryz.prog 152 #[ng t ov] w (YA w (kS t.ops)):=by
 have hnn:=fun k key v=>xD hok (k:=k) (key:=key) (v:=v);obtain⟨s,ops,d⟩:=t;have hlen:=bU hok;simp only at hlen h hnn ⊢;obtain⟨A0,c0,rfl,_⟩:=id h;have HS:=aa h;have dO:=aa hok;have HNN:=aa hnn;clear h hok hnn;show Calls Tryz.prog 152 #[.agg #[.int .i64 s,.slice A0 ops.length c0,.bool d]] w _;go_enter Tryz.func152,Tryz.ntmps152;go_wp2;go_loopw [3,4] (fun o i wr=>Ext (w.alloc (.cells #[.int .i64 s,.slice A0 ops.length c0,.bool d] 48)) wr/\∃k:Nat,k<=ops.length/\i=.int .i64 k/\Hid (Row 71 3 aj (w.heap.size+1) wr o (zF ops k))) (fun _ i _=>ops.length-(intOf i).toNat)
 case atStart=>
  refine⟨(Ext.refl _).alloc _,0,Nat.zero_le _,rfl,?_⟩;have hR:=bT (E:=71) (m:=3) (enc:=aj) (w:=w.alloc (.cells #[.int .i64 s,.slice A0 ops.length c0,.bool d] 48));rw[show (w.alloc (.cells #[.int .i64 s,.slice A0 ops.length c0,.bool d] 48)).heap.size=w.heap.size+1 by simp]at hR;exact hR
 case round=>
  obtain⟨hb,k,hk,rfl,HI⟩:=hrel;have hkl:=zu ops k;have hbb:=((Ext.refl w).alloc _).trans hb;have e0:wr.cell? ⟨w.heap.size,0,none⟩=some (.int .i64 s):=hb.cell (av rfl);have e1:wr.cell? ⟨w.heap.size,1,none⟩=some (.slice A0 ops.length c0):=hb.cell (av rfl);have e2:wr.cell? ⟨w.heap.size,2,none⟩=some (.bool d):=hb.cell (av rfl);by_cases hlt:k<ops.length
  ·go_wp2_with fail
   refine(lN ⟨s,ops,d⟩ _ _ (HS.out.ext hbb) (by show ops.length<=_;omega)).mono ?_
   rw[dO.out];rintro e w1 ⟨rfl,b1⟩;have E0:∀e,(over w1 e).cell? ⟨w.heap.size,0,none⟩=some (.int .i64 s):=aG (b1.cell e0);have E1:∀e,(over w1 e).cell? ⟨w.heap.size,1,none⟩=some (.slice A0 ops.length c0):=aG (b1.cell e1);have E2:∀e,(over w1 e).cell? ⟨w.heap.size,2,none⟩=some (.bool d):=aG (b1.cell e2);have KO:=aa (hb.trans b1);have hHS:=HS.out.ext (hbb.trans b1);obtain⟨A2,c2,hA2,hcc⟩:=id hHS;injection hA2 with Zl e2' e3;subst Zl e3;obtain⟨b,off,rfl,hbl,hcc⟩:=hcc (by omega);obtain⟨o,ho⟩:=af hlt;have d0:∀e,(over w1 e).cell? ⟨b,off+k*3,none⟩=some (.int .i64 o.kind):=aG (hcc k o ho 0 (by omega));have d1:∀e,(over w1 e).cell? ⟨b,off+k*3+1,none⟩=some (.int .i64 o.key):=aG (hcc k o ho 1 (by omega));have d2:∀e,(over w1 e).cell? ⟨b,off+k*3+2,none⟩=some (.int .i64 o.value):=aG (hcc k o ho 2 (by omega));have FF:=aa (And.intro (b1.cell e1) (And.intro (hcc k o ho 0 (by omega)) (And.intro (hcc k o ho 1 (by omega)) (hcc k o ho 2 (by omega)))));have hsz1:w.heap.size+1<=w1.heap.size:=by have:=KO.out.size;simpa using this
   have HR1:=aa (HI.out.ext b1);have hnx:=aa (Je ho);have hfa:Hid (∀r,before (ops.take k) o.key=r->IC ops k=(mM o&&r.isNone)):=fun r hr=>by subst hr;simp only[IC,ho]
   have HQ:Hid (∀r e,before (ops.take k) o.key=r->Calls Tryz.prog 80 #[.agg #[.int .i64 s,.slice (some ⟨b,off,none⟩) ops.length c0,.bool d],.int .i64 (k:Int),.int .i64 o.key] (over w1 e) fun x w'=>x=.returned (.int .i64 (r.getD (-1)))/\Ext (over w1 e) w'):=fun r e hr=>by subst hr;exact tV s d k o.key (over w1 e) (hHS.ext (vN _ _)) (by omega) hk
   clear hcc ho e2' hHS hbb hb HI b1 e0 e1 e2
   cases hr:(o.kind==1) with
   | false=>
     go_wp2;refine aO (by kernel_rfl) (by kernel_rfl) ?_;repeat (go_big_quiet_step (fail))
     refine wpQuiet_nil ?_;intro w2 hb2;go_wp2;go_roundw;case rel=>exact⟨KO.out.trans hb2,k+1,by omega,by go_num,by
      show Row _ _ _ _ _ _ _;rw[hnx.out,hfa.out _ rfl];simpa[mM,hr] using HR1.out.ext hb2⟩
     case measure=>simp[intOf];omega
   | true=>
     cases hbf:before (ops.take k) o.key with
     | none=>
       have YI:=aa (fun e=>HQ.out none e hbf);have BD:=aa (hfa.out none hbf);clear hbf HQ hfa;go_wp2;refine aO (by kernel_rfl) (by kernel_rfl) ?_;repeat (go_big_quiet_step ((go_at_call 80;exact lq (YI.out _))))
       refine wpQuiet_nil ?_;intro w2 hb2;obtain⟨v',w3,hrun,hP⟩:=uR w2.heap.size rfl HR1.out hb2 o hsz1 (by omega);have aU:=aa hrun;have HB2:=aa hP.1;have HE2:=aa (hP.2.1 _ KO.out (by simp));have g1:=hb2.cell FF.out.1;have g2:w2.cell? ⟨b,off+k*3,none⟩=some (.int .i64 o.kind):=hb2.cell FF.out.2.1;have g3:w2.cell? ⟨b,off+k*3+1,none⟩=some (.int .i64 o.key):=hb2.cell FF.out.2.2.1;have g4:w2.cell? ⟨b,off+k*3+2,none⟩=some (.int .i64 o.value):=hb2.cell FF.out.2.2.2;clear hrun hP E0 E1 E2 d0 d1 d2;go_wp2_with (at_builtin;refine wpList_append_run rfl rfl rfl rfl aU.out ?_)
       go_roundw;case rel=>exact⟨HE2.out,k+1,by omega,by go_num,by
        show Row _ _ _ _ _ _ _;rw[hnx.out,BD.out];simpa[mM,hr] using HB2.out⟩
       case measure=>simp[intOf];omega
     | some vb=>
       have hv0:0<=vb:=HNN.out k o.key vb hbf;have hv1:decide (vb<0)=false:=by simp;omega
       have YI:=aa (fun e=>HQ.out (some vb) e hbf);have BD:=aa (hfa.out (some vb) hbf);clear hbf HQ hfa;go_wp2;refine aO (by kernel_rfl) (by kernel_rfl) ?_;repeat (go_big_quiet_step ((go_at_call 80;exact lq (YI.out _))))
       refine wpQuiet_nil ?_;intro w2 hb2;clear E0 E1 E2 d0 d1 d2;go_wp2;go_roundw;case rel=>exact⟨KO.out.trans hb2,k+1,by omega,by go_num,by
        show Row _ _ _ _ _ _ _;rw[hnx.out,BD.out];simpa[mM,hr] using HR1.out.ext hb2⟩
       case measure=>simp[intOf];omega
  ·obtain rfl:k=ops.length:=by omega
   obtain⟨A',c',rfl,_⟩:=HI.out.cell.1;go_wp2;go_returns;exact⟨_,rfl,HI.out.low (by omega),hbb⟩
theorem tJ(a b:List ((Int × Int) × Nat))(q:Int × Int):lookW (a++b) q=(lookW a q).or (lookW b q):=by unfold lookW;rw[List.find?_append];cases a.find? (fun p=>p.1==q)<;>simp
theorem La{h:List aA}{k j:Nat}{t:aA}{o:aQ}{key value:Int}(ht:h[k]? =some t)(ho:t.ops[j]? =some o)(he:o.kind=2/\o.key=key/\o.value=value)(hl:lookW (dB h k t.ops j) (key,value)=none):aB h key value=k:=by obtain⟨l,e⟩:=BS ht ho (by simp[iN,he.1]);unfold aB;rw[e,tJ,hl];simp[lookW,he.2.1,he.2.2]
theorem OM{h:List aA}{k j:Nat}{ops:List aQ}{o:aQ}{key value:Int}(ho:ops[j]? =some o)(he:¬(o.kind=2/\o.key=key/\o.value=value))(hl:lookW (dB h k ops j) (key,value)=none):lookW (dB h k ops (j+1)) (key,value)=none:=by
 cases hw:iN o with
 | true=>
   have hk:o.kind=2:=by simpa[iN] using hw
   rw[qF ho hw,tJ,hl]
   have:((o.key,o.value)==(key,value))=false:=by rw[beq_eq_false_iff_ne];intro e;injection e with e1 e2;exact he ⟨hk,e1,e2⟩
   simp[lookW,this]
 | false=>rw[yg ho hw];exact hl
theorem fV{v:Value}{h:List aA}(key value:Int)(w:World)(H:gL w v h)(hlen:h.length<=2097152)(hM:∀t∈h,t.ops.length<=2097152) :
 Calls Tryz.prog 49 #[v,.int .i64 key,.int .i64 value] w fun e w'=>e=.returned (.int .i64 (aB h key value))/\w=w':=by
 obtain⟨A,c,rfl⟩:=H.slice;have HH:=aa H;have HM:=aa hM;have hg:=AZ;clear H hM;go_enter Tryz.func49,Tryz.ntmps49;go_wp2;go_loopw [7] (fun i wr=>w=wr/\∃k:Nat,k<=h.length/\i=.int .i64 k/\Hid (lookW (dB h k [] 0) (key,value)=none)) (fun i _=>h.length-(intOf i).toNat)
 case atStart=>exact⟨rfl,0,Nat.zero_le _,rfl,by show _ = _;simp[dB,dL,fH,lookW]⟩
 case round=>
  obtain⟨rfl,k,hk,rfl,HI⟩:=hrel;by_cases hlt:k<h.length
  ·obtain⟨b,off,rfl,hbl,hc⟩:=HH.out.head (by omega);obtain⟨t,ht⟩:=af hlt;obtain⟨ov,c0,c1,c2,hs⟩:=hc k t ht;obtain⟨A',c',rfl,hc'⟩:=hs;have hl:=HM.out t (List.mem_of_getElem? ht);have HI0:Hid (lookW (dB h k t.ops 0) (key,value)=none):=by show _ = _;rw[show dB h k t.ops 0=dB h k [] 0 by simp[dB,fH]];exact HI.out
   have HT:=aa ht;have HC':=aa hc';clear ht hc hc' c0 c2 HI;go_wp2;go_loopw [8] (fun i wr'=>w=wr'/\∃j:Nat,j<=t.ops.length/\i=.int .i64 j/\Hid (lookW (dB h k t.ops j) (key,value)=none)) (fun i _=>t.ops.length-(intOf i).toNat)
   case atStart=>exact⟨rfl,0,Nat.zero_le _,rfl,HI0.out⟩
   case round=>
    obtain⟨rfl,j,hj,rfl,HJ⟩:=hrel;by_cases hjt:j<t.ops.length
    ·obtain⟨b',off',rfl,pg,hcc⟩:=HC'.out (by omega);obtain⟨o,ho⟩:=af hjt;have d0:w.cell? ⟨b',off'+j*3,none⟩=some (.int .i64 o.kind):=hcc j o ho 0 (by omega);have d1:w.cell? ⟨b',off'+j*3+1,none⟩=some (.int .i64 o.key):=hcc j o ho 1 (by omega);have d2:w.cell? ⟨b',off'+j*3+2,none⟩=some (.int .i64 o.value):=hcc j o ho 2 (by omega);have he:=fun W=>pY o.kind o.key o.value 2 key value W;by_cases hm:o.kind=2/\o.key=key/\o.value=value
     ·have hn:=aa (La HT.out ho hm HJ.out);rw[decide_eq_true hm]at he;clear hm ho hcc;go_wp2;go_returns;exact⟨aX hn.out.symm,rfl⟩
     ·have hn:=aa (OM ho hm HJ.out);rw[decide_eq_false hm]at he;clear hm ho hcc;go_wp2;go_roundw;case rel=>exact⟨trivial,j+1,by omega,by go_num,hn.out⟩
      case measure=>simp[intOf];omega
    ·obtain rfl:j=t.ops.length:=by omega
     go_wp2;go_roundw;case rel=>exact⟨trivial,k+1,by omega,by go_num,by
      show _ = _;rw[show dB h (k+1) [] 0=dB h k t.ops t.ops.length by rw[Ck HT.out];simp[dB,fH]];exact HJ.out⟩
     case measure=>simp[intOf];omega
  ·obtain rfl:k=h.length:=by omega
   have hn:Hid (aB h key value=-1):=by
    show _ = _;have e:dB h h.length [] 0=Bo h:=by simp[dB,fH,Bo]
    unfold aB;rw[<-e,HI.out];rfl
   go_wp2;go_returns;exact⟨aX hn.out.symm,rfl⟩
theorem P8{ops:List aQ}{key:Int}{o:aQ}{i:Nat}(ho:(bD ops)[i]? =some o)(hk:o.key=key):fB ops key=some o:=by
 have:=(jD.1 (List.mem_of_getElem? ho)).2
 rwa [hk]at this
theorem Qs{v:Value}{h:List aA}(key value:Int)(w:World)(H:gL w v h)(hok:aC h=true)(hk:0<=key/\key<=2) :
 Calls Tryz.prog 222 #[v,.int .i64 key,.int .i64 value] w fun e w'=>e=.returned (.bool (iJ h key value))/\Ext w w':=by
 have hwr:=fo (h:=h) key value;obtain⟨A,c,rfl⟩:=H.slice;have HH:=aa H;have dO:=aa hok;have HK:=aa hk;have hlen:=aM hok;clear H hk;obtain⟨z,hz⟩:∃z,aB h key value=z:=⟨_,rfl⟩;have hW:=fun w' (H:gL w' (.slice A h.length c) h)=>fV key value w' H (by omega) (aD hok);rw[hz]at hwr hW;have HW:=aa hW;have HZ:=aa hz;clear hz hW hok;by_cases hneg:z<0
 ·have hR:=aa (show iJ h key value=false by unfold iJ;rw[HZ.out,show decide (0<=z)=false by simp;omega];rfl);go_enter Tryz.func222,Tryz.ntmps222;go_wp2_with fail
  refine(HW.out _ HH.out).mono ?_
  rintro e w1 ⟨rfl,rfl⟩;go_wp2;go_returns;exact⟨aN hR.out.symm,Ext.refl _⟩
 ·obtain⟨n,rfl⟩:=Int.eq_ofNat_of_zero_le (show 0<=z by omega);have hn:n<h.length:=by omega
  obtain⟨t,ht⟩:=af hn;have hto:=bY dO.out (List.mem_of_getElem? ht);have hR:Hid (iJ h key value=(fB t.ops key).any fun o=>o.value==value):=by show _ = _;unfold iJ;rw[HZ.out,Int.toNat_natCast,dw ht,show decide ((0:Int)<=(n:Int))=true by simp,Bool.true_and]
  obtain⟨b,off,rfl,hbl,hc⟩:=HH.out.head (by omega);obtain⟨ov,c0,c1,c2,hs⟩:=hc n t ht;have HS:=aa hs;have Uf:=aa hto;have Jf:(bD t.ops).length<=3:=by rw[<-j6];exact lV _ _
  clear hc ht hs hto;go_enter Tryz.func222,Tryz.ntmps222;go_wp2_with fail
  refine(HW.out _ HH.out).mono ?_
  rintro e w1 ⟨rfl,rfl⟩;go_wp2_with fail
  refine(oM t _ _ HS.out Uf.out).mono ?_
  rintro e w2 ⟨v2,rfl,r2,b2⟩;have R2:=aa r2.cell.1;obtain⟨A2,c2',rfl,_⟩:=id r2.cell.1;clear r2;go_wp2;go_loopw [9] (fun i wr=>w2=wr/\∃j:Nat,j<=(bD t.ops).length/\i=.int .i64 j/\Hid (∀i o,i<j->(bD t.ops)[i]? =some o->o.key≠key)) (fun i _=>(bD t.ops).length-(intOf i).toNat)
  case atStart=>exact⟨rfl,0,Nat.zero_le _,rfl,fun i o hi=>absurd hi (Nat.not_lt_zero i)⟩
  case round=>
   obtain⟨rfl,j,hj,rfl,HJ⟩:=hrel;by_cases hjt:j<(bD t.ops).length
   ·obtain⟨A3,c3,hA3,hcc⟩:=id R2.out;injection hA3 with e1 e2 e3;subst e1 e3;obtain⟨b',off',rfl,pg,hcc⟩:=hcc (by omega);obtain⟨o,ho⟩:=af hjt;have d1:w2.cell? ⟨b',off'+j*3+1,none⟩=some (.int .i64 o.key):=hcc j o ho 1 (by omega);have d2:w2.cell? ⟨b',off'+j*3+2,none⟩=some (.int .i64 o.value):=hcc j o ho 2 (by omega);have Ho:=aa ho;clear hcc ho e2;by_cases hkey:o.key=key
    ·have hfin:Hid (∀r,(o.value==value)=r->iJ h key value=r):=fun r hr=>by rw[hR.out,P8 Ho.out hkey];exact hr
     cases hv:(o.value==value)<;>(
      have hf:=aa (hfin.out _ hv);go_wp2;go_returns;exact⟨aN hf.out.symm,b2⟩)
    ·go_wp2;go_roundw;case rel=>exact⟨trivial,j+1,by omega,by go_num,fun i o' hi ho'=>by
      rcases Nat.lt_or_ge i j with h'|h'
      ·exact HJ.out i o' h' ho'
      ·obtain rfl:i=j:=by omega
       rw[Ho.out]at ho';cases ho';exact hkey⟩
     case measure=>simp[intOf];omega
   ·obtain rfl:j=(bD t.ops).length:=by omega
    have hf:Hid (iJ h key value=false):=by
     show _ = _;rw[hR.out]
     cases hl:fB t.ops key with
     | none=>rfl
     | some o=>
       exfalso;have h3:=j3 hl;have hm:o∈bD t.ops:=jD.2 ⟨by rw[h3.2.2];have:=HK.out;omega,by rw[h3.2.2];exact hl⟩;obtain⟨i,hi,he⟩:=List.getElem_of_mem hm;exact HJ.out i o hi (by rw[List.getElem?_eq_getElem hi,he]) h3.2.2
    go_wp2;go_returns;exact⟨aN hf.out.symm,b2⟩
theorem Qj{v:Value}{h:List aA}(n:Nat)(o:aQ)(w:World)(H:gL w v h)(hok:aC h=true)(ho:gH o=true) :
 Calls Tryz.prog 190 #[v,.int .i64 (n:Int),fP o] w fun e w'=>e=.returned (.int .i64 (eP h n o))/\Ext w w':=by
 have hwr:=fo (h:=h) o.key o.value;have hkey:=iB ho;have hlen:=aM hok;obtain⟨A,c,rfl⟩:=H.slice;have HH:=aa H;clear H ho;obtain⟨z,hz⟩:∃z,aB h o.key o.value=z:=⟨_,rfl⟩;have hW:=fun w' (H:gL w' (.slice A h.length c) h)=>fV o.key o.value w' H (by omega) (aD hok);have hL:=fun w' (H:gL w' (.slice A h.length c) h)=>Qs o.key o.value w' H hok hkey;rw[hz]at hwr hW;have HW:=aa hW;have HL:=aa hL;have hb0:=fun hx=>xB (h:=h) (n:=n) (o:=o) hx;have hb1:Hid (mM o=true->o.value≠0->z≠n->eP h n o=if z<0 then 1 else if gP h z.toNat=false then 2 else if iJ h o.key o.value=false then 3 else 0):=fun h1 h2 h3=>by unfold eP;rw[hz,if_neg (by simp[h1,h2,h3])]
 rw[hz]at hb0;have HB0:=aa hb0;clear hz hW hL hok hb0;show Calls Tryz.prog 190 #[.slice A h.length c,.int .i64 (n:Int),.agg #[.int .i64 o.kind,.int .i64 o.key,.int .i64 o.value]] w _;have hE:Hid (Ext w (w.alloc (.cells #[.int .i64 o.kind,.int .i64 o.key,.int .i64 o.value] 71))):=(Ext.refl _).alloc _;by_cases hall:(o.kind==1)=true/\(o.value==0)=false/\(z==(n:Int))=false;case neg=>
  have h0:Hid (eP h n o=0):=HB0.out (by
   cases h1:(o.kind==1) with
   | false=>exact .inl h1
   | true=>
     cases h2:(o.value==0) with
     | true=>exact .inr (.inl (by simpa using h2))
     | false=>
       cases h3:(z==(n:Int)) with
       | true=>exact .inr (.inr (by simpa using h3))
       | false=>exact absurd ⟨h1,h2,h3⟩ hall)
  cases h1:(o.kind != 1)<;>cases h2:(o.value==0)<;>cases h3:(z==(n:Int))<;>first
   | (exfalso;apply hall;simp at h1;simp[h1,h2,h3];done)
   | (clear hall
      go_enter Tryz.func190,Tryz.ntmps190;go_wp2_with fail
      refine(HW.out _ (HH.out.ext hE.out)).mono ?_
      rintro e w1 ⟨rfl,rfl⟩;go_wp2;go_returns;exact⟨aX h0.out.symm,hE.out⟩)
 obtain⟨h1,h2,h3⟩:=hall;have hr:=aa (hb1.out h1 (by simpa using h2) (by simpa using h3));have h1':(o.kind != 1)=false:=by simp at h1;simp[h1]
 clear hb1 HB0 h1;by_cases hneg:z<0
 ·go_enter Tryz.func190,Tryz.ntmps190;go_wp2_with fail
  refine(HW.out _ (HH.out.ext hE.out)).mono ?_
  rintro e w1 ⟨rfl,rfl⟩;go_wp2;go_returns;exact⟨aX (by rw[hr.out,if_pos hneg]),hE.out⟩
 ·obtain⟨m,rfl⟩:=Int.eq_ofNat_of_zero_le (show 0<=z by omega);have hm:m<h.length:=by omega
  obtain⟨t,ht⟩:=af hm;have hdo:Hid (gP h m=t.done):=by show _ = _;simp[gP,ht]
  obtain⟨b,off,rfl,hbl,hc⟩:=HH.out.head (by omega);obtain⟨ov,c0,c1,c2,hs⟩:=hc m t ht;clear hc ht hs c0 c1
  cases hd:t.done with
  | false=>
    rw[hd]at c2;go_enter Tryz.func190,Tryz.ntmps190;go_wp2_with fail
    refine(HW.out _ (HH.out.ext hE.out)).mono ?_
    rintro e w1 ⟨rfl,rfl⟩;go_wp2;go_returns;exact⟨aX (by rw[hr.out,if_neg (by omega),Int.toNat_natCast,hdo.out,if_pos hd]),hE.out⟩
  | true=>
    rw[hd]at c2;have hr2:Hid (∀r,iJ h o.key o.value=r->eP h n o=if r=false then 3 else 0):=fun r e=>by subst e;rw[hr.out,if_neg (by omega),Int.toNat_natCast,hdo.out,if_neg (by simp[hd])]
    cases hlv:iJ h o.key o.value<;>(
     go_enter Tryz.func190,Tryz.ntmps190;go_wp2_with fail
     refine(HW.out _ (HH.out.ext hE.out)).mono ?_
     rintro e w1 ⟨rfl,rfl⟩;go_wp2_with fail
     refine(HL.out _ (HH.out.ext hE.out)).mono ?_
     rw[hlv];rintro e w2 ⟨rfl,b2⟩;go_wp2;go_returns;exact⟨aX (by rw[hr2.out _ hlv];rfl),hE.out.trans b2⟩)
def BN(xs:List Pl)(P:Nat->Prop)(most:Nat):Prop:=xs.length<=most/\(∀q∈xs,∃n:Nat,q.who=n/\P n)/\∀n,P n->∃q∈xs,q.who=(n:Int)
theorem BN.congr{xs:List Pl}{P Q:Nat->Prop}{m m':Nat}(h:BN xs P m)(hp:∀n,P n↔Q n)(hm:m<=m'):BN xs Q m':=
 ⟨Nat.le_trans h.1 hm,fun q hq=>let ⟨n,h1,h2⟩:=h.2.1 q hq;⟨n,h1,(hp n).1 h2⟩,fun n hn=>h.2.2 n ((hp n).2 hn)⟩
theorem BN.push{xs:List Pl}{P Q:Nat->Prop}{m m':Nat}(h:BN xs P m)(k:Nat)(a:Int)(hp:∀n,Q n↔(P n∨n=k))(hm:m+1<=m'):BN (xs++[⟨k,a⟩]) Q m':=by
 refine⟨by have:=h.1;simp;omega,fun q hq=>?_,fun n hn=>?_⟩
 ·rcases List.mem_append.1 hq with hq|hq
  ·obtain⟨n,h1,h2⟩:=h.2.1 q hq;exact⟨n,h1,(hp n).2 (.inl h2)⟩
  ·simp at hq;subst hq;exact⟨k,rfl,(hp k).2 (.inr rfl)⟩
 ·rcases (hp n).1 hn with h1|rfl
  ·obtain⟨q,hq,h2⟩:=h.2.2 n h1;exact⟨q,List.mem_append_left _ hq,h2⟩
  ·exact⟨⟨(n:Int),a⟩,List.mem_append_right _ (List.mem_singleton.2 rfl),rfl⟩
def WI(h:List aA)(k:Nat)(n:Nat):Prop:=n<k/\yx (opsOf h n)=true
def OO(h:List aA)(k:Nat)(ops:List aQ)(j:Nat)(n:Nat):Prop:=WI h k n∨(n=k/\xA ops j=true)
theorem GJ{v:Value}{h:List aA}(w:World)(H:gL w v h)(hok:aC h=true) :
 Calls Tryz.prog 189 #[v] w fun e w'=>∃v' xs,e=.returned v'/\Row 208 2 kM w.heap.size w' v' xs/\BN xs (WI h h.length) 100/\Ext w w':=by
 obtain⟨A,c,rfl⟩:=H.slice;have HH:=aa H;have dO:=aa hok;have hlen:=aM hok;clear H hok;go_enter Tryz.func189,Tryz.ntmps189;go_wp2;go_loopw [3,4] (fun o i wr=>Ext w wr/\∃k:Nat,k<=h.length/\i=.int .i64 k/\Hid (∃xs,Row 208 2 kM w.heap.size wr o xs/\BN xs (WI h k) (k*6))) (fun _ i _=>h.length-(intOf i).toNat)
 case atStart=>exact⟨(Ext.refl _).alloc _,0,Nat.zero_le _,rfl,[],bT,Nat.le_refl _,fun q hq=>by simp at hq,fun n hn=>absurd hn.1 (Nat.not_lt_zero n)⟩
 case round=>
  obtain⟨hb,k,hk,rfl,HI⟩:=hrel;by_cases hlt:k<h.length
  ·go_wp2_with fail
   refine(bu _ (HH.out.ext hb) (by omega) (aD dO.out)).mono ?_
   rw[dO.out];rintro e w1 ⟨rfl,b1⟩;obtain⟨b,off,rfl,hbl,hc⟩:=HH.out.head (by omega);obtain⟨t,ht⟩:=af hlt;obtain⟨ov,c0,c1,c2,hs⟩:=hc k t ht;have HB1:=aa (hb.trans b1);have CC:=aa (And.intro c0 (And.intro c1 c2));have HT:=aa ht;have hto:=bY dO.out (List.mem_of_getElem? ht);have hol:=bU hto;have Uf:=aa hto;have HS:=aa hs;have xx:=aa (dw ht);obtain⟨A',c',rfl,_⟩:=id hs;replace c1:=HB1.out.cell c1;have HI1:Hid (∃xs,Row 208 2 kM w.heap.size w1 u3 xs/\BN xs (OO h k t.ops 0) (k*6+0)):=by obtain⟨xs,h1,h2⟩:=HI.out;exact⟨xs,h1.ext b1,h2.congr (fun n=>by unfold OO;exact⟨fun x=>.inl x,fun x=>x.elim id (fun y=>by have h0:xA t.ops 0=false:=rfl;rw[h0]at y;cases y.2)⟩) (Nat.le_refl _)⟩
   clear ht hs hc hto c0 c2 HI hb b1;go_wp2;go_loopw [3,5] (fun o i wr=>Ext w wr/\∃j:Nat,j<=t.ops.length/\i=.int .i64 j/\Hid (∃xs,Row 208 2 kM w.heap.size wr o xs/\BN xs (OO h k t.ops j) (k*6+j))) (fun _ i _=>t.ops.length-(intOf i).toNat)
   case atStart=>exact⟨HB1.out,0,Nat.zero_le _,rfl,HI1.out⟩
   case round=>
    obtain⟨hb,j,hj,rfl,HJ⟩:=hrel;have hbw:w.heap.size<=wr.heap.size:=hb.size;obtain⟨xs,hR,hO⟩:=HJ.out;have HR:=aa hR;have HO:=aa hO;have hxl:=hO.1;clear HJ hR hO HI1;by_cases hjt:j<t.ops.length
    ·obtain⟨A2,c2',hA2,hcc⟩:=HS.out.ext hb;injection hA2 with e1 e2 e3;subst e1 e3;obtain⟨b',off',rfl,pg,hcc⟩:=hcc (by omega);obtain⟨o,ho⟩:=af hjt;have d0:wr.cell? ⟨b',off'+j*3,none⟩=some (.int .i64 o.kind):=hcc j o ho 0 (by omega);have d1:wr.cell? ⟨b',off'+j*3+1,none⟩=some (.int .i64 o.key):=hcc j o ho 1 (by omega);have d2:wr.cell? ⟨b',off'+j*3+2,none⟩=some (.int .i64 o.value):=hcc j o ho 2 (by omega);have C0:=hb.cell CC.out.1;have C1:=hb.cell CC.out.2.1;have C2:=hb.cell CC.out.2.2;obtain⟨W,hW⟩:∃W,wr.alloc (.cells #[.int .i64 o.kind,.int .i64 o.key,.int .i64 o.value] 71)=W:=⟨_,rfl⟩;have hE:Ext wr W:=hW▸(Ext.refl wr).alloc _;have x0:W.cell? ⟨wr.heap.size,0,none⟩=some (.int .i64 o.kind):=hW▸av rfl;have x1:W.cell? ⟨wr.heap.size,1,none⟩=some (.int .i64 o.key):=hW▸av rfl;have x2:W.cell? ⟨wr.heap.size,2,none⟩=some (.int .i64 o.value):=hW▸av rfl;have hnx:=aa (yE t.ops j);have hoa:Hid (∀r,before (t.ops.take j) o.key=r->wF t.ops j=(mM o&&(match r with|some v=>v != o.value|none=>false))):=fun r hr=>by subst hr;show _ = _;unfold wF;rw[ho];rfl
     have HQ:Hid (∀r e,before (t.ops.take j) o.key=r->Calls Tryz.prog 80 #[.agg #[.int .i64 t.az,.slice (some ⟨b',off',none⟩) t.ops.length c',.bool t.done],.int .i64 (j:Int),.int .i64 o.key] (over W e) fun x w'=>x=.returned (.int .i64 (r.getD (-1)))/\Ext (over W e) w'):=fun r e hr=>by subst hr;exact tV t.az t.done j o.key (over W e) ((HS.out.ext (hb.trans hE)).ext (vN _ _)) (by omega) (by omega)
     have HX:=aa (And.intro hE (And.intro x0 (And.intro x1 x2)));have X0:∀e,(over W e).cell? ⟨wr.heap.size,0,none⟩=some (.int .i64 o.kind):=aG x0;have X1:∀e,(over W e).cell? ⟨wr.heap.size,1,none⟩=some (.int .i64 o.key):=aG x1;have X2:∀e,(over W e).cell? ⟨wr.heap.size,2,none⟩=some (.int .i64 o.value):=aG x2;have D0:∀e,(over W e).cell? ⟨b,off+k*3,none⟩=some (.int .i64 t.az):=aG (hE.cell C0);have D1:∀e,(over W e).cell? ⟨b,off+k*3+1,none⟩=some (.slice (some ⟨b',off',none⟩) t.ops.length c'):=aG (hE.cell C1);have D2:∀e,(over W e).cell? ⟨b,off+k*3+2,none⟩=some (.bool t.done):=aG (hE.cell C2);have HW:=aa hW;clear ho hcc e2 x0 x1 x2 hE hW;have skip:Hid (∀r,wF t.ops j=r->r=false->BN xs (OO h k t.ops (j+1)) (k*6+(j+1))):=fun r e1 e2=>HO.out.congr (fun n=>by unfold OO;rw[hnx.out,e1,e2,Bool.or_false]) (by omega);have yes:Hid (wF t.ops j=true->BN (xs++[⟨k,j⟩]) (OO h k t.ops (j+1)) (k*6+(j+1))):=fun e1=>HO.out.push k j (fun n=>by
      unfold OO;rw[hnx.out,e1,Bool.or_true];constructor
      ·rintro (h1|h1)
       ·exact .inl (.inl h1)
       ·exact .inr h1.1
      ·rintro ((h1|h1)|h1)
       ·exact .inl h1
       ·exact .inr ⟨h1.1,rfl⟩
       ·exact .inr ⟨h1,rfl⟩) (by omega)
     have main:∀r,before (t.ops.take j) o.key=r->True:=fun _ _=>trivial;clear main
     cases hbf:before (t.ops.take j) o.key with
     | none=>
       have YI:=aa (fun e=>HQ.out none e hbf);have SK:=aa (skip.out _ (hoa.out none hbf) (by simp));clear hbf HQ hoa skip yes;cases hr:(o.kind==1)<;>(
        go_wp2;rw[HW.out];refine aO (by kernel_rfl) (by kernel_rfl) ?_;repeat (go_big_quiet_step ((go_at_call 80;exact lq (YI.out _))))
        refine wpQuiet_nil ?_;intro w2 hb2;have y0:=hb2.cell HX.out.2.1;have y1:=hb2.cell HX.out.2.2.1;have y2:=hb2.cell HX.out.2.2.2;have HE2:=aa ((hb.trans HX.out.1).trans hb2);clear X0 X1 X2 D0 D1 D2;go_wp2;go_roundw;case rel=>exact⟨HE2.out,j+1,by omega,by go_num,xs,HR.out.ext (HX.out.1.trans hb2),SK.out⟩
        case measure=>simp[intOf];omega)
     | some vb=>
       have hv0:0<=vb:=xD Uf.out hbf;have YI:=aa (fun e=>HQ.out (some vb) e hbf);have HOA:=aa (hoa.out (some vb) hbf);clear hbf HQ hoa
       cases hr:(o.kind==1) with
       | false=>
         have SK:=aa (skip.out _ HOA.out (by simp[mM,hr]));clear skip yes;go_wp2;rw[HW.out];refine aO (by kernel_rfl) (by kernel_rfl) ?_;repeat (go_big_quiet_step ((go_at_call 80;exact lq (YI.out _))))
         refine wpQuiet_nil ?_;intro w2 hb2;have y0:=hb2.cell HX.out.2.1;have y1:=hb2.cell HX.out.2.2.1;have y2:=hb2.cell HX.out.2.2.2;have HE2:=aa ((hb.trans HX.out.1).trans hb2);clear X0 X1 X2 D0 D1 D2;go_wp2;go_roundw;case rel=>exact⟨HE2.out,j+1,by omega,by go_num,xs,HR.out.ext (HX.out.1.trans hb2),SK.out⟩
         case measure=>simp[intOf];omega
       | true=>
         cases hne:(vb != o.value) with
         | false=>
           have SK:=aa (skip.out _ HOA.out (by simp[mM,hr,hne]));clear skip yes;go_wp2;rw[HW.out];refine aO (by kernel_rfl) (by kernel_rfl) ?_;repeat (go_big_quiet_step ((go_at_call 80;exact lq (YI.out _))))
           refine wpQuiet_nil ?_;intro w2 hb2;have y0:=hb2.cell HX.out.2.1;have y1:=hb2.cell HX.out.2.2.1;have y2:=hb2.cell HX.out.2.2.2;have HE2:=aa ((hb.trans HX.out.1).trans hb2);clear X0 X1 X2 D0 D1 D2;go_wp2;go_roundw;case rel=>exact⟨HE2.out,j+1,by omega,by go_num,xs,HR.out.ext (HX.out.1.trans hb2),SK.out⟩
           case measure=>simp[intOf];omega
         | true=>
           have SK:=aa (yes.out (by rw[HOA.out];simp[mM,hr,hne]));clear skip yes;go_wp2;rw[HW.out];refine aO (by kernel_rfl) (by kernel_rfl) ?_;repeat (go_big_quiet_step ((go_at_call 80;exact lq (YI.out _))))
           refine wpQuiet_nil ?_;intro w2 hb2;have y0:=hb2.cell HX.out.2.1;have y1:=hb2.cell HX.out.2.2.1;have y2:=hb2.cell HX.out.2.2.2;obtain⟨v',w3,hrun,hP⟩:=FC w2.heap.size rfl HR.out (HX.out.1.trans hb2) ⟨k,j⟩ hbw (by omega);have aU:=aa hrun;have sH:=aa hP.1;have wV:=aa (hP.2.1 w hb (Nat.le_refl _));clear X0 X1 X2 D0 D1 D2 hrun hP;go_wp2_with (at_builtin;refine wpList_append_run rfl rfl rfl rfl aU.out ?_)
           go_roundw;case rel=>exact⟨wV.out,j+1,by omega,by go_num,_,sH.out,SK.out⟩
           case measure=>simp[intOf];omega
    ·obtain rfl:j=t.ops.length:=by omega
     have C1:=hb.cell CC.out.2.1;go_wp2;go_roundw;case rel=>exact⟨hb,k+1,by omega,by go_num,xs,HR.out,HO.out.congr (fun n=>by
      unfold OO WI;constructor
      ·rintro (h1|h1)
       ·exact⟨by omega,h1.2⟩
       ·exact⟨by omega,by rw[h1.1,xx.out];exact h1.2⟩
      ·rintro⟨h1,h2⟩;by_cases e:n=k
       ·exact .inr ⟨e,by rw[e,xx.out]at h2;exact h2⟩
       ·exact .inl ⟨by omega,h2⟩) (by omega)⟩
     case measure=>simp[intOf];omega
  ·obtain rfl:k=h.length:=by omega
   obtain⟨xs,hR,hO⟩:=HI.out;have HR:=aa hR;have HO:=aa hO;obtain⟨A',c',rfl,_⟩:=id hR.cell.1;clear hR hO HI;go_wp2;go_returns;exact⟨_,xs,rfl,HR.out,HO.out.congr (fun _=>Iff.rfl) (by omega),hb⟩
def CZ(h:List aA)(xs:List Pl)(m:Nat):Bool:=(xs.take m).any fun q=>gP h q.who.toNat
theorem Qe{h:List aA}{xs:List Pl}{m:Nat}{q:Pl}(hq:xs[m]? =some q):CZ h xs (m+1)=(CZ h xs m || gP h q.who.toNat):=by unfold CZ;rw[ah hq,List.any_append];simp
theorem Uw{h:List aA}{xs:List Pl}{most:Nat}(hO:BN xs (WI h h.length) most):CZ h xs xs.length=fQ h 4:=by
 unfold CZ fQ;rw[List.take_length,Bool.eq_iff_iff,List.any_eq_true,List.any_eq_true];constructor
 ·rintro⟨q,hq,hd⟩;obtain⟨n,h1,h2⟩:=hO.2.1 q hq;refine⟨n,by simpa using h2.1,?_⟩;rw[h1]at hd;rw[show ((n:Int)).toNat=n by omega]at hd;rw[hd,lY,if_pos rfl,h2.2];rfl
 ·rintro⟨n,hn,hd⟩;rw[Bool.and_eq_true]at hd;have hb:=hd.2;rw[lY,if_pos rfl]at hb;obtain⟨q,hq,h2⟩:=hO.2.2 n ⟨by simpa using hn,hb⟩;exact⟨q,hq,by rw[h2,show ((n:Int)).toNat=n by omega];exact hd.1⟩
def wM(h:List aA)(kind:Int)(k:Nat):Bool:=(List.range k).any fun n=>gP h n&&lY h kind n
theorem LD(h:List aA)(kind:Int)(k:Nat):wM h kind (k+1)=(wM h kind k || (gP h k&&lY h kind k)):=by unfold wM;rw[List.range_succ,List.any_append];simp
theorem IY{v:Value}{h:List aA}(kind:Int)(w:World)(H:gL w v h)(hok:aC h=true)(hk:1<=kind/\kind<=4) :
 Calls Tryz.prog 159 #[v,.int .i64 kind] w fun e w'=>∃A n c,e=.returned (.slice A n c)/\decide (0<n)=fQ h kind/\n<=1000/\Ext w w':=by
 obtain⟨A,c,rfl⟩:=H.slice;have HH:=aa H;have dO:=aa hok;have hlen:=aM hok;have hkb:jR kind 1 4=true:=bL.2 hk;clear H hok;by_cases h4:kind=4
 ·subst h4;go_enter Tryz.func159,Tryz.ntmps159;go_wp2_with fail
  have hE0:Hid (Ext w (w.alloc (.cells #[] 208))):=(Ext.refl _).alloc _
  refine(bu _ (HH.out.ext hE0.out) (by omega) (aD dO.out)).mono ?_
  rw[dO.out];rintro e w1 ⟨rfl,b1⟩;go_wp2_with (go_at_call 48;refine(dY _ _ _ _).mono ?_;rw[hkb];rintro e w' ⟨rfl,rfl⟩)
  refine(GJ _ (HH.out.ext (hE0.out.trans b1)) dO.out).mono ?_
  rintro e w2 ⟨v2,xs,rfl,r2,o2,b2⟩;obtain⟨A2,c2,rfl,_⟩:=id r2.cell.1;have hxl:=o2.1;have hR0:Row 208 2 kM w.heap.size (w.alloc (.cells #[] 208)) (.slice (some ⟨w.heap.size,0,none⟩) 0 0) ([]:List Pl):=bT;have HR2:=aa r2;have PD:=aa o2;have HB2:=aa ((hE0.out.trans b1).trans b2);have HRo:=aa ((hR0.ext b1).ext b2);have adS:w.heap.size+1<=w1.heap.size:=by have:=b1.size;simpa using this
  clear r2 o2 b2 hR0;go_wp2;have hoff:Hid (∀g,(Value.slice A2 xs.length c2).ownBlock=some g->(Value.slice (some ⟨w.heap.size,0,none⟩) 0 0).ownBlock≠some g):=fun g hg e=>by
   have:=HR2.out.block g hg
   simp[Value.ownBlock]at e
   have:=b1.size
   simp at this;omega
  go_loopw [5,7] (fun o i wr=>Ext w wr/\∃m:Nat,m<=xs.length/\i=.int .i64 m/\Hid (Row 208 2 kM w.heap.size wr (.slice A2 xs.length c2) xs/\(∀g,(Value.slice A2 xs.length c2).ownBlock=some g->o.ownBlock≠some g)/\∃ys,Row 208 2 kM w.heap.size wr o ys/\decide (0<ys.length)=CZ h xs m/\ys.length<=m)) (fun _ i _=>xs.length-(intOf i).toNat)
  case atStart=>exact⟨HB2.out,0,Nat.zero_le _,rfl,HR2.out.low (by omega),hoff.out,[],HRo.out,rfl,Nat.le_refl _⟩
  case round=>
   obtain⟨hb,m,hm,rfl,HI⟩:=hrel;have hbw:w.heap.size<=wr.heap.size:=hb.size;obtain⟨hL,hof,ys,hR,hy,hyl⟩:=HI.out;have HL:=aa hL;have HOF:=aa hof;have HR:=aa hR;have HY:=aa hy;clear HI hL hof hR hy hoff HRo HR2;by_cases hlt:m<xs.length
   ·obtain⟨q,hq⟩:=af hlt;obtain⟨n,hn1,hn2⟩:=PD.out.2.1 q (List.mem_of_getElem? hq);obtain⟨A3,c3,hA3,hcc⟩:=HL.out.cell.1;injection hA3 with e1 e2 e3;subst e1 e3;obtain⟨bq,Zk,rfl,hbq,hcc⟩:=hcc (by omega);have d0:wr.cell? ⟨bq,Zk+m*2,none⟩=some (.int .i64 (n:Int)):=by rw[<-hn1];exact hcc m q hq 0 (by omega)
    have d1:wr.cell? ⟨bq,Zk+m*2+1,none⟩=some (.int .i64 q.at_):=hcc m q hq 1 (by omega);obtain⟨b,off,rfl,hbl,hc⟩:=HH.out.head (by have:=hn2.1;omega);obtain⟨t,ht⟩:=af hn2.1;obtain⟨ov,c0,c1,c2',hs⟩:=hc n t ht;replace c2':=hb.cell c2';have hnx:Hid (∀r,t.done=r->CZ h xs (m+1)=(CZ h xs m || r)):=fun r hr=>by rw[Qe hq,hn1,show ((n:Int)).toNat=n by omega];congr 1;simp[gP,ht,hr]
    have HN1:=aa hn1;have hnl:=hn2.1;clear hq hcc e2 hc ht hs c0 c1 hn1 hn2
    cases hd:t.done with
    | true=>
      rw[hd]at c2';obtain⟨v',w3,hrun,hP⟩:=FC wr.heap.size rfl HR.out (Ext.refl _) ⟨n,q.at_⟩ hbw (by omega);have aU:=aa hrun;have sH:=aa hP.1;have wV:=aa (hP.2.1 w hb (Nat.le_refl _));have HL4:Hid (Row 208 2 kM w.heap.size w3 (.slice (some ⟨bq,Zk,none⟩) xs.length c2) xs):=HL.out.same fun g hg=>hP.2.2.1 g (World.ownsRow.lt HL.out g hg).2 (HOF.out g hg);have aez:Hid (∀g,(Value.slice (some ⟨bq,Zk,none⟩) xs.length c2).ownBlock=some g->v'.ownBlock≠some g):=fun g hg e=>by
       rcases hP.2.2.2 with h1|⟨k,h1,h2⟩
       ·exact HOF.out g hg (by rw[<-h1];exact e)
       ·rw[h1]at e;cases e;have:=(World.ownsRow.lt HL.out _ hg).2;omega
      have hnx2:=aa (hnx.out _ hd);clear hrun hP;go_wp2_with (at_builtin;refine wpList_append_run rfl rfl rfl rfl aU.out ?_)
      go_roundw;case rel=>exact⟨wV.out,m+1,by omega,by go_num,HL4.out,aez.out,_,sH.out,by rw[hnx2.out];simp,by simp;omega⟩
      case measure=>simp[intOf];omega
    | false=>
      rw[hd]at c2';have hnx2:=aa (hnx.out _ hd);go_wp2;go_roundw;case rel=>exact⟨hb,m+1,by omega,by go_num,HL.out,HOF.out,ys,HR.out,by rw[hnx2.out,Bool.or_false];exact HY.out,by omega⟩
      case measure=>simp[intOf];omega
   ·obtain rfl:m=xs.length:=by omega
    have hfin:=HY.out;rw[Uw PD.out]at hfin;have HF:=aa hfin;obtain⟨A',c',rfl,_⟩:=id HR.out.cell.1;clear hfin;go_wp2;go_returns;exact⟨_,_,_,rfl,HF.out,by omega,hb⟩
 ·have h4':(kind==4)=false:=by simpa using h4
  have hbt:Hid (∀n,lY h kind n=(opsOf h n).any fun o=>eP h n o==kind):=fun n=>by rw[lY,if_neg h4]
  clear h4;go_enter Tryz.func159,Tryz.ntmps159;go_wp2_with fail
  have hE0:Hid (Ext w (w.alloc (.cells #[] 208))):=(Ext.refl _).alloc _
  refine(bu _ (HH.out.ext hE0.out) (by omega) (aD dO.out)).mono ?_
  rw[dO.out];rintro e w1 ⟨rfl,b1⟩;have hR0:Row 208 2 kM w.heap.size (w.alloc (.cells #[] 208)) (.slice (some ⟨w.heap.size,0,none⟩) 0 0) ([]:List Pl):=bT;have xw:=aa (hR0.ext b1);have HB1:=aa (hE0.out.trans b1);clear hR0 b1;go_wp2_with (go_at_call 48;refine(dY _ _ _ _).mono ?_;rw[hkb];rintro e w' ⟨rfl,rfl⟩)
  go_loopw [5,8] (fun o i wr=>Ext w wr/\∃k:Nat,k<=h.length/\i=.int .i64 k/\Hid (∃xs,Row 208 2 kM w.heap.size wr o xs/\oV xs (wM h kind k) (k*6))) (fun _ i _=>h.length-(intOf i).toNat)
  case atStart=>exact⟨HB1.out,0,Nat.zero_le _,rfl,[],xw.out,rfl,Nat.le_refl _⟩
  case round=>
   obtain⟨hb,k,hk,rfl,HI⟩:=hrel;by_cases hlt:k<h.length
   ·obtain⟨b,off,rfl,hbl,hc⟩:=HH.out.head (by omega);obtain⟨t,ht⟩:=af hlt;obtain⟨ov,c0,c1,c2,hs⟩:=hc k t ht;have hto:=bY dO.out (List.mem_of_getElem? ht);have hol:=bU hto;have Uf:=aa hto;have HS:=aa hs;obtain⟨A',c',rfl,_⟩:=id hs;have hdo:Hid (gP h k=t.done):=by show _ = _;simp[gP,ht]
    have hnx:=aa (LD h kind k);have hbk:Hid (lY h kind k=t.ops.any fun o=>eP h k o==kind):=by show _ = _;rw[hbt.out,dw ht]
    have CC:=aa (And.intro c1 c2);have HI0:Hid (∃xs,Row 208 2 kM w.heap.size wr u5 xs/\oV xs (wM h kind k || (t.done&&uE h k kind t.ops 0)) (k*6+0)):=by obtain⟨xs,h1,h2⟩:=HI.out;exact⟨xs,h1,by rw[show uE h k kind t.ops 0=false from rfl,Bool.and_false,Bool.or_false];exact h2⟩
    have d1:=hb.cell c1;clear hc ht hs hto c0 c1 c2 HI;go_wp2;go_loopw [5,9] (fun o i wr=>Ext w wr/\∃j:Nat,j<=t.ops.length/\i=.int .i64 j/\Hid (∃xs,Row 208 2 kM w.heap.size wr o xs/\oV xs (wM h kind k || (t.done&&uE h k kind t.ops j)) (k*6+j))) (fun _ i _=>t.ops.length-(intOf i).toNat)
    case atStart=>exact⟨hb,0,Nat.zero_le _,rfl,HI0.out⟩
    case round=>
     obtain⟨hb,j,hj,rfl,HJ⟩:=hrel;have hbw:w.heap.size<=wr.heap.size:=hb.size;obtain⟨xs,hR,hS⟩:=HJ.out;have HR:=aa hR;have HSm:=aa hS;have hxl:=hS.2;have d1:=hb.cell CC.out.1;have d2:=hb.cell CC.out.2;clear HJ hR hS HI0 hxl;by_cases hjt:j<t.ops.length
     ·obtain⟨A2,c2',hA2,hcc⟩:=HS.out.ext hb;injection hA2 with e1 e2 e3;subst e1 e3;obtain⟨b',off',rfl,pg,hcc⟩:=hcc (by omega);obtain⟨o,ho⟩:=af hjt;have g0:wr.cell? ⟨b',off'+j*3,none⟩=some (.int .i64 o.kind):=hcc j o ho 0 (by omega);have g1:wr.cell? ⟨b',off'+j*3+1,none⟩=some (.int .i64 o.key):=hcc j o ho 1 (by omega);have g2:wr.cell? ⟨b',off'+j*3+2,none⟩=some (.int .i64 o.value):=hcc j o ho 2 (by omega);have xx:=eT Uf.out (List.mem_of_getElem? ho);have hbn:=aa (Gm (h:=h) (n:=k) (kind:=kind) ho);clear ho hcc e2
      cases hd:t.done with
      | false=>
        rw[hd]at d2;go_wp2;go_roundw;case rel=>exact⟨hb,j+1,by omega,by go_num,xs,HR.out,by
         have:=HSm.out
         rw[hd,Bool.false_and,Bool.or_false]at this;rw[Bool.false_and,Bool.or_false];exact⟨this.1,by have:=this.2;omega⟩⟩
        case measure=>simp[intOf];omega
      | true=>
        rw[hd]at d2;obtain⟨r,hr⟩:∃r,eP h k o=r:=⟨_,rfl⟩;have hBK:=fun w' H=>Qj k o w' (v:=.slice (some ⟨b,off,none⟩) h.length c) H dO.out xx;rw[hr]at hBK;have HBK:=aa hBK;have HRr:=aa hr;clear hr hBK xx;go_wp2_with fail
        refine(HBK.out _ (HH.out.ext hb)).mono ?_
        rintro e w3 ⟨rfl,b3⟩
        cases XB:(r==kind) with
        | true=>
          obtain⟨v',w4,hrun,hP⟩:=FC w3.heap.size rfl HR.out b3 ⟨k,j⟩ hbw (by have:=HSm.out.2;omega);have aU:=aa hrun;have sH:=aa hP.1;have wV:=aa (hP.2.1 w hb (Nat.le_refl _));clear hrun hP;go_wp2_with (at_builtin;refine wpList_append_run rfl rfl rfl rfl aU.out ?_)
          go_roundw;case rel=>exact⟨wV.out,j+1,by omega,by go_num,_,sH.out,by
           rw[hbn.out,HRr.out,XB,Bool.or_true,Bool.true_and,Bool.or_true];exact HSm.out.push _⟩
          case measure=>simp[intOf];omega
        | false=>
          go_wp2;go_roundw;case rel=>exact⟨hb.trans b3,j+1,by omega,by go_num,xs,HR.out.ext b3,by
           have:=HSm.out
           rw[hd]at this;rw[hbn.out,HRr.out,XB,Bool.or_false];exact⟨this.1,by have:=this.2;omega⟩⟩
          case measure=>simp[intOf];omega
     ·obtain rfl:j=t.ops.length:=by omega
      go_wp2;go_roundw;case rel=>exact⟨hb,k+1,by omega,by go_num,xs,HR.out,by
       rw[hnx.out,hdo.out,hbk.out]
       have:=HSm.out
       rw[show uE h k kind t.ops t.ops.length=t.ops.any fun o=>eP h k o==kind by unfold uE;rw[List.take_length]]at this;exact⟨this.1,by have:=this.2;omega⟩⟩
      case measure=>simp[intOf];omega
   ·obtain rfl:k=h.length:=by omega
    obtain⟨xs,hR,hS⟩:=HI.out;have HR:=aa hR;have HSm:=aa hS;have hxl:=hS.2;obtain⟨A',c',rfl,_⟩:=id hR.cell.1;clear hR hS HI;go_wp2;go_returns;exact⟨_,_,_,rfl,HSm.out.1,by omega,hb⟩
