/- Lemmas. -/
import Derived.Test.YtcdopfdgknglfaaGreatDoorKAI
set_option maxHeartbeats 16000000
set_option maxRecDepth 8000
set_option linter.all false
namespace Go.Proofs.YtcdopfdgknglfaaGreatDoor
open Go.RowKit
theorem vk(s:Int)(d:Bool){ov:Value}{ops:List aV}(n:Nat)(key:Int)(w:World)(h:aL 3 encOpr w ov ops)(hlen:ops.length<=2097152)(hn:n<=ops.length) :
 Calls Tryz.prog 111 #[.agg #[.int .i64 s,ov,.bool d],.int .i64 (n:Int),.int .i64 key] w λe w'=>e=.returned (.int .i64 ((before (ops.take n) key).getD (-1)))/\Ext w w':=by
 obtain⟨A0,c0,rfl,_⟩:=id h;have HS:=aa h;clear h;go_enter Tryz.func111,Tryz.ntmps111;go_wp2;go_loopw [7] (λi wr=>Ext (w.alloc (.cells #[.int .i64 s,.slice A0 ops.length c0,.bool d] 48)) wr/\∃k:Nat,k<=n/\i=.int .i64 ((k:Int)-1)/\Hid (before (ops.take n) key=before (ops.take k) key)) (λi _=>((intOf i)+1).toNat)
 case atStart=>exact⟨af _,n,av _,rfl,rfl⟩
 case round=>
  obtain⟨hb,k,hk,rfl,HI⟩:=hrel;have hbb:=((af w).alloc _).trans hb
  cases k with
  | zero=>
    rw[show (((0:Nat):Int)-1)=-1 by omega];go_wp2;go_returns;exact⟨bU (by rw[HI.out];rfl),hbb⟩
  | succ m=>
    rw[show (((m+1:Nat):Int)-1)=(m:Int) by omega];have e1:wr.cell? ⟨w.heap.size,1,none⟩=some (.slice A0 ops.length c0):=hb.cell (aF rfl);obtain⟨A2,c2,hA2,hcc⟩:=HS.out.ext hbb;injection hA2 with Zg e2 e3;subst Zg e3;obtain⟨b,off,rfl,hbl,hcc⟩:=hcc (by omega);have hlt:m<ops.length:=by omega
    obtain⟨o,ho⟩:=ah hlt;have d1:wr.cell? ⟨b,off+m*3+1,none⟩=some (.int .i64 o.key):=hcc m o ho 1 (by omega);have d2:wr.cell? ⟨b,off+m*3+2,none⟩=some (.int .i64 o.value):=hcc m o ho 2 (by omega);have hst:Hid (before (ops.take n) key=if key=o.key then some o.value else before (ops.take m) key):=by show _ = _;rw[HI.out,ak ho,xw]
    clear hcc ho e2 HI;by_cases hkey:o.key=key
    ·go_wp2;go_returns;exact⟨bU (by rw[hst.out,aj hkey.symm];rfl),hbb⟩
    ·go_wp2;go_roundw;case rel=>exact⟨hb,m,by omega,rfl,by show _ = _;rw[hst.out,au (λe=>hkey e.symm)]⟩
     case measure=>first|(simp[intOf];done)|(simp[intOf];omega)
theorem RY{ops:List aV}{m:Nat}{o:aV}(ho:ops[m]? =some o)(key:Int):gT (ops.take (m+1)) key=if jQ o=true/\o.key=key then some o else gT (ops.take m) key:=by rw[ak ho,vI]
theorem qK(t:aG)(ov:Value)(w:World)(h:aL 3 encOpr w ov t.ops)(hok:dG t=true) :
 Calls Tryz.prog 74 #[o9 t ov] w (ZF w (bQ t.ops)):=by
 obtain⟨s,ops,d⟩:=t;have hlen:=dF hok;simp only at hlen h ⊢;obtain⟨A0,c0,rfl,_⟩:=id h;have HS:=aa h;have fu:=aa hok;clear h hok;show Calls Tryz.prog 74 #[.agg #[.int .i64 s,.slice A0 ops.length c0,.bool d]] w _;go_enter Tryz.func74,Tryz.ntmps74;go_wp2;go_loopw [3,4] (λo i wr=>Ext (w.alloc (.cells #[.int .i64 s,.slice A0 ops.length c0,.bool d] 48)) wr/\∃k:Nat,k<=3/\i=.int .i64 k/\Hid (Row 67 3 encOpr (w.heap.size+1) wr o (xO ops k))) (λ_ i _=>3-(intOf i).toNat)
 case atStart=>
  refine⟨(af _).alloc _,0,aT _,rfl,?_⟩;have hR:=dD (E:=67) (m:=3) (enc:=encOpr) (w:=w.alloc (.cells #[.int .i64 s,.slice A0 ops.length c0,.bool d] 48));rw[show (w.alloc (.cells #[.int .i64 s,.slice A0 ops.length c0,.bool d] 48)).heap.size=w.heap.size+1 by simp]at hR;exact hR
 case round=>
  obtain⟨hb,k,hk,rfl,HI⟩:=hrel;have hkl:=nN ops k;have hbb:=((af w).alloc _).trans hb;by_cases hlt:k<3
  ·have e0:wr.cell? ⟨w.heap.size,0,none⟩=some (.int .i64 s):=hb.cell (aF rfl);have e1:wr.cell? ⟨w.heap.size,1,none⟩=some (.slice A0 ops.length c0):=hb.cell (aF rfl);have e2:wr.cell? ⟨w.heap.size,2,none⟩=some (.bool d):=hb.cell (aF rfl);go_wp2_with fail
   refine(nE ⟨s,ops,d⟩ _ _ (HS.out.ext hbb) (by show ops.length<=_;omega)).mono ?_
   rw[fu.out];rintro e w1 ⟨rfl,b1⟩;replace e1:=b1.cell e1;have Il:=aa (hb.trans b1);have HR1:=aa (HI.out.ext b1);have hsz1:w.heap.size+1<=w1.heap.size:=by have:=Il.out.size;simpa using this
   have hnx:=aa (EF ops k);clear e0 e2 b1 hbb hb HI;go_wp2;go_loopw [3,5] (λo i wr=>w1=wr/\o=u3/\∃m:Nat,m<=ops.length/\i=.int .i64 ((m:Int)-1)/\Hid (gT ops (k:Int)=gT (ops.take m) (k:Int))) (λ_ i _=>((intOf i)+1).toNat)
   case atStart=>exact⟨rfl,rfl,ops.length,av _,rfl,by show _ = _;rw[bM]⟩
   case round=>
    obtain⟨rfl,rfl,m,hm,rfl,HJ⟩:=hrel
    cases m with
    | zero=>
      rw[show (((0:Nat):Int)-1)=-1 by omega];go_wp2;go_roundw;case rel=>exact⟨Il.out,k+1,by omega,by go_num,by show Row _ _ _ _ _ _ _;rw[hnx.out,HJ.out];simpa[gT] using HR1.out⟩
      case measure=>simp[intOf];omega
    | succ m=>
      rw[show (((m+1:Nat):Int)-1)=(m:Int) by omega];obtain⟨A2,c2,hA2,hcc⟩:=HS.out.ext (((af w).alloc _).trans Il.out);injection hA2 with Zg e2 e3;subst Zg e3;obtain⟨b,off,rfl,hbl,hcc⟩:=hcc (by omega);have ae8:m<ops.length:=by omega
      obtain⟨o,ho⟩:=ah ae8;have d0:w1.cell? ⟨b,off+m*3,none⟩=some (.int .i64 o.kind):=hcc m o ho 0 (by omega);have d1:w1.cell? ⟨b,off+m*3+1,none⟩=some (.int .i64 o.key):=hcc m o ho 1 (by omega);have d2:w1.cell? ⟨b,off+m*3+2,none⟩=some (.int .i64 o.value):=hcc m o ho 2 (by omega);have hst:=RY ho (k:Int);rw[<-HJ.out]at hst;have HST:=aa hst;clear hcc ho e2 HJ hst;by_cases hw:jQ o=true/\o.key=(k:Int)
      ·have hw1:(o.kind==2)=true:=hw.1;have hw2:(o.key==(k:Int))=true:=by simpa using hw.2
       have hs2:=HST.out;rw[aj hw]at hs2;have HS2:=aa hs2;obtain⟨v',w2,hrun,hP⟩:=yj w1.heap.size rfl HR1.out (af _) o hsz1 (by omega);have bH:=aa hrun;have HB2:=aa hP.1;have HE2:=aa (hP.2.1 _ Il.out (by simp));clear hw hs2 hrun hP;go_wp2_with (at_builtin;refine wpList_append_run rfl rfl rfl rfl bH.out ?_)
       go_roundw;case rel=>exact⟨HE2.out,k+1,by omega,by go_num,by rw[hnx.out,HS2.out];exact HB2.out⟩
       case measure=>simp[intOf];omega
      ·have hs2:=HST.out;rw[au hw]at hs2;have HS2:=aa hs2
       cases hw1:(o.kind==2) with
       | false=>
         clear hw hs2;go_wp2;go_roundw;case rel=>exact⟨trivial,rfl,m,by omega,rfl,HS2.out⟩
         case measure=>first|(simp[intOf];done)|(simp[intOf];omega)
       | true=>
         have hw2:(o.key==(k:Int))=false:=by rw[fU];exact λe=>hw ⟨hw1,e⟩
         clear hw hs2;go_wp2;go_roundw;case rel=>exact⟨trivial,rfl,m,by omega,rfl,HS2.out⟩
         case measure=>first|(simp[intOf];done)|(simp[intOf];omega)
  ·obtain rfl:k=3:=by omega
   obtain⟨A',c',rfl,_⟩:=HI.out.cell.1;go_wp2;go_returns;exact⟨_,rfl,by rw[<-lU];exact HI.out.low (by omega),hbb⟩
theorem zO{t:aG}(hok:dG t=true){k:Nat}{key v:Int}(h:before (t.ops.take k) key=some v):0<=v:=by
 obtain⟨o,ho,_,rfl⟩:=xN h
 exact(lS (gD hok (oI ho))).1
theorem wN(t:aG)(ov:Value)(w:World)(h:aL 3 encOpr w ov t.ops)(hok:dG t=true) :
 Calls Tryz.prog 185 #[o9 t ov] w (ZF w (mH t.ops)):=by
 have hnn:=λk key v=>zO hok (k:=k) (key:=key) (v:=v);obtain⟨s,ops,d⟩:=t;have hlen:=dF hok;simp only at hlen h hnn ⊢;obtain⟨A0,c0,rfl,_⟩:=id h;have HS:=aa h;have fu:=aa hok;have HNN:=aa hnn;clear h hok hnn;show Calls Tryz.prog 185 #[.agg #[.int .i64 s,.slice A0 ops.length c0,.bool d]] w _;go_enter Tryz.func185,Tryz.ntmps185;go_wp2;go_loopw [3,4] (λo i wr=>Ext (w.alloc (.cells #[.int .i64 s,.slice A0 ops.length c0,.bool d] 48)) wr/\∃k:Nat,k<=ops.length/\i=.int .i64 k/\Hid (Row 67 3 encOpr (w.heap.size+1) wr o (Cy ops k))) (λ_ i _=>ops.length-(intOf i).toNat)
 case atStart=>
  refine⟨(af _).alloc _,0,aT _,rfl,?_⟩;have hR:=dD (E:=67) (m:=3) (enc:=encOpr) (w:=w.alloc (.cells #[.int .i64 s,.slice A0 ops.length c0,.bool d] 48));rw[show (w.alloc (.cells #[.int .i64 s,.slice A0 ops.length c0,.bool d] 48)).heap.size=w.heap.size+1 by simp]at hR;exact hR
 case round=>
  obtain⟨hb,k,hk,rfl,HI⟩:=hrel;have hkl:=BZ ops k;have hbb:=((af w).alloc _).trans hb;have e0:wr.cell? ⟨w.heap.size,0,none⟩=some (.int .i64 s):=hb.cell (aF rfl);have e1:wr.cell? ⟨w.heap.size,1,none⟩=some (.slice A0 ops.length c0):=hb.cell (aF rfl);have e2:wr.cell? ⟨w.heap.size,2,none⟩=some (.bool d):=hb.cell (aF rfl);by_cases hlt:k<ops.length
  ·go_wp2_with fail
   refine(nE ⟨s,ops,d⟩ _ _ (HS.out.ext hbb) (by show ops.length<=_;omega)).mono ?_
   rw[fu.out];rintro e w1 ⟨rfl,b1⟩;have E0:∀e,(over w1 e).cell? ⟨w.heap.size,0,none⟩=some (.int .i64 s):=aK (b1.cell e0);have E1:∀e,(over w1 e).cell? ⟨w.heap.size,1,none⟩=some (.slice A0 ops.length c0):=aK (b1.cell e1);have E2:∀e,(over w1 e).cell? ⟨w.heap.size,2,none⟩=some (.bool d):=aK (b1.cell e2);have Il:=aa (hb.trans b1);have hHS:=HS.out.ext (hbb.trans b1);obtain⟨A2,c2,hA2,hcc⟩:=id hHS;injection hA2 with Zg e2' e3;subst Zg e3;obtain⟨b,off,rfl,hbl,hcc⟩:=hcc (by omega);obtain⟨o,ho⟩:=ah hlt;have d0:∀e,(over w1 e).cell? ⟨b,off+k*3,none⟩=some (.int .i64 o.kind):=aK (hcc k o ho 0 (by omega));have d1:∀e,(over w1 e).cell? ⟨b,off+k*3+1,none⟩=some (.int .i64 o.key):=aK (hcc k o ho 1 (by omega));have d2:∀e,(over w1 e).cell? ⟨b,off+k*3+2,none⟩=some (.int .i64 o.value):=aK (hcc k o ho 2 (by omega));have FF:=aa (aB (b1.cell e1) (aB (hcc k o ho 0 (by omega)) (aB (hcc k o ho 1 (by omega)) (hcc k o ho 2 (by omega)))));have hsz1:w.heap.size+1<=w1.heap.size:=by have:=Il.out.size;simpa using this
   have HR1:=aa (HI.out.ext b1);have hnx:=aa (Lg ho);have hfa:Hid (∀r,before (ops.take k) o.key=r->J4 ops k=(oH o&&r.isNone)):=λr hr=>by subst hr;simp only[J4,ho]
   have HQ:Hid (∀r e,before (ops.take k) o.key=r->Calls Tryz.prog 111 #[.agg #[.int .i64 s,.slice (some ⟨b,off,none⟩) ops.length c0,.bool d],.int .i64 (k:Int),.int .i64 o.key] (over w1 e) λx w'=>x=.returned (.int .i64 (r.getD (-1)))/\Ext (over w1 e) w'):=λr e hr=>by subst hr;exact vk s d k o.key (over w1 e) (hHS.ext (xI _ _)) (by omega) hk
   clear hcc ho e2' hHS hbb hb HI b1 e0 e1 e2
   cases hr:(o.kind==1) with
   | false=>
     go_wp2;refine aU (by kernel_rfl) (by kernel_rfl) ?_;repeat (go_big_quiet_step (fail))
     refine j5 ?_;intro w2 hb2;go_wp2;go_roundw;case rel=>exact⟨Il.out.trans hb2,k+1,by omega,by go_num,by
      show Row _ _ _ _ _ _ _;rw[hnx.out,hfa.out _ rfl];simpa[oH,hr] using HR1.out.ext hb2⟩
     case measure=>simp[intOf];omega
   | true=>
     cases hbf:before (ops.take k) o.key with
     | none=>
       have ZC:=aa (λe=>HQ.out none e hbf);have CW:=aa (hfa.out none hbf);clear hbf HQ hfa;go_wp2;refine aU (by kernel_rfl) (by kernel_rfl) ?_;repeat (go_big_quiet_step ((go_at_call 111;exact pM (ZC.out _))))
       refine j5 ?_;intro w2 hb2;obtain⟨v',w3,hrun,hP⟩:=yj w2.heap.size rfl HR1.out hb2 o hsz1 (by omega);have bH:=aa hrun;have HB2:=aa hP.1;have HE2:=aa (hP.2.1 _ Il.out (by simp));have g1:=hb2.cell FF.out.1;have g2:w2.cell? ⟨b,off+k*3,none⟩=some (.int .i64 o.kind):=hb2.cell FF.out.2.1;have g3:w2.cell? ⟨b,off+k*3+1,none⟩=some (.int .i64 o.key):=hb2.cell FF.out.2.2.1;have g4:w2.cell? ⟨b,off+k*3+2,none⟩=some (.int .i64 o.value):=hb2.cell FF.out.2.2.2;clear hrun hP E0 E1 E2 d0 d1 d2;go_wp2_with (at_builtin;refine wpList_append_run rfl rfl rfl rfl bH.out ?_)
       go_roundw;case rel=>exact⟨HE2.out,k+1,by omega,by go_num,by
        show Row _ _ _ _ _ _ _;rw[hnx.out,CW.out];simpa[oH,hr] using HB2.out⟩
       case measure=>simp[intOf];omega
     | some vb=>
       have hv0:0<=vb:=HNN.out k o.key vb hbf;have hv1:decide (vb<0)=false:=by simp;omega
       have ZC:=aa (λe=>HQ.out (some vb) e hbf);have CW:=aa (hfa.out (some vb) hbf);clear hbf HQ hfa;go_wp2;refine aU (by kernel_rfl) (by kernel_rfl) ?_;repeat (go_big_quiet_step ((go_at_call 111;exact pM (ZC.out _))))
       refine j5 ?_;intro w2 hb2;clear E0 E1 E2 d0 d1 d2;go_wp2;go_roundw;case rel=>exact⟨Il.out.trans hb2,k+1,by omega,by go_num,by
        show Row _ _ _ _ _ _ _;rw[hnx.out,CW.out];simpa[oH,hr] using HR1.out.ext hb2⟩
       case measure=>simp[intOf];omega
  ·obtain rfl:k=ops.length:=by omega
   obtain⟨A',c',rfl,_⟩:=HI.out.cell.1;go_wp2;go_returns;exact⟨_,rfl,HI.out.low (by omega),hbb⟩
theorem vX(a b:List ((Int × Int) × Nat))(q:Int × Int):lookW (a++b) q=(lookW a q).or (lookW b q):=by unfold lookW;rw[List.find?_append];cases a.find? (λp=>p.1==q)<;>simp
theorem Ml{h:List aG}{k j:Nat}{t:aG}{o:aV}{key value:Int}(ht:h[k]? =some t)(ho:t.ops[j]? =some o)(he:o.kind=2/\o.key=key/\o.value=value)(hl:lookW (dY h k t.ops j) (key,value)=none):aI h key value=k:=by obtain⟨l,e⟩:=DF ht ho (by simp[jQ,he.1]);unfold aI;rw[e,vX,hl];simp[lookW,he.2.1,he.2.2]
theorem Oa{h:List aG}{k j:Nat}{ops:List aV}{o:aV}{key value:Int}(ho:ops[j]? =some o)(he:¬(o.kind=2/\o.key=key/\o.value=value))(hl:lookW (dY h k ops j) (key,value)=none):lookW (dY h k ops (j+1)) (key,value)=none:=by
 cases hw:jQ o with
 | true=>
   have hk:o.kind=2:=by simpa[jQ] using hw
   rw[tu ho hw,vX,hl]
   have:((o.key,o.value)==(key,value))=false:=by rw[fU];intro e;injection e with e1 e2;exact he ⟨hk,e1,e2⟩
   simp[lookW,this]
 | false=>rw[Bn ho hw];exact hl
theorem iH{v:Value}{h:List aG}(key value:Int)(w:World)(H:iM w v h)(hlen:h.length<=2097152)(hM:∀t∈h,t.ops.length<=2097152) :
 Calls Tryz.prog 69 #[v,.int .i64 key,.int .i64 value] w λe w'=>e=.returned (.int .i64 (aI h key value))/\w=w':=by
 obtain⟨A,c,rfl⟩:=H.slice;have HH:=aa H;have HM:=aa hM;have hg:=BD;clear H hM;go_enter Tryz.func69,Tryz.ntmps69;go_wp2;go_loopw [7] (λi wr=>w=wr/\∃k:Nat,k<=h.length/\i=.int .i64 k/\Hid (lookW (dY h k [] 0) (key,value)=none)) (λi _=>h.length-(intOf i).toNat)
 case atStart=>exact⟨rfl,0,aT _,rfl,by show _ = _;simp[dY,wrsFrom,iC,lookW]⟩
 case round=>
  obtain⟨rfl,k,hk,rfl,HI⟩:=hrel;by_cases hlt:k<h.length
  ·obtain⟨b,off,rfl,hbl,hc⟩:=HH.out.head (by omega);obtain⟨t,ht⟩:=ah hlt;obtain⟨ov,c0,c1,c2,hs⟩:=hc k t ht;obtain⟨A',c',rfl,hc'⟩:=hs;have hl:=HM.out t (aM ht);have HI0:Hid (lookW (dY h k t.ops 0) (key,value)=none):=by show _ = _;rw[show dY h k t.ops 0=dY h k [] 0 by simp[dY,iC]];exact HI.out
   have HT:=aa ht;have HC':=aa hc';clear ht hc hc' c0 c2 HI;go_wp2;go_loopw [8] (λi wr'=>w=wr'/\∃j:Nat,j<=t.ops.length/\i=.int .i64 j/\Hid (lookW (dY h k t.ops j) (key,value)=none)) (λi _=>t.ops.length-(intOf i).toNat)
   case atStart=>exact⟨rfl,0,aT _,rfl,HI0.out⟩
   case round=>
    obtain⟨rfl,j,hj,rfl,HJ⟩:=hrel;by_cases hjt:j<t.ops.length
    ·obtain⟨b',off',rfl,ru,hcc⟩:=HC'.out (by omega);obtain⟨o,ho⟩:=ah hjt;have d0:w.cell? ⟨b',off'+j*3,none⟩=some (.int .i64 o.kind):=hcc j o ho 0 (by omega);have d1:w.cell? ⟨b',off'+j*3+1,none⟩=some (.int .i64 o.key):=hcc j o ho 1 (by omega);have d2:w.cell? ⟨b',off'+j*3+2,none⟩=some (.int .i64 o.value):=hcc j o ho 2 (by omega);have he:=λW=>sw o.kind o.key o.value 2 key value W;by_cases hm:o.kind=2/\o.key=key/\o.value=value
     ·have hn:=aa (Ml HT.out ho hm HJ.out);rw[jw hm]at he;clear hm ho hcc;go_wp2;go_returns;exact⟨bU hn.out.symm,rfl⟩
     ·have hn:=aa (Oa ho hm HJ.out);rw[dU hm]at he;clear hm ho hcc;go_wp2;go_roundw;case rel=>exact⟨trivial,j+1,by omega,by go_num,hn.out⟩
      case measure=>simp[intOf];omega
    ·obtain rfl:j=t.ops.length:=by omega
     go_wp2;go_roundw;case rel=>exact⟨trivial,k+1,by omega,by go_num,by
      show _ = _;rw[show dY h (k+1) [] 0=dY h k t.ops t.ops.length by rw[C8 HT.out];simp[dY,iC]];exact HJ.out⟩
     case measure=>simp[intOf];omega
  ·obtain rfl:k=h.length:=by omega
   have hn:Hid (aI h key value=-1):=by
    show _ = _;have e:dY h h.length [] 0=Da h:=by simp[dY,iC,Da]
    unfold aI;rw[<-e,HI.out];rfl
   go_wp2;go_returns;exact⟨bU hn.out.symm,rfl⟩
theorem Ri{ops:List aV}{key:Int}{o:aV}{i:Nat}(ho:(bQ ops)[i]? =some o)(hk:o.key=key):gT ops key=some o:=by
 have:=(kK.1 (aM ho)).2
 rwa [hk]at this
theorem RX{v:Value}{h:List aG}(key value:Int)(w:World)(H:iM w v h)(hok:aD h=true)(hk:0<=key/\key<=2) :
 Calls Tryz.prog 253 #[v,.int .i64 key,.int .i64 value] w λe w'=>e=.returned (.bool (jH h key value))/\Ext w w':=by
 have hwr:=gK (h:=h) key value;obtain⟨A,c,rfl⟩:=H.slice;have HH:=aa H;have fu:=aa hok;have HK:=aa hk;have hlen:=aR hok;clear H hk;obtain⟨z,hz⟩:∃z,aI h key value=z:=⟨_,rfl⟩;have hW:=λw' (H:iM w' (.slice A h.length c) h)=>iH key value w' H (by omega) (aJ hok);rw[hz]at hwr hW;have HW:=aa hW;have HZ:=aa hz;clear hz hW hok;by_cases hneg:z<0
 ·have hR:=aa (show jH h key value=false by unfold jH;rw[HZ.out,show decide (0<=z)=false by simp;omega];rfl);go_enter Tryz.func253,Tryz.ntmps253;go_wp2_with fail
  refine(HW.out _ HH.out).mono ?_
  rintro e w1 ⟨rfl,rfl⟩;go_wp2;go_returns;exact⟨aS hR.out.symm,af _⟩
 ·obtain⟨n,rfl⟩:=dZ (show 0<=z by omega);have hn:n<h.length:=by omega
  obtain⟨t,ht⟩:=ah hn;have hto:=dH fu.out (aM ht);have hR:Hid (jH h key value=(gT t.ops key).any λo=>o.value==value):=by show _ = _;unfold jH;rw[HZ.out,qM,dV ht,show decide ((0:Int)<=(n:Int))=true by simp,Bool.true_and]
  obtain⟨b,off,rfl,hbl,hc⟩:=HH.out.head (by omega);obtain⟨ov,c0,c1,c2,hs⟩:=hc n t ht;have HS:=aa hs;have VZ:=aa hto;have LC:(bQ t.ops).length<=3:=by rw[<-lU];exact nN _ _
  clear hc ht hs hto;go_enter Tryz.func253,Tryz.ntmps253;go_wp2_with fail
  refine(HW.out _ HH.out).mono ?_
  rintro e w1 ⟨rfl,rfl⟩;go_wp2_with fail
  refine(qK t _ _ HS.out VZ.out).mono ?_
  rintro e w2 ⟨v2,rfl,r2,b2⟩;have R2:=aa r2.cell.1;obtain⟨A2,c2',rfl,_⟩:=id r2.cell.1;clear r2;go_wp2;go_loopw [9] (λi wr=>w2=wr/\∃j:Nat,j<=(bQ t.ops).length/\i=.int .i64 j/\Hid (∀i o,i<j->(bQ t.ops)[i]? =some o->o.key≠key)) (λi _=>(bQ t.ops).length-(intOf i).toNat)
  case atStart=>exact⟨rfl,0,aT _,rfl,λi o hi=>absurd hi (gu i)⟩
  case round=>
   obtain⟨rfl,j,hj,rfl,HJ⟩:=hrel;by_cases hjt:j<(bQ t.ops).length
   ·obtain⟨A3,c3,hA3,hcc⟩:=id R2.out;injection hA3 with e1 e2 e3;subst e1 e3;obtain⟨b',off',rfl,ru,hcc⟩:=hcc (by omega);obtain⟨o,ho⟩:=ah hjt;have d1:w2.cell? ⟨b',off'+j*3+1,none⟩=some (.int .i64 o.key):=hcc j o ho 1 (by omega);have d2:w2.cell? ⟨b',off'+j*3+2,none⟩=some (.int .i64 o.value):=hcc j o ho 2 (by omega);have Ho:=aa ho;clear hcc ho e2;by_cases hkey:o.key=key
    ·have hfin:Hid (∀r,(o.value==value)=r->jH h key value=r):=λr hr=>by rw[hR.out,Ri Ho.out hkey];exact hr
     cases hv:(o.value==value)<;>(
      have hf:=aa (hfin.out _ hv);go_wp2;go_returns;exact⟨aS hf.out.symm,b2⟩)
    ·go_wp2;go_roundw;case rel=>exact⟨trivial,j+1,by omega,by go_num,λi o' hi ho'=>by
      rcases eP i j with h'|h'
      ·exact HJ.out i o' h' ho'
      ·obtain rfl:i=j:=by omega
       rw[Ho.out]at ho';cases ho';exact hkey⟩
     case measure=>simp[intOf];omega
   ·obtain rfl:j=(bQ t.ops).length:=by omega
    have hf:Hid (jH h key value=false):=by
     show _ = _;rw[hR.out]
     cases hl:gT t.ops key with
     | none=>rfl
     | some o=>
       exfalso;have h3:=lV hl;have hm:o∈bQ t.ops:=kK.2 ⟨by rw[h3.2.2];have:=HK.out;omega,by rw[h3.2.2];exact hl⟩;obtain⟨i,hi,he⟩:=jq hm;exact HJ.out i o hi (by rw[dJ hi,he]) h3.2.2
    go_wp2;go_returns;exact⟨aS hf.out.symm,b2⟩
theorem Rw{v:Value}{h:List aG}(n:Nat)(o:aV)(w:World)(H:iM w v h)(hok:aD h=true)(ho:iY o=true) :
 Calls Tryz.prog 226 #[v,.int .i64 (n:Int),iG o] w λe w'=>e=.returned (.int .i64 (gG h n o))/\Ext w w':=by
 have hwr:=gK (h:=h) o.key o.value;have hkey:=jE ho;have hlen:=aR hok;obtain⟨A,c,rfl⟩:=H.slice;have HH:=aa H;clear H ho;obtain⟨z,hz⟩:∃z,aI h o.key o.value=z:=⟨_,rfl⟩;have hW:=λw' (H:iM w' (.slice A h.length c) h)=>iH o.key o.value w' H (by omega) (aJ hok);have hL:=λw' (H:iM w' (.slice A h.length c) h)=>RX o.key o.value w' H hok hkey;rw[hz]at hwr hW;have HW:=aa hW;have HL:=aa hL;have hb0:=λhx=>zG (h:=h) (n:=n) (o:=o) hx;have hb1:Hid (oH o=true->o.value≠0->z≠n->gG h n o=if z<0 then 1 else if jk h z.toNat=false then 2 else if jH h o.key o.value=false then 3 else 0):=λh1 h2 h3=>by unfold gG;rw[hz,au (by simp[h1,h2,h3])]
 rw[hz]at hb0;have HB0:=aa hb0;clear hz hW hL hok hb0;show Calls Tryz.prog 226 #[.slice A h.length c,.int .i64 (n:Int),.agg #[.int .i64 o.kind,.int .i64 o.key,.int .i64 o.value]] w _;have hE:Hid (Ext w (w.alloc (.cells #[.int .i64 o.kind,.int .i64 o.key,.int .i64 o.value] 67))):=(af _).alloc _;by_cases hall:(o.kind==1)=true/\(o.value==0)=false/\(z==(n:Int))=false;case neg=>
  have h0:Hid (gG h n o=0):=HB0.out (by
   cases h1:(o.kind==1) with
   | false=>exact .inl h1
   | true=>
     cases h2:(o.value==0) with
     | true=>exact .inr (.inl (by simpa using h2))
     | false=>
       cases h3:(z==(n:Int)) with
       | true=>exact .inr (.inr (by simpa using h3))
       | false=>exact absurd ⟨h1,h2,h3⟩ hall)
  cases h1:(o.kind != 1)<;>cases h2:(o.value==0)<;>cases h3:(z==(n:Int))<;>first
   | (exfalso;apply hall;simp at h1;simp[h1,h2,h3];done)
   | (clear hall
      go_enter Tryz.func226,Tryz.ntmps226;go_wp2_with fail
      refine(HW.out _ (HH.out.ext hE.out)).mono ?_
      rintro e w1 ⟨rfl,rfl⟩;go_wp2;go_returns;exact⟨bU h0.out.symm,hE.out⟩)
 obtain⟨h1,h2,h3⟩:=hall;have hr:=aa (hb1.out h1 (by simpa using h2) (by simpa using h3));have h1':(o.kind != 1)=false:=by simp at h1;simp[h1]
 clear hb1 HB0 h1;by_cases hneg:z<0
 ·go_enter Tryz.func226,Tryz.ntmps226;go_wp2_with fail
  refine(HW.out _ (HH.out.ext hE.out)).mono ?_
  rintro e w1 ⟨rfl,rfl⟩;go_wp2;go_returns;exact⟨bU (by rw[hr.out,aj hneg]),hE.out⟩
 ·obtain⟨m,rfl⟩:=dZ (show 0<=z by omega);have hm:m<h.length:=by omega
  obtain⟨t,ht⟩:=ah hm;have hdo:Hid (jk h m=t.done):=by show _ = _;simp[jk,ht]
  obtain⟨b,off,rfl,hbl,hc⟩:=HH.out.head (by omega);obtain⟨ov,c0,c1,c2,hs⟩:=hc m t ht;clear hc ht hs c0 c1
  cases hd:t.done with
  | false=>
    rw[hd]at c2;go_enter Tryz.func226,Tryz.ntmps226;go_wp2_with fail
    refine(HW.out _ (HH.out.ext hE.out)).mono ?_
    rintro e w1 ⟨rfl,rfl⟩;go_wp2;go_returns;exact⟨bU (by rw[hr.out,au (by omega),qM,hdo.out,aj hd]),hE.out⟩
  | true=>
    rw[hd]at c2;have hr2:Hid (∀r,jH h o.key o.value=r->gG h n o=if r=false then 3 else 0):=λr e=>by subst e;rw[hr.out,au (by omega),qM,hdo.out,au (by simp[hd])]
    cases hlv:jH h o.key o.value<;>(
     go_enter Tryz.func226,Tryz.ntmps226;go_wp2_with fail
     refine(HW.out _ (HH.out.ext hE.out)).mono ?_
     rintro e w1 ⟨rfl,rfl⟩;go_wp2_with fail
     refine(HL.out _ (HH.out.ext hE.out)).mono ?_
     rw[hlv];rintro e w2 ⟨rfl,b2⟩;go_wp2;go_returns;exact⟨bU (by rw[hr2.out _ hlv];rfl),hE.out.trans b2⟩)
def DW(xs:List Pl)(P:Nat->Prop)(most:Nat):Prop:=xs.length<=most/\(∀q∈xs,∃n:Nat,q.who=n/\P n)/\∀n,P n->∃q∈xs,q.who=(n:Int)
theorem DW.congr{xs:List Pl}{P Q:Nat->Prop}{m m':Nat}(h:DW xs P m)(hp:∀n,P n↔Q n)(hm:m<=m'):DW xs Q m':=
 ⟨aX h.1 hm,λq hq=>let ⟨n,h1,h2⟩:=h.2.1 q hq;⟨n,h1,(hp n).1 h2⟩,λn hn=>h.2.2 n ((hp n).2 hn)⟩
theorem DW.push{xs:List Pl}{P Q:Nat->Prop}{m m':Nat}(h:DW xs P m)(k:Nat)(a:Int)(hp:∀n,Q n↔(P n∨n=k))(hm:m+1<=m'):DW (xs++[⟨k,a⟩]) Q m':=by
 refine⟨by have:=h.1;simp;omega,λq hq=>?_,λn hn=>?_⟩
 ·rcases iR.1 hq with hq|hq
  ·obtain⟨n,h1,h2⟩:=h.2.1 q hq;exact⟨n,h1,(hp n).2 (.inl h2)⟩
  ·simp at hq;subst hq;exact⟨k,rfl,(hp k).2 (.inr rfl)⟩
 ·rcases (hp n).1 hn with h1|rfl
  ·obtain⟨q,hq,h2⟩:=h.2.2 n h1;exact⟨q,List.mem_append_left _ hq,h2⟩
  ·exact⟨⟨(n:Int),a⟩,List.mem_append_right _ (pF.2 rfl),rfl⟩
def X6(h:List aG)(k:Nat)(n:Nat):Prop:=n<k/\zZ (opsOf h n)=true
def Oy(h:List aG)(k:Nat)(ops:List aV)(j:Nat)(n:Nat):Prop:=X6 h k n∨(n=k/\zV ops j=true)
theorem IL{v:Value}{h:List aG}(w:World)(H:iM w v h)(hok:aD h=true) :
 Calls Tryz.prog 225 #[v] w λe w'=>∃v' xs,e=.returned v'/\Row 231 2 encPl w.heap.size w' v' xs/\DW xs (X6 h h.length) 100/\Ext w w':=by
 obtain⟨A,c,rfl⟩:=H.slice;have HH:=aa H;have fu:=aa hok;have hlen:=aR hok;clear H hok;go_enter Tryz.func225,Tryz.ntmps225;go_wp2;go_loopw [3,4] (λo i wr=>Ext w wr/\∃k:Nat,k<=h.length/\i=.int .i64 k/\Hid (∃xs,Row 231 2 encPl w.heap.size wr o xs/\DW xs (X6 h k) (k*6))) (λ_ i _=>h.length-(intOf i).toNat)
 case atStart=>exact⟨(af _).alloc _,0,aT _,rfl,[],dD,av _,λq hq=>by simp at hq,λn hn=>absurd hn.1 (gu n)⟩
 case round=>
  obtain⟨hb,k,hk,rfl,HI⟩:=hrel;by_cases hlt:k<h.length
  ·go_wp2_with fail
   refine(bJ _ (HH.out.ext hb) (by omega) (aJ fu.out)).mono ?_
   rw[fu.out];rintro e w1 ⟨rfl,b1⟩;obtain⟨b,off,rfl,hbl,hc⟩:=HH.out.head (by omega);obtain⟨t,ht⟩:=ah hlt;obtain⟨ov,c0,c1,c2,hs⟩:=hc k t ht;have HB1:=aa (hb.trans b1);have CC:=aa (aB c0 (aB c1 c2));have HT:=aa ht;have hto:=dH fu.out (aM ht);have hol:=dF hto;have VZ:=aa hto;have HS:=aa hs;have yZ:=aa (dV ht);obtain⟨A',c',rfl,_⟩:=id hs;replace c1:=HB1.out.cell c1;have HI1:Hid (∃xs,Row 231 2 encPl w.heap.size w1 u3 xs/\DW xs (Oy h k t.ops 0) (k*6+0)):=by obtain⟨xs,h1,h2⟩:=HI.out;exact⟨xs,h1.ext b1,h2.congr (λn=>by unfold Oy;exact⟨λx=>.inl x,λx=>x.elim id (λy=>by have h0:zV t.ops 0=false:=rfl;rw[h0]at y;cases y.2)⟩) (av _)⟩
   clear ht hs hc hto c0 c2 HI hb b1;go_wp2;go_loopw [3,5] (λo i wr=>Ext w wr/\∃j:Nat,j<=t.ops.length/\i=.int .i64 j/\Hid (∃xs,Row 231 2 encPl w.heap.size wr o xs/\DW xs (Oy h k t.ops j) (k*6+j))) (λ_ i _=>t.ops.length-(intOf i).toNat)
   case atStart=>exact⟨HB1.out,0,aT _,rfl,HI1.out⟩
   case round=>
    obtain⟨hb,j,hj,rfl,HJ⟩:=hrel;have hbw:w.heap.size<=wr.heap.size:=hb.size;obtain⟨xs,hR,hO⟩:=HJ.out;have HR:=aa hR;have HO:=aa hO;have hxl:=hO.1;clear HJ hR hO HI1;by_cases hjt:j<t.ops.length
    ·obtain⟨A2,c2',hA2,hcc⟩:=HS.out.ext hb;injection hA2 with e1 e2 e3;subst e1 e3;obtain⟨b',off',rfl,ru,hcc⟩:=hcc (by omega);obtain⟨o,ho⟩:=ah hjt;have d0:wr.cell? ⟨b',off'+j*3,none⟩=some (.int .i64 o.kind):=hcc j o ho 0 (by omega);have d1:wr.cell? ⟨b',off'+j*3+1,none⟩=some (.int .i64 o.key):=hcc j o ho 1 (by omega);have d2:wr.cell? ⟨b',off'+j*3+2,none⟩=some (.int .i64 o.value):=hcc j o ho 2 (by omega);have C0:=hb.cell CC.out.1;have C1:=hb.cell CC.out.2.1;have C2:=hb.cell CC.out.2.2;obtain⟨W,hW⟩:∃W,wr.alloc (.cells #[.int .i64 o.kind,.int .i64 o.key,.int .i64 o.value] 67)=W:=⟨_,rfl⟩;have hE:Ext wr W:=hW▸(af wr).alloc _;have x0:W.cell? ⟨wr.heap.size,0,none⟩=some (.int .i64 o.kind):=hW▸aF rfl;have x1:W.cell? ⟨wr.heap.size,1,none⟩=some (.int .i64 o.key):=hW▸aF rfl;have x2:W.cell? ⟨wr.heap.size,2,none⟩=some (.int .i64 o.value):=hW▸aF rfl;have hnx:=aa (Bl t.ops j);have hoa:Hid (∀r,before (t.ops.take j) o.key=r->xM t.ops j=(oH o&&(match r with|some v=>v != o.value|none=>false))):=λr hr=>by subst hr;show _ = _;unfold xM;rw[ho];rfl
     have HQ:Hid (∀r e,before (t.ops.take j) o.key=r->Calls Tryz.prog 111 #[.agg #[.int .i64 t.az,.slice (some ⟨b',off',none⟩) t.ops.length c',.bool t.done],.int .i64 (j:Int),.int .i64 o.key] (over W e) λx w'=>x=.returned (.int .i64 (r.getD (-1)))/\Ext (over W e) w'):=λr e hr=>by subst hr;exact vk t.az t.done j o.key (over W e) ((HS.out.ext (hb.trans hE)).ext (xI _ _)) (by omega) (by omega)
     have HX:=aa (aB hE (aB x0 (aB x1 x2)));have X0:∀e,(over W e).cell? ⟨wr.heap.size,0,none⟩=some (.int .i64 o.kind):=aK x0;have X1:∀e,(over W e).cell? ⟨wr.heap.size,1,none⟩=some (.int .i64 o.key):=aK x1;have X2:∀e,(over W e).cell? ⟨wr.heap.size,2,none⟩=some (.int .i64 o.value):=aK x2;have D0:∀e,(over W e).cell? ⟨b,off+k*3,none⟩=some (.int .i64 t.az):=aK (hE.cell C0);have D1:∀e,(over W e).cell? ⟨b,off+k*3+1,none⟩=some (.slice (some ⟨b',off',none⟩) t.ops.length c'):=aK (hE.cell C1);have D2:∀e,(over W e).cell? ⟨b,off+k*3+2,none⟩=some (.bool t.done):=aK (hE.cell C2);have HW:=aa hW;clear ho hcc e2 x0 x1 x2 hE hW;have skip:Hid (∀r,xM t.ops j=r->r=false->DW xs (Oy h k t.ops (j+1)) (k*6+(j+1))):=λr e1 e2=>HO.out.congr (λn=>by unfold Oy;rw[hnx.out,e1,e2,Bool.or_false]) (by omega);have yes:Hid (xM t.ops j=true->DW (xs++[⟨k,j⟩]) (Oy h k t.ops (j+1)) (k*6+(j+1))):=λe1=>HO.out.push k j (λn=>by
      unfold Oy;rw[hnx.out,e1,Bool.or_true];constructor
      ·rintro (h1|h1)
       ·exact .inl (.inl h1)
       ·exact .inr h1.1
      ·rintro ((h1|h1)|h1)
       ·exact .inl h1
       ·exact .inr ⟨h1.1,rfl⟩
       ·exact .inr ⟨h1,rfl⟩) (by omega)
     have main:∀r,before (t.ops.take j) o.key=r->True:=λ_ _=>trivial;clear main
     cases hbf:before (t.ops.take j) o.key with
     | none=>
       have ZC:=aa (λe=>HQ.out none e hbf);have SK:=aa (skip.out _ (hoa.out none hbf) (by simp));clear hbf HQ hoa skip yes;cases hr:(o.kind==1)<;>(
        go_wp2;rw[HW.out];refine aU (by kernel_rfl) (by kernel_rfl) ?_;repeat (go_big_quiet_step ((go_at_call 111;exact pM (ZC.out _))))
        refine j5 ?_;intro w2 hb2;have y0:=hb2.cell HX.out.2.1;have y1:=hb2.cell HX.out.2.2.1;have y2:=hb2.cell HX.out.2.2.2;have HE2:=aa ((hb.trans HX.out.1).trans hb2);clear X0 X1 X2 D0 D1 D2;go_wp2;go_roundw;case rel=>exact⟨HE2.out,j+1,by omega,by go_num,xs,HR.out.ext (HX.out.1.trans hb2),SK.out⟩
        case measure=>simp[intOf];omega)
     | some vb=>
       have hv0:0<=vb:=zO VZ.out hbf;have ZC:=aa (λe=>HQ.out (some vb) e hbf);have HOA:=aa (hoa.out (some vb) hbf);clear hbf HQ hoa
       cases hr:(o.kind==1) with
       | false=>
         have SK:=aa (skip.out _ HOA.out (by simp[oH,hr]));clear skip yes;go_wp2;rw[HW.out];refine aU (by kernel_rfl) (by kernel_rfl) ?_;repeat (go_big_quiet_step ((go_at_call 111;exact pM (ZC.out _))))
         refine j5 ?_;intro w2 hb2;have y0:=hb2.cell HX.out.2.1;have y1:=hb2.cell HX.out.2.2.1;have y2:=hb2.cell HX.out.2.2.2;have HE2:=aa ((hb.trans HX.out.1).trans hb2);clear X0 X1 X2 D0 D1 D2;go_wp2;go_roundw;case rel=>exact⟨HE2.out,j+1,by omega,by go_num,xs,HR.out.ext (HX.out.1.trans hb2),SK.out⟩
         case measure=>simp[intOf];omega
       | true=>
         cases hne:(vb != o.value) with
         | false=>
           have SK:=aa (skip.out _ HOA.out (by simp[oH,hr,hne]));clear skip yes;go_wp2;rw[HW.out];refine aU (by kernel_rfl) (by kernel_rfl) ?_;repeat (go_big_quiet_step ((go_at_call 111;exact pM (ZC.out _))))
           refine j5 ?_;intro w2 hb2;have y0:=hb2.cell HX.out.2.1;have y1:=hb2.cell HX.out.2.2.1;have y2:=hb2.cell HX.out.2.2.2;have HE2:=aa ((hb.trans HX.out.1).trans hb2);clear X0 X1 X2 D0 D1 D2;go_wp2;go_roundw;case rel=>exact⟨HE2.out,j+1,by omega,by go_num,xs,HR.out.ext (HX.out.1.trans hb2),SK.out⟩
           case measure=>simp[intOf];omega
         | true=>
           have SK:=aa (yes.out (by rw[HOA.out];simp[oH,hr,hne]));clear skip yes;go_wp2;rw[HW.out];refine aU (by kernel_rfl) (by kernel_rfl) ?_;repeat (go_big_quiet_step ((go_at_call 111;exact pM (ZC.out _))))
           refine j5 ?_;intro w2 hb2;have y0:=hb2.cell HX.out.2.1;have y1:=hb2.cell HX.out.2.2.1;have y2:=hb2.cell HX.out.2.2.2;obtain⟨v',w3,hrun,hP⟩:=Gy w2.heap.size rfl HR.out (HX.out.1.trans hb2) ⟨k,j⟩ hbw (by omega);have bH:=aa hrun;have uW:=aa hP.1;have sU:=aa (hP.2.1 w hb (av _));clear X0 X1 X2 D0 D1 D2 hrun hP;go_wp2_with (at_builtin;refine wpList_append_run rfl rfl rfl rfl bH.out ?_)
           go_roundw;case rel=>exact⟨sU.out,j+1,by omega,by go_num,_,uW.out,SK.out⟩
           case measure=>simp[intOf];omega
    ·obtain rfl:j=t.ops.length:=by omega
     have C1:=hb.cell CC.out.2.1;go_wp2;go_roundw;case rel=>exact⟨hb,k+1,by omega,by go_num,xs,HR.out,HO.out.congr (λn=>by
      unfold Oy X6;constructor
      ·rintro (h1|h1)
       ·exact⟨by omega,h1.2⟩
       ·exact⟨by omega,by rw[h1.1,yZ.out];exact h1.2⟩
      ·rintro⟨h1,h2⟩;by_cases e:n=k
       ·exact .inr ⟨e,by rw[e,yZ.out]at h2;exact h2⟩
       ·exact .inl ⟨by omega,h2⟩) (by omega)⟩
     case measure=>simp[intOf];omega
  ·obtain rfl:k=h.length:=by omega
   obtain⟨xs,hR,hO⟩:=HI.out;have HR:=aa hR;have HO:=aa hO;obtain⟨A',c',rfl,_⟩:=id hR.cell.1;clear hR hO HI;go_wp2;go_returns;exact⟨_,xs,rfl,HR.out,HO.out.congr (λ_=>Iff.rfl) (by omega),hb⟩
def Ef(h:List aG)(xs:List Pl)(m:Nat):Bool:=(xs.take m).any λq=>jk h q.who.toNat
theorem Sc{h:List aG}{xs:List Pl}{m:Nat}{q:Pl}(hq:xs[m]? =some q):Ef h xs (m+1)=(Ef h xs m || jk h q.who.toNat):=by unfold Ef;rw[ak hq,List.any_append];simp
theorem Vk{h:List aG}{xs:List Pl}{most:Nat}(hO:DW xs (X6 h h.length) most):Ef h xs xs.length=iF h 4:=by
 unfold Ef iF;rw[bM,kQ,jF,jF];constructor
 ·rintro⟨q,hq,hd⟩;obtain⟨n,h1,h2⟩:=hO.2.1 q hq;refine⟨n,by simpa using h2.1,?_⟩;rw[h1]at hd;rw[show ((n:Int)).toNat=n by omega]at hd;rw[hd,nO,aj rfl,h2.2];rfl
 ·rintro⟨n,hn,hd⟩;rw[dh]at hd;have hb:=hd.2;rw[nO,aj rfl]at hb;obtain⟨q,hq,h2⟩:=hO.2.2 n ⟨by simpa using hn,hb⟩;exact⟨q,hq,by rw[h2,show ((n:Int)).toNat=n by omega];exact hd.1⟩
def yP(h:List aG)(kind:Int)(k:Nat):Bool:=(List.range k).any λn=>jk h n&&nO h kind n
theorem Ms(h:List aG)(kind:Int)(k:Nat):yP h kind (k+1)=(yP h kind k || (jk h k&&nO h kind k)):=by unfold yP;rw[vU,List.any_append];simp
theorem JR{v:Value}{h:List aG}(kind:Int)(w:World)(H:iM w v h)(hok:aD h=true)(hk:1<=kind/\kind<=4) :
 Calls Tryz.prog 192 #[v,.int .i64 kind] w λe w'=>∃A n c,e=.returned (.slice A n c)/\decide (0<n)=iF h kind/\n<=1000/\Ext w w':=by
 obtain⟨A,c,rfl⟩:=H.slice;have HH:=aa H;have fu:=aa hok;have hlen:=aR hok;have hkb:lH kind 1 4=true:=cK.2 hk;clear H hok;by_cases h4:kind=4
 ·subst h4;go_enter Tryz.func192,Tryz.ntmps192;go_wp2_with fail
  have hE0:Hid (Ext w (w.alloc (.cells #[] 231))):=(af _).alloc _
  refine(bJ _ (HH.out.ext hE0.out) (by omega) (aJ fu.out)).mono ?_
  rw[fu.out];rintro e w1 ⟨rfl,b1⟩;go_wp2_with (go_at_call 68;refine(fQ _ _ _ _).mono ?_;rw[hkb];rintro e w' ⟨rfl,rfl⟩)
  refine(IL _ (HH.out.ext (hE0.out.trans b1)) fu.out).mono ?_
  rintro e w2 ⟨v2,xs,rfl,r2,o2,b2⟩;obtain⟨A2,c2,rfl,_⟩:=id r2.cell.1;have hxl:=o2.1;have hR0:Row 231 2 encPl w.heap.size (w.alloc (.cells #[] 231)) (.slice (some ⟨w.heap.size,0,none⟩) 0 0) ([]:List Pl):=dD;have HR2:=aa r2;have Su:=aa o2;have HB2:=aa ((hE0.out.trans b1).trans b2);have HRo:=aa ((hR0.ext b1).ext b2);have afT:w.heap.size+1<=w1.heap.size:=by have:=b1.size;simpa using this
  clear r2 o2 b2 hR0;go_wp2;have hoff:Hid (∀g,(Value.slice A2 xs.length c2).ownBlock=some g->(Value.slice (some ⟨w.heap.size,0,none⟩) 0 0).ownBlock≠some g):=λg hg e=>by
   have:=HR2.out.block g hg
   simp[Value.ownBlock]at e
   have:=b1.size
   simp at this;omega
  go_loopw [5,7] (λo i wr=>Ext w wr/\∃m:Nat,m<=xs.length/\i=.int .i64 m/\Hid (Row 231 2 encPl w.heap.size wr (.slice A2 xs.length c2) xs/\(∀g,(Value.slice A2 xs.length c2).ownBlock=some g->o.ownBlock≠some g)/\∃ys,Row 231 2 encPl w.heap.size wr o ys/\decide (0<ys.length)=Ef h xs m/\ys.length<=m)) (λ_ i _=>xs.length-(intOf i).toNat)
  case atStart=>exact⟨HB2.out,0,aT _,rfl,HR2.out.low (by omega),hoff.out,[],HRo.out,rfl,av _⟩
  case round=>
   obtain⟨hb,m,hm,rfl,HI⟩:=hrel;have hbw:w.heap.size<=wr.heap.size:=hb.size;obtain⟨hL,hof,ys,hR,hy,hyl⟩:=HI.out;have HL:=aa hL;have HOF:=aa hof;have HR:=aa hR;have HY:=aa hy;clear HI hL hof hR hy hoff HRo HR2;by_cases hlt:m<xs.length
   ·obtain⟨q,hq⟩:=ah hlt;obtain⟨n,hn1,hn2⟩:=Su.out.2.1 q (aM hq);obtain⟨A3,c3,hA3,hcc⟩:=HL.out.cell.1;injection hA3 with e1 e2 e3;subst e1 e3;obtain⟨bq,aal,rfl,hbq,hcc⟩:=hcc (by omega);have d0:wr.cell? ⟨bq,aal+m*2,none⟩=some (.int .i64 (n:Int)):=by rw[<-hn1];exact hcc m q hq 0 (by omega)
    have d1:wr.cell? ⟨bq,aal+m*2+1,none⟩=some (.int .i64 q.at_):=hcc m q hq 1 (by omega);obtain⟨b,off,rfl,hbl,hc⟩:=HH.out.head (by have:=hn2.1;omega);obtain⟨t,ht⟩:=ah hn2.1;obtain⟨ov,c0,c1,c2',hs⟩:=hc n t ht;replace c2':=hb.cell c2';have hnx:Hid (∀r,t.done=r->Ef h xs (m+1)=(Ef h xs m || r)):=λr hr=>by rw[Sc hq,hn1,show ((n:Int)).toNat=n by omega];congr 1;simp[jk,ht,hr]
    have HN1:=aa hn1;have hnl:=hn2.1;clear hq hcc e2 hc ht hs c0 c1 hn1 hn2
    cases hd:t.done with
    | true=>
      rw[hd]at c2';obtain⟨v',w3,hrun,hP⟩:=Gy wr.heap.size rfl HR.out (af _) ⟨n,q.at_⟩ hbw (by omega);have bH:=aa hrun;have uW:=aa hP.1;have sU:=aa (hP.2.1 w hb (av _));have HL4:Hid (Row 231 2 encPl w.heap.size w3 (.slice (some ⟨bq,aal,none⟩) xs.length c2) xs):=HL.out.same λg hg=>hP.2.2.1 g (World.ownsRow.lt HL.out g hg).2 (HOF.out g hg);have aej:Hid (∀g,(Value.slice (some ⟨bq,aal,none⟩) xs.length c2).ownBlock=some g->v'.ownBlock≠some g):=λg hg e=>by
       rcases hP.2.2.2 with h1|⟨k,h1,h2⟩
       ·exact HOF.out g hg (by rw[<-h1];exact e)
       ·rw[h1]at e;cases e;have:=(World.ownsRow.lt HL.out _ hg).2;omega
      have hnx2:=aa (hnx.out _ hd);clear hrun hP;go_wp2_with (at_builtin;refine wpList_append_run rfl rfl rfl rfl bH.out ?_)
      go_roundw;case rel=>exact⟨sU.out,m+1,by omega,by go_num,HL4.out,aej.out,_,uW.out,by rw[hnx2.out];simp,by simp;omega⟩
      case measure=>simp[intOf];omega
    | false=>
      rw[hd]at c2';have hnx2:=aa (hnx.out _ hd);go_wp2;go_roundw;case rel=>exact⟨hb,m+1,by omega,by go_num,HL.out,HOF.out,ys,HR.out,by rw[hnx2.out,Bool.or_false];exact HY.out,by omega⟩
      case measure=>simp[intOf];omega
   ·obtain rfl:m=xs.length:=by omega
    have hfin:=HY.out;rw[Vk Su.out]at hfin;have HF:=aa hfin;obtain⟨A',c',rfl,_⟩:=id HR.out.cell.1;clear hfin;go_wp2;go_returns;exact⟨_,_,_,rfl,HF.out,by omega,hb⟩
 ·have h4':(kind==4)=false:=by simpa using h4
  have hbt:Hid (∀n,nO h kind n=(opsOf h n).any λo=>gG h n o==kind):=λn=>by rw[nO,au h4]
  clear h4;go_enter Tryz.func192,Tryz.ntmps192;go_wp2_with fail
  have hE0:Hid (Ext w (w.alloc (.cells #[] 231))):=(af _).alloc _
  refine(bJ _ (HH.out.ext hE0.out) (by omega) (aJ fu.out)).mono ?_
  rw[fu.out];rintro e w1 ⟨rfl,b1⟩;have hR0:Row 231 2 encPl w.heap.size (w.alloc (.cells #[] 231)) (.slice (some ⟨w.heap.size,0,none⟩) 0 0) ([]:List Pl):=dD;have zh:=aa (hR0.ext b1);have HB1:=aa (hE0.out.trans b1);clear hR0 b1;go_wp2_with (go_at_call 68;refine(fQ _ _ _ _).mono ?_;rw[hkb];rintro e w' ⟨rfl,rfl⟩)
  go_loopw [5,8] (λo i wr=>Ext w wr/\∃k:Nat,k<=h.length/\i=.int .i64 k/\Hid (∃xs,Row 231 2 encPl w.heap.size wr o xs/\qP xs (yP h kind k) (k*6))) (λ_ i _=>h.length-(intOf i).toNat)
  case atStart=>exact⟨HB1.out,0,aT _,rfl,[],zh.out,rfl,av _⟩
  case round=>
   obtain⟨hb,k,hk,rfl,HI⟩:=hrel;by_cases hlt:k<h.length
   ·obtain⟨b,off,rfl,hbl,hc⟩:=HH.out.head (by omega);obtain⟨t,ht⟩:=ah hlt;obtain⟨ov,c0,c1,c2,hs⟩:=hc k t ht;have hto:=dH fu.out (aM ht);have hol:=dF hto;have VZ:=aa hto;have HS:=aa hs;obtain⟨A',c',rfl,_⟩:=id hs;have hdo:Hid (jk h k=t.done):=by show _ = _;simp[jk,ht]
    have hnx:=aa (Ms h kind k);have hbk:Hid (nO h kind k=t.ops.any λo=>gG h k o==kind):=by show _ = _;rw[hbt.out,dV ht]
    have CC:=aa (aB c1 c2);have HI0:Hid (∃xs,Row 231 2 encPl w.heap.size wr u5 xs/\qP xs (yP h kind k || (t.done&&wW h k kind t.ops 0)) (k*6+0)):=by obtain⟨xs,h1,h2⟩:=HI.out;exact⟨xs,h1,by rw[show wW h k kind t.ops 0=false from rfl,Bool.and_false,Bool.or_false];exact h2⟩
    have d1:=hb.cell c1;clear hc ht hs hto c0 c1 c2 HI;go_wp2;go_loopw [5,9] (λo i wr=>Ext w wr/\∃j:Nat,j<=t.ops.length/\i=.int .i64 j/\Hid (∃xs,Row 231 2 encPl w.heap.size wr o xs/\qP xs (yP h kind k || (t.done&&wW h k kind t.ops j)) (k*6+j))) (λ_ i _=>t.ops.length-(intOf i).toNat)
    case atStart=>exact⟨hb,0,aT _,rfl,HI0.out⟩
    case round=>
     obtain⟨hb,j,hj,rfl,HJ⟩:=hrel;have hbw:w.heap.size<=wr.heap.size:=hb.size;obtain⟨xs,hR,hS⟩:=HJ.out;have HR:=aa hR;have HSm:=aa hS;have hxl:=hS.2;have d1:=hb.cell CC.out.1;have d2:=hb.cell CC.out.2;clear HJ hR hS HI0 hxl;by_cases hjt:j<t.ops.length
     ·obtain⟨A2,c2',hA2,hcc⟩:=HS.out.ext hb;injection hA2 with e1 e2 e3;subst e1 e3;obtain⟨b',off',rfl,ru,hcc⟩:=hcc (by omega);obtain⟨o,ho⟩:=ah hjt;have g0:wr.cell? ⟨b',off'+j*3,none⟩=some (.int .i64 o.kind):=hcc j o ho 0 (by omega);have g1:wr.cell? ⟨b',off'+j*3+1,none⟩=some (.int .i64 o.key):=hcc j o ho 1 (by omega);have g2:wr.cell? ⟨b',off'+j*3+2,none⟩=some (.int .i64 o.value):=hcc j o ho 2 (by omega);have yZ:=gD VZ.out (aM ho);have hbn:=aa (Ja (h:=h) (n:=k) (kind:=kind) ho);clear ho hcc e2
      cases hd:t.done with
      | false=>
        rw[hd]at d2;go_wp2;go_roundw;case rel=>exact⟨hb,j+1,by omega,by go_num,xs,HR.out,by
         have:=HSm.out
         rw[hd,Bool.false_and,Bool.or_false]at this;rw[Bool.false_and,Bool.or_false];exact⟨this.1,by have:=this.2;omega⟩⟩
        case measure=>simp[intOf];omega
      | true=>
        rw[hd]at d2;obtain⟨r,hr⟩:∃r,gG h k o=r:=⟨_,rfl⟩;have hBK:=λw' H=>Rw k o w' (v:=.slice (some ⟨b,off,none⟩) h.length c) H fu.out yZ;rw[hr]at hBK;have HBK:=aa hBK;have HRr:=aa hr;clear hr hBK yZ;go_wp2_with fail
        refine(HBK.out _ (HH.out.ext hb)).mono ?_
        rintro e w3 ⟨rfl,b3⟩
        cases Zp:(r==kind) with
        | true=>
          obtain⟨v',w4,hrun,hP⟩:=Gy w3.heap.size rfl HR.out b3 ⟨k,j⟩ hbw (by have:=HSm.out.2;omega);have bH:=aa hrun;have uW:=aa hP.1;have sU:=aa (hP.2.1 w hb (av _));clear hrun hP;go_wp2_with (at_builtin;refine wpList_append_run rfl rfl rfl rfl bH.out ?_)
          go_roundw;case rel=>exact⟨sU.out,j+1,by omega,by go_num,_,uW.out,by
           rw[hbn.out,HRr.out,Zp,Bool.or_true,Bool.true_and,Bool.or_true];exact HSm.out.push _⟩
          case measure=>simp[intOf];omega
        | false=>
          go_wp2;go_roundw;case rel=>exact⟨hb.trans b3,j+1,by omega,by go_num,xs,HR.out.ext b3,by
           have:=HSm.out
           rw[hd]at this;rw[hbn.out,HRr.out,Zp,Bool.or_false];exact⟨this.1,by have:=this.2;omega⟩⟩
          case measure=>simp[intOf];omega
     ·obtain rfl:j=t.ops.length:=by omega
      go_wp2;go_roundw;case rel=>exact⟨hb,k+1,by omega,by go_num,xs,HR.out,by
       rw[hnx.out,hdo.out,hbk.out]
       have:=HSm.out
       rw[show wW h k kind t.ops t.ops.length=t.ops.any λo=>gG h k o==kind by unfold wW;rw[bM]]at this;exact⟨this.1,by have:=this.2;omega⟩⟩
      case measure=>simp[intOf];omega
   ·obtain rfl:k=h.length:=by omega
    obtain⟨xs,hR,hS⟩:=HI.out;have HR:=aa hR;have HSm:=aa hS;have hxl:=hS.2;obtain⟨A',c',rfl,_⟩:=id hR.cell.1;clear hR hS HI;go_wp2;go_returns;exact⟨_,_,_,rfl,HSm.out.1,by omega,hb⟩
