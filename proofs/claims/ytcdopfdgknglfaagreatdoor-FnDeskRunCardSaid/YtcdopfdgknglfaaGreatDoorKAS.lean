/- Lemmas. -/
import Derived.Test.YtcdopfdgknglfaaGreatDoorKAL
import Derived.Test.YtcdopfdgknglfaaGreatDoorKAR
set_option maxHeartbeats 16000000
set_option maxRecDepth 8000
set_option linter.all false
namespace Go.Proofs.YtcdopfdgknglfaaGreatDoor
open Go.RowKit
theorem IW{p:List fI}:eu p=(decide (p.length<=4)&&p.all dm):=rfl
theorem Ve(o:aV):gq o=(lH o.kind 1 2&&(lH o.key 0 2&&o.value==0)):=by unfold gq oH jQ;rw[Bool.and_assoc];congr 1;rw[kQ,cK,agF,beq_iff_eq,beq_iff_eq];omega
theorem sP{v:Value}{p:List fI}(w:World)(H:yV w v p)(hlen:p.length<=2097152)(hst:∀d∈p,d.steps.length<=2097152) :
 Calls Tryz.prog 52 #[v] w λe w'=>e=.returned (.bool (eu p))/\Ext w w':=by
 obtain⟨A,c,rfl⟩:=H.slice;have HH:=aa H;have HST:=aa hst;obtain⟨r,hr⟩:∃r,eu p=r:=⟨_,rfl⟩;rw[hr];have HF:Hid (∀d∈p,dm d=false->r=false):=λd hd hk=>by rw[<-hr,IW,show p.all dm=false from List.all_eq_false.2 ⟨d,hd,by rw[hk];decide⟩,Bool.and_false]
 have HT:Hid ((∀d∈p,dm d=true)->r=decide (p.length<=4)):=λh=>by rw[<-hr,IW,show p.all dm=true from kT.2 h,Bool.and_true]
 clear H hst hr;go_enter Tryz.func52,Tryz.ntmps52;go_wp2;go_loopw [3] (λi wr=>Ext w wr/\∃k:Nat,k<=p.length/\i=.int .i64 (k:Int)/\Hid (∀(j:Nat) d,j<k->p[j]? =some d->dm d=true)) (λi _=>p.length-(intOf i).toNat)
 case atStart=>exact⟨af _,0,aT _,rfl,λj d hj=>absurd hj (gu _)⟩
 case round=>
  obtain⟨hb,k,hk,rfl,HI⟩:=hrel;by_cases hlt:k<p.length
  ·obtain⟨b,off,rfl,hbl,hcc⟩:=(HH.out.ext hb).head (by omega);obtain⟨d,hd⟩:=ah hlt;obtain⟨ov,c0,c1,hs⟩:=hcc k d hd;obtain⟨A4,c4,rfl,hs4⟩:=id hs;have Y1:=aM hd;have hsl:=HST.out d Y1;have K6:=aa hs4;have HC1:=aa c1;have HD:=aa hd;have HFD:=aa (HF.out d Y1);have i1:(k:Int)<(p.length:Int):=by omega
   have i2:(0:Int)<=(k:Int):=by omega
   have HDO:Hid (dm d=(lH d.az 0 3&&decide (1<=d.steps.length/\d.steps.length<=4)&&d.steps.all gq)):=rfl;have hbb:lH (d.steps.length:Int) 1 4=decide (1<=d.steps.length/\d.steps.length<=4):=by rw[kQ,cK,rU];omega
   obtain⟨a,ha⟩:∃a,lH d.az 0 3=a:=⟨_,rfl⟩;obtain⟨b',hb'⟩:∃b,lH (d.steps.length:Int) 1 4=b:=⟨_,rfl⟩;rw[ha,<-hbb,hb']at HDO;clear hcc hd hs hs4 Y1 hbb
   cases a with
   | false=>
     have HR:Hid (r=false):=HFD.out (by rw[HDO.out];rfl);go_wp2_with (go_at_call 68;refine(fQ _ _ _ _).mono ?_;rw[ha];rintro e w' ⟨rfl,rfl⟩)
     go_returns;exact⟨aS HR.out.symm,hb⟩
   | true=>
     cases b' with
     | false=>
       have HR:Hid (r=false):=HFD.out (by rw[HDO.out];rfl);go_wp2_with (go_at_call 68;refine(fQ _ _ _ _).mono ?_;(first|rw[ha]|rw[hb']);rintro e w' ⟨rfl,rfl⟩)
       go_returns;exact⟨aS HR.out.symm,hb⟩
     | true=>
       have HDS:Hid (dm d=d.steps.all gq):=by show _ = _;rw[HDO.out];rfl
       have HC0:=aa c0;go_wp2_with (go_at_call 68;refine(fQ _ _ _ _).mono ?_;(first|rw[ha]|rw[hb']);rintro e w' ⟨rfl,rfl⟩)
       obtain⟨wo,rfl⟩:∃wo:World,wo=wr:=⟨_,rfl⟩;clear c0 c1;go_loopw [4] (λi wr=>Ext wo wr/\∃j:Nat,j<=d.steps.length/\i=.int .i64 (j:Int)/\Hid (∀(i:Nat) o,i<j->d.steps[i]? =some o->gq o=true)) (λi _=>d.steps.length-(intOf i).toNat)
       case atStart=>exact⟨af _,0,aT _,rfl,λj d hj=>absurd hj (gu _)⟩
       case round=>
        obtain⟨hv,j,hj,rfl,HJ⟩:=hrel;have d1:=hv.cell HC1.out;by_cases hjt:j<d.steps.length
        ·obtain⟨b4,abd,rfl,abB,hc4⟩:=K6.out (by omega);obtain⟨o,ho⟩:=ah hjt;have e0:=hv.cell (hc4 j o ho 0 (by omega));have e1:=hv.cell (hc4 j o ho 1 (by omega));have e2:=hv.cell (hc4 j o ho 2 (by omega));simp only[encOpr,fE]at e0 e1 e2;have HSO:=aa (Ve o);have HO:=aa ho;have mF:Hid (gq o=false->r=false):=λh=>HFD.out (by rw[HDS.out];exact List.all_eq_false.2 ⟨o,aM ho,by rw[h];decide⟩);have Ff:Hid (gq o=true->∀(i:Nat) x,i<j+1->d.steps[i]? =some x->gq x=true):=λh i x hi hx=>by
          rcases eP i j with h'|h'
          ·exact HJ.out i x h' hx
          ·obtain rfl:i=j:=by omega
           rw[HO.out]at hx;cases hx;exact h
         have HX:Hid (Ext wr (wr.alloc (.cells #[.int .i64 o.kind,.int .i64 o.key,.int .i64 o.value] 67))):=(af _).alloc _;have j1:(j:Int)<(d.steps.length:Int):=by omega
         have j2:(0:Int)<=(j:Int):=by omega
         obtain⟨kd,ky,vl⟩:=o;simp only at e0 e1 e2 HSO HX;obtain⟨x1,hx1⟩:∃x,lH kd 1 2=x:=⟨_,rfl⟩;obtain⟨x2,hx2⟩:∃x,lH ky 0 2=x:=⟨_,rfl⟩;rw[hx1]at HSO;rw[hx2]at HSO;clear hc4 ho
         cases x1 with
         | false=>
           have HR:Hid (r=false):=mF.out (by rw[HSO.out];rfl);go_wp2_with (go_at_call 68;refine(fQ _ _ _ _).mono ?_;rw[hx1];rintro e w' ⟨rfl,rfl⟩)
           go_returns;exact⟨aS HR.out.symm,(hb.trans hv).trans HX.out⟩
         | true=>
           cases x2 with
           | false=>
             have HR:Hid (r=false):=mF.out (by rw[HSO.out];rfl);go_wp2_with (go_at_call 68;refine(fQ _ _ _ _).mono ?_;(first|rw[hx1]|rw[hx2]);rintro e w' ⟨rfl,rfl⟩)
             go_returns;exact⟨aS HR.out.symm,(hb.trans hv).trans HX.out⟩
           | true=>
             by_cases hv0:vl=0
             ·subst hv0;have V9:=aa (Ff.out (by rw[HSO.out];rfl));go_wp2_with (go_at_call 68;refine(fQ _ _ _ _).mono ?_;(first|rw[hx1]|rw[hx2]);rintro e w' ⟨rfl,rfl⟩)
              go_roundw;case rel=>exact⟨hv.trans HX.out,j+1,by omega,by go_num,V9.out⟩
              case measure=>simp[intOf];omega
             ·have q1:(vl==0)=false:=by simp[hv0]
              have HR:Hid (r=false):=mF.out (by rw[HSO.out,q1];rfl);clear hv0;go_wp2_with (go_at_call 68;refine(fQ _ _ _ _).mono ?_;(first|rw[hx1]|rw[hx2]);rintro e w' ⟨rfl,rfl⟩)
              go_returns;exact⟨aS HR.out.symm,(hb.trans hv).trans HX.out⟩
        ·obtain rfl:j=d.steps.length:=by omega
         have HY:Hid (dm d=true):=by show _ = _;rw[HDS.out,kT];intro o ho;obtain⟨i,hi,rfl⟩:=jq ho;exact HJ.out i _ hi (dJ hi)
         go_wp2;go_roundw;case rel=>exact⟨hb.trans hv,k+1,by omega,by go_num,λi x hi hx=>by
          rcases eP i k with h'|h'
          ·exact HI.out i x h' hx
          ·obtain rfl:i=k:=by omega
           rw[HD.out]at hx;cases hx;exact HY.out⟩
         case measure=>simp[intOf];omega
  ·obtain rfl:k=p.length:=by omega
   have zh:Hid (r=decide (p.length<=4)):=HT.out λd hd=>by obtain⟨i,hi,rfl⟩:=jq hd;exact HI.out i _ hi (dJ hi)
   have HR:Hid (r=decide ((p.length:Int)<=4)):=by show _ = _;rw[zh.out,decide_eq_decide];omega
   go_wp2;go_returns;exact⟨aS HR.out.symm,hb⟩
theorem Be{v:Value}{xs:List Int}(many:Nat)(w:World)(hm:many<=4)(h:oZ encI w v xs)(hl:xs.length<=40)(hok:∀n∈xs,0<=n/\n<many) :
 Calls Tryz.prog 70 #[.int .i64 (many:Int),v] w λr w'=>r=.returned (.bool true)/\Ext w w':=by
 obtain⟨A,c,rfl,hc⟩:=id h;have HC:=aa hc;have fu:=aa hok;have hw:IntKind.i64.wrap ((many:Int)-1)=(many:Int)-1:=dL _ (by omega);have b0:lH (many:Int) 0 4=true:=cK.2 (by omega);have hl':(xs.length:Int)<=40:=by omega
 clear h hc hok;go_enter Tryz.func70,Tryz.ntmps70;go_wp2;go_loopw [5] (λi wr=>Ext w wr/\∃k:Nat,k<=xs.length/\i=.int .i64 (k:Int)) (λi _=>xs.length-(intOf i).toNat)
 case atStart=>exact⟨af _,0,aT _,rfl⟩
 case round=>
  obtain⟨hb,k,hk,rfl⟩:=hrel;by_cases hlt:k<xs.length
  ·obtain⟨y,hy⟩:=ah hlt;obtain⟨b,off,rfl,hbl,hcc⟩:=HC.out (by omega);have d0:wr.cell? ⟨b,off+k,none⟩=some (.int .i64 y):=by have:=hb.cell (hcc k y hy);simpa[encI] using this
   have h1:=fu.out y (aM hy);have b1:lH y 0 ((many:Int)-1)=true:=cK.2 (by omega);have i1:(k:Int)<(xs.length:Int):=by omega
   have i2:(0:Int)<=(k:Int):=by omega
   clear hcc hy h1;go_wp2_with (go_at_call 68;refine(fQ _ _ _ _).mono ?_;rw[b1];rintro e w' ⟨rfl,rfl⟩)
   go_roundw;case rel=>exact⟨hb,k+1,by omega,by go_num⟩
   case measure=>simp[intOf];omega
  ·obtain rfl:k=xs.length:=by omega
   go_wp2_with (go_at_call 68;refine(fQ _ _ _ _).mono ?_;rw[b0];rintro e w' ⟨rfl,rfl⟩)
   go_returns;exact⟨rfl,hb⟩
