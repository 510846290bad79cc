/- Lemmas. -/
import Derived.Test.YtomkjlklninhpaaGreatDoorKAQ
import Derived.Test.YtomkjlklninhpaaGreatDoorKAU
set_option maxHeartbeats 16000000
set_option maxRecDepth 8000
set_option linter.all false
namespace Go.Proofs.YtomkjlklninhpaaGreatDoor
open Go.RowKit
theorem GI{p:List eH}:dQ p=(decide (p.length<=4)&&p.all bM):=rfl
theorem UE(o:aQ):eO o=(jR o.kind 1 2&&(jR o.key 0 2&&o.value==0)):=by unfold eO mM iN;rw[Bool.and_assoc];congr 1;rw[Bool.eq_iff_iff,bL,Bool.or_eq_true,beq_iff_eq,beq_iff_eq];omega
theorem qc{v:Value}{p:List eH}(w:World)(H:xZ w v p)(hlen:p.length<=2097152)(hst:∀d∈p,d.steps.length<=2097152) :
 Calls Tryz.prog 50 #[v] w fun e w'=>e=.returned (.bool (dQ p))/\Ext w w':=by
 obtain⟨A,c,rfl⟩:=H.slice;have HH:=aa H;have HST:=aa hst;obtain⟨r,hr⟩:∃r,dQ p=r:=⟨_,rfl⟩;rw[hr];have HF:Hid (∀d∈p,bM d=false->r=false):=fun d hd hk=>by rw[<-hr,GI,show p.all bM=false from List.all_eq_false.2 ⟨d,hd,by rw[hk];decide⟩,Bool.and_false]
 have HT:Hid ((∀d∈p,bM d=true)->r=decide (p.length<=4)):=fun h=>by rw[<-hr,GI,show p.all bM=true from List.all_eq_true.2 h,Bool.and_true]
 clear H hst hr;go_enter Tryz.func50,Tryz.ntmps50;go_wp2;go_loopw [3] (fun i wr=>Ext w wr/\∃k:Nat,k<=p.length/\i=.int .i64 (k:Int)/\Hid (∀(j:Nat) d,j<k->p[j]? =some d->bM d=true)) (fun i _=>p.length-(intOf i).toNat)
 case atStart=>exact⟨Ext.refl _,0,Nat.zero_le _,rfl,fun j d hj=>absurd hj (Nat.not_lt_zero _)⟩
 case round=>
  obtain⟨hb,k,hk,rfl,HI⟩:=hrel;by_cases hlt:k<p.length
  ·obtain⟨b,off,rfl,hbl,hcc⟩:=(HH.out.ext hb).head (by omega);obtain⟨d,hd⟩:=af hlt;obtain⟨ov,c0,c1,hs⟩:=hcc k d hd;obtain⟨A4,c4,rfl,hs4⟩:=id hs;have Xy:=List.mem_of_getElem? hd;have hsl:=HST.out d Xy;have Ay:=aa hs4;have Xe:=aa c1;have HD:=aa hd;have HFD:=aa (HF.out d Xy);have i1:(k:Int)<(p.length:Int):=by omega
   have i2:(0:Int)<=(k:Int):=by omega
   have HDO:Hid (bM d=(jR d.az 0 3&&decide (1<=d.steps.length/\d.steps.length<=4)&&d.steps.all eO)):=rfl;have hbb:jR (d.steps.length:Int) 1 4=decide (1<=d.steps.length/\d.steps.length<=4):=by rw[Bool.eq_iff_iff,bL,decide_eq_true_eq];omega
   obtain⟨a,ha⟩:∃a,jR d.az 0 3=a:=⟨_,rfl⟩;obtain⟨b',hb'⟩:∃b,jR (d.steps.length:Int) 1 4=b:=⟨_,rfl⟩;rw[ha,<-hbb,hb']at HDO;clear hcc hd hs hs4 Xy hbb
   cases a with
   | false=>
     have HR:Hid (r=false):=HFD.out (by rw[HDO.out];rfl);go_wp2_with (go_at_call 48;refine(dY _ _ _ _).mono ?_;rw[ha];rintro e w' ⟨rfl,rfl⟩)
     go_returns;exact⟨aN HR.out.symm,hb⟩
   | true=>
     cases b' with
     | false=>
       have HR:Hid (r=false):=HFD.out (by rw[HDO.out];rfl);go_wp2_with (go_at_call 48;refine(dY _ _ _ _).mono ?_;(first|rw[ha]|rw[hb']);rintro e w' ⟨rfl,rfl⟩)
       go_returns;exact⟨aN HR.out.symm,hb⟩
     | true=>
       have HDS:Hid (bM d=d.steps.all eO):=by show _ = _;rw[HDO.out];rfl
       have HC0:=aa c0;go_wp2_with (go_at_call 48;refine(dY _ _ _ _).mono ?_;(first|rw[ha]|rw[hb']);rintro e w' ⟨rfl,rfl⟩)
       obtain⟨wo,rfl⟩:∃wo:World,wo=wr:=⟨_,rfl⟩;clear c0 c1;go_loopw [4] (fun i wr=>Ext wo wr/\∃j:Nat,j<=d.steps.length/\i=.int .i64 (j:Int)/\Hid (∀(i:Nat) o,i<j->d.steps[i]? =some o->eO o=true)) (fun i _=>d.steps.length-(intOf i).toNat)
       case atStart=>exact⟨Ext.refl _,0,Nat.zero_le _,rfl,fun j d hj=>absurd hj (Nat.not_lt_zero _)⟩
       case round=>
        obtain⟨hv,j,hj,rfl,HJ⟩:=hrel;have d1:=hv.cell Xe.out;by_cases hjt:j<d.steps.length
        ·obtain⟨b4,aa3,rfl,aaF,hc4⟩:=Ay.out (by omega);obtain⟨o,ho⟩:=af hjt;have e0:=hv.cell (hc4 j o ho 0 (by omega));have e1:=hv.cell (hc4 j o ho 1 (by omega));have e2:=hv.cell (hc4 j o ho 2 (by omega));simp only[aj,Nat.add_zero]at e0 e1 e2;have HSO:=aa (UE o);have HO:=aa ho;have kg:Hid (eO o=false->r=false):=fun h=>HFD.out (by rw[HDS.out];exact List.all_eq_false.2 ⟨o,List.mem_of_getElem? ho,by rw[h];decide⟩);have Em:Hid (eO o=true->∀(i:Nat) x,i<j+1->d.steps[i]? =some x->eO x=true):=fun h i x hi hx=>by
          rcases Nat.lt_or_ge i j with h'|h'
          ·exact HJ.out i x h' hx
          ·obtain rfl:i=j:=by omega
           rw[HO.out]at hx;cases hx;exact h
         have HX:Hid (Ext wr (wr.alloc (.cells #[.int .i64 o.kind,.int .i64 o.key,.int .i64 o.value] 71))):=(Ext.refl _).alloc _;have j1:(j:Int)<(d.steps.length:Int):=by omega
         have j2:(0:Int)<=(j:Int):=by omega
         obtain⟨kd,ky,vl⟩:=o;simp only at e0 e1 e2 HSO HX;obtain⟨x1,hx1⟩:∃x,jR kd 1 2=x:=⟨_,rfl⟩;obtain⟨x2,hx2⟩:∃x,jR ky 0 2=x:=⟨_,rfl⟩;rw[hx1]at HSO;rw[hx2]at HSO;clear hc4 ho
         cases x1 with
         | false=>
           have HR:Hid (r=false):=kg.out (by rw[HSO.out];rfl);go_wp2_with (go_at_call 48;refine(dY _ _ _ _).mono ?_;rw[hx1];rintro e w' ⟨rfl,rfl⟩)
           go_returns;exact⟨aN HR.out.symm,(hb.trans hv).trans HX.out⟩
         | true=>
           cases x2 with
           | false=>
             have HR:Hid (r=false):=kg.out (by rw[HSO.out];rfl);go_wp2_with (go_at_call 48;refine(dY _ _ _ _).mono ?_;(first|rw[hx1]|rw[hx2]);rintro e w' ⟨rfl,rfl⟩)
             go_returns;exact⟨aN HR.out.symm,(hb.trans hv).trans HX.out⟩
           | true=>
             by_cases hv0:vl=0
             ·subst hv0;have Yg:=aa (Em.out (by rw[HSO.out];rfl));go_wp2_with (go_at_call 48;refine(dY _ _ _ _).mono ?_;(first|rw[hx1]|rw[hx2]);rintro e w' ⟨rfl,rfl⟩)
              go_roundw;case rel=>exact⟨hv.trans HX.out,j+1,by omega,by go_num,Yg.out⟩
              case measure=>simp[intOf];omega
             ·have q1:(vl==0)=false:=by simp[hv0]
              have HR:Hid (r=false):=kg.out (by rw[HSO.out,q1];rfl);clear hv0;go_wp2_with (go_at_call 48;refine(dY _ _ _ _).mono ?_;(first|rw[hx1]|rw[hx2]);rintro e w' ⟨rfl,rfl⟩)
              go_returns;exact⟨aN HR.out.symm,(hb.trans hv).trans HX.out⟩
        ·obtain rfl:j=d.steps.length:=by omega
         have HY:Hid (bM d=true):=by show _ = _;rw[HDS.out,List.all_eq_true];intro o ho;obtain⟨i,hi,rfl⟩:=List.getElem_of_mem ho;exact HJ.out i _ hi (List.getElem?_eq_getElem hi)
         go_wp2;go_roundw;case rel=>exact⟨hb.trans hv,k+1,by omega,by go_num,fun i x hi hx=>by
          rcases Nat.lt_or_ge i k with h'|h'
          ·exact HI.out i x h' hx
          ·obtain rfl:i=k:=by omega
           rw[HD.out]at hx;cases hx;exact HY.out⟩
         case measure=>simp[intOf];omega
  ·obtain rfl:k=p.length:=by omega
   have xw:Hid (r=decide (p.length<=4)):=HT.out fun d hd=>by obtain⟨i,hi,rfl⟩:=List.getElem_of_mem hd;exact HI.out i _ hi (List.getElem?_eq_getElem hi)
   have HR:Hid (r=decide ((p.length:Int)<=4)):=by show _ = _;rw[xw.out,decide_eq_decide];omega
   go_wp2;go_returns;exact⟨aN HR.out.symm,hb⟩
theorem yt{v:Value}{xs:List Int}(many:Nat)(w:World)(hm:many<=4)(h:rM encI w v xs)(hl:xs.length<=40)(hok:∀n∈xs,0<=n/\n<many) :
 Calls Tryz.prog 52 #[.int .i64 (many:Int),v] w fun r w'=>r=.returned (.bool true)/\Ext w w':=by
 obtain⟨A,c,rfl,hc⟩:=id h;have HC:=aa hc;have dO:=aa hok;have hw:IntKind.i64.wrap ((many:Int)-1)=(many:Int)-1:=IntWalk.i64_in _ (by omega);have b0:jR (many:Int) 0 4=true:=bL.2 (by omega);have hl':(xs.length:Int)<=40:=by omega
 clear h hc hok;go_enter Tryz.func52,Tryz.ntmps52;go_wp2;go_loopw [5] (fun i wr=>Ext w wr/\∃k:Nat,k<=xs.length/\i=.int .i64 (k:Int)) (fun i _=>xs.length-(intOf i).toNat)
 case atStart=>exact⟨Ext.refl _,0,Nat.zero_le _,rfl⟩
 case round=>
  obtain⟨hb,k,hk,rfl⟩:=hrel;by_cases hlt:k<xs.length
  ·obtain⟨y,hy⟩:=af hlt;obtain⟨b,off,rfl,hbl,hcc⟩:=HC.out (by omega);have d0:wr.cell? ⟨b,off+k,none⟩=some (.int .i64 y):=by have:=hb.cell (hcc k y hy);simpa[encI] using this
   have h1:=dO.out y (List.mem_of_getElem? hy);have b1:jR y 0 ((many:Int)-1)=true:=bL.2 (by omega);have i1:(k:Int)<(xs.length:Int):=by omega
   have i2:(0:Int)<=(k:Int):=by omega
   clear hcc hy h1;go_wp2_with (go_at_call 48;refine(dY _ _ _ _).mono ?_;rw[b1];rintro e w' ⟨rfl,rfl⟩)
   go_roundw;case rel=>exact⟨hb,k+1,by omega,by go_num⟩
   case measure=>simp[intOf];omega
  ·obtain rfl:k=xs.length:=by omega
   go_wp2_with (go_at_call 48;refine(dY _ _ _ _).mono ?_;rw[b0];rintro e w' ⟨rfl,rfl⟩)
   go_returns;exact⟨rfl,hb⟩
