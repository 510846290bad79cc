/- Lemmas. -/
import Derived.Test.YtcdopfdgknglfaaGreatDoorCAN
import Derived.Test.YtcdopfdgknglfaaGreatDoorCAS
import Derived.Test.YtcdopfdgknglfaaGreatDoorCAT
import Derived.Test.YtcdopfdgknglfaaGreatDoorCAU
set_option maxHeartbeats 16000000
set_option maxRecDepth 8000
set_option linter.all false
namespace Go.Proofs.YtcdopfdgknglfaaGreatDoor
open Go.RowKit
theorem zL{p:List dZ}:bJ p=(decide (p.length<=4)&&p.all aY):=rfl
theorem K5(o:aJ):dK o=(kV o.kind 1 2&&(kV o.key 0 2&&o.value==0)):=by unfold dK mh jl;rw[Bool.and_assoc];congr 1;rw[lH,cK,qo,beq_iff_eq,beq_iff_eq];omega
theorem yZ{v:Value}{p:List dZ}(w:World)(H:vT w v p)(hlen:p.length<=2097152)(hst:∀d∈p,d.steps.length<=2097152) :
 Calls Tryz.prog 52 #[v] w λe w'=>e=.returned (.bool (bJ p))/\Ext w w':=by
 obtain⟨A,c,rfl⟩:=H.slice;have HH:=aa H;have HST:=aa hst;obtain⟨r,hr⟩:∃r,bJ p=r:=⟨_,rfl⟩;rw[hr];have HF:Hid (∀d∈p,aY d=false->r=false):=λd hd hk=>by rw[<-hr,zL,show p.all aY=false from List.all_eq_false.2 ⟨d,hd,by rw[hk];decide⟩,Bool.and_false]
 have HT:Hid ((∀d∈p,aY d=true)->r=decide (p.length<=4)):=λh=>by rw[<-hr,zL,show p.all aY=true from iN.2 h,Bool.and_true]
 clear H hst hr;go_enter Tryz.func52,Tryz.ntmps52;go_wp2;go_loopw [3] (λi wr=>Ext w wr/\∃k:Nat,k<=p.length/\i=.int .i64 (k:Int)/\Hid (∀(j:Nat) d,j<k->p[j]? =some d->aY d=true)) (λi _=>p.length-(intOf i).toNat)
 case atStart=>exact⟨af _,0,bR _,rfl,λj d hj=>absurd hj (oF _)⟩
 case round=>
  obtain⟨hb,k,hk,rfl,HI⟩:=hrel;by_cases hlt:k<p.length
  ·obtain⟨b,off,rfl,hbl,hcc⟩:=(HH.out.ext hb).head (by omega);obtain⟨d,hd⟩:=au hlt;obtain⟨ov,c0,c1,hs⟩:=hcc k d hd;obtain⟨A4,c4,rfl,hs4⟩:=id hs;have NQ:=aN hd;have hsl:=HST.out d NQ;have GM:=aa hs4;have TC:=aa c1;have HD:=aa hd;have XN:=aa (HF.out d NQ);have i1:(k:Int)<(p.length:Int):=by omega
   have i2:(0:Int)<=(k:Int):=by omega
   have VW:Hid (aY d=(kV d.aD 0 3&&decide (1<=d.steps.length/\d.steps.length<=4)&&d.steps.all dK)):=rfl;have hbb:kV (d.steps.length:Int) 1 4=decide (1<=d.steps.length/\d.steps.length<=4):=by rw[lH,cK,eG];omega
   obtain⟨a,ha⟩:∃a,kV d.aD 0 3=a:=⟨_,rfl⟩;obtain⟨b',hb'⟩:∃b,kV (d.steps.length:Int) 1 4=b:=⟨_,rfl⟩;rw[ha,<-hbb,hb']at VW;clear hcc hd hs hs4 NQ hbb
   cases a with
   | false=>
     have HR:Hid (r=false):=XN.out (by rw[VW.out];rfl);go_wp2_with (go_at_call 68;refine(nC _ _ _ _).mono ?_;rw[ha];rintro e w' ⟨rfl,rfl⟩)
     go_returns;exact⟨aU HR.out.symm,hb⟩
   | true=>
     cases b' with
     | false=>
       have HR:Hid (r=false):=XN.out (by rw[VW.out];rfl);go_wp2_with (go_at_call 68;refine(nC _ _ _ _).mono ?_;(first|rw[ha]|rw[hb']);rintro e w' ⟨rfl,rfl⟩)
       go_returns;exact⟨aU HR.out.symm,hb⟩
     | true=>
       have Vn:Hid (aY d=d.steps.all dK):=by show _ = _;rw[VW.out];rfl
       have Zi:=aa c0;go_wp2_with (go_at_call 68;refine(nC _ _ _ _).mono ?_;(first|rw[ha]|rw[hb']);rintro e w' ⟨rfl,rfl⟩)
       obtain⟨wo,rfl⟩:∃wo:World,wo=wr:=⟨_,rfl⟩;clear c0 c1;go_loopw [4] (λi wr=>Ext wo wr/\∃j:Nat,j<=d.steps.length/\i=.int .i64 (j:Int)/\Hid (∀(i:Nat) o,i<j->d.steps[i]? =some o->dK o=true)) (λi _=>d.steps.length-(intOf i).toNat)
       case atStart=>exact⟨af _,0,bR _,rfl,λj d hj=>absurd hj (oF _)⟩
       case round=>
        obtain⟨hv,j,hj,rfl,HJ⟩:=hrel;have d1:=hv.cell TC.out;by_cases hjt:j<d.steps.length
        ·obtain⟨b4,Su,rfl,TT,hc4⟩:=GM.out (by omega);obtain⟨o,ho⟩:=au hjt;have e0:=hv.cell (hc4 j o ho 0 (by omega));have e1:=hv.cell (hc4 j o ho 1 (by omega));have e2:=hv.cell (hc4 j o ho 2 (by omega));simp only[encOpr,gL]at e0 e1 e2;have QA:=aa (K5 o);have HO:=aa ho;have CS:Hid (dK o=false->r=false):=λh=>XN.out (by rw[Vn.out];exact List.all_eq_false.2 ⟨o,aN ho,by rw[h];decide⟩);have Ja:Hid (dK o=true->∀(i:Nat) x,i<j+1->d.steps[i]? =some x->dK x=true):=λh i x hi hx=>by
          rcases eX i j with h'|h'
          ·exact HJ.out i x h' hx
          ·obtain rfl:i=j:=by omega
           rw[HO.out]at hx;cases hx;exact h
         have HX:Hid (Ext wr (wr.alloc (.cells #[.int .i64 o.kind,.int .i64 o.key,.int .i64 o.value] 67))):=(af _).alloc _;have j1:(j:Int)<(d.steps.length:Int):=by omega
         have j2:(0:Int)<=(j:Int):=by omega
         obtain⟨kd,ky,vl⟩:=o;simp only at e0 e1 e2 QA HX;obtain⟨x1,hx1⟩:∃x,kV kd 1 2=x:=⟨_,rfl⟩;obtain⟨x2,hx2⟩:∃x,kV ky 0 2=x:=⟨_,rfl⟩;rw[hx1]at QA;rw[hx2]at QA;clear hc4 ho
         cases x1 with
         | false=>
           have HR:Hid (r=false):=CS.out (by rw[QA.out];rfl);go_wp2_with (go_at_call 68;refine(nC _ _ _ _).mono ?_;rw[hx1];rintro e w' ⟨rfl,rfl⟩)
           go_returns;exact⟨aU HR.out.symm,(hb.trans hv).trans HX.out⟩
         | true=>
           cases x2 with
           | false=>
             have HR:Hid (r=false):=CS.out (by rw[QA.out];rfl);go_wp2_with (go_at_call 68;refine(nC _ _ _ _).mono ?_;(first|rw[hx1]|rw[hx2]);rintro e w' ⟨rfl,rfl⟩)
             go_returns;exact⟨aU HR.out.symm,(hb.trans hv).trans HX.out⟩
           | true=>
             by_cases hv0:vl=0
             ·subst hv0;have Rh:=aa (Ja.out (by rw[QA.out];rfl));go_wp2_with (go_at_call 68;refine(nC _ _ _ _).mono ?_;(first|rw[hx1]|rw[hx2]);rintro e w' ⟨rfl,rfl⟩)
              go_roundw;case rel=>exact⟨hv.trans HX.out,j+1,by omega,by go_num,Rh.out⟩
              case measure=>simp[intOf];omega
             ·have q1:(vl==0)=false:=by simp[hv0]
              have HR:Hid (r=false):=CS.out (by rw[QA.out,q1];rfl);clear hv0;go_wp2_with (go_at_call 68;refine(nC _ _ _ _).mono ?_;(first|rw[hx1]|rw[hx2]);rintro e w' ⟨rfl,rfl⟩)
              go_returns;exact⟨aU HR.out.symm,(hb.trans hv).trans HX.out⟩
        ·obtain rfl:j=d.steps.length:=by omega
         have HY:Hid (aY d=true):=by show _ = _;rw[Vn.out,iN];intro o ho;obtain⟨i,hi,rfl⟩:=jw ho;exact HJ.out i _ hi (dz hi)
         go_wp2;go_roundw;case rel=>exact⟨hb.trans hv,k+1,by omega,by go_num,λi x hi hx=>by
          rcases eX i k with h'|h'
          ·exact HI.out i x h' hx
          ·obtain rfl:i=k:=by omega
           rw[HD.out]at hx;cases hx;exact HY.out⟩
         case measure=>simp[intOf];omega
  ·obtain rfl:k=p.length:=by omega
   have CP:Hid (r=decide (p.length<=4)):=HT.out λd hd=>by obtain⟨i,hi,rfl⟩:=jw hd;exact HI.out i _ hi (dz hi)
   have HR:Hid (r=decide ((p.length:Int)<=4)):=by show _ = _;rw[CP.out,decide_eq_decide];omega
   go_wp2;go_returns;exact⟨aU HR.out.symm,hb⟩
theorem BO{v:Value}{p:List dZ}(w:World)(H:vT w v p)(hlen:p.length<=2097152)(hst:∀d∈p,d.steps.length<=2097152) :
 Calls Tryz.prog 19 #[v] w λe w'=>e=.returned (.string (tx (if bJ p then dR p else [])))/\Ext w w':=by
 obtain⟨A,c,rfl⟩:=H.slice;have HH:=aa H;have HV:=aa (λW (b:Ext w W)=>yZ W (H.ext b) hlen hst);clear H hst
 cases hok:bJ p with
 | false=>
   rw[hok]at HV;have h0:0<p.length:=by
    cases p with
    | nil=>cases hok
    | cons d r=>simp
   have h0i:(0:Int)<(p.length:Int):=by omega
   clear hok;go_enter Tryz.func19,Tryz.ntmps19;go_wp2;go_loopw [3,4] (λo i wr=>Ext w wr/\o=.string ⟨#[]⟩/\i=.int .i64 0) (λ_ i _=>0)
   case atStart=>exact⟨af _,rfl,rfl⟩
   case round=>
    obtain⟨hb,rfl,rfl⟩:=hrel;go_wp2_with (go_at_call 52;refine(HV.out _ hb).mono ?_;rintro e w1 ⟨rfl,b1⟩)
    go_returns;exact⟨rfl,hb.trans b1⟩
 | true=>
   have hl:p.length<=4:=jB hok;have jh:=aa (λd (hd:d∈p)=>cZ hok hd);rw[hok]at HV;have hgoal:Hid ((if true=true then dR p else [])=dR p):=by show _ = _;simp
   rw[hgoal.out];obtain⟨z,hz⟩:∃z,tx (dR p)=z:=⟨_,rfl⟩;rw[hz];have HZ:Hid (tx (joinL [59,32] ((p.map bZ).take p.length))=z):=by show _ = _;rw[<-hz,jZ (by rw[dF];exact ay _)];rfl
   have HLEN:Hid (∀k,(joinL [59,32] ((p.map bZ).take k)).length<=88):=λk=>by
    have:=AJ [59,32] 20 (ws:=p.map bZ) (λx hx=>by
     obtain⟨d,hd,rfl⟩:=dX.1 hx
     have:=lJ (jh.out d hd) (d.steps.length+1)
     rw[jV]at this;exact this) k
    rw[dF]at this;simp only[eF,jK]at this;omega
   clear hok hgoal hz;go_enter Tryz.func19,Tryz.ntmps19;go_wp2;go_loopw [3,4] (λs i wr=>Ext w wr/\∃(k:Nat) (y:ByteArray),k<=p.length/\i=.int .i64 (k:Int)/\s=.string y/\Hid (y=tx (joinL [59,32] ((p.map bZ).take k)))) (λ_ i _=>p.length-(intOf i).toNat)
   case atStart=>exact⟨af _,0,_,bR _,rfl,rfl,rfl⟩
   case round=>
    obtain⟨hb,k,yk,hk,rfl,rfl,YO⟩:=hrel;by_cases hlt:k<p.length
    ·obtain⟨b,off,rfl,hbl,hcc⟩:=(HH.out.ext hb).head (by omega);obtain⟨d,hd⟩:=au hlt;obtain⟨ov,c0,c1,hs⟩:=hcc k d hd;obtain⟨A4,c4,rfl,hs4⟩:=id hs;have HS:=aa hs;have NQ:=aN hd;have hdk:=jh.out d NQ;have HDK:=aa hdk;have hdl:=gK hdk;have hds:=iL hdk;have yG:dh d.aD.toNat=[mW d.aD.toNat]:=by unfold dh;rw[ah (by omega)]
     have i1:(k:Int)<(p.length:Int):=by omega
     have i2:(0:Int)<=(k:Int):=by omega
     have hnx:=I4 (l:=p.map bZ) (k:=k) (x:=bZ d) (by rw[jM,hd];rfl) [59,32];have hkl:=HLEN.out k;clear hdk;by_cases hk0:0<k
     ·rw[ah hk0]at hnx;have Xn:(0:Int)<(k:Int):=by omega
      have a0:=dI (joinL [59,32] ((p.map bZ).take k)) [59,32] (by simp;omega);obtain⟨cur,qY⟩:∃cur,joinL [59,32] ((p.map bZ).take k)++[59,32]=cur:=⟨_,rfl⟩;have hcl:cur.length<=90:=by rw[<-qY,bN];simp;omega
      have hf2:cur++[115]++[mW d.aD.toNat]=cur++joinL [32] ((bH d).take 1):=by rw[qy];simp
      rw[qY]at hnx a0;rw[<-YO.out]at a0;have lZ:=aa hnx;replace a0:∀w,(Op.stringOp .add yk ⟨#[59,32]⟩).run Tryz.prog w=.ok (.string (tx cur)) w:=a0;clear hnx hkl qY hk0;have HB:=aa hb;have Hy:=aa (λW=>mJ d.aD W hds.1 (by omega));rw[yG]at Hy;have a1:=dI cur [115] (by simp;omega);have a2:=dI (cur++[115]) [mW d.aD.toNat] (by simp;omega);rw[hf2]at a2;obtain⟨Ow,Fp⟩:∃y,tx cur=y:=⟨_,rfl⟩;obtain⟨y1,hy1⟩:∃y,tx (cur++[115])=y:=⟨_,rfl⟩;obtain⟨z1,hz1⟩:∃y,tx [mW d.aD.toNat]=y:=⟨_,rfl⟩;obtain⟨y2,hy2⟩:∃y,tx (cur++joinL [32] ((bH d).take 1))=y:=⟨_,rfl⟩;rw[Fp,hy1]at a1;rw[Fp]at a0;rw[hy1,hz1,hy2]at a2;rw[hz1]at Hy;replace a1:∀w,(Op.stringOp .add Ow ⟨#[115]⟩).run Tryz.prog w=.ok (.string y1) w:=a1;have Rh:=aa hy2;clear hcc hd hs hs4 NQ yG hf2 hy1 hz1 hy2 hb;go_wp2_with (first|(go_at_call 52;refine(HV.out _ HB.out).mono ?_;rintro e w1 ⟨rfl,b1⟩;have c0:=b1.cell c0;have c1:=b1.cell c1)|(go_at_call 53;refine(Hy.out _).mono ?_;rintro e w2 ⟨rfl,b2⟩))
      have TC:=aa (b2.cell c1);have HS2:=aa (HS.out.ext (b1.trans b2));have YJ:=aa (HB.out.trans (b1.trans b2));clear c0 c1 HB b1 b2;go_loopw [3,5] (λs i wr=>Ext w2 wr/\∃(j:Nat) (y:ByteArray),j<=d.steps.length/\i=.int .i64 (j:Int)/\s=.string y/\Hid (y=tx (cur++joinL [32] ((bH d).take (j+1))))) (λ_ i _=>d.steps.length-(intOf i).toNat)
      case atStart=>exact⟨af _,0,_,bR _,rfl,rfl,Rh.out.symm⟩
      case round=>
       obtain⟨hv,j,ys,hj,rfl,rfl,Ui⟩:=hrel;have d1:=hv.cell TC.out;by_cases hjt:j<d.steps.length
       ·obtain⟨A5,c5,e,hc4⟩:=HS2.out.ext hv;injection e with e1 e2 e3;subst e1 e3;obtain⟨b4,Su,rfl,TT,hc4⟩:=hc4 (by omega);obtain⟨o,ho⟩:=au hjt;have f0:=hc4 j o ho 0 (by omega);have f1:=hc4 j o ho 1 (by omega);have f2:=hc4 j o ho 2 (by omega);simp only[encOpr,gL]at f0 f1 f2;have hos:=fE HDK.out (aN ho);have hkey:=iO hos;have hkind:=jD hos;have hnk:dh o.key.toNat=[mW o.key.toNat]:=by unfold dh;rw[ah (by omega)]
        have hpl:=lJ HDK.out (j+1);obtain⟨X,hX⟩:∃X,cur++joinL [32] ((bH d).take (j+1))=X:=⟨_,rfl⟩;have UH:X.length<=200:=by rw[<-hX,bN];omega
        have Bp:X++[32]++[bu o]++dh o.key.toNat=cur++joinL [32] ((bH d).take (j+2)):=by rw[<-hX,rO ho,hnk];simp[kX]
        have XP:Hid (ys=tx X):=by show _ = _;rw[Ui.out,hX]
        have a1:=dI X [32] (by simp;omega);have a2:=dI (X++[32]) [bu o] (by simp;omega);have a3:=dI (X++[32]++[bu o]) (dh o.key.toNat) (by rw[hnk];simp;omega);rw[Bp]at a3;obtain⟨y1,hy1⟩:∃z,tx (X++[32])=z:=⟨_,rfl⟩;obtain⟨y2,hy2⟩:∃z,tx (X++[32]++[bu o])=z:=⟨_,rfl⟩;obtain⟨y3,hy3⟩:∃z,tx (cur++joinL [32] ((bH d).take (j+2)))=z:=⟨_,rfl⟩;have Ik:=aa (λW=>mJ o.key W hkey.1 (by omega));obtain⟨zk,KG⟩:∃z,tx (dh o.key.toNat)=z:=⟨_,rfl⟩;rw[KG]at Ik a3;rw[<-XP.out,hy1]at a1;rw[hy1,hy2]at a2;rw[hy2,hy3]at a3;replace a1:∀w,(Op.stringOp .add ys ⟨#[32]⟩).run Tryz.prog w=.ok (.string y1) w:=a1;have lZ:=aa hy3.symm;have HB2:=aa hv;have j1:(j:Int)<(d.steps.length:Int):=by omega
        have j2:(0:Int)<=(j:Int):=by omega
        obtain⟨kd,ky,vl⟩:=o;simp only at f0 f1 f2 Ik hkind;rcases hkind with hkind|hkind
        ·subst hkind;have a4:(⟨#[114,119]⟩:ByteArray).extract 0 1=tx [114]:=rfl;have WO:∀w,(Op.stringOp .add y1 (tx [114])).run Tryz.prog w=.ok (.string y2) w:=a2;clear a2;generalize tx [114]=zl at *;clear hc4 e2 ho hos hkey hnk hpl hX UH Bp hy1 hy2 hy3 KG hv hcl;have hw:IntKind.i64.wrap 0=0:=by decide
         go_wp2;have v0:(wr.alloc (.cells #[.int .i64 1,.int .i64 ky,.int .i64 vl] 67)).cell? ⟨wr.heap.size,0,none⟩=some (.int .i64 1):=az rfl;have v1:(wr.alloc (.cells #[.int .i64 1,.int .i64 ky,.int .i64 vl] 67)).cell? ⟨wr.heap.size,1,none⟩=some (.int .i64 ky):=az rfl;have v2:(wr.alloc (.cells #[.int .i64 1,.int .i64 ky,.int .i64 vl] 67)).cell? ⟨wr.heap.size,2,none⟩=some (.int .i64 vl):=az rfl;go_region_held3 (λW=>W.cell? ⟨wr.heap.size,0,none⟩=some (.int .i64 1)/\W.cell? ⟨wr.heap.size,1,none⟩=some (.int .i64 ky)/\W.cell? ⟨wr.heap.size,2,none⟩=some (.int .i64 vl)) (exact⟨by assumption,by assumption,by assumption⟩) ((go_at_call 53;refine(Ik.out _).mono ?_;rintro e w2 ⟨rfl,b2⟩;have x0:=b2.cell v0;have x1:=b2.cell v1;have x2:=b2.cell v2))
         go_wp2;go_roundw;case rel=>exact⟨HB2.out.trans (((af _).alloc _).drew.trans b2),j+1,_,by omega,by go_num,rfl,lZ.out⟩
         case measure=>simp[intOf];omega
        ·subst hkind;have a4:(⟨#[114,119]⟩:ByteArray).extract 1 2=tx [119]:=rfl;have WO:∀w,(Op.stringOp .add y1 (tx [119])).run Tryz.prog w=.ok (.string y2) w:=a2;clear a2;generalize tx [119]=zl at *;clear hc4 e2 ho hos hkey hnk hpl hX UH Bp hy1 hy2 hy3 KG hv hcl;have hw:IntKind.i64.wrap 1=1:=by decide
         go_wp2;have v0:(wr.alloc (.cells #[.int .i64 2,.int .i64 ky,.int .i64 vl] 67)).cell? ⟨wr.heap.size,0,none⟩=some (.int .i64 2):=az rfl;have v1:(wr.alloc (.cells #[.int .i64 2,.int .i64 ky,.int .i64 vl] 67)).cell? ⟨wr.heap.size,1,none⟩=some (.int .i64 ky):=az rfl;have v2:(wr.alloc (.cells #[.int .i64 2,.int .i64 ky,.int .i64 vl] 67)).cell? ⟨wr.heap.size,2,none⟩=some (.int .i64 vl):=az rfl;go_region_held3 (λW=>W.cell? ⟨wr.heap.size,0,none⟩=some (.int .i64 2)/\W.cell? ⟨wr.heap.size,1,none⟩=some (.int .i64 ky)/\W.cell? ⟨wr.heap.size,2,none⟩=some (.int .i64 vl)) (exact⟨by assumption,by assumption,by assumption⟩) ((go_at_call 53;refine(Ik.out _).mono ?_;rintro e w2 ⟨rfl,b2⟩;have x0:=b2.cell v0;have x1:=b2.cell v1;have x2:=b2.cell v2))
         go_wp2;go_roundw;case rel=>exact⟨HB2.out.trans (((af _).alloc _).drew.trans b2),j+1,_,by omega,by go_num,rfl,lZ.out⟩
         case measure=>simp[intOf];omega
       ·obtain rfl:j=d.steps.length:=by omega
        have WQ:Hid (ys=tx (joinL [59,32] ((p.map bZ).take (k+1)))):=by show _ = _;rw[Ui.out,jV,lZ.out]
        have Oj:=aa (YJ.out.trans hv);clear hv hcl;go_wp2;go_roundw;case rel=>exact⟨Oj.out,k+1,_,by omega,by go_num,rfl,WQ.out⟩
        case measure=>simp[intOf];omega
     ·rw[ak hk0]at hnx;have Xn:¬((0:Int)<(k:Int)):=by omega
      obtain⟨cur,qY⟩:∃cur,joinL [59,32] ((p.map bZ).take k)=cur:=⟨_,rfl⟩;have hcl:cur.length<=90:=by rw[<-qY];omega
      have hf2:cur++[115]++[mW d.aD.toNat]=cur++joinL [32] ((bH d).take 1):=by rw[qy];simp
      rw[qY]at hnx;have XG:=YO.out;rw[qY]at XG;have lZ:=aa hnx;clear hnx hkl qY hk0;have HB:=aa hb;have Hy:=aa (λW=>mJ d.aD W hds.1 (by omega));rw[yG]at Hy;have a1:=dI cur [115] (by simp;omega);have a2:=dI (cur++[115]) [mW d.aD.toNat] (by simp;omega);rw[hf2]at a2;obtain⟨Ow,Fp⟩:∃y,tx cur=y:=⟨_,rfl⟩;obtain⟨y1,hy1⟩:∃y,tx (cur++[115])=y:=⟨_,rfl⟩;obtain⟨z1,hz1⟩:∃y,tx [mW d.aD.toNat]=y:=⟨_,rfl⟩;obtain⟨y2,hy2⟩:∃y,tx (cur++joinL [32] ((bH d).take 1))=y:=⟨_,rfl⟩;rw[Fp,hy1]at a1;obtain rfl:Ow=yk:=(XG.trans Fp).symm;clear XG;rw[hy1,hz1,hy2]at a2;rw[hz1]at Hy;replace a1:∀w,(Op.stringOp .add Ow ⟨#[115]⟩).run Tryz.prog w=.ok (.string y1) w:=a1;have Rh:=aa hy2;clear hcc hd hs hs4 NQ yG hf2 hy1 hz1 hy2 hb;go_wp2_with (first|(go_at_call 52;refine(HV.out _ HB.out).mono ?_;rintro e w1 ⟨rfl,b1⟩;have c0:=b1.cell c0;have c1:=b1.cell c1)|(go_at_call 53;refine(Hy.out _).mono ?_;rintro e w2 ⟨rfl,b2⟩))
      have TC:=aa (b2.cell c1);have HS2:=aa (HS.out.ext (b1.trans b2));have YJ:=aa (HB.out.trans (b1.trans b2));clear c0 c1 HB b1 b2;go_loopw [3,5] (λs i wr=>Ext w2 wr/\∃(j:Nat) (y:ByteArray),j<=d.steps.length/\i=.int .i64 (j:Int)/\s=.string y/\Hid (y=tx (cur++joinL [32] ((bH d).take (j+1))))) (λ_ i _=>d.steps.length-(intOf i).toNat)
      case atStart=>exact⟨af _,0,_,bR _,rfl,rfl,Rh.out.symm⟩
      case round=>
       obtain⟨hv,j,ys,hj,rfl,rfl,Ui⟩:=hrel;have d1:=hv.cell TC.out;by_cases hjt:j<d.steps.length
       ·obtain⟨A5,c5,e,hc4⟩:=HS2.out.ext hv;injection e with e1 e2 e3;subst e1 e3;obtain⟨b4,Su,rfl,TT,hc4⟩:=hc4 (by omega);obtain⟨o,ho⟩:=au hjt;have f0:=hc4 j o ho 0 (by omega);have f1:=hc4 j o ho 1 (by omega);have f2:=hc4 j o ho 2 (by omega);simp only[encOpr,gL]at f0 f1 f2;have hos:=fE HDK.out (aN ho);have hkey:=iO hos;have hkind:=jD hos;have hnk:dh o.key.toNat=[mW o.key.toNat]:=by unfold dh;rw[ah (by omega)]
        have hpl:=lJ HDK.out (j+1);obtain⟨X,hX⟩:∃X,cur++joinL [32] ((bH d).take (j+1))=X:=⟨_,rfl⟩;have UH:X.length<=200:=by rw[<-hX,bN];omega
        have Bp:X++[32]++[bu o]++dh o.key.toNat=cur++joinL [32] ((bH d).take (j+2)):=by rw[<-hX,rO ho,hnk];simp[kX]
        have XP:Hid (ys=tx X):=by show _ = _;rw[Ui.out,hX]
        have a1:=dI X [32] (by simp;omega);have a2:=dI (X++[32]) [bu o] (by simp;omega);have a3:=dI (X++[32]++[bu o]) (dh o.key.toNat) (by rw[hnk];simp;omega);rw[Bp]at a3;obtain⟨y1,hy1⟩:∃z,tx (X++[32])=z:=⟨_,rfl⟩;obtain⟨y2,hy2⟩:∃z,tx (X++[32]++[bu o])=z:=⟨_,rfl⟩;obtain⟨y3,hy3⟩:∃z,tx (cur++joinL [32] ((bH d).take (j+2)))=z:=⟨_,rfl⟩;have Ik:=aa (λW=>mJ o.key W hkey.1 (by omega));obtain⟨zk,KG⟩:∃z,tx (dh o.key.toNat)=z:=⟨_,rfl⟩;rw[KG]at Ik a3;rw[<-XP.out,hy1]at a1;rw[hy1,hy2]at a2;rw[hy2,hy3]at a3;replace a1:∀w,(Op.stringOp .add ys ⟨#[32]⟩).run Tryz.prog w=.ok (.string y1) w:=a1;have lZ:=aa hy3.symm;have HB2:=aa hv;have j1:(j:Int)<(d.steps.length:Int):=by omega
        have j2:(0:Int)<=(j:Int):=by omega
        obtain⟨kd,ky,vl⟩:=o;simp only at f0 f1 f2 Ik hkind;rcases hkind with hkind|hkind
        ·subst hkind;have a4:(⟨#[114,119]⟩:ByteArray).extract 0 1=tx [114]:=rfl;have WO:∀w,(Op.stringOp .add y1 (tx [114])).run Tryz.prog w=.ok (.string y2) w:=a2;clear a2;generalize tx [114]=zl at *;clear hc4 e2 ho hos hkey hnk hpl hX UH Bp hy1 hy2 hy3 KG hv hcl;have hw:IntKind.i64.wrap 0=0:=by decide
         go_wp2;have v0:(wr.alloc (.cells #[.int .i64 1,.int .i64 ky,.int .i64 vl] 67)).cell? ⟨wr.heap.size,0,none⟩=some (.int .i64 1):=az rfl;have v1:(wr.alloc (.cells #[.int .i64 1,.int .i64 ky,.int .i64 vl] 67)).cell? ⟨wr.heap.size,1,none⟩=some (.int .i64 ky):=az rfl;have v2:(wr.alloc (.cells #[.int .i64 1,.int .i64 ky,.int .i64 vl] 67)).cell? ⟨wr.heap.size,2,none⟩=some (.int .i64 vl):=az rfl;go_region_held3 (λW=>W.cell? ⟨wr.heap.size,0,none⟩=some (.int .i64 1)/\W.cell? ⟨wr.heap.size,1,none⟩=some (.int .i64 ky)/\W.cell? ⟨wr.heap.size,2,none⟩=some (.int .i64 vl)) (exact⟨by assumption,by assumption,by assumption⟩) ((go_at_call 53;refine(Ik.out _).mono ?_;rintro e w2 ⟨rfl,b2⟩;have x0:=b2.cell v0;have x1:=b2.cell v1;have x2:=b2.cell v2))
         go_wp2;go_roundw;case rel=>exact⟨HB2.out.trans (((af _).alloc _).drew.trans b2),j+1,_,by omega,by go_num,rfl,lZ.out⟩
         case measure=>simp[intOf];omega
        ·subst hkind;have a4:(⟨#[114,119]⟩:ByteArray).extract 1 2=tx [119]:=rfl;have WO:∀w,(Op.stringOp .add y1 (tx [119])).run Tryz.prog w=.ok (.string y2) w:=a2;clear a2;generalize tx [119]=zl at *;clear hc4 e2 ho hos hkey hnk hpl hX UH Bp hy1 hy2 hy3 KG hv hcl;have hw:IntKind.i64.wrap 1=1:=by decide
         go_wp2;have v0:(wr.alloc (.cells #[.int .i64 2,.int .i64 ky,.int .i64 vl] 67)).cell? ⟨wr.heap.size,0,none⟩=some (.int .i64 2):=az rfl;have v1:(wr.alloc (.cells #[.int .i64 2,.int .i64 ky,.int .i64 vl] 67)).cell? ⟨wr.heap.size,1,none⟩=some (.int .i64 ky):=az rfl;have v2:(wr.alloc (.cells #[.int .i64 2,.int .i64 ky,.int .i64 vl] 67)).cell? ⟨wr.heap.size,2,none⟩=some (.int .i64 vl):=az rfl;go_region_held3 (λW=>W.cell? ⟨wr.heap.size,0,none⟩=some (.int .i64 2)/\W.cell? ⟨wr.heap.size,1,none⟩=some (.int .i64 ky)/\W.cell? ⟨wr.heap.size,2,none⟩=some (.int .i64 vl)) (exact⟨by assumption,by assumption,by assumption⟩) ((go_at_call 53;refine(Ik.out _).mono ?_;rintro e w2 ⟨rfl,b2⟩;have x0:=b2.cell v0;have x1:=b2.cell v1;have x2:=b2.cell v2))
         go_wp2;go_roundw;case rel=>exact⟨HB2.out.trans (((af _).alloc _).drew.trans b2),j+1,_,by omega,by go_num,rfl,lZ.out⟩
         case measure=>simp[intOf];omega
       ·obtain rfl:j=d.steps.length:=by omega
        have WQ:Hid (ys=tx (joinL [59,32] ((p.map bZ).take (k+1)))):=by show _ = _;rw[Ui.out,jV,lZ.out]
        have Oj:=aa (YJ.out.trans hv);clear hv hcl;go_wp2;go_roundw;case rel=>exact⟨Oj.out,k+1,_,by omega,by go_num,rfl,WQ.out⟩
        case measure=>simp[intOf];omega
    ·obtain rfl:k=p.length:=by omega
     have HFY:Hid (yk=z):=YO.out.trans HZ.out;go_wp2;go_returns;exact⟨fU (λy=>Ending.returned (.string y)) HFY.out,hb⟩
