/- Lemmas. -/
import Derived.Test.YtcdopfdgknglfaaGreatDoorCAK
import Derived.Test.YtcdopfdgknglfaaGreatDoorCAL
import Derived.Test.YtcdopfdgknglfaaGreatDoorCAR
set_option maxHeartbeats 16000000
set_option maxRecDepth 8000
set_option linter.all false
namespace Go.Proofs.YtcdopfdgknglfaaGreatDoor
open Go.RowKit
theorem Ms{t:aF}(h:eP t=true):(qF t).length<=100:=by
 have hl:=eY h
 have:=mY [32] 5 (gZ t) (λw hw=>by
  unfold gZ at hw;simp only[iC,dX]at hw;rcases hw with rfl|rfl|⟨o,_,rfl⟩
  ·simp
  ·split<;>simp
  ·exact JB o)
 unfold qF;simp only[gZ,eF,dF,jK]at this ⊢;omega
theorem vQ{v:Value}{h:List aF}(w:World)(H:lV w v h)(hok:aH h=true) :
 Calls Tryz.prog 100 #[v] w λe w'=>e=.returned (.string (tx (FW h)))/\Ext w w':=by
 obtain⟨A,c,rfl⟩:=H.slice;have hl:h.length<=6:=aT hok;have hM:∀t∈h,t.ops.length<=2097152:=λt ht=>by have:=eY (dW hok ht);omega
 have HH:=aa H;have HV:=aa (aZ w H (by omega) hM);have HT:=aa (λt (ht:t∈h)=>dW hok ht);rw[hok]at HV;have hmr:=fM (P:=Tryz.prog) 31 9 Tryz.underlying31 kG h.length (by omega) (by omega);clear H hok hM;go_enter Tryz.func100,Tryz.ntmps100;go_wp2_with (go_at_call 12;refine HV.out.mono ?_;rintro e w1 ⟨rfl,b1⟩)
 clear hmr;go_loopw [3,14] (λv i wr=>Ext w1 wr/\∃k:Nat,k<=h.length/\i=.int .i64 (k:Int)/\Hid (Row 9 1 encS w1.heap.size wr v ((h.take k).map qF))) (λ_ i _=>h.length-(intOf i).toNat)
 case atStart=>exact⟨(af _).alloc _,0,bR _,rfl,by show Row _ _ _ _ _ _ _;rw[rX,nH];exact iX _ h.length (by unfold maxLen;omega) (by rw[size_madeCells,Nat.mul_one])⟩
 case round=>
  obtain⟨hb,k,hk,rfl,HR⟩:=hrel;by_cases hlt:k<h.length
  ·obtain⟨b',off',rfl,DF,hcc⟩:=((HH.out.ext b1).ext hb).head (by omega);obtain⟨t,ht⟩:=au hlt;obtain⟨ov,c0,c1,c2,hs⟩:=hcc k t ht;obtain⟨A4,c4,rfl,_⟩:=id hs;have htk:=HT.out t (aN ht);have Sj:=aa htk;have hol:=eY htk;have Zu:jU t=qF t:=by rw[jU,ah htk]
   have Vi:=aa Zu;obtain⟨zo,R5⟩:∃z,tx (jU t)=z:=⟨_,rfl⟩;have Vt:=aa R5;have V6:=aa ht;have HC:=aa (uV t _ _ (hs.ext ((af wr).alloc (.cells #[.int .i64 t.aD,.slice A4 t.ops.length c4,.bool t.done] 48))) (by omega));rw[R5]at HC;have hle:w1.heap.size<=wr.heap.size:=hb.size;clear hcc ht hs htk Zu R5;go_wp2_with fail
   refine HC.out.mono ?_;rintro e w2 ⟨rfl,b2⟩;have hE2:Hid (Ext wr w2):=((af _).alloc _).trans b2;obtain⟨v',w3,hrun,hrow,hg⟩:=o9 (P:=Tryz.prog) (t:=31) (ty:=31) (e:=9) Tryz.underlying31 kG rfl (by omega) (HR.out.ext hE2.out) (qF t) (λ_=>rfl) (by rw[dF,ig];omega) (by omega) (aR hle hE2.out.size);have hce:(aG 1 encS (qF t)).toArray=#[.string zo]:=by rw[<-Vt.out,Vi.out];rfl
   rw[hce]at hrun hg;have cz:=aa hrun;have mI:=aa hrow;have GI:Hid (Ext w1 w3):=Ext.grown ((hb.trans hE2.out).alloc _) hg (λk hk=>(HR.out.ext hE2.out).block k hk);clear hrun hrow hg hce b2;go_wp2_with (at_builtin;refine wpList_append_run rfl rfl rfl rfl cz.out ?_)
   go_roundw;case rel=>exact⟨GI.out,k+1,by omega,by go_num,by rw[aj V6.out,j3];exact mI.out⟩
   case measure=>simp[intOf];omega
  ·obtain rfl:k=h.length:=by omega
   obtain⟨A5,c5,rfl,_⟩:=HR.out.cell.1;have HR2:Hid (Row 9 1 encS w1.heap.size wr (.slice A5 ((h.take h.length).map qF).length c5) (h.map qF)):=by
    show Row _ _ _ _ _ _ _
    have:=HR.out
    rw[bY]at this ⊢;exact this
   generalize ((h.take h.length).map qF).length=n5 at HR2;have HJ:=aa (yI [59,32] wr HR2.out.cell.1 HR2.out.cap (by rw[dF];omega) (λx hx=>by
    obtain⟨t,ht,rfl⟩:=dX.1 hx
    have:=Ms (HT.out t ht)
    omega) (by simp))
   clear HR;go_wp2_with (go_at_call 51;refine HJ.out.mono ?_;rintro e w4 ⟨rfl,b4⟩)
   go_returns;exact⟨rfl,(b1.trans hb).trans b4⟩
theorem rO{d:dZ}{j:Nat}{o:aJ}(ho:d.steps[j]? =some o):joinL [32] ((bH d).take (j+2))=joinL [32] ((bH d).take (j+1))++[32]++kX o:=
 AU (by omega) (by simp[bH,ho]) _
theorem qy(d:dZ):joinL [32] ((bH d).take 1)=[115,mW d.aD.toNat]:=wM (by simp[bH]) _
theorem jV(d:dZ):joinL [32] ((bH d).take (d.steps.length+1))=bZ d:=by rw[jZ (by simp[bH])];rfl
theorem lJ{d:dZ}(h:aY d=true)(k:Nat):(joinL [32] ((bH d).take k)).length<=20:=by
 have hl:=gK h
 have:=mY [32] 2 ((bH d).take k) (λw hw=>by
  have:=uA hw
  unfold bH at this;simp only[iC,dX]at this;rcases this with rfl|⟨o,_,rfl⟩<;>simp[kX])
 have h2:((bH d).take k).length<=5:=by rw[ig];simp[bH];omega
 simp only[nI]at this;omega
theorem sU{v:Value}{p:List dZ}(w:World)(H:vT w v p)(hlen:p.length<=2097152)(hst:∀d∈p,d.steps.length<=2097152) :
 Calls Tryz.prog 18 #[v] w λe w'=>e=.returned (.string (tx (if bJ p then dR p else [])))/\Ext w w':=by
 obtain⟨A,c,rfl⟩:=H.slice;have HH:=aa H;have HV:=aa (nL w H hlen hst);have hmr:=fM (P:=Tryz.prog) 31 9 Tryz.underlying31 kG p.length (by omega) (by omega);clear H hst
 cases hok:bJ p with
 | false=>
   rw[hok]at HV;go_enter Tryz.func18,Tryz.ntmps18;go_wp2_with (go_at_call 48;refine HV.out.mono ?_;rintro e w1 ⟨rfl,b1⟩)
   go_returns;exact⟨rfl,b1⟩
 | true=>
   have hl:p.length<=4:=jB hok;have jh:=aa (λd (hd:d∈p)=>cZ hok hd);rw[hok]at HV;have hgoal:Hid ((if true=true then dR p else [])=dR p):=by show _ = _;simp
   rw[hgoal.out];clear hok hgoal;go_enter Tryz.func18,Tryz.ntmps18;go_wp2_with (go_at_call 48;refine HV.out.mono ?_;rintro e w1 ⟨rfl,b1⟩)
   clear hmr;go_loopw [3,17] (λv i wr=>Ext w1 wr/\∃k:Nat,k<=p.length/\i=.int .i64 (k:Int)/\Hid (Row 9 1 encS w1.heap.size wr v ((p.take k).map bZ))) (λ_ i _=>p.length-(intOf i).toNat)
   case atStart=>exact⟨(af _).alloc _,0,bR _,rfl,by show Row _ _ _ _ _ _ _;rw[rX,nH];exact iX _ p.length (by unfold maxLen;omega) (by rw[size_madeCells,Nat.mul_one])⟩
   case round=>
    obtain⟨hb,k,hk,rfl,HR⟩:=hrel;by_cases hlt:k<p.length
    ·obtain⟨b',off',rfl,DF,hcc⟩:=((HH.out.ext b1).ext hb).head (by omega);obtain⟨d,hd⟩:=au hlt;obtain⟨ov,c0,c1,hs⟩:=hcc k d hd;obtain⟨A4,c4,rfl,hs0⟩:=id hs;have hdk:=jh.out d (aN hd);have hdl:=gK hdk;have hds:=iL hdk;have HS:=aa hs;have HDK:=aa hdk;have HD:=aa hd;have yG:dh d.aD.toNat=[mW d.aD.toNat]:=by unfold dh;rw[ah (by omega)]
     have a0:∀w,(Op.stringOp .add ⟨#[115]⟩ (tx [mW d.aD.toNat])).run Tryz.prog w=.ok (.string (tx (joinL [32] ((bH d).take 1)))) w:=by rw[qy];exact dI [115] [mW d.aD.toNat] (by simp)
     obtain⟨z1,hz1⟩:∃z,tx [mW d.aD.toNat]=z:=⟨_,rfl⟩;have HIT:=aa (λW=>nJ d.aD W hds.1 (by omega));rw[yG,hz1]at HIT;rw[hz1]at a0;have hle:w1.heap.size<=wr.heap.size:=hb.size;have HB:=aa hb;clear hcc hd hs hs0 hdk yG hz1 hb;go_wp2_with (go_at_call 49;refine(HIT.out _).mono ?_;rintro e w' ⟨rfl,rfl⟩)
     clear HIT a0 c0 c1;have RA:=aa ((af wr).alloc (.cells #[.int .i64 d.aD,.slice A4 d.steps.length c4] 79));go_loopw [6,28] (λs i wv=>Ext wr wv/\∃(j:Nat) (y:ByteArray),j<=d.steps.length/\i=.int .i64 (j:Int)/\s=.string y/\Hid (y=tx (joinL [32] ((bH d).take (j+1))))) (λ_ i _=>d.steps.length-(intOf i).toNat)
     case atStart=>exact⟨RA.out,0,_,bR _,rfl,rfl,rfl⟩
     case round=>
      obtain⟨hb,j,ys,hj,rfl,rfl,HY⟩:=hrel;by_cases hjt:j<d.steps.length
      ·obtain⟨A5,c5,e,hcc⟩:=HS.out.ext hb;injection e with e1 e2 e3;subst e1 e3;obtain⟨b5,aan,rfl,UQ,hcc⟩:=hcc (by omega);obtain⟨o,ho⟩:=au hjt;have d0:=hcc j o ho 0 (by omega);have d1:=hcc j o ho 1 (by omega);have d2:=hcc j o ho 2 (by omega);simp only[encOpr,gL]at d0 d1 d2;have hos:=fE HDK.out (aN ho);have hkey:=iO hos;have hnk:dh o.key.toNat=[mW o.key.toNat]:=by unfold dh;rw[ah (by omega)]
       have Bp:joinL [32] ((bH d).take (j+1))++([32]++[bu o]++dh o.key.toNat)=joinL [32] ((bH d).take (j+2)):=by rw[rO ho,hnk];simp[kX]
       have hpl:=lJ HDK.out (j+1);have a1:∀w,(Op.stringOp .add ⟨#[32]⟩ (tx [bu o])).run Tryz.prog w=.ok (.string (tx ([32]++[bu o]))) w:=dI [32] [bu o] (by simp);have a2:=dI ([32]++[bu o]) (dh o.key.toNat) (by rw[hnk];simp);have a3:=dI (joinL [32] ((bH d).take (j+1))) ([32]++[bu o]++dh o.key.toNat) (by rw[hnk];simp;omega);rw[Bp,<-HY.out]at a3;obtain⟨kd,ky,vl⟩:=o;simp only at hkey d0 d1 d2;have PT:=aa (λW=>yT kd ky vl W);have HIT:=aa (λW=>nJ ky W hkey.1 (by omega));obtain⟨y3,hy3⟩:∃z,tx (joinL [32] ((bH d).take (j+2)))=z:=⟨_,rfl⟩;rw[hy3]at a3;have lZ:=aa hy3.symm;clear hy3;generalize tx ([32]++[bu ⟨kd,ky,vl⟩]++dh ky.toNat)=y2 at *;generalize tx ([32]++[bu ⟨kd,ky,vl⟩])=y1 at *;generalize tx (dh ky.toNat)=zk at *;generalize tx [bu ⟨kd,ky,vl⟩]=zl at *;have HB2:=aa hb;clear hcc ho e2 hos hkey hnk Bp hpl hb;go_wp2;have v0:(wr.alloc (.cells #[.int .i64 kd,.int .i64 ky,.int .i64 vl] 67)).cell? ⟨wr.heap.size,0,none⟩=some (.int .i64 kd):=az rfl;have v1:(wr.alloc (.cells #[.int .i64 kd,.int .i64 ky,.int .i64 vl] 67)).cell? ⟨wr.heap.size,1,none⟩=some (.int .i64 ky):=az rfl;have v2:(wr.alloc (.cells #[.int .i64 kd,.int .i64 ky,.int .i64 vl] 67)).cell? ⟨wr.heap.size,2,none⟩=some (.int .i64 vl):=az rfl;go_region_held3 (λW=>W.cell? ⟨wr.heap.size,0,none⟩=some (.int .i64 kd)/\W.cell? ⟨wr.heap.size,1,none⟩=some (.int .i64 ky)/\W.cell? ⟨wr.heap.size,2,none⟩=some (.int .i64 vl)) (exact⟨by assumption,by assumption,by assumption⟩) ((first|(go_at_call 50;refine(PT.out _).mono ?_;rintro e w2 ⟨rfl,b2⟩;have x0:=b2.cell v0;have x1:=b2.cell v1;have x2:=b2.cell v2)|(go_at_call 49;refine(HIT.out _).mono ?_;rintro e w' ⟨rfl,rfl⟩)))
       go_wp2;go_roundw;case rel=>exact⟨HB2.out.trans (((af _).alloc _).drew.trans b2),j+1,_,by omega,by go_num,rfl,lZ.out⟩
       case measure=>simp[intOf];omega
      ·obtain rfl:j=d.steps.length:=by omega
       rw[jV]at HY;have hln:=lJ HDK.out (d.steps.length+1);rw[jV]at hln;have hce:(aG 1 encS (bZ d)).toArray=#[.string ys]:=by rw[HY.out];rfl
       obtain⟨v',w3,hrun,hrow,hg⟩:=o9 (P:=Tryz.prog) (t:=31) (ty:=31) (e:=9) Tryz.underlying31 kG rfl (by omega) (HR.out.ext hb) (bZ d) (λ_=>rfl) (by rw[dF,ig];omega) (by omega) (aR hle hb.size);rw[hce]at hrun hg;have cz:=aa hrun;have mI:=aa hrow;have GI:Hid (Ext w1 w3):=Ext.grown ((HB.out.trans hb).alloc _) hg (λk hk=>(HR.out.ext hb).block k hk);clear hrun hrow hg hce;go_wp2_with (at_builtin;refine wpList_append_run rfl rfl rfl rfl cz.out ?_)
       go_roundw;case rel=>exact⟨GI.out,k+1,by omega,by go_num,by rw[aj HD.out,j3];exact mI.out⟩
       case measure=>simp[intOf];omega
    ·obtain rfl:k=p.length:=by omega
     obtain⟨A5,c5,rfl,_⟩:=HR.out.cell.1;have HR2:Hid (Row 9 1 encS w1.heap.size wr (.slice A5 ((p.take p.length).map bZ).length c5) (p.map bZ)):=by
      show Row _ _ _ _ _ _ _
      have:=HR.out
      rw[bY]at this ⊢;exact this
     generalize ((p.take p.length).map bZ).length=n5 at HR2;have HJ:=aa (yI [59,32] wr HR2.out.cell.1 HR2.out.cap (by rw[dF];omega) (λx hx=>by
      obtain⟨d,hd,rfl⟩:=dX.1 hx
      have:=lJ (jh.out d hd) (d.steps.length+1)
      rw[jV]at this
      omega) (by simp))
     clear HR;go_wp2_with (go_at_call 51;refine HJ.out.mono ?_;rintro e w4 ⟨rfl,b4⟩)
     go_returns;exact⟨rfl,(b1.trans hb).trans b4⟩
theorem jo(W:World)(T:TypeId)(v:Value)(k:Nat)(hk:W.heap.size=k):Boxed (W.alloc (.cells #[v] T)) k T v:=hk▸Boxed.new W T v
theorem Bg{w0:World}{h:List aF}{hv:Value}{FB KB:Nat}(w:World)(H:lV w0 hv h)(hok:aH h=true)(hb:Ext w0 w)(hf:Boxed w FB 56 (.slice none 0 0))(hk:Boxed w KB 4 (.bool false))(hne:FB≠KB)(hlo:w0.heap.size<=FB/\w0.heap.size<=KB) :
 Calls Tryz.prog 172 #[hv,.func (.func 130) #[] #[],.func (.func 173) #[] #[.pointer (some ⟨FB,0,none⟩),.pointer (some ⟨KB,0,none⟩)]] w λe w'=>e=.returned (.tuple #[])/\Ext w0 w'/\∃bo,w0.heap.size<=bo /\
  (∀o,fQ h=some o->Boxed w' KB 4 (.bool true)/\∃u,Boxed w' FB 56 u/\Row 3 1 (one jE) bo w' u o)/\(fQ h=none->Boxed w' KB 4 (.bool false)/\Boxed w' FB 56 (.slice none 0 0)):=by
 obtain⟨Ah,ch,rfl⟩:=H.slice;have HH:=aa H;have jh:=aa hok;have hlen:=aT hok;have HB:=aa hb;have HF:=aa hf;have HK:=aa hk;have Za:=aa hf.lt;have HKL:=aa hk.lt;have hal:=jA h;have hmk:=fM (P:=Tryz.prog) 56 3 Tryz.underlying56 iI (aB h).length (by omega) (by omega);have X5:=aa hmk;clear H hok hb hf hk hmk;go_enter Tryz.func172,Tryz.ntmps172;go_wp2_with fail
 refine(pg _ (HH.out.ext (HB.out.trans ((((af w).alloc _).alloc _).alloc _))) (by omega)).mono ?_
 rintro e w1 ⟨wz,rfl,hrow,b1⟩;obtain⟨A,c,rfl,_⟩:=id hrow.cell.1;have mI:=aa hrow;have HB1:=aa b1;have hmk:=X5.out;have hsf:∀(fn:Fn) (x y:Array Value) (a:Addr) (m:Mode) (W:World),(store a (.func fn x y) m).run Tryz.prog W=stored Tryz.prog W a (.func fn x y) m:=λfn x y a m W=>run_store Tryz.prog W a _ m rfl;clear hrow b1;go_wp2_with fail
 have hs1:w.heap.size+3<=w1.heap.size:=by have:=HB1.out.size;simp at this;omega
 have hFw:=Za.out;have hKw:=HKL.out;have h0w:=HB.out.size;have hAb:∀a n' c',(Value.slice A (aB h).length c)=.slice (some a) n' c'->0<n'->w.heap.size+3<=a.block/\a.block<w1.heap.size:=λa n' c' e hn=>by obtain⟨x1,x2,_⟩:=mI.out.cell.2 a n' c' e hn;simp at x1;exact⟨by omega,x2⟩
 have b2:Ext w1 ((((w1.alloc (.cells #[.slice A (aB h).length c] 56)).alloc (.cells (madeCells #[.int .i64 0] (aB h).length) 3)).alloc (.cells #[.slice (some ⟨w1.heap.size+1,0,none⟩) 0 (aB h).length] 56)).alloc (.cells #[.func (.func 211) #[] #[.pointer (some ⟨w1.heap.size+1+1,0,none⟩),.pointer (some ⟨w1.heap.size,0,none⟩),.pointer (some ⟨w.heap.size+1+1,0,none⟩),.pointer (some ⟨w.heap.size+1,0,none⟩),.pointer (some ⟨w.heap.size,0,none⟩),.pointer (some ⟨w1.heap.size+1+1+1,0,none⟩)]] 220)):=((((af w1).alloc _).alloc _).alloc _).alloc _;have hrm:=iX (w:=w1.alloc (.cells #[.slice A (aB h).length c] 56)) (E:=3) (m:=1) (enc:=one jE) (madeCells #[.int .i64 0] (aB h).length) (aB h).length (by unfold maxLen;omega) (by rw[Nat.mul_one];exact size_madeCells _ _);have hz1:(w1.alloc (.cells #[.slice A (aB h).length c] 56)).heap.size=w1.heap.size+1:=by simp
 rw[hz1]at hrm;have b0:Ext w (((w.alloc (.cells #[.slice Ah h.length ch] 23)).alloc (.cells #[.func (.func 130) #[] #[]] 143)).alloc (.cells #[.func (.func 173) #[] #[.pointer (some ⟨FB,0,none⟩),.pointer (some ⟨KB,0,none⟩)]] 189)):=(((af w).alloc _).alloc _).alloc _
 refine(GG (w0:=w0) (h:=h) (all:=aB h) (hv:=.slice Ah h.length ch) (wz:=.slice A (aB h).length c) (fv:=.slice none 0 0) (OB:=w1.heap.size+1+1) (AB:=w1.heap.size) (CB:=w.heap.size+1+1) (WB:=w.heap.size+1) (HB:=w.heap.size) (SB:=w1.heap.size+1+1+1) (FB:=FB) (KB:=KB) (bo:=w1.heap.size+1) HH.out jh.out
  ⟨by omega,by omega,by omega,by omega,by omega,by omega,by omega,hne,by omega⟩ (λa n' c' e hn=>by have:=hAb a n' c' e hn;exact⟨by omega,by omega⟩) (λn hn=>(nE hn).1) (by omega) (aB h).length Dt [] 0 (.slice (some ⟨w1.heap.size+1,0,none⟩) 0 (aB h).length) _ ?_ ?_ ?_ ?_ ?_ ?_ (λn=>by simp) (by omega) (by simp) ?_).mono ?_
 ·exact⟨HB.out.trans (b0.trans (HB1.out.trans b2)),((Boxed.new w1 _ _).alloc _).alloc _ |>.alloc _,aC (aC (jo _ _ _ _ (by simp)) HB1.out) b2,aC (aC ((jo _ _ _ _ (by simp)).alloc _) HB1.out) b2,aC (aC (((Boxed.new w _ _).alloc _).alloc _) HB1.out) b2,jo _ _ _ _ (by simp)⟩
 ·exact mI.out.cell.1.ext b2
 ·exact(jo _ _ _ _ (by simp)).alloc _
 ·exact hrm.ext (((af _).alloc _).alloc _)
 ·exact aC (aC (aC HF.out b0) HB1.out) b2
 ·exact aC (aC (aC HK.out b0) HB1.out) b2
 ·simp
 rintro e w2 ⟨hG,hP,hQ⟩;have Jg:=aa (hG.out (HB.out.trans (b0.trans (HB1.out.trans b2))) (λi hx=>by
  rcases hx with hx|hx|hx|hx
  ·omega
  ·omega
  ·omega
  ·have:=hrm.block i hx;omega))
 have HP:=aa hP;have HQ:=aa hQ;have HS:=aa (show w0.heap.size<=w1.heap.size+1 by omega);have he:∃b,e=.returned (.bool b):=by
  cases hd:dfs h (aB h) (aB h).length Dt [] with
  | some o=>exact⟨_,(hP o hd).1⟩
  | none=>exact⟨_,(hQ hd).1⟩
 obtain⟨bb,rfl⟩:=he;clear hG hP hQ b2 b0 hrm hz1 hAb hs1 hFw hKw h0w;go_wp2;go_returns;exact⟨rfl,Jg.out,w1.heap.size+1,HS.out,λo ho=>(HP.out o ho).2,λhn=>(let ⟨_,a,b,_⟩:=HQ.out hn;⟨a,b⟩)⟩
def Mj(w:World)(r:Option (List Nat))(e:Ending)(w':World):Prop:=∃v,e=.returned (.tuple #[v,.bool r.isSome])/\aI 1 (one jE) w' v (r.getD [])/\Ext w w'
theorem xz{h:List aF}{hv:Value}(w:World)(H:lV w hv h)(hok:aH h=true) :
 Calls Tryz.prog 129 #[hv,.func (.func 130) #[] #[]] w (Mj w (fQ h)):=by
 obtain⟨Ah,ch,rfl⟩:=H.slice;have HH:=aa H;have jh:=aa hok;have b0:Ext w ((w.alloc (.cells #[.slice none 0 0] 56)).alloc (.cells #[.bool false] 4)):=((af w).alloc _).alloc _;have hC:=Bg (w0:=w) (FB:=w.heap.size) (KB:=w.heap.size+1) _ H hok b0 ((Boxed.new w _ _).alloc _) (jo _ _ _ _ (by simp)) (by omega) (by omega);obtain⟨R,hR⟩:∃R,fQ h=R:=⟨_,rfl⟩;rw[hR]at hC ⊢;have HC:=aa hC;clear H hok b0 hR hC;go_enter Tryz.func129,Tryz.ntmps129;go_wp2_with fail
 refine HC.out.mono ?_;rintro e w1 ⟨rfl,b1,bo,Eu,hP,hQ⟩
 cases R with
 | some o=>
   obtain⟨hk,u,hf,hr⟩:=hP o rfl;obtain⟨A,c,rfl,_⟩:=id hr.cell.1;have hcap:=hr.cap _ _ _ rfl;have HS:=aa hr.cell.1;have kf:=hf.cell;have kk:=hk.cell;clear hP hQ hk hf hr;go_wp2;go_region_held3 (λV=>V.cell? ⟨w.heap.size,0,none⟩=some (.slice A o.length c)/\V.cell? ⟨w.heap.size+1,0,none⟩=some (.bool true)) (exact⟨by assumption,by assumption⟩) ((go_at_call 167;refine(pO A o.length c _ hcap).mono ?_;rintro e w2 ⟨rfl,rfl⟩;have q1:=(show w1.drew.cell? ⟨w.heap.size,0,none⟩ = _ from kf);have q2:=(show w1.drew.cell? ⟨w.heap.size+1,0,none⟩ = _ from kk)))
   go_wp2;go_returns;obtain⟨A',c',e,hc⟩:=HS.out.ext (af w1).drew;injection e with e1 e2 e3;subst e1;exact⟨_,rfl,⟨A,o.length,rfl,hc⟩,b1.drew⟩
 | none=>
   obtain⟨hk,hf⟩:=hQ rfl;have kf:=hf.cell;have kk:=hk.cell;clear hP hQ hk hf;go_wp2;go_region_held3 (λV=>V.cell? ⟨w.heap.size,0,none⟩=some (.slice none 0 0)/\V.cell? ⟨w.heap.size+1,0,none⟩=some (.bool false)) (exact⟨by assumption,by assumption⟩) ((go_at_call 167;refine(pO none 0 0 _ (by omega)).mono ?_;rintro e w2 ⟨rfl,rfl⟩;have q1:=(show w1.drew.cell? ⟨w.heap.size,0,none⟩ = _ from kf);have q2:=(show w1.drew.cell? ⟨w.heap.size+1,0,none⟩ = _ from kk)))
   go_wp2;go_returns;exact⟨_,rfl,aI.nil _ _ _ _ _,b1.drew⟩
theorem xO{h:List aF}{hv:Value}(w:World)(H:lV w hv h)(hok:aH h=true) :
 Calls Tryz.prog 97 #[hv] w (Mj w (fQ h)):=by
 obtain⟨Ah,ch,rfl⟩:=H.slice;have HH:=aa H;have jh:=aa hok;have hlen:=aT hok;have HV:=aa (aZ _ H (by omega) (bD hok));have HL:=aa hlen;clear H hok hlen;obtain⟨R,hR⟩:∃R,fQ h=R:=⟨_,rfl⟩;have HR:=aa hR;rw[hR];clear hR;go_enter Tryz.func97,Tryz.ntmps97;go_wp2_with fail
 refine HV.out.mono ?_;rw[jh.out];rintro e w1 ⟨rfl,b1⟩;go_wp2_with fail
 refine(xz _ (HH.out.ext b1) jh.out).mono ?_
 rw[HR.out];rintro e w2 ⟨v,rfl,hs,b2⟩;have HS:=aa hs;obtain⟨A,c,rfl,_⟩:=id hs;clear hs;go_wp2;go_returns;exact⟨_,rfl,HS.out,b1.trans b2⟩
theorem DW(w:World)(T:TypeId)(xs:List Int)(c:Nat):mD encI (w.alloc (.cells (xs.map encI).toArray T)) (.slice (some ⟨w.heap.size,0,none⟩) xs.length c) xs:=
 ⟨_,_,rfl,λ_=>⟨w.heap.size,0,rfl,by simp,λi x hx=>by rw[kP];exact az (by simp[hx])⟩⟩
theorem tL(es:List Edge)(w:World)(hf:∀o,rowsOf es o<64) :
 Calls Tryz.prog 239 #[tu (rowsOf es)] w λe w'=>e=.returned (.bool (JE es))/\Ext w w':=I5 (rowsOf es) w hf
theorem xX{v:Value}{es:List Edge}(many:Nat)(kind:Int)(w:World)(hm:many<=6)(h:aI 3 bL w v es)(hl:es.length<=144)(hok:∀e∈es,edgeOk many e) :
 Calls Tryz.prog 209 #[.int .i64 (many:Int),v,.int .i64 kind] w λe w'=>e=.returned (.bool (dG es kind))/\Ext w w':=by
 have H6:=aa (λe he=>Jf hm (hok e he));have P8:=aa (λks x=>Cv (es:=bU es ks) (λe he=>H6.out e (lC.1 he).1) x);have HV:=aa (xC many w hm h hl hok);have HS:=aa h;obtain⟨A,c,rfl,hc0⟩:=id h;have HC:=aa hc0;have Vd:=aa hl;clear h hok hc0;by_cases k1:kind=1
 ·subst k1;have hf:Hid (dG es 1=JE (bU es [1])):=by show _ = _;simp[dG]
  rw[hf.out];clear hl;go_enter Tryz.func209,Tryz.ntmps209
  go_wp2_with (first
   | (go_at_call 237;refine HV.out.mono ?_;rintro e w1 ⟨rfl,b1⟩)
   | (go_at_call 238;refine(mR _ (HS.out.ext (b1.alloc _)) (DW w1 _ [1] 1) Vd.out (by decide) H6.out).mono ?_;rintro e w2 ⟨rfl,b2⟩)
   | (go_at_call 239;refine(tL _ _ (P8.out [1])).mono ?_;rintro e w3 ⟨rfl,b3⟩))
  go_returns;exact⟨rfl,(b1.alloc _).trans (b2.trans b3)⟩
 by_cases k2:kind=2
 ·subst k2;have hf:Hid (dG es 2=JE (bU es [1,2])):=by show _ = _;simp[dG]
  rw[hf.out];clear hl k1;go_enter Tryz.func209,Tryz.ntmps209
  go_wp2_with (first
   | (go_at_call 237;refine HV.out.mono ?_;rintro e w1 ⟨rfl,b1⟩)
   | (go_at_call 238;refine(mR _ (HS.out.ext (b1.alloc _)) (DW w1 _ [1,2] 2) Vd.out (by decide) H6.out).mono ?_;rintro e w2 ⟨rfl,b2⟩)
   | (go_at_call 239;refine(tL _ _ (P8.out [1,2])).mono ?_;rintro e w3 ⟨rfl,b3⟩))
  go_returns;exact⟨rfl,(b1.alloc _).trans (b2.trans b3)⟩
 by_cases k4:kind=4
 ·subst k4;have hf:Hid (dG es 4=JE (bU es [1,2,3])):=by show _ = _;simp[dG]
  rw[hf.out];clear hl k1 k2;go_enter Tryz.func209,Tryz.ntmps209
  go_wp2_with (first
   | (go_at_call 237;refine HV.out.mono ?_;rintro e w1 ⟨rfl,b1⟩)
   | (go_at_call 238;refine(mR _ (HS.out.ext (b1.alloc _)) (DW w1 _ [1,2,3] 3) Vd.out (by decide) H6.out).mono ?_;rintro e w2 ⟨rfl,b2⟩)
   | (go_at_call 239;refine(tL _ _ (P8.out [1,2,3])).mono ?_;rintro e w3 ⟨rfl,b3⟩))
  go_returns;exact⟨rfl,(b1.alloc _).trans (b2.trans b3)⟩
 by_cases k3:kind=3
 ·subst k3;have hf:Hid (dG es 3=es.any (oK es)):=by show _ = _;simp[dG]
  rw[hf.out];obtain⟨R,hR⟩:∃R,es.any (oK es)=R:=⟨_,rfl⟩;have HR:=aa hR;rw[hR];clear k1 k2 k4 hR hf;go_enter Tryz.func209,Tryz.ntmps209;go_wp2_with fail
  refine HV.out.mono ?_;rintro e w1 ⟨rfl,b1⟩;go_wp2_with fail
  refine(mR _ (HS.out.ext (b1.alloc _)) (DW w1 _ [1,2] 2) Vd.out (by decide) H6.out).mono ?_
  rintro e w2 ⟨rfl,b2⟩;go_wp2_with fail
  refine(Cq _ _ (P8.out [1,2])).mono ?_
  rintro e w3 ⟨rfl,b3⟩;have hG:=IV (P8.out [1,2]) 6;have Gb:Hid (∀x,oK es x=(x.kind==3&&(war (rowsOf (bU es [1,2])) 6 x.to.toNat).testBit x.iG.toNat)):=λx=>rfl;obtain⟨g,hg⟩:∃g,war (rowsOf (bU es [1,2])) 6=g:=⟨_,rfl⟩;have YI:=Gb.out;rw[hg]at hG YI ⊢;have HG:=aa hG;have HOW:=aa YI;clear hg hG YI Gb;unfold tu;have HZ:=aa (pF w3 g 241);have hb:=(b1.alloc (.cells #[.int .i64 1,.int .i64 2] 3)).trans (b2.trans b3);clear b1 b2 b3;go_wp2;go_loopw [35] (λi wr=>Ext w wr/\∃k:Nat,k<=es.length/\i=.int .i64 k/\Hid (Words wr w3.heap.size 6 g)/\Hid (∀(i:Nat) x,i<k->es[i]? =some x->oK es x=false)) (λi _=>es.length-(intOf i).toNat)
  case atStart=>exact⟨hb.alloc _,0,bR _,rfl,HZ.out,λ_ _ h=>absurd h (oF _)⟩
  case round=>
   clear HZ hb;obtain⟨hb,k,hk,rfl,HW,HK⟩:=hrel;by_cases hlt:k<es.length
   ·obtain⟨b,off,rfl,hbl,hcell⟩:=HC.out (by omega);obtain⟨x,hx⟩:=au hlt;have c0:=hb.cell (hcell k x hx 0 (by omega));have c1:=hb.cell (hcell k x hx 1 (by omega));have c2:=hb.cell (hcell k x hx 2 (by omega));simp only[bL,gL]at c0 c1 c2;have hxo:=H6.out x (aN hx);have Hx:=aa hx;obtain⟨xf,xt,xk⟩:=x;obtain⟨⟨UX,WI⟩,⟨Vv,Wn⟩,_,_,_⟩:=hxo;simp only at UX WI Vv Wn;obtain⟨p,rfl⟩:=iH UX;obtain⟨q,rfl⟩:=iH Vv;obtain⟨wo,rfl⟩:∃wo:World,wo=wr:=⟨_,rfl⟩;have HX:=aa ((af wo).alloc (.cells #[.int .i64 (p:Int),.int .i64 (q:Int),.int .i64 xk] 200));clear hcell hx;by_cases h3:xk=3
    ·subst h3;have d0:=HX.out.cell (HW.out.2 0 (by omega));have d1:=HX.out.cell (HW.out.2 1 (by omega));have d2:=HX.out.cell (HW.out.2 2 (by omega));have d3:=HX.out.cell (HW.out.2 3 (by omega));have d4:=HX.out.cell (HW.out.2 4 (by omega));have d5:=HX.out.cell (HW.out.2 5 (by omega));obtain⟨t,ht⟩:∃t,(g q).testBit p=t:=⟨_,rfl⟩;have HT:=aa ht;clear ht;go_wp2_with fail
     refine(JH g q p _ (by omega) (by omega) HG.out).mono ?_
     rw[HT.out];rintro e w4 ⟨rfl,b4⟩
     cases t with
     | true=>
       have hfin:Hid (true=R):=by show _ = _;rw[<-HR.out];symm;rw[gN];exact⟨_,aN Hx.out,by rw[HOW.out];simp[HT.out]⟩
       go_wp2;go_returns;exact⟨aU hfin.out,hb.trans (HX.out.trans b4)⟩
     | false=>
       clear d0 d1 d2 d3 d4 d5;go_wp2;go_roundw;case rel=>exact⟨hb.trans (HX.out.trans b4),k+1,by omega,by go_num,HW.out.ext (HX.out.trans b4),λi y hi hy=>by
        by_cases e:i=k
        ·subst e;rw[Hx.out]at hy;cases hy;rw[HOW.out];simp[HT.out]
        ·exact HK.out i y (by omega) hy⟩
       case measure=>simp[intOf];omega
    ·have hd:(xk==3)=false:=by simpa using h3
     go_wp2;go_roundw;case rel=>exact⟨hb.alloc _,k+1,by omega,by go_num,HW.out.ext HX.out,λi y hi hy=>by
      by_cases e:i=k
      ·subst e;rw[Hx.out]at hy;cases hy;rw[HOW.out];simp[hd]
      ·exact HK.out i y (by omega) hy⟩
     case measure=>simp[intOf];omega
   ·obtain rfl:k=es.length:=by omega
    have hfin:Hid (false=R):=by
     show _ = _;rw[<-HR.out];symm;rw[List.any_eq_false];intro x hx;obtain⟨i,hi,rfl⟩:=jw hx;rw[HK.out i _ hi (dz hi)]
     decide
    go_wp2;go_returns;exact⟨aU hfin.out,hb⟩
 ·have hf:Hid (dG es kind=false):=by show _ = _;simp[dG,k1,k2,k3,k4]
  rw[hf.out];have e1:(kind==1)=false:=by simpa using k1
  have e2:(kind==2)=false:=by simpa using k2
  have e3:(kind==3)=false:=by simpa using k3
  have e4:(kind==4)=false:=by simpa using k4
  clear hl;go_enter Tryz.func209,Tryz.ntmps209;go_wp2_with (go_at_call 237;refine HV.out.mono ?_;rintro e w1 ⟨rfl,b1⟩)
  go_returns;exact⟨rfl,b1⟩
theorem Hg{v u:Value}{h:List aF}{ds:List Edge}(l:Nat)(w:World)(H:lV w v h)(hok:aH h=true)(hS:aI 3 bL w u ds)(hds:ds.length<=144/\∀e∈ds,edgeOk h.length e)(hl4:l<=4) :
 Calls Tryz.prog 171 #[v,u,.int .i64 (l:Int)] w λe w'=>e=.returned (.bool (gJ h ds l))/\Ext w w':=by
 obtain⟨A,c,rfl⟩:=H.slice;have HH:=aa H;have jh:=aa hok;have HS:=aa hS;have HD:=aa hds;have HL:=aa (aT hok);obtain⟨B,d,rfl,_⟩:=id hS;clear H hok hS hds;obtain⟨R,hR⟩:∃R,gJ h ds l=R:=⟨_,rfl⟩;have HR:=aa hR;rw[hR];clear hR;go_enter Tryz.func171,Tryz.ntmps171;go_wp2;go_loopw [7] (λi wr=>Ext w wr/\∃k:Nat,k<=l/\i=.int .i64 ((k:Int)+1)/\Hid (lI ds k=false)) (λi _=>l+1-(intOf i).toNat)
 case atStart=>exact⟨af _,0,bR _,rfl,rfl⟩
 case round=>
  obtain⟨hb,k,hk,rfl,HK⟩:=hrel;by_cases hlt:k<l
  ·have hd:decide ((k:Int)+1<=(l:Int))=true:=by simp;omega
   have k0:(0:Int)<=(k:Int):=by omega
   have k5:(k:Int)<=4:=by omega
   obtain⟨t,ht⟩:∃t,dG ds ((k:Int)+1)=t:=⟨_,rfl⟩;have HT:=aa ht;clear ht;go_wp2_with fail
   refine(xX h.length ((k:Int)+1) _ HL.out (HS.out.ext hb) HD.out.1 HD.out.2).mono ?_
   rw[HT.out];rintro e w1 ⟨rfl,b1⟩
   cases t with
   | true=>
     have hf:Hid (false=R):=by show _ = _;rw[<-HR.out];symm;unfold gJ;rw[Lm (k:=k+1) (by omega) (by rw[lW,HT.out];simp)];rfl
     go_wp2;go_returns;exact⟨aU hf.out,hb.trans b1⟩
   | false=>
     have HN:Hid (lI ds (k+1)=false):=by show _ = _;rw[lW,HK.out,HT.out];rfl
     go_wp2;go_roundw;case rel=>exact⟨hb.trans b1,k+1,by omega,by go_num,HN.out⟩
     case measure=>simp[intOf];omega
  ·obtain rfl:k=l:=by omega
   have hd:decide ((k:Int)+1<=(k:Int))=false:=jW (by omega);by_cases h2:k<2
   ·have hd2:decide ((k:Int)<2)=true:=kQ (by omega);have hf:Hid (true=R):=by show _ = _;rw[<-HR.out];symm;unfold gJ;rw[HK.out];simp[h2]
    go_wp2;go_returns;exact⟨aU hf.out,hb⟩
   ·have hd2:decide ((k:Int)<2)=false:=jW (by omega);have hf:Hid (gP h=R):=by show _ = _;rw[<-HR.out];symm;unfold gJ;rw[HK.out];simp[h2]
    go_wp2_with fail
    refine(xH _ (HH.out.ext hb) jh.out).mono ?_
    rintro e w1 ⟨rfl,b1⟩;go_wp2;go_returns;exact⟨aU hf.out,hb.trans b1⟩
theorem Er{v u:Value}{h:List aF}{os:List (List Int)}(w:World)(H:lV w v h)(hok:aH h=true)(hu:I2 w u os)(ho:rE h os) :
 Calls Tryz.prog 128 #[v,u] w λe w'=>e=.returned (.int .i64 (gq h (aX h os):Int))/\Ext w w':=by
 obtain⟨A,c,rfl⟩:=H.slice;obtain⟨Au,cu,rfl,_⟩:=Ls.slice hu;have HH:=aa H;have jh:=aa hok;have HU:=aa hu;have HO:=aa ho;have HV:=aa (o7 w H hok hu ho);clear H hok hu ho;obtain⟨R,hR⟩:∃R,gq h (aX h os)=R:=⟨_,rfl⟩;have HR:=aa hR;rw[hR];clear hR;go_enter Tryz.func128,Tryz.ntmps128;go_wp2_with fail
 refine HV.out.mono ?_;rintro e w1 ⟨rfl,b1⟩;go_wp2_with fail
 refine(Du _ (HH.out.ext b1) jh.out (Ls.ext HU.out (gH (T:=56) (by decide)) b1) HO.out).mono ?_
 rintro e w2 ⟨u',ds,rfl,hso,hds,b2⟩;have HE:=aa (MU jh.out HO.out hso);have HLV:Hid (gq h ds=R):=by show _ = _;rw[FI (λx=>hso.1 x)];exact HR.out
 have Vn:=aa hds;obtain⟨Ad,cd,rfl,_⟩:=id hds;clear hds hso;have hb:=b1.trans b2;clear b1 b2;go_wp2;go_loopw [6] (λi wr=>Ext w wr/\Ext w2 wr/\∃k:Nat,k<=4/\i=.int .i64 k/\Hid (levelFrom h ds k=R)) (λi _=>(intOf i).toNat)
 case atStart=>exact⟨hb,af _,4,by omega,rfl,HLV.out⟩
 case round=>
  clear HLV hb;obtain⟨hb,hb2,k,hk,rfl,HK⟩:=hrel;have k0:(0:Int)<=(k:Int):=by omega
  have k5:(k:Int)<=4:=by omega
  obtain⟨t,ht⟩:∃t,gJ h ds k=t:=⟨_,rfl⟩;have HT:=aa ht;clear ht;go_wp2_with fail
  refine(Hg k _ (HH.out.ext hb) jh.out (Vn.out.ext hb2) HE.out hk).mono ?_
  rw[HT.out];rintro e w3 ⟨rfl,b3⟩
  cases t with
  | true=>
    have hf:Hid ((k:Int)=(R:Int)):=by show _ = _;rw[<-HK.out,oI HT.out]
    go_wp2;go_returns;exact⟨dH hf.out,hb.trans b3⟩
  | false=>
    obtain⟨j,rfl⟩:∃j,k=j+1:=by
     cases k with
     | zero=>exact absurd HT.out (by rw[Df];decide)
     | succ j=>exact⟨j,rfl⟩
    have HN:Hid (levelFrom h ds j=R):=by show _ = _;rw[<-qK HT.out];exact HK.out
    go_wp2;go_roundw;case rel=>exact⟨hb.trans b3,hb2.trans b3,j,by omega,by go_num,HN.out⟩
    case measure=>simp[intOf]
theorem BA(h:List aF):(gD h).length<=200:=by
 unfold gD;split
 ·rename_i hh
  have:(bq h 3).length=iP h:=by rw[uQ,pY]
  omega
 ·simp
theorem yY{v:Value}{h:List aF}(w:World)(H:lV w v h)(hok:aH h=true) :
 Calls Tryz.prog 95 #[v] w λe w'=>e=.returned (.int .i64 (nN h))/\Ext w w':=by
 obtain⟨A,c,rfl⟩:=H.slice;have HH:=aa H;have jh:=aa hok;have HA:=aa (zW w H hok);have HM:=aa (λos (hm:os∈gD h)=>D8 hm);clear H hok;have hn:=BA h;obtain⟨R,hR⟩:∃R,nN h=R:=⟨_,rfl⟩;have hR':=hR;unfold nN at hR';have HR:=aa hR';rw[hR];clear hR hR';obtain⟨l,hl⟩:∃l,gD h=l:=⟨_,rfl⟩;have hR2:=HR.out;have hA:=HA.out;have hM:=HM.out;rw[hl]at hR2 hA hM hn;have HR2:=aa hR2;have HA2:=aa hA;have Sb:=aa hM;clear hl hR2 hA hM HR HA HM;go_enter Tryz.func95,Tryz.ntmps95;go_wp2_with fail
 refine HA2.out.mono ?_;rintro e w1 ⟨u,rfl,hu,b1⟩;obtain⟨Au,cu,rfl,_⟩:=Ls.slice hu;have HU:=aa hu;clear hu HA2;go_wp2;go_loopw [3,9] (λx i wr=>Ext w wr/\Ext w1 wr/\∃k:Nat,k<=l.length/\i=.int .i64 k/\x=.int .i64 (jL h l k)) (λ_ i _=>l.length-(intOf i).toNat)
 case atStart=>exact⟨b1,af _,0,bR _,rfl,rfl⟩
 case round=>
  obtain⟨hb,hb1,k,hk,rfl,rfl⟩:=hrel;by_cases hlt:k<l.length
  ·obtain⟨b,off,rfl,hbl,hcell⟩:=Ls.cells HU.out (by omega);obtain⟨os,hos⟩:=au hlt;obtain⟨uo,hc,hi⟩:=hcell k os hos;have c0:=hb1.cell hc;have HI:=aa (Ls.ext hi (gH (T:=56) (by decide)) hb1);obtain⟨Ao,co,rfl,_⟩:=Ls.slice hi;have HO:=aa (Sb.out os (aN hos));have HN:=aa (EZ (h:=h) hos);have hin:=Kc h l k;obtain⟨z,hz⟩:∃z,jL h l k=z:=⟨_,rfl⟩;have hN:=HN.out;rw[hz]at hin hN ⊢;have sw:=aa hN;clear hz hN HN hcell hc hos hi;go_wp2_with fail
   refine(Er _ (HH.out.ext hb) jh.out HI.out HO.out).mono ?_
   rintro e w2 ⟨rfl,b2⟩;have hlv:=vL h (aX h os);obtain⟨y,hy⟩:∃y,gq h (aX h os)=y:=⟨_,rfl⟩;have hN:=sw.out;rw[hy]at hlv hN ⊢;have RU:=aa hN;clear hy hN sw;have y0:(0:Int)<=(y:Int):=by omega
   have y4:(y:Int)<=4:=by omega
   rcases Int.le_total z (y:Int) with KZ|KZ
   ·have hmx:Hid (jL h l (k+1)=(y:Int)):=by show _ = _;rw[RU.out];omega
    go_wp2;go_roundw;case rel=>exact⟨hb.trans b2,hb1.trans b2,k+1,by omega,by go_num,by rw[hmx.out];simp;try omega⟩
    case measure=>simp[intOf];omega
   ·have hmx:Hid (jL h l (k+1)=z):=by show _ = _;rw[RU.out];omega
    go_wp2;go_roundw;case rel=>exact⟨hb.trans b2,hb1.trans b2,k+1,by omega,by go_num,by rw[hmx.out];simp;try omega⟩
    case measure=>simp[intOf];omega
  ·obtain rfl:k=l.length:=by omega
   go_wp2;go_returns;exact⟨dH HR2.out,hb⟩
theorem Bt{v:Value}{h:List aF}(w:World)(H:lV w v h)(hok:aH h=true) :
 Calls Tryz.prog 55 #[v] w λe w'=>e=.returned (.string (tx (dV h)))/\Ext w w':=by
 obtain⟨A,c,rfl⟩:=H.slice;have hb:=FZ h;have HB:=aa (yY w H hok);have HT:Hid (dV h=if nN h<0 then Ev else levL (nN h).toNat):=rfl;rw[HT.out];clear H hok HT;generalize nN h=b at *;by_cases h0:b<0
 ·rw[ah h0];go_enter Tryz.func55,Tryz.ntmps55;go_wp2_with (go_at_call 95;refine HB.out.mono ?_;rintro e w1 ⟨rfl,b1⟩)
  go_returns;exact⟨rfl,b1⟩
 ·rw[ak h0];go_enter Tryz.func55,Tryz.ntmps55;go_wp2_with (first|(go_at_call 95;refine HB.out.mono ?_;rintro e w1 ⟨rfl,b1⟩)|(go_at_call 96;refine(y7 b _ (by omega) (by omega)).mono ?_;rintro e w2 ⟨rfl,b2⟩))
  go_returns;exact⟨rfl,b1.trans b2⟩
theorem NA{w:World}{v:Value}{ns:List Nat}(h:aI 1 (one jE) w v ns):mD encI w v (ns.map λ(n:Nat)=>(n:Int)):=by
 obtain⟨A,c,rfl,hc⟩:=h;refine⟨A,c,by rw[dF],λhn=>?_⟩;rw[dF]at hn;obtain⟨b,off,rfl,hbl,hc⟩:=hc hn;refine⟨b,off,rfl,hbl,λi x hx=>?_⟩;rw[jM]at hx;obtain⟨n,hn,rfl⟩:=qi.1 hx
 have:=hc i n hn 0 (by omega)
 simpa[one,jE,encI] using this
theorem Be{v:Value}{h:List aF}(w:World)(H:lV w v h)(hok:aH h=true) :
 Calls Tryz.prog 56 #[v] w λe w'=>e=.returned (.string (tx (tellSerialR h)))/\Ext w w':=by
 obtain⟨A,c,rfl⟩:=H.slice;have HB:=aa (xO w H hok);have hl:h.length<=6:=aT hok
 have HT:Hid (tellSerialR h=match fQ h with
  | none=>Ev
  | some ns=>QJ (numsL (ns.map λ(n:Nat)=>(n:Int)))):=rfl
 have HM:=aa (λr (e:fQ h=some r)=>Af e);rw[HT.out];clear H hok HT
 cases hf:fQ h with
 | none=>
   rw[hf]at HB;go_enter Tryz.func56,Tryz.ntmps56;go_wp2_with (go_at_call 97;refine HB.out.mono ?_;rintro e w1 ⟨v1,rfl,s1,b1⟩)
   go_returns;exact⟨rfl,b1⟩
 | some ns=>
   rw[hf]at HB;have hm:=HM.out ns hf;have Sb:=aa hm;clear hf hm HM;go_enter Tryz.func56,Tryz.ntmps56;go_wp2_with (first|(go_at_call 97;refine HB.out.mono ?_;rintro e w1 ⟨v1,rfl,s1,b1⟩;have S1:=aa (NA s1);clear s1)|(go_at_call 99;refine(wF _ S1.out (by rw[dF];have:=Sb.out.1;simp;omega) (λx hx=>by obtain⟨n,hn,rfl⟩:=dX.1 hx;have:=Sb.out.2 n hn;omega)).mono ?_;rintro e w2 ⟨rfl,b2⟩)|(go_at_call 98;refine(wU _ _).mono ?_;rintro e w' ⟨rfl,rfl⟩))
   go_returns;exact⟨rfl,b1.trans b2⟩
theorem CY{v:Value}{h:List aF}(w:World)(H:lV w v h)(hok:aH h=true) :
 Calls Tryz.prog 57 #[v] w λe w'=>e=.returned (.string (tx (rV h)))/\Ext w w':=by
 obtain⟨A,c,rfl⟩:=H.slice;have HB:=aa (vQ w H hok);have HO:=aa (λW=>wU (FW h) W);have HT:Hid (rV h=QJ (FW h)):=rfl;rw[HT.out];clear H hok HT;generalize QJ (FW h)=oe at *;go_enter Tryz.func57,Tryz.ntmps57;go_wp2_with (first|(go_at_call 100;refine HB.out.mono ?_;rintro e w1 ⟨rfl,b1⟩)|(go_at_call 98;refine(HO.out _).mono ?_;rintro e w' ⟨rfl,rfl⟩))
 go_returns;exact⟨rfl,b1⟩
