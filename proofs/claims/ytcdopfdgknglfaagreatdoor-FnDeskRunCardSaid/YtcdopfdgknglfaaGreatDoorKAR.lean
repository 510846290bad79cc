/- Lemmas. -/
import Derived.Test.YtcdopfdgknglfaaGreatDoorKAO
import Derived.Test.YtcdopfdgknglfaaGreatDoorKAP
set_option maxHeartbeats 16000000
set_option maxRecDepth 8000
set_option linter.all false
namespace Go.Proofs.YtcdopfdgknglfaaGreatDoor
open Go.RowKit
theorem WW{t:aG}(h:dG t=true):(nk t).length<=100:=by
 have hl:=dF h
 have:=qd [32] 5 (dB t) (λw hw=>by
  unfold dB at hw;simp only[mM,fV]at hw;rcases hw with rfl|rfl|⟨o,_,rfl⟩
  ·simp
  ·split<;>simp
  ·exact vR o)
 unfold nk;simp only[dB,eO,dX,iJ]at this ⊢;omega
theorem Dv{v:Value}{h:List aG}(w:World)(H:iM w v h)(hok:aD h=true) :
 Calls Tryz.prog 100 #[v] w λe w'=>e=.returned (.string (tx (xm h)))/\Ext w w':=by
 obtain⟨A,c,rfl⟩:=H.slice;have hl:h.length<=6:=aR hok;have hM:∀t∈h,t.ops.length<=2097152:=λt ht=>by have:=dF (dH hok ht);omega
 have HH:=aa H;have HV:=aa (bZ w H (by omega) hM);have HT:=aa (λt (ht:t∈h)=>dH hok ht);rw[hok]at HV;have hmr:=jo (P:=Tryz.prog) 31 9 kY jG h.length (by omega) (by omega);clear H hok hM;go_enter Tryz.func100,Tryz.ntmps100;go_wp2_with (go_at_call 12;refine HV.out.mono ?_;rintro e w1 ⟨rfl,b1⟩)
 clear hmr;go_loopw [3,14] (λv i wr=>Ext w1 wr/\∃k:Nat,k<=h.length/\i=.int .i64 (k:Int)/\Hid (Row 9 1 encS w1.heap.size wr v ((h.take k).map nk))) (λ_ i _=>h.length-(intOf i).toNat)
 case atStart=>exact⟨(af _).alloc _,0,aT _,rfl,by show Row _ _ _ _ _ _ _;rw[aaD,kN];exact lC _ h.length (by unfold maxLen;omega) (by rw[size_madeCells,Nat.mul_one])⟩
 case round=>
  obtain⟨hb,k,hk,rfl,HR⟩:=hrel;by_cases hlt:k<h.length
  ·obtain⟨b',off',rfl,ru,hcc⟩:=((HH.out.ext b1).ext hb).head (by omega);obtain⟨t,ht⟩:=ah hlt;obtain⟨ov,c0,c1,c2,hs⟩:=hcc k t ht;obtain⟨A4,c4,rfl,_⟩:=id hs;have htk:=HT.out t (aM ht);have R8:=aa htk;have hol:=dF htk;have htt:jd t=nk t:=by rw[jd,aj htk]
   have HTT:=aa htt;obtain⟨zo,TE⟩:∃z,tx (jd t)=z:=⟨_,rfl⟩;have HZO:=aa TE;have HTX:=aa ht;have HC:=aa (BP t _ _ (hs.ext ((af wr).alloc (.cells #[.int .i64 t.az,.slice A4 t.ops.length c4,.bool t.done] 48))) (by omega));rw[TE]at HC;have hle:w1.heap.size<=wr.heap.size:=hb.size;clear hcc ht hs htk htt TE;go_wp2_with fail
   refine HC.out.mono ?_;rintro e w2 ⟨rfl,b2⟩;have hE2:Hid (Ext wr w2):=((af _).alloc _).trans b2;obtain⟨v',w3,hrun,hrow,hg⟩:=sJ (P:=Tryz.prog) (t:=31) (ty:=31) (e:=9) kY jG rfl (by omega) (HR.out.ext hE2.out) (nk t) (λ_=>rfl) (by rw[dX,eY];omega) (by omega) (aX hle hE2.out.size);have hce:(aH 1 encS (nk t)).toArray=#[.string zo]:=by rw[<-HZO.out,HTT.out];rfl
   rw[hce]at hrun hg;have bH:=aa hrun;have rA:=aa hrow;have NK:Hid (Ext w1 w3):=Ext.grown ((hb.trans hE2.out).alloc _) hg (λk hk=>(HR.out.ext hE2.out).block k hk);clear hrun hrow hg hce b2;go_wp2_with (at_builtin;refine wpList_append_run rfl rfl rfl rfl bH.out ?_)
   go_roundw;case rel=>exact⟨NK.out,k+1,by omega,by go_num,by rw[ak HTX.out,rR];exact rA.out⟩
   case measure=>simp[intOf];omega
  ·obtain rfl:k=h.length:=by omega
   obtain⟨A5,c5,rfl,_⟩:=HR.out.cell.1;have HR2:Hid (Row 9 1 encS w1.heap.size wr (.slice A5 ((h.take h.length).map nk).length c5) (h.map nk)):=by
    show Row _ _ _ _ _ _ _
    have:=HR.out
    rw[bM]at this ⊢;exact this
   generalize ((h.take h.length).map nk).length=n5 at HR2;have HJ:=aa (Jd [59,32] wr HR2.out.cell.1 HR2.out.cap (by rw[dX];omega) (λx hx=>by
    obtain⟨t,ht,rfl⟩:=fV.1 hx
    have:=WW (HT.out t ht)
    omega) (by simp))
   clear HR;go_wp2_with (go_at_call 51;refine HJ.out.mono ?_;rintro e w4 ⟨rfl,b4⟩)
   go_returns;exact⟨rfl,(b1.trans hb).trans b4⟩
theorem yz{d:fI}{j:Nat}{o:aV}(ho:d.steps[j]? =some o):joinL [32] ((dM d).take (j+2))=joinL [32] ((dM d).take (j+1))++[32]++mg o:=
 GN (by omega) (by simp[dM,ho]) _
theorem wu(d:fI):joinL [32] ((dM d).take 1)=[115,kX d.az.toNat]:=Eu (by simp[dM]) _
theorem nV(d:fI):joinL [32] ((dM d).take (d.steps.length+1))=fo d:=by rw[jX (by simp[dM])];rfl
theorem qj{d:fI}(h:dm d=true)(k:Nat):(joinL [32] ((dM d).take k)).length<=20:=by
 have hl:=iN h
 have:=qd [32] 2 ((dM d).take k) (λw hw=>by
  have:=oI hw
  unfold dM at this;simp only[mM,fV]at this;rcases this with rfl|⟨o,_,rfl⟩<;>simp[mg])
 have h2:((dM d).take k).length<=5:=by rw[eY];simp[dM];omega
 simp only[oN]at this;omega
theorem Kz{v:Value}{p:List fI}(w:World)(H:yV w v p)(hlen:p.length<=2097152)(hst:∀d∈p,d.steps.length<=2097152) :
 Calls Tryz.prog 18 #[v] w λe w'=>e=.returned (.string (tx (if eu p then jP p else [])))/\Ext w w':=by
 obtain⟨A,c,rfl⟩:=H.slice;have HH:=aa H;have HV:=aa (rT w H hlen hst);have hmr:=jo (P:=Tryz.prog) 31 9 kY jG p.length (by omega) (by omega);clear H hst
 cases hok:eu p with
 | false=>
   rw[hok]at HV;go_enter Tryz.func18,Tryz.ntmps18;go_wp2_with (go_at_call 48;refine HV.out.mono ?_;rintro e w1 ⟨rfl,b1⟩)
   go_returns;exact⟨rfl,b1⟩
 | true=>
   have hl:p.length<=4:=jW hok;have fu:=aa (λd (hd:d∈p)=>dO hok hd);rw[hok]at HV;have hgoal:Hid ((if true=true then jP p else [])=jP p):=by show _ = _;simp
   rw[hgoal.out];clear hok hgoal;go_enter Tryz.func18,Tryz.ntmps18;go_wp2_with (go_at_call 48;refine HV.out.mono ?_;rintro e w1 ⟨rfl,b1⟩)
   clear hmr;go_loopw [3,17] (λv i wr=>Ext w1 wr/\∃k:Nat,k<=p.length/\i=.int .i64 (k:Int)/\Hid (Row 9 1 encS w1.heap.size wr v ((p.take k).map fo))) (λ_ i _=>p.length-(intOf i).toNat)
   case atStart=>exact⟨(af _).alloc _,0,aT _,rfl,by show Row _ _ _ _ _ _ _;rw[aaD,kN];exact lC _ p.length (by unfold maxLen;omega) (by rw[size_madeCells,Nat.mul_one])⟩
   case round=>
    obtain⟨hb,k,hk,rfl,HR⟩:=hrel;by_cases hlt:k<p.length
    ·obtain⟨b',off',rfl,ru,hcc⟩:=((HH.out.ext b1).ext hb).head (by omega);obtain⟨d,hd⟩:=ah hlt;obtain⟨ov,c0,c1,hs⟩:=hcc k d hd;obtain⟨A4,c4,rfl,hs0⟩:=id hs;have hdk:=fu.out d (aM hd);have hdl:=iN hdk;have hds:=kD hdk;have HS:=aa hs;have HDK:=aa hdk;have HD:=aa hd;have G8:bT d.az.toNat=[kX d.az.toNat]:=by unfold bT;rw[aj (by omega)]
     have a0:∀w,(Op.stringOp .add ⟨#[115]⟩ (tx [kX d.az.toNat])).run Tryz.prog w=.ok (.string (tx (joinL [32] ((dM d).take 1)))) w:=by rw[wu];exact bX [115] [kX d.az.toNat] (by simp)
     obtain⟨z1,hz1⟩:∃z,tx [kX d.az.toNat]=z:=⟨_,rfl⟩;have HIT:=aa (λW=>sH d.az W hds.1 (by omega));rw[G8,hz1]at HIT;rw[hz1]at a0;have hle:w1.heap.size<=wr.heap.size:=hb.size;have HB:=aa hb;clear hcc hd hs hs0 hdk G8 hz1 hb;go_wp2_with (go_at_call 49;refine(HIT.out _).mono ?_;rintro e w' ⟨rfl,rfl⟩)
     clear HIT a0 c0 c1;have HE0:=aa ((af wr).alloc (.cells #[.int .i64 d.az,.slice A4 d.steps.length c4] 79));go_loopw [6,28] (λs i wv=>Ext wr wv/\∃(j:Nat) (y:ByteArray),j<=d.steps.length/\i=.int .i64 (j:Int)/\s=.string y/\Hid (y=tx (joinL [32] ((dM d).take (j+1))))) (λ_ i _=>d.steps.length-(intOf i).toNat)
     case atStart=>exact⟨HE0.out,0,_,aT _,rfl,rfl,rfl⟩
     case round=>
      obtain⟨hb,j,ys,hj,rfl,rfl,HY⟩:=hrel;by_cases hjt:j<d.steps.length
      ·obtain⟨A5,c5,e,hcc⟩:=HS.out.ext hb;injection e with e1 e2 e3;subst e1 e3;obtain⟨b5,agn,rfl,adS,hcc⟩:=hcc (by omega);obtain⟨o,ho⟩:=ah hjt;have d0:=hcc j o ho 0 (by omega);have d1:=hcc j o ho 1 (by omega);have d2:=hcc j o ho 2 (by omega);simp only[encOpr,fE]at d0 d1 d2;have hos:=gN HDK.out (aM ho);have hkey:=jy hos;have hnk:bT o.key.toNat=[kX o.key.toNat]:=by unfold bT;rw[aj (by omega)]
       have JU:joinL [32] ((dM d).take (j+1))++([32]++[bN o]++bT o.key.toNat)=joinL [32] ((dM d).take (j+2)):=by rw[yz ho,hnk];simp[mg]
       have hpl:=qj HDK.out (j+1);have a1:∀w,(Op.stringOp .add ⟨#[32]⟩ (tx [bN o])).run Tryz.prog w=.ok (.string (tx ([32]++[bN o]))) w:=bX [32] [bN o] (by simp);have a2:=bX ([32]++[bN o]) (bT o.key.toNat) (by rw[hnk];simp);have a3:=bX (joinL [32] ((dM d).take (j+1))) ([32]++[bN o]++bT o.key.toNat) (by rw[hnk];simp;omega);rw[JU,<-HY.out]at a3;obtain⟨kd,ky,vl⟩:=o;simp only at hkey d0 d1 d2;have Xa:=aa (λW=>I6 kd ky vl W);have HIT:=aa (λW=>sH ky W hkey.1 (by omega));obtain⟨y3,hy3⟩:∃z,tx (joinL [32] ((dM d).take (j+2)))=z:=⟨_,rfl⟩;rw[hy3]at a3;have jC:=aa hy3.symm;clear hy3;generalize tx ([32]++[bN ⟨kd,ky,vl⟩]++bT ky.toNat)=y2 at *;generalize tx ([32]++[bN ⟨kd,ky,vl⟩])=y1 at *;generalize tx (bT ky.toNat)=zk at *;generalize tx [bN ⟨kd,ky,vl⟩]=zl at *;have HB2:=aa hb;clear hcc ho e2 hos hkey hnk JU hpl hb;go_wp2;have v0:(wr.alloc (.cells #[.int .i64 kd,.int .i64 ky,.int .i64 vl] 67)).cell? ⟨wr.heap.size,0,none⟩=some (.int .i64 kd):=aF rfl;have v1:(wr.alloc (.cells #[.int .i64 kd,.int .i64 ky,.int .i64 vl] 67)).cell? ⟨wr.heap.size,1,none⟩=some (.int .i64 ky):=aF rfl;have v2:(wr.alloc (.cells #[.int .i64 kd,.int .i64 ky,.int .i64 vl] 67)).cell? ⟨wr.heap.size,2,none⟩=some (.int .i64 vl):=aF rfl;go_region_held3 (λW=>W.cell? ⟨wr.heap.size,0,none⟩=some (.int .i64 kd)/\W.cell? ⟨wr.heap.size,1,none⟩=some (.int .i64 ky)/\W.cell? ⟨wr.heap.size,2,none⟩=some (.int .i64 vl)) (exact⟨by assumption,by assumption,by assumption⟩) ((first|(go_at_call 50;refine(Xa.out _).mono ?_;rintro e w2 ⟨rfl,b2⟩;have x0:=b2.cell v0;have x1:=b2.cell v1;have x2:=b2.cell v2)|(go_at_call 49;refine(HIT.out _).mono ?_;rintro e w' ⟨rfl,rfl⟩)))
       go_wp2;go_roundw;case rel=>exact⟨HB2.out.trans (((af _).alloc _).drew.trans b2),j+1,_,by omega,by go_num,rfl,jC.out⟩
       case measure=>simp[intOf];omega
      ·obtain rfl:j=d.steps.length:=by omega
       rw[nV]at HY;have hln:=qj HDK.out (d.steps.length+1);rw[nV]at hln;have hce:(aH 1 encS (fo d)).toArray=#[.string ys]:=by rw[HY.out];rfl
       obtain⟨v',w3,hrun,hrow,hg⟩:=sJ (P:=Tryz.prog) (t:=31) (ty:=31) (e:=9) kY jG rfl (by omega) (HR.out.ext hb) (fo d) (λ_=>rfl) (by rw[dX,eY];omega) (by omega) (aX hle hb.size);rw[hce]at hrun hg;have bH:=aa hrun;have rA:=aa hrow;have NK:Hid (Ext w1 w3):=Ext.grown ((HB.out.trans hb).alloc _) hg (λk hk=>(HR.out.ext hb).block k hk);clear hrun hrow hg hce;go_wp2_with (at_builtin;refine wpList_append_run rfl rfl rfl rfl bH.out ?_)
       go_roundw;case rel=>exact⟨NK.out,k+1,by omega,by go_num,by rw[ak HD.out,rR];exact rA.out⟩
       case measure=>simp[intOf];omega
    ·obtain rfl:k=p.length:=by omega
     obtain⟨A5,c5,rfl,_⟩:=HR.out.cell.1;have HR2:Hid (Row 9 1 encS w1.heap.size wr (.slice A5 ((p.take p.length).map fo).length c5) (p.map fo)):=by
      show Row _ _ _ _ _ _ _
      have:=HR.out
      rw[bM]at this ⊢;exact this
     generalize ((p.take p.length).map fo).length=n5 at HR2;have HJ:=aa (Jd [59,32] wr HR2.out.cell.1 HR2.out.cap (by rw[dX];omega) (λx hx=>by
      obtain⟨d,hd,rfl⟩:=fV.1 hx
      have:=qj (fu.out d hd) (d.steps.length+1)
      rw[nV]at this
      omega) (by simp))
     clear HR;go_wp2_with (go_at_call 51;refine HJ.out.mono ?_;rintro e w4 ⟨rfl,b4⟩)
     go_returns;exact⟨rfl,(b1.trans hb).trans b4⟩
theorem mQ(W:World)(T:TypeId)(v:Value)(k:Nat)(hk:W.heap.size=k):Boxed (W.alloc (.cells #[v] T)) k T v:=hk▸Boxed.new W T v
theorem Jt{w0:World}{h:List aG}{hv:Value}{FB KB:Nat}(w:World)(H:iM w0 hv h)(hok:aD h=true)(hb:Ext w0 w)(hf:Boxed w FB 56 (.slice none 0 0))(hk:Boxed w KB 4 (.bool false))(hne:FB≠KB)(hlo:w0.heap.size<=FB/\w0.heap.size<=KB) :
 Calls Tryz.prog 172 #[hv,.func (.func 130) #[] #[],.func (.func 173) #[] #[.pointer (some ⟨FB,0,none⟩),.pointer (some ⟨KB,0,none⟩)]] w λe w'=>e=.returned (.tuple #[])/\Ext w0 w'/\∃bo,w0.heap.size<=bo /\
  (∀o,fM h=some o->Boxed w' KB 4 (.bool true)/\∃u,Boxed w' FB 56 u/\Row 3 1 (one jl) bo w' u o)/\(fM h=none->Boxed w' KB 4 (.bool false)/\Boxed w' FB 56 (.slice none 0 0)):=by
 obtain⟨Ah,ch,rfl⟩:=H.slice;have HH:=aa H;have fu:=aa hok;have hlen:=aR hok;have HB:=aa hb;have HF:=aa hf;have HK:=aa hk;have YC:=aa hf.lt;have HKL:=aa hk.lt;have hal:=lK h;have hmk:=jo (P:=Tryz.prog) 56 3 Mm dx (aN h).length (by omega) (by omega);have HMK:=aa hmk;clear H hok hb hf hk hmk;go_enter Tryz.func172,Tryz.ntmps172;go_wp2_with fail
 refine(uG _ (HH.out.ext (HB.out.trans ((((af w).alloc _).alloc _).alloc _))) (by omega)).mono ?_
 rintro e w1 ⟨CY,rfl,hrow,b1⟩;obtain⟨A,c,rfl,_⟩:=id hrow.cell.1;have rA:=aa hrow;have HB1:=aa b1;have hmk:=HMK.out;have hsf:∀(fn:Fn) (x y:Array Value) (a:Addr) (m:Mode) (W:World),(store a (.func fn x y) m).run Tryz.prog W=stored Tryz.prog W a (.func fn x y) m:=λfn x y a m W=>run_store Tryz.prog W a _ m rfl;clear hrow b1;go_wp2_with fail
 have hs1:w.heap.size+3<=w1.heap.size:=by have:=HB1.out.size;simp at this;omega
 have hFw:=YC.out;have hKw:=HKL.out;have h0w:=HB.out.size;have hAb:∀a n' c',(Value.slice A (aN h).length c)=.slice (some a) n' c'->0<n'->w.heap.size+3<=a.block/\a.block<w1.heap.size:=λa n' c' e hn=>by obtain⟨x1,x2,_⟩:=rA.out.cell.2 a n' c' e hn;simp at x1;exact⟨by omega,x2⟩
 have b2:Ext w1 ((((w1.alloc (.cells #[.slice A (aN h).length c] 56)).alloc (.cells (madeCells #[.int .i64 0] (aN h).length) 3)).alloc (.cells #[.slice (some ⟨w1.heap.size+1,0,none⟩) 0 (aN h).length] 56)).alloc (.cells #[.func (.func 211) #[] #[.pointer (some ⟨w1.heap.size+1+1,0,none⟩),.pointer (some ⟨w1.heap.size,0,none⟩),.pointer (some ⟨w.heap.size+1+1,0,none⟩),.pointer (some ⟨w.heap.size+1,0,none⟩),.pointer (some ⟨w.heap.size,0,none⟩),.pointer (some ⟨w1.heap.size+1+1+1,0,none⟩)]] 220)):=((((af w1).alloc _).alloc _).alloc _).alloc _;have hrm:=lC (w:=w1.alloc (.cells #[.slice A (aN h).length c] 56)) (E:=3) (m:=1) (enc:=one jl) (madeCells #[.int .i64 0] (aN h).length) (aN h).length (by unfold maxLen;omega) (by rw[Nat.mul_one];exact size_madeCells _ _);have hz1:(w1.alloc (.cells #[.slice A (aN h).length c] 56)).heap.size=w1.heap.size+1:=by simp
 rw[hz1]at hrm;have b0:Ext w (((w.alloc (.cells #[.slice Ah h.length ch] 23)).alloc (.cells #[.func (.func 130) #[] #[]] 143)).alloc (.cells #[.func (.func 173) #[] #[.pointer (some ⟨FB,0,none⟩),.pointer (some ⟨KB,0,none⟩)]] 189)):=(((af w).alloc _).alloc _).alloc _
 refine(Qk (w0:=w0) (h:=h) (all:=aN h) (hv:=.slice Ah h.length ch) (CY:=.slice A (aN h).length c) (fv:=.slice none 0 0) (OB:=w1.heap.size+1+1) (AB:=w1.heap.size) (CB:=w.heap.size+1+1) (WB:=w.heap.size+1) (HB:=w.heap.size) (SB:=w1.heap.size+1+1+1) (FB:=FB) (KB:=KB) (bo:=w1.heap.size+1) HH.out fu.out
  ⟨by omega,by omega,by omega,by omega,by omega,by omega,by omega,hne,by omega⟩ (λa n' c' e hn=>by have:=hAb a n' c' e hn;exact⟨by omega,by omega⟩) (λn hn=>(qg hn).1) (by omega) (aN h).length pU [] 0 (.slice (some ⟨w1.heap.size+1,0,none⟩) 0 (aN h).length) _ ?_ ?_ ?_ ?_ ?_ ?_ (λn=>by simp) (by omega) (by simp) ?_).mono ?_
 ·exact⟨HB.out.trans (b0.trans (HB1.out.trans b2)),((Boxed.new w1 _ _).alloc _).alloc _ |>.alloc _,aQ (aQ (mQ _ _ _ _ (by simp)) HB1.out) b2,aQ (aQ ((mQ _ _ _ _ (by simp)).alloc _) HB1.out) b2,aQ (aQ (((Boxed.new w _ _).alloc _).alloc _) HB1.out) b2,mQ _ _ _ _ (by simp)⟩
 ·exact rA.out.cell.1.ext b2
 ·exact(mQ _ _ _ _ (by simp)).alloc _
 ·exact hrm.ext (((af _).alloc _).alloc _)
 ·exact aQ (aQ (aQ HF.out b0) HB1.out) b2
 ·exact aQ (aQ (aQ HK.out b0) HB1.out) b2
 ·simp
 rintro e w2 ⟨hG,hP,hQ⟩;have RP:=aa (hG.out (HB.out.trans (b0.trans (HB1.out.trans b2))) (λi hx=>by
  rcases hx with hx|hx|hx|hx
  ·omega
  ·omega
  ·omega
  ·have:=hrm.block i hx;omega))
 have HP:=aa hP;have HQ:=aa hQ;have HS:=aa (show w0.heap.size<=w1.heap.size+1 by omega);have he:∃b,e=.returned (.bool b):=by
  cases hd:dfs h (aN h) (aN h).length pU [] with
  | some o=>exact⟨_,(hP o hd).1⟩
  | none=>exact⟨_,(hQ hd).1⟩
 obtain⟨bb,rfl⟩:=he;clear hG hP hQ b2 b0 hrm hz1 hAb hs1 hFw hKw h0w;go_wp2;go_returns;exact⟨rfl,RP.out,w1.heap.size+1,HS.out,λo ho=>(HP.out o ho).2,λhn=>(let ⟨_,a,b,_⟩:=HQ.out hn;⟨a,b⟩)⟩
def Dp(w:World)(r:Option (List Nat))(e:Ending)(w':World):Prop:=∃v,e=.returned (.tuple #[v,.bool r.isSome])/\aL 1 (one jl) w' v (r.getD [])/\Ext w w'
theorem EY{h:List aG}{hv:Value}(w:World)(H:iM w hv h)(hok:aD h=true) :
 Calls Tryz.prog 129 #[hv,.func (.func 130) #[] #[]] w (Dp w (fM h)):=by
 obtain⟨Ah,ch,rfl⟩:=H.slice;have HH:=aa H;have fu:=aa hok;have b0:Ext w ((w.alloc (.cells #[.slice none 0 0] 56)).alloc (.cells #[.bool false] 4)):=((af w).alloc _).alloc _;have hC:=Jt (w0:=w) (FB:=w.heap.size) (KB:=w.heap.size+1) _ H hok b0 ((Boxed.new w _ _).alloc _) (mQ _ _ _ _ (by simp)) (by omega) (by omega);obtain⟨R,hR⟩:∃R,fM h=R:=⟨_,rfl⟩;rw[hR]at hC ⊢;have HC:=aa hC;clear H hok b0 hR hC;go_enter Tryz.func129,Tryz.ntmps129;go_wp2_with fail
 refine HC.out.mono ?_;rintro e w1 ⟨rfl,b1,bo,NM,hP,hQ⟩
 cases R with
 | some o=>
   obtain⟨hk,u,hf,hr⟩:=hP o rfl;obtain⟨A,c,rfl,_⟩:=id hr.cell.1;have hcap:=hr.cap _ _ _ rfl;have HS:=aa hr.cell.1;have kf:=hf.cell;have kk:=hk.cell;clear hP hQ hk hf hr;go_wp2;go_region_held3 (λV=>V.cell? ⟨w.heap.size,0,none⟩=some (.slice A o.length c)/\V.cell? ⟨w.heap.size+1,0,none⟩=some (.bool true)) (exact⟨by assumption,by assumption⟩) ((go_at_call 167;refine(uZ A o.length c _ hcap).mono ?_;rintro e w2 ⟨rfl,rfl⟩;have q1:=(show w1.drew.cell? ⟨w.heap.size,0,none⟩ = _ from kf);have q2:=(show w1.drew.cell? ⟨w.heap.size+1,0,none⟩ = _ from kk)))
   go_wp2;go_returns;obtain⟨A',c',e,hc⟩:=HS.out.ext (af w1).drew;injection e with e1 e2 e3;subst e1;exact⟨_,rfl,⟨A,o.length,rfl,hc⟩,b1.drew⟩
 | none=>
   obtain⟨hk,hf⟩:=hQ rfl;have kf:=hf.cell;have kk:=hk.cell;clear hP hQ hk hf;go_wp2;go_region_held3 (λV=>V.cell? ⟨w.heap.size,0,none⟩=some (.slice none 0 0)/\V.cell? ⟨w.heap.size+1,0,none⟩=some (.bool false)) (exact⟨by assumption,by assumption⟩) ((go_at_call 167;refine(uZ none 0 0 _ (by omega)).mono ?_;rintro e w2 ⟨rfl,rfl⟩;have q1:=(show w1.drew.cell? ⟨w.heap.size,0,none⟩ = _ from kf);have q2:=(show w1.drew.cell? ⟨w.heap.size+1,0,none⟩ = _ from kk)))
   go_wp2;go_returns;exact⟨_,rfl,aL.nil _ _ _ _ _,b1.drew⟩
theorem Fa{h:List aG}{hv:Value}(w:World)(H:iM w hv h)(hok:aD h=true) :
 Calls Tryz.prog 97 #[hv] w (Dp w (fM h)):=by
 obtain⟨Ah,ch,rfl⟩:=H.slice;have HH:=aa H;have fu:=aa hok;have hlen:=aR hok;have HV:=aa (bZ _ H (by omega) (aJ hok));have HL:=aa hlen;clear H hok hlen;obtain⟨R,hR⟩:∃R,fM h=R:=⟨_,rfl⟩;have HR:=aa hR;rw[hR];clear hR;go_enter Tryz.func97,Tryz.ntmps97;go_wp2_with fail
 refine HV.out.mono ?_;rw[fu.out];rintro e w1 ⟨rfl,b1⟩;go_wp2_with fail
 refine(EY _ (HH.out.ext b1) fu.out).mono ?_
 rw[HR.out];rintro e w2 ⟨v,rfl,hs,b2⟩;have HS:=aa hs;obtain⟨A,c,rfl,_⟩:=id hs;clear hs;go_wp2;go_returns;exact⟨_,rfl,HS.out,b1.trans b2⟩
theorem Q5{v u:Value}{h:List aG}{ds:List Edge}(l:Nat)(w:World)(H:iM w v h)(hok:aD h=true)(hS:aL 3 aZ w u ds)(hds:ds.length<=144/\∀e∈ds,edgeOk h.length e)(hl4:l<=4) :
 Calls Tryz.prog 171 #[v,u,.int .i64 (l:Int)] w λe w'=>e=.returned (.bool (gP h ds l))/\Ext w w':=by
 obtain⟨A,c,rfl⟩:=H.slice;have HH:=aa H;have fu:=aa hok;have HS:=aa hS;have HD:=aa hds;have HL:=aa (aR hok);obtain⟨B,d,rfl,_⟩:=id hS;clear H hok hS hds;obtain⟨R,hR⟩:∃R,gP h ds l=R:=⟨_,rfl⟩;have HR:=aa hR;rw[hR];clear hR;go_enter Tryz.func171,Tryz.ntmps171;go_wp2;go_loopw [7] (λi wr=>Ext w wr/\∃k:Nat,k<=l/\i=.int .i64 ((k:Int)+1)/\Hid (oL ds k=false)) (λi _=>l+1-(intOf i).toNat)
 case atStart=>exact⟨af _,0,aT _,rfl,rfl⟩
 case round=>
  obtain⟨hb,k,hk,rfl,HK⟩:=hrel;by_cases hlt:k<l
  ·have hd:decide ((k:Int)+1<=(l:Int))=true:=by simp;omega
   have k0:(0:Int)<=(k:Int):=by omega
   have k5:(k:Int)<=4:=by omega
   obtain⟨t,ht⟩:∃t,fP ds ((k:Int)+1)=t:=⟨_,rfl⟩;have HT:=aa ht;clear ht;go_wp2_with fail
   refine(Fj h.length ((k:Int)+1) _ HL.out (HS.out.ext hb) HD.out.1 HD.out.2).mono ?_
   rw[HT.out];rintro e w1 ⟨rfl,b1⟩
   cases t with
   | true=>
     have hf:Hid (false=R):=by show _ = _;rw[<-HR.out];symm;unfold gP;rw[Lv (k:=k+1) (by omega) (by rw[xC,HT.out];simp)];rfl
     go_wp2;go_returns;exact⟨aS hf.out,hb.trans b1⟩
   | false=>
     have HN:Hid (oL ds (k+1)=false):=by show _ = _;rw[xC,HK.out,HT.out];rfl
     go_wp2;go_roundw;case rel=>exact⟨hb.trans b1,k+1,by omega,by go_num,HN.out⟩
     case measure=>simp[intOf];omega
  ·obtain rfl:k=l:=by omega
   have hd:decide ((k:Int)+1<=(k:Int))=false:=dU (by omega);by_cases h2:k<2
   ·have hd2:decide ((k:Int)<2)=true:=jw (by omega);have hf:Hid (true=R):=by show _ = _;rw[<-HR.out];symm;unfold gP;rw[HK.out];simp[h2]
    go_wp2;go_returns;exact⟨aS hf.out,hb⟩
   ·have hd2:decide ((k:Int)<2)=false:=dU (by omega);have hf:Hid (jc h=R):=by show _ = _;rw[<-HR.out];symm;unfold gP;rw[HK.out];simp[h2]
    go_wp2_with fail
    refine(FC _ (HH.out.ext hb) fu.out).mono ?_
    rintro e w1 ⟨rfl,b1⟩;go_wp2;go_returns;exact⟨aS hf.out,hb.trans b1⟩
theorem Na{v u:Value}{h:List aG}{os:List (List Int)}(w:World)(H:iM w v h)(hok:aD h=true)(hu:I2 w u os)(ho:lu h os) :
 Calls Tryz.prog 128 #[v,u] w λe w'=>e=.returned (.int .i64 (kZ h (dN h os):Int))/\Ext w w':=by
 obtain⟨A,c,rfl⟩:=H.slice;obtain⟨Au,cu,rfl,_⟩:=Ls.slice hu;have HH:=aa H;have fu:=aa hok;have HU:=aa hu;have HO:=aa ho;have HV:=aa (uR w H hok hu ho);clear H hok hu ho;obtain⟨R,hR⟩:∃R,kZ h (dN h os)=R:=⟨_,rfl⟩;have HR:=aa hR;rw[hR];clear hR;go_enter Tryz.func128,Tryz.ntmps128;go_wp2_with fail
 refine HV.out.mono ?_;rintro e w1 ⟨rfl,b1⟩;go_wp2_with fail
 refine(Nz _ (HH.out.ext b1) fu.out (Ls.ext HU.out (fT (T:=56) (by decide)) b1) HO.out).mono ?_
 rintro e w2 ⟨u',ds,rfl,hso,hds,b2⟩;have HE:=aa (Xw fu.out HO.out hso);have HLV:Hid (kZ h ds=R):=by show _ = _;rw[Pp (λx=>hso.1 x)];exact HR.out
 have HDS:=aa hds;obtain⟨Ad,cd,rfl,_⟩:=id hds;clear hds hso;have hb:=b1.trans b2;clear b1 b2;go_wp2;go_loopw [6] (λi wr=>Ext w wr/\Ext w2 wr/\∃k:Nat,k<=4/\i=.int .i64 k/\Hid (levelFrom h ds k=R)) (λi _=>(intOf i).toNat)
 case atStart=>exact⟨hb,af _,4,by omega,rfl,HLV.out⟩
 case round=>
  clear HLV hb;obtain⟨hb,hb2,k,hk,rfl,HK⟩:=hrel;have k0:(0:Int)<=(k:Int):=by omega
  have k5:(k:Int)<=4:=by omega
  obtain⟨t,ht⟩:∃t,gP h ds k=t:=⟨_,rfl⟩;have HT:=aa ht;clear ht;go_wp2_with fail
  refine(Q5 k _ (HH.out.ext hb) fu.out (HDS.out.ext hb2) HE.out hk).mono ?_
  rw[HT.out];rintro e w3 ⟨rfl,b3⟩
  cases t with
  | true=>
    have hf:Hid ((k:Int)=(R:Int)):=by show _ = _;rw[<-HK.out,zW HT.out]
    go_wp2;go_returns;exact⟨bU hf.out,hb.trans b3⟩
  | false=>
    obtain⟨j,rfl⟩:∃j,k=j+1:=by
     cases k with
     | zero=>exact absurd HT.out (by rw[Cx];decide)
     | succ j=>exact⟨j,rfl⟩
    have HN:Hid (levelFrom h ds j=R):=by show _ = _;rw[<-yt HT.out];exact HK.out
    go_wp2;go_roundw;case rel=>exact⟨hb.trans b3,hb2.trans b3,j,by omega,by go_num,HN.out⟩
    case measure=>simp[intOf]
theorem zH(h:List aG):(gJ h).length<=200:=by
 unfold gJ;split
 ·rename_i hh
  have:(bY h 3).length=jB h:=by rw[Ct,qY]
  omega
 ·simp
theorem Jr{v:Value}{h:List aG}(w:World)(H:iM w v h)(hok:aD h=true) :
 Calls Tryz.prog 95 #[v] w λe w'=>e=.returned (.int .i64 (tH h))/\Ext w w':=by
 obtain⟨A,c,rfl⟩:=H.slice;have HH:=aa H;have fu:=aa hok;have HA:=aa (Gx w H hok);have HM:=aa (λos (hm:os∈gJ h)=>Bt hm);clear H hok;have hn:=zH h;obtain⟨R,hR⟩:∃R,tH h=R:=⟨_,rfl⟩;have hR':=hR;unfold tH at hR';have HR:=aa hR';rw[hR];clear hR hR';obtain⟨l,hl⟩:∃l,gJ h=l:=⟨_,rfl⟩;have hR2:=HR.out;have hA:=HA.out;have hM:=HM.out;rw[hl]at hR2 hA hM hn;have HR2:=aa hR2;have HA2:=aa hA;have Uw:=aa hM;clear hl hR2 hA hM HR HA HM;go_enter Tryz.func95,Tryz.ntmps95;go_wp2_with fail
 refine HA2.out.mono ?_;rintro e w1 ⟨u,rfl,hu,b1⟩;obtain⟨Au,cu,rfl,_⟩:=Ls.slice hu;have HU:=aa hu;clear hu HA2;go_wp2;go_loopw [3,9] (λx i wr=>Ext w wr/\Ext w1 wr/\∃k:Nat,k<=l.length/\i=.int .i64 k/\x=.int .i64 (mJ h l k)) (λ_ i _=>l.length-(intOf i).toNat)
 case atStart=>exact⟨b1,af _,0,aT _,rfl,rfl⟩
 case round=>
  obtain⟨hb,hb1,k,hk,rfl,rfl⟩:=hrel;by_cases hlt:k<l.length
  ·obtain⟨b,off,rfl,hbl,hcell⟩:=Ls.cells HU.out (by omega);obtain⟨os,hos⟩:=ah hlt;obtain⟨uo,hc,hi⟩:=hcell k os hos;have c0:=hb1.cell hc;have HI:=aa (Ls.ext hi (fT (T:=56) (by decide)) hb1);obtain⟨Ao,co,rfl,_⟩:=Ls.slice hi;have HO:=aa (Uw.out os (aM hos));have HN:=aa (Ej (h:=h) hos);have hin:=KM h l k;obtain⟨z,hz⟩:∃z,mJ h l k=z:=⟨_,rfl⟩;have hN:=HN.out;rw[hz]at hin hN ⊢;have vT:=aa hN;clear hz hN HN hcell hc hos hi;go_wp2_with fail
   refine(Na _ (HH.out.ext hb) fu.out HI.out HO.out).mono ?_
   rintro e w2 ⟨rfl,b2⟩;have hlv:=yN h (dN h os);obtain⟨y,hy⟩:∃y,kZ h (dN h os)=y:=⟨_,rfl⟩;have hN:=vT.out;rw[hy]at hlv hN ⊢;have V6:=aa hN;clear hy hN vT;have y0:(0:Int)<=(y:Int):=by omega
   have y4:(y:Int)<=4:=by omega
   rcases Int.le_total z (y:Int) with UY|UY
   ·have hmx:Hid (mJ h l (k+1)=(y:Int)):=by show _ = _;rw[V6.out];omega
    go_wp2;go_roundw;case rel=>exact⟨hb.trans b2,hb1.trans b2,k+1,by omega,by go_num,by rw[hmx.out];simp;try omega⟩
    case measure=>simp[intOf];omega
   ·have hmx:Hid (mJ h l (k+1)=z):=by show _ = _;rw[V6.out];omega
    go_wp2;go_roundw;case rel=>exact⟨hb.trans b2,hb1.trans b2,k+1,by omega,by go_num,by rw[hmx.out];simp;try omega⟩
    case measure=>simp[intOf];omega
  ·obtain rfl:k=l.length:=by omega
   go_wp2;go_returns;exact⟨bU HR2.out,hb⟩
def mP(h:List aG):List UInt8:=if tH h<0 then DT else levL (tH h).toNat
def tellSerialR(h:List aG):List UInt8:=match fM h with
 | none=>DT
 | some ns=>Rm (numsL (ns.map λ(n:Nat)=>(n:Int)))
def uS(h:List aG):List UInt8:=Rm (xm h)
theorem Vj(h:List aG)(l:List (List (List Int))):∀m,-1<=mJ h l m/\mJ h l m<=4:=λm=>by
 unfold mJ;generalize l.take m=l;have key:∀(l:List (List (List Int))) (b:Int),-1<=b/\b<=4->-1<=l.foldl (λb os=>max b (kZ h (dN h os):Int)) b/\l.foldl (λb os=>max b (kZ h (dN h os):Int)) b<=4:=by
  intro l
  induction l with
  | nil=>intro b hb;exact hb
  | cons x l ih=>
    intro b hb;rw[uz];refine ih _ ?_
    have:=yN h (dN h x)
    omega
 exact key l (-1) (by omega)
theorem Qv(h:List aG):-1<=tH h/\tH h<=4:=Vj h _ _
theorem TY(h:List aG)(all:List Nat):∀(f:Nat) (s:j3) (order r:List Nat),dfs h all f s order=some r->r.length=order.length+f/\∀x∈r,x∈order∨x∈all
 | 0,s,order,r,e=>by cases e;exact⟨rfl,λx hx=>.inl hx⟩
 | f+1,s,order,r,e=>by
   rw[dfs]at e;obtain⟨n,hn,e⟩:=List.exists_of_findSome?_eq_some e;split at e
   ·cases e
   ·obtain⟨s',_,e⟩:=Option.bind_eq_some_iff.1 e;obtain⟨h1,h2⟩:=TY h all f s' _ r e;refine⟨by rw[h1,dw];simp;omega,λx hx=>?_⟩;rcases h2 x hx with h3|h3
    ·rcases iR.1 h3 with h4|h4
     ·exact .inl h4
     ·simp at h4;subst h4;exact .inr hn
    ·exact .inr h3
theorem xJ{h:List aG}{r:List Nat}(e:fM h=some r):r.length<=h.length/\∀x∈r,x<h.length:=by
 obtain⟨h1,h2⟩:=TY h _ _ _ _ _ e;refine⟨?_,λx hx=>?_⟩
 ·rw[h1]
  have:(aN h).length<=(List.range h.length).length:=mO _ _
  simpa using this
 ·rcases h2 x hx with h3|h3
  ·cases h3
  ·have:=(nT.1 h3).1
   simpa using this
def qI:List UInt8:=[108,101,118,101,108]
def nI:List UInt8:=[115,101,114,105,97,108]
def wM:List UInt8:=[116,101,120,116]
def Mo:List UInt8:=[112,117,116]
def Np:List UInt8:=[114,117,110]
def BF:List UInt8:=[100,114,111,112]
noncomputable def putR (h:List aG) (r:List UInt8):List aG × List UInt8:=match dQ r with
 | some t=>if aD (h++[t])=true then (h++[t],Fe) else (h,DT)
 | none=>(h,DT)
noncomputable def runD (h:List aG) (r:List UInt8):List aG × List UInt8:=match bL r with
 | some p=>(BV p,Fe)
 | none=>(h,DT)
def yA(h:List aG)(n:Nat):List aG × List UInt8:=if n<h.length then (om h n,Fe) else (h,DT)
noncomputable def deskR (h:List aG) (s:List UInt8):List aG × List UInt8:=
 if s=qI then (h,mP h) else if s=nI then (h,tellSerialR h) else if s=wM then (h,uS h)
 else if fD s=Mo/\eH s≠[] then putR h (eH s)
 else if fD s=Np/\eH s≠[] then runD h (eH s)
 else if fD s=BF then match eF (eH s) with
  | some n=>yA h n
  | none=>(h,nC)
 else (h,nC)
theorem PW{s:List UInt8}:(s=qI->fD s=qI)/\(s=nI->fD s=nI)/\(s=wM->fD s=wM):=by refine⟨?_,?_,?_⟩<;>(rintro rfl;decide)
theorem Nb{s:List UInt8}(h:fD s=Mo∨fD s=Np∨fD s=BF):s≠qI/\s≠nI/\s≠wM:=by
 obtain⟨h1,h2,h3⟩:=PW (s:=s);refine⟨λe=>?_,λe=>?_,λe=>?_⟩
 ·rw[h1 e]at h;revert h;decide
 ·rw[h2 e]at h;revert h;decide
 ·rw[h3 e]at h;revert h;decide
theorem KQ{h:List aG}{s:List UInt8}(hw:fD s=Mo)(hr:eH s≠[]):deskR h s=putR h (eH s):=by obtain⟨h1,h2,h3⟩:=Nb (.inl hw);rw[deskR,au h1,au h2,au h3,aj ⟨hw,hr⟩]
theorem LA{h:List aG}{s:List UInt8}(hw:fD s=Np)(hr:eH s≠[]):deskR h s=runD h (eH s):=by obtain⟨h1,h2,h3⟩:=Nb (.inr (.inl hw));rw[deskR,au h1,au h2,au h3,au (λe=>by rw[hw]at e;exact absurd e.1 (by decide)),aj ⟨hw,hr⟩]
theorem Jb{h:List aG}{s:List UInt8}{n:Nat}(hw:fD s=BF)(hr:eF (eH s)=some n):deskR h s=yA h n:=by obtain⟨h1,h2,h3⟩:=Nb (.inr (.inr hw));rw[deskR,au h1,au h2,au h3,au (λe=>by rw[hw]at e;exact absurd e.1 (by decide)),au (λe=>by rw[hw]at e;exact absurd e.1 (by decide)),aj hw,hr]
theorem ES(h:List aG):deskR h qI=(h,mP h):=aj rfl
theorem Cq(h:List aG):deskR h nI=(h,tellSerialR h):=by rw[deskR,au (by decide),aj rfl]
theorem GZ(h:List aG):deskR h wM=(h,uS h):=by rw[deskR,au (by decide),au (by decide),aj rfl]
theorem su{h:List aG}{s:List UInt8}(h1:s≠qI)(h2:s≠nI)(h3:s≠wM)(h4:¬(fD s=Mo/\eH s≠[]))(h5:¬(fD s=Np/\eH s≠[]))(h6:fD s=BF->eF (eH s)=none):deskR h s=(h,nC):=by
 rw[deskR,au h1,au h2,au h3,au h4,au h5];split
 ·rename_i hw;rw[h6 hw]
 ·rfl
theorem aam{h:List aG}(hok:aD h=true)(r:List UInt8):aD (putR h r).1=true:=by
 unfold putR;split
 ·split
  ·rename_i h';exact h'
  ·exact hok
 ·exact hok
theorem aao{h:List aG}(hok:aD h=true)(r:List UInt8):aD (runD h r).1=true:=by
 unfold runD;split
 ·rename_i p e;exact FY (kR.1 e).1
 ·exact hok
theorem XR{h:List aG}(hok:aD h=true)(n:Nat):aD (yA h n).1=true:=by
 unfold yA;split
 ·exact GQ hok n
 ·exact hok
theorem I5{h:List aG}(hok:aD h=true)(s:List UInt8):aD (deskR h s).1=true:=by
 unfold deskR
 repeat' split
 all_goals first
  | exact hok
  | exact aam hok _
  | exact aao hok _
  | exact XR hok _
noncomputable def eX (h:List aG) (ls:List (List UInt8)):List aG × List (List UInt8):=ls.foldl (λx l=>((deskR x.1 l).1,x.2++[(deskR x.1 l).2])) (h,[])
theorem xZ{h:List aG}{ls:List (List UInt8)}{k:Nat}{l:List UInt8}(hl:ls[k]? =some l):eX h (ls.take (k+1))=((deskR (eX h (ls.take k)).1 l).1,(eX h (ls.take k)).2++[(deskR (eX h (ls.take k)).1 l).2]):=by unfold eX;rw[ak hl,nL];rfl
theorem rO{h:List aG}(hok:aD h=true)(ls:List (List UInt8)):∀k,k<=ls.length->aD (eX h (ls.take k)).1=true/\(eX h (ls.take k)).2.length=k
 | 0,_=>⟨hok,rfl⟩
 | k+1,hk=>by obtain⟨l,hl⟩:=ah (show k<ls.length by omega);obtain⟨h1,h2⟩:=rO hok ls k (by omega);rw[xZ hl];exact⟨I5 h1 l,by simp[h2]⟩
theorem Kl{v:Value}{h:List aG}(w:World)(H:iM w v h)(hok:aD h=true) :
 Calls Tryz.prog 55 #[v] w λe w'=>e=.returned (.string (tx (mP h)))/\Ext w w':=by
 obtain⟨A,c,rfl⟩:=H.slice;have hb:=Qv h;have HB:=aa (Jr w H hok);have HT:Hid (mP h=if tH h<0 then DT else levL (tH h).toNat):=rfl;rw[HT.out];clear H hok HT;generalize tH h=b at *;by_cases h0:b<0
 ·rw[aj h0];go_enter Tryz.func55,Tryz.ntmps55;go_wp2_with (go_at_call 95;refine HB.out.mono ?_;rintro e w1 ⟨rfl,b1⟩)
  go_returns;exact⟨rfl,b1⟩
 ·rw[au h0];go_enter Tryz.func55,Tryz.ntmps55;go_wp2_with (first|(go_at_call 95;refine HB.out.mono ?_;rintro e w1 ⟨rfl,b1⟩)|(go_at_call 96;refine(Ik b _ (by omega) (by omega)).mono ?_;rintro e w2 ⟨rfl,b2⟩))
  go_returns;exact⟨rfl,b1.trans b2⟩
theorem Qe{w:World}{v:Value}{ns:List Nat}(h:aL 1 (one jl) w v ns):oZ encI w v (ns.map λ(n:Nat)=>(n:Int)):=by
 obtain⟨A,c,rfl,hc⟩:=h;refine⟨A,c,by rw[dX],λhn=>?_⟩;rw[dX]at hn;obtain⟨b,off,rfl,hbl,hc⟩:=hc hn;refine⟨b,off,rfl,hbl,λi x hx=>?_⟩;rw[jT]at hx;obtain⟨n,hn,rfl⟩:=kL.1 hx
 have:=hc i n hn 0 (by omega)
 simpa[one,jl,encI] using this
theorem Gp{v:Value}{h:List aG}(w:World)(H:iM w v h)(hok:aD h=true) :
 Calls Tryz.prog 56 #[v] w λe w'=>e=.returned (.string (tx (tellSerialR h)))/\Ext w w':=by
 obtain⟨A,c,rfl⟩:=H.slice;have HB:=aa (Fa w H hok);have hl:h.length<=6:=aR hok
 have HT:Hid (tellSerialR h=match fM h with
  | none=>DT
  | some ns=>Rm (numsL (ns.map λ(n:Nat)=>(n:Int)))):=rfl
 have HM:=aa (λr (e:fM h=some r)=>xJ e);rw[HT.out];clear H hok HT
 cases hf:fM h with
 | none=>
   rw[hf]at HB;go_enter Tryz.func56,Tryz.ntmps56;go_wp2_with (go_at_call 97;refine HB.out.mono ?_;rintro e w1 ⟨v1,rfl,s1,b1⟩)
   go_returns;exact⟨rfl,b1⟩
 | some ns=>
   rw[hf]at HB;have hm:=HM.out ns hf;have Uw:=aa hm;clear hf hm HM;go_enter Tryz.func56,Tryz.ntmps56;go_wp2_with (first|(go_at_call 97;refine HB.out.mono ?_;rintro e w1 ⟨v1,rfl,s1,b1⟩;have S1:=aa (Qe s1);clear s1)|(go_at_call 99;refine(DY _ S1.out (by rw[dX];have:=Uw.out.1;simp;omega) (λx hx=>by obtain⟨n,hn,rfl⟩:=fV.1 hx;have:=Uw.out.2 n hn;omega)).mono ?_;rintro e w2 ⟨rfl,b2⟩)|(go_at_call 98;refine(Es _ _).mono ?_;rintro e w' ⟨rfl,rfl⟩))
   go_returns;exact⟨rfl,b1.trans b2⟩
theorem Ns{v:Value}{h:List aG}(w:World)(H:iM w v h)(hok:aD h=true) :
 Calls Tryz.prog 57 #[v] w λe w'=>e=.returned (.string (tx (uS h)))/\Ext w w':=by
 obtain⟨A,c,rfl⟩:=H.slice;have HB:=aa (Dv w H hok);have HO:=aa (λW=>Es (xm h) W);have HT:Hid (uS h=Rm (xm h)):=rfl;rw[HT.out];clear H hok HT;generalize Rm (xm h)=oe at *;go_enter Tryz.func57,Tryz.ntmps57;go_wp2_with (first|(go_at_call 100;refine HB.out.mono ?_;rintro e w1 ⟨rfl,b1⟩)|(go_at_call 98;refine(HO.out _).mono ?_;rintro e w' ⟨rfl,rfl⟩))
 go_returns;exact⟨rfl,b1⟩
