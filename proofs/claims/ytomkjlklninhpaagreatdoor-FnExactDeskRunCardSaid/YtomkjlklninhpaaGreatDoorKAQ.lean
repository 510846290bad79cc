/- Lemmas. -/
import Derived.Test.YtomkjlklninhpaaGreatDoorKAP
set_option maxHeartbeats 16000000
set_option maxRecDepth 8000
set_option linter.all false
namespace Go.Proofs.YtomkjlklninhpaaGreatDoor
open Go.RowKit
def Re(base M V VE KB BB:Nat)(pv:Value)(wr:World)(m:nP):Prop:=
 (∃hv rs,xJ base M pv wr hv rs m.h)/\TW 164 wr V 3 (fS m.vals)/\TW 164 wr VE 3 (fS m.cK)/\TW 165 wr KB 12 (fK m.kept)/\TW 165 wr BB 12 (fK m.began)
theorem Re.ext{base M V VE KB BB:Nat}{pv:Value}{w w':World}{m:nP}(h:Re base M V VE KB BB pv w m)(b:Ext w w'):Re base M V VE KB BB pv w' m:=
 let ⟨⟨hv,rs,h1⟩,h2,h3,h4,h5⟩:=h
 ⟨⟨hv,rs,h1.ext b⟩,h2.ext b,h3.ext b,h4.ext b,h5.ext b⟩
theorem U7(f:Nat->iV)(n:Nat)(s:iV)(o:Nat):fK (uO f n s) o=if o/3=n then s ((o%3:Nat):Int) else fK f o:=by
 unfold fK uO
 split<;>rfl
theorem TW.ac4{T:TypeId}{w:World}{g N j:Nat}{f f':Nat->Int}{a b c:Int}(h:TW T w g N f)(hj:j+2<N)(h0:f' j=a)(h1:f' (j+1)=b)(h2:f' (j+2)=c)(hf:∀o,o≠j->o≠j+1->o≠j+2->f' o=f o) :
 TW T (((w.setCell ⟨g,j,none⟩ (.int .i64 a)).setCell ⟨g,j+1,none⟩ (.int .i64 b)).setCell ⟨g,j+2,none⟩ (.int .i64 c)) g N f':=by
 have s1:=h.set (j:=j) (f':=fun o=>if o=j then a else f o) (by omega) (fun o ho=>by simp[ho]);have s2:=s1.set (j:=j+1) (f':=fun o=>if o=j+1 then b else if o=j then a else f o) (by omega) (fun o ho=>by simp[ho]);have s3:=s2.set (j:=j+2) (f':=f') (by omega) (fun o ho=>by
  by_cases e1:o=j+1
  ·subst e1;simp[h1]
  ·by_cases e0:o=j
   ·subst e0;simp[h0]
   ·simp[e1,e0,hf o e0 e1 ho])
 simp only[if_pos,h2]at s3;exact s3
theorem TW.frX{T:TypeId}{X:Nat->Prop}{w w':World}{g N:Nat}{f:Nat->Int}(h:TW T w g N f)(b:bH X w w')(hx:¬X g):TW T w' g N f:=by obtain⟨cs,h1,h2,h3⟩:=h;exact⟨cs,b.heap h1 hx,h2,h3⟩
theorem xJ.far{base M:Nat}{pv hv:Value}{W:World}{rs:List iX}{h:List aA}(H:xJ base M pv W hv rs h){T:TypeId}{g N:Nat}{f:Nat->Int}(hT:TW T W g N f)(h1:T≠168)(h2:T≠48)(h3:T≠71):¬aby M hv rs g:=fun hx=>by
 obtain⟨cs,hg,_⟩:=hT;rcases hx with e|⟨a,n,c,e,hn,ea⟩|⟨i,r,hr,e⟩
 ·subst e;rw[H.mb]at hg;injection hg with hg;injection hg with _ e _;exact h1 e.symm
 ·obtain⟨cs',fr,hg'⟩:=H.hi a n c e hn;rw[ea,hg]at hg';injection hg' with hg';injection hg' with _ e _;exact h2 e
 ·obtain⟨t,ht⟩:=af (show i<h.length by rw[<-H.hl];exact(List.getElem?_eq_some_iff.1 hr).1);obtain⟨cs',hg'⟩:=dA (H.rows i r t hr ht).2.2 e;rw[hg]at hg';injection hg' with hg';injection hg' with _ e _;exact h3 e
theorem xJ.lt{base M:Nat}{pv hv:Value}{W:World}{rs:List iX}{h:List aA}(H:xJ base M pv W hv rs h){i:Nat}(hi:aby M hv rs i):i<W.heap.size:=by
 rcases hi with e|⟨a,n,c,e,hn,ea⟩|⟨j,r,hr,e⟩
 ·subst e
  exact(Array.getElem?_eq_some_iff.1 H.mb).1
 ·rw[<-ea]
  exact(H.ho a n c e hn).2.1
 ·obtain⟨t,ht⟩:=af (show j<h.length by rw[<-H.hl];exact(List.getElem?_eq_some_iff.1 hr).1)
  exact(iU (H.rows j r t hr ht).2.2 e).2
theorem Re.last{base M V VE KB BB:Nat}{pv hv:Value}{w:World}{rs:List iX}{m1:nP}{v u:iV}(hM:xJ base M pv w hv rs m1.h)(h2:TW 164 w V 3 (fS v))(h3:TW 164 w VE 3 (fS u))(h4:TW 165 w KB 12 (fK m1.kept))(h5:TW 165 w BB 12 (fK m1.began)) :
 Re base M V VE KB BB pv w { m1 with vals:=v,cK:=u }:=⟨⟨hv,rs,hM⟩,h2,h3,h4,h5⟩
theorem zO{pv u:Value}{p:List eH}(w:World)(HP:xZ w pv p)(hp:dQ p=true)(hx:rM encI w u ((dF p.length).map fun n:Nat=>(n:Int))) :
 Calls Tryz.prog 103 #[pv,u] w (qj w (AY p)):=by
 have R6:=jF hp;obtain⟨A,c,rfl⟩:=HP.slice;have hxl:((dF p.length).map fun n:Nat=>(n:Int)).length<=16:=by rw[List.length_map,Fv];omega
 have HR:=aa (J9 w HP hp hx (by omega) (fun n hn=>by
  obtain⟨q,hq,rfl⟩:=List.mem_map.1 hn
  have:=rY hq
  omega))
 obtain⟨Au,cu,rfl,hx0⟩:=id hx;have hx1:0<(dF p.length).length->∃b off,Au=some ⟨b,off,none⟩/\b<w.heap.size/\∀(i:Nat) (n:Nat),(dF p.length)[i]? =some n->w.cell? ⟨b,off+i,none⟩=some (.int .i64 (n:Int)):=fun h0=>by obtain⟨b,off,e,hb,hc⟩:=hx0 (by rw[List.length_map];exact h0);exact⟨b,off,e,hb,fun i n hn=>hc i (n:Int) (by simp[hn])⟩
 rw[List.length_map]at hxl;have hlm:((dF p.length).map fun n:Nat=>(n:Int)).length=(dF p.length).length:=List.length_map _;rw[hlm]at HR ⊢;have UW:Hid (∀k n,(dF p.length)[k]? =some n->bJ p (k+1)=kR p (bJ p k) n/\n<p.length):=fun k n hn=>⟨l6 hn,rY (List.mem_of_getElem? hn)⟩;have ZK:Hid (bJ p (dF p.length).length=bJ p (dF p.length).length/\(bJ p (dF p.length).length).h=AY p):=⟨rfl,rfl⟩;have Z4:Hid (∀k,k<=(dF p.length).length->mZ p (bJ p k)/\(∀(i:Nat) t d,(bJ p k).h[i]? =some t->p[i]? =some d->t.ops.length<d.steps.length->t.done=false)/\∀x,0<=(bJ p k).cK x/\(bJ p k).cK x<=3*(k:Int)):=fun k hk=>⟨F7 hp k hk,Hy k hk,Qw k hk⟩;obtain⟨xs,hxs⟩:∃xs,dF p.length=xs:=⟨_,rfl⟩;have hHR:=HR.out;have hRT:=UW.out;have Wy:=ZK.out;have hRK:=Z4.out;rw[hxs]at hxl hx1 hHR hRT Wy hRK ⊢;replace HR:=aa hHR;replace UW:=aa hRT;replace ZK:=aa Wy;replace Z4:=aa hRK;clear hlm hxs hHR hRT Wy hRK;have Nc:=aa hp;have FO:=aa HP;have HX0:=aa hx1;clear hp hx hx0 hx1;obtain⟨R,hR⟩:∃R,AY p=R:=⟨_,rfl⟩;have HRR:=aa hR;rw[hR];clear hR;go_enter Tryz.func103,Tryz.ntmps103;go_wp2_with fail
 refine HR.out.mono ?_;rintro e w1 ⟨rfl,b1⟩;go_wp2_with fail
 refine(IL w1 (FO.out.ext b1) R6 (fun d hd=>(gq (dz Nc.out hd)).2)).mono ?_
 rintro e w2 ⟨hv0,rs0,rfl,hM0,b2⟩;have HM0:=aa hM0;have HB1:=aa b1;have HB2:=aa b2;clear hM0 b1 b2 HR;have G7:Hid (Re w1.heap.size w1.heap.size w2.heap.size (w2.heap.size+1) (w2.heap.size+1+1) (w2.heap.size+1+1+1) (.slice A p.length c) ((((w2.alloc (.cells #[.int .i64 0,.int .i64 0,.int .i64 0] 164)).alloc (.cells #[.int .i64 0,.int .i64 0,.int .i64 0] 164)).alloc (.cells #[.int .i64 0,.int .i64 0,.int .i64 0,.int .i64 0,.int .i64 0,.int .i64 0,.int .i64 0,.int .i64 0,.int .i64 0,.int .i64 0,.int .i64 0,.int .i64 0] 165)).alloc (.cells #[.int .i64 0,.int .i64 0,.int .i64 0,.int .i64 0,.int .i64 0,.int .i64 0,.int .i64 0,.int .i64 0,.int .i64 0,.int .i64 0,.int .i64 0,.int .i64 0] 165)) (bJ p 0)):=by
  have z12:∀o,o<12->(#[.int .i64 0,.int .i64 0,.int .i64 0,.int .i64 0,.int .i64 0,.int .i64 0,.int .i64 0,.int .i64 0,.int .i64 0,.int .i64 0,.int .i64 0,.int .i64 0]:Array Value)[o]? =some (.int .i64 0):=fun o ho=>by
   have:o=0∨o=1∨o=2∨o=3∨o=4∨o=5∨o=6∨o=7∨o=8∨o=9∨o=10∨o=11:=by omega
   rcases this with rfl|rfl|rfl|rfl|rfl|rfl|rfl|rfl|rfl|rfl|rfl|rfl<;>rfl
  have z3:∀o,o<3->(#[.int .i64 0,.int .i64 0,.int .i64 0]:Array Value)[o]? =some (.int .i64 0):=fun o ho=>by
   have:o=0∨o=1∨o=2:=by omega
   rcases this with rfl|rfl|rfl<;>rfl
  exact⟨⟨_,_,HM0.out.ext (((((Ext.refl w2).alloc _).alloc _).alloc _).alloc _)⟩,(TW.made w2 _ _ _ _ 3 rfl rfl z3).ext ((((Ext.refl _).alloc _).alloc _).alloc _),(TW.made _ _ _ _ _ 3 (by simp) rfl z3).ext (((Ext.refl _).alloc _).alloc _),(TW.made _ _ _ _ _ 12 (by simp) rfl z12).ext ((Ext.refl _).alloc _),TW.made _ _ _ _ _ 12 (by simp) rfl z12⟩
 have G8:Hid (Ext w1 ((((w2.alloc (.cells #[.int .i64 0,.int .i64 0,.int .i64 0] 164)).alloc (.cells #[.int .i64 0,.int .i64 0,.int .i64 0] 164)).alloc (.cells #[.int .i64 0,.int .i64 0,.int .i64 0,.int .i64 0,.int .i64 0,.int .i64 0,.int .i64 0,.int .i64 0,.int .i64 0,.int .i64 0,.int .i64 0,.int .i64 0] 165)).alloc (.cells #[.int .i64 0,.int .i64 0,.int .i64 0,.int .i64 0,.int .i64 0,.int .i64 0,.int .i64 0,.int .i64 0,.int .i64 0,.int .i64 0,.int .i64 0,.int .i64 0] 165))):=(((HB2.out.alloc _).alloc _).alloc _).alloc _;have YP:w1.heap.size<=w2.heap.size:=HB2.out.size;go_wp2;generalize abS:w2.heap.size+1+1+1=BB;generalize adb:w2.heap.size+1+1=KB;generalize acB:w2.heap.size+1=VE;generalize abT:w2.heap.size=VV;have hne1:VV≠KB:=by omega
 have hne2:VV≠BB:=by omega
 have aet:VE≠KB:=by omega
 have aeJ:VE≠BB:=by omega
 have hne5:KB≠BB:=by omega
 have aau:VV≠VE:=by omega
 have adY:KB≠VV:=by omega
 have aeG:BB≠VV:=by omega
 have aee:KB≠VE:=by omega
 have afb:BB≠VE:=by omega
 have aaX:BB≠KB:=by omega
 have aff:VE≠VV:=by omega
 have hlo1:w1.heap.size<=VV:=by omega
 have hlo2:w1.heap.size<=VE:=by omega
 have hlo3:w1.heap.size<=KB:=by omega
 have afu:w1.heap.size<=BB:=by omega
 rw[abS,adb,acB,abT]at G7;clear abS adb acB abT YP;go_loopw [27] (fun i wr=>Hid (Ext w1 wr)/\∃k:Nat,k<=xs.length/\i=.int .i64 k/\Hid (Re w1.heap.size w1.heap.size VV VE KB BB (.slice A p.length c) wr (bJ p k))) (fun i _=>xs.length-(intOf i).toNat)
 case atStart=>exact⟨G8.out,0,Nat.zero_le _,rfl,G7.out⟩
 case round=>
  clear G7 G8 HM0;obtain⟨HB,k,hk,rfl,HS⟩:=hrel;by_cases hlt:k<xs.length
  ·obtain⟨b,off,rfl,hbl,hcell⟩:=HX0.out (by omega);obtain⟨n,hn⟩:=af hlt;have c0:=(HB1.out.trans HB.out).cell (hcell k n hn);obtain⟨hnext,hnp⟩:=UW.out k n hn;have iA:=aa hnext;obtain⟨hro,hdn,hvs⟩:=Z4.out k hk;have Uo:=aa hro;have O0:=aa hdn;have HVS:=aa hvs;obtain⟨m,hm⟩:∃m,bJ p k=m:=⟨_,rfl⟩;have h1:=iA.out;have h2:=Uo.out;have h3:=O0.out;have h4:=HVS.out;have h5:=HS.out;rw[hm]at h1 h2 h3 h4 h5;replace iA:=aa h1;replace Uo:=aa h2;replace O0:=aa h3;replace HVS:=aa h4;replace HS:=aa h5;obtain⟨d,hd⟩:=af hnp;obtain⟨t,ht⟩:=af (show n<m.h.length by rw[h2.len];exact hnp);obtain⟨hse,hle,hop⟩:=h2.tx n t d ht hd;have hd4:=(gq (dz Nc.out (List.mem_of_getElem? hd))).2;have hn4:n<4:=by omega
   have HT:=aa ht;have HD:=aa hd;obtain⟨⟨hv,rs,hM⟩,hV,hVE,hKB,hBB⟩:=h5;have HM:=aa hM;have yX:=aa (fun W (bW:Ext wr W)=>WC (hM.ext bW) ht hn4 (by omega) (HB.out.trans bW) (FO.out.ext HB1.out) hd hd4 hle);clear hcell hn hnext hro hdn hvs hm h1 h2 h3 h4 hM ht hd hse hop;clear hV hVE hKB hBB
   cases hs:d.steps[t.ops.length]? with
   | none=>
     have Ua:=aa (yj HT.out HD.out hs);have Rn:=aa hs;clear hs;go_wp2_with fail
     refine(yX.out _ (Ext.refl _)).mono ?_
     rintro e w3 ⟨b3,_,hE⟩;obtain rfl:=hE Rn.out;have HB3:=aa b3;clear b3 hE;unfold zY;go_wp2;go_roundw;case rel=>exact⟨(HB.out.trans HB3.out).alloc _,k+1,by omega,by go_num,by rw[iA.out,Ua.out];exact(HS.out.ext HB3.out).ext ((Ext.refl _).alloc _)⟩
     case measure=>simp[intOf];omega
   | some o0=>
     have Rn:=aa hs;have Ed:=fu (dz Nc.out (List.mem_of_getElem? HD.out)) (List.mem_of_getElem? hs);have hkd:=jk Ed;have Z8:=iq Ed;have hvl:=lu Ed;clear hs Ed;have kg:=aa (MZ (n:=n) o0 HT.out);have hMw:=HM.out;obtain⟨Ah,nh,chh,rfl⟩:∃A nn c,hv=.slice A nn c:=by obtain⟨A,c,e,_⟩:=hMw.hs;exact⟨A,_,c,e⟩
     have hnn:nh=m.h.length:=by obtain⟨A,c,e,_⟩:=hMw.hs;injection e with _ e _;rw[e,hMw.hl]
     subst hnn;obtain⟨b2,off2,r,rfl,hb2,acS,hr,t0,t1,t2,hrow,hfr,hty⟩:=hMw.at HT.out;have hnl:n<m.h.length:=(List.getElem?_eq_some_iff.1 HT.out).1;obtain⟨Ao,co,hov,_⟩:=hrow.cell.1;have Ow:=aa hrow.cell.1;have hmm:=hMw.m1;rw[hov]at t1;have qz:=aa hov;clear hMw hrow hfr hty hb2 acS hov;obtain⟨ok,oy,ov⟩:=o0;simp only at hkd Z8 hvl;subst hvl;obtain⟨q,rfl⟩:=Int.eq_ofNat_of_zero_le Z8.1;have hq3:q<3:=by omega
     obtain⟨v1,hv1⟩:∃v1,Dn n t.ops.length ⟨ok,(q:Int),0⟩=⟨ok,(q:Int),v1⟩:=by
      unfold Dn;split
      ·exact⟨_,rfl⟩
      ·exact⟨_,rfl⟩
     have HV1:=aa hv1;have hstep:=fun W bW=>yX.out W bW;have Wu:Hid (∀W,Ext wr W->Calls Tryz.prog 142 #[.pointer (some ⟨w1.heap.size,0,none⟩),.int .i64 (n:Int)] W fun e W'=>Ext W W'/\e=.returned (.tuple #[.agg #[.int .i64 ok,.int .i64 (q:Int),.int .i64 v1],.bool true])):=fun W bW=>(hstep W bW).mono (fun e W' h=>⟨h.1,by rw[h.2.1 _ Rn.out,HV1.out];rfl⟩);clear hstep hv1 yX;go_wp2_with fail
     refine(Wu.out _ (Ext.refl _)).mono ?_
     rintro e w3 ⟨b3,rfl⟩;have b4:=b3.alloc (.cells #[.int .i64 ok,.int .i64 (q:Int),.int .i64 v1] 71);have y0:=b4.cell t0;have y1:=b4.cell t1;have y2:=b4.cell t2;have ym:=b4.cell hmm;have sH:=aa b4;have Ih:=aa b3.size;clear t0 t1 t2 hmm b3 b4 Wu;have adi:=HS.out.ext sH.out;obtain⟨_,hV,hVE,hKB,hBB⟩:=id adi;have HM4:=aa (HM.out.ext sH.out);have HV4:=aa hV;have WN:=aa hVE;have Oq:=aa hKB;have Q6:=aa hBB;have adA:=aa (HB.out.trans sH.out);clear adi hV hVE hKB hBB;by_cases h0:t.ops.length=0
     case' pos=>
      have h0e:((t.ops.length:Int)==0)=true:=by simp[h0]
      have RI:=aa (vR HT.out h0);have va0:(w3.alloc (.cells #[.int .i64 ok,.int .i64 (q:Int),.int .i64 v1] 71)).cell? ⟨VV,0,none⟩=some (.int .i64 (m.vals 0)):=HV4.out.cell (by omega);have va1:(w3.alloc (.cells #[.int .i64 ok,.int .i64 (q:Int),.int .i64 v1] 71)).cell? ⟨VV,1,none⟩=some (.int .i64 (m.vals 1)):=HV4.out.cell (by omega);have va2:(w3.alloc (.cells #[.int .i64 ok,.int .i64 (q:Int),.int .i64 v1] 71)).cell? ⟨VV,2,none⟩=some (.int .i64 (m.vals 2)):=HV4.out.cell (by omega);have ve0:(w3.alloc (.cells #[.int .i64 ok,.int .i64 (q:Int),.int .i64 v1] 71)).cell? ⟨VE,0,none⟩=some (.int .i64 (m.cK 0)):=WN.out.cell (by omega);have ve1:(w3.alloc (.cells #[.int .i64 ok,.int .i64 (q:Int),.int .i64 v1] 71)).cell? ⟨VE,1,none⟩=some (.int .i64 (m.cK 1)):=WN.out.cell (by omega);have ve2:(w3.alloc (.cells #[.int .i64 ok,.int .i64 (q:Int),.int .i64 v1] 71)).cell? ⟨VE,2,none⟩=some (.int .i64 (m.cK 2)):=WN.out.cell (by omega);have kb0:=Oq.out.cell (o:=n*3) (by omega);have kb1:=Oq.out.cell (o:=n*3+1) (by omega);have kb2:=Oq.out.cell (o:=n*3+2) (by omega);have bb0:=Q6.out.cell (o:=n*3) (by omega);have bb1:=Q6.out.cell (o:=n*3+1) (by omega);have bb2:=Q6.out.cell (o:=n*3+2) (by omega);have kf:=Oq.out.free;have bf:=Q6.out.free;have abN:(0:Int)<=(n:Int):=by omega
      have acJ:(n:Int)<4:=by omega
      clear h0;go_wp2;go_region_held3 (fun V=>V.cell? ⟨VV,0,none⟩=some (.int .i64 (m.vals 0))/\V.cell? ⟨VV,1,none⟩=some (.int .i64 (m.vals 1))/\V.cell? ⟨VV,2,none⟩=some (.int .i64 (m.vals 2))/\V.cell? ⟨VE,0,none⟩=some (.int .i64 (m.cK 0))/\V.cell? ⟨VE,1,none⟩=some (.int .i64 (m.cK 1))/\V.cell? ⟨VE,2,none⟩=some (.int .i64 (m.cK 2))) (go_keep) (fail)
      have hkl:KB<w3.heap.size:=by have:=Oq.out.lt;have h9:=HS.out.2.2.2.1.lt;have:=Ih.out;omega
      have WZ:BB<w3.heap.size:=by have h9:=HS.out.2.2.2.2.lt;have:=Ih.out;omega
      have FX:bH (fun i=>i=KB∨i=BB) (w3.alloc (.cells #[.int .i64 ok,.int .i64 (q:Int),.int .i64 v1] 71)) (((((((w3.alloc (.cells #[.int .i64 ok,.int .i64 (q:Int),.int .i64 v1] 71)).setCell ⟨KB,n*3,none⟩ (.int .i64 (m.vals 0))).setCell ⟨KB,n*3+1,none⟩ (.int .i64 (m.vals 1))).setCell ⟨KB,n*3+2,none⟩ (.int .i64 (m.vals 2))).setCell ⟨BB,n*3,none⟩ (.int .i64 (m.cK 0))).setCell ⟨BB,n*3+1,none⟩ (.int .i64 (m.cK 1))).setCell ⟨BB,n*3+2,none⟩ (.int .i64 (m.cK 2))).drew:=
       (((((((bH.refl (fun i=>i=KB∨i=BB) (w3.alloc (.cells #[.int .i64 ok,.int .i64 (q:Int),.int .i64 v1] 71))).setCell (p:=⟨KB,n*3,none⟩) (.inl (.inl rfl)) _).setCell (p:=⟨KB,n*3+1,none⟩) (.inl (.inl rfl)) _).setCell (p:=⟨KB,n*3+2,none⟩) (.inl (.inl rfl)) _).setCell (p:=⟨BB,n*3,none⟩) (.inl (.inr rfl)) _).setCell (p:=⟨BB,n*3+1,none⟩) (.inl (.inr rfl)) _).setCell (p:=⟨BB,n*3+2,none⟩) (.inl (.inr rfl)) _).drew
      have fx0:=FX.cell (p:=⟨w3.heap.size,0,none⟩) (av rfl:(w3.alloc (.cells #[.int .i64 ok,.int .i64 (q:Int),.int .i64 v1] 71)).cell? _=some (.int .i64 ok)) (by simp;omega);have fx1:=FX.cell (p:=⟨w3.heap.size,1,none⟩) (av rfl:(w3.alloc (.cells #[.int .i64 ok,.int .i64 (q:Int),.int .i64 v1] 71)).cell? _=some (.int .i64 (q:Int))) (by simp;omega);have fx2:=FX.cell (p:=⟨w3.heap.size,2,none⟩) (av rfl:(w3.alloc (.cells #[.int .i64 ok,.int .i64 (q:Int),.int .i64 v1] 71)).cell? _=some (.int .i64 v1)) (by simp;omega);have fxf:∀i,((((((((w3.alloc (.cells #[.int .i64 ok,.int .i64 (q:Int),.int .i64 v1] 71)).setCell ⟨KB,n*3,none⟩ (.int .i64 (m.vals 0))).setCell ⟨KB,n*3+1,none⟩ (.int .i64 (m.vals 1))).setCell ⟨KB,n*3+2,none⟩ (.int .i64 (m.vals 2))).setCell ⟨BB,n*3,none⟩ (.int .i64 (m.cK 0))).setCell ⟨BB,n*3+1,none⟩ (.int .i64 (m.cK 1))).setCell ⟨BB,n*3+2,none⟩ (.int .i64 (m.cK 2))).drew).frozen? ⟨w3.heap.size,i,none⟩=false:=fun i=>(FX.frozen (p:=⟨w3.heap.size,i,none⟩) (by simp) (by simp;omega)).trans (gN i rfl);have gM:=HM4.out.frX FX (fun i hi e=>by
       rcases e with e|e
       ·exact HM4.out.far Oq.out (by decide) (by decide) (by decide) (by rw[<-e];exact hi)
       ·exact HM4.out.far Q6.out (by decide) (by decide) (by decide) (by rw[<-e];exact hi))
      have gV:=HV4.out.frX FX (fun e=>e.elim hne1 hne2);have gVE:=WN.out.frX FX (fun e=>e.elim aet aeJ);have gX:=FX.out adA.out (fun i e=>by omega);have hmod:∀j,j<3->(n*3+j)/3=n/\(n*3+j)%3=j:=fun j hj=>by omega
      have PR:∀(f:Nat->iV) (sv:iV) j,j<3->fK (uO f n sv) (n*3+j)=sv (j:Int):=fun f sv j hj=>by rw[U7,if_pos (hmod j hj).1,(hmod j hj).2]
      have hoth:∀(f:Nat->iV) (sv:iV) o,o≠n*3->o≠n*3+1->o≠n*3+2->fK (uO f n sv) o=fK f o:=fun f sv o h0 h1 h2=>by rw[U7,if_neg (by omega)]
      have gKB:TW 165 (((((((w3.alloc (.cells #[.int .i64 ok,.int .i64 (q:Int),.int .i64 v1] 71)).setCell ⟨KB,n*3,none⟩ (.int .i64 (m.vals 0))).setCell ⟨KB,n*3+1,none⟩ (.int .i64 (m.vals 1))).setCell ⟨KB,n*3+2,none⟩ (.int .i64 (m.vals 2))).setCell ⟨BB,n*3,none⟩ (.int .i64 (m.cK 0))).setCell ⟨BB,n*3+1,none⟩ (.int .i64 (m.cK 1))).setCell ⟨BB,n*3+2,none⟩ (.int .i64 (m.cK 2))).drew KB 12 (fK (ak m n).kept):=by
       rw[RI.out.1]
       exact((((Oq.out.ac4 (j:=n*3) (by omega) (PR m.kept m.vals 0 (by omega)) (PR m.kept m.vals 1 (by omega)) (PR m.kept m.vals 2 (by omega)) (hoth m.kept m.vals)).other (a:=⟨BB,n*3,none⟩) aaX _).other (a:=⟨BB,n*3+1,none⟩) aaX _).other (a:=⟨BB,n*3+2,none⟩) aaX _).ext (Ext.refl _).drew
      have gBB:TW 165 (((((((w3.alloc (.cells #[.int .i64 ok,.int .i64 (q:Int),.int .i64 v1] 71)).setCell ⟨KB,n*3,none⟩ (.int .i64 (m.vals 0))).setCell ⟨KB,n*3+1,none⟩ (.int .i64 (m.vals 1))).setCell ⟨KB,n*3+2,none⟩ (.int .i64 (m.vals 2))).setCell ⟨BB,n*3,none⟩ (.int .i64 (m.cK 0))).setCell ⟨BB,n*3+1,none⟩ (.int .i64 (m.cK 1))).setCell ⟨BB,n*3+2,none⟩ (.int .i64 (m.cK 2))).drew BB 12 (fK (ak m n).began):=by
       rw[RI.out.2]
       exact((((Q6.out.other (a:=⟨KB,n*3,none⟩) hne5 _).other (a:=⟨KB,n*3+1,none⟩) hne5 _).other (a:=⟨KB,n*3+2,none⟩) hne5 _).ac4 (j:=n*3) (by omega) (PR m.began m.cK 0 (by omega)) (PR m.began m.cK 1 (by omega)) (PR m.began m.cK 2 (by omega)) (hoth m.began m.cK)).ext (Ext.refl _).drew
      clear va0 va1 va2 ve0 ve1 ve2 kb0 kb1 kb2 bb0 bb1 bb2 kf bf hmod PR hoth FX h0e y0 y1 y2 ym hkl WZ RI;generalize hw5:(((((((w3.alloc (.cells #[.int .i64 ok,.int .i64 (q:Int),.int .i64 v1] 71)).setCell ⟨KB,n*3,none⟩ (.int .i64 (m.vals 0))).setCell ⟨KB,n*3+1,none⟩ (.int .i64 (m.vals 1))).setCell ⟨KB,n*3+2,none⟩ (.int .i64 (m.vals 2))).setCell ⟨BB,n*3,none⟩ (.int .i64 (m.cK 0))).setCell ⟨BB,n*3+1,none⟩ (.int .i64 (m.cK 1))).setCell ⟨BB,n*3+2,none⟩ (.int .i64 (m.cK 2))).drew=w5 at fx0 fx1 fx2 fxf gM gV gVE gX gKB gBB ⊢;clear hw5;go_wp2_with fail
     case' neg=>
      have h0e:((t.ops.length:Int)==0)=false:=by simpa using h0
      have RI:=aa (FP HT.out h0);clear h0;go_wp2_with fail
      have fx0:(w3.alloc (.cells #[.int .i64 ok,.int .i64 (q:Int),.int .i64 v1] 71)).cell? ⟨w3.heap.size,0,none⟩=some (.int .i64 ok):=av rfl;have fx1:(w3.alloc (.cells #[.int .i64 ok,.int .i64 (q:Int),.int .i64 v1] 71)).cell? ⟨w3.heap.size,1,none⟩=some (.int .i64 (q:Int)):=av rfl;have fx2:(w3.alloc (.cells #[.int .i64 ok,.int .i64 (q:Int),.int .i64 v1] 71)).cell? ⟨w3.heap.size,2,none⟩=some (.int .i64 v1):=av rfl;have fxf:∀i,(w3.alloc (.cells #[.int .i64 ok,.int .i64 (q:Int),.int .i64 v1] 71)).frozen? ⟨w3.heap.size,i,none⟩=false:=fun i=>gN i rfl;have gM:=HM4.out;have gV:=HV4.out;have gVE:=WN.out;have gX:=adA.out;have gKB:TW 165 (w3.alloc (.cells #[.int .i64 ok,.int .i64 (q:Int),.int .i64 v1] 71)) KB 12 (fK (ak m n).kept):=by rw[RI.out.1];exact Oq.out
      have gBB:TW 165 (w3.alloc (.cells #[.int .i64 ok,.int .i64 (q:Int),.int .i64 v1] 71)) BB 12 (fK (ak m n).began):=by rw[RI.out.2];exact Q6.out
      clear h0e y0 y1 y2 ym RI;generalize hw5:(w3.alloc (.cells #[.int .i64 ok,.int .i64 (q:Int),.int .i64 v1] 71))=w5 at fx0 fx1 fx2 fxf gM gV gVE gX gKB gBB ⊢;clear hw5
     all_goals
      have Y9:=aa fx0;have Y3:=aa fx1;have VY:=aa fx2;have aaQ:=aa fxf;have HGM:=aa gM;have HGV:=aa gV;have XL:=aa gVE;have ZU:=aa gX;have Xx:=aa gKB;have Xw:=aa gBB;clear fx0 fx1 fx2 fxf gM gV gVE gX gKB gBB;by_cases hrd:ok=1
     all_goals first
      | (have hok2:ok=2:=hkd.resolve_left hrd
         subst hok2;clear hrd hkd
         refine(fJ 2 _ _ _).mono ?_
         rw[show ((2:Int)==1)=false from rfl];rintro e w6 ⟨rfl,hw6⟩;have b6:Ext w5 w6:=(by rw[<-hw6];exact(Ext.refl _).alloc _);clear hw6;have HM8:=aa (HGM.out.ext b6);have HV8:=aa (HGV.out.ext b6);have HE8:=aa (XL.out.ext b6);have HK8:=aa (Xx.out.ext b6);have PL:=aa (Xw.out.ext b6);have Sc:=aa (ZU.out.trans b6);have u0:=b6.cell Y9.out;have u1:=b6.cell Y3.out;have u2:=b6.cell VY.out;have tF:Hid (ku (ak m n) n ⟨2,(q:Int),0⟩=⟨2,(q:Int),v1⟩):=by show _ = _;have hv:=HV1.out;unfold Dn at hv;rw[if_pos (show iN ⟨2,(q:Int),0⟩=true from rfl)]at hv;rw[kg.out,if_pos (show iN ⟨2,(q:Int),0⟩=true from rfl)];exact hv
         clear kg b6;go_wp2_with fail
         clear u0 u1 u2
         refine(Rt (w0:=w1) ⟨2,(q:Int),v1⟩ HM8.out HT.out hn4 (by omega) Sc.out.size Sc.out (Nat.le_refl _) (Nat.le_refl _) (FO.out.ext HB1.out) HD.out hd4 (by have:=Uo.out.len;omega)).mono ?_
         rintro e w9 ⟨rfl,X9,K9,rs9,M9⟩;have zC:Hid ((t.ops.length+1≠d.steps.length->bJ p (k+1)=gU (ak m n) n ⟨2,(q:Int),v1⟩ false)/\(t.ops.length+1=d.steps.length->mD (ak m n).cK ((ak m n).began n) (bD (t.ops++[⟨2,(q:Int),v1⟩]))=true->bJ p (k+1)={ gU (ak m n) n ⟨2,(q:Int),v1⟩ true with vals:=iL m.vals (bD (t.ops++[⟨2,(q:Int),v1⟩])),cK:=gu m.cK (bD (t.ops++[⟨2,(q:Int),v1⟩])) })/\(t.ops.length+1=d.steps.length->mD (ak m n).cK ((ak m n).began n) (bD (t.ops++[⟨2,(q:Int),v1⟩]))=false->bJ p (k+1)=gU (ak m n) n ⟨2,(q:Int),v1⟩ false)):=by
          refine⟨fun h=>?_,fun h hf=>?_,fun h hf=>?_⟩
          ·rw[iA.out,tL HT.out HD.out Rn.out h,tF.out]
          ·rw[iA.out,lU HT.out HD.out Rn.out h,tF.out,BF HT.out hf]
          ·rw[iA.out,lU HT.out HD.out Rn.out h,tF.out,Gb HT.out hf]
         have C8:Hid (∀x∈bD (t.ops++[⟨2,(q:Int),v1⟩]),∃z:Nat,z<3/\x.key=(z:Int)):=fun x hx=>by
          have:=(jD.1 hx).1
          rcases this with h|h|h
          ·exact⟨0,by omega,by rw[h];rfl⟩
          ·exact⟨1,by omega,by rw[h];rfl⟩
          ·exact⟨2,by omega,by rw[h];rfl⟩
         have Xr:=aa M9;have Cr:=aa X9;have HV9:=aa (HV8.out.o8 K9 (by decide) (by decide));have Wo:=aa (HE8.out.o8 K9 (by decide) (by decide));have HK9:=aa (HK8.out.o8 K9 (by decide) (by decide));have Pn:=aa (PL.out.o8 K9 (by decide) (by decide));clear X9 K9 M9 HV8 HE8 HK8 PL Sc HM8 tF HGM HGV XL ZU Xx Xw Y9 Y3 VY aaQ;generalize (⟨2,(q:Int),v1⟩:aQ)=o2 at zC C8 Xr)
      | (have hok1:ok=1:=hrd
         subst hok1
         refine(fJ 1 _ _ _).mono ?_
         rw[show ((1:Int)==1)=true from rfl];rintro e w6 ⟨rfl,hw6⟩;have b6:Ext w5 w6:=(by rw[<-hw6];exact(Ext.refl _).alloc _);clear hw6;have gM6:=HGM.out.ext b6;obtain⟨b3,zh,r3,hA3,hb3,Yl,hr3,t0,t1,t2,hrow3,afh,adJ⟩:=gM6.at HT.out;injection hA3 with hA3;injection hA3 with abu abr;subst abu abr;rw[hr]at hr3;injection hr3 with hr3;subst hr3;rw[qz.out]at t1;have VT:=hrow3.cell.1;rw[qz.out]at VT;have adV:=aa VT;have tm:=gM6.m1;obtain⟨ks,hks⟩:∃ks,(ak m n).kept n=ks:=⟨_,rfl⟩;have hkk:∀j,j<3->fK (ak m n).kept (n*3+j)=ks (j:Int):=fun j hj=>by unfold fK;rw[show (n*3+j)/3=n by omega,show (n*3+j)%3=j by omega,hks]
         have kb0:w6.cell? ⟨KB,n*3,none⟩=some (.int .i64 (ks 0)):=(Xx.out.ext b6).cell (o:=n*3) (by omega) |>.trans (by rw[show n*3=n*3+0 from rfl,hkk 0 (by omega)];rfl);have kb1:w6.cell? ⟨KB,n*3+1,none⟩=some (.int .i64 (ks 1)):=(Xx.out.ext b6).cell (o:=n*3+1) (by omega) |>.trans (by rw[hkk 1 (by omega)];rfl);have kb2:w6.cell? ⟨KB,n*3+2,none⟩=some (.int .i64 (ks 2)):=(Xx.out.ext b6).cell (o:=n*3+2) (by omega) |>.trans (by rw[hkk 2 (by omega)];rfl);have HKS:=aa hks;have x0:=b6.cell Y9.out;have x1:=b6.cell Y3.out;have x2:=b6.cell VY.out;have xf:=(b6.frozen (p:=⟨w3.heap.size,2,none⟩) (World.block_lt_of_cell? _ _ VY.out)).trans (aaQ.out 2);have Ua:=aa (U8 t (.slice Ao t.ops.length co) ks q w6.drew hq3 (adV.out.ext (Ext.refl _).drew) (by omega));have ad9:=aa gM6;have Ca:=aa b6;have abN:(0:Int)<=(n:Int):=by omega
         have acJ:(n:Int)<4:=by omega
         clear gM6 hrow3 afh adJ hb3 Yl VT hkk hks b6;clear hrd hkd;have nx1:w1.heap.size≠w3.heap.size:=by have h1:=HM.out.lt (.inl rfl);have h2:=Ih.out;omega
         have nx2:b2≠w3.heap.size:=by have h1:=HM.out.lt (.inr (.inl ⟨_,_,_,rfl,by omega,rfl⟩));have h2:=Ih.out;simp only at h1;omega
         have nx3:KB≠w3.heap.size:=by have h1:=HS.out.2.2.2.1.lt;have h2:=Ih.out;omega
         go_wp2;go_region_held3 (fun V=>V.cell? ⟨w1.heap.size,1,none⟩=some (.slice (some ⟨b2,off2,none⟩) m.h.length chh)/\V.cell? ⟨b2,off2+n*3,none⟩=some (.int .i64 t.az)/\V.cell? ⟨b2,off2+n*3+1,none⟩=some (.slice Ao t.ops.length co)/\V.cell? ⟨b2,off2+n*3+2,none⟩=some (.bool t.done)/\V.cell? ⟨KB,n*3,none⟩=some (.int .i64 (ks 0))/\V.cell? ⟨KB,n*3+1,none⟩=some (.int .i64 (ks 1))/\V.cell? ⟨KB,n*3+2,none⟩=some (.int .i64 (ks 2))/\V.cell? ⟨w3.heap.size,1,none⟩=some (.int .i64 (q:Int))) (first|exact⟨by assumption,by assumption,by assumption,by assumption,by assumption,by assumption,by assumption,by assumption⟩|go_keep) ((go_at_call 143;refine Ua.out.mono ?_;rintro e w7 ⟨rfl,b7⟩;have zm:=b7.cell (p:=⟨w1.heap.size,1,none⟩) tm;have z0:=b7.cell (p:=⟨b2,off2+n*3,none⟩) t0;have z1:=b7.cell (p:=⟨b2,off2+n*3+1,none⟩) t1;have z2:=b7.cell (p:=⟨b2,off2+n*3+2,none⟩) t2;have k0:=b7.cell (p:=⟨KB,n*3,none⟩) kb0;have k1:=b7.cell (p:=⟨KB,n*3+1,none⟩) kb1;have k2:=b7.cell (p:=⟨KB,n*3+2,none⟩) kb2;have v0:=b7.cell (p:=⟨w3.heap.size,0,none⟩) x0;have v1':=b7.cell (p:=⟨w3.heap.size,1,none⟩) x1;have v2:=b7.cell (p:=⟨w3.heap.size,2,none⟩) x2;have vf:=(b7.frozen (p:=⟨w3.heap.size,2,none⟩) (World.block_lt_of_cell? _ _ x2)).trans xf;have B7:=aa (Ca.out.drew.trans b7);have SET:=fun(p:Addr) (v:Value) (hne:p.block≠w3.heap.size) (hc:w7.cell? p=some v)=>(au (w:=w7) (p:=⟨w3.heap.size,2,none⟩) (q:=p) (by intro e;rw[<-e]at hne;exact hne rfl) (.int .i64 (kP t.ops ks (q:Int)))).trans hc;have r0:=SET ⟨w1.heap.size,1,none⟩ _ nx1 zm;have r1:=SET ⟨b2,off2+n*3,none⟩ _ nx2 z0;have r2:=SET ⟨b2,off2+n*3+1,none⟩ _ nx2 z1;have r3:=SET ⟨b2,off2+n*3+2,none⟩ _ nx2 z2;have r4:=SET ⟨KB,n*3,none⟩ _ nx3 k0;have r5:=SET ⟨KB,n*3+1,none⟩ _ nx3 k1;have r6:=SET ⟨KB,n*3+2,none⟩ _ nx3 k2;have r7:(w7.setCell ⟨w3.heap.size,2,none⟩ (.int .i64 (kP t.ops ks (q:Int)))).cell? ⟨w3.heap.size,1,none⟩=some (.int .i64 (q:Int)):=(au (by intro e;injection e with _ e _;omega) _).trans v1';clear SET))
         have FZ9:bH (fun i=>i=w3.heap.size) w7 (w7.setCell ⟨w3.heap.size,2,none⟩ (.int .i64 (kP t.ops ks (q:Int)))):=(bH.refl (fun i=>i=w3.heap.size) w7).setCell (p:=⟨w3.heap.size,2,none⟩) (.inl rfl) _;have hwx:=Ih.out;have HM8:=aa ((HGM.out.ext B7.out).frX FZ9 (fun i hi e=>by have:=HM.out.lt hi;omega));have HV8:=aa ((HGV.out.ext B7.out).frX FZ9 (fun e=>by have:=HS.out.2.1.lt;omega));have HE8:=aa ((XL.out.ext B7.out).frX FZ9 (fun e=>by have:=HS.out.2.2.1.lt;omega));have HK8:=aa ((Xx.out.ext B7.out).frX FZ9 (fun e=>by have:=HS.out.2.2.2.1.lt;omega));have PL:=aa ((Xw.out.ext B7.out).frX FZ9 (fun e=>by have:=HS.out.2.2.2.2.lt;omega));have Sc:=aa ((ZU.out.trans B7.out).setCell (p:=⟨w3.heap.size,2,none⟩) (by have:=HB.out.size;show w1.heap.size<=w3.heap.size;omega) (.int .i64 (kP t.ops ks (q:Int))));have u0:(w7.setCell ⟨w3.heap.size,2,none⟩ (.int .i64 (kP t.ops ks (q:Int)))).cell? ⟨w3.heap.size,0,none⟩=some (.int .i64 1):=(au (by intro e;injection e with _ e _;omega) _).trans v0;have u1:(w7.setCell ⟨w3.heap.size,2,none⟩ (.int .i64 (kP t.ops ks (q:Int)))).cell? ⟨w3.heap.size,1,none⟩=some (.int .i64 (q:Int)):=(au (by intro e;injection e with _ e _;omega) _).trans v1';have u2:(w7.setCell ⟨w3.heap.size,2,none⟩ (.int .i64 (kP t.ops ks (q:Int)))).cell? ⟨w3.heap.size,2,none⟩=some (.int .i64 (kP t.ops ks (q:Int))):=dx v2 _;have tF:Hid (ku (ak m n) n ⟨1,(q:Int),0⟩=⟨1,(q:Int),kP t.ops ks (q:Int)⟩):=by show _ = _;rw[kg.out,if_neg (show ¬iN ⟨1,(q:Int),0⟩=true from by simp[iN]),HKS.out]
         clear FZ9 r0 r1 r2 r3 r4 r5 r6 r7 nx1 nx2 nx3 zm z0 z1 z2 k0 k1 k2 v0 v1' v2 vf tm t0 t1 t2 kb0 kb1 kb2 x0 x1 x2 xf Ua ad9 Ca kg;generalize kP t.ops ks (q:Int)=sv at HM8 HV8 HE8 HK8 PL Sc u0 u1 u2 tF ⊢;generalize w7.setCell ⟨w3.heap.size,2,none⟩ (.int .i64 sv)=w8 at HM8 HV8 HE8 HK8 PL Sc u0 u1 u2 ⊢;go_wp2_with fail
         clear u0 u1 u2
         refine(Rt (w0:=w1) ⟨1,(q:Int),sv⟩ HM8.out HT.out hn4 (by omega) Sc.out.size Sc.out (Nat.le_refl _) (Nat.le_refl _) (FO.out.ext HB1.out) HD.out hd4 (by have:=Uo.out.len;omega)).mono ?_
         rintro e w9 ⟨rfl,X9,K9,rs9,M9⟩;have zC:Hid ((t.ops.length+1≠d.steps.length->bJ p (k+1)=gU (ak m n) n ⟨1,(q:Int),sv⟩ false)/\(t.ops.length+1=d.steps.length->mD (ak m n).cK ((ak m n).began n) (bD (t.ops++[⟨1,(q:Int),sv⟩]))=true->bJ p (k+1)={ gU (ak m n) n ⟨1,(q:Int),sv⟩ true with vals:=iL m.vals (bD (t.ops++[⟨1,(q:Int),sv⟩])),cK:=gu m.cK (bD (t.ops++[⟨1,(q:Int),sv⟩])) })/\(t.ops.length+1=d.steps.length->mD (ak m n).cK ((ak m n).began n) (bD (t.ops++[⟨1,(q:Int),sv⟩]))=false->bJ p (k+1)=gU (ak m n) n ⟨1,(q:Int),sv⟩ false)):=by
          refine⟨fun h=>?_,fun h hf=>?_,fun h hf=>?_⟩
          ·rw[iA.out,tL HT.out HD.out Rn.out h,tF.out]
          ·rw[iA.out,lU HT.out HD.out Rn.out h,tF.out,BF HT.out hf]
          ·rw[iA.out,lU HT.out HD.out Rn.out h,tF.out,Gb HT.out hf]
         have C8:Hid (∀x∈bD (t.ops++[⟨1,(q:Int),sv⟩]),∃z:Nat,z<3/\x.key=(z:Int)):=fun x hx=>by
          have:=(jD.1 hx).1
          rcases this with h|h|h
          ·exact⟨0,by omega,by rw[h];rfl⟩
          ·exact⟨1,by omega,by rw[h];rfl⟩
          ·exact⟨2,by omega,by rw[h];rfl⟩
         have Xr:=aa M9;have Cr:=aa X9;have HV9:=aa (HV8.out.o8 K9 (by decide) (by decide));have Wo:=aa (HE8.out.o8 K9 (by decide) (by decide));have HK9:=aa (HK8.out.o8 K9 (by decide) (by decide));have Pn:=aa (PL.out.o8 K9 (by decide) (by decide));clear X9 K9 M9 HV8 HE8 HK8 PL Sc HM8 tF HGM HGV XL ZU Xx Xw Y9 Y3 VY aaQ;generalize (⟨1,(q:Int),sv⟩:aQ)=o2 at zC C8 Xr)
     all_goals
      have abh:t.ops.length<d.steps.length:=(List.getElem?_eq_some_iff.1 Rn.out).1;have htd:t.done=false:=O0.out n t d HT.out HD.out abh;have hm9:=Xr.out;rw[htd]at hm9;replace Xr:=aa hm9;have ab3:Hid (Re w1.heap.size w1.heap.size VV VE KB BB (.slice A p.length c) w9 (gU (ak m n) n o2 false)):=
       ⟨⟨_,_,by rw[ED _ _ HT.out];exact Xr.out⟩,by rw[show (gU (ak m n) n o2 false).vals=m.vals from qA m n];exact HV9.out,by rw[show (gU (ak m n) n o2 false).cK=m.cK from jT m n];exact Wo.out,HK9.out,Pn.out⟩
      clear hm9 htd;by_cases hlast:t.ops.length+1=d.steps.length
     all_goals first
      | (have PE:¬(t.ops.length+1=d.steps.length):=hlast
         rw[show decide (t.ops.length+1=d.steps.length)=false from decide_eq_false PE];have jl:Hid (Re w1.heap.size w1.heap.size VV VE KB BB (.slice A p.length c) w9 (bJ p (k+1))):=by show Re _ _ _ _ _ _ _ _ _;rw[zC.out.1 PE];exact ab3.out
         clear hlast PE;go_wp2;go_roundw;case rel=>exact⟨Cr.out,k+1,by omega,by go_num,jl.out⟩
         case measure=>simp[intOf];omega)
      | (rw[show decide (t.ops.length+1=d.steps.length)=true from decide_eq_true hlast]
         have ht9:(m.h.set n ⟨t.az,t.ops++[o2],false⟩)[n]? =some ⟨t.az,t.ops++[o2],false⟩:=by rw[List.getElem?_set,if_pos rfl,if_pos hnl]
         have HT9:=aa ht9;obtain⟨b9,Y1,r9,hA9,hb9,afl,hr9,t0,t1,t2,Gc,adv,afk⟩:=Xr.out.at ht9;injection hA9 with hA9;injection hA9 with aey afe;subst aey afe;have hnh:(m.h.set n ⟨t.az,t.ops++[o2],false⟩).length=m.h.length:=List.length_set;have tm:=Xr.out.m1;have aek:(t.ops++[o2]).length<=4:=by simp;omega
         obtain⟨ops',xE⟩:∃l,t.ops++[o2]=l:=⟨_,rfl⟩;have XC:=aa xE;have UU:=zC.out;have hkz:=C8.out;rw[xE]at UU hkz Gc aek;simp only[xE]at t0 t1 t2;replace zC:=aa UU;replace C8:=aa hkz;have Wp:aF 3 aj w9 r9.aY ops':=Gc.cell.1;obtain⟨A9,c9,abt,_⟩:=id Wp;rw[abt]at t1 Wp;have aam:=aa (kr t.az false w9 Wp (by omega));have HR9:=aa hr9;have adn:=aa abt;obtain⟨L,hL⟩:∃L,bD ops'=L:=⟨_,rfl⟩;have hl3:L.length<=3:=by rw[<-hL];exact yA ops'
         have Jf:=aam.out;rw[hL]at Jf UU hkz;replace aam:=aa Jf;replace zC:=aa UU;replace C8:=aa hkz;have HLL:=aa hL;have afQ:=aa Wp;have aad:=aa hlast;have afG:=aa abh;have HD4:=aa hd4;clear hlast abh;have aeO:=aa adv;clear ht9 hb9 afl hr9 Gc adv afk xE UU hkz abt Wp hL Jf hnh;go_wp2_with fail
         refine aam.out.mono ?_;rintro e w10 ⟨v10,rfl,K8,b10⟩;obtain⟨Al,cl,rfl,abH⟩:=id K8.cell.1;have Yc:=aa abH;have Kj:=aa b10;have aeL:=aa (Wo.out.ext b10);have acT:=aa (Pn.out.ext b10);clear K8 abH b10 t0 t1 t2 tm;go_wp2;obtain⟨wo,rfl⟩:∃wo:World,wo=wr:=⟨_,rfl⟩;go_loopw [14,85] (fun f i wr=>Hid (Ext w10 wr)/\∃j:Nat,j<=L.length/\i=.int .i64 j/\f=.bool (mD (ak m n).cK ((ak m n).began n) (L.take j))) (fun _ i _=>L.length-(intOf i).toNat)
         case' atStart=>exact⟨Ext.refl _,0,Nat.zero_le _,rfl,rfl⟩
         case' round=>
          obtain⟨HQ,j,hj,rfl,rfl⟩:=hrel;by_cases hjl:j<L.length
          case' pos=>
           obtain⟨bl,ol,rfl,adk,hcl⟩:=Yc.out (by omega);obtain⟨x,hx⟩:=af hjl;obtain⟨z,hz3,oN⟩:=C8.out x (List.mem_of_getElem? hx);have c0:=HQ.out.cell (hcl j x hx 0 (by omega));have c1:=HQ.out.cell (hcl j x hx 1 (by omega));have c2:=HQ.out.cell (hcl j x hx 2 (by omega));simp only[aj,Nat.add_zero]at c0 c1 c2;have JR:=aa (UB (v:=(ak m n).cK) (b:=(ak m n).began n) hx);obtain⟨xk,xy,xv⟩:=x;simp only at oN;subst oN;have hz0:(0:Int)<=(z:Int):=by omega
           have ae1:(z:Int)<3:=by omega
           have abN:(0:Int)<=(n:Int):=by omega
           have acJ:(n:Int)<4:=by omega
           have HXQ:=aa ((Ext.refl wr).alloc (.cells #[.int .i64 xk,.int .i64 (z:Int),.int .i64 xv] 71));obtain⟨f0,hf0⟩:∃f0,mD (ak m n).cK ((ak m n).began n) (L.take j)=f0:=⟨_,rfl⟩;have hnf:=JR.out;rw[hf0]at hnf;rw[hf0];replace JR:=aa hnf;clear hcl hx hf0 hnf
           cases f0 with
           | false=>
             have HN5:Hid (mD (ak m n).cK ((ak m n).began n) (L.take (j+1))=false):=by show _ = _;rw[JR.out];rfl
             go_wp2;refine wp_region_held_drew (S:=fun _=>True) (by kernel_rfl) trivial (fun hHeld=>?_);simp only[List.size_toArray,List.length_cons,List.length_nil,Nat.zero_add,Nat.reduceAdd];refine eu 0 (.bool false) rfl (Or.inl ⟨by kernel_rfl,fun V _=>by go_simp⟩) hHeld ?_;try go_frame
             refine eu 1 (.bool false) rfl (Or.inl ⟨by kernel_rfl,fun V _=>by go_simp⟩) hHeld ?_;try go_frame
             refine eu 2 undef rfl (Or.inr ⟨by kernel_rfl,rfl⟩) hHeld ?_;try go_frame
             refine eu 3 undef rfl (Or.inr ⟨by kernel_rfl,rfl⟩) hHeld ?_;try go_frame
             refine eu 4 undef rfl (Or.inr ⟨by kernel_rfl,rfl⟩) hHeld ?_;try go_frame
             refine eu 5 undef rfl (Or.inr ⟨by kernel_rfl,rfl⟩) hHeld ?_;try go_frame
             refine eu 6 undef rfl (Or.inr ⟨by kernel_rfl,rfl⟩) hHeld ?_;try go_frame
             refine eu 7 undef rfl (Or.inr ⟨by kernel_rfl,rfl⟩) hHeld ?_;try go_frame
             refine eu 8 undef rfl (Or.inr ⟨by kernel_rfl,rfl⟩) hHeld ?_;try go_frame
             refine eu 9 undef rfl (Or.inr ⟨by kernel_rfl,rfl⟩) hHeld ?_;try go_frame
             refine eu 10 undef rfl (Or.inr ⟨by kernel_rfl,rfl⟩) hHeld ?_;try go_frame
             refine eu 11 undef rfl (Or.inr ⟨by kernel_rfl,rfl⟩) hHeld ?_;try go_frame
             refine eu 12 undef rfl (Or.inr ⟨by kernel_rfl,rfl⟩) hHeld ?_;try go_frame
             refine eu 13 (.bool false) rfl (Or.inl ⟨by kernel_rfl,fun V _=>by go_simp⟩) hHeld ?_;try go_frame
             refine eu 14 (.bool false) rfl (Or.inl ⟨by kernel_rfl,fun V _=>by go_simp⟩) hHeld ?_;try go_frame
             refine wpAnyH_done (by kernel_rfl) ?_ _;go_wp2;go_roundw;case rel=>exact⟨(HQ.out.trans HXQ.out).drew,j+1,by omega,by go_num,by rw[HN5.out]⟩
             case measure=>simp[intOf];omega
           | true=>
             have e1:(wr.alloc (.cells #[.int .i64 xk,.int .i64 (z:Int),.int .i64 xv] 71)).cell? ⟨VE,z,none⟩=some (.int .i64 (m.cK (z:Int))):=HXQ.out.cell (HQ.out.cell (aeL.out.cell (o:=z) hz3));have e2:(wr.alloc (.cells #[.int .i64 xk,.int .i64 (z:Int),.int .i64 xv] 71)).cell? ⟨BB,n*3+z,none⟩=some (.int .i64 ((ak m n).began n (z:Int))):=by
              have:=HXQ.out.cell (HQ.out.cell (acT.out.cell (o:=n*3+z) (by omega)))
              rw[this];unfold fK;rw[show (n*3+z)/3=n by omega,show (n*3+z)%3=z by omega]
             have e3:(wr.alloc (.cells #[.int .i64 xk,.int .i64 (z:Int),.int .i64 xv] 71)).cell? ⟨wr.heap.size,1,none⟩=some (.int .i64 (z:Int)):=av rfl;have HN5:Hid (mD (ak m n).cK ((ak m n).began n) (L.take (j+1))=(m.cK (z:Int)==(ak m n).began n (z:Int))):=by show _ = _;rw[JR.out,jT];rfl
             obtain⟨g1,hg1⟩:∃g,m.cK (z:Int)=g:=⟨_,rfl⟩;obtain⟨g2,hg2⟩:∃g,(ak m n).began n (z:Int)=g:=⟨_,rfl⟩;have hn5:=HN5.out;rw[hg1]at e1 hn5;rw[hg2]at e2 hn5;replace HN5:=aa hn5;clear hg1 hg2 hn5;go_wp2;refine wp_region_held_drew (S:=(fun V:World=>V.cell? ⟨VE,z,none⟩=some (.int .i64 g1)/\V.cell? ⟨BB,n*3+z,none⟩=some (.int .i64 g2)/\V.cell? ⟨wr.heap.size,1,none⟩=some (.int .i64 (z:Int)))) (by kernel_rfl) ⟨e1,e2,e3⟩ (fun hHeld=>?_);simp only[List.size_toArray,List.length_cons,List.length_nil,Nat.zero_add,Nat.reduceAdd];refine eu 0 (.bool true) rfl (Or.inl ⟨by kernel_rfl,fun V ⟨s1,s2,s3⟩=>by go_simp⟩) hHeld ?_;try go_frame
             refine eu 1 (.bool true) rfl (Or.inl ⟨by kernel_rfl,fun V ⟨s1,s2,s3⟩=>by go_simp⟩) hHeld ?_;try go_frame
             refine eu 2 (.pointer (some ⟨wr.heap.size,1,none⟩)) rfl (Or.inl ⟨by kernel_rfl,fun V ⟨s1,s2,s3⟩=>by go_simp⟩) hHeld ?_;try go_frame
             refine eu 3 (.int .i64 (z:Int)) rfl (Or.inl ⟨by kernel_rfl,fun V ⟨s1,s2,s3⟩=>by go_simp⟩) hHeld ?_;try go_frame
             refine eu 4 (.pointer (some ⟨VE,z,none⟩)) rfl (Or.inl ⟨by kernel_rfl,fun V ⟨s1,s2,s3⟩=>by go_simp⟩) hHeld ?_;try go_frame
             refine eu 5 (.int .i64 g1) rfl (Or.inl ⟨by kernel_rfl,fun V ⟨s1,s2,s3⟩=>by go_simp⟩) hHeld ?_;try go_frame
             refine eu 6 (.int .i64 (n:Int)) rfl (Or.inl ⟨by kernel_rfl,fun V ⟨s1,s2,s3⟩=>by go_simp⟩) hHeld ?_;try go_frame
             refine eu 7 (.pointer (some ⟨wr.heap.size,1,none⟩)) rfl (Or.inl ⟨by kernel_rfl,fun V ⟨s1,s2,s3⟩=>by go_simp⟩) hHeld ?_;try go_frame
             refine eu 8 (.int .i64 (z:Int)) rfl (Or.inl ⟨by kernel_rfl,fun V ⟨s1,s2,s3⟩=>by go_simp⟩) hHeld ?_;try go_frame
             refine eu 9 (.pointer (some ⟨BB,n*3,none⟩)) rfl (Or.inl ⟨by kernel_rfl,fun V ⟨s1,s2,s3⟩=>by go_simp⟩) hHeld ?_;try go_frame
             refine eu 10 (.pointer (some ⟨BB,n*3+z,none⟩)) rfl (Or.inl ⟨by kernel_rfl,fun V ⟨s1,s2,s3⟩=>by go_simp⟩) hHeld ?_;try go_frame
             refine eu 11 (.int .i64 g2) rfl (Or.inl ⟨by kernel_rfl,fun V ⟨s1,s2,s3⟩=>by go_simp⟩) hHeld ?_;try go_frame
             refine eu 12 (.bool (g1==g2)) rfl (Or.inl ⟨by kernel_rfl,fun V ⟨s1,s2,s3⟩=>by go_simp⟩) hHeld ?_;try go_frame
             refine eu 13 (.bool (g1==g2)) rfl (Or.inl ⟨by kernel_rfl,fun V ⟨s1,s2,s3⟩=>by go_simp⟩) hHeld ?_;try go_frame
             refine eu 14 (.bool (g1==g2)) rfl (Or.inl ⟨by kernel_rfl,fun V ⟨s1,s2,s3⟩=>by go_simp⟩) hHeld ?_;try go_frame
             refine wpAnyH_done (by kernel_rfl) ?_ _;clear hHeld;clear e1 e2 e3;go_wp2;go_roundw;case rel=>exact⟨(HQ.out.trans HXQ.out).drew,j+1,by omega,by go_num,by rw[HN5.out]⟩
             case measure=>simp[intOf];omega
          case' neg=>
           obtain rfl:j=L.length:=by omega
           rw[List.take_length];have ru:=aa (Kj.out.trans HQ.out)
           cases Rv:mD (ak m n).cK ((ak m n).began n) L with
           | false=>
             have jl:Hid (Re w1.heap.size w1.heap.size VV VE KB BB (.slice A p.length c) wr (bJ p (k+1))):=by show Re _ _ _ _ _ _ _ _ _;rw[zC.out.2.2 aad.out Rv];exact ab3.out.ext ru.out
             clear Rv;go_wp2;go_roundw;case rel=>exact⟨Cr.out.trans ru.out,k+1,by omega,by go_num,jl.out⟩
             case measure=>simp[intOf];omega
           | true=>
             have HFF:=aa Rv;clear Rv;have M12:=Xr.out.ext ru.out;have tm:=M12.m1;have abl:b2<w9.heap.size:=by have:=Xr.out.lt (.inr (.inl ⟨_,_,_,rfl,by omega,rfl⟩));exact this
             have t2f:wr.frozen? ⟨b2,off2+n*3+2,none⟩=false:=(ru.out.frozen (p:=⟨b2,off2+n*3+2,none⟩) abl).trans (aeO.out _);obtain⟨b8,adO,r8,hA8,hb8,Y7,hr8,t0,t1,t2,RZ,aaM,aa5⟩:=M12.at HT9.out;injection hA8 with hA8;injection hA8 with aaf aat;subst aaf aat;rw[HR9.out]at hr8;injection hr8 with hr8;subst hr8;rw[adn.out]at t1;obtain⟨M11,K11⟩:=M12.PS HR9.out HT9.out (by omega);have ab4:xJ w1.heap.size w1.heap.size (.slice A p.length c) (wr.setCell ⟨b2,off2+n*3+2,none⟩ (.bool true)) (.slice (some ⟨b2,off2,none⟩) m.h.length chh) (rs9.set n ⟨r9.az,r9.aY,true⟩) (gU (ak m n) n o2 true).h:=by rw[ED _ _ HT.out];have h9:=M11;rw[List.set_set]at h9;exact h9
             have aeC:=aa ab4;have YH:=aa K11;have sm:=M11.m1;have s0:(wr.setCell ⟨b2,off2+n*3+2,none⟩ (.bool true)).cell? ⟨b2,off2+n*3,none⟩=some (.int .i64 t.az):=(au (by intro e;injection e with _ e _;omega) _).trans t0;have s1:(wr.setCell ⟨b2,off2+n*3+2,none⟩ (.bool true)).cell? ⟨b2,off2+n*3+1,none⟩=some (.slice A9 ops'.length c9):=(au (by intro e;injection e with _ e _;omega) _).trans t1;have s2:(wr.setCell ⟨b2,off2+n*3+2,none⟩ (.bool true)).cell? ⟨b2,off2+n*3+2,none⟩=some (.bool true):=dx t2 _;have ZR:aF 3 aj (wr.setCell ⟨b2,off2+n*3+2,none⟩ (.bool true)) (.slice A9 ops'.length c9) ops':=by have hq:=(M11.rows n ⟨r9.az,r9.aY,true⟩ ⟨t.az,t.ops++[o2],true⟩ (by rw[List.getElem?_set,if_pos rfl,if_pos (List.getElem?_eq_some_iff.1 HR9.out).1]) (by rw[List.getElem?_set,if_pos rfl,if_pos (by rw[List.length_set];exact hnl)])).2.2.cell.1;rw[adn.out]at hq;simp only[XC.out]at hq;exact hq
             have aa4:=kr t.az true (wr.setCell ⟨b2,off2+n*3+2,none⟩ (.bool true)) ZR (by omega);rw[HLL.out]at aa4;have aaZ:=aa aa4;have SC:=aa ((Cr.out.trans ru.out).setCell (p:=⟨b2,off2+n*3+2,none⟩) Y7 (.bool true));clear M12 M11 ab4 K11 hb8 Y7 RZ aaM aa5 ZR aa4 abl;go_wp2_with fail
             refine aaZ.out.mono ?_;rintro e w12 ⟨v12,rfl,yT,b12⟩;obtain⟨Am,cm,rfl,adD⟩:=id yT.cell.1;have HCM:=aa adD;have nV:=aa (show ∀a n' c',(Value.slice Am L.length cm)=.slice (some a) n' c'->0<n'->(wr.setCell ⟨b2,off2+n*3+2,none⟩ (.bool true)).heap.size<=a.block from fun a n' c' e hn=>(yT.cell.2 a n' c' e hn).1);have HVl:Hid (VV<(wr.setCell ⟨b2,off2+n*3+2,none⟩ (.bool true)).heap.size/\VE<(wr.setCell ⟨b2,off2+n*3+2,none⟩ (.bool true)).heap.size):=⟨by simp only[World.setCell,Array.size_modify];exact Nat.lt_of_lt_of_le HV9.out.lt ru.out.size,by simp only[World.setCell,Array.size_modify];exact Nat.lt_of_lt_of_le Wo.out.lt ru.out.size⟩;have ac5:=aa (((HV9.out.ext ru.out).o8 YH.out (by decide) (by decide)).ext b12);have ade:=aa (((Wo.out.ext ru.out).o8 YH.out (by decide) (by decide)).ext b12);have aer:=aa (((HK9.out.ext ru.out).o8 YH.out (by decide) (by decide)).ext b12);have acI:=aa (((Pn.out.ext ru.out).o8 YH.out (by decide) (by decide)).ext b12);have aag:=aa (aeC.out.ext b12);have SF:=aa (SC.out.trans b12);clear yT adD b12 sm s0 s1 s2 tm t0 t1 t2 t2f;go_wp2;obtain⟨wo2,rfl⟩:∃wo2:World,wo2=wr:=⟨_,rfl⟩;go_loopw [122] (fun i wr=>Hid (bH (fun i=>i=VV∨i=VE) w12 wr)/\∃j:Nat,j<=L.length/\i=.int .i64 j/\Hid (TW 164 wr VV 3 (fS (iL m.vals (L.take j)))/\TW 164 wr VE 3 (fS (gu m.cK (L.take j))))) (fun i _=>L.length-(intOf i).toNat)
             case' atStart=>exact⟨bH.refl _ _,0,Nat.zero_le _,rfl,ac5.out,ade.out⟩
             case' round=>
              obtain⟨HF,j2,hj2,rfl,HT2⟩:=hrel;by_cases adI:j2<L.length
              case' pos=>
               obtain⟨bl,ol,rfl,adk,hcl⟩:=HCM.out (by omega);have aal:=nV.out _ _ _ rfl (by omega);have hvl:=HVl.out;simp only at aal;have Zr:¬(bl=VV∨bl=VE):=by omega
               obtain⟨x,hx⟩:=af adI;obtain⟨z,hz3,oN⟩:=C8.out x (List.mem_of_getElem? hx);have c0:=HF.out.cell (hcl j2 x hx 0 (by omega)) Zr;have c1:=HF.out.cell (hcl j2 x hx 1 (by omega)) Zr;have c2:=HF.out.cell (hcl j2 x hx 2 (by omega)) Zr;simp only[aj,Nat.add_zero]at c0 c1 c2;have HPN:=aa (CP (s:=m.vals) hx);have HBN:=aa (J8 (s:=m.cK) hx);obtain⟨xk,xy,xv⟩:=x;simp only at oN;subst oN;have hz0:(0:Int)<=(z:Int):=by omega
               have ae1:(z:Int)<3:=by omega
               have hbb:=yc (L.take j2) m.cK (z:Int);have hvb:=HVS.out (z:Int);have htk:(L.take j2).length<=3:=by rw[List.length_take];omega
               obtain⟨ve,hve⟩:∃ve,gu m.cK (L.take j2) (z:Int)=ve:=⟨_,rfl⟩;have af4:0<=ve:=by omega
               have aft:ve<=1000:=by omega
               have HXQ:=aa ((Ext.refl wr).alloc (.cells #[.int .i64 xk,.int .i64 (z:Int),.int .i64 xv] 71));have gv:=HT2.out.1;have ge:=HT2.out.2;have gv1:=HXQ.out.cell (gv.cell (o:=z) hz3);have gv2:=(gv.ext HXQ.out).free z;have ge0:wr.cell? ⟨VE,z,none⟩=some (.int .i64 ve):=by have:=ge.cell (o:=z) hz3;unfold fS at this;rw[hve]at this;exact this
               have hVw:VV<wr.heap.size:=HT2.out.1.lt;have hEw:VE<wr.heap.size:=HT2.out.2.lt;have afU:VV≠wr.heap.size:=by omega
               have afT:wr.heap.size≠VV:=by omega
               have afV:VE≠wr.heap.size:=by omega
               have afv:wr.heap.size≠VE:=by omega
               have geo:=ge.other (a:=⟨VV,z,none⟩) aau (.int .i64 xv);have ge1:(wr.setCell ⟨VV,z,none⟩ (.int .i64 xv)).cell? ⟨VE,z,none⟩=some (.int .i64 ve):=(au (by intro e;injection e with e _ _;exact aau e) _).trans ge0;have ge2:((wr.setCell ⟨VV,z,none⟩ (.int .i64 xv)).alloc (.cells #[.int .i64 xk,.int .i64 (z:Int),.int .i64 xv] 71)).cell? ⟨VE,z,none⟩=some (.int .i64 ve):=((Ext.refl _).alloc _).cell ge1;have ge3:=geo.free z;have ge4:=(geo.ext ((Ext.refl _).alloc (.cells #[.int .i64 xk,.int .i64 (z:Int),.int .i64 xv] 71))).free z;have aa9:=aa (((gv.set (j:=z) (f':=fS (iL m.vals (L.take (j2+1)))) hz3 (fun o ho=>by rw[HPN.out];exact VN o ho))).other (a:=⟨VE,z,none⟩) aff (.int .i64 (ve+1)));have aaA:=aa ((ge.other (a:=⟨VV,z,none⟩) aau (.int .i64 xv)).set (j:=z) (f':=fS (gu m.cK (L.take (j2+1)))) hz3 (fun o ho=>by rw[HBN.out];exact VN o ho));have hv1:fS (iL m.vals (L.take (j2+1))) z=xv:=by rw[HPN.out];exact aae
               have hv2:fS (gu m.cK (L.take (j2+1))) z=ve+1:=by rw[HBN.out,aae,hve]
               have aak:=aa9.out;have Wi:=aaA.out;rw[hv1]at aak;rw[hv2]at Wi;replace aa9:=aa aak;replace aaA:=aa Wi;clear hcl hx aal hvl Zr hbb hvb htk gv ge geo hve aak Wi hv1 hv2 HPN HBN;go_wp2;go_roundw;case rel=>exact⟨((HF.out.setCell (p:=⟨VV,z,none⟩) (.inl (.inl rfl)) _).setCell (p:=⟨VE,z,none⟩) (.inl (.inr rfl)) _).alloc _,j2+1,by omega,by go_num,aa9.out.ext ((Ext.refl _).alloc _),aaA.out.ext ((Ext.refl _).alloc _)⟩
               case measure=>simp[intOf];omega
              case' neg=>
               obtain rfl:j2=L.length:=by omega
               have jl:Hid (Re w1.heap.size w1.heap.size VV VE KB BB (.slice A p.length c) wr (bJ p (k+1))):=by
                have t1:=HT2.out.1;have t2:=HT2.out.2;rw[List.take_length]at t1 t2;have m12:=aag.out.frX HF.out (fun i hi e=>by
                 rcases e with e|e
                 ·exact aag.out.far ac5.out (by decide) (by decide) (by decide) (by rw[<-e];exact hi)
                 ·exact aag.out.far ade.out (by decide) (by decide) (by decide) (by rw[<-e];exact hi))
                have k12:=aer.out.frX HF.out (fun e=>e.elim adY aee);have aen:=acI.out.frX HF.out (fun e=>e.elim aeG afb);have e9:=zC.out.2.1 aad.out HFF.out;exact e9▸Re.last (m1:=gU (ak m n) n o2 true) m12 t1 t2 k12 aen
               have HXF:=aa (HF.out.out SF.out (fun i e=>by omega));go_wp2;go_roundw;case rel=>exact⟨HXF.out,k+1,by omega,by go_num,jl.out⟩
               case measure=>simp[intOf];omega)
  ·obtain rfl:k=xs.length:=by omega
   obtain⟨⟨hv,rs,hM⟩,_⟩:=HS.out;have abm:=hM.his;rw[ZK.out.2,HRR.out]at abm;have hok:=Ey Nc.out;rw[HRR.out]at hok;have HC:=aa (Mr wr hM.m1 (oI wr abm (by have:=aM hok;omega) (aD hok)));have wL:=aa (HB1.out.trans HB.out);clear hM abm hok;go_wp2_with fail
   refine HC.out.mono ?_;rintro e w5 ⟨v,rs5,rfl,g1,g2,g3⟩;have G1:=aa g1;have G2:=aa g2;obtain⟨A5,c5,rfl,_⟩:=id g1.2.1;clear g1 g2;go_wp2;go_returns;exact⟨_,rs5,rfl,G1.out,G2.out.mono wL.out.size,wL.out.trans g3⟩
