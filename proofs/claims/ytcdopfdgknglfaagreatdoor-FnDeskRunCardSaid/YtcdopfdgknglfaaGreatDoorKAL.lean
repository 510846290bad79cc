/- Lemmas. -/
import Derived.Test.YtcdopfdgknglfaaGreatDoorKAK
set_option maxHeartbeats 16000000
set_option maxRecDepth 8000
set_option linter.all false
namespace Go.Proofs.YtcdopfdgknglfaaGreatDoor
open Go.RowKit
def Tq(base M V VE KB BB:Nat)(pv:Value)(wr:World)(m:pX):Prop:=
 (∃hv rs,zJ base M pv wr hv rs m.h)/\TW 160 wr V 3 (fS m.vals)/\TW 160 wr VE 3 (fS m.dK)/\TW 161 wr KB 12 (fK m.kept)/\TW 161 wr BB 12 (fK m.began)
theorem Tq.ext{base M V VE KB BB:Nat}{pv:Value}{w w':World}{m:pX}(h:Tq base M V VE KB BB pv w m)(b:Ext w w'):Tq base M V VE KB BB pv w' m:=
 let ⟨⟨hv,rs,h1⟩,h2,h3,h4,h5⟩:=h
 ⟨⟨hv,rs,h1.ext b⟩,h2.ext b,h3.ext b,h4.ext b,h5.ext b⟩
theorem YO(f:Nat->j3)(n:Nat)(s:j3)(o:Nat):fK (wZ f n s) o=if o/3=n then s ((o%3:Nat):Int) else fK f o:=by
 unfold fK wZ
 split<;>rfl
theorem TW.acV{T:TypeId}{w:World}{g N j:Nat}{f f':Nat->Int}{a b c:Int}(h:TW T w g N f)(hj:j+2<N)(h0:f' j=a)(h1:f' (j+1)=b)(h2:f' (j+2)=c)(hf:∀o,o≠j->o≠j+1->o≠j+2->f' o=f o) :
 TW T (((w.setCell ⟨g,j,none⟩ (.int .i64 a)).setCell ⟨g,j+1,none⟩ (.int .i64 b)).setCell ⟨g,j+2,none⟩ (.int .i64 c)) g N f':=by
 have s1:=h.set (j:=j) (f':=λo=>if o=j then a else f o) (by omega) (λo ho=>by simp[ho]);have s2:=s1.set (j:=j+1) (f':=λo=>if o=j+1 then b else if o=j then a else f o) (by omega) (λo ho=>by simp[ho]);have s3:=s2.set (j:=j+2) (f':=f') (by omega) (λo ho=>by
  by_cases e1:o=j+1
  ·subst e1;simp[h1]
  ·by_cases e0:o=j
   ·subst e0;simp[h0]
   ·simp[e1,e0,hf o e0 e1 ho])
 simp only[aj,h2]at s3;exact s3
theorem TW.frX{T:TypeId}{X:Nat->Prop}{w w':World}{g N:Nat}{f:Nat->Int}(h:TW T w g N f)(b:dz X w w')(hx:¬X g):TW T w' g N f:=by obtain⟨cs,h1,h2,h3⟩:=h;exact⟨cs,b.heap h1 hx,h2,h3⟩
theorem zJ.far{base M:Nat}{pv hv:Value}{W:World}{rs:List jg}{h:List aG}(H:zJ base M pv W hv rs h){T:TypeId}{g N:Nat}{f:Nat->Int}(hT:TW T W g N f)(h1:T≠164)(h2:T≠48)(h3:T≠67):¬aa6 M hv rs g:=λhx=>by
 obtain⟨cs,hg,_⟩:=hT;rcases hx with e|⟨a,n,c,e,hn,ea⟩|⟨i,r,hr,e⟩
 ·subst e;rw[H.mb]at hg;injection hg with hg;injection hg with _ e _;exact h1 e.symm
 ·obtain⟨cs',fr,hg'⟩:=H.hi a n c e hn;rw[ea,hg]at hg';injection hg' with hg';injection hg' with _ e _;exact h2 e
 ·obtain⟨t,ht⟩:=ah (show i<h.length by rw[<-H.hl];exact(bG.1 hr).1);obtain⟨cs',hg'⟩:=dW (H.rows i r t hr ht).2.2 e;rw[hg]at hg';injection hg' with hg';injection hg' with _ e _;exact h3 e
theorem zJ.lt{base M:Nat}{pv hv:Value}{W:World}{rs:List jg}{h:List aG}(H:zJ base M pv W hv rs h){i:Nat}(hi:aa6 M hv rs i):i<W.heap.size:=by
 rcases hi with e|⟨a,n,c,e,hn,ea⟩|⟨j,r,hr,e⟩
 ·subst e
  exact(fF.1 H.mb).1
 ·rw[<-ea]
  exact(H.ho a n c e hn).2.1
 ·obtain⟨t,ht⟩:=ah (show j<h.length by rw[<-H.hl];exact(bG.1 hr).1)
  exact(jU (H.rows j r t hr ht).2.2 e).2
theorem Tq.last{base M V VE KB BB:Nat}{pv hv:Value}{w:World}{rs:List jg}{m1:pX}{v u:j3}(hM:zJ base M pv w hv rs m1.h)(h2:TW 160 w V 3 (fS v))(h3:TW 160 w VE 3 (fS u))(h4:TW 161 w KB 12 (fK m1.kept))(h5:TW 161 w BB 12 (fK m1.began)) :
 Tq base M V VE KB BB pv w { m1 with vals:=v,dK:=u }:=⟨⟨hv,rs,hM⟩,h2,h3,h4,h5⟩
theorem BQ{pv u:Value}{p:List fI}(w:World)(HP:yV w pv p)(hp:eu p=true)(hx:oZ encI w u ((eD p.length).map λn:Nat=>(n:Int))) :
 Calls Tryz.prog 104 #[pv,u] w (uw w (BV p)):=by
 have TR:=jW hp;obtain⟨A,c,rfl⟩:=HP.slice;have hxl:((eD p.length).map λn:Nat=>(n:Int)).length<=16:=by rw[dX,GK];omega
 have HR:=aa (Nq w HP hp hx (by omega) (λn hn=>by
  obtain⟨q,hq,rfl⟩:=fV.1 hn
  have:=uD hq
  omega))
 obtain⟨Au,cu,rfl,hx0⟩:=id hx;have hx1:0<(eD p.length).length->∃b off,Au=some ⟨b,off,none⟩/\b<w.heap.size/\∀(i:Nat) (n:Nat),(eD p.length)[i]? =some n->w.cell? ⟨b,off+i,none⟩=some (.int .i64 (n:Int)):=λh0=>by obtain⟨b,off,e,hb,hc⟩:=hx0 (by rw[dX];exact h0);exact⟨b,off,e,hb,λi n hn=>hc i (n:Int) (by simp[hn])⟩
 rw[dX]at hxl;have hlm:((eD p.length).map λn:Nat=>(n:Int)).length=(eD p.length).length:=dX _;rw[hlm]at HR ⊢;have V8:Hid (∀k n,(eD p.length)[k]? =some n->cz p (k+1)=stepM p (cz p k) n/\n<p.length):=λk n hn=>⟨nR hn,uD (aM hn)⟩;have HRE:Hid (cz p (eD p.length).length=cz p (eD p.length).length/\(cz p (eD p.length).length).h=BV p):=⟨rfl,rfl⟩;have HRK:Hid (∀k,k<=(eD p.length).length->pg p (cz p k)/\(∀(i:Nat) t d,(cz p k).h[i]? =some t->p[i]? =some d->t.ops.length<d.steps.length->t.done=false)/\∀x,0<=(cz p k).dK x/\(cz p k).dK x<=3*(k:Int)):=λk hk=>⟨Ih hp k hk,GU k hk,Sd k hk⟩;obtain⟨xs,hxs⟩:∃xs,eD p.length=xs:=⟨_,rfl⟩;have hHR:=HR.out;have hRT:=V8.out;have Yr:=HRE.out;have hRK:=HRK.out;rw[hxs]at hxl hx1 hHR hRT Yr hRK ⊢;replace HR:=aa hHR;replace V8:=aa hRT;replace HRE:=aa Yr;replace HRK:=aa hRK;clear hlm hxs hHR hRT Yr hRK;have Py:=aa hp;have Ju:=aa HP;have HX0:=aa hx1;clear hp hx hx0 hx1;obtain⟨R,hR⟩:∃R,BV p=R:=⟨_,rfl⟩;have HRR:=aa hR;rw[hR];clear hR;go_enter Tryz.func104,Tryz.ntmps104;go_wp2_with fail
 refine HR.out.mono ?_;rintro e w1 ⟨rfl,b1⟩;go_wp2_with fail
 refine(Kj w1 (Ju.out.ext b1) TR (λd hd=>(iN (dO Py.out hd)).2)).mono ?_
 rintro e w2 ⟨hv0,rs0,rfl,hM0,b2⟩;have HM0:=aa hM0;have HB1:=aa b1;have HB2:=aa b2;clear hM0 b1 b2 HR;have Gq:Hid (Tq w1.heap.size w1.heap.size w2.heap.size (w2.heap.size+1) (w2.heap.size+1+1) (w2.heap.size+1+1+1) (.slice A p.length c) ((((w2.alloc (.cells #[.int .i64 0,.int .i64 0,.int .i64 0] 160)).alloc (.cells #[.int .i64 0,.int .i64 0,.int .i64 0] 160)).alloc (.cells #[.int .i64 0,.int .i64 0,.int .i64 0,.int .i64 0,.int .i64 0,.int .i64 0,.int .i64 0,.int .i64 0,.int .i64 0,.int .i64 0,.int .i64 0,.int .i64 0] 161)).alloc (.cells #[.int .i64 0,.int .i64 0,.int .i64 0,.int .i64 0,.int .i64 0,.int .i64 0,.int .i64 0,.int .i64 0,.int .i64 0,.int .i64 0,.int .i64 0,.int .i64 0] 161)) (cz p 0)):=by
  have z12:∀o,o<12->(#[.int .i64 0,.int .i64 0,.int .i64 0,.int .i64 0,.int .i64 0,.int .i64 0,.int .i64 0,.int .i64 0,.int .i64 0,.int .i64 0,.int .i64 0,.int .i64 0]:Array Value)[o]? =some (.int .i64 0):=λo ho=>by
   have:o=0∨o=1∨o=2∨o=3∨o=4∨o=5∨o=6∨o=7∨o=8∨o=9∨o=10∨o=11:=by omega
   rcases this with rfl|rfl|rfl|rfl|rfl|rfl|rfl|rfl|rfl|rfl|rfl|rfl<;>rfl
  have z3:∀o,o<3->(#[.int .i64 0,.int .i64 0,.int .i64 0]:Array Value)[o]? =some (.int .i64 0):=λo ho=>by
   have:o=0∨o=1∨o=2:=by omega
   rcases this with rfl|rfl|rfl<;>rfl
  exact⟨⟨_,_,HM0.out.ext (((((af w2).alloc _).alloc _).alloc _).alloc _)⟩,(TW.made w2 _ _ _ _ 3 rfl rfl z3).ext ((((af _).alloc _).alloc _).alloc _),(TW.made _ _ _ _ _ 3 (by simp) rfl z3).ext (((af _).alloc _).alloc _),(TW.made _ _ _ _ _ 12 (by simp) rfl z12).ext ((af _).alloc _),TW.made _ _ _ _ _ 12 (by simp) rfl z12⟩
 have Gt:Hid (Ext w1 ((((w2.alloc (.cells #[.int .i64 0,.int .i64 0,.int .i64 0] 160)).alloc (.cells #[.int .i64 0,.int .i64 0,.int .i64 0] 160)).alloc (.cells #[.int .i64 0,.int .i64 0,.int .i64 0,.int .i64 0,.int .i64 0,.int .i64 0,.int .i64 0,.int .i64 0,.int .i64 0,.int .i64 0,.int .i64 0,.int .i64 0] 161)).alloc (.cells #[.int .i64 0,.int .i64 0,.int .i64 0,.int .i64 0,.int .i64 0,.int .i64 0,.int .i64 0,.int .i64 0,.int .i64 0,.int .i64 0,.int .i64 0,.int .i64 0] 161))):=(((HB2.out.alloc _).alloc _).alloc _).alloc _;have aav:w1.heap.size<=w2.heap.size:=HB2.out.size;go_wp2;generalize ac5:w2.heap.size+1+1+1=BB;generalize acz:w2.heap.size+1+1=KB;generalize ada:w2.heap.size+1=VE;generalize ad9:w2.heap.size=VV;have hne1:VV≠KB:=by omega
 have hne2:VV≠BB:=by omega
 have afm:VE≠KB:=by omega
 have afD:VE≠BB:=by omega
 have hne5:KB≠BB:=by omega
 have acp:VV≠VE:=by omega
 have afM:KB≠VV:=by omega
 have afR:BB≠VV:=by omega
 have afZ:KB≠VE:=by omega
 have aeV:BB≠VE:=by omega
 have abk:BB≠KB:=by omega
 have afl:VE≠VV:=by omega
 have hlo1:w1.heap.size<=VV:=by omega
 have hlo2:w1.heap.size<=VE:=by omega
 have hlo3:w1.heap.size<=KB:=by omega
 have agi:w1.heap.size<=BB:=by omega
 rw[ac5,acz,ada,ad9]at Gq;clear ac5 acz ada ad9 aav;go_loopw [27] (λi wr=>Hid (Ext w1 wr)/\∃k:Nat,k<=xs.length/\i=.int .i64 k/\Hid (Tq w1.heap.size w1.heap.size VV VE KB BB (.slice A p.length c) wr (cz p k))) (λi _=>xs.length-(intOf i).toNat)
 case atStart=>exact⟨Gt.out,0,aT _,rfl,Gq.out⟩
 case round=>
  clear Gq Gt HM0;obtain⟨HB,k,hk,rfl,HS⟩:=hrel;by_cases hlt:k<xs.length
  ·obtain⟨b,off,rfl,hbl,hcell⟩:=HX0.out (by omega);obtain⟨n,hn⟩:=ah hlt;have c0:=(HB1.out.trans HB.out).cell (hcell k n hn);obtain⟨hnext,hnp⟩:=V8.out k n hn;have jC:=aa hnext;obtain⟨hro,hdn,hvs⟩:=HRK.out k hk;have U7:=aa hro;have QC:=aa hdn;have HVS:=aa hvs;obtain⟨m,hm⟩:∃m,cz p k=m:=⟨_,rfl⟩;have h1:=jC.out;have h2:=U7.out;have h3:=QC.out;have h4:=HVS.out;have h5:=HS.out;rw[hm]at h1 h2 h3 h4 h5;replace jC:=aa h1;replace U7:=aa h2;replace QC:=aa h3;replace HVS:=aa h4;replace HS:=aa h5;obtain⟨d,hd⟩:=ah hnp;obtain⟨t,ht⟩:=ah (show n<m.h.length by rw[h2.len];exact hnp);obtain⟨hse,hle,hop⟩:=h2.tx n t d ht hd;have hd4:=(iN (dO Py.out (aM hd))).2;have hn4:n<4:=by omega
   have HT:=aa ht;have HD:=aa hd;obtain⟨⟨hv,rs,hM⟩,hV,hVE,hKB,hBB⟩:=h5;have HM:=aa hM;have LM:=aa (λW (bW:Ext wr W)=>WG (hM.ext bW) ht hn4 (by omega) (HB.out.trans bW) (Ju.out.ext HB1.out) hd hd4 hle);clear hcell hn hnext hro hdn hvs hm h1 h2 h3 h4 hM ht hd hse hop;clear hV hVE hKB hBB
   cases hs:d.steps[t.ops.length]? with
   | none=>
     have Uj:=aa (Ai HT.out HD.out hs);have TM:=aa hs;clear hs;go_wp2_with fail
     refine(LM.out _ (af _)).mono ?_
     rintro e w3 ⟨b3,_,hE⟩;obtain rfl:=hE TM.out;have HB3:=aa b3;clear b3 hE;unfold BL;go_wp2;go_roundw;case rel=>exact⟨(HB.out.trans HB3.out).alloc _,k+1,by omega,by go_num,by rw[jC.out,Uj.out];exact(HS.out.ext HB3.out).ext ((af _).alloc _)⟩
     case measure=>simp[intOf];omega
   | some o0=>
     have TM:=aa hs;have E9:=gN (dO Py.out (aM HD.out)) (aM hs);have hkd:=kF E9;have hky:=jy E9;have hvl:=mV E9;clear hs E9;have mF:=aa (O8 (n:=n) o0 HT.out);have hMw:=HM.out;obtain⟨Ah,nh,chh,rfl⟩:∃A nn c,hv=.slice A nn c:=by obtain⟨A,c,e,_⟩:=hMw.hs;exact⟨A,_,c,e⟩
     have hnn:nh=m.h.length:=by obtain⟨A,c,e,_⟩:=hMw.hs;injection e with _ e _;rw[e,hMw.hl]
     subst hnn;obtain⟨b2,off2,r,rfl,hb2,aeg,hr,t0,t1,t2,hrow,hfr,hty⟩:=hMw.at HT.out;have hnl:n<m.h.length:=(bG.1 HT.out).1;obtain⟨Ao,co,hov,_⟩:=hrow.cell.1;have OL:=aa hrow.cell.1;have hmm:=hMw.m1;rw[hov]at t1;have sZ:=aa hov;clear hMw hrow hfr hty hb2 aeg hov;obtain⟨ok,oy,ov⟩:=o0;simp only at hkd hky hvl;subst hvl;obtain⟨q,rfl⟩:=dZ hky.1;have hq3:q<3:=by omega
     obtain⟨v1,hv1⟩:∃v1,EW n t.ops.length ⟨ok,(q:Int),0⟩=⟨ok,(q:Int),v1⟩:=by
      unfold EW;split
      ·exact⟨_,rfl⟩
      ·exact⟨_,rfl⟩
     have HV1:=aa hv1;have hstep:=λW bW=>LM.out W bW;have Yn:Hid (∀W,Ext wr W->Calls Tryz.prog 145 #[.pointer (some ⟨w1.heap.size,0,none⟩),.int .i64 (n:Int)] W λe W'=>Ext W W'/\e=.returned (.tuple #[.agg #[.int .i64 ok,.int .i64 (q:Int),.int .i64 v1],.bool true])):=λW bW=>(hstep W bW).mono (λe W' h=>⟨h.1,by rw[h.2.1 _ TM.out,HV1.out];rfl⟩);clear hstep hv1 LM;go_wp2_with fail
     refine(Yn.out _ (af _)).mono ?_
     rintro e w3 ⟨b3,rfl⟩;have b4:=b3.alloc (.cells #[.int .i64 ok,.int .i64 (q:Int),.int .i64 v1] 67);have y0:=b4.cell t0;have y1:=b4.cell t1;have y2:=b4.cell t2;have ym:=b4.cell hmm;have uW:=aa b4;have JP:=aa b3.size;clear t0 t1 t2 hmm b3 b4 Yn;have aec:=HS.out.ext uW.out;obtain⟨_,hV,hVE,hKB,hBB⟩:=id aec;have HM4:=aa (HM.out.ext uW.out);have HV4:=aa hV;have Wx:=aa hVE;have OI:=aa hKB;have Sa:=aa hBB;have adF:=aa (HB.out.trans uW.out);clear aec hV hVE hKB hBB;by_cases h0:t.ops.length=0
     case' pos=>
      have h0e:((t.ops.length:Int)==0)=true:=by simp[h0]
      have Tx:=aa (yl HT.out h0);have va0:(w3.alloc (.cells #[.int .i64 ok,.int .i64 (q:Int),.int .i64 v1] 67)).cell? ⟨VV,0,none⟩=some (.int .i64 (m.vals 0)):=HV4.out.cell (by omega);have va1:(w3.alloc (.cells #[.int .i64 ok,.int .i64 (q:Int),.int .i64 v1] 67)).cell? ⟨VV,1,none⟩=some (.int .i64 (m.vals 1)):=HV4.out.cell (by omega);have va2:(w3.alloc (.cells #[.int .i64 ok,.int .i64 (q:Int),.int .i64 v1] 67)).cell? ⟨VV,2,none⟩=some (.int .i64 (m.vals 2)):=HV4.out.cell (by omega);have ve0:(w3.alloc (.cells #[.int .i64 ok,.int .i64 (q:Int),.int .i64 v1] 67)).cell? ⟨VE,0,none⟩=some (.int .i64 (m.dK 0)):=Wx.out.cell (by omega);have ve1:(w3.alloc (.cells #[.int .i64 ok,.int .i64 (q:Int),.int .i64 v1] 67)).cell? ⟨VE,1,none⟩=some (.int .i64 (m.dK 1)):=Wx.out.cell (by omega);have ve2:(w3.alloc (.cells #[.int .i64 ok,.int .i64 (q:Int),.int .i64 v1] 67)).cell? ⟨VE,2,none⟩=some (.int .i64 (m.dK 2)):=Wx.out.cell (by omega);have kb0:=OI.out.cell (o:=n*3) (by omega);have kb1:=OI.out.cell (o:=n*3+1) (by omega);have kb2:=OI.out.cell (o:=n*3+2) (by omega);have bb0:=Sa.out.cell (o:=n*3) (by omega);have bb1:=Sa.out.cell (o:=n*3+1) (by omega);have bb2:=Sa.out.cell (o:=n*3+2) (by omega);have kf:=OI.out.free;have bf:=Sa.out.free;have adZ:(0:Int)<=(n:Int):=by omega
      have adR:(n:Int)<4:=by omega
      clear h0;go_wp2;go_region_held3 (λV=>V.cell? ⟨VV,0,none⟩=some (.int .i64 (m.vals 0))/\V.cell? ⟨VV,1,none⟩=some (.int .i64 (m.vals 1))/\V.cell? ⟨VV,2,none⟩=some (.int .i64 (m.vals 2))/\V.cell? ⟨VE,0,none⟩=some (.int .i64 (m.dK 0))/\V.cell? ⟨VE,1,none⟩=some (.int .i64 (m.dK 1))/\V.cell? ⟨VE,2,none⟩=some (.int .i64 (m.dK 2))) (go_keep) (fail)
      have hkl:KB<w3.heap.size:=by have:=OI.out.lt;have h9:=HS.out.2.2.2.1.lt;have:=JP.out;omega
      have Xu:BB<w3.heap.size:=by have h9:=HS.out.2.2.2.2.lt;have:=JP.out;omega
      have FX:dz (λi=>i=KB∨i=BB) (w3.alloc (.cells #[.int .i64 ok,.int .i64 (q:Int),.int .i64 v1] 67)) (((((((w3.alloc (.cells #[.int .i64 ok,.int .i64 (q:Int),.int .i64 v1] 67)).setCell ⟨KB,n*3,none⟩ (.int .i64 (m.vals 0))).setCell ⟨KB,n*3+1,none⟩ (.int .i64 (m.vals 1))).setCell ⟨KB,n*3+2,none⟩ (.int .i64 (m.vals 2))).setCell ⟨BB,n*3,none⟩ (.int .i64 (m.dK 0))).setCell ⟨BB,n*3+1,none⟩ (.int .i64 (m.dK 1))).setCell ⟨BB,n*3+2,none⟩ (.int .i64 (m.dK 2))).drew:=
       (((((((dz.refl (λi=>i=KB∨i=BB) (w3.alloc (.cells #[.int .i64 ok,.int .i64 (q:Int),.int .i64 v1] 67))).setCell (p:=⟨KB,n*3,none⟩) (.inl (.inl rfl)) _).setCell (p:=⟨KB,n*3+1,none⟩) (.inl (.inl rfl)) _).setCell (p:=⟨KB,n*3+2,none⟩) (.inl (.inl rfl)) _).setCell (p:=⟨BB,n*3,none⟩) (.inl (.inr rfl)) _).setCell (p:=⟨BB,n*3+1,none⟩) (.inl (.inr rfl)) _).setCell (p:=⟨BB,n*3+2,none⟩) (.inl (.inr rfl)) _).drew
      have fx0:=FX.cell (p:=⟨w3.heap.size,0,none⟩) (aF rfl:(w3.alloc (.cells #[.int .i64 ok,.int .i64 (q:Int),.int .i64 v1] 67)).cell? _=some (.int .i64 ok)) (by simp;omega);have fx1:=FX.cell (p:=⟨w3.heap.size,1,none⟩) (aF rfl:(w3.alloc (.cells #[.int .i64 ok,.int .i64 (q:Int),.int .i64 v1] 67)).cell? _=some (.int .i64 (q:Int))) (by simp;omega);have fx2:=FX.cell (p:=⟨w3.heap.size,2,none⟩) (aF rfl:(w3.alloc (.cells #[.int .i64 ok,.int .i64 (q:Int),.int .i64 v1] 67)).cell? _=some (.int .i64 v1)) (by simp;omega);have fxf:∀i,((((((((w3.alloc (.cells #[.int .i64 ok,.int .i64 (q:Int),.int .i64 v1] 67)).setCell ⟨KB,n*3,none⟩ (.int .i64 (m.vals 0))).setCell ⟨KB,n*3+1,none⟩ (.int .i64 (m.vals 1))).setCell ⟨KB,n*3+2,none⟩ (.int .i64 (m.vals 2))).setCell ⟨BB,n*3,none⟩ (.int .i64 (m.dK 0))).setCell ⟨BB,n*3+1,none⟩ (.int .i64 (m.dK 1))).setCell ⟨BB,n*3+2,none⟩ (.int .i64 (m.dK 2))).drew).frozen? ⟨w3.heap.size,i,none⟩=false:=λi=>(FX.frozen (p:=⟨w3.heap.size,i,none⟩) (by simp) (by simp;omega)).trans (jf i rfl);have gM:=HM4.out.frX FX (λi hi e=>by
       rcases e with e|e
       ·exact HM4.out.far OI.out (by decide) (by decide) (by decide) (by rw[<-e];exact hi)
       ·exact HM4.out.far Sa.out (by decide) (by decide) (by decide) (by rw[<-e];exact hi))
      have gV:=HV4.out.frX FX (λe=>e.elim hne1 hne2);have gVE:=Wx.out.frX FX (λe=>e.elim afm afD);have gX:=FX.out adF.out (λi e=>by omega);have hmod:∀j,j<3->(n*3+j)/3=n/\(n*3+j)%3=j:=λj hj=>by omega
      have Sy:∀(f:Nat->j3) (sv:j3) j,j<3->fK (wZ f n sv) (n*3+j)=sv (j:Int):=λf sv j hj=>by rw[YO,aj (hmod j hj).1,(hmod j hj).2]
      have hoth:∀(f:Nat->j3) (sv:j3) o,o≠n*3->o≠n*3+1->o≠n*3+2->fK (wZ f n sv) o=fK f o:=λf sv o h0 h1 h2=>by rw[YO,au (by omega)]
      have gKB:TW 161 (((((((w3.alloc (.cells #[.int .i64 ok,.int .i64 (q:Int),.int .i64 v1] 67)).setCell ⟨KB,n*3,none⟩ (.int .i64 (m.vals 0))).setCell ⟨KB,n*3+1,none⟩ (.int .i64 (m.vals 1))).setCell ⟨KB,n*3+2,none⟩ (.int .i64 (m.vals 2))).setCell ⟨BB,n*3,none⟩ (.int .i64 (m.dK 0))).setCell ⟨BB,n*3+1,none⟩ (.int .i64 (m.dK 1))).setCell ⟨BB,n*3+2,none⟩ (.int .i64 (m.dK 2))).drew KB 12 (fK (ay m n).kept):=by
       rw[Tx.out.1]
       exact((((OI.out.acV (j:=n*3) (by omega) (Sy m.kept m.vals 0 (by omega)) (Sy m.kept m.vals 1 (by omega)) (Sy m.kept m.vals 2 (by omega)) (hoth m.kept m.vals)).other (a:=⟨BB,n*3,none⟩) abk _).other (a:=⟨BB,n*3+1,none⟩) abk _).other (a:=⟨BB,n*3+2,none⟩) abk _).ext (af _).drew
      have gBB:TW 161 (((((((w3.alloc (.cells #[.int .i64 ok,.int .i64 (q:Int),.int .i64 v1] 67)).setCell ⟨KB,n*3,none⟩ (.int .i64 (m.vals 0))).setCell ⟨KB,n*3+1,none⟩ (.int .i64 (m.vals 1))).setCell ⟨KB,n*3+2,none⟩ (.int .i64 (m.vals 2))).setCell ⟨BB,n*3,none⟩ (.int .i64 (m.dK 0))).setCell ⟨BB,n*3+1,none⟩ (.int .i64 (m.dK 1))).setCell ⟨BB,n*3+2,none⟩ (.int .i64 (m.dK 2))).drew BB 12 (fK (ay m n).began):=by
       rw[Tx.out.2]
       exact((((Sa.out.other (a:=⟨KB,n*3,none⟩) hne5 _).other (a:=⟨KB,n*3+1,none⟩) hne5 _).other (a:=⟨KB,n*3+2,none⟩) hne5 _).acV (j:=n*3) (by omega) (Sy m.began m.dK 0 (by omega)) (Sy m.began m.dK 1 (by omega)) (Sy m.began m.dK 2 (by omega)) (hoth m.began m.dK)).ext (af _).drew
      clear va0 va1 va2 ve0 ve1 ve2 kb0 kb1 kb2 bb0 bb1 bb2 kf bf hmod Sy hoth FX h0e y0 y1 y2 ym hkl Xu Tx;generalize hw5:(((((((w3.alloc (.cells #[.int .i64 ok,.int .i64 (q:Int),.int .i64 v1] 67)).setCell ⟨KB,n*3,none⟩ (.int .i64 (m.vals 0))).setCell ⟨KB,n*3+1,none⟩ (.int .i64 (m.vals 1))).setCell ⟨KB,n*3+2,none⟩ (.int .i64 (m.vals 2))).setCell ⟨BB,n*3,none⟩ (.int .i64 (m.dK 0))).setCell ⟨BB,n*3+1,none⟩ (.int .i64 (m.dK 1))).setCell ⟨BB,n*3+2,none⟩ (.int .i64 (m.dK 2))).drew=w5 at fx0 fx1 fx2 fxf gM gV gVE gX gKB gBB ⊢;clear hw5;go_wp2_with fail
     case' neg=>
      have h0e:((t.ops.length:Int)==0)=false:=by simpa using h0
      have Tx:=aa (Gz HT.out h0);clear h0;go_wp2_with fail
      have fx0:(w3.alloc (.cells #[.int .i64 ok,.int .i64 (q:Int),.int .i64 v1] 67)).cell? ⟨w3.heap.size,0,none⟩=some (.int .i64 ok):=aF rfl;have fx1:(w3.alloc (.cells #[.int .i64 ok,.int .i64 (q:Int),.int .i64 v1] 67)).cell? ⟨w3.heap.size,1,none⟩=some (.int .i64 (q:Int)):=aF rfl;have fx2:(w3.alloc (.cells #[.int .i64 ok,.int .i64 (q:Int),.int .i64 v1] 67)).cell? ⟨w3.heap.size,2,none⟩=some (.int .i64 v1):=aF rfl;have fxf:∀i,(w3.alloc (.cells #[.int .i64 ok,.int .i64 (q:Int),.int .i64 v1] 67)).frozen? ⟨w3.heap.size,i,none⟩=false:=λi=>jf i rfl;have gM:=HM4.out;have gV:=HV4.out;have gVE:=Wx.out;have gX:=adF.out;have gKB:TW 161 (w3.alloc (.cells #[.int .i64 ok,.int .i64 (q:Int),.int .i64 v1] 67)) KB 12 (fK (ay m n).kept):=by rw[Tx.out.1];exact OI.out
      have gBB:TW 161 (w3.alloc (.cells #[.int .i64 ok,.int .i64 (q:Int),.int .i64 v1] 67)) BB 12 (fK (ay m n).began):=by rw[Tx.out.2];exact Sa.out
      clear h0e y0 y1 y2 ym Tx;generalize hw5:(w3.alloc (.cells #[.int .i64 ok,.int .i64 (q:Int),.int .i64 v1] 67))=w5 at fx0 fx1 fx2 fxf gM gV gVE gX gKB gBB ⊢;clear hw5
     all_goals
      have Za:=aa fx0;have aay:=aa fx1;have Yp:=aa fx2;have abr:=aa fxf;have HGM:=aa gM;have HGV:=aa gV;have Zv:=aa gVE;have HGX:=aa gX;have YX:=aa gKB;have YY:=aa gBB;clear fx0 fx1 fx2 fxf gM gV gVE gX gKB gBB;by_cases hrd:ok=1
     all_goals first
      | (have hok2:ok=2:=hkd.resolve_left hrd
         subst hok2;clear hrd hkd
         refine(iA 2 _ _ _).mono ?_
         rw[show ((2:Int)==1)=false from rfl];rintro e w6 ⟨rfl,hw6⟩;have b6:Ext w5 w6:=(by rw[<-hw6];exact(af _).alloc _);clear hw6;have Y3:=aa (HGM.out.ext b6);have HV8:=aa (HGV.out.ext b6);have Y7:=aa (Zv.out.ext b6);have HK8:=aa (YX.out.ext b6);have QM:=aa (YY.out.ext b6);have OU:=aa (HGX.out.trans b6);have u0:=b6.cell Za.out;have u1:=b6.cell aay.out;have u2:=b6.cell Yp.out;have vT:Hid (l9 (ay m n) n ⟨2,(q:Int),0⟩=⟨2,(q:Int),v1⟩):=by show _ = _;have hv:=HV1.out;unfold EW at hv;rw[aj (show jQ ⟨2,(q:Int),0⟩=true from rfl)]at hv;rw[mF.out,aj (show jQ ⟨2,(q:Int),0⟩=true from rfl)];exact hv
         clear mF b6;go_wp2_with fail
         clear u0 u1 u2
         refine(Tj (w0:=w1) ⟨2,(q:Int),v1⟩ Y3.out HT.out hn4 (by omega) OU.out.size OU.out (av _) (av _) (Ju.out.ext HB1.out) HD.out hd4 (by have:=U7.out.len;omega)).mono ?_
         rintro e w9 ⟨rfl,X9,K9,rs9,M9⟩;have Ci:Hid ((t.ops.length+1≠d.steps.length->cz p (k+1)=jm (ay m n) n ⟨2,(q:Int),v1⟩ false)/\(t.ops.length+1=d.steps.length->oF (ay m n).dK ((ay m n).began n) (bQ (t.ops++[⟨2,(q:Int),v1⟩]))=true->cz p (k+1)={ jm (ay m n) n ⟨2,(q:Int),v1⟩ true with vals:=jJ m.vals (bQ (t.ops++[⟨2,(q:Int),v1⟩])),dK:=iT m.dK (bQ (t.ops++[⟨2,(q:Int),v1⟩])) })/\(t.ops.length+1=d.steps.length->oF (ay m n).dK ((ay m n).began n) (bQ (t.ops++[⟨2,(q:Int),v1⟩]))=false->cz p (k+1)=jm (ay m n) n ⟨2,(q:Int),v1⟩ false)):=by
          refine⟨λh=>?_,λh hf=>?_,λh hf=>?_⟩
          ·rw[jC.out,wE HT.out HD.out TM.out h,vT.out]
          ·rw[jC.out,nS HT.out HD.out TM.out h,vT.out,DX HT.out hf]
          ·rw[jC.out,nS HT.out HD.out TM.out h,vT.out,I7 HT.out hf]
         have ED:Hid (∀x∈bQ (t.ops++[⟨2,(q:Int),v1⟩]),∃z:Nat,z<3/\x.key=(z:Int)):=λx hx=>by
          have:=(kK.1 hx).1
          rcases this with h|h|h
          ·exact⟨0,by omega,by rw[h];rfl⟩
          ·exact⟨1,by omega,by rw[h];rfl⟩
          ·exact⟨2,by omega,by rw[h];rfl⟩
         have Y4:=aa M9;have Jn:=aa X9;have HV9:=aa (HV8.out.qU K9 (by decide) (by decide));have Qz:=aa (Y7.out.qU K9 (by decide) (by decide));have HK9:=aa (HK8.out.qU K9 (by decide) (by decide));have Zb:=aa (QM.out.qU K9 (by decide) (by decide));clear X9 K9 M9 HV8 Y7 HK8 QM OU Y3 vT HGM HGV Zv HGX YX YY Za aay Yp abr;generalize (⟨2,(q:Int),v1⟩:aV)=o2 at Ci ED Y4)
      | (have hok1:ok=1:=hrd
         subst hok1
         refine(iA 1 _ _ _).mono ?_
         rw[show ((1:Int)==1)=true from rfl];rintro e w6 ⟨rfl,hw6⟩;have b6:Ext w5 w6:=(by rw[<-hw6];exact(af _).alloc _);clear hw6;have gM6:=HGM.out.ext b6;obtain⟨b3,Cz,r3,hA3,hb3,Zx,hr3,t0,t1,t2,hrow3,afC,aeY⟩:=gM6.at HT.out;injection hA3 with hA3;injection hA3 with aa8 abX;subst aa8 abX;rw[hr]at hr3;injection hr3 with hr3;subst hr3;rw[sZ.out]at t1;have XW:=hrow3.cell.1;rw[sZ.out]at XW;have aet:=aa XW;have tm:=gM6.m1;obtain⟨ks,hks⟩:∃ks,(ay m n).kept n=ks:=⟨_,rfl⟩;have hkk:∀j,j<3->fK (ay m n).kept (n*3+j)=ks (j:Int):=λj hj=>by unfold fK;rw[show (n*3+j)/3=n by omega,show (n*3+j)%3=j by omega,hks]
         have kb0:w6.cell? ⟨KB,n*3,none⟩=some (.int .i64 (ks 0)):=(YX.out.ext b6).cell (o:=n*3) (by omega) |>.trans (by rw[show n*3=n*3+0 from rfl,hkk 0 (by omega)];rfl);have kb1:w6.cell? ⟨KB,n*3+1,none⟩=some (.int .i64 (ks 1)):=(YX.out.ext b6).cell (o:=n*3+1) (by omega) |>.trans (by rw[hkk 1 (by omega)];rfl);have kb2:w6.cell? ⟨KB,n*3+2,none⟩=some (.int .i64 (ks 2)):=(YX.out.ext b6).cell (o:=n*3+2) (by omega) |>.trans (by rw[hkk 2 (by omega)];rfl);have HKS:=aa hks;have x0:=b6.cell Za.out;have x1:=b6.cell aay.out;have x2:=b6.cell Yp.out;have xf:=(b6.frozen (p:=⟨w3.heap.size,2,none⟩) (World.block_lt_of_cell? _ _ Yp.out)).trans (abr.out 2);have Uj:=aa (YA t (.slice Ao t.ops.length co) ks q w6.drew hq3 (aet.out.ext (af _).drew) (by omega));have aff:=aa gM6;have zi:=aa b6;have adZ:(0:Int)<=(n:Int):=by omega
         have adR:(n:Int)<4:=by omega
         clear gM6 hrow3 afC aeY hb3 Zx XW hkk hks b6;clear hrd hkd;have nx1:w1.heap.size≠w3.heap.size:=by have h1:=HM.out.lt (.inl rfl);have h2:=JP.out;omega
         have nx2:b2≠w3.heap.size:=by have h1:=HM.out.lt (.inr (.inl ⟨_,_,_,rfl,by omega,rfl⟩));have h2:=JP.out;simp only at h1;omega
         have nx3:KB≠w3.heap.size:=by have h1:=HS.out.2.2.2.1.lt;have h2:=JP.out;omega
         go_wp2;go_region_held3 (λV=>V.cell? ⟨w1.heap.size,1,none⟩=some (.slice (some ⟨b2,off2,none⟩) m.h.length chh)/\V.cell? ⟨b2,off2+n*3,none⟩=some (.int .i64 t.az)/\V.cell? ⟨b2,off2+n*3+1,none⟩=some (.slice Ao t.ops.length co)/\V.cell? ⟨b2,off2+n*3+2,none⟩=some (.bool t.done)/\V.cell? ⟨KB,n*3,none⟩=some (.int .i64 (ks 0))/\V.cell? ⟨KB,n*3+1,none⟩=some (.int .i64 (ks 1))/\V.cell? ⟨KB,n*3+2,none⟩=some (.int .i64 (ks 2))/\V.cell? ⟨w3.heap.size,1,none⟩=some (.int .i64 (q:Int))) (first|exact⟨by assumption,by assumption,by assumption,by assumption,by assumption,by assumption,by assumption,by assumption⟩|go_keep) ((go_at_call 146;refine Uj.out.mono ?_;rintro e w7 ⟨rfl,b7⟩;have zm:=b7.cell (p:=⟨w1.heap.size,1,none⟩) tm;have z0:=b7.cell (p:=⟨b2,off2+n*3,none⟩) t0;have z1:=b7.cell (p:=⟨b2,off2+n*3+1,none⟩) t1;have z2:=b7.cell (p:=⟨b2,off2+n*3+2,none⟩) t2;have k0:=b7.cell (p:=⟨KB,n*3,none⟩) kb0;have k1:=b7.cell (p:=⟨KB,n*3+1,none⟩) kb1;have k2:=b7.cell (p:=⟨KB,n*3+2,none⟩) kb2;have v0:=b7.cell (p:=⟨w3.heap.size,0,none⟩) x0;have v1':=b7.cell (p:=⟨w3.heap.size,1,none⟩) x1;have v2:=b7.cell (p:=⟨w3.heap.size,2,none⟩) x2;have vf:=(b7.frozen (p:=⟨w3.heap.size,2,none⟩) (World.block_lt_of_cell? _ _ x2)).trans xf;have B7:=aa (zi.out.drew.trans b7);have SET:=λ(p:Addr) (v:Value) (hne:p.block≠w3.heap.size) (hc:w7.cell? p=some v)=>(aC (w:=w7) (p:=⟨w3.heap.size,2,none⟩) (q:=p) (by intro e;rw[<-e]at hne;exact hne rfl) (.int .i64 (mE t.ops ks (q:Int)))).trans hc;have r0:=SET ⟨w1.heap.size,1,none⟩ _ nx1 zm;have r1:=SET ⟨b2,off2+n*3,none⟩ _ nx2 z0;have r2:=SET ⟨b2,off2+n*3+1,none⟩ _ nx2 z1;have r3:=SET ⟨b2,off2+n*3+2,none⟩ _ nx2 z2;have r4:=SET ⟨KB,n*3,none⟩ _ nx3 k0;have r5:=SET ⟨KB,n*3+1,none⟩ _ nx3 k1;have r6:=SET ⟨KB,n*3+2,none⟩ _ nx3 k2;have r7:(w7.setCell ⟨w3.heap.size,2,none⟩ (.int .i64 (mE t.ops ks (q:Int)))).cell? ⟨w3.heap.size,1,none⟩=some (.int .i64 (q:Int)):=(aC (by intro e;injection e with _ e _;omega) _).trans v1';clear SET))
         have FZ9:dz (λi=>i=w3.heap.size) w7 (w7.setCell ⟨w3.heap.size,2,none⟩ (.int .i64 (mE t.ops ks (q:Int)))):=(dz.refl (λi=>i=w3.heap.size) w7).setCell (p:=⟨w3.heap.size,2,none⟩) (.inl rfl) _;have hwx:=JP.out;have Y3:=aa ((HGM.out.ext B7.out).frX FZ9 (λi hi e=>by have:=HM.out.lt hi;omega));have HV8:=aa ((HGV.out.ext B7.out).frX FZ9 (λe=>by have:=HS.out.2.1.lt;omega));have Y7:=aa ((Zv.out.ext B7.out).frX FZ9 (λe=>by have:=HS.out.2.2.1.lt;omega));have HK8:=aa ((YX.out.ext B7.out).frX FZ9 (λe=>by have:=HS.out.2.2.2.1.lt;omega));have QM:=aa ((YY.out.ext B7.out).frX FZ9 (λe=>by have:=HS.out.2.2.2.2.lt;omega));have OU:=aa ((HGX.out.trans B7.out).setCell (p:=⟨w3.heap.size,2,none⟩) (by have:=HB.out.size;show w1.heap.size<=w3.heap.size;omega) (.int .i64 (mE t.ops ks (q:Int))));have u0:(w7.setCell ⟨w3.heap.size,2,none⟩ (.int .i64 (mE t.ops ks (q:Int)))).cell? ⟨w3.heap.size,0,none⟩=some (.int .i64 1):=(aC (by intro e;injection e with _ e _;omega) _).trans v0;have u1:(w7.setCell ⟨w3.heap.size,2,none⟩ (.int .i64 (mE t.ops ks (q:Int)))).cell? ⟨w3.heap.size,1,none⟩=some (.int .i64 (q:Int)):=(aC (by intro e;injection e with _ e _;omega) _).trans v1';have u2:(w7.setCell ⟨w3.heap.size,2,none⟩ (.int .i64 (mE t.ops ks (q:Int)))).cell? ⟨w3.heap.size,2,none⟩=some (.int .i64 (mE t.ops ks (q:Int))):=fJ v2 _;have vT:Hid (l9 (ay m n) n ⟨1,(q:Int),0⟩=⟨1,(q:Int),mE t.ops ks (q:Int)⟩):=by show _ = _;rw[mF.out,au (show ¬jQ ⟨1,(q:Int),0⟩=true from by simp[jQ]),HKS.out]
         clear FZ9 r0 r1 r2 r3 r4 r5 r6 r7 nx1 nx2 nx3 zm z0 z1 z2 k0 k1 k2 v0 v1' v2 vf tm t0 t1 t2 kb0 kb1 kb2 x0 x1 x2 xf Uj aff zi mF;generalize mE t.ops ks (q:Int)=sv at Y3 HV8 Y7 HK8 QM OU u0 u1 u2 vT ⊢;generalize w7.setCell ⟨w3.heap.size,2,none⟩ (.int .i64 sv)=w8 at Y3 HV8 Y7 HK8 QM OU u0 u1 u2 ⊢;go_wp2_with fail
         clear u0 u1 u2
         refine(Tj (w0:=w1) ⟨1,(q:Int),sv⟩ Y3.out HT.out hn4 (by omega) OU.out.size OU.out (av _) (av _) (Ju.out.ext HB1.out) HD.out hd4 (by have:=U7.out.len;omega)).mono ?_
         rintro e w9 ⟨rfl,X9,K9,rs9,M9⟩;have Ci:Hid ((t.ops.length+1≠d.steps.length->cz p (k+1)=jm (ay m n) n ⟨1,(q:Int),sv⟩ false)/\(t.ops.length+1=d.steps.length->oF (ay m n).dK ((ay m n).began n) (bQ (t.ops++[⟨1,(q:Int),sv⟩]))=true->cz p (k+1)={ jm (ay m n) n ⟨1,(q:Int),sv⟩ true with vals:=jJ m.vals (bQ (t.ops++[⟨1,(q:Int),sv⟩])),dK:=iT m.dK (bQ (t.ops++[⟨1,(q:Int),sv⟩])) })/\(t.ops.length+1=d.steps.length->oF (ay m n).dK ((ay m n).began n) (bQ (t.ops++[⟨1,(q:Int),sv⟩]))=false->cz p (k+1)=jm (ay m n) n ⟨1,(q:Int),sv⟩ false)):=by
          refine⟨λh=>?_,λh hf=>?_,λh hf=>?_⟩
          ·rw[jC.out,wE HT.out HD.out TM.out h,vT.out]
          ·rw[jC.out,nS HT.out HD.out TM.out h,vT.out,DX HT.out hf]
          ·rw[jC.out,nS HT.out HD.out TM.out h,vT.out,I7 HT.out hf]
         have ED:Hid (∀x∈bQ (t.ops++[⟨1,(q:Int),sv⟩]),∃z:Nat,z<3/\x.key=(z:Int)):=λx hx=>by
          have:=(kK.1 hx).1
          rcases this with h|h|h
          ·exact⟨0,by omega,by rw[h];rfl⟩
          ·exact⟨1,by omega,by rw[h];rfl⟩
          ·exact⟨2,by omega,by rw[h];rfl⟩
         have Y4:=aa M9;have Jn:=aa X9;have HV9:=aa (HV8.out.qU K9 (by decide) (by decide));have Qz:=aa (Y7.out.qU K9 (by decide) (by decide));have HK9:=aa (HK8.out.qU K9 (by decide) (by decide));have Zb:=aa (QM.out.qU K9 (by decide) (by decide));clear X9 K9 M9 HV8 Y7 HK8 QM OU Y3 vT HGM HGV Zv HGX YX YY Za aay Yp abr;generalize (⟨1,(q:Int),sv⟩:aV)=o2 at Ci ED Y4)
     all_goals
      have abI:t.ops.length<d.steps.length:=(bG.1 TM.out).1;have htd:t.done=false:=QC.out n t d HT.out HD.out abI;have hm9:=Y4.out;rw[htd]at hm9;replace Y4:=aa hm9;have ad4:Hid (Tq w1.heap.size w1.heap.size VV VE KB BB (.slice A p.length c) w9 (jm (ay m n) n o2 false)):=
       ⟨⟨_,_,by rw[F5 _ _ HT.out];exact Y4.out⟩,by rw[show (jm (ay m n) n o2 false).vals=m.vals from tK m n];exact HV9.out,by rw[show (jm (ay m n) n o2 false).dK=m.dK from lM m n];exact Qz.out,HK9.out,Zb.out⟩
      clear hm9 htd;by_cases hlast:t.ops.length+1=d.steps.length
     all_goals first
      | (have QI:¬(t.ops.length+1=d.steps.length):=hlast
         rw[show decide (t.ops.length+1=d.steps.length)=false from dU QI];have jR:Hid (Tq w1.heap.size w1.heap.size VV VE KB BB (.slice A p.length c) w9 (cz p (k+1))):=by show Tq _ _ _ _ _ _ _ _ _;rw[Ci.out.1 QI];exact ad4.out
         clear hlast QI;go_wp2;go_roundw;case rel=>exact⟨Jn.out,k+1,by omega,by go_num,jR.out⟩
         case measure=>simp[intOf];omega)
      | (rw[show decide (t.ops.length+1=d.steps.length)=true from jw hlast]
         have ht9:(m.h.set n ⟨t.az,t.ops++[o2],false⟩)[n]? =some ⟨t.az,t.ops++[o2],false⟩:=by rw[iO,aj rfl,aj hnl]
         have HT9:=aa ht9;obtain⟨b9,Z7,r9,hA9,hb9,ae0,hr9,t0,t1,t2,Ic,acO,afO⟩:=Y4.out.at ht9;injection hA9 with hA9;injection hA9 with aeQ afz;subst aeQ afz;have hnh:(m.h.set n ⟨t.az,t.ops++[o2],false⟩).length=m.h.length:=iE;have tm:=Y4.out.m1;have aeC:(t.ops++[o2]).length<=4:=by simp;omega
         obtain⟨ops',zM⟩:∃l,t.ops++[o2]=l:=⟨_,rfl⟩;have HEQ:=aa zM;have Wm:=Ci.out;have hkz:=ED.out;rw[zM]at Wm hkz Ic aeC;simp only[zM]at t0 t1 t2;replace Ci:=aa Wm;replace ED:=aa hkz;have Xo:aL 3 encOpr w9 r9.dA ops':=Ic.cell.1;obtain⟨A9,c9,aa5,_⟩:=id Xo;rw[aa5]at t1 Xo;have aba:=aa (l8 t.az false w9 Xo (by omega));have HR9:=aa hr9;have acS:=aa aa5;obtain⟨L,hL⟩:∃L,bQ ops'=L:=⟨_,rfl⟩;have hl3:L.length<=3:=by rw[<-hL];exact AQ ops'
         have LC:=aba.out;rw[hL]at LC Wm hkz;replace aba:=aa LC;replace Ci:=aa Wm;replace ED:=aa hkz;have HLL:=aa hL;have af6:=aa Xo;have aaJ:=aa hlast;have agt:=aa abI;have HD4:=aa hd4;clear hlast abI;have afh:=aa acO;clear ht9 hb9 ae0 hr9 Ic acO afO zM Wm hkz aa5 Xo hL LC hnh;go_wp2_with fail
         refine aba.out.mono ?_;rintro e Yf ⟨v10,rfl,Mt,b10⟩;obtain⟨Al,cl,rfl,acT⟩:=id Mt.cell.1;have afy:=aa acT;have aeZ:=aa b10;have aer:=aa (Qz.out.ext b10);have ac0:=aa (Zb.out.ext b10);clear Mt acT b10 t0 t1 t2 tm;go_wp2;obtain⟨wo,rfl⟩:∃wo:World,wo=wr:=⟨_,rfl⟩;go_loopw [14,85] (λf i wr=>Hid (Ext Yf wr)/\∃j:Nat,j<=L.length/\i=.int .i64 j/\f=.bool (oF (ay m n).dK ((ay m n).began n) (L.take j))) (λ_ i _=>L.length-(intOf i).toNat)
         case' atStart=>exact⟨af _,0,aT _,rfl,rfl⟩
         case' round=>
          obtain⟨HQ,j,hj,rfl,rfl⟩:=hrel;by_cases hjl:j<L.length
          case' pos=>
           obtain⟨bl,ol,rfl,adS,hcl⟩:=afy.out (by omega);obtain⟨x,hx⟩:=ah hjl;obtain⟨z,hz3,qO⟩:=ED.out x (aM hx);have c0:=HQ.out.cell (hcl j x hx 0 (by omega));have c1:=HQ.out.cell (hcl j x hx 1 (by omega));have c2:=HQ.out.cell (hcl j x hx 2 (by omega));simp only[encOpr,fE]at c0 c1 c2;have LJ:=aa (VB (v:=(ay m n).dK) (b:=(ay m n).began n) hx);obtain⟨xk,xy,xv⟩:=x;simp only at qO;subst qO;have hz0:(0:Int)<=(z:Int):=by omega
           have aez:(z:Int)<3:=by omega
           have adZ:(0:Int)<=(n:Int):=by omega
           have adR:(n:Int)<4:=by omega
           have HXQ:=aa ((af wr).alloc (.cells #[.int .i64 xk,.int .i64 (z:Int),.int .i64 xv] 67));obtain⟨f0,hf0⟩:∃f0,oF (ay m n).dK ((ay m n).began n) (L.take j)=f0:=⟨_,rfl⟩;have hnf:=LJ.out;rw[hf0]at hnf;rw[hf0];replace LJ:=aa hnf;clear hcl hx hf0 hnf
           cases f0 with
           | false=>
             have HN5:Hid (oF (ay m n).dK ((ay m n).began n) (L.take (j+1))=false):=by show _ = _;rw[LJ.out];rfl
             go_wp2;refine wp_region_held_drew (S:=λ_=>True) (by kernel_rfl) trivial (λhHeld=>?_);simp only[List.size_toArray,eO,iJ,ig,Nat.reduceAdd];refine fG 0 (.bool false) rfl (iK ⟨by kernel_rfl,λV _=>by go_simp⟩) hHeld ?_;try go_frame
             refine fG 1 (.bool false) rfl (iK ⟨by kernel_rfl,λV _=>by go_simp⟩) hHeld ?_;try go_frame
             refine fG 2 undef rfl (aA ⟨by kernel_rfl,rfl⟩) hHeld ?_;try go_frame
             refine fG 3 undef rfl (aA ⟨by kernel_rfl,rfl⟩) hHeld ?_;try go_frame
             refine fG 4 undef rfl (aA ⟨by kernel_rfl,rfl⟩) hHeld ?_;try go_frame
             refine fG 5 undef rfl (aA ⟨by kernel_rfl,rfl⟩) hHeld ?_;try go_frame
             refine fG 6 undef rfl (aA ⟨by kernel_rfl,rfl⟩) hHeld ?_;try go_frame
             refine fG 7 undef rfl (aA ⟨by kernel_rfl,rfl⟩) hHeld ?_;try go_frame
             refine fG 8 undef rfl (aA ⟨by kernel_rfl,rfl⟩) hHeld ?_;try go_frame
             refine fG 9 undef rfl (aA ⟨by kernel_rfl,rfl⟩) hHeld ?_;try go_frame
             refine fG 10 undef rfl (aA ⟨by kernel_rfl,rfl⟩) hHeld ?_;try go_frame
             refine fG 11 undef rfl (aA ⟨by kernel_rfl,rfl⟩) hHeld ?_;try go_frame
             refine fG 12 undef rfl (aA ⟨by kernel_rfl,rfl⟩) hHeld ?_;try go_frame
             refine fG 13 (.bool false) rfl (iK ⟨by kernel_rfl,λV _=>by go_simp⟩) hHeld ?_;try go_frame
             refine fG 14 (.bool false) rfl (iK ⟨by kernel_rfl,λV _=>by go_simp⟩) hHeld ?_;try go_frame
             refine ji (by kernel_rfl) ?_ _;go_wp2;go_roundw;case rel=>exact⟨(HQ.out.trans HXQ.out).drew,j+1,by omega,by go_num,by rw[HN5.out]⟩
             case measure=>simp[intOf];omega
           | true=>
             have e1:(wr.alloc (.cells #[.int .i64 xk,.int .i64 (z:Int),.int .i64 xv] 67)).cell? ⟨VE,z,none⟩=some (.int .i64 (m.dK (z:Int))):=HXQ.out.cell (HQ.out.cell (aer.out.cell (o:=z) hz3));have e2:(wr.alloc (.cells #[.int .i64 xk,.int .i64 (z:Int),.int .i64 xv] 67)).cell? ⟨BB,n*3+z,none⟩=some (.int .i64 ((ay m n).began n (z:Int))):=by
              have:=HXQ.out.cell (HQ.out.cell (ac0.out.cell (o:=n*3+z) (by omega)))
              rw[this];unfold fK;rw[show (n*3+z)/3=n by omega,show (n*3+z)%3=z by omega]
             have e3:(wr.alloc (.cells #[.int .i64 xk,.int .i64 (z:Int),.int .i64 xv] 67)).cell? ⟨wr.heap.size,1,none⟩=some (.int .i64 (z:Int)):=aF rfl;have HN5:Hid (oF (ay m n).dK ((ay m n).began n) (L.take (j+1))=(m.dK (z:Int)==(ay m n).began n (z:Int))):=by show _ = _;rw[LJ.out,lM];rfl
             obtain⟨g1,hg1⟩:∃g,m.dK (z:Int)=g:=⟨_,rfl⟩;obtain⟨g2,hg2⟩:∃g,(ay m n).began n (z:Int)=g:=⟨_,rfl⟩;have hn5:=HN5.out;rw[hg1]at e1 hn5;rw[hg2]at e2 hn5;replace HN5:=aa hn5;clear hg1 hg2 hn5;go_wp2;refine wp_region_held_drew (S:=(λV:World=>V.cell? ⟨VE,z,none⟩=some (.int .i64 g1)/\V.cell? ⟨BB,n*3+z,none⟩=some (.int .i64 g2)/\V.cell? ⟨wr.heap.size,1,none⟩=some (.int .i64 (z:Int)))) (by kernel_rfl) ⟨e1,e2,e3⟩ (λhHeld=>?_);simp only[List.size_toArray,eO,iJ,ig,Nat.reduceAdd];refine fG 0 (.bool true) rfl (iK ⟨by kernel_rfl,λV ⟨s1,s2,s3⟩=>by go_simp⟩) hHeld ?_;try go_frame
             refine fG 1 (.bool true) rfl (iK ⟨by kernel_rfl,λV ⟨s1,s2,s3⟩=>by go_simp⟩) hHeld ?_;try go_frame
             refine fG 2 (.pointer (some ⟨wr.heap.size,1,none⟩)) rfl (iK ⟨by kernel_rfl,λV ⟨s1,s2,s3⟩=>by go_simp⟩) hHeld ?_;try go_frame
             refine fG 3 (.int .i64 (z:Int)) rfl (iK ⟨by kernel_rfl,λV ⟨s1,s2,s3⟩=>by go_simp⟩) hHeld ?_;try go_frame
             refine fG 4 (.pointer (some ⟨VE,z,none⟩)) rfl (iK ⟨by kernel_rfl,λV ⟨s1,s2,s3⟩=>by go_simp⟩) hHeld ?_;try go_frame
             refine fG 5 (.int .i64 g1) rfl (iK ⟨by kernel_rfl,λV ⟨s1,s2,s3⟩=>by go_simp⟩) hHeld ?_;try go_frame
             refine fG 6 (.int .i64 (n:Int)) rfl (iK ⟨by kernel_rfl,λV ⟨s1,s2,s3⟩=>by go_simp⟩) hHeld ?_;try go_frame
             refine fG 7 (.pointer (some ⟨wr.heap.size,1,none⟩)) rfl (iK ⟨by kernel_rfl,λV ⟨s1,s2,s3⟩=>by go_simp⟩) hHeld ?_;try go_frame
             refine fG 8 (.int .i64 (z:Int)) rfl (iK ⟨by kernel_rfl,λV ⟨s1,s2,s3⟩=>by go_simp⟩) hHeld ?_;try go_frame
             refine fG 9 (.pointer (some ⟨BB,n*3,none⟩)) rfl (iK ⟨by kernel_rfl,λV ⟨s1,s2,s3⟩=>by go_simp⟩) hHeld ?_;try go_frame
             refine fG 10 (.pointer (some ⟨BB,n*3+z,none⟩)) rfl (iK ⟨by kernel_rfl,λV ⟨s1,s2,s3⟩=>by go_simp⟩) hHeld ?_;try go_frame
             refine fG 11 (.int .i64 g2) rfl (iK ⟨by kernel_rfl,λV ⟨s1,s2,s3⟩=>by go_simp⟩) hHeld ?_;try go_frame
             refine fG 12 (.bool (g1==g2)) rfl (iK ⟨by kernel_rfl,λV ⟨s1,s2,s3⟩=>by go_simp⟩) hHeld ?_;try go_frame
             refine fG 13 (.bool (g1==g2)) rfl (iK ⟨by kernel_rfl,λV ⟨s1,s2,s3⟩=>by go_simp⟩) hHeld ?_;try go_frame
             refine fG 14 (.bool (g1==g2)) rfl (iK ⟨by kernel_rfl,λV ⟨s1,s2,s3⟩=>by go_simp⟩) hHeld ?_;try go_frame
             refine ji (by kernel_rfl) ?_ _;clear hHeld;clear e1 e2 e3;go_wp2;go_roundw;case rel=>exact⟨(HQ.out.trans HXQ.out).drew,j+1,by omega,by go_num,by rw[HN5.out]⟩
             case measure=>simp[intOf];omega
          case' neg=>
           obtain rfl:j=L.length:=by omega
           rw[bM];have G7:=aa (aeZ.out.trans HQ.out)
           cases TJ:oF (ay m n).dK ((ay m n).began n) L with
           | false=>
             have jR:Hid (Tq w1.heap.size w1.heap.size VV VE KB BB (.slice A p.length c) wr (cz p (k+1))):=by show Tq _ _ _ _ _ _ _ _ _;rw[Ci.out.2.2 aaJ.out TJ];exact ad4.out.ext G7.out
             clear TJ;go_wp2;go_roundw;case rel=>exact⟨Jn.out.trans G7.out,k+1,by omega,by go_num,jR.out⟩
             case measure=>simp[intOf];omega
           | true=>
             have Zr:=aa TJ;clear TJ;have M12:=Y4.out.ext G7.out;have tm:=M12.m1;have abQ:b2<w9.heap.size:=by have:=Y4.out.lt (.inr (.inl ⟨_,_,_,rfl,by omega,rfl⟩));exact this
             have t2f:wr.frozen? ⟨b2,off2+n*3+2,none⟩=false:=(G7.out.frozen (p:=⟨b2,off2+n*3+2,none⟩) abQ).trans (afh.out _);obtain⟨b8,aeP,r8,hA8,hb8,aar,hr8,t0,t1,t2,Ty,aa2,abE⟩:=M12.at HT9.out;injection hA8 with hA8;injection hA8 with abh ab6;subst abh ab6;rw[HR9.out]at hr8;injection hr8 with hr8;subst hr8;rw[acS.out]at t1;obtain⟨M11,K11⟩:=M12.RS HR9.out HT9.out (by omega);have acC:zJ w1.heap.size w1.heap.size (.slice A p.length c) (wr.setCell ⟨b2,off2+n*3+2,none⟩ (.bool true)) (.slice (some ⟨b2,off2,none⟩) m.h.length chh) (rs9.set n ⟨r9.az,r9.dA,true⟩) (jm (ay m n) n o2 true).h:=by rw[F5 _ _ HT.out];have h9:=M11;rw[List.set_set]at h9;exact h9
             have aep:=aa acC;have Zo:=aa K11;have sm:=M11.m1;have s0:(wr.setCell ⟨b2,off2+n*3+2,none⟩ (.bool true)).cell? ⟨b2,off2+n*3,none⟩=some (.int .i64 t.az):=(aC (by intro e;injection e with _ e _;omega) _).trans t0;have s1:(wr.setCell ⟨b2,off2+n*3+2,none⟩ (.bool true)).cell? ⟨b2,off2+n*3+1,none⟩=some (.slice A9 ops'.length c9):=(aC (by intro e;injection e with _ e _;omega) _).trans t1;have s2:(wr.setCell ⟨b2,off2+n*3+2,none⟩ (.bool true)).cell? ⟨b2,off2+n*3+2,none⟩=some (.bool true):=fJ t2 _;have aaT:aL 3 encOpr (wr.setCell ⟨b2,off2+n*3+2,none⟩ (.bool true)) (.slice A9 ops'.length c9) ops':=by have hq:=(M11.rows n ⟨r9.az,r9.dA,true⟩ ⟨t.az,t.ops++[o2],true⟩ (by rw[iO,aj rfl,aj (bG.1 HR9.out).1]) (by rw[iO,aj rfl,aj (by rw[iE];exact hnl)])).2.2.cell.1;rw[acS.out]at hq;simp only[HEQ.out]at hq;exact hq
             have ab4:=l8 t.az true (wr.setCell ⟨b2,off2+n*3+2,none⟩ (.bool true)) aaT (by omega);rw[HLL.out]at ab4;have abw:=aa ab4;have VD:=aa ((Jn.out.trans G7.out).setCell (p:=⟨b2,off2+n*3+2,none⟩) aar (.bool true));clear M12 M11 acC K11 hb8 aar Ty aa2 abE aaT ab4 abQ;go_wp2_with fail
             refine abw.out.mono ?_;rintro e w12 ⟨v12,rfl,Bq,b12⟩;obtain⟨Am,cm,rfl,adz⟩:=id Bq.cell.1;have HCM:=aa adz;have rA:=aa (show ∀a n' c',(Value.slice Am L.length cm)=.slice (some a) n' c'->0<n'->(wr.setCell ⟨b2,off2+n*3+2,none⟩ (.bool true)).heap.size<=a.block from λa n' c' e hn=>(Bq.cell.2 a n' c' e hn).1);have HVl:Hid (VV<(wr.setCell ⟨b2,off2+n*3+2,none⟩ (.bool true)).heap.size/\VE<(wr.setCell ⟨b2,off2+n*3+2,none⟩ (.bool true)).heap.size):=⟨by simp only[World.setCell,Array.size_modify];exact bR HV9.out.lt G7.out.size,by simp only[World.setCell,Array.size_modify];exact bR Qz.out.lt G7.out.size⟩;have acB:=aa (((HV9.out.ext G7.out).qU Zo.out (by decide) (by decide)).ext b12);have adk:=aa (((Qz.out.ext G7.out).qU Zo.out (by decide) (by decide)).ext b12);have ae9:=aa (((HK9.out.ext G7.out).qU Zo.out (by decide) (by decide)).ext b12);have adv:=aa (((Zb.out.ext G7.out).qU Zo.out (by decide) (by decide)).ext b12);have abj:=aa (aep.out.ext b12);have Uq:=aa (VD.out.trans b12);clear Bq adz b12 sm s0 s1 s2 tm t0 t1 t2 t2f;go_wp2;obtain⟨wo2,rfl⟩:∃wo2:World,wo2=wr:=⟨_,rfl⟩;go_loopw [122] (λi wr=>Hid (dz (λi=>i=VV∨i=VE) w12 wr)/\∃j:Nat,j<=L.length/\i=.int .i64 j/\Hid (TW 160 wr VV 3 (fS (jJ m.vals (L.take j)))/\TW 160 wr VE 3 (fS (iT m.dK (L.take j))))) (λi _=>L.length-(intOf i).toNat)
             case' atStart=>exact⟨dz.refl _ _,0,aT _,rfl,acB.out,adk.out⟩
             case' round=>
              obtain⟨HF,j2,hj2,rfl,HT2⟩:=hrel;by_cases aen:j2<L.length
              case' pos=>
               obtain⟨bl,ol,rfl,adS,hcl⟩:=HCM.out (by omega);have abK:=rA.out _ _ _ rfl (by omega);have hvl:=HVl.out;simp only at abK;have aaC:¬(bl=VV∨bl=VE):=by omega
               obtain⟨x,hx⟩:=ah aen;obtain⟨z,hz3,qO⟩:=ED.out x (aM hx);have c0:=HF.out.cell (hcl j2 x hx 0 (by omega)) aaC;have c1:=HF.out.cell (hcl j2 x hx 1 (by omega)) aaC;have c2:=HF.out.cell (hcl j2 x hx 2 (by omega)) aaC;simp only[encOpr,fE]at c0 c1 c2;have HPN:=aa (EP (s:=m.vals) hx);have HBN:=aa (Ni (s:=m.dK) hx);obtain⟨xk,xy,xv⟩:=x;simp only at qO;subst qO;have hz0:(0:Int)<=(z:Int):=by omega
               have aez:(z:Int)<3:=by omega
               have hbb:=Ac (L.take j2) m.dK (z:Int);have hvb:=HVS.out (z:Int);have htk:(L.take j2).length<=3:=by rw[eY];omega
               obtain⟨ve,hve⟩:∃ve,iT m.dK (L.take j2) (z:Int)=ve:=⟨_,rfl⟩;have agr:0<=ve:=by omega
               have af7:ve<=1000:=by omega
               have HXQ:=aa ((af wr).alloc (.cells #[.int .i64 xk,.int .i64 (z:Int),.int .i64 xv] 67));have gv:=HT2.out.1;have ge:=HT2.out.2;have gv1:=HXQ.out.cell (gv.cell (o:=z) hz3);have gv2:=(gv.ext HXQ.out).free z;have ge0:wr.cell? ⟨VE,z,none⟩=some (.int .i64 ve):=by have:=ge.cell (o:=z) hz3;unfold fS at this;rw[hve]at this;exact this
               have hVw:VV<wr.heap.size:=HT2.out.1.lt;have hEw:VE<wr.heap.size:=HT2.out.2.lt;have agk:VV≠wr.heap.size:=by omega
               have agc:wr.heap.size≠VV:=by omega
               have agm:VE≠wr.heap.size:=by omega
               have agv:wr.heap.size≠VE:=by omega
               have geo:=ge.other (a:=⟨VV,z,none⟩) acp (.int .i64 xv);have ge1:(wr.setCell ⟨VV,z,none⟩ (.int .i64 xv)).cell? ⟨VE,z,none⟩=some (.int .i64 ve):=(aC (by intro e;injection e with e _ _;exact acp e) _).trans ge0;have ge2:((wr.setCell ⟨VV,z,none⟩ (.int .i64 xv)).alloc (.cells #[.int .i64 xk,.int .i64 (z:Int),.int .i64 xv] 67)).cell? ⟨VE,z,none⟩=some (.int .i64 ve):=((af _).alloc _).cell ge1;have ge3:=geo.free z;have ge4:=(geo.ext ((af _).alloc (.cells #[.int .i64 xk,.int .i64 (z:Int),.int .i64 xv] 67))).free z;have ab5:=aa (((gv.set (j:=z) (f':=fS (jJ m.vals (L.take (j2+1)))) hz3 (λo ho=>by rw[HPN.out];exact Xz o ho))).other (a:=⟨VE,z,none⟩) afl (.int .i64 (ve+1)));have aa9:=aa ((ge.other (a:=⟨VV,z,none⟩) acp (.int .i64 xv)).set (j:=z) (f':=fS (iT m.dK (L.take (j2+1)))) hz3 (λo ho=>by rw[HBN.out];exact Xz o ho));have hv1:fS (jJ m.vals (L.take (j2+1))) z=xv:=by rw[HPN.out];exact aaY
               have hv2:fS (iT m.dK (L.take (j2+1))) z=ve+1:=by rw[HBN.out,aaY,hve]
               have ach:=ab5.out;have abR:=aa9.out;rw[hv1]at ach;rw[hv2]at abR;replace ab5:=aa ach;replace aa9:=aa abR;clear hcl hx abK hvl aaC hbb hvb htk gv ge geo hve ach abR hv1 hv2 HPN HBN;go_wp2;go_roundw;case rel=>exact⟨((HF.out.setCell (p:=⟨VV,z,none⟩) (.inl (.inl rfl)) _).setCell (p:=⟨VE,z,none⟩) (.inl (.inr rfl)) _).alloc _,j2+1,by omega,by go_num,ab5.out.ext ((af _).alloc _),aa9.out.ext ((af _).alloc _)⟩
               case measure=>simp[intOf];omega
              case' neg=>
               obtain rfl:j2=L.length:=by omega
               have jR:Hid (Tq w1.heap.size w1.heap.size VV VE KB BB (.slice A p.length c) wr (cz p (k+1))):=by
                have t1:=HT2.out.1;have t2:=HT2.out.2;rw[bM]at t1 t2;have m12:=abj.out.frX HF.out (λi hi e=>by
                 rcases e with e|e
                 ·exact abj.out.far acB.out (by decide) (by decide) (by decide) (by rw[<-e];exact hi)
                 ·exact abj.out.far adk.out (by decide) (by decide) (by decide) (by rw[<-e];exact hi))
                have k12:=ae9.out.frX HF.out (λe=>e.elim afM afZ);have aeU:=adv.out.frX HF.out (λe=>e.elim afR aeV);have e9:=Ci.out.2.1 aaJ.out Zr.out;exact e9▸Tq.last (m1:=jm (ay m n) n o2 true) m12 t1 t2 k12 aeU
               have HXF:=aa (HF.out.out Uq.out (λi e=>by omega));go_wp2;go_roundw;case rel=>exact⟨HXF.out,k+1,by omega,by go_num,jR.out⟩
               case measure=>simp[intOf];omega)
  ·obtain rfl:k=xs.length:=by omega
   obtain⟨⟨hv,rs,hM⟩,_⟩:=HS.out;have abf:=hM.his;rw[HRE.out.2,HRR.out]at abf;have hok:=FY Py.out;rw[HRR.out]at hok;have HC:=aa (Oz wr hM.m1 (qL wr abf (by have:=aR hok;omega) (aJ hok)));have yM:=aa (HB1.out.trans HB.out);clear hM abf hok;go_wp2_with fail
   refine HC.out.mono ?_;rintro e w5 ⟨v,rs5,rfl,g1,g2,g3⟩;have G1:=aa g1;have G2:=aa g2;obtain⟨A5,c5,rfl,_⟩:=id g1.2.1;clear g1 g2;go_wp2;go_returns;exact⟨_,rs5,rfl,G1.out,G2.out.mono yM.out.size,yM.out.trans g3⟩
