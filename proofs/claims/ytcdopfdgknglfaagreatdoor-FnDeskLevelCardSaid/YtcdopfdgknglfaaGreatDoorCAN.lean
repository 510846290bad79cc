/- Lemmas. -/
import Derived.Test.YtcdopfdgknglfaaGreatDoorCAM
set_option maxHeartbeats 16000000
set_option maxRecDepth 8000
set_option linter.all false
namespace Go.Proofs.YtcdopfdgknglfaaGreatDoor
open Go.RowKit
def Jp(base M V VE KB BB:Nat)(pv:Value)(wr:World)(m:pG):Prop:=
 (∃hv rs,sI base M pv wr hv rs m.h)/\TW 160 wr V 3 (fS m.vals)/\TW 160 wr VE 3 (fS m.bG)/\TW 161 wr KB 12 (fK m.kept)/\TW 161 wr BB 12 (fK m.began)
theorem Jp.ext{base M V VE KB BB:Nat}{pv:Value}{w w':World}{m:pG}(h:Jp base M V VE KB BB pv w m)(b:Ext w w'):Jp base M V VE KB BB pv w' m:=
 let ⟨⟨hv,rs,h1⟩,h2,h3,h4,h5⟩:=h
 ⟨⟨hv,rs,h1.ext b⟩,h2.ext b,h3.ext b,h4.ext b,h5.ext b⟩
theorem Mr(f:Nat->jk)(n:Nat)(s:jk)(o:Nat):fK (wu f n s) o=if o/3=n then s ((o%3:Nat):Int) else fK f o:=by
 unfold fK wu
 split<;>rfl
theorem TW.Tg{T:TypeId}{w:World}{g N j:Nat}{f f':Nat->Int}{a b c:Int}(h:TW T w g N f)(hj:j+2<N)(h0:f' j=a)(h1:f' (j+1)=b)(h2:f' (j+2)=c)(hf:∀o,o≠j->o≠j+1->o≠j+2->f' o=f o) :
 TW T (((w.setCell ⟨g,j,none⟩ (.int .i64 a)).setCell ⟨g,j+1,none⟩ (.int .i64 b)).setCell ⟨g,j+2,none⟩ (.int .i64 c)) g N f':=by
 have s1:=h.set (j:=j) (f':=λo=>if o=j then a else f o) (by omega) (λo ho=>by simp[ho]);have s2:=s1.set (j:=j+1) (f':=λo=>if o=j+1 then b else if o=j then a else f o) (by omega) (λo ho=>by simp[ho]);have s3:=s2.set (j:=j+2) (f':=f') (by omega) (λo ho=>by
  by_cases e1:o=j+1
  ·subst e1;simp[h1]
  ·by_cases e0:o=j
   ·subst e0;simp[h0]
   ·simp[e1,e0,hf o e0 e1 ho])
 simp only[ah,h2]at s3;exact s3
theorem TW.frX{T:TypeId}{X:Nat->Prop}{w w':World}{g N:Nat}{f:Nat->Int}(h:TW T w g N f)(b:bF X w w')(hx:¬X g):TW T w' g N f:=by obtain⟨cs,h1,h2,h3⟩:=h;exact⟨cs,b.heap h1 hx,h2,h3⟩
theorem sI.far{base M:Nat}{pv hv:Value}{W:World}{rs:List mo}{h:List aF}(H:sI base M pv W hv rs h){T:TypeId}{g N:Nat}{f:Nat->Int}(hT:TW T W g N f)(h1:T≠164)(h2:T≠48)(h3:T≠67):¬QU M hv rs g:=λhx=>by
 obtain⟨cs,hg,_⟩:=hT;rcases hx with e|⟨a,n,c,e,hn,ea⟩|⟨i,r,hr,e⟩
 ·subst e;rw[H.mb]at hg;injection hg with hg;injection hg with _ e _;exact h1 e.symm
 ·obtain⟨cs',fr,hg'⟩:=H.hi a n c e hn;rw[ea,hg]at hg';injection hg' with hg';injection hg' with _ e _;exact h2 e
 ·obtain⟨t,ht⟩:=au (show i<h.length by rw[<-H.hl];exact(aS.1 hr).1);obtain⟨cs',hg'⟩:=gG (H.rows i r t hr ht).2.2 e;rw[hg]at hg';injection hg' with hg';injection hg' with _ e _;exact h3 e
theorem sI.lt{base M:Nat}{pv hv:Value}{W:World}{rs:List mo}{h:List aF}(H:sI base M pv W hv rs h){i:Nat}(hi:QU M hv rs i):i<W.heap.size:=by
 rcases hi with e|⟨a,n,c,e,hn,ea⟩|⟨j,r,hr,e⟩
 ·subst e
  exact(dB.1 H.mb).1
 ·rw[<-ea]
  exact(H.ho a n c e hn).2.1
 ·obtain⟨t,ht⟩:=au (show j<h.length by rw[<-H.hl];exact(aS.1 hr).1)
  exact(l8 (H.rows j r t hr ht).2.2 e).2
theorem Jp.last{base M V VE KB BB:Nat}{pv hv:Value}{w:World}{rs:List mo}{m1:pG}{v u:jk}(hM:sI base M pv w hv rs m1.h)(h2:TW 160 w V 3 (fS v))(h3:TW 160 w VE 3 (fS u))(h4:TW 161 w KB 12 (fK m1.kept))(h5:TW 161 w BB 12 (fK m1.began)) :
 Jp base M V VE KB BB pv w { m1 with vals:=v,bG:=u }:=⟨⟨hv,rs,hM⟩,h2,h3,h4,h5⟩
theorem uS{pv u:Value}{p:List dZ}(w:World)(HP:vT w pv p)(hp:bJ p=true)(hx:mD encI w u ((dA p.length).map λn:Nat=>(n:Int))) :
 Calls Tryz.prog 104 #[pv,u] w (qc w (jJ p)):=by
 have Yb:=jB hp;obtain⟨A,c,rfl⟩:=HP.slice;have hxl:((dA p.length).map λn:Nat=>(n:Int)).length<=16:=by rw[dF,G8];omega
 have HR:=aa (Ea w HP hp hx (by omega) (λn hn=>by
  obtain⟨q,hq,rfl⟩:=dX.1 hn
  have:=rU hq
  omega))
 obtain⟨Au,cu,rfl,hx0⟩:=id hx;have hx1:0<(dA p.length).length->∃b off,Au=some ⟨b,off,none⟩/\b<w.heap.size/\∀(i:Nat) (n:Nat),(dA p.length)[i]? =some n->w.cell? ⟨b,off+i,none⟩=some (.int .i64 (n:Int)):=λh0=>by obtain⟨b,off,e,hb,hc⟩:=hx0 (by rw[dF];exact h0);exact⟨b,off,e,hb,λi n hn=>hc i (n:Int) (by simp[hn])⟩
 rw[dF]at hxl;have hlm:((dA p.length).map λn:Nat=>(n:Int)).length=(dA p.length).length:=dF _;rw[hlm]at HR ⊢;have YL:Hid (∀k n,(dA p.length)[k]? =some n->fo p (k+1)=stepM p (fo p k) n/\n<p.length):=λk n hn=>⟨nK hn,rU (aN hn)⟩;have WJ:Hid (fo p (dA p.length).length=fo p (dA p.length).length/\(fo p (dA p.length).length).h=jJ p):=⟨rfl,rfl⟩;have Yq:Hid (∀k,k<=(dA p.length).length->kW p (fo p k)/\(∀(i:Nat) t d,(fo p k).h[i]? =some t->p[i]? =some d->t.ops.length<d.steps.length->t.done=false)/\∀x,0<=(fo p k).bG x/\(fo p k).bG x<=3*(k:Int)):=λk hk=>⟨uR hp k hk,AY k hk,IE k hk⟩;obtain⟨xs,hxs⟩:∃xs,dA p.length=xs:=⟨_,rfl⟩;have WG:=HR.out;have Y9:=YL.out;have Qq:=WJ.out;have YT:=Yq.out;rw[hxs]at hxl hx1 WG Y9 Qq YT ⊢;replace HR:=aa WG;replace YL:=aa Y9;replace WJ:=aa Qq;replace Yq:=aa YT;clear hlm hxs WG Y9 Qq YT;have RF:=aa hp;have Jn:=aa HP;have HX0:=aa hx1;clear hp hx hx0 hx1;obtain⟨R,hR⟩:∃R,jJ p=R:=⟨_,rfl⟩;have HRR:=aa hR;rw[hR];clear hR;go_enter Tryz.func104,Tryz.ntmps104;go_wp2_with fail
 refine HR.out.mono ?_;rintro e w1 ⟨rfl,b1⟩;go_wp2_with fail
 refine(BK w1 (Jn.out.ext b1) Yb (λd hd=>(gK (cZ RF.out hd)).2)).mono ?_
 rintro e w2 ⟨hv0,rs0,rfl,hM0,b2⟩;have TN:=aa hM0;have HB1:=aa b1;have HB2:=aa b2;clear hM0 b1 b2 HR;have Nl:Hid (Jp w1.heap.size w1.heap.size w2.heap.size (w2.heap.size+1) (w2.heap.size+1+1) (w2.heap.size+1+1+1) (.slice A p.length c) ((((w2.alloc (.cells #[.int .i64 0,.int .i64 0,.int .i64 0] 160)).alloc (.cells #[.int .i64 0,.int .i64 0,.int .i64 0] 160)).alloc (.cells #[.int .i64 0,.int .i64 0,.int .i64 0,.int .i64 0,.int .i64 0,.int .i64 0,.int .i64 0,.int .i64 0,.int .i64 0,.int .i64 0,.int .i64 0,.int .i64 0] 161)).alloc (.cells #[.int .i64 0,.int .i64 0,.int .i64 0,.int .i64 0,.int .i64 0,.int .i64 0,.int .i64 0,.int .i64 0,.int .i64 0,.int .i64 0,.int .i64 0,.int .i64 0] 161)) (fo p 0)):=by
  have z12:∀o,o<12->(#[.int .i64 0,.int .i64 0,.int .i64 0,.int .i64 0,.int .i64 0,.int .i64 0,.int .i64 0,.int .i64 0,.int .i64 0,.int .i64 0,.int .i64 0,.int .i64 0]:Array Value)[o]? =some (.int .i64 0):=λo ho=>by
   have:o=0∨o=1∨o=2∨o=3∨o=4∨o=5∨o=6∨o=7∨o=8∨o=9∨o=10∨o=11:=by omega
   rcases this with rfl|rfl|rfl|rfl|rfl|rfl|rfl|rfl|rfl|rfl|rfl|rfl<;>rfl
  have z3:∀o,o<3->(#[.int .i64 0,.int .i64 0,.int .i64 0]:Array Value)[o]? =some (.int .i64 0):=λo ho=>by
   have:o=0∨o=1∨o=2:=by omega
   rcases this with rfl|rfl|rfl<;>rfl
  exact⟨⟨_,_,TN.out.ext (((((af w2).alloc _).alloc _).alloc _).alloc _)⟩,(TW.made w2 _ _ _ _ 3 rfl rfl z3).ext ((((af _).alloc _).alloc _).alloc _),(TW.made _ _ _ _ _ 3 (by simp) rfl z3).ext (((af _).alloc _).alloc _),(TW.made _ _ _ _ _ 12 (by simp) rfl z12).ext ((af _).alloc _),TW.made _ _ _ _ _ 12 (by simp) rfl z12⟩
 have GJ:Hid (Ext w1 ((((w2.alloc (.cells #[.int .i64 0,.int .i64 0,.int .i64 0] 160)).alloc (.cells #[.int .i64 0,.int .i64 0,.int .i64 0] 160)).alloc (.cells #[.int .i64 0,.int .i64 0,.int .i64 0,.int .i64 0,.int .i64 0,.int .i64 0,.int .i64 0,.int .i64 0,.int .i64 0,.int .i64 0,.int .i64 0,.int .i64 0] 161)).alloc (.cells #[.int .i64 0,.int .i64 0,.int .i64 0,.int .i64 0,.int .i64 0,.int .i64 0,.int .i64 0,.int .i64 0,.int .i64 0,.int .i64 0,.int .i64 0,.int .i64 0] 161))):=(((HB2.out.alloc _).alloc _).alloc _).alloc _;have Yc:w1.heap.size<=w2.heap.size:=HB2.out.size;go_wp2;generalize TQ:w2.heap.size+1+1+1=BB;generalize SC:w2.heap.size+1+1=KB;generalize S9:w2.heap.size+1=VE;generalize SY:w2.heap.size=VV;have hne1:VV≠KB:=by omega
 have hne2:VV≠BB:=by omega
 have YY:VE≠KB:=by omega
 have WK:VE≠BB:=by omega
 have hne5:KB≠BB:=by omega
 have Qm:VV≠VE:=by omega
 have WY:KB≠VV:=by omega
 have YM:BB≠VV:=by omega
 have Xy:KB≠VE:=by omega
 have Y4:BB≠VE:=by omega
 have Rm:BB≠KB:=by omega
 have YS:VE≠VV:=by omega
 have hlo1:w1.heap.size<=VV:=by omega
 have hlo2:w1.heap.size<=VE:=by omega
 have hlo3:w1.heap.size<=KB:=by omega
 have aaf:w1.heap.size<=BB:=by omega
 rw[TQ,SC,S9,SY]at Nl;clear TQ SC S9 SY Yc;go_loopw [27] (λi wr=>Hid (Ext w1 wr)/\∃k:Nat,k<=xs.length/\i=.int .i64 k/\Hid (Jp w1.heap.size w1.heap.size VV VE KB BB (.slice A p.length c) wr (fo p k))) (λi _=>xs.length-(intOf i).toNat)
 case atStart=>exact⟨GJ.out,0,bR _,rfl,Nl.out⟩
 case round=>
  clear Nl GJ TN;obtain⟨HB,k,hk,rfl,HS⟩:=hrel;by_cases hlt:k<xs.length
  ·obtain⟨b,off,rfl,hbl,hcell⟩:=HX0.out (by omega);obtain⟨n,hn⟩:=au hlt;have c0:=(HB1.out.trans HB.out).cell (hcell k n hn);obtain⟨hnext,hnp⟩:=YL.out k n hn;have lZ:=aa hnext;obtain⟨hro,hdn,hvs⟩:=Yq.out k hk;have Vy:=aa hro;have UW:=aa hdn;have Yd:=aa hvs;obtain⟨m,hm⟩:∃m,fo p k=m:=⟨_,rfl⟩;have h1:=lZ.out;have h2:=Vy.out;have h3:=UW.out;have h4:=Yd.out;have h5:=HS.out;rw[hm]at h1 h2 h3 h4 h5;replace lZ:=aa h1;replace Vy:=aa h2;replace UW:=aa h3;replace Yd:=aa h4;replace HS:=aa h5;obtain⟨d,hd⟩:=au hnp;obtain⟨t,ht⟩:=au (show n<m.h.length by rw[h2.len];exact hnp);obtain⟨hse,hle,hop⟩:=h2.tx n t d ht hd;have hd4:=(gK (cZ RF.out (aN hd))).2;have RJ:n<4:=by omega
   have HT:=aa ht;have HD:=aa hd;obtain⟨⟨hv,rs,hM⟩,hV,VX,Vf,VH⟩:=h5;have HM:=aa hM;have CR:=aa (λW (bW:Ext wr W)=>NL (hM.ext bW) ht RJ (by omega) (HB.out.trans bW) (Jn.out.ext HB1.out) hd hd4 hle);clear hcell hn hnext hro hdn hvs hm h1 h2 h3 h4 hM ht hd hse hop;clear hV VX Vf VH
   cases hs:d.steps[t.ops.length]? with
   | none=>
     have Q0:=aa (tY HT.out HD.out hs);have NS:=aa hs;clear hs;go_wp2_with fail
     refine(CR.out _ (af _)).mono ?_
     rintro e w3 ⟨b3,_,hE⟩;obtain rfl:=hE NS.out;have HB3:=aa b3;clear b3 hE;unfold uY;go_wp2;go_roundw;case rel=>exact⟨(HB.out.trans HB3.out).alloc _,k+1,by omega,by go_num,by rw[lZ.out,Q0.out];exact(HS.out.ext HB3.out).ext ((af _).alloc _)⟩
     case measure=>simp[intOf];omega
   | some o0=>
     have NS:=aa hs;have Ji:=fE (cZ RF.out (aN HD.out)) (aN hs);have hkd:=jD Ji;have Vl:=iO Ji;have hvl:=mO Ji;clear hs Ji;have CS:=aa (Gr (n:=n) o0 HT.out);have RB:=HM.out;obtain⟨Ah,nh,Ym,rfl⟩:∃A nn c,hv=.slice A nn c:=by obtain⟨A,c,e,_⟩:=RB.hs;exact⟨A,_,c,e⟩
     have hnn:nh=m.h.length:=by obtain⟨A,c,e,_⟩:=RB.hs;injection e with _ e _;rw[e,RB.hl]
     subst hnn;obtain⟨b2,off2,r,rfl,hb2,YV,hr,t0,t1,t2,hrow,hfr,hty⟩:=RB.at HT.out;have hnl:n<m.h.length:=(aS.1 HT.out).1;obtain⟨Ao,co,hov,_⟩:=hrow.cell.1;have Uj:=aa hrow.cell.1;have hmm:=RB.m1;rw[hov]at t1;have Gb:=aa hov;clear RB hrow hfr hty hb2 YV hov;obtain⟨ok,oy,ov⟩:=o0;simp only at hkd Vl hvl;subst hvl;obtain⟨q,rfl⟩:=iH Vl.1;have hq3:q<3:=by omega
     obtain⟨v1,hv1⟩:∃v1,wJ n t.ops.length ⟨ok,(q:Int),0⟩=⟨ok,(q:Int),v1⟩:=by
      unfold wJ;split
      ·exact⟨_,rfl⟩
      ·exact⟨_,rfl⟩
     have Z7:=aa hv1;have hstep:=λW bW=>CR.out W bW;have Mx:Hid (∀W,Ext wr W->Calls Tryz.prog 145 #[.pointer (some ⟨w1.heap.size,0,none⟩),.int .i64 (n:Int)] W λe W'=>Ext W W'/\e=.returned (.tuple #[.agg #[.int .i64 ok,.int .i64 (q:Int),.int .i64 v1],.bool true])):=λW bW=>(hstep W bW).mono (λe W' h=>⟨h.1,by rw[h.2.1 _ NS.out,Z7.out];rfl⟩);clear hstep hv1 CR;go_wp2_with fail
     refine(Mx.out _ (af _)).mono ?_
     rintro e w3 ⟨b3,rfl⟩;have b4:=b3.alloc (.cells #[.int .i64 ok,.int .i64 (q:Int),.int .i64 v1] 67);have y0:=b4.cell t0;have y1:=b4.cell t1;have y2:=b4.cell t2;have ym:=b4.cell hmm;have Jt:=aa b4;have Bl:=aa b3.size;clear t0 t1 t2 hmm b3 b4 Mx;have SG:=HS.out.ext Jt.out;obtain⟨_,hV,VX,Vf,VH⟩:=id SG;have U9:=aa (HM.out.ext Jt.out);have Ta:=aa hV;have MV:=aa VX;have Gp:=aa Vf;have Io:=aa VH;have SS:=aa (HB.out.trans Jt.out);clear SG hV VX Vf VH;by_cases h0:t.ops.length=0
     case' pos=>
      have Yk:((t.ops.length:Int)==0)=true:=by simp[h0]
      have QS:=aa (qV HT.out h0);have va0:(w3.alloc (.cells #[.int .i64 ok,.int .i64 (q:Int),.int .i64 v1] 67)).cell? ⟨VV,0,none⟩=some (.int .i64 (m.vals 0)):=Ta.out.cell (by omega);have va1:(w3.alloc (.cells #[.int .i64 ok,.int .i64 (q:Int),.int .i64 v1] 67)).cell? ⟨VV,1,none⟩=some (.int .i64 (m.vals 1)):=Ta.out.cell (by omega);have va2:(w3.alloc (.cells #[.int .i64 ok,.int .i64 (q:Int),.int .i64 v1] 67)).cell? ⟨VV,2,none⟩=some (.int .i64 (m.vals 2)):=Ta.out.cell (by omega);have ve0:(w3.alloc (.cells #[.int .i64 ok,.int .i64 (q:Int),.int .i64 v1] 67)).cell? ⟨VE,0,none⟩=some (.int .i64 (m.bG 0)):=MV.out.cell (by omega);have ve1:(w3.alloc (.cells #[.int .i64 ok,.int .i64 (q:Int),.int .i64 v1] 67)).cell? ⟨VE,1,none⟩=some (.int .i64 (m.bG 1)):=MV.out.cell (by omega);have ve2:(w3.alloc (.cells #[.int .i64 ok,.int .i64 (q:Int),.int .i64 v1] 67)).cell? ⟨VE,2,none⟩=some (.int .i64 (m.bG 2)):=MV.out.cell (by omega);have VU:=Gp.out.cell (o:=n*3) (by omega);have Vq:=Gp.out.cell (o:=n*3+1) (by omega);have VP:=Gp.out.cell (o:=n*3+2) (by omega);have bb0:=Io.out.cell (o:=n*3) (by omega);have bb1:=Io.out.cell (o:=n*3+1) (by omega);have bb2:=Io.out.cell (o:=n*3+2) (by omega);have kf:=Gp.out.free;have bf:=Io.out.free;have TD:(0:Int)<=(n:Int):=by omega
      have UU:(n:Int)<4:=by omega
      clear h0;go_wp2;go_region_held3 (λV=>V.cell? ⟨VV,0,none⟩=some (.int .i64 (m.vals 0))/\V.cell? ⟨VV,1,none⟩=some (.int .i64 (m.vals 1))/\V.cell? ⟨VV,2,none⟩=some (.int .i64 (m.vals 2))/\V.cell? ⟨VE,0,none⟩=some (.int .i64 (m.bG 0))/\V.cell? ⟨VE,1,none⟩=some (.int .i64 (m.bG 1))/\V.cell? ⟨VE,2,none⟩=some (.int .i64 (m.bG 2))) (go_keep) (fail)
      have hkl:KB<w3.heap.size:=by have:=Gp.out.lt;have h9:=HS.out.2.2.2.1.lt;have:=Bl.out;omega
      have Rf:BB<w3.heap.size:=by have h9:=HS.out.2.2.2.2.lt;have:=Bl.out;omega
      have FX:bF (λi=>i=KB∨i=BB) (w3.alloc (.cells #[.int .i64 ok,.int .i64 (q:Int),.int .i64 v1] 67)) (((((((w3.alloc (.cells #[.int .i64 ok,.int .i64 (q:Int),.int .i64 v1] 67)).setCell ⟨KB,n*3,none⟩ (.int .i64 (m.vals 0))).setCell ⟨KB,n*3+1,none⟩ (.int .i64 (m.vals 1))).setCell ⟨KB,n*3+2,none⟩ (.int .i64 (m.vals 2))).setCell ⟨BB,n*3,none⟩ (.int .i64 (m.bG 0))).setCell ⟨BB,n*3+1,none⟩ (.int .i64 (m.bG 1))).setCell ⟨BB,n*3+2,none⟩ (.int .i64 (m.bG 2))).drew:=
       (((((((bF.refl (λi=>i=KB∨i=BB) (w3.alloc (.cells #[.int .i64 ok,.int .i64 (q:Int),.int .i64 v1] 67))).setCell (p:=⟨KB,n*3,none⟩) (.inl (.inl rfl)) _).setCell (p:=⟨KB,n*3+1,none⟩) (.inl (.inl rfl)) _).setCell (p:=⟨KB,n*3+2,none⟩) (.inl (.inl rfl)) _).setCell (p:=⟨BB,n*3,none⟩) (.inl (.inr rfl)) _).setCell (p:=⟨BB,n*3+1,none⟩) (.inl (.inr rfl)) _).setCell (p:=⟨BB,n*3+2,none⟩) (.inl (.inr rfl)) _).drew
      have Tc:=FX.cell (p:=⟨w3.heap.size,0,none⟩) (az rfl:(w3.alloc (.cells #[.int .i64 ok,.int .i64 (q:Int),.int .i64 v1] 67)).cell? _=some (.int .i64 ok)) (by simp;omega);have U4:=FX.cell (p:=⟨w3.heap.size,1,none⟩) (az rfl:(w3.alloc (.cells #[.int .i64 ok,.int .i64 (q:Int),.int .i64 v1] 67)).cell? _=some (.int .i64 (q:Int))) (by simp;omega);have Uu:=FX.cell (p:=⟨w3.heap.size,2,none⟩) (az rfl:(w3.alloc (.cells #[.int .i64 ok,.int .i64 (q:Int),.int .i64 v1] 67)).cell? _=some (.int .i64 v1)) (by simp;omega);have Tx:∀i,((((((((w3.alloc (.cells #[.int .i64 ok,.int .i64 (q:Int),.int .i64 v1] 67)).setCell ⟨KB,n*3,none⟩ (.int .i64 (m.vals 0))).setCell ⟨KB,n*3+1,none⟩ (.int .i64 (m.vals 1))).setCell ⟨KB,n*3+2,none⟩ (.int .i64 (m.vals 2))).setCell ⟨BB,n*3,none⟩ (.int .i64 (m.bG 0))).setCell ⟨BB,n*3+1,none⟩ (.int .i64 (m.bG 1))).setCell ⟨BB,n*3+2,none⟩ (.int .i64 (m.bG 2))).drew).frozen? ⟨w3.heap.size,i,none⟩=false:=λi=>(FX.frozen (p:=⟨w3.heap.size,i,none⟩) (by simp) (by simp;omega)).trans (iy i rfl);have gM:=U9.out.frX FX (λi hi e=>by
       rcases e with e|e
       ·exact U9.out.far Gp.out (by decide) (by decide) (by decide) (by rw[<-e];exact hi)
       ·exact U9.out.far Io.out (by decide) (by decide) (by decide) (by rw[<-e];exact hi))
      have gV:=Ta.out.frX FX (λe=>e.elim hne1 hne2);have Tn:=MV.out.frX FX (λe=>e.elim YY WK);have gX:=FX.out SS.out (λi e=>by omega);have hmod:∀j,j<3->(n*3+j)/3=n/\(n*3+j)%3=j:=λj hj=>by omega
      have GK:∀(f:Nat->jk) (sv:jk) j,j<3->fK (wu f n sv) (n*3+j)=sv (j:Int):=λf sv j hj=>by rw[Mr,ah (hmod j hj).1,(hmod j hj).2]
      have hoth:∀(f:Nat->jk) (sv:jk) o,o≠n*3->o≠n*3+1->o≠n*3+2->fK (wu f n sv) o=fK f o:=λf sv o h0 h1 h2=>by rw[Mr,ak (by omega)]
      have UB:TW 161 (((((((w3.alloc (.cells #[.int .i64 ok,.int .i64 (q:Int),.int .i64 v1] 67)).setCell ⟨KB,n*3,none⟩ (.int .i64 (m.vals 0))).setCell ⟨KB,n*3+1,none⟩ (.int .i64 (m.vals 1))).setCell ⟨KB,n*3+2,none⟩ (.int .i64 (m.vals 2))).setCell ⟨BB,n*3,none⟩ (.int .i64 (m.bG 0))).setCell ⟨BB,n*3+1,none⟩ (.int .i64 (m.bG 1))).setCell ⟨BB,n*3+2,none⟩ (.int .i64 (m.bG 2))).drew KB 12 (fK (aA m n).kept):=by
       rw[QS.out.1]
       exact((((Gp.out.Tg (j:=n*3) (by omega) (GK m.kept m.vals 0 (by omega)) (GK m.kept m.vals 1 (by omega)) (GK m.kept m.vals 2 (by omega)) (hoth m.kept m.vals)).other (a:=⟨BB,n*3,none⟩) Rm _).other (a:=⟨BB,n*3+1,none⟩) Rm _).other (a:=⟨BB,n*3+2,none⟩) Rm _).ext (af _).drew
      have Tk:TW 161 (((((((w3.alloc (.cells #[.int .i64 ok,.int .i64 (q:Int),.int .i64 v1] 67)).setCell ⟨KB,n*3,none⟩ (.int .i64 (m.vals 0))).setCell ⟨KB,n*3+1,none⟩ (.int .i64 (m.vals 1))).setCell ⟨KB,n*3+2,none⟩ (.int .i64 (m.vals 2))).setCell ⟨BB,n*3,none⟩ (.int .i64 (m.bG 0))).setCell ⟨BB,n*3+1,none⟩ (.int .i64 (m.bG 1))).setCell ⟨BB,n*3+2,none⟩ (.int .i64 (m.bG 2))).drew BB 12 (fK (aA m n).began):=by
       rw[QS.out.2]
       exact((((Io.out.other (a:=⟨KB,n*3,none⟩) hne5 _).other (a:=⟨KB,n*3+1,none⟩) hne5 _).other (a:=⟨KB,n*3+2,none⟩) hne5 _).Tg (j:=n*3) (by omega) (GK m.began m.bG 0 (by omega)) (GK m.began m.bG 1 (by omega)) (GK m.began m.bG 2 (by omega)) (hoth m.began m.bG)).ext (af _).drew
      clear va0 va1 va2 ve0 ve1 ve2 VU Vq VP bb0 bb1 bb2 kf bf hmod GK hoth FX Yk y0 y1 y2 ym hkl Rf QS;generalize VK:(((((((w3.alloc (.cells #[.int .i64 ok,.int .i64 (q:Int),.int .i64 v1] 67)).setCell ⟨KB,n*3,none⟩ (.int .i64 (m.vals 0))).setCell ⟨KB,n*3+1,none⟩ (.int .i64 (m.vals 1))).setCell ⟨KB,n*3+2,none⟩ (.int .i64 (m.vals 2))).setCell ⟨BB,n*3,none⟩ (.int .i64 (m.bG 0))).setCell ⟨BB,n*3+1,none⟩ (.int .i64 (m.bG 1))).setCell ⟨BB,n*3+2,none⟩ (.int .i64 (m.bG 2))).drew=w5 at Tc U4 Uu Tx gM gV Tn gX UB Tk ⊢;clear VK;go_wp2_with fail
     case' neg=>
      have Yk:((t.ops.length:Int)==0)=false:=by simpa using h0
      have QS:=aa (qa HT.out h0);clear h0;go_wp2_with fail
      have Tc:(w3.alloc (.cells #[.int .i64 ok,.int .i64 (q:Int),.int .i64 v1] 67)).cell? ⟨w3.heap.size,0,none⟩=some (.int .i64 ok):=az rfl;have U4:(w3.alloc (.cells #[.int .i64 ok,.int .i64 (q:Int),.int .i64 v1] 67)).cell? ⟨w3.heap.size,1,none⟩=some (.int .i64 (q:Int)):=az rfl;have Uu:(w3.alloc (.cells #[.int .i64 ok,.int .i64 (q:Int),.int .i64 v1] 67)).cell? ⟨w3.heap.size,2,none⟩=some (.int .i64 v1):=az rfl;have Tx:∀i,(w3.alloc (.cells #[.int .i64 ok,.int .i64 (q:Int),.int .i64 v1] 67)).frozen? ⟨w3.heap.size,i,none⟩=false:=λi=>iy i rfl;have gM:=U9.out;have gV:=Ta.out;have Tn:=MV.out;have gX:=SS.out;have UB:TW 161 (w3.alloc (.cells #[.int .i64 ok,.int .i64 (q:Int),.int .i64 v1] 67)) KB 12 (fK (aA m n).kept):=by rw[QS.out.1];exact Gp.out
      have Tk:TW 161 (w3.alloc (.cells #[.int .i64 ok,.int .i64 (q:Int),.int .i64 v1] 67)) BB 12 (fK (aA m n).began):=by rw[QS.out.2];exact Io.out
      clear Yk y0 y1 y2 ym QS;generalize VK:(w3.alloc (.cells #[.int .i64 ok,.int .i64 (q:Int),.int .i64 v1] 67))=w5 at Tc U4 Uu Tx gM gV Tn gX UB Tk ⊢;clear VK
     all_goals
      have OU:=aa Tc;have Oo:=aa U4;have MP:=aa Uu;have Qv:=aa Tx;have UA:=aa gM;have Vr:=aa gV;have Oh:=aa Tn;have PM:=aa gX;have NP:=aa UB;have PO:=aa Tk;clear Tc U4 Uu Tx gM gV Tn gX UB Tk;by_cases hrd:ok=1
     all_goals first
      | (have hok2:ok=2:=hkd.resolve_left hrd
         subst hok2;clear hrd hkd
         refine(dL 2 _ _ _).mono ?_
         rw[show ((2:Int)==1)=false from rfl];rintro e w6 ⟨rfl,SV⟩;have b6:Ext w5 w6:=(by rw[<-SV];exact(af _).alloc _);clear SV;have Rt:=aa (UA.out.ext b6);have QH:=aa (Vr.out.ext b6);have KQ:=aa (Oh.out.ext b6);have QI:=aa (NP.out.ext b6);have IA:=aa (PO.out.ext b6);have Od:=aa (PM.out.trans b6);have u0:=b6.cell OU.out;have u1:=b6.cell Oo.out;have u2:=b6.cell MP.out;have sw:Hid (ji (aA m n) n ⟨2,(q:Int),0⟩=⟨2,(q:Int),v1⟩):=by show _ = _;have hv:=Z7.out;unfold wJ at hv;rw[ah (show jl ⟨2,(q:Int),0⟩=true from rfl)]at hv;rw[CS.out,ah (show jl ⟨2,(q:Int),0⟩=true from rfl)];exact hv
         clear CS b6;go_wp2_with fail
         clear u0 u1 u2
         refine(JA (w0:=w1) ⟨2,(q:Int),v1⟩ Rt.out HT.out RJ (by omega) Od.out.size Od.out (ay _) (ay _) (Jn.out.ext HB1.out) HD.out hd4 (by have:=Vy.out.len;omega)).mono ?_
         rintro e w9 ⟨rfl,X9,K9,XO,M9⟩;have uM:Hid ((t.ops.length+1≠d.steps.length->fo p (k+1)=iZ (aA m n) n ⟨2,(q:Int),v1⟩ false)/\(t.ops.length+1=d.steps.length->lY (aA m n).bG ((aA m n).began n) (aV (t.ops++[⟨2,(q:Int),v1⟩]))=true->fo p (k+1)={ iZ (aA m n) n ⟨2,(q:Int),v1⟩ true with vals:=jX m.vals (aV (t.ops++[⟨2,(q:Int),v1⟩])),bG:=fD m.bG (aV (t.ops++[⟨2,(q:Int),v1⟩])) })/\(t.ops.length+1=d.steps.length->lY (aA m n).bG ((aA m n).began n) (aV (t.ops++[⟨2,(q:Int),v1⟩]))=false->fo p (k+1)=iZ (aA m n) n ⟨2,(q:Int),v1⟩ false)):=by
          refine⟨λh=>?_,λh hf=>?_,λh hf=>?_⟩
          ·rw[lZ.out,qg HT.out HD.out NS.out h,sw.out]
          ·rw[lZ.out,kY HT.out HD.out NS.out h,sw.out,vR HT.out hf]
          ·rw[lZ.out,kY HT.out HD.out NS.out h,sw.out,Bd HT.out hf]
         have wO:Hid (∀x∈aV (t.ops++[⟨2,(q:Int),v1⟩]),∃z:Nat,z<3/\x.key=(z:Int)):=λx hx=>by
          have:=(gY.1 hx).1
          rcases this with h|h|h
          ·exact⟨0,by omega,by rw[h];rfl⟩
          ·exact⟨1,by omega,by rw[h];rfl⟩
          ·exact⟨2,by omega,by rw[h];rfl⟩
         have NU:=aa M9;have Vo:=aa X9;have Vz:=aa (QH.out.qA K9 (by decide) (by decide));have K7:=aa (KQ.out.qA K9 (by decide) (by decide));have Qe:=aa (QI.out.qA K9 (by decide) (by decide));have VA:=aa (IA.out.qA K9 (by decide) (by decide));clear X9 K9 M9 QH KQ QI IA Od Rt sw UA Vr Oh PM NP PO OU Oo MP Qv;generalize (⟨2,(q:Int),v1⟩:aJ)=o2 at uM wO NU)
      | (have hok1:ok=1:=hrd
         subst hok1
         refine(dL 1 _ _ _).mono ?_
         rw[show ((1:Int)==1)=true from rfl];rintro e w6 ⟨rfl,SV⟩;have b6:Ext w5 w6:=(by rw[<-SV];exact(af _).alloc _);clear SV;have VO:=UA.out.ext b6;obtain⟨b3,Fx,r3,hA3,hb3,Wu,hr3,t0,t1,t2,hrow3,WN,YN⟩:=VO.at HT.out;injection hA3 with hA3;injection hA3 with Xe Y3;subst Xe Y3;rw[hr]at hr3;injection hr3 with hr3;subst hr3;rw[Gb.out]at t1;have Mt:=hrow3.cell.1;rw[Gb.out]at Mt;have XB:=aa Mt;have tm:=VO.m1;obtain⟨ks,hks⟩:∃ks,(aA m n).kept n=ks:=⟨_,rfl⟩;have hkk:∀j,j<3->fK (aA m n).kept (n*3+j)=ks (j:Int):=λj hj=>by unfold fK;rw[show (n*3+j)/3=n by omega,show (n*3+j)%3=j by omega,hks]
         have VU:w6.cell? ⟨KB,n*3,none⟩=some (.int .i64 (ks 0)):=(NP.out.ext b6).cell (o:=n*3) (by omega) |>.trans (by rw[show n*3=n*3+0 from rfl,hkk 0 (by omega)];rfl);have Vq:w6.cell? ⟨KB,n*3+1,none⟩=some (.int .i64 (ks 1)):=(NP.out.ext b6).cell (o:=n*3+1) (by omega) |>.trans (by rw[hkk 1 (by omega)];rfl);have VP:w6.cell? ⟨KB,n*3+2,none⟩=some (.int .i64 (ks 2)):=(NP.out.ext b6).cell (o:=n*3+2) (by omega) |>.trans (by rw[hkk 2 (by omega)];rfl);have HKS:=aa hks;have x0:=b6.cell OU.out;have x1:=b6.cell Oo.out;have x2:=b6.cell MP.out;have xf:=(b6.frozen (p:=⟨w3.heap.size,2,none⟩) (World.block_lt_of_cell? _ _ MP.out)).trans (Qv.out 2);have Q0:=aa (Ns t (.slice Ao t.ops.length co) ks q w6.drew hq3 (XB.out.ext (af _).drew) (by omega));have WC:=aa VO;have CJ:=aa b6;have TD:(0:Int)<=(n:Int):=by omega
         have UU:(n:Int)<4:=by omega
         clear VO hrow3 WN YN hb3 Wu Mt hkk hks b6;clear hrd hkd;have ZC:w1.heap.size≠w3.heap.size:=by have h1:=HM.out.lt (.inl rfl);have h2:=Bl.out;omega
         have VS:b2≠w3.heap.size:=by have h1:=HM.out.lt (.inr (.inl ⟨_,_,_,rfl,by omega,rfl⟩));have h2:=Bl.out;simp only at h1;omega
         have VN:KB≠w3.heap.size:=by have h1:=HS.out.2.2.2.1.lt;have h2:=Bl.out;omega
         go_wp2;go_region_held3 (λV=>V.cell? ⟨w1.heap.size,1,none⟩=some (.slice (some ⟨b2,off2,none⟩) m.h.length Ym)/\V.cell? ⟨b2,off2+n*3,none⟩=some (.int .i64 t.aD)/\V.cell? ⟨b2,off2+n*3+1,none⟩=some (.slice Ao t.ops.length co)/\V.cell? ⟨b2,off2+n*3+2,none⟩=some (.bool t.done)/\V.cell? ⟨KB,n*3,none⟩=some (.int .i64 (ks 0))/\V.cell? ⟨KB,n*3+1,none⟩=some (.int .i64 (ks 1))/\V.cell? ⟨KB,n*3+2,none⟩=some (.int .i64 (ks 2))/\V.cell? ⟨w3.heap.size,1,none⟩=some (.int .i64 (q:Int))) (first|exact⟨by assumption,by assumption,by assumption,by assumption,by assumption,by assumption,by assumption,by assumption⟩|go_keep) ((go_at_call 146;refine Q0.out.mono ?_;rintro e w7 ⟨rfl,b7⟩;have zm:=b7.cell (p:=⟨w1.heap.size,1,none⟩) tm;have z0:=b7.cell (p:=⟨b2,off2+n*3,none⟩) t0;have z1:=b7.cell (p:=⟨b2,off2+n*3+1,none⟩) t1;have z2:=b7.cell (p:=⟨b2,off2+n*3+2,none⟩) t2;have k0:=b7.cell (p:=⟨KB,n*3,none⟩) VU;have k1:=b7.cell (p:=⟨KB,n*3+1,none⟩) Vq;have k2:=b7.cell (p:=⟨KB,n*3+2,none⟩) VP;have v0:=b7.cell (p:=⟨w3.heap.size,0,none⟩) x0;have v1':=b7.cell (p:=⟨w3.heap.size,1,none⟩) x1;have v2:=b7.cell (p:=⟨w3.heap.size,2,none⟩) x2;have vf:=(b7.frozen (p:=⟨w3.heap.size,2,none⟩) (World.block_lt_of_cell? _ _ x2)).trans xf;have B7:=aa (CJ.out.drew.trans b7);have SET:=λ(p:Addr) (v:Value) (hne:p.block≠w3.heap.size) (hc:w7.cell? p=some v)=>(av (w:=w7) (p:=⟨w3.heap.size,2,none⟩) (q:=p) (by intro e;rw[<-e]at hne;exact hne rfl) (.int .i64 (fH t.ops ks (q:Int)))).trans hc;have r0:=SET ⟨w1.heap.size,1,none⟩ _ ZC zm;have r1:=SET ⟨b2,off2+n*3,none⟩ _ VS z0;have r2:=SET ⟨b2,off2+n*3+1,none⟩ _ VS z1;have r3:=SET ⟨b2,off2+n*3+2,none⟩ _ VS z2;have r4:=SET ⟨KB,n*3,none⟩ _ VN k0;have r5:=SET ⟨KB,n*3+1,none⟩ _ VN k1;have r6:=SET ⟨KB,n*3+2,none⟩ _ VN k2;have r7:(w7.setCell ⟨w3.heap.size,2,none⟩ (.int .i64 (fH t.ops ks (q:Int)))).cell? ⟨w3.heap.size,1,none⟩=some (.int .i64 (q:Int)):=(av (by intro e;injection e with _ e _;omega) _).trans v1';clear SET))
         have RS:bF (λi=>i=w3.heap.size) w7 (w7.setCell ⟨w3.heap.size,2,none⟩ (.int .i64 (fH t.ops ks (q:Int)))):=(bF.refl (λi=>i=w3.heap.size) w7).setCell (p:=⟨w3.heap.size,2,none⟩) (.inl rfl) _;have hwx:=Bl.out;have Rt:=aa ((UA.out.ext B7.out).frX RS (λi hi e=>by have:=HM.out.lt hi;omega));have QH:=aa ((Vr.out.ext B7.out).frX RS (λe=>by have:=HS.out.2.1.lt;omega));have KQ:=aa ((Oh.out.ext B7.out).frX RS (λe=>by have:=HS.out.2.2.1.lt;omega));have QI:=aa ((NP.out.ext B7.out).frX RS (λe=>by have:=HS.out.2.2.2.1.lt;omega));have IA:=aa ((PO.out.ext B7.out).frX RS (λe=>by have:=HS.out.2.2.2.2.lt;omega));have Od:=aa ((PM.out.trans B7.out).setCell (p:=⟨w3.heap.size,2,none⟩) (by have:=HB.out.size;show w1.heap.size<=w3.heap.size;omega) (.int .i64 (fH t.ops ks (q:Int))));have u0:(w7.setCell ⟨w3.heap.size,2,none⟩ (.int .i64 (fH t.ops ks (q:Int)))).cell? ⟨w3.heap.size,0,none⟩=some (.int .i64 1):=(av (by intro e;injection e with _ e _;omega) _).trans v0;have u1:(w7.setCell ⟨w3.heap.size,2,none⟩ (.int .i64 (fH t.ops ks (q:Int)))).cell? ⟨w3.heap.size,1,none⟩=some (.int .i64 (q:Int)):=(av (by intro e;injection e with _ e _;omega) _).trans v1';have u2:(w7.setCell ⟨w3.heap.size,2,none⟩ (.int .i64 (fH t.ops ks (q:Int)))).cell? ⟨w3.heap.size,2,none⟩=some (.int .i64 (fH t.ops ks (q:Int))):=dN v2 _;have sw:Hid (ji (aA m n) n ⟨1,(q:Int),0⟩=⟨1,(q:Int),fH t.ops ks (q:Int)⟩):=by show _ = _;rw[CS.out,ak (show ¬jl ⟨1,(q:Int),0⟩=true from by simp[jl]),HKS.out]
         clear RS r0 r1 r2 r3 r4 r5 r6 r7 ZC VS VN zm z0 z1 z2 k0 k1 k2 v0 v1' v2 vf tm t0 t1 t2 VU Vq VP x0 x1 x2 xf Q0 WC CJ CS;generalize fH t.ops ks (q:Int)=sv at Rt QH KQ QI IA Od u0 u1 u2 sw ⊢;generalize w7.setCell ⟨w3.heap.size,2,none⟩ (.int .i64 sv)=w8 at Rt QH KQ QI IA Od u0 u1 u2 ⊢;go_wp2_with fail
         clear u0 u1 u2
         refine(JA (w0:=w1) ⟨1,(q:Int),sv⟩ Rt.out HT.out RJ (by omega) Od.out.size Od.out (ay _) (ay _) (Jn.out.ext HB1.out) HD.out hd4 (by have:=Vy.out.len;omega)).mono ?_
         rintro e w9 ⟨rfl,X9,K9,XO,M9⟩;have uM:Hid ((t.ops.length+1≠d.steps.length->fo p (k+1)=iZ (aA m n) n ⟨1,(q:Int),sv⟩ false)/\(t.ops.length+1=d.steps.length->lY (aA m n).bG ((aA m n).began n) (aV (t.ops++[⟨1,(q:Int),sv⟩]))=true->fo p (k+1)={ iZ (aA m n) n ⟨1,(q:Int),sv⟩ true with vals:=jX m.vals (aV (t.ops++[⟨1,(q:Int),sv⟩])),bG:=fD m.bG (aV (t.ops++[⟨1,(q:Int),sv⟩])) })/\(t.ops.length+1=d.steps.length->lY (aA m n).bG ((aA m n).began n) (aV (t.ops++[⟨1,(q:Int),sv⟩]))=false->fo p (k+1)=iZ (aA m n) n ⟨1,(q:Int),sv⟩ false)):=by
          refine⟨λh=>?_,λh hf=>?_,λh hf=>?_⟩
          ·rw[lZ.out,qg HT.out HD.out NS.out h,sw.out]
          ·rw[lZ.out,kY HT.out HD.out NS.out h,sw.out,vR HT.out hf]
          ·rw[lZ.out,kY HT.out HD.out NS.out h,sw.out,Bd HT.out hf]
         have wO:Hid (∀x∈aV (t.ops++[⟨1,(q:Int),sv⟩]),∃z:Nat,z<3/\x.key=(z:Int)):=λx hx=>by
          have:=(gY.1 hx).1
          rcases this with h|h|h
          ·exact⟨0,by omega,by rw[h];rfl⟩
          ·exact⟨1,by omega,by rw[h];rfl⟩
          ·exact⟨2,by omega,by rw[h];rfl⟩
         have NU:=aa M9;have Vo:=aa X9;have Vz:=aa (QH.out.qA K9 (by decide) (by decide));have K7:=aa (KQ.out.qA K9 (by decide) (by decide));have Qe:=aa (QI.out.qA K9 (by decide) (by decide));have VA:=aa (IA.out.qA K9 (by decide) (by decide));clear X9 K9 M9 QH KQ QI IA Od Rt sw UA Vr Oh PM NP PO OU Oo MP Qv;generalize (⟨1,(q:Int),sv⟩:aJ)=o2 at uM wO NU)
     all_goals
      have Rb:t.ops.length<d.steps.length:=(aS.1 NS.out).1;have htd:t.done=false:=UW.out n t d HT.out HD.out Rb;have Wl:=NU.out;rw[htd]at Wl;replace NU:=aa Wl;have TL:Hid (Jp w1.heap.size w1.heap.size VV VE KB BB (.slice A p.length c) w9 (iZ (aA m n) n o2 false)):=
       ⟨⟨_,_,by rw[pK _ _ HT.out];exact NU.out⟩,by rw[show (iZ (aA m n) n o2 false).vals=m.vals from qL m n];exact Vz.out,by rw[show (iZ (aA m n) n o2 false).bG=m.bG from jq m n];exact K7.out,Qe.out,VA.out⟩
      clear Wl htd;by_cases hlast:t.ops.length+1=d.steps.length
     all_goals first
      | (have Hf:¬(t.ops.length+1=d.steps.length):=hlast
         rw[show decide (t.ops.length+1=d.steps.length)=false from jW Hf];have nP:Hid (Jp w1.heap.size w1.heap.size VV VE KB BB (.slice A p.length c) w9 (fo p (k+1))):=by show Jp _ _ _ _ _ _ _ _ _;rw[uM.out.1 Hf];exact TL.out
         clear hlast Hf;go_wp2;go_roundw;case rel=>exact⟨Vo.out,k+1,by omega,by go_num,nP.out⟩
         case measure=>simp[intOf];omega)
      | (rw[show decide (t.ops.length+1=d.steps.length)=true from kQ hlast]
         have Yy:(m.h.set n ⟨t.aD,t.ops++[o2],false⟩)[n]? =some ⟨t.aD,t.ops++[o2],false⟩:=by rw[kF,ah rfl,ah hnl]
         have ZX:=aa Yy;obtain⟨b9,aat,r9,Xw,hb9,Xf,ZK,t0,t1,t2,NF,Ua,Wh⟩:=NU.out.at Yy;injection Xw with Xw;injection Xw with Yh WV;subst Yh WV;have hnh:(m.h.set n ⟨t.aD,t.ops++[o2],false⟩).length=m.h.length:=jO;have tm:=NU.out.m1;have Yo:(t.ops++[o2]).length<=4:=by simp;omega
         obtain⟨ops',JZ⟩:∃l,t.ops++[o2]=l:=⟨_,rfl⟩;have HEQ:=aa JZ;have UJ:=uM.out;have hkz:=wO.out;rw[JZ]at UJ hkz NF Yo;simp only[JZ]at t0 t1 t2;replace uM:=aa UJ;replace wO:=aa hkz;have Mv:aI 3 encOpr w9 r9.dQ ops':=NF.cell.1;obtain⟨A9,c9,P9,_⟩:=id Mv;rw[P9]at t1 Mv;have Q3:=aa (iY t.aD false w9 Mv (by omega));have YQ:=aa ZK;have TY:=aa P9;obtain⟨L,hL⟩:∃L,aV ops'=L:=⟨_,rfl⟩;have hl3:L.length<=3:=by rw[<-hL];exact yF ops'
         have Cn:=Q3.out;rw[hL]at Cn UJ hkz;replace Q3:=aa Cn;replace uM:=aa UJ;replace wO:=aa hkz;have HLL:=aa hL;have aay:=aa Mv;have PW:=aa hlast;have aaq:=aa Rb;have HD4:=aa hd4;clear hlast Rb;have Yt:=aa Ua;clear Yy hb9 Xf ZK NF Ua Wh JZ UJ hkz P9 Mv hL Cn hnh;go_wp2_with fail
         refine Q3.out.mono ?_;rintro e w10 ⟨v10,rfl,L6,b10⟩;obtain⟨Al,cl,rfl,Tf⟩:=id L6.cell.1;have Xo:=aa Tf;have WE:=aa b10;have V8:=aa (K7.out.ext b10);have Uo:=aa (VA.out.ext b10);clear L6 Tf b10 t0 t1 t2 tm;go_wp2;obtain⟨wo,rfl⟩:∃wo:World,wo=wr:=⟨_,rfl⟩;go_loopw [14,85] (λf i wr=>Hid (Ext w10 wr)/\∃j:Nat,j<=L.length/\i=.int .i64 j/\f=.bool (lY (aA m n).bG ((aA m n).began n) (L.take j))) (λ_ i _=>L.length-(intOf i).toNat)
         case' atStart=>exact⟨af _,0,bR _,rfl,rfl⟩
         case' round=>
          obtain⟨HQ,j,hj,rfl,rfl⟩:=hrel;by_cases hjl:j<L.length
          case' pos=>
           obtain⟨bl,ol,rfl,UQ,hcl⟩:=Xo.out (by omega);obtain⟨x,hx⟩:=au hjl;obtain⟨z,hz3,KG⟩:=wO.out x (aN hx);have c0:=HQ.out.cell (hcl j x hx 0 (by omega));have c1:=HQ.out.cell (hcl j x hx 1 (by omega));have c2:=HQ.out.cell (hcl j x hx 2 (by omega));simp only[encOpr,gL]at c0 c1 c2;have Vk:=aa (J3 (v:=(aA m n).bG) (b:=(aA m n).began n) hx);obtain⟨xk,xy,xv⟩:=x;simp only at KG;subst KG;have hz0:(0:Int)<=(z:Int):=by omega
           have XI:(z:Int)<3:=by omega
           have TD:(0:Int)<=(n:Int):=by omega
           have UU:(n:Int)<4:=by omega
           have Qg:=aa ((af wr).alloc (.cells #[.int .i64 xk,.int .i64 (z:Int),.int .i64 xv] 67));obtain⟨f0,hf0⟩:∃f0,lY (aA m n).bG ((aA m n).began n) (L.take j)=f0:=⟨_,rfl⟩;have hnf:=Vk.out;rw[hf0]at hnf;rw[hf0];replace Vk:=aa hnf;clear hcl hx hf0 hnf
           cases f0 with
           | false=>
             have Tu:Hid (lY (aA m n).bG ((aA m n).began n) (L.take (j+1))=false):=by show _ = _;rw[Vk.out];rfl
             go_wp2;refine wp_region_held_drew (S:=λ_=>True) (by kernel_rfl) trivial (λhHeld=>?_);simp only[List.size_toArray,eF,jK,kP,Nat.reduceAdd];refine iV 0 (.bool false) rfl (aM ⟨by kernel_rfl,λV _=>by go_simp⟩) hHeld ?_;try go_frame
             refine iV 1 (.bool false) rfl (aM ⟨by kernel_rfl,λV _=>by go_simp⟩) hHeld ?_;try go_frame
             refine iV 2 undef rfl (nG ⟨by kernel_rfl,rfl⟩) hHeld ?_;try go_frame
             refine iV 3 undef rfl (nG ⟨by kernel_rfl,rfl⟩) hHeld ?_;try go_frame
             refine iV 4 undef rfl (nG ⟨by kernel_rfl,rfl⟩) hHeld ?_;try go_frame
             refine iV 5 undef rfl (nG ⟨by kernel_rfl,rfl⟩) hHeld ?_;try go_frame
             refine iV 6 undef rfl (nG ⟨by kernel_rfl,rfl⟩) hHeld ?_;try go_frame
             refine iV 7 undef rfl (nG ⟨by kernel_rfl,rfl⟩) hHeld ?_;try go_frame
             refine iV 8 undef rfl (nG ⟨by kernel_rfl,rfl⟩) hHeld ?_;try go_frame
             refine iV 9 undef rfl (nG ⟨by kernel_rfl,rfl⟩) hHeld ?_;try go_frame
             refine iV 10 undef rfl (nG ⟨by kernel_rfl,rfl⟩) hHeld ?_;try go_frame
             refine iV 11 undef rfl (nG ⟨by kernel_rfl,rfl⟩) hHeld ?_;try go_frame
             refine iV 12 undef rfl (nG ⟨by kernel_rfl,rfl⟩) hHeld ?_;try go_frame
             refine iV 13 (.bool false) rfl (aM ⟨by kernel_rfl,λV _=>by go_simp⟩) hHeld ?_;try go_frame
             refine iV 14 (.bool false) rfl (aM ⟨by kernel_rfl,λV _=>by go_simp⟩) hHeld ?_;try go_frame
             refine lg (by kernel_rfl) ?_ _;go_wp2;go_roundw;case rel=>exact⟨(HQ.out.trans Qg.out).drew,j+1,by omega,by go_num,by rw[Tu.out]⟩
             case measure=>simp[intOf];omega
           | true=>
             have e1:(wr.alloc (.cells #[.int .i64 xk,.int .i64 (z:Int),.int .i64 xv] 67)).cell? ⟨VE,z,none⟩=some (.int .i64 (m.bG (z:Int))):=Qg.out.cell (HQ.out.cell (V8.out.cell (o:=z) hz3));have e2:(wr.alloc (.cells #[.int .i64 xk,.int .i64 (z:Int),.int .i64 xv] 67)).cell? ⟨BB,n*3+z,none⟩=some (.int .i64 ((aA m n).began n (z:Int))):=by
              have:=Qg.out.cell (HQ.out.cell (Uo.out.cell (o:=n*3+z) (by omega)))
              rw[this];unfold fK;rw[show (n*3+z)/3=n by omega,show (n*3+z)%3=z by omega]
             have e3:(wr.alloc (.cells #[.int .i64 xk,.int .i64 (z:Int),.int .i64 xv] 67)).cell? ⟨wr.heap.size,1,none⟩=some (.int .i64 (z:Int)):=az rfl;have Tu:Hid (lY (aA m n).bG ((aA m n).began n) (L.take (j+1))=(m.bG (z:Int)==(aA m n).began n (z:Int))):=by show _ = _;rw[Vk.out,jq];rfl
             obtain⟨g1,hg1⟩:∃g,m.bG (z:Int)=g:=⟨_,rfl⟩;obtain⟨g2,hg2⟩:∃g,(aA m n).began n (z:Int)=g:=⟨_,rfl⟩;have VI:=Tu.out;rw[hg1]at e1 VI;rw[hg2]at e2 VI;replace Tu:=aa VI;clear hg1 hg2 VI;go_wp2;refine wp_region_held_drew (S:=(λV:World=>V.cell? ⟨VE,z,none⟩=some (.int .i64 g1)/\V.cell? ⟨BB,n*3+z,none⟩=some (.int .i64 g2)/\V.cell? ⟨wr.heap.size,1,none⟩=some (.int .i64 (z:Int)))) (by kernel_rfl) ⟨e1,e2,e3⟩ (λhHeld=>?_);simp only[List.size_toArray,eF,jK,kP,Nat.reduceAdd];refine iV 0 (.bool true) rfl (aM ⟨by kernel_rfl,λV ⟨s1,s2,s3⟩=>by go_simp⟩) hHeld ?_;try go_frame
             refine iV 1 (.bool true) rfl (aM ⟨by kernel_rfl,λV ⟨s1,s2,s3⟩=>by go_simp⟩) hHeld ?_;try go_frame
             refine iV 2 (.pointer (some ⟨wr.heap.size,1,none⟩)) rfl (aM ⟨by kernel_rfl,λV ⟨s1,s2,s3⟩=>by go_simp⟩) hHeld ?_;try go_frame
             refine iV 3 (.int .i64 (z:Int)) rfl (aM ⟨by kernel_rfl,λV ⟨s1,s2,s3⟩=>by go_simp⟩) hHeld ?_;try go_frame
             refine iV 4 (.pointer (some ⟨VE,z,none⟩)) rfl (aM ⟨by kernel_rfl,λV ⟨s1,s2,s3⟩=>by go_simp⟩) hHeld ?_;try go_frame
             refine iV 5 (.int .i64 g1) rfl (aM ⟨by kernel_rfl,λV ⟨s1,s2,s3⟩=>by go_simp⟩) hHeld ?_;try go_frame
             refine iV 6 (.int .i64 (n:Int)) rfl (aM ⟨by kernel_rfl,λV ⟨s1,s2,s3⟩=>by go_simp⟩) hHeld ?_;try go_frame
             refine iV 7 (.pointer (some ⟨wr.heap.size,1,none⟩)) rfl (aM ⟨by kernel_rfl,λV ⟨s1,s2,s3⟩=>by go_simp⟩) hHeld ?_;try go_frame
             refine iV 8 (.int .i64 (z:Int)) rfl (aM ⟨by kernel_rfl,λV ⟨s1,s2,s3⟩=>by go_simp⟩) hHeld ?_;try go_frame
             refine iV 9 (.pointer (some ⟨BB,n*3,none⟩)) rfl (aM ⟨by kernel_rfl,λV ⟨s1,s2,s3⟩=>by go_simp⟩) hHeld ?_;try go_frame
             refine iV 10 (.pointer (some ⟨BB,n*3+z,none⟩)) rfl (aM ⟨by kernel_rfl,λV ⟨s1,s2,s3⟩=>by go_simp⟩) hHeld ?_;try go_frame
             refine iV 11 (.int .i64 g2) rfl (aM ⟨by kernel_rfl,λV ⟨s1,s2,s3⟩=>by go_simp⟩) hHeld ?_;try go_frame
             refine iV 12 (.bool (g1==g2)) rfl (aM ⟨by kernel_rfl,λV ⟨s1,s2,s3⟩=>by go_simp⟩) hHeld ?_;try go_frame
             refine iV 13 (.bool (g1==g2)) rfl (aM ⟨by kernel_rfl,λV ⟨s1,s2,s3⟩=>by go_simp⟩) hHeld ?_;try go_frame
             refine iV 14 (.bool (g1==g2)) rfl (aM ⟨by kernel_rfl,λV ⟨s1,s2,s3⟩=>by go_simp⟩) hHeld ?_;try go_frame
             refine lg (by kernel_rfl) ?_ _;clear hHeld;clear e1 e2 e3;go_wp2;go_roundw;case rel=>exact⟨(HQ.out.trans Qg.out).drew,j+1,by omega,by go_num,by rw[Tu.out]⟩
             case measure=>simp[intOf];omega
          case' neg=>
           obtain rfl:j=L.length:=by omega
           rw[bY];have AX:=aa (WE.out.trans HQ.out)
           cases Js:lY (aA m n).bG ((aA m n).began n) L with
           | false=>
             have nP:Hid (Jp w1.heap.size w1.heap.size VV VE KB BB (.slice A p.length c) wr (fo p (k+1))):=by show Jp _ _ _ _ _ _ _ _ _;rw[uM.out.2.2 PW.out Js];exact TL.out.ext AX.out
             clear Js;go_wp2;go_roundw;case rel=>exact⟨Vo.out.trans AX.out,k+1,by omega,by go_num,nP.out⟩
             case measure=>simp[intOf];omega
           | true=>
             have HFF:=aa Js;clear Js;have Vx:=NU.out.ext AX.out;have tm:=Vx.m1;have UG:b2<w9.heap.size:=by have:=NU.out.lt (.inr (.inl ⟨_,_,_,rfl,by omega,rfl⟩));exact this
             have t2f:wr.frozen? ⟨b2,off2+n*3+2,none⟩=false:=(AX.out.frozen (p:=⟨b2,off2+n*3+2,none⟩) UG).trans (Yt.out _);obtain⟨b8,aaw,r8,X3,hb8,Ub,Vp,t0,t1,t2,Ug,Y7,XL⟩:=Vx.at ZX.out;injection X3 with X3;injection X3 with Wo YK;subst Wo YK;rw[YQ.out]at Vp;injection Vp with Vp;subst Vp;rw[TY.out]at t1;obtain⟨VC,K11⟩:=Vx.QN YQ.out ZX.out (by omega);have Um:sI w1.heap.size w1.heap.size (.slice A p.length c) (wr.setCell ⟨b2,off2+n*3+2,none⟩ (.bool true)) (.slice (some ⟨b2,off2,none⟩) m.h.length Ym) (XO.set n ⟨r9.aD,r9.dQ,true⟩) (iZ (aA m n) n o2 true).h:=by rw[pK _ _ HT.out];have h9:=VC;rw[List.set_set]at h9;exact h9
             have V9:=aa Um;have OG:=aa K11;have sm:=VC.m1;have s0:(wr.setCell ⟨b2,off2+n*3+2,none⟩ (.bool true)).cell? ⟨b2,off2+n*3,none⟩=some (.int .i64 t.aD):=(av (by intro e;injection e with _ e _;omega) _).trans t0;have s1:(wr.setCell ⟨b2,off2+n*3+2,none⟩ (.bool true)).cell? ⟨b2,off2+n*3+1,none⟩=some (.slice A9 ops'.length c9):=(av (by intro e;injection e with _ e _;omega) _).trans t1;have s2:(wr.setCell ⟨b2,off2+n*3+2,none⟩ (.bool true)).cell? ⟨b2,off2+n*3+2,none⟩=some (.bool true):=dN t2 _;have Pn:aI 3 encOpr (wr.setCell ⟨b2,off2+n*3+2,none⟩ (.bool true)) (.slice A9 ops'.length c9) ops':=by have hq:=(VC.rows n ⟨r9.aD,r9.dQ,true⟩ ⟨t.aD,t.ops++[o2],true⟩ (by rw[kF,ah rfl,ah (aS.1 YQ.out).1]) (by rw[kF,ah rfl,ah (by rw[jO];exact hnl)])).2.2.cell.1;rw[TY.out]at hq;simp only[HEQ.out]at hq;exact hq
             have Q6:=iY t.aD true (wr.setCell ⟨b2,off2+n*3+2,none⟩ (.bool true)) Pn (by omega);rw[HLL.out]at Q6;have Q8:=aa Q6;have Yn:=aa ((Vo.out.trans AX.out).setCell (p:=⟨b2,off2+n*3+2,none⟩) Ub (.bool true));clear Vx VC Um K11 hb8 Ub Ug Y7 XL Pn Q6 UG;go_wp2_with fail
             refine Q8.out.mono ?_;rintro e w12 ⟨v12,rfl,Iq,b12⟩;obtain⟨Am,cm,rfl,TK⟩:=id Iq.cell.1;have HCM:=aa TK;have mI:=aa (show ∀a n' c',(Value.slice Am L.length cm)=.slice (some a) n' c'->0<n'->(wr.setCell ⟨b2,off2+n*3+2,none⟩ (.bool true)).heap.size<=a.block from λa n' c' e hn=>(Iq.cell.2 a n' c' e hn).1);have HVl:Hid (VV<(wr.setCell ⟨b2,off2+n*3+2,none⟩ (.bool true)).heap.size/\VE<(wr.setCell ⟨b2,off2+n*3+2,none⟩ (.bool true)).heap.size):=⟨by simp only[World.setCell,Array.size_modify];exact dJ Vz.out.lt AX.out.size,by simp only[World.setCell,Array.size_modify];exact dJ K7.out.lt AX.out.size⟩;have Tw:=aa (((Vz.out.ext AX.out).qA OG.out (by decide) (by decide)).ext b12);have U6:=aa (((K7.out.ext AX.out).qA OG.out (by decide) (by decide)).ext b12);have Xr:=aa (((Qe.out.ext AX.out).qA OG.out (by decide) (by decide)).ext b12);have TM:=aa (((VA.out.ext AX.out).qA OG.out (by decide) (by decide)).ext b12);have Q4:=aa (V9.out.ext b12);have Wt:=aa (Yn.out.trans b12);clear Iq TK b12 sm s0 s1 s2 tm t0 t1 t2 t2f;go_wp2;obtain⟨wo2,rfl⟩:∃wo2:World,wo2=wr:=⟨_,rfl⟩;go_loopw [122] (λi wr=>Hid (bF (λi=>i=VV∨i=VE) w12 wr)/\∃j:Nat,j<=L.length/\i=.int .i64 j/\Hid (TW 160 wr VV 3 (fS (jX m.vals (L.take j)))/\TW 160 wr VE 3 (fS (fD m.bG (L.take j))))) (λi _=>L.length-(intOf i).toNat)
             case' atStart=>exact⟨bF.refl _ _,0,bR _,rfl,Tw.out,U6.out⟩
             case' round=>
              obtain⟨HF,j2,hj2,rfl,HT2⟩:=hrel;by_cases V7:j2<L.length
              case' pos=>
               obtain⟨bl,ol,rfl,UQ,hcl⟩:=HCM.out (by omega);have TR:=mI.out _ _ _ rfl (by omega);have hvl:=HVl.out;simp only at TR;have OX:¬(bl=VV∨bl=VE):=by omega
               obtain⟨x,hx⟩:=au V7;obtain⟨z,hz3,KG⟩:=wO.out x (aN hx);have c0:=HF.out.cell (hcl j2 x hx 0 (by omega)) OX;have c1:=HF.out.cell (hcl j2 x hx 1 (by omega)) OX;have c2:=HF.out.cell (hcl j2 x hx 2 (by omega)) OX;simp only[encOpr,gL]at c0 c1 c2;have Qp:=aa (Gz (s:=m.vals) hx);have WH:=aa (D6 (s:=m.bG) hx);obtain⟨xk,xy,xv⟩:=x;simp only at KG;subst KG;have hz0:(0:Int)<=(z:Int):=by omega
               have XI:(z:Int)<3:=by omega
               have hbb:=zn (L.take j2) m.bG (z:Int);have hvb:=Yd.out (z:Int);have htk:(L.take j2).length<=3:=by rw[ig];omega
               obtain⟨ve,Wd⟩:∃ve,fD m.bG (L.take j2) (z:Int)=ve:=⟨_,rfl⟩;have aai:0<=ve:=by omega
               have aah:ve<=1000:=by omega
               have Qg:=aa ((af wr).alloc (.cells #[.int .i64 xk,.int .i64 (z:Int),.int .i64 xv] 67));have gv:=HT2.out.1;have ge:=HT2.out.2;have gv1:=Qg.out.cell (gv.cell (o:=z) hz3);have gv2:=(gv.ext Qg.out).free z;have ge0:wr.cell? ⟨VE,z,none⟩=some (.int .i64 ve):=by have:=ge.cell (o:=z) hz3;unfold fS at this;rw[Wd]at this;exact this
               have hVw:VV<wr.heap.size:=HT2.out.1.lt;have hEw:VE<wr.heap.size:=HT2.out.2.lt;have aae:VV≠wr.heap.size:=by omega
               have aar:wr.heap.size≠VV:=by omega
               have aav:VE≠wr.heap.size:=by omega
               have aad:wr.heap.size≠VE:=by omega
               have YX:=ge.other (a:=⟨VV,z,none⟩) Qm (.int .i64 xv);have ge1:(wr.setCell ⟨VV,z,none⟩ (.int .i64 xv)).cell? ⟨VE,z,none⟩=some (.int .i64 ve):=(av (by intro e;injection e with e _ _;exact Qm e) _).trans ge0;have ge2:((wr.setCell ⟨VV,z,none⟩ (.int .i64 xv)).alloc (.cells #[.int .i64 xk,.int .i64 (z:Int),.int .i64 xv] 67)).cell? ⟨VE,z,none⟩=some (.int .i64 ve):=((af _).alloc _).cell ge1;have ge3:=YX.free z;have ge4:=(YX.ext ((af _).alloc (.cells #[.int .i64 xk,.int .i64 (z:Int),.int .i64 xv] 67))).free z;have Qc:=aa (((gv.set (j:=z) (f':=fS (jX m.vals (L.take (j2+1)))) hz3 (λo ho=>by rw[Qp.out];exact ML o ho))).other (a:=⟨VE,z,none⟩) YS (.int .i64 (ve+1)));have Qa:=aa ((ge.other (a:=⟨VV,z,none⟩) Qm (.int .i64 xv)).set (j:=z) (f':=fS (fD m.bG (L.take (j2+1)))) hz3 (λo ho=>by rw[WH.out];exact ML o ho));have hv1:fS (jX m.vals (L.take (j2+1))) z=xv:=by rw[Qp.out];exact PD
               have hv2:fS (fD m.bG (L.take (j2+1))) z=ve+1:=by rw[WH.out,PD,Wd]
               have QF:=Qc.out;have Qu:=Qa.out;rw[hv1]at QF;rw[hv2]at Qu;replace Qc:=aa QF;replace Qa:=aa Qu;clear hcl hx TR hvl OX hbb hvb htk gv ge YX Wd QF Qu hv1 hv2 Qp WH;go_wp2;go_roundw;case rel=>exact⟨((HF.out.setCell (p:=⟨VV,z,none⟩) (.inl (.inl rfl)) _).setCell (p:=⟨VE,z,none⟩) (.inl (.inr rfl)) _).alloc _,j2+1,by omega,by go_num,Qc.out.ext ((af _).alloc _),Qa.out.ext ((af _).alloc _)⟩
               case measure=>simp[intOf];omega
              case' neg=>
               obtain rfl:j2=L.length:=by omega
               have nP:Hid (Jp w1.heap.size w1.heap.size VV VE KB BB (.slice A p.length c) wr (fo p (k+1))):=by
                have t1:=HT2.out.1;have t2:=HT2.out.2;rw[bY]at t1 t2;have m12:=Q4.out.frX HF.out (λi hi e=>by
                 rcases e with e|e
                 ·exact Q4.out.far Tw.out (by decide) (by decide) (by decide) (by rw[<-e];exact hi)
                 ·exact Q4.out.far U6.out (by decide) (by decide) (by decide) (by rw[<-e];exact hi))
                have k12:=Xr.out.frX HF.out (λe=>e.elim WY Xy);have Xh:=TM.out.frX HF.out (λe=>e.elim YM Y4);have e9:=uM.out.2.1 PW.out HFF.out;exact e9▸Jp.last (m1:=iZ (aA m n) n o2 true) m12 t1 t2 k12 Xh
               have HXF:=aa (HF.out.out Wt.out (λi e=>by omega));go_wp2;go_roundw;case rel=>exact⟨HXF.out,k+1,by omega,by go_num,nP.out⟩
               case measure=>simp[intOf];omega)
  ·obtain rfl:k=xs.length:=by omega
   obtain⟨⟨hv,rs,hM⟩,_⟩:=HS.out;have Qw:=hM.his;rw[WJ.out.2,HRR.out]at Qw;have hok:=p8 RF.out;rw[HRR.out]at hok;have HC:=aa (Gu wr hM.m1 (qD wr Qw (by have:=aT hok;omega) (bD hok)));have ZW:=aa (HB1.out.trans HB.out);clear hM Qw hok;go_wp2_with fail
   refine HC.out.mono ?_;rintro e w5 ⟨v,rs5,rfl,g1,g2,g3⟩;have G1:=aa g1;have G2:=aa g2;obtain⟨A5,c5,rfl,_⟩:=id g1.2.1;clear g1 g2;go_wp2;go_returns;exact⟨_,rs5,rfl,G1.out,G2.out.mono ZW.out.size,ZW.out.trans g3⟩
