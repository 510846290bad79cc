/- Lemmas. -/
import Derived.Test.YtcdopfdgknglfaaGreatDoorCAN
import Derived.Test.YtcdopfdgknglfaaGreatDoorCAW
import Derived.Test.YtcdopfdgknglfaaGreatDoorCAX
import Derived.Test.YtcdopfdgknglfaaGreatDoorCAY
import Derived.Lib.ConvBytes
set_option maxHeartbeats 16000000
set_option maxRecDepth 8000
set_option linter.all false
namespace Go.Proofs.YtcdopfdgknglfaaGreatDoor
open Go.RowKit
def Gx(X:Nat->Prop)(v:Value):Prop:=∀a n c,v=.slice (some a) n c->0<n->¬X a.block
theorem Gx.own{X:Nat->Prop}{lo:Nat}{w:World}{v:Value}(h:Own lo w v)(hX:∀q,X q->q<lo):Gx X v:=λa n c hv hn hx=>by have:=(h a n c hv hn).1;have:=hX _ hx;omega
def pz(X:Nat->Prop)(w:World)(v:Value)(h:List aF):Prop:=∃rs,xE w v rs h/\Gx X v/\∀(i:Nat) r,rs[i]? =some r->Gx X r.dQ
theorem pz.his{X:Nat->Prop}{w:World}{v:Value}{h:List aF}(H:pz X w v h):lV w v h:=let ⟨rs,H,_⟩:=H;⟨rs,H⟩
theorem pz.ext{X:Nat->Prop}{w w':World}{v:Value}{h:List aF}(H:pz X w v h)(hb:Ext w w'):pz X w' v h:=let ⟨rs,H,a,b⟩:=H;⟨rs,H.ext hb,a,b⟩
theorem pz.slice{X:Nat->Prop}{w:World}{v:Value}{h:List aF}(H:pz X w v h):∃A c,v=.slice A h.length c:=H.his.slice
theorem pz.L9{X:Nat->Prop}{lo:Nat}{w:World}{v:Value}{rs:List mo}{h:List aF}(H:xE w v rs h)(O:vV lo w v rs)(hX:∀q,X q->q<lo):pz X w v h:=⟨rs,H,Gx.own O.1 hX,λi r hr=>Gx.own (O.2.1 i r hr).1 hX⟩
def uF(X:Nat->Prop)(w:World)(r:List aF × List UInt8)(e:Ending)(w':World):Prop:=∃v,e=.returned (.tuple #[v,.string (tx r.2)])/\pz X w' v r.1/\Ext w w'
theorem Ec{X:Nat->Prop}{v u:Value}{h g:List aF}(ok:Bool)(w:World)(H:pz X w v h)(G:pz X w u g)(hlen:g.length<=2097152)(hM:ok=true->∀t∈g,t.ops.length<=2097152) :
 Calls Tryz.prog 63 #[v,u,.bool ok] w (uF X w (if (ok&&aH g)=true then (g,Jo) else (h,Ev))):=by
 obtain⟨A,c,rfl⟩:=H.slice;obtain⟨A',c',rfl⟩:=G.slice;have HH:=aa (aL H G)
 cases ok with
 | false=>
   clear H G hlen hM;go_enter Tryz.func63,Tryz.ntmps63;go_wp2;go_returns;exact⟨_,rfl,HH.out.1,af _⟩
 | true=>
   have HV:=aa (aZ w G.his hlen (hM rfl));clear H G hlen hM
   cases hk:aH g with
   | false=>
     rw[hk]at HV;go_enter Tryz.func63,Tryz.ntmps63;go_wp2_with (go_at_call 12;refine HV.out.mono ?_;rintro e w1 ⟨rfl,b1⟩)
     go_returns;exact⟨_,rfl,HH.out.1.ext b1,b1⟩
   | true=>
     rw[hk]at HV;go_enter Tryz.func63,Tryz.ntmps63;go_wp2_with (go_at_call 12;refine HV.out.mono ?_;rintro e w1 ⟨rfl,b1⟩)
     go_returns;exact⟨_,rfl,HH.out.2.ext b1,b1⟩
theorem DT{v:Value}{xs:List mo}(w:World)(h:aI 3 encTxV w v xs)(hlen:xs.length<=2097152)(h1:∀x∈xs,∃A n c,x.dQ=.slice A n c) :
 Calls Tryz.prog 102 #[v] w λe w'=>∃v',e=.returned v'/\Row 48 3 encTxV w.heap.size w' v' xs/\Ext w w':=by
 obtain⟨A,c,rfl,h'⟩:=id h;have heq:=λW=>Lib.run_eql_slice_nil (P:=Tryz.prog) W 23 48 A xs.length c 0 0 Tryz.underlying23
 cases A with
 | none=>
   have hx:xs=[]:=by
    rcases Nat.eq_zero_or_pos xs.length with h0|h0
    ·exact kZ h0
    ·obtain⟨b,off,hA,_⟩:=h' h0;cases hA
   subst hx;clear h h';simp only[jK]at heq ⊢;go_enter Tryz.func102,Tryz.ntmps102;go_wp2;go_returns;exact⟨_,rfl,Row.nil,af _⟩
 | some ad=>
   have hrow:Row 48 3 encTxV w.heap.size (w.alloc (.cells #[] 48)) (.slice (some ⟨w.heap.size,0,none⟩) 0 0) ([]:List mo):=World.ownsRow_made w #[] 0 (ay _) (by simp[maxLen]) (by simp);obtain⟨v',w',hrun,hrow',hgrow⟩:=mU (P:=Tryz.prog) (t:=23) (ty:=23) (e:=48) Tryz.underlying23 mX rfl (by omega) hrow (h.ext ((af w).alloc (.cells #[] 48))) (λx hx j=>C9 x (h1 x hx) j) (by simp;omega) (by omega) (by simp);have Ma:=aa hrow';have hg:=aa (Ext.grown ((af w).alloc (.cells #[] 48)) hgrow (λk hk=>by simp[Value.ownBlock]at hk;omega));have Mc:=aa hrun;clear h h' hrow hrow' hgrow hrun;go_enter Tryz.func102,Tryz.ntmps102;go_wp2_with (at_builtin;refine wpList_append_run rfl rfl rfl rfl Mc.out ?_)
   go_returns;exact⟨_,rfl,by simpa using Ma.out,hg.out⟩
theorem Mf{X:Nat->Prop}{base:Nat}{w w':World}{v':Value}{rs:List mo}{h:List aF}{r:mo}{t:aF}(hl:rs.length=h.length)(H:∀(i:Nat) r t,rs[i]? =some r->h[i]? =some t->xQ w r t)(hu:xQ w r t)
 (hrow:Row 48 3 encTxV base w' v' (rs++[r])) (hb:∀r t,xQ w r t->xQ w' r t) (hX:∀q,X q->q<base) (hf:∀(i:Nat) r,rs[i]? =some r->Gx X r.dQ) (hr:Gx X r.dQ):pz X w' v' (h++[t]):=by
 refine⟨rs++[r],⟨by simp[hl],hrow.cell.1,λi y s hy hs=>?_⟩,λa n c hv hn e=>?_,λi y hy=>?_⟩
 rotate_left
 ·obtain⟨g,cap,e2,_⟩:=mZ hrow (by simp);rw[hv]at e2;injection e2 with e2 _ _;injection e2 with e2
  have:=(l8 hrow (k:=g) (by rw[hv,e2];rfl)).1
  rw[e2]at e
  have:=hX _ e
  simp only at this;omega
 ·rw[oQ]at hy;split at hy
  ·exact hf i y hy
  ·have hi0:i-rs.length=0:=by
    have:=(aS.1 hy).1
    simp at this;omega
   rw[hi0]at hy;simp at hy;subst hy;exact hr
 rw[oQ]at hy hs;split at hy
 ·rename_i hi;rw[ah (by rw[<-hl];exact hi)]at hs;exact hb _ _ (H i y s hy hs)
 ·rename_i hi;rw[ak (by rw[<-hl];exact hi)]at hs;have hi0:i-rs.length=0:=by
   have:=(aS.1 hy).1
   simp at this;omega
  rw[hi0]at hy;rw[<-hl,hi0]at hs;simp at hy hs;subst hy hs;exact hb _ _ hu
theorem Oq(h:List aF)(r:List UInt8)(t:aF)(ht:∀t',iK r=some t'->t=t'):putR h r=if ((iK r).isSome&&aH (h++[t]))=true then (h++[t],Jo) else (h,Ev):=by
 unfold putR
 cases e:iK r with
 | none=>simp
 | some t'=>rw[<-ht t' e];simp
theorem Je(W:World)(s:Int)(ov:Value)(d:Bool):aI 3 encTxV (W.alloc (.cells #[.int .i64 s,ov,.bool d] 48)) (.slice (some ⟨W.heap.size,0,none⟩) 1 1) [⟨s,ov,d⟩]:=by
 refine⟨_,_,rfl,λ_=>⟨_,0,rfl,by simp,λi x hx j hj=>?_⟩⟩;obtain rfl:i=0:=by have:=(aS.1 hx).1;simp at this;omega
 simp at hx;subst hx;refine az ?_
 match j,hj with
 | 0,_=>rfl
 | 1,_=>rfl
 | 2,_=>rfl
theorem Row.slice'{α:Type}{e:TypeId}{m:Nat}{enc:α->Nat->Value}{base:Nat}{W:World}{v:Value}{xs:List α}(h:Row e m enc base W v xs):∃A n c,v=.slice A n c:=by obtain⟨A,c,e,_⟩:=h.cell.1;exact⟨_,_,_,e⟩
theorem OP{X:Nat->Prop}{v:Value}{h:List aF}(l:List UInt8)(w:World)(hX:∀q,X q->q<w.heap.size)(H:pz X w v h)(hok:aH h=true)(hE:Env w)(hl:l.length<=1048576)(hne:l≠[]) :
 Calls Tryz.prog 58 #[v,.string (tx l)] w (uF X w (putR h l)):=by
 obtain⟨A,c,rfl⟩:=H.slice;have Pp:=aa (DY l w hE hl hne);have HH:=aa H;have jh:=aa hok;obtain⟨z,hz⟩:∃z,tx l=z:=⟨_,rfl⟩;rw[hz]at Pp ⊢;clear H hok hE hl hne hz;go_enter Tryz.func58,Tryz.ntmps58;go_wp2_with fail
 refine Pp.out.mono ?_;rintro e W1 ⟨t,ov,rfl,hso,hcap,ht,hfr,b1⟩;obtain⟨A3,c3,rfl,_⟩:=id hso;obtain⟨ok,Gh⟩:∃ok,(iK l).isSome=ok:=⟨_,rfl⟩;have HP:Hid (putR h l=if (ok&&aH (h++[t]))=true then (h++[t],Jo) else (h,Ev)):=by rw[<-Gh];exact Oq h l t ht
 have HM:Hid (ok=true->t.ops.length<=2097152):=λe=>by
  obtain⟨t',ht'⟩:=Option.isSome_iff_exists.1 (Gh.trans e)
  have:=eY (qj.1 ht').1
  rw[ht t' ht'];omega
 rw[Gh];unfold sM;have HB1:=aa b1;obtain⟨rs,⟨hlr,hs,hi⟩,hoff,Py⟩:=HH.out.ext b1;have hlen:rs.length<=6:=by rw[hlr];exact aT jh.out
 have hops:∀x∈rs,∃A n c,x.dQ=.slice A n c:=λx hx=>by obtain⟨i,hi1,hi2⟩:=jw hx;obtain⟨A,c,e,_⟩:=(hi i x (h[i]'(by omega)) (by rw[dz hi1,hi2]) (dz _)).2.2.1;exact⟨A,_,c,e⟩
 have Wp:Hid (∀W,Ext W1 W->Calls Tryz.prog 102 #[.slice A h.length c] W λe w'=>∃v',e=.returned v'/\Row 48 3 encTxV W1.heap.size w' v' rs/\Ext W1 w'/\Ext W w'):=λW k=>by
  refine(DT W (hs.ext k) (by omega) hops).mono ?_
  rintro e w' ⟨v',rfl,hr,b⟩;exact⟨v',rfl,hr.low k.size,k.trans b,b⟩
 have nP:Hid (∀(W5:World) (v':Value) (q:Nat),Row 48 3 encTxV W1.heap.size W5 v' rs->aI 3 encTxV W5 (.slice (some ⟨q,0,none⟩) 1 1) [⟨t.aD,.slice A3 t.ops.length c3,t.done⟩]->Ext W1 W5 ->
  ∃A7 n7 c7 w7,(Builtin.append_ #[23,23] 23 #[v',.slice (some ⟨q,0,none⟩) 1 1]).run Tryz.prog W5=.ok (.slice A7 n7 c7) w7 /\
   Calls Tryz.prog 63 #[.slice A h.length c,.slice A7 n7 c7,.bool ok] w7 (uF X w7 (putR h l))/\Ext W1 w7):=λW5 v' q hr ho hx=>by
  obtain⟨v7,w7,hrun,hrow,hg⟩:=mU (P:=Tryz.prog) (t:=23) (ty:=23) (e:=48) Tryz.underlying23 mX rfl (by omega) hr ho (λx hx j=>C9 x (by simp at hx;subst hx;exact⟨_,_,_,rfl⟩) j) (by simp;omega) (by omega) hx.size;have b7:Ext W1 w7:=Ext.grown hx hg (λk hk=>(l8 hr hk).1);obtain⟨A7,n7,c7,rfl⟩:=Row.slice' hrow;refine⟨A7,n7,c7,w7,hrun,?_,b7⟩;rw[HP.out];have VY:=hso.ext b7;refine Ec ok w7 ((HH.out.ext b1).ext b7) ?_ (by have:=aT jh.out;simp;omega) (λe s hs=>?_)
  ·exact Mf (w:=w7) hlr (λi r s h1 h2=>(hi i r s h1 h2).ext b7) ⟨rfl,rfl,VY,hcap⟩ hrow (λ_ _ h=>h) (λq hq=>dJ (hX q hq) HB1.out.size) Py (λa n c hv hn hx=>by have:=hfr a n c hv hn;have:=hX _ hx;omega)
  ·rcases iR.1 hs with hs|hs
   ·exact bD jh.out s hs
   ·rw[wE]at hs;subst hs;exact HM.out e
 clear hso hcap ht Gh b1 hs hi hops hfr hoff Py hX;obtain⟨B,hB⟩:∃B,W1.heap.size=B:=⟨_,rfl⟩;have c0:(W1.alloc (.cells #[.int .i64 t.aD,.slice A3 t.ops.length c3,.bool t.done] 48)).drew.cell? ⟨B,0,none⟩=some (.int .i64 t.aD):=by rw[<-hB];exact az rfl
 have c1:(W1.alloc (.cells #[.int .i64 t.aD,.slice A3 t.ops.length c3,.bool t.done] 48)).drew.cell? ⟨B,1,none⟩=some (.slice A3 t.ops.length c3):=by rw[<-hB];exact az rfl
 have c2:(W1.alloc (.cells #[.int .i64 t.aD,.slice A3 t.ops.length c3,.bool t.done] 48)).drew.cell? ⟨B,2,none⟩=some (.bool t.done):=by rw[<-hB];exact az rfl
 go_wp2_with fail
 refine wp_region_held_drew (S:=λ_=>True) (by kernel_rfl) trivial (λhHeld=>?_);refine iV 0 (.slice A h.length c) rfl (aM ⟨by rfl,λV _=>by go_simp⟩) trivial ?_;try go_frame
 refine iV 1 (.slice A h.length c) rfl (aM ⟨by rfl,λV _=>by go_simp⟩) trivial ?_;try go_frame
 refine iV 6 (.bool ok) rfl (aM ⟨by rfl,λV _=>by go_simp⟩) trivial ?_;try go_frame
 refine aW (rs:=[2,3]) (by kernel_rfl) (by simp) ?_;refine bM rfl (λK hK=>?_) (bM rfl (λK hK=>?_) bX)
 ·go_simp
  refine(Wp.out (W1.alloc (.cells #[.int .i64 t.aD,.slice A3 t.ops.length c3,.bool t.done] 48)).drew ((af _).alloc _).drew).mono ?_
  rintro e W3 ⟨v',rfl,hrow,b3,b13⟩;obtain⟨An,nn,cn,rfl⟩:=hrow.slice';have c0:=b13.cell c0;have c1:=b13.cell c1;have c2:=b13.cell c2;refine hK.out _ _ trivial (λ_=>?_);clear hK K;try go_frame
  refine aW (rs:=[3]) (by kernel_rfl) (by simp) ?_;refine bM rfl (λK hK=>?_) bX;go_simp;refine hK.out _ _ trivial (λ_=>?_);clear hK K;try go_frame
  refine aW (rs:=[4]) (by kernel_rfl) (by simp) ?_;refine bM rfl (λK hK=>?_) bX;go_simp;refine hK.out _ _ trivial (λ_=>?_);clear hK K;try go_frame
  have wX:=Row.ext hrow ((af W3).alloc (.cells #[.int .i64 t.aD,.slice A3 t.ops.length c3,.bool t.done] 48));have OH:=Je W3 t.aD (.slice A3 t.ops.length c3) t.done;have EY:=b3.alloc (.cells #[.int .i64 t.aD,.slice A3 t.ops.length c3,.bool t.done] 48);obtain⟨A7,n7,c7,w7,hrun,hyes,b7⟩:=nP.out _ _ _ wX OH EY;have Ja:=aa hyes;have cz:=aa hrun;have LA:=aa b7;clear hrun hyes b7 wX OH EY;refine aW (rs:=[5]) (by kernel_rfl) (by simp) ?_;refine bM rfl (λK hK=>?_) bX;refine dY (by rfl) (by rfl) (by rfl) (by rfl) cz.out ?_;refine hK.out _ _ trivial (λ_=>?_);clear hK K;try go_frame
  refine aW (rs:=[7]) (by kernel_rfl) (by simp) ?_;refine bM rfl (λK hK=>?_) bX;go_simp;refine Ja.out.mono ?_;rintro e w8 ⟨vv,rfl,hh,b8⟩;have PU:=aa (aL hh b8);clear hh b8;refine hK.out _ _ trivial (λ_=>?_);clear hK K;try go_frame
  refine iV 8 vv rfl (aM ⟨by rfl,λV _=>by go_simp⟩) trivial ?_;try go_frame
  refine iV 9 (.string (tx (putR h l).2)) rfl (aM ⟨by rfl,λV _=>by go_simp⟩) trivial ?_;try go_frame
  refine aW (rs:=[10]) (by kernel_rfl) (by simp) ?_;refine bM rfl (λK hK=>?_) bX;go_simp;refine hK.out _ _ trivial (λ_=>?_);clear hK K;try go_frame
  refine aW (rs:=[11]) (by kernel_rfl) (by simp) ?_;refine bM rfl (λK hK=>?_) bX;go_simp;refine hK.out _ _ trivial (λ_=>?_);clear hK K;try go_frame
  refine lg (by kernel_rfl) ?_ _;go_wp2;go_returns;exact⟨_,rfl,PU.out.1,(HB1.out.trans LA.out).trans PU.out.2⟩
 ·go_simp;refine hK.out _ _ trivial (λ_=>?_);clear hK K;try go_frame
  refine aW (rs:=[2,4]) (by kernel_rfl) (by simp) ?_;refine bM rfl (λK hK=>?_) (bM rfl (λK hK=>?_) bX)
  ·go_simp
   refine(Wp.out (W1.alloc (.cells #[.int .i64 t.aD,.slice A3 t.ops.length c3,.bool t.done] 48)).drew ((af _).alloc _).drew).mono ?_
   rintro e W3 ⟨v',rfl,hrow,b3,b13⟩;obtain⟨An,nn,cn,rfl⟩:=hrow.slice';refine hK.out _ _ trivial (λ_=>?_);clear hK K;try go_frame
   refine aW (rs:=[4]) (by kernel_rfl) (by simp) ?_;refine bM rfl (λK hK=>?_) bX;go_simp;refine hK.out _ _ trivial (λ_=>?_);clear hK K;try go_frame
   have wX:=Row.ext hrow ((af W3).alloc (.cells #[.int .i64 t.aD,.slice A3 t.ops.length c3,.bool t.done] 48));have OH:=Je W3 t.aD (.slice A3 t.ops.length c3) t.done;have EY:=b3.alloc (.cells #[.int .i64 t.aD,.slice A3 t.ops.length c3,.bool t.done] 48);obtain⟨A7,n7,c7,w7,hrun,hyes,b7⟩:=nP.out _ _ _ wX OH EY;have Ja:=aa hyes;have cz:=aa hrun;have LA:=aa b7;clear hrun hyes b7 wX OH EY;refine aW (rs:=[5]) (by kernel_rfl) (by simp) ?_;refine bM rfl (λK hK=>?_) bX;refine dY (by rfl) (by rfl) (by rfl) (by rfl) cz.out ?_;refine hK.out _ _ trivial (λ_=>?_);clear hK K;try go_frame
   refine aW (rs:=[7]) (by kernel_rfl) (by simp) ?_;refine bM rfl (λK hK=>?_) bX;go_simp;refine Ja.out.mono ?_;rintro e w8 ⟨vv,rfl,hh,b8⟩;have PU:=aa (aL hh b8);clear hh b8;refine hK.out _ _ trivial (λ_=>?_);clear hK K;try go_frame
   refine iV 8 vv rfl (aM ⟨by rfl,λV _=>by go_simp⟩) trivial ?_;try go_frame
   refine iV 9 (.string (tx (putR h l).2)) rfl (aM ⟨by rfl,λV _=>by go_simp⟩) trivial ?_;try go_frame
   refine aW (rs:=[10]) (by kernel_rfl) (by simp) ?_;refine bM rfl (λK hK=>?_) bX;go_simp;refine hK.out _ _ trivial (λ_=>?_);clear hK K;try go_frame
   refine aW (rs:=[11]) (by kernel_rfl) (by simp) ?_;refine bM rfl (λK hK=>?_) bX;go_simp;refine hK.out _ _ trivial (λ_=>?_);clear hK K;try go_frame
   refine lg (by kernel_rfl) ?_ _;go_wp2;go_returns;exact⟨_,rfl,PU.out.1,(HB1.out.trans LA.out).trans PU.out.2⟩
  ·go_simp;refine hK.out _ _ trivial (λ_=>?_);clear hK K;try go_frame
   refine aW (rs:=[2]) (by kernel_rfl) (by simp) ?_;refine bM rfl (λK hK=>?_) bX;go_simp
   refine(Wp.out ((W1.alloc (.cells #[.int .i64 t.aD,.slice A3 t.ops.length c3,.bool t.done] 48)).drew.alloc (.cells #[.int .i64 t.aD,.slice A3 t.ops.length c3,.bool t.done] 48)) (((af _).alloc _).drew.alloc _)).mono ?_
   rintro e W3 ⟨v',rfl,hrow,b3,b13⟩;obtain⟨An,nn,cn,rfl⟩:=hrow.slice';refine hK.out _ _ trivial (λ_=>?_);clear hK K;try go_frame
   have wX:=hrow;have OH:=aI.ext (Je (W1.alloc (.cells #[.int .i64 t.aD,.slice A3 t.ops.length c3,.bool t.done] 48)).drew t.aD (.slice A3 t.ops.length c3) t.done) b13;rw[show (W1.alloc (.cells #[.int .i64 t.aD,.slice A3 t.ops.length c3,.bool t.done] 48)).drew.heap.size=B+1 by rw[<-hB];simp]at OH;have EY:=b3;obtain⟨A7,n7,c7,w7,hrun,hyes,b7⟩:=nP.out _ _ _ wX OH EY;have Ja:=aa hyes;have cz:=aa hrun;have LA:=aa b7;clear hrun hyes b7 wX OH EY;refine aW (rs:=[5]) (by kernel_rfl) (by simp) ?_;refine bM rfl (λK hK=>?_) bX;refine dY (by rfl) (by rfl) (by rfl) (by rfl) cz.out ?_;refine hK.out _ _ trivial (λ_=>?_);clear hK K;try go_frame
   refine aW (rs:=[7]) (by kernel_rfl) (by simp) ?_;refine bM rfl (λK hK=>?_) bX;go_simp;refine Ja.out.mono ?_;rintro e w8 ⟨vv,rfl,hh,b8⟩;have PU:=aa (aL hh b8);clear hh b8;refine hK.out _ _ trivial (λ_=>?_);clear hK K;try go_frame
   refine iV 8 vv rfl (aM ⟨by rfl,λV _=>by go_simp⟩) trivial ?_;try go_frame
   refine iV 9 (.string (tx (putR h l).2)) rfl (aM ⟨by rfl,λV _=>by go_simp⟩) trivial ?_;try go_frame
   refine aW (rs:=[10]) (by kernel_rfl) (by simp) ?_;refine bM rfl (λK hK=>?_) bX;go_simp;refine hK.out _ _ trivial (λ_=>?_);clear hK K;try go_frame
   refine aW (rs:=[11]) (by kernel_rfl) (by simp) ?_;refine bM rfl (λK hK=>?_) bX;go_simp;refine hK.out _ _ trivial (λ_=>?_);clear hK K;try go_frame
   refine lg (by kernel_rfl) ?_ _;go_wp2;go_returns;exact⟨_,rfl,PU.out.1,(HB1.out.trans LA.out).trans PU.out.2⟩
def vg(n i j:Nat):List Nat:=(List.replicate i (List.range n)).flatten++List.range j
theorem Kr(n i j:Nat):vg n i j++[j]=vg n i (j+1):=by unfold vg;rw[jN,kD]
theorem LG(n i:Nat):vg n i n=vg n (i+1) 0:=by unfold vg;rw[List.replicate_succ'];simp
theorem Nk(n:Nat):vg n 4 0=dA n:=by simp[vg,dA,List.replicate]
theorem LF(n i j:Nat):(vg n i j).length=i*n+j:=by simp[vg]
theorem UR{w:World}{v:Value}{xs:List Nat}(h:aI 1 (one jE) w v xs):mD encI w v (xs.map λn:Nat=>(n:Int)):=by
 obtain⟨A,c,rfl,hc⟩:=h;refine⟨A,c,by rw[dF],λhn=>?_⟩;rw[dF]at hn;obtain⟨b,off,hA,hlt,hx⟩:=hc hn;refine⟨b,off,hA,hlt,λi x hi=>?_⟩;rw[jM]at hi;obtain⟨y,hy,rfl⟩:=qi.1 hi
 have:=hx i y hy 0 (by omega)
 simpa[one,jE,encI] using this
theorem OO(h:List aF)(r:List UInt8):runD h r=if ((dO r).isSome&&aH (jJ ((dO r).getD [])))=true then (jJ ((dO r).getD []),Jo) else (h,Ev):=by
 unfold runD
 cases e:dO r with
 | none=>simp
 | some p=>simp[p8 (je.1 e).1]
theorem OL{X:Nat->Prop}{v:Value}{h:List aF}(l:List UInt8)(w:World)(hX:∀q,X q->q<w.heap.size)(H:pz X w v h)(hok:aH h=true)(hE:Env w)(hl:l.length<=1048576)(hne:l≠[]) :
 Calls Tryz.prog 59 #[v,.string (tx l)] w (uF X w (runD h l)):=by
 obtain⟨A,c,rfl⟩:=H.slice;have Pp:=aa (Bw l w hE hl hne);have HH:=aa H;have jh:=aa hok;have Vs:=aa hX;obtain⟨z,hz⟩:∃z,tx l=z:=⟨_,rfl⟩;rw[hz]at Pp ⊢;clear H hok hE hl hne hz hX;go_enter Tryz.func59,Tryz.ntmps59;go_wp2_with fail
 refine Pp.out.mono ?_;rintro e W1 ⟨p,pv,rfl,hpl,hpe,b1⟩;obtain⟨ok,Gh⟩:∃ok,(dO l).isSome=ok:=⟨_,rfl⟩;have HD:Hid (runD h l=if (ok&&aH (jJ p))=true then (jJ p,Jo) else (h,Ev)):=by rw[<-Gh,hpe];exact OO h l
 have hpk:bJ p=true:=by
  rw[hpe]
  cases e:dO l with
  | none=>rfl
  | some p'=>exact(je.1 e).1
 rw[Gh];have Yb:=jB hpk;have HB1:=aa b1;have Jn:=aa hpl;have ZA:=aa hpk;obtain⟨Ap,cp,rfl⟩:=hpl.slice;have Po:Row 3 1 (one jE) W1.heap.size (W1.alloc (.cells #[] 3)) (.slice (some ⟨W1.heap.size,0,none⟩) 0 0) ([]:List Nat):=nk;have CP:=aa Po;have hn0:(0:Int)<=(p.length:Int):=by omega
 have RJ:(p.length:Int)<=4:=by omega
 clear hpe Gh hpk b1 hpl Po;go_wp2_with fail
 go_loopw [8,16] (λs i wr=>Ext W1 wr/\∃k:Nat,k<=4/\i=.int .i64 k/\Hid (Row 3 1 (one jE) W1.heap.size wr s (vg p.length k 0))) (λ_ i _=>4-(intOf i).toNat)
 case atStart=>exact⟨(af _).alloc _,0,by omega,by rfl,CP.out⟩
 case round=>
  obtain⟨hb,k,hk,rfl,HR⟩:=hrel;obtain⟨A5,c5,rfl,_⟩:=id HR.out.cell.1;by_cases hlt:k<4
  ·have PT:=aa hlt;have hd:decide ((k:Int)<4)=true:=kQ (by omega);clear hlt;go_wp2_with fail
   clear hd;go_loopw [8,20] (λs j wr=>Ext W1 wr/\∃q:Nat,q<=p.length/\j=.int .i64 q/\Hid (Row 3 1 (one jE) W1.heap.size wr s (vg p.length k q))) (λ_ j _=>p.length-(intOf j).toNat)
   case atStart=>exact⟨hb,0,by omega,by rfl,HR.out⟩
   case round=>
    obtain⟨hb,q,hq,rfl,HR⟩:=hrel;obtain⟨A5,c5,rfl,_⟩:=id HR.out.cell.1;by_cases BH:q<p.length
    ·obtain⟨v',w7,hrun,hp⟩:=JC wr.heap.size rfl HR.out (af _) q hb.size (by have h1:=LF p.length k q;have h2:k*p.length<=4*4:=Nat.mul_le_mul (by omega) (by omega);omega);obtain⟨A7,c7,rfl,_⟩:=id hp.1.cell.1;have cz:=aa hrun;have HP:=aa hp;clear hrun hp;go_wp2_with (at_builtin;refine wpList_append_run rfl rfl rfl rfl cz.out ?_)
     go_roundw;case rel=>exact⟨HP.out.2.1 _ hb (ay _),q+1,by omega,by go_num,by rw[<-Kr];have:=HP.out.1;rw[show (vg p.length k q++[q]).length=(vg p.length k q).length+1 by simp]at this;exact this⟩
     case measure=>simp[intOf];omega
    ·obtain rfl:q=p.length:=by omega
     go_wp2;go_roundw;case rel=>exact⟨hb,k+1,by have:=PT.out;omega,by go_num,by rw[<-LG];exact HR.out⟩
     case measure=>have:=PT.out;simp[intOf];omega
  ·obtain rfl:k=4:=by omega
   have HRS:=aa (uS wr (Jn.out.ext hb) ZA.out (by rw[<-Nk];exact UR HR.out.cell.1));have HB2:=aa hb;go_wp2_with fail
   refine HRS.out.mono ?_;rintro e W3 ⟨vr,rs,rfl,hr,ho,b3⟩;have Zg:∀q,X q->q<wr.heap.size:=λq hq=>by have:=HB1.out.size;have:=HB2.out.size;have:=Vs.out q hq;omega
   have hw3:=(HB1.out.trans HB2.out).trans b3;obtain⟨Ar,cr,rfl⟩:=lV.slice (show lV W3 vr (jJ p) from ⟨rs,hr⟩);have R8:=p8 ZA.out;have HY:=aa (Ec ok W3 (HH.out.ext hw3) (pz.L9 hr ho Zg) (by have:=aT R8;omega) (λ_=>bD R8));rw[<-HD.out]at HY;have HW3:=aa hw3;clear hr ho Zg b3 hw3 R8;go_wp2_with fail
   refine HY.out.mono ?_;rintro e W4 ⟨vv,rfl,hh,b4⟩;go_wp2;go_returns;exact⟨_,rfl,hh,HW3.out.trans b4⟩
theorem BV(l:List UInt8)(w:World):∃cap W1,(convert 9 22 (.string (tx l))).run Tryz.prog w=.ok (.slice (some ⟨w.heap.size,0,none⟩) l.length cap) W1/\Ext w W1/\∀(j:Nat) x,l[j]? =some x->W1.cell? ⟨w.heap.size,j,none⟩=some (.int .u8 (x.toNat:Int)):=by
 refine⟨_,Lib.bytesWorld w 5 (tx l),by rw[<-eZ l];exact Lib.run_convert_string_bytes (P:=Tryz.prog) w 9 22 5 (tx l) Tryz.underlying9 Tryz.underlying22 Tryz.underlying5,⟨rfl,rfl,rfl,by rw[Lib.bytesWorld_size];omega,λk hk=>Lib.bytesWorld_at_old w _ _ k hk⟩,λj x hj=>?_⟩;have hlt:j<l.length:=(aS.1 hj).1;rw[Lib.bytesWorld_cell w _ _ j (by rw[eZ];exact hlt)]
 have:(tx l).data.toList=l:=rfl
 rw[this,qm,hj];rfl
theorem wrap_small{y:Int}(h1:0<=y)(h2:y<1000):wrap64 y=y:=by unfold wrap64;omega
theorem qE(l:List UInt8)(w:World)(h:l.length=0∨3<=l.length):Calls Tryz.prog 61 #[.string (tx l)] w λe w'=>e=.returned (.tuple #[.int .i64 (((dU l).getD 0:Nat):Int),.bool (dU l).isSome])/\Ext w w':=by
 have hno:=aa (wY h);have hsz:=eZ l;have hin:kV (l.length:Int) 1 2=false:=by
  rw[Bool.eq_false_iff];intro e
  have:=cK.1 e
  omega
 obtain⟨z,hz⟩:∃z,tx l=z:=⟨_,rfl⟩;rw[hz]at hsz ⊢;clear hz h;go_enter Tryz.func61,Tryz.ntmps61;go_wp2_with (go_at_call 106;refine(bQ _ _ _ _).mono ?_;rintro e w' ⟨rfl,rfl⟩)
 go_returns;exact⟨by rw[hno.out];rfl,af _⟩
theorem xA(a:UInt8)(w:World):Calls Tryz.prog 61 #[.string (tx [a])] w λe w'=>e=.returned (.tuple #[.int .i64 (((dU [a]).getD 0:Nat):Int),.bool (dU [a]).isSome])/\Ext w w':=by
 obtain⟨cap,W1,hcv,hE,hC⟩:=BV [a] w;rw[show tx [a]=⟨#[a]⟩ from rfl]at hcv ⊢;have hsz:(⟨#[a]⟩:ByteArray).size=1:=rfl;have hin:kV 1 1 2=true:=by decide
 have HC:=aa hC;have HE:=aa hE;clear hC hE;go_enter Tryz.func61,Tryz.ntmps61;go_wp2_with (go_at_call 106;refine(bQ _ _ _ _).mono ?_;rintro e w' ⟨rfl,rfl⟩)
 go_loopw [4,24] (λn i wr=>wr=W1/\∃k:Nat,k<=1/\i=.int .i64 k/\n=.int .i64 ((numOf ([a].take k):Nat):Int)/\Hid (([a].take k).all ku=true/\numOf ([a].take k)<10 ^ k)) (λ_ i _=>1-(intOf i).toNat)
 case atStart=>exact⟨rfl,0,by omega,by rfl,by rfl,rfl,by simp[numOf]⟩
 case round=>
  obtain⟨rfl,k,hk,rfl,rfl,HA⟩:=hrel;by_cases hlt:k<1
  ·obtain⟨x,hx⟩:=au (xs:=[a]) (show k<1 from hlt);have hc:=HC.out k x hx;have HX:=aa hx;have hki:(k:Int)<1:=by omega
   have hk0:(0:Int)<=(k:Int):=by omega
   clear hx;by_cases hd:ku x=true
   ·have hd1:(48:Int)<=(x.toNat:Int)/\(x.toNat:Int)<=57:=by simp only[ku,bK,eG]at hd;omega
    have HD:=aa hd;obtain⟨d1,d2⟩:=hd1;clear hd;have hn:numOf ([a].take (k+1))=10*numOf ([a].take k)+(x.toNat-48):=by rw[aj HX.out,numOf,tO];rfl
    have hb:numOf ([a].take k)<=9:=by
     have h1:=HA.out.2;obtain rfl|rfl:k=0∨k=1:=by omega
     ·exact aR (pJ h1) (by decide)
     ·omega
    have HN:=aa (aL hn hb);clear hn hb;go_wp2;refine⟨⟨trivial,k+1,hlt,by simp,?_,?_,?_⟩,?_⟩
    ·rw[HN.out.1];have h1:=HN.out.2;rw[wrap_small (y:=10*((numOf ([a].take k):Nat):Int)) (by omega) (by omega),wrap_small (by omega) (by omega)];congr 1;omega
    ·rw[aj HX.out,List.all_append,HA.out.1];simp[HD.out]
    ·rw[HN.out.1,Nat.pow_succ];have h1:=HA.out.2;omega
    ·simp[intOf];omega
   ·have CS:Hid (dU [a]=none):=by
     show _ = _;have hall:[a].all ku=false:=by rw[Bool.eq_false_iff];intro h;exact hd (iN.1 h x (aN HX.out))
     simp only[dU,lQ,hall,Bool.and_false];rfl
    have hd1:(x.toNat:Int)<48∨57<(x.toNat:Int):=by simp only[ku,bK,eG]at hd;omega
    clear hd;rcases hd1 with d1|d1
    ·go_wp2;go_returns;exact⟨by rw[CS.out];rfl,HE.out⟩
    ·have d2:¬((x.toNat:Int)<48):=by omega
     go_wp2;go_returns;exact⟨by rw[CS.out];rfl,HE.out⟩
  ·obtain rfl:k=1:=by omega
   go_wp2;go_returns;have hs:dU [a]=some (numOf [a]):=by
    have:=HA.out.1
    rw[jZ (by simp)]at this;rw[dU,ah];simp only[lQ,this,Bool.and_true];rfl
   refine⟨?_,HE.out⟩;rw[hs];show Ending.returned (.tuple #[.int .i64 ((numOf ([a].take 1):Nat):Int),.bool true]) = _;rw[jZ (by simp)];rfl
theorem xB(a b:UInt8)(w:World):Calls Tryz.prog 61 #[.string (tx [a,b])] w λe w'=>e=.returned (.tuple #[.int .i64 (((dU [a,b]).getD 0:Nat):Int),.bool (dU [a,b]).isSome])/\Ext w w':=by
 obtain⟨cap,W1,hcv,hE,hC⟩:=BV [a,b] w;rw[show tx [a,b]=⟨#[a,b]⟩ from rfl]at hcv ⊢;have hsz:(⟨#[a,b]⟩:ByteArray).size=2:=rfl;have hin:kV 2 1 2=true:=by decide
 have HC:=aa hC;have HE:=aa hE;clear hC hE;by_cases ha:a=48
 ·subst ha;have hno:Hid (dU [48,b]=none):=by show _ = _;rw[yU,ak (by simp)]
  go_enter Tryz.func61,Tryz.ntmps61;go_wp2_with (go_at_call 106;refine(bQ _ _ _ _).mono ?_;rintro e w' ⟨rfl,rfl⟩)
  go_returns;exact⟨by rw[hno.out];rfl,af _⟩
 ·have h48:((a.toNat:Int)==48)=false:=by
   rw[oO];intro e;have e':(a.toNat:Int)=48:=by simpa using e
   exact ha (UInt8.toNat_inj.1 (show a.toNat=(48:UInt8).toNat from Int.ofNat_inj.1 e'))
  have hz0:(⟨#[a,b]⟩:ByteArray)[0]'(by rw[hsz];decide)=a:=rfl;have Xk:=aa ha;clear ha;go_enter Tryz.func61,Tryz.ntmps61;go_wp2_with (go_at_call 106;refine(bQ _ _ _ _).mono ?_;rintro e w' ⟨rfl,rfl⟩)
  go_loopw [4,24] (λn i wr=>wr=W1/\∃k:Nat,k<=2/\i=.int .i64 k/\n=.int .i64 ((numOf ([a,b].take k):Nat):Int)/\Hid (([a,b].take k).all ku=true/\numOf ([a,b].take k)<10 ^ k)) (λ_ i _=>2-(intOf i).toNat)
  case atStart=>exact⟨rfl,0,by omega,by rfl,by rfl,rfl,by simp[numOf]⟩
  case round=>
   obtain⟨rfl,k,hk,rfl,rfl,HA⟩:=hrel;by_cases hlt:k<2
   ·obtain⟨x,hx⟩:=au (xs:=[a,b]) (show k<2 from hlt);have hc:=HC.out k x hx;have HX:=aa hx;have hki:(k:Int)<2:=by omega
    have hk0:(0:Int)<=(k:Int):=by omega
    clear hx;by_cases hd:ku x=true
    ·have hd1:(48:Int)<=(x.toNat:Int)/\(x.toNat:Int)<=57:=by simp only[ku,bK,eG]at hd;omega
     have HD:=aa hd;obtain⟨d1,d2⟩:=hd1;clear hd;have hn:numOf ([a,b].take (k+1))=10*numOf ([a,b].take k)+(x.toNat-48):=by rw[aj HX.out,numOf,tO];rfl
     have hb:numOf ([a,b].take k)<=9:=by
      have h1:=HA.out.2;obtain rfl|rfl:k=0∨k=1:=by omega
      ·exact aR (pJ h1) (by decide)
      ·omega
     have HN:=aa (aL hn hb);clear hn hb;go_wp2;refine⟨⟨trivial,k+1,hlt,by simp,?_,?_,?_⟩,?_⟩
     ·rw[HN.out.1];have h1:=HN.out.2;rw[wrap_small (y:=10*((numOf ([a,b].take k):Nat):Int)) (by omega) (by omega),wrap_small (by omega) (by omega)];congr 1;omega
     ·rw[aj HX.out,List.all_append,HA.out.1];simp[HD.out]
     ·rw[HN.out.1,Nat.pow_succ];have h1:=HA.out.2;omega
     ·simp[intOf];omega
    ·have CS:Hid (dU [a,b]=none):=by
      show _ = _;have hall:[a,b].all ku=false:=by rw[Bool.eq_false_iff];intro h;exact hd (iN.1 h x (aN HX.out))
      simp only[dU,lQ,hall,Bool.and_false];rfl
     have hd1:(x.toNat:Int)<48∨57<(x.toNat:Int):=by simp only[ku,bK,eG]at hd;omega
     clear hd;rcases hd1 with d1|d1
     ·go_wp2;go_returns;exact⟨by rw[CS.out];rfl,HE.out⟩
     ·have d2:¬((x.toNat:Int)<48):=by omega
      go_wp2;go_returns;exact⟨by rw[CS.out];rfl,HE.out⟩
   ·obtain rfl:k=2:=by omega
    go_wp2;go_returns;have hs:dU [a,b]=some (numOf [a,b]):=by
     have:=HA.out.1
     rw[jZ (by simp)]at this;rw[dU,ah];simp only[lQ,this,Bool.and_true];simp[Xk.out]
    refine⟨?_,HE.out⟩;rw[hs];show Ending.returned (.tuple #[.int .i64 ((numOf ([a,b].take 2):Nat):Int),.bool true]) = _;rw[jZ (by simp)];rfl
theorem xM(l:List UInt8)(w:World):Calls Tryz.prog 61 #[.string (tx l)] w λe w'=>e=.returned (.tuple #[.int .i64 (((dU l).getD 0:Nat):Int),.bool (dU l).isSome])/\Ext w w':=by
 match l with
 | [a]=>exact xA a w
 | [a,b]=>exact xB a b w
 | []=>exact qE [] w (.inl rfl)
 | a :: b :: c :: r=>exact qE _ w (.inr (by simp))
def I9(l:List UInt8):Option Value:=if l=rA then some (.func (.func 57) #[] #[]) else if l=kS then some (.func (.func 56) #[] #[]) else if l=kN then some (.func (.func 55) #[] #[]) else none
def EA(l:List UInt8):Option Value:=if l=pV then some (.func (.func 59) #[] #[]) else if l=GY then some (.func (.func 58) #[] #[]) else none
theorem OI(w:World):∃o1 o2 o3,
 (Instr.mapUpdate 85 (.map (some w.heap.size)) (.string ⟨#[108,101,118,101,108]⟩) (.func (.func 55) #[] #[])).run Tryz.prog (w.alloc (.map #[] 0))=.ok () (aK (w.alloc (.map #[] 0)) w.heap.size o1) /\
 (Instr.mapUpdate 85 (.map (some w.heap.size)) (.string ⟨#[115,101,114,105,97,108]⟩) (.func (.func 56) #[] #[])).run Tryz.prog (aK (w.alloc (.map #[] 0)) w.heap.size o1)=.ok () (aK (aK (w.alloc (.map #[] 0)) w.heap.size o1) w.heap.size o2) /\
 (Instr.mapUpdate 85 (.map (some w.heap.size)) (.string ⟨#[116,101,120,116]⟩) (.func (.func 57) #[] #[])).run Tryz.prog (aK (aK (w.alloc (.map #[] 0)) w.heap.size o1) w.heap.size o2)=.ok () (aK (aK (aK (w.alloc (.map #[] 0)) w.heap.size o1) w.heap.size o2) w.heap.size o3) /\
 iJ (aK (aK (aK (w.alloc (.map #[] 0)) w.heap.size o1) w.heap.size o2) w.heap.size o3) w.heap.size xP I9/\Ext w (aK (aK (aK (w.alloc (.map #[] 0)) w.heap.size o1) w.heap.size o2) w.heap.size o3):=by
 obtain⟨o1,h1,g1,_⟩:=dP (P:=Tryz.prog) Tryz.underlying85 (iQ Tryz.underlying9) (iJ.made w xP) kN (.func (.func 55) #[] #[]);obtain⟨o2,h2,g2,_⟩:=dP (P:=Tryz.prog) Tryz.underlying85 (iQ Tryz.underlying9) g1 kS (.func (.func 56) #[] #[]);obtain⟨o3,h3,g3,_⟩:=dP (P:=Tryz.prog) Tryz.underlying85 (iQ Tryz.underlying9) g2 rA (.func (.func 57) #[] #[]);exact⟨o1,o2,o3,h1,h2,h3,g3.congr (λk=>by unfold I9;rfl),((((af _).alloc _).aK (ay _) _).aK (ay _) _).aK (ay _) _⟩
theorem OV(w:World):∃o1 o2,
 (Instr.mapUpdate 87 (.map (some w.heap.size)) (.string ⟨#[112,117,116]⟩) (.func (.func 58) #[] #[])).run Tryz.prog (w.alloc (.map #[] 0))=.ok () (aK (w.alloc (.map #[] 0)) w.heap.size o1) /\
 (Instr.mapUpdate 87 (.map (some w.heap.size)) (.string ⟨#[114,117,110]⟩) (.func (.func 59) #[] #[])).run Tryz.prog (aK (w.alloc (.map #[] 0)) w.heap.size o1)=.ok () (aK (aK (w.alloc (.map #[] 0)) w.heap.size o1) w.heap.size o2) /\
 iJ (aK (aK (w.alloc (.map #[] 0)) w.heap.size o1) w.heap.size o2) w.heap.size xP EA/\Ext w (aK (aK (w.alloc (.map #[] 0)) w.heap.size o1) w.heap.size o2):=by
 obtain⟨o1,h1,g1,_⟩:=dP (P:=Tryz.prog) Tryz.underlying87 (iQ Tryz.underlying9) (iJ.made w xP) GY (.func (.func 58) #[] #[]);obtain⟨o2,h2,g2,_⟩:=dP (P:=Tryz.prog) Tryz.underlying87 (iQ Tryz.underlying9) g1 pV (.func (.func 59) #[] #[]);exact⟨o1,o2,h1,h2,g2.congr (λk=>by unfold EA;rfl),(((af _).alloc _).aK (ay _) _).aK (ay _) _⟩
theorem Ou:∃z,∀W,(zeroValue 63).run Tryz.prog W=.ok z W:=⟨.nilFunc,λW=>by kernel_rfl⟩
theorem N9:∃z,∀W,(zeroValue 26).run Tryz.prog W=.ok z W:=⟨.nilFunc,λW=>by kernel_rfl⟩
theorem Ox(s:List UInt8)(w:World)(hE:Env w)(hs:s.length<=1048576):Calls Tryz.prog 60 #[.string (tx s),.string ⟨#[32]⟩] w λe w'=>∃b,e=.returned (.tuple #[.string (tx (eO s)),.string (tx (fA s)),.bool b])/\Ext w w':=by
 obtain⟨m,hm⟩:=hE.max
 refine(Tryz.strings_Cut (tx s) (tx [32]) m w (by rw[eZ];omega) hm).mono ?_
 rintro e w' ⟨rfl,n,rfl⟩;obtain⟨h1,h2⟩:=NY s;have e1:Lib.cut (tx s).data.toList (tx [32]).data.toList=Lib.cut s [32]:=rfl;refine⟨_,by rw[e1,h1,h2];rfl,⟨rfl,rfl,rfl,ay _,λ_ _=>rfl⟩⟩
theorem MM{X:Nat->Prop}{v:Value}{h:List aF}(n:Nat)(w:World)(hX:∀q,X q->q<w.heap.size)(H:pz X w v h)(hok:aH h=true) :
 Calls Tryz.prog 62 #[v,.int .i64 (n:Int)] w λe w'=>∃v',e=.returned (.tuple #[v',.bool (decide (n<h.length))])/\pz X w' v' (if n<h.length then mq h n else [])/\Ext w w':=by
 by_cases hn:n<h.length
 ·refine(Dy n w H.his hok hn (by have:=aT hok;omega) (bD hok)).mono ?_
  rintro e w' ⟨v',rs,rfl,hr,ho,b⟩;exact⟨v',by rw[kQ hn],by rw[ah hn];exact pz.L9 hr ho hX,b⟩
 ·refine(vH (n:Int) w H.his hok (by omega) (by have:=aT hok;omega) (bD hok)).mono ?_
  rintro e w' ⟨rfl,b⟩;exact⟨_,by rw[jW hn],by rw[ak hn];exact⟨[],⟨rfl,aI.nil _ _ _ _ _,λi r t hr=>by simp at hr⟩,λa n c e=>(by cases e),λi r hr=>by simp at hr⟩,b⟩
theorem NI{h:List aF}(hok:aH h=true)(n:Nat):Cz h n=if (decide (n<h.length)&&aH (if n<h.length then mq h n else []))=true then ((if n<h.length then mq h n else []),Jo) else (h,Ev):=by
 unfold Cz;by_cases hn:n<h.length
 ·simp[hn,Ak hok n]
 ·simp[hn]
theorem Mh{X:Nat->Prop}{v:Value}{h:List aF}(s:List UInt8)(w:World)(hX:∀q,X q->q<w.heap.size)(H:pz X w v h)(hok:aH h=true)(hE:Env w)(hl:s.length<=1048576) :
 Calls Tryz.prog 23 #[v,.string (tx s)] w (uF X w (deskR h s)):=by
 obtain⟨A,c,rfl⟩:=H.slice;obtain⟨o1,o2,o3,u1,u2,u3,gA,eA⟩:=OI w;obtain⟨zA,Zc⟩:=Ou;obtain⟨zB,hzB⟩:=N9;have hlA:=kg (P:=Tryz.prog) Tryz.underlying85 (iQ Tryz.underlying9) Zc gA s;unfold xP at hlA;obtain⟨W3,hW3⟩:∃W3,aK (aK (aK (w.alloc (.map #[] 0)) w.heap.size o1) w.heap.size o2) w.heap.size o3=W3:=⟨_,rfl⟩;rw[hW3]at u3 hlA eA;have HH:=aa (H.ext eA);have jh:=aa hok;have HE:=aa (hE.ext eA);have HA:=aa eA;have Xv:Hid (∀q,X q->q<W3.heap.size):=λq hq=>dJ (hX q hq) eA.size;have hmk:=@run_makeMap Tryz.prog;obtain⟨z,hz⟩:∃z,tx s=z:=⟨_,rfl⟩;rw[hz]at hlA;have HZ:=aa hz;rw[hz];clear H hok hE gA eA hW3 Zc hz hX;by_cases hs1:s=kN
 ·subst hs1;rw[show I9 kN=some (.func (.func 55) #[] #[]) by rfl]at hlA;simp only[Option.getD_some,Option.isSome_some]at hlA;rw[show deskR h kN = _ from wV h];have HT:=aa (Bt W3 HH.out.his jh.out);go_enter Tryz.func23,Tryz.ntmps23;go_wp2_with fail
  refine HT.out.mono ?_;rintro e w' ⟨rfl,b⟩;go_wp2;go_returns;exact⟨_,rfl,HH.out.ext b,HA.out.trans b⟩
 by_cases hs2:s=kS
 ·subst hs2;rw[show I9 kS=some (.func (.func 56) #[] #[]) by rfl]at hlA;simp only[Option.getD_some,Option.isSome_some]at hlA;rw[show deskR h kS = _ from DL h];have HT:=aa (Be W3 HH.out.his jh.out);go_enter Tryz.func23,Tryz.ntmps23;go_wp2_with fail
  refine HT.out.mono ?_;rintro e w' ⟨rfl,b⟩;go_wp2;go_returns;exact⟨_,rfl,HH.out.ext b,HA.out.trans b⟩
 by_cases hs3:s=rA
 ·subst hs3;rw[show I9 rA=some (.func (.func 57) #[] #[]) by rfl]at hlA;simp only[Option.getD_some,Option.isSome_some]at hlA;rw[show deskR h rA = _ from Il h];have HT:=aa (CY W3 HH.out.his jh.out);go_enter Tryz.func23,Tryz.ntmps23;go_wp2_with fail
  refine HT.out.mono ?_;rintro e w' ⟨rfl,b⟩;go_wp2;go_returns;exact⟨_,rfl,HH.out.ext b,HA.out.trans b⟩
 have hno:I9 s=none:=by unfold I9;rw[ak (by assumption),ak (by assumption),ak (by assumption)]
 rw[hno]at hlA;simp only[Option.getD_none,Option.isSome_none]at hlA;have HS:=aa (aL hs1 (aL hs2 hs3));obtain⟨p1,p2,v1,v2,gB,eB⟩:=OV W3;obtain⟨W5,Zk⟩:∃W5,aK (aK (W3.alloc (.map #[] 0)) W3.heap.size p1) W3.heap.size p2=W5:=⟨_,rfl⟩;rw[Zk]at v2 gB eB;have HC:=aa (Ox s W5 (HE.out.ext eB) hl);rw[HZ.out]at HC;have PO:=aa gB;have Tt:=aa eB;clear hno hs1 hs2 hs3 gB eB Zk;go_enter Tryz.func23,Tryz.ntmps23;go_wp2_with fail
 refine HC.out.mono ?_;rintro e W6 ⟨b,rfl,b6⟩;have CJ:Hid (Ext W3 W6):=Tt.out.trans b6;have hlB:=kg (P:=Tryz.prog) Tryz.underlying87 (iQ Tryz.underlying9) hzB (PO.out.ext b6) (eO s);unfold xP at hlB;have hrl:=Ku s;have Zb:Hid ((fA s).length<=1048576):=by show _<=_;omega
 have vM:=aa (λW=>xM (fA s) W);have IP:=aa (λhne=>OP (fA s) W6 (λq hq=>dJ (Xv.out q hq) CJ.out.size) (HH.out.ext CJ.out) jh.out (HE.out.ext CJ.out) Zb.out hne);have zF:=aa (λhne=>OL (fA s) W6 (λq hq=>dJ (Xv.out q hq) CJ.out.size) (HH.out.ext CJ.out) jh.out (HE.out.ext CJ.out) Zb.out hne);clear HC hrl hzB b6 hlA u1 u2 u3 v1 v2 hmk;obtain⟨zw,N7⟩:∃z,tx (eO s)=z:=⟨_,rfl⟩;obtain⟨zr,Om⟩:∃z,tx (fA s)=z:=⟨_,rfl⟩;rw[N7]at hlB;rw[Om]at vM IP zF;rw[N7,Om];have hrt:zr.toList=fA s:=by rw[<-Om,eu]
 have hwt:zw.toList=eO s:=by rw[<-N7,eu]
 by_cases hr:fA s=[]
 ·have hq0:(zr.toList != [])=false:=by rw[hrt,hr];rfl
  have hq1:zr.toList.isEmpty=true:=by rw[hrt,hr];rfl
  have HD:Hid (deskR h s=(h,CV)):=tJ HS.out.1 HS.out.2.1 HS.out.2.2 (λe=>e.2 hr) (λe=>e.2 hr) (λ_=>by rw[hr];rfl);rw[hr,show dU []=none from rfl]at vM;simp only[Option.getD_none,Option.isSome_none]at vM;obtain⟨fv,ZM⟩:∃x,(EA (eO s)).getD zB=x:=⟨_,rfl⟩;obtain⟨bb,hbb⟩:∃x,(EA (eO s)).isSome=x:=⟨_,rfl⟩;rw[ZM,hbb]at hlB;clear ZM hbb hr hrt hwt Om N7;cases bb<;>(
   go_wp2_with fail
   refine(vM.out _).mono ?_
   rintro e W7 ⟨rfl,b7⟩;go_wp2;go_returns;rw[HD.out];exact⟨_,rfl,(HH.out.ext CJ.out).ext b7,(HA.out.trans CJ.out).trans b7⟩)
 ·have hq0:(zr.toList != [])=true:=by rw[hrt];simpa using hr
  have hq1:zr.toList.isEmpty=false:=by rw[hrt];simpa using hr
  by_cases hw:eO s=GY
  ·rw[show EA (eO s)=some (.func (.func 58) #[] #[]) by rw[hw];rfl]at hlB;simp only[Option.getD_some,Option.isSome_some]at hlB;have HD:=aa (Lc (h:=h) hw hr);have HP:=aa (IP.out hr);clear hr hrt hwt Om N7 hw IP zF vM;go_wp2_with fail
   refine HP.out.mono ?_;rintro e W7 ⟨vv,rfl,hh,b7⟩;go_wp2;go_returns;rw[HD.out];exact⟨_,rfl,hh,(HA.out.trans CJ.out).trans b7⟩
  by_cases hw2:eO s=pV
  ·rw[show EA (eO s)=some (.func (.func 59) #[] #[]) by rw[hw2];rfl]at hlB;simp only[Option.getD_some,Option.isSome_some]at hlB;have HD:=aa (CU (h:=h) hw2 hr);have HP:=aa (zF.out hr);clear hr hrt hwt Om N7 hw hw2 IP zF vM;go_wp2_with fail
   refine HP.out.mono ?_;rintro e W7 ⟨vv,rfl,hh,b7⟩;go_wp2;go_returns;rw[HD.out];exact⟨_,rfl,hh,(HA.out.trans CJ.out).trans b7⟩
  rw[show EA (eO s)=none by unfold EA;rw[ak hw2,ak hw]]at hlB;simp only[Option.getD_none,Option.isSome_none]at hlB
  cases Pk:dU (fA s) with
  | none=>
    have HD:Hid (deskR h s=(h,CV)):=tJ HS.out.1 HS.out.2.1 HS.out.2.2 (λe=>hw e.1) (λe=>hw2 e.1) (λ_=>Pk);rw[Pk]at vM;simp only[Option.getD_none,Option.isSome_none]at vM;clear hr hrt hwt Om N7 hw hw2 IP zF Pk;go_wp2_with fail
    refine(vM.out _).mono ?_
    rintro e W7 ⟨rfl,b7⟩;go_wp2;go_returns;rw[HD.out];exact⟨_,rfl,(HH.out.ext CJ.out).ext b7,(HA.out.trans CJ.out).trans b7⟩
  | some n=>
    have hn:=(J6 Pk).1;rw[Pk]at vM;simp only[Option.getD_some,Option.isSome_some]at vM;by_cases hd:eO s=EN
    ·have hq2:(zw.toList==[100,114,111,112])=true:=by rw[hwt,hd];rfl
     have HD:Hid (deskR h s=if (decide (n<h.length)&&aH (if n<h.length then mq h n else []))=true then ((if n<h.length then mq h n else []),Jo) else (h,Ev)):=by rw[G5 hd Pk];exact NI jh.out n
     have HG:Hid (aH (if n<h.length then mq h n else [])=true):=by
      show _ = _;split
      ·exact Ak jh.out n
      ·rfl
     clear hr hrt hwt Om N7 hw hw2 hd IP zF Pk;go_wp2_with fail
     refine(vM.out _).mono ?_
     rintro e W7 ⟨rfl,b7⟩;have LA:Hid (Ext W3 W7):=CJ.out.trans b7;have HDR:=aa (MM n W7 (λq hq=>dJ (Xv.out q hq) LA.out.size) (HH.out.ext LA.out) jh.out);obtain⟨g,hg⟩:∃g,(if n<h.length then mq h n else [])=g:=⟨_,rfl⟩;obtain⟨ok,hok⟩:∃ok,decide (n<h.length)=ok:=⟨_,rfl⟩;rw[hg,hok]at HDR HD;rw[hg]at HG;clear hg hok b7;go_wp2_with fail
     refine HDR.out.mono ?_;rintro e W8 ⟨v',rfl,hh,b8⟩;obtain⟨A8,c8,rfl⟩:=hh.slice;have HY:=aa (Ec ok W8 ((HH.out.ext LA.out).ext b8) hh (by have:=aT HG.out;omega) (λ_=>bD HG.out));have HB8:Hid (Ext W3 W8):=LA.out.trans b8;rw[<-HD.out]at HY;clear hh b8 HDR;go_wp2_with fail
     refine HY.out.mono ?_;rintro e W9 ⟨vv,rfl,hh,b9⟩;go_wp2;go_returns;exact⟨_,rfl,hh,(HA.out.trans HB8.out).trans b9⟩
    ·have hq2:(zw.toList==[100,114,111,112])=false:=by rw[hwt,oO];exact hd
     have HD:Hid (deskR h s=(h,CV)):=tJ HS.out.1 HS.out.2.1 HS.out.2.2 (λe=>hw e.1) (λe=>hw2 e.1) (λe=>absurd e hd);clear hr hrt hwt Om N7 hw hw2 hd IP zF Pk;go_wp2_with fail
     refine(vM.out _).mono ?_
     rintro e W7 ⟨rfl,b7⟩;go_wp2;go_returns;rw[HD.out];exact⟨_,rfl,(HH.out.ext CJ.out).ext b7,(HA.out.trans CJ.out).trans b7⟩
theorem vV.XM{lo lo':Nat}{w:World}{v:Value}{rs:List mo}(h:vV lo w v rs)(hl:lo'<=lo):vV lo' w v rs:=
 have ol:∀{u:Value},Own lo w u->Own lo' w u:=λh a n c hv hn=>⟨aR hl (h a n c hv hn).1,(h a n c hv hn).2⟩
 ⟨ol h.1,λi r hr=>⟨ol (h.2.1 i r hr).1,(h.2.1 i r hr).2⟩,h.2.2⟩
theorem qc.low{w W:World}{h:List aF}{e:Ending}{w':World}(r:qc W h e w')(hb:Ext w W):qc w h e w':=by obtain⟨v,rs,h1,h2,h3,h4⟩:=r;exact⟨v,rs,h1,h2,h3.XM hb.size,hb.trans h4⟩
noncomputable def tq (h:List aF) (s:List UInt8):List aF × List UInt8:=if aH h=true then deskR h s else ([],[])
theorem sJ{v:Value}{h:List aF}(s:List UInt8)(w:World)(H:lV w v h)(hlen:h.length<=2097152)(hM:∀t∈h,t.ops.length<=2097152)(hE:Env w)(hl:s.length<=1048576) :
 Calls Tryz.prog 7 #[v,.string (tx s)] w λe w'=>∃v' rs,e=.returned (.tuple #[v',.string (tx (tq h s).2)])/\xE w' v' rs (tq h s).1/\vV w.heap.size w' v' rs/\Ext w w':=by
 obtain⟨A,c,rfl⟩:=H.slice;have HV:=aa (aZ w H hlen hM);have HH:=aa H;have HE:=aa hE
 cases hok:aH h with
 | false=>
   rw[hok]at HV;have HD:Hid (tq h s=([],[])):=ak (by rw[hok];decide);clear H hlen hM hE hok;obtain⟨z,hz⟩:∃z,tx s=z:=⟨_,rfl⟩;rw[hz];clear hz;go_enter Tryz.func7,Tryz.ntmps7;go_wp2_with (go_at_call 12;refine HV.out.mono ?_;rintro e w1 ⟨rfl,b1⟩)
   go_returns;rw[HD.out];exact⟨.slice none 0 0,[],rfl,⟨rfl,aI.nil _ _ _ _ _,λi r t hr=>by simp at hr⟩,⟨Own.nil _ _ _ _,λi r hr=>by simp at hr,λi j r r' _ hr=>by simp at hr⟩,b1⟩
 | true=>
   rw[hok]at HV;have HD:Hid (tq h s=deskR h s):=ah hok;have HL:=aa (λW (b:Ext w W)=>Mh (X:=λ_=>False) s W (λ_ h=>h.elim) (let ⟨rs,Hr⟩:=H.ext b;⟨rs,Hr,λ_ _ _ _ _ h=>h,λ_ _ _ _ _ _ _ _ h=>h⟩) hok (hE.ext b) hl);have HK:=aa (LQ hok s);obtain⟨z,hz⟩:∃z,tx s=z:=⟨_,rfl⟩;rw[hz]at HL ⊢;clear H hlen hM hE hok hz;go_enter Tryz.func7,Tryz.ntmps7;go_wp2_with fail
   refine HV.out.mono ?_;rintro e w1 ⟨rfl,b1⟩;go_wp2_with fail
   refine(HL.out w1 b1).mono ?_
   rintro e w2 ⟨v2,rfl,h2,b2⟩;obtain⟨A2,c2,rfl⟩:=h2.slice;have HC:=aa (qD w2 h2.his (by have:=aT HK.out;omega) (bD HK.out));have HB:=aa (b1.trans b2);clear h2 b1 b2;go_wp2_with fail
   refine HC.out.mono ?_;intro e w3 r;obtain⟨v3,rs,rfl,h3,o3,b3⟩:=qc.low r HB.out;go_wp2;go_returns;rw[HD.out];exact⟨v3,rs,rfl,h3,o3,b3⟩

theorem LH(r:List UInt8):eO (pV++32 :: r)=pV/\fA (pV++32 :: r)=r:=by
 unfold eO fA pV
 constructor<;>simp
theorem LZ{p:List dZ}(hp:bJ p=true)(hne:dR p≠[]):tq [] (pV++32 :: dR p)=(jJ p,Jo):=by obtain⟨h1,h2⟩:=LH (dR p);unfold tq;rw[ah (by decide),CU h1 (by rw[h2];exact hne),h2];unfold runD;rw[je.2 ⟨hp,rfl⟩]
theorem Ip{p:List dZ}(hp:bJ p=true):tq (jJ p) kN=(jJ p,dV (jJ p))/\(dV (jJ p)=Ev∨dV (jJ p)=levL 3∨dV (jJ p)=levL 4):=by
 refine⟨?_,?_⟩
 ·unfold tq;rw[ah (p8 hp),wV]
 ·have hb:=FZ (jJ p);unfold dV;rcases G6 hp with h|h
  ·rw[ah h];exact .inl rfl
  ·rw[ak (by omega)];rcases (by omega:nN (jJ p)=3∨nN (jJ p)=4) with e|e
   ·rw[e];exact .inr (.inl rfl)
   ·rw[e];exact .inr (.inr rfl)
