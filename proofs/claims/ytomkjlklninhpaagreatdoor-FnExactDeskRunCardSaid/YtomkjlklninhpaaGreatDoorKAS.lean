/- Lemmas. -/
import Derived.Test.YtomkjlklninhpaaGreatDoorKAQ
import Derived.Test.YtomkjlklninhpaaGreatDoorKAR
set_option maxHeartbeats 16000000
set_option maxRecDepth 8000
set_option linter.all false
namespace Go.Proofs.YtomkjlklninhpaaGreatDoor
open Go.RowKit
structure Ic (base:Nat) (W:World) (hv:Value) (rs:List iX) (h:List aA):Prop where
 hl:rs.length=h.length
 hs:aF 3 iT W hv rs
 ho:Own base W hv
 hi:iY 48 W hv
 rows:∀(i:Nat) r t,rs[i]? =some r->h[i]? =some t->r.az=t.az/\r.done=t.done/\Row 71 3 aj base W r.aY t.ops
 apart:∀(i j:Nat) r r',i<j->rs[i]? =some r->rs[j]? =some r'->∀k,r.aY.ownBlock=some k->r'.aY.ownBlock≠some k
def aeH(hv:Value)(rs:List iX)(k:Nat):Prop:=(∃a n c,hv=.slice (some a) n c/\0<n/\a.block=k)∨∃(i:Nat) (r:iX),rs[i]? =some r/\r.aY.ownBlock=some k
theorem Ic.frX{base:Nat}{hv:Value}{X:Nat->Prop}{W W':World}{rs:List iX}{h:List aA}(H:Ic base W hv rs h)(k:bH X W W')(hx:∀i,aeH hv rs i->¬X i):Ic base W' hv rs h where
 hl:=H.hl
 hs:=H.hs.frX k (fun a n c e hn=>hx _ (.inl ⟨a,n,c,e,hn,rfl⟩))
 ho:=EB H.ho k (fun a n c e hn=>hx _ (.inl ⟨a,n,c,e,hn,rfl⟩))
 hi:=Ox H.hi k (fun a n c e hn=>hx _ (.inl ⟨a,n,c,e,hn,rfl⟩))
 rows i r t hr ht:=let ⟨a,b,c⟩:=H.rows i r t hr ht;⟨a,b,dM c k (fun j e=>hx _ (.inr ⟨i,r,hr,e⟩))⟩
 apart:=H.apart
theorem Ic.ext{base:Nat}{hv:Value}{W W':World}{rs:List iX}{h:List aA}(H:Ic base W hv rs h)(b:Ext W W'):Ic base W' hv rs h where
 hl:=H.hl
 hs:=H.hs.ext b
 ho:=H.ho.ext b
 hi:=H.hi.ext b
 rows i r t hr ht:=let ⟨a,b',c⟩:=H.rows i r t hr ht;⟨a,b',c.ext b⟩
 apart:=H.apart
theorem Ic.at{base:Nat}{W:World}{A:Option Addr}{n c:Nat}{rs:List iX}{h:List aA}(H:Ic base W (.slice A n c) rs h){k:Nat}{t:aA}(ht:h[k]? =some t) :
 ∃b off r,A=some ⟨b,off,none⟩/\b<W.heap.size/\base<=b/\rs[k]? =some r/\W.cell? ⟨b,off+k*3,none⟩=some (.int .i64 t.az)/\W.cell? ⟨b,off+k*3+1,none⟩=some r.aY/\W.cell? ⟨b,off+k*3+2,none⟩=some (.bool t.done)/\Row 71 3 aj base W r.aY t.ops/\(∀i,W.frozen? ⟨b,i,none⟩=false)/\∃cs fr,W.heap[b]? =some (.cells cs 48 fr):=by
 have hk:k<rs.length:=by rw[H.hl];exact(List.getElem?_eq_some_iff.1 ht).1
 obtain⟨r,hr⟩:=af hk;obtain⟨A',c',hA,hc⟩:=H.hs;have hn:n=rs.length:=by injection hA
 obtain⟨b,off,hb,hlt,hcell⟩:=hc (by omega);have hA1:A=some ⟨b,off,none⟩:=by injection hA with e1 _ _;rw[e1,hb]
 subst hA1;obtain⟨e1,e2,e3⟩:=H.rows k r t hr ht;obtain⟨o1,o2,o3⟩:=H.ho _ _ _ rfl (by omega);refine⟨b,off,r,rfl,hlt,o1,hr,?_,hcell k r hr 1 (by omega),?_,e3,o3,H.hi _ _ _ rfl (by omega)⟩
 ·have:=hcell k r hr 0 (by omega);rw[<-e1];exact this
 ·have:=hcell k r hr 2 (by omega);rw[<-e2];exact this
theorem Ic.V8{base n:Nat}{W W3:World}{b off nn c:Nat}{rs:List iX}{h:List aA}{r:iX}{t:aA}{v3:Value}{o:aQ}(H:Ic base W (.slice (some ⟨b,off,none⟩) nn c) rs h)(hr:rs[n]? =some r)(ht:h[n]? =some t)(hnn:0<nn)
 (P:bH (fun k=>r.aY.ownBlock=some k) W W3) (hp:Row 71 3 aj base W3 v3 (t.ops++[o])) (hv:v3.ownBlock=r.aY.ownBlock∨∃k,v3.ownBlock=some k/\W.heap.size<=k) :
 Ic base (W3.setCell ⟨b,off+n*3+1,none⟩ v3) (.slice (some ⟨b,off,none⟩) nn c) (rs.set n ⟨r.az,v3,r.done⟩) (h.set n ⟨t.az,t.ops++[o],t.done⟩)/\kN W (W3.setCell ⟨b,off+n*3+1,none⟩ v3):=by
 obtain⟨e1,e2,hrow⟩:=H.rows n r t hr ht;obtain⟨U3,We,hgb⟩:=H.hi _ _ _ rfl hnn;simp only at hgb;have hbl:b<W.heap.size:=(Array.getElem?_eq_some_iff.1 hgb).1;have nb:r.aY.ownBlock≠some b:=fun e=>by obtain⟨cs,hg⟩:=dA hrow e;rw[hgb]at hg;injection hg with hg;injection hg with _ e _;exact absurd e (by decide)
 have Kq:=P.heap hgb nb;have nb3:v3.ownBlock≠some b:=fun e=>by obtain⟨cs,hg⟩:=dA hp e;rw[Kq]at hg;injection hg with hg;injection hg with _ e _;exact absurd e (by decide)
 have S:bH (fun k=>k=b) W3 (W3.setCell ⟨b,off+n*3+1,none⟩ v3):=(bH.refl (fun k=>k=b) W3).setCell (p:=⟨b,off+n*3+1,none⟩) (.inl rfl) _;have hA:∀a n' c',(Value.slice (some ⟨b,off,none⟩) nn c)=.slice (some a) n' c'->0<n'->r.aY.ownBlock≠some a.block:=fun a n' c' e _=>by injection e with e _ _;injection e with e;subst e;exact nb
 have hs3:=H.hs.frX P (fun a n' c' e hn=>hA a n' c' e hn);have hn:n<rs.length:=(List.getElem?_eq_some_iff.1 hr).1;refine⟨⟨by rw[List.length_set,List.length_set];exact H.hl,?_,?_,?_,?_,?_⟩,?_⟩
 ·exact wT hs3 hn (by omega) ⟨r.az,v3,r.done⟩ (fun x hx i hi hne=>by
   rw[hr]at hx;cases hx
   match i,hi with
   | 0,_=>rfl
   | 1,_=>exact absurd rfl hne
   | 2,_=>rfl)
 ·have h3:=EB H.ho P (fun a n' c' e hn=>hA a n' c' e hn);intro a n' c' e hn';obtain⟨x1,x2,x3⟩:=h3 a n' c' e hn';refine⟨x1,by simpa[World.setCell] using x2,fun i=>?_⟩;have h0:(0:Nat)<1:=by omega
  have:=(Only.setCell (a:=⟨b,0,none⟩) (n:=1) (c:=1) (w:=W3) h0 (off+n*3+1) v3).uN ⟨a.block,i,none⟩ x2
  rw[this];exact x3 i
 ·intro a n' c' e hn';injection e with e _ _;injection e with e;subst e;obtain⟨hlt,hk⟩:=Array.getElem?_eq_some_iff.1 Kq;refine⟨U3.setIfInBounds (off+n*3+1) v3,We,?_⟩;simp only[World.setCell,Array.getElem?_modify,Kq];simp
 ·intro i x y hx hy;rw[List.getElem?_set]at hx hy;by_cases hi:n=i
  ·subst hi;rw[if_pos rfl,if_pos hn]at hx;rw[if_pos rfl,if_pos (by rw[<-H.hl];exact hn)]at hy;cases hx;cases hy;exact⟨e1,e2,dM hp S (fun j e hj=>nb3 (by rw[e,hj]))⟩
  ·rw[if_neg hi]at hx hy;obtain⟨d1,d2,d3⟩:=H.rows i x y hx hy;have hap:∀k,x.aY.ownBlock=some k->r.aY.ownBlock≠some k:=fun k hk hk'=>by
    rcases Nat.lt_or_ge n i with hlt|hge
    ·exact H.apart n i r x hlt hr hx k hk' hk
    ·exact H.apart i n x r (by omega) hx hr k hk hk'
   have d4:=dM d3 P hap;refine⟨d1,d2,dM d4 S (fun j e hj=>?_)⟩;obtain⟨cs,hg⟩:=dA d3 e;rw[hj,hgb]at hg;injection hg with hg;injection hg with _ e _;exact absurd e (by decide)
 ·intro i j x y hij hx hy k hk hk';rw[List.getElem?_set]at hx hy;have old:∀(i:Nat) (x:iX),n≠i->rs[i]? =some x->∀k,x.aY.ownBlock=some k->v3.ownBlock≠some k:=fun i x hne hx k hk hk'=>by
   obtain⟨y,hy⟩:=af (show i<h.length by rw[<-H.hl];exact(List.getElem?_eq_some_iff.1 hx).1);have hrow':=(H.rows i x y hx hy).2.2;rcases hv with e|⟨q,e,hq⟩
   ·rw[e]at hk';rcases Nat.lt_or_ge n i with hlt|hge
    ·exact H.apart n i r x hlt hr hx k hk' hk
    ·exact H.apart i n x r (by omega) hx hr k hk hk'
   ·rw[e]at hk';injection hk' with hk'
    have:=(iU hrow' hk).2
    omega
  by_cases hi:n=i
  ·subst hi;rw[if_pos rfl,if_pos hn]at hx;rw[if_neg (by omega)]at hy;cases hx;exact old j y (by omega) hy k hk' hk
  ·rw[if_neg hi]at hx;by_cases hj:n=j
   ·subst hj;rw[if_pos rfl,if_pos hn]at hy;cases hy;exact old i x hi hx k hk hk'
   ·rw[if_neg hj]at hy;exact H.apart i j x y hij hx hy k hk hk'
 ·refine(kN.BK P (fun k hk=>?_)).trans (kN.BK S (fun k hk=>?_))
  ·obtain⟨cs,hg⟩:=dA hrow hk;exact⟨cs,_,_,hg,.inr rfl⟩
  ·subst hk;exact⟨U3,_,We,Kq,.inl rfl⟩
theorem Ic.PS{base n:Nat}{W:World}{b off nn c:Nat}{rs:List iX}{h:List aA}{r:iX}{t:aA}(H:Ic base W (.slice (some ⟨b,off,none⟩) nn c) rs h)(hr:rs[n]? =some r)(ht:h[n]? =some t)(hnn:0<nn)(g:Bool) :
 Ic base (W.setCell ⟨b,off+n*3+2,none⟩ (.bool g)) (.slice (some ⟨b,off,none⟩) nn c) (rs.set n ⟨r.az,r.aY,g⟩) (h.set n ⟨t.az,t.ops,g⟩)/\kN W (W.setCell ⟨b,off+n*3+2,none⟩ (.bool g)):=by
 obtain⟨e1,e2,hrow⟩:=H.rows n r t hr ht;obtain⟨U3,We,hgb⟩:=H.hi _ _ _ rfl hnn;simp only at hgb;have S:bH (fun k=>k=b) W (W.setCell ⟨b,off+n*3+2,none⟩ (.bool g)):=(bH.refl (fun k=>k=b) W).setCell (p:=⟨b,off+n*3+2,none⟩) (.inl rfl) _;have hn:n<rs.length:=(List.getElem?_eq_some_iff.1 hr).1;have keep:∀{v:Value} {xs:List aQ},Row 71 3 aj base W v xs->Row 71 3 aj base (W.setCell ⟨b,off+n*3+2,none⟩ (.bool g)) v xs:=fun hro=>dM hro S (fun j e hj=>by obtain⟨cs,hg⟩:=dA hro e;rw[hj,hgb]at hg;injection hg with hg;injection hg with _ e _;exact absurd e (by decide))
 refine⟨⟨by rw[List.length_set,List.length_set];exact H.hl,?_,?_,?_,?_,?_⟩,kN.BK S (fun k hk=>by subst hk;exact⟨U3,_,We,hgb,.inl rfl⟩)⟩
 ·exact wT H.hs hn (by omega) ⟨r.az,r.aY,g⟩ (fun x hx i hi hne=>by
   rw[hr]at hx;cases hx
   match i,hi with
   | 0,_=>rfl
   | 1,_=>rfl
   | 2,_=>exact absurd rfl hne)
 ·intro a n' c' e hn';obtain⟨x1,x2,x3⟩:=H.ho a n' c' e hn';refine⟨x1,by simpa[World.setCell] using x2,fun i=>?_⟩;have h0:(0:Nat)<1:=by omega
  have:=(Only.setCell (a:=⟨b,0,none⟩) (n:=1) (c:=1) (w:=W) h0 (off+n*3+2) (.bool g)).uN ⟨a.block,i,none⟩ x2
  rw[this];exact x3 i
 ·intro a n' c' e hn';injection e with e _ _;injection e with e;subst e;refine⟨U3.setIfInBounds (off+n*3+2) (.bool g),We,?_⟩;simp only[World.setCell,Array.getElem?_modify,hgb];simp
 ·intro i x y hx hy;rw[List.getElem?_set]at hx hy;by_cases hi:n=i
  ·subst hi;rw[if_pos rfl,if_pos hn]at hx;rw[if_pos rfl,if_pos (by rw[<-H.hl];exact hn)]at hy;cases hx;cases hy;exact⟨e1,rfl,keep hrow⟩
  ·rw[if_neg hi]at hx hy;obtain⟨d1,d2,d3⟩:=H.rows i x y hx hy;exact⟨d1,d2,keep d3⟩
 ·intro i j x y hij hx hy k hk;have old:∀(i:Nat) (x:iX),(rs.set n ⟨r.az,r.aY,g⟩)[i]? =some x->∃z,rs[i]? =some z/\z.aY=x.aY:=fun i x hx=>by
   rw[List.getElem?_set]at hx;by_cases hi:n=i
   ·subst hi;rw[if_pos rfl,if_pos hn]at hx;cases hx;exact⟨r,hr,rfl⟩
   ·rw[if_neg hi]at hx;exact⟨x,hx,rfl⟩
  obtain⟨x',hx',ex⟩:=old i x hx;obtain⟨y',hy',ey⟩:=old j y hy;rw[<-ex]at hk;rw[<-ey];exact H.apart i j x' y' hij hx' hy' k hk
structure IJ (base:Nat) (W:World) (hv:Value) (rs:List iX) (h:List aA):Prop where
 hl:rs.length=h.length
 hr:Row 48 3 iT base W hv rs
 rows:∀(i:Nat) r t,rs[i]? =some r->h[i]? =some t->r.az=t.az/\r.done=t.done/\Row 71 3 aj base W r.aY t.ops
 apart:∀(i j:Nat) r r',i<j->rs[i]? =some r->rs[j]? =some r'->∀k,r.aY.ownBlock=some k->r'.aY.ownBlock≠some k
theorem IJ.done{base:Nat}{hv:Value}{W:World}{rs:List iX}{h:List aA}(H:IJ base W hv rs h):Ic base W hv rs h:=
 ⟨H.hl,H.hr.cell.1,H.hr.cell.2,H.hr.KQ,H.rows,H.apart⟩
theorem IJ.ext{base:Nat}{hv:Value}{W W':World}{rs:List iX}{h:List aA}(H:IJ base W hv rs h)(b:Ext W W'):IJ base W' hv rs h:=
 ⟨H.hl,H.hr.ext b,fun i r t hr ht=>let ⟨a,b',c⟩:=H.rows i r t hr ht;⟨a,b',c.ext b⟩,H.apart⟩
theorem IJ.push{base:Nat}{hv v':Value}{W w3:World}{rs:List iX}{h:List aA}{x:iX}{t:aA}(H:IJ base W hv rs h)(hp:lI 48 3 iT base W w3 hv v' (rs++[x])){u:World}(hu:Ext u W)(hl:u.heap.size<=base)(hrow:Row 71 3 aj base W x.aY t.ops)(hx:x.az=t.az/\x.done=t.done)
 (hnew:∀(i:Nat) r,rs[i]? =some r->∀k,r.aY.ownBlock=some k->x.aY.ownBlock≠some k):IJ base w3 v' (rs++[x]) (h++[t]):=by
 have P:=iR H.hr hp hu hl;have nvo:∀{v:Value} {xs:List aQ},Row 71 3 aj base W v xs->∀k,v.ownBlock=some k->hv.ownBlock≠some k:=fun hr k e e'=>by obtain⟨cs,hg⟩:=dA hr e;obtain⟨cs',hg'⟩:=dA H.hr e';rw[hg]at hg';injection hg' with hg';injection hg' with _ e _;exact absurd e (by decide)
 have keep:∀{v:Value} {xs:List aQ},Row 71 3 aj base W v xs->Row 71 3 aj base w3 v xs:=fun hr=>dM hr P (fun k e e'=>nvo hr k e e');refine⟨by simp[H.hl],hp.1,?_,?_⟩
 ·intro i r y hr hy;rw[List.getElem?_append]at hr hy;split at hr
  ·rename_i hi;rw[if_pos (by rw[<-H.hl];exact hi)]at hy;obtain⟨a,b,c⟩:=H.rows i r y hr hy;exact⟨a,b,keep c⟩
  ·rename_i hi;have hi0:i-rs.length=0:=by
    have:=(List.getElem?_eq_some_iff.1 hr).1
    simp at this;omega
   rw[if_neg (by rw[<-H.hl];exact hi),<-H.hl,hi0]at hy;rw[hi0]at hr;simp at hr hy;subst hr hy;exact⟨hx.1,hx.2,keep hrow⟩
 ·intro i j r r' hij hr hr';rw[List.getElem?_append]at hr hr';split at hr'
  ·rename_i hj;rw[if_pos (by omega)]at hr;exact H.apart i j r r' hij hr hr'
  ·rename_i hj;have hj0:j-rs.length=0:=by
    have:=(List.getElem?_eq_some_iff.1 hr').1
    simp at this;omega
   rw[hj0]at hr';simp at hr';subst hr';rw[if_pos (by omega)]at hr;exact hnew i r hr
theorem iK{α:Type}{e:TypeId}{m:Nat}{enc:α->Nat->Value}{base:Nat}{W:World}{v:Value}{xs:List α}(h:Row e m enc base W v xs):∃A n c,v=.slice A n c:=by obtain⟨A,c,e,_⟩:=h.cell.1;exact⟨_,_,_,e⟩
theorem Row.app0{α:Type}{e:TypeId}{m:Nat}{enc:α->Nat->Value}{base:Nat}{w:World}{v:Value}{xs zs:List α}(h:Row e m enc base w v xs)(hz:zs=[]):Row e m enc base w v (xs++zs):=by subst hz;simpa using h
section
theorem Ko(n a:Nat)(w:World)(hn:n<4)(ha:a<4) :
 Calls Tryz.prog 55 #[.int .i64 (n:Int),.int .i64 (a:Int)] w fun e w'=>e=.returned (.int .i64 (10*((n:Int)+1)+(a:Int)+1))/\w=w':=by
 have h1:IntKind.i64.wrap ((n:Int)+1)=(n:Int)+1:=IntWalk.i64_in _ (by omega);have h2:IntKind.i64.wrap (10*((n:Int)+1))=10*((n:Int)+1):=IntWalk.i64_in _ (by omega);have h3:IntKind.i64.wrap (10*((n:Int)+1)+(a:Int))=10*((n:Int)+1)+(a:Int):=IntWalk.i64_in _ (by omega);have h4:IntKind.i64.wrap (10*((n:Int)+1)+(a:Int)+1)=10*((n:Int)+1)+(a:Int)+1:=IntWalk.i64_in _ (by omega);go_enter Tryz.func55,Tryz.ntmps55;go_wp2;go_returns;exact⟨rfl,rfl⟩
theorem Qd(s:Int)(d:Bool){ov:Value}{ops:List aQ}(key other:Int)(w:World)(h:aF 3 aj w ov ops)(hlen:ops.length<=2097152)(h0:∀v,before ops key=some v->0<=v) :
 Calls Tryz.prog 54 #[.agg #[.int .i64 s,ov,.bool d],.int .i64 key,.int .i64 other] w fun e w'=>e=.returned (.int .i64 ((before ops key).getD other))/\Ext w w':=by
 obtain⟨A0,c0,rfl,_⟩:=id h;have HB:=aa (fun W (b:Ext w W)=>tV s d ops.length key W (h.ext b) hlen (Nat.le_refl _));rw[List.take_length]at HB;clear h
 cases hb:before ops key with
 | none=>
   rw[hb]at HB;have HB2:Hid (∀W,Ext w W->Calls Tryz.prog 80 #[.agg #[.int .i64 s,.slice A0 ops.length c0,.bool d],.int .i64 (ops.length:Int),.int .i64 key] W fun e w'=>e=.returned (.int .i64 (-1))/\Ext W w'):=HB.out;have hg:Hid ((none:Option Int).getD other=other):=rfl;rw[hg.out];clear hb hg HB;go_enter Tryz.func54,Tryz.ntmps54;go_wp2_with (go_at_call 80;refine(HB2.out _ ((Ext.refl _).alloc _)).mono ?_;rintro e w1 ⟨rfl,b1⟩)
   go_returns;exact⟨rfl,((Ext.refl _).alloc _).trans b1⟩
 | some x=>
   have hx:=h0 x hb;rw[hb]at HB;have HB2:Hid (∀W,Ext w W->Calls Tryz.prog 80 #[.agg #[.int .i64 s,.slice A0 ops.length c0,.bool d],.int .i64 (ops.length:Int),.int .i64 key] W fun e w'=>e=.returned (.int .i64 x)/\Ext W w'):=HB.out;have hg:Hid ((some x:Option Int).getD other=x):=rfl;rw[hg.out];clear hb hg HB h0;go_enter Tryz.func54,Tryz.ntmps54;go_wp2_with (go_at_call 80;refine(HB2.out _ ((Ext.refl _).alloc _)).mono ?_;rintro e w1 ⟨rfl,b1⟩)
   go_returns;exact⟨rfl,((Ext.refl _).alloc _).trans b1⟩
theorem Ke{pv:Value}{p:List eH}(W:World)(HP:xZ W pv p)(R6:p.length<=4) :
 Calls Tryz.prog 53 #[pv] W fun e W'=>∃hv rs,e=.returned hv/\Ic W.heap.size W' hv rs (fF p).h/\Ext W W':=by
 obtain⟨A,c,rfl⟩:=HP.slice;have HPH:=aa HP;have HM0:Hid (IJ W.heap.size (W.alloc (.cells #[] 48)) (.slice (some ⟨W.heap.size,0,none⟩) 0 0) [] ((fF p).h.take 0)):=
  ⟨by simp,bT,fun _ _ _ h=>by simp at h,fun _ _ _ _ _ h=>by simp at h⟩
 clear HP;go_enter Tryz.func53,Tryz.ntmps53;go_wp2;go_loopw [3,4] (fun o i wr=>Ext W wr/\∃k:Nat,k<=p.length/\i=.int .i64 (k:Int)/\Hid (∃rs,IJ W.heap.size wr o rs ((fF p).h.take k))) (fun _ i _=>p.length-(intOf i).toNat)
 case atStart=>exact⟨(Ext.refl _).alloc _,0,Nat.zero_le _,rfl,_,HM0.out⟩
 case round=>
  obtain⟨hb,k,hk,rfl,HI⟩:=hrel;obtain⟨rs,H⟩:=HI.out;obtain⟨Ah,nh,ch,rfl⟩:=iK H.hr;by_cases hlt:k<p.length
  ·obtain⟨b,off,rfl,hbl,hcc⟩:=(HPH.out.ext hb).head (by omega);obtain⟨d,hd⟩:=af hlt;obtain⟨ov,c0,c1,hs⟩:=hcc k d hd;have hrl:rs.length<=4:=by rw[H.hl,List.length_take];omega
   have b1:Ext wr (wr.alloc (.cells #[] 71)):=(Ext.refl wr).alloc _;have hro:Row 71 3 aj W.heap.size (wr.alloc (.cells #[] 71)) (.slice (some ⟨wr.heap.size,0,none⟩) 0 0) []:=(bT (w:=wr)).low hb.size;obtain⟨v3,w3,hrun,hp⟩:=iP (wr.heap.size+1) (by simp) Tryz.underlying24 mq rfl (by omega) (H.ext b1).hr (Ext.refl _) (⟨d.az,.slice (some ⟨wr.heap.size,0,none⟩) 0 0,false⟩:iX) (EC _ ⟨_,_,_,rfl⟩) _ rfl (Nat.le_trans hb.size b1.size) (by omega) (by omega);have HN:=aa ((H.ext b1).push (t:=⟨d.az,[],false⟩) hp (hb.trans b1) (Nat.le_refl _) hro ⟨rfl,rfl⟩ (fun i r hr k2 hk e=>by
    obtain⟨y,hy⟩:=af (show i<((fF p).h.take k).length by rw[<-H.hl];exact(List.getElem?_eq_some_iff.1 hr).1)
    have:=(iU (H.rows i r y hr hy).2.2 hk).2
    simp only[Value.ownBlock,Option.some.injEq]at e
    omega))
   have sI:=aa (hp.2.1 W (hb.trans b1) (Nat.le_refl _));have O8:Hid ((fF p).h.take (k+1)=(fF p).h.take k++[⟨d.az,[],false⟩]):=ah (by simp[fF,hd]);have aU:=aa hrun;have i1:(k:Int)<(p.length:Int):=by omega
   have i2:(0:Int)<=(k:Int):=by omega
   clear hcc hd hs hrl b1 hro hrun hp H HI;go_wp2_with (at_builtin;refine wpList_append_run rfl rfl rfl rfl aU.out ?_)
   go_roundw;case rel=>exact⟨sI.out,k+1,by omega,by go_num,_,by rw[O8.out];exact HN.out⟩
   case measure=>simp[intOf];omega
  ·obtain rfl:k=p.length:=by omega
   have HD:=aa H.done;clear H HI;go_wp2;go_returns;have h1:=HD.out;rw[List.take_of_length_le (by simp[fF])]at h1;exact⟨_,_,rfl,h1,hb⟩
def Dw(bg:Nat->Bool)(sv:Nat->Value)(i:Nat):Value:=if bg i then sv i else .slice none 0 0
def qZ(bg:Nat->Bool)(lg:Nat->Nat)(i:Nat):Value:=if bg i then .slice (some ⟨lg i,0,none⟩) 3 3 else .slice none 0 0
def ME(s:iV):Array Value:=#[.int .i64 (s 0),.int .i64 (s 1),.int .i64 (s 2)]
def D6(s:Int->Bool):Array Value:=#[.bool (s 0),.bool (s 1),.bool (s 2)]
theorem cell_of{w:World}{g:Nat}{cs:Array Value}{T:TypeId}{f:Nat × Nat}(h:w.heap[g]? =some (.cells cs T f))(i:Nat):w.cell? ⟨g,i,none⟩=cs[i]?:=by simp[World.cell?,h]
theorem Ez{w:World}{g:Nat}{cs:Array Value}{T:TypeId}(h:w.heap[g]? =some (.cells cs T (0,0)))(i:Nat):w.frozen? ⟨g,i,none⟩=false:=by simp[World.frozen?,h]
theorem J7{w:World}{g:Nat}{cs:Array Value}{T:TypeId}{f:Nat × Nat}(h:w.heap[g]? =some (.cells cs T f))(i:Nat)(u:Value):(w.setCell ⟨g,i,none⟩ u).heap[g]? =some (.cells (cs.setIfInBounds i u) T f):=by simp[World.setCell,Array.getElem?_modify,h]
theorem Va(s:iV){k:Nat}(hk:k<3)(v:Int):(ME s).setIfInBounds k (.int .i64 v)=ME (s.put (k:Int) v):=by
 match k,hk with
 | 0,_=>simp[ME,iV.put]
 | 1,_=>simp[ME,iV.put]
 | 2,_=>simp[ME,iV.put]
theorem YO(s:iV){k:Nat}(hk:k<3):(ME s)[k]? =some (.int .i64 (s (k:Int))):=by
 match k,hk with
 | 0,_=>rfl
 | 1,_=>rfl
 | 2,_=>rfl
theorem XX(s:Int->Bool){k:Nat}(hk:k<3):(D6 s)[k]? =some (.bool (s (k:Int))):=by
 match k,hk with
 | 0,_=>rfl
 | 1,_=>rfl
 | 2,_=>rfl
theorem Vz(s:Int->Bool){k:Nat}(hk:k<3)(b:Bool):(D6 s).setIfInBounds k (.bool b)=D6 (fun x=>if x=(k:Int) then b else s x):=by
 match k,hk with
 | 0,_=>simp[D6]
 | 1,_=>simp[D6]
 | 2,_=>simp[D6]
theorem LK{s s':Int->Bool}(h:∀x,0<=x->x<=2->s x=s' x):D6 s=D6 s':=by unfold D6;rw[h 0 (by omega) (by omega),h 1 (by omega) (by omega),h 2 (by omega) (by omega)]
def yh(N:Nat)(f:Nat->Value):Array Value:=((List.range N).map f).toArray
theorem zR{N:Nat}(f:Nat->Value){i:Nat}(hi:i<N):(yh N f)[i]? =some (f i):=by simp[yh,hi]
theorem OJ{N n:Nat}(f:Nat->Value)(v:Value):(yh N f).setIfInBounds n v=yh N (fun i=>if i=n then v else f i):=by
 unfold yh;rw[List.setIfInBounds_toArray];congr 1;apply List.ext_getElem?;intro i;rw[List.getElem?_set,List.getElem?_map,List.getElem?_map];by_cases hi:i<N
 ·rw[List.getElem?_range hi];by_cases e:n=i
  ·subst e;simp[hi]
  ·have e':¬i=n:=fun h=>e h.symm;simp[e,e']
 ·have:(List.range N)[i]? =none:=by simp;omega
  rw[this];by_cases e:n=i
  ·subst e;simp;omega
  ·simp[e]
theorem tN{N:Nat}{f g:Nat->Value}(h:∀i,i<N->f i=g i):yh N f=yh N g:=by unfold yh;congr 1;exact List.map_congr_left fun i hi=>h i (List.mem_range.1 hi)
structure mX (base q N:Nat) (hv:Value) (W:World) (h:List aA) (vals:iV) (kept:Nat->iV) (Ch:Nat->Int->Bool) (bg:Nat->Bool) (sv:Nat->Value) (lg:Nat->Nat):Prop where
 rch:∃rs,Ic base W hv rs h
 b0:W.heap[q]? =some (.cells (ME vals) 3 (0,0))
 b1:W.heap[q+1]? =some (.cells (yh N (Dw bg sv)) 57 (0,0))
 b2:W.heap[q+2]? =some (.cells (yh N (qZ bg lg)) 85 (0,0))
 sn:∀i,i<N->bg i=true->Row 3 1 (one encI) (q+3) W (sv i) [kept i 0,kept i 1,kept i 2]
 st:∀i,i<N->bg i=true->q+3<=lg i/\W.heap[lg i]? =some (.cells (D6 (Ch i)) 4 (0,0))
 ap:∀i j,i<N->j<N->i≠j->bg i=true->bg j=true->lg i≠lg j
variable{base q N:Nat}{hv:Value}{W W':World}{h:List aA}{vals:iV}{kept:Nat->iV}{Ch:Nat->Int->Bool}{bg:Nat->Bool}{sv:Nat->Value}{lg:Nat->Nat}
theorem mX.o8{h':List aA}{rs:List iX}(H:mX base q N hv W h vals kept Ch bg sv lg)(k:kN W W')(hr:Ic base W' hv rs h')(hsv:∀i,i<N->bg i=true->Row 3 1 (one encI) (q+3) W' (sv i) [kept i 0,kept i 1,kept i 2]):mX base q N hv W' h' vals kept Ch bg sv lg where
 rch:=⟨rs,hr⟩
 b0:=(k.2 _ _ _ _ H.b0 (by decide) (by decide)).trans H.b0
 b1:=(k.2 _ _ _ _ H.b1 (by decide) (by decide)).trans H.b1
 b2:=(k.2 _ _ _ _ H.b2 (by decide) (by decide)).trans H.b2
 sn:=hsv
 st i hi hb:=⟨(H.st i hi hb).1,(k.2 _ _ _ _ (H.st i hi hb).2 (by decide) (by decide)).trans (H.st i hi hb).2⟩
 ap:=H.ap
theorem mX.ext(H:mX base q N hv W h vals kept Ch bg sv lg)(b:Ext W W'):mX base q N hv W' h vals kept Ch bg sv lg:=
 let ⟨_,hr⟩:=H.rch
 H.o8 (kN.aT b) (hr.ext b) (fun i hi hb=>(H.sn i hi hb).ext b)
theorem mX.congr{kept':Nat->iV}{ab2:Nat->Int->Bool}{bg':Nat->Bool}{vals':iV}(H:mX base q N hv W h vals kept Ch bg sv lg)(hv':vals'=vals)(hb:∀i,i<N->bg' i=bg i)(hk:∀i,i<N->bg i=true->kept' i=kept i)(hs:∀i,i<N->bg i=true->∀x,0<=x->x<=2->ab2 i x=Ch i x):mX base q N hv W h vals' kept' ab2 bg' sv lg where
 rch:=H.rch
 b0:=hv'▸H.b0
 b1:=by rw[H.b1,tN (f:=Dw bg sv) (g:=Dw bg' sv) fun i hi=>by unfold Dw;rw[hb i hi]]
 b2:=by rw[H.b2,tN (f:=qZ bg lg) (g:=qZ bg' lg) fun i hi=>by unfold qZ;rw[hb i hi]]
 sn i hi h':=by rw[hb i hi]at h';rw[hk i hi h'];exact H.sn i hi h'
 st i hi h':=by rw[hb i hi]at h';rw[LK (hs i hi h')];exact H.st i hi h'
 ap i j hi hj hn h1 h2:=H.ap i j hi hj hn (by rw[<-hb i hi];exact h1) (by rw[<-hb j hj];exact h2)
theorem Ak{X:Nat->Prop}{v:Value}{xs:List Int}{b:Nat}(h:Row 3 1 (one encI) b W v xs)(k:bH X W W')(hx:∀i,X i->∃cs T f,W.heap[i]? =some (.cells cs T f)/\T≠3):Row 3 1 (one encI) b W' v xs:=
 dM h k fun i e e'=>by obtain⟨cs,hg⟩:=dA h e;obtain⟨cs',T,f,hg',hT⟩:=hx i e';rw[hg]at hg';injection hg' with hg';injection hg' with _ e _;exact hT e.symm
theorem Ev{X:Nat->Prop}{rs:List iX}(H:Ic base W hv rs h)(k:bH X W W')(hx:∀i,X i->∃cs T f,W.heap[i]? =some (.cells cs T f)/\T≠48/\T≠71):Ic base W' hv rs h:=
 H.frX k fun i hi hX=>by
  obtain⟨cs,T,f,hg,h1,h2⟩:=hx i hX;rcases hi with ⟨a,n,c,e,hn,rfl⟩|⟨j,r,hr,e⟩
  ·obtain⟨cs',f',hg'⟩:=H.hi a n c e hn;rw[hg]at hg';injection hg' with hg';injection hg' with _ e _;exact h1 e
  ·obtain⟨t,ht⟩:=af (show j<h.length by rw[<-H.hl];exact(List.getElem?_eq_some_iff.1 hr).1);obtain⟨cs',hg'⟩:=dA (H.rows j r t hr ht).2.2 e;rw[hg]at hg';injection hg' with hg';injection hg' with _ e _;exact h2 e
theorem iI(w:World)(g i:Nat)(u:Value):bH (fun k=>k=g) w (w.setCell ⟨g,i,none⟩ u):=bH.setCell (X:=fun k=>k=g) (bH.refl _ _) (p:=⟨g,i,none⟩) (.inl rfl) _
theorem mX.put(H:mX base q N hv W h vals kept Ch bg sv lg){k:Nat}(hk:k<3)(v:Int):mX base q N hv (W.setCell ⟨q,k,none⟩ (.int .i64 v)) h (vals.put (k:Int) v) kept Ch bg sv lg where
 rch:=let ⟨rs,hr⟩:=H.rch;⟨rs,Ev hr (iI W q k _) (fun i e=>⟨_,_,_,e▸H.b0,by decide,by decide⟩)⟩
 b0:=by rw[J7 H.b0,Va _ hk]
 b1:=(iI W q k _).heap H.b1 (by omega)
 b2:=(iI W q k _).heap H.b2 (by omega)
 sn i hi hb:=dM (H.sn i hi hb) (iI W q k _) (fun j e e'=>by have:=(iU (H.sn i hi hb) e).1;omega)
 st i hi hb:=⟨(H.st i hi hb).1,(iI W q k _).heap (H.st i hi hb).2 (by have:=(H.st i hi hb).1;omega)⟩
 ap:=H.ap
theorem mX.mark(H:mX base q N hv W h vals kept Ch bg sv lg){n:Nat}(hn:n<N)(hb:bg n=true){k:Nat}(hk:k<3)(b:Bool):mX base q N hv (W.setCell ⟨lg n,k,none⟩ (.bool b)) h vals kept (fun i x=>if i=n/\x=(k:Int) then b else Ch i x) bg sv lg where
 rch:=let ⟨rs,hr⟩:=H.rch;⟨rs,Ev hr (iI W (lg n) k _) (fun i e=>⟨_,_,_,e▸(H.st n hn hb).2,by decide,by decide⟩)⟩
 b0:=(iI W (lg n) k _).heap H.b0 (by have:=(H.st n hn hb).1;omega)
 b1:=(iI W (lg n) k _).heap H.b1 (by have:=(H.st n hn hb).1;omega)
 b2:=(iI W (lg n) k _).heap H.b2 (by have:=(H.st n hn hb).1;omega)
 sn i hi hb':=Ak (H.sn i hi hb') (iI W (lg n) k _) (fun j e=>⟨_,_,_,e▸(H.st n hn hb).2,by decide⟩)
 st i hi hb':=by
  by_cases e:i=n
  ·subst e;refine⟨(H.st i hi hb').1,?_⟩;rw[J7 (H.st i hi hb').2,Vz _ hk];exact congrArg (fun c=>some (Obj.cells c 4 (0,0))) (LK fun x _ _=>by simp)
  ·refine⟨(H.st i hi hb').1,?_⟩;rw[(iI W (lg n) k _).heap (H.st i hi hb').2 (H.ap i n hi hn e hb' hb)];exact congrArg (fun c=>some (Obj.cells c 4 (0,0))) (LK fun x _ _=>by simp[e])
 ap:=H.ap
theorem mX.bF(H:mX base q N hv W h vals kept Ch bg sv lg){n:Nat}(hn:n<N)(v:Value)(k:iV)(hv3:Row 3 1 (one encI) (q+3) W v [k 0,k 1,k 2]){g:Nat}(hg:W.heap[g]? =some (.cells (D6 fun _=>false) 4 (0,0)))(hg3:q+3<=g)(hnew:∀i,i<N->bg i=true->lg i≠g) :
 mX base q N hv ((W.setCell ⟨q+1,n,none⟩ v).setCell ⟨q+2,n,none⟩ (.slice (some ⟨g,0,none⟩) 3 3)) h vals (uO kept n k) (fun i x=>if i=n then false else Ch i x) (fun i=>i==n || bg i) (fun i=>if i=n then v else sv i) (fun i=>if i=n then g else lg i):=by
 have F1:=iI W (q+1) n v;have F2:=iI (W.setCell ⟨q+1,n,none⟩ v) (q+2) n (.slice (some ⟨g,0,none⟩) 3 3);have c2:=F1.heap H.b2 (by omega);have adr:∀{u:Value} {xs:List Int},Row 3 1 (one encI) (q+3) W u xs->Row 3 1 (one encI) (q+3) ((W.setCell ⟨q+1,n,none⟩ v).setCell ⟨q+2,n,none⟩ (.slice (some ⟨g,0,none⟩) 3 3)) u xs:=fun hr=>by have h1:=dM hr F1 (fun j e e'=>by have:=(iU hr e).1;omega);exact dM h1 F2 (fun j e e'=>by have:=(iU hr e).1;omega)
 refine⟨?_,?_,?_,?_,fun i hi hb=>?_,fun i hi hb=>?_,fun i j hi hj hne h1 h2=>?_⟩
 ·obtain⟨rs,hr⟩:=H.rch;exact⟨rs,Ev (Ev hr F1 (fun i e=>⟨_,_,_,e▸H.b1,by decide,by decide⟩)) F2 (fun i e=>⟨_,_,_,e▸c2,by decide,by decide⟩)⟩
 ·exact F2.heap (F1.heap H.b0 (by omega)) (by omega)
 ·rw[F2.heap (J7 H.b1 n v) (by omega),OJ];congr 2;exact tN fun i hi=>by
   unfold Dw;by_cases e:i=n
   ·subst e;simp
   ·simp[e]
 ·rw[J7 c2,OJ];congr 2;exact tN fun i hi=>by
   unfold qZ;by_cases e:i=n
   ·subst e;simp
   ·simp[e]
 ·by_cases e:i=n
  ·subst e;simp only[if_true,uO];exact adr hv3
  ·simp only[e,if_false,uO];exact adr (H.sn i hi (by simpa[e] using hb))
 ·by_cases e:i=n
  ·subst e;simp only[if_true];exact⟨hg3,F2.heap (F1.heap hg (by omega)) (by omega)⟩
  ·simp only[e,if_false];have hb':bg i=true:=by simpa[e] using hb
   obtain⟨x1,x2⟩:=H.st i hi hb';exact⟨x1,F2.heap (F1.heap x2 (by omega)) (by omega)⟩
 ·by_cases e1:i=n
  ·have e2:¬j=n:=fun e=>hne (e1.trans e.symm);simp only[e1,e2,if_true,if_false];exact fun e=>hnew j hj (by simpa[e2] using h2) e.symm
  ·by_cases e2:j=n
   ·simp only[e1,e2,if_true,if_false];exact hnew i hi (by simpa[e1] using h1)
   ·simp only[e1,e2,if_false];exact H.ap i j hi hj hne (by simpa[e1] using h1) (by simpa[e2] using h2)
end
