/- Lemmas. -/
import Derived.Test.YtomkjlklninhpaaGreatDoorKAN
import Derived.Test.YtomkjlklninhpaaGreatDoorKAO
set_option maxHeartbeats 16000000
set_option maxRecDepth 8000
set_option linter.all false
namespace Go.Proofs.YtomkjlklninhpaaGreatDoor
open Go.RowKit
structure xJ (base M:Nat) (pv:Value) (W:World) (hv:Value) (rs:List iX) (h:List aA):Prop where
 mb:W.heap[M]? =some (.cells #[pv,hv] 168 (0,0))
 hl:rs.length=h.length
 hs:aF 3 iT W hv rs
 ho:Own base W hv
 hi:iY 48 W hv
 rows:∀(i:Nat) r t,rs[i]? =some r->h[i]? =some t->r.az=t.az/\r.done=t.done/\Row 71 3 aj base W r.aY t.ops
 apart:∀(i j:Nat) r r',i<j->rs[i]? =some r->rs[j]? =some r'->∀k,r.aY.ownBlock=some k->r'.aY.ownBlock≠some k
theorem xJ.m0{base M:Nat}{pv hv:Value}{W:World}{rs:List iX}{h:List aA}(H:xJ base M pv W hv rs h):W.cell? ⟨M,0,none⟩=some pv:=by simp[World.cell?,H.mb]
theorem xJ.m1{base M:Nat}{pv hv:Value}{W:World}{rs:List iX}{h:List aA}(H:xJ base M pv W hv rs h):W.cell? ⟨M,1,none⟩=some hv:=by simp[World.cell?,H.mb]
theorem Ox{I:TypeId}{X:Nat->Prop}{w w':World}{u:Value}(h:iY I w u)(k:bH X w w')(hx:∀a n c,u=.slice (some a) n c->0<n->¬X a.block):iY I w' u:=fun a n c hu hn=>by obtain⟨cs,fr,hg⟩:=h a n c hu hn;exact⟨cs,fr,k.heap hg (hx a n c hu hn)⟩
theorem EB{lo:Nat}{X:Nat->Prop}{w w':World}{u:Value}(h:Own lo w u)(k:bH X w w')(hx:∀a n c,u=.slice (some a) n c->0<n->¬X a.block):Own lo w' u:=fun a n c hu hn=>by obtain⟨h1,h2,h3⟩:=h a n c hu hn;exact⟨h1,Nat.lt_of_lt_of_le h2 k.size,fun i=>(k.frozen (p:=⟨a.block,i,none⟩) h2 (hx a n c hu hn)).trans (h3 i)⟩
def aby(M:Nat)(hv:Value)(rs:List iX)(k:Nat):Prop:=k=M∨(∃a n c,hv=.slice (some a) n c/\0<n/\a.block=k)∨∃(i:Nat) (r:iX),rs[i]? =some r/\r.aY.ownBlock=some k
theorem xJ.frX{base M:Nat}{pv hv:Value}{X:Nat->Prop}{W W':World}{rs:List iX}{h:List aA}(H:xJ base M pv W hv rs h)(k:bH X W W')(hx:∀i,aby M hv rs i->¬X i):xJ base M pv W' hv rs h where
 mb:=k.heap H.mb (hx _ (.inl rfl))
 hl:=H.hl
 hs:=H.hs.frX k (fun a n c e hn=>hx _ (.inr (.inl ⟨a,n,c,e,hn,rfl⟩)))
 ho:=EB H.ho k (fun a n c e hn=>hx _ (.inr (.inl ⟨a,n,c,e,hn,rfl⟩)))
 hi:=Ox H.hi k (fun a n c e hn=>hx _ (.inr (.inl ⟨a,n,c,e,hn,rfl⟩)))
 rows i r t hr ht:=let ⟨a,b,c⟩:=H.rows i r t hr ht;⟨a,b,dM c k (fun j e=>hx _ (.inr (.inr ⟨i,r,hr,e⟩)))⟩
 apart:=H.apart
theorem xJ.ext{base M:Nat}{pv hv:Value}{W W':World}{rs:List iX}{h:List aA}(H:xJ base M pv W hv rs h)(b:Ext W W'):xJ base M pv W' hv rs h where
 mb:=(bH.aT (X:=fun _=>False) b).heap H.mb (fun h=>h)
 hl:=H.hl
 hs:=H.hs.ext b
 ho:=H.ho.ext b
 hi:=H.hi.ext b
 rows i r t hr ht:=let ⟨a,b',c⟩:=H.rows i r t hr ht;⟨a,b',c.ext b⟩
 apart:=H.apart
theorem xJ.his{base M:Nat}{pv hv:Value}{W:World}{rs:List iX}{h:List aA}(H:xJ base M pv W hv rs h):gL W hv h:=
 ⟨rs,H.hl,H.hs,fun i r t hr ht=>let ⟨a,b,c⟩:=H.rows i r t hr ht;⟨a,b,c.cell.1,c.cap⟩⟩
theorem xJ.at{base M:Nat}{pv:Value}{W:World}{A:Option Addr}{n c:Nat}{rs:List iX}{h:List aA}(H:xJ base M pv W (.slice A n c) rs h){k:Nat}{t:aA}(ht:h[k]? =some t) :
 ∃b off r,A=some ⟨b,off,none⟩/\b<W.heap.size/\base<=b/\rs[k]? =some r/\W.cell? ⟨b,off+k*3,none⟩=some (.int .i64 t.az)/\W.cell? ⟨b,off+k*3+1,none⟩=some r.aY/\W.cell? ⟨b,off+k*3+2,none⟩=some (.bool t.done)/\Row 71 3 aj base W r.aY t.ops/\(∀i,W.frozen? ⟨b,i,none⟩=false)/\∃cs fr,W.heap[b]? =some (.cells cs 48 fr):=by
 have hk:k<rs.length:=by rw[H.hl];exact(List.getElem?_eq_some_iff.1 ht).1
 obtain⟨r,hr⟩:=af hk;obtain⟨A',c',hA,hc⟩:=H.hs;have hn:n=rs.length:=by injection hA
 obtain⟨b,off,hb,hlt,hcell⟩:=hc (by omega);have hA1:A=some ⟨b,off,none⟩:=by injection hA with e1 _ _;rw[e1,hb]
 subst hA1;obtain⟨e1,e2,e3⟩:=H.rows k r t hr ht;obtain⟨o1,o2,o3⟩:=H.ho _ _ _ rfl (by omega);refine⟨b,off,r,rfl,hlt,o1,hr,?_,hcell k r hr 1 (by omega),?_,e3,o3,H.hi _ _ _ rfl (by omega)⟩
 ·have:=hcell k r hr 0 (by omega);rw[<-e1];exact this
 ·have:=hcell k r hr 2 (by omega);rw[<-e2];exact this
theorem wT{α:Type}{m:Nat}{enc:α->Nat->Value}{w:World}{b off n c:Nat}{xs:List α}(h:aF m enc w (.slice (some ⟨b,off,none⟩) n c) xs){k j:Nat}(hk:k<xs.length)(hj:j<m)(x':α)(hx:∀x,xs[k]? =some x->∀i,i<m->i≠j->enc x' i=enc x i) :
 aF m enc (w.setCell ⟨b,off+k*m+j,none⟩ (enc x' j)) (.slice (some ⟨b,off,none⟩) n c) (xs.set k x'):=by
 obtain⟨A',c',e,hc⟩:=h;injection e with e1 e2 e3;subst e1 e2 e3;refine⟨_,_,by rw[List.length_set],fun hn=>?_⟩;rw[List.length_set]at hn;obtain⟨b',off',e,hbl,hc⟩:=hc hn;injection e with e;injection e with e1 e2;subst e1 e2;refine⟨b,off,rfl,by simpa[World.setCell] using hbl,fun i z hz q hq=>?_⟩;rw[List.getElem?_set]at hz;by_cases hi:k=i
 ·subst hi;rw[if_pos rfl,if_pos hk]at hz;cases hz;obtain⟨x,hx0⟩:=af hk;by_cases hqj:q=j
  ·subst hqj;exact dx (hc k x hx0 q hq) _
  ·rw[au (by intro e;injection e with _ e _;omega),hc k x hx0 q hq,hx x hx0 q hq hqj]
 ·rw[if_neg hi]at hz;rw[au (by
   intro e;injection e with _ e _;have h1:k*m+j=i*m+q:=by omega
   have h2:(k*m+j)/m=(i*m+q)/m:=by rw[h1]
   rw[Nat.mul_comm k m,Nat.mul_comm i m,Nat.mul_add_div (by omega),Nat.mul_add_div (by omega),Nat.div_eq_of_lt hj,Nat.div_eq_of_lt hq]at h2
   omega)]
  exact hc i z hz q hq
def kN(w w':World):Prop:=w.heap.size<=w'.heap.size/\∀(k:Nat) (cs:Array Value) (t:TypeId) (fr:Nat × Nat),w.heap[k]? =some (Obj.cells cs t fr)->t≠48->t≠71->w'.heap[k]? =w.heap[k]?
theorem kN.aT{w w':World}(h:Ext w w'):kN w w':=⟨h.size,fun k _ _ _ hk _ _=>Below.block h k (Array.getElem?_eq_some_iff.1 hk).1⟩
theorem kN.trans{a b c:World}(h:kN a b)(k:kN b c):kN a c:=
 ⟨Nat.le_trans h.1 k.1,fun i cs t fr hi h1 h2=>(k.2 i cs t fr ((h.2 i cs t fr hi h1 h2).trans hi) h1 h2).trans (h.2 i cs t fr hi h1 h2)⟩
theorem kN.BK{X:Nat->Prop}{w w':World}(h:bH X w w')(hx:∀k,X k->∃cs t fr,w.heap[k]? =some (Obj.cells cs t fr)/\(t=48∨t=71)):kN w w':=
 ⟨h.size,fun k cs t fr hk h1 h2=>h.block k (Array.getElem?_eq_some_iff.1 hk).1 (fun hX=>by
  obtain⟨cs',t',fr',hk',ht⟩:=hx k hX;rw[hk]at hk';injection hk' with hk';injection hk' with _ e _;subst e;rcases ht with e|e
  ·exact h1 e
  ·exact h2 e)⟩
theorem dA{α:Type}{e:TypeId}{m:Nat}{enc:α->Nat->Value}{base:Nat}{W:World}{v:Value}{xs:List α}(h:Row e m enc base W v xs){k:Nat}(hk:v.ownBlock=some k):∃cs,W.heap[k]? =some (.cells cs e (0,0)):=by
 rcases h.2 with ⟨rfl,_⟩|⟨g,cap,cur,rfl,h1,h2,h3⟩
 ·cases hk
 ·have e1:g=k:=by simpa[Value.ownBlock] using hk
  subst e1;exact⟨cur,h2⟩
theorem iU{α:Type}{e:TypeId}{m:Nat}{enc:α->Nat->Value}{base:Nat}{W:World}{v:Value}{xs:List α}(h:Row e m enc base W v xs){k:Nat}(hk:v.ownBlock=some k):base<=k/\k<W.heap.size:=World.ownsRow.lt h k hk
theorem xJ.V8{base M n:Nat}{pv:Value}{W W3:World}{b off nn c:Nat}{rs:List iX}{h:List aA}{r:iX}{t:aA}{v3:Value}{o:aQ}(H:xJ base M pv W (.slice (some ⟨b,off,none⟩) nn c) rs h)(hr:rs[n]? =some r)(ht:h[n]? =some t)(hnn:0<nn)
 (P:bH (fun k=>r.aY.ownBlock=some k) W W3) (hp:Row 71 3 aj base W3 v3 (t.ops++[o])) (hv:v3.ownBlock=r.aY.ownBlock∨∃k,v3.ownBlock=some k/\W.heap.size<=k) :
 xJ base M pv (W3.setCell ⟨b,off+n*3+1,none⟩ v3) (.slice (some ⟨b,off,none⟩) nn c) (rs.set n ⟨r.az,v3,r.done⟩) (h.set n ⟨t.az,t.ops++[o],t.done⟩)/\kN W (W3.setCell ⟨b,off+n*3+1,none⟩ v3):=by
 obtain⟨e1,e2,hrow⟩:=H.rows n r t hr ht;obtain⟨U3,We,hgb⟩:=H.hi _ _ _ rfl hnn;simp only at hgb;have hbl:b<W.heap.size:=(Array.getElem?_eq_some_iff.1 hgb).1;have nb:r.aY.ownBlock≠some b:=fun e=>by obtain⟨cs,hg⟩:=dA hrow e;rw[hgb]at hg;injection hg with hg;injection hg with _ e _;exact absurd e (by decide)
 have Kq:=P.heap hgb nb;have nb3:v3.ownBlock≠some b:=fun e=>by obtain⟨cs,hg⟩:=dA hp e;rw[Kq]at hg;injection hg with hg;injection hg with _ e _;exact absurd e (by decide)
 have nM:M≠b:=fun e=>by
  subst e
  have:=H.mb
  rw[hgb]at this;injection this with this;injection this with _ e _;exact absurd e (by decide)
 have nM2:r.aY.ownBlock≠some M:=fun e=>by obtain⟨cs,hg⟩:=dA hrow e;rw[H.mb]at hg;injection hg with hg;injection hg with _ e _;exact absurd e (by decide)
 have S:bH (fun k=>k=b) W3 (W3.setCell ⟨b,off+n*3+1,none⟩ v3):=(bH.refl (fun k=>k=b) W3).setCell (p:=⟨b,off+n*3+1,none⟩) (.inl rfl) _;have hA:∀a n' c',(Value.slice (some ⟨b,off,none⟩) nn c)=.slice (some a) n' c'->0<n'->r.aY.ownBlock≠some a.block:=fun a n' c' e _=>by injection e with e _ _;injection e with e;subst e;exact nb
 have hs3:=H.hs.frX P (fun a n' c' e hn=>hA a n' c' e hn);have hn:n<rs.length:=(List.getElem?_eq_some_iff.1 hr).1;refine⟨⟨S.heap (P.heap H.mb nM2) nM,by rw[List.length_set,List.length_set];exact H.hl,?_,?_,?_,?_,?_⟩,?_⟩
 ·exact wT hs3 hn (by omega) ⟨r.az,v3,r.done⟩ (fun x hx i hi hne=>by
   rw[hr]at hx;cases hx
   match i,hi with
   | 0,_=>rfl
   | 1,_=>exact absurd rfl hne
   | 2,_=>rfl)
 ·have h3:=EB H.ho P (fun a n' c' e hn=>hA a n' c' e hn);intro a n' c' e hn';obtain⟨x1,x2,x3⟩:=h3 a n' c' e hn';refine⟨x1,by simpa[World.setCell] using x2,fun i=>?_⟩;have h0:(0:Nat)<1:=by omega
  have:=(Only.setCell (a:=⟨b,0,none⟩) (n:=1) (c:=1) (w:=W3) h0 (off+n*3+1) v3).uN ⟨a.block,i,none⟩ x2
  rw[this];exact x3 i
 ·intro a n' c' e hn';injection e with e _ _;injection e with e;subst e;obtain⟨hlt,hk⟩:=Array.getElem?_eq_some_iff.1 Kq;refine⟨U3.setIfInBounds (off+n*3+1) v3,We,?_⟩;simp only[World.setCell,Array.getElem?_modify,Kq];simp
 ·intro i x y hx hy;rw[List.getElem?_set]at hx hy;by_cases hi:n=i
  ·subst hi;rw[if_pos rfl,if_pos hn]at hx;rw[if_pos rfl,if_pos (by rw[<-H.hl];exact hn)]at hy;cases hx;cases hy;exact⟨e1,e2,dM hp S (fun j e hj=>nb3 (by rw[e,hj]))⟩
  ·rw[if_neg hi]at hx hy;obtain⟨d1,d2,d3⟩:=H.rows i x y hx hy;have hap:∀k,x.aY.ownBlock=some k->r.aY.ownBlock≠some k:=fun k hk hk'=>by
    rcases Nat.lt_or_ge n i with hlt|hge
    ·exact H.apart n i r x hlt hr hx k hk' hk
    ·exact H.apart i n x r (by omega) hx hr k hk hk'
   have d4:=dM d3 P hap;refine⟨d1,d2,dM d4 S (fun j e hj=>?_)⟩;obtain⟨cs,hg⟩:=dA d3 e;rw[hj,hgb]at hg;injection hg with hg;injection hg with _ e _;exact absurd e (by decide)
 ·intro i j x y hij hx hy k hk hk';rw[List.getElem?_set]at hx hy;have old:∀(i:Nat) (x:iX),n≠i->rs[i]? =some x->∀k,x.aY.ownBlock=some k->v3.ownBlock≠some k:=fun i x hne hx k hk hk'=>by
   obtain⟨y,hy⟩:=af (show i<h.length by rw[<-H.hl];exact(List.getElem?_eq_some_iff.1 hx).1);have hrow':=(H.rows i x y hx hy).2.2;rcases hv with e|⟨q,e,hq⟩
   ·rw[e]at hk';rcases Nat.lt_or_ge n i with hlt|hge
    ·exact H.apart n i r x hlt hr hx k hk' hk
    ·exact H.apart i n x r (by omega) hx hr k hk hk'
   ·rw[e]at hk';injection hk' with hk'
    have:=(iU hrow' hk).2
    omega
  by_cases hi:n=i
  ·subst hi;rw[if_pos rfl,if_pos hn]at hx;rw[if_neg (by omega)]at hy;cases hx;exact old j y (by omega) hy k hk' hk
  ·rw[if_neg hi]at hx;by_cases hj:n=j
   ·subst hj;rw[if_pos rfl,if_pos hn]at hy;cases hy;exact old i x hi hx k hk hk'
   ·rw[if_neg hj]at hy;exact H.apart i j x y hij hx hy k hk hk'
 ·refine(kN.BK P (fun k hk=>?_)).trans (kN.BK S (fun k hk=>?_))
  ·obtain⟨cs,hg⟩:=dA hrow hk;exact⟨cs,_,_,hg,.inr rfl⟩
  ·subst hk;exact⟨U3,_,We,Kq,.inl rfl⟩
theorem Rt{base M n:Nat}{pv hv:Value}{W:World}{rs:List iX}{h:List aA}{t:aA}(o:aQ)(H:xJ base M pv W hv rs h)(ht:h[n]? =some t)(hn4:n<4)(RQ:t.ops.length<=6)(hbase:base<=W.heap.size){w0:World}(hw0:Ext w0 W)(hb0:w0.heap.size<=base)(hbM:base<=M){p:List eH}{d:eH}(HP:xZ w0 pv p)(hd:p[n]? =some d)(hdl:d.steps.length<=4)(hhl:h.length<=4) :
 Calls Tryz.prog 144 #[.pointer (some ⟨M,0,none⟩),.int .i64 (n:Int),.agg #[.int .i64 o.kind,.int .i64 o.key,.int .i64 o.value]] W fun e W'=>e=.returned (.bool (decide (t.ops.length+1=d.steps.length)))/\Ext w0 W'/\kN W W'/\∃rs',xJ base M pv W' hv rs' (h.set n ⟨t.az,t.ops++[o],t.done⟩):=by
 obtain⟨Ap,cp,rfl⟩:=HP.slice;obtain⟨A,nn,c,rfl⟩:∃A nn c,hv=.slice A nn c:=by obtain⟨A,c,e,_⟩:=H.hs;exact⟨A,_,c,e⟩
 have hnn:nn=h.length:=by obtain⟨A,c,e,_⟩:=H.hs;injection e with _ e _;rw[e,H.hl]
 subst hnn;have hE:=(Ext.refl W).alloc (.cells #[.int .i64 o.kind,.int .i64 o.key,.int .i64 o.value] 71);have H1:=H.ext hE;obtain⟨b,off,r,rfl,hb,hbb,hr,c0,c1,c2,hrow,hfr,hty⟩:=H1.at ht;have hnl:n<h.length:=(List.getElem?_eq_some_iff.1 ht).1;have m1:=H1.m1;have q0:(W.alloc (.cells #[.int .i64 o.kind,.int .i64 o.key,.int .i64 o.value] 71)).cell? ⟨W.heap.size,0,none⟩=some (.int .i64 o.kind):=av rfl;have q1:(W.alloc (.cells #[.int .i64 o.kind,.int .i64 o.key,.int .i64 o.value] 71)).cell? ⟨W.heap.size,1,none⟩=some (.int .i64 o.key):=av rfl;have q2:(W.alloc (.cells #[.int .i64 o.kind,.int .i64 o.key,.int .i64 o.value] 71)).cell? ⟨W.heap.size,2,none⟩=some (.int .i64 o.value):=av rfl;obtain⟨v3,w3,hrun,hp⟩:=uR (w0:=(W.alloc (.cells #[.int .i64 o.kind,.int .i64 o.key,.int .i64 o.value] 71)).drew) (w:=(W.alloc (.cells #[.int .i64 o.kind,.int .i64 o.key,.int .i64 o.value] 71)).drew) (W.heap.size+1) (by simp) (hrow.ext (Ext.refl _).drew) (Ext.refl _) o (by simp;omega) (by omega);have Kn:Ext (W.alloc (.cells #[.int .i64 o.kind,.int .i64 o.key,.int .i64 o.value] 71)) ((W.alloc (.cells #[.int .i64 o.kind,.int .i64 o.key,.int .i64 o.value] 71)).alloc (.cells #[.int .i64 o.kind,.int .i64 o.key,.int .i64 o.value] 71)):=(Ext.refl _).alloc _;have e1m:=Kn.cell m1;have e1c:=Kn.cell c1;have abG:=Kn.cell q0;have acF:=Kn.cell q1;have abU:=Kn.cell q2;have Es:=(bH.aT (X:=fun k=>r.aY.ownBlock=some k) (Ext.refl (W.alloc (.cells #[.int .i64 o.kind,.int .i64 o.key,.int .i64 o.value] 71))).drew).trans (iR (u:=w0) (hrow.ext (Ext.refl _).drew) hp ((hw0.trans hE).drew) hb0);have hrW:=(H.rows n r t hr ht).2.2;have nq:r.aY.ownBlock≠some W.heap.size:=fun e=>by have:=(iU hrW e).2;omega
 have nb:r.aY.ownBlock≠some b:=fun e=>by obtain⟨cs,hg⟩:=dA hrow e;obtain⟨cs',fr',hg'⟩:=hty;rw[hg']at hg;injection hg with hg;injection hg with _ e _;exact absurd e (by decide)
 have nM:r.aY.ownBlock≠some M:=fun e=>by obtain⟨cs,hg⟩:=dA hrow e;rw[H1.mb]at hg;injection hg with hg;injection hg with _ e _;exact absurd e (by decide)
 have e3m:=Es.cell (p:=⟨M,1,none⟩) m1 nM;have e3c:=Es.cell (p:=⟨b,off+n*3+1,none⟩) c1 nb;have Xh:=Es.cell (p:=⟨W.heap.size,0,none⟩) q0 nq;have V6:=Es.cell (p:=⟨W.heap.size,1,none⟩) q1 nq;have abJ:=Es.cell (p:=⟨W.heap.size,2,none⟩) q2 nq;have e3f:∀i,w3.frozen? ⟨b,i,none⟩=false:=fun i=>(Es.frozen (p:=⟨b,i,none⟩) hb nb).trans (hfr i);have ado:=e3f (off+n*3+1);have aeY:=aa e3f;clear e3f Kn;obtain⟨g3,c3,hv3,_⟩:=mK hp.1 (by simp);rw[List.length_append,List.length_singleton]at hv3;subst hv3;obtain⟨N1,N2⟩:=H1.V8 hr ht (by omega) Es hp.1 hp.2.2.2;have X4:Ext w0 (w3.setCell ⟨b,off+n*3+1,none⟩ (.slice (some ⟨g3,0,none⟩) (t.ops.length+1) c3)):=(bH.out (hw0.trans hE) Es (fun i e=>by have:=(iU hrow e).1;omega)).setCell (by simp;omega) _;obtain⟨bp,op,rfl,hbp,hcp⟩:=HP.head (by have:=(List.getElem?_eq_some_iff.1 hd).1;omega);obtain⟨ovp,d0,d1,hsp⟩:=hcp n d hd;replace d1:=X4.cell d1;obtain⟨Asp,csp,rfl,_⟩:=id hsp;have hpn:n<p.length:=(List.getElem?_eq_some_iff.1 hd).1;have z0:=N1.m0;have z1:=N1.m1;have z2:=dx e3c (.slice (some ⟨g3,0,none⟩) (t.ops.length+1) c3);have HN1:=aa N1;have tF:=aa N2;have Bb:=aa X4;have HKE:=aa (kN.aT hE);clear hcp d0 hsp N1 N2 X4 hp aeY Es hrW nq nb nM hrow hfr hty H1 H hw0 HP hE hr ht hd hb hbp hbb hb0 hbM hbase;have aU:Hid ((Builtin.append_ #[46,46] 46 #[r.aY,.slice (some ⟨W.heap.size+1,0,none⟩) 1 1]).run Tryz.prog ((W.alloc (.cells #[.int .i64 o.kind,.int .i64 o.key,.int .i64 o.value] 71)).alloc (.cells #[.int .i64 o.kind,.int .i64 o.key,.int .i64 o.value] 71)).drew=.ok (.slice (some ⟨g3,0,none⟩) (t.ops.length+1) c3) w3):=hrun;clear hrun;go_enter Tryz.func144,Tryz.ntmps144;go_wp2;refine oK 16 (fun V=>V.cell? ⟨M,1,none⟩=some (.slice (some ⟨b,off,none⟩) h.length c)/\V.cell? ⟨b,off+n*3+1,none⟩=some r.aY/\V.cell? ⟨W.heap.size,0,none⟩=some (.int .i64 o.kind)/\V.cell? ⟨W.heap.size,1,none⟩=some (.int .i64 o.key)/\V.cell? ⟨W.heap.size,2,none⟩=some (.int .i64 o.value)) (by kernel_rfl) (by kernel_rfl) ?_;simp only[List.take_succ_cons,List.take_zero,List.drop_succ_cons,List.drop_zero];have hHeld:(fun V:World=>V.cell? ⟨M,1,none⟩=some (.slice (some ⟨b,off,none⟩) h.length c)/\V.cell? ⟨b,off+n*3+1,none⟩=some r.aY/\V.cell? ⟨W.heap.size,0,none⟩=some (.int .i64 o.kind)/\V.cell? ⟨W.heap.size,1,none⟩=some (.int .i64 o.key)/\V.cell? ⟨W.heap.size,2,none⟩=some (.int .i64 o.value)) (W.alloc (.cells #[.int .i64 o.kind,.int .i64 o.key,.int .i64 o.value] 71)).drew:=⟨m1,c1,q0,q1,q2⟩;refine eu 0 (.pointer (some ⟨M,0,none⟩)) rfl (Or.inl ⟨by rfl,fun V ⟨s1,s2,s3,s4,s5⟩=>by go_simp⟩) hHeld ?_;try go_frame
 refine eu 1 (.pointer (some ⟨M,0,none⟩)) rfl (Or.inl ⟨by rfl,fun V ⟨s1,s2,s3,s4,s5⟩=>by go_simp⟩) hHeld ?_;try go_frame
 refine eu 2 (.pointer (some ⟨M,1,none⟩)) rfl (Or.inl ⟨by rfl,fun V ⟨s1,s2,s3,s4,s5⟩=>by go_simp⟩) hHeld ?_;try go_frame
 refine eu 3 (.slice (some ⟨b,off,none⟩) h.length c) rfl (Or.inl ⟨by rfl,fun V ⟨s1,s2,s3,s4,s5⟩=>by go_simp⟩) hHeld ?_;try go_frame
 refine eu 4 (.int .i64 (n:Int)) rfl (Or.inl ⟨by rfl,fun V ⟨s1,s2,s3,s4,s5⟩=>by go_simp⟩) hHeld ?_;try go_frame
 refine eu 5 (.pointer (some ⟨M,0,none⟩)) rfl (Or.inl ⟨by rfl,fun V ⟨s1,s2,s3,s4,s5⟩=>by go_simp⟩) hHeld ?_;try go_frame
 refine eu 6 (.pointer (some ⟨M,0,none⟩)) rfl (Or.inl ⟨by rfl,fun V ⟨s1,s2,s3,s4,s5⟩=>by go_simp⟩) hHeld ?_;try go_frame
 refine eu 7 (.pointer (some ⟨M,1,none⟩)) rfl (Or.inl ⟨by rfl,fun V ⟨s1,s2,s3,s4,s5⟩=>by go_simp⟩) hHeld ?_;try go_frame
 refine eu 8 (.slice (some ⟨b,off,none⟩) h.length c) rfl (Or.inl ⟨by rfl,fun V ⟨s1,s2,s3,s4,s5⟩=>by go_simp⟩) hHeld ?_;try go_frame
 refine eu 9 (.int .i64 (n:Int)) rfl (Or.inl ⟨by rfl,fun V ⟨s1,s2,s3,s4,s5⟩=>by go_simp⟩) hHeld ?_;try go_frame
 refine eu 10 (.pointer (some ⟨b,off+n*3,none⟩)) rfl (Or.inl ⟨by rfl,fun V ⟨s1,s2,s3,s4,s5⟩=>by go_simp⟩) hHeld ?_;try go_frame
 refine eu 11 (.pointer (some ⟨b,off+n*3+1,none⟩)) rfl (Or.inl ⟨by rfl,fun V ⟨s1,s2,s3,s4,s5⟩=>by go_simp⟩) hHeld ?_;try go_frame
 refine eu 12 (r.aY) rfl (Or.inl ⟨by rfl,fun V ⟨s1,s2,s3,s4,s5⟩=>by go_simp⟩) hHeld ?_;try go_frame
 refine eu 13 (.agg #[.int .i64 o.kind,.int .i64 o.key,.int .i64 o.value]) rfl (Or.inl ⟨by rfl,fun V ⟨s1,s2,s3,s4,s5⟩=>by go_simp⟩) hHeld ?_;try go_frame
 refine wpAnyH_ready (rs:=[14]) (by kernel_rfl) (by simp) ?_;refine AllReadyH.cons rfl (fun K hK=>?_) AllReadyH.nil;go_simp;refine hK.out _ _ ?_ (fun hH2=>?_)
 ·exact⟨e1m,e1c,abG,acF,abU⟩
 clear hK K;try go_frame
 refine wpAnyH_ready (rs:=[15]) (by kernel_rfl) (by simp) ?_;refine AllReadyH.cons rfl (fun K hK=>?_) AllReadyH.nil;refine aJ (by rfl) (by rfl) (by rfl) (by rfl) aU.out ?_;refine hK.out _ _ ?_ (fun hH3=>?_)
 ·exact⟨e3m,e3c,Xh,V6,abJ⟩
 clear hK K;try go_frame
 refine wpAnyH_done (by kernel_rfl) ?_ _;show wpList _ _ _ _ _ _;clear hHeld hH2 hH3 e1m e1c abG acF abU Xh V6 abJ q0 q1 q2 c0 c1 c2 m1;have hres:Hid ((((t.ops.length:Int)+1)==(d.steps.length:Int))=decide (t.ops.length+1=d.steps.length)):=by show _ = _;rw[Bool.eq_iff_iff];simp;omega
 have hl0:(0:Int)<=(t.ops.length:Int):=by omega
 have hl1:(t.ops.length:Int)<=6:=by omega
 go_wp2;go_region_held3 (fun V=>V.cell? ⟨M,1,none⟩=some (.slice (some ⟨b,off,none⟩) h.length c)/\V.cell? ⟨b,off+n*3+1,none⟩=some (.slice (some ⟨g3,0,none⟩) (t.ops.length+1) c3)/\V.cell? ⟨M,0,none⟩=some (.slice (some ⟨bp,op,none⟩) p.length cp)/\V.cell? ⟨bp,op+n*2+1,none⟩=some (.slice Asp d.steps.length csp)) (go_keep) (fail)
 clear z0 z1 z2 d1;go_wp2;go_returns;exact⟨aN hres.out,Bb.out.drew,HKE.out.trans (tF.out.trans (kN.aT (Ext.refl _).drew)),_,HN1.out.ext (Ext.refl _).drew⟩
structure Ij (base M:Nat) (pv:Value) (W:World) (hv:Value) (rs:List iX) (h:List aA):Prop where
 mb:W.heap[M]? =some (.cells #[pv,hv] 168 (0,0))
 hl:rs.length=h.length
 hr:Row 48 3 iT base W hv rs
 rows:∀(i:Nat) r t,rs[i]? =some r->h[i]? =some t->r.az=t.az/\r.done=t.done/\Row 71 3 aj base W r.aY t.ops
 apart:∀(i j:Nat) r r',i<j->rs[i]? =some r->rs[j]? =some r'->∀k,r.aY.ownBlock=some k->r'.aY.ownBlock≠some k
theorem Ij.done{base M:Nat}{pv hv:Value}{W:World}{rs:List iX}{h:List aA}(H:Ij base M pv W hv rs h):xJ base M pv W hv rs h:=
 ⟨H.mb,H.hl,H.hr.cell.1,H.hr.cell.2,H.hr.KQ,H.rows,H.apart⟩
theorem Ij.ext{base M:Nat}{pv hv:Value}{W W':World}{rs:List iX}{h:List aA}(H:Ij base M pv W hv rs h)(b:Ext W W'):Ij base M pv W' hv rs h:=
 ⟨(bH.aT (X:=fun _=>False) b).heap H.mb (fun h=>h),H.hl,H.hr.ext b,fun i r t hr ht=>let ⟨a,b',c⟩:=H.rows i r t hr ht;⟨a,b',c.ext b⟩,H.apart⟩
theorem EC(x:iX)(hx:∃A n c,x.aY=.slice A n c)(j:Nat):(iT x j).oneCell'=true:=by
 obtain⟨A,n,c,e⟩:=hx
 match j with
 | 0=>rfl
 | 1=>show x.aY.oneCell'=true;rw[e];rfl
 | _+2=>rfl
theorem Ij.push{base M:Nat}{pv hv v':Value}{W w3:World}{rs:List iX}{h:List aA}{x:iX}{t:aA}(H:Ij base M pv W hv rs h)(hM:hv.ownBlock≠some M)(hp:lI 48 3 iT base W w3 hv v' (rs++[x])){u:World}(hu:Ext u W)(hl:u.heap.size<=base)(hrow:Row 71 3 aj base W x.aY t.ops)(hx:x.az=t.az/\x.done=t.done)
 (hnew:∀(i:Nat) r,rs[i]? =some r->∀k,r.aY.ownBlock=some k->x.aY.ownBlock≠some k):Ij base M pv (w3.setCell ⟨M,1,none⟩ v') v' (rs++[x]) (h++[t]):=by
 have P:=iR H.hr hp hu hl;have hm3:=P.heap H.mb hM;have nm:∀{w:World} {v:Value} {xs:List iX},Row 48 3 iT base w v xs->w.heap[M]? =some (.cells #[pv,hv] 168 (0,0))->v.ownBlock≠some M:=fun hr hm e=>by obtain⟨cs,hg⟩:=dA hr e;rw[hm]at hg;injection hg with hg;injection hg with _ e _;exact absurd e (by decide)
 have nmo:∀{w:World} {v:Value} {xs:List aQ},Row 71 3 aj base w v xs->w.heap[M]? =some (.cells #[pv,hv] 168 (0,0))->v.ownBlock≠some M:=fun hr hm e=>by obtain⟨cs,hg⟩:=dA hr e;rw[hm]at hg;injection hg with hg;injection hg with _ e _;exact absurd e (by decide)
 have S:bH (fun k=>k=M) w3 (w3.setCell ⟨M,1,none⟩ v'):=(bH.refl (fun k=>k=M) w3).setCell (p:=⟨M,1,none⟩) (.inl rfl) _;have nvo:∀{v:Value} {xs:List aQ},Row 71 3 aj base W v xs->∀k,v.ownBlock=some k->hv.ownBlock≠some k:=fun hr k e e'=>by obtain⟨cs,hg⟩:=dA hr e;obtain⟨cs',hg'⟩:=dA H.hr e';rw[hg]at hg';injection hg' with hg';injection hg' with _ e _;exact absurd e (by decide)
 have keep:∀{v:Value} {xs:List aQ},Row 71 3 aj base W v xs->Row 71 3 aj base (w3.setCell ⟨M,1,none⟩ v') v xs:=fun hr=>by have h3:=dM hr P (fun k e e'=>nvo hr k e e');exact dM h3 S (fun k e e'=>nmo h3 hm3 (by rw[e,e']))
 refine⟨?_,by simp[H.hl],?_,?_,?_⟩
 ·simp only[World.setCell,Array.getElem?_modify,hm3];simp
 ·exact dM hp.1 S (fun k e e'=>nm hp.1 hm3 (by rw[e,e']))
 ·intro i r y hr hy;rw[List.getElem?_append]at hr hy;split at hr
  ·rename_i hi;rw[if_pos (by rw[<-H.hl];exact hi)]at hy;obtain⟨a,b,c⟩:=H.rows i r y hr hy;exact⟨a,b,keep c⟩
  ·rename_i hi;have hi0:i-rs.length=0:=by
    have:=(List.getElem?_eq_some_iff.1 hr).1
    simp at this;omega
   rw[if_neg (by rw[<-H.hl];exact hi),<-H.hl,hi0]at hy;rw[hi0]at hr;simp at hr hy;subst hr hy;exact⟨hx.1,hx.2,keep hrow⟩
 ·intro i j r r' hij hr hr';rw[List.getElem?_append]at hr hr';split at hr'
  ·rename_i hj;rw[if_pos (by omega)]at hr;exact H.apart i j r r' hij hr hr'
  ·rename_i hj;have hj0:j-rs.length=0:=by
    have:=(List.getElem?_eq_some_iff.1 hr').1
    simp at this;omega
   rw[hj0]at hr';simp at hr';subst hr';rw[if_pos (by omega)]at hr;exact hnew i r hr
theorem Tj:(Tryz.prog.info? 71).map (fun i=>(i.zero,i.size,i.bytes))=some (some (.agg #[.int .i64 0,.int .i64 0,.int .i64 0]),3,24):=by kernel_rfl
theorem IL{pv:Value}{p:List eH}(W:World)(HP:xZ W pv p)(R6:p.length<=4)(hst:∀d∈p,d.steps.length<=4) :
 Calls Tryz.prog 141 #[pv] W fun e W'=>∃hv rs,e=.returned (.pointer (some ⟨W.heap.size,0,none⟩))/\xJ W.heap.size W.heap.size pv W' hv rs (fF p).h/\Ext W W':=by
 obtain⟨A,c,rfl⟩:=HP.slice;have HPH:=aa HP;have HST:=aa hst;have HM0:Hid (Ij W.heap.size W.heap.size (.slice A p.length c) (W.alloc (.cells #[.slice A p.length c,.slice none 0 0] 168)) (.slice none 0 0) [] ((fF p).h.take 0)):=
  ⟨heap_alloc_new W _,by simp,Row.nil,fun _ _ _ h=>by simp at h,fun _ _ _ _ _ h=>by simp at h⟩
 have HE0:=aa ((Ext.refl W).alloc (.cells #[.slice A p.length c,.slice none 0 0] 168));clear HP hst;go_enter Tryz.func141,Tryz.ntmps141;go_wp2;go_loopw [11] (fun i wr=>Hid (Ext W wr)/\∃k:Nat,k<=p.length/\i=.int .i64 k/\Hid (∃hv rs,Ij W.heap.size W.heap.size (.slice A p.length c) wr hv rs ((fF p).h.take k))) (fun i _=>p.length-(intOf i).toNat)
 case atStart=>exact⟨HE0.out,0,Nat.zero_le _,rfl,_,_,HM0.out⟩
 case round=>
  clear HM0 HE0;obtain⟨HB,k,hk,rfl,HI⟩:=hrel;by_cases hlt:k<p.length
  ·obtain⟨b,off,rfl,hbl,hcc⟩:=HPH.out.head (by omega);obtain⟨d,hd⟩:=af hlt;obtain⟨ov,c0,c1,hs⟩:=hcc k d hd;replace c0:=HB.out.cell c0;replace c1:=HB.out.cell c1;obtain⟨As,cs,rfl,_⟩:=id hs;have hd4:=HST.out d (List.mem_of_getElem? hd);obtain⟨hv,rs,H⟩:=HI.out;obtain⟨Ah,ch,rfl,_⟩:=id H.hr.cell.1;have hrl:rs.length<=4:=by rw[H.hl,List.length_take];omega
   have hmk:=gY (P:=Tryz.prog) 46 71 Tryz.underlying46 Tj d.steps.length (by omega) (by omega);have hbase:=HB.out.size;obtain⟨MC,hMC,hMS⟩:∃MC,(∀V:World,(Instr.makeSlice 46 (.int .i64 0) (.int .i64 (d.steps.length:Int))).run Tryz.prog V=.ok (.slice (some ⟨V.heap.size,0,none⟩) 0 d.steps.length) (V.alloc (.cells MC 71)))/\MC.size=d.steps.length*3:=⟨_,hmk,size_madeCells _ _⟩;clear hmk;have b0:Ext wr (wr.alloc (.cells #[.int .i64 d.az,.slice As d.steps.length cs] 78)):=(Ext.refl wr).alloc _;have b1:Ext wr ((wr.alloc (.cells #[.int .i64 d.az,.slice As d.steps.length cs] 78)).alloc (.cells MC 71)).drew:=(((Ext.refl wr).alloc _).alloc _).drew;have H1:=H.ext b1;have hro:=jN (w:=(wr.alloc (.cells #[.int .i64 d.az,.slice As d.steps.length cs] 78)).drew) (E:=71) (m:=3) (enc:=aj) MC d.steps.length (by unfold maxLen;omega) hMS;rw[show (wr.alloc (.cells #[.int .i64 d.az,.slice As d.steps.length cs] 78)).drew.heap.size=wr.heap.size+1 from by show (wr.alloc _).heap.size = _;simp]at hro;have acU:Row 71 3 aj W.heap.size ((wr.alloc (.cells #[.int .i64 d.az,.slice As d.steps.length cs] 78)).alloc (.cells MC 71)).drew (.slice (some ⟨wr.heap.size+1,0,none⟩) 0 d.steps.length) []:=Row.low hro (by omega);obtain⟨v3,w3,hrun,hp⟩:=iP (wr.heap.size+1+1) (by show ((wr.alloc _).alloc _).heap.size = _;simp) Tryz.underlying24 mq rfl (by omega) H1.hr (Ext.refl _) (⟨d.az,.slice (some ⟨wr.heap.size+1,0,none⟩) 0 d.steps.length,false⟩:iX) (EC _ ⟨_,_,_,rfl⟩) _ rfl (Nat.le_trans hbase b1.size) (by omega) (by omega);have m1:wr.cell? ⟨W.heap.size,1,none⟩=some (.slice Ah rs.length ch):=by simp[World.cell?,H.mb]
   have mf:wr.frozen? ⟨W.heap.size,1,none⟩=false:=by simp[World.frozen?,H.mb]
   have hMl:W.heap.size<wr.heap.size:=(Array.getElem?_eq_some_iff.1 H.mb).1;have nMw:(Value.slice Ah rs.length ch).ownBlock≠some W.heap.size:=fun e=>by obtain⟨cs',hg⟩:=dA H.hr e;rw[H.mb]at hg;injection hg with hg;injection hg with _ e _;exact absurd e (by decide)
   have nqw:(Value.slice Ah rs.length ch).ownBlock≠some wr.heap.size:=fun e=>by have:=(iU H.hr e).2;omega
   have Es:=iR (u:=W) H1.hr hp (HB.out.trans b1) (Nat.le_refl _);obtain⟨g3,c3,hv3,_⟩:=mK hp.1 (by simp);rw[List.length_append,List.length_singleton]at hv3;subst hv3;have HN:=aa (H1.push (t:=⟨d.az,[],false⟩) nMw hp (HB.out.trans b1) (Nat.le_refl _) acU ⟨rfl,rfl⟩ (fun i r hr k2 hk e=>by
    obtain⟨y,hy⟩:=af (show i<((fF p).h.take k).length by rw[<-H.hl];exact(List.getElem?_eq_some_iff.1 hr).1)
    have:=(iU (H.rows i r y hr hy).2.2 hk).2
    simp only[Value.ownBlock,Option.some.injEq]at e
    omega))
   have Hw:=aa ((bH.out (HB.out.trans b1) Es (fun i e=>(iU H.hr e).1)).setCell (p:=⟨W.heap.size,1,none⟩) (Nat.le_refl _) (.slice (some ⟨g3,0,none⟩) (rs.length+1) c3));have q0:(wr.alloc (.cells #[.int .i64 d.az,.slice As d.steps.length cs] 78)).cell? ⟨wr.heap.size,0,none⟩=some (.int .i64 d.az):=av rfl;have q1:(wr.alloc (.cells #[.int .i64 d.az,.slice As d.steps.length cs] 78)).cell? ⟨wr.heap.size,1,none⟩=some (.slice As d.steps.length cs):=av rfl;have a2:Ext (wr.alloc (.cells #[.int .i64 d.az,.slice As d.steps.length cs] 78)) (((wr.alloc (.cells #[.int .i64 d.az,.slice As d.steps.length cs] 78)).alloc (.cells MC 71))):=(Ext.refl _).alloc _;have a3:Ext (wr.alloc (.cells #[.int .i64 d.az,.slice As d.steps.length cs] 78)) (((wr.alloc (.cells #[.int .i64 d.az,.slice As d.steps.length cs] 78)).alloc (.cells MC 71)).alloc (.cells #[.int .i64 d.az,.slice (some ⟨wr.heap.size+1,0,none⟩) 0 d.steps.length,.bool false] 48)):=((Ext.refl _).alloc _).alloc _;have hH1:(fun V:World=>V.cell? ⟨W.heap.size,1,none⟩=some (.slice Ah rs.length ch)/\V.cell? ⟨wr.heap.size,0,none⟩=some (.int .i64 d.az)/\V.cell? ⟨wr.heap.size,1,none⟩=some (.slice As d.steps.length cs)) (wr.alloc (.cells #[.int .i64 d.az,.slice As d.steps.length cs] 78)).drew:=⟨b0.cell m1,q0,q1⟩;have hHa:(fun V:World=>V.cell? ⟨W.heap.size,1,none⟩=some (.slice Ah rs.length ch)/\V.cell? ⟨wr.heap.size,0,none⟩=some (.int .i64 d.az)/\V.cell? ⟨wr.heap.size,1,none⟩=some (.slice As d.steps.length cs)) ((wr.alloc (.cells #[.int .i64 d.az,.slice As d.steps.length cs] 78)).alloc (.cells MC 71)).drew:=⟨(b0.trans a2).cell m1,a2.cell q0,a2.cell q1⟩;have hHb:(fun V:World=>V.cell? ⟨W.heap.size,1,none⟩=some (.slice Ah rs.length ch)/\V.cell? ⟨wr.heap.size,0,none⟩=some (.int .i64 d.az)/\V.cell? ⟨wr.heap.size,1,none⟩=some (.slice As d.steps.length cs)) (((wr.alloc (.cells #[.int .i64 d.az,.slice As d.steps.length cs] 78)).alloc (.cells MC 71)).alloc (.cells #[.int .i64 d.az,.slice (some ⟨wr.heap.size+1,0,none⟩) 0 d.steps.length,.bool false] 48)).drew:=⟨(b0.trans a3).cell m1,a3.cell q0,a3.cell q1⟩;have hHc:(fun V:World=>V.cell? ⟨W.heap.size,1,none⟩=some (.slice Ah rs.length ch)/\V.cell? ⟨wr.heap.size,0,none⟩=some (.int .i64 d.az)/\V.cell? ⟨wr.heap.size,1,none⟩=some (.slice As d.steps.length cs)) w3:=⟨Es.cell (p:=⟨W.heap.size,1,none⟩) hHa.1 nMw,Es.cell (p:=⟨wr.heap.size,0,none⟩) hHa.2.1 nqw,Es.cell (p:=⟨wr.heap.size,1,none⟩) hHa.2.2 nqw⟩;have xf3:w3.frozen? ⟨W.heap.size,1,none⟩=false:=by have h1:=Es.frozen (p:=⟨W.heap.size,1,none⟩) (Nat.lt_of_lt_of_le hMl b1.size) nMw;rw[h1,b1.frozen (p:=⟨W.heap.size,1,none⟩) hMl];exact mf
   have xc3:=hHc.1;have aU:Hid ((Builtin.append_ #[24,24] 24 #[.slice Ah rs.length ch,.slice (some ⟨wr.heap.size+1+1,0,none⟩) 1 1]).run Tryz.prog (((wr.alloc (.cells #[.int .i64 d.az,.slice As d.steps.length cs] 78)).alloc (.cells MC 71)).alloc (.cells #[.int .i64 d.az,.slice (some ⟨wr.heap.size+1,0,none⟩) 0 d.steps.length,.bool false] 48)).drew=.ok (.slice (some ⟨g3,0,none⟩) (rs.length+1) c3) w3):=hrun;have O8:Hid ((fF p).h.take (k+1)=(fF p).h.take k++[⟨d.az,[],false⟩]):=ah (by simp[fF,hd]);have HHa:=aa hHa;have HHb:=aa hHb;have HHc:=aa hHc;have HH1:=aa hH1;clear hrun hp Es hro acU H1 H nMw nqw m1 mf q0 q1 a2 a3 b0 b1 hHa hHb hHc hH1 hs hd hcc HI;go_wp2;have hHeld:=HH1.out;refine oK 14 (fun V:World=>V.cell? ⟨W.heap.size,1,none⟩=some (.slice Ah rs.length ch)/\V.cell? ⟨wr.heap.size,0,none⟩=some (.int .i64 d.az)/\V.cell? ⟨wr.heap.size,1,none⟩=some (.slice As d.steps.length cs)) (by kernel_rfl) (by kernel_rfl) ?_;simp only[List.take_succ_cons,List.take_zero,List.drop_succ_cons,List.drop_zero];refine eu 0 (.pointer (some ⟨W.heap.size,0,none⟩)) rfl (Or.inl ⟨by rfl,fun V ⟨s1,s2,s3⟩=>by go_simp⟩) hHeld ?_;try go_frame
   refine eu 1 (.pointer (some ⟨W.heap.size,0,none⟩)) rfl (Or.inl ⟨by rfl,fun V ⟨s1,s2,s3⟩=>by go_simp⟩) hHeld ?_;try go_frame
   refine eu 2 (.pointer (some ⟨W.heap.size,0,none⟩)) rfl (Or.inl ⟨by rfl,fun V ⟨s1,s2,s3⟩=>by go_simp⟩) hHeld ?_;try go_frame
   refine eu 3 (.pointer (some ⟨W.heap.size,1,none⟩)) rfl (Or.inl ⟨by rfl,fun V ⟨s1,s2,s3⟩=>by go_simp⟩) hHeld ?_;try go_frame
   refine eu 4 (.slice Ah rs.length ch) rfl (Or.inl ⟨by rfl,fun V ⟨s1,s2,s3⟩=>by go_simp⟩) hHeld ?_;try go_frame
   refine eu 5 (.pointer (some ⟨wr.heap.size,0,none⟩)) rfl (Or.inl ⟨by rfl,fun V ⟨s1,s2,s3⟩=>by go_simp⟩) hHeld ?_;try go_frame
   refine eu 6 (.int .i64 d.az) rfl (Or.inl ⟨by rfl,fun V ⟨s1,s2,s3⟩=>by go_simp⟩) hHeld ?_;try go_frame
   refine eu 7 (.pointer (some ⟨wr.heap.size,1,none⟩)) rfl (Or.inl ⟨by rfl,fun V ⟨s1,s2,s3⟩=>by go_simp⟩) hHeld ?_;try go_frame
   refine eu 8 (.slice As d.steps.length cs) rfl (Or.inl ⟨by rfl,fun V ⟨s1,s2,s3⟩=>by go_simp⟩) hHeld ?_;try go_frame
   refine eu 9 (.int .i64 (d.steps.length:Int)) rfl (Or.inl ⟨by rfl,fun V ⟨s1,s2,s3⟩=>by go_simp⟩) hHeld ?_;try go_frame
   refine wpAnyH_ready (rs:=[10]) (by kernel_rfl) (by simp) ?_;refine AllReadyH.cons rfl (fun K hK=>?_) AllReadyH.nil;go_simp;refine hK.out _ _ HHa.out (fun hH2=>?_);clear hK K;try go_frame
   refine eu 11 (.agg #[.int .i64 d.az,.slice (some ⟨wr.heap.size+1,0,none⟩) 0 d.steps.length,.bool false]) rfl (Or.inl ⟨by rfl,fun V ⟨s1,s2,s3⟩=>by go_simp⟩) hH2 ?_;try go_frame
   refine wpAnyH_ready (rs:=[12]) (by kernel_rfl) (by simp) ?_;refine AllReadyH.cons rfl (fun K hK=>?_) AllReadyH.nil;go_simp;refine hK.out _ _ HHb.out (fun hH4=>?_);clear hK K;try go_frame
   refine wpAnyH_ready (rs:=[13]) (by kernel_rfl) (by simp) ?_;refine AllReadyH.cons rfl (fun K hK=>?_) AllReadyH.nil;refine aJ (by rfl) (by rfl) (by rfl) (by rfl) aU.out ?_;refine hK.out _ _ HHc.out (fun hH5=>?_);clear hK K;try go_frame
   refine wpAnyH_done (by kernel_rfl) ?_ _;show wpList _ _ _ _ _ _;clear hHeld hH2 hH4 hH5 hMC HHa HHb HHc HH1 aU;go_wp2;go_roundw;case rel=>exact⟨Hw.out,k+1,by omega,by go_num,_,_,by rw[O8.out];exact HN.out⟩
   case measure=>simp[intOf];omega
  ·obtain rfl:k=p.length:=by omega
   obtain⟨hv,rs,H⟩:=HI.out;have HD:=aa H.done;clear H;go_wp2;go_returns;have h1:=HD.out;rw[List.take_of_length_le (by simp[fF])]at h1;exact⟨_,_,rfl,h1,HB.out⟩
def Dn(n s:Nat)(o:aQ):aQ:=if iN o then ⟨o.kind,o.key,10*((n:Int)+1)+(s:Int)+1⟩ else o
def zY(o:aQ):Value:=.agg #[.int .i64 o.kind,.int .i64 o.key,.int .i64 o.value]
theorem WC{base M n:Nat}{pv hv:Value}{W:World}{rs:List iX}{h:List aA}{t:aA}(H:xJ base M pv W hv rs h)(ht:h[n]? =some t)(hn4:n<4)(RQ:t.ops.length<=6){w0:World}(hw0:Ext w0 W){p:List eH}{d:eH}(HP:xZ w0 pv p)(hd:p[n]? =some d)(hdl:d.steps.length<=4)(hle:t.ops.length<=d.steps.length) :
 Calls Tryz.prog 142 #[.pointer (some ⟨M,0,none⟩),.int .i64 (n:Int)] W fun e W'=>Ext W W'/\(∀o,d.steps[t.ops.length]? =some o->e=.returned (.tuple #[zY (Dn n t.ops.length o),.bool true]))/\(d.steps[t.ops.length]? =none->e=.returned (.tuple #[zY ⟨0,0,0⟩,.bool false])):=by
 obtain⟨Ap,cp,rfl⟩:=HP.slice;obtain⟨A,nn,c,rfl⟩:∃A nn c,hv=.slice A nn c:=by obtain⟨A,c,e,_⟩:=H.hs;exact⟨A,_,c,e⟩
 have hnn:nn=h.length:=by obtain⟨A,c,e,_⟩:=H.hs;injection e with _ e _;rw[e,H.hl]
 subst hnn;have hnl:n<h.length:=(List.getElem?_eq_some_iff.1 ht).1;have hpn:n<p.length:=(List.getElem?_eq_some_iff.1 hd).1;have b0:=(Ext.refl W).alloc (.cells #[.int .i64 0,.int .i64 0,.int .i64 0] 71);have H1:=H.ext b0;obtain⟨b,off,r,rfl,hb,hbb,hr,c0,c1,c2,hrow,hfr,hty⟩:=H1.at ht;obtain⟨Ao,co,ho,_⟩:=hrow.cell.1;rw[ho]at c1;have m0:=H1.m0;have m1:=H1.m1;obtain⟨bp,op,rfl,hbp,hcp⟩:=HP.head (by omega);obtain⟨ov,d0,d1,hsp⟩:=hcp n d hd;have abD:=hsp.ext (hw0.trans b0);replace d1:=(hw0.trans b0).cell d1;obtain⟨Asp,csp,rfl,Ed⟩:=id abD;have HST:=aa Ed;have HB0:=aa b0;have f4:∀j,(W.alloc (.cells #[.int .i64 0,.int .i64 0,.int .i64 0] 71)).frozen? ⟨W.heap.size,j,none⟩=false:=fun j=>gN j rfl;have g0:(W.alloc (.cells #[.int .i64 0,.int .i64 0,.int .i64 0] 71)).cell? ⟨W.heap.size,0,none⟩=some (.int .i64 0):=av rfl;have g1:(W.alloc (.cells #[.int .i64 0,.int .i64 0,.int .i64 0] 71)).cell? ⟨W.heap.size,1,none⟩=some (.int .i64 0):=av rfl;have g2:(W.alloc (.cells #[.int .i64 0,.int .i64 0,.int .i64 0] 71)).cell? ⟨W.heap.size,2,none⟩=some (.int .i64 0):=av rfl;clear hcp d0 hsp abD hrow hfr hty H1 H hw0 HP hb hbp hbb hr c0 c2 b0 Ed ht
 cases hs:d.steps[t.ops.length]? with
 | none=>
   have hle2:=List.getElem?_eq_none_iff.1 hs;have hEq:((t.ops.length:Int)==(d.steps.length:Int))=true:=by simp;omega
   clear hle2 hs hd;go_enter Tryz.func142,Tryz.ntmps142;go_wp2;refine bodyPost_ret (v:=.tuple #[zY ⟨0,0,0⟩,.bool false]) (by simp[results,Tryz.results142,go_sem,zY,av]) rfl ?_;exact⟨HB0.out,fun o ho=>(by cases ho),fun _=>rfl⟩
 | some o=>
   have hlt:t.ops.length<d.steps.length:=(List.getElem?_eq_some_iff.1 hs).1;have hEq:((t.ops.length:Int)==(d.steps.length:Int))=false:=by simp;omega
   obtain⟨bs,os,rfl,hbs,hcs⟩:=HST.out (by omega);have k0:=hcs t.ops.length o hs 0 (by omega);have k1:=hcs t.ops.length o hs 1 (by omega);have k2:=hcs t.ops.length o hs 2 (by omega);obtain⟨kd,ky,vl⟩:=o;simp only[aj,Nat.add_zero]at k0 k1 k2;have hl0:(0:Int)<=(t.ops.length:Int):=by omega
   have af1:(t.ops.length:Int)<=6:=by omega
   have afD:(n:Int)<4:=by omega
   have hn0:(0:Int)<=(n:Int):=by omega
   have hlt':(t.ops.length:Int)<(d.steps.length:Int):=by omega
   have HSG:Hid (∀(x y:aQ),some x=some y->y=x):=fun x y e=>by cases e;rfl
   clear hcs hs hd hbs
   cases hw:iN ⟨kd,ky,vl⟩ with
   | true=>
     have Z0:Hid ((kd==2)=true):=hw;have hsv:Hid (Dn n t.ops.length ⟨kd,ky,vl⟩=⟨kd,ky,10*((n:Int)+1)+(t.ops.length:Int)+1⟩):=by show _ = _;unfold Dn;rw[if_pos hw]
     clear hw;go_enter Tryz.func142,Tryz.ntmps142;go_wp2_with (go_at_call 93;refine(eX _ _ _ _).mono ?_;rw[Z0.out];rintro e w4 ⟨rfl,rfl⟩)
     refine bodyPost_ret (v:=.tuple #[zY ⟨kd,ky,10*((n:Int)+1)+(t.ops.length:Int)+1⟩,.bool true]) (by simp[results,Tryz.results142,go_sem,zY]) rfl ?_;refine⟨?_,fun o' ho'=>?_,fun hx=>(by cases hx)⟩
     ·show Below _ _ _;go_grown
     ·rw[HSG.out _ _ ho',hsv.out]
   | false=>
     have Z0:Hid ((kd==2)=false):=hw;have hsv:Hid (Dn n t.ops.length ⟨kd,ky,vl⟩=⟨kd,ky,vl⟩):=by show _ = _;unfold Dn;rw[if_neg (by rw[hw];decide)]
     clear hw;go_enter Tryz.func142,Tryz.ntmps142;go_wp2_with (go_at_call 93;refine(eX _ _ _ _).mono ?_;rw[Z0.out];rintro e w4 ⟨rfl,rfl⟩)
     refine bodyPost_ret (v:=.tuple #[zY ⟨kd,ky,vl⟩,.bool true]) (by simp[results,Tryz.results142,go_sem,zY]) rfl ?_;refine⟨?_,fun o' ho'=>?_,fun hx=>(by cases hx)⟩
     ·show Below _ _ _;go_grown
     ·rw[HSG.out _ _ ho',hsv.out]
theorem Mr{M:Nat}{hv:Value}{h:List aA}(W:World)(m1:W.cell? ⟨M,1,none⟩=some hv)(hh:Calls Tryz.prog 36 #[hv] W (qj W h)) :
 Calls Tryz.prog 146 #[.pointer (some ⟨M,0,none⟩)] W (qj W h):=by
 have HH:=aa hh;clear hh;go_enter Tryz.func146,Tryz.ntmps146;go_wp2_with fail
 refine HH.out.mono ?_;rintro e w1 ⟨v,rs,rfl,h1,h2,b1⟩;have H1:=aa h1;have H2:=aa h2;obtain⟨A,c,rfl,_⟩:=id h1.2.1;clear h1 h2;go_wp2;go_returns;exact⟨_,rs,rfl,H1.out,H2.out,b1⟩
theorem U8(t:aA)(ov:Value)(s:iV)(key:Nat)(W:World)(hk:key<3)(hops:aF 3 aj W ov t.ops)(hl:t.ops.length<=6) :
 Calls Tryz.prog 143 #[ng t ov,Vf s,.int .i64 (key:Int)] W fun e W'=>e=.returned (.int .i64 (kP t.ops s (key:Int)))/\Ext W W':=by
 obtain⟨se,ops,dn⟩:=t;simp only at hops hl ⊢;have b0:Ext W ((W.alloc (.cells #[.int .i64 se,ov,.bool dn] 48)).alloc (.cells #[.int .i64 (s 0),.int .i64 (s 1),.int .i64 (s 2)] 164)):=((Ext.refl W).alloc _).alloc _;have Xt:=aa (kr se dn _ (hops.ext b0) (by omega));have hz:(W.alloc (.cells #[.int .i64 se,ov,.bool dn] 48)).heap.size=W.heap.size+1:=by simp
 have hst:=Ba (W.alloc (.cells #[.int .i64 se,ov,.bool dn] 48)) s 164;rw[hz]at hst;have HST:=aa hst;have HB0:=aa b0;obtain⟨A,c,rfl,_⟩:=id hops;obtain⟨R,hR⟩:∃R,kP ops s (key:Int)=R:=⟨_,rfl⟩;have HR:=aa hR;rw[hR];obtain⟨L,hL⟩:∃L,bD ops=L:=⟨_,rfl⟩;have hLW:=Xt.out;rw[hL]at hLW;have aaZ:=aa hLW;have UI:=aa hL;have hl3:L.length<=3:=by rw[<-hL];exact j6 ops▸lV ops 3
 have hk0:(0:Int)<=(key:Int):=by omega
 have hk3:(key:Int)<3:=by omega
 clear hops b0 hz hst hR hL hLW Xt;unfold Vf;show Calls Tryz.prog 143 #[.agg #[.int .i64 se,.slice A ops.length c,.bool dn],.agg #[.int .i64 (s 0),.int .i64 (s 1),.int .i64 (s 2)],.int .i64 (key:Int)] W _;go_enter Tryz.func143,Tryz.ntmps143;go_wp2_with fail
 refine aaZ.out.mono ?_;rintro e w1 ⟨v,rfl,hrow,b1⟩;obtain⟨Al,cl,rfl,hc0⟩:=id hrow.cell.1;have HC:=aa hc0;have hbb:=HB0.out.trans b1;have uJ:=aa (HST.out.ext b1);clear hrow hc0 b1 HST;go_wp2;go_loopw [12] (fun i wr=>Ext W wr/\Ext w1 wr/\∃k:Nat,k<=L.length/\i=.int .i64 k/\Hid (∀(j:Nat) x,j<k->L[j]? =some x->x.key≠(key:Int))) (fun i _=>L.length-(intOf i).toNat)
 case atStart=>exact⟨hbb,Ext.refl _,0,Nat.zero_le _,rfl,fun _ _ h=>absurd h (Nat.not_lt_zero _)⟩
 case round=>
  clear hbb;obtain⟨hb,hb1,k,hk',rfl,HK⟩:=hrel;by_cases hlt:k<L.length
  ·obtain⟨b,off,rfl,hbl,hcell⟩:=HC.out (by omega);obtain⟨x,hx⟩:=af hlt;have c0:=hb1.cell (hcell k x hx 0 (by omega));have c1:=hb1.cell (hcell k x hx 1 (by omega));have c2:=hb1.cell (hcell k x hx 2 (by omega));simp only[aj,Nat.add_zero]at c0 c1 c2;have Hx:=aa hx;clear hcell hx;by_cases hkk:x.key=(key:Int)
   ·have hd:(x.key==(key:Int))=true:=by simp[hkk]
    have hf:Hid (x.value=R):=by show _ = _;rw[<-HR.out];have hm:=List.mem_of_getElem? Hx.out;rw[<-UI.out,jD]at hm;unfold kP;rw[<-hkk,hm.2];rfl
    clear hkk;go_wp2;go_returns;exact⟨aX hf.out,hb.alloc _⟩
   ·have hd:(x.key==(key:Int))=false:=by simpa using hkk
    have HKK:=aa hkk;clear hkk;go_wp2;go_roundw;case rel=>exact⟨hb.alloc _,hb1.alloc _,k+1,by omega,by go_num,fun j y hj hy=>by
     by_cases e:j=k
     ·subst e;rw[Hx.out]at hy;cases hy;exact HKK.out
     ·exact HK.out j y (by omega) hy⟩
    case measure=>simp[intOf];omega
  ·obtain rfl:k=L.length:=by omega
   have hf:Hid (s (key:Int)=R):=by
    show _ = _;rw[<-HR.out];unfold kP
    cases hl:fB ops (key:Int) with
    | none=>rfl
    | some o=>
      exfalso;have hok:=Ce hl;have hm:o∈bD ops:=jD.2 ⟨by omega,by rw[hok];exact hl⟩;rw[UI.out]at hm;obtain⟨j,hj,he⟩:=List.getElem_of_mem hm;exact HK.out j o hj (by rw[List.getElem?_eq_getElem hj,he]) hok
   have cs:=hb1.cell (uJ.out.2 key hk);go_wp2;go_returns;exact⟨aX hf.out,hb⟩
theorem xJ.PS{base M n:Nat}{pv:Value}{W:World}{b off nn c:Nat}{rs:List iX}{h:List aA}{r:iX}{t:aA}(H:xJ base M pv W (.slice (some ⟨b,off,none⟩) nn c) rs h)(hr:rs[n]? =some r)(ht:h[n]? =some t)(hnn:0<nn) :
 xJ base M pv (W.setCell ⟨b,off+n*3+2,none⟩ (.bool true)) (.slice (some ⟨b,off,none⟩) nn c) (rs.set n ⟨r.az,r.aY,true⟩) (h.set n ⟨t.az,t.ops,true⟩)/\kN W (W.setCell ⟨b,off+n*3+2,none⟩ (.bool true)):=by
 obtain⟨e1,e2,hrow⟩:=H.rows n r t hr ht;obtain⟨U3,We,hgb⟩:=H.hi _ _ _ rfl hnn;simp only at hgb;have nM:M≠b:=fun e=>by
  subst e
  have:=H.mb
  rw[hgb]at this;injection this with this;injection this with _ e _;exact absurd e (by decide)
 have S:bH (fun k=>k=b) W (W.setCell ⟨b,off+n*3+2,none⟩ (.bool true)):=(bH.refl (fun k=>k=b) W).setCell (p:=⟨b,off+n*3+2,none⟩) (.inl rfl) _;have hn:n<rs.length:=(List.getElem?_eq_some_iff.1 hr).1;have keep:∀{v:Value} {xs:List aQ},Row 71 3 aj base W v xs->Row 71 3 aj base (W.setCell ⟨b,off+n*3+2,none⟩ (.bool true)) v xs:=fun hro=>dM hro S (fun j e hj=>by obtain⟨cs,hg⟩:=dA hro e;rw[hj,hgb]at hg;injection hg with hg;injection hg with _ e _;exact absurd e (by decide))
 refine⟨⟨S.heap H.mb nM,by rw[List.length_set,List.length_set];exact H.hl,?_,?_,?_,?_,?_⟩,kN.BK S (fun k hk=>by subst hk;exact⟨U3,_,We,hgb,.inl rfl⟩)⟩
 ·exact wT H.hs hn (by omega) ⟨r.az,r.aY,true⟩ (fun x hx i hi hne=>by
   rw[hr]at hx;cases hx
   match i,hi with
   | 0,_=>rfl
   | 1,_=>rfl
   | 2,_=>exact absurd rfl hne)
 ·intro a n' c' e hn';obtain⟨x1,x2,x3⟩:=H.ho a n' c' e hn';refine⟨x1,by simpa[World.setCell] using x2,fun i=>?_⟩;have h0:(0:Nat)<1:=by omega
  have:=(Only.setCell (a:=⟨b,0,none⟩) (n:=1) (c:=1) (w:=W) h0 (off+n*3+2) (.bool true)).uN ⟨a.block,i,none⟩ x2
  rw[this];exact x3 i
 ·intro a n' c' e hn';injection e with e _ _;injection e with e;subst e;refine⟨U3.setIfInBounds (off+n*3+2) (.bool true),We,?_⟩;simp only[World.setCell,Array.getElem?_modify,hgb];simp
 ·intro i x y hx hy;rw[List.getElem?_set]at hx hy;by_cases hi:n=i
  ·subst hi;rw[if_pos rfl,if_pos hn]at hx;rw[if_pos rfl,if_pos (by rw[<-H.hl];exact hn)]at hy;cases hx;cases hy;exact⟨e1,rfl,keep hrow⟩
  ·rw[if_neg hi]at hx hy;obtain⟨d1,d2,d3⟩:=H.rows i x y hx hy;exact⟨d1,d2,keep d3⟩
 ·intro i j x y hij hx hy k hk;have old:∀(i:Nat) (x:iX),(rs.set n ⟨r.az,r.aY,true⟩)[i]? =some x->∃z,rs[i]? =some z/\z.aY=x.aY:=fun i x hx=>by
   rw[List.getElem?_set]at hx;by_cases hi:n=i
   ·subst hi;rw[if_pos rfl,if_pos hn]at hx;cases hx;exact⟨r,hr,rfl⟩
   ·rw[if_neg hi]at hx;exact⟨x,hx,rfl⟩
  obtain⟨x',hx',ex⟩:=old i x hx;obtain⟨y',hy',ey⟩:=old j y hy;rw[<-ex]at hk;rw[<-ey];exact H.apart i j x' y' hij hx' hy' k hk
def TW(T:TypeId)(w:World)(g N:Nat)(f:Nat->Int):Prop:=∃cs,w.heap[g]? =some (.cells cs T (0,0))/\cs.size=N/\∀o,o<N->cs[o]? =some (.int .i64 (f o))
theorem TW.cell{T:TypeId}{w:World}{g N o:Nat}{f:Nat->Int}(h:TW T w g N f)(ho:o<N):w.cell? ⟨g,o,none⟩=some (.int .i64 (f o)):=by obtain⟨cs,h1,h2,h3⟩:=h;simp only[World.cell?,h1];exact h3 o ho
theorem TW.free{T:TypeId}{w:World}{g N:Nat}{f:Nat->Int}(h:TW T w g N f)(o:Nat):w.frozen? ⟨g,o,none⟩=false:=by obtain⟨cs,h1,h2,h3⟩:=h;simp[World.frozen?,h1]
theorem TW.lt{T:TypeId}{w:World}{g N:Nat}{f:Nat->Int}(h:TW T w g N f):g<w.heap.size:=by
 obtain⟨cs,h1,h2,h3⟩:=h
 exact(Array.getElem?_eq_some_iff.1 h1).1
theorem TW.ext{T:TypeId}{w w':World}{g N:Nat}{f:Nat->Int}(h:TW T w g N f)(b:Ext w w'):TW T w' g N f:=by obtain⟨cs,h1,h2,h3⟩:=h;exact⟨cs,(bH.aT (X:=fun _=>False) b).heap h1 (fun h=>h),h2,h3⟩
theorem TW.o8{T:TypeId}{w w':World}{g N:Nat}{f:Nat->Int}(h:TW T w g N f)(b:kN w w')(h1:T≠48)(h2:T≠71):TW T w' g N f:=by obtain⟨cs,g1,g2,g3⟩:=h;exact⟨cs,(b.2 g cs T _ g1 h1 h2).trans g1,g2,g3⟩
theorem TW.other{T:TypeId}{w:World}{g N:Nat}{f:Nat->Int}(h:TW T w g N f){a:Addr}(hne:a.block≠g)(u:Value):TW T (w.setCell a u) g N f:=by obtain⟨cs,h1,h2,h3⟩:=h;exact⟨cs,(Below.heap_setCell _ _ _ _ (fun e=>hne e.symm)).trans h1,h2,h3⟩
theorem TW.set{T:TypeId}{w:World}{g N j:Nat}{f f':Nat->Int}(h:TW T w g N f)(hj:j<N)(hf:∀o,o≠j->f' o=f o):TW T (w.setCell ⟨g,j,none⟩ (.int .i64 (f' j))) g N f':=by
 obtain⟨cs,h1,h2,h3⟩:=h;refine⟨cs.setIfInBounds j (.int .i64 (f' j)),?_,by simpa using h2,fun o ho=>?_⟩
 ·simp only[World.setCell,Array.getElem?_modify,h1];simp
 ·rw[Array.getElem?_setIfInBounds];by_cases e:j=o
  ·subst e;rw[if_pos rfl,if_pos (by omega)]
  ·rw[if_neg e,hf o (fun h=>e h.symm)];exact h3 o ho
theorem TW.made(w:World)(T:TypeId)(cs:Array Value)(f:Nat->Int)(k N:Nat)(hk:w.heap.size=k)(hs:cs.size=N)(hc:∀o,o<N->cs[o]? =some (.int .i64 (f o))):TW T (w.alloc (.cells cs T)) k N f:=by subst hk;exact⟨cs,heap_alloc_new w _,hs,hc⟩
def fS(s:iV)(o:Nat):Int:=s (o:Int)
def fK(f:Nat->iV)(o:Nat):Int:=f (o/3) ((o%3:Nat):Int)
theorem VN{s:iV}{q:Nat}{v:Int}(o:Nat)(h:o≠q):fS (s.put (q:Int) v) o=fS s o:=by unfold fS iV.put;rw[if_neg (by omega)]
theorem aae{s:iV}{q:Nat}{v:Int}:fS (s.put (q:Int) v) q=v:=by unfold fS iV.put;rw[if_pos rfl]
