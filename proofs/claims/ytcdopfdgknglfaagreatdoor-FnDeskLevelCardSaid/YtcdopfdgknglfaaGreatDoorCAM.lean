/- Lemmas. -/
import Derived.Test.YtcdopfdgknglfaaGreatDoorCAK
import Derived.Test.YtcdopfdgknglfaaGreatDoorCAL
set_option maxHeartbeats 16000000
set_option maxRecDepth 8000
set_option linter.all false
namespace Go.Proofs.YtcdopfdgknglfaaGreatDoor
open Go.RowKit
structure sI (base M:Nat) (pv:Value) (W:World) (hv:Value) (rs:List mo) (h:List aF):Prop where
 mb:W.heap[M]? =some (.cells #[pv,hv] 164 (0,0))
 hl:rs.length=h.length
 hs:aI 3 encTxV W hv rs
 ho:Own base W hv
 hi:fT 48 W hv
 rows:∀(i:Nat) r t,rs[i]? =some r->h[i]? =some t->r.aD=t.aD/\r.done=t.done/\Row 67 3 encOpr base W r.dQ t.ops
 apart:∀(i j:Nat) r r',i<j->rs[i]? =some r->rs[j]? =some r'->∀k,r.dQ.ownBlock=some k->r'.dQ.ownBlock≠some k
theorem sI.m0{base M:Nat}{pv hv:Value}{W:World}{rs:List mo}{h:List aF}(H:sI base M pv W hv rs h):W.cell? ⟨M,0,none⟩=some pv:=by simp[World.cell?,H.mb]
theorem sI.m1{base M:Nat}{pv hv:Value}{W:World}{rs:List mo}{h:List aF}(H:sI base M pv W hv rs h):W.cell? ⟨M,1,none⟩=some hv:=by simp[World.cell?,H.mb]
theorem MR{I:TypeId}{X:Nat->Prop}{w w':World}{u:Value}(h:fT I w u)(k:bF X w w')(hx:∀a n c,u=.slice (some a) n c->0<n->¬X a.block):fT I w' u:=λa n c hu hn=>by obtain⟨cs,fr,hg⟩:=h a n c hu hn;exact⟨cs,fr,k.heap hg (hx a n c hu hn)⟩
theorem Jq{lo:Nat}{X:Nat->Prop}{w w':World}{u:Value}(h:Own lo w u)(k:bF X w w')(hx:∀a n c,u=.slice (some a) n c->0<n->¬X a.block):Own lo w' u:=λa n c hu hn=>by obtain⟨h1,h2,h3⟩:=h a n c hu hn;exact⟨h1,dJ h2 k.size,λi=>(k.frozen (p:=⟨a.block,i,none⟩) h2 (hx a n c hu hn)).trans (h3 i)⟩
def QU(M:Nat)(hv:Value)(rs:List mo)(k:Nat):Prop:=k=M∨(∃a n c,hv=.slice (some a) n c/\0<n/\a.block=k)∨∃(i:Nat) (r:mo),rs[i]? =some r/\r.dQ.ownBlock=some k
theorem sI.frX{base M:Nat}{pv hv:Value}{X:Nat->Prop}{W W':World}{rs:List mo}{h:List aF}(H:sI base M pv W hv rs h)(k:bF X W W')(hx:∀i,QU M hv rs i->¬X i):sI base M pv W' hv rs h where
 mb:=k.heap H.mb (hx _ (.inl rfl))
 hl:=H.hl
 hs:=H.hs.frX k (λa n c e hn=>hx _ (.inr (.inl ⟨a,n,c,e,hn,rfl⟩)))
 ho:=Jq H.ho k (λa n c e hn=>hx _ (.inr (.inl ⟨a,n,c,e,hn,rfl⟩)))
 hi:=MR H.hi k (λa n c e hn=>hx _ (.inr (.inl ⟨a,n,c,e,hn,rfl⟩)))
 rows i r t hr ht:=let ⟨a,b,c⟩:=H.rows i r t hr ht;⟨a,b,iw c k (λj e=>hx _ (.inr (.inr ⟨i,r,hr,e⟩)))⟩
 apart:=H.apart
theorem sI.ext{base M:Nat}{pv hv:Value}{W W':World}{rs:List mo}{h:List aF}(H:sI base M pv W hv rs h)(b:Ext W W'):sI base M pv W' hv rs h where
 mb:=(bF.aO (X:=λ_=>False) b).heap H.mb (λh=>h)
 hl:=H.hl
 hs:=H.hs.ext b
 ho:=H.ho.ext b
 hi:=H.hi.ext b
 rows i r t hr ht:=let ⟨a,b',c⟩:=H.rows i r t hr ht;⟨a,b',c.ext b⟩
 apart:=H.apart
theorem sI.his{base M:Nat}{pv hv:Value}{W:World}{rs:List mo}{h:List aF}(H:sI base M pv W hv rs h):lV W hv h:=
 ⟨rs,H.hl,H.hs,λi r t hr ht=>let ⟨a,b,c⟩:=H.rows i r t hr ht;⟨a,b,c.cell.1,c.cap⟩⟩
theorem sI.at{base M:Nat}{pv:Value}{W:World}{A:Option Addr}{n c:Nat}{rs:List mo}{h:List aF}(H:sI base M pv W (.slice A n c) rs h){k:Nat}{t:aF}(ht:h[k]? =some t) :
 ∃b off r,A=some ⟨b,off,none⟩/\b<W.heap.size/\base<=b/\rs[k]? =some r/\W.cell? ⟨b,off+k*3,none⟩=some (.int .i64 t.aD)/\W.cell? ⟨b,off+k*3+1,none⟩=some r.dQ/\W.cell? ⟨b,off+k*3+2,none⟩=some (.bool t.done)/\Row 67 3 encOpr base W r.dQ t.ops/\(∀i,W.frozen? ⟨b,i,none⟩=false)/\∃cs fr,W.heap[b]? =some (.cells cs 48 fr):=by
 have hk:k<rs.length:=by rw[H.hl];exact(aS.1 ht).1
 obtain⟨r,hr⟩:=au hk;obtain⟨A',c',hA,hc⟩:=H.hs;have hn:n=rs.length:=by injection hA
 obtain⟨b,off,hb,hlt,hcell⟩:=hc (by omega);have hA1:A=some ⟨b,off,none⟩:=by injection hA with e1 _ _;rw[e1,hb]
 subst hA1;obtain⟨e1,e2,e3⟩:=H.rows k r t hr ht;obtain⟨o1,o2,o3⟩:=H.ho _ _ _ rfl (by omega);refine⟨b,off,r,rfl,hlt,o1,hr,?_,hcell k r hr 1 (by omega),?_,e3,o3,H.hi _ _ _ rfl (by omega)⟩
 ·have:=hcell k r hr 0 (by omega);rw[<-e1];exact this
 ·have:=hcell k r hr 2 (by omega);rw[<-e2];exact this
theorem CG{α:Type}{m:Nat}{enc:α->Nat->Value}{w:World}{b off n c:Nat}{xs:List α}(h:aI m enc w (.slice (some ⟨b,off,none⟩) n c) xs){k j:Nat}(hk:k<xs.length)(hj:j<m)(x':α)(hx:∀x,xs[k]? =some x->∀i,i<m->i≠j->enc x' i=enc x i) :
 aI m enc (w.setCell ⟨b,off+k*m+j,none⟩ (enc x' j)) (.slice (some ⟨b,off,none⟩) n c) (xs.set k x'):=by
 obtain⟨A',c',e,hc⟩:=h;injection e with e1 e2 e3;subst e1 e2 e3;refine⟨_,_,by rw[jO],λhn=>?_⟩;rw[jO]at hn;obtain⟨b',off',e,hbl,hc⟩:=hc hn;injection e with e;injection e with e1 e2;subst e1 e2;refine⟨b,off,rfl,by simpa[World.setCell] using hbl,λi z hz q hq=>?_⟩;rw[kF]at hz;by_cases hi:k=i
 ·subst hi;rw[ah rfl,ah hk]at hz;cases hz;obtain⟨x,hx0⟩:=au hk;by_cases hqj:q=j
  ·subst hqj;exact dN (hc k x hx0 q hq) _
  ·rw[av (by intro e;injection e with _ e _;omega),hc k x hx0 q hq,hx x hx0 q hq hqj]
 ·rw[ak hi]at hz;rw[av (by
   intro e;injection e with _ e _;have h1:k*m+j=i*m+q:=by omega
   have h2:(k*m+j)/m=(i*m+q)/m:=by rw[h1]
   rw[Nat.mul_comm k m,Nat.mul_comm i m,Nat.mul_add_div (by omega),Nat.mul_add_div (by omega),Nat.div_eq_of_lt hj,Nat.div_eq_of_lt hq]at h2
   omega)]
  exact hc i z hz q hq
def l6(w w':World):Prop:=w.heap.size<=w'.heap.size/\∀(k:Nat) (cs:Array Value) (t:TypeId) (fr:Nat × Nat),w.heap[k]? =some (Obj.cells cs t fr)->t≠48->t≠67->w'.heap[k]? =w.heap[k]?
theorem l6.aO{w w':World}(h:Ext w w'):l6 w w':=⟨h.size,λk _ _ _ hk _ _=>Below.block h k (dB.1 hk).1⟩
theorem l6.trans{a b c:World}(h:l6 a b)(k:l6 b c):l6 a c:=
 ⟨aR h.1 k.1,λi cs t fr hi h1 h2=>(k.2 i cs t fr ((h.2 i cs t fr hi h1 h2).trans hi) h1 h2).trans (h.2 i cs t fr hi h1 h2)⟩
theorem l6.IY{X:Nat->Prop}{w w':World}(h:bF X w w')(hx:∀k,X k->∃cs t fr,w.heap[k]? =some (Obj.cells cs t fr)/\(t=48∨t=67)):l6 w w':=
 ⟨h.size,λk cs t fr hk h1 h2=>h.block k (dB.1 hk).1 (λhX=>by
  obtain⟨cs',t',fr',hk',ht⟩:=hx k hX;rw[hk]at hk';injection hk' with hk';injection hk' with _ e _;subst e;rcases ht with e|e
  ·exact h1 e
  ·exact h2 e)⟩
theorem gG{α:Type}{e:TypeId}{m:Nat}{enc:α->Nat->Value}{base:Nat}{W:World}{v:Value}{xs:List α}(h:Row e m enc base W v xs){k:Nat}(hk:v.ownBlock=some k):∃cs,W.heap[k]? =some (.cells cs e (0,0)):=by
 rcases h.2 with ⟨rfl,_⟩|⟨g,cap,cur,rfl,h1,h2,h3⟩
 ·cases hk
 ·have e1:g=k:=by simpa[Value.ownBlock] using hk
  subst e1;exact⟨cur,h2⟩
theorem l8{α:Type}{e:TypeId}{m:Nat}{enc:α->Nat->Value}{base:Nat}{W:World}{v:Value}{xs:List α}(h:Row e m enc base W v xs){k:Nat}(hk:v.ownBlock=some k):base<=k/\k<W.heap.size:=World.ownsRow.lt h k hk
theorem sI.NJ{base M n:Nat}{pv:Value}{W W3:World}{b off nn c:Nat}{rs:List mo}{h:List aF}{r:mo}{t:aF}{v3:Value}{o:aJ}(H:sI base M pv W (.slice (some ⟨b,off,none⟩) nn c) rs h)(hr:rs[n]? =some r)(ht:h[n]? =some t)(hnn:0<nn)
 (P:bF (λk=>r.dQ.ownBlock=some k) W W3) (hp:Row 67 3 encOpr base W3 v3 (t.ops++[o])) (hv:v3.ownBlock=r.dQ.ownBlock∨∃k,v3.ownBlock=some k/\W.heap.size<=k) :
 sI base M pv (W3.setCell ⟨b,off+n*3+1,none⟩ v3) (.slice (some ⟨b,off,none⟩) nn c) (rs.set n ⟨r.aD,v3,r.done⟩) (h.set n ⟨t.aD,t.ops++[o],t.done⟩)/\l6 W (W3.setCell ⟨b,off+n*3+1,none⟩ v3):=by
 obtain⟨e1,e2,hrow⟩:=H.rows n r t hr ht;obtain⟨U1,Uq,hgb⟩:=H.hi _ _ _ rfl hnn;simp only at hgb;have hbl:b<W.heap.size:=(dB.1 hgb).1;have nb:r.dQ.ownBlock≠some b:=λe=>by obtain⟨cs,hg⟩:=gG hrow e;rw[hgb]at hg;injection hg with hg;injection hg with _ e _;exact absurd e (by decide)
 have OQ:=P.heap hgb nb;have nb3:v3.ownBlock≠some b:=λe=>by obtain⟨cs,hg⟩:=gG hp e;rw[OQ]at hg;injection hg with hg;injection hg with _ e _;exact absurd e (by decide)
 have nM:M≠b:=λe=>by
  subst e
  have:=H.mb
  rw[hgb]at this;injection this with this;injection this with _ e _;exact absurd e (by decide)
 have nM2:r.dQ.ownBlock≠some M:=λe=>by obtain⟨cs,hg⟩:=gG hrow e;rw[H.mb]at hg;injection hg with hg;injection hg with _ e _;exact absurd e (by decide)
 have S:bF (λk=>k=b) W3 (W3.setCell ⟨b,off+n*3+1,none⟩ v3):=(bF.refl (λk=>k=b) W3).setCell (p:=⟨b,off+n*3+1,none⟩) (.inl rfl) _;have hA:∀a n' c',(Value.slice (some ⟨b,off,none⟩) nn c)=.slice (some a) n' c'->0<n'->r.dQ.ownBlock≠some a.block:=λa n' c' e _=>by injection e with e _ _;injection e with e;subst e;exact nb
 have hs3:=H.hs.frX P (λa n' c' e hn=>hA a n' c' e hn);have hn:n<rs.length:=(aS.1 hr).1;refine⟨⟨S.heap (P.heap H.mb nM2) nM,by rw[jO,jO];exact H.hl,?_,?_,?_,?_,?_⟩,?_⟩
 ·exact CG hs3 hn (by omega) ⟨r.aD,v3,r.done⟩ (λx hx i hi hne=>by
   rw[hr]at hx;cases hx
   match i,hi with
   | 0,_=>rfl
   | 1,_=>exact absurd rfl hne
   | 2,_=>rfl)
 ·have h3:=Jq H.ho P (λa n' c' e hn=>hA a n' c' e hn);intro a n' c' e hn';obtain⟨x1,x2,x3⟩:=h3 a n' c' e hn';refine⟨x1,by simpa[World.setCell] using x2,λi=>?_⟩;have h0:(0:Nat)<1:=by omega
  have:=(Only.setCell (a:=⟨b,0,none⟩) (n:=1) (c:=1) (w:=W3) h0 (off+n*3+1) v3).sD ⟨a.block,i,none⟩ x2
  rw[this];exact x3 i
 ·intro a n' c' e hn';injection e with e _ _;injection e with e;subst e;obtain⟨hlt,hk⟩:=dB.1 OQ;refine⟨U1.setIfInBounds (off+n*3+1) v3,Uq,?_⟩;simp only[World.setCell,oM,OQ];simp
 ·intro i x y hx hy;rw[kF]at hx hy;by_cases hi:n=i
  ·subst hi;rw[ah rfl,ah hn]at hx;rw[ah rfl,ah (by rw[<-H.hl];exact hn)]at hy;cases hx;cases hy;exact⟨e1,e2,iw hp S (λj e hj=>nb3 (by rw[e,hj]))⟩
  ·rw[ak hi]at hx hy;obtain⟨d1,d2,d3⟩:=H.rows i x y hx hy;have hap:∀k,x.dQ.ownBlock=some k->r.dQ.ownBlock≠some k:=λk hk hk'=>by
    rcases eX n i with hlt|hge
    ·exact H.apart n i r x hlt hr hx k hk' hk
    ·exact H.apart i n x r (by omega) hx hr k hk hk'
   have d4:=iw d3 P hap;refine⟨d1,d2,iw d4 S (λj e hj=>?_)⟩;obtain⟨cs,hg⟩:=gG d3 e;rw[hj,hgb]at hg;injection hg with hg;injection hg with _ e _;exact absurd e (by decide)
 ·intro i j x y hij hx hy k hk hk';rw[kF]at hx hy;have old:∀(i:Nat) (x:mo),n≠i->rs[i]? =some x->∀k,x.dQ.ownBlock=some k->v3.ownBlock≠some k:=λi x hne hx k hk hk'=>by
   obtain⟨y,hy⟩:=au (show i<h.length by rw[<-H.hl];exact(aS.1 hx).1);have hrow':=(H.rows i x y hx hy).2.2;rcases hv with e|⟨q,e,hq⟩
   ·rw[e]at hk';rcases eX n i with hlt|hge
    ·exact H.apart n i r x hlt hr hx k hk' hk
    ·exact H.apart i n x r (by omega) hx hr k hk hk'
   ·rw[e]at hk';injection hk' with hk'
    have:=(l8 hrow' hk).2
    omega
  by_cases hi:n=i
  ·subst hi;rw[ah rfl,ah hn]at hx;rw[ak (by omega)]at hy;cases hx;exact old j y (by omega) hy k hk' hk
  ·rw[ak hi]at hx;by_cases hj:n=j
   ·subst hj;rw[ah rfl,ah hn]at hy;cases hy;exact old i x hi hx k hk hk'
   ·rw[ak hj]at hy;exact H.apart i j x y hij hx hy k hk hk'
 ·refine(l6.IY P (λk hk=>?_)).trans (l6.IY S (λk hk=>?_))
  ·obtain⟨cs,hg⟩:=gG hrow hk;exact⟨cs,_,_,hg,.inr rfl⟩
  ·subst hk;exact⟨U1,_,Uq,OQ,.inl rfl⟩
theorem JA{base M n:Nat}{pv hv:Value}{W:World}{rs:List mo}{h:List aF}{t:aF}(o:aJ)(H:sI base M pv W hv rs h)(ht:h[n]? =some t)(RJ:n<4)(RG:t.ops.length<=6)(hbase:base<=W.heap.size){w0:World}(hw0:Ext w0 W)(hb0:w0.heap.size<=base)(hbM:base<=M){p:List dZ}{d:dZ}(HP:vT w0 pv p)(hd:p[n]? =some d)(hdl:d.steps.length<=4)(Xu:h.length<=4) :
 Calls Tryz.prog 147 #[.pointer (some ⟨M,0,none⟩),.int .i64 (n:Int),.agg #[.int .i64 o.kind,.int .i64 o.key,.int .i64 o.value]] W λe W'=>e=.returned (.bool (decide (t.ops.length+1=d.steps.length)))/\Ext w0 W'/\l6 W W'/\∃rs',sI base M pv W' hv rs' (h.set n ⟨t.aD,t.ops++[o],t.done⟩):=by
 obtain⟨Ap,cp,rfl⟩:=HP.slice;obtain⟨A,nn,c,rfl⟩:∃A nn c,hv=.slice A nn c:=by obtain⟨A,c,e,_⟩:=H.hs;exact⟨A,_,c,e⟩
 have hnn:nn=h.length:=by obtain⟨A,c,e,_⟩:=H.hs;injection e with _ e _;rw[e,H.hl]
 subst hnn;have hE:=(af W).alloc (.cells #[.int .i64 o.kind,.int .i64 o.key,.int .i64 o.value] 67);have H1:=H.ext hE;obtain⟨b,off,r,rfl,hb,hbb,hr,c0,c1,c2,hrow,hfr,hty⟩:=H1.at ht;have hnl:n<h.length:=(aS.1 ht).1;have m1:=H1.m1;have q0:(W.alloc (.cells #[.int .i64 o.kind,.int .i64 o.key,.int .i64 o.value] 67)).cell? ⟨W.heap.size,0,none⟩=some (.int .i64 o.kind):=az rfl;have q1:(W.alloc (.cells #[.int .i64 o.kind,.int .i64 o.key,.int .i64 o.value] 67)).cell? ⟨W.heap.size,1,none⟩=some (.int .i64 o.key):=az rfl;have q2:(W.alloc (.cells #[.int .i64 o.kind,.int .i64 o.key,.int .i64 o.value] 67)).cell? ⟨W.heap.size,2,none⟩=some (.int .i64 o.value):=az rfl;obtain⟨v3,w3,hrun,hp⟩:=IQ (w0:=(W.alloc (.cells #[.int .i64 o.kind,.int .i64 o.key,.int .i64 o.value] 67)).drew) (w:=(W.alloc (.cells #[.int .i64 o.kind,.int .i64 o.key,.int .i64 o.value] 67)).drew) (W.heap.size+1) (by simp) (hrow.ext (af _).drew) (af _) o (by simp;omega) (by omega);have En:Ext (W.alloc (.cells #[.int .i64 o.kind,.int .i64 o.key,.int .i64 o.value] 67)) ((W.alloc (.cells #[.int .i64 o.kind,.int .i64 o.key,.int .i64 o.value] 67)).alloc (.cells #[.int .i64 o.kind,.int .i64 o.key,.int .i64 o.value] 67)):=(af _).alloc _;have Zq:=En.cell m1;have e1c:=En.cell c1;have Uf:=En.cell q0;have Sr:=En.cell q1;have Sn:=En.cell q2;have GH:=(bF.aO (X:=λk=>r.dQ.ownBlock=some k) (af (W.alloc (.cells #[.int .i64 o.kind,.int .i64 o.key,.int .i64 o.value] 67))).drew).trans (jY (u:=w0) (hrow.ext (af _).drew) hp ((hw0.trans hE).drew) hb0);have hrW:=(H.rows n r t hr ht).2.2;have nq:r.dQ.ownBlock≠some W.heap.size:=λe=>by have:=(l8 hrW e).2;omega
 have nb:r.dQ.ownBlock≠some b:=λe=>by obtain⟨cs,hg⟩:=gG hrow e;obtain⟨cs',fr',hg'⟩:=hty;rw[hg']at hg;injection hg with hg;injection hg with _ e _;exact absurd e (by decide)
 have nM:r.dQ.ownBlock≠some M:=λe=>by obtain⟨cs,hg⟩:=gG hrow e;rw[H1.mb]at hg;injection hg with hg;injection hg with _ e _;exact absurd e (by decide)
 have e3m:=GH.cell (p:=⟨M,1,none⟩) m1 nM;have e3c:=GH.cell (p:=⟨b,off+n*3+1,none⟩) c1 nb;have Sv:=GH.cell (p:=⟨W.heap.size,0,none⟩) q0 nq;have Tv:=GH.cell (p:=⟨W.heap.size,1,none⟩) q1 nq;have TG:=GH.cell (p:=⟨W.heap.size,2,none⟩) q2 nq;have YF:∀i,w3.frozen? ⟨b,i,none⟩=false:=λi=>(GH.frozen (p:=⟨b,i,none⟩) hb nb).trans (hfr i);have aaA:=YF (off+n*3+1);have Y6:=aa YF;clear YF En;obtain⟨g3,c3,hv3,_⟩:=mZ hp.1 (by simp);rw[bN,nI]at hv3;subst hv3;obtain⟨N1,N2⟩:=H1.NJ hr ht (by omega) GH hp.1 hp.2.2.2;have X4:Ext w0 (w3.setCell ⟨b,off+n*3+1,none⟩ (.slice (some ⟨g3,0,none⟩) (t.ops.length+1) c3)):=(bF.out (hw0.trans hE) GH (λi e=>by have:=(l8 hrow e).1;omega)).setCell (by simp;omega) _;obtain⟨bp,op,rfl,hbp,hcp⟩:=HP.head (by have:=(aS.1 hd).1;omega);obtain⟨ovp,d0,d1,hsp⟩:=hcp n d hd;replace d1:=X4.cell d1;obtain⟨Zv,csp,rfl,_⟩:=id hsp;have hpn:n<p.length:=(aS.1 hd).1;have z0:=N1.m0;have z1:=N1.m1;have z2:=dN e3c (.slice (some ⟨g3,0,none⟩) (t.ops.length+1) c3);have HN1:=aa N1;have sw:=aa N2;have Jm:=aa X4;have HKE:=aa (l6.aO hE);clear hcp d0 hsp N1 N2 X4 hp Y6 GH hrW nq nb nM hrow hfr hty H1 H hw0 HP hE hr ht hd hb hbp hbb hb0 hbM hbase;have cz:Hid ((Builtin.append_ #[46,46] 46 #[r.dQ,.slice (some ⟨W.heap.size+1,0,none⟩) 1 1]).run Tryz.prog ((W.alloc (.cells #[.int .i64 o.kind,.int .i64 o.key,.int .i64 o.value] 67)).alloc (.cells #[.int .i64 o.kind,.int .i64 o.key,.int .i64 o.value] 67)).drew=.ok (.slice (some ⟨g3,0,none⟩) (t.ops.length+1) c3) w3):=hrun;clear hrun;go_enter Tryz.func147,Tryz.ntmps147;go_wp2;refine l9 16 (λV=>V.cell? ⟨M,1,none⟩=some (.slice (some ⟨b,off,none⟩) h.length c)/\V.cell? ⟨b,off+n*3+1,none⟩=some r.dQ/\V.cell? ⟨W.heap.size,0,none⟩=some (.int .i64 o.kind)/\V.cell? ⟨W.heap.size,1,none⟩=some (.int .i64 o.key)/\V.cell? ⟨W.heap.size,2,none⟩=some (.int .i64 o.value)) (by kernel_rfl) (by kernel_rfl) ?_;simp only[List.take_succ_cons,rX,List.drop_succ_cons,El];have hHeld:(λV:World=>V.cell? ⟨M,1,none⟩=some (.slice (some ⟨b,off,none⟩) h.length c)/\V.cell? ⟨b,off+n*3+1,none⟩=some r.dQ/\V.cell? ⟨W.heap.size,0,none⟩=some (.int .i64 o.kind)/\V.cell? ⟨W.heap.size,1,none⟩=some (.int .i64 o.key)/\V.cell? ⟨W.heap.size,2,none⟩=some (.int .i64 o.value)) (W.alloc (.cells #[.int .i64 o.kind,.int .i64 o.key,.int .i64 o.value] 67)).drew:=⟨m1,c1,q0,q1,q2⟩;refine iV 0 (.pointer (some ⟨M,0,none⟩)) rfl (aM ⟨by rfl,λV ⟨s1,s2,s3,s4,s5⟩=>by go_simp⟩) hHeld ?_;try go_frame
 refine iV 1 (.pointer (some ⟨M,0,none⟩)) rfl (aM ⟨by rfl,λV ⟨s1,s2,s3,s4,s5⟩=>by go_simp⟩) hHeld ?_;try go_frame
 refine iV 2 (.pointer (some ⟨M,1,none⟩)) rfl (aM ⟨by rfl,λV ⟨s1,s2,s3,s4,s5⟩=>by go_simp⟩) hHeld ?_;try go_frame
 refine iV 3 (.slice (some ⟨b,off,none⟩) h.length c) rfl (aM ⟨by rfl,λV ⟨s1,s2,s3,s4,s5⟩=>by go_simp⟩) hHeld ?_;try go_frame
 refine iV 4 (.int .i64 (n:Int)) rfl (aM ⟨by rfl,λV ⟨s1,s2,s3,s4,s5⟩=>by go_simp⟩) hHeld ?_;try go_frame
 refine iV 5 (.pointer (some ⟨M,0,none⟩)) rfl (aM ⟨by rfl,λV ⟨s1,s2,s3,s4,s5⟩=>by go_simp⟩) hHeld ?_;try go_frame
 refine iV 6 (.pointer (some ⟨M,0,none⟩)) rfl (aM ⟨by rfl,λV ⟨s1,s2,s3,s4,s5⟩=>by go_simp⟩) hHeld ?_;try go_frame
 refine iV 7 (.pointer (some ⟨M,1,none⟩)) rfl (aM ⟨by rfl,λV ⟨s1,s2,s3,s4,s5⟩=>by go_simp⟩) hHeld ?_;try go_frame
 refine iV 8 (.slice (some ⟨b,off,none⟩) h.length c) rfl (aM ⟨by rfl,λV ⟨s1,s2,s3,s4,s5⟩=>by go_simp⟩) hHeld ?_;try go_frame
 refine iV 9 (.int .i64 (n:Int)) rfl (aM ⟨by rfl,λV ⟨s1,s2,s3,s4,s5⟩=>by go_simp⟩) hHeld ?_;try go_frame
 refine iV 10 (.pointer (some ⟨b,off+n*3,none⟩)) rfl (aM ⟨by rfl,λV ⟨s1,s2,s3,s4,s5⟩=>by go_simp⟩) hHeld ?_;try go_frame
 refine iV 11 (.pointer (some ⟨b,off+n*3+1,none⟩)) rfl (aM ⟨by rfl,λV ⟨s1,s2,s3,s4,s5⟩=>by go_simp⟩) hHeld ?_;try go_frame
 refine iV 12 (r.dQ) rfl (aM ⟨by rfl,λV ⟨s1,s2,s3,s4,s5⟩=>by go_simp⟩) hHeld ?_;try go_frame
 refine iV 13 (.agg #[.int .i64 o.kind,.int .i64 o.key,.int .i64 o.value]) rfl (aM ⟨by rfl,λV ⟨s1,s2,s3,s4,s5⟩=>by go_simp⟩) hHeld ?_;try go_frame
 refine aW (rs:=[14]) (by kernel_rfl) (by simp) ?_;refine bM rfl (λK hK=>?_) bX;go_simp;refine hK.out _ _ ?_ (λhH2=>?_)
 ·exact⟨Zq,e1c,Uf,Sr,Sn⟩
 clear hK K;try go_frame
 refine aW (rs:=[15]) (by kernel_rfl) (by simp) ?_;refine bM rfl (λK hK=>?_) bX;refine dY (by rfl) (by rfl) (by rfl) (by rfl) cz.out ?_;refine hK.out _ _ ?_ (λhH3=>?_)
 ·exact⟨e3m,e3c,Sv,Tv,TG⟩
 clear hK K;try go_frame
 refine lg (by kernel_rfl) ?_ _;show wpList _ _ _ _ _ _;clear hHeld hH2 hH3 Zq e1c Uf Sr Sn Sv Tv TG q0 q1 q2 c0 c1 c2 m1;have hres:Hid ((((t.ops.length:Int)+1)==(d.steps.length:Int))=decide (t.ops.length+1=d.steps.length)):=by show _ = _;rw[lH];simp;omega
 have hl0:(0:Int)<=(t.ops.length:Int):=by omega
 have hl1:(t.ops.length:Int)<=6:=by omega
 go_wp2;go_region_held3 (λV=>V.cell? ⟨M,1,none⟩=some (.slice (some ⟨b,off,none⟩) h.length c)/\V.cell? ⟨b,off+n*3+1,none⟩=some (.slice (some ⟨g3,0,none⟩) (t.ops.length+1) c3)/\V.cell? ⟨M,0,none⟩=some (.slice (some ⟨bp,op,none⟩) p.length cp)/\V.cell? ⟨bp,op+n*2+1,none⟩=some (.slice Zv d.steps.length csp)) (go_keep) (fail)
 clear z0 z1 z2 d1;go_wp2;go_returns;exact⟨aU hres.out,Jm.out.drew,HKE.out.trans (sw.out.trans (l6.aO (af _).drew)),_,HN1.out.ext (af _).drew⟩
structure BF (base M:Nat) (pv:Value) (W:World) (hv:Value) (rs:List mo) (h:List aF):Prop where
 mb:W.heap[M]? =some (.cells #[pv,hv] 164 (0,0))
 hl:rs.length=h.length
 hr:Row 48 3 encTxV base W hv rs
 rows:∀(i:Nat) r t,rs[i]? =some r->h[i]? =some t->r.aD=t.aD/\r.done=t.done/\Row 67 3 encOpr base W r.dQ t.ops
 apart:∀(i j:Nat) r r',i<j->rs[i]? =some r->rs[j]? =some r'->∀k,r.dQ.ownBlock=some k->r'.dQ.ownBlock≠some k
theorem BF.done{base M:Nat}{pv hv:Value}{W:World}{rs:List mo}{h:List aF}(H:BF base M pv W hv rs h):sI base M pv W hv rs h:=
 ⟨H.mb,H.hl,H.hr.cell.1,H.hr.cell.2,H.hr.Ng,H.rows,H.apart⟩
theorem BF.ext{base M:Nat}{pv hv:Value}{W W':World}{rs:List mo}{h:List aF}(H:BF base M pv W hv rs h)(b:Ext W W'):BF base M pv W' hv rs h:=
 ⟨(bF.aO (X:=λ_=>False) b).heap H.mb (λh=>h),H.hl,H.hr.ext b,λi r t hr ht=>let ⟨a,b',c⟩:=H.rows i r t hr ht;⟨a,b',c.ext b⟩,H.apart⟩
theorem C9(x:mo)(hx:∃A n c,x.dQ=.slice A n c)(j:Nat):(encTxV x j).oneCell'=true:=by
 obtain⟨A,n,c,e⟩:=hx
 match j with
 | 0=>rfl
 | 1=>show x.dQ.oneCell'=true;rw[e];rfl
 | _+2=>rfl
theorem BF.push{base M:Nat}{pv hv v':Value}{W w3:World}{rs:List mo}{h:List aF}{x:mo}{t:aF}(H:BF base M pv W hv rs h)(hM:hv.ownBlock≠some M)(hp:lF 48 3 encTxV base W w3 hv v' (rs++[x])){u:World}(hu:Ext u W)(hl:u.heap.size<=base)(hrow:Row 67 3 encOpr base W x.dQ t.ops)(hx:x.aD=t.aD/\x.done=t.done)
 (hnew:∀(i:Nat) r,rs[i]? =some r->∀k,r.dQ.ownBlock=some k->x.dQ.ownBlock≠some k):BF base M pv (w3.setCell ⟨M,1,none⟩ v') v' (rs++[x]) (h++[t]):=by
 have P:=jY H.hr hp hu hl;have XQ:=P.heap H.mb hM;have nm:∀{w:World} {v:Value} {xs:List mo},Row 48 3 encTxV base w v xs->w.heap[M]? =some (.cells #[pv,hv] 164 (0,0))->v.ownBlock≠some M:=λhr hm e=>by obtain⟨cs,hg⟩:=gG hr e;rw[hm]at hg;injection hg with hg;injection hg with _ e _;exact absurd e (by decide)
 have nmo:∀{w:World} {v:Value} {xs:List aJ},Row 67 3 encOpr base w v xs->w.heap[M]? =some (.cells #[pv,hv] 164 (0,0))->v.ownBlock≠some M:=λhr hm e=>by obtain⟨cs,hg⟩:=gG hr e;rw[hm]at hg;injection hg with hg;injection hg with _ e _;exact absurd e (by decide)
 have S:bF (λk=>k=M) w3 (w3.setCell ⟨M,1,none⟩ v'):=(bF.refl (λk=>k=M) w3).setCell (p:=⟨M,1,none⟩) (.inl rfl) _;have nvo:∀{v:Value} {xs:List aJ},Row 67 3 encOpr base W v xs->∀k,v.ownBlock=some k->hv.ownBlock≠some k:=λhr k e e'=>by obtain⟨cs,hg⟩:=gG hr e;obtain⟨cs',hg'⟩:=gG H.hr e';rw[hg]at hg';injection hg' with hg';injection hg' with _ e _;exact absurd e (by decide)
 have keep:∀{v:Value} {xs:List aJ},Row 67 3 encOpr base W v xs->Row 67 3 encOpr base (w3.setCell ⟨M,1,none⟩ v') v xs:=λhr=>by have h3:=iw hr P (λk e e'=>nvo hr k e e');exact iw h3 S (λk e e'=>nmo h3 XQ (by rw[e,e']))
 refine⟨?_,by simp[H.hl],?_,?_,?_⟩
 ·simp only[World.setCell,oM,XQ];simp
 ·exact iw hp.1 S (λk e e'=>nm hp.1 XQ (by rw[e,e']))
 ·intro i r y hr hy;rw[oQ]at hr hy;split at hr
  ·rename_i hi;rw[ah (by rw[<-H.hl];exact hi)]at hy;obtain⟨a,b,c⟩:=H.rows i r y hr hy;exact⟨a,b,keep c⟩
  ·rename_i hi;have hi0:i-rs.length=0:=by
    have:=(aS.1 hr).1
    simp at this;omega
   rw[ak (by rw[<-H.hl];exact hi),<-H.hl,hi0]at hy;rw[hi0]at hr;simp at hr hy;subst hr hy;exact⟨hx.1,hx.2,keep hrow⟩
 ·intro i j r r' hij hr hr';rw[oQ]at hr hr';split at hr'
  ·rename_i hj;rw[ah (by omega)]at hr;exact H.apart i j r r' hij hr hr'
  ·rename_i hj;have hj0:j-rs.length=0:=by
    have:=(aS.1 hr').1
    simp at this;omega
   rw[hj0]at hr';simp at hr';subst hr';rw[ah (by omega)]at hr;exact hnew i r hr
theorem Lf:(Tryz.prog.info? 67).map (λi=>(i.zero,i.size,i.bytes))=some (some (.agg #[.int .i64 0,.int .i64 0,.int .i64 0]),3,24):=by kernel_rfl
theorem BK{pv:Value}{p:List dZ}(W:World)(HP:vT W pv p)(Yb:p.length<=4)(hst:∀d∈p,d.steps.length<=4) :
 Calls Tryz.prog 144 #[pv] W λe W'=>∃hv rs,e=.returned (.pointer (some ⟨W.heap.size,0,none⟩))/\sI W.heap.size W.heap.size pv W' hv rs (iD p).h/\Ext W W':=by
 obtain⟨A,c,rfl⟩:=HP.slice;have HPH:=aa HP;have HST:=aa hst;have TN:Hid (BF W.heap.size W.heap.size (.slice A p.length c) (W.alloc (.cells #[.slice A p.length c,.slice none 0 0] 164)) (.slice none 0 0) [] ((iD p).h.take 0)):=
  ⟨dx W _,by simp,Row.nil,λ_ _ _ h=>by simp at h,λ_ _ _ _ _ h=>by simp at h⟩
 have RA:=aa ((af W).alloc (.cells #[.slice A p.length c,.slice none 0 0] 164));clear HP hst;go_enter Tryz.func144,Tryz.ntmps144;go_wp2;go_loopw [11] (λi wr=>Hid (Ext W wr)/\∃k:Nat,k<=p.length/\i=.int .i64 k/\Hid (∃hv rs,BF W.heap.size W.heap.size (.slice A p.length c) wr hv rs ((iD p).h.take k))) (λi _=>p.length-(intOf i).toNat)
 case atStart=>exact⟨RA.out,0,bR _,rfl,_,_,TN.out⟩
 case round=>
  clear TN RA;obtain⟨HB,k,hk,rfl,HI⟩:=hrel;by_cases hlt:k<p.length
  ·obtain⟨b,off,rfl,hbl,hcc⟩:=HPH.out.head (by omega);obtain⟨d,hd⟩:=au hlt;obtain⟨ov,c0,c1,hs⟩:=hcc k d hd;replace c0:=HB.out.cell c0;replace c1:=HB.out.cell c1;obtain⟨As,cs,rfl,_⟩:=id hs;have hd4:=HST.out d (aN hd);obtain⟨hv,rs,H⟩:=HI.out;obtain⟨Ah,ch,rfl,_⟩:=id H.hr.cell.1;have hrl:rs.length<=4:=by rw[H.hl,ig];omega
   have hmk:=fM (P:=Tryz.prog) 46 67 Tryz.underlying46 Lf d.steps.length (by omega) (by omega);have hbase:=HB.out.size;obtain⟨MC,hMC,hMS⟩:∃MC,(∀V:World,(Instr.makeSlice 46 (.int .i64 0) (.int .i64 (d.steps.length:Int))).run Tryz.prog V=.ok (.slice (some ⟨V.heap.size,0,none⟩) 0 d.steps.length) (V.alloc (.cells MC 67)))/\MC.size=d.steps.length*3:=⟨_,hmk,size_madeCells _ _⟩;clear hmk;have b0:Ext wr (wr.alloc (.cells #[.int .i64 d.aD,.slice As d.steps.length cs] 79)):=(af wr).alloc _;have b1:Ext wr ((wr.alloc (.cells #[.int .i64 d.aD,.slice As d.steps.length cs] 79)).alloc (.cells MC 67)).drew:=(((af wr).alloc _).alloc _).drew;have H1:=H.ext b1;have hro:=iX (w:=(wr.alloc (.cells #[.int .i64 d.aD,.slice As d.steps.length cs] 79)).drew) (E:=67) (m:=3) (enc:=encOpr) MC d.steps.length (by unfold maxLen;omega) hMS;rw[show (wr.alloc (.cells #[.int .i64 d.aD,.slice As d.steps.length cs] 79)).drew.heap.size=wr.heap.size+1 from by show (wr.alloc _).heap.size = _;simp]at hro;have Sz:Row 67 3 encOpr W.heap.size ((wr.alloc (.cells #[.int .i64 d.aD,.slice As d.steps.length cs] 79)).alloc (.cells MC 67)).drew (.slice (some ⟨wr.heap.size+1,0,none⟩) 0 d.steps.length) []:=Row.low hro (by omega);obtain⟨v3,w3,hrun,hp⟩:=jQ (wr.heap.size+1+1) (by show ((wr.alloc _).alloc _).heap.size = _;simp) Tryz.underlying23 mX rfl (by omega) H1.hr (af _) (⟨d.aD,.slice (some ⟨wr.heap.size+1,0,none⟩) 0 d.steps.length,false⟩:mo) (C9 _ ⟨_,_,_,rfl⟩) _ rfl (aR hbase b1.size) (by omega) (by omega);have m1:wr.cell? ⟨W.heap.size,1,none⟩=some (.slice Ah rs.length ch):=by simp[World.cell?,H.mb]
   have mf:wr.frozen? ⟨W.heap.size,1,none⟩=false:=by simp[World.frozen?,H.mb]
   have Z9:W.heap.size<wr.heap.size:=(dB.1 H.mb).1;have Vm:(Value.slice Ah rs.length ch).ownBlock≠some W.heap.size:=λe=>by obtain⟨cs',hg⟩:=gG H.hr e;rw[H.mb]at hg;injection hg with hg;injection hg with _ e _;exact absurd e (by decide)
   have Y2:(Value.slice Ah rs.length ch).ownBlock≠some wr.heap.size:=λe=>by have:=(l8 H.hr e).2;omega
   have GH:=jY (u:=W) H1.hr hp (HB.out.trans b1) (ay _);obtain⟨g3,c3,hv3,_⟩:=mZ hp.1 (by simp);rw[bN,nI]at hv3;subst hv3;have HN:=aa (H1.push (t:=⟨d.aD,[],false⟩) Vm hp (HB.out.trans b1) (ay _) Sz ⟨rfl,rfl⟩ (λi r hr k2 hk e=>by
    obtain⟨y,hy⟩:=au (show i<((iD p).h.take k).length by rw[<-H.hl];exact(aS.1 hr).1)
    have:=(l8 (H.rows i r y hr hy).2.2 hk).2
    simp only[Value.ownBlock,Option.some.injEq]at e
    omega))
   have RL:=aa ((bF.out (HB.out.trans b1) GH (λi e=>(l8 H.hr e).1)).setCell (p:=⟨W.heap.size,1,none⟩) (ay _) (.slice (some ⟨g3,0,none⟩) (rs.length+1) c3));have q0:(wr.alloc (.cells #[.int .i64 d.aD,.slice As d.steps.length cs] 79)).cell? ⟨wr.heap.size,0,none⟩=some (.int .i64 d.aD):=az rfl;have q1:(wr.alloc (.cells #[.int .i64 d.aD,.slice As d.steps.length cs] 79)).cell? ⟨wr.heap.size,1,none⟩=some (.slice As d.steps.length cs):=az rfl;have a2:Ext (wr.alloc (.cells #[.int .i64 d.aD,.slice As d.steps.length cs] 79)) (((wr.alloc (.cells #[.int .i64 d.aD,.slice As d.steps.length cs] 79)).alloc (.cells MC 67))):=(af _).alloc _;have a3:Ext (wr.alloc (.cells #[.int .i64 d.aD,.slice As d.steps.length cs] 79)) (((wr.alloc (.cells #[.int .i64 d.aD,.slice As d.steps.length cs] 79)).alloc (.cells MC 67)).alloc (.cells #[.int .i64 d.aD,.slice (some ⟨wr.heap.size+1,0,none⟩) 0 d.steps.length,.bool false] 48)):=((af _).alloc _).alloc _;have hH1:(λV:World=>V.cell? ⟨W.heap.size,1,none⟩=some (.slice Ah rs.length ch)/\V.cell? ⟨wr.heap.size,0,none⟩=some (.int .i64 d.aD)/\V.cell? ⟨wr.heap.size,1,none⟩=some (.slice As d.steps.length cs)) (wr.alloc (.cells #[.int .i64 d.aD,.slice As d.steps.length cs] 79)).drew:=⟨b0.cell m1,q0,q1⟩;have Tq:(λV:World=>V.cell? ⟨W.heap.size,1,none⟩=some (.slice Ah rs.length ch)/\V.cell? ⟨wr.heap.size,0,none⟩=some (.int .i64 d.aD)/\V.cell? ⟨wr.heap.size,1,none⟩=some (.slice As d.steps.length cs)) ((wr.alloc (.cells #[.int .i64 d.aD,.slice As d.steps.length cs] 79)).alloc (.cells MC 67)).drew:=⟨(b0.trans a2).cell m1,a2.cell q0,a2.cell q1⟩;have ZI:(λV:World=>V.cell? ⟨W.heap.size,1,none⟩=some (.slice Ah rs.length ch)/\V.cell? ⟨wr.heap.size,0,none⟩=some (.int .i64 d.aD)/\V.cell? ⟨wr.heap.size,1,none⟩=some (.slice As d.steps.length cs)) (((wr.alloc (.cells #[.int .i64 d.aD,.slice As d.steps.length cs] 79)).alloc (.cells MC 67)).alloc (.cells #[.int .i64 d.aD,.slice (some ⟨wr.heap.size+1,0,none⟩) 0 d.steps.length,.bool false] 48)).drew:=⟨(b0.trans a3).cell m1,a3.cell q0,a3.cell q1⟩;have hHc:(λV:World=>V.cell? ⟨W.heap.size,1,none⟩=some (.slice Ah rs.length ch)/\V.cell? ⟨wr.heap.size,0,none⟩=some (.int .i64 d.aD)/\V.cell? ⟨wr.heap.size,1,none⟩=some (.slice As d.steps.length cs)) w3:=⟨GH.cell (p:=⟨W.heap.size,1,none⟩) Tq.1 Vm,GH.cell (p:=⟨wr.heap.size,0,none⟩) Tq.2.1 Y2,GH.cell (p:=⟨wr.heap.size,1,none⟩) Tq.2.2 Y2⟩;have xf3:w3.frozen? ⟨W.heap.size,1,none⟩=false:=by have h1:=GH.frozen (p:=⟨W.heap.size,1,none⟩) (dJ Z9 b1.size) Vm;rw[h1,b1.frozen (p:=⟨W.heap.size,1,none⟩) Z9];exact mf
   have ZH:=hHc.1;have cz:Hid ((Builtin.append_ #[23,23] 23 #[.slice Ah rs.length ch,.slice (some ⟨wr.heap.size+1+1,0,none⟩) 1 1]).run Tryz.prog (((wr.alloc (.cells #[.int .i64 d.aD,.slice As d.steps.length cs] 79)).alloc (.cells MC 67)).alloc (.cells #[.int .i64 d.aD,.slice (some ⟨wr.heap.size+1,0,none⟩) 0 d.steps.length,.bool false] 48)).drew=.ok (.slice (some ⟨g3,0,none⟩) (rs.length+1) c3) w3):=hrun;have Sj:Hid ((iD p).h.take (k+1)=(iD p).h.take k++[⟨d.aD,[],false⟩]):=aj (by simp[iD,hd]);have HHa:=aa Tq;have Z6:=aa ZI;have ZN:=aa hHc;have Zf:=aa hH1;clear hrun hp GH hro Sz H1 H Vm Y2 m1 mf q0 q1 a2 a3 b0 b1 Tq ZI hHc hH1 hs hd hcc HI;go_wp2;have hHeld:=Zf.out;refine l9 14 (λV:World=>V.cell? ⟨W.heap.size,1,none⟩=some (.slice Ah rs.length ch)/\V.cell? ⟨wr.heap.size,0,none⟩=some (.int .i64 d.aD)/\V.cell? ⟨wr.heap.size,1,none⟩=some (.slice As d.steps.length cs)) (by kernel_rfl) (by kernel_rfl) ?_;simp only[List.take_succ_cons,rX,List.drop_succ_cons,El];refine iV 0 (.pointer (some ⟨W.heap.size,0,none⟩)) rfl (aM ⟨by rfl,λV ⟨s1,s2,s3⟩=>by go_simp⟩) hHeld ?_;try go_frame
   refine iV 1 (.pointer (some ⟨W.heap.size,0,none⟩)) rfl (aM ⟨by rfl,λV ⟨s1,s2,s3⟩=>by go_simp⟩) hHeld ?_;try go_frame
   refine iV 2 (.pointer (some ⟨W.heap.size,0,none⟩)) rfl (aM ⟨by rfl,λV ⟨s1,s2,s3⟩=>by go_simp⟩) hHeld ?_;try go_frame
   refine iV 3 (.pointer (some ⟨W.heap.size,1,none⟩)) rfl (aM ⟨by rfl,λV ⟨s1,s2,s3⟩=>by go_simp⟩) hHeld ?_;try go_frame
   refine iV 4 (.slice Ah rs.length ch) rfl (aM ⟨by rfl,λV ⟨s1,s2,s3⟩=>by go_simp⟩) hHeld ?_;try go_frame
   refine iV 5 (.pointer (some ⟨wr.heap.size,0,none⟩)) rfl (aM ⟨by rfl,λV ⟨s1,s2,s3⟩=>by go_simp⟩) hHeld ?_;try go_frame
   refine iV 6 (.int .i64 d.aD) rfl (aM ⟨by rfl,λV ⟨s1,s2,s3⟩=>by go_simp⟩) hHeld ?_;try go_frame
   refine iV 7 (.pointer (some ⟨wr.heap.size,1,none⟩)) rfl (aM ⟨by rfl,λV ⟨s1,s2,s3⟩=>by go_simp⟩) hHeld ?_;try go_frame
   refine iV 8 (.slice As d.steps.length cs) rfl (aM ⟨by rfl,λV ⟨s1,s2,s3⟩=>by go_simp⟩) hHeld ?_;try go_frame
   refine iV 9 (.int .i64 (d.steps.length:Int)) rfl (aM ⟨by rfl,λV ⟨s1,s2,s3⟩=>by go_simp⟩) hHeld ?_;try go_frame
   refine aW (rs:=[10]) (by kernel_rfl) (by simp) ?_;refine bM rfl (λK hK=>?_) bX;go_simp;refine hK.out _ _ HHa.out (λhH2=>?_);clear hK K;try go_frame
   refine iV 11 (.agg #[.int .i64 d.aD,.slice (some ⟨wr.heap.size+1,0,none⟩) 0 d.steps.length,.bool false]) rfl (aM ⟨by rfl,λV ⟨s1,s2,s3⟩=>by go_simp⟩) hH2 ?_;try go_frame
   refine aW (rs:=[12]) (by kernel_rfl) (by simp) ?_;refine bM rfl (λK hK=>?_) bX;go_simp;refine hK.out _ _ Z6.out (λhH4=>?_);clear hK K;try go_frame
   refine aW (rs:=[13]) (by kernel_rfl) (by simp) ?_;refine bM rfl (λK hK=>?_) bX;refine dY (by rfl) (by rfl) (by rfl) (by rfl) cz.out ?_;refine hK.out _ _ ZN.out (λhH5=>?_);clear hK K;try go_frame
   refine lg (by kernel_rfl) ?_ _;show wpList _ _ _ _ _ _;clear hHeld hH2 hH4 hH5 hMC HHa Z6 ZN Zf cz;go_wp2;go_roundw;case rel=>exact⟨RL.out,k+1,by omega,by go_num,_,_,by rw[Sj.out];exact HN.out⟩
   case measure=>simp[intOf];omega
  ·obtain rfl:k=p.length:=by omega
   obtain⟨hv,rs,H⟩:=HI.out;have HD:=aa H.done;clear H;go_wp2;go_returns;have h1:=HD.out;rw[jZ (by simp[iD])]at h1;exact⟨_,_,rfl,h1,HB.out⟩
def wJ(n s:Nat)(o:aJ):aJ:=if jl o then ⟨o.kind,o.key,10*((n:Int)+1)+(s:Int)+1⟩ else o
def uY(o:aJ):Value:=.agg #[.int .i64 o.kind,.int .i64 o.key,.int .i64 o.value]
theorem NL{base M n:Nat}{pv hv:Value}{W:World}{rs:List mo}{h:List aF}{t:aF}(H:sI base M pv W hv rs h)(ht:h[n]? =some t)(RJ:n<4)(RG:t.ops.length<=6){w0:World}(hw0:Ext w0 W){p:List dZ}{d:dZ}(HP:vT w0 pv p)(hd:p[n]? =some d)(hdl:d.steps.length<=4)(hle:t.ops.length<=d.steps.length) :
 Calls Tryz.prog 145 #[.pointer (some ⟨M,0,none⟩),.int .i64 (n:Int)] W λe W'=>Ext W W'/\(∀o,d.steps[t.ops.length]? =some o->e=.returned (.tuple #[uY (wJ n t.ops.length o),.bool true]))/\(d.steps[t.ops.length]? =none->e=.returned (.tuple #[uY ⟨0,0,0⟩,.bool false])):=by
 obtain⟨Ap,cp,rfl⟩:=HP.slice;obtain⟨A,nn,c,rfl⟩:∃A nn c,hv=.slice A nn c:=by obtain⟨A,c,e,_⟩:=H.hs;exact⟨A,_,c,e⟩
 have hnn:nn=h.length:=by obtain⟨A,c,e,_⟩:=H.hs;injection e with _ e _;rw[e,H.hl]
 subst hnn;have hnl:n<h.length:=(aS.1 ht).1;have hpn:n<p.length:=(aS.1 hd).1;have b0:=(af W).alloc (.cells #[.int .i64 0,.int .i64 0,.int .i64 0] 67);have H1:=H.ext b0;obtain⟨b,off,r,rfl,hb,hbb,hr,c0,c1,c2,hrow,hfr,hty⟩:=H1.at ht;obtain⟨Ao,co,ho,_⟩:=hrow.cell.1;rw[ho]at c1;have m0:=H1.m0;have m1:=H1.m1;obtain⟨bp,op,rfl,hbp,hcp⟩:=HP.head (by omega);obtain⟨ov,d0,d1,hsp⟩:=hcp n d hd;have SE:=hsp.ext (hw0.trans b0);replace d1:=(hw0.trans b0).cell d1;obtain⟨Zv,csp,rfl,Ji⟩:=id SE;have HST:=aa Ji;have HB0:=aa b0;have f4:∀j,(W.alloc (.cells #[.int .i64 0,.int .i64 0,.int .i64 0] 67)).frozen? ⟨W.heap.size,j,none⟩=false:=λj=>iy j rfl;have g0:(W.alloc (.cells #[.int .i64 0,.int .i64 0,.int .i64 0] 67)).cell? ⟨W.heap.size,0,none⟩=some (.int .i64 0):=az rfl;have g1:(W.alloc (.cells #[.int .i64 0,.int .i64 0,.int .i64 0] 67)).cell? ⟨W.heap.size,1,none⟩=some (.int .i64 0):=az rfl;have g2:(W.alloc (.cells #[.int .i64 0,.int .i64 0,.int .i64 0] 67)).cell? ⟨W.heap.size,2,none⟩=some (.int .i64 0):=az rfl;clear hcp d0 hsp SE hrow hfr hty H1 H hw0 HP hb hbp hbb hr c0 c2 b0 Ji ht
 cases hs:d.steps[t.ops.length]? with
 | none=>
   have hle2:=List.getElem?_eq_none_iff.1 hs;have hEq:((t.ops.length:Int)==(d.steps.length:Int))=true:=by simp;omega
   clear hle2 hs hd;go_enter Tryz.func145,Tryz.ntmps145;go_wp2;refine bodyPost_ret (v:=.tuple #[uY ⟨0,0,0⟩,.bool false]) (by simp[results,Tryz.results145,go_sem,uY,az]) rfl ?_;exact⟨HB0.out,λo ho=>(by cases ho),λ_=>rfl⟩
 | some o=>
   have hlt:t.ops.length<d.steps.length:=(aS.1 hs).1;have hEq:((t.ops.length:Int)==(d.steps.length:Int))=false:=by simp;omega
   obtain⟨bs,os,rfl,hbs,hcs⟩:=HST.out (by omega);have k0:=hcs t.ops.length o hs 0 (by omega);have k1:=hcs t.ops.length o hs 1 (by omega);have k2:=hcs t.ops.length o hs 2 (by omega);obtain⟨kd,ky,vl⟩:=o;simp only[encOpr,gL]at k0 k1 k2;have hl0:(0:Int)<=(t.ops.length:Int):=by omega
   have aac:(t.ops.length:Int)<=6:=by omega
   have aal:(n:Int)<4:=by omega
   have hn0:(0:Int)<=(n:Int):=by omega
   have hlt':(t.ops.length:Int)<(d.steps.length:Int):=by omega
   have ZF:Hid (∀(x y:aJ),some x=some y->y=x):=λx y e=>by cases e;rfl
   clear hcs hs hd hbs
   cases hw:jl ⟨kd,ky,vl⟩ with
   | true=>
     have Pq:Hid ((kd==2)=true):=hw;have hsv:Hid (wJ n t.ops.length ⟨kd,ky,vl⟩=⟨kd,ky,10*((n:Int)+1)+(t.ops.length:Int)+1⟩):=by show _ = _;unfold wJ;rw[ah hw]
     clear hw;go_enter Tryz.func145,Tryz.ntmps145;go_wp2_with (go_at_call 87;refine(dD _ _ _ _).mono ?_;rw[Pq.out];rintro e w4 ⟨rfl,rfl⟩)
     refine bodyPost_ret (v:=.tuple #[uY ⟨kd,ky,10*((n:Int)+1)+(t.ops.length:Int)+1⟩,.bool true]) (by simp[results,Tryz.results145,go_sem,uY]) rfl ?_;refine⟨?_,λo' ho'=>?_,λhx=>(by cases hx)⟩
     ·show Below _ _ _;go_grown
     ·rw[ZF.out _ _ ho',hsv.out]
   | false=>
     have Pq:Hid ((kd==2)=false):=hw;have hsv:Hid (wJ n t.ops.length ⟨kd,ky,vl⟩=⟨kd,ky,vl⟩):=by show _ = _;unfold wJ;rw[ak (by rw[hw];decide)]
     clear hw;go_enter Tryz.func145,Tryz.ntmps145;go_wp2_with (go_at_call 87;refine(dD _ _ _ _).mono ?_;rw[Pq.out];rintro e w4 ⟨rfl,rfl⟩)
     refine bodyPost_ret (v:=.tuple #[uY ⟨kd,ky,vl⟩,.bool true]) (by simp[results,Tryz.results145,go_sem,uY]) rfl ?_;refine⟨?_,λo' ho'=>?_,λhx=>(by cases hx)⟩
     ·show Below _ _ _;go_grown
     ·rw[ZF.out _ _ ho',hsv.out]
theorem Gu{M:Nat}{hv:Value}{h:List aF}(W:World)(m1:W.cell? ⟨M,1,none⟩=some hv)(hh:Calls Tryz.prog 24 #[hv] W (qc W h)) :
 Calls Tryz.prog 149 #[.pointer (some ⟨M,0,none⟩)] W (qc W h):=by
 have HH:=aa hh;clear hh;go_enter Tryz.func149,Tryz.ntmps149;go_wp2_with fail
 refine HH.out.mono ?_;rintro e w1 ⟨v,rs,rfl,h1,h2,b1⟩;have H1:=aa h1;have H2:=aa h2;obtain⟨A,c,rfl,_⟩:=id h1.2.1;clear h1 h2;go_wp2;go_returns;exact⟨_,rs,rfl,H1.out,H2.out,b1⟩
theorem Ns(t:aF)(ov:Value)(s:jk)(key:Nat)(W:World)(hk:key<3)(hops:aI 3 encOpr W ov t.ops)(hl:t.ops.length<=6) :
 Calls Tryz.prog 146 #[sM t ov,Md s,.int .i64 (key:Int)] W λe W'=>e=.returned (.int .i64 (fH t.ops s (key:Int)))/\Ext W W':=by
 obtain⟨se,ops,dn⟩:=t;simp only at hops hl ⊢;have b0:Ext W ((W.alloc (.cells #[.int .i64 se,ov,.bool dn] 48)).alloc (.cells #[.int .i64 (s 0),.int .i64 (s 1),.int .i64 (s 2)] 160)):=((af W).alloc _).alloc _;have R6:=aa (iY se dn _ (hops.ext b0) (by omega));have hz:(W.alloc (.cells #[.int .i64 se,ov,.bool dn] 48)).heap.size=W.heap.size+1:=by simp
 have hst:=zK (W.alloc (.cells #[.int .i64 se,ov,.bool dn] 48)) s 160;rw[hz]at hst;have HST:=aa hst;have HB0:=aa b0;obtain⟨A,c,rfl,_⟩:=id hops;obtain⟨R,hR⟩:∃R,fH ops s (key:Int)=R:=⟨_,rfl⟩;have HR:=aa hR;rw[hR];obtain⟨L,hL⟩:∃L,aV ops=L:=⟨_,rfl⟩;have Ye:=R6.out;rw[hL]at Ye;have Q8:=aa Ye;have JP:=aa hL;have hl3:L.length<=3:=by rw[<-hL];exact kR ops▸nD ops 3
 have hk0:(0:Int)<=(key:Int):=by omega
 have hk3:(key:Int)<3:=by omega
 clear hops b0 hz hst hR hL Ye R6;unfold Md;show Calls Tryz.prog 146 #[.agg #[.int .i64 se,.slice A ops.length c,.bool dn],.agg #[.int .i64 (s 0),.int .i64 (s 1),.int .i64 (s 2)],.int .i64 (key:Int)] W _;go_enter Tryz.func146,Tryz.ntmps146;go_wp2_with fail
 refine Q8.out.mono ?_;rintro e w1 ⟨v,rfl,hrow,b1⟩;obtain⟨Al,cl,rfl,hc0⟩:=id hrow.cell.1;have HC:=aa hc0;have hbb:=HB0.out.trans b1;have HS1:=aa (HST.out.ext b1);clear hrow hc0 b1 HST;go_wp2;go_loopw [12] (λi wr=>Ext W wr/\Ext w1 wr/\∃k:Nat,k<=L.length/\i=.int .i64 k/\Hid (∀(j:Nat) x,j<k->L[j]? =some x->x.key≠(key:Int))) (λi _=>L.length-(intOf i).toNat)
 case atStart=>exact⟨hbb,af _,0,bR _,rfl,λ_ _ h=>absurd h (oF _)⟩
 case round=>
  clear hbb;obtain⟨hb,hb1,k,hk',rfl,HK⟩:=hrel;by_cases hlt:k<L.length
  ·obtain⟨b,off,rfl,hbl,hcell⟩:=HC.out (by omega);obtain⟨x,hx⟩:=au hlt;have c0:=hb1.cell (hcell k x hx 0 (by omega));have c1:=hb1.cell (hcell k x hx 1 (by omega));have c2:=hb1.cell (hcell k x hx 2 (by omega));simp only[encOpr,gL]at c0 c1 c2;have Hx:=aa hx;clear hcell hx;by_cases hkk:x.key=(key:Int)
   ·have hd:(x.key==(key:Int))=true:=by simp[hkk]
    have hf:Hid (x.value=R):=by show _ = _;rw[<-HR.out];have hm:=aN Hx.out;rw[<-JP.out,gY]at hm;unfold fH;rw[<-hkk,hm.2];rfl
    clear hkk;go_wp2;go_returns;exact⟨dH hf.out,hb.alloc _⟩
   ·have hd:(x.key==(key:Int))=false:=by simpa using hkk
    have HKK:=aa hkk;clear hkk;go_wp2;go_roundw;case rel=>exact⟨hb.alloc _,hb1.alloc _,k+1,by omega,by go_num,λj y hj hy=>by
     by_cases e:j=k
     ·subst e;rw[Hx.out]at hy;cases hy;exact HKK.out
     ·exact HK.out j y (by omega) hy⟩
    case measure=>simp[intOf];omega
  ·obtain rfl:k=L.length:=by omega
   have hf:Hid (s (key:Int)=R):=by
    show _ = _;rw[<-HR.out];unfold fH
    cases hl:dm ops (key:Int) with
    | none=>rfl
    | some o=>
      exfalso;have hok:=rY hl;have hm:o∈aV ops:=gY.2 ⟨by omega,by rw[hok];exact hl⟩;rw[JP.out]at hm;obtain⟨j,hj,he⟩:=jw hm;exact HK.out j o hj (by rw[dz hj,he]) hok
   have cs:=hb1.cell (HS1.out.2 key hk);go_wp2;go_returns;exact⟨dH hf.out,hb⟩
theorem sI.QN{base M n:Nat}{pv:Value}{W:World}{b off nn c:Nat}{rs:List mo}{h:List aF}{r:mo}{t:aF}(H:sI base M pv W (.slice (some ⟨b,off,none⟩) nn c) rs h)(hr:rs[n]? =some r)(ht:h[n]? =some t)(hnn:0<nn) :
 sI base M pv (W.setCell ⟨b,off+n*3+2,none⟩ (.bool true)) (.slice (some ⟨b,off,none⟩) nn c) (rs.set n ⟨r.aD,r.dQ,true⟩) (h.set n ⟨t.aD,t.ops,true⟩)/\l6 W (W.setCell ⟨b,off+n*3+2,none⟩ (.bool true)):=by
 obtain⟨e1,e2,hrow⟩:=H.rows n r t hr ht;obtain⟨U1,Uq,hgb⟩:=H.hi _ _ _ rfl hnn;simp only at hgb;have nM:M≠b:=λe=>by
  subst e
  have:=H.mb
  rw[hgb]at this;injection this with this;injection this with _ e _;exact absurd e (by decide)
 have S:bF (λk=>k=b) W (W.setCell ⟨b,off+n*3+2,none⟩ (.bool true)):=(bF.refl (λk=>k=b) W).setCell (p:=⟨b,off+n*3+2,none⟩) (.inl rfl) _;have hn:n<rs.length:=(aS.1 hr).1;have keep:∀{v:Value} {xs:List aJ},Row 67 3 encOpr base W v xs->Row 67 3 encOpr base (W.setCell ⟨b,off+n*3+2,none⟩ (.bool true)) v xs:=λhro=>iw hro S (λj e hj=>by obtain⟨cs,hg⟩:=gG hro e;rw[hj,hgb]at hg;injection hg with hg;injection hg with _ e _;exact absurd e (by decide))
 refine⟨⟨S.heap H.mb nM,by rw[jO,jO];exact H.hl,?_,?_,?_,?_,?_⟩,l6.IY S (λk hk=>by subst hk;exact⟨U1,_,Uq,hgb,.inl rfl⟩)⟩
 ·exact CG H.hs hn (by omega) ⟨r.aD,r.dQ,true⟩ (λx hx i hi hne=>by
   rw[hr]at hx;cases hx
   match i,hi with
   | 0,_=>rfl
   | 1,_=>rfl
   | 2,_=>exact absurd rfl hne)
 ·intro a n' c' e hn';obtain⟨x1,x2,x3⟩:=H.ho a n' c' e hn';refine⟨x1,by simpa[World.setCell] using x2,λi=>?_⟩;have h0:(0:Nat)<1:=by omega
  have:=(Only.setCell (a:=⟨b,0,none⟩) (n:=1) (c:=1) (w:=W) h0 (off+n*3+2) (.bool true)).sD ⟨a.block,i,none⟩ x2
  rw[this];exact x3 i
 ·intro a n' c' e hn';injection e with e _ _;injection e with e;subst e;refine⟨U1.setIfInBounds (off+n*3+2) (.bool true),Uq,?_⟩;simp only[World.setCell,oM,hgb];simp
 ·intro i x y hx hy;rw[kF]at hx hy;by_cases hi:n=i
  ·subst hi;rw[ah rfl,ah hn]at hx;rw[ah rfl,ah (by rw[<-H.hl];exact hn)]at hy;cases hx;cases hy;exact⟨e1,rfl,keep hrow⟩
  ·rw[ak hi]at hx hy;obtain⟨d1,d2,d3⟩:=H.rows i x y hx hy;exact⟨d1,d2,keep d3⟩
 ·intro i j x y hij hx hy k hk;have old:∀(i:Nat) (x:mo),(rs.set n ⟨r.aD,r.dQ,true⟩)[i]? =some x->∃z,rs[i]? =some z/\z.dQ=x.dQ:=λi x hx=>by
   rw[kF]at hx;by_cases hi:n=i
   ·subst hi;rw[ah rfl,ah hn]at hx;cases hx;exact⟨r,hr,rfl⟩
   ·rw[ak hi]at hx;exact⟨x,hx,rfl⟩
  obtain⟨x',hx',ex⟩:=old i x hx;obtain⟨y',hy',ey⟩:=old j y hy;rw[<-ex]at hk;rw[<-ey];exact H.apart i j x' y' hij hx' hy' k hk
def TW(T:TypeId)(w:World)(g N:Nat)(f:Nat->Int):Prop:=∃cs,w.heap[g]? =some (.cells cs T (0,0))/\cs.size=N/\∀o,o<N->cs[o]? =some (.int .i64 (f o))
theorem TW.cell{T:TypeId}{w:World}{g N o:Nat}{f:Nat->Int}(h:TW T w g N f)(ho:o<N):w.cell? ⟨g,o,none⟩=some (.int .i64 (f o)):=by obtain⟨cs,h1,h2,h3⟩:=h;simp only[World.cell?,h1];exact h3 o ho
theorem TW.free{T:TypeId}{w:World}{g N:Nat}{f:Nat->Int}(h:TW T w g N f)(o:Nat):w.frozen? ⟨g,o,none⟩=false:=by obtain⟨cs,h1,h2,h3⟩:=h;simp[World.frozen?,h1]
theorem TW.lt{T:TypeId}{w:World}{g N:Nat}{f:Nat->Int}(h:TW T w g N f):g<w.heap.size:=by
 obtain⟨cs,h1,h2,h3⟩:=h
 exact(dB.1 h1).1
theorem TW.ext{T:TypeId}{w w':World}{g N:Nat}{f:Nat->Int}(h:TW T w g N f)(b:Ext w w'):TW T w' g N f:=by obtain⟨cs,h1,h2,h3⟩:=h;exact⟨cs,(bF.aO (X:=λ_=>False) b).heap h1 (λh=>h),h2,h3⟩
theorem TW.qA{T:TypeId}{w w':World}{g N:Nat}{f:Nat->Int}(h:TW T w g N f)(b:l6 w w')(h1:T≠48)(h2:T≠67):TW T w' g N f:=by obtain⟨cs,g1,g2,g3⟩:=h;exact⟨cs,(b.2 g cs T _ g1 h1 h2).trans g1,g2,g3⟩
theorem TW.other{T:TypeId}{w:World}{g N:Nat}{f:Nat->Int}(h:TW T w g N f){a:Addr}(hne:a.block≠g)(u:Value):TW T (w.setCell a u) g N f:=by obtain⟨cs,h1,h2,h3⟩:=h;exact⟨cs,(Below.heap_setCell _ _ _ _ (λe=>hne e.symm)).trans h1,h2,h3⟩
theorem TW.set{T:TypeId}{w:World}{g N j:Nat}{f f':Nat->Int}(h:TW T w g N f)(hj:j<N)(hf:∀o,o≠j->f' o=f o):TW T (w.setCell ⟨g,j,none⟩ (.int .i64 (f' j))) g N f':=by
 obtain⟨cs,h1,h2,h3⟩:=h;refine⟨cs.setIfInBounds j (.int .i64 (f' j)),?_,by simpa using h2,λo ho=>?_⟩
 ·simp only[World.setCell,oM,h1];simp
 ·rw[Array.getElem?_setIfInBounds];by_cases e:j=o
  ·subst e;rw[ah rfl,ah (by omega)]
  ·rw[ak e,hf o (λh=>e h.symm)];exact h3 o ho
theorem TW.made(w:World)(T:TypeId)(cs:Array Value)(f:Nat->Int)(k N:Nat)(hk:w.heap.size=k)(hs:cs.size=N)(hc:∀o,o<N->cs[o]? =some (.int .i64 (f o))):TW T (w.alloc (.cells cs T)) k N f:=by subst hk;exact⟨cs,dx w _,hs,hc⟩
def fS(s:jk)(o:Nat):Int:=s (o:Int)
def fK(f:Nat->jk)(o:Nat):Int:=f (o/3) ((o%3:Nat):Int)
theorem ML{s:jk}{q:Nat}{v:Int}(o:Nat)(h:o≠q):fS (s.put (q:Int) v) o=fS s o:=by unfold fS jk.put;rw[ak (by omega)]
theorem PD{s:jk}{q:Nat}{v:Int}:fS (s.put (q:Int) v) q=v:=by unfold fS jk.put;rw[ah rfl]
