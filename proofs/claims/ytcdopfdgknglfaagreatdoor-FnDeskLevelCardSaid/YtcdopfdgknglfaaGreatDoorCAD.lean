/- Lemmas. -/
import Derived.Test.YtcdopfdgknglfaaGreatDoorCAB
import Derived.Test.YtcdopfdgknglfaaGreatDoorCAC
import Derived.Laws.StructEq
set_option maxHeartbeats 16000000
set_option maxRecDepth 8000
set_option linter.all false
namespace Go.Proofs.YtcdopfdgknglfaaGreatDoor
open Go.RowKit
def KP(u:Value):Value:=u
theorem JJ{α β:Type}{e e':TypeId}{m m':Nat}{enc:α->Nat->Value}{enc':β->Nat->Value}{base base':Nat}{w:World}{v u:Value}{xs:List α}{ys:List β}
 (h:Row e m enc base w v xs) (h':Row e' m' enc' base' w u ys) (hne:e≠e'):u.ownBlock=none∨u.ownBlock≠v.ownBlock:=by
 rcases h.2 with ⟨rfl,_⟩|⟨g,cap,cur,rfl,hb,hg,_⟩
 ·cases u.ownBlock with
  | none=>exact .inl rfl
  | some k=>exact .inr (by simp[Value.ownBlock])
 ·rcases h'.2 with ⟨rfl,_⟩|⟨g',cap',cur',rfl,hb',hg',_⟩
  ·exact .inl rfl
  ·right;intro e;simp[Value.ownBlock]at e;subst e;rw[hg]at hg';injection hg' with hg';injection hg' with _ h2 _;exact hne h2
theorem az{w:World}{cs:Array Value}{T:TypeId}{j:Nat}{v:Value}(h:cs[j]? =some v):(w.alloc (.cells cs T)).cell? ⟨w.heap.size,j,none⟩=some v:=by rw[cell_of_row _ _ j _ T (0,0) (dx w _)];exact h
theorem jF{w:World}{cs:Array Value}{T:TypeId}{j k:Nat}{v:Value}(hk:w.heap.size=k)(h:cs[j]? =some v):(w.alloc (.cells cs T)).cell? ⟨k,j,none⟩=some v:=hk▸az h
theorem iy{w:World}{cs:Array Value}{T:TypeId}{k:Nat}(j:Nat)(hk:w.heap.size=k):(w.alloc (.cells cs T)).frozen? ⟨k,j,none⟩=false:=by subst hk;simp only[World.frozen?,dx];simp
theorem qw(W:World)(a:Addr)(v:Value):W.grownBy (W.setCell a v) (some a.block):=
 ⟨rfl,rfl,rfl,by simp[World.setCell],λk _ hk=>Below.heap_setCell _ _ _ k (λe=>hk (by rw[e]))⟩
theorem Row.Pf{α:Type}{e:TypeId}{m:Nat}{enc:α->Nat->Value}{base:Nat}{w:World}{v:Value}{xs:List α}(h:Row e m enc base w v xs){a:Addr}(ha:a.block<base)(u:Value):Row e m enc base (w.setCell a u) v xs:=by
 refine World.ownsRow.kept h (qw w a u) ?_
 cases hv:v.ownBlock with
 | none=>exact .inl rfl
 | some k=>exact .inr (λe=>by cases e;have:=h.block _ hv;omega)
structure mo where
 aD:Int
 dQ:Value
 done:Bool
def encTxV(x:mo):Nat->Value
 | 0=>.int .i64 x.aD
 | 1=>x.dQ
 | _=>.bool x.done
def qM(v:Value):Prop:=∀A n c,v=.slice A n c->n<=c/\c<=9223372036854775807
theorem jP{A:Option Addr}{n c:Nat}(h:n<=c)(h2:c<=9223372036854775807):qM (.slice A n c):=λ_ _ _ e=>by cases e;exact⟨h,h2⟩
def xQ(w:World)(r:mo)(t:aF):Prop:=r.aD=t.aD/\r.done=t.done/\aI 3 encOpr w r.dQ t.ops/\qM r.dQ
def xE(w:World)(v:Value)(rs:List mo)(h:List aF):Prop:=
 rs.length=h.length/\aI 3 encTxV w v rs/\∀(i:Nat) r t,rs[i]? =some r->h[i]? =some t->xQ w r t
def lV(w:World)(v:Value)(h:List aF):Prop:=∃rs,xE w v rs h
theorem xQ.ext{w w':World}{r:mo}{t:aF}(h:xQ w r t)(hb:Ext w w'):xQ w' r t:=⟨h.1,h.2.1,h.2.2.1.ext hb,h.2.2.2⟩
theorem xE.ext{w w':World}{v:Value}{rs:List mo}{h:List aF}(H:xE w v rs h)(hb:Ext w w'):xE w' v rs h:=
 ⟨H.1,H.2.1.ext hb,λi r t hr ht=>(H.2.2 i r t hr ht).ext hb⟩
theorem lV.ext{w w':World}{v:Value}{h:List aF}(H:lV w v h)(hb:Ext w w'):lV w' v h:=let ⟨rs,H⟩:=H;⟨rs,H.ext hb⟩
theorem lV.slice{w:World}{v:Value}{h:List aF}(H:lV w v h):∃A c,v=.slice A h.length c:=by obtain⟨rs,h1,⟨A,c,rfl,_⟩,_⟩:=H;exact⟨A,c,by rw[h1]⟩
theorem lV.PZ{w:World}{A:Option Addr}{n c:Nat}{h:List aF}(H:lV w (.slice A n c) h)(hn:0<h.length) :
 ∃b off,A=some ⟨b,off,none⟩/\b<w.heap.size/\∀(k:Nat) t,h[k]? =some t->∃ov,w.cell? ⟨b,off+k*3,none⟩=some (.int .i64 t.aD)/\w.cell? ⟨b,off+k*3+1,none⟩=some ov/\w.cell? ⟨b,off+k*3+2,none⟩=some (.bool t.done)/\aI 3 encOpr w ov t.ops/\qM ov:=by
 obtain⟨rs,h1,⟨A',c',hA,hc⟩,h3⟩:=H;injection hA with e1 e2 e3;subst e1;obtain⟨b,off,rfl,hb,hc⟩:=hc (by omega);refine⟨b,off,rfl,hb,λk t ht=>?_⟩;obtain⟨r,hr⟩:=au (show k<rs.length by rw[h1];exact(aS.1 ht).1);obtain⟨e1,e2,hs,hcp⟩:=h3 k r t hr ht;refine⟨r.dQ,?_,?_,?_,hs,hcp⟩
 ·have:=hc k r hr 0 (by omega);rw[<-e1];exact this
 ·exact hc k r hr 1 (by omega)
 ·have:=hc k r hr 2 (by omega);rw[<-e2];exact this
theorem lV.head{w:World}{A:Option Addr}{n c:Nat}{h:List aF}(H:lV w (.slice A n c) h)(hn:0<h.length) :
 ∃b off,A=some ⟨b,off,none⟩/\b<w.heap.size/\∀(k:Nat) t,h[k]? =some t->∃ov,w.cell? ⟨b,off+k*3,none⟩=some (.int .i64 t.aD)/\w.cell? ⟨b,off+k*3+1,none⟩=some ov/\w.cell? ⟨b,off+k*3+2,none⟩=some (.bool t.done)/\aI 3 encOpr w ov t.ops:=
 let ⟨b,off,h1,h2,h3⟩:=H.PZ hn
 ⟨b,off,h1,h2,λk t ht=>let ⟨ov,c0,c1,c2,hs,_⟩:=h3 k t ht;⟨ov,c0,c1,c2,hs⟩⟩
theorem lV.nil(w:World)(A:Option Addr)(c:Nat):lV w (.slice A 0 c) []:=⟨[],rfl,aI.nil _ _ _ _ _,λ_ _ _ h=>by simp at h⟩
def vV(lo:Nat)(w:World)(v:Value)(rs:List mo):Prop:=
 Own lo w v/\(∀(i:Nat) r,rs[i]? =some r->Own lo w r.dQ/\Apart v r.dQ)/\∀(i j:Nat) r r',i<j->rs[i]? =some r->rs[j]? =some r'->Apart r.dQ r'.dQ
theorem vV.mono{lo lo':Nat}{w:World}{v:Value}{rs:List mo}(h:vV lo w v rs)(hl:lo'<=lo):vV lo' w v rs:=
 ⟨h.1.mono hl,λi r hr=>⟨(h.2.1 i r hr).1.mono hl,(h.2.1 i r hr).2⟩,h.2.2⟩
def qc(w:World)(h:List aF)(e:Ending)(w':World):Prop:=
 ∃v rs,e=.returned v/\xE w' v rs h/\vV w.heap.size w' v rs/\Ext w w'
def fT(I:TypeId)(w:World)(u:Value):Prop:=∀a n c,u=.slice (some a) n c->0<n->∃cs fr,w.heap[a.block]? =some (.cells cs I fr)
theorem fT.ext{I:TypeId}{w w':World}{u:Value}(h:fT I w u)(hb:Ext w w'):fT I w' u:=λa n c hu hn=>by obtain⟨cs,fr,hg⟩:=h a n c hu hn;exact⟨cs,fr,(Below.block hb _ (dB.1 hg).1).trans hg⟩
theorem Row.Ng{α:Type}{e:TypeId}{m:Nat}{enc:α->Nat->Value}{base:Nat}{w:World}{v:Value}{xs:List α}(h:Row e m enc base w v xs):fT e w v:=by
 intro a n c hv hn;rcases h.2 with ⟨rfl,_⟩|⟨g,cap,cur,rfl,hb,hg,_⟩
 ·cases hv
 ·injection hv with h1 _ _;injection h1 with h1;subst h1;exact⟨cur,_,hg⟩
theorem Row.far{α:Type}{e I:TypeId}{m:Nat}{enc:α->Nat->Value}{base:Nat}{w:World}{v u:Value}{xs:List α}(h:Row e m enc base w v xs)(hu:fT I w u)(hne:e≠I) :
 ∀a n c,u=.slice (some a) n c->0<n->v.ownBlock≠some a.block:=by
 intro a n c e1 hn e2;rcases h.2 with ⟨rfl,_⟩|⟨g,cap,cur,rfl,hb,hg,_⟩
 ·simp[Value.ownBlock]at e2
 ·simp[Value.ownBlock]at e2;obtain⟨cs,fr,hx⟩:=hu a n c e1 hn;rw[<-e2,hg]at hx;injection hx with hx;injection hx with _ h2 _;exact hne h2
theorem rD{w w':World}{row:Option Nat}(hg:w.grownBy w' row){k:Nat}(hk:k<w.heap.size)(hr:row≠some k):w'.heap[k]? =w.heap[k]?:=hg.block k hk (λe=>hr e.symm)
theorem aI.grown{α:Type}{m:Nat}{enc:α->Nat->Value}{w w':World}{u:Value}{xs:List α}{row:Option Nat}(h:aI m enc w u xs)(hg:w.grownBy w' row)(hr:∀a n c,u=.slice (some a) n c->0<n->row≠some a.block):aI m enc w' u xs:=by obtain⟨A,c,hA,h⟩:=h;refine⟨A,c,hA,λhn=>?_⟩;obtain⟨b,off,hb,hlt,hc⟩:=h hn;subst hb;exact⟨b,off,rfl,dJ hlt hg.size,λi x hx j hj=>by rw[<-hc i x hx j hj];simp only[World.cell?,rD hg hlt (hr _ _ _ hA hn)]⟩
theorem Own.grown{lo:Nat}{w w':World}{u:Value}{row:Option Nat}(h:Own lo w u)(hg:w.grownBy w' row)(hr:∀a n c,u=.slice (some a) n c->0<n->row≠some a.block):Own lo w' u:=by intro a n c hu hn;obtain⟨h1,h2,h3⟩:=h a n c hu hn;exact⟨h1,dJ h2 hg.size,λi=>by rw[<-h3 i];simp only[World.frozen?,rD hg h2 (hr a n c hu hn)]⟩
theorem fT.grown{I:TypeId}{w w':World}{u:Value}{row:Option Nat}(h:fT I w u)(hg:w.grownBy w' row)(hr:∀a n c,u=.slice (some a) n c->0<n->row≠some a.block):fT I w' u:=λa n c hu hn=>by obtain⟨cs,fr,hx⟩:=h a n c hu hn;exact⟨cs,fr,(rD hg (dB.1 hx).1 (hr a n c hu hn)).trans hx⟩
def uN(E I:TypeId)(base:Nat)(w:World)(v:Value)(rs:List mo)(h:List aF):Prop:=
 rs.length=h.length/\Row E 3 encTxV base w v rs/\(∀(i:Nat) r t,rs[i]? =some r->h[i]? =some t->xQ w r t/\Own base w r.dQ/\fT I w r.dQ)/\∀(i j:Nat) r r',i<j->rs[i]? =some r->rs[j]? =some r'->Apart r.dQ r'.dQ
theorem uN.ext{E I:TypeId}{base:Nat}{w w':World}{v:Value}{rs:List mo}{h:List aF}(H:uN E I base w v rs h)(hb:Ext w w'):uN E I base w' v rs h:=
 ⟨H.1,H.2.1.ext hb,λi r t hr ht=>let ⟨a,b,c⟩:=H.2.2.1 i r t hr ht;⟨a.ext hb,b.ext hb,c.ext hb⟩,H.2.2.2⟩
theorem uN.push{E I:TypeId}(YW:E≠I){base:Nat}{w0 w w':World}{v v':Value}{rs:List mo}{h:List aF}{r:mo}{t:aF}(h0:uN E I base w0 v rs h)(hx:Ext w0 w)(hu:xQ w r t)(ho:Own w0.heap.size w r.dQ)(hi:fT I w r.dQ)(hb:base<=w0.heap.size)
 (hrow:Row E 3 encTxV base w' v' (rs++[r])) (hg:w.grownBy w' v.ownBlock):uN E I base w' v' (rs++[r]) (h++[t]):=by
 have H:=h0.ext hx;have keep:∀(r:mo) t,xQ w r t->Own base w r.dQ->fT I w r.dQ->xQ w' r t/\Own base w' r.dQ/\fT I w' r.dQ:=λr t a b c=>
  have hr:=H.2.1.far c YW
  ⟨⟨a.1,a.2.1,a.2.2.1.grown hg hr,a.2.2.2⟩,b.grown hg hr,c.grown hg hr⟩
 refine⟨by simp[H.1],hrow,λi y s hy hs=>?_,λi j y y' hij hy hy'=>?_⟩
 ·rw[oQ]at hy hs;split at hy
  ·rename_i hi';rw[ah (by rw[<-H.1];exact hi')]at hs;obtain⟨a,b,c⟩:=H.2.2.1 i y s hy hs;exact keep _ _ a b c
  ·rename_i hi';rw[ak (by rw[<-H.1];exact hi')]at hs;have hi0:i-rs.length=0:=by
    have:=(aS.1 hy).1
    simp at this;omega
   rw[hi0]at hy;rw[<-H.1,hi0]at hs;simp at hy hs;subst hy hs;exact keep _ _ hu (ho.mono hb) hi
 ·rw[oQ]at hy hy';split at hy'
  ·rename_i hj;rw[ah (by omega)]at hy;exact H.2.2.2 i j y y' hij hy hy'
  ·rename_i hj;have hj0:j-rs.length=0:=by
    have:=(aS.1 hy').1
    simp at this;omega
   rw[hj0]at hy';simp at hy';subst hy';rw[ah (by omega)]at hy;obtain⟨s,hs⟩:=au (show i<h.length by rw[<-H.1];exact(aS.1 hy).1);exact aI.apart (h0.2.2.1 i y s hy hs).1.2.2.1 ho
theorem uN.done{E I:TypeId}(YW:E≠I){base:Nat}{w:World}{v:Value}{rs:List mo}{h:List aF}(H:uN E I base w v rs h):xE w v rs h/\vV base w v rs:=by
 refine⟨⟨H.1,H.2.1.cell.1,λi r t hr ht=>(H.2.2.1 i r t hr ht).1⟩,H.2.1.cell.2,λi r hr=>?_,H.2.2.2⟩;obtain⟨t,ht⟩:=au (show i<h.length by rw[<-H.1];exact(aS.1 hr).1);obtain⟨a,b,c⟩:=H.2.2.1 i r t hr ht;refine⟨b,λx n c' y m d hx hy hn hm e=>?_⟩
 have:=H.2.1.far c YW y m d hy hm
 subst hx;exact this (by simp[Value.ownBlock,e])
theorem dL(a b c:Int)(w:World) :
 Calls Tryz.prog 118 #[.agg #[.int .i64 a,.int .i64 b,.int .i64 c]] w λe w'=>e=.returned (.bool (a==1))/\w.alloc (.cells #[.int .i64 a,.int .i64 b,.int .i64 c] 67)=w':=by
 by_cases h:(a==1)=true
 ·rw[h];go_enter Tryz.func118,Tryz.ntmps118;go_wp2;go_returns;exact⟨rfl,rfl⟩
 ·simp only[Bool.not_eq_true]at h;rw[h];go_enter Tryz.func118,Tryz.ntmps118;go_wp2;go_returns;exact⟨rfl,rfl⟩
theorem dD(a b c:Int)(w:World) :
 Calls Tryz.prog 87 #[.agg #[.int .i64 a,.int .i64 b,.int .i64 c]] w λe w'=>e=.returned (.bool (a==2))/\w.alloc (.cells #[.int .i64 a,.int .i64 b,.int .i64 c] 67)=w':=by
 by_cases h:(a==2)=true
 ·rw[h];go_enter Tryz.func87,Tryz.ntmps87;go_wp2;go_returns;exact⟨rfl,rfl⟩
 ·simp only[Bool.not_eq_true]at h;rw[h];go_enter Tryz.func87,Tryz.ntmps87;go_wp2;go_returns;exact⟨rfl,rfl⟩
theorem qd(o:aJ)(w:World) :
 Calls Tryz.prog 82 #[fZ o] w λe w'=>e=.returned (.bool (jm o))/\Ext w w':=by
 obtain⟨a,b,c⟩:=o;have hf:Hid (jm ⟨a,b,c⟩=((a==1 || a==2)&&kV b 0 2&&kV c 0 99 && !(a==2&&c==0))):=rfl;rw[hf.out];clear hf;show Calls Tryz.prog 82 #[.agg #[.int .i64 a,.int .i64 b,.int .i64 c]] w _;cases h1:(a==1)<;>cases h2:(a==2)<;>cases h3:kV b 0 2<;>cases h4:kV c 0 99<;>cases h5:(c==0)<;>(
  first
  | (exfalso;simp at h1 h2;omega)
  | (
   go_enter Tryz.func82,Tryz.ntmps82
   go_wp2_with (first
    | (go_at_call 118;refine(dL _ _ _ _).mono ?_;rw[h1];rintro e w' ⟨rfl,rfl⟩)
    | (go_at_call 87;refine(dD _ _ _ _).mono ?_;rw[h2];rintro e w' ⟨rfl,rfl⟩)
    | (go_at_call 119;refine(vS _ _).mono ?_;rw[h3];rintro e w' ⟨rfl,rfl⟩)
    | (go_at_call 120;refine(FH _ _).mono ?_;rw[h4];rintro e w' ⟨rfl,rfl⟩))
   go_returns;refine⟨rfl,?_⟩;show Below _ _ _;go_grown))
def sM(t:aF)(ov:Value):Value:=.agg #[.int .i64 t.aD,ov,.bool t.done]
theorem wD{v:Value}{h:List aF}(w:World)(F:FuncId)(cap:Array Value)(p:aF->Bool)(H:lV w v h)(hlen:h.length<=2097152)
 (hcf:∀args W,(callFunc F args).run Tryz.prog W=.ok (.enter F args) W) (hF:∀t∈h,∀ov W,Ext w W->aI 3 encOpr W ov t.ops->Calls Tryz.prog F (#[sM t ov]++cap) W λe w'=>e=.returned (.bool (p t))/\Ext W w') :
 Calls Tryz.prog 83 #[v,.func (.func F) #[] cap] w λe w'=>e=.returned (.int .i64 (findAt p h 0))/\Ext w w':=by
 obtain⟨A,c,rfl⟩:=H.slice;have HF:=aa hF;have HH:=aa H;clear hF H;go_enter Tryz.func83,Tryz.ntmps83;go_wp2;go_loopw [8] (λi wr=>Ext w wr/\∃k:Nat,k<=h.length/\i=.int .i64 k/\Hid (findAt p h 0=findAt p (h.drop k) k)) (λi _=>h.length-(intOf i).toNat)
 case atStart=>exact⟨af _,0,bR _,rfl,rfl⟩
 case round=>
  obtain⟨hb,k,hk,rfl,HI⟩:=hrel;by_cases hlt:k<h.length
  ·obtain⟨b,off,rfl,hbl,hc⟩:=HH.out.head (by omega);obtain⟨t,ht⟩:=au hlt;obtain⟨ov,c0,c1,c2,hs⟩:=hc k t ht;replace c0:=hb.cell c0;replace c1:=hb.cell c1;replace c2:=hb.cell c2;have Hx:=aa ht;have Hm:=aN ht;have HS:=aa (hs.ext hb);clear ht hc hs;go_wp2_with fail
   refine(HF.out t Hm ov _ hb HS.out).mono ?_
   rintro e w1 ⟨rfl,b1⟩;by_cases hp:p t=true
   ·have hr:=aa (HI.out.trans (lu Hx.out hp));go_wp2;go_returns;exact⟨dH hr.out.symm,hb.trans b1⟩
   ·simp only[Bool.not_eq_true]at hp;have hr:=aa (HI.out.trans (kr Hx.out hp));go_wp2;go_roundw;case rel=>exact⟨hb.trans b1,k+1,by omega,by go_num,hr⟩
    case measure=>simp[intOf];omega
  ·obtain rfl:k=h.length:=by omega
   go_wp2;go_returns;exact⟨dH (by rw[HI.out];simp[findAt]),hb⟩
theorem mF{v:Value}{h:List aF}(w:World)(F:FuncId)(cap:Array Value)(p:aF->Bool)(H:lV w v h)(hlen:h.length<=2097152)
 (hcf:∀args W,(callFunc F args).run Tryz.prog W=.ok (.enter F args) W) (hF:∀t∈h,∀ov W,Ext w W->aI 3 encOpr W ov t.ops->Calls Tryz.prog F (#[sM t ov]++cap) W λe w'=>e=.returned (.bool (p t))/\Ext W w') :
 Calls Tryz.prog 41 #[v,.func (.func F) #[] cap] w λe w'=>e=.returned (.bool (h.any p))/\Ext w w':=by
 have HF:=aa hF;clear hF;go_enter Tryz.func41,Tryz.ntmps41;go_wp2_with fail
 refine(wD w F cap p H hlen hcf HF.out).mono ?_
 rintro e w1 ⟨rfl,b1⟩;go_wp2;go_returns;exact⟨aU (lD),b1⟩
theorem BP(o:aJ)(w:World) :
 Calls Tryz.prog 86 #[fZ o] w λe w'=>e=.returned (.bool (!jm o))/\Ext w w':=by
 show Calls Tryz.prog 86 #[.agg #[.int .i64 o.kind,.int .i64 o.key,.int .i64 o.value]] w _;cases h:jm o<;>(
  go_enter Tryz.func86,Tryz.ntmps86;go_wp2_with (go_at_call 82;refine(qd o _).mono ?_;rw[h];rintro e w1 ⟨rfl,b1⟩)
  go_returns;refine⟨rfl,?_⟩
  exact((af _).alloc _).trans b1)
theorem Ef(args:Array Value)(W:World):(callFunc 86 args).run Tryz.prog W=.ok (.enter 86 args) W:=by kernel_rfl
theorem sV(t:aF)(ov:Value)(w:World)(h:aI 3 encOpr w ov t.ops)(hlen:t.ops.length<=2097152) :
 Calls Tryz.prog 43 #[sM t ov] w λe w'=>e=.returned (.bool (eP t))/\Ext w w':=by
 obtain⟨s,ops,d⟩:=t;obtain⟨A,c,rfl,_⟩:=id h;have HS:=aa h;clear h;have hf:Hid (eP ⟨s,ops,d⟩=(kV s 0 3&&decide (ops.length<=6) && !(ops.any λo=>!jm o))):=by show _ = _;simp[eP,List.all_eq_not_any_not]
 rw[hf.out];clear hf;show Calls Tryz.prog 43 #[.agg #[.int .i64 s,.slice A ops.length c,.bool d]] w _;cases h1:kV s 0 3<;>cases h2:decide (ops.length<=6)<;>cases h3:(ops.any λo=>!jm o)<;>(
  have h2':=h2;simp only[eG,decide_eq_false_iff_not]at h2';have H3:=aa h3;clear h3;go_enter Tryz.func43,Tryz.ntmps43
  go_wp2_with (first
   | (go_at_call 84;refine(sO _ _).mono ?_;rw[h1];rintro e w' ⟨rfl,rfl⟩)
   | (go_at_call 85;refine(mE _ 86 #[] (λo=>!jm o) (HS.out.ext ((af _).alloc _)) hlen Ef (λx _ W _=>BP x W)).mono ?_;rw[H3.out];rintro e w1 ⟨rfl,b1⟩))
  go_returns;refine⟨rfl,?_⟩
  first
  | exact((af _).alloc _).trans b1
  | exact(af _).alloc _)
