/- Lemmas. -/
import Derived.Test.YtcdopfdgknglfaaGreatDoorKAA
import Derived.Laws.StructEq
set_option maxHeartbeats 16000000
set_option maxRecDepth 8000
set_option linter.all false
namespace Go.Proofs.YtcdopfdgknglfaaGreatDoor
open Go.RowKit
def RO(u:Value):Value:=u
theorem TG{α β:Type}{e e':TypeId}{m m':Nat}{enc:α->Nat->Value}{enc':β->Nat->Value}{base base':Nat}{w:World}{v u:Value}{xs:List α}{ys:List β}
 (h:Row e m enc base w v xs) (h':Row e' m' enc' base' w u ys) (hne:e≠e'):u.ownBlock=none∨u.ownBlock≠v.ownBlock:=by
 rcases h.2 with ⟨rfl,_⟩|⟨g,cap,cur,rfl,hb,hg,_⟩
 ·cases u.ownBlock with
  | none=>exact .inl rfl
  | some k=>exact .inr (by simp[Value.ownBlock])
 ·rcases h'.2 with ⟨rfl,_⟩|⟨g',cap',cur',rfl,hb',hg',_⟩
  ·exact .inl rfl
  ·right;intro e;simp[Value.ownBlock]at e;subst e;rw[hg]at hg';injection hg' with hg';injection hg' with _ h2 _;exact hne h2
theorem aF{w:World}{cs:Array Value}{T:TypeId}{j:Nat}{v:Value}(h:cs[j]? =some v):(w.alloc (.cells cs T)).cell? ⟨w.heap.size,j,none⟩=some v:=by rw[cell_of_row _ _ j _ T (0,0) (dP w _)];exact h
theorem iU{w:World}{cs:Array Value}{T:TypeId}{j k:Nat}{v:Value}(hk:w.heap.size=k)(h:cs[j]? =some v):(w.alloc (.cells cs T)).cell? ⟨k,j,none⟩=some v:=hk▸aF h
theorem jf{w:World}{cs:Array Value}{T:TypeId}{k:Nat}(j:Nat)(hk:w.heap.size=k):(w.alloc (.cells cs T)).frozen? ⟨k,j,none⟩=false:=by subst hk;simp only[World.frozen?,dP];simp
theorem jZ(W:World)(a:Addr)(v:Value):W.grownBy (W.setCell a v) (some a.block):=
 ⟨rfl,rfl,rfl,by simp[World.setCell],λk _ hk=>Below.heap_setCell _ _ _ k (λe=>hk (by rw[e]))⟩
theorem Row.Dw{α:Type}{e:TypeId}{m:Nat}{enc:α->Nat->Value}{base:Nat}{w:World}{v:Value}{xs:List α}(h:Row e m enc base w v xs){a:Addr}(ha:a.block<base)(u:Value):Row e m enc base (w.setCell a u) v xs:=by
 refine World.ownsRow.kept h (jZ w a u) ?_
 cases hv:v.ownBlock with
 | none=>exact .inl rfl
 | some k=>exact .inr (λe=>by cases e;have:=h.block _ hv;omega)
structure jg where
 az:Int
 dA:Value
 done:Bool
def encTxV(x:jg):Nat->Value
 | 0=>.int .i64 x.az
 | 1=>x.dA
 | _=>.bool x.done
def tN(v:Value):Prop:=∀A n c,v=.slice A n c->n<=c/\c<=9223372036854775807
theorem nG{A:Option Addr}{n c:Nat}(h:n<=c)(h2:c<=9223372036854775807):tN (.slice A n c):=λ_ _ _ e=>by cases e;exact⟨h,h2⟩
def FP(w:World)(r:jg)(t:aG):Prop:=r.az=t.az/\r.done=t.done/\aL 3 encOpr w r.dA t.ops/\tN r.dA
def yB(w:World)(v:Value)(rs:List jg)(h:List aG):Prop:=
 rs.length=h.length/\aL 3 encTxV w v rs/\∀(i:Nat) r t,rs[i]? =some r->h[i]? =some t->FP w r t
def iM(w:World)(v:Value)(h:List aG):Prop:=∃rs,yB w v rs h
theorem FP.ext{w w':World}{r:jg}{t:aG}(h:FP w r t)(hb:Ext w w'):FP w' r t:=⟨h.1,h.2.1,h.2.2.1.ext hb,h.2.2.2⟩
theorem yB.ext{w w':World}{v:Value}{rs:List jg}{h:List aG}(H:yB w v rs h)(hb:Ext w w'):yB w' v rs h:=
 ⟨H.1,H.2.1.ext hb,λi r t hr ht=>(H.2.2 i r t hr ht).ext hb⟩
theorem iM.ext{w w':World}{v:Value}{h:List aG}(H:iM w v h)(hb:Ext w w'):iM w' v h:=let ⟨rs,H⟩:=H;⟨rs,H.ext hb⟩
theorem iM.slice{w:World}{v:Value}{h:List aG}(H:iM w v h):∃A c,v=.slice A h.length c:=by obtain⟨rs,h1,⟨A,c,rfl,_⟩,_⟩:=H;exact⟨A,c,by rw[h1]⟩
theorem iM.aa0{w:World}{A:Option Addr}{n c:Nat}{h:List aG}(H:iM w (.slice A n c) h)(hn:0<h.length) :
 ∃b off,A=some ⟨b,off,none⟩/\b<w.heap.size/\∀(k:Nat) t,h[k]? =some t->∃ov,w.cell? ⟨b,off+k*3,none⟩=some (.int .i64 t.az)/\w.cell? ⟨b,off+k*3+1,none⟩=some ov/\w.cell? ⟨b,off+k*3+2,none⟩=some (.bool t.done)/\aL 3 encOpr w ov t.ops/\tN ov:=by
 obtain⟨rs,h1,⟨A',c',hA,hc⟩,h3⟩:=H;injection hA with e1 e2 e3;subst e1;obtain⟨b,off,rfl,hb,hc⟩:=hc (by omega);refine⟨b,off,rfl,hb,λk t ht=>?_⟩;obtain⟨r,hr⟩:=ah (show k<rs.length by rw[h1];exact(bG.1 ht).1);obtain⟨e1,e2,hs,hcp⟩:=h3 k r t hr ht;refine⟨r.dA,?_,?_,?_,hs,hcp⟩
 ·have:=hc k r hr 0 (by omega);rw[<-e1];exact this
 ·exact hc k r hr 1 (by omega)
 ·have:=hc k r hr 2 (by omega);rw[<-e2];exact this
theorem iM.head{w:World}{A:Option Addr}{n c:Nat}{h:List aG}(H:iM w (.slice A n c) h)(hn:0<h.length) :
 ∃b off,A=some ⟨b,off,none⟩/\b<w.heap.size/\∀(k:Nat) t,h[k]? =some t->∃ov,w.cell? ⟨b,off+k*3,none⟩=some (.int .i64 t.az)/\w.cell? ⟨b,off+k*3+1,none⟩=some ov/\w.cell? ⟨b,off+k*3+2,none⟩=some (.bool t.done)/\aL 3 encOpr w ov t.ops:=
 let ⟨b,off,h1,h2,h3⟩:=H.aa0 hn
 ⟨b,off,h1,h2,λk t ht=>let ⟨ov,c0,c1,c2,hs,_⟩:=h3 k t ht;⟨ov,c0,c1,c2,hs⟩⟩
theorem iM.nil(w:World)(A:Option Addr)(c:Nat):iM w (.slice A 0 c) []:=⟨[],rfl,aL.nil _ _ _ _ _,λ_ _ _ h=>by simp at h⟩
def yX(lo:Nat)(w:World)(v:Value)(rs:List jg):Prop:=
 Own lo w v/\(∀(i:Nat) r,rs[i]? =some r->Own lo w r.dA/\Apart v r.dA)/\∀(i j:Nat) r r',i<j->rs[i]? =some r->rs[j]? =some r'->Apart r.dA r'.dA
theorem yX.mono{lo lo':Nat}{w:World}{v:Value}{rs:List jg}(h:yX lo w v rs)(hl:lo'<=lo):yX lo' w v rs:=
 ⟨h.1.mono hl,λi r hr=>⟨(h.2.1 i r hr).1.mono hl,(h.2.1 i r hr).2⟩,h.2.2⟩
def uw(w:World)(h:List aG)(e:Ending)(w':World):Prop:=
 ∃v rs,e=.returned v/\yB w' v rs h/\yX w.heap.size w' v rs/\Ext w w'
def jD(I:TypeId)(w:World)(u:Value):Prop:=∀a n c,u=.slice (some a) n c->0<n->∃cs fr,w.heap[a.block]? =some (.cells cs I fr)
theorem jD.ext{I:TypeId}{w w':World}{u:Value}(h:jD I w u)(hb:Ext w w'):jD I w' u:=λa n c hu hn=>by obtain⟨cs,fr,hg⟩:=h a n c hu hn;exact⟨cs,fr,(Below.block hb _ (fF.1 hg).1).trans hg⟩
theorem Row.Gl{α:Type}{e:TypeId}{m:Nat}{enc:α->Nat->Value}{base:Nat}{w:World}{v:Value}{xs:List α}(h:Row e m enc base w v xs):jD e w v:=by
 intro a n c hv hn;rcases h.2 with ⟨rfl,_⟩|⟨g,cap,cur,rfl,hb,hg,_⟩
 ·cases hv
 ·injection hv with h1 _ _;injection h1 with h1;subst h1;exact⟨cur,_,hg⟩
theorem Row.far{α:Type}{e I:TypeId}{m:Nat}{enc:α->Nat->Value}{base:Nat}{w:World}{v u:Value}{xs:List α}(h:Row e m enc base w v xs)(hu:jD I w u)(hne:e≠I) :
 ∀a n c,u=.slice (some a) n c->0<n->v.ownBlock≠some a.block:=by
 intro a n c e1 hn e2;rcases h.2 with ⟨rfl,_⟩|⟨g,cap,cur,rfl,hb,hg,_⟩
 ·simp[Value.ownBlock]at e2
 ·simp[Value.ownBlock]at e2;obtain⟨cs,fr,hx⟩:=hu a n c e1 hn;rw[<-e2,hg]at hx;injection hx with hx;injection hx with _ h2 _;exact hne h2
theorem xL{w w':World}{row:Option Nat}(hg:w.grownBy w' row){k:Nat}(hk:k<w.heap.size)(hr:row≠some k):w'.heap[k]? =w.heap[k]?:=hg.block k hk (λe=>hr e.symm)
theorem aL.grown{α:Type}{m:Nat}{enc:α->Nat->Value}{w w':World}{u:Value}{xs:List α}{row:Option Nat}(h:aL m enc w u xs)(hg:w.grownBy w' row)(hr:∀a n c,u=.slice (some a) n c->0<n->row≠some a.block):aL m enc w' u xs:=by obtain⟨A,c,hA,h⟩:=h;refine⟨A,c,hA,λhn=>?_⟩;obtain⟨b,off,hb,hlt,hc⟩:=h hn;subst hb;exact⟨b,off,rfl,bR hlt hg.size,λi x hx j hj=>by rw[<-hc i x hx j hj];simp only[World.cell?,xL hg hlt (hr _ _ _ hA hn)]⟩
theorem Own.grown{lo:Nat}{w w':World}{u:Value}{row:Option Nat}(h:Own lo w u)(hg:w.grownBy w' row)(hr:∀a n c,u=.slice (some a) n c->0<n->row≠some a.block):Own lo w' u:=by intro a n c hu hn;obtain⟨h1,h2,h3⟩:=h a n c hu hn;exact⟨h1,bR h2 hg.size,λi=>by rw[<-h3 i];simp only[World.frozen?,xL hg h2 (hr a n c hu hn)]⟩
theorem jD.grown{I:TypeId}{w w':World}{u:Value}{row:Option Nat}(h:jD I w u)(hg:w.grownBy w' row)(hr:∀a n c,u=.slice (some a) n c->0<n->row≠some a.block):jD I w' u:=λa n c hu hn=>by obtain⟨cs,fr,hx⟩:=h a n c hu hn;exact⟨cs,fr,(xL hg (fF.1 hx).1 (hr a n c hu hn)).trans hx⟩
def oV(E I:TypeId)(base:Nat)(w:World)(v:Value)(rs:List jg)(h:List aG):Prop:=
 rs.length=h.length/\Row E 3 encTxV base w v rs/\(∀(i:Nat) r t,rs[i]? =some r->h[i]? =some t->FP w r t/\Own base w r.dA/\jD I w r.dA)/\∀(i j:Nat) r r',i<j->rs[i]? =some r->rs[j]? =some r'->Apart r.dA r'.dA
theorem oV.ext{E I:TypeId}{base:Nat}{w w':World}{v:Value}{rs:List jg}{h:List aG}(H:oV E I base w v rs h)(hb:Ext w w'):oV E I base w' v rs h:=
 ⟨H.1,H.2.1.ext hb,λi r t hr ht=>let ⟨a,b,c⟩:=H.2.2.1 i r t hr ht;⟨a.ext hb,b.ext hb,c.ext hb⟩,H.2.2.2⟩
theorem oV.nil{E I:TypeId}(w:World):oV E I w.heap.size (w.alloc (.cells #[] E)) (.slice (some ⟨w.heap.size,0,none⟩) 0 0) [] []:=
 ⟨rfl,World.ownsRow_made w #[] 0 (av _) (by simp[maxLen]) (by simp),λ_ _ _ h=>by simp at h,λ_ _ _ _ _ h=>by simp at h⟩
theorem oV.push{E I:TypeId}(hEI:E≠I){base:Nat}{w0 w w':World}{v v':Value}{rs:List jg}{h:List aG}{r:jg}{t:aG}(h0:oV E I base w0 v rs h)(hx:Ext w0 w)(hu:FP w r t)(ho:Own w0.heap.size w r.dA)(hi:jD I w r.dA)(hb:base<=w0.heap.size)
 (hrow:Row E 3 encTxV base w' v' (rs++[r])) (hg:w.grownBy w' v.ownBlock):oV E I base w' v' (rs++[r]) (h++[t]):=by
 have H:=h0.ext hx;have keep:∀(r:jg) t,FP w r t->Own base w r.dA->jD I w r.dA->FP w' r t/\Own base w' r.dA/\jD I w' r.dA:=λr t a b c=>
  have hr:=H.2.1.far c hEI
  ⟨⟨a.1,a.2.1,a.2.2.1.grown hg hr,a.2.2.2⟩,b.grown hg hr,c.grown hg hr⟩
 refine⟨by simp[H.1],hrow,λi y s hy hs=>?_,λi j y y' hij hy hy'=>?_⟩
 ·rw[MS]at hy hs;split at hy
  ·rename_i hi';rw[aj (by rw[<-H.1];exact hi')]at hs;obtain⟨a,b,c⟩:=H.2.2.1 i y s hy hs;exact keep _ _ a b c
  ·rename_i hi';rw[au (by rw[<-H.1];exact hi')]at hs;have hi0:i-rs.length=0:=by
    have:=(bG.1 hy).1
    simp at this;omega
   rw[hi0]at hy;rw[<-H.1,hi0]at hs;simp at hy hs;subst hy hs;exact keep _ _ hu (ho.mono hb) hi
 ·rw[MS]at hy hy';split at hy'
  ·rename_i hj;rw[aj (by omega)]at hy;exact H.2.2.2 i j y y' hij hy hy'
  ·rename_i hj;have hj0:j-rs.length=0:=by
    have:=(bG.1 hy').1
    simp at this;omega
   rw[hj0]at hy';simp at hy';subst hy';rw[aj (by omega)]at hy;obtain⟨s,hs⟩:=ah (show i<h.length by rw[<-H.1];exact(bG.1 hy).1);exact aL.apart (h0.2.2.1 i y s hy hs).1.2.2.1 ho
theorem oV.done{E I:TypeId}(hEI:E≠I){base:Nat}{w:World}{v:Value}{rs:List jg}{h:List aG}(H:oV E I base w v rs h):yB w v rs h/\yX base w v rs:=by
 refine⟨⟨H.1,H.2.1.cell.1,λi r t hr ht=>(H.2.2.1 i r t hr ht).1⟩,H.2.1.cell.2,λi r hr=>?_,H.2.2.2⟩;obtain⟨t,ht⟩:=ah (show i<h.length by rw[<-H.1];exact(bG.1 hr).1);obtain⟨a,b,c⟩:=H.2.2.1 i r t hr ht;refine⟨b,λx n c' y m d hx hy hn hm e=>?_⟩
 have:=H.2.1.far c hEI y m d hy hm
 subst hx;exact this (by simp[Value.ownBlock,e])
theorem iA(a b c:Int)(w:World) :
 Calls Tryz.prog 118 #[.agg #[.int .i64 a,.int .i64 b,.int .i64 c]] w λe w'=>e=.returned (.bool (a==1))/\w.alloc (.cells #[.int .i64 a,.int .i64 b,.int .i64 c] 67)=w':=by
 by_cases h:(a==1)=true
 ·rw[h];go_enter Tryz.func118,Tryz.ntmps118;go_wp2;go_returns;exact⟨rfl,rfl⟩
 ·simp only[Bool.not_eq_true]at h;rw[h];go_enter Tryz.func118,Tryz.ntmps118;go_wp2;go_returns;exact⟨rfl,rfl⟩
theorem gI(a b c:Int)(w:World) :
 Calls Tryz.prog 87 #[.agg #[.int .i64 a,.int .i64 b,.int .i64 c]] w λe w'=>e=.returned (.bool (a==2))/\w.alloc (.cells #[.int .i64 a,.int .i64 b,.int .i64 c] 67)=w':=by
 by_cases h:(a==2)=true
 ·rw[h];go_enter Tryz.func87,Tryz.ntmps87;go_wp2;go_returns;exact⟨rfl,rfl⟩
 ·simp only[Bool.not_eq_true]at h;rw[h];go_enter Tryz.func87,Tryz.ntmps87;go_wp2;go_returns;exact⟨rfl,rfl⟩
theorem vD(o:aV)(w:World) :
 Calls Tryz.prog 82 #[iG o] w λe w'=>e=.returned (.bool (iY o))/\Ext w w':=by
 obtain⟨a,b,c⟩:=o;have hf:Hid (iY ⟨a,b,c⟩=((a==1 || a==2)&&lH b 0 2&&lH c 0 99 && !(a==2&&c==0))):=rfl;rw[hf.out];clear hf;show Calls Tryz.prog 82 #[.agg #[.int .i64 a,.int .i64 b,.int .i64 c]] w _;cases h1:(a==1)<;>cases h2:(a==2)<;>cases h3:lH b 0 2<;>cases h4:lH c 0 99<;>cases h5:(c==0)<;>(
  first
  | (exfalso;simp at h1 h2;omega)
  | (
   go_enter Tryz.func82,Tryz.ntmps82
   go_wp2_with (first
    | (go_at_call 118;refine(iA _ _ _ _).mono ?_;rw[h1];rintro e w' ⟨rfl,rfl⟩)
    | (go_at_call 87;refine(gI _ _ _ _).mono ?_;rw[h2];rintro e w' ⟨rfl,rfl⟩)
    | (go_at_call 119;refine(DC _ _).mono ?_;rw[h3];rintro e w' ⟨rfl,rfl⟩)
    | (go_at_call 120;refine(N8 _ _).mono ?_;rw[h4];rintro e w' ⟨rfl,rfl⟩))
   go_returns;refine⟨rfl,?_⟩;show Below _ _ _;go_grown))
theorem rz(o:aV)(w:World) :
 Calls Tryz.prog 81 #[iG o] w λe w'=>e=.returned (.bool (iY o))/\Ext w w':=by
 obtain⟨a,b,c⟩:=o;have hf:Hid (iY ⟨a,b,c⟩=(lH a 1 2&&lH b 0 2&&lH c 0 99&&(a==1 || decide (0<c)))):=by show _ = _;rw[kQ];simp only[iY,oH,jQ,lH,dh,agF,beq_iff_eq,rU,Bool.not_eq_true',Bool.and_eq_false_iff,fU];omega
 rw[hf.out];clear hf;show Calls Tryz.prog 81 #[.agg #[.int .i64 a,.int .i64 b,.int .i64 c]] w _;cases h1:lH a 1 2<;>cases h3:lH b 0 2<;>cases h4:lH c 0 99<;>cases h2:(a==1)<;>cases h5:decide (0<c)<;>(
  go_enter Tryz.func81,Tryz.ntmps81;go_wp2_with (go_at_call 68;refine(fQ _ _ _ _).mono ?_;(first|rw[h1]|rw[h3]|rw[h4]);rintro e w' ⟨rfl,rfl⟩)
  go_returns;refine⟨rfl,?_⟩;show Below _ _ _;go_grown)
def o9(t:aG)(ov:Value):Value:=.agg #[.int .i64 t.az,ov,.bool t.done]
theorem Dy{v:Value}{h:List aG}(w:World)(F:FuncId)(cap:Array Value)(p:aG->Bool)(H:iM w v h)(hlen:h.length<=2097152)
 (hcf:∀args W,(callFunc F args).run Tryz.prog W=.ok (.enter F args) W) (hF:∀t∈h,∀ov W,Ext w W->aL 3 encOpr W ov t.ops->Calls Tryz.prog F (#[o9 t ov]++cap) W λe w'=>e=.returned (.bool (p t))/\Ext W w') :
 Calls Tryz.prog 83 #[v,.func (.func F) #[] cap] w λe w'=>e=.returned (.int .i64 (findAt p h 0))/\Ext w w':=by
 obtain⟨A,c,rfl⟩:=H.slice;have HF:=aa hF;have HH:=aa H;clear hF H;go_enter Tryz.func83,Tryz.ntmps83;go_wp2;go_loopw [8] (λi wr=>Ext w wr/\∃k:Nat,k<=h.length/\i=.int .i64 k/\Hid (findAt p h 0=findAt p (h.drop k) k)) (λi _=>h.length-(intOf i).toNat)
 case atStart=>exact⟨af _,0,aT _,rfl,rfl⟩
 case round=>
  obtain⟨hb,k,hk,rfl,HI⟩:=hrel;by_cases hlt:k<h.length
  ·obtain⟨b,off,rfl,hbl,hc⟩:=HH.out.head (by omega);obtain⟨t,ht⟩:=ah hlt;obtain⟨ov,c0,c1,c2,hs⟩:=hc k t ht;replace c0:=hb.cell c0;replace c1:=hb.cell c1;replace c2:=hb.cell c2;have Hx:=aa ht;have Hm:=aM ht;have HS:=aa (hs.ext hb);clear ht hc hs;go_wp2_with fail
   refine(HF.out t Hm ov _ hb HS.out).mono ?_
   rintro e w1 ⟨rfl,b1⟩;by_cases hp:p t=true
   ·have hr:=aa (HI.out.trans (pJ Hx.out hp));go_wp2;go_returns;exact⟨bU hr.out.symm,hb.trans b1⟩
   ·simp only[Bool.not_eq_true]at hp;have hr:=aa (HI.out.trans (nX Hx.out hp));go_wp2;go_roundw;case rel=>exact⟨hb.trans b1,k+1,by omega,by go_num,hr⟩
    case measure=>simp[intOf];omega
  ·obtain rfl:k=h.length:=by omega
   go_wp2;go_returns;exact⟨bU (by rw[HI.out];simp[findAt]),hb⟩
theorem qX{v:Value}{h:List aG}(w:World)(F:FuncId)(cap:Array Value)(p:aG->Bool)(H:iM w v h)(hlen:h.length<=2097152)
 (hcf:∀args W,(callFunc F args).run Tryz.prog W=.ok (.enter F args) W) (hF:∀t∈h,∀ov W,Ext w W->aL 3 encOpr W ov t.ops->Calls Tryz.prog F (#[o9 t ov]++cap) W λe w'=>e=.returned (.bool (p t))/\Ext W w') :
 Calls Tryz.prog 41 #[v,.func (.func F) #[] cap] w λe w'=>e=.returned (.bool (h.any p))/\Ext w w':=by
 have HF:=aa hF;clear hF;go_enter Tryz.func41,Tryz.ntmps41;go_wp2_with fail
 refine(Dy w F cap p H hlen hcf HF.out).mono ?_
 rintro e w1 ⟨rfl,b1⟩;go_wp2;go_returns;exact⟨aS (pQ),b1⟩
theorem JZ(o:aV)(w:World) :
 Calls Tryz.prog 86 #[iG o] w λe w'=>e=.returned (.bool (!iY o))/\Ext w w':=by
 show Calls Tryz.prog 86 #[.agg #[.int .i64 o.kind,.int .i64 o.key,.int .i64 o.value]] w _;cases h:iY o<;>(
  go_enter Tryz.func86,Tryz.ntmps86;go_wp2_with (go_at_call 82;refine(vD o _).mono ?_;rw[h];rintro e w1 ⟨rfl,b1⟩)
  go_returns;refine⟨rfl,?_⟩
  exact((af _).alloc _).trans b1)
theorem MW(args:Array Value)(W:World):(callFunc 86 args).run Tryz.prog W=.ok (.enter 86 args) W:=by kernel_rfl
theorem zF(t:aG)(ov:Value)(w:World)(h:aL 3 encOpr w ov t.ops)(hlen:t.ops.length<=2097152) :
 Calls Tryz.prog 43 #[o9 t ov] w λe w'=>e=.returned (.bool (dG t))/\Ext w w':=by
 obtain⟨s,ops,d⟩:=t;obtain⟨A,c,rfl,_⟩:=id h;have HS:=aa h;clear h;have hf:Hid (dG ⟨s,ops,d⟩=(lH s 0 3&&decide (ops.length<=6) && !(ops.any λo=>!iY o))):=by show _ = _;simp[dG,List.all_eq_not_any_not]
 rw[hf.out];clear hf;show Calls Tryz.prog 43 #[.agg #[.int .i64 s,.slice A ops.length c,.bool d]] w _;cases h1:lH s 0 3<;>cases h2:decide (ops.length<=6)<;>cases h3:(ops.any λo=>!iY o)<;>(
  have h2':=h2;simp only[rU,decide_eq_false_iff_not]at h2';have H3:=aa h3;clear h3;go_enter Tryz.func43,Tryz.ntmps43
  go_wp2_with (first
   | (go_at_call 84;refine(zD _ _).mono ?_;rw[h1];rintro e w' ⟨rfl,rfl⟩)
   | (go_at_call 85;refine(qQ _ 86 #[] (λo=>!iY o) (HS.out.ext ((af _).alloc _)) hlen MW (λx _ W _=>JZ x W)).mono ?_;rw[H3.out];rintro e w1 ⟨rfl,b1⟩))
  go_returns;refine⟨rfl,?_⟩
  first
  | exact((af _).alloc _).trans b1
  | exact(af _).alloc _)
theorem nE(t:aG)(ov:Value)(w:World)(h:aL 3 encOpr w ov t.ops)(hlen:t.ops.length<=2097152) :
 Calls Tryz.prog 38 #[o9 t ov] w λe w'=>e=.returned (.bool (dG t))/\Ext w w':=by
 obtain⟨s,ops,d⟩:=t;obtain⟨A,c,rfl,hc0⟩:=h;have HC:=aa hc0;clear hc0;simp only at HC hlen ⊢;show Calls Tryz.prog 38 #[.agg #[.int .i64 s,.slice A ops.length c,.bool d]] w _;have hbad:∀k o,ops[k]? =some o->iY o=false->dG ⟨s,ops,d⟩=false:=λk o ho hb=>by rw[dG,show ops.all iY=false from by rw[List.all_eq_false];exact⟨o,aM ho,by simp[hb]⟩,Bool.and_false]
 have hgood:(∀k o,ops[k]? =some o->iY o=true)->dG ⟨s,ops,d⟩=(lH s 0 3&&decide (ops.length<=6)):=λhg=>by rw[dG,show ops.all iY=true from by rw[kT];intro o ho;obtain⟨i,hi,rfl⟩:=jq ho;exact hg i _ (dJ hi),Bool.and_true]
 have HB:=aa hbad;have HG:=aa hgood;clear hbad hgood;go_enter Tryz.func38,Tryz.ntmps38;go_wp2;go_loopw [3] (λi wr=>Ext (w.alloc (.cells #[.int .i64 s,.slice A ops.length c,.bool d] 48)) wr/\∃k:Nat,k<=ops.length/\i=.int .i64 k/\Hid (∀j o,j<k->ops[j]? =some o->iY o=true)) (λi _=>ops.length-(intOf i).toNat)
 case atStart=>exact⟨af _,0,aT _,rfl,λj o hj=>absurd hj (gu j)⟩
 case round=>
  obtain⟨hb,k,hk,rfl,HI⟩:=hrel;have e0:wr.cell? ⟨w.heap.size,0,none⟩=some (.int .i64 s):=hb.cell (aF rfl);have e1:wr.cell? ⟨w.heap.size,1,none⟩=some (.slice A ops.length c):=hb.cell (aF rfl);by_cases hlt:k<ops.length
  ·obtain⟨b,off,rfl,hbl,hc⟩:=HC.out (by omega);obtain⟨o,ho⟩:=ah hlt;have hbb:=((af w).alloc _).trans hb;have c0:wr.cell? ⟨b,off+k*3,none⟩=some (.int .i64 o.kind):=hbb.cell (hc k o ho 0 (by omega));have c1:wr.cell? ⟨b,off+k*3+1,none⟩=some (.int .i64 o.key):=hbb.cell (hc k o ho 1 (by omega));have c2:wr.cell? ⟨b,off+k*3+2,none⟩=some (.int .i64 o.value):=hbb.cell (hc k o ho 2 (by omega));have Ho:=aa ho;clear hc ho;go_wp2_with fail
   refine(rz o _).mono ?_
   cases hok:iY o with
   | false=>
     rintro e w1 ⟨rfl,b1⟩;go_wp2;go_returns;exact⟨aS (HB.out k o Ho.out hok).symm,hbb.trans b1⟩
   | true=>
     rintro e w1 ⟨rfl,b1⟩;go_wp2;go_roundw;case rel=>exact⟨hb.trans b1,k+1,by omega,by go_num,λj o' hj hj'=>by
      rcases eP j k with h|h
      ·exact HI.out j o' h hj'
      ·obtain rfl:j=k:=by omega
       rw[Ho.out]at hj';cases hj';exact hok⟩
     case measure=>simp[intOf];omega
  ·obtain rfl:k=ops.length:=by omega
   have hg:=HG.out (λj o ho=>HI.out j o (bG.1 ho).1 ho);have hbb:=((af w).alloc _).trans hb;have HG':Hid (∀r1 r2,lH s 0 3=r1->decide (ops.length<=6)=r2->dG ⟨s,ops,d⟩=(r1&&r2)):=λr1 r2 e1 e2=>by rw[hg,e1,e2]
   clear hg;cases h1:lH s 0 3<;>cases h2:decide (ops.length<=6)<;>(
    have h2':=h2;simp only[rU,decide_eq_false_iff_not]at h2';go_wp2_with (go_at_call 68;refine(fQ _ _ _ _).mono ?_;rw[h1];rintro e w' ⟨rfl,rfl⟩)
    go_returns
    first
    | exact⟨aS (HG'.out _ _ h1 h2).symm,hbb⟩
    | exact⟨aS (by rw[HG'.out _ _ h1 h2];simp;omega),hbb⟩)
