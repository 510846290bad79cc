/- Lemmas. -/
import Derived.Test.YtcdopfdgknglfaaGreatDoorKAJ
set_option maxHeartbeats 16000000
set_option maxRecDepth 8000
set_option linter.all false
namespace Go.Proofs.YtcdopfdgknglfaaGreatDoor
open Go.RowKit
structure BK where
 az:Int
 iP:Value
def encDrV(x:BK):Nat->Value
 | 0=>.int .i64 x.az
 | _=>x.iP
def yV(w:World)(v:Value)(p:List fI):Prop:=∃rs:List BK,rs.length=p.length/\aL 2 encDrV w v rs/\∀(i:Nat) r d,rs[i]? =some r->p[i]? =some d->r.az=d.az/\aL 3 encOpr w r.iP d.steps
theorem yV.ext{w w':World}{v:Value}{p:List fI}(h:yV w v p)(hb:Ext w w'):yV w' v p:=
 let ⟨rs,h1,h2,h3⟩:=h
 ⟨rs,h1,h2.ext hb,λi r d hr hd=>⟨(h3 i r d hr hd).1,(h3 i r d hr hd).2.ext hb⟩⟩
theorem yV.nil(w:World)(A:Option Addr)(c:Nat):yV w (.slice A 0 c) []:=⟨[],rfl,aL.nil _ _ _ _ _,λ_ _ _ h=>by simp at h⟩
theorem yV.slice{w:World}{v:Value}{p:List fI}(h:yV w v p):∃A c,v=.slice A p.length c:=by obtain⟨rs,h1,⟨A,c,rfl,_⟩,_⟩:=h;exact⟨A,c,by rw[h1]⟩
theorem yV.head{w:World}{A:Option Addr}{n c:Nat}{p:List fI}(H:yV w (.slice A n c) p)(hn:0<p.length) :
 ∃b off,A=some ⟨b,off,none⟩/\b<w.heap.size/\∀(k:Nat) d,p[k]? =some d->∃ov,w.cell? ⟨b,off+k*2,none⟩=some (.int .i64 d.az)/\w.cell? ⟨b,off+k*2+1,none⟩=some ov/\aL 3 encOpr w ov d.steps:=by
 obtain⟨rs,h1,⟨A',c',hA,hc⟩,h3⟩:=H;injection hA with e1 e2 e3;subst e1;obtain⟨b,off,rfl,hb,hc⟩:=hc (by omega);refine⟨b,off,rfl,hb,λk d hd=>?_⟩;obtain⟨r,hr⟩:=ah (show k<rs.length by rw[h1];exact(bG.1 hd).1);obtain⟨e1,hs⟩:=h3 k r d hr hd;refine⟨r.iP,?_,hc k r hr 1 (by omega),hs⟩
 have:=hc k r hr 0 (by omega)
 rw[<-e1];exact this
def Tn(d:fI)(ov:Value):Value:=.agg #[.int .i64 d.az,ov]
theorem Fw{v:Value}{p:List fI}(w:World)(F:FuncId)(cap:Array Value)(q:fI->Bool)(H:yV w v p)(hlen:p.length<=2097152)
 (hcf:∀args W,(callFunc F args).run Tryz.prog W=.ok (.enter F args) W) (hF:∀d∈p,∀ov W,Ext w W->aL 3 encOpr W ov d.steps->Calls Tryz.prog F (#[Tn d ov]++cap) W λe w'=>e=.returned (.bool (q d))/\Ext W w') :
 Calls Tryz.prog 122 #[v,.func (.func F) #[] cap] w λe w'=>e=.returned (.int .i64 (findAt q p 0))/\Ext w w':=by
 obtain⟨A,c,rfl⟩:=H.slice;have HF:=aa hF;have HH:=aa H;clear hF H;go_enter Tryz.func122,Tryz.ntmps122;go_wp2;go_loopw [8] (λi wr=>Ext w wr/\∃k:Nat,k<=p.length/\i=.int .i64 k/\Hid (findAt q p 0=findAt q (p.drop k) k)) (λi _=>p.length-(intOf i).toNat)
 case atStart=>exact⟨af _,0,aT _,rfl,rfl⟩
 case round=>
  obtain⟨hb,k,hk,rfl,HI⟩:=hrel;by_cases hlt:k<p.length
  ·obtain⟨b,off,rfl,hbl,hc⟩:=HH.out.head (by omega);obtain⟨t,ht⟩:=ah hlt;obtain⟨ov,c0,c1,hs⟩:=hc k t ht;replace c0:=hb.cell c0;replace c1:=hb.cell c1;have Hx:=aa ht;have Hm:=aM ht;have HS:=aa (hs.ext hb);clear ht hc hs;go_wp2_with fail
   refine(HF.out t Hm ov _ hb HS.out).mono ?_
   rintro e w1 ⟨rfl,b1⟩;by_cases hp:q t=true
   ·have hr:=aa (HI.out.trans (pJ Hx.out hp));go_wp2;go_returns;exact⟨bU hr.out.symm,hb.trans b1⟩
   ·simp only[Bool.not_eq_true]at hp;have hr:=aa (HI.out.trans (nX Hx.out hp));go_wp2;go_roundw;case rel=>exact⟨hb.trans b1,k+1,by omega,by go_num,hr⟩
    case measure=>simp[intOf];omega
  ·obtain rfl:k=p.length:=by omega
   go_wp2;go_returns;exact⟨bU (by rw[HI.out];simp[findAt]),hb⟩
theorem AX{v:Value}{p:List fI}(w:World)(F:FuncId)(cap:Array Value)(q:fI->Bool)(H:yV w v p)(hlen:p.length<=2097152)
 (hcf:∀args W,(callFunc F args).run Tryz.prog W=.ok (.enter F args) W) (hF:∀d∈p,∀ov W,Ext w W->aL 3 encOpr W ov d.steps->Calls Tryz.prog F (#[Tn d ov]++cap) W λe w'=>e=.returned (.bool (q d))/\Ext W w') :
 Calls Tryz.prog 88 #[v,.func (.func F) #[] cap] w λe w'=>e=.returned (.bool (p.any q))/\Ext w w':=by
 have HF:=aa hF;clear hF;go_enter Tryz.func88,Tryz.ntmps88;go_wp2_with fail
 refine(Fw w F cap q H hlen hcf HF.out).mono ?_
 rintro e w1 ⟨rfl,b1⟩;go_wp2;go_returns;exact⟨aS (pQ),b1⟩
theorem Fb(o:aV)(w:World) :
 Calls Tryz.prog 123 #[iG o] w λe w'=>e=.returned (.bool (!gq o))/\Ext w w':=by
 obtain⟨a,b,c⟩:=o;have hf:Hid (gq ⟨a,b,c⟩=(lH a 1 2&&lH b 0 2&&(c==0))):=by show _ = _;rw[kQ];simp only[gq,oH,jQ,lH,dh,agF,beq_iff_eq,rU];omega
 rw[hf.out];clear hf;show Calls Tryz.prog 123 #[.agg #[.int .i64 a,.int .i64 b,.int .i64 c]] w _;cases h1:lH a 1 2<;>cases h3:lH b 0 2<;>cases h5:(c==0)<;>(
  have h6:(c != 0) = !(c==0):=rfl;rw[h5]at h6;go_enter Tryz.func123,Tryz.ntmps123;go_wp2_with (first|(go_at_call 106;refine(eZ _ _ _ _).mono ?_;rw[h1];rintro e w' ⟨rfl,rfl⟩)|(go_at_call 119;refine(DC _ _).mono ?_;rw[h3];rintro e w' ⟨rfl,rfl⟩))
  go_returns;refine⟨rfl,?_⟩;show Below _ _ _;go_grown)
theorem Js(args:Array Value)(W:World):(callFunc 123 args).run Tryz.prog W=.ok (.enter 123 args) W:=by kernel_rfl
theorem IX(d:fI)(ov:Value)(w:World)(h:aL 3 encOpr w ov d.steps)(hlen:d.steps.length<=2097152) :
 Calls Tryz.prog 90 #[Tn d ov] w λe w'=>e=.returned (.bool (dm d))/\Ext w w':=by
 obtain⟨s,ops⟩:=d;obtain⟨A,c,rfl,_⟩:=id h;have HS:=aa h;clear h;have hf:Hid (dm ⟨s,ops⟩=(lH s 0 3&&lH (ops.length:Int) 1 4 && !(ops.any λo=>!gq o))):=by
  show _ = _
  have:decide (1<=ops.length/\ops.length<=4)=lH (ops.length:Int) 1 4:=by rw[kQ,cK,rU];omega
  simp[dm,this,List.all_eq_not_any_not]
 rw[hf.out];clear hf;simp only at hlen HS;show Calls Tryz.prog 90 #[.agg #[.int .i64 s,.slice A ops.length c]] w _;cases h1:lH s 0 3<;>cases h2:lH (ops.length:Int) 1 4<;>cases h3:(ops.any λo=>!gq o)<;>(
  have H3:=aa h3;clear h3;go_enter Tryz.func90,Tryz.ntmps90
  go_wp2_with (first
   | (go_at_call 84;refine(zD _ _).mono ?_;rw[h1];rintro e w' ⟨rfl,rfl⟩)
   | (go_at_call 106;refine(eZ _ _ _ _).mono ?_;rw[h2];rintro e w' ⟨rfl,rfl⟩)
   | (go_at_call 85;refine(qQ _ 123 #[] (λo=>!gq o) (HS.out.ext ((af _).alloc _)) hlen Js (λx _ W _=>Fb x W)).mono ?_;rw[H3.out];rintro e w1 ⟨rfl,b1⟩))
  go_returns;refine⟨rfl,?_⟩
  first
  | exact((af _).alloc _).trans b1
  | exact(af _).alloc _)
theorem Jl(d:fI)(ov:Value)(w:World)(h:aL 3 encOpr w ov d.steps)(hlen:d.steps.length<=2097152) :
 Calls Tryz.prog 89 #[Tn d ov] w λe w'=>e=.returned (.bool (!dm d))/\Ext w w':=by
 have hE:=(af w).alloc (.cells #[.int .i64 d.az,ov] 79);have HS:=aa (IX d ov _ (h.ext hE) hlen);have HE:=aa hE;obtain⟨A,c,rfl,_⟩:=id h;clear h hE;show Calls Tryz.prog 89 #[.agg #[.int .i64 d.az,.slice A d.steps.length c]] w _;cases h1:dm d<;>(
  go_enter Tryz.func89,Tryz.ntmps89;go_wp2_with (go_at_call 90;refine HS.out.mono ?_;rw[h1];rintro e w1 ⟨rfl,b1⟩)
  go_returns;exact⟨rfl,HE.out.trans b1⟩)
theorem Kt(args:Array Value)(W:World):(callFunc 89 args).run Tryz.prog W=.ok (.enter 89 args) W:=by kernel_rfl
theorem rT{v:Value}{p:List fI}(w:World)(h:yV w v p)(hlen:p.length<=2097152)(hst:∀d∈p,d.steps.length<=2097152) :
 Calls Tryz.prog 48 #[v] w λe w'=>e=.returned (.bool (eu p))/\Ext w w':=by
 obtain⟨A,c,rfl⟩:=h.slice;have HC:=aa (AX w 89 #[] (λd=>!dm d) h hlen Kt (λd hd ov W _ hs=>Jl d ov W hs (hst d hd)));have hf:Hid (eu p=(decide (p.length<=4) && !(p.any λd=>!dm d))):=by show _ = _;simp[eu,List.all_eq_not_any_not]
 rw[hf.out];clear hf h hst;cases h2:decide (p.length<=4)<;>cases h3:(p.any λd=>!dm d)<;>(
  have h2':=h2;simp only[rU,decide_eq_false_iff_not]at h2';have H3:=aa h3;clear h3;go_enter Tryz.func48,Tryz.ntmps48;go_wp2_with (go_at_call 88;refine HC.out.mono ?_;rw[H3.out];rintro e w1 ⟨rfl,b1⟩)
  go_returns;refine⟨rfl,?_⟩
  first
  | exact b1
  | exact af _)
theorem AL{many:Nat}{B:Nat}(n:Int)(W:World)(hm:many<=4)(hB:W.cell? ⟨B,0,none⟩=some (.int .i64 (many:Int)))(hn:0<=n/\n<many) :
 Calls Tryz.prog 221 #[.int .i64 n,.pointer (some ⟨B,0,none⟩)] W λr w'=>r=.returned (.bool false)/\Ext W w':=by
 have b1:lH n 0 ((many:Int)-1)=true:=cK.2 (by omega);have hw:IntKind.i64.wrap ((many:Int)-1)=(many:Int)-1:=dL _ (by omega);clear hn;go_enter Tryz.func221,Tryz.ntmps221;go_wp2_with (go_at_call 106;refine(eZ _ _ _ _).mono ?_;rw[b1];rintro e w' ⟨rfl,rfl⟩)
 go_returns;exact⟨rfl,af _⟩
theorem Co(args:Array Value)(W:World):(callFunc 221 args).run Tryz.prog W=.ok (.enter 221 args) W:=by kernel_rfl
theorem AY{v:Value}{xs:List Int}(many:Nat)(w:World)(hm:many<=4)(h:oZ encI w v xs)(hl:xs.length<=40)(hok:∀n∈xs,0<=n/\n<many) :
 Calls Tryz.prog 179 #[.int .i64 (many:Int),v] w λr w'=>r=.returned (.bool true)/\Ext w w':=by
 obtain⟨A,c,rfl,_⟩:=id h;have b1:lH (many:Int) 0 4=true:=cK.2 (by omega);have hE:Ext w (w.alloc (.cells #[.int .i64 (many:Int)] 3)):=(af _).alloc _;have cB:(w.alloc (.cells #[.int .i64 (many:Int)] 3)).cell? ⟨w.heap.size,0,none⟩=some (.int .i64 (many:Int)):=aF rfl;have hcon:=tY (w.alloc (.cells #[.int .i64 (many:Int)] 3)) 221 #[.pointer (some ⟨w.heap.size,0,none⟩)] (λ_=>false) (h.ext hE) (by omega) Co (λx hx W hW=>AL x W hm (hW.cell cB) (hok x hx));rw[show (xs.any λ_=>false)=false by simp]at hcon;have HC:=aa hcon;have HE:=aa hE;have hlt:decide ((xs.length:Int)<=40)=true:=jw (by omega);clear h hok hcon hE;go_enter Tryz.func179,Tryz.ntmps179;go_wp2_with (first|(go_at_call 106;refine(eZ _ _ _ _).mono ?_;rw[b1];rintro e w' ⟨rfl,rfl⟩)|(go_at_call 131;refine HC.out.mono ?_;rintro e w' ⟨rfl,bb⟩;have B9:=aa (HE.out.trans bb)))
 go_returns;exact⟨rfl,B9.out⟩
theorem Nq{v u:Value}{p:List fI}{xs:List Int}(w:World)(h:yV w v p)(hp:eu p=true)(hx:oZ encI w u xs)(hl:xs.length<=40)(hok:∀n∈xs,0<=n/\n<p.length) :
 Calls Tryz.prog 143 #[v,u] w λr w'=>r=.returned (.bool true)/\Ext w w':=by
 obtain⟨A,c,rfl⟩:=h.slice;obtain⟨B,d,rfl,_⟩:=id hx;have h4:=jW hp;have HP:=aa (rT w h (by omega) (λd hd=>by have:=(iN (dO hp hd)).2;omega));have Py:=aa hp;have HS:=aa (λW (b:Ext w W)=>AY p.length W h4 (hx.ext b) hl hok);clear h hp hx hok;go_enter Tryz.func143,Tryz.ntmps143;go_wp2_with (first|(go_at_call 48;refine HP.out.mono ?_;rw[Py.out];rintro e w1 ⟨rfl,b1⟩)|(go_at_call 179;refine(HS.out _ b1).mono ?_;rintro e w2 ⟨rfl,b2⟩))
 go_returns;exact⟨rfl,b1.trans b2⟩
structure zJ (base M:Nat) (pv:Value) (W:World) (hv:Value) (rs:List jg) (h:List aG):Prop where
 mb:W.heap[M]? =some (.cells #[pv,hv] 164 (0,0))
 hl:rs.length=h.length
 hs:aL 3 encTxV W hv rs
 ho:Own base W hv
 hi:jD 48 W hv
 rows:∀(i:Nat) r t,rs[i]? =some r->h[i]? =some t->r.az=t.az/\r.done=t.done/\Row 67 3 encOpr base W r.dA t.ops
 apart:∀(i j:Nat) r r',i<j->rs[i]? =some r->rs[j]? =some r'->∀k,r.dA.ownBlock=some k->r'.dA.ownBlock≠some k
theorem zJ.m0{base M:Nat}{pv hv:Value}{W:World}{rs:List jg}{h:List aG}(H:zJ base M pv W hv rs h):W.cell? ⟨M,0,none⟩=some pv:=by simp[World.cell?,H.mb]
theorem zJ.m1{base M:Nat}{pv hv:Value}{W:World}{rs:List jg}{h:List aG}(H:zJ base M pv W hv rs h):W.cell? ⟨M,1,none⟩=some hv:=by simp[World.cell?,H.mb]
theorem Pt{I:TypeId}{X:Nat->Prop}{w w':World}{u:Value}(h:jD I w u)(k:dz X w w')(hx:∀a n c,u=.slice (some a) n c->0<n->¬X a.block):jD I w' u:=λa n c hu hn=>by obtain⟨cs,fr,hg⟩:=h a n c hu hn;exact⟨cs,fr,k.heap hg (hx a n c hu hn)⟩
theorem F6{lo:Nat}{X:Nat->Prop}{w w':World}{u:Value}(h:Own lo w u)(k:dz X w w')(hx:∀a n c,u=.slice (some a) n c->0<n->¬X a.block):Own lo w' u:=λa n c hu hn=>by obtain⟨h1,h2,h3⟩:=h a n c hu hn;exact⟨h1,bR h2 k.size,λi=>(k.frozen (p:=⟨a.block,i,none⟩) h2 (hx a n c hu hn)).trans (h3 i)⟩
def aa6(M:Nat)(hv:Value)(rs:List jg)(k:Nat):Prop:=k=M∨(∃a n c,hv=.slice (some a) n c/\0<n/\a.block=k)∨∃(i:Nat) (r:jg),rs[i]? =some r/\r.dA.ownBlock=some k
theorem zJ.frX{base M:Nat}{pv hv:Value}{X:Nat->Prop}{W W':World}{rs:List jg}{h:List aG}(H:zJ base M pv W hv rs h)(k:dz X W W')(hx:∀i,aa6 M hv rs i->¬X i):zJ base M pv W' hv rs h where
 mb:=k.heap H.mb (hx _ (.inl rfl))
 hl:=H.hl
 hs:=H.hs.frX k (λa n c e hn=>hx _ (.inr (.inl ⟨a,n,c,e,hn,rfl⟩)))
 ho:=F6 H.ho k (λa n c e hn=>hx _ (.inr (.inl ⟨a,n,c,e,hn,rfl⟩)))
 hi:=Pt H.hi k (λa n c e hn=>hx _ (.inr (.inl ⟨a,n,c,e,hn,rfl⟩)))
 rows i r t hr ht:=let ⟨a,b,c⟩:=H.rows i r t hr ht;⟨a,b,eU c k (λj e=>hx _ (.inr (.inr ⟨i,r,hr,e⟩)))⟩
 apart:=H.apart
theorem zJ.ext{base M:Nat}{pv hv:Value}{W W':World}{rs:List jg}{h:List aG}(H:zJ base M pv W hv rs h)(b:Ext W W'):zJ base M pv W' hv rs h where
 mb:=(dz.bK (X:=λ_=>False) b).heap H.mb (λh=>h)
 hl:=H.hl
 hs:=H.hs.ext b
 ho:=H.ho.ext b
 hi:=H.hi.ext b
 rows i r t hr ht:=let ⟨a,b',c⟩:=H.rows i r t hr ht;⟨a,b',c.ext b⟩
 apart:=H.apart
theorem zJ.his{base M:Nat}{pv hv:Value}{W:World}{rs:List jg}{h:List aG}(H:zJ base M pv W hv rs h):iM W hv h:=
 ⟨rs,H.hl,H.hs,λi r t hr ht=>let ⟨a,b,c⟩:=H.rows i r t hr ht;⟨a,b,c.cell.1,c.cap⟩⟩
theorem zJ.at{base M:Nat}{pv:Value}{W:World}{A:Option Addr}{n c:Nat}{rs:List jg}{h:List aG}(H:zJ base M pv W (.slice A n c) rs h){k:Nat}{t:aG}(ht:h[k]? =some t) :
 ∃b off r,A=some ⟨b,off,none⟩/\b<W.heap.size/\base<=b/\rs[k]? =some r/\W.cell? ⟨b,off+k*3,none⟩=some (.int .i64 t.az)/\W.cell? ⟨b,off+k*3+1,none⟩=some r.dA/\W.cell? ⟨b,off+k*3+2,none⟩=some (.bool t.done)/\Row 67 3 encOpr base W r.dA t.ops/\(∀i,W.frozen? ⟨b,i,none⟩=false)/\∃cs fr,W.heap[b]? =some (.cells cs 48 fr):=by
 have hk:k<rs.length:=by rw[H.hl];exact(bG.1 ht).1
 obtain⟨r,hr⟩:=ah hk;obtain⟨A',c',hA,hc⟩:=H.hs;have hn:n=rs.length:=by injection hA
 obtain⟨b,off,hb,hlt,hcell⟩:=hc (by omega);have hA1:A=some ⟨b,off,none⟩:=by injection hA with e1 _ _;rw[e1,hb]
 subst hA1;obtain⟨e1,e2,e3⟩:=H.rows k r t hr ht;obtain⟨o1,o2,o3⟩:=H.ho _ _ _ rfl (by omega);refine⟨b,off,r,rfl,hlt,o1,hr,?_,hcell k r hr 1 (by omega),?_,e3,o3,H.hi _ _ _ rfl (by omega)⟩
 ·have:=hcell k r hr 0 (by omega);rw[<-e1];exact this
 ·have:=hcell k r hr 2 (by omega);rw[<-e2];exact this
theorem yQ{α:Type}{m:Nat}{enc:α->Nat->Value}{w:World}{b off n c:Nat}{xs:List α}(h:aL m enc w (.slice (some ⟨b,off,none⟩) n c) xs){k j:Nat}(hk:k<xs.length)(hj:j<m)(x':α)(hx:∀x,xs[k]? =some x->∀i,i<m->i≠j->enc x' i=enc x i) :
 aL m enc (w.setCell ⟨b,off+k*m+j,none⟩ (enc x' j)) (.slice (some ⟨b,off,none⟩) n c) (xs.set k x'):=by
 obtain⟨A',c',e,hc⟩:=h;injection e with e1 e2 e3;subst e1 e2 e3;refine⟨_,_,by rw[iE],λhn=>?_⟩;rw[iE]at hn;obtain⟨b',off',e,hbl,hc⟩:=hc hn;injection e with e;injection e with e1 e2;subst e1 e2;refine⟨b,off,rfl,by simpa[World.setCell] using hbl,λi z hz q hq=>?_⟩;rw[iO]at hz;by_cases hi:k=i
 ·subst hi;rw[aj rfl,aj hk]at hz;cases hz;obtain⟨x,hx0⟩:=ah hk;by_cases hqj:q=j
  ·subst hqj;exact fJ (hc k x hx0 q hq) _
  ·rw[aC (by intro e;injection e with _ e _;omega),hc k x hx0 q hq,hx x hx0 q hq hqj]
 ·rw[au hi]at hz;rw[aC (by
   intro e;injection e with _ e _;have h1:k*m+j=i*m+q:=by omega
   have h2:(k*m+j)/m=(i*m+q)/m:=by rw[h1]
   rw[Nat.mul_comm k m,Nat.mul_comm i m,Nat.mul_add_div (by omega),Nat.mul_add_div (by omega),Nat.div_eq_of_lt hj,Nat.div_eq_of_lt hq]at h2
   omega)]
  exact hc i z hz q hq
def mD(w w':World):Prop:=w.heap.size<=w'.heap.size/\∀(k:Nat) (cs:Array Value) (t:TypeId) (fr:Nat × Nat),w.heap[k]? =some (Obj.cells cs t fr)->t≠48->t≠67->w'.heap[k]? =w.heap[k]?
theorem mD.bK{w w':World}(h:Ext w w'):mD w w':=⟨h.size,λk _ _ _ hk _ _=>Below.block h k (fF.1 hk).1⟩
theorem mD.trans{a b c:World}(h:mD a b)(k:mD b c):mD a c:=
 ⟨aX h.1 k.1,λi cs t fr hi h1 h2=>(k.2 i cs t fr ((h.2 i cs t fr hi h1 h2).trans hi) h1 h2).trans (h.2 i cs t fr hi h1 h2)⟩
theorem mD.DU{X:Nat->Prop}{w w':World}(h:dz X w w')(hx:∀k,X k->∃cs t fr,w.heap[k]? =some (Obj.cells cs t fr)/\(t=48∨t=67)):mD w w':=
 ⟨h.size,λk cs t fr hk h1 h2=>h.block k (fF.1 hk).1 (λhX=>by
  obtain⟨cs',t',fr',hk',ht⟩:=hx k hX;rw[hk]at hk';injection hk' with hk';injection hk' with _ e _;subst e;rcases ht with e|e
  ·exact h1 e
  ·exact h2 e)⟩
theorem dW{α:Type}{e:TypeId}{m:Nat}{enc:α->Nat->Value}{base:Nat}{W:World}{v:Value}{xs:List α}(h:Row e m enc base W v xs){k:Nat}(hk:v.ownBlock=some k):∃cs,W.heap[k]? =some (.cells cs e (0,0)):=by
 rcases h.2 with ⟨rfl,_⟩|⟨g,cap,cur,rfl,h1,h2,h3⟩
 ·cases hk
 ·have e1:g=k:=by simpa[Value.ownBlock] using hk
  subst e1;exact⟨cur,h2⟩
theorem jU{α:Type}{e:TypeId}{m:Nat}{enc:α->Nat->Value}{base:Nat}{W:World}{v:Value}{xs:List α}(h:Row e m enc base W v xs){k:Nat}(hk:v.ownBlock=some k):base<=k/\k<W.heap.size:=World.ownsRow.lt h k hk
theorem zJ.I4{base M n:Nat}{pv:Value}{W W3:World}{b off nn c:Nat}{rs:List jg}{h:List aG}{r:jg}{t:aG}{v3:Value}{o:aV}(H:zJ base M pv W (.slice (some ⟨b,off,none⟩) nn c) rs h)(hr:rs[n]? =some r)(ht:h[n]? =some t)(hnn:0<nn)
 (P:dz (λk=>r.dA.ownBlock=some k) W W3) (hp:Row 67 3 encOpr base W3 v3 (t.ops++[o])) (hv:v3.ownBlock=r.dA.ownBlock∨∃k,v3.ownBlock=some k/\W.heap.size<=k) :
 zJ base M pv (W3.setCell ⟨b,off+n*3+1,none⟩ v3) (.slice (some ⟨b,off,none⟩) nn c) (rs.set n ⟨r.az,v3,r.done⟩) (h.set n ⟨t.az,t.ops++[o],t.done⟩)/\mD W (W3.setCell ⟨b,off+n*3+1,none⟩ v3):=by
 obtain⟨e1,e2,hrow⟩:=H.rows n r t hr ht;obtain⟨YT,Wu,hgb⟩:=H.hi _ _ _ rfl hnn;simp only at hgb;have hbl:b<W.heap.size:=(fF.1 hgb).1;have nb:r.dA.ownBlock≠some b:=λe=>by obtain⟨cs,hg⟩:=dW hrow e;rw[hgb]at hg;injection hg with hg;injection hg with _ e _;exact absurd e (by decide)
 have ND:=P.heap hgb nb;have nb3:v3.ownBlock≠some b:=λe=>by obtain⟨cs,hg⟩:=dW hp e;rw[ND]at hg;injection hg with hg;injection hg with _ e _;exact absurd e (by decide)
 have nM:M≠b:=λe=>by
  subst e
  have:=H.mb
  rw[hgb]at this;injection this with this;injection this with _ e _;exact absurd e (by decide)
 have nM2:r.dA.ownBlock≠some M:=λe=>by obtain⟨cs,hg⟩:=dW hrow e;rw[H.mb]at hg;injection hg with hg;injection hg with _ e _;exact absurd e (by decide)
 have S:dz (λk=>k=b) W3 (W3.setCell ⟨b,off+n*3+1,none⟩ v3):=(dz.refl (λk=>k=b) W3).setCell (p:=⟨b,off+n*3+1,none⟩) (.inl rfl) _;have hA:∀a n' c',(Value.slice (some ⟨b,off,none⟩) nn c)=.slice (some a) n' c'->0<n'->r.dA.ownBlock≠some a.block:=λa n' c' e _=>by injection e with e _ _;injection e with e;subst e;exact nb
 have hs3:=H.hs.frX P (λa n' c' e hn=>hA a n' c' e hn);have hn:n<rs.length:=(bG.1 hr).1;refine⟨⟨S.heap (P.heap H.mb nM2) nM,by rw[iE,iE];exact H.hl,?_,?_,?_,?_,?_⟩,?_⟩
 ·exact yQ hs3 hn (by omega) ⟨r.az,v3,r.done⟩ (λx hx i hi hne=>by
   rw[hr]at hx;cases hx
   match i,hi with
   | 0,_=>rfl
   | 1,_=>exact absurd rfl hne
   | 2,_=>rfl)
 ·have h3:=F6 H.ho P (λa n' c' e hn=>hA a n' c' e hn);intro a n' c' e hn';obtain⟨x1,x2,x3⟩:=h3 a n' c' e hn';refine⟨x1,by simpa[World.setCell] using x2,λi=>?_⟩;have h0:(0:Nat)<1:=by omega
  have:=(Only.setCell (a:=⟨b,0,none⟩) (n:=1) (c:=1) (w:=W3) h0 (off+n*3+1) v3).wY ⟨a.block,i,none⟩ x2
  rw[this];exact x3 i
 ·intro a n' c' e hn';injection e with e _ _;injection e with e;subst e;obtain⟨hlt,hk⟩:=fF.1 ND;refine⟨YT.setIfInBounds (off+n*3+1) v3,Wu,?_⟩;simp only[World.setCell,lW,ND];simp
 ·intro i x y hx hy;rw[iO]at hx hy;by_cases hi:n=i
  ·subst hi;rw[aj rfl,aj hn]at hx;rw[aj rfl,aj (by rw[<-H.hl];exact hn)]at hy;cases hx;cases hy;exact⟨e1,e2,eU hp S (λj e hj=>nb3 (by rw[e,hj]))⟩
  ·rw[au hi]at hx hy;obtain⟨d1,d2,d3⟩:=H.rows i x y hx hy;have hap:∀k,x.dA.ownBlock=some k->r.dA.ownBlock≠some k:=λk hk hk'=>by
    rcases eP n i with hlt|hge
    ·exact H.apart n i r x hlt hr hx k hk' hk
    ·exact H.apart i n x r (by omega) hx hr k hk hk'
   have d4:=eU d3 P hap;refine⟨d1,d2,eU d4 S (λj e hj=>?_)⟩;obtain⟨cs,hg⟩:=dW d3 e;rw[hj,hgb]at hg;injection hg with hg;injection hg with _ e _;exact absurd e (by decide)
 ·intro i j x y hij hx hy k hk hk';rw[iO]at hx hy;have old:∀(i:Nat) (x:jg),n≠i->rs[i]? =some x->∀k,x.dA.ownBlock=some k->v3.ownBlock≠some k:=λi x hne hx k hk hk'=>by
   obtain⟨y,hy⟩:=ah (show i<h.length by rw[<-H.hl];exact(bG.1 hx).1);have hrow':=(H.rows i x y hx hy).2.2;rcases hv with e|⟨q,e,hq⟩
   ·rw[e]at hk';rcases eP n i with hlt|hge
    ·exact H.apart n i r x hlt hr hx k hk' hk
    ·exact H.apart i n x r (by omega) hx hr k hk hk'
   ·rw[e]at hk';injection hk' with hk'
    have:=(jU hrow' hk).2
    omega
  by_cases hi:n=i
  ·subst hi;rw[aj rfl,aj hn]at hx;rw[au (by omega)]at hy;cases hx;exact old j y (by omega) hy k hk' hk
  ·rw[au hi]at hx;by_cases hj:n=j
   ·subst hj;rw[aj rfl,aj hn]at hy;cases hy;exact old i x hi hx k hk hk'
   ·rw[au hj]at hy;exact H.apart i j x y hij hx hy k hk hk'
 ·refine(mD.DU P (λk hk=>?_)).trans (mD.DU S (λk hk=>?_))
  ·obtain⟨cs,hg⟩:=dW hrow hk;exact⟨cs,_,_,hg,.inr rfl⟩
  ·subst hk;exact⟨YT,_,Wu,ND,.inl rfl⟩
theorem Tj{base M n:Nat}{pv hv:Value}{W:World}{rs:List jg}{h:List aG}{t:aG}(o:aV)(H:zJ base M pv W hv rs h)(ht:h[n]? =some t)(hn4:n<4)(TA:t.ops.length<=6)(hbase:base<=W.heap.size){w0:World}(hw0:Ext w0 W)(hb0:w0.heap.size<=base)(hbM:base<=M){p:List fI}{d:fI}(HP:yV w0 pv p)(hd:p[n]? =some d)(hdl:d.steps.length<=4)(hhl:h.length<=4) :
 Calls Tryz.prog 147 #[.pointer (some ⟨M,0,none⟩),.int .i64 (n:Int),.agg #[.int .i64 o.kind,.int .i64 o.key,.int .i64 o.value]] W λe W'=>e=.returned (.bool (decide (t.ops.length+1=d.steps.length)))/\Ext w0 W'/\mD W W'/\∃rs',zJ base M pv W' hv rs' (h.set n ⟨t.az,t.ops++[o],t.done⟩):=by
 obtain⟨Ap,cp,rfl⟩:=HP.slice;obtain⟨A,nn,c,rfl⟩:∃A nn c,hv=.slice A nn c:=by obtain⟨A,c,e,_⟩:=H.hs;exact⟨A,_,c,e⟩
 have hnn:nn=h.length:=by obtain⟨A,c,e,_⟩:=H.hs;injection e with _ e _;rw[e,H.hl]
 subst hnn;have hE:=(af W).alloc (.cells #[.int .i64 o.kind,.int .i64 o.key,.int .i64 o.value] 67);have H1:=H.ext hE;obtain⟨b,off,r,rfl,hb,hbb,hr,c0,c1,c2,hrow,hfr,hty⟩:=H1.at ht;have hnl:n<h.length:=(bG.1 ht).1;have m1:=H1.m1;have q0:(W.alloc (.cells #[.int .i64 o.kind,.int .i64 o.key,.int .i64 o.value] 67)).cell? ⟨W.heap.size,0,none⟩=some (.int .i64 o.kind):=aF rfl;have q1:(W.alloc (.cells #[.int .i64 o.kind,.int .i64 o.key,.int .i64 o.value] 67)).cell? ⟨W.heap.size,1,none⟩=some (.int .i64 o.key):=aF rfl;have q2:(W.alloc (.cells #[.int .i64 o.kind,.int .i64 o.key,.int .i64 o.value] 67)).cell? ⟨W.heap.size,2,none⟩=some (.int .i64 o.value):=aF rfl;obtain⟨v3,w3,hrun,hp⟩:=yj (w0:=(W.alloc (.cells #[.int .i64 o.kind,.int .i64 o.key,.int .i64 o.value] 67)).drew) (w:=(W.alloc (.cells #[.int .i64 o.kind,.int .i64 o.key,.int .i64 o.value] 67)).drew) (W.heap.size+1) (by simp) (hrow.ext (af _).drew) (af _) o (by simp;omega) (by omega);have MU:Ext (W.alloc (.cells #[.int .i64 o.kind,.int .i64 o.key,.int .i64 o.value] 67)) ((W.alloc (.cells #[.int .i64 o.kind,.int .i64 o.key,.int .i64 o.value] 67)).alloc (.cells #[.int .i64 o.kind,.int .i64 o.key,.int .i64 o.value] 67)):=(af _).alloc _;have e1m:=MU.cell m1;have e1c:=MU.cell c1;have adu:=MU.cell q0;have aea:=MU.cell q1;have acY:=MU.cell q2;have FZ:=(dz.bK (X:=λk=>r.dA.ownBlock=some k) (af (W.alloc (.cells #[.int .i64 o.kind,.int .i64 o.key,.int .i64 o.value] 67))).drew).trans (jV (u:=w0) (hrow.ext (af _).drew) hp ((hw0.trans hE).drew) hb0);have hrW:=(H.rows n r t hr ht).2.2;have nq:r.dA.ownBlock≠some W.heap.size:=λe=>by have:=(jU hrW e).2;omega
 have nb:r.dA.ownBlock≠some b:=λe=>by obtain⟨cs,hg⟩:=dW hrow e;obtain⟨cs',fr',hg'⟩:=hty;rw[hg']at hg;injection hg with hg;injection hg with _ e _;exact absurd e (by decide)
 have nM:r.dA.ownBlock≠some M:=λe=>by obtain⟨cs,hg⟩:=dW hrow e;rw[H1.mb]at hg;injection hg with hg;injection hg with _ e _;exact absurd e (by decide)
 have e3m:=FZ.cell (p:=⟨M,1,none⟩) m1 nM;have e3c:=FZ.cell (p:=⟨b,off+n*3+1,none⟩) c1 nb;have Xf:=FZ.cell (p:=⟨W.heap.size,0,none⟩) q0 nq;have WI:=FZ.cell (p:=⟨W.heap.size,1,none⟩) q1 nq;have acP:=FZ.cell (p:=⟨W.heap.size,2,none⟩) q2 nq;have e3f:∀i,w3.frozen? ⟨b,i,none⟩=false:=λi=>(FZ.frozen (p:=⟨b,i,none⟩) hb nb).trans (hfr i);have adt:=e3f (off+n*3+1);have afV:=aa e3f;clear e3f MU;obtain⟨g3,c3,hv3,_⟩:=nZ hp.1 (by simp);rw[dw,oN]at hv3;subst hv3;obtain⟨N1,N2⟩:=H1.I4 hr ht (by omega) FZ hp.1 hp.2.2.2;have X4:Ext w0 (w3.setCell ⟨b,off+n*3+1,none⟩ (.slice (some ⟨g3,0,none⟩) (t.ops.length+1) c3)):=(dz.out (hw0.trans hE) FZ (λi e=>by have:=(jU hrow e).1;omega)).setCell (by simp;omega) _;obtain⟨bp,op,rfl,hbp,hcp⟩:=HP.head (by have:=(bG.1 hd).1;omega);obtain⟨ovp,d0,d1,hsp⟩:=hcp n d hd;replace d1:=X4.cell d1;obtain⟨Asp,csp,rfl,_⟩:=id hsp;have hpn:n<p.length:=(bG.1 hd).1;have z0:=N1.m0;have z1:=N1.m1;have z2:=fJ e3c (.slice (some ⟨g3,0,none⟩) (t.ops.length+1) c3);have HN1:=aa N1;have vT:=aa N2;have JO:=aa X4;have HKE:=aa (mD.bK hE);clear hcp d0 hsp N1 N2 X4 hp afV FZ hrW nq nb nM hrow hfr hty H1 H hw0 HP hE hr ht hd hb hbp hbb hb0 hbM hbase;have bH:Hid ((Builtin.append_ #[46,46] 46 #[r.dA,.slice (some ⟨W.heap.size+1,0,none⟩) 1 1]).run Tryz.prog ((W.alloc (.cells #[.int .i64 o.kind,.int .i64 o.key,.int .i64 o.value] 67)).alloc (.cells #[.int .i64 o.kind,.int .i64 o.key,.int .i64 o.value] 67)).drew=.ok (.slice (some ⟨g3,0,none⟩) (t.ops.length+1) c3) w3):=hrun;clear hrun;go_enter Tryz.func147,Tryz.ntmps147;go_wp2;refine nJ 16 (λV=>V.cell? ⟨M,1,none⟩=some (.slice (some ⟨b,off,none⟩) h.length c)/\V.cell? ⟨b,off+n*3+1,none⟩=some r.dA/\V.cell? ⟨W.heap.size,0,none⟩=some (.int .i64 o.kind)/\V.cell? ⟨W.heap.size,1,none⟩=some (.int .i64 o.key)/\V.cell? ⟨W.heap.size,2,none⟩=some (.int .i64 o.value)) (by kernel_rfl) (by kernel_rfl) ?_;simp only[List.take_succ_cons,aaD,List.drop_succ_cons,oP];have hHeld:(λV:World=>V.cell? ⟨M,1,none⟩=some (.slice (some ⟨b,off,none⟩) h.length c)/\V.cell? ⟨b,off+n*3+1,none⟩=some r.dA/\V.cell? ⟨W.heap.size,0,none⟩=some (.int .i64 o.kind)/\V.cell? ⟨W.heap.size,1,none⟩=some (.int .i64 o.key)/\V.cell? ⟨W.heap.size,2,none⟩=some (.int .i64 o.value)) (W.alloc (.cells #[.int .i64 o.kind,.int .i64 o.key,.int .i64 o.value] 67)).drew:=⟨m1,c1,q0,q1,q2⟩;refine fG 0 (.pointer (some ⟨M,0,none⟩)) rfl (iK ⟨by rfl,λV ⟨s1,s2,s3,s4,s5⟩=>by go_simp⟩) hHeld ?_;try go_frame
 refine fG 1 (.pointer (some ⟨M,0,none⟩)) rfl (iK ⟨by rfl,λV ⟨s1,s2,s3,s4,s5⟩=>by go_simp⟩) hHeld ?_;try go_frame
 refine fG 2 (.pointer (some ⟨M,1,none⟩)) rfl (iK ⟨by rfl,λV ⟨s1,s2,s3,s4,s5⟩=>by go_simp⟩) hHeld ?_;try go_frame
 refine fG 3 (.slice (some ⟨b,off,none⟩) h.length c) rfl (iK ⟨by rfl,λV ⟨s1,s2,s3,s4,s5⟩=>by go_simp⟩) hHeld ?_;try go_frame
 refine fG 4 (.int .i64 (n:Int)) rfl (iK ⟨by rfl,λV ⟨s1,s2,s3,s4,s5⟩=>by go_simp⟩) hHeld ?_;try go_frame
 refine fG 5 (.pointer (some ⟨M,0,none⟩)) rfl (iK ⟨by rfl,λV ⟨s1,s2,s3,s4,s5⟩=>by go_simp⟩) hHeld ?_;try go_frame
 refine fG 6 (.pointer (some ⟨M,0,none⟩)) rfl (iK ⟨by rfl,λV ⟨s1,s2,s3,s4,s5⟩=>by go_simp⟩) hHeld ?_;try go_frame
 refine fG 7 (.pointer (some ⟨M,1,none⟩)) rfl (iK ⟨by rfl,λV ⟨s1,s2,s3,s4,s5⟩=>by go_simp⟩) hHeld ?_;try go_frame
 refine fG 8 (.slice (some ⟨b,off,none⟩) h.length c) rfl (iK ⟨by rfl,λV ⟨s1,s2,s3,s4,s5⟩=>by go_simp⟩) hHeld ?_;try go_frame
 refine fG 9 (.int .i64 (n:Int)) rfl (iK ⟨by rfl,λV ⟨s1,s2,s3,s4,s5⟩=>by go_simp⟩) hHeld ?_;try go_frame
 refine fG 10 (.pointer (some ⟨b,off+n*3,none⟩)) rfl (iK ⟨by rfl,λV ⟨s1,s2,s3,s4,s5⟩=>by go_simp⟩) hHeld ?_;try go_frame
 refine fG 11 (.pointer (some ⟨b,off+n*3+1,none⟩)) rfl (iK ⟨by rfl,λV ⟨s1,s2,s3,s4,s5⟩=>by go_simp⟩) hHeld ?_;try go_frame
 refine fG 12 (r.dA) rfl (iK ⟨by rfl,λV ⟨s1,s2,s3,s4,s5⟩=>by go_simp⟩) hHeld ?_;try go_frame
 refine fG 13 (.agg #[.int .i64 o.kind,.int .i64 o.key,.int .i64 o.value]) rfl (iK ⟨by rfl,λV ⟨s1,s2,s3,s4,s5⟩=>by go_simp⟩) hHeld ?_;try go_frame
 refine aO (rs:=[14]) (by kernel_rfl) (by simp) ?_;refine aY rfl (λK hK=>?_) bu;go_simp;refine hK.out _ _ ?_ (λhH2=>?_)
 ·exact⟨e1m,e1c,adu,aea,acY⟩
 clear hK K;try go_frame
 refine aO (rs:=[15]) (by kernel_rfl) (by simp) ?_;refine aY rfl (λK hK=>?_) bu;refine aP (by rfl) (by rfl) (by rfl) (by rfl) bH.out ?_;refine hK.out _ _ ?_ (λhH3=>?_)
 ·exact⟨e3m,e3c,Xf,WI,acP⟩
 clear hK K;try go_frame
 refine ji (by kernel_rfl) ?_ _;show wpList _ _ _ _ _ _;clear hHeld hH2 hH3 e1m e1c adu aea acY Xf WI acP q0 q1 q2 c0 c1 c2 m1;have hres:Hid ((((t.ops.length:Int)+1)==(d.steps.length:Int))=decide (t.ops.length+1=d.steps.length)):=by show _ = _;rw[kQ];simp;omega
 have hl0:(0:Int)<=(t.ops.length:Int):=by omega
 have hl1:(t.ops.length:Int)<=6:=by omega
 go_wp2;go_region_held3 (λV=>V.cell? ⟨M,1,none⟩=some (.slice (some ⟨b,off,none⟩) h.length c)/\V.cell? ⟨b,off+n*3+1,none⟩=some (.slice (some ⟨g3,0,none⟩) (t.ops.length+1) c3)/\V.cell? ⟨M,0,none⟩=some (.slice (some ⟨bp,op,none⟩) p.length cp)/\V.cell? ⟨bp,op+n*2+1,none⟩=some (.slice Asp d.steps.length csp)) (go_keep) (fail)
 clear z0 z1 z2 d1;go_wp2;go_returns;exact⟨aS hres.out,JO.out.drew,HKE.out.trans (vT.out.trans (mD.bK (af _).drew)),_,HN1.out.ext (af _).drew⟩
structure Kg (base M:Nat) (pv:Value) (W:World) (hv:Value) (rs:List jg) (h:List aG):Prop where
 mb:W.heap[M]? =some (.cells #[pv,hv] 164 (0,0))
 hl:rs.length=h.length
 hr:Row 48 3 encTxV base W hv rs
 rows:∀(i:Nat) r t,rs[i]? =some r->h[i]? =some t->r.az=t.az/\r.done=t.done/\Row 67 3 encOpr base W r.dA t.ops
 apart:∀(i j:Nat) r r',i<j->rs[i]? =some r->rs[j]? =some r'->∀k,r.dA.ownBlock=some k->r'.dA.ownBlock≠some k
theorem Kg.done{base M:Nat}{pv hv:Value}{W:World}{rs:List jg}{h:List aG}(H:Kg base M pv W hv rs h):zJ base M pv W hv rs h:=
 ⟨H.mb,H.hl,H.hr.cell.1,H.hr.cell.2,H.hr.Gl,H.rows,H.apart⟩
theorem Kg.ext{base M:Nat}{pv hv:Value}{W W':World}{rs:List jg}{h:List aG}(H:Kg base M pv W hv rs h)(b:Ext W W'):Kg base M pv W' hv rs h:=
 ⟨(dz.bK (X:=λ_=>False) b).heap H.mb (λh=>h),H.hl,H.hr.ext b,λi r t hr ht=>let ⟨a,b',c⟩:=H.rows i r t hr ht;⟨a,b',c.ext b⟩,H.apart⟩
theorem Gg(x:jg)(hx:∃A n c,x.dA=.slice A n c)(j:Nat):(encTxV x j).oneCell'=true:=by
 obtain⟨A,n,c,e⟩:=hx
 match j with
 | 0=>rfl
 | 1=>show x.dA.oneCell'=true;rw[e];rfl
 | _+2=>rfl
theorem Kg.push{base M:Nat}{pv hv v':Value}{W w3:World}{rs:List jg}{h:List aG}{x:jg}{t:aG}(H:Kg base M pv W hv rs h)(hM:hv.ownBlock≠some M)(hp:ni 48 3 encTxV base W w3 hv v' (rs++[x])){u:World}(hu:Ext u W)(hl:u.heap.size<=base)(hrow:Row 67 3 encOpr base W x.dA t.ops)(hx:x.az=t.az/\x.done=t.done)
 (hnew:∀(i:Nat) r,rs[i]? =some r->∀k,r.dA.ownBlock=some k->x.dA.ownBlock≠some k):Kg base M pv (w3.setCell ⟨M,1,none⟩ v') v' (rs++[x]) (h++[t]):=by
 have P:=jV H.hr hp hu hl;have hm3:=P.heap H.mb hM;have nm:∀{w:World} {v:Value} {xs:List jg},Row 48 3 encTxV base w v xs->w.heap[M]? =some (.cells #[pv,hv] 164 (0,0))->v.ownBlock≠some M:=λhr hm e=>by obtain⟨cs,hg⟩:=dW hr e;rw[hm]at hg;injection hg with hg;injection hg with _ e _;exact absurd e (by decide)
 have nmo:∀{w:World} {v:Value} {xs:List aV},Row 67 3 encOpr base w v xs->w.heap[M]? =some (.cells #[pv,hv] 164 (0,0))->v.ownBlock≠some M:=λhr hm e=>by obtain⟨cs,hg⟩:=dW hr e;rw[hm]at hg;injection hg with hg;injection hg with _ e _;exact absurd e (by decide)
 have S:dz (λk=>k=M) w3 (w3.setCell ⟨M,1,none⟩ v'):=(dz.refl (λk=>k=M) w3).setCell (p:=⟨M,1,none⟩) (.inl rfl) _;have nvo:∀{v:Value} {xs:List aV},Row 67 3 encOpr base W v xs->∀k,v.ownBlock=some k->hv.ownBlock≠some k:=λhr k e e'=>by obtain⟨cs,hg⟩:=dW hr e;obtain⟨cs',hg'⟩:=dW H.hr e';rw[hg]at hg';injection hg' with hg';injection hg' with _ e _;exact absurd e (by decide)
 have keep:∀{v:Value} {xs:List aV},Row 67 3 encOpr base W v xs->Row 67 3 encOpr base (w3.setCell ⟨M,1,none⟩ v') v xs:=λhr=>by have h3:=eU hr P (λk e e'=>nvo hr k e e');exact eU h3 S (λk e e'=>nmo h3 hm3 (by rw[e,e']))
 refine⟨?_,by simp[H.hl],?_,?_,?_⟩
 ·simp only[World.setCell,lW,hm3];simp
 ·exact eU hp.1 S (λk e e'=>nm hp.1 hm3 (by rw[e,e']))
 ·intro i r y hr hy;rw[MS]at hr hy;split at hr
  ·rename_i hi;rw[aj (by rw[<-H.hl];exact hi)]at hy;obtain⟨a,b,c⟩:=H.rows i r y hr hy;exact⟨a,b,keep c⟩
  ·rename_i hi;have hi0:i-rs.length=0:=by
    have:=(bG.1 hr).1
    simp at this;omega
   rw[au (by rw[<-H.hl];exact hi),<-H.hl,hi0]at hy;rw[hi0]at hr;simp at hr hy;subst hr hy;exact⟨hx.1,hx.2,keep hrow⟩
 ·intro i j r r' hij hr hr';rw[MS]at hr hr';split at hr'
  ·rename_i hj;rw[aj (by omega)]at hr;exact H.apart i j r r' hij hr hr'
  ·rename_i hj;have hj0:j-rs.length=0:=by
    have:=(bG.1 hr').1
    simp at this;omega
   rw[hj0]at hr';simp at hr';subst hr';rw[aj (by omega)]at hr;exact hnew i r hr
theorem Vb:(Tryz.prog.info? 67).map (λi=>(i.zero,i.size,i.bytes))=some (some (.agg #[.int .i64 0,.int .i64 0,.int .i64 0]),3,24):=by kernel_rfl
theorem Kj{pv:Value}{p:List fI}(W:World)(HP:yV W pv p)(TR:p.length<=4)(hst:∀d∈p,d.steps.length<=4) :
 Calls Tryz.prog 144 #[pv] W λe W'=>∃hv rs,e=.returned (.pointer (some ⟨W.heap.size,0,none⟩))/\zJ W.heap.size W.heap.size pv W' hv rs (iq p).h/\Ext W W':=by
 obtain⟨A,c,rfl⟩:=HP.slice;have HPH:=aa HP;have HST:=aa hst;have HM0:Hid (Kg W.heap.size W.heap.size (.slice A p.length c) (W.alloc (.cells #[.slice A p.length c,.slice none 0 0] 164)) (.slice none 0 0) [] ((iq p).h.take 0)):=
  ⟨dP W _,by simp,Row.nil,λ_ _ _ h=>by simp at h,λ_ _ _ _ _ h=>by simp at h⟩
 have HE0:=aa ((af W).alloc (.cells #[.slice A p.length c,.slice none 0 0] 164));clear HP hst;go_enter Tryz.func144,Tryz.ntmps144;go_wp2;go_loopw [11] (λi wr=>Hid (Ext W wr)/\∃k:Nat,k<=p.length/\i=.int .i64 k/\Hid (∃hv rs,Kg W.heap.size W.heap.size (.slice A p.length c) wr hv rs ((iq p).h.take k))) (λi _=>p.length-(intOf i).toNat)
 case atStart=>exact⟨HE0.out,0,aT _,rfl,_,_,HM0.out⟩
 case round=>
  clear HM0 HE0;obtain⟨HB,k,hk,rfl,HI⟩:=hrel;by_cases hlt:k<p.length
  ·obtain⟨b,off,rfl,hbl,hcc⟩:=HPH.out.head (by omega);obtain⟨d,hd⟩:=ah hlt;obtain⟨ov,c0,c1,hs⟩:=hcc k d hd;replace c0:=HB.out.cell c0;replace c1:=HB.out.cell c1;obtain⟨As,cs,rfl,_⟩:=id hs;have hd4:=HST.out d (aM hd);obtain⟨hv,rs,H⟩:=HI.out;obtain⟨Ah,ch,rfl,_⟩:=id H.hr.cell.1;have hrl:rs.length<=4:=by rw[H.hl,eY];omega
   have hmk:=jo (P:=Tryz.prog) 46 67 eG Vb d.steps.length (by omega) (by omega);have hbase:=HB.out.size;obtain⟨MC,hMC,hMS⟩:∃MC,(∀V:World,(Instr.makeSlice 46 (.int .i64 0) (.int .i64 (d.steps.length:Int))).run Tryz.prog V=.ok (.slice (some ⟨V.heap.size,0,none⟩) 0 d.steps.length) (V.alloc (.cells MC 67)))/\MC.size=d.steps.length*3:=⟨_,hmk,size_madeCells _ _⟩;clear hmk;have b0:Ext wr (wr.alloc (.cells #[.int .i64 d.az,.slice As d.steps.length cs] 79)):=(af wr).alloc _;have b1:Ext wr ((wr.alloc (.cells #[.int .i64 d.az,.slice As d.steps.length cs] 79)).alloc (.cells MC 67)).drew:=(((af wr).alloc _).alloc _).drew;have H1:=H.ext b1;have hro:=lC (w:=(wr.alloc (.cells #[.int .i64 d.az,.slice As d.steps.length cs] 79)).drew) (E:=67) (m:=3) (enc:=encOpr) MC d.steps.length (by unfold maxLen;omega) hMS;rw[show (wr.alloc (.cells #[.int .i64 d.az,.slice As d.steps.length cs] 79)).drew.heap.size=wr.heap.size+1 from by show (wr.alloc _).heap.size = _;simp]at hro;have ad3:Row 67 3 encOpr W.heap.size ((wr.alloc (.cells #[.int .i64 d.az,.slice As d.steps.length cs] 79)).alloc (.cells MC 67)).drew (.slice (some ⟨wr.heap.size+1,0,none⟩) 0 d.steps.length) []:=Row.low hro (by omega);obtain⟨v3,w3,hrun,hp⟩:=jY (wr.heap.size+1+1) (by show ((wr.alloc _).alloc _).heap.size = _;simp) kC pW rfl (by omega) H1.hr (af _) (⟨d.az,.slice (some ⟨wr.heap.size+1,0,none⟩) 0 d.steps.length,false⟩:jg) (Gg _ ⟨_,_,_,rfl⟩) _ rfl (aX hbase b1.size) (by omega) (by omega);have m1:wr.cell? ⟨W.heap.size,1,none⟩=some (.slice Ah rs.length ch):=by simp[World.cell?,H.mb]
   have mf:wr.frozen? ⟨W.heap.size,1,none⟩=false:=by simp[World.frozen?,H.mb]
   have hMl:W.heap.size<wr.heap.size:=(fF.1 H.mb).1;have nMw:(Value.slice Ah rs.length ch).ownBlock≠some W.heap.size:=λe=>by obtain⟨cs',hg⟩:=dW H.hr e;rw[H.mb]at hg;injection hg with hg;injection hg with _ e _;exact absurd e (by decide)
   have nqw:(Value.slice Ah rs.length ch).ownBlock≠some wr.heap.size:=λe=>by have:=(jU H.hr e).2;omega
   have FZ:=jV (u:=W) H1.hr hp (HB.out.trans b1) (av _);obtain⟨g3,c3,hv3,_⟩:=nZ hp.1 (by simp);rw[dw,oN]at hv3;subst hv3;have HN:=aa (H1.push (t:=⟨d.az,[],false⟩) nMw hp (HB.out.trans b1) (av _) ad3 ⟨rfl,rfl⟩ (λi r hr k2 hk e=>by
    obtain⟨y,hy⟩:=ah (show i<((iq p).h.take k).length by rw[<-H.hl];exact(bG.1 hr).1)
    have:=(jU (H.rows i r y hr hy).2.2 hk).2
    simp only[Value.ownBlock,Option.some.injEq]at e
    omega))
   have BS:=aa ((dz.out (HB.out.trans b1) FZ (λi e=>(jU H.hr e).1)).setCell (p:=⟨W.heap.size,1,none⟩) (av _) (.slice (some ⟨g3,0,none⟩) (rs.length+1) c3));have q0:(wr.alloc (.cells #[.int .i64 d.az,.slice As d.steps.length cs] 79)).cell? ⟨wr.heap.size,0,none⟩=some (.int .i64 d.az):=aF rfl;have q1:(wr.alloc (.cells #[.int .i64 d.az,.slice As d.steps.length cs] 79)).cell? ⟨wr.heap.size,1,none⟩=some (.slice As d.steps.length cs):=aF rfl;have a2:Ext (wr.alloc (.cells #[.int .i64 d.az,.slice As d.steps.length cs] 79)) (((wr.alloc (.cells #[.int .i64 d.az,.slice As d.steps.length cs] 79)).alloc (.cells MC 67))):=(af _).alloc _;have a3:Ext (wr.alloc (.cells #[.int .i64 d.az,.slice As d.steps.length cs] 79)) (((wr.alloc (.cells #[.int .i64 d.az,.slice As d.steps.length cs] 79)).alloc (.cells MC 67)).alloc (.cells #[.int .i64 d.az,.slice (some ⟨wr.heap.size+1,0,none⟩) 0 d.steps.length,.bool false] 48)):=((af _).alloc _).alloc _;have hH1:(λV:World=>V.cell? ⟨W.heap.size,1,none⟩=some (.slice Ah rs.length ch)/\V.cell? ⟨wr.heap.size,0,none⟩=some (.int .i64 d.az)/\V.cell? ⟨wr.heap.size,1,none⟩=some (.slice As d.steps.length cs)) (wr.alloc (.cells #[.int .i64 d.az,.slice As d.steps.length cs] 79)).drew:=⟨b0.cell m1,q0,q1⟩;have hHa:(λV:World=>V.cell? ⟨W.heap.size,1,none⟩=some (.slice Ah rs.length ch)/\V.cell? ⟨wr.heap.size,0,none⟩=some (.int .i64 d.az)/\V.cell? ⟨wr.heap.size,1,none⟩=some (.slice As d.steps.length cs)) ((wr.alloc (.cells #[.int .i64 d.az,.slice As d.steps.length cs] 79)).alloc (.cells MC 67)).drew:=⟨(b0.trans a2).cell m1,a2.cell q0,a2.cell q1⟩;have hHb:(λV:World=>V.cell? ⟨W.heap.size,1,none⟩=some (.slice Ah rs.length ch)/\V.cell? ⟨wr.heap.size,0,none⟩=some (.int .i64 d.az)/\V.cell? ⟨wr.heap.size,1,none⟩=some (.slice As d.steps.length cs)) (((wr.alloc (.cells #[.int .i64 d.az,.slice As d.steps.length cs] 79)).alloc (.cells MC 67)).alloc (.cells #[.int .i64 d.az,.slice (some ⟨wr.heap.size+1,0,none⟩) 0 d.steps.length,.bool false] 48)).drew:=⟨(b0.trans a3).cell m1,a3.cell q0,a3.cell q1⟩;have hHc:(λV:World=>V.cell? ⟨W.heap.size,1,none⟩=some (.slice Ah rs.length ch)/\V.cell? ⟨wr.heap.size,0,none⟩=some (.int .i64 d.az)/\V.cell? ⟨wr.heap.size,1,none⟩=some (.slice As d.steps.length cs)) w3:=⟨FZ.cell (p:=⟨W.heap.size,1,none⟩) hHa.1 nMw,FZ.cell (p:=⟨wr.heap.size,0,none⟩) hHa.2.1 nqw,FZ.cell (p:=⟨wr.heap.size,1,none⟩) hHa.2.2 nqw⟩;have xf3:w3.frozen? ⟨W.heap.size,1,none⟩=false:=by have h1:=FZ.frozen (p:=⟨W.heap.size,1,none⟩) (bR hMl b1.size) nMw;rw[h1,b1.frozen (p:=⟨W.heap.size,1,none⟩) hMl];exact mf
   have xc3:=hHc.1;have bH:Hid ((Builtin.append_ #[23,23] 23 #[.slice Ah rs.length ch,.slice (some ⟨wr.heap.size+1+1,0,none⟩) 1 1]).run Tryz.prog (((wr.alloc (.cells #[.int .i64 d.az,.slice As d.steps.length cs] 79)).alloc (.cells MC 67)).alloc (.cells #[.int .i64 d.az,.slice (some ⟨wr.heap.size+1,0,none⟩) 0 d.steps.length,.bool false] 48)).drew=.ok (.slice (some ⟨g3,0,none⟩) (rs.length+1) c3) w3):=hrun;have R8:Hid ((iq p).h.take (k+1)=(iq p).h.take k++[⟨d.az,[],false⟩]):=ak (by simp[iq,hd]);have HHa:=aa hHa;have HHb:=aa hHb;have HHc:=aa hHc;have HH1:=aa hH1;clear hrun hp FZ hro ad3 H1 H nMw nqw m1 mf q0 q1 a2 a3 b0 b1 hHa hHb hHc hH1 hs hd hcc HI;go_wp2;have hHeld:=HH1.out;refine nJ 14 (λV:World=>V.cell? ⟨W.heap.size,1,none⟩=some (.slice Ah rs.length ch)/\V.cell? ⟨wr.heap.size,0,none⟩=some (.int .i64 d.az)/\V.cell? ⟨wr.heap.size,1,none⟩=some (.slice As d.steps.length cs)) (by kernel_rfl) (by kernel_rfl) ?_;simp only[List.take_succ_cons,aaD,List.drop_succ_cons,oP];refine fG 0 (.pointer (some ⟨W.heap.size,0,none⟩)) rfl (iK ⟨by rfl,λV ⟨s1,s2,s3⟩=>by go_simp⟩) hHeld ?_;try go_frame
   refine fG 1 (.pointer (some ⟨W.heap.size,0,none⟩)) rfl (iK ⟨by rfl,λV ⟨s1,s2,s3⟩=>by go_simp⟩) hHeld ?_;try go_frame
   refine fG 2 (.pointer (some ⟨W.heap.size,0,none⟩)) rfl (iK ⟨by rfl,λV ⟨s1,s2,s3⟩=>by go_simp⟩) hHeld ?_;try go_frame
   refine fG 3 (.pointer (some ⟨W.heap.size,1,none⟩)) rfl (iK ⟨by rfl,λV ⟨s1,s2,s3⟩=>by go_simp⟩) hHeld ?_;try go_frame
   refine fG 4 (.slice Ah rs.length ch) rfl (iK ⟨by rfl,λV ⟨s1,s2,s3⟩=>by go_simp⟩) hHeld ?_;try go_frame
   refine fG 5 (.pointer (some ⟨wr.heap.size,0,none⟩)) rfl (iK ⟨by rfl,λV ⟨s1,s2,s3⟩=>by go_simp⟩) hHeld ?_;try go_frame
   refine fG 6 (.int .i64 d.az) rfl (iK ⟨by rfl,λV ⟨s1,s2,s3⟩=>by go_simp⟩) hHeld ?_;try go_frame
   refine fG 7 (.pointer (some ⟨wr.heap.size,1,none⟩)) rfl (iK ⟨by rfl,λV ⟨s1,s2,s3⟩=>by go_simp⟩) hHeld ?_;try go_frame
   refine fG 8 (.slice As d.steps.length cs) rfl (iK ⟨by rfl,λV ⟨s1,s2,s3⟩=>by go_simp⟩) hHeld ?_;try go_frame
   refine fG 9 (.int .i64 (d.steps.length:Int)) rfl (iK ⟨by rfl,λV ⟨s1,s2,s3⟩=>by go_simp⟩) hHeld ?_;try go_frame
   refine aO (rs:=[10]) (by kernel_rfl) (by simp) ?_;refine aY rfl (λK hK=>?_) bu;go_simp;refine hK.out _ _ HHa.out (λhH2=>?_);clear hK K;try go_frame
   refine fG 11 (.agg #[.int .i64 d.az,.slice (some ⟨wr.heap.size+1,0,none⟩) 0 d.steps.length,.bool false]) rfl (iK ⟨by rfl,λV ⟨s1,s2,s3⟩=>by go_simp⟩) hH2 ?_;try go_frame
   refine aO (rs:=[12]) (by kernel_rfl) (by simp) ?_;refine aY rfl (λK hK=>?_) bu;go_simp;refine hK.out _ _ HHb.out (λhH4=>?_);clear hK K;try go_frame
   refine aO (rs:=[13]) (by kernel_rfl) (by simp) ?_;refine aY rfl (λK hK=>?_) bu;refine aP (by rfl) (by rfl) (by rfl) (by rfl) bH.out ?_;refine hK.out _ _ HHc.out (λhH5=>?_);clear hK K;try go_frame
   refine ji (by kernel_rfl) ?_ _;show wpList _ _ _ _ _ _;clear hHeld hH2 hH4 hH5 hMC HHa HHb HHc HH1 bH;go_wp2;go_roundw;case rel=>exact⟨BS.out,k+1,by omega,by go_num,_,_,by rw[R8.out];exact HN.out⟩
   case measure=>simp[intOf];omega
  ·obtain rfl:k=p.length:=by omega
   obtain⟨hv,rs,H⟩:=HI.out;have HD:=aa H.done;clear H;go_wp2;go_returns;have h1:=HD.out;rw[jX (by simp[iq])]at h1;exact⟨_,_,rfl,h1,HB.out⟩
def EW(n s:Nat)(o:aV):aV:=if jQ o then ⟨o.kind,o.key,10*((n:Int)+1)+(s:Int)+1⟩ else o
def BL(o:aV):Value:=.agg #[.int .i64 o.kind,.int .i64 o.key,.int .i64 o.value]
theorem WG{base M n:Nat}{pv hv:Value}{W:World}{rs:List jg}{h:List aG}{t:aG}(H:zJ base M pv W hv rs h)(ht:h[n]? =some t)(hn4:n<4)(TA:t.ops.length<=6){w0:World}(hw0:Ext w0 W){p:List fI}{d:fI}(HP:yV w0 pv p)(hd:p[n]? =some d)(hdl:d.steps.length<=4)(hle:t.ops.length<=d.steps.length) :
 Calls Tryz.prog 145 #[.pointer (some ⟨M,0,none⟩),.int .i64 (n:Int)] W λe W'=>Ext W W'/\(∀o,d.steps[t.ops.length]? =some o->e=.returned (.tuple #[BL (EW n t.ops.length o),.bool true]))/\(d.steps[t.ops.length]? =none->e=.returned (.tuple #[BL ⟨0,0,0⟩,.bool false])):=by
 obtain⟨Ap,cp,rfl⟩:=HP.slice;obtain⟨A,nn,c,rfl⟩:∃A nn c,hv=.slice A nn c:=by obtain⟨A,c,e,_⟩:=H.hs;exact⟨A,_,c,e⟩
 have hnn:nn=h.length:=by obtain⟨A,c,e,_⟩:=H.hs;injection e with _ e _;rw[e,H.hl]
 subst hnn;have hnl:n<h.length:=(bG.1 ht).1;have hpn:n<p.length:=(bG.1 hd).1;have b0:=(af W).alloc (.cells #[.int .i64 0,.int .i64 0,.int .i64 0] 67);have H1:=H.ext b0;obtain⟨b,off,r,rfl,hb,hbb,hr,c0,c1,c2,hrow,hfr,hty⟩:=H1.at ht;obtain⟨Ao,co,ho,_⟩:=hrow.cell.1;rw[ho]at c1;have m0:=H1.m0;have m1:=H1.m1;obtain⟨bp,op,rfl,hbp,hcp⟩:=HP.head (by omega);obtain⟨ov,d0,d1,hsp⟩:=hcp n d hd;have ads:=hsp.ext (hw0.trans b0);replace d1:=(hw0.trans b0).cell d1;obtain⟨Asp,csp,rfl,E9⟩:=id ads;have HST:=aa E9;have HB0:=aa b0;have f4:∀j,(W.alloc (.cells #[.int .i64 0,.int .i64 0,.int .i64 0] 67)).frozen? ⟨W.heap.size,j,none⟩=false:=λj=>jf j rfl;have g0:(W.alloc (.cells #[.int .i64 0,.int .i64 0,.int .i64 0] 67)).cell? ⟨W.heap.size,0,none⟩=some (.int .i64 0):=aF rfl;have g1:(W.alloc (.cells #[.int .i64 0,.int .i64 0,.int .i64 0] 67)).cell? ⟨W.heap.size,1,none⟩=some (.int .i64 0):=aF rfl;have g2:(W.alloc (.cells #[.int .i64 0,.int .i64 0,.int .i64 0] 67)).cell? ⟨W.heap.size,2,none⟩=some (.int .i64 0):=aF rfl;clear hcp d0 hsp ads hrow hfr hty H1 H hw0 HP hb hbp hbb hr c0 c2 b0 E9 ht
 cases hs:d.steps[t.ops.length]? with
 | none=>
   have hle2:=List.getElem?_eq_none_iff.1 hs;have hEq:((t.ops.length:Int)==(d.steps.length:Int))=true:=by simp;omega
   clear hle2 hs hd;go_enter Tryz.func145,Tryz.ntmps145;go_wp2;refine bodyPost_ret (v:=.tuple #[BL ⟨0,0,0⟩,.bool false]) (by simp[results,Tryz.results145,go_sem,BL,aF]) rfl ?_;exact⟨HB0.out,λo ho=>(by cases ho),λ_=>rfl⟩
 | some o=>
   have hlt:t.ops.length<d.steps.length:=(bG.1 hs).1;have hEq:((t.ops.length:Int)==(d.steps.length:Int))=false:=by simp;omega
   obtain⟨bs,os,rfl,hbs,hcs⟩:=HST.out (by omega);have k0:=hcs t.ops.length o hs 0 (by omega);have k1:=hcs t.ops.length o hs 1 (by omega);have k2:=hcs t.ops.length o hs 2 (by omega);obtain⟨kd,ky,vl⟩:=o;simp only[encOpr,fE]at k0 k1 k2;have hl0:(0:Int)<=(t.ops.length:Int):=by omega
   have agx:(t.ops.length:Int)<=6:=by omega
   have af8:(n:Int)<4:=by omega
   have hn0:(0:Int)<=(n:Int):=by omega
   have hlt':(t.ops.length:Int)<(d.steps.length:Int):=by omega
   have HSG:Hid (∀(x y:aV),some x=some y->y=x):=λx y e=>by cases e;rfl
   clear hcs hs hd hbs
   cases hw:jQ ⟨kd,ky,vl⟩ with
   | true=>
     have HWV:Hid ((kd==2)=true):=hw;have hsv:Hid (EW n t.ops.length ⟨kd,ky,vl⟩=⟨kd,ky,10*((n:Int)+1)+(t.ops.length:Int)+1⟩):=by show _ = _;unfold EW;rw[aj hw]
     clear hw;go_enter Tryz.func145,Tryz.ntmps145;go_wp2_with (go_at_call 87;refine(gI _ _ _ _).mono ?_;rw[HWV.out];rintro e w4 ⟨rfl,rfl⟩)
     refine bodyPost_ret (v:=.tuple #[BL ⟨kd,ky,10*((n:Int)+1)+(t.ops.length:Int)+1⟩,.bool true]) (by simp[results,Tryz.results145,go_sem,BL]) rfl ?_;refine⟨?_,λo' ho'=>?_,λhx=>(by cases hx)⟩
     ·show Below _ _ _;go_grown
     ·rw[HSG.out _ _ ho',hsv.out]
   | false=>
     have HWV:Hid ((kd==2)=false):=hw;have hsv:Hid (EW n t.ops.length ⟨kd,ky,vl⟩=⟨kd,ky,vl⟩):=by show _ = _;unfold EW;rw[au (by rw[hw];decide)]
     clear hw;go_enter Tryz.func145,Tryz.ntmps145;go_wp2_with (go_at_call 87;refine(gI _ _ _ _).mono ?_;rw[HWV.out];rintro e w4 ⟨rfl,rfl⟩)
     refine bodyPost_ret (v:=.tuple #[BL ⟨kd,ky,vl⟩,.bool true]) (by simp[results,Tryz.results145,go_sem,BL]) rfl ?_;refine⟨?_,λo' ho'=>?_,λhx=>(by cases hx)⟩
     ·show Below _ _ _;go_grown
     ·rw[HSG.out _ _ ho',hsv.out]
theorem Oz{M:Nat}{hv:Value}{h:List aG}(W:World)(m1:W.cell? ⟨M,1,none⟩=some hv)(hh:Calls Tryz.prog 24 #[hv] W (uw W h)) :
 Calls Tryz.prog 149 #[.pointer (some ⟨M,0,none⟩)] W (uw W h):=by
 have HH:=aa hh;clear hh;go_enter Tryz.func149,Tryz.ntmps149;go_wp2_with fail
 refine HH.out.mono ?_;rintro e w1 ⟨v,rs,rfl,h1,h2,b1⟩;have H1:=aa h1;have H2:=aa h2;obtain⟨A,c,rfl,_⟩:=id h1.2.1;clear h1 h2;go_wp2;go_returns;exact⟨_,rs,rfl,H1.out,H2.out,b1⟩
theorem YA(t:aG)(ov:Value)(s:j3)(key:Nat)(W:World)(hk:key<3)(hops:aL 3 encOpr W ov t.ops)(hl:t.ops.length<=6) :
 Calls Tryz.prog 146 #[o9 t ov,Xc s,.int .i64 (key:Int)] W λe W'=>e=.returned (.int .i64 (mE t.ops s (key:Int)))/\Ext W W':=by
 obtain⟨se,ops,dn⟩:=t;simp only at hops hl ⊢;have b0:Ext W ((W.alloc (.cells #[.int .i64 se,ov,.bool dn] 48)).alloc (.cells #[.int .i64 (s 0),.int .i64 (s 1),.int .i64 (s 2)] 160)):=((af W).alloc _).alloc _;have Y6:=aa (l8 se dn _ (hops.ext b0) (by omega));have hz:(W.alloc (.cells #[.int .i64 se,ov,.bool dn] 48)).heap.size=W.heap.size+1:=by simp
 have hst:=BU (W.alloc (.cells #[.int .i64 se,ov,.bool dn] 48)) s 160;rw[hz]at hst;have HST:=aa hst;have HB0:=aa b0;obtain⟨A,c,rfl,_⟩:=id hops;obtain⟨R,hR⟩:∃R,mE ops s (key:Int)=R:=⟨_,rfl⟩;have HR:=aa hR;rw[hR];obtain⟨L,hL⟩:∃L,bQ ops=L:=⟨_,rfl⟩;have hLW:=Y6.out;rw[hL]at hLW;have abw:=aa hLW;have Wn:=aa hL;have hl3:L.length<=3:=by rw[<-hL];exact lU ops▸nN ops 3
 have hk0:(0:Int)<=(key:Int):=by omega
 have hk3:(key:Int)<3:=by omega
 clear hops b0 hz hst hR hL hLW Y6;unfold Xc;show Calls Tryz.prog 146 #[.agg #[.int .i64 se,.slice A ops.length c,.bool dn],.agg #[.int .i64 (s 0),.int .i64 (s 1),.int .i64 (s 2)],.int .i64 (key:Int)] W _;go_enter Tryz.func146,Tryz.ntmps146;go_wp2_with fail
 refine abw.out.mono ?_;rintro e w1 ⟨v,rfl,hrow,b1⟩;obtain⟨Al,cl,rfl,hc0⟩:=id hrow.cell.1;have HC:=aa hc0;have hbb:=HB0.out.trans b1;have yS:=aa (HST.out.ext b1);clear hrow hc0 b1 HST;go_wp2;go_loopw [12] (λi wr=>Ext W wr/\Ext w1 wr/\∃k:Nat,k<=L.length/\i=.int .i64 k/\Hid (∀(j:Nat) x,j<k->L[j]? =some x->x.key≠(key:Int))) (λi _=>L.length-(intOf i).toNat)
 case atStart=>exact⟨hbb,af _,0,aT _,rfl,λ_ _ h=>absurd h (gu _)⟩
 case round=>
  clear hbb;obtain⟨hb,hb1,k,hk',rfl,HK⟩:=hrel;by_cases hlt:k<L.length
  ·obtain⟨b,off,rfl,hbl,hcell⟩:=HC.out (by omega);obtain⟨x,hx⟩:=ah hlt;have c0:=hb1.cell (hcell k x hx 0 (by omega));have c1:=hb1.cell (hcell k x hx 1 (by omega));have c2:=hb1.cell (hcell k x hx 2 (by omega));simp only[encOpr,fE]at c0 c1 c2;have Hx:=aa hx;clear hcell hx;by_cases hkk:x.key=(key:Int)
   ·have hd:(x.key==(key:Int))=true:=by simp[hkk]
    have hf:Hid (x.value=R):=by show _ = _;rw[<-HR.out];have hm:=aM Hx.out;rw[<-Wn.out,kK]at hm;unfold mE;rw[<-hkk,hm.2];rfl
    clear hkk;go_wp2;go_returns;exact⟨bU hf.out,hb.alloc _⟩
   ·have hd:(x.key==(key:Int))=false:=by simpa using hkk
    have HKK:=aa hkk;clear hkk;go_wp2;go_roundw;case rel=>exact⟨hb.alloc _,hb1.alloc _,k+1,by omega,by go_num,λj y hj hy=>by
     by_cases e:j=k
     ·subst e;rw[Hx.out]at hy;cases hy;exact HKK.out
     ·exact HK.out j y (by omega) hy⟩
    case measure=>simp[intOf];omega
  ·obtain rfl:k=L.length:=by omega
   have hf:Hid (s (key:Int)=R):=by
    show _ = _;rw[<-HR.out];unfold mE
    cases hl:gT ops (key:Int) with
    | none=>rfl
    | some o=>
      exfalso;have hok:=CR hl;have hm:o∈bQ ops:=kK.2 ⟨by omega,by rw[hok];exact hl⟩;rw[Wn.out]at hm;obtain⟨j,hj,he⟩:=jq hm;exact HK.out j o hj (by rw[dJ hj,he]) hok
   have cs:=hb1.cell (yS.out.2 key hk);go_wp2;go_returns;exact⟨bU hf.out,hb⟩
theorem zJ.RS{base M n:Nat}{pv:Value}{W:World}{b off nn c:Nat}{rs:List jg}{h:List aG}{r:jg}{t:aG}(H:zJ base M pv W (.slice (some ⟨b,off,none⟩) nn c) rs h)(hr:rs[n]? =some r)(ht:h[n]? =some t)(hnn:0<nn) :
 zJ base M pv (W.setCell ⟨b,off+n*3+2,none⟩ (.bool true)) (.slice (some ⟨b,off,none⟩) nn c) (rs.set n ⟨r.az,r.dA,true⟩) (h.set n ⟨t.az,t.ops,true⟩)/\mD W (W.setCell ⟨b,off+n*3+2,none⟩ (.bool true)):=by
 obtain⟨e1,e2,hrow⟩:=H.rows n r t hr ht;obtain⟨YT,Wu,hgb⟩:=H.hi _ _ _ rfl hnn;simp only at hgb;have nM:M≠b:=λe=>by
  subst e
  have:=H.mb
  rw[hgb]at this;injection this with this;injection this with _ e _;exact absurd e (by decide)
 have S:dz (λk=>k=b) W (W.setCell ⟨b,off+n*3+2,none⟩ (.bool true)):=(dz.refl (λk=>k=b) W).setCell (p:=⟨b,off+n*3+2,none⟩) (.inl rfl) _;have hn:n<rs.length:=(bG.1 hr).1;have keep:∀{v:Value} {xs:List aV},Row 67 3 encOpr base W v xs->Row 67 3 encOpr base (W.setCell ⟨b,off+n*3+2,none⟩ (.bool true)) v xs:=λhro=>eU hro S (λj e hj=>by obtain⟨cs,hg⟩:=dW hro e;rw[hj,hgb]at hg;injection hg with hg;injection hg with _ e _;exact absurd e (by decide))
 refine⟨⟨S.heap H.mb nM,by rw[iE,iE];exact H.hl,?_,?_,?_,?_,?_⟩,mD.DU S (λk hk=>by subst hk;exact⟨YT,_,Wu,hgb,.inl rfl⟩)⟩
 ·exact yQ H.hs hn (by omega) ⟨r.az,r.dA,true⟩ (λx hx i hi hne=>by
   rw[hr]at hx;cases hx
   match i,hi with
   | 0,_=>rfl
   | 1,_=>rfl
   | 2,_=>exact absurd rfl hne)
 ·intro a n' c' e hn';obtain⟨x1,x2,x3⟩:=H.ho a n' c' e hn';refine⟨x1,by simpa[World.setCell] using x2,λi=>?_⟩;have h0:(0:Nat)<1:=by omega
  have:=(Only.setCell (a:=⟨b,0,none⟩) (n:=1) (c:=1) (w:=W) h0 (off+n*3+2) (.bool true)).wY ⟨a.block,i,none⟩ x2
  rw[this];exact x3 i
 ·intro a n' c' e hn';injection e with e _ _;injection e with e;subst e;refine⟨YT.setIfInBounds (off+n*3+2) (.bool true),Wu,?_⟩;simp only[World.setCell,lW,hgb];simp
 ·intro i x y hx hy;rw[iO]at hx hy;by_cases hi:n=i
  ·subst hi;rw[aj rfl,aj hn]at hx;rw[aj rfl,aj (by rw[<-H.hl];exact hn)]at hy;cases hx;cases hy;exact⟨e1,rfl,keep hrow⟩
  ·rw[au hi]at hx hy;obtain⟨d1,d2,d3⟩:=H.rows i x y hx hy;exact⟨d1,d2,keep d3⟩
 ·intro i j x y hij hx hy k hk;have old:∀(i:Nat) (x:jg),(rs.set n ⟨r.az,r.dA,true⟩)[i]? =some x->∃z,rs[i]? =some z/\z.dA=x.dA:=λi x hx=>by
   rw[iO]at hx;by_cases hi:n=i
   ·subst hi;rw[aj rfl,aj hn]at hx;cases hx;exact⟨r,hr,rfl⟩
   ·rw[au hi]at hx;exact⟨x,hx,rfl⟩
  obtain⟨x',hx',ex⟩:=old i x hx;obtain⟨y',hy',ey⟩:=old j y hy;rw[<-ex]at hk;rw[<-ey];exact H.apart i j x' y' hij hx' hy' k hk
def TW(T:TypeId)(w:World)(g N:Nat)(f:Nat->Int):Prop:=∃cs,w.heap[g]? =some (.cells cs T (0,0))/\cs.size=N/\∀o,o<N->cs[o]? =some (.int .i64 (f o))
theorem TW.cell{T:TypeId}{w:World}{g N o:Nat}{f:Nat->Int}(h:TW T w g N f)(ho:o<N):w.cell? ⟨g,o,none⟩=some (.int .i64 (f o)):=by obtain⟨cs,h1,h2,h3⟩:=h;simp only[World.cell?,h1];exact h3 o ho
theorem TW.free{T:TypeId}{w:World}{g N:Nat}{f:Nat->Int}(h:TW T w g N f)(o:Nat):w.frozen? ⟨g,o,none⟩=false:=by obtain⟨cs,h1,h2,h3⟩:=h;simp[World.frozen?,h1]
theorem TW.lt{T:TypeId}{w:World}{g N:Nat}{f:Nat->Int}(h:TW T w g N f):g<w.heap.size:=by
 obtain⟨cs,h1,h2,h3⟩:=h
 exact(fF.1 h1).1
theorem TW.ext{T:TypeId}{w w':World}{g N:Nat}{f:Nat->Int}(h:TW T w g N f)(b:Ext w w'):TW T w' g N f:=by obtain⟨cs,h1,h2,h3⟩:=h;exact⟨cs,(dz.bK (X:=λ_=>False) b).heap h1 (λh=>h),h2,h3⟩
theorem TW.qU{T:TypeId}{w w':World}{g N:Nat}{f:Nat->Int}(h:TW T w g N f)(b:mD w w')(h1:T≠48)(h2:T≠67):TW T w' g N f:=by obtain⟨cs,g1,g2,g3⟩:=h;exact⟨cs,(b.2 g cs T _ g1 h1 h2).trans g1,g2,g3⟩
theorem TW.other{T:TypeId}{w:World}{g N:Nat}{f:Nat->Int}(h:TW T w g N f){a:Addr}(hne:a.block≠g)(u:Value):TW T (w.setCell a u) g N f:=by obtain⟨cs,h1,h2,h3⟩:=h;exact⟨cs,(Below.heap_setCell _ _ _ _ (λe=>hne e.symm)).trans h1,h2,h3⟩
theorem TW.set{T:TypeId}{w:World}{g N j:Nat}{f f':Nat->Int}(h:TW T w g N f)(hj:j<N)(hf:∀o,o≠j->f' o=f o):TW T (w.setCell ⟨g,j,none⟩ (.int .i64 (f' j))) g N f':=by
 obtain⟨cs,h1,h2,h3⟩:=h;refine⟨cs.setIfInBounds j (.int .i64 (f' j)),?_,by simpa using h2,λo ho=>?_⟩
 ·simp only[World.setCell,lW,h1];simp
 ·rw[Array.getElem?_setIfInBounds];by_cases e:j=o
  ·subst e;rw[aj rfl,aj (by omega)]
  ·rw[au e,hf o (λh=>e h.symm)];exact h3 o ho
theorem TW.made(w:World)(T:TypeId)(cs:Array Value)(f:Nat->Int)(k N:Nat)(hk:w.heap.size=k)(hs:cs.size=N)(hc:∀o,o<N->cs[o]? =some (.int .i64 (f o))):TW T (w.alloc (.cells cs T)) k N f:=by subst hk;exact⟨cs,dP w _,hs,hc⟩
def fS(s:j3)(o:Nat):Int:=s (o:Int)
def fK(f:Nat->j3)(o:Nat):Int:=f (o/3) ((o%3:Nat):Int)
theorem Xz{s:j3}{q:Nat}{v:Int}(o:Nat)(h:o≠q):fS (s.put (q:Int) v) o=fS s o:=by unfold fS j3.put;rw[au (by omega)]
theorem aaY{s:j3}{q:Nat}{v:Int}:fS (s.put (q:Int) v) q=v:=by unfold fS j3.put;rw[aj rfl]
