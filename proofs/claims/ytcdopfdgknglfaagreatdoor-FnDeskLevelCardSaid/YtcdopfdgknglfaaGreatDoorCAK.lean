/- Lemmas. -/
import Derived.Test.YtcdopfdgknglfaaGreatDoorCAI
set_option maxHeartbeats 16000000
set_option maxRecDepth 8000
set_option linter.all false
namespace Go.Proofs.YtcdopfdgknglfaaGreatDoor
open Go.RowKit
structure yO where
 aD:Int
 jf:Value
def encDrV(x:yO):Nat->Value
 | 0=>.int .i64 x.aD
 | _=>x.jf
def vT(w:World)(v:Value)(p:List dZ):Prop:=∃rs:List yO,rs.length=p.length/\aI 2 encDrV w v rs/\∀(i:Nat) r d,rs[i]? =some r->p[i]? =some d->r.aD=d.aD/\aI 3 encOpr w r.jf d.steps
theorem vT.ext{w w':World}{v:Value}{p:List dZ}(h:vT w v p)(hb:Ext w w'):vT w' v p:=
 let ⟨rs,h1,h2,h3⟩:=h
 ⟨rs,h1,h2.ext hb,λi r d hr hd=>⟨(h3 i r d hr hd).1,(h3 i r d hr hd).2.ext hb⟩⟩
theorem vT.slice{w:World}{v:Value}{p:List dZ}(h:vT w v p):∃A c,v=.slice A p.length c:=by obtain⟨rs,h1,⟨A,c,rfl,_⟩,_⟩:=h;exact⟨A,c,by rw[h1]⟩
theorem vT.head{w:World}{A:Option Addr}{n c:Nat}{p:List dZ}(H:vT w (.slice A n c) p)(hn:0<p.length) :
 ∃b off,A=some ⟨b,off,none⟩/\b<w.heap.size/\∀(k:Nat) d,p[k]? =some d->∃ov,w.cell? ⟨b,off+k*2,none⟩=some (.int .i64 d.aD)/\w.cell? ⟨b,off+k*2+1,none⟩=some ov/\aI 3 encOpr w ov d.steps:=by
 obtain⟨rs,h1,⟨A',c',hA,hc⟩,h3⟩:=H;injection hA with e1 e2 e3;subst e1;obtain⟨b,off,rfl,hb,hc⟩:=hc (by omega);refine⟨b,off,rfl,hb,λk d hd=>?_⟩;obtain⟨r,hr⟩:=au (show k<rs.length by rw[h1];exact(aS.1 hd).1);obtain⟨e1,hs⟩:=h3 k r d hr hd;refine⟨r.jf,?_,hc k r hr 1 (by omega),hs⟩
 have:=hc k r hr 0 (by omega)
 rw[<-e1];exact this
def JG(d:dZ)(ov:Value):Value:=.agg #[.int .i64 d.aD,ov]
theorem xL{v:Value}{p:List dZ}(w:World)(F:FuncId)(cap:Array Value)(q:dZ->Bool)(H:vT w v p)(hlen:p.length<=2097152)
 (hcf:∀args W,(callFunc F args).run Tryz.prog W=.ok (.enter F args) W) (hF:∀d∈p,∀ov W,Ext w W->aI 3 encOpr W ov d.steps->Calls Tryz.prog F (#[JG d ov]++cap) W λe w'=>e=.returned (.bool (q d))/\Ext W w') :
 Calls Tryz.prog 122 #[v,.func (.func F) #[] cap] w λe w'=>e=.returned (.int .i64 (findAt q p 0))/\Ext w w':=by
 obtain⟨A,c,rfl⟩:=H.slice;have HF:=aa hF;have HH:=aa H;clear hF H;go_enter Tryz.func122,Tryz.ntmps122;go_wp2;go_loopw [8] (λi wr=>Ext w wr/\∃k:Nat,k<=p.length/\i=.int .i64 k/\Hid (findAt q p 0=findAt q (p.drop k) k)) (λi _=>p.length-(intOf i).toNat)
 case atStart=>exact⟨af _,0,bR _,rfl,rfl⟩
 case round=>
  obtain⟨hb,k,hk,rfl,HI⟩:=hrel;by_cases hlt:k<p.length
  ·obtain⟨b,off,rfl,hbl,hc⟩:=HH.out.head (by omega);obtain⟨t,ht⟩:=au hlt;obtain⟨ov,c0,c1,hs⟩:=hc k t ht;replace c0:=hb.cell c0;replace c1:=hb.cell c1;have Hx:=aa ht;have Hm:=aN ht;have HS:=aa (hs.ext hb);clear ht hc hs;go_wp2_with fail
   refine(HF.out t Hm ov _ hb HS.out).mono ?_
   rintro e w1 ⟨rfl,b1⟩;by_cases hp:q t=true
   ·have hr:=aa (HI.out.trans (lu Hx.out hp));go_wp2;go_returns;exact⟨dH hr.out.symm,hb.trans b1⟩
   ·simp only[Bool.not_eq_true]at hp;have hr:=aa (HI.out.trans (kr Hx.out hp));go_wp2;go_roundw;case rel=>exact⟨hb.trans b1,k+1,by omega,by go_num,hr⟩
    case measure=>simp[intOf];omega
  ·obtain rfl:k=p.length:=by omega
   go_wp2;go_returns;exact⟨dH (by rw[HI.out];simp[findAt]),hb⟩
theorem uh{v:Value}{p:List dZ}(w:World)(F:FuncId)(cap:Array Value)(q:dZ->Bool)(H:vT w v p)(hlen:p.length<=2097152)
 (hcf:∀args W,(callFunc F args).run Tryz.prog W=.ok (.enter F args) W) (hF:∀d∈p,∀ov W,Ext w W->aI 3 encOpr W ov d.steps->Calls Tryz.prog F (#[JG d ov]++cap) W λe w'=>e=.returned (.bool (q d))/\Ext W w') :
 Calls Tryz.prog 88 #[v,.func (.func F) #[] cap] w λe w'=>e=.returned (.bool (p.any q))/\Ext w w':=by
 have HF:=aa hF;clear hF;go_enter Tryz.func88,Tryz.ntmps88;go_wp2_with fail
 refine(xL w F cap q H hlen hcf HF.out).mono ?_
 rintro e w1 ⟨rfl,b1⟩;go_wp2;go_returns;exact⟨aU (lD),b1⟩
theorem xV(o:aJ)(w:World) :
 Calls Tryz.prog 123 #[fZ o] w λe w'=>e=.returned (.bool (!dK o))/\Ext w w':=by
 obtain⟨a,b,c⟩:=o;have hf:Hid (dK ⟨a,b,c⟩=(kV a 1 2&&kV b 0 2&&(c==0))):=by show _ = _;rw[lH];simp only[dK,mh,jl,kV,bK,qo,beq_iff_eq,eG];omega
 rw[hf.out];clear hf;show Calls Tryz.prog 123 #[.agg #[.int .i64 a,.int .i64 b,.int .i64 c]] w _;cases h1:kV a 1 2<;>cases h3:kV b 0 2<;>cases h5:(c==0)<;>(
  have h6:(c != 0) = !(c==0):=rfl;rw[h5]at h6;go_enter Tryz.func123,Tryz.ntmps123;go_wp2_with (first|(go_at_call 106;refine(bQ _ _ _ _).mono ?_;rw[h1];rintro e w' ⟨rfl,rfl⟩)|(go_at_call 119;refine(vS _ _).mono ?_;rw[h3];rintro e w' ⟨rfl,rfl⟩))
  go_returns;refine⟨rfl,?_⟩;show Below _ _ _;go_grown)
theorem zi(args:Array Value)(W:World):(callFunc 123 args).run Tryz.prog W=.ok (.enter 123 args) W:=by kernel_rfl
theorem yM(d:dZ)(ov:Value)(w:World)(h:aI 3 encOpr w ov d.steps)(hlen:d.steps.length<=2097152) :
 Calls Tryz.prog 90 #[JG d ov] w λe w'=>e=.returned (.bool (aY d))/\Ext w w':=by
 obtain⟨s,ops⟩:=d;obtain⟨A,c,rfl,_⟩:=id h;have HS:=aa h;clear h;have hf:Hid (aY ⟨s,ops⟩=(kV s 0 3&&kV (ops.length:Int) 1 4 && !(ops.any λo=>!dK o))):=by
  show _ = _
  have:decide (1<=ops.length/\ops.length<=4)=kV (ops.length:Int) 1 4:=by rw[lH,cK,eG];omega
  simp[aY,this,List.all_eq_not_any_not]
 rw[hf.out];clear hf;simp only at hlen HS;show Calls Tryz.prog 90 #[.agg #[.int .i64 s,.slice A ops.length c]] w _;cases h1:kV s 0 3<;>cases h2:kV (ops.length:Int) 1 4<;>cases h3:(ops.any λo=>!dK o)<;>(
  have H3:=aa h3;clear h3;go_enter Tryz.func90,Tryz.ntmps90
  go_wp2_with (first
   | (go_at_call 84;refine(sO _ _).mono ?_;rw[h1];rintro e w' ⟨rfl,rfl⟩)
   | (go_at_call 106;refine(bQ _ _ _ _).mono ?_;rw[h2];rintro e w' ⟨rfl,rfl⟩)
   | (go_at_call 85;refine(mE _ 123 #[] (λo=>!dK o) (HS.out.ext ((af _).alloc _)) hlen zi (λx _ W _=>xV x W)).mono ?_;rw[H3.out];rintro e w1 ⟨rfl,b1⟩))
  go_returns;refine⟨rfl,?_⟩
  first
  | exact((af _).alloc _).trans b1
  | exact(af _).alloc _)
theorem yR(d:dZ)(ov:Value)(w:World)(h:aI 3 encOpr w ov d.steps)(hlen:d.steps.length<=2097152) :
 Calls Tryz.prog 89 #[JG d ov] w λe w'=>e=.returned (.bool (!aY d))/\Ext w w':=by
 have hE:=(af w).alloc (.cells #[.int .i64 d.aD,ov] 79);have HS:=aa (yM d ov _ (h.ext hE) hlen);have HE:=aa hE;obtain⟨A,c,rfl,_⟩:=id h;clear h hE;show Calls Tryz.prog 89 #[.agg #[.int .i64 d.aD,.slice A d.steps.length c]] w _;cases h1:aY d<;>(
  go_enter Tryz.func89,Tryz.ntmps89;go_wp2_with (go_at_call 90;refine HS.out.mono ?_;rw[h1];rintro e w1 ⟨rfl,b1⟩)
  go_returns;exact⟨rfl,HE.out.trans b1⟩)
theorem BI(args:Array Value)(W:World):(callFunc 89 args).run Tryz.prog W=.ok (.enter 89 args) W:=by kernel_rfl
theorem nL{v:Value}{p:List dZ}(w:World)(h:vT w v p)(hlen:p.length<=2097152)(hst:∀d∈p,d.steps.length<=2097152) :
 Calls Tryz.prog 48 #[v] w λe w'=>e=.returned (.bool (bJ p))/\Ext w w':=by
 obtain⟨A,c,rfl⟩:=h.slice;have HC:=aa (uh w 89 #[] (λd=>!aY d) h hlen BI (λd hd ov W _ hs=>yR d ov W hs (hst d hd)));have hf:Hid (bJ p=(decide (p.length<=4) && !(p.any λd=>!aY d))):=by show _ = _;simp[bJ,List.all_eq_not_any_not]
 rw[hf.out];clear hf h hst;cases h2:decide (p.length<=4)<;>cases h3:(p.any λd=>!aY d)<;>(
  have h2':=h2;simp only[eG,decide_eq_false_iff_not]at h2';have H3:=aa h3;clear h3;go_enter Tryz.func48,Tryz.ntmps48;go_wp2_with (go_at_call 88;refine HC.out.mono ?_;rw[H3.out];rintro e w1 ⟨rfl,b1⟩)
  go_returns;refine⟨rfl,?_⟩
  first
  | exact b1
  | exact af _)
theorem uu{many:Nat}{B:Nat}(n:Int)(W:World)(hm:many<=4)(hB:W.cell? ⟨B,0,none⟩=some (.int .i64 (many:Int)))(hn:0<=n/\n<many) :
 Calls Tryz.prog 221 #[.int .i64 n,.pointer (some ⟨B,0,none⟩)] W λr w'=>r=.returned (.bool false)/\Ext W w':=by
 have b1:kV n 0 ((many:Int)-1)=true:=cK.2 (by omega);have hw:IntKind.i64.wrap ((many:Int)-1)=(many:Int)-1:=jI _ (by omega);clear hn;go_enter Tryz.func221,Tryz.ntmps221;go_wp2_with (go_at_call 106;refine(bQ _ _ _ _).mono ?_;rw[b1];rintro e w' ⟨rfl,rfl⟩)
 go_returns;exact⟨rfl,af _⟩
theorem uP(args:Array Value)(W:World):(callFunc 221 args).run Tryz.prog W=.ok (.enter 221 args) W:=by kernel_rfl
theorem tH{v:Value}{xs:List Int}(many:Nat)(w:World)(hm:many<=4)(h:mD encI w v xs)(hl:xs.length<=40)(hok:∀n∈xs,0<=n/\n<many) :
 Calls Tryz.prog 179 #[.int .i64 (many:Int),v] w λr w'=>r=.returned (.bool true)/\Ext w w':=by
 obtain⟨A,c,rfl,_⟩:=id h;have b1:kV (many:Int) 0 4=true:=cK.2 (by omega);have hE:Ext w (w.alloc (.cells #[.int .i64 (many:Int)] 3)):=(af _).alloc _;have cB:(w.alloc (.cells #[.int .i64 (many:Int)] 3)).cell? ⟨w.heap.size,0,none⟩=some (.int .i64 (many:Int)):=az rfl;have hcon:=nW (w.alloc (.cells #[.int .i64 (many:Int)] 3)) 221 #[.pointer (some ⟨w.heap.size,0,none⟩)] (λ_=>false) (h.ext hE) (by omega) uP (λx hx W hW=>uu x W hm (hW.cell cB) (hok x hx));rw[show (xs.any λ_=>false)=false by simp]at hcon;have HC:=aa hcon;have HE:=aa hE;have hlt:decide ((xs.length:Int)<=40)=true:=kQ (by omega);clear h hok hcon hE;go_enter Tryz.func179,Tryz.ntmps179;go_wp2_with (first|(go_at_call 106;refine(bQ _ _ _ _).mono ?_;rw[b1];rintro e w' ⟨rfl,rfl⟩)|(go_at_call 131;refine HC.out.mono ?_;rintro e w' ⟨rfl,bb⟩;have B9:=aa (HE.out.trans bb)))
 go_returns;exact⟨rfl,B9.out⟩
theorem Ea{v u:Value}{p:List dZ}{xs:List Int}(w:World)(h:vT w v p)(hp:bJ p=true)(hx:mD encI w u xs)(hl:xs.length<=40)(hok:∀n∈xs,0<=n/\n<p.length) :
 Calls Tryz.prog 143 #[v,u] w λr w'=>r=.returned (.bool true)/\Ext w w':=by
 obtain⟨A,c,rfl⟩:=h.slice;obtain⟨B,d,rfl,_⟩:=id hx;have h4:=jB hp;have HP:=aa (nL w h (by omega) (λd hd=>by have:=(gK (cZ hp hd)).2;omega));have RF:=aa hp;have HS:=aa (λW (b:Ext w W)=>tH p.length W h4 (hx.ext b) hl hok);clear h hp hx hok;go_enter Tryz.func143,Tryz.ntmps143;go_wp2_with (first|(go_at_call 48;refine HP.out.mono ?_;rw[RF.out];rintro e w1 ⟨rfl,b1⟩)|(go_at_call 179;refine(HS.out _ b1).mono ?_;rintro e w2 ⟨rfl,b2⟩))
 go_returns;exact⟨rfl,b1.trans b2⟩
