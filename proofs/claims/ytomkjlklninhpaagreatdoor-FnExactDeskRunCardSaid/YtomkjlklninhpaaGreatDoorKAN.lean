/- Lemmas. -/
import Derived.Test.YtomkjlklninhpaaGreatDoorKAM
set_option maxHeartbeats 16000000
set_option maxRecDepth 8000
set_option linter.all false
namespace Go.Proofs.YtomkjlklninhpaaGreatDoor
open Go.RowKit
structure NA where
 az:Int
 iF:Value
def fM(x:NA):Nat->Value
 | 0=>.int .i64 x.az
 | _=>x.iF
def xZ(w:World)(v:Value)(p:List eH):Prop:=∃rs:List NA,rs.length=p.length/\aF 2 fM w v rs/\∀(i:Nat) r d,rs[i]? =some r->p[i]? =some d->r.az=d.az/\aF 3 aj w r.iF d.steps
theorem xZ.ext{w w':World}{v:Value}{p:List eH}(h:xZ w v p)(hb:Ext w w'):xZ w' v p:=
 let ⟨rs,h1,h2,h3⟩:=h
 ⟨rs,h1,h2.ext hb,fun i r d hr hd=>⟨(h3 i r d hr hd).1,(h3 i r d hr hd).2.ext hb⟩⟩
theorem xZ.nil(w:World)(A:Option Addr)(c:Nat):xZ w (.slice A 0 c) []:=⟨[],rfl,aF.nil _ _ _ _ _,fun _ _ _ h=>by simp at h⟩
theorem xZ.slice{w:World}{v:Value}{p:List eH}(h:xZ w v p):∃A c,v=.slice A p.length c:=by obtain⟨rs,h1,⟨A,c,rfl,_⟩,_⟩:=h;exact⟨A,c,by rw[h1]⟩
theorem xZ.head{w:World}{A:Option Addr}{n c:Nat}{p:List eH}(H:xZ w (.slice A n c) p)(hn:0<p.length) :
 ∃b off,A=some ⟨b,off,none⟩/\b<w.heap.size/\∀(k:Nat) d,p[k]? =some d->∃ov,w.cell? ⟨b,off+k*2,none⟩=some (.int .i64 d.az)/\w.cell? ⟨b,off+k*2+1,none⟩=some ov/\aF 3 aj w ov d.steps:=by
 obtain⟨rs,h1,⟨A',c',hA,hc⟩,h3⟩:=H;injection hA with e1 e2 e3;subst e1;obtain⟨b,off,rfl,hb,hc⟩:=hc (by omega);refine⟨b,off,rfl,hb,fun k d hd=>?_⟩;obtain⟨r,hr⟩:=af (show k<rs.length by rw[h1];exact(List.getElem?_eq_some_iff.1 hd).1);obtain⟨e1,hs⟩:=h3 k r d hr hd;refine⟨r.iF,?_,hc k r hr 1 (by omega),hs⟩
 have:=hc k r hr 0 (by omega)
 rw[<-e1];exact this
def RH(d:eH)(ov:Value):Value:=.agg #[.int .i64 d.az,ov]
theorem Eh{v:Value}{p:List eH}(w:World)(F:FuncId)(cap:Array Value)(q:eH->Bool)(H:xZ w v p)(hlen:p.length<=2097152)
 (hcf:∀args W,(callFunc F args).run Tryz.prog W=.ok (.enter F args) W) (hF:∀d∈p,∀ov W,Ext w W->aF 3 aj W ov d.steps->Calls Tryz.prog F (#[RH d ov]++cap) W fun e w'=>e=.returned (.bool (q d))/\Ext W w') :
 Calls Tryz.prog 217 #[v,.func (.func F) #[] cap] w fun e w'=>e=.returned (.int .i64 (findAt q p 0))/\Ext w w':=by
 obtain⟨A,c,rfl⟩:=H.slice;have HF:=aa hF;have HH:=aa H;clear hF H;go_enter Tryz.func217,Tryz.ntmps217;go_wp2;go_loopw [8] (fun i wr=>Ext w wr/\∃k:Nat,k<=p.length/\i=.int .i64 k/\Hid (findAt q p 0=findAt q (p.drop k) k)) (fun i _=>p.length-(intOf i).toNat)
 case atStart=>exact⟨Ext.refl _,0,Nat.zero_le _,rfl,rfl⟩
 case round=>
  obtain⟨hb,k,hk,rfl,HI⟩:=hrel;by_cases hlt:k<p.length
  ·obtain⟨b,off,rfl,hbl,hc⟩:=HH.out.head (by omega);obtain⟨t,ht⟩:=af hlt;obtain⟨ov,c0,c1,hs⟩:=hc k t ht;replace c0:=hb.cell c0;replace c1:=hb.cell c1;have Hx:=aa ht;have Hm:=List.mem_of_getElem? ht;have HS:=aa (hs.ext hb);clear ht hc hs;go_wp2_with fail
   refine(HF.out t Hm ov _ hb HS.out).mono ?_
   rintro e w1 ⟨rfl,b1⟩;by_cases hp:q t=true
   ·have hr:=aa (HI.out.trans (nO Hx.out hp));go_wp2;go_returns;exact⟨aX hr.out.symm,hb.trans b1⟩
   ·simp only[Bool.not_eq_true]at hp;have hr:=aa (HI.out.trans (mG Hx.out hp));go_wp2;go_roundw;case rel=>exact⟨hb.trans b1,k+1,by omega,by go_num,hr⟩
    case measure=>simp[intOf];omega
  ·obtain rfl:k=p.length:=by omega
   go_wp2;go_returns;exact⟨aX (by rw[HI.out];simp[findAt]),hb⟩
theorem yD{v:Value}{p:List eH}(w:World)(F:FuncId)(cap:Array Value)(q:eH->Bool)(H:xZ w v p)(hlen:p.length<=2097152)
 (hcf:∀args W,(callFunc F args).run Tryz.prog W=.ok (.enter F args) W) (hF:∀d∈p,∀ov W,Ext w W->aF 3 aj W ov d.steps->Calls Tryz.prog F (#[RH d ov]++cap) W fun e w'=>e=.returned (.bool (q d))/\Ext W w') :
 Calls Tryz.prog 179 #[v,.func (.func F) #[] cap] w fun e w'=>e=.returned (.bool (p.any q))/\Ext w w':=by
 have HF:=aa hF;clear hF;go_enter Tryz.func179,Tryz.ntmps179;go_wp2_with fail
 refine(Eh w F cap q H hlen hcf HF.out).mono ?_
 rintro e w1 ⟨rfl,b1⟩;go_wp2;go_returns;exact⟨aN (nI),b1⟩
theorem Ee(o:aQ)(w:World) :
 Calls Tryz.prog 218 #[fP o] w fun e w'=>e=.returned (.bool (!eO o))/\Ext w w':=by
 obtain⟨a,b,c⟩:=o;have hf:Hid (eO ⟨a,b,c⟩=(jR a 1 2&&jR b 0 2&&(c==0))):=by show _ = _;rw[Bool.eq_iff_iff];simp only[eO,mM,iN,jR,Bool.and_eq_true,Bool.or_eq_true,beq_iff_eq,decide_eq_true_eq];omega
 rw[hf.out];clear hf;show Calls Tryz.prog 218 #[.agg #[.int .i64 a,.int .i64 b,.int .i64 c]] w _;cases h1:jR a 1 2<;>cases h3:jR b 0 2<;>cases h5:(c==0)<;>(
  have h6:(c != 0) = !(c==0):=rfl;rw[h5]at h6;go_enter Tryz.func218,Tryz.ntmps218;go_wp2_with (first|(go_at_call 105;refine(dN _ _ _ _).mono ?_;rw[h1];rintro e w' ⟨rfl,rfl⟩)|(go_at_call 116;refine(BL _ _).mono ?_;rw[h3];rintro e w' ⟨rfl,rfl⟩))
  go_returns;refine⟨rfl,?_⟩;show Below _ _ _;go_grown)
theorem Fy(args:Array Value)(W:World):(callFunc 218 args).run Tryz.prog W=.ok (.enter 218 args) W:=by kernel_rfl
theorem FN(d:eH)(ov:Value)(w:World)(h:aF 3 aj w ov d.steps)(hlen:d.steps.length<=2097152) :
 Calls Tryz.prog 181 #[RH d ov] w fun e w'=>e=.returned (.bool (bM d))/\Ext w w':=by
 obtain⟨s,ops⟩:=d;obtain⟨A,c,rfl,_⟩:=id h;have HS:=aa h;clear h;have hf:Hid (bM ⟨s,ops⟩=(jR s 0 3&&jR (ops.length:Int) 1 4 && !(ops.any fun o=>!eO o))):=by
  show _ = _
  have:decide (1<=ops.length/\ops.length<=4)=jR (ops.length:Int) 1 4:=by rw[Bool.eq_iff_iff,bL,decide_eq_true_eq];omega
  simp[bM,this,List.all_eq_not_any_not]
 rw[hf.out];clear hf;simp only at hlen HS;show Calls Tryz.prog 181 #[.agg #[.int .i64 s,.slice A ops.length c]] w _;cases h1:jR s 0 3<;>cases h2:jR (ops.length:Int) 1 4<;>cases h3:(ops.any fun o=>!eO o)<;>(
  have H3:=aa h3;clear h3;go_enter Tryz.func181,Tryz.ntmps181
  go_wp2_with (first
   | (go_at_call 89;refine(xY _ _).mono ?_;rw[h1];rintro e w' ⟨rfl,rfl⟩)
   | (go_at_call 105;refine(dN _ _ _ _).mono ?_;rw[h2];rintro e w' ⟨rfl,rfl⟩)
   | (go_at_call 90;refine(oP _ 218 #[] (fun o=>!eO o) (HS.out.ext ((Ext.refl _).alloc _)) hlen Fy (fun x _ W _=>Ee x W)).mono ?_;rw[H3.out];rintro e w1 ⟨rfl,b1⟩))
  go_returns;refine⟨rfl,?_⟩
  first
  | exact((Ext.refl _).alloc _).trans b1
  | exact(Ext.refl _).alloc _)
theorem Fx(d:eH)(ov:Value)(w:World)(h:aF 3 aj w ov d.steps)(hlen:d.steps.length<=2097152) :
 Calls Tryz.prog 180 #[RH d ov] w fun e w'=>e=.returned (.bool (!bM d))/\Ext w w':=by
 have hE:=(Ext.refl w).alloc (.cells #[.int .i64 d.az,ov] 78);have HS:=aa (FN d ov _ (h.ext hE) hlen);have HE:=aa hE;obtain⟨A,c,rfl,_⟩:=id h;clear h hE;show Calls Tryz.prog 180 #[.agg #[.int .i64 d.az,.slice A d.steps.length c]] w _;cases h1:bM d<;>(
  go_enter Tryz.func180,Tryz.ntmps180;go_wp2_with (go_at_call 181;refine HS.out.mono ?_;rw[h1];rintro e w1 ⟨rfl,b1⟩)
  go_returns;exact⟨rfl,HE.out.trans b1⟩)
theorem IM(args:Array Value)(W:World):(callFunc 180 args).run Tryz.prog W=.ok (.enter 180 args) W:=by kernel_rfl
theorem pX{v:Value}{p:List eH}(w:World)(h:xZ w v p)(hlen:p.length<=2097152)(hst:∀d∈p,d.steps.length<=2097152) :
 Calls Tryz.prog 137 #[v] w fun e w'=>e=.returned (.bool (dQ p))/\Ext w w':=by
 obtain⟨A,c,rfl⟩:=h.slice;have HC:=aa (yD w 180 #[] (fun d=>!bM d) h hlen IM (fun d hd ov W _ hs=>Fx d ov W hs (hst d hd)));have hf:Hid (dQ p=(decide (p.length<=4) && !(p.any fun d=>!bM d))):=by show _ = _;simp[dQ,List.all_eq_not_any_not]
 rw[hf.out];clear hf h hst;cases h2:decide (p.length<=4)<;>cases h3:(p.any fun d=>!bM d)<;>(
  have h2':=h2;simp only[decide_eq_true_eq,decide_eq_false_iff_not]at h2';have H3:=aa h3;clear h3;go_enter Tryz.func137,Tryz.ntmps137;go_wp2_with (go_at_call 179;refine HC.out.mono ?_;rw[H3.out];rintro e w1 ⟨rfl,b1⟩)
  go_returns;refine⟨rfl,?_⟩
  first
  | exact b1
  | exact Ext.refl _)
theorem yI{many:Nat}{B:Nat}(n:Int)(W:World)(hm:many<=4)(hB:W.cell? ⟨B,0,none⟩=some (.int .i64 (many:Int)))(hn:0<=n/\n<many) :
 Calls Tryz.prog 219 #[.int .i64 n,.pointer (some ⟨B,0,none⟩)] W fun r w'=>r=.returned (.bool false)/\Ext W w':=by
 have b1:jR n 0 ((many:Int)-1)=true:=bL.2 (by omega);have hw:IntKind.i64.wrap ((many:Int)-1)=(many:Int)-1:=IntWalk.i64_in _ (by omega);clear hn;go_enter Tryz.func219,Tryz.ntmps219;go_wp2_with (go_at_call 105;refine(dN _ _ _ _).mono ?_;rw[b1];rintro e w' ⟨rfl,rfl⟩)
 go_returns;exact⟨rfl,Ext.refl _⟩
theorem zX(args:Array Value)(W:World):(callFunc 219 args).run Tryz.prog W=.ok (.enter 219 args) W:=by kernel_rfl
theorem yM{v:Value}{xs:List Int}(many:Nat)(w:World)(hm:many<=4)(h:rM encI w v xs)(hl:xs.length<=40)(hok:∀n∈xs,0<=n/\n<many) :
 Calls Tryz.prog 183 #[.int .i64 (many:Int),v] w fun r w'=>r=.returned (.bool true)/\Ext w w':=by
 obtain⟨A,c,rfl,_⟩:=id h;have b1:jR (many:Int) 0 4=true:=bL.2 (by omega);have hE:Ext w (w.alloc (.cells #[.int .i64 (many:Int)] 3)):=(Ext.refl _).alloc _;have cB:(w.alloc (.cells #[.int .i64 (many:Int)] 3)).cell? ⟨w.heap.size,0,none⟩=some (.int .i64 (many:Int)):=av rfl;have hcon:=qB (w.alloc (.cells #[.int .i64 (many:Int)] 3)) 219 #[.pointer (some ⟨w.heap.size,0,none⟩)] (fun _=>false) (h.ext hE) (by omega) zX (fun x hx W hW=>yI x W hm (hW.cell cB) (hok x hx));rw[show (xs.any fun _=>false)=false by simp]at hcon;have HC:=aa hcon;have HE:=aa hE;have hlt:decide ((xs.length:Int)<=40)=true:=decide_eq_true (by omega);clear h hok hcon hE;go_enter Tryz.func183,Tryz.ntmps183;go_wp2_with (first|(go_at_call 105;refine(dN _ _ _ _).mono ?_;rw[b1];rintro e w' ⟨rfl,rfl⟩)|(go_at_call 122;refine HC.out.mono ?_;rintro e w' ⟨rfl,bb⟩;have B9:=aa (HE.out.trans bb)))
 go_returns;exact⟨rfl,B9.out⟩
theorem J9{v u:Value}{p:List eH}{xs:List Int}(w:World)(h:xZ w v p)(hp:dQ p=true)(hx:rM encI w u xs)(hl:xs.length<=40)(hok:∀n∈xs,0<=n/\n<p.length) :
 Calls Tryz.prog 140 #[v,u] w fun r w'=>r=.returned (.bool true)/\Ext w w':=by
 obtain⟨A,c,rfl⟩:=h.slice;obtain⟨B,d,rfl,_⟩:=id hx;have h4:=jF hp;have HP:=aa (pX w h (by omega) (fun d hd=>by have:=(gq (dz hp hd)).2;omega));have Nc:=aa hp;have HS:=aa (fun W (b:Ext w W)=>yM p.length W h4 (hx.ext b) hl hok);clear h hp hx hok;go_enter Tryz.func140,Tryz.ntmps140;go_wp2_with (first|(go_at_call 137;refine HP.out.mono ?_;rw[Nc.out];rintro e w1 ⟨rfl,b1⟩)|(go_at_call 183;refine(HS.out _ b1).mono ?_;rintro e w2 ⟨rfl,b2⟩))
 go_returns;exact⟨rfl,b1.trans b2⟩
