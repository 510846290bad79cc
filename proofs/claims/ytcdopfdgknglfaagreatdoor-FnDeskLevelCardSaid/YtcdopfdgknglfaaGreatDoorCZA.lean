/- Lemmas. -/
import Derived.Test.YtcdopfdgknglfaaGreatDoorCAZ
import Derived.Test.YtcdopfdgknglfaaGreatDoorCBD
set_option maxHeartbeats 16000000
set_option maxRecDepth 8000
set_option linter.all false
namespace Go.Proofs.YtcdopfdgknglfaaGreatDoor
open Go.RowKit
section
theorem MI{p:List dZ}(hp:bJ p=true):dR p=[]∨(dR p≠[]/\(tq [] (pV++32 :: dR p)=(jJ p,Jo))/\tq (jJ p) kN=(jJ p,dV (jJ p))/\(dV (jJ p)=Ev∨dV (jJ p)=levL 3∨dV (jJ p)=levL 4)):=by
 by_cases h:dR p=[]
 ·exact .inl h
 ·exact .inr ⟨h,LZ hp h,Ip hp⟩
theorem xR(w:World){v0:Value}{Qn:List Int}(s0:mD FY w v0 Qn)(l0:Qn.length<=9223372036854775807)(f0:∀x∈Qn,0<=x/\x<=255)(k0:∀A n c,v0=.slice A n c->n<=c/\c<=9223372036854775807)(hE:Env w) :
 Calls Tryz.prog 5 #[v0] w λe w'=>e=.returned (.bool true)/\Ext w w':=by
 obtain⟨A0,c0,hv0,_⟩:=id s0;by_cases hl:Qn.length<=1048576;case neg=>
  subst hv0;have hl':1048576<Qn.length:=by omega
  clear hl s0 f0 k0;go_enter Tryz.func5,Tryz.ntmps5;go_wp2;go_returns;exact⟨rfl,af _⟩
 have HC:=aa (⟨Qn,s0,f0,hl,k0⟩:IM w v0);have RA:=aa hE;subst hv0;clear s0 f0 k0 hE;go_enter Tryz.func5,Tryz.ntmps5;go_wp2_with fail
 refine(vE _ HC.out).mono ?_
 rintro e w1 ⟨v,p,rfl,hv,hlen,hst,b1⟩;have HE:=aa (RA.out.ext b1);have HV:=aa hv;have HB1:=aa b1;have Ol:=aa (λW (b:Ext w1 W)=>sU W (HV.out.ext b) hlen hst);have Qk:=aa (λW (b:Ext w1 W)=>BO W (HV.out.ext b) hlen hst);have hcase:(if bJ p then dR p else [])=[]∨(bJ p=true/\dR p≠[]):=by
  cases hok:bJ p with
  | false=>exact .inl rfl
  | true=>
    by_cases e:dR p=[]
    ·exact .inl e
    ·exact .inr ⟨rfl,e⟩
 obtain⟨A,c,rfl⟩:=HV.out.slice;clear hv hlen hst b1;rcases hcase with h0|⟨hok,hne⟩
 ·rw[h0]at Ol Qk;obtain⟨z,hz⟩:∃z,tx []=z:=⟨_,rfl⟩;obtain rfl:z=⟨#[]⟩:=hz.symm;rw[hz]at Ol Qk;clear h0 hz;go_wp2_with (first|(go_at_call 18;refine(Ol.out w1 (af _)).mono ?_;rintro e w2 ⟨rfl,b2⟩)|(go_at_call 19;refine(Qk.out w2 b2).mono ?_;rintro e w3 ⟨rfl,b3⟩)|(go_at_call 11;refine(Kj _).mono ?_;rintro e w4 ⟨rfl,b4⟩))
  go_returns;exact⟨rfl,HB1.out.trans (b2.trans (b3.trans b4))⟩
 ·obtain⟨hne,h1,h2,h3⟩:=(MI hok).resolve_left hne;rw[hok]at Ol Qk;simp only[if_true]at Ol Qk;have hll:(pV++32 :: dR p).length<=1048576:=by
   have:=Lp hok
   have h3:pV.length=3:=by decide
   rw[bN,eF];omega
  have hrl:=aT (p8 hok);have hrm:=bD (p8 hok);have Vh:=aa (λW (b:Ext w1 W)=>sJ (pV++32 :: dR p) W (lV.nil W none 0) (by simp) (λt ht=>by cases ht) (HE.out.ext b) hll);have JP:=aa (λW v (b:Ext w1 W) (H:lV W v (jJ p))=>sJ kN W H (by omega) hrm (HE.out.ext b) (by decide));rw[h1]at Vh;rw[h2]at JP;simp only at Vh JP;have cz:Hid (∀W,(Op.stringOp .add ⟨#[114,117,110,32]⟩ (tx (dR p))).run Tryz.prog W=.ok (.string (tx (pV++32 :: dR p))) W):=λW=>by
   have:=dI (pV++[32]) (dR p) (by have:=hll;simp at this ⊢;omega) W
   refine Eq.trans this ?_;simp
  obtain⟨T,hT⟩:∃T,dV (jJ p)=T:=⟨_,rfl⟩;rw[hT]at JP h3;have h3':(tx T).toList=Ev∨(tx T).toList=levL 3∨(tx T).toList=levL 4:=by rw[eu];exact h3
  obtain⟨za,hza⟩:∃y,tx T=y:=⟨_,rfl⟩;rw[hza]at JP h3';have hz:¬(tx (dR p)).toList=[]:=by rw[eu];exact hne
  have hz2:(tx (dR p)).toList.isEmpty=false:=by
   rw[eu]
   cases e:dR p with
   | nil=>exact absurd e hne
   | cons a l=>rfl
  have hok1:(tx Jo).toList=[111,107]:=eu Jo;obtain⟨y,hy⟩:∃y,tx (dR p)=y:=⟨_,rfl⟩;obtain⟨y2,hy2⟩:∃y,tx (pV++32 :: dR p)=y:=⟨_,rfl⟩;rw[hy]at Ol Qk cz hz hz2;rw[hy2]at Vh cz;have H3:=aa h3';clear h1 h2 h3 h3' hT hza hy hy2 hll hrl hrm hok hne;go_wp2_with (first|(go_at_call 18;refine(Ol.out w1 (af _)).mono ?_;rintro e w2 ⟨rfl,b2⟩)|(go_at_call 19;refine(Qk.out w2 b2).mono ?_;rintro e w3 ⟨rfl,b3⟩;have hrun:=cz.out w3))
  refine(Vh.out w3 (b2.trans b3)).mono ?_
  rintro e w4 ⟨x,rsx,rfl,hx,-,b4⟩;have HX:Hid (lV w4 x (jJ p)):=⟨rsx,hx⟩;have Jt:=aa ((b2.trans b3).trans b4);clear hx b2 b3 b4 hrun;go_wp2_with fail
  refine(JP.out w4 _ Jt.out HX.out).mono ?_
  rintro e w5 ⟨x5,rs5,rfl,-,-,b5⟩;have Tt:=aa (HB1.out.trans (Jt.out.trans b5));clear b5;rcases H3.out with h|h|h;all_goals
   replace h:za.toList = _:=h;go_wp2;go_returns;exact⟨rfl,Tt.out⟩
end
