/- Lemmas. -/
import Derived.Test.YtcdopfdgknglfaaGreatDoorKBD
set_option maxHeartbeats 16000000
set_option maxRecDepth 8000
set_option linter.all false
namespace Go.Proofs.YtcdopfdgknglfaaGreatDoor
open Go.RowKit
section
theorem KV(h:List aG)(ls:List (List UInt8)):aD (iw h ls).1=true/\(iw h ls).2.length<=20:=by
 unfold iw;split
 ·rename_i hg
  have:=rO hg.1 ls ls.length (av _)
  rw[bM]at this;exact⟨this.1,by rw[this.2];exact hg.2⟩
 ·exact⟨rfl,by simp⟩
theorem uA{h:List aG}(hh:aD h=true):h.length<=2097152/\∀t∈h,t.ops.length<=2097152:=⟨by have:=aR hh;omega,aJ hh⟩
theorem U6{α:Type}(xs:List α)(k:Nat):part xs 0 k=xs.take k:=by simp[part]
theorem VR{α:Type}(xs:List α)(k:Nat):part xs k xs.length=xs.drop k:=by simp[part]
theorem Kr(w:World){v0:Value}{QK:List Int}(s0:oZ Nk w v0 QK)(l0:QK.length<=9223372036854775807)(f0:∀x∈QK,0<=x/\x<=255)(k0:∀A n c,v0=.slice A n c->n<=c/\c<=9223372036854775807)(hE:Env w) :
 Calls Tryz.prog 4 #[v0] w λe w'=>e=.returned (.bool true)/\Ext w w':=by
 obtain⟨A0,c0,hv0,_⟩:=id s0;by_cases hl:QK.length<=1048576;case neg=>
  subst hv0;have hl':1048576<QK.length:=by omega
  clear hl s0 f0 k0;go_enter Tryz.func4,Tryz.ntmps4;go_wp2;go_returns;exact⟨rfl,af _⟩
 have HC:=aa (⟨QK,s0,f0,hl,k0⟩:GG w v0);have HE0:=aa hE;subst hv0;clear s0 f0 k0 hE;go_enter Tryz.func4,Tryz.ntmps4;go_wp2_with fail
 refine(Fz _ HC.out).mono ?_
 rintro e w1 ⟨v,u,h,ls,rfl,hv,hlen,hM,hu,Kn,hs,hcap,b1⟩;have HE:=aa (HE0.out.ext b1);have HV:=aa hv;have HU:=aa hu;have HB1:=aa b1;obtain⟨A,c,rfl⟩:=HV.out.slice;obtain⟨Au,cu,rfl,_⟩:=id HU.out;have hcp:=hcap _ _ _ rfl;have HIM:=aa (λW (b:Ext w1 W)=>vV W (HV.out.ext b) hlen hM (HE.out.ext b) (HU.out.ext b) (by omega) hs);have KO:=aa (λW (b:Ext w1 W)=>NB W (HV.out.ext b) hlen hM (HU.out.ext b) (by omega) hs);have HHV:=aa (λW (b:Ext w1 W)=>bJ W (HV.out.ext b) hlen hM);have hgl:=KV h ls;have hcase:(¬(aD h=true/\ls.length<=20)/\iw h ls=([],[]))∨(aD h=true/\ls.length<=20):=by
  by_cases hg:aD h=true/\ls.length<=20
  ·exact .inr hg
  ·exact .inl ⟨hg,au hg⟩
 obtain⟨⟨g,z⟩,hg⟩:∃g,iw h ls=g:=⟨_,rfl⟩;rw[hg]at KO HIM hgl hcase;simp only at hgl hcase;have HEQ:=aa (λW v v' (a:iM W v g) (b:iM W v' g)=>qG W a b (uA hgl.1).1 (uA hgl.1).2);have HTE:=aa (λW v v' (a:aL 1 encS W v z) (b:aL 1 encS W v' z)=>Ko W a b (by have:=hgl.2;omega));have HCA:=aa hcase;have HG:=aa hg;have HZL:=aa hgl.2;have HPA:=aa (λk (hk:k<=ls.length)=>aB (HU.out.part 0 k (by omega) hk hcp.1) (HU.out.part k ls.length hk (av _) hcp.1));have HLS:=aa hs;clear hcase hgl hg hv hlen hM hu b1 hs;go_wp2_with fail
 refine(HIM.out w1 (af _)).mono ?_
 rintro e w2 ⟨x,rsx,x2,mid,rfl,hx,-,-,hr,-,b2⟩;have HB2:=aa b2;have sV:Hid (iM w2 x g):=⟨rsx,hx⟩;have V9:=aa hr.cell.1;clear hx b2 hr;go_wp2_with fail
 refine(KO.out w2 HB2.out).mono ?_
 rintro e w3 ⟨y,y2,rfl,hx,hr,b3⟩;have HB3:=aa (HB2.out.trans b3);have Oj:=aa hx;have HY3:=aa hr;have HX:=aa (sV.out.ext b3);have HY:=aa (V9.out.ext b3);clear hx b3 hr sV V9 HB2;go_wp2_with fail
 refine(HEQ.out w3 _ _ HX.out Oj.out).mono ?_
 rintro e w4 ⟨rfl,b4⟩;go_wp2_with fail
 refine(HTE.out w4 _ _ (HY.out.ext b4) (HY3.out.ext b4)).mono ?_
 rintro e w5 ⟨rfl,b5⟩;have BA:=aa (HB3.out.trans (b4.trans b5));have BS:=aa (HX.out.ext (b4.trans b5));have HY5:=aa (HY.out.ext (b4.trans b5));clear b4 b5 HB3 Oj HX HY3 HY;go_wp2_with fail
 refine(HHV.out w5 BA.out).mono ?_
 rintro e w6 ⟨rfl,b6⟩;have zi:=aa (BA.out.trans b6);have Y5:=aa (BS.out.ext b6);have HY6:=aa (HY5.out.ext b6);clear b6 BA BS HY5;rcases HCA.out with ⟨hno,hg⟩|⟨hok,h20⟩
 ·injection hg with hg1 hg2;subst hg1 hg2;obtain⟨Ax,cx,rfl⟩:=Y5.out.slice;obtain⟨Ay,cy,rfl,_⟩:=id HY6.out;simp only[iJ];clear HCA HPA HG hcp hcap
  cases hok:aD h with
  | false=>
    clear hok hno;go_wp2_with (go_at_call 11;refine(CP _).mono ?_;rintro e w8 ⟨rfl,b8⟩)
    go_returns;exact⟨rfl,HB1.out.trans (zi.out.trans b8)⟩
  | true=>
    have h20:20<ls.length:=by
     rcases eP 20 ls.length with h|h
     ·exact h
     ·exact absurd ⟨hok,h⟩ hno
    clear hok hno;go_wp2_with (go_at_call 11;refine(CP _).mono ?_;rintro e w8 ⟨rfl,b8⟩)
    go_returns;exact⟨rfl,HB1.out.trans (zi.out.trans b8)⟩
 ·have hk:ls.length/2<=ls.length:=JC _ _;obtain⟨c1,c2,c3⟩:=Sr hok h20 (ls.length/2);rw[HG.out]at c1 c2 c3;simp only at c1 c2 c3;have Cf:=mW (P:=Tryz.prog) (A:=Au) (n:=ls.length) (c:=cu) kY CK (ls.length/2) (by have:=hcp.1;omega);have EB:=mK (P:=Tryz.prog) (A:=Au) (n:=ls.length) (c:=cu) kY CK (ls.length/2) hk;rw[show ((ls.length/2:Nat):Int)=(ls.length:Int)/2 from by simp]at Cf EB;obtain⟨hp1,hp2⟩:=HPA.out _ hk;obtain⟨vc1,adn⟩:∃vc,(Value.slice (if cu=0 then Au else Au.map (·.add (0*1))) (ls.length/2-0) (cu-0))=vc:=⟨_,rfl⟩;obtain⟨vc2,adb⟩:∃vc,(Value.slice (if cu=ls.length/2 then Au else Au.map (·.add (ls.length/2*1))) (ls.length-ls.length/2) (cu-ls.length/2))=vc:=⟨_,rfl⟩;rw[adn]at Cf hp1;rw[adb]at EB hp2;have HP1:=aa hp1.1;have U9:=aa hp2.1;rw[U6]at HP1;rw[VR]at U9;have hm:=KV h (ls.take (ls.length/2));have hl1:(ls.take (ls.length/2)).length<=2097152:=by rw[eY];omega
  have hl2:(ls.drop (ls.length/2)).length<=2097152:=by rw[rX];omega
  have HI1:=aa (λW (b:Ext w1 W) (H:iM W (.slice A h.length c) h) (a1:h.length<=2097152) a2=>vV W H a1 a2 (HE.out.ext b) (HP1.out.ext b) hl1 (λs hs=>HLS.out s (oI hs)));have HI2:=aa (λW v (b:Ext w1 W) (H:iM W v (iw h (ls.take (ls.length/2))).1)=>vV W H (uA hm.1).1 (uA hm.1).2 (HE.out.ext b) (U9.out.ext b) hl2 (λs hs=>HLS.out s (List.mem_of_mem_drop hs)));obtain⟨⟨m1,a1⟩,e1⟩:∃g,iw h (ls.take (ls.length/2))=g:=⟨_,rfl⟩;rw[e1]at HI1 HI2 c1 c2 hm;simp only at HI1 HI2 c1 c2 hm;obtain⟨⟨m2,a2⟩,e2⟩:∃g,iw m1 (ls.drop (ls.length/2))=g:=⟨_,rfl⟩;rw[e2]at HI2 c1 c2;simp only at HI2 c1 c2;subst c1;have WC:=aa c2;clear c2;have hb:=uA hok;have HLEN:=aa c3;have hzl:a1.length+a2.length<=20:=by have:=HZL.out;rw[<-WC.out,dw]at this;exact this
  rw[hok];clear hok adn adb hp1 hp2 hl1 hl2 e1 e2 hm HPA HCA HG HLS HP1 U9 c3 hcap hk;go_wp2_with fail
  refine(HI1.out w6 zi.out (HV.out.ext zi.out) hb.1 hb.2).mono ?_
  rintro e w7 ⟨x7,rs7,y7,af4,rfl,hx,-,-,hr,-,b7⟩;have JK:=aa (zi.out.trans b7);have HM7:Hid (iM w7 x7 m1):=⟨rs7,hx⟩;have HA7:=aa hr.cell.1;have HX7:=aa (Y5.out.ext b7);have HY7:=aa (HY6.out.ext b7);clear hx hr b7 zi Y5 HY6 HI1 hb Cf;go_wp2_with fail
  refine(HI2.out w7 _ JK.out HM7.out).mono ?_
  rintro e w8 ⟨x8,rs8,y8,agp,rfl,hx,-,-,hr,-,b8⟩;have HB8:=aa (JK.out.trans b8);have Y3:Hid (iM w8 x8 m2):=⟨rs8,hx⟩;have HA8:=aa (HA7.out.ext b8);have HC8:=aa hr.cell.1;have OU:=aa (HX7.out.ext b8);have HY8:=aa (HY7.out.ext b8);clear hx hr b8 JK HX7 HY7 HI2 HM7 HA7 EB;go_wp2_with fail
  refine(HEQ.out w8 _ _ Y3.out OU.out).mono ?_
  rintro e w9 ⟨rfl,b9⟩;have Zb:=aa (HB8.out.trans b9);have HA9:=aa (HA8.out.ext b9);have HC9:=aa (HC8.out.ext b9);have HY9:=aa (HY8.out.ext b9);clear b9 HB8 Y3 OU HA8 HC8 HY8 HEQ;obtain⟨A7,c7,rfl,_⟩:=id HA9.out;obtain⟨A8,c8,rfl,_⟩:=id HC9.out;obtain⟨Ay,cy,rfl,_⟩:=id HY9.out;have hlen3:((z.length:Int)==(ls.length:Int))=true:=by rw[HLEN.out];exact beq_self_eq_true _
  have jR:=aa (λW v (b:Ext w9 W) (a:aL 1 encS W v z)=>HTE.out W _ _ a (HY9.out.ext b));go_wp2_with (at_builtin;refine halt ?_)
  refine Halt.go ?_;refine XT (xs:=[]) (ys:=a1) rfl rfl rfl rfl (Row.made w9 _) (HA9.out.ext ((af _).alloc _)) (by simp;omega) (by simp) ?_;intro v10 Yf hrow hg;rw[List.nil_append]at hrow;obtain⟨A10,c10,rfl,_⟩:=id hrow.cell.1;have abZ:=aa (Ext.grown ((af w9).alloc _) hg (λk hk=>(Row.made (α:=List UInt8) (m:=1) (enc:=encS) w9 9).block k hk));have ac4:=aa hrow;clear hrow hg;go_wp2_with (at_builtin;refine halt ?_)
  refine Halt.go ?_;refine XT (ys:=a2) rfl rfl rfl rfl ac4.out (HC9.out.ext abZ.out) (by omega) abZ.out.size ?_;intro v11 w11 hrow hg;rw[WC.out]at hrow;obtain⟨A11,c11,rfl,_⟩:=id hrow.cell.1;have acA:=aa (Ext.grown abZ.out hg (λk hk=>ac4.out.block k hk));have aew:=aa hrow.cell.1;clear hrow hg;go_wp2_with (go_at_call 16;refine(jR.out w11 _ acA.out aew.out).mono ?_;rintro e w12 ⟨rfl,b12⟩)
  go_returns;exact⟨rfl,HB1.out.trans (Zb.out.trans (acA.out.trans b12))⟩
end
