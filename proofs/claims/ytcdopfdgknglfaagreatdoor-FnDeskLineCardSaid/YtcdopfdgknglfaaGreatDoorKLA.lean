/- Lemmas. -/
import Derived.Test.YtcdopfdgknglfaaGreatDoorKBD
set_option maxHeartbeats 16000000
set_option maxRecDepth 8000
set_option linter.all false
namespace Go.Proofs.YtcdopfdgknglfaaGreatDoor
open Go.RowKit
section
theorem VK(h:List aG)(s:List UInt8):(gY h s).1.length<=6/\(∀t∈(gY h s).1,t.ops.length<=2097152):=⟨aR (GH h s),aJ (GH h s)⟩
theorem SE{h:List aG}(hok:aD h=true)(s:List UInt8):(gY h s).2≠[]/\((gY h s).2=Fe∨(gY h s).1=h)/\gY h uB=(h,nC):=by have h1:gY h s=deskR h s:=aj hok;have h2:gY h uB=deskR h uB:=aj hok;rw[h1,h2];exact⟨(Ig h s).1,(Ig h s).2,JS h⟩
theorem UN{h:List aG}(hok:aD h=false)(s:List UInt8):gY h s=([],[]):=au (by rw[hok];decide)
theorem IA(w:World){v0:Value}{QK:List Int}(s0:oZ Nk w v0 QK)(l0:QK.length<=9223372036854775807)(f0:∀x∈QK,0<=x/\x<=255)(k0:∀A n c,v0=.slice A n c->n<=c/\c<=9223372036854775807)(hE:Env w) :
 Calls Tryz.prog 3 #[v0] w λe w'=>e=.returned (.bool true)/\Ext w w':=by
 obtain⟨A0,c0,hv0,_⟩:=id s0;by_cases hl:QK.length<=1048576;case neg=>
  subst hv0;have hl':1048576<QK.length:=by omega
  clear hl s0 f0 k0;go_enter Tryz.func3,Tryz.ntmps3;go_wp2;go_returns;exact⟨rfl,af _⟩
 have HC:=aa (⟨QK,s0,f0,hl,k0⟩:GG w v0);have HE0:=aa hE;subst hv0;clear s0 f0 k0 hE;go_enter Tryz.func3,Tryz.ntmps3;go_wp2_with fail
 refine(DD _ HC.out).mono ?_
 rintro e w1 ⟨v,h,s,rfl,hv,hlen,hM,hs,b1⟩;have HE:=aa (HE0.out.ext b1);have HV:=aa hv;have HB1:=aa b1;have KO:=aa (λW v (H:iM W v h)=>zI (X:=λ_=>False) s W (λ_ h=>h.elim) H hlen hM (by omega));have HIM:=aa (λs (hs:s.length<=1048576) W v (b:Ext w1 W) (H:iM W v h)=>J9 s W H hlen hM (HE.out.ext b) hs);have HHV:=aa (λW v (H:iM W v h)=>bJ W H hlen hM);have hgl:=VK h s;have hgo:=GH h s;have HI1:=aa (HIM.out s (by omega));have HIN:=aa (HIM.out uB (by decide));have hHH:=λW v v' (a:iM W v h) (b:iM W v' h)=>qG W a b hlen hM;have Zy:=aa hHH;have hcase:(aD h=false/\gY h s=([],[]))∨(aD h=true/\(gY h s).2≠[]/\((gY h s).2=Fe∨(gY h s).1=h)/\gY h uB=(h,nC)):=by
  cases hok:aD h with
  | false=>exact .inl ⟨rfl,UN hok s⟩
  | true=>exact .inr ⟨rfl,SE hok s⟩
 unfold tV at KO;obtain⟨⟨g,z⟩,hg⟩:∃g,gY h s=g:=⟨_,rfl⟩;rw[hg]at KO HI1 hgl hgo hcase;simp only at hgl hgo hcase;have HEQ:=aa (λW v v' (a:iM W v g) (b:iM W v' g)=>qG W a b (by have:=hgl.1;omega) hgl.2);have HGV:=aa (λW v (H:iM W v g)=>bZ W H (by have:=hgl.1;omega) hgl.2);rw[hgo]at HGV;have HCA:=aa hcase;have HGL:=aa hgl.1;obtain⟨y,hy⟩:∃y,tx s=y:=⟨_,rfl⟩;obtain⟨za,hza⟩:∃y,tx z=y:=⟨_,rfl⟩;rw[hy,hza]at KO HI1;rw[hy];have HZA:=aa hza;obtain⟨A,c,rfl⟩:=HV.out.slice;clear hcase hHH hgl hgo hg hy hza hv hlen hM hs b1;go_wp2_with fail
 refine(HI1.out w1 _ (af _) HV.out).mono ?_
 rintro e w2 ⟨x,rsx,rfl,hx,-,b2⟩;have HB2:=aa b2;have sV:Hid (iM w2 x g):=⟨rsx,hx⟩;clear hx b2;go_wp2_with fail
 refine(KO.out w2 _ (HV.out.ext HB2.out)).mono ?_
 rintro e w3 ⟨x3,rfl,hx,b3⟩;have HB3:=aa (HB2.out.trans b3);have Oj:=aa hx.his;have HX:=aa (sV.out.ext b3);clear hx b3 sV HB2;go_wp2_with fail
 refine(HEQ.out w3 _ _ HX.out Oj.out).mono ?_
 rintro e w4 ⟨rfl,b4⟩;have uW:=aa (HB3.out.trans b4);have JO:=aa (HX.out.ext b4);clear b4 HB3 Oj HX;go_wp2_with fail
 refine(HHV.out w4 _ (HV.out.ext uW.out)).mono ?_
 rintro e w5 ⟨rfl,b5⟩;have BA:=aa (uW.out.trans b5);have BS:=aa (JO.out.ext b5);clear b5 uW JO;rcases HCA.out with ⟨hok,hg⟩|⟨hok,hz,hor,hno⟩
 ·injection hg with hg1 hg2;subst hg1 hg2;obtain rfl:za=⟨#[]⟩:=HZA.out.symm;obtain⟨Ax,cx,rfl⟩:=BS.out.slice;rw[hok];clear hok;simp only[iJ];go_wp2_with (go_at_call 11;refine(CP _).mono ?_;rintro e w8 ⟨rfl,b8⟩)
  go_returns;exact⟨rfl,HB1.out.trans (BA.out.trans b8)⟩
 ·rw[hok];rw[hno]at HIN;have hz1:¬za.toList=[]:=by rw[<-HZA.out,fA];exact hz
  have hz3:za.toList.isEmpty=false:=by
   cases e:za.toList with
   | nil=>exact absurd e hz1
   | cons a l=>rfl
  have hw1:(tx nC).toList=[119,104,97,116]:=fA nC;have YV:Hid (za.toList=[111,107]∨(¬za.toList=[111,107]/\g=h)):=by
   show _∨_;rw[<-HZA.out,fA];by_cases e:z=Fe
   ·exact .inl e
   ·exact .inr ⟨e,hor.resolve_left e⟩
  clear hok hz hor hno;go_wp2_with fail
  refine(HIN.out w5 _ BA.out (HV.out.ext BA.out)).mono ?_
  rintro e w6 ⟨x6,rs6,rfl,-,-,b6⟩;have zi:=aa (BA.out.trans b6);have Y5:=aa (BS.out.ext b6);clear b6 BA BS;go_wp2_with fail
  refine(HGV.out w6 _ Y5.out).mono ?_
  rintro e w7 ⟨rfl,b7⟩;have JK:=aa (zi.out.trans b7);have HX7:=aa (Y5.out.ext b7);clear b7 zi Y5;rcases YV.out with ho|⟨ho,hgh⟩
  ·clear YV;go_wp2;go_returns;exact⟨rfl,HB1.out.trans JK.out⟩
  ·subst hgh;have jR:=aa (Zy.out w7 _ _ HX7.out (HV.out.ext JK.out));clear YV;go_wp2_with (go_at_call 9;refine jR.out.mono ?_;rintro e w8 ⟨rfl,b8⟩)
   go_returns;exact⟨rfl,HB1.out.trans (JK.out.trans b8)⟩
end
