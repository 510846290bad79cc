/- Lemmas. -/
import Derived.Test.YtomkjlklninhpaaGreatDoorKBM
import Derived.Test.YtomkjlklninhpaaGreatDoorKBN
set_option maxHeartbeats 16000000
set_option maxRecDepth 8000
set_option linter.all false
namespace Go.Proofs.YtomkjlklninhpaaGreatDoor
open Go.RowKit
section
theorem iZ.adZ{lo lo':Nat}{w:World}{v:Value}{rs:List iX}(h:iZ lo w v rs)(hl:lo'<=lo):iZ lo' w v rs:=
 have ol:∀{u:Value},Own lo w u->Own lo' w u:=fun h a n c hv hn=>⟨Nat.le_trans hl (h a n c hv hn).1,(h a n c hv hn).2⟩
 ⟨ol h.1,fun i r hr=>⟨ol (h.2.1 i r hr).1,(h.2.1 i r hr).2⟩,h.2.2⟩
theorem qj.low{w W:World}{h:List aA}{e:Ending}{w':World}(r:qj W h e w')(hb:Ext w W):qj w h e w':=by obtain⟨v,rs,h1,h2,h3,h4⟩:=r;exact⟨v,rs,h1,h2,h3.adZ hb.size,hb.trans h4⟩
theorem M4(h:List aA)(s:List UInt8):aC (iQ h s).1=true:=by
 unfold iQ;split
 ·rename_i h';exact Fw h' s
 ·rfl
theorem I4{v:Value}{h:List aA}(s:List UInt8)(w:World)(H:gL w v h)(hlen:h.length<=2097152)(hM:∀t∈h,t.ops.length<=2097152)(hE:Env w)(hl:s.length<=1048576) :
 Calls Tryz.prog 8 #[v,.string (tx s)] w fun e w'=>∃v' rs,e=.returned (.tuple #[v',.string (tx (iQ h s).2)])/\jI w' v' rs (iQ h s).1/\iZ w.heap.size w' v' rs/\Ext w w':=by
 obtain⟨A,c,rfl⟩:=H.slice;have HV:=aa (bN w H hlen hM);have HH:=aa H;have HE:=aa hE
 cases hok:aC h with
 | false=>
   rw[hok]at HV;have HD:Hid (iQ h s=([],[])):=if_neg (by rw[hok];decide);clear H hlen hM hE hok;obtain⟨z,hz⟩:∃z,tx s=z:=⟨_,rfl⟩;rw[hz];clear hz;go_enter Tryz.func8,Tryz.ntmps8;go_wp2_with (go_at_call 34;refine HV.out.mono ?_;rintro e w1 ⟨rfl,b1⟩)
   go_returns;rw[HD.out];exact⟨.slice none 0 0,[],rfl,⟨rfl,aF.nil _ _ _ _ _,fun i r t hr=>by simp at hr⟩,⟨Own.nil _ _ _ _,fun i r hr=>by simp at hr,fun i j r r' _ hr=>by simp at hr⟩,b1⟩
 | true=>
   rw[hok]at HV;have HD:Hid (iQ h s=fZ h s):=if_pos hok;have HL:=aa (fun W (b:Ext w W)=>Nr (X:=fun _=>False) s W (fun _ h=>h.elim) (let ⟨rs,Hr⟩:=H.ext b;⟨rs,Hr,fun _ _ _ _ _ h=>h,fun _ _ _ _ _ _ _ _ h=>h⟩) hok (hE.ext b) hl);have HK:=aa (Fw hok s);obtain⟨z,hz⟩:∃z,tx s=z:=⟨_,rfl⟩;rw[hz]at HL ⊢;clear H hlen hM hE hok hz;go_enter Tryz.func8,Tryz.ntmps8;go_wp2_with fail
   refine HV.out.mono ?_;rintro e w1 ⟨rfl,b1⟩;go_wp2_with fail
   refine(HL.out w1 b1).mono ?_
   rintro e w2 ⟨v2,rfl,h2,b2⟩;obtain⟨A2,c2,rfl⟩:=h2.slice;have HC:=aa (oI w2 h2.his (by have:=aM HK.out;omega) (aD HK.out));have HB:=aa (b1.trans b2);clear h2 b1 b2;go_wp2_with fail
   refine HC.out.mono ?_;intro e w3 r;obtain⟨v3,rs,rfl,h3,o3,b3⟩:=qj.low r HB.out;go_wp2;go_returns;rw[HD.out];exact⟨v3,rs,rfl,h3,o3,b3⟩
end
section
theorem wO{lo:Nat}{X:Nat->Prop}{w w':World}{v:Value}{rs:List iX}{h:List aA}(H:jI w v rs h)(O:iZ lo w v rs)(k:bH X w w')(hX:∀q,X q->q<lo):jI w' v rs h/\iZ lo w' v rs:=by
 have nv:∀{u:Value},Own lo w u->∀a n c,u=.slice (some a) n c->0<n->¬X a.block:=fun o a n c e hn hx=>by have:=(o a n c e hn).1;have:=hX _ hx;omega
 refine⟨⟨H.1,H.2.1.frX k (nv O.1),fun i r t hr ht=>?_⟩,oC O.1 k (nv O.1),fun i r hr=>⟨oC (O.2.1 i r hr).1 k (nv (O.2.1 i r hr).1),(O.2.1 i r hr).2⟩,O.2.2⟩;obtain⟨a,b,c,d⟩:=H.2.2 i r t hr ht;exact⟨a,b,c.frX k (nv (O.2.1 i r hr).1),d⟩
theorem SS(h:List aA)(s:List UInt8):(iQ h s).1.length<=6/\(∀t∈(iQ h s).1,t.ops.length<=2097152):=⟨aM (M4 h s),aD (M4 h s)⟩
theorem xh(w:World){v0:Value}{h:List aA}(s0:En w v0 h)(l0:h.length<=9223372036854775807)(m0:∀t∈h,t.ops.length<=9223372036854775807)(s:List UInt8)(ls:s.length<=9223372036854775807)(hE:Env w) :
 Calls Tryz.prog 3 #[v0,.string (tx s)] w fun e w'=>e=.returned (.bool true)/\Ext w w':=by
 obtain⟨A,c,rfl⟩:=s0.slice;have hsz:=dH s;by_cases hl:s.length<=1048576;case neg=>
  obtain⟨z,hz⟩:∃z,tx s=z:=⟨_,rfl⟩;rw[hz]at hsz ⊢;have h1:(1048576:Int)<(z.size:Int):=by omega
  clear hz hl s0 l0 m0;go_enter Tryz.func3,Tryz.ntmps3;go_wp2;go_returns;exact⟨rfl,Ext.refl _⟩
 have HZ:=aa (Hu 1048576 w s0 l0 m0 (by omega) (by omega));by_cases hz:((h.length+kW h:Nat):Int)<=1048576;case neg=>
  rw[if_neg hz]at HZ;obtain⟨z,hz⟩:∃z,tx s=z:=⟨_,rfl⟩;rw[hz]at hsz ⊢;have h1:(z.size:Int)<=1048576:=by omega
  clear hz hl s0 l0 m0;go_enter Tryz.func3,Tryz.ntmps3;go_wp2_with (go_at_call 5;refine HZ.out.mono ?_;rintro e w1 ⟨rfl,b1⟩)
  go_returns;exact⟨rfl,b1⟩
 rw[if_pos hz]at HZ;have hge:(0:Int)<=1048576-((h.length+kW h:Nat):Int):=by omega
 obtain⟨y,hy⟩:∃y,(1048576:Int)-((h.length+kW h:Nat):Int)=y:=⟨_,rfl⟩;rw[hy]at HZ hge;have hlen:h.length<=2097152:=by omega
 have hM:∀t∈h,t.ops.length<=2097152:=fun t ht=>by have:=Hq ht;omega
 have HC:Hid (1+lK h<=1073741824):=by show _<=_;rw[rD];omega
 have Py:=aa s0;have HT:=aa (fun W (b:Ext w W)=>He W (s0.ext b) hlen hM);have I9:=aa (fun W v (H:gL W v h)=>xW (X:=fun _=>False) s W (fun _ h=>h.elim) H hlen hM hl);have XZ:=aa (fun W v (b:Ext w W) (H:gL W v h)=>I4 s W H hlen hM (hE.ext b) hl);have hgl:=SS h s;obtain⟨g,hg⟩:∃g,(iQ h s).1=g:=⟨_,rfl⟩;obtain⟨za,hza⟩:∃g,tx (iQ h s).2=g:=⟨_,rfl⟩;unfold qI at I9;rw[hg]at I9 XZ hgl;rw[hza]at I9 XZ;have XC:=aa (fun W v v' (a:gL W v g) (b:gL W v' g)=>uq W a b (by have:=hgl.1;omega) hgl.2);have VG:=aa (fun W v v' (a:gL W v h) (b:gL W v' h)=>uq W a b hlen hM);have Yf:Hid (1+lK g<=1073741824):=by show _<=_;rw[rD];have h1:=hgl.1;have h2:=Lm g hgl.2;have h3:g.length*2097152<=6*2097152:=Nat.mul_le_mul_right _ h1;omega
 have Xu:=aa (fun W v rs lo X (a:jI W v rs h) (b:iZ lo W v rs) h1 h2=>pJ (X:=X) 1 W a b h1 h2 hlen hM HC.out);have HMG:=aa (fun W v rs lo X (a:jI W v rs g) (b:iZ lo W v rs) h1 h2=>pJ (X:=X) 1 W a b h1 h2 (by have:=hgl.1;omega) hgl.2 Yf.out);have HHE:=aa (fun W v (a:gL W v (sw 1 g))=>AJ g 1 W a (by have:=hgl.1;omega) hgl.2 Yf.out);obtain⟨z,hzz⟩:∃z,tx s=z:=⟨_,rfl⟩;rw[hzz]at I9 XZ hsz ⊢;have h1:(z.size:Int)<=1048576:=by omega
 obtain⟨ch,hch⟩:∃n,1+lK h=n:=⟨_,rfl⟩;obtain⟨cg,hcg⟩:∃n,1+lK g=n:=⟨_,rfl⟩;rw[hch]at Xu;rw[hcg]at HMG HHE;clear hza hg hzz hl s0 l0 m0 hz hy hM hgl hsz ls HC Yf hch hcg hE hlen;go_enter Tryz.func3,Tryz.ntmps3;go_wp2_with fail
 refine HZ.out.mono ?_;rintro e w1 ⟨rfl,b1⟩;have HB1:=aa b1;clear b1;go_wp2_with fail
 refine(HT.out w1 HB1.out).mono ?_
 rintro e w2 ⟨x,rsx,rfl,hx,ox,b2⟩;have HB2:=aa (HB1.out.trans b2);have HX:=aa hx;clear hx ox b2;go_wp2_with fail
 refine(I9.out w2 _ ⟨_,HX.out⟩).mono ?_
 rintro e w3 ⟨vw,rfl,hw,b3⟩;have HB3:=aa (HB2.out.trans b3);have HW:=aa hw.his;clear hw b3 HX;go_wp2_with fail
 refine(HT.out w3 HB3.out).mono ?_
 rintro e w4 ⟨x4,rs4,rfl,hx,ox,b4⟩;have sH:=aa (HB3.out.trans b4);have Bb:=aa (And.intro hx ox);have Ay:=aa b4;clear hx ox b4;go_wp2_with fail
 refine(XZ.out w4 _ sH.out ⟨_,Bb.out.1⟩).mono ?_
 rintro e w5 ⟨x5,rs5,rfl,hx,ox,b5⟩;have Ea:=aa b5;have Z5:=aa (And.intro hx ox);have HW5:=aa (HW.out.ext (Ay.out.trans Ea.out));clear hx ox b5;go_wp2_with fail
 refine(XC.out w5 _ _ ⟨_,Z5.out.1⟩ HW5.out).mono ?_
 rintro e w6 ⟨rfl,b6⟩;have Ca:=aa b6;clear b6;go_wp2_with fail
 refine(HT.out w6 (sH.out.trans (Ea.out.trans Ca.out))).mono ?_
 rintro e w7 ⟨x7,rs7,rfl,hx,ox,b7⟩;have Ec:=aa b7;have HX7:=aa hx;have abE:=aa (jI.ext Bb.out.1 (Ea.out.trans (Ca.out.trans b7)));clear hx ox b7;go_wp2_with fail
 refine(VG.out w7 _ _ ⟨_,abE.out⟩ ⟨_,HX7.out⟩).mono ?_
 rintro e w8 ⟨rfl,b8⟩;have UM:=aa (Ea.out.trans (Ca.out.trans (Ec.out.trans b8)));have HG8:=aa (And.intro (jI.ext Z5.out.1 (Ca.out.trans (Ec.out.trans b8))) (iZ.ext Z5.out.2 (Ca.out.trans (Ec.out.trans b8))));clear b8 Ca Ec HX7 abE Z5 HW5;have hox:=fun(u:Value) (o:Own w3.heap.size w4 u) a n c (e:u=.slice (some a) n c) (hn:0<n)=>(show w3.heap.size<=a.block/\a.block<w4.heap.size from ⟨(o a n c e hn).1,(o a n c e hn).2.1⟩);go_wp2_with fail
 refine(Xu.out w8 _ _ w3.heap.size (fun q=>w3.heap.size<=q/\q<w4.heap.size) (jI.ext Bb.out.1 UM.out) (iZ.ext Bb.out.2 UM.out) (hox _ Bb.out.2.1) (fun i r hr=>hox _ (Bb.out.2.2.1 i r hr).1)).mono ?_
 rintro e w9 ⟨rfl,_,fr9⟩;have HG9:=aa (wO HG8.out.1 HG8.out.2 fr9 (fun q hq=>hq.2));have Pn:Hid (Ext w3 w9):=bH.out (Ay.out.trans UM.out) fr9 (fun q hq=>hq.1);have L8:=aa (HW.out.ext Pn.out);clear fr9 HG8 hox;go_wp2_with fail
 refine(XC.out w9 _ _ ⟨_,HG9.out.1⟩ L8.out).mono ?_
 rintro e w10 ⟨rfl,b10⟩;have Kj:=aa (Pn.out.trans b10);have P5:=aa (And.intro (jI.ext HG9.out.1 b10) (iZ.ext HG9.out.2 b10));clear b10 HG9 Pn L8;go_wp2_with fail
 refine(HMG.out w10 _ _ w4.heap.size (fun q=>w4.heap.size<=q/\q<w10.heap.size) P5.out.1 P5.out.2 (fun a n c e hn=>⟨(P5.out.2.1 a n c e hn).1,(P5.out.2.1 a n c e hn).2.1⟩) (fun i r hr a n c e hn=>⟨((P5.out.2.2.1 i r hr).1 a n c e hn).1,((P5.out.2.2.1 i r hr).1 a n c e hn).2.1⟩)).mono ?_
 rintro e w11 ⟨rfl,⟨afB,hx,ox⟩,abR⟩;have Lf:Hid (Ext w3 w11):=bH.out Kj.out abR (fun q hq=>Nat.le_trans Ay.out.size hq.1);have ac3:Hid (gL w11 x5 (sw 1 g)):=⟨_,hx⟩;clear abR hx ox P5 Kj;go_wp2_with fail
 refine(HHE.out w11 _ ac3.out).mono ?_
 rintro e w12 ⟨rfl,b12⟩;have ru:=aa b12;clear b12;go_wp2_with fail
 refine(HT.out w12 (HB3.out.trans (Lf.out.trans ru.out))).mono ?_
 rintro e w13 ⟨x13,afN,rfl,hx,ox,b13⟩;have afi:=aa hx;have acm:=aa (ru.out.trans b13);clear hx ox b13;go_wp2_with fail
 refine(XZ.out w13 _ (HB3.out.trans (Lf.out.trans acm.out)) ⟨_,afi.out⟩).mono ?_
 rintro e w14 ⟨x14,af0,rfl,hx,ox,b14⟩;have adN:=aa hx;have QC:=aa (acm.out.trans b14);clear hx ox b14;go_wp2_with fail
 refine(XC.out w14 _ _ ⟨_,adN.out⟩ (HW.out.ext (Lf.out.trans QC.out))).mono ?_
 rintro e w15 ⟨rfl,b15⟩;have Gn:=aa (QC.out.trans b15);clear b15;go_wp2_with fail
 refine(HHE.out w15 _ (ac3.out.ext Gn.out)).mono ?_
 rintro e w16 ⟨rfl,b16⟩;have Yk:=aa (Gn.out.trans b16);clear b16;go_wp2;go_returns;exact⟨rfl,HB3.out.trans (Lf.out.trans Yk.out)⟩
end
