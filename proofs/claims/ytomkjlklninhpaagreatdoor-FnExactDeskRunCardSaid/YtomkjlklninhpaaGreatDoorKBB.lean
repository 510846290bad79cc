/- Lemmas. -/
import Derived.Test.YtomkjlklninhpaaGreatDoorKBA
import Derived.Deep.DeepCutAuto
set_option maxHeartbeats 16000000
set_option maxRecDepth 8000
set_option linter.all false
namespace Go.Proofs.YtomkjlklninhpaaGreatDoor
open Go.RowKit
theorem JJ{n:Nat}(h:n<100):eU (bK n)=n:=by unfold eU;rw[Gt h]
theorem yN{l:List UInt8}(h:0<=eU l):dD l=some (eU l).toNat:=by
 unfold eU at h ⊢
 cases e:dD l with
 | none=>rw[e]at h;exact absurd h (by decide)
 | some n=>simp
theorem EA{a b c d:UInt8}{r:List UInt8}{o:aQ}(hk:gH o=true):sF o=a :: b :: c :: d :: r↔c=61/\(a=114∨a=119)/\o=⟨if a=119 then 2 else 1,eU [b],eU (d :: r)⟩:=by
 have k1:=iB hk;have k2:=j5 hk;have hnk:bK o.key.toNat=[jg o.key.toNat]:=by unfold bK;rw[if_pos (by omega)]
 constructor
 ·intro e;unfold sF at e;injection e with e1 e;injection e with e2 e;injection e with e3 e4;have h1:eU [b]=o.key:=by rw[<-e2,<-hnk,JJ (by omega)];omega
  have h2:eU (d :: r)=o.value:=by rw[<-e4,JJ (by omega)];omega
  refine⟨e3.symm,?_,aQ.ext' ?_ h1.symm h2.symm⟩
  ·rw[<-e1];exact(Hg o).symm
  ·rw[<-e1];unfold aW iN;rcases nL hk with q|q<;>rw[q]<;>simp
 ·rintro⟨rfl,ha,ho⟩;have hkey:eU [b]=o.key:=by rw[ho]
  have hval:eU (d :: r)=o.value:=by rw[ho]
  have h1:=pK (yN (l:=[b]) (by omega));have h2:=pK (yN (l:=d :: r) (by omega));rw[hkey,hnk]at h1;rw[hval]at h2;unfold sF;rw[h2.2];have h3:jg o.key.toNat=b:=by have:=h1.2;injection this
  rw[h3];have hkind:o.kind=if a=119 then 2 else 1:=by rw[ho]
  unfold aW iN;rcases ha with rfl|rfl
  ·rw[hkind];rfl
  ·rw[hkind];rfl
theorem PT{a b c d:UInt8}{r:List UInt8}(hc:c=61/\(a=114∨a=119)):(gH ⟨if a=119 then 2 else 1,eU [b],eU (d :: r)⟩=true->fD (a :: b :: c :: d :: r)=some ⟨if a=119 then 2 else 1,eU [b],eU (d :: r)⟩) /\
 (gH ⟨if a=119 then 2 else 1,eU [b],eU (d :: r)⟩=false->fD (a :: b :: c :: d :: r)=none):=by
 constructor
 ·intro h;exact jS.2 ⟨h,(EA h).2 ⟨hc.1,hc.2,rfl⟩⟩
 ·intro h;refine uX (fun o hk e=>?_)
  have:=((EA hk).1 e).2.2
  rw[this,h]at hk;cases hk
theorem PK{a b c d:UInt8}{r:List UInt8}(hc:¬(c=61/\(a=114∨a=119))):fD (a :: b :: c :: d :: r)=none:=
 uX (fun o hk e=>hc ⟨((EA hk).1 e).1,((EA hk).1 e).2.1⟩)
def l9(w:World)(q:Nat)(a b c:Int):Prop:=w.cell? ⟨q,0,none⟩=some (.int .i64 a)/\w.cell? ⟨q,1,none⟩=some (.int .i64 b)/\w.cell? ⟨q,2,none⟩=some (.int .i64 c)/\∀j,w.frozen? ⟨q,j,none⟩=false
theorem pQ(w:World)(a b c:Int)(T:TypeId){q:Nat}(hq:w.heap.size=q):l9 (w.alloc (.cells #[.int .i64 a,.int .i64 b,.int .i64 c] T)) q a b c:=⟨fT hq rfl,fT hq rfl,fT hq rfl,fun j=>gN j hq⟩
theorem l9.ext{w w':World}{q:Nat}{a b c:Int}(h:l9 w q a b c)(e:Ext w w'):l9 w' q a b c:=
 have hq:q<w.heap.size:=by
  rcases Nat.lt_or_ge q w.heap.size with h'|h'
  ·exact h'
  ·have:=h.1
   simp[World.cell?,Array.getElem?_eq_none h']at this
 ⟨e.cell h.1,e.cell h.2.1,e.cell h.2.2.1,fun j=>(e.frozen (p:=⟨q,j,none⟩) hq).trans (h.2.2.2 j)⟩
theorem l9.other{w:World}{q p:Nat}{a b c:Int}(h:l9 w q a b c)(hp:p≠q)(j:Nat)(u:Value):l9 (w.setCell ⟨p,j,none⟩ u) q a b c:=
 have n:∀i,(⟨p,j,none⟩:Addr)≠⟨q,i,none⟩:=fun i e=>by injection e with e;exact hp e
 ⟨(au (n 0) u).trans h.1,(au (n 1) u).trans h.2.1,(au (n 2) u).trans h.2.2.1,fun i=>by rw[World.frozen?_setCell];exact h.2.2.2 i⟩
theorem l9.kind{w:World}{q:Nat}{a b c:Int}(h:l9 w q a b c)(x:Int):l9 (w.setCell ⟨q,0,none⟩ (.int .i64 x)) q x b c:=
 ⟨dx h.1 _,(au (by simp) _).trans h.2.1,(au (by simp) _).trans h.2.2.1,fun i=>by rw[World.frozen?_setCell];exact h.2.2.2 i⟩
theorem l9.all{w:World}{q:Nat}{a b c:Int}(h:l9 w q a b c)(x y z:Int):l9 (((w.setCell ⟨q,0,none⟩ (.int .i64 x)).setCell ⟨q,1,none⟩ (.int .i64 y)).setCell ⟨q,2,none⟩ (.int .i64 z)) q x y z:=
 let ⟨h0,h1,h2⟩:=dK (.int .i64 x) (.int .i64 y) (.int .i64 z) h.1 h.2.1 h.2.2.1
 ⟨h0,h1,h2,fun i=>by rw[World.frozen?_setCell,World.frozen?_setCell,World.frozen?_setCell];exact h.2.2.2 i⟩
theorem Bh{u w:World}{q:Nat}(h:Ext u w)(hq:u.heap.size<=q)(x y z:Value):Ext u (((w.setCell ⟨q,0,none⟩ x).setCell ⟨q,1,none⟩ y).setCell ⟨q,2,none⟩ z):=
 ((h.setCell (p:=⟨q,0,none⟩) hq x).setCell (p:=⟨q,1,none⟩) hq y).setCell (p:=⟨q,2,none⟩) hq z
theorem JA{w W:World}{q:Nat}{T:TypeId}(x y z:Int)(hx:Ext (w.alloc (.cells #[.int .i64 0,.int .i64 0,.int .i64 0] T)) W)(hq:w.heap.size<q)(h:l9 W q 0 0 0) :
 ∃p,Value.pointer (some ⟨q,0,none⟩)=.pointer (some ⟨p,0,none⟩)/\w.heap.size<p/\l9 (((W.setCell ⟨q,0,none⟩ (.int .i64 x)).setCell ⟨q,1,none⟩ (.int .i64 y)).setCell ⟨q,2,none⟩ (.int .i64 z)) p x y z /\
  l9 (((W.setCell ⟨q,0,none⟩ (.int .i64 x)).setCell ⟨q,1,none⟩ (.int .i64 y)).setCell ⟨q,2,none⟩ (.int .i64 z)) w.heap.size 0 0 0/\Ext w (((W.setCell ⟨q,0,none⟩ (.int .i64 x)).setCell ⟨q,1,none⟩ (.int .i64 y)).setCell ⟨q,2,none⟩ (.int .i64 z)):=
 have n:q≠w.heap.size:=by omega
 ⟨q,rfl,hq,h.all x y z,((((pQ w 0 0 0 T rfl).ext hx).other n 0 _).other n 1 _).other n 2 _,Bh (((Ext.refl w).alloc _).trans hx) (Nat.le_of_lt hq) _ _ _⟩
def Yz(r:Option aQ):Value:=.tuple #[fP (r.getD ⟨0,0,0⟩),.bool r.isSome]
theorem OV(l:List UInt8)(w:World)(hl:l.length<=1048576) :
 Calls Tryz.prog 45 #[.string (tx l)] w fun e w'=>e=.returned (Yz (fD l))/\Ext w w':=by
 have T0:(w.alloc (.cells #[.int .i64 0,.int .i64 0,.int .i64 0] 71)).cell? ⟨w.heap.size,0,none⟩=some (.int .i64 0):=av rfl;have T1:(w.alloc (.cells #[.int .i64 0,.int .i64 0,.int .i64 0] 71)).cell? ⟨w.heap.size,1,none⟩=some (.int .i64 0):=av rfl;have T2:(w.alloc (.cells #[.int .i64 0,.int .i64 0,.int .i64 0] 71)).cell? ⟨w.heap.size,2,none⟩=some (.int .i64 0):=av rfl;by_cases h4:l.length<4
 ·have kg:Hid (fD l=none):=Az h4;have hs:decide (((tx l).size:Int)<4)=true:=by rw[dH];simp;omega
  clear h4;generalize tx l=z at *;go_enter Tryz.func45,Tryz.ntmps45;go_wp2;go_returns;exact⟨by rw[kg.out];rfl,(Ext.refl _).alloc _⟩
 ·match l,hl,h4 with
  | [],_,h4=>exact absurd (by simp) h4
  | [_],_,h4=>exact absurd (by simp) h4
  | [_,_],_,h4=>exact absurd (by simp) h4
  | [_,_,_],_,h4=>exact absurd (by simp) h4
  | a :: b :: c :: d :: r,hl,_=>
    have hs:((tx (a :: b :: c :: d :: r)).size:Int)<4↔False:=by rw[dH];simp;omega
    have hs3:(3:Int)<=((tx (a :: b :: c :: d :: r)).size:Int):=by rw[dH];simp;omega
    have hs2:(2:Int)<=((tx (a :: b :: c :: d :: r)).size:Int):=by rw[dH];simp;omega
    have hi0:=jZ (l:=a :: b :: c :: d :: r) (k:=0) rfl 0 rfl;have hi2:=jZ (l:=a :: b :: c :: d :: r) (k:=2) rfl 2 rfl;have hx3:=Kl (a :: b :: c :: d :: r) 3;rw[show (a :: b :: c :: d :: r).drop 3=d :: r from rfl]at hx3;have hx1:(tx (a :: b :: c :: d :: r)).extract 1 2=tx [b]:=ny _ 1 2;have MK:=aa (fun W=>uf [b] W (by simp));have Ig:=aa (fun W=>uf (d :: r) W (by simp at hl ⊢;omega));have Wz:=aa (fun hc=>PT (a:=a) (b:=b) (c:=c) (d:=d) (r:=r) hc);have HBAD:=aa (fun hc=>PK (a:=a) (b:=b) (c:=c) (d:=d) (r:=r) hc);have hca:∀(x y:UInt8),(((x.toNat:Int))=((y.toNat:Nat):Int))↔x=y:=fun x y=>by rw[<-UInt8.toNat_inj];omega
    have c61:((c.toNat:Int)=61)↔c=61:=hca c 61;have VB:((a.toNat:Int)=114)↔a=114:=hca a 114;have a119:((a.toNat:Int)=119)↔a=119:=hca a 119;obtain⟨l0,hl0⟩:∃l0,a :: b :: c :: d :: r=l0:=⟨_,rfl⟩;rw[hl0]at hs hs2 hs3 hi0 hi2 hx3 hx1 Wz HBAD ⊢;obtain⟨y1b,hy1⟩:∃y,tx [b]=y:=⟨_,rfl⟩;obtain⟨y2d,hy2⟩:∃y,tx (d :: r)=y:=⟨_,rfl⟩;rw[hy1]at hx1 MK;rw[hy2]at hx3 Ig;obtain⟨kb,hkb⟩:∃y,eU [b]=y:=⟨_,rfl⟩;obtain⟨vd,hvd⟩:∃y,eU (d :: r)=y:=⟨_,rfl⟩;rw[hkb]at MK Wz;rw[hvd]at Ig Wz;obtain⟨z,hz⟩:∃y,tx l0=y:=⟨_,rfl⟩;rw[hz]at hs hs2 hs3 hi0 hi2 hx3 hx1 ⊢;obtain⟨an,DV⟩:∃y:Int,(a.toNat:Int)=y:=⟨_,rfl⟩;obtain⟨cn,hcn⟩:∃y:Int,(c.toNat:Int)=y:=⟨_,rfl⟩;rw[DV]at hi0 VB a119;rw[hcn]at hi2 c61;clear hca hl hl0 hy1 hy2 hkb hvd hz DV hcn;by_cases hgood:cn=61/\(an=114∨an=119)
    ·obtain⟨kd,hkd⟩:∃kd:Int,(if a=119 then 2 else 1)=kd:=⟨_,rfl⟩;have Uo:Hid ((gH ⟨kd,kb,vd⟩=true->fD l0=some ⟨kd,kb,vd⟩)/\(gH ⟨kd,kb,vd⟩=false->fD l0=none)):=by
      have:=Wz.out ⟨c61.1 hgood.1,hgood.2.imp VB.1 a119.1⟩
      rwa [hkd]at this
     have Zn:Hid ((an=119->kd=2)/\(¬an=119->kd=1)):=⟨fun e=>by rw[<-hkd,if_pos (a119.1 e)],fun e=>by rw[<-hkd,if_neg (fun e'=>e (a119.2 e'))]⟩;have qz:=aa (fun W=>pq ⟨kd,kb,vd⟩ W);simp only[fP]at qz;have q1:(cn != 61)=false:=by simp[hgood.1]
     have HG:=aa hgood.2;clear VB a119 c61 hgood hkd T0 T1 T2 Wz HBAD;go_enter Tryz.func45,Tryz.ntmps45;go_upto_region 1 with fail
     go_cut [22] (fun s wx=>s=.bool false/\wx=w.alloc (.cells #[.int .i64 0,.int .i64 0,.int .i64 0] 71))
     case first=>
      rcases HG.out with h|h
      ·subst h;go_wp2;go_meet;case rel=>exact⟨rfl,rfl⟩
      ·subst h;go_wp2;go_meet;case rel=>exact⟨rfl,rfl⟩
     case rest=>
      obtain⟨rfl,rfl⟩:=hcut;go_upto_region 3 with fail
      go_cut [4] (fun s wx=>∃p,s=.pointer (some ⟨p,0,none⟩)/\w.heap.size<p/\l9 wx p 1 kb vd/\l9 wx w.heap.size 0 0 0/\Ext w wx)
      case first=>
       refine wp_region_held_drew (S:=fun _=>True) (by kernel_rfl) trivial (fun hHeld=>?_);simp only[List.size_toArray,List.length_cons,List.length_nil,Nat.zero_add,Nat.reduceAdd];refine eu 0 (.string z) rfl (Or.inl ⟨by kernel_rfl,fun V s1=>by go_simp⟩) trivial ?_;try go_frame
       refine eu 1 (.string y1b) rfl (Or.inl ⟨by kernel_rfl,fun V s1=>by go_simp⟩) trivial ?_;try go_frame
       refine eu 3 (.string z) rfl (Or.inl ⟨by kernel_rfl,fun V s1=>by go_simp⟩) trivial ?_;try go_frame
       refine eu 4 (.string y2d) rfl (Or.inl ⟨by kernel_rfl,fun V s1=>by go_simp⟩) trivial ?_;try go_frame
       refine wpAnyH_ready (rs:=[2,7]) (by kernel_rfl) (by simp) ?_;refine AllReadyH.cons rfl (fun K hK=>?_) (AllReadyH.cons rfl (fun K hK=>?_) AllReadyH.nil)
       ·go_simp
        refine(MK.out _).mono ?_
        rintro e w2 ⟨rfl,b2⟩;refine hK.out _ _ trivial (fun _=>?_);clear hK K;try go_frame
        have b2':Ext (w.alloc (.cells #[.int .i64 0,.int .i64 0,.int .i64 0] 71)) w2:=((Ext.refl (w.alloc (.cells #[.int .i64 0,.int .i64 0,.int .i64 0] 71))).drew).trans b2;refine wpAnyH_ready (rs:=[5,7]) (by kernel_rfl) (by simp) ?_;refine AllReadyH.cons rfl (fun K hK=>?_) (AllReadyH.cons rfl (fun K hK=>?_) AllReadyH.nil)
        ·go_simp
         refine(Ig.out _).mono ?_
         rintro e w3 ⟨rfl,b3⟩;refine hK.out _ _ trivial (fun _=>?_);clear hK K;try go_frame
         refine eu 6 (.agg #[.int .i64 1,.int .i64 kb,.int .i64 vd]) rfl (Or.inl ⟨by kernel_rfl,fun V s1=>by go_simp⟩) trivial ?_;try go_frame
         refine wpAnyH_ready (rs:=[7]) (by kernel_rfl) (by simp) ?_;refine AllReadyH.cons rfl (fun K hK=>?_) AllReadyH.nil;go_simp;refine hK.out _ _ trivial (fun _=>?_);clear hK K;try go_frame
         have bx:=pQ w3 0 0 0 71 rfl;obtain⟨f0,f1,f2,ff⟩:=id bx;have g0:=ff 0;have g1:=ff 1;have g2:=ff 2;have hsz:=(b2'.trans b3).size;simp only[World.size_alloc]at hsz;refine wpAnyH_ready (rs:=[8]) (by kernel_rfl) (by simp) ?_;refine AllReadyH.cons rfl (fun K hK=>?_) AllReadyH.nil;go_simp;refine hK.out _ _ trivial (fun _=>?_);clear hK K;try go_frame
         refine wpAnyH_done (by kernel_rfl) ?_ _;go_wp2;go_meet;case rel=>exact⟨_,rfl,by omega,pQ w3 1 kb vd 71 rfl,(pQ w 0 0 0 71 rfl).ext ((b2'.trans b3).alloc _),((Ext.refl w).alloc _).trans ((b2'.trans b3).alloc _)⟩
        ·go_simp;refine hK.out _ _ trivial (fun _=>?_);clear hK K;try go_frame
         refine wpAnyH_ready (rs:=[5]) (by kernel_rfl) (by simp) ?_;refine AllReadyH.cons rfl (fun K hK=>?_) AllReadyH.nil;go_simp
         refine(Ig.out _).mono ?_
         rintro e w3 ⟨rfl,b3⟩;refine hK.out _ _ trivial (fun _=>?_);clear hK K;try go_frame
         have bx:=(pQ w2 0 0 0 71 rfl).ext b3;obtain⟨f0,f1,f2,ff⟩:=id bx;have g0:=ff 0;have g1:=ff 1;have g2:=ff 2;have hsz:=b2'.size;simp only[World.size_alloc]at hsz;refine eu 6 (.agg #[.int .i64 1,.int .i64 kb,.int .i64 vd]) rfl (Or.inl ⟨by kernel_rfl,fun V s1=>by go_simp⟩) trivial ?_;try go_frame
         refine wpAnyH_ready (rs:=[8]) (by kernel_rfl) (by simp) ?_;refine AllReadyH.cons rfl (fun K hK=>?_) AllReadyH.nil;go_simp;refine hK.out _ _ trivial (fun _=>?_);clear hK K;try go_frame
         refine wpAnyH_done (by kernel_rfl) ?_ _;go_wp2;go_meet;case rel=>exact JA 1 kb vd ((b2'.alloc _).trans b3) (by omega) (bx)
       ·go_simp;refine hK.out _ _ trivial (fun _=>?_);clear hK K;try go_frame
        refine wpAnyH_ready (rs:=[2]) (by kernel_rfl) (by simp) ?_;refine AllReadyH.cons rfl (fun K hK=>?_) AllReadyH.nil;go_simp
        refine(MK.out _).mono ?_
        rintro e w2 ⟨rfl,b2⟩;refine hK.out _ _ trivial (fun _=>?_);clear hK K;try go_frame
        refine wpAnyH_ready (rs:=[5]) (by kernel_rfl) (by simp) ?_;refine AllReadyH.cons rfl (fun K hK=>?_) AllReadyH.nil;go_simp
        refine(Ig.out _).mono ?_
        rintro e w3 ⟨rfl,b3⟩;refine hK.out _ _ trivial (fun _=>?_);clear hK K;try go_frame
        have bx:=(pQ (w.alloc (.cells #[.int .i64 0,.int .i64 0,.int .i64 0] 71)).drew 0 0 0 71 (q:=w.heap.size+1) (by simp)).ext (b2.trans b3);obtain⟨f0,f1,f2,ff⟩:=id bx;have g0:=ff 0;have g1:=ff 1;have g2:=ff 2;refine eu 6 (.agg #[.int .i64 1,.int .i64 kb,.int .i64 vd]) rfl (Or.inl ⟨by kernel_rfl,fun V s1=>by go_simp⟩) trivial ?_;try go_frame
        refine wpAnyH_ready (rs:=[8]) (by kernel_rfl) (by simp) ?_;refine AllReadyH.cons rfl (fun K hK=>?_) AllReadyH.nil;go_simp;refine hK.out _ _ trivial (fun _=>?_);clear hK K;try go_frame
        refine wpAnyH_done (by kernel_rfl) ?_ _;go_wp2;go_meet;case rel=>exact JA 1 kb vd ((((Ext.refl (w.alloc (.cells #[.int .i64 0,.int .i64 0,.int .i64 0] 71))).drew).alloc _).trans (b2.trans b3)) (Nat.lt_succ_self _) (bx)
      case rest=>
       obtain⟨q,rfl,hq,hy,ht,hX⟩:=hcut;have HY:=aa hy;have HT:=aa ht;have HX:=aa hX;clear hy ht hX;go_upto_if 33 with fail
       go_cut [] (fun wx=>l9 wx q kd kb vd/\l9 wx w.heap.size 0 0 0/\Ext w wx)
       case first=>
        by_cases h119:an=119
        ·obtain⟨y0,y1,y2,yf⟩:=id HY.out;have y3:=yf 0;obtain rfl:=Zn.out.1 h119;go_wp2;go_meet;case rel=>exact⟨HY.out.kind 2,HT.out.other (by omega) 0 _,HX.out.setCell (p:=⟨q,0,none⟩) (Nat.le_of_lt hq) _⟩
        ·obtain rfl:=Zn.out.2 h119;go_wp2;go_meet;case rel=>exact⟨HY.out,HT.out,HX.out⟩
       case rest=>
        obtain⟨hy,ht,hX⟩:=hcut;obtain⟨y0,y1,y2,_⟩:=id hy;have Yg:=aa hy;have HT2:=aa ht;have uP:=aa hX;clear hy ht hX HY HT HX;go_wp2_with fail
        refine(qz.out _).mono ?_
        rintro e w5 ⟨rfl,b5⟩;obtain⟨p0,p1,p2,_⟩:=Yg.out.ext b5;have HT5:=aa (HT2.out.ext b5);obtain⟨r0,r1,r2,rf⟩:=id HT5.out;have u0:=rf 0;have u1:=rf 1;have u2:=rf 2;have Hw:=aa (uP.out.trans b5);clear b5 y0 y1 y2 rf
        cases hov:gH ⟨kd,kb,vd⟩ with
        | false=>
          have HR:Hid (fD l0=none):=Uo.out.2 hov;obtain⟨z0,z1,z2,_⟩:=HT5.out.all 0 0 0;clear hov;go_wp2;refine bodyPost_ret (v:=.tuple #[.agg #[.int .i64 0,.int .i64 0,.int .i64 0],.bool false]) (by simp[results,Tryz.results45,go_sem,z0,z1,z2]) rfl ?_;exact⟨by rw[HR.out];rfl,Bh Hw.out (Nat.le_refl _) _ _ _⟩
        | true=>
          have HR:Hid (fD l0=some ⟨kd,kb,vd⟩):=Uo.out.1 hov;obtain⟨z0,z1,z2,_⟩:=HT5.out.all kd kb vd;clear hov;go_wp2;refine bodyPost_ret (v:=.tuple #[.agg #[.int .i64 kd,.int .i64 kb,.int .i64 vd],.bool true]) (by simp[results,Tryz.results45,go_sem,z0,z1,z2]) rfl ?_;exact⟨by rw[HR.out];rfl,Bh Hw.out (Nat.le_refl _) _ _ _⟩
    ·have kg:Hid (fD l0=none):=HBAD.out (fun e=>hgood ⟨c61.2 e.1,e.2.imp VB.2 a119.2⟩);have hgo:cn≠61∨(cn=61/\an≠114/\an≠119):=by omega
     clear VB a119 c61 hgood;rcases hgo with h|⟨h,h1,h2⟩
     ·have q1:(cn != 61)=true:=by simp[h]
      go_enter Tryz.func45,Tryz.ntmps45;go_wp2;go_returns;exact⟨by rw[kg.out];rfl,(Ext.refl _).alloc _⟩
     ·subst h;have q2:(an != 114)=true:=by simp[h1]
      have q3:(an != 119)=true:=by simp[h2]
      go_enter Tryz.func45,Tryz.ntmps45;go_wp2;go_returns;exact⟨by rw[kg.out];rfl,(Ext.refl _).alloc _⟩
