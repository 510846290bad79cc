/- Lemmas. -/
import Derived.Test.YtcdopfdgknglfaaGreatDoorKAF
import Derived.Laws.PanicsMore
import Derived.Lib.SplitLaws
import Derived.Laws.IdiomStrings
import Derived.Laws.OwnMore
set_option maxHeartbeats 16000000
set_option maxRecDepth 8000
set_option linter.all false
namespace Go.Proofs.YtcdopfdgknglfaaGreatDoor
open Go.RowKit
def kX(n:Nat):UInt8:=UInt8.ofNat (48+n)
def bT(n:Nat):List UInt8:=if n<10 then [kX n] else [kX (n/10),kX (n%10)]
def bN(o:aV):UInt8:=if jQ o then 119 else 114
def uQ(o:aV):List UInt8:=bN o :: kX o.key.toNat :: 61 :: bT o.value.toNat
def iZ(o:aV):List UInt8:=if iY o then uQ o else []
def dB(t:aG):List (List UInt8):=[115,kX t.az.toNat] :: (if t.done then [111,107] else [111,102,102]) :: t.ops.map uQ
def joinL(sep:List UInt8):List (List UInt8)->List UInt8
 | []=>[]
 | [x]=>x
 | x :: y :: r=>x++sep++joinL sep (y :: r)
def nk(t:aG):List UInt8:=joinL [32] (dB t)
def jd(t:aG):List UInt8:=if dG t then nk t else []
def xm(h:List aG):List UInt8:=joinL [59,32] (h.map nk)
theorem qA{n:Nat}(h:n<10):(kX n).toNat=48+n:=by unfold kX;rw[UInt8.toNat_ofNat'];omega
theorem Gi{a b:Nat}(ha:a<10)(hb:b<10)(h:kX a=kX b):a=b:=by have h1:=qA ha;rw[h,qA hb]at h1;omega
theorem jA(sep x:List UInt8)(r:List (List UInt8))(h:r≠[]):joinL sep (x :: r)=x++sep++joinL sep r:=by
 cases r with
 | nil=>exact absurd rfl h
 | cons y r=>rfl
theorem Bj(sep:List UInt8):∀(l:List (List UInt8)) (x:List UInt8),l≠[]->joinL sep (l++[x])=joinL sep l++sep++x
 | [],_,h=>absurd rfl h
 | [y],x,_=>by simp[joinL]
 | y :: z :: r,x,_=>by
   have:=Bj sep (z :: r) x (by simp)
   rw[List.cons_append,jA _ _ _ (by simp),this];simp[joinL]
def RI(b:UInt8)(l:List UInt8):Prop:=∀x∈l,x≠b
theorem Bc{n:Nat}(h:n<10){b:UInt8}(hb:b.toNat<48∨57<b.toNat):kX n≠b:=λe=>by
 have:=qA h
 rw[e]at this;omega
theorem Yo{n:Nat}(h:n<100){x:UInt8}(hx:x∈bT n):∃d,d<10/\x=kX d:=by
 unfold bT at hx;split at hx
 ·rename_i h';simp at hx;exact⟨n,h',hx⟩
 ·simp at hx;rcases hx with rfl|rfl
  ·exact⟨n/10,by omega,rfl⟩
  ·exact⟨n%10,by omega,rfl⟩
theorem Z6{o:aV}(h:iY o=true):RI 32 (uQ o)/\RI 59 (uQ o):=by
 have hk:=jE h;have hv:=lS h;have h2:∀b:UInt8,b=32∨b=59->RI b (uQ o):=λb hb x hx=>by
  unfold uQ bN at hx;simp only[mM]at hx;rcases hx with rfl|rfl|rfl|hx
  ·rcases hb with rfl|rfl<;>split<;>decide
  ·exact Bc (by omega) (by rcases hb with rfl|rfl<;>decide)
  ·rcases hb with rfl|rfl<;>decide
  ·obtain⟨d,hd,rfl⟩:=Yo (by omega) hx;exact Bc hd (by rcases hb with rfl|rfl<;>decide)
 exact⟨h2 _ (.inl rfl),h2 _ (.inr rfl)⟩
def numOf(l:List UInt8):Nat:=l.foldl (λn b=>10*n+(b.toNat-48)) 0
theorem IY{n:Nat}(h:n<100):numOf (bT n)=n:=by
 unfold bT;split
 ·rename_i h';simp only[numOf,uz,List.foldl_nil];rw[qA h'];omega
 ·simp only[numOf,uz,List.foldl_nil];rw[qA (by omega),qA (by omega)];omega
theorem WK{a b:Nat}(ha:a<100)(hb:b<100)(h:bT a=bT b):a=b:=by rw[<-IY ha,<-IY hb,h]
theorem TL{o o':aV}(h:iY o=true)(h':iY o'=true)(e:uQ o=uQ o'):o=o':=by unfold uQ at e;injection e with e1 e;injection e with e2 e;injection e with e3 e;have k1:=jE h;have k2:=jE h';have v1:=lS h;have v2:=lS h';have e2:=Gi (by omega) (by omega) e2;have e:=WK (by omega) (by omega) e;refine aV.ext' ?_ (by omega) (by omega);have c1:=p8 h;have c2:=p8 h';unfold bN jQ at e1;rcases c1 with c1|c1<;>rcases c2 with c2|c2<;>rw[c1,c2]at e1 ⊢<;>simp at e1
open Classical in
noncomputable def iy (s:List UInt8):Option aV:=if h:∃o,iY o=true/\uQ o=s then some h.choose else none
theorem lI{s:List UInt8}{o:aV}:iy s=some o↔iY o=true/\uQ o=s:=by
 unfold iy;constructor
 ·intro e;split at e
  ·rename_i h;injection e with e;rw[<-e];exact h.choose_spec
  ·cases e
 ·rintro⟨h1,h2⟩;have h:∃o,iY o=true/\uQ o=s:=⟨o,h1,h2⟩;rw[dif_pos h];exact agB some (TL h.choose_spec.1 h1 (h.choose_spec.2.trans h2.symm))
theorem xe{s:List UInt8}(h:∀o,iY o=true->uQ o≠s):iy s=none:=by
 cases e:iy s with
 | none=>rfl
 | some o=>have:=lI.1 e;exact absurd this.2 (h o this.1)
def splitL(b:UInt8):List UInt8->List (List UInt8)
 | []=>[[]]
 | x :: l=>if x=b then [] :: splitL b l else match splitL b l with
   | []=>[[x]]
   | y :: r=>(x :: y) :: r
theorem rQ(b:UInt8)(l:List UInt8):splitL b l≠[]:=by
 cases l with
 | nil=>simp[splitL]
 | cons x l=>
   rw[splitL];split
   ·simp
   ·split<;>simp
theorem Iz{b:UInt8}:∀{l:List UInt8},RI b l->splitL b l=[l]
 | [],_=>rfl
 | x :: l,h=>by rw[splitL,au (h x (by simp)),Iz (λy hy=>h y (by simp[hy]))]
theorem D5{b:UInt8}:∀{x l:List UInt8},RI b x->splitL b (x++b :: l)=x :: splitL b l
 | [],l,_=>by simp[splitL]
 | y :: x,l,h=>by rw[List.cons_append,splitL,au (h y (by simp)),D5 (λz hz=>h z (by simp[hz]))]
theorem yg{b:UInt8}:∀{ws:List (List UInt8)},ws≠[]->(∀w∈ws,RI b w)->splitL b (joinL [b] ws)=ws
 | [],h,_=>absurd rfl h
 | [w],_,h=>Iz (h w (by simp))
 | w :: v :: r,_,h=>by rw[jA _ _ _ (by simp),jM,List.singleton_append,D5 (h w (by simp)),yg (by simp) (λx hx=>h x (by simp only[mM]at hx ⊢;exact .inr hx))]
theorem Rj{t:aG}(h:dG t=true):∀w∈dB t,RI 32 w:=λw hw=>by
 have hs:=kS h;unfold dB at hw;simp only[mM,fV]at hw;rcases hw with rfl|rfl|⟨o,ho,rfl⟩
 ·intro x hx;simp only[mM,agH,or_false]at hx;rcases hx with rfl|rfl
  ·decide
  ·exact Bc (by omega) (by decide)
 ·cases t.done
  ·intro x hx;simp at hx;rcases hx with rfl|rfl<;>decide
  ·intro x hx;simp at hx;rcases hx with rfl|rfl<;>decide
 ·exact(Z6 (gD h ho)).1
theorem DN{t:aG}(h:dG t=true):splitL 32 (nk t)=dB t:=yg (by simp[dB]) (Rj h)
theorem IB:∀{a b:List aV},(∀o∈a,iY o=true)->(∀o∈b,iY o=true)->a.map uQ=b.map uQ->a=b
 | [],[],_,_,_=>rfl
 | [],_ :: _,_,_,e=>by simp at e
 | _ :: _,[],_,_,e=>by simp at e
 | x :: a,y :: b,ha,hb,e=>by simp only[qc,List.cons.injEq]at e;rw[TL (ha x (by simp)) (hb y (by simp)) e.1,IB (λo ho=>ha o (by simp[ho])) (λo ho=>hb o (by simp[ho])) e.2]
theorem Sb{t t':aG}(h:dG t=true)(h':dG t'=true)(e:dB t=dB t'):t=t':=by
 unfold dB at e;simp only[List.cons.injEq]at e;obtain⟨⟨_,e1,_⟩,e2,e3⟩:=e;have s1:=kS h;have s2:=kS h';replace e1:=Gi (by omega) (by omega) e1;replace e3:=IB (λo ho=>gD h ho) (λo ho=>gD h' ho) e3;obtain⟨s,os,d⟩:=t;obtain⟨s',os',d'⟩:=t';simp only at e1 e2 e3 s1 s2;obtain rfl:s=s':=by omega
 subst e3
 have:d=d':=by cases d<;>cases d'<;>simp at e2 ⊢
 subst this;rfl
theorem WU{t t':aG}(h:dG t=true)(h':dG t'=true)(e:nk t=nk t'):t=t':=by
 have:=DN h
 rw[e,DN h']at this
 exact(Sb h' h this).symm
open Classical in
noncomputable def dQ (s:List UInt8):Option aG:=if h:∃t,dG t=true/\nk t=s then some h.choose else none
theorem oJ{s:List UInt8}{t:aG}:dQ s=some t↔dG t=true/\nk t=s:=by
 unfold dQ;constructor
 ·intro e;split at e
  ·rename_i h;injection e with e;rw[<-e];exact h.choose_spec
  ·cases e
 ·rintro⟨h1,h2⟩;have h:∃t,dG t=true/\nk t=s:=⟨t,h1,h2⟩;rw[dif_pos h];exact agB some (WU h.choose_spec.1 h1 (h.choose_spec.2.trans h2.symm))
structure fI where
 az:Int
 steps:List aV
instance:Inhabited fI:=⟨⟨0,[]⟩⟩
def gq(o:aV):Bool:=(oH o || jQ o)&&lH o.key 0 2&&o.value==0
def dm(d:fI):Bool:=lH d.az 0 3&&decide (1<=d.steps.length/\d.steps.length<=4)&&d.steps.all gq
def eu(p:List fI):Bool:=decide (p.length<=4)&&p.all dm
def mg(o:aV):List UInt8:=[bN o,kX o.key.toNat]
def dM(d:fI):List (List UInt8):=[115,kX d.az.toNat] :: d.steps.map mg
def fo(d:fI):List UInt8:=joinL [32] (dM d)
def jP(p:List fI):List UInt8:=joinL [59,32] (p.map fo)
theorem kF{o:aV}(h:gq o=true):o.kind=1∨o.kind=2:=by simp only[gq,oH,jQ,dh,agF,beq_iff_eq]at h;exact h.1.1
theorem jy{o:aV}(h:gq o=true):0<=o.key/\o.key<=2:=by simp only[gq,dh]at h;exact cK.1 h.1.2
theorem mV{o:aV}(h:gq o=true):o.value=0:=by simp only[gq,dh,beq_iff_eq]at h;exact h.2
theorem kD{d:fI}(h:dm d=true):0<=d.az/\d.az<=3:=by simp only[dm,dh]at h;exact cK.1 h.1.1
theorem iN{d:fI}(h:dm d=true):1<=d.steps.length/\d.steps.length<=4:=by simp only[dm,dh,rU]at h;exact h.1.2
theorem gN{d:fI}(h:dm d=true){o:aV}(ho:o∈d.steps):gq o=true:=by simp only[dm,dh,kT]at h;exact h.2 o ho
theorem jW{p:List fI}(h:eu p=true):p.length<=4:=by simp only[eu,dh,rU]at h;exact h.1
theorem dO{p:List fI}(h:eu p=true){d:fI}(hd:d∈p):dm d=true:=by simp only[eu,dh,kT]at h;exact h.2 d hd
theorem Gw(o:aV):bN o=119∨bN o=114:=by unfold bN;split<;>simp
theorem Vv{o o':aV}(h:gq o=true)(h':gq o'=true)(e:mg o=mg o'):o=o':=by unfold mg at e;injection e with e1 e;injection e with e2 e;have k1:=jy h;have k2:=jy h';have e2:=Gi (by omega) (by omega) e2;refine aV.ext' ?_ (by omega) (by rw[mV h,mV h']);have c1:=kF h;have c2:=kF h';unfold bN jQ at e1;rcases c1 with c1|c1<;>rcases c2 with c2|c2<;>rw[c1,c2]at e1 ⊢<;>simp at e1
theorem Hw{d:fI}(h:dm d=true){b:UInt8}(hb:b=32∨b=59):∀w∈dM d,RI b w:=λw hw=>by
 have hs:=kD h;unfold dM at hw;simp only[mM,fV]at hw;rcases hw with rfl|⟨o,ho,rfl⟩
 ·intro x hx;simp only[mM,agH,or_false]at hx;rcases hx with rfl|rfl
  ·rcases hb with rfl|rfl<;>decide
  ·exact Bc (by omega) (by rcases hb with rfl|rfl<;>decide)
 ·have hk:=jy (gN h ho);intro x hx;simp only[mg,mM,agH,or_false]at hx;rcases hx with rfl|rfl
  ·rcases Gw o with e|e<;>rw[e]<;>rcases hb with rfl|rfl<;>decide
  ·exact Bc (by omega) (by rcases hb with rfl|rfl<;>decide)
theorem La{b:UInt8}{sep:List UInt8}(hs:RI b sep):∀{ws:List (List UInt8)},(∀w∈ws,RI b w)->RI b (joinL sep ws)
 | [],_=>λx hx=>by simp[joinL]at hx
 | [w],h=>h w (by simp)
 | w :: v :: r,h=>λx hx=>by
   rw[jA _ _ _ (by simp)]at hx;simp only[iR]at hx;rcases hx with (hx|hx)|hx
   ·exact h w (by simp) x hx
   ·exact hs x hx
   ·exact La hs (λz hz=>h z (by simp only[mM]at hz ⊢;exact .inr hz)) x hx
theorem SG{d:fI}(h:dm d=true):RI 59 (fo d):=La (by intro x hx;simp at hx;subst hx;decide) (Hw h (.inr rfl))
theorem ow{d:fI}(h:dm d=true):splitL 32 (fo d)=dM d:=yg (by simp[dM]) (Hw h (.inl rfl))
theorem Im:∀{a b:List aV},(∀o∈a,gq o=true)->(∀o∈b,gq o=true)->a.map mg=b.map mg->a=b
 | [],[],_,_,_=>rfl
 | [],_ :: _,_,_,e=>by simp at e
 | _ :: _,[],_,_,e=>by simp at e
 | x :: a,y :: b,ha,hb,e=>by simp only[qc,List.cons.injEq]at e;rw[Vv (ha x (by simp)) (hb y (by simp)) e.1,Im (λo ho=>ha o (by simp[ho])) (λo ho=>hb o (by simp[ho])) e.2]
theorem RJ{d d':fI}(h:dm d=true)(h':dm d'=true)(e:fo d=fo d'):d=d':=by
 have e:=ow h▸(agB (splitL 32) e).symm▸ow h';unfold dM at e;simp only[List.cons.injEq]at e;obtain⟨⟨_,e1,_⟩,e3⟩:=e;have s1:=kD h;have s2:=kD h';replace e1:=Gi (by omega) (by omega) e1;replace e3:=Im (λo ho=>gN h ho) (λo ho=>gN h' ho) e3;obtain⟨s,os⟩:=d;obtain⟨s',os'⟩:=d';simp only at e1 e3 s1 s2;obtain rfl:s=s':=by omega
 subst e3;rfl
theorem VC{d:fI}:fo d≠[]:=by
 unfold fo dM
 cases d.steps with
 | nil=>simp[joinL]
 | cons o r=>rw[qc,jA _ _ _ (by simp)];simp
def splitS:List UInt8->List (List UInt8)
 | []=>[[]]
 | 59 :: 32 :: l=>[] :: splitS l
 | x :: l=>match splitS l with
   | []=>[[x]]
   | y :: r=>(x :: y) :: r
theorem Vd:∀l,splitS l≠[]:=λl=>by
 unfold splitS;split
 ·simp
 ·simp
 ·split<;>simp
theorem Bw{x:UInt8}(l:List UInt8)(h:x≠59):splitS (x :: l)=match splitS l with
 | []=>[[x]]
 | y :: r=>(x :: y) :: r:=by
 rw[splitS];intro t e;exact absurd e h
theorem Io:∀{l:List UInt8},RI 59 l->splitS l=[l]
 | [],_=>rfl
 | x :: l,h=>by rw[Bw l (h x (by simp)),Io (λy hy=>h y (by simp[hy]))]
theorem EU:∀{x l:List UInt8},RI 59 x->splitS (x++59 :: 32 :: l)=x :: splitS l
 | [],l,_=>by simp[splitS]
 | y :: x,l,h=>by rw[List.cons_append,Bw _ (h y (by simp)),EU (λz hz=>h z (by simp[hz]))]
theorem EC:∀{ws:List (List UInt8)},ws≠[]->(∀w∈ws,RI 59 w)->splitS (joinL [59,32] ws)=ws
 | [],h,_=>absurd rfl h
 | [w],_,h=>Io (h w (by simp))
 | w :: v :: r,_,h=>by
   have:joinL [59,32] (w :: v :: r)=w++59 :: 32 :: joinL [59,32] (v :: r):=by rw[jA _ _ _ (by simp)];simp
   rw[this,EU (h w (by simp)),EC (by simp) (λx hx=>h x (by simp only[mM]at hx ⊢;exact .inr hx))]
theorem vJ{p:List fI}(h:eu p=true)(hp:p≠[]):splitS (jP p)=p.map fo:=
 EC (by simpa using hp) (λw hw=>by obtain⟨d,hd,rfl⟩:=fV.1 hw;exact SG (dO h hd))
theorem EH:∀{a b:List fI},(∀o∈a,dm o=true)->(∀o∈b,dm o=true)->a.map fo=b.map fo->a=b
 | [],[],_,_,_=>rfl
 | [],_ :: _,_,_,e=>by simp at e
 | _ :: _,[],_,_,e=>by simp at e
 | x :: a,y :: b,ha,hb,e=>by simp only[qc,List.cons.injEq]at e;rw[RJ (ha x (by simp)) (hb y (by simp)) e.1,EH (λo ho=>ha o (by simp[ho])) (λo ho=>hb o (by simp[ho])) e.2]
theorem Lf{p:List fI}:jP p=[]↔p=[]:=by
 constructor
 ·intro h
  cases p with
  | nil=>rfl
  | cons d r=>
    exfalso;unfold jP at h
    cases r with
    | nil=>exact VC h
    | cons d' r=>
      rw[qc,jA _ _ _ (by simp)]at h;simp at h
 ·rintro rfl;rfl
theorem Va{p p':List fI}(h:eu p=true)(h':eu p'=true)(e:jP p=jP p'):p=p':=by
 by_cases hp:p=[]
 ·subst hp
  exact(Lf.1 (e.symm.trans rfl)).symm
 ·have hp':p'≠[]:=λe'=>hp (Lf.1 (by rw[e,e'];rfl))
  have:=vJ h hp
  rw[e,vJ h' hp']at this
  exact(EH (λd hd=>dO h' hd) (λd hd=>dO h hd) this).symm
open Classical in
noncomputable def bL (s:List UInt8):Option (List fI):=if h:∃p,eu p=true/\jP p=s then some h.choose else none
theorem kR{s:List UInt8}{p:List fI}:bL s=some p↔eu p=true/\jP p=s:=by
 unfold bL;constructor
 ·intro e;split at e
  ·rename_i h;injection e with e;rw[<-e];exact h.choose_spec
  ·cases e
 ·rintro⟨h1,h2⟩;have h:∃p,eu p=true/\jP p=s:=⟨p,h1,h2⟩;rw[dif_pos h];exact agB some (Va h.choose_spec.1 h1 (h.choose_spec.2.trans h2.symm))
theorem mo{s:List UInt8}(h:∀p,eu p=true->jP p≠s):bL s=none:=by
 cases e:bL s with
 | none=>rfl
 | some p=>have:=kR.1 e;exact absurd this.2 (h p this.1)
structure pX where
 h:List aG
 vals:j3
 dK:j3
 kept:Nat->j3
 began:Nat->j3
def mE(ops:List aV)(s:j3)(key:Int):Int:=((gT ops key).map (·.value)).getD (s key)
def yO(p:List fI)(n:Nat):List aV:=(p[n]?.map (·.steps)).getD []
def Ii(h:List aG)(n:Nat):Int:=(h[n]?.map (·.az)).getD 0
def jJ(s:j3)(ws:List aV):j3:=ws.foldl (λs w=>s.put w.key w.value) s
def iT(s:j3)(ws:List aV):j3:=ws.foldl (λs w=>s.put w.key (s w.key+1)) s
def oF(dK began:j3)(ws:List aV):Bool:=ws.all λw=>dK w.key==began w.key
def wZ(f:Nat->j3)(n:Nat)(s:j3):Nat->j3:=λx=>if x=n then s else f x
def l9(m:pX)(n:Nat)(o:aV):aV:=
 if jQ o then ⟨o.kind,o.key,10*((n:Int)+1)+((opsOf m.h n).length:Int)+1⟩ else ⟨o.kind,o.key,mE (opsOf m.h n) (m.kept n) o.key⟩
def ay(m:pX)(n:Nat):pX:=if (opsOf m.h n).length=0 then { m with kept:=wZ m.kept n m.vals,began:=wZ m.began n m.dK } else m
def jm(m:pX)(n:Nat)(o:aV)(d:Bool):pX:={ m with h:=m.h.set n ⟨Ii m.h n,opsOf m.h n++[o],d⟩ }
def Dc(m:pX)(n:Nat)(o:aV):pX:=
 let ws:=bQ (opsOf m.h n++[o])
 if oF m.dK (m.began n) ws=true then { jm m n o true with vals:=jJ m.vals ws,dK:=iT m.dK ws } else jm m n o false
def stepM(p:List fI)(m:pX)(n:Nat):pX:=
 match (yO p n)[(opsOf m.h n).length]? with
 | none=>m
 | some o=>if (opsOf m.h n).length+1=(yO p n).length then Dc (ay m n) n (l9 (ay m n) n o) else jm (ay m n) n (l9 (ay m n) n o) false
def iq(p:List fI):pX:=⟨p.map λd=>⟨d.az,[],false⟩,pU,pU,λ_=>pU,λ_=>pU⟩
def eD(n:Nat):List Nat:=List.range n++List.range n++List.range n++List.range n
def cz(p:List fI)(k:Nat):pX:=((eD p.length).take k).foldl (stepM p) (iq p)
def BV(p:List fI):List aG:=(cz p (eD p.length).length).h
theorem nR{p:List fI}{k n:Nat}(hn:(eD p.length)[k]? =some n):cz p (k+1)=stepM p (cz p k) n:=by unfold cz;rw[ak hn,nL];rfl
theorem uD{m n:Nat}(h:n∈eD m):n<m:=by unfold eD at h;simp only[iR,Q6]at h;omega
theorem GK(m:Nat):(eD m).length=4*m:=by simp[eD];omega
theorem oO(m:pX)(n:Nat):(ay m n).h=m.h:=by unfold ay;split<;>rfl
def InV(s:j3):Prop:=∀k,0<=s k/\s k<=99
structure pg (p:List fI) (m:pX):Prop where
 len:m.h.length=p.length
 tx:∀(n:Nat) t d,m.h[n]? =some t->p[n]? =some d->t.az=d.az/\t.ops.length<=d.steps.length /\
  ∀(s:Nat) o,t.ops[s]? =some o->∃o0,d.steps[s]? =some o0/\o.kind=o0.kind/\o.key=o0.key/\(jQ o=true->o.value=10*((n:Int)+1)+s+1)/\0<=o.value/\o.value<=99
 vals:InV m.vals
 kept:∀n,InV (m.kept n)
theorem InV.put{s:j3}(h:InV s)(k v:Int)(hv:0<=v/\v<=99):InV (s.put k v):=λx=>by
 unfold j3.put;split
 ·exact hv
 ·exact h x
theorem Vg{s:j3}(h:InV s):∀(ws:List aV),(∀w∈ws,0<=w.value/\w.value<=99)->InV (jJ s ws):=by
 intro ws
 induction ws generalizing s with
 | nil=>intro _;exact h
 | cons w ws ih=>
   intro hw;exact ih (h.put _ _ (hw w (by simp))) (λx hx=>hw x (by simp[hx]))
theorem pg.start{p:List fI}:pg p (iq p) where
 len:=by simp[iq]
 tx n t d ht hd:=by simp only[iq,jT,hd,Option.map_some,Option.some.injEq]at ht;subst ht;exact⟨rfl,by simp,λs o ho=>by simp at ho⟩
 vals:=λ_=>by simp[iq,pU]
 kept:=λ_ _=>by simp[iq,pU]
theorem pg.begin_{p:List fI}{m:pX}(h:pg p m)(n:Nat):pg p (ay m n):=by
 unfold ay;split
 ·refine⟨h.len,h.tx,h.vals,λx=>?_⟩;show InV (wZ m.kept n m.vals x);unfold wZ;split
  ·exact h.vals
  ·exact h.kept x
 ·exact h
theorem Dn{h:List aG}{n:Nat}{t:aG}(ht:h[n]? =some t):Ii h n=t.az:=by simp[Ii,ht]
theorem vO{p:List fI}{n:Nat}{d:fI}(hd:p[n]? =some d):yO p n=d.steps:=by simp[yO,hd]
theorem XL{ops:List aV}{s:j3}(hs:InV s)(ho:∀o∈ops,0<=o.value/\o.value<=99)(key:Int):0<=mE ops s key/\mE ops s key<=99:=by
 unfold mE
 cases e:gT ops key with
 | none=>exact hs key
 | some o=>exact ho o (lV e).1
theorem X8{p:List fI}{m:pX}(h:pg p m)(hp:eu p=true){n:Nat}{t:aG}{d:fI}{o0:aV}(ht:m.h[n]? =some t)(hd:p[n]? =some d)(ho:d.steps[t.ops.length]? =some o0) :
 (l9 m n o0).kind=o0.kind/\(l9 m n o0).key=o0.key/\(jQ (l9 m n o0)=true->(l9 m n o0).value=10*((n:Int)+1)+t.ops.length+1)/\0<=(l9 m n o0).value/\(l9 m n o0).value<=99:=by
 have hn:n<4:=by have:=(bG.1 hd).1;have:=jW hp;omega
 have hs:t.ops.length<4:=by have:=(bG.1 ho).1;have:=(iN (dO hp (aM hd))).2;omega
 unfold l9;rw[dV ht];by_cases hw:jQ o0=true
 ·rw[aj hw];exact⟨rfl,rfl,λ_=>rfl,by show (0:Int)<=10*((n:Int)+1)+(t.ops.length:Int)+1;omega,by show 10*((n:Int)+1)+(t.ops.length:Int)+1<=(99:Int);omega⟩
 ·rw[au hw];refine⟨rfl,rfl,λhw'=>absurd hw' hw,?_⟩;exact XL (h.kept n) (λo ho'=>by
   obtain⟨i,hi,rfl⟩:=jq ho'
   exact((h.tx n t d ht hd).2.2 i _ (dJ hi)).choose_spec.2.2.2.2) _
theorem pg.note{p:List fI}{m:pX}(h:pg p m){n:Nat}{t:aG}{d:fI}{o o0:aV}(dn:Bool)(ht:m.h[n]? =some t)(hd:p[n]? =some d)(ho:d.steps[t.ops.length]? =some o0)
 (hok:o.kind=o0.kind/\o.key=o0.key/\(jQ o=true->o.value=10*((n:Int)+1)+t.ops.length+1)/\0<=o.value/\o.value<=99):pg p (jm m n o dn) where
 len:=by show (m.h.set n _).length = _;rw[iE];exact h.len
 tx x t' d' ht' hd':=by
  replace ht':(m.h.set n ⟨Ii m.h n,opsOf m.h n++[o],dn⟩)[x]? =some t':=ht';rw[iO]at ht';split at ht'
  ·rename_i e;subst e;split at ht'
   ·cases ht';rw[hd]at hd';cases hd';obtain⟨a,b,c⟩:=h.tx n t d ht hd;rw[Dn ht,dV ht];refine⟨a,?_,λs o' ho'=>?_⟩
    ·have:=(bG.1 ho).1
     simp;omega
    ·rw[MS]at ho';split at ho'
     ·exact c s o' ho'
     ·rename_i hlt;have e0:s-t.ops.length=0:=by
       have:=(bG.1 ho').1
       simp at this;omega
      rw[e0]at ho';simp at ho';subst ho';have e1:s=t.ops.length:=by omega
      subst e1;exact⟨o0,ho,hok⟩
   ·cases ht'
  ·exact h.tx x t' d' ht' hd'
 vals:=h.vals
 kept:=h.kept
theorem Ta{p:List fI}{m:pX}(h:pg p m){n:Nat}{t:aG}{d:fI}(ht:m.h[n]? =some t)(hd:p[n]? =some d):∀o∈t.ops,0<=o.value/\o.value<=99:=λo ho=>by
 obtain⟨i,hi,rfl⟩:=jq ho
 exact((h.tx n t d ht hd).2.2 i _ (dJ hi)).choose_spec.2.2.2.2
theorem pg.step{p:List fI}{m:pX}(h:pg p m)(hp:eu p=true){n:Nat}(hn:n<p.length):pg p (stepM p m n):=by
 obtain⟨d,hd⟩:∃d,p[n]? =some d:=⟨_,dJ hn⟩;obtain⟨t,ht⟩:∃t,m.h[n]? =some t:=⟨_,dJ (by rw[h.len];exact hn)⟩;unfold stepM;rw[vO hd,dV ht];split
 ·exact h
 ·rename_i o0 ho;have hB:=h.begin_ n;have htB:(ay m n).h[n]? =some t:=by rw[oO];exact ht
  have hok:=X8 hB hp htB hd ho;split
  ·unfold Dc;simp only;split
   ·have hN:=hB.note true htB hd ho hok;refine⟨hN.len,hN.tx,?_,hN.kept⟩;refine Vg hB.vals _ (λw hw=>?_);have hm:=(lV (kK.1 hw).2).1;rw[dV htB,iR]at hm;rcases hm with hm|hm
    ·exact Ta hB htB hd w hm
    ·simp at hm;subst hm;exact hok.2.2.2
   ·exact hB.note false htB hd ho hok
  ·exact hB.note false htB hd ho hok
theorem Ih{p:List fI}(hp:eu p=true):∀k,k<=(eD p.length).length->pg p (cz p k):=by
 intro k
 induction k with
 | zero=>intro _;exact pg.start
 | succ k ih=>
   intro hk;have hx:=dJ (show k<(eD p.length).length by omega);rw[nR hx]
   exact(ih (by omega)).step hp (uD (List.getElem_mem _))
theorem Ue{p:List fI}{m:pX}(h:pg p m)(hp:eu p=true):aD m.h=true:=by
 have hl:m.h.length<=4:=by rw[h.len];exact jW hp
 have hD:∀(n:Nat) t,m.h[n]? =some t->∃d,p[n]? =some d/\dm d=true:=λn t ht=>by
  have hn:=(bG.1 ht).1;have hn':n<p.length:=by rw[<-h.len];exact hn
  exact⟨p[n],dJ hn',dO hp (List.getElem_mem _)⟩
 unfold aD;simp only[dh,rU,kT];refine⟨⟨by omega,λt ht=>?_⟩,?_⟩
 ·obtain⟨n,hn,rfl⟩:=jq ht;have ht':=dJ hn;obtain⟨d,hd,hdo⟩:=hD n _ ht';obtain⟨a,b,c⟩:=h.tx n _ d ht' hd;have h1:=kD hdo;have h2:=iN hdo;unfold dG;simp only[dh,rU,kT];refine⟨⟨cK.2 (by omega),by omega⟩,λo ho=>?_⟩;obtain⟨i,hi,rfl⟩:=jq ho;obtain⟨o0,h0,e1,e2,e3,e4⟩:=c i _ (dJ hi);have hs:=gN hdo (aM h0);have hk:=kF hs;have hy:=jy hs;unfold iY;simp only[dh];refine⟨⟨⟨?_,cK.2 (by omega)⟩,cK.2 (by omega)⟩,?_⟩
  ·simp[oH,jQ];omega
  ·cases hw:jQ (m.h[n].ops[i]) with
   | false=>rfl
   | true=>
     have:=e3 hw
     simp;omega
 ·
  have key:∀(l:List aG) (n:Nat),(∀(i:Nat) t,l[i]? =some t->t.ops.length<=4/\∀(s:Nat) o,t.ops[s]? =some o->jQ o=true->o.value=10*(((n+i:Nat):Int)+1)+s+1) ->
   ((wrsFrom n l).map (·.1.2)).Pairwise (· < ·)/\∀x∈wrsFrom n l,10*((n:Int)+1)<x.1.2:=by
   intro l
   induction l with
   | nil=>intro n _;simp[wrsFrom]
   | cons t l ih=>
     intro n hall;obtain⟨h4,hv⟩:=hall 0 t rfl;obtain⟨i1,i2⟩:=ih (n+1) (λi t' ht'=>by
      have:=hall (i+1) t' (by simpa using ht')
      refine⟨this.1,λs o ho hw=>?_⟩;rw[this.2 s o ho hw];congr 3
      omega)
     have hone:∀(ops:List aV) (b:Int),(∀(s:Nat) o,ops[s]? =some o->jQ o=true->o.value=b+s+1)->((iC n ops).map (·.1.2)).Pairwise (· < ·)/\∀x∈iC n ops,b<x.1.2/\x.1.2<=b+ops.length:=by
      intro ops
      induction ops with
      | nil=>intro b _;simp[iC]
      | cons o ops ih2=>
        intro b hb;obtain⟨j1,j2⟩:=ih2 (b+1) (λs o' ho' hw=>by
         have:=hb (s+1) o' (by simpa using ho') hw
         rw[this]
         omega)
        have e:iC n (o :: ops)=(if jQ o then [((o.key,o.value),n)] else [])++iC n ops:=by
         unfold iC;rw[sN]
         split<;>simp
        rw[e];by_cases hw:jQ o=true
        ·have hv0:=hb 0 o rfl hw;rw[aj hw];refine⟨?_,λx hx=>?_⟩
         ·rw[List.singleton_append,qc,List.pairwise_cons];refine⟨λy hy=>?_,j1⟩;obtain⟨x,hx,rfl⟩:=fV.1 hy
          have:=(j2 x hx).1
          simp only;omega
         ·rw[List.singleton_append,mM]at hx;rcases hx with rfl|hx
          ·simp only[eO];omega
          ·have:=j2 x hx
           simp only[eO];omega
        ·rw[au hw,List.nil_append];refine⟨j1,λx hx=>?_⟩
         have:=j2 x hx
         simp only[eO];omega
     obtain⟨k1,k2⟩:=hone t.ops (10*((n:Int)+1)) (λs o ho hw=>by have:=hv s o ho hw;simpa using this);rw[wrsFrom];refine⟨?_,λx hx=>?_⟩
     ·rw[rR,List.pairwise_append];refine⟨k1,i1,λa ha b hb=>?_⟩;obtain⟨x,hx,rfl⟩:=fV.1 ha;obtain⟨y,hy,rfl⟩:=fV.1 hb;have h1:=(k2 x hx).2;have h2:=i2 y hy;omega
     ·rw[iR]at hx;rcases hx with hx|hx
      ·exact(k2 x hx).1
      ·have:=i2 x hx
       omega
  obtain⟨k1,_⟩:=key m.h 0 (λi t ht=>by
   obtain⟨d,hd,hdo⟩:=hD i t ht;obtain⟨a,b,c⟩:=h.tx i t d ht hd;refine⟨by have:=(iN hdo).2;omega,λs o ho hw=>?_⟩;obtain⟨o0,_,_,_,e3,_⟩:=c s o ho;rw[e3 hw]
   simp)
  refine EX ?_
  have:((Da m.h).map (·.1.2)).Nodup:=k1.imp (λhab=>Int.ne_of_lt hab)
  rw[show (Da m.h).map (·.1.2)=((Da m.h).map (·.1)).map (·.2) by simp]at this;unfold List.Nodup at this ⊢;rw[List.pairwise_map]at this;exact this.imp (λhab e=>hab (by rw[e]))
theorem FY{p:List fI}(hp:eu p=true):aD (BV p)=true:=Ue (Ih hp _ (av _)) hp
section
section
variable{P:Program}{α:Type}{t e:TypeId}{m b:Nat}{z:Value}{enc:α->Nat->Value}{xs:List α}{A:Option Addr}{n c:Nat}
def part{α:Type}(xs:List α)(lo hi:Nat):List α:=(xs.take hi).drop lo
theorem YP{xs:List α}{lo hi i:Nat}:(part xs lo hi)[i]? =if lo+i<hi then xs[lo+i]? else none:=by rw[part,Bd,nU]
theorem rZ{xs:List α}{lo hi:Nat}(hh:hi<=xs.length):(part xs lo hi).length=hi-lo:=by rw[part,rX,eY,rC hh]
theorem aL.part{w:World}(h:aL m enc w (.slice A n c) xs)(lo hi:Nat)(hlo:lo<=hi)(hhi:hi<=xs.length)(hc:xs.length<=c) :
 aL m enc w (.slice (if c=lo then A else A.map (·.add (lo*m))) (hi-lo) (c-lo)) (part xs lo hi)/\∀b0,Own b0 w (.slice A n c)->Own b0 w (.slice (if c=lo then A else A.map (·.add (lo*m))) (hi-lo) (c-lo)):=by
 obtain⟨A',c',hA,hcell⟩:=h;injection hA with e1 e2 e3;subst e1 e2 e3;have hadd:∀(b off:Nat) (n:Nat),(⟨b,off,none⟩:Addr).add n=⟨b,off+n,none⟩:=λb off n=>by
  unfold Addr.add;split
  ·rename_i h;rw[h];rfl
  ·rfl
 constructor
 ·refine⟨_,_,by rw[rZ hhi],λhn=>?_⟩;rw[rZ hhi]at hn;obtain⟨b,off,rfl,hlt,hcl⟩:=hcell (by omega);rw[au (by omega)];refine⟨b,off+lo*m,by rw[Option.map_some,hadd],hlt,λi x hx j hj=>?_⟩;rw[YP]at hx;split at hx
  ·have:=hcl (lo+i) x hx j hj
   rw[Nat.add_mul]at this;rw[<-this];congr 2;omega
  ·cases hx
 ·intro b0 ho a n' c' hv hn;injection hv with e1 e2 e3;subst e2;obtain⟨b,off,rfl,hlt,hcl⟩:=hcell (by omega)
  have:=ho ⟨b,off,none⟩ _ _ rfl (by omega)
  rw[au (by omega),Option.map_some,hadd]at e1;injection e1 with e1;subst e1;exact this
theorem mK(ht:P.underlying t=some (.slice e))(hinfo:(P.info? e).map (λi=>(i.zero,i.size,i.bytes))=some (some z,m,b))(lo:Nat)(hlo:lo<=n)(W:World) :
 (Instr.slice t (.slice A n c) (some (.int .i64 (lo:Int))) none none).run P W=.ok (.slice (if c=lo then A else A.map (·.add (lo*m))) (n-lo) (c-lo)) W:=by
 obtain⟨i,hi',hz,hs,hby⟩:=qo hinfo;subst hs;simp[Instr.slice,run_underlying ht,Instr.sliceBounds,Instr.sliceBound,asIntOf,sizeOf,typeInfo,hi',hlo]
theorem mW(ht:P.underlying t=some (.slice e))(hinfo:(P.info? e).map (λi=>(i.zero,i.size,i.bytes))=some (some z,m,b))(hi:Nat)(hhi:hi<=c)(W:World) :
 (Instr.slice t (.slice A n c) none (some (.int .i64 (hi:Int))) none).run P W=.ok (.slice (if c=0 then A else A.map (·.add (0*m))) (hi-0) (c-0)) W:=by
 obtain⟨i,hi',hz,hs,hby⟩:=qo hinfo;subst hs;simp[Instr.slice,run_underlying ht,Instr.sliceBounds,Instr.sliceBound,asIntOf,sizeOf,typeInfo,hi',hhi]
end
theorem Row.lit{α:Type}{m:Nat}{enc:α->Nat->Value}(w:World)(cs:Array Value)(T:TypeId)(xs:List α)(h:cs.toList=xs.flatMap (aH m enc))(hn:xs.length<=4194304):Row T m enc w.heap.size (w.alloc (.cells cs T)) (.slice (some ⟨w.heap.size,0,none⟩) xs.length xs.length) xs:=by
 have hs:cs.size=xs.length*m:=by rw[<-Array.length_toList,h,kG]
 refine⟨kG xs,.inr ⟨w.heap.size,xs.length,cs,rfl,av _,dP w _,av _,by simp only[maxLen];omega,hs,?_⟩⟩;rw[jX (by rw[Array.length_toList,hs];exact av _),h]
end
theorem Ai{p:List fI}{m:pX}{n:Nat}{t:aG}{d:fI}(ht:m.h[n]? =some t)(hd:p[n]? =some d)(hs:d.steps[t.ops.length]? =none):stepM p m n=m:=by unfold stepM;rw[vO hd,dV ht,hs]
theorem wE{p:List fI}{m:pX}{n:Nat}{t:aG}{d:fI}{o:aV}(ht:m.h[n]? =some t)(hd:p[n]? =some d)(hs:d.steps[t.ops.length]? =some o)(hl:t.ops.length+1≠d.steps.length):stepM p m n=jm (ay m n) n (l9 (ay m n) n o) false:=by unfold stepM;rw[vO hd,dV ht,hs];simp only;rw[au hl]
theorem nS{p:List fI}{m:pX}{n:Nat}{t:aG}{d:fI}{o:aV}(ht:m.h[n]? =some t)(hd:p[n]? =some d)(hs:d.steps[t.ops.length]? =some o)(hl:t.ops.length+1=d.steps.length):stepM p m n=Dc (ay m n) n (l9 (ay m n) n o):=by unfold stepM;rw[vO hd,dV ht,hs];simp only;rw[aj hl]
theorem F5{m:pX}{n:Nat}{t:aG}(o:aV)(dn:Bool)(ht:m.h[n]? =some t):(jm (ay m n) n o dn).h=m.h.set n ⟨t.az,t.ops++[o],dn⟩:=by show (ay m n).h.set n ⟨Ii (ay m n).h n,opsOf (ay m n).h n++[o],dn⟩ = _;rw[oO,Dn ht,dV ht]
theorem O8{m:pX}{n:Nat}{t:aG}(o:aV)(ht:m.h[n]? =some t):l9 (ay m n) n o=if jQ o then ⟨o.kind,o.key,10*((n:Int)+1)+(t.ops.length:Int)+1⟩ else ⟨o.kind,o.key,mE t.ops ((ay m n).kept n) o.key⟩:=by unfold l9;rw[oO,dV ht]
theorem DX{m:pX}{n:Nat}{t:aG}{o:aV}(ht:m.h[n]? =some t)(hf:oF (ay m n).dK ((ay m n).began n) (bQ (t.ops++[o]))=true) :
 Dc (ay m n) n o={ jm (ay m n) n o true with vals:=jJ m.vals (bQ (t.ops++[o])),dK:=iT m.dK (bQ (t.ops++[o])) }:=by
 have h1:opsOf (ay m n).h n=t.ops:=by rw[oO,dV ht]
 have h2:(ay m n).vals=m.vals:=by unfold ay;split<;>rfl
 have h3:(ay m n).dK=m.dK:=by unfold ay;split<;>rfl
 unfold Dc;simp only;rw[h1,aj hf,h2,h3]
theorem I7{m:pX}{n:Nat}{t:aG}{o:aV}(ht:m.h[n]? =some t)(hf:oF (ay m n).dK ((ay m n).began n) (bQ (t.ops++[o]))=false):Dc (ay m n) n o=jm (ay m n) n o false:=by
 have h1:opsOf (ay m n).h n=t.ops:=by rw[oO,dV ht]
 unfold Dc;simp only;rw[h1,hf,au (by decide)]
theorem tK(m:pX)(n:Nat):(ay m n).vals=m.vals:=by unfold ay;split<;>rfl
theorem lM(m:pX)(n:Nat):(ay m n).dK=m.dK:=by unfold ay;split<;>rfl
theorem yl{m:pX}{n:Nat}{t:aG}(ht:m.h[n]? =some t)(h0:t.ops.length=0):(ay m n).kept=wZ m.kept n m.vals/\(ay m n).began=wZ m.began n m.dK:=by unfold ay;rw[dV ht,aj h0];exact⟨rfl,rfl⟩
theorem Gz{m:pX}{n:Nat}{t:aG}(ht:m.h[n]? =some t)(h0:t.ops.length≠0):(ay m n).kept=m.kept/\(ay m n).began=m.began:=by unfold ay;rw[dV ht,au h0];exact⟨rfl,rfl⟩
theorem IQ(m:pX)(n:Nat)(o:aV):(∃v w,Dc m n o={ jm m n o true with vals:=v,dK:=w })∨Dc m n o=jm m n o false:=by
 unfold Dc;simp only;split
 ·exact .inl ⟨_,_,rfl⟩
 ·exact .inr rfl
theorem step_done{p:List fI}{m:pX}(hn:∀(i:Nat) t d,m.h[i]? =some t->p[i]? =some d->t.ops.length<d.steps.length->t.done=false)(n:Nat):∀(i:Nat) t d,(stepM p m n).h[i]? =some t->p[i]? =some d->t.ops.length<d.steps.length->t.done=false:=by
 intro i t d ht hd hl;by_cases hx:∃x y,m.h[n]? =some x/\p[n]? =some y
 ·obtain⟨x,y,hx,hy⟩:=hx
  cases hs:y.steps[x.ops.length]? with
  | none=>rw[Ai hx hy hs]at ht;exact hn i t d ht hd hl
  | some o=>
    by_cases hlast:x.ops.length+1=y.steps.length
    ·rw[nS hx hy hs hlast]at ht;have key:∀dn,((jm (ay m n) n (l9 (ay m n) n o) dn).h)[i]? =some t->(i=n/\t.ops.length=x.ops.length+1)∨(i≠n/\m.h[i]? =some t):=λdn hh=>by
      rw[F5 _ _ hx,iO]at hh;split at hh
      ·rename_i e;split at hh
       ·cases hh;exact .inl ⟨e.symm,by simp⟩
       ·cases hh
      ·rename_i e;exact .inr ⟨λh=>e h.symm,hh⟩
     rcases IQ (ay m n) n (l9 (ay m n) n o) with ⟨v,w,e⟩|e
     ·rw[e]at ht;rcases key true ht with ⟨rfl,h1⟩|⟨_,h1⟩
      ·rw[hd]at hy;cases hy;omega
      ·exact hn i t d h1 hd hl
     ·rw[e]at ht;rcases key false ht with ⟨rfl,h1⟩|⟨_,h1⟩
      ·rw[hd]at hy;cases hy;omega
      ·exact hn i t d h1 hd hl
    ·rw[wE hx hy hs hlast,F5 _ _ hx,iO]at ht;split at ht
     ·split at ht
      ·cases ht;rfl
      ·cases ht
     ·exact hn i t d ht hd hl
 ·have:stepM p m n=m∨(m.h[n]? =none)∨p[n]? =none:=by
   cases h1:m.h[n]? with
   | none=>exact .inr (.inl rfl)
   | some x=>
     cases h2:p[n]? with
     | none=>exact .inr (.inr rfl)
     | some y=>exact absurd ⟨x,y,h1,h2⟩ hx
  have key:∀o dn,(jm (ay m n) n o dn).h=m.h∨m.h[n]?≠none:=λo dn=>by
   cases h1:m.h[n]? with
   | none=>
     left;show (ay m n).h.set n _ = _;rw[oO];exact List.set_eq_of_length_le (List.getElem?_eq_none_iff.1 h1)
   | some x=>right;simp
  have h4:(stepM p m n).h=m.h:=by
   rcases this with h|h|h
   ·rw[h]
   ·have k2:∀o dn,(jm (ay m n) n o dn).h=m.h:=λo dn=>(key o dn).resolve_right (by simp[h]);unfold stepM;split
    ·rfl
    ·split
     ·rcases IQ (ay m n) n (l9 (ay m n) n ‹aV›) with ⟨v,w,e⟩|e
      ·rw[e];exact k2 _ _
      ·rw[e];exact k2 _ _
     ·exact k2 _ _
   ·unfold stepM
    have:yO p n=[]:=by simp[yO,h]
    rw[this];simp
  rw[h4]at ht;exact hn i t d ht hd hl
theorem GU{p:List fI}:∀k,k<=(eD p.length).length->∀(i:Nat) t d,(cz p k).h[i]? =some t->p[i]? =some d->t.ops.length<d.steps.length->t.done=false:=by
 intro k
 induction k with
 | zero=>
   intro _ i t d ht hd _;have ht:(iq p).h[i]? =some t:=ht;simp only[iq,jT,hd,Option.map_some,Option.some.injEq]at ht;rw[<-ht]
 | succ k ih=>
   intro hk;have hx:=dJ (show k<(eD p.length).length by omega);rw[nR hx];exact step_done (ih (by omega)) _
theorem Ac(ws:List aV)(s:j3)(x:Int):s x<=iT s ws x/\iT s ws x<=s x+ws.length:=by
 unfold iT
 induction ws generalizing s with
 | nil=>simp
 | cons w ws ih=>
   rw[uz]
   have:=ih (s.put w.key (s w.key+1))
   have h2:s x<=s.put w.key (s w.key+1) x/\s.put w.key (s w.key+1) x<=s x+1:=by
    unfold j3.put;split
    ·rename_i e;rw[e];omega
    ·omega
   simp only[eO];omega
theorem AQ(ops:List aV):(bQ ops).length<=3:=lU ops▸nN ops 3
theorem Sd{p:List fI}:∀k,k<=(eD p.length).length->∀x,0<=(cz p k).dK x/\(cz p k).dK x<=3*(k:Int):=by
 intro k
 induction k with
 | zero=>intro _ x;exact⟨Int.le_refl _,Int.le_refl _⟩
 | succ k ih=>
   intro hk x;have hx:=dJ (show k<(eD p.length).length by omega);have h0:=ih (by omega) x;rw[nR hx];generalize (eD p.length)[k]=n;generalize cz p k=m at h0;have hn:∀o dn,(jm (ay m n) n o dn).dK=m.dK:=λo dn=>lM m n;have key:(stepM p m n).dK x=m.dK x∨∃ws,ws.length<=3/\(stepM p m n).dK=iT m.dK ws:=by
    unfold stepM;split
    ·exact .inl rfl
    ·split
     ·unfold Dc;simp only;split
      ·right;exact⟨_,AQ _,by rw[lM]⟩
      ·left;rw[hn]
     ·left;rw[hn]
   rcases key with h|⟨ws,hl,h⟩
   ·rw[h];omega
   ·rw[h]
    have:=Ac ws m.dK x
    omega
theorem EP{s:j3}{ws:List aV}{j:Nat}{w:aV}(hw:ws[j]? =some w):jJ s (ws.take (j+1))=(jJ s (ws.take j)).put w.key w.value:=by unfold jJ;rw[ak hw,nL];rfl
theorem Ni{s:j3}{ws:List aV}{j:Nat}{w:aV}(hw:ws[j]? =some w):iT s (ws.take (j+1))=(iT s (ws.take j)).put w.key ((iT s (ws.take j)) w.key+1):=by unfold iT;rw[ak hw,nL];rfl
theorem VB{v b:j3}{ws:List aV}{j:Nat}{w:aV}(hw:ws[j]? =some w):oF v b (ws.take (j+1))=(oF v b (ws.take j)&&v w.key==b w.key):=by unfold oF;rw[ak hw,List.all_append];simp
theorem rP(s sub:List UInt8):Lib.index s sub=-1∨∃i:Nat,Lib.index s sub=i:=by
 have:=Lib.index_ge s sub
 by_cases h:Lib.index s sub=-1
 ·exact .inl h
 ·exact .inr ⟨(Lib.index s sub).toNat,by omega⟩
theorem index_hit{c:UInt8}{l sub:List UInt8}(h:sub.isPrefixOf (c :: l)=true):Lib.index (c :: l) sub=0:=by rw[Lib.index,aj h]
theorem QD{c:UInt8}{l sub:List UInt8}(h:sub.isPrefixOf (c :: l)=false):Lib.index (c :: l) sub=if Lib.index l sub == -1 then -1 else Lib.index l sub+1:=by rw[Lib.index,h];rfl
theorem Bp{c:UInt8}{l sub:List UInt8}(h:sub.isPrefixOf (c :: l)=false):(Lib.index (c :: l) sub=-1->Lib.index l sub=-1)/\∀i:Nat,Lib.index (c :: l) sub=i->∃j:Nat,i=j+1/\Lib.index l sub=j:=by
 rw[QD h]
 have:=Lib.index_ge l sub
 by_cases e:Lib.index l sub=-1
 ·rw[e];exact⟨λ_=>rfl,λi hi=>by simp at hi⟩
 ·have:(Lib.index l sub == -1)=false:=by simpa using e
  rw[this];refine⟨λh=>?_,λi hi=>⟨i-1,?_,?_⟩⟩<;>simp at*<;> omega
theorem qF(b:UInt8):∀s:List UInt8,(Lib.index s [b]=-1->splitL b s=[s])/\∀i:Nat,Lib.index s [b]=i->splitL b s=s.take i :: splitL b (s.drop (i+1))
 | []=>⟨λ_=>rfl,λi h=>by simp[Lib.index]at h⟩
 | c :: l=>by
   obtain⟨h1,h2⟩:=qF b l;by_cases hc:c=b
   ·subst hc;have e:Lib.index (c :: l) [c]=0:=index_hit (by simp);refine⟨λh=>?_,λi h=>?_⟩
    ·rw[e]at h;cases h
    ·rw[e]at h;obtain rfl:i=0:=by omega
     simp[splitL]
   ·obtain⟨n1,n2⟩:=Bp (c:=c) (l:=l) (sub:=[b]) (by simp[List.isPrefixOf,Ne.symm hc]);refine⟨λh=>?_,λi h=>?_⟩
    ·rw[splitL,au hc,h1 (n1 h)]
    ·obtain⟨j,rfl,hj⟩:=n2 i h;rw[splitL,au hc,h2 j hj];rfl
theorem vo:∀s:List UInt8,(Lib.index s [59,32]=-1->splitS s=[s])/\∀i:Nat,Lib.index s [59,32]=i->splitS s=s.take i :: splitS (s.drop (i+2))
 | []=>⟨λ_=>rfl,λi h=>by simp[Lib.index]at h⟩
 | c :: l=>by
   obtain⟨h1,h2⟩:=vo l;by_cases hc:∃r,c :: l=59 :: 32 :: r
   ·obtain⟨r,hr⟩:=hc;have e:Lib.index (c :: l) [59,32]=0:=by rw[hr];exact index_hit (by simp[List.isPrefixOf])
    refine⟨λh=>?_,λi h=>?_⟩
    ·rw[e]at h;cases h
    ·rw[e]at h;obtain rfl:i=0:=by omega
     rw[hr];simp[splitS]
   ·have hp:List.isPrefixOf [59,32] (c :: l)=false:=by rw[Bool.eq_false_iff];intro h;obtain⟨r,hr⟩:=List.isPrefixOf_iff_prefix.1 h;exact hc ⟨r,hr.symm⟩
    have hs:splitS (c :: l)=match splitS l with
     | []=>[[c]]
     | y :: r=>(c :: y) :: r:=by
     rw[splitS]
     all_goals first
      | rfl
      | (rintro t rfl rfl
         exact hc ⟨_,rfl⟩)
    obtain⟨n1,n2⟩:=Bp hp;refine⟨λh=>?_,λi h=>?_⟩
    ·rw[hs,h1 (n1 h)]
    ·obtain⟨j,rfl,hj⟩:=n2 i h;rw[hs,h2 j hj];rfl
theorem Cu(b:UInt8):∀(k:Nat) (s:List UInt8),Lib.count s [b]=k->Lib.splitK [b] 0 k s=splitL b s
 | 0,s,h=>by
   rcases rP s [b] with e|⟨i,e⟩
   ·exact((qF b s).1 e).symm
   ·rw[Lib.count_hit (by simp) e]at h;omega
 | k+1,s,h=>by
   rcases rP s [b] with e|⟨i,e⟩
   ·rw[Lib.count_miss e]at h;omega
   ·rw[Lib.count_hit (by simp) e]at h;have ih:=Cu b k (s.drop (i+1)) (by simp at h;omega);rw[Lib.splitK,(qF b s).2 i e,e,au (by simp)];simp only[qM,fE,eO,iJ,ig];rw[ih]
theorem MG(b:UInt8)(s:List UInt8):(splitL b s).length=Lib.count s [b]+1:=by
 have:∀(k:Nat) (s:List UInt8),Lib.count s [b]=k->(splitL b s).length=k+1:=by
  intro k
  induction k with
  | zero=>
    intro s h;rcases rP s [b] with e|⟨i,e⟩
    ·rw[(qF b s).1 e];rfl
    ·rw[Lib.count_hit (by simp) e]at h;omega
  | succ k ih=>
    intro s h;rcases rP s [b] with e|⟨i,e⟩
    ·rw[Lib.count_miss e]at h;omega
    ·rw[Lib.count_hit (by simp) e]at h;rw[(qF b s).2 i e,eO,ih _ (by simp at h;omega)]
 exact this _ s rfl
theorem pq(b:UInt8):∀s:List UInt8,(splitL b s).length<=s.length+1
 | []=>by simp[splitL]
 | c :: l=>by
   have:=pq b l
   rw[splitL];split
   ·simp;omega
   ·split
    ·simp
    ·rename_i e;rw[e]at this;simp at this ⊢;omega
theorem p9(b:UInt8):∀s:List UInt8,∀x∈splitL b s,x.length<=s.length
 | [],x,h=>by simp[splitL]at h;subst h;simp
 | c :: l,x,h=>by
   have ih:=p9 b l;rw[splitL]at h;split at h
   ·rcases mM.1 h with rfl|h
    ·simp
    ·have:=ih x h;simp;omega
   ·split at h
    ·simp at h;subst h;simp
    ·rename_i y r e;rw[e]at ih;rcases mM.1 h with rfl|h
     ·have:=ih y (by simp);simp;omega
     ·have:=ih x (by simp[h]);simp;omega
theorem xK(b:UInt8):∀(l:List UInt8) (c:UInt8),splitL b (l++[c])=if c=b then splitL b l++[[]] else (splitL b l).dropLast++[((splitL b l).getLast?).getD []++[c]]
 | [],c=>by by_cases h:c=b<;>simp[splitL,h]
 | x :: l,c=>by
   have ih:=xK b l c;have hne:=rQ b l;rw[List.cons_append,splitL,splitL,ih];by_cases hx:x=b
   ·rw[aj hx,aj hx];by_cases hc:c=b
    ·rw[aj hc,aj hc];rfl
    ·rw[au hc,au hc]
     cases e:splitL b l with
     | nil=>exact absurd e hne
     | cons y r=>simp[List.dropLast,List.getLast?_cons]
   ·rw[au hx,au hx]
    cases e:splitL b l with
    | nil=>exact absurd e hne
    | cons y r=>
      by_cases hc:c=b
      ·rw[aj hc,aj hc];rfl
      ·rw[au hc,au hc]
       cases r with
       | nil=>simp
       | cons z r=>simp[List.getLast?_cons]
def fD(s:List UInt8):List UInt8:=s.takeWhile (· != 32)
def eH(s:List UInt8):List UInt8:=(s.dropWhile (· != 32)).drop 1
theorem JJ:∀s:List UInt8,(Lib.index s [32]=-1->fD s=s/\eH s=[])/\∀i:Nat,Lib.index s [32]=i->fD s=s.take i/\eH s=s.drop (i+1)
 | []=>⟨λ_=>⟨rfl,rfl⟩,λi h=>by simp[Lib.index]at h⟩
 | c :: l=>by
   obtain⟨h1,h2⟩:=JJ l;by_cases hc:c=32
   ·subst hc;have e:Lib.index (32 :: l) [32]=0:=index_hit (by simp);refine⟨λh=>?_,λi h=>?_⟩
    ·rw[e]at h;cases h
    ·rw[e]at h;obtain rfl:i=0:=by omega
     simp[fD,eH]
   ·obtain⟨n1,n2⟩:=Bp (c:=c) (l:=l) (sub:=[32]) (by simp[List.isPrefixOf,Ne.symm hc]);have w1:fD (c :: l)=c :: fD l:=by simp[fD,hc]
    have w2:eH (c :: l)=eH l:=by simp[eH,hc]
    refine⟨λh=>?_,λi h=>?_⟩
    ·rw[w1,w2,(h1 (n1 h)).1,(h1 (n1 h)).2];exact⟨rfl,rfl⟩
    ·obtain⟨j,rfl,hj⟩:=n2 i h;rw[w1,w2,(h2 j hj).1,(h2 j hj).2];exact⟨rfl,rfl⟩
theorem Y9(s:List UInt8):(Lib.cut s [32]).1=fD s/\(Lib.cut s [32]).2.1=eH s:=by
 rcases rP s [32] with e|⟨i,e⟩
 ·obtain⟨h1,h2⟩:=(JJ s).1 e;unfold Lib.cut;rw[e,au (by omega),h1,h2];exact⟨rfl,rfl⟩
 ·obtain⟨h1,h2⟩:=(JJ s).2 i e;unfold Lib.cut;rw[e,aj (by omega),h1,h2];exact⟨rfl,rfl⟩
theorem Lc(s:List UInt8):(eH s).length<=s.length:=by
 unfold eH;rw[rX]
 have:=List.Sublist.length_le (List.dropWhile_sublist (l:=s) (· != (32:UInt8)))
 omega
def gU(b:UInt8):Bool:=decide (48<=b.toNat)&&decide (b.toNat<=57)
def nH(l:List UInt8):Bool:=(l.length==1 || (l.length==2&&l.head? != some 48))&&l.all gU
def eF(l:List UInt8):Option Nat:=if nH l then some (numOf l) else none
theorem AO(a:UInt8):eF [a]=if gU a then some (a.toNat-48) else none:=by simp[eF,nH,numOf]
theorem wH(a b:UInt8):eF [a,b]=if a≠48/\gU a=true/\gU b=true then some (10*(a.toNat-48)+(b.toNat-48)) else none:=by
 unfold eF
 have:nH [a,b]=true↔a≠48/\gU a=true/\gU b=true:=by simp[nH]
 by_cases h:a≠48/\gU a=true/\gU b=true
 ·rw[aj (this.2 h),aj h];simp[numOf]
 ·rw[au (λe=>h (this.1 e)),au h]
theorem xY{l:List UInt8}(h:l.length=0∨3<=l.length):eF l=none:=by
 have:nH l=false:=by unfold nH;rw[show (l.length==1)=false by simp;omega,show (l.length==2)=false by simp;omega];rfl
 rw[eF,this];rfl
theorem Jo{n:Nat}(h:n<100):eF (bT n)=some n:=by
 have:∀n∈List.range 100,eF (bT n)=some n:=by decide +kernel
 exact this n (Q6.2 h)
theorem rG{l:List UInt8}{n:Nat}(h:eF l=some n):n<100/\bT n=l:=by
 match l with
 | []=>cases h
 | [a]=>
   rw[AO]at h;split at h
   ·rename_i hd;cases h;simp only[gU,dh,rU]at hd;refine⟨by omega,?_⟩;unfold bT;rw[aj (by omega)];unfold kX;rw[show 48+(a.toNat-48)=a.toNat by omega];simp
   ·cases h
 | [a,b]=>
   rw[wH]at h;split at h
   ·rename_i hd;obtain⟨h0,h1,h2⟩:=hd;cases h;simp only[gU,dh,rU]at h1 h2;have ha:a.toNat≠48:=λe=>h0 (UInt8.toNat_inj.1 (by rw[e];rfl));refine⟨by omega,?_⟩;unfold bT;rw[au (by omega)];unfold kX;rw[show 48+(10*(a.toNat-48)+(b.toNat-48))/10=a.toNat by omega,show 48+(10*(a.toNat-48)+(b.toNat-48))%10=b.toNat by omega];simp
   ·cases h
 | a :: b :: c :: r=>rw[xY (.inr (by simp))]at h;cases h
theorem Az(b:UInt8):∀s:List UInt8,joinL [b] (splitL b s)=s
 | []=>rfl
 | c :: l=>by
   have ih:=Az b l;rw[splitL];by_cases hc:c=b
   ·rw[aj hc,jA _ _ _ (rQ b l),ih,hc];rfl
   ·rw[au hc]
    cases e:splitL b l with
    | nil=>exact absurd e (rQ b l)
    | cons y r=>
      rw[e]at ih;rw[<-ih]
      cases r with
      | nil=>rfl
      | cons z r=>rw[jA [b] (c :: y) (z :: r) (by simp),jA [b] y (z :: r) (by simp)];rfl
theorem UI{s:List UInt8}{t:aG}(hk:dG t=true)(hw:splitL 32 s=dB t):dQ s=some t:=
 oJ.2 ⟨hk,by rw[nk,<-hw,Az]⟩
theorem UE{s:List UInt8}{t:aG}(h:dQ s=some t):dG t=true/\splitL 32 s=dB t:=by obtain⟨h1,rfl⟩:=oJ.1 h;exact⟨h1,DN h1⟩
theorem nK{s:List UInt8}(h:∀t,dG t=true->splitL 32 s≠dB t):dQ s=none:=by
 cases e:dQ s with
 | none=>rfl
 | some t=>obtain⟨h1,h2⟩:=UE e;exact absurd h2 (h t h1)
def uH(ws:List (List UInt8))(os:List aV):Prop:=os.length<=ws.length/\∀(i:Nat) o,os[i]? =some o->∃w,ws[i]? =some w/\iy w=some o
theorem uH.nil(ws:List (List UInt8)):uH ws []:=⟨aT _,λi o h=>by simp at h⟩
theorem uH.push{ws:List (List UInt8)}{os:List aV}{w:List UInt8}{o:aV}(h:uH ws os)(hw:ws[os.length]? =some w)(ho:iy w=some o):uH ws (os++[o]):=by
 have hl:=(bG.1 hw).1;refine⟨by simp;omega,λi x hx=>?_⟩;rcases Nat.lt_trichotomy i os.length with hi|hi|hi
 ·rw[oK hi]at hx;exact h.2 i x hx
 ·subst hi;simp at hx;subst hx;exact⟨w,hw,ho⟩
 ·rw[agG (by omega),agI (by simp;omega)]at hx;cases hx
theorem uH.all{ws:List (List UInt8)}{os:List aV}(h:uH ws os)(hl:os.length=ws.length):ws=os.map uQ/\∀o∈os,iY o=true:=by
 refine⟨?_,λo ho=>?_⟩
 ·apply List.ext_getElem?;intro i;rw[jT]
  cases ho:os[i]? with
  | none=>
    rw[List.getElem?_eq_none_iff]at ho;rw[agI (by omega)];rfl
  | some o=>
    obtain⟨w,hw,hr⟩:=h.2 i o ho;rw[hw,<-(lI.1 hr).2];rfl
 ·obtain⟨i,hi,rfl⟩:=jq ho;obtain⟨w,_,hr⟩:=h.2 i _ (dJ hi)
  exact(lI.1 hr).1
theorem Uo{s w0 w1:List UInt8}{ws:List (List UInt8)}{t:aG}(hs:splitL 32 s=w0 :: w1 :: ws)(hw:splitL 32 s=dB t):w0=[115,kX t.az.toNat]/\w1=(if t.done then [111,107] else [111,102,102])/\ws=t.ops.map uQ:=by rw[hs,dB]at hw;injection hw with e1 hw;injection hw with e2 e3;exact⟨e1,e2,e3⟩
theorem Q9{c:UInt8}{t:aG}(hk:dG t=true)(h:c=kX t.az.toNat):eF [c]=some t.az.toNat:=by
 have:=kS hk
 rw[h,<-show bT t.az.toNat=[kX t.az.toNat] by unfold bT;rw[aj (by omega)]];exact Jo (by omega)
theorem UW{c:UInt8}{n:Nat}(h:eF [c]=some n):n<10/\c=kX n:=by
 have h1:=rG h;rw[AO]at h;split at h
 ·rename_i hd;cases h;simp only[gU,dh,rU]at hd;refine⟨by omega,?_⟩;unfold kX;rw[show 48+(c.toNat-48)=c.toNat by omega];simp
 ·cases h
theorem OA{s:List UInt8}{c:UInt8}{n:Nat}{d:Bool}{ws:List (List UInt8)}{os:List aV}(hs:splitL 32 s=[115,c] :: (if d then [111,107] else [111,102,102]) :: ws)(hc:eF [c]=some n)(h:uH ws os)(hl:os.length=ws.length)
 (hk:dG ⟨(n:Int),os,d⟩=true):dQ s=some ⟨(n:Int),os,d⟩:=by
 obtain⟨e1,e2⟩:=UW hc;refine UI hk ?_;rw[hs,dB,<-(h.all hl).1,e2];rfl
theorem GN{l:List (List UInt8)}{k:Nat}{x:List UInt8}(hk:0<k)(hx:l[k]? =some x)(sep:List UInt8):joinL sep (l.take (k+1))=joinL sep (l.take k)++sep++x:=by
 have hl:=(bG.1 hx).1;rw[ak hx];exact Bj sep _ _ (λh=>by
  have:=agB List.length h
  rw[eY]at this;simp only[iJ]at this
  omega)
theorem Eu{l:List (List UInt8)}{x:List UInt8}(hx:l[0]? =some x)(sep:List UInt8):joinL sep (l.take 1)=x:=by
 cases l with
 | nil=>cases hx
 | cons a r=>cases hx;simp[joinL]
theorem Qh{a b c d:UInt8}{r:List UInt8}{v:Int}(hv:∀n,n<100->d :: r=bT n->v=(n:Int)) :
 (iZ ⟨if a=119 then 2 else 1,(b.toNat:Int)-48,v⟩=a :: b :: c :: d :: r->iy (a :: b :: c :: d :: r)=some ⟨if a=119 then 2 else 1,(b.toNat:Int)-48,v⟩) /\
 (iZ ⟨if a=119 then 2 else 1,(b.toNat:Int)-48,v⟩≠a :: b :: c :: d :: r->iy (a :: b :: c :: d :: r)=none):=by
 constructor
 ·intro h;generalize (⟨if a=119 then 2 else 1,(b.toNat:Int)-48,v⟩:aV)=o at *;unfold iZ at h;split at h
  ·rename_i hk;exact lI.2 ⟨hk,h⟩
  ·cases h
 ·intro h
  cases e:iy (a :: b :: c :: d :: r) with
  | none=>rfl
  | some o=>
    exfalso;obtain⟨hk,he⟩:=lI.1 e;have k1:=jE hk;have k2:=lS hk;have he2:=he;unfold uQ at he2;injection he2 with e1 he2;injection he2 with e2 he2;injection he2 with e3 e4;have hb:b.toNat=48+o.key.toNat:=by rw[<-e2];exact qA (by omega)
    have hval:=hv o.value.toNat (by omega) e4.symm;have ho:o=⟨if a=119 then 2 else 1,(b.toNat:Int)-48,v⟩:=by
     refine aV.ext' ?_ ?_ ?_
     ·rw[<-e1];unfold bN jQ;rcases p8 hk with q|q<;>rw[q]<;>simp
     ·simp only;omega
     ·simp only;omega
    rw[<-ho,iZ,aj hk]at h;exact h he
theorem BO{l:List UInt8}(h:l.length<4):iy l=none:=xe λo _ e=>by
 have:=agB List.length e
 unfold uQ at this;simp only[eO]at this
 have:0<(bT o.value.toNat).length:=by unfold bT;split<;>simp
 omega
def tx(l:List UInt8):ByteArray:=⟨l.toArray⟩
theorem fA(l:List UInt8):(tx l).toList=l:=ByteArray.toList_mk l
theorem M4(l:List UInt8):(tx l).data.toList=l:=rfl
theorem dR(l:List UInt8):(tx l).size=l.length:=rfl
theorem adU(s:ByteArray):tx s.data.toList=s:=rfl
theorem abV{a b:List UInt8}(h:tx a=tx b):a=b:=by rw[<-fA a,<-fA b,h]
theorem abn(a b:List UInt8):tx a++tx b=tx (a++b):=ByteArray.mk_append_mk a b
theorem bX(a b:List UInt8)(h:a.length+b.length<=9223372036854775807)(w:World):(Op.stringOp .add (tx a) (tx b)).run Tryz.prog w=.ok (.string (tx (a++b))) w:=by rw[run_string_add_sum w (tx a) (tx b) h,abn]
theorem kE(n:Nat):(bT n).length<=2:=by unfold bT;split<;>simp
def encS(l:List UInt8)(_:Nat):Value:=.string (tx l)
theorem jG:(Tryz.prog.info? 9).map (λi=>(i.zero,i.size,i.bytes))=some (some (.string ⟨#[]⟩),1,16):=by kernel_rfl
theorem TI{E:TypeId}{α:Type}{enc:α->Nat->Value}(w:World)(x y:α):Row E 1 enc w.heap.size (w.alloc (.cells #[enc x 0,enc y 0] E)) (.slice (some ⟨w.heap.size,0,none⟩) 2 2) [x,y]:=
 ⟨rfl,.inr ⟨w.heap.size,2,_,rfl,av _,dP w _,av _,by simp[maxLen],rfl,rfl⟩⟩
theorem vR(o:aV):(uQ o).length<=5:=by have:=kE o.value.toNat;simp[uQ];omega
theorem qd(sep:List UInt8)(M:Nat):∀ws:List (List UInt8),(∀w∈ws,w.length<=M)->(joinL sep ws).length<=ws.length*(M+sep.length)
 | [],_=>by simp[joinL]
 | [x],h=>by have:=h x (by simp);simp[joinL];omega
 | x :: y :: r,h=>by have h1:=h x (by simp);have h2:=qd sep M (y :: r) (λw hw=>h w (by simp[hw]));rw[jA sep x (y :: r) (by simp)];simp only[dw,eO,Nat.add_mul]at h2 ⊢;omega
theorem lT{l:List UInt8}{k:Nat}{x:UInt8}(hx:l[k]? =some x)(j:Int)(hj:j=(k:Int))(W:World):(Instr.index 9 (.string (tx l)) (.int .i64 j)).run Tryz.prog W=.ok (.int .u8 (x.toNat:Int)) W:=by
 subst hj;have hl:=(bG.1 hx).1;rw[run_index_string W 9 (tx l) .i64 k mR,dif_pos ⟨by omega,by rw[dR];omega⟩];have e:(tx l)[(k:Int).toNat]'(by rw[dR];omega)=x:=by
  have:=(bG.1 hx).2
  rw[<-this];rfl
 rw[e]
theorem pG(l:List UInt8)(i j:Nat):(tx l).extract i j=tx ((l.take j).drop i):=by
 have h:((tx l).extract i j).data=(tx ((l.take j).drop i)).data:=by rw[ByteArray.data_extract];show (l.toArray).extract i j = _;apply Array.ext';simp[tx,List.extract_eq_drop_take];rw[List.drop_take]
 exact agB ByteArray.mk h
theorem Nr(l:List UInt8)(i:Nat):(tx l).extract i (tx l).size=tx (l.drop i):=by rw[pG,dR,bM]
theorem eT{w:World}{b:Nat}{u0 u1 u2:Value}(x0 x1 x2:Value)(h0:w.cell? ⟨b,0,none⟩=some u0)(h1:w.cell? ⟨b,1,none⟩=some u1)(h2:w.cell? ⟨b,2,none⟩=some u2) :
 (((w.setCell ⟨b,0,none⟩ x0).setCell ⟨b,1,none⟩ x1).setCell ⟨b,2,none⟩ x2).cell? ⟨b,0,none⟩=some x0/\(((w.setCell ⟨b,0,none⟩ x0).setCell ⟨b,1,none⟩ x1).setCell ⟨b,2,none⟩ x2).cell? ⟨b,1,none⟩=some x1/\(((w.setCell ⟨b,0,none⟩ x0).setCell ⟨b,1,none⟩ x1).setCell ⟨b,2,none⟩ x2).cell? ⟨b,2,none⟩=some x2:=by
 have n01:(⟨b,0,none⟩:Addr)≠⟨b,1,none⟩:=by simp
 have n02:(⟨b,0,none⟩:Addr)≠⟨b,2,none⟩:=by simp
 have n12:(⟨b,1,none⟩:Addr)≠⟨b,2,none⟩:=by simp
 have a0:=fJ h0 x0;have a1:=(aC n01 x0).trans h1;have a2:=(aC n02 x0).trans h2;have b0:=(aC n01.symm x1).trans a0;have b1:=fJ a1 x1;have b2:=(aC n12 x1).trans a2;exact⟨(aC n02.symm x2).trans b0,(aC n12.symm x2).trans b1,fJ b2 x2⟩
theorem SA{ops:List aV}{s:j3}{key:Int}(h:before ops key=none):mE ops s key=s key:=by
 unfold mE
 cases hl:gT ops key with
 | none=>rfl
 | some o=>
   obtain⟨h1,_,h3⟩:=lV hl;exact absurd h3 (Ep h h1)
def qN(m:pX):Prop:=∀(n:Nat) t,m.h[n]? =some t->∀key v,before t.ops key=some v->mE t.ops (m.kept n) key=v
theorem qN.own{m:pX}(h:qN m){n:Nat}{t:aG}(ht:m.h[n]? =some t)(key:Int):(before t.ops key).getD (m.kept n key)=mE t.ops (m.kept n) key:=by
 cases hb:before t.ops key with
 | none=>rw[SA hb];rfl
 | some v=>rw[h n t ht key v hb];rfl
theorem qN.start{p:List fI}:qN (iq p):=λn t ht key v hv=>by simp only[iq,jT]at ht;obtain⟨d,_,rfl⟩:=kL.1 ht;simp[GA]at hv
theorem qN.begin_{m:pX}(h:qN m)(n:Nat):qN (ay m n):=λi t ht key v hv=>by
 rw[oO]at ht;unfold ay;split
 ·rename_i h0;simp only[wZ];split
  ·rename_i e;subst e;rw[dV ht]at h0;rw[mZ h0,GA]at hv;cases hv
  ·exact h i t ht key v hv
 ·exact h i t ht key v hv
theorem qN.note{m:pX}(h:qN m){n:Nat}{o:aV}(d:Bool){v w:j3}:qN { jm m n (l9 m n o) d with vals:=v,dK:=w }:=λi t ht key x hx=>by
 simp only[jm]at ht ⊢;rw[iO]at ht;split at ht
 ·rename_i e;subst e;split at ht
  ·rename_i hlt;obtain⟨t0,ht0⟩:=ah hlt;cases ht;simp only[dV ht0]at hx ⊢;have hw:jQ (l9 m n o)=jQ o:=by unfold l9;split<;>rfl
   have hk:(l9 m n o).key=o.key:=by unfold l9;split<;>rfl
   rw[xw]at hx;unfold mE;rw[vI,hw,hk];rw[hk]at hx;by_cases e:key=o.key
   ·subst e;rw[aj rfl]at hx;cases hx;by_cases hwo:jQ o=true
    ·rw[aj ⟨hwo,rfl⟩];rfl
    ·rw[au (λc=>hwo c.1)];unfold l9;rw[au hwo,dV ht0];rfl
   ·rw[au e]at hx;rw[au (λc=>e c.2.symm)];exact h n t0 ht0 key x hx
  ·cases ht
 ·exact h i t ht key x hx
theorem qN.step{p:List fI}{m:pX}(h:qN m)(n:Nat):qN (stepM p m n):=by
 have h1:=h.begin_ n;unfold stepM;split
 ·exact h
 ·split
  ·unfold Dc;simp only;split
   ·exact h1.note true
   ·exact h1.note (v:=(ay m n).vals) (w:=(ay m n).dK) false
  ·exact h1.note (v:=(ay m n).vals) (w:=(ay m n).dK) false
theorem aaR{p:List fI}:∀k,k<=(eD p.length).length->qN (cz p k)
 | 0,_=>by simp only[cz,aaD,List.foldl_nil];exact qN.start
 | k+1,hk=>by
   obtain⟨n,hn⟩:=ah (show k<(eD p.length).length by omega);rw[nR hn]
   exact(aaR k (by omega)).step n
def xx(m:pX):Prop:=∀n x,m.began n x<=m.dK x
theorem xx.step{p:List fI}{m:pX}(h:xx m)(n:Nat):xx (stepM p m n):=by
 have h1:xx (ay m n):=λi x=>by
  unfold ay;split
  ·simp only[wZ];split
   ·exact Int.le_refl _
   ·exact h i x
  ·exact h i x
 unfold stepM;split
 ·exact h
 ·split
  ·unfold Dc;simp only;split
   ·exact λi x=>Int.le_trans (h1 i x) (Ac _ _ x).1
   ·exact h1
  ·exact h1
theorem aa1{p:List fI}:∀k,k<=(eD p.length).length->xx (cz p k)
 | 0,_=>λ_ _=>by simp[cz,iq,pU]
 | k+1,hk=>by
   obtain⟨n,hn⟩:=ah (show k<(eD p.length).length by omega);rw[nR hn]
   exact(aa1 k (by omega)).step n
def jr(m:pX)(n:Nat)(x:Int):Bool:=m.dK x != m.began n x
def EE(m:pX)(n:Nat)(ws:List aV):Bool:=ws.all λw=>!jr m n w.key
theorem Sq(m:pX)(n:Nat)(ws:List aV):EE m n ws=oF m.dK (m.began n) ws:=by unfold EE oF jr;congr 1;funext w;simp[bne]
theorem Sn{m:pX}{n:Nat}{ws:List aV}{j:Nat}{w:aV}(hw:ws[j]? =some w):EE m n (ws.take (j+1))=(EE m n (ws.take j) && !jr m n w.key):=by unfold EE;rw[ak hw,List.all_append];simp
theorem Uz(ws:List aV):∀(s:j3) (x:Int),iT s ws x=s x+(ws.filter λw=>decide (w.key=x)).length:=by
 unfold iT
 induction ws with
 | nil=>intro s x;simp
 | cons w ws ih=>
   intro s x;rw[uz,ih];by_cases h:w.key=x
   ·subst h;simp[j3.put];omega
   ·have h':¬x=w.key:=λe=>h e.symm;simp[j3.put,h,h']
theorem UF{m:pX}(hv:xx m)(n:Nat)(ws:List aV)(x:Int):(iT m.dK ws x != m.began n x)=(jr m n x || ws.any λw=>w.key==x):=by
 have h1:=hv n x;rw[Uz];unfold jr
 cases h:ws.any (λw=>w.key==x) with
 | true=>
   have hp:0<(ws.filter λw=>decide (w.key=x)).length:=by obtain⟨w,hw,he⟩:=jF.1 h;exact sF (nT.2 ⟨hw,by simpa using he⟩)
   rw[Bool.or_true,bne_iff_ne];omega
 | false=>
   have h0:(ws.filter λw=>decide (w.key=x))=[]:=by rw[List.filter_eq_nil_iff];intro w hw e;rw[List.any_eq_false]at h;exact h w hw (by simpa using e)
   rw[h0,Bool.or_false];simp
def lF(m:pX)(n:Nat)(ws:List aV)(x:Int):Bool:=jr m n x || ws.any λw=>w.key==x
theorem Rs(m:pX)(n:Nat):lF m n []=jr m n:=by funext x;simp[lF]
theorem Qr{m:pX}{n:Nat}{ws:List aV}{j:Nat}{w:aV}(hw:ws[j]? =some w)(x:Int):lF m n (ws.take (j+1)) x=(if x=w.key then true else lF m n (ws.take j) x):=by
 unfold lF;rw[ak hw,List.any_append];by_cases h:x=w.key
 ·subst h;simp
 ·have h':(w.key==x)=false:=by rw[fU];exact λe=>h e.symm
  simp[h,h']
theorem Qy{m:pX}{n:Nat}{t:aG}(ht:m.h[n]? =some t)(h0:t.ops.length=0)(x:Int):jr (ay m n) n x=false:=by obtain⟨_,h2⟩:=yl ht h0;unfold jr;rw[h2,lM];simp[wZ]
theorem OM{m:pX}{n i:Nat}(hi:i≠n)(x:Int):jr (ay m n) i x=jr m i x:=by
 unfold jr;rw[lM];unfold ay;split
 ·simp[wZ,hi]
 ·rfl
theorem Lx(d:Nat)(hd:d<10)(x:Int)(hx:x=48+(d:Int))(w:World):(convert 22 9 (.slice (some ⟨w.heap.size,0,none⟩) 1 1)).run Tryz.prog (w.alloc (.cells #[.int .u8 x] 5))=.ok (.string (tx [kX d])) (w.alloc (.cells #[.int .u8 x] 5)):=
 run_convert_bytes_back _ _ _ 5 _ 1 [kX d] Tryz.underlying22 Tryz.underlying5 mR (λj hj=>by
  obtain rfl:j=0:=by simpa using hj
  simp only[List.getElem_cons_zero,qA hd];have e:((48+d:Nat):Int)=x:=by omega
  rw[e];exact aF rfl)
theorem gL(x:Int)(w:World)(h0:0<=x)(h1:x<100) :
 Calls Tryz.prog 53 #[.int .i64 x] w λe w'=>e=.returned (.string (tx (bT x.toNat)))/\Ext w w':=by
 obtain⟨n,rfl⟩:=dZ h0;rw[qM];have hd1:=Lx (n%10) (by omega) (48+(n:Int)%10) (by omega);have hd2:=Lx (n/10) (by omega) (48+(n:Int)/10%10) (by omega);have a1:=bX [kX (n/10)] [kX (n%10)] (by simp);have HN:Hid (bT n=if n<10 then [kX n] else [kX (n/10),kX (n%10)]):=rfl;go_enter Tryz.func53,Tryz.ntmps53;go_wp2;go_loopw [0,3] (λa o wr=>Ext w wr/\∃(m:Nat) (l:List UInt8),a=.int .i64 (m:Int)/\o=.string (tx l)/\Hid ((m=n/\l=[kX (n%10)])∨(10<=n/\m=n/10/\l=bT n))) (λa _ _=>(intOf a).toNat)
 case atStart=>exact⟨(af _).alloc _,n,_,rfl,rfl,.inl ⟨rfl,rfl⟩⟩
 case round=>
  obtain⟨hb,m,l,rfl,rfl,HC⟩:=hrel;rcases HC.out with ⟨rfl,rfl⟩|⟨h10,rfl,rfl⟩
  ·by_cases h9:9<m
   ·go_wp2;go_roundw;case rel=>exact⟨(hb.alloc _),m/10,_,by go_num,rfl,.inr ⟨by omega,rfl,by rw[HN.out,au (by omega)]⟩⟩
    case measure=>simp[intOf];omega
   ·go_wp2;go_returns;exact⟨by rw[HN.out,aj (by omega),agJ (by omega)];rfl,hb⟩
  ·go_wp2;go_returns;exact⟨rfl,hb⟩
theorem Eh(o:aV)(w:World) :
 Calls Tryz.prog 117 #[iG o] w λe w'=>e=.returned (.string (tx (iZ o)))/\Ext w w':=by
 obtain⟨a,b,c⟩:=o;show Calls Tryz.prog 117 #[.agg #[.int .i64 a,.int .i64 b,.int .i64 c]] w _
 cases h:iY ⟨a,b,c⟩ with
 | false=>
   have ht:iZ ⟨a,b,c⟩=[]:=by simp[iZ,h]
   rw[ht];clear ht;go_enter Tryz.func117,Tryz.ntmps117;go_wp2_with (go_at_call 81;refine(rz ⟨a,b,c⟩ _).mono ?_;rw[h];rintro e w1 ⟨rfl,b1⟩)
   go_returns;exact⟨rfl,((af _).alloc _).trans b1⟩
 | true=>
   have hk:=p8 h;have h0:0<=b/\b<100:=by have:=jE h;simp only at this;omega
   have h1:0<=c/\c<100:=by have:=lS h;simp only at this;omega
   have hnk:bT b.toNat=[kX b.toNat]:=by have:=jE h;simp only at this;unfold bT;rw[aj (by omega)]
   have l1:=kE b.toNat;have l2:=kE c.toNat;have ht:∀l,bN ⟨a,b,c⟩=l->iZ ⟨a,b,c⟩=[l]++bT b.toNat++[61]++bT c.toNat:=λl hl=>by rw[iZ,aj h,uQ,hl,hnk];rfl
   have a1:=λl:UInt8=>bX [l] (bT b.toNat) (by simp;omega);have a2:∀(l:UInt8) w,(Op.stringOp .add (tx ([l]++bT b.toNat)) ⟨#[61]⟩).run Tryz.prog w = _:=λl=>bX _ [61] (by simp;omega);have a3:=λl:UInt8=>bX ([l]++bT b.toNat++[61]) (bT c.toNat) (by simp;omega);obtain⟨l,hl⟩:∃l,bN ⟨a,b,c⟩=l:=⟨_,rfl⟩;replace ht:=ht l hl;replace a1:=a1 l;replace a2:=a2 l;replace a3:=a3 l;rw[ht];have HL:=aa hl;generalize tx ([l]++bT b.toNat++[61]++bT c.toNat)=y3 at *;generalize tx ([l]++bT b.toNat++[61])=y2 at *;generalize tx ([l]++bT b.toNat)=y1 at *;obtain⟨z2,hz2⟩:∃z,tx (bT b.toNat)=z:=⟨_,rfl⟩;obtain⟨z3,hz3⟩:∃z,tx (bT c.toNat)=z:=⟨_,rfl⟩;rw[hz2]at a1;rw[hz3]at a3;have HB:=aa (λW=>gL b W h0.1 h0.2);have HC:=aa (λW=>gL c W h1.1 h1.2);rw[hz2]at HB;rw[hz3]at HC;clear hz2 hz3 l1 l2 ht hnk hl;rcases hk with hk|hk<;>(
    simp only at hk;subst hk;have hl:=HL.out.symm;simp only[bN,jQ]at hl
    first
    | (have hl2:l=114:=hl
       subst hl2;have a4:(⟨#[114,119]⟩:ByteArray).extract 0 1=tx [114]:=rfl;have HA:=aa a4)
    | (have hl2:l=119:=hl
       subst hl2;have a4:(⟨#[114,119]⟩:ByteArray).extract 1 2=tx [119]:=rfl;have HA:=aa a4)
    clear hl;obtain⟨z1,hz1⟩:∃z,tx [_]=z:=⟨_,HA.out.symm⟩;rw[<-HA.out]at a1;clear a4 hz1;have hw0:IntKind.i64.wrap 0=0:=by decide
    have hw1:IntKind.i64.wrap 1=1:=by decide
    go_enter Tryz.func117,Tryz.ntmps117;go_wp2_with (go_at_call 81;refine(rz ⟨_,b,c⟩ _).mono ?_;rw[h];rintro e w1 ⟨rfl,b1⟩)
    have c0:w1.cell? ⟨w.heap.size,0,none⟩=some (.int .i64 _):=b1.cell (aF rfl);have c1:w1.cell? ⟨w.heap.size,1,none⟩=some (.int .i64 b):=b1.cell (aF rfl);have c2:w1.cell? ⟨w.heap.size,2,none⟩=some (.int .i64 c):=b1.cell (aF rfl)
    first
    | go_region_held3 (λW=>W.cell? ⟨w.heap.size,0,none⟩=some (.int .i64 1)/\W.cell? ⟨w.heap.size,1,none⟩=some (.int .i64 b)/\W.cell? ⟨w.heap.size,2,none⟩=some (.int .i64 c)) (exact⟨by assumption,by assumption,by assumption⟩) ((go_at_call 53;first|(refine(HB.out _).mono ?_;clear HB;rintro e w2 ⟨rfl,b2⟩;have d0:=b2.cell c0;have d1:=b2.cell c1;have d2:=b2.cell c2)|(refine(HC.out _).mono ?_;clear HC;rintro e w3 ⟨rfl,b3⟩;have f0:=b3.cell d0;have f1:=b3.cell d1;have f2:=b3.cell d2)))
    | go_region_held3 (λW=>W.cell? ⟨w.heap.size,0,none⟩=some (.int .i64 2)/\W.cell? ⟨w.heap.size,1,none⟩=some (.int .i64 b)/\W.cell? ⟨w.heap.size,2,none⟩=some (.int .i64 c)) (exact⟨by assumption,by assumption,by assumption⟩) ((go_at_call 53;first|(refine(HB.out _).mono ?_;clear HB;rintro e w2 ⟨rfl,b2⟩;have d0:=b2.cell c0;have d1:=b2.cell c1;have d2:=b2.cell c2)|(refine(HC.out _).mono ?_;clear HC;rintro e w3 ⟨rfl,b3⟩;have f0:=b3.cell d0;have f1:=b3.cell d1;have f2:=b3.cell d2)))
    go_wp2;go_returns;exact⟨rfl,(((af _).alloc _).trans b1).drew.trans (b2.trans b3)⟩)
def levL(n:Nat):List UInt8:=match n with
 | 0=>[110,111,110,101]
 | 1=>[119,114,105,116,101,115]
 | 2=>[102,108,111,119,115]
 | 3=>[115,105,110,103,108,101,115]
 | _=>[97,108,108]
def DT:List UInt8:=[110,111]
def Fe:List UInt8:=[111,107]
def nC:List UInt8:=[119,104,97,116]
def Gu:List UInt8:=[101,109,112,116,121]
def Rm(l:List UInt8):List UInt8:=if l=[] then Gu else l
def numsL(xs:List Int):List UInt8:=joinL [32] (xs.map λx=>bT x.toNat)
def xG(p:List fI)(o:aV):List fI:=p.dropLast++[⟨(p.getLast?.getD default).az,(p.getLast?.getD default).steps++[o]⟩]
def Ie(w:List UInt8):Bool:=w.getLast? == some 59
def xP(w:List UInt8):List UInt8:=if Ie w then w.dropLast else w
def kP(out:List fI)(fresh:Bool)(a b:UInt8):Option (List fI):=
 if gU b=true/\out.length<=4 then
  if fresh then (if a=115 then some (out++[⟨((b.toNat-48:Nat):Int),[]⟩]) else none)
  else if a=114∨a=119 then some (xG out ⟨if a=119 then 2 else 1,((b.toNat-48:Nat):Int),0⟩) else none
 else none
def rpStep(st:List fI × Bool)(w:List UInt8):Option (List fI × Bool):=
 match xP w with
 | [a,b]=>(kP st.1 st.2 a b).map λp=>(p,Ie w)
 | _=>none
def wX(ws:List (List UInt8))(k:Nat):Option (List fI × Bool):=(ws.take k).foldlM rpStep ([],true)
theorem yR{ws:List (List UInt8)}{k:Nat}{w:List UInt8}(hw:ws[k]? =some w):wX ws (k+1)=(wX ws k).bind λst=>rpStep st w:=by
 unfold wX;rw[ak hw,List.foldlM_append]
 cases List.foldlM rpStep ([],true) (ws.take k) with
 | none=>rfl
 | some st=>simp[List.foldlM]
theorem aaa{ws:List (List UInt8)}{k j:Nat}(hk:k<=j)(h:wX ws k=none)(hj:j<=ws.length):wX ws j=none:=by
 induction j with
 | zero=>obtain rfl:k=0:=by omega
         exact h
 | succ j ih=>
   by_cases e:k=j+1
   ·exact e▸h
   ·obtain⟨w,hw⟩:=ah (show j<ws.length by omega);rw[yR hw,ih (by omega) (by omega)];rfl
theorem Gv(b:UInt8):∀x y:List UInt8,splitL b (x++b :: y)=splitL b x++splitL b y
 | [],y=>by simp[splitL]
 | c :: x,y=>by
   rw[List.cons_append,splitL,splitL,Gv b x y];by_cases hc:c=b
   ·rw[aj hc,aj hc];rfl
   ·rw[au hc,au hc]
    cases e:splitL b x with
    | nil=>exact absurd e (rQ b x)
    | cons z r=>rfl
theorem LK{n:Nat}(h:n<10):gU (kX n)=true/\(kX n).toNat-48=n:=by
 have:=qA h
 unfold gU;rw[this];exact⟨by simp;omega,by omega⟩
theorem Um(o:aV):mg o=[bN o,kX o.key.toNat]:=rfl
theorem Qu{a b:UInt8}(h:b≠59):Ie [a,b]=false/\xP [a,b]=[a,b]:=by
 have:Ie [a,b]=false:=by simp[Ie,h]
 exact⟨this,by rw[xP,this];rfl⟩
theorem Rn(a b:UInt8):Ie [a,b,59]=true/\xP [a,b,59]=[a,b]:=⟨rfl,rfl⟩
theorem Uf{out:List fI}{o:aV}(ho:gq o=true)(hl:out.length<=4):kP out false (bN o) (kX o.key.toNat)=some (xG out o):=by
 have hk:=jy ho;have hd:=LK (n:=o.key.toNat) (by omega);unfold kP;rw[aj ⟨hd.1,hl⟩,hd.2];simp only[Bool.false_eq_true,if_false];have hv:=mV ho;obtain⟨k,key,value⟩:=o;simp only at hv hk ⊢;subst hv;rcases kF ho with e|e
 ·simp only at e;subst e;rw[aj (.inl rfl),show bN ⟨1,key,0⟩=114 from rfl,au (by decide),Int.toNat_of_nonneg hk.1]
 ·simp only at e;subst e;rw[aj (.inr rfl),show bN ⟨2,key,0⟩=119 from rfl,aj rfl,Int.toNat_of_nonneg hk.1]
theorem mh(out:List fI)(s:Int)(l:List aV)(o:aV):xG (out++[⟨s,l⟩]) o=out++[⟨s,l++[o]⟩]:=by simp[xG]
theorem G9{out:List fI}(hl:out.length<=3)(s:Int):∀(os:List aV) (l:List aV),(∀o∈os,gq o=true)->(os.map mg).foldlM rpStep (out++[⟨s,l⟩],false)=some (out++[⟨s,l++os⟩],false)
 | [],l,_=>by simp
 | o :: os,l,h=>by
   have ho:=h o (by simp);have hk:=jy ho;have hb:kX o.key.toNat≠59:=Bc (by omega) (.inr (by decide));obtain⟨h1,h2⟩:=Qu (a:=bN o) hb;have e:rpStep (out++[⟨s,l⟩],false) (mg o)=some (out++[⟨s,l++[o]⟩],false):=by rw[rpStep,Um,h2,h1];simp only[Uf ho (out:=out++[⟨s,l⟩]) (by simp;omega),mh,Option.map_some]
   rw[qc,List.foldlM_cons,e];simp only[Option.bind_eq_bind,Option.bind_some];rw[G9 hl s os (l++[o]) (λo' ho'=>h o' (by simp[ho'])),jM];rfl
theorem TS{out:List fI}(hl:out.length<=3){d:fI}(hd:dm d=true):rpStep (out,true) [115,kX d.az.toNat]=some (out++[⟨d.az,[]⟩],false):=by
 have hs:=kD hd;have hb:kX d.az.toNat≠59:=Bc (by omega) (.inr (by decide));obtain⟨h1,h2⟩:=Qu (a:=115) hb;have hdg:=LK (n:=d.az.toNat) (by omega);rw[rpStep,h2,h1];have e:kP out true 115 (kX d.az.toNat)=some (out++[⟨d.az,[]⟩]):=by unfold kP;rw[aj ⟨hdg.1,by omega⟩,aj rfl,aj rfl,hdg.2,Int.toNat_of_nonneg hs.1]
 simp only[e,Option.map_some]
theorem Xv{out:List fI}(hl:out.length<=3){d:fI}(hd:dm d=true):(dM d).foldlM rpStep (out,true)=some (out++[d],false):=by rw[dM,List.foldlM_cons,TS hl hd];simp only[Option.bind_eq_bind,Option.bind_some];rw[G9 hl d.az d.steps [] (λo ho=>gN hd ho)];rfl
theorem UQ{out:List fI}(hl:out.length<=3){d:fI}(hd:dm d=true):(splitL 32 (fo d++[59])).foldlM rpStep (out,true)=some (out++[d],true):=by
 have hlen:=iN hd;obtain⟨os,o,he⟩:∃os o,d.steps=os++[o]:=⟨d.steps.dropLast,d.steps.getLast (by intro e;rw[e]at hlen;simp at hlen),(List.dropLast_concat_getLast _).symm⟩;have yZ:∀x∈d.steps,gq x=true:=λx hx=>gN hd hx;have hw:splitL 32 (fo d++[59])=[115,kX d.az.toNat] :: os.map mg++[mg o++[59]]:=by rw[xK,au (by decide),ow hd,dM,he,rR,qc,kN,<-List.cons_append,List.dropLast_concat,List.getLast?_concat];rfl
 rw[he]at yZ;have ho:=yZ o (by simp);rw[hw,List.foldlM_append,List.foldlM_cons,TS hl hd];simp only[Option.bind_eq_bind,Option.bind_some];rw[G9 hl d.az os [] (λx hx=>yZ x (by simp[hx]))];obtain⟨h1,h2⟩:=Rn (bN o) (kX o.key.toNat);have e:rpStep (out++[⟨d.az,[]++os⟩],false) (mg o++[59])=some (out++[⟨d.az,os++[o]⟩],true):=by rw[rpStep,show mg o++[59]=[bN o,kX o.key.toNat,59] from rfl,h2,h1];simp only[List.nil_append,Uf ho (out:=out++[⟨d.az,os⟩]) (by simp;omega),mh,Option.map_some]
 simp only[Option.bind_some,List.foldlM_cons,List.foldlM_nil,e,Option.bind_eq_bind];rw[<-he];rfl
theorem TQ:∀(p out:List fI),p≠[]->out.length+p.length<=4->(∀d∈p,dm d=true)->(splitL 32 (jP p)).foldlM rpStep (out,true)=some (out++p,false)
 | [],_,h,_,_=>absurd rfl h
 | [d],out,_,hl,h=>by have hd:=h d (by simp);rw[show jP [d]=fo d from rfl,ow hd];exact Xv (by simp at hl;omega) hd
 | d :: e :: p,out,_,hl,h=>by
   have hd:=h d (by simp);have hp:jP (d :: e :: p)=(fo d++[59])++32 :: jP (e :: p):=by unfold jP;rw[qc,jA _ _ _ (by simp)];simp
   rw[hp,Gv,List.foldlM_append,UQ (by simp at hl;omega) hd];simp only[Option.bind_eq_bind,Option.bind_some];rw[TQ (e :: p) (out++[d]) (by simp) (by simp at hl ⊢;omega) (λx hx=>h x (by simp only[mM]at hx ⊢;exact .inr hx))];simp
theorem KJ{p:List fI}{s:List UInt8}(hp:eu p=true)(hn:p≠[])(hs:jP p=s):wX (splitL 32 s) (splitL 32 s).length=some (p,false):=by unfold wX;rw[bM,<-hs,TQ p [] hn (by have:=jW hp;simpa using this) (λd hd=>dO hp hd)];rfl
theorem Yd{ws:List (List UInt8)}:∀k,k<=ws.length->∀st,wX ws k=some st->st.1.length<=5/\(∀d∈st.1,d.steps.length<=k)/\(st.2=false->st.1≠[]):=by
 intro k
 induction k with
 | zero=>intro _ st h;cases h;exact⟨by simp,λd hd=>by simp at hd,λe=>by cases e⟩
 | succ k ih=>
   intro hk st h;obtain⟨w,hw⟩:=ah (show k<ws.length by omega);rw[yR hw]at h;obtain⟨s0,h0,h1⟩:=Option.bind_eq_some_iff.1 h;obtain⟨i1,i2,i3⟩:=ih (by omega) s0 h0;unfold rpStep at h1;split at h1
   ·obtain⟨p,hp,rfl⟩:=kL.1 h1;unfold kP at hp;split at hp
    ·rename_i hc;split at hp
     ·split at hp
      ·cases hp;refine⟨by simp;omega,λd hd=>?_,λ_=>by simp⟩;rcases iR.1 hd with hd|hd
       ·have:=i2 d hd;omega
       ·simp at hd;subst hd;simp
      ·cases hp
     ·rename_i hf;split at hp
      ·cases hp;have hne:=i3 (by simpa using hf);unfold xG;refine⟨by simp;omega,λd hd=>?_,λ_=>by simp⟩;rcases iR.1 hd with hd|hd
       ·have:=i2 d (List.dropLast_subset _ hd);omega
       ·simp only[pF]at hd;subst hd;obtain⟨x,hx⟩:∃x,s0.1.getLast? =some x:=⟨s0.1.getLast hne,List.getLast?_eq_some_getLast hne⟩;have hm:x∈s0.1:=List.mem_of_getLast? hx
        have:=i2 x hm
        rw[hx]
        simp;omega
      ·cases hp
    ·cases hp
   ·cases h1
section
def Ex(rb:Nat)(w w':World):Prop:=w.grownBy w' (some rb)
theorem Ex.size{rb:Nat}{w w':World}(h:Ex rb w w'):w.heap.size<=w'.heap.size:=World.grownBy.size h
theorem Ex.refl(rb:Nat)(w:World):Ex rb w w:=⟨rfl,rfl,rfl,av _,λ_ _ _=>rfl⟩
theorem Ex.trans{rb:Nat}{a b c:World}(h:Ex rb a b)(k:Ex rb b c):Ex rb a c:=
 ⟨(World.grownBy.os k).trans (World.grownBy.os h),(World.grownBy.tape k).trans (World.grownBy.tape h),(World.grownBy.output k).trans (World.grownBy.output h),aX h.size k.size,λi hi hn=>(World.grownBy.block k i (bR hi h.size) hn).trans (World.grownBy.block h i hi hn)⟩
theorem Ex.bK{rb:Nat}{w w':World}(h:Ext w w'):Ex rb w w':=⟨Below.os h,Below.tape h,Below.output h,Ext.size h,λk hk _=>Below.block h k hk⟩
theorem Ex.ext{rb:Nat}{a b c:World}(h:Ex rb a b)(k:Ext b c):Ex rb a c:=h.trans (Ex.bK k)
theorem Ex.alloc{rb:Nat}{a b:World}(h:Ex rb a b)(o:Obj):Ex rb a (b.alloc o):=h.ext ((af b).alloc o)
theorem Ex.setCell{rb:Nat}{a b:World}(h:Ex rb a b)(o:Nat)(u:Value):Ex rb a (b.setCell ⟨rb,o,none⟩ u):=
 h.trans ⟨rfl,rfl,rfl,by simp[World.setCell],λk _ hn=>Below.heap_setCell _ _ _ _ (λe=>hn (by simp at e;rw[e]))⟩
theorem Ex.cell{rb:Nat}{w w':World}(h:Ex rb w w'){p:Addr}{v:Value}(hc:w.cell? p=some v)(hne:p.block≠rb):w'.cell? p=some v:=
 World.grownBy.cell h hc (by simpa using hne)
def Off(rb:Nat)(v:Value):Prop:=∀a n c,v=.slice (some a) n c->0<n->a.block≠rb
def Under(rb:Nat)(v:Value):Prop:=∀a n c,v=.slice (some a) n c->0<n->a.block<rb
theorem Under.off{rb:Nat}{v:Value}(h:Under rb v):Off rb v:=λa n c hv hn e=>by have:=h a n c hv hn;omega
theorem aL.off{α:Type}{m rb:Nat}{enc:α->Nat->Value}{w w':World}{v:Value}{xs:List α}(h:aL m enc w v xs)(hx:Ex rb w w')(ho:Off rb v):aL m enc w' v xs:=by obtain⟨A,c,hA,h⟩:=h;refine⟨A,c,hA,λhn=>?_⟩;obtain⟨b,off,hb,hlt,hc⟩:=h hn;refine⟨b,off,hb,bR hlt hx.size,λi x hi j hj=>hx.cell (hc i x hi j hj) ?_⟩;subst hb;exact ho ⟨b,off,none⟩ _ _ hA hn
theorem oZ.off{α:Type}{rb:Nat}{enc:α->Value}{w w':World}{v:Value}{xs:List α}(h:oZ enc w v xs)(hx:Ex rb w w')(ho:Off rb v):oZ enc w' v xs:=by obtain⟨A,c,hA,h⟩:=h;refine⟨A,c,hA,λhn=>?_⟩;obtain⟨b,off,hb,hlt,hc⟩:=h hn;refine⟨b,off,hb,bR hlt hx.size,λi x hi=>hx.cell (hc i x hi) ?_⟩;subst hb;exact ho ⟨b,off,none⟩ _ _ hA hn
theorem Own.off{lo rb:Nat}{w:World}{v:Value}(h:Own lo w v)(hl:rb<lo):Off rb v:=λa n c hv hn e=>by
 have:=(h a n c hv hn).1
 omega
theorem Own.ex{lo rb:Nat}{w w':World}{v:Value}(h:Own lo w v)(hx:Ex rb w w')(hl:rb<lo):Own lo w' v:=λa n c hv hn=>by obtain⟨h1,h2,h3⟩:=h a n c hv hn;refine⟨h1,bR h2 hx.size,λi=>?_⟩;rw[<-h3 i];exact World.frozen?_of_block (a:=⟨a.block,i,none⟩) (World.grownBy.block hx a.block h2 (by simp;omega))
theorem Row.ex{α:Type}{e:TypeId}{m rb:Nat}{enc:α->Nat->Value}{base:Nat}{w w':World}{v:Value}{xs:List α}(h:Row e m enc base w v xs)(hx:Ex rb w w')(hl:rb<base):Row e m enc base w' v xs:=by
 refine World.ownsRow.kept (row:=some rb) h hx ?_
 cases hv:v.ownBlock with
 | none=>exact .inl rfl
 | some k=>
   right
   have:=h.block k hv
   intro e;injection e with e;omega
theorem Ext.ex{rb:Nat}{w w1 w2:World}(h:Ext w w1)(hx:Ex rb w1 w2)(hl:w.heap.size<=rb):Ext w w2:=Ext.grown h hx (λk hk=>by injection hk with hk;omega)
def Nk(x:Int):Value:=.int .u8 x
def JL(B:Nat)(w:World)(rb m:Nat):Prop:=
 ∃(A:Option Addr) (xs:List Int) (c p:Nat) (T:TypeId),w.heap[rb]? =some (.cells #[.slice A xs.length c,.int .i64 (p:Int)] T (0,0))/\p<=m/\oZ Nk w (.slice A xs.length c) xs/\(∀x∈xs,0<=x/\x<=255)/\xs.length<=2000/\Under B (.slice A xs.length c)/\B<=rb
def Rd(w:World)(rb m:Nat):Prop:=JL rb w rb m
theorem JL.lt{B:Nat}{w:World}{rb m:Nat}(h:JL B w rb m):rb<w.heap.size:=by
 obtain⟨A,xs,c,p,T,h,_⟩:=h
 exact(fF.1 h).1
theorem JL.mono{B:Nat}{w:World}{rb m m':Nat}(h:JL B w rb m)(hm:m<=m'):JL B w rb m':=by obtain⟨A,xs,c,p,T,h1,h2,h3⟩:=h;exact⟨A,xs,c,p,T,h1,aX h2 hm,h3⟩
theorem JL.rd{B:Nat}{w:World}{rb m:Nat}(h:JL B w rb m):Rd w rb m:=by obtain⟨A,xs,c,p,T,h1,h2,h3,h4,h5,h6,h7⟩:=h;exact⟨A,xs,c,p,T,h1,h2,h3,h4,h5,λa n c hv hn=>bR (h6 a n c hv hn) h7,av _⟩
theorem JL.ext{B:Nat}{w w':World}{rb m:Nat}(h:JL B w rb m)(hx:Ext w w'):JL B w' rb m:=by have hl:=h.lt;obtain⟨A,xs,c,p,T,h1,h2,h3,h4⟩:=h;exact⟨A,xs,c,p,T,(Below.block hx rb hl).trans h1,h2,h3.ext hx,h4⟩
theorem JL.grown{B:Nat}{w w':World}{rb m:Nat}{row:Option Nat}(h:JL B w rb m)(hg:w.grownBy w' row)(hr:∀k,row=some k->B<=k/\k≠rb):JL B w' rb m:=by have hl:=h.lt;obtain⟨A,xs,c,p,T,h1,h2,⟨A',c',hA,hs⟩,h4,h5,h6⟩:=h;injection hA with e1 e2 e3;subst e1 e3;refine⟨A,xs,c,p,T,(hg.block rb hl (λe=>(hr rb e.symm).2 rfl)).trans h1,h2,⟨A,c,rfl,λhn=>?_⟩,h4,h5,h6⟩;obtain⟨b,off,hb,hlt,hc⟩:=hs hn;refine⟨b,off,hb,bR hlt hg.size,λi x hx=>hg.cell (hc i x hx) (λe=>?_)⟩;have h7:=(hr b e.symm).1;have h8:=h6.1 ⟨b,off,none⟩ _ _ (by rw[hb]) hn;simp at h8;omega
theorem Rd.lt{w:World}{rb m:Nat}(h:Rd w rb m):rb<w.heap.size:=JL.lt h
theorem Rd.mono{w:World}{rb m m':Nat}(h:Rd w rb m)(hm:m<=m'):Rd w rb m':=JL.mono h hm
theorem Rd.ext{w w':World}{rb m:Nat}(h:Rd w rb m)(hx:Ext w w'):Rd w' rb m:=JL.ext h hx
theorem Rd.grown{w w':World}{rb m:Nat}{row:Option Nat}(h:Rd w rb m)(hg:w.grownBy w' row)(hr:∀k,row=some k->rb<k):Rd w' rb m:=
 JL.grown h hg (λk hk=>by have:=hr k hk;omega)
theorem Ex.grown{rb:Nat}{w0 w w':World}{row:Option Nat}(h:Ex rb w0 w)(hg:w.grownBy w' row)(hr:∀k,row=some k->w0.heap.size<=k):Ex rb w0 w':=
 ⟨hg.os.trans (World.grownBy.os h),hg.tape.trans (World.grownBy.tape h),hg.output.trans (World.grownBy.output h),aX h.size hg.size,
  λi hi hn=>(hg.block i (bR hi h.size) (λe=>by have:=hr i e.symm;omega)).trans (World.grownBy.block h i hi hn)⟩
theorem Rd.alloc{w:World}{rb m:Nat}(h:Rd w rb m)(o:Obj):Rd (w.alloc o) rb m:=h.ext ((af w).alloc o)
theorem Rd.drew{w:World}{rb m:Nat}(h:Rd w rb m):Rd w.drew rb m:=h.ext ((af w).drew)
def ZP(B:Nat)(n:Int)(rb m:Nat)(w:World)(e:Ending)(w':World):Prop:=∃k:Int,e=.returned (.int .i64 k)/\0<=k/\k<n/\JL B w' rb (m+1)/\Ex rb w w'
def aco(n:Int)(rb m:Nat)(w:World)(e:Ending)(w':World):Prop:=∃k:Int,e=.returned (.int .i64 k)/\0<=k/\k<n/\Rd w' rb (m+1)/\Ex rb w w'
def acu(rb m:Nat)(w:World)(e:Ending)(w':World):Prop:=∃k:Bool,e=.returned (.bool k)/\Rd w' rb (m+1)/\Ex rb w w'
theorem UC(x:Nat)(hx:x<9223372036854775808):bits .xor .i64 (x:Int) ((x:Int)/64)=((x ^^^ x/64:Nat):Int):=by
 have h1:x/64<2 ^ 63:=by omega
 have hx':x ^^^ x/64<2 ^ 63:=Nat.xor_lt_two_pow (by omega) h1;have e:((x:Int)/64)=((x/64:Nat):Int):=by simp
 rw[e];show IntKind.i64.wrap ((BitVec.ofInt 64 (x:Int) ^^^ BitVec.ofInt 64 ((x/64:Nat):Int)).toNat:Int) = _;rw[BitVec.toNat_xor];have a1:(BitVec.ofInt 64 (x:Int)).toNat=x:=by rw[BitVec.ofInt_natCast,BitVec.toNat_ofNat];exact agJ (by omega)
 have a2:(BitVec.ofInt 64 ((x/64:Nat):Int)).toNat=x/64:=by rw[BitVec.ofInt_natCast,BitVec.toNat_ofNat];exact agJ (by omega)
 rw[a1,a2,bF];omega
theorem nY(w:World)(o:Obj):(w.alloc o).heap.size=w.heap.size+1:=by simp
theorem aL.lit{α:Type}{m:Nat}{enc:α->Nat->Value}(w:World)(cs:Array Value)(T:TypeId)(c:Nat)(xs:List α)(h:cs.toList=xs.flatMap (aH m enc)):aL m enc (w.alloc (.cells cs T)) (.slice (some ⟨w.heap.size,0,none⟩) xs.length c) xs:=by refine⟨_,c,rfl,λ_=>⟨w.heap.size,0,rfl,by simp,λi x hx j hj=>?_⟩⟩;have h1:=uU (enc:=enc) hx hj;rw[<-h]at h1;simp only[World.cell?,dP,ig];simpa using h1
theorem aL.Tu{α:Type}{m:Nat}{enc:α->Nat->Value}(w:World)(n:Nat)(cs:Array Value)(T:TypeId)(c:Nat)(xs:List α)(h:cs.toList=xs.flatMap (aH m enc))(hn:w.heap.size=n):aL m enc (w.alloc (.cells cs T)) (.slice (some ⟨n,0,none⟩) xs.length c) xs:=by subst hn;exact aL.lit w cs T c xs h
theorem JB{w w1:World}{rb:Nat}{cs:Array Value}{T:TypeId}(φ:Value->Prop)(hx:Ex rb (w.alloc (.cells cs T)) w1)(hr:rb<w.heap.size)(q:Nat)(hq:q<cs.size)(hP:∀v∈cs.toList,φ v):∃v,w1.cell? ⟨w.heap.size,q,none⟩=some v/\φ v:=by refine⟨cs[q],hx.cell (p:=⟨w.heap.size,q,none⟩) ?_ (by simp;omega),hP _ (by simp)⟩;simp only[World.cell?,dP];simp[hq]
theorem ZZ{α:Type}{m:Nat}{enc:α->Nat->Value}{w w1:World}{rb:Nat}{cs:Array Value}{T:TypeId}(hx:Ex rb (w.alloc (.cells cs T)) w1)(hr:rb<w.heap.size)(xs:List α)(h:cs.toList=xs.flatMap (aH m enc))(q:Nat)(hq:q<xs.length) :
 ∃x∈xs,∀j,j<m->w1.cell? ⟨w.heap.size,q*m+j,none⟩=some (enc x j):=by
 refine⟨xs[q],by simp,λj hj=>hx.cell (p:=⟨w.heap.size,q*m+j,none⟩) ?_ (by simp;omega)⟩;have h1:=uU (enc:=enc) (xs:=xs) (i:=q) (x:=xs[q]) (by simp) hj;rw[<-h]at h1;simp only[World.cell?,dP];simpa using h1
theorem Row.made{α:Type}{m:Nat}{enc:α->Nat->Value}(w:World)(e:TypeId):Row e m enc w.heap.size (w.alloc (.cells #[] e)) (.slice (some ⟨w.heap.size,0,none⟩) 0 0) ([]:List α):=
 World.ownsRow_made w #[] 0 (av _) (by simp[maxLen]) (by simp)
theorem Row.ne{α:Type}{e T:TypeId}{m g:Nat}{enc:α->Nat->Value}{base:Nat}{w:World}{v:Value}{xs:List α}{cs:Array Value}{f:Nat × Nat}(h:Row e m enc base w v xs)(hg:w.heap[g]? =some (.cells cs T f))(hne:e≠T):some g≠v.ownBlock:=by
 rcases h.2 with ⟨rfl,_⟩|⟨g',cap,cur,rfl,hb,hgg,_⟩
 ·simp[Value.ownBlock]
 ·intro e';simp[Value.ownBlock]at e';subst e';rw[hg]at hgg;injection hgg with hgg;injection hgg with _ h2 _;exact hne h2.symm
section
variable{P:Program}{α:Type}{t e:TypeId}{m b:Nat}{z:Value}{enc:α->Nat->Value}{base:Nat}{w:World}{v:Value}{xs ys:List α}
end
end
theorem Xr(x y:Int)(p l:Nat)(n:Int)(hx:0<=x/\x<=255)(hy:0<=y/\y<=255)(hp:p<=1000000)(h1:1<=n) :
 0<=(bits .xor .i64 (wrap64 (x*131+y*1117+↑p*29+wrap64 (wrap64 (↑p / ↑l)*53))) (wrap64 ((wrap64 (x*131+y*1117+↑p*29+wrap64 (wrap64 (↑p / ↑l)*53))).tdiv 64))).tmod n /\
 (bits .xor .i64 (wrap64 (x*131+y*1117+↑p*29+wrap64 (wrap64 (↑p / ↑l)*53))) (wrap64 ((wrap64 (x*131+y*1117+↑p*29+wrap64 (wrap64 (↑p / ↑l)*53))).tdiv 64))).tmod n<n:=by
 have hq:p/l<=p:=JC _ _;obtain⟨q,hq'⟩:∃q:Nat,p/l=q:=⟨_,rfl⟩;have e:((p:Int)/(l:Int))=(q:Int):=by rw[<-hq'];simp
 rw[hq']at hq;rw[e,IntWalk.wrap64_in (q:Int) (by omega),IntWalk.wrap64_in ((q:Int)*53) (by omega),IntWalk.wrap64_in (x*131+y*1117+↑p*29+(q:Int)*53) (by omega)];obtain⟨X,hX⟩:=dZ (show 0<=x*131+y*1117+↑p*29+(q:Int)*53 by omega);rw[hX,Int.tdiv_eq_ediv_of_nonneg (by omega),IntWalk.wrap64_in _ (by omega),UC X (by omega)];rw[Int.tmod_eq_emod_of_nonneg (by omega)];exact⟨Int.emod_nonneg _ (by omega),Int.emod_lt_of_pos _ (by omega)⟩
theorem abo(B rb m:Nat)(n:Int)(w:World)(h:JL B w rb m)(hm:m<=1000000)(h1:1<=n)(h2:n<=1000000) :
 Calls Tryz.prog 45 #[.pointer (some ⟨rb,0,none⟩),.int .i64 n] w (ZP B n rb m w):=by
 obtain⟨A,xs,c,p,T,hb,hp,hs,hx,hl,ho0,hB⟩:=h;have ho:Under rb (.slice A xs.length c):=λa n c hv hn=>bR (ho0 a n c hv hn) hB;have c0:w.cell? ⟨rb,0,none⟩=some (.slice A xs.length c):=by simp[World.cell?,hb]
 have c1:w.cell? ⟨rb,1,none⟩=some (.int .i64 (p:Int)):=by simp[World.cell?,hb]
 have f1:w.frozen? ⟨rb,1,none⟩=false:=by simp[World.frozen?,hb]
 have hend:JL B (w.setCell ⟨rb,1,none⟩ (.int .i64 ((p:Int)+1))) rb (m+1)/\Ex rb w (w.setCell ⟨rb,1,none⟩ (.int .i64 ((p:Int)+1))):=by refine⟨⟨A,xs,c,p+1,T,?_,by omega,hs.off ((Ex.refl rb w).setCell _ _) ho.off,hx,hl,ho0,hB⟩,(Ex.refl rb w).setCell _ _⟩;simp[World.setCell,lW,hb]
 have HE:=aa hend;clear hend ho0;obtain⟨A',c',hA,hc⟩:=hs;injection hA with e1 e2 e3;subst e1 e3;clear hb e2;by_cases h0:0<xs.length;case neg=>
  have hz:xs.length=0:=by omega
  rw[hz]at c0;clear hc ho hx hl h0 hz;go_enter Tryz.func45,Tryz.ntmps45;go_wp2;go_returns;exact⟨0,rfl,by omega,by omega,HE.out⟩
 obtain⟨b,off,rfl,hlt,hcell⟩:=hc h0;have hne:b≠rb:=ho.off _ _ _ rfl h0;have hne':rb≠b:=λe=>hne e.symm;have HX:=aa hx;clear hx hc ho;by_cases hk:p<xs.length
 ·obtain⟨x,hx⟩:=ah hk;have hv:=HX.out x (aM hx);have d0:w.cell? ⟨b,off+p,none⟩=some (.int .u8 x):=hcell p x hx;have g1:decide (n<1)=false:=by simpa using h1
  have g2:((xs.length:Int)==0)=false:=fU.2 (by omega);clear hcell hx;go_enter Tryz.func45,Tryz.ntmps45;go_wp2;go_returns;exact⟨_,rfl,Int.emod_nonneg _ (by omega),Int.emod_lt_of_pos _ (by omega),HE.out⟩
 ·have hq1:p%xs.length<xs.length:=R5 _ h0;have hq2:(p*7+3)%xs.length<xs.length:=R5 _ h0;have hq3:p/xs.length<=p:=JC _ _;obtain⟨x,hx⟩:=ah hq1;obtain⟨y,hy⟩:=ah hq2;have hv:=HX.out x (aM hx);have hv':=HX.out y (aM hy);have d0:∀e,(over (w.setCell ⟨rb,1,none⟩ (.int .i64 ((p:Int)+1))) e).cell? ⟨b,off+p%xs.length,none⟩=some (.int .u8 x):=aK (by rw[aC (by intro e;injection e with e;exact hne' e)];exact hcell _ x hx);have d1:∀e,(over (w.setCell ⟨rb,1,none⟩ (.int .i64 ((p:Int)+1))) e).cell? ⟨b,off+(p*7+3)%xs.length,none⟩=some (.int .u8 y):=aK (by rw[aC (by intro e;injection e with e;exact hne' e)];exact hcell _ y hy);have d2:∀e,(over (w.setCell ⟨rb,1,none⟩ (.int .i64 ((p:Int)+1))) e).cell? ⟨rb,0,none⟩=some (.slice (some ⟨b,off,none⟩) xs.length c):=aK (by rw[aC (by intro e;injection e with _ e _;cases e)];exact c0);have g1:decide (n<1)=false:=by simpa using h1
  have g2:((xs.length:Int)==0)=false:=fU.2 (by omega);obtain⟨q,hq⟩:∃q:Nat,(p*7+3)%xs.length=q:=⟨_,rfl⟩;have hqi:((p:Int)*7+3)%(xs.length:Int)=(q:Int):=by rw[<-hq];simp
  rw[hq]at hq2 d1;clear hcell hx hy hq;go_enter Tryz.func45,Tryz.ntmps45;go_wp2;refine aU (by kernel_rfl) (by kernel_rfl) ?_;repeat (go_big_quiet_step (fail))
  refine j5 ?_;intro w1 hb1;go_wp2;go_returns;have hn:=Xr x y p xs.length n hv hv' (by omega) h1;exact⟨_,rfl,hn.1,hn.2,HE.out.1.ext hb1,HE.out.2.ext hb1⟩
theorem cZ(rb m:Nat)(n:Int)(w:World)(h:Rd w rb m)(hm:m<=1000000)(h1:1<=n)(h2:n<=1000000) :
 Calls Tryz.prog 45 #[.pointer (some ⟨rb,0,none⟩),.int .i64 n] w (aco n rb m w):=abo rb rb m n w h hm h1 h2
theorem Ga(rb m:Nat)(n:Int)(w:World)(h:Rd w rb m)(hm:m<=1000000)(h2:n<=1000000) :
 Calls Tryz.prog 46 #[.pointer (some ⟨rb,0,none⟩),.int .i64 n] w (acu rb m w):=by
 by_cases h1:1<=n
 ·have g1:decide (0<n)=true:=by simp;omega
  go_enter Tryz.func46,Tryz.ntmps46;go_wp2_with fail
  refine(cZ rb m n _ h hm h1 h2).mono ?_
  rintro e w1 ⟨k,rfl,k0,k1,r1,x1⟩;go_wp2;go_returns;exact⟨_,rfl,r1,x1⟩
 ·have g1:decide (0<n)=false:=by simp;omega
  go_enter Tryz.func46,Tryz.ntmps46;go_wp2;go_returns;exact⟨_,rfl,h.mono (by omega),Ex.refl _ _⟩
theorem oZ.under{w:World}{v:Value}{xs:List Int}(h:oZ Nk w v xs):Under w.heap.size v:=by obtain⟨A,c,rfl,h⟩:=h;intro a n c' hv hn;injection hv with e1 e2 e3;subst e1 e2;obtain⟨b,off,hb,hlt,_⟩:=h hn;injection hb with hb;subst hb;exact hlt
def Zu(B:Nat)(w:World)(e:Ending)(w':World):Prop:=∃rb:Nat,e=.returned (.pointer (some ⟨rb,0,none⟩))/\w.heap.size<=rb/\JL B w' rb 0/\Ext w w'
def YI(w:World)(e:Ending)(w':World):Prop:=∃rb:Nat,e=.returned (.pointer (some ⟨rb,0,none⟩))/\w.heap.size<=rb/\Rd w' rb 0/\Ext w w'
theorem ab2{v:Value}{xs:List Int}(B:Nat)(w:World)(hB:B<=w.heap.size)(hU:Under B v)(h:oZ Nk w v xs)(hx:∀x∈xs,0<=x/\x<=255)(hlen:xs.length<=1048576)(hcap:∀A n c,v=.slice A n c->n<=c/\c<=9223372036854775807) :
 Calls Tryz.prog 20 #[v] w (Zu B w):=by
 have HU:=aa hU;clear hU;have H:=aa h;obtain⟨A,c,rfl,h⟩:=h;have hc:=hcap _ _ _ rfl;have HX:=aa hx;clear hcap h hx;by_cases hl:xs.length<=2000
 ·go_enter Tryz.func20,Tryz.ntmps20;go_wp2;go_returns;refine⟨w.heap.size,rfl,av _,⟨A,xs,c,0,_,dP w _,av _,H.out.ext ((af w).alloc _),HX.out,hl,HU.out,hB⟩,(af w).alloc _⟩
 ·have hl':2000<xs.length:=by omega
  clear hl;go_enter Tryz.func20,Tryz.ntmps20;go_wp2;go_returns;have hT:oZ Nk w (.slice A (xs.take 2000).length c) (xs.take 2000):=by
   obtain⟨A',c',hA,hc'⟩:=H.out;injection hA with e1 e2 e3;subst e1 e3;refine⟨_,_,rfl,λhn=>?_⟩;obtain⟨b,off,hb,hlt,hcell⟩:=hc' (by omega);refine⟨b,off,hb,hlt,λi x hi=>hcell i x ?_⟩;rw[nU]at hi;split at hi
   ·exact hi
   ·cases hi
  have ac8:(xs.take 2000).length=2000:=by rw[eY];omega
  refine⟨w.heap.size,rfl,av _,⟨A,xs.take 2000,c,0,_,by rw[ac8];exact dP w _,av _,hT.ext ((af w).alloc _),λx hx=>HX.out x (oI hx),by omega,λa n c' hv hn=>HU.out a xs.length c (by injection hv with e1 e2 e3;rw[e1]) (by omega),hB⟩,(af w).alloc _⟩
theorem XI{v:Value}{xs:List Int}(w:World)(h:oZ Nk w v xs)(hx:∀x∈xs,0<=x/\x<=255)(hlen:xs.length<=1048576)(hcap:∀A n c,v=.slice A n c->n<=c/\c<=9223372036854775807) :
 Calls Tryz.prog 20 #[v] w (YI w):=(ab2 w.heap.size w (av _) h.under h hx hlen hcap).mono λ_ _ ⟨rb,h1,h2,h3,h4⟩=>⟨rb,h1,h2,h3.rd,h4⟩
def GG(w:World)(v:Value):Prop:=∃xs:List Int,oZ Nk w v xs/\(∀x∈xs,0<=x/\x<=255)/\xs.length<=1048576/\∀A n c,v=.slice A n c->n<=c/\c<=9223372036854775807
theorem Lt{v:Value}(w:World)(h:GG w v):Calls Tryz.prog 20 #[v] w (YI w):=by obtain⟨xs,h1,h2,h3,h4⟩:=h;exact XI w h1 h2 h3 h4
section
theorem jD.ex{I:TypeId}{rb lo:Nat}{w w':World}{u:Value}(h:jD I w u)(ho:Own lo w u)(hx:Ex rb w w')(hl:rb<lo):jD I w' u:=λa n c hu hn=>by obtain⟨cs,fr,hg⟩:=h a n c hu hn;have h1:=(ho a n c hu hn).1;exact⟨cs,fr,(World.grownBy.block hx _ (fF.1 hg).1 (by simp;omega)).trans hg⟩
def kV(base:Nat)(w:World)(u:Value)(ops:List aV):Prop:=aL 3 encOpr w u ops/\tN u/\Own base w u/\jD 67 w u
theorem kV.ext{base:Nat}{w w':World}{u:Value}{ops:List aV}(h:kV base w u ops)(hb:Ext w w'):kV base w' u ops:=⟨h.1.ext hb,h.2.1,h.2.2.1.ext hb,h.2.2.2.ext hb⟩
theorem kV.ex{base rb:Nat}{w w':World}{u:Value}{ops:List aV}(h:kV base w u ops)(hb:Ex rb w w')(hl:rb<base):kV base w' u ops:=⟨h.1.off hb (h.2.2.1.off hl),h.2.1,h.2.2.1.ex hb hl,h.2.2.2.ex h.2.2.1 hb hl⟩
theorem kV.mono{base base':Nat}{w:World}{u:Value}{ops:List aV}(h:kV base w u ops)(hl:base'<=base):kV base' w u ops:=⟨h.1,h.2.1,h.2.2.1.mono hl,h.2.2.2⟩
theorem kV.grown{base:Nat}{w w':World}{u:Value}{ops:List aV}{row:Option Nat}(h:kV base w u ops)(hg:w.grownBy w' row)(hr:∀a n c,u=.slice (some a) n c->0<n->row≠some a.block):kV base w' u ops:=
 ⟨h.1.grown hg hr,h.2.1,h.2.2.1.grown hg hr,h.2.2.2.grown hg hr⟩
theorem kV.none(base:Nat)(w:World):kV base w (.slice none 0 0) []:=⟨aL.nil _ _ _ _ _,(λA n c e=>by cases e;exact⟨av _,by omega⟩),Own.nil _ _ _ _,λa n c e=>by cases e⟩
theorem kV.row{base:Nat}{w:World}{u:Value}{ops:List aV}(h:Row 67 3 encOpr base w u ops):kV base w u ops:=⟨h.cell.1,h.cap,h.cell.2,h.Gl⟩
theorem kV.far{α:Type}{e:TypeId}{m:Nat}{enc:α->Nat->Value}{base b:Nat}{w:World}{v u:Value}{xs:List α}{ops:List aV}(h:kV b w u ops)(hr:Row e m enc base w v xs)(hne:e≠67):∀a n c,u=.slice (some a) n c->0<n->v.ownBlock≠some a.block:=hr.far h.2.2.2 hne
structure ng (base:Nat) (w:World) (v:Value) (rs:List jg) (h:List aG):Prop where
 len:rs.length=h.length
 row:Row 48 3 encTxV base w v rs
 rows:∀(i:Nat) r t,rs[i]? =some r->h[i]? =some t->r.az=t.az/\r.done=t.done/\kV base w r.dA t.ops
theorem ng.ext{base:Nat}{w w':World}{v:Value}{rs:List jg}{h:List aG}(H:ng base w v rs h)(hb:Ext w w'):ng base w' v rs h:=
 ⟨H.len,H.row.ext hb,λi r t hr ht=>let ⟨a,b,c⟩:=H.rows i r t hr ht;⟨a,b,c.ext hb⟩⟩
theorem ng.ex{base rb:Nat}{w w':World}{v:Value}{rs:List jg}{h:List aG}(H:ng base w v rs h)(hb:Ex rb w w')(hl:rb<base):ng base w' v rs h:=
 ⟨H.len,H.row.ex hb hl,λi r t hr ht=>let ⟨a,b,c⟩:=H.rows i r t hr ht;⟨a,b,c.ex hb hl⟩⟩
theorem ng.made(w:World):ng w.heap.size (w.alloc (.cells #[] 48)) (.slice (some ⟨w.heap.size,0,none⟩) 0 0) [] []:=
 ⟨rfl,Row.made w _,λ_ _ _ h=>by simp at h⟩
theorem ng.his{base:Nat}{w:World}{v:Value}{rs:List jg}{h:List aG}(H:ng base w v rs h):iM w v h:=
 ⟨rs,H.len,H.row.cell.1,λi r t hr ht=>let ⟨a,b,c⟩:=H.rows i r t hr ht;⟨a,b,c.1,c.2.1⟩⟩
theorem ng.slice{base:Nat}{w:World}{v:Value}{rs:List jg}{h:List aG}(H:ng base w v rs h):∃A c,v=.slice A h.length c:=H.his.slice
theorem ng.push{base:Nat}{w w':World}{v v':Value}{rs:List jg}{h:List aG}{r:jg}{t:aG}(H:ng base w v rs h)(hrow:Row 48 3 encTxV base w' v' (rs++[r]))(hg:w.grownBy w' v.ownBlock)
 (h1:r.az=t.az) (h2:r.done=t.done) (ho:kV base w r.dA t.ops):ng base w' v' (rs++[r]) (h++[t]):=by
 have keep:∀{u:Value} {ops:List aV},kV base w u ops->kV base w' u ops:=λk=>k.grown hg (k.far H.row (by decide));refine⟨by simp[H.len],hrow,λi y s hy hs=>?_⟩;rw[MS]at hy hs;split at hy
 ·rename_i hi';rw[aj (by rw[<-H.len];exact hi')]at hs;obtain⟨a,b,c⟩:=H.rows i y s hy hs;exact⟨a,b,keep c⟩
 ·rename_i hi';rw[au (by rw[<-H.len];exact hi')]at hs;have hi0:i-rs.length=0:=by
   have:=(bG.1 hy).1
   simp at this;omega
  rw[hi0]at hy;rw[<-H.len,hi0]at hs;simp at hy hs;subst hy hs;exact⟨h1,h2,keep ho⟩
theorem LQ(x:jg):∀(xs:List jg) (k:Nat),k<xs.length->(((xs.flatMap (aH 3 encTxV)).set (k*3) (encTxV x 0)).set (k*3+1) (encTxV x 1)).set (k*3+2) (encTxV x 2)=(xs.set k x).flatMap (aH 3 encTxV)
 | [],k,h=>by simp at h
 | y :: ys,0,_=>by show ((([encTxV y 0,encTxV y 1,encTxV y 2]++ys.flatMap (aH 3 encTxV)).set 0 _).set 1 _).set 2 _=[encTxV x 0,encTxV x 1,encTxV x 2]++ys.flatMap (aH 3 encTxV);rfl
 | y :: ys,k+1,h=>by have ih:=LQ x ys k (by simpa using h);show ((([encTxV y 0,encTxV y 1,encTxV y 2]++ys.flatMap (aH 3 encTxV)).set ((k+1)*3) _).set ((k+1)*3+1) _).set ((k+1)*3+2) _=[encTxV y 0,encTxV y 1,encTxV y 2]++(ys.set k x).flatMap (aH 3 encTxV);rw[<-ih,show (k+1)*3+1=(k*3+1)+3 by omega,show (k+1)*3+2=(k*3+2)+3 by omega,show (k+1)*3=k*3+3 by omega];rfl
def yc(w:World)(g k:Nat)(r:jg):World:=((w.setCell ⟨g,k*3,none⟩ (.int .i64 r.az)).setCell ⟨g,k*3+1,none⟩ r.dA).setCell ⟨g,k*3+2,none⟩ (.bool r.done)
theorem Ij(w:World)(g k:Nat)(r:jg):w.grownBy (yc w g k r) (some g):=by have h1:=jZ w ⟨g,k*3,none⟩ (.int .i64 r.az);have h2:=jZ (w.setCell ⟨g,k*3,none⟩ (.int .i64 r.az)) ⟨g,k*3+1,none⟩ r.dA;have h3:=jZ ((w.setCell ⟨g,k*3,none⟩ (.int .i64 r.az)).setCell ⟨g,k*3+1,none⟩ r.dA) ⟨g,k*3+2,none⟩ (.bool r.done);exact⟨rfl,rfl,rfl,by simp[yc,World.setCell],λi hi hn=>((h3.block i (by simpa[World.setCell] using hi) hn).trans (h2.block i (by simpa[World.setCell] using hi) hn)).trans (h1.block i hi hn)⟩
theorem ng.put{base g n c k:Nat}{w:World}{rs:List jg}{h:List aG}{r:jg}{t:aG}(H:ng base w (.slice (some ⟨g,0,none⟩) n c) rs h)(hk:k<rs.length)(h1:r.az=t.az)(h2:r.done=t.done)(ho:kV base w r.dA t.ops) :
 ng base (yc w g k r) (.slice (some ⟨g,0,none⟩) n c) (rs.set k r) (h.set k t):=by
 have hg:=Ij w g k r;have keep:∀{u:Value} {ops:List aV},kV base w u ops->kV base (yc w g k r) u ops:=λq=>q.grown hg (λa n c e hn e'=>q.far H.row (by decide) a n c e hn (by rw[<-e'];simp[Value.ownBlock]));refine⟨by simp[H.len],?_,λi y s hy hs=>?_⟩
 ·have hr:=H.row;have hn:n=rs.length:=by
   rcases hr.2 with ⟨h',_⟩|⟨g',cap',cur,h',_⟩
   ·simp at h'
   ·injection h'
  subst hn;unfold Row at hr ⊢;have s1:=(World.ownsRow.stored hr (k*3) (encTxV r 0)).1;have s2:=(World.ownsRow.stored s1 (k*3+1) (encTxV r 1)).1;have s3:=(World.ownsRow.stored s2 (k*3+2) (encTxV r 2)).1;rw[LQ r rs k hk]at s3;rw[iE];exact s3
 ·rw[iO]at hy hs;by_cases e:k=i
  ·subst e;rw[aj rfl,aj hk]at hy;rw[aj rfl,aj (by rw[<-H.len];exact hk)]at hs;cases hy;cases hs;exact⟨h1,h2,keep ho⟩
  ·rw[au e]at hy hs;obtain⟨a,b,c⟩:=H.rows i y s hy hs;exact⟨a,b,keep c⟩
def ER(rb m:Nat)(w W:World):Prop:=Ex rb w W/\Rd W rb m
theorem ER.set{rb m g:Nat}{w W:World}(h:ER rb m w W)(hr:rb<w.heap.size)(hg:w.heap.size<=g)(j:Nat)(u:Value):ER rb m w (W.setCell ⟨g,j,none⟩ u):=
 ⟨h.1.grown (jZ W ⟨g,j,none⟩ u) (λk hk=>by injection hk with hk;subst hk;exact hg),h.2.grown (jZ W ⟨g,j,none⟩ u) (λk hk=>by injection hk with hk;subst hk;exact bR hr hg)⟩
theorem ER.alloc{rb m:Nat}{w W:World}(h:ER rb m w W)(o:Obj):ER rb m w (W.alloc o):=⟨h.1.alloc o,h.2.alloc o⟩
theorem ER.grown{rb m:Nat}{w W W':World}{row:Option Nat}(h:ER rb m w W)(hg:W.grownBy W' row)(hr:rb<w.heap.size)(hk:∀k,row=some k->w.heap.size<=k):ER rb m w W':=
 ⟨h.1.grown hg hk,h.2.grown hg (λk e=>bR hr (hk k e))⟩
theorem ER.ext{rb m:Nat}{w W W':World}(h:ER rb m w W)(b:Ext W W'):ER rb m w W':=⟨h.1.ext b,h.2.ext b⟩
theorem ER.mono{rb m m':Nat}{w W:World}(h:ER rb m w W)(hm:m<=m'):ER rb m' w W:=⟨h.1,h.2.mono hm⟩
theorem ER.size{rb m:Nat}{w W:World}(h:ER rb m w W):w.heap.size<=W.heap.size:=h.1.size
def B3(T:TypeId)(W:World)(g:Nat)(a b c:Value):Prop:=W.heap[g]? =some (.cells #[a,b,c] T (0,0))
theorem B3.made(w:World)(a b c:Value)(T:TypeId):B3 T (w.alloc (.cells #[a,b,c] T)) w.heap.size a b c:=dP w _
theorem B3.lt{T:TypeId}{W:World}{g:Nat}{a b c:Value}(h:B3 T W g a b c):g<W.heap.size:=(fF.1 h).1
theorem B3.ex{T:TypeId}{rb:Nat}{W W':World}{g:Nat}{a b c:Value}(h:B3 T W g a b c)(hx:Ex rb W W')(hn:g≠rb):B3 T W' g a b c:=(World.grownBy.block hx g h.lt (by simpa using hn)).trans h
theorem B3.ext{T:TypeId}{W W':World}{g:Nat}{a b c:Value}(h:B3 T W g a b c)(hx:Ext W W'):B3 T W' g a b c:=(Below.block hx g h.lt).trans h
theorem B3.grown{T:TypeId}{W W':World}{g:Nat}{a b c:Value}{row:Option Nat}(h:B3 T W g a b c)(hg:W.grownBy W' row)(hn:row≠some g):B3 T W' g a b c:=(hg.block g h.lt (λe=>hn e.symm)).trans h
theorem B3.c0{T:TypeId}{W:World}{g:Nat}{a b c:Value}(h:B3 T W g a b c):W.cell? ⟨g,0,none⟩=some a:=by unfold B3 at h;simp[World.cell?,h]
theorem B3.c1{T:TypeId}{W:World}{g:Nat}{a b c:Value}(h:B3 T W g a b c):W.cell? ⟨g,1,none⟩=some b:=by unfold B3 at h;simp[World.cell?,h]
theorem B3.c2{T:TypeId}{W:World}{g:Nat}{a b c:Value}(h:B3 T W g a b c):W.cell? ⟨g,2,none⟩=some c:=by unfold B3 at h;simp[World.cell?,h]
theorem B3.fr{T:TypeId}{W:World}{g:Nat}{a b c:Value}(h:B3 T W g a b c)(j:Nat):W.frozen? ⟨g,j,none⟩=false:=by unfold B3 at h;simp[World.frozen?,h]
theorem B3.s1{T:TypeId}{W:World}{g:Nat}{a b c:Value}(h:B3 T W g a b c)(u:Value):B3 T (W.setCell ⟨g,1,none⟩ u) g a u c:=by unfold B3 at *;simp[World.setCell,lW,h]
theorem B3.set{T:TypeId}{W:World}{g:Nat}{a b c:Value}(h:B3 T W g a b c){q:Nat}(hq:q≠g)(j:Nat)(u:Value):B3 T (W.setCell ⟨q,j,none⟩ u) g a b c:=h.grown (jZ W ⟨q,j,none⟩ u) (by simpa using hq)
section
variable{P:Program}{α:Type}{t e:TypeId}{m b:Nat}{z:Value}{enc:α->Nat->Value}{base:Nat}{w:World}{v:Value}{xs ys:List α}
theorem qD(ht:P.underlying t=some (.slice e))(hinfo:(P.info? e).map (λi=>(i.zero,i.size,i.bytes))=some (some z,m,b))(hzs:z.cells.size=m)(hm:0<m)(hb:b<=64)
 {ops:Array Oper} {rest:List Oper} {o:Oper} {a:Act} {Q:Exit->Act->World->Prop} {s x:Operand} {A:Option Addr} {n c:Nat} (hwant:Region.wanted o (yielded ops a.tmps)=true)
 (ho:o.op=.call { callee:=.builtin .append,args:=#[s,x],argTypes:=#[t,t] }) (hs:a.eval s=v) (hx:a.eval x=.slice A n c)
 (hrow:Row e m enc base w v xs) (hsrc:aL m enc w (.slice A n c) ys) (h1:∀x∈ys,∀j,(enc x j).oneCell'=true) (hn:xs.length+ys.length<=4194304) (hbase:base<=w.heap.size)
 (h:∀v' w',Row e m enc base w' v' (xs++ys)->w.grownBy w' v.ownBlock->wpList P ops Q rest (a.put o.dst v') w'):wpList P ops Q (o :: rest) a w:=by
 obtain⟨v',w',hrun,hrow',hg⟩:=lX (P:=P) (ty:=o.type) ht hinfo hzs hm hrow hsrc h1 hn hb hbase;refine wpList_step λK hK=>?_;rw[aj hwant];unfold Oper.wp execOp;simp only[ho,resolve,invoke,builtin,Sem.run_bind,Sem.run_pure,Result.andThen_ok,List.map_toArray,qc,kN,hs,hx,hrun];exact hK _ _ (h v' w' hrow' hg)
end
section
variable{base:Nat}{w:World}{v:Value}{ops:Array Oper}{rest:List Oper}{o:Oper}{a:Act}{Q:Exit->Act->World->Prop}{s x:Operand}{A:Option Addr}{n c:Nat}
theorem PG:(Tryz.prog.info? 3).map (λi=>(i.zero,i.size,i.bytes))=some (some (.int .i64 0),1,8):=by kernel_rfl
theorem Tz:(Tryz.prog.info? 67).map (λi=>(i.zero,i.size,i.bytes))=some (some (.agg #[.int .i64 0,.int .i64 0,.int .i64 0]),3,24):=by kernel_rfl
theorem Qp:(Tryz.prog.info? 48).map (λi=>(i.zero,i.size,i.bytes))=some (some (.agg #[.int .i64 0,.slice none 0 0,.bool false]),3,40):=by kernel_rfl
theorem QF:(Tryz.prog.info? 79).map (λi=>(i.zero,i.size,i.bytes))=some (some (.agg #[.int .i64 0,.slice none 0 0]),2,32):=by kernel_rfl
theorem CK:(Tryz.prog.info? 9).map (λi=>(i.zero,i.size,i.bytes))=some (some (.string ⟨#[]⟩),1,16):=by kernel_rfl
theorem acy{xs ys:List Int}(hwant:Region.wanted o (yielded ops a.tmps)=true)
 (ho:o.op=.call { callee:=.builtin .append,args:=#[s,x],argTypes:=#[56,56] }) (hs:a.eval s=v) (hx:a.eval x=.slice A n c)
 (hrow:Row 3 1 (one encI) base w v xs) (hsrc:aL 1 (one encI) w (.slice A n c) ys) (hn:xs.length+ys.length<=4194304) (hbase:base<=w.heap.size)
 (h:∀v' w',Row 3 1 (one encI) base w' v' (xs++ys)->w.grownBy w' v.ownBlock->wpList Tryz.prog ops Q rest (a.put o.dst v') w'):wpList Tryz.prog ops Q (o :: rest) a w:=
 qD Mm PG rfl (by omega) (by omega) hwant ho hs hx hrow hsrc (λx _ j=>rfl) hn hbase h
theorem acv{xs ys:List aV}(hwant:Region.wanted o (yielded ops a.tmps)=true)
 (ho:o.op=.call { callee:=.builtin .append,args:=#[s,x],argTypes:=#[46,46] }) (hs:a.eval s=v) (hx:a.eval x=.slice A n c)
 (hrow:Row 67 3 encOpr base w v xs) (hsrc:aL 3 encOpr w (.slice A n c) ys) (hn:xs.length+ys.length<=4194304) (hbase:base<=w.heap.size)
 (h:∀v' w',Row 67 3 encOpr base w' v' (xs++ys)->w.grownBy w' v.ownBlock->wpList Tryz.prog ops Q rest (a.put o.dst v') w'):wpList Tryz.prog ops Q (o :: rest) a w:=
 qD eG Tz rfl (by omega) (by omega) hwant ho hs hx hrow hsrc (λx _ j=>by unfold encOpr;split<;>rfl) hn hbase h
theorem XT{xs ys:List (List UInt8)}(hwant:Region.wanted o (yielded ops a.tmps)=true)
 (ho:o.op=.call { callee:=.builtin .append,args:=#[s,x],argTypes:=#[31,31] }) (hs:a.eval s=v) (hx:a.eval x=.slice A n c)
 (hrow:Row 9 1 encS base w v xs) (hsrc:aL 1 encS w (.slice A n c) ys) (hn:xs.length+ys.length<=4194304) (hbase:base<=w.heap.size)
 (h:∀v' w',Row 9 1 encS base w' v' (xs++ys)->w.grownBy w' v.ownBlock->wpList Tryz.prog ops Q rest (a.put o.dst v') w'):wpList Tryz.prog ops Q (o :: rest) a w:=
 qD kY CK rfl (by omega) (by omega) hwant ho hs hx hrow hsrc (λx _ j=>rfl) hn hbase h
theorem Tp{rs:List jg}{h:List aG}{r:jg}(t:aG)(hwant:Region.wanted o (yielded ops a.tmps)=true)
 (ho:o.op=.call { callee:=.builtin .append,args:=#[s,x],argTypes:=#[23,23] }) (hs:a.eval s=v) (hx:a.eval x=.slice A n c)
 (H:ng base w v rs h) (hsrc:aL 3 encTxV w (.slice A n c) [r]) (h1:r.dA.oneCell'=true) (hn:h.length+1<=4194304) (hbase:base<=w.heap.size) (e1:r.az=t.az) (e2:r.done=t.done) (hO:kV base w r.dA t.ops)
 (k:∀v' w',ng base w' v' (rs++[r]) (h++[t])->w.grownBy w' v.ownBlock->wpList Tryz.prog ops Q rest (a.put o.dst v') w'):wpList Tryz.prog ops Q (o :: rest) a w:=
 qD kC Qp rfl (by omega) (by omega) hwant ho hs hx H.row hsrc (λx hx j=>by simp at hx;subst hx;unfold encTxV;split<;>first|rfl|exact h1) (by rw[H.len];simpa using hn) hbase
  (λv' w' hrow hg=>k v' w' (H.push hrow hg e1 e2 hO) hg)
end
end
