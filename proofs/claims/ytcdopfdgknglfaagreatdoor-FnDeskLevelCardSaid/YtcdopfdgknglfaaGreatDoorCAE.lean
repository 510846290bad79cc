/- Lemmas. -/
import Derived.Test.YtcdopfdgknglfaaGreatDoorCAD
import Derived.StillTailTactics
set_option maxHeartbeats 16000000
set_option maxRecDepth 8000
set_option linter.all false
namespace Go.Proofs.YtcdopfdgknglfaaGreatDoor
open Go.RowKit
def mW(n:Nat):UInt8:=UInt8.ofNat (48+n)
def dh(n:Nat):List UInt8:=if n<10 then [mW n] else [mW (n/10),mW (n%10)]
def bu(o:aJ):UInt8:=if jl o then 119 else 114
def vD(o:aJ):List UInt8:=bu o :: mW o.key.toNat :: 61 :: dh o.value.toNat
def jg(o:aJ):List UInt8:=if jm o then vD o else []
def gZ(t:aF):List (List UInt8):=[115,mW t.aD.toNat] :: (if t.done then [111,107] else [111,102,102]) :: t.ops.map vD
def joinL(sep:List UInt8):List (List UInt8)->List UInt8
 | []=>[]
 | [x]=>x
 | x :: y :: r=>x++sep++joinL sep (y :: r)
def qF(t:aF):List UInt8:=joinL [32] (gZ t)
def jU(t:aF):List UInt8:=if eP t then qF t else []
def FW(h:List aF):List UInt8:=joinL [59,32] (h.map qF)
theorem mH{n:Nat}(h:n<10):(mW n).toNat=48+n:=by unfold mW;rw[UInt8.toNat_ofNat'];omega
theorem x9{a b:Nat}(ha:a<10)(hb:b<10)(h:mW a=mW b):a=b:=by have h1:=mH ha;rw[h,mH hb]at h1;omega
theorem fV(sep x:List UInt8)(r:List (List UInt8))(h:r≠[]):joinL sep (x :: r)=x++sep++joinL sep r:=by
 cases r with
 | nil=>exact absurd rfl h
 | cons y r=>rfl
theorem um(sep:List UInt8):∀(l:List (List UInt8)) (x:List UInt8),l≠[]->joinL sep (l++[x])=joinL sep l++sep++x
 | [],_,h=>absurd rfl h
 | [y],x,_=>by simp[joinL]
 | y :: z :: r,x,_=>by
   have:=um sep (z :: r) x (by simp)
   rw[List.cons_append,fV _ _ _ (by simp),this];simp[joinL]
def GV(b:UInt8)(l:List UInt8):Prop:=∀x∈l,x≠b
theorem Bc{n:Nat}(h:n<10){b:UInt8}(hb:b.toNat<48∨57<b.toNat):mW n≠b:=λe=>by
 have:=mH h
 rw[e]at this;omega
theorem M5{n:Nat}(h:n<100){x:UInt8}(hx:x∈dh n):∃d,d<10/\x=mW d:=by
 unfold dh at hx;split at hx
 ·rename_i h';simp at hx;exact⟨n,h',hx⟩
 ·simp at hx;rcases hx with rfl|rfl
  ·exact⟨n/10,by omega,rfl⟩
  ·exact⟨n%10,by omega,rfl⟩
theorem Oa{o:aJ}(h:jm o=true):GV 32 (vD o)/\GV 59 (vD o):=by
 have hk:=jr h;have hv:=nA h;have h2:∀b:UInt8,b=32∨b=59->GV b (vD o):=λb hb x hx=>by
  unfold vD bu at hx;simp only[iC]at hx;rcases hx with rfl|rfl|rfl|hx
  ·rcases hb with rfl|rfl<;>split<;>decide
  ·exact Bc (by omega) (by rcases hb with rfl|rfl<;>decide)
  ·rcases hb with rfl|rfl<;>decide
  ·obtain⟨d,hd,rfl⟩:=M5 (by omega) hx;exact Bc hd (by rcases hb with rfl|rfl<;>decide)
 exact⟨h2 _ (.inl rfl),h2 _ (.inr rfl)⟩
def numOf(l:List UInt8):Nat:=l.foldl (λn b=>10*n+(b.toNat-48)) 0
theorem Aj{n:Nat}(h:n<100):numOf (dh n)=n:=by
 unfold dh;split
 ·rename_i h';simp only[numOf,kL,List.foldl_nil];rw[mH h'];omega
 ·simp only[numOf,kL,List.foldl_nil];rw[mH (by omega),mH (by omega)];omega
theorem M6{a b:Nat}(ha:a<100)(hb:b<100)(h:dh a=dh b):a=b:=by rw[<-Aj ha,<-Aj hb,h]
theorem Ju{o o':aJ}(h:jm o=true)(h':jm o'=true)(e:vD o=vD o'):o=o':=by unfold vD at e;injection e with e1 e;injection e with e2 e;injection e with e3 e;have k1:=jr h;have k2:=jr h';have v1:=nA h;have v2:=nA h';have e2:=x9 (by omega) (by omega) e2;have e:=M6 (by omega) (by omega) e;refine aJ.ext' ?_ (by omega) (by omega);have c1:=vF h;have c2:=vF h';unfold bu jl at e1;rcases c1 with c1|c1<;>rcases c2 with c2|c2<;>rw[c1,c2]at e1 ⊢<;>simp at e1
open Classical in
noncomputable def jy (s:List UInt8):Option aJ:=if h:∃o,jm o=true/\vD o=s then some h.choose else none
theorem nY{s:List UInt8}{o:aJ}:jy s=some o↔jm o=true/\vD o=s:=by
 unfold jy;constructor
 ·intro e;split at e
  ·rename_i h;injection e with e;rw[<-e];exact h.choose_spec
  ·cases e
 ·rintro⟨h1,h2⟩;have h:∃o,jm o=true/\vD o=s:=⟨o,h1,h2⟩;rw[dif_pos h];exact fU some (Ju h.choose_spec.1 h1 (h.choose_spec.2.trans h2.symm))
theorem EL{s:List UInt8}(h:∀o,jm o=true->vD o≠s):jy s=none:=by
 cases e:jy s with
 | none=>rfl
 | some o=>have:=nY.1 e;exact absurd this.2 (h o this.1)
def splitL(b:UInt8):List UInt8->List (List UInt8)
 | []=>[[]]
 | x :: l=>if x=b then [] :: splitL b l else match splitL b l with
   | []=>[[x]]
   | y :: r=>(x :: y) :: r
theorem Ca(b:UInt8)(l:List UInt8):splitL b l≠[]:=by
 cases l with
 | nil=>simp[splitL]
 | cons x l=>
   rw[splitL];split
   ·simp
   ·split<;>simp
theorem zN{b:UInt8}:∀{l:List UInt8},GV b l->splitL b l=[l]
 | [],_=>rfl
 | x :: l,h=>by rw[splitL,ak (h x (by simp)),zN (λy hy=>h y (by simp[hy]))]
theorem xh{b:UInt8}:∀{x l:List UInt8},GV b x->splitL b (x++b :: l)=x :: splitL b l
 | [],l,_=>by simp[splitL]
 | y :: x,l,h=>by rw[List.cons_append,splitL,ak (h y (by simp)),xh (λz hz=>h z (by simp[hz]))]
theorem qQ{b:UInt8}:∀{ws:List (List UInt8)},ws≠[]->(∀w∈ws,GV b w)->splitL b (joinL [b] ws)=ws
 | [],h,_=>absurd rfl h
 | [w],_,h=>zN (h w (by simp))
 | w :: v :: r,_,h=>by rw[fV _ _ _ (by simp),jN,List.singleton_append,xh (h w (by simp)),qQ (by simp) (λx hx=>h x (by simp only[iC]at hx ⊢;exact .inr hx))]
theorem Iw{t:aF}(h:eP t=true):∀w∈gZ t,GV 32 w:=λw hw=>by
 have hs:=lG h;unfold gZ at hw;simp only[iC,dX]at hw;rcases hw with rfl|rfl|⟨o,ho,rfl⟩
 ·intro x hx;simp only[iC,yh,or_false]at hx;rcases hx with rfl|rfl
  ·decide
  ·exact Bc (by omega) (by decide)
 ·cases t.done
  ·intro x hx;simp at hx;rcases hx with rfl|rfl<;>decide
  ·intro x hx;simp at hx;rcases hx with rfl|rfl<;>decide
 ·exact(Oa (jc h ho)).1
theorem vG{t:aF}(h:eP t=true):splitL 32 (qF t)=gZ t:=qQ (by simp[gZ]) (Iw h)
theorem F8:∀{a b:List aJ},(∀o∈a,jm o=true)->(∀o∈b,jm o=true)->a.map vD=b.map vD->a=b
 | [],[],_,_,_=>rfl
 | [],_ :: _,_,_,e=>by simp at e
 | _ :: _,[],_,_,e=>by simp at e
 | x :: a,y :: b,ha,hb,e=>by simp only[iF,List.cons.injEq]at e;rw[Ju (ha x (by simp)) (hb y (by simp)) e.1,F8 (λo ho=>ha o (by simp[ho])) (λo ho=>hb o (by simp[ho])) e.2]
theorem IJ{t t':aF}(h:eP t=true)(h':eP t'=true)(e:gZ t=gZ t'):t=t':=by
 unfold gZ at e;simp only[List.cons.injEq]at e;obtain⟨⟨_,e1,_⟩,e2,e3⟩:=e;have s1:=lG h;have s2:=lG h';replace e1:=x9 (by omega) (by omega) e1;replace e3:=F8 (λo ho=>jc h ho) (λo ho=>jc h' ho) e3;obtain⟨s,os,d⟩:=t;obtain⟨s',os',d'⟩:=t';simp only at e1 e2 e3 s1 s2;obtain rfl:s=s':=by omega
 subst e3
 have:d=d':=by cases d<;>cases d'<;>simp at e2 ⊢
 subst this;rfl
theorem MN{t t':aF}(h:eP t=true)(h':eP t'=true)(e:qF t=qF t'):t=t':=by
 have:=vG h
 rw[e,vG h']at this
 exact(IJ h' h this).symm
open Classical in
noncomputable def iK (s:List UInt8):Option aF:=if h:∃t,eP t=true/\qF t=s then some h.choose else none
theorem qj{s:List UInt8}{t:aF}:iK s=some t↔eP t=true/\qF t=s:=by
 unfold iK;constructor
 ·intro e;split at e
  ·rename_i h;injection e with e;rw[<-e];exact h.choose_spec
  ·cases e
 ·rintro⟨h1,h2⟩;have h:∃t,eP t=true/\qF t=s:=⟨t,h1,h2⟩;rw[dif_pos h];exact fU some (MN h.choose_spec.1 h1 (h.choose_spec.2.trans h2.symm))
structure dZ where
 aD:Int
 steps:List aJ
instance:Inhabited dZ:=⟨⟨0,[]⟩⟩
def dK(o:aJ):Bool:=(mh o || jl o)&&kV o.key 0 2&&o.value==0
def aY(d:dZ):Bool:=kV d.aD 0 3&&decide (1<=d.steps.length/\d.steps.length<=4)&&d.steps.all dK
def bJ(p:List dZ):Bool:=decide (p.length<=4)&&p.all aY
def kX(o:aJ):List UInt8:=[bu o,mW o.key.toNat]
def bH(d:dZ):List (List UInt8):=[115,mW d.aD.toNat] :: d.steps.map kX
def bZ(d:dZ):List UInt8:=joinL [32] (bH d)
def dR(p:List dZ):List UInt8:=joinL [59,32] (p.map bZ)
theorem jD{o:aJ}(h:dK o=true):o.kind=1∨o.kind=2:=by simp only[dK,mh,jl,bK,qo,beq_iff_eq]at h;exact h.1.1
theorem iO{o:aJ}(h:dK o=true):0<=o.key/\o.key<=2:=by simp only[dK,bK]at h;exact cK.1 h.1.2
theorem mO{o:aJ}(h:dK o=true):o.value=0:=by simp only[dK,bK,beq_iff_eq]at h;exact h.2
theorem iL{d:dZ}(h:aY d=true):0<=d.aD/\d.aD<=3:=by simp only[aY,bK]at h;exact cK.1 h.1.1
theorem gK{d:dZ}(h:aY d=true):1<=d.steps.length/\d.steps.length<=4:=by simp only[aY,bK,eG]at h;exact h.1.2
theorem fE{d:dZ}(h:aY d=true){o:aJ}(ho:o∈d.steps):dK o=true:=by simp only[aY,bK,iN]at h;exact h.2 o ho
theorem jB{p:List dZ}(h:bJ p=true):p.length<=4:=by simp only[bJ,bK,eG]at h;exact h.1
theorem cZ{p:List dZ}(h:bJ p=true){d:dZ}(hd:d∈p):aY d=true:=by simp only[bJ,bK,iN]at h;exact h.2 d hd
theorem Ht(o:aJ):bu o=119∨bu o=114:=by unfold bu;split<;>simp
theorem Kq{o o':aJ}(h:dK o=true)(h':dK o'=true)(e:kX o=kX o'):o=o':=by unfold kX at e;injection e with e1 e;injection e with e2 e;have k1:=iO h;have k2:=iO h';have e2:=x9 (by omega) (by omega) e2;refine aJ.ext' ?_ (by omega) (by rw[mO h,mO h']);have c1:=jD h;have c2:=jD h';unfold bu jl at e1;rcases c1 with c1|c1<;>rcases c2 with c2|c2<;>rw[c1,c2]at e1 ⊢<;>simp at e1
theorem Aw{d:dZ}(h:aY d=true){b:UInt8}(hb:b=32∨b=59):∀w∈bH d,GV b w:=λw hw=>by
 have hs:=iL h;unfold bH at hw;simp only[iC,dX]at hw;rcases hw with rfl|⟨o,ho,rfl⟩
 ·intro x hx;simp only[iC,yh,or_false]at hx;rcases hx with rfl|rfl
  ·rcases hb with rfl|rfl<;>decide
  ·exact Bc (by omega) (by rcases hb with rfl|rfl<;>decide)
 ·have hk:=iO (fE h ho);intro x hx;simp only[kX,iC,yh,or_false]at hx;rcases hx with rfl|rfl
  ·rcases Ht o with e|e<;>rw[e]<;>rcases hb with rfl|rfl<;>decide
  ·exact Bc (by omega) (by rcases hb with rfl|rfl<;>decide)
theorem Co{b:UInt8}{sep:List UInt8}(hs:GV b sep):∀{ws:List (List UInt8)},(∀w∈ws,GV b w)->GV b (joinL sep ws)
 | [],_=>λx hx=>by simp[joinL]at hx
 | [w],h=>h w (by simp)
 | w :: v :: r,h=>λx hx=>by
   rw[fV _ _ _ (by simp)]at hx;simp only[iR]at hx;rcases hx with (hx|hx)|hx
   ·exact h w (by simp) x hx
   ·exact hs x hx
   ·exact Co hs (λz hz=>h z (by simp only[iC]at hz ⊢;exact .inr hz)) x hx
theorem Ij{d:dZ}(h:aY d=true):GV 59 (bZ d):=Co (by intro x hx;simp at hx;subst hx;decide) (Aw h (.inr rfl))
theorem nU{d:dZ}(h:aY d=true):splitL 32 (bZ d)=bH d:=qQ (by simp[bH]) (Aw h (.inl rfl))
theorem zh:∀{a b:List aJ},(∀o∈a,dK o=true)->(∀o∈b,dK o=true)->a.map kX=b.map kX->a=b
 | [],[],_,_,_=>rfl
 | [],_ :: _,_,_,e=>by simp at e
 | _ :: _,[],_,_,e=>by simp at e
 | x :: a,y :: b,ha,hb,e=>by simp only[iF,List.cons.injEq]at e;rw[Kq (ha x (by simp)) (hb y (by simp)) e.1,zh (λo ho=>ha o (by simp[ho])) (λo ho=>hb o (by simp[ho])) e.2]
theorem Hu{d d':dZ}(h:aY d=true)(h':aY d'=true)(e:bZ d=bZ d'):d=d':=by
 have e:=nU h▸(fU (splitL 32) e).symm▸nU h';unfold bH at e;simp only[List.cons.injEq]at e;obtain⟨⟨_,e1,_⟩,e3⟩:=e;have s1:=iL h;have s2:=iL h';replace e1:=x9 (by omega) (by omega) e1;replace e3:=zh (λo ho=>fE h ho) (λo ho=>fE h' ho) e3;obtain⟨s,os⟩:=d;obtain⟨s',os'⟩:=d';simp only at e1 e3 s1 s2;obtain rfl:s=s':=by omega
 subst e3;rfl
theorem Ky{d:dZ}:bZ d≠[]:=by
 unfold bZ bH
 cases d.steps with
 | nil=>simp[joinL]
 | cons o r=>rw[iF,fV _ _ _ (by simp)];simp
def splitS:List UInt8->List (List UInt8)
 | []=>[[]]
 | 59 :: 32 :: l=>[] :: splitS l
 | x :: l=>match splitS l with
   | []=>[[x]]
   | y :: r=>(x :: y) :: r
theorem J7:∀l,splitS l≠[]:=λl=>by
 unfold splitS;split
 ·simp
 ·simp
 ·split<;>simp
theorem uG{x:UInt8}(l:List UInt8)(h:x≠59):splitS (x :: l)=match splitS l with
 | []=>[[x]]
 | y :: r=>(x :: y) :: r:=by
 rw[splitS];intro t e;exact absurd e h
theorem zY:∀{l:List UInt8},GV 59 l->splitS l=[l]
 | [],_=>rfl
 | x :: l,h=>by rw[uG l (h x (by simp)),zY (λy hy=>h y (by simp[hy]))]
theorem wS:∀{x l:List UInt8},GV 59 x->splitS (x++59 :: 32 :: l)=x :: splitS l
 | [],l,_=>by simp[splitS]
 | y :: x,l,h=>by rw[List.cons_append,uG _ (h y (by simp)),wS (λz hz=>h z (by simp[hz]))]
theorem xe:∀{ws:List (List UInt8)},ws≠[]->(∀w∈ws,GV 59 w)->splitS (joinL [59,32] ws)=ws
 | [],h,_=>absurd rfl h
 | [w],_,h=>zY (h w (by simp))
 | w :: v :: r,_,h=>by
   have:joinL [59,32] (w :: v :: r)=w++59 :: 32 :: joinL [59,32] (v :: r):=by rw[fV _ _ _ (by simp)];simp
   rw[this,wS (h w (by simp)),xe (by simp) (λx hx=>h x (by simp only[iC]at hx ⊢;exact .inr hx))]
theorem pM{p:List dZ}(h:bJ p=true)(hp:p≠[]):splitS (dR p)=p.map bZ:=
 xe (by simpa using hp) (λw hw=>by obtain⟨d,hd,rfl⟩:=dX.1 hw;exact Ij (cZ h hd))
theorem wN:∀{a b:List dZ},(∀o∈a,aY o=true)->(∀o∈b,aY o=true)->a.map bZ=b.map bZ->a=b
 | [],[],_,_,_=>rfl
 | [],_ :: _,_,_,e=>by simp at e
 | _ :: _,[],_,_,e=>by simp at e
 | x :: a,y :: b,ha,hb,e=>by simp only[iF,List.cons.injEq]at e;rw[Hu (ha x (by simp)) (hb y (by simp)) e.1,wN (λo ho=>ha o (by simp[ho])) (λo ho=>hb o (by simp[ho])) e.2]
theorem Cy{p:List dZ}:dR p=[]↔p=[]:=by
 constructor
 ·intro h
  cases p with
  | nil=>rfl
  | cons d r=>
    exfalso;unfold dR at h
    cases r with
    | nil=>exact Ky h
    | cons d' r=>
      rw[iF,fV _ _ _ (by simp)]at h;simp at h
 ·rintro rfl;rfl
theorem J5{p p':List dZ}(h:bJ p=true)(h':bJ p'=true)(e:dR p=dR p'):p=p':=by
 by_cases hp:p=[]
 ·subst hp
  exact(Cy.1 (e.symm.trans rfl)).symm
 ·have hp':p'≠[]:=λe'=>hp (Cy.1 (by rw[e,e'];rfl))
  have:=pM h hp
  rw[e,pM h' hp']at this
  exact(wN (λd hd=>cZ h' hd) (λd hd=>cZ h hd) this).symm
open Classical in
noncomputable def dO (s:List UInt8):Option (List dZ):=if h:∃p,bJ p=true/\dR p=s then some h.choose else none
theorem je{s:List UInt8}{p:List dZ}:dO s=some p↔bJ p=true/\dR p=s:=by
 unfold dO;constructor
 ·intro e;split at e
  ·rename_i h;injection e with e;rw[<-e];exact h.choose_spec
  ·cases e
 ·rintro⟨h1,h2⟩;have h:∃p,bJ p=true/\dR p=s:=⟨p,h1,h2⟩;rw[dif_pos h];exact fU some (J5 h.choose_spec.1 h1 (h.choose_spec.2.trans h2.symm))
theorem oD{s:List UInt8}(h:∀p,bJ p=true->dR p≠s):dO s=none:=by
 cases e:dO s with
 | none=>rfl
 | some p=>have:=je.1 e;exact absurd this.2 (h p this.1)
def jk:=Int->Int
def jk.put(s:jk)(k v:Int):jk:=λx=>if x=k then v else s x
def Dt:jk:=λ_=>0
def follow(s:jk):List aJ->Option jk
 | []=>some s
 | o :: r=>if jl o then follow (s.put o.key o.value) r else if s o.key=o.value then follow s r else none
def J2(h:List aF)(n:Nat):List aJ:=(h[n]?.map (·.ops)).getD []
def dfs(h:List aF)(all:List Nat):Nat->jk->List Nat->Option (List Nat)
 | 0,_,order=>some order
 | f+1,s,order=>all.findSome? λn=>if order.contains n then none else (follow s (J2 h n)).bind λs'=>dfs h all f s' (order++[n])
def aB(h:List aF):List Nat:=(List.range h.length).filter λn=>(h[n]?.map (·.done)).getD false
theorem Br(h:List aF):(aB h).Nodup:=List.nodup_range.filter _
def fQ(h:List aF):Option (List Nat):=dfs h (aB h) (aB h).length Dt []
def dm(ops:List aJ)(key:Int):Option aJ:=ops.reverse.find? λo=>jl o&&o.key==key
theorem tV(ops:List aJ)(o:aJ)(key:Int):dm (ops++[o]) key=if jl o=true/\o.key=key then some o else dm ops key:=by
 unfold dm;rw[List.reverse_append,List.reverse_singleton,List.singleton_append,List.find?_cons];by_cases h:jl o=true/\o.key=key
 ·rw[ah h];simp[h.1,h.2]
 ·rw[ak h]
  have:(jl o&&o.key==key)=false:=by cases hw:jl o<;>simp_all
  rw[this]
theorem iM{ops:List aJ}{key:Int}{o:aJ}(h:dm ops key=some o):o∈ops/\jl o=true/\o.key=key:=by unfold dm at h;have h1:=List.find?_some h;have h2:=List.mem_of_find?_eq_some h;simp at h1 h2;exact⟨h2,h1⟩
def aV(ops:List aJ):List aJ:=([0,1,2]:List Int).filterMap (dm ops)
def uC(ops:List aJ)(n:Nat):List aJ:=(List.range n).filterMap λi:Nat=>dm ops (i:Int)
theorem EF(ops:List aJ)(n:Nat):uC ops (n+1)=uC ops n++(dm ops (n:Int)).toList:=by unfold uC;rw[kD,List.filterMap_append];congr 1
theorem kR(ops:List aJ):uC ops 3=aV ops:=by show List.filterMap (λi:Nat=>dm ops (i:Int)) [0,1,2] = _;rfl
theorem nD(ops:List aJ)(n:Nat):(uC ops n).length<=n:=by unfold uC;exact aR (List.length_filterMap_le _ _) (by simp)
theorem gY{ops:List aJ}{o:aJ}:o∈aV ops↔(o.key=0∨o.key=1∨o.key=2)/\dm ops o.key=some o:=by
 unfold aV;rw[List.mem_filterMap];constructor
 ·rintro⟨k,hk,h⟩;have hk':=(iM h).2.2;subst hk';exact⟨by simpa using hk,h⟩
 ·rintro⟨hk,h⟩;exact⟨o.key,by simpa using hk,h⟩
def before(ops:List aJ)(key:Int):Option Int:=(ops.reverse.find? λo=>o.key==key).map (·.value)
theorem wZ(ops:List aJ)(o:aJ)(key:Int):before (ops++[o]) key=if key=o.key then some o.value else before ops key:=by
 unfold before;rw[List.reverse_append,List.reverse_singleton,List.singleton_append,List.find?_cons];by_cases h:key=o.key
 ·rw[ah h];simp[h]
 ·rw[ak h]
  have:(o.key==key)=false:=by simp;exact λe=>h e.symm
  rw[this]
theorem FT{ops:List aJ}{key:Int}(h:before ops key=none){o:aJ}(ho:o∈ops):o.key≠key:=by
 unfold before at h;rw[Option.map_eq_none_iff,List.find?_eq_none]at h
 have:=h o (by simpa using ho)
 simpa using this
def GR(ops:List aJ)(j:Nat):Bool:=match ops[j]? with
 | some o=>mh o&&(before (ops.take j) o.key).isNone
 | none=>false
def zC(ops:List aJ)(k:Nat):List aJ:=(List.range k).filterMap λj=>if GR ops j=true then ops[j]? else none
def uD(ops:List aJ):List aJ:=zC ops ops.length
theorem Lb{ops:List aJ}{k:Nat}{o:aJ}(ho:ops[k]? =some o):zC ops (k+1)=zC ops k++if GR ops k=true then [o] else []:=by unfold zC;rw[kD,List.filterMap_append];congr 1;by_cases h:GR ops k=true<;>simp[h,ho]
theorem EW(ops:List aJ)(k:Nat):(zC ops k).length<=k:=by unfold zC;exact aR (List.length_filterMap_le _ _) (by simp)
theorem JL{ops:List aJ}{o:aJ}:o∈uD ops↔∃j,ops[j]? =some o/\GR ops j=true:=by
 unfold uD zC;rw[List.mem_filterMap];constructor
 ·rintro⟨j,hj,h⟩;split at h
  ·rename_i hf;exact⟨j,h,hf⟩
  ·cases h
 ·rintro⟨j,hj,hf⟩;exact⟨j,by simpa using (aS.1 hj).1,by rw[ah hf];exact hj⟩
def Cr(ops:List aJ)(j:Nat):Bool:=match ops[j]? with
 | some o=>mh o&&(match before (ops.take j) o.key with|some v=>v != o.value|none=>false)
 | none=>false
def xm(ops:List aJ)(k:Nat):Bool:=(List.range k).any (Cr ops)
def yN(ops:List aJ):Bool:=xm ops ops.length
theorem yK(ops:List aJ)(k:Nat):xm ops (k+1)=(xm ops k || Cr ops k):=by unfold xm;rw[kD,List.any_append];simp
def opsOf(h:List aF)(n:Nat):List aJ:=(h[n]?.map (·.ops)).getD []
theorem dM{h:List aF}{n:Nat}{t:aF}(ht:h[n]? =some t):opsOf h n=t.ops:=by simp[opsOf,ht]
def eH(h:List aF)(n:Nat):Bool:=(h[n]?.map (·.done)).getD false
def kM(h:List aF)(key value:Int):Bool:=decide (0<=aQ h key value)&&(dm (opsOf h (aQ h key value).toNat) key).any λo=>o.value==value
def gp(h:List aF)(n:Nat)(o:aJ):Int:=
 if mh o=false∨o.value=0∨aQ h o.key o.value=n then 0
 else if aQ h o.key o.value<0 then 1
 else if eH h (aQ h o.key o.value).toNat=false then 2
 else if kM h o.key o.value=false then 3
 else 0
def yX(h:List aF)(n:Nat)(kind:Int)(ops:List aJ)(j:Nat):Bool:=(ops.take j).any λo=>gp h n o==kind
theorem Jb{h:List aF}{n:Nat}{kind:Int}{ops:List aJ}{j:Nat}{o:aJ}(ho:ops[j]? =some o):yX h n kind ops (j+1)=(yX h n kind ops j || gp h n o==kind):=by unfold yX;rw[aj ho,List.any_append];simp
def qZ(h:List aF)(kind:Int)(n:Nat):Bool:=if kind=4 then yN (opsOf h n) else (opsOf h n).any λo=>gp h n o==kind
def gT(h:List aF)(kind:Int):Bool:=(List.range h.length).any λn=>eH h n&&qZ h kind n
def qU(ops:List aJ):Bool:=(List.range ops.length).any λi=>match ops[i]? with
 | some o=>mh o&&(ops.drop (i+1)).any λl=>decide (l.kind=2/\l.key=o.key/\l.value=o.value)
 | none=>false
def gP(h:List aF):Bool:=aH h && !gT h 1 && !gT h 2 && !gT h 3 && !gT h 4 && !((List.range h.length).any λn=>eH h n&&qU (opsOf h n))
theorem eU{h:List aF}(key value:Int):-1<=aQ h key value/\aQ h key value<h.length:=by
 unfold aQ
 cases hl:lookW (Bo h) (key,value) with
 | none=>simp;omega
 | some n=>
   have hm:((key,value),n)∈Bo h:=by unfold lookW at hl;rw[qi]at hl;obtain⟨p,hp,rfl⟩:=hl;have h1:=List.find?_some hp;have h2:=List.mem_of_find?_eq_some hp;obtain⟨q,n⟩:=p;simp at h1;subst h1;exact h2
   have hn:n<h.length:=by
    have key:∀(l:List aF) (s:Nat) q,(q,n)∈wrsFrom s l->n<s+l.length:=by
     intro l
     induction l with
     | nil=>intro s q hm;simp[wrsFrom]at hm
     | cons t l ih=>
       intro s q hm;rw[wrsFrom,iR]at hm;rcases hm with hm|hm
       ·simp only[iB,dX]at hm;obtain⟨o,_,e⟩:=hm;injection e with _ e2
        simp;omega
       ·have:=ih (s+1) q hm;simp;omega
    have:=key h 0 _ hm
    omega
   simp;omega
def nO(ops:List aJ)(key:Int):List Int:=(aV ops).filterMap λo=>if o.key=key then some o.value else none
def aP(h:List aF)(key:Int):List Int:=(aB h).flatMap λn=>nO (opsOf h n) key
def ow(h:List aF)(key:Int)(m:Nat):List Int:=((aB h).take m).flatMap λn=>nO (opsOf h n) key
def oH(ops:List aJ)(key:Int)(j:Nat):List Int:=((aV ops).take j).filterMap λo=>if o.key=key then some o.value else none
theorem Gn{h:List aF}{key:Int}{m n:Nat}(hn:(aB h)[m]? =some n):ow h key (m+1)=ow h key m++nO (opsOf h n) key:=by unfold ow;rw[aj hn,kI];simp
theorem Gf{ops:List aJ}{key:Int}{j:Nat}{o:aJ}(ho:(aV ops)[j]? =some o):oH ops key (j+1)=oH ops key j++if o.key=key then [o.value] else []:=by unfold oH;rw[aj ho,List.filterMap_append];congr 1;by_cases h:o.key=key<;>simp[h]
theorem rY{ops:List aJ}{key:Int}{o:aJ}(h:dm ops key=some o):o.key=key:=(iM h).2.2
theorem zT(ops:List aJ)(key:Int):(nO ops key).length<=1:=by
 unfold nO aV;rw[List.filterMap_filterMap];have e:∀k:Int,(dm ops k).bind (λo=>if o.key=key then some o.value else none)=if k=key then (dm ops k).map (·.value) else none:=λk=>by
  cases h:dm ops k with
  | none=>simp
  | some o=>simp[rY h]
 simp only[e];by_cases h0:(0:Int)=key
 ·subst h0;simp only[qN,List.filterMap_nil];cases dm ops 0<;>simp
 ·by_cases h1:(1:Int)=key
  ·subst h1;simp only[qN,List.filterMap_nil];cases dm ops 1<;>simp
  ·by_cases h2:(2:Int)=key
   ·subst h2;simp only[qN,List.filterMap_nil];cases dm ops 2<;>simp
   ·simp[h0,h1,h2]
theorem yQ(h:List aF)(key:Int)(m:Nat):(ow h key m).length<=m:=by
 unfold ow;rw[Ee]
 have:∀l:List Nat,(l.map λn=>(nO (opsOf h n) key).length).sum<=l.length:=λl=>by
  induction l with
  | nil=>simp
  | cons n l ih=>have:=zT (opsOf h n) key;simp;omega
 exact aR (this _) (by simp;omega)
theorem Ii(ops:List aJ)(key:Int)(j:Nat):(oH ops key j).length<=j:=by unfold oH;exact aR (List.length_filterMap_le _ _) (by simp;omega)
theorem Ay(h:List aF)(key:Int):ow h key (aB h).length=aP h key:=by unfold ow aP;rw[bY]
theorem jd(h:List aF)(key:Int):(aP h key).length<=h.length:=by
 rw[<-Ay];have h1:=yQ h key (aB h).length;have h2:(aB h).length<=h.length:=by
  have:=zM (λn=>(h[n]?.map (·.done)).getD false) (List.range h.length)
  simpa[aB] using this
 omega
def permsN:Nat->List Int->List (List Int)
 | 0,_=>[[]]
 | n+1,xs=>(List.range xs.length).flatMap λi=>(permsN n (xs.eraseIdx i)).map (xs.getD i 0 :: ·)
def perms(xs:List Int):List (List Int):=permsN xs.length xs
def iT(xs:List Int)(k:Nat):List (List Int):=(List.range k).flatMap λi=>(perms (xs.eraseIdx i)).map (xs.getD i 0 :: ·)
theorem Ci{xs:List Int}(hx:0<xs.length):perms xs=iT xs xs.length:=by
 unfold perms iT;obtain⟨n,hn⟩:∃n,xs.length=n+1:=⟨xs.length-1,by omega⟩;rw[hn,permsN,hn]
 have:∀i∈List.range (n+1),(permsN n (xs.eraseIdx i)).map (xs.getD i 0 :: ·)=(permsN (xs.eraseIdx i).length (xs.eraseIdx i)).map (xs.getD i 0 :: ·):=λi hi=>by rw[qx,ah (by rw[hn];simpa using hi),hn];rfl
 rw[List.flatMap_eq_foldl,List.flatMap_eq_foldl];have key:∀(l:List Nat) (acc:List (List Int)),(∀i∈l,i∈List.range (n+1))->l.foldl (λacc i=>acc++(permsN n (xs.eraseIdx i)).map (xs.getD i 0 :: ·)) acc=l.foldl (λacc i=>acc++(permsN (xs.eraseIdx i).length (xs.eraseIdx i)).map (xs.getD i 0 :: ·)) acc:=by
  intro l
  induction l with
  | nil=>intro acc _;rfl
  | cons i l ih=>
    intro acc hl;rw[kL,kL,this i (hl i (by simp)),ih _ (λj hj=>hl j (by simp[hj]))]
 exact key _ _ (λi hi=>hi)
theorem uE{xs:List Int}{k:Nat}:iT xs (k+1)=iT xs k++(perms (xs.eraseIdx k)).map (xs.getD k 0 :: ·):=by unfold iT;rw[kD,kI];simp
theorem tK:∀(xs:List Int) (i:Nat) (hi:i<xs.length),(xs[i] :: xs.eraseIdx i).Perm xs
 | x :: xs,0,_=>.refl _
 | x :: xs,i+1,h=>by
   simp only[List.getElem_cons_succ,List.eraseIdx_cons_succ]
   exact(List.Perm.swap x _ _).trans ((tK xs i (by simpa using h)).cons x)
theorem Gq:∀n (xs:List Int),xs.length=n->∀p∈permsN n xs,p.Perm xs:=by
 intro n
 induction n with
 | zero=>
   intro xs hx p hp;obtain rfl:xs=[]:=kZ hx;simp[permsN]at hp;subst hp;exact .refl _
 | succ n ih=>
   intro xs hx p hp;simp only[permsN,List.mem_flatMap,j5,dX]at hp;obtain⟨i,hi,q,hq,rfl⟩:=hp;have hl:(xs.eraseIdx i).length=n:=by rw[qx,ah hi];omega
   have:=ih _ hl q hq
   have h2:(xs.getD i 0 :: xs.eraseIdx i).Perm xs:=by rw[show xs.getD i 0=xs[i] by simp[List.getD,dz hi]];exact tK xs i hi
   exact(this.cons _).trans h2
theorem pU{xs p:List Int}(hp:p∈perms xs):p.Perm xs:=Gq _ xs rfl p hp
def fact:Nat->Nat
 | 0=>1
 | n+1=>fact n*(n+1)
theorem Jc:∀n (xs:List Int),xs.length=n->(permsN n xs).length=fact n:=by
 intro n
 induction n with
 | zero=>intro xs _;rfl
 | succ n ih=>
   intro xs hx;rw[permsN,Ee,hx]
   have:(List.range (n+1)).map (λi=>((permsN n (xs.eraseIdx i)).map (xs.getD i 0 :: ·)).length)=(List.range (n+1)).map λ_=>fact n:=by apply List.map_congr_left;intro i hi;rw[dF];exact ih _ (by rw[qx,ah (by rw[hx];simpa using hi)];omega)
   rw[this,fact];have hs:∀m c:Nat,((List.range m).map λ_=>c).sum=c*m:=λm c=>by
    induction m with
    | zero=>rfl
    | succ m ih=>rw[kD,j3,List.sum_append,ih];simp[Nat.mul_add]
   exact hs _ _
theorem ni(xs:List Int):(perms xs).length=fact xs.length:=Jc _ xs rfl
theorem Ed{n:Nat}(h:n<=6):fact n<=720:=by
 have:n=0∨n=1∨n=2∨n=3∨n=4∨n=5∨n=6:=by omega
 rcases this with rfl|rfl|rfl|rfl|rfl|rfl|rfl<;>decide
def iP(h:List aF):Nat:=fact (aP h 0).length*fact (aP h 1).length*fact (aP h 2).length
def bq(h:List aF):Nat->List (List (List Int))
 | 0=>[[]]
 | k+1=>(bq h k).flatMap λbegun=>(perms (aP h (k:Int))).map λorder=>begun++[order]
def gD(h:List aF):List (List (List Int)):=if aH h=true/\iP h<=200 then bq h 3 else []
structure pG where
 h:List aF
 vals:jk
 bG:jk
 kept:Nat->jk
 began:Nat->jk
def fH(ops:List aJ)(s:jk)(key:Int):Int:=((dm ops key).map (·.value)).getD (s key)
def rZ(p:List dZ)(n:Nat):List aJ:=(p[n]?.map (·.steps)).getD []
def zQ(h:List aF)(n:Nat):Int:=(h[n]?.map (·.aD)).getD 0
def jX(s:jk)(ws:List aJ):jk:=ws.foldl (λs w=>s.put w.key w.value) s
def fD(s:jk)(ws:List aJ):jk:=ws.foldl (λs w=>s.put w.key (s w.key+1)) s
def lY(bG began:jk)(ws:List aJ):Bool:=ws.all λw=>bG w.key==began w.key
def wu(f:Nat->jk)(n:Nat)(s:jk):Nat->jk:=λx=>if x=n then s else f x
def ji(m:pG)(n:Nat)(o:aJ):aJ:=
 if jl o then ⟨o.kind,o.key,10*((n:Int)+1)+((opsOf m.h n).length:Int)+1⟩ else ⟨o.kind,o.key,fH (opsOf m.h n) (m.kept n) o.key⟩
def aA(m:pG)(n:Nat):pG:=if (opsOf m.h n).length=0 then { m with kept:=wu m.kept n m.vals,began:=wu m.began n m.bG } else m
def iZ(m:pG)(n:Nat)(o:aJ)(d:Bool):pG:={ m with h:=m.h.set n ⟨zQ m.h n,opsOf m.h n++[o],d⟩ }
def Bi(m:pG)(n:Nat)(o:aJ):pG:=
 let ws:=aV (opsOf m.h n++[o])
 if lY m.bG (m.began n) ws=true then { iZ m n o true with vals:=jX m.vals ws,bG:=fD m.bG ws } else iZ m n o false
def stepM(p:List dZ)(m:pG)(n:Nat):pG:=
 match (rZ p n)[(opsOf m.h n).length]? with
 | none=>m
 | some o=>if (opsOf m.h n).length+1=(rZ p n).length then Bi (aA m n) n (ji (aA m n) n o) else iZ (aA m n) n (ji (aA m n) n o) false
def iD(p:List dZ):pG:=⟨p.map λd=>⟨d.aD,[],false⟩,Dt,Dt,λ_=>Dt,λ_=>Dt⟩
def dA(n:Nat):List Nat:=List.range n++List.range n++List.range n++List.range n
def fo(p:List dZ)(k:Nat):pG:=((dA p.length).take k).foldl (stepM p) (iD p)
def jJ(p:List dZ):List aF:=(fo p (dA p.length).length).h
theorem nK{p:List dZ}{k n:Nat}(hn:(dA p.length)[k]? =some n):fo p (k+1)=stepM p (fo p k) n:=by unfold fo;rw[aj hn,tO];rfl
theorem rU{m n:Nat}(h:n∈dA m):n<m:=by unfold dA at h;simp only[iR,j5]at h;omega
theorem G8(m:Nat):(dA m).length=4*m:=by simp[dA];omega
theorem oU(m:pG)(n:Nat):(aA m n).h=m.h:=by unfold aA;split<;>rfl
def OD(s:jk):Prop:=∀k,0<=s k/\s k<=99
structure kW (p:List dZ) (m:pG):Prop where
 len:m.h.length=p.length
 tx:∀(n:Nat) t d,m.h[n]? =some t->p[n]? =some d->t.aD=d.aD/\t.ops.length<=d.steps.length /\
  ∀(s:Nat) o,t.ops[s]? =some o->∃o0,d.steps[s]? =some o0/\o.kind=o0.kind/\o.key=o0.key/\(jl o=true->o.value=10*((n:Int)+1)+s+1)/\0<=o.value/\o.value<=99
 vals:OD m.vals
 kept:∀n,OD (m.kept n)
theorem OD.put{s:jk}(h:OD s)(k v:Int)(hv:0<=v/\v<=99):OD (s.put k v):=λx=>by
 unfold jk.put;split
 ·exact hv
 ·exact h x
theorem Kk{s:jk}(h:OD s):∀(ws:List aJ),(∀w∈ws,0<=w.value/\w.value<=99)->OD (jX s ws):=by
 intro ws
 induction ws generalizing s with
 | nil=>intro _;exact h
 | cons w ws ih=>
   intro hw;exact ih (h.put _ _ (hw w (by simp))) (λx hx=>hw x (by simp[hx]))
theorem kW.start{p:List dZ}:kW p (iD p) where
 len:=by simp[iD]
 tx n t d ht hd:=by simp only[iD,jM,hd,Option.map_some,Option.some.injEq]at ht;subst ht;exact⟨rfl,by simp,λs o ho=>by simp at ho⟩
 vals:=λ_=>by simp[iD,Dt]
 kept:=λ_ _=>by simp[iD,Dt]
theorem kW.begin_{p:List dZ}{m:pG}(h:kW p m)(n:Nat):kW p (aA m n):=by
 unfold aA;split
 ·refine⟨h.len,h.tx,h.vals,λx=>?_⟩;show OD (wu m.kept n m.vals x);unfold wu;split
  ·exact h.vals
  ·exact h.kept x
 ·exact h
theorem Cc{h:List aF}{n:Nat}{t:aF}(ht:h[n]? =some t):zQ h n=t.aD:=by simp[zQ,ht]
theorem ql{p:List dZ}{n:Nat}{d:dZ}(hd:p[n]? =some d):rZ p n=d.steps:=by simp[rZ,hd]
theorem MJ{ops:List aJ}{s:jk}(hs:OD s)(ho:∀o∈ops,0<=o.value/\o.value<=99)(key:Int):0<=fH ops s key/\fH ops s key<=99:=by
 unfold fH
 cases e:dm ops key with
 | none=>exact hs key
 | some o=>exact ho o (iM e).1
theorem Nh{p:List dZ}{m:pG}(h:kW p m)(hp:bJ p=true){n:Nat}{t:aF}{d:dZ}{o0:aJ}(ht:m.h[n]? =some t)(hd:p[n]? =some d)(ho:d.steps[t.ops.length]? =some o0) :
 (ji m n o0).kind=o0.kind/\(ji m n o0).key=o0.key/\(jl (ji m n o0)=true->(ji m n o0).value=10*((n:Int)+1)+t.ops.length+1)/\0<=(ji m n o0).value/\(ji m n o0).value<=99:=by
 have hn:n<4:=by have:=(aS.1 hd).1;have:=jB hp;omega
 have hs:t.ops.length<4:=by have:=(aS.1 ho).1;have:=(gK (cZ hp (aN hd))).2;omega
 unfold ji;rw[dM ht];by_cases hw:jl o0=true
 ·rw[ah hw];exact⟨rfl,rfl,λ_=>rfl,by show (0:Int)<=10*((n:Int)+1)+(t.ops.length:Int)+1;omega,by show 10*((n:Int)+1)+(t.ops.length:Int)+1<=(99:Int);omega⟩
 ·rw[ak hw];refine⟨rfl,rfl,λhw'=>absurd hw' hw,?_⟩;exact MJ (h.kept n) (λo ho'=>by
   obtain⟨i,hi,rfl⟩:=jw ho'
   exact((h.tx n t d ht hd).2.2 i _ (dz hi)).choose_spec.2.2.2.2) _
theorem kW.note{p:List dZ}{m:pG}(h:kW p m){n:Nat}{t:aF}{d:dZ}{o o0:aJ}(dn:Bool)(ht:m.h[n]? =some t)(hd:p[n]? =some d)(ho:d.steps[t.ops.length]? =some o0)
 (hok:o.kind=o0.kind/\o.key=o0.key/\(jl o=true->o.value=10*((n:Int)+1)+t.ops.length+1)/\0<=o.value/\o.value<=99):kW p (iZ m n o dn) where
 len:=by show (m.h.set n _).length = _;rw[jO];exact h.len
 tx x t' d' ht' hd':=by
  replace ht':(m.h.set n ⟨zQ m.h n,opsOf m.h n++[o],dn⟩)[x]? =some t':=ht';rw[kF]at ht';split at ht'
  ·rename_i e;subst e;split at ht'
   ·cases ht';rw[hd]at hd';cases hd';obtain⟨a,b,c⟩:=h.tx n t d ht hd;rw[Cc ht,dM ht];refine⟨a,?_,λs o' ho'=>?_⟩
    ·have:=(aS.1 ho).1
     simp;omega
    ·rw[oQ]at ho';split at ho'
     ·exact c s o' ho'
     ·rename_i hlt;have e0:s-t.ops.length=0:=by
       have:=(aS.1 ho').1
       simp at this;omega
      rw[e0]at ho';simp at ho';subst ho';have e1:s=t.ops.length:=by omega
      subst e1;exact⟨o0,ho,hok⟩
   ·cases ht'
  ·exact h.tx x t' d' ht' hd'
 vals:=h.vals
 kept:=h.kept
theorem O8{p:List dZ}{m:pG}(h:kW p m){n:Nat}{t:aF}{d:dZ}(ht:m.h[n]? =some t)(hd:p[n]? =some d):∀o∈t.ops,0<=o.value/\o.value<=99:=λo ho=>by
 obtain⟨i,hi,rfl⟩:=jw ho
 exact((h.tx n t d ht hd).2.2 i _ (dz hi)).choose_spec.2.2.2.2
theorem kW.step{p:List dZ}{m:pG}(h:kW p m)(hp:bJ p=true){n:Nat}(hn:n<p.length):kW p (stepM p m n):=by
 obtain⟨d,hd⟩:∃d,p[n]? =some d:=⟨_,dz hn⟩;obtain⟨t,ht⟩:∃t,m.h[n]? =some t:=⟨_,dz (by rw[h.len];exact hn)⟩;unfold stepM;rw[ql hd,dM ht];split
 ·exact h
 ·rename_i o0 ho;have hB:=h.begin_ n;have RN:(aA m n).h[n]? =some t:=by rw[oU];exact ht
  have hok:=Nh hB hp RN hd ho;split
  ·unfold Bi;simp only;split
   ·have hN:=hB.note true RN hd ho hok;refine⟨hN.len,hN.tx,?_,hN.kept⟩;refine Kk hB.vals _ (λw hw=>?_);have hm:=(iM (gY.1 hw).2).1;rw[dM RN,iR]at hm;rcases hm with hm|hm
    ·exact O8 hB RN hd w hm
    ·simp at hm;subst hm;exact hok.2.2.2
   ·exact hB.note false RN hd ho hok
  ·exact hB.note false RN hd ho hok
theorem uR{p:List dZ}(hp:bJ p=true):∀k,k<=(dA p.length).length->kW p (fo p k):=by
 intro k
 induction k with
 | zero=>intro _;exact kW.start
 | succ k ih=>
   intro hk;have hx:=dz (show k<(dA p.length).length by omega);rw[nK hx]
   exact(ih (by omega)).step hp (rU (List.getElem_mem _))
theorem JR{p:List dZ}{m:pG}(h:kW p m)(hp:bJ p=true):aH m.h=true:=by
 have hl:m.h.length<=4:=by rw[h.len];exact jB hp
 have hD:∀(n:Nat) t,m.h[n]? =some t->∃d,p[n]? =some d/\aY d=true:=λn t ht=>by
  have hn:=(aS.1 ht).1;have hn':n<p.length:=by rw[<-h.len];exact hn
  exact⟨p[n],dz hn',cZ hp (List.getElem_mem _)⟩
 unfold aH;simp only[bK,eG,iN];refine⟨⟨by omega,λt ht=>?_⟩,?_⟩
 ·obtain⟨n,hn,rfl⟩:=jw ht;have ht':=dz hn;obtain⟨d,hd,hdo⟩:=hD n _ ht';obtain⟨a,b,c⟩:=h.tx n _ d ht' hd;have h1:=iL hdo;have h2:=gK hdo;unfold eP;simp only[bK,eG,iN];refine⟨⟨cK.2 (by omega),by omega⟩,λo ho=>?_⟩;obtain⟨i,hi,rfl⟩:=jw ho;obtain⟨o0,h0,e1,e2,e3,e4⟩:=c i _ (dz hi);have hs:=fE hdo (aN h0);have hk:=jD hs;have hy:=iO hs;unfold jm;simp only[bK];refine⟨⟨⟨?_,cK.2 (by omega)⟩,cK.2 (by omega)⟩,?_⟩
  ·simp[mh,jl];omega
  ·cases hw:jl (m.h[n].ops[i]) with
   | false=>rfl
   | true=>
     have:=e3 hw
     simp;omega
 ·
  have key:∀(l:List aF) (n:Nat),(∀(i:Nat) t,l[i]? =some t->t.ops.length<=4/\∀(s:Nat) o,t.ops[s]? =some o->jl o=true->o.value=10*(((n+i:Nat):Int)+1)+s+1) ->
   ((wrsFrom n l).map (·.1.2)).Pairwise (· < ·)/\∀x∈wrsFrom n l,10*((n:Int)+1)<x.1.2:=by
   intro l
   induction l with
   | nil=>intro n _;simp[wrsFrom]
   | cons t l ih=>
     intro n hall;obtain⟨h4,hv⟩:=hall 0 t rfl;obtain⟨i1,i2⟩:=ih (n+1) (λi t' ht'=>by
      have:=hall (i+1) t' (by simpa using ht')
      refine⟨this.1,λs o ho hw=>?_⟩;rw[this.2 s o ho hw];congr 3
      omega)
     have hone:∀(ops:List aJ) (b:Int),(∀(s:Nat) o,ops[s]? =some o->jl o=true->o.value=b+s+1)->((iB n ops).map (·.1.2)).Pairwise (· < ·)/\∀x∈iB n ops,b<x.1.2/\x.1.2<=b+ops.length:=by
      intro ops
      induction ops with
      | nil=>intro b _;simp[iB]
      | cons o ops ih2=>
        intro b hb;obtain⟨j1,j2⟩:=ih2 (b+1) (λs o' ho' hw=>by
         have:=hb (s+1) o' (by simpa using ho') hw
         rw[this]
         omega)
        have e:iB n (o :: ops)=(if jl o then [((o.key,o.value),n)] else [])++iB n ops:=by
         unfold iB;rw[uk]
         split<;>simp
        rw[e];by_cases hw:jl o=true
        ·have hv0:=hb 0 o rfl hw;rw[ah hw];refine⟨?_,λx hx=>?_⟩
         ·rw[List.singleton_append,iF,List.pairwise_cons];refine⟨λy hy=>?_,j1⟩;obtain⟨x,hx,rfl⟩:=dX.1 hy
          have:=(j2 x hx).1
          simp only;omega
         ·rw[List.singleton_append,iC]at hx;rcases hx with rfl|hx
          ·simp only[eF];omega
          ·have:=j2 x hx
           simp only[eF];omega
        ·rw[ak hw,List.nil_append];refine⟨j1,λx hx=>?_⟩
         have:=j2 x hx
         simp only[eF];omega
     obtain⟨k1,k2⟩:=hone t.ops (10*((n:Int)+1)) (λs o ho hw=>by have:=hv s o ho hw;simpa using this);rw[wrsFrom];refine⟨?_,λx hx=>?_⟩
     ·rw[j3,List.pairwise_append];refine⟨k1,i1,λa ha b hb=>?_⟩;obtain⟨x,hx,rfl⟩:=dX.1 ha;obtain⟨y,hy,rfl⟩:=dX.1 hb;have h1:=(k2 x hx).2;have h2:=i2 y hy;omega
     ·rw[iR]at hx;rcases hx with hx|hx
      ·exact(k2 x hx).1
      ·have:=i2 x hx
       omega
  obtain⟨k1,_⟩:=key m.h 0 (λi t ht=>by
   obtain⟨d,hd,hdo⟩:=hD i t ht;obtain⟨a,b,c⟩:=h.tx i t d ht hd;refine⟨by have:=(gK hdo).2;omega,λs o ho hw=>?_⟩;obtain⟨o0,_,_,_,e3,_⟩:=c s o ho;rw[e3 hw]
   simp)
  refine wT ?_
  have:((Bo m.h).map (·.1.2)).Nodup:=k1.imp (λhab=>Int.ne_of_lt hab)
  rw[show (Bo m.h).map (·.1.2)=((Bo m.h).map (·.1)).map (·.2) by simp]at this;unfold List.Nodup at this ⊢;rw[List.pairwise_map]at this;exact this.imp (λhab e=>hab (by rw[e]))
theorem p8{p:List dZ}(hp:bJ p=true):aH (jJ p)=true:=JR (uR hp _ (ay _)) hp
structure bF (X:Nat->Prop) (w w':World):Prop where
 os:w'.os=w.os
 tape:w'.tape=w.tape
 output:w'.output=w.output
 size:w.heap.size<=w'.heap.size
 block:∀k,k<w.heap.size->¬X k->w'.heap[k]? =w.heap[k]?
theorem bF.refl(X:Nat->Prop)(w:World):bF X w w:=⟨rfl,rfl,rfl,ay _,λ_ _ _=>rfl⟩
theorem bF.aO{X:Nat->Prop}{w w':World}(h:Ext w w'):bF X w w':=⟨Below.os h,Below.tape h,Below.output h,h.size,λk hk _=>Below.block h k hk⟩
theorem bF.trans{X:Nat->Prop}{a b c:World}(h:bF X a b)(k:bF X b c):bF X a c:=
 ⟨k.os.trans h.os,k.tape.trans h.tape,k.output.trans h.output,aR h.size k.size,λi hi hx=>(k.block i (dJ hi h.size) hx).trans (h.block i hi hx)⟩
theorem bF.more{X Y:Nat->Prop}{w0 w w':World}(h:bF X w0 w)(k:bF Y w w')(hY:∀i,Y i->X i∨w0.heap.size<=i):bF X w0 w':=
 ⟨k.os.trans h.os,k.tape.trans h.tape,k.output.trans h.output,aR h.size k.size,λi hi hx=>(k.block i (dJ hi h.size) (λhy=>(hY i hy).elim hx (λh'=>by omega))).trans (h.block i hi hx)⟩
theorem bF.wide{X Y:Nat->Prop}{w w':World}(h:bF X w w')(hX:∀i,X i->Y i):bF Y w w':=⟨h.os,h.tape,h.output,h.size,λk hk hx=>h.block k hk (λx=>hx (hX k x))⟩
theorem bF.alloc{X:Nat->Prop}{a b:World}(h:bF X a b)(o:Obj):bF X a (b.alloc o):=h.trans (.aO ((af b).alloc o))
theorem bF.drew{X:Nat->Prop}{a b:World}(h:bF X a b):bF X a b.drew:=h.trans (.aO (af b).drew)
theorem bF.ext{X:Nat->Prop}{a b c:World}(h:bF X a b)(k:Ext b c):bF X a c:=h.trans (.aO k)
theorem bF.setCell{X:Nat->Prop}{a b:World}(h:bF X a b){p:Addr}(hp:X p.block∨a.heap.size<=p.block)(u:Value):bF X a (b.setCell p u):=
 h.more (Y:=λi=>i=p.block) ⟨rfl,rfl,rfl,by simp[World.setCell],λk _ hk=>Below.heap_setCell _ _ _ k hk⟩ (λi e=>e▸hp)
theorem bF.grown{X:Nat->Prop}{a b c:World}(h:bF X a b){row:Option Nat}(k:b.grownBy c row)(hr:∀i,row=some i->X i∨a.heap.size<=i):bF X a c:=
 h.more (Y:=λi=>row=some i) ⟨k.os,k.tape,k.output,k.size,λi hi hn=>k.block i hi (λe=>hn e.symm)⟩ hr
theorem bF.out{X:Nat->Prop}{w0 w w':World}(hb:Ext w0 w)(h:bF X w w')(hX:∀i,X i->w0.heap.size<=i):Ext w0 w':=by have hb':Below w0.heap.size w0 w:=hb;exact⟨h.os.trans hb'.os,h.tape.trans hb'.tape,h.output.trans hb'.output,aR hb'.size h.size,λk hk=>(h.block k (dJ hk hb'.size) (λx=>by have:=hX k x;omega)).trans (hb'.block k hk)⟩
theorem bF.heap{X:Nat->Prop}{w w':World}(h:bF X w w'){k:Nat}{o:Obj}(hk:w.heap[k]? =some o)(hx:¬X k):w'.heap[k]? =some o:=(h.block k (dB.1 hk).1 hx).trans hk
theorem bF.cell{X:Nat->Prop}{w w':World}(h:bF X w w'){p:Addr}{v:Value}(hc:w.cell? p=some v)(hx:¬X p.block):w'.cell? p=some v:=by
 have hb:p.block<w.heap.size:=by
  rcases eX p.block w.heap.size with h'|h'
  ·exact h'
  ·simp[World.cell?,oJ h']at hc
 rw[<-hc];simp only[World.cell?,h.block p.block hb hx]
theorem bF.frozen{X:Nat->Prop}{w w':World}(h:bF X w w'){p:Addr}(hb:p.block<w.heap.size)(hx:¬X p.block):w'.frozen? p=w.frozen? p:=by simp only[World.frozen?,h.block p.block hb hx]
theorem bF.XA{X:Nat->Prop}{w w':World}(h:bF X w w'){g N:Nat}(hB:kK w g N)(hx:¬X g):kK w' g N:=by obtain⟨cs,t,hg,hs⟩:=hB;exact⟨cs,t,h.heap hg hx,hs⟩
theorem aI.frX{α:Type}{m:Nat}{enc:α->Nat->Value}{X:Nat->Prop}{w w':World}{u:Value}{xs:List α}(h:aI m enc w u xs)(k:bF X w w')(hx:∀a n c,u=.slice (some a) n c->0<n->¬X a.block):aI m enc w' u xs:=by obtain⟨A,c,hA,h⟩:=h;refine⟨A,c,hA,λhn=>?_⟩;obtain⟨b,off,hb,hlt,hc⟩:=h hn;subst hb;have hne:¬X b:=hx ⟨b,off,none⟩ _ _ hA hn;exact⟨b,off,rfl,dJ hlt k.size,λi x hi j hj=>k.cell (hc i x hi j hj) hne⟩
def nX(w:World)(g:Nat)(s:jk):Prop:=kK w g 3/\∀o:Nat,o<3->w.cell? ⟨g,o,none⟩=some (.int .i64 (s (o:Int)))
theorem nX.ext{w w':World}{g:Nat}{s:jk}(h:nX w g s)(hb:Ext w w'):nX w' g s:=⟨h.1.ext hb,λo ho=>hb.cell (h.2 o ho)⟩
theorem nX.frX{X:Nat->Prop}{w w':World}{g:Nat}{s:jk}(h:nX w g s)(k:bF X w w')(hx:¬X g):nX w' g s:=⟨k.XA h.1 hx,λo ho=>k.cell (h.2 o ho) hx⟩
theorem nX.put{w:World}{g:Nat}{s:jk}{q:Nat}(h:nX w g s)(hq:q<3)(v:Int):nX (w.setCell ⟨g,q,none⟩ (.int .i64 v)) g (s.put (q:Int) v):=
 ⟨h.1.set _ _,λo ho=>by
  by_cases e:o=q
  ·subst e;rw[bT h.1 hq];simp[jk.put]
  ·rw[av (by intro e';injection e' with _ e' _;omega),h.2 o ho]
   have:¬((o:Int)=(q:Int)):=by omega
   simp[jk.put,this]⟩
def Md(s:jk):Value:=.agg #[.int .i64 (s 0),.int .i64 (s 1),.int .i64 (s 2)]
theorem zK(w:World)(s:jk)(T:TypeId):nX (w.alloc (.cells #[.int .i64 (s 0),.int .i64 (s 1),.int .i64 (s 2)] T)) w.heap.size s:=
 ⟨kK.made w #[.int .i64 (s 0),.int .i64 (s 1),.int .i64 (s 2)] T,λo ho=>by
  match o,ho with
  | 0,_=>exact az rfl
  | 1,_=>exact az rfl
  | 2,_=>exact az rfl⟩
theorem EJ(s:jk)(l:List aJ)(o:aJ):follow s (l++[o])=(follow s l).bind λs'=>if jl o then some (s'.put o.key o.value) else if s' o.key=o.value then some s' else none:=by
 induction l generalizing s with
 | nil=>
   simp only[List.nil_append,follow,Option.bind_some]
 | cons x l ih=>
   simp only[List.cons_append,follow];split
   ·exact ih _
   ·split
    ·exact ih _
    ·rfl
theorem Im{s:jk}{l:List aJ}{k:Nat}(h:follow s (l.take k)=none):follow s l=none:=by
 have key:∀(a b:List aJ) (s:jk),follow s a=none->follow s (a++b)=none:=by
  intro a
  induction a with
  | nil=>intro b s h;cases h
  | cons x a ih=>
    intro b s h;simp only[List.cons_append,follow]at h ⊢;split at h
    ·rename_i hw;rw[ah hw];exact ih b _ h
    ·rename_i hw;rw[ak hw];split at h
     ·rename_i he;rw[ah he];exact ih b _ h
     ·rename_i he;rw[ak he]
 rw[<-List.take_append_drop k l];exact key _ _ _ h
theorem Ig(g:Nat)(s:jk)(t:aF)(ov:Value)(W:World)(hS:nX W g s)(hops:aI 3 encOpr W ov t.ops)(xU:∀a n c,ov=.slice (some a) n c->0<n->a.block≠g)(hok:∀o∈t.ops,jm o=true)(hlen:t.ops.length<=6) :
 Calls Tryz.prog 212 #[.pointer (some ⟨g,0,none⟩),sM t ov] W λe W'=>bF (λk=>k=g) W W'/\∃b,e=.returned (.bool b)/\(∀s',follow s t.ops=some s'->b=true/\nX W' g s')/\(follow s t.ops=none->b=false):=by
 obtain⟨se,ops,dn⟩:=t;simp only[]at hops hok hlen ⊢;have HS:=aa hS;have HF:=aa xU;have jh:=aa hok;obtain⟨A,c,rfl,hc0⟩:=id hops;have HC:=aa hc0;have hgl:=hS.1.lt;clear hS xU hok hops hc0;show Calls Tryz.prog 212 #[.pointer (some ⟨g,0,none⟩),.agg #[.int .i64 se,.slice A ops.length c,.bool dn]] W _;go_enter Tryz.func212,Tryz.ntmps212;go_wp2;go_loopw [10] (λi wr=>bF (λk=>k=g) W wr/\∃k:Nat,k<=ops.length/\i=.int .i64 k/\Hid (∃s',follow s (ops.take k)=some s'/\nX wr g s')) (λi _=>ops.length-(intOf i).toNat)
 case atStart=>exact⟨(bF.refl _ _).alloc _,0,bR _,rfl,s,rfl,HS.out.ext ((af _).alloc _)⟩
 case round=>
  clear HS;obtain⟨hb,k,hk,rfl,HW⟩:=hrel;by_cases hlt:k<ops.length
  ·obtain⟨b,off,rfl,hbl,hcell⟩:=HC.out (by omega);have hne:=HF.out _ _ _ rfl (by omega);simp only at hne;obtain⟨o,ho⟩:=au hlt;have c0:=hb.cell (hcell k o ho 0 (by omega)) hne;have c1:=hb.cell (hcell k o ho 1 (by omega)) hne;have c2:=hb.cell (hcell k o ho 2 (by omega)) hne;simp only[encOpr,gL]at c0 c1 c2;have M7:=jh.out o (aN ho);have hkey:=jr M7;obtain⟨s',hs',hst⟩:=HW.out;have HST:=aa hst;have HN:Hid (follow s (ops.take (k+1))=if jl o then some (s'.put o.key o.value) else if s' o.key=o.value then some s' else none):=by show _ = _;rw[aj ho,EJ,hs',Option.bind_some]
   obtain⟨kd,ky,vl⟩:=o;simp only at hkey c0 c1 c2;obtain⟨q,rfl⟩:=iH hkey.1;have hq3:(q:Int)<3:=by omega
   have hq0:(0:Int)<=(q:Int):=by omega
   have hgw:g<wr.heap.size:=hst.1.lt;have hwz:∀a b c,(dD a b c wr)=(dD a b c wr):=λ_ _ _=>rfl;clear hwz M7 hkey hcell ho hs' hst HW hne;obtain⟨wo,rfl⟩:∃wo:World,wo=wr:=⟨_,rfl⟩;have HX:=aa ((af wo).alloc (.cells #[.int .i64 kd,.int .i64 (q:Int),.int .i64 vl] 67))
   cases hw:jl ⟨kd,(q:Int),vl⟩ with
   | true=>
     have sw:Hid (follow s (ops.take (k+1))=some (s'.put (q:Int) vl)):=by show _ = _;rw[HN.out,hw];rfl
     have Pq:Hid ((kd==2)=true):=hw;clear HN hw;have Oz:q<3:=by omega
     go_wp2_with (go_at_call 87;refine(dD _ _ _ _).mono ?_;rw[Pq.out];rintro e w4 ⟨rfl,hw4⟩;have X0:Ext (wo.alloc (.cells #[.int .i64 kd,.int .i64 (q:Int),.int .i64 vl] 67)) w4:=(by rw[<-hw4];exact(af _).alloc _);clear hw4;have Jm:=aa (HX.out.trans X0);have v1:=X0.cell (p:=⟨wo.heap.size,1,none⟩) (v:=.int .i64 (q:Int)) (by go_cell);have v2:=X0.cell (p:=⟨wo.heap.size,2,none⟩) (v:=.int .i64 vl) (by go_cell);have v3:=(HST.out.ext Jm.out).2 q Oz;have v4:=(HST.out.1.ext Jm.out).free q;clear X0)
     clear c0 c1 c2;have u1:({ w4 with drawn:=w4.drawn+1 }:World).cell? ⟨wo.heap.size,1,none⟩=some (.int .i64 (q:Int)):=v1;have u2:({ w4 with drawn:=w4.drawn+1 }:World).cell? ⟨wo.heap.size,2,none⟩=some (.int .i64 vl):=v2;go_still_tail 6,(by kernel_rfl)
     change wpList _ _ _ _ _ w4.drew;clear u1 u2;go_wp2;have X:=Jm.out.drew;have OM:=aa ((HST.out.ext X).put (q:=q) Oz vl);go_roundw;case rel=>exact⟨(hb.ext X).setCell (.inl rfl) _,k+1,by omega,by go_num,_,sw.out,OM.out⟩
     case measure=>simp[intOf];omega
   | false=>
     have Pq:Hid ((kd==2)=false):=hw;have Oz:q<3:=by omega
     obtain⟨y,hy⟩:∃y,s' (q:Int)=y:=⟨_,rfl⟩;have sw:Hid (follow s (ops.take (k+1))=if y=vl then some s' else none):=by show _ = _;rw[HN.out,hw,<-hy];rfl
     have HY:=aa hy;clear HN hw hy;by_cases hyv:y=vl
     ·have hd:(y != vl)=false:=by simp[hyv]
      have RU:Hid (follow s (ops.take (k+1))=some s'):=by show _ = _;rw[sw.out,ah hyv]
      clear hyv;go_wp2_with (go_at_call 87;refine(dD _ _ _ _).mono ?_;rw[Pq.out];rintro e w4 ⟨rfl,hw4⟩;have X0:Ext (wo.alloc (.cells #[.int .i64 kd,.int .i64 (q:Int),.int .i64 vl] 67)) w4:=(by rw[<-hw4];exact(af _).alloc _);clear hw4;have Jm:=aa (HX.out.trans X0);have v1:=X0.cell (p:=⟨wo.heap.size,1,none⟩) (v:=.int .i64 (q:Int)) (by go_cell);have v2:=X0.cell (p:=⟨wo.heap.size,2,none⟩) (v:=.int .i64 vl) (by go_cell);have v3:=(HST.out.ext Jm.out).2 q Oz;rw[HY.out]at v3;clear X0)
      clear c0 c1 c2;go_region_held3 (λV=>V.cell? ⟨wo.heap.size,1,none⟩=some (.int .i64 (q:Int))/\V.cell? ⟨wo.heap.size,2,none⟩=some (.int .i64 vl)/\V.cell? ⟨g,q,none⟩=some (.int .i64 y)) (go_keep) (fail)
      clear v1 v2 v3;go_wp2;have X:=Jm.out.drew;go_roundw;case rel=>exact⟨hb.ext X,k+1,by omega,by go_num,_,RU.out,HST.out.ext X⟩
      case measure=>simp[intOf];omega
     ·have hd:(y != vl)=true:=by simp[hyv]
      have RU:Hid (follow s ops=none):=Im (k:=k+1) (by rw[sw.out,ak hyv]);clear hyv;go_wp2_with (go_at_call 87;refine(dD _ _ _ _).mono ?_;rw[Pq.out];rintro e w4 ⟨rfl,hw4⟩;have X0:Ext (wo.alloc (.cells #[.int .i64 kd,.int .i64 (q:Int),.int .i64 vl] 67)) w4:=(by rw[<-hw4];exact(af _).alloc _);clear hw4;have Jm:=aa (HX.out.trans X0);have v1:=X0.cell (p:=⟨wo.heap.size,1,none⟩) (v:=.int .i64 (q:Int)) (by go_cell);have v2:=X0.cell (p:=⟨wo.heap.size,2,none⟩) (v:=.int .i64 vl) (by go_cell);have v3:=(HST.out.ext Jm.out).2 q Oz;rw[HY.out]at v3;clear X0)
      clear c0 c1 c2;go_region_held3 (λV=>V.cell? ⟨wo.heap.size,1,none⟩=some (.int .i64 (q:Int))/\V.cell? ⟨wo.heap.size,2,none⟩=some (.int .i64 vl)/\V.cell? ⟨g,q,none⟩=some (.int .i64 y)) (go_keep) (fail)
      clear v1 v2 v3;go_wp2;go_returns;have X:=Jm.out.drew;exact⟨hb.ext X,false,rfl,λs2 h2=>(by rw[RU.out]at h2;cases h2),λ_=>rfl⟩
  ·obtain rfl:k=ops.length:=by omega
   obtain⟨s',hs',hst⟩:=HW.out;rw[bY]at hs';have H1:=aa hs';have H2:=aa hst;clear hs' hst;go_wp2;go_returns;exact⟨hb,true,rfl,λs2 h2=>⟨rfl,by rw[H1.out]at h2;cases h2;exact H2.out⟩,λhn=>by rw[H1.out]at hn;cases hn⟩
theorem tY{p:List dZ}{m:pG}{n:Nat}{t:aF}{d:dZ}(ht:m.h[n]? =some t)(hd:p[n]? =some d)(hs:d.steps[t.ops.length]? =none):stepM p m n=m:=by unfold stepM;rw[ql hd,dM ht,hs]
theorem qg{p:List dZ}{m:pG}{n:Nat}{t:aF}{d:dZ}{o:aJ}(ht:m.h[n]? =some t)(hd:p[n]? =some d)(hs:d.steps[t.ops.length]? =some o)(hl:t.ops.length+1≠d.steps.length):stepM p m n=iZ (aA m n) n (ji (aA m n) n o) false:=by unfold stepM;rw[ql hd,dM ht,hs];simp only;rw[ak hl]
theorem kY{p:List dZ}{m:pG}{n:Nat}{t:aF}{d:dZ}{o:aJ}(ht:m.h[n]? =some t)(hd:p[n]? =some d)(hs:d.steps[t.ops.length]? =some o)(hl:t.ops.length+1=d.steps.length):stepM p m n=Bi (aA m n) n (ji (aA m n) n o):=by unfold stepM;rw[ql hd,dM ht,hs];simp only;rw[ah hl]
theorem pK{m:pG}{n:Nat}{t:aF}(o:aJ)(dn:Bool)(ht:m.h[n]? =some t):(iZ (aA m n) n o dn).h=m.h.set n ⟨t.aD,t.ops++[o],dn⟩:=by show (aA m n).h.set n ⟨zQ (aA m n).h n,opsOf (aA m n).h n++[o],dn⟩ = _;rw[oU,Cc ht,dM ht]
theorem Gr{m:pG}{n:Nat}{t:aF}(o:aJ)(ht:m.h[n]? =some t):ji (aA m n) n o=if jl o then ⟨o.kind,o.key,10*((n:Int)+1)+(t.ops.length:Int)+1⟩ else ⟨o.kind,o.key,fH t.ops ((aA m n).kept n) o.key⟩:=by unfold ji;rw[oU,dM ht]
theorem vR{m:pG}{n:Nat}{t:aF}{o:aJ}(ht:m.h[n]? =some t)(hf:lY (aA m n).bG ((aA m n).began n) (aV (t.ops++[o]))=true) :
 Bi (aA m n) n o={ iZ (aA m n) n o true with vals:=jX m.vals (aV (t.ops++[o])),bG:=fD m.bG (aV (t.ops++[o])) }:=by
 have h1:opsOf (aA m n).h n=t.ops:=by rw[oU,dM ht]
 have h2:(aA m n).vals=m.vals:=by unfold aA;split<;>rfl
 have h3:(aA m n).bG=m.bG:=by unfold aA;split<;>rfl
 unfold Bi;simp only;rw[h1,ah hf,h2,h3]
theorem Bd{m:pG}{n:Nat}{t:aF}{o:aJ}(ht:m.h[n]? =some t)(hf:lY (aA m n).bG ((aA m n).began n) (aV (t.ops++[o]))=false):Bi (aA m n) n o=iZ (aA m n) n o false:=by
 have h1:opsOf (aA m n).h n=t.ops:=by rw[oU,dM ht]
 unfold Bi;simp only;rw[h1,hf,ak (by decide)]
theorem qL(m:pG)(n:Nat):(aA m n).vals=m.vals:=by unfold aA;split<;>rfl
theorem jq(m:pG)(n:Nat):(aA m n).bG=m.bG:=by unfold aA;split<;>rfl
theorem qV{m:pG}{n:Nat}{t:aF}(ht:m.h[n]? =some t)(h0:t.ops.length=0):(aA m n).kept=wu m.kept n m.vals/\(aA m n).began=wu m.began n m.bG:=by unfold aA;rw[dM ht,ah h0];exact⟨rfl,rfl⟩
theorem qa{m:pG}{n:Nat}{t:aF}(ht:m.h[n]? =some t)(h0:t.ops.length≠0):(aA m n).kept=m.kept/\(aA m n).began=m.began:=by unfold aA;rw[dM ht,ak h0];exact⟨rfl,rfl⟩
theorem yz(m:pG)(n:Nat)(o:aJ):(∃v w,Bi m n o={ iZ m n o true with vals:=v,bG:=w })∨Bi m n o=iZ m n o false:=by
 unfold Bi;simp only;split
 ·exact .inl ⟨_,_,rfl⟩
 ·exact .inr rfl
theorem step_done{p:List dZ}{m:pG}(hn:∀(i:Nat) t d,m.h[i]? =some t->p[i]? =some d->t.ops.length<d.steps.length->t.done=false)(n:Nat):∀(i:Nat) t d,(stepM p m n).h[i]? =some t->p[i]? =some d->t.ops.length<d.steps.length->t.done=false:=by
 intro i t d ht hd hl;by_cases hx:∃x y,m.h[n]? =some x/\p[n]? =some y
 ·obtain⟨x,y,hx,hy⟩:=hx
  cases hs:y.steps[x.ops.length]? with
  | none=>rw[tY hx hy hs]at ht;exact hn i t d ht hd hl
  | some o=>
    by_cases hlast:x.ops.length+1=y.steps.length
    ·rw[kY hx hy hs hlast]at ht;have key:∀dn,((iZ (aA m n) n (ji (aA m n) n o) dn).h)[i]? =some t->(i=n/\t.ops.length=x.ops.length+1)∨(i≠n/\m.h[i]? =some t):=λdn hh=>by
      rw[pK _ _ hx,kF]at hh;split at hh
      ·rename_i e;split at hh
       ·cases hh;exact .inl ⟨e.symm,by simp⟩
       ·cases hh
      ·rename_i e;exact .inr ⟨λh=>e h.symm,hh⟩
     rcases yz (aA m n) n (ji (aA m n) n o) with ⟨v,w,e⟩|e
     ·rw[e]at ht;rcases key true ht with ⟨rfl,h1⟩|⟨_,h1⟩
      ·rw[hd]at hy;cases hy;omega
      ·exact hn i t d h1 hd hl
     ·rw[e]at ht;rcases key false ht with ⟨rfl,h1⟩|⟨_,h1⟩
      ·rw[hd]at hy;cases hy;omega
      ·exact hn i t d h1 hd hl
    ·rw[qg hx hy hs hlast,pK _ _ hx,kF]at ht;split at ht
     ·split at ht
      ·cases ht;rfl
      ·cases ht
     ·exact hn i t d ht hd hl
 ·have:stepM p m n=m∨(m.h[n]? =none)∨p[n]? =none:=by
   cases h1:m.h[n]? with
   | none=>exact .inr (.inl rfl)
   | some x=>
     cases h2:p[n]? with
     | none=>exact .inr (.inr rfl)
     | some y=>exact absurd ⟨x,y,h1,h2⟩ hx
  have key:∀o dn,(iZ (aA m n) n o dn).h=m.h∨m.h[n]?≠none:=λo dn=>by
   cases h1:m.h[n]? with
   | none=>
     left;show (aA m n).h.set n _ = _;rw[oU];exact List.set_eq_of_length_le (List.getElem?_eq_none_iff.1 h1)
   | some x=>right;simp
  have h4:(stepM p m n).h=m.h:=by
   rcases this with h|h|h
   ·rw[h]
   ·have k2:∀o dn,(iZ (aA m n) n o dn).h=m.h:=λo dn=>(key o dn).resolve_right (by simp[h]);unfold stepM;split
    ·rfl
    ·split
     ·rcases yz (aA m n) n (ji (aA m n) n ‹aJ›) with ⟨v,w,e⟩|e
      ·rw[e];exact k2 _ _
      ·rw[e];exact k2 _ _
     ·exact k2 _ _
   ·unfold stepM
    have:rZ p n=[]:=by simp[rZ,h]
    rw[this];simp
  rw[h4]at ht;exact hn i t d ht hd hl
theorem AY{p:List dZ}:∀k,k<=(dA p.length).length->∀(i:Nat) t d,(fo p k).h[i]? =some t->p[i]? =some d->t.ops.length<d.steps.length->t.done=false:=by
 intro k
 induction k with
 | zero=>
   intro _ i t d ht hd _;have ht:(iD p).h[i]? =some t:=ht;simp only[iD,jM,hd,Option.map_some,Option.some.injEq]at ht;rw[<-ht]
 | succ k ih=>
   intro hk;have hx:=dz (show k<(dA p.length).length by omega);rw[nK hx];exact step_done (ih (by omega)) _
theorem zn(ws:List aJ)(s:jk)(x:Int):s x<=fD s ws x/\fD s ws x<=s x+ws.length:=by
 unfold fD
 induction ws generalizing s with
 | nil=>simp
 | cons w ws ih=>
   rw[kL]
   have:=ih (s.put w.key (s w.key+1))
   have h2:s x<=s.put w.key (s w.key+1) x/\s.put w.key (s w.key+1) x<=s x+1:=by
    unfold jk.put;split
    ·rename_i e;rw[e];omega
    ·omega
   simp only[eF];omega
theorem yF(ops:List aJ):(aV ops).length<=3:=kR ops▸nD ops 3
theorem IE{p:List dZ}:∀k,k<=(dA p.length).length->∀x,0<=(fo p k).bG x/\(fo p k).bG x<=3*(k:Int):=by
 intro k
 induction k with
 | zero=>intro _ x;exact⟨Int.le_refl _,Int.le_refl _⟩
 | succ k ih=>
   intro hk x;have hx:=dz (show k<(dA p.length).length by omega);have h0:=ih (by omega) x;rw[nK hx];generalize (dA p.length)[k]=n;generalize fo p k=m at h0;have hn:∀o dn,(iZ (aA m n) n o dn).bG=m.bG:=λo dn=>jq m n;have key:(stepM p m n).bG x=m.bG x∨∃ws,ws.length<=3/\(stepM p m n).bG=fD m.bG ws:=by
    unfold stepM;split
    ·exact .inl rfl
    ·split
     ·unfold Bi;simp only;split
      ·right;exact⟨_,yF _,by rw[jq]⟩
      ·left;rw[hn]
     ·left;rw[hn]
   rcases key with h|⟨ws,hl,h⟩
   ·rw[h];omega
   ·rw[h]
    have:=zn ws m.bG x
    omega
theorem Gz{s:jk}{ws:List aJ}{j:Nat}{w:aJ}(hw:ws[j]? =some w):jX s (ws.take (j+1))=(jX s (ws.take j)).put w.key w.value:=by unfold jX;rw[aj hw,tO];rfl
theorem D6{s:jk}{ws:List aJ}{j:Nat}{w:aJ}(hw:ws[j]? =some w):fD s (ws.take (j+1))=(fD s (ws.take j)).put w.key ((fD s (ws.take j)) w.key+1):=by unfold fD;rw[aj hw,tO];rfl
theorem J3{v b:jk}{ws:List aJ}{j:Nat}{w:aJ}(hw:ws[j]? =some w):lY v b (ws.take (j+1))=(lY v b (ws.take j)&&v w.key==b w.key):=by unfold lY;rw[aj hw,List.all_append];simp
def levL(n:Nat):List UInt8:=match n with
 | 0=>[110,111,110,101]
 | 1=>[119,114,105,116,101,115]
 | 2=>[102,108,111,119,115]
 | 3=>[115,105,110,103,108,101,115]
 | _=>[97,108,108]
def Ev:List UInt8:=[110,111]
def Jo:List UInt8:=[111,107]
def CV:List UInt8:=[119,104,97,116]
def Ra:List UInt8:=[101,109,112,116,121]
def QJ(l:List UInt8):List UInt8:=if l=[] then Ra else l
def numsL(xs:List Int):List UInt8:=joinL [32] (xs.map λx=>dh x.toNat)
theorem GU{ops:List aJ}{s:jk}{key:Int}(h:before ops key=none):fH ops s key=s key:=by
 unfold fH
 cases hl:dm ops key with
 | none=>rfl
 | some o=>
   obtain⟨h1,_,h3⟩:=iM hl;exact absurd h3 (FT h h1)
theorem Lh(ws:List aJ):∀(s:jk) (x:Int),fD s ws x=s x+(ws.filter λw=>decide (w.key=x)).length:=by
 unfold fD
 induction ws with
 | nil=>intro s x;simp
 | cons w ws ih=>
   intro s x;rw[kL,ih];by_cases h:w.key=x
   ·subst h;simp[jk.put];omega
   ·have h':¬x=w.key:=λe=>h e.symm;simp[jk.put,h,h']
def Mo(h:List aF)(n:Nat)(o:aJ):Bool:=mh o&&(opsOf h n).any λw=>jl w&&(w.key==o.key&&w.value==o.value)
def sS(h:List aF)(n:Nat)(t:aF):aF:=⟨t.aD,t.ops.filter (λo=>!Mo h n o),t.done⟩
def mq(h:List aF)(n:Nat):List aF:=(h.eraseIdx n).map (sS h n)
def FJ(ops:List aJ):List (Int × Int):=(ops.filter jl).map λo=>(o.key,o.value)
theorem Nb(h:List aF):∀n,(wrsFrom n h).map (·.1)=h.flatMap λt=>FJ t.ops:=by
 induction h with
 | nil=>intro n;rfl
 | cons t h ih=>
   intro n;rw[wrsFrom,j3,ih,qI];congr 1;simp[iB,FJ]
theorem IZ(h:List aF)(n:Nat)(t:aF):FJ (sS h n t).ops=FJ t.ops:=by
 unfold FJ sS;rw[List.filter_filter];congr 1;refine List.filter_congr λo _=>?_
 cases hw:jl o with
 | false=>simp
 | true=>
   have hr:mh o=false:=by simp only[jl,mh,beq_iff_eq,oO]at hw ⊢;omega
   simp[Mo,hr]
theorem EB{α β:Type}(f:α->List β){a b:List α}(h:a.Sublist b):(a.flatMap f).Sublist (b.flatMap f):=by
 induction h with
 | slnil=>simp
 | cons x _ ih=>rw[qI];exact ih.trans (List.sublist_append_right _ _)
 | cons_cons x _ ih=>rw[qI,qI];exact(List.Sublist.refl _).append ih
theorem Ak{h:List aF}(hok:aH h=true)(n:Nat):aH (mq h n)=true:=by
 unfold aH at hok ⊢;simp only[bK,eG,iN]at hok ⊢;obtain⟨⟨h1,h2⟩,h3⟩:=hok;refine⟨⟨?_,λt ht=>?_⟩,?_⟩
 ·unfold mq;rw[dF,qx]
  split<;>omega
 ·unfold mq at ht;obtain⟨u,hu,rfl⟩:=dX.1 ht;have hok:=h2 u (List.mem_of_mem_eraseIdx hu);unfold eP at hok ⊢;simp only[bK,eG,iN]at hok ⊢;refine⟨⟨hok.1.1,aR (zM _ _) hok.1.2⟩,λo ho=>hok.2 o ((lC.1 ho).1)⟩
 ·unfold jT at h3;have h3:=of_decide_eq_true h3;refine wT ?_;unfold Bo at h3 ⊢;rw[Nb]at h3 ⊢;unfold mq;rw[List.flatMap_map];simp only[IZ];exact h3.sublist (EB _ (List.eraseIdx_sublist _ _))
