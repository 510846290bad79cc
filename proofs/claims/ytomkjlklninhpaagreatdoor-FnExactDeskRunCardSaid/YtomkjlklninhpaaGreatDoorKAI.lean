/- Lemmas. -/
import Derived.Test.YtomkjlklninhpaaGreatDoorKAH
import Derived.Lib.SplitLaws
import Derived.Laws.IdiomStrings
set_option maxHeartbeats 16000000
set_option maxRecDepth 8000
set_option linter.all false
namespace Go.Proofs.YtomkjlklninhpaaGreatDoor
open Go.RowKit
structure eH where
 az:Int
 steps:List aQ
instance:Inhabited eH:=⟨⟨0,[]⟩⟩
def eO(o:aQ):Bool:=(mM o || iN o)&&jR o.key 0 2&&o.value==0
def bM(d:eH):Bool:=jR d.az 0 3&&decide (1<=d.steps.length/\d.steps.length<=4)&&d.steps.all eO
def dQ(p:List eH):Bool:=decide (p.length<=4)&&p.all bM
def kC(o:aQ):List UInt8:=[aW o,jg o.key.toNat]
def cz(d:eH):List (List UInt8):=[115,jg d.az.toNat] :: d.steps.map kC
def dU(d:eH):List UInt8:=joinL [32] (cz d)
def jq(p:List eH):List UInt8:=joinL [59,32] (p.map dU)
theorem jk{o:aQ}(h:eO o=true):o.kind=1∨o.kind=2:=by simp only[eO,mM,iN,Bool.and_eq_true,Bool.or_eq_true,beq_iff_eq]at h;exact h.1.1
theorem iq{o:aQ}(h:eO o=true):0<=o.key/\o.key<=2:=by simp only[eO,Bool.and_eq_true]at h;exact bL.1 h.1.2
theorem lu{o:aQ}(h:eO o=true):o.value=0:=by simp only[eO,Bool.and_eq_true,beq_iff_eq]at h;exact h.2
theorem jy{d:eH}(h:bM d=true):0<=d.az/\d.az<=3:=by simp only[bM,Bool.and_eq_true]at h;exact bL.1 h.1.1
theorem gq{d:eH}(h:bM d=true):1<=d.steps.length/\d.steps.length<=4:=by simp only[bM,Bool.and_eq_true,decide_eq_true_eq]at h;exact h.1.2
theorem fu{d:eH}(h:bM d=true){o:aQ}(ho:o∈d.steps):eO o=true:=by simp only[bM,Bool.and_eq_true,List.all_eq_true]at h;exact h.2 o ho
theorem jF{p:List eH}(h:dQ p=true):p.length<=4:=by simp only[dQ,Bool.and_eq_true,decide_eq_true_eq]at h;exact h.1
theorem dz{p:List eH}(h:dQ p=true){d:eH}(hd:d∈p):bM d=true:=by simp only[dQ,Bool.and_eq_true,List.all_eq_true]at h;exact h.2 d hd
theorem Hg(o:aQ):aW o=119∨aW o=114:=by unfold aW;split<;>simp
theorem Uz{o o':aQ}(h:eO o=true)(h':eO o'=true)(e:kC o=kC o'):o=o':=by unfold kC at e;injection e with e1 e;injection e with e2 e;have k1:=iq h;have k2:=iq h';have e2:=Eu (by omega) (by omega) e2;refine aQ.ext' ?_ (by omega) (by rw[lu h,lu h']);have c1:=jk h;have c2:=jk h';unfold aW iN at e1;rcases c1 with c1|c1<;>rcases c2 with c2|c2<;>rw[c1,c2]at e1 ⊢<;>simp at e1
theorem Fe{d:eH}(h:bM d=true){b:UInt8}(hb:b=32∨b=59):∀w∈cz d,Qh b w:=fun w hw=>by
 have hs:=jy h;unfold cz at hw;simp only[List.mem_cons,List.mem_map]at hw;rcases hw with rfl|⟨o,ho,rfl⟩
 ·intro x hx;simp only[List.mem_cons,List.not_mem_nil,or_false]at hx;rcases hx with rfl|rfl
  ·rcases hb with rfl|rfl<;>decide
  ·exact yB (by omega) (by rcases hb with rfl|rfl<;>decide)
 ·have hk:=iq (fu h ho);intro x hx;simp only[kC,List.mem_cons,List.not_mem_nil,or_false]at hx;rcases hx with rfl|rfl
  ·rcases Hg o with e|e<;>rw[e]<;>rcases hb with rfl|rfl<;>decide
  ·exact yB (by omega) (by rcases hb with rfl|rfl<;>decide)
theorem JY{b:UInt8}{sep:List UInt8}(hs:Qh b sep):∀{ws:List (List UInt8)},(∀w∈ws,Qh b w)->Qh b (joinL sep ws)
 | [],_=>fun x hx=>by simp[joinL]at hx
 | [w],h=>h w (by simp)
 | w :: v :: r,h=>fun x hx=>by
   rw[iy _ _ _ (by simp)]at hx;simp only[List.mem_append]at hx;rcases hx with (hx|hx)|hx
   ·exact h w (by simp) x hx
   ·exact hs x hx
   ·exact JY hs (fun z hz=>h z (by simp only[List.mem_cons]at hz ⊢;exact .inr hz)) x hx
theorem QH{d:eH}(h:bM d=true):Qh 59 (dU d):=JY (by intro x hx;simp at hx;subst hx;decide) (Fe h (.inr rfl))
theorem mE{d:eH}(h:bM d=true):aK 32 (dU d)=cz d:=vE (by simp[cz]) (Fe h (.inl rfl))
theorem Ie:∀{a b:List aQ},(∀o∈a,eO o=true)->(∀o∈b,eO o=true)->a.map kC=b.map kC->a=b
 | [],[],_,_,_=>rfl
 | [],_ :: _,_,_,e=>by simp at e
 | _ :: _,[],_,_,e=>by simp at e
 | x :: a,y :: b,ha,hb,e=>by simp only[List.map_cons,List.cons.injEq]at e;rw[Uz (ha x (by simp)) (hb y (by simp)) e.1,Ie (fun o ho=>ha o (by simp[ho])) (fun o ho=>hb o (by simp[ho])) e.2]
theorem PY{d d':eH}(h:bM d=true)(h':bM d'=true)(e:dU d=dU d'):d=d':=by
 have e:=mE h▸(congrArg (aK 32) e).symm▸mE h';unfold cz at e;simp only[List.cons.injEq]at e;obtain⟨⟨_,e1,_⟩,e3⟩:=e;have s1:=jy h;have s2:=jy h';replace e1:=Eu (by omega) (by omega) e1;replace e3:=Ie (fun o ho=>fu h ho) (fun o ho=>fu h' ho) e3;obtain⟨s,os⟩:=d;obtain⟨s',os'⟩:=d';simp only at e1 e3 s1 s2;obtain rfl:s=s':=by omega
 subst e3;rfl
theorem TG{d:eH}:dU d≠[]:=by
 unfold dU cz
 cases d.steps with
 | nil=>simp[joinL]
 | cons o r=>rw[List.map_cons,iy _ _ _ (by simp)];simp
def dS:List UInt8->List (List UInt8)
 | []=>[[]]
 | 59 :: 32 :: l=>[] :: dS l
 | x :: l=>match dS l with
   | []=>[[x]]
   | y :: r=>(x :: y) :: r
theorem Sw:∀l,dS l≠[]:=fun l=>by
 unfold dS;split
 ·simp
 ·simp
 ·split<;>simp
theorem zL{x:UInt8}(l:List UInt8)(h:x≠59):dS (x :: l)=match dS l with
 | []=>[[x]]
 | y :: r=>(x :: y) :: r:=by
 rw[dS];intro t e;exact absurd e h
theorem Gl:∀{l:List UInt8},Qh 59 l->dS l=[l]
 | [],_=>rfl
 | x :: l,h=>by rw[zL l (h x (by simp)),Gl (fun y hy=>h y (by simp[hy]))]
theorem CG:∀{x l:List UInt8},Qh 59 x->dS (x++59 :: 32 :: l)=x :: dS l
 | [],l,_=>by simp[dS]
 | y :: x,l,h=>by rw[List.cons_append,zL _ (h y (by simp)),CG (fun z hz=>h z (by simp[hz]))]
theorem Co:∀{ws:List (List UInt8)},ws≠[]->(∀w∈ws,Qh 59 w)->dS (joinL [59,32] ws)=ws
 | [],h,_=>absurd rfl h
 | [w],_,h=>Gl (h w (by simp))
 | w :: v :: r,_,h=>by
   have:joinL [59,32] (w :: v :: r)=w++59 :: 32 :: joinL [59,32] (v :: r):=by rw[iy _ _ _ (by simp)];simp
   rw[this,CG (h w (by simp)),Co (by simp) (fun x hx=>h x (by simp only[List.mem_cons]at hx ⊢;exact .inr hx))]
theorem sQ{p:List eH}(h:dQ p=true)(hp:p≠[]):dS (jq p)=p.map dU:=
 Co (by simpa using hp) (fun w hw=>by obtain⟨d,hd,rfl⟩:=List.mem_map.1 hw;exact QH (dz h hd))
theorem Cw:∀{a b:List eH},(∀o∈a,bM o=true)->(∀o∈b,bM o=true)->a.map dU=b.map dU->a=b
 | [],[],_,_,_=>rfl
 | [],_ :: _,_,_,e=>by simp at e
 | _ :: _,[],_,_,e=>by simp at e
 | x :: a,y :: b,ha,hb,e=>by simp only[List.map_cons,List.cons.injEq]at e;rw[PY (ha x (by simp)) (hb y (by simp)) e.1,Cw (fun o ho=>ha o (by simp[ho])) (fun o ho=>hb o (by simp[ho])) e.2]
theorem J3{p:List eH}:jq p=[]↔p=[]:=by
 constructor
 ·intro h
  cases p with
  | nil=>rfl
  | cons d r=>
    exfalso;unfold jq at h
    cases r with
    | nil=>exact TG h
    | cons d' r=>
      rw[List.map_cons,iy _ _ _ (by simp)]at h;simp at h
 ·rintro rfl;rfl
theorem TL{p p':List eH}(h:dQ p=true)(h':dQ p'=true)(e:jq p=jq p'):p=p':=by
 by_cases hp:p=[]
 ·subst hp
  exact(J3.1 (e.symm.trans rfl)).symm
 ·have hp':p'≠[]:=fun e'=>hp (J3.1 (by rw[e,e'];rfl))
  have:=sQ h hp
  rw[e,sQ h' hp']at this
  exact(Cw (fun d hd=>dz h' hd) (fun d hd=>dz h hd) this).symm
open Classical in
noncomputable def aV (s:List UInt8):Option (List eH):=if h:∃p,dQ p=true/\jq p=s then some h.choose else none
theorem jB{s:List UInt8}{p:List eH}:aV s=some p↔dQ p=true/\jq p=s:=by
 unfold aV;constructor
 ·intro e;split at e
  ·rename_i h;injection e with e;rw[<-e];exact h.choose_spec
  ·cases e
 ·rintro⟨h1,h2⟩;have h:∃p,dQ p=true/\jq p=s:=⟨p,h1,h2⟩;rw[dif_pos h];exact congrArg some (TL h.choose_spec.1 h1 (h.choose_spec.2.trans h2.symm))
theorem kH{s:List UInt8}(h:∀p,dQ p=true->jq p≠s):aV s=none:=by
 cases e:aV s with
 | none=>rfl
 | some p=>have:=jB.1 e;exact absurd this.2 (h p this.1)
def nC(ops:List aQ)(key:Int):List Int:=(bD ops).filterMap fun o=>if o.key=key then some o.value else none
def aP(h:List aA)(key:Int):List Int:=(aH h).flatMap fun n=>nC (opsOf h n) key
def ry(h:List aA)(key:Int)(m:Nat):List Int:=((aH h).take m).flatMap fun n=>nC (opsOf h n) key
def nN(ops:List aQ)(key:Int)(j:Nat):List Int:=((bD ops).take j).filterMap fun o=>if o.key=key then some o.value else none
theorem Mw{h:List aA}{key:Int}{m n:Nat}(hn:(aH h)[m]? =some n):ry h key (m+1)=ry h key m++nC (opsOf h n) key:=by unfold ry;rw[ah hn,List.flatMap_append];simp
theorem Di{ops:List aQ}{key:Int}{j:Nat}{o:aQ}(ho:(bD ops)[j]? =some o):nN ops key (j+1)=nN ops key j++if o.key=key then [o.value] else []:=by unfold nN;rw[ah ho,List.filterMap_append];congr 1;by_cases h:o.key=key<;>simp[h]
theorem Ce{ops:List aQ}{key:Int}{o:aQ}(h:fB ops key=some o):o.key=key:=(j3 h).2.2
theorem F8(ops:List aQ)(key:Int):(nC ops key).length<=1:=by
 unfold nC bD;rw[List.filterMap_filterMap];have e:∀k:Int,(fB ops k).bind (fun o=>if o.key=key then some o.value else none)=if k=key then (fB ops k).map (·.value) else none:=fun k=>by
  cases h:fB ops k with
  | none=>simp
  | some o=>simp[Ce h]
 simp only[e];by_cases h0:(0:Int)=key
 ·subst h0;simp only[List.filterMap_cons,List.filterMap_nil];cases fB ops 0<;>simp
 ·by_cases h1:(1:Int)=key
  ·subst h1;simp only[List.filterMap_cons,List.filterMap_nil];cases fB ops 1<;>simp
  ·by_cases h2:(2:Int)=key
   ·subst h2;simp only[List.filterMap_cons,List.filterMap_nil];cases fB ops 2<;>simp
   ·simp[h0,h1,h2]
theorem Hf(h:List aA)(key:Int)(m:Nat):(ry h key m).length<=m:=by
 unfold ry;rw[List.length_flatMap]
 have:∀l:List Nat,(l.map fun n=>(nC (opsOf h n) key).length).sum<=l.length:=fun l=>by
  induction l with
  | nil=>simp
  | cons n l ih=>have:=F8 (opsOf h n) key;simp;omega
 exact Nat.le_trans (this _) (by simp;omega)
theorem Gp(ops:List aQ)(key:Int)(j:Nat):(nN ops key j).length<=j:=by unfold nN;exact Nat.le_trans (List.length_filterMap_le _ _) (by simp;omega)
theorem Ia(h:List aA)(key:Int):ry h key (aH h).length=aP h key:=by unfold ry aP;rw[List.take_length]
theorem gJ(h:List aA)(key:Int):(aP h key).length<=h.length:=by
 rw[<-Ia];have h1:=Hf h key (aH h).length;have h2:(aH h).length<=h.length:=by
  have:=List.length_filter_le (fun n=>(h[n]?.map (·.done)).getD false) (List.range h.length)
  simpa[aH] using this
 omega
def nu:Nat->List Int->List (List Int)
 | 0,_=>[[]]
 | n+1,xs=>(List.range xs.length).flatMap fun i=>(nu n (xs.eraseIdx i)).map (xs.getD i 0 :: ·)
def perms(xs:List Int):List (List Int):=nu xs.length xs
def fU(xs:List Int)(k:Nat):List (List Int):=(List.range k).flatMap fun i=>(perms (xs.eraseIdx i)).map (xs.getD i 0 :: ·)
theorem BV{xs:List Int}(hx:0<xs.length):perms xs=fU xs xs.length:=by
 unfold perms fU;obtain⟨n,hn⟩:∃n,xs.length=n+1:=⟨xs.length-1,by omega⟩;rw[hn,nu,hn]
 have:∀i∈List.range (n+1),(nu n (xs.eraseIdx i)).map (xs.getD i 0 :: ·)=(nu (xs.eraseIdx i).length (xs.eraseIdx i)).map (xs.getD i 0 :: ·):=fun i hi=>by rw[List.length_eraseIdx,if_pos (by rw[hn];simpa using hi),hn];rfl
 rw[List.flatMap_eq_foldl,List.flatMap_eq_foldl];have key:∀(l:List Nat) (acc:List (List Int)),(∀i∈l,i∈List.range (n+1))->l.foldl (fun acc i=>acc++(nu n (xs.eraseIdx i)).map (xs.getD i 0 :: ·)) acc=l.foldl (fun acc i=>acc++(nu (xs.eraseIdx i).length (xs.eraseIdx i)).map (xs.getD i 0 :: ·)) acc:=by
  intro l
  induction l with
  | nil=>intro acc _;rfl
  | cons i l ih=>
    intro acc hl;rw[List.foldl_cons,List.foldl_cons,this i (hl i (by simp)),ih _ (fun j hj=>hl j (by simp[hj]))]
 exact key _ _ (fun i hi=>hi)
theorem um{xs:List Int}{k:Nat}:fU xs (k+1)=fU xs k++(perms (xs.eraseIdx k)).map (xs.getD k 0 :: ·):=by unfold fU;rw[List.range_succ,List.flatMap_append];simp
theorem GY:∀(xs:List Int) (i:Nat) (hi:i<xs.length),(xs[i] :: xs.eraseIdx i).Perm xs
 | x :: xs,0,_=>.refl _
 | x :: xs,i+1,h=>by
   simp only[List.getElem_cons_succ,List.eraseIdx_cons_succ]
   exact(List.Perm.swap x _ _).trans ((GY xs i (by simpa using h)).cons x)
theorem Ol:∀n (xs:List Int),xs.length=n->∀p∈nu n xs,p.Perm xs:=by
 intro n
 induction n with
 | zero=>
   intro xs hx p hp;obtain rfl:xs=[]:=List.eq_nil_of_length_eq_zero hx;simp[nu]at hp;subst hp;exact .refl _
 | succ n ih=>
   intro xs hx p hp;simp only[nu,List.mem_flatMap,List.mem_range,List.mem_map]at hp;obtain⟨i,hi,q,hq,rfl⟩:=hp;have hl:(xs.eraseIdx i).length=n:=by rw[List.length_eraseIdx,if_pos hi];omega
   have:=ih _ hl q hq
   have h2:(xs.getD i 0 :: xs.eraseIdx i).Perm xs:=by rw[show xs.getD i 0=xs[i] by simp[List.getD,List.getElem?_eq_getElem hi]];exact GY xs i hi
   exact(this.cons _).trans h2
theorem nW{xs p:List Int}(hp:p∈perms xs):p.Perm xs:=Ol _ xs rfl p hp
def fact:Nat->Nat
 | 0=>1
 | n+1=>fact n*(n+1)
theorem Qv:∀n (xs:List Int),xs.length=n->(nu n xs).length=fact n:=by
 intro n
 induction n with
 | zero=>intro xs _;rfl
 | succ n ih=>
   intro xs hx;rw[nu,List.length_flatMap,hx]
   have:(List.range (n+1)).map (fun i=>((nu n (xs.eraseIdx i)).map (xs.getD i 0 :: ·)).length)=(List.range (n+1)).map fun _=>fact n:=by apply List.map_congr_left;intro i hi;rw[List.length_map];exact ih _ (by rw[List.length_eraseIdx,if_pos (by rw[hx];simpa using hi)];omega)
   rw[this,fact];have hs:∀m c:Nat,((List.range m).map fun _=>c).sum=c*m:=fun m c=>by
    induction m with
    | zero=>rfl
    | succ m ih=>rw[List.range_succ,List.map_append,List.sum_append,ih];simp[Nat.mul_add]
   exact hs _ _
theorem mI(xs:List Int):(perms xs).length=fact xs.length:=Qv _ xs rfl
theorem zH{n:Nat}(h:n<=6):fact n<=720:=by
 have:n=0∨n=1∨n=2∨n=3∨n=4∨n=5∨n=6:=by omega
 rcases this with rfl|rfl|rfl|rfl|rfl|rfl|rfl<;>decide
def iw(h:List aA):Nat:=fact (aP h 0).length*fact (aP h 1).length*fact (aP h 2).length
def bG(h:List aA):Nat->List (List (List Int))
 | 0=>[[]]
 | k+1=>(bG h k).flatMap fun begun=>(perms (aP h (k:Int))).map fun order=>begun++[order]
def eZ(h:List aA):List (List (List Int)):=if aC h=true/\iw h<=200 then bG h 3 else []
structure nP where
 h:List aA
 vals:iV
 cK:iV
 kept:Nat->iV
 began:Nat->iV
def kP(ops:List aQ)(s:iV)(key:Int):Int:=((fB ops key).map (·.value)).getD (s key)
def wW(p:List eH)(n:Nat):List aQ:=(p[n]?.map (·.steps)).getD []
def Gg(h:List aA)(n:Nat):Int:=(h[n]?.map (·.az)).getD 0
def iL(s:iV)(ws:List aQ):iV:=ws.foldl (fun s w=>s.put w.key w.value) s
def gu(s:iV)(ws:List aQ):iV:=ws.foldl (fun s w=>s.put w.key (s w.key+1)) s
def mD(cK began:iV)(ws:List aQ):Bool:=ws.all fun w=>cK w.key==began w.key
def uO(f:Nat->iV)(n:Nat)(s:iV):Nat->iV:=fun x=>if x=n then s else f x
def ku(m:nP)(n:Nat)(o:aQ):aQ:=
 if iN o then ⟨o.kind,o.key,10*((n:Int)+1)+((opsOf m.h n).length:Int)+1⟩ else ⟨o.kind,o.key,kP (opsOf m.h n) (m.kept n) o.key⟩
def ak(m:nP)(n:Nat):nP:=if (opsOf m.h n).length=0 then { m with kept:=uO m.kept n m.vals,began:=uO m.began n m.cK } else m
def gU(m:nP)(n:Nat)(o:aQ)(d:Bool):nP:={ m with h:=m.h.set n ⟨Gg m.h n,opsOf m.h n++[o],d⟩ }
def BR(m:nP)(n:Nat)(o:aQ):nP:=
 let ws:=bD (opsOf m.h n++[o])
 if mD m.cK (m.began n) ws=true then { gU m n o true with vals:=iL m.vals ws,cK:=gu m.cK ws } else gU m n o false
def kR(p:List eH)(m:nP)(n:Nat):nP:=
 match (wW p n)[(opsOf m.h n).length]? with
 | none=>m
 | some o=>if (opsOf m.h n).length+1=(wW p n).length then BR (ak m n) n (ku (ak m n) n o) else gU (ak m n) n (ku (ak m n) n o) false
def fF(p:List eH):nP:=⟨p.map fun d=>⟨d.az,[],false⟩,ni,ni,fun _=>ni,fun _=>ni⟩
def dF(n:Nat):List Nat:=List.range n++List.range n++List.range n++List.range n
def bJ(p:List eH)(k:Nat):nP:=((dF p.length).take k).foldl (kR p) (fF p)
def AY(p:List eH):List aA:=(bJ p (dF p.length).length).h
theorem l6{p:List eH}{k n:Nat}(hn:(dF p.length)[k]? =some n):bJ p (k+1)=kR p (bJ p k) n:=by unfold bJ;rw[ah hn,List.foldl_append];rfl
theorem rY{m n:Nat}(h:n∈dF m):n<m:=by unfold dF at h;simp only[List.mem_append,List.mem_range]at h;omega
theorem Fv(m:Nat):(dF m).length=4*m:=by simp[dF];omega
theorem mP(m:nP)(n:Nat):(ak m n).h=m.h:=by unfold ak;split<;>rfl
def YS(s:iV):Prop:=∀k,0<=s k/\s k<=99
structure mZ (p:List eH) (m:nP):Prop where
 len:m.h.length=p.length
 tx:∀(n:Nat) t d,m.h[n]? =some t->p[n]? =some d->t.az=d.az/\t.ops.length<=d.steps.length /\
  ∀(s:Nat) o,t.ops[s]? =some o->∃o0,d.steps[s]? =some o0/\o.kind=o0.kind/\o.key=o0.key/\(iN o=true->o.value=10*((n:Int)+1)+s+1)/\0<=o.value/\o.value<=99
 vals:YS m.vals
 kept:∀n,YS (m.kept n)
theorem YS.put{s:iV}(h:YS s)(k v:Int)(hv:0<=v/\v<=99):YS (s.put k v):=fun x=>by
 unfold iV.put;split
 ·exact hv
 ·exact h x
theorem Tp{s:iV}(h:YS s):∀(ws:List aQ),(∀w∈ws,0<=w.value/\w.value<=99)->YS (iL s ws):=by
 intro ws
 induction ws generalizing s with
 | nil=>intro _;exact h
 | cons w ws ih=>
   intro hw;exact ih (h.put _ _ (hw w (by simp))) (fun x hx=>hw x (by simp[hx]))
theorem mZ.start{p:List eH}:mZ p (fF p) where
 len:=by simp[fF]
 tx n t d ht hd:=by simp only[fF,List.getElem?_map,hd,Option.map_some,Option.some.injEq]at ht;subst ht;exact⟨rfl,by simp,fun s o ho=>by simp at ho⟩
 vals:=fun _=>by simp[fF,ni]
 kept:=fun _ _=>by simp[fF,ni]
theorem mZ.bF{p:List eH}{m:nP}(h:mZ p m)(n:Nat):mZ p (ak m n):=by
 unfold ak;split
 ·refine⟨h.len,h.tx,h.vals,fun x=>?_⟩;show YS (uO m.kept n m.vals x);unfold uO;split
  ·exact h.vals
  ·exact h.kept x
 ·exact h
theorem Cj{h:List aA}{n:Nat}{t:aA}(ht:h[n]? =some t):Gg h n=t.az:=by simp[Gg,ht]
theorem uz{p:List eH}{n:Nat}{d:eH}(hd:p[n]? =some d):wW p n=d.steps:=by simp[wW,hd]
theorem WQ{ops:List aQ}{s:iV}(hs:YS s)(ho:∀o∈ops,0<=o.value/\o.value<=99)(key:Int):0<=kP ops s key/\kP ops s key<=99:=by
 unfold kP
 cases e:fB ops key with
 | none=>exact hs key
 | some o=>exact ho o (j3 e).1
theorem Xo{p:List eH}{m:nP}(h:mZ p m)(hp:dQ p=true){n:Nat}{t:aA}{d:eH}{o0:aQ}(ht:m.h[n]? =some t)(hd:p[n]? =some d)(ho:d.steps[t.ops.length]? =some o0) :
 (ku m n o0).kind=o0.kind/\(ku m n o0).key=o0.key/\(iN (ku m n o0)=true->(ku m n o0).value=10*((n:Int)+1)+t.ops.length+1)/\0<=(ku m n o0).value/\(ku m n o0).value<=99:=by
 have hn:n<4:=by have:=(List.getElem?_eq_some_iff.1 hd).1;have:=jF hp;omega
 have hs:t.ops.length<4:=by have:=(List.getElem?_eq_some_iff.1 ho).1;have:=(gq (dz hp (List.mem_of_getElem? hd))).2;omega
 unfold ku;rw[dw ht];by_cases hw:iN o0=true
 ·rw[if_pos hw];exact⟨rfl,rfl,fun _=>rfl,by show (0:Int)<=10*((n:Int)+1)+(t.ops.length:Int)+1;omega,by show 10*((n:Int)+1)+(t.ops.length:Int)+1<=(99:Int);omega⟩
 ·rw[if_neg hw];refine⟨rfl,rfl,fun hw'=>absurd hw' hw,?_⟩;exact WQ (h.kept n) (fun o ho'=>by
   obtain⟨i,hi,rfl⟩:=List.getElem_of_mem ho'
   exact((h.tx n t d ht hd).2.2 i _ (List.getElem?_eq_getElem hi)).choose_spec.2.2.2.2) _
theorem mZ.note{p:List eH}{m:nP}(h:mZ p m){n:Nat}{t:aA}{d:eH}{o o0:aQ}(dn:Bool)(ht:m.h[n]? =some t)(hd:p[n]? =some d)(ho:d.steps[t.ops.length]? =some o0)
 (hok:o.kind=o0.kind/\o.key=o0.key/\(iN o=true->o.value=10*((n:Int)+1)+t.ops.length+1)/\0<=o.value/\o.value<=99):mZ p (gU m n o dn) where
 len:=by show (m.h.set n _).length = _;rw[List.length_set];exact h.len
 tx x t' d' ht' hd':=by
  replace ht':(m.h.set n ⟨Gg m.h n,opsOf m.h n++[o],dn⟩)[x]? =some t':=ht';rw[List.getElem?_set]at ht';split at ht'
  ·rename_i e;subst e;split at ht'
   ·cases ht';rw[hd]at hd';cases hd';obtain⟨a,b,c⟩:=h.tx n t d ht hd;rw[Cj ht,dw ht];refine⟨a,?_,fun s o' ho'=>?_⟩
    ·have:=(List.getElem?_eq_some_iff.1 ho).1
     simp;omega
    ·rw[List.getElem?_append]at ho';split at ho'
     ·exact c s o' ho'
     ·rename_i hlt;have e0:s-t.ops.length=0:=by
       have:=(List.getElem?_eq_some_iff.1 ho').1
       simp at this;omega
      rw[e0]at ho';simp at ho';subst ho';have e1:s=t.ops.length:=by omega
      subst e1;exact⟨o0,ho,hok⟩
   ·cases ht'
  ·exact h.tx x t' d' ht' hd'
 vals:=h.vals
 kept:=h.kept
theorem RO{p:List eH}{m:nP}(h:mZ p m){n:Nat}{t:aA}{d:eH}(ht:m.h[n]? =some t)(hd:p[n]? =some d):∀o∈t.ops,0<=o.value/\o.value<=99:=fun o ho=>by
 obtain⟨i,hi,rfl⟩:=List.getElem_of_mem ho
 exact((h.tx n t d ht hd).2.2 i _ (List.getElem?_eq_getElem hi)).choose_spec.2.2.2.2
theorem mZ.step{p:List eH}{m:nP}(h:mZ p m)(hp:dQ p=true){n:Nat}(hn:n<p.length):mZ p (kR p m n):=by
 obtain⟨d,hd⟩:∃d,p[n]? =some d:=⟨_,List.getElem?_eq_getElem hn⟩;obtain⟨t,ht⟩:∃t,m.h[n]? =some t:=⟨_,List.getElem?_eq_getElem (by rw[h.len];exact hn)⟩;unfold kR;rw[uz hd,dw ht];split
 ·exact h
 ·rename_i o0 ho;have hB:=h.bF n;have htB:(ak m n).h[n]? =some t:=by rw[mP];exact ht
  have hok:=Xo hB hp htB hd ho;split
  ·unfold BR;simp only;split
   ·have hN:=hB.note true htB hd ho hok;refine⟨hN.len,hN.tx,?_,hN.kept⟩;refine Tp hB.vals _ (fun w hw=>?_);have hm:=(j3 (jD.1 hw).2).1;rw[dw htB,List.mem_append]at hm;rcases hm with hm|hm
    ·exact RO hB htB hd w hm
    ·simp at hm;subst hm;exact hok.2.2.2
   ·exact hB.note false htB hd ho hok
  ·exact hB.note false htB hd ho hok
theorem F7{p:List eH}(hp:dQ p=true):∀k,k<=(dF p.length).length->mZ p (bJ p k):=by
 intro k
 induction k with
 | zero=>intro _;exact mZ.start
 | succ k ih=>
   intro hk;have hx:=List.getElem?_eq_getElem (show k<(dF p.length).length by omega);rw[l6 hx]
   exact(ih (by omega)).step hp (rY (List.getElem_mem _))
theorem RU{p:List eH}{m:nP}(h:mZ p m)(hp:dQ p=true):aC m.h=true:=by
 have hl:m.h.length<=4:=by rw[h.len];exact jF hp
 have hD:∀(n:Nat) t,m.h[n]? =some t->∃d,p[n]? =some d/\bM d=true:=fun n t ht=>by
  have hn:=(List.getElem?_eq_some_iff.1 ht).1;have hn':n<p.length:=by rw[<-h.len];exact hn
  exact⟨p[n],List.getElem?_eq_getElem hn',dz hp (List.getElem_mem _)⟩
 unfold aC;simp only[Bool.and_eq_true,decide_eq_true_eq,List.all_eq_true];refine⟨⟨by omega,fun t ht=>?_⟩,?_⟩
 ·obtain⟨n,hn,rfl⟩:=List.getElem_of_mem ht;have ht':=List.getElem?_eq_getElem hn;obtain⟨d,hd,hdo⟩:=hD n _ ht';obtain⟨a,b,c⟩:=h.tx n _ d ht' hd;have h1:=jy hdo;have h2:=gq hdo;unfold bX;simp only[Bool.and_eq_true,decide_eq_true_eq,List.all_eq_true];refine⟨⟨bL.2 (by omega),by omega⟩,fun o ho=>?_⟩;obtain⟨i,hi,rfl⟩:=List.getElem_of_mem ho;obtain⟨o0,h0,e1,e2,e3,e4⟩:=c i _ (List.getElem?_eq_getElem hi);have hs:=fu hdo (List.mem_of_getElem? h0);have hk:=jk hs;have hy:=iq hs;unfold gH;simp only[Bool.and_eq_true];refine⟨⟨⟨?_,bL.2 (by omega)⟩,bL.2 (by omega)⟩,?_⟩
  ·simp[mM,iN];omega
  ·cases hw:iN (m.h[n].ops[i]) with
   | false=>rfl
   | true=>
     have:=e3 hw
     simp;omega
 ·
  have key:∀(l:List aA) (n:Nat),(∀(i:Nat) t,l[i]? =some t->t.ops.length<=4/\∀(s:Nat) o,t.ops[s]? =some o->iN o=true->o.value=10*(((n+i:Nat):Int)+1)+s+1) ->
   ((dL n l).map (·.1.2)).Pairwise (· < ·)/\∀x∈dL n l,10*((n:Int)+1)<x.1.2:=by
   intro l
   induction l with
   | nil=>intro n _;simp[dL]
   | cons t l ih=>
     intro n hall;obtain⟨h4,hv⟩:=hall 0 t rfl;obtain⟨i1,i2⟩:=ih (n+1) (fun i t' ht'=>by
      have:=hall (i+1) t' (by simpa using ht')
      refine⟨this.1,fun s o ho hw=>?_⟩;rw[this.2 s o ho hw];congr 3
      omega)
     have hone:∀(ops:List aQ) (b:Int),(∀(s:Nat) o,ops[s]? =some o->iN o=true->o.value=b+s+1)->((fH n ops).map (·.1.2)).Pairwise (· < ·)/\∀x∈fH n ops,b<x.1.2/\x.1.2<=b+ops.length:=by
      intro ops
      induction ops with
      | nil=>intro b _;simp[fH]
      | cons o ops ih2=>
        intro b hb;obtain⟨j1,j2⟩:=ih2 (b+1) (fun s o' ho' hw=>by
         have:=hb (s+1) o' (by simpa using ho') hw
         rw[this]
         omega)
        have e:fH n (o :: ops)=(if iN o then [((o.key,o.value),n)] else [])++fH n ops:=by
         unfold fH;rw[List.filter_cons]
         split<;>simp
        rw[e];by_cases hw:iN o=true
        ·have hv0:=hb 0 o rfl hw;rw[if_pos hw];refine⟨?_,fun x hx=>?_⟩
         ·rw[List.singleton_append,List.map_cons,List.pairwise_cons];refine⟨fun y hy=>?_,j1⟩;obtain⟨x,hx,rfl⟩:=List.mem_map.1 hy
          have:=(j2 x hx).1
          simp only;omega
         ·rw[List.singleton_append,List.mem_cons]at hx;rcases hx with rfl|hx
          ·simp only[List.length_cons];omega
          ·have:=j2 x hx
           simp only[List.length_cons];omega
        ·rw[if_neg hw,List.nil_append];refine⟨j1,fun x hx=>?_⟩
         have:=j2 x hx
         simp only[List.length_cons];omega
     obtain⟨k1,k2⟩:=hone t.ops (10*((n:Int)+1)) (fun s o ho hw=>by have:=hv s o ho hw;simpa using this);rw[dL];refine⟨?_,fun x hx=>?_⟩
     ·rw[List.map_append,List.pairwise_append];refine⟨k1,i1,fun a ha b hb=>?_⟩;obtain⟨x,hx,rfl⟩:=List.mem_map.1 ha;obtain⟨y,hy,rfl⟩:=List.mem_map.1 hb;have h1:=(k2 x hx).2;have h2:=i2 y hy;omega
     ·rw[List.mem_append]at hx;rcases hx with hx|hx
      ·exact(k2 x hx).1
      ·have:=i2 x hx
       omega
  obtain⟨k1,_⟩:=key m.h 0 (fun i t ht=>by
   obtain⟨d,hd,hdo⟩:=hD i t ht;obtain⟨a,b,c⟩:=h.tx i t d ht hd;refine⟨by have:=(gq hdo).2;omega,fun s o ho hw=>?_⟩;obtain⟨o0,_,_,_,e3,_⟩:=c s o ho;rw[e3 hw]
   simp)
  refine Dl ?_
  have:((Bo m.h).map (·.1.2)).Nodup:=k1.imp (fun hab=>Int.ne_of_lt hab)
  rw[show (Bo m.h).map (·.1.2)=((Bo m.h).map (·.1)).map (·.2) by simp]at this;unfold List.Nodup at this ⊢;rw[List.pairwise_map]at this;exact this.imp (fun hab e=>hab (by rw[e]))
theorem Ey{p:List eH}(hp:dQ p=true):aC (AY p)=true:=RU (F7 hp _ (Nat.le_refl _)) hp
theorem yj{p:List eH}{m:nP}{n:Nat}{t:aA}{d:eH}(ht:m.h[n]? =some t)(hd:p[n]? =some d)(hs:d.steps[t.ops.length]? =none):kR p m n=m:=by unfold kR;rw[uz hd,dw ht,hs]
theorem tL{p:List eH}{m:nP}{n:Nat}{t:aA}{d:eH}{o:aQ}(ht:m.h[n]? =some t)(hd:p[n]? =some d)(hs:d.steps[t.ops.length]? =some o)(hl:t.ops.length+1≠d.steps.length):kR p m n=gU (ak m n) n (ku (ak m n) n o) false:=by unfold kR;rw[uz hd,dw ht,hs];simp only;rw[if_neg hl]
theorem lU{p:List eH}{m:nP}{n:Nat}{t:aA}{d:eH}{o:aQ}(ht:m.h[n]? =some t)(hd:p[n]? =some d)(hs:d.steps[t.ops.length]? =some o)(hl:t.ops.length+1=d.steps.length):kR p m n=BR (ak m n) n (ku (ak m n) n o):=by unfold kR;rw[uz hd,dw ht,hs];simp only;rw[if_pos hl]
theorem ED{m:nP}{n:Nat}{t:aA}(o:aQ)(dn:Bool)(ht:m.h[n]? =some t):(gU (ak m n) n o dn).h=m.h.set n ⟨t.az,t.ops++[o],dn⟩:=by show (ak m n).h.set n ⟨Gg (ak m n).h n,opsOf (ak m n).h n++[o],dn⟩ = _;rw[mP,Cj ht,dw ht]
theorem MZ{m:nP}{n:Nat}{t:aA}(o:aQ)(ht:m.h[n]? =some t):ku (ak m n) n o=if iN o then ⟨o.kind,o.key,10*((n:Int)+1)+(t.ops.length:Int)+1⟩ else ⟨o.kind,o.key,kP t.ops ((ak m n).kept n) o.key⟩:=by unfold ku;rw[mP,dw ht]
theorem BF{m:nP}{n:Nat}{t:aA}{o:aQ}(ht:m.h[n]? =some t)(hf:mD (ak m n).cK ((ak m n).began n) (bD (t.ops++[o]))=true) :
 BR (ak m n) n o={ gU (ak m n) n o true with vals:=iL m.vals (bD (t.ops++[o])),cK:=gu m.cK (bD (t.ops++[o])) }:=by
 have h1:opsOf (ak m n).h n=t.ops:=by rw[mP,dw ht]
 have h2:(ak m n).vals=m.vals:=by unfold ak;split<;>rfl
 have h3:(ak m n).cK=m.cK:=by unfold ak;split<;>rfl
 unfold BR;simp only;rw[h1,if_pos hf,h2,h3]
theorem Gb{m:nP}{n:Nat}{t:aA}{o:aQ}(ht:m.h[n]? =some t)(hf:mD (ak m n).cK ((ak m n).began n) (bD (t.ops++[o]))=false):BR (ak m n) n o=gU (ak m n) n o false:=by
 have h1:opsOf (ak m n).h n=t.ops:=by rw[mP,dw ht]
 unfold BR;simp only;rw[h1,hf,if_neg (by decide)]
theorem qA(m:nP)(n:Nat):(ak m n).vals=m.vals:=by unfold ak;split<;>rfl
theorem jT(m:nP)(n:Nat):(ak m n).cK=m.cK:=by unfold ak;split<;>rfl
theorem vR{m:nP}{n:Nat}{t:aA}(ht:m.h[n]? =some t)(h0:t.ops.length=0):(ak m n).kept=uO m.kept n m.vals/\(ak m n).began=uO m.began n m.cK:=by unfold ak;rw[dw ht,if_pos h0];exact⟨rfl,rfl⟩
theorem FP{m:nP}{n:Nat}{t:aA}(ht:m.h[n]? =some t)(h0:t.ops.length≠0):(ak m n).kept=m.kept/\(ak m n).began=m.began:=by unfold ak;rw[dw ht,if_neg h0];exact⟨rfl,rfl⟩
theorem EM(m:nP)(n:Nat)(o:aQ):(∃v w,BR m n o={ gU m n o true with vals:=v,cK:=w })∨BR m n o=gU m n o false:=by
 unfold BR;simp only;split
 ·exact .inl ⟨_,_,rfl⟩
 ·exact .inr rfl
theorem step_done{p:List eH}{m:nP}(hn:∀(i:Nat) t d,m.h[i]? =some t->p[i]? =some d->t.ops.length<d.steps.length->t.done=false)(n:Nat):∀(i:Nat) t d,(kR p m n).h[i]? =some t->p[i]? =some d->t.ops.length<d.steps.length->t.done=false:=by
 intro i t d ht hd hl;by_cases hx:∃x y,m.h[n]? =some x/\p[n]? =some y
 ·obtain⟨x,y,hx,hy⟩:=hx
  cases hs:y.steps[x.ops.length]? with
  | none=>rw[yj hx hy hs]at ht;exact hn i t d ht hd hl
  | some o=>
    by_cases hlast:x.ops.length+1=y.steps.length
    ·rw[lU hx hy hs hlast]at ht;have key:∀dn,((gU (ak m n) n (ku (ak m n) n o) dn).h)[i]? =some t->(i=n/\t.ops.length=x.ops.length+1)∨(i≠n/\m.h[i]? =some t):=fun dn hh=>by
      rw[ED _ _ hx,List.getElem?_set]at hh;split at hh
      ·rename_i e;split at hh
       ·cases hh;exact .inl ⟨e.symm,by simp⟩
       ·cases hh
      ·rename_i e;exact .inr ⟨fun h=>e h.symm,hh⟩
     rcases EM (ak m n) n (ku (ak m n) n o) with ⟨v,w,e⟩|e
     ·rw[e]at ht;rcases key true ht with ⟨rfl,h1⟩|⟨_,h1⟩
      ·rw[hd]at hy;cases hy;omega
      ·exact hn i t d h1 hd hl
     ·rw[e]at ht;rcases key false ht with ⟨rfl,h1⟩|⟨_,h1⟩
      ·rw[hd]at hy;cases hy;omega
      ·exact hn i t d h1 hd hl
    ·rw[tL hx hy hs hlast,ED _ _ hx,List.getElem?_set]at ht;split at ht
     ·split at ht
      ·cases ht;rfl
      ·cases ht
     ·exact hn i t d ht hd hl
 ·have:kR p m n=m∨(m.h[n]? =none)∨p[n]? =none:=by
   cases h1:m.h[n]? with
   | none=>exact .inr (.inl rfl)
   | some x=>
     cases h2:p[n]? with
     | none=>exact .inr (.inr rfl)
     | some y=>exact absurd ⟨x,y,h1,h2⟩ hx
  have key:∀o dn,(gU (ak m n) n o dn).h=m.h∨m.h[n]?≠none:=fun o dn=>by
   cases h1:m.h[n]? with
   | none=>
     left;show (ak m n).h.set n _ = _;rw[mP];exact List.set_eq_of_length_le (List.getElem?_eq_none_iff.1 h1)
   | some x=>right;simp
  have h4:(kR p m n).h=m.h:=by
   rcases this with h|h|h
   ·rw[h]
   ·have k2:∀o dn,(gU (ak m n) n o dn).h=m.h:=fun o dn=>(key o dn).resolve_right (by simp[h]);unfold kR;split
    ·rfl
    ·split
     ·rcases EM (ak m n) n (ku (ak m n) n ‹aQ›) with ⟨v,w,e⟩|e
      ·rw[e];exact k2 _ _
      ·rw[e];exact k2 _ _
     ·exact k2 _ _
   ·unfold kR
    have:wW p n=[]:=by simp[wW,h]
    rw[this];simp
  rw[h4]at ht;exact hn i t d ht hd hl
theorem Hy{p:List eH}:∀k,k<=(dF p.length).length->∀(i:Nat) t d,(bJ p k).h[i]? =some t->p[i]? =some d->t.ops.length<d.steps.length->t.done=false:=by
 intro k
 induction k with
 | zero=>
   intro _ i t d ht hd _;have ht:(fF p).h[i]? =some t:=ht;simp only[fF,List.getElem?_map,hd,Option.map_some,Option.some.injEq]at ht;rw[<-ht]
 | succ k ih=>
   intro hk;have hx:=List.getElem?_eq_getElem (show k<(dF p.length).length by omega);rw[l6 hx];exact step_done (ih (by omega)) _
theorem yc(ws:List aQ)(s:iV)(x:Int):s x<=gu s ws x/\gu s ws x<=s x+ws.length:=by
 unfold gu
 induction ws generalizing s with
 | nil=>simp
 | cons w ws ih=>
   rw[List.foldl_cons]
   have:=ih (s.put w.key (s w.key+1))
   have h2:s x<=s.put w.key (s w.key+1) x/\s.put w.key (s w.key+1) x<=s x+1:=by
    unfold iV.put;split
    ·rename_i e;rw[e];omega
    ·omega
   simp only[List.length_cons];omega
theorem yA(ops:List aQ):(bD ops).length<=3:=j6 ops▸lV ops 3
theorem Qw{p:List eH}:∀k,k<=(dF p.length).length->∀x,0<=(bJ p k).cK x/\(bJ p k).cK x<=3*(k:Int):=by
 intro k
 induction k with
 | zero=>intro _ x;exact⟨Int.le_refl _,Int.le_refl _⟩
 | succ k ih=>
   intro hk x;have hx:=List.getElem?_eq_getElem (show k<(dF p.length).length by omega);have h0:=ih (by omega) x;rw[l6 hx];generalize (dF p.length)[k]=n;generalize bJ p k=m at h0;have hn:∀o dn,(gU (ak m n) n o dn).cK=m.cK:=fun o dn=>jT m n;have key:(kR p m n).cK x=m.cK x∨∃ws,ws.length<=3/\(kR p m n).cK=gu m.cK ws:=by
    unfold kR;split
    ·exact .inl rfl
    ·split
     ·unfold BR;simp only;split
      ·right;exact⟨_,yA _,by rw[jT]⟩
      ·left;rw[hn]
     ·left;rw[hn]
   rcases key with h|⟨ws,hl,h⟩
   ·rw[h];omega
   ·rw[h]
    have:=yc ws m.cK x
    omega
theorem CP{s:iV}{ws:List aQ}{j:Nat}{w:aQ}(hw:ws[j]? =some w):iL s (ws.take (j+1))=(iL s (ws.take j)).put w.key w.value:=by unfold iL;rw[ah hw,List.foldl_append];rfl
theorem J8{s:iV}{ws:List aQ}{j:Nat}{w:aQ}(hw:ws[j]? =some w):gu s (ws.take (j+1))=(gu s (ws.take j)).put w.key ((gu s (ws.take j)) w.key+1):=by unfold gu;rw[ah hw,List.foldl_append];rfl
theorem UB{v b:iV}{ws:List aQ}{j:Nat}{w:aQ}(hw:ws[j]? =some w):mD v b (ws.take (j+1))=(mD v b (ws.take j)&&v w.key==b w.key):=by unfold mD;rw[ah hw,List.all_append];simp
theorem pM(s sub:List UInt8):Lib.index s sub=-1∨∃i:Nat,Lib.index s sub=i:=by
 have:=Lib.index_ge s sub
 by_cases h:Lib.index s sub=-1
 ·exact .inl h
 ·exact .inr ⟨(Lib.index s sub).toNat,by omega⟩
theorem index_hit{c:UInt8}{l sub:List UInt8}(h:sub.isPrefixOf (c :: l)=true):Lib.index (c :: l) sub=0:=by rw[Lib.index,if_pos h]
theorem QW{c:UInt8}{l sub:List UInt8}(h:sub.isPrefixOf (c :: l)=false):Lib.index (c :: l) sub=if Lib.index l sub == -1 then -1 else Lib.index l sub+1:=by rw[Lib.index,h];rfl
theorem yS{c:UInt8}{l sub:List UInt8}(h:sub.isPrefixOf (c :: l)=false):(Lib.index (c :: l) sub=-1->Lib.index l sub=-1)/\∀i:Nat,Lib.index (c :: l) sub=i->∃j:Nat,i=j+1/\Lib.index l sub=j:=by
 rw[QW h]
 have:=Lib.index_ge l sub
 by_cases e:Lib.index l sub=-1
 ·rw[e];exact⟨fun _=>rfl,fun i hi=>by simp at hi⟩
 ·have:(Lib.index l sub == -1)=false:=by simpa using e
  rw[this];refine⟨fun h=>?_,fun i hi=>⟨i-1,?_,?_⟩⟩<;>simp at*<;> omega
theorem oF(b:UInt8):∀s:List UInt8,(Lib.index s [b]=-1->aK b s=[s])/\∀i:Nat,Lib.index s [b]=i->aK b s=s.take i :: aK b (s.drop (i+1))
 | []=>⟨fun _=>rfl,fun i h=>by simp[Lib.index]at h⟩
 | c :: l=>by
   obtain⟨h1,h2⟩:=oF b l;by_cases hc:c=b
   ·subst hc;have e:Lib.index (c :: l) [c]=0:=index_hit (by simp);refine⟨fun h=>?_,fun i h=>?_⟩
    ·rw[e]at h;cases h
    ·rw[e]at h;obtain rfl:i=0:=by omega
     simp[aK]
   ·obtain⟨n1,n2⟩:=yS (c:=c) (l:=l) (sub:=[b]) (by simp[List.isPrefixOf,Ne.symm hc]);refine⟨fun h=>?_,fun i h=>?_⟩
    ·rw[aK,if_neg hc,h1 (n1 h)]
    ·obtain⟨j,rfl,hj⟩:=n2 i h;rw[aK,if_neg hc,h2 j hj];rfl
theorem tO:∀s:List UInt8,(Lib.index s [59,32]=-1->dS s=[s])/\∀i:Nat,Lib.index s [59,32]=i->dS s=s.take i :: dS (s.drop (i+2))
 | []=>⟨fun _=>rfl,fun i h=>by simp[Lib.index]at h⟩
 | c :: l=>by
   obtain⟨h1,h2⟩:=tO l;by_cases hc:∃r,c :: l=59 :: 32 :: r
   ·obtain⟨r,hr⟩:=hc;have e:Lib.index (c :: l) [59,32]=0:=by rw[hr];exact index_hit (by simp[List.isPrefixOf])
    refine⟨fun h=>?_,fun i h=>?_⟩
    ·rw[e]at h;cases h
    ·rw[e]at h;obtain rfl:i=0:=by omega
     rw[hr];simp[dS]
   ·have hp:List.isPrefixOf [59,32] (c :: l)=false:=by rw[Bool.eq_false_iff];intro h;obtain⟨r,hr⟩:=List.isPrefixOf_iff_prefix.1 h;exact hc ⟨r,hr.symm⟩
    have hs:dS (c :: l)=match dS l with
     | []=>[[c]]
     | y :: r=>(c :: y) :: r:=by
     rw[dS]
     all_goals first
      | rfl
      | (rintro t rfl rfl
         exact hc ⟨_,rfl⟩)
    obtain⟨n1,n2⟩:=yS hp;refine⟨fun h=>?_,fun i h=>?_⟩
    ·rw[hs,h1 (n1 h)]
    ·obtain⟨j,rfl,hj⟩:=n2 i h;rw[hs,h2 j hj];rfl
theorem zS(b:UInt8):∀(k:Nat) (s:List UInt8),Lib.count s [b]=k->Lib.splitK [b] 0 k s=aK b s
 | 0,s,h=>by
   rcases pM s [b] with e|⟨i,e⟩
   ·exact((oF b s).1 e).symm
   ·rw[Lib.count_hit (by simp) e]at h;omega
 | k+1,s,h=>by
   rcases pM s [b] with e|⟨i,e⟩
   ·rw[Lib.count_miss e]at h;omega
   ·rw[Lib.count_hit (by simp) e]at h;have ih:=zS b k (s.drop (i+1)) (by simp at h;omega);rw[Lib.splitK,(oF b s).2 i e,e,if_neg (by simp)];simp only[Int.toNat_natCast,Nat.add_zero,List.length_cons,List.length_nil,Nat.zero_add];rw[ih]
theorem KC(b:UInt8)(s:List UInt8):(aK b s).length=Lib.count s [b]+1:=by
 have:∀(k:Nat) (s:List UInt8),Lib.count s [b]=k->(aK b s).length=k+1:=by
  intro k
  induction k with
  | zero=>
    intro s h;rcases pM s [b] with e|⟨i,e⟩
    ·rw[(oF b s).1 e];rfl
    ·rw[Lib.count_hit (by simp) e]at h;omega
  | succ k ih=>
    intro s h;rcases pM s [b] with e|⟨i,e⟩
    ·rw[Lib.count_miss e]at h;omega
    ·rw[Lib.count_hit (by simp) e]at h;rw[(oF b s).2 i e,List.length_cons,ih _ (by simp at h;omega)]
 exact this _ s rfl
theorem nH(b:UInt8):∀s:List UInt8,(aK b s).length<=s.length+1
 | []=>by simp[aK]
 | c :: l=>by
   have:=nH b l
   rw[aK];split
   ·simp;omega
   ·split
    ·simp
    ·rename_i e;rw[e]at this;simp at this ⊢;omega
theorem nX(b:UInt8):∀s:List UInt8,∀x∈aK b s,x.length<=s.length
 | [],x,h=>by simp[aK]at h;subst h;simp
 | c :: l,x,h=>by
   have ih:=nX b l;rw[aK]at h;split at h
   ·rcases List.mem_cons.1 h with rfl|h
    ·simp
    ·have:=ih x h;simp;omega
   ·split at h
    ·simp at h;subst h;simp
    ·rename_i y r e;rw[e]at ih;rcases List.mem_cons.1 h with rfl|h
     ·have:=ih y (by simp);simp;omega
     ·have:=ih x (by simp[h]);simp;omega
theorem vK(b:UInt8):∀(l:List UInt8) (c:UInt8),aK b (l++[c])=if c=b then aK b l++[[]] else (aK b l).dropLast++[((aK b l).getLast?).getD []++[c]]
 | [],c=>by by_cases h:c=b<;>simp[aK,h]
 | x :: l,c=>by
   have ih:=vK b l c;have hne:=pV b l;rw[List.cons_append,aK,aK,ih];by_cases hx:x=b
   ·rw[if_pos hx,if_pos hx];by_cases hc:c=b
    ·rw[if_pos hc,if_pos hc];rfl
    ·rw[if_neg hc,if_neg hc]
     cases e:aK b l with
     | nil=>exact absurd e hne
     | cons y r=>simp[List.dropLast,List.getLast?_cons]
   ·rw[if_neg hx,if_neg hx]
    cases e:aK b l with
    | nil=>exact absurd e hne
    | cons y r=>
      by_cases hc:c=b
      ·rw[if_pos hc,if_pos hc];rfl
      ·rw[if_neg hc,if_neg hc]
       cases r with
       | nil=>simp
       | cons z r=>simp[List.getLast?_cons]
def dR(s:List UInt8):List UInt8:=s.takeWhile (· != 32)
def dJ(s:List UInt8):List UInt8:=(s.dropWhile (· != 32)).drop 1
theorem Gz:∀s:List UInt8,(Lib.index s [32]=-1->dR s=s/\dJ s=[])/\∀i:Nat,Lib.index s [32]=i->dR s=s.take i/\dJ s=s.drop (i+1)
 | []=>⟨fun _=>⟨rfl,rfl⟩,fun i h=>by simp[Lib.index]at h⟩
 | c :: l=>by
   obtain⟨h1,h2⟩:=Gz l;by_cases hc:c=32
   ·subst hc;have e:Lib.index (32 :: l) [32]=0:=index_hit (by simp);refine⟨fun h=>?_,fun i h=>?_⟩
    ·rw[e]at h;cases h
    ·rw[e]at h;obtain rfl:i=0:=by omega
     simp[dR,dJ]
   ·obtain⟨n1,n2⟩:=yS (c:=c) (l:=l) (sub:=[32]) (by simp[List.isPrefixOf,Ne.symm hc]);have w1:dR (c :: l)=c :: dR l:=by simp[dR,hc]
    have w2:dJ (c :: l)=dJ l:=by simp[dJ,hc]
    refine⟨fun h=>?_,fun i h=>?_⟩
    ·rw[w1,w2,(h1 (n1 h)).1,(h1 (n1 h)).2];exact⟨rfl,rfl⟩
    ·obtain⟨j,rfl,hj⟩:=n2 i h;rw[w1,w2,(h2 j hj).1,(h2 j hj).2];exact⟨rfl,rfl⟩
theorem X5(s:List UInt8):(Lib.cut s [32]).1=dR s/\(Lib.cut s [32]).2.1=dJ s:=by
 rcases pM s [32] with e|⟨i,e⟩
 ·obtain⟨h1,h2⟩:=(Gz s).1 e;unfold Lib.cut;rw[e,if_neg (by omega),h1,h2];exact⟨rfl,rfl⟩
 ·obtain⟨h1,h2⟩:=(Gz s).2 i e;unfold Lib.cut;rw[e,if_pos (by omega),h1,h2];exact⟨rfl,rfl⟩
theorem JV(s:List UInt8):(dJ s).length<=s.length:=by
 unfold dJ;rw[List.length_drop]
 have:=List.Sublist.length_le (List.dropWhile_sublist (l:=s) (· != (32:UInt8)))
 omega
def fC(b:UInt8):Bool:=decide (48<=b.toNat)&&decide (b.toNat<=57)
def lS(l:List UInt8):Bool:=(l.length==1 || (l.length==2&&l.head? != some 48))&&l.all fC
def dD(l:List UInt8):Option Nat:=if lS l then some (numOf l) else none
theorem yz(a:UInt8):dD [a]=if fC a then some (a.toNat-48) else none:=by simp[dD,lS,numOf]
theorem tY(a b:UInt8):dD [a,b]=if a≠48/\fC a=true/\fC b=true then some (10*(a.toNat-48)+(b.toNat-48)) else none:=by
 unfold dD
 have:lS [a,b]=true↔a≠48/\fC a=true/\fC b=true:=by simp[lS]
 by_cases h:a≠48/\fC a=true/\fC b=true
 ·rw[if_pos (this.2 h),if_pos h];simp[numOf]
 ·rw[if_neg (fun e=>h (this.1 e)),if_neg h]
theorem vC{l:List UInt8}(h:l.length=0∨3<=l.length):dD l=none:=by
 have:lS l=false:=by unfold lS;rw[show (l.length==1)=false by simp;omega,show (l.length==2)=false by simp;omega];rfl
 rw[dD,this];rfl
theorem Gt{n:Nat}(h:n<100):dD (bK n)=some n:=by
 have:∀n∈List.range 100,dD (bK n)=some n:=by decide +kernel
 exact this n (List.mem_range.2 h)
theorem pK{l:List UInt8}{n:Nat}(h:dD l=some n):n<100/\bK n=l:=by
 match l with
 | []=>cases h
 | [a]=>
   rw[yz]at h;split at h
   ·rename_i hd;cases h;simp only[fC,Bool.and_eq_true,decide_eq_true_eq]at hd;refine⟨by omega,?_⟩;unfold bK;rw[if_pos (by omega)];unfold jg;rw[show 48+(a.toNat-48)=a.toNat by omega];simp
   ·cases h
 | [a,b]=>
   rw[tY]at h;split at h
   ·rename_i hd;obtain⟨h0,h1,h2⟩:=hd;cases h;simp only[fC,Bool.and_eq_true,decide_eq_true_eq]at h1 h2;have ha:a.toNat≠48:=fun e=>h0 (UInt8.toNat_inj.1 (by rw[e];rfl));refine⟨by omega,?_⟩;unfold bK;rw[if_neg (by omega)];unfold jg;rw[show 48+(10*(a.toNat-48)+(b.toNat-48))/10=a.toNat by omega,show 48+(10*(a.toNat-48)+(b.toNat-48))%10=b.toNat by omega];simp
   ·cases h
 | a :: b :: c :: r=>rw[vC (.inr (by simp))]at h;cases h
theorem yR(b:UInt8):∀s:List UInt8,joinL [b] (aK b s)=s
 | []=>rfl
 | c :: l=>by
   have ih:=yR b l;rw[aK];by_cases hc:c=b
   ·rw[if_pos hc,iy _ _ _ (pV b l),ih,hc];rfl
   ·rw[if_neg hc]
    cases e:aK b l with
    | nil=>exact absurd e (pV b l)
    | cons y r=>
      rw[e]at ih;rw[<-ih]
      cases r with
      | nil=>rfl
      | cons z r=>rw[iy [b] (c :: y) (z :: r) (by simp),iy [b] y (z :: r) (by simp)];rfl
theorem Sj{s:List UInt8}{t:aA}(hk:bX t=true)(hw:aK 32 s=bR t):dh s=some t:=
 mU.2 ⟨hk,by rw[lH,<-hw,yR]⟩
theorem Ty{s:List UInt8}{t:aA}(h:dh s=some t):bX t=true/\aK 32 s=bR t:=by obtain⟨h1,rfl⟩:=mU.1 h;exact⟨h1,Bg h1⟩
theorem lT{s:List UInt8}(h:∀t,bX t=true->aK 32 s≠bR t):dh s=none:=by
 cases e:dh s with
 | none=>rfl
 | some t=>obtain⟨h1,h2⟩:=Ty e;exact absurd h2 (h t h1)
def rO(ws:List (List UInt8))(os:List aQ):Prop:=os.length<=ws.length/\∀(i:Nat) o,os[i]? =some o->∃w,ws[i]? =some w/\fD w=some o
theorem rO.nil(ws:List (List UInt8)):rO ws []:=⟨Nat.zero_le _,fun i o h=>by simp at h⟩
theorem rO.push{ws:List (List UInt8)}{os:List aQ}{w:List UInt8}{o:aQ}(h:rO ws os)(hw:ws[os.length]? =some w)(ho:fD w=some o):rO ws (os++[o]):=by
 have hl:=(List.getElem?_eq_some_iff.1 hw).1;refine⟨by simp;omega,fun i x hx=>?_⟩;rcases Nat.lt_trichotomy i os.length with hi|hi|hi
 ·rw[List.getElem?_append_left hi]at hx;exact h.2 i x hx
 ·subst hi;simp at hx;subst hx;exact⟨w,hw,ho⟩
 ·rw[List.getElem?_append_right (by omega),List.getElem?_eq_none (by simp;omega)]at hx;cases hx
theorem rO.all{ws:List (List UInt8)}{os:List aQ}(h:rO ws os)(hl:os.length=ws.length):ws=os.map sF/\∀o∈os,gH o=true:=by
 refine⟨?_,fun o ho=>?_⟩
 ·apply List.ext_getElem?;intro i;rw[List.getElem?_map]
  cases ho:os[i]? with
  | none=>
    rw[List.getElem?_eq_none_iff]at ho;rw[List.getElem?_eq_none (by omega)];rfl
  | some o=>
    obtain⟨w,hw,hr⟩:=h.2 i o ho;rw[hw,<-(jS.1 hr).2];rfl
 ·obtain⟨i,hi,rfl⟩:=List.getElem_of_mem ho;obtain⟨w,_,hr⟩:=h.2 i _ (List.getElem?_eq_getElem hi)
  exact(jS.1 hr).1
theorem TE{s w0 w1:List UInt8}{ws:List (List UInt8)}{t:aA}(hs:aK 32 s=w0 :: w1 :: ws)(hw:aK 32 s=bR t):w0=[115,jg t.az.toNat]/\w1=(if t.done then [111,107] else [111,102,102])/\ws=t.ops.map sF:=by rw[hs,bR]at hw;injection hw with e1 hw;injection hw with e2 e3;exact⟨e1,e2,e3⟩
theorem QF{c:UInt8}{t:aA}(hk:bX t=true)(h:c=jg t.az.toNat):dD [c]=some t.az.toNat:=by
 have:=jC hk
 rw[h,<-show bK t.az.toNat=[jg t.az.toNat] by unfold bK;rw[if_pos (by omega)]];exact Gt (by omega)
theorem Ta{c:UInt8}{n:Nat}(h:dD [c]=some n):n<10/\c=jg n:=by
 have h1:=pK h;rw[yz]at h;split at h
 ·rename_i hd;cases h;simp only[fC,Bool.and_eq_true,decide_eq_true_eq]at hd;refine⟨by omega,?_⟩;unfold jg;rw[show 48+(c.toNat-48)=c.toNat by omega];simp
 ·cases h
theorem M7{s:List UInt8}{c:UInt8}{n:Nat}{d:Bool}{ws:List (List UInt8)}{os:List aQ}(hs:aK 32 s=[115,c] :: (if d then [111,107] else [111,102,102]) :: ws)(hc:dD [c]=some n)(h:rO ws os)(hl:os.length=ws.length)
 (hk:bX ⟨(n:Int),os,d⟩=true):dh s=some ⟨(n:Int),os,d⟩:=by
 obtain⟨e1,e2⟩:=Ta hc;refine Sj hk ?_;rw[hs,bR,<-(h.all hl).1,e2];rfl
theorem ES{l:List (List UInt8)}{k:Nat}{x:List UInt8}(hk:0<k)(hx:l[k]? =some x)(sep:List UInt8):joinL sep (l.take (k+1))=joinL sep (l.take k)++sep++x:=by
 have hl:=(List.getElem?_eq_some_iff.1 hx).1;rw[ah hx];exact yJ sep _ _ (fun h=>by
  have:=congrArg List.length h
  rw[List.length_take]at this;simp only[List.length_nil]at this
  omega)
theorem Dp{l:List (List UInt8)}{x:List UInt8}(hx:l[0]? =some x)(sep:List UInt8):joinL sep (l.take 1)=x:=by
 cases l with
 | nil=>cases hx
 | cons a r=>cases hx;simp[joinL]
theorem MQ{a b c d:UInt8}{r:List UInt8}{v:Int}(hv:∀n,n<100->d :: r=bK n->v=(n:Int)) :
 (ig ⟨if a=119 then 2 else 1,(b.toNat:Int)-48,v⟩=a :: b :: c :: d :: r->fD (a :: b :: c :: d :: r)=some ⟨if a=119 then 2 else 1,(b.toNat:Int)-48,v⟩) /\
 (ig ⟨if a=119 then 2 else 1,(b.toNat:Int)-48,v⟩≠a :: b :: c :: d :: r->fD (a :: b :: c :: d :: r)=none):=by
 constructor
 ·intro h;generalize (⟨if a=119 then 2 else 1,(b.toNat:Int)-48,v⟩:aQ)=o at *;unfold ig at h;split at h
  ·rename_i hk;exact jS.2 ⟨hk,h⟩
  ·cases h
 ·intro h
  cases e:fD (a :: b :: c :: d :: r) with
  | none=>rfl
  | some o=>
    exfalso;obtain⟨hk,he⟩:=jS.1 e;have k1:=iB hk;have k2:=j5 hk;have he2:=he;unfold sF at he2;injection he2 with e1 he2;injection he2 with e2 he2;injection he2 with e3 e4;have hb:b.toNat=48+o.key.toNat:=by rw[<-e2];exact oD (by omega)
    have hval:=hv o.value.toNat (by omega) e4.symm;have ho:o=⟨if a=119 then 2 else 1,(b.toNat:Int)-48,v⟩:=by
     refine aQ.ext' ?_ ?_ ?_
     ·rw[<-e1];unfold aW iN;rcases nL hk with q|q<;>rw[q]<;>simp
     ·simp only;omega
     ·simp only;omega
    rw[<-ho,ig,if_pos hk]at h;exact h he
theorem Az{l:List UInt8}(h:l.length<4):fD l=none:=uX fun o _ e=>by
 have:=congrArg List.length e
 unfold sF at this;simp only[List.length_cons]at this
 have:0<(bK o.value.toNat).length:=by unfold bK;split<;>simp
 omega
def tx(l:List UInt8):ByteArray:=⟨l.toArray⟩
theorem eD(l:List UInt8):(tx l).toList=l:=ByteArray.toList_mk l
theorem Lv(l:List UInt8):(tx l).data.toList=l:=rfl
theorem dH(l:List UInt8):(tx l).size=l.length:=rfl
theorem adw(s:ByteArray):tx s.data.toList=s:=rfl
theorem aaL{a b:List UInt8}(h:tx a=tx b):a=b:=by rw[<-eD a,<-eD b,h]
theorem aai(a b:List UInt8):tx a++tx b=tx (a++b):=ByteArray.mk_append_mk a b
theorem aZ(a b:List UInt8)(h:a.length+b.length<=9223372036854775807)(w:World):(Op.stringOp .add (tx a) (tx b)).run Tryz.prog w=.ok (.string (tx (a++b))) w:=by rw[run_string_add_sum w (tx a) (tx b) h,aai]
theorem kU(n:Nat):(bK n).length<=2:=by unfold bK;split<;>simp
def encS(l:List UInt8)(_:Nat):Value:=.string (tx l)
theorem gK:(Tryz.prog.info? 9).map (fun i=>(i.zero,i.size,i.bytes))=some (some (.string ⟨#[]⟩),1,16):=by kernel_rfl
theorem RB{E:TypeId}{α:Type}{enc:α->Nat->Value}(w:World)(x y:α):Row E 1 enc w.heap.size (w.alloc (.cells #[enc x 0,enc y 0] E)) (.slice (some ⟨w.heap.size,0,none⟩) 2 2) [x,y]:=
 ⟨rfl,.inr ⟨w.heap.size,2,_,rfl,Nat.le_refl _,heap_alloc_new w _,Nat.le_refl _,by simp[maxLen],rfl,rfl⟩⟩
theorem uj(o:aQ):(sF o).length<=5:=by have:=kU o.value.toNat;simp[sF];omega
theorem nU(sep:List UInt8)(M:Nat):∀ws:List (List UInt8),(∀w∈ws,w.length<=M)->(joinL sep ws).length<=ws.length*(M+sep.length)
 | [],_=>by simp[joinL]
 | [x],h=>by have:=h x (by simp);simp[joinL];omega
 | x :: y :: r,h=>by have h1:=h x (by simp);have h2:=nU sep M (y :: r) (fun w hw=>h w (by simp[hw]));rw[iy sep x (y :: r) (by simp)];simp only[List.length_append,List.length_cons,Nat.add_mul]at h2 ⊢;omega
theorem jZ{l:List UInt8}{k:Nat}{x:UInt8}(hx:l[k]? =some x)(j:Int)(hj:j=(k:Int))(W:World):(Instr.index 9 (.string (tx l)) (.int .i64 j)).run Tryz.prog W=.ok (.int .u8 (x.toNat:Int)) W:=by
 subst hj;have hl:=(List.getElem?_eq_some_iff.1 hx).1;rw[run_index_string W 9 (tx l) .i64 k Tryz.underlying9,dif_pos ⟨by omega,by rw[dH];omega⟩];have e:(tx l)[(k:Int).toNat]'(by rw[dH];omega)=x:=by
  have:=(List.getElem?_eq_some_iff.1 hx).2
  rw[<-this];rfl
 rw[e]
theorem ny(l:List UInt8)(i j:Nat):(tx l).extract i j=tx ((l.take j).drop i):=by
 have h:((tx l).extract i j).data=(tx ((l.take j).drop i)).data:=by rw[ByteArray.data_extract];show (l.toArray).extract i j = _;apply Array.ext';simp[tx,List.extract_eq_drop_take];rw[List.drop_take]
 exact congrArg ByteArray.mk h
theorem Kl(l:List UInt8)(i:Nat):(tx l).extract i (tx l).size=tx (l.drop i):=by rw[ny,dH,List.take_length]
theorem dK{w:World}{b:Nat}{u0 u1 u2:Value}(x0 x1 x2:Value)(h0:w.cell? ⟨b,0,none⟩=some u0)(h1:w.cell? ⟨b,1,none⟩=some u1)(h2:w.cell? ⟨b,2,none⟩=some u2) :
 (((w.setCell ⟨b,0,none⟩ x0).setCell ⟨b,1,none⟩ x1).setCell ⟨b,2,none⟩ x2).cell? ⟨b,0,none⟩=some x0/\(((w.setCell ⟨b,0,none⟩ x0).setCell ⟨b,1,none⟩ x1).setCell ⟨b,2,none⟩ x2).cell? ⟨b,1,none⟩=some x1/\(((w.setCell ⟨b,0,none⟩ x0).setCell ⟨b,1,none⟩ x1).setCell ⟨b,2,none⟩ x2).cell? ⟨b,2,none⟩=some x2:=by
 have n01:(⟨b,0,none⟩:Addr)≠⟨b,1,none⟩:=by simp
 have n02:(⟨b,0,none⟩:Addr)≠⟨b,2,none⟩:=by simp
 have n12:(⟨b,1,none⟩:Addr)≠⟨b,2,none⟩:=by simp
 have a0:=dx h0 x0;have a1:=(au n01 x0).trans h1;have a2:=(au n02 x0).trans h2;have b0:=(au n01.symm x1).trans a0;have b1:=dx a1 x1;have b2:=(au n12 x1).trans a2;exact⟨(au n02.symm x2).trans b0,(au n12.symm x2).trans b1,dx b2 x2⟩
def xP(h:List aA)(n:Nat)(o:aQ):Bool:=mM o&&(opsOf h n).any fun w=>iN w&&(w.key==o.key&&w.value==o.value)
def qR(h:List aA)(n:Nat)(t:aA):aA:=⟨t.az,t.ops.filter (fun o=>!xP h n o),t.done⟩
def mg(h:List aA)(n:Nat):List aA:=(h.eraseIdx n).map (qR h n)
def Mh(ops:List aQ):List (Int × Int):=(ops.filter iN).map fun o=>(o.key,o.value)
theorem VK(h:List aA):∀n,(dL n h).map (·.1)=h.flatMap fun t=>Mh t.ops:=by
 induction h with
 | nil=>intro n;rfl
 | cons t h ih=>
   intro n;rw[dL,List.map_append,ih,List.flatMap_cons];congr 1;simp[fH,Mh]
theorem Q3(h:List aA)(n:Nat)(t:aA):Mh (qR h n t).ops=Mh t.ops:=by
 unfold Mh qR;rw[List.filter_filter];congr 1;refine List.filter_congr fun o _=>?_
 cases hw:iN o with
 | false=>simp
 | true=>
   have hr:mM o=false:=by simp only[iN,mM,beq_iff_eq,beq_eq_false_iff_ne]at hw ⊢;omega
   simp[xP,hr]
theorem NT{α β:Type}(f:α->List β){a b:List α}(h:a.Sublist b):(a.flatMap f).Sublist (b.flatMap f):=by
 induction h with
 | slnil=>simp
 | cons x _ ih=>rw[List.flatMap_cons];exact ih.trans (List.sublist_append_right _ _)
 | cons_cons x _ ih=>rw[List.flatMap_cons,List.flatMap_cons];exact(List.Sublist.refl _).append ih
theorem EX{h:List aA}(hok:aC h=true)(n:Nat):aC (mg h n)=true:=by
 unfold aC at hok ⊢;simp only[Bool.and_eq_true,decide_eq_true_eq,List.all_eq_true]at hok ⊢;obtain⟨⟨h1,h2⟩,h3⟩:=hok;refine⟨⟨?_,fun t ht=>?_⟩,?_⟩
 ·unfold mg;rw[List.length_map,List.length_eraseIdx]
  split<;>omega
 ·unfold mg at ht;obtain⟨u,hu,rfl⟩:=List.mem_map.1 ht;have hok:=h2 u (List.mem_of_mem_eraseIdx hu);unfold bX at hok ⊢;simp only[Bool.and_eq_true,decide_eq_true_eq,List.all_eq_true]at hok ⊢;refine⟨⟨hok.1.1,Nat.le_trans (List.length_filter_le _ _) hok.1.2⟩,fun o ho=>hok.2 o ((List.mem_filter.1 ho).1)⟩
 ·unfold jh at h3;have h3:=of_decide_eq_true h3;refine Dl ?_;unfold Bo at h3 ⊢;rw[VK]at h3 ⊢;unfold mg;rw[List.flatMap_map];simp only[Q3];exact h3.sublist (NT _ (List.eraseIdx_sublist _ _))
theorem PU{ops:List aQ}{s:iV}{key:Int}(h:before ops key=none):kP ops s key=s key:=by
 unfold kP
 cases hl:fB ops key with
 | none=>rfl
 | some o=>
   obtain⟨h1,_,h3⟩:=j3 hl;exact absurd h3 (CS h h1)
def oQ(m:nP):Prop:=∀(n:Nat) t,m.h[n]? =some t->∀key v,before t.ops key=some v->kP t.ops (m.kept n) key=v
theorem oQ.own{m:nP}(h:oQ m){n:Nat}{t:aA}(ht:m.h[n]? =some t)(key:Int):(before t.ops key).getD (m.kept n key)=kP t.ops (m.kept n) key:=by
 cases hb:before t.ops key with
 | none=>rw[PU hb];rfl
 | some v=>rw[h n t ht key v hb];rfl
theorem oQ.start{p:List eH}:oQ (fF p):=fun n t ht key v hv=>by simp only[fF,List.getElem?_map]at ht;obtain⟨d,_,rfl⟩:=Option.map_eq_some_iff.1 ht;simp[EG]at hv
theorem oQ.bF{m:nP}(h:oQ m)(n:Nat):oQ (ak m n):=fun i t ht key v hv=>by
 rw[mP]at ht;unfold ak;split
 ·rename_i h0;simp only[uO];split
  ·rename_i e;subst e;rw[dw ht]at h0;rw[List.eq_nil_of_length_eq_zero h0,EG]at hv;cases hv
  ·exact h i t ht key v hv
 ·exact h i t ht key v hv
theorem oQ.note{m:nP}(h:oQ m){n:Nat}{o:aQ}(d:Bool){v w:iV}:oQ { gU m n (ku m n o) d with vals:=v,cK:=w }:=fun i t ht key x hx=>by
 simp only[gU]at ht ⊢;rw[List.getElem?_set]at ht;split at ht
 ·rename_i e;subst e;split at ht
  ·rename_i hlt;obtain⟨t0,ht0⟩:=af hlt;cases ht;simp only[dw ht0]at hx ⊢;have hw:iN (ku m n o)=iN o:=by unfold ku;split<;>rfl
   have hk:(ku m n o).key=o.key:=by unfold ku;split<;>rfl
   rw[vV]at hx;unfold kP;rw[sV,hw,hk];rw[hk]at hx;by_cases e:key=o.key
   ·subst e;rw[if_pos rfl]at hx;cases hx;by_cases hwo:iN o=true
    ·rw[if_pos ⟨hwo,rfl⟩];rfl
    ·rw[if_neg (fun c=>hwo c.1)];unfold ku;rw[if_neg hwo,dw ht0];rfl
   ·rw[if_neg e]at hx;rw[if_neg (fun c=>e c.2.symm)];exact h n t0 ht0 key x hx
  ·cases ht
 ·exact h i t ht key x hx
theorem oQ.step{p:List eH}{m:nP}(h:oQ m)(n:Nat):oQ (kR p m n):=by
 have h1:=h.bF n;unfold kR;split
 ·exact h
 ·split
  ·unfold BR;simp only;split
   ·exact h1.note true
   ·exact h1.note (v:=(ak m n).vals) (w:=(ak m n).cK) false
  ·exact h1.note (v:=(ak m n).vals) (w:=(ak m n).cK) false
theorem ZM{p:List eH}:∀k,k<=(dF p.length).length->oQ (bJ p k)
 | 0,_=>by simp only[bJ,List.take_zero,List.foldl_nil];exact oQ.start
 | k+1,hk=>by
   obtain⟨n,hn⟩:=af (show k<(dF p.length).length by omega);rw[l6 hn]
   exact(ZM k (by omega)).step n
def vF(m:nP):Prop:=∀n x,m.began n x<=m.cK x
theorem vF.step{p:List eH}{m:nP}(h:vF m)(n:Nat):vF (kR p m n):=by
 have h1:vF (ak m n):=fun i x=>by
  unfold ak;split
  ·simp only[uO];split
   ·exact Int.le_refl _
   ·exact h i x
  ·exact h i x
 unfold kR;split
 ·exact h
 ·split
  ·unfold BR;simp only;split
   ·exact fun i x=>Int.le_trans (h1 i x) (yc _ _ x).1
   ·exact h1
  ·exact h1
theorem ZN{p:List eH}:∀k,k<=(dF p.length).length->vF (bJ p k)
 | 0,_=>fun _ _=>by simp[bJ,fF,ni]
 | k+1,hk=>by
   obtain⟨n,hn⟩:=af (show k<(dF p.length).length by omega);rw[l6 hn]
   exact(ZN k (by omega)).step n
def gZ(m:nP)(n:Nat)(x:Int):Bool:=m.cK x != m.began n x
def Cy(m:nP)(n:Nat)(ws:List aQ):Bool:=ws.all fun w=>!gZ m n w.key
theorem Qg(m:nP)(n:Nat)(ws:List aQ):Cy m n ws=mD m.cK (m.began n) ws:=by unfold Cy mD gZ;congr 1;funext w;simp[bne]
theorem PV{m:nP}{n:Nat}{ws:List aQ}{j:Nat}{w:aQ}(hw:ws[j]? =some w):Cy m n (ws.take (j+1))=(Cy m n (ws.take j) && !gZ m n w.key):=by unfold Cy;rw[ah hw,List.all_append];simp
theorem TK(ws:List aQ):∀(s:iV) (x:Int),gu s ws x=s x+(ws.filter fun w=>decide (w.key=x)).length:=by
 unfold gu
 induction ws with
 | nil=>intro s x;simp
 | cons w ws ih=>
   intro s x;rw[List.foldl_cons,ih];by_cases h:w.key=x
   ·subst h;simp[iV.put];omega
   ·have h':¬x=w.key:=fun e=>h e.symm;simp[iV.put,h,h']
theorem Te{m:nP}(hv:vF m)(n:Nat)(ws:List aQ)(x:Int):(gu m.cK ws x != m.began n x)=(gZ m n x || ws.any fun w=>w.key==x):=by
 have h1:=hv n x;rw[TK];unfold gZ
 cases h:ws.any (fun w=>w.key==x) with
 | true=>
   have hp:0<(ws.filter fun w=>decide (w.key=x)).length:=by obtain⟨w,hw,he⟩:=List.any_eq_true.1 h;exact List.length_pos_of_mem (List.mem_filter.2 ⟨hw,by simpa using he⟩)
   rw[Bool.or_true,bne_iff_ne];omega
 | false=>
   have h0:(ws.filter fun w=>decide (w.key=x))=[]:=by rw[List.filter_eq_nil_iff];intro w hw e;rw[List.any_eq_false]at h;exact h w hw (by simpa using e)
   rw[h0,Bool.or_false];simp
def jO(m:nP)(n:Nat)(ws:List aQ)(x:Int):Bool:=gZ m n x || ws.any fun w=>w.key==x
theorem Q8(m:nP)(n:Nat):jO m n []=gZ m n:=by funext x;simp[jO]
theorem M0{m:nP}{n:Nat}{ws:List aQ}{j:Nat}{w:aQ}(hw:ws[j]? =some w)(x:Int):jO m n (ws.take (j+1)) x=(if x=w.key then true else jO m n (ws.take j) x):=by
 unfold jO;rw[ah hw,List.any_append];by_cases h:x=w.key
 ·subst h;simp
 ·have h':(w.key==x)=false:=by rw[beq_eq_false_iff_ne];exact fun e=>h e.symm
  simp[h,h']
theorem OL{m:nP}{n:Nat}{t:aA}(ht:m.h[n]? =some t)(h0:t.ops.length=0)(x:Int):gZ (ak m n) n x=false:=by obtain⟨_,h2⟩:=vR ht h0;unfold gZ;rw[h2,jT];simp[uO]
theorem Nw{m:nP}{n i:Nat}(hi:i≠n)(x:Int):gZ (ak m n) i x=gZ m i x:=by
 unfold gZ;rw[jT];unfold ak;split
 ·simp[uO,hi]
 ·rfl
theorem BH(d:Nat)(hd:d<10)(x:Int)(hx:x=48+(d:Int))(w:World):(convert 111 9 (.slice (some ⟨w.heap.size,0,none⟩) 1 1)).run Tryz.prog (w.alloc (.cells #[.int .u8 x] 5))=.ok (.string (tx [jg d])) (w.alloc (.cells #[.int .u8 x] 5)):=
 run_convert_bytes_back _ _ _ 5 _ 1 [jg d] Tryz.underlying111 Tryz.underlying5 Tryz.underlying9 (fun j hj=>by
  obtain rfl:j=0:=by simpa using hj
  simp only[List.getElem_cons_zero,oD hd];have e:((48+d:Nat):Int)=x:=by omega
  rw[e];exact av rfl)
theorem iE(x:Int)(w:World)(h0:0<=x)(h1:x<100) :
 Calls Tryz.prog 46 #[.int .i64 x] w fun e w'=>e=.returned (.string (tx (bK x.toNat)))/\Ext w w':=by
 obtain⟨n,rfl⟩:=Int.eq_ofNat_of_zero_le h0;rw[Int.toNat_natCast];have hd1:=BH (n%10) (by omega) (48+(n:Int)%10) (by omega);have hd2:=BH (n/10) (by omega) (48+(n:Int)/10%10) (by omega);have a1:=aZ [jg (n/10)] [jg (n%10)] (by simp);have HN:Hid (bK n=if n<10 then [jg n] else [jg (n/10),jg (n%10)]):=rfl;go_enter Tryz.func46,Tryz.ntmps46;go_wp2;go_loopw [0,3] (fun a o wr=>Ext w wr/\∃(m:Nat) (l:List UInt8),a=.int .i64 (m:Int)/\o=.string (tx l)/\Hid ((m=n/\l=[jg (n%10)])∨(10<=n/\m=n/10/\l=bK n))) (fun a _ _=>(intOf a).toNat)
 case atStart=>exact⟨(Ext.refl _).alloc _,n,_,rfl,rfl,.inl ⟨rfl,rfl⟩⟩
 case round=>
  obtain⟨hb,m,l,rfl,rfl,HC⟩:=hrel;rcases HC.out with ⟨rfl,rfl⟩|⟨h10,rfl,rfl⟩
  ·by_cases h9:9<m
   ·go_wp2;go_roundw;case rel=>exact⟨(hb.alloc _),m/10,_,by go_num,rfl,.inr ⟨by omega,rfl,by rw[HN.out,if_neg (by omega)]⟩⟩
    case measure=>simp[intOf];omega
   ·go_wp2;go_returns;exact⟨by rw[HN.out,if_pos (by omega),Nat.mod_eq_of_lt (by omega)];rfl,hb⟩
  ·go_wp2;go_returns;exact⟨rfl,hb⟩
theorem CU(o:aQ)(w:World) :
 Calls Tryz.prog 86 #[fP o] w fun e w'=>e=.returned (.string (tx (ig o)))/\Ext w w':=by
 obtain⟨a,b,c⟩:=o;show Calls Tryz.prog 86 #[.agg #[.int .i64 a,.int .i64 b,.int .i64 c]] w _
 cases h:gH ⟨a,b,c⟩ with
 | false=>
   have ht:ig ⟨a,b,c⟩=[]:=by simp[ig,h]
   rw[ht];clear ht;go_enter Tryz.func86,Tryz.ntmps86;go_wp2_with (go_at_call 78;refine(pq ⟨a,b,c⟩ _).mono ?_;rw[h];rintro e w1 ⟨rfl,b1⟩)
   go_returns;exact⟨rfl,((Ext.refl _).alloc _).trans b1⟩
 | true=>
   have hk:=nL h;have h0:0<=b/\b<100:=by have:=iB h;simp only at this;omega
   have h1:0<=c/\c<100:=by have:=j5 h;simp only at this;omega
   have hnk:bK b.toNat=[jg b.toNat]:=by have:=iB h;simp only at this;unfold bK;rw[if_pos (by omega)]
   have l1:=kU b.toNat;have l2:=kU c.toNat;have ht:∀l,aW ⟨a,b,c⟩=l->ig ⟨a,b,c⟩=[l]++bK b.toNat++[61]++bK c.toNat:=fun l hl=>by rw[ig,if_pos h,sF,hl,hnk];rfl
   have a1:=fun l:UInt8=>aZ [l] (bK b.toNat) (by simp;omega);have a2:∀(l:UInt8) w,(Op.stringOp .add (tx ([l]++bK b.toNat)) ⟨#[61]⟩).run Tryz.prog w = _:=fun l=>aZ _ [61] (by simp;omega);have a3:=fun l:UInt8=>aZ ([l]++bK b.toNat++[61]) (bK c.toNat) (by simp;omega);obtain⟨l,hl⟩:∃l,aW ⟨a,b,c⟩=l:=⟨_,rfl⟩;replace ht:=ht l hl;replace a1:=a1 l;replace a2:=a2 l;replace a3:=a3 l;rw[ht];have HL:=aa hl;generalize tx ([l]++bK b.toNat++[61]++bK c.toNat)=y3 at *;generalize tx ([l]++bK b.toNat++[61])=y2 at *;generalize tx ([l]++bK b.toNat)=y1 at *;obtain⟨z2,hz2⟩:∃z,tx (bK b.toNat)=z:=⟨_,rfl⟩;obtain⟨z3,hz3⟩:∃z,tx (bK c.toNat)=z:=⟨_,rfl⟩;rw[hz2]at a1;rw[hz3]at a3;have HB:=aa (fun W=>iE b W h0.1 h0.2);have HC:=aa (fun W=>iE c W h1.1 h1.2);rw[hz2]at HB;rw[hz3]at HC;clear hz2 hz3 l1 l2 ht hnk hl;rcases hk with hk|hk<;>(
    simp only at hk;subst hk;have hl:=HL.out.symm;simp only[aW,iN]at hl
    first
    | (have hl2:l=114:=hl
       subst hl2;have a4:(⟨#[114,119]⟩:ByteArray).extract 0 1=tx [114]:=rfl;have HA:=aa a4)
    | (have hl2:l=119:=hl
       subst hl2;have a4:(⟨#[114,119]⟩:ByteArray).extract 1 2=tx [119]:=rfl;have HA:=aa a4)
    clear hl;obtain⟨z1,hz1⟩:∃z,tx [_]=z:=⟨_,HA.out.symm⟩;rw[<-HA.out]at a1;clear a4 hz1;have hw0:IntKind.i64.wrap 0=0:=by decide
    have hw1:IntKind.i64.wrap 1=1:=by decide
    go_enter Tryz.func86,Tryz.ntmps86;go_wp2_with (go_at_call 78;refine(pq ⟨_,b,c⟩ _).mono ?_;rw[h];rintro e w1 ⟨rfl,b1⟩)
    have c0:w1.cell? ⟨w.heap.size,0,none⟩=some (.int .i64 _):=b1.cell (av rfl);have c1:w1.cell? ⟨w.heap.size,1,none⟩=some (.int .i64 b):=b1.cell (av rfl);have c2:w1.cell? ⟨w.heap.size,2,none⟩=some (.int .i64 c):=b1.cell (av rfl)
    first
    | go_region_held3 (fun W=>W.cell? ⟨w.heap.size,0,none⟩=some (.int .i64 1)/\W.cell? ⟨w.heap.size,1,none⟩=some (.int .i64 b)/\W.cell? ⟨w.heap.size,2,none⟩=some (.int .i64 c)) (exact⟨by assumption,by assumption,by assumption⟩) ((go_at_call 46;first|(refine(HB.out _).mono ?_;clear HB;rintro e w2 ⟨rfl,b2⟩;have d0:=b2.cell c0;have d1:=b2.cell c1;have d2:=b2.cell c2)|(refine(HC.out _).mono ?_;clear HC;rintro e w3 ⟨rfl,b3⟩;have f0:=b3.cell d0;have f1:=b3.cell d1;have f2:=b3.cell d2)))
    | go_region_held3 (fun W=>W.cell? ⟨w.heap.size,0,none⟩=some (.int .i64 2)/\W.cell? ⟨w.heap.size,1,none⟩=some (.int .i64 b)/\W.cell? ⟨w.heap.size,2,none⟩=some (.int .i64 c)) (exact⟨by assumption,by assumption,by assumption⟩) ((go_at_call 46;first|(refine(HB.out _).mono ?_;clear HB;rintro e w2 ⟨rfl,b2⟩;have d0:=b2.cell c0;have d1:=b2.cell c1;have d2:=b2.cell c2)|(refine(HC.out _).mono ?_;clear HC;rintro e w3 ⟨rfl,b3⟩;have f0:=b3.cell d0;have f1:=b3.cell d1;have f2:=b3.cell d2)))
    go_wp2;go_returns;exact⟨rfl,(((Ext.refl _).alloc _).trans b1).drew.trans (b2.trans b3)⟩)
def uQ(p:List eH)(o:aQ):List eH:=p.dropLast++[⟨(p.getLast?.getD default).az,(p.getLast?.getD default).steps++[o]⟩]
def Ib(w:List UInt8):Bool:=w.getLast? == some 59
def wD(w:List UInt8):List UInt8:=if Ib w then w.dropLast else w
def jE(out:List eH)(fresh:Bool)(a b:UInt8):Option (List eH):=
 if fC b=true/\out.length<=4 then
  if fresh then (if a=115 then some (out++[⟨((b.toNat-48:Nat):Int),[]⟩]) else none)
  else if a=114∨a=119 then some (uQ out ⟨if a=119 then 2 else 1,((b.toNat-48:Nat):Int),0⟩) else none
 else none
def jA(st:List eH × Bool)(w:List UInt8):Option (List eH × Bool):=
 match wD w with
 | [a,b]=>(jE st.1 st.2 a b).map fun p=>(p,Ib w)
 | _=>none
def uM(ws:List (List UInt8))(k:Nat):Option (List eH × Bool):=(ws.take k).foldlM jA ([],true)
theorem wY{ws:List (List UInt8)}{k:Nat}{w:List UInt8}(hw:ws[k]? =some w):uM ws (k+1)=(uM ws k).bind fun st=>jA st w:=by
 unfold uM;rw[ah hw,List.foldlM_append]
 cases List.foldlM jA ([],true) (ws.take k) with
 | none=>rfl
 | some st=>simp[List.foldlM]
theorem Zg{ws:List (List UInt8)}{k j:Nat}(hk:k<=j)(h:uM ws k=none)(hj:j<=ws.length):uM ws j=none:=by
 induction j with
 | zero=>obtain rfl:k=0:=by omega
         exact h
 | succ j ih=>
   by_cases e:k=j+1
   ·exact e▸h
   ·obtain⟨w,hw⟩:=af (show j<ws.length by omega);rw[wY hw,ih (by omega) (by omega)];rfl
theorem GM(b:UInt8):∀x y:List UInt8,aK b (x++b :: y)=aK b x++aK b y
 | [],y=>by simp[aK]
 | c :: x,y=>by
   rw[List.cons_append,aK,aK,GM b x y];by_cases hc:c=b
   ·rw[if_pos hc,if_pos hc];rfl
   ·rw[if_neg hc,if_neg hc]
    cases e:aK b x with
    | nil=>exact absurd e (pV b x)
    | cons z r=>rfl
theorem JL{n:Nat}(h:n<10):fC (jg n)=true/\(jg n).toNat-48=n:=by
 have:=oD h
 unfold fC;rw[this];exact⟨by simp;omega,by omega⟩
theorem SH(o:aQ):kC o=[aW o,jg o.key.toNat]:=rfl
theorem Ob{a b:UInt8}(h:b≠59):Ib [a,b]=false/\wD [a,b]=[a,b]:=by
 have:Ib [a,b]=false:=by simp[Ib,h]
 exact⟨this,by rw[wD,this];rfl⟩
theorem Q7(a b:UInt8):Ib [a,b,59]=true/\wD [a,b,59]=[a,b]:=⟨rfl,rfl⟩
theorem Ru{out:List eH}{o:aQ}(ho:eO o=true)(hl:out.length<=4):jE out false (aW o) (jg o.key.toNat)=some (uQ out o):=by
 have hk:=iq ho;have hd:=JL (n:=o.key.toNat) (by omega);unfold jE;rw[if_pos ⟨hd.1,hl⟩,hd.2];simp only[Bool.false_eq_true,if_false];have hv:=lu ho;obtain⟨k,key,value⟩:=o;simp only at hv hk ⊢;subst hv;rcases jk ho with e|e
 ·simp only at e;subst e;rw[if_pos (.inl rfl),show aW ⟨1,key,0⟩=114 from rfl,if_neg (by decide),Int.toNat_of_nonneg hk.1]
 ·simp only at e;subst e;rw[if_pos (.inr rfl),show aW ⟨2,key,0⟩=119 from rfl,if_pos rfl,Int.toNat_of_nonneg hk.1]
theorem kF(out:List eH)(s:Int)(l:List aQ)(o:aQ):uQ (out++[⟨s,l⟩]) o=out++[⟨s,l++[o]⟩]:=by simp[uQ]
theorem GQ{out:List eH}(hl:out.length<=3)(s:Int):∀(os:List aQ) (l:List aQ),(∀o∈os,eO o=true)->(os.map kC).foldlM jA (out++[⟨s,l⟩],false)=some (out++[⟨s,l++os⟩],false)
 | [],l,_=>by simp
 | o :: os,l,h=>by
   have ho:=h o (by simp);have hk:=iq ho;have hb:jg o.key.toNat≠59:=yB (by omega) (.inr (by decide));obtain⟨h1,h2⟩:=Ob (a:=aW o) hb;have e:jA (out++[⟨s,l⟩],false) (kC o)=some (out++[⟨s,l++[o]⟩],false):=by rw[jA,SH,h2,h1];simp only[Ru ho (out:=out++[⟨s,l⟩]) (by simp;omega),kF,Option.map_some]
   rw[List.map_cons,List.foldlM_cons,e];simp only[Option.bind_eq_bind,Option.bind_some];rw[GQ hl s os (l++[o]) (fun o' ho'=>h o' (by simp[ho'])),List.append_assoc];rfl
theorem Rm{out:List eH}(hl:out.length<=3){d:eH}(hd:bM d=true):jA (out,true) [115,jg d.az.toNat]=some (out++[⟨d.az,[]⟩],false):=by
 have hs:=jy hd;have hb:jg d.az.toNat≠59:=yB (by omega) (.inr (by decide));obtain⟨h1,h2⟩:=Ob (a:=115) hb;have hdg:=JL (n:=d.az.toNat) (by omega);rw[jA,h2,h1];have e:jE out true 115 (jg d.az.toNat)=some (out++[⟨d.az,[]⟩]):=by unfold jE;rw[if_pos ⟨hdg.1,by omega⟩,if_pos rfl,if_pos rfl,hdg.2,Int.toNat_of_nonneg hs.1]
 simp only[e,Option.map_some]
theorem UY{out:List eH}(hl:out.length<=3){d:eH}(hd:bM d=true):(cz d).foldlM jA (out,true)=some (out++[d],false):=by rw[cz,List.foldlM_cons,Rm hl hd];simp only[Option.bind_eq_bind,Option.bind_some];rw[GQ hl d.az d.steps [] (fun o ho=>fu hd ho)];rfl
theorem Uj{out:List eH}(hl:out.length<=3){d:eH}(hd:bM d=true):(aK 32 (dU d++[59])).foldlM jA (out,true)=some (out++[d],true):=by
 have hlen:=gq hd;obtain⟨os,o,he⟩:∃os o,d.steps=os++[o]:=⟨d.steps.dropLast,d.steps.getLast (by intro e;rw[e]at hlen;simp at hlen),(List.dropLast_concat_getLast _).symm⟩;have xx:∀x∈d.steps,eO x=true:=fun x hx=>fu hd hx;have hw:aK 32 (dU d++[59])=[115,jg d.az.toNat] :: os.map kC++[kC o++[59]]:=by rw[vK,if_neg (by decide),mE hd,cz,he,List.map_append,List.map_cons,List.map_nil,<-List.cons_append,List.dropLast_concat,List.getLast?_concat];rfl
 rw[he]at xx;have ho:=xx o (by simp);rw[hw,List.foldlM_append,List.foldlM_cons,Rm hl hd];simp only[Option.bind_eq_bind,Option.bind_some];rw[GQ hl d.az os [] (fun x hx=>xx x (by simp[hx]))];obtain⟨h1,h2⟩:=Q7 (aW o) (jg o.key.toNat);have e:jA (out++[⟨d.az,[]++os⟩],false) (kC o++[59])=some (out++[⟨d.az,os++[o]⟩],true):=by rw[jA,show kC o++[59]=[aW o,jg o.key.toNat,59] from rfl,h2,h1];simp only[List.nil_append,Ru ho (out:=out++[⟨d.az,os⟩]) (by simp;omega),kF,Option.map_some]
 simp only[Option.bind_some,List.foldlM_cons,List.foldlM_nil,e,Option.bind_eq_bind];rw[<-he];rfl
theorem RF:∀(p out:List eH),p≠[]->out.length+p.length<=4->(∀d∈p,bM d=true)->(aK 32 (jq p)).foldlM jA (out,true)=some (out++p,false)
 | [],_,h,_,_=>absurd rfl h
 | [d],out,_,hl,h=>by have hd:=h d (by simp);rw[show jq [d]=dU d from rfl,mE hd];exact UY (by simp at hl;omega) hd
 | d :: e :: p,out,_,hl,h=>by
   have hd:=h d (by simp);have hp:jq (d :: e :: p)=(dU d++[59])++32 :: jq (e :: p):=by unfold jq;rw[List.map_cons,iy _ _ _ (by simp)];simp
   rw[hp,GM,List.foldlM_append,Uj (by simp at hl;omega) hd];simp only[Option.bind_eq_bind,Option.bind_some];rw[RF (e :: p) (out++[d]) (by simp) (by simp at hl ⊢;omega) (fun x hx=>h x (by simp only[List.mem_cons]at hx ⊢;exact .inr hx))];simp
theorem Jg{p:List eH}{s:List UInt8}(hp:dQ p=true)(hn:p≠[])(hs:jq p=s):uM (aK 32 s) (aK 32 s).length=some (p,false):=by unfold uM;rw[List.take_length,<-hs,RF p [] hn (by have:=jF hp;simpa using this) (fun d hd=>dz hp hd)];rfl
theorem Vh{ws:List (List UInt8)}:∀k,k<=ws.length->∀st,uM ws k=some st->st.1.length<=5/\(∀d∈st.1,d.steps.length<=k)/\(st.2=false->st.1≠[]):=by
 intro k
 induction k with
 | zero=>intro _ st h;cases h;exact⟨by simp,fun d hd=>by simp at hd,fun e=>by cases e⟩
 | succ k ih=>
   intro hk st h;obtain⟨w,hw⟩:=af (show k<ws.length by omega);rw[wY hw]at h;obtain⟨s0,h0,h1⟩:=Option.bind_eq_some_iff.1 h;obtain⟨i1,i2,i3⟩:=ih (by omega) s0 h0;unfold jA at h1;split at h1
   ·obtain⟨p,hp,rfl⟩:=Option.map_eq_some_iff.1 h1;unfold jE at hp;split at hp
    ·rename_i hc;split at hp
     ·split at hp
      ·cases hp;refine⟨by simp;omega,fun d hd=>?_,fun _=>by simp⟩;rcases List.mem_append.1 hd with hd|hd
       ·have:=i2 d hd;omega
       ·simp at hd;subst hd;simp
      ·cases hp
     ·rename_i hf;split at hp
      ·cases hp;have hne:=i3 (by simpa using hf);unfold uQ;refine⟨by simp;omega,fun d hd=>?_,fun _=>by simp⟩;rcases List.mem_append.1 hd with hd|hd
       ·have:=i2 d (List.dropLast_subset _ hd);omega
       ·simp only[List.mem_singleton]at hd;subst hd;obtain⟨x,hx⟩:∃x,s0.1.getLast? =some x:=⟨s0.1.getLast hne,List.getLast?_eq_some_getLast hne⟩;have hm:x∈s0.1:=List.mem_of_getLast? hx
        have:=i2 x hm
        rw[hx]
        simp;omega
      ·cases hp
    ·cases hp
   ·cases h1
