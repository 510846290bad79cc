/- Lemmas. -/
import Derived.Test.YtomkjlklninhpaaGreatDoorKAD
import Derived.StillTailTactics
set_option maxHeartbeats 16000000
set_option maxRecDepth 8000
set_option linter.all false
namespace Go.Proofs.YtomkjlklninhpaaGreatDoor
open Go.RowKit
def jg(n:Nat):UInt8:=UInt8.ofNat (48+n)
def bK(n:Nat):List UInt8:=if n<10 then [jg n] else [jg (n/10),jg (n%10)]
def aW(o:aQ):UInt8:=if iN o then 119 else 114
def sF(o:aQ):List UInt8:=aW o :: jg o.key.toNat :: 61 :: bK o.value.toNat
def ig(o:aQ):List UInt8:=if gH o then sF o else []
def bR(t:aA):List (List UInt8):=[115,jg t.az.toNat] :: (if t.done then [111,107] else [111,102,102]) :: t.ops.map sF
def joinL(sep:List UInt8):List (List UInt8)->List UInt8
 | []=>[]
 | [x]=>x
 | x :: y :: r=>x++sep++joinL sep (y :: r)
def lH(t:aA):List UInt8:=joinL [32] (bR t)
def gI(t:aA):List UInt8:=if bX t then lH t else []
def wm(h:List aA):List UInt8:=joinL [59,32] (h.map lH)
theorem oD{n:Nat}(h:n<10):(jg n).toNat=48+n:=by unfold jg;rw[UInt8.toNat_ofNat'];omega
theorem Eu{a b:Nat}(ha:a<10)(hb:b<10)(h:jg a=jg b):a=b:=by have h1:=oD ha;rw[h,oD hb]at h1;omega
theorem iy(sep x:List UInt8)(r:List (List UInt8))(h:r≠[]):joinL sep (x :: r)=x++sep++joinL sep r:=by
 cases r with
 | nil=>exact absurd rfl h
 | cons y r=>rfl
theorem yJ(sep:List UInt8):∀(l:List (List UInt8)) (x:List UInt8),l≠[]->joinL sep (l++[x])=joinL sep l++sep++x
 | [],_,h=>absurd rfl h
 | [y],x,_=>by simp[joinL]
 | y :: z :: r,x,_=>by
   have:=yJ sep (z :: r) x (by simp)
   rw[List.cons_append,iy _ _ _ (by simp),this];simp[joinL]
def Qh(b:UInt8)(l:List UInt8):Prop:=∀x∈l,x≠b
theorem yB{n:Nat}(h:n<10){b:UInt8}(hb:b.toNat<48∨57<b.toNat):jg n≠b:=fun e=>by
 have:=oD h
 rw[e]at this;omega
theorem Ve{n:Nat}(h:n<100){x:UInt8}(hx:x∈bK n):∃d,d<10/\x=jg d:=by
 unfold bK at hx;split at hx
 ·rename_i h';simp at hx;exact⟨n,h',hx⟩
 ·simp at hx;rcases hx with rfl|rfl
  ·exact⟨n/10,by omega,rfl⟩
  ·exact⟨n%10,by omega,rfl⟩
theorem XJ{o:aQ}(h:gH o=true):Qh 32 (sF o)/\Qh 59 (sF o):=by
 have hk:=iB h;have hv:=j5 h;have h2:∀b:UInt8,b=32∨b=59->Qh b (sF o):=fun b hb x hx=>by
  unfold sF aW at hx;simp only[List.mem_cons]at hx;rcases hx with rfl|rfl|rfl|hx
  ·rcases hb with rfl|rfl<;>split<;>decide
  ·exact yB (by omega) (by rcases hb with rfl|rfl<;>decide)
  ·rcases hb with rfl|rfl<;>decide
  ·obtain⟨d,hd,rfl⟩:=Ve (by omega) hx;exact yB hd (by rcases hb with rfl|rfl<;>decide)
 exact⟨h2 _ (.inl rfl),h2 _ (.inr rfl)⟩
def numOf(l:List UInt8):Nat:=l.foldl (fun n b=>10*n+(b.toNat-48)) 0
theorem GG{n:Nat}(h:n<100):numOf (bK n)=n:=by
 unfold bK;split
 ·rename_i h';simp only[numOf,List.foldl_cons,List.foldl_nil];rw[oD h'];omega
 ·simp only[numOf,List.foldl_cons,List.foldl_nil];rw[oD (by omega),oD (by omega)];omega
theorem Xa{a b:Nat}(ha:a<100)(hb:b<100)(h:bK a=bK b):a=b:=by rw[<-GG ha,<-GG hb,h]
theorem Rc{o o':aQ}(h:gH o=true)(h':gH o'=true)(e:sF o=sF o'):o=o':=by unfold sF at e;injection e with e1 e;injection e with e2 e;injection e with e3 e;have k1:=iB h;have k2:=iB h';have v1:=j5 h;have v2:=j5 h';have e2:=Eu (by omega) (by omega) e2;have e:=Xa (by omega) (by omega) e;refine aQ.ext' ?_ (by omega) (by omega);have c1:=nL h;have c2:=nL h';unfold aW iN at e1;rcases c1 with c1|c1<;>rcases c2 with c2|c2<;>rw[c1,c2]at e1 ⊢<;>simp at e1
open Classical in
noncomputable def fD (s:List UInt8):Option aQ:=if h:∃o,gH o=true/\sF o=s then some h.choose else none
theorem jS{s:List UInt8}{o:aQ}:fD s=some o↔gH o=true/\sF o=s:=by
 unfold fD;constructor
 ·intro e;split at e
  ·rename_i h;injection e with e;rw[<-e];exact h.choose_spec
  ·cases e
 ·rintro⟨h1,h2⟩;have h:∃o,gH o=true/\sF o=s:=⟨o,h1,h2⟩;rw[dif_pos h];exact congrArg some (Rc h.choose_spec.1 h1 (h.choose_spec.2.trans h2.symm))
theorem uX{s:List UInt8}(h:∀o,gH o=true->sF o≠s):fD s=none:=by
 cases e:fD s with
 | none=>rfl
 | some o=>have:=jS.1 e;exact absurd this.2 (h o this.1)
def aK(b:UInt8):List UInt8->List (List UInt8)
 | []=>[[]]
 | x :: l=>if x=b then [] :: aK b l else match aK b l with
   | []=>[[x]]
   | y :: r=>(x :: y) :: r
theorem pV(b:UInt8)(l:List UInt8):aK b l≠[]:=by
 cases l with
 | nil=>simp[aK]
 | cons x l=>
   rw[aK];split
   ·simp
   ·split<;>simp
theorem EP{b:UInt8}:∀{l:List UInt8},Qh b l->aK b l=[l]
 | [],_=>rfl
 | x :: l,h=>by rw[aK,if_neg (h x (by simp)),EP (fun y hy=>h y (by simp[hy]))]
theorem Db{b:UInt8}:∀{x l:List UInt8},Qh b x->aK b (x++b :: l)=x :: aK b l
 | [],l,_=>by simp[aK]
 | y :: x,l,h=>by rw[List.cons_append,aK,if_neg (h y (by simp)),Db (fun z hz=>h z (by simp[hz]))]
theorem vE{b:UInt8}:∀{ws:List (List UInt8)},ws≠[]->(∀w∈ws,Qh b w)->aK b (joinL [b] ws)=ws
 | [],h,_=>absurd rfl h
 | [w],_,h=>EP (h w (by simp))
 | w :: v :: r,_,h=>by rw[iy _ _ _ (by simp),List.append_assoc,List.singleton_append,Db (h w (by simp)),vE (by simp) (fun x hx=>h x (by simp only[List.mem_cons]at hx ⊢;exact .inr hx))]
theorem Qo{t:aA}(h:bX t=true):∀w∈bR t,Qh 32 w:=fun w hw=>by
 have hs:=jC h;unfold bR at hw;simp only[List.mem_cons,List.mem_map]at hw;rcases hw with rfl|rfl|⟨o,ho,rfl⟩
 ·intro x hx;simp only[List.mem_cons,List.not_mem_nil,or_false]at hx;rcases hx with rfl|rfl
  ·decide
  ·exact yB (by omega) (by decide)
 ·cases t.done
  ·intro x hx;simp at hx;rcases hx with rfl|rfl<;>decide
  ·intro x hx;simp at hx;rcases hx with rfl|rfl<;>decide
 ·exact(XJ (eT h ho)).1
theorem Bg{t:aA}(h:bX t=true):aK 32 (lH t)=bR t:=vE (by simp[bR]) (Qo h)
theorem GU:∀{a b:List aQ},(∀o∈a,gH o=true)->(∀o∈b,gH o=true)->a.map sF=b.map sF->a=b
 | [],[],_,_,_=>rfl
 | [],_ :: _,_,_,e=>by simp at e
 | _ :: _,[],_,_,e=>by simp at e
 | x :: a,y :: b,ha,hb,e=>by simp only[List.map_cons,List.cons.injEq]at e;rw[Rc (ha x (by simp)) (hb y (by simp)) e.1,GU (fun o ho=>ha o (by simp[ho])) (fun o ho=>hb o (by simp[ho])) e.2]
theorem QZ{t t':aA}(h:bX t=true)(h':bX t'=true)(e:bR t=bR t'):t=t':=by
 unfold bR at e;simp only[List.cons.injEq]at e;obtain⟨⟨_,e1,_⟩,e2,e3⟩:=e;have s1:=jC h;have s2:=jC h';replace e1:=Eu (by omega) (by omega) e1;replace e3:=GU (fun o ho=>eT h ho) (fun o ho=>eT h' ho) e3;obtain⟨s,os,d⟩:=t;obtain⟨s',os',d'⟩:=t';simp only at e1 e2 e3 s1 s2;obtain rfl:s=s':=by omega
 subst e3
 have:d=d':=by cases d<;>cases d'<;>simp at e2 ⊢
 subst this;rfl
theorem VS{t t':aA}(h:bX t=true)(h':bX t'=true)(e:lH t=lH t'):t=t':=by
 have:=Bg h
 rw[e,Bg h']at this
 exact(QZ h' h this).symm
open Classical in
noncomputable def dh (s:List UInt8):Option aA:=if h:∃t,bX t=true/\lH t=s then some h.choose else none
theorem mU{s:List UInt8}{t:aA}:dh s=some t↔bX t=true/\lH t=s:=by
 unfold dh;constructor
 ·intro e;split at e
  ·rename_i h;injection e with e;rw[<-e];exact h.choose_spec
  ·cases e
 ·rintro⟨h1,h2⟩;have h:∃t,bX t=true/\lH t=s:=⟨t,h1,h2⟩;rw[dif_pos h];exact congrArg some (VS h.choose_spec.1 h1 (h.choose_spec.2.trans h2.symm))
def fB(ops:List aQ)(key:Int):Option aQ:=ops.reverse.find? fun o=>iN o&&o.key==key
theorem sV(ops:List aQ)(o:aQ)(key:Int):fB (ops++[o]) key=if iN o=true/\o.key=key then some o else fB ops key:=by
 unfold fB;rw[List.reverse_append,List.reverse_singleton,List.singleton_append,List.find?_cons];by_cases h:iN o=true/\o.key=key
 ·rw[if_pos h];simp[h.1,h.2]
 ·rw[if_neg h]
  have:(iN o&&o.key==key)=false:=by cases hw:iN o<;>simp_all
  rw[this]
theorem j3{ops:List aQ}{key:Int}{o:aQ}(h:fB ops key=some o):o∈ops/\iN o=true/\o.key=key:=by unfold fB at h;have h1:=List.find?_some h;have h2:=List.mem_of_find?_eq_some h;simp at h1 h2;exact⟨h2,h1⟩
def bD(ops:List aQ):List aQ:=([0,1,2]:List Int).filterMap (fB ops)
def wh(ops:List aQ)(n:Nat):List aQ:=(List.range n).filterMap fun i:Nat=>fB ops (i:Int)
theorem De(ops:List aQ)(n:Nat):wh ops (n+1)=wh ops n++(fB ops (n:Int)).toList:=by unfold wh;rw[List.range_succ,List.filterMap_append];congr 1
theorem j6(ops:List aQ):wh ops 3=bD ops:=by show List.filterMap (fun i:Nat=>fB ops (i:Int)) [0,1,2] = _;rfl
theorem lV(ops:List aQ)(n:Nat):(wh ops n).length<=n:=by unfold wh;exact Nat.le_trans (List.length_filterMap_le _ _) (by simp)
theorem jD{ops:List aQ}{o:aQ}:o∈bD ops↔(o.key=0∨o.key=1∨o.key=2)/\fB ops o.key=some o:=by
 unfold bD;rw[List.mem_filterMap];constructor
 ·rintro⟨k,hk,h⟩;have hk':=(j3 h).2.2;subst hk';exact⟨by simpa using hk,h⟩
 ·rintro⟨hk,h⟩;exact⟨o.key,by simpa using hk,h⟩
def before(ops:List aQ)(key:Int):Option Int:=(ops.reverse.find? fun o=>o.key==key).map (·.value)
theorem EG(key:Int):before [] key=none:=rfl
theorem vV(ops:List aQ)(o:aQ)(key:Int):before (ops++[o]) key=if key=o.key then some o.value else before ops key:=by
 unfold before;rw[List.reverse_append,List.reverse_singleton,List.singleton_append,List.find?_cons];by_cases h:key=o.key
 ·rw[if_pos h];simp[h]
 ·rw[if_neg h]
  have:(o.key==key)=false:=by simp;exact fun e=>h e.symm
  rw[this]
theorem wu{ops:List aQ}{key v:Int}(h:before ops key=some v):∃o∈ops,o.key=key/\o.value=v:=by unfold before at h;rw[Option.map_eq_some_iff]at h;obtain⟨o,h1,h2⟩:=h;have h3:=List.find?_some h1;have h4:=List.mem_of_find?_eq_some h1;simp at h3 h4;exact⟨o,h4,h3,h2⟩
theorem CS{ops:List aQ}{key:Int}(h:before ops key=none){o:aQ}(ho:o∈ops):o.key≠key:=by
 unfold before at h;rw[Option.map_eq_none_iff,List.find?_eq_none]at h
 have:=h o (by simpa using ho)
 simpa using this
def IC(ops:List aQ)(j:Nat):Bool:=match ops[j]? with
 | some o=>mM o&&(before (ops.take j) o.key).isNone
 | none=>false
def zF(ops:List aQ)(k:Nat):List aQ:=(List.range k).filterMap fun j=>if IC ops j=true then ops[j]? else none
def kS(ops:List aQ):List aQ:=zF ops ops.length
theorem Je{ops:List aQ}{k:Nat}{o:aQ}(ho:ops[k]? =some o):zF ops (k+1)=zF ops k++if IC ops k=true then [o] else []:=by unfold zF;rw[List.range_succ,List.filterMap_append];congr 1;by_cases h:IC ops k=true<;>simp[h,ho]
theorem zu(ops:List aQ)(k:Nat):(zF ops k).length<=k:=by unfold zF;exact Nat.le_trans (List.length_filterMap_le _ _) (by simp)
theorem Ex{ops:List aQ}{o:aQ}:o∈kS ops↔∃j,ops[j]? =some o/\IC ops j=true:=by
 unfold kS zF;rw[List.mem_filterMap];constructor
 ·rintro⟨j,hj,h⟩;split at h
  ·rename_i hf;exact⟨j,h,hf⟩
  ·cases h
 ·rintro⟨j,hj,hf⟩;exact⟨j,by simpa using (List.getElem?_eq_some_iff.1 hj).1,by rw[if_pos hf];exact hj⟩
def wF(ops:List aQ)(j:Nat):Bool:=match ops[j]? with
 | some o=>mM o&&(match before (ops.take j) o.key with|some v=>v != o.value|none=>false)
 | none=>false
def xA(ops:List aQ)(k:Nat):Bool:=(List.range k).any (wF ops)
def yx(ops:List aQ):Bool:=xA ops ops.length
theorem yE(ops:List aQ)(k:Nat):xA ops (k+1)=(xA ops k || wF ops k):=by unfold xA;rw[List.range_succ,List.any_append];simp
def opsOf(h:List aA)(n:Nat):List aQ:=(h[n]?.map (·.ops)).getD []
theorem dw{h:List aA}{n:Nat}{t:aA}(ht:h[n]? =some t):opsOf h n=t.ops:=by simp[opsOf,ht]
def gP(h:List aA)(n:Nat):Bool:=(h[n]?.map (·.done)).getD false
def iJ(h:List aA)(key value:Int):Bool:=decide (0<=aB h key value)&&(fB (opsOf h (aB h key value).toNat) key).any fun o=>o.value==value
def eP(h:List aA)(n:Nat)(o:aQ):Int:=
 if mM o=false∨o.value=0∨aB h o.key o.value=n then 0
 else if aB h o.key o.value<0 then 1
 else if gP h (aB h o.key o.value).toNat=false then 2
 else if iJ h o.key o.value=false then 3
 else 0
def uE(h:List aA)(n:Nat)(kind:Int)(ops:List aQ)(j:Nat):Bool:=(ops.take j).any fun o=>eP h n o==kind
theorem Gm{h:List aA}{n:Nat}{kind:Int}{ops:List aQ}{j:Nat}{o:aQ}(ho:ops[j]? =some o):uE h n kind ops (j+1)=(uE h n kind ops j || eP h n o==kind):=by unfold uE;rw[ah ho,List.any_append];simp
def lY(h:List aA)(kind:Int)(n:Nat):Bool:=if kind=4 then yx (opsOf h n) else (opsOf h n).any fun o=>eP h n o==kind
def fQ(h:List aA)(kind:Int):Bool:=(List.range h.length).any fun n=>gP h n&&lY h kind n
def rz(ops:List aQ):Bool:=(List.range ops.length).any fun i=>match ops[i]? with
 | some o=>mM o&&(ops.drop (i+1)).any fun l=>decide (l.kind=2/\l.key=o.key/\l.value=o.value)
 | none=>false
def gG(h:List aA):Bool:=aC h && !fQ h 1 && !fQ h 2 && !fQ h 3 && !fQ h 4 && !((List.range h.length).any fun n=>gP h n&&rz (opsOf h n))
theorem fo{h:List aA}(key value:Int):-1<=aB h key value/\aB h key value<h.length:=by
 unfold aB
 cases hl:lookW (Bo h) (key,value) with
 | none=>simp;omega
 | some n=>
   have hm:((key,value),n)∈Bo h:=by unfold lookW at hl;rw[Option.map_eq_some_iff]at hl;obtain⟨p,hp,rfl⟩:=hl;have h1:=List.find?_some hp;have h2:=List.mem_of_find?_eq_some hp;obtain⟨q,n⟩:=p;simp at h1;subst h1;exact h2
   have hn:n<h.length:=by
    have key:∀(l:List aA) (s:Nat) q,(q,n)∈dL s l->n<s+l.length:=by
     intro l
     induction l with
     | nil=>intro s q hm;simp[dL]at hm
     | cons t l ih=>
       intro s q hm;rw[dL,List.mem_append]at hm;rcases hm with hm|hm
       ·simp only[fH,List.mem_map]at hm;obtain⟨o,_,e⟩:=hm;injection e with _ e2
        simp;omega
       ·have:=ih (s+1) q hm;simp;omega
    have:=key h 0 _ hm
    omega
   simp;omega
def iV:=Int->Int
def iV.put(s:iV)(k v:Int):iV:=fun x=>if x=k then v else s x
def ni:iV:=fun _=>0
def follow(s:iV):List aQ->Option iV
 | []=>some s
 | o :: r=>if iN o then follow (s.put o.key o.value) r else if s o.key=o.value then follow s r else none
def rH(h:List aA)(n:Nat):List aQ:=(h[n]?.map (·.ops)).getD []
def runs(h:List aA)(s:iV):List Nat->Option iV
 | []=>some s
 | n :: r=>(follow s (rH h n)).bind fun s'=>runs h s' r
theorem Cu(h:List aA)(s:iV)(a b:List Nat):runs h s (a++b)=(runs h s a).bind fun s'=>runs h s' b:=by
 induction a generalizing s with
 | nil=>rfl
 | cons n a ih=>
   simp only[List.cons_append,runs]
   cases follow s (rH h n) with
   | none=>rfl
   | some s'=>simp[ih]
theorem Cm(h:List aA)(s:iV)(a:List Nat)(n:Nat):runs h s (a++[n])=(runs h s a).bind fun s'=>follow s' (rH h n):=by rw[Cu];congr 1;funext s';simp only[runs];cases follow s' (rH h n)<;>rfl
def Np(h:List aA)(all:List Nat):Nat->iV->List Nat->Option (List Nat)
 | 0,_,order=>some order
 | f+1,s,order=>all.findSome? fun n=>if order.contains n then none else (follow s (rH h n)).bind fun s'=>Np h all f s' (order++[n])
def iC(h:List aA):Nat->List Nat->List Nat->Option (List Nat)
 | 0,bF,_=>if (runs h ni bF).isSome then some bF else none
 | f+1,bF,rest=>if (runs h ni bF).isSome then (List.range rest.length).findSome? fun k=>iC h f (bF++[rest.getD k 0]) (rest.eraseIdx k) else none
theorem Ii{α β:Type}(l:List α)(p:α->Bool)(g:α->Option β)(hp:∀x∈l,p x=false->g x=none):l.findSome? g=(l.filter p).findSome? g:=by
 induction l with
 | nil=>rfl
 | cons x l ih=>
   have ih:=ih (fun y hy=>hp y (List.mem_cons_of_mem _ hy));rw[List.filter_cons];split
   ·rw[List.findSome?_cons,List.findSome?_cons,ih]
   ·rename_i h;rw[List.findSome?_cons,hp x (by simp) (by simpa using h),ih]
theorem F6{α β:Type}(l:List α)(d:α)(g:Nat->α->Option β)(g':α->Option β)(h:∀k x,l[k]? =some x->g k x=g' x):(List.range l.length).findSome? (fun k=>g k (l.getD k d))=l.findSome? g':=by
 induction l generalizing g with
 | nil=>rfl
 | cons x l ih=>
   rw[List.length_cons,List.range_succ_eq_map,List.findSome?_cons,List.findSome?_cons];have h0:=h 0 x rfl;simp only[List.getD_cons_zero];rw[h0]
   cases g' x with
   | some y=>rfl
   | none=>
     have:=ih (fun k y=>g (k+1) y) (fun k y hk=>h (k+1) y (by simpa using hk))
     simp only[List.findSome?_map,Function.comp_def,List.getD_cons_succ];exact this
theorem DD{l:List Nat}(hn:l.Nodup){k x:Nat}(hx:l[k]? =some x):l.eraseIdx k=l.filter fun y=>y != x:=by
 induction l generalizing k with
 | nil=>simp at hx
 | cons y l ih=>
   rw[List.nodup_cons]at hn
   cases k with
   | zero=>
     simp at hx;subst hx;rw[List.eraseIdx_cons_zero,List.filter_cons,if_neg (by simp)]
     exact(List.filter_eq_self.2 fun z hz=>by simp;intro e;subst e;exact hn.1 hz).symm
   | succ k=>
     simp only[List.getElem?_cons_succ]at hx;rw[List.eraseIdx_cons_succ,List.filter_cons,if_pos (by simp;intro e;subst e;exact hn.1 (List.mem_of_getElem? hx)),ih hn.2 hx]
theorem Tm(h:List aA)(all:List Nat)(hn:all.Nodup):∀f (order rest:List Nat) (s:iV),rest=all.filter (fun n=>!order.contains n)->f=rest.length->runs h ni order=some s->Np h all f s order=iC h f order rest:=by
 intro f
 induction f with
 | zero=>
   intro order rest s hr hf hs;simp[Np,iC,hs]
 | succ f ih=>
   intro order rest s hr hf hs;rw[Np,iC,hs,Option.isSome_some,if_pos rfl];rw[Ii all (fun n=>!order.contains n) _ (fun x _ hx=>by simp at hx;simp[hx]),<-hr]
   refine(F6 rest 0 (fun k x=>iC h f (order++[x]) (rest.eraseIdx k)) (fun n=>if order.contains n=true then none else (follow s (rH h n)).bind fun s'=>Np h all f s' (order++[n])) (fun k x hx=>?_)).symm
   show iC h f (order++[x]) (rest.eraseIdx k)=if order.contains x=true then none else (follow s (rH h x)).bind fun s'=>Np h all f s' (order++[x])
   have hmem:x∈all.filter (fun n=>!order.contains n):=by rw[<-hr];exact List.mem_of_getElem? hx
   have hno:order.contains x=false:=by rw[List.mem_filter]at hmem;simpa using hmem.2
   rw[hno,if_neg (by simp)];have hnr:rest.Nodup:=by rw[hr];exact hn.filter _
   have he:=DD hnr hx
   cases hfo:follow s (rH h x) with
   | none=>
     have:runs h ni (order++[x])=none:=by rw[Cm,hs];exact hfo
     cases f with
     | zero=>simp[iC,this]
     | succ f=>simp[iC,this]
   | some s'=>
     rw[Option.bind_some]
     refine(ih (order++[x]) _ s' ?_ ?_ ?_).symm
     ·rw[he,hr,List.filter_filter];refine List.filter_congr fun y _=>?_;by_cases e:y=x<;>simp[e,List.contains_eq_mem]
     ·have hk:=(List.getElem?_eq_some_iff.1 hx).1;rw[List.length_eraseIdx,if_pos hk];omega
     ·rw[Cm,hs];exact hfo
def aH(h:List aA):List Nat:=(List.range h.length).filter fun n=>(h[n]?.map (·.done)).getD false
theorem xK(h:List aA):(aH h).Nodup:=List.nodup_range.filter _
def dW(h:List aA):Option (List Nat):=Np h (aH h) (aH h).length ni []
theorem II(h:List aA):dW h=iC h (aH h).length [] (aH h):=
 Tm h _ (xK h) _ _ _ _ (List.filter_eq_self.2 (fun _ _=>rfl)).symm rfl rfl
structure bH (X:Nat->Prop) (w w':World):Prop where
 os:w'.os=w.os
 tape:w'.tape=w.tape
 output:w'.output=w.output
 size:w.heap.size<=w'.heap.size
 block:∀k,k<w.heap.size->¬X k->w'.heap[k]? =w.heap[k]?
theorem bH.refl(X:Nat->Prop)(w:World):bH X w w:=⟨rfl,rfl,rfl,Nat.le_refl _,fun _ _ _=>rfl⟩
theorem bH.aT{X:Nat->Prop}{w w':World}(h:Ext w w'):bH X w w':=⟨Below.os h,Below.tape h,Below.output h,h.size,fun k hk _=>Below.block h k hk⟩
theorem bH.trans{X:Nat->Prop}{a b c:World}(h:bH X a b)(k:bH X b c):bH X a c:=
 ⟨k.os.trans h.os,k.tape.trans h.tape,k.output.trans h.output,Nat.le_trans h.size k.size,fun i hi hx=>(k.block i (Nat.lt_of_lt_of_le hi h.size) hx).trans (h.block i hi hx)⟩
theorem bH.more{X Y:Nat->Prop}{w0 w w':World}(h:bH X w0 w)(k:bH Y w w')(hY:∀i,Y i->X i∨w0.heap.size<=i):bH X w0 w':=
 ⟨k.os.trans h.os,k.tape.trans h.tape,k.output.trans h.output,Nat.le_trans h.size k.size,fun i hi hx=>(k.block i (Nat.lt_of_lt_of_le hi h.size) (fun hy=>(hY i hy).elim hx (fun h'=>by omega))).trans (h.block i hi hx)⟩
theorem bH.wide{X Y:Nat->Prop}{w w':World}(h:bH X w w')(hX:∀i,X i->Y i):bH Y w w':=⟨h.os,h.tape,h.output,h.size,fun k hk hx=>h.block k hk (fun x=>hx (hX k x))⟩
theorem bH.alloc{X:Nat->Prop}{a b:World}(h:bH X a b)(o:Obj):bH X a (b.alloc o):=h.trans (.aT ((Ext.refl b).alloc o))
theorem bH.drew{X:Nat->Prop}{a b:World}(h:bH X a b):bH X a b.drew:=h.trans (.aT (Ext.refl b).drew)
theorem bH.ext{X:Nat->Prop}{a b c:World}(h:bH X a b)(k:Ext b c):bH X a c:=h.trans (.aT k)
theorem bH.setCell{X:Nat->Prop}{a b:World}(h:bH X a b){p:Addr}(hp:X p.block∨a.heap.size<=p.block)(u:Value):bH X a (b.setCell p u):=
 h.more (Y:=fun i=>i=p.block) ⟨rfl,rfl,rfl,by simp[World.setCell],fun k _ hk=>Below.heap_setCell _ _ _ k hk⟩ (fun i e=>e▸hp)
theorem bH.grown{X:Nat->Prop}{a b c:World}(h:bH X a b){row:Option Nat}(k:b.grownBy c row)(hr:∀i,row=some i->X i∨a.heap.size<=i):bH X a c:=
 h.more (Y:=fun i=>row=some i) ⟨k.os,k.tape,k.output,k.size,fun i hi hn=>k.block i hi (fun e=>hn e.symm)⟩ hr
theorem bH.out{X:Nat->Prop}{w0 w w':World}(hb:Ext w0 w)(h:bH X w w')(hX:∀i,X i->w0.heap.size<=i):Ext w0 w':=by have hb':Below w0.heap.size w0 w:=hb;exact⟨h.os.trans hb'.os,h.tape.trans hb'.tape,h.output.trans hb'.output,Nat.le_trans hb'.size h.size,fun k hk=>(h.block k (Nat.lt_of_lt_of_le hk hb'.size) (fun x=>by have:=hX k x;omega)).trans (hb'.block k hk)⟩
theorem bH.heap{X:Nat->Prop}{w w':World}(h:bH X w w'){k:Nat}{o:Obj}(hk:w.heap[k]? =some o)(hx:¬X k):w'.heap[k]? =some o:=(h.block k (Array.getElem?_eq_some_iff.1 hk).1 hx).trans hk
theorem bH.cell{X:Nat->Prop}{w w':World}(h:bH X w w'){p:Addr}{v:Value}(hc:w.cell? p=some v)(hx:¬X p.block):w'.cell? p=some v:=by
 have hb:p.block<w.heap.size:=by
  rcases Nat.lt_or_ge p.block w.heap.size with h'|h'
  ·exact h'
  ·simp[World.cell?,Array.getElem?_eq_none h']at hc
 rw[<-hc];simp only[World.cell?,h.block p.block hb hx]
theorem bH.frozen{X:Nat->Prop}{w w':World}(h:bH X w w'){p:Addr}(hb:p.block<w.heap.size)(hx:¬X p.block):w'.frozen? p=w.frozen? p:=by simp only[World.frozen?,h.block p.block hb hx]
theorem bH.aeX{X:Nat->Prop}{w w':World}(h:bH X w w'){g N:Nat}(hB:lG w g N)(hx:¬X g):lG w' g N:=by obtain⟨cs,t,hg,hs⟩:=hB;exact⟨cs,t,h.heap hg hx,hs⟩
theorem aF.frX{α:Type}{m:Nat}{enc:α->Nat->Value}{X:Nat->Prop}{w w':World}{u:Value}{xs:List α}(h:aF m enc w u xs)(k:bH X w w')(hx:∀a n c,u=.slice (some a) n c->0<n->¬X a.block):aF m enc w' u xs:=by obtain⟨A,c,hA,h⟩:=h;refine⟨A,c,hA,fun hn=>?_⟩;obtain⟨b,off,hb,hlt,hc⟩:=h hn;subst hb;have hne:¬X b:=hx ⟨b,off,none⟩ _ _ hA hn;exact⟨b,off,rfl,Nat.lt_of_lt_of_le hlt k.size,fun i x hi j hj=>k.cell (hc i x hi j hj) hne⟩
def oZ(w:World)(g:Nat)(s:iV):Prop:=lG w g 3/\∀o:Nat,o<3->w.cell? ⟨g,o,none⟩=some (.int .i64 (s (o:Int)))
theorem oZ.ext{w w':World}{g:Nat}{s:iV}(h:oZ w g s)(hb:Ext w w'):oZ w' g s:=⟨h.1.ext hb,fun o ho=>hb.cell (h.2 o ho)⟩
theorem oZ.frX{X:Nat->Prop}{w w':World}{g:Nat}{s:iV}(h:oZ w g s)(k:bH X w w')(hx:¬X g):oZ w' g s:=⟨k.aeX h.1 hx,fun o ho=>k.cell (h.2 o ho) hx⟩
theorem oZ.put{w:World}{g:Nat}{s:iV}{q:Nat}(h:oZ w g s)(hq:q<3)(v:Int):oZ (w.setCell ⟨g,q,none⟩ (.int .i64 v)) g (s.put (q:Int) v):=
 ⟨h.1.set _ _,fun o ho=>by
  by_cases e:o=q
  ·subst e;rw[dG h.1 hq];simp[iV.put]
  ·rw[au (by intro e';injection e' with _ e' _;omega),h.2 o ho]
   have:¬((o:Int)=(q:Int)):=by omega
   simp[iV.put,this]⟩
def Vf(s:iV):Value:=.agg #[.int .i64 (s 0),.int .i64 (s 1),.int .i64 (s 2)]
theorem Ba(w:World)(s:iV)(T:TypeId):oZ (w.alloc (.cells #[.int .i64 (s 0),.int .i64 (s 1),.int .i64 (s 2)] T)) w.heap.size s:=
 ⟨lG.made w #[.int .i64 (s 0),.int .i64 (s 1),.int .i64 (s 2)] T,fun o ho=>by
  match o,ho with
  | 0,_=>exact av rfl
  | 1,_=>exact av rfl
  | 2,_=>exact av rfl⟩
theorem CF(s:iV)(l:List aQ)(o:aQ):follow s (l++[o])=(follow s l).bind fun s'=>if iN o then some (s'.put o.key o.value) else if s' o.key=o.value then some s' else none:=by
 induction l generalizing s with
 | nil=>
   simp only[List.nil_append,follow,Option.bind_some]
 | cons x l ih=>
   simp only[List.cons_append,follow];split
   ·exact ih _
   ·split
    ·exact ih _
    ·rfl
theorem GD{s:iV}{l:List aQ}{k:Nat}(h:follow s (l.take k)=none):follow s l=none:=by
 have key:∀(a b:List aQ) (s:iV),follow s a=none->follow s (a++b)=none:=by
  intro a
  induction a with
  | nil=>intro b s h;cases h
  | cons x a ih=>
    intro b s h;simp only[List.cons_append,follow]at h ⊢;split at h
    ·rename_i hw;rw[if_pos hw];exact ih b _ h
    ·rename_i hw;rw[if_neg hw];split at h
     ·rename_i he;rw[if_pos he];exact ih b _ h
     ·rename_i he;rw[if_neg he]
 rw[<-List.take_append_drop k l];exact key _ _ _ h
theorem PW(g:Nat)(s:iV)(t:aA)(ov:Value)(W:World)(hS:oZ W g s)(hops:aF 3 aj W ov t.ops)(Ej:∀a n c,ov=.slice (some a) n c->0<n->a.block≠g)(hok:∀o∈t.ops,gH o=true)(hlen:t.ops.length<=6) :
 Calls Tryz.prog 205 #[.pointer (some ⟨g,0,none⟩),ng t ov] W fun e W'=>bH (fun k=>k=g) W W'/\∃b,e=.returned (.bool b)/\(∀s',follow s t.ops=some s'->b=true/\oZ W' g s')/\(follow s t.ops=none->b=false):=by
 obtain⟨se,ops,dn⟩:=t;simp only[]at hops hok hlen ⊢;have HS:=aa hS;have HF:=aa Ej;have dO:=aa hok;obtain⟨A,c,rfl,hc0⟩:=id hops;have HC:=aa hc0;have hgl:=hS.1.lt;clear hS Ej hok hops hc0;show Calls Tryz.prog 205 #[.pointer (some ⟨g,0,none⟩),.agg #[.int .i64 se,.slice A ops.length c,.bool dn]] W _;go_enter Tryz.func205,Tryz.ntmps205;go_wp2;go_loopw [10] (fun i wr=>bH (fun k=>k=g) W wr/\∃k:Nat,k<=ops.length/\i=.int .i64 k/\Hid (∃s',follow s (ops.take k)=some s'/\oZ wr g s')) (fun i _=>ops.length-(intOf i).toNat)
 case atStart=>exact⟨(bH.refl _ _).alloc _,0,Nat.zero_le _,rfl,s,rfl,HS.out.ext ((Ext.refl _).alloc _)⟩
 case round=>
  clear HS;obtain⟨hb,k,hk,rfl,HW⟩:=hrel;by_cases hlt:k<ops.length
  ·obtain⟨b,off,rfl,hbl,hcell⟩:=HC.out (by omega);have hne:=HF.out _ _ _ rfl (by omega);simp only at hne;obtain⟨o,ho⟩:=af hlt;have c0:=hb.cell (hcell k o ho 0 (by omega)) hne;have c1:=hb.cell (hcell k o ho 1 (by omega)) hne;have c2:=hb.cell (hcell k o ho 2 (by omega)) hne;simp only[aj,Nat.add_zero]at c0 c1 c2;have xx:=dO.out o (List.mem_of_getElem? ho);have hkey:=iB xx;obtain⟨s',hs',hst⟩:=HW.out;have HST:=aa hst;have HN:Hid (follow s (ops.take (k+1))=if iN o then some (s'.put o.key o.value) else if s' o.key=o.value then some s' else none):=by show _ = _;rw[ah ho,CF,hs',Option.bind_some]
   obtain⟨kd,ky,vl⟩:=o;simp only at hkey c0 c1 c2;obtain⟨q,rfl⟩:=Int.eq_ofNat_of_zero_le hkey.1;have hq3:(q:Int)<3:=by omega
   have hq0:(0:Int)<=(q:Int):=by omega
   have hgw:g<wr.heap.size:=hst.1.lt;have hwz:∀a b c,(eX a b c wr)=(eX a b c wr):=fun _ _ _=>rfl;clear hwz xx hkey hcell ho hs' hst HW hne;obtain⟨wo,rfl⟩:∃wo:World,wo=wr:=⟨_,rfl⟩;have HX:=aa ((Ext.refl wo).alloc (.cells #[.int .i64 kd,.int .i64 (q:Int),.int .i64 vl] 71))
   cases hw:iN ⟨kd,(q:Int),vl⟩ with
   | true=>
     have tF:Hid (follow s (ops.take (k+1))=some (s'.put (q:Int) vl)):=by show _ = _;rw[HN.out,hw];rfl
     have Z0:Hid ((kd==2)=true):=hw;clear HN hw;have ML:q<3:=by omega
     go_wp2_with (go_at_call 93;refine(eX _ _ _ _).mono ?_;rw[Z0.out];rintro e w4 ⟨rfl,hw4⟩;have X0:Ext (wo.alloc (.cells #[.int .i64 kd,.int .i64 (q:Int),.int .i64 vl] 71)) w4:=(by rw[<-hw4];exact(Ext.refl _).alloc _);clear hw4;have Bb:=aa (HX.out.trans X0);have v1:=X0.cell (p:=⟨wo.heap.size,1,none⟩) (v:=.int .i64 (q:Int)) (by go_cell);have v2:=X0.cell (p:=⟨wo.heap.size,2,none⟩) (v:=.int .i64 vl) (by go_cell);have v3:=(HST.out.ext Bb.out).2 q ML;have v4:=(HST.out.1.ext Bb.out).free q;clear X0)
     clear c0 c1 c2;have u1:({ w4 with drawn:=w4.drawn+1 }:World).cell? ⟨wo.heap.size,1,none⟩=some (.int .i64 (q:Int)):=v1;have u2:({ w4 with drawn:=w4.drawn+1 }:World).cell? ⟨wo.heap.size,2,none⟩=some (.int .i64 vl):=v2;go_still_tail 6,(by kernel_rfl)
     change wpList _ _ _ _ _ w4.drew;clear u1 u2;go_wp2;have X:=Bb.out.drew;have DL:=aa ((HST.out.ext X).put (q:=q) ML vl);go_roundw;case rel=>exact⟨(hb.ext X).setCell (.inl rfl) _,k+1,by omega,by go_num,_,tF.out,DL.out⟩
     case measure=>simp[intOf];omega
   | false=>
     have Z0:Hid ((kd==2)=false):=hw;have ML:q<3:=by omega
     obtain⟨y,hy⟩:∃y,s' (q:Int)=y:=⟨_,rfl⟩;have tF:Hid (follow s (ops.take (k+1))=if y=vl then some s' else none):=by show _ = _;rw[HN.out,hw,<-hy];rfl
     have HY:=aa hy;clear HN hw hy;by_cases hyv:y=vl
     ·have hd:(y != vl)=false:=by simp[hyv]
      have UR:Hid (follow s (ops.take (k+1))=some s'):=by show _ = _;rw[tF.out,if_pos hyv]
      clear hyv;go_wp2_with (go_at_call 93;refine(eX _ _ _ _).mono ?_;rw[Z0.out];rintro e w4 ⟨rfl,hw4⟩;have X0:Ext (wo.alloc (.cells #[.int .i64 kd,.int .i64 (q:Int),.int .i64 vl] 71)) w4:=(by rw[<-hw4];exact(Ext.refl _).alloc _);clear hw4;have Bb:=aa (HX.out.trans X0);have v1:=X0.cell (p:=⟨wo.heap.size,1,none⟩) (v:=.int .i64 (q:Int)) (by go_cell);have v2:=X0.cell (p:=⟨wo.heap.size,2,none⟩) (v:=.int .i64 vl) (by go_cell);have v3:=(HST.out.ext Bb.out).2 q ML;rw[HY.out]at v3;clear X0)
      clear c0 c1 c2;go_region_held3 (fun V=>V.cell? ⟨wo.heap.size,1,none⟩=some (.int .i64 (q:Int))/\V.cell? ⟨wo.heap.size,2,none⟩=some (.int .i64 vl)/\V.cell? ⟨g,q,none⟩=some (.int .i64 y)) (go_keep) (fail)
      clear v1 v2 v3;go_wp2;have X:=Bb.out.drew;go_roundw;case rel=>exact⟨hb.ext X,k+1,by omega,by go_num,_,UR.out,HST.out.ext X⟩
      case measure=>simp[intOf];omega
     ·have hd:(y != vl)=true:=by simp[hyv]
      have UR:Hid (follow s ops=none):=GD (k:=k+1) (by rw[tF.out,if_neg hyv]);clear hyv;go_wp2_with (go_at_call 93;refine(eX _ _ _ _).mono ?_;rw[Z0.out];rintro e w4 ⟨rfl,hw4⟩;have X0:Ext (wo.alloc (.cells #[.int .i64 kd,.int .i64 (q:Int),.int .i64 vl] 71)) w4:=(by rw[<-hw4];exact(Ext.refl _).alloc _);clear hw4;have Bb:=aa (HX.out.trans X0);have v1:=X0.cell (p:=⟨wo.heap.size,1,none⟩) (v:=.int .i64 (q:Int)) (by go_cell);have v2:=X0.cell (p:=⟨wo.heap.size,2,none⟩) (v:=.int .i64 vl) (by go_cell);have v3:=(HST.out.ext Bb.out).2 q ML;rw[HY.out]at v3;clear X0)
      clear c0 c1 c2;go_region_held3 (fun V=>V.cell? ⟨wo.heap.size,1,none⟩=some (.int .i64 (q:Int))/\V.cell? ⟨wo.heap.size,2,none⟩=some (.int .i64 vl)/\V.cell? ⟨g,q,none⟩=some (.int .i64 y)) (go_keep) (fail)
      clear v1 v2 v3;go_wp2;go_returns;have X:=Bb.out.drew;exact⟨hb.ext X,false,rfl,fun s2 h2=>(by rw[UR.out]at h2;cases h2),fun _=>rfl⟩
  ·obtain rfl:k=ops.length:=by omega
   obtain⟨s',hs',hst⟩:=HW.out;rw[List.take_length]at hs';have H1:=aa hs';have H2:=aa hst;clear hs' hst;go_wp2;go_returns;exact⟨hb,true,rfl,fun s2 h2=>⟨rfl,by rw[H1.out]at h2;cases h2;exact H2.out⟩,fun hn=>by rw[H1.out]at hn;cases hn⟩
def Ef(t:aA):Nat:=2+t.ops.length*3
def lK(h:List aA):Nat:=(h.map Ef).sum
def kW(h:List aA):Nat:=(h.map fun t=>t.ops.length).sum
def markT(k:Nat)(t:aA):aA:=⟨(k:Int),iD (k+1) t.ops.length,(((k+1+t.ops.length*3:Nat):Int)%3==0)⟩
def sw:Nat->List aA->List aA
 | _,[]=>[]
 | k,t :: h=>markT k t :: sw (k+Ef t) h
theorem LV(k n:Nat):(iD k n).length=n:=by simp[iD]
theorem kX:∀(k:Nat) (h:List aA),(sw k h).length=h.length
 | _,[]=>rfl
 | k,t :: h=>by rw[sw,List.length_cons,List.length_cons,kX]
theorem JZ(t:aA)(h:List aA):lK (t :: h)=Ef t+lK h:=by simp[lK]
theorem Fz:∀(k:Nat) (h:List aA) (i:Nat) (t:aA),h[i]? =some t->(sw k h)[i]? =some (markT (k+lK (h.take i)) t)
 | _,[],_,_,e=>by simp at e
 | k,x :: h,0,t,e=>by cases e;rfl
 | k,x :: h,i+1,t,e=>by rw[sw,List.getElem?_cons_succ,Fz (k+Ef x) h i t (by simpa using e),List.take_succ_cons,JZ,Nat.add_assoc]
theorem Mc{f:aA->Nat}{h:List aA}{i:Nat}{t:aA}(e:h[i]? =some t):((h.take (i+1)).map f).sum=((h.take i).map f).sum+f t:=by rw[ah e];simp
theorem wR{h:List aA}{i:Nat}{t:aA}(e:h[i]? =some t):lK (h.take (i+1))=lK (h.take i)+Ef t:=Mc e
theorem TY{h:List aA}{i:Nat}{t:aA}(e:h[i]? =some t):kW (h.take (i+1))=kW (h.take i)+t.ops.length:=Mc e
theorem qD(f:aA->Nat):∀(h:List aA) (i:Nat),((h.take i).map f).sum<=(h.map f).sum
 | [],_=>by simp
 | _ :: _,0=>by simp
 | x :: h,i+1=>by simp only[List.take_succ_cons,List.map_cons,List.sum_cons];have:=qD f h i;omega
theorem Hq:∀{h:List aA} {t:aA},t∈h->t.ops.length<=kW h
 | x :: h,t,e=>by
   rcases List.mem_cons.1 e with rfl|e
   ·simp[kW]
   ·have:=Hq e
    simp only[kW,List.map_cons,List.sum_cons]at this ⊢;omega
theorem rD:∀h:List aA,lK h=h.length*2+kW h*3
 | []=>rfl
 | t :: h=>by rw[JZ,rD h,List.length_cons];simp only[kW,List.map_cons,List.sum_cons,Ef];omega
theorem Lm{m:Nat}:∀h:List aA,(∀t∈h,t.ops.length<=m)->kW h<=h.length*m
 | [],_=>by simp[kW]
 | t :: h,e=>by have h1:=e t (by simp);have h2:=Lm h (fun x hx=>e x (by simp[hx]));simp only[kW,List.map_cons,List.sum_cons,List.length_cons]at h2 ⊢;rw[Nat.succ_mul];omega
def nA(k:Nat)(h:List aA)(i:Nat):List aA:=(sw k h).take i++h.drop i
theorem QJ(k:Nat)(h:List aA)(i:Nat)(hi:i<=h.length):(nA k h i).length=h.length:=by simp only[nA,List.length_append,List.length_take,List.length_drop,kX];omega
theorem UA{k:Nat}{h:List aA}{i:Nat}{t:aA}(e:h[i]? =some t):(nA k h i)[i]? =some t:=by have hi:=(List.getElem?_eq_some_iff.1 e).1;rw[nA,List.getElem?_append_right (by simp[kX];omega)];simp[kX,Nat.min_eq_left (Nat.le_of_lt hi),e]
theorem Og{k:Nat}{h:List aA}{i:Nat}{t:aA}(e:h[i]? =some t):nA k h (i+1)=(nA k h i).set i (markT (k+lK (h.take i)) t):=by
 have hi:=(List.getElem?_eq_some_iff.1 e).1;have hm:=Fz k h i t e;have hd:h.drop i=t :: h.drop (i+1):=by rw[List.drop_eq_getElem_cons hi,(List.getElem?_eq_some_iff.1 e).2]
 unfold nA;rw[ah hm,hd,List.set_append_right _ _ (by simp[kX];omega)];simp[kX,Nat.min_eq_left (Nat.le_of_lt hi)]
theorem MB(k:Nat)(h:List aA):nA k h 0=h:=by simp[nA]
theorem Pp(k:Nat)(h:List aA):nA k h h.length=sw k h:=by unfold nA;rw[List.drop_length,List.append_nil,List.take_of_length_le (by rw[kX];exact Nat.le_refl _)]
