/- Lemmas. -/
import Derived.Test.YtcdopfdgknglfaaGreatDoorKAB
import Derived.StillTailTactics
set_option maxHeartbeats 16000000
set_option maxRecDepth 8000
set_option linter.all false
namespace Go.Proofs.YtcdopfdgknglfaaGreatDoor
open Go.RowKit
def gT(ops:List aV)(key:Int):Option aV:=ops.reverse.find? λo=>jQ o&&o.key==key
theorem vI(ops:List aV)(o:aV)(key:Int):gT (ops++[o]) key=if jQ o=true/\o.key=key then some o else gT ops key:=by
 unfold gT;rw[List.reverse_append,List.reverse_singleton,List.singleton_append,List.find?_cons];by_cases h:jQ o=true/\o.key=key
 ·rw[aj h];simp[h.1,h.2]
 ·rw[au h]
  have:(jQ o&&o.key==key)=false:=by cases hw:jQ o<;>simp_all
  rw[this]
theorem lV{ops:List aV}{key:Int}{o:aV}(h:gT ops key=some o):o∈ops/\jQ o=true/\o.key=key:=by unfold gT at h;have h1:=List.find?_some h;have h2:=List.mem_of_find?_eq_some h;simp at h1 h2;exact⟨h2,h1⟩
def bQ(ops:List aV):List aV:=([0,1,2]:List Int).filterMap (gT ops)
def xO(ops:List aV)(n:Nat):List aV:=(List.range n).filterMap λi:Nat=>gT ops (i:Int)
theorem EF(ops:List aV)(n:Nat):xO ops (n+1)=xO ops n++(gT ops (n:Int)).toList:=by unfold xO;rw[vU,List.filterMap_append];congr 1
theorem lU(ops:List aV):xO ops 3=bQ ops:=by show List.filterMap (λi:Nat=>gT ops (i:Int)) [0,1,2] = _;rfl
theorem nN(ops:List aV)(n:Nat):(xO ops n).length<=n:=by unfold xO;exact aX (List.length_filterMap_le _ _) (by simp)
theorem kK{ops:List aV}{o:aV}:o∈bQ ops↔(o.key=0∨o.key=1∨o.key=2)/\gT ops o.key=some o:=by
 unfold bQ;rw[List.mem_filterMap];constructor
 ·rintro⟨k,hk,h⟩;have hk':=(lV h).2.2;subst hk';exact⟨by simpa using hk,h⟩
 ·rintro⟨hk,h⟩;exact⟨o.key,by simpa using hk,h⟩
def before(ops:List aV)(key:Int):Option Int:=(ops.reverse.find? λo=>o.key==key).map (·.value)
theorem GA(key:Int):before [] key=none:=rfl
theorem xw(ops:List aV)(o:aV)(key:Int):before (ops++[o]) key=if key=o.key then some o.value else before ops key:=by
 unfold before;rw[List.reverse_append,List.reverse_singleton,List.singleton_append,List.find?_cons];by_cases h:key=o.key
 ·rw[aj h];simp[h]
 ·rw[au h]
  have:(o.key==key)=false:=by simp;exact λe=>h e.symm
  rw[this]
theorem xN{ops:List aV}{key v:Int}(h:before ops key=some v):∃o∈ops,o.key=key/\o.value=v:=by unfold before at h;rw[kL]at h;obtain⟨o,h1,h2⟩:=h;have h3:=List.find?_some h1;have h4:=List.mem_of_find?_eq_some h1;simp at h3 h4;exact⟨o,h4,h3,h2⟩
theorem Ep{ops:List aV}{key:Int}(h:before ops key=none){o:aV}(ho:o∈ops):o.key≠key:=by
 unfold before at h;rw[Option.map_eq_none_iff,List.find?_eq_none]at h
 have:=h o (by simpa using ho)
 simpa using this
def J4(ops:List aV)(j:Nat):Bool:=match ops[j]? with
 | some o=>oH o&&(before (ops.take j) o.key).isNone
 | none=>false
def Cy(ops:List aV)(k:Nat):List aV:=(List.range k).filterMap λj=>if J4 ops j=true then ops[j]? else none
def mH(ops:List aV):List aV:=Cy ops ops.length
theorem Lg{ops:List aV}{k:Nat}{o:aV}(ho:ops[k]? =some o):Cy ops (k+1)=Cy ops k++if J4 ops k=true then [o] else []:=by unfold Cy;rw[vU,List.filterMap_append];congr 1;by_cases h:J4 ops k=true<;>simp[h,ho]
theorem BZ(ops:List aV)(k:Nat):(Cy ops k).length<=k:=by unfold Cy;exact aX (List.length_filterMap_le _ _) (by simp)
theorem Gc{ops:List aV}{o:aV}:o∈mH ops↔∃j,ops[j]? =some o/\J4 ops j=true:=by
 unfold mH Cy;rw[List.mem_filterMap];constructor
 ·rintro⟨j,hj,h⟩;split at h
  ·rename_i hf;exact⟨j,h,hf⟩
  ·cases h
 ·rintro⟨j,hj,hf⟩;exact⟨j,by simpa using (bG.1 hj).1,by rw[aj hf];exact hj⟩
def xM(ops:List aV)(j:Nat):Bool:=match ops[j]? with
 | some o=>oH o&&(match before (ops.take j) o.key with|some v=>v != o.value|none=>false)
 | none=>false
def zV(ops:List aV)(k:Nat):Bool:=(List.range k).any (xM ops)
def zZ(ops:List aV):Bool:=zV ops ops.length
theorem Bl(ops:List aV)(k:Nat):zV ops (k+1)=(zV ops k || xM ops k):=by unfold zV;rw[vU,List.any_append];simp
def opsOf(h:List aG)(n:Nat):List aV:=(h[n]?.map (·.ops)).getD []
theorem dV{h:List aG}{n:Nat}{t:aG}(ht:h[n]? =some t):opsOf h n=t.ops:=by simp[opsOf,ht]
def jk(h:List aG)(n:Nat):Bool:=(h[n]?.map (·.done)).getD false
def jH(h:List aG)(key value:Int):Bool:=decide (0<=aI h key value)&&(gT (opsOf h (aI h key value).toNat) key).any λo=>o.value==value
def gG(h:List aG)(n:Nat)(o:aV):Int:=
 if oH o=false∨o.value=0∨aI h o.key o.value=n then 0
 else if aI h o.key o.value<0 then 1
 else if jk h (aI h o.key o.value).toNat=false then 2
 else if jH h o.key o.value=false then 3
 else 0
def wW(h:List aG)(n:Nat)(kind:Int)(ops:List aV)(j:Nat):Bool:=(ops.take j).any λo=>gG h n o==kind
theorem Ja{h:List aG}{n:Nat}{kind:Int}{ops:List aV}{j:Nat}{o:aV}(ho:ops[j]? =some o):wW h n kind ops (j+1)=(wW h n kind ops j || gG h n o==kind):=by unfold wW;rw[ak ho,List.any_append];simp
def nO(h:List aG)(kind:Int)(n:Nat):Bool:=if kind=4 then zZ (opsOf h n) else (opsOf h n).any λo=>gG h n o==kind
def iF(h:List aG)(kind:Int):Bool:=(List.range h.length).any λn=>jk h n&&nO h kind n
def uj(ops:List aV):Bool:=(List.range ops.length).any λi=>match ops[i]? with
 | some o=>oH o&&(ops.drop (i+1)).any λl=>decide (l.kind=2/\l.key=o.key/\l.value=o.value)
 | none=>false
def jc(h:List aG):Bool:=aD h && !iF h 1 && !iF h 2 && !iF h 3 && !iF h 4 && !((List.range h.length).any λn=>jk h n&&uj (opsOf h n))
theorem gK{h:List aG}(key value:Int):-1<=aI h key value/\aI h key value<h.length:=by
 unfold aI
 cases hl:lookW (Da h) (key,value) with
 | none=>simp;omega
 | some n=>
   have hm:((key,value),n)∈Da h:=by unfold lookW at hl;rw[kL]at hl;obtain⟨p,hp,rfl⟩:=hl;have h1:=List.find?_some hp;have h2:=List.mem_of_find?_eq_some hp;obtain⟨q,n⟩:=p;simp at h1;subst h1;exact h2
   have hn:n<h.length:=by
    have key:∀(l:List aG) (s:Nat) q,(q,n)∈wrsFrom s l->n<s+l.length:=by
     intro l
     induction l with
     | nil=>intro s q hm;simp[wrsFrom]at hm
     | cons t l ih=>
       intro s q hm;rw[wrsFrom,iR]at hm;rcases hm with hm|hm
       ·simp only[iC,fV]at hm;obtain⟨o,_,e⟩:=hm;injection e with _ e2
        simp;omega
       ·have:=ih (s+1) q hm;simp;omega
    have:=key h 0 _ hm
    omega
   simp;omega
def j3:=Int->Int
def j3.put(s:j3)(k v:Int):j3:=λx=>if x=k then v else s x
def pU:j3:=λ_=>0
def follow(s:j3):List aV->Option j3
 | []=>some s
 | o :: r=>if jQ o then follow (s.put o.key o.value) r else if s o.key=o.value then follow s r else none
def uO(h:List aG)(n:Nat):List aV:=(h[n]?.map (·.ops)).getD []
def runs(h:List aG)(s:j3):List Nat->Option j3
 | []=>some s
 | n :: r=>(follow s (uO h n)).bind λs'=>runs h s' r
theorem Ez(h:List aG)(s:j3)(a b:List Nat):runs h s (a++b)=(runs h s a).bind λs'=>runs h s' b:=by
 induction a generalizing s with
 | nil=>rfl
 | cons n a ih=>
   simp only[List.cons_append,runs]
   cases follow s (uO h n) with
   | none=>rfl
   | some s'=>simp[ih]
theorem CU(h:List aG)(s:j3)(a:List Nat)(n:Nat):runs h s (a++[n])=(runs h s a).bind λs'=>follow s' (uO h n):=by rw[Ez];congr 1;funext s';simp only[runs];cases follow s' (uO h n)<;>rfl
def dfs(h:List aG)(all:List Nat):Nat->j3->List Nat->Option (List Nat)
 | 0,_,order=>some order
 | f+1,s,order=>all.findSome? λn=>if order.contains n then none else (follow s (uO h n)).bind λs'=>dfs h all f s' (order++[n])
def sfind(h:List aG):Nat->List Nat->List Nat->Option (List Nat)
 | 0,begin_,_=>if (runs h pU begin_).isSome then some begin_ else none
 | f+1,begin_,rest=>if (runs h pU begin_).isSome then (List.range rest.length).findSome? λk=>sfind h f (begin_++[rest.getD k 0]) (rest.eraseIdx k) else none
theorem Ke{α β:Type}(l:List α)(p:α->Bool)(g:α->Option β)(hp:∀x∈l,p x=false->g x=none):l.findSome? g=(l.filter p).findSome? g:=by
 induction l with
 | nil=>rfl
 | cons x l ih=>
   have ih:=ih (λy hy=>hp y (List.mem_cons_of_mem _ hy));rw[sN];split
   ·rw[List.findSome?_cons,List.findSome?_cons,ih]
   ·rename_i h;rw[List.findSome?_cons,hp x (by simp) (by simpa using h),ih]
theorem IV{α β:Type}(l:List α)(d:α)(g:Nat->α->Option β)(g':α->Option β)(h:∀k x,l[k]? =some x->g k x=g' x):(List.range l.length).findSome? (λk=>g k (l.getD k d))=l.findSome? g':=by
 induction l generalizing g with
 | nil=>rfl
 | cons x l ih=>
   rw[eO,List.range_succ_eq_map,List.findSome?_cons,List.findSome?_cons];have h0:=h 0 x rfl;simp only[List.getD_cons_zero];rw[h0]
   cases g' x with
   | some y=>rfl
   | none=>
     have:=ih (λk y=>g (k+1) y) (λk y hk=>h (k+1) y (by simpa using hk))
     simp only[List.findSome?_map,Function.comp_def,List.getD_cons_succ];exact this
theorem FH{l:List Nat}(hn:l.Nodup){k x:Nat}(hx:l[k]? =some x):l.eraseIdx k=l.filter λy=>y != x:=by
 induction l generalizing k with
 | nil=>simp at hx
 | cons y l ih=>
   rw[BM]at hn
   cases k with
   | zero=>
     simp at hx;subst hx;rw[List.eraseIdx_cons_zero,sN,au (by simp)]
     exact(List.filter_eq_self.2 λz hz=>by simp;intro e;subst e;exact hn.1 hz).symm
   | succ k=>
     simp only[List.getElem?_cons_succ]at hx;rw[List.eraseIdx_cons_succ,sN,aj (by simp;intro e;subst e;exact hn.1 (aM hx)),ih hn.2 hx]
theorem VY(h:List aG)(all:List Nat)(hn:all.Nodup):∀f (order rest:List Nat) (s:j3),rest=all.filter (λn=>!order.contains n)->f=rest.length->runs h pU order=some s->dfs h all f s order=sfind h f order rest:=by
 intro f
 induction f with
 | zero=>
   intro order rest s hr hf hs;simp[dfs,sfind,hs]
 | succ f ih=>
   intro order rest s hr hf hs;rw[dfs,sfind,hs,Option.isSome_some,aj rfl];rw[Ke all (λn=>!order.contains n) _ (λx _ hx=>by simp at hx;simp[hx]),<-hr]
   refine(IV rest 0 (λk x=>sfind h f (order++[x]) (rest.eraseIdx k)) (λn=>if order.contains n=true then none else (follow s (uO h n)).bind λs'=>dfs h all f s' (order++[n])) (λk x hx=>?_)).symm
   show sfind h f (order++[x]) (rest.eraseIdx k)=if order.contains x=true then none else (follow s (uO h x)).bind λs'=>dfs h all f s' (order++[x])
   have hmem:x∈all.filter (λn=>!order.contains n):=by rw[<-hr];exact aM hx
   have hno:order.contains x=false:=by rw[nT]at hmem;simpa using hmem.2
   rw[hno,au (by simp)];have hnr:rest.Nodup:=by rw[hr];exact hn.filter _
   have he:=FH hnr hx
   cases hfo:follow s (uO h x) with
   | none=>
     have:runs h pU (order++[x])=none:=by rw[CU,hs];exact hfo
     cases f with
     | zero=>simp[sfind,this]
     | succ f=>simp[sfind,this]
   | some s'=>
     rw[Option.bind_some]
     refine(ih (order++[x]) _ s' ?_ ?_ ?_).symm
     ·rw[he,hr,List.filter_filter];refine List.filter_congr λy _=>?_;by_cases e:y=x<;>simp[e,List.contains_eq_mem]
     ·have hk:=(bG.1 hx).1;rw[agE,aj hk];omega
     ·rw[CU,hs];exact hfo
def aN(h:List aG):List Nat:=(List.range h.length).filter λn=>(h[n]?.map (·.done)).getD false
theorem zP(h:List aG):(aN h).Nodup:=List.nodup_range.filter _
def fM(h:List aG):Option (List Nat):=dfs h (aN h) (aN h).length pU []
theorem JQ(h:List aG):fM h=sfind h (aN h).length [] (aN h):=
 VY h _ (zP h) _ _ _ _ (List.filter_eq_self.2 (λ_ _=>rfl)).symm rfl rfl
def qh(ops:List aV)(key:Int):List Int:=(bQ ops).filterMap λo=>if o.key=key then some o.value else none
def aW(h:List aG)(key:Int):List Int:=(aN h).flatMap λn=>qh (opsOf h n) key
def uh(h:List aG)(key:Int)(m:Nat):List Int:=((aN h).take m).flatMap λn=>qh (opsOf h n) key
def pE(ops:List aV)(key:Int)(j:Nat):List Int:=((bQ ops).take j).filterMap λo=>if o.key=key then some o.value else none
theorem PT{h:List aG}{key:Int}{m n:Nat}(hn:(aN h)[m]? =some n):uh h key (m+1)=uh h key m++qh (opsOf h n) key:=by unfold uh;rw[ak hn,lq];simp
theorem En{ops:List aV}{key:Int}{j:Nat}{o:aV}(ho:(bQ ops)[j]? =some o):pE ops key (j+1)=pE ops key j++if o.key=key then [o.value] else []:=by unfold pE;rw[ak ho,List.filterMap_append];congr 1;by_cases h:o.key=key<;>simp[h]
theorem CR{ops:List aV}{key:Int}{o:aV}(h:gT ops key=some o):o.key=key:=(lV h).2.2
theorem IE(ops:List aV)(key:Int):(qh ops key).length<=1:=by
 unfold qh bQ;rw[List.filterMap_filterMap];have e:∀k:Int,(gT ops k).bind (λo=>if o.key=key then some o.value else none)=if k=key then (gT ops k).map (·.value) else none:=λk=>by
  cases h:gT ops k with
  | none=>simp
  | some o=>simp[CR h]
 simp only[e];by_cases h0:(0:Int)=key
 ·subst h0;simp only[agK,List.filterMap_nil];cases gT ops 0<;>simp
 ·by_cases h1:(1:Int)=key
  ·subst h1;simp only[agK,List.filterMap_nil];cases gT ops 1<;>simp
  ·by_cases h2:(2:Int)=key
   ·subst h2;simp only[agK,List.filterMap_nil];cases gT ops 2<;>simp
   ·simp[h0,h1,h2]
theorem IZ(h:List aG)(key:Int)(m:Nat):(uh h key m).length<=m:=by
 unfold uh;rw[wK]
 have:∀l:List Nat,(l.map λn=>(qh (opsOf h n) key).length).sum<=l.length:=λl=>by
  induction l with
  | nil=>simp
  | cons n l ih=>have:=IE (opsOf h n) key;simp;omega
 exact aX (this _) (by simp;omega)
theorem Jc(ops:List aV)(key:Int)(j:Nat):(pE ops key j).length<=j:=by unfold pE;exact aX (List.length_filterMap_le _ _) (by simp;omega)
theorem GD(h:List aG)(key:Int):uh h key (aN h).length=aW h key:=by unfold uh aW;rw[bM]
theorem je(h:List aG)(key:Int):(aW h key).length<=h.length:=by
 rw[<-GD];have h1:=IZ h key (aN h).length;have h2:(aN h).length<=h.length:=by
  have:=mO (λn=>(h[n]?.map (·.done)).getD false) (List.range h.length)
  simpa[aN] using this
 omega
def permsN:Nat->List Int->List (List Int)
 | 0,_=>[[]]
 | n+1,xs=>(List.range xs.length).flatMap λi=>(permsN n (xs.eraseIdx i)).map (xs.getD i 0 :: ·)
def perms(xs:List Int):List (List Int):=permsN xs.length xs
def iL(xs:List Int)(k:Nat):List (List Int):=(List.range k).flatMap λi=>(perms (xs.eraseIdx i)).map (xs.getD i 0 :: ·)
theorem Dx{xs:List Int}(hx:0<xs.length):perms xs=iL xs xs.length:=by
 unfold perms iL;obtain⟨n,hn⟩:∃n,xs.length=n+1:=⟨xs.length-1,by omega⟩;rw[hn,permsN,hn]
 have:∀i∈List.range (n+1),(permsN n (xs.eraseIdx i)).map (xs.getD i 0 :: ·)=(permsN (xs.eraseIdx i).length (xs.eraseIdx i)).map (xs.getD i 0 :: ·):=λi hi=>by rw[agE,aj (by rw[hn];simpa using hi),hn];rfl
 rw[List.flatMap_eq_foldl,List.flatMap_eq_foldl];have key:∀(l:List Nat) (acc:List (List Int)),(∀i∈l,i∈List.range (n+1))->l.foldl (λacc i=>acc++(permsN n (xs.eraseIdx i)).map (xs.getD i 0 :: ·)) acc=l.foldl (λacc i=>acc++(permsN (xs.eraseIdx i).length (xs.eraseIdx i)).map (xs.getD i 0 :: ·)) acc:=by
  intro l
  induction l with
  | nil=>intro acc _;rfl
  | cons i l ih=>
    intro acc hl;rw[uz,uz,this i (hl i (by simp)),ih _ (λj hj=>hl j (by simp[hj]))]
 exact key _ _ (λi hi=>hi)
theorem vG{xs:List Int}{k:Nat}:iL xs (k+1)=iL xs k++(perms (xs.eraseIdx k)).map (xs.getD k 0 :: ·):=by unfold iL;rw[vU,lq];simp
theorem Hy:∀(xs:List Int) (i:Nat) (hi:i<xs.length),(xs[i] :: xs.eraseIdx i).Perm xs
 | x :: xs,0,_=>.refl _
 | x :: xs,i+1,h=>by
   simp only[List.getElem_cons_succ,List.eraseIdx_cons_succ]
   exact(List.Perm.swap x _ _).trans ((Hy xs i (by simpa using h)).cons x)
theorem P6:∀n (xs:List Int),xs.length=n->∀p∈permsN n xs,p.Perm xs:=by
 intro n
 induction n with
 | zero=>
   intro xs hx p hp;obtain rfl:xs=[]:=mZ hx;simp[permsN]at hp;subst hp;exact .refl _
 | succ n ih=>
   intro xs hx p hp;simp only[permsN,List.mem_flatMap,Q6,fV]at hp;obtain⟨i,hi,q,hq,rfl⟩:=hp;have hl:(xs.eraseIdx i).length=n:=by rw[agE,aj hi];omega
   have:=ih _ hl q hq
   have h2:(xs.getD i 0 :: xs.eraseIdx i).Perm xs:=by rw[show xs.getD i 0=xs[i] by simp[List.getD,dJ hi]];exact Hy xs i hi
   exact(this.cons _).trans h2
theorem pY{xs p:List Int}(hp:p∈perms xs):p.Perm xs:=P6 _ xs rfl p hp
def fact:Nat->Nat
 | 0=>1
 | n+1=>fact n*(n+1)
theorem QT:∀n (xs:List Int),xs.length=n->(permsN n xs).length=fact n:=by
 intro n
 induction n with
 | zero=>intro xs _;rfl
 | succ n ih=>
   intro xs hx;rw[permsN,wK,hx]
   have:(List.range (n+1)).map (λi=>((permsN n (xs.eraseIdx i)).map (xs.getD i 0 :: ·)).length)=(List.range (n+1)).map λ_=>fact n:=by apply List.map_congr_left;intro i hi;rw[dX];exact ih _ (by rw[agE,aj (by rw[hx];simpa using hi)];omega)
   rw[this,fact];have hs:∀m c:Nat,((List.range m).map λ_=>c).sum=c*m:=λm c=>by
    induction m with
    | zero=>rfl
    | succ m ih=>rw[vU,rR,List.sum_append,ih];simp[Nat.mul_add]
   exact hs _ _
theorem oG(xs:List Int):(perms xs).length=fact xs.length:=QT _ xs rfl
theorem BC{n:Nat}(h:n<=6):fact n<=720:=by
 have:n=0∨n=1∨n=2∨n=3∨n=4∨n=5∨n=6:=by omega
 rcases this with rfl|rfl|rfl|rfl|rfl|rfl|rfl<;>decide
def jB(h:List aG):Nat:=fact (aW h 0).length*fact (aW h 1).length*fact (aW h 2).length
def bY(h:List aG):Nat->List (List (List Int))
 | 0=>[[]]
 | k+1=>(bY h k).flatMap λbegun=>(perms (aW h (k:Int))).map λorder=>begun++[order]
def gJ(h:List aG):List (List (List Int)):=if aD h=true/\jB h<=200 then bY h 3 else []
structure dz (X:Nat->Prop) (w w':World):Prop where
 os:w'.os=w.os
 tape:w'.tape=w.tape
 output:w'.output=w.output
 size:w.heap.size<=w'.heap.size
 block:∀k,k<w.heap.size->¬X k->w'.heap[k]? =w.heap[k]?
theorem dz.refl(X:Nat->Prop)(w:World):dz X w w:=⟨rfl,rfl,rfl,av _,λ_ _ _=>rfl⟩
theorem dz.bK{X:Nat->Prop}{w w':World}(h:Ext w w'):dz X w w':=⟨Below.os h,Below.tape h,Below.output h,h.size,λk hk _=>Below.block h k hk⟩
theorem dz.trans{X:Nat->Prop}{a b c:World}(h:dz X a b)(k:dz X b c):dz X a c:=
 ⟨k.os.trans h.os,k.tape.trans h.tape,k.output.trans h.output,aX h.size k.size,λi hi hx=>(k.block i (bR hi h.size) hx).trans (h.block i hi hx)⟩
theorem dz.more{X Y:Nat->Prop}{w0 w w':World}(h:dz X w0 w)(k:dz Y w w')(hY:∀i,Y i->X i∨w0.heap.size<=i):dz X w0 w':=
 ⟨k.os.trans h.os,k.tape.trans h.tape,k.output.trans h.output,aX h.size k.size,λi hi hx=>(k.block i (bR hi h.size) (λhy=>(hY i hy).elim hx (λh'=>by omega))).trans (h.block i hi hx)⟩
theorem dz.wide{X Y:Nat->Prop}{w w':World}(h:dz X w w')(hX:∀i,X i->Y i):dz Y w w':=⟨h.os,h.tape,h.output,h.size,λk hk hx=>h.block k hk (λx=>hx (hX k x))⟩
theorem dz.alloc{X:Nat->Prop}{a b:World}(h:dz X a b)(o:Obj):dz X a (b.alloc o):=h.trans (.bK ((af b).alloc o))
theorem dz.drew{X:Nat->Prop}{a b:World}(h:dz X a b):dz X a b.drew:=h.trans (.bK (af b).drew)
theorem dz.ext{X:Nat->Prop}{a b c:World}(h:dz X a b)(k:Ext b c):dz X a c:=h.trans (.bK k)
theorem dz.setCell{X:Nat->Prop}{a b:World}(h:dz X a b){p:Addr}(hp:X p.block∨a.heap.size<=p.block)(u:Value):dz X a (b.setCell p u):=
 h.more (Y:=λi=>i=p.block) ⟨rfl,rfl,rfl,by simp[World.setCell],λk _ hk=>Below.heap_setCell _ _ _ k hk⟩ (λi e=>e▸hp)
theorem dz.grown{X:Nat->Prop}{a b c:World}(h:dz X a b){row:Option Nat}(k:b.grownBy c row)(hr:∀i,row=some i->X i∨a.heap.size<=i):dz X a c:=
 h.more (Y:=λi=>row=some i) ⟨k.os,k.tape,k.output,k.size,λi hi hn=>k.block i hi (λe=>hn e.symm)⟩ hr
theorem dz.out{X:Nat->Prop}{w0 w w':World}(hb:Ext w0 w)(h:dz X w w')(hX:∀i,X i->w0.heap.size<=i):Ext w0 w':=by have hb':Below w0.heap.size w0 w:=hb;exact⟨h.os.trans hb'.os,h.tape.trans hb'.tape,h.output.trans hb'.output,aX hb'.size h.size,λk hk=>(h.block k (bR hk hb'.size) (λx=>by have:=hX k x;omega)).trans (hb'.block k hk)⟩
theorem dz.heap{X:Nat->Prop}{w w':World}(h:dz X w w'){k:Nat}{o:Obj}(hk:w.heap[k]? =some o)(hx:¬X k):w'.heap[k]? =some o:=(h.block k (fF.1 hk).1 hx).trans hk
theorem dz.cell{X:Nat->Prop}{w w':World}(h:dz X w w'){p:Addr}{v:Value}(hc:w.cell? p=some v)(hx:¬X p.block):w'.cell? p=some v:=by
 have hb:p.block<w.heap.size:=by
  rcases eP p.block w.heap.size with h'|h'
  ·exact h'
  ·simp[World.cell?,DR h']at hc
 rw[<-hc];simp only[World.cell?,h.block p.block hb hx]
theorem dz.frozen{X:Nat->Prop}{w w':World}(h:dz X w w'){p:Addr}(hb:p.block<w.heap.size)(hx:¬X p.block):w'.frozen? p=w.frozen? p:=by simp only[World.frozen?,h.block p.block hb hx]
theorem dz.afg{X:Nat->Prop}{w w':World}(h:dz X w w'){g N:Nat}(hB:ny w g N)(hx:¬X g):ny w' g N:=by obtain⟨cs,t,hg,hs⟩:=hB;exact⟨cs,t,h.heap hg hx,hs⟩
theorem aL.frX{α:Type}{m:Nat}{enc:α->Nat->Value}{X:Nat->Prop}{w w':World}{u:Value}{xs:List α}(h:aL m enc w u xs)(k:dz X w w')(hx:∀a n c,u=.slice (some a) n c->0<n->¬X a.block):aL m enc w' u xs:=by obtain⟨A,c,hA,h⟩:=h;refine⟨A,c,hA,λhn=>?_⟩;obtain⟨b,off,hb,hlt,hc⟩:=h hn;subst hb;have hne:¬X b:=hx ⟨b,off,none⟩ _ _ hA hn;exact⟨b,off,rfl,bR hlt k.size,λi x hi j hj=>k.cell (hc i x hi j hj) hne⟩
def qR(w:World)(g:Nat)(s:j3):Prop:=ny w g 3/\∀o:Nat,o<3->w.cell? ⟨g,o,none⟩=some (.int .i64 (s (o:Int)))
theorem qR.ext{w w':World}{g:Nat}{s:j3}(h:qR w g s)(hb:Ext w w'):qR w' g s:=⟨h.1.ext hb,λo ho=>hb.cell (h.2 o ho)⟩
theorem qR.frX{X:Nat->Prop}{w w':World}{g:Nat}{s:j3}(h:qR w g s)(k:dz X w w')(hx:¬X g):qR w' g s:=⟨k.afg h.1 hx,λo ho=>k.cell (h.2 o ho) hx⟩
theorem qR.put{w:World}{g:Nat}{s:j3}{q:Nat}(h:qR w g s)(hq:q<3)(v:Int):qR (w.setCell ⟨g,q,none⟩ (.int .i64 v)) g (s.put (q:Int) v):=
 ⟨h.1.set _ _,λo ho=>by
  by_cases e:o=q
  ·subst e;rw[fC h.1 hq];simp[j3.put]
  ·rw[aC (by intro e';injection e' with _ e' _;omega),h.2 o ho]
   have:¬((o:Int)=(q:Int)):=by omega
   simp[j3.put,this]⟩
def Xc(s:j3):Value:=.agg #[.int .i64 (s 0),.int .i64 (s 1),.int .i64 (s 2)]
theorem BU(w:World)(s:j3)(T:TypeId):qR (w.alloc (.cells #[.int .i64 (s 0),.int .i64 (s 1),.int .i64 (s 2)] T)) w.heap.size s:=
 ⟨ny.made w #[.int .i64 (s 0),.int .i64 (s 1),.int .i64 (s 2)] T,λo ho=>by
  match o,ho with
  | 0,_=>exact aF rfl
  | 1,_=>exact aF rfl
  | 2,_=>exact aF rfl⟩
theorem Eb(s:j3)(l:List aV)(o:aV):follow s (l++[o])=(follow s l).bind λs'=>if jQ o then some (s'.put o.key o.value) else if s' o.key=o.value then some s' else none:=by
 induction l generalizing s with
 | nil=>
   simp only[List.nil_append,follow,Option.bind_some]
 | cons x l ih=>
   simp only[List.cons_append,follow];split
   ·exact ih _
   ·split
    ·exact ih _
    ·rfl
theorem Iu{s:j3}{l:List aV}{k:Nat}(h:follow s (l.take k)=none):follow s l=none:=by
 have key:∀(a b:List aV) (s:j3),follow s a=none->follow s (a++b)=none:=by
  intro a
  induction a with
  | nil=>intro b s h;cases h
  | cons x a ih=>
    intro b s h;simp only[List.cons_append,follow]at h ⊢;split at h
    ·rename_i hw;rw[aj hw];exact ih b _ h
    ·rename_i hw;rw[au hw];split at h
     ·rename_i he;rw[aj he];exact ih b _ h
     ·rename_i he;rw[au he]
 rw[<-List.take_append_drop k l];exact key _ _ _ h
theorem Rh(g:Nat)(s:j3)(t:aG)(ov:Value)(W:World)(hS:qR W g s)(hops:aL 3 encOpr W ov t.ops)(FQ:∀a n c,ov=.slice (some a) n c->0<n->a.block≠g)(hok:∀o∈t.ops,iY o=true)(hlen:t.ops.length<=6) :
 Calls Tryz.prog 212 #[.pointer (some ⟨g,0,none⟩),o9 t ov] W λe W'=>dz (λk=>k=g) W W'/\∃b,e=.returned (.bool b)/\(∀s',follow s t.ops=some s'->b=true/\qR W' g s')/\(follow s t.ops=none->b=false):=by
 obtain⟨se,ops,dn⟩:=t;simp only[]at hops hok hlen ⊢;have HS:=aa hS;have HF:=aa FQ;have fu:=aa hok;obtain⟨A,c,rfl,hc0⟩:=id hops;have HC:=aa hc0;have hgl:=hS.1.lt;clear hS FQ hok hops hc0;show Calls Tryz.prog 212 #[.pointer (some ⟨g,0,none⟩),.agg #[.int .i64 se,.slice A ops.length c,.bool dn]] W _;go_enter Tryz.func212,Tryz.ntmps212;go_wp2;go_loopw [10] (λi wr=>dz (λk=>k=g) W wr/\∃k:Nat,k<=ops.length/\i=.int .i64 k/\Hid (∃s',follow s (ops.take k)=some s'/\qR wr g s')) (λi _=>ops.length-(intOf i).toNat)
 case atStart=>exact⟨(dz.refl _ _).alloc _,0,aT _,rfl,s,rfl,HS.out.ext ((af _).alloc _)⟩
 case round=>
  clear HS;obtain⟨hb,k,hk,rfl,HW⟩:=hrel;by_cases hlt:k<ops.length
  ·obtain⟨b,off,rfl,hbl,hcell⟩:=HC.out (by omega);have hne:=HF.out _ _ _ rfl (by omega);simp only at hne;obtain⟨o,ho⟩:=ah hlt;have c0:=hb.cell (hcell k o ho 0 (by omega)) hne;have c1:=hb.cell (hcell k o ho 1 (by omega)) hne;have c2:=hb.cell (hcell k o ho 2 (by omega)) hne;simp only[encOpr,fE]at c0 c1 c2;have yZ:=fu.out o (aM ho);have hkey:=jE yZ;obtain⟨s',hs',hst⟩:=HW.out;have HST:=aa hst;have HN:Hid (follow s (ops.take (k+1))=if jQ o then some (s'.put o.key o.value) else if s' o.key=o.value then some s' else none):=by show _ = _;rw[ak ho,Eb,hs',Option.bind_some]
   obtain⟨kd,ky,vl⟩:=o;simp only at hkey c0 c1 c2;obtain⟨q,rfl⟩:=dZ hkey.1;have hq3:(q:Int)<3:=by omega
   have hq0:(0:Int)<=(q:Int):=by omega
   have hgw:g<wr.heap.size:=hst.1.lt;have hwz:∀a b c,(gI a b c wr)=(gI a b c wr):=λ_ _ _=>rfl;clear hwz yZ hkey hcell ho hs' hst HW hne;obtain⟨wo,rfl⟩:∃wo:World,wo=wr:=⟨_,rfl⟩;have HX:=aa ((af wo).alloc (.cells #[.int .i64 kd,.int .i64 (q:Int),.int .i64 vl] 67))
   cases hw:jQ ⟨kd,(q:Int),vl⟩ with
   | true=>
     have vT:Hid (follow s (ops.take (k+1))=some (s'.put (q:Int) vl)):=by show _ = _;rw[HN.out,hw];rfl
     have HWV:Hid ((kd==2)=true):=hw;clear HN hw;have OJ:q<3:=by omega
     go_wp2_with (go_at_call 87;refine(gI _ _ _ _).mono ?_;rw[HWV.out];rintro e w4 ⟨rfl,hw4⟩;have X0:Ext (wo.alloc (.cells #[.int .i64 kd,.int .i64 (q:Int),.int .i64 vl] 67)) w4:=(by rw[<-hw4];exact(af _).alloc _);clear hw4;have JO:=aa (HX.out.trans X0);have v1:=X0.cell (p:=⟨wo.heap.size,1,none⟩) (v:=.int .i64 (q:Int)) (by go_cell);have v2:=X0.cell (p:=⟨wo.heap.size,2,none⟩) (v:=.int .i64 vl) (by go_cell);have v3:=(HST.out.ext JO.out).2 q OJ;have v4:=(HST.out.1.ext JO.out).free q;clear X0)
     clear c0 c1 c2;have u1:({ w4 with drawn:=w4.drawn+1 }:World).cell? ⟨wo.heap.size,1,none⟩=some (.int .i64 (q:Int)):=v1;have u2:({ w4 with drawn:=w4.drawn+1 }:World).cell? ⟨wo.heap.size,2,none⟩=some (.int .i64 vl):=v2;go_still_tail 6,(by kernel_rfl)
     change wpList _ _ _ _ _ w4.drew;clear u1 u2;go_wp2;have X:=JO.out.drew;have FD:=aa ((HST.out.ext X).put (q:=q) OJ vl);go_roundw;case rel=>exact⟨(hb.ext X).setCell (.inl rfl) _,k+1,by omega,by go_num,_,vT.out,FD.out⟩
     case measure=>simp[intOf];omega
   | false=>
     have HWV:Hid ((kd==2)=false):=hw;have OJ:q<3:=by omega
     obtain⟨y,hy⟩:∃y,s' (q:Int)=y:=⟨_,rfl⟩;have vT:Hid (follow s (ops.take (k+1))=if y=vl then some s' else none):=by show _ = _;rw[HN.out,hw,<-hy];rfl
     have HY:=aa hy;clear HN hw hy;by_cases hyv:y=vl
     ·have hd:(y != vl)=false:=by simp[hyv]
      have V6:Hid (follow s (ops.take (k+1))=some s'):=by show _ = _;rw[vT.out,aj hyv]
      clear hyv;go_wp2_with (go_at_call 87;refine(gI _ _ _ _).mono ?_;rw[HWV.out];rintro e w4 ⟨rfl,hw4⟩;have X0:Ext (wo.alloc (.cells #[.int .i64 kd,.int .i64 (q:Int),.int .i64 vl] 67)) w4:=(by rw[<-hw4];exact(af _).alloc _);clear hw4;have JO:=aa (HX.out.trans X0);have v1:=X0.cell (p:=⟨wo.heap.size,1,none⟩) (v:=.int .i64 (q:Int)) (by go_cell);have v2:=X0.cell (p:=⟨wo.heap.size,2,none⟩) (v:=.int .i64 vl) (by go_cell);have v3:=(HST.out.ext JO.out).2 q OJ;rw[HY.out]at v3;clear X0)
      clear c0 c1 c2;go_region_held3 (λV=>V.cell? ⟨wo.heap.size,1,none⟩=some (.int .i64 (q:Int))/\V.cell? ⟨wo.heap.size,2,none⟩=some (.int .i64 vl)/\V.cell? ⟨g,q,none⟩=some (.int .i64 y)) (go_keep) (fail)
      clear v1 v2 v3;go_wp2;have X:=JO.out.drew;go_roundw;case rel=>exact⟨hb.ext X,k+1,by omega,by go_num,_,V6.out,HST.out.ext X⟩
      case measure=>simp[intOf];omega
     ·have hd:(y != vl)=true:=by simp[hyv]
      have V6:Hid (follow s ops=none):=Iu (k:=k+1) (by rw[vT.out,au hyv]);clear hyv;go_wp2_with (go_at_call 87;refine(gI _ _ _ _).mono ?_;rw[HWV.out];rintro e w4 ⟨rfl,hw4⟩;have X0:Ext (wo.alloc (.cells #[.int .i64 kd,.int .i64 (q:Int),.int .i64 vl] 67)) w4:=(by rw[<-hw4];exact(af _).alloc _);clear hw4;have JO:=aa (HX.out.trans X0);have v1:=X0.cell (p:=⟨wo.heap.size,1,none⟩) (v:=.int .i64 (q:Int)) (by go_cell);have v2:=X0.cell (p:=⟨wo.heap.size,2,none⟩) (v:=.int .i64 vl) (by go_cell);have v3:=(HST.out.ext JO.out).2 q OJ;rw[HY.out]at v3;clear X0)
      clear c0 c1 c2;go_region_held3 (λV=>V.cell? ⟨wo.heap.size,1,none⟩=some (.int .i64 (q:Int))/\V.cell? ⟨wo.heap.size,2,none⟩=some (.int .i64 vl)/\V.cell? ⟨g,q,none⟩=some (.int .i64 y)) (go_keep) (fail)
      clear v1 v2 v3;go_wp2;go_returns;have X:=JO.out.drew;exact⟨hb.ext X,false,rfl,λs2 h2=>(by rw[V6.out]at h2;cases h2),λ_=>rfl⟩
  ·obtain rfl:k=ops.length:=by omega
   obtain⟨s',hs',hst⟩:=HW.out;rw[bM]at hs';have H1:=aa hs';have H2:=aa hst;clear hs' hst;go_wp2;go_returns;exact⟨hb,true,rfl,λs2 h2=>⟨rfl,by rw[H1.out]at h2;cases h2;exact H2.out⟩,λhn=>by rw[H1.out]at hn;cases hn⟩
def zC(h:List aG)(n:Nat)(o:aV):Bool:=oH o&&(opsOf h n).any λw=>jQ w&&(w.key==o.key&&w.value==o.value)
def tT(h:List aG)(n:Nat)(t:aG):aG:=⟨t.az,t.ops.filter (λo=>!zC h n o),t.done⟩
def om(h:List aG)(n:Nat):List aG:=(h.eraseIdx n).map (tT h n)
def Ph(ops:List aV):List (Int × Int):=(ops.filter jQ).map λo=>(o.key,o.value)
theorem Yl(h:List aG):∀n,(wrsFrom n h).map (·.1)=h.flatMap λt=>Ph t.ops:=by
 induction h with
 | nil=>intro n;rfl
 | cons t h ih=>
   intro n;rw[wrsFrom,rR,ih,agD];congr 1;simp[iC,Ph]
theorem QU(h:List aG)(n:Nat)(t:aG):Ph (tT h n t).ops=Ph t.ops:=by
 unfold Ph tT;rw[List.filter_filter];congr 1;refine List.filter_congr λo _=>?_
 cases hw:jQ o with
 | false=>simp
 | true=>
   have hr:oH o=false:=by simp only[jQ,oH,beq_iff_eq,fU]at hw ⊢;omega
   simp[zC,hr]
theorem NP{α β:Type}(f:α->List β){a b:List α}(h:a.Sublist b):(a.flatMap f).Sublist (b.flatMap f):=by
 induction h with
 | slnil=>simp
 | cons x _ ih=>rw[agD];exact ih.trans (List.sublist_append_right _ _)
 | cons_cons x _ ih=>rw[agD,agD];exact(List.Sublist.refl _).append ih
theorem GQ{h:List aG}(hok:aD h=true)(n:Nat):aD (om h n)=true:=by
 unfold aD at hok ⊢;simp only[dh,rU,kT]at hok ⊢;obtain⟨⟨h1,h2⟩,h3⟩:=hok;refine⟨⟨?_,λt ht=>?_⟩,?_⟩
 ·unfold om;rw[dX,agE]
  split<;>omega
 ·unfold om at ht;obtain⟨u,hu,rfl⟩:=fV.1 ht;have hok:=h2 u (List.mem_of_mem_eraseIdx hu);unfold dG at hok ⊢;simp only[dh,rU,kT]at hok ⊢;refine⟨⟨hok.1.1,aX (mO _ _) hok.1.2⟩,λo ho=>hok.2 o ((nT.1 ho).1)⟩
 ·unfold kH at h3;have h3:=of_decide_eq_true h3;refine EX ?_;unfold Da at h3 ⊢;rw[Yl]at h3 ⊢;unfold om;rw[List.flatMap_map];simp only[QU];exact h3.sublist (NP _ (List.eraseIdx_sublist _ _))
