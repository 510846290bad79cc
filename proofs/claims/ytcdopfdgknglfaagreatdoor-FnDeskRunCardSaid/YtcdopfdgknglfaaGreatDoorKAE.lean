/- Lemmas. -/
import Derived.Test.YtcdopfdgknglfaaGreatDoorKAA
import Derived.RangeFuncNested
import Derived.RangeFuncBound
import Derived.RangeFuncCalls
import Derived.RangeFuncLeaves
import Derived.RangeFuncBox
import Derived.Shelf.Abstract
import Derived.Shelf.RegionOpen
import Derived.OwnWalkIn
import Derived.TacticsInMore
import Derived.LoopNIn
import Derived.LoopIn
import Derived.Sort.BigQuietIn
import Derived.Maps.AppendAt
import Derived.Orders
import Derived.BigCall
import Derived.StillTailTactics
import Derived.BigRegion
set_option maxHeartbeats 16000000
set_option maxRecDepth 8000
set_option linter.all false
namespace Go.Proofs.YtcdopfdgknglfaaGreatDoor
open Go.RowKit
section
def yx(n₀ lo hi:Nat)(W W':World):Prop:=Below n₀ W W'/\∀k,lo<=k->k<hi->W'.heap[k]? =W.heap[k]?
theorem WE{n₀ lo hi:Nat}{A B C:World}(h:yx n₀ lo hi A B)(k:yx n₀ lo hi B C):yx n₀ lo hi A C:=
 ⟨h.1.trans k.1,λi h1 h2=>(k.2 i h1 h2).trans (h.2 i h1 h2)⟩
theorem XB{n₀ lo hi:Nat}{w:World}(hn:n₀<=w.heap.size)(hh:hi<=w.heap.size)(W:World)(l:Nat)(o o':Obj)(hl:w.heap.size<=l)(h:W.heap[l]? =some o)(h1:o.isCells=false)(h2:o.isWalk=false):yx n₀ lo hi W (W.putObj l o'):=
 ⟨belowK_b hn W l o o' hl h h1 h2,λk _ hk=>World.putObj_heap_other (by omega)⟩
theorem aQ{W W':World}{B:Nat}{t:TypeId}{v:Value}(h:Boxed W B t v)(hb:Ext W W'):Boxed W' B t v:=(Below.block hb B h.lt).trans h
theorem qH{W W':World}(h:Ext W W'):KeepsOthers W W':=⟨h.size,λk _ hk _=>(Below.block h k (fF.1 hk).1).trans hk⟩
theorem NC(W:World)(a:Addr)(v:Value):W.grownBy (W.setCell a v) (some a.block):=
 ⟨rfl,rfl,rfl,(KeepsWalks.setCell W _ v).size,λk _ hk=>Below.heap_setCell _ _ _ k (λe=>hk (by rw[e]))⟩
theorem kr{W:World}{B:Nat}{t:TypeId}{v:Value}(h:Boxed W B t v){a:Addr}(ha:a.block≠B)(u:Value):Boxed (W.setCell a u) B t v:=h.kept (NC W a u) (λe=>ha (by cases e;rfl))
theorem VW(w:World)(l:List Value)(t:TypeId)(k:Nat)(hk:w.heap.size=k):∀j u,l[j]? =some u->(w.alloc (.cells l.toArray t)).cell? ((⟨k,0,none⟩:Addr).add j)=some u:=by
 subst hk;intro j u hj;have hadd:(⟨w.heap.size,0,none⟩:Addr).add j=⟨w.heap.size,j,none⟩:=by unfold Addr.add;split<;>simp_all
 rw[hadd,cell_of_row _ _ j _ t (0,0) (dP w _)];simpa using hj
def Halt(p:Prop):Prop:=p
theorem halt{p:Prop}(h:Halt p):p:=h
theorem Halt.go{p:Prop}(h:p):Halt p:=h
section
variable{F:Fence}{n:Nat}{P:Program}{ops:Array Oper}{C:World->Prop}
def vC(o:Oper):Bool:=match o.op with | .defer _=>false|_=>true
theorem SS{o:Oper}(h:vC o=true):∀c,o.op≠.defer c:=λc e=>by simp[vC,e]at h
end
theorem jo{P:Program}(t e:TypeId){z:Value}{s b:Nat}(ht:P.underlying t=some (.slice e))(h:(P.info? e).map (λi=>(i.zero,i.size,i.bytes))=some (some z,s,b))(n:Nat)(hb:b*n<=281474976710656)(h63:n<=9223372036854775807)(w:World) :
 (Instr.makeSlice t (.int .i64 0) (.int .i64 (n:Int))).run P w=.ok (.slice (some ⟨w.heap.size,0,none⟩) 0 n) (w.alloc (.cells (madeCells z.cells (n*s)) e)):=by
 obtain⟨i,hi,hz,hs,hby⟩:=qo h;have hb':(i.bytes:Int)*(n:Int)<=281474976710656:=by
  have h:((i.bytes*n:Nat):Int)<=281474976710656:=by rw[hby];omega
  rwa [Int.natCast_mul]at h
 have hr:=run_make (P:=P) w t e i z ht hi hz .i64 .i64 0 n (by omega) (by omega) hb' (by omega);simp only[qM]at hr;rw[hr,hs];rfl
end
section
section
variable{P:Program}{ops:Array Oper}
def Oh(listed:Array Bool)(n:Nat):Nat:=(List.range n).countP λi=>listed.getD i true==false
theorem BH(listed:Array Bool)(n:Nat):Oh listed (n+1)=Oh listed n+if listed.getD n true=false then 1 else 0:=by unfold Oh;rw[vU,List.countP_append,List.countP_singleton];simp
theorem J3{listed:Array Bool}{i:Nat}(d:Bool)(h:i<listed.size):(listed.setIfInBounds i true).getD i d=true:=by simp[Array.getD,h]
theorem ZO{listed:Array Bool}{i:Nat}(hi:listed.getD i true=false):∀n,i<n->Oh listed n=Oh (listed.setIfInBounds i true) n+1:=by
 have hs:i<listed.size:=by
  rcases eP i listed.size with h|h
  ·exact h
  ·simp[Array.getD,Nat.not_lt.2 h]at hi
 have hlow:∀n,n<=i->Oh listed n=Oh (listed.setIfInBounds i true) n:=by
  intro n
  induction n with
  | zero=>intro _;rfl
  | succ n ih=>
    intro hn;rw[BH,BH,ih (by omega),getD_set_ne true (by omega)]
 intro n
 induction n with
 | zero=>intro h;omega
 | succ n ih=>
   intro hn;rw[BH,BH];by_cases e:i=n
   ·subst e;rw[hi,J3 true hs,hlow i (av _)];simp
   ·rw[ih (by omega),getD_set_ne true e];omega
theorem Po{listed:Array Bool}{n:Nat}(h:Oh listed n=0){i:Nat}(hi:i<n):listed.getD i true=true:=by
 unfold Oh at h;rw[List.countP_eq_zero]at h
 have:=h i (by simpa using hi)
 simpa using this
theorem YL{p:Nat->Prop}(i:Nat)(h:p i):∃j,j<=i/\p j/\∀k,k<j->¬p k:=by
 induction i using Nat.strongRecOn with
 | _ i ih=>
   by_cases hx:∃k,k<i/\p k
   ·obtain⟨k,hk,hp⟩:=hx;obtain⟨j,hj,h1,h2⟩:=ih k hk hp;exact⟨j,by omega,h1,h2⟩
   ·exact⟨i,av _,h,λk hk hp=>hx ⟨k,hk,hp⟩⟩
theorem SX{listed:Array Bool}(hback:∀i o,ops[i]? =some o->∀e∈o.after,Region.binds .any e=true->e.on<i)(hn:Oh listed ops.size≠0)(hsz:listed.size=ops.size):Region.ready .any ops listed≠[]:=by
 have:∃i,i<ops.size/\listed.getD i true=false:=by
  apply Classical.byContradiction;intro hx;apply hn;unfold Oh;rw[List.countP_eq_zero];intro i hi;simp only[Q6]at hi
  cases hg:listed.getD i true with
  | true=>simp
  | false=>exact absurd ⟨i,hi,hg⟩ hx
 obtain⟨i,hi⟩:=this;obtain⟨j,hj,h1,h2⟩:=YL (p:=λi=>i<ops.size/\listed.getD i true=false) i hi;intro he;have hm:j∈Region.ready .any ops listed:=by
  refine mem_ready.2 ⟨h1.2,ops[j],by simp[h1.1],λe hee hb=>?_⟩;have hlt:=hback j ops[j] (by simp[h1.1]) e hee hb;have hnp:=h2 e.on hlt
  cases hg:listed.getD e.on true with
  | true=>
    simp only[Array.getD]at hg ⊢;split at hg
    ·rename_i h;simp[h]at hg ⊢;exact hg
    ·rename_i h;omega
  | false=>exact absurd ⟨by omega,hg⟩ hnp
 rw[he]at hm;cases hm
end
end
section
section
variable{P:Program}{ops:Array Oper}
end
end
section
section
variable{P:Program}{o:Oper}{a:Act}{w:World}{φ:Value->World->Prop}{x y:Operand}{p q:Int}{T U:TypeId}
end
end
section
section
variable{P:Program}{o:Oper}{a:Act}{w:World}{φ:Value->World->Prop}
end
end
section
def TC(Q:Exit->Act->World->Prop)(T:Act->World->Prop):Exit->Act->World->Prop
 | .normal,a,w=>T a w
 | e,a,w=>Q e a w
section
variable{P:Program}{ops:Array Oper}{Q:Exit->Act->World->Prop}{T:Act->World->Prop}
theorem YN{o:Oper}{a:Act}{w:World}{K:Act->World->Prop}(hh:o.wp P a w K (TC Q T)):o.wp P a w K Q:=by
 unfold Oper.wp at *;generalize (execOp a.eval o).run P w=r at *
 cases r with
 | ok n w'=>
   cases n<;>simp only[Oper.upon]at hh ⊢ <;>
    first
     | exact hh
     | exact Calls.mono hh (λe w'' he=>by cases e<;>exact he)
 | halt x w'=>cases x<;>simp only[Oper.upon]at hh ⊢<;>exact hh
def splitB(ops:Array Oper)(n:Nat):Bool:=
 decide (n<ops.size)&&ops.toList.all (λo=>o.guard.isNone) &&
 ((List.range ops.size).all λi=>match ops[i]? with|some o=>o.after.all λe=>!Region.binds .any e || decide (e.on<i)|none=>true) &&
 Region.sinkB .any ops n&&Region.chainB .any ops n&&Region.seqB .any ops (ops.size-n) n (Array.replicate n true++Array.replicate (ops.size-n) false)
theorem getD_extract{L:Array Bool}{n i:Nat}(hi:i<n)(d:Bool):(L.extract 0 n).getD i d=L.getD i d:=by
 simp only[Array.getD_eq_getD_getElem?];rw[Array.getElem?_extract];by_cases h:i<L.size
 ·rw[aj (by omega)];simp
 ·rw[au (by omega),DR (by omega)]
theorem extract_set{L:Array Bool}{n i:Nat}(hi:i<n):(L.setIfInBounds i true).extract 0 n=(L.extract 0 n).setIfInBounds i true:=by
 apply Array.ext_getElem?;intro j;rw[Array.getElem?_extract,Array.getElem?_setIfInBounds,Array.getElem?_setIfInBounds,Array.getElem?_extract];simp only[agL,Array.size_extract,ig];by_cases hj:i=j
 ·subst hj;by_cases hs:i<L.size
  ·simp[hs,show i<min n L.size by omega]
  ·simp[hs,show ¬i<min n L.size by omega]
 ·simp[hj]
theorem Ql{n g:Nat}{l:List Oper}(hl:l.toArray=ops)(hg:g=ops.size-n)(hB:splitB ops n=true) :
 ∀(f:Nat) (listed:Array Bool) (a:Act) (w:World),HeadInv .any ops n listed->Oh listed n=f ->
  wpAny P .any (l.take n).toArray (TC Q λa w=>wpList P ops Q (l.drop n) a w) f (listed.extract 0 n) a w->wpAny P .any ops Q (f+g) listed a w:=by
 simp only[splitB,dh,rU]at hB;obtain⟨⟨⟨⟨⟨hn,hgd⟩,hb⟩,hs⟩,hc⟩,hq⟩:=hB;have hsz:ops.size=l.length:=by rw[<-hl];simp
 have hback:∀i o,ops[i]? =some o->∀e∈o.after,Region.binds .any e=true->e.on<i:=λi o ho e he hbi=>by have hi:i<ops.size:=(fF.1 ho).1;have h1:=kT.1 hb i (by simpa using hi);rw[ho]at h1;simp only at h1;rw[Array.all_eq_true_iff_forall_mem]at h1;have h2:=h1 e he;rw[hbi]at h2;simpa using h2
 have hhead:∀i,i<n->(l.take n).toArray[i]? =ops[i]?:=λi hi=>by rw[<-hl];simp[nU,hi]
 intro f
 induction f with
 | zero=>
   intro listed a w inv hu h;have hlist:listed=Array.replicate n true++Array.replicate (ops.size-n) false:=by
    apply Array.ext
    ·rw[inv.size];simp;omega
    ·intro i h1 h2;rw[Array.getElem_append];split
     ·rename_i hi;have hi:i<n:=by simpa using hi
      have:=Po hu hi
      simp[Array.getD,h1]at this;simp[this]
     ·rename_i hi;have hi:n<=i:=by simpa using hi
      have:=inv.tail i hi (by rw[<-inv.size];exact h1)
      simp[Array.getD,h1]at this;simp[this]
   have h2:wpList P ops Q (l.drop n) a w:=h.2
   have:=wpAny_of_seq (md:=.any) (P:=P) (Q':=Q) (l.drop n) n listed a w (λj=>by rw[<-hl];simp[Bd]) (by rw[rX,<-hsz,hlist];exact hq) h2
   rw[rX,<-hsz,<-hg]at this;rw[ig];exact this
 | succ f ih=>
   intro listed a w inv hu h;have hex:∃i,i<n/\listed.getD i true=false:=by
    apply Classical.byContradiction;intro hx
    have:Oh listed n=0:=by
     unfold Oh;rw[List.countP_eq_zero];intro i hi;simp only[Q6]at hi
     cases hgi:listed.getD i true with
     | true=>simp
     | false=>exact absurd ⟨i,hi,hgi⟩ hx
    omega
   obtain⟨i0,hi0,hl0⟩:=hex;rw[show f+1+g=(f+g)+1 by omega];refine⟨λhe=>?_,λi hi=>?_⟩
   ·refine absurd he (SX hback (λhz=>?_) inv.size)
    have:=Po hz (show i0<ops.size by omega)
    rw[hl0]at this;cases this
   ·have hin:i<n:=by
     rcases eP i n with h'|h'
     ·exact h'
     ·exact absurd hi (tail_waits hs hc hn inv _ i0 rfl hi0 hl0 i h')
    obtain⟨h1,o,ho,hall⟩:=mem_ready.1 hi;have hi':i∈Region.ready .any (l.take n).toArray (listed.extract 0 n):=by refine mem_ready.2 ⟨by rw[getD_extract hin];exact h1,o,by rw[hhead i hin];exact ho,λe he hbe=>?_⟩;have hlt:=hback i o ho e he hbe;rw[getD_extract (by omega)];exact hall e he hbe
    have hop:=h.2 i hi';have hguard:o.guard=none:=by
     have:=kT.1 hgd o (aM (by simpa using ho))
     simpa using this
    have hset:=inv.set hi hin;have hun:Oh (listed.setIfInBounds i true) n=f:=by
     have:=ZO h1 n hin
     omega
    have key:∀a' w',wpAny P .any (l.take n).toArray (TC Q λa w=>wpList P ops Q (l.drop n) a w) f ((listed.extract 0 n).setIfInBounds i true) a' w'->wpAny P .any ops Q (f+g) (listed.setIfInBounds i true) a' w':=λa' w' h'=>
     ih _ a' w' hset hun (by rw[extract_set hin];exact h')
    unfold wpOp at hop ⊢;rw[hhead i hin]at hop;simp only[ho,Region.wanted,hguard,if_true]at hop ⊢;rcases hop with hop|⟨h3,h4⟩
    ·exact .inl (YN (Oper.wp_mono key hop))
    ·exact .inr ⟨h3,h4⟩
theorem nJ{id:Nat}{l:List Oper}{a:Act}{w:World}(n:Nat)(S:World->Prop)(hm:P.follows .mixedOrders=true)(hB:splitB l.toArray n=true)
 (h:wpAnyH P .any (l.take n).toArray (TC Q λa w=>wpList P l.toArray Q (l.drop n) a w) S n (Array.replicate n false) a w.drew):(Code.region id l.toArray true).wp P Q a w:=by
 have hn:n<l.toArray.size:=by simp only[splitB,dh,rU]at hB;exact hB.1.1.1.1.1
 refine wp_region_any hm ?_;have inv0:HeadInv .any l.toArray n (Array.replicate l.toArray.size false):=
  ⟨by simp,λj oj _ hl=>(by rw[getD_replicate_false]at hl;cases hl),λt _ ht=>getD_in (by simpa using ht) (getD_replicate_false _ _)⟩
 have hu:Oh (Array.replicate l.toArray.size false) n=n:=by
  unfold Oh
  have:∀i∈List.range n,((Array.replicate l.toArray.size false).getD i true==false)=true:=λi hi=>by
   have hi:i<n:=by simpa using hi
   rw[getD_in (by simp at hn ⊢;omega) (getD_replicate_false _ _)];rfl
  rw[List.countP_eq_length.2 this,List.length_range]
 have:=Ql (P:=P) (Q:=Q) (ops:=l.toArray) (g:=l.toArray.size-n) rfl rfl hB n (Array.replicate l.toArray.size false) a w.drew inv0 hu (by
  have e:(Array.replicate l.toArray.size false).extract 0 n=Array.replicate n false:=by
   apply Array.ext
   ·simp at hn ⊢;omega
   ·intro i h1 h2;simp
  rw[e];exact wpAny_of_held _ _ _ _ h)
 rw[show n+(l.toArray.size-n)=l.toArray.size by omega]at this;exact this
end
end
def Oc(ys:List Int)(i j:Nat):Prop:=∀p q,p<q->q<=i->q≠j->ys.getD p 0<=ys.getD q 0
theorem PY{ys:List Int}{i t:Nat}{x:Int}(hi:i<ys.length):(ys.set i x).getD t 0=if i=t then x else ys.getD t 0:=by
 rw[mI,mI,iO];by_cases e:i=t
 ·subst e;simp[hi]
 ·simp[e]
theorem Oc.swap{ys:List Int}{i j:Nat}(h:Oc ys i (j+1))(hi:i<ys.length)(hj:j+1<=i)(hlt:ys.getD (j+1) 0<ys.getD j 0):Oc ((ys.set (j+1) (ys.getD j 0)).set j (ys.getD (j+1) 0)) i j:=by
 intro p q hpq hq hqj;have e:∀t,((ys.set (j+1) (ys.getD j 0)).set j (ys.getD (j+1) 0)).getD t 0=if j=t then ys.getD (j+1) 0 else if j+1=t then ys.getD j 0 else ys.getD t 0:=λt=>by rw[PY (by rw[iE];omega),PY (by omega)]
 have eq:=e q;rw[au (λh:j=q=>hqj h.symm)]at eq;rw[e p,eq];clear e eq;by_cases h1:j+1=q
 ·subst h1;rw[aj rfl];by_cases h2:j=p
  ·rw[aj h2];omega
  ·rw[au h2,au (by omega)];exact h p j (by omega) (by omega) (by omega)
 ·rw[au h1];by_cases h2:j=p
  ·rw[aj h2];exact h (j+1) q (by omega) hq (by omega)
  ·rw[au h2];by_cases h3:j+1=p
   ·rw[aj h3];exact h j q (by omega) hq (by omega)
   ·rw[au h3];exact h p q hpq hq (by omega)
theorem Oc.stop{ys:List Int}{i j:Nat}(h:Oc ys i j)(hj:j<=i)(hs:j=0∨ys.getD (j-1) 0<=ys.getD j 0):Oc ys i (i+1):=by
 intro p q hpq hq _;by_cases e:q=j
 ·subst e;rcases hs with hs|hs
  ·omega
  ·by_cases e':p=q-1
   ·subst e';exact hs
   ·have:=h p (q-1) (by omega) (by omega) (by omega)
    omega
 ·exact h p q hpq hq e
theorem Oc.next{ys:List Int}{i:Nat}(h:Oc ys i (i+1)):Oc ys (i+1) (i+1):=λp q hpq hq hne=>h p q hpq (by omega) (by omega)
theorem Oc.start(ys:List Int):Oc ys 0 1:=λp q hpq hq _=>by omega
theorem Oc.sorted{ys:List Int}{i:Nat}(h:Oc ys i (i+1))(hi:ys.length<=i+1):ys.Pairwise (·<=·):=by
 rw[List.pairwise_iff_getElem];intro p q hp hq hpq
 have:=h p q hpq (by omega) (by omega)
 rwa [mI,mI,dJ hp,dJ hq]at this
theorem swap_perm{ys:List Int}{j:Nat}(hj:j+1<ys.length):((ys.set (j+1) (ys.getD j 0)).set j (ys.getD (j+1) 0)).Perm ys:=by have h:=@List.set_set_perm _ ys (j+1) j hj (by omega);rw[mI,mI,dJ hj,dJ (show j<ys.length by omega)];exact h
theorem YU{w:World}{b off n c:Nat}{xs:List Int}{k:Nat}(h:oZ encI w (.slice (some ⟨b,off,none⟩) n c) xs)(hk:k<xs.length)(y:Int) :
 oZ encI (w.setCell ⟨b,off+k,none⟩ (.int .i64 y)) (.slice (some ⟨b,off,none⟩) n c) (xs.set k y):=by
 obtain⟨A,c',hA,hc⟩:=id h;injection hA with e1 e2 e3;subst e1 e2 e3;obtain⟨b',off',hb,hlt,hcell⟩:=hc (by omega);injection hb with hb;injection hb with e1 e2;subst e1 e2;refine⟨_,_,by rw[iE],λ_=>⟨b,off,rfl,by simpa[World.setCell] using hlt,λi x hx=>?_⟩⟩;by_cases e:k=i
 ·subst e;rw[qJ hk]at hx;injection hx with hx;subst hx;obtain⟨x0,hx0⟩:=ah hk;exact fJ (hcell k x0 hx0) _
 ·rw[G6 e]at hx;rw[aC (by intro e';injection e' with _ e' _;omega)];exact hcell i x hx
theorem Tm{w:World}{A:Option Addr}{n c:Nat}{xs:List Int}(h:oZ encI w (.slice A n c) xs):xs.length=n:=by obtain⟨A',c',hA,_⟩:=h;injection hA with _ e _;exact e.symm
theorem TH{xs:List Int}{k:Nat}(h:k<xs.length):xs[k]? =some (xs.getD k 0):=by rw[mI];simp[h]
theorem yT(x:Int)(w:World):Calls Tryz.prog 286 #[.int .i64 x] w λe w'=>e=.returned (.bool false)/\w=w':=by
 have hx:(x != x)=false:=by simp
 go_enter Tryz.func286,Tryz.ntmps286;go_wp2;go_returns;exact⟨rfl,rfl⟩
theorem Qf(x y:Int)(w:World):Calls Tryz.prog 274 #[.int .i64 x,.int .i64 y] w λe w'=>e=.returned (.bool (decide (x<y)))/\w=w':=by
 go_enter Tryz.func274,Tryz.ntmps274;go_wp2_with (go_at_call 286;refine(yT _ _).mono ?_;rintro e w' ⟨rfl,rfl⟩)
 go_returns;exact⟨rfl,rfl⟩
theorem NZ{A:Option Addr}{c n:Nat}{xs:List Int}{lo:Nat}(w:World)(h:oZ encI w (.slice A n c) xs)(ho:Own lo w (.slice A n c))(hlen:n<=2097152) :
 Calls Tryz.prog 268 #[.slice A n c,.int .i64 0,.int .i64 (n:Int)] w λe w'=>e=.returned (.tuple #[])/\∃ys,ys.Perm xs/\ys.Pairwise (·<=·)/\oZ encI w' (.slice A n c) ys/\Only (.slice A n c) w w':=by
 have H:=aa h;have HO:=aa ho;have hmx:Tryz.prog.follows .mixedOrders=true:=by kernel_rfl
 clear h ho;go_enter Tryz.func268,Tryz.ntmps268;go_wp2;go_loopw [6,7] (λa _ wr=>∃(i:Nat) (ys:List Int),a=.int .i64 ((i:Int)+1)/\i<=n/\Hid (ys.Perm xs/\Oc ys i (i+1))/\Hid (oZ encI wr (.slice A n c) ys)/\Hid (Only (.slice A n c) w wr)) (λa _ _=>n+1-(intOf a).toNat)
 case atStart=>exact⟨0,xs,rfl,aT _,⟨List.Perm.refl _,Oc.start xs⟩,H.out,Only.bK (af _)⟩
 case round=>
  obtain⟨i,ys,rfl,hi,HP,HS,HN⟩:=hrel;by_cases hlt:i+1<n
  ·go_wp2;go_loopw [7] (λa wr2=>∃(j:Nat) (zs:List Int),a=.int .i64 (j:Int)/\j<=i+1/\Hid (zs.Perm xs/\Oc zs (i+1) j)/\Hid (oZ encI wr2 (.slice A n c) zs)/\Hid (Only (.slice A n c) w wr2)) (λa _=>(intOf a).toNat)
   case atStart=>exact⟨i+1,ys,by simp,av _,⟨HP.out.1,HP.out.2.next⟩,HS.out,HN.out⟩
   case round=>
    clear HP HS HN;obtain⟨j,zs,rfl,hj,U9,HS2,vT⟩:=hrel;have hzl:=Tm HS2.out;rcases Nat.eq_zero_or_pos j with h0|h0
    ·have hj0:decide (0<j)=false:=by simp[h0]
     have HJ:=aa h0;clear h0;go_wp2;refine aU (by kernel_rfl) (by kernel_rfl) ?_;repeat (go_big_quiet_step ((go_at_call 274;exact pO (Qf _ _ _))))
     refine j5 ?_;intro w1 hb1;go_wp2;go_roundw;case rel=>exact⟨i+1,zs,by go_num,by omega,⟨U9.out.1,U9.out.2.stop (by omega) (.inl HJ.out)⟩,HS2.out.ext hb1,vT.out.trans (Only.bK hb1)⟩
     case measure=>simp[intOf];omega
    ·have hj0:decide (0<j)=true:=by simp[h0]
     obtain⟨p,hp⟩:∃p,p+1=j:=⟨j-1,by omega⟩;have hjp:(j:Int)-1=(p:Int):=by omega
     obtain⟨A',c',hA,hcell0⟩:=id HS2.out;injection hA with e1 e2 e3;obtain⟨b,off,hb',hbl,hcell⟩:=hcell0 (by omega);rw[<-e1]at hb';subst hb';obtain⟨y,hy⟩:∃y,zs.getD j 0=y:=⟨_,rfl⟩;obtain⟨x,hx⟩:∃x,zs.getD p 0=x:=⟨_,rfl⟩;have y0:∀e,(over wr e).cell? ⟨b,off+j,none⟩=some (.int .i64 y):=aK (hcell j y (by rw[<-hy];exact TH (by omega)));have x0:∀e,(over wr e).cell? ⟨b,off+p,none⟩=some (.int .i64 x):=aK (hcell p x (by rw[<-hx];exact TH (by omega)));have Y0:=aa (hcell j y (by rw[<-hy];exact TH (by omega)));have X0:=aa (hcell p x (by rw[<-hx];exact TH (by omega)));have hjl:j<n:=by omega
     have hpl:p<n:=by omega
     have HXY:=aa (aB hx (aB hy hp));clear hcell hcell0 e1 e2 e3 hx hy hp h0;go_wp2;refine aU (by kernel_rfl) (by kernel_rfl) ?_;repeat (go_big_quiet_step ((go_at_call 274;exact pO (Qf _ _ _))))
     refine j5 ?_;intro w1 hb1;by_cases hlt2:y<x
     ·have hd:decide (y<x)=true:=by simpa using hlt2
      have y1:=hb1.cell Y0.out;have x1:=hb1.cell X0.out;simp only[encI]at y1 x1;have hO1:=Own.only HO.out (vT.out.trans (Only.bK hb1));have g1:w1.frozen? ⟨b,off+j,none⟩=false:=hO1.yH (by omega) _;have g2:w1.frozen? ⟨b,off+p,none⟩=false:=hO1.yH (by omega) _;clear y0 x0 hO1;go_wp2_with fail
      go_region
      go_wp2;go_roundw;case rel=>
       obtain⟨hx,hy,hp⟩:=HXY.out;have s1:=YU (HS2.out.ext hb1) (show j<zs.length by omega) x;have s2:=YU s1 (k:=p) (by rw[iE];omega) y;have on:∀(W:World) (t:Nat) (u:Value),Only (.slice (some ⟨b,off,none⟩) n c) W (W.setCell ⟨b,t,none⟩ u):=λW t u=>Only.setCell (a:=⟨b,off,none⟩) (by omega) t u;have hsw:(zs.set j x).set p y=(zs.set (p+1) (zs.getD p 0)).set p (zs.getD (p+1) 0):=by rw[hp,hx,hy]
       refine⟨p,_,rfl,by omega,⟨by rw[hsw];exact(swap_perm (by omega)).trans U9.out.1,by rw[hsw];exact Oc.swap (by rw[hp];exact U9.out.2) (by omega) (by omega) (by rw[hp,hx,hy];exact hlt2)⟩,s2.ext (af _).drew,?_⟩
       exact(((vT.out.trans (Only.bK hb1)).trans (on _ _ _)).trans (on _ _ _)).trans (Only.bK (af _).drew)
      case measure=>have:=HXY.out.2.2;simp[intOf];omega
     ·have hd:decide (y<x)=false:=by simpa using hlt2
      have Wn:Hid (x<=y):=by show x<=y;omega
      go_wp2;go_roundw;case rel=>
       obtain⟨hx,hy,hp⟩:=HXY.out;exact⟨i+1,zs,by go_num,by omega,⟨U9.out.1,U9.out.2.stop (by omega) (.inr (by rw[show j-1=p by omega,hx,hy];exact Wn.out))⟩,HS2.out.ext hb1,vT.out.trans (Only.bK hb1)⟩
      case measure=>simp[intOf];omega
  ·have hyl:=Tm HS.out;have HF:=aa (HP.out.2.sorted (by omega));have hge:¬((i:Int)+1<(n:Int)):=by omega
   go_wp2;go_end0
   exact⟨rfl,ys,HP.out.1,HF.out,HS.out,HN.out⟩
section
attribute [local go_sem] Oper.semAt_some
theorem Vl(n:Nat)(hn:n<=7)(w:World):Calls Tryz.prog 194 #[.int .u64 (n:Int)] w λe w'=>(∃k:Int,e=.returned (.int .i64 k))/\w=w':=by
 match n,hn with
 | 0,_|1,_|2,_|3,_|4,_|5,_|6,_|7,_=>
   go_enter Tryz.func194,Tryz.ntmps194;go_wp2;go_returns;exact⟨⟨_,rfl⟩,rfl⟩
theorem OY(n:Nat)(hn:n<=7)(w:World):Calls Tryz.prog 256 #[.int .u64 (n:Int)] w λe w'=>(∃k:Int,e=.returned (.int .i64 k))/\w=w':=by
 go_enter Tryz.func256,Tryz.ntmps256;go_wp2_with (go_at_call 194;refine(Vl n hn _).mono ?_;rintro e w' ⟨⟨k,rfl⟩,rfl⟩)
 go_returns;exact⟨⟨_,rfl⟩,rfl⟩
theorem Wy{A:Option Addr}{c n:Nat}{xs:List Int}{lo:Nat}(k:Int)(w:World)(h:oZ encI w (.slice A n c) xs)(ho:Own lo w (.slice A n c))(hlen:n<=7) :
 Calls Tryz.prog 255 #[.slice A n c,.int .i64 0,.int .i64 (n:Int),.int .i64 k] w λe w'=>e=.returned (.tuple #[])/\∃ys,ys.Perm xs/\ys.Pairwise (·<=·)/\oZ encI w' (.slice A n c) ys/\Only (.slice A n c) w w':=by
 have H:=aa h;have HO:=aa ho;clear h ho;go_enter Tryz.func255,Tryz.ntmps255;go_wp2;go_loopw [1,2] (λa b wr=>a=.int .i64 0/\b=.int .i64 (n:Int)/\wr=w) (λ_ _ _=>0)
 case atStart=>exact⟨rfl,rfl,rfl⟩
 case round=>
  obtain⟨rfl,rfl,rfl⟩:=hrel;go_wp2_with fail
  refine(NZ _ H.out HO.out (by omega)).mono ?_
  rintro e w1 ⟨rfl,HY⟩;have HYY:=aa HY;clear HY;go_wp2;go_returns;exact⟨rfl,HYY.out⟩
theorem Vr{A:Option Addr}{c n:Nat}{xs:List Int}{lo:Nat}(w:World)(h:oZ encI w (.slice A n c) xs)(ho:Own lo w (.slice A n c))(hlen:n<=7) :
 Calls Tryz.prog 231 #[.slice A n c] w λe w'=>e=.returned (.tuple #[])/\∃ys,ys.Perm xs/\ys.Pairwise (·<=·)/\oZ encI w' (.slice A n c) ys/\Only (.slice A n c) w w':=by
 have H:=aa h;have HO:=aa ho;clear h ho;go_enter Tryz.func231,Tryz.ntmps231;go_wp2_with fail
 refine(OY n hlen _).mono ?_
 rintro e w1 ⟨⟨k,rfl⟩,rfl⟩;go_wp2_with fail
 refine(Wy k _ H.out HO.out hlen).mono ?_
 rintro e w1 ⟨rfl,HY⟩;have HYY:=aa HY;clear HY;go_wp2;go_returns;exact⟨rfl,HYY.out⟩
theorem SC(n:Nat)(hn:1<=n)(l B n₀ cap:Nat)(A:Option Addr)(xs:List Int)(b off:Nat)(hA:0<xs.length->A=some ⟨b,off,none⟩)(hb:0<xs.length->b<n₀)(hlen:xs.length<=2097152)(J Jx:List Int->World->Prop)
 (hY:∀pre x W,J pre W->pre.length<xs.length->YieldAt Fence.wide (n-1) Tryz.prog l #[.int .i64 x] W λe W'=>
  (e=.returned (.bool true)/\J (pre++[x]) W'/\Below n₀ W W')∨(e=.returned (.bool false)/\Jx (pre++[x]) W'))
 (W:World) (hBs:W.cell? ⟨B,0,none⟩=some (.slice A xs.length cap)) (hc:∀i x,xs[i]? =some x->W.cell? ⟨b,off+i,none⟩=some (encI x)) (h0:J [] W) :
 CallsIn Fence.wide n Tryz.prog 232 #[.func (.yield l) #[] #[],.pointer (some ⟨B,0,none⟩)] W λe W'=>(∃v,e=.returned v) /\
  ((∃ys,ys=xs/\J ys W')∨(∃pre:List Int,True/\Jx pre W')):=by
 refine callsIn_of_wp Tryz.func232 rfl trivial ?_ rfl;simp only[Tryz.ntmps232,List.size_toArray,eO,iJ,Nat.reduceAdd,Nat.reduceSub,Array.replicate_succ,Array.replicate_zero,List.push_toArray,List.append_toArray,List.nil_append,List.cons_append];have HC:=aa hc;clear hc
 gi_wp2
 gi_loopw [7] (λi wr=>∃k:Nat,k<=xs.length/\i=.int .i64 (k:Int)/\Hid (J (xs.take k) wr)/\Hid (Below n₀ W wr)) (λi _=>xs.length-(intOf i).toNat)
 case atStart=>exact⟨0,aT _,rfl,h0,Below.refl _ _⟩
 case round=>
  obtain⟨k,hk,rfl,hJ,HB⟩:=hrel;by_cases hlt:k<xs.length
  ·obtain rfl:=hA (by omega);replace hb:=hb (by omega);obtain⟨x,hx⟩:=ah hlt;have hn1:(xs.take k).length<xs.length:=by rw[eY];omega
   obtain⟨fn,tmps,assign,body,hy,hR⟩:=hY _ x wr hJ.out hn1;have c0:wr.cell? ⟨b,off+k,none⟩=some (.int .i64 x):=(HB.out.cell (p:=⟨b,off+k,none⟩) hb).trans (HC.out k x hx);have HX:=aa hx;clear hx hn1
   gi_wp2
   refine hR.mono ?_;rintro e W3 (⟨rfl,hJ3,hk3⟩|⟨rfl,hJx3⟩)
   ·have HJ3:Hid (J (xs.take (k+1)) W3):=by show J _ _;rw[List.take_add_one,HX.out];exact hJ3
    have HB3:=aa (HB.out.trans hk3);clear hJ3 hk3 hR hy c0
    gi_wp2
    go_roundw;case rel=>exact⟨k+1,by omega,by go_num,HJ3,HB3⟩
    case measure=>simp[intOf];omega
   ·gi_wp2
    refine bodyPost_ret (results_none rfl _ _ _) rfl ?_;exact⟨⟨_,rfl⟩,.inr ⟨_,trivial,hJx3⟩⟩
  ·obtain rfl:k=xs.length:=by omega
   have HE:Hid (J xs wr):=by
    have:=hJ.out
    rwa [bM]at this
   gi_wp2
   go_end0
   exact⟨⟨_,rfl⟩,.inl ⟨_,rfl,HE.out⟩⟩
theorem GR(A:Option Addr)(n c:Nat)(w:World) :
 Calls Tryz.prog 201 #[.slice A n c] w λe w'=>e=.returned (.func (.func 232) #[] #[.pointer (some ⟨w.heap.size,0,none⟩)])/\w'=w.alloc (.cells #[.slice A n c] 56):=by
 go_enter Tryz.func201,Tryz.ntmps201;go_wp2;go_returns;exact⟨rfl,rfl⟩
def IJ(n₀ B:Nat)(xs:List Int)(w:World):Prop:=
 SeqStopsK Fence.wide 8 Tryz.prog 232 #[.pointer (some ⟨B,0,none⟩)] (λx:Int=>#[Value.int .i64 x]) (Below n₀) (λys=>ys=xs) (λ_=>True) xs.length w
theorem values_stops(B n₀ cap:Nat)(A:Option Addr)(xs:List Int)(w:World)(hB:B<w.heap.size)(hlen:xs.length<=2097152)
 (hBs:w.cell? ⟨B,0,none⟩=some (.slice A xs.length cap)) (b off:Nat) (hA:0<xs.length->A=some ⟨b,off,none⟩) (hb:0<xs.length->b<n₀) (hn₀:n₀<=w.heap.size) (hc:∀i x,xs[i]? =some x->w.cell? ⟨b,off+i,none⟩=some (encI x)):IJ n₀ B xs w:=λl J Jx W hW _ _ hY h0=>
 SC 8 (by omega) l B n₀ cap A xs b off hA hb hlen J Jx hY W ((hW.cell (p:=⟨B,0,none⟩) hB).trans hBs)
  (λi x hx=>(hW.cell (p:=⟨b,off+i,none⟩) (by have:=hb (by have:=(bG.1 hx).1;omega);simp;omega)).trans (hc i x hx)) h0
end
