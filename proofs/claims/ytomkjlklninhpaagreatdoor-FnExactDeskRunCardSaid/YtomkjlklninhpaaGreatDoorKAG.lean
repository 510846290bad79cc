/- Lemmas. -/
import Derived.Test.YtomkjlklninhpaaGreatDoorKAC
import Derived.RangeFuncNested
import Derived.RangeFuncBound
import Derived.RangeFuncCalls
import Derived.RangeFuncLeaves
import Derived.RangeFuncBox
import Derived.Shelf.Abstract
import Derived.Shelf.RegionOpen
import Derived.OwnWalkIn
import Derived.TacticsInMore
import Derived.LoopNIn
import Derived.LoopIn
import Derived.Sort.BigQuietIn
import Derived.Maps.AppendAt
import Derived.Orders
import Derived.BigCall
import Derived.Laws.PanicsMore
import Derived.StillTailTactics
import Derived.BigRegion
import Derived.RangeFuncWrites
set_option maxHeartbeats 16000000
set_option maxRecDepth 8000
set_option linter.all false
namespace Go.Proofs.YtomkjlklninhpaaGreatDoor
open Go.RowKit
section
def vT(n₀ lo hi:Nat)(W W':World):Prop:=Below n₀ W W'/\∀k,lo<=k->k<hi->W'.heap[k]? =W.heap[k]?
theorem VZ{n₀ lo hi:Nat}{A B C:World}(h:vT n₀ lo hi A B)(k:vT n₀ lo hi B C):vT n₀ lo hi A C:=
 ⟨h.1.trans k.1,fun i h1 h2=>(k.2 i h1 h2).trans (h.2 i h1 h2)⟩
theorem Xl{n₀ lo hi:Nat}{w:World}(hn:n₀<=w.heap.size)(hh:hi<=w.heap.size)(W:World)(l:Nat)(o o':Obj)(hl:w.heap.size<=l)(h:W.heap[l]? =some o)(h1:o.isCells=false)(h2:o.isWalk=false):vT n₀ lo hi W (W.putObj l o'):=
 ⟨belowK_b hn W l o o' hl h h1 h2,fun k _ hk=>World.putObj_heap_other (by omega)⟩
theorem aL{W W':World}{B:Nat}{t:TypeId}{v:Value}(h:Boxed W B t v)(hb:Ext W W'):Boxed W' B t v:=(Below.block hb B h.lt).trans h
theorem oL{W W':World}(h:Ext W W'):KeepsOthers W W':=⟨h.size,fun k _ hk _=>(Below.block h k (Array.getElem?_eq_some_iff.1 hk).1).trans hk⟩
theorem Kv(W:World)(a:Addr)(v:Value):W.grownBy (W.setCell a v) (some a.block):=
 ⟨rfl,rfl,rfl,(KeepsWalks.setCell W _ v).size,fun k _ hk=>Below.heap_setCell _ _ _ k (fun e=>hk (by rw[e]))⟩
theorem jf{W:World}{B:Nat}{t:TypeId}{v:Value}(h:Boxed W B t v){a:Addr}(ha:a.block≠B)(u:Value):Boxed (W.setCell a u) B t v:=h.kept (Kv W a u) (fun e=>ha (by cases e;rfl))
theorem Sg(w:World)(l:List Value)(t:TypeId)(k:Nat)(hk:w.heap.size=k):∀j u,l[j]? =some u->(w.alloc (.cells l.toArray t)).cell? ((⟨k,0,none⟩:Addr).add j)=some u:=by
 subst hk;intro j u hj;have hadd:(⟨w.heap.size,0,none⟩:Addr).add j=⟨w.heap.size,j,none⟩:=by unfold Addr.add;split<;>simp_all
 rw[hadd,cell_of_row _ _ j _ t (0,0) (heap_alloc_new w _)];simpa using hj
def Halt(p:Prop):Prop:=p
theorem halt{p:Prop}(h:Halt p):p:=h
theorem Halt.go{p:Prop}(h:p):Halt p:=h
section
variable{F:Fence}{n:Nat}{P:Program}{ops:Array Oper}{C:World->Prop}
def tC(o:Oper):Bool:=match o.op with | .defer _=>false|_=>true
theorem PN{o:Oper}(h:tC o=true):∀c,o.op≠.defer c:=fun c e=>by simp[tC,e]at h
end
theorem gY{P:Program}(t e:TypeId){z:Value}{s b:Nat}(ht:P.underlying t=some (.slice e))(h:(P.info? e).map (fun i=>(i.zero,i.size,i.bytes))=some (some z,s,b))(n:Nat)(hb:b*n<=281474976710656)(h63:n<=9223372036854775807)(w:World) :
 (Instr.makeSlice t (.int .i64 0) (.int .i64 (n:Int))).run P w=.ok (.slice (some ⟨w.heap.size,0,none⟩) 0 n) (w.alloc (.cells (madeCells z.cells (n*s)) e)):=by
 obtain⟨i,hi,hz,hs,hby⟩:=oq h;have hb':(i.bytes:Int)*(n:Int)<=281474976710656:=by
  have h:((i.bytes*n:Nat):Int)<=281474976710656:=by rw[hby];omega
  rwa [Int.natCast_mul]at h
 have hr:=run_make (P:=P) w t e i z ht hi hz .i64 .i64 0 n (by omega) (by omega) hb' (by omega);simp only[Int.toNat_natCast]at hr;rw[hr,hs];rfl
end
section
section
variable{P:Program}{ops:Array Oper}
def MV(listed:Array Bool)(n:Nat):Nat:=(List.range n).countP fun i=>listed.getD i true==false
theorem AO(listed:Array Bool)(n:Nat):MV listed (n+1)=MV listed n+if listed.getD n true=false then 1 else 0:=by unfold MV;rw[List.range_succ,List.countP_append,List.countP_singleton];simp
theorem I6{listed:Array Bool}{i:Nat}(d:Bool)(h:i<listed.size):(listed.setIfInBounds i true).getD i d=true:=by simp[Array.getD,h]
theorem XU{listed:Array Bool}{i:Nat}(hi:listed.getD i true=false):∀n,i<n->MV listed n=MV (listed.setIfInBounds i true) n+1:=by
 have hs:i<listed.size:=by
  rcases Nat.lt_or_ge i listed.size with h|h
  ·exact h
  ·simp[Array.getD,Nat.not_lt.2 h]at hi
 have hlow:∀n,n<=i->MV listed n=MV (listed.setIfInBounds i true) n:=by
  intro n
  induction n with
  | zero=>intro _;rfl
  | succ n ih=>
    intro hn;rw[AO,AO,ih (by omega),getD_set_ne true (by omega)]
 intro n
 induction n with
 | zero=>intro h;omega
 | succ n ih=>
   intro hn;rw[AO,AO];by_cases e:i=n
   ·subst e;rw[hi,I6 true hs,hlow i (Nat.le_refl _)];simp
   ·rw[ih (by omega),getD_set_ne true e];omega
theorem OY{listed:Array Bool}{n:Nat}(h:MV listed n=0){i:Nat}(hi:i<n):listed.getD i true=true:=by
 unfold MV at h;rw[List.countP_eq_zero]at h
 have:=h i (by simpa using hi)
 simpa using this
theorem WM{p:Nat->Prop}(i:Nat)(h:p i):∃j,j<=i/\p j/\∀k,k<j->¬p k:=by
 induction i using Nat.strongRecOn with
 | _ i ih=>
   by_cases hx:∃k,k<i/\p k
   ·obtain⟨k,hk,hp⟩:=hx;obtain⟨j,hj,h1,h2⟩:=ih k hk hp;exact⟨j,by omega,h1,h2⟩
   ·exact⟨i,Nat.le_refl _,h,fun k hk hp=>hx ⟨k,hk,hp⟩⟩
theorem Pw{listed:Array Bool}(hback:∀i o,ops[i]? =some o->∀e∈o.after,Region.binds .any e=true->e.on<i)(hn:MV listed ops.size≠0)(hsz:listed.size=ops.size):Region.ready .any ops listed≠[]:=by
 have:∃i,i<ops.size/\listed.getD i true=false:=by
  apply Classical.byContradiction;intro hx;apply hn;unfold MV;rw[List.countP_eq_zero];intro i hi;simp only[List.mem_range]at hi
  cases hg:listed.getD i true with
  | true=>simp
  | false=>exact absurd ⟨i,hi,hg⟩ hx
 obtain⟨i,hi⟩:=this;obtain⟨j,hj,h1,h2⟩:=WM (p:=fun i=>i<ops.size/\listed.getD i true=false) i hi;intro he;have hm:j∈Region.ready .any ops listed:=by
  refine mem_ready.2 ⟨h1.2,ops[j],by simp[h1.1],fun e hee hb=>?_⟩;have hlt:=hback j ops[j] (by simp[h1.1]) e hee hb;have hnp:=h2 e.on hlt
  cases hg:listed.getD e.on true with
  | true=>
    simp only[Array.getD]at hg ⊢;split at hg
    ·rename_i h;simp[h]at hg ⊢;exact hg
    ·rename_i h;omega
  | false=>exact absurd ⟨by omega,hg⟩ hnp
 rw[he]at hm;cases hm
end
end
section
section
variable{P:Program}{ops:Array Oper}
end
end
section
section
variable{P:Program}{o:Oper}{a:Act}{w:World}{φ:Value->World->Prop}{x y:Operand}{p q:Int}{T U:TypeId}
end
end
section
section
variable{P:Program}{o:Oper}{a:Act}{w:World}{φ:Value->World->Prop}
end
end
section
section
variable{P:Program}{α:Type}{t e:TypeId}{m b:Nat}{z:Value}{enc:α->Nat->Value}{xs:List α}{A:Option Addr}{n c:Nat}
def part{α:Type}(xs:List α)(lo hi:Nat):List α:=(xs.take hi).drop lo
theorem VI{xs:List α}{lo hi i:Nat}:(part xs lo hi)[i]? =if lo+i<hi then xs[lo+i]? else none:=by rw[part,List.getElem?_drop,List.getElem?_take]
theorem qd{xs:List α}{lo hi:Nat}(hh:hi<=xs.length):(part xs lo hi).length=hi-lo:=by rw[part,List.length_drop,List.length_take,Nat.min_eq_left hh]
theorem aF.part{w:World}(h:aF m enc w (.slice A n c) xs)(lo hi:Nat)(hlo:lo<=hi)(hhi:hi<=xs.length)(hc:xs.length<=c) :
 aF m enc w (.slice (if c=lo then A else A.map (·.add (lo*m))) (hi-lo) (c-lo)) (part xs lo hi)/\∀b0,Own b0 w (.slice A n c)->Own b0 w (.slice (if c=lo then A else A.map (·.add (lo*m))) (hi-lo) (c-lo)):=by
 obtain⟨A',c',hA,hcell⟩:=h;injection hA with e1 e2 e3;subst e1 e2 e3;have hadd:∀(b off:Nat) (n:Nat),(⟨b,off,none⟩:Addr).add n=⟨b,off+n,none⟩:=fun b off n=>by
  unfold Addr.add;split
  ·rename_i h;rw[h];rfl
  ·rfl
 constructor
 ·refine⟨_,_,by rw[qd hhi],fun hn=>?_⟩;rw[qd hhi]at hn;obtain⟨b,off,rfl,hlt,hcl⟩:=hcell (by omega);rw[if_neg (by omega)];refine⟨b,off+lo*m,by rw[Option.map_some,hadd],hlt,fun i x hx j hj=>?_⟩;rw[VI]at hx;split at hx
  ·have:=hcl (lo+i) x hx j hj
   rw[Nat.add_mul]at this;rw[<-this];congr 2;omega
  ·cases hx
 ·intro b0 ho a n' c' hv hn;injection hv with e1 e2 e3;subst e2;obtain⟨b,off,rfl,hlt,hcl⟩:=hcell (by omega)
  have:=ho ⟨b,off,none⟩ _ _ rfl (by omega)
  rw[if_neg (by omega),Option.map_some,hadd]at e1;injection e1 with e1;subst e1;exact this
theorem mh(ht:P.underlying t=some (.slice e))(hinfo:(P.info? e).map (fun i=>(i.zero,i.size,i.bytes))=some (some z,m,b))(lo:Nat)(hlo:lo<=n)(W:World) :
 (Instr.slice t (.slice A n c) (some (.int .i64 (lo:Int))) none none).run P W=.ok (.slice (if c=lo then A else A.map (·.add (lo*m))) (n-lo) (c-lo)) W:=by
 obtain⟨i,hi',hz,hs,hby⟩:=oq hinfo;subst hs;simp[Instr.slice,run_underlying ht,Instr.sliceBounds,Instr.sliceBound,asIntOf,sizeOf,typeInfo,hi',hlo]
theorem mR(ht:P.underlying t=some (.slice e))(hinfo:(P.info? e).map (fun i=>(i.zero,i.size,i.bytes))=some (some z,m,b))(hi:Nat)(hhi:hi<=c)(W:World) :
 (Instr.slice t (.slice A n c) none (some (.int .i64 (hi:Int))) none).run P W=.ok (.slice (if c=0 then A else A.map (·.add (0*m))) (hi-0) (c-0)) W:=by
 obtain⟨i,hi',hz,hs,hby⟩:=oq hinfo;subst hs;simp[Instr.slice,run_underlying ht,Instr.sliceBounds,Instr.sliceBound,asIntOf,sizeOf,typeInfo,hi',hhi]
end
theorem Row.lit{α:Type}{m:Nat}{enc:α->Nat->Value}(w:World)(cs:Array Value)(T:TypeId)(xs:List α)(h:cs.toList=xs.flatMap (aI m enc))(hn:xs.length<=4194304):Row T m enc w.heap.size (w.alloc (.cells cs T)) (.slice (some ⟨w.heap.size,0,none⟩) xs.length xs.length) xs:=by
 have hs:cs.size=xs.length*m:=by rw[<-Array.length_toList,h,ji]
 refine⟨ji xs,.inr ⟨w.heap.size,xs.length,cs,rfl,Nat.le_refl _,heap_alloc_new w _,Nat.le_refl _,by simp only[maxLen];omega,hs,?_⟩⟩;rw[List.take_of_length_le (by rw[Array.length_toList,hs];exact Nat.le_refl _),h]
end
section
def Ri(Q:Exit->Act->World->Prop)(T:Act->World->Prop):Exit->Act->World->Prop
 | .normal,a,w=>T a w
 | e,a,w=>Q e a w
section
variable{P:Program}{ops:Array Oper}{Q:Exit->Act->World->Prop}{T:Act->World->Prop}
theorem Vp{o:Oper}{a:Act}{w:World}{K:Act->World->Prop}(hh:o.wp P a w K (Ri Q T)):o.wp P a w K Q:=by
 unfold Oper.wp at *;generalize (execOp a.eval o).run P w=r at *
 cases r with
 | ok n w'=>
   cases n<;>simp only[Oper.upon]at hh ⊢ <;>
    first
     | exact hh
     | exact Calls.mono hh (fun e w'' he=>by cases e<;>exact he)
 | halt x w'=>cases x<;>simp only[Oper.upon]at hh ⊢<;>exact hh
def splitB(ops:Array Oper)(n:Nat):Bool:=
 decide (n<ops.size)&&ops.toList.all (fun o=>o.guard.isNone) &&
 ((List.range ops.size).all fun i=>match ops[i]? with|some o=>o.after.all fun e=>!Region.binds .any e || decide (e.on<i)|none=>true) &&
 Region.sinkB .any ops n&&Region.chainB .any ops n&&Region.seqB .any ops (ops.size-n) n (Array.replicate n true++Array.replicate (ops.size-n) false)
theorem getD_extract{L:Array Bool}{n i:Nat}(hi:i<n)(d:Bool):(L.extract 0 n).getD i d=L.getD i d:=by
 simp only[Array.getD_eq_getD_getElem?];rw[Array.getElem?_extract];by_cases h:i<L.size
 ·rw[if_pos (by omega)];simp
 ·rw[if_neg (by omega),Array.getElem?_eq_none (by omega)]
theorem extract_set{L:Array Bool}{n i:Nat}(hi:i<n):(L.setIfInBounds i true).extract 0 n=(L.extract 0 n).setIfInBounds i true:=by
 apply Array.ext_getElem?;intro j;rw[Array.getElem?_extract,Array.getElem?_setIfInBounds,Array.getElem?_setIfInBounds,Array.getElem?_extract];simp only[Array.size_setIfInBounds,Array.size_extract,Nat.zero_add];by_cases hj:i=j
 ·subst hj;by_cases hs:i<L.size
  ·simp[hs,show i<min n L.size by omega]
  ·simp[hs,show ¬i<min n L.size by omega]
 ·simp[hj]
theorem Ni{n g:Nat}{l:List Oper}(hl:l.toArray=ops)(hg:g=ops.size-n)(hB:splitB ops n=true) :
 ∀(f:Nat) (listed:Array Bool) (a:Act) (w:World),HeadInv .any ops n listed->MV listed n=f ->
  wpAny P .any (l.take n).toArray (Ri Q fun a w=>wpList P ops Q (l.drop n) a w) f (listed.extract 0 n) a w->wpAny P .any ops Q (f+g) listed a w:=by
 simp only[splitB,Bool.and_eq_true,decide_eq_true_eq]at hB;obtain⟨⟨⟨⟨⟨hn,hgd⟩,hb⟩,hs⟩,hc⟩,hq⟩:=hB;have hsz:ops.size=l.length:=by rw[<-hl];simp
 have hback:∀i o,ops[i]? =some o->∀e∈o.after,Region.binds .any e=true->e.on<i:=fun i o ho e he hbi=>by have hi:i<ops.size:=(Array.getElem?_eq_some_iff.1 ho).1;have h1:=List.all_eq_true.1 hb i (by simpa using hi);rw[ho]at h1;simp only at h1;rw[Array.all_eq_true_iff_forall_mem]at h1;have h2:=h1 e he;rw[hbi]at h2;simpa using h2
 have hhead:∀i,i<n->(l.take n).toArray[i]? =ops[i]?:=fun i hi=>by rw[<-hl];simp[List.getElem?_take,hi]
 intro f
 induction f with
 | zero=>
   intro listed a w inv hu h;have hlist:listed=Array.replicate n true++Array.replicate (ops.size-n) false:=by
    apply Array.ext
    ·rw[inv.size];simp;omega
    ·intro i h1 h2;rw[Array.getElem_append];split
     ·rename_i hi;have hi:i<n:=by simpa using hi
      have:=OY hu hi
      simp[Array.getD,h1]at this;simp[this]
     ·rename_i hi;have hi:n<=i:=by simpa using hi
      have:=inv.tail i hi (by rw[<-inv.size];exact h1)
      simp[Array.getD,h1]at this;simp[this]
   have h2:wpList P ops Q (l.drop n) a w:=h.2
   have:=wpAny_of_seq (md:=.any) (P:=P) (Q':=Q) (l.drop n) n listed a w (fun j=>by rw[<-hl];simp[List.getElem?_drop]) (by rw[List.length_drop,<-hsz,hlist];exact hq) h2
   rw[List.length_drop,<-hsz,<-hg]at this;rw[Nat.zero_add];exact this
 | succ f ih=>
   intro listed a w inv hu h;have hex:∃i,i<n/\listed.getD i true=false:=by
    apply Classical.byContradiction;intro hx
    have:MV listed n=0:=by
     unfold MV;rw[List.countP_eq_zero];intro i hi;simp only[List.mem_range]at hi
     cases hgi:listed.getD i true with
     | true=>simp
     | false=>exact absurd ⟨i,hi,hgi⟩ hx
    omega
   obtain⟨i0,hi0,hl0⟩:=hex;rw[show f+1+g=(f+g)+1 by omega];refine⟨fun he=>?_,fun i hi=>?_⟩
   ·refine absurd he (Pw hback (fun hz=>?_) inv.size)
    have:=OY hz (show i0<ops.size by omega)
    rw[hl0]at this;cases this
   ·have hin:i<n:=by
     rcases Nat.lt_or_ge i n with h'|h'
     ·exact h'
     ·exact absurd hi (tail_waits hs hc hn inv _ i0 rfl hi0 hl0 i h')
    obtain⟨h1,o,ho,hall⟩:=mem_ready.1 hi;have hi':i∈Region.ready .any (l.take n).toArray (listed.extract 0 n):=by refine mem_ready.2 ⟨by rw[getD_extract hin];exact h1,o,by rw[hhead i hin];exact ho,fun e he hbe=>?_⟩;have hlt:=hback i o ho e he hbe;rw[getD_extract (by omega)];exact hall e he hbe
    have hop:=h.2 i hi';have hguard:o.guard=none:=by
     have:=List.all_eq_true.1 hgd o (List.mem_of_getElem? (by simpa using ho))
     simpa using this
    have hset:=inv.set hi hin;have hun:MV (listed.setIfInBounds i true) n=f:=by
     have:=XU h1 n hin
     omega
    have key:∀a' w',wpAny P .any (l.take n).toArray (Ri Q fun a w=>wpList P ops Q (l.drop n) a w) f ((listed.extract 0 n).setIfInBounds i true) a' w'->wpAny P .any ops Q (f+g) (listed.setIfInBounds i true) a' w':=fun a' w' h'=>
     ih _ a' w' hset hun (by rw[extract_set hin];exact h')
    unfold wpOp at hop ⊢;rw[hhead i hin]at hop;simp only[ho,Region.wanted,hguard,if_true]at hop ⊢;rcases hop with hop|⟨h3,h4⟩
    ·exact .inl (Vp (Oper.wp_mono key hop))
    ·exact .inr ⟨h3,h4⟩
theorem oK{id:Nat}{l:List Oper}{a:Act}{w:World}(n:Nat)(S:World->Prop)(hm:P.follows .mixedOrders=true)(hB:splitB l.toArray n=true)
 (h:wpAnyH P .any (l.take n).toArray (Ri Q fun a w=>wpList P l.toArray Q (l.drop n) a w) S n (Array.replicate n false) a w.drew):(Code.region id l.toArray true).wp P Q a w:=by
 have hn:n<l.toArray.size:=by simp only[splitB,Bool.and_eq_true,decide_eq_true_eq]at hB;exact hB.1.1.1.1.1
 refine wp_region_any hm ?_;have inv0:HeadInv .any l.toArray n (Array.replicate l.toArray.size false):=
  ⟨by simp,fun j oj _ hl=>(by rw[getD_replicate_false]at hl;cases hl),fun t _ ht=>getD_in (by simpa using ht) (getD_replicate_false _ _)⟩
 have hu:MV (Array.replicate l.toArray.size false) n=n:=by
  unfold MV
  have:∀i∈List.range n,((Array.replicate l.toArray.size false).getD i true==false)=true:=fun i hi=>by
   have hi:i<n:=by simpa using hi
   rw[getD_in (by simp at hn ⊢;omega) (getD_replicate_false _ _)];rfl
  rw[List.countP_eq_length.2 this,List.length_range]
 have:=Ni (P:=P) (Q:=Q) (ops:=l.toArray) (g:=l.toArray.size-n) rfl rfl hB n (Array.replicate l.toArray.size false) a w.drew inv0 hu (by
  have e:(Array.replicate l.toArray.size false).extract 0 n=Array.replicate n false:=by
   apply Array.ext
   ·simp at hn ⊢;omega
   ·intro i h1 h2;simp
  rw[e];exact wpAny_of_held _ _ _ _ h)
 rw[show n+(l.toArray.size-n)=l.toArray.size by omega]at this;exact this
end
end
def NR(ys:List Int)(i j:Nat):Prop:=∀p q,p<q->q<=i->q≠j->ys.getD p 0<=ys.getD q 0
theorem Ot{ys:List Int}{i t:Nat}{x:Int}(hi:i<ys.length):(ys.set i x).getD t 0=if i=t then x else ys.getD t 0:=by
 rw[List.getD_eq_getElem?_getD,List.getD_eq_getElem?_getD,List.getElem?_set];by_cases e:i=t
 ·subst e;simp[hi]
 ·simp[e]
theorem NR.swap{ys:List Int}{i j:Nat}(h:NR ys i (j+1))(hi:i<ys.length)(hj:j+1<=i)(hlt:ys.getD (j+1) 0<ys.getD j 0):NR ((ys.set (j+1) (ys.getD j 0)).set j (ys.getD (j+1) 0)) i j:=by
 intro p q hpq hq hqj;have e:∀t,((ys.set (j+1) (ys.getD j 0)).set j (ys.getD (j+1) 0)).getD t 0=if j=t then ys.getD (j+1) 0 else if j+1=t then ys.getD j 0 else ys.getD t 0:=fun t=>by rw[Ot (by rw[List.length_set];omega),Ot (by omega)]
 have eq:=e q;rw[if_neg (fun h:j=q=>hqj h.symm)]at eq;rw[e p,eq];clear e eq;by_cases h1:j+1=q
 ·subst h1;rw[if_pos rfl];by_cases h2:j=p
  ·rw[if_pos h2];omega
  ·rw[if_neg h2,if_neg (by omega)];exact h p j (by omega) (by omega) (by omega)
 ·rw[if_neg h1];by_cases h2:j=p
  ·rw[if_pos h2];exact h (j+1) q (by omega) hq (by omega)
  ·rw[if_neg h2];by_cases h3:j+1=p
   ·rw[if_pos h3];exact h j q (by omega) hq (by omega)
   ·rw[if_neg h3];exact h p q hpq hq (by omega)
theorem NR.stop{ys:List Int}{i j:Nat}(h:NR ys i j)(hj:j<=i)(hs:j=0∨ys.getD (j-1) 0<=ys.getD j 0):NR ys i (i+1):=by
 intro p q hpq hq _;by_cases e:q=j
 ·subst e;rcases hs with hs|hs
  ·omega
  ·by_cases e':p=q-1
   ·subst e';exact hs
   ·have:=h p (q-1) (by omega) (by omega) (by omega)
    omega
 ·exact h p q hpq hq e
theorem NR.next{ys:List Int}{i:Nat}(h:NR ys i (i+1)):NR ys (i+1) (i+1):=fun p q hpq hq hne=>h p q hpq (by omega) (by omega)
theorem NR.start(ys:List Int):NR ys 0 1:=fun p q hpq hq _=>by omega
theorem NR.sorted{ys:List Int}{i:Nat}(h:NR ys i (i+1))(hi:ys.length<=i+1):ys.Pairwise (·<=·):=by
 rw[List.pairwise_iff_getElem];intro p q hp hq hpq
 have:=h p q hpq (by omega) (by omega)
 rwa [List.getD_eq_getElem?_getD,List.getD_eq_getElem?_getD,List.getElem?_eq_getElem hp,List.getElem?_eq_getElem hq]at this
theorem swap_perm{ys:List Int}{j:Nat}(hj:j+1<ys.length):((ys.set (j+1) (ys.getD j 0)).set j (ys.getD (j+1) 0)).Perm ys:=by have h:=@List.set_set_perm _ ys (j+1) j hj (by omega);rw[List.getD_eq_getElem?_getD,List.getD_eq_getElem?_getD,List.getElem?_eq_getElem hj,List.getElem?_eq_getElem (show j<ys.length by omega)];exact h
theorem Xk{w:World}{b off n c:Nat}{xs:List Int}{k:Nat}(h:rM encI w (.slice (some ⟨b,off,none⟩) n c) xs)(hk:k<xs.length)(y:Int) :
 rM encI (w.setCell ⟨b,off+k,none⟩ (.int .i64 y)) (.slice (some ⟨b,off,none⟩) n c) (xs.set k y):=by
 obtain⟨A,c',hA,hc⟩:=id h;injection hA with e1 e2 e3;subst e1 e2 e3;obtain⟨b',off',hb,hlt,hcell⟩:=hc (by omega);injection hb with hb;injection hb with e1 e2;subst e1 e2;refine⟨_,_,by rw[List.length_set],fun _=>⟨b,off,rfl,by simpa[World.setCell] using hlt,fun i x hx=>?_⟩⟩;by_cases e:k=i
 ·subst e;rw[List.getElem?_set_self hk]at hx;injection hx with hx;subst hx;obtain⟨x0,hx0⟩:=af hk;exact dx (hcell k x0 hx0) _
 ·rw[List.getElem?_set_ne e]at hx;rw[au (by intro e';injection e' with _ e' _;omega)];exact hcell i x hx
theorem RY{w:World}{A:Option Addr}{n c:Nat}{xs:List Int}(h:rM encI w (.slice A n c) xs):xs.length=n:=by obtain⟨A',c',hA,_⟩:=h;injection hA with _ e _;exact e.symm
theorem RP{xs:List Int}{k:Nat}(h:k<xs.length):xs[k]? =some (xs.getD k 0):=by rw[List.getD_eq_getElem?_getD];simp[h]
theorem wS(x:Int)(w:World):Calls Tryz.prog 289 #[.int .i64 x] w fun e w'=>e=.returned (.bool false)/\w=w':=by
 have hx:(x != x)=false:=by simp
 go_enter Tryz.func289,Tryz.ntmps289;go_wp2;go_returns;exact⟨rfl,rfl⟩
theorem Nh(x y:Int)(w:World):Calls Tryz.prog 277 #[.int .i64 x,.int .i64 y] w fun e w'=>e=.returned (.bool (decide (x<y)))/\w=w':=by
 go_enter Tryz.func277,Tryz.ntmps277;go_wp2_with (go_at_call 289;refine(wS _ _).mono ?_;rintro e w' ⟨rfl,rfl⟩)
 go_returns;exact⟨rfl,rfl⟩
theorem NP{A:Option Addr}{c n:Nat}{xs:List Int}{lo:Nat}(w:World)(h:rM encI w (.slice A n c) xs)(ho:Own lo w (.slice A n c))(hlen:n<=2097152) :
 Calls Tryz.prog 271 #[.slice A n c,.int .i64 0,.int .i64 (n:Int)] w fun e w'=>e=.returned (.tuple #[])/\∃ys,ys.Perm xs/\ys.Pairwise (·<=·)/\rM encI w' (.slice A n c) ys/\Only (.slice A n c) w w':=by
 have H:=aa h;have HO:=aa ho;have hmx:Tryz.prog.follows .mixedOrders=true:=by kernel_rfl
 clear h ho;go_enter Tryz.func271,Tryz.ntmps271;go_wp2;go_loopw [6,7] (fun a _ wr=>∃(i:Nat) (ys:List Int),a=.int .i64 ((i:Int)+1)/\i<=n/\Hid (ys.Perm xs/\NR ys i (i+1))/\Hid (rM encI wr (.slice A n c) ys)/\Hid (Only (.slice A n c) w wr)) (fun a _ _=>n+1-(intOf a).toNat)
 case atStart=>exact⟨0,xs,rfl,Nat.zero_le _,⟨List.Perm.refl _,NR.start xs⟩,H.out,Only.aT (Ext.refl _)⟩
 case round=>
  obtain⟨i,ys,rfl,hi,HP,HS,HN⟩:=hrel;by_cases hlt:i+1<n
  ·go_wp2;go_loopw [7] (fun a wr2=>∃(j:Nat) (zs:List Int),a=.int .i64 (j:Int)/\j<=i+1/\Hid (zs.Perm xs/\NR zs (i+1) j)/\Hid (rM encI wr2 (.slice A n c) zs)/\Hid (Only (.slice A n c) w wr2)) (fun a _=>(intOf a).toNat)
   case atStart=>exact⟨i+1,ys,by simp,Nat.le_refl _,⟨HP.out.1,HP.out.2.next⟩,HS.out,HN.out⟩
   case round=>
    clear HP HS HN;obtain⟨j,zs,rfl,hj,YQ,HS2,tF⟩:=hrel;have hzl:=RY HS2.out;rcases Nat.eq_zero_or_pos j with h0|h0
    ·have hj0:decide (0<j)=false:=by simp[h0]
     have HJ:=aa h0;clear h0;go_wp2;refine aO (by kernel_rfl) (by kernel_rfl) ?_;repeat (go_big_quiet_step ((go_at_call 277;exact nD (Nh _ _ _))))
     refine wpQuiet_nil ?_;intro w1 hb1;go_wp2;go_roundw;case rel=>exact⟨i+1,zs,by go_num,by omega,⟨YQ.out.1,YQ.out.2.stop (by omega) (.inl HJ.out)⟩,HS2.out.ext hb1,tF.out.trans (Only.aT hb1)⟩
     case measure=>simp[intOf];omega
    ·have hj0:decide (0<j)=true:=by simp[h0]
     obtain⟨p,hp⟩:∃p,p+1=j:=⟨j-1,by omega⟩;have hjp:(j:Int)-1=(p:Int):=by omega
     obtain⟨A',c',hA,hcell0⟩:=id HS2.out;injection hA with e1 e2 e3;obtain⟨b,off,hb',hbl,hcell⟩:=hcell0 (by omega);rw[<-e1]at hb';subst hb';obtain⟨y,hy⟩:∃y,zs.getD j 0=y:=⟨_,rfl⟩;obtain⟨x,hx⟩:∃x,zs.getD p 0=x:=⟨_,rfl⟩;have y0:∀e,(over wr e).cell? ⟨b,off+j,none⟩=some (.int .i64 y):=aG (hcell j y (by rw[<-hy];exact RP (by omega)));have x0:∀e,(over wr e).cell? ⟨b,off+p,none⟩=some (.int .i64 x):=aG (hcell p x (by rw[<-hx];exact RP (by omega)));have Y0:=aa (hcell j y (by rw[<-hy];exact RP (by omega)));have X0:=aa (hcell p x (by rw[<-hx];exact RP (by omega)));have hjl:j<n:=by omega
     have hpl:p<n:=by omega
     have HXY:=aa (And.intro hx (And.intro hy hp));clear hcell hcell0 e1 e2 e3 hx hy hp h0;go_wp2;refine aO (by kernel_rfl) (by kernel_rfl) ?_;repeat (go_big_quiet_step ((go_at_call 277;exact nD (Nh _ _ _))))
     refine wpQuiet_nil ?_;intro w1 hb1;by_cases hlt2:y<x
     ·have hd:decide (y<x)=true:=by simpa using hlt2
      have y1:=hb1.cell Y0.out;have x1:=hb1.cell X0.out;simp only[encI]at y1 x1;have hO1:=Own.only HO.out (tF.out.trans (Only.aT hb1));have g1:w1.frozen? ⟨b,off+j,none⟩=false:=hO1.rC (by omega) _;have g2:w1.frozen? ⟨b,off+p,none⟩=false:=hO1.rC (by omega) _;clear y0 x0 hO1;go_wp2_with fail
      go_region
      go_wp2;go_roundw;case rel=>
       obtain⟨hx,hy,hp⟩:=HXY.out;have s1:=Xk (HS2.out.ext hb1) (show j<zs.length by omega) x;have s2:=Xk s1 (k:=p) (by rw[List.length_set];omega) y;have on:∀(W:World) (t:Nat) (u:Value),Only (.slice (some ⟨b,off,none⟩) n c) W (W.setCell ⟨b,t,none⟩ u):=fun W t u=>Only.setCell (a:=⟨b,off,none⟩) (by omega) t u;have hsw:(zs.set j x).set p y=(zs.set (p+1) (zs.getD p 0)).set p (zs.getD (p+1) 0):=by rw[hp,hx,hy]
       refine⟨p,_,rfl,by omega,⟨by rw[hsw];exact(swap_perm (by omega)).trans YQ.out.1,by rw[hsw];exact NR.swap (by rw[hp];exact YQ.out.2) (by omega) (by omega) (by rw[hp,hx,hy];exact hlt2)⟩,s2.ext (Ext.refl _).drew,?_⟩
       exact(((tF.out.trans (Only.aT hb1)).trans (on _ _ _)).trans (on _ _ _)).trans (Only.aT (Ext.refl _).drew)
      case measure=>have:=HXY.out.2.2;simp[intOf];omega
     ·have hd:decide (y<x)=false:=by simpa using hlt2
      have UI:Hid (x<=y):=by show x<=y;omega
      go_wp2;go_roundw;case rel=>
       obtain⟨hx,hy,hp⟩:=HXY.out;exact⟨i+1,zs,by go_num,by omega,⟨YQ.out.1,YQ.out.2.stop (by omega) (.inr (by rw[show j-1=p by omega,hx,hy];exact UI.out))⟩,HS2.out.ext hb1,tF.out.trans (Only.aT hb1)⟩
      case measure=>simp[intOf];omega
  ·have hyl:=RY HS.out;have HF:=aa (HP.out.2.sorted (by omega));have hge:¬((i:Int)+1<(n:Int)):=by omega
   go_wp2;go_end0
   exact⟨rfl,ys,HP.out.1,HF.out,HS.out,HN.out⟩
section
attribute [local go_sem] Oper.semAt_some
theorem UD(n:Nat)(hn:n<=7)(w:World):Calls Tryz.prog 264 #[.int .u64 (n:Int)] w fun e w'=>(∃k:Int,e=.returned (.int .i64 k))/\w=w':=by
 match n,hn with
 | 0,_|1,_|2,_|3,_|4,_|5,_|6,_|7,_=>
   go_enter Tryz.func264,Tryz.ntmps264;go_wp2;go_returns;exact⟨⟨_,rfl⟩,rfl⟩
theorem Nf(n:Nat)(hn:n<=7)(w:World):Calls Tryz.prog 254 #[.int .u64 (n:Int)] w fun e w'=>(∃k:Int,e=.returned (.int .i64 k))/\w=w':=by
 go_enter Tryz.func254,Tryz.ntmps254;go_wp2_with (go_at_call 264;refine(UD n hn _).mono ?_;rintro e w' ⟨⟨k,rfl⟩,rfl⟩)
 go_returns;exact⟨⟨_,rfl⟩,rfl⟩
theorem Vd{A:Option Addr}{c n:Nat}{xs:List Int}{lo:Nat}(k:Int)(w:World)(h:rM encI w (.slice A n c) xs)(ho:Own lo w (.slice A n c))(hlen:n<=7) :
 Calls Tryz.prog 253 #[.slice A n c,.int .i64 0,.int .i64 (n:Int),.int .i64 k] w fun e w'=>e=.returned (.tuple #[])/\∃ys,ys.Perm xs/\ys.Pairwise (·<=·)/\rM encI w' (.slice A n c) ys/\Only (.slice A n c) w w':=by
 have H:=aa h;have HO:=aa ho;clear h ho;go_enter Tryz.func253,Tryz.ntmps253;go_wp2;go_loopw [1,2] (fun a b wr=>a=.int .i64 0/\b=.int .i64 (n:Int)/\wr=w) (fun _ _ _=>0)
 case atStart=>exact⟨rfl,rfl,rfl⟩
 case round=>
  obtain⟨rfl,rfl,rfl⟩:=hrel;go_wp2_with fail
  refine(NP _ H.out HO.out (by omega)).mono ?_
  rintro e w1 ⟨rfl,HY⟩;have HYY:=aa HY;clear HY;go_wp2;go_returns;exact⟨rfl,HYY.out⟩
theorem SI{A:Option Addr}{c n:Nat}{xs:List Int}{lo:Nat}(w:World)(h:rM encI w (.slice A n c) xs)(ho:Own lo w (.slice A n c))(hlen:n<=7) :
 Calls Tryz.prog 225 #[.slice A n c] w fun e w'=>e=.returned (.tuple #[])/\∃ys,ys.Perm xs/\ys.Pairwise (·<=·)/\rM encI w' (.slice A n c) ys/\Only (.slice A n c) w w':=by
 have H:=aa h;have HO:=aa ho;clear h ho;go_enter Tryz.func225,Tryz.ntmps225;go_wp2_with fail
 refine(Nf n hlen _).mono ?_
 rintro e w1 ⟨⟨k,rfl⟩,rfl⟩;go_wp2_with fail
 refine(Vd k _ H.out HO.out hlen).mono ?_
 rintro e w1 ⟨rfl,HY⟩;have HYY:=aa HY;clear HY;go_wp2;go_returns;exact⟨rfl,HYY.out⟩
theorem Qn(n:Nat)(hn:1<=n)(l B n₀ cap:Nat)(A:Option Addr)(xs:List Int)(b off:Nat)(hA:0<xs.length->A=some ⟨b,off,none⟩)(hb:0<xs.length->b<n₀)(hlen:xs.length<=2097152)(J Jx:List Int->World->Prop)
 (hY:∀pre x W,J pre W->pre.length<xs.length->YieldAt Fence.wide (n-1) Tryz.prog l #[.int .i64 x] W fun e W'=>
  (e=.returned (.bool true)/\J (pre++[x]) W'/\Below n₀ W W')∨(e=.returned (.bool false)/\Jx (pre++[x]) W'))
 (W:World) (hBs:W.cell? ⟨B,0,none⟩=some (.slice A xs.length cap)) (hc:∀i x,xs[i]? =some x->W.cell? ⟨b,off+i,none⟩=some (encI x)) (h0:J [] W) :
 CallsIn Fence.wide n Tryz.prog 226 #[.func (.yield l) #[] #[],.pointer (some ⟨B,0,none⟩)] W fun e W'=>(∃v,e=.returned v) /\
  ((∃ys,ys=xs/\J ys W')∨(∃pre:List Int,True/\Jx pre W')):=by
 refine callsIn_of_wp Tryz.func226 rfl trivial ?_ rfl;simp only[Tryz.ntmps226,List.size_toArray,List.length_cons,List.length_nil,Nat.reduceAdd,Nat.reduceSub,Array.replicate_succ,Array.replicate_zero,List.push_toArray,List.append_toArray,List.nil_append,List.cons_append];have HC:=aa hc;clear hc
 gi_wp2
 gi_loopw [7] (fun i wr=>∃k:Nat,k<=xs.length/\i=.int .i64 (k:Int)/\Hid (J (xs.take k) wr)/\Hid (Below n₀ W wr)) (fun i _=>xs.length-(intOf i).toNat)
 case atStart=>exact⟨0,Nat.zero_le _,rfl,h0,Below.refl _ _⟩
 case round=>
  obtain⟨k,hk,rfl,hJ,HB⟩:=hrel;by_cases hlt:k<xs.length
  ·obtain rfl:=hA (by omega);replace hb:=hb (by omega);obtain⟨x,hx⟩:=af hlt;have hn1:(xs.take k).length<xs.length:=by rw[List.length_take];omega
   obtain⟨fn,tmps,assign,body,hy,hR⟩:=hY _ x wr hJ.out hn1;have c0:wr.cell? ⟨b,off+k,none⟩=some (.int .i64 x):=(HB.out.cell (p:=⟨b,off+k,none⟩) hb).trans (HC.out k x hx);have HX:=aa hx;clear hx hn1
   gi_wp2
   refine hR.mono ?_;rintro e W3 (⟨rfl,hJ3,hk3⟩|⟨rfl,hJx3⟩)
   ·have HJ3:Hid (J (xs.take (k+1)) W3):=by show J _ _;rw[List.take_add_one,HX.out];exact hJ3
    have HB3:=aa (HB.out.trans hk3);clear hJ3 hk3 hR hy c0
    gi_wp2
    go_roundw;case rel=>exact⟨k+1,by omega,by go_num,HJ3,HB3⟩
    case measure=>simp[intOf];omega
   ·gi_wp2
    refine bodyPost_ret (results_none rfl _ _ _) rfl ?_;exact⟨⟨_,rfl⟩,.inr ⟨_,trivial,hJx3⟩⟩
  ·obtain rfl:k=xs.length:=by omega
   have HE:Hid (J xs wr):=by
    have:=hJ.out
    rwa [List.take_length]at this
   gi_wp2
   go_end0
   exact⟨⟨_,rfl⟩,.inl ⟨_,rfl,HE.out⟩⟩
theorem FU(A:Option Addr)(n c:Nat)(w:World) :
 Calls Tryz.prog 194 #[.slice A n c] w fun e w'=>e=.returned (.func (.func 226) #[] #[.pointer (some ⟨w.heap.size,0,none⟩)])/\w'=w.alloc (.cells #[.slice A n c] 57):=by
 go_enter Tryz.func194,Tryz.ntmps194;go_wp2;go_returns;exact⟨rfl,rfl⟩
def Gs(n₀ B:Nat)(xs:List Int)(w:World):Prop:=
 SeqStopsK Fence.wide 8 Tryz.prog 226 #[.pointer (some ⟨B,0,none⟩)] (fun x:Int=>#[Value.int .i64 x]) (Below n₀) (fun ys=>ys=xs) (fun _=>True) xs.length w
theorem values_stops(B n₀ cap:Nat)(A:Option Addr)(xs:List Int)(w:World)(hB:B<w.heap.size)(hlen:xs.length<=2097152)
 (hBs:w.cell? ⟨B,0,none⟩=some (.slice A xs.length cap)) (b off:Nat) (hA:0<xs.length->A=some ⟨b,off,none⟩) (hb:0<xs.length->b<n₀) (hn₀:n₀<=w.heap.size) (hc:∀i x,xs[i]? =some x->w.cell? ⟨b,off+i,none⟩=some (encI x)):Gs n₀ B xs w:=fun l J Jx W hW _ _ hY h0=>
 Qn 8 (by omega) l B n₀ cap A xs b off hA hb hlen J Jx hY W ((hW.cell (p:=⟨B,0,none⟩) hB).trans hBs)
  (fun i x hx=>(hW.cell (p:=⟨b,off+i,none⟩) (by have:=hb (by have:=(List.getElem?_eq_some_iff.1 hx).1;omega);simp;omega)).trans (hc i x hx)) h0
end
def Yn(B:Nat)(Kp:World->World->Prop)(I Ix:World->Prop)(W:World):Exit->Act->World->Prop
 | .normal,_,W'=>KeepsFrom B W W'/\Kp W W'/\I W'
 | .ret,_,W'=>KeepsFrom B W W'/\Ix W'
 | _,_,_=>False
def VA{α:Type}(n:Nat)(P:Program)(g:Nat)(lb:Array Value)(encs:α->Array Value)(c:Nat)(Kp:World->World->Prop)(S Sp:List α->Prop)(N:Nat)(w:World):Prop:=
 ∀(l:Nat) (J Jx:List α->World->Prop) (W:World),Below w.heap.size w W->(∀s W v,J s W->J s (W.setCell ⟨c,0,none⟩ v)) ->
  (∀pre x W1,J pre W1->pre.length<N->YieldAt Fence.wide (n-1) P l (encs x) W1 fun e W'=>(e=.returned (.bool true)/\J (pre++[x]) W'/\Kp W1 W')∨(e=.returned (.bool false)/\Jx (pre++[x]) W')) ->
  J [] W->CallsIn Fence.wide n P g (#[.func (.yield l) #[] #[]]++lb) W fun e W'=>(∃v,e=.returned v)/\((∃xs,S xs/\J xs W')∨∃pre,Sp pre/\Jx pre W')
theorem NW{α:Type}{P:Program}{n c:Nat}{g:Operand}{ps:Array Tmp}{assign body:Code}{Q:Exit->Act->World->Prop}{a:Act}{w:World}(h1:1<=n){gf:Nat}{lb:Array Value}(hg:a.eval g=.func (.func gf) #[] lb)
 (eg:∀args w,(callFunc gf args).run P w=.ok (.enter gf args) w) {encs:α->Array Value} {Kp:World->World->Prop} {S Sp:List α->Prop} {N:Nat} {w0:World} (hseq:VA (n-1) P gf lb encs c Kp S Sp N w0)
 (hKt:∀{A B C:World},Kp A B->Kp B C->Kp A C) (hKb:∀(W:World) (l:Nat) (o o':Obj),w.heap.size<=l->W.heap[l]? =some o->o.isCells=false->o.isWalk=false->Kp W (W.putObj l o')) (hb0:Below w0.heap.size w0 w) (hc:c<w.heap.size) (hps:∀x,(encs x).size=ps.size)
 (I Ix:List α->World->Prop) (hI:OwnFrom w.heap.size I) (hIx:OwnFrom w.heap.size Ix) (hIc:∀s W v,I s W->I s (W.setCell ⟨c,0,none⟩ v)) (h0:I [] w) (a₁:α->Act)
 (hassign:∀(l:Nat) (x:α) (W:World) (K:Act->World->Prop),K (a₁ x) W->assign.wpIn (Fence.wide.inRound l) (n-1-1) P (Exit.then K (fun _ _ _=>False)) { tmps:=(ps.zip (encs x)).foldl (fun t (p,v)=>t.setIfInBounds p v) a.tmps,defers:=[] } W)
 (hbody:∀(l:Nat) (pre:List α) (x:α) (W:World),I pre W->pre.length<N->body.wpIn (Fence.wide.inRound l) (n-1-1) P (Yn w.heap.size Kp (I (pre++[x])) (Ix (pre++[x])) W) (a₁ x) W)
 (hdone:∀(D:Nat) (xs:List α) (W:World),w.heap.size<=D->S xs->I xs W->W.heap[D]? =some (.deferred (some []))->Q .normal { a with defers:={ target:=.collected D,args:=#[] } :: a.defers } W)
 (hstop:∀(D:Nat) (pre:List α) (W:World),w.heap.size<=D->Sp pre->Ix pre W->W.heap[D]? =some (.deferred (some []))->Code.ret.wpIn Fence.wide n P Q { a with defers:={ target:=.collected D,args:=#[] } :: a.defers } W) :
 (Code.rangeFunc g ps assign body).wpIn Fence.wide n P Q a w:=by
 refine wpIn_rangeFunc ?_;intro fn hfn;obtain⟨rc,hrc⟩:∃rc:LoopState->Option Code->Loop,rc=fun st pe=>{ state:=st,pending:=pe,fn,tmps:=a.tmps,params:=ps,assign,body,defers:=w.heap.size }:=⟨_,rfl⟩
 let Bk:LoopState->Option Code->World->Prop:=fun st pe W=>W.heap[w.heap.size+1]? =some (.loop (rc st pe))/\W.heap[w.heap.size]? =some (.deferred (some []))
 have hput:∀{st st':LoopState} {pe pe':Option Code} {W:World},Bk st pe W->Bk st' pe' (W.putObj (w.heap.size+1) (.loop (rc st' pe'))):=fun h=>
  ⟨World.putObj_heap_same (Array.getElem?_eq_some_iff.1 h.1).1,(World.putObj_heap_other (by omega)).trans h.2⟩
 obtain⟨W1,hW1⟩:∃W1,(w.alloc (.deferred (some []))).alloc (.loop (rc .ready none))=W1:=⟨_,rfl⟩;have hB1:Bk .ready none W1:=by
  subst hW1;refine⟨?_,?_⟩
  ·have:=World.alloc_heap_new (w.alloc (.deferred (some []))) (.loop (rc .ready none))
   rwa [World.size_alloc]at this
  ·exact(Below.heap_alloc _ _ _ (by simp)).trans (World.alloc_heap_new w _)
 have hI1:I [] W1:=hW1▸hI.alloc _ (hI.alloc _ h0);have hb1:Below w0.heap.size w0 W1:=hW1▸hb0.trans ((((Below.refl _ w).alloc (Nat.le_refl _) _).alloc (by simp) _).mono hb0.size);refine⟨w.heap.size+1,[{ target:=.collected w.heap.size,args:=#[] }],W1,{ target:=.fn (.func gf) lb,args:=#[.func (.yield (w.heap.size+1)) #[] #[]] },W1,gf,#[.func (.yield (w.heap.size+1)) #[] #[]]++lb,W1,?_,?_,fun _ _=>trivial,?_,fun _=>h1,?_⟩
 ·rw[<-hW1,hrc];exact run_enterLoop_outer _ _ _ _ _
 ·simp only[resolve,hg];simp[go_sem]
 ·simp[invoke,go_sem,eg]
 refine(hseq (w.heap.size+1) (fun pre W=>I pre W/\Bk .ready none W) (fun pre W=>Ix pre W/\Bk .done (some .ret) W) W1 hb1 (fun s W v h=>⟨hIc s W v h.1,?_,?_⟩) ?_ ⟨hI1,hB1⟩).mono ?_
 ·exact(Below.heap_setCell _ _ _ _ (by simp;omega)).trans h.2.1
 ·exact(Below.heap_setCell _ _ _ _ (by simp;omega)).trans h.2.2
 ·rintro pre x W ⟨hi,hbk⟩ hlen;have hy:=run_yield (P:=P) (args:=encs x) hbk.1 (by rw[hrc];exact hps x);rw[hrc]at hy;refine⟨fn,_,assign,body,hy,roundIn_of_wpIn hfn (hassign _ x W _ ⟨_,run_beginRound hbk.1 (by rw[hrc]),?_⟩)⟩;have acQ:({ rc .ready none with state:=.busy }:Loop)=rc .busy none:=by rw[hrc]
  rw[acQ];have hbk2:Bk .busy none (W.putObj (w.heap.size+1) (.loop (rc .busy none))):=hput hbk;have adG:Kp W (W.putObj (w.heap.size+1) (.loop (rc .busy none))):=hKb _ _ _ _ (by omega) hbk.1 rfl rfl;have hi2:I pre (W.putObj (w.heap.size+1) (.loop (rc .busy none))):=hI.putObj _ hi (by omega) hbk.1 rfl;refine wpIn_mono (hbody _ pre x _ hi2 hlen) ?_;have hkeep:∀W3,KeepsFrom w.heap.size (W.putObj (w.heap.size+1) (.loop (rc .busy none))) W3->Bk .busy none W3:=fun W3 k=>⟨k.same _ _ (by omega) hbk2.1 rfl,k.same _ _ (Nat.le_refl _) hbk2.2 rfl⟩;intro e a3 W3 hp
  cases e with
  | normal=>
    obtain⟨hk3,hkp3,hi3⟩:=hp;have hb3:=hkeep W3 hk3;have hr:=run_endRound (P:=P) none hb3.1;have er:({ rc .busy none with state:=if (none:Option Code).isNone then .ready else .done,pending:=none }:Loop)=rc .ready none:=by rw[hrc];rfl
    rw[er]at hr;exact⟨_,_,hr,.inl ⟨rfl,⟨hI.putObj _ hi3 (by omega) hb3.1 rfl,hput hb3⟩,hKt (hKt adG hkp3) (hKb _ _ _ _ (by omega) hb3.1 rfl rfl)⟩⟩
  | ret=>
    obtain⟨hk3,hi3⟩:=hp;have hb3:=hkeep W3 hk3;have hr:=run_endRound (P:=P) (some .ret) hb3.1;have er:({ rc .busy none with state:=if (some Code.ret).isNone then .ready else .done,pending:=some .ret }:Loop)=rc .done (some .ret):=by rw[hrc];rfl
    rw[er]at hr;exact⟨_,_,hr,.inr ⟨rfl,hIx.putObj _ hi3 (by omega) hb3.1 rfl,hput hb3⟩⟩
  | exit id=>exact hp.elim
  | goto t=>exact hp.elim
  | panic ch=>exact hp.elim
  | outgrown=>exact hp.elim
 ·rintro e W2 ⟨⟨v,rfl⟩,(⟨xs,hS,hi,hbk⟩|⟨pre,hSp,hi,hbk⟩)⟩
  ·have hr:=run_endLoop (P:=P) hbk.1 (by rw[hrc];simp);have ep:(rc .ready none).pending=none:=by rw[hrc]
   rw[ep]at hr;exact⟨none,_,hr,hdone _ xs _ (Nat.le_refl _) hS (hI.putObj _ hi (by omega) hbk.1 rfl) ((World.putObj_heap_other (by omega)).trans hbk.2)⟩
  ·have hr:=run_endLoop (P:=P) hbk.1 (by rw[hrc];simp);have ep:(rc .done (some .ret)).pending=some .ret:=by rw[hrc]
   rw[ep]at hr;exact⟨some .ret,_,hr,hstop _ pre _ (Nat.le_refl _) hSp (hIx.putObj _ hi (by omega) hbk.1 rfl) ((World.putObj_heap_other (by omega)).trans hbk.2)⟩
