/- Lemmas. -/
import Derived.Test.YtcdopfdgknglfaaGreatDoorCAC
import Derived.RangeFuncNested
import Derived.RangeFuncBound
import Derived.RangeFuncCalls
import Derived.RangeFuncLeaves
import Derived.RangeFuncBox
import Derived.Shelf.Abstract
import Derived.Shelf.RegionOpen
import Derived.OwnWalkIn
import Derived.TacticsInMore
import Derived.LoopNIn
import Derived.LoopIn
import Derived.Sort.BigQuietIn
import Derived.Maps.AppendAt
import Derived.Orders
import Derived.BigCall
import Derived.Laws.PanicsMore
import Derived.StillTailTactics
import Derived.BigRegion
set_option maxHeartbeats 16000000
set_option maxRecDepth 8000
set_option linter.all false
namespace Go.Proofs.YtcdopfdgknglfaaGreatDoor
open Go.RowKit
section
def qP(n₀ lo hi:Nat)(W W':World):Prop:=Below n₀ W W'/\∀k,lo<=k->k<hi->W'.heap[k]? =W.heap[k]?
theorem Nq{n₀ lo hi:Nat}{A B C:World}(h:qP n₀ lo hi A B)(k:qP n₀ lo hi B C):qP n₀ lo hi A C:=
 ⟨h.1.trans k.1,λi h1 h2=>(k.2 i h1 h2).trans (h.2 i h1 h2)⟩
theorem Mw{n₀ lo hi:Nat}{w:World}(hn:n₀<=w.heap.size)(hh:hi<=w.heap.size)(W:World)(l:Nat)(o o':Obj)(hl:w.heap.size<=l)(h:W.heap[l]? =some o)(h1:o.isCells=false)(h2:o.isWalk=false):qP n₀ lo hi W (W.putObj l o'):=
 ⟨belowK_b hn W l o o' hl h h1 h2,λk _ hk=>World.putObj_heap_other (by omega)⟩
theorem aC{W W':World}{B:Nat}{t:TypeId}{v:Value}(h:Boxed W B t v)(hb:Ext W W'):Boxed W' B t v:=(Below.block hb B h.lt).trans h
theorem mg{W W':World}(h:Ext W W'):KeepsOthers W W':=⟨h.size,λk _ hk _=>(Below.block h k (dB.1 hk).1).trans hk⟩
theorem CZ(W:World)(a:Addr)(v:Value):W.grownBy (W.setCell a v) (some a.block):=
 ⟨rfl,rfl,rfl,(KeepsWalks.setCell W _ v).size,λk _ hk=>Below.heap_setCell _ _ _ k (λe=>hk (by rw[e]))⟩
theorem gu{W:World}{B:Nat}{t:TypeId}{v:Value}(h:Boxed W B t v){a:Addr}(ha:a.block≠B)(u:Value):Boxed (W.setCell a u) B t v:=h.kept (CZ W a u) (λe=>ha (by cases e;rfl))
theorem Ld(w:World)(l:List Value)(t:TypeId)(k:Nat)(hk:w.heap.size=k):∀j u,l[j]? =some u->(w.alloc (.cells l.toArray t)).cell? ((⟨k,0,none⟩:Addr).add j)=some u:=by
 subst hk;intro j u hj;have hadd:(⟨w.heap.size,0,none⟩:Addr).add j=⟨w.heap.size,j,none⟩:=by unfold Addr.add;split<;>simp_all
 rw[hadd,cell_of_row _ _ j _ t (0,0) (dx w _)];simpa using hj
def Halt(p:Prop):Prop:=p
theorem halt{p:Prop}(h:Halt p):p:=h
theorem Halt.go{p:Prop}(h:p):Halt p:=h
section
variable{F:Fence}{n:Nat}{P:Program}{ops:Array Oper}{C:World->Prop}
def pQ(o:Oper):Bool:=match o.op with | .defer _=>false|_=>true
theorem Ic{o:Oper}(h:pQ o=true):∀c,o.op≠.defer c:=λc e=>by simp[pQ,e]at h
end
theorem fM{P:Program}(t e:TypeId){z:Value}{s b:Nat}(ht:P.underlying t=some (.slice e))(h:(P.info? e).map (λi=>(i.zero,i.size,i.bytes))=some (some z,s,b))(n:Nat)(hb:b*n<=281474976710656)(h63:n<=9223372036854775807)(w:World) :
 (Instr.makeSlice t (.int .i64 0) (.int .i64 (n:Int))).run P w=.ok (.slice (some ⟨w.heap.size,0,none⟩) 0 n) (w.alloc (.cells (madeCells z.cells (n*s)) e)):=by
 obtain⟨i,hi,hz,hs,hby⟩:=mQ h;have hb':(i.bytes:Int)*(n:Int)<=281474976710656:=by
  have h:((i.bytes*n:Nat):Int)<=281474976710656:=by rw[hby];omega
  rwa [Int.natCast_mul]at h
 have hr:=run_make (P:=P) w t e i z ht hi hz .i64 .i64 0 n (by omega) (by omega) hb' (by omega);simp only[oN]at hr;rw[hr,hs];rfl
end
section
def Yields(P:Program)(o:Oper)(a:Act)(w:World)(φ:Value->World->Prop):Prop:=
 match (execOp a.eval o).run P w with
 | .ok (.value v) w'=>φ v w'
 | .ok .skip w'=>φ undef w'
 | .ok (.enter f args) w'=>Calls P f args w' λe w''=>∃v,e=.returned v/\φ v w''
 | _=>False
theorem Em{P:Program}{o:Oper}{a:Act}{w:World}{φ:Value->World->Prop}{K:Act->World->Prop}{Q:Exit->Act->World->Prop}(h:Yields P o a w φ)(hK:∀v w',φ v w'->K (a.put o.dst v) w'):o.wp P a w K Q:=by
 unfold Yields at h;unfold Oper.wp;generalize (execOp a.eval o).run P w=r at *
 cases r with
 | ok n w'=>
   cases n<;>simp only[Oper.upon]at h ⊢
   case value v=>exact hK _ _ h
   case skip=>exact hK _ _ h
   case enter f args=>exact h.mono λe w'' ⟨v,he,hv⟩=>by subst he;exact hK _ _ hv
 | halt x w'=>exact h.elim
section
variable{P:Program}{ops:Array Oper}
def Ch(listed:Array Bool)(n:Nat):Nat:=(List.range n).countP λi=>listed.getD i true==false
theorem qH(listed:Array Bool)(n:Nat):Ch listed (n+1)=Ch listed n+if listed.getD n true=false then 1 else 0:=by unfold Ch;rw[kD,List.countP_append,List.countP_singleton];simp
theorem jS{listed:Array Bool}{i:Nat}(d:Bool)(h:i<listed.size):(listed.setIfInBounds i true).getD i d=true:=by simp[Array.getD,h]
theorem JQ{listed:Array Bool}{i:Nat}(hi:listed.getD i true=false):∀n,i<n->Ch listed n=Ch (listed.setIfInBounds i true) n+1:=by
 have hs:i<listed.size:=by
  rcases eX i listed.size with h|h
  ·exact h
  ·simp[Array.getD,Nat.not_lt.2 h]at hi
 have hlow:∀n,n<=i->Ch listed n=Ch (listed.setIfInBounds i true) n:=by
  intro n
  induction n with
  | zero=>intro _;rfl
  | succ n ih=>
    intro hn;rw[qH,qH,ih (by omega),getD_set_ne true (by omega)]
 intro n
 induction n with
 | zero=>intro h;omega
 | succ n ih=>
   intro hn;rw[qH,qH];by_cases e:i=n
   ·subst e;rw[hi,jS true hs,hlow i (ay _)];simp
   ·rw[ih (by omega),getD_set_ne true e];omega
theorem KL(n:Nat):Ch (Array.replicate n false) n=n:=by
 have:∀m,m<=n->Ch (Array.replicate n false) m=m:=by
  intro m
  induction m with
  | zero=>intro _;rfl
  | succ m ih=>
    intro hm;rw[qH,ih (by omega),ah];simp[Array.getD,show m<n by omega]
 exact this n (ay _)
theorem zR{listed:Array Bool}{n:Nat}(h:Ch listed n=0){i:Nat}(hi:i<n):listed.getD i true=true:=by
 unfold Ch at h;rw[List.countP_eq_zero]at h
 have:=h i (by simpa using hi)
 simpa using this
theorem Np{p:Nat->Prop}(i:Nat)(h:p i):∃j,j<=i/\p j/\∀k,k<j->¬p k:=by
 induction i using Nat.strongRecOn with
 | _ i ih=>
   by_cases hx:∃k,k<i/\p k
   ·obtain⟨k,hk,hp⟩:=hx;obtain⟨j,hj,h1,h2⟩:=ih k hk hp;exact⟨j,by omega,h1,h2⟩
   ·exact⟨i,ay _,h,λk hk hp=>hx ⟨k,hk,hp⟩⟩
theorem y8{listed:Array Bool}(hback:∀i o,ops[i]? =some o->∀e∈o.after,Region.binds .any e=true->e.on<i)(hn:Ch listed ops.size≠0)(hsz:listed.size=ops.size):Region.ready .any ops listed≠[]:=by
 have:∃i,i<ops.size/\listed.getD i true=false:=by
  apply Classical.byContradiction;intro hx;apply hn;unfold Ch;rw[List.countP_eq_zero];intro i hi;simp only[j5]at hi
  cases hg:listed.getD i true with
  | true=>simp
  | false=>exact absurd ⟨i,hi,hg⟩ hx
 obtain⟨i,hi⟩:=this;obtain⟨j,hj,h1,h2⟩:=Np (p:=λi=>i<ops.size/\listed.getD i true=false) i hi;intro he;have hm:j∈Region.ready .any ops listed:=by
  refine mem_ready.2 ⟨h1.2,ops[j],by simp[h1.1],λe hee hb=>?_⟩;have hlt:=hback j ops[j] (by simp[h1.1]) e hee hb;have hnp:=h2 e.on hlt
  cases hg:listed.getD e.on true with
  | true=>
    simp only[Array.getD]at hg ⊢;split at hg
    ·rename_i h;simp[h]at hg ⊢;exact hg
    ·rename_i h;omega
  | false=>exact absurd ⟨by omega,hg⟩ hnp
 rw[he]at hm;cases hm
theorem kC{xs:Array Value}{d t:Nat}{v u:Value}(h:d≠t):(xs.setIfInBounds d v).getD t u=xs.getD t u:=by simp[Array.getD_eq_getD_getElem?,h]
def typedOk(ops:Array Oper)(sz:Nat):Bool:=
 ops.toList.all (λo=>o.guard.isNone&&(match o.dst with|some d=>decide (d<sz)|none=>true)) &&
 decide (ops.toList.filterMap (·.dst)).Nodup &&
 (List.range ops.size).all λi=>match ops[i]? with|some o=>o.after.all λe=>!Region.binds .any e || decide (e.on<i)|none=>true
theorem MQ:∀(l:List Oper) (i j:Nat) (oi oj:Oper) (d:Tmp),(l.filterMap (·.dst)).Nodup->l[i]? =some oi->l[j]? =some oj->oi.dst=some d->oj.dst=some d->i=j
 | [],i,_,_,_,_,_,hi,_,_,_=>by simp at hi
 | o :: l,i,j,oi,oj,d,hn,hi,hj,h1,h2=>by
   have hmem:∀(k:Nat) (ok:Oper),l[k]? =some ok->ok.dst=some d->d∈l.filterMap (·.dst):=λk ok hk hd=>List.mem_filterMap.2 ⟨ok,aN hk,hd⟩;have hl:(l.filterMap (·.dst)).Nodup:=by
    rw[qN]at hn;split at hn
    ·exact hn
    ·exact(Dx.1 hn).2
   have hhead:o.dst=some d->d∉l.filterMap (·.dst):=λho=>by
    rw[qN,ho]at hn
    exact(Dx.1 hn).1
   cases i with
   | zero=>
     simp at hi;subst hi
     cases j with
     | zero=>rfl
     | succ j=>exact absurd (hmem j oj (by simpa using hj) h2) (hhead h1)
   | succ i=>
     cases j with
     | zero=>
       simp at hj;subst hj;exact absurd (hmem i oi (by simpa using hi) h1) (hhead h2)
     | succ j=>rw[MQ l i j oi oj d hl (by simpa using hi) (by simpa using hj) h1 h2]
end
theorem Ck:∀(l:List (Tmp × Value)) (a a0:Act),a.tmps.size=a0.tmps.size->a.defers=a0.defers->(∀t,t∉l.map (·.1)->a.tmps.getD t undef=a0.tmps.getD t undef)->((l.map (·.1)).Nodup/\∀d∈l.map (·.1),d<a0.tmps.size) ->
 (∀p∈l,a.tmps.getD p.1 undef=p.2)->a=l.foldl (λa p=>a.put (some p.1) p.2) a0
 | [],a,a0,hs,hd,hrest,_,_=>by
   obtain⟨tm,df⟩:=a;obtain⟨tm0,df0⟩:=a0;simp only at hs hd hrest;subst hd;simp only[List.foldl_nil];congr 1;apply Array.ext hs;intro i h1 h2
   have:=hrest i (by simp)
   simpa[Array.getD,h1,h2] using this
 | (d,v) :: l,a,a0,hs,hd,hrest,hnd,hv=>by
   rw[kL];have hdl:d<a0.tmps.size:=hnd.2 d (by simp);have hnd':d∉l.map (·.1)/\(l.map (·.1)).Nodup:=Dx.1 hnd.1;have hsz:(a0.put (some d) v).tmps.size=a0.tmps.size:=by simp[Act.put]
   refine Ck l a (a0.put (some d) v) (by rw[hs,hsz]) (by rw[hd];rfl) (λt ht=>?_) ⟨hnd'.2,λe he=>by rw[hsz];exact hnd.2 e (by simp only[iF];exact List.mem_cons_of_mem _ he)⟩ (λq hq=>hv q (List.mem_cons_of_mem _ hq));by_cases e:t=d
   ·subst e;have h1:=hv (t,v) (by simp);simp only at h1;rw[h1];show v=(a0.tmps.setIfInBounds t v).getD t undef;simp[Array.getD,hdl]
   ·have h1:=hrest t (by simp only[iF,iC,not_or];exact⟨e,ht⟩);rw[h1]
    exact(kC (λe'=>e e'.symm)).symm
theorem LX{a a0:Act}{ds:List Tmp}(hs:a.tmps.size=a0.tmps.size)(hd:a.defers=a0.defers)(hrest:∀t,t∉ds->a.tmps.getD t undef=a0.tmps.getD t undef)(l:List (Tmp × Value))(hds:l.map (·.1)=ds)(hnd:(ds.Nodup/\∀d∈ds,d<a0.tmps.size))
 (hv:∀p∈l,a.tmps.getD p.1 undef=p.2):a=l.foldl (λa p=>a.put (some p.1) p.2) a0:=by
 subst hds;exact Ck l a a0 hs hd hrest hnd hv
end
section
section
variable{P:Program}{ops:Array Oper}
def Dn(ops:Array Oper)(L:Array Bool):Prop:=∀i o,ops[i]? =some o->L.getD i true=true->∀e∈o.after,Region.binds .any e=true->L.getD e.on true=true
theorem Dn.set{L:Array Bool}{i:Nat}{o:Oper}(h:Dn ops L)(ho:ops[i]? =some o)(hsz:L.size=ops.size)(hd:∀e∈o.after,Region.binds .any e=true->L.getD e.on true=true):Dn ops (L.setIfInBounds i true):=by
 have up:∀k,L.getD k true=true->(L.setIfInBounds i true).getD k true=true:=λk hk=>by
  by_cases e:i=k
  ·subst e;exact jS true (by rw[hsz];exact(dB.1 ho).1)
  ·rw[getD_set_ne true e];exact hk
 intro k ok hok hk e he hb;by_cases ek:i=k
 ·subst ek;rw[ho]at hok;cases hok;exact up _ (hd e he hb)
 ·rw[getD_set_ne true ek]at hk;exact up _ (h k ok hok hk e he hb)
structure PG (ops:Array Oper) (a0:Act) (R:Array Bool->World->Prop) (T:Nat->Array Bool->Value->World->Prop) (n:Nat) (listed:Array Bool) (a:Act) (w:World):Prop where
 world:R listed w
 dn:Dn ops listed
 size:a.tmps.size=a0.tmps.size
 defers:a.defers=a0.defers
 rest:∀t,t∉ops.toList.filterMap (·.dst)->a.tmps.getD t undef=a0.tmps.getD t undef
 keep:∀t,(∀j oj,ops[j]? =some oj->oj.dst=some t->listed.getD j true=false)->a.tmps.getD t undef=a0.tmps.getD t undef
 typed:∀i o d,ops[i]? =some o->listed.getD i true=true->o.dst=some d->T i listed (a.tmps.getD d undef) w
 bare:∀i o,ops[i]? =some o->listed.getD i true=true->o.dst=none->T i listed undef w
theorem Kn{a0:Act}{Q:Exit->Act->World->Prop}(hok:typedOk ops a0.tmps.size=true){R:Array Bool->World->Prop}{T:Nat->Array Bool->Value->World->Prop}{St:Nat->World->World->Prop}
 (hT:∀i j (L:Array Bool) v w w',i≠j->i<ops.size->L.size=ops.size->L.getD i true=false->(∀o,ops[i]? =some o->∀e∈o.after,Region.binds .any e=true->L.getD e.on true=true)->Dn ops L->L.getD j true=true->St i w w'->T j L v w->T j (L.setIfInBounds i true) v w')
 (hop:∀i o,ops[i]? =some o->∀(a:Act) n w (L:Array Bool),n<ops.size->L.size=ops.size->L.getD i true=false->(∀e∈o.after,Region.binds .any e=true->L.getD e.on true=true)->Dn ops L->R L w->(∀t,t∉ops.toList.filterMap (·.dst)->a.tmps.getD t undef=a0.tmps.getD t undef) ->
  (∀j oj d,(∃e∈o.after,Region.binds .any e=true/\e.on=j)->ops[j]? =some oj->oj.dst=some d->T j L (a.tmps.getD d undef) w) ->
  (∀t,(∀j oj,ops[j]? =some oj->oj.dst=some t->L.getD j true=false)->a.tmps.getD t undef=a0.tmps.getD t undef) ->
  Yields P o a w λv w'=>(o.dst.isSome=true->T i (L.setIfInBounds i true) v w')/\(o.dst=none->T i (L.setIfInBounds i true) undef w')/\R (L.setIfInBounds i true) w'/\St i w w')
 (hend:∀a w,PG ops a0 R T ops.size (Array.replicate ops.size true) a w->Q .normal a w) :
 ∀(fuel n:Nat) (listed:Array Bool) (a:Act) (w:World),n+fuel=ops.size->listed.size=ops.size->Ch listed ops.size=fuel->PG ops a0 R T n listed a w->wpAny P .any ops Q fuel listed a w:=by
 simp only[typedOk,bK,iN,eG]at hok;obtain⟨⟨hg,hnd⟩,hb⟩:=hok;have hback:∀i o,ops[i]? =some o->∀e∈o.after,Region.binds .any e=true->e.on<i:=λi o ho e he hbi=>by have hi:i<ops.size:=(dB.1 ho).1;have h1:=hb i (by simpa using hi);rw[ho]at h1;simp only at h1;rw[Array.all_eq_true_iff_forall_mem]at h1;have h2:=h1 e he;rw[hbi]at h2;simpa using h2
 intro fuel
 induction fuel with
 | zero=>
   intro n listed a w hn hsz hu hI;have hall:∀i,i<ops.size->listed.getD i true=true:=λi hi=>zR hu hi;have hrep:listed=Array.replicate ops.size true:=by
    apply Array.ext (by simpa using hsz);intro i h1 h2
    have:=hall i (by omega)
    simpa[Array.getD,h1] using this
   refine⟨?_,?_⟩
   ·cases hr:Region.ready .any ops listed with
    | nil=>rfl
    | cons j l=>
      have hm:j∈Region.ready .any ops listed:=by rw[hr];simp
      obtain⟨h1,o,ho,_⟩:=mem_ready.1 hm;rw[hall j (dB.1 ho).1]at h1;cases h1
   ·obtain rfl:n=ops.size:=by omega
    exact hend a w ⟨hrep▸hI.world,hrep▸hI.dn,hI.size,hI.defers,hI.rest,hrep▸hI.keep,λi o d ho _ hd=>(hrep▸hI.typed i o d ho (hall i (dB.1 ho).1) hd:T i (Array.replicate ops.size true) _ _),λi o ho _ hd=>(hrep▸hI.bare i o ho (hall i (dB.1 ho).1) hd:T i (Array.replicate ops.size true) _ _)⟩
 | succ fuel ih=>
   intro n listed a w hn hsz hu hI;refine⟨λh0=>absurd h0 (y8 hback (by omega) hsz),λi hi=>?_⟩;obtain⟨h1,o,ho,hall⟩:=mem_ready.1 hi;have hil:i<ops.size:=(dB.1 ho).1;have hgo:=hg o (by exact aN (by simpa using ho));have hguard:o.guard=none:=by simpa using hgo.1
   unfold wpOp;simp only[ho,Region.wanted,hguard,if_true];have hdl:∀e∈o.after,Region.binds .any e=true->listed.getD e.on true=true:=λe he hbe=>by
    have:=hall e he hbe
    simp only[Array.getD]at this ⊢;split at this
    ·rename_i h;simp[h]at this ⊢;exact this
    ·cases this
   have NC:=hdl;refine .inl (Em (hop i o ho a n w listed (by omega) hsz h1 hdl hI.dn hI.world hI.rest (λj oj d ⟨e,he,hbe,hej⟩ hoj hd=>?_) hI.keep) ?_)
   ·refine hI.typed j oj d hoj ?_ hd
    have:=hdl e he hbe
    rwa [hej]at this
   ·intro v w' ⟨hv,hv0,hR,hS⟩;have hu':=JQ h1 ops.size hil;refine ih (n+1) _ _ _ (by omega) (by simpa using hsz) (by omega) ⟨hR,hI.dn.set ho hsz hdl,?_,?_,λt ht=>?_,λt ht=>?_,λj oj d hoj hl hd=>?_,λj oj hoj hl hd=>?_⟩
    ·cases hdst:o.dst with
     | none=>simpa[Act.put] using hI.size
     | some d=>simpa[Act.put] using hI.size
    ·cases hdst:o.dst with
     | none=>simpa[Act.put] using hI.defers
     | some d=>simpa[Act.put] using hI.defers
    ·rw[<-hI.rest t ht]
     cases hdst:o.dst with
     | none=>simp[Act.put]
     | some d=>
       have:d≠t:=λe=>ht (by subst e;exact List.mem_filterMap.2 ⟨o,aN (by simpa using ho),hdst⟩)
       show (a.tmps.setIfInBounds d v).getD t undef = _;exact kC this
    ·have hi1:(listed.setIfInBounds i true).getD i true=true:=jS true (by rw[hsz];exact hil);rw[<-hI.keep t (λj oj hoj hd=>by
      by_cases e:i=j
      ·subst e
       have:=ht i oj hoj hd
       rw[hi1]at this;cases this
      ·have:=ht j oj hoj hd
       rwa [getD_set_ne true e]at this)]
     cases hdst:o.dst with
     | none=>simp[Act.put]
     | some d=>
       have:d≠t:=λe=>by
        subst e
        have:=ht i o ho hdst
        rw[hi1]at this;cases this
       show (a.tmps.setIfInBounds d v).getD t undef = _;exact kC this
    ·by_cases e:j=i
     ·subst e;rw[ho]at hoj;cases hoj;have hdl:d<a.tmps.size:=by
       have:=hgo.2
       rw[hd]at this;rw[hI.size];simpa using this
      rw[hd];have hx:(a.put (some d) v).tmps.getD d undef=v:=by simp[Act.put,Array.getD,hdl]
      rw[hx];exact hv (by rw[hd];rfl)
     ·rw[getD_set_ne true (λe'=>e e'.symm)]at hl;have h3:=hT i j listed _ w w' (λe'=>e e'.symm) hil hsz h1 (λo' ho'=>by rw[ho]at ho';cases ho';exact NC) hI.dn hl hS (hI.typed j oj d hoj hl hd)
      cases hdst:o.dst with
      | none=>simpa[Act.put] using h3
      | some d'=>
        have hne:d'≠d:=λe'=>by subst e';exact e (MQ ops.toList j i oj o d' hnd (by simpa using hoj) (by simpa using ho) hd hdst)
        have hx:(a.put (some d') v).tmps.getD d undef=a.tmps.getD d undef:=kC hne;rw[hx];exact h3
    ·by_cases e:j=i
     ·subst e;rw[ho]at hoj;cases hoj;exact hv0 hd
     ·rw[getD_set_ne true (λe'=>e e'.symm)]at hl;exact hT i j listed _ w w' (λe'=>e e'.symm) hil hsz h1 (λo' ho'=>by rw[ho]at ho';cases ho';exact NC) hI.dn hl hS (hI.bare j oj hoj hl hd)
theorem vN{id:Nat}{l:List Oper}{a0:Act}{w0:World}{Q:Exit->Act->World->Prop}(ds:List Tmp)(hm:P.follows .mixedOrders=true)(hds:l.filterMap (·.dst)=ds)(hok:typedOk l.toArray a0.tmps.size=true)(R:Array Bool->World->Prop)(T:Nat->Array Bool->Value->World->Prop)(St:Nat->World->World->Prop)
 (h0:R (Array.replicate l.length false) w0.drew) (hT:∀i j (L:Array Bool) v w w',i≠j->i<l.length->L.size=l.length->L.getD i true=false->(∀o,l[i]? =some o->∀e∈o.after,Region.binds .any e=true->L.getD e.on true=true)->Dn l.toArray L->L.getD j true=true->St i w w'->T j L v w->T j (L.setIfInBounds i true) v w')
 (hop:∀i o,l[i]? =some o->∀(a:Act) n w (L:Array Bool),n<l.length->L.size=l.length->L.getD i true=false->(∀e∈o.after,Region.binds .any e=true->L.getD e.on true=true)->Dn l.toArray L->R L w->(∀t,t∉ds->a.tmps.getD t undef=a0.tmps.getD t undef) ->
  (∀j oj d,(∃e∈o.after,Region.binds .any e=true/\e.on=j)->l[j]? =some oj->oj.dst=some d->T j L (a.tmps.getD d undef) w) ->
  (∀t,(∀j oj,l[j]? =some oj->oj.dst=some t->L.getD j true=false)->a.tmps.getD t undef=a0.tmps.getD t undef) ->
  Yields P o a w λv w'=>(o.dst.isSome=true->T i (L.setIfInBounds i true) v w')/\(o.dst=none->T i (L.setIfInBounds i true) undef w')/\R (L.setIfInBounds i true) w'/\St i w w')
 (hend:∀a w,R (Array.replicate l.length true) w->a.tmps.size=a0.tmps.size->a.defers=a0.defers->(∀t,t∉ds->a.tmps.getD t undef=a0.tmps.getD t undef)->(∀i o d,l[i]? =some o->o.dst=some d->T i (Array.replicate l.length true) (a.tmps.getD d undef) w)->(∀i o,l[i]? =some o->o.dst=none->T i (Array.replicate l.length true) undef w)->Q .normal a w) :
 (Code.region id l.toArray true).wp P Q a0 w0:=by
 subst hds;refine wp_region_any hm ?_;refine Kn (P:=P) (ops:=l.toArray) (a0:=a0) (Q:=Q) hok (R:=R) (T:=T) (St:=St) (by simpa using hT) (λi o ho=>?_) (λa w hI=>?_) l.length 0 _ a0 _ (by simp) (by simp) (by simpa using KL l.length) ⟨h0,λi o ho hl=>?_,rfl,rfl,λ_ _=>rfl,λ_ _=>rfl,λi o d ho hl=>?_,λi o ho hl=>?_⟩
 ·have:=hop i o (by simpa using ho)
  simpa using this
 ·have hl:∀i o,l[i]? =some o->(Array.replicate l.toArray.size true).getD i true=true:=λi o ho=>by
   have:i<l.length:=(aS.1 ho).1
   simp[Array.getD,this]
  exact hend a w (by simpa using hI.world) hI.size hI.defers (by simpa using hI.rest) (λi o d ho hd=>by simpa using hI.typed i o d (by simpa using ho) (hl i o ho) hd) (λi o ho hd=>by simpa using hI.bare i o (by simpa using ho) (hl i o ho) hd)
 ·have:i<l.length:=by have:=(dB.1 ho).1;simpa using this
  simp[Array.getD,this]at hl
 ·have:i<l.length:=by have:=(dB.1 ho).1;simpa using this
  simp[Array.getD,this]at hl
 ·have:i<l.length:=by have:=(dB.1 ho).1;simpa using this
  simp[Array.getD,this]at hl
end
end
section
section
variable{P:Program}{o:Oper}{a:Act}{w:World}{φ:Value->World->Prop}{x y:Operand}{p q:Int}{T U:TypeId}
theorem LU(h:o.op=.move x)(hp:φ (a.eval x) w):Yields P o a w φ:=by unfold Yields;simp only[execOp,h,Sem.run_pure];exact hp
theorem Nr(h:o.op=.assign x)(hp:φ (a.eval x) w):Yields P o a w φ:=by unfold Yields;simp only[execOp,h,Sem.run_pure];exact hp
theorem Rj{F:FuncId}{xs:Array Operand}{ts:Array TypeId}{args:Array Value}(h:o.op=.call { callee:=.value (.func F),args:=xs,argTypes:=ts })(hF:∀args W,(callFunc F args).run P W=.ok (.enter F args) W)(hargs:xs.map a.eval=args)
 (hc:Calls P F args w λe w''=>∃v,e=.returned v/\φ v w''):Yields P o a w φ:=by
 unfold Yields
 have:(execOp a.eval o).run P w=.ok (.enter F args) w:=by subst hargs;obtain⟨dst,op,ty,pos,after,guard⟩:=o;simp only at h;subst h;rw[execOp_call_go];simpa using hF _ w
 rw[this];exact hc
end
end
section
section
variable{P:Program}{o:Oper}{a:Act}{w:World}{φ:Value->World->Prop}
theorem ko{v:Value}{w':World}(h:(execOp a.eval o).run P w=.ok (.value v) w')(hp:φ v w'):Yields P o a w φ:=by unfold Yields;rw[h];exact hp
theorem Ml{s x:Operand}{t:TypeId}{v u:Value}(ho:o.op=.call { callee:=.builtin .append,args:=#[s,x],argTypes:=#[t,t] })(hs:a.eval s=v)(hx:a.eval x=u)
 (hrun:∃v' w',(Builtin.append_ #[t,t] o.type #[v,u]).run P w=.ok v' w'/\φ v' w'):Yields P o a w φ:=by
 obtain⟨v',w',h1,h2⟩:=hrun;refine ko (v:=v') (w':=w') ?_ h2;unfold execOp;simp only[ho,resolve,invoke,builtin,Sem.run_bind,Sem.run_pure,Result.andThen_ok,List.map_toArray,iF,nH,hs,hx,h1]
end
end
section
section
variable{P:Program}{α:Type}{t e:TypeId}{m b:Nat}{z:Value}{enc:α->Nat->Value}{xs:List α}{A:Option Addr}{n c:Nat}
def part{α:Type}(xs:List α)(lo hi:Nat):List α:=(xs.take hi).drop lo
theorem LJ{xs:List α}{lo hi i:Nat}:(part xs lo hi)[i]? =if lo+i<hi then xs[lo+i]? else none:=by rw[part,ry,zg]
theorem yx{xs:List α}{lo hi:Nat}(hh:hi<=xs.length):(part xs lo hi).length=hi-lo:=by rw[part,kU,ig,yf hh]
theorem aI.part{w:World}(h:aI m enc w (.slice A n c) xs)(lo hi:Nat)(hlo:lo<=hi)(hhi:hi<=xs.length)(hc:xs.length<=c) :
 aI m enc w (.slice (if c=lo then A else A.map (·.add (lo*m))) (hi-lo) (c-lo)) (part xs lo hi)/\∀b0,Own b0 w (.slice A n c)->Own b0 w (.slice (if c=lo then A else A.map (·.add (lo*m))) (hi-lo) (c-lo)):=by
 obtain⟨A',c',hA,hcell⟩:=h;injection hA with e1 e2 e3;subst e1 e2 e3;have hadd:∀(b off:Nat) (n:Nat),(⟨b,off,none⟩:Addr).add n=⟨b,off+n,none⟩:=λb off n=>by
  unfold Addr.add;split
  ·rename_i h;rw[h];rfl
  ·rfl
 constructor
 ·refine⟨_,_,by rw[yx hhi],λhn=>?_⟩;rw[yx hhi]at hn;obtain⟨b,off,rfl,hlt,hcl⟩:=hcell (by omega);rw[ak (by omega)];refine⟨b,off+lo*m,by rw[Option.map_some,hadd],hlt,λi x hx j hj=>?_⟩;rw[LJ]at hx;split at hx
  ·have:=hcl (lo+i) x hx j hj
   rw[Nat.add_mul]at this;rw[<-this];congr 2;omega
  ·cases hx
 ·intro b0 ho a n' c' hv hn;injection hv with e1 e2 e3;subst e2;obtain⟨b,off,rfl,hlt,hcl⟩:=hcell (by omega)
  have:=ho ⟨b,off,none⟩ _ _ rfl (by omega)
  rw[ak (by omega),Option.map_some,hadd]at e1;injection e1 with e1;subst e1;exact this
theorem nT(ht:P.underlying t=some (.slice e))(hinfo:(P.info? e).map (λi=>(i.zero,i.size,i.bytes))=some (some z,m,b))(lo:Nat)(hlo:lo<=n)(W:World) :
 (Instr.slice t (.slice A n c) (some (.int .i64 (lo:Int))) none none).run P W=.ok (.slice (if c=lo then A else A.map (·.add (lo*m))) (n-lo) (c-lo)) W:=by
 obtain⟨i,hi',hz,hs,hby⟩:=mQ hinfo;subst hs;simp[Instr.slice,run_underlying ht,Instr.sliceBounds,Instr.sliceBound,asIntOf,sizeOf,typeInfo,hi',hlo]
theorem qh(ht:P.underlying t=some (.slice e))(hinfo:(P.info? e).map (λi=>(i.zero,i.size,i.bytes))=some (some z,m,b))(hi:Nat)(hhi:hi<=c)(W:World) :
 (Instr.slice t (.slice A n c) none (some (.int .i64 (hi:Int))) none).run P W=.ok (.slice (if c=0 then A else A.map (·.add (0*m))) (hi-0) (c-0)) W:=by
 obtain⟨i,hi',hz,hs,hby⟩:=mQ hinfo;subst hs;simp[Instr.slice,run_underlying ht,Instr.sliceBounds,Instr.sliceBound,asIntOf,sizeOf,typeInfo,hi',hhi]
end
theorem Row.lit{α:Type}{m:Nat}{enc:α->Nat->Value}(w:World)(cs:Array Value)(T:TypeId)(xs:List α)(h:cs.toList=xs.flatMap (aG m enc))(hn:xs.length<=4194304):Row T m enc w.heap.size (w.alloc (.cells cs T)) (.slice (some ⟨w.heap.size,0,none⟩) xs.length xs.length) xs:=by
 have hs:cs.size=xs.length*m:=by rw[<-Array.length_toList,h,kT]
 refine⟨kT xs,.inr ⟨w.heap.size,xs.length,cs,rfl,ay _,dx w _,ay _,by simp only[maxLen];omega,hs,?_⟩⟩;rw[jZ (by rw[Array.length_toList,hs];exact ay _),h]
end
theorem yj(a:Nat)(ha:a<18446744073709551616):(BitVec.ofInt 64 (a:Int)).toNat=a:=by rw[BitVec.ofInt_natCast,BitVec.toNat_ofNat];exact xZ (by omega)
theorem yD(a:Nat)(ha:a<18446744073709551616):IntKind.u64.wrap (a:Int)=(a:Int):=by rw[IntKind.wrap_u64];omega
theorem u64_and(a b:Nat)(ha:a<18446744073709551616)(hb:b<18446744073709551616):bits .and .u64 (a:Int) (b:Int)=((a &&& b:Nat):Int):=by have hx:a &&& b<2 ^ 64:=Nat.and_lt_two_pow _ (by omega);show IntKind.u64.wrap ((BitVec.ofInt 64 (a:Int) &&& BitVec.ofInt 64 (b:Int)).toNat:Int) = _;rw[BitVec.toNat_and,yj a ha,yj b hb,yD _ (by omega)]
theorem u64_or(a b:Nat)(ha:a<18446744073709551616)(hb:b<18446744073709551616):bits .or .u64 (a:Int) (b:Int)=((a ||| b:Nat):Int):=by have hx:a ||| b<2 ^ 64:=Nat.or_lt_two_pow (by omega) (by omega);show IntKind.u64.wrap ((BitVec.ofInt 64 (a:Int) ||| BitVec.ofInt 64 (b:Int)).toNat:Int) = _;rw[BitVec.toNat_or,yj a ha,yj b hb,yD _ (by omega)]
theorem DJ(n i:Nat)(hn:n<18446744073709551616):bits .and .u64 ((n:Int)/2 ^ i) 1=if n.testBit i then 1 else 0:=by
 have e:((n:Int)/2 ^ i)=((n/2 ^ i:Nat):Int):=by simp
 have h1:n/2 ^ i<=n:=II _ _;rw[e,show (1:Int)=((1:Nat):Int) from rfl,u64_and _ _ (by omega) (by omega),Nat.and_one_is_mod];rw[Nat.testBit_eq_decide_div_mod_eq];by_cases h:n/2 ^ i%2=1
 ·simp[h]
 ·rw[show n/2 ^ i%2=0 by omega];simp
theorem JY(n i:Nat)(hn:n<18446744073709551616)(hi:i<64):bits .or .u64 (n:Int) (IntKind.u64.wrap (2 ^ i))=((n ||| 2 ^ i:Nat):Int):=by
 have h2:2 ^ i<2 ^ 64:=Nat.pow_lt_pow_right (by omega) hi;have e:(2 ^ i:Int)=((2 ^ i:Nat):Int):=by simp
 rw[e,yD _ (by omega),u64_or _ _ hn (by omega)]
section
def Jr(Q:Exit->Act->World->Prop)(T:Act->World->Prop):Exit->Act->World->Prop
 | .normal,a,w=>T a w
 | e,a,w=>Q e a w
section
variable{P:Program}{ops:Array Oper}{Q:Exit->Act->World->Prop}{T:Act->World->Prop}
theorem NK{o:Oper}{a:Act}{w:World}{K:Act->World->Prop}(hh:o.wp P a w K (Jr Q T)):o.wp P a w K Q:=by
 unfold Oper.wp at *;generalize (execOp a.eval o).run P w=r at *
 cases r with
 | ok n w'=>
   cases n<;>simp only[Oper.upon]at hh ⊢ <;>
    first
     | exact hh
     | exact Calls.mono hh (λe w'' he=>by cases e<;>exact he)
 | halt x w'=>cases x<;>simp only[Oper.upon]at hh ⊢<;>exact hh
def splitB(ops:Array Oper)(n:Nat):Bool:=
 decide (n<ops.size)&&ops.toList.all (λo=>o.guard.isNone) &&
 ((List.range ops.size).all λi=>match ops[i]? with|some o=>o.after.all λe=>!Region.binds .any e || decide (e.on<i)|none=>true) &&
 Region.sinkB .any ops n&&Region.chainB .any ops n&&Region.seqB .any ops (ops.size-n) n (Array.replicate n true++Array.replicate (ops.size-n) false)
theorem getD_extract{L:Array Bool}{n i:Nat}(hi:i<n)(d:Bool):(L.extract 0 n).getD i d=L.getD i d:=by
 simp only[Array.getD_eq_getD_getElem?];rw[Array.getElem?_extract];by_cases h:i<L.size
 ·rw[ah (by omega)];simp
 ·rw[ak (by omega),oJ (by omega)]
theorem extract_set{L:Array Bool}{n i:Nat}(hi:i<n):(L.setIfInBounds i true).extract 0 n=(L.extract 0 n).setIfInBounds i true:=by
 apply Array.ext_getElem?;intro j;rw[Array.getElem?_extract,Array.getElem?_setIfInBounds,Array.getElem?_setIfInBounds,Array.getElem?_extract];simp only[Array.size_setIfInBounds,Array.size_extract,kP];by_cases hj:i=j
 ·subst hj;by_cases hs:i<L.size
  ·simp[hs,show i<min n L.size by omega]
  ·simp[hs,show ¬i<min n L.size by omega]
 ·simp[hj]
theorem ED{n g:Nat}{l:List Oper}(hl:l.toArray=ops)(hg:g=ops.size-n)(hB:splitB ops n=true) :
 ∀(f:Nat) (listed:Array Bool) (a:Act) (w:World),HeadInv .any ops n listed->Ch listed n=f ->
  wpAny P .any (l.take n).toArray (Jr Q λa w=>wpList P ops Q (l.drop n) a w) f (listed.extract 0 n) a w->wpAny P .any ops Q (f+g) listed a w:=by
 simp only[splitB,bK,eG]at hB;obtain⟨⟨⟨⟨⟨hn,hgd⟩,hb⟩,hs⟩,hc⟩,hq⟩:=hB;have hsz:ops.size=l.length:=by rw[<-hl];simp
 have hback:∀i o,ops[i]? =some o->∀e∈o.after,Region.binds .any e=true->e.on<i:=λi o ho e he hbi=>by have hi:i<ops.size:=(dB.1 ho).1;have h1:=iN.1 hb i (by simpa using hi);rw[ho]at h1;simp only at h1;rw[Array.all_eq_true_iff_forall_mem]at h1;have h2:=h1 e he;rw[hbi]at h2;simpa using h2
 have hhead:∀i,i<n->(l.take n).toArray[i]? =ops[i]?:=λi hi=>by rw[<-hl];simp[zg,hi]
 intro f
 induction f with
 | zero=>
   intro listed a w inv hu h;have hlist:listed=Array.replicate n true++Array.replicate (ops.size-n) false:=by
    apply Array.ext
    ·rw[inv.size];simp;omega
    ·intro i h1 h2;rw[Array.getElem_append];split
     ·rename_i hi;have hi:i<n:=by simpa using hi
      have:=zR hu hi
      simp[Array.getD,h1]at this;simp[this]
     ·rename_i hi;have hi:n<=i:=by simpa using hi
      have:=inv.tail i hi (by rw[<-inv.size];exact h1)
      simp[Array.getD,h1]at this;simp[this]
   have h2:wpList P ops Q (l.drop n) a w:=h.2
   have:=wpAny_of_seq (md:=.any) (P:=P) (Q':=Q) (l.drop n) n listed a w (λj=>by rw[<-hl];simp[ry]) (by rw[kU,<-hsz,hlist];exact hq) h2
   rw[kU,<-hsz,<-hg]at this;rw[kP];exact this
 | succ f ih=>
   intro listed a w inv hu h;have hex:∃i,i<n/\listed.getD i true=false:=by
    apply Classical.byContradiction;intro hx
    have:Ch listed n=0:=by
     unfold Ch;rw[List.countP_eq_zero];intro i hi;simp only[j5]at hi
     cases hgi:listed.getD i true with
     | true=>simp
     | false=>exact absurd ⟨i,hi,hgi⟩ hx
    omega
   obtain⟨i0,hi0,hl0⟩:=hex;rw[show f+1+g=(f+g)+1 by omega];refine⟨λhe=>?_,λi hi=>?_⟩
   ·refine absurd he (y8 hback (λhz=>?_) inv.size)
    have:=zR hz (show i0<ops.size by omega)
    rw[hl0]at this;cases this
   ·have hin:i<n:=by
     rcases eX i n with h'|h'
     ·exact h'
     ·exact absurd hi (tail_waits hs hc hn inv _ i0 rfl hi0 hl0 i h')
    obtain⟨h1,o,ho,hall⟩:=mem_ready.1 hi;have hi':i∈Region.ready .any (l.take n).toArray (listed.extract 0 n):=by refine mem_ready.2 ⟨by rw[getD_extract hin];exact h1,o,by rw[hhead i hin];exact ho,λe he hbe=>?_⟩;have hlt:=hback i o ho e he hbe;rw[getD_extract (by omega)];exact hall e he hbe
    have hop:=h.2 i hi';have hguard:o.guard=none:=by
     have:=iN.1 hgd o (aN (by simpa using ho))
     simpa using this
    have hset:=inv.set hi hin;have hun:Ch (listed.setIfInBounds i true) n=f:=by
     have:=JQ h1 n hin
     omega
    have key:∀a' w',wpAny P .any (l.take n).toArray (Jr Q λa w=>wpList P ops Q (l.drop n) a w) f ((listed.extract 0 n).setIfInBounds i true) a' w'->wpAny P .any ops Q (f+g) (listed.setIfInBounds i true) a' w':=λa' w' h'=>
     ih _ a' w' hset hun (by rw[extract_set hin];exact h')
    unfold wpOp at hop ⊢;rw[hhead i hin]at hop;simp only[ho,Region.wanted,hguard,if_true]at hop ⊢;rcases hop with hop|⟨h3,h4⟩
    ·exact .inl (NK (Oper.wp_mono key hop))
    ·exact .inr ⟨h3,h4⟩
theorem l9{id:Nat}{l:List Oper}{a:Act}{w:World}(n:Nat)(S:World->Prop)(hm:P.follows .mixedOrders=true)(hB:splitB l.toArray n=true)
 (h:wpAnyH P .any (l.take n).toArray (Jr Q λa w=>wpList P l.toArray Q (l.drop n) a w) S n (Array.replicate n false) a w.drew):(Code.region id l.toArray true).wp P Q a w:=by
 have hn:n<l.toArray.size:=by simp only[splitB,bK,eG]at hB;exact hB.1.1.1.1.1
 refine wp_region_any hm ?_;have inv0:HeadInv .any l.toArray n (Array.replicate l.toArray.size false):=
  ⟨by simp,λj oj _ hl=>(by rw[getD_replicate_false]at hl;cases hl),λt _ ht=>getD_in (by simpa using ht) (getD_replicate_false _ _)⟩
 have hu:Ch (Array.replicate l.toArray.size false) n=n:=by
  unfold Ch
  have:∀i∈List.range n,((Array.replicate l.toArray.size false).getD i true==false)=true:=λi hi=>by
   have hi:i<n:=by simpa using hi
   rw[getD_in (by simp at hn ⊢;omega) (getD_replicate_false _ _)];rfl
  rw[List.countP_eq_length.2 this,List.length_range]
 have:=ED (P:=P) (Q:=Q) (ops:=l.toArray) (g:=l.toArray.size-n) rfl rfl hB n (Array.replicate l.toArray.size false) a w.drew inv0 hu (by
  have e:(Array.replicate l.toArray.size false).extract 0 n=Array.replicate n false:=by
   apply Array.ext
   ·simp at hn ⊢;omega
   ·intro i h1 h2;simp
  rw[e];exact wpAny_of_held _ _ _ _ h)
 rw[show n+(l.toArray.size-n)=l.toArray.size by omega]at this;exact this
end
end
def F6(ys:List Int)(i j:Nat):Prop:=∀p q,p<q->q<=i->q≠j->ys.getD p 0<=ys.getD q 0
theorem EK{ys:List Int}{i t:Nat}{x:Int}(hi:i<ys.length):(ys.set i x).getD t 0=if i=t then x else ys.getD t 0:=by
 rw[qm,qm,kF];by_cases e:i=t
 ·subst e;simp[hi]
 ·simp[e]
theorem F6.swap{ys:List Int}{i j:Nat}(h:F6 ys i (j+1))(hi:i<ys.length)(hj:j+1<=i)(hlt:ys.getD (j+1) 0<ys.getD j 0):F6 ((ys.set (j+1) (ys.getD j 0)).set j (ys.getD (j+1) 0)) i j:=by
 intro p q hpq hq hqj;have e:∀t,((ys.set (j+1) (ys.getD j 0)).set j (ys.getD (j+1) 0)).getD t 0=if j=t then ys.getD (j+1) 0 else if j+1=t then ys.getD j 0 else ys.getD t 0:=λt=>by rw[EK (by rw[jO];omega),EK (by omega)]
 have eq:=e q;rw[ak (λh:j=q=>hqj h.symm)]at eq;rw[e p,eq];clear e eq;by_cases h1:j+1=q
 ·subst h1;rw[ah rfl];by_cases h2:j=p
  ·rw[ah h2];omega
  ·rw[ak h2,ak (by omega)];exact h p j (by omega) (by omega) (by omega)
 ·rw[ak h1];by_cases h2:j=p
  ·rw[ah h2];exact h (j+1) q (by omega) hq (by omega)
  ·rw[ak h2];by_cases h3:j+1=p
   ·rw[ah h3];exact h j q (by omega) hq (by omega)
   ·rw[ak h3];exact h p q hpq hq (by omega)
theorem F6.stop{ys:List Int}{i j:Nat}(h:F6 ys i j)(hj:j<=i)(hs:j=0∨ys.getD (j-1) 0<=ys.getD j 0):F6 ys i (i+1):=by
 intro p q hpq hq _;by_cases e:q=j
 ·subst e;rcases hs with hs|hs
  ·omega
  ·by_cases e':p=q-1
   ·subst e';exact hs
   ·have:=h p (q-1) (by omega) (by omega) (by omega)
    omega
 ·exact h p q hpq hq e
theorem F6.next{ys:List Int}{i:Nat}(h:F6 ys i (i+1)):F6 ys (i+1) (i+1):=λp q hpq hq hne=>h p q hpq (by omega) (by omega)
theorem F6.start(ys:List Int):F6 ys 0 1:=λp q hpq hq _=>by omega
theorem F6.sorted{ys:List Int}{i:Nat}(h:F6 ys i (i+1))(hi:ys.length<=i+1):ys.Pairwise (·<=·):=by
 rw[List.pairwise_iff_getElem];intro p q hp hq hpq
 have:=h p q hpq (by omega) (by omega)
 rwa [qm,qm,dz hp,dz hq]at this
theorem swap_perm{ys:List Int}{j:Nat}(hj:j+1<ys.length):((ys.set (j+1) (ys.getD j 0)).set j (ys.getD (j+1) 0)).Perm ys:=by have h:=@List.set_set_perm _ ys (j+1) j hj (by omega);rw[qm,qm,dz hj,dz (show j<ys.length by omega)];exact h
theorem Sy{w:World}{b off n c:Nat}{xs:List Int}{k:Nat}(h:mD encI w (.slice (some ⟨b,off,none⟩) n c) xs)(hk:k<xs.length)(y:Int) :
 mD encI (w.setCell ⟨b,off+k,none⟩ (.int .i64 y)) (.slice (some ⟨b,off,none⟩) n c) (xs.set k y):=by
 obtain⟨A,c',hA,hc⟩:=id h;injection hA with e1 e2 e3;subst e1 e2 e3;obtain⟨b',off',hb,hlt,hcell⟩:=hc (by omega);injection hb with hb;injection hb with e1 e2;subst e1 e2;refine⟨_,_,by rw[jO],λ_=>⟨b,off,rfl,by simpa[World.setCell] using hlt,λi x hx=>?_⟩⟩;by_cases e:k=i
 ·subst e;rw[H8 hk]at hx;injection hx with hx;subst hx;obtain⟨x0,hx0⟩:=au hk;exact dN (hcell k x0 hx0) _
 ·rw[Ie e]at hx;rw[av (by intro e';injection e' with _ e' _;omega)];exact hcell i x hx
theorem JK{w:World}{A:Option Addr}{n c:Nat}{xs:List Int}(h:mD encI w (.slice A n c) xs):xs.length=n:=by obtain⟨A',c',hA,_⟩:=h;injection hA with _ e _;exact e.symm
theorem JD{xs:List Int}{k:Nat}(h:k<xs.length):xs[k]? =some (xs.getD k 0):=by rw[qm];simp[h]
theorem rT(x:Int)(w:World):Calls Tryz.prog 286 #[.int .i64 x] w λe w'=>e=.returned (.bool false)/\w=w':=by
 have hx:(x != x)=false:=by simp
 go_enter Tryz.func286,Tryz.ntmps286;go_wp2;go_returns;exact⟨rfl,rfl⟩
theorem F7(x y:Int)(w:World):Calls Tryz.prog 274 #[.int .i64 x,.int .i64 y] w λe w'=>e=.returned (.bool (decide (x<y)))/\w=w':=by
 go_enter Tryz.func274,Tryz.ntmps274;go_wp2_with (go_at_call 286;refine(rT _ _).mono ?_;rintro e w' ⟨rfl,rfl⟩)
 go_returns;exact⟨rfl,rfl⟩
theorem EI{A:Option Addr}{c n:Nat}{xs:List Int}{lo:Nat}(w:World)(h:mD encI w (.slice A n c) xs)(ho:Own lo w (.slice A n c))(hlen:n<=2097152) :
 Calls Tryz.prog 268 #[.slice A n c,.int .i64 0,.int .i64 (n:Int)] w λe w'=>e=.returned (.tuple #[])/\∃ys,ys.Perm xs/\ys.Pairwise (·<=·)/\mD encI w' (.slice A n c) ys/\Only (.slice A n c) w w':=by
 have H:=aa h;have HO:=aa ho;have hmx:Tryz.prog.follows .mixedOrders=true:=by kernel_rfl
 clear h ho;go_enter Tryz.func268,Tryz.ntmps268;go_wp2;go_loopw [6,7] (λa _ wr=>∃(i:Nat) (ys:List Int),a=.int .i64 ((i:Int)+1)/\i<=n/\Hid (ys.Perm xs/\F6 ys i (i+1))/\Hid (mD encI wr (.slice A n c) ys)/\Hid (Only (.slice A n c) w wr)) (λa _ _=>n+1-(intOf a).toNat)
 case atStart=>exact⟨0,xs,rfl,bR _,⟨List.Perm.refl _,F6.start xs⟩,H.out,Only.aO (af _)⟩
 case round=>
  obtain⟨i,ys,rfl,hi,HP,HS,HN⟩:=hrel;by_cases hlt:i+1<n
  ·go_wp2;go_loopw [7] (λa wr2=>∃(j:Nat) (zs:List Int),a=.int .i64 (j:Int)/\j<=i+1/\Hid (zs.Perm xs/\F6 zs (i+1) j)/\Hid (mD encI wr2 (.slice A n c) zs)/\Hid (Only (.slice A n c) w wr2)) (λa _=>(intOf a).toNat)
   case atStart=>exact⟨i+1,ys,by simp,ay _,⟨HP.out.1,HP.out.2.next⟩,HS.out,HN.out⟩
   case round=>
    clear HP HS HN;obtain⟨j,zs,rfl,hj,R9,HS2,sw⟩:=hrel;have hzl:=JK HS2.out;rcases Nat.eq_zero_or_pos j with h0|h0
    ·have hj0:decide (0<j)=false:=by simp[h0]
     have HJ:=aa h0;clear h0;go_wp2;refine fP (by kernel_rfl) (by kernel_rfl) ?_;repeat (go_big_quiet_step ((go_at_call 274;exact yS (F7 _ _ _))))
     refine tC ?_;intro w1 hb1;go_wp2;go_roundw;case rel=>exact⟨i+1,zs,by go_num,by omega,⟨R9.out.1,R9.out.2.stop (by omega) (.inl HJ.out)⟩,HS2.out.ext hb1,sw.out.trans (Only.aO hb1)⟩
     case measure=>simp[intOf];omega
    ·have hj0:decide (0<j)=true:=by simp[h0]
     obtain⟨p,hp⟩:∃p,p+1=j:=⟨j-1,by omega⟩;have hjp:(j:Int)-1=(p:Int):=by omega
     obtain⟨A',c',hA,hcell0⟩:=id HS2.out;injection hA with e1 e2 e3;obtain⟨b,off,hb',hbl,hcell⟩:=hcell0 (by omega);rw[<-e1]at hb';subst hb';obtain⟨y,hy⟩:∃y,zs.getD j 0=y:=⟨_,rfl⟩;obtain⟨x,hx⟩:∃x,zs.getD p 0=x:=⟨_,rfl⟩;have y0:∀e,(over wr e).cell? ⟨b,off+j,none⟩=some (.int .i64 y):=fI (hcell j y (by rw[<-hy];exact JD (by omega)));have x0:∀e,(over wr e).cell? ⟨b,off+p,none⟩=some (.int .i64 x):=fI (hcell p x (by rw[<-hx];exact JD (by omega)));have Y0:=aa (hcell j y (by rw[<-hy];exact JD (by omega)));have X0:=aa (hcell p x (by rw[<-hx];exact JD (by omega)));have hjl:j<n:=by omega
     have hpl:p<n:=by omega
     have WS:=aa (aL hx (aL hy hp));clear hcell hcell0 e1 e2 e3 hx hy hp h0;go_wp2;refine fP (by kernel_rfl) (by kernel_rfl) ?_;repeat (go_big_quiet_step ((go_at_call 274;exact yS (F7 _ _ _))))
     refine tC ?_;intro w1 hb1;by_cases hlt2:y<x
     ·have hd:decide (y<x)=true:=by simpa using hlt2
      have y1:=hb1.cell Y0.out;have x1:=hb1.cell X0.out;simp only[encI]at y1 x1;have Y1:=Own.only HO.out (sw.out.trans (Only.aO hb1));have g1:w1.frozen? ⟨b,off+j,none⟩=false:=Y1.Ce (by omega) _;have g2:w1.frozen? ⟨b,off+p,none⟩=false:=Y1.Ce (by omega) _;clear y0 x0 Y1;go_wp2_with fail
      go_region
      go_wp2;go_roundw;case rel=>
       obtain⟨hx,hy,hp⟩:=WS.out;have s1:=Sy (HS2.out.ext hb1) (show j<zs.length by omega) x;have s2:=Sy s1 (k:=p) (by rw[jO];omega) y;have on:∀(W:World) (t:Nat) (u:Value),Only (.slice (some ⟨b,off,none⟩) n c) W (W.setCell ⟨b,t,none⟩ u):=λW t u=>Only.setCell (a:=⟨b,off,none⟩) (by omega) t u;have hsw:(zs.set j x).set p y=(zs.set (p+1) (zs.getD p 0)).set p (zs.getD (p+1) 0):=by rw[hp,hx,hy]
       refine⟨p,_,rfl,by omega,⟨by rw[hsw];exact(swap_perm (by omega)).trans R9.out.1,by rw[hsw];exact F6.swap (by rw[hp];exact R9.out.2) (by omega) (by omega) (by rw[hp,hx,hy];exact hlt2)⟩,s2.ext (af _).drew,?_⟩
       exact(((sw.out.trans (Only.aO hb1)).trans (on _ _ _)).trans (on _ _ _)).trans (Only.aO (af _).drew)
      case measure=>have:=WS.out.2.2;simp[intOf];omega
     ·have hd:decide (y<x)=false:=by simpa using hlt2
      have JP:Hid (x<=y):=by show x<=y;omega
      go_wp2;go_roundw;case rel=>
       obtain⟨hx,hy,hp⟩:=WS.out;exact⟨i+1,zs,by go_num,by omega,⟨R9.out.1,R9.out.2.stop (by omega) (.inr (by rw[show j-1=p by omega,hx,hy];exact JP.out))⟩,HS2.out.ext hb1,sw.out.trans (Only.aO hb1)⟩
      case measure=>simp[intOf];omega
  ·have hyl:=JK HS.out;have HF:=aa (HP.out.2.sorted (by omega));have hge:¬((i:Int)+1<(n:Int)):=by omega
   go_wp2;go_end0
   exact⟨rfl,ys,HP.out.1,HF.out,HS.out,HN.out⟩
section
attribute [local go_sem] Oper.semAt_some
theorem Kb(n:Nat)(hn:n<=7)(w:World):Calls Tryz.prog 194 #[.int .u64 (n:Int)] w λe w'=>(∃k:Int,e=.returned (.int .i64 k))/\w=w':=by
 match n,hn with
 | 0,_|1,_|2,_|3,_|4,_|5,_|6,_|7,_=>
   go_enter Tryz.func194,Tryz.ntmps194;go_wp2;go_returns;exact⟨⟨_,rfl⟩,rfl⟩
theorem Gd(n:Nat)(hn:n<=7)(w:World):Calls Tryz.prog 256 #[.int .u64 (n:Int)] w λe w'=>(∃k:Int,e=.returned (.int .i64 k))/\w=w':=by
 go_enter Tryz.func256,Tryz.ntmps256;go_wp2_with (go_at_call 194;refine(Kb n hn _).mono ?_;rintro e w' ⟨⟨k,rfl⟩,rfl⟩)
 go_returns;exact⟨⟨_,rfl⟩,rfl⟩
theorem Nc{A:Option Addr}{c n:Nat}{xs:List Int}{lo:Nat}(k:Int)(w:World)(h:mD encI w (.slice A n c) xs)(ho:Own lo w (.slice A n c))(hlen:n<=7) :
 Calls Tryz.prog 255 #[.slice A n c,.int .i64 0,.int .i64 (n:Int),.int .i64 k] w λe w'=>e=.returned (.tuple #[])/\∃ys,ys.Perm xs/\ys.Pairwise (·<=·)/\mD encI w' (.slice A n c) ys/\Only (.slice A n c) w w':=by
 have H:=aa h;have HO:=aa ho;clear h ho;go_enter Tryz.func255,Tryz.ntmps255;go_wp2;go_loopw [1,2] (λa b wr=>a=.int .i64 0/\b=.int .i64 (n:Int)/\wr=w) (λ_ _ _=>0)
 case atStart=>exact⟨rfl,rfl,rfl⟩
 case round=>
  obtain⟨rfl,rfl,rfl⟩:=hrel;go_wp2_with fail
  refine(EI _ H.out HO.out (by omega)).mono ?_
  rintro e w1 ⟨rfl,HY⟩;have VZ:=aa HY;clear HY;go_wp2;go_returns;exact⟨rfl,VZ.out⟩
theorem Kv{A:Option Addr}{c n:Nat}{xs:List Int}{lo:Nat}(w:World)(h:mD encI w (.slice A n c) xs)(ho:Own lo w (.slice A n c))(hlen:n<=7) :
 Calls Tryz.prog 231 #[.slice A n c] w λe w'=>e=.returned (.tuple #[])/\∃ys,ys.Perm xs/\ys.Pairwise (·<=·)/\mD encI w' (.slice A n c) ys/\Only (.slice A n c) w w':=by
 have H:=aa h;have HO:=aa ho;clear h ho;go_enter Tryz.func231,Tryz.ntmps231;go_wp2_with fail
 refine(Gd n hlen _).mono ?_
 rintro e w1 ⟨⟨k,rfl⟩,rfl⟩;go_wp2_with fail
 refine(Nc k _ H.out HO.out hlen).mono ?_
 rintro e w1 ⟨rfl,HY⟩;have VZ:=aa HY;clear HY;go_wp2;go_returns;exact⟨rfl,VZ.out⟩
theorem Hq(n:Nat)(hn:1<=n)(l B n₀ cap:Nat)(A:Option Addr)(xs:List Int)(b off:Nat)(hA:0<xs.length->A=some ⟨b,off,none⟩)(hb:0<xs.length->b<n₀)(hlen:xs.length<=2097152)(J Jx:List Int->World->Prop)
 (hY:∀pre x W,J pre W->pre.length<xs.length->YieldAt Fence.wide (n-1) Tryz.prog l #[.int .i64 x] W λe W'=>
  (e=.returned (.bool true)/\J (pre++[x]) W'/\Below n₀ W W')∨(e=.returned (.bool false)/\Jx (pre++[x]) W'))
 (W:World) (hBs:W.cell? ⟨B,0,none⟩=some (.slice A xs.length cap)) (hc:∀i x,xs[i]? =some x->W.cell? ⟨b,off+i,none⟩=some (encI x)) (h0:J [] W) :
 CallsIn Fence.wide n Tryz.prog 232 #[.func (.yield l) #[] #[],.pointer (some ⟨B,0,none⟩)] W λe W'=>(∃v,e=.returned v) /\
  ((∃ys,ys=xs/\J ys W')∨(∃pre:List Int,True/\Jx pre W')):=by
 refine callsIn_of_wp Tryz.func232 rfl trivial ?_ rfl;simp only[Tryz.ntmps232,List.size_toArray,eF,jK,Nat.reduceAdd,Nat.reduceSub,Array.replicate_succ,Array.replicate_zero,List.push_toArray,List.append_toArray,List.nil_append,List.cons_append];have HC:=aa hc;clear hc
 gi_wp2
 gi_loopw [7] (λi wr=>∃k:Nat,k<=xs.length/\i=.int .i64 (k:Int)/\Hid (J (xs.take k) wr)/\Hid (Below n₀ W wr)) (λi _=>xs.length-(intOf i).toNat)
 case atStart=>exact⟨0,bR _,rfl,h0,Below.refl _ _⟩
 case round=>
  obtain⟨k,hk,rfl,hJ,HB⟩:=hrel;by_cases hlt:k<xs.length
  ·obtain rfl:=hA (by omega);replace hb:=hb (by omega);obtain⟨x,hx⟩:=au hlt;have hn1:(xs.take k).length<xs.length:=by rw[ig];omega
   obtain⟨fn,tmps,assign,body,hy,hR⟩:=hY _ x wr hJ.out hn1;have c0:wr.cell? ⟨b,off+k,none⟩=some (.int .i64 x):=(HB.out.cell (p:=⟨b,off+k,none⟩) hb).trans (HC.out k x hx);have HX:=aa hx;clear hx hn1
   gi_wp2
   refine hR.mono ?_;rintro e W3 (⟨rfl,hJ3,hk3⟩|⟨rfl,hJx3⟩)
   ·have Ws:Hid (J (xs.take (k+1)) W3):=by show J _ _;rw[List.take_add_one,HX.out];exact hJ3
    have HB3:=aa (HB.out.trans hk3);clear hJ3 hk3 hR hy c0
    gi_wp2
    go_roundw;case rel=>exact⟨k+1,by omega,by go_num,Ws,HB3⟩
    case measure=>simp[intOf];omega
   ·gi_wp2
    refine bodyPost_ret (results_none rfl _ _ _) rfl ?_;exact⟨⟨_,rfl⟩,.inr ⟨_,trivial,hJx3⟩⟩
  ·obtain rfl:k=xs.length:=by omega
   have HE:Hid (J xs wr):=by
    have:=hJ.out
    rwa [bY]at this
   gi_wp2
   go_end0
   exact⟨⟨_,rfl⟩,.inl ⟨_,rfl,HE.out⟩⟩
theorem Ac(A:Option Addr)(n c:Nat)(w:World) :
 Calls Tryz.prog 201 #[.slice A n c] w λe w'=>e=.returned (.func (.func 232) #[] #[.pointer (some ⟨w.heap.size,0,none⟩)])/\w'=w.alloc (.cells #[.slice A n c] 56):=by
 go_enter Tryz.func201,Tryz.ntmps201;go_wp2;go_returns;exact⟨rfl,rfl⟩
def y9(n₀ B:Nat)(xs:List Int)(w:World):Prop:=
 SeqStopsK Fence.wide 8 Tryz.prog 232 #[.pointer (some ⟨B,0,none⟩)] (λx:Int=>#[Value.int .i64 x]) (Below n₀) (λys=>ys=xs) (λ_=>True) xs.length w
theorem values_stops(B n₀ cap:Nat)(A:Option Addr)(xs:List Int)(w:World)(hB:B<w.heap.size)(hlen:xs.length<=2097152)
 (hBs:w.cell? ⟨B,0,none⟩=some (.slice A xs.length cap)) (b off:Nat) (hA:0<xs.length->A=some ⟨b,off,none⟩) (hb:0<xs.length->b<n₀) (hn₀:n₀<=w.heap.size) (hc:∀i x,xs[i]? =some x->w.cell? ⟨b,off+i,none⟩=some (encI x)):y9 n₀ B xs w:=λl J Jx W hW _ _ hY h0=>
 Hq 8 (by omega) l B n₀ cap A xs b off hA hb hlen J Jx hY W ((hW.cell (p:=⟨B,0,none⟩) hB).trans hBs)
  (λi x hx=>(hW.cell (p:=⟨b,off+i,none⟩) (by have:=hb (by have:=(aS.1 hx).1;omega);simp;omega)).trans (hc i x hx)) h0
end
