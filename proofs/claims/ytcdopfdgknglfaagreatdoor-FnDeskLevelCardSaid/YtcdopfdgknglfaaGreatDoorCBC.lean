/- Lemmas. -/
import Derived.Test.YtcdopfdgknglfaaGreatDoorCAX
import Derived.Test.YtcdopfdgknglfaaGreatDoorCBB
set_option maxHeartbeats 16000000
set_option maxRecDepth 8000
set_option linter.all false
namespace Go.Proofs.YtcdopfdgknglfaaGreatDoor
open Go.RowKit
section
structure mP (base:Nat) (w:World) (v:Value) (rs:List yO) (p:List dZ):Prop where
 len:rs.length=p.length
 row:Row 79 2 encDrV base w v rs
 rows:∀(i:Nat) r d,rs[i]? =some r->p[i]? =some d->r.aD=d.aD/\eT base w r.jf d.steps
theorem mP.ext{base:Nat}{w w':World}{v:Value}{rs:List yO}{p:List dZ}(H:mP base w v rs p)(hb:Ext w w'):mP base w' v rs p:=
 ⟨H.len,H.row.ext hb,λi r t hr ht=>let ⟨a,c⟩:=H.rows i r t hr ht;⟨a,c.ext hb⟩⟩
theorem mP.ex{base rb:Nat}{w w':World}{v:Value}{rs:List yO}{p:List dZ}(H:mP base w v rs p)(hb:Ex rb w w')(hl:rb<base):mP base w' v rs p:=
 ⟨H.len,H.row.ex hb hl,λi r t hr ht=>let ⟨a,c⟩:=H.rows i r t hr ht;⟨a,c.ex hb hl⟩⟩
theorem mP.made(w:World):mP w.heap.size (w.alloc (.cells #[] 79)) (.slice (some ⟨w.heap.size,0,none⟩) 0 0) [] []:=
 ⟨rfl,Row.made w _,λ_ _ _ h=>by simp at h⟩
theorem mP.Qb{base:Nat}{w:World}{v:Value}{rs:List yO}{p:List dZ}(H:mP base w v rs p):vT w v p:=
 ⟨rs,H.len,H.row.cell.1,λi r t hr ht=>let ⟨a,c⟩:=H.rows i r t hr ht;⟨a,c.1⟩⟩
theorem mP.push{base:Nat}{w w':World}{v v':Value}{rs:List yO}{p:List dZ}{r:yO}{t:dZ}(H:mP base w v rs p)(hrow:Row 79 2 encDrV base w' v' (rs++[r]))(hg:w.grownBy w' v.ownBlock)
 (h1:r.aD=t.aD) (ho:eT base w r.jf t.steps):mP base w' v' (rs++[r]) (p++[t]):=by
 have keep:∀{u:Value} {ops:List aJ},eT base w u ops->eT base w' u ops:=λk=>k.grown hg (k.far H.row (by decide));refine⟨by simp[H.len],hrow,λi y s hy hs=>?_⟩;rw[oQ]at hy hs;split at hy
 ·rename_i hi';rw[ah (by rw[<-H.len];exact hi')]at hs;obtain⟨a,c⟩:=H.rows i y s hy hs;exact⟨a,keep c⟩
 ·rename_i hi';rw[ak (by rw[<-H.len];exact hi')]at hs;have hi0:i-rs.length=0:=by
   have:=(aS.1 hy).1
   simp at this;omega
  rw[hi0]at hy;rw[<-H.len,hi0]at hs;simp at hy hs;subst hy hs;exact⟨h1,keep ho⟩
section
variable{base:Nat}{w:World}{v:Value}{ops:Array Oper}{rest:List Oper}{o:Oper}{a:Act}{Q:Exit->Act->World->Prop}{s x:Operand}{A:Option Addr}{n c:Nat}
theorem Sk{rs:List yO}{p:List dZ}{r:yO}(t:dZ)(hwant:Region.wanted o (yielded ops a.tmps)=true)
 (ho:o.op=.call { callee:=.builtin .append,args:=#[s,x],argTypes:=#[36,36] }) (hs:a.eval s=v) (hx:a.eval x=.slice A n c)
 (H:mP base w v rs p) (hsrc:aI 2 encDrV w (.slice A n c) [r]) (h1:r.jf.oneCell'=true) (hn:p.length+1<=4194304) (hbase:base<=w.heap.size) (e1:r.aD=t.aD) (hO:eT base w r.jf t.steps)
 (k:∀v' w',mP base w' v' (rs++[r]) (p++[t])->w.grownBy w' v.ownBlock->wpList Tryz.prog ops Q rest (a.put o.dst v') w'):wpList Tryz.prog ops Q (o :: rest) a w:=
 Gs Tryz.underlying36 yV rfl (by omega) (by omega) hwant ho hs hx H.row hsrc (λx hx j=>by simp at hx;subst hx;unfold encDrV;split<;>first|rfl|exact h1) (by rw[H.len];simpa using hn) hbase
  (λv' w' hrow hg=>k v' w' (H.push hrow hg e1 hO) hg)
end
def B2(T:TypeId)(W:World)(g:Nat)(a b:Value):Prop:=W.heap[g]? =some (.cells #[a,b] T (0,0))
theorem B2.made(w:World)(a b:Value)(T:TypeId):B2 T (w.alloc (.cells #[a,b] T)) w.heap.size a b:=dx w _
theorem B2.lt{T:TypeId}{W:World}{g:Nat}{a b:Value}(h:B2 T W g a b):g<W.heap.size:=(dB.1 h).1
theorem B2.ex{T:TypeId}{rb:Nat}{W W':World}{g:Nat}{a b:Value}(h:B2 T W g a b)(hx:Ex rb W W')(hn:g≠rb):B2 T W' g a b:=(World.grownBy.block hx g h.lt (by simpa using hn)).trans h
theorem B2.ext{T:TypeId}{W W':World}{g:Nat}{a b:Value}(h:B2 T W g a b)(hx:Ext W W'):B2 T W' g a b:=(Below.block hx g h.lt).trans h
theorem B2.grown{T:TypeId}{W W':World}{g:Nat}{a b:Value}{row:Option Nat}(h:B2 T W g a b)(hg:W.grownBy W' row)(hn:row≠some g):B2 T W' g a b:=(hg.block g h.lt (λe=>hn e.symm)).trans h
theorem B2.c0{T:TypeId}{W:World}{g:Nat}{a b:Value}(h:B2 T W g a b):W.cell? ⟨g,0,none⟩=some a:=by unfold B2 at h;simp[World.cell?,h]
theorem B2.c1{T:TypeId}{W:World}{g:Nat}{a b:Value}(h:B2 T W g a b):W.cell? ⟨g,1,none⟩=some b:=by unfold B2 at h;simp[World.cell?,h]
theorem B2.fr{T:TypeId}{W:World}{g:Nat}{a b:Value}(h:B2 T W g a b)(j:Nat):W.frozen? ⟨g,j,none⟩=false:=by unfold B2 at h;simp[World.frozen?,h]
theorem B2.s1{T:TypeId}{W:World}{g:Nat}{a b:Value}(h:B2 T W g a b)(u:Value):B2 T (W.setCell ⟨g,1,none⟩ u) g a u:=by unfold B2 at *;simp[World.setCell,oM,h]
theorem Row.P6{α:Type}{e T:TypeId}{m g:Nat}{enc:α->Nat->Value}{base:Nat}{w:World}{v:Value}{xs:List α}{a b:Value}(h:Row e m enc base w v xs)(hB:B2 T w g a b)(hne:e≠T):v.ownBlock≠some g:=λe'=>h.ne hB hne e'.symm
def PL(rb m:Nat)(w wr:World)(out:Value)(q:Nat):Prop:=ER rb m w wr/\∃rs p,mP w.heap.size wr out rs p/\p.length+q<=4/\∀d∈p,d.steps.length<=4
def PI(rb m:Nat)(wo wr:World)(tb:Nat)(s:Int)(j:Nat):Prop:=ER rb m wo wr/\∃ov ops,B2 79 wr tb (.int .i64 s) ov/\Row 67 3 encOpr wo.heap.size wr ov ops/\ops.length+j<=4
theorem PI.NJ{rb m tb j:Nat}{wo W w0 w7:World}{ov v7:Value}{s:Int}{ops:List aJ}{x:aJ}(hr:rb<wo.heap.size)(htb:wo.heap.size<=tb)(hE:ER rb m wo W)(hB:B2 79 W tb (.int .i64 s) ov)(hO:Row 67 3 encOpr wo.heap.size W ov ops)(hl:ops.length+j<=4)(hp:0<j)
 (b:Ext W w0) (hrow:Row 67 3 encOpr wo.heap.size w7 v7 (ops++[x])) (hg:w0.grownBy w7 ov.ownBlock) :
 B2 79 w7 tb (.int .i64 s) ov/\PI rb m wo (w7.setCell ⟨tb,1,none⟩ v7) tb s (j-1):=by
 have RY:B2 79 w7 tb (.int .i64 s) ov:=(hB.ext b).grown hg ((hO.ext b).P6 (hB.ext b) (by decide));refine⟨RY,((hE.ext b).grown hg hr (λk hk=>hO.block k hk)).set hr htb _ _,v7,_,RY.s1 v7,hrow.keep (qw _ ⟨tb,1,none⟩ _) (λk hk e=>?_),by simp;omega⟩;exact hrow.P6 RY (by decide) (hk.trans e.symm)
theorem Tj{base:Nat}{W0 W:World}{v:Value}{xs:List aJ}(q:Nat)(hq:W.heap.size=q)(H:Row 67 3 encOpr base W0 v xs)(hx:Ext W0 W)(x:aJ)(hn:xs.length+1<=4194304)(hb:base<=W0.heap.size) :
 ∃A c w',(Builtin.append_ #[46,46] 46 #[v,.slice (some ⟨q,0,none⟩) 1 1]).run Tryz.prog (W.alloc (.cells #[.int .i64 x.kind,.int .i64 x.key,.int .i64 x.value] 67))=.ok (.slice A (xs.length+1) c) w' /\
  Row 67 3 encOpr base w' (.slice A (xs.length+1) c) (xs++[x])/\(W.alloc (.cells #[.int .i64 x.kind,.int .i64 x.key,.int .i64 x.value] 67)).grownBy w' v.ownBlock:=by
 subst hq;obtain⟨v',w',hrun,hrow,hg⟩:=o9 (P:=Tryz.prog) (t:=46) (ty:=46) (e:=67) Tryz.underlying46 Jy rfl (by omega) (H.ext hx) x (λj=>by unfold encOpr;split<;>rfl) hn (by omega) (aR hb hx.size)
 obtain⟨A,c,e,-⟩:=hrow.cell.1;rw[bN]at e;subst e;exact⟨A,c,w',hrun,hrow,hg⟩
def FL:Nat->Int
 | 2=>1
 | 3=>1
 | 4=>2
 | _=>0
def rQ(W:World)(L:Nat):Prop:=∀i:Nat,i<5->W.cell? ⟨L,i,none⟩=some (.int .i64 (FL i))
theorem rQ.made(W:World):rQ (W.alloc (.cells #[.int .i64 0,.int .i64 0,.int .i64 1,.int .i64 1,.int .i64 2] 3)) W.heap.size:=λi hi=>by
 simp only[World.cell?,dx]
 match i,hi with
 | 0,_=>rfl
 | 1,_=>rfl
 | 2,_=>rfl
 | 3,_=>rfl
 | 4,_=>rfl
theorem rQ.ex{rb L:Nat}{W W':World}(h:rQ W L)(x:Ex rb W W')(hn:L≠rb):rQ W' L:=λi hi=>x.cell (h i hi) hn
def PS(rb m:Nat)(wo W:World)(tb:Nat)(s:Int)(ov:Value)(ops:List aJ):Prop:=ER rb m wo W/\B2 79 W tb (.int .i64 s) ov/\Row 67 3 encOpr wo.heap.size W ov ops
theorem PS.ext{rb m tb:Nat}{wo W W':World}{s:Int}{ov:Value}{ops:List aJ}(h:PS rb m wo W tb s ov ops)(b:Ext W W'):PS rb m wo W' tb s ov ops:=⟨h.1.ext b,h.2.1.ext b,h.2.2.ext b⟩
theorem PS.ex{rb m m' tb:Nat}{wo W W':World}{s:Int}{ov:Value}{ops:List aJ}(h:PS rb m wo W tb s ov ops)(hr:rb<wo.heap.size)(htb:wo.heap.size<=tb)(x:Ex rb W W')(r:Rd W' rb m'):PS rb m' wo W' tb s ov ops:=⟨⟨h.1.1.trans x,r⟩,h.2.1.ex x (by omega),h.2.2.ex x hr⟩
theorem PS.app{rb m tb j:Nat}{wo W0 W:World}{s:Int}{ov:Value}{ops:List aJ}(q:Nat)(hq:W.heap.size=q)(h:PS rb m wo W0 tb s ov ops)(hr:rb<wo.heap.size)(htb:wo.heap.size<=tb)(hl:ops.length+j<=4)(hp:0<j)(hx:Ext W0 W)(x:aJ) :
 ∃A c w',(Builtin.append_ #[46,46] 46 #[ov,.slice (some ⟨q,0,none⟩) 1 1]).run Tryz.prog (W.alloc (.cells #[.int .i64 x.kind,.int .i64 x.key,.int .i64 x.value] 67))=.ok (.slice A (ops.length+1) c) w' /\
  w'.cell? ⟨tb,1,none⟩=some ov/\w'.frozen? ⟨tb,1,none⟩=false/\PI rb m wo (w'.setCell ⟨tb,1,none⟩ (.slice A (ops.length+1) c)) tb s (j-1):=by
 obtain⟨A,c,w',hrun,hrow,hg⟩:=Tj q hq h.2.2 hx x (by omega) h.1.size;obtain⟨hB,hN⟩:=PI.NJ hr htb h.1 h.2.1 h.2.2 hl hp (hx.alloc _) hrow hg;exact⟨A,c,w',hrun,hB.c1,hB.fr 1,hN⟩
theorem PL.pushed{rb m q:Nat}{w W W1 w9:World}{out v9:Value}{rs:List yO}{p:List dZ}{r:yO}{t:dZ}(hr:rb<w.heap.size)(H:mP w.heap.size W out rs p)(hl:p.length+q<=4)(hq:0<q)(hM:∀d∈p,d.steps.length<=4)(hE:ER rb m w W)(b:Ext W W1)(ht:t.steps.length<=4)
 (hH:mP w.heap.size w9 v9 (rs++[r]) (p++[t])) (hg:W1.grownBy w9 out.ownBlock):PL rb m w w9 v9 (q-1):=by
 refine⟨(hE.ext b).grown hg hr (λk hk=>H.row.block k hk),_,_,hH,by simp;omega,λx hx=>?_⟩;rcases iR.1 hx with hx|hx
 ·exact hM x hx
 ·simp at hx;subst hx;exact ht
theorem mP.slice{base:Nat}{w:World}{v:Value}{rs:List yO}{p:List dZ}(H:mP base w v rs p):∃A c,v=.slice A p.length c:=H.Qb.slice
def Qh(rb m:Nat)(w:World)(e:Ending)(w':World):Prop:=∃v p,e=.returned v/\vT w' v p/\p.length<=5/\(∀d∈p,d.steps.length<=5)/\ER rb m w w'
end
structure K8 (B:Nat) (w w':World):Prop where
 size:w.heap.size<=w'.heap.size
 block:∀k,B<=k->k<w.heap.size->w'.heap[k]? =w.heap[k]?
theorem K8.Mg{rb B:Nat}{w w':World}(h:Ex rb w w')(hr:rb<B):K8 B w w':=⟨h.size,λk hB hk=>World.grownBy.block h k hk (by simp;omega)⟩
theorem K8.cell{B:Nat}{w w':World}(h:K8 B w w'){p:Addr}{v:Value}(hc:w.cell? p=some v)(hp:B<=p.block):w'.cell? p=some v:=by rw[<-hc];exact World.cell?_of_block (h.block p.block hp (World.block_lt_of_cell? w p hc))
theorem eT.k8{B:Nat}{w w':World}{u:Value}{ops:List aJ}(h:eT B w u ops)(k:K8 B w w'):eT B w' u ops:=by
 obtain⟨⟨A,c,hu,hs⟩,h2,h3,h4⟩:=h;refine⟨⟨A,c,hu,λhn=>?_⟩,h2,λa n c hv hn=>?_,λa n c hv hn=>?_⟩
 ·obtain⟨b,off,hb,hlt,hc⟩:=hs hn;subst hb;have hB:=(h3 _ _ _ hu hn).1;exact⟨b,off,rfl,dJ hlt k.size,λi x hx j hj=>k.cell (hc i x hx j hj) hB⟩
 ·obtain⟨a1,a2,a3⟩:=h3 a n c hv hn;refine⟨a1,dJ a2 k.size,λi=>?_⟩;rw[<-a3 i];simp only[World.frozen?,k.block _ a1 a2]
 ·obtain⟨cs,fr,hg⟩:=h4 a n c hv hn;obtain⟨a1,a2,_⟩:=h3 a n c hv hn;exact⟨cs,fr,(k.block _ a1 a2).trans hg⟩
def TP(rb lo B:Nat)(out:Value):Nat->Value->World->Prop
 | 0,u,_=>u=out
 | 1,u,_=>u=.agg #[.int .i64 0,.slice none 0 0]
 | 2,u,_=>u=.agg #[.int .i64 1,.int .i64 0,.int .i64 0]
 | 3,u,W=>eT B W u [⟨1,0,0⟩]
 | 4,u,W=>∃v,u=.agg #[.int .i64 (-1),v]/\eT B W v [⟨1,0,0⟩]
 | 5,u,_=>u=.agg #[.int .i64 3,.int .i64 0,.int .i64 0]
 | 6,u,W=>eT B W u [⟨3,0,0⟩]
 | 7,u,W=>∃v,u=.agg #[.int .i64 (0),v]/\eT B W v [⟨3,0,0⟩]
 | 8,u,_=>u=.agg #[.int .i64 1,.int .i64 3,.int .i64 0]
 | 9,u,W=>eT B W u [⟨1,3,0⟩]
 | 10,u,W=>∃v,u=.agg #[.int .i64 (0),v]/\eT B W v [⟨1,3,0⟩]
 | 11,u,_=>u=.agg #[.int .i64 2,.int .i64 0,.int .i64 1]
 | 12,u,W=>eT B W u [⟨2,0,1⟩]
 | 13,u,W=>∃v,u=.agg #[.int .i64 (0),v]/\eT B W v [⟨2,0,1⟩]
 | 14,u,W=>eT B W u [⟨0,0,0⟩,⟨0,0,0⟩,⟨0,0,0⟩,⟨0,0,0⟩,⟨0,0,0⟩]
 | 15,u,W=>∃v,u=.agg #[.int .i64 (0),v]/\eT B W v [⟨0,0,0⟩,⟨0,0,0⟩,⟨0,0,0⟩,⟨0,0,0⟩,⟨0,0,0⟩]
 | 16,u,W=>∃b,u=.slice (some ⟨b,0,none⟩) 6 6/\B<=b/\∀i,i<6->∃s v ops,W.cell? ⟨b,i*2,none⟩=some (.int .i64 s)/\W.cell? ⟨b,i*2+1,none⟩=some v/\eT B W v ops/\ops.length<=5
 | 17,u,_=>u=.pointer (some ⟨rb,0,none⟩)
 | 18,u,_=>∃k:Nat,u=.int .i64 (k:Int)/\k<6
 | 19,u,W=>∃b o s v ops,u=.pointer (some ⟨b,o,none⟩)/\B<=b/\W.cell? ⟨b,o,none⟩=some (.int .i64 s)/\W.cell? ⟨b,o+1,none⟩=some v/\eT B W v ops/\ops.length<=5
 | 20,u,W=>∃s v ops,u=.agg #[.int .i64 s,v]/\eT B W v ops/\ops.length<=5
 | 21,u,W=>∃q s v ops,u=.slice (some ⟨q,0,none⟩) 1 1/\B<=q/\q<W.heap.size/\W.cell? ⟨q,0,none⟩=some (.int .i64 s)/\W.cell? ⟨q,1,none⟩=some v/\eT B W v ops/\ops.length<=5
 | 22,u,W=>∃rs p,mP lo W u rs p/\p.length<=5/\∀d∈p,d.steps.length<=5
 | 23,u,W=>∃rs p,mP lo W u rs p/\p.length<=5/\∀d∈p,d.steps.length<=5
 | _,_,_=>True
theorem TP.k8{rb lo B:Nat}{out:Value}{w w':World}(k:K8 B w w'):∀(j:Nat) (u:Value),j<22->TP rb lo B out j u w->TP rb lo B out j u w':=by
 intro j u hj h
 match j,hj,h with
 | 0,_,h=>exact h
 | 1,_,h=>exact h
 | 2,_,h=>exact h
 | 3,_,h=>exact eT.k8 h k
 | 4,_,h=>obtain⟨v,e,h⟩:=h;exact⟨v,e,h.k8 k⟩
 | 5,_,h=>exact h
 | 6,_,h=>exact eT.k8 h k
 | 7,_,h=>obtain⟨v,e,h⟩:=h;exact⟨v,e,h.k8 k⟩
 | 8,_,h=>exact h
 | 9,_,h=>exact eT.k8 h k
 | 10,_,h=>obtain⟨v,e,h⟩:=h;exact⟨v,e,h.k8 k⟩
 | 11,_,h=>exact h
 | 12,_,h=>exact eT.k8 h k
 | 13,_,h=>obtain⟨v,e,h⟩:=h;exact⟨v,e,h.k8 k⟩
 | 14,_,h=>exact eT.k8 h k
 | 15,_,h=>obtain⟨v,e,h⟩:=h;exact⟨v,e,h.k8 k⟩
 | 17,_,h=>exact h
 | 18,_,h=>exact h
 | 16,_,h=>
   obtain⟨b,e,hb,hc⟩:=h;exact⟨b,e,hb,λi hi=>let ⟨s,v,ops,c0,c1,ho,hl⟩:=hc i hi;⟨s,v,ops,k.cell c0 hb,k.cell c1 hb,ho.k8 k,hl⟩⟩
 | 19,_,h=>
   obtain⟨b,o,s,v,ops,e,hb,c0,c1,ho,hl⟩:=h;exact⟨b,o,s,v,ops,e,hb,k.cell c0 hb,k.cell c1 hb,ho.k8 k,hl⟩
 | 20,_,h=>
   obtain⟨s,v,ops,e,ho,hl⟩:=h;exact⟨s,v,ops,e,ho.k8 k,hl⟩
 | 21,_,h=>
   obtain⟨q,s,v,ops,e,hb,hq,c0,c1,ho,hl⟩:=h;exact⟨q,s,v,ops,e,hb,dJ hq k.size,k.cell c0 hb,k.cell c1 hb,ho.k8 k,hl⟩
 | _+22,hj,_=>omega
theorem TP.ex{rb lo B:Nat}{out:Value}{w w':World}(x:Ex rb w w')(hr:rb<lo)(hlB:lo<=B):∀(j:Nat) (u:Value),TP rb lo B out j u w->TP rb lo B out j u w':=by
 intro j u h;by_cases hj:j<22
 ·exact TP.k8 (K8.Mg x (by omega)) j u hj h
 ·by_cases h2:j=22
  ·subst h2;obtain⟨rs,p,h1,h2,h3⟩:=h;exact⟨rs,p,h1.ex x hr,h2,h3⟩
  ·by_cases h2:j=23
   ·subst h2;obtain⟨rs,p,h1,h2,h3⟩:=h;exact⟨rs,p,h1.ex x hr,h2,h3⟩
   ·obtain⟨k,rfl⟩:∃k,j=k+24:=⟨j-24,by omega⟩;trivial
def RP(rb lo B M:Nat)(w0:World)(out:Value)(rs:List yO)(p:List dZ)(L:Array Bool)(W:World):Prop:=
 Ex rb w0 W/\B<=W.heap.size/\(L.getD 18 true=false->Rd W rb M)/\Rd W rb (M+1)/\(L.getD 22 true=false->mP lo W out rs p)
theorem RP.keep{rb lo B M i:Nat}{w0 W W':World}{out:Value}{rs:List yO}{p:List dZ}{L:Array Bool}(h:RP rb lo B M w0 out rs p L W)(b:Ext W W')(h18:i≠18)(h22:i≠22):RP rb lo B M w0 out rs p (L.setIfInBounds i true) W':=
 ⟨h.1.ext b,aR h.2.1 b.size,λe=>(h.2.2.1 (by rwa [getD_set_ne true h18]at e)).ext b,h.2.2.2.1.ext b,λe=>(h.2.2.2.2 (by rwa [getD_set_ne true h22]at e)).ext b⟩
theorem Bj{rb B i:Nat}{W W':World}(hr:rb<B)(b:Ext W W'):K8 B W W'/\(i≠22->Ex rb W W'):=⟨K8.Mg (Ex.aO b) hr,λ_=>Ex.aO b⟩
theorem GA(rb m:Nat)(n:Int)(w:World)(h:Rd w rb m)(hm:m<=100000)(hn:n<=1000000) :
 Calls Tryz.prog 47 #[.pointer (some ⟨rb,0,none⟩),.int .i64 n] w (Qh rb (m+60) w):=by
 have hrl:=h.lt;have HR:=aa h;have hmk:∀W,(Instr.makeSlice 46 (.int .i64 5) (.int .i64 5)).run Tryz.prog W=.ok (.slice (some ⟨W.heap.size,0,none⟩) 5 5) (W.alloc (.cells #[.int .i64 0,.int .i64 0,.int .i64 0,.int .i64 0,.int .i64 0,.int .i64 0,.int .i64 0,.int .i64 0,.int .i64 0,.int .i64 0,.int .i64 0,.int .i64 0,.int .i64 0,.int .i64 0,.int .i64 0] 67)):=by
  intro W;have hr:=F9 (P:=Tryz.prog) 46 67 Tryz.underlying46 Jy 5 (by omega) (by omega) W;have hm:madeCells (Value.agg #[.int .i64 0,.int .i64 0,.int .i64 0]).cells (5*3)=#[.int .i64 0,.int .i64 0,.int .i64 0,.int .i64 0,.int .i64 0,.int .i64 0,.int .i64 0,.int .i64 0,.int .i64 0,.int .i64 0,.int .i64 0,.int .i64 0,.int .i64 0,.int .i64 0,.int .i64 0]:=by kernel_rfl
  rw[hm]at hr;exact hr
 have X5:=aa hmk;clear h hmk;go_enter Tryz.func47,Tryz.ntmps47;go_wp2_with fail
 refine(jR rb _ 5 _ (HR.out.alloc _) (by omega) (by omega) (by omega)).mono ?_
 rintro e w2 ⟨K,rfl,k0,k1,r2,x2⟩;obtain⟨K,rfl⟩:=iH k0;have Yp:Hid (PL rb (m+1) w w2 (.slice (some ⟨w.heap.size,0,none⟩) 0 0) K):=⟨⟨((Ex.refl rb w).alloc _).trans x2,r2⟩,[],[],(mP.made w).ex x2 hrl,by simp;omega,λd hd=>by cases hd⟩;clear r2 x2 HR;go_wp2;go_loopw [5,6] (λout k wr=>∃(q:Nat) (ov:Value),ov=out/\q<=4/\k=.int .i64 (q:Int)/\Hid (PL rb (m+45-10*q) w wr ov q)) (λ_ k _=>(intOf k).toNat)
 case atStart=>exact⟨K,_,rfl,by omega,rfl,⟨Yp.out.1.mono (by omega),Yp.out.2⟩⟩
 case round=>
  clear Yp;obtain⟨q,out,rfl,hq,rfl,HA⟩:=hrel;obtain⟨wo,rfl⟩:∃wo:World,wo=wr:=⟨_,rfl⟩;have hwo:rb<wo.heap.size:=dJ hrl HA.out.1.size;by_cases hq0:0<q
  ·go_wp2_with fail
   refine(jR rb _ 3 _ HA.out.1.2 (by omega) (by omega) (by omega)).mono ?_
   rintro e w3 ⟨s,rfl,s0,s1,r3,x3⟩;go_wp2_with fail
   refine(jR rb _ 4 _ (r3.alloc _) (by omega) (by omega) (by omega)).mono ?_
   rintro e w4 ⟨j,rfl,j0,j1,r4,x4⟩;obtain⟨j,rfl⟩:=iH j0;have hz3:=x3.size;have hz4:w3.heap.size+1<=w4.heap.size:=by have:=x4.size;simpa using this
   obtain⟨tb,htb⟩:∃tb,w3.heap.size=tb:=⟨_,rfl⟩;have Uz:Hid (PI rb (m+45-10*q+2) wo w4 tb s (j+1)):=by have hB:=(B2.made w3 (.int .i64 s) (.slice none 0 0) 79).ex x4 (by omega);rw[htb]at hB;exact⟨⟨(x3.alloc _).trans x4,r4⟩,_,[],hB,Row.nil,by simp;omega⟩
   have wm:wo.heap.size<=tb:=by omega
   rw[htb];clear r3 x3 r4 x4 hz3 hz4 htb;have hjw:IntKind.i64.wrap (1+(j:Int))=((j+1:Nat):Int):=by rw[Ej];omega
   go_wp2;go_loopw [8] (λjv wr=>∃(j:Nat),j<=4/\jv=.int .i64 (j:Int)/\Hid (PI rb (m+55-10*q-2*j) wo wr tb s j)) (λjv _=>(intOf jv).toNat)
   case atStart=>exact⟨j+1,by omega,by go_num,⟨Uz.out.1.mono (by omega),Uz.out.2⟩⟩
   case round=>
    clear Uz;obtain⟨j,hj,rfl,HJ⟩:=hrel;by_cases hj0:0<j
    ·obtain⟨hE,ov,ops,hB,hO,hol⟩:=HJ.out;obtain⟨A8,c8,rfl,-⟩:=id hO.cell.1;have HS:Hid (PS rb (m+55-10*q-2*j) wo wr tb s (.slice A8 ops.length c8) ops):=⟨hE,hB,hO⟩;have k0:=hB.c1;have hwr:wr.heap.size≠rb:=by have:=hE.size;omega
     have HM:=aa (show m+55-10*q-2*j<=1000000/\m+55-10*q-2*j+1<=1000000 by omega);have HW5:Hid (∀W:World,ER rb (m+55-10*q-2*j+1) wo W->W.heap.size≠rb):=λW h=>by have:=h.size;omega
     clear hE hB hO HJ;go_wp2;refine l9 12 (λW:World=>W.cell? ⟨tb,1,none⟩=some (.slice A8 ops.length c8)) (by kernel_rfl) (by kernel_rfl) ?_;simp only[List.take_succ_cons,rX,List.drop_succ_cons,El];have hHeld:(λW:World=>W.cell? ⟨tb,1,none⟩=some (.slice A8 ops.length c8)) wr.drew:=k0;refine iV 0 (.pointer (some ⟨tb,1,none⟩)) rfl (aM ⟨by rfl,λ_ _=>by go_simp⟩) hHeld ?_;try go_frame
     refine iV 1 (.slice A8 ops.length c8) rfl (aM ⟨by rfl,λV hV=>by (have hV:V.cell? ⟨tb,1,none⟩=some (.slice A8 ops.length c8):=hV);go_simp⟩) hHeld ?_;try go_frame
     refine iV 2 (.pointer (some ⟨rb,0,none⟩)) rfl (aM ⟨by rfl,λ_ _=>by go_simp⟩) hHeld ?_;try go_frame
     refine iV 6 (.pointer (some ⟨rb,0,none⟩)) rfl (aM ⟨by rfl,λ_ _=>by go_simp⟩) hHeld ?_;try go_frame
     refine aW (rs:=[3,5]) (by kernel_rfl) (by simp) ?_;refine bM rfl (λK hK=>?_) (bM rfl (λK hK=>?_) bX)
     ·go_simp
      refine(jR rb (m+55-10*q-2*j) 2 _ (by first|exact HS.out.1.2.drew|exact HS.out.1.2.drew.alloc _) HM.out.1 (by decide) (by decide)).mono ?_
      rintro e w5 ⟨a,rfl,a0,a1,r5,x5⟩;have UO:IntKind.i64.wrap (1+a)=1+a:=by rw[Ej];omega
      have Et:Hid (PS rb ((m+55-10*q-2*j)+1) wo w5 tb s (.slice A8 ops.length c8) ops):=by first|exact(HS.out.ext (af wr).drew).ex hwo wm x5 r5|exact(HS.out.ext ((af wr).drew.alloc (.cells #[.int .i64 0,.int .i64 0,.int .i64 1,.int .i64 1,.int .i64 2] 3))).ex hwo wm x5 r5
      have k5:=Et.out.2.1.c1;clear x5 r5;refine hK.out _ _ (k5) (λh5=>?_);clear hK K;try go_frame
      refine iV 4 (.int .i64 (1+a)) rfl (aM ⟨by rfl,λ_ _=>by go_simp⟩) h5 ?_;try go_frame
      refine aW (rs:=[5,7]) (by kernel_rfl) (by simp) ?_;refine bM rfl (λK hK=>?_) (bM rfl (λK hK=>?_) bX)
      ·go_simp;refine hK.out _ _ (((af w5).alloc _).cell k5) (λh6=>?_);clear hK K;try go_frame
       refine aW (rs:=[7]) (by kernel_rfl) (by simp) ?_;refine bM rfl (λK hK=>?_) bX;go_simp
       refine(jR rb ((m+55-10*q-2*j)+1) 5 _ (by first|exact Et.out.1.2|exact Et.out.1.2.alloc _) HM.out.2 (by decide) (by decide)).mono ?_
       rintro e w6 ⟨i,rfl,i0,i1,r6,x6⟩;obtain⟨i,rfl⟩:=iH i0;have hi5:i<5:=by omega
       have hs6:PS rb ((m+55-10*q-2*j)+1+1) wo w6 tb s (.slice A8 ops.length c8) ops:=by first|exact Et.out.ex hwo wm x6 r6|exact(Et.out.ext ((af w5).alloc (.cells #[.int .i64 0,.int .i64 0,.int .i64 1,.int .i64 1,.int .i64 2] 3))).ex hwo wm x6 r6
       have k6:=hs6.2.1.c1;have u6:=(rQ.made w5).ex x6 (HW5.out _ Et.out.1) i hi5;obtain⟨A9,c9,w9,hrun,y1,f1,hN⟩:=PS.app (W:=w6) w6.heap.size rfl hs6 hwo wm hol hj0 (af w6) ⟨1+a,FL i,0⟩;have cz:=aa hrun;have HN:=aa hN;clear hrun hN x6 r6 hs6;refine hK.out _ _ (k6) (λh7=>?_);clear hK K;try go_frame
       refine iV 8 (.pointer (some ⟨w5.heap.size,i,none⟩)) rfl (aM ⟨by rfl,λ_ _=>by go_simp⟩) h7 ?_;try go_frame
       refine aW (rs:=[9]) (by kernel_rfl) (by simp) ?_;refine bM rfl (λK hK=>?_) bX;go_simp;refine hK.out _ _ (k6) (λh9=>?_);clear hK K;try go_frame
       refine iV 10 (.agg #[.int .i64 (1+a),.int .i64 (FL i),.int .i64 0]) rfl (aM ⟨by rfl,λ_ _=>by go_simp⟩) h9 ?_;try go_frame
       refine aW (rs:=[11]) (by kernel_rfl) (by simp) ?_;refine bM rfl (λK hK=>?_) bX;go_simp;refine hK.out _ _ (((af _).alloc _).cell (k6)) (λh11=>?_);clear hK K;try go_frame
       refine lg (by kernel_rfl) ?_ _;show wpList _ _ _ _ _ _;refine wpList_append_run rfl rfl rfl rfl cz.out ?_;clear cz;go_wp2;go_roundw;case rel=>exact⟨j-1,by omega,by go_num,⟨HN.out.1.mono (by omega),HN.out.2⟩⟩
       case measure=>simp[intOf];omega
      ·go_simp
       refine(jR rb ((m+55-10*q-2*j)+1) 5 _ (by first|exact Et.out.1.2|exact Et.out.1.2.alloc _) HM.out.2 (by decide) (by decide)).mono ?_
       rintro e w6 ⟨i,rfl,i0,i1,r6,x6⟩;obtain⟨i,rfl⟩:=iH i0;have hi5:i<5:=by omega
       have hs6:PS rb ((m+55-10*q-2*j)+1+1) wo w6 tb s (.slice A8 ops.length c8) ops:=by first|exact Et.out.ex hwo wm x6 r6|exact(Et.out.ext ((af w5).alloc (.cells #[.int .i64 0,.int .i64 0,.int .i64 1,.int .i64 1,.int .i64 2] 3))).ex hwo wm x6 r6
       have k6:=hs6.2.1.c1;have u6:=rQ.made w6 i hi5;obtain⟨A9,c9,w9,hrun,y1,f1,hN⟩:=PS.app (W:=w6.alloc (.cells #[.int .i64 0,.int .i64 0,.int .i64 1,.int .i64 1,.int .i64 2] 3)) (w6.heap.size+1) (Ez _ _) hs6 hwo wm hol hj0 ((af w6).alloc (.cells #[.int .i64 0,.int .i64 0,.int .i64 1,.int .i64 1,.int .i64 2] 3)) ⟨1+a,FL i,0⟩;have cz:=aa hrun;have HN:=aa hN;clear hrun hN x6 r6 hs6;refine hK.out _ _ (k6) (λh7=>?_);clear hK K;try go_frame
       refine aW (rs:=[5]) (by kernel_rfl) (by simp) ?_;refine bM rfl (λK hK=>?_) bX;go_simp;refine hK.out _ _ (((af w6).alloc _).cell k6) (λh8=>?_);clear hK K;try go_frame
       refine iV 8 (.pointer (some ⟨w6.heap.size,i,none⟩)) rfl (aM ⟨by rfl,λ_ _=>by go_simp⟩) h8 ?_;try go_frame
       refine aW (rs:=[9]) (by kernel_rfl) (by simp) ?_;refine bM rfl (λK hK=>?_) bX;go_simp;refine hK.out _ _ (((af w6).alloc _).cell k6) (λh9=>?_);clear hK K;try go_frame
       refine iV 10 (.agg #[.int .i64 (1+a),.int .i64 (FL i),.int .i64 0]) rfl (aM ⟨by rfl,λ_ _=>by go_simp⟩) h9 ?_;try go_frame
       refine aW (rs:=[11]) (by kernel_rfl) (by simp) ?_;refine bM rfl (λK hK=>?_) bX;go_simp;refine hK.out _ _ (((af _).alloc _).cell (((af w6).alloc _).cell k6)) (λh11=>?_);clear hK K;try go_frame
       refine lg (by kernel_rfl) ?_ _;show wpList _ _ _ _ _ _;refine wpList_append_run rfl rfl rfl rfl cz.out ?_;clear cz;go_wp2;go_roundw;case rel=>exact⟨j-1,by omega,by go_num,⟨HN.out.1.mono (by omega),HN.out.2⟩⟩
       case measure=>simp[intOf];omega
     ·go_simp;refine hK.out _ _ (((af wr).drew.alloc _).cell k0) (λh4=>?_);clear hK K;try go_frame
      refine aW (rs:=[3]) (by kernel_rfl) (by simp) ?_;refine bM rfl (λK hK=>?_) bX;go_simp
      refine(jR rb (m+55-10*q-2*j) 2 _ (by first|exact HS.out.1.2.drew|exact HS.out.1.2.drew.alloc _) HM.out.1 (by decide) (by decide)).mono ?_
      rintro e w5 ⟨a,rfl,a0,a1,r5,x5⟩;have UO:IntKind.i64.wrap (1+a)=1+a:=by rw[Ej];omega
      have Et:Hid (PS rb ((m+55-10*q-2*j)+1) wo w5 tb s (.slice A8 ops.length c8) ops):=by first|exact(HS.out.ext (af wr).drew).ex hwo wm x5 r5|exact(HS.out.ext ((af wr).drew.alloc (.cells #[.int .i64 0,.int .i64 0,.int .i64 1,.int .i64 1,.int .i64 2] 3))).ex hwo wm x5 r5
      have P7:=aa (((rQ.made wr.drew)).ex x5 hwr);have k5:=Et.out.2.1.c1;clear x5 r5;refine hK.out _ _ (k5) (λh5=>?_);clear hK K;try go_frame
      refine iV 4 (.int .i64 (1+a)) rfl (aM ⟨by rfl,λ_ _=>by go_simp⟩) h5 ?_;try go_frame
      refine aW (rs:=[7]) (by kernel_rfl) (by simp) ?_;refine bM rfl (λK hK=>?_) bX;go_simp
      refine(jR rb ((m+55-10*q-2*j)+1) 5 _ (by first|exact Et.out.1.2|exact Et.out.1.2.alloc _) HM.out.2 (by decide) (by decide)).mono ?_
      rintro e w6 ⟨i,rfl,i0,i1,r6,x6⟩;obtain⟨i,rfl⟩:=iH i0;have hi5:i<5:=by omega
      have hs6:PS rb ((m+55-10*q-2*j)+1+1) wo w6 tb s (.slice A8 ops.length c8) ops:=by first|exact Et.out.ex hwo wm x6 r6|exact(Et.out.ext ((af w5).alloc (.cells #[.int .i64 0,.int .i64 0,.int .i64 1,.int .i64 1,.int .i64 2] 3))).ex hwo wm x6 r6
      have k6:=hs6.2.1.c1;have u6:w6.cell? ⟨wr.heap.size,i,none⟩=some (.int .i64 (FL i)):=P7.out.ex x6 hwr i hi5;obtain⟨A9,c9,w9,hrun,y1,f1,hN⟩:=PS.app (W:=w6) w6.heap.size rfl hs6 hwo wm hol hj0 (af w6) ⟨1+a,FL i,0⟩;have cz:=aa hrun;have HN:=aa hN;clear hrun hN x6 r6 hs6;refine hK.out _ _ (k6) (λh7=>?_);clear hK K;try go_frame
      refine iV 8 (.pointer (some ⟨wr.heap.size,i,none⟩)) rfl (aM ⟨by rfl,λ_ _=>by go_simp⟩) h7 ?_;try go_frame
      refine aW (rs:=[9]) (by kernel_rfl) (by simp) ?_;refine bM rfl (λK hK=>?_) bX;go_simp;refine hK.out _ _ (k6) (λh9=>?_);clear hK K;try go_frame
      refine iV 10 (.agg #[.int .i64 (1+a),.int .i64 (FL i),.int .i64 0]) rfl (aM ⟨by rfl,λ_ _=>by go_simp⟩) h9 ?_;try go_frame
      refine aW (rs:=[11]) (by kernel_rfl) (by simp) ?_;refine bM rfl (λK hK=>?_) bX;go_simp;refine hK.out _ _ (((af _).alloc _).cell (k6)) (λh11=>?_);clear hK K;try go_frame
      refine lg (by kernel_rfl) ?_ _;show wpList _ _ _ _ _ _;refine wpList_append_run rfl rfl rfl rfl cz.out ?_;clear cz;go_wp2;go_roundw;case rel=>exact⟨j-1,by omega,by go_num,⟨HN.out.1.mono (by omega),HN.out.2⟩⟩
      case measure=>simp[intOf];omega
    ·obtain rfl:j=0:=by omega
     clear hj0;obtain⟨hE,ov,ops,hB,hO,hol⟩:=HJ.out;obtain⟨A8,c8,rfl,-⟩:=id hO.cell.1;obtain⟨hE0,rs,p,hD,hl,hM⟩:=HA.out;have HX:=aa (aL (hD.ex hE.1 hrl) (aL (show ER rb (m+55-10*q) w wr from ⟨hE0.1.trans hE.1,hE.2⟩) (aL hM ((eT.row hO).mono hE0.size))));have hp5:p.length+1<=4194304:=by omega
     have k0:=hB.c0;have k1:=hB.c1;clear hE hB hO HJ hE0 hD hM HA;go_wp2_with (at_builtin;refine halt ?_)
     refine Halt.go ?_;refine Sk (r:=⟨s,.slice A8 ops.length c8⟩) ⟨s,ops⟩ rfl rfl rfl rfl (HX.out.1.ext ((af _).alloc _)) (aI.lit _ _ _ _ [(⟨s,.slice A8 ops.length c8⟩:yO)] rfl) rfl hp5 (HX.out.2.1.alloc _).size rfl (HX.out.2.2.2.ext ((af _).alloc _)) ?_;intro v9 w9 hH hg;have HN:=aa (PL.pushed hrl HX.out.1 hl hq0 HX.out.2.2.1 HX.out.2.1 ((af _).alloc _) (show ops.length<=4 by omega) hH hg);clear hH hg k0 k1;go_wp2;go_roundw;case rel=>exact⟨q-1,_,rfl,by omega,by go_num,⟨HN.out.1.mono (by omega),HN.out.2⟩⟩
     case measure=>simp[intOf];omega
  ·obtain rfl:q=0:=by omega
   clear hq0;obtain⟨hE,rs,p,hD,hl,hM⟩:=HA.out;obtain⟨A,c,rfl⟩:=hD.slice;have HE:=aa (aL hE (aL hD hM));clear hE hD hM HA;go_wp2_with fail
   refine(Og rb _ n _ HE.out.1.2 (by omega) hn).mono ?_
   rintro e w8 ⟨b,rfl,r8,x8⟩;have KQ:Hid (ER rb (m+57) w w8):=⟨HE.out.1.1.trans x8,r8.mono (by omega)⟩;have WZ:=aa (HE.out.2.1.ex x8 hrl);have HM:=aa HE.out.2.2;clear HE r8 x8
   cases b with
   | false=>
     go_wp2;go_returns;exact⟨_,p,rfl,WZ.out.Qb,by omega,λd hd=>by have:=HM.out d hd;omega,KQ.out.mono (by omega)⟩
   | true=>
     have SA:=KQ.out.size;have ze:rb<w8.heap.size:=by omega
     go_wp2_with fail
     refine vN [47,48,49,50,51,52,53,54,55,56,57,58,59,60,61,62,63,64,65,66,67,68,69,5] (by kernel_rfl) (by kernel_rfl) (by kernel_rfl) (RP rb w.heap.size w8.heap.size (m+57) w (.slice A p.length c) rs p) (λj _ u W=>TP rb w.heap.size w8.heap.size (.slice A p.length c) j u W) (λi W W'=>K8 w8.heap.size W W'/\(i≠22->Ex rb W W')) ⟨KQ.out.1.drew,ay _,λ_=>KQ.out.2.drew,KQ.out.2.drew.mono (by omega),λ_=>WZ.out.ext (af _).drew⟩ ?_ ?_ ?_
     ·intro i' j L u W W' hne _ _ TA _ hdn hLj hst hT;by_cases e:i'=22
      ·by_cases hj:j<22
       ·exact TP.k8 hst.1 j u hj hT
       ·by_cases h3:j=23
        ·subst h3 e
         have:=hdn 23 _ rfl hLj { on:=22,ground:=.data } (by simp) rfl
         rw[TA]at this;cases this
        ·obtain⟨k,rfl⟩:∃k,j=k+24:=⟨j-24,by omega⟩;trivial
      ·exact TP.ex (hst.2 e) hrl SA j u hT
     ·intro i' o ho a n' W L hn' hsz TA hdl hdn hR hrest jC hkeep
      match i',ho with
      | 0,ho=>
        obtain rfl:=dS ho;have h23:L.getD 23 true=false:=by
         cases h:L.getD 23 true with
         | false=>rfl
         | true=>
           have a22:=hdn 23 _ rfl h { on:=22,ground:=.data } (by simp) rfl;have a0:=hdn 22 _ rfl a22 { on:=0,ground:=.data } (by simp) rfl;rw[TA]at a0;cases a0
        have h5:=hkeep 5 (λj oj hj hd=>by
         match j,hj with
         | 23,_=>exact h23
         | 0,hj=>cases hj;cases hd
         | 1,hj=>cases hj;cases hd
         | 2,hj=>cases hj;cases hd
         | 3,hj=>cases hj;cases hd
         | 4,hj=>cases hj;cases hd
         | 5,hj=>cases hj;cases hd
         | 6,hj=>cases hj;cases hd
         | 7,hj=>cases hj;cases hd
         | 8,hj=>cases hj;cases hd
         | 9,hj=>cases hj;cases hd
         | 10,hj=>cases hj;cases hd
         | 11,hj=>cases hj;cases hd
         | 12,hj=>cases hj;cases hd
         | 13,hj=>cases hj;cases hd
         | 14,hj=>cases hj;cases hd
         | 15,hj=>cases hj;cases hd
         | 16,hj=>cases hj;cases hd
         | 17,hj=>cases hj;cases hd
         | 18,hj=>cases hj;cases hd
         | 19,hj=>cases hj;cases hd
         | 20,hj=>cases hj;cases hd
         | 21,hj=>cases hj;cases hd
         | 22,hj=>cases hj;cases hd
         | _+24,hj=>cases hj)
        exact LU rfl ⟨λ_=>h5,(λh=>by cases h),hR.keep (af W) (by decide) (by decide),Bj ze (af W)⟩
      | 1,ho=>
        obtain rfl:=dS ho;refine ko (v:=.agg #[.int .i64 0,.slice none 0 0]) (w':=W) ?_ ⟨λ_=>rfl,(λh=>by cases h),hR.keep (af W) (by decide) (by decide),Bj ze (af W)⟩;simp only[execOp,Act.eval];go_simp
      | 2,ho=>
        obtain rfl:=dS ho;refine ko (v:=.agg #[.int .i64 1,.int .i64 0,.int .i64 0]) (w':=W) ?_ ⟨λ_=>rfl,(λh=>by cases h),hR.keep (af W) (by decide) (by decide),Bj ze (af W)⟩;simp only[execOp,Act.eval];go_simp
      | 3,ho=>
        obtain rfl:=dS ho;have e1:a.tmps.getD 49 undef=.agg #[.int .i64 1,.int .i64 0,.int .i64 0]:=jC 2 _ 49 ⟨{ on:=2,ground:=.data },by simp,rfl,rfl⟩ rfl rfl;refine ko (v:=.slice (some ⟨W.heap.size,0,none⟩) 1 1) (w':=W.alloc (.cells #[.int .i64 1,.int .i64 0,.int .i64 0] 67)) ?_ ⟨λ_=>eT.lit W _ [⟨1,0,0⟩] rfl rfl hR.2.1 (by decide),(λh=>by cases h),hR.keep ((af W).alloc _) (by decide) (by decide),Bj ze ((af W).alloc _)⟩;have g1:=e1;rw[Array.getD_eq_getD_getElem?]at g1;simp only[execOp,Act.eval,e1];go_simp
      | 4,ho=>
        obtain rfl:=dS ho;have h1:=jC 3 _ 50 ⟨{ on:=3,ground:=.data },by simp,rfl,rfl⟩ rfl rfl;obtain⟨A1,c1,e1,_⟩:=id h1.1;rw[e1]at h1;refine ko (v:=.agg #[.int .i64 (-1),.slice A1 ([⟨1,0,0⟩]:List aJ).length c1]) (w':=W) ?_ ⟨λ_=>⟨_,rfl,h1⟩,(λh=>by cases h),hR.keep (af W) (by decide) (by decide),Bj ze (af W)⟩;have g1:=e1;rw[Array.getD_eq_getD_getElem?]at g1;simp only[execOp,Act.eval,e1];go_simp
      | 5,ho=>
        obtain rfl:=dS ho;refine ko (v:=.agg #[.int .i64 3,.int .i64 0,.int .i64 0]) (w':=W) ?_ ⟨λ_=>rfl,(λh=>by cases h),hR.keep (af W) (by decide) (by decide),Bj ze (af W)⟩;simp only[execOp,Act.eval];go_simp
      | 6,ho=>
        obtain rfl:=dS ho;have e1:a.tmps.getD 52 undef=.agg #[.int .i64 3,.int .i64 0,.int .i64 0]:=jC 5 _ 52 ⟨{ on:=5,ground:=.data },by simp,rfl,rfl⟩ rfl rfl;refine ko (v:=.slice (some ⟨W.heap.size,0,none⟩) 1 1) (w':=W.alloc (.cells #[.int .i64 3,.int .i64 0,.int .i64 0] 67)) ?_ ⟨λ_=>eT.lit W _ [⟨3,0,0⟩] rfl rfl hR.2.1 (by decide),(λh=>by cases h),hR.keep ((af W).alloc _) (by decide) (by decide),Bj ze ((af W).alloc _)⟩;have g1:=e1;rw[Array.getD_eq_getD_getElem?]at g1;simp only[execOp,Act.eval,e1];go_simp
      | 7,ho=>
        obtain rfl:=dS ho;have h1:=jC 6 _ 53 ⟨{ on:=6,ground:=.data },by simp,rfl,rfl⟩ rfl rfl;obtain⟨A1,c1,e1,_⟩:=id h1.1;rw[e1]at h1;refine ko (v:=.agg #[.int .i64 (0),.slice A1 ([⟨3,0,0⟩]:List aJ).length c1]) (w':=W) ?_ ⟨λ_=>⟨_,rfl,h1⟩,(λh=>by cases h),hR.keep (af W) (by decide) (by decide),Bj ze (af W)⟩;have g1:=e1;rw[Array.getD_eq_getD_getElem?]at g1;simp only[execOp,Act.eval,e1];go_simp
      | 8,ho=>
        obtain rfl:=dS ho;refine ko (v:=.agg #[.int .i64 1,.int .i64 3,.int .i64 0]) (w':=W) ?_ ⟨λ_=>rfl,(λh=>by cases h),hR.keep (af W) (by decide) (by decide),Bj ze (af W)⟩;simp only[execOp,Act.eval];go_simp
      | 9,ho=>
        obtain rfl:=dS ho;have e1:a.tmps.getD 55 undef=.agg #[.int .i64 1,.int .i64 3,.int .i64 0]:=jC 8 _ 55 ⟨{ on:=8,ground:=.data },by simp,rfl,rfl⟩ rfl rfl;refine ko (v:=.slice (some ⟨W.heap.size,0,none⟩) 1 1) (w':=W.alloc (.cells #[.int .i64 1,.int .i64 3,.int .i64 0] 67)) ?_ ⟨λ_=>eT.lit W _ [⟨1,3,0⟩] rfl rfl hR.2.1 (by decide),(λh=>by cases h),hR.keep ((af W).alloc _) (by decide) (by decide),Bj ze ((af W).alloc _)⟩;have g1:=e1;rw[Array.getD_eq_getD_getElem?]at g1;simp only[execOp,Act.eval,e1];go_simp
      | 10,ho=>
        obtain rfl:=dS ho;have h1:=jC 9 _ 56 ⟨{ on:=9,ground:=.data },by simp,rfl,rfl⟩ rfl rfl;obtain⟨A1,c1,e1,_⟩:=id h1.1;rw[e1]at h1;refine ko (v:=.agg #[.int .i64 (0),.slice A1 ([⟨1,3,0⟩]:List aJ).length c1]) (w':=W) ?_ ⟨λ_=>⟨_,rfl,h1⟩,(λh=>by cases h),hR.keep (af W) (by decide) (by decide),Bj ze (af W)⟩;have g1:=e1;rw[Array.getD_eq_getD_getElem?]at g1;simp only[execOp,Act.eval,e1];go_simp
      | 11,ho=>
        obtain rfl:=dS ho;refine ko (v:=.agg #[.int .i64 2,.int .i64 0,.int .i64 1]) (w':=W) ?_ ⟨λ_=>rfl,(λh=>by cases h),hR.keep (af W) (by decide) (by decide),Bj ze (af W)⟩;simp only[execOp,Act.eval];go_simp
      | 12,ho=>
        obtain rfl:=dS ho;have e1:a.tmps.getD 58 undef=.agg #[.int .i64 2,.int .i64 0,.int .i64 1]:=jC 11 _ 58 ⟨{ on:=11,ground:=.data },by simp,rfl,rfl⟩ rfl rfl;refine ko (v:=.slice (some ⟨W.heap.size,0,none⟩) 1 1) (w':=W.alloc (.cells #[.int .i64 2,.int .i64 0,.int .i64 1] 67)) ?_ ⟨λ_=>eT.lit W _ [⟨2,0,1⟩] rfl rfl hR.2.1 (by decide),(λh=>by cases h),hR.keep ((af W).alloc _) (by decide) (by decide),Bj ze ((af W).alloc _)⟩;have g1:=e1;rw[Array.getD_eq_getD_getElem?]at g1;simp only[execOp,Act.eval,e1];go_simp
      | 13,ho=>
        obtain rfl:=dS ho;have h1:=jC 12 _ 59 ⟨{ on:=12,ground:=.data },by simp,rfl,rfl⟩ rfl rfl;obtain⟨A1,c1,e1,_⟩:=id h1.1;rw[e1]at h1;refine ko (v:=.agg #[.int .i64 (0),.slice A1 ([⟨2,0,1⟩]:List aJ).length c1]) (w':=W) ?_ ⟨λ_=>⟨_,rfl,h1⟩,(λh=>by cases h),hR.keep (af W) (by decide) (by decide),Bj ze (af W)⟩;have g1:=e1;rw[Array.getD_eq_getD_getElem?]at g1;simp only[execOp,Act.eval,e1];go_simp
      | 14,ho=>
        obtain rfl:=dS ho;have hmk:=X5.out W;refine ko (v:=.slice (some ⟨W.heap.size,0,none⟩) 5 5) (w':=W.alloc (.cells #[.int .i64 0,.int .i64 0,.int .i64 0,.int .i64 0,.int .i64 0,.int .i64 0,.int .i64 0,.int .i64 0,.int .i64 0,.int .i64 0,.int .i64 0,.int .i64 0,.int .i64 0,.int .i64 0,.int .i64 0] 67)) ?_ ⟨λ_=>eT.lit W _ [⟨0,0,0⟩,⟨0,0,0⟩,⟨0,0,0⟩,⟨0,0,0⟩,⟨0,0,0⟩] rfl rfl hR.2.1 (by decide),(λh=>by cases h),hR.keep ((af W).alloc _) (by decide) (by decide),Bj ze ((af W).alloc _)⟩;simp only[execOp,Act.eval];go_simp
      | 15,ho=>
        obtain rfl:=dS ho;have h1:=jC 14 _ 61 ⟨{ on:=14,ground:=.data },by simp,rfl,rfl⟩ rfl rfl;obtain⟨A1,c1,e1,_⟩:=id h1.1;rw[e1]at h1;refine ko (v:=.agg #[.int .i64 (0),.slice A1 ([⟨0,0,0⟩,⟨0,0,0⟩,⟨0,0,0⟩,⟨0,0,0⟩,⟨0,0,0⟩]:List aJ).length c1]) (w':=W) ?_ ⟨λ_=>⟨_,rfl,h1⟩,(λh=>by cases h),hR.keep (af W) (by decide) (by decide),Bj ze (af W)⟩;have g1:=e1;rw[Array.getD_eq_getD_getElem?]at g1;simp only[execOp,Act.eval,e1];go_simp
      | 16,ho=>
        obtain rfl:=dS ho;have e1:a.tmps.getD 48 undef=.agg #[.int .i64 0,.slice none 0 0]:=jC 1 _ 48 ⟨{ on:=1,ground:=.data },by simp,rfl,rfl⟩ rfl rfl;obtain⟨v4,e4,h4⟩:=jC 4 _ 51 ⟨{ on:=4,ground:=.data },by simp,rfl,rfl⟩ rfl rfl;obtain⟨A4,c4,rfl,_⟩:=id h4.1;obtain⟨v7,e7,h7⟩:=jC 7 _ 54 ⟨{ on:=7,ground:=.data },by simp,rfl,rfl⟩ rfl rfl;obtain⟨A7,c7,rfl,_⟩:=id h7.1;obtain⟨v10,e10,h10⟩:=jC 10 _ 57 ⟨{ on:=10,ground:=.data },by simp,rfl,rfl⟩ rfl rfl;obtain⟨Zm,c10,rfl,_⟩:=id h10.1;obtain⟨v13,e13,Zo⟩:=jC 13 _ 60 ⟨{ on:=13,ground:=.data },by simp,rfl,rfl⟩ rfl rfl;obtain⟨Zt,c13,rfl,_⟩:=id Zo.1;obtain⟨v15,e15,h15⟩:=jC 15 _ 62 ⟨{ on:=15,ground:=.data },by simp,rfl,rfl⟩ rfl rfl;obtain⟨A15,c15,rfl,_⟩:=id h15.1;have hh:=dx W (.cells #[.int .i64 0,.slice none 0 0,.int .i64 (-1),.slice A4 ([⟨1,0,0⟩]:List aJ).length c4,.int .i64 (0),.slice A7 ([⟨3,0,0⟩]:List aJ).length c7,.int .i64 (0),.slice Zm ([⟨1,3,0⟩]:List aJ).length c10,.int .i64 (0),.slice Zt ([⟨2,0,1⟩]:List aJ).length c13,.int .i64 (0),.slice A15 ([⟨0,0,0⟩,⟨0,0,0⟩,⟨0,0,0⟩,⟨0,0,0⟩,⟨0,0,0⟩]:List aJ).length c15] 79);refine ko (v:=.slice (some ⟨W.heap.size,0,none⟩) 6 6) (w':=W.alloc (.cells #[.int .i64 0,.slice none 0 0,.int .i64 (-1),.slice A4 ([⟨1,0,0⟩]:List aJ).length c4,.int .i64 (0),.slice A7 ([⟨3,0,0⟩]:List aJ).length c7,.int .i64 (0),.slice Zm ([⟨1,3,0⟩]:List aJ).length c10,.int .i64 (0),.slice Zt ([⟨2,0,1⟩]:List aJ).length c13,.int .i64 (0),.slice A15 ([⟨0,0,0⟩,⟨0,0,0⟩,⟨0,0,0⟩,⟨0,0,0⟩,⟨0,0,0⟩]:List aJ).length c15] 79)) ?_ ⟨λ_=>⟨W.heap.size,rfl,hR.2.1,λi hi=>?_⟩,(λh=>by cases h),hR.keep ((af W).alloc _) (by decide) (by decide),Bj ze ((af W).alloc _)⟩
        ·have g1:=e1;have g4:=e4;have g7:=e7;have g10:=e10;have g13:=e13;have g15:=e15;rw[Array.getD_eq_getD_getElem?]at g1 g4 g7 g10 g13 g15;simp only[execOp,Act.eval,e1,e4,e7,e10,e13,e15];go_simp
        ·match i,hi with
         | 0,_=>exact⟨0,.slice none 0 0,[],az rfl,az rfl,eT.none _ _,by simp⟩
         | 1,_=>exact⟨-1,_,_,az rfl,az rfl,h4.ext ((af W).alloc _),by simp⟩
         | 2,_=>exact⟨0,_,_,az rfl,az rfl,h7.ext ((af W).alloc _),by simp⟩
         | 3,_=>exact⟨0,_,_,az rfl,az rfl,h10.ext ((af W).alloc _),by simp⟩
         | 4,_=>exact⟨0,_,_,az rfl,az rfl,Zo.ext ((af W).alloc _),by simp⟩
         | 5,_=>exact⟨0,_,_,az rfl,az rfl,h15.ext ((af W).alloc _),by simp⟩
      | 17,ho=>
        obtain rfl:=dS ho;exact LU rfl ⟨λ_=>hrest 0 (by decide),(λh=>by cases h),hR.keep (af W) (by decide) (by decide),Bj ze (af W)⟩
      | 18,ho=>
        obtain rfl:=dS ho;have e1:a.tmps.getD 64 undef=.pointer (some ⟨rb,0,none⟩):=jC 17 _ 64 ⟨{ on:=17,ground:=.data },by simp,rfl,rfl⟩ rfl rfl;refine Rj (args:=#[.pointer (some ⟨rb,0,none⟩),.int .i64 6]) rfl (λ_ _=>by kernel_rfl) (by simp[Act.eval,e1]) ?_
        refine(jR rb _ 6 _ (hR.2.2.1 TA) (by omega) (by decide) (by decide)).mono ?_
        rintro e W2 ⟨k,he,k0,k1,rr,xx⟩;obtain⟨k,rfl⟩:=iH k0;exact⟨_,he,λ_=>⟨k,rfl,by omega⟩,(λh=>by cases h),⟨hR.1.trans xx,aR hR.2.1 xx.size,λh=>(by rw[jS true (by rw[hsz];decide)]at h;cases h),rr,λh=>(hR.2.2.2.2 (by rwa [getD_set_ne true (by omega)]at h)).ex xx hrl⟩,K8.Mg xx ze,λ_=>xx⟩
      | 19,ho=>
        obtain rfl:=dS ho;obtain⟨b,e1,hb,hc⟩:=jC 16 _ 63 ⟨{ on:=16,ground:=.data },by simp,rfl,rfl⟩ rfl rfl;obtain⟨k,e2,hk⟩:=jC 18 _ 65 ⟨{ on:=18,ground:=.data },by simp,rfl,rfl⟩ rfl rfl;obtain⟨s,v,ops,c0,c1,ho,hl⟩:=hc k hk;have hk0:(0:Int)<=(k:Int):=by omega
        have hk6:(k:Int)<6:=by omega
        refine ko (v:=.pointer (some ⟨b,k*2,none⟩)) (w':=W) ?_ ⟨λ_=>⟨b,k*2,s,v,ops,rfl,hb,c0,c1,ho,hl⟩,(λh=>by cases h),hR.keep (af W) (by decide) (by decide),Bj ze (af W)⟩;have g1:=e1;have g2:=e2;rw[Array.getD_eq_getD_getElem?]at g1 g2;simp only[execOp,Act.eval,e1,e2];go_simp
      | 20,ho=>
        obtain rfl:=dS ho;obtain⟨b,o,s,v,ops,e1,hb,c0,c1,ho,hl⟩:=jC 19 _ 66 ⟨{ on:=19,ground:=.data },by simp,rfl,rfl⟩ rfl rfl;refine ko (v:=.agg #[.int .i64 s,v]) (w':=W) ?_ ⟨λ_=>⟨s,v,ops,rfl,ho,hl⟩,(λh=>by cases h),hR.keep (af W) (by decide) (by decide),Bj ze (af W)⟩;have g1:=e1;rw[Array.getD_eq_getD_getElem?]at g1;simp only[execOp,Act.eval,e1];go_simp
      | 21,ho=>
        obtain rfl:=dS ho;obtain⟨s,v,ops,e1,ho,hl⟩:=jC 20 _ 67 ⟨{ on:=20,ground:=.data },by simp,rfl,rfl⟩ rfl rfl;obtain⟨A1,c1,rfl,_⟩:=id ho.1;have hh:=dx W (.cells #[.int .i64 s,.slice A1 ops.length c1] 79);refine ko (v:=.slice (some ⟨W.heap.size,0,none⟩) 1 1) (w':=W.alloc (.cells #[.int .i64 s,.slice A1 ops.length c1] 79)) ?_ ⟨λ_=>⟨W.heap.size,s,_,ops,rfl,hR.2.1,by simp,az rfl,az rfl,ho.ext ((af W).alloc _),hl⟩,(λh=>by cases h),hR.keep ((af W).alloc _) (by decide) (by decide),Bj ze ((af W).alloc _)⟩;have g1:=e1;rw[Array.getD_eq_getD_getElem?]at g1;simp only[execOp,Act.eval,e1];go_simp
      | 22,ho=>
        obtain rfl:=dS ho;have e1:a.tmps.getD 47 undef=.slice A p.length c:=jC 0 _ 47 ⟨{ on:=0,ground:=.data },by simp,rfl,rfl⟩ rfl rfl;obtain⟨q9,s,v,ops,e2,hq,BH,c0,c1,ho,hl9⟩:=jC 21 _ 68 ⟨{ on:=21,ground:=.data },by simp,rfl,rfl⟩ rfl rfl;obtain⟨A1,c3,rfl,_⟩:=id ho.1;have Sd:=hR.2.2.2.2 TA;have hsrc:aI 2 encDrV W (.slice (some ⟨q9,0,none⟩) 1 1) [(⟨s,.slice A1 ops.length c3⟩:yO)]:=⟨_,1,rfl,λ_=>⟨q9,0,rfl,BH,λi x hx j hj=>by
         obtain rfl:i=0:=by have:=(aS.1 hx).1;simp at this;exact this
         obtain rfl:(⟨s,.slice A1 ops.length c3⟩:yO)=x:=by simpa using hx
         match j,hj with
         | 0,_=>exact c0
         | 1,_=>exact c1⟩⟩
        obtain⟨v9,w9,hrun,hrow,hg⟩:=mU (P:=Tryz.prog) (t:=36) (ty:=36) (e:=79) Tryz.underlying36 yV rfl (by omega) Sd.row hsrc (λx hx j=>by simp at hx;subst hx;unfold encDrV;split<;>rfl) (by rw[Sd.len];simp;omega) (by omega) hR.1.size
        have hH:=Sd.push (t:=⟨s,ops⟩) hrow hg rfl (ho.mono SA);have hbl:∀k,(Value.slice A p.length c).ownBlock=some k->k<w8.heap.size:=λk hk=>(World.ownsRow.lt WZ.out.row k hk).2;refine Ml (s:=.tmp 47) (x:=.tmp 68) rfl e1 e2 ⟨v9,w9,hrun,λ_=>⟨_,_,hH,by simp;omega,λd hd=>?_⟩,(λh=>by cases h),⟨hR.1.grown hg (λk hk=>Sd.row.block k hk),aR hR.2.1 hg.size,λh=>(hR.2.2.1 (by rwa [getD_set_ne true (by omega)]at h)).grown hg (λk hk=>dJ hrl (Sd.row.block k hk)),hR.2.2.2.1.grown hg (λk hk=>dJ hrl (Sd.row.block k hk)),λh=>(by rw[jS true (by rw[hsz];decide)]at h;cases h)⟩,⟨hg.size,λk hB hk=>hg.block k hk (λe=>by have:=hbl k e.symm;omega)⟩,λh=>absurd rfl h⟩;rcases iR.1 hd with hd|hd
        ·have:=HM.out d hd;omega
        ·simp at hd;subst hd;exact hl9
      | 23,ho=>
        obtain rfl:=dS ho;exact Nr rfl ⟨λ_=>jC 22 _ 69 ⟨{ on:=22,ground:=.data },by simp,rfl,rfl⟩ rfl rfl,(λh=>by cases h),hR.keep (af W) (by decide) (by decide),Bj ze (af W)⟩
      | _+24,ho=>cases ho
     ·intro a W hR hsz hdf hrest U2 hbare;obtain⟨XO,p9,hP,hpl,hps⟩:=U2 23 _ 5 rfl rfl;obtain⟨x47,e47⟩:∃x,a.tmps.getD 47 undef=x:=⟨_,rfl⟩;obtain⟨x48,e48⟩:∃x,a.tmps.getD 48 undef=x:=⟨_,rfl⟩;obtain⟨x49,e49⟩:∃x,a.tmps.getD 49 undef=x:=⟨_,rfl⟩;obtain⟨x50,e50⟩:∃x,a.tmps.getD 50 undef=x:=⟨_,rfl⟩;obtain⟨x51,e51⟩:∃x,a.tmps.getD 51 undef=x:=⟨_,rfl⟩;obtain⟨x52,e52⟩:∃x,a.tmps.getD 52 undef=x:=⟨_,rfl⟩;obtain⟨x53,e53⟩:∃x,a.tmps.getD 53 undef=x:=⟨_,rfl⟩;obtain⟨x54,e54⟩:∃x,a.tmps.getD 54 undef=x:=⟨_,rfl⟩;obtain⟨x55,e55⟩:∃x,a.tmps.getD 55 undef=x:=⟨_,rfl⟩;obtain⟨x56,e56⟩:∃x,a.tmps.getD 56 undef=x:=⟨_,rfl⟩;obtain⟨x57,e57⟩:∃x,a.tmps.getD 57 undef=x:=⟨_,rfl⟩;obtain⟨x58,e58⟩:∃x,a.tmps.getD 58 undef=x:=⟨_,rfl⟩;obtain⟨x59,e59⟩:∃x,a.tmps.getD 59 undef=x:=⟨_,rfl⟩;obtain⟨x60,e60⟩:∃x,a.tmps.getD 60 undef=x:=⟨_,rfl⟩;obtain⟨x61,e61⟩:∃x,a.tmps.getD 61 undef=x:=⟨_,rfl⟩;obtain⟨x62,e62⟩:∃x,a.tmps.getD 62 undef=x:=⟨_,rfl⟩;obtain⟨x63,e63⟩:∃x,a.tmps.getD 63 undef=x:=⟨_,rfl⟩;obtain⟨x64,e64⟩:∃x,a.tmps.getD 64 undef=x:=⟨_,rfl⟩;obtain⟨x65,e65⟩:∃x,a.tmps.getD 65 undef=x:=⟨_,rfl⟩;obtain⟨x66,ZJ⟩:∃x,a.tmps.getD 66 undef=x:=⟨_,rfl⟩;obtain⟨x67,e67⟩:∃x,a.tmps.getD 67 undef=x:=⟨_,rfl⟩;obtain⟨x68,Zj⟩:∃x,a.tmps.getD 68 undef=x:=⟨_,rfl⟩;obtain⟨x69,e69⟩:∃x,a.tmps.getD 69 undef=x:=⟨_,rfl⟩;obtain⟨x5,e5⟩:∃x,a.tmps.getD 5 undef=x:=⟨_,rfl⟩;rw[e5]at hP;have HP:=aa hP;have K7:Hid (ER rb (m+60) w W):=⟨hR.1,hR.2.2.2.1.mono (by omega)⟩;have ha:=LX hsz hdf hrest [(47,x47),(48,x48),(49,x49),(50,x50),(51,x51),(52,x52),(53,x53),(54,x54),(55,x55),(56,x56),(57,x57),(58,x58),(59,x59),(60,x60),(61,x61),(62,x62),(63,x63),(64,x64),(65,x65),(66,x66),(67,x67),(68,x68),(69,x69),(5,x5)] rfl ⟨by decide,λd hd=>(by decide:∀d∈([47,48,49,50,51,52,53,54,55,56,57,58,59,60,61,62,63,64,65,66,67,68,69,5]:List Nat),d<71) d hd⟩ (by simp only[List.forall_mem_cons];exact⟨e47,e48,e49,e50,e51,e52,e53,e54,e55,e56,e57,e58,e59,e60,e61,e62,e63,e64,e65,ZJ,e67,Zj,e69,e5,λ_ h=>by cases h⟩);clear hsz hdf hrest U2 hbare hR hP e47 e48 e49 e50 e51 e52 e53 e54 e55 e56 e57 e58 e59 e60 e61 e62 e63 e64 e65 ZJ e67 Zj e69 e5;subst ha;simp only[kL,List.foldl_nil,Act.put,List.setIfInBounds_toArray,List.set_cons_zero,List.set_cons_succ];go_wp2;go_returns;exact⟨_,p9,rfl,HP.out.Qb,hpl,hps,K7.out⟩
theorem vE{v:Value}(w:World)(h:IM w v):Calls Tryz.prog 17 #[v] w λe w'=>∃u p,e=.returned u/\vT w' u p/\p.length<=2097152/\(∀d∈p,d.steps.length<=2097152)/\Ext w w':=by
 have H:=aa h;clear h;go_enter Tryz.func17,Tryz.ntmps17;go_wp2_with fail
 refine(KO _ H.out).mono ?_
 rintro e w1 ⟨rb,rfl,hl,r1,b1⟩;have HB:=aa b1;clear b1;go_wp2_with fail
 refine(GA rb 0 6 w1 r1 (by decide) (by decide)).mono ?_
 rintro e w2 ⟨u,p,rfl,hp,hlen,hst,x2,r2⟩;have HE:=aa (HB.out.ex x2 hl);have HP:=aa hp;clear x2 r1 r2 hp;go_wp2;go_returns;exact⟨_,p,rfl,HP.out,by omega,λd hd=>by have:=hst d hd;omega,HE.out⟩
