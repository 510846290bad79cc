/- Lemmas. -/
import Derived.Test.YtomkjlklninhpaaGreatDoorKAB
import Derived.Test.YtomkjlklninhpaaGreatDoorKAC
import Derived.Laws.StructEq
set_option maxHeartbeats 16000000
set_option maxRecDepth 8000
set_option linter.all false
namespace Go.Proofs.YtomkjlklninhpaaGreatDoor
open Go.RowKit
structure aA where
 az:Int
 ops:List aQ
 done:Bool
theorem aQ.ext'{a b:aQ}(h1:a.kind=b.kind)(h2:a.key=b.key)(h3:a.value=b.value):a=b:=by cases a;cases b;simp_all
instance:DecidableEq aQ:=fun a b=>
 if h:a.kind=b.kind/\a.key=b.key/\a.value=b.value then isTrue (aQ.ext' h.1 h.2.1 h.2.2) else isFalse (fun e=>h (by subst e;exact⟨rfl,rfl,rfl⟩))
instance:Inhabited aQ:=⟨⟨0,0,0⟩⟩
instance:Inhabited aA:=⟨⟨0,[],false⟩⟩
def mM(o:aQ):Bool:=o.kind==1
def iN(o:aQ):Bool:=o.kind==2
def gH(o:aQ):Bool:=(mM o || iN o)&&jR o.key 0 2&&jR o.value 0 99 && !(iN o&&o.value==0)
def bX(t:aA):Bool:=jR t.az 0 3&&decide (t.ops.length<=6)&&t.ops.all gH
def fH(n:Nat)(ops:List aQ):List ((Int × Int) × Nat):=(ops.filter iN).map fun o=>((o.key,o.value),n)
def dL:Nat->List aA->List ((Int × Int) × Nat)
 | _,[]=>[]
 | n,t :: h=>fH n t.ops++dL (n+1) h
def Bo(h:List aA):List ((Int × Int) × Nat):=dL 0 h
def jh(h:List aA):Bool:=decide ((Bo h).map (·.1)).Nodup
def aC(h:List aA):Bool:=decide (h.length<=6)&&h.all bX&&jh h
def lookW(l:List ((Int × Int) × Nat))(q:Int × Int):Option Nat:=(l.find? (fun p=>p.1==q)).map (·.2)
def aB(h:List aA)(key value:Int):Int:=((lookW (Bo h) (key,value)).map fun n=>(n:Int)).getD (-1)
theorem KV(n:Nat)(a b:List aQ):fH n (a++b)=fH n a++fH n b:=by simp[fH]
theorem vB(n:Nat)(a b:List aA):dL n (a++b)=dL n a++dL (n+a.length) b:=by
 induction a generalizing n with
 | nil=>simp[dL]
 | cons t a ih=>simp[dL,ih,List.append_assoc,Nat.add_assoc,Nat.add_comm 1]
theorem ah{α:Type}{l:List α}{k:Nat}{x:α}(h:l[k]? =some x):l.take (k+1)=l.take k++[x]:=by rw[List.take_add_one,h];rfl
theorem Gd{α:Type}{l:List α}{k:Nat}{x:α}(h:l[k]? =some x):l=l.take k++x :: l.drop (k+1):=by obtain⟨hk,rfl⟩:=List.getElem?_eq_some_iff.1 h;rw[<-List.drop_eq_getElem_cons hk,List.take_append_drop]
def dB(h:List aA)(k:Nat)(ops:List aQ)(j:Nat):List ((Int × Int) × Nat):=dL 0 (h.take k)++fH k (ops.take j)
theorem qF{h:List aA}{k j:Nat}{ops:List aQ}{o:aQ}(ho:ops[j]? =some o)(hw:iN o=true):dB h k ops (j+1)=dB h k ops j++[((o.key,o.value),k)]:=by simp[dB,ah ho,fH,hw,List.filter_cons]
theorem yg{h:List aA}{k j:Nat}{ops:List aQ}{o:aQ}(ho:ops[j]? =some o)(hw:iN o=false):dB h k ops (j+1)=dB h k ops j:=by simp[dB,ah ho,fH,hw,List.filter_cons]
theorem Ck{h:List aA}{k:Nat}{t:aA}(ht:h[k]? =some t):dB h k t.ops t.ops.length=dL 0 (h.take (k+1)):=by have hk:k<h.length:=(List.getElem?_eq_some_iff.1 ht).1;rw[dB,ah ht,vB,List.take_length];simp[dL,Nat.min_eq_left (Nat.le_of_lt hk)]
theorem BS{h:List aA}{k j:Nat}{t:aA}{o:aQ}(ht:h[k]? =some t)(ho:t.ops[j]? =some o)(hw:iN o=true) :
 ∃l,Bo h=dB h k t.ops j++((o.key,o.value),k) :: l:=by
 have hk:k<h.length:=(List.getElem?_eq_some_iff.1 ht).1;have e1:Bo h=dL 0 (h.take k)++(fH k t.ops++dL (k+1) (h.drop (k+1))):=by
  unfold Bo
  conv=>lhs;rw[Gd ht]
  rw[vB];simp[dL,Nat.min_eq_left (Nat.le_of_lt hk)]
 have e2:fH k t.ops=fH k (t.ops.take j)++((o.key,o.value),k) :: fH k (t.ops.drop (j+1)):=by
  conv=>lhs;rw[Gd ho]
  rw[KV];simp[fH,List.filter_cons,hw]
 exact⟨fH k (t.ops.drop (j+1))++dL (k+1) (h.drop (k+1)),by rw[e1,e2,dB];simp⟩
theorem tH{l:List ((Int × Int) × Nat)}{q:Int × Int}:lookW l q=none↔q∉l.map (·.1):=by
 unfold lookW;rw[Option.map_eq_none_iff,List.find?_eq_none];constructor
 ·intro h hq;obtain⟨p,hp,rfl⟩:=List.mem_map.1 hq;exact h p hp (by simp)
 ·intro h p hp e;exact h (List.mem_map.2 ⟨p,hp,by simpa using e⟩)
theorem QO(l:List ((Int × Int) × Nat))(q:Int × Int)(n:Nat)(hq:lookW l q=none)(r:Int × Int):lookW (l++[(q,n)]) r=if r=q then some n else lookW l r:=by
 by_cases e:r=q
 ·subst e;rw[if_pos rfl];unfold lookW at hq ⊢;rw[Option.map_eq_none_iff]at hq;simp[List.find?_append,hq]
 ·rw[if_neg e];unfold lookW;rw[List.find?_append]
  have:(q==r)=false:=by simp;exact fun h=>e h.symm
  cases l.find? (fun p=>p.1==r)<;>simp[this]
theorem xR{h:List aA}{k j n:Nat}{t:aA}{o:aQ}(ht:h[k]? =some t)(ho:t.ops[j]? =some o)(hw:iN o=true)(hl:lookW (dB h k t.ops j) (o.key,o.value)=some n):jh h=false:=by
 obtain⟨l,e⟩:=BS ht ho hw;unfold jh;rw[e,decide_eq_false_iff_not,List.map_append,List.nodup_append];intro hnd;have hmem:(o.key,o.value)∈(dB h k t.ops j).map (·.1):=by
  rcases Classical.em ((o.key,o.value)∈(dB h k t.ops j).map (·.1)) with h'|h'
  ·exact h'
  ·rw[tH.2 h']at hl;cases hl
 exact hnd.2.2 _ hmem _ (by simp) rfl
theorem Dl{h:List aA}(hn:(Bo h).map (·.1) |>.Nodup):jh h=true:=by unfold jh;exact decide_eq_true hn
theorem QI{l:List ((Int × Int) × Nat)}{q:Int × Int}{n:Nat}(hl:(l.map (·.1)).Nodup)(hq:lookW l q=none):((l++[(q,n)]).map (·.1)).Nodup:=by rw[List.map_append,List.nodup_append];exact⟨hl,by simp,fun a ha b hb e=>tH.1 hq (by simp at hb;rw[<-hb,<-e];exact ha)⟩
theorem jC{t:aA}(h:bX t=true):0<=t.az/\t.az<=3:=by simp only[bX,Bool.and_eq_true]at h;exact bL.1 h.1.1
theorem bU{t:aA}(h:bX t=true):t.ops.length<=6:=by simp only[bX,Bool.and_eq_true,decide_eq_true_eq]at h;exact h.1.2
theorem eT{t:aA}(h:bX t=true){o:aQ}(ho:o∈t.ops):gH o=true:=by simp only[bX,Bool.and_eq_true,List.all_eq_true]at h;exact h.2 o ho
theorem nL{o:aQ}(h:gH o=true):o.kind=1∨o.kind=2:=by simp only[gH,mM,iN,Bool.and_eq_true,Bool.or_eq_true,beq_iff_eq]at h;exact h.1.1.1
theorem iB{o:aQ}(h:gH o=true):0<=o.key/\o.key<=2:=by simp only[gH,Bool.and_eq_true]at h;exact bL.1 h.1.1.2
theorem j5{o:aQ}(h:gH o=true):0<=o.value/\o.value<=99:=by simp only[gH,Bool.and_eq_true]at h;exact bL.1 h.1.2
theorem yG{o:aQ}(h:gH o=true)(hw:iN o=true):0<o.value:=by
 have hv:=j5 h;simp only[gH,Bool.and_eq_true,hw,Bool.true_and,Bool.not_eq_true',beq_eq_false_iff_ne]at h
 have:=h.2;omega
theorem aM{h:List aA}(hh:aC h=true):h.length<=6:=by simp only[aC,Bool.and_eq_true,decide_eq_true_eq]at hh;exact hh.1.1
theorem bY{h:List aA}(hh:aC h=true){t:aA}(ht:t∈h):bX t=true:=by simp only[aC,Bool.and_eq_true,List.all_eq_true]at hh;exact hh.1.2 t ht
theorem Kz{h:List aA}(hh:aC h=true):(Bo h).map (·.1) |>.Nodup:=by simp only[aC,jh,Bool.and_eq_true,decide_eq_true_eq]at hh;exact hh.2
theorem av{w:World}{cs:Array Value}{T:TypeId}{j:Nat}{v:Value}(h:cs[j]? =some v):(w.alloc (.cells cs T)).cell? ⟨w.heap.size,j,none⟩=some v:=by rw[cell_of_row _ _ j _ T (0,0) (heap_alloc_new w _)];exact h
theorem fT{w:World}{cs:Array Value}{T:TypeId}{j k:Nat}{v:Value}(hk:w.heap.size=k)(h:cs[j]? =some v):(w.alloc (.cells cs T)).cell? ⟨k,j,none⟩=some v:=hk▸av h
theorem gN{w:World}{cs:Array Value}{T:TypeId}{k:Nat}(j:Nat)(hk:w.heap.size=k):(w.alloc (.cells cs T)).frozen? ⟨k,j,none⟩=false:=by subst hk;simp only[World.frozen?,heap_alloc_new];simp
theorem Pv(W:World)(a:Addr)(v:Value):W.grownBy (W.setCell a v) (some a.block):=
 ⟨rfl,rfl,rfl,by simp[World.setCell],fun k _ hk=>Below.heap_setCell _ _ _ k (fun e=>hk (by rw[e]))⟩
theorem Row.Cg{α:Type}{e:TypeId}{m:Nat}{enc:α->Nat->Value}{base:Nat}{w:World}{v:Value}{xs:List α}(h:Row e m enc base w v xs){a:Addr}(ha:a.block<base)(u:Value):Row e m enc base (w.setCell a u) v xs:=by
 refine World.ownsRow.kept h (Pv w a u) ?_
 cases hv:v.ownBlock with
 | none=>exact .inl rfl
 | some k=>exact .inr (fun e=>by cases e;have:=h.block _ hv;omega)
structure iX where
 az:Int
 aY:Value
 done:Bool
def iT(x:iX):Nat->Value
 | 0=>.int .i64 x.az
 | 1=>x.aY
 | _=>.bool x.done
def qL(v:Value):Prop:=∀A n c,v=.slice A n c->n<=c/\c<=9223372036854775807
theorem mQ{A:Option Addr}{n c:Nat}(h:n<=c)(h2:c<=9223372036854775807):qL (.slice A n c):=fun _ _ _ e=>by cases e;exact⟨h,h2⟩
def Bu(w:World)(r:iX)(t:aA):Prop:=r.az=t.az/\r.done=t.done/\aF 3 aj w r.aY t.ops/\qL r.aY
def jI(w:World)(v:Value)(rs:List iX)(h:List aA):Prop:=
 rs.length=h.length/\aF 3 iT w v rs/\∀(i:Nat) r t,rs[i]? =some r->h[i]? =some t->Bu w r t
def gL(w:World)(v:Value)(h:List aA):Prop:=∃rs,jI w v rs h
theorem Bu.ext{w w':World}{r:iX}{t:aA}(h:Bu w r t)(hb:Ext w w'):Bu w' r t:=⟨h.1,h.2.1,h.2.2.1.ext hb,h.2.2.2⟩
theorem jI.ext{w w':World}{v:Value}{rs:List iX}{h:List aA}(H:jI w v rs h)(hb:Ext w w'):jI w' v rs h:=
 ⟨H.1,H.2.1.ext hb,fun i r t hr ht=>(H.2.2 i r t hr ht).ext hb⟩
theorem gL.ext{w w':World}{v:Value}{h:List aA}(H:gL w v h)(hb:Ext w w'):gL w' v h:=let ⟨rs,H⟩:=H;⟨rs,H.ext hb⟩
theorem gL.slice{w:World}{v:Value}{h:List aA}(H:gL w v h):∃A c,v=.slice A h.length c:=by obtain⟨rs,h1,⟨A,c,rfl,_⟩,_⟩:=H;exact⟨A,c,by rw[h1]⟩
theorem gL.aaa{w:World}{A:Option Addr}{n c:Nat}{h:List aA}(H:gL w (.slice A n c) h)(hn:0<h.length) :
 ∃b off,A=some ⟨b,off,none⟩/\b<w.heap.size/\∀(k:Nat) t,h[k]? =some t->∃ov,w.cell? ⟨b,off+k*3,none⟩=some (.int .i64 t.az)/\w.cell? ⟨b,off+k*3+1,none⟩=some ov/\w.cell? ⟨b,off+k*3+2,none⟩=some (.bool t.done)/\aF 3 aj w ov t.ops/\qL ov:=by
 obtain⟨rs,h1,⟨A',c',hA,hc⟩,h3⟩:=H;injection hA with e1 e2 e3;subst e1;obtain⟨b,off,rfl,hb,hc⟩:=hc (by omega);refine⟨b,off,rfl,hb,fun k t ht=>?_⟩;obtain⟨r,hr⟩:=af (show k<rs.length by rw[h1];exact(List.getElem?_eq_some_iff.1 ht).1);obtain⟨e1,e2,hs,hcp⟩:=h3 k r t hr ht;refine⟨r.aY,?_,?_,?_,hs,hcp⟩
 ·have:=hc k r hr 0 (by omega);rw[<-e1];exact this
 ·exact hc k r hr 1 (by omega)
 ·have:=hc k r hr 2 (by omega);rw[<-e2];exact this
theorem gL.head{w:World}{A:Option Addr}{n c:Nat}{h:List aA}(H:gL w (.slice A n c) h)(hn:0<h.length) :
 ∃b off,A=some ⟨b,off,none⟩/\b<w.heap.size/\∀(k:Nat) t,h[k]? =some t->∃ov,w.cell? ⟨b,off+k*3,none⟩=some (.int .i64 t.az)/\w.cell? ⟨b,off+k*3+1,none⟩=some ov/\w.cell? ⟨b,off+k*3+2,none⟩=some (.bool t.done)/\aF 3 aj w ov t.ops:=
 let ⟨b,off,h1,h2,h3⟩:=H.aaa hn
 ⟨b,off,h1,h2,fun k t ht=>let ⟨ov,c0,c1,c2,hs,_⟩:=h3 k t ht;⟨ov,c0,c1,c2,hs⟩⟩
def iZ(lo:Nat)(w:World)(v:Value)(rs:List iX):Prop:=
 Own lo w v/\(∀(i:Nat) r,rs[i]? =some r->Own lo w r.aY/\Apart v r.aY)/\∀(i j:Nat) r r',i<j->rs[i]? =some r->rs[j]? =some r'->Apart r.aY r'.aY
theorem iZ.ext{lo:Nat}{w w':World}{v:Value}{rs:List iX}(h:iZ lo w v rs)(hb:Ext w w'):iZ lo w' v rs:=
 ⟨h.1.ext hb,fun i r hr=>⟨(h.2.1 i r hr).1.ext hb,(h.2.1 i r hr).2⟩,h.2.2⟩
theorem iZ.mono{lo lo':Nat}{w:World}{v:Value}{rs:List iX}(h:iZ lo w v rs)(hl:lo'<=lo):iZ lo' w v rs:=
 ⟨h.1.mono hl,fun i r hr=>⟨(h.2.1 i r hr).1.mono hl,(h.2.1 i r hr).2⟩,h.2.2⟩
theorem iZ.only{lo:Nat}{w w':World}{v x:Value}{rs:List iX}(h:iZ lo w v rs)(ho:Only x w w'):iZ lo w' v rs:=
 ⟨h.1.only ho,fun i r hr=>⟨(h.2.1 i r hr).1.only ho,(h.2.1 i r hr).2⟩,h.2.2⟩
def qj(w:World)(h:List aA)(e:Ending)(w':World):Prop:=
 ∃v rs,e=.returned v/\jI w' v rs h/\iZ w.heap.size w' v rs/\Ext w w'
def iY(I:TypeId)(w:World)(u:Value):Prop:=∀a n c,u=.slice (some a) n c->0<n->∃cs fr,w.heap[a.block]? =some (.cells cs I fr)
theorem iY.ext{I:TypeId}{w w':World}{u:Value}(h:iY I w u)(hb:Ext w w'):iY I w' u:=fun a n c hu hn=>by obtain⟨cs,fr,hg⟩:=h a n c hu hn;exact⟨cs,fr,(Below.block hb _ (Array.getElem?_eq_some_iff.1 hg).1).trans hg⟩
theorem Row.KQ{α:Type}{e:TypeId}{m:Nat}{enc:α->Nat->Value}{base:Nat}{w:World}{v:Value}{xs:List α}(h:Row e m enc base w v xs):iY e w v:=by
 intro a n c hv hn;rcases h.2 with ⟨rfl,_⟩|⟨g,cap,cur,rfl,hb,hg,_⟩
 ·cases hv
 ·injection hv with h1 _ _;injection h1 with h1;subst h1;exact⟨cur,_,hg⟩
theorem Row.far{α:Type}{e I:TypeId}{m:Nat}{enc:α->Nat->Value}{base:Nat}{w:World}{v u:Value}{xs:List α}(h:Row e m enc base w v xs)(hu:iY I w u)(hne:e≠I) :
 ∀a n c,u=.slice (some a) n c->0<n->v.ownBlock≠some a.block:=by
 intro a n c e1 hn e2;rcases h.2 with ⟨rfl,_⟩|⟨g,cap,cur,rfl,hb,hg,_⟩
 ·simp[Value.ownBlock]at e2
 ·simp[Value.ownBlock]at e2;obtain⟨cs,fr,hx⟩:=hu a n c e1 hn;rw[<-e2,hg]at hx;injection hx with hx;injection hx with _ h2 _;exact hne h2
theorem vD{w w':World}{row:Option Nat}(hg:w.grownBy w' row){k:Nat}(hk:k<w.heap.size)(hr:row≠some k):w'.heap[k]? =w.heap[k]?:=hg.block k hk (fun e=>hr e.symm)
theorem aF.grown{α:Type}{m:Nat}{enc:α->Nat->Value}{w w':World}{u:Value}{xs:List α}{row:Option Nat}(h:aF m enc w u xs)(hg:w.grownBy w' row)(hr:∀a n c,u=.slice (some a) n c->0<n->row≠some a.block):aF m enc w' u xs:=by obtain⟨A,c,hA,h⟩:=h;refine⟨A,c,hA,fun hn=>?_⟩;obtain⟨b,off,hb,hlt,hc⟩:=h hn;subst hb;exact⟨b,off,rfl,Nat.lt_of_lt_of_le hlt hg.size,fun i x hx j hj=>by rw[<-hc i x hx j hj];simp only[World.cell?,vD hg hlt (hr _ _ _ hA hn)]⟩
theorem Own.grown{lo:Nat}{w w':World}{u:Value}{row:Option Nat}(h:Own lo w u)(hg:w.grownBy w' row)(hr:∀a n c,u=.slice (some a) n c->0<n->row≠some a.block):Own lo w' u:=by intro a n c hu hn;obtain⟨h1,h2,h3⟩:=h a n c hu hn;exact⟨h1,Nat.lt_of_lt_of_le h2 hg.size,fun i=>by rw[<-h3 i];simp only[World.frozen?,vD hg h2 (hr a n c hu hn)]⟩
theorem iY.grown{I:TypeId}{w w':World}{u:Value}{row:Option Nat}(h:iY I w u)(hg:w.grownBy w' row)(hr:∀a n c,u=.slice (some a) n c->0<n->row≠some a.block):iY I w' u:=fun a n c hu hn=>by obtain⟨cs,fr,hx⟩:=h a n c hu hn;exact⟨cs,fr,(vD hg (Array.getElem?_eq_some_iff.1 hx).1 (hr a n c hu hn)).trans hx⟩
def mW(E I:TypeId)(base:Nat)(w:World)(v:Value)(rs:List iX)(h:List aA):Prop:=
 rs.length=h.length/\Row E 3 iT base w v rs/\(∀(i:Nat) r t,rs[i]? =some r->h[i]? =some t->Bu w r t/\Own base w r.aY/\iY I w r.aY)/\∀(i j:Nat) r r',i<j->rs[i]? =some r->rs[j]? =some r'->Apart r.aY r'.aY
theorem mW.ext{E I:TypeId}{base:Nat}{w w':World}{v:Value}{rs:List iX}{h:List aA}(H:mW E I base w v rs h)(hb:Ext w w'):mW E I base w' v rs h:=
 ⟨H.1,H.2.1.ext hb,fun i r t hr ht=>let ⟨a,b,c⟩:=H.2.2.1 i r t hr ht;⟨a.ext hb,b.ext hb,c.ext hb⟩,H.2.2.2⟩
theorem mW.nil{E I:TypeId}(w:World):mW E I w.heap.size (w.alloc (.cells #[] E)) (.slice (some ⟨w.heap.size,0,none⟩) 0 0) [] []:=
 ⟨rfl,World.ownsRow_made w #[] 0 (Nat.le_refl _) (by simp[maxLen]) (by simp),fun _ _ _ h=>by simp at h,fun _ _ _ _ _ h=>by simp at h⟩
theorem mW.push{E I:TypeId}(hEI:E≠I){base:Nat}{w0 w w':World}{v v':Value}{rs:List iX}{h:List aA}{r:iX}{t:aA}(h0:mW E I base w0 v rs h)(hx:Ext w0 w)(hu:Bu w r t)(ho:Own w0.heap.size w r.aY)(hi:iY I w r.aY)(hb:base<=w0.heap.size)
 (hrow:Row E 3 iT base w' v' (rs++[r])) (hg:w.grownBy w' v.ownBlock):mW E I base w' v' (rs++[r]) (h++[t]):=by
 have H:=h0.ext hx;have keep:∀(r:iX) t,Bu w r t->Own base w r.aY->iY I w r.aY->Bu w' r t/\Own base w' r.aY/\iY I w' r.aY:=fun r t a b c=>
  have hr:=H.2.1.far c hEI
  ⟨⟨a.1,a.2.1,a.2.2.1.grown hg hr,a.2.2.2⟩,b.grown hg hr,c.grown hg hr⟩
 refine⟨by simp[H.1],hrow,fun i y s hy hs=>?_,fun i j y y' hij hy hy'=>?_⟩
 ·rw[List.getElem?_append]at hy hs;split at hy
  ·rename_i hi';rw[if_pos (by rw[<-H.1];exact hi')]at hs;obtain⟨a,b,c⟩:=H.2.2.1 i y s hy hs;exact keep _ _ a b c
  ·rename_i hi';rw[if_neg (by rw[<-H.1];exact hi')]at hs;have hi0:i-rs.length=0:=by
    have:=(List.getElem?_eq_some_iff.1 hy).1
    simp at this;omega
   rw[hi0]at hy;rw[<-H.1,hi0]at hs;simp at hy hs;subst hy hs;exact keep _ _ hu (ho.mono hb) hi
 ·rw[List.getElem?_append]at hy hy';split at hy'
  ·rename_i hj;rw[if_pos (by omega)]at hy;exact H.2.2.2 i j y y' hij hy hy'
  ·rename_i hj;have hj0:j-rs.length=0:=by
    have:=(List.getElem?_eq_some_iff.1 hy').1
    simp at this;omega
   rw[hj0]at hy';simp at hy';subst hy';rw[if_pos (by omega)]at hy;obtain⟨s,hs⟩:=af (show i<h.length by rw[<-H.1];exact(List.getElem?_eq_some_iff.1 hy).1);exact aF.apart (h0.2.2.1 i y s hy hs).1.2.2.1 ho
theorem mW.done{E I:TypeId}(hEI:E≠I){base:Nat}{w:World}{v:Value}{rs:List iX}{h:List aA}(H:mW E I base w v rs h):jI w v rs h/\iZ base w v rs:=by
 refine⟨⟨H.1,H.2.1.cell.1,fun i r t hr ht=>(H.2.2.1 i r t hr ht).1⟩,H.2.1.cell.2,fun i r hr=>?_,H.2.2.2⟩;obtain⟨t,ht⟩:=af (show i<h.length by rw[<-H.1];exact(List.getElem?_eq_some_iff.1 hr).1);obtain⟨a,b,c⟩:=H.2.2.1 i r t hr ht;refine⟨b,fun x n c' y m d hx hy hn hm e=>?_⟩
 have:=H.2.1.far c hEI y m d hy hm
 subst hx;exact this (by simp[Value.ownBlock,e])
theorem fJ(a b c:Int)(w:World) :
 Calls Tryz.prog 115 #[.agg #[.int .i64 a,.int .i64 b,.int .i64 c]] w fun e w'=>e=.returned (.bool (a==1))/\w.alloc (.cells #[.int .i64 a,.int .i64 b,.int .i64 c] 71)=w':=by
 by_cases h:(a==1)=true
 ·rw[h];go_enter Tryz.func115,Tryz.ntmps115;go_wp2;go_returns;exact⟨rfl,rfl⟩
 ·simp only[Bool.not_eq_true]at h;rw[h];go_enter Tryz.func115,Tryz.ntmps115;go_wp2;go_returns;exact⟨rfl,rfl⟩
theorem eX(a b c:Int)(w:World) :
 Calls Tryz.prog 93 #[.agg #[.int .i64 a,.int .i64 b,.int .i64 c]] w fun e w'=>e=.returned (.bool (a==2))/\w.alloc (.cells #[.int .i64 a,.int .i64 b,.int .i64 c] 71)=w':=by
 by_cases h:(a==2)=true
 ·rw[h];go_enter Tryz.func93,Tryz.ntmps93;go_wp2;go_returns;exact⟨rfl,rfl⟩
 ·simp only[Bool.not_eq_true]at h;rw[h];go_enter Tryz.func93,Tryz.ntmps93;go_wp2;go_returns;exact⟨rfl,rfl⟩
theorem sU(o:aQ)(w:World) :
 Calls Tryz.prog 92 #[fP o] w fun e w'=>e=.returned (.bool (gH o))/\Ext w w':=by
 obtain⟨a,b,c⟩:=o;have hf:Hid (gH ⟨a,b,c⟩=((a==1 || a==2)&&jR b 0 2&&jR c 0 99 && !(a==2&&c==0))):=rfl;rw[hf.out];clear hf;show Calls Tryz.prog 92 #[.agg #[.int .i64 a,.int .i64 b,.int .i64 c]] w _;cases h1:(a==1)<;>cases h2:(a==2)<;>cases h3:jR b 0 2<;>cases h4:jR c 0 99<;>cases h5:(c==0)<;>(
  first
  | (exfalso;simp at h1 h2;omega)
  | (
   go_enter Tryz.func92,Tryz.ntmps92
   go_wp2_with (first
    | (go_at_call 115;refine(fJ _ _ _ _).mono ?_;rw[h1];rintro e w' ⟨rfl,rfl⟩)
    | (go_at_call 93;refine(eX _ _ _ _).mono ?_;rw[h2];rintro e w' ⟨rfl,rfl⟩)
    | (go_at_call 116;refine(BL _ _).mono ?_;rw[h3];rintro e w' ⟨rfl,rfl⟩)
    | (go_at_call 117;refine(Ov _ _).mono ?_;rw[h4];rintro e w' ⟨rfl,rfl⟩))
   go_returns;refine⟨rfl,?_⟩;show Below _ _ _;go_grown))
theorem pq(o:aQ)(w:World) :
 Calls Tryz.prog 78 #[fP o] w fun e w'=>e=.returned (.bool (gH o))/\Ext w w':=by
 obtain⟨a,b,c⟩:=o;have hf:Hid (gH ⟨a,b,c⟩=(jR a 1 2&&jR b 0 2&&jR c 0 99&&(a==1 || decide (0<c)))):=by show _ = _;rw[Bool.eq_iff_iff];simp only[gH,mM,iN,jR,Bool.and_eq_true,Bool.or_eq_true,beq_iff_eq,decide_eq_true_eq,Bool.not_eq_true',Bool.and_eq_false_iff,beq_eq_false_iff_ne];omega
 rw[hf.out];clear hf;show Calls Tryz.prog 78 #[.agg #[.int .i64 a,.int .i64 b,.int .i64 c]] w _;cases h1:jR a 1 2<;>cases h3:jR b 0 2<;>cases h4:jR c 0 99<;>cases h2:(a==1)<;>cases h5:decide (0<c)<;>(
  go_enter Tryz.func78,Tryz.ntmps78;go_wp2_with (go_at_call 48;refine(dY _ _ _ _).mono ?_;(first|rw[h1]|rw[h3]|rw[h4]);rintro e w' ⟨rfl,rfl⟩)
  go_returns;refine⟨rfl,?_⟩;show Below _ _ _;go_grown)
def ng(t:aA)(ov:Value):Value:=.agg #[.int .i64 t.az,ov,.bool t.done]
theorem Bi{v:Value}{h:List aA}(w:World)(F:FuncId)(cap:Array Value)(p:aA->Bool)(H:gL w v h)(hlen:h.length<=2097152)
 (hcf:∀args W,(callFunc F args).run Tryz.prog W=.ok (.enter F args) W) (hF:∀t∈h,∀ov W,Ext w W->aF 3 aj W ov t.ops->Calls Tryz.prog F (#[ng t ov]++cap) W fun e w'=>e=.returned (.bool (p t))/\Ext W w') :
 Calls Tryz.prog 88 #[v,.func (.func F) #[] cap] w fun e w'=>e=.returned (.int .i64 (findAt p h 0))/\Ext w w':=by
 obtain⟨A,c,rfl⟩:=H.slice;have HF:=aa hF;have HH:=aa H;clear hF H;go_enter Tryz.func88,Tryz.ntmps88;go_wp2;go_loopw [8] (fun i wr=>Ext w wr/\∃k:Nat,k<=h.length/\i=.int .i64 k/\Hid (findAt p h 0=findAt p (h.drop k) k)) (fun i _=>h.length-(intOf i).toNat)
 case atStart=>exact⟨Ext.refl _,0,Nat.zero_le _,rfl,rfl⟩
 case round=>
  obtain⟨hb,k,hk,rfl,HI⟩:=hrel;by_cases hlt:k<h.length
  ·obtain⟨b,off,rfl,hbl,hc⟩:=HH.out.head (by omega);obtain⟨t,ht⟩:=af hlt;obtain⟨ov,c0,c1,c2,hs⟩:=hc k t ht;replace c0:=hb.cell c0;replace c1:=hb.cell c1;replace c2:=hb.cell c2;have Hx:=aa ht;have Hm:=List.mem_of_getElem? ht;have HS:=aa (hs.ext hb);clear ht hc hs;go_wp2_with fail
   refine(HF.out t Hm ov _ hb HS.out).mono ?_
   rintro e w1 ⟨rfl,b1⟩;by_cases hp:p t=true
   ·have hr:=aa (HI.out.trans (nO Hx.out hp));go_wp2;go_returns;exact⟨aX hr.out.symm,hb.trans b1⟩
   ·simp only[Bool.not_eq_true]at hp;have hr:=aa (HI.out.trans (mG Hx.out hp));go_wp2;go_roundw;case rel=>exact⟨hb.trans b1,k+1,by omega,by go_num,hr⟩
    case measure=>simp[intOf];omega
  ·obtain rfl:k=h.length:=by omega
   go_wp2;go_returns;exact⟨aX (by rw[HI.out];simp[findAt]),hb⟩
theorem oU{v:Value}{h:List aA}(w:World)(F:FuncId)(cap:Array Value)(p:aA->Bool)(H:gL w v h)(hlen:h.length<=2097152)
 (hcf:∀args W,(callFunc F args).run Tryz.prog W=.ok (.enter F args) W) (hF:∀t∈h,∀ov W,Ext w W->aF 3 aj W ov t.ops->Calls Tryz.prog F (#[ng t ov]++cap) W fun e w'=>e=.returned (.bool (p t))/\Ext W w') :
 Calls Tryz.prog 63 #[v,.func (.func F) #[] cap] w fun e w'=>e=.returned (.bool (h.any p))/\Ext w w':=by
 have HF:=aa hF;clear hF;go_enter Tryz.func63,Tryz.ntmps63;go_wp2_with fail
 refine(Bi w F cap p H hlen hcf HF.out).mono ?_
 rintro e w1 ⟨rfl,b1⟩;go_wp2;go_returns;exact⟨aN (nI),b1⟩
theorem Im(o:aQ)(w:World) :
 Calls Tryz.prog 91 #[fP o] w fun e w'=>e=.returned (.bool (!gH o))/\Ext w w':=by
 show Calls Tryz.prog 91 #[.agg #[.int .i64 o.kind,.int .i64 o.key,.int .i64 o.value]] w _;cases h:gH o<;>(
  go_enter Tryz.func91,Tryz.ntmps91;go_wp2_with (go_at_call 92;refine(sU o _).mono ?_;rw[h];rintro e w1 ⟨rfl,b1⟩)
  go_returns;refine⟨rfl,?_⟩
  exact((Ext.refl _).alloc _).trans b1)
theorem Kr(args:Array Value)(W:World):(callFunc 91 args).run Tryz.prog W=.ok (.enter 91 args) W:=by kernel_rfl
theorem xG(t:aA)(ov:Value)(w:World)(h:aF 3 aj w ov t.ops)(hlen:t.ops.length<=2097152) :
 Calls Tryz.prog 65 #[ng t ov] w fun e w'=>e=.returned (.bool (bX t))/\Ext w w':=by
 obtain⟨s,ops,d⟩:=t;obtain⟨A,c,rfl,_⟩:=id h;have HS:=aa h;clear h;have hf:Hid (bX ⟨s,ops,d⟩=(jR s 0 3&&decide (ops.length<=6) && !(ops.any fun o=>!gH o))):=by show _ = _;simp[bX,List.all_eq_not_any_not]
 rw[hf.out];clear hf;show Calls Tryz.prog 65 #[.agg #[.int .i64 s,.slice A ops.length c,.bool d]] w _;cases h1:jR s 0 3<;>cases h2:decide (ops.length<=6)<;>cases h3:(ops.any fun o=>!gH o)<;>(
  have h2':=h2;simp only[decide_eq_true_eq,decide_eq_false_iff_not]at h2';have H3:=aa h3;clear h3;go_enter Tryz.func65,Tryz.ntmps65
  go_wp2_with (first
   | (go_at_call 89;refine(xY _ _).mono ?_;rw[h1];rintro e w' ⟨rfl,rfl⟩)
   | (go_at_call 90;refine(oP _ 91 #[] (fun o=>!gH o) (HS.out.ext ((Ext.refl _).alloc _)) hlen Kr (fun x _ W _=>Im x W)).mono ?_;rw[H3.out];rintro e w1 ⟨rfl,b1⟩))
  go_returns;refine⟨rfl,?_⟩
  first
  | exact((Ext.refl _).alloc _).trans b1
  | exact(Ext.refl _).alloc _)
theorem lN(t:aA)(ov:Value)(w:World)(h:aF 3 aj w ov t.ops)(hlen:t.ops.length<=2097152) :
 Calls Tryz.prog 42 #[ng t ov] w fun e w'=>e=.returned (.bool (bX t))/\Ext w w':=by
 obtain⟨s,ops,d⟩:=t;obtain⟨A,c,rfl,hc0⟩:=h;have HC:=aa hc0;clear hc0;simp only at HC hlen ⊢;show Calls Tryz.prog 42 #[.agg #[.int .i64 s,.slice A ops.length c,.bool d]] w _;have hbad:∀k o,ops[k]? =some o->gH o=false->bX ⟨s,ops,d⟩=false:=fun k o ho hb=>by rw[bX,show ops.all gH=false from by rw[List.all_eq_false];exact⟨o,List.mem_of_getElem? ho,by simp[hb]⟩,Bool.and_false]
 have hgood:(∀k o,ops[k]? =some o->gH o=true)->bX ⟨s,ops,d⟩=(jR s 0 3&&decide (ops.length<=6)):=fun hg=>by rw[bX,show ops.all gH=true from by rw[List.all_eq_true];intro o ho;obtain⟨i,hi,rfl⟩:=List.getElem_of_mem ho;exact hg i _ (List.getElem?_eq_getElem hi),Bool.and_true]
 have HB:=aa hbad;have HG:=aa hgood;clear hbad hgood;go_enter Tryz.func42,Tryz.ntmps42;go_wp2;go_loopw [3] (fun i wr=>Ext (w.alloc (.cells #[.int .i64 s,.slice A ops.length c,.bool d] 48)) wr/\∃k:Nat,k<=ops.length/\i=.int .i64 k/\Hid (∀j o,j<k->ops[j]? =some o->gH o=true)) (fun i _=>ops.length-(intOf i).toNat)
 case atStart=>exact⟨Ext.refl _,0,Nat.zero_le _,rfl,fun j o hj=>absurd hj (Nat.not_lt_zero j)⟩
 case round=>
  obtain⟨hb,k,hk,rfl,HI⟩:=hrel;have e0:wr.cell? ⟨w.heap.size,0,none⟩=some (.int .i64 s):=hb.cell (av rfl);have e1:wr.cell? ⟨w.heap.size,1,none⟩=some (.slice A ops.length c):=hb.cell (av rfl);by_cases hlt:k<ops.length
  ·obtain⟨b,off,rfl,hbl,hc⟩:=HC.out (by omega);obtain⟨o,ho⟩:=af hlt;have hbb:=((Ext.refl w).alloc _).trans hb;have c0:wr.cell? ⟨b,off+k*3,none⟩=some (.int .i64 o.kind):=hbb.cell (hc k o ho 0 (by omega));have c1:wr.cell? ⟨b,off+k*3+1,none⟩=some (.int .i64 o.key):=hbb.cell (hc k o ho 1 (by omega));have c2:wr.cell? ⟨b,off+k*3+2,none⟩=some (.int .i64 o.value):=hbb.cell (hc k o ho 2 (by omega));have Ho:=aa ho;clear hc ho;go_wp2_with fail
   refine(pq o _).mono ?_
   cases hok:gH o with
   | false=>
     rintro e w1 ⟨rfl,b1⟩;go_wp2;go_returns;exact⟨aN (HB.out k o Ho.out hok).symm,hbb.trans b1⟩
   | true=>
     rintro e w1 ⟨rfl,b1⟩;go_wp2;go_roundw;case rel=>exact⟨hb.trans b1,k+1,by omega,by go_num,fun j o' hj hj'=>by
      rcases Nat.lt_or_ge j k with h|h
      ·exact HI.out j o' h hj'
      ·obtain rfl:j=k:=by omega
       rw[Ho.out]at hj';cases hj';exact hok⟩
     case measure=>simp[intOf];omega
  ·obtain rfl:k=ops.length:=by omega
   have hg:=HG.out (fun j o ho=>HI.out j o (List.getElem?_eq_some_iff.1 ho).1 ho);have hbb:=((Ext.refl w).alloc _).trans hb;have HG':Hid (∀r1 r2,jR s 0 3=r1->decide (ops.length<=6)=r2->bX ⟨s,ops,d⟩=(r1&&r2)):=fun r1 r2 e1 e2=>by rw[hg,e1,e2]
   clear hg;cases h1:jR s 0 3<;>cases h2:decide (ops.length<=6)<;>(
    have h2':=h2;simp only[decide_eq_true_eq,decide_eq_false_iff_not]at h2';go_wp2_with (go_at_call 48;refine(dY _ _ _ _).mono ?_;rw[h1];rintro e w' ⟨rfl,rfl⟩)
    go_returns
    first
    | exact⟨aN (HG'.out _ _ h1 h2).symm,hbb⟩
    | exact⟨aN (by rw[HG'.out _ _ h1 h2];simp;omega),hbb⟩)
