/- Lemmas. -/
import Derived.WalkKit
import Derived.WalkSpells
import Derived.WalkLawsBesides
import Derived.Handy
import Derived.Deep.QuietTactic
import Derived.BigQuiet
import Derived.Lib.Hide
import Derived.Deep.RegionHeld3
set_option maxHeartbeats 16000000
set_option maxRecDepth 8000
set_option linter.all false
namespace Go.Proofs.YtcdopfdgknglfaaGreatDoor
open Go.RowKit
section
structure Ew where
 objs:Array Obj
 draws:Nat
instance:Inhabited Ew:=⟨⟨#[],0⟩⟩
def over(w:World)(e:Ew):World:={ w with heap:=w.heap++e.objs,drawn:=e.draws }
def Ext(w w':World):Prop:=Below w.heap.size w w'
theorem Ext.refl(w:World):Ext w w:=Below.refl _ _
theorem Ext.size{w w':World}(h:Ext w w'):w.heap.size<=w'.heap.size:=Below.size h
theorem Ext.trans{a b c:World}(h:Ext a b)(k:Ext b c):Ext a c:=Below.trans h (Below.mono k h.size)
theorem Ext.cell{w w':World}(h:Ext w w'){p:Addr}{v:Value}(hc:w.cell? p=some v):w'.cell? p=some v:=by
 have hb:p.block<w.heap.size:=by
  rcases Nat.lt_or_ge p.block w.heap.size with h'|h'
  ·exact h'
  ·simp[World.cell?,Array.getElem?_eq_none h']at hc
 rw[<-hc];exact Below.cell h hb
theorem Ext.frozen{w w':World}(h:Ext w w'){p:Addr}(hb:p.block<w.heap.size):w'.frozen? p=w.frozen? p:=Below.frozen h hb
theorem Ext.drew{a b:World}(h:Ext a b):Ext a b.drew:=Below.drew h
theorem Ext.alloc{a b:World}(h:Ext a b)(o:Obj):Ext a (b.alloc o):=Below.alloc h h.size o
theorem Ext.setCell{a b:World}(h:Ext a b){p:Addr}(hp:a.heap.size<=p.block)(u:Value):Ext a (b.setCell p u):=Below.setCell h hp u
theorem Ag(w:World)(e:Ew):Below w.heap.size w (over w e):=
 ⟨rfl,rfl,rfl,by simp[over],λk hk=>by simp[over,Array.getElem?_append,hk]⟩
theorem Hw{w w':World}(h:Below w.heap.size w w'):∃e,w'=over w e:=by
 refine⟨⟨w'.heap.extract w.heap.size w'.heap.size,w'.drawn⟩,?_⟩;obtain⟨h1,h2,h3,h4,h5⟩:=h;cases w with|mk heap tape drawn os output=>
 cases w' with|mk heap' tape' drawn' os' output'=>
 simp only[over]at *;subst h1 h2 h3;congr 1;apply Array.ext_getElem?;intro i;by_cases hi:i<heap.size
 ·rw[h5 i hi,Array.getElem?_append_left hi]
 ·rw[Array.getElem?_append_right (by omega),Array.getElem?_extract];simp;by_cases h:i<heap'.size
  ·simp[show i-heap.size<heap'.size-heap.size from by omega,show heap.size+(i-heap.size)=i from by omega]
  ·simp[h,show ¬i-heap.size<heap'.size-heap.size from by omega]
theorem fI{w:World}{a:Addr}{v:Value}(h:w.cell? a=some v)(e:Ew):(over w e).cell? a=some v:=
 Ext.cell (Ag w e) h
theorem yS{P:Program}{f:FuncId}{args:Array Value}{w:World}{e:Ew}{v:Value}
 (h:Calls P f args (over w e) λr w'=>r=.returned v/\over w e=w') :
 Calls P f args (over w e) λr w''=>r=.returned v/\∃e',w''=over w e':=
 h.mono λ_ _ ⟨he,hb⟩=>⟨he,e,hb.symm⟩
theorem fP{P:Program}{id:Nat}{Q:Exit->Act->World->Prop}{a:Act}{w:World}{l:List Oper}(hm:P.follows .mixedOrders=true)(hB:Region.lexB .any l.toArray=true)
 (h:wpQuiet P l.toArray (λw'=>∃e,w'=over w e) (λa'=>∀w',Ext w w'->Q .normal a' w') l a):(Code.region id l.toArray true).wp P Q a w:=by
 refine wp_region_quiet (C:=λw'=>∃e,w'=over w e) hm hB ?_ ?_
 ·exact⟨⟨#[],w.drawn+1⟩,by simp[over]⟩
 ·have:(λa'=>∀w',(∃e,w'=over w e)->Q .normal a' w')=(λa'=>∀w',Ext w w'->Q .normal a' w'):=by
   funext a';apply propext;constructor
   ·intro h w' hb;exact h w' (Hw hb)
   ·rintro h w' ⟨e,rfl⟩;exact h _ (Ag w e)
  rw[this];simpa using h
theorem aU{a b:Bool}(h:a=b):Ending.returned (.bool a)=.returned (.bool b):=by rw[h]
theorem dH{a b:Int}(h:a=b):Ending.returned (.int .i64 a)=.returned (.int .i64 b):=by rw[h]
def aI{α:Type}(m:Nat)(enc:α->Nat->Value)(w:World)(v:Value)(xs:List α):Prop:=
 ∃A c,v=.slice A xs.length c/\(0<xs.length->∃b off,A=some ⟨b,off,none⟩/\b<w.heap.size/\∀i x,xs[i]? =some x->∀j,j<m->w.cell? ⟨b,off+i*m+j,none⟩=some (enc x j))
def mD{α:Type}(enc:α->Value)(w:World)(v:Value)(xs:List α):Prop:=
 ∃A c,v=.slice A xs.length c/\(0<xs.length->∃b off,A=some ⟨b,off,none⟩/\b<w.heap.size/\∀i x,xs[i]? =some x->w.cell? ⟨b,off+i,none⟩=some (enc x))
def Own(lo:Nat)(w:World)(v:Value):Prop:=
 ∀a n c,v=.slice (some a) n c->0<n->lo<=a.block/\a.block<w.heap.size/\∀i,w.frozen? ⟨a.block,i,none⟩=false
theorem aI.ext{α:Type}{m:Nat}{enc:α->Nat->Value}{w w':World}{v:Value}{xs:List α}(h:aI m enc w v xs)(hb:Ext w w'):aI m enc w' v xs:=by obtain⟨A,c,hv,h⟩:=h;refine⟨A,c,hv,λhn=>?_⟩;obtain⟨b,off,hA,hlt,hc⟩:=h hn;exact⟨b,off,hA,Nat.lt_of_lt_of_le hlt hb.size,λi x hx j hj=>hb.cell (hc i x hx j hj)⟩
theorem mD.ext{α:Type}{enc:α->Value}{w w':World}{v:Value}{xs:List α}(h:mD enc w v xs)(hb:Ext w w'):mD enc w' v xs:=by obtain⟨A,c,hv,h⟩:=h;refine⟨A,c,hv,λhn=>?_⟩;obtain⟨b,off,hA,hlt,hc⟩:=h hn;exact⟨b,off,hA,Nat.lt_of_lt_of_le hlt hb.size,λi x hx=>hb.cell (hc i x hx)⟩
theorem Own.ext{lo:Nat}{w w':World}{v:Value}(h:Own lo w v)(hb:Ext w w'):Own lo w' v:=by intro a n c hv hn;obtain⟨h1,h2,h3⟩:=h a n c hv hn;exact⟨h1,Nat.lt_of_lt_of_le h2 hb.size,λi=>(hb.frozen (p:=⟨a.block,i,none⟩) h2).trans (h3 i)⟩
theorem Own.mono{lo lo':Nat}{w:World}{v:Value}(h:Own lo w v)(hl:lo'<=lo):Own lo' w v:=λa n c hv hn=>
 let ⟨h1,h2,h3⟩:=h a n c hv hn
 ⟨Nat.le_trans hl h1,h2,h3⟩
theorem aI.nil{α:Type}(m:Nat)(enc:α->Nat->Value)(w:World)(c:Nat)(A:Option Addr):aI m enc w (.slice A 0 c) ([]:List α):=⟨A,c,rfl,λh=>absurd h (Nat.lt_irrefl _)⟩
theorem mD.nil{α:Type}(enc:α->Value)(w:World)(c:Nat)(A:Option Addr):mD enc w (.slice A 0 c) ([]:List α):=⟨A,c,rfl,λh=>absurd h (Nat.lt_irrefl _)⟩
theorem Own.nil(lo:Nat)(w:World)(c:Nat)(A:Option Addr):Own lo w (.slice A 0 c):=λa n c' hv hn=>by injection hv with _ h2 _;omega
def encI(x:Int):Value:=.int .i64 x
theorem au{α:Type}{xs:List α}{k:Nat}(h:k<xs.length):∃x,xs[k]? =some x:=⟨xs[k],by simp[h]⟩
def kV(x lo hi:Int):Bool:=decide (lo<=x)&&decide (x<=hi)
theorem cK{x lo hi:Int}:kV x lo hi=true↔lo<=x/\x<=hi:=by simp[kV]
def kK(w:World)(g N:Nat):Prop:=∃cs t,w.heap[g]? =some (.cells cs t (0,0))/\cs.size=N
theorem kK.lt{w:World}{g N:Nat}(h:kK w g N):g<w.heap.size:=by
 obtain⟨cs,t,h,_⟩:=h;rcases Nat.lt_or_ge g w.heap.size with h'|h'
 ·exact h'
 ·rw[Array.getElem?_eq_none h']at h;cases h
theorem kK.ext{w w':World}{g N:Nat}(h:kK w g N)(hb:Ext w w'):kK w' g N:=by have hl:=h.lt;obtain⟨cs,t,h,hs⟩:=h;exact⟨cs,t,(Below.block hb g hl).trans h,hs⟩
theorem kK.cell{w:World}{g N j:Nat}(h:kK w g N)(hj:j<N):∃u,w.cell? ⟨g,j,none⟩=some u:=by obtain⟨cs,t,h,hs⟩:=h;exact⟨cs[j],by simp[World.cell?,h,show j<cs.size from by omega]⟩
theorem kK.free{w:World}{g N:Nat}(h:kK w g N)(j:Nat):w.frozen? ⟨g,j,none⟩=false:=by obtain⟨cs,t,h,hs⟩:=h;simp[World.frozen?,h]
theorem kK.set{w:World}{g N:Nat}(h:kK w g N)(a:Addr)(u:Value):kK (w.setCell a u) g N:=by
 obtain⟨cs,t,h,hs⟩:=h;by_cases ha:a.block=g
 ·refine⟨if a.spot.isSome then cs else cs.setIfInBounds a.off u,t,?_,?_⟩
  ·simp[World.setCell,Array.getElem?_modify,ha,h]
  ·split<;>simp[hs]
 ·exact⟨cs,t,by simp[World.setCell,Array.getElem?_modify,ha,h],hs⟩
theorem kK.made(w:World)(cs:Array Value)(t:TypeId):kK (w.alloc (.cells cs t)) w.heap.size cs.size:=⟨cs,t,heap_alloc_new w _,rfl⟩
theorem bT{w:World}{g N j:Nat}(h:kK w g N)(hj:j<N)(u:Value):(w.setCell ⟨g,j,none⟩ u).cell? ⟨g,j,none⟩=some u:=by obtain⟨cs,t,h,hs⟩:=h;simp[World.setCell,World.cell?,Array.getElem?_modify,h,show j<cs.size from by omega]
theorem av{w:World}{p q:Addr}(hne:p≠q)(u:Value):(w.setCell p u).cell? q=w.cell? q:=
 World.cell?_setCell_other w p q u hne
section
variable{α:Type}{m:Nat}{enc:α->Nat->Value}{g N k j:Nat}{xs:List α}{w w':World}{x:α}
end
structure Only (v:Value) (w w':World):Prop where
 os:w'.os=w.os
 tape:w'.tape=w.tape
 output:w'.output=w.output
 size:w.heap.size<=w'.heap.size
 block:∀k,k<w.heap.size->(∀a n c,v=.slice (some a) n c->0<n->a.block≠k)->w'.heap[k]? =w.heap[k]?
 sD:∀p:Addr,p.block<w.heap.size->w'.frozen? p=w.frozen? p
theorem Only.aO{v:Value}{w w':World}(h:Ext w w'):Only v w w':=
 ⟨Below.os h,Below.tape h,Below.output h,h.size,λk hk _=>Below.block h k hk,λ_ hp=>h.frozen hp⟩
theorem Only.trans{v:Value}{a b c:World}(h:Only v a b)(k:Only v b c):Only v a c:=
 ⟨k.os.trans h.os,k.tape.trans h.tape,k.output.trans h.output,Nat.le_trans h.size k.size,
  λi hi hv=>(k.block i (Nat.lt_of_lt_of_le hi h.size) hv).trans (h.block i hi hv),λp hp=>(k.sD p (Nat.lt_of_lt_of_le hp h.size)).trans (h.sD p hp)⟩
theorem Only.setCell{a:Addr}{n c:Nat}{w:World}(hn:0<n)(off:Nat)(u:Value):Only (.slice (some a) n c) w (w.setCell ⟨a.block,off,none⟩ u):=
 ⟨rfl,rfl,rfl,by simp[World.setCell],λk _ hv=>Below.heap_setCell _ _ _ _ (λe=>hv a n c rfl hn e.symm),λp _=>by
  simp only[World.frozen?,World.setCell,Array.getElem?_modify];by_cases e:a.block=p.block
  ·rw[if_pos e]
   cases w.heap[p.block]? with
   | none=>rfl
   | some o=>cases o<;>rfl
  ·rw[if_neg e]⟩
def Apart(u v:Value):Prop:=∀a n c a' n' c',u=.slice (some a) n c->v=.slice (some a') n' c'->0<n->0<n'->a.block≠a'.block
theorem aI.apart{α:Type}{m:Nat}{enc:α->Nat->Value}{w w':World}{u v:Value}{xs:List α}(h:aI m enc w u xs)(ho:Own w.heap.size w' v):Apart u v:=by
 intro a n c a' n' c' hu hv hn hn' e;obtain⟨A,cc,hA,h⟩:=h;rw[hA]at hu;injection hu with h1 h2 h3;obtain⟨b,off,hb,hlt,_⟩:=h (by omega);rw[hb]at h1;injection h1 with h1
 have:=(ho a' n' c' hv hn').1
 rw[<-h1]at e;simp at e;omega
theorem Only.cell{v:Value}{w w':World}(h:Only v w w'){p:Addr}{u:Value}(hp:∀a n c,v=.slice (some a) n c->0<n->a.block≠p.block)(hc:w.cell? p=some u):w'.cell? p=some u:=by
 have hb:p.block<w.heap.size:=by
  rcases Nat.lt_or_ge p.block w.heap.size with h'|h'
  ·exact h'
  ·simp[World.cell?,Array.getElem?_eq_none h']at hc
 rw[<-hc];simp only[World.cell?,h.block p.block hb hp]
theorem aI.only{α:Type}{m:Nat}{enc:α->Nat->Value}{w w':World}{u v:Value}{xs:List α}(h:aI m enc w u xs)(ho:Only v w w')(ha:Apart u v):aI m enc w' u xs:=by obtain⟨A,c,hA,h⟩:=h;refine⟨A,c,hA,λhn=>?_⟩;obtain⟨b,off,hb,hlt,hc⟩:=h hn;refine⟨b,off,hb,Nat.lt_of_lt_of_le hlt ho.size,λi x hx j hj=>ho.cell (λa n c' hv hn' e=>?_) (hc i x hx j hj)⟩;subst hb;exact ha _ _ _ _ _ _ hA hv hn hn' e.symm
theorem Own.only{lo:Nat}{w w':World}{u v:Value}(h:Own lo w u)(ho:Only v w w'):Own lo w' u:=by intro a n c hv hn;obtain⟨h1,h2,h3⟩:=h a n c hv hn;exact⟨h1,Nat.lt_of_lt_of_le h2 ho.size,λi=>(ho.sD ⟨a.block,i,none⟩ h2).trans (h3 i)⟩
theorem Ext.only{w w1 w2:World}{v:Value}{lo:Nat}(h:Ext w w1)(ho:Only v w1 w2)(hown:Own lo w1 v)(hl:w.heap.size<=lo):Ext w w2:=by
 have h':Below w.heap.size w w1:=h;exact⟨ho.os.trans h'.os,ho.tape.trans h'.tape,ho.output.trans h'.output,Nat.le_trans h'.size ho.size,λk hk=>
  (ho.block k (Nat.lt_of_lt_of_le hk h'.size) (λa n c hv hn e=>by have:=(hown a n c hv hn).1;omega)).trans (h'.block k hk)⟩
theorem Own.Ce{lo:Nat}{w:World}{b off n c:Nat}(h:Own lo w (.slice (some ⟨b,off,none⟩) n c))(hn:0<n)(i:Nat):w.frozen? ⟨b,i,none⟩=false:=(h _ _ _ rfl hn).2.2 i
theorem dN{w:World}{a:Addr}{v:Value}(h:w.cell? a=some v)(u:Value):(w.setCell a u).cell? a=some u:=by
 obtain⟨b,o,sp⟩:=a;simp only[World.cell?]at h
 cases hb:w.heap[b]? with
 | none=>rw[hb]at h;cases h
 | some ob=>
   rw[hb]at h
   cases ob with
   | cells cs t fr=>
     simp only at h
     cases sp with
     | some s=>simp at h
     | none=>
       simp at h;have hlt:=(Array.getElem?_eq_some_iff.1 h).1;simp[World.setCell,World.cell?,Array.getElem?_modify,hb,hlt]
   | _=>cases h
theorem mQ{P:Program}{e:TypeId}{z:Value}{s b:Nat}(h:(P.info? e).map (λi=>(i.zero,i.size,i.bytes))=some (some z,s,b)):∃i,P.info? e=some i/\i.zero=some z/\i.size=s/\i.bytes=b:=by obtain⟨i,hi,h⟩:=Option.map_eq_some_iff.1 h;simp only[Prod.mk.injEq]at h;exact⟨i,hi,h.1,h.2.1,h.2.2⟩
theorem F9{P:Program}(t e:TypeId){z:Value}{s b:Nat}(ht:P.underlying t=some (.slice e))(h:(P.info? e).map (λi=>(i.zero,i.size,i.bytes))=some (some z,s,b))(n:Nat)(hb:b*n<=281474976710656)(h63:n<=9223372036854775807)(w:World) :
 (Instr.makeSlice t (.int .i64 (n:Int)) (.int .i64 (n:Int))).run P w=.ok (.slice (some ⟨w.heap.size,0,none⟩) n n) (w.alloc (.cells (madeCells z.cells (n*s)) e)):=by
 obtain⟨i,hi,hz,hs,hby⟩:=mQ h;have hb':(i.bytes:Int)*(n:Int)<=281474976710656:=by
  have h:((i.bytes*n:Nat):Int)<=281474976710656:=by rw[hby];omega
  rwa [Int.natCast_mul]at h
 have hr:=run_make (P:=P) w t e i z ht hi hz .i64 .i64 n n (by omega) (by omega) hb' (by omega);simp only[Int.toNat_natCast]at hr;rw[hr,hs]
def findAt{α:Type}(p:α->Bool):List α->Nat->Int
 | [],_=>-1
 | x :: xs,k=>if p x then k else findAt p xs (k+1)
theorem lD{α:Type}{p:α->Bool}{xs:List α}{k:Nat}:decide (0<=findAt p xs k)=xs.any p:=by
 induction xs generalizing k with
 | nil=>rfl
 | cons x xs ih=>
   unfold findAt;rw[List.any_cons];split
   ·rename_i h;rw[h];simp
   ·rename_i h;rw[ih];simp[h]
theorem kr{α:Type}{p:α->Bool}{xs:List α}{k:Nat}{x:α}(hx:xs[k]? =some x)(hp:p x=false):findAt p (xs.drop k) k=findAt p (xs.drop (k+1)) (k+1):=by obtain⟨hk,rfl⟩:=List.getElem?_eq_some_iff.1 hx;rw[List.drop_eq_getElem_cons hk,findAt,if_neg (by simp[hp])]
theorem lu{α:Type}{p:α->Bool}{xs:List α}{k:Nat}{x:α}(hx:xs[k]? =some x)(hp:p x=true):findAt p (xs.drop k) k=k:=by obtain⟨hk,rfl⟩:=List.getElem?_eq_some_iff.1 hx;rw[List.drop_eq_getElem_cons hk,findAt,if_pos hp]
end
theorem aa{p:Prop}(h:p):Hid p:=h
theorem iV{P:Program}{ops:Array Oper}{Q:Exit->Act->World->Prop}{md:Region.Mode}{S:World->Prop}(i:Nat)(v:Value){oi:Oper}{fuel:Nat}{listed:Array Bool}{a:Act}{w:World}(hi:ops[i]? =some oi)
 (hy:YieldsIf P ops S oi v a) (hS:S w) (h:wpAnyH P md ops Q S fuel (listed.setIfInBounds i true) (a.put oi.dst v) w)
 (hs:Region.noSelect ops=true:=by as_aux_lemma=>kernel_rfl) (hf:Region.free md ops listed i=true:=by as_aux_lemma=>kernel_rfl) (hr:(Region.ready md ops listed).contains i=true:=by as_aux_lemma=>kernel_rfl)
 (hQ:∀c a w,Q (.panic c) (a.put oi.dst v) w->Q (.panic c) a w:=by exact λ_ _ _ h=>h):wpAnyH P md ops Q S (fuel+1) listed a w:=
 wpAnyH_take hi hs hf hr hQ hy hS h
abbrev aN:=@List.mem_of_getElem?
abbrev aS:=@List.getElem?_eq_some_iff
abbrev ay:=@Nat.le_refl
abbrev dz:=@List.getElem?_eq_getElem
abbrev dJ:=@Nat.lt_of_lt_of_le
abbrev bM:=@AllReadyH.cons
abbrev bX:=@AllReadyH.nil
abbrev dB:=@Array.getElem?_eq_some_iff
abbrev bN:=@List.length_append
abbrev bR:=@Nat.zero_le
abbrev iH:=@Int.eq_ofNat_of_zero_le
abbrev aL:=@And.intro
abbrev bY:=@List.take_length
abbrev aR:=@Nat.le_trans
abbrev bK:=@Bool.and_eq_true
abbrev ig:=@List.length_take
abbrev eF:=@List.length_cons
abbrev dF:=@List.length_map
abbrev jI:=@IntWalk.i64_in
abbrev jw:=@List.getElem_of_mem
abbrev jZ:=@List.take_of_length_le
abbrev kF:=@List.getElem?_set
abbrev kZ:=@List.eq_nil_of_length_eq_zero
abbrev eX:=@Nat.lt_or_ge
abbrev gL:=@Nat.add_zero
abbrev jO:=@List.length_set
abbrev jK:=@List.length_nil
abbrev iR:=@List.mem_append
abbrev jN:=@List.append_assoc
abbrev dX:=@List.mem_map
abbrev oM:=@Array.getElem?_modify
abbrev kI:=@List.flatMap_append
abbrev oP:=@List.append_nil
abbrev gN:=@List.any_eq_true
abbrev jM:=@List.getElem?_map
abbrev zM:=@List.length_filter_le
abbrev iN:=@List.all_eq_true
abbrev kP:=@Nat.zero_add
abbrev af:=@Ext.refl
abbrev dx:=@heap_alloc_new
abbrev aW:=@wpAnyH_ready
abbrev ah:=@if_pos
abbrev ak:=@if_neg
abbrev jW:=@decide_eq_false
abbrev lg:=@wpAnyH_done
abbrev Ej:=@IntKind.wrap_i64
abbrev oQ:=@List.getElem?_append
abbrev zg:=@List.getElem?_take
abbrev ry:=@List.getElem?_drop
abbrev kU:=@List.length_drop
abbrev iC:=@List.mem_cons
abbrev LW:=@List.getElem?_eq_none
abbrev oJ:=@Array.getElem?_eq_none
abbrev zZ:=@Nat.mod_lt
abbrev II:=@Nat.div_le_self
abbrev dS:=@Option.some.inj
abbrev H8:=@List.getElem?_set_self
abbrev Ie:=@List.getElem?_set_ne
abbrev j5:=@List.mem_range
abbrev lC:=@List.mem_filter
abbrev tO:=@List.foldl_append
abbrev kL:=@List.foldl_cons
abbrev j3:=@List.map_append
abbrev LM:=@List.take_append_of_le_length
abbrev fU:=@congrArg
abbrev aM:=@Or.inl
abbrev nG:=@Or.inr
abbrev eG:=@decide_eq_true_eq
abbrev oO:=@beq_eq_false_iff_ne
abbrev kQ:=@decide_eq_true
abbrev oF:=@Nat.not_lt_zero
abbrev lH:=@Bool.eq_iff_iff
abbrev qi:=@Option.map_eq_some_iff
abbrev nI:=@List.length_singleton
abbrev oN:=@Int.toNat_natCast
abbrev uA:=@List.mem_of_mem_take
abbrev uk:=@List.filter_cons
abbrev qm:=@List.getD_eq_getElem?_getD
abbrev kD:=@List.range_succ
abbrev tC:=@wpQuiet_nil
abbrev oq:=@Nat.le_succ
abbrev wE:=@List.mem_singleton
abbrev M8:=@List.length_pos_of_mem
abbrev ND:=@List.map_map
abbrev qI:=@List.flatMap_cons
abbrev iF:=@List.map_cons
abbrev nH:=@List.map_nil
abbrev qo:=@Bool.or_eq_true
abbrev qN:=@List.filterMap_cons
abbrev yl:=@List.filter_append
abbrev nZ:=@List.getElem?_append_left
abbrev qp:=@List.getElem?_append_right
abbrev Ee:=@List.length_flatMap
abbrev Dx:=@List.nodup_cons
abbrev rX:=@List.take_zero
abbrev DR:=@List.drop_drop
abbrev El:=@List.drop_zero
abbrev yh:=@List.not_mem_nil
abbrev qx:=@List.length_eraseIdx
abbrev pJ:=@Nat.le_of_lt
abbrev yf:=@Nat.min_eq_left
abbrev xZ:=@Nat.mod_eq_of_lt
