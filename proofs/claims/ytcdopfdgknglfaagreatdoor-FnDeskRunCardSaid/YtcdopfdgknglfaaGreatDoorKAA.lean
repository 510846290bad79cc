/- Lemmas. -/
import Derived.WalkKit
import Derived.WalkSpells
import Derived.WalkLawsBesides
import Derived.Handy
import Derived.Deep.QuietTactic
import Derived.BigQuiet
import Derived.Lib.Hide
import Derived.Deep.RegionHeld3
import Derived.Test.YtcdopfdgknglfaaGreatDoorRows
import Derived.MapKept
set_option maxHeartbeats 16000000
set_option maxRecDepth 8000
set_option linter.all false
namespace Go.Proofs.YtcdopfdgknglfaaGreatDoor
open Go.RowKit
section
structure Ed where
 objs:Array Obj
 draws:Nat
instance:Inhabited Ed:=⟨⟨#[],0⟩⟩
def over(w:World)(e:Ed):World:={ w with heap:=w.heap++e.objs,drawn:=e.draws }
def Ext(w w':World):Prop:=Below w.heap.size w w'
theorem Ext.refl(w:World):Ext w w:=Below.refl _ _
theorem Ext.size{w w':World}(h:Ext w w'):w.heap.size<=w'.heap.size:=Below.size h
theorem Ext.trans{a b c:World}(h:Ext a b)(k:Ext b c):Ext a c:=Below.trans h (Below.mono k h.size)
theorem Ext.cell{w w':World}(h:Ext w w'){p:Addr}{v:Value}(hc:w.cell? p=some v):w'.cell? p=some v:=by
 have hb:p.block<w.heap.size:=by
  rcases Nat.lt_or_ge p.block w.heap.size with h'|h'
  ·exact h'
  ·simp[World.cell?,Array.getElem?_eq_none h']at hc
 rw[<-hc];exact Below.cell h hb
theorem Ext.frozen{w w':World}(h:Ext w w'){p:Addr}(hb:p.block<w.heap.size):w'.frozen? p=w.frozen? p:=Below.frozen h hb
theorem Ext.drew{a b:World}(h:Ext a b):Ext a b.drew:=Below.drew h
theorem Ext.alloc{a b:World}(h:Ext a b)(o:Obj):Ext a (b.alloc o):=Below.alloc h h.size o
theorem Ext.setCell{a b:World}(h:Ext a b){p:Addr}(hp:a.heap.size<=p.block)(u:Value):Ext a (b.setCell p u):=Below.setCell h hp u
theorem rW(w:World)(e:Ed):Below w.heap.size w (over w e):=
 ⟨rfl,rfl,rfl,by simp[over],λk hk=>by simp[over,Array.getElem?_append,hk]⟩
theorem Gs{w w':World}(h:Below w.heap.size w w'):∃e,w'=over w e:=by
 refine⟨⟨w'.heap.extract w.heap.size w'.heap.size,w'.drawn⟩,?_⟩;obtain⟨h1,h2,h3,h4,h5⟩:=h;cases w with|mk heap tape drawn os output=>
 cases w' with|mk heap' tape' drawn' os' output'=>
 simp only[over]at *;subst h1 h2 h3;congr 1;apply Array.ext_getElem?;intro i;by_cases hi:i<heap.size
 ·rw[h5 i hi,Array.getElem?_append_left hi]
 ·rw[Array.getElem?_append_right (by omega),Array.getElem?_extract];simp;by_cases h:i<heap'.size
  ·simp[show i-heap.size<heap'.size-heap.size from by omega,show heap.size+(i-heap.size)=i from by omega]
  ·simp[h,show ¬i-heap.size<heap'.size-heap.size from by omega]
theorem aK{w:World}{a:Addr}{v:Value}(h:w.cell? a=some v)(e:Ed):(over w e).cell? a=some v:=
 Ext.cell (rW w e) h
theorem VU(w:World)(e:Ed){w':World}(h:Below (over w e).heap.size (over w e) w'):∃e',w'=over w e':=
 Gs ((rW w e).trans (h.mono (rW w e).size))
theorem xI(w:World)(e:Ed):Ext w (over w e):=rW w e
theorem pM{P:Program}{f:FuncId}{args:Array Value}{w:World}{e:Ed}{v:Value}
 (h:Calls P f args (over w e) λr w'=>r=.returned v/\Ext (over w e) w') :
 Calls P f args (over w e) λr w''=>r=.returned v/\∃e',w''=over w e':=
 h.mono λ_ _ ⟨he,hb⟩=>⟨he,VU w e hb⟩
theorem pO{P:Program}{f:FuncId}{args:Array Value}{w:World}{e:Ed}{v:Value}
 (h:Calls P f args (over w e) λr w'=>r=.returned v/\over w e=w') :
 Calls P f args (over w e) λr w''=>r=.returned v/\∃e',w''=over w e':=
 h.mono λ_ _ ⟨he,hb⟩=>⟨he,e,hb.symm⟩
theorem aU{P:Program}{id:Nat}{Q:Exit->Act->World->Prop}{a:Act}{w:World}{l:List Oper}(hm:P.follows .mixedOrders=true)(hB:Region.lexB .any l.toArray=true)
 (h:wpQuiet P l.toArray (λw'=>∃e,w'=over w e) (λa'=>∀w',Ext w w'->Q .normal a' w') l a):(Code.region id l.toArray true).wp P Q a w:=by
 refine wp_region_quiet (C:=λw'=>∃e,w'=over w e) hm hB ?_ ?_
 ·exact⟨⟨#[],w.drawn+1⟩,by simp[over]⟩
 ·have:(λa'=>∀w',(∃e,w'=over w e)->Q .normal a' w')=(λa'=>∀w',Ext w w'->Q .normal a' w'):=by
   funext a';apply propext;constructor
   ·intro h w' hb;exact h w' (Gs hb)
   ·rintro h w' ⟨e,rfl⟩;exact h _ (rW w e)
  rw[this];simpa using h
theorem aS{a b:Bool}(h:a=b):Ending.returned (.bool a)=.returned (.bool b):=by rw[h]
theorem bU{a b:Int}(h:a=b):Ending.returned (.int .i64 a)=.returned (.int .i64 b):=by rw[h]
def aL{α:Type}(m:Nat)(enc:α->Nat->Value)(w:World)(v:Value)(xs:List α):Prop:=
 ∃A c,v=.slice A xs.length c/\(0<xs.length->∃b off,A=some ⟨b,off,none⟩/\b<w.heap.size/\∀i x,xs[i]? =some x->∀j,j<m->w.cell? ⟨b,off+i*m+j,none⟩=some (enc x j))
def oZ{α:Type}(enc:α->Value)(w:World)(v:Value)(xs:List α):Prop:=
 ∃A c,v=.slice A xs.length c/\(0<xs.length->∃b off,A=some ⟨b,off,none⟩/\b<w.heap.size/\∀i x,xs[i]? =some x->w.cell? ⟨b,off+i,none⟩=some (enc x))
def Own(lo:Nat)(w:World)(v:Value):Prop:=
 ∀a n c,v=.slice (some a) n c->0<n->lo<=a.block/\a.block<w.heap.size/\∀i,w.frozen? ⟨a.block,i,none⟩=false
theorem aL.ext{α:Type}{m:Nat}{enc:α->Nat->Value}{w w':World}{v:Value}{xs:List α}(h:aL m enc w v xs)(hb:Ext w w'):aL m enc w' v xs:=by obtain⟨A,c,hv,h⟩:=h;refine⟨A,c,hv,λhn=>?_⟩;obtain⟨b,off,hA,hlt,hc⟩:=h hn;exact⟨b,off,hA,Nat.lt_of_lt_of_le hlt hb.size,λi x hx j hj=>hb.cell (hc i x hx j hj)⟩
theorem oZ.ext{α:Type}{enc:α->Value}{w w':World}{v:Value}{xs:List α}(h:oZ enc w v xs)(hb:Ext w w'):oZ enc w' v xs:=by obtain⟨A,c,hv,h⟩:=h;refine⟨A,c,hv,λhn=>?_⟩;obtain⟨b,off,hA,hlt,hc⟩:=h hn;exact⟨b,off,hA,Nat.lt_of_lt_of_le hlt hb.size,λi x hx=>hb.cell (hc i x hx)⟩
theorem Own.ext{lo:Nat}{w w':World}{v:Value}(h:Own lo w v)(hb:Ext w w'):Own lo w' v:=by intro a n c hv hn;obtain⟨h1,h2,h3⟩:=h a n c hv hn;exact⟨h1,Nat.lt_of_lt_of_le h2 hb.size,λi=>(hb.frozen (p:=⟨a.block,i,none⟩) h2).trans (h3 i)⟩
theorem Own.mono{lo lo':Nat}{w:World}{v:Value}(h:Own lo w v)(hl:lo'<=lo):Own lo' w v:=λa n c hv hn=>
 let ⟨h1,h2,h3⟩:=h a n c hv hn
 ⟨Nat.le_trans hl h1,h2,h3⟩
theorem aL.nil{α:Type}(m:Nat)(enc:α->Nat->Value)(w:World)(c:Nat)(A:Option Addr):aL m enc w (.slice A 0 c) ([]:List α):=⟨A,c,rfl,λh=>absurd h (Nat.lt_irrefl _)⟩
theorem oZ.nil{α:Type}(enc:α->Value)(w:World)(c:Nat)(A:Option Addr):oZ enc w (.slice A 0 c) ([]:List α):=⟨A,c,rfl,λh=>absurd h (Nat.lt_irrefl _)⟩
theorem Own.nil(lo:Nat)(w:World)(c:Nat)(A:Option Addr):Own lo w (.slice A 0 c):=λa n c' hv hn=>by injection hv with _ h2 _;omega
def encI(x:Int):Value:=.int .i64 x
theorem ah{α:Type}{xs:List α}{k:Nat}(h:k<xs.length):∃x,xs[k]? =some x:=⟨xs[k],by simp[h]⟩
def lH(x lo hi:Int):Bool:=decide (lo<=x)&&decide (x<=hi)
theorem cK{x lo hi:Int}:lH x lo hi=true↔lo<=x/\x<=hi:=by simp[lH]
theorem Vq{x lo hi:Int}:lH x lo hi=false↔x<lo∨hi<x:=by simp only[lH,Bool.and_eq_false_iff,decide_eq_false_iff_not];omega
def ny(w:World)(g N:Nat):Prop:=∃cs t,w.heap[g]? =some (.cells cs t (0,0))/\cs.size=N
theorem ny.lt{w:World}{g N:Nat}(h:ny w g N):g<w.heap.size:=by
 obtain⟨cs,t,h,_⟩:=h;rcases Nat.lt_or_ge g w.heap.size with h'|h'
 ·exact h'
 ·rw[Array.getElem?_eq_none h']at h;cases h
theorem ny.ext{w w':World}{g N:Nat}(h:ny w g N)(hb:Ext w w'):ny w' g N:=by have hl:=h.lt;obtain⟨cs,t,h,hs⟩:=h;exact⟨cs,t,(Below.block hb g hl).trans h,hs⟩
theorem ny.cell{w:World}{g N j:Nat}(h:ny w g N)(hj:j<N):∃u,w.cell? ⟨g,j,none⟩=some u:=by obtain⟨cs,t,h,hs⟩:=h;exact⟨cs[j],by simp[World.cell?,h,show j<cs.size from by omega]⟩
theorem ny.free{w:World}{g N:Nat}(h:ny w g N)(j:Nat):w.frozen? ⟨g,j,none⟩=false:=by obtain⟨cs,t,h,hs⟩:=h;simp[World.frozen?,h]
theorem ny.set{w:World}{g N:Nat}(h:ny w g N)(a:Addr)(u:Value):ny (w.setCell a u) g N:=by
 obtain⟨cs,t,h,hs⟩:=h;by_cases ha:a.block=g
 ·refine⟨if a.spot.isSome then cs else cs.setIfInBounds a.off u,t,?_,?_⟩
  ·simp[World.setCell,Array.getElem?_modify,ha,h]
  ·split<;>simp[hs]
 ·exact⟨cs,t,by simp[World.setCell,Array.getElem?_modify,ha,h],hs⟩
theorem ny.made(w:World)(cs:Array Value)(t:TypeId):ny (w.alloc (.cells cs t)) w.heap.size cs.size:=⟨cs,t,heap_alloc_new w _,rfl⟩
theorem fC{w:World}{g N j:Nat}(h:ny w g N)(hj:j<N)(u:Value):(w.setCell ⟨g,j,none⟩ u).cell? ⟨g,j,none⟩=some u:=by obtain⟨cs,t,h,hs⟩:=h;simp[World.setCell,World.cell?,Array.getElem?_modify,h,show j<cs.size from by omega]
theorem aC{w:World}{p q:Addr}(hne:p≠q)(u:Value):(w.setCell p u).cell? q=w.cell? q:=
 World.cell?_setCell_other w p q u hne
section
variable{α:Type}{m:Nat}{enc:α->Nat->Value}{g N k j:Nat}{xs:List α}{w w':World}{x:α}
theorem ny.own(h:ny w g N){lo:Nat}(hl:lo<=g)(off n c:Nat):Own lo w (.slice (some ⟨g,off,none⟩) n c):=by intro a n' c' hv hn;injection hv with h1 _ _;injection h1 with h1;subst h1;exact⟨hl,h.lt,λi=>h.free i⟩
end
structure Only (v:Value) (w w':World):Prop where
 os:w'.os=w.os
 tape:w'.tape=w.tape
 output:w'.output=w.output
 size:w.heap.size<=w'.heap.size
 block:∀k,k<w.heap.size->(∀a n c,v=.slice (some a) n c->0<n->a.block≠k)->w'.heap[k]? =w.heap[k]?
 wY:∀p:Addr,p.block<w.heap.size->w'.frozen? p=w.frozen? p
theorem Only.bK{v:Value}{w w':World}(h:Ext w w'):Only v w w':=
 ⟨Below.os h,Below.tape h,Below.output h,h.size,λk hk _=>Below.block h k hk,λ_ hp=>h.frozen hp⟩
theorem Only.trans{v:Value}{a b c:World}(h:Only v a b)(k:Only v b c):Only v a c:=
 ⟨k.os.trans h.os,k.tape.trans h.tape,k.output.trans h.output,Nat.le_trans h.size k.size,
  λi hi hv=>(k.block i (Nat.lt_of_lt_of_le hi h.size) hv).trans (h.block i hi hv),λp hp=>(k.wY p (Nat.lt_of_lt_of_le hp h.size)).trans (h.wY p hp)⟩
theorem Only.setCell{a:Addr}{n c:Nat}{w:World}(hn:0<n)(off:Nat)(u:Value):Only (.slice (some a) n c) w (w.setCell ⟨a.block,off,none⟩ u):=
 ⟨rfl,rfl,rfl,by simp[World.setCell],λk _ hv=>Below.heap_setCell _ _ _ _ (λe=>hv a n c rfl hn e.symm),λp _=>by
  simp only[World.frozen?,World.setCell,Array.getElem?_modify];by_cases e:a.block=p.block
  ·rw[if_pos e]
   cases w.heap[p.block]? with
   | none=>rfl
   | some o=>cases o<;>rfl
  ·rw[if_neg e]⟩
def Apart(u v:Value):Prop:=∀a n c a' n' c',u=.slice (some a) n c->v=.slice (some a') n' c'->0<n->0<n'->a.block≠a'.block
theorem aL.apart{α:Type}{m:Nat}{enc:α->Nat->Value}{w w':World}{u v:Value}{xs:List α}(h:aL m enc w u xs)(ho:Own w.heap.size w' v):Apart u v:=by
 intro a n c a' n' c' hu hv hn hn' e;obtain⟨A,cc,hA,h⟩:=h;rw[hA]at hu;injection hu with h1 h2 h3;obtain⟨b,off,hb,hlt,_⟩:=h (by omega);rw[hb]at h1;injection h1 with h1
 have:=(ho a' n' c' hv hn').1
 rw[<-h1]at e;simp at e;omega
theorem Only.cell{v:Value}{w w':World}(h:Only v w w'){p:Addr}{u:Value}(hp:∀a n c,v=.slice (some a) n c->0<n->a.block≠p.block)(hc:w.cell? p=some u):w'.cell? p=some u:=by
 have hb:p.block<w.heap.size:=by
  rcases Nat.lt_or_ge p.block w.heap.size with h'|h'
  ·exact h'
  ·simp[World.cell?,Array.getElem?_eq_none h']at hc
 rw[<-hc];simp only[World.cell?,h.block p.block hb hp]
theorem aL.only{α:Type}{m:Nat}{enc:α->Nat->Value}{w w':World}{u v:Value}{xs:List α}(h:aL m enc w u xs)(ho:Only v w w')(ha:Apart u v):aL m enc w' u xs:=by obtain⟨A,c,hA,h⟩:=h;refine⟨A,c,hA,λhn=>?_⟩;obtain⟨b,off,hb,hlt,hc⟩:=h hn;refine⟨b,off,hb,Nat.lt_of_lt_of_le hlt ho.size,λi x hx j hj=>ho.cell (λa n c' hv hn' e=>?_) (hc i x hx j hj)⟩;subst hb;exact ha _ _ _ _ _ _ hA hv hn hn' e.symm
theorem Own.only{lo:Nat}{w w':World}{u v:Value}(h:Own lo w u)(ho:Only v w w'):Own lo w' u:=by intro a n c hv hn;obtain⟨h1,h2,h3⟩:=h a n c hv hn;exact⟨h1,Nat.lt_of_lt_of_le h2 ho.size,λi=>(ho.wY ⟨a.block,i,none⟩ h2).trans (h3 i)⟩
theorem Ext.only{w w1 w2:World}{v:Value}{lo:Nat}(h:Ext w w1)(ho:Only v w1 w2)(hown:Own lo w1 v)(hl:w.heap.size<=lo):Ext w w2:=by
 have h':Below w.heap.size w w1:=h;exact⟨ho.os.trans h'.os,ho.tape.trans h'.tape,ho.output.trans h'.output,Nat.le_trans h'.size ho.size,λk hk=>
  (ho.block k (Nat.lt_of_lt_of_le hk h'.size) (λa n c hv hn e=>by have:=(hown a n c hv hn).1;omega)).trans (h'.block k hk)⟩
theorem Own.yH{lo:Nat}{w:World}{b off n c:Nat}(h:Own lo w (.slice (some ⟨b,off,none⟩) n c))(hn:0<n)(i:Nat):w.frozen? ⟨b,i,none⟩=false:=(h _ _ _ rfl hn).2.2 i
theorem fJ{w:World}{a:Addr}{v:Value}(h:w.cell? a=some v)(u:Value):(w.setCell a u).cell? a=some u:=by
 obtain⟨b,o,sp⟩:=a;simp only[World.cell?]at h
 cases hb:w.heap[b]? with
 | none=>rw[hb]at h;cases h
 | some ob=>
   rw[hb]at h
   cases ob with
   | cells cs t fr=>
     simp only at h
     cases sp with
     | some s=>simp at h
     | none=>
       simp at h;have hlt:=(Array.getElem?_eq_some_iff.1 h).1;simp[World.setCell,World.cell?,Array.getElem?_modify,hb,hlt]
   | _=>cases h
theorem qo{P:Program}{e:TypeId}{z:Value}{s b:Nat}(h:(P.info? e).map (λi=>(i.zero,i.size,i.bytes))=some (some z,s,b)):∃i,P.info? e=some i/\i.zero=some z/\i.size=s/\i.bytes=b:=by obtain⟨i,hi,h⟩:=Option.map_eq_some_iff.1 h;simp only[Prod.mk.injEq]at h;exact⟨i,hi,h.1,h.2.1,h.2.2⟩
theorem lJ{P:Program}(t e:TypeId){z:Value}{s b:Nat}(ht:P.underlying t=some (.slice e))(h:(P.info? e).map (λi=>(i.zero,i.size,i.bytes))=some (some z,s,b))(n:Nat)(hb:b*n<=281474976710656)(h63:n<=9223372036854775807)(w:World) :
 (Instr.makeSlice t (.int .i64 (n:Int)) (.int .i64 (n:Int))).run P w=.ok (.slice (some ⟨w.heap.size,0,none⟩) n n) (w.alloc (.cells (madeCells z.cells (n*s)) e)):=by
 obtain⟨i,hi,hz,hs,hby⟩:=qo h;have hb':(i.bytes:Int)*(n:Int)<=281474976710656:=by
  have h:((i.bytes*n:Nat):Int)<=281474976710656:=by rw[hby];omega
  rwa [Int.natCast_mul]at h
 have hr:=run_make (P:=P) w t e i z ht hi hz .i64 .i64 n n (by omega) (by omega) hb' (by omega);simp only[Int.toNat_natCast]at hr;rw[hr,hs]
def findAt{α:Type}(p:α->Bool):List α->Nat->Int
 | [],_=>-1
 | x :: xs,k=>if p x then k else findAt p xs (k+1)
theorem pQ{α:Type}{p:α->Bool}{xs:List α}{k:Nat}:decide (0<=findAt p xs k)=xs.any p:=by
 induction xs generalizing k with
 | nil=>rfl
 | cons x xs ih=>
   unfold findAt;rw[List.any_cons];split
   ·rename_i h;rw[h];simp
   ·rename_i h;rw[ih];simp[h]
theorem nX{α:Type}{p:α->Bool}{xs:List α}{k:Nat}{x:α}(hx:xs[k]? =some x)(hp:p x=false):findAt p (xs.drop k) k=findAt p (xs.drop (k+1)) (k+1):=by obtain⟨hk,rfl⟩:=List.getElem?_eq_some_iff.1 hx;rw[List.drop_eq_getElem_cons hk,findAt,if_neg (by simp[hp])]
theorem pJ{α:Type}{p:α->Bool}{xs:List α}{k:Nat}{x:α}(hx:xs[k]? =some x)(hp:p x=true):findAt p (xs.drop k) k=k:=by obtain⟨hk,rfl⟩:=List.getElem?_eq_some_iff.1 hx;rw[List.drop_eq_getElem_cons hk,findAt,if_pos hp]
end
theorem aa{p:Prop}(h:p):Hid p:=h
theorem fG{P:Program}{ops:Array Oper}{Q:Exit->Act->World->Prop}{md:Region.Mode}{S:World->Prop}(i:Nat)(v:Value){oi:Oper}{fuel:Nat}{listed:Array Bool}{a:Act}{w:World}(hi:ops[i]? =some oi)
 (hy:YieldsIf P ops S oi v a) (hS:S w) (h:wpAnyH P md ops Q S fuel (listed.setIfInBounds i true) (a.put oi.dst v) w)
 (hs:Region.noSelect ops=true:=by as_aux_lemma=>kernel_rfl) (hf:Region.free md ops listed i=true:=by as_aux_lemma=>kernel_rfl) (hr:(Region.ready md ops listed).contains i=true:=by as_aux_lemma=>kernel_rfl)
 (hQ:∀c a w,Q (.panic c) (a.put oi.dst v) w->Q (.panic c) a w:=by exact λ_ _ _ h=>h):wpAnyH P md ops Q S (fuel+1) listed a w:=
 wpAnyH_take hi hs hf hr hQ hy hS h
abbrev aM:=@List.mem_of_getElem?
abbrev bG:=@List.getElem?_eq_some_iff
abbrev av:=@Nat.le_refl
abbrev dJ:=@List.getElem?_eq_getElem
abbrev bR:=@Nat.lt_of_lt_of_le
abbrev aY:=@AllReadyH.cons
abbrev bu:=@AllReadyH.nil
abbrev fF:=@Array.getElem?_eq_some_iff
abbrev dw:=@List.length_append
abbrev aT:=@Nat.zero_le
abbrev dZ:=@Int.eq_ofNat_of_zero_le
abbrev aB:=@And.intro
abbrev bM:=@List.take_length
abbrev aX:=@Nat.le_trans
abbrev dh:=@Bool.and_eq_true
abbrev eY:=@List.length_take
abbrev eO:=@List.length_cons
abbrev dX:=@List.length_map
abbrev dL:=@IntWalk.i64_in
abbrev jq:=@List.getElem_of_mem
abbrev jX:=@List.take_of_length_le
abbrev iO:=@List.getElem?_set
abbrev mZ:=@List.eq_nil_of_length_eq_zero
abbrev eP:=@Nat.lt_or_ge
abbrev fE:=@Nat.add_zero
abbrev iE:=@List.length_set
abbrev iJ:=@List.length_nil
abbrev iR:=@List.mem_append
abbrev jM:=@List.append_assoc
abbrev fV:=@List.mem_map
abbrev lW:=@Array.getElem?_modify
abbrev lq:=@List.flatMap_append
abbrev jh:=@List.append_nil
abbrev jF:=@List.any_eq_true
abbrev jT:=@List.getElem?_map
abbrev mO:=@List.length_filter_le
abbrev kT:=@List.all_eq_true
abbrev ig:=@Nat.zero_add
abbrev af:=@Ext.refl
abbrev dP:=@heap_alloc_new
abbrev aO:=@wpAnyH_ready
abbrev aj:=@if_pos
abbrev au:=@if_neg
abbrev dU:=@decide_eq_false
abbrev ji:=@wpAnyH_done
abbrev bF:=@IntKind.wrap_i64
abbrev MS:=@List.getElem?_append
abbrev nU:=@List.getElem?_take
abbrev Bd:=@List.getElem?_drop
abbrev rX:=@List.length_drop
abbrev mM:=@List.mem_cons
abbrev agI:=@List.getElem?_eq_none
abbrev DR:=@Array.getElem?_eq_none
abbrev sM:=@Nat.lt_irrefl
abbrev R5:=@Nat.mod_lt
abbrev JC:=@Nat.div_le_self
abbrev M5:=@Option.some.inj
abbrev sQ:=@Value.slice.inj
abbrev qJ:=@List.getElem?_set_self
abbrev G6:=@List.getElem?_set_ne
abbrev Q6:=@List.mem_range
abbrev nT:=@List.mem_filter
abbrev nL:=@List.foldl_append
abbrev uz:=@List.foldl_cons
abbrev rR:=@List.map_append
abbrev agB:=@congrArg
abbrev iK:=@Or.inl
abbrev aA:=@Or.inr
abbrev rU:=@decide_eq_true_eq
abbrev fU:=@beq_eq_false_iff_ne
abbrev jw:=@decide_eq_true
abbrev gu:=@Nat.not_lt_zero
abbrev kQ:=@Bool.eq_iff_iff
abbrev kL:=@Option.map_eq_some_iff
abbrev oN:=@List.length_singleton
abbrev qM:=@Int.toNat_natCast
abbrev oI:=@List.mem_of_mem_take
abbrev sN:=@List.filter_cons
abbrev mI:=@List.getD_eq_getElem?_getD
abbrev vU:=@List.range_succ
abbrev j5:=@wpQuiet_nil
abbrev iD:=@Nat.le_succ
abbrev pF:=@List.mem_singleton
abbrev sF:=@List.length_pos_of_mem
abbrev Xl:=@List.map_map
abbrev agD:=@List.flatMap_cons
abbrev qc:=@List.map_cons
abbrev kN:=@List.map_nil
abbrev agF:=@Bool.or_eq_true
abbrev agK:=@List.filterMap_cons
abbrev rF:=@List.filter_append
abbrev oK:=@List.getElem?_append_left
abbrev agG:=@List.getElem?_append_right
abbrev vH:=@List.length_replicate
abbrev wK:=@List.length_flatMap
abbrev BM:=@List.nodup_cons
abbrev aaD:=@List.take_zero
abbrev agM:=@List.drop_drop
abbrev oP:=@List.drop_zero
abbrev agH:=@List.not_mem_nil
abbrev agE:=@List.length_eraseIdx
abbrev yL:=@Nat.succ_le_of_lt
abbrev qx:=@Nat.lt_succ_self
abbrev aai:=@Nat.le_of_lt
abbrev rC:=@Nat.min_eq_left
abbrev agJ:=@Nat.mod_eq_of_lt
abbrev agL:=@Array.size_setIfInBounds
abbrev Mm:=@Tryz.underlying56
abbrev agC:=@Tryz.underlying3
abbrev eG:=@Tryz.underlying46
abbrev kY:=@Tryz.underlying31
abbrev kC:=@Tryz.underlying23
abbrev mR:=@Tryz.underlying9
abbrev qm:=@Tryz.underlying36
abbrev Mr:=@Tryz.underlying67
structure aV where
 kind:Int
 key:Int
 value:Int
def encOpr(x:aV):Nat->Value
 | 0=>.int .i64 x.kind
 | 1=>.int .i64 x.key
 | _=>.int .i64 x.value
def iG(x:aV):Value:=.agg #[.int .i64 x.kind,.int .i64 x.key,.int .i64 x.value]
structure Edge where
 fH:Int
 to:Int
 kind:Int
def aZ(x:Edge):Nat->Value
 | 0=>.int .i64 x.fH
 | 1=>.int .i64 x.to
 | _=>.int .i64 x.kind
theorem uV{v:Value}{xs:List aV}(w:World)(F:FuncId)(cap:Array Value)(p:aV->Bool)(h:aL 3 encOpr w v xs)(hlen:xs.length<=2097152)
 (hcf:∀args W,(callFunc F args).run Tryz.prog W=.ok (.enter F args) W) (hF:∀x∈xs,∀W,Ext w W->Calls Tryz.prog F (#[.agg #[.int .i64 x.kind,.int .i64 x.key,.int .i64 x.value]]++cap) W λe w'=>e=.returned (.bool (p x))/\Ext W w') :
 Calls Tryz.prog 121 #[v,.func (.func F) #[] cap] w λe w'=>e=.returned (.int .i64 (findAt p xs 0))/\Ext w w':=by
 obtain⟨A,c,rfl,h⟩:=h;have HF:=aa hF;clear hF;go_enter Tryz.func121,Tryz.ntmps121;go_wp2;go_loopw [8] (λi wr=>Ext w wr/\∃k:Nat,k<=xs.length/\i=.int .i64 k/\Hid (findAt p xs 0=findAt p (xs.drop k) k)) (λi _=>xs.length-(intOf i).toNat)
 case atStart=>exact⟨af _,0,aT _,rfl,rfl⟩
 case round=>
  obtain⟨hb,k,hk,rfl,HI⟩:=hrel;by_cases hlt:k<xs.length
  ·obtain⟨b,off,rfl,hbl,hc⟩:=h (by omega);obtain⟨x,hx⟩:=ah hlt;have c0:wr.cell? ⟨b,off+k*3,none⟩=some (.int .i64 x.kind):=hb.cell (hc k x hx 0 (by omega));have c1:wr.cell? ⟨b,off+k*3+1,none⟩=some (.int .i64 x.key):=hb.cell (hc k x hx 1 (by omega));have c2:wr.cell? ⟨b,off+k*3+2,none⟩=some (.int .i64 x.value):=hb.cell (hc k x hx 2 (by omega));have Hx:=aa hx;have Hm:=aM hx;clear hx h hc;go_wp2_with fail
   refine(HF.out x Hm _ hb).mono ?_
   rintro e w1 ⟨rfl,b1⟩;by_cases hp:p x=true
   ·have hr:=aa (HI.out.trans (pJ Hx.out hp));go_wp2;go_returns;exact⟨bU hr.out.symm,hb.trans b1⟩
   ·simp only[Bool.not_eq_true]at hp;have hr:=aa (HI.out.trans (nX Hx.out hp));go_wp2;go_roundw;case rel=>exact⟨hb.trans b1,k+1,by omega,by go_num,hr⟩
    case measure=>simp[intOf];omega
  ·obtain rfl:k=xs.length:=by omega
   go_wp2;go_returns;exact⟨bU (by rw[HI.out];simp[findAt]),hb⟩
theorem qQ{v:Value}{xs:List aV}(w:World)(F:FuncId)(cap:Array Value)(p:aV->Bool)(h:aL 3 encOpr w v xs)(hlen:xs.length<=2097152)
 (hcf:∀args W,(callFunc F args).run Tryz.prog W=.ok (.enter F args) W) (hF:∀x∈xs,∀W,Ext w W->Calls Tryz.prog F (#[.agg #[.int .i64 x.kind,.int .i64 x.key,.int .i64 x.value]]++cap) W λe w'=>e=.returned (.bool (p x))/\Ext W w') :
 Calls Tryz.prog 85 #[v,.func (.func F) #[] cap] w λe w'=>e=.returned (.bool (xs.any p))/\Ext w w':=by
 have HF:=aa hF;clear hF;go_enter Tryz.func85,Tryz.ntmps85;go_wp2_with fail
 refine(uV w F cap p h hlen hcf HF.out).mono ?_
 rintro e w1 ⟨rfl,b1⟩;go_wp2;go_returns;exact⟨aS (pQ),b1⟩
theorem Cs{v:Value}{xs:List Edge}(w:World)(F:FuncId)(cap:Array Value)(p:Edge->Bool)(h:aL 3 aZ w v xs)(hlen:xs.length<=2097152)
 (hcf:∀args W,(callFunc F args).run Tryz.prog W=.ok (.enter F args) W) (hF:∀x∈xs,∀W,Ext w W->Calls Tryz.prog F (#[.agg #[.int .i64 x.fH,.int .i64 x.to,.int .i64 x.kind]]++cap) W λe w'=>e=.returned (.bool (p x))/\Ext W w') :
 Calls Tryz.prog 287 #[v,.func (.func F) #[] cap] w λe w'=>e=.returned (.int .i64 (findAt p xs 0))/\Ext w w':=by
 obtain⟨A,c,rfl,h⟩:=h;have HF:=aa hF;clear hF;go_enter Tryz.func287,Tryz.ntmps287;go_wp2;go_loopw [8] (λi wr=>Ext w wr/\∃k:Nat,k<=xs.length/\i=.int .i64 k/\Hid (findAt p xs 0=findAt p (xs.drop k) k)) (λi _=>xs.length-(intOf i).toNat)
 case atStart=>exact⟨af _,0,aT _,rfl,rfl⟩
 case round=>
  obtain⟨hb,k,hk,rfl,HI⟩:=hrel;by_cases hlt:k<xs.length
  ·obtain⟨b,off,rfl,hbl,hc⟩:=h (by omega);obtain⟨x,hx⟩:=ah hlt;have c0:wr.cell? ⟨b,off+k*3,none⟩=some (.int .i64 x.fH):=hb.cell (hc k x hx 0 (by omega));have c1:wr.cell? ⟨b,off+k*3+1,none⟩=some (.int .i64 x.to):=hb.cell (hc k x hx 1 (by omega));have c2:wr.cell? ⟨b,off+k*3+2,none⟩=some (.int .i64 x.kind):=hb.cell (hc k x hx 2 (by omega));have Hx:=aa hx;have Hm:=aM hx;clear hx h hc;go_wp2_with fail
   refine(HF.out x Hm _ hb).mono ?_
   rintro e w1 ⟨rfl,b1⟩;by_cases hp:p x=true
   ·have hr:=aa (HI.out.trans (pJ Hx.out hp));go_wp2;go_returns;exact⟨bU hr.out.symm,hb.trans b1⟩
   ·simp only[Bool.not_eq_true]at hp;have hr:=aa (HI.out.trans (nX Hx.out hp));go_wp2;go_roundw;case rel=>exact⟨hb.trans b1,k+1,by omega,by go_num,hr⟩
    case measure=>simp[intOf];omega
  ·obtain rfl:k=xs.length:=by omega
   go_wp2;go_returns;exact⟨bU (by rw[HI.out];simp[findAt]),hb⟩
theorem xV{v:Value}{xs:List Edge}(w:World)(F:FuncId)(cap:Array Value)(p:Edge->Bool)(h:aL 3 aZ w v xs)(hlen:xs.length<=2097152)
 (hcf:∀args W,(callFunc F args).run Tryz.prog W=.ok (.enter F args) W) (hF:∀x∈xs,∀W,Ext w W->Calls Tryz.prog F (#[.agg #[.int .i64 x.fH,.int .i64 x.to,.int .i64 x.kind]]++cap) W λe w'=>e=.returned (.bool (p x))/\Ext W w') :
 Calls Tryz.prog 260 #[v,.func (.func F) #[] cap] w λe w'=>e=.returned (.bool (xs.any p))/\Ext w w':=by
 have HF:=aa hF;clear hF;go_enter Tryz.func260,Tryz.ntmps260;go_wp2_with fail
 refine(Cs w F cap p h hlen hcf HF.out).mono ?_
 rintro e w1 ⟨rfl,b1⟩;go_wp2;go_returns;exact⟨aS (pQ),b1⟩
structure aG where
 az:Int
 ops:List aV
 done:Bool
theorem aV.ext'{a b:aV}(h1:a.kind=b.kind)(h2:a.key=b.key)(h3:a.value=b.value):a=b:=by cases a;cases b;simp_all
instance:DecidableEq aV:=λa b=>
 if h:a.kind=b.kind/\a.key=b.key/\a.value=b.value then isTrue (aV.ext' h.1 h.2.1 h.2.2) else isFalse (λe=>h (by subst e;exact⟨rfl,rfl,rfl⟩))
instance:Inhabited aV:=⟨⟨0,0,0⟩⟩
instance:Inhabited aG:=⟨⟨0,[],false⟩⟩
def oH(o:aV):Bool:=o.kind==1
def jQ(o:aV):Bool:=o.kind==2
def iY(o:aV):Bool:=(oH o || jQ o)&&lH o.key 0 2&&lH o.value 0 99 && !(jQ o&&o.value==0)
def dG(t:aG):Bool:=lH t.az 0 3&&decide (t.ops.length<=6)&&t.ops.all iY
def iC(n:Nat)(ops:List aV):List ((Int × Int) × Nat):=(ops.filter jQ).map λo=>((o.key,o.value),n)
def wrsFrom:Nat->List aG->List ((Int × Int) × Nat)
 | _,[]=>[]
 | n,t :: h=>iC n t.ops++wrsFrom (n+1) h
def Da(h:List aG):List ((Int × Int) × Nat):=wrsFrom 0 h
def kH(h:List aG):Bool:=decide ((Da h).map (·.1)).Nodup
def aD(h:List aG):Bool:=decide (h.length<=6)&&h.all dG&&kH h
def lookW(l:List ((Int × Int) × Nat))(q:Int × Int):Option Nat:=(l.find? (λp=>p.1==q)).map (·.2)
def aI(h:List aG)(key value:Int):Int:=((lookW (Da h) (key,value)).map λn=>(n:Int)).getD (-1)
theorem MH(n:Nat)(a b:List aV):iC n (a++b)=iC n a++iC n b:=by simp[iC]
theorem xQ(n:Nat)(a b:List aG):wrsFrom n (a++b)=wrsFrom n a++wrsFrom (n+a.length) b:=by
 induction a generalizing n with
 | nil=>simp[wrsFrom]
 | cons t a ih=>simp[wrsFrom,ih,jM,Nat.add_assoc,Nat.add_comm 1]
theorem ak{α:Type}{l:List α}{k:Nat}{x:α}(h:l[k]? =some x):l.take (k+1)=l.take k++[x]:=by rw[List.take_add_one,h];rfl
theorem IU{α:Type}{l:List α}{k:Nat}{x:α}(h:l[k]? =some x):l=l.take k++x :: l.drop (k+1):=by obtain⟨hk,rfl⟩:=bG.1 h;rw[<-List.drop_eq_getElem_cons hk,List.take_append_drop]
def dY(h:List aG)(k:Nat)(ops:List aV)(j:Nat):List ((Int × Int) × Nat):=wrsFrom 0 (h.take k)++iC k (ops.take j)
theorem tu{h:List aG}{k j:Nat}{ops:List aV}{o:aV}(ho:ops[j]? =some o)(hw:jQ o=true):dY h k ops (j+1)=dY h k ops j++[((o.key,o.value),k)]:=by simp[dY,ak ho,iC,hw,sN]
theorem Bn{h:List aG}{k j:Nat}{ops:List aV}{o:aV}(ho:ops[j]? =some o)(hw:jQ o=false):dY h k ops (j+1)=dY h k ops j:=by simp[dY,ak ho,iC,hw,sN]
theorem C8{h:List aG}{k:Nat}{t:aG}(ht:h[k]? =some t):dY h k t.ops t.ops.length=wrsFrom 0 (h.take (k+1)):=by have hk:k<h.length:=(bG.1 ht).1;rw[dY,ak ht,xQ,bM];simp[wrsFrom,rC (aai hk)]
theorem DF{h:List aG}{k j:Nat}{t:aG}{o:aV}(ht:h[k]? =some t)(ho:t.ops[j]? =some o)(hw:jQ o=true) :
 ∃l,Da h=dY h k t.ops j++((o.key,o.value),k) :: l:=by
 have hk:k<h.length:=(bG.1 ht).1;have e1:Da h=wrsFrom 0 (h.take k)++(iC k t.ops++wrsFrom (k+1) (h.drop (k+1))):=by
  unfold Da
  conv=>lhs;rw[IU ht]
  rw[xQ];simp[wrsFrom,rC (aai hk)]
 have e2:iC k t.ops=iC k (t.ops.take j)++((o.key,o.value),k) :: iC k (t.ops.drop (j+1)):=by
  conv=>lhs;rw[IU ho]
  rw[MH];simp[iC,sN,hw]
 exact⟨iC k (t.ops.drop (j+1))++wrsFrom (k+1) (h.drop (k+1)),by rw[e1,e2,dY];simp⟩
theorem uY{l:List ((Int × Int) × Nat)}{q:Int × Int}:lookW l q=none↔q∉l.map (·.1):=by
 unfold lookW;rw[Option.map_eq_none_iff,List.find?_eq_none];constructor
 ·intro h hq;obtain⟨p,hp,rfl⟩:=fV.1 hq;exact h p hp (by simp)
 ·intro h p hp e;exact h (fV.2 ⟨p,hp,by simpa using e⟩)
theorem SN(l:List ((Int × Int) × Nat))(q:Int × Int)(n:Nat)(hq:lookW l q=none)(r:Int × Int):lookW (l++[(q,n)]) r=if r=q then some n else lookW l r:=by
 by_cases e:r=q
 ·subst e;rw[aj rfl];unfold lookW at hq ⊢;rw[Option.map_eq_none_iff]at hq;simp[List.find?_append,hq]
 ·rw[au e];unfold lookW;rw[List.find?_append]
  have:(q==r)=false:=by simp;exact λh=>e h.symm
  cases l.find? (λp=>p.1==r)<;>simp[this]
theorem zX{h:List aG}{k j n:Nat}{t:aG}{o:aV}(ht:h[k]? =some t)(ho:t.ops[j]? =some o)(hw:jQ o=true)(hl:lookW (dY h k t.ops j) (o.key,o.value)=some n):kH h=false:=by
 obtain⟨l,e⟩:=DF ht ho hw;unfold kH;rw[e,decide_eq_false_iff_not,rR,List.nodup_append];intro hnd;have hmem:(o.key,o.value)∈(dY h k t.ops j).map (·.1):=by
  rcases Classical.em ((o.key,o.value)∈(dY h k t.ops j).map (·.1)) with h'|h'
  ·exact h'
  ·rw[uY.2 h']at hl;cases hl
 exact hnd.2.2 _ hmem _ (by simp) rfl
theorem EX{h:List aG}(hn:(Da h).map (·.1) |>.Nodup):kH h=true:=by unfold kH;exact jw hn
theorem Sv{l:List ((Int × Int) × Nat)}{q:Int × Int}{n:Nat}(hl:(l.map (·.1)).Nodup)(hq:lookW l q=none):((l++[(q,n)]).map (·.1)).Nodup:=by rw[rR,List.nodup_append];exact⟨hl,by simp,λa ha b hb e=>uY.1 hq (by simp at hb;rw[<-hb,<-e];exact ha)⟩
theorem kS{t:aG}(h:dG t=true):0<=t.az/\t.az<=3:=by simp only[dG,dh]at h;exact cK.1 h.1.1
theorem dF{t:aG}(h:dG t=true):t.ops.length<=6:=by simp only[dG,dh,rU]at h;exact h.1.2
theorem gD{t:aG}(h:dG t=true){o:aV}(ho:o∈t.ops):iY o=true:=by simp only[dG,dh,kT]at h;exact h.2 o ho
theorem p8{o:aV}(h:iY o=true):o.kind=1∨o.kind=2:=by simp only[iY,oH,jQ,dh,agF,beq_iff_eq]at h;exact h.1.1.1
theorem jE{o:aV}(h:iY o=true):0<=o.key/\o.key<=2:=by simp only[iY,dh]at h;exact cK.1 h.1.1.2
theorem lS{o:aV}(h:iY o=true):0<=o.value/\o.value<=99:=by simp only[iY,dh]at h;exact cK.1 h.1.2
theorem AJ{o:aV}(h:iY o=true)(hw:jQ o=true):0<o.value:=by
 have hv:=lS h;simp only[iY,dh,hw,Bool.true_and,Bool.not_eq_true',fU]at h
 have:=h.2;omega
theorem aR{h:List aG}(hh:aD h=true):h.length<=6:=by simp only[aD,dh,rU]at hh;exact hh.1.1
theorem dH{h:List aG}(hh:aD h=true){t:aG}(ht:t∈h):dG t=true:=by simp only[aD,dh,kT]at hh;exact hh.1.2 t ht
theorem Mg{h:List aG}(hh:aD h=true):(Da h).map (·.1) |>.Nodup:=by simp only[aD,kH,dh,rU]at hh;exact hh.2
section
section
variable{α:Type}{enc:α->Value}{g N k:Nat}{xs:List α}{w w':World}{x:α}
end
theorem Je{v:Value}{xs:List Int}(w:World)(F:FuncId)(cap:Array Value)(p:Int->Bool)(h:oZ encI w v xs)(hlen:xs.length<=2097152)
 (hcf:∀args W,(callFunc F args).run Tryz.prog W=.ok (.enter F args) W) (hF:∀x∈xs,∀W,Ext w W->Calls Tryz.prog F (#[.int .i64 x]++cap) W λe w'=>e=.returned (.bool (p x))/\Ext W w') :
 Calls Tryz.prog 174 #[v,.func (.func F) #[] cap] w λe w'=>e=.returned (.int .i64 (findAt p xs 0))/\Ext w w':=by
 obtain⟨A,c,rfl,h⟩:=h;have HF:=aa hF;clear hF;go_enter Tryz.func174,Tryz.ntmps174;go_wp2;go_loopw [8] (λi wr=>Ext w wr/\∃k:Nat,k<=xs.length/\i=.int .i64 k/\Hid (findAt p xs 0=findAt p (xs.drop k) k)) (λi _=>xs.length-(intOf i).toNat)
 case atStart=>exact⟨af _,0,aT _,rfl,rfl⟩
 case round=>
  obtain⟨hb,k,hk,rfl,HI⟩:=hrel;by_cases hlt:k<xs.length
  ·obtain⟨b,off,rfl,hbl,hc⟩:=h (by omega);obtain⟨x,hx⟩:=ah hlt;have c0:wr.cell? ⟨b,off+k,none⟩=some (.int .i64 x):=hb.cell (hc k x hx);have Hx:=aa hx;have Hm:=aM hx;clear hx h hc;go_wp2_with fail
   refine(HF.out x Hm _ hb).mono ?_
   rintro e w1 ⟨rfl,b1⟩;by_cases hp:p x=true
   ·have hr:=aa (HI.out.trans (pJ Hx.out hp));go_wp2;go_returns;exact⟨bU hr.out.symm,hb.trans b1⟩
   ·simp only[Bool.not_eq_true]at hp;have hr:=aa (HI.out.trans (nX Hx.out hp));go_wp2;go_roundw;case rel=>exact⟨hb.trans b1,k+1,by omega,by go_num,hr⟩
    case measure=>simp[intOf];omega
  ·obtain rfl:k=xs.length:=by omega
   go_wp2;go_returns;exact⟨bU (by rw[HI.out];simp[findAt]),hb⟩
theorem tY{v:Value}{xs:List Int}(w:World)(F:FuncId)(cap:Array Value)(p:Int->Bool)(h:oZ encI w v xs)(hlen:xs.length<=2097152)
 (hcf:∀args W,(callFunc F args).run Tryz.prog W=.ok (.enter F args) W) (hF:∀x∈xs,∀W,Ext w W->Calls Tryz.prog F (#[.int .i64 x]++cap) W λe w'=>e=.returned (.bool (p x))/\Ext W w') :
 Calls Tryz.prog 131 #[v,.func (.func F) #[] cap] w λe w'=>e=.returned (.bool (xs.any p))/\Ext w w':=by
 have HF:=aa hF;clear hF;go_enter Tryz.func131,Tryz.ntmps131;go_wp2_with fail
 refine(Je w F cap p h hlen hcf HF.out).mono ?_
 rintro e w1 ⟨rfl,b1⟩;go_wp2;go_returns;exact⟨aS (pQ),b1⟩
end
section
def aH{α:Type}(m:Nat)(enc:α->Nat->Value)(x:α):List Value:=(List.range m).map (enc x)
def Row{α:Type}(e:TypeId)(m:Nat)(enc:α->Nat->Value)(base:Nat)(w:World)(v:Value)(xs:List α):Prop:=
 w.ownsRow base e m v xs.length (xs.flatMap (aH m enc))
theorem kG{α:Type}{m:Nat}{enc:α->Nat->Value}(xs:List α):(xs.flatMap (aH m enc)).length=xs.length*m:=by
 induction xs with
 | nil=>simp
 | cons x xs ih=>simp only[agD,dw,ih,eO,Nat.succ_mul];simp[aH];omega
theorem uU{α:Type}{m:Nat}{enc:α->Nat->Value}{xs:List α}{i j:Nat}{x:α}(hx:xs[i]? =some x)(hj:j<m):(xs.flatMap (aH m enc))[i*m+j]? =some (enc x j):=by
 induction xs generalizing i with
 | nil=>simp at hx
 | cons y xs ih=>
   rw[agD]
   cases i with
   | zero=>
     simp at hx;subst hx;rw[oK (by simp[aH];omega)];simp[aH,hj]
   | succ i=>
     simp at hx;rw[agG (by simp[aH];rw[Nat.succ_mul];omega)]
     have:=ih hx
     rw[<-this];congr 1;simp[aH];rw[Nat.succ_mul];omega
section
variable{α:Type}{e:TypeId}{m:Nat}{enc:α->Nat->Value}{base:Nat}{w w':World}{v:Value}{xs:List α}
theorem Row.nil:Row e m enc base w (.slice none 0 0) ([]:List α):=World.ownsRow_nil w base e m
theorem Row.ext(h:Row e m enc base w v xs)(hb:Ext w w'):Row e m enc base w' v xs:=by refine World.ownsRow.kept (row:=none) h ⟨Below.os hb,Below.tape hb,Below.output hb,hb.size,λk hk _=>Below.block hb k hk⟩ ?_;cases hv:v.ownBlock<;>simp
theorem Row.cell(h:Row e m enc base w v xs):aL m enc w v xs/\Own base w v:=by
 refine⟨?_,?_⟩
 ·rcases h.2 with ⟨rfl,hn⟩|⟨g,cap,cur,rfl,hb,hg,hnc,hcm,hcs,htake⟩
  ·have:xs=[]:=mZ hn
   subst this;exact aL.nil _ _ _ _ _
  ·refine⟨_,cap,rfl,λhn=>⟨g,0,rfl,(fF.1 hg).1,λi x hx j hj=>?_⟩⟩;have h1:=uU (enc:=enc) hx hj;rw[<-htake,nU]at h1;split at h1
   ·rw[ig];simp only[World.cell?,hg];simpa using h1
   ·cases h1
 ·intro a n c hv hn;rcases h.2 with ⟨rfl,_⟩|⟨g,cap,cur,rfl,hb,hg,hnc,hcm,hcs,htake⟩
  ·cases hv
  ·injection hv with h1 h2 h3;injection h1 with h1;subst h1;exact⟨hb,(fF.1 hg).1,λi=>by simp[World.frozen?,hg]⟩
theorem Row.cap(h:Row e m enc base w v xs):∀A n c,v=.slice A n c->n<=c/\c<=9223372036854775807:=by
 intro A n c hv;rcases h.2 with ⟨rfl,_⟩|⟨g,cap,cur,rfl,hb,hg,hnc,hcm,hcs,htake⟩
 ·injection hv with h1 h2 h3;omega
 ·injection hv with h1 h2 h3;simp only[maxLen]at hcm;omega
theorem Ext.grown{a:World}{row:Option Nat}(h:Ext a w)(hg:w.grownBy w' row)(hr:∀k,row=some k->a.heap.size<=k):Ext a w':=
 Below.grown h hg h.size hr
theorem Row.block(h:Row e m enc base w v xs):∀k,v.ownBlock=some k->base<=k:=λk hk=>(World.ownsRow.lt h k hk).1
end
theorem Row.low{α:Type}{e:TypeId}{m:Nat}{enc:α->Nat->Value}{base base':Nat}{w:World}{v:Value}{xs:List α}(h:Row e m enc base w v xs)(hb:base'<=base):Row e m enc base' w v xs:=
 ⟨h.1,h.2.imp id λ⟨g,cap,cur,a,b,rest⟩=>⟨g,cap,cur,a,aX hb b,rest⟩⟩
section
variable{P:Program}{α:Type}{t ty e:TypeId}{m b:Nat}{z:Value}{enc:α->Nat->Value}{base:Nat}{w:World}{v:Value}{xs:List α}
theorem sJ(ht:P.underlying t=some (.slice e))(hinfo:(P.info? e).map (λi=>(i.zero,i.size,i.bytes))=some (some z,m,b))(hzs:z.cells.size=m)(hm:0<m)
 (h:Row e m enc base w v xs) (x:α) (h1:∀j,(enc x j).oneCell'=true) (hn:xs.length+1<=4194304) (hb:b<=64) (hbase:base<=w.heap.size) :
 ∃v' w',(Builtin.append_ #[t,t] ty #[v,.slice (some ⟨w.heap.size,0,none⟩) 1 1]).run P (w.alloc (.cells (aH m enc x).toArray e))=.ok v' w'/\Row e m enc base w' v' (xs++[x])/\(w.alloc (.cells (aH m enc x).toArray e)).grownBy w' v.ownBlock:=by
 obtain⟨i,hi,hz,hs,hby⟩:=qo hinfo;have hl:(aH m enc x).length=1*m:=by simp[aH]
 obtain⟨v',w',hrun,hown,hgrow,_⟩:=run_append_own (P:=P) (w.alloc (.cells (aH m enc x).toArray e)) base t ty e i z m b ht hi hz hs hby hzs hm v xs.length _ (World.ownsRow.alloc h _)
  ⟨w.heap.size,0,none⟩ 1 1 (aH m enc x) hl
  (λj u hu=>by
   have hadd:(⟨w.heap.size,0,none⟩:Addr).add j=⟨w.heap.size,j,none⟩:=by unfold Addr.add;split<;>simp_all
   rw[hadd,cell_of_row _ _ j _ e (0,0) (dP w _)];simpa using hu)
  (λu hu=>by simp[aH]at hu;obtain⟨j,_,rfl⟩:=hu;exact h1 j) (by simp only[maxLen];omega)
  (by have:(xs.length+1)*b<=4194304*64:=Nat.mul_le_mul hn hb;omega) (by simp;omega)
 refine⟨v',w',hrun,?_,hgrow⟩;unfold Row;rw[lq,dw];simpa using hown
theorem FR{i:TypeInfo}{n c0:Nat}{cs:List Value}(ht:P.underlying t=some (.slice e))(hi:P.info? e=some i)(hown:w.ownsRow base e c0 v n cs)(c:Nat):(Builtin.append_ #[t,t] ty #[v,.slice none 0 c]).run P w=.ok v w:=by
 rcases hown.2 with ⟨rfl,rfl⟩|⟨g,cap,cur,rfl,_,_,hnc,_⟩
 ·simp[Builtin.append_,run_underlying ht,sizeOf,typeInfo,hi,Builtin.lenOf,Builtin.firstCells]
 ·simp[Builtin.append_,run_underlying ht,sizeOf,typeInfo,hi,Builtin.lenOf,Builtin.firstCells,hnc,storeCells]
theorem lX(ht:P.underlying t=some (.slice e))(hinfo:(P.info? e).map (λi=>(i.zero,i.size,i.bytes))=some (some z,m,b))(hzs:z.cells.size=m)(hm:0<m)
 (h:Row e m enc base w v xs) {A:Option Addr} {n c:Nat} {ys:List α} (hy:aL m enc w (.slice A n c) ys) (h1:∀x∈ys,∀j,(enc x j).oneCell'=true) (hn:xs.length+ys.length<=4194304) (hb:b<=64) (hbase:base<=w.heap.size) :
 ∃v' w',(Builtin.append_ #[t,t] ty #[v,.slice A n c]).run P w=.ok v' w'/\Row e m enc base w' v' (xs++ys)/\w.grownBy w' v.ownBlock:=by
 obtain⟨i,hi,hz,hs,hby⟩:=qo hinfo;obtain⟨A',c',hA,hc⟩:=hy;injection hA with e1 e2 e3;subst e1 e2;by_cases h0:0<ys.length
 ·obtain⟨blk,off,rfl,hlt,hcell⟩:=hc h0;have hl:(ys.flatMap (aH m enc)).length=ys.length*m:=kG ys;obtain⟨v',w',hrun,hown,hgrow,_⟩:=run_append_own (P:=P) (ty:=ty) w base t e i z m b ht hi hz hs hby hzs hm v xs.length _ h
   ⟨blk,off,none⟩ ys.length c (ys.flatMap (aH m enc)) hl
   (λj u hu=>by
    have hadd:(⟨blk,off,none⟩:Addr).add j=⟨blk,off+j,none⟩:=by unfold Addr.add;split<;>simp_all
    have hjl:j<ys.length*m:=by rw[<-hl];exact(bG.1 hu).1
    have hd:j/m<ys.length:=Nat.div_lt_of_lt_mul (by rw[Nat.mul_comm];exact hjl);obtain⟨y,hy⟩:=ah hd;have hmod:=R5 j hm;have Y1:j/m*m+j%m=j:=by rw[Nat.mul_comm];exact Nat.div_add_mod j m
    have h2:=uU (enc:=enc) hy hmod;rw[Y1,hu]at h2;have h3:=hcell _ y hy _ hmod;rw[Nat.add_assoc,Y1]at h3;rw[hadd,h3,h2])
   (λu hu=>by obtain⟨y,hy,hu⟩:=List.mem_flatMap.1 hu;simp[aH]at hu;obtain⟨j,_,rfl⟩:=hu;exact h1 y hy j) (by simp only[maxLen];omega)
   (by have:(xs.length+ys.length)*b<=4194304*64:=Nat.mul_le_mul hn hb;omega) hbase
  refine⟨v',w',hrun,?_,hgrow⟩;unfold Row;rw[lq,dw];exact hown
 ·have:ys=[]:=mZ (by omega)
  subst this
  cases A with
  | none=>
    refine⟨v,w,FR ht hi h c,by simpa using h,⟨rfl,rfl,rfl,av _,λ_ _ _=>rfl⟩⟩
  | some ad=>
    obtain⟨v',w',hrun,hown,hgrow,_⟩:=run_append_own (P:=P) (ty:=ty) w base t e i z m b ht hi hz hs hby hzs hm v xs.length _ h ad 0 c [] (by simp) (λj u hu=>by simp at hu) (λu hu=>by cases hu) (by simp only[maxLen];omega)
     (by have:(xs.length+0)*b<=4194304*64:=Nat.mul_le_mul (by simpa using hn) hb;omega) hbase
    exact⟨v',w',by simpa using hrun,by simpa[Row] using hown,hgrow⟩
end
theorem wpList_append_run{P:Program}{w w':World}{ops:Array Oper}{rest:List Oper}{o:Oper}{a:Act}{Q:Exit->Act->World->Prop}{s x:Operand}{t:TypeId}{v u v':Value}(hgd:o.guard=none)
 (ho:o.op=.call { callee:=.builtin .append,args:=#[s,x],argTypes:=#[t,t] }) (hs:a.eval s=v) (hx:a.eval x=u) (hrun:(Builtin.append_ #[t,t] o.type #[v,u]).run P w=.ok v' w')
 (h:wpList P ops Q rest (a.put o.dst v') w'):wpList P ops Q (o :: rest) a w:=
 wpList_plain hgd λK hK=>by unfold Oper.wp execOp;simp only[ho,resolve,invoke,builtin,Sem.run_bind,Sem.run_pure,Result.andThen_ok,List.map_toArray,qc,kN,hs,hx,hrun];exact hK _ _ h
def one{α:Type}(enc:α->Value):α->Nat->Value:=λx _=>enc x
theorem oZ.XQ{α:Type}{enc:α->Value}{w:World}{v:Value}{xs:List α}(h:oZ enc w v xs):aL 1 (one enc) w v xs:=by
 obtain⟨A,c,rfl,h⟩:=h;refine⟨A,c,rfl,λhn=>?_⟩;obtain⟨b,off,hA,hlt,hc⟩:=h hn;exact⟨b,off,hA,hlt,λi x hx j hj=>by
  obtain rfl:j=0:=by omega
  rw[Nat.mul_one,fE];exact hc i x hx⟩
theorem aL.to1{α:Type}{enc:α->Value}{w:World}{v:Value}{xs:List α}(h:aL 1 (one enc) w v xs):oZ enc w v xs:=by
 obtain⟨A,c,rfl,h⟩:=h;refine⟨A,c,rfl,λhn=>?_⟩;obtain⟨b,off,hA,hlt,hc⟩:=h hn;exact⟨b,off,hA,hlt,λi x hx=>by
  have:=hc i x hx 0 (by omega)
  rw[Nat.mul_one,fE]at this;exact this⟩
end
theorem eZ(x lo hi:Int)(w:World) :
 Calls Tryz.prog 106 #[.int .i64 x,.int .i64 lo,.int .i64 hi] w λe w'=>e=.returned (.bool (lH x lo hi))/\w=w':=by
 unfold lH;by_cases h1:lo<=x<;>by_cases h2:x<=hi<;>(
  go_enter Tryz.func106,Tryz.ntmps106;go_wp2;go_ret
  simp[h1,h2])
theorem fQ(x lo hi:Int)(w:World) :
 Calls Tryz.prog 68 #[.int .i64 x,.int .i64 lo,.int .i64 hi] w λe w'=>e=.returned (.bool (lH x lo hi))/\w=w':=by
 unfold lH;by_cases h1:lo<=x<;>by_cases h2:x<=hi<;>(
  go_enter Tryz.func68,Tryz.ntmps68;go_wp2;go_ret
  simp[h1,h2])
theorem N8(x:Int)(w:World) :
 Calls Tryz.prog 120 #[.int .i64 x] w λe w'=>e=.returned (.bool (lH x 0 99))/\w=w':=by
 go_enter Tryz.func120,Tryz.ntmps120;go_wp2_with (go_at_call 106;refine(eZ _ _ _ _).mono ?_;rintro e w' ⟨rfl,rfl⟩)
 go_ret
 simp
theorem DC(x:Int)(w:World) :
 Calls Tryz.prog 119 #[.int .i64 x] w λe w'=>e=.returned (.bool (lH x 0 2))/\w=w':=by
 go_enter Tryz.func119,Tryz.ntmps119;go_wp2_with (go_at_call 106;refine(eZ _ _ _ _).mono ?_;rintro e w' ⟨rfl,rfl⟩)
 go_ret
 simp
theorem Sm(x:Int)(w:World) :
 Calls Tryz.prog 133 #[.int .i64 x] w λe w'=>e=.returned (.bool (lH x 0 1000))/\w=w':=by
 go_enter Tryz.func133,Tryz.ntmps133;go_wp2_with (go_at_call 106;refine(eZ _ _ _ _).mono ?_;rintro e w' ⟨rfl,rfl⟩)
 go_ret
 simp
theorem zD(x:Int)(w:World) :
 Calls Tryz.prog 84 #[.int .i64 x] w λe w'=>e=.returned (.bool (lH x 0 3))/\w=w':=by
 go_enter Tryz.func84,Tryz.ntmps84;go_wp2_with (go_at_call 106;refine(eZ _ _ _ _).mono ?_;rintro e w' ⟨rfl,rfl⟩)
 go_ret
 simp
section
structure Er (P:Program) (KT:TypeId) {K:Type} [DecidableEq K] (jI:K->Value):Prop where
 check:∀b k W,(Instr.checkKey b 10000 KT (jI k)).run P W=.ok () W
 find:∀k (es:List MapEntry) (l:List (K × Value)),es.map (λe=>(e.key,e.val))=l.map (λp=>(jI p.1,p.2))->∀W,(Instr.findKey KT (jI k) es).run P W=.ok ((l.findIdx? (λp=>p.1==k)).map λj=>(j,(l[j]?.map (·.2)).getD undef)) W
 stay:∀k W,(Instr.keyThatStays (jI k) (jI k)).run P W=.ok (jI k) W
def lY(w:World)(g:Nat){K:Type}[DecidableEq K](jI:K->Value)(m:K->Option Value):Prop:=
 ∃(es:Array MapEntry) (zY:Nat) (l:List (K × Value)),w.heap[g]? =some (.map es zY)/\es.toList.map (λe=>(e.key,e.val))=l.map (λp=>(jI p.1,p.2))/\∀k,(l.find? λp=>p.1==k).map (·.2)=m k
def bD(w:World)(g:Nat)(o:Obj):World:={ w with heap:=w.heap.setIfInBounds g o }
def M6(w:World)(g n:Nat):Prop:=∃(es:Array MapEntry) (zY:Nat),w.heap[g]? =some (.map es zY)/\es.size<=n
theorem M6.ext{w w':World}{g n:Nat}(h:M6 w g n)(hb:Ext w w'):M6 w' g n:=by obtain⟨es,zY,h,h2⟩:=h;exact⟨es,zY,(Below.block hb g (by rcases eP g w.heap.size with h'|h';exact h';rw[DR h']at h;cases h)).trans h,h2⟩
theorem M6.made(w:World):M6 (w.alloc (.map #[] 0)) w.heap.size 0:=⟨#[],0,dP w _,av _⟩
section
variable{K:Type}[DecidableEq K]{jI:K->Value}{m m':K->Option Value}{P:Program}{w w':World}{g:Nat}{T KT E:TypeId}
theorem lY.lt(h:lY w g jI m):g<w.heap.size:=by
 obtain⟨es,zY,l,h,_⟩:=h;rcases eP g w.heap.size with h'|h'
 ·exact h'
 ·rw[DR h']at h;cases h
theorem lY.ext(h:lY w g jI m)(hb:Ext w w'):lY w' g jI m:=by have hl:=h.lt;obtain⟨es,zY,l,h,h2⟩:=h;exact⟨es,zY,l,(Below.block hb g hl).trans h,h2⟩
theorem lY.congr(h:lY w g jI m)(e:∀k,m k=m' k):lY w g jI m':=by obtain⟨es,zY,l,h1,h2,h3⟩:=h;exact⟨es,zY,l,h1,h2,λk=>(h3 k).trans (e k)⟩
theorem lY.made(w:World)(jI:K->Value):lY (w.alloc (.map #[] 0)) w.heap.size jI (λ_=>none):=
 ⟨#[],0,[],dP w _,rfl,λ_=>rfl⟩
theorem rE(l:List (K × Value))(k:K):l.find? (λp=>p.1==k)=(l.findIdx? (λp=>p.1==k)).bind λj=>l[j]?:=by
 induction l with
 | nil=>rfl
 | cons p l ih=>
   rw[List.find?_cons,List.findIdx?_cons];by_cases e:(p.1==k)=true
   ·simp[e]
   ·simp only[Bool.not_eq_true]at e;simp only[e,ih]
    cases l.findIdx? (λp=>p.1==k) with
    | none=>simp
    | some j=>simp
theorem oC(hT:P.underlying T=some (.map KT E))(hK:Er P KT jI){z:Value}(hE:∀w,(zeroValue E).run P w=.ok z w)(h:lY w g jI m)(k:K) :
 (Instr.lookup T (.map (some g)) (jI k) true).run P w=.ok (.tuple #[(m k).getD z,.bool (m k).isSome]) w:=by
 obtain⟨es,zY,l,hg,hl,hm⟩:=h;have hf:=hK.find k es.toList l hl w;have Pg:(getObj g).run P w=.ok (.map es zY) w:=by simp[getObj,Sem.run,hg]
 simp only[Instr.lookup,Sem.run_bind,run_underlying hT,Result.andThen_ok,Pg,Sem.run_pure,hK.check,hf];have hmk:=hm k;rw[rE]at hmk
 cases hidx:l.findIdx? (λp=>p.1==k) with
 | none=>
   rw[hidx]at hmk;simp only[Option.bind_none,Option.map_none]at hmk;rw[<-hmk];simp[hE]
 | some j=>
   rw[hidx]at hmk;simp only[Option.bind_some]at hmk;have hj:j<l.length:=(List.findIdx?_eq_some_iff_getElem.1 hidx).1;rw[dJ hj]at hmk;simp only[Option.map_some]at hmk;rw[<-hmk];simp[dJ hj]
theorem CJ(hT:P.underlying T=some (.map KT E))(hK:Er P KT jI){z:Value}(hE:∀w,(zeroValue E).run P w=.ok z w)(h:lY w g jI m)(k:K) :
 (Instr.lookup T (.map (some g)) (jI k) false).run P w=.ok ((m k).getD z) w:=by
 obtain⟨es,zY,l,hg,hl,hm⟩:=h;have hf:=hK.find k es.toList l hl w;have Pg:(getObj g).run P w=.ok (.map es zY) w:=by simp[getObj,Sem.run,hg]
 simp only[Instr.lookup,Sem.run_bind,run_underlying hT,Result.andThen_ok,Pg,Sem.run_pure,hK.check,hf];have hmk:=hm k;rw[rE]at hmk
 cases hidx:l.findIdx? (λp=>p.1==k) with
 | none=>
   rw[hidx]at hmk;simp only[Option.bind_none,Option.map_none]at hmk;rw[<-hmk];simp[hE]
 | some j=>
   rw[hidx]at hmk;simp only[Option.bind_some]at hmk;have hj:j<l.length:=(List.findIdx?_eq_some_iff_getElem.1 hidx).1;rw[dJ hj]at hmk;simp only[Option.map_some]at hmk;rw[<-hmk];simp[dJ hj]
theorem iB(hT:P.underlying T=some (.map KT E))(hK:Er P KT jI)(h:lY w g jI m)(k:K)(v:Value) :
 ∃o,(Instr.mapUpdate T (.map (some g)) (jI k) v).run P w=.ok () (bD w g o)/\lY (bD w g o) g jI (λi=>if i=k then some v else m i)/\∀n,M6 w g n->M6 (bD w g o) g (n+1):=by
 have hlt:=h.lt;obtain⟨es,zY,l,hg,hl,hm⟩:=h;have hf:=hK.find k es.toList l hl w;have Pg:(getObj g).run P w=.ok (.map es zY) w:=by simp[getObj,Sem.run,hg]
 have hset:∀o,(setObj g o).run P w=.ok () (bD w g o):=λo=>by simp[setObj,Sem.run,hg,bD]
 cases hidx:l.findIdx? (λp=>p.1==k) with
 | none=>
   refine⟨.map (es.push { key:=jI k,val:=v,born:=zY }) (zY+1),?_,?_,λn ⟨es2,aem,h2,hn⟩=>⟨_,_,by simp[bD,hlt];exact⟨rfl,rfl⟩,by rw[hg]at h2;cases h2;simp;exact hn⟩⟩
   ·simp only[Instr.mapUpdate,Sem.run_bind,run_underlying hT,Result.andThen_ok,Pg,hK.check,hf,hidx,Option.map_none];exact hset _
   ·refine⟨_,_,l++[(k,v)],by simp[bD,hlt];exact⟨rfl,rfl⟩,by simp[hl],λi=>?_⟩;have hnone:l.find? (λp=>p.1==k)=none:=by rw[rE,hidx];rfl
    show _=if i=k then some v else m i
    rw[List.find?_append];by_cases e:i=k
    ·subst e;rw[hnone];simp
    ·have e1:(k==i)=false:=by simp;exact λh=>e h.symm
     rw[au e,<-hm i]
     cases l.find? (λp=>p.1==i) with
     | none=>simp[e1]
     | some q=>simp
 | some j=>
   have hj:j<l.length:=(List.findIdx?_eq_some_iff_getElem.1 hidx).1;have hjk:(l[j].1==k)=true:=(List.findIdx?_eq_some_iff_getElem.1 hidx).2.1;have hbef:∀i (hi:i<j),(l[i].1==k)=false:=λi hi=>by
    have:=(List.findIdx?_eq_some_iff_getElem.1 hidx).2.2 i hi
    simpa using this
   have hes:es.toList.length=l.length:=by have:=agB List.length hl;simpa using this
   have hkey:(es[j]?.map (·.key))=some (jI k):=by
    have h1:=agB (λx=>x[j]?) hl;simp only[jT,dJ hj,Option.map_some]at h1;have h2:es.toList[j]? =es[j]?:=by simp
    rw[h2]at h1
    cases he:es[j]? with
    | none=>rw[he]at h1;simp at h1
    | some e=>
      rw[he]at h1;simp at h1;simp only[Option.map_some,h1.1];rw[eq_of_beq hjk]
   refine⟨.map (es.modify j λe=>{ e with key:=jI k,val:=v }) zY,?_,?_,λn ⟨es2,aem,h2,hn⟩=>⟨_,_,by simp[bD,hlt];exact⟨rfl,rfl⟩,by rw[hg]at h2;cases h2;simp;omega⟩⟩
   ·simp only[Instr.mapUpdate,Sem.run_bind,run_underlying hT,Result.andThen_ok,Pg,hK.check,hf,hidx,Option.map_some,hkey,Option.getD_some,hK.stay];exact hset _
   ·refine⟨_,_,l.modify j (λ_=>(k,v)),by simp[bD,hlt];exact⟨rfl,rfl⟩,?_,λi=>?_⟩
    ·apply List.ext_getElem?;intro i;have h1:=agB (λx=>x[i]?) hl;simp only[jT]at h1;simp only[jT,Array.toList_modify,List.getElem?_modify];by_cases e:j=i
     ·subst e;simp only[if_true];rw[dJ hj,dJ (by omega)];rfl
     ·simp only[au e];cases h2:es.toList[i]?<;>cases h3:l[i]?<;>rw[h2,h3]at h1<;>simp_all
    ·show _=if i=k then some v else m i
     by_cases e:i=k
     ·subst e;rw[aj rfl,rE]
      have:(l.modify j λ_=>(i,v)).findIdx? (λp=>p.1==i)=some j:=by rw[List.findIdx?_eq_some_iff_getElem];refine⟨by simpa using hj,by simp,λq hq=>?_⟩;rw[List.getElem_modify,au (by omega)];simpa using hbef q hq
      rw[this];simp[List.getElem?_modify,hj]
     ·rw[au e,<-hm i];have hne:∀q:K × Value,q.1=k->(q.1==i)=false:=λq hq=>by simp[hq];exact λh=>e h.symm
      have aeH:l[j].1=k:=eq_of_beq hjk;congr 1;have key:∀(l:List (K × Value)) (j:Nat),(∀q,l[j]? =some q->q.1=k)->(l.modify j λ_=>(k,v)).find? (λp=>p.1==i)=l.find? (λp=>p.1==i):=by
       intro l
       induction l with
       | nil=>intro j _;simp
       | cons p l ih=>
         intro j hq
         cases j with
         | zero=>
           have:=hq p (by simp)
           simp[hne p this,hne (k,v) rfl]
         | succ j=>
           simp only[List.modify_succ_cons,List.find?_cons];rw[ih j (λq h=>hq q (by simpa using h))]
      exact key l j (λq h=>by rw[dJ hj]at h;cases h;exact aeH)
theorem Ext.bD{a b:World}(h:Ext a b){g:Nat}(hg:a.heap.size<=g)(o:Obj):Ext a (bD b g o):=by have h':Below a.heap.size a b:=h;refine⟨h'.os,h'.tape,h'.output,by simp[Proofs.YtcdopfdgknglfaaGreatDoor.bD];exact h'.size,λk hk=>?_⟩;simp only[Proofs.YtcdopfdgknglfaaGreatDoor.bD,Array.getElem?_setIfInBounds];rw[au (by omega)];exact h'.block k hk
theorem OX{w:World}{g:Nat}{o:Obj}{p:Addr}(hp:p.block≠g):(Proofs.YtcdopfdgknglfaaGreatDoor.bD w g o).cell? p=w.cell? p:=by simp only[World.cell?,Proofs.YtcdopfdgknglfaaGreatDoor.bD,Array.getElem?_setIfInBounds];rw[au (λe=>hp e.symm)]
end
theorem Og(k:Int):∀(es:List MapEntry) (l:List (Int × Value)) (i:Nat),es.map (λe=>(e.key,e.val))=l.map (λp=>(Value.int .i64 p.1,p.2)) ->
 Instr.findNow (.int .i64) (.int .i64 k) es i=some ((l.findIdx? (λp=>p.1==k)).map λj=>(i+j,(l[j]?.map (·.2)).getD undef))
 | [],[],i,_=>by simp[Instr.findNow]
 | [],_ :: _,_,h=>by simp at h
 | _ :: _,[],_,h=>by simp at h
 | e :: es,p :: l,i,h=>by
   simp only[qc,List.cons.injEq,Prod.mk.injEq]at h;obtain⟨⟨hk,hv⟩,h⟩:=h;have ih:=Og k es l (i+1) h;rw[Instr.findNow,hk,hv];simp only[Instr.sameNow,if_true];by_cases e:k=p.1
   ·subst e;simp[List.findIdx?_cons]
   ·have e1:(k==p.1)=false:=by simp[e]
    have e2:(p.1==k)=false:=by simp;exact λh=>e h.symm
    rw[e1];simp only[ih,List.findIdx?_cons,e2];simp only[Option.map_map,Bool.false_eq_true,if_false]
    cases l.findIdx? (λp=>p.1==k) with
    | none=>rfl
    | some j=>simp;omega
theorem mU{P:Program}{KT:TypeId}(hK:P.underlying KT=some (.int .i64)):Er P KT (Value.int .i64) where
 check b k W:=Go.MapKept.run_checkKey hK (by simp[Go.MapKept.IsKey]) b 9999
 find k es l h W:=by simp only[Instr.findKey,Sem.run_bind,run_underlying hK,Result.andThen_ok,Og k es l 0 h,Sem.run_pure,ig]
 stay k W:=by simp[Instr.keyThatStays,Instr.sameBits]
theorem Ia{P:Program}{KT:TypeId}{K:Type}[DecidableEq K]{jI:K->Value}{d:TypeDesc}(hd:P.underlying KT=some d)(hno:∀k p,Instr.sameNow d (jI k) (jI p)=none)
 (hc:∀b k W,(Instr.checkKey b 10000 KT (jI k)).run P W=.ok () W) (he:∀k p W,(Op.equal KT (jI k) (jI p)).run P W=.ok (decide (k=p)) W) (hs:∀k,Instr.sameBits 10000 (jI k) (jI k)=true):Er P KT jI where
 check:=hc
 find k es l h W:=by
  have afU:∀(es:List MapEntry) (l:List (K × Value)) (i:Nat),es.map (λe=>(e.key,e.val))=l.map (λp=>(jI p.1,p.2))->(Instr.findAsking KT (jI k) es i).run P W=.ok ((l.findIdx? (λp=>p.1==k)).map λj=>(i+j,(l[j]?.map (·.2)).getD undef)) W:=by
   intro es
   induction es with
   | nil=>
     intro l i h
     cases l with
     | nil=>simp[Instr.findAsking]
     | cons p l=>simp at h
   | cons e es ih=>
     intro l i h
     cases l with
     | nil=>simp at h
     | cons p l=>
       simp only[qc,List.cons.injEq,Prod.mk.injEq]at h;obtain⟨⟨hk,hv⟩,h⟩:=h;have ih:=ih l (i+1) h;rw[Instr.findAsking,hk,hv];simp only[Sem.run_bind,he,Result.andThen_ok];by_cases e:k=p.1
       ·subst e;simp[List.findIdx?_cons]
       ·have e2:(p.1==k)=false:=by simp;exact λh=>e h.symm
        simp only[dU e,Bool.false_eq_true,if_false,ih,List.findIdx?_cons,e2];simp only[Option.map_map]
        cases l.findIdx? (λp=>p.1==k) with
        | none=>rfl
        | some j=>simp;omega
  simp only[Instr.findKey,Sem.run_bind,run_underlying hd,Result.andThen_ok]
  cases es with
  | nil=>
    cases l with
    | nil=>simp[Instr.findNow]
    | cons p l=>simp at h
  | cons e es=>
    cases l with
    | nil=>simp at h
    | cons p l=>
      have hk:e.key=jI p.1:=by simp only[qc,List.cons.injEq,Prod.mk.injEq]at h;exact h.1.1
      have:=afU (e :: es) (p :: l) 0 h
      simp only[ig]at this;rw[Instr.findNow,hk,hno];exact this
 stay k W:=by simp[Instr.keyThatStays,hs]
end
theorem Gj(a:Nat)(ha:a<18446744073709551616):(BitVec.ofInt 64 (a:Int)).toNat=a:=by rw[BitVec.ofInt_natCast,BitVec.toNat_ofNat];exact agJ (by omega)
theorem GY(a:Nat)(ha:a<18446744073709551616):IntKind.u64.wrap (a:Int)=(a:Int):=by rw[IntKind.wrap_u64];omega
theorem u64_and(a b:Nat)(ha:a<18446744073709551616)(hb:b<18446744073709551616):bits .and .u64 (a:Int) (b:Int)=((a &&& b:Nat):Int):=by have hx:a &&& b<2 ^ 64:=Nat.and_lt_two_pow _ (by omega);show IntKind.u64.wrap ((BitVec.ofInt 64 (a:Int) &&& BitVec.ofInt 64 (b:Int)).toNat:Int) = _;rw[BitVec.toNat_and,Gj a ha,Gj b hb,GY _ (by omega)]
theorem u64_or(a b:Nat)(ha:a<18446744073709551616)(hb:b<18446744073709551616):bits .or .u64 (a:Int) (b:Int)=((a ||| b:Nat):Int):=by have hx:a ||| b<2 ^ 64:=Nat.or_lt_two_pow (by omega) (by omega);show IntKind.u64.wrap ((BitVec.ofInt 64 (a:Int) ||| BitVec.ofInt 64 (b:Int)).toNat:Int) = _;rw[BitVec.toNat_or,Gj a ha,Gj b hb,GY _ (by omega)]
theorem LZ(n i:Nat)(hn:n<18446744073709551616):bits .and .u64 ((n:Int)/2 ^ i) 1=if n.testBit i then 1 else 0:=by
 have e:((n:Int)/2 ^ i)=((n/2 ^ i:Nat):Int):=by simp
 have h1:n/2 ^ i<=n:=JC _ _;rw[e,show (1:Int)=((1:Nat):Int) from rfl,u64_and _ _ (by omega) (by omega),Nat.and_one_is_mod];rw[Nat.testBit_eq_decide_div_mod_eq];by_cases h:n/2 ^ i%2=1
 ·simp[h]
 ·rw[show n/2 ^ i%2=0 by omega];simp
theorem Tv(n i:Nat)(hn:n<18446744073709551616)(hi:i<64):bits .or .u64 (n:Int) (IntKind.u64.wrap (2 ^ i))=((n ||| 2 ^ i:Nat):Int):=by
 have h2:2 ^ i<2 ^ 64:=Nat.pow_lt_pow_right (by omega) hi;have e:(2 ^ i:Int)=((2 ^ i:Nat):Int):=by simp
 rw[e,GY _ (by omega),u64_or _ _ hn (by omega)]
