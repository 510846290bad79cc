/- Words for worlds that grow, slices that read as lists, and regions that draw their order; nothing of the program is used here. -/
import Derived.WalkKit
import Derived.WalkSpells
import Derived.WalkLawsBesides
import Derived.Handy
import Derived.Deep.QuietTactic
import Derived.BigQuiet
import Derived.Lib.Hide
namespace Go.Proofs.YtiggckhlbklngaaDoor
open Go.RowKit

/-! ### Worlds that grow -/
structure Patch where
  objs : Array Obj
  draws : Nat
instance : Inhabited Patch := ⟨⟨#[], 0⟩⟩

/-- A world that has grown: new blocks behind the old ones, some draws. -/
def over (w : World) (e : Patch) : World := { w with heap := w.heap ++ e.objs, drawn := e.draws }

/-- Nothing of what was there has turned. -/
def Ext (w w' : World) : Prop := Below w.heap.size w w'

theorem Ext.refl (w : World) : Ext w w := Below.refl _ _
theorem Ext.size {w w' : World} (h : Ext w w') : w.heap.size ≤ w'.heap.size := Below.size h
theorem Ext.trans {a b c : World} (h : Ext a b) (k : Ext b c) : Ext a c := Below.trans h (Below.mono k h.size)
theorem Ext.below {a b : World} (h : Ext a b) : Below a.heap.size a b := h
theorem Ext.cell {w w' : World} (h : Ext w w') {p : Addr} {v : Value} (hc : w.cell? p = some v) : w'.cell? p = some v := by
  have hb : p.block < w.heap.size := by
    rcases Nat.lt_or_ge p.block w.heap.size with h' | h'
    · exact h'
    · simp [World.cell?, Array.getElem?_eq_none h'] at hc
  rw [← hc]; exact Below.cell h hb
theorem Ext.frozen {w w' : World} (h : Ext w w') {p : Addr} (hb : p.block < w.heap.size) : w'.frozen? p = w.frozen? p := Below.frozen h hb
theorem Ext.drew {a b : World} (h : Ext a b) : Ext a b.drew := Below.drew h
theorem Ext.alloc {a b : World} (h : Ext a b) (o : Obj) : Ext a (b.alloc o) := Below.alloc h h.size o
theorem Ext.setCell {a b : World} (h : Ext a b) {p : Addr} (hp : a.heap.size ≤ p.block) (u : Value) : Ext a (b.setCell p u) := Below.setCell h hp u

theorem over_below (w : World) (e : Patch) : Below w.heap.size w (over w e) :=
  ⟨rfl, rfl, rfl, by simp [over], fun k hk => by simp [over, Array.getElem?_append, hk]⟩

theorem below_over {w w' : World} (h : Below w.heap.size w w') : ∃ e, w' = over w e := by
  refine ⟨⟨w'.heap.extract w.heap.size w'.heap.size, w'.drawn⟩, ?_⟩
  obtain ⟨h1, h2, h3, h4, h5⟩ := h
  cases w with | mk heap tape drawn os output =>
  cases w' with | mk heap' tape' drawn' os' output' =>
  simp only [over] at *
  subst h1 h2 h3
  congr 1
  apply Array.ext_getElem?
  intro i
  by_cases hi : i < heap.size
  · rw [h5 i hi, Array.getElem?_append_left hi]
  · rw [Array.getElem?_append_right (by omega), Array.getElem?_extract]
    simp
    by_cases h : i < heap'.size
    · simp [show i - heap.size < heap'.size - heap.size from by omega, show heap.size + (i - heap.size) = i from by omega]
    · simp [h, show ¬ i - heap.size < heap'.size - heap.size from by omega]

theorem over_cell {w : World} {a : Addr} {v : Value} (h : w.cell? a = some v) (e : Patch) : (over w e).cell? a = some v :=
  Ext.cell (over_below w e) h

theorem over_over (w : World) (e : Patch) {w' : World} (h : Below (over w e).heap.size (over w e) w') : ∃ e', w' = over w e' :=
  below_over ((over_below w e).trans (h.mono (over_below w e).size))

theorem over_ext (w : World) (e : Patch) : Ext w (over w e) := over_below w e

theorem quiet_ext {P : Program} {f : FuncId} {args : Array Value} {w : World} {e : Patch} {v : Value}
    (h : Calls P f args (over w e) fun r w' => r = .returned v ∧ Ext (over w e) w') :
    Calls P f args (over w e) fun r w'' => r = .returned v ∧ ∃ e', w'' = over w e' :=
  h.mono fun _ _ ⟨he, hb⟩ => ⟨he, over_over w e hb⟩
theorem quiet_same {P : Program} {f : FuncId} {args : Array Value} {w : World} {e : Patch} {v : Value}
    (h : Calls P f args (over w e) fun r w' => r = .returned v ∧ over w e = w') :
    Calls P f args (over w e) fun r w'' => r = .returned v ∧ ∃ e', w'' = over w e' :=
  h.mono fun _ _ ⟨he, hb⟩ => ⟨he, e, hb.symm⟩

/-- A region that draws its order, whose operations and callees write nothing that was there. -/
theorem wp_region_over {P : Program} {id : Nat} {Q : Exit → Act → World → Prop} {a : Act} {w : World} {l : List Oper} (hm : P.follows .mixedOrders = true) (hB : Region.lexB .any l.toArray = true)
    (h : wpQuiet P l.toArray (fun w' => ∃ e, w' = over w e) (fun a' => ∀ w', Ext w w' → Q .normal a' w') l a) : (Code.region id l.toArray true).wp P Q a w := by
  refine wp_region_quiet (C := fun w' => ∃ e, w' = over w e) hm hB ?_ ?_
  · exact ⟨⟨#[], w.drawn + 1⟩, by simp [over]⟩
  · have : (fun a' => ∀ w', (∃ e, w' = over w e) → Q .normal a' w') = (fun a' => ∀ w', Ext w w' → Q .normal a' w') := by
      funext a'
      apply propext
      constructor
      · intro h w' hb; exact h w' (below_over hb)
      · rintro h w' ⟨e, rfl⟩; exact h _ (over_below w e)
    rw [this]; simpa using h

/-- The world under a name, with what is wanted of it. -/
theorem wp_world {P : Program} {c : Code} {Q : Exit → Act → World → Prop} {a : Act} {W : World} (φ : World → Prop) (h1 : φ W) (h2 : ∀ W, φ W → c.wp P Q a W) : c.wp P Q a W := h2 W h1

theorem calls_world {P : Program} {f : FuncId} {args : Array Value} {W : World} {R : Ending → World → Prop} (φ : World → Prop) (h1 : φ W) (h2 : ∀ W, φ W → Calls P f args W R) : Calls P f args W R := h2 W h1

theorem ret_bool {a b : Bool} (h : a = b) : Ending.returned (.bool a) = .returned (.bool b) := by rw [h]
theorem ret_int {a b : Int} (h : a = b) : Ending.returned (.int .i64 a) = .returned (.int .i64 b) := by rw [h]

/-! ### Slices that read as lists -/
/-- A slice of elements of m cells each. -/
def SlOf {α : Type} (m : Nat) (enc : α → Nat → Value) (w : World) (v : Value) (xs : List α) : Prop :=
  ∃ A c, v = .slice A xs.length c ∧ (0 < xs.length → ∃ b off, A = some ⟨b, off, none⟩ ∧ b < w.heap.size ∧ ∀ i x, xs[i]? = some x → ∀ j, j < m → w.cell? ⟨b, off + i * m + j, none⟩ = some (enc x j))
/-- A slice of elements of one cell each. -/
def Sl1 {α : Type} (enc : α → Value) (w : World) (v : Value) (xs : List α) : Prop :=
  ∃ A c, v = .slice A xs.length c ∧ (0 < xs.length → ∃ b off, A = some ⟨b, off, none⟩ ∧ b < w.heap.size ∧ ∀ i x, xs[i]? = some x → w.cell? ⟨b, off + i, none⟩ = some (enc x))
/-- The cells are the call's own: from block lo on, not frozen. -/
def Own (lo : Nat) (w : World) (v : Value) : Prop :=
  ∀ a n c, v = .slice (some a) n c → 0 < n → lo ≤ a.block ∧ a.block < w.heap.size ∧ ∀ i, w.frozen? ⟨a.block, i, none⟩ = false

theorem SlOf.ext {α : Type} {m : Nat} {enc : α → Nat → Value} {w w' : World} {v : Value} {xs : List α} (h : SlOf m enc w v xs) (hb : Ext w w') : SlOf m enc w' v xs := by
  obtain ⟨A, c, hv, h⟩ := h
  refine ⟨A, c, hv, fun hn => ?_⟩
  obtain ⟨b, off, hA, hlt, hc⟩ := h hn
  exact ⟨b, off, hA, Nat.lt_of_lt_of_le hlt hb.size, fun i x hx j hj => hb.cell (hc i x hx j hj)⟩
theorem Sl1.ext {α : Type} {enc : α → Value} {w w' : World} {v : Value} {xs : List α} (h : Sl1 enc w v xs) (hb : Ext w w') : Sl1 enc w' v xs := by
  obtain ⟨A, c, hv, h⟩ := h
  refine ⟨A, c, hv, fun hn => ?_⟩
  obtain ⟨b, off, hA, hlt, hc⟩ := h hn
  exact ⟨b, off, hA, Nat.lt_of_lt_of_le hlt hb.size, fun i x hx => hb.cell (hc i x hx)⟩
theorem Own.ext {lo : Nat} {w w' : World} {v : Value} (h : Own lo w v) (hb : Ext w w') : Own lo w' v := by
  intro a n c hv hn
  obtain ⟨h1, h2, h3⟩ := h a n c hv hn
  exact ⟨h1, Nat.lt_of_lt_of_le h2 hb.size, fun i => (hb.frozen (p := ⟨a.block, i, none⟩) h2).trans (h3 i)⟩
theorem Own.mono {lo lo' : Nat} {w : World} {v : Value} (h : Own lo w v) (hl : lo' ≤ lo) : Own lo' w v := fun a n c hv hn =>
  let ⟨h1, h2, h3⟩ := h a n c hv hn
  ⟨Nat.le_trans hl h1, h2, h3⟩
theorem SlOf.nil {α : Type} (m : Nat) (enc : α → Nat → Value) (w : World) (c : Nat) (A : Option Addr) : SlOf m enc w (.slice A 0 c) ([] : List α) := ⟨A, c, rfl, fun h => absurd h (Nat.lt_irrefl _)⟩
theorem Sl1.nil {α : Type} (enc : α → Value) (w : World) (c : Nat) (A : Option Addr) : Sl1 enc w (.slice A 0 c) ([] : List α) := ⟨A, c, rfl, fun h => absurd h (Nat.lt_irrefl _)⟩
theorem Own.nil (lo : Nat) (w : World) (c : Nat) (A : Option Addr) : Own lo w (.slice A 0 c) := fun a n c' hv hn => by
  injection hv with _ h2 _
  omega

/-- What a call returns that makes a slice. -/
def RetOf {α : Type} (m : Nat) (enc : α → Nat → Value) (w : World) (xs : List α) (e : Ending) (w' : World) : Prop :=
  ∃ v, e = .returned v ∧ SlOf m enc w' v xs ∧ Own w.heap.size w' v ∧ Ext w w'
def Ret1 {α : Type} (enc : α → Value) (w : World) (xs : List α) (e : Ending) (w' : World) : Prop :=
  ∃ v, e = .returned v ∧ Sl1 enc w' v xs ∧ Own w.heap.size w' v ∧ Ext w w'

def encI (x : Int) : Value := .int .i64 x
def encB (x : Bool) : Value := .bool x

/-! ### Lists -/
/-- All places up to the length are good, and so is the length. -/
def allGood {α : Type} (xs : List α) (g : Nat → Bool) (most : Nat) : Bool := (List.range xs.length).all g && decide (xs.length ≤ most)
theorem allGood_bad {α : Type} {xs : List α} {g : Nat → Bool} {most k : Nat} (hk : k < xs.length) (h : g k = false) : allGood xs g most = false := by
  unfold allGood
  rw [show (List.range xs.length).all g = false from by rw [List.all_eq_false]; exact ⟨k, by simp [hk], by simp [h]⟩]
  rfl
theorem allGood_end {α : Type} {xs : List α} {g : Nat → Bool} {most : Nat} (h : ∀ i, i < xs.length → g i = true) : allGood xs g most = decide (xs.length ≤ most) := by
  unfold allGood
  rw [show (List.range xs.length).all g = true from by rw [List.all_eq_true]; intro i hi; exact h i (by simpa using hi)]
  rfl
theorem allGood_long {α : Type} {xs : List α} {g : Nat → Bool} {most : Nat} (h : most < xs.length) : allGood xs g most = false := by
  unfold allGood
  rw [show decide (xs.length ≤ most) = false from by simp; omega, Bool.and_false]
theorem allGood_true {α : Type} {xs : List α} {g : Nat → Bool} {most : Nat} : allGood xs g most = true ↔ (∀ i, i < xs.length → g i = true) ∧ xs.length ≤ most := by
  unfold allGood
  rw [Bool.and_eq_true, List.all_eq_true, decide_eq_true_eq]
  constructor
  · rintro ⟨h1, h2⟩
    exact ⟨fun i hi => h1 i (by simpa using hi), h2⟩
  · rintro ⟨h1, h2⟩
    exact ⟨fun i hi => h1 i (by simpa using hi), h2⟩
theorem at_some {α : Type} {xs : List α} {k : Nat} (h : k < xs.length) : ∃ x, xs[k]? = some x := ⟨xs[k], by simp [h]⟩

/-- The element before place k. -/
def prevOf {α : Type} (xs : List α) (k : Nat) : Option α := if k = 0 then none else xs[k - 1]?
theorem prevOf_zero {α : Type} {xs : List α} {k : Nat} (h : ¬ 0 < k) : prevOf xs k = none := by simp [prevOf, show k = 0 by omega]
theorem prevOf_pos {α : Type} {xs : List α} {k : Nat} {y : α} (h : 0 < k) (hy : xs[k - 1]? = some y) : prevOf xs k = some y := by simp [prevOf, show ¬ k = 0 by omega, hy]
/-- What is asked of place k, by its element and the one before. -/
def goodAt {α : Type} (g : Option α → α → Bool) (xs : List α) (k : Nat) : Bool :=
  match xs[k]? with
  | some x => g (prevOf xs k) x
  | none => true
theorem goodAt_zero {α : Type} {g : Option α → α → Bool} {xs : List α} {k : Nat} {x : α} (h : ¬ 0 < k) (hx : xs[k]? = some x) : goodAt g xs k = g none x := by
  rw [goodAt, hx, prevOf_zero h]
theorem goodAt_pos {α : Type} {g : Option α → α → Bool} {xs : List α} {k : Nat} {x y : α} (h : 0 < k) (hx : xs[k]? = some x) (hy : xs[k - 1]? = some y) : goodAt g xs k = g (some y) x := by
  rw [goodAt, hx, prevOf_pos h hy]
theorem goodAt_any {α : Type} {g : Option α → α → Bool} {xs : List α} {k : Nat} {x : α} (hx : xs[k]? = some x) : goodAt g xs k = g (prevOf xs k) x := by
  rw [goodAt, hx]

def inB (x lo hi : Int) : Bool := decide (lo ≤ x) && decide (x ≤ hi)
theorem inB_true {x lo hi : Int} : inB x lo hi = true ↔ lo ≤ x ∧ x ≤ hi := by simp [inB]
theorem inB_false {x lo hi : Int} : inB x lo hi = false ↔ x < lo ∨ hi < x := by
  simp only [inB, Bool.and_eq_false_iff, decide_eq_false_iff_not]
  omega

/-! ### A block of the call's own that is filled element by element -/
def BlkN (w : World) (g N : Nat) : Prop := ∃ cs t, w.heap[g]? = some (.cells cs t (0, 0)) ∧ cs.size = N
theorem BlkN.lt {w : World} {g N : Nat} (h : BlkN w g N) : g < w.heap.size := by
  obtain ⟨cs, t, h, _⟩ := h
  rcases Nat.lt_or_ge g w.heap.size with h' | h'
  · exact h'
  · rw [Array.getElem?_eq_none h'] at h; cases h
theorem BlkN.ext {w w' : World} {g N : Nat} (h : BlkN w g N) (hb : Ext w w') : BlkN w' g N := by
  have hl := h.lt
  obtain ⟨cs, t, h, hs⟩ := h
  exact ⟨cs, t, (Below.block hb g hl).trans h, hs⟩
theorem BlkN.cell {w : World} {g N j : Nat} (h : BlkN w g N) (hj : j < N) : ∃ u, w.cell? ⟨g, j, none⟩ = some u := by
  obtain ⟨cs, t, h, hs⟩ := h
  exact ⟨cs[j], by simp [World.cell?, h, show j < cs.size from by omega]⟩
theorem BlkN.free {w : World} {g N : Nat} (h : BlkN w g N) (j : Nat) : w.frozen? ⟨g, j, none⟩ = false := by
  obtain ⟨cs, t, h, hs⟩ := h
  simp [World.frozen?, h]
theorem BlkN.set {w : World} {g N : Nat} (h : BlkN w g N) (a : Addr) (u : Value) : BlkN (w.setCell a u) g N := by
  obtain ⟨cs, t, h, hs⟩ := h
  by_cases ha : a.block = g
  · refine ⟨if a.spot.isSome then cs else cs.setIfInBounds a.off u, t, ?_, ?_⟩
    · simp [World.setCell, Array.getElem?_modify, ha, h]
    · split <;> simp [hs]
  · exact ⟨cs, t, by simp [World.setCell, Array.getElem?_modify, ha, h], hs⟩
theorem BlkN.made (w : World) (cs : Array Value) (t : TypeId) : BlkN (w.alloc (.cells cs t)) w.heap.size cs.size := ⟨cs, t, heap_alloc_new w _, rfl⟩
theorem cell_set_self {w : World} {g N j : Nat} (h : BlkN w g N) (hj : j < N) (u : Value) : (w.setCell ⟨g, j, none⟩ u).cell? ⟨g, j, none⟩ = some u := by
  obtain ⟨cs, t, h, hs⟩ := h
  simp [World.setCell, World.cell?, Array.getElem?_modify, h, show j < cs.size from by omega]
theorem cell_set_other {w : World} {p q : Addr} (hne : p ≠ q) (u : Value) : (w.setCell p u).cell? q = w.cell? q :=
  World.cell?_setCell_other w p q u hne

/-- The first k elements have been laid. -/
def Filling {α : Type} (m : Nat) (enc : α → Nat → Value) (g N : Nat) (xs : List α) (k : Nat) (w : World) : Prop :=
  BlkN w g N ∧ ∀ i x, i < k → xs[i]? = some x → ∀ j, j < m → w.cell? ⟨g, i * m + j, none⟩ = some (enc x j)
/-- The cells that are laid at one element: j of them so far. -/
def Filling.at_ {α : Type} (m : Nat) (enc : α → Nat → Value) (g N : Nat) (xs : List α) (k : Nat) (x : α) (j : Nat) (w : World) : Prop :=
  Filling m enc g N xs k w ∧ ∀ i, i < j → w.cell? ⟨g, k * m + i, none⟩ = some (enc x i)
section
variable {α : Type} {m : Nat} {enc : α → Nat → Value} {g N k j : Nat} {xs : List α} {w w' : World} {x : α}
theorem Filling.start (e : TypeId) (cs : Array Value) (hN : cs.size = N) : Filling m enc w.heap.size N xs 0 (w.alloc (.cells cs e)) :=
  ⟨hN ▸ BlkN.made w cs e, fun i _ hi => absurd hi (Nat.not_lt_zero i)⟩
theorem Filling.ext (h : Filling m enc g N xs k w) (hb : Ext w w') : Filling m enc g N xs k w' := ⟨h.1.ext hb, fun i x hi hx j hj => hb.cell (h.2 i x hi hx j hj)⟩
theorem Filling.begin_ (h : Filling m enc g N xs k w) (x : α) : Filling.at_ m enc g N xs k x 0 w := ⟨h, fun i hi => absurd hi (Nat.not_lt_zero i)⟩
theorem Filling.set (hm : j < m) (h : Filling.at_ m enc g N xs k x j w) (hN : (k + 1) * m ≤ N) : Filling.at_ m enc g N xs k x (j + 1) (w.setCell ⟨g, k * m + j, none⟩ (enc x j)) := by
  rw [Nat.succ_mul] at hN
  refine ⟨⟨h.1.1.set _ _, fun i y hi hy l hl => ?_⟩, fun i hi => ?_⟩
  · rw [cell_set_other]
    · exact h.1.2 i y hi hy l hl
    · intro e
      injection e with _ e _
      have h1 : (i + 1) * m ≤ k * m := Nat.mul_le_mul_right m hi
      rw [Nat.succ_mul] at h1
      omega
  · by_cases e : i = j
    · subst e
      exact cell_set_self h.1.1 (by omega) _
    · rw [cell_set_other]
      · exact h.2 i (by omega)
      · intro e'
        injection e' with _ e' _
        omega
theorem Filling.next (h : Filling.at_ m enc g N xs k x m w) (hx : xs[k]? = some x) : Filling m enc g N xs (k + 1) w := by
  refine ⟨h.1.1, fun i y hi hy j hj => ?_⟩
  by_cases e : i = k
  · subst e
    rw [hx] at hy
    cases hy
    exact h.2 j hj
  · exact h.1.2 i y (by omega) hy j hj
theorem Filling.done (h : Filling m enc g N xs xs.length w) (c : Nat) : SlOf m enc w (.slice (some ⟨g, 0, none⟩) xs.length c) xs := by
  refine ⟨_, c, rfl, fun _ => ⟨g, 0, rfl, h.1.lt, fun i x hx j hj => ?_⟩⟩
  rw [Nat.zero_add]
  exact h.2 i x (List.getElem?_eq_some_iff.1 hx).1 hx j hj
theorem BlkN.own (h : BlkN w g N) {lo : Nat} (hl : lo ≤ g) (off n c : Nat) : Own lo w (.slice (some ⟨g, off, none⟩) n c) := by
  intro a n' c' hv hn
  injection hv with h1 _ _
  injection h1 with h1
  subst h1
  exact ⟨hl, h.lt, fun i => h.free i⟩
end

/-! ### Writes into one slice of the call's own -/
/-- Nothing has turned but the block of the slice v (if it has elements). -/
structure Only (v : Value) (w w' : World) : Prop where
  os : w'.os = w.os
  tape : w'.tape = w.tape
  output : w'.output = w.output
  size : w.heap.size ≤ w'.heap.size
  block : ∀ k, k < w.heap.size → (∀ a n c, v = .slice (some a) n c → 0 < n → a.block ≠ k) → w'.heap[k]? = w.heap[k]?
  froz : ∀ p : Addr, p.block < w.heap.size → w'.frozen? p = w.frozen? p
theorem Only.of_ext {v : Value} {w w' : World} (h : Ext w w') : Only v w w' :=
  ⟨Below.os h, Below.tape h, Below.output h, h.size, fun k hk _ => Below.block h k hk, fun _ hp => h.frozen hp⟩
theorem Only.trans {v : Value} {a b c : World} (h : Only v a b) (k : Only v b c) : Only v a c :=
  ⟨k.os.trans h.os, k.tape.trans h.tape, k.output.trans h.output, Nat.le_trans h.size k.size,
   fun i hi hv => (k.block i (Nat.lt_of_lt_of_le hi h.size) hv).trans (h.block i hi hv), fun p hp => (k.froz p (Nat.lt_of_lt_of_le hp h.size)).trans (h.froz p hp)⟩
theorem Only.setCell {a : Addr} {n c : Nat} {w : World} (hn : 0 < n) (off : Nat) (u : Value) : Only (.slice (some a) n c) w (w.setCell ⟨a.block, off, none⟩ u) :=
  ⟨rfl, rfl, rfl, by simp [World.setCell], fun k _ hv => Below.heap_setCell _ _ _ _ (fun e => hv a n c rfl hn e.symm), fun p _ => by
    simp only [World.frozen?, World.setCell, Array.getElem?_modify]
    by_cases e : a.block = p.block
    · rw [if_pos e]
      cases w.heap[p.block]? with
      | none => rfl
      | some o => cases o <;> rfl
    · rw [if_neg e]⟩
/-- Two slices with elements lie in different blocks. -/
def Apart (u v : Value) : Prop := ∀ a n c a' n' c', u = .slice (some a) n c → v = .slice (some a') n' c' → 0 < n → 0 < n' → a.block ≠ a'.block
theorem Apart.symm {u v : Value} (h : Apart u v) : Apart v u := fun a n c a' n' c' h1 h2 h3 h4 e => h a' n' c' a n c h2 h1 h4 h3 e.symm
theorem SlOf.apart {α : Type} {m : Nat} {enc : α → Nat → Value} {w w' : World} {u v : Value} {xs : List α} (h : SlOf m enc w u xs) (ho : Own w.heap.size w' v) : Apart u v := by
  intro a n c a' n' c' hu hv hn hn' e
  obtain ⟨A, cc, hA, h⟩ := h
  rw [hA] at hu
  injection hu with h1 h2 h3
  obtain ⟨b, off, hb, hlt, _⟩ := h (by omega)
  rw [hb] at h1
  injection h1 with h1
  have := (ho a' n' c' hv hn').1
  rw [← h1] at e
  simp at e
  omega
theorem Sl1.apart {α : Type} {enc : α → Value} {w w' : World} {u v : Value} {xs : List α} (h : Sl1 enc w u xs) (ho : Own w.heap.size w' v) : Apart u v := by
  intro a n c a' n' c' hu hv hn hn' e
  obtain ⟨A, cc, hA, h⟩ := h
  rw [hA] at hu
  injection hu with h1 h2 h3
  obtain ⟨b, off, hb, hlt, _⟩ := h (by omega)
  rw [hb] at h1
  injection h1 with h1
  have := (ho a' n' c' hv hn').1
  rw [← h1] at e
  simp at e
  omega
theorem Only.cell {v : Value} {w w' : World} (h : Only v w w') {p : Addr} {u : Value} (hp : ∀ a n c, v = .slice (some a) n c → 0 < n → a.block ≠ p.block) (hc : w.cell? p = some u) : w'.cell? p = some u := by
  have hb : p.block < w.heap.size := by
    rcases Nat.lt_or_ge p.block w.heap.size with h' | h'
    · exact h'
    · simp [World.cell?, Array.getElem?_eq_none h'] at hc
  rw [← hc]
  simp only [World.cell?, h.block p.block hb hp]
theorem SlOf.only {α : Type} {m : Nat} {enc : α → Nat → Value} {w w' : World} {u v : Value} {xs : List α} (h : SlOf m enc w u xs) (ho : Only v w w') (ha : Apart u v) : SlOf m enc w' u xs := by
  obtain ⟨A, c, hA, h⟩ := h
  refine ⟨A, c, hA, fun hn => ?_⟩
  obtain ⟨b, off, hb, hlt, hc⟩ := h hn
  refine ⟨b, off, hb, Nat.lt_of_lt_of_le hlt ho.size, fun i x hx j hj => ho.cell (fun a n c' hv hn' e => ?_) (hc i x hx j hj)⟩
  subst hb
  exact ha _ _ _ _ _ _ hA hv hn hn' e.symm
theorem Sl1.only {α : Type} {enc : α → Value} {w w' : World} {u v : Value} {xs : List α} (h : Sl1 enc w u xs) (ho : Only v w w') (ha : Apart u v) : Sl1 enc w' u xs := by
  obtain ⟨A, c, hA, h⟩ := h
  refine ⟨A, c, hA, fun hn => ?_⟩
  obtain ⟨b, off, hb, hlt, hc⟩ := h hn
  refine ⟨b, off, hb, Nat.lt_of_lt_of_le hlt ho.size, fun i x hx => ho.cell (fun a n c' hv hn' e => ?_) (hc i x hx)⟩
  subst hb
  exact ha _ _ _ _ _ _ hA hv hn hn' e.symm
theorem Own.only {lo : Nat} {w w' : World} {u v : Value} (h : Own lo w u) (ho : Only v w w') : Own lo w' u := by
  intro a n c hv hn
  obtain ⟨h1, h2, h3⟩ := h a n c hv hn
  exact ⟨h1, Nat.lt_of_lt_of_le h2 ho.size, fun i => (ho.froz ⟨a.block, i, none⟩ h2).trans (h3 i)⟩
/-- Writes into what is the call's own turn nothing of what was there. -/
theorem Ext.only {w w1 w2 : World} {v : Value} {lo : Nat} (h : Ext w w1) (ho : Only v w1 w2) (hown : Own lo w1 v) (hl : w.heap.size ≤ lo) : Ext w w2 := by
  have h' : Below w.heap.size w w1 := h
  exact ⟨ho.os.trans h'.os, ho.tape.trans h'.tape, ho.output.trans h'.output, Nat.le_trans h'.size ho.size, fun k hk =>
    (ho.block k (Nat.lt_of_lt_of_le hk h'.size) (fun a n c hv hn e => by have := (hown a n c hv hn).1; omega)).trans (h'.block k hk)⟩
theorem Own.cell_free {lo : Nat} {w : World} {b off n c : Nat} (h : Own lo w (.slice (some ⟨b, off, none⟩) n c)) (hn : 0 < n) (i : Nat) : w.frozen? ⟨b, i, none⟩ = false := (h _ _ _ rfl hn).2.2 i

/-! ### A slice of the call's own whose cells are written one after the other -/
theorem cell_set_at {w : World} {a : Addr} {v : Value} (h : w.cell? a = some v) (u : Value) : (w.setCell a u).cell? a = some u := by
  obtain ⟨b, o, sp⟩ := a
  simp only [World.cell?] at h
  cases hb : w.heap[b]? with
  | none => rw [hb] at h; cases h
  | some ob =>
    rw [hb] at h
    cases ob with
    | cells cs t fr =>
      simp only at h
      cases sp with
      | some s => simp at h
      | none =>
        simp at h
        have hlt := (Array.getElem?_eq_some_iff.1 h).1
        simp [World.setCell, World.cell?, Array.getElem?_modify, hb, hlt]
    | _ => cases h
def Marked (w : World) (b off N k : Nat) (f : Nat → Value) : Prop :=
  (∀ c, c < N → ∃ u, w.cell? ⟨b, off + c, none⟩ = some u) ∧ ∀ c, c < k → w.cell? ⟨b, off + c, none⟩ = some (f c)
theorem Marked.set {w : World} {b off N k : Nat} {f : Nat → Value} (h : Marked w b off N k f) (hk : k < N) {a : Addr} (ha : a = ⟨b, off + k, none⟩) {u : Value} (hu : u = f k) : Marked (w.setCell a u) b off N (k + 1) f := by
  subst ha hu
  obtain ⟨u0, hu0⟩ := h.1 k hk
  refine ⟨fun c hc => ?_, fun c hc => ?_⟩
  · by_cases e : c = k
    · subst e; exact ⟨_, cell_set_at hu0 _⟩
    · obtain ⟨u, hu⟩ := h.1 c hc
      exact ⟨u, by rw [cell_set_other (by intro e'; injection e' with _ e' _; omega)]; exact hu⟩
  · by_cases e : c = k
    · subst e; exact cell_set_at hu0 _
    · rw [cell_set_other (by intro e'; injection e' with _ e' _; omega)]
      exact h.2 c (by omega)

theorem info_of {P : Program} {e : TypeId} {z : Value} {s b : Nat} (h : (P.info? e).map (fun i => (i.zero, i.size, i.bytes)) = some (some z, s, b)) : ∃ i, P.info? e = some i ∧ i.zero = some z ∧ i.size = s ∧ i.bytes = b := by
  obtain ⟨i, hi, h⟩ := Option.map_eq_some_iff.1 h
  simp only [Prod.mk.injEq] at h
  exact ⟨i, hi, h.1, h.2.1, h.2.2⟩

/-- 'make([]T, n)', n a length that the walk knows. -/
theorem run_make_of {P : Program} (t e : TypeId) {z : Value} {s b : Nat} (ht : P.underlying t = some (.slice e)) (h : (P.info? e).map (fun i => (i.zero, i.size, i.bytes)) = some (some z, s, b)) (n : Nat) (hb : b * n ≤ 281474976710656) (h63 : n ≤ 9223372036854775807) (w : World) :
    (Instr.makeSlice t (.int .i64 (n : Int)) (.int .i64 (n : Int))).run P w = .ok (.slice (some ⟨w.heap.size, 0, none⟩) n n) (w.alloc (.cells (madeCells z.cells (n * s)) e)) := by
  obtain ⟨i, hi, hz, hs, hby⟩ := info_of h
  have hb' : (i.bytes : Int) * (n : Int) ≤ 281474976710656 := by
    have h : ((i.bytes * n : Nat) : Int) ≤ 281474976710656 := by rw [hby]; omega
    rwa [Int.natCast_mul] at h
  have hr := run_make (P := P) w t e i z ht hi hz .i64 .i64 n n (by omega) (by omega) hb' (by omega)
  simp only [Int.toNat_natCast] at hr
  rw [hr, hs]

/-! ### The first place that is taken -/
/-- the first place whose element the function takes -/
def findAt {α : Type} (p : α → Bool) : List α → Nat → Int
  | [], _ => -1
  | x :: xs, k => if p x then k else findAt p xs (k + 1)
theorem findAt_neg {α : Type} {p : α → Bool} {xs : List α} {k : Nat} : findAt p xs k = -1 ∨ (k : Int) ≤ findAt p xs k := by
  induction xs generalizing k with
  | nil => exact .inl rfl
  | cons x xs ih =>
    unfold findAt
    split
    · exact .inr (Int.le_refl _)
    · rcases ih (k := k + 1) with h | h
      · exact .inl h
      · exact .inr (by omega)
theorem findAt_any {α : Type} {p : α → Bool} {xs : List α} {k : Nat} : decide (0 ≤ findAt p xs k) = xs.any p := by
  induction xs generalizing k with
  | nil => rfl
  | cons x xs ih =>
    unfold findAt
    rw [List.any_cons]
    split
    · rename_i h; rw [h]; simp
    · rename_i h; rw [ih]; simp [h]
theorem findAt_step {α : Type} {p : α → Bool} {xs : List α} {k : Nat} {x : α} (hx : xs[k]? = some x) (hp : p x = false) : findAt p (xs.drop k) k = findAt p (xs.drop (k + 1)) (k + 1) := by
  obtain ⟨hk, rfl⟩ := List.getElem?_eq_some_iff.1 hx
  rw [List.drop_eq_getElem_cons hk, findAt, if_neg (by simp [hp])]
theorem findAt_hit {α : Type} {p : α → Bool} {xs : List α} {k : Nat} {x : α} (hx : xs[k]? = some x) (hp : p x = true) : findAt p (xs.drop k) k = k := by
  obtain ⟨hk, rfl⟩ := List.getElem?_eq_some_iff.1 hx
  rw [List.drop_eq_getElem_cons hk, findAt, if_pos hp]

/-! ### What fits -/
theorem hi_of {x : Int} (h : (Lit.int .i64 x).wf = true) : x ≤ 9223372036854775807 := by
  simp [Lit.wf, IntKind.min, IntKind.max, IntKind.signed, IntKind.bits] at h; omega
theorem lo_of {x : Int} (h : (Lit.int .i64 x).wf = true) : -9223372036854775808 ≤ x := by
  simp [Lit.wf, IntKind.min, IntKind.max, IntKind.signed, IntKind.bits] at h; omega
def Small (xs : List Int) : Prop := ∀ x ∈ xs, x ≤ 9223372036854775807
theorem small_of {xs : List Int} (h : ∀ x ∈ xs, (Lit.int .i64 x).wf = true) : Small xs := fun x hx => hi_of (h x hx)

end Go.Proofs.YtiggckhlbklngaaDoor
