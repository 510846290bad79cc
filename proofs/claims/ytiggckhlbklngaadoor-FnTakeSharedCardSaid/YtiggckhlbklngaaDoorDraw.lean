/- The reader of a code: its world, l20Open, pick, odd. -/
import Derived.Test.YtiggckhlbklngaaDoorAppend
namespace Go.Proofs.YtiggckhlbklngaaDoor
open Go.RowKit

/-- Everything but block rb is as it was. -/
def Ex (rb : Nat) (w w' : World) : Prop := w.grownBy w' (some rb)
theorem Ex.size {rb : Nat} {w w' : World} (h : Ex rb w w') : w.heap.size ≤ w'.heap.size := World.grownBy.size h
theorem Ex.refl (rb : Nat) (w : World) : Ex rb w w := ⟨rfl, rfl, rfl, Nat.le_refl _, fun _ _ _ => rfl⟩
theorem Ex.trans {rb : Nat} {a b c : World} (h : Ex rb a b) (k : Ex rb b c) : Ex rb a c :=
  ⟨(World.grownBy.os k).trans (World.grownBy.os h), (World.grownBy.tape k).trans (World.grownBy.tape h), (World.grownBy.output k).trans (World.grownBy.output h), Nat.le_trans h.size k.size, fun i hi hn => (World.grownBy.block k i (Nat.lt_of_lt_of_le hi h.size) hn).trans (World.grownBy.block h i hi hn)⟩
theorem Ex.of_ext {rb : Nat} {w w' : World} (h : Ext w w') : Ex rb w w' := ⟨Below.os h, Below.tape h, Below.output h, Ext.size h, fun k hk _ => Below.block h k hk⟩
theorem Ex.ext {rb : Nat} {a b c : World} (h : Ex rb a b) (k : Ext b c) : Ex rb a c := h.trans (Ex.of_ext k)
theorem Ex.alloc {rb : Nat} {a b : World} (h : Ex rb a b) (o : Obj) : Ex rb a (b.alloc o) := h.ext ((Ext.refl b).alloc o)
theorem Ex.drew {rb : Nat} {a b : World} (h : Ex rb a b) : Ex rb a b.drew := h.ext ((Ext.refl b).drew)
theorem Ex.setCell {rb : Nat} {a b : World} (h : Ex rb a b) (o : Nat) (u : Value) : Ex rb a (b.setCell ⟨rb, o, none⟩ u) :=
  h.trans ⟨rfl, rfl, rfl, by simp [World.setCell], fun k _ hn => Below.heap_setCell _ _ _ _ (fun e => hn (by simp at e; rw [e]))⟩
theorem Ex.cell {rb : Nat} {w w' : World} (h : Ex rb w w') {p : Addr} {v : Value} (hc : w.cell? p = some v) (hne : p.block ≠ rb) : w'.cell? p = some v :=
  World.grownBy.cell h hc (by simpa using hne)
/-- what the block is apart from -/
def Off (rb : Nat) (v : Value) : Prop := ∀ a n c, v = .slice (some a) n c → 0 < n → a.block ≠ rb
/-- what lies below the block -/
def Under (rb : Nat) (v : Value) : Prop := ∀ a n c, v = .slice (some a) n c → 0 < n → a.block < rb
theorem Under.off {rb : Nat} {v : Value} (h : Under rb v) : Off rb v := fun a n c hv hn e => by have := h a n c hv hn; omega
theorem SlOf.off {α : Type} {m rb : Nat} {enc : α → Nat → Value} {w w' : World} {v : Value} {xs : List α} (h : SlOf m enc w v xs) (hx : Ex rb w w') (ho : Off rb v) : SlOf m enc w' v xs := by
  obtain ⟨A, c, hA, h⟩ := h
  refine ⟨A, c, hA, fun hn => ?_⟩
  obtain ⟨b, off, hb, hlt, hc⟩ := h hn
  refine ⟨b, off, hb, Nat.lt_of_lt_of_le hlt hx.size, fun i x hi j hj => hx.cell (hc i x hi j hj) ?_⟩
  subst hb
  exact ho ⟨b, off, none⟩ _ _ hA hn
theorem Sl1.off {α : Type} {rb : Nat} {enc : α → Value} {w w' : World} {v : Value} {xs : List α} (h : Sl1 enc w v xs) (hx : Ex rb w w') (ho : Off rb v) : Sl1 enc w' v xs := by
  obtain ⟨A, c, hA, h⟩ := h
  refine ⟨A, c, hA, fun hn => ?_⟩
  obtain ⟨b, off, hb, hlt, hc⟩ := h hn
  refine ⟨b, off, hb, Nat.lt_of_lt_of_le hlt hx.size, fun i x hi => hx.cell (hc i x hi) ?_⟩
  subst hb
  exact ho ⟨b, off, none⟩ _ _ hA hn
theorem Own.off {lo rb : Nat} {w : World} {v : Value} (h : Own lo w v) (hl : rb < lo) : Off rb v := fun a n c hv hn e => by
  have := (h a n c hv hn).1
  omega
theorem Own.ex {lo rb : Nat} {w w' : World} {v : Value} (h : Own lo w v) (hx : Ex rb w w') (hl : rb < lo) : Own lo w' v := fun a n c hv hn => by
  obtain ⟨h1, h2, h3⟩ := h a n c hv hn
  refine ⟨h1, Nat.lt_of_lt_of_le h2 hx.size, fun i => ?_⟩
  rw [← h3 i]
  exact World.frozen?_of_block (a := ⟨a.block, i, none⟩) (World.grownBy.block hx a.block h2 (by simp; omega))
theorem Row.ex {α : Type} {e : TypeId} {m rb : Nat} {enc : α → Nat → Value} {base : Nat} {w w' : World} {v : Value} {xs : List α} (h : Row e m enc base w v xs) (hx : Ex rb w w') (hl : rb < base) : Row e m enc base w' v xs := by
  refine World.ownsRow.kept (row := some rb) h hx ?_
  cases hv : v.ownBlock with
  | none => exact .inl rfl
  | some k =>
    right
    have := h.block k hv
    intro e
    injection e with e
    omega
theorem Ext.ex {rb : Nat} {w w1 w2 : World} (h : Ext w w1) (hx : Ex rb w1 w2) (hl : w.heap.size ≤ rb) : Ext w w2 := Ext.grown h hx (fun k hk => by injection hk with hk; omega)

/-- a byte of a code -/
def encU (x : Int) : Value := .int .u8 x
/-- The reader: its block, a bound of how often it was asked, and of where the code lies. -/
def RdB (B : Nat) (w : World) (rb m : Nat) : Prop :=
  ∃ (A : Option Addr) (xs : List Int) (c p : Nat) (T : TypeId), w.heap[rb]? = some (.cells #[.slice A xs.length c, .int .i64 (p : Int)] T (0, 0)) ∧ p ≤ m ∧ Sl1 encU w (.slice A xs.length c) xs ∧ (∀ x ∈ xs, 0 ≤ x ∧ x ≤ 255) ∧ xs.length ≤ 2000 ∧ Under B (.slice A xs.length c) ∧ B ≤ rb
def Rd (w : World) (rb m : Nat) : Prop := RdB rb w rb m
theorem RdB.lt {B : Nat} {w : World} {rb m : Nat} (h : RdB B w rb m) : rb < w.heap.size := by
  obtain ⟨A, xs, c, p, T, h, _⟩ := h
  exact (Array.getElem?_eq_some_iff.1 h).1
theorem RdB.mono {B : Nat} {w : World} {rb m m' : Nat} (h : RdB B w rb m) (hm : m ≤ m') : RdB B w rb m' := by
  obtain ⟨A, xs, c, p, T, h1, h2, h3⟩ := h
  exact ⟨A, xs, c, p, T, h1, Nat.le_trans h2 hm, h3⟩
theorem RdB.rd {B : Nat} {w : World} {rb m : Nat} (h : RdB B w rb m) : Rd w rb m := by
  obtain ⟨A, xs, c, p, T, h1, h2, h3, h4, h5, h6, h7⟩ := h
  exact ⟨A, xs, c, p, T, h1, h2, h3, h4, h5, fun a n c hv hn => Nat.lt_of_lt_of_le (h6 a n c hv hn) h7, Nat.le_refl _⟩
theorem RdB.ext {B : Nat} {w w' : World} {rb m : Nat} (h : RdB B w rb m) (hx : Ext w w') : RdB B w' rb m := by
  have hl := h.lt
  obtain ⟨A, xs, c, p, T, h1, h2, h3, h4⟩ := h
  exact ⟨A, xs, c, p, T, (Below.block hx rb hl).trans h1, h2, h3.ext hx, h4⟩
theorem RdB.grown {B : Nat} {w w' : World} {rb m : Nat} {row : Option Nat} (h : RdB B w rb m) (hg : w.grownBy w' row) (hr : ∀ k, row = some k → B ≤ k ∧ k ≠ rb) : RdB B w' rb m := by
  have hl := h.lt
  obtain ⟨A, xs, c, p, T, h1, h2, ⟨A', c', hA, hs⟩, h4, h5, h6⟩ := h
  injection hA with e1 e2 e3
  subst e1 e3
  refine ⟨A, xs, c, p, T, (hg.block rb hl (fun e => (hr rb e.symm).2 rfl)).trans h1, h2, ⟨A, c, rfl, fun hn => ?_⟩, h4, h5, h6⟩
  obtain ⟨b, off, hb, hlt, hc⟩ := hs hn
  refine ⟨b, off, hb, Nat.lt_of_lt_of_le hlt hg.size, fun i x hx => hg.cell (hc i x hx) (fun e => ?_)⟩
  have h7 := (hr b e.symm).1
  have h8 := h6.1 ⟨b, off, none⟩ _ _ (by rw [hb]) hn
  simp at h8
  omega
theorem Rd.lt {w : World} {rb m : Nat} (h : Rd w rb m) : rb < w.heap.size := RdB.lt h
theorem Rd.mono {w : World} {rb m m' : Nat} (h : Rd w rb m) (hm : m ≤ m') : Rd w rb m' := RdB.mono h hm
theorem Rd.ext {w w' : World} {rb m : Nat} (h : Rd w rb m) (hx : Ext w w') : Rd w' rb m := RdB.ext h hx
theorem Rd.grown {w w' : World} {rb m : Nat} {row : Option Nat} (h : Rd w rb m) (hg : w.grownBy w' row) (hr : ∀ k, row = some k → rb < k) : Rd w' rb m :=
  RdB.grown h hg (fun k hk => by have := hr k hk; omega)
theorem Ex.grown {rb : Nat} {w0 w w' : World} {row : Option Nat} (h : Ex rb w0 w) (hg : w.grownBy w' row) (hr : ∀ k, row = some k → w0.heap.size ≤ k) : Ex rb w0 w' :=
  ⟨hg.os.trans (World.grownBy.os h), hg.tape.trans (World.grownBy.tape h), hg.output.trans (World.grownBy.output h), Nat.le_trans h.size hg.size,
   fun i hi hn => (hg.block i (Nat.lt_of_lt_of_le hi h.size) (fun e => by have := hr i e.symm; omega)).trans (World.grownBy.block h i hi hn)⟩
theorem Rd.alloc {w : World} {rb m : Nat} (h : Rd w rb m) (o : Obj) : Rd (w.alloc o) rb m := h.ext ((Ext.refl w).alloc o)
theorem Rd.drew {w : World} {rb m : Nat} (h : Rd w rb m) : Rd w.drew rb m := h.ext ((Ext.refl w).drew)
theorem RdB.alloc {B : Nat} {w : World} {rb m : Nat} (h : RdB B w rb m) (o : Obj) : RdB B (w.alloc o) rb m := h.ext ((Ext.refl w).alloc o)
theorem RdB.drew {B : Nat} {w : World} {rb m : Nat} (h : RdB B w rb m) : RdB B w.drew rb m := h.ext ((Ext.refl w).drew)
/-- What came out of a pick: a number below n. -/
def PickedB (B : Nat) (n : Int) (rb m : Nat) (w : World) (e : Ending) (w' : World) : Prop := ∃ k : Int, e = .returned (.int .i64 k) ∧ 0 ≤ k ∧ k < n ∧ RdB B w' rb (m + 1) ∧ Ex rb w w'
/-- What came out of a pick: a number below n. -/
def Picked (n : Int) (rb m : Nat) (w : World) (e : Ending) (w' : World) : Prop := ∃ k : Int, e = .returned (.int .i64 k) ∧ 0 ≤ k ∧ k < n ∧ Rd w' rb (m + 1) ∧ Ex rb w w'
/-- What came out of a question: yes or no. -/
def Asked (rb m : Nat) (w : World) (e : Ending) (w' : World) : Prop := ∃ k : Bool, e = .returned (.bool k) ∧ Rd w' rb (m + 1) ∧ Ex rb w w'

theorem xor_small (x : Nat) (hx : x < 9223372036854775808) : bits .xor .i64 (x : Int) ((x : Int) / 64) = ((x ^^^ x / 64 : Nat) : Int) := by
  have h1 : x / 64 < 2 ^ 63 := by omega
  have hx' : x ^^^ x / 64 < 2 ^ 63 := Nat.xor_lt_two_pow (by omega) h1
  have e : ((x : Int) / 64) = ((x / 64 : Nat) : Int) := by simp
  rw [e]
  show IntKind.i64.wrap ((BitVec.ofInt 64 (x : Int) ^^^ BitVec.ofInt 64 ((x / 64 : Nat) : Int)).toNat : Int) = _
  rw [BitVec.toNat_xor]
  have a1 : (BitVec.ofInt 64 (x : Int)).toNat = x := by rw [BitVec.ofInt_natCast, BitVec.toNat_ofNat]; exact Nat.mod_eq_of_lt (by omega)
  have a2 : (BitVec.ofInt 64 ((x / 64 : Nat) : Int)).toNat = x / 64 := by rw [BitVec.ofInt_natCast, BitVec.toNat_ofNat]; exact Nat.mod_eq_of_lt (by omega)
  rw [a1, a2, IntKind.wrap_i64]
  omega

/-! ### Literals -/
theorem size_alloc_ (w : World) (o : Obj) : (w.alloc o).heap.size = w.heap.size + 1 := by simp
theorem SlOf.lit {α : Type} {m : Nat} {enc : α → Nat → Value} (w : World) (cs : Array Value) (T : TypeId) (c : Nat) (xs : List α) (h : cs.toList = xs.flatMap (cellsOf_ m enc)) : SlOf m enc (w.alloc (.cells cs T)) (.slice (some ⟨w.heap.size, 0, none⟩) xs.length c) xs := by
  refine ⟨_, c, rfl, fun _ => ⟨w.heap.size, 0, rfl, by simp, fun i x hx j hj => ?_⟩⟩
  have h1 := cells_get (enc := enc) hx hj
  rw [← h] at h1
  simp only [World.cell?, heap_alloc_new, Nat.zero_add]
  simpa using h1
theorem SlOf.lit_n {α : Type} {m : Nat} {enc : α → Nat → Value} (w : World) (n : Nat) (cs : Array Value) (T : TypeId) (c : Nat) (xs : List α) (h : cs.toList = xs.flatMap (cellsOf_ m enc)) (hn : w.heap.size = n) : SlOf m enc (w.alloc (.cells cs T)) (.slice (some ⟨n, 0, none⟩) xs.length c) xs := by
  subst hn
  exact SlOf.lit w cs T c xs h
/-- An element of a literal that was made before a pick. -/
theorem lit_at {w w1 : World} {rb : Nat} {cs : Array Value} {T : TypeId} (φ : Value → Prop) (hx : Ex rb (w.alloc (.cells cs T)) w1) (hr : rb < w.heap.size) (q : Nat) (hq : q < cs.size) (hP : ∀ v ∈ cs.toList, φ v) : ∃ v, w1.cell? ⟨w.heap.size, q, none⟩ = some v ∧ φ v := by
  refine ⟨cs[q], hx.cell (p := ⟨w.heap.size, q, none⟩) ?_ (by simp; omega), hP _ (by simp)⟩
  simp only [World.cell?, heap_alloc_new]
  simp [hq]
/-- An element of a literal of structs. -/
theorem lits_at {α : Type} {m : Nat} {enc : α → Nat → Value} {w w1 : World} {rb : Nat} {cs : Array Value} {T : TypeId} (hx : Ex rb (w.alloc (.cells cs T)) w1) (hr : rb < w.heap.size) (xs : List α) (h : cs.toList = xs.flatMap (cellsOf_ m enc)) (q : Nat) (hq : q < xs.length) :
    ∃ x ∈ xs, ∀ j, j < m → w1.cell? ⟨w.heap.size, q * m + j, none⟩ = some (enc x j) := by
  refine ⟨xs[q], by simp, fun j hj => hx.cell (p := ⟨w.heap.size, q * m + j, none⟩) ?_ (by simp; omega)⟩
  have h1 := cells_get (enc := enc) (xs := xs) (i := q) (x := xs[q]) (by simp) hj
  rw [← h] at h1
  simp only [World.cell?, heap_alloc_new]
  simpa using h1
theorem Row.lower {α : Type} {e : TypeId} {m : Nat} {enc : α → Nat → Value} {base base' : Nat} {w : World} {v : Value} {xs : List α} (h : Row e m enc base w v xs) (hb : base' ≤ base) : Row e m enc base' w v xs := by
  refine ⟨h.1, ?_⟩
  rcases h.2 with hn | ⟨g, cap, cur, hv, h1, rest⟩
  · exact .inl hn
  · exact .inr ⟨g, cap, cur, hv, Nat.le_trans hb h1, rest⟩
theorem Row.made {α : Type} {m : Nat} {enc : α → Nat → Value} (w : World) (e : TypeId) : Row e m enc w.heap.size (w.alloc (.cells #[] e)) (.slice (some ⟨w.heap.size, 0, none⟩) 0 0) ([] : List α) :=
  World.ownsRow_made w #[] 0 (Nat.le_refl _) (by simp [maxLen]) (by simp)
/-- a number that is not large -/
def smI (x : Int) : Prop := -100000 ≤ x ∧ x ≤ 100000
/-- A slice of the call's own that reads as a list. -/
def Val {α : Type} (m : Nat) (enc : α → Nat → Value) (lo : Nat) (w : World) (v : Value) (xs : List α) : Prop :=
  SlOf m enc w v xs ∧ Own lo w v ∧ ∀ A n c, v = .slice A n c → n ≤ c ∧ c ≤ 9223372036854775807
theorem Row.val {α : Type} {e : TypeId} {m : Nat} {enc : α → Nat → Value} {base : Nat} {w : World} {v : Value} {xs : List α} (h : Row e m enc base w v xs) : Val m enc base w v xs := ⟨h.cell.1, h.cell.2, h.cap⟩
theorem Val.ext {α : Type} {m : Nat} {enc : α → Nat → Value} {lo : Nat} {w w' : World} {v : Value} {xs : List α} (h : Val m enc lo w v xs) (hb : Ext w w') : Val m enc lo w' v xs := ⟨h.1.ext hb, h.2.1.ext hb, h.2.2⟩
theorem Val.ex {α : Type} {m : Nat} {enc : α → Nat → Value} {lo rb : Nat} {w w' : World} {v : Value} {xs : List α} (h : Val m enc lo w v xs) (hb : Ex rb w w') (hl : rb < lo) : Val m enc lo w' v xs := ⟨h.1.off hb (h.2.1.off hl), h.2.1.ex hb hl, h.2.2⟩
theorem Val.lower {α : Type} {m : Nat} {enc : α → Nat → Value} {lo lo' : Nat} {w : World} {v : Value} {xs : List α} (h : Val m enc lo w v xs) (hb : lo' ≤ lo) : Val m enc lo' w v xs := ⟨h.1, h.2.1.mono hb, h.2.2⟩
/-- What a draw of a list returns: a slice of the call's own, and the reader asked so often. -/
def DrawnS {α : Type} (m : Nat) (enc : α → Nat → Value) (rb mm : Nat) (φ : List α → Prop) (w : World) (en : Ending) (w' : World) : Prop :=
  ∃ v xs, en = .returned v ∧ Val m enc w.heap.size w' v xs ∧ φ xs ∧ Rd w' rb mm ∧ Ex rb w w'
theorem grownBy_set (w : World) (b o : Nat) (u : Value) : w.grownBy (w.setCell ⟨b, o, none⟩ u) (some b) :=
  ⟨rfl, rfl, rfl, by simp [World.setCell], fun k _ hn => Below.heap_setCell _ _ _ _ (fun e => hn (by simp at e; rw [e]))⟩
/-- One cell of an element of the call's own slice is written. -/
theorem SlOf.set1 {α : Type} {m lo : Nat} {enc : α → Nat → Value} {w : World} {b off n c : Nat} {xs : List α} {k : Nat} {x : α} {j : Nat} (h : SlOf m enc w (.slice (some ⟨b, off, none⟩) n c) xs) (ho : Own lo w (.slice (some ⟨b, off, none⟩) n c)) (hn : 0 < n)
    (hx : xs[k]? = some x) (hj : j < m) (x' : α) (hoth : ∀ i, i < m → i ≠ j → enc x' i = enc x i) :
    SlOf m enc (w.setCell ⟨b, off + k * m + j, none⟩ (enc x' j)) (.slice (some ⟨b, off, none⟩) n c) (xs.set k x') ∧ Own lo (w.setCell ⟨b, off + k * m + j, none⟩ (enc x' j)) (.slice (some ⟨b, off, none⟩) n c) := by
  have hon := Only.setCell (a := ⟨b, off, none⟩) (c := c) (w := w) hn (off + k * m + j) (enc x' j)
  refine ⟨?_, ho.only hon⟩
  obtain ⟨A, c', hA, hc⟩ := id h
  injection hA with e1 e2 e3
  subst e1 e2 e3
  obtain ⟨b', off', hb', hlt, hcell⟩ := hc hn
  injection hb' with hb'
  injection hb' with e1 e2
  subst e1 e2
  refine SlOf.put h x' (fun i u hne hu => ?_) (fun i hi => ?_) hon.size
  · rw [cell_set_other (by intro e; injection e with _ e _; exact hne j hj e.symm)]
    exact hu
  · by_cases e : i = j
    · subst e
      exact cell_set_at (hcell k x hx _ hi) _
    · rw [cell_set_other (by intro e'; injection e' with _ e' _; omega), hoth i hi e]
      exact hcell k x hx i hi
/-- Some cells of truth values of the call's own. -/
def Bools (w : World) (g N : Nat) (T : TypeId) : Prop := ∃ cs, w.heap[g]? = some (.cells cs T (0, 0)) ∧ cs.size = N ∧ ∀ v ∈ cs.toList, ∃ b, v = .bool b
theorem Bools.lt {w : World} {g N : Nat} {T : TypeId} (h : Bools w g N T) : g < w.heap.size := by
  obtain ⟨cs, h, _⟩ := h
  exact (Array.getElem?_eq_some_iff.1 h).1
theorem Bools.grown {w w' : World} {g N : Nat} {T : TypeId} {row : Option Nat} (h : Bools w g N T) (hg : w.grownBy w' row) (hr : some g ≠ row) : Bools w' g N T := by
  have hl := h.lt
  obtain ⟨cs, h, hs, hb⟩ := h
  exact ⟨cs, (hg.block g hl hr).trans h, hs, hb⟩
theorem Bools.ext {w w' : World} {g N : Nat} {T : TypeId} (h : Bools w g N T) (hb : Ext w w') : Bools w' g N T := by
  have hl := h.lt
  obtain ⟨cs, h, hs, hbb⟩ := h
  exact ⟨cs, (Below.block hb g hl).trans h, hs, hbb⟩
theorem Bools.cell {w : World} {g N : Nat} {T : TypeId} (h : Bools w g N T) {j : Nat} (hj : j < N) : (∃ b : Bool, w.cell? ⟨g, j, none⟩ = some (.bool b)) ∧ w.frozen? ⟨g, j, none⟩ = false := by
  obtain ⟨cs, h, hs, hb⟩ := h
  obtain ⟨b, hbv⟩ := hb (cs[j]'(by omega)) (by simp)
  exact ⟨⟨b, by simp [World.cell?, h, show j < cs.size by omega, hbv]⟩, by simp [World.frozen?, h]⟩
theorem Bools.set {w : World} {g N : Nat} {T : TypeId} (h : Bools w g N T) (j : Nat) (b : Bool) : Bools (w.setCell ⟨g, j, none⟩ (.bool b)) g N T := by
  obtain ⟨cs, h, hs, hb⟩ := h
  refine ⟨cs.setIfInBounds j (.bool b), by simp [World.setCell, Array.getElem?_modify, h], by simp [hs], fun v hv => ?_⟩
  rw [Array.toList_setIfInBounds] at hv
  rcases List.mem_or_eq_of_mem_set hv with hv | rfl
  · exact hb v hv
  · exact ⟨b, rfl⟩
/-- Cells that hold small numbers. -/
def Smalls (w : World) (g N : Nat) (T : TypeId) : Prop := (∃ cs, w.heap[g]? = some (.cells cs T (0, 0))) ∧ ∀ j, j < N → ∃ y : Int, w.cell? ⟨g, j, none⟩ = some (.int .i64 y) ∧ smI y
theorem Smalls.lt {w : World} {g N : Nat} {T : TypeId} (h : Smalls w g N T) : g < w.heap.size := by
  obtain ⟨⟨cs, h⟩, _⟩ := h
  exact (Array.getElem?_eq_some_iff.1 h).1
theorem Smalls.grown {w w' : World} {g N : Nat} {T : TypeId} {row : Option Nat} (h : Smalls w g N T) (hg : w.grownBy w' row) (hr : some g ≠ row) : Smalls w' g N T := by
  have hl := h.lt
  obtain ⟨⟨cs, h1⟩, h2⟩ := h
  exact ⟨⟨cs, (hg.block g hl hr).trans h1⟩, fun j hj => let ⟨y, hy, hs⟩ := h2 j hj; ⟨y, hg.cell hy hr, hs⟩⟩
theorem Smalls.ex {w w' : World} {g N rb : Nat} {T : TypeId} (h : Smalls w g N T) (hx : Ex rb w w') (hg : g ≠ rb) : Smalls w' g N T := h.grown hx (by simpa using hg)
/-- A row of elements of one type is not the block of another's. -/
theorem Row.ne {α : Type} {e T : TypeId} {m g : Nat} {enc : α → Nat → Value} {base : Nat} {w : World} {v : Value} {xs : List α} {cs : Array Value} {f : Nat × Nat} (h : Row e m enc base w v xs) (hg : w.heap[g]? = some (.cells cs T f)) (hne : e ≠ T) : some g ≠ v.ownBlock := by
  rcases h.2 with ⟨rfl, _⟩ | ⟨g', cap, cur, rfl, hb, hgg, _⟩
  · simp [Value.ownBlock]
  · intro e'
    simp [Value.ownBlock] at e'
    subst e'
    rw [hg] at hgg
    injection hgg with hgg
    injection hgg with _ h2 _
    exact hne h2.symm

section
variable {P : Program} {α : Type} {t e : TypeId} {m b : Nat} {z : Value} {enc : α → Nat → Value} {base : Nat} {w : World} {v : Value} {xs ys : List α}
/-- 'append(v, src...)' in a walk. -/
theorem wpList_cat (ht : P.underlying t = some (.slice e)) (hinfo : (P.info? e).map (fun i => (i.zero, i.size, i.bytes)) = some (some z, m, b)) (hzs : z.cells.size = m) (hm : 0 < m) (h1 : ∀ x : α, ∀ j, (enc x j).oneCell' = true) (hb : b ≤ 64)
    {ops : Array Oper} {rest : List Oper} {o : Oper} {a : Act} {Q : Exit → Act → World → Prop} {s x : Operand} {A : Option Addr} {n c : Nat} (hwant : Region.wanted o (yielded ops a.tmps) = true)
    (ho : o.op = .call { callee := .builtin .append, args := #[s, x], argTypes := #[t, t] }) (hs : a.eval s = v) (hx : a.eval x = .slice A n c)
    (hrow : Row e m enc base w v xs) (hsrc : SlOf m enc w (.slice A n c) ys) (hn : xs.length + ys.length ≤ 4194304) (hbase : base ≤ w.heap.size)
    (h : ∀ v' w', Row e m enc base w' v' (xs ++ ys) → w.grownBy w' v.ownBlock → wpList P ops Q rest (a.put o.dst v') w') : wpList P ops Q (o :: rest) a w := by
  obtain ⟨v', w', hrun, hrow', hg⟩ := run_cat (P := P) (ty := o.type) ht hinfo hzs hm hrow hsrc (fun x _ j => h1 x j) hn hb hbase
  refine wpList_step fun K hK => ?_
  rw [if_pos hwant]
  unfold Oper.wp execOp
  simp only [ho, resolve, invoke, builtin, Sem.run_bind, Sem.run_pure, Result.andThen_ok, List.map_toArray, List.map_cons, List.map_nil, hs, hx, hrun]
  exact hK _ _ (h v' w' hrow' hg)
end
end Go.Proofs.YtiggckhlbklngaaDoor
