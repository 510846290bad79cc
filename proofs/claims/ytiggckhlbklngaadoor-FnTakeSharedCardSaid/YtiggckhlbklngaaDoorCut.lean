/- Parts of slices. -/
import Derived.Test.YtiggckhlbklngaaDoorAppend
import Derived.Laws.PanicsMore
namespace Go.Proofs.YtiggckhlbklngaaDoor
open Go.RowKit

section
variable {P : Program} {α : Type} {t e : TypeId} {m b : Nat} {z : Value} {enc : α → Nat → Value} {xs : List α} {A : Option Addr} {n c : Nat}
/-- what is between two places -/
def part {α : Type} (xs : List α) (lo hi : Nat) : List α := (xs.take hi).drop lo
theorem part_get {xs : List α} {lo hi i : Nat} : (part xs lo hi)[i]? = if lo + i < hi then xs[lo + i]? else none := by
  rw [part, List.getElem?_drop, List.getElem?_take]
theorem part_len {xs : List α} {lo hi : Nat} (hh : hi ≤ xs.length) : (part xs lo hi).length = hi - lo := by
  rw [part, List.length_drop, List.length_take, Nat.min_eq_left hh]
theorem SlOf.part {w : World} (h : SlOf m enc w (.slice A n c) xs) (lo hi : Nat) (hlo : lo ≤ hi) (hhi : hi ≤ xs.length) (hc : xs.length ≤ c) :
    SlOf m enc w (.slice (if c = lo then A else A.map (·.add (lo * m))) (hi - lo) (c - lo)) (part xs lo hi) ∧ ∀ b0, Own b0 w (.slice A n c) → Own b0 w (.slice (if c = lo then A else A.map (·.add (lo * m))) (hi - lo) (c - lo)) := by
  obtain ⟨A', c', hA, hcell⟩ := h
  injection hA with e1 e2 e3
  subst e1 e2 e3
  have hadd : ∀ (b off : Nat) (n : Nat), (⟨b, off, none⟩ : Addr).add n = ⟨b, off + n, none⟩ := fun b off n => by
    unfold Addr.add
    split
    · rename_i h; rw [h]; rfl
    · rfl
  constructor
  · refine ⟨_, _, by rw [part_len hhi], fun hn => ?_⟩
    rw [part_len hhi] at hn
    obtain ⟨b, off, rfl, hlt, hcl⟩ := hcell (by omega)
    rw [if_neg (by omega)]
    refine ⟨b, off + lo * m, by rw [Option.map_some, hadd], hlt, fun i x hx j hj => ?_⟩
    rw [part_get] at hx
    split at hx
    · have := hcl (lo + i) x hx j hj
      rw [Nat.add_mul] at this
      rw [← this]
      congr 2
      omega
    · cases hx
  · intro b0 ho a n' c' hv hn
    injection hv with e1 e2 e3
    subst e2
    obtain ⟨b, off, rfl, hlt, hcl⟩ := hcell (by omega)
    have := ho ⟨b, off, none⟩ _ _ rfl (by omega)
    rw [if_neg (by omega), Option.map_some, hadd] at e1
    injection e1 with e1
    subst e1
    exact this
/-- 'v[lo:hi]' -/
theorem run_cut (ht : P.underlying t = some (.slice e)) (hinfo : (P.info? e).map (fun i => (i.zero, i.size, i.bytes)) = some (some z, m, b)) (lo hi : Nat) (hlo : lo ≤ hi) (hhi : hi ≤ c) (W : World) :
    (Instr.slice t (.slice A n c) (some (.int .i64 (lo : Int))) (some (.int .i64 (hi : Int))) none).run P W = .ok (.slice (if c = lo then A else A.map (·.add (lo * m))) (hi - lo) (c - lo)) W := by
  obtain ⟨i, hi', hz, hs, hby⟩ := info_of hinfo
  subst hs
  simp [Instr.slice, run_underlying ht, Instr.sliceBounds, Instr.sliceBound, asIntOf, sizeOf, typeInfo, hi', hlo, hhi]
/-- 'v[lo:]' -/
theorem run_cut_low (ht : P.underlying t = some (.slice e)) (hinfo : (P.info? e).map (fun i => (i.zero, i.size, i.bytes)) = some (some z, m, b)) (lo : Nat) (hlo : lo ≤ n) (W : World) :
    (Instr.slice t (.slice A n c) (some (.int .i64 (lo : Int))) none none).run P W = .ok (.slice (if c = lo then A else A.map (·.add (lo * m))) (n - lo) (c - lo)) W := by
  obtain ⟨i, hi', hz, hs, hby⟩ := info_of hinfo
  subst hs
  simp [Instr.slice, run_underlying ht, Instr.sliceBounds, Instr.sliceBound, asIntOf, sizeOf, typeInfo, hi', hlo]
/-- 'v[:hi]' -/
theorem run_cut_high (ht : P.underlying t = some (.slice e)) (hinfo : (P.info? e).map (fun i => (i.zero, i.size, i.bytes)) = some (some z, m, b)) (hi : Nat) (hhi : hi ≤ c) (W : World) :
    (Instr.slice t (.slice A n c) none (some (.int .i64 (hi : Int))) none).run P W = .ok (.slice (if c = 0 then A else A.map (·.add (0 * m))) (hi - 0) (c - 0)) W := by
  obtain ⟨i, hi', hz, hs, hby⟩ := info_of hinfo
  subst hs
  simp [Instr.slice, run_underlying ht, Instr.sliceBounds, Instr.sliceBound, asIntOf, sizeOf, typeInfo, hi', hhi]
end
theorem part_prev {α : Type} {xs : List α} {lo i : Nat} {y : α} (h : prevOf (part xs lo xs.length) i = some y) : prevOf xs (lo + i) = some y := by
  unfold prevOf at *
  split at h
  · cases h
  · rw [if_neg (by omega)]
    rw [part_get] at h
    split at h
    · rw [← h]; congr 1; omega
    · cases h
theorem allGood_suffix {α : Type} {g : Option α → α → Bool} {xs : List α} {most : Nat} (hg : ∀ y x, g (some y) x = true → g none x = true) (h : allGood xs (goodAt g xs) most = true) (lo : Nat) (hl : lo ≤ xs.length) :
    allGood (part xs lo xs.length) (goodAt g (part xs lo xs.length)) most = true := by
  obtain ⟨h1, h2⟩ := allGood_true.1 h
  refine allGood_true.2 ⟨fun i hi => ?_, by rw [part_len (Nat.le_refl _)]; omega⟩
  rw [part_len (Nat.le_refl _)] at hi
  have h3 := h1 (lo + i) (by omega)
  unfold goodAt at *
  rw [part_get, if_pos (by omega)]
  cases hx : xs[lo + i]? with
  | none => rfl
  | some x =>
    rw [hx] at h3
    simp only at h3 ⊢
    cases hp : prevOf (part xs lo xs.length) i with
    | none =>
      cases hq : prevOf xs (lo + i) with
      | none => rw [hq] at h3; exact h3
      | some y => rw [hq] at h3; exact hg _ _ h3
    | some y =>
      rw [part_prev hp] at h3
      exact h3
theorem allGood_prefix {α : Type} {g : Option α → α → Bool} {xs : List α} {most : Nat} (h : allGood xs (goodAt g xs) most = true) (hi : Nat) (hl : hi ≤ xs.length) :
    allGood (part xs 0 hi) (goodAt g (part xs 0 hi)) most = true := by
  obtain ⟨h1, h2⟩ := allGood_true.1 h
  refine allGood_true.2 ⟨fun i hi' => ?_, by rw [part_len hl]; omega⟩
  rw [part_len hl] at hi'
  have h3 := h1 i (by omega)
  have hg : ∀ j, j ≤ i → (part xs 0 hi)[j]? = xs[j]? := fun j hj => by rw [part_get, if_pos (by omega), Nat.zero_add]
  unfold goodAt at *
  rw [hg i (Nat.le_refl _)]
  have hp : prevOf (part xs 0 hi) i = prevOf xs i := by
    unfold prevOf
    split
    · rfl
    · exact hg _ (by omega)
  rw [hp]
  exact h3
/-- A literal as a row. -/
theorem Row.lit {α : Type} {m : Nat} {enc : α → Nat → Value} (w : World) (cs : Array Value) (T : TypeId) (xs : List α) (h : cs.toList = xs.flatMap (cellsOf_ m enc)) (hn : xs.length ≤ 4194304) : Row T m enc w.heap.size (w.alloc (.cells cs T)) (.slice (some ⟨w.heap.size, 0, none⟩) xs.length xs.length) xs := by
  have hs : cs.size = xs.length * m := by rw [← Array.length_toList, h, cells_length]
  refine ⟨cells_length xs, .inr ⟨w.heap.size, xs.length, cs, rfl, Nat.le_refl _, heap_alloc_new w _, Nat.le_refl _, by simp only [maxLen]; omega, hs, ?_⟩⟩
  rw [List.take_of_length_le (by rw [Array.length_toList, hs]; exact Nat.le_refl _), h]
end Go.Proofs.YtiggckhlbklngaaDoor
