/- Parts of slices. -/
import Derived.Test.YtcmakjhpfgeenaaDoorAppend
import Derived.Laws.PanicsMore
namespace Go.Proofs.YtcmakjhpfgeenaaDoor
open Go.RowKit

section
variable {P : Program} {α : Type} {t e : TypeId} {m b : Nat} {z : Value} {enc : α → Nat → Value} {xs : List α} {A : Option Addr} {n c : Nat}
/-- what is between two places -/
def part {α : Type} (xs : List α) (lo hi : Nat) : List α := (xs.take hi).drop lo
theorem part_get {xs : List α} {lo hi i : Nat} : (part xs lo hi)[i]? = if lo + i < hi then xs[lo + i]? else none := by
  rw [part, List.getElem?_drop, List.getElem?_take]
theorem part_len {xs : List α} {lo hi : Nat} (hh : hi ≤ xs.length) : (part xs lo hi).length = hi - lo := by
  rw [part, List.length_drop, List.length_take, Nat.min_eq_left hh]
theorem SlOf.part {w : World} (h : SlOf m enc w (.slice A n c) xs) (lo hi : Nat) (hlo : lo ≤ hi) (hhi : hi ≤ xs.length) (hc : xs.length ≤ c) :
    SlOf m enc w (.slice (if c = lo then A else A.map (·.add (lo * m))) (hi - lo) (c - lo)) (part xs lo hi) ∧ ∀ b0, Own b0 w (.slice A n c) → Own b0 w (.slice (if c = lo then A else A.map (·.add (lo * m))) (hi - lo) (c - lo)) := by
  obtain ⟨A', c', hA, hcell⟩ := h
  injection hA with e1 e2 e3
  subst e1 e2 e3
  have hadd : ∀ (b off : Nat) (n : Nat), (⟨b, off, none⟩ : Addr).add n = ⟨b, off + n, none⟩ := fun b off n => by
    unfold Addr.add
    split
    · rename_i h; rw [h]; rfl
    · rfl
  constructor
  · refine ⟨_, _, by rw [part_len hhi], fun hn => ?_⟩
    rw [part_len hhi] at hn
    obtain ⟨b, off, rfl, hlt, hcl⟩ := hcell (by omega)
    rw [if_neg (by omega)]
    refine ⟨b, off + lo * m, by rw [Option.map_some, hadd], hlt, fun i x hx j hj => ?_⟩
    rw [part_get] at hx
    split at hx
    · have := hcl (lo + i) x hx j hj
      rw [Nat.add_mul] at this
      rw [← this]
      congr 2
      omega
    · cases hx
  · intro b0 ho a n' c' hv hn
    injection hv with e1 e2 e3
    subst e2
    obtain ⟨b, off, rfl, hlt, hcl⟩ := hcell (by omega)
    have := ho ⟨b, off, none⟩ _ _ rfl (by omega)
    rw [if_neg (by omega), Option.map_some, hadd] at e1
    injection e1 with e1
    subst e1
    exact this
/-- 'v[lo:hi]' -/
theorem run_cut (ht : P.underlying t = some (.slice e)) (hinfo : (P.info? e).map (fun i => (i.zero, i.size, i.bytes)) = some (some z, m, b)) (lo hi : Nat) (hlo : lo ≤ hi) (hhi : hi ≤ c) (W : World) :
    (Instr.slice t (.slice A n c) (some (.int .i64 (lo : Int))) (some (.int .i64 (hi : Int))) none).run P W = .ok (.slice (if c = lo then A else A.map (·.add (lo * m))) (hi - lo) (c - lo)) W := by
  obtain ⟨i, hi', hz, hs, hby⟩ := info_of hinfo
  subst hs
  simp [Instr.slice, run_underlying ht, Instr.sliceBounds, Instr.sliceBound, asIntOf, sizeOf, typeInfo, hi', hlo, hhi]
/-- 'v[lo:]' -/
theorem run_cut_low (ht : P.underlying t = some (.slice e)) (hinfo : (P.info? e).map (fun i => (i.zero, i.size, i.bytes)) = some (some z, m, b)) (lo : Nat) (hlo : lo ≤ n) (W : World) :
    (Instr.slice t (.slice A n c) (some (.int .i64 (lo : Int))) none none).run P W = .ok (.slice (if c = lo then A else A.map (·.add (lo * m))) (n - lo) (c - lo)) W := by
  obtain ⟨i, hi', hz, hs, hby⟩ := info_of hinfo
  subst hs
  simp [Instr.slice, run_underlying ht, Instr.sliceBounds, Instr.sliceBound, asIntOf, sizeOf, typeInfo, hi', hlo]
/-- 'v[:hi]' -/
theorem run_cut_high (ht : P.underlying t = some (.slice e)) (hinfo : (P.info? e).map (fun i => (i.zero, i.size, i.bytes)) = some (some z, m, b)) (hi : Nat) (hhi : hi ≤ c) (W : World) :
    (Instr.slice t (.slice A n c) none (some (.int .i64 (hi : Int))) none).run P W = .ok (.slice (if c = 0 then A else A.map (·.add (0 * m))) (hi - 0) (c - 0)) W := by
  obtain ⟨i, hi', hz, hs, hby⟩ := info_of hinfo
  subst hs
  simp [Instr.slice, run_underlying ht, Instr.sliceBounds, Instr.sliceBound, asIntOf, sizeOf, typeInfo, hi', hhi]
end
end Go.Proofs.YtcmakjhpfgeenaaDoor
