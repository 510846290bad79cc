/- A code as it was handed in, read as a list of bytes; what the row's listed tables ask of a start. -/
import Derived.Test.YtiggckhlbklngaaDoorRows
import Derived.Test.YtiggckhlbklngaaDoorDraw
import Derived.ProofKit
import Derived.LaidMore
import Derived.OpenShut
import Derived.Stop.Joined
import Derived.Deep.Slices
import Derived.Deep.Fields
import Derived.ChangeSame
import Derived.ChangeOld
import Derived.Lib.SmallJoins
namespace Go.Proofs.YtiggckhlbklngaaDoor
open Go.RowKit Go.ChangeShapes Go.WideShapes Go.ChangeAt

theorem open_Bytes {H : Type} {enc : TypeId × Value → H} {W : World} {a : Option Addr} {n c : Nat} {d : DataW H} {p : List MemPlace} (h : DataW.Trod enc Tryd.prog W 0 (fun _ => true) true 22 (.slice a n c) d p) :
    ∃ xs : List Int, Sl1 encU W (.slice a n c) xs ∧ xs.length ≤ 9223372036854775807 ∧ (∀ x ∈ xs, 0 ≤ x ∧ x ≤ 255) ∧ n ≤ c ∧ c ≤ 9223372036854775807 := by
  obtain ⟨fuel, hf⟩ := h
  rcases open_ints Tryd.underlying22 Tryd.underlying5 (by kernel_rfl) hf with ⟨hcs, _⟩ | ⟨x, l, cp, zs, hcs, _, hl, hm, hz, _, hcell, hwz⟩
  · simp [Value.cells] at hcs
    obtain ⟨rfl, rfl, rfl⟩ := hcs
    exact ⟨[], Sl1.nil _ _ _ _, by simp, (fun x hx => by cases hx), by simp⟩
  · simp [Value.cells] at hcs
    obtain ⟨rfl, rfl, rfl⟩ := hcs
    simp at hz
    have hzl : (zs.take n).length = n := by simp; omega
    refine ⟨zs.take n, ⟨some x, _, by rw [hzl], fun hn => ?_⟩, by rw [hzl]; simp only [maxLen] at hm; omega, fun y hy => ?_, hl, by simpa only [maxLen] using hm⟩
    · rw [hzl] at hn
      have h0 := hcell 0 (by omega)
      obtain ⟨b, off, sp⟩ := x
      have hs : sp = none := by
        simp only [Addr.add, if_true] at h0
        cases sp with
        | none => rfl
        | some s => simp [World.cell?] at h0; split at h0 <;> cases h0
      subst hs
      have hadd : ∀ n, (⟨b, off, none⟩ : Addr).add n = ⟨b, off + n, none⟩ := fun n => by
        unfold Addr.add
        split
        · rename_i h; rw [h]; rfl
        · rfl
      refine ⟨b, off, rfl, ?_, fun i y hy => ?_⟩
      · rw [hadd] at h0
        rcases Nat.lt_or_ge b W.heap.size with h | h
        · exact h
        · simp [World.cell?, Array.getElem?_eq_none h] at h0
      · have hi : i < n := by have := (List.getElem?_eq_some_iff.1 hy).1; simp at this; omega
        have := hcell i (by omega)
        rw [hadd] at this
        rw [this]
        rw [List.getElem?_take_of_lt hi] at hy
        rw [List.getD_eq_getElem?_getD, hy]
        rfl
    · have := hwz y (List.mem_of_mem_take hy)
      simp [Lit.wf, IntKind.min, IntKind.max, IntKind.signed, IntKind.bits] at this
      omega
theorem own_knob : ownKnob Tryd.prog.godebug = none := by kernel_rfl
theorem laid_out : laidOutB Tryd.prog = true := by kernel_rfl
end Go.Proofs.YtiggckhlbklngaaDoor
