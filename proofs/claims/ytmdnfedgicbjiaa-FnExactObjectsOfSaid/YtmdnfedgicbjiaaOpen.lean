/- An argument of a law, as it was handed in, read as a list. -/
import Derived.Test.YtmdnfedgicbjiaaTypes
import Derived.ProofKit
import Derived.OpenShut
import Derived.Deep.Slices
import Derived.Deep.Fields
import Derived.ChangeSame
import Derived.ChangeOld
import Derived.Lib.SmallJoins
namespace Go.Proofs.Ytmdnfedgicbjiaa
open Go.RowKit Go.ChangeShapes Go.WideShapes Go.Deep

theorem sl_build {α : Type} {m : Nat} {enc : α → Nat → Value} {W : World} {a : Addr} {len : Nat} (cap : Nat) (p : α → Prop) (hm : 0 < m) (h : ∀ i, i < len → ∃ x : α, p x ∧ ∀ j, j < m → W.cell? (a.add (i * m + j)) = some (enc x j)) :
    ∃ xs : List α, xs.length = len ∧ SlOf m enc W (.slice (some a) len cap) xs ∧ ∀ x ∈ xs, p x := by
  have h' : ∃ f : Fin len → α, ∀ i : Fin len, p (f i) ∧ ∀ j, j < m → W.cell? (a.add (i.1 * m + j)) = some (enc (f i) j) :=
    ⟨fun i => Classical.choose (h i.1 i.2), fun i => Classical.choose_spec (h i.1 i.2)⟩
  obtain ⟨f, hpf⟩ := h'
  have hf := fun i => (hpf i).2
  refine ⟨List.ofFn f, by simp, ⟨some a, cap, by simp, fun hn => ?_⟩, fun x hx => by
    obtain ⟨i, rfl⟩ := List.mem_ofFn.1 hx
    exact (hpf i).1⟩
  simp at hn
  have h0 := hf ⟨0, hn⟩ 0 hm
  have hs : a.spot = none := by
    rw [show (0 * m + 0) = 0 by omega] at h0
    simp only [Addr.add, if_true] at h0
    cases hsp : a.spot with
    | none => rfl
    | some s => simp [World.cell?, hsp] at h0; split at h0 <;> cases h0
  obtain ⟨b, off, sp⟩ := a
  subst hs
  have hadd : ∀ n, (⟨b, off, none⟩ : Addr).add n = ⟨b, off + n, none⟩ := fun n => by
    unfold Addr.add
    split
    · rename_i h; rw [h]; rfl
    · rfl
  refine ⟨b, off, rfl, ?_, fun i x hx j hj => ?_⟩
  · rw [hadd] at h0
    rcases Nat.lt_or_ge b W.heap.size with h | h
    · exact h
    · simp [World.cell?, Array.getElem?_eq_none h] at h0
  · have hi : i < len := by have := (List.getElem?_eq_some_iff.1 hx).1; simpa using this
    have := hf ⟨i, hi⟩ j hj
    rw [hadd, ← Nat.add_assoc] at this
    rw [this]
    rw [List.getElem?_ofFn] at hx
    simp [hi] at hx
    rw [hx]

section
variable {H : Type} {enc : TypeId × Value → H} {P : Program} {w : World} {base : Nat} {spare : Nat → Bool} {held : Bool}
theorem open_slice_fields {t e : TypeId} {fs : Array Field} {fuel : Nat} {cs : List Value} {x : DataW H × List MemPlace} (ht : P.underlying t = some (.slice e)) (he : P.underlying e = some (.struct fs))
    (hone : oneCellFields P fs = true) (hC : P.cellsOf e = fs.size) (h : DataW.trod enc P w base spare held fuel t cs = some x) :
    (cs = [.slice none 0 0] ∧ x = (.nil, [])) ∨
    ∃ (a : Addr) (len cap m : Nat) (D : Nat → DataW H) (Pl : Nat → List MemPlace), cs = [.slice (some a) len cap] ∧ base ≤ a.block ∧ len ≤ cap ∧ cap ≤ maxLen ∧ m = (if spare a.block then cap else len) ∧
      x = (.slice ((List.range len).map D) ((List.range (m - len)).map fun j => D (len + j)), MemPlace.row a (m * fs.size) ++ (List.range m).flatMap Pl) ∧
      ∀ i, i < m → ∃ (ys : List (DataW H × List MemPlace)) (n : Nat), D i = .agg (ys.map (·.1)) ∧ Pl i = ys.flatMap (·.2) ∧ ys.length = fs.size ∧
        ∀ (j : Nat) (f : Field), fs[j]? = some f → ∃ (v : Value) (y : DataW H × List MemPlace), w.cell? (a.add (i * fs.size + j)) = some v ∧ ys[j]? = some y ∧ DataW.trod enc P w base spare held n f.type [v] = some y := by
  rcases open_slice ht h with h0 | ⟨a, len, cap, m, n, D, Pl, hcs, hb, hl, hm, hmm, hx, hi⟩
  · exact .inl h0
  · refine .inr ⟨a, len, cap, m, D, Pl, hcs, hb, hl, hm, hmm, by rw [hC] at hx; exact hx, fun i him => ?_⟩
    obtain ⟨cs', hc, ht'⟩ := hi i him
    rw [hC] at hc
    obtain ⟨ys, n', hn', hy, hlen, hyl, hf⟩ := DataW.trod_struct he ht'
    obtain ⟨_, hcl, hat⟩ := World.cells?_some hc
    simp only [Prod.mk.injEq] at hy
    refine ⟨ys, n', hy.1, hy.2, hyl, fun j f hj => ?_⟩
    obtain ⟨ho, hk⟩ := hone_of hone j f hj
    have hjl : j < fs.size := (Array.getElem?_eq_some_iff.1 hj).1
    have hcell := hat j hjl
    have hv : cs'[j]? = some (cs'[j]'(by omega)) := List.getElem?_eq_getElem (by omega)
    have h1 := hf j f hj
    rw [ho, hk] at h1
    have hone' : (cs'.drop j).take 1 = [cs'[j]'(by omega)] := by
      rw [List.drop_eq_getElem_cons (by omega)]
      rfl
    rw [hone'] at h1
    have hys : ys[j]? = some (ys[j]'(by omega)) := List.getElem?_eq_getElem (by omega)
    refine ⟨_, _, ?_, hys, h1.trans hys⟩
    rw [← Go.Deep.add_add, hcell, hv]
end

theorem open_Ints {H : Type} {enc : TypeId × Value → H} {W : World} {a : Option Addr} {n c : Nat} {d : DataW H} {p : List MemPlace} (h : DataW.Trod enc Try.prog W 0 (fun _ => true) true 22 (.slice a n c) d p) :
    ∃ xs : List Int, Sl1 encI W (.slice a n c) xs ∧ xs.length ≤ 9223372036854775807 ∧ ∀ x ∈ xs, (Lit.int .i64 x).wf = true := by
  obtain ⟨fuel, hf⟩ := h
  rcases open_ints Try.underlying22 Try.underlying3 (by kernel_rfl) hf with ⟨hcs, _⟩ | ⟨x, l, cp, zs, hcs, _, hl, hm, hz, _, hcell, hwz⟩
  · simp [Value.cells] at hcs
    obtain ⟨rfl, rfl, rfl⟩ := hcs
    exact ⟨[], Sl1.nil _ _ _ _, by simp, fun x hx => by cases hx⟩
  · simp [Value.cells] at hcs
    obtain ⟨rfl, rfl, rfl⟩ := hcs
    simp at hz
    have hzl : (zs.take n).length = n := by simp; omega
    refine ⟨zs.take n, ⟨some x, _, by rw [hzl], fun hn => ?_⟩, by rw [hzl]; simp only [maxLen] at hm; omega, fun y hy => hwz y (List.mem_of_mem_take hy)⟩
    rw [hzl] at hn
    have h0 := hcell 0 (by omega)
    obtain ⟨b, off, sp⟩ := x
    have hs : sp = none := by
      simp only [Addr.add, if_true] at h0
      cases sp with
      | none => rfl
      | some s => simp [World.cell?] at h0; split at h0 <;> cases h0
    subst hs
    have hadd : ∀ n, (⟨b, off, none⟩ : Addr).add n = ⟨b, off + n, none⟩ := fun n => by
      unfold Addr.add
      split
      · rename_i h; rw [h]; rfl
      · rfl
    refine ⟨b, off, rfl, ?_, fun i y hy => ?_⟩
    · rw [hadd] at h0
      rcases Nat.lt_or_ge b W.heap.size with h | h
      · exact h
      · simp [World.cell?, Array.getElem?_eq_none h] at h0
    · have hi : i < n := by have := (List.getElem?_eq_some_iff.1 hy).1; simp at this; omega
      have := hcell i (by omega)
      rw [hadd] at this
      rw [this]
      rw [List.getElem?_take_of_lt hi] at hy
      rw [List.getD_eq_getElem?_getD, hy]
      rfl
theorem own_knob : ownKnob Try.prog.godebug = none := by kernel_rfl
theorem laid_out : laidOutB Try.prog = true := by kernel_rfl
end Go.Proofs.Ytmdnfedgicbjiaa
