/- Slices of ints: the laws' helpers, and slices.IndexFunc, ContainsFunc. -/
import Derived.Test.YtiggckhlbklngaaDoorRows
import Derived.Test.YtiggckhlbklngaaDoorBase
namespace Go.Proofs.YtiggckhlbklngaaDoor
open Go.RowKit

/-! ### A block of ints of the call's own -/
def Filling1 {α : Type} (enc : α → Value) (g N : Nat) (xs : List α) (k : Nat) (w : World) : Prop :=
  BlkN w g N ∧ ∀ i x, i < k → xs[i]? = some x → w.cell? ⟨g, i, none⟩ = some (enc x)
section
variable {α : Type} {enc : α → Value} {g N k : Nat} {xs : List α} {w w' : World} {x : α}
theorem Filling1.start (e : TypeId) (cs : Array Value) (hN : cs.size = N) : Filling1 enc w.heap.size N xs 0 (w.alloc (.cells cs e)) :=
  ⟨hN ▸ BlkN.made w cs e, fun i _ hi => absurd hi (Nat.not_lt_zero i)⟩
theorem Filling1.ext (h : Filling1 enc g N xs k w) (hb : Ext w w') : Filling1 enc g N xs k w' := ⟨h.1.ext hb, fun i x hi hx => hb.cell (h.2 i x hi hx)⟩
theorem Filling1.set (h : Filling1 enc g N xs k w) (hk : k < N) (hx : xs[k]? = some x) : Filling1 enc g N xs (k + 1) (w.setCell ⟨g, k, none⟩ (enc x)) := by
  refine ⟨h.1.set _ _, fun i y hi hy => ?_⟩
  by_cases e : i = k
  · subst e
    rw [hx] at hy
    cases hy
    exact cell_set_self h.1 hk _
  · rw [cell_set_other]
    · exact h.2 i y (by omega) hy
    · intro e'
      injection e' with _ e' _
      omega
theorem Filling1.done (h : Filling1 enc g N xs xs.length w) (c : Nat) : Sl1 enc w (.slice (some ⟨g, 0, none⟩) xs.length c) xs := by
  refine ⟨_, c, rfl, fun _ => ⟨g, 0, rfl, h.1.lt, fun i x hx => ?_⟩⟩
  rw [Nat.zero_add]
  exact h.2 i x (List.getElem?_eq_some_iff.1 hx).1 hx
end

set_option maxHeartbeats 400000 in
theorem indexFuncI_any {v : Value} {xs : List Int} (w : World) (F : FuncId) (cap : Array Value) (p : Int → Bool) (h : Sl1 encI w v xs) (hlen : xs.length ≤ 2097152)
    (hcf : ∀ args W, (callFunc F args).run Tryd.prog W = .ok (.enter F args) W) (hF : ∀ x ∈ xs, ∀ W, Ext w W → Calls Tryd.prog F (#[.int .i64 x] ++ cap) W fun e w' => e = .returned (.bool (p x)) ∧ Ext W w') :
    Calls Tryd.prog 69 #[v, .func (.func F) #[] cap] w fun e w' => e = .returned (.int .i64 (findAt p xs 0)) ∧ Ext w w' := by
  obtain ⟨A, c, rfl, h⟩ := h
  have HF := Lib.hid hF
  clear hF
  go_enter Tryd.func69, Tryd.ntmps69
  go_wp2
  go_loopw [8] (fun i wr => Ext w wr ∧ ∃ k : Nat, k ≤ xs.length ∧ i = .int .i64 k ∧ Hid (findAt p xs 0 = findAt p (xs.drop k) k)) (fun i _ => xs.length - (intOf i).toNat)
  case atStart => exact ⟨Ext.refl _, 0, Nat.zero_le _, rfl, rfl⟩
  case round =>
    obtain ⟨hb, k, hk, rfl, HI⟩ := hrel
    by_cases hlt : k < xs.length
    · obtain ⟨b, off, rfl, hbl, hc⟩ := h (by omega)
      obtain ⟨x, hx⟩ := at_some hlt
      have c0 : wr.cell? ⟨b, off + k, none⟩ = some (.int .i64 x) := hb.cell (hc k x hx)
      have Hx := Lib.hid hx
      have Hm := List.mem_of_getElem? hx
      clear hx h hc
      go_wp2_with fail
      refine (HF.out x Hm _ hb).mono ?_
      rintro e w1 ⟨rfl, b1⟩
      by_cases hp : p x = true
      · have hr := Lib.hid (HI.out.trans (findAt_hit Hx.out hp))
        go_wp2
        go_returns
        exact ⟨ret_int hr.out.symm, hb.trans b1⟩
      · simp only [Bool.not_eq_true] at hp
        have hr := Lib.hid (HI.out.trans (findAt_step Hx.out hp))
        go_wp2
        go_roundw
        case rel => exact ⟨hb.trans b1, k + 1, by omega, by go_num, hr⟩
        case measure => simp [intOf]; omega
    · obtain rfl : k = xs.length := by omega
      go_wp2
      go_returns
      exact ⟨ret_int (by rw [HI.out]; simp [findAt]), hb⟩
set_option maxHeartbeats 400000 in
theorem containsFuncI_any {v : Value} {xs : List Int} (w : World) (F : FuncId) (cap : Array Value) (p : Int → Bool) (h : Sl1 encI w v xs) (hlen : xs.length ≤ 2097152)
    (hcf : ∀ args W, (callFunc F args).run Tryd.prog W = .ok (.enter F args) W) (hF : ∀ x ∈ xs, ∀ W, Ext w W → Calls Tryd.prog F (#[.int .i64 x] ++ cap) W fun e w' => e = .returned (.bool (p x)) ∧ Ext W w') :
    Calls Tryd.prog 43 #[v, .func (.func F) #[] cap] w fun e w' => e = .returned (.bool (xs.any p)) ∧ Ext w w' := by
  have HF := Lib.hid hF
  clear hF
  go_enter Tryd.func43, Tryd.ntmps43
  go_wp2_with fail
  refine (indexFuncI_any w F cap p h hlen hcf HF.out).mono ?_
  rintro e w1 ⟨rfl, b1⟩
  go_wp2
  go_returns
  exact ⟨ret_bool (findAt_any), b1⟩
end Go.Proofs.YtiggckhlbklngaaDoor
