/- A number looked for in a list: l30Has of the reference. -/
import Derived.Test.YtiggckhlbklngaaDoorSetList
namespace Go.Proofs.YtiggckhlbklngaaDoor
open Go.RowKit
set_option maxRecDepth 8000
set_option maxHeartbeats 1000000 in
theorem l30Has_any {v : Value} {xs : List Int} (n : Int) (w : World) (h : Sl1 encI w v xs) (hlen : xs.length ≤ 1000000) :
    Calls Tryd.prog 50 #[v, .int .i64 n] w fun e w' => e = .returned (.bool (xs.any fun x => x == n)) ∧ w = w' := by
  obtain ⟨A, c, rfl, hc⟩ := id h
  have HC := Lib.hid hc
  clear h hc
  obtain ⟨R, hR⟩ : ∃ R, (xs.any fun x => x == n) = R := ⟨_, rfl⟩
  rw [hR]
  have HR := Lib.hid hR
  clear hR
  go_enter Tryd.func50, Tryd.ntmps50
  go_wp2
  go_loop [5] (fun i => ∃ k : Nat, k ≤ xs.length ∧ i = .int .i64 k ∧ Hid (∀ i x, i < k → xs[i]? = some x → x ≠ n)) (fun i => xs.length - (intOf i).toNat)
  case atStart => exact ⟨0, Nat.zero_le _, rfl, fun _ _ h => absurd h (Nat.not_lt_zero _)⟩
  case round =>
    obtain ⟨k, hk, rfl, HK⟩ := hrel
    by_cases hlt : k < xs.length
    · obtain ⟨b, off, rfl, hbl, hcell⟩ := HC.out (by omega)
      obtain ⟨x, hx⟩ := at_some hlt
      have c0 : w.cell? ⟨b, off + k, none⟩ = some (.int .i64 x) := hcell k x hx
      have Hx := Lib.hid hx
      clear hx hcell
      by_cases he : x = n
      · subst he
        have hf : Hid (true = R) := by show _ = _; rw [← HR.out]; symm; rw [List.any_eq_true]; exact ⟨x, List.mem_of_getElem? Hx.out, by simp⟩
        go_wp2
        go_returns
        exact ⟨ret_bool hf.out, rfl⟩
      · have hg : (x == n) = false := by simp [he]
        have He := Lib.hid he
        clear he
        go_wp2
        go_round
        case rel => exact ⟨k + 1, by omega, by go_num, fun i y hi hy => if e : i = k then (by subst e; rw [Hx.out] at hy; cases hy; exact He.out) else HK.out i y (by omega) hy⟩
        case measure => simp [intOf]; omega
    · have hf : Hid (false = R) := by
        show _ = _
        rw [← HR.out]; symm
        rw [List.any_eq_false]
        intro x hx
        obtain ⟨i, hi⟩ := List.getElem?_of_mem hx
        have hl := (List.getElem?_eq_some_iff.1 hi).1
        simpa using HK.out i x (by omega) hi
      go_wp2
      go_returns
      exact ⟨ret_bool hf.out, rfl⟩
end Go.Proofs.YtiggckhlbklngaaDoor
