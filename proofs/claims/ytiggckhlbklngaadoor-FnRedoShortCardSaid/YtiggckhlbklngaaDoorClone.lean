/- slices.Clone and slices.Clip. -/
import Derived.Test.YtiggckhlbklngaaDoorTypes
import Derived.Test.YtiggckhlbklngaaDoorAppend
namespace Go.Proofs.YtiggckhlbklngaaDoor
open Go.RowKit

set_option maxHeartbeats 400000 in
theorem clipRedo_any {v : Value} {xs : List Redo} {lo : Nat} (w : World) (h : SlOf 3 encRedo w v xs) (ho : Own lo w v) (hcap : ∀ A n c, v = .slice A n c → n ≤ c ∧ c ≤ 9223372036854775807) :
    Calls Tryd.prog 53 #[v] w fun e w' => ∃ v', e = .returned v' ∧ SlOf 3 encRedo w v' xs ∧ Own lo w v' ∧ w = w' := by
  obtain ⟨A, c, rfl, h'⟩ := id h
  have hc := hcap _ _ _ rfl
  clear hcap
  have hs : Hid (SlOf 3 encRedo w (.slice A xs.length xs.length) xs) := ⟨A, _, rfl, h'⟩
  have hO : Hid (Own lo w (.slice A xs.length xs.length)) := fun a n c' hv hn => by
    injection hv with e1 e2 e3
    subst e1 e2
    exact ho _ _ _ rfl hn
  clear h h' ho
  go_enter Tryd.func53, Tryd.ntmps53
  go_wp2
  go_returns
  exact ⟨_, rfl, hs.out, hO.out, rfl⟩

theorem cinfo_I : (Tryd.prog.info? 3).map (fun i => (i.zero, i.size, i.bytes)) = some (some (.int .i64 0), 1, 8) := by kernel_rfl
theorem one_I (x : Int) (j : Nat) : ((one encI) x j).oneCell' = true := by
  first | rfl | (unfold one; split <;> rfl)
set_option maxHeartbeats 400000 in
theorem cloneI_any {v : Value} {xs : List Int} (w : World) (h : SlOf 1 (one encI) w v xs) (hlen : xs.length ≤ 2097152) :
    Calls Tryd.prog 47 #[v] w fun e w' => ∃ v', e = .returned v' ∧ Row 3 1 (one encI) w.heap.size w' v' xs ∧ Ext w w' := by
  obtain ⟨A, c, rfl, h'⟩ := id h
  have heq := fun W => Lib.run_eql_slice_nil (P := Tryd.prog) W 23 3 A xs.length c 0 0 Tryd.underlying23
  cases A with
  | none =>
    have hx : xs = [] := by
      rcases Nat.eq_zero_or_pos xs.length with h0 | h0
      · exact List.eq_nil_of_length_eq_zero h0
      · obtain ⟨b, off, hA, _⟩ := h' h0
        cases hA
    subst hx
    clear h h'
    simp only [List.length_nil] at heq ⊢
    go_enter Tryd.func47, Tryd.ntmps47
    go_wp2
    go_returns
    exact ⟨_, rfl, Row.nil, Ext.refl _⟩
  | some ad =>
    have hrow : Row 3 1 (one encI) w.heap.size (w.alloc (.cells #[] 3)) (.slice (some ⟨w.heap.size, 0, none⟩) 0 0) ([] : List Int) := World.ownsRow_made w #[] 0 (Nat.le_refl _) (by simp [maxLen]) (by simp)
    obtain ⟨v', w', hrun, hrow', hgrow⟩ := run_cat (P := Tryd.prog) (t := 23) (ty := 23) (e := 3) Tryd.underlying23 cinfo_I rfl (by omega) hrow (h.ext ((Ext.refl w).alloc (.cells #[] 3))) (fun x _ j => one_I x j) (by simp; omega) (by omega) (by simp)
    have Hrow := Lib.hid hrow'
    have hg := Lib.hid (Ext.grown ((Ext.refl w).alloc (.cells #[] 3)) hgrow (fun k hk => by simp [Value.ownBlock] at hk; omega))
    have Hrun := Lib.hid hrun
    clear h h' hrow hrow' hgrow hrun
    go_enter Tryd.func47, Tryd.ntmps47
    go_wp2_with (at_builtin; refine wpList_append_run rfl rfl rfl rfl Hrun.out ?_)
    go_returns
    exact ⟨_, rfl, by simpa using Hrow.out, hg.out⟩

set_option maxHeartbeats 400000 in
theorem clipI_any {v : Value} {xs : List Int} {lo : Nat} (w : World) (h : SlOf 1 (one encI) w v xs) (ho : Own lo w v) (hcap : ∀ A n c, v = .slice A n c → n ≤ c ∧ c ≤ 9223372036854775807) :
    Calls Tryd.prog 46 #[v] w fun e w' => ∃ v', e = .returned v' ∧ SlOf 1 (one encI) w v' xs ∧ Own lo w v' ∧ w = w' := by
  obtain ⟨A, c, rfl, h'⟩ := id h
  have hc := hcap _ _ _ rfl
  clear hcap
  have hs : Hid (SlOf 1 (one encI) w (.slice A xs.length xs.length) xs) := ⟨A, _, rfl, h'⟩
  have hO : Hid (Own lo w (.slice A xs.length xs.length)) := fun a n c' hv hn => by
    injection hv with e1 e2 e3
    subst e1 e2
    exact ho _ _ _ rfl hn
  clear h h' ho
  go_enter Tryd.func46, Tryd.ntmps46
  go_wp2
  go_returns
  exact ⟨_, rfl, hs.out, hO.out, rfl⟩

end Go.Proofs.YtiggckhlbklngaaDoor
