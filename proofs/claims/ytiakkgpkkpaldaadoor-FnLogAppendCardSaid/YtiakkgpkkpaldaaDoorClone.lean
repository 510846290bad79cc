/- slices.Clone and slices.Clip. -/
import Derived.Test.YtiakkgpkkpaldaaDoorTypes
import Derived.Test.YtiakkgpkkpaldaaDoorAppend
namespace Go.Proofs.YtiakkgpkkpaldaaDoor
open Go.RowKit

theorem cinfo_Rec : (Tryd.prog.info? 57).map (fun i => (i.zero, i.size, i.bytes)) = some (some (.agg #[.int .i64 0, .int .i64 0]), 2, 16) := by kernel_rfl
theorem one_Rec (x : Rec) (j : Nat) : (encRec x j).oneCell' = true := by
  first | rfl | (unfold encRec; split <;> rfl)
set_option maxHeartbeats 400000 in
theorem cloneRec_any {v : Value} {xs : List Rec} (w : World) (h : SlOf 2 encRec w v xs) (hlen : xs.length ≤ 2097152) :
    Calls Tryd.prog 57 #[v] w fun e w' => ∃ v', e = .returned v' ∧ Row 57 2 encRec w.heap.size w' v' xs ∧ Ext w w' := by
  obtain ⟨A, c, rfl, h'⟩ := id h
  have heq := fun W => Lib.run_eql_slice_nil (P := Tryd.prog) W 50 57 A xs.length c 0 0 Tryd.underlying50
  cases A with
  | none =>
    have hx : xs = [] := by
      rcases Nat.eq_zero_or_pos xs.length with h0 | h0
      · exact List.eq_nil_of_length_eq_zero h0
      · obtain ⟨b, off, hA, _⟩ := h' h0
        cases hA
    subst hx
    clear h h'
    simp only [List.length_nil] at heq ⊢
    go_enter Tryd.func57, Tryd.ntmps57
    go_wp2
    go_returns
    exact ⟨_, rfl, Row.nil, Ext.refl _⟩
  | some ad =>
    have hrow : Row 57 2 encRec w.heap.size (w.alloc (.cells #[] 57)) (.slice (some ⟨w.heap.size, 0, none⟩) 0 0) ([] : List Rec) := World.ownsRow_made w #[] 0 (Nat.le_refl _) (by simp [maxLen]) (by simp)
    obtain ⟨v', w', hrun, hrow', hgrow⟩ := run_cat (P := Tryd.prog) (t := 50) (ty := 50) (e := 57) Tryd.underlying50 cinfo_Rec rfl (by omega) hrow (h.ext ((Ext.refl w).alloc (.cells #[] 57))) (fun x _ j => one_Rec x j) (by simp; omega) (by omega) (by simp)
    have Hrow := Lib.hid hrow'
    have hg := Lib.hid (Ext.grown ((Ext.refl w).alloc (.cells #[] 57)) hgrow (fun k hk => by simp [Value.ownBlock] at hk; omega))
    have Hrun := Lib.hid hrun
    clear h h' hrow hrow' hgrow hrun
    go_enter Tryd.func57, Tryd.ntmps57
    go_wp2_with (at_builtin; refine wpList_append_run rfl rfl rfl rfl Hrun.out ?_)
    go_returns
    exact ⟨_, rfl, by simpa using Hrow.out, hg.out⟩

set_option maxHeartbeats 400000 in
theorem clipRec_any {v : Value} {xs : List Rec} {lo : Nat} (w : World) (h : SlOf 2 encRec w v xs) (ho : Own lo w v) (hcap : ∀ A n c, v = .slice A n c → n ≤ c ∧ c ≤ 9223372036854775807) :
    Calls Tryd.prog 56 #[v] w fun e w' => ∃ v', e = .returned v' ∧ SlOf 2 encRec w v' xs ∧ Own lo w v' ∧ w = w' := by
  obtain ⟨A, c, rfl, h'⟩ := id h
  have hc := hcap _ _ _ rfl
  clear hcap
  have hs : Hid (SlOf 2 encRec w (.slice A xs.length xs.length) xs) := ⟨A, _, rfl, h'⟩
  have hO : Hid (Own lo w (.slice A xs.length xs.length)) := fun a n c' hv hn => by
    injection hv with e1 e2 e3
    subst e1 e2
    exact ho _ _ _ rfl hn
  clear h h' ho
  go_enter Tryd.func56, Tryd.ntmps56
  go_wp2
  go_returns
  exact ⟨_, rfl, hs.out, hO.out, rfl⟩

theorem cinfo_Hold : (Tryd.prog.info? 27).map (fun i => (i.zero, i.size, i.bytes)) = some (some (.agg #[.int .i64 0, .int .i64 0, .bool false, .bool false]), 4, 24) := by kernel_rfl
theorem one_Hold (x : Hold) (j : Nat) : (encHold x j).oneCell' = true := by
  first | rfl | (unfold encHold; split <;> rfl)
set_option maxHeartbeats 400000 in
theorem cloneHold_any {v : Value} {xs : List Hold} (w : World) (h : SlOf 4 encHold w v xs) (hlen : xs.length ≤ 2097152) :
    Calls Tryd.prog 42 #[v] w fun e w' => ∃ v', e = .returned v' ∧ Row 27 4 encHold w.heap.size w' v' xs ∧ Ext w w' := by
  obtain ⟨A, c, rfl, h'⟩ := id h
  have heq := fun W => Lib.run_eql_slice_nil (P := Tryd.prog) W 23 27 A xs.length c 0 0 Tryd.underlying23
  cases A with
  | none =>
    have hx : xs = [] := by
      rcases Nat.eq_zero_or_pos xs.length with h0 | h0
      · exact List.eq_nil_of_length_eq_zero h0
      · obtain ⟨b, off, hA, _⟩ := h' h0
        cases hA
    subst hx
    clear h h'
    simp only [List.length_nil] at heq ⊢
    go_enter Tryd.func42, Tryd.ntmps42
    go_wp2
    go_returns
    exact ⟨_, rfl, Row.nil, Ext.refl _⟩
  | some ad =>
    have hrow : Row 27 4 encHold w.heap.size (w.alloc (.cells #[] 27)) (.slice (some ⟨w.heap.size, 0, none⟩) 0 0) ([] : List Hold) := World.ownsRow_made w #[] 0 (Nat.le_refl _) (by simp [maxLen]) (by simp)
    obtain ⟨v', w', hrun, hrow', hgrow⟩ := run_cat (P := Tryd.prog) (t := 23) (ty := 23) (e := 27) Tryd.underlying23 cinfo_Hold rfl (by omega) hrow (h.ext ((Ext.refl w).alloc (.cells #[] 27))) (fun x _ j => one_Hold x j) (by simp; omega) (by omega) (by simp)
    have Hrow := Lib.hid hrow'
    have hg := Lib.hid (Ext.grown ((Ext.refl w).alloc (.cells #[] 27)) hgrow (fun k hk => by simp [Value.ownBlock] at hk; omega))
    have Hrun := Lib.hid hrun
    clear h h' hrow hrow' hgrow hrun
    go_enter Tryd.func42, Tryd.ntmps42
    go_wp2_with (at_builtin; refine wpList_append_run rfl rfl rfl rfl Hrun.out ?_)
    go_returns
    exact ⟨_, rfl, by simpa using Hrow.out, hg.out⟩

set_option maxHeartbeats 400000 in
theorem clipHold_any {v : Value} {xs : List Hold} {lo : Nat} (w : World) (h : SlOf 4 encHold w v xs) (ho : Own lo w v) (hcap : ∀ A n c, v = .slice A n c → n ≤ c ∧ c ≤ 9223372036854775807) :
    Calls Tryd.prog 41 #[v] w fun e w' => ∃ v', e = .returned v' ∧ SlOf 4 encHold w v' xs ∧ Own lo w v' ∧ w = w' := by
  obtain ⟨A, c, rfl, h'⟩ := id h
  have hc := hcap _ _ _ rfl
  clear hcap
  have hs : Hid (SlOf 4 encHold w (.slice A xs.length xs.length) xs) := ⟨A, _, rfl, h'⟩
  have hO : Hid (Own lo w (.slice A xs.length xs.length)) := fun a n c' hv hn => by
    injection hv with e1 e2 e3
    subst e1 e2
    exact ho _ _ _ rfl hn
  clear h h' ho
  go_enter Tryd.func41, Tryd.ntmps41
  go_wp2
  go_returns
  exact ⟨_, rfl, hs.out, hO.out, rfl⟩

end Go.Proofs.YtiakkgpkkpaldaaDoor
