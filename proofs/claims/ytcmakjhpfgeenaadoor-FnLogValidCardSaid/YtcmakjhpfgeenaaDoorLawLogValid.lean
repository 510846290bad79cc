/- The walk of laws.FnLogValid: it answers true. -/
import Derived.Test.YtcmakjhpfgeenaaDoorLog
import Derived.Test.YtcmakjhpfgeenaaDoorDrawLog
import Derived.Test.YtcmakjhpfgeenaaDoorAlive
import Derived.Test.YtcmakjhpfgeenaaDoorCut
namespace Go.Proofs.YtcmakjhpfgeenaaDoor
open Go.RowKit

theorem logOk_zero (xs : List Rec) : logOk (xs ++ [⟨0, 0⟩]) = false := by
  unfold logOk
  refine allGood_bad (k := xs.length) (by simp) ?_
  unfold goodRec goodAt
  rw [List.getElem?_append_right (Nat.le_refl _)]
  simp [gRec, inB]
theorem part_prev {α : Type} {xs : List α} {lo i : Nat} {y : α} (h : prevOf (part xs lo xs.length) i = some y) : prevOf xs (lo + i) = some y := by
  unfold prevOf at *
  split at h
  · cases h
  · rw [if_neg (by omega)]
    rw [part_get] at h
    split at h
    · rw [← h]; congr 1; omega
    · cases h
theorem logOk_part {xs : List Rec} (h : logOk xs = true) (lo : Nat) (hl : lo ≤ xs.length) : logOk (part xs lo xs.length) = true := by
  obtain ⟨h1, h2⟩ := allGood_true.1 h
  refine allGood_true.2 ⟨fun i hi => ?_, by rw [part_len (Nat.le_refl _)]; omega⟩
  rw [part_len (Nat.le_refl _)] at hi
  have h3 := h1 (lo + i) (by omega)
  unfold goodRec goodAt at *
  rw [part_get, if_pos (by omega)]
  cases hx : xs[lo + i]? with
  | none => rfl
  | some x =>
    rw [hx] at h3
    simp only [gRec, Bool.and_eq_true] at h3 ⊢
    refine ⟨h3.1, ?_⟩
    cases hp : prevOf (part xs lo xs.length) i with
    | none => rfl
    | some y =>
      have := part_prev hp
      rw [this] at h3
      exact h3.2
set_option maxHeartbeats 2000000 in
theorem law_FnLogValid (w : World) {v0 : Value} {xs0 : List Int} (s0 : Sl1 encU w v0 xs0) (l0 : xs0.length ≤ 9223372036854775807) (f0 : ∀ x ∈ xs0, 0 ≤ x ∧ x ≤ 255) (k0 : ∀ A n c, v0 = .slice A n c → n ≤ c ∧ c ≤ 9223372036854775807) :
    Calls Tryd.prog 5 #[v0] w fun e w' => e = .returned (.bool true) ∧ Ext w w' := by
  obtain ⟨A0, c0, hv0, _⟩ := id s0
  by_cases hl : xs0.length ≤ 1048576
  case neg =>
    subst hv0
    have hl' : 1048576 < xs0.length := by omega
    clear hl s0 f0 k0
    go_enter Tryd.func5, Tryd.ntmps5
    go_wp2
    go_returns
    exact ⟨rfl, Ext.refl _⟩
  have HC := Lib.hid (⟨xs0, s0, f0, hl, k0⟩ : CodeIn w v0)
  subst hv0
  clear s0 f0 k0
  go_enter Tryd.func5, Tryd.ntmps5
  go_wp2_with fail
  refine (DrawLogValid_any _ HC.out).mono ?_
  rintro e w1 ⟨u, xs, rfl, hrow, hphi, b1⟩
  have hlen := hphi.1
  have HS := Lib.hid hrow.cell.1
  have hcap := hrow.cap
  obtain ⟨A, c, rfl, _⟩ := id HS.out
  have hcp := hcap _ _ _ rfl
  clear hcap hphi hrow
  obtain ⟨ok, hok⟩ : ∃ ok, logOk xs = ok := ⟨_, rfl⟩
  have HK := Lib.hid hok
  go_wp2_with fail
  refine (impl_LogValid _ HS.out (by omega)).mono ?_
  rw [hok]
  rintro e w2 ⟨rfl, b2⟩
  replace HS := Lib.hid (HS.out.ext b2)
  go_wp2_with fail
  refine (spec_LogValid _ HS.out (by omega)).mono ?_
  rw [hok]
  rintro e w3 ⟨rfl, b3⟩
  replace HS := Lib.hid (HS.out.ext b3)
  have HB := Lib.hid ((b1.trans b2).trans b3)
  clear hok b1 b2 b3
  cases ok with
  | false =>
    go_wp2_with (first | (at_builtin; refine catRec rfl rfl rfl rfl (HG.out.1.ext ((Ext.refl _).alloc _)) (SlOf.lit _ _ _ _ [⟨0, 0⟩] rfl) (by simp; omega) (by have := HG.out.2.size; simp at this ⊢; omega) ?_; intro v'' w5 hrow2 hg2; have HG2 := Lib.hid (And.intro hrow2 hg2); clear hrow2 hg2) | (at_builtin; refine catRec rfl rfl rfl rfl (Row.made _ _) (HS.out.ext ((Ext.refl _).alloc _)) (by simp; omega) (by simp) ?_; intro v' w4 hrow hg; have HG := Lib.hid (And.intro hrow hg); clear hrow hg))
    refine (impl_LogValid _ HG2.out.1.cell.1 (by simp; omega)).mono ?_
    rw [List.nil_append, logOk_zero]
    rintro e w6 ⟨rfl, b6⟩
    have g1 := ((Ext.refl w3).alloc (.cells #[] 36)).grown HG.out.2 (fun k hk => by injection hk with hk; subst hk; exact Nat.le_refl _)
    have g2 := ((g1.alloc (.cells #[.int .i64 0, .int .i64 0] 36)).grown HG2.out.2 (fun k hk => HG.out.1.block k hk)).trans b6
    clear g1 b6
    go_wp2_with (go_at_call 13; refine (alive_any _).mono ?_; rintro e w7 ⟨rfl, b7⟩)
    go_returns
    exact ⟨rfl, (HB.out.trans g2).trans b7⟩
  | true =>
    have hcut := run_cut_low (P := Tryd.prog) (A := A) (c := c) Tryd.underlying32 kinfo_Rec (xs.length / 2) (by omega : xs.length / 2 ≤ xs.length)
    rw [show ((xs.length / 2 : Nat) : Int) = (xs.length : Int) / 2 from by simp] at hcut
    have hpt := HS.out.part (xs.length / 2) xs.length (by omega) (by omega) hcp.1
    obtain ⟨vc, hvc⟩ : ∃ vc, (Value.slice (if c = xs.length / 2 then A else A.map (·.add (xs.length / 2 * 2))) (xs.length - xs.length / 2) (c - xs.length / 2)) = vc := ⟨_, rfl⟩
    rw [hvc] at hcut hpt
    have HP := Lib.hid hpt.1
    clear hpt hvc
    go_wp2_with (first | (at_builtin; refine catRec rfl rfl rfl rfl (HG.out.1.ext ((Ext.refl _).alloc _)) (SlOf.lit _ _ _ _ [⟨0, 0⟩] rfl) (by simp; omega) (by have := HG.out.2.size; simp at this ⊢; omega) ?_; intro v'' w5 hrow2 hg2; have HG2 := Lib.hid (And.intro hrow2 hg2); clear hrow2 hg2) | (at_builtin; refine catRec rfl rfl rfl rfl (Row.made _ _) (HS.out.ext ((Ext.refl _).alloc _)) (by simp; omega) (by simp) ?_; intro v' w4 hrow hg; have HG := Lib.hid (And.intro hrow hg); clear hrow hg))
    refine (impl_LogValid _ HG2.out.1.cell.1 (by simp; omega)).mono ?_
    rw [List.nil_append, logOk_zero]
    rintro e w6 ⟨rfl, b6⟩
    have g1 := ((Ext.refl w3).alloc (.cells #[] 36)).grown HG.out.2 (fun k hk => by injection hk with hk; subst hk; exact Nat.le_refl _)
    have g2 := ((g1.alloc (.cells #[.int .i64 0, .int .i64 0] 36)).grown HG2.out.2 (fun k hk => HG.out.1.block k hk)).trans b6
    clear g1 b6
    go_wp2_with fail
    refine (impl_LogValid _ (HP.out.ext g2) (by rw [part_len (Nat.le_refl _)]; omega)).mono ?_
    rw [logOk_part HK.out _ (by omega)]
    rintro e w8 ⟨rfl, b8⟩
    clear hcut
    go_wp2_with (go_at_call 13; refine (alive_any _).mono ?_; rintro e w7 ⟨rfl, b7⟩)
    go_returns
    exact ⟨rfl, ((HB.out.trans g2).trans b8).trans b7⟩
end Go.Proofs.YtcmakjhpfgeenaaDoor
