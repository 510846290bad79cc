/- The walk of laws.FnRedoValid: it answers true. -/
import Derived.Test.YtcmakjhpfgeenaaDoorRedo
import Derived.Test.YtcmakjhpfgeenaaDoorDrawRedo
import Derived.Test.YtcmakjhpfgeenaaDoorAlive
import Derived.Test.YtcmakjhpfgeenaaDoorCut
namespace Go.Proofs.YtcmakjhpfgeenaaDoor
open Go.RowKit

theorem redoOk_more (xs : List Redo) : redoOk (xs ++ [⟨0, -1, 0⟩, ⟨0, 0, 1⟩]) = false := by
  unfold redoOk
  refine allGood_bad (k := xs.length + 1) (by simp) ?_
  exact goodRedo_j (j := xs.length) (x := ⟨0, 0, 1⟩) (y := ⟨0, -1, 0⟩) (by rw [List.getElem?_append_right (by omega)]; simp) (by rw [List.getElem?_append_right (by omega)]; simp) (by omega) rfl rfl
theorem redoOk_part {xs : List Redo} (h : redoOk xs = true) (hi : Nat) (hl : hi ≤ xs.length) : redoOk (part xs 0 hi) = true := by
  obtain ⟨h1, h2⟩ := allGood_true.1 h
  refine allGood_true.2 ⟨fun i hi' => ?_, by rw [part_len hl]; omega⟩
  rw [part_len hl] at hi'
  have h3 := h1 i (by omega)
  have hg : ∀ j, j ≤ i → (part xs 0 hi)[j]? = xs[j]? := fun j hj => by rw [part_get, if_pos (by omega), Nat.zero_add]
  unfold goodRedo at *
  rw [hg i (Nat.le_refl _)]
  cases hx : xs[i]? with
  | none => rfl
  | some x =>
    rw [hx] at h3
    simp only [Bool.and_eq_true, List.all_eq_true] at h3 ⊢
    refine ⟨h3.1, h3.2.1, h3.2.2.1, h3.2.2.2.1, fun j hj => ?_⟩
    have := h3.2.2.2.2 j hj
    simp only [List.mem_range] at hj
    unfold redoAgree at *
    rw [hg j (by omega)]
    exact this
set_option maxHeartbeats 2000000 in
theorem law_FnRedoValid (w : World) {v0 : Value} {xs0 : List Int} (s0 : Sl1 encU w v0 xs0) (l0 : xs0.length ≤ 9223372036854775807) (f0 : ∀ x ∈ xs0, 0 ≤ x ∧ x ≤ 255) (k0 : ∀ A n c, v0 = .slice A n c → n ≤ c ∧ c ≤ 9223372036854775807) :
    Calls Tryd.prog 9 #[v0] w fun e w' => e = .returned (.bool true) ∧ Ext w w' := by
  obtain ⟨A0, c0, hv0, _⟩ := id s0
  by_cases hl : xs0.length ≤ 1048576
  case neg =>
    subst hv0
    have hl' : 1048576 < xs0.length := by omega
    clear hl s0 f0 k0
    go_enter Tryd.func9, Tryd.ntmps9
    go_wp2
    go_returns
    exact ⟨rfl, Ext.refl _⟩
  have HC := Lib.hid (⟨xs0, s0, f0, hl, k0⟩ : CodeIn w v0)
  subst hv0
  clear s0 f0 k0
  go_enter Tryd.func9, Tryd.ntmps9
  go_wp2_with fail
  refine (DrawRedoValid_any _ HC.out).mono ?_
  rintro e w1 ⟨u, xs, rfl, hrow, hphi, b1⟩
  have hlen := hphi.1
  have HS := Lib.hid hrow.1
  have hcap := hrow.2.2
  obtain ⟨A, c, rfl, _⟩ := id HS.out
  have hcp := hcap _ _ _ rfl
  clear hcap hphi hrow
  obtain ⟨ok, hok⟩ : ∃ ok, redoOk xs = ok := ⟨_, rfl⟩
  have HK := Lib.hid hok
  go_wp2_with fail
  refine (impl_RedoValid _ HS.out (by omega)).mono ?_
  rw [hok]
  rintro e w2 ⟨rfl, b2⟩
  replace HS := Lib.hid (HS.out.ext b2)
  go_wp2_with fail
  refine (spec_RedoValid _ HS.out (by omega)).mono ?_
  rw [hok]
  rintro e w3 ⟨rfl, b3⟩
  replace HS := Lib.hid (HS.out.ext b3)
  have HB := Lib.hid ((b1.trans b2).trans b3)
  clear hok b1 b2 b3
  cases ok with
  | false =>
    go_wp2_with (first | (at_builtin; refine catRedo rfl rfl rfl rfl (HG.out.1.ext ((Ext.refl _).alloc _)) (SlOf.lit _ _ _ _ [⟨0, -1, 0⟩, ⟨0, 0, 1⟩] rfl) (by simp; omega) (by have := HG.out.2.size; simp at this ⊢; omega) ?_; intro v'' w5 hrow2 hg2; have HG2 := Lib.hid (And.intro hrow2 hg2); clear hrow2 hg2) | (at_builtin; refine catRedo rfl rfl rfl rfl (Row.made _ _) (HS.out.ext ((Ext.refl _).alloc _)) (by simp; omega) (by simp) ?_; intro v' w4 hrow hg; have HG := Lib.hid (And.intro hrow hg); clear hrow hg))
    refine (impl_RedoValid _ HG2.out.1.cell.1 (by simp; omega)).mono ?_
    rw [List.nil_append, redoOk_more]
    rintro e w6 ⟨rfl, b6⟩
    have g1 := ((Ext.refl w3).alloc (.cells #[] 54)).grown HG.out.2 (fun k hk => by injection hk with hk; subst hk; exact Nat.le_refl _)
    have g2 := ((g1.alloc (.cells #[.int .i64 0, .int .i64 (-1), .int .i64 0, .int .i64 0, .int .i64 0, .int .i64 1] 54)).grown HG2.out.2 (fun k hk => HG.out.1.block k hk)).trans b6
    clear g1 b6
    go_wp2_with (go_at_call 13; refine (alive_any _).mono ?_; rintro e w7 ⟨rfl, b7⟩)
    go_returns
    exact ⟨rfl, (HB.out.trans g2).trans b7⟩
  | true =>
    have hcut := run_cut_high (P := Tryd.prog) (A := A) (n := xs.length) (c := c) Tryd.underlying50 kinfo_Redo (xs.length / 2) (by have := hcp.1; omega)
    rw [show ((xs.length / 2 : Nat) : Int) = (xs.length : Int) / 2 from by simp] at hcut
    have hpt := HS.out.part 0 (xs.length / 2) (by omega) (by omega) hcp.1
    obtain ⟨vc, hvc⟩ : ∃ vc, (Value.slice (if c = 0 then A else A.map (·.add (0 * 3))) (xs.length / 2 - 0) (c - 0)) = vc := ⟨_, rfl⟩
    rw [hvc] at hcut hpt
    have HP := Lib.hid hpt.1
    clear hpt hvc
    go_wp2_with (first | (at_builtin; refine catRedo rfl rfl rfl rfl (HG.out.1.ext ((Ext.refl _).alloc _)) (SlOf.lit _ _ _ _ [⟨0, -1, 0⟩, ⟨0, 0, 1⟩] rfl) (by simp; omega) (by have := HG.out.2.size; simp at this ⊢; omega) ?_; intro v'' w5 hrow2 hg2; have HG2 := Lib.hid (And.intro hrow2 hg2); clear hrow2 hg2) | (at_builtin; refine catRedo rfl rfl rfl rfl (Row.made _ _) (HS.out.ext ((Ext.refl _).alloc _)) (by simp; omega) (by simp) ?_; intro v' w4 hrow hg; have HG := Lib.hid (And.intro hrow hg); clear hrow hg))
    refine (impl_RedoValid _ HG2.out.1.cell.1 (by simp; omega)).mono ?_
    rw [List.nil_append, redoOk_more]
    rintro e w6 ⟨rfl, b6⟩
    have g1 := ((Ext.refl w3).alloc (.cells #[] 54)).grown HG.out.2 (fun k hk => by injection hk with hk; subst hk; exact Nat.le_refl _)
    have g2 := ((g1.alloc (.cells #[.int .i64 0, .int .i64 (-1), .int .i64 0, .int .i64 0, .int .i64 0, .int .i64 1] 54)).grown HG2.out.2 (fun k hk => HG.out.1.block k hk)).trans b6
    clear g1 b6
    go_wp2_with fail
    refine (impl_RedoValid _ (HP.out.ext g2) (by rw [part_len (by omega)]; omega)).mono ?_
    rw [redoOk_part HK.out _ (by omega)]
    rintro e w8 ⟨rfl, b8⟩
    clear hcut
    go_wp2_with (go_at_call 13; refine (alive_any _).mono ?_; rintro e w7 ⟨rfl, b7⟩)
    go_returns
    exact ⟨rfl, ((HB.out.trans g2).trans b8).trans b7⟩
end Go.Proofs.YtcmakjhpfgeenaaDoor
