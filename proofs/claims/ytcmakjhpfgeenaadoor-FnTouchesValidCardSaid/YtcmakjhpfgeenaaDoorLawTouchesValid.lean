/- The walk of laws.FnTouchesValid: it answers true. -/
import Derived.Test.YtcmakjhpfgeenaaDoorTouch
import Derived.Test.YtcmakjhpfgeenaaDoorDrawTouch
import Derived.Test.YtcmakjhpfgeenaaDoorAlive
import Derived.Test.YtcmakjhpfgeenaaDoorCut
namespace Go.Proofs.YtcmakjhpfgeenaaDoor
open Go.RowKit

theorem touchesOk_more {xs : List Touch} (h : touchesOk xs = true) (y : Touch) : touchesOk (xs ++ [y]) = false := by
  unfold touchesOk at *
  rw [Bool.and_eq_true, decide_eq_true_eq] at h
  simp [h.1]
theorem touchesOk_new : touchesOk [⟨0, 0⟩, ⟨0, 0⟩, ⟨0, 0⟩] = true := by decide
theorem SlOf.new3 (w : World) (T : TypeId) : SlOf 2 encTouch (w.alloc (.cells #[.int .i64 0, .int .i64 0, .int .i64 0, .int .i64 0, .int .i64 0, .int .i64 0] T)) (.slice (some ⟨w.heap.size, 0, none⟩) 3 3) ([⟨0, 0⟩, ⟨0, 0⟩, ⟨0, 0⟩] : List Touch) :=
  SlOf.lit w _ T 3 ([⟨0, 0⟩, ⟨0, 0⟩, ⟨0, 0⟩] : List Touch) rfl
set_option maxHeartbeats 2000000 in
theorem law_FnTouchesValid (w : World) {v0 : Value} {xs0 : List Int} (s0 : Sl1 encU w v0 xs0) (l0 : xs0.length ≤ 9223372036854775807) (f0 : ∀ x ∈ xs0, 0 ≤ x ∧ x ≤ 255) (k0 : ∀ A n c, v0 = .slice A n c → n ≤ c ∧ c ≤ 9223372036854775807) :
    Calls Tryd.prog 7 #[v0] w fun e w' => e = .returned (.bool true) ∧ Ext w w' := by
  obtain ⟨A0, c0, hv0, _⟩ := id s0
  by_cases hl : xs0.length ≤ 1048576
  case neg =>
    subst hv0
    have hl' : 1048576 < xs0.length := by omega
    clear hl s0 f0 k0
    go_enter Tryd.func7, Tryd.ntmps7
    go_wp2
    go_returns
    exact ⟨rfl, Ext.refl _⟩
  have HC := Lib.hid (⟨xs0, s0, f0, hl, k0⟩ : CodeIn w v0)
  subst hv0
  clear s0 f0 k0
  go_enter Tryd.func7, Tryd.ntmps7
  go_wp2_with fail
  refine (DrawTouchesValid_any _ HC.out).mono ?_
  rintro e w1 ⟨u, xs, rfl, hrow, hphi, b1⟩
  have hlen := hphi.1
  have HS := Lib.hid hrow.1
  have hcap := hrow.2.2
  obtain ⟨A, c, rfl, _⟩ := id HS.out
  have hcp := hcap _ _ _ rfl
  clear hcap hphi hrow
  obtain ⟨ok, hok⟩ : ∃ ok, touchesOk xs = ok := ⟨_, rfl⟩
  have HK := Lib.hid hok
  go_wp2_with fail
  refine (impl_TouchesValid _ HS.out (by omega)).mono ?_
  rw [hok]
  rintro e w2 ⟨rfl, b2⟩
  replace HS := Lib.hid (HS.out.ext b2)
  go_wp2_with fail
  refine (spec_TouchesValid _ HS.out (by omega)).mono ?_
  rw [hok]
  rintro e w3 ⟨rfl, b3⟩
  replace HS := Lib.hid (HS.out.ext b3)
  have HB := Lib.hid ((b1.trans b2).trans b3)
  clear hok b1 b2 b3
  have hmk : ∀ W, (Instr.makeSlice 40 (.int .i64 3) (.int .i64 3)).run Tryd.prog W = .ok (.slice (some ⟨W.heap.size, 0, none⟩) 3 3) (W.alloc (.cells #[.int .i64 0, .int .i64 0, .int .i64 0, .int .i64 0, .int .i64 0, .int .i64 0] 44)) :=
    fun W => by
      have h := run_make_of (P := Tryd.prog) 40 44 Tryd.underlying40 kinfo_Touch 3 (by omega) (by omega) W
      rwa [show madeCells (Value.agg #[.int .i64 0, .int .i64 0]).cells (3 * 2) = #[.int .i64 0, .int .i64 0, .int .i64 0, .int .i64 0, .int .i64 0, .int .i64 0] from by kernel_rfl] at h
  cases ok with
  | false =>
    go_wp2_with fail
    refine (impl_TouchesValid _ (SlOf.new3 _ _) (by simp)).mono ?_
    rw [touchesOk_new]
    rintro e w8 ⟨rfl, b8⟩
    clear hmk
    have HB8 := Lib.hid ((HB.out.alloc _).trans b8)
    clear b8
    go_wp2_with (go_at_call 13; refine (alive_any _).mono ?_; rintro e w7 ⟨rfl, b7⟩)
    go_returns
    exact ⟨rfl, HB8.out.trans b7⟩
  | true =>
    go_wp2_with (first | (at_builtin; refine catTouch rfl rfl rfl rfl (HG.out.1.ext ((Ext.refl _).alloc _)) (SlOf.lit _ _ _ _ [⟨0, 0⟩] rfl) (by simp; omega) (by have := HG.out.2.size; simp at this ⊢; omega) ?_; intro v'' w5 hrow2 hg2; have HG2 := Lib.hid (And.intro hrow2 hg2); clear hrow2 hg2) | (at_builtin; refine catTouch rfl rfl rfl rfl (Row.made _ _) (HS.out.ext ((Ext.refl _).alloc _)) (by simp; omega) (by simp) ?_; intro v' w4 hrow hg; have HG := Lib.hid (And.intro hrow hg); clear hrow hg))
    refine (impl_TouchesValid _ HG2.out.1.cell.1 (by simp; omega)).mono ?_
    rw [List.nil_append, touchesOk_more HK.out]
    rintro e w6 ⟨rfl, b6⟩
    have g1 := ((Ext.refl w3).alloc (.cells #[] 44)).grown HG.out.2 (fun k hk => by injection hk with hk; subst hk; exact Nat.le_refl _)
    have g2 := ((g1.alloc (.cells #[.int .i64 0, .int .i64 0] 44)).grown HG2.out.2 (fun k hk => HG.out.1.block k hk)).trans b6
    clear g1 b6
    go_wp2_with fail
    refine (impl_TouchesValid _ (SlOf.new3 _ _) (by simp)).mono ?_
    rw [touchesOk_new]
    rintro e w8 ⟨rfl, b8⟩
    clear hmk
    have HB8 := Lib.hid (((HB.out.trans g2).alloc _).trans b8)
    clear b8
    go_wp2_with (go_at_call 13; refine (alive_any _).mono ?_; rintro e w7 ⟨rfl, b7⟩)
    go_returns
    exact ⟨rfl, HB8.out.trans b7⟩
end Go.Proofs.YtcmakjhpfgeenaaDoor
