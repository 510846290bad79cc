/- The walk of laws.FnVotesValid: it answers true. -/
import Derived.Test.YtcmakjhpfgeenaaDoorVote
import Derived.Test.YtcmakjhpfgeenaaDoorDrawVote
import Derived.Test.YtcmakjhpfgeenaaDoorAlive
import Derived.Test.YtcmakjhpfgeenaaDoorCut
namespace Go.Proofs.YtcmakjhpfgeenaaDoor
open Go.RowKit

theorem votesOk_more (xs : List Vote) : votesOk (xs ++ [⟨0, 1⟩]) = false :=
  votesOk_bad (k := xs.length) (by simp) (goodVote_0 (x := ⟨0, 1⟩) (by simp) rfl (by simp))
theorem votesOk_part {xs : List Vote} (h : votesOk xs = true) (h1 : xs.length ≠ 1) : votesOk (part xs 1 xs.length) = true := by
  unfold votesOk at *
  rw [Bool.and_eq_true] at h
  obtain ⟨h2, h3⟩ := h
  have h4 := (allGood_true.1 h2).1
  have h5 := inB_true.1 h3
  have hl := part_len (xs := xs) (lo := 1) (Nat.le_refl xs.length)
  rw [Bool.and_eq_true]
  refine ⟨allGood_true.2 ⟨fun i hi => ?_, Nat.le_refl _⟩, inB_true.2 (by rw [hl]; omega)⟩
  rw [hl] at hi
  have h6 := h4 (1 + i) (by omega)
  have hg : ∀ j, j ≤ i → (part xs 1 xs.length)[j]? = xs[1 + j]? := fun j hj => by rw [part_get, if_pos (by omega)]
  unfold goodVote at *
  rw [hg i (Nat.le_refl _)]
  cases hx : xs[1 + i]? with
  | none => rfl
  | some x =>
    rw [hx] at h6
    simp only [Bool.and_eq_true, List.all_eq_true] at h6 ⊢
    refine ⟨h6.1, h6.2.1, h6.2.2.1, fun j hj => ?_⟩
    simp only [List.mem_range] at hj
    have := h6.2.2.2 (1 + j) (by simp; omega)
    unfold voteAgree at *
    rw [hg j (by omega)]
    exact this
set_option maxHeartbeats 2000000 in
theorem law_FnVotesValid (w : World) {v0 : Value} {xs0 : List Int} (s0 : Sl1 encU w v0 xs0) (l0 : xs0.length ≤ 9223372036854775807) (f0 : ∀ x ∈ xs0, 0 ≤ x ∧ x ≤ 255) (k0 : ∀ A n c, v0 = .slice A n c → n ≤ c ∧ c ≤ 9223372036854775807) :
    Calls Tryd.prog 8 #[v0] w fun e w' => e = .returned (.bool true) ∧ Ext w w' := by
  obtain ⟨A0, c0, hv0, _⟩ := id s0
  by_cases hl : xs0.length ≤ 1048576
  case neg =>
    subst hv0
    have hl' : 1048576 < xs0.length := by omega
    clear hl s0 f0 k0
    go_enter Tryd.func8, Tryd.ntmps8
    go_wp2
    go_returns
    exact ⟨rfl, Ext.refl _⟩
  have HC := Lib.hid (⟨xs0, s0, f0, hl, k0⟩ : CodeIn w v0)
  subst hv0
  clear s0 f0 k0
  go_enter Tryd.func8, Tryd.ntmps8
  go_wp2_with fail
  refine (DrawVotesValid_any _ HC.out).mono ?_
  rintro e w1 ⟨u, xs, rfl, hrow, hphi, b1⟩
  have hlen := hphi.1
  have HS := Lib.hid hrow.1
  have hcap := hrow.2.2
  obtain ⟨A, c, rfl, _⟩ := id HS.out
  have hcp := hcap _ _ _ rfl
  clear hcap hphi hrow
  obtain ⟨ok, hok⟩ : ∃ ok, votesOk xs = ok := ⟨_, rfl⟩
  have HK := Lib.hid hok
  go_wp2_with fail
  refine (impl_VotesValid _ HS.out (by omega)).mono ?_
  rw [hok]
  rintro e w2 ⟨rfl, b2⟩
  replace HS := Lib.hid (HS.out.ext b2)
  go_wp2_with fail
  refine (spec_VotesValid _ HS.out (by omega)).mono ?_
  rw [hok]
  rintro e w3 ⟨rfl, b3⟩
  replace HS := Lib.hid (HS.out.ext b3)
  have HB := Lib.hid ((b1.trans b2).trans b3)
  clear hok b1 b2 b3
  cases ok with
  | false =>
    go_wp2_with (first | (at_builtin; refine catVote rfl rfl rfl rfl (HG.out.1.ext ((Ext.refl _).alloc _)) (SlOf.lit _ _ _ _ [⟨0, 1⟩] rfl) (by simp; omega) (by have := HG.out.2.size; simp at this ⊢; omega) ?_; intro v'' w5 hrow2 hg2; have HG2 := Lib.hid (And.intro hrow2 hg2); clear hrow2 hg2) | (at_builtin; refine catVote rfl rfl rfl rfl (Row.made _ _) (HS.out.ext ((Ext.refl _).alloc _)) (by simp; omega) (by simp) ?_; intro v' w4 hrow hg; have HG := Lib.hid (And.intro hrow hg); clear hrow hg))
    refine (impl_VotesValid _ HG2.out.1.cell.1 (by simp; omega)).mono ?_
    rw [List.nil_append, votesOk_more]
    rintro e w6 ⟨rfl, b6⟩
    have g1 := ((Ext.refl w3).alloc (.cells #[] 49)).grown HG.out.2 (fun k hk => by injection hk with hk; subst hk; exact Nat.le_refl _)
    have g2 := ((g1.alloc (.cells #[.int .i64 0, .int .i64 1] 49)).grown HG2.out.2 (fun k hk => HG.out.1.block k hk)).trans b6
    clear g1 b6
    go_wp2_with (go_at_call 13; refine (alive_any _).mono ?_; rintro e w7 ⟨rfl, b7⟩)
    go_returns
    exact ⟨rfl, (HB.out.trans g2).trans b7⟩
  | true =>
    have h17 := inB_true.1 (Bool.and_eq_true_iff.1 HK.out).2
    by_cases h1 : xs.length = 1
    · have g1 : ((xs.length : Int) == 1) = true := by simp [h1]
      clear h1
      go_wp2_with (first | (at_builtin; refine catVote rfl rfl rfl rfl (HG.out.1.ext ((Ext.refl _).alloc _)) (SlOf.lit _ _ _ _ [⟨0, 1⟩] rfl) (by simp; omega) (by have := HG.out.2.size; simp at this ⊢; omega) ?_; intro v'' w5 hrow2 hg2; have HG2 := Lib.hid (And.intro hrow2 hg2); clear hrow2 hg2) | (at_builtin; refine catVote rfl rfl rfl rfl (Row.made _ _) (HS.out.ext ((Ext.refl _).alloc _)) (by simp; omega) (by simp) ?_; intro v' w4 hrow hg; have HG := Lib.hid (And.intro hrow hg); clear hrow hg))
      refine (impl_VotesValid _ HG2.out.1.cell.1 (by simp; omega)).mono ?_
      rw [List.nil_append, votesOk_more]
      rintro e w6 ⟨rfl, b6⟩
      have gg1 := ((Ext.refl w3).alloc (.cells #[] 49)).grown HG.out.2 (fun k hk => by injection hk with hk; subst hk; exact Nat.le_refl _)
      have g2 := ((gg1.alloc (.cells #[.int .i64 0, .int .i64 1] 49)).grown HG2.out.2 (fun k hk => HG.out.1.block k hk)).trans b6
      clear gg1 b6
      go_wp2_with (go_at_call 13; refine (alive_any _).mono ?_; rintro e w7 ⟨rfl, b7⟩)
      go_returns
      exact ⟨rfl, (HB.out.trans g2).trans b7⟩
    · have g1 : ((xs.length : Int) == 1) = false := beq_eq_false_iff_ne.2 (by omega)
      have hcut := run_cut_low (P := Tryd.prog) (A := A) (c := c) Tryd.underlying45 kinfo_Vote (1) (by omega : 1 ≤ xs.length)
      rw [show ((1 : Nat) : Int) = 1 from by simp] at hcut
      have hpt := HS.out.part (1) xs.length (by omega) (by omega) hcp.1
      obtain ⟨vc, hvc⟩ : ∃ vc, (Value.slice (if c = 1 then A else A.map (·.add ((1) * 2))) (xs.length - 1) (c - 1)) = vc := ⟨_, rfl⟩
      rw [hvc] at hcut hpt
      have HP := Lib.hid hpt.1
      clear hpt hvc
      go_wp2_with (first | (at_builtin; refine catVote rfl rfl rfl rfl (HG.out.1.ext ((Ext.refl _).alloc _)) (SlOf.lit _ _ _ _ [⟨0, 1⟩] rfl) (by simp; omega) (by have := HG.out.2.size; simp at this ⊢; omega) ?_; intro v'' w5 hrow2 hg2; have HG2 := Lib.hid (And.intro hrow2 hg2); clear hrow2 hg2) | (at_builtin; refine catVote rfl rfl rfl rfl (Row.made _ _) (HS.out.ext ((Ext.refl _).alloc _)) (by simp; omega) (by simp) ?_; intro v' w4 hrow hg; have HG := Lib.hid (And.intro hrow hg); clear hrow hg))
      refine (impl_VotesValid _ HG2.out.1.cell.1 (by simp; omega)).mono ?_
      rw [List.nil_append, votesOk_more]
      rintro e w6 ⟨rfl, b6⟩
      have gg1 := ((Ext.refl w3).alloc (.cells #[] 49)).grown HG.out.2 (fun k hk => by injection hk with hk; subst hk; exact Nat.le_refl _)
      have g2 := ((gg1.alloc (.cells #[.int .i64 0, .int .i64 1] 49)).grown HG2.out.2 (fun k hk => HG.out.1.block k hk)).trans b6
      clear gg1 b6
      go_wp2_with fail
      refine (impl_VotesValid _ (HP.out.ext g2) (by rw [part_len (by omega)]; omega)).mono ?_
      rw [votesOk_part HK.out h1]
      rintro e w8 ⟨rfl, b8⟩
      clear hcut
      go_wp2_with (go_at_call 13; refine (alive_any _).mono ?_; rintro e w7 ⟨rfl, b7⟩)
      go_returns
      exact ⟨rfl, ((HB.out.trans g2).trans b8).trans b7⟩
end Go.Proofs.YtcmakjhpfgeenaaDoor
