/- The walk of laws.FnHoldsValid: it answers true. -/
import Derived.Test.YtiakkgpkkpaldaaDoorHold
import Derived.Test.YtiakkgpkkpaldaaDoorDrawHolds
import Derived.Test.YtiakkgpkkpaldaaDoorAlive
import Derived.Test.YtiakkgpkkpaldaaDoorCut
namespace Go.Proofs.YtiakkgpkkpaldaaDoor
open Go.RowKit
set_option maxRecDepth 8000

theorem holdsOk_part {xs : List Hold} (h : holdsOk xs = true) (lo : Nat) (hl : lo ≤ xs.length) : holdsOk (part xs lo xs.length) = true := by
  obtain ⟨h1, h2⟩ := allGood_true.1 h
  refine allGood_true.2 ⟨fun i hi => ?_, by rw [part_len (Nat.le_refl _)]; omega⟩
  rw [part_len (Nat.le_refl _)] at hi
  have h3 := h1 (lo + i) (by omega)
  obtain ⟨x, hx⟩ := at_some (show lo + i < xs.length by omega)
  have hp : (part xs lo xs.length)[i]? = some x := by rw [part_get, if_pos (by omega), hx]
  rw [goodHold_at hx] at h3
  rw [goodHold_at hp]
  simp only [Bool.and_eq_true, Bool.not_eq_true', Bool.and_eq_false_iff] at h3 ⊢
  refine ⟨h3.1, h3.2.1, h3.2.2.imp id fun ha => ?_⟩
  refine any_take_end fun j y hj hy => ?_
  rw [part_get, if_pos (by omega)] at hy
  cases hc : clashB x y with
  | false => rfl
  | true => rw [any_take_bad hy (show lo + j < lo + i by omega) hc] at ha; cases ha
theorem holdsOk_two (xs : List Hold) : holdsOk (xs ++ [⟨0, 1, true, true⟩, ⟨1, 1, false, true⟩]) = false := by
  refine allGood_bad (k := xs.length + 1) (by simp) ?_
  have hx : (xs ++ [⟨0, 1, true, true⟩, ⟨1, 1, false, true⟩])[xs.length + 1]? = some (⟨1, 1, false, true⟩ : Hold) := by
    rw [List.getElem?_append_right (by omega)]; simp
  have hy : (xs ++ [⟨0, 1, true, true⟩, ⟨1, 1, false, true⟩])[xs.length]? = some (⟨0, 1, true, true⟩ : Hold) := by
    rw [List.getElem?_append_right (by omega)]; simp
  rw [goodHold_at hx, any_take_bad hy (by omega) (by decide)]
  decide
set_option maxHeartbeats 2000000 in
theorem law_FnHoldsValid (w : World) {v0 : Value} {xs0 : List Int} (s0 : Sl1 encU w v0 xs0) (l0 : xs0.length ≤ 9223372036854775807) (f0 : ∀ x ∈ xs0, 0 ≤ x ∧ x ≤ 255) (k0 : ∀ A n c, v0 = .slice A n c → n ≤ c ∧ c ≤ 9223372036854775807) :
    Calls Tryd.prog 3 #[v0] w fun e w' => e = .returned (.bool true) ∧ Ext w w' := by
  obtain ⟨A0, c0, hv0, _⟩ := id s0
  by_cases hl : xs0.length ≤ 1048576
  case neg =>
    subst hv0
    have hl' : 1048576 < xs0.length := by omega
    clear hl s0 f0 k0
    go_enter Tryd.func3, Tryd.ntmps3
    go_wp2
    go_returns
    exact ⟨rfl, Ext.refl _⟩
  have HC := Lib.hid (⟨xs0, s0, f0, hl, k0⟩ : CodeIn w v0)
  subst hv0
  clear s0 f0 k0
  go_enter Tryd.func3, Tryd.ntmps3
  go_wp2_with fail
  refine (DrawHoldsValid_any _ HC.out).mono ?_
  rintro e w1 ⟨u, xs, rfl, hrow, hphi, b1⟩
  have hlen : xs.length ≤ 12 := hphi
  have HS := Lib.hid hrow.1
  have hcap := hrow.2.2
  obtain ⟨A, c, rfl, _⟩ := id HS.out
  have hcp := hcap _ _ _ rfl
  clear hphi hrow
  obtain ⟨ok, hok⟩ : ∃ ok, holdsOk xs = ok := ⟨_, rfl⟩
  have HK := Lib.hid hok
  go_wp2_with fail
  refine (impl_HoldsValid _ HS.out (by omega) hcap).mono ?_
  rw [hok]
  rintro e w2 ⟨rfl, b2⟩
  replace HS := Lib.hid (HS.out.ext b2)
  go_wp2_with fail
  refine (spec_HoldsValid _ HS.out (by omega)).mono ?_
  rw [hok]
  rintro e w3 ⟨rfl, b3⟩
  replace HS := Lib.hid (HS.out.ext b3)
  have HB := Lib.hid ((b1.trans b2).trans b3)
  clear hok b1 b2 b3
  cases ok with
  | false =>
    go_wp2_with (first | (at_builtin; refine catHold rfl rfl rfl rfl (HG.out.1.ext ((Ext.refl _).alloc _)) (SlOf.lit _ _ _ _ [⟨0, 1, true, true⟩, ⟨1, 1, false, true⟩] rfl) (by simp; omega) (by have := HG.out.2.size; simp at this ⊢; omega) ?_; intro v'' w5 hrow2 hg2; have HG2 := Lib.hid (And.intro hrow2 hg2); clear hrow2 hg2) | (at_builtin; refine catHold rfl rfl rfl rfl (Row.made _ _) (HS.out.ext ((Ext.refl _).alloc _)) (by simp; omega) (by simp) ?_; intro v' w4 hrow hg; have HG := Lib.hid (And.intro hrow hg); clear hrow hg))
    refine (impl_HoldsValid _ HG2.out.1.cell.1 (by simp; omega) HG2.out.1.cap).mono ?_
    rw [List.nil_append, holdsOk_two]
    rintro e w6 ⟨rfl, b6⟩
    have g1 := ((Ext.refl w3).alloc (.cells #[] 27)).grown HG.out.2 (fun k hk => by injection hk with hk; subst hk; exact Nat.le_refl _)
    have g2 := ((g1.alloc (.cells #[.int .i64 0, .int .i64 1, .bool true, .bool true, .int .i64 1, .int .i64 1, .bool false, .bool true] 27)).grown HG2.out.2 (fun k hk => HG.out.1.block k hk)).trans b6
    clear g1 b6
    go_wp2_with (go_at_call 12; refine (alive_any _).mono ?_; rintro e w7 ⟨rfl, b7⟩)
    go_returns
    exact ⟨rfl, (HB.out.trans g2).trans b7⟩
  | true =>
    have hcut := run_cut_low (P := Tryd.prog) (A := A) (c := c) Tryd.underlying23 kinfo_Hold (xs.length / 2) (by omega : xs.length / 2 ≤ xs.length)
    rw [show ((xs.length / 2 : Nat) : Int) = (xs.length : Int) / 2 from by simp] at hcut
    have hpt := HS.out.part (xs.length / 2) xs.length (by omega) (by omega) hcp.1
    obtain ⟨vc, hvc⟩ : ∃ vc, (Value.slice (if c = xs.length / 2 then A else A.map (·.add (xs.length / 2 * 4))) (xs.length - xs.length / 2) (c - xs.length / 2)) = vc := ⟨_, rfl⟩
    have HPC : Hid (∀ A n c, vc = .slice A n c → n ≤ c ∧ c ≤ 9223372036854775807) := fun A' n' c' he => by rw [← hvc] at he; injection he with _ e2 e3; omega
    rw [hvc] at hcut hpt
    have HP := Lib.hid hpt.1
    clear hpt hvc
    go_wp2_with (first | (at_builtin; refine catHold rfl rfl rfl rfl (HG.out.1.ext ((Ext.refl _).alloc _)) (SlOf.lit _ _ _ _ [⟨0, 1, true, true⟩, ⟨1, 1, false, true⟩] rfl) (by simp; omega) (by have := HG.out.2.size; simp at this ⊢; omega) ?_; intro v'' w5 hrow2 hg2; have HG2 := Lib.hid (And.intro hrow2 hg2); clear hrow2 hg2) | (at_builtin; refine catHold rfl rfl rfl rfl (Row.made _ _) (HS.out.ext ((Ext.refl _).alloc _)) (by simp; omega) (by simp) ?_; intro v' w4 hrow hg; have HG := Lib.hid (And.intro hrow hg); clear hrow hg))
    refine (impl_HoldsValid _ HG2.out.1.cell.1 (by simp; omega) HG2.out.1.cap).mono ?_
    rw [List.nil_append, holdsOk_two]
    rintro e w6 ⟨rfl, b6⟩
    have g1 := ((Ext.refl w3).alloc (.cells #[] 27)).grown HG.out.2 (fun k hk => by injection hk with hk; subst hk; exact Nat.le_refl _)
    have g2 := ((g1.alloc (.cells #[.int .i64 0, .int .i64 1, .bool true, .bool true, .int .i64 1, .int .i64 1, .bool false, .bool true] 27)).grown HG2.out.2 (fun k hk => HG.out.1.block k hk)).trans b6
    clear g1 b6
    go_wp2_with fail
    refine (impl_HoldsValid _ (HP.out.ext g2) (by rw [part_len (Nat.le_refl _)]; omega) HPC.out).mono ?_
    rw [holdsOk_part HK.out _ (by omega)]
    rintro e w8 ⟨rfl, b8⟩
    clear hcut
    go_wp2_with (go_at_call 12; refine (alive_any _).mono ?_; rintro e w7 ⟨rfl, b7⟩)
    go_returns
    exact ⟨rfl, ((HB.out.trans g2).trans b8).trans b7⟩
end Go.Proofs.YtiakkgpkkpaldaaDoor
