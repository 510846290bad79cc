/- The walk of laws.FnObjectRight: it answers true. -/
import Derived.Test.YtackknkfcbnklaaDoorDrawObjR
import Derived.Test.YtackknkfcbnklaaDoorObjCount
import Derived.Test.YtackknkfcbnklaaDoorSameD
import Derived.Test.YtackknkfcbnklaaDoorAlive
namespace Go.Proofs.YtackknkfcbnklaaDoor
open Go.RowKit
set_option maxRecDepth 8000

theorem objL_first {k : Int} {xs : List Int} (h1 : okCalls xs = true) (h2 : inB k 1 3 = true) (hn : 0 < xs.length) : ∃ x0, (objL k xs)[0]? = some x0 ∧ (x0 = 0 ∨ x0 = -1) := by
  obtain ⟨x, hx⟩ := at_some hn
  rw [objL_yes h1 h2]
  refine ⟨_, runO_at hx, ?_⟩
  unfold ansOf
  split
  · exact .inl rfl
  · rw [if_pos (by simp [runO])]; exact .inr rfl
set_option maxHeartbeats 8000000 in
theorem law_FnObjectRight (w : World) {v0 : Value} {xs0 : List Int} (s0 : Sl1 encU w v0 xs0) (l0 : xs0.length ≤ 9223372036854775807) (f0 : ∀ x ∈ xs0, 0 ≤ x ∧ x ≤ 255) (k0 : ∀ A n c, v0 = .slice A n c → n ≤ c ∧ c ≤ 9223372036854775807) :
    Calls Tryd.prog 4 #[v0] w fun e w' => e = .returned (.bool true) ∧ Ext w w' := by
  obtain ⟨A0, c0, hv0, _⟩ := id s0
  by_cases hl : xs0.length ≤ 1048576
  case neg =>
    subst hv0
    have hl' : 1048576 < xs0.length := by omega
    clear hl s0 f0 k0
    go_enter Tryd.func4, Tryd.ntmps4
    go_wp2
    go_returns
    exact ⟨rfl, Ext.refl _⟩
  have HC := Lib.hid (⟨xs0, s0, f0, hl, k0⟩ : CodeIn w v0)
  subst hv0
  clear s0 f0 k0
  go_enter Tryd.func4, Tryd.ntmps4
  go_wp2_with fail
  refine (DrawObjectRight_any _ HC.out).mono ?_
  rintro e w1 ⟨v, xs, u, ys, k, rfl, hv, hu, hx, hyl, b1⟩
  have hxl : xs.length ≤ 21 := hx
  have HV := Lib.hid hv.1.to1
  have HU := Lib.hid hu.1.to1
  have HB := Lib.hid b1
  clear hv hu hx b1
  obtain ⟨ok, hok⟩ : ∃ ok, rightL k xs ys = ok := ⟨_, rfl⟩
  have hbb : (ok != ok) = false := by cases ok <;> rfl
  have HOK := Lib.hid hok
  clear hok
  go_wp2_with fail
  refine (impl_ObjectRight k _ HV.out HU.out).mono ?_
  rw [HOK.out]
  rintro e w2 ⟨rfl, b2⟩
  replace HV := Lib.hid (HV.out.ext b2)
  replace HU := Lib.hid (HU.out.ext b2)
  replace HB := Lib.hid (HB.out.trans b2)
  clear b2
  go_wp2_with fail
  refine (spec_ObjectRight k _ HV.out HU.out (by omega) (by omega)).mono ?_
  rw [HOK.out]
  rintro e w3 ⟨rfl, b3⟩
  replace HV := Lib.hid (HV.out.ext b3)
  replace HU := Lib.hid (HU.out.ext b3)
  replace HB := Lib.hid (HB.out.trans b3)
  clear b3
  go_wp2_with fail
  refine (impl_ObjectRun k _ HV.out).mono ?_
  rintro e w4 ⟨v4, rfl, s4, -, b4⟩
  replace HV := Lib.hid (HV.out.ext b4)
  replace HU := Lib.hid (HU.out.ext b4)
  replace HB := Lib.hid (HB.out.trans b4)
  have HS := Lib.hid s4
  clear b4 s4
  obtain ⟨A2, c2, rfl, -⟩ := HS.out
  by_cases h0 : (objL k xs).length = 0
  · rw [h0]
    clear h0
    go_wp2_with (go_at_call 10; refine (alive_any _).mono ?_; rintro e w8 ⟨rfl, b8⟩)
    go_returns
    exact ⟨rfl, HB.out.trans b8⟩
  have hgood : okCalls xs = true ∧ inB k 1 3 = true := by
    by_cases h : okCalls xs = true ∧ inB k 1 3 = true
    · exact h
    · rw [objL_no h] at h0; exact absurd rfl h0
  have hRl := objL_len k xs
  obtain ⟨x0, hx0, hx01⟩ := objL_first hgood.1 hgood.2 (by have := objL_full hgood.1 hgood.2; omega)
  have HRR : Hid (∀ zs, rightL k xs zs = decide (objL k xs = zs)) := fun zs => by simp [rightL, hgood.1, hgood.2]
  obtain ⟨R, hR⟩ : ∃ R, objL k xs = R := ⟨_, rfl⟩
  rw [hR] at HRR HS hx0 hRl h0
  rw [hR]
  have hn0 : ((R.length : Int) == 0) = false := by rw [beq_eq_false_iff_ne]; omega
  have hr0 : 0 < R.length := by omega
  have HX0 := Lib.hid hx0
  clear hgood hR h0 hx0
  obtain ⟨v9, w9, hrun, hrow, hg⟩ := run_cat (P := Tryd.prog) (t := 23) (ty := 23) (e := 3) Tryd.underlying23 qinfo rfl (by omega) (Row.made (m := 1) (enc := one encI) w4 3) ((HS.out.of_).ext ((Ext.refl w4).alloc (.cells #[] 3))) (fun x _ j => rfl) (by simp; omega) (by omega) (by simp)
  rw [List.nil_append] at hrow
  have hq9 := QRow.of_row hrow
  have he9 : Ext w4 w9 := Ext.grown ((Ext.refl w4).alloc (.cells #[] 3)) hg (fun k hk => by injection hk with hk; subst hk; exact Nat.le_refl _)
  obtain ⟨g, off, c9, rfl, -, -, hcells, hfro⟩ := hq9.slot hr0
  have d0 := hcells 0 _ HX0.out
  rw [Nat.add_zero] at d0
  have f0' := hfro off
  have hgb := (hq9.lt rfl).2.1
  obtain ⟨z, hz⟩ : ∃ z, x0 + 1 = z := ⟨_, rfl⟩
  have hqz := hq9.put hr0 z
  rw [Nat.add_zero] at hqz
  have HRUN := Lib.hid hrun
  have HQZ := Lib.hid hqz.sl1
  have HEZ := Lib.hid (he9.setCell (p := ⟨g, off, none⟩) hgb (.int .i64 z))
  have HNE : Hid (R ≠ R.set 0 z) := by
    show _ ≠ _
    intro e
    have h1 : (R.set 0 z)[0]? = some z := by rw [List.getElem?_set]; simp [hr0]
    rw [← e, HX0.out] at h1
    injection h1 with h1
    omega
  clear hrow hq9 he9 hcells hfro hgb hqz hrun hg
  have hz1 : (x0 = 0 ∧ z = 1) ∨ (x0 = -1 ∧ z = 0) := by omega
  clear hx01 hz
  rcases hz1 with ⟨rfl, rfl⟩ | ⟨rfl, rfl⟩
  all_goals
    go_wp2_with (at_builtin; refine wpList_append_run rfl rfl rfl rfl HRUN.out ?_)
    refine (impl_ObjectRight k _ (HV.out.ext HEZ.out) (HS.out.ext HEZ.out)).mono ?_
    rw [HRR.out, decide_eq_true rfl]
    rintro e w5 ⟨rfl, b5⟩
    have HB5 := Lib.hid b5
    clear b5
    go_wp2_with fail
    refine (impl_ObjectRight k _ ((HV.out.ext HEZ.out).ext HB5.out) (HQZ.out.ext HB5.out)).mono ?_
    rw [HRR.out, decide_eq_false HNE.out]
    rintro e w6 ⟨rfl, b6⟩
    have HB6 := Lib.hid (HB5.out.trans b6)
    clear b6
    go_wp2_with fail
    refine (sameInts_dec _ ((HU.out.ext HEZ.out).ext HB6.out) ((HS.out.ext HEZ.out).ext HB6.out) (by omega)).mono ?_
    have hsame : decide (ys = R) = ok := by
      rw [← HOK.out, HRR.out]
      exact decide_eq_decide.2 ⟨fun h => h.symm, fun h => h.symm⟩
    rw [hsame]
    rintro e w7 ⟨rfl, b7⟩
    have heq : (ok == ok) = true := by simp
    clear hbb hsame
    go_wp2
    go_returns
    exact ⟨rfl, ((HB.out.trans HEZ.out).trans HB6.out).trans b7⟩
end Go.Proofs.YtackknkfcbnklaaDoor
