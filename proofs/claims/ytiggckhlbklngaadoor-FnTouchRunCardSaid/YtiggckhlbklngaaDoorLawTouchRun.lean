/- The walk of laws.FnTouchRun: it answers true. -/
import Derived.Test.YtiggckhlbklngaaDoorTouchRunI
import Derived.Test.YtiggckhlbklngaaDoorTouchUp
import Derived.Test.YtiggckhlbklngaaDoorDrawTR
import Derived.Test.YtiggckhlbklngaaDoorAlive
namespace Go.Proofs.YtiggckhlbklngaaDoor
open Go.RowKit
set_option maxRecDepth 8000

theorem touchRunL_third {vs : List Int} (h : touchRunL vs ≠ []) : (touchRunL vs).length = vs.length / 3 ∧ vs.length % 3 = 0 := by
  unfold touchRunL at *
  split at h
  · rename_i hc
    rw [if_pos hc, runT_len]
    exact ⟨rfl, hc.1⟩
  · exact absurd rfl h
set_option maxHeartbeats 8000000 in
theorem law_FnTouchRun (w : World) {v0 : Value} {xs0 : List Int} (s0 : Sl1 encU w v0 xs0) (l0 : xs0.length ≤ 9223372036854775807) (f0 : ∀ x ∈ xs0, 0 ≤ x ∧ x ≤ 255) (k0 : ∀ A n c, v0 = .slice A n c → n ≤ c ∧ c ≤ 9223372036854775807) :
    Calls Tryd.prog 3 #[v0] w fun e w' => e = .returned (.bool true) ∧ Ext w w' := by
  obtain ⟨A0, c0, hv0, _⟩ := id s0
  by_cases hl : xs0.length ≤ 1048576
  case neg =>
    subst hv0
    have hl' : 1048576 < xs0.length := by omega
    clear hl s0 f0 k0
    go_enter Tryd.func3, Tryd.ntmps3
    go_wp2
    go_returns
    exact ⟨rfl, Ext.refl _⟩
  have HC := Lib.hid (⟨xs0, s0, f0, hl, k0⟩ : CodeIn w v0)
  subst hv0
  clear s0 f0 k0
  go_enter Tryd.func3, Tryd.ntmps3
  go_wp2_with fail
  refine (DrawTouchRun_any _ HC.out).mono ?_
  rintro e w1 ⟨u, vs, rfl, hu, hx, b1⟩
  have hlx : vs.length ≤ 28 := hx
  have hcap := hu.2.2
  have hs := hu.1.to1
  have HV := Lib.hid hs
  clear hu hx
  go_wp2_with fail
  refine (impl_TouchRun _ hs (by omega) (fun A n c h => (hcap A n c h).1)).mono ?_
  rintro e w2 ⟨v2, rfl, h2, o2, b2⟩
  replace HV := Lib.hid (HV.out.ext b2)
  go_wp2_with fail
  refine (spec_TouchRun _ HV.out (by omega)).mono ?_
  rintro e w3 ⟨v3, rfl, h3, o3, b3⟩
  replace HV := Lib.hid (HV.out.ext b3)
  have H2 := Lib.hid (h2.ext b3)
  have H3 := Lib.hid h3
  have HB := Lib.hid ((b1.trans b2).trans b3)
  obtain ⟨R, hR⟩ : ∃ R, touchRunL vs = R := ⟨_, rfl⟩
  have HR := Lib.hid hR
  rw [hR] at h2 h3 H2 H3
  have hRl : R.length ≤ 20 := by rw [← hR]; exact touchRunL_len vs
  have hR3 : ∀ k, k < R.length → 3 * k + 2 < vs.length := fun k hk => by
    have h1 := touchRunL_third (vs := vs) (by rw [hR]; intro h; rw [h] at hk; simp at hk)
    rw [hR] at h1
    omega
  have HR3 := Lib.hid hR3
  obtain ⟨A1, c1, rfl, hc1⟩ := HV.out
  obtain ⟨A2, c2, rfl, hc2⟩ := H2.out
  obtain ⟨A3, c3, rfl, hc3⟩ := H3.out
  have HC1 := Lib.hid hc1
  have HC2 := Lib.hid hc2
  have HC3 := Lib.hid hc3
  have hlv : vs.length ≤ c1 := (hcap _ _ _ rfl).1
  clear hs hcap h2 h3 o2 o3 hR hR3 hc1 hc2 hc3 H2 H3 HV b1 b2 b3
  go_wp2
  go_loopw [6, 7, 8] (fun up all i wr => Ext w3 wr ∧ ∃ (k : Nat) (U A : Bool), k ≤ R.length ∧ i = .int .i64 k ∧ up = .bool U ∧ all = .bool A ∧ Hid ((U = true → ∀ j, 0 < j → j < k → vs.getD (3 * (j - 1)) 0 ≤ vs.getD (3 * j) 0) ∧ ((∀ b ∈ R, b = true) → A = true))) (fun _ _ i _ => R.length - (intOf i).toNat)
  case atStart => exact ⟨Ext.refl _, 0, true, true, Nat.zero_le _, rfl, rfl, rfl, fun _ j h0 h1 => absurd h1 (by omega), fun _ => rfl⟩
  case round =>
    obtain ⟨hb, k, U, A, hk, rfl, rfl, rfl, HI⟩ := hrel
    by_cases hlt : k < R.length
    · obtain ⟨b2, off2, rfl, _, hcell2⟩ := HC2.out (by omega)
      obtain ⟨b3, off3, rfl, _, hcell3⟩ := HC3.out (by omega)
      have hv3 := HR3.out k hlt
      obtain ⟨b1, off1, rfl, _, hcell1⟩ := HC1.out (by omega)
      obtain ⟨x, hx⟩ := at_some hlt
      obtain ⟨s, hs⟩ : ∃ s, 3 * k = s := ⟨_, rfl⟩
      obtain ⟨y, hy⟩ := at_some (show s < vs.length by omega)
      have d2 : ∀ e, (over wr e).cell? ⟨b2, off2 + k, none⟩ = some (.bool x) := over_cell (hb.cell (hcell2 k x hx))
      have d3 : ∀ e, (over wr e).cell? ⟨b3, off3 + k, none⟩ = some (.bool x) := over_cell (hb.cell (hcell3 k x hx))
      have d1 : ∀ W, Ext wr W → ∀ e, (over W e).cell? ⟨b1, off1 + s, none⟩ = some (.int .i64 y) := fun W hW => over_cell (hW.cell (hb.cell (hcell1 s y hy)))
      have D2 := Lib.hid (fun W (hW : Ext wr W) => hW.cell (hb.cell (hcell2 k x hx)))
      have D1 := Lib.hid d1
      have hxx : (x != x) = false := by simp
      have HXY := Lib.hid (And.intro hx (And.intro hy hs))
      have hsl : s < vs.length := by omega
      have hsi : (3 : Int) * (k : Int) = (s : Int) := by omega
      have HC1c := Lib.hid hcell1
      clear hx hy d1 hcell1 hcell2 hcell3
      go_wp2
      refine wp_region_over (by kernel_rfl) (by kernel_rfl) ?_
      repeat (go_big_quiet_step ((fail)))
      refine wpQuiet_nil ?_
      intro w1 hb1
      go_wp2
      have D4 := Lib.hid hb1
      cases U with
      | false =>
        refine wp_region_over (by kernel_rfl) (by kernel_rfl) ?_
        repeat (go_big_quiet_step ((fail)))
        refine wpQuiet_nil ?_
        intro w5 hb5
        have hb6 := hb1.trans hb5
        cases A with
        | false =>
          go_wp2
          go_roundw
          case rel => exact ⟨hb.trans hb6, k + 1, false, false, by omega, by go_num, rfl, rfl, (fun h => by cases h), fun hall => HI.out.2 hall⟩
          case measure => simp [intOf]; omega
        | true =>
          have d4 := D2.out _ hb6
          go_wp2
          go_roundw
          case rel => exact ⟨hb.trans hb6, k + 1, false, x, by omega, by go_num, rfl, rfl, (fun h => by cases h), fun hall => hall x (List.mem_of_getElem? HXY.out.1)⟩
          case measure => simp [intOf]; omega
      | true =>
        by_cases hk0 : k = 0
        · have hk0' : ((k : Int) == 0) = true := by simp [hk0]
          have HK0 := Lib.hid hk0
          clear hk0
          refine wp_region_over (by kernel_rfl) (by kernel_rfl) ?_
          repeat (go_big_quiet_step ((fail)))
          refine wpQuiet_nil ?_
          intro w5 hb5
          have hb6 := hb1.trans hb5
          have HU : Hid (∀ j, 0 < j → j < k + 1 → vs.getD (3 * (j - 1)) 0 ≤ vs.getD (3 * j) 0) := fun j h0 h1 => absurd h1 (by have := HK0.out; omega)
          cases A with
          | false =>
            go_wp2
            go_roundw
            case rel => exact ⟨hb.trans hb6, k + 1, true, false, by omega, by go_num, rfl, rfl, fun _ => HU.out, fun hall => HI.out.2 hall⟩
            case measure => simp [intOf]; omega
          | true =>
            have d4 := D2.out _ hb6
            go_wp2
            go_roundw
            case rel => exact ⟨hb.trans hb6, k + 1, true, x, by omega, by go_num, rfl, rfl, fun _ => HU.out, fun hall => hall x (List.mem_of_getElem? HXY.out.1)⟩
            case measure => simp [intOf]; omega
        · have hk0' : ((k : Int) == 0) = false := by rw [beq_eq_false_iff_ne]; omega
          obtain ⟨p, hp⟩ : ∃ p, p + 3 = s := ⟨s - 3, by have := HXY.out.2.2; omega⟩
          obtain ⟨z, hz⟩ := at_some (show p < vs.length by omega)
          have hpi : (s : Int) - 3 = (p : Int) := by omega
          have d5 := D1.out w1 hb1
          have d6 : ∀ e, (over w1 e).cell? ⟨b1, off1 + p, none⟩ = some (.int .i64 z) := over_cell (hb1.cell (hb.cell (HC1c.out p z hz)))
          have hpl : p < vs.length := by omega
          have HZ := Lib.hid (And.intro hz hp)
          clear hz hp
          refine wp_region_over (by kernel_rfl) (by kernel_rfl) ?_
          repeat (go_big_quiet_step ((fail)))
          refine wpQuiet_nil ?_
          intro w5 hb5
          have hb6 := hb1.trans hb5
          have HU : Hid (decide (z ≤ y) = true → ∀ j, 0 < j → j < k + 1 → vs.getD (3 * (j - 1)) 0 ≤ vs.getD (3 * j) 0) := fun hd j h0 h1 => by
            by_cases hj : j < k
            · exact HI.out.1 rfl j h0 hj
            · obtain rfl : j = k := by omega
              have e1 : vs.getD (3 * j) 0 = y := by rw [HXY.out.2.2, List.getD_eq_getElem?_getD, HXY.out.2.1]; rfl
              have e2 : vs.getD (3 * (j - 1)) 0 = z := by rw [show 3 * (j - 1) = p by have := HXY.out.2.2; have := HZ.out.2; omega, List.getD_eq_getElem?_getD, HZ.out.1]; rfl
              rw [e1, e2]
              exact of_decide_eq_true hd
          cases A with
          | false =>
            go_wp2
            go_roundw
            case rel => exact ⟨hb.trans hb6, k + 1, _, false, by omega, by go_num, rfl, rfl, HU.out, fun hall => HI.out.2 hall⟩
            case measure => simp [intOf]; omega
          | true =>
            have d4 := D2.out _ hb6
            go_wp2
            go_roundw
            case rel => exact ⟨hb.trans hb6, k + 1, _, x, by omega, by go_num, rfl, rfl, HU.out, fun hall => hall x (List.mem_of_getElem? HXY.out.1)⟩
            case measure => simp [intOf]; omega
    · have hkk : k = R.length := by omega
      have hf : U = true → A = true := fun hU => by
        by_cases hn : R = []
        · exact HI.out.2 (fun b hb => by rw [hn] at hb; cases hb)
        · refine HI.out.2 ?_
          rw [← HR.out]
          refine touchRun_up fun j h0 h1 => HI.out.1 hU j h0 ?_
          rw [hkk]
          have := touchRunL_third (vs := vs) (by rw [HR.out]; exact hn)
          rw [HR.out] at this
          omega
      have HF := Lib.hid hf
      have HBB := Lib.hid (HB.out.trans hb)
      clear hf hkk
      cases U with
      | true =>
        obtain rfl := HF.out rfl
        go_wp2_with (go_at_call 11; refine (alive_any _).mono ?_; rintro e w8 ⟨rfl, b8⟩)
        go_returns
        exact ⟨rfl, HBB.out.trans b8⟩
      | false =>
        cases A
        all_goals
          go_wp2_with (go_at_call 11; refine (alive_any _).mono ?_; rintro e w8 ⟨rfl, b8⟩)
          go_returns
          exact ⟨rfl, HBB.out.trans b8⟩
end Go.Proofs.YtiggckhlbklngaaDoor
