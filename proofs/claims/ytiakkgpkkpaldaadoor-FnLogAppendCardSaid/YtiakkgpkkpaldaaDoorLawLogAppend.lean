/- The walk of laws.FnLogAppend: it answers true. -/
import Derived.Test.YtiakkgpkkpaldaaDoorLogAppendI
import Derived.Test.YtiakkgpkkpaldaaDoorDrawApp
import Derived.Test.YtiakkgpkkpaldaaDoorAlive
import Derived.Test.YtiakkgpkkpaldaaDoorSameX
import Derived.Test.YtiakkgpkkpaldaaDoorCut
namespace Go.Proofs.YtiakkgpkkpaldaaDoor
open Go.RowKit
set_option maxRecDepth 8000

/-- What was appended lies there, and what lies ahead stays. -/
theorem outTo_fact {p : Nat} {xs more : List Rec} (hp : p ≤ xs.length) {k : Nat} (hk : k ≤ more.length) :
    (outTo p xs more k).take p = xs.take p ∧ ∀ j r, j < k → more[j]? = some r → ∃ x, (outTo p xs more k)[p + j]? = some x ∧ x.term = r.term := by
  induction k with
  | zero => exact ⟨rfl, fun j r hj => by omega⟩
  | succ k ih =>
    obtain ⟨h1, h2⟩ := ih (by omega)
    have hb := outTo_bounds hp (show k ≤ more.length by omega)
    obtain ⟨r, hr⟩ := at_some (show k < more.length by omega)
    by_cases h : ∃ x, (outTo p xs more k)[p + k]? = some x ∧ x.term = r.term
    · obtain ⟨x, hx, he⟩ := h
      rw [outTo_same hr hx he]
      refine ⟨h1, fun j r' hj hr' => ?_⟩
      by_cases e : j = k
      · subst e; rw [hr] at hr'; injection hr' with hr'; subst hr'; exact ⟨x, hx, he⟩
      · exact h2 j r' (by omega) hr'
    · rw [outTo_new hr (fun x hx he => h ⟨x, hx, he⟩)]
      have hl : ((outTo p xs more k).take (p + k)).length = p + k := by rw [List.length_take]; omega
      refine ⟨?_, fun j r' hj hr' => ?_⟩
      · rw [List.take_append_of_le_length (by omega), List.take_take, Nat.min_eq_left (by omega)]
        exact h1
      · by_cases e : j = k
        · subst e; rw [hr] at hr'; injection hr' with hr'; subst hr'
          exact ⟨r, by rw [List.getElem?_append_right (by omega), hl, Nat.sub_self]; rfl, rfl⟩
        · obtain ⟨x, hx, he⟩ := h2 j r' (by omega) hr'
          exact ⟨x, by rw [List.getElem?_append_left (by omega), List.getElem?_take, if_pos (by omega)]; exact hx, he⟩
theorem outTo_still {p : Nat} {L more : List Rec} (h : ∀ j r, j < more.length → more[j]? = some r → ∃ x, L[p + j]? = some x ∧ x.term = r.term) {k : Nat} (hk : k ≤ more.length) : outTo p L more k = L := by
  induction k with
  | zero => rfl
  | succ k ih =>
    have ih := ih (by omega)
    obtain ⟨r, hr⟩ := at_some (show k < more.length by omega)
    obtain ⟨x, hx, he⟩ := h k r (by omega) hr
    rw [outTo_same hr (by rw [ih]; exact hx) he, ih]
theorem append_yes {xs L ys : List Rec} {p t : Int} (h : appendL xs p t ys = (L, true)) :
    ∃ q : Nat, p = (q : Int) ∧ q ≤ xs.length ∧ q ≤ L.length ∧ logOk L = true ∧ L.take q = xs.take q ∧ (∀ j r, j < ys.length → ys[j]? = some r → ∃ x, L[q + j]? = some x ∧ x.term = r.term) ∧ appendL L p t ys = (L, true) := by
  unfold appendL at h
  split at h
  case isFalse => cases h
  case isTrue hv =>
    split at h
    case isFalse => cases h
    case isTrue hh =>
      split at h
      case isFalse => cases h
      case isTrue ho =>
        injection h with h1 _
        have hh' := hh
        unfold headOk at hh'
        rw [Bool.and_eq_true] at hh'
        have hin := inB_true.1 hh'.1
        obtain ⟨q, rfl⟩ := Int.eq_ofNat_of_zero_le hin.1
        rw [Int.toNat_natCast] at h1 ho
        have hq : q ≤ xs.length := by omega
        obtain ⟨f1, f2⟩ := outTo_fact (more := ys) hq (Nat.le_refl ys.length)
        have hb := outTo_bounds (more := ys) hq (Nat.le_refl ys.length)
        rw [h1] at f1 f2 hb ho
        have hh2 : headOk L (q : Int) t = true := by
          unfold headOk
          rw [Bool.and_eq_true]
          refine ⟨inB_true.2 ⟨by omega, by omega⟩, ?_⟩
          rw [Int.toNat_natCast]
          rw [Int.toNat_natCast] at hh'
          rcases Nat.eq_zero_or_pos q with h0 | h0
          · subst h0; rfl
          · have he : L[q - 1]? = xs[q - 1]? := by
              have h3 := congrArg (fun l => l[q - 1]?) f1
              simp only [List.getElem?_take] at h3
              rw [if_pos (by omega), if_pos (by omega)] at h3
              exact h3
            rw [he]
            exact hh'.2
        refine ⟨q, rfl, hq, by omega, ho, f1, f2, ?_⟩
        unfold appendL
        rw [if_pos ho, if_pos hh2, Int.toNat_natCast, outTo_still f2 (Nat.le_refl _), if_pos ho]
theorem append_no {xs L ys : List Rec} {p t : Int} (h : appendL xs p t ys = (L, false)) : L = xs ∨ (L = [] ∧ L.length ≠ xs.length) := by
  unfold appendL at h
  split at h
  · split at h
    · split at h
      · cases h
      · injection h with h3 _; exact .inl h3.symm
    · injection h with h3 _; exact .inl h3.symm
  · rename_i h1
    injection h with h3 _
    subst h3
    refine .inr ⟨rfl, fun e => h1 ?_⟩
    have : xs = [] := List.eq_nil_of_length_eq_zero e.symm
    subst this
    decide
set_option maxHeartbeats 8000000 in
theorem law_FnLogAppend (w : World) {v0 : Value} {xs0 : List Int} (s0 : Sl1 encU w v0 xs0) (l0 : xs0.length ≤ 9223372036854775807) (f0 : ∀ x ∈ xs0, 0 ≤ x ∧ x ≤ 255) (k0 : ∀ A n c, v0 = .slice A n c → n ≤ c ∧ c ≤ 9223372036854775807) :
    Calls Tryd.prog 8 #[v0] w fun e w' => e = .returned (.bool true) ∧ Ext w w' := by
  obtain ⟨A0, c0, hv0, _⟩ := id s0
  by_cases hl : xs0.length ≤ 1048576
  case neg =>
    subst hv0
    have hl' : 1048576 < xs0.length := by omega
    clear hl s0 f0 k0
    go_enter Tryd.func8, Tryd.ntmps8
    go_wp2
    go_returns
    exact ⟨rfl, Ext.refl _⟩
  have HC := Lib.hid (⟨xs0, s0, f0, hl, k0⟩ : CodeIn w v0)
  subst hv0
  clear s0 f0 k0
  go_enter Tryd.func8, Tryd.ntmps8
  go_wp2_with fail
  refine (DrawLogAppend_any _ HC.out).mono ?_
  rintro e w1 ⟨u, v, xs, ys, p, t, rfl, hval, hys, hxl, hyl, b1⟩
  have HS := Lib.hid hval.1
  have HY := Lib.hid hys
  have hcap := hval.2.2
  obtain ⟨A, c, rfl, hcx⟩ := id HS.out
  obtain ⟨A2, c2, rfl, hcy⟩ := id HY.out
  have hcp := hcap _ _ _ rfl
  have HCX := Lib.hid hcx
  have HCY := Lib.hid hcy
  have hLlen := appendL_len xs p t ys (by omega)
  obtain ⟨⟨L, ok⟩, hR⟩ : ∃ R, appendL xs p t ys = R := ⟨_, rfl⟩
  have HR := Lib.hid hR
  rw [hR] at hLlen
  simp only at hLlen
  clear hval hys hcx hcy hcap hR
  go_wp2_with fail
  refine (impl_LogAppend_cap p t _ HS.out HY.out (by omega) (by omega)).mono ?_
  rw [HR.out]
  rintro e w2 ⟨x, rfl, t2, _, b2, kx⟩
  simp only at t2
  have HS2 := Lib.hid (HS.out.ext b2)
  go_wp2_with fail
  refine (spec_LogAppend p t _ HS2.out (HY.out.ext b2) (by omega) (by omega)).mono ?_
  rw [HR.out]
  rintro e w3 ⟨y, rfl, t3, _, b3⟩
  simp only at t3
  have T2 := Lib.hid (t2.ext b3)
  have T3 := Lib.hid t3
  have HB3 := Lib.hid (b2.trans b3)
  have KX := Lib.hid kx
  clear t2 t3 b2 b3 kx
  go_wp2_with fail
  refine (sameLog_any _ T2.out T3.out (by omega)).mono ?_
  rintro e w4 ⟨rfl, b4⟩
  have HB4 := Lib.hid (HB3.out.trans b4)
  have T4 := Lib.hid (T2.out.ext b4)
  clear T2 T3 b4 HB3
  cases ok with
  | false =>
    rcases append_no HR.out with rfl | ⟨rfl, hne⟩
    · go_wp2_with fail
      refine (sameLog_any _ T4.out (HS.out.ext HB4.out) (by omega)).mono ?_
      rintro e w5 ⟨rfl, b5⟩
      go_wp2_with (go_at_call 12; refine (alive_any _).mono ?_; rintro e w7 ⟨rfl, b7⟩)
      go_returns
      exact ⟨rfl, ((b1.trans HB4.out).trans b5).trans b7⟩
    · have HNE := Lib.hid hne
      clear hne
      obtain ⟨Ax, cx, rfl, _⟩ := id T4.out
      go_wp2_with fail
      refine (sameLog_no _ T4.out (HS.out.ext HB4.out) HNE.out).mono ?_
      rintro e w5 ⟨rfl, b5⟩
      go_wp2_with (go_at_call 12; refine (alive_any _).mono ?_; rintro e w7 ⟨rfl, b7⟩)
      go_returns
      exact ⟨rfl, ((b1.trans HB4.out).trans b5).trans b7⟩
  | true =>
    obtain ⟨q, rfl, hq, hqL, hok, htk, hat, hagain⟩ := append_yes HR.out
    have HOK := Lib.hid hok
    have HAT := Lib.hid hat
    have HAG := Lib.hid hagain
    obtain ⟨Ax, cx, hxe, hcx⟩ := id T4.out
    have hkx := KX.out _ _ _ hxe
    subst hxe
    have HCL := Lib.hid hcx
    have hcut1 := run_cut_high (P := Tryd.prog) (A := Ax) (n := L.length) (c := cx) Tryd.underlying50 kinfo_Rec q (by omega)
    have hcut2 := run_cut_high (P := Tryd.prog) (A := A) (n := xs.length) (c := c) Tryd.underlying50 kinfo_Rec q (by omega)
    have hpt1 := (T4.out.part 0 q (by omega) (by omega) hkx.1).1
    have hpt2 := ((HS.out.ext HB4.out).part 0 q (by omega) (by omega) hcp.1).1
    have hpe : part L 0 q = part xs 0 q := by unfold part; rw [htk]
    have hpl : (part xs 0 q).length ≤ 7 := by rw [part_len hq]; omega
    rw [hpe] at hpt1
    obtain ⟨vc1, hvc1⟩ : ∃ vc, (Value.slice (if cx = 0 then Ax else Ax.map (·.add (0 * 2))) (q - 0) (cx - 0)) = vc := ⟨_, rfl⟩
    obtain ⟨vc2, hvc2⟩ : ∃ vc, (Value.slice (if c = 0 then A else A.map (·.add (0 * 2))) (q - 0) (c - 0)) = vc := ⟨_, rfl⟩
    rw [hvc1] at hcut1 hpt1
    rw [hvc2] at hcut2 hpt2
    have HP1 := Lib.hid hpt1
    have HP2 := Lib.hid hpt2
    have HCUT := Lib.hid (And.intro hcut1 hcut2)
    have HPL := Lib.hid hpl
    clear hpt1 hpt2 hvc1 hvc2 hpe hpl hcut1 hcut2 hok hat hagain htk hcx
    go_wp2
    go_loopw [11] (fun i wr => Ext w4 wr ∧ ∃ k : Nat, k ≤ ys.length ∧ i = .int .i64 k) (fun i _ => ys.length - (intOf i).toNat)
    case atStart => exact ⟨Ext.refl _, 0, Nat.zero_le _, rfl⟩
    case round =>
      obtain ⟨hb, k, hk, rfl⟩ := hrel
      by_cases hlt : k < ys.length
      · obtain ⟨r, hr⟩ := at_some hlt
        obtain ⟨z, hz, hzr⟩ := HAT.out k r hlt hr
        have hzl := (List.getElem?_eq_some_iff.1 hz).1
        obtain ⟨by_, offy, rfl, _, hcelly⟩ := HCY.out (by omega)
        obtain ⟨bx, offx, rfl, _, hcellx⟩ := HCL.out (by omega)
        have d0 := over_cell (hb.cell (HB4.out.cell (hcelly k r hr 0 (by omega))))
        have e0 := over_cell (hb.cell (hcellx _ z hz 0 (by omega)))
        simp only [encRec, Nat.add_zero] at d0 e0
        rw [hzr] at e0
        obtain ⟨s, hs⟩ : ∃ s, q + k = s := ⟨_, rfl⟩
        have hsi : ((q : Int) + (k : Int)) = (s : Int) := by omega
        have hwrap : IntKind.i64.wrap ((q : Int) + (k : Int)) = (s : Int) := by rw [hsi]; exact IntWalk.i64_in _ (by omega)
        rw [hs] at e0 hzl
        have g0 : decide (L.length ≤ s) = false := decide_eq_false (by omega)
        have g1 : (r.term != r.term) = false := by simp
        have HSI := Lib.hid hsi
        have s0 : (0 : Int) ≤ (s : Int) := by omega
        clear hr hz hzr hcelly hcellx hs hsi
        go_wp2
        refine wp_region_over (by kernel_rfl) (by kernel_rfl) ?_
        repeat (go_big_quiet_step ((fail)))
        refine wpQuiet_nil ?_
        intro w1 hb1
        go_wp2
        go_wp2
        go_roundw
        case rel => exact ⟨hb.trans hb1, k + 1, by omega, by go_num⟩
        case measure => simp [intOf]; omega
      · obtain rfl : k = ys.length := by omega
        go_wp2_with fail
        refine (impl_LogAppend _ t _ (T4.out.ext hb) (HY.out.ext (HB4.out.trans hb)) (by omega) (by omega)).mono ?_
        rw [HAG.out]
        rintro e w9 ⟨x9, rfl, t9, _, b9⟩
        simp only at t9
        have HB9 := Lib.hid (hb.trans b9)
        have c1 : Hid (∀ W, Ext w9 W → Calls Tryd.prog 31 #[.slice Ax L.length cx] W fun e w' => e = .returned (.bool true) ∧ Ext W w') := fun W hW => by
          have h := impl_LogValid W (T4.out.ext (HB9.out.trans hW)) (by omega)
          rw [HOK.out] at h
          exact h
        have c2 : Hid (∀ W, Ext w9 W → Calls Tryd.prog 30 #[vc1, vc2] W fun e w' => e = .returned (.bool true) ∧ Ext W w') := fun W hW =>
          sameLog_any W (HP1.out.ext (HB9.out.trans hW)) (HP2.out.ext (HB9.out.trans hW)) (by have := HPL.out; omega)
        have c3 : Hid (∀ W, Ext w9 W → Calls Tryd.prog 30 #[x9, .slice Ax L.length cx] W fun e w' => e = .returned (.bool true) ∧ Ext W w') := fun W hW =>
          sameLog_any W (t9.ext hW) (T4.out.ext (HB9.out.trans hW)) (by omega)
        have hcut1 := HCUT.out.1
        have hcut2 := HCUT.out.2
        have g1 : decide (q ≤ xs.length) = true := decide_eq_true hq
        have g2 : decide (q ≤ L.length) = true := decide_eq_true hqL
        clear t9 b9
        go_wp2
        refine wp_region_over (by kernel_rfl) (by kernel_rfl) ?_
        iterate 24 (go_big_quiet_step (first | (go_at_call 31; exact quiet_ext (c1.out _ (over_ext _ _))) | (go_at_call 30; exact quiet_ext (c2.out _ (over_ext _ _)))))
        repeat (go_big_quiet_step ((go_at_call 30; exact quiet_ext (c3.out _ (over_ext _ _)))))
        refine wpQuiet_nil ?_
        intro w10 hb10
        go_wp2
        go_returns
        exact ⟨rfl, ((b1.trans HB4.out).trans HB9.out).trans hb10⟩
end Go.Proofs.YtiakkgpkkpaldaaDoor
