/- The walk of laws.FnLockWaits: it answers true. -/
import Derived.Test.YtbbfdnmlfjdidaaDoorWaitsL
import Derived.Test.YtbbfdnmlfjdidaaDoorDrawHolds
import Derived.Test.YtbbfdnmlfjdidaaDoorAlive
import Derived.Test.YtbbfdnmlfjdidaaDoorSameL
namespace Go.Proofs.YtbbfdnmlfjdidaaDoor
open Go.RowKit
set_option maxRecDepth 8000

theorem rowTo_bit {xs : List Hold} {x : Hold} {R j i : Nat} (h : (rowTo xs x R j).testBit i = true) : R.testBit i = true ∨ ∃ y ∈ xs, clashB y x = true ∧ y.owner.toNat = i := by
  induction j with
  | zero => exact .inl h
  | succ j ih =>
    cases hy : xs[j]? with
    | none =>
      rw [rowTo, hy] at h
      exact ih h
    | some y =>
      cases hc : clashB y x with
      | true =>
        rw [rowTo_yes hy hc, Nat.testBit_or, Bool.or_eq_true] at h
        rcases h with h | h
        · exact ih h
        · rw [Nat.testBit_two_pow] at h
          exact .inr ⟨y, List.mem_of_getElem? hy, hc, by simpa using h⟩
      | false =>
        rw [rowTo_no hy hc] at h
        exact ih h
theorem clash_other {x y : Hold} (h : clashB y x = true) : y.owner ≠ x.owner := by
  intro e
  unfold clashB at h
  simp [e] at h
theorem waitsTo_bit {xs : List Hold} {o : Int} {k i : Nat} (h : (waitsTo xs o k).testBit i = true) : ∃ y ∈ xs, y.owner ≠ o ∧ y.owner.toNat = i := by
  induction k with
  | zero => simp [waitsTo] at h
  | succ k ih =>
    cases hx : xs[k]? with
    | none =>
      rw [waitsTo, hx] at h
      exact ih h
    | some x =>
      by_cases e : x.owner = o ∧ x.got = false
      · rw [waitsTo_yes hx e.1 e.2] at h
        rcases rowTo_bit h with h | ⟨y, hy, hc, hi⟩
        · exact ih h
        · exact ⟨y, hy, by rw [← e.1]; exact clash_other hc, hi⟩
      · rw [waitsTo_no hx e] at h
        exact ih h
/-- Nobody waits for itself. -/
theorem waitsTo_self {xs : List Hold} (h : holdsOk xs = true) (o k : Nat) : (waitsTo xs (o : Int) k).testBit o = false := by
  cases hb : (waitsTo xs (o : Int) k).testBit o with
  | false => rfl
  | true =>
    obtain ⟨y, hy, hne, hi⟩ := waitsTo_bit hb
    obtain ⟨q, hq⟩ := List.getElem?_of_mem hy
    have := holds_owner h hq
    exact absurd (by omega) hne
theorem waitsLL_row {xs : List Hold} (h : holdsOk xs = true) {k : Nat} {L : List Int} (hL : (waitsLL xs)[k]? = some L) : k < 5 ∧ L = membersL (waitsTo xs (k : Int) xs.length) := by
  unfold waitsLL at hL
  rw [if_pos h, List.getElem?_map] at hL
  cases hr : (List.range 5)[k]? with
  | none => rw [hr] at hL; cases hL
  | some o =>
    rw [hr] at hL
    obtain ⟨h1, h2⟩ := List.getElem?_eq_some_iff.1 hr
    have h3 : k = o := by simpa using h2
    subst h3
    exact ⟨by simpa using h1, (Option.some.inj hL).symm⟩
theorem waitsLL_ne {xs : List Hold} (h : holdsOk xs = true) {k j : Nat} {L : List Int} {y : Int} (hL : (waitsLL xs)[k]? = some L) (hy : L[j]? = some y) : y ≠ (k : Int) := by
  obtain ⟨_, rfl⟩ := waitsLL_row h hL
  obtain ⟨i, _, hb, rfl⟩ := mem_membersL.1 (List.mem_of_getElem? hy)
  intro e
  obtain rfl : i = k := by omega
  rw [waitsTo_self h] at hb
  cases hb
theorem waitsLL_up {xs : List Hold} (h : holdsOk xs = true) {k j : Nat} {L : List Int} {y z : Int} (hL : (waitsLL xs)[k]? = some L) (hy : L[j]? = some y) (hz : L[j + 1]? = some z) : y < z := by
  obtain ⟨_, rfl⟩ := waitsLL_row h hL
  obtain ⟨h1, e1⟩ := List.getElem?_eq_some_iff.1 hy
  obtain ⟨h2, e2⟩ := List.getElem?_eq_some_iff.1 hz
  have := List.pairwise_iff_getElem.1 (asc_membersL _) j (j + 1) h1 h2 (by omega)
  rw [e1, e2] at this
  exact this
theorem waitsLL_size {xs : List Hold} (h : holdsOk xs = true) : (waitsLL xs).length = 5 := by unfold waitsLL; rw [if_pos h]; simp
/-- A list of lists, and its own cells. -/
theorem LLr.open {w : World} {v : Value} {us : List Value} {xss : List (List Int)} (h : LLr w v us xss) : ∃ A c, v = .slice A xss.length c ∧ ∀ (k : Nat) xs, xss[k]? = some xs → ∃ b off u, A = some ⟨b, off, none⟩ ∧ w.cell? ⟨b, off + k, none⟩ = some u ∧ Sl1 encI w u xs := by
  obtain ⟨l1, ⟨A, c, rfl, hc⟩, h3⟩ := h
  refine ⟨A, c, by rw [l1], fun k xs hx => ?_⟩
  have hk := (List.getElem?_eq_some_iff.1 hx).1
  obtain ⟨u, hu⟩ := at_some (show k < us.length by omega)
  obtain ⟨b, off, rfl, _, hcell⟩ := hc (by omega)
  exact ⟨b, off, u, rfl, hcell k u hu, h3 k u xs hu hx⟩
set_option maxHeartbeats 4000000 in
theorem law_FnLockWaits (w : World) (hT : Tab64 1 w) {v0 : Value} {xs0 : List Int} (s0 : Sl1 encU w v0 xs0) (l0 : xs0.length ≤ 9223372036854775807) (f0 : ∀ x ∈ xs0, 0 ≤ x ∧ x ≤ 255) (k0 : ∀ A n c, v0 = .slice A n c → n ≤ c ∧ c ≤ 9223372036854775807) :
    Calls Tryd.prog 7 #[v0] w fun e w' => e = .returned (.bool true) ∧ Ext w w' := by
  have HT := Lib.hid hT
  clear hT
  obtain ⟨A0, c0, hv0, _⟩ := id s0
  by_cases hl : xs0.length ≤ 1048576
  case neg =>
    subst hv0
    have hl' : 1048576 < xs0.length := by omega
    clear hl s0 f0 k0
    go_enter Tryd.func7, Tryd.ntmps7
    go_wp2
    go_returns
    exact ⟨rfl, Ext.refl _⟩
  have HC := Lib.hid (⟨xs0, s0, f0, hl, k0⟩ : CodeIn w v0)
  subst hv0
  clear s0 f0 k0
  go_enter Tryd.func7, Tryd.ntmps7
  go_wp2_with fail
  refine (DrawLockWaits_any _ HC.out).mono ?_
  rintro e w1 ⟨u, xs, rfl, hval, hphi, b1⟩
  have hlen : xs.length ≤ 12 := hphi
  have HS := Lib.hid hval.1
  have HCAP := Lib.hid hval.2.2
  clear hphi hval
  obtain ⟨X, hX⟩ : ∃ X, waitsLL xs = X := ⟨_, rfl⟩
  have hx5 : X.length ≤ 5 := by rw [← hX]; exact waitsLL_len xs
  have HIN : Hid (∀ ys ∈ X, ys.length ≤ 1000) := fun ys hy => by have := waitsLL_in xs ys (by rw [hX]; exact hy); omega
  have HX := Lib.hid hX
  clear hX
  go_wp2_with fail
  refine (impl_LockWaits _ HS.out (by omega) HCAP.out (HT.out.ext b1)).mono ?_
  rw [HX.out]
  rintro e w2 ⟨v2, us2, rfl, L2, _, b2⟩
  have HS2 := Lib.hid (HS.out.ext b2)
  go_wp2_with fail
  refine (spec_LockWaits _ HS2.out (by omega)).mono ?_
  rw [HX.out]
  rintro e w3 ⟨v3, us3, rfl, L3, _, b3⟩
  have HL2 := Lib.hid (L2.ext b3)
  have HL3 := Lib.hid L3
  have HB3 := Lib.hid (b2.trans b3)
  clear L2 L3 b2 b3
  go_wp2_with fail
  refine (sameLists_any _ HL2.out HL3.out (by omega) HIN.out).mono ?_
  rintro e w4 ⟨rfl, b4⟩
  have HL4 := Lib.hid (HL2.out.ext b4)
  have HB4 := Lib.hid (HB3.out.trans b4)
  clear HL2 HL3 HB3 b4
  obtain ⟨ok, hok⟩ : ∃ ok, holdsOk xs = ok := ⟨_, rfl⟩
  have HK := Lib.hid hok
  clear hok
  go_wp2_with fail
  refine (impl_HoldsValid _ (HS.out.ext HB4.out) (by omega) HCAP.out).mono ?_
  rw [HK.out]
  rintro e w5 ⟨rfl, b5⟩
  have HL5 := Lib.hid (HL4.out.ext b5)
  have HB5 := Lib.hid (HB4.out.trans b5)
  clear HL4 HB4 b5
  obtain ⟨A, c, rfl, hrow⟩ := HL5.out.open
  have HROW := Lib.hid hrow
  clear hrow
  cases ok with
  | false =>
    have hX0 : X = [] := by rw [← HX.out, waitsLL, if_neg (by rw [HK.out]; decide)]
    subst hX0
    clear HROW
    go_wp2_with (go_at_call 13; refine (alive_any _).mono ?_; rintro e w7 ⟨rfl, b7⟩)
    go_returns
    exact ⟨rfl, (b1.trans HB5.out).trans b7⟩
  | true =>
    have H5 : Hid (X.length = 5) := by show _ = _; rw [← HX.out]; exact waitsLL_size HK.out
    go_wp2
    go_loopw [5] (fun i wr => Ext w5 wr ∧ ∃ k : Nat, k ≤ X.length ∧ i = .int .i64 k) (fun i _ => X.length - (intOf i).toNat)
    case atStart => exact ⟨Ext.refl _, 0, Nat.zero_le _, rfl⟩
    case round =>
      obtain ⟨hb, k, hk, rfl⟩ := hrel
      by_cases hlt : k < X.length
      · obtain ⟨L, hL⟩ := at_some hlt
        obtain ⟨b, off, u, rfl, hu, hLs⟩ := HROW.out k L hL
        obtain ⟨A1, c1, rfl, hc1⟩ := id hLs
        have hl1 := HIN.out L (List.mem_of_getElem? hL)
        have HU := Lib.hid hu
        have HC1 := Lib.hid hc1
        have HLk := Lib.hid hL
        clear hu hLs hc1 hL
        go_wp2
        go_loopw [6] (fun i wr => Ext w5 wr ∧ ∃ j : Nat, j ≤ L.length ∧ i = .int .i64 j) (fun i _ => L.length - (intOf i).toNat)
        case atStart => exact ⟨hb, 0, Nat.zero_le _, rfl⟩
        case round =>
          clear hb
          obtain ⟨hb, j, hj, rfl⟩ := hrel
          have HB := Lib.hid hb
          have m0 := hb.cell HU.out
          have e0 := over_cell m0
          by_cases hlj : j < L.length
          · obtain ⟨y, hy⟩ := at_some hlj
            obtain ⟨b', off', rfl, _, hcell⟩ := HC1.out (by omega)
            have d0 := over_cell (HB.out.cell (hcell j y hy))
            simp only [encI] at d0
            have q0 : (y == (k : Int)) = false := by
              rw [beq_eq_false_iff_ne]
              exact waitsLL_ne HK.out (by rw [HX.out]; exact HLk.out) hy
            rcases Nat.eq_zero_or_pos j with hj0 | hpos
            · have q1 : decide (0 < j) = false := decide_eq_false (by omega)
              clear hcell hy hb hj0
              go_wp2
              refine wp_region_over (by kernel_rfl) (by kernel_rfl) ?_
              repeat (go_big_quiet_step ((fail)))
              refine wpQuiet_nil ?_
              intro w1 hb1
              go_wp2
              go_wp2
              go_roundw
              case rel => exact ⟨HB.out.trans hb1, j + 1, by omega, by go_num⟩
              case measure => simp [intOf]; omega
            · obtain ⟨j', rfl⟩ : ∃ j', j = j' + 1 := ⟨j - 1, by omega⟩
              obtain ⟨z, hz⟩ := at_some (show j' < L.length by omega)
              have hzy := waitsLL_up HK.out (by rw [HX.out]; exact HLk.out) hz hy
              have d1 := over_cell (HB.out.cell (hcell _ z hz))
              simp only [encI] at d1
              have q1 : decide ((0 : Int) < ((j' + 1 : Nat) : Int)) = true := decide_eq_true (by omega)
              have q2 : decide (y ≤ z) = false := by simp; omega
              have q3 : (((j' + 1 : Nat) : Int) - 1) = (j' : Int) := by omega
              clear hcell hy hz hb
              go_wp2
              refine wp_region_over (by kernel_rfl) (by kernel_rfl) ?_
              repeat (go_big_quiet_step ((fail)))
              refine wpQuiet_nil ?_
              intro w1 hb1
              go_wp2
              go_wp2
              go_roundw
              case rel => exact ⟨HB.out.trans hb1, j' + 2, by omega, by go_num⟩
              case measure => simp [intOf]; omega
          · obtain rfl : j = L.length := by omega
            go_wp2
            go_roundw
            case rel => exact ⟨HB.out, k + 1, by omega, by go_num⟩
            case measure => simp [intOf]; omega
      · obtain rfl : k = X.length := by omega
        have q : ((X.length : Int) == 5) = true := by rw [H5.out]; rfl
        go_wp2
        go_returns
        exact ⟨rfl, (b1.trans HB5.out).trans hb⟩
end Go.Proofs.YtbbfdnmlfjdidaaDoor
