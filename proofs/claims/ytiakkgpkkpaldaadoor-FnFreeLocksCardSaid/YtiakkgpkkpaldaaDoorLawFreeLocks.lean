/- The walk of laws.FnFreeLocks: it answers true. -/
import Derived.Test.YtiakkgpkkpaldaaDoorFreeLocks
import Derived.Test.YtiakkgpkkpaldaaDoorDrawHolds
import Derived.Test.YtiakkgpkkpaldaaDoorAlive
import Derived.Test.YtiakkgpkkpaldaaDoorSameX
namespace Go.Proofs.YtiakkgpkkpaldaaDoor
open Go.RowKit
set_option maxRecDepth 8000

theorem freeFold_all (owner : Int) (xs : List Hold) : freeFold owner (xs.take xs.length) = freeFold owner xs := by rw [List.take_length]
/-- What stands behind k locks stands at the front of what stands behind more. -/
theorem freeFold_front (owner : Int) (xs : List Hold) (k j : Nat) (h : k ≤ j) : ∃ ys, freeFold owner (xs.take j) = freeFold owner (xs.take k) ++ ys := by
  induction j with
  | zero => obtain rfl : k = 0 := by omega
            exact ⟨[], by simp⟩
  | succ j ih =>
    by_cases e : k = j + 1
    · subst e; exact ⟨[], by simp⟩
    · obtain ⟨ys, hy⟩ := ih (by omega)
      cases hx : xs[j]? with
      | none =>
        have hl : xs.length ≤ j := List.getElem?_eq_none_iff.1 hx
        rw [List.take_of_length_le (by omega)]
        rw [List.take_of_length_le (by omega)] at hy
        exact ⟨ys, hy⟩
      | some x =>
        rw [freeFold_step hx, hy, freeStep]
        split
        · exact ⟨ys, rfl⟩
        · exact ⟨ys ++ [_], by rw [List.append_assoc]⟩
theorem freeFold_at {owner : Int} {xs : List Hold} {k : Nat} {x : Hold} (hx : xs[k]? = some x) (ho : (x.owner == owner) = false) :
    (freeFold owner xs)[(freeFold owner (xs.take k)).length]? = some ⟨x.owner, x.key, x.write, x.got || !((freeFold owner (xs.take k)).any fun y => clashB x y)⟩ ∧ (freeFold owner (xs.take (k + 1))).length = (freeFold owner (xs.take k)).length + 1 := by
  have hk := (List.getElem?_eq_some_iff.1 hx).1
  have hs : freeFold owner (xs.take (k + 1)) = freeFold owner (xs.take k) ++ [⟨x.owner, x.key, x.write, x.got || !((freeFold owner (xs.take k)).any fun y => clashB x y)⟩] := by
    rw [freeFold_step hx, freeStep, if_neg (by simp [ho])]
  refine ⟨?_, by rw [hs]; simp⟩
  obtain ⟨ys, hy⟩ := freeFold_front owner xs (k + 1) xs.length (by omega)
  rw [freeFold_all, hs] at hy
  rw [hy, List.append_assoc, List.getElem?_append_right (Nat.le_refl _)]
  simp
theorem freeFold_skip {owner : Int} {xs : List Hold} {k : Nat} {x : Hold} (hx : xs[k]? = some x) (ho : (x.owner == owner) = true) : freeFold owner (xs.take (k + 1)) = freeFold owner (xs.take k) := by
  rw [freeFold_step hx, freeStep, if_pos ho]
theorem freeFold_from (owner : Int) (xs : List Hold) (k : Nat) : ∀ y ∈ freeFold owner (xs.take k), ∃ y0 ∈ xs.take k, y0.owner = y.owner ∧ y0.key = y.key ∧ y0.write = y.write := by
  induction k with
  | zero => intro y hy; simp [freeFold] at hy
  | succ k ih =>
    cases hx : xs[k]? with
    | none =>
      have hl : xs.length ≤ k := List.getElem?_eq_none_iff.1 hx
      rw [List.take_of_length_le (by omega)]
      rw [List.take_of_length_le (by omega)] at ih
      exact ih
    | some x =>
      have hsub : ∀ z ∈ xs.take k, z ∈ xs.take (k + 1) := fun z hz => by rw [List.take_add_one]; exact List.mem_append_left _ hz
      have hxin : x ∈ xs.take (k + 1) := by rw [List.take_add_one, hx]; simp
      intro y hy
      rw [freeFold_step hx, freeStep] at hy
      split at hy
      · obtain ⟨y0, h1, h2⟩ := ih y hy
        exact ⟨y0, hsub _ h1, h2⟩
      · rcases List.mem_append.1 hy with hy | hy
        · obtain ⟨y0, h1, h2⟩ := ih y hy
          exact ⟨y0, hsub _ h1, h2⟩
        · simp only [List.mem_singleton] at hy
          subst hy
          exact ⟨x, hxin, rfl, rfl, rfl⟩
theorem clash_same {x y y0 : Hold} (h1 : y0.owner = y.owner) (h2 : y0.key = y.key) (h3 : y0.write = y.write) : clashB x y0 = clashB x y := by unfold clashB; rw [h1, h2, h3]
/-- Locks that are left are valid. -/
theorem freeFold_ok {owner : Int} {xs : List Hold} (h : holdsOk xs = true) : holdsOk (freeFold owner xs) = true := by
  obtain ⟨hg, hl⟩ := allGood_true.1 h
  have key : ∀ k, k ≤ xs.length → ∀ i, i < (freeFold owner (xs.take k)).length → goodHold (freeFold owner (xs.take k)) i = true := by
    intro k
    induction k with
    | zero => intro _ i hi; simp [freeFold] at hi
    | succ k ih =>
      intro hk i hi
      obtain ⟨x, hx⟩ := at_some (show k < xs.length by omega)
      have ih := ih (by omega)
      cases ho : x.owner == owner with
      | true => rw [freeFold_skip hx ho] at hi ⊢; exact ih i hi
      | false =>
        have hs : freeFold owner (xs.take (k + 1)) = freeFold owner (xs.take k) ++ [⟨x.owner, x.key, x.write, x.got || !((freeFold owner (xs.take k)).any fun y => clashB x y)⟩] := by
          rw [freeFold_step hx, freeStep, if_neg (by simp [ho])]
        rw [hs] at hi ⊢
        by_cases hil : i < (freeFold owner (xs.take k)).length
        · obtain ⟨y, hy⟩ := at_some hil
          have h1 := ih i hil
          rw [goodHold_at hy] at h1
          rw [goodHold_at (by rw [List.getElem?_append_left hil]; exact hy), List.take_append_of_le_length (by omega)]
          exact h1
        · obtain rfl : i = (freeFold owner (xs.take k)).length := by simp at hi; omega
          have hgx := hg k (by omega)
          rw [goodHold_at hx] at hgx
          rw [goodHold_at (x := ⟨x.owner, x.key, x.write, x.got || !((freeFold owner (xs.take k)).any fun y => clashB x y)⟩) (by rw [List.getElem?_append_right (Nat.le_refl _)]; simp), List.take_append_of_le_length (Nat.le_refl _), List.take_length]
          simp only [Bool.and_eq_true] at hgx ⊢
          refine ⟨hgx.1, hgx.2.1, ?_⟩
          have hfn : ((freeFold owner (xs.take k)).any fun y => clashB ⟨x.owner, x.key, x.write, x.got || !((freeFold owner (xs.take k)).any fun y => clashB x y)⟩ y) = ((freeFold owner (xs.take k)).any fun y => clashB x y) := rfl
          rw [hfn]
          cases ha : (freeFold owner (xs.take k)).any fun y => clashB x y with
          | false => simp
          | true =>
            obtain ⟨y, hy, hc⟩ := List.any_eq_true.1 ha
            obtain ⟨y0, hy0, e1, e2, e3⟩ := freeFold_from owner xs k y hy
            have h2 := hgx.2.2
            have h3 : ((xs.take k).any fun y => clashB x y) = true := List.any_eq_true.2 ⟨y0, hy0, by rw [clash_same e1 e2 e3]; exact hc⟩
            rw [h3, Bool.and_true] at h2
            simp at h2
            simp [h2]
  refine allGood_true.2 ⟨fun i hi => ?_, Nat.le_trans (freeFold_len owner xs) hl⟩
  have h1 := key xs.length (Nat.le_refl _)
  rw [freeFold_all] at h1
  exact h1 i hi
set_option maxHeartbeats 4000000 in
theorem law_FnFreeLocks (w : World) {v0 : Value} {xs0 : List Int} (s0 : Sl1 encU w v0 xs0) (l0 : xs0.length ≤ 9223372036854775807) (f0 : ∀ x ∈ xs0, 0 ≤ x ∧ x ≤ 255) (k0 : ∀ A n c, v0 = .slice A n c → n ≤ c ∧ c ≤ 9223372036854775807) :
    Calls Tryd.prog 4 #[v0] w fun e w' => e = .returned (.bool true) ∧ Ext w w' := by
  obtain ⟨A0, c0, hv0, _⟩ := id s0
  by_cases hl : xs0.length ≤ 1048576
  case neg =>
    subst hv0
    have hl' : 1048576 < xs0.length := by omega
    clear hl s0 f0 k0
    go_enter Tryd.func4, Tryd.ntmps4
    go_wp2
    go_returns
    exact ⟨rfl, Ext.refl _⟩
  have HC := Lib.hid (⟨xs0, s0, f0, hl, k0⟩ : CodeIn w v0)
  subst hv0
  clear s0 f0 k0
  go_enter Tryd.func4, Tryd.ntmps4
  go_wp2_with fail
  refine (DrawFreeLocks_any _ HC.out).mono ?_
  rintro e w1 ⟨u, xs, o, rfl, hval, hphi, b1⟩
  have hlen : xs.length ≤ 12 := hphi
  have HS := Lib.hid hval.1
  have hcap := hval.2.2
  obtain ⟨A, c, rfl, hcx⟩ := id HS.out
  have HCX := Lib.hid hcx
  have hfl := freeL_step xs o
  clear hphi hval hcx
  go_wp2_with fail
  refine (impl_FreeLocks_cap o _ HS.out (by omega) hcap).mono ?_
  rintro e w2 ⟨x, rfl, t2, o2, b2, kx⟩
  have HS2 := Lib.hid (HS.out.ext b2)
  go_wp2_with fail
  refine (spec_FreeLocks o _ HS2.out (by omega)).mono ?_
  rintro e w3 ⟨y, rfl, t3, o3, b3⟩
  have T2 := Lib.hid (t2.ext b3)
  have T3 := Lib.hid t3
  have HB3 := Lib.hid (b2.trans b3)
  clear t2 t3 o2 o3 b2 b3
  go_wp2_with fail
  refine (sameHolds_any _ T2.out T3.out (by omega)).mono ?_
  rintro e w4 ⟨rfl, b4⟩
  have HB4 := Lib.hid (HB3.out.trans b4)
  have T4 := Lib.hid (T2.out.ext b4)
  clear T3 b4 HB3
  obtain ⟨ok, hok⟩ : ∃ ok, holdsOk xs = ok := ⟨_, rfl⟩
  have HK := Lib.hid hok
  clear hok
  go_wp2_with fail
  refine (impl_HoldsValid _ (HS.out.ext HB4.out) (by omega) hcap).mono ?_
  rw [HK.out]
  rintro e w5 ⟨rfl, b5⟩
  have HB5 := Lib.hid (HB4.out.trans b5)
  have T5 := Lib.hid (T4.out.ext b5)
  clear T4 b5
  cases ok with
  | false =>
    have hf : freeL xs o = [] := by unfold freeL; rw [if_neg (by rw [HK.out]; decide)]
    have hT := T5.out
    rw [hf] at hT
    obtain ⟨Ax, cx, hxe, _⟩ := hT
    subst hxe
    clear hf hfl
    go_wp2_with (go_at_call 12; refine (alive_any _).mono ?_; rintro e w7 ⟨rfl, b7⟩)
    go_returns
    exact ⟨rfl, (b1.trans HB5.out).trans b7⟩
  | true =>
    have hf : freeL xs o = freeFold o xs := by unfold freeL; rw [if_pos HK.out]
    have hT := T5.out
    rw [hf] at hT hfl
    obtain ⟨X, hX⟩ : ∃ X, freeFold o xs = X := ⟨_, rfl⟩
    have HXE := Lib.hid hX
    have HOK : Hid (holdsOk X = true) := by show _ = _; rw [← hX]; exact freeFold_ok HK.out
    rw [hX] at hT hfl
    have TX := Lib.hid hT
    obtain ⟨Ax, cx, hxe, hcx⟩ := id hT
    subst hxe
    have HCXX := Lib.hid hcx
    clear hf hX hT hcx T5
    have KX := Lib.hid kx
    clear kx
    obtain ⟨h16, _⟩ : X.length ≤ 16 ∧ True := ⟨by omega, trivial⟩
    go_wp2
    go_loopw [6, 7] (fun a i wr => Ext w5 wr ∧ ∃ k : Nat, k ≤ xs.length ∧ i = .int .i64 k ∧ Hid (∃ n : Nat, a = .int .i64 n ∧ n = (freeFold o (xs.take k)).length)) (fun _ i _ => xs.length - (intOf i).toNat)
    case atStart => exact ⟨Ext.refl _, 0, Nat.zero_le _, rfl, 0, rfl, by simp [freeFold]⟩
    case round =>
      obtain ⟨hb, k, hk, rfl, HI⟩ := hrel
      obtain ⟨n, rfl, hn⟩ := HI.out
      have HN := Lib.hid hn
      clear hn HI
      by_cases hlt : k < xs.length
      · obtain ⟨h, hx⟩ := at_some hlt
        obtain ⟨b, off, rfl, _, hcell⟩ := HCX.out (by omega)
        have hc0 := HB5.out.cell (hcell k h hx 0 (by omega))
        have hc1 := HB5.out.cell (hcell k h hx 1 (by omega))
        have hc2 := HB5.out.cell (hcell k h hx 2 (by omega))
        have hc3 := HB5.out.cell (hcell k h hx 3 (by omega))
        simp only [encHold, Nat.add_zero] at hc0 hc1 hc2 hc3
        have g0 := hb.cell hc0
        have d0 := over_cell (hb.cell hc0)
        have d1 := over_cell (hb.cell hc1)
        have d2 := over_cell (hb.cell hc2)
        have d3 := over_cell (hb.cell hc3)
        have Hx := Lib.hid hx
        clear hcell hx hc0 hc1 hc2 hc3
        cases ho : h.owner == o with
        | true =>
          have HS' := Lib.hid (freeFold_skip Hx.out ho)
          go_wp2
          go_roundw
          case rel => exact ⟨hb, k + 1, by omega, by go_num, n, rfl, by rw [HS'.out]; exact HN.out⟩
          case measure => simp [intOf]; omega
        | false =>
          have hat := freeFold_at Hx.out ho
          rw [HXE.out, ← HN.out] at hat
          obtain ⟨hy, hnext⟩ := hat
          have hnl : n < X.length := (List.getElem?_eq_some_iff.1 hy).1
          obtain ⟨bx, offx, rfl, _, hcellx⟩ := HCXX.out (by omega)
          obtain ⟨z, hz⟩ : ∃ z, (!((freeFold o (xs.take k)).any fun y => clashB h y)) = z := ⟨_, rfl⟩
          rw [hz] at hy
          have f0 := over_cell (hb.cell (hcellx n _ hy 0 (by omega)))
          have f1 := over_cell (hb.cell (hcellx n _ hy 1 (by omega)))
          have f2 := over_cell (hb.cell (hcellx n _ hy 2 (by omega)))
          have f3 := over_cell (hb.cell (hcellx n _ hy 3 (by omega)))
          simp only [encHold, Nat.add_zero] at f0 f1 f2 f3
          have q0 : decide (X.length ≤ n) = false := by simp; omega
          have q1 : (h.owner != h.owner) = false := by simp
          have q2 : (h.key != h.key) = false := by simp
          have q3 : (h.write != h.write) = false := by simp
          have HNX := Lib.hid hnext
          clear hy hz hcellx hnext
          cases hgot : h.got with
          | true =>
            rw [hgot] at d3 f3
            rw [Bool.true_or] at f3
            clear hgot
            go_wp2
            refine wp_region_over (by kernel_rfl) (by kernel_rfl) ?_
            repeat (go_big_quiet_step (fail))
            refine wpQuiet_nil ?_
            intro w6 hb6
            go_wp2
            go_roundw
            case rel => exact ⟨hb.trans hb6, k + 1, by omega, by go_num, n + 1, by go_num, by rw [HNX.out]⟩
            case measure => simp [intOf]; omega
          | false =>
            rw [hgot] at d3
            clear hgot
            go_wp2
            refine wp_region_over (by kernel_rfl) (by kernel_rfl) ?_
            repeat (go_big_quiet_step (fail))
            refine wpQuiet_nil ?_
            intro w6 hb6
            go_wp2
            go_roundw
            case rel => exact ⟨hb.trans hb6, k + 1, by omega, by go_num, n + 1, by go_num, by rw [HNX.out]⟩
            case measure => simp [intOf]; omega
      · obtain rfl : k = xs.length := by omega
        have hnX : n = X.length := by rw [HN.out, List.take_length, HXE.out]
        subst hnX
        go_wp2_with fail
        refine (impl_HoldsValid _ (TX.out.ext hb) (by omega) KX.out).mono ?_
        rw [HOK.out]
        rintro e w6 ⟨rfl, b6⟩
        go_wp2
        go_returns
        exact ⟨rfl, ((b1.trans HB5.out).trans hb).trans b6⟩
end Go.Proofs.YtiakkgpkkpaldaaDoor
