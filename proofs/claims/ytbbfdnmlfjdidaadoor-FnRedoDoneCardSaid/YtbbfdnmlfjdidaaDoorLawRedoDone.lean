/- The walk of laws.FnRedoDone: it answers true. -/
import Derived.Test.YtbbfdnmlfjdidaaDoorRedoDone
import Derived.Test.YtbbfdnmlfjdidaaDoorDrawRedo
import Derived.Test.YtbbfdnmlfjdidaaDoorAlive
import Derived.Test.YtbbfdnmlfjdidaaDoorSameI
namespace Go.Proofs.YtbbfdnmlfjdidaaDoor
open Go.RowKit
set_option maxRecDepth 8000

theorem any_next {α : Type} {p : α → Bool} {xs : List α} {q : Nat} {y : α} (hy : xs[q]? = some y) : (xs.take (q + 1)).any p = ((xs.take q).any p || p y) := by
  obtain ⟨hk, rfl⟩ := List.getElem?_eq_some_iff.1 hy
  rw [List.take_succ_eq_append_getElem hk, List.any_append]
  simp
/-- Who is done has a record that says so. -/
theorem doneL_any {xs : List Redo} {k : Nat} {y : Int} (hy : (doneL xs)[k]? = some y) : (xs.any fun x => x.who == y && x.key == -1) = true := by
  have hm := List.mem_of_getElem? hy
  unfold doneL at hm
  split at hm
  · rename_i hv
    obtain ⟨j, _, hb, rfl⟩ := mem_membersL.1 hm
    obtain ⟨i, x, hi, hx, hneg, hw⟩ := setTo_bit.1 hb
    have hg := goodRedo_who hx (redo_good hv hi)
    refine List.any_eq_true.2 ⟨x, List.mem_of_getElem? hx, ?_⟩
    rw [Bool.and_eq_true, beq_iff_eq, beq_iff_eq]
    omega
  · cases hm
theorem doneL_asc (xs : List Redo) : Asc (doneL xs) := by
  unfold doneL
  split
  · exact asc_membersL _
  · exact List.Pairwise.nil
theorem asc_at {xs : List Int} {k : Nat} {x y : Int} (h : Asc xs) (hx : xs[k]? = some x) (hy : xs[k + 1]? = some y) : x < y := by
  obtain ⟨h1, e1⟩ := List.getElem?_eq_some_iff.1 hx
  obtain ⟨h2, e2⟩ := List.getElem?_eq_some_iff.1 hy
  have := List.pairwise_iff_getElem.1 h k (k + 1) h1 h2 (by omega)
  rw [e1, e2] at this
  exact this
set_option maxHeartbeats 4000000 in
theorem law_FnRedoDone (w : World) (hT : Tab64 1 w) {v0 : Value} {xs0 : List Int} (s0 : Sl1 encU w v0 xs0) (l0 : xs0.length ≤ 9223372036854775807) (f0 : ∀ x ∈ xs0, 0 ≤ x ∧ x ≤ 255) (k0 : ∀ A n c, v0 = .slice A n c → n ≤ c ∧ c ≤ 9223372036854775807) :
    Calls Tryd.prog 3 #[v0] w fun e w' => e = .returned (.bool true) ∧ Ext w w' := by
  have HT := Lib.hid hT
  clear hT
  obtain ⟨A0, c0, hv0, _⟩ := id s0
  by_cases hl : xs0.length ≤ 1048576
  case neg =>
    subst hv0
    have hl' : 1048576 < xs0.length := by omega
    clear hl s0 f0 k0
    go_enter Tryd.func3, Tryd.ntmps3
    go_wp2
    go_returns
    exact ⟨rfl, Ext.refl _⟩
  have HC := Lib.hid (⟨xs0, s0, f0, hl, k0⟩ : CodeIn w v0)
  subst hv0
  clear s0 f0 k0
  go_enter Tryd.func3, Tryd.ntmps3
  go_wp2_with fail
  refine (DrawRedoDone_any _ HC.out).mono ?_
  rintro e w1 ⟨u, xs, rfl, hval, hphi, b1⟩
  have hlen : xs.length ≤ 14 := hphi.1
  have HS := Lib.hid hval.1
  obtain ⟨A, c, rfl, hcx⟩ := id HS.out
  have HCX := Lib.hid hcx
  clear hphi hval hcx
  obtain ⟨ys, hys⟩ : ∃ ys, doneL xs = ys := ⟨_, rfl⟩
  have hy7 : ys.length ≤ 7 := by rw [← hys]; exact doneL_len xs
  have HYS := Lib.hid hys
  clear hys
  go_wp2_with fail
  refine (impl_RedoDone _ HS.out (by omega) (HT.out.ext b1)).mono ?_
  rw [HYS.out]
  rintro e w2 ⟨x, rfl, t2, _, b2⟩
  have HS2 := Lib.hid (HS.out.ext b2)
  go_wp2_with fail
  refine (spec_RedoDone _ HS2.out (by omega)).mono ?_
  rw [HYS.out]
  rintro e w3 ⟨y, rfl, t3, _, b3⟩
  have T2 := Lib.hid (t2.ext b3)
  have T3 := Lib.hid t3
  have HB3 := Lib.hid (b2.trans b3)
  clear t2 t3 b2 b3
  go_wp2_with fail
  refine (sameInts_any _ T2.out T3.out (by omega)).mono ?_
  rintro e w4 ⟨rfl, b4⟩
  have HB4 := Lib.hid (HB3.out.trans b4)
  have T4 := Lib.hid (T2.out.ext b4)
  obtain ⟨Ay, cy, hye, hcy⟩ := id T4.out
  subst hye
  have HCY := Lib.hid hcy
  clear T2 T3 b4 HB3 hcy
  go_wp2
  go_loopw [5] (fun i wr => Ext w4 wr ∧ ∃ k : Nat, k ≤ ys.length ∧ i = .int .i64 k) (fun i _ => ys.length - (intOf i).toNat)
  case atStart => exact ⟨Ext.refl _, 0, Nat.zero_le _, rfl⟩
  case round =>
    obtain ⟨hb, k, hk, rfl⟩ := hrel
    by_cases hlt : k < ys.length
    · obtain ⟨y, hy⟩ := at_some hlt
      obtain ⟨by', offy, rfl, _, hcelly⟩ := HCY.out (by omega)
      have HD := Lib.hid (hb.cell (hcelly k y hy))
      have HALL : Hid ((xs.any fun x => x.who == y && x.key == -1) = true) := by show _ = _; exact doneL_any (by rw [HYS.out]; exact hy)
      have HPREV : Hid (∀ x, 0 < k → ys[k - 1]? = some x → x < y) := by
        intro x h1 h2
        have ha := doneL_asc xs
        rw [HYS.out] at ha
        refine asc_at ha h2 ?_
        rw [show k - 1 + 1 = k from by omega]
        exact hy
      go_wp2
      go_loopw [6, 7] (fun t i wr => Ext w4 wr ∧ ∃ j : Nat, j ≤ xs.length ∧ i = .int .i64 j ∧ t = .bool ((xs.take j).any fun x => x.who == y && x.key == -1)) (fun _ i _ => xs.length - (intOf i).toNat)
      case atStart => exact ⟨hb, 0, Nat.zero_le _, rfl, by simp⟩
      case round =>
        have hb0 := hb
        clear hb
        obtain ⟨hb, j, hj, rfl, rfl⟩ := hrel
        have HB := Lib.hid hb
        have e0 := over_cell (HB.out.cell (hcelly k y hy))
        simp only [encI] at e0
        by_cases hlj : j < xs.length
        · obtain ⟨x, hx⟩ := at_some hlj
          obtain ⟨b, off, rfl, _, hcell⟩ := HCX.out (by omega)
          have d0 := over_cell (HB.out.cell (HB4.out.cell (hcell j x hx 0 (by omega))))
          have d1 := over_cell (HB.out.cell (HB4.out.cell (hcell j x hx 1 (by omega))))
          simp only [encRedo, Nat.add_zero] at d0 d1
          have HN := Lib.hid (any_next (p := fun x : Redo => x.who == y && x.key == -1) hx)
          obtain ⟨t, ht⟩ : ∃ t, ((xs.take j).any fun x => x.who == y && x.key == -1) = t := ⟨_, rfl⟩
          have HT' := Lib.hid ht
          rw [ht]
          clear ht hx hcell hcelly hy hb hb0
          cases t with
          | true =>
            go_wp2
            refine wp_region_over (by kernel_rfl) (by kernel_rfl) ?_
            repeat (go_big_quiet_step ((fail)))
            refine wpQuiet_nil ?_
            intro w1 hb1
            go_wp2
            go_roundw
            case rel => exact ⟨HB.out.trans hb1, j + 1, by omega, by go_num, by rw [HN.out, HT'.out]; rfl⟩
            case measure => simp [intOf]; omega
          | false =>
            cases h1 : x.who == y with
            | false =>
              go_wp2
              refine wp_region_over (by kernel_rfl) (by kernel_rfl) ?_
              repeat (go_big_quiet_step ((fail)))
              refine wpQuiet_nil ?_
              intro w1 hb1
              go_wp2
              go_roundw
              case rel => exact ⟨HB.out.trans hb1, j + 1, by omega, by go_num, by rw [HN.out, HT'.out, h1]; rfl⟩
              case measure => simp [intOf]; omega
            | true =>
              cases h2 : x.key == -1 with
              | false =>
                go_wp2
                refine wp_region_over (by kernel_rfl) (by kernel_rfl) ?_
                repeat (go_big_quiet_step ((fail)))
                refine wpQuiet_nil ?_
                intro w1 hb1
                go_wp2
                go_roundw
                case rel => exact ⟨HB.out.trans hb1, j + 1, by omega, by go_num, by rw [HN.out, HT'.out, h1, h2]; rfl⟩
                case measure => simp [intOf]; omega
              | true =>
                go_wp2
                refine wp_region_over (by kernel_rfl) (by kernel_rfl) ?_
                repeat (go_big_quiet_step ((fail)))
                refine wpQuiet_nil ?_
                intro w1 hb1
                go_wp2
                go_roundw
                case rel => exact ⟨HB.out.trans hb1, j + 1, by omega, by go_num, by rw [HN.out, HT'.out, h1, h2]; rfl⟩
                case measure => simp [intOf]; omega
        · obtain rfl : j = xs.length := by omega
          rw [List.take_length, HALL.out]
          clear e0
          rcases Nat.eq_zero_or_pos k with rfl | hpos
          · have e0 := over_cell (HB.out.cell (hcelly 0 y hy))
            simp only [encI] at e0
            clear hcelly hy hb hb0
            go_wp2
            refine wp_region_over (by kernel_rfl) (by kernel_rfl) ?_
            repeat (go_big_quiet_step ((fail)))
            refine wpQuiet_nil ?_
            intro w1 hb1
            go_wp2
            go_wp2
            go_roundw
            case rel => exact ⟨HB.out.trans hb1, 1, by omega, by go_num⟩
            case measure => simp [intOf]; omega
          · obtain ⟨k', rfl⟩ : ∃ k', k = k' + 1 := ⟨k - 1, by omega⟩
            obtain ⟨z, hz⟩ := at_some (show k' < ys.length by omega)
            have hzy := HPREV.out z (by omega) hz
            have e0 := over_cell (HB.out.cell (hcelly _ y hy))
            have e1 := over_cell (HB.out.cell (hcelly _ z hz))
            simp only [encI] at e0 e1
            have q0 : decide ((0 : Int) < ((k' + 1 : Nat) : Int)) = true := decide_eq_true (by omega)
            have q1 : decide (y ≤ z) = false := by simp; omega
            have q2 : (((k' + 1 : Nat) : Int) - 1) = (k' : Int) := by omega
            clear hcelly hy hz hb hb0
            go_wp2
            refine wp_region_over (by kernel_rfl) (by kernel_rfl) ?_
            repeat (go_big_quiet_step ((fail)))
            refine wpQuiet_nil ?_
            intro w1 hb1
            go_wp2
            go_wp2
            go_roundw
            case rel => exact ⟨HB.out.trans hb1, k' + 2, by omega, by go_num⟩
            case measure => simp [intOf]; omega
    · obtain rfl : k = ys.length := by omega
      go_wp2_with (go_at_call 13; refine (alive_any _).mono ?_; rintro e w7 ⟨rfl, b7⟩)
      go_returns
      exact ⟨rfl, ((b1.trans HB4.out).trans hb).trans b7⟩
end Go.Proofs.YtbbfdnmlfjdidaaDoor
