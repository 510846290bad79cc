/- A value that is safe: SafeValue of the program. -/
import Derived.Test.YtiakkgpkkpaldaaDoorSafeValue
import Derived.Test.YtiakkgpkkpaldaaDoorSetList
namespace Go.Proofs.YtiakkgpkkpaldaaDoor
open Go.RowKit
set_option maxRecDepth 8000

theorem foldl_members (n : Nat) (xs : List Vote) (wish : Int) (hl : xs.length ≤ 7) :
    (membersL n).foldl (fun b (k : Int) => bestOf xs b k.toNat) ⟨0, wish⟩ = bestTo n xs wish xs.length := by
  have h7 : bestTo n xs wish 7 = bestTo n xs wish xs.length := by
    have : ∀ d, xs.length + d ≤ 7 → bestTo n xs wish (xs.length + d) = bestTo n xs wish xs.length := by
      intro d
      induction d with
      | zero => intro _; rfl
      | succ d ih =>
        intro hd
        rw [← Nat.add_assoc, bestTo_next, ih (by omega), bestIf]
        have hx : xs[xs.length + d]? = none := by simp
        split
        · rw [bestOf, hx]
        · rfl
    have := this (7 - xs.length) (by omega)
    rwa [show xs.length + (7 - xs.length) = 7 by omega] at this
  rw [← h7]
  unfold membersL bestTo
  rw [List.foldl_map, List.foldl_filter]
  rfl
set_option maxHeartbeats 4000000 in
theorem impl_SafeValue {v : Value} {xs : List Vote} (set wish : Int) (w : World) (h : SlOf 2 encVote w v xs) (hlen : xs.length ≤ 2097152) (hT : Tab64 1 w) :
    Calls Tryd.prog 21 #[v, .int .i64 set, .int .i64 wish] w fun e w' => e = .returned (.tuple #[.int .i64 (safeB xs set wish).1, .bool (safeB xs set wish).2]) ∧ Ext w w' := by
  have HL := Lib.hid h
  have HT := Lib.hid hT
  obtain ⟨A, c, rfl, _⟩ := id h
  clear h hT
  obtain ⟨R, hR⟩ : ∃ R, safeB xs set wish = R := ⟨_, rfl⟩
  rw [hR]
  have HR := Lib.hid hR
  clear hR
  by_cases hv : votesOk xs = true
  case neg =>
    obtain rfl : (0, false) = R := by rw [← HR.out, safeB, if_neg (fun h => hv h.1)]
    simp only [Bool.not_eq_true] at hv
    go_enter Tryd.func21, Tryd.ntmps21
    go_wp2_with fail
    refine (impl_VotesValid _ HL.out hlen).mono ?_
    rw [hv]
    rintro e w1 ⟨rfl, b1⟩
    go_wp2
    go_returns
    exact ⟨rfl, b1⟩
  by_cases hw : inB wish 0 99 = true
  case neg =>
    obtain rfl : (0, false) = R := by rw [← HR.out, safeB, if_neg (fun h => hw h.2.2.2)]
    simp only [Bool.not_eq_true] at hw
    go_enter Tryd.func21, Tryd.ntmps21
    go_wp2_with fail
    refine (impl_VotesValid _ HL.out hlen).mono ?_
    rw [hv]
    rintro e w1 ⟨rfl, b1⟩
    go_wp2_with (go_at_call 45; refine (valueOk_any _ _).mono ?_; rintro e w' ⟨rfl, rfl⟩)
    go_returns
    exact ⟨rfl, b1⟩
  have hl7 := votesOkS_len hv
  have hwr : wrap64 (wrap64 (2 ^ xs.length) - 1) = 2 ^ xs.length - 1 := by
    have h7 : ((List.range 8).all fun m => wrap64 (wrap64 (2 ^ m) - 1) == 2 ^ m - 1) = true := by decide +kernel
    have h1 := List.all_eq_true.1 h7 xs.length (by simp; omega)
    simpa using h1
  have hpow : (2 : Int) ^ xs.length = ((2 ^ xs.length : Nat) : Int) := by simp
  by_cases hs : inB set 0 (2 ^ xs.length - 1) = true
  case neg =>
    obtain rfl : (0, false) = R := by
      rw [← HR.out, safeB, if_neg]
      rintro ⟨_, h, _⟩
      unfold setsB at h
      rw [Bool.and_eq_true, Bool.and_eq_true, List.all_eq_true] at h
      have h2 := h.2.2 set (by simp)
      rw [Int.toNat_natCast, ← hpow] at h2
      exact hs h2
    simp only [Bool.not_eq_true] at hs
    have HWR := Lib.hid hwr
    have HS := Lib.hid hs
    clear hwr hpow hs
    go_enter Tryd.func21, Tryd.ntmps21
    go_wp2_with fail
    refine (impl_VotesValid _ HL.out hlen).mono ?_
    rw [hv]
    rintro e w1 ⟨rfl, b1⟩
    go_wp2_with (go_at_call 45; refine (valueOk_any _ _).mono ?_; rintro e w' ⟨rfl, rfl⟩)
    refine (within_any _ _ _ _).mono ?_
    rw [HWR.out, HS.out]
    rintro e w' ⟨rfl, rfl⟩
    go_wp2
    go_returns
    exact ⟨rfl, b1⟩
  have hsz := sizeB_range set
  by_cases hm : (xs.length : Int) < 2 * sizeB set
  case neg =>
    obtain rfl : (0, false) = R := by rw [← HR.out, safeB, if_neg (fun h => hm h.2.2.1)]
    have HWR := Lib.hid hwr
    have HS := Lib.hid hs
    clear hwr hpow hs
    go_enter Tryd.func21, Tryd.ntmps21
    go_wp2_with fail
    refine (impl_VotesValid _ HL.out hlen).mono ?_
    rw [hv]
    rintro e w1 ⟨rfl, b1⟩
    go_wp2_with (go_at_call 45; refine (valueOk_any _ _).mono ?_; rintro e w' ⟨rfl, rfl⟩)
    refine (within_any _ _ _ _).mono ?_
    rw [HWR.out, HS.out]
    rintro e w' ⟨rfl, rfl⟩
    go_wp2_with fail
    refine (impl_SetSize set _).mono ?_
    rintro e w' ⟨rfl, rfl⟩
    go_wp2
    go_returns
    exact ⟨rfl, b1⟩
  obtain ⟨n, rfl, hn⟩ : ∃ n : Nat, set = (n : Int) ∧ n < 2 ^ xs.length := by
    have h2 := inB_true.1 hs
    obtain ⟨n, rfl⟩ := Int.eq_ofNat_of_zero_le h2.1
    exact ⟨n, rfl, by rw [hpow] at h2; omega⟩
  have h128 : n < 128 := by
    have : 2 ^ xs.length ≤ 2 ^ 7 := Nat.pow_le_pow_right (by omega) hl7.2
    omega
  have hsets : setsB (xs.length : Int) [(n : Int)] = true := by
    unfold setsB
    rw [Bool.and_eq_true, Bool.and_eq_true, List.all_eq_true]
    refine ⟨inB_true.2 (by omega), by simp, fun x hx => ?_⟩
    obtain rfl : x = (n : Int) := by simpa using hx
    rw [Int.toNat_natCast, ← hpow]
    exact hs
  have hfin : R = ((bestTo n xs wish xs.length).value, true) := by rw [← HR.out, safeB, if_pos ⟨hv, hsets, hm, hw⟩, Int.toNat_natCast]
  subst hfin
  clear hsets
  have hml := membersL_len n
  have HF := Lib.hid (foldl_members n xs wish hl7.2)
  have HWR := Lib.hid hwr
  have HS := Lib.hid hs
  have HN := Lib.hid hn
  clear hwr hpow hs HR hn
  go_enter Tryd.func21, Tryd.ntmps21
  go_wp2_with fail
  refine (impl_VotesValid _ HL.out hlen).mono ?_
  rw [hv]
  rintro e w1 ⟨rfl, b1⟩
  go_wp2_with (go_at_call 45; refine (valueOk_any _ _).mono ?_; rintro e w' ⟨rfl, rfl⟩)
  refine (within_any _ _ _ _).mono ?_
  rw [HWR.out, HS.out]
  rintro e w' ⟨rfl, rfl⟩
  go_wp2_with fail
  refine (impl_SetSize n _).mono ?_
  rintro e w' ⟨rfl, rfl⟩
  go_wp2_with fail
  refine (members_any n _ h128 (HT.out.ext (b1.alloc _))).mono ?_
  rintro e w2 ⟨v', rfl, hrow, b2⟩
  obtain ⟨A', c', rfl, _⟩ := id hrow.cell.1.to1
  have HROW := Lib.hid hrow.cell.1.to1
  have HB := Lib.hid ((b1.alloc (.cells #[.int .i64 0, .int .i64 wish] 45)).trans b2)
  have HW0 : Hid (BlkN w2 w1.heap.size 2 ∧ w2.cell? ⟨w1.heap.size, 0, none⟩ = some (.int .i64 0) ∧ w2.cell? ⟨w1.heap.size, 1, none⟩ = some (.int .i64 wish)) :=
    ⟨(BlkN.made w1 #[.int .i64 0, .int .i64 wish] 45).ext b2, b2.cell (by go_cell), b2.cell (by go_cell)⟩
  have hlo : w.heap.size ≤ w1.heap.size := b1.size
  have HAP : Hid (Apart (.slice A' (membersL n).length c') (.slice (some ⟨w1.heap.size, 0, none⟩) 2 2)) := fun a p c a' p' c'' h1 h2 hp _ e => by
    have := (hrow.cell.2 a p c h1 hp).1
    injection h2 with h2 _ _
    injection h2 with h2
    subst h2
    simp at this e
    omega
  clear hrow b1 b2 hv hw
  go_wp2_with fail
  go_loopw [10, 42] (fun _ i wr => Ext w wr ∧ Hid (Sl1 encI wr (.slice A' (membersL n).length c') (membersL n)) ∧ ∃ k : Nat, k ≤ (membersL n).length ∧ i = .int .i64 k ∧ BlkN wr w1.heap.size 2 ∧ wr.cell? ⟨w1.heap.size, 0, none⟩ = some (.int .i64 (((membersL n).take k).foldl (fun b (k : Int) => bestOf xs b k.toNat) ⟨0, wish⟩).ballot) ∧ wr.cell? ⟨w1.heap.size, 1, none⟩ = some (.int .i64 (((membersL n).take k).foldl (fun b (k : Int) => bestOf xs b k.toNat) ⟨0, wish⟩).value)) (fun _ i _ => (membersL n).length - (intOf i).toNat)
  case atStart => exact ⟨HB.out, HROW.out, 0, Nat.zero_le _, rfl, HW0.out.1, HW0.out.2.1, HW0.out.2.2⟩
  case round =>
    clear HW0 HROW HB
    obtain ⟨hb, HROW, k, hk, rfl, hblk, g0, g1⟩ := hrel
    by_cases hlt : k < (membersL n).length
    · obtain ⟨z, hz⟩ := at_some hlt
      obtain ⟨j, hj7, hjb, rfl⟩ : ∃ j : Nat, j < 7 ∧ n.testBit j = true ∧ z = (j : Int) := by
        have := List.mem_of_getElem? hz
        unfold membersL at this
        simp only [List.mem_map, List.mem_filter, List.mem_range] at this
        obtain ⟨j, ⟨h1, h2⟩, h3⟩ := this
        exact ⟨j, h1, h2, h3.symm⟩
      have hjl : j < xs.length := by
        rcases Nat.lt_or_ge j xs.length with h | h
        · exact h
        · rw [Nat.testBit_lt_two_pow (Nat.lt_of_lt_of_le HN.out (Nat.pow_le_pow_right (by omega) h))] at hjb
          cases hjb
      obtain ⟨x, hx⟩ := at_some hjl
      have hnext : ((membersL n).take (k + 1)).foldl (fun b (k : Int) => bestOf xs b k.toNat) ⟨0, wish⟩ = bestOf xs (((membersL n).take k).foldl (fun b (k : Int) => bestOf xs b k.toNat) ⟨0, wish⟩) j := by
        rw [List.take_add_one, hz]
        simp
      obtain ⟨⟨bb, bv⟩, hbe⟩ : ∃ b, ((membersL n).take k).foldl (fun b (k : Int) => bestOf xs b k.toNat) ⟨0, wish⟩ = b := ⟨_, rfl⟩
      rw [hbe] at g0 g1 hnext
      simp only at g0 g1
      have hbo : bestOf xs ⟨bb, bv⟩ j = if bb < x.ballot then x else ⟨bb, bv⟩ := by rw [bestOf, hx]
      rw [hbo] at hnext
      have HNX := Lib.hid hnext
      obtain ⟨A2, c2, hA2, hcc2⟩ := id HROW.out
      injection hA2 with e1 e2 e3
      subst e1 e3
      clear e2
      obtain ⟨b2, off2, rfl, hbl2, hcell2⟩ := hcc2 (by omega)
      have m0 : wr.cell? ⟨b2, off2 + k, none⟩ = some (.int .i64 (j : Int)) := hcell2 k _ hz
      obtain ⟨A3, c3, hA3, hcc⟩ := id (HL.out.ext hb)
      injection hA3 with e1 e2 e3
      subst e1 e3
      clear e2
      obtain ⟨b, off, rfl, hbl, hcell⟩ := hcc (by omega)
      have q0 : wr.cell? ⟨b, off + j * 2, none⟩ = some (.int .i64 x.ballot) := hcell j x hx 0 (by omega)
      have q1 : wr.cell? ⟨b, off + j * 2 + 1, none⟩ = some (.int .i64 x.value) := hcell j x hx 1 (by omega)
      have d0 := over_cell q0
      have f0 := over_cell g0
      have HBLK := Lib.hid hblk
      have G0 := Lib.hid g0
      have G1 := Lib.hid g1
      have Q0 := Lib.hid q0
      have Q1 := Lib.hid q1
      clear hx hcell hcc hnext hblk g0 g1 q0 q1 hbe hbo hcell2 hcc2 hz hjb
      by_cases hgt : bb < x.ballot
      · have hnx : Hid (((membersL n).take (k + 1)).foldl (fun b (k : Int) => bestOf xs b k.toNat) ⟨0, wish⟩ = x) := by show _ = _; rw [HNX.out, if_pos hgt]
        go_wp2
        refine wp_region_over (by kernel_rfl) (by kernel_rfl) ?_
        repeat (go_big_quiet_step (fail))
        refine wpQuiet_nil ?_
        intro w3 hb3
        have B3 := Lib.hid (HBLK.out.ext hb3)
        have p0 := B3.out.free 0
        have p1 := B3.out.free 1
        have s0 := hb3.cell G0.out
        have s1 := hb3.cell G1.out
        have r0 := hb3.cell Q0.out
        have r1 := hb3.cell Q1.out
        have B4 := Lib.hid (B3.out.set ⟨w1.heap.size, 0, none⟩ (.int .i64 x.ballot))
        have ROW5 := Lib.hid (((HROW.out.ext hb3).only (Only.setCell (a := ⟨w1.heap.size, 0, none⟩) (c := 2) (n := 2) (by omega) 0 (.int .i64 x.ballot)) HAP.out).only (Only.setCell (a := ⟨w1.heap.size, 0, none⟩) (c := 2) (n := 2) (by omega) 1 (.int .i64 x.value)) HAP.out)
        go_wp2
        go_roundw
        case rel => exact ⟨((hb.trans hb3).setCell hlo _).setCell hlo _, ROW5, k + 1, by omega, by go_num, B4.out.set _ _, by rw [hnx.out, cell_set_other (by intro e'; injection e' with _ e' _; omega)]; exact cell_set_self B3.out (by omega) _, by rw [hnx.out]; exact cell_set_self B4.out (by omega) _⟩
        case measure => simp [intOf]; omega
      · have hnx : Hid (((membersL n).take (k + 1)).foldl (fun b (k : Int) => bestOf xs b k.toNat) ⟨0, wish⟩ = ⟨bb, bv⟩) := by show _ = _; rw [HNX.out, if_neg hgt]
        have hgd : decide (bb < x.ballot) = false := by simpa using hgt
        go_wp2
        refine wp_region_over (by kernel_rfl) (by kernel_rfl) ?_
        repeat (go_big_quiet_step (fail))
        refine wpQuiet_nil ?_
        intro w3 hb3
        go_wp2
        go_roundw
        case rel => exact ⟨hb.trans hb3, HROW.out.ext hb3, k + 1, by omega, by go_num, HBLK.out.ext hb3, by rw [hnx.out]; exact hb3.cell G0.out, by rw [hnx.out]; exact hb3.cell G1.out⟩
        case measure => simp [intOf]; omega
    · obtain rfl : k = (membersL n).length := by omega
      rw [List.take_length, HF.out] at g1
      clear g0
      go_wp2
      go_returns
      exact ⟨rfl, hb⟩
end Go.Proofs.YtiakkgpkkpaldaaDoor
