/- A value that is safe: SafeValue, of the reference and of the program. -/
import Derived.Test.YtiakkgpkkpaldaaDoorVote
import Derived.Test.YtiakkgpkkpaldaaDoorQuorum
import Derived.Test.YtiakkgpkkpaldaaDoorSetSize
import Derived.Test.YtiakkgpkkpaldaaDoorMembers
namespace Go.Proofs.YtiakkgpkkpaldaaDoor
open Go.RowKit
set_option maxRecDepth 8000

/-- What one member's vote makes of the best so far. -/
def bestOf (xs : List Vote) (b : Vote) (k : Nat) : Vote := match xs[k]? with | some x => if b.ballot < x.ballot then x else b | none => b
def bestIf (n : Nat) (xs : List Vote) (b : Vote) (k : Nat) : Vote := if n.testBit k = true then bestOf xs b k else b
def bestTo (n : Nat) (xs : List Vote) (wish : Int) (k : Nat) : Vote := (List.range k).foldl (bestIf n xs) ⟨0, wish⟩
theorem bestTo_next (n : Nat) (xs : List Vote) (wish : Int) (k : Nat) : bestTo n xs wish (k + 1) = bestIf n xs (bestTo n xs wish k) k := by
  unfold bestTo
  rw [List.range_succ, List.foldl_append]
  rfl
/-- What SafeValue returns. -/
def safeB (xs : List Vote) (set wish : Int) : Int × Bool :=
  if votesOk xs = true ∧ setsB (xs.length : Int) [set] = true ∧ (xs.length : Int) < 2 * sizeB set ∧ inB wish 0 99 = true then ((bestTo set.toNat xs wish xs.length).value, true) else (0, false)
theorem sizeB_range (x : Int) : -1 ≤ sizeB x ∧ sizeB x ≤ 7 := by
  unfold sizeB
  split
  · have := pc_le x.toNat
    omega
  · omega
theorem votesOkS_len {xs : List Vote} (h : votesOk xs = true) : 1 ≤ xs.length ∧ xs.length ≤ 7 := by
  rw [votesOk, Bool.and_eq_true, inB_true] at h
  omega
theorem sets_one (w : World) (x : Int) (T : TypeId) : Sl1 encI (w.alloc (.cells #[.int .i64 x] T)) (.slice (some ⟨w.heap.size, 0, none⟩) 1 1) [x] :=
  ⟨_, _, rfl, fun _ => ⟨_, _, rfl, by simp, fun i y hy => by
    obtain ⟨hi, rfl⟩ := List.getElem?_eq_some_iff.1 hy
    obtain rfl : i = 0 := by simpa using hi
    exact (cell_of_row _ _ _ _ T (0, 0) (heap_alloc_new w _)).trans rfl⟩⟩
set_option maxHeartbeats 4000000 in
theorem spec_SafeValue {v : Value} {xs : List Vote} (set wish : Int) (w : World) (h : SlOf 2 encVote w v xs) (hlen : xs.length ≤ 2097152) :
    Calls Tryd.prog 22 #[v, .int .i64 set, .int .i64 wish] w fun e w' => e = .returned (.tuple #[.int .i64 (safeB xs set wish).1, .bool (safeB xs set wish).2]) ∧ Ext w w' := by
  have HL := Lib.hid h
  have h := h.ext ((Ext.refl w).alloc (.cells #[.int .i64 0, .int .i64 wish] 45))
  have H := Lib.hid h
  obtain ⟨A, c, rfl, _⟩ := id h
  clear h
  obtain ⟨R, hR⟩ : ∃ R, safeB xs set wish = R := ⟨_, rfl⟩
  rw [hR]
  have HR := Lib.hid hR
  clear hR
  by_cases hv : votesOk xs = true
  case neg =>
    obtain rfl : (0, false) = R := by rw [← HR.out, safeB, if_neg (fun h => hv h.1)]
    simp only [Bool.not_eq_true] at hv
    go_enter Tryd.func22, Tryd.ntmps22
    go_wp2_with fail
    refine (spec_VotesValid _ H.out hlen).mono ?_
    rw [hv]
    rintro e w1 ⟨rfl, b1⟩
    go_wp2
    go_returns
    exact ⟨rfl, ((Ext.refl _).alloc _).trans b1⟩
  have hl7 := votesOkS_len hv
  have HV := Lib.hid hv
  have hsz := sizeB_range set
  by_cases hs : setsB (xs.length : Int) [set] = true
  case neg =>
    obtain rfl : (0, false) = R := by rw [← HR.out, safeB, if_neg (fun h => hs h.2.1)]
    simp only [Bool.not_eq_true] at hs
    go_enter Tryd.func22, Tryd.ntmps22
    go_wp2_with fail
    refine (spec_VotesValid _ H.out hlen).mono ?_
    rw [hv]
    rintro e w1 ⟨rfl, b1⟩
    go_wp2_with fail
    refine (l32Valid_any _ _ (sets_one _ _ _) (by simp) (by omega)).mono ?_
    rw [hs]
    rintro e w2 ⟨rfl, b2⟩
    go_wp2
    go_returns
    exact ⟨rfl, ((((Ext.refl _).alloc _).trans b1).alloc _).trans b2⟩
  by_cases hm : (xs.length : Int) < 2 * sizeB set
  case neg =>
    obtain rfl : (0, false) = R := by rw [← HR.out, safeB, if_neg (fun h => hm h.2.2.1)]
    go_enter Tryd.func22, Tryd.ntmps22
    go_wp2_with fail
    refine (spec_VotesValid _ H.out hlen).mono ?_
    rw [hv]
    rintro e w1 ⟨rfl, b1⟩
    go_wp2_with fail
    refine (l32Valid_any _ _ (sets_one _ _ _) (by simp) (by omega)).mono ?_
    rw [hs]
    rintro e w2 ⟨rfl, b2⟩
    go_wp2_with fail
    refine (spec_SetSize set _).mono ?_
    rintro e w3 ⟨rfl, rfl⟩
    go_wp2
    go_returns
    exact ⟨rfl, ((((Ext.refl _).alloc _).trans b1).alloc _).trans b2⟩
  by_cases hw : inB wish 0 99 = true
  case neg =>
    obtain rfl : (0, false) = R := by rw [← HR.out, safeB, if_neg (fun h => hw h.2.2.2)]
    simp only [Bool.not_eq_true] at hw
    go_enter Tryd.func22, Tryd.ntmps22
    go_wp2_with fail
    refine (spec_VotesValid _ H.out hlen).mono ?_
    rw [hv]
    rintro e w1 ⟨rfl, b1⟩
    go_wp2_with fail
    refine (l32Valid_any _ _ (sets_one _ _ _) (by simp) (by omega)).mono ?_
    rw [hs]
    rintro e w2 ⟨rfl, b2⟩
    go_wp2_with fail
    refine (spec_SetSize set _).mono ?_
    rintro e w3 ⟨rfl, rfl⟩
    go_wp2_with ((go_at_call 37; refine (l1In_any _ _ _ _).mono ?_; rintro e w' ⟨rfl, rfl⟩))
    go_returns
    exact ⟨rfl, ((((Ext.refl _).alloc _).trans b1).alloc _).trans b2⟩
  have hset : ∃ n : Nat, set = (n : Int) ∧ n ≤ 127 := by
    have h1 := hs
    unfold setsB at h1
    rw [Bool.and_eq_true, Bool.and_eq_true, List.all_eq_true] at h1
    have h2 := inB_true.1 (h1.2.2 set (by simp))
    obtain ⟨n, hn⟩ := Int.eq_ofNat_of_zero_le h2.1
    have h3 : 2 ^ xs.length ≤ 128 := Nat.pow_le_pow_right (n := 2) (by omega) hl7.2
    simp only [Int.toNat_natCast] at h2
    exact ⟨n, hn, by omega⟩
  obtain ⟨n, rfl, hn128⟩ := hset
  have hfin : R = ((bestTo n xs wish xs.length).value, true) := by rw [← HR.out, safeB, if_pos ⟨hv, hs, hm, hw⟩, Int.toNat_natCast]
  subst hfin
  clear HR
  go_enter Tryd.func22, Tryd.ntmps22
  go_wp2_with fail
  refine (spec_VotesValid _ H.out hlen).mono ?_
  rw [hv]
  rintro e w1 ⟨rfl, b1⟩
  go_wp2_with fail
  refine (l32Valid_any _ _ (sets_one _ _ _) (by simp) (by omega)).mono ?_
  rw [hs]
  rintro e w2 ⟨rfl, b2⟩
  go_wp2_with fail
  refine (spec_SetSize n _).mono ?_
  rintro e w3 ⟨rfl, rfl⟩
  have B2 := Lib.hid ((b1.alloc (.cells #[.int .i64 (n : Int)] 3)).trans b2)
  have HW0 : Hid (Ext w w2 ∧ BlkN w2 w.heap.size 2 ∧ w2.cell? ⟨w.heap.size, 0, none⟩ = some (.int .i64 0) ∧ w2.cell? ⟨w.heap.size, 1, none⟩ = some (.int .i64 wish)) :=
    ⟨((Ext.refl w).alloc _).trans B2.out, (BlkN.made w #[.int .i64 0, .int .i64 wish] 45).ext B2.out, B2.out.cell (by go_cell), B2.out.cell (by go_cell)⟩
  have H2 := Lib.hid (H.out.ext B2.out)
  clear hs hv b1 b2 B2
  go_wp2_with ((go_at_call 37; refine (l1In_any _ _ _ _).mono ?_; rintro e w' ⟨rfl, rfl⟩))
  go_loopw [1, 9] (fun s i wr => Ext w wr ∧ ∃ k : Nat, k ≤ xs.length ∧ i = .int .i64 k ∧ s = .int .i64 ((n / 2 ^ k : Nat) : Int) ∧ BlkN wr w.heap.size 2 ∧ wr.cell? ⟨w.heap.size, 0, none⟩ = some (.int .i64 (bestTo n xs wish k).ballot) ∧ wr.cell? ⟨w.heap.size, 1, none⟩ = some (.int .i64 (bestTo n xs wish k).value)) (fun _ i _ => xs.length - (intOf i).toNat)
  case atStart => exact ⟨HW0.out.1, 0, Nat.zero_le _, rfl, by simp, HW0.out.2.1, HW0.out.2.2.1, HW0.out.2.2.2⟩
  case round =>
    clear HW0 H2
    obtain ⟨hb, k, hk, rfl, rfl, hblk, g0, g1⟩ := hrel
    by_cases hlt : k < xs.length
    · obtain ⟨x, hx⟩ := at_some hlt
      have hnext := bestTo_next n xs wish k
      have htb : n.testBit k = decide (n / 2 ^ k % 2 = 1) := Nat.testBit_eq_decide_div_mod_eq
      have hhalf : n / 2 ^ (k + 1) = n / 2 ^ k / 2 := by rw [Nat.pow_succ, Nat.div_div_eq_div_mul]
      have hal : n / 2 ^ k ≤ 127 := Nat.le_trans (Nat.div_le_self _ _) hn128
      obtain ⟨⟨bb, bv⟩, hbe⟩ : ∃ b, bestTo n xs wish k = b := ⟨_, rfl⟩
      rw [hbe] at g0 g1 hnext
      simp only at g0 g1
      obtain ⟨a, ha⟩ : ∃ a, n / 2 ^ k = a := ⟨_, rfl⟩
      rw [ha] at htb hhalf hal ⊢
      have HH := Lib.hid hhalf
      have HN := Lib.hid hnext
      obtain ⟨A', c', hA', hcc⟩ := id (HL.out.ext hb)
      injection hA' with e1 e2 e3
      subst e1 e3
      clear e2
      obtain ⟨b, off, rfl, hbl, hcell⟩ := hcc (by omega)
      have q0 : wr.cell? ⟨b, off + k * 2, none⟩ = some (.int .i64 x.ballot) := hcell k x hx 0 (by omega)
      have q1 : wr.cell? ⟨b, off + k * 2 + 1, none⟩ = some (.int .i64 x.value) := hcell k x hx 1 (by omega)
      have d0 := over_cell q0
      have d1 := over_cell q1
      have f0 := over_cell g0
      have f1 := over_cell g1
      have HBLK := Lib.hid hblk
      have G0 := Lib.hid g0
      have G1 := Lib.hid g1
      have Q0 := Lib.hid q0
      have Q1 := Lib.hid q1
      have Hx := Lib.hid hx
      have HTB := Lib.hid htb
      clear hx hcell hcc hnext htb hhalf hblk g0 g1 q0 q1 hbe ha
      by_cases hbit : a % 2 = 1
      · have hbf : bestIf n xs ⟨bb, bv⟩ k = if bb < x.ballot then x else ⟨bb, bv⟩ := by rw [bestIf, HTB.out, if_pos (by simpa using hbit), bestOf, Hx.out]
        have HBF := Lib.hid hbf
        have hr : (((a : Nat) : Int) % 2 == 1) = true := by rw [beq_iff_eq]; omega
        clear hbf
        by_cases hgt : bb < x.ballot
        · have hnx : Hid (bestTo n xs wish (k + 1) = x) := by show _ = _; rw [HN.out, HBF.out, if_pos hgt]
          go_wp2
          refine wp_region_over (by kernel_rfl) (by kernel_rfl) ?_
          repeat (go_big_quiet_step (fail))
          refine wpQuiet_nil ?_
          intro w3 hb3
          have B3 := Lib.hid (HBLK.out.ext hb3)
          have p0 := B3.out.free 0
          have p1 := B3.out.free 1
          have s0 := hb3.cell G0.out
          have s1 := hb3.cell G1.out
          have r0 := hb3.cell Q0.out
          have r1 := hb3.cell Q1.out
          have B4 := Lib.hid (B3.out.set ⟨w.heap.size, 0, none⟩ (.int .i64 x.ballot))
          go_wp2
          go_roundw
          case rel => exact ⟨((hb.trans hb3).setCell (Nat.le_refl _) _).setCell (Nat.le_refl _) _, k + 1, by omega, by go_num, by rw [HH.out]; go_num, B4.out.set _ _, by rw [hnx.out, cell_set_other (by intro e'; injection e' with _ e' _; omega)]; exact cell_set_self B3.out (by omega) _, by rw [hnx.out]; exact cell_set_self B4.out (by omega) _⟩
          case measure => simp [intOf]; omega
        · have hnx : Hid (bestTo n xs wish (k + 1) = ⟨bb, bv⟩) := by show _ = _; rw [HN.out, HBF.out, if_neg hgt]
          have hgd : decide (bb < x.ballot) = false := by simpa using hgt
          go_wp2
          refine wp_region_over (by kernel_rfl) (by kernel_rfl) ?_
          repeat (go_big_quiet_step (fail))
          refine wpQuiet_nil ?_
          intro w3 hb3
          go_wp2
          go_roundw
          case rel => exact ⟨hb.trans hb3, k + 1, by omega, by go_num, by rw [HH.out]; go_num, HBLK.out.ext hb3, by rw [hnx.out]; exact hb3.cell G0.out, by rw [hnx.out]; exact hb3.cell G1.out⟩
          case measure => simp [intOf]; omega
      · have hbf : bestIf n xs ⟨bb, bv⟩ k = ⟨bb, bv⟩ := by rw [bestIf, HTB.out, if_neg (by simpa using hbit)]
        have hnx : Hid (bestTo n xs wish (k + 1) = ⟨bb, bv⟩) := by show _ = _; rw [HN.out, hbf]
        have hr : (((a : Nat) : Int) % 2 == 1) = false := by rw [beq_eq_false_iff_ne]; omega
        clear hbf
        go_wp2
        refine wp_region_over (by kernel_rfl) (by kernel_rfl) ?_
        repeat (go_big_quiet_step (fail))
        refine wpQuiet_nil ?_
        intro w3 hb3
        go_wp2
        go_roundw
        case rel => exact ⟨hb.trans hb3, k + 1, by omega, by go_num, by rw [HH.out]; go_num, HBLK.out.ext hb3, by rw [hnx.out]; exact hb3.cell G0.out, by rw [hnx.out]; exact hb3.cell G1.out⟩
        case measure => simp [intOf]; omega
    · obtain rfl : k = xs.length := by omega
      go_wp2
      go_returns
      exact ⟨rfl, hb⟩
end Go.Proofs.YtiakkgpkkpaldaaDoor
