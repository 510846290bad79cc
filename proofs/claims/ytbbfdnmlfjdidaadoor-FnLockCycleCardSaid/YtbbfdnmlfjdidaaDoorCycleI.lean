/- Whether an owner waits for itself, by the program: Warshall's rounds over six words, LockCycle. -/
import Derived.Test.YtbbfdnmlfjdidaaDoorCycle
import Derived.Test.YtbbfdnmlfjdidaaDoorWaitsI
namespace Go.Proofs.YtbbfdnmlfjdidaaDoor
open Go.RowKit
set_option maxRecDepth 8000

def sixV (f : Nat → Nat) : Value := .agg #[.int .u64 (f 0 : Int), .int .u64 (f 1 : Int), .int .u64 (f 2 : Int), .int .u64 (f 3 : Int), .int .u64 (f 4 : Int), .int .u64 (f 5 : Int)]
theorem words_six (w : World) (f : Nat → Nat) (T : TypeId) : Words (w.alloc (.cells #[.int .u64 (f 0 : Int), .int .u64 (f 1 : Int), .int .u64 (f 2 : Int), .int .u64 (f 3 : Int), .int .u64 (f 4 : Int), .int .u64 (f 5 : Int)] T)) w.heap.size 6 f := by
  refine ⟨BlkN.made w #[.int .u64 (f 0 : Int), .int .u64 (f 1 : Int), .int .u64 (f 2 : Int), .int .u64 (f 3 : Int), .int .u64 (f 4 : Int), .int .u64 (f 5 : Int)] T, fun o ho => ?_⟩
  match o, ho with
  | 0, _ => exact (cell_of_row _ _ _ _ T (0, 0) (heap_alloc_new w _)).trans rfl
  | 1, _ => exact (cell_of_row _ _ _ _ T (0, 0) (heap_alloc_new w _)).trans rfl
  | 2, _ => exact (cell_of_row _ _ _ _ T (0, 0) (heap_alloc_new w _)).trans rfl
  | 3, _ => exact (cell_of_row _ _ _ _ T (0, 0) (heap_alloc_new w _)).trans rfl
  | 4, _ => exact (cell_of_row _ _ _ _ T (0, 0) (heap_alloc_new w _)).trans rfl
  | 5, _ => exact (cell_of_row _ _ _ _ T (0, 0) (heap_alloc_new w _)).trans rfl
theorem war_lt {f : Nat → Nat} (hf : ∀ o, f o < 64) (k x : Nat) : war f k x < 64 := by
  induction k generalizing x with
  | zero => exact hf x
  | succ k ih =>
    rw [war]
    split
    · exact Nat.or_lt_two_pow (n := 6) (ih x) (ih k)
    · exact ih x
theorem war_self (f : Nat → Nat) (k : Nat) : war f (k + 1) k = war f k k := by
  rw [war]
  split
  · simp
  · rfl
/-- What stands behind row i of round k. -/
def midW (f : Nat → Nat) (k i x : Nat) : Nat := if x < i then war f (k + 1) x else war f k x
theorem midW_k (f : Nat → Nat) (k i : Nat) : midW f k i k = war f k k := by
  unfold midW
  split
  · exact war_self f k
  · rfl
theorem midW_at (f : Nat → Nat) (k i : Nat) : midW f k i i = war f k i := by
  unfold midW
  rw [if_neg (by omega)]
theorem midW_next (f : Nat → Nat) (k i : Nat) : midW f k (i + 1) i = if (war f k i).testBit k = true then war f k i ||| war f k k else war f k i := by
  unfold midW
  rw [if_pos (by omega), war]
theorem midW_other (f : Nat → Nat) (k i x : Nat) (h : x ≠ i) : midW f k (i + 1) x = midW f k i x := by
  unfold midW
  by_cases h1 : x < i
  · rw [if_pos h1, if_pos (by omega)]
  · rw [if_neg h1, if_neg (by omega)]
set_option maxHeartbeats 1000000 in
theorem has_any (f : Nat → Nat) (i j : Nat) (w : World) (hi : i < 6) (hj : j < 6) (hf : ∀ o, f o < 64) :
    Calls Tryd.prog 84 #[sixV f, .int .i64 (i : Int), .int .i64 (j : Int)] w fun e w' => e = .returned (.bool ((f i).testBit j)) ∧ Ext w w' := by
  have hW := (words_six w f 86).2 i hi
  have i0 : (0 : Int) ≤ (i : Int) := by omega
  have i1 : (i : Int) < 6 := by omega
  have hfi := hf i
  have hbit := u64_bit (f i) j (by omega)
  obtain ⟨t, ht⟩ : ∃ t, (f i).testBit j = t := ⟨_, rfl⟩
  rw [ht] at hbit ⊢
  clear ht
  obtain ⟨n, hn⟩ : ∃ n, f i = n := ⟨_, rfl⟩
  rw [hn] at hbit hW
  have hn64 : n < 64 := by omega
  clear hn hfi hf
  unfold sixV
  cases t with
  | true =>
    rw [if_pos rfl] at hbit
    go_enter Tryd.func84, Tryd.ntmps84
    go_wp2
    go_returns
    exact ⟨rfl, (Ext.refl _).alloc _⟩
  | false =>
    rw [if_neg (by decide)] at hbit
    go_enter Tryd.func84, Tryd.ntmps84
    go_wp2
    go_returns
    exact ⟨rfl, (Ext.refl _).alloc _⟩
set_option maxHeartbeats 4000000 in
theorem reach_any (f : Nat → Nat) (w : World) (hf : ∀ o, f o < 64) :
    Calls Tryd.prog 83 #[sixV f] w fun e w' => e = .returned (sixV (war f 6)) ∧ Ext w w' := by
  have HF := Lib.hid (fun k x => war_lt hf k x)
  have hz := (words_six w f 86).ext ((Ext.refl (w.alloc (.cells #[.int .u64 (f 0 : Int), .int .u64 (f 1 : Int), .int .u64 (f 2 : Int), .int .u64 (f 3 : Int), .int .u64 (f 4 : Int), .int .u64 (f 5 : Int)] 86))).alloc (.cells #[.int .u64 0, .int .u64 0, .int .u64 0, .int .u64 0, .int .u64 0, .int .u64 0] 86))
  have HZ := Lib.hid hz
  have hb2 := BlkN.made (w.alloc (.cells #[.int .u64 (f 0 : Int), .int .u64 (f 1 : Int), .int .u64 (f 2 : Int), .int .u64 (f 3 : Int), .int .u64 (f 4 : Int), .int .u64 (f 5 : Int)] 86)) #[.int .u64 0, .int .u64 0, .int .u64 0, .int .u64 0, .int .u64 0, .int .u64 0] 86
  rw [show (w.alloc (.cells #[.int .u64 (f 0 : Int), .int .u64 (f 1 : Int), .int .u64 (f 2 : Int), .int .u64 (f 3 : Int), .int .u64 (f 4 : Int), .int .u64 (f 5 : Int)] 86)).heap.size = w.heap.size + 1 from by simp] at hb2
  have HB2 := Lib.hid hb2
  clear hz hb2 hf
  unfold sixV
  go_enter Tryd.func83, Tryd.ntmps83
  go_wp2
  go_loopw [5] (fun i wr => Ext w wr ∧ ∃ k : Nat, k ≤ 6 ∧ i = .int .i64 k ∧ Hid (BlkN wr (w.heap.size + 1) 6 ∧ Words wr w.heap.size 6 (war f k))) (fun i _ => 6 - (intOf i).toNat)
  case atStart => exact ⟨((Ext.refl _).alloc _).alloc _, 0, by omega, rfl, HB2.out, HZ.out⟩
  case round =>
    clear HZ HB2
    obtain ⟨hb, k, hk, rfl, HW⟩ := hrel
    by_cases hlt : k < 6
    · have hkd : decide ((k : Int) < 6) = true := by simp; omega
      have k0 : (0 : Int) ≤ (k : Int) := by omega
      have k1 : (k : Int) < 6 := by omega
      go_wp2
      go_loopw [8] (fun i wr => Ext w wr ∧ ∃ q : Nat, q ≤ 6 ∧ i = .int .i64 q ∧ Hid (BlkN wr (w.heap.size + 1) 6 ∧ Words wr w.heap.size 6 (midW f k q))) (fun i _ => 6 - (intOf i).toNat)
      case atStart => exact ⟨hb, 0, by omega, rfl, HW.out.1, HW.out.2.congr fun o _ => by unfold midW; rw [if_neg (by omega)]⟩
      case round =>
        clear HW hb
        obtain ⟨hb, q, hq, rfl, HI⟩ := hrel
        by_cases hq6 : q < 6
        · have q0 : (0 : Int) ≤ (q : Int) := by omega
          have q1 : (q : Int) < 6 := by omega
          have hqd : decide ((q : Int) < 6) = true := by simp; omega
          have cq := HI.out.2.2 q hq6
          rw [midW_at] at cq
          have ck := HI.out.2.2 k hlt
          rw [midW_k] at ck
          have HN := Lib.hid (midW_next f k q)
          have hn64 := HF.out k q
          have hm64 := HF.out k k
          obtain ⟨n, hn⟩ : ∃ n, war f k q = n := ⟨_, rfl⟩
          obtain ⟨m, hm⟩ : ∃ m, war f k k = m := ⟨_, rfl⟩
          have HN' := HN.out
          rw [hn] at cq hn64
          rw [hm] at ck hm64
          rw [hn, hm] at HN'
          have HNX := Lib.hid HN'
          have hbit := u64_bit n k (by omega)
          clear HN HN' hn hm
          by_cases ht : n.testBit k = true
          · rw [if_pos ht] at hbit
            have hv : Hid (midW f k (q + 1) q = n ||| m) := by show _ = _; rw [HNX.out, if_pos ht]
            have hor := u64_or n m (by omega) (by omega)
            have hfr := HI.out.2.1.free q
            have u0 : ({ wr with drawn := wr.drawn + 1 } : World).cell? ⟨w.heap.size, q, none⟩ = some (.int .u64 (n : Int)) := cq
            have u1 : ({ wr with drawn := wr.drawn + 1 } : World).cell? ⟨w.heap.size, k, none⟩ = some (.int .u64 (m : Int)) := ck
            clear ht
            go_wp2
            go_still_tail 7, (by kernel_rfl)
            change wpList _ _ _ _ _ wr.drew
            clear u0 u1
            go_wp2
            have X := (Ext.refl wr).drew
            have hW := (HI.out.2.ext X).set (j := q) (f' := midW f k (q + 1)) hq6 (fun o ho => midW_other f k q o ho)
            rw [hv.out] at hW
            have HWS := Lib.hid hW
            clear hW
            go_roundw
            case rel => exact ⟨(hb.trans X).setCell (Nat.le_refl _) _, q + 1, by omega, by go_num, (HI.out.1.ext X).set _ _, HWS.out⟩
            case measure => simp [intOf]; omega
          · rw [if_neg ht] at hbit
            have hv : Hid (midW f k (q + 1) q = n) := by show _ = _; rw [HNX.out, if_neg ht]
            have HC : Hid (Words wr w.heap.size 6 (midW f k (q + 1))) := ⟨HI.out.2.1, fun o ho => by
              by_cases e : o = q
              · subst e; rw [hv.out]; exact cq
              · rw [midW_other f k q o e]; exact HI.out.2.2 o ho⟩
            clear ht
            go_wp2
            go_roundw
            case rel => exact ⟨hb, q + 1, by omega, by go_num, HI.out.1, HC.out⟩
            case measure => simp [intOf]; omega
        · obtain rfl : q = 6 := by omega
          go_wp2
          go_roundw
          case rel => exact ⟨hb, k + 1, by omega, by go_num, HI.out.1, HI.out.2.congr fun o ho => by unfold midW; rw [if_pos (by omega)]⟩
          case measure => simp [intOf]; omega
    · obtain rfl : k = 6 := by omega
      have hA := Lib.hid HW.out.1
      have w0 := HW.out.2.2 0 (by omega)
      have w1 := HW.out.2.2 1 (by omega)
      have w2 := HW.out.2.2 2 (by omega)
      have w3 := HW.out.2.2 3 (by omega)
      have w4 := HW.out.2.2 4 (by omega)
      have w5 := HW.out.2.2 5 (by omega)
      obtain ⟨g, hg⟩ : ∃ g, war f 6 = g := ⟨_, rfl⟩
      have HGE := Lib.hid hg
      rw [hg] at w0 w1 w2 w3 w4 w5
      clear hg
      obtain ⟨y0, z0⟩ := hA.out.cell (j := 0) (by omega)
      obtain ⟨y1, z1⟩ := hA.out.cell (j := 1) (by omega)
      obtain ⟨y2, z2⟩ := hA.out.cell (j := 2) (by omega)
      obtain ⟨y3, z3⟩ := hA.out.cell (j := 3) (by omega)
      obtain ⟨y4, z4⟩ := hA.out.cell (j := 4) (by omega)
      obtain ⟨y5, z5⟩ := hA.out.cell (j := 5) (by omega)
      have s0 := cell_set_self hA.out (j := 0) (by omega) (.int .u64 (g 0 : Nat))
      have hA1 := Lib.hid (hA.out.set ⟨w.heap.size + 1, 0, none⟩ (.int .u64 (g 0 : Nat)))
      have s1 := cell_set_self hA1.out (j := 1) (by omega) (.int .u64 (g 1 : Nat))
      have hA2 := Lib.hid (hA1.out.set ⟨w.heap.size + 1, 1, none⟩ (.int .u64 (g 1 : Nat)))
      have s2 := cell_set_self hA2.out (j := 2) (by omega) (.int .u64 (g 2 : Nat))
      have hA3 := Lib.hid (hA2.out.set ⟨w.heap.size + 1, 2, none⟩ (.int .u64 (g 2 : Nat)))
      have s3 := cell_set_self hA3.out (j := 3) (by omega) (.int .u64 (g 3 : Nat))
      have hA4 := Lib.hid (hA3.out.set ⟨w.heap.size + 1, 3, none⟩ (.int .u64 (g 3 : Nat)))
      have s4 := cell_set_self hA4.out (j := 4) (by omega) (.int .u64 (g 4 : Nat))
      have hA5 := Lib.hid (hA4.out.set ⟨w.heap.size + 1, 4, none⟩ (.int .u64 (g 4 : Nat)))
      have s5 := cell_set_self hA5.out (j := 5) (by omega) (.int .u64 (g 5 : Nat))
      have f0 := hA.out.free 0
      have f1 := hA.out.free 1
      have f2 := hA.out.free 2
      have f3 := hA.out.free 3
      have f4 := hA.out.free 4
      have f5 := hA.out.free 5
      go_wp2
      refine bodyPost_ret (v := sixV g) (by simp [results, Tryd.results83, go_sem, s0, s1, s2, s3, s4, s5, sixV]) rfl ?_
      exact ⟨by rw [HGE.out]; rfl, (((((hb.setCell (Nat.le_succ _) _).setCell (Nat.le_succ _) _).setCell (Nat.le_succ _) _).setCell (Nat.le_succ _) _).setCell (Nat.le_succ _) _).setCell (Nat.le_succ _) _⟩
set_option maxHeartbeats 4000000 in
theorem around_any (f : Nat → Nat) (w : World) (hf : ∀ o, f o < 64) :
    Calls Tryd.prog 68 #[sixV f] w fun e w' => e = .returned (.bool ((List.range 6).any fun i => (war f 6 i).testBit i)) ∧ Ext w w' := by
  have HF := Lib.hid (fun k x => war_lt hf k x)
  have HF0 := Lib.hid hf
  obtain ⟨R, hR⟩ : ∃ R, ((List.range 6).any fun i => (war f 6 i).testBit i) = R := ⟨_, rfl⟩
  rw [hR]
  have HR := Lib.hid hR
  clear hR hf
  unfold sixV
  go_enter Tryd.func68, Tryd.ntmps68
  go_wp2_with fail
  refine (reach_any f _ HF0.out).mono ?_
  rintro e w1 ⟨rfl, b1⟩
  have HG := Lib.hid (fun x => HF.out 6 x)
  obtain ⟨g, hg⟩ : ∃ g, war f 6 = g := ⟨_, rfl⟩
  have hR := HR.out
  have hG := HG.out
  rw [hg] at hR hG ⊢
  have HR2 := Lib.hid hR
  have HG2 := Lib.hid hG
  clear hg HR HG hR hG HF HF0
  unfold sixV
  have HZ := Lib.hid (words_six w1 g 86)
  have hb := ((Ext.refl w).alloc (.cells #[.int .u64 (f 0 : Int), .int .u64 (f 1 : Int), .int .u64 (f 2 : Int), .int .u64 (f 3 : Int), .int .u64 (f 4 : Int), .int .u64 (f 5 : Int)] 86)).trans b1
  clear b1
  go_wp2
  go_loopw [7] (fun i wr => Ext w wr ∧ ∃ k : Nat, k ≤ 6 ∧ i = .int .i64 k ∧ Hid (Words wr w1.heap.size 6 g) ∧ Hid (∀ i, i < k → (g i).testBit i = false)) (fun i _ => 6 - (intOf i).toNat)
  case atStart => exact ⟨hb.alloc _, 0, by omega, rfl, HZ.out, fun _ h => absurd h (Nat.not_lt_zero _)⟩
  case round =>
    clear HZ hb
    obtain ⟨hb, k, hk, rfl, HW, HK⟩ := hrel
    by_cases hlt : k < 6
    · have hkd : decide ((k : Int) < 6) = true := by simp; omega
      have c0 := HW.out.2 0 (by omega)
      have c1 := HW.out.2 1 (by omega)
      have c2 := HW.out.2 2 (by omega)
      have c3 := HW.out.2 3 (by omega)
      have c4 := HW.out.2 4 (by omega)
      have c5 := HW.out.2 5 (by omega)
      obtain ⟨t, ht⟩ : ∃ t, (g k).testBit k = t := ⟨_, rfl⟩
      have HT := Lib.hid ht
      clear ht
      go_wp2_with fail
      refine (has_any g k k _ hlt hlt HG2.out).mono ?_
      rw [HT.out]
      rintro e w2 ⟨rfl, b2⟩
      cases t with
      | true =>
        have hf : Hid (true = R) := by show _ = _; rw [← HR2.out]; symm; rw [List.any_eq_true]; exact ⟨k, by simpa using hlt, HT.out⟩
        go_wp2
        go_returns
        exact ⟨ret_bool hf.out, hb.trans b2⟩
      | false =>
        have HW2 := Lib.hid (HW.out.ext b2)
        go_wp2
        go_roundw
        case rel => exact ⟨hb.trans b2, k + 1, by omega, by go_num, HW2.out, fun i hi => if e : i = k then e ▸ HT.out else HK.out i (by omega)⟩
        case measure => simp [intOf]; omega
    · obtain rfl : k = 6 := by omega
      have hf : Hid (false = R) := by
        show _ = _
        rw [← HR2.out]; symm
        rw [List.any_eq_false]
        intro o ho
        rw [HK.out o (by simpa using ho)]
        decide
      go_wp2
      go_returns
      exact ⟨ret_bool hf.out, hb⟩
set_option maxHeartbeats 4000000 in
theorem impl_LockCycle {v : Value} {xs : List Hold} (w : World) (h : SlOf 4 encHold w v xs) (hlen : xs.length ≤ 2097152) (hcap : ∀ A n c, v = .slice A n c → n ≤ c ∧ c ≤ 9223372036854775807) :
    Calls Tryd.prog 35 #[v] w fun e w' => e = .returned (.bool (cycleB xs)) ∧ Ext w w' := by
  have H := Lib.hid h
  have HC := Lib.hid hcap
  clear h hcap
  by_cases hv : holdsOk xs = true
  case neg =>
    have hf : Hid (cycleB xs = false) := by show _ = _; simp only [Bool.not_eq_true] at hv; rw [cycleB, hv]; rfl
    rw [hf.out]
    simp only [Bool.not_eq_true] at hv
    go_enter Tryd.func35, Tryd.ntmps35
    go_wp2_with fail
    refine (impl_HoldsValid _ H.out hlen HC.out).mono ?_
    rw [hv]
    rintro e w1 ⟨rfl, b1⟩
    go_wp2
    go_returns
    exact ⟨rfl, b1⟩
  have HV := Lib.hid hv
  obtain ⟨R, hR⟩ : ∃ R, cycleB xs = R := ⟨_, rfl⟩
  rw [hR]
  have HR : Hid (((List.range 6).any fun i => (war (Wof xs) 6 i).testBit i) = R) := by
    show _ = _
    rw [← hR, cycleB, hv, Bool.true_and, cycles_same (Wof_lt hv) (fun x hx => by unfold Wof; rw [if_neg (by omega)])]
  clear hv hR
  go_enter Tryd.func35, Tryd.ntmps35
  go_wp2_with fail
  refine (impl_HoldsValid _ H.out hlen HC.out).mono ?_
  rw [HV.out]
  rintro e w1 ⟨rfl, b1⟩
  go_wp2_with fail
  refine (waitsOf_any _ ((H.out.ext b1).ext ((Ext.refl _).alloc _)) HC.out HV.out).mono ?_
  rintro e w2 ⟨rfl, b2⟩
  have HZ := Lib.hid ((words_six w1 (fun _ => 0) 86).ext b2)
  have hb := (b1.alloc (.cells #[.int .u64 0, .int .u64 0, .int .u64 0, .int .u64 0, .int .u64 0, .int .u64 0] 86)).trans b2
  have hlo : w.heap.size ≤ w1.heap.size := b1.size
  obtain ⟨f, hfe⟩ : ∃ f : Nat → Nat, (fun (o : Nat) => waitsTo xs (o : Int) xs.length) = f := ⟨_, rfl⟩
  have HFE := Lib.hid hfe
  rw [hfe]
  clear b1 b2 hfe
  unfold fiveV
  go_wp2
  go_loopw [11] (fun i wr => Ext w wr ∧ ∃ k : Nat, k ≤ 5 ∧ i = .int .i64 k ∧ Hid (Words wr w1.heap.size 6 (fun x => if x < k then f x else 0))) (fun i _ => 5 - (intOf i).toNat)
  case atStart => exact ⟨hb, 0, by omega, rfl, HZ.out.congr fun o _ => by rw [if_neg (by omega)]⟩
  case round =>
    clear HZ hb
    obtain ⟨hb, k, hk, rfl, HW⟩ := hrel
    by_cases hlt : k < 5
    · have hkd : decide ((k : Int) < 5) = true := by simp; omega
      have k0 : (0 : Int) ≤ (k : Int) := by omega
      have k1 : (k : Int) < 6 := by omega
      have hix : ∀ W, (Instr.index 80 (.agg #[.int .u64 (f 0 : Int), .int .u64 (f 1 : Int), .int .u64 (f 2 : Int), .int .u64 (f 3 : Int), .int .u64 (f 4 : Int)]) (.int .i64 (k : Int))).run Tryd.prog W = .ok (.int .u64 (f k : Int)) W := by
        match k, hlt with
        | 0, _ => exact fun _ => by kernel_rfl
        | 1, _ => exact fun _ => by kernel_rfl
        | 2, _ => exact fun _ => by kernel_rfl
        | 3, _ => exact fun _ => by kernel_rfl
        | 4, _ => exact fun _ => by kernel_rfl
      obtain ⟨y, cy⟩ := HW.out.1.cell (j := k) (by omega)
      have hfr := HW.out.1.free k
      have hW := HW.out.set (j := k) (f' := fun x => if x < k + 1 then f x else 0) (by omega) (fun o ho => by
        by_cases h1 : o < k
        · rw [if_pos h1, if_pos (by omega)]
        · rw [if_neg h1, if_neg (by omega)])
      simp only [show k < k + 1 from Nat.lt_succ_self k, if_true] at hW
      have HWS := Lib.hid hW
      clear hW
      go_wp2
      go_roundw
      case rel => exact ⟨hb.setCell hlo _, k + 1, by omega, by go_num, HWS.out⟩
      case measure => simp [intOf]; omega
    · obtain rfl : k = 5 := by omega
      have hWof : Hid (Words wr w1.heap.size 6 (Wof xs)) := HW.out.congr fun o ho => by
        unfold Wof
        by_cases h5 : o < 5
        · rw [if_pos h5, if_pos h5, ← HFE.out]
        · rw [if_neg h5, if_neg h5]
      have hlt64 := fun o => Wof_lt HV.out o
      have H64 : Hid (∀ o, Wof xs o < 64) := fun o => by have := hlt64 o; omega
      clear hlt64 HFE
      obtain ⟨g, hg⟩ : ∃ g, Wof xs = g := ⟨_, rfl⟩
      have h1 := hWof.out
      have h2 := HR.out
      have h3 := H64.out
      rw [hg] at h1 h2 h3
      clear hg hWof HR H64
      have HW2 := Lib.hid h1
      have HR2 := Lib.hid h2
      have H64 := Lib.hid h3
      have c0 := HW2.out.2 0 (by omega)
      have c1 := HW2.out.2 1 (by omega)
      have c2 := HW2.out.2 2 (by omega)
      have c3 := HW2.out.2 3 (by omega)
      have c4 := HW2.out.2 4 (by omega)
      have c5 := HW2.out.2 5 (by omega)
      clear h1 h2 h3
      go_wp2_with fail
      refine (around_any g _ H64.out).mono ?_
      rw [HR2.out]
      rintro e w3 ⟨rfl, b3⟩
      go_wp2
      go_returns
      exact ⟨rfl, hb.trans b3⟩
end Go.Proofs.YtbbfdnmlfjdidaaDoor
