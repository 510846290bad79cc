/- Who waits for whom, by the program: waitsOf. -/
import Derived.Test.YtbbfdnmlfjdidaaDoorWaits
import Derived.Test.YtbbfdnmlfjdidaaDoorRedo64
import Derived.StillTailTactics
namespace Go.Proofs.YtbbfdnmlfjdidaaDoor
open Go.RowKit
set_option maxRecDepth 8000

/-- A block of the call's own that holds these small sets. -/
def Words (w : World) (g N : Nat) (f : Nat → Nat) : Prop := BlkN w g N ∧ ∀ o, o < N → w.cell? ⟨g, o, none⟩ = some (.int .u64 (f o : Int))
theorem Words.ext {w w' : World} {g N : Nat} {f : Nat → Nat} (h : Words w g N f) (hb : Ext w w') : Words w' g N f := ⟨h.1.ext hb, fun o ho => hb.cell (h.2 o ho)⟩
theorem Words.set {w : World} {g N : Nat} {f f' : Nat → Nat} {j : Nat} (h : Words w g N f) (hj : j < N) (hf : ∀ o, o ≠ j → f' o = f o) : Words (w.setCell ⟨g, j, none⟩ (.int .u64 (f' j : Int))) g N f' :=
  ⟨h.1.set _ _, fun o ho => by
    by_cases e : o = j
    · subst e; exact cell_set_self h.1 hj _
    · rw [cell_set_other (by intro e'; injection e' with _ e' _; omega), hf o e]; exact h.2 o ho⟩
theorem Words.congr {w : World} {g N : Nat} {f f' : Nat → Nat} (h : Words w g N f) (e : ∀ o, o < N → f' o = f o) : Words w g N f' := ⟨h.1, fun o ho => by rw [e o ho]; exact h.2 o ho⟩
theorem words_five (w : World) (T : TypeId) : Words (w.alloc (.cells #[.int .u64 0, .int .u64 0, .int .u64 0, .int .u64 0, .int .u64 0] T)) w.heap.size 5 (fun _ => 0) := by
  refine ⟨BlkN.made w #[.int .u64 0, .int .u64 0, .int .u64 0, .int .u64 0, .int .u64 0] T, fun o ho => ?_⟩
  match o, ho with
  | 0, _ => exact (cell_of_row _ _ _ _ T (0, 0) (heap_alloc_new w _)).trans rfl
  | 1, _ => exact (cell_of_row _ _ _ _ T (0, 0) (heap_alloc_new w _)).trans rfl
  | 2, _ => exact (cell_of_row _ _ _ _ T (0, 0) (heap_alloc_new w _)).trans rfl
  | 3, _ => exact (cell_of_row _ _ _ _ T (0, 0) (heap_alloc_new w _)).trans rfl
  | 4, _ => exact (cell_of_row _ _ _ _ T (0, 0) (heap_alloc_new w _)).trans rfl
/-- What is behind place j of lock k. -/
def midOf (xs : List Hold) (k : Nat) (x : Hold) (j : Nat) (o : Nat) : Nat := if x.owner = (o : Int) ∧ x.got = false then rowTo xs x (waitsTo xs (o : Int) k) j else waitsTo xs (o : Int) k
theorem midOf_end {xs : List Hold} {k : Nat} {x : Hold} (hx : xs[k]? = some x) (o : Nat) : midOf xs k x k o = waitsTo xs (o : Int) (k + 1) := by
  unfold midOf
  split
  · rename_i h; rw [waitsTo_yes hx h.1 h.2]
  · rename_i h; rw [waitsTo_no hx h]
theorem midOf_zero (xs : List Hold) (k : Nat) (x : Hold) (o : Nat) : midOf xs k x 0 o = waitsTo xs (o : Int) k := by
  unfold midOf
  split <;> rfl
theorem midOf_lt {xs : List Hold} {k : Nat} {x : Hold} (h : holdsOk xs = true) (j o : Nat) : midOf xs k x j o < 32 := by
  unfold midOf
  split
  · exact rowTo_lt h (waitsTo_lt h k) j
  · exact waitsTo_lt h k
theorem midOf_yes {xs : List Hold} {k j o : Nat} {x y : Hold} (hy : xs[j]? = some y) (hc : clashB y x = true) (ho : x.owner = (o : Int)) (hg : x.got = false) : midOf xs k x (j + 1) o = midOf xs k x j o ||| 2 ^ y.owner.toNat := by
  unfold midOf
  rw [if_pos ⟨ho, hg⟩, if_pos ⟨ho, hg⟩, rowTo_yes hy hc]
theorem midOf_other {xs : List Hold} {k j o q : Nat} {x : Hold} (ho : x.owner = (q : Int)) (hne : o ≠ q) (i : Nat) : midOf xs k x j o = midOf xs k x i o := by
  unfold midOf
  rw [if_neg (by rintro ⟨h, _⟩; omega), if_neg (by rintro ⟨h, _⟩; omega)]
theorem midOf_no {xs : List Hold} {k j o : Nat} {x y : Hold} (hy : xs[j]? = some y) (hc : clashB y x = false) : midOf xs k x (j + 1) o = midOf xs k x j o := by
  unfold midOf
  split
  · rw [rowTo_no hy hc]
  · rfl
theorem midOf_got {xs : List Hold} {k j o i : Nat} {x : Hold} (hg : x.got = true) : midOf xs k x j o = midOf xs k x i o := by
  unfold midOf
  rw [if_neg (by rintro ⟨_, h⟩; rw [hg] at h; cases h), if_neg (by rintro ⟨_, h⟩; rw [hg] at h; cases h)]
/-- The five sets as waitsOf returns them. -/
def fiveV (f : Nat → Nat) : Value := .agg #[.int .u64 (f 0 : Int), .int .u64 (f 1 : Int), .int .u64 (f 2 : Int), .int .u64 (f 3 : Int), .int .u64 (f 4 : Int)]
set_option maxHeartbeats 8000000 in
theorem waitsOf_any {v : Value} {xs : List Hold} (w : World) (h : SlOf 4 encHold w v xs) (hcap : ∀ A n c, v = .slice A n c → n ≤ c ∧ c ≤ 9223372036854775807) (hv : holdsOk xs = true) :
    Calls Tryd.prog 63 #[v] w fun e w' => e = .returned (fiveV fun (o : Nat) => waitsTo xs (o : Int) xs.length) ∧ Ext w w' := by
  have H := Lib.hid h
  obtain ⟨A, c, rfl, hc0⟩ := id h
  have HC := Lib.hid hc0
  obtain ⟨k1, k2⟩ := hcap _ _ _ rfl
  have hl16 : xs.length ≤ 16 := (allGood_true.1 hv).2
  have HV := Lib.hid hv
  clear h hc0 hcap hv
  have hz : Words ((w.alloc (.cells #[.int .u64 0, .int .u64 0, .int .u64 0, .int .u64 0, .int .u64 0] 80)).alloc (.cells #[.int .u64 0, .int .u64 0, .int .u64 0, .int .u64 0, .int .u64 0] 80)) (w.heap.size + 1) 5 (fun o => waitsTo xs (o : Int) 0) := by
    have hb := words_five (w.alloc (.cells #[.int .u64 0, .int .u64 0, .int .u64 0, .int .u64 0, .int .u64 0] 80)) 80
    rw [show (w.alloc (.cells #[.int .u64 0, .int .u64 0, .int .u64 0, .int .u64 0, .int .u64 0] 80)).heap.size = w.heap.size + 1 from by simp] at hb
    exact hb.congr fun _ _ => rfl
  have HZ := Lib.hid hz
  have hb2 : BlkN ((w.alloc (.cells #[.int .u64 0, .int .u64 0, .int .u64 0, .int .u64 0, .int .u64 0] 80)).alloc (.cells #[.int .u64 0, .int .u64 0, .int .u64 0, .int .u64 0, .int .u64 0] 80)) w.heap.size 5 := (BlkN.made w #[.int .u64 0, .int .u64 0, .int .u64 0, .int .u64 0, .int .u64 0] 80).ext ((Ext.refl _).alloc _)
  have HB2 := Lib.hid hb2
  clear hz hb2
  go_enter Tryd.func63, Tryd.ntmps63
  go_wp2
  go_loopw [10] (fun i wr => Ext w wr ∧ ∃ k : Nat, k ≤ xs.length ∧ i = .int .i64 k ∧ Hid (BlkN wr w.heap.size 5 ∧ Words wr (w.heap.size + 1) 5 (fun (o : Nat) => waitsTo xs (o : Int) k))) (fun i _ => xs.length - (intOf i).toNat)
  case atStart => exact ⟨((Ext.refl _).alloc _).alloc _, 0, Nat.zero_le _, rfl, HB2.out, HZ.out⟩
  case round =>
    clear HZ HB2
    obtain ⟨hb, k, hk, rfl, HW⟩ := hrel
    by_cases hlt : k < xs.length
    · obtain ⟨b, off, rfl, hbl, hcell⟩ := HC.out (by omega)
      obtain ⟨x, hx⟩ := at_some hlt
      have c0 := hb.cell (hcell k x hx 0 (by omega))
      have c1 := hb.cell (hcell k x hx 1 (by omega))
      have c2 := hb.cell (hcell k x hx 2 (by omega))
      have c3 := hb.cell (hcell k x hx 3 (by omega))
      simp only [encHold, Nat.add_zero] at c0 c1 c2 c3
      have HCELL := Lib.hid hcell
      have Hx := Lib.hid hx
      obtain ⟨qo, hqo⟩ := Int.eq_ofNat_of_zero_le (holds_owner HV.out hx).1
      have hq4 : qo ≤ 4 := by have := (holds_owner HV.out hx).2; omega
      have i0 : (0 : Int) ≤ (qo : Int) := by omega
      have i1 : (qo : Int) < 5 := by omega
      have hkc : (k : Int) ≤ (c : Int) := by omega
      obtain ⟨xo, xk, xw, xg⟩ := x
      simp only at hqo
      subst hqo
      obtain ⟨wo, rfl⟩ : ∃ wo : World, wo = wr := ⟨_, rfl⟩
      have hbw := hb.size
      have hw1 := HW.out.2.1.lt
      have HBOX := Lib.hid (Ext.refl wo |>.alloc (.cells #[.int .i64 (qo : Int), .int .i64 xk, .bool xw, .bool xg] 83))
      clear hcell hx HC
      go_wp2
      go_loopw [19] (fun i wq => Ext w wq ∧ wo.heap.size < wq.heap.size ∧ ∃ j : Nat, j ≤ k ∧ i = .int .i64 j ∧ Hid (wq.cell? ⟨wo.heap.size, 0, none⟩ = some (.int .i64 (qo : Int)) ∧ wq.cell? ⟨wo.heap.size, 1, none⟩ = some (.int .i64 xk) ∧ wq.cell? ⟨wo.heap.size, 2, none⟩ = some (.bool xw) ∧ wq.cell? ⟨wo.heap.size, 3, none⟩ = some (.bool xg) ∧ BlkN wq w.heap.size 5 ∧ Words wq (w.heap.size + 1) 5 (midOf xs k ⟨(qo : Int), xk, xw, xg⟩ j))) (fun i _ => k - (intOf i).toNat)
      case atStart => exact ⟨hb.alloc _, by simp, 0, Nat.zero_le _, rfl, by go_cell, by go_cell, by go_cell, by go_cell, HW.out.1.ext HBOX.out, (HW.out.2.ext HBOX.out).congr fun o _ => midOf_zero _ _ _ _⟩
      case round =>
        clear HBOX HW c0 c1 c2 c3
        obtain ⟨hb3, hsz, j, hj, rfl, HI⟩ := hrel
        obtain ⟨g0, g1, g2, g3, hA, hB⟩ := HI.out
        have HA := Lib.hid hA
        have HB := Lib.hid hB
        clear hA hB HI
        by_cases hjk : j < k
        · obtain ⟨y, hy⟩ := at_some (show j < xs.length by omega)
          have d0 := hb3.cell (HCELL.out j y hy 0 (by omega))
          have d1 := hb3.cell (HCELL.out j y hy 1 (by omega))
          have d2 := hb3.cell (HCELL.out j y hy 2 (by omega))
          have d3 := hb3.cell (HCELL.out j y hy 3 (by omega))
          simp only [encHold, Nat.add_zero] at d0 d1 d2 d3
          have hyo := holds_owner HV.out hy
          have Hy := Lib.hid hy
          clear hy
          cases xg with
          | true =>
            have HN := Lib.hid (fun o => midOf_got (xs := xs) (k := k) (j := j + 1) (i := j) (o := o) (x := ⟨(qo : Int), xk, xw, true⟩) rfl)
            have HX := Lib.hid ((Ext.refl wr).alloc (.cells #[.int .i64 y.owner, .int .i64 y.key, .bool y.write, .bool y.got] 83))
            go_wp2
            go_roundw
            case rel => exact ⟨hb3.alloc _, by simp; omega, j + 1, by omega, by go_num, HX.out.cell g0, HX.out.cell g1, HX.out.cell g2, HX.out.cell g3, HA.out.ext HX.out, (HB.out.ext HX.out).congr fun o _ => HN.out o⟩
            case measure => simp [intOf]; omega
          | false =>
            by_cases hcm : clashB ⟨(qo : Int), xk, xw, false⟩ y = true
            · obtain ⟨m, hm⟩ : ∃ m, midOf xs k ⟨(qo : Int), xk, xw, false⟩ j qo = m := ⟨_, rfl⟩
              have hm32 : m < 32 := by rw [← hm]; exact midOf_lt HV.out _ _
              have hcq := HB.out.2 qo (by omega)
              rw [hm] at hcq
              have hfr := HB.out.1.free qo
              have hor := u64_set m y.owner.toNat (by omega) (by omega)
              have HNX : Hid (m ||| 2 ^ y.owner.toNat = midOf xs k ⟨(qo : Int), xk, xw, false⟩ (j + 1) qo) := by
                show _ = _
                rw [midOf_yes Hy.out (by rw [clashB_symm]; exact hcm) rfl rfl, hm]
              have HN := Lib.hid (fun o (ho : o ≠ qo) => midOf_other (xs := xs) (k := k) (j := j + 1) (i := j) (x := ⟨(qo : Int), xk, xw, false⟩) rfl ho)
              have hcl := fun W => clashes_any ⟨(qo : Int), xk, xw, false⟩ y W
              rw [hcm] at hcl
              have HF := Lib.hid hcl
              have HX := Lib.hid ((Ext.refl wr).alloc (.cells #[.int .i64 y.owner, .int .i64 y.key, .bool y.write, .bool y.got] 83))
              clear hcl hm hcm
              go_wp2_with (go_at_call 81; refine (HF.out _).mono ?_; rintro e w4 ⟨rfl, b4⟩; have HX4 := Lib.hid (HX.out.trans b4); have v0 := HX4.out.cell g0; have v1 := HX4.out.cell hcq; have v2 := b4.cell (p := ⟨wr.heap.size, 0, none⟩) (v := .int .i64 y.owner) (by go_cell); have v3 := (HB.out.1.ext HX4.out).free qo; clear b4)
              have HG := Lib.hid (And.intro g0 (And.intro g1 (And.intro g2 g3)))
              clear d0 d1 d2 d3 g0 g1 g2 g3 hcq hfr
              have u0 : ({ w4 with drawn := w4.drawn + 1 } : World).cell? ⟨wo.heap.size, 0, none⟩ = some (.int .i64 (qo : Int)) := v0
              have u1 : ({ w4 with drawn := w4.drawn + 1 } : World).cell? ⟨w.heap.size + 1, qo, none⟩ = some (.int .u64 (m : Int)) := v1
              have u2 : ({ w4 with drawn := w4.drawn + 1 } : World).cell? ⟨wr.heap.size, 0, none⟩ = some (.int .i64 y.owner) := v2
              go_still_tail 8, (by kernel_rfl)
              change wpList _ _ _ _ _ w4.drew
              clear u0 u1 u2
              go_wp2
              have X := HX4.out.drew
              have hW := (HB.out.ext X).set (j := qo) (f' := midOf xs k ⟨(qo : Int), xk, xw, false⟩ (j + 1)) (by omega) HN.out
              rw [← HNX.out] at hW
              have HWS := Lib.hid hW
              have hne : ∀ q v, w4.drew.cell? ⟨wo.heap.size, q, none⟩ = some v → (w4.drew.setCell ⟨w.heap.size + 1, qo, none⟩ (.int .u64 ((m ||| 2 ^ y.owner.toNat : Nat) : Int))).cell? ⟨wo.heap.size, q, none⟩ = some v := fun q v hv => by
                rw [cell_set_other]
                · exact hv
                · intro e'
                  injection e' with e' _ _
                  omega
              have HNE := Lib.hid hne
              clear hW hne
              go_roundw
              case rel => exact ⟨(hb3.trans X).setCell (by simp) _, by have := X.size; simp at this ⊢; omega, j + 1, by omega, by go_num, HNE.out _ _ (X.cell HG.out.1), HNE.out _ _ (X.cell HG.out.2.1), HNE.out _ _ (X.cell HG.out.2.2.1), HNE.out _ _ (X.cell HG.out.2.2.2), (HA.out.ext X).set _ _, HWS.out⟩
              case measure => simp [intOf]; omega
            · simp only [Bool.not_eq_true] at hcm
              have HN := Lib.hid (fun o => midOf_no (k := k) (o := o) (x := ⟨(qo : Int), xk, xw, false⟩) Hy.out (by rw [clashB_symm]; exact hcm))
              have hcl := fun W => clashes_any ⟨(qo : Int), xk, xw, false⟩ y W
              rw [hcm] at hcl
              have HF := Lib.hid hcl
              have HX := Lib.hid ((Ext.refl wr).alloc (.cells #[.int .i64 y.owner, .int .i64 y.key, .bool y.write, .bool y.got] 83))
              clear hcl hcm
              go_wp2_with (go_at_call 81; refine (HF.out _).mono ?_; rintro e w4 ⟨rfl, b4⟩; have HX4 := Lib.hid (HX.out.trans b4); clear b4)
              go_roundw
              case rel => exact ⟨hb3.trans HX4.out, by have := HX4.out.size; omega, j + 1, by omega, by go_num, HX4.out.cell g0, HX4.out.cell g1, HX4.out.cell g2, HX4.out.cell g3, HA.out.ext HX4.out, (HB.out.ext HX4.out).congr fun o _ => HN.out o⟩
              case measure => simp [intOf]; omega
        · obtain rfl : j = k := by omega
          have HE := Lib.hid (fun o => midOf_end (xs := xs) (x := ⟨(qo : Int), xk, xw, xg⟩) Hx.out o)
          go_wp2
          go_roundw
          case rel => exact ⟨hb3, j + 1, by omega, by go_num, HA.out, HB.out.congr fun o _ => (HE.out o).symm⟩
          case measure => simp [intOf]; omega
    · obtain rfl : k = xs.length := by omega
      have hA := Lib.hid HW.out.1
      have w0 := HW.out.2.2 0 (by omega)
      have w1 := HW.out.2.2 1 (by omega)
      have w2 := HW.out.2.2 2 (by omega)
      have w3 := HW.out.2.2 3 (by omega)
      have w4 := HW.out.2.2 4 (by omega)
      obtain ⟨y0, z0⟩ := hA.out.cell (j := 0) (by omega)
      obtain ⟨y1, z1⟩ := hA.out.cell (j := 1) (by omega)
      obtain ⟨y2, z2⟩ := hA.out.cell (j := 2) (by omega)
      obtain ⟨y3, z3⟩ := hA.out.cell (j := 3) (by omega)
      obtain ⟨y4, z4⟩ := hA.out.cell (j := 4) (by omega)
      have s0 := cell_set_self hA.out (j := 0) (by omega) (.int .u64 (waitsTo xs 0 xs.length : Nat))
      have hA1 := Lib.hid (hA.out.set ⟨w.heap.size, 0, none⟩ (.int .u64 (waitsTo xs 0 xs.length : Nat)))
      have s1 := cell_set_self hA1.out (j := 1) (by omega) (.int .u64 (waitsTo xs 1 xs.length : Nat))
      have hA2 := Lib.hid (hA1.out.set ⟨w.heap.size, 1, none⟩ (.int .u64 (waitsTo xs 1 xs.length : Nat)))
      have s2 := cell_set_self hA2.out (j := 2) (by omega) (.int .u64 (waitsTo xs 2 xs.length : Nat))
      have hA3 := Lib.hid (hA2.out.set ⟨w.heap.size, 2, none⟩ (.int .u64 (waitsTo xs 2 xs.length : Nat)))
      have s3 := cell_set_self hA3.out (j := 3) (by omega) (.int .u64 (waitsTo xs 3 xs.length : Nat))
      have hA4 := Lib.hid (hA3.out.set ⟨w.heap.size, 3, none⟩ (.int .u64 (waitsTo xs 3 xs.length : Nat)))
      have s4 := cell_set_self hA4.out (j := 4) (by omega) (.int .u64 (waitsTo xs 4 xs.length : Nat))
      have f0 := hA.out.free 0
      have f1 := hA.out.free 1
      have f2 := hA.out.free 2
      have f3 := hA.out.free 3
      have f4 := hA.out.free 4
      go_wp2
      refine bodyPost_ret (v := fiveV fun (o : Nat) => waitsTo xs (o : Int) xs.length) (by simp [results, Tryd.results63, go_sem, s0, s1, s2, s3, s4, fiveV]) rfl ?_
      exact ⟨rfl, ((((hb.setCell (Nat.le_refl _) _).setCell (Nat.le_refl _) _).setCell (Nat.le_refl _) _).setCell (Nat.le_refl _) _).setCell (Nat.le_refl _) _⟩
end Go.Proofs.YtbbfdnmlfjdidaaDoor
