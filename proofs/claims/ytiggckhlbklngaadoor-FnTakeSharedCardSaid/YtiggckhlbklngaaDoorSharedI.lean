/- Shared sets of the program. -/
import Derived.Test.YtiggckhlbklngaaDoorSharedL
import Derived.Test.YtiggckhlbklngaaDoorLeaf
import Derived.Test.YtiggckhlbklngaaDoorDraw
namespace Go.Proofs.YtiggckhlbklngaaDoor
open Go.RowKit
set_option maxRecDepth 8000

/-- A list of the call's own, with its cap. -/
def Val0 (lo : Nat) (w : World) (v : Value) (xs : List Int) : Prop := Sl1 encI w v xs ∧ Own lo w v ∧ ∀ A n c, v = .slice A n c → n ≤ c ∧ c ≤ 9223372036854775807
theorem Val0.ext {lo : Nat} {w w' : World} {v : Value} {xs : List Int} (h : Val0 lo w v xs) (hb : Ext w w') : Val0 lo w' v xs := ⟨h.1.ext hb, h.2.1.ext hb, h.2.2⟩
theorem Val0.low {lo lo' : Nat} {w : World} {v : Value} {xs : List Int} (h : Val0 lo w v xs) (hl : lo' ≤ lo) : Val0 lo' w v xs := ⟨h.1, h.2.1.mono hl, h.2.2⟩
theorem Val0.of_row {e lo : Nat} {w : World} {v : Value} {xs : List Int} (h : Row e 1 (one encI) lo w v xs) : Val0 lo w v xs := ⟨h.cell.1.to1, h.cell.2, h.cap⟩
theorem Val0.ex {lo rb : Nat} {w w' : World} {v : Value} {xs : List Int} (h : Val0 lo w v xs) (hx : Ex rb w w') (hl : rb < lo) : Val0 lo w' v xs := ⟨h.1.off hx (h.2.1.off hl), h.2.1.ex hx hl, h.2.2⟩
theorem Val0.set {lo g i : Nat} {w : World} {u v : Value} {xs : List Int} (h : Val0 lo w v xs) (hg : g < lo) : Val0 lo (w.setCell ⟨g, i, none⟩ u) v xs := h.ex (grownBy_set w g i u) hg
theorem Val0.nil (lo : Nat) (w : World) : Val0 lo w (.slice none 0 0) [] := ⟨Sl1.nil _ _ _ _, Own.nil _ _ _ _, fun A n c h => by injection h with _ h2 h3; omega⟩
/-- The bits of good numbers. -/
def setV (xs : List Int) : Nat := if okS xs then setL xs else 0
set_option maxHeartbeats 2000000 in
theorem setOf_any {v : Value} {xs : List Int} (w : World) (h : Sl1 encI w v xs) (hlen : xs.length ≤ 2097152) :
    Calls Tryd.prog 75 #[v] w fun e w' => e = .returned (.tuple #[.int .u64 (setV xs : Nat), .bool (decide (okS xs))]) ∧ w = w' := by
  obtain ⟨A, c, rfl, hc⟩ := id h
  have HC := Lib.hid hc
  clear h hc
  obtain ⟨B, hB⟩ : ∃ B, decide (okS xs) = B := ⟨_, rfl⟩
  obtain ⟨V, hV⟩ : ∃ V, setV xs = V := ⟨_, rfl⟩
  have HB := Lib.hid hB
  have HV := Lib.hid hV
  rw [hB, hV]
  clear hB hV
  go_enter Tryd.func75, Tryd.ntmps75
  go_wp2
  go_loop [4, 5, 10] (fun s t i => ∃ (q S : Nat) (L : Int), q ≤ xs.length ∧ s = .int .u64 (S : Int) ∧ t = .int .i64 L ∧ i = .int .i64 q ∧ S < 2147483648 ∧ -1 ≤ L ∧ L ≤ 30 ∧ Hid (okS (xs.take q) ∧ S = setL (xs.take q) ∧ L = lastOf (xs.take q))) (fun _ _ i => xs.length - (intOf i).toNat)
  case atStart => exact ⟨0, 0, -1, Nat.zero_le _, rfl, rfl, rfl, by omega, by omega, by omega, okS_nil, rfl, rfl⟩
  case round =>
    obtain ⟨q, S, L, hq, rfl, rfl, rfl, hS, hL1, hL2, HI⟩ := hrel
    by_cases hlt : q < xs.length
    · obtain ⟨b, off, rfl, hbl, hcell⟩ := HC.out (by omega)
      obtain ⟨x, hx⟩ := at_some hlt
      have c0 : w.cell? ⟨b, off + q, none⟩ = some (.int .i64 x) := hcell q x hx
      have htk : xs.take (q + 1) = xs.take q ++ [x] := by rw [List.take_add_one, hx]; rfl
      have HTK := Lib.hid htk
      clear hx hcell htk
      cases hin : inB x (L + 1) 30 with
      | true =>
        have hx1 := inB_true.1 hin
        obtain ⟨j, rfl⟩ := Int.eq_ofNat_of_zero_le (show 0 ≤ x by omega)
        have hj : j ≤ 30 := by omega
        have hor := u64_set S j (by omega) (by omega)
        have HN : Hid (okS (xs.take (q + 1)) ∧ (S ||| 2 ^ j) = setL (xs.take (q + 1)) ∧ (j : Int) = lastOf (xs.take (q + 1))) := by
          have hok : okS (xs.take (q + 1)) := by rw [HTK.out]; exact okS_snoc.2 ⟨HI.out.1, by rw [← HI.out.2.2]; exact hin⟩
          refine ⟨hok, ?_, ?_⟩
          · rw [HTK.out, setL_snoc, ← HI.out.2.1]; rfl
          · rw [HTK.out, lastOf_snoc]
        have hlt31 : (S ||| 2 ^ j) < 2147483648 := by rw [HN.out.2.1]; exact setL_lt HN.out.1
        obtain ⟨T, hT⟩ : ∃ T, S ||| 2 ^ j = T := ⟨_, rfl⟩
        rw [hT] at hor HN hlt31
        clear hT hx1
        go_wp2_with fail
        refine (within_any _ _ _ _).mono ?_
        rw [hin]
        rintro e w1 ⟨rfl, rfl⟩
        go_wp2
        go_round
        case rel => exact ⟨q + 1, T, (j : Int), by omega, by go_num, rfl, by go_num, hlt31, by omega, by omega, HN.out⟩
        case measure => simp [intOf]; omega
      | false =>
        have hno : ¬ okS xs := fun h => by
          have := okS_take h (q + 1)
          rw [HTK.out] at this
          have := (okS_snoc.1 this).2
          rw [← HI.out.2.2, hin] at this
          cases this
        have HF : Hid (B = false ∧ V = 0) := by
          refine ⟨by rw [← HB.out]; exact decide_eq_false hno, ?_⟩
          rw [← HV.out]; unfold setV; rw [if_neg hno]
        clear hno
        go_wp2_with fail
        refine (within_any _ _ _ _).mono ?_
        rw [hin]
        rintro e w1 ⟨rfl, rfl⟩
        go_wp2
        go_returns
        exact ⟨by rw [HF.out.1, HF.out.2]; rfl, rfl⟩
    · obtain rfl : q = xs.length := by omega
      have HF : Hid (B = true ∧ V = S) := by
        have h1 := HI.out
        rw [List.take_length] at h1
        refine ⟨by rw [← HB.out]; exact decide_eq_true h1.1, ?_⟩
        rw [← HV.out]; unfold setV; rw [if_pos h1.1, h1.2.1]
      go_wp2
      go_returns
      exact ⟨by rw [HF.out.1, HF.out.2]; rfl, rfl⟩
theorem setV_lt (xs : List Int) : setV xs < 2147483648 := by
  unfold setV
  split
  · exact setL_lt ‹_›
  · omega
theorem okSh_bits (i o : List Int) : okSh i o = (decide (okS i) && decide (okS o) && (dif (setV o) (setV i) == 0)) := by
  by_cases hi : okS i
  · by_cases ho : okS o
    · unfold okSh setV
      rw [if_pos hi, if_pos ho, decide_eq_true hi, decide_eq_true ho]
      simp only [Bool.true_and]
      rw [Bool.eq_iff_iff, beq_iff_eq, dif_none hi ho]
      simp only [List.all_eq_true, List.any_eq_true, beq_iff_eq]
      exact ⟨fun h y hy => by obtain ⟨x, hx, rfl⟩ := h y hy; exact hx, fun h y hy => ⟨y, h y hy, rfl⟩⟩
    · simp [okSh, ho]
  · simp [okSh, hi]
set_option maxHeartbeats 2000000 in
theorem sets_any {vi vo : Value} {i o : List Int} (w : World) (hi : Sl1 encI w vi i) (ho : Sl1 encI w vo o) (hli : i.length ≤ 2097152) (hlo : o.length ≤ 2097152) :
    Calls Tryd.prog 58 #[.agg #[vi, vo]] w fun e w' => e = .returned (.tuple #[.int .u64 (setV i : Nat), .int .u64 (setV o : Nat), .bool (okSh i o)]) ∧ Ext w w' := by
  have HI := Lib.hid hi
  have HO := Lib.hid ho
  have hE : Ext w (w.alloc (.cells #[vi, vo] 40)) := (Ext.refl w).alloc _
  have HE := Lib.hid hE
  have h1 := setOf_any _ (HI.out.ext hE) hli
  have h2 := setOf_any _ (HO.out.ext hE) hlo
  have hb := okSh_bits i o
  have hd := u64_dif (setV o) (setV i) (by have := setV_lt o; omega) (by have := setV_lt i; omega)
  obtain ⟨a, ha⟩ : ∃ a, setV i = a := ⟨_, rfl⟩
  obtain ⟨b, hbb⟩ : ∃ b, setV o = b := ⟨_, rfl⟩
  obtain ⟨p, hp⟩ : ∃ p, decide (okS i) = p := ⟨_, rfl⟩
  obtain ⟨q, hq⟩ : ∃ q, decide (okS o) = q := ⟨_, rfl⟩
  obtain ⟨r, hr⟩ : ∃ r, okSh i o = r := ⟨_, rfl⟩
  obtain ⟨d, hdd⟩ : ∃ d, dif b a = d := ⟨_, rfl⟩
  rw [ha, hp] at h1
  rw [hbb, hq] at h2
  rw [hr, hp, hq, hbb, ha, hdd] at hb
  rw [hbb, ha, hdd] at hd
  rw [ha, hbb, hr]
  have H1 := Lib.hid h1
  have H2 := Lib.hid h2
  have HB := Lib.hid hb
  clear hi ho hE h1 h2 hb ha hbb hp hq hr hdd
  have hcase : p = false ∨ (p = true ∧ q = false) ∨ (p = true ∧ q = true) := by cases p <;> cases q <;> simp
  rcases hcase with rfl | ⟨rfl, rfl⟩ | ⟨rfl, rfl⟩
  case' inl =>
    have hr : r = false := by rw [HB.out]; rfl
  case' inr.inl =>
    have hr : r = false := by rw [HB.out]; rfl
  case' inr.inr =>
    have hr : r = (d == 0) := by rw [HB.out]; rfl
    have hdz : ((d : Int) == 0) = r := by rw [hr, Bool.eq_iff_iff, beq_iff_eq, beq_iff_eq]; omega
    clear hr
  all_goals
    go_enter Tryd.func58, Tryd.ntmps58
    go_wp2_with fail
    refine H1.out.mono ?_
    rintro e w1 ⟨rfl, rfl⟩
    go_wp2_with fail
    refine H2.out.mono ?_
    rintro e w2 ⟨rfl, rfl⟩
    go_wp2
    go_returns
    exact ⟨by first | rfl | (rw [hr]; rfl), HE.out⟩
theorem impl_SharedValid {vi vo : Value} {i o : List Int} (w : World) (hi : Sl1 encI w vi i) (ho : Sl1 encI w vo o) (hli : i.length ≤ 2097152) (hlo : o.length ≤ 2097152) :
    Calls Tryd.prog 28 #[.agg #[vi, vo]] w fun e w' => e = .returned (.bool (okSh i o)) ∧ Ext w w' := by
  have hE : Ext w (w.alloc (.cells #[vi, vo] 40)) := (Ext.refl w).alloc _
  have HS := Lib.hid (sets_any _ (hi.ext hE) (ho.ext hE) hli hlo)
  have HE := Lib.hid hE
  clear hi ho hE
  go_enter Tryd.func28, Tryd.ntmps28
  go_wp2_with fail
  refine HS.out.mono ?_
  rintro e w1 ⟨rfl, b1⟩
  go_wp2
  go_returns
  exact ⟨rfl, HE.out.trans b1⟩
/-- A shared set of the call's own is returned. -/
def RetSh (w : World) (i o : List Int) (e : Ending) (w' : World) : Prop := ∃ vi vo, e = .returned (.agg #[vi, vo]) ∧ Val0 w.heap.size w' vi i ∧ Val0 w.heap.size w' vo o ∧ Ext w w'
theorem box_facts {W : World} {g : Nat} (h : BlkN W g 2) (x y : Value) : W.frozen? ⟨g, 0, none⟩ = false ∧ W.frozen? ⟨g, 1, none⟩ = false ∧ (∃ d, W.cell? ⟨g, 0, none⟩ = some d) ∧ (∃ d, W.cell? ⟨g, 1, none⟩ = some d) ∧
    (W.setCell ⟨g, 0, none⟩ x).cell? ⟨g, 0, none⟩ = some x ∧ ((W.setCell ⟨g, 0, none⟩ x).setCell ⟨g, 1, none⟩ y).cell? ⟨g, 1, none⟩ = some y := by
  obtain ⟨cs, t, hg, hs⟩ := id h
  refine ⟨h.free 0, h.free 1, h.cell (by omega), h.cell (by omega), ?_, ?_⟩
  · simp [World.cell?, World.setCell, Array.getElem?_modify, hg, hs]
  · simp [World.cell?, World.setCell, Array.getElem?_modify, hg, hs]
set_option maxHeartbeats 1000000 in
theorem sharedOf_any (a b : Nat) (w : World) (ha : a < 2 ^ 31) (hb : b < 2 ^ 31) (hT : Tab64 1 w) :
    Calls Tryd.prog 59 #[.int .u64 (a : Int), .int .u64 (b : Int)] w (RetSh w (memb31 a) (memb31 b)) := by
  have hE : Ext w (w.alloc (.cells #[.slice none 0 0, .slice none 0 0] 40)) := (Ext.refl w).alloc _
  have HT := Lib.hid hT
  have HE := Lib.hid hE
  have HAB := Lib.hid (And.intro ha hb)
  clear hE hT ha hb
  go_enter Tryd.func59, Tryd.ntmps59
  go_wp2_with fail
  refine (members_31 a _ HAB.out.1 (HT.out.ext HE.out)).mono ?_
  rintro e w1 ⟨v1, rfl, h1, b1⟩
  have HE1 := Lib.hid (HE.out.trans b1)
  have H1 := Lib.hid h1
  obtain ⟨A1, c1, rfl, -⟩ := H1.out.cell.1
  have hblk := (BlkN.made w #[.slice none 0 0, .slice none 0 0] 40).ext b1
  have HBLK := Lib.hid hblk
  clear b1 h1 hblk
  go_wp2_with fail
  refine (members_31 b _ HAB.out.2 (HT.out.ext HE1.out)).mono ?_
  rintro e w2 ⟨v2, rfl, h2, b2⟩
  have hblk := HBLK.out.ext b2
  have HE2 := Lib.hid (HE1.out.trans b2)
  have V1 := Lib.hid ((Val0.of_row H1.out).ext b2)
  have V2 := Lib.hid (Val0.of_row h2)
  have hs1 : w.heap.size < w1.heap.size := by have := HBLK.out.lt; exact this
  obtain ⟨A2, c2, rfl, -⟩ := h2.cell.1
  obtain ⟨hf0, hf1, ⟨d0, hd0⟩, ⟨d1, hd1⟩, hs0, hs1'⟩ := box_facts hblk (.slice A1 (memb31 a).length c1) (.slice A2 (memb31 b).length c2)
  clear b2 h2 hblk
  go_wp2
  refine bodyPost_ret (v := .agg #[.slice A1 (memb31 a).length c1, .slice A2 (memb31 b).length c2]) (by simp [results, Tryd.results59, go_sem, hs0, hs1']) rfl ?_
  refine ⟨_, _, rfl, ?_, ?_, (HE2.out.setCell (Nat.le_refl _) _).setCell (Nat.le_refl _) _⟩
  · exact ((V1.out.set (by simp)).set (by simp)).low (by simp)
  · exact ((V2.out.set hs1).set hs1).low (Nat.le_of_lt hs1)
end Go.Proofs.YtiggckhlbklngaaDoor
