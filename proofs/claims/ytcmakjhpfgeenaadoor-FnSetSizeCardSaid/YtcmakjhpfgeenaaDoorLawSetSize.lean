/- The walk of laws.FnSetSize: it answers true. -/
import Derived.Test.YtcmakjhpfgeenaaDoorSetSize
import Derived.Test.YtcmakjhpfgeenaaDoorPick
import Derived.Test.YtcmakjhpfgeenaaDoorAlive
namespace Go.Proofs.YtcmakjhpfgeenaaDoor
open Go.RowKit

/-- A number was drawn. -/
def DrawnI (lo hi : Int) (w : World) (en : Ending) (w' : World) : Prop := ∃ s : Int, en = .returned (.int .i64 s) ∧ lo ≤ s ∧ s ≤ hi ∧ Ext w w'
set_option maxHeartbeats 1000000 in
theorem DrawSetSize_any {v : Value} (w : World) (h : CodeIn w v) : Calls Tryd.prog 14 #[v] w (DrawnI (-1) 128 w) := by
  have H := Lib.hid h
  clear h
  go_enter Tryd.func14, Tryd.ntmps14
  go_wp2_with fail
  refine (open_code _ H.out).mono ?_
  rintro e w1 ⟨rb, rfl, hl, r1, b1⟩
  have hr1 := r1.lt
  go_wp2_with fail
  refine (pick_any rb _ 128 _ r1 (by omega) (by omega) (by omega)).mono ?_
  rintro e w2 ⟨S, rfl, s0, s1, r2, x2⟩
  go_wp2_with fail
  refine (pick_any rb _ 7 _ ((r2.alloc _).alloc _) (by omega) (by omega) (by omega)).mono ?_
  rintro e w3 ⟨p, rfl, p0, p1, r3, x3⟩
  obtain ⟨p, rfl⟩ := Int.eq_ofNat_of_zero_le p0
  have hr2 : rb < w2.heap.size := Nat.lt_of_lt_of_le hr1 x2.size
  obtain ⟨u, cu, y, rfl, hy⟩ := lit_at (fun v => ∃ y : Int, v = .int .i64 y ∧ 0 ≤ y ∧ y ≤ 3) x3 (by simp; omega) p (by simp; omega) (by simp)
  obtain ⟨y, rfl⟩ := Int.eq_ofNat_of_zero_le hy.1
  obtain ⟨u, cu2, z, rfl, hz⟩ := lit_at (fun v => ∃ y : Int, v = .int .i64 y ∧ -1 ≤ y ∧ y ≤ 128) (((Ex.refl rb (w2.alloc (.cells #[.int .i64 S, .int .i64 127, .int .i64 128, .int .i64 (-1)] 3))).alloc _).trans x3) hr2 y (by simp; omega) (by simp; omega)
  have HB := Lib.hid (b1.ex (((x2.alloc _).alloc _).trans x3) hl)
  clear r1 r2 r3 x2 x3 b1
  rw [size_alloc_] at cu
  go_wp2
  go_returns
  exact ⟨z, rfl, hz.1, hz.2, HB.out⟩
theorem pc_rest (n : Nat) (h : n ≤ 127) : pc n + pc (127 - n) = 7 := by
  have h1 : ((List.range 128).all fun n => pc n + pc (127 - n) == 7) = true := by decide +kernel
  simpa using List.all_eq_true.1 h1 n (by simp; omega)
theorem pc_zero (n : Nat) (h : n ≤ 127) : pc n = 0 ↔ n = 0 := by
  have h1 : ((List.range 128).all fun n => (pc n == 0) == (n == 0)) = true := by decide +kernel
  have := List.all_eq_true.1 h1 n (by simp; omega)
  simp only [beq_iff_eq] at this
  constructor
  · intro h; rw [h] at this; simpa using this.symm
  · rintro rfl; rfl
set_option maxHeartbeats 2000000 in
theorem law_FnSetSize (w : World) {v0 : Value} {xs0 : List Int} (s0 : Sl1 encU w v0 xs0) (l0 : xs0.length ≤ 9223372036854775807) (f0 : ∀ x ∈ xs0, 0 ≤ x ∧ x ≤ 255) (k0 : ∀ A n c, v0 = .slice A n c → n ≤ c ∧ c ≤ 9223372036854775807) :
    Calls Tryd.prog 4 #[v0] w fun e w' => e = .returned (.bool true) ∧ Ext w w' := by
  obtain ⟨A0, c0, hv0, _⟩ := id s0
  by_cases hl : xs0.length ≤ 1048576
  case neg =>
    subst hv0
    have hl' : 1048576 < xs0.length := by omega
    clear hl s0 f0 k0
    go_enter Tryd.func4, Tryd.ntmps4
    go_wp2
    go_returns
    exact ⟨rfl, Ext.refl _⟩
  have HC := Lib.hid (⟨xs0, s0, f0, hl, k0⟩ : CodeIn w v0)
  subst hv0
  clear s0 f0 k0
  go_enter Tryd.func4, Tryd.ntmps4
  go_wp2_with fail
  refine (DrawSetSize_any _ HC.out).mono ?_
  rintro e w1 ⟨s, rfl, hs1, hs2, b1⟩
  by_cases hin : 0 ≤ s ∧ s ≤ 127
  · obtain ⟨q, rfl⟩ := Int.eq_ofNat_of_zero_le hin.1
    have hsz : sizeB (q : Int) = (pc q : Int) := by rw [sizeB, if_pos (inB_true.2 hin)]; simp
    have hsz2 : sizeB (127 - (q : Int)) = ((pc (127 - q) : Nat) : Int) := by
      rw [sizeB, if_pos (inB_true.2 (by omega)), show (127 - (q : Int)).toNat = 127 - q by omega]
    have H7 := Lib.hid (pc_rest q (by omega))
    have H0 := Lib.hid (pc_zero q (by omega))
    have HZ := Lib.hid hsz
    have HZ2 := Lib.hid hsz2
    have hp1 : pc q ≤ 7 := pc_le q
    have hp2 : pc (127 - q) ≤ 7 := pc_le _
    clear hsz hsz2
    go_wp2_with fail
    refine (impl_SetSize _ _).mono ?_
    rw [HZ.out]
    rintro e w2 ⟨rfl, rfl⟩
    go_wp2_with fail
    refine (spec_SetSize _ _).mono ?_
    rw [HZ.out]
    rintro e w3 ⟨rfl, rfl⟩
    go_wp2_with fail
    refine (impl_SetSize _ _).mono ?_
    rw [HZ2.out]
    rintro e w4 ⟨rfl, rfl⟩
    have g1 : (((pc q : Int) + (pc (127 - q) : Int)) == 7) = true := beq_iff_eq.2 (by have := H7.out; omega)
    by_cases hq : q = 0
    · have g2 : ((pc q : Int) == 0) = true := beq_iff_eq.2 (by have := H0.out.2 hq; omega)
      have g3 : ((q : Int) == 0) = true := beq_iff_eq.2 (by omega)
      clear hq
      go_wp2
      go_returns
      exact ⟨rfl, b1⟩
    · have g2 : ((pc q : Int) == 0) = false := beq_eq_false_iff_ne.2 (fun h => hq (H0.out.1 (by omega)))
      have g3 : ((q : Int) == 0) = false := beq_eq_false_iff_ne.2 (by omega)
      clear hq
      go_wp2
      go_returns
      exact ⟨rfl, b1⟩
  · have hsz : sizeB s = -1 := by rw [sizeB, if_neg (by rw [inB_true]; exact hin)]
    have HZ := Lib.hid hsz
    clear hsz hin
    go_wp2_with fail
    refine (impl_SetSize _ _).mono ?_
    rw [HZ.out]
    rintro e w2 ⟨rfl, rfl⟩
    go_wp2_with fail
    refine (spec_SetSize _ _).mono ?_
    rw [HZ.out]
    rintro e w3 ⟨rfl, rfl⟩
    go_wp2_with (go_at_call 13; refine (alive_any _).mono ?_; rintro e w7 ⟨rfl, b7⟩)
    go_returns
    exact ⟨rfl, b1.trans b7⟩
end Go.Proofs.YtcmakjhpfgeenaaDoor
