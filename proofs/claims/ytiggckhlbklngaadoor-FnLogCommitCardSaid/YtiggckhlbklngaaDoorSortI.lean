/- The library's sort of a short list of numbers, in place. -/
import Derived.Test.YtiggckhlbklngaaDoorLeaf
import Derived.Test.YtiggckhlbklngaaDoorAppend
import Derived.BigRegion
namespace Go.Proofs.YtiggckhlbklngaaDoor
open Go.RowKit
set_option maxRecDepth 8000

/-- All pairs up to place i stand in order, but for those that end at place j. -/
def Srt (ys : List Int) (i j : Nat) : Prop := ∀ p q, p < q → q ≤ i → q ≠ j → ys.getD p 0 ≤ ys.getD q 0
theorem getD_set {ys : List Int} {i t : Nat} {x : Int} (hi : i < ys.length) : (ys.set i x).getD t 0 = if i = t then x else ys.getD t 0 := by
  rw [List.getD_eq_getElem?_getD, List.getD_eq_getElem?_getD, List.getElem?_set]
  by_cases e : i = t
  · subst e; simp [hi]
  · simp [e]
theorem Srt.swap {ys : List Int} {i j : Nat} (h : Srt ys i (j + 1)) (hi : i < ys.length) (hj : j + 1 ≤ i) (hlt : ys.getD (j + 1) 0 < ys.getD j 0) : Srt ((ys.set (j + 1) (ys.getD j 0)).set j (ys.getD (j + 1) 0)) i j := by
  intro p q hpq hq hqj
  have e : ∀ t, ((ys.set (j + 1) (ys.getD j 0)).set j (ys.getD (j + 1) 0)).getD t 0 = if j = t then ys.getD (j + 1) 0 else if j + 1 = t then ys.getD j 0 else ys.getD t 0 := fun t => by
    rw [getD_set (by rw [List.length_set]; omega), getD_set (by omega)]
  have eq := e q
  rw [if_neg (fun h : j = q => hqj h.symm)] at eq
  rw [e p, eq]
  clear e eq
  by_cases h1 : j + 1 = q
  · subst h1
    rw [if_pos rfl]
    by_cases h2 : j = p
    · rw [if_pos h2]; omega
    · rw [if_neg h2, if_neg (by omega)]
      exact h p j (by omega) (by omega) (by omega)
  · rw [if_neg h1]
    by_cases h2 : j = p
    · rw [if_pos h2]
      exact h (j + 1) q (by omega) hq (by omega)
    · rw [if_neg h2]
      by_cases h3 : j + 1 = p
      · rw [if_pos h3]
        exact h j q (by omega) hq (by omega)
      · rw [if_neg h3]
        exact h p q hpq hq (by omega)
theorem Srt.stop {ys : List Int} {i j : Nat} (h : Srt ys i j) (hj : j ≤ i) (hs : j = 0 ∨ ys.getD (j - 1) 0 ≤ ys.getD j 0) : Srt ys i (i + 1) := by
  intro p q hpq hq _
  by_cases e : q = j
  · subst e
    rcases hs with hs | hs
    · omega
    · by_cases e' : p = q - 1
      · subst e'; exact hs
      · have := h p (q - 1) (by omega) (by omega) (by omega)
        omega
  · exact h p q hpq hq e
theorem Srt.next {ys : List Int} {i : Nat} (h : Srt ys i (i + 1)) : Srt ys (i + 1) (i + 1) := fun p q hpq hq hne => h p q hpq (by omega) (by omega)
theorem Srt.start (ys : List Int) : Srt ys 0 1 := fun p q hpq hq _ => by omega
theorem Srt.sorted {ys : List Int} {i : Nat} (h : Srt ys i (i + 1)) (hi : ys.length ≤ i + 1) : ys.Pairwise (· ≤ ·) := by
  rw [List.pairwise_iff_getElem]
  intro p q hp hq hpq
  have := h p q hpq (by omega) (by omega)
  rwa [List.getD_eq_getElem?_getD, List.getD_eq_getElem?_getD, List.getElem?_eq_getElem hp, List.getElem?_eq_getElem hq] at this
theorem swap_perm {ys : List Int} {j : Nat} (hj : j + 1 < ys.length) : ((ys.set (j + 1) (ys.getD j 0)).set j (ys.getD (j + 1) 0)).Perm ys := by
  have h := @List.set_set_perm _ ys (j + 1) j hj (by omega)
  rw [List.getD_eq_getElem?_getD, List.getD_eq_getElem?_getD, List.getElem?_eq_getElem hj, List.getElem?_eq_getElem (show j < ys.length by omega)]
  exact h
theorem put1 {w : World} {b off n c : Nat} {xs : List Int} {k : Nat} (h : Sl1 encI w (.slice (some ⟨b, off, none⟩) n c) xs) (hk : k < xs.length) (y : Int) :
    Sl1 encI (w.setCell ⟨b, off + k, none⟩ (.int .i64 y)) (.slice (some ⟨b, off, none⟩) n c) (xs.set k y) := by
  obtain ⟨A, c', hA, hc⟩ := id h
  injection hA with e1 e2 e3
  subst e1 e2 e3
  obtain ⟨b', off', hb, hlt, hcell⟩ := hc (by omega)
  injection hb with hb
  injection hb with e1 e2
  subst e1 e2
  refine ⟨_, _, by rw [List.length_set], fun _ => ⟨b, off, rfl, by simpa [World.setCell] using hlt, fun i x hx => ?_⟩⟩
  by_cases e : k = i
  · subst e
    rw [List.getElem?_set_self hk] at hx
    injection hx with hx
    subst hx
    obtain ⟨x0, hx0⟩ := at_some hk
    exact cell_set_at (hcell k x0 hx0) _
  · rw [List.getElem?_set_ne e] at hx
    rw [cell_set_other (by intro e'; injection e' with _ e' _; omega)]
    exact hcell i x hx
theorem sl1_len {w : World} {A : Option Addr} {n c : Nat} {xs : List Int} (h : Sl1 encI w (.slice A n c) xs) : xs.length = n := by
  obtain ⟨A', c', hA, _⟩ := h
  injection hA with _ e _
  exact e.symm
theorem getDx {xs : List Int} {k : Nat} (h : k < xs.length) : xs[k]? = some (xs.getD k 0) := by
  rw [List.getD_eq_getElem?_getD]
  simp [h]

theorem isNaN_any (x : Int) (w : World) : Calls Tryd.prog 111 #[.int .i64 x] w fun e w' => e = .returned (.bool false) ∧ w = w' := by
  have hx : (x != x) = false := by simp
  go_enter Tryd.func111, Tryd.ntmps111
  go_wp2
  go_returns
  exact ⟨rfl, rfl⟩
theorem less_any (x y : Int) (w : World) : Calls Tryd.prog 97 #[.int .i64 x, .int .i64 y] w fun e w' => e = .returned (.bool (decide (x < y))) ∧ w = w' := by
  go_enter Tryd.func97, Tryd.ntmps97
  go_wp2_with (go_at_call 111; refine (isNaN_any _ _).mono ?_; rintro e w' ⟨rfl, rfl⟩)
  go_returns
  exact ⟨rfl, rfl⟩
set_option maxHeartbeats 4000000 in
theorem insertI_any {A : Option Addr} {c n : Nat} {xs : List Int} {lo : Nat} (w : World) (h : Sl1 encI w (.slice A n c) xs) (ho : Own lo w (.slice A n c)) (hlen : n ≤ 2097152) :
    Calls Tryd.prog 91 #[.slice A n c, .int .i64 0, .int .i64 (n : Int)] w fun e w' => e = .returned (.tuple #[]) ∧ ∃ ys, ys.Perm xs ∧ ys.Pairwise (· ≤ ·) ∧ Sl1 encI w' (.slice A n c) ys ∧ Only (.slice A n c) w w' := by
  have H := Lib.hid h
  have HO := Lib.hid ho
  have hmx : Tryd.prog.follows .mixedOrders = true := by kernel_rfl
  clear h ho
  go_enter Tryd.func91, Tryd.ntmps91
  go_wp2
  go_loopw [6, 7] (fun a _ wr => ∃ (i : Nat) (ys : List Int), a = .int .i64 ((i : Int) + 1) ∧ i ≤ n ∧ Hid (ys.Perm xs ∧ Srt ys i (i + 1)) ∧ Hid (Sl1 encI wr (.slice A n c) ys) ∧ Hid (Only (.slice A n c) w wr)) (fun a _ _ => n + 1 - (intOf a).toNat)
  case atStart => exact ⟨0, xs, rfl, Nat.zero_le _, ⟨List.Perm.refl _, Srt.start xs⟩, H.out, Only.of_ext (Ext.refl _)⟩
  case round =>
    obtain ⟨i, ys, rfl, hi, HP, HS, HN⟩ := hrel
    by_cases hlt : i + 1 < n
    · go_wp2
      go_loopw [7] (fun a wr2 => ∃ (j : Nat) (zs : List Int), a = .int .i64 (j : Int) ∧ j ≤ i + 1 ∧ Hid (zs.Perm xs ∧ Srt zs (i + 1) j) ∧ Hid (Sl1 encI wr2 (.slice A n c) zs) ∧ Hid (Only (.slice A n c) w wr2)) (fun a _ => (intOf a).toNat)
      case atStart => exact ⟨i + 1, ys, by simp, Nat.le_refl _, ⟨HP.out.1, HP.out.2.next⟩, HS.out, HN.out⟩
      case round =>
        clear HP HS HN
        obtain ⟨j, zs, rfl, hj, HP2, HS2, HN2⟩ := hrel
        have hzl := sl1_len HS2.out
        rcases Nat.eq_zero_or_pos j with h0 | h0
        · have hj0 : decide (0 < j) = false := by simp [h0]
          have HJ := Lib.hid h0
          clear h0
          go_wp2
          refine wp_region_over (by kernel_rfl) (by kernel_rfl) ?_
          repeat (go_big_quiet_step ((go_at_call 97; exact quiet_same (less_any _ _ _))))
          refine wpQuiet_nil ?_
          intro w1 hb1
          go_wp2
          go_roundw
          case rel => exact ⟨i + 1, zs, by go_num, by omega, ⟨HP2.out.1, HP2.out.2.stop (by omega) (.inl HJ.out)⟩, HS2.out.ext hb1, HN2.out.trans (Only.of_ext hb1)⟩
          case measure => simp [intOf]; omega
        · have hj0 : decide (0 < j) = true := by simp [h0]
          obtain ⟨p, hp⟩ : ∃ p, p + 1 = j := ⟨j - 1, by omega⟩
          have hjp : (j : Int) - 1 = (p : Int) := by omega
          obtain ⟨A', c', hA, hcell0⟩ := id HS2.out
          injection hA with e1 e2 e3
          obtain ⟨b, off, hb', hbl, hcell⟩ := hcell0 (by omega)
          rw [← e1] at hb'
          subst hb'
          obtain ⟨y, hy⟩ : ∃ y, zs.getD j 0 = y := ⟨_, rfl⟩
          obtain ⟨x, hx⟩ : ∃ x, zs.getD p 0 = x := ⟨_, rfl⟩
          have y0 : ∀ e, (over wr e).cell? ⟨b, off + j, none⟩ = some (.int .i64 y) := over_cell (hcell j y (by rw [← hy]; exact getDx (by omega)))
          have x0 : ∀ e, (over wr e).cell? ⟨b, off + p, none⟩ = some (.int .i64 x) := over_cell (hcell p x (by rw [← hx]; exact getDx (by omega)))
          have Y0 := Lib.hid (hcell j y (by rw [← hy]; exact getDx (by omega)))
          have X0 := Lib.hid (hcell p x (by rw [← hx]; exact getDx (by omega)))
          have hjl : j < n := by omega
          have hpl : p < n := by omega
          have HXY := Lib.hid (And.intro hx (And.intro hy hp))
          clear hcell hcell0 e1 e2 e3 hx hy hp h0
          go_wp2
          refine wp_region_over (by kernel_rfl) (by kernel_rfl) ?_
          repeat (go_big_quiet_step ((go_at_call 97; exact quiet_same (less_any _ _ _))))
          refine wpQuiet_nil ?_
          intro w1 hb1
          by_cases hlt2 : y < x
          · have hd : decide (y < x) = true := by simpa using hlt2
            have y1 := hb1.cell Y0.out
            have x1 := hb1.cell X0.out
            simp only [encI] at y1 x1
            have hO1 := Own.only HO.out (HN2.out.trans (Only.of_ext hb1))
            have g1 : w1.frozen? ⟨b, off + j, none⟩ = false := hO1.cell_free (by omega) _
            have g2 : w1.frozen? ⟨b, off + p, none⟩ = false := hO1.cell_free (by omega) _
            clear y0 x0 hO1
            go_wp2_with fail
            go_region
            go_wp2
            go_roundw
            case rel =>
              obtain ⟨hx, hy, hp⟩ := HXY.out
              have s1 := put1 (HS2.out.ext hb1) (show j < zs.length by omega) x
              have s2 := put1 s1 (k := p) (by rw [List.length_set]; omega) y
              have on : ∀ (W : World) (t : Nat) (u : Value), Only (.slice (some ⟨b, off, none⟩) n c) W (W.setCell ⟨b, t, none⟩ u) := fun W t u => Only.setCell (a := ⟨b, off, none⟩) (by omega) t u
              have hsw : (zs.set j x).set p y = (zs.set (p + 1) (zs.getD p 0)).set p (zs.getD (p + 1) 0) := by rw [hp, hx, hy]
              refine ⟨p, _, rfl, by omega, ⟨by rw [hsw]; exact (swap_perm (by omega)).trans HP2.out.1, by rw [hsw]; exact Srt.swap (by rw [hp]; exact HP2.out.2) (by omega) (by omega) (by rw [hp, hx, hy]; exact hlt2)⟩, s2.ext (Ext.refl _).drew, ?_⟩
              exact (((HN2.out.trans (Only.of_ext hb1)).trans (on _ _ _)).trans (on _ _ _)).trans (Only.of_ext (Ext.refl _).drew)
            case measure => have := HXY.out.2.2; simp [intOf]; omega
          · have hd : decide (y < x) = false := by simpa using hlt2
            have HLE : Hid (x ≤ y) := by show x ≤ y; omega
            go_wp2
            go_roundw
            case rel =>
              obtain ⟨hx, hy, hp⟩ := HXY.out
              exact ⟨i + 1, zs, by go_num, by omega, ⟨HP2.out.1, HP2.out.2.stop (by omega) (.inr (by rw [show j - 1 = p by omega, hx, hy]; exact HLE.out))⟩, HS2.out.ext hb1, HN2.out.trans (Only.of_ext hb1)⟩
            case measure => simp [intOf]; omega
    · have hyl := sl1_len HS.out
      have HF := Lib.hid (HP.out.2.sorted (by omega))
      have hge : ¬ ((i : Int) + 1 < (n : Int)) := by omega
      go_wp2
      go_end0
      exact ⟨rfl, ys, HP.out.1, HF.out, HS.out, HN.out⟩
end Go.Proofs.YtiggckhlbklngaaDoor
