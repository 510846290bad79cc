/- The library's turning round of a list of records, in place. -/
import Derived.Test.YtiggckhlbklngaaDoorLeaf
import Derived.Test.YtiggckhlbklngaaDoorTypes
import Derived.Test.YtiggckhlbklngaaDoorAppend
import Derived.BigRegion
namespace Go.Proofs.YtiggckhlbklngaaDoor
open Go.RowKit

theorem put3 {w : World} {b off n c : Nat} {xs : List Redo} {k : Nat} (h : SlOf 3 encRedo w (.slice (some ⟨b, off, none⟩) n c) xs) (hk : k < xs.length) (y : Redo) :
    SlOf 3 encRedo (((w.setCell ⟨b, off + k * 3, none⟩ (.int .i64 y.who)).setCell ⟨b, off + k * 3 + 1, none⟩ (.int .i64 y.key)).setCell ⟨b, off + k * 3 + 2, none⟩ (.int .i64 y.value)) (.slice (some ⟨b, off, none⟩) n c) (xs.set k y) := by
  obtain ⟨A, c', hA, hc⟩ := id h
  injection hA with e1 e2 e3
  subst e1 e2 e3
  obtain ⟨b', off', hb, hlt, hcell⟩ := hc (by omega)
  injection hb with hb
  injection hb with e1 e2
  subst e1 e2
  obtain ⟨x, hx⟩ := at_some hk
  have hn : ∀ (W : World) (i j : Nat) (u : Value), i ≠ j → (W.setCell ⟨b, i, none⟩ u).cell? ⟨b, j, none⟩ = W.cell? ⟨b, j, none⟩ := fun W i j u hne => cell_set_other (by intro e; injection e with _ e _; exact hne e) _
  refine SlOf.put h y (fun i u hne hu => ?_) (fun j hj => ?_) (by simp [World.setCell])
  · rw [hn _ _ _ _ (fun e => hne 2 (by omega) e.symm), hn _ _ _ _ (fun e => hne 1 (by omega) e.symm), hn _ _ _ _ (fun e => hne 0 (by omega) (by omega))]
    exact hu
  · match j, hj with
    | 0, _ =>
      rw [hn _ _ _ _ (by omega), hn _ _ _ _ (by omega)]
      exact cell_set_at (hcell k x hx 0 (by omega)) _
    | 1, _ =>
      rw [hn _ _ _ _ (by omega)]
      refine cell_set_at (v := .int .i64 x.key) ?_ _
      rw [hn _ _ _ _ (by omega)]
      exact hcell k x hx 1 (by omega)
    | 2, _ =>
      refine cell_set_at (v := .int .i64 x.value) ?_ _
      rw [hn _ _ _ _ (by omega), hn _ _ _ _ (by omega)]
      exact hcell k x hx 2 (by omega)
/-- The first i have changed places with the last i. -/
def Turned (xs ys : List Redo) (i : Nat) : Prop := ys.length = xs.length ∧ ∀ t, t < xs.length → ys[t]? = if t < i ∨ xs.length ≤ t + i then xs[xs.length - 1 - t]? else xs[t]?
theorem Turned.start (xs : List Redo) : Turned xs xs 0 := ⟨rfl, fun t ht => by rw [if_neg (by omega)]⟩
theorem Turned.next {xs ys : List Redo} {i j : Nat} {x y : Redo} (h : Turned xs ys i) (hij : i < j) (hj : i + j + 1 = xs.length) (hx : ys[i]? = some x) (hy : ys[j]? = some y) : Turned xs ((ys.set i y).set j x) (i + 1) := by
  obtain ⟨h1, h2⟩ := h
  refine ⟨by simp [h1], fun t ht => ?_⟩
  have hi := h2 i (by omega)
  have hj' := h2 j (by omega)
  rw [if_neg (by omega)] at hi hj'
  rw [List.getElem?_set, List.getElem?_set]
  by_cases e1 : j = t
  · subst e1
    rw [if_pos rfl, if_pos (by simp; omega), if_pos (by omega), show xs.length - 1 - j = i by omega, ← hi, hx]
  · rw [if_neg e1]
    by_cases e2 : i = t
    · subst e2
      rw [if_pos rfl, if_pos (by omega), if_pos (by omega), show xs.length - 1 - i = j by omega, ← hj', hy]
    · rw [if_neg e2, h2 t ht]
      by_cases e3 : t < i ∨ xs.length ≤ t + i
      · rw [if_pos e3, if_pos (by omega)]
      · rw [if_neg e3, if_neg (by omega)]
theorem Turned.end_ {xs ys : List Redo} {i : Nat} (h : Turned xs ys i) (hi : xs.length ≤ 2 * i + 1) : ys = xs.reverse := by
  obtain ⟨h1, h2⟩ := h
  apply List.ext_getElem?
  intro t
  by_cases ht : t < xs.length
  · rw [h2 t ht, List.getElem?_reverse ht]
    split
    · rfl
    · rw [show xs.length - 1 - t = t by omega]
  · rw [List.getElem?_eq_none (by omega), List.getElem?_eq_none (by simp; omega)]

set_option maxRecDepth 100000 in
set_option maxHeartbeats 2000000 in
theorem reverseRedo_any {v : Value} {xs : List Redo} {lo : Nat} (w : World) (h : SlOf 3 encRedo w v xs) (ho : Own lo w v) (hlen : xs.length ≤ 2097152) :
    Calls Tryd.prog 52 #[v] w fun e w' => e = .returned (.tuple #[]) ∧ SlOf 3 encRedo w' v xs.reverse ∧ Only v w w' := by
  obtain ⟨A, c, rfl, hc0⟩ := id h
  have H := Lib.hid h
  have HO := Lib.hid ho
  have HC := Lib.hid hc0
  have hmx : Tryd.prog.follows .mixedOrders = true := by kernel_rfl
  clear h ho hc0
  go_enter Tryd.func52, Tryd.ntmps52
  go_wp2
  go_loopw [2, 3] (fun a z wr => ∃ (i : Nat) (ys : List Redo), i ≤ xs.length ∧ a = .int .i64 i ∧ z = .int .i64 ((xs.length : Int) - 1 - i) ∧ Hid (Turned xs ys i) ∧ Hid (SlOf 3 encRedo wr (.slice A xs.length c) ys) ∧ Hid (Only (.slice A xs.length c) w wr)) (fun a _ _ => xs.length - (intOf a).toNat)
  case atStart => exact ⟨0, xs, Nat.zero_le _, rfl, by simp, Turned.start xs, H.out, Only.of_ext (Ext.refl _)⟩
  case round =>
    obtain ⟨i, ys, hi, rfl, rfl, HT, HS, HN⟩ := hrel
    by_cases hlt : 2 * i + 1 < xs.length
    · obtain ⟨j, hj⟩ : ∃ j, i + j + 1 = xs.length := ⟨xs.length - 1 - i, by omega⟩
      obtain ⟨b, off, rfl, hbl, _⟩ := HC.out (by omega)
      obtain ⟨_, _, hv, hcell0⟩ := HS.out
      injection hv with e1 e2 e3
      obtain ⟨b', off', hb', hbl', hcell⟩ := hcell0 (by rw [← e2]; omega)
      rw [← e1] at hb'
      injection hb' with hb'
      injection hb' with hb1 hb2
      subst hb1 hb2
      have hyl := HT.out.1
      obtain ⟨x, hx⟩ := at_some (show i < ys.length by omega)
      obtain ⟨y, hy⟩ := at_some (show j < ys.length by omega)
      have x0 : wr.cell? ⟨b, off + i * 3, none⟩ = some (.int .i64 x.who) := hcell i x hx 0 (by omega)
      have x1 : wr.cell? ⟨b, off + i * 3 + 1, none⟩ = some (.int .i64 x.key) := hcell i x hx 1 (by omega)
      have x2 : wr.cell? ⟨b, off + i * 3 + 2, none⟩ = some (.int .i64 x.value) := hcell i x hx 2 (by omega)
      have y0 : wr.cell? ⟨b, off + j * 3, none⟩ = some (.int .i64 y.who) := hcell j y hy 0 (by omega)
      have y1 : wr.cell? ⟨b, off + j * 3 + 1, none⟩ = some (.int .i64 y.key) := hcell j y hy 1 (by omega)
      have y2 : wr.cell? ⟨b, off + j * 3 + 2, none⟩ = some (.int .i64 y.value) := hcell j y hy 2 (by omega)
      have fz : ∀ t, wr.frozen? ⟨b, t, none⟩ = false := fun t => (Own.only HO.out HN.out).cell_free (by omega) t
      have f0 := fz (off + i * 3)
      have f1 := fz (off + i * 3 + 1)
      have f2 := fz (off + i * 3 + 2)
      have g0 := fz (off + j * 3)
      have g1 := fz (off + j * 3 + 1)
      have g2 := fz (off + j * 3 + 2)
      have hji : ((xs.length : Int) - 1 - i) = (j : Int) := by omega
      rw [hji]
      have hil : i < xs.length := by omega
      have hjl : j < xs.length := by omega
      have hij : (i : Int) < (j : Int) := by omega
      have HXY := Lib.hid (And.intro hx (And.intro hy hj))
      clear hji hlt hi e1 e2 e3 hcell0 hcell hx hy hj fz hyl
      go_wp2_with fail
      go_region
      go_wp2
      go_roundw
      case rel =>
        obtain ⟨hx, hy, hj⟩ := HXY.out
        have s1 := put3 (c := c) (n := xs.length) HS.out (show i < ys.length by have := (List.getElem?_eq_some_iff.1 hx).1; exact this) y
        have s2 := put3 s1 (k := j) (by rw [List.length_set]; exact (List.getElem?_eq_some_iff.1 hy).1) x
        have on : ∀ (W : World) (t : Nat) (u : Value), Only (.slice (some ⟨b, off, none⟩) xs.length c) W (W.setCell ⟨b, t, none⟩ u) := fun W t u => Only.setCell (a := ⟨b, off, none⟩) (by omega) t u
        refine ⟨i + 1, _, by omega, by go_num, by have : ((xs.length : Int) - 1 - ((i + 1 : Nat) : Int)) = (j : Int) - 1 := by omega
                                                  rw [this], Turned.next HT.out (by omega) hj hx hy, s2.ext (Ext.refl _).drew, ?_⟩
        exact (((((((HN.out.trans (on _ _ _)).trans (on _ _ _)).trans (on _ _ _)).trans (on _ _ _)).trans (on _ _ _)).trans (on _ _ _)).trans (Only.of_ext (Ext.refl _).drew))
      case measure => simp [intOf]; omega
    · have hge : (xs.length : Int) - 1 - i ≤ (i : Int) := by omega
      have HE := Lib.hid (HT.out.end_ (by omega))
      have HS' := Lib.hid (show SlOf 3 encRedo wr (.slice A xs.length c) xs.reverse from by rw [← HE.out]; exact HS.out)
      clear hlt
      go_wp2
      go_end0
      exact ⟨rfl, HS'.out, HN.out⟩
end Go.Proofs.YtiggckhlbklngaaDoor
