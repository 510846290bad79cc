/- The reader of a code: l20Open, pick, odd. -/
import Derived.Test.YtiggckhlbklngaaDoorDraw
import Derived.Test.YtiggckhlbklngaaDoorLeaf
namespace Go.Proofs.YtiggckhlbklngaaDoor
open Go.RowKit

theorem pick_num (x y : Int) (p l : Nat) (n : Int) (hx : 0 ≤ x ∧ x ≤ 255) (hy : 0 ≤ y ∧ y ≤ 255) (hp : p ≤ 1000000) (h1 : 1 ≤ n) :
    0 ≤ (bits .xor .i64 (wrap64 (x * 131 + y * 1117 + ↑p * 29 + wrap64 (wrap64 (↑p / ↑l) * 53))) (wrap64 ((wrap64 (x * 131 + y * 1117 + ↑p * 29 + wrap64 (wrap64 (↑p / ↑l) * 53))).tdiv 64))).tmod n ∧
    (bits .xor .i64 (wrap64 (x * 131 + y * 1117 + ↑p * 29 + wrap64 (wrap64 (↑p / ↑l) * 53))) (wrap64 ((wrap64 (x * 131 + y * 1117 + ↑p * 29 + wrap64 (wrap64 (↑p / ↑l) * 53))).tdiv 64))).tmod n < n := by
  have hq : p / l ≤ p := Nat.div_le_self _ _
  obtain ⟨q, hq'⟩ : ∃ q : Nat, p / l = q := ⟨_, rfl⟩
  have e : ((p : Int) / (l : Int)) = (q : Int) := by rw [← hq']; simp
  rw [hq'] at hq
  rw [e, IntWalk.wrap64_in (q : Int) (by omega), IntWalk.wrap64_in ((q : Int) * 53) (by omega), IntWalk.wrap64_in (x * 131 + y * 1117 + ↑p * 29 + (q : Int) * 53) (by omega)]
  obtain ⟨X, hX⟩ := Int.eq_ofNat_of_zero_le (show 0 ≤ x * 131 + y * 1117 + ↑p * 29 + (q : Int) * 53 by omega)
  rw [hX, Int.tdiv_eq_ediv_of_nonneg (by omega), IntWalk.wrap64_in _ (by omega), xor_small X (by omega)]
  rw [Int.tmod_eq_emod_of_nonneg (by omega)]
  exact ⟨Int.emod_nonneg _ (by omega), Int.emod_lt_of_pos _ (by omega)⟩
set_option maxHeartbeats 1000000 in
theorem pick_b (B rb m : Nat) (n : Int) (w : World) (h : RdB B w rb m) (hm : m ≤ 1000000) (h1 : 1 ≤ n) (h2 : n ≤ 1000000) :
    Calls Tryd.prog 32 #[.pointer (some ⟨rb, 0, none⟩), .int .i64 n] w (PickedB B n rb m w) := by
  obtain ⟨A, xs, c, p, T, hb, hp, hs, hx, hl, ho0, hB⟩ := h
  have ho : Under rb (.slice A xs.length c) := fun a n c hv hn => Nat.lt_of_lt_of_le (ho0 a n c hv hn) hB
  have c0 : w.cell? ⟨rb, 0, none⟩ = some (.slice A xs.length c) := by simp [World.cell?, hb]
  have c1 : w.cell? ⟨rb, 1, none⟩ = some (.int .i64 (p : Int)) := by simp [World.cell?, hb]
  have f1 : w.frozen? ⟨rb, 1, none⟩ = false := by simp [World.frozen?, hb]
  have hend : RdB B (w.setCell ⟨rb, 1, none⟩ (.int .i64 ((p : Int) + 1))) rb (m + 1) ∧ Ex rb w (w.setCell ⟨rb, 1, none⟩ (.int .i64 ((p : Int) + 1))) := by
    refine ⟨⟨A, xs, c, p + 1, T, ?_, by omega, hs.off ((Ex.refl rb w).setCell _ _) ho.off, hx, hl, ho0, hB⟩, (Ex.refl rb w).setCell _ _⟩
    simp [World.setCell, Array.getElem?_modify, hb]
  have HE := Lib.hid hend
  clear hend ho0
  obtain ⟨A', c', hA, hc⟩ := hs
  injection hA with e1 e2 e3
  subst e1 e3
  clear hb e2
  by_cases h0 : 0 < xs.length
  case neg =>
    have hz : xs.length = 0 := by omega
    rw [hz] at c0
    clear hc ho hx hl h0 hz
    go_enter Tryd.func32, Tryd.ntmps32
    go_wp2
    go_returns
    exact ⟨0, rfl, by omega, by omega, HE.out⟩
  obtain ⟨b, off, rfl, hlt, hcell⟩ := hc h0
  have hne : b ≠ rb := ho.off _ _ _ rfl h0
  have hne' : rb ≠ b := fun e => hne e.symm
  have HX := Lib.hid hx
  clear hx hc ho
  by_cases hk : p < xs.length
  · obtain ⟨x, hx⟩ := at_some hk
    have hv := HX.out x (List.mem_of_getElem? hx)
    have d0 : w.cell? ⟨b, off + p, none⟩ = some (.int .u8 x) := hcell p x hx
    have g1 : decide (n < 1) = false := by simpa using h1
    have g2 : ((xs.length : Int) == 0) = false := beq_eq_false_iff_ne.2 (by omega)
    clear hcell hx
    go_enter Tryd.func32, Tryd.ntmps32
    go_wp2
    go_returns
    exact ⟨_, rfl, Int.emod_nonneg _ (by omega), Int.emod_lt_of_pos _ (by omega), HE.out⟩
  · have hq1 : p % xs.length < xs.length := Nat.mod_lt _ h0
    have hq2 : (p * 7 + 3) % xs.length < xs.length := Nat.mod_lt _ h0
    have hq3 : p / xs.length ≤ p := Nat.div_le_self _ _
    obtain ⟨x, hx⟩ := at_some hq1
    obtain ⟨y, hy⟩ := at_some hq2
    have hv := HX.out x (List.mem_of_getElem? hx)
    have hv' := HX.out y (List.mem_of_getElem? hy)
    have d0 : ∀ e, (over (w.setCell ⟨rb, 1, none⟩ (.int .i64 ((p : Int) + 1))) e).cell? ⟨b, off + p % xs.length, none⟩ = some (.int .u8 x) := over_cell (by rw [cell_set_other (by intro e; injection e with e; exact hne' e)]; exact hcell _ x hx)
    have d1 : ∀ e, (over (w.setCell ⟨rb, 1, none⟩ (.int .i64 ((p : Int) + 1))) e).cell? ⟨b, off + (p * 7 + 3) % xs.length, none⟩ = some (.int .u8 y) := over_cell (by rw [cell_set_other (by intro e; injection e with e; exact hne' e)]; exact hcell _ y hy)
    have d2 : ∀ e, (over (w.setCell ⟨rb, 1, none⟩ (.int .i64 ((p : Int) + 1))) e).cell? ⟨rb, 0, none⟩ = some (.slice (some ⟨b, off, none⟩) xs.length c) := over_cell (by rw [cell_set_other (by intro e; injection e with _ e _; cases e)]; exact c0)
    have g1 : decide (n < 1) = false := by simpa using h1
    have g2 : ((xs.length : Int) == 0) = false := beq_eq_false_iff_ne.2 (by omega)
    obtain ⟨q, hq⟩ : ∃ q : Nat, (p * 7 + 3) % xs.length = q := ⟨_, rfl⟩
    have hqi : ((p : Int) * 7 + 3) % (xs.length : Int) = (q : Int) := by rw [← hq]; simp
    rw [hq] at hq2 d1
    clear hcell hx hy hq
    go_enter Tryd.func32, Tryd.ntmps32
    go_wp2
    refine wp_region_over (by kernel_rfl) (by kernel_rfl) ?_
    repeat (go_big_quiet_step (fail))
    refine wpQuiet_nil ?_
    intro w1 hb1
    go_wp2
    go_returns
    have hn := pick_num x y p xs.length n hv hv' (by omega) h1
    exact ⟨_, rfl, hn.1, hn.2, HE.out.1.ext hb1, HE.out.2.ext hb1⟩
theorem pick_any (rb m : Nat) (n : Int) (w : World) (h : Rd w rb m) (hm : m ≤ 1000000) (h1 : 1 ≤ n) (h2 : n ≤ 1000000) :
    Calls Tryd.prog 32 #[.pointer (some ⟨rb, 0, none⟩), .int .i64 n] w (Picked n rb m w) := pick_b rb rb m n w h hm h1 h2
set_option maxHeartbeats 400000 in
theorem odd_any (rb m : Nat) (n : Int) (w : World) (h : Rd w rb m) (hm : m ≤ 1000000) (h2 : n ≤ 1000000) :
    Calls Tryd.prog 33 #[.pointer (some ⟨rb, 0, none⟩), .int .i64 n] w (Asked rb m w) := by
  by_cases h1 : 1 ≤ n
  · have g1 : decide (0 < n) = true := by simp; omega
    go_enter Tryd.func33, Tryd.ntmps33
    go_wp2_with fail
    refine (pick_any rb m n _ h hm h1 h2).mono ?_
    rintro e w1 ⟨k, rfl, k0, k1, r1, x1⟩
    go_wp2
    go_returns
    exact ⟨_, rfl, r1, x1⟩
  · have g1 : decide (0 < n) = false := by simp; omega
    go_enter Tryd.func33, Tryd.ntmps33
    go_wp2
    go_returns
    exact ⟨_, rfl, h.mono (by omega), Ex.refl _ _⟩
theorem Sl1.under {w : World} {v : Value} {xs : List Int} (h : Sl1 encU w v xs) : Under w.heap.size v := by
  obtain ⟨A, c, rfl, h⟩ := h
  intro a n c' hv hn
  injection hv with e1 e2 e3
  subst e1 e2
  obtain ⟨b, off, hb, hlt, _⟩ := h hn
  injection hb with hb
  subst hb
  exact hlt
/-- A reader was made, the code below a block. -/
def OpenedB (B : Nat) (w : World) (e : Ending) (w' : World) : Prop := ∃ rb : Nat, e = .returned (.pointer (some ⟨rb, 0, none⟩)) ∧ w.heap.size ≤ rb ∧ RdB B w' rb 0 ∧ Ext w w'
/-- A reader was made. -/
def Opened (w : World) (e : Ending) (w' : World) : Prop := ∃ rb : Nat, e = .returned (.pointer (some ⟨rb, 0, none⟩)) ∧ w.heap.size ≤ rb ∧ Rd w' rb 0 ∧ Ext w w'
set_option maxHeartbeats 400000 in
theorem open_b {v : Value} {xs : List Int} (B : Nat) (w : World) (hB : B ≤ w.heap.size) (hU : Under B v) (h : Sl1 encU w v xs) (hx : ∀ x ∈ xs, 0 ≤ x ∧ x ≤ 255) (hlen : xs.length ≤ 1048576) (hcap : ∀ A n c, v = .slice A n c → n ≤ c ∧ c ≤ 9223372036854775807) :
    Calls Tryd.prog 31 #[v] w (OpenedB B w) := by
  have HU := Lib.hid hU
  clear hU
  have H := Lib.hid h
  obtain ⟨A, c, rfl, h⟩ := h
  have hc := hcap _ _ _ rfl
  have HX := Lib.hid hx
  clear hcap h hx
  by_cases hl : xs.length ≤ 2000
  · go_enter Tryd.func31, Tryd.ntmps31
    go_wp2
    go_returns
    refine ⟨w.heap.size, rfl, Nat.le_refl _, ⟨A, xs, c, 0, _, heap_alloc_new w _, Nat.le_refl _, H.out.ext ((Ext.refl w).alloc _), HX.out, hl, HU.out, hB⟩, (Ext.refl w).alloc _⟩
  · have hl' : 2000 < xs.length := by omega
    clear hl
    go_enter Tryd.func31, Tryd.ntmps31
    go_wp2
    go_returns
    have hT : Sl1 encU w (.slice A (xs.take 2000).length c) (xs.take 2000) := by
      obtain ⟨A', c', hA, hc'⟩ := H.out
      injection hA with e1 e2 e3
      subst e1 e3
      refine ⟨_, _, rfl, fun hn => ?_⟩
      obtain ⟨b, off, hb, hlt, hcell⟩ := hc' (by omega)
      refine ⟨b, off, hb, hlt, fun i x hi => hcell i x ?_⟩
      rw [List.getElem?_take] at hi
      split at hi
      · exact hi
      · cases hi
    have hlen2 : (xs.take 2000).length = 2000 := by rw [List.length_take]; omega
    refine ⟨w.heap.size, rfl, Nat.le_refl _, ⟨A, xs.take 2000, c, 0, _, by rw [hlen2]; exact heap_alloc_new w _, Nat.le_refl _, hT.ext ((Ext.refl w).alloc _), fun x hx => HX.out x (List.mem_of_mem_take hx), by omega, fun a n c' hv hn => HU.out a xs.length c (by injection hv with e1 e2 e3; rw [e1]) (by omega), hB⟩, (Ext.refl w).alloc _⟩
theorem open_any {v : Value} {xs : List Int} (w : World) (h : Sl1 encU w v xs) (hx : ∀ x ∈ xs, 0 ≤ x ∧ x ≤ 255) (hlen : xs.length ≤ 1048576) (hcap : ∀ A n c, v = .slice A n c → n ≤ c ∧ c ≤ 9223372036854775807) :
    Calls Tryd.prog 31 #[v] w (Opened w) := (open_b w.heap.size w (Nat.le_refl _) h.under h hx hlen hcap).mono fun _ _ ⟨rb, h1, h2, h3, h4⟩ => ⟨rb, h1, h2, h3.rd, h4⟩

/-- A code as it was handed in, not too long. -/
def CodeIn (w : World) (v : Value) : Prop := ∃ xs : List Int, Sl1 encU w v xs ∧ (∀ x ∈ xs, 0 ≤ x ∧ x ≤ 255) ∧ xs.length ≤ 1048576 ∧ ∀ A n c, v = .slice A n c → n ≤ c ∧ c ≤ 9223372036854775807
theorem open_code {v : Value} (w : World) (h : CodeIn w v) : Calls Tryd.prog 31 #[v] w (Opened w) := by
  obtain ⟨xs, h1, h2, h3, h4⟩ := h
  exact open_any w h1 h2 h3 h4
/-- What a draw of a list returns. -/
def DrawnL {α : Type} (m : Nat) (enc : α → Nat → Value) (φ : List α → Prop) (w : World) (en : Ending) (w' : World) : Prop :=
  ∃ v xs, en = .returned v ∧ Val m enc w.heap.size w' v xs ∧ φ xs ∧ Ext w w'
end Go.Proofs.YtiggckhlbklngaaDoor
