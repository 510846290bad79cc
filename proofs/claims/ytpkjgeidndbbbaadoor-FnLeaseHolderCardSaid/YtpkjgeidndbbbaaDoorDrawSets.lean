/- Draws of sets of members. -/
import Derived.Test.YtpkjgeidndbbbaaDoorPick
import Derived.Test.YtpkjgeidndbbbaaDoorCats
import Derived.Laws.OwnMore
namespace Go.Proofs.YtpkjgeidndbbbaaDoor
open Go.RowKit

theorem cells_one (xs : List Int) : xs.flatMap (cellsOf_ 1 (one encI)) = xs.map encI := by
  induction xs with
  | nil => rfl
  | cons x xs ih => rw [List.flatMap_cons, ih]; rfl
theorem Row.set1 {e : TypeId} {base : Nat} {w : World} {g n c : Nat} {xs : List Int} (h : Row e 1 (one encI) base w (.slice (some ⟨g, 0, none⟩) n c) xs) (j : Nat) (y : Int) :
    Row e 1 (one encI) base (w.setCell ⟨g, j, none⟩ (.int .i64 y)) (.slice (some ⟨g, 0, none⟩) n c) (xs.set j y) ∧ w.grownBy (w.setCell ⟨g, j, none⟩ (.int .i64 y)) (some g) := by
  unfold Row at *
  rw [cells_one] at *
  have hn : n = xs.length := by
    rcases h.2 with ⟨h', _⟩ | ⟨g', cap', cur, h', _⟩
    · simp at h'
    · injection h'
  subst hn
  have := World.ownsRow.stored h j (.int .i64 y)
  rw [List.length_set, show (xs.set j y).map encI = (xs.map encI).set j (.int .i64 y) from by rw [List.map_set]; rfl]
  exact this
theorem Row.form {α : Type} {e : TypeId} {m : Nat} {enc : α → Nat → Value} {base : Nat} {w : World} {v : Value} {xs : List α} (h : Row e m enc base w v xs) (hn : 0 < xs.length) :
    ∃ g cap, v = .slice (some ⟨g, 0, none⟩) xs.length cap ∧ base ≤ g ∧ g < w.heap.size ∧ xs.length ≤ cap := by
  rcases h.2 with ⟨_, h0⟩ | ⟨g, cap, cur, hv, hb, hg, hnc, _⟩
  · omega
  · exact ⟨g, cap, hv, hb, (Array.getElem?_eq_some_iff.1 hg).1, hnc⟩
def drawnInts (N : Nat) (xs : List Int) : Prop := xs.length ≤ N ∧ ∀ x ∈ xs, smI x
/-- A number was drawn, with the reader at hand. -/
def DrawnN (lo hi : Int) (rb mm : Nat) (w : World) (en : Ending) (w' : World) : Prop := ∃ s : Int, en = .returned (.int .i64 s) ∧ lo ≤ s ∧ s ≤ hi ∧ Rd w' rb mm ∧ Ex rb w w'
set_option maxHeartbeats 1000000 in
theorem l20Members_any (rb m : Nat) (w : World) (h : Rd w rb m) (hm : m ≤ 500000) : Calls Tryd.prog 48 #[.pointer (some ⟨rb, 0, none⟩)] w (DrawnN 0 8 rb (m + 2) w) := by
  have hr1 := h.lt
  have HR := Lib.hid h
  clear h
  go_enter Tryd.func48, Tryd.ntmps48
  go_wp2_with fail
  refine (pick_any rb _ 7 _ HR.out (by omega) (by omega) (by omega)).mono ?_
  rintro e w2 ⟨S, rfl, s0, s1, r2, x2⟩
  go_wp2_with fail
  refine (pick_any rb _ 7 _ ((r2.alloc _).alloc _) (by omega) (by omega) (by omega)).mono ?_
  rintro e w3 ⟨p, rfl, p0, p1, r3, x3⟩
  obtain ⟨p, rfl⟩ := Int.eq_ofNat_of_zero_le p0
  have hr2 : rb < w2.heap.size := Nat.lt_of_lt_of_le hr1 x2.size
  obtain ⟨u, cu, y, rfl, hy⟩ := lit_at (fun v => ∃ y : Int, v = .int .i64 y ∧ 0 ≤ y ∧ y ≤ 3) x3 (by simp; omega) p (by simp; omega) (by simp)
  obtain ⟨y, rfl⟩ := Int.eq_ofNat_of_zero_le hy.1
  obtain ⟨u, cu2, z, rfl, hz⟩ := lit_at (fun v => ∃ y : Int, v = .int .i64 y ∧ 0 ≤ y ∧ y ≤ 8) (((Ex.refl rb (w2.alloc (.cells #[.int .i64 (1 + S), .int .i64 3, .int .i64 0, .int .i64 8] 3))).alloc _).trans x3) hr2 y (by simp; omega) (by simp; omega)
  have HB := Lib.hid (And.intro r3 (((x2.alloc _).alloc _).trans x3))
  clear r2 r3 x2 x3
  rw [size_alloc_] at cu
  go_wp2
  go_returns
  exact ⟨z, rfl, hz.1, hz.2, HB.out⟩
set_option maxHeartbeats 4000000 in
theorem l20Sets_any (rb m : Nat) (many : Int) (w : World) (h : Rd w rb m) (hm : m ≤ 500000) (hmy : 0 ≤ many ∧ many ≤ 8) :
    Calls Tryd.prog 49 #[.pointer (some ⟨rb, 0, none⟩), .int .i64 many] w (DrawnS 1 (one encI) rb (m + 100) (drawnInts 5) w) := by
  have hrl := h.lt
  have HR := Lib.hid (h.alloc (.cells #[] 3))
  have HRow := Lib.hid (Row.made (m := 1) (enc := one encI) w 3)
  clear h
  obtain ⟨M, rfl⟩ := Int.eq_ofNat_of_zero_le hmy.1
  go_enter Tryd.func49, Tryd.ntmps49
  go_wp2
  go_loop [6, 7] (fun a k => ∃ (q : Nat) (T : Nat), q ≤ 7 ∧ k = .int .i64 (q : Int) ∧ a = .int .i64 (T : Int) ∧ 1 ≤ T ∧ T ≤ 128 ∧ Hid (T = 2 ^ q)) (fun _ k => 7 - (intOf k).toNat)
  case atStart => exact ⟨0, 1, by omega, rfl, rfl, by omega, by omega, rfl⟩
  case round =>
    obtain ⟨q, T, hq, rfl, rfl, hT1, hT2, HT⟩ := hrel
    by_cases hlt : q < M ∧ q < 7
    · obtain ⟨hlt1, hlt2⟩ := hlt
      have hT3 : T ≤ 64 := by rw [HT.out]; exact Nat.pow_le_pow_right (n := 2) (by omega) (show q ≤ 6 by omega)
      go_wp2
      go_round
      case rel => exact ⟨q + 1, 2 * T, by omega, by go_num, by go_num, by omega, by omega, by show _ = _; rw [HT.out, Nat.pow_succ]; omega⟩
      case measure => simp [intOf]; omega
    · clear HT
      have hex : M ≤ q ∨ (q < M ∧ 7 ≤ q) := by omega
      clear hlt
      rcases hex with hex | ⟨hex, hex2⟩
      all_goals
        go_wp2_with fail
        refine (pick_any rb m 5 _ HR.out (by omega) (by omega) (by omega)).mono ?_
        rintro e w1 ⟨K, rfl, k0, k1, r1, x1⟩
        obtain ⟨K, rfl⟩ := Int.eq_ofNat_of_zero_le k0
        have HX1 := Lib.hid (((Ex.refl rb w).alloc (.cells #[] 3)).trans x1)
        have HRow1 := Lib.hid (HRow.out.ex x1 hrl)
        have R1 := Lib.hid r1
        clear r1 x1
        go_wp2
        go_loopw [5, 8] (fun o k wr => ∃ (q : Nat) (xs : List Int), q ≤ 4 ∧ k = .int .i64 (q : Int) ∧ Hid (Ex rb w wr ∧ Rd wr rb (m + 50 - 4 * q) ∧ Row 3 1 (one encI) w.heap.size wr o xs ∧ xs.length + q ≤ 4 ∧ ∀ x ∈ xs, smI x)) (fun _ k _ => (intOf k).toNat)
        case atStart => exact ⟨K, [], by omega, rfl, HX1.out, R1.out.mono (by omega), HRow1.out, by simp; omega, by simp⟩
        case round =>
          clear HRow1 HX1 R1 HR HRow
          obtain ⟨q2, xs, hq2, rfl, HA⟩ := hrel
          have hwr := Nat.lt_of_lt_of_le hrl HA.out.1.size
          by_cases hq0 : 0 < q2
          · go_wp2_with fail
            refine (pick_any rb _ (T : Int) _ HA.out.2.1 (by omega) (by omega) (by omega)).mono ?_
            rintro e w2 ⟨U, rfl, u0, u1, r2, x2⟩
            go_wp2_with fail
            refine (pick_any rb _ 3 _ r2 (by omega) (by omega) (by omega)).mono ?_
            rintro e w3 ⟨V, rfl, v0, v1, r3, x3⟩
            go_wp2_with fail
            refine (pick_any rb _ 2 _ (r3.alloc _) (by omega) (by omega) (by omega)).mono ?_
            rintro e w4 ⟨p, rfl, p0, p1, r4, x4⟩
            obtain ⟨p, rfl⟩ := Int.eq_ofNat_of_zero_le p0
            have hwr3 : rb < w3.heap.size := Nat.lt_of_lt_of_le hwr (x2.trans x3).size
            obtain ⟨u, cu, y, rfl, hy⟩ := lit_at (fun v => ∃ y : Int, v = .int .i64 y ∧ smI y) x4 hwr3 p (by simp; omega) (by simp [smI]; omega)
            have HX3 := Lib.hid ((((HA.out.1.trans x2).trans x3).alloc _).trans x4)
            have HRow3 := Lib.hid (((HA.out.2.2.1.ex (x2.trans x3) hrl).ext ((Ext.refl _).alloc _)).ex x4 hrl)
            have HR3 := Lib.hid r4
            have HL := Lib.hid HA.out.2.2.2
            clear HA r2 x2 r3 x3 r4 x4
            go_wp2_with (at_builtin; refine catI rfl rfl rfl rfl (HRow3.out.ext ((Ext.refl _).alloc _)) (SlOf.lit _ _ _ _ [_] rfl) (by simp; have := HL.out.1; omega) (by simp; have := HX3.out.size; omega) ?_; intro v' w4 hrow hg; have HG := Lib.hid (And.intro hrow hg); clear hrow hg)
            go_roundw
            case rel => exact ⟨q2 - 1, _, by omega, by go_num, (HX3.out.alloc _).grown HG.out.2 HRow3.out.block, ((HR3.out.alloc _).grown HG.out.2 (fun k hk => Nat.lt_of_lt_of_le hrl (HRow3.out.block k hk))).mono (by omega), HG.out.1, by have := HL.out.1; simp; omega, fun x hx => by
              rcases List.mem_append.1 hx with hx | hx
              · exact HL.out.2 x hx
              · simp at hx; subst hx; exact hy⟩
            case measure => simp [intOf]; omega
          · obtain rfl : q2 = 0 := by omega
            have HX2 := Lib.hid HA.out.1
            have HRow2 := Lib.hid HA.out.2.2.1
            have HL := Lib.hid HA.out.2.2.2
            have HR2 := Lib.hid HA.out.2.1
            have hlen : xs.length ≤ 4 := by have := HL.out.1; omega
            clear HA hwr
            obtain ⟨A, c, hv, _⟩ := id HRow2.out.cell.1
            subst hv
            go_wp2
            go_loopw [9] (fun i wr => ∃ (q : Nat) (ys : List Int), q ≤ xs.length ∧ i = .int .i64 (q : Int) ∧ Hid (Ex rb w wr ∧ Rd wr rb (m + 50) ∧ Row 3 1 (one encI) w.heap.size wr (.slice A xs.length c) ys ∧ ys.length = xs.length ∧ ∀ x ∈ ys, smI x)) (fun i _ => xs.length - (intOf i).toNat)
            case atStart => exact ⟨0, xs, by omega, rfl, HX2.out, HR2.out, HRow2.out, rfl, HL.out.2⟩
            case round =>
              clear HX2 HRow2 HR2 HL
              obtain ⟨q3, ys, hq3, rfl, HA⟩ := hrel
              have hwr := Nat.lt_of_lt_of_le hrl HA.out.1.size
              by_cases hlt3 : q3 < xs.length
              · have hyl := HA.out.2.2.2.1
                obtain ⟨g, cap, hgv, hgb, hgl, hgc⟩ := HA.out.2.2.1.form (by omega)
                injection hgv with e1 e2 e3
                subst e1 e3
                obtain ⟨x, hx⟩ := at_some (show q3 < ys.length by omega)
                have hsx := HA.out.2.2.2.2 x (List.mem_of_getElem? hx)
                obtain ⟨A', c', hA', hcell'⟩ := id HA.out.2.2.1.cell.1
                injection hA' with e1 e4 e3
                subst e1
                obtain ⟨b', off', hb', hlt', hcl⟩ := hcell' (by omega)
                injection hb' with hb'
                injection hb' with e5 e6
                subst e5 e6
                have c0 := hcl q3 x hx 0 (by omega)
                simp only [Nat.zero_add, Nat.mul_one, Nat.add_zero, one, encI] at c0
                have f0 : wr.frozen? ⟨g, q3, none⟩ = false := HA.out.2.2.1.cell.2.cell_free (by omega) _
                have hset := fun y => Row.set1 HA.out.2.2.1 q3 y
                have HSet := Lib.hid hset
                have HYL := Lib.hid hyl
                clear hcl hcell' e2 e4 e3 hx hset hyl
                rcases (by omega : x < 0 ∨ 0 ≤ x) with hneg | hpos
                all_goals
                  go_wp2
                  go_roundw
                  case rel => exact ⟨q3 + 1, ys.set q3 _, by omega, by go_num, HA.out.1.grown (HSet.out _).2 (fun k hk => by injection hk with hk; omega), HA.out.2.1.grown (HSet.out _).2 (fun k hk => by injection hk with hk; omega), (HSet.out _).1, by simp [HYL.out], fun z hz => by
                    rcases List.mem_or_eq_of_mem_set hz with hz | rfl
                    · exact HA.out.2.2.2.2 z hz
                    · unfold smI at *; omega⟩
                  case measure => simp [intOf]; omega
              · obtain rfl : q3 = xs.length := by omega
                have HX4 := Lib.hid HA.out.1
                have HRow4 := Lib.hid HA.out.2.2.1
                have HL4 := Lib.hid HA.out.2.2.2
                go_wp2_with fail
                refine (odd_any rb _ 12 _ HA.out.2.1 (by omega) (by omega)).mono ?_
                rintro e w5 ⟨k, rfl, r5, x5⟩
                have HX5 := Lib.hid (HX4.out.trans x5)
                have HRow5 := Lib.hid (HRow4.out.ex x5 hrl)
                have HR5 := Lib.hid r5
                clear HA r5 x5 HX4 HRow4
                have hwr5 := Nat.lt_of_lt_of_le hrl HX5.out.size
                cases k with
                | false =>
                  go_wp2
                  go_returns
                  exact ⟨_, ys, rfl, HRow5.out.val, ⟨by have := HL4.out.1; omega, HL4.out.2⟩, HR5.out.mono (by omega), HX5.out⟩
                | true =>
                  go_wp2_with fail
                  refine (pick_any rb _ 2 _ (HR5.out.alloc _) (by omega) (by omega) (by omega)).mono ?_
                  rintro e w6 ⟨p, rfl, p0, p1, r6, x6⟩
                  obtain ⟨p, rfl⟩ := Int.eq_ofNat_of_zero_le p0
                  obtain ⟨u, cu, y, rfl, hy⟩ := lit_at (fun v => ∃ y : Int, v = .int .i64 y ∧ smI y) x6 hwr5 p (by simp; omega) (by simp [smI]; omega)
                  have HX6 := Lib.hid ((HX5.out.alloc _).trans x6)
                  have HRow6 := Lib.hid ((HRow5.out.ext ((Ext.refl _).alloc _)).ex x6 hrl)
                  have HR6 := Lib.hid r6
                  clear r6 x6 HX5 HRow5 HR5
                  go_wp2_with (at_builtin; refine catI rfl rfl rfl rfl (HRow6.out.ext ((Ext.refl _).alloc _)) (SlOf.lit _ _ _ _ [_] rfl) (by simp; have := HL4.out.1; omega) (by simp; have := HX6.out.size; omega) ?_; intro v' w4 hrow hg; have HG := Lib.hid (And.intro hrow hg); clear hrow hg)
                  go_returns
                  exact ⟨_, _, rfl, HG.out.1.val, ⟨by have := HL4.out.1; simp; omega, fun x hx => by
                    rcases List.mem_append.1 hx with hx | hx
                    · exact HL4.out.2 x hx
                    · simp at hx; subst hx; exact hy⟩, ((HR6.out.alloc _).grown HG.out.2 (fun k hk => Nat.lt_of_lt_of_le hrl (HRow6.out.block k hk))).mono (by omega), (HX6.out.alloc _).grown HG.out.2 HRow6.out.block⟩
end Go.Proofs.YtpkjgeidndbbbaaDoor
