/- Draws of a lease, a time and a skew. -/
import Derived.Test.YtcmakjhpfgeenaaDoorPick
import Derived.Test.YtcmakjhpfgeenaaDoorTypedDraw
import Derived.Test.YtcmakjhpfgeenaaDoorTypes
namespace Go.Proofs.YtcmakjhpfgeenaaDoor
open Go.RowKit
/-- A lease, a time and a skew were drawn. -/
def DrawnH (w : World) (en : Ending) (w' : World) : Prop :=
  ∃ (l : Lease) (now skew : Int), en = .returned (.tuple #[.agg #[.int .i64 l.who, .int .i64 l.frm, .int .i64 l.til], .int .i64 now, .int .i64 skew]) ∧ (smI l.who ∧ smI l.frm ∧ smI l.til) ∧ smI now ∧ smI skew ∧ Ext w w'
/-- The result's cells. -/
def Room (tb : Nat) (w : World) : Prop := ∃ cs T, w.heap[tb]? = some (.cells cs T (0, 0)) ∧ cs.size = 3
def Laid (tb : Nat) (F U : Int) (w : World) : Prop := ∃ T, w.heap[tb]? = some (.cells #[.int .i64 1, .int .i64 F, .int .i64 U] T (0, 0))
theorem st_held {rb tb : Nat} {F U : Int} (hTB : tb < rb) {w w' : World} (hx : Ex rb w w') : St (fun k => k = rb ∨ k = tb) (Laid tb F U) (Room tb) w w' := by
  have hb : ∀ o, w.heap[tb]? = some o → w'.heap[tb]? = some o := fun o h => by
    rw [← h]
    exact World.grownBy.block hx tb (Array.getElem?_eq_some_iff.1 h).1 (fun e => by injection e with e; omega)
  exact ⟨ExS.of_ex hx (.inl rfl), fun ⟨T, h⟩ => ⟨T, hb _ h⟩, fun ⟨cs, T, h, hs⟩ => ⟨cs, T, hb _ h, hs⟩⟩
theorem laid_set {tb : Nat} {w : World} {cs : Array Value} {T : TypeId} (F U : Int) (h : w.heap[tb]? = some (.cells cs T (0, 0))) (hs : cs.size = 3) : Laid tb F U (((w.setCell ⟨tb, 0, none⟩ (.int .i64 1)).setCell ⟨tb, 1, none⟩ (.int .i64 F)).setCell ⟨tb, 2, none⟩ (.int .i64 U)) := by
  refine ⟨T, ?_⟩
  have hcs : ((cs.setIfInBounds 0 (.int .i64 1)).setIfInBounds 1 (.int .i64 F)).setIfInBounds 2 (.int .i64 U) = #[.int .i64 1, .int .i64 F, .int .i64 U] := by
    obtain ⟨l⟩ := cs
    match l, hs with
    | [x, y, z], _ => rfl
  rw [← hcs]
  simp [World.setCell, Array.getElem?_modify, h]
theorem laid_room {tb : Nat} {F U : Int} {w : World} (h : Laid tb F U w) : Room tb w := let ⟨T, h⟩ := h; ⟨_, T, h, rfl⟩
set_option maxRecDepth 8000 in
set_option maxHeartbeats 4000000 in
theorem DrawLeaseHeld_any {v : Value} (w00 : World) (h : CodeIn w00 v) : Calls Tryd.prog 10 #[v] w00 (DrawnH w00) := by
  obtain ⟨xs0, h1, h2, h3, h4⟩ := h
  have H := Lib.hid (open_b w00.heap.size (w00.alloc (.cells #[.int .i64 0, .int .i64 0, .int .i64 0] 24)) (by simp) h1.under (h1.ext ((Ext.refl w00).alloc (.cells #[.int .i64 0, .int .i64 0, .int .i64 0] 24))) h2 h3 h4)
  clear h1 h2 h3 h4
  go_enter Tryd.func10, Tryd.ntmps10
  go_wp2_with fail
  refine H.out.mono ?_
  rintro e w1 ⟨rb, rfl, hl, r1, b1⟩
  rw [size_alloc_] at hl
  have hr := r1.lt
  go_wp2_with fail
  refine (pick_b w00.heap.size rb _ 40 _ r1 (by omega) (by omega) (by omega)).mono ?_
  rintro e w2 ⟨F, rfl, f0, f1, r2, x2⟩
  go_wp2_with fail
  refine (pick_b w00.heap.size rb _ 60 _ r2 (by omega) (by omega) (by omega)).mono ?_
  rintro e w3 ⟨U, rfl, u0, u1, r3, x3⟩
  have HR := Lib.hid (And.intro r3 (x2.trans x3))
  have HB := Lib.hid b1
  have hr3 := r3.lt
  have hroom : Room w00.heap.size w3 := by
    have h1 : Room w00.heap.size w1 := ⟨_, _, (Below.block b1 w00.heap.size (by simp)).trans (heap_alloc_new _ _), rfl⟩
    obtain ⟨cs, T, h, hs⟩ := h1
    exact ⟨cs, T, by rw [← h]; exact World.grownBy.block (x2.trans x3) _ (Array.getElem?_eq_some_iff.1 h).1 (fun e => by injection e with e; omega), hs⟩
  clear r1 b1 r2 x2 r3 x3
  go_wp2_with fail
  refine wp_world (fun W => Ext w3 W ∧ w3.heap.size < W.heap.size ∧ W.cell? ⟨w3.heap.size, 0, none⟩ = some (.int .i64 1) ∧ W.cell? ⟨w3.heap.size, 1, none⟩ = some (.int .i64 F) ∧ W.cell? ⟨w3.heap.size, 2, none⟩ = some (.int .i64 (60 + U))) ⟨(Ext.refl _).alloc _, by simp, by go_cell, by go_cell, by go_cell⟩ ?_
  rintro w4 ⟨hW, hW2, C0, C1, C2⟩
  have hTB : w00.heap.size < rb := by omega
  have hLB : ¬ ((fun k => k = rb ∨ k = w00.heap.size) w3.heap.size) := by show ¬ (_ ∨ _); omega
  have HR4 := HR.out.1.ext hW
  have hSL : ∀ k, (fun k => k = rb ∨ k = w00.heap.size) k → k < w4.heap.size := by intro k hk; have := hW.size; rcases hk with rfl | rfl <;> omega
  have HREL : Rel (fun k => k = rb ∨ k = w00.heap.size) (Room w00.heap.size) w4 w4 := by
    refine ⟨ExS.refl _ _, ?_⟩
    obtain ⟨cs, T, h, hs⟩ := hroom
    exact ⟨cs, T, (Below.block hW _ (Array.getElem?_eq_some_iff.1 h).1).trans h, hs⟩
  have stx : ∀ w w', Ex rb w w' → St (fun k => k = rb ∨ k = w00.heap.size) (Laid w00.heap.size F (60 + U)) (Room w00.heap.size) w w' := fun w w' hx => st_held hTB hx
  have hSlt : ∀ k, ((fun k => k = rb ∨ k = w00.heap.size)) k → k < (w4).heap.size := hSL
  refine wp_region_typed [15, 16, 17, 18, 19, 20, 21, 22, 23, 24, 25, 26, 27, 28, 29, 30, 31, 32, 33, 34, 35, 36, 37, 38, 39, 40, 41, 42, 43, 44, 45, 3, 4] (by kernel_rfl) (by kernel_rfl) (by kernel_rfl) (fun n w' => RdB w00.heap.size w' rb (200 + n) ∧ Rel (fun k => k = rb ∨ k = w00.heap.size) (Room w00.heap.size) w4 w') (fun i => (([.eq (.agg #[.int .i64 1, .int .i64 F, .int .i64 (60 + U)]), .eq (.pointer (some ⟨rb, 0, none⟩)), .int (0) (129), .eq (.pointer (some ⟨w3.heap.size, 1, none⟩)), .int (0) (39), .eq (.pointer (some ⟨rb, 0, none⟩)), .int (0) (11), .int (0) (50), .eq (.pointer (some ⟨w3.heap.size, 2, none⟩)), .int (60) (119), .eq (.pointer (some ⟨rb, 0, none⟩)), .int (0) (11), .int (49) (119), .ints 4 (0) (2001), .ints 7 (0) (3), .eq (.pointer (some ⟨rb, 0, none⟩)), .int (0) (6), .adr (0) (3), .int (0) (3), .adr (0) (2001), .int (0) (2001), .eq (.pointer (some ⟨rb, 0, none⟩)), .int (0) (11), .ints 5 (-1) (51), .ints 7 (0) (4), .eq (.pointer (some ⟨rb, 0, none⟩)), .int (0) (6), .adr (0) (4), .int (0) (4), .adr (-1) (51), .int (-1) (51), .made, .int (0) (2001), .int (-1) (51)] : List Ty).getD i .top).den (fun k => k = rb ∨ k = w00.heap.size) (Laid w00.heap.size F (60 + U))) (St (fun k => k = rb ∨ k = w00.heap.size) (Laid w00.heap.size F (60 + U)) (Room w00.heap.size)) ⟨(HR4).drew.mono (by omega), (HREL).step (stx _ _ ((Ex.refl _ _).drew))⟩ (fun i v w w' hx h => Ty.den_ex _ hx h) ?_ ?_
  · intro i o ho a n w hn hR hrest hdeps
    have hn' : n < 34 := hn
    match i, ho with
    | 0, ho =>
      obtain rfl := Option.some.inj ho
      have h6 : a.tmps.getD 6 undef = .pointer (some ⟨w3.heap.size, 0, none⟩) := hrest 6 (by decide)
      have c0 := hR.2.1.cell C0 hLB
      have c1 := hR.2.1.cell C1 hLB
      have c2 := hR.2.1.cell C2 hLB
      simp only [Array.getD_eq_getD_getElem?] at h6
      exact y_val (by go_simp) ⟨fun _ => rfl, (fun h => by cases h), ⟨(hR.1.mono (by omega)), hR.2⟩, stx _ _ (Ex.refl _ _)⟩
    | 1, ho =>
      obtain rfl := Option.some.inj ho
      have h0 : a.tmps.getD 5 undef = .pointer (some ⟨rb, 0, none⟩) := hrest 5 (by decide)
      exact y_move rfl ⟨fun _ => h0, (fun h => by cases h), ⟨(hR.1.mono (by omega)), hR.2⟩, stx _ _ (Ex.refl _ _)⟩
    | 2, ho =>
      obtain rfl := Option.some.inj ho
      have q1 := hdeps 1 _ 16 ⟨{ on := 1, ground := .data }, by simp, rfl, rfl⟩ rfl rfl
      have h1 : a.tmps.getD 16 undef = .pointer (some ⟨rb, 0, none⟩) := q1
      refine y_call (args := #[.pointer (some ⟨rb, 0, none⟩), .int .i64 130]) rfl (fun _ _ => by kernel_rfl) (by simp [Act.eval, h1]) ?_
      exact (pick_b w00.heap.size rb _ 130 _ hR.1 (by omega) (by omega) (by omega)).mono fun e w2 ⟨k, he, k0, k1, r2, x2⟩ => ⟨_, he, fun _ => ⟨k, rfl, by omega, by omega⟩, (fun h => by cases h), ⟨r2.mono (by omega), hR.2.step (stx _ _ x2)⟩, stx _ _ x2⟩
    | 3, ho =>
      obtain rfl := Option.some.inj ho
      have h6 : a.tmps.getD 6 undef = .pointer (some ⟨w3.heap.size, 0, none⟩) := hrest 6 (by decide)
      simp only [Array.getD_eq_getD_getElem?] at h6
      exact y_val (by go_simp) ⟨fun _ => rfl, (fun h => by cases h), ⟨(hR.1.mono (by omega)), hR.2⟩, stx _ _ (Ex.refl _ _)⟩
    | 4, ho =>
      obtain rfl := Option.some.inj ho
      have h1 : a.tmps.getD 18 undef = .pointer (some ⟨w3.heap.size, 1, none⟩) := hdeps 3 _ 18 ⟨{ on := 3, ground := .data }, by simp, rfl, rfl⟩ rfl rfl
      exact y_load rfl h1 (hR.2.1.cell C1 hLB) (fun _ => by kernel_rfl) ⟨fun _ => ⟨_, rfl, by omega, by omega⟩, (fun h => by cases h), ⟨(hR.1.mono (by omega)), hR.2⟩, stx _ _ (Ex.refl _ _)⟩
    | 5, ho =>
      obtain rfl := Option.some.inj ho
      have h0 : a.tmps.getD 5 undef = .pointer (some ⟨rb, 0, none⟩) := hrest 5 (by decide)
      exact y_move rfl ⟨fun _ => h0, (fun h => by cases h), ⟨(hR.1.mono (by omega)), hR.2⟩, stx _ _ (Ex.refl _ _)⟩
    | 6, ho =>
      obtain rfl := Option.some.inj ho
      have q1 := hdeps 5 _ 20 ⟨{ on := 5, ground := .data }, by simp, rfl, rfl⟩ rfl rfl
      have h1 : a.tmps.getD 20 undef = .pointer (some ⟨rb, 0, none⟩) := q1
      refine y_call (args := #[.pointer (some ⟨rb, 0, none⟩), .int .i64 12]) rfl (fun _ _ => by kernel_rfl) (by simp [Act.eval, h1]) ?_
      exact (pick_b w00.heap.size rb _ 12 _ hR.1 (by omega) (by omega) (by omega)).mono fun e w2 ⟨k, he, k0, k1, r2, x2⟩ => ⟨_, he, fun _ => ⟨k, rfl, by omega, by omega⟩, (fun h => by cases h), ⟨r2.mono (by omega), hR.2.step (stx _ _ x2)⟩, stx _ _ x2⟩
    | 7, ho =>
      obtain rfl := Option.some.inj ho
      have q1 := hdeps 4 _ 19 ⟨{ on := 4, ground := .data }, by simp, rfl, rfl⟩ rfl rfl
      obtain ⟨k1, h1, l1, u1⟩ := q1
      have q2 := hdeps 6 _ 21 ⟨{ on := 6, ground := .data }, by simp, rfl, rfl⟩ rfl rfl
      obtain ⟨k2, h2, l2, u2⟩ := q2
      exact y_add rfl h1 h2 (by omega) (by omega) ⟨fun _ => ⟨_, rfl, by omega, by omega⟩, (fun h => by cases h), ⟨(hR.1.mono (by omega)), hR.2⟩, stx _ _ (Ex.refl _ _)⟩
    | 8, ho =>
      obtain rfl := Option.some.inj ho
      have h6 : a.tmps.getD 6 undef = .pointer (some ⟨w3.heap.size, 0, none⟩) := hrest 6 (by decide)
      simp only [Array.getD_eq_getD_getElem?] at h6
      exact y_val (by go_simp) ⟨fun _ => rfl, (fun h => by cases h), ⟨(hR.1.mono (by omega)), hR.2⟩, stx _ _ (Ex.refl _ _)⟩
    | 9, ho =>
      obtain rfl := Option.some.inj ho
      have h1 : a.tmps.getD 23 undef = .pointer (some ⟨w3.heap.size, 2, none⟩) := hdeps 8 _ 23 ⟨{ on := 8, ground := .data }, by simp, rfl, rfl⟩ rfl rfl
      exact y_load rfl h1 (hR.2.1.cell C2 hLB) (fun _ => by kernel_rfl) ⟨fun _ => ⟨_, rfl, by omega, by omega⟩, (fun h => by cases h), ⟨(hR.1.mono (by omega)), hR.2⟩, stx _ _ (Ex.refl _ _)⟩
    | 10, ho =>
      obtain rfl := Option.some.inj ho
      have h0 : a.tmps.getD 5 undef = .pointer (some ⟨rb, 0, none⟩) := hrest 5 (by decide)
      exact y_move rfl ⟨fun _ => h0, (fun h => by cases h), ⟨(hR.1.mono (by omega)), hR.2⟩, stx _ _ (Ex.refl _ _)⟩
    | 11, ho =>
      obtain rfl := Option.some.inj ho
      have q1 := hdeps 10 _ 25 ⟨{ on := 10, ground := .data }, by simp, rfl, rfl⟩ rfl rfl
      have h1 : a.tmps.getD 25 undef = .pointer (some ⟨rb, 0, none⟩) := q1
      refine y_call (args := #[.pointer (some ⟨rb, 0, none⟩), .int .i64 12]) rfl (fun _ _ => by kernel_rfl) (by simp [Act.eval, h1]) ?_
      exact (pick_b w00.heap.size rb _ 12 _ hR.1 (by omega) (by omega) (by omega)).mono fun e w2 ⟨k, he, k0, k1, r2, x2⟩ => ⟨_, he, fun _ => ⟨k, rfl, by omega, by omega⟩, (fun h => by cases h), ⟨r2.mono (by omega), hR.2.step (stx _ _ x2)⟩, stx _ _ x2⟩
    | 12, ho =>
      obtain rfl := Option.some.inj ho
      have q1 := hdeps 9 _ 24 ⟨{ on := 9, ground := .data }, by simp, rfl, rfl⟩ rfl rfl
      obtain ⟨k1, h1, l1, u1⟩ := q1
      have q2 := hdeps 11 _ 26 ⟨{ on := 11, ground := .data }, by simp, rfl, rfl⟩ rfl rfl
      obtain ⟨k2, h2, l2, u2⟩ := q2
      exact y_sub rfl h1 h2 (by omega) (by omega) ⟨fun _ => ⟨_, rfl, by omega, by omega⟩, (fun h => by cases h), ⟨(hR.1.mono (by omega)), hR.2⟩, stx _ _ (Ex.refl _ _)⟩
    | 13, ho =>
      obtain rfl := Option.some.inj ho
      have q1 := hdeps 2 _ 17 ⟨{ on := 2, ground := .data }, by simp, rfl, rfl⟩ rfl rfl
      obtain ⟨k1, h1, l1, u1⟩ := q1
      have q2 := hdeps 7 _ 22 ⟨{ on := 7, ground := .data }, by simp, rfl, rfl⟩ rfl rfl
      obtain ⟨k2, h2, l2, u2⟩ := q2
      have q3 := hdeps 12 _ 27 ⟨{ on := 12, ground := .data }, by simp, rfl, rfl⟩ rfl rfl
      obtain ⟨k3, h3, l3, u3⟩ := q3
      refine y_lit (cs := #[.int .i64 k1, .int .i64 k2, .int .i64 k3, .int .i64 (2001)]) (E := 3) ?_ ?_
      · intro W; simp only [Array.getD_eq_getD_getElem?] at h1 h2 h3; go_simp
      · exact ⟨fun _ => ints_made hSlt hR.2 rfl (by simp <;> omega), (fun h => by cases h), ⟨(hR.1.alloc _).mono (by omega), hR.2.step (stx _ _ ((Ex.refl _ _).alloc _))⟩, stx _ _ ((Ex.refl _ _).alloc _)⟩
    | 14, ho =>
      obtain rfl := Option.some.inj ho
      refine y_lit (cs := #[.int .i64 (0), .int .i64 (0), .int .i64 (1), .int .i64 (1), .int .i64 (2), .int .i64 (2), .int .i64 (3)]) (E := 3) ?_ ?_
      · intro W; go_simp
      · exact ⟨fun _ => ints_made hSlt hR.2 rfl (by simp <;> omega), (fun h => by cases h), ⟨(hR.1.alloc _).mono (by omega), hR.2.step (stx _ _ ((Ex.refl _ _).alloc _))⟩, stx _ _ ((Ex.refl _ _).alloc _)⟩
    | 15, ho =>
      obtain rfl := Option.some.inj ho
      have h0 : a.tmps.getD 5 undef = .pointer (some ⟨rb, 0, none⟩) := hrest 5 (by decide)
      exact y_move rfl ⟨fun _ => h0, (fun h => by cases h), ⟨(hR.1.mono (by omega)), hR.2⟩, stx _ _ (Ex.refl _ _)⟩
    | 16, ho =>
      obtain rfl := Option.some.inj ho
      have q1 := hdeps 15 _ 30 ⟨{ on := 15, ground := .data }, by simp, rfl, rfl⟩ rfl rfl
      have h1 : a.tmps.getD 30 undef = .pointer (some ⟨rb, 0, none⟩) := q1
      refine y_call (args := #[.pointer (some ⟨rb, 0, none⟩), .int .i64 7]) rfl (fun _ _ => by kernel_rfl) (by simp [Act.eval, h1]) ?_
      exact (pick_b w00.heap.size rb _ 7 _ hR.1 (by omega) (by omega) (by omega)).mono fun e w2 ⟨k, he, k0, k1, r2, x2⟩ => ⟨_, he, fun _ => ⟨k, rfl, by omega, by omega⟩, (fun h => by cases h), ⟨r2.mono (by omega), hR.2.step (stx _ _ x2)⟩, stx _ _ x2⟩
    | 17, ho =>
      obtain rfl := Option.some.inj ho
      have q1 := hdeps 14 _ 29 ⟨{ on := 14, ground := .data }, by simp, rfl, rfl⟩ rfl rfl
      obtain ⟨b1, h1, e1, c1⟩ := q1
      have q2 := hdeps 16 _ 31 ⟨{ on := 16, ground := .data }, by simp, rfl, rfl⟩ rfl rfl
      obtain ⟨k2, h2, l2, u2⟩ := q2
      obtain ⟨q, rfl⟩ := Int.eq_ofNat_of_zero_le (show 0 ≤ k2 by omega)
      obtain ⟨y, cy, y0, y1⟩ := c1 q (by omega)
      exact y_index rfl h1 h2 (by omega) Tryd.underlying57 (fun _ => by kernel_rfl) ⟨fun _ => ⟨⟨b1, q, none⟩, y, rfl, e1, cy, y0, y1⟩, (fun h => by cases h), ⟨(hR.1.mono (by omega)), hR.2⟩, stx _ _ (Ex.refl _ _)⟩
    | 18, ho =>
      obtain rfl := Option.some.inj ho
      have q1 := hdeps 17 _ 32 ⟨{ on := 17, ground := .data }, by simp, rfl, rfl⟩ rfl rfl
      obtain ⟨p1, y1, h1, e1, c1, l1, u1⟩ := q1
      exact y_load rfl h1 c1 (fun _ => by kernel_rfl) ⟨fun _ => ⟨y1, rfl, by omega, by omega⟩, (fun h => by cases h), ⟨(hR.1.mono (by omega)), hR.2⟩, stx _ _ (Ex.refl _ _)⟩
    | 19, ho =>
      obtain rfl := Option.some.inj ho
      have q1 := hdeps 13 _ 28 ⟨{ on := 13, ground := .data }, by simp, rfl, rfl⟩ rfl rfl
      obtain ⟨b1, h1, e1, c1⟩ := q1
      have q2 := hdeps 18 _ 33 ⟨{ on := 18, ground := .data }, by simp, rfl, rfl⟩ rfl rfl
      obtain ⟨k2, h2, l2, u2⟩ := q2
      obtain ⟨q, rfl⟩ := Int.eq_ofNat_of_zero_le (show 0 ≤ k2 by omega)
      obtain ⟨y, cy, y0, y1⟩ := c1 q (by omega)
      exact y_index rfl h1 h2 (by omega) Tryd.underlying57 (fun _ => by kernel_rfl) ⟨fun _ => ⟨⟨b1, q, none⟩, y, rfl, e1, cy, y0, y1⟩, (fun h => by cases h), ⟨(hR.1.mono (by omega)), hR.2⟩, stx _ _ (Ex.refl _ _)⟩
    | 20, ho =>
      obtain rfl := Option.some.inj ho
      have q1 := hdeps 19 _ 34 ⟨{ on := 19, ground := .data }, by simp, rfl, rfl⟩ rfl rfl
      obtain ⟨p1, y1, h1, e1, c1, l1, u1⟩ := q1
      exact y_load rfl h1 c1 (fun _ => by kernel_rfl) ⟨fun _ => ⟨y1, rfl, by omega, by omega⟩, (fun h => by cases h), ⟨(hR.1.mono (by omega)), hR.2⟩, stx _ _ (Ex.refl _ _)⟩
    | 21, ho =>
      obtain rfl := Option.some.inj ho
      have h0 : a.tmps.getD 5 undef = .pointer (some ⟨rb, 0, none⟩) := hrest 5 (by decide)
      exact y_move rfl ⟨fun _ => h0, (fun h => by cases h), ⟨(hR.1.mono (by omega)), hR.2⟩, stx _ _ (Ex.refl _ _)⟩
    | 22, ho =>
      obtain rfl := Option.some.inj ho
      have q1 := hdeps 21 _ 36 ⟨{ on := 21, ground := .data }, by simp, rfl, rfl⟩ rfl rfl
      have h1 : a.tmps.getD 36 undef = .pointer (some ⟨rb, 0, none⟩) := q1
      refine y_call (args := #[.pointer (some ⟨rb, 0, none⟩), .int .i64 12]) rfl (fun _ _ => by kernel_rfl) (by simp [Act.eval, h1]) ?_
      exact (pick_b w00.heap.size rb _ 12 _ hR.1 (by omega) (by omega) (by omega)).mono fun e w2 ⟨k, he, k0, k1, r2, x2⟩ => ⟨_, he, fun _ => ⟨k, rfl, by omega, by omega⟩, (fun h => by cases h), ⟨r2.mono (by omega), hR.2.step (stx _ _ x2)⟩, stx _ _ x2⟩
    | 23, ho =>
      obtain rfl := Option.some.inj ho
      have q1 := hdeps 22 _ 37 ⟨{ on := 22, ground := .data }, by simp, rfl, rfl⟩ rfl rfl
      obtain ⟨k1, h1, l1, u1⟩ := q1
      refine y_lit (cs := #[.int .i64 k1, .int .i64 (0), .int .i64 (50), .int .i64 (51), .int .i64 (-1)]) (E := 3) ?_ ?_
      · intro W; simp only [Array.getD_eq_getD_getElem?] at h1; go_simp
      · exact ⟨fun _ => ints_made hSlt hR.2 rfl (by simp <;> omega), (fun h => by cases h), ⟨(hR.1.alloc _).mono (by omega), hR.2.step (stx _ _ ((Ex.refl _ _).alloc _))⟩, stx _ _ ((Ex.refl _ _).alloc _)⟩
    | 24, ho =>
      obtain rfl := Option.some.inj ho
      refine y_lit (cs := #[.int .i64 (0), .int .i64 (0), .int .i64 (0), .int .i64 (1), .int .i64 (2), .int .i64 (3), .int .i64 (4)]) (E := 3) ?_ ?_
      · intro W; go_simp
      · exact ⟨fun _ => ints_made hSlt hR.2 rfl (by simp <;> omega), (fun h => by cases h), ⟨(hR.1.alloc _).mono (by omega), hR.2.step (stx _ _ ((Ex.refl _ _).alloc _))⟩, stx _ _ ((Ex.refl _ _).alloc _)⟩
    | 25, ho =>
      obtain rfl := Option.some.inj ho
      have h0 : a.tmps.getD 5 undef = .pointer (some ⟨rb, 0, none⟩) := hrest 5 (by decide)
      exact y_move rfl ⟨fun _ => h0, (fun h => by cases h), ⟨(hR.1.mono (by omega)), hR.2⟩, stx _ _ (Ex.refl _ _)⟩
    | 26, ho =>
      obtain rfl := Option.some.inj ho
      have q1 := hdeps 25 _ 40 ⟨{ on := 25, ground := .data }, by simp, rfl, rfl⟩ rfl rfl
      have h1 : a.tmps.getD 40 undef = .pointer (some ⟨rb, 0, none⟩) := q1
      refine y_call (args := #[.pointer (some ⟨rb, 0, none⟩), .int .i64 7]) rfl (fun _ _ => by kernel_rfl) (by simp [Act.eval, h1]) ?_
      exact (pick_b w00.heap.size rb _ 7 _ hR.1 (by omega) (by omega) (by omega)).mono fun e w2 ⟨k, he, k0, k1, r2, x2⟩ => ⟨_, he, fun _ => ⟨k, rfl, by omega, by omega⟩, (fun h => by cases h), ⟨r2.mono (by omega), hR.2.step (stx _ _ x2)⟩, stx _ _ x2⟩
    | 27, ho =>
      obtain rfl := Option.some.inj ho
      have q1 := hdeps 24 _ 39 ⟨{ on := 24, ground := .data }, by simp, rfl, rfl⟩ rfl rfl
      obtain ⟨b1, h1, e1, c1⟩ := q1
      have q2 := hdeps 26 _ 41 ⟨{ on := 26, ground := .data }, by simp, rfl, rfl⟩ rfl rfl
      obtain ⟨k2, h2, l2, u2⟩ := q2
      obtain ⟨q, rfl⟩ := Int.eq_ofNat_of_zero_le (show 0 ≤ k2 by omega)
      obtain ⟨y, cy, y0, y1⟩ := c1 q (by omega)
      exact y_index rfl h1 h2 (by omega) Tryd.underlying57 (fun _ => by kernel_rfl) ⟨fun _ => ⟨⟨b1, q, none⟩, y, rfl, e1, cy, y0, y1⟩, (fun h => by cases h), ⟨(hR.1.mono (by omega)), hR.2⟩, stx _ _ (Ex.refl _ _)⟩
    | 28, ho =>
      obtain rfl := Option.some.inj ho
      have q1 := hdeps 27 _ 42 ⟨{ on := 27, ground := .data }, by simp, rfl, rfl⟩ rfl rfl
      obtain ⟨p1, y1, h1, e1, c1, l1, u1⟩ := q1
      exact y_load rfl h1 c1 (fun _ => by kernel_rfl) ⟨fun _ => ⟨y1, rfl, by omega, by omega⟩, (fun h => by cases h), ⟨(hR.1.mono (by omega)), hR.2⟩, stx _ _ (Ex.refl _ _)⟩
    | 29, ho =>
      obtain rfl := Option.some.inj ho
      have q1 := hdeps 23 _ 38 ⟨{ on := 23, ground := .data }, by simp, rfl, rfl⟩ rfl rfl
      obtain ⟨b1, h1, e1, c1⟩ := q1
      have q2 := hdeps 28 _ 43 ⟨{ on := 28, ground := .data }, by simp, rfl, rfl⟩ rfl rfl
      obtain ⟨k2, h2, l2, u2⟩ := q2
      obtain ⟨q, rfl⟩ := Int.eq_ofNat_of_zero_le (show 0 ≤ k2 by omega)
      obtain ⟨y, cy, y0, y1⟩ := c1 q (by omega)
      exact y_index rfl h1 h2 (by omega) Tryd.underlying57 (fun _ => by kernel_rfl) ⟨fun _ => ⟨⟨b1, q, none⟩, y, rfl, e1, cy, y0, y1⟩, (fun h => by cases h), ⟨(hR.1.mono (by omega)), hR.2⟩, stx _ _ (Ex.refl _ _)⟩
    | 30, ho =>
      obtain rfl := Option.some.inj ho
      have q1 := hdeps 29 _ 44 ⟨{ on := 29, ground := .data }, by simp, rfl, rfl⟩ rfl rfl
      obtain ⟨p1, y1, h1, e1, c1, l1, u1⟩ := q1
      exact y_load rfl h1 c1 (fun _ => by kernel_rfl) ⟨fun _ => ⟨y1, rfl, by omega, by omega⟩, (fun h => by cases h), ⟨(hR.1.mono (by omega)), hR.2⟩, stx _ _ (Ex.refl _ _)⟩
    | 31, ho =>
      obtain rfl := Option.some.inj ho
      have h2 : a.tmps.getD 2 undef = .pointer (some ⟨w00.heap.size, 0, none⟩) := hrest 2 (by decide)
      have h15 : a.tmps.getD 15 undef = .agg #[.int .i64 1, .int .i64 F, .int .i64 (60 + U)] := hdeps 0 _ 15 ⟨{ on := 0, ground := .data }, by simp, rfl, rfl⟩ rfl rfl
      obtain ⟨cs, T, hcs, hsz3⟩ := hR.2.2
      have g0 : w.cell? ⟨w00.heap.size, 0, none⟩ = some cs[0] := by simp [World.cell?, hcs, hsz3]
      have g1 : w.cell? ⟨w00.heap.size, 1, none⟩ = some cs[1] := by simp [World.cell?, hcs, hsz3]
      have g2 : w.cell? ⟨w00.heap.size, 2, none⟩ = some cs[2] := by simp [World.cell?, hcs, hsz3]
      have ff : ∀ j, w.frozen? ⟨w00.heap.size, j, none⟩ = false := fun j => by simp [World.frozen?, hcs]
      have hLaid := Lib.hid (laid_set F (60 + U) hcs hsz3)
      have hEx := Lib.hid ((((Ex.refl w00.heap.size w).setCell 0 (.int .i64 1)).setCell 1 (.int .i64 F)).setCell 2 (.int .i64 (60 + U)))
      have HRR := Lib.hid hR
      clear hcs
      simp only [Array.getD_eq_getD_getElem?] at h2 h15
      refine y_skip (w' := ((w.setCell ⟨w00.heap.size, 0, none⟩ (.int .i64 1)).setCell ⟨w00.heap.size, 1, none⟩ (.int .i64 F)).setCell ⟨w00.heap.size, 2, none⟩ (.int .i64 (60 + U))) (by go_simp) ⟨(fun h => by cases h), fun _ => hLaid.out, ⟨(RdB.grown HRR.out.1 hEx.out (fun k hk => by injection hk with hk; omega)).mono (by omega), ?_⟩, ExS.of_ex hEx.out (.inr rfl), fun _ => hLaid.out, fun _ => laid_room hLaid.out⟩
      exact ⟨HRR.out.2.1.trans (ExS.of_ex hEx.out (.inr rfl)), laid_room hLaid.out⟩
    | 32, ho =>
      obtain rfl := Option.some.inj ho
      exact y_assign rfl ⟨fun _ => hdeps 20 _ 35 ⟨{ on := 20, ground := .data }, by simp, rfl, rfl⟩ rfl rfl, (fun h => by cases h), ⟨(hR.1.mono (by omega)), hR.2⟩, stx _ _ (Ex.refl _ _)⟩
    | 33, ho =>
      obtain rfl := Option.some.inj ho
      exact y_assign rfl ⟨fun _ => hdeps 30 _ 45 ⟨{ on := 30, ground := .data }, by simp, rfl, rfl⟩ rfl rfl, (fun h => by cases h), ⟨(hR.1.mono (by omega)), hR.2⟩, stx _ _ (Ex.refl _ _)⟩
    | _ + 34, ho => cases ho
  · intro a w9 hR hsz hdf hrest htyp hbare
    obtain ⟨T9, h9⟩ := hbare 31 _ rfl rfl
    have g0 : w9.cell? ⟨w00.heap.size, 0, none⟩ = some (.int .i64 1) := by simp [World.cell?, h9]
    have g1 : w9.cell? ⟨w00.heap.size, 1, none⟩ = some (.int .i64 F) := by simp [World.cell?, h9]
    have g2 : w9.cell? ⟨w00.heap.size, 2, none⟩ = some (.int .i64 (60 + U)) := by simp [World.cell?, h9]
    have hE : Ext w00 w9 := by
      have h1 := hR.2.1
      have h2 := (((Ext.refl w00).alloc (.cells #[.int .i64 0, .int .i64 0, .int .i64 0] 24)).trans HB.out).ex HR.out.2 (by omega)
      have h3 : Below w00.heap.size w00 w4 := h2.trans hW
      exact ⟨h1.os.trans h3.os, h1.tape.trans h3.tape, h1.output.trans h3.output, Nat.le_trans h3.size h1.size, fun k hk => (h1.block k (Nat.lt_of_lt_of_le hk h3.size) (by show ¬ (_ ∨ _); omega)).trans (h3.block k hk)⟩
    have HE := Lib.hid hE
    clear hE h9 hR
    obtain ⟨x15, e15⟩ : ∃ x, a.tmps.getD 15 undef = x := ⟨_, rfl⟩
    obtain ⟨x16, e16⟩ : ∃ x, a.tmps.getD 16 undef = x := ⟨_, rfl⟩
    obtain ⟨x17, e17⟩ : ∃ x, a.tmps.getD 17 undef = x := ⟨_, rfl⟩
    obtain ⟨x18, e18⟩ : ∃ x, a.tmps.getD 18 undef = x := ⟨_, rfl⟩
    obtain ⟨x19, e19⟩ : ∃ x, a.tmps.getD 19 undef = x := ⟨_, rfl⟩
    obtain ⟨x20, e20⟩ : ∃ x, a.tmps.getD 20 undef = x := ⟨_, rfl⟩
    obtain ⟨x21, e21⟩ : ∃ x, a.tmps.getD 21 undef = x := ⟨_, rfl⟩
    obtain ⟨x22, e22⟩ : ∃ x, a.tmps.getD 22 undef = x := ⟨_, rfl⟩
    obtain ⟨x23, e23⟩ : ∃ x, a.tmps.getD 23 undef = x := ⟨_, rfl⟩
    obtain ⟨x24, e24⟩ : ∃ x, a.tmps.getD 24 undef = x := ⟨_, rfl⟩
    obtain ⟨x25, e25⟩ : ∃ x, a.tmps.getD 25 undef = x := ⟨_, rfl⟩
    obtain ⟨x26, e26⟩ : ∃ x, a.tmps.getD 26 undef = x := ⟨_, rfl⟩
    obtain ⟨x27, e27⟩ : ∃ x, a.tmps.getD 27 undef = x := ⟨_, rfl⟩
    obtain ⟨x28, e28⟩ : ∃ x, a.tmps.getD 28 undef = x := ⟨_, rfl⟩
    obtain ⟨x29, e29⟩ : ∃ x, a.tmps.getD 29 undef = x := ⟨_, rfl⟩
    obtain ⟨x30, e30⟩ : ∃ x, a.tmps.getD 30 undef = x := ⟨_, rfl⟩
    obtain ⟨x31, e31⟩ : ∃ x, a.tmps.getD 31 undef = x := ⟨_, rfl⟩
    obtain ⟨x32, e32⟩ : ∃ x, a.tmps.getD 32 undef = x := ⟨_, rfl⟩
    obtain ⟨x33, e33⟩ : ∃ x, a.tmps.getD 33 undef = x := ⟨_, rfl⟩
    obtain ⟨x34, e34⟩ : ∃ x, a.tmps.getD 34 undef = x := ⟨_, rfl⟩
    obtain ⟨x35, e35⟩ : ∃ x, a.tmps.getD 35 undef = x := ⟨_, rfl⟩
    obtain ⟨x36, e36⟩ : ∃ x, a.tmps.getD 36 undef = x := ⟨_, rfl⟩
    obtain ⟨x37, e37⟩ : ∃ x, a.tmps.getD 37 undef = x := ⟨_, rfl⟩
    obtain ⟨x38, e38⟩ : ∃ x, a.tmps.getD 38 undef = x := ⟨_, rfl⟩
    obtain ⟨x39, e39⟩ : ∃ x, a.tmps.getD 39 undef = x := ⟨_, rfl⟩
    obtain ⟨x40, e40⟩ : ∃ x, a.tmps.getD 40 undef = x := ⟨_, rfl⟩
    obtain ⟨x41, e41⟩ : ∃ x, a.tmps.getD 41 undef = x := ⟨_, rfl⟩
    obtain ⟨x42, e42⟩ : ∃ x, a.tmps.getD 42 undef = x := ⟨_, rfl⟩
    obtain ⟨x43, e43⟩ : ∃ x, a.tmps.getD 43 undef = x := ⟨_, rfl⟩
    obtain ⟨x44, e44⟩ : ∃ x, a.tmps.getD 44 undef = x := ⟨_, rfl⟩
    obtain ⟨x45, e45⟩ : ∃ x, a.tmps.getD 45 undef = x := ⟨_, rfl⟩
    obtain ⟨k3, e3, l3, u3⟩ := htyp 32 _ 3 rfl rfl
    obtain ⟨k4, e4, l4, u4⟩ := htyp 33 _ 4 rfl rfl
    have ha := act_puts hsz hdf hrest [(15, x15), (16, x16), (17, x17), (18, x18), (19, x19), (20, x20), (21, x21), (22, x22), (23, x23), (24, x24), (25, x25), (26, x26), (27, x27), (28, x28), (29, x29), (30, x30), (31, x31), (32, x32), (33, x33), (34, x34), (35, x35), (36, x36), (37, x37), (38, x38), (39, x39), (40, x40), (41, x41), (42, x42), (43, x43), (44, x44), (45, x45), (3, .int .i64 k3), (4, .int .i64 k4)] rfl ⟨by decide, fun d hd => (by decide : ∀ d ∈ ([15, 16, 17, 18, 19, 20, 21, 22, 23, 24, 25, 26, 27, 28, 29, 30, 31, 32, 33, 34, 35, 36, 37, 38, 39, 40, 41, 42, 43, 44, 45, 3, 4] : List Nat), d < 46) d hd⟩ (by simp only [List.forall_mem_cons]; exact ⟨e15, e16, e17, e18, e19, e20, e21, e22, e23, e24, e25, e26, e27, e28, e29, e30, e31, e32, e33, e34, e35, e36, e37, e38, e39, e40, e41, e42, e43, e44, e45, e3, e4, fun _ h => by cases h⟩)
    clear hsz hdf hrest htyp hbare e15 e16 e17 e18 e19 e20 e21 e22 e23 e24 e25 e26 e27 e28 e29 e30 e31 e32 e33 e34 e35 e36 e37 e38 e39 e40 e41 e42 e43 e44 e45 e3 e4
    subst ha
    simp only [List.foldl_cons, List.foldl_nil, Act.put, List.setIfInBounds_toArray, List.set_cons_zero, List.set_cons_succ]
    go_wp2
    refine bodyPost_ret (v := .tuple #[.agg #[.int .i64 1, .int .i64 F, .int .i64 (60 + U)], .int .i64 k3, .int .i64 k4]) (by simp [results, Tryd.results10, go_sem, g0, g1, g2]) rfl ?_
    exact ⟨⟨1, F, 60 + U⟩, k3, k4, rfl, ⟨by show smI 1; unfold smI; omega, by show smI F; unfold smI; omega, by show smI (60 + U); unfold smI; omega⟩, by unfold smI; omega, by unfold smI; omega, HE.out⟩
end Go.Proofs.YtcmakjhpfgeenaaDoor
