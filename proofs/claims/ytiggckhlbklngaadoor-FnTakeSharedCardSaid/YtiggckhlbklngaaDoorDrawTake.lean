/- A shared set and a number are drawn. -/
import Derived.Test.YtiggckhlbklngaaDoorDrawShared
namespace Go.Proofs.YtiggckhlbklngaaDoor
open Go.RowKit
set_option maxRecDepth 8000

/-- The result's box. -/
def TBox (tb lo : Nat) (V : World) : Prop := ∃ p q i o, V.cell? ⟨tb, 0, none⟩ = some p ∧ V.cell? ⟨tb, 1, none⟩ = some q ∧ Val0 lo V p i ∧ Val0 lo V q o ∧ i.length ≤ 31 ∧ o.length ≤ 31
theorem TBox.ex {tb lo rb : Nat} {V V' : World} (h : TBox tb lo V) (hx : Ex rb V V') (hr : rb < lo) (hne : tb ≠ rb) : TBox tb lo V' := by
  obtain ⟨p, q, i, o, h1, h2, h3, h4, h5⟩ := h
  exact ⟨p, q, i, o, hx.cell h1 (by simpa using hne), hx.cell h2 (by simpa using hne), h3.ex hx hr, h4.ex hx hr, h5⟩
theorem TBox.put {tb lo : Nat} {V : World} {p q : Value} {i o : List Int} (hl : tb < lo) (h : BlkN V tb 2) (h1 : Val0 lo V p i) (h2 : Val0 lo V q o) (h3 : i.length ≤ 31) (h4 : o.length ≤ 31) : TBox tb lo ((V.setCell ⟨tb, 0, none⟩ p).setCell ⟨tb, 1, none⟩ q) := by
  obtain ⟨-, -, -, -, hs0, hs1⟩ := box_facts h p q
  refine ⟨p, q, i, o, ?_, hs1, (h1.set hl).set hl, (h2.set hl).set hl, h3, h4⟩
  rw [cell_set_other (by intro e; injection e with _ e _; omega)]
  exact hs0
/-- A shared set and a number were drawn. -/
def DrawnPN (w : World) (e : Ending) (w' : World) : Prop := ∃ p q i o, ∃ n : Int, e = .returned (.tuple #[.agg #[p, q], .int .i64 n]) ∧ Val0 w.heap.size w' p i ∧ Val0 w.heap.size w' q o ∧ i.length ≤ 31 ∧ o.length ≤ 31 ∧ Ext w w'
set_option maxHeartbeats 8000000 in
theorem DrawPutShared_any {v : Value} (w00 : World) (h : CodeIn w00 v) : Calls Tryd.prog 57 #[v] w00 (DrawnPN w00) := by
  obtain ⟨xs0, h1, h2, h3, h4⟩ := h
  have H := Lib.hid (open_b w00.heap.size (w00.alloc (.cells #[.slice none 0 0, .slice none 0 0] 40)) (by simp) h1.under (h1.ext ((Ext.refl w00).alloc (.cells #[.slice none 0 0, .slice none 0 0] 40))) h2 h3 h4)
  clear h1 h2 h3 h4
  go_enter Tryd.func57, Tryd.ntmps57
  go_wp2_with fail
  refine H.out.mono ?_
  rintro e w1 ⟨rb, rfl, hl, r1, b1⟩
  rw [size_alloc_] at hl
  have hr := r1.lt
  have hblk1 : BlkN w1 w00.heap.size 2 := (BlkN.made w00 #[.slice none 0 0, .slice none 0 0] 40).ext b1
  go_wp2_with fail
  refine (l20Shared_any w00.heap.size rb _ 9 _ r1 (by omega) (by omega) (by omega)).mono ?_
  rintro e w2 ⟨u, rfl, ⟨p, q, i, o, rfl, hv1, hv2, hl1, hl2⟩, r2, x2⟩
  have HR := Lib.hid r2
  have HX := Lib.hid x2
  have HB := Lib.hid b1
  have HBK := Lib.hid (hblk1.ex x2 (by omega))
  obtain ⟨A1, c1, rfl⟩ := hv1.shape
  obtain ⟨A2, c2, rfl⟩ := hv2.shape
  have HV := Lib.hid (And.intro hv1 (And.intro hv2 (And.intro hl1 hl2)))
  clear r1 b1 r2 x2 hblk1 hv1 hv2
  go_wp2_with fail
  refine wp_world (fun W => Ext w2 W ∧ w2.heap.size < W.heap.size ∧ W.cell? ⟨w2.heap.size, 0, none⟩ = some (.slice A1 i.length c1) ∧ W.cell? ⟨w2.heap.size, 1, none⟩ = some (.slice A2 o.length c2)) ⟨(Ext.refl _).alloc _, by simp, by go_cell, by go_cell⟩ ?_
  rintro w4 ⟨hW, hW2, C0, C1⟩
  have hTB : w00.heap.size < rb := by omega
  have hLB : ¬ ((fun k => k = rb ∨ k = w00.heap.size) w2.heap.size) := by show ¬ (_ ∨ _); have := HX.out.size; omega
  have hSlo : ∀ k, (fun k => k = rb ∨ k = w00.heap.size) k → k < w1.heap.size := fun k hk => by rcases hk with rfl | rfl <;> omega
  have HR4 := HR.out.ext hW
  have hSlt : ∀ k, (fun k => k = rb ∨ k = w00.heap.size) k → k < w4.heap.size := fun k hk => by have := hSlo k hk; have := HX.out.size; have := hW.size; omega
  have HREL : Rel (fun k => k = rb ∨ k = w00.heap.size) (fun V => BlkN V w00.heap.size 2) w4 w4 := ⟨ExS.refl _ _, HBK.out.ext hW⟩
  have stx : ∀ w w', Ex rb w w' → St (fun k => k = rb ∨ k = w00.heap.size) (TBox w00.heap.size w1.heap.size) (fun V => BlkN V w00.heap.size 2) w w' := fun w w' hx => ⟨ExS.of_ex hx (.inl rfl), fun h => h.ex hx hr (by omega), fun h => h.ex hx (by omega)⟩
  have V1 := HV.out.1.ext hW
  have V2 := HV.out.2.1.ext hW
  refine wp_region_typed [10, 11, 12, 13, 14, 15, 16, 17, 18, 19, 20, 3] (by kernel_rfl) (by kernel_rfl) (by kernel_rfl) (fun n w' => RdB w00.heap.size w' rb (300 + n) ∧ Rel (fun k => k = rb ∨ k = w00.heap.size) (fun V => BlkN V w00.heap.size 2) w4 w')
    (fun i u V => match i with
      | 0 => Good2 w1.heap.size V u
      | i => (([.top, .eq (.pointer (some ⟨rb, 0, none⟩)), .int 0 8, .ints 4 (-1) 31, .ints 7 0 3, .eq (.pointer (some ⟨rb, 0, none⟩)), .int 0 6, .adr 0 3, .int 0 3, .adr (-1) 31, .int (-1) 31, .made, .int (-1) 31] : List Ty).getD i .top).den (fun k => k = rb ∨ k = w00.heap.size) (TBox w00.heap.size w1.heap.size) u V)
    (St (fun k => k = rb ∨ k = w00.heap.size) (TBox w00.heap.size w1.heap.size) (fun V => BlkN V w00.heap.size 2)) ⟨(HR4).drew.mono (by omega), (HREL).step (stx _ _ ((Ex.refl _ _).drew))⟩ (fun i v w w' hx h => ?_) ?_ ?_
  · match i, h with
    | 0, h => exact Good2.exS h hx.1 hSlo
    | _ + 1, h => exact Ty.den_ex _ hx h
  · intro j op ho a n w hn hR hrest hdeps
    have hn' : n < 13 := hn
    match j, ho with
    | 0, ho =>
      obtain rfl := Option.some.inj ho
      have h6 : a.tmps.getD 5 undef = .pointer (some ⟨w2.heap.size, 0, none⟩) := hrest 5 (by decide)
      have c0 := hR.2.1.cell C0 hLB
      have c1' := hR.2.1.cell C1 hLB
      simp only [Array.getD_eq_getD_getElem?] at h6
      exact y_val (v := .agg #[.slice A1 i.length c1, .slice A2 o.length c2]) (by go_simp) ⟨fun _ => ⟨_, _, _, _, rfl, V1.exS hR.2.1 hSlo, V2.exS hR.2.1 hSlo, hl1, hl2⟩, (fun h => by cases h), ⟨(hR.1.mono (by omega)), hR.2⟩, stx _ _ (Ex.refl _ _)⟩
    | 1, ho =>
      obtain rfl := Option.some.inj ho
      have h0 : a.tmps.getD 4 undef = .pointer (some ⟨rb, 0, none⟩) := hrest 4 (by decide)
      exact y_move rfl ⟨fun _ => h0, (fun h => by cases h), ⟨(hR.1.mono (by omega)), hR.2⟩, stx _ _ (Ex.refl _ _)⟩
    | 2, ho =>
      obtain rfl := Option.some.inj ho
      have h1 : a.tmps.getD 11 undef = .pointer (some ⟨rb, 0, none⟩) := hdeps 1 _ 11 ⟨{ on := 1, ground := .data }, by simp, rfl, rfl⟩ rfl rfl
      refine y_call (args := #[.pointer (some ⟨rb, 0, none⟩), .int .i64 9]) rfl (fun _ _ => by kernel_rfl) (by simp [Act.eval, h1]) ?_
      exact (pick_b w00.heap.size rb _ 9 _ hR.1 (by omega) (by omega) (by omega)).mono fun e w2 ⟨k, he, k0, k1, r2, x2⟩ => ⟨_, he, fun _ => ⟨k, rfl, by omega, by omega⟩, (fun h => by cases h), ⟨r2.mono (by omega), hR.2.step (stx _ _ x2)⟩, stx _ _ x2⟩
    | 3, ho =>
      obtain rfl := Option.some.inj ho
      obtain ⟨k1, h1, l1, u1⟩ := hdeps 2 _ 12 ⟨{ on := 2, ground := .data }, by simp, rfl, rfl⟩ rfl rfl
      refine y_lit (cs := #[.int .i64 k1, .int .i64 30, .int .i64 31, .int .i64 (-1)]) (E := 3) ?_ ?_
      · intro W; simp only [Array.getD_eq_getD_getElem?] at h1; go_simp
      · exact ⟨fun _ => ints_made hSlt hR.2 rfl (by simp <;> omega), (fun h => by cases h), ⟨(hR.1.alloc _).mono (by omega), hR.2.step (stx _ _ ((Ex.refl _ _).alloc _))⟩, stx _ _ ((Ex.refl _ _).alloc _)⟩
    | 4, ho =>
      obtain rfl := Option.some.inj ho
      refine y_lit (cs := #[.int .i64 0, .int .i64 0, .int .i64 0, .int .i64 0, .int .i64 1, .int .i64 2, .int .i64 3]) (E := 3) ?_ ?_
      · intro W; go_simp
      · exact ⟨fun _ => ints_made hSlt hR.2 rfl (by simp <;> omega), (fun h => by cases h), ⟨(hR.1.alloc _).mono (by omega), hR.2.step (stx _ _ ((Ex.refl _ _).alloc _))⟩, stx _ _ ((Ex.refl _ _).alloc _)⟩
    | 5, ho =>
      obtain rfl := Option.some.inj ho
      have h0 : a.tmps.getD 4 undef = .pointer (some ⟨rb, 0, none⟩) := hrest 4 (by decide)
      exact y_move rfl ⟨fun _ => h0, (fun h => by cases h), ⟨(hR.1.mono (by omega)), hR.2⟩, stx _ _ (Ex.refl _ _)⟩
    | 6, ho =>
      obtain rfl := Option.some.inj ho
      have h1 : a.tmps.getD 15 undef = .pointer (some ⟨rb, 0, none⟩) := hdeps 5 _ 15 ⟨{ on := 5, ground := .data }, by simp, rfl, rfl⟩ rfl rfl
      refine y_call (args := #[.pointer (some ⟨rb, 0, none⟩), .int .i64 7]) rfl (fun _ _ => by kernel_rfl) (by simp [Act.eval, h1]) ?_
      exact (pick_b w00.heap.size rb _ 7 _ hR.1 (by omega) (by omega) (by omega)).mono fun e w2 ⟨k, he, k0, k1, r2, x2⟩ => ⟨_, he, fun _ => ⟨k, rfl, by omega, by omega⟩, (fun h => by cases h), ⟨r2.mono (by omega), hR.2.step (stx _ _ x2)⟩, stx _ _ x2⟩
    | 7, ho =>
      obtain rfl := Option.some.inj ho
      obtain ⟨b1, h1, e1, c1⟩ := hdeps 4 _ 14 ⟨{ on := 4, ground := .data }, by simp, rfl, rfl⟩ rfl rfl
      obtain ⟨k2, h2, l2, u2⟩ := hdeps 6 _ 16 ⟨{ on := 6, ground := .data }, by simp, rfl, rfl⟩ rfl rfl
      obtain ⟨q, rfl⟩ := Int.eq_ofNat_of_zero_le (show 0 ≤ k2 by omega)
      obtain ⟨y, cy, y0, y1⟩ := c1 q (by omega)
      exact y_index rfl h1 h2 (by omega) Tryd.underlying23 (fun _ => by kernel_rfl) ⟨fun _ => ⟨⟨b1, q, none⟩, y, rfl, e1, cy, y0, y1⟩, (fun h => by cases h), ⟨(hR.1.mono (by omega)), hR.2⟩, stx _ _ (Ex.refl _ _)⟩
    | 8, ho =>
      obtain rfl := Option.some.inj ho
      obtain ⟨p1, y1, h1, e1, c1, l1, u1⟩ := hdeps 7 _ 17 ⟨{ on := 7, ground := .data }, by simp, rfl, rfl⟩ rfl rfl
      exact y_load rfl h1 c1 (fun _ => by kernel_rfl) ⟨fun _ => ⟨y1, rfl, by omega, by omega⟩, (fun h => by cases h), ⟨(hR.1.mono (by omega)), hR.2⟩, stx _ _ (Ex.refl _ _)⟩
    | 9, ho =>
      obtain rfl := Option.some.inj ho
      obtain ⟨b1, h1, e1, c1⟩ := hdeps 3 _ 13 ⟨{ on := 3, ground := .data }, by simp, rfl, rfl⟩ rfl rfl
      obtain ⟨k2, h2, l2, u2⟩ := hdeps 8 _ 18 ⟨{ on := 8, ground := .data }, by simp, rfl, rfl⟩ rfl rfl
      obtain ⟨q, rfl⟩ := Int.eq_ofNat_of_zero_le (show 0 ≤ k2 by omega)
      obtain ⟨y, cy, y0, y1⟩ := c1 q (by omega)
      exact y_index rfl h1 h2 (by omega) Tryd.underlying23 (fun _ => by kernel_rfl) ⟨fun _ => ⟨⟨b1, q, none⟩, y, rfl, e1, cy, y0, y1⟩, (fun h => by cases h), ⟨(hR.1.mono (by omega)), hR.2⟩, stx _ _ (Ex.refl _ _)⟩
    | 10, ho =>
      obtain rfl := Option.some.inj ho
      obtain ⟨p1, y1, h1, e1, c1, l1, u1⟩ := hdeps 9 _ 19 ⟨{ on := 9, ground := .data }, by simp, rfl, rfl⟩ rfl rfl
      exact y_load rfl h1 c1 (fun _ => by kernel_rfl) ⟨fun _ => ⟨y1, rfl, by omega, by omega⟩, (fun h => by cases h), ⟨(hR.1.mono (by omega)), hR.2⟩, stx _ _ (Ex.refl _ _)⟩
    | 11, ho =>
      obtain rfl := Option.some.inj ho
      have e1 : a.tmps.getD 2 undef = .pointer (some ⟨w00.heap.size, 0, none⟩) := hrest 2 (by decide)
      obtain ⟨p, q, i, o, e2, hv1, hv2, g1, g2⟩ := hdeps 0 _ 10 ⟨{ on := 0, ground := .data }, by simp, rfl, rfl⟩ rfl rfl
      obtain ⟨B1, k1, rfl⟩ := hv1.shape
      obtain ⟨B2, k2, rfl⟩ := hv2.shape
      obtain ⟨f0, f1, ⟨d0, hd0⟩, ⟨d1, hd1⟩, -, -⟩ := box_facts hR.2.2 (.slice B1 i.length k1) (.slice B2 o.length k2)
      have hbx := TBox.put (hSlo _ (.inr rfl)) hR.2.2 hv1 hv2 g1 g2
      have hEx : Ex w00.heap.size w ((w.setCell ⟨w00.heap.size, 0, none⟩ (.slice B1 i.length k1)).setCell ⟨w00.heap.size, 1, none⟩ (.slice B2 o.length k2)) := ((Ex.refl _ _).setCell _ _).setCell _ _
      have hbk := (hR.2.2.set ⟨w00.heap.size, 0, none⟩ (.slice B1 i.length k1)).set ⟨w00.heap.size, 1, none⟩ (.slice B2 o.length k2)
      refine y_skip (w' := (w.setCell ⟨w00.heap.size, 0, none⟩ (.slice B1 i.length k1)).setCell ⟨w00.heap.size, 1, none⟩ (.slice B2 o.length k2)) ?_ ⟨(fun h => by cases h), fun _ => hbx, ⟨(RdB.grown hR.1 hEx (fun k hk => by injection hk with hk; omega)).mono (by omega), hR.2.1.trans (ExS.of_ex hEx (.inr rfl)), hbk⟩, ExS.of_ex hEx (.inr rfl), fun _ => hbx, fun _ => hbk⟩
      simp only [execOp, Act.eval, e1, e2]
      go_simp
    | 12, ho =>
      obtain rfl := Option.some.inj ho
      exact y_assign rfl ⟨fun _ => hdeps 10 _ 20 ⟨{ on := 10, ground := .data }, by simp, rfl, rfl⟩ rfl rfl, (fun h => by cases h), ⟨(hR.1.mono (by omega)), hR.2⟩, stx _ _ (Ex.refl _ _)⟩
    | _ + 13, ho => cases ho
  · intro a w9 hR hsz hdf hrest htyp hbare
    have h9 : TBox w00.heap.size w1.heap.size w9 := hbare 11 _ rfl rfl
    obtain ⟨k3, e3, -, -⟩ := htyp 12 _ 3 rfl rfl
    have e2 : a.tmps.getD 2 undef = .pointer (some ⟨w00.heap.size, 0, none⟩) := hrest 2 (by decide)
    have hE : Ext w00 w9 := by
      have h1 := hR.2.1
      have h2 := (((Ext.refl w00).alloc (.cells #[.slice none 0 0, .slice none 0 0] 40)).trans HB.out).ex HX.out (by omega)
      have h3 : Below w00.heap.size w00 w4 := h2.trans hW
      exact ⟨h1.os.trans h3.os, h1.tape.trans h3.tape, h1.output.trans h3.output, Nat.le_trans h3.size h1.size, fun k hk => (h1.block k (Nat.lt_of_lt_of_le hk h3.size) (by show ¬ (_ ∨ _); omega)).trans (h3.block k hk)⟩
    obtain ⟨p, q, i, o, g0, g1, hv1, hv2, hi, ho⟩ := h9
    obtain ⟨B1, k1, rfl⟩ := hv1.shape
    obtain ⟨B2, k2, rfl⟩ := hv2.shape
    simp only [Array.getD_eq_getD_getElem?] at e2 e3
    go_wp2
    refine bodyPost_ret (v := .tuple #[.agg #[.slice B1 i.length k1, .slice B2 o.length k2], .int .i64 k3]) (by simp [results, Tryd.results57, go_sem, e2, e3, g0, g1]) hdf ?_
    exact ⟨_, _, i, o, k3, rfl, hv1.low (by omega), hv2.low (by omega), hi, ho, hE⟩
set_option maxHeartbeats 1000000 in
theorem DrawTakeShared_any {v : Value} (w00 : World) (h : CodeIn w00 v) : Calls Tryd.prog 24 #[v] w00 (DrawnPN w00) := by
  have hE : Ext w00 (w00.alloc (.cells #[.slice none 0 0, .slice none 0 0] 40)) := (Ext.refl w00).alloc _
  obtain ⟨xs0, h1, h2, h3, h4⟩ := h
  have H := Lib.hid (DrawPutShared_any (w00.alloc (.cells #[.slice none 0 0, .slice none 0 0] 40)) ⟨xs0, h1.ext hE, h2, h3, h4⟩)
  have HE := Lib.hid hE
  clear h1 h2 h3 h4 hE
  go_enter Tryd.func24, Tryd.ntmps24
  go_wp2_with fail
  refine H.out.mono ?_
  rintro e w1 ⟨p, q, i, o, n, rfl, hv1, hv2, hl1, hl2, b1⟩
  have hbk := (BlkN.made w00 #[.slice none 0 0, .slice none 0 0] 40).ext b1
  obtain ⟨A1, c1, rfl⟩ := hv1.shape
  obtain ⟨A2, c2, rfl⟩ := hv2.shape
  rw [size_alloc_] at hv1 hv2
  obtain ⟨f0, f1, ⟨d0, hd0⟩, ⟨d1, hd1⟩, hs0, hs1⟩ := box_facts hbk (.slice A1 i.length c1) (.slice A2 o.length c2)
  have HV := Lib.hid (And.intro hv1 hv2)
  have HB := Lib.hid (HE.out.trans b1)
  clear hv1 hv2 b1 hbk
  go_wp2
  refine bodyPost_ret (v := .tuple #[.agg #[.slice A1 i.length c1, .slice A2 o.length c2], .int .i64 n]) (by simp [results, Tryd.results24, go_sem, hs0, hs1]) rfl ?_
  exact ⟨_, _, i, o, n, rfl, ((HV.out.1.set (by omega)).set (by omega)).low (by omega), ((HV.out.2.set (by omega)).set (by omega)).low (by omega), hl1, hl2, (HB.out.setCell (by simp) _).setCell (by simp) _⟩
end Go.Proofs.YtiggckhlbklngaaDoor
