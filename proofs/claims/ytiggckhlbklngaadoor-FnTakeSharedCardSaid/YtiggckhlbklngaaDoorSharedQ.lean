/- Shared sets of the reference: PutShared, TakeShared. -/
import Derived.Test.YtiggckhlbklngaaDoorSharedZ
namespace Go.Proofs.YtiggckhlbklngaaDoor
open Go.RowKit
set_option maxRecDepth 8000

theorem Val0.shape {lo : Nat} {w : World} {v : Value} {xs : List Int} (h : Val0 lo w v xs) : ∃ A c, v = .slice A xs.length c := by
  obtain ⟨A, c, hv, -⟩ := h.1
  exact ⟨A, c, hv⟩
/-- A box that holds two lists of the call's own. -/
def Boxed2 (g : Nat) (P1 P2 : List Int) (V : World) : Prop := ∃ p q, V.cell? ⟨g, 0, none⟩ = some p ∧ V.cell? ⟨g, 1, none⟩ = some q ∧ Val0 (g + 1) V p P1 ∧ Val0 (g + 1) V q P2
theorem Boxed2.ext {g : Nat} {P1 P2 : List Int} {V V' : World} (h : Boxed2 g P1 P2 V) (hb : Ext V V') : Boxed2 g P1 P2 V' := by
  obtain ⟨p, q, h1, h2, h3, h4⟩ := h
  exact ⟨p, q, hb.cell h1, hb.cell h2, h3.ext hb, h4.ext hb⟩
theorem Boxed2.put {g : Nat} {P1 P2 : List Int} {V : World} {p q : Value} (h : BlkN V g 2) (h1 : Val0 (g + 1) V p P1) (h2 : Val0 (g + 1) V q P2) : Boxed2 g P1 P2 ((V.setCell ⟨g, 0, none⟩ p).setCell ⟨g, 1, none⟩ q) := by
  obtain ⟨-, -, -, -, hs0, hs1⟩ := box_facts h p q
  refine ⟨p, q, ?_, hs1, (h1.set (by omega)).set (by omega), (h2.set (by omega)).set (by omega)⟩
  rw [cell_set_other (by intro e; injection e with _ e _; omega)]
  exact hs0
set_option maxHeartbeats 4000000 in
theorem spec_PutShared {vi vo : Value} {i o : List Int} (n : Int) (w : World) (hi : Sl1 encI w vi i) (ho : Sl1 encI w vo o) (hli : i.length ≤ 900000) (hlo : o.length ≤ 900000) :
    Calls Tryd.prog 85 #[.agg #[vi, vo], .int .i64 n] w (RetSh w (putSh i o n).1 (putSh i o n).2) := by
  obtain ⟨P1, hP1⟩ : ∃ P, (putSh i o n).1 = P := ⟨_, rfl⟩
  obtain ⟨P2, hP2⟩ : ∃ P, (putSh i o n).2 = P := ⟨_, rfl⟩
  rw [hP1, hP2]
  have HP := Lib.hid (And.intro hP1 hP2)
  clear hP1 hP2
  have hE : Ext w ((w.alloc (.cells #[vi, vo] 40)).alloc (.cells #[.slice none 0 0, .slice none 0 0] 40)) := ((Ext.refl w).alloc _).alloc _
  have HO := Lib.hid (l1Own_any _ (hi.ext hE) (ho.ext hE) (by omega) (by omega))
  have HE := Lib.hid hE
  have hb1 := (BlkN.made w #[vi, vo] 40).ext ((Ext.refl _).alloc (.cells #[.slice none 0 0, .slice none 0 0] 40))
  have hb2 := BlkN.made (w.alloc (.cells #[vi, vo] 40)) #[.slice none 0 0, .slice none 0 0] 40
  have HB1 : Hid (BlkN ((w.alloc (.cells #[vi, vo] 40)).alloc (.cells #[.slice none 0 0, .slice none 0 0] 40)) w.heap.size 2) := hb1
  have HB2 : Hid (BlkN ((w.alloc (.cells #[vi, vo] 40)).alloc (.cells #[.slice none 0 0, .slice none 0 0] 40)) (w.heap.size + 1) 2) := by
    show BlkN _ _ _
    simpa using hb2
  clear hi ho hE hb1 hb2
  go_enter Tryd.func85, Tryd.ntmps85
  go_wp2_with fail
  refine HO.out.mono ?_
  rintro e w3 ⟨x, y, rfl, hx, hy, b3⟩
  obtain ⟨A1, c1, rfl⟩ := hx.shape
  obtain ⟨A2, c2, rfl⟩ := hy.shape
  obtain ⟨hf0, hf1, ⟨d0, hd0⟩, ⟨d1, hd1⟩, hs0, hs1'⟩ := box_facts (HB1.out.ext b3) (.slice A1 i.length c1) (.slice A2 o.length c2)
  obtain ⟨W5, hW5⟩ : ∃ W5, (w3.setCell ⟨w.heap.size, 0, none⟩ (.slice A1 i.length c1)).setCell ⟨w.heap.size, 1, none⟩ (.slice A2 o.length c2) = W5 := ⟨_, rfl⟩
  have hlo5 : ((w.alloc (.cells #[vi, vo] 40)).alloc (.cells #[.slice none 0 0, .slice none 0 0] 40)).heap.size = w.heap.size + 2 := by simp
  rw [hlo5] at hx hy
  have hE5 : Ext w W5 := by rw [← hW5]; exact ((HE.out.trans b3).setCell (Nat.le_refl _) _).setCell (Nat.le_refl _) _
  have hx5 : Val0 (w.heap.size + 2) W5 (.slice A1 i.length c1) i := by rw [← hW5]; exact (hx.set (by omega)).set (by omega)
  have hy5 : Val0 (w.heap.size + 2) W5 (.slice A2 o.length c2) o := by rw [← hW5]; exact (hy.set (by omega)).set (by omega)
  have hb5 : BlkN W5 (w.heap.size + 1) 2 := by rw [← hW5]; exact ((HB2.out.ext b3).set _ _).set _ _
  have g0 : W5.cell? ⟨w.heap.size, 0, none⟩ = some (.slice A1 i.length c1) := by
    rw [← hW5, cell_set_other (by intro e; injection e with _ e _; omega)]; exact hs0
  have g1 : W5.cell? ⟨w.heap.size, 1, none⟩ = some (.slice A2 o.length c2) := by rw [← hW5]; exact hs1'
  have HX := Lib.hid hx5
  have HY := Lib.hid hy5
  have HE5 := Lib.hid hE5
  have HB5 := Lib.hid hb5
  clear hx hy b3 hE5 hx5 hy5 hb5 hlo5 hs0 hs1'
  go_wp2_with fail
  refine (spec_SharedValid _ HX.out.1 HY.out.1 (by omega) (by omega)).mono ?_
  rintro e w6 ⟨rfl, b6⟩
  have HB6 := Lib.hid b6
  have HX6 := Lib.hid (HX.out.ext b6)
  have HY6 := Lib.hid (HY.out.ext b6)
  have k0 := b6.cell g0
  have k1 := b6.cell g1
  have hE6 := HE5.out.trans b6
  have HE6 := Lib.hid hE6
  have hblk := HB5.out.ext b6
  have HBK := Lib.hid hblk
  obtain ⟨hf0', hf1', ⟨d0', hd0'⟩, ⟨d1', hd1'⟩, hs0, hs1'⟩ := box_facts hblk (.slice none 0 0) (.slice none 0 0)
  clear hblk b6 hE6 g0 g1
  have hcase : okSh i o = false ∨ (okSh i o = true ∧ inB n 0 30 = false) ∨ (okSh i o = true ∧ inB n 0 30 = true) := by cases okSh i o <;> cases inB n 0 30 <;> simp
  rcases hcase with hok | ⟨hok, hn⟩ | ⟨hok, hn⟩
  · have HF : Hid (putSh i o n = ([], [])) := by show _ = _; unfold putSh; rw [if_neg (by simp [hok])]
    obtain rfl : P1 = [] := by rw [← HP.out.1, HF.out]
    obtain rfl : P2 = [] := by rw [← HP.out.2, HF.out]
    rw [hok]
    clear hok
    go_wp2
    refine bodyPost_ret (v := .agg #[.slice none 0 0, .slice none 0 0]) (by simp [results, Tryd.results85, go_sem, hs0, hs1']) rfl ?_
    exact ⟨_, _, rfl, Val0.nil _ _, Val0.nil _ _, (HE6.out.setCell (by simp) _).setCell (by simp) _⟩
  · have HF : Hid (putSh i o n = ([], [])) := by show _ = _; unfold putSh; rw [if_neg (by simp [hn])]
    obtain rfl : P1 = [] := by rw [← HP.out.1, HF.out]
    obtain rfl : P2 = [] := by rw [← HP.out.2, HF.out]
    rw [hok]
    clear hok
    go_wp2_with fail
    refine (l1In_any _ _ _ _).mono ?_
    rw [hn]
    rintro e w7 ⟨rfl, rfl⟩
    go_wp2
    refine bodyPost_ret (v := .agg #[.slice none 0 0, .slice none 0 0]) (by simp [results, Tryd.results85, go_sem, hs0, hs1']) rfl ?_
    exact ⟨_, _, rfl, Val0.nil _ _, Val0.nil _ _, (HE6.out.setCell (by simp) _).setCell (by simp) _⟩
  · have HF : Hid (putSh i o n = (putL i n, o)) := by show _ = _; unfold putSh; rw [if_pos ⟨hok, hn⟩]
    have e1 : putL i n = P1 := by rw [← HP.out.1, HF.out]
    obtain rfl : P2 = o := by rw [← HP.out.2, HF.out]
    have HP1 := Lib.hid e1
    clear e1
    rw [hok]
    clear hok hs0 hs1'
    go_wp2_with fail
    refine (l1In_any _ _ _ _).mono ?_
    rw [hn]
    rintro e w7 ⟨rfl, rfl⟩
    have hlh : w.heap.size + 2 ≤ w6.heap.size := by have := HBK.out.lt; omega
    have HLH := Lib.hid hlh
    have K0 := Lib.hid k0
    have K1 := Lib.hid k1
    clear k0 k1 hlh hd0' hd1' hf0' hf1' hd0 hd1 hf0 hf1
    go_wp2_with fail
    refine wp_region_typed [16, 17, 18, 19, 20, 21, 22, 23, 24] (by kernel_rfl) (by kernel_rfl) (by kernel_rfl)
      (fun _ V => Ex (w.heap.size + 1) w6 V ∧ BlkN V (w.heap.size + 1) 2)
      (fun j u V => match j with
        | 0 => u = .pointer (some ⟨w.heap.size, 0, none⟩)
        | 1 => u = .slice A1 i.length c1
        | 2 => u = .int .i64 n
        | 3 => Val0 (w.heap.size + 2) V u P1
        | 4 => ∃ g, u = .slice (some ⟨g, 0, none⟩) 0 0 ∧ w.heap.size + 2 ≤ g
        | 5 => u = .pointer (some ⟨w.heap.size, 1, none⟩)
        | 6 => u = .slice A2 P2.length c2
        | 7 => Val0 (w.heap.size + 2) V u P2
        | 8 => ∃ p q, u = .agg #[p, q] ∧ Val0 (w.heap.size + 2) V p P1 ∧ Val0 (w.heap.size + 2) V q P2
        | _ => Boxed2 (w.heap.size + 1) P1 P2 V)
      (fun V V' => Ex (w.heap.size + 1) V V' ∧ (Boxed2 (w.heap.size + 1) P1 P2 V → Boxed2 (w.heap.size + 1) P1 P2 V'))
      ⟨(Ex.refl _ _).drew, HBK.out.ext (Ext.refl _).drew⟩ ?_ ?_ ?_
    · intro j u V V' hS hT'
      match j, hT' with
      | 0, hT' => exact hT'
      | 1, hT' => exact hT'
      | 2, hT' => exact hT'
      | 3, hT' => exact Val0.ex hT' hS.1 (by omega)
      | 4, hT' => exact hT'
      | 5, hT' => exact hT'
      | 6, hT' => exact hT'
      | 7, hT' => exact Val0.ex hT' hS.1 (by omega)
      | 8, hT' =>
        obtain ⟨p, q, rfl, h1, h2⟩ := hT'
        exact ⟨p, q, rfl, h1.ex hS.1 (by omega), h2.ex hS.1 (by omega)⟩
      | _ + 9, hT' => exact hS.2 hT'
    · have hst : ∀ V, Ex (w.heap.size + 1) V V ∧ (Boxed2 (w.heap.size + 1) P1 P2 V → Boxed2 (w.heap.size + 1) P1 P2 V) := fun V => ⟨Ex.refl _ _, id⟩
      have hup : ∀ V V', (Ex (w.heap.size + 1) w6 V ∧ BlkN V (w.heap.size + 1) 2) → Ext V V' → (Ex (w.heap.size + 1) w6 V' ∧ BlkN V' (w.heap.size + 1) 2) ∧ Ex (w.heap.size + 1) V V' ∧ (Boxed2 (w.heap.size + 1) P1 P2 V → Boxed2 (w.heap.size + 1) P1 P2 V') := fun V V' h hb => ⟨⟨h.1.ext hb, h.2.ext hb⟩, Ex.of_ext hb, fun hB => hB.ext hb⟩
      intro j op ho a n' V hn hR hrest hdeps
      match j, ho with
      | 0, ho =>
        obtain rfl := Option.some.inj ho
        have e1 : a.tmps.getD 2 undef = .pointer (some ⟨w.heap.size, 0, none⟩) := hrest 2 (by decide)
        refine y_run (v := .pointer (some ⟨w.heap.size, 0, none⟩)) (w' := V) ?_ ⟨fun _ => rfl, (fun h => by cases h), hR, hst V⟩
        simp only [execOp, Act.eval, e1]
        go_simp
      | 1, ho =>
        obtain rfl := Option.some.inj ho
        have e1 : a.tmps.getD 16 undef = .pointer (some ⟨w.heap.size, 0, none⟩) := hdeps 0 _ 16 ⟨{ on := 0, ground := .data }, by simp, rfl, rfl⟩ rfl rfl
        exact y_load rfl e1 (hR.1.cell K0.out (by simp)) (fun _ => by kernel_rfl) ⟨fun _ => rfl, (fun h => by cases h), hR, hst V⟩
      | 2, ho =>
        obtain rfl := Option.some.inj ho
        exact y_move rfl ⟨fun _ => hrest 1 (by decide), (fun h => by cases h), hR, hst V⟩
      | 3, ho =>
        obtain rfl := Option.some.inj ho
        have e1 : a.tmps.getD 17 undef = .slice A1 i.length c1 := hdeps 1 _ 17 ⟨{ on := 1, ground := .data }, by simp, rfl, rfl⟩ rfl rfl
        have e2 : a.tmps.getD 18 undef = .int .i64 n := hdeps 2 _ 18 ⟨{ on := 2, ground := .data }, by simp, rfl, rfl⟩ rfl rfl
        have hv := HX6.out.ex hR.1 (show w.heap.size + 1 < w.heap.size + 2 by omega)
        refine y_call (args := #[.slice A1 i.length c1, .int .i64 n]) rfl (fun _ _ => by kernel_rfl) (by simp [Act.eval, e1, e2]) ?_
        refine (l30Put_any n V hv.1 (by omega) hv.2.2).mono ?_
        rintro e V' ⟨v', rfl, hrow, hb⟩
        rw [HP1.out] at hrow
        have := hup V V' hR hb
        exact ⟨v', rfl, fun _ => (Val0.of_row hrow).low (Nat.le_trans HLH.out hR.1.size), (fun h => by cases h), this.1, this.2⟩
      | 4, ho =>
        obtain rfl := Option.some.inj ho
        have := hup V (V.alloc (.cells #[] 3)) hR ((Ext.refl V).alloc _)
        refine y_run (v := .slice (some ⟨V.heap.size, 0, none⟩) 0 0) (w' := V.alloc (.cells #[] 3)) ?_ ⟨fun _ => ⟨V.heap.size, rfl, Nat.le_trans HLH.out hR.1.size⟩, (fun h => by cases h), this.1, this.2⟩
        go_simp
      | 5, ho =>
        obtain rfl := Option.some.inj ho
        have e1 : a.tmps.getD 2 undef = .pointer (some ⟨w.heap.size, 0, none⟩) := hrest 2 (by decide)
        refine y_run (v := .pointer (some ⟨w.heap.size, 1, none⟩)) (w' := V) ?_ ⟨fun _ => rfl, (fun h => by cases h), hR, hst V⟩
        simp only [execOp, Act.eval, e1]
        go_simp
      | 6, ho =>
        obtain rfl := Option.some.inj ho
        have e1 : a.tmps.getD 21 undef = .pointer (some ⟨w.heap.size, 1, none⟩) := hdeps 5 _ 21 ⟨{ on := 5, ground := .data }, by simp, rfl, rfl⟩ rfl rfl
        exact y_load rfl e1 (hR.1.cell K1.out (by simp)) (fun _ => by kernel_rfl) ⟨fun _ => rfl, (fun h => by cases h), hR, hst V⟩
      | 7, ho =>
        obtain rfl := Option.some.inj ho
        obtain ⟨g, e1, hg⟩ := hdeps 4 _ 20 ⟨{ on := 4, ground := .data }, by simp, rfl, rfl⟩ rfl rfl
        have e2 : a.tmps.getD 22 undef = .slice A2 P2.length c2 := hdeps 6 _ 22 ⟨{ on := 6, ground := .data }, by simp, rfl, rfl⟩ rfl rfl
        have hv := HY6.out.ex hR.1 (show w.heap.size + 1 < w.heap.size + 2 by omega)
        obtain ⟨A', c', W', hrun, hval, hb⟩ := zero_cat (lo := w.heap.size + 2) V hg hv.1 (by omega) (Nat.le_trans HLH.out hR.1.size)
        have := hup V W' hR hb
        exact y_append (t := 23) rfl e1 e2 ⟨_, W', hrun, fun _ => hval, (fun h => by cases h), this.1, this.2⟩
      | 8, ho =>
        obtain rfl := Option.some.inj ho
        have hv1 : Val0 (w.heap.size + 2) V (a.tmps.getD 19 undef) P1 := hdeps 3 _ 19 ⟨{ on := 3, ground := .data }, by simp, rfl, rfl⟩ rfl rfl
        have hv2 : Val0 (w.heap.size + 2) V (a.tmps.getD 23 undef) P2 := hdeps 7 _ 23 ⟨{ on := 7, ground := .data }, by simp, rfl, rfl⟩ rfl rfl
        obtain ⟨p, hp⟩ : ∃ p, a.tmps.getD 19 undef = p := ⟨_, rfl⟩
        obtain ⟨q, hq⟩ : ∃ q, a.tmps.getD 23 undef = q := ⟨_, rfl⟩
        rw [hp] at hv1
        rw [hq] at hv2
        obtain ⟨A1', c1', rfl⟩ := hv1.shape
        obtain ⟨A2', c2', rfl⟩ := hv2.shape
        refine y_run (v := .agg #[.slice A1' P1.length c1', .slice A2' P2.length c2']) (w' := V) ?_ ⟨fun _ => ⟨_, _, rfl, hv1, hv2⟩, (fun h => by cases h), hR, hst V⟩
        simp only [Array.getD_eq_getD_getElem?] at hp hq
        simp only [execOp, Act.eval]
        go_simp
      | 9, ho =>
        obtain rfl := Option.some.inj ho
        have e1 : a.tmps.getD 4 undef = .pointer (some ⟨w.heap.size + 1, 0, none⟩) := hrest 4 (by decide)
        obtain ⟨p, q, e2, hv1, hv2⟩ := hdeps 8 _ 24 ⟨{ on := 8, ground := .data }, by simp, rfl, rfl⟩ rfl rfl
        obtain ⟨A1', c1', rfl⟩ := hv1.shape
        obtain ⟨A2', c2', rfl⟩ := hv2.shape
        obtain ⟨f0, f1, ⟨d0, hd0⟩, ⟨d1, hd1⟩, -, -⟩ := box_facts hR.2 (.slice A1' P1.length c1') (.slice A2' P2.length c2')
        have hbx := Boxed2.put hR.2 hv1 hv2
        refine y_skip (w' := (V.setCell ⟨w.heap.size + 1, 0, none⟩ (.slice A1' P1.length c1')).setCell ⟨w.heap.size + 1, 1, none⟩ (.slice A2' P2.length c2')) ?_ ⟨(fun h => by cases h), fun _ => hbx, ⟨(hR.1.setCell _ _).setCell _ _, (hR.2.set _ _).set _ _⟩, ((Ex.refl _ _).setCell _ _).setCell _ _, fun _ => hbx⟩
        simp only [execOp, Act.eval, e1, e2]
        go_simp
      | _ + 10, ho => cases ho
    · intro a V hR hsz hdf hrest htyp hbare
      have h9 : Boxed2 (w.heap.size + 1) P1 P2 V := hbare 9 _ rfl rfl
      have e4 : a.tmps.getD 4 undef = .pointer (some ⟨w.heap.size + 1, 0, none⟩) := hrest 4 (by decide)
      obtain ⟨p, q, hc0, hc1, hv1, hv2⟩ := h9
      obtain ⟨A1', c1', rfl⟩ := hv1.shape
      obtain ⟨A2', c2', rfl⟩ := hv2.shape
      simp only [Array.getD_eq_getD_getElem?] at e4
      go_wp2
      refine bodyPost_ret (v := .agg #[.slice A1' P1.length c1', .slice A2' P2.length c2']) (by simp [results, Tryd.results85, go_sem, e4, hc0, hc1]) hdf ?_
      exact ⟨_, _, rfl, hv1.low (by omega), hv2.low (by omega), Ext.ex HE6.out hR.1 (by omega)⟩
end Go.Proofs.YtiggckhlbklngaaDoor
