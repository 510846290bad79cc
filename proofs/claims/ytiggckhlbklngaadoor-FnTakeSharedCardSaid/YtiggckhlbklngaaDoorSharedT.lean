/- Shared sets of the reference: TakeShared. -/
import Derived.Test.YtiggckhlbklngaaDoorSharedQ
import Derived.Test.YtiggckhlbklngaaDoorTypedD
namespace Go.Proofs.YtiggckhlbklngaaDoor
open Go.RowKit
set_option maxRecDepth 8000

theorem Own.offEx {lo g : Nat} {w w' : World} {v : Value} (h : Own lo w v) (hx : Ex g w w') (ho : Off g v) : Own lo w' v := fun a n c hv hn => by
  obtain ⟨h1, h2, h3⟩ := h a n c hv hn
  refine ⟨h1, Nat.lt_of_lt_of_le h2 hx.size, fun i => ?_⟩
  rw [← h3 i]
  exact World.frozen?_of_block (a := ⟨a.block, i, none⟩) (World.grownBy.block hx a.block h2 (by have := ho a n c hv hn; simp; omega))
theorem Val0.offEx {lo g : Nat} {w w' : World} {v : Value} {xs : List Int} (h : Val0 lo w v xs) (hx : Ex g w w') (ho : Off g v) : Val0 lo w' v xs := ⟨h.1.off hx ho, h.2.1.offEx hx ho, h.2.2⟩
/-- A block of two empty lists. -/
def Zero2 (V : World) (g : Nat) : Prop := ∃ t, V.heap[g]? = some (.cells #[.slice none 0 0, .slice none 0 0] t (0, 0))
theorem Zero2.ext {V V' : World} {g : Nat} (h : Zero2 V g) (hb : Ext V V') : Zero2 V' g := by
  obtain ⟨t, h⟩ := h
  exact ⟨t, (Below.block hb g (Array.getElem?_eq_some_iff.1 h).1).trans h⟩
theorem Zero2.blk {V : World} {g : Nat} (h : Zero2 V g) : BlkN V g 2 := by
  obtain ⟨t, h⟩ := h
  exact ⟨_, t, h, rfl⟩
theorem Zero2.off {V : World} {g : Nat} {v : Value} {xs : List Int} (h : Zero2 V g) (hv : Sl1 encI V v xs) : Off g v := fun a n c e hn hg => by
  obtain ⟨t, h⟩ := h
  obtain ⟨A, c', hA, hs⟩ := hv
  rw [hA] at e
  injection e with e1 e2 e3
  obtain ⟨b, off, hb, hlt, hc⟩ := hs (by omega)
  obtain ⟨x, hx⟩ := at_some (show 0 < xs.length by omega)
  have h1 := hc 0 x hx
  rw [hb] at e1
  injection e1 with e1
  subst e1
  simp only at hg
  subst hg
  rw [cell_of_row _ _ _ _ t (0, 0) h] at h1
  have h2 : off + 0 = 0 ∨ off + 0 = 1 ∨ 2 ≤ off + 0 := by omega
  rcases h2 with h2 | h2 | h2
  · rw [h2] at h1; simp [encI] at h1
  · rw [h2] at h1; simp [encI] at h1
  · rw [Array.getElem?_eq_none (by simpa using h2)] at h1; cases h1
/-- A box that holds two lists that lie apart from it. -/
def BoxedX (lo g : Nat) (P1 P2 : List Int) (V : World) : Prop := ∃ p q, V.cell? ⟨g, 0, none⟩ = some p ∧ V.cell? ⟨g, 1, none⟩ = some q ∧ BlkN V g 2 ∧ Val0 lo V p P1 ∧ Val0 lo V q P2 ∧ Off g p ∧ Off g q
theorem BoxedX.ext {lo g : Nat} {P1 P2 : List Int} {V V' : World} (h : BoxedX lo g P1 P2 V) (hb : Ext V V') : BoxedX lo g P1 P2 V' := by
  obtain ⟨p, q, h1, h2, h3, h4, h5, h6⟩ := h
  exact ⟨p, q, hb.cell h1, hb.cell h2, h3.ext hb, h4.ext hb, h5.ext hb, h6⟩
theorem BoxedX.put {lo g : Nat} {P1 P2 : List Int} {V : World} {p q : Value} (h : Zero2 V g) (h1 : Val0 lo V p P1) (h2 : Val0 lo V q P2) : BoxedX lo g P1 P2 ((V.setCell ⟨g, 0, none⟩ p).setCell ⟨g, 1, none⟩ q) := by
  obtain ⟨-, -, -, -, hs0, hs1⟩ := box_facts h.blk p q
  have o1 := h.off h1.1
  have o2 := h.off h2.1
  have hx : Ex g V ((V.setCell ⟨g, 0, none⟩ p).setCell ⟨g, 1, none⟩ q) := ((Ex.refl _ _).setCell _ _).setCell _ _
  refine ⟨p, q, ?_, hs1, (h.blk.set _ _).set _ _, h1.offEx hx o1, h2.offEx hx o2, o1, o2⟩
  rw [cell_set_other (by intro e; injection e with _ e _; omega)]
  exact hs0
set_option maxHeartbeats 8000000 in
theorem spec_TakeShared {vi vo : Value} {i o : List Int} (n : Int) (w : World) (hi : Sl1 encI w vi i) (ho : Sl1 encI w vo o) (hli : i.length ≤ 900000) (hlo : o.length ≤ 900000) :
    Calls Tryd.prog 27 #[.agg #[vi, vo], .int .i64 n] w (RetSh w (takeSh i o n).1 (takeSh i o n).2) := by
  obtain ⟨P1, hP1⟩ : ∃ P, (takeSh i o n).1 = P := ⟨_, rfl⟩
  obtain ⟨P2, hP2⟩ : ∃ P, (takeSh i o n).2 = P := ⟨_, rfl⟩
  rw [hP1, hP2]
  have HP := Lib.hid (And.intro hP1 hP2)
  clear hP1 hP2
  have hE : Ext w ((w.alloc (.cells #[vi, vo] 40)).alloc (.cells #[.slice none 0 0, .slice none 0 0] 40)) := ((Ext.refl w).alloc _).alloc _
  have HO := Lib.hid (l1Own_any _ (hi.ext hE) (ho.ext hE) (by omega) (by omega))
  have HE := Lib.hid hE
  have hb1 := (BlkN.made w #[vi, vo] 40).ext ((Ext.refl _).alloc (.cells #[.slice none 0 0, .slice none 0 0] 40))
  have hb2 := BlkN.made (w.alloc (.cells #[vi, vo] 40)) #[.slice none 0 0, .slice none 0 0] 40
  have HB1 : Hid (BlkN ((w.alloc (.cells #[vi, vo] 40)).alloc (.cells #[.slice none 0 0, .slice none 0 0] 40)) w.heap.size 2) := hb1
  have HB2 : Hid (BlkN ((w.alloc (.cells #[vi, vo] 40)).alloc (.cells #[.slice none 0 0, .slice none 0 0] 40)) (w.heap.size + 1) 2) := by
    show BlkN _ _ _
    simpa using hb2
  clear hi ho hE hb1 hb2
  go_enter Tryd.func27, Tryd.ntmps27
  go_wp2_with fail
  refine HO.out.mono ?_
  rintro e w3 ⟨x, y, rfl, hx, hy, b3⟩
  obtain ⟨A1, c1, rfl⟩ := hx.shape
  obtain ⟨A2, c2, rfl⟩ := hy.shape
  obtain ⟨hf0, hf1, ⟨d0, hd0⟩, ⟨d1, hd1⟩, hs0, hs1'⟩ := box_facts (HB1.out.ext b3) (.slice A1 i.length c1) (.slice A2 o.length c2)
  obtain ⟨W5, hW5⟩ : ∃ W5, (w3.setCell ⟨w.heap.size, 0, none⟩ (.slice A1 i.length c1)).setCell ⟨w.heap.size, 1, none⟩ (.slice A2 o.length c2) = W5 := ⟨_, rfl⟩
  have hlo5 : ((w.alloc (.cells #[vi, vo] 40)).alloc (.cells #[.slice none 0 0, .slice none 0 0] 40)).heap.size = w.heap.size + 2 := by simp
  rw [hlo5] at hx hy
  have hE5 : Ext w W5 := by rw [← hW5]; exact ((HE.out.trans b3).setCell (Nat.le_refl _) _).setCell (Nat.le_refl _) _
  have hx5 : Val0 (w.heap.size + 2) W5 (.slice A1 i.length c1) i := by rw [← hW5]; exact (hx.set (by omega)).set (by omega)
  have hy5 : Val0 (w.heap.size + 2) W5 (.slice A2 o.length c2) o := by rw [← hW5]; exact (hy.set (by omega)).set (by omega)
  have hb5 : BlkN W5 (w.heap.size + 1) 2 := by rw [← hW5]; exact ((HB2.out.ext b3).set _ _).set _ _
  have g0 : W5.cell? ⟨w.heap.size, 0, none⟩ = some (.slice A1 i.length c1) := by
    rw [← hW5, cell_set_other (by intro e; injection e with _ e _; omega)]; exact hs0
  have g1 : W5.cell? ⟨w.heap.size, 1, none⟩ = some (.slice A2 o.length c2) := by rw [← hW5]; exact hs1'
  have HX := Lib.hid hx5
  have HY := Lib.hid hy5
  have HE5 := Lib.hid hE5
  have HB5 := Lib.hid hb5
  clear hx hy b3 hE5 hx5 hy5 hb5 hlo5 hs0 hs1'
  go_wp2_with fail
  refine (spec_SharedValid _ HX.out.1 HY.out.1 (by omega) (by omega)).mono ?_
  rintro e w6 ⟨rfl, b6⟩
  have HX6 := Lib.hid (HX.out.ext b6)
  have HY6 := Lib.hid (HY.out.ext b6)
  have K0 := Lib.hid (b6.cell g0)
  have K1 := Lib.hid (b6.cell g1)
  have HE6 := Lib.hid (HE5.out.trans b6)
  have hblk := HB5.out.ext b6
  have HBK := Lib.hid hblk
  clear b6 g0 g1 hd0 hd1 hf0 hf1
  cases hok : okSh i o with
  | false =>
    have HF : Hid (takeSh i o n = ([], [])) := by show _ = _; unfold takeSh; rw [if_neg (by simp [hok])]
    obtain rfl : P1 = [] := by rw [← HP.out.1, HF.out]
    obtain rfl : P2 = [] := by rw [← HP.out.2, HF.out]
    obtain ⟨hf0', hf1', ⟨d0', hd0'⟩, ⟨d1', hd1'⟩, hs0, hs1'⟩ := box_facts hblk (.slice none 0 0) (.slice none 0 0)
    clear hok hblk
    go_wp2
    refine bodyPost_ret (v := .agg #[.slice none 0 0, .slice none 0 0]) (by simp [results, Tryd.results27, go_sem, hs0, hs1']) rfl ?_
    exact ⟨_, _, rfl, Val0.nil _ _, Val0.nil _ _, (HE6.out.setCell (by simp) _).setCell (by simp) _⟩
  | true =>
    have HF : Hid (takeSh i o n = (i, if n ∈ i then putL o n else o)) := by show _ = _; unfold takeSh; rw [if_pos hok]
    have hL := HBK.out.lt
    have HLH : Hid (w.heap.size + 2 ≤ w6.heap.size) := by show _ ≤ _; omega
    clear hok hblk hL
    go_wp2_with fail
    refine wp_region_typedD [12, 13, 14, 15, 16, 17, 18, 19, 20, 5] (by kernel_rfl) (by kernel_rfl) (by kernel_rfl)
      (fun _ V => Ext w6 V)
      (fun j L u V => match j with
        | 0 => ∃ g, u = .slice (some ⟨g, 0, none⟩) 0 0 ∧ w.heap.size + 2 ≤ g
        | 1 => u = .pointer (some ⟨w.heap.size, 0, none⟩)
        | 2 => u = .slice A1 i.length c1
        | 3 => L.getD 10 true = false → Val0 (w.heap.size + 2) V u i
        | 4 => ∃ g, u = .slice (some ⟨g, 0, none⟩) 0 0 ∧ w.heap.size + 2 ≤ g
        | 5 => u = .pointer (some ⟨w.heap.size, 1, none⟩)
        | 6 => u = .slice A2 o.length c2
        | 7 => L.getD 10 true = false → Val0 (w.heap.size + 2) V u o
        | 8 => L.getD 10 true = false → ∃ p q, u = .agg #[p, q] ∧ Val0 (w.heap.size + 2) V p i ∧ Val0 (w.heap.size + 2) V q o
        | 9 => ∃ g, u = .pointer (some ⟨g, 0, none⟩) ∧ w6.heap.size ≤ g ∧ (L.getD 10 true = false → Zero2 V g) ∧ (L.getD 10 true = true → BoxedX (w.heap.size + 2) g i o V)
        | _ => True)
      (fun j a V V' => (j = 10 ∧ ∀ g, a.tmps.getD 5 undef = .pointer (some ⟨g, 0, none⟩) → BoxedX (w.heap.size + 2) g i o V') ∨ (j ≠ 10 ∧ Ext V V'))
      (Ext.refl _).drew ?_ ?_ ?_
    · intro j k L u V V' a hu hij hi hsz hLi hdl hdn hLj hS hT'
      have hself : (L.setIfInBounds j true).getD j true = true := getD_set_self true (by simpa [hsz] using hi)
      have hne : j ≠ 10 → (L.setIfInBounds j true).getD 10 true = L.getD 10 true := fun hq => getD_set_ne true hq
      have hlt : (L.setIfInBounds j true).getD 10 true = false → L.getD 10 true = false ∧ Ext V V' := fun h10 => by
        rcases hS with ⟨e, -⟩ | ⟨e, hb⟩
        · subst e; rw [hself] at h10; cases h10
        · rw [hne e] at h10; exact ⟨h10, hb⟩
      match k, hu, hT' with
      | 0, _, hT' => exact hT'
      | 1, _, hT' => exact hT'
      | 2, _, hT' => exact hT'
      | 3, _, hT' => exact fun h10 => (hT' (hlt h10).1).ext (hlt h10).2
      | 4, _, hT' => exact hT'
      | 5, _, hT' => exact hT'
      | 6, _, hT' => exact hT'
      | 7, _, hT' => exact fun h10 => (hT' (hlt h10).1).ext (hlt h10).2
      | 8, _, hT' =>
        intro h10
        obtain ⟨p, q, rfl, h1, h2⟩ := hT' (hlt h10).1
        exact ⟨p, q, rfl, h1.ext (hlt h10).2, h2.ext (hlt h10).2⟩
      | 9, hu, hT' =>
        obtain ⟨g, rfl, hg, hz, hx⟩ := hT'
        refine ⟨g, rfl, hg, fun h10 => (hz (hlt h10).1).ext (hlt h10).2, fun h10 => ?_⟩
        rcases hS with ⟨e, hb⟩ | ⟨e, hb⟩
        · exact hb g (hu 5 _ rfl rfl).symm
        · rw [hne e] at h10; exact (hx h10).ext hb
      | _ + 10, _, _ => trivial
    · intro j op ho a n' V L hn hsz hLi hdl hdn hR hrest hdeps hkeep
      have d8 : L.getD 10 true = true → L.getD 8 true = true := fun h => hdn 10 _ rfl h { on := 8, ground := .data } (by simp) rfl
      have d9 : L.getD 10 true = true → L.getD 9 true = true := fun h => hdn 10 _ rfl h { on := 9, ground := .data } (by simp) rfl
      have d3 : L.getD 8 true = true → L.getD 3 true = true := fun h => hdn 8 _ rfl h { on := 3, ground := .data } (by simp) rfl
      have d7 : L.getD 8 true = true → L.getD 7 true = true := fun h => hdn 8 _ rfl h { on := 7, ground := .data } (by simp) rfl
      have fls : ∀ k, (L.getD 10 true = true → L.getD k true = true) → L.getD k true = false → L.getD 10 true = false := fun k h1 h2 => by
        cases h : L.getD 10 true with
        | false => rfl
        | true => rw [h1 h] at h2; cases h2
      have sn : ∀ k (V' : World), k ≠ 10 → Ext V V' → (k = 10 ∧ ∀ g, a.tmps.getD 5 undef = .pointer (some ⟨g, 0, none⟩) → BoxedX (w.heap.size + 2) g i o V') ∨ (k ≠ 10 ∧ Ext V V') := fun k V' hk hb => .inr ⟨hk, hb⟩
      match j, ho with
      | 0, ho =>
        obtain rfl := Option.some.inj ho
        have hb : Ext V (V.alloc (.cells #[] 3)) := (Ext.refl V).alloc _
        refine y_run (v := .slice (some ⟨V.heap.size, 0, none⟩) 0 0) (w' := V.alloc (.cells #[] 3)) ?_ ⟨fun _ => ⟨V.heap.size, rfl, Nat.le_trans HLH.out hR.size⟩, (fun h => by cases h), hR.trans hb, sn 0 _ (by omega) hb⟩
        go_simp
      | 1, ho =>
        obtain rfl := Option.some.inj ho
        have e1 : a.tmps.getD 2 undef = .pointer (some ⟨w.heap.size, 0, none⟩) := hrest 2 (by decide)
        refine y_run (v := .pointer (some ⟨w.heap.size, 0, none⟩)) (w' := V) ?_ ⟨fun _ => rfl, (fun h => by cases h), hR, sn 1 _ (by omega) (Ext.refl _)⟩
        simp only [execOp, Act.eval, e1]
        go_simp
      | 2, ho =>
        obtain rfl := Option.some.inj ho
        have e1 : a.tmps.getD 13 undef = .pointer (some ⟨w.heap.size, 0, none⟩) := hdeps 1 _ 13 ⟨{ on := 1, ground := .data }, by simp, rfl, rfl⟩ rfl rfl
        exact y_load rfl e1 (hR.cell K0.out) (fun _ => by kernel_rfl) ⟨fun _ => rfl, (fun h => by cases h), hR, sn 2 _ (by omega) (Ext.refl _)⟩
      | 3, ho =>
        obtain rfl := Option.some.inj ho
        obtain ⟨g, e1, hg⟩ := hdeps 0 _ 12 ⟨{ on := 0, ground := .data }, by simp, rfl, rfl⟩ rfl rfl
        have e2 : a.tmps.getD 14 undef = .slice A1 i.length c1 := hdeps 2 _ 14 ⟨{ on := 2, ground := .data }, by simp, rfl, rfl⟩ rfl rfl
        have hv := HX6.out.ext hR
        obtain ⟨A', c', W', hrun, hval, hb⟩ := zero_cat (lo := w.heap.size + 2) V hg hv.1 (by omega) (Nat.le_trans HLH.out hR.size)
        exact y_append (t := 23) rfl e1 e2 ⟨_, W', hrun, fun _ _ => hval, (fun h => by cases h), hR.trans hb, sn 3 _ (by omega) hb⟩
      | 4, ho =>
        obtain rfl := Option.some.inj ho
        have hb : Ext V (V.alloc (.cells #[] 3)) := (Ext.refl V).alloc _
        refine y_run (v := .slice (some ⟨V.heap.size, 0, none⟩) 0 0) (w' := V.alloc (.cells #[] 3)) ?_ ⟨fun _ => ⟨V.heap.size, rfl, Nat.le_trans HLH.out hR.size⟩, (fun h => by cases h), hR.trans hb, sn 4 _ (by omega) hb⟩
        go_simp
      | 5, ho =>
        obtain rfl := Option.some.inj ho
        have e1 : a.tmps.getD 2 undef = .pointer (some ⟨w.heap.size, 0, none⟩) := hrest 2 (by decide)
        refine y_run (v := .pointer (some ⟨w.heap.size, 1, none⟩)) (w' := V) ?_ ⟨fun _ => rfl, (fun h => by cases h), hR, sn 5 _ (by omega) (Ext.refl _)⟩
        simp only [execOp, Act.eval, e1]
        go_simp
      | 6, ho =>
        obtain rfl := Option.some.inj ho
        have e1 : a.tmps.getD 17 undef = .pointer (some ⟨w.heap.size, 1, none⟩) := hdeps 5 _ 17 ⟨{ on := 5, ground := .data }, by simp, rfl, rfl⟩ rfl rfl
        exact y_load rfl e1 (hR.cell K1.out) (fun _ => by kernel_rfl) ⟨fun _ => rfl, (fun h => by cases h), hR, sn 6 _ (by omega) (Ext.refl _)⟩
      | 7, ho =>
        obtain rfl := Option.some.inj ho
        obtain ⟨g, e1, hg⟩ := hdeps 4 _ 16 ⟨{ on := 4, ground := .data }, by simp, rfl, rfl⟩ rfl rfl
        have e2 : a.tmps.getD 18 undef = .slice A2 o.length c2 := hdeps 6 _ 18 ⟨{ on := 6, ground := .data }, by simp, rfl, rfl⟩ rfl rfl
        have hv := HY6.out.ext hR
        obtain ⟨A', c', W', hrun, hval, hb⟩ := zero_cat (lo := w.heap.size + 2) V hg hv.1 (by omega) (Nat.le_trans HLH.out hR.size)
        exact y_append (t := 23) rfl e1 e2 ⟨_, W', hrun, fun _ _ => hval, (fun h => by cases h), hR.trans hb, sn 7 _ (by omega) hb⟩
      | 8, ho =>
        obtain rfl := Option.some.inj ho
        have h10 := fls 8 d8 hLi
        have hv1 : Val0 (w.heap.size + 2) V (a.tmps.getD 15 undef) i := hdeps 3 _ 15 ⟨{ on := 3, ground := .data }, by simp, rfl, rfl⟩ rfl rfl h10
        have hv2 : Val0 (w.heap.size + 2) V (a.tmps.getD 19 undef) o := hdeps 7 _ 19 ⟨{ on := 7, ground := .data }, by simp, rfl, rfl⟩ rfl rfl h10
        obtain ⟨p, hp⟩ : ∃ p, a.tmps.getD 15 undef = p := ⟨_, rfl⟩
        obtain ⟨q, hq⟩ : ∃ q, a.tmps.getD 19 undef = q := ⟨_, rfl⟩
        rw [hp] at hv1
        rw [hq] at hv2
        obtain ⟨A1', c1', rfl⟩ := hv1.shape
        obtain ⟨A2', c2', rfl⟩ := hv2.shape
        refine y_run (v := .agg #[.slice A1' i.length c1', .slice A2' o.length c2']) (w' := V) ?_ ⟨fun _ _ => ⟨_, _, rfl, hv1, hv2⟩, (fun h => by cases h), hR, sn 8 _ (by omega) (Ext.refl _)⟩
        simp only [Array.getD_eq_getD_getElem?] at hp hq
        simp only [execOp, Act.eval]
        go_simp
      | 9, ho =>
        obtain rfl := Option.some.inj ho
        have h10 := fls 9 d9 hLi
        have hb : Ext V (V.alloc (.cells #[.slice none 0 0, .slice none 0 0] 40)) := (Ext.refl V).alloc _
        refine y_run (v := .pointer (some ⟨V.heap.size, 0, none⟩)) (w' := V.alloc (.cells #[.slice none 0 0, .slice none 0 0] 40)) ?_ ⟨fun _ => ⟨V.heap.size, rfl, hR.size, fun _ => ⟨_, heap_alloc_new V _⟩, fun h => ?_⟩, (fun h => by cases h), hR.trans hb, sn 9 _ (by omega) hb⟩
        · go_simp
        · rw [getD_set_ne true (by omega), h10] at h; cases h
      | 10, ho =>
        obtain rfl := Option.some.inj ho
        obtain ⟨g, e1, hg, hz, -⟩ := hdeps 9 _ 5 ⟨{ on := 9, ground := .data }, by simp, rfl, rfl⟩ rfl rfl
        have hz := hz hLi
        obtain ⟨p, q, e2, hv1, hv2⟩ := hdeps 8 _ 20 ⟨{ on := 8, ground := .data }, by simp, rfl, rfl⟩ rfl rfl hLi
        obtain ⟨A1', c1', rfl⟩ := hv1.shape
        obtain ⟨A2', c2', rfl⟩ := hv2.shape
        obtain ⟨f0, f1, ⟨d0, hd0⟩, ⟨d1, hd1⟩, -, -⟩ := box_facts hz.blk (.slice A1' i.length c1') (.slice A2' o.length c2')
        refine y_skip (w' := (V.setCell ⟨g, 0, none⟩ (.slice A1' i.length c1')).setCell ⟨g, 1, none⟩ (.slice A2' o.length c2')) ?_ ⟨(fun h => by cases h), fun _ => trivial, (hR.setCell hg _).setCell hg _, .inl ⟨rfl, fun g' hg' => ?_⟩⟩
        · simp only [execOp, Act.eval, e1, e2]
          go_simp
        · rw [e1] at hg'
          injection hg' with hg'
          injection hg' with hg'
          injection hg' with hg'
          subst hg'
          exact BoxedX.put hz hv1 hv2
      | _ + 11, ho => cases ho
    · intro a V hR hsz hdf hrest htyp hbare
      obtain ⟨g, e5, hg, -, hbx⟩ := htyp 9 _ 5 rfl rfl
      obtain ⟨p, q, hc0, hc1, hgb, hv1, hv2, ho1, ho2⟩ := hbx rfl
      obtain ⟨B1, k1, rfl⟩ := hv1.shape
      obtain ⟨B2, k2, rfl⟩ := hv2.shape
      obtain ⟨x12, e12⟩ : ∃ x, a.tmps.getD 12 undef = x := ⟨_, rfl⟩
      obtain ⟨x13, e13⟩ : ∃ x, a.tmps.getD 13 undef = x := ⟨_, rfl⟩
      obtain ⟨x14, e14⟩ : ∃ x, a.tmps.getD 14 undef = x := ⟨_, rfl⟩
      obtain ⟨x15, e15⟩ : ∃ x, a.tmps.getD 15 undef = x := ⟨_, rfl⟩
      obtain ⟨x16, e16⟩ : ∃ x, a.tmps.getD 16 undef = x := ⟨_, rfl⟩
      obtain ⟨x17, e17⟩ : ∃ x, a.tmps.getD 17 undef = x := ⟨_, rfl⟩
      obtain ⟨x18, e18⟩ : ∃ x, a.tmps.getD 18 undef = x := ⟨_, rfl⟩
      obtain ⟨x19, e19⟩ : ∃ x, a.tmps.getD 19 undef = x := ⟨_, rfl⟩
      obtain ⟨x20, e20⟩ : ∃ x, a.tmps.getD 20 undef = x := ⟨_, rfl⟩
      have ha := act_puts hsz hdf hrest [(12, x12), (13, x13), (14, x14), (15, x15), (16, x16), (17, x17), (18, x18), (19, x19), (20, x20), (5, .pointer (some ⟨g, 0, none⟩))] rfl ⟨by decide, fun d hd => (by decide : ∀ d ∈ ([12, 13, 14, 15, 16, 17, 18, 19, 20, 5] : List Nat), d < 31) d hd⟩ (by simp only [List.forall_mem_cons]; exact ⟨e12, e13, e14, e15, e16, e17, e18, e19, e20, e5, fun _ h => by cases h⟩)
      clear hsz hdf hrest htyp hbare e12 e13 e14 e15 e16 e17 e18 e19 e20 e5 hbx
      subst ha
      simp only [List.foldl_cons, List.foldl_nil, Act.put, List.setIfInBounds_toArray, List.set_cons_zero, List.set_cons_succ]
      have HEV := Lib.hid hR
      have HXV := Lib.hid (HX6.out.ext hR)
      have HYV := Lib.hid (HY6.out.ext hR)
      have hk0 := hR.cell K0.out
      have hk1 := hR.cell K1.out
      have hblk := HBK.out.ext hR
      have HBV := Lib.hid hblk
      have HV1 := Lib.hid hv1
      have HV2 := Lib.hid hv2
      have HO12 := Lib.hid (And.intro ho1 ho2)
      have HG := Lib.hid hg
      have HGB := Lib.hid hgb
      clear hR hv1 hv2 ho1 ho2 hg hgb
      go_wp2_with fail
      refine (l30Has_any n _ HXV.out.1 (by omega)).mono ?_
      rintro e w7 ⟨rfl, rfl⟩
      have hany : (i.any fun x => x == n) = decide (n ∈ i) := by
        rw [Bool.eq_iff_iff, List.any_eq_true, decide_eq_true_eq]
        exact ⟨fun ⟨x, hx, e⟩ => by rw [beq_iff_eq] at e; subst e; exact hx, fun h => ⟨n, h, by simp⟩⟩
      rw [hany]
      by_cases hin : n ∈ i
      · have e1 : putL o n = P2 := by have := HP.out.2; rw [HF.out] at this; simpa [hin] using this
        obtain rfl : P1 = i := by have := HP.out.1; rw [HF.out] at this; exact this.symm
        have HE1 := Lib.hid e1
        rw [decide_eq_true hin]
        clear hin hany e1
        go_wp2_with fail
        refine (l30Put_any n _ HYV.out.1 (by omega) HYV.out.2.2).mono ?_
        rw [HE1.out]
        rintro e w8 ⟨v', rfl, hrow, b8⟩
        have hval := Val0.of_row hrow
        obtain ⟨A8, c8, rfl⟩ := hval.shape
        have hgV := HGB.out.lt
        have hc0' := b8.cell hc0
        have hgb8 := HGB.out.ext b8
        obtain ⟨hg0, hg1, -, ⟨d1, hd1⟩, -, -⟩ := box_facts hgb8 (.slice none 0 0) (.slice none 0 0)
        obtain ⟨W9, hW9⟩ : ∃ W9, w8.setCell ⟨g, 1, none⟩ (.slice A8 P2.length c8) = W9 := ⟨_, rfl⟩
        have m0 : W9.cell? ⟨g, 0, none⟩ = some (.slice B1 P1.length k1) := by rw [← hW9, cell_set_other (by intro e; injection e with _ e _; omega)]; exact hc0'
        have m1 : W9.cell? ⟨g, 1, none⟩ = some (.slice A8 P2.length c8) := by rw [← hW9]; exact cell_set_self hgb8 (by omega) _
        have hex : Ex g w8 W9 := by rw [← hW9]; exact (Ex.refl _ _).setCell _ _
        have hv1 : Val0 (w.heap.size + 2) W9 (.slice B1 P1.length k1) P1 := (HV1.out.ext b8).offEx hex HO12.out.1
        have hsz := HLH.out
        have hszV := HEV.out.size
        have hv2 : Val0 (w.heap.size + 2) W9 (.slice A8 P2.length c8) P2 := (hval.ex hex hgV).low (by omega)
        have hbr : BlkN W9 (w.heap.size + 1) 2 := by rw [← hW9]; exact (HBV.out.ext b8).set _ _
        have hE9 : Ext w W9 := by rw [← hW9]; exact ((HE6.out.trans HEV.out).trans b8).setCell (by have := HG.out; show w.heap.size ≤ g; omega) _
        obtain ⟨r0, r1, ⟨d3, hd3⟩, ⟨d4, hd4⟩, hs0, hs1'⟩ := box_facts hbr (.slice B1 P1.length k1) (.slice A8 P2.length c8)
        have HV1' := Lib.hid hv1
        have HV2' := Lib.hid hv2
        have HE9 := Lib.hid hE9
        clear hval hrow b8 hgV hc0' hgb8 hex hv1 hv2 hbr hE9 hsz hszV
        go_wp2
        refine bodyPost_ret (v := .agg #[.slice B1 P1.length k1, .slice A8 P2.length c8]) (by simp [results, Tryd.results27, go_sem, hs0, hs1']) rfl ?_
        exact ⟨_, _, rfl, ((HV1'.out.set (by omega)).set (by omega)).low (by omega), ((HV2'.out.set (by omega)).set (by omega)).low (by omega), (HE9.out.setCell (by simp) _).setCell (by simp) _⟩
      · obtain rfl : P1 = i := by have := HP.out.1; rw [HF.out] at this; exact this.symm
        obtain rfl : P2 = o := by have := HP.out.2; rw [HF.out] at this; simpa [hin] using this.symm
        rw [decide_eq_false hin]
        clear hin hany
        obtain ⟨r0, r1, ⟨d3, hd3⟩, ⟨d4, hd4⟩, hs0, hs1'⟩ := box_facts hblk (.slice B1 P1.length k1) (.slice B2 P2.length k2)
        clear hblk
        go_wp2
        refine bodyPost_ret (v := .agg #[.slice B1 P1.length k1, .slice B2 P2.length k2]) (by simp [results, Tryd.results27, go_sem, hs0, hs1']) rfl ?_
        exact ⟨_, _, rfl, ((HV1.out.set (by omega)).set (by omega)).low (by omega), ((HV2.out.set (by omega)).set (by omega)).low (by omega), ((HE6.out.trans HEV.out).setCell (by simp) _).setCell (by simp) _⟩
end Go.Proofs.YtiggckhlbklngaaDoor
