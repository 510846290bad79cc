/- Objects: heaps of the program, by the library's heap over their own methods. -/
import Derived.Test.YtackknkfcbnklaaDoorObjs
import Derived.Test.YtackknkfcbnklaaDoorTypedC
import Derived.Test.YtackknkfcbnklaaDoorYApp
namespace Go.Proofs.YtackknkfcbnklaaDoor
open Go.RowKit
set_option maxRecDepth 8000

theorem QRow.put {E base g off c k : Nat} {W : World} {xs : List Int} {n : Nat} (h : QRow E base W (.slice (some ⟨g, off, none⟩) n c) xs) (hk : k < xs.length) (y : Int) : QRow E base (W.setCell ⟨g, off + k, none⟩ (.int .i64 y)) (.slice (some ⟨g, off, none⟩) n c) (xs.set k y) := by
  rcases h with ⟨h, rfl⟩ | ⟨g', off', c', cur, hv, hb, hg, h1, h2, h3, h4⟩
  · simp at hk
  · injection hv with e1 e2 e3
    injection e1 with e1
    injection e1 with e1 e4
    subst e1 e2 e3 e4
    refine .inr ⟨g, off, c, cur.setIfInBounds (off + k) (.int .i64 y), by simp, hb, ?_, by simpa using h1, h2, by simpa using h3, fun i x hx => ?_⟩
    · simp [World.setCell, Array.getElem?_modify, hg]
    · rw [List.getElem?_set] at hx
      by_cases e : k = i
      · subst e
        rw [if_pos rfl, if_pos hk] at hx
        injection hx with hx
        subst hx
        rw [Array.getElem?_setIfInBounds_self_of_lt (by omega)]
      · rw [if_neg e] at hx
        rw [Array.getElem?_setIfInBounds_ne (by omega)]
        exact h4 i x hx
theorem gD_at {xs : List Int} {k : Nat} (h : k < xs.length) : xs[k]? = some (gD xs k) := by
  unfold gD
  rw [List.getD_eq_getElem?_getD]
  simp [h]
theorem p_len (A : Option Addr) (n c : Nat) (W : World) : Calls Tryd.prog 79 #[.slice A n c] W fun e W' => e = .returned (.int .i64 (n : Int)) ∧ W = W' := by
  go_enter Tryd.func79, Tryd.ntmps79
  go_wp2
  go_returns
  exact ⟨rfl, rfl⟩
set_option maxHeartbeats 1000000 in
theorem p_less {E base : Nat} {v : Value} {xs : List Int} (i j : Nat) (W : World) (h : QRow E base W v xs) (hi : i < xs.length) (hj : j < xs.length) :
    Calls Tryd.prog 80 #[v, .int .i64 (i : Int), .int .i64 (j : Int)] W fun e W' => e = .returned (.bool (decide (gD xs i < gD xs j))) ∧ Ext W W' := by
  obtain ⟨g, off, c, rfl, h1, h2, h3, h4⟩ := h.slot (by omega)
  have c0 : ∀ e, (over W e).cell? ⟨g, off + i, none⟩ = some (.int .i64 (gD xs i)) := over_cell (h3 i _ (gD_at hi))
  have c1 : ∀ e, (over W e).cell? ⟨g, off + j, none⟩ = some (.int .i64 (gD xs j)) := over_cell (h3 j _ (gD_at hj))
  clear h h3 h4
  go_enter Tryd.func80, Tryd.ntmps80
  go_wp2
  refine wp_region_over (by kernel_rfl) (by kernel_rfl) ?_
  repeat (go_big_quiet_step ((fail)))
  refine wpQuiet_nil ?_
  intro w1 hb1
  go_wp2
  go_returns
  exact ⟨rfl, hb1⟩
set_option maxHeartbeats 2000000 in
theorem p_swap {E base : Nat} {v : Value} {xs : List Int} (i j : Nat) (W : World) (h : QRow E base W v xs) (hi : i < xs.length) (hj : j < xs.length) :
    Calls Tryd.prog 81 #[v, .int .i64 (i : Int), .int .i64 (j : Int)] W fun e W' => e = .returned (.tuple #[]) ∧ QRow E base W' v (swapL xs i j) ∧ W.grownBy W' v.ownBlock := by
  obtain ⟨g, off, c, rfl, h1, h2, h3, h4⟩ := h.slot (by omega)
  have hmx : Tryd.prog.follows .mixedOrders = true := by kernel_rfl
  obtain ⟨x, hx⟩ : ∃ x, gD xs i = x := ⟨_, rfl⟩
  obtain ⟨y, hy⟩ : ∃ y, gD xs j = y := ⟨_, rfl⟩
  have c0 := h3 i _ (gD_at hi)
  have c1 := h3 j _ (gD_at hj)
  rw [hx] at c0
  rw [hy] at c1
  have f0 := h4 (off + i)
  have f1 := h4 (off + j)
  have H := Lib.hid h
  have HXY := Lib.hid (And.intro hx hy)
  clear h h3 h4 hx hy
  have gs : Hid (∀ (V : World) (t : Nat) (u : Value), V.grownBy (V.setCell ⟨g, t, none⟩ u) (Value.ownBlock (.slice (some ⟨g, off, none⟩) xs.length c))) := Lib.hid fun V t u => ⟨rfl, rfl, rfl, (KeepsWalks.setCell _ _ _).size, fun k _ hk => Below.heap_setCell _ _ _ k (fun e => hk (by subst e; rfl))⟩
  by_cases e : i = j
  · subst e
    have exy : y = x := by rw [← HXY.out.1, ← HXY.out.2]
    subst exy
    go_enter Tryd.func81, Tryd.ntmps81
    go_wp2_with fail
    go_region
    go_wp2
    go_end0
    refine ⟨rfl, ?_, ?_⟩
    · have := (H.out.put hi y).put (k := i) (by rw [List.length_set]; exact hi) y
      unfold swapL
      rw [HXY.out.1]
      exact this.ext (Ext.refl _).drew
    · exact grownBy_two (gs.out _ _ _) (gs.out _ _ _)
  · go_enter Tryd.func81, Tryd.ntmps81
    go_wp2_with fail
    go_region
    go_wp2
    go_end0
    refine ⟨rfl, ?_, ?_⟩
    · have := (H.out.put hi y).put (k := j) (by rw [List.length_set]; exact hj) x
      unfold swapL
      rw [HXY.out.1, HXY.out.2]
      exact this.ext (Ext.refl _).drew
    · exact grownBy_two (gs.out _ _ _) (gs.out _ _ _)
set_option maxHeartbeats 2000000 in
theorem p_pop {T base O : Nat} {v : Value} {xs : List Int} (W : World) (h : ObjAt T base O W v xs) (hT : T ≠ 3) (hl : xs.length ≤ 1000) (hn : 0 < xs.length) :
    Calls Tryd.prog 83 #[.pointer (some ⟨O, 0, none⟩)] W fun e W' => e = .returned (.iface 3 (.int .i64 (gD xs (xs.length - 1)))) ∧ Turns T base O v (xs.take (xs.length - 1)) W W' := by
  obtain ⟨g, off, c, rfl, h1, h2, h3, h4⟩ := h.2.slot hn
  have hq := h.2.init1 hn
  have H := Lib.hid h
  obtain ⟨p, hp⟩ : ∃ p, xs.length - 1 = p := ⟨_, rfl⟩
  rw [hp] at hq ⊢
  obtain ⟨x, hx⟩ : ∃ x, gD xs p = x := ⟨_, rfl⟩
  have hpi : (xs.length : Int) - 1 = (p : Int) := by omega
  have hpl : p < xs.length := by omega
  have hpc : p ≤ c := by omega
  have c0 := h.1.cell
  have m0 := h3 p _ (gD_at hpl)
  rw [hx] at m0 ⊢
  simp only [maxLen] at h2
  have HQ := Lib.hid hq
  have M0 := Lib.hid m0
  have C0 := Lib.hid c0
  clear h h3 h4 hx hq hp m0 c0
  have c0 : ∀ e, (over W e).cell? ⟨O, 0, none⟩ = some (.slice (some ⟨g, off, none⟩) xs.length c) := over_cell C0.out
  have m0 : ∀ e, (over W e).cell? ⟨g, off + p, none⟩ = some (.int .i64 x) := over_cell M0.out
  have hmx : Tryd.prog.follows .mixedOrders = true := by kernel_rfl
  go_enter Tryd.func83, Tryd.ntmps83
  go_wp2
  refine wp_region_over (by kernel_rfl) (by kernel_rfl) ?_
  repeat (go_big_quiet_step ((fail)))
  refine wpQuiet_nil ?_
  intro w1 hb1
  have d0 := (boxed_ext H.out.1 hb1).cell
  have e0 := (boxed_ext H.out.1 hb1).frozen
  clear c0 m0
  go_wp2_with fail
  go_region
  go_wp2
  go_returns
  have hq1 := HQ.out.ext hb1
  exact ⟨rfl, _, ObjAt.mk2 ((boxed_drew (boxed_ext H.out.1 hb1)).set _) ((hq1.ext (Ext.refl _).drew).kept (grownBy_setCell' _ O (.slice (some ⟨g, off, none⟩) p c)) (.inr (box_apart (boxed_ext H.out.1 hb1) hq1 hT).symm)), (Fr.of_ext (hb1.drew)).trans (Fr.box _ _) (.inl rfl), .inl rfl⟩
theorem assert_int (v : Value) (xT : TypeId) (w : World) : (Instr.typeAssert (.iface 3 v) xT 3 false).run Tryd.prog w = .ok v w := by
  simp [Instr.typeAssert, run_underlying Tryd.underlying3, go_sem, Result.andThen]
set_option maxHeartbeats 2000000 in
theorem p_push {T base O : Nat} {v : Value} {xs : List Int} (x : Int) (W : World) (h : ObjAt T base O W v xs) (hT : T ≠ 3) (hl : xs.length ≤ 1000) (hb : base ≤ W.heap.size) :
    Calls Tryd.prog 84 #[.pointer (some ⟨O, 0, none⟩), .iface 3 (.int .i64 x)] W fun e W' => e = .returned (.tuple #[]) ∧ Turns T base O v (xs ++ [x]) W W' := by
  have H := Lib.hid h
  clear h
  go_enter Tryd.func84, Tryd.ntmps84
  go_wp2_with fail
  refine wp_region_typedC [4, 5, 6, 7, 8, 9, 10, 11, 12] (by kernel_rfl) (by kernel_rfl) (by kernel_rfl) (fun L V => L.getD 7 true = false → Ext W V)
    (fun j L u V => match j with
      | 0 => u = .pointer (some ⟨O, 0, none⟩)
      | 1 => u = .pointer (some ⟨O, 0, none⟩)
      | 2 => u = .pointer (some ⟨O, 0, none⟩)
      | 3 => u = v
      | 4 => u = .iface 3 (.int .i64 x)
      | 5 => u = .int .i64 x
      | 6 => L.getD 7 true = false → ∃ g, u = .slice (some ⟨g, 0, none⟩) 1 1 ∧ V.cell? ⟨g, 0, none⟩ = some (.int .i64 x)
      | 7 => L.getD 9 true = false → Boxed V O T v ∧ QRow 3 base V u (xs ++ [x]) ∧ Fr O v W V ∧ NewB v u W
      | 8 => u = .pointer (some ⟨O, 0, none⟩)
      | 9 => Turns T base O v (xs ++ [x]) W V
      | _ => True)
    (fun i V V' => (i = 7 ∨ i = 9) ∨ Ext V V' ∧ (i ≠ 6 → V' = V)) (fun _ => (Ext.refl _).drew) ?_ ?_ ?_
  · intro i j L u V V' hij hi hsz hLi hdl hdn hLj hS hT'
    have hself : (L.setIfInBounds i true).getD i true = true := getD_set_self true (by simpa [hsz] using hi)
    have hne : ∀ q, q ≠ i → (L.setIfInBounds i true).getD q true = L.getD q true := fun q hq => getD_set_ne true (fun e => hq e.symm)
    have d9 : L.getD 9 true = true → L.getD 7 true = true := fun h => hdn 9 _ rfl h { on := 7, ground := .data } (by simp) rfl
    have d7 : L.getD 7 true = true → L.getD 6 true = true := fun h => hdn 7 _ rfl h { on := 6, ground := .data } (by simp) rfl
    have n97 : i = 9 → L.getD 7 true = true := fun e => by subst e; exact hdl _ rfl { on := 7, ground := .data } (by simp) rfl
    match j, hij, hLj, hT' with
    | 0, _, _, hT' => exact hT'
    | 1, _, _, hT' => exact hT'
    | 2, _, _, hT' => exact hT'
    | 3, _, _, hT' => exact hT'
    | 4, _, _, hT' => exact hT'
    | 5, _, _, hT' => exact hT'
    | 6, _, _, hT' =>
      intro h7
      have hi7 : i ≠ 7 := fun e => by subst e; rw [hself] at h7; cases h7
      rw [hne 7 (fun e => hi7 e.symm)] at h7
      obtain ⟨g, h1, h2⟩ := hT' h7
      rcases hS with (e | e) | ⟨hb, _⟩
      · exact absurd e hi7
      · rw [n97 e] at h7; cases h7
      · exact ⟨g, h1, hb.cell h2⟩
    | 7, hij, hLj, hT' =>
      intro h9
      have hi9 : i ≠ 9 := fun e => by subst e; rw [hself] at h9; cases h9
      rw [hne 9 (fun e => hi9 e.symm)] at h9
      rcases hS with (e | e) | ⟨_, hv⟩
      · exact absurd e hij
      · exact absurd e hi9
      · rw [hv (fun e => by subst e; rw [d7 hLj] at hLi; cases hLi)]
        exact hT' h9
    | 8, _, _, hT' => exact hT'
    | 9, hij, hLj, hT' =>
      rcases hS with (e | e) | ⟨_, hv⟩
      · subst e; rw [d9 hLj] at hLi; cases hLi
      · exact absurd e hij
      · rw [hv (fun e => by subst e; rw [d7 (d9 hLj)] at hLi; cases hLi)]
        exact hT'
    | _ + 10, _, _, _ => trivial
  · have hst : ∀ (i : Nat) (L : Array Bool) (V : World), i ≠ 7 → (L.getD 7 true = false → Ext W V) → ((L.setIfInBounds i true).getD 7 true = false → Ext W V) := fun i L V hi h hL => h (by rw [getD_set_ne true hi] at hL; exact hL)
    intro i o ho a n V L hn hsz hLi hdl hdn hR hrest hdeps hkeep
    match i, ho with
    | 0, ho =>
      obtain rfl := Option.some.inj ho
      exact y_move rfl ⟨fun _ => hrest 0 (by decide), (fun h => by cases h), hst _ _ _ (by omega) hR, .inr ⟨Ext.refl _, fun _ => rfl⟩⟩
    | 1, ho =>
      obtain rfl := Option.some.inj ho
      exact y_move rfl ⟨fun _ => hrest 0 (by decide), (fun h => by cases h), hst _ _ _ (by omega) hR, .inr ⟨Ext.refl _, fun _ => rfl⟩⟩
    | 2, ho =>
      obtain rfl := Option.some.inj ho
      have e1 : a.tmps.getD 5 undef = .pointer (some ⟨O, 0, none⟩) := hdeps 1 _ 5 ⟨{ on := 1, ground := .data }, by simp, rfl, rfl⟩ rfl rfl
      refine y_run (v := .pointer (some ⟨O, 0, none⟩)) (w' := V) ?_ ⟨fun _ => rfl, (fun h => by cases h), hst _ _ _ (by omega) hR, .inr ⟨Ext.refl _, fun _ => rfl⟩⟩
      simp only [execOp, Act.eval, e1]
      go_simp
    | 3, ho =>
      obtain rfl := Option.some.inj ho
      have e1 : a.tmps.getD 6 undef = .pointer (some ⟨O, 0, none⟩) := hdeps 2 _ 6 ⟨{ on := 2, ground := .data }, by simp, rfl, rfl⟩ rfl rfl
      have h7 : L.getD 7 true = false := by
        cases h7 : L.getD 7 true with
        | false => rfl
        | true =>
          have h3 := hdn 7 _ rfl h7 { on := 3, ground := .data } (by simp) rfl
          simp only at h3
          rw [hLi] at h3
          cases h3
      exact y_load rfl e1 (boxed_ext H.out.1 (hR h7)).cell (fun _ => by kernel_rfl) ⟨fun _ => rfl, (fun h => by cases h), hst _ _ _ (by omega) hR, .inr ⟨Ext.refl _, fun _ => rfl⟩⟩
    | 4, ho =>
      obtain rfl := Option.some.inj ho
      exact y_move rfl ⟨fun _ => hrest 1 (by decide), (fun h => by cases h), hst _ _ _ (by omega) hR, .inr ⟨Ext.refl _, fun _ => rfl⟩⟩
    | 5, ho =>
      obtain rfl := Option.some.inj ho
      have e1 : a.tmps.getD 8 undef = .iface 3 (.int .i64 x) := hdeps 4 _ 8 ⟨{ on := 4, ground := .data }, by simp, rfl, rfl⟩ rfl rfl
      refine y_run (v := .int .i64 x) (w' := V) ?_ ⟨fun _ => rfl, (fun h => by cases h), hst _ _ _ (by omega) hR, .inr ⟨Ext.refl _, fun _ => rfl⟩⟩
      have ha := assert_int (.int .i64 x) 20 V
      simp only [execOp, Act.eval, e1]
      go_simp
    | 6, ho =>
      obtain rfl := Option.some.inj ho
      have e1 : a.tmps.getD 9 undef = .int .i64 x := hdeps 5 _ 9 ⟨{ on := 5, ground := .data }, by simp, rfl, rfl⟩ rfl rfl
      refine y_run (v := .slice (some ⟨V.heap.size, 0, none⟩) 1 1) (w' := V.alloc (.cells #[.int .i64 x] 3)) ?_ ⟨fun _ _ => ⟨V.heap.size, rfl, by rw [cell_of_row _ _ _ _ 3 (0, 0) (heap_alloc_new V _)]; rfl⟩, (fun h => by cases h), fun hL => (hst 6 L V (by omega) hR hL).alloc _, .inr ⟨(Ext.refl _).alloc _, fun h => absurd rfl h⟩⟩
      simp only [Array.getD_eq_getD_getElem?] at e1
      go_simp
    | 7, ho =>
      obtain rfl := Option.some.inj ho
      have e1 : a.tmps.getD 7 undef = v := hdeps 3 _ 7 ⟨{ on := 3, ground := .data }, by simp, rfl, rfl⟩ rfl rfl
      obtain ⟨g, e2, hg⟩ := hdeps 6 _ 10 ⟨{ on := 6, ground := .data }, by simp, rfl, rfl⟩ rfl rfl hLi
      have hE := hR hLi
      obtain ⟨v', w', hrun, hq, hgr, hnb⟩ := q_push_at (P := Tryd.prog) (t := 60) (ty := 60) Tryd.underlying60 qinfo (H.out.2.ext hE) x hl (Nat.le_trans hb hE.size) g 0 1 hg
      refine y_append (t := 60) rfl e1 e2 ⟨v', w', hrun, fun _ _ => ⟨(boxed_ext H.out.1 hE).kept hgr (box_apart (boxed_ext H.out.1 hE) (H.out.2.ext hE) hT), hq, (Fr.of_ext hE).trans (Fr.grown hgr) (.inl rfl), ?_⟩, (fun h => by cases h), fun hL => ?_, .inl (.inl rfl)⟩
      · rcases hnb with h | ⟨g', h, hg'⟩
        · exact .inl h
        · exact .inr (.inl ⟨g', h, Nat.le_trans hE.size hg'⟩)
      · rw [getD_set_self true (by simp at hsz; omega)] at hL
        cases hL
    | 8, ho =>
      obtain rfl := Option.some.inj ho
      have e1 : a.tmps.getD 4 undef = .pointer (some ⟨O, 0, none⟩) := hdeps 0 _ 4 ⟨{ on := 0, ground := .data }, by simp, rfl, rfl⟩ rfl rfl
      refine y_run (v := .pointer (some ⟨O, 0, none⟩)) (w' := V) ?_ ⟨fun _ => rfl, (fun h => by cases h), hst _ _ _ (by omega) hR, .inr ⟨Ext.refl _, fun _ => rfl⟩⟩
      simp only [execOp, Act.eval, e1]
      go_simp
    | 9, ho =>
      obtain rfl := Option.some.inj ho
      have e1 : a.tmps.getD 12 undef = .pointer (some ⟨O, 0, none⟩) := hdeps 8 _ 12 ⟨{ on := 8, ground := .data }, by simp, rfl, rfl⟩ rfl rfl
      obtain ⟨hbx, hq, hfr, hnb⟩ := hdeps 7 _ 11 ⟨{ on := 7, ground := .data }, by simp, rfl, rfl⟩ rfl rfl hLi
      obtain ⟨u, hu⟩ : ∃ u, a.tmps.getD 11 undef = u := ⟨_, rfl⟩
      rw [hu] at hq hnb
      have c0 := hbx.cell
      have f0 := hbx.frozen
      have h7 : L.getD 7 true = true := hdl { on := 7, ground := .data } (by simp) rfl
      obtain ⟨A', c', rfl, -, -⟩ := hq.shape
      refine y_skip (w' := V.setCell ⟨O, 0, none⟩ (.slice A' (xs ++ [x]).length c')) ?_ ⟨(fun h => by cases h), fun _ => ⟨_, ⟨hbx.set _, hq.kept (grownBy_setCell' _ _ _) (.inr (box_apart hbx hq hT).symm)⟩, hfr.trans (Fr.box _ _) (.inl rfl), hnb⟩, fun hL => ?_, .inl (.inr rfl)⟩
      · simp only [execOp, Act.eval, e1, hu]
        go_simp
      · rw [getD_set_ne true (by omega), h7] at hL
        cases hL
    | _ + 10, ho => cases ho
  · intro a V hR hsz hdf hrest htyp hbare
    have h9 := hbare 9 _ rfl rfl
    refine bodyPost_end (results_none rfl _ _ _) hdf ?_
    exact ⟨rfl, h9⟩
end Go.Proofs.YtackknkfcbnklaaDoor
