/- A number put into a sorted list: l30Put of the reference. -/
import Derived.Test.YtiggckhlbklngaaDoorSetList
import Derived.Test.YtiggckhlbklngaaDoorYApp
import Derived.Test.YtiggckhlbklngaaDoorTypedC
import Derived.Test.YtiggckhlbklngaaDoorCut
namespace Go.Proofs.YtiggckhlbklngaaDoor
open Go.RowKit
set_option maxRecDepth 8000

theorem pinfo_I : (Tryd.prog.info? 3).map (fun i => (i.zero, i.size, i.bytes)) = some (some (.int .i64 0), 1, 8) := by kernel_rfl
theorem sl_int (w : World) (n : Int) (T : TypeId) : SlOf 1 (one encI) (w.alloc (.cells #[.int .i64 n] T)) (.slice (some ⟨w.heap.size, 0, none⟩) 1 1) [n] :=
  ⟨_, _, rfl, fun _ => ⟨_, _, rfl, by simp, fun i x hx j hj => by
    obtain ⟨hi, rfl⟩ := List.getElem?_eq_some_iff.1 hx
    obtain rfl : i = 0 := by simpa using hi
    obtain rfl : j = 0 := by omega
    exact (cell_of_row _ _ _ _ T (0, 0) (heap_alloc_new w _)).trans rfl⟩⟩
set_option maxHeartbeats 4000000 in
theorem l30Put_any {v : Value} {xs : List Int} (n : Int) (w : World) (h : Sl1 encI w v xs) (hlen : xs.length ≤ 1000000) (hcap : ∀ A n c, v = .slice A n c → n ≤ c ∧ c ≤ 9223372036854775807) :
    Calls Tryd.prog 62 #[v, .int .i64 n] w fun e w' => ∃ v', e = .returned v' ∧ Row 3 1 (one encI) w.heap.size w' v' (putL xs n) ∧ Ext w w' := by
  obtain ⟨A, c, rfl, hc⟩ := id h
  obtain ⟨hc1, hc2⟩ := hcap _ _ _ rfl
  have H := Lib.hid h.of_
  have HC := Lib.hid hc
  clear h hc hcap
  obtain ⟨R, hR⟩ : ∃ R, putL xs n = R := ⟨_, rfl⟩
  rw [hR]
  have HR := Lib.hid hR
  clear hR
  go_enter Tryd.func62, Tryd.ntmps62
  go_wp2
  go_loop [5] (fun i => ∃ k : Nat, k ≤ xs.length ∧ i = .int .i64 k ∧ Hid (∀ i x, i < k → xs[i]? = some x → x < n)) (fun i => xs.length - (intOf i).toNat)
  case atStart => exact ⟨0, Nat.zero_le _, rfl, fun _ _ h => absurd h (Nat.not_lt_zero _)⟩
  case round =>
    obtain ⟨k, hk, rfl, HK⟩ := hrel
    have hend : (xs[k]? = some n) ∨ (∃ x, xs[k]? = some x ∧ x < n) ∨ (∃ x, xs[k]? = some x ∧ n < x) ∨ k = xs.length := by
      rcases Nat.lt_or_ge k xs.length with h | h
      · obtain ⟨x, hx⟩ := at_some h
        rcases Int.lt_trichotomy x n with h1 | h1 | h1
        · exact .inr (.inl ⟨x, hx, h1⟩)
        · exact .inl (h1 ▸ hx)
        · exact .inr (.inr (.inl ⟨x, hx, h1⟩))
      · exact .inr (.inr (.inr (by omega)))
    rcases hend with hx | ⟨x, hx, hlt⟩ | hend
    · have hkl : k < xs.length := (List.getElem?_eq_some_iff.1 hx).1
      obtain ⟨b, off, rfl, hbl, hcell⟩ := HC.out (by omega)
      have c0 : w.cell? ⟨b, off + k, none⟩ = some (.int .i64 n) := hcell k n hx
      have hfin : R = xs := by rw [← HR.out, putL_at HK.out (by omega) (fun y hy => by rw [hx] at hy; cases hy; omega), if_pos hx]
      subst hfin
      clear hx hcell HC
      have hrowN : Row 3 1 (one encI) w.heap.size (w.alloc (.cells #[] 3)) (.slice (some ⟨w.heap.size, 0, none⟩) 0 0) ([] : List Int) := World.ownsRow_made w #[] 0 (Nat.le_refl _) (by simp [maxLen]) (by simp)
      obtain ⟨v', W', hrun, hrow', hgrow⟩ := run_cat (P := Tryd.prog) (t := 23) (ty := 23) (e := 3) Tryd.underlying23 pinfo_I rfl (by omega) hrowN (H.out.ext ((Ext.refl w).alloc _)) (fun x _ j => rfl) (by simp; omega) (by omega) (by simp)
      rw [List.nil_append] at hrow'
      have Hrun := Lib.hid hrun
      have Hrow := Lib.hid hrow'
      have hxt := Lib.hid (Ext.grown ((Ext.refl w).alloc _) hgrow hrowN.block)
      clear hrun hrow' hgrow hrowN
      go_wp2_with (at_builtin; refine wpList_append_run rfl rfl rfl rfl Hrun.out ?_)
      go_returns
      exact ⟨_, rfl, Hrow.out, hxt.out⟩
    · have hkl : k < xs.length := (List.getElem?_eq_some_iff.1 hx).1
      obtain ⟨b, off, rfl, hbl, hcell⟩ := HC.out (by omega)
      have c0 : w.cell? ⟨b, off + k, none⟩ = some (.int .i64 x) := hcell k x hx
      have Hx := Lib.hid hx
      clear hx hcell
      go_wp2
      go_round
      case rel => exact ⟨k + 1, by omega, by go_num, fun i y hi hy => if e : i = k then (by subst e; rw [Hx.out] at hy; cases hy; exact hlt) else HK.out i y (by omega) hy⟩
      case measure => simp [intOf]; omega
    have hfin : R = xs.take k ++ n :: xs.drop k := by
      rw [← HR.out, putL_at HK.out (by omega) (fun y hy => by
        rcases hend with ⟨x, hx, hgt⟩ | hend
        · rw [hx] at hy; cases hy; omega
        · have := (List.getElem?_eq_some_iff.1 hy).1; omega), if_neg]
      intro he
      rcases hend with ⟨x, hx, hgt⟩ | hend
      · rw [hx] at he; cases he; omega
      · have := (List.getElem?_eq_some_iff.1 he).1; omega
    subst hfin
    clear HR
    obtain ⟨V1, hV1, hS1⟩ : ∃ V1, (∀ W, (Instr.slice 23 (.slice A xs.length c) none (some (.int .i64 (k : Int))) none).run Tryd.prog W = .ok V1 W) ∧ SlOf 1 (one encI) w V1 (xs.take k) := by
      refine ⟨_, run_cut_high (P := Tryd.prog) Tryd.underlying23 pinfo_I k (by omega), ?_⟩
      have := (SlOf.part H.out 0 k (by omega) hk (by omega)).1
      simpa [part] using this
    obtain ⟨V2, hV2, hS2⟩ : ∃ V2, (∀ W, (Instr.slice 23 (.slice A xs.length c) (some (.int .i64 (k : Int))) none none).run Tryd.prog W = .ok V2 W) ∧ SlOf 1 (one encI) w V2 (xs.drop k) := by
      refine ⟨_, run_cut_low (P := Tryd.prog) Tryd.underlying23 pinfo_I k hk, ?_⟩
      have := (SlOf.part H.out k xs.length hk (Nat.le_refl _) (by omega)).1
      simpa [part] using this
    obtain ⟨V, hV⟩ : ∃ V, Value.slice A xs.length c = V := ⟨_, rfl⟩
    have HVE := Lib.hid hV
    have HV1 := Lib.hid hV1
    have HV2 := Lib.hid hV2
    have HS1 := Lib.hid hS1
    have HS2 := Lib.hid hS2
    clear hV hV1 hV2 hS1 hS2
    rcases hend with ⟨x, hx, hgt⟩ | hend
    case' inl =>
      have hkl : k < xs.length := (List.getElem?_eq_some_iff.1 hx).1
      obtain ⟨b, off, rfl, hbl, hcell⟩ := HC.out (by omega)
      have c0 : w.cell? ⟨b, off + k, none⟩ = some (.int .i64 x) := hcell k x hx
      have hne : (x == n) = false := by rw [beq_eq_false_iff_ne]; omega
      have hnl : decide (x < n) = false := by simp; omega
      clear hx hcell
    case' inr =>
      have hnl : decide (k < xs.length) = false := by simp; omega
      clear hend
    all_goals
      clear HC HK
      go_wp2
      refine wp_region_typedC [35, 36, 37, 38, 39, 40, 41, 42, 43, 44, 45, 46, 4] (by kernel_rfl) (by kernel_rfl) (by kernel_rfl) (fun _ W => Ext w W)
        (fun i L u W => match i with
          | 0 => L.getD 4 true = false → ∃ g, u = .slice (some ⟨g, 0, none⟩) 0 0 ∧ w.heap.size ≤ g ∧ W.heap[g]? = some (.cells #[] 3 (0, 0))
          | 3 => u = V1
          | 4 => L.getD 7 true = false → Row 3 1 (one encI) w.heap.size W u (xs.take k)
          | 5 => u = .int .i64 n
          | 6 => L.getD 7 true = false → SlOf 1 (one encI) W u [n]
          | 7 => L.getD 11 true = false → Row 3 1 (one encI) w.heap.size W u (xs.take k ++ [n])
          | 2 => u = .int .i64 (k : Int)
          | 9 => u = .int .i64 (k : Int)
          | 10 => u = V2
          | 11 => Row 3 1 (one encI) w.heap.size W u (xs.take k ++ n :: xs.drop k)
          | 12 => Row 3 1 (one encI) w.heap.size W u (xs.take k ++ n :: xs.drop k)
          | _ => u = V)
        (fun i W W' => (i ≠ 4 → i ≠ 7 → i ≠ 11 → Ext W W') ∧ (i = 4 → ∀ u, SlOf 1 (one encI) W u [n] → SlOf 1 (one encI) W' u [n])) ((Ext.refl _).drew) ?_ ?_ ?_
      · intro i j L u W W' hij hi hsz hLi hdl hdn hLj hS hT
        have hself : (L.setIfInBounds i true).getD i true = true := getD_set_self true (by simpa [hsz] using hi)
        have hne : ∀ q, q ≠ i → (L.setIfInBounds i true).getD q true = L.getD q true := fun q hq => getD_set_ne true (fun e => hq e.symm)
        have d4 : L.getD 7 true = true → L.getD 4 true = true := fun h => hdn 7 _ rfl h { on := 4, ground := .data } (by simp) rfl
        have d7 : L.getD 11 true = true → L.getD 7 true = true := fun h => hdn 11 _ rfl h { on := 7, ground := .data } (by simp) rfl
        have d11 : L.getD 12 true = true → L.getD 11 true = true := fun h => hdn 12 _ rfl h { on := 11, ground := .data } (by simp) rfl
        by_cases e4 : i = 4
        · subst e4
          match j, hij, hLj, hT with
          | 0, _, _, _ => exact fun hL => by rw [hself] at hL; cases hL
          | 1, _, _, hT => exact hT
          | 2, _, _, hT => exact hT
          | 3, _, _, hT => exact hT
          | 4, hij, _, _ => exact absurd rfl hij
          | 5, _, _, hT => exact hT
          | 6, _, _, hT => exact fun hL => hS.2 rfl _ (hT (by rw [← hne 7 (by omega)]; exact hL))
          | 7, _, hLj, _ => rw [d4 hLj] at hLi; cases hLi
          | 8, _, _, hT => exact hT
          | 9, _, _, hT => exact hT
          | 10, _, _, hT => exact hT
          | 11, _, hLj, _ => rw [d4 (d7 hLj)] at hLi; cases hLi
          | 12, _, hLj, _ => rw [d4 (d7 (d11 hLj))] at hLi; cases hLi
          | _ + 13, _, _, hT => exact hT
        by_cases e7 : i = 7
        · subst e7
          have h4 := hdl _ rfl { on := 4, ground := .data } (by simp) rfl
          match j, hij, hLj, hT with
          | 0, _, _, _ => exact fun hL => by rw [hne 4 (by omega)] at hL; simp only at h4; rw [h4] at hL; cases hL
          | 1, _, _, hT => exact hT
          | 2, _, _, hT => exact hT
          | 3, _, _, hT => exact hT
          | 4, _, _, _ => exact fun hL => by rw [hself] at hL; cases hL
          | 5, _, _, hT => exact hT
          | 6, _, _, _ => exact fun hL => by rw [hself] at hL; cases hL
          | 7, hij, _, _ => exact absurd rfl hij
          | 8, _, _, hT => exact hT
          | 9, _, _, hT => exact hT
          | 10, _, _, hT => exact hT
          | 11, _, hLj, _ => rw [d7 hLj] at hLi; cases hLi
          | 12, _, hLj, _ => rw [d7 (d11 hLj)] at hLi; cases hLi
          | _ + 13, _, _, hT => exact hT
        by_cases e11 : i = 11
        · subst e11
          have h7 := hdl _ rfl { on := 7, ground := .data } (by simp) rfl
          simp only at h7
          have h4 := d4 h7
          match j, hij, hLj, hT with
          | 0, _, _, _ => exact fun hL => by rw [hne 4 (by omega), h4] at hL; cases hL
          | 1, _, _, hT => exact hT
          | 2, _, _, hT => exact hT
          | 3, _, _, hT => exact hT
          | 4, _, _, _ => exact fun hL => by rw [hne 7 (by omega), h7] at hL; cases hL
          | 5, _, _, hT => exact hT
          | 6, _, _, _ => exact fun hL => by rw [hne 7 (by omega), h7] at hL; cases hL
          | 7, _, _, _ => exact fun hL => by rw [hself] at hL; cases hL
          | 8, _, _, hT => exact hT
          | 9, _, _, hT => exact hT
          | 10, _, _, hT => exact hT
          | 11, hij, _, _ => exact absurd rfl hij
          | 12, _, hLj, _ => rw [d11 hLj] at hLi; cases hLi
          | _ + 13, _, _, hT => exact hT
        have hx := hS.1 e4 e7 e11
        have n4 := hne 4 (fun e => e4 e.symm)
        have n7 := hne 7 (fun e => e7 e.symm)
        have n11 := hne 11 (fun e => e11 e.symm)
        match j, hT with
        | 0, hT => exact fun hL => let ⟨g', h1, h2, h3⟩ := hT (by rw [← n4]; exact hL); ⟨g', h1, h2, (Below.block hx g' (Array.getElem?_eq_some_iff.1 h3).1).trans h3⟩
        | 1, hT => exact hT
        | 2, hT => exact hT
        | 3, hT => exact hT
        | 4, hT => exact fun hL => (hT (by rw [← n7]; exact hL)).ext hx
        | 5, hT => exact hT
        | 6, hT => exact fun hL => (hT (by rw [← n7]; exact hL)).ext hx
        | 7, hT => exact fun hL => (hT (by rw [← n11]; exact hL)).ext hx
        | 8, hT => exact hT
        | 9, hT => exact hT
        | 10, hT => exact hT
        | 11, hT => exact hT.ext hx
        | 12, hT => exact hT.ext hx
        | _ + 13, hT => exact hT
      · intro i o ho a n' W L hn hsz hLi hdl hdn hR hrest hdeps _
        match i, ho with
        | 0, ho =>
          obtain rfl := Option.some.inj ho
          refine y_run (v := .slice (some ⟨W.heap.size, 0, none⟩) 0 0) (w' := W.alloc (.cells #[] 3)) ?_ ⟨fun _ _ => ⟨_, rfl, hR.size, heap_alloc_new W _⟩, (fun h => by cases h), hR.alloc _, fun _ _ _ => (Ext.refl _).alloc _, fun h => by cases h⟩
          go_simp
        | 1, ho =>
          obtain rfl := Option.some.inj ho
          exact y_move rfl ⟨fun _ => (hrest 0 (by decide)).trans HVE.out, (fun h => by cases h), hR, fun _ _ _ => Ext.refl _, fun h => by cases h⟩
        | 2, ho =>
          obtain rfl := Option.some.inj ho
          exact y_move rfl ⟨fun _ => hrest 5 (by decide), (fun h => by cases h), hR, fun _ _ _ => Ext.refl _, fun h => by cases h⟩
        | 3, ho =>
          obtain rfl := Option.some.inj ho
          have e1 : a.tmps.getD 36 undef = V := hdeps 1 _ 36 ⟨{ on := 1, ground := .data }, by simp, rfl, rfl⟩ rfl rfl
          have e2 : a.tmps.getD 37 undef = .int .i64 (k : Int) := hdeps 2 _ 37 ⟨{ on := 2, ground := .data }, by simp, rfl, rfl⟩ rfl rfl
          exact y_slice Tryd.underlying23 rfl (e1.trans HVE.out.symm) (by simp only [Option.map_some, Option.map_none, Act.eval, e2]; exact HV1.out W) ⟨fun _ => rfl, (fun h => by cases h), hR, fun _ _ _ => Ext.refl _, fun h => by cases h⟩
        | 4, ho =>
          obtain rfl := Option.some.inj ho
          obtain ⟨g', e0, hg', hheap⟩ := hdeps 0 _ 35 ⟨{ on := 0, ground := .data }, by simp, rfl, rfl⟩ rfl rfl hLi
          have e1 : a.tmps.getD 38 undef = V1 := hdeps 3 _ 38 ⟨{ on := 3, ground := .data }, by simp, rfl, rfl⟩ rfl rfl
          have hrow0 : Row 3 1 (one encI) w.heap.size W (.slice (some ⟨g', 0, none⟩) 0 0) ([] : List Int) := ⟨by simp, .inr ⟨g', 0, #[], rfl, hg', hheap, Nat.le_refl _, by simp [maxLen], by simp, by simp⟩⟩
          have hs1 := HS1.out.ext hR
          obtain ⟨A', c', hA', _⟩ := id hs1
          rw [hA'] at hs1
          obtain ⟨v', W', hrun, hrow', hgrow⟩ := run_cat (P := Tryd.prog) (t := 23) (ty := 23) (e := 3) Tryd.underlying23 pinfo_I rfl (by omega) hrow0 hs1 (fun x _ j => rfl) (by simp; omega) (by omega) hR.size
          rw [List.nil_append] at hrow'
          have hxt := Ext.grown hR hgrow hrow0.block
          exact y_append rfl e0 (e1.trans hA') ⟨v', W', hrun, fun _ _ => hrow', (fun h => by cases h), hxt, fun hne _ _ => absurd rfl hne, fun _ u hu => sl_grown hheap hgrow hgrow.size hu⟩
        | 5, ho =>
          obtain rfl := Option.some.inj ho
          exact y_move rfl ⟨fun _ => hrest 1 (by decide), (fun h => by cases h), hR, fun _ _ _ => Ext.refl _, fun h => by cases h⟩
        | 6, ho =>
          obtain rfl := Option.some.inj ho
          have q2 : a.tmps.getD 40 undef = .int .i64 n := hdeps 5 _ 40 ⟨{ on := 5, ground := .data }, by simp, rfl, rfl⟩ rfl rfl
          refine y_run (v := .slice (some ⟨W.heap.size, 0, none⟩) 1 1) (w' := W.alloc (.cells #[.int .i64 n] 3)) ?_ ⟨fun _ _ => sl_int _ _ _, (fun h => by cases h), hR.alloc _, fun _ _ _ => (Ext.refl _).alloc _, fun h => by cases h⟩
          simp only [Array.getD_eq_getD_getElem?] at q2
          go_simp
        | 7, ho =>
          obtain rfl := Option.some.inj ho
          have q1 := hdeps 4 _ 39 ⟨{ on := 4, ground := .data }, by simp, rfl, rfl⟩ rfl rfl hLi
          have q3 := hdeps 6 _ 41 ⟨{ on := 6, ground := .data }, by simp, rfl, rfl⟩ rfl rfl hLi
          obtain ⟨A', c', hA', _⟩ := id q3
          rw [hA'] at q3
          obtain ⟨v', W', hrun, hrow', hgrow⟩ := run_cat (P := Tryd.prog) (t := 23) (ty := 23) (e := 3) Tryd.underlying23 pinfo_I rfl (by omega) q1 q3 (fun x _ j => rfl) (by simp; omega) (by omega) hR.size
          exact y_append rfl rfl hA' ⟨v', W', hrun, fun _ _ => hrow', (fun h => by cases h), Ext.grown hR hgrow q1.block, fun _ hne _ => absurd rfl hne, fun h => by cases h⟩
        | 8, ho =>
          obtain rfl := Option.some.inj ho
          exact y_move rfl ⟨fun _ => (hrest 0 (by decide)).trans HVE.out, (fun h => by cases h), hR, fun _ _ _ => Ext.refl _, fun h => by cases h⟩
        | 9, ho =>
          obtain rfl := Option.some.inj ho
          exact y_move rfl ⟨fun _ => hrest 5 (by decide), (fun h => by cases h), hR, fun _ _ _ => Ext.refl _, fun h => by cases h⟩
        | 10, ho =>
          obtain rfl := Option.some.inj ho
          have e1 : a.tmps.getD 43 undef = V := hdeps 8 _ 43 ⟨{ on := 8, ground := .data }, by simp, rfl, rfl⟩ rfl rfl
          have e2 : a.tmps.getD 44 undef = .int .i64 (k : Int) := hdeps 9 _ 44 ⟨{ on := 9, ground := .data }, by simp, rfl, rfl⟩ rfl rfl
          exact y_slice Tryd.underlying23 rfl (e1.trans HVE.out.symm) (by simp only [Option.map_some, Option.map_none, Act.eval, e2]; exact HV2.out W) ⟨fun _ => rfl, (fun h => by cases h), hR, fun _ _ _ => Ext.refl _, fun h => by cases h⟩
        | 11, ho =>
          obtain rfl := Option.some.inj ho
          have q1 := hdeps 7 _ 42 ⟨{ on := 7, ground := .data }, by simp, rfl, rfl⟩ rfl rfl hLi
          have e1 : a.tmps.getD 45 undef = V2 := hdeps 10 _ 45 ⟨{ on := 10, ground := .data }, by simp, rfl, rfl⟩ rfl rfl
          have hs2 := HS2.out.ext hR
          obtain ⟨A', c', hA', _⟩ := id hs2
          rw [hA'] at hs2
          obtain ⟨v', W', hrun, hrow', hgrow⟩ := run_cat (P := Tryd.prog) (t := 23) (ty := 23) (e := 3) Tryd.underlying23 pinfo_I rfl (by omega) q1 hs2 (fun x _ j => rfl) (by simp; omega) (by omega) hR.size
          rw [List.append_assoc, List.singleton_append] at hrow'
          exact y_append rfl rfl (e1.trans hA') ⟨v', W', hrun, fun _ => hrow', (fun h => by cases h), Ext.grown hR hgrow q1.block, fun _ _ hne => absurd rfl hne, fun h => by cases h⟩
        | 12, ho =>
          obtain rfl := Option.some.inj ho
          have q1 := hdeps 11 _ 46 ⟨{ on := 11, ground := .data }, by simp, rfl, rfl⟩ rfl rfl
          exact y_assign rfl ⟨fun _ => q1, (fun h => by cases h), hR, fun _ _ _ => Ext.refl _, fun h => by cases h⟩
        | _ + 13, ho => cases ho
      · intro a W hR hsz hdf hrest htyp hbare
        obtain ⟨x35, e35⟩ : ∃ x, a.tmps.getD 35 undef = x := ⟨_, rfl⟩
        obtain ⟨x36, e36⟩ : ∃ x, a.tmps.getD 36 undef = x := ⟨_, rfl⟩
        obtain ⟨x37, e37⟩ : ∃ x, a.tmps.getD 37 undef = x := ⟨_, rfl⟩
        obtain ⟨x38, e38⟩ : ∃ x, a.tmps.getD 38 undef = x := ⟨_, rfl⟩
        obtain ⟨x39, e39⟩ : ∃ x, a.tmps.getD 39 undef = x := ⟨_, rfl⟩
        obtain ⟨x40, e40⟩ : ∃ x, a.tmps.getD 40 undef = x := ⟨_, rfl⟩
        obtain ⟨x41, e41⟩ : ∃ x, a.tmps.getD 41 undef = x := ⟨_, rfl⟩
        obtain ⟨x42, e42⟩ : ∃ x, a.tmps.getD 42 undef = x := ⟨_, rfl⟩
        obtain ⟨x43, e43⟩ : ∃ x, a.tmps.getD 43 undef = x := ⟨_, rfl⟩
        obtain ⟨x44, e44⟩ : ∃ x, a.tmps.getD 44 undef = x := ⟨_, rfl⟩
        obtain ⟨x45, e45⟩ : ∃ x, a.tmps.getD 45 undef = x := ⟨_, rfl⟩
        obtain ⟨x46, e46⟩ : ∃ x, a.tmps.getD 46 undef = x := ⟨_, rfl⟩
        obtain ⟨x4, e4⟩ : ∃ x, a.tmps.getD 4 undef = x := ⟨_, rfl⟩
        have hrow := htyp 12 _ 4 rfl rfl
        rw [e4] at hrow
        have HROW := Lib.hid hrow
        have HEW := Lib.hid hR
        have ha := act_puts hsz hdf hrest [(35, x35), (36, x36), (37, x37), (38, x38), (39, x39), (40, x40), (41, x41), (42, x42), (43, x43), (44, x44), (45, x45), (46, x46), (4, x4)] rfl ⟨by decide, fun d hd => (by decide : ∀ d ∈ ([35, 36, 37, 38, 39, 40, 41, 42, 43, 44, 45, 46, 4] : List Nat), d < 47) d hd⟩ (by simp only [List.forall_mem_cons]; exact ⟨e35, e36, e37, e38, e39, e40, e41, e42, e43, e44, e45, e46, e4, fun _ h => by cases h⟩)
        clear hsz hdf hrest htyp hbare e35 e36 e37 e38 e39 e40 e41 e42 e43 e44 e45 e46 e4 hrow hR
        subst ha
        simp only [List.foldl_cons, List.foldl_nil, Act.put, List.setIfInBounds_toArray, List.set_cons_zero, List.set_cons_succ]
        go_wp2
        go_returns
        exact ⟨_, rfl, HROW.out, HEW.out⟩
end Go.Proofs.YtiggckhlbklngaaDoor
