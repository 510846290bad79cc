/- Objects: heaps by their methods. -/
import Derived.Test.YtackknkfcbnklaaDoorHeapUp
namespace Go.Proofs.YtackknkfcbnklaaDoor
open Go.RowKit
set_option maxRecDepth 8000

set_option maxHeartbeats 1000000 in
theorem h_push {T base O : Nat} {v : Value} {xs : List Int} (x : Int) (W : World) (h : ObjAt T base O W v xs) (hT : T ≠ 3) (hl : xs.length ≤ 900) (hb : base ≤ W.heap.size) (hh : Heap xs xs.length) :
    Calls Tryd.prog 75 #[.iface 98 (.pointer (some ⟨O, 0, none⟩)), .iface 3 (.int .i64 x)] W fun e W' => e = .returned (.tuple #[]) ∧ ∃ ys, ys.Perm (xs ++ [x]) ∧ Heap ys ys.length ∧ Turns T base O v ys W W' := by
  have H := Lib.hid h
  have HH := Lib.hid hh
  clear h hh
  go_enter Tryd.func75, Tryd.ntmps75
  go_wp2_with fail
  refine (p_push x _ H.out hT (by omega) hb).mono ?_
  rintro e w1 ⟨rfl, v1, o1, f1, n1⟩
  obtain ⟨A, c, hv1, -, -⟩ := o1.2.shape
  obtain ⟨m, hm⟩ : ∃ m, (xs ++ [x]).length = m := ⟨_, rfl⟩
  rw [hm] at hv1
  subst hv1
  have hmx : m = xs.length + 1 := by rw [← hm]; simp
  have hmi : (m : Int) - 1 = (xs.length : Int) := by omega
  have c1 := o1.1.cell
  have hml := pile_len O w1 _ c1
  have H1 := Lib.hid o1
  have F1 := Lib.hid (And.intro f1 n1)
  have HM := Lib.hid (And.intro hm hmx)
  clear o1 f1 n1 hm hmx
  go_wp2_with fail
  refine (p_len _ _ _ _).mono ?_
  rintro e w2 ⟨rfl, rfl⟩
  clear hml c1
  go_wp2_with fail
  refine (h_up xs.length _ H1.out hT HM.out.1 (by have := HM.out.2; omega) (by have := HM.out.2; omega) (by rw [HM.out.2]; exact UpTo.start HH.out x)).mono ?_
  rintro e w3 ⟨rfl, ys, hp, hh, ho, hf⟩
  have HR : Hid (ys.Perm (xs ++ [x]) ∧ Heap ys ys.length ∧ Turns T base O v ys W w3) := ⟨hp, by rw [hp.length_eq, HM.out.1]; exact hh, _, ho, F1.out.1.trans hf F1.out.2, F1.out.2⟩
  clear hp hh ho hf
  go_wp2
  go_end0
  exact ⟨rfl, ys, HR.out⟩
set_option maxHeartbeats 1000000 in
theorem h_pop {T base O : Nat} {v : Value} {xs : List Int} (W : World) (h : ObjAt T base O W v xs) (hT : T ≠ 3) (hl : xs.length ≤ 900) (hn : 0 < xs.length) (hh : Heap xs xs.length) :
    Calls Tryd.prog 76 #[.iface 98 (.pointer (some ⟨O, 0, none⟩))] W fun e W' => e = .returned (.iface 3 (.int .i64 (gD xs 0))) ∧ ∃ ys, (gD xs 0 :: ys).Perm xs ∧ Heap ys ys.length ∧ Turns T base O v ys W W' := by
  obtain ⟨A, c, rfl, -, -⟩ := h.2.shape
  obtain ⟨N, hN⟩ : ∃ N, xs.length = N := ⟨_, rfl⟩
  rw [hN] at h hl hn hh ⊢
  obtain ⟨n, hnN⟩ : ∃ n, N = n + 1 := ⟨N - 1, by omega⟩
  have hni : (N : Int) - 1 = (n : Int) := by omega
  have hn9 : n ≤ 900 := by omega
  have HN := Lib.hid (And.intro hN hnN)
  have c0 := h.1.cell
  have hml := pile_len O W _ c0
  have H := Lib.hid h
  have HH := Lib.hid hh
  clear h hh hN hnN
  go_enter Tryd.func76, Tryd.ntmps76
  go_wp2_with fail
  refine (p_len _ _ _ _).mono ?_
  rintro e w1 ⟨rfl, rfl⟩
  have hms := pile_swap O W _ c0
  clear hml
  go_wp2_with fail
  refine (p_swap 0 n _ H.out.2 (by have := HN.out; omega) (by have := HN.out; omega)).mono ?_
  rintro e w2 ⟨rfl, q2, g2⟩
  have o2 : Hid (ObjAt T base O w2 (.slice A N c) (swapL xs 0 n)) := ⟨H.out.1.kept g2 (box_apart H.out.1 H.out.2 hT), q2⟩
  have F2 := Lib.hid (Fr.grown (O := O) g2)
  clear q2 g2 hms c0
  go_wp2_with fail
  refine (h_down _ o2.out hT HN.out.2 (by rw [swapL_len]; exact HN.out.1) (by omega) (DownTo.start (by have := HH.out; rwa [HN.out.2] at this) (by rw [HN.out.1]; exact HN.out.2))).mono ?_
  rintro e w3 ⟨⟨b, rfl⟩, ys, hp, hy, hlast, o3, f3⟩
  have hyl : ys.length = n + 1 := by rw [hp.length_eq, swapL_len, HN.out.1]; exact HN.out.2
  have hx0 : gD ys n = gD xs 0 := by
    rw [hlast, gD_swap (by have := HN.out; omega) (by have := HN.out; omega), if_pos rfl]
  have hpx : ys.Perm xs := hp.trans (swapL_perm (by have := HN.out; omega) (by have := HN.out; omega))
  have O3 := Lib.hid o3
  have F3 := Lib.hid (F2.out.trans f3 (.inl rfl))
  have HY := Lib.hid (And.intro hy (And.intro hyl (And.intro hx0 hpx)))
  clear hp hy hlast o3 f3 hyl hx0 hpx
  go_wp2_with fail
  refine (p_pop _ O3.out hT (by have := HY.out.2.1; omega) (by have := HY.out.2.1; omega)).mono ?_
  rw [HY.out.2.1, Nat.add_sub_cancel, HY.out.2.2.1]
  rintro e w4 ⟨rfl, ht⟩
  have HT := Lib.hid ht
  clear ht
  go_wp2
  go_returns
  obtain ⟨hy, hyl, hx0, hpx⟩ := HY.out
  obtain ⟨v4, o4, f4, n4⟩ := HT.out
  refine ⟨rfl, ys.take n, ?_, ?_, v4, o4, F3.out.trans f4 (.inl rfl), ?_⟩
  · rw [← hx0]
    have h1 : (ys.take n ++ [gD ys n]).Perm ys := by
      have hd : ys.drop n = [gD ys n] := by
        apply List.ext_getElem?
        intro i
        rw [List.getElem?_drop]
        cases i with
        | zero => exact gD_at (by omega)
        | succ i => rw [List.getElem?_eq_none (by omega), List.getElem?_eq_none (by simp)]
      have : ys.take n ++ [gD ys n] = ys := by rw [← hd]; exact List.take_append_drop n ys
      rw [this]
    exact (List.perm_append_singleton _ _).symm.trans (h1.trans hpx)
  · rw [List.length_take, Nat.min_eq_left (by omega)]
    exact hy.take (by omega)
  · rcases n4 with h | ⟨g, h, hg⟩ | h
    · exact .inl h
    · exact .inr (.inl ⟨g, h, Nat.le_trans F3.out.size hg⟩)
    · exact .inr (.inr h)
theorem o_empty {base O : Nat} {v : Value} {xs : List Int} (W : World) (h : ObjAt 62 base O W v xs) :
    Calls Tryd.prog 72 #[.pointer (some ⟨O, 0, none⟩)] W fun e W' => e = .returned (.bool ((xs.length : Int) == 0)) ∧ W = W' := by
  obtain ⟨A, c, rfl, h1, h2⟩ := h.2.shape
  have c0 := h.1.cell
  clear h
  go_enter Tryd.func72, Tryd.ntmps72
  go_wp2
  go_returns
  exact ⟨rfl, rfl⟩
theorem o_put {base O : Nat} {v : Value} {xs : List Int} (x : Int) (W : World) (h : ObjAt 62 base O W v xs) (hl : xs.length ≤ 900) (hb : base ≤ W.heap.size) (hh : Heap xs xs.length) :
    Calls Tryd.prog 73 #[.pointer (some ⟨O, 0, none⟩), .int .i64 x] W fun e W' => e = .returned (.tuple #[]) ∧ ∃ ys, ys.Perm (xs ++ [x]) ∧ Heap ys ys.length ∧ Turns 62 base O v ys W W' := by
  have H := Lib.hid h
  have HH := Lib.hid hh
  clear h hh
  go_enter Tryd.func73, Tryd.ntmps73
  go_wp2_with fail
  refine (h_push x _ H.out (by decide) hl hb HH.out).mono ?_
  rintro e w1 ⟨rfl, h1⟩
  have H1 := Lib.hid h1
  clear h1
  go_wp2
  go_end0
  exact ⟨rfl, H1.out⟩
theorem o_take {base O : Nat} {v : Value} {xs : List Int} (W : World) (h : ObjAt 62 base O W v xs) (hl : xs.length ≤ 900) (hn : 0 < xs.length) (hh : Heap xs xs.length) :
    Calls Tryd.prog 74 #[.pointer (some ⟨O, 0, none⟩)] W fun e W' => e = .returned (.int .i64 (gD xs 0)) ∧ ∃ ys, (gD xs 0 :: ys).Perm xs ∧ Heap ys ys.length ∧ Turns 62 base O v ys W W' := by
  have H := Lib.hid h
  have HH := Lib.hid hh
  clear h hh
  go_enter Tryd.func74, Tryd.ntmps74
  go_wp2_with fail
  refine (h_pop _ H.out (by decide) hl hn HH.out).mono ?_
  rintro e w1 ⟨rfl, h1⟩
  have H1 := Lib.hid h1
  have ha := assert_int (.int .i64 (gD xs 0)) 20 w1
  clear h1
  go_wp2
  go_returns
  exact ⟨rfl, H1.out⟩
end Go.Proofs.YtackknkfcbnklaaDoor
