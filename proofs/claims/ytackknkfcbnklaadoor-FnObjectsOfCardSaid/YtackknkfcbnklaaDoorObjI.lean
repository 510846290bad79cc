/- Objects: ObjectRun, ObjectRight, ObjectsOf of the program. -/
import Derived.Test.YtackknkfcbnklaaDoorObjRun1
import Derived.Test.YtackknkfcbnklaaDoorObjRun2
import Derived.Test.YtackknkfcbnklaaDoorObjRun3
namespace Go.Proofs.YtackknkfcbnklaaDoor
open Go.RowKit
set_option maxRecDepth 8000

/-- What ObjectRight answers. -/
def rightL (kind : Int) (calls answers : List Int) : Bool := okCalls calls && inB kind 1 3 && decide (objL kind calls = answers)
/-- What ObjectsOf returns. -/
def ofTo (calls answers : List Int) : Nat → List Int
  | 0 => []
  | q + 1 => if decide (1 ≤ q) && rightL q calls answers then ofTo calls answers q ++ [(q : Int)] else ofTo calls answers q
theorem ofTo_len (calls answers : List Int) (q : Nat) : (ofTo calls answers q).length ≤ q := by
  induction q with
  | zero => simp [ofTo]
  | succ q ih =>
    unfold ofTo
    split
    · rw [List.length_append, List.length_singleton]; omega
    · omega
theorem ofTo_no {calls answers : List Int} (h : okCalls calls = false) (q : Nat) : ofTo calls answers q = [] := by
  induction q with
  | zero => rfl
  | succ q ih => unfold ofTo; rw [ih]; simp [rightL, h]
theorem ofTo_step {calls answers : List Int} {q : Nat} (h : 1 ≤ q) : ofTo calls answers (q + 1) = if rightL q calls answers = true then ofTo calls answers q ++ [(q : Int)] else ofTo calls answers q := by
  conv => lhs; unfold ofTo
  simp [h]
theorem same_get {xs ys : List Int} (hl : xs.length = ys.length) (h : ∀ (i : Nat) (x y : Int), xs[i]? = some x → ys[i]? = some y → x = y) : xs = ys := by
  apply List.ext_getElem? 
  intro i
  by_cases hi : i < xs.length
  · have h2 : i < ys.length := by omega
    rw [List.getElem?_eq_getElem hi, List.getElem?_eq_getElem h2]
    exact congrArg some (h i _ _ (List.getElem?_eq_getElem hi) (List.getElem?_eq_getElem h2))
  · rw [List.getElem?_eq_none (by omega), List.getElem?_eq_none (by omega)]
set_option maxHeartbeats 1000000 in
theorem equal_any {v v' : Value} {xs ys : List Int} (w : World) (h : Sl1 encI w v xs) (h' : Sl1 encI w v' ys) (hlen : xs.length ≤ 2097152) :
    Calls Tryd.prog 26 #[v, v'] w fun e w' => e = .returned (.bool (decide (xs = ys))) ∧ Ext w w' := by
  obtain ⟨A, c, rfl, h⟩ := h
  obtain ⟨A', c', rfl, h'⟩ := h'
  by_cases hl : xs.length = ys.length
  case neg =>
    have hd : Hid (decide (xs = ys) = false) := by show _ = _; exact decide_eq_false fun e => hl (by rw [e])
    have hq : ((xs.length : Int) == (ys.length : Int)) = false := by rw [beq_eq_false_iff_ne]; omega
    clear h h' hl
    go_enter Tryd.func26, Tryd.ntmps26
    go_wp2
    go_returns
    exact ⟨ret_bool hd.out.symm, Ext.refl _⟩
  have HL := Lib.hid hl
  rw [← hl] at h'
  rw [← hl]
  clear hl
  go_enter Tryd.func26, Tryd.ntmps26
  go_wp2
  go_loopw [13] (fun i wr => Ext w wr ∧ ∃ k : Nat, k ≤ xs.length ∧ i = .int .i64 k ∧ Hid (∀ (i : Nat) (x y : Int), i < k → xs[i]? = some x → ys[i]? = some y → x = y)) (fun i _ => xs.length - (intOf i).toNat)
  case atStart => exact ⟨Ext.refl _, 0, Nat.zero_le _, rfl, fun _ _ _ h => absurd h (Nat.not_lt_zero _)⟩
  case round =>
    obtain ⟨hb, k, hk, rfl, HI⟩ := hrel
    by_cases hlt : k < xs.length
    · obtain ⟨b, off, rfl, hbl, hc⟩ := h (by omega)
      obtain ⟨b', off', rfl, hbl', hc'⟩ := h' (by omega)
      obtain ⟨x, hx⟩ := at_some hlt
      obtain ⟨y, hy⟩ := at_some (show k < ys.length by have := HL.out; omega)
      have c0 : ∀ e, (over wr e).cell? ⟨b, off + k, none⟩ = some (.int .i64 x) := over_cell (hb.cell (hc k x hx))
      have d0 : ∀ e, (over wr e).cell? ⟨b', off' + k, none⟩ = some (.int .i64 y) := over_cell (hb.cell (hc' k y hy))
      have HX := Lib.hid (And.intro hx hy)
      clear hx hy h h' hc hc'
      by_cases hxy : x = y
      · have hN : Hid (∀ (i : Nat) (x y : Int), i < k + 1 → xs[i]? = some x → ys[i]? = some y → x = y) := fun i x1 y1 hi h1 h2 => by
          by_cases e : i = k
          · subst e
            rw [HX.out.1] at h1; rw [HX.out.2] at h2
            cases h1; cases h2
            exact hxy
          · exact HI.out i x1 y1 (by omega) h1 h2
        have hne : (x != y) = false := by rw [hxy]; simp
        clear hxy
        go_wp2
        refine wp_region_over (by kernel_rfl) (by kernel_rfl) ?_
        repeat (go_big_quiet_step ((fail)))
        refine wpQuiet_nil ?_
        intro w1 hb1
        go_wp2
        go_roundw
        case rel => exact ⟨hb.trans hb1, k + 1, by omega, by go_num, hN⟩
        case measure => simp [intOf]; omega
      · have hd : Hid (decide (xs = ys) = false) := by
          show _ = _
          refine decide_eq_false fun e => hxy ?_
          have h1 := HX.out.1
          rw [e, HX.out.2] at h1
          exact (Option.some.inj h1).symm
        have hne : (x != y) = true := by simpa using hxy
        clear hxy
        go_wp2
        refine wp_region_over (by kernel_rfl) (by kernel_rfl) ?_
        repeat (go_big_quiet_step ((fail)))
        refine wpQuiet_nil ?_
        intro w1 hb1
        go_wp2
        go_returns
        exact ⟨ret_bool hd.out.symm, hb.trans hb1⟩
    · obtain rfl : k = xs.length := by omega
      have hd : Hid (decide (xs = ys) = true) := by
        show _ = _
        exact decide_eq_true (same_get HL.out fun i x y hx hy => HI.out i x y (List.getElem?_eq_some_iff.1 hx).1 hx hy)
      go_wp2
      go_returns
      exact ⟨ret_bool hd.out.symm, hb⟩
theorem objectOf_some {k : Int} (w : World) (h : inB k 1 3 = true) : ∃ t, Calls Tryd.prog 20 #[.int .i64 k] w fun e w' => e = .returned (.iface t (.pointer (some ⟨w.heap.size, 0, none⟩))) ∧ Ext w w' := by
  have h := inB_true.1 h
  have hk : k = 1 ∨ k = 2 ∨ k = 3 := by omega
  rcases hk with rfl | rfl | rfl
  · exact ⟨_, (objectOf_1 w).mono fun e w' ⟨h1, h2⟩ => ⟨h1, by rw [h2]; exact (Ext.refl w).alloc _⟩⟩
  · exact ⟨_, (objectOf_2 w).mono fun e w' ⟨h1, h2⟩ => ⟨h1, by rw [h2]; exact (Ext.refl w).alloc _⟩⟩
  · exact ⟨_, (objectOf_3 w).mono fun e w' ⟨h1, h2⟩ => ⟨h1, by rw [h2]; exact (Ext.refl w).alloc _⟩⟩
set_option maxHeartbeats 1000000 in
theorem impl_ObjectRun (k : Int) {v : Value} {xs : List Int} (w : World) (h : Sl1 encI w v xs) : Calls Tryd.prog 7 #[.int .i64 k, v] w (Ret1 encI w (objL k xs)) := by
  by_cases hk : inB k 1 3 = true
  · by_cases hok : okCalls xs = true
    · rw [objL_yes hok hk]
      have hk' := inB_true.1 hk
      have hk3 : k = 1 ∨ k = 2 ∨ k = 3 := by omega
      rcases hk3 with rfl | rfl | rfl
      · exact run_1 w h hok
      · exact run_2 w h hok
      · exact run_3 w h hok
    · rw [objL_no fun h => hok h.1]
      simp only [Bool.not_eq_true] at hok
      obtain ⟨t, hcall⟩ := objectOf_some w hk
      have HCALL := Lib.hid hcall
      have H := Lib.hid h
      clear hk hcall h
      go_enter Tryd.func7, Tryd.ntmps7
      go_wp2_with fail
      refine HCALL.out.mono ?_
      rintro e w1 ⟨rfl, b1⟩
      have B1 := Lib.hid b1
      clear b1
      go_wp2_with fail
      refine (callsOk_any _ (H.out.ext B1.out)).mono ?_
      rw [hok]
      rintro e w2 ⟨rfl, b2⟩
      go_wp2
      go_returns
      exact ⟨_, rfl, Sl1.nil _ _ _ _, Own.nil _ _ _ _, B1.out.trans b2⟩
  · rw [objL_no fun h => hk h.2]
    simp only [Bool.not_eq_true] at hk
    go_enter Tryd.func7, Tryd.ntmps7
    go_wp2_with fail
    refine (objectOf_none _ hk).mono ?_
    rintro e w1 ⟨rfl, rfl⟩
    go_wp2
    go_returns
    exact ⟨_, rfl, Sl1.nil _ _ _ _, Own.nil _ _ _ _, Ext.refl _⟩
set_option maxHeartbeats 1000000 in
theorem impl_ObjectRight (k : Int) {v v' : Value} {xs ys : List Int} (w : World) (h : Sl1 encI w v xs) (h' : Sl1 encI w v' ys) :
    Calls Tryd.prog 12 #[.int .i64 k, v, v'] w fun e w' => e = .returned (.bool (rightL k xs ys)) ∧ Ext w w' := by
  have H := Lib.hid h
  have H' := Lib.hid h'
  clear h h'
  by_cases hk : inB k 1 3 = true
  · obtain ⟨t, hcall⟩ := objectOf_some w hk
    have HCALL := Lib.hid hcall
    have HK := Lib.hid hk
    clear hk hcall
    by_cases hok : okCalls xs = true
    · have hr : Hid (rightL k xs ys = decide (objL k xs = ys)) := by show _ = _; simp [rightL, HK.out, hok]
      go_enter Tryd.func12, Tryd.ntmps12
      go_wp2_with fail
      refine HCALL.out.mono ?_
      rintro e w1 ⟨rfl, b1⟩
      have B1 := Lib.hid b1
      clear b1
      go_wp2_with fail
      refine (callsOk_any _ (H.out.ext B1.out)).mono ?_
      rw [hok]
      rintro e w2 ⟨rfl, b2⟩
      have B2 := Lib.hid (B1.out.trans b2)
      clear b2 B1
      go_wp2_with fail
      refine (impl_ObjectRun k _ (H.out.ext B2.out)).mono ?_
      rintro e w3 ⟨v3, rfl, s3, o3, b3⟩
      have B3 := Lib.hid (B2.out.trans b3)
      have S3 := Lib.hid s3
      clear b3 B2 s3 o3
      go_wp2_with fail
      refine (equal_any _ S3.out (H'.out.ext B3.out) (by have := objL_len k xs; omega)).mono ?_
      obtain ⟨d, hd⟩ : ∃ d, decide (objL k xs = ys) = d := ⟨_, rfl⟩
      rw [hd] at hr ⊢
      clear hd
      rintro e w4 ⟨rfl, b4⟩
      go_wp2
      go_returns
      exact ⟨ret_bool hr.out.symm, B3.out.trans b4⟩
    · simp only [Bool.not_eq_true] at hok
      have hr : Hid (rightL k xs ys = false) := by show _ = _; simp [rightL, hok]
      go_enter Tryd.func12, Tryd.ntmps12
      go_wp2_with fail
      refine HCALL.out.mono ?_
      rintro e w1 ⟨rfl, b1⟩
      have B1 := Lib.hid b1
      clear b1
      go_wp2_with fail
      refine (callsOk_any _ (H.out.ext B1.out)).mono ?_
      rw [hok]
      rintro e w2 ⟨rfl, b2⟩
      go_wp2
      go_returns
      exact ⟨ret_bool hr.out.symm, B1.out.trans b2⟩
  · simp only [Bool.not_eq_true] at hk
    have hr : Hid (rightL k xs ys = false) := by show _ = _; simp [rightL, hk]
    go_enter Tryd.func12, Tryd.ntmps12
    go_wp2_with fail
    refine (objectOf_none _ hk).mono ?_
    rintro e w1 ⟨rfl, rfl⟩
    go_wp2
    go_returns
    exact ⟨ret_bool hr.out.symm, Ext.refl _⟩
set_option maxHeartbeats 4000000 in
theorem impl_ObjectsOf {v v' : Value} {xs ys : List Int} (w : World) (h : Sl1 encI w v xs) (h' : Sl1 encI w v' ys) :
    Calls Tryd.prog 15 #[v, v'] w (Ret1 encI w (ofTo xs ys 4)) := by
  have H := Lib.hid h
  have H' := Lib.hid h'
  clear h h'
  by_cases hok : okCalls xs = true
  case neg =>
    simp only [Bool.not_eq_true] at hok
    rw [ofTo_no hok]
    go_enter Tryd.func15, Tryd.ntmps15
    go_wp2_with fail
    refine (callsOk_any _ H.out).mono ?_
    rw [hok]
    rintro e w1 ⟨rfl, b1⟩
    go_wp2
    go_returns
    exact ⟨_, rfl, Sl1.nil _ _ _ _, Own.nil _ _ _ _, b1⟩
  have hmk : ∀ W : World, (Instr.makeSlice 23 (.int .i64 0) (.int .i64 3)).run Tryd.prog W = .ok (.slice (some ⟨W.heap.size, 0, none⟩) 0 3) (W.alloc (.cells (madeCells #[Value.int .i64 0] 3) 3)) := make_room (P := Tryd.prog) 23 3 Tryd.underlying23 qinfo 3 (by omega) (by omega)
  go_enter Tryd.func15, Tryd.ntmps15
  go_wp2_with fail
  refine (callsOk_any _ H.out).mono ?_
  rw [hok]
  rintro e w1 ⟨rfl, b1⟩
  have B1 := Lib.hid b1
  have hq0 := QRow.made 3 (base := w.heap.size) w1 3 b1.size (by simp [maxLen])
  have HQ0 := Lib.hid hq0
  clear b1 hq0
  go_wp2
  go_loopw [5, 6] (fun o i wr => Ext w wr ∧ ∃ q : Nat, 1 ≤ q ∧ q ≤ 4 ∧ i = .int .i64 q ∧ Hid (QRow 3 w.heap.size wr o (ofTo xs ys q))) (fun _ i _ => 4 - (intOf i).toNat)
  case atStart => exact ⟨B1.out.alloc _, 1, Nat.le_refl _, by omega, rfl, HQ0.out⟩
  case round =>
    obtain ⟨hb, q, hq1, hq4, rfl, HQ⟩ := hrel
    have HB := Lib.hid hb
    have HLEN := Lib.hid (ofTo_len xs ys q)
    have HSTEP := Lib.hid (ofTo_step (calls := xs) (answers := ys) hq1)
    obtain ⟨out, hout⟩ : ∃ out, ofTo xs ys q = out := ⟨_, rfl⟩
    by_cases hlt : q ≤ 3
    · rw [hout] at HQ HLEN HSTEP
      have hlt' : (q : Int) ≤ 3 := by omega
      clear hb hout
      cases hr : rightL q xs ys with
      | true =>
        rw [hr, if_pos rfl] at HSTEP
        go_wp2_with fail
        refine (impl_ObjectRight q _ (H.out.ext HB.out) (H'.out.ext HB.out)).mono ?_
        rw [hr]
        rintro e w3 ⟨rfl, b3⟩
        have B3 := Lib.hid (HB.out.trans b3)
        obtain ⟨o4, w4, hrun, hq, hgr, -⟩ := q_push (P := Tryd.prog) (t := 23) (ty := 23) Tryd.underlying23 qinfo (HQ.out.ext b3) q (by have := HLEN.out; omega) B3.out.size
        have HRUN := Lib.hid hrun
        have HQ4 := Lib.hid hq
        have E4 := Lib.hid (Ext.grown (B3.out.alloc _) hgr fun g hg => ((HQ.out.ext b3).lt hg).2.1)
        clear hrun hq hgr b3
        go_wp2_with (at_builtin; refine wpList_append_run rfl rfl rfl rfl HRUN.out ?_)
        go_roundw
        case rel => exact ⟨E4.out, q + 1, by omega, by omega, by go_num, by rw [HSTEP.out]; exact HQ4.out⟩
        case measure => simp [intOf]; omega
      | false =>
        rw [hr, if_neg (by simp)] at HSTEP
        go_wp2_with fail
        refine (impl_ObjectRight q _ (H.out.ext HB.out) (H'.out.ext HB.out)).mono ?_
        rw [hr]
        rintro e w3 ⟨rfl, b3⟩
        have HB3 := Lib.hid b3
        clear b3
        go_wp2
        go_roundw
        case rel => exact ⟨HB.out.trans HB3.out, q + 1, by omega, by omega, by go_num, by rw [HSTEP.out]; exact HQ.out.ext HB3.out⟩
        case measure => simp [intOf]; omega
    · obtain rfl : q = 4 := by omega
      have hsh : (∃ A c, u5 = .slice A (ofTo xs ys 4).length c ∧ (ofTo xs ys 4).length ≤ c ∧ c ≤ maxLen ∧ (c = 0 → A = A)) := by
        obtain ⟨A, c, h1, h2, h3⟩ := HQ.out.shape
        exact ⟨A, c, h1, h2, h3, fun _ => rfl⟩
      obtain ⟨A, c, rfl, hc1, hc2, -⟩ := hsh
      rw [hout] at hc1 HQ ⊢
      simp only [maxLen] at hc2
      clear HLEN HSTEP hb
      go_wp2
      go_returns
      refine ⟨_, rfl, ?_, ?_, HB.out⟩
      · rw [hout]
        obtain ⟨A', c', hv, hcell⟩ := HQ.out.sl1
        injection hv with e1 _ _
        subst e1
        exact ⟨A, _, rfl, hcell⟩
      · intro a n c' hv hn
        injection hv with e1 e2 e3
        subst e1
        exact HQ.out.owned a _ _ rfl (by omega)
end Go.Proofs.YtackknkfcbnklaaDoor
