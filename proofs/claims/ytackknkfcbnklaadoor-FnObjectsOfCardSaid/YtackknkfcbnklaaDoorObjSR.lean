/- Objects: ObjectRight and ObjectsOf of the reference. -/
import Derived.Test.YtackknkfcbnklaaDoorObjS
namespace Go.Proofs.YtackknkfcbnklaaDoor
open Go.RowKit
set_option maxRecDepth 8000

theorem objL_full {k : Int} {xs : List Int} (h : okCalls xs = true) (hk : inB k 1 3 = true) : (objL k xs).length = xs.length := by rw [objL_yes h hk, (runO_len k xs).1]
theorem right_yes {k : Int} {xs ys : List Int} (h1 : (objL k xs).length = xs.length) (hk : inB k 1 3 = true) : rightL k xs ys = decide (objL k xs = ys) := by
  have hok : okCalls xs = true := by
    cases h : okCalls xs with
    | true => rfl
    | false =>
      rw [objL_no (fun h' => by rw [h] at h'; cases h'.1)] at h1
      have : xs = [] := List.eq_nil_of_length_eq_zero h1.symm
      subst this
      cases h
  simp [rightL, hok, hk]
theorem right_no {k : Int} {xs ys : List Int} (h : (objL k xs).length ≠ xs.length ∨ ys.length ≠ xs.length ∨ inB k 1 3 = false) : rightL k xs ys = false := by
  cases hr : rightL k xs ys with
  | false => rfl
  | true =>
    unfold rightL at hr
    simp only [Bool.and_eq_true, decide_eq_true_eq] at hr
    obtain ⟨⟨h1, h2⟩, h3⟩ := hr
    have hf := objL_full h1 h2
    rcases h with h | h | h
    · exact absurd hf h
    · rw [h3] at hf; exact absurd hf h
    · rw [h2] at h; cases h
set_option maxHeartbeats 4000000 in
theorem spec_ObjectRight (k : Int) {v v' : Value} {xs ys : List Int} (w : World) (h : Sl1 encI w v xs) (h' : Sl1 encI w v' ys) (hlen : xs.length ≤ 2097152) (_ : ys.length ≤ 2097152) :
    Calls Tryd.prog 13 #[.int .i64 k, v, v'] w fun e w' => e = .returned (.bool (rightL k xs ys)) ∧ Ext w w' := by
  have H := Lib.hid h
  obtain ⟨A', c', rfl, hc'0⟩ := id h'
  have HC' := Lib.hid hc'0
  obtain ⟨A, c, rfl, -⟩ := id h
  clear h h' hc'0
  have hrun := fun W (hW : Ext w W) => spec_ObjectRun k W (H.out.ext hW) hlen
  have HYES := Lib.hid (right_yes (k := k) (xs := xs) (ys := ys))
  have HNO := Lib.hid (right_no (k := k) (xs := xs) (ys := ys))
  obtain ⟨R, hR⟩ : ∃ R, objL k xs = R := ⟨_, rfl⟩
  rw [hR] at hrun HYES HNO
  have HRUN := Lib.hid hrun
  clear hrun hR
  go_enter Tryd.func13, Tryd.ntmps13
  go_wp2_with fail
  refine (HRUN.out _ (Ext.refl _)).mono ?_
  rintro e w1 ⟨v1, rfl, ⟨A1, c1, rfl, s1⟩, -, b1⟩
  have S1 := Lib.hid s1
  have B1 := Lib.hid b1
  clear s1 b1
  by_cases h1 : R.length = xs.length
  case neg =>
    have hf := Lib.hid (HNO.out (.inl h1))
    have hq : ((R.length : Int) != (xs.length : Int)) = true := by rw [bne_iff_ne]; omega
    clear h1
    go_wp2
    go_returns
    exact ⟨ret_bool hf.out.symm, B1.out⟩
  by_cases h2 : ys.length = xs.length
  case neg =>
    have hf := Lib.hid (HNO.out (.inr (.inl h2)))
    have hq2 : ((ys.length : Int) != (xs.length : Int)) = true := by rw [bne_iff_ne]; omega
    rw [h1]
    clear h1 h2
    go_wp2
    go_returns
    exact ⟨ret_bool hf.out.symm, B1.out⟩
  cases hk : inB k 1 3 with
  | false =>
    have hf := Lib.hid (HNO.out (.inr (.inr hk)))
    rw [h1, h2]
    clear h1 h2
    go_wp2_with fail
    refine (l1In_any _ _ _ _).mono ?_
    rw [hk]
    rintro e w2 ⟨rfl, rfl⟩
    go_wp2
    go_returns
    exact ⟨ret_bool hf.out.symm, B1.out⟩
  | true =>
    have hf := Lib.hid (HYES.out h1 hk)
    have HL := Lib.hid (show R.length = ys.length ∧ R.length = xs.length from ⟨by omega, h1⟩)
    have S1' := Lib.hid S1.out
    rw [h1] at S1'
    rw [h1, h2]
    clear h1 h2
    go_wp2_with fail
    refine (l1In_any _ _ _ _).mono ?_
    rw [hk]
    rintro e w2 ⟨rfl, rfl⟩
    clear hk
    go_wp2
    go_loopw [8] (fun i wr => Ext w1 wr ∧ ∃ q : Nat, q ≤ xs.length ∧ i = .int .i64 q ∧ Hid (∀ (i : Nat) (x y : Int), i < q → R[i]? = some x → ys[i]? = some y → x = y)) (fun i _ => xs.length - (intOf i).toNat)
    case atStart => exact ⟨Ext.refl _, 0, Nat.zero_le _, rfl, fun _ _ _ h => absurd h (Nat.not_lt_zero _)⟩
    case round =>
      obtain ⟨hb, q, hq, rfl, HI⟩ := hrel
      by_cases hlt : q < xs.length
      · obtain ⟨b, off, rfl, hbl, hc⟩ := S1'.out (by omega)
        obtain ⟨b', off', rfl, hbl', hc'⟩ := HC'.out (by have := HL.out; omega)
        obtain ⟨x, hx⟩ := at_some (show q < R.length by have := HL.out; omega)
        obtain ⟨y, hy⟩ := at_some (show q < ys.length by have := HL.out; omega)
        have c0 : ∀ e, (over wr e).cell? ⟨b, off + q, none⟩ = some (.int .i64 x) := over_cell (hb.cell (hc q x hx))
        have d0 : ∀ e, (over wr e).cell? ⟨b', off' + q, none⟩ = some (.int .i64 y) := over_cell (hb.cell (B1.out.cell (hc' q y hy)))
        have HX := Lib.hid (And.intro hx hy)
        clear hx hy hc hc'
        by_cases hxy : x = y
        · have hN : Hid (∀ (i : Nat) (x y : Int), i < q + 1 → R[i]? = some x → ys[i]? = some y → x = y) := fun i x1 y1 hi h1 h2 => by
            by_cases e : i = q
            · subst e
              rw [HX.out.1] at h1; rw [HX.out.2] at h2
              cases h1; cases h2
              exact hxy
            · exact HI.out i x1 y1 (by omega) h1 h2
          have hne : (x != y) = false := by rw [hxy]; simp
          clear hxy
          go_wp2
          refine wp_region_over (by kernel_rfl) (by kernel_rfl) ?_
          repeat (go_big_quiet_step ((fail)))
          refine wpQuiet_nil ?_
          intro w1 hb1
          go_wp2
          go_roundw
          case rel => exact ⟨hb.trans hb1, q + 1, by omega, by go_num, hN⟩
          case measure => simp [intOf]; omega
        · have hd : Hid (decide (R = ys) = false) := by
            show _ = _
            refine decide_eq_false fun e => hxy ?_
            have h1 := HX.out.1
            rw [e, HX.out.2] at h1
            exact (Option.some.inj h1).symm
          have hne : (x != y) = true := by simpa using hxy
          clear hxy
          go_wp2
          refine wp_region_over (by kernel_rfl) (by kernel_rfl) ?_
          repeat (go_big_quiet_step ((fail)))
          refine wpQuiet_nil ?_
          intro w1 hb1
          go_wp2
          go_returns
          exact ⟨ret_bool (by rw [hf.out, hd.out]), (B1.out.trans hb).trans hb1⟩
      · obtain rfl : q = xs.length := by omega
        have hd : Hid (decide (R = ys) = true) := by
          show _ = _
          exact decide_eq_true (same_get HL.out.1 fun i x y hx hy => HI.out i x y (by have := (List.getElem?_eq_some_iff.1 hx).1; have := HL.out; omega) hx hy)
        go_wp2
        go_returns
        exact ⟨ret_bool (by rw [hf.out, hd.out]), B1.out.trans hb⟩
set_option maxHeartbeats 4000000 in
theorem spec_ObjectsOf {v v' : Value} {xs ys : List Int} (w : World) (h : Sl1 encI w v xs) (h' : Sl1 encI w v' ys) (hlen : xs.length ≤ 2097152) (hlen' : ys.length ≤ 2097152) :
    Calls Tryd.prog 16 #[v, v'] w (Ret1 encI w (ofTo xs ys 4)) := by
  have H := Lib.hid h
  have H' := Lib.hid h'
  clear h h'
  have hq0 := QRow.empty0 3 (base := w.heap.size) w (Nat.le_refl _)
  have HQ0 := Lib.hid hq0
  clear hq0
  go_enter Tryd.func16, Tryd.ntmps16
  go_wp2
  go_loopw [5, 6] (fun o i wr => Ext w wr ∧ ∃ q : Nat, 1 ≤ q ∧ q ≤ 4 ∧ i = .int .i64 q ∧ Hid (QRow 3 w.heap.size wr o (ofTo xs ys q))) (fun _ i _ => 4 - (intOf i).toNat)
  case atStart => exact ⟨(Ext.refl w).alloc _, 1, Nat.le_refl _, by omega, rfl, HQ0.out⟩
  case round =>
    obtain ⟨hb, q, hq1, hq4, rfl, HQ⟩ := hrel
    have HB := Lib.hid hb
    have HLEN := Lib.hid (ofTo_len xs ys q)
    have HSTEP := Lib.hid (ofTo_step (calls := xs) (answers := ys) hq1)
    obtain ⟨out, hout⟩ : ∃ out, ofTo xs ys q = out := ⟨_, rfl⟩
    by_cases hlt : q ≤ 3
    · rw [hout] at HQ HLEN HSTEP
      have hlt' : (q : Int) ≤ 3 := by omega
      clear hb hout
      cases hr : rightL q xs ys with
      | true =>
        rw [hr, if_pos rfl] at HSTEP
        go_wp2_with fail
        refine (spec_ObjectRight q _ (H.out.ext HB.out) (H'.out.ext HB.out) hlen hlen').mono ?_
        rw [hr]
        rintro e w3 ⟨rfl, b3⟩
        have B3 := Lib.hid (HB.out.trans b3)
        obtain ⟨o4, w4, hrun, hq, hgr, -⟩ := q_push (P := Tryd.prog) (t := 23) (ty := 23) Tryd.underlying23 qinfo (HQ.out.ext b3) q (by have := HLEN.out; omega) B3.out.size
        have HRUN := Lib.hid hrun
        have HQ4 := Lib.hid hq
        have E4 := Lib.hid (Ext.grown (B3.out.alloc _) hgr fun g hg => ((HQ.out.ext b3).lt hg).2.1)
        clear hrun hq hgr b3
        go_wp2_with (at_builtin; refine wpList_append_run rfl rfl rfl rfl HRUN.out ?_)
        go_roundw
        case rel => exact ⟨E4.out, q + 1, by omega, by omega, by go_num, by rw [HSTEP.out]; exact HQ4.out⟩
        case measure => simp [intOf]; omega
      | false =>
        rw [hr, if_neg (by simp)] at HSTEP
        go_wp2_with fail
        refine (spec_ObjectRight q _ (H.out.ext HB.out) (H'.out.ext HB.out) hlen hlen').mono ?_
        rw [hr]
        rintro e w3 ⟨rfl, b3⟩
        have HB3 := Lib.hid b3
        clear b3
        go_wp2
        go_roundw
        case rel => exact ⟨HB.out.trans HB3.out, q + 1, by omega, by omega, by go_num, by rw [HSTEP.out]; exact HQ.out.ext HB3.out⟩
        case measure => simp [intOf]; omega
    · obtain rfl : q = 4 := by omega
      clear HLEN HSTEP hb hout
      go_wp2
      go_returns
      exact ⟨_, rfl, HQ.out.sl1, HQ.out.owned, HB.out⟩
end Go.Proofs.YtackknkfcbnklaaDoor
