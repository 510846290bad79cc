/- ObjectRun of the program with kind 3. -/
import Derived.Test.YtackknkfcbnklaaDoorObjWrap
import Derived.Test.YtackknkfcbnklaaDoorRFun
namespace Go.Proofs.YtackknkfcbnklaaDoor
open Go.RowKit
set_option maxRecDepth 8000

set_option maxHeartbeats 8000000 in
theorem run_3 {v : Value} {xs : List Int} (w : World) (h : Sl1 encI w v xs) (hok : okCalls xs = true) :
    Calls Tryd.prog 7 #[.int .i64 3, v] w (Ret1 encI w (runO 3 xs).2) := by
  have H := Lib.hid h
  obtain ⟨A, c, rfl, hc0⟩ := id h
  have HC := Lib.hid hc0
  have hl := (okCalls_at hok).1
  have HOK := Lib.hid hok
  have hmk := make_room (P := Tryd.prog) 23 3 Tryd.underlying23 qinfo xs.length (by omega) (by omega)
  have hT : (62 : Nat) ≠ 3 := by decide
  have HT := Lib.hid hT
  clear h hc0 hok hT
  go_enter Tryd.func7, Tryd.ntmps7
  go_wp2_with fail
  refine (objectOf_3 _).mono ?_
  rintro e w1 ⟨rfl, hw1⟩
  have hO : Boxed w1 w.heap.size 62 (.slice none 0 0) := by rw [hw1]; exact World.alloc_heap_new w _
  have hE1 : Ext w w1 := by rw [hw1]; exact (Ext.refl w).alloc _
  have HO := Lib.hid hO
  have HE1 := Lib.hid hE1
  clear hw1 hO hE1
  go_wp2_with fail
  refine (callsOk_any _ (H.out.ext HE1.out)).mono ?_
  rw [HOK.out]
  rintro e w2 ⟨rfl, b2⟩
  have HE2 := Lib.hid (HE1.out.trans b2)
  have HO2 := Lib.hid (boxed_ext HO.out b2)
  clear b2 HE1 HO
  go_wp2
  have hs0 : St 3 62 w.heap.size w.heap.size (w2.alloc (.cells (madeCells #[Value.int .i64 0] xs.length) 3)) (.slice (some ⟨w2.heap.size, 0, none⟩) 0 xs.length) (.slice none 0 0) [] [] [] :=
    ⟨⟨HO2.out.alloc _, QRow.nil⟩, by unfold Rel; split <;> simp [Heap.nil], QRow.made _ _ _ HE2.out.size (by simp [maxLen]; omega), fun g _ e => by cases e⟩
  have HS0 := Lib.hid hs0
  clear hs0
  go_loopw [6, 23] (fun o i wr => Ext w wr ∧ ∃ (q : Nat) (v : Value) (zs : List Int), q ≤ xs.length ∧ i = .int .i64 q ∧ Hid (St 3 62 w.heap.size w.heap.size wr o v zs (runO 3 (xs.take q)).1 (runO 3 (xs.take q)).2)) (fun _ i _ => xs.length - (intOf i).toNat)
  case atStart => exact ⟨HE2.out.alloc _, 0, .slice none 0 0, [], Nat.zero_le _, rfl, HS0.out⟩
  case round =>
    obtain ⟨hb, q, v, zs, hq, rfl, HS⟩ := hrel
    have hbase : w.heap.size ≤ wr.heap.size := hb.size
    have HBS := Lib.hid hbase
    have HEB := Lib.hid hb
    have hlen := runO_len 3 (xs.take q)
    have hlq : (xs.take q).length = q := by rw [List.length_take]; omega
    rw [hlq] at hlen
    obtain ⟨l, hl1⟩ : ∃ l, (runO 3 (xs.take q)).1 = l := ⟨_, rfl⟩
    obtain ⟨out, ho1⟩ : ∃ out, (runO 3 (xs.take q)).2 = out := ⟨_, rfl⟩
    rw [hl1, ho1] at hlen HS
    have HR : Hid (runO 3 (xs.take q) = (l, out)) := by show _ = _; rw [← hl1, ← ho1]
    have HLEN := Lib.hid hlen
    clear hl1 ho1 hlen hlq hbase
    by_cases hlt : q < xs.length
    · obtain ⟨b, off, rfl, hbl, hcell⟩ := HC.out (by omega)
      obtain ⟨x, hx⟩ := at_some hlt
      have c0 : wr.cell? ⟨b, off + q, none⟩ = some (.int .i64 x) := hb.cell (hcell q x hx)
      have hstep : runO 3 (xs.take (q + 1)) = ansStep 3 (l, out) x := by
        rw [List.take_add_one, hx, Option.toList_some, runO_snoc, HR.out]
      have HST := Lib.hid hstep
      clear hcell hx hstep hb
      by_cases hx0 : 0 ≤ x
      · have HN : Hid (runO 3 (xs.take (q + 1)) = (l ++ [x], out ++ [0])) := by
          show _ = _
          rw [HST.out]; unfold ansStep; rw [if_pos hx0]
        clear HST
        go_wp2_with fail
        refine (put_3 x _ HS.out.obj HS.out.rel (by have := HLEN.out; omega) HBS.out).mono ?_
        rintro e w3 ⟨rfl, v', zs', o3, r3, f3, n3⟩
        have S3 := Lib.hid (HS.out.turn HT.out o3 r3 f3 n3)
        have E3 := Lib.hid (HS.out.own (Nat.le_refl _) (Nat.le_refl _) HEB.out f3)
        clear o3 r3 f3 n3
        obtain ⟨o4, w4, hrun, s4, e4, g4⟩ := S3.out.push HT.out (by have := HLEN.out; omega) E3.out.size 0
        have HRUN := Lib.hid hrun
        have S4 := Lib.hid s4
        have E4 := Lib.hid (e4 w (Nat.le_refl _) E3.out)
        clear hrun s4 e4 g4
        go_wp2_with (at_builtin; refine wpList_append_run rfl rfl rfl rfl HRUN.out ?_)
        go_roundw
        case rel => exact ⟨E4.out, q + 1, v', zs', by omega, by go_num, by rw [HN.out]; exact S4.out⟩
        case measure => simp [intOf]; omega
      · by_cases hl0 : l.length = 0
        · have HN : Hid (runO 3 (xs.take (q + 1)) = (l, out ++ [-1])) := by
            show _ = _
            rw [HST.out]; unfold ansStep; rw [if_neg hx0, if_pos hl0]
          have hemp : ((l.length : Int) == 0) = true := by rw [hl0]; rfl
          have hcal := empty_3 _ HS.out.obj HS.out.rel
          rw [hemp] at hcal
          have HCAL := Lib.hid hcal
          clear HST hemp hcal hl0
          go_wp2_with fail
          refine HCAL.out.mono ?_
          rintro e w3 ⟨rfl, rfl⟩
          obtain ⟨o4, w4, hrun, s4, e4, g4⟩ := HS.out.push HT.out (by have := HLEN.out; omega) HBS.out (-1)
          have HRUN := Lib.hid hrun
          have S4 := Lib.hid s4
          have E4 := Lib.hid (e4 w (Nat.le_refl _) HEB.out)
          clear hrun s4 e4 g4
          go_wp2_with (at_builtin; refine wpList_append_run rfl rfl rfl rfl HRUN.out ?_)
          go_roundw
          case rel => exact ⟨E4.out, q + 1, v, zs, by omega, by go_num, by rw [HN.out]; exact S4.out⟩
          case measure => simp [intOf]; omega
        · have HN : Hid (runO 3 (xs.take (q + 1)) = (l.eraseIdx (takeAt 3 l), out ++ [gD l (takeAt 3 l)])) := by
            show _ = _
            rw [HST.out]; unfold ansStep; rw [if_neg hx0, if_neg hl0]
          have hemp : ((l.length : Int) == 0) = false := by rw [beq_eq_false_iff_ne]; omega
          have hcal := empty_3 _ HS.out.obj HS.out.rel
          rw [hemp] at hcal
          have HCAL := Lib.hid hcal
          have HTK := Lib.hid (take_3 _ HS.out.obj HS.out.rel (by have := HLEN.out; omega) (by omega))
          obtain ⟨l', hl'⟩ : ∃ l', l.eraseIdx (takeAt 3 l) = l' := ⟨_, rfl⟩
          obtain ⟨y, hy⟩ : ∃ y, gD l (takeAt 3 l) = y := ⟨_, rfl⟩
          rw [hl', hy] at HTK HN
          clear HST hemp hcal hl0 hl' hy
          go_wp2_with fail
          refine HCAL.out.mono ?_
          rintro e w3 ⟨rfl, rfl⟩
          go_wp2_with fail
          refine HTK.out.mono ?_
          rintro e w3 ⟨rfl, v', zs', o3, r3, f3, n3⟩
          have S3 := Lib.hid (HS.out.turn HT.out o3 r3 f3 n3)
          have E3 := Lib.hid (HS.out.own (Nat.le_refl _) (Nat.le_refl _) HEB.out f3)
          clear o3 r3 f3 n3 HTK
          obtain ⟨o4, w4, hrun, s4, e4, g4⟩ := S3.out.push HT.out (by have := HLEN.out; omega) E3.out.size y
          have HRUN := Lib.hid hrun
          have S4 := Lib.hid s4
          have E4 := Lib.hid (e4 w (Nat.le_refl _) E3.out)
          clear hrun s4 e4 g4
          go_wp2_with (at_builtin; refine wpList_append_run rfl rfl rfl rfl HRUN.out ?_)
          go_roundw
          case rel => exact ⟨E4.out, q + 1, v', zs', by omega, by go_num, by rw [HN.out]; exact S4.out⟩
          case measure => simp [intOf]; omega
    · obtain rfl : q = xs.length := by omega
      have HF : Hid ((runO 3 xs).2 = out) := by
        have := HR.out
        rw [List.take_length] at this
        show _ = _
        rw [this]
      go_wp2
      go_returns
      exact ⟨_, rfl, by rw [HF.out]; exact HS.out.row.sl1, HS.out.row.owned, HEB.out⟩
end Go.Proofs.YtackknkfcbnklaaDoor
