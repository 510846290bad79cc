/- The library's copy of a list of numbers that is sorted: AppendSeq, Collect, Sorted. -/
import Derived.Test.YtiggckhlbklngaaDoorCollect
namespace Go.Proofs.YtiggckhlbklngaaDoor
open Go.RowKit
set_option maxRecDepth 8000
attribute [local go_sem] Oper.semAt_some

theorem kint_S : (Tryd.prog.info? 3).map (fun i => (i.zero, i.size, i.bytes)) = some (some (.int .i64 0), 1, 8) := by kernel_rfl
set_option maxHeartbeats 2000000 in
theorem appendSeq_any (B n₀ : Nat) (xs : List Int) (w : World) (hn₀ : n₀ ≤ w.heap.size) (hlen : xs.length ≤ 1000) (hseq : ValSeq n₀ B xs w) :
    Calls Tryd.prog 82 #[.slice none 0 0, .func (.func 73) #[] #[.pointer (some ⟨B, 0, none⟩)]] w fun e w' => ∃ v, e = .returned v ∧ Row 3 1 (one encI) w.heap.size w' v xs ∧ Ext w w' := by
  refine (callsIn_wide (n := 9)).1 ?_
  refine callsIn_of_wp_marks Tryd.func82 rfl trivial ?_ rfl
  simp only [Tryd.ntmps82, List.size_toArray, List.length_cons, List.length_nil, Nat.reduceAdd, Nat.reduceSub, Array.replicate_succ, Array.replicate_zero, List.push_toArray, List.append_toArray, List.nil_append, List.cons_append]
  gi_wp2
  have bO := Boxed.new w 23 (.slice none 0 0)
  have eB : Ext w (w.alloc (.cells #[.slice none 0 0] 23)) := (Ext.refl _).alloc _
  obtain ⟨W0, hW0⟩ : ∃ W0, w.alloc (.cells #[.slice none 0 0] 23) = W0 := ⟨_, rfl⟩
  have hsz : W0.heap.size = w.heap.size + 1 := by rw [← hW0]; simp
  rw [hW0] at bO eB ⊢
  clear hW0
  refine wpIn_rangeFunc_ownG rfl (by omega) (gf := 73) (lb := #[.pointer (some ⟨B, 0, none⟩)]) rfl trivial (enters_of Tryd.func73 (by kernel_rfl) rfl)
    hseq belowK_t (belowK_b (by omega)) eB (fun _ => rfl)
    (fun pre W => (∃ v, Boxed W w.heap.size 23 v ∧ W.ownsRow w.heap.size 3 1 v pre.length (pre.flatMap (cellsOf_ 1 (one encI))) ∧ True) ∧ Below w.heap.size w W)
    (fun _ _ _ => False)
    (OwnFrom.and (Go.Own.from (holdsRow_own w.heap.size w.heap.size _ _ 1 (fun pre : List Int => pre.length) (fun pre : List Int => pre.flatMap (cellsOf_ 1 (one encI))) (fun _ _ => True)) _) (ownFrom_below (Nat.le_refl _) (by omega)))
    (fun _ _ _ _ _ hs _ _ => hs)
    ⟨⟨_, bO, World.ownsRow_nil _ _ _ _, trivial⟩, eB⟩
    (fun x => { tmps := #[.slice none 0 0, .func (.func 73) #[] #[.pointer (some ⟨B, 0, none⟩)], .pointer (some ⟨w.heap.size, 0, none⟩), undef, .slice none 0 0, .int .i64 x, .func (.func 73) #[] #[.pointer (some ⟨B, 0, none⟩)], .int .i64 x, undef, undef, undef, undef, undef], defers := [] }) ?assign ?body ?done ?stop
  case assign =>
    intro l x W K hK
    gi_wp2
    exact hK
  case body =>
    rintro l pre x W ⟨⟨v, hO, hrow, -⟩, hB⟩ hlt
    obtain ⟨i0, hi, hz0, hz1, hz2⟩ := info_parts kint_S
    have cO := hO.cell
    have fO := hO.frozen
    have HO := Lib.hid hO
    have HR := Lib.hid hrow
    have HB := Lib.hid hB
    have hWs := hB.size
    clear hO hrow hB bO eB
    gi_wp2_with (gi_at_builtin; refine halt ?_)
    refine Halt.go ?_
    refine wpListIn_append_own _ rfl _ _ 23 rfl w.heap.size 3 i0 (.int .i64 0) 1 8 Tryd.underlying23 hi hz0 hz1 hz2 rfl (by decide) _ _ _ rfl (World.ownsRow.alloc HR.out _) ⟨_, 0, none⟩ 1 1 [.int .i64 x] rfl rfl (cells_at_ _ _ _ _ rfl) (by simp [Value.oneCell']) (by simp only [maxLen]; omega) (by omega) (by simp; omega) ?_
    intro v' w9 hown' hgrow _
    obtain ⟨g', cap', rfl⟩ := ownsRow_succ hown'
    have AP := Lib.hid (Boxed.appended HO.out (by decide) HR.out (by omega) (by omega) hown' hgrow)
    have hc1 := AP.out.1.cell
    have hf1 := AP.out.1.frozen
    gi_wp2
    have hrw := AP.out.2.2.1
    refine ⟨AP.out.2.2.2.1.from _, AP.out.2.2.2.2.mono hn₀, ⟨_, AP.out.2.1, ?_, trivial⟩, HB.out.trans AP.out.2.2.2.2⟩
    simp only [List.length_append, List.length_singleton, List.flatMap_append]
    simpa [cellsOf_, one, encI] using hrw
  case done =>
    rintro D ys W hD rfl ⟨⟨v, hO, hrow, -⟩, hB⟩ hK
    have hr : Row 3 1 (one encI) w.heap.size W v ys := hrow
    have HR := Lib.hid hr
    have HB := Lib.hid hB
    have cO := hO.cell
    clear hr hrow hO hB bO eB
    gi_wp2
    refine ⟨by simp, .inl ⟨_, _, rfl, run_takeDeferred hK, ?_⟩⟩
    exact ⟨_, results_tmp rfl _ _ _, v, rfl, ownsRow_putObj HR.out _ hK rfl, Below.trans HB.out (belowK_b (w := w) (Nat.le_refl _) _ D _ _ (by omega) hK rfl rfl)⟩
  case stop =>
    rintro D c_ pre W _ _ h _
    exact h.elim
theorem collect_any (B n₀ : Nat) (xs : List Int) (w : World) (hn₀ : n₀ ≤ w.heap.size) (hlen : xs.length ≤ 1000) (hseq : ValSeq n₀ B xs w) :
    Calls Tryd.prog 71 #[.func (.func 73) #[] #[.pointer (some ⟨B, 0, none⟩)]] w fun e w' => ∃ v, e = .returned v ∧ Row 3 1 (one encI) w.heap.size w' v xs ∧ Ext w w' := by
  go_enter Tryd.func71, Tryd.ntmps71
  go_wp2_with fail
  refine (appendSeq_any B n₀ xs _ hn₀ hlen hseq).mono ?_
  rintro e w1 ⟨v, rfl, hr, b1⟩
  go_wp2
  go_returns
  exact ⟨_, rfl, hr, b1⟩
/-- slices.Sorted(slices.Values(s)): a list of the call's own, the same numbers, ascending. -/
theorem sorted_any (B n₀ : Nat) (xs : List Int) (w : World) (hn₀ : n₀ ≤ w.heap.size) (hlen : xs.length ≤ 7) (hseq : ValSeq n₀ B xs w) :
    Calls Tryd.prog 55 #[.func (.func 73) #[] #[.pointer (some ⟨B, 0, none⟩)]] w fun e w' => ∃ v ys, e = .returned v ∧ ys.Perm xs ∧ ys.Pairwise (· ≤ ·) ∧ Sl1 encI w' v ys ∧ Ext w w' := by
  go_enter Tryd.func55, Tryd.ntmps55
  go_wp2_with fail
  refine (collect_any B n₀ xs _ hn₀ (by omega) hseq).mono ?_
  rintro e w1 ⟨v, rfl, hr, b1⟩
  have HR := Lib.hid hr
  have HB := Lib.hid b1
  obtain ⟨A, c, rfl, -⟩ := hr.cell.1
  clear hr b1
  go_wp2_with fail
  refine (sortI_any _ HR.out.cell.1.to1 HR.out.cell.2 hlen).mono ?_
  rintro e w2 ⟨rfl, ys, hp, hs, hy, ho⟩
  have HP := Lib.hid (And.intro hp hs)
  have HY := Lib.hid hy
  have HO := Lib.hid ho
  clear hp hs hy ho
  go_wp2
  go_returns
  exact ⟨_, ys, rfl, HP.out.1, HP.out.2, HY.out, Ext.only HB.out HO.out HR.out.cell.2 (Nat.le_refl _)⟩
end Go.Proofs.YtiggckhlbklngaaDoor
