/- Locks that are asked for: AskLock, of the reference and of the program. -/
import Derived.Test.YtbbfdnmlfjdidaaDoorHold
import Derived.Test.YtbbfdnmlfjdidaaDoorClone
import Derived.Test.YtbbfdnmlfjdidaaDoorClipCap
import Derived.Test.YtbbfdnmlfjdidaaDoorTypedL
import Derived.Test.YtbbfdnmlfjdidaaDoorYOps
import Derived.Test.YtbbfdnmlfjdidaaDoorYApp
namespace Go.Proofs.YtbbfdnmlfjdidaaDoor
open Go.RowKit
set_option maxRecDepth 8000

theorem row_low {α : Type} {e : TypeId} {m : Nat} {enc : α → Nat → Value} {base base' : Nat} {w : World} {v : Value} {xs : List α} (h : Row e m enc base w v xs) (hb : base' ≤ base) : Row e m enc base' w v xs := by
  refine ⟨h.1, ?_⟩
  rcases h.2 with hn | ⟨g, cap, cur, hv, h1, rest⟩
  · exact .inl hn
  · exact .inr ⟨g, cap, cur, hv, Nat.le_trans hb h1, rest⟩
theorem cinfo_HoldA : (Tryd.prog.info? 83).map (fun i => (i.zero, i.size, i.bytes)) = some (some (.agg #[.int .i64 0, .int .i64 0, .bool false, .bool false]), 4, 24) := by kernel_rfl
theorem one_HoldA (x : Hold) (j : Nat) : (encHold x j).oneCell' = true := by
  first | rfl | (unfold encHold; split <;> rfl)
/-- What is asked for, as it comes out. -/
def askH (xs : List Hold) (owner key : Int) (write : Bool) : Hold := ⟨owner, key, write, !xs.any fun y => clashB ⟨owner, key, write, false⟩ y⟩
/-- What AskLock returns. -/
def askL (xs : List Hold) (owner key : Int) (write : Bool) : List Hold × Bool :=
  if holdsOk xs = true then (if holdsOk (xs ++ [askH xs owner key write]) = true then (xs ++ [askH xs owner key write], true) else (xs, false)) else ([], false)
theorem askL_len (xs : List Hold) (owner key : Int) (write : Bool) (h : xs.length ≤ 1048576) : (askL xs owner key write).1.length ≤ 2097152 := by
  unfold askL
  split
  · split <;> simp <;> omega
  · simp
theorem askL_yes {xs : List Hold} {owner key : Int} {write g : Bool} (hv : holdsOk xs = true) (hg : (!xs.any fun y => clashB ⟨owner, key, write, false⟩ y) = g) :
    askL xs owner key write = if holdsOk (xs ++ [⟨owner, key, write, g⟩]) = true then (xs ++ [⟨owner, key, write, g⟩], true) else (xs, false) := by
  subst hg
  rw [askL, if_pos hv]
  rfl
theorem sl_hold (w : World) (o k : Int) (d g : Bool) (T : TypeId) : SlOf 4 encHold (w.alloc (.cells #[.int .i64 o, .int .i64 k, .bool d, .bool g] T)) (.slice (some ⟨w.heap.size, 0, none⟩) 1 1) [⟨o, k, d, g⟩] :=
  ⟨_, _, rfl, fun _ => ⟨_, _, rfl, by simp, fun i x hx j hj => by
    obtain ⟨hi, rfl⟩ := List.getElem?_eq_some_iff.1 hx
    obtain rfl : i = 0 := by simpa using hi
    match j, hj with
    | 0, _ => exact (cell_of_row _ _ _ _ T (0, 0) (heap_alloc_new w _)).trans rfl
    | 1, _ => exact (cell_of_row _ _ _ _ T (0, 0) (heap_alloc_new w _)).trans rfl
    | 2, _ => exact (cell_of_row _ _ _ _ T (0, 0) (heap_alloc_new w _)).trans rfl
    | 3, _ => exact (cell_of_row _ _ _ _ T (0, 0) (heap_alloc_new w _)).trans rfl⟩⟩
theorem any_take_next {p : Hold → Bool} {xs : List Hold} {q : Nat} {y : Hold} (hy : xs[q]? = some y) : (xs.take (q + 1)).any p = ((xs.take q).any p || p y) := by
  obtain ⟨hk, rfl⟩ := List.getElem?_eq_some_iff.1 hy
  rw [List.take_succ_eq_append_getElem hk, List.any_append]
  simp
set_option maxHeartbeats 4000000 in
theorem spec_AskLock_row {v : Value} {xs : List Hold} (owner key : Int) (write : Bool) (w : World) (h : SlOf 4 encHold w v xs) (hlen : xs.length ≤ 2097152) :
    Calls Tryd.prog 79 #[v, .int .i64 owner, .int .i64 key, .bool write] w fun e w' => ∃ v', e = .returned (.tuple #[v', .bool (askL xs owner key write).2]) ∧ Row 83 4 encHold w.heap.size w' v' (askL xs owner key write).1 ∧ Ext w w' := by
  have H := Lib.hid h
  clear h
  by_cases hv : holdsOk xs = true
  case neg =>
    have hf : Hid (askL xs owner key write = ([], false)) := by show _ = _; rw [askL, if_neg hv]
    rw [hf.out]
    simp only [Bool.not_eq_true] at hv
    go_enter Tryd.func79, Tryd.ntmps79
    go_wp2_with fail
    refine (spec_HoldsValid _ H.out hlen).mono ?_
    rw [hv]
    rintro e w1 ⟨rfl, b1⟩
    have hrow : Row 83 4 encHold w1.heap.size (w1.alloc (.cells #[] 83)) (.slice (some ⟨w1.heap.size, 0, none⟩) 0 0) ([] : List Hold) := World.ownsRow_made w1 #[] 0 (Nat.le_refl _) (by simp [maxLen]) (by simp)
    have Hc := Lib.hid hrow
    clear hrow
    go_wp2
    go_returns
    exact ⟨_, rfl, Row.low Hc.out b1.size, b1.alloc _⟩
  have hl16 : xs.length ≤ 16 := (allGood_true.1 hv).2
  obtain ⟨R, hRR⟩ : ∃ R, askL xs owner key write = R := ⟨_, rfl⟩
  rw [hRR]
  have HRR := Lib.hid hRR
  clear hRR
  go_enter Tryd.func79, Tryd.ntmps79
  go_wp2_with fail
  refine (spec_HoldsValid _ H.out hlen).mono ?_
  rw [hv]
  rintro e w1 ⟨rfl, b1⟩
  have HV := Lib.hid hv
  clear hv
  obtain ⟨A, c, rfl, _⟩ := id H.out
  go_wp2
  go_loopw [11] (fun i wr => Ext w1 wr ∧ wr.cell? ⟨w1.heap.size, 0, none⟩ = some (.int .i64 owner) ∧ wr.cell? ⟨w1.heap.size, 1, none⟩ = some (.int .i64 key) ∧ wr.cell? ⟨w1.heap.size, 2, none⟩ = some (.bool write) ∧ BlkN wr w1.heap.size 4 ∧
    ∃ k : Nat, k ≤ xs.length ∧ i = .int .i64 k ∧ wr.cell? ⟨w1.heap.size, 3, none⟩ = some (.bool (!(xs.take k).any fun y => clashB ⟨owner, key, write, false⟩ y))) (fun i _ => xs.length - (intOf i).toNat)
  case atStart => exact ⟨(Ext.refl _).alloc _, by go_cell, by go_cell, by go_cell, BlkN.made w1 _ _, 0, Nat.zero_le _, rfl, by simp⟩
  case round =>
    obtain ⟨hb, g0, g1, g2, hblk, k, hk, rfl, g3⟩ := hrel
    by_cases hlt : k < xs.length
    · obtain ⟨A', c', hA', hcc⟩ := id H.out
      injection hA' with e1 e2 e3
      subst e1 e3
      clear e2
      obtain ⟨b, off, rfl, hbl, hcell⟩ := hcc (by omega)
      obtain ⟨x, hx⟩ := at_some hlt
      have d0 : ∀ e, (over wr e).cell? ⟨b, off + k * 4, none⟩ = some (.int .i64 x.owner) := over_cell (hb.cell (b1.cell (hcell k x hx 0 (by omega))))
      have d1 : ∀ e, (over wr e).cell? ⟨b, off + k * 4 + 1, none⟩ = some (.int .i64 x.key) := over_cell (hb.cell (b1.cell (hcell k x hx 1 (by omega))))
      have d2 : ∀ e, (over wr e).cell? ⟨b, off + k * 4 + 2, none⟩ = some (.bool x.write) := over_cell (hb.cell (b1.cell (hcell k x hx 2 (by omega))))
      have d3 : ∀ e, (over wr e).cell? ⟨b, off + k * 4 + 3, none⟩ = some (.bool x.got) := over_cell (hb.cell (b1.cell (hcell k x hx 3 (by omega))))
      obtain ⟨gk, hgk⟩ : ∃ gk, (!(xs.take k).any fun y => clashB ⟨owner, key, write, false⟩ y) = gk := ⟨_, rfl⟩
      rw [hgk] at g3
      have e0 := over_cell g0
      have e1 := over_cell g1
      have e2 := over_cell g2
      have e3 := over_cell g3
      have hnext := any_take_next (p := fun y => clashB ⟨owner, key, write, false⟩ y) hx
      have HN : Hid ((!(xs.take (k + 1)).any fun y => clashB ⟨owner, key, write, false⟩ y) = (gk && !clashB ⟨owner, key, write, false⟩ x)) := by show _ = _; rw [hnext, Bool.not_or, hgk]
      have hcl := fun e => l36Clash_any x ⟨owner, key, write, gk⟩ (over wr e)
      have hsame : clashB x ⟨owner, key, write, gk⟩ = clashB ⟨owner, key, write, false⟩ x := (clashB_symm _ _).trans rfl
      rw [hsame] at hcl
      obtain ⟨cl, hcl'⟩ : ∃ cl, clashB ⟨owner, key, write, false⟩ x = cl := ⟨_, rfl⟩
      rw [hcl'] at hcl
      have HN2 := HN.out
      rw [hcl'] at HN2
      have HNN := Lib.hid HN2
      have HF := Lib.hid hcl
      have HBLK := Lib.hid hblk
      have G0 := Lib.hid g0
      have G1 := Lib.hid g1
      have G2 := Lib.hid g2
      have G3 := Lib.hid g3
      clear hx hcell hcc hgk hnext HN hsame hcl hcl' HN2 hblk g0 g1 g2 g3
      go_wp2
      refine wp_region_over (by kernel_rfl) (by kernel_rfl) ?_
      cases cl with
      | true =>
        repeat (go_big_quiet_step ((go_at_call 65; exact quiet_ext (HF.out _))))
        refine wpQuiet_nil ?_
        intro w3 hb3
        have B3 := HBLK.out.ext hb3
        have f3 : w3.frozen? ⟨w1.heap.size, 3, none⟩ = false := B3.free _
        have s3 : w3.cell? ⟨w1.heap.size, 3, none⟩ = some (.bool gk) := hb3.cell G3.out
        have hc : ∀ j u, j ≠ 3 → w3.cell? ⟨w1.heap.size, j, none⟩ = some u → (w3.setCell ⟨w1.heap.size, 3, none⟩ (.bool false)).cell? ⟨w1.heap.size, j, none⟩ = some u := fun j u hj hu => by
          rw [cell_set_other]
          · exact hu
          · intro e'
            injection e' with _ e' _
            omega
        have HCC := Lib.hid hc
        have HBB := Lib.hid B3
        clear hc B3
        go_wp2
        go_roundw
        case rel => exact ⟨(hb.trans hb3).setCell (Nat.le_refl _) _, HCC.out 0 _ (by omega) (hb3.cell G0.out), HCC.out 1 _ (by omega) (hb3.cell G1.out), HCC.out 2 _ (by omega) (hb3.cell G2.out), HBB.out.set _ _, k + 1, by omega, by go_num, by rw [HNN.out, Bool.not_true, Bool.and_false]; exact cell_set_self HBB.out (by omega) _⟩
        case measure => simp [intOf]; omega
      | false =>
        repeat (go_big_quiet_step ((go_at_call 65; exact quiet_ext (HF.out _))))
        refine wpQuiet_nil ?_
        intro w3 hb3
        go_wp2
        go_roundw
        case rel => exact ⟨hb.trans hb3, hb3.cell G0.out, hb3.cell G1.out, hb3.cell G2.out, HBLK.out.ext hb3, k + 1, by omega, by go_num, by rw [HNN.out, Bool.not_false, Bool.and_true]; exact hb3.cell G3.out⟩
        case measure => simp [intOf]; omega
    · obtain rfl : k = xs.length := by omega
      rw [List.take_length] at g3
      obtain ⟨g, hg⟩ : ∃ g, (!xs.any fun y => clashB ⟨owner, key, write, false⟩ y) = g := ⟨_, rfl⟩
      rw [hg] at g3
      have hRR := HRR.out
      rw [askL_yes HV.out hg] at hRR
      have HRR2 := Lib.hid hRR
      have HCELL := Lib.hid (And.intro g0 (And.intro g1 (And.intro g2 g3)))
      have HE0 := Lib.hid (b1.trans hb)
      clear hg hRR HRR g0 g1 g2 g3 hblk
      obtain ⟨W0, rfl⟩ : ∃ W0 : World, W0 = wr := ⟨_, rfl⟩
      go_wp2_with fail
      refine wp_region_typedL [34, 35, 36, 37, 38, 39, 12] (by kernel_rfl) (by kernel_rfl) (by kernel_rfl) (fun _ W => Ext W0 W)
        (fun i L u W => match i with
          | 0 => L.getD 2 true = false → ∃ g', u = .slice (some ⟨g', 0, none⟩) 0 0 ∧ W0.heap.size ≤ g' ∧ W.heap[g']? = some (.cells #[] 83 (0, 0))
          | 1 => u = .slice A xs.length c
          | 2 => L.getD 5 true = false → Row 83 4 encHold W0.heap.size W u xs
          | 3 => u = .agg #[.int .i64 owner, .int .i64 key, .bool write, .bool g]
          | 4 => L.getD 5 true = false → SlOf 4 encHold W u [⟨owner, key, write, g⟩]
          | 5 => L.getD 2 true = true ∧ Row 83 4 encHold W0.heap.size W u (xs ++ [⟨owner, key, write, g⟩])
          | _ => L.getD 2 true = true ∧ L.getD 5 true = true ∧ Row 83 4 encHold W0.heap.size W u (xs ++ [⟨owner, key, write, g⟩]))
        (fun i W W' => (i ≠ 2 → i ≠ 5 → Ext W W') ∧ (i = 2 → ∀ u x, SlOf 4 encHold W u [x] → SlOf 4 encHold W' u [x])) ((Ext.refl _).drew) ?_ ?_ ?_
      · intro i j L u W W' hij hi hsz hLi hdl hS hT
        by_cases e : i = 2
        · subst e
          have hself : (L.setIfInBounds 2 true).getD 2 true = true := getD_set_self true (by omega)
          have hne : (L.setIfInBounds 2 true).getD 5 true = L.getD 5 true := getD_set_ne true (by omega)
          match j, hT with
          | 0, _ => exact fun hL => by rw [hself] at hL; cases hL
          | 1, hT => exact hT
          | 2, _ => exact absurd rfl hij
          | 3, hT => exact hT
          | 4, hT => exact fun hL => hS.2 rfl _ _ (hT (by rw [← hne]; exact hL))
          | 5, hT => have := hT.1; rw [hLi] at this; cases this
          | _ + 6, hT => have := hT.1; rw [hLi] at this; cases this
        · by_cases e5 : i = 5
          · subst e5
            have hself : (L.setIfInBounds 5 true).getD 5 true = true := getD_set_self true (by omega)
            have hne : (L.setIfInBounds 5 true).getD 2 true = L.getD 2 true := getD_set_ne true (by omega)
            have hL2 := hdl _ rfl { on := 2, ground := .data } (by simp) rfl
            match j, hT with
            | 0, _ => exact fun hL => by rw [hne] at hL; simp only at hL2; rw [hL2] at hL; cases hL
            | 1, hT => exact hT
            | 2, _ => exact fun hL => by rw [hself] at hL; cases hL
            | 3, hT => exact hT
            | 4, _ => exact fun hL => by rw [hself] at hL; cases hL
            | 5, _ => exact absurd rfl hij
            | _ + 6, hT => have := hT.2.1; rw [hLi] at this; cases this
          · have hx := hS.1 e e5
            have hne2 : (L.setIfInBounds i true).getD 2 true = L.getD 2 true := getD_set_ne true e
            have hne5 : (L.setIfInBounds i true).getD 5 true = L.getD 5 true := getD_set_ne true e5
            match j, hT with
            | 0, hT => exact fun hL => let ⟨g', h1, h2, h3⟩ := hT (by rw [← hne2]; exact hL); ⟨g', h1, h2, (Below.block hx g' (Array.getElem?_eq_some_iff.1 h3).1).trans h3⟩
            | 1, hT => exact hT
            | 2, hT => exact fun hL => (hT (by rw [← hne5]; exact hL)).ext hx
            | 3, hT => exact hT
            | 4, hT => exact fun hL => (hT (by rw [← hne5]; exact hL)).ext hx
            | 5, hT => exact ⟨by rw [hne2]; exact hT.1, hT.2.ext hx⟩
            | _ + 6, hT => exact ⟨by rw [hne2]; exact hT.1, by rw [hne5]; exact hT.2.1, hT.2.2.ext hx⟩
      · intro i o ho a n W L hn hsz hLi hdl hR hrest hdeps
        match i, ho with
        | 0, ho =>
          obtain rfl := Option.some.inj ho
          refine y_run (v := .slice (some ⟨W.heap.size, 0, none⟩) 0 0) (w' := W.alloc (.cells #[] 83)) ?_ ⟨fun _ _ => ⟨_, rfl, hR.size, heap_alloc_new W _⟩, (fun h => by cases h), hR.alloc _, fun _ _ => (Ext.refl _).alloc _, fun h => by cases h⟩
          go_simp
        | 1, ho =>
          obtain rfl := Option.some.inj ho
          have h0 : a.tmps.getD 0 undef = .slice A xs.length c := hrest 0 (by decide)
          exact y_move rfl ⟨fun _ => h0, (fun h => by cases h), hR, fun _ _ => Ext.refl _, fun h => by cases h⟩
        | 2, ho =>
          obtain rfl := Option.some.inj ho
          obtain ⟨g', e0, hg', hheap⟩ := hdeps 0 _ 34 ⟨{ on := 0, ground := .data }, by simp, rfl, rfl⟩ rfl rfl hLi
          have e1 : a.tmps.getD 35 undef = .slice A xs.length c := hdeps 1 _ 35 ⟨{ on := 1, ground := .data }, by simp, rfl, rfl⟩ rfl rfl
          have hrow0 : Row 83 4 encHold W0.heap.size W (.slice (some ⟨g', 0, none⟩) 0 0) ([] : List Hold) := ⟨by simp, .inr ⟨g', 0, #[], rfl, hg', hheap, Nat.le_refl _, by simp [maxLen], by simp, by simp⟩⟩
          obtain ⟨v', W', hrun, hrow', hgrow⟩ := run_cat (P := Tryd.prog) (t := 46) (ty := 46) (e := 83) Tryd.underlying46 cinfo_HoldA rfl (by omega) hrow0 (H.out.ext (HE0.out.trans hR)) (fun x _ j => one_HoldA x j) (by simp; omega) (by omega) hR.size
          rw [List.nil_append] at hrow'
          have hxt := Ext.grown hR hgrow hrow0.block
          exact y_append rfl e0 e1 ⟨v', W', hrun, fun _ _ => hrow', (fun h => by cases h), hxt, fun hne => absurd rfl hne, fun _ u x hu => sl_grown hheap hgrow hgrow.size hu⟩
        | 3, ho =>
          obtain rfl := Option.some.inj ho
          have h0 : a.tmps.getD 10 undef = .pointer (some ⟨w1.heap.size, 0, none⟩) := hrest 10 (by decide)
          have c0 := hR.cell HCELL.out.1
          have c1 := hR.cell HCELL.out.2.1
          have c2 := hR.cell HCELL.out.2.2.1
          have c3 := hR.cell HCELL.out.2.2.2
          refine y_run (v := .agg #[.int .i64 owner, .int .i64 key, .bool write, .bool g]) (w' := W) ?_ ⟨fun _ => rfl, (fun h => by cases h), hR, fun _ _ => Ext.refl _, fun h => by cases h⟩
          simp only [execOp, Act.eval, h0]
          go_simp
        | 4, ho =>
          obtain rfl := Option.some.inj ho
          have q2 : a.tmps.getD 37 undef = .agg #[.int .i64 owner, .int .i64 key, .bool write, .bool g] := hdeps 3 _ 37 ⟨{ on := 3, ground := .data }, by simp, rfl, rfl⟩ rfl rfl
          refine y_run (v := .slice (some ⟨W.heap.size, 0, none⟩) 1 1) (w' := W.alloc (.cells #[.int .i64 owner, .int .i64 key, .bool write, .bool g] 83)) ?_ ⟨fun _ _ => sl_hold _ _ _ _ _ _, (fun h => by cases h), hR.alloc _, fun _ _ => (Ext.refl _).alloc _, fun h => by cases h⟩
          simp only [Array.getD_eq_getD_getElem?] at q2
          go_simp
        | 5, ho =>
          obtain rfl := Option.some.inj ho
          have q1 := hdeps 2 _ 36 ⟨{ on := 2, ground := .data }, by simp, rfl, rfl⟩ rfl rfl hLi
          have q3 := hdeps 4 _ 38 ⟨{ on := 4, ground := .data }, by simp, rfl, rfl⟩ rfl rfl hLi
          have hL2 := hdl { on := 2, ground := .data } (by simp) rfl
          obtain ⟨A', c', hA', _⟩ := id q3
          rw [hA'] at q3
          obtain ⟨v', W', hrun, hrow', hgrow⟩ := run_cat (P := Tryd.prog) (t := 46) (ty := 46) (e := 83) Tryd.underlying46 cinfo_HoldA rfl (by omega) q1 q3 (fun x _ j => one_HoldA x j) (by simp; omega) (by omega) hR.size
          exact y_append rfl rfl hA' ⟨v', W', hrun, fun _ => ⟨by rw [getD_set_ne true (by omega)]; exact hL2, hrow'⟩, (fun h => by cases h), Ext.grown hR hgrow q1.block, fun _ hne => absurd rfl hne, fun h => by cases h⟩
        | 6, ho =>
          obtain rfl := Option.some.inj ho
          obtain ⟨q4, q5⟩ := hdeps 5 _ 39 ⟨{ on := 5, ground := .data }, by simp, rfl, rfl⟩ rfl rfl
          have hL5 := hdl { on := 5, ground := .data } (by simp) rfl
          exact y_assign rfl ⟨fun _ => ⟨by rw [getD_set_ne true (by omega)]; exact q4, by rw [getD_set_ne true (by omega)]; exact hL5, q5⟩, (fun h => by cases h), hR, fun _ _ => Ext.refl _, fun h => by cases h⟩
        | _ + 7, ho => cases ho
      · intro a W hR hsz hdf hrest htyp hbare
        obtain ⟨x34, e34⟩ : ∃ x, a.tmps.getD 34 undef = x := ⟨_, rfl⟩
        obtain ⟨x35, e35⟩ : ∃ x, a.tmps.getD 35 undef = x := ⟨_, rfl⟩
        obtain ⟨x36, e36⟩ : ∃ x, a.tmps.getD 36 undef = x := ⟨_, rfl⟩
        obtain ⟨x37, e37⟩ : ∃ x, a.tmps.getD 37 undef = x := ⟨_, rfl⟩
        obtain ⟨x38, e38⟩ : ∃ x, a.tmps.getD 38 undef = x := ⟨_, rfl⟩
        obtain ⟨x39, e39⟩ : ∃ x, a.tmps.getD 39 undef = x := ⟨_, rfl⟩
        obtain ⟨x12, e12⟩ : ∃ x, a.tmps.getD 12 undef = x := ⟨_, rfl⟩
        have hrow := (htyp 6 _ 12 rfl rfl).2.2
        rw [e12] at hrow
        have HROW := Lib.hid hrow
        have HEW := Lib.hid (HE0.out.trans hR)
        have hz0 := HE0.out.size
        have ha := act_puts hsz hdf hrest [(34, x34), (35, x35), (36, x36), (37, x37), (38, x38), (39, x39), (12, x12)] rfl ⟨by decide, fun d hd => (by decide : ∀ d ∈ ([34, 35, 36, 37, 38, 39, 12] : List Nat), d < 47) d hd⟩ (by simp only [List.forall_mem_cons]; exact ⟨e34, e35, e36, e37, e38, e39, e12, fun _ h => by cases h⟩)
        clear hsz hdf hrest htyp hbare e34 e35 e36 e37 e38 e39 e12 hrow hR
        subst ha
        simp only [List.foldl_cons, List.foldl_nil, Act.put, List.setIfInBounds_toArray, List.set_cons_zero, List.set_cons_succ]
        obtain ⟨ok, hok⟩ : ∃ ok, holdsOk (xs ++ [⟨owner, key, write, g⟩]) = ok := ⟨_, rfl⟩
        have HOK := Lib.hid hok
        have hRR := HRR2.out
        rw [hok] at hRR
        clear hok HRR2
        have HRR3 := Lib.hid hRR
        clear hRR
        go_wp2_with fail
        refine (spec_HoldsValid _ HROW.out.cell.1 (by simp; omega)).mono ?_
        rw [HOK.out]
        rintro e w3 ⟨rfl, b3⟩
        have hRR := HRR3.out
        clear HRR3
        have HC3 := Lib.hid (HROW.out.ext b3)
        cases ok with
        | false =>
          obtain rfl : (xs, false) = R := by rw [← hRR]; rfl
          clear hRR HC3
          have hrowN : Row 83 4 encHold w3.heap.size (w3.alloc (.cells #[] 83)) (.slice (some ⟨w3.heap.size, 0, none⟩) 0 0) ([] : List Hold) := World.ownsRow_made w3 #[] 0 (Nat.le_refl _) (by simp [maxLen]) (by simp)
          obtain ⟨v', W', hrun, hrow', hgrow⟩ := run_cat (P := Tryd.prog) (t := 46) (ty := 46) (e := 83) Tryd.underlying46 cinfo_HoldA rfl (by omega) hrowN (H.out.ext ((HEW.out.trans b3).alloc _)) (fun x _ j => one_HoldA x j) (by simp; omega) (by omega) (by simp)
          rw [List.nil_append] at hrow'
          have Hrun := Lib.hid hrun
          have Hc := Lib.hid hrow'
          have hxt := Lib.hid (Ext.grown (((Ext.refl w3).alloc _)) hgrow hrowN.block)
          clear hrun hrow' hgrow hrowN
          go_wp2_with (at_builtin; refine wpList_append_run rfl rfl rfl rfl Hrun.out ?_)
          go_returns
          exact ⟨_, rfl, Row.low Hc.out (HEW.out.trans b3).size, (HEW.out.trans b3).trans hxt.out⟩
        | true =>
          obtain rfl : (xs ++ [⟨owner, key, write, g⟩], true) = R := by rw [← hRR]; rfl
          clear hRR
          go_wp2
          go_returns
          exact ⟨_, rfl, Row.low HC3.out hz0, HEW.out.trans b3⟩
theorem spec_AskLock {v : Value} {xs : List Hold} (owner key : Int) (write : Bool) (w : World) (h : SlOf 4 encHold w v xs) (hlen : xs.length ≤ 2097152) :
    Calls Tryd.prog 79 #[v, .int .i64 owner, .int .i64 key, .bool write] w (RetOf2 4 encHold w (askL xs owner key write)) :=
  (spec_AskLock_row owner key write w h hlen).mono fun _ _ ⟨v', he, hr, hb⟩ => ⟨v', he, hr.cell.1, hr.cell.2, hb⟩
end Go.Proofs.YtbbfdnmlfjdidaaDoor
