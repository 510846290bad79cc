/- Who waits for whom: plain functions; LockWaits of the reference. -/
import Derived.Test.YtbbfdnmlfjdidaaDoorHold
import Derived.Test.YtbbfdnmlfjdidaaDoorSetPut
import Derived.Test.YtbbfdnmlfjdidaaDoorLists
namespace Go.Proofs.YtbbfdnmlfjdidaaDoor
open Go.RowKit
set_option maxRecDepth 8000

/-- The owners of the first j locks that clash with x, put to a set. -/
def rowTo (xs : List Hold) (x : Hold) (R : Nat) : Nat → Nat
  | 0 => R
  | j + 1 => match xs[j]? with
    | some y => if clashB y x = true then rowTo xs x R j ||| 2 ^ y.owner.toNat else rowTo xs x R j
    | none => rowTo xs x R j
/-- For whom an owner waits, by the first k locks. -/
def waitsTo (xs : List Hold) (o : Int) : Nat → Nat
  | 0 => 0
  | k + 1 => match xs[k]? with
    | some x => if x.owner = o ∧ x.got = false then rowTo xs x (waitsTo xs o k) k else waitsTo xs o k
    | none => waitsTo xs o k
theorem rowTo_yes {xs : List Hold} {x y : Hold} {R j : Nat} (hy : xs[j]? = some y) (h : clashB y x = true) : rowTo xs x R (j + 1) = rowTo xs x R j ||| 2 ^ y.owner.toNat := by rw [rowTo, hy]; simp only; rw [if_pos h]
theorem rowTo_no {xs : List Hold} {x y : Hold} {R j : Nat} (hy : xs[j]? = some y) (h : clashB y x = false) : rowTo xs x R (j + 1) = rowTo xs x R j := by rw [rowTo, hy]; simp only; rw [if_neg (by simp [h])]
theorem waitsTo_yes {xs : List Hold} {x : Hold} {o : Int} {k : Nat} (hx : xs[k]? = some x) (h : x.owner = o) (h' : x.got = false) : waitsTo xs o (k + 1) = rowTo xs x (waitsTo xs o k) k := by rw [waitsTo, hx]; simp only; rw [if_pos ⟨h, h'⟩]
theorem waitsTo_no {xs : List Hold} {x : Hold} {o : Int} {k : Nat} (hx : xs[k]? = some x) (h : ¬ (x.owner = o ∧ x.got = false)) : waitsTo xs o (k + 1) = waitsTo xs o k := by rw [waitsTo, hx]; simp only; rw [if_neg h]
theorem holds_owner {xs : List Hold} (h : holdsOk xs = true) {k : Nat} {x : Hold} (hx : xs[k]? = some x) : 0 ≤ x.owner ∧ x.owner ≤ 4 := by
  have h1 := (allGood_true.1 h).1 k (List.getElem?_eq_some_iff.1 hx).1
  rw [goodHold_at hx, Bool.and_eq_true, inB_true] at h1
  exact h1.1
theorem rowTo_lt {xs : List Hold} {x : Hold} {R : Nat} (h : holdsOk xs = true) (hR : R < 2 ^ 5) (j : Nat) : rowTo xs x R j < 2 ^ 5 := by
  induction j with
  | zero => exact hR
  | succ j ih =>
    rw [rowTo]
    cases hy : xs[j]? with
    | none => exact ih
    | some y =>
      simp only
      split
      · have := holds_owner h hy
        exact Nat.or_lt_two_pow ih (Nat.pow_lt_pow_right (by omega) (by omega))
      · exact ih
theorem waitsTo_lt {xs : List Hold} {o : Int} (h : holdsOk xs = true) (k : Nat) : waitsTo xs o k < 2 ^ 5 := by
  induction k with
  | zero => simp [waitsTo]
  | succ k ih =>
    rw [waitsTo]
    cases hx : xs[k]? with
    | none => exact ih
    | some x =>
      simp only
      split
      · exact rowTo_lt h ih k
      · exact ih
/-- What LockWaits returns. -/
def waitsLL (xs : List Hold) : List (List Int) := if holdsOk xs = true then (List.range 5).map fun (o : Nat) => membersL (waitsTo xs (o : Int) xs.length) else []
theorem waitsLL_len (xs : List Hold) : (waitsLL xs).length ≤ 5 := by unfold waitsLL; split <;> simp
theorem waitsLL_in (xs : List Hold) : ∀ ys ∈ waitsLL xs, ys.length ≤ 7 := by
  intro ys hys
  unfold waitsLL at hys
  split at hys
  · obtain ⟨o, _, rfl⟩ := List.mem_map.1 hys
    exact membersL_len _
  · cases hys
theorem ownV (u : Value) (j : Nat) (A : Option Addr) (n c : Nat) (h : u = .slice A n c) : (one encV u j).oneCell' = true := by subst h; rfl
theorem winfo_L : (Tryd.prog.info? 25).map (fun i => (i.zero, i.size, i.bytes)) = some (some (.slice none 0 0), 1, 24) := by kernel_rfl
/-- One more list at the end of a list of lists: append. -/
theorem push_LL {base : Nat} {w0 w : World} {v u : Value} {us : List Value} {xss : List (List Int)} {xs : List Int} (ty : TypeId) (h0 : LLb 25 3 base w0 v us xss) (hx : Ext w0 w) (hu : Row 3 1 (one encI) w0.heap.size w u xs) (hb : base ≤ w0.heap.size) (hn : us.length ≤ 1000) :
    ∃ v' w', (Builtin.append_ #[48, 48] ty #[v, .slice (some ⟨w.heap.size, 0, none⟩) 1 1]).run Tryd.prog (w.alloc (.cells #[u] 25)) = .ok v' w' ∧ LLb 25 3 base w' v' (us ++ [u]) (xss ++ [xs]) ∧ ∀ W, Ext W w0 → W.heap.size ≤ base → Ext W w' := by
  have hbx := hx.size
  obtain ⟨A, c, he, _⟩ := id hu.cell.1
  obtain ⟨v', w', hrun, hrow, hg⟩ := run_push (P := Tryd.prog) (t := 48) (ty := ty) (e := 25) Tryd.underlying48 winfo_L rfl (by omega) (h0.ext hx).2.1 u (fun j => ownV u j _ _ _ he) (by omega) (by omega) (by omega)
  exact ⟨v', w', hrun, h0.push (by decide) (hx.trans ((Ext.refl _).alloc _)) (hu.ext ((Ext.refl _).alloc _)) hb hrow hg, fun W hW hl => Ext.grown ((hW.trans hx).alloc _) hg (fun k hk => Nat.le_trans hl (h0.2.1.block k hk))⟩
set_option maxHeartbeats 8000000 in
theorem spec_LockWaits {v : Value} {xs : List Hold} (w : World) (h : SlOf 4 encHold w v xs) (hlen : xs.length ≤ 2097152) :
    Calls Tryd.prog 32 #[v] w fun e w' => ∃ v' us, e = .returned v' ∧ LLr w' v' us (waitsLL xs) ∧ LLo w.heap.size w' v' us ∧ Ext w w' := by
  have H := Lib.hid h
  obtain ⟨A, c, rfl, hc0⟩ := id h
  have HC := Lib.hid hc0
  clear h hc0
  by_cases hv : holdsOk xs = true
  case neg =>
    have hf : Hid (waitsLL xs = []) := by show _ = _; rw [waitsLL, if_neg hv]
    rw [hf.out]
    simp only [Bool.not_eq_true] at hv
    have HB := Lib.hid (LLb.nil (E := 25) (I := 3) w)
    go_enter Tryd.func32, Tryd.ntmps32
    go_wp2
    go_loopw [3, 4] (fun o i wr => Ext (w.alloc (.cells #[] 25)) wr ∧ i = .int .i64 0 ∧ o = .slice (some ⟨w.heap.size, 0, none⟩) 0 0) (fun _ _ _ => 0)
    case atStart => exact ⟨Ext.refl _, rfl, rfl⟩
    case round =>
      obtain ⟨hb, rfl, rfl⟩ := hrel
      go_wp2_with fail
      refine (spec_HoldsValid _ (H.out.ext (((Ext.refl _).alloc _).trans hb)) hlen).mono ?_
      rw [hv]
      rintro e w1 ⟨rfl, b1⟩
      go_wp2
      go_returns
      have hd := ((HB.out.ext hb).ext b1).done (by decide)
      exact ⟨_, _, rfl, hd.1, hd.2, (((Ext.refl _).alloc _).trans hb).trans b1⟩
  have hl16 : xs.length ≤ 16 := (allGood_true.1 hv).2
  have hfin : Hid (waitsLL xs = (List.range 5).map fun (o : Nat) => membersL (waitsTo xs (o : Int) xs.length)) := by show _ = _; rw [waitsLL, if_pos hv]
  rw [hfin.out]
  have HV := Lib.hid hv
  clear hv hfin
  have HB0 := Lib.hid (LLb.nil (E := 25) (I := 3) w)
  go_enter Tryd.func32, Tryd.ntmps32
  go_wp2
  go_loopw [3, 4] (fun o i wr => Ext w wr ∧ ∃ (q : Nat) (us : List Value), q ≤ 5 ∧ i = .int .i64 q ∧ Hid (LLb 25 3 w.heap.size wr o us ((List.range q).map fun (o : Nat) => membersL (waitsTo xs (o : Int) xs.length)))) (fun _ i _ => 5 - (intOf i).toNat)
  case atStart => exact ⟨(Ext.refl _).alloc _, 0, [], by omega, rfl, HB0.out⟩
  case round =>
    obtain ⟨hb, q, us, hq, rfl, HL⟩ := hrel
    by_cases hq5 : q < 5
    · go_wp2_with fail
      refine (spec_HoldsValid _ (H.out.ext hb) hlen).mono ?_
      rw [HV.out]
      rintro e w1 ⟨rfl, b1⟩
      have HL1 := Lib.hid (HL.out.ext b1)
      have hb1 := hb.trans b1
      clear HL b1 hb HB0
      have hr0 : Row 3 1 (one encI) w1.heap.size (w1.alloc (.cells #[] 3)) (.slice (some ⟨w1.heap.size, 0, none⟩) 0 0) ([] : List Int) := World.ownsRow_made w1 #[] 0 (Nat.le_refl _) (by simp [maxLen]) (by simp)
      have HR0 := Lib.hid hr0
      clear hr0
      go_wp2
      go_loopw [5, 6] (fun s i wr => Ext w1 wr ∧ ∃ k : Nat, k ≤ xs.length ∧ i = .int .i64 k ∧ Hid (Row 3 1 (one encI) w1.heap.size wr s (membersL (waitsTo xs (q : Int) k)))) (fun _ i _ => xs.length - (intOf i).toNat)
      case atStart => exact ⟨(Ext.refl _).alloc _, 0, Nat.zero_le _, rfl, by rw [show waitsTo xs (q : Int) 0 = 0 from rfl, membersL_zero]; exact HR0.out⟩
      case round =>
        clear HR0
        obtain ⟨hb2, k, hk, rfl, HR⟩ := hrel
        by_cases hlt : k < xs.length
        · obtain ⟨b, off, rfl, hbl, hcell⟩ := HC.out (by omega)
          obtain ⟨x, hx⟩ := at_some hlt
          have c0 := hb2.cell (hb1.cell (hcell k x hx 0 (by omega)))
          have c3 := hb2.cell (hb1.cell (hcell k x hx 3 (by omega)))
          simp only [encHold, Nat.add_zero] at c0 c3
          have HCELL := Lib.hid hcell
          have Hx := Lib.hid hx
          have hown := holds_owner HV.out hx
          obtain ⟨wo, rfl⟩ : ∃ wo : World, wo = wr := ⟨_, rfl⟩
          clear hcell hx HC
          by_cases hcond : x.owner = (q : Int) ∧ x.got = false
          · obtain ⟨ho, hg⟩ := hcond
            have h1 : (x.owner == (q : Int)) = true := by simp [ho]
            have hnext := Lib.hid (waitsTo_yes Hx.out ho hg)
            rw [hg] at c3
            have Hg := Lib.hid hg
            clear ho hg
            go_wp2
            go_loopw [5, 7] (fun s i wr => Ext wo wr ∧ ∃ j : Nat, j ≤ k ∧ i = .int .i64 j ∧ Hid (Row 3 1 (one encI) w1.heap.size wr s (membersL (rowTo xs x (waitsTo xs (q : Int) k) j)))) (fun _ i _ => k - (intOf i).toNat)
            case atStart => exact ⟨Ext.refl _, 0, Nat.zero_le _, rfl, HR.out⟩
            case round =>
              clear HR
              obtain ⟨hb3, j, hj, rfl, HJ⟩ := hrel
              by_cases hjk : j < k
              · obtain ⟨y, hy⟩ := at_some (show j < xs.length by omega)
                have hyo := holds_owner HV.out hy
                have hall := (hb1.trans hb2).trans hb3
                have d0 : ∀ e, (over wr e).cell? ⟨b, off + j * 4, none⟩ = some (.int .i64 y.owner) := over_cell (hall.cell (HCELL.out j y hy 0 (by omega)))
                have d1 : ∀ e, (over wr e).cell? ⟨b, off + j * 4 + 1, none⟩ = some (.int .i64 y.key) := over_cell (hall.cell (HCELL.out j y hy 1 (by omega)))
                have d2 : ∀ e, (over wr e).cell? ⟨b, off + j * 4 + 2, none⟩ = some (.bool y.write) := over_cell (hall.cell (HCELL.out j y hy 2 (by omega)))
                have d3 : ∀ e, (over wr e).cell? ⟨b, off + j * 4 + 3, none⟩ = some (.bool y.got) := over_cell (hall.cell (HCELL.out j y hy 3 (by omega)))
                have e0 : ∀ e, (over wr e).cell? ⟨b, off + k * 4, none⟩ = some (.int .i64 x.owner) := over_cell (hall.cell (HCELL.out k x Hx.out 0 (by omega)))
                have e1 : ∀ e, (over wr e).cell? ⟨b, off + k * 4 + 1, none⟩ = some (.int .i64 x.key) := over_cell (hall.cell (HCELL.out k x Hx.out 1 (by omega)))
                have e2 : ∀ e, (over wr e).cell? ⟨b, off + k * 4 + 2, none⟩ = some (.bool x.write) := over_cell (hall.cell (HCELL.out k x Hx.out 2 (by omega)))
                have e3 : ∀ e, (over wr e).cell? ⟨b, off + k * 4 + 3, none⟩ = some (.bool x.got) := over_cell (hall.cell (HCELL.out k x Hx.out 3 (by omega)))
                rw [Hg.out] at e3
                have z0 := hb3.cell c0
                have z3 := hb3.cell c3
                have y0 := Lib.hid (hall.cell (HCELL.out j y hy 0 (by omega)))
                have hcl := fun e => l36Clash_any y x (over wr e)
                rw [Hg.out] at hcl
                have Hy := Lib.hid hy
                clear hy hall c0 c3
                by_cases hcm : clashB y x = true
                · rw [hcm] at hcl
                  have HF := Lib.hid hcl
                  clear hcl
                  go_wp2
                  refine wp_region_over (by kernel_rfl) (by kernel_rfl) ?_
                  repeat (go_big_quiet_step ((go_at_call 65; exact quiet_ext (HF.out _))))
                  refine wpQuiet_nil ?_
                  intro w3 hb4
                  have p0 := hb4.cell y0.out
                  simp only [encHold, Nat.add_zero] at p0
                  have HJ4 := Lib.hid (HJ.out.ext hb4)
                  have hlen7 := membersL_len (rowTo xs x (waitsTo xs (q : Int) k) j)
                  obtain ⟨yo, hyo'⟩ := Int.eq_ofNat_of_zero_le hyo.1
                  have HYO := Lib.hid hyo'
                  clear hyo'
                  go_wp2_with fail
                  refine (l30Put_any _ _ HJ4.out.cell.1.to1 (by omega) HJ4.out.cap).mono ?_
                  rintro e w4 ⟨v', rfl, hrow, b4⟩
                  have hn : rowTo xs x (waitsTo xs (q : Int) k) (j + 1) = rowTo xs x (waitsTo xs (q : Int) k) j ||| 2 ^ yo := by rw [rowTo_yes Hy.out hcm, HYO.out]; rfl
                  rw [HYO.out, putL_members _ (by have := HYO.out; omega), ← hn] at hrow
                  have HROW := Lib.hid (Row.low hrow ((hb2.trans hb3).trans hb4).size)
                  clear hrow
                  go_wp2
                  go_roundw
                  case rel => exact ⟨(hb3.trans hb4).trans b4, j + 1, by omega, by go_num, HROW⟩
                  case measure => simp [intOf]; omega
                · simp only [Bool.not_eq_true] at hcm
                  rw [hcm] at hcl
                  have HF := Lib.hid hcl
                  clear hcl
                  have HN := Lib.hid (rowTo_no (R := waitsTo xs (q : Int) k) Hy.out hcm)
                  go_wp2
                  refine wp_region_over (by kernel_rfl) (by kernel_rfl) ?_
                  repeat (go_big_quiet_step ((go_at_call 65; exact quiet_ext (HF.out _))))
                  refine wpQuiet_nil ?_
                  intro w3 hb4
                  go_wp2
                  go_roundw
                  case rel => exact ⟨hb3.trans hb4, j + 1, by omega, by go_num, by rw [HN.out]; exact HJ.out.ext hb4⟩
                  case measure => simp [intOf]; omega
              · obtain rfl : j = k := by omega
                clear c0 c3
                go_wp2
                go_roundw
                case rel => exact ⟨hb2.trans hb3, j + 1, by omega, by go_num, by rw [hnext.out]; exact HJ.out⟩
                case measure => simp [intOf]; omega
          · have hnext := Lib.hid (waitsTo_no Hx.out hcond)
            have hsplit : (x.owner == (q : Int)) = false ∨ ((x.owner == (q : Int)) = true ∧ x.got = true) := by
              by_cases h1 : x.owner = (q : Int)
              · right
                refine ⟨by simp [h1], ?_⟩
                cases hg : x.got with
                | true => rfl
                | false => exact absurd ⟨h1, hg⟩ hcond
              · left; simp [h1]
            clear hcond
            go_wp2
            go_loopw [5, 7] (fun s i wr => Ext wo wr ∧ i = .int .i64 0 ∧ Hid (Row 3 1 (one encI) w1.heap.size wr s (membersL (waitsTo xs (q : Int) k)))) (fun _ _ _ => 0)
            case atStart => exact ⟨Ext.refl _, rfl, HR.out⟩
            case round =>
              clear HR
              obtain ⟨hb3, rfl, HR3⟩ := hrel
              have z0 := hb3.cell c0
              have z3 := hb3.cell c3
              clear c0 c3
              by_cases hk0 : 0 < k
              · rcases hsplit with h1 | ⟨h1, h2⟩
                · go_wp2
                  go_roundw
                  case rel => exact ⟨hb2.trans hb3, k + 1, by omega, by go_num, by rw [hnext.out]; exact HR3.out⟩
                  case measure => simp [intOf]; omega
                · rw [h2] at z3
                  clear h2
                  go_wp2
                  go_roundw
                  case rel => exact ⟨hb2.trans hb3, k + 1, by omega, by go_num, by rw [hnext.out]; exact HR3.out⟩
                  case measure => simp [intOf]; omega
              · clear hsplit
                go_wp2
                go_roundw
                case rel => exact ⟨hb2.trans hb3, k + 1, by omega, by go_num, by rw [hnext.out]; exact HR3.out⟩
                case measure => simp [intOf]; omega
        · obtain rfl : k = xs.length := by omega
          obtain ⟨Au, cu, rfl, _⟩ := id HR.out.cell.1
          have hun : us.length ≤ 5 := by have := HL1.out.1; simp at this; omega
          obtain ⟨v', w', hrun, hll, hext⟩ := push_LL (w0 := w1) 48 HL1.out hb2 HR.out hb1.size (by omega)
          have HRUN := Lib.hid hrun
          have HLL := Lib.hid hll
          clear hrun hll
          go_wp2_with (at_builtin; refine wpList_append_run rfl rfl rfl rfl HRUN.out ?_)
          go_roundw
          case rel => exact ⟨hext w hb1 (Nat.le_refl _), q + 1, _, by omega, by go_num, by rw [List.range_succ, List.map_append]; exact HLL.out⟩
          case measure => simp [intOf]; omega
    · obtain rfl : q = 5 := by omega
      have hd := Lib.hid (HL.out.done (by decide))
      go_wp2
      go_returns
      exact ⟨_, _, rfl, hd.out.1, hd.out.2, hb⟩
end Go.Proofs.YtbbfdnmlfjdidaaDoor
