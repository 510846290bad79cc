/- Stamps of keys: TouchKey, of the reference and of the program. -/
import Derived.Test.YtiggckhlbklngaaDoorTouch
import Derived.Test.YtiggckhlbklngaaDoorClone
import Derived.Test.YtiggckhlbklngaaDoorPut
namespace Go.Proofs.YtiggckhlbklngaaDoor
open Go.RowKit
set_option maxRecDepth 8000

theorem cinfo_TouchK : (Tryd.prog.info? 52).map (fun i => (i.zero, i.size, i.bytes)) = some (some (.agg #[.int .i64 0, .int .i64 0]), 2, 16) := by kernel_rfl
theorem one_TouchK (x : Touch) (j : Nat) : (encTouch x j).oneCell' = true := by
  first | rfl | (unfold encTouch; split <;> rfl)
/-- A key after an access, and whether that is not refused. -/
def touchB (x : Touch) (stamp : Int) (write : Bool) : Touch × Bool :=
  if stamp < x.write ∨ write = true ∧ stamp < x.read then (x, false) else if write then (⟨x.read, stamp⟩, true) else (⟨max x.read stamp, x.write⟩, true)
/-- What TouchKey returns. -/
def touchKeyL (xs : List Touch) (stamp key : Int) (write : Bool) : List Touch × Bool :=
  if touchesOk xs = true ∧ inB stamp 1 1000 = true ∧ inB key 0 2 = true then
    (match xs[key.toNat]? with | some x => (xs.set key.toNat (touchB x stamp write).1, (touchB x stamp write).2) | none => ([], false))
  else ([], false)
theorem touchKeyL_len (xs : List Touch) (stamp key : Int) (write : Bool) (h : xs.length ≤ 1048576) : (touchKeyL xs stamp key write).1.length ≤ 2097152 := by
  unfold touchKeyL
  split
  · cases xs[key.toNat]? with
    | none => simp
    | some x => simp; omega
  · simp
theorem touchesOk_at {xs : List Touch} (h : touchesOk xs = true) : xs.length = 3 ∧ ∀ x ∈ xs, (0 ≤ x.read ∧ x.read ≤ 1000) ∧ (0 ≤ x.write ∧ x.write ≤ 1000) := by
  rw [touchesOk, Bool.and_eq_true, decide_eq_true_eq, List.all_eq_true] at h
  refine ⟨h.1, fun x hx => ?_⟩
  have := h.2 x hx
  rw [gTouch, Bool.and_eq_true, inB_true, inB_true] at this
  exact this
theorem touchKeyL_yes {xs : List Touch} {stamp : Int} {q : Nat} {write : Bool} {x : Touch} (h1 : touchesOk xs = true) (h2 : inB stamp 1 1000 = true) (h3 : inB (q : Int) 0 2 = true) (hx : xs[q]? = some x) :
    touchKeyL xs stamp q write = (xs.set q (touchB x stamp write).1, (touchB x stamp write).2) := by
  rw [touchKeyL, if_pos ⟨h1, h2, h3⟩]
  simp [hx]
theorem set_same {α : Type} {xs : List α} {q : Nat} {x : α} (hx : xs[q]? = some x) : xs.set q x = xs := by
  obtain ⟨h, rfl⟩ := List.getElem?_eq_some_iff.1 hx
  exact List.set_getElem_self h

set_option maxHeartbeats 1000000 in
theorem touch_any (x : Touch) (stamp : Int) (write : Bool) (w : World) (h0 : 0 ≤ x.read ∧ x.read ≤ 1000) (h1 : 1 ≤ stamp ∧ stamp ≤ 1000) :
    Calls Tryd.prog 37 #[.agg #[.int .i64 x.read, .int .i64 x.write], .int .i64 stamp, .bool write] w fun e w' =>
      e = .returned (.tuple #[.agg #[.int .i64 (touchB x stamp write).1.read, .int .i64 (touchB x stamp write).1.write], .bool (touchB x stamp write).2]) ∧ Ext w w' := by
  obtain ⟨rd, wr_⟩ := x
  simp only at h0 ⊢
  by_cases c1 : stamp < wr_
  · have hf : Hid (touchB ⟨rd, wr_⟩ stamp write = (⟨rd, wr_⟩, false)) := by show _ = _; simp [touchB, c1]
    rw [hf.out]
    clear hf
    go_enter Tryd.func37, Tryd.ntmps37
    go_wp2
    go_returns
    exact ⟨rfl, (Ext.refl _).alloc _ |>.alloc _⟩
  · cases write with
    | true =>
      by_cases c2 : stamp < rd
      · have hf : Hid (touchB ⟨rd, wr_⟩ stamp true = (⟨rd, wr_⟩, false)) := by show _ = _; simp [touchB, c2]
        rw [hf.out]
        clear hf
        go_enter Tryd.func37, Tryd.ntmps37
        go_wp2
        go_returns
        exact ⟨rfl, (Ext.refl _).alloc _ |>.alloc _⟩
      · have hf : Hid (touchB ⟨rd, wr_⟩ stamp true = (⟨rd, stamp⟩, true)) := by show _ = _; simp [touchB, c1, c2]
        rw [hf.out]
        clear hf
        go_enter Tryd.func37, Tryd.ntmps37
        go_wp2
        go_returns
        exact ⟨rfl, by show Below _ _ _; go_grown⟩
    | false =>
      by_cases c2 : rd < stamp
      · have hf : Hid (touchB ⟨rd, wr_⟩ stamp false = (⟨stamp, wr_⟩, true)) := by show _ = _; simp [touchB, c1]; omega
        rw [hf.out]
        clear hf
        go_enter Tryd.func37, Tryd.ntmps37
        go_wp2
        go_returns
        exact ⟨rfl, by show Below _ _ _; go_grown⟩
      · have hf : Hid (touchB ⟨rd, wr_⟩ stamp false = (⟨rd, wr_⟩, true)) := by show _ = _; simp [touchB, c1]; omega
        rw [hf.out]
        clear hf
        go_enter Tryd.func37, Tryd.ntmps37
        go_wp2
        go_returns
        exact ⟨rfl, by show Below _ _ _; go_grown⟩
set_option maxHeartbeats 1000000 in
theorem spec_TouchKey {v : Value} {xs : List Touch} (stamp key : Int) (write : Bool) (w : World) (h : SlOf 2 encTouch w v xs) (hlen : xs.length ≤ 2097152) :
    Calls Tryd.prog 39 #[v, .int .i64 stamp, .int .i64 key, .bool write] w (RetOf2 2 encTouch w (touchKeyL xs stamp key write)) := by
  by_cases hv : touchesOk xs = true
  case neg =>
    have hf : Hid (touchKeyL xs stamp key write = ([], false)) := by show _ = _; rw [touchKeyL, if_neg (fun h => hv h.1)]
    rw [hf.out]
    simp only [Bool.not_eq_true] at hv
    go_enter Tryd.func39, Tryd.ntmps39
    go_wp2_with fail
    refine (spec_TouchesValid _ h hlen).mono ?_
    rw [hv]
    rintro e w1 ⟨rfl, b1⟩
    go_wp2
    go_returns
    exact ⟨_, rfl, SlOf.nil _ _ _ _ _, Own.nil _ _ _ _, by show Below _ _ _; exact Below.alloc b1 b1.size _⟩
  by_cases hs : inB stamp 1 1000 = true
  case neg =>
    have hf : Hid (touchKeyL xs stamp key write = ([], false)) := by show _ = _; rw [touchKeyL, if_neg (fun h => hs h.2.1)]
    rw [hf.out]
    simp only [Bool.not_eq_true] at hs
    go_enter Tryd.func39, Tryd.ntmps39
    go_wp2_with fail
    refine (spec_TouchesValid _ h hlen).mono ?_
    rw [hv]
    rintro e w1 ⟨rfl, b1⟩
    go_wp2_with ((go_at_call 38; refine (l1In_any _ _ _ _).mono ?_; rintro e w' ⟨rfl, rfl⟩))
    go_returns
    exact ⟨_, rfl, SlOf.nil _ _ _ _ _, Own.nil _ _ _ _, by show Below _ _ _; exact Below.alloc b1 b1.size _⟩
  by_cases hk : inB key 0 2 = true
  case neg =>
    have hf : Hid (touchKeyL xs stamp key write = ([], false)) := by show _ = _; rw [touchKeyL, if_neg (fun h => hk h.2.2)]
    rw [hf.out]
    simp only [Bool.not_eq_true] at hk
    go_enter Tryd.func39, Tryd.ntmps39
    go_wp2_with fail
    refine (spec_TouchesValid _ h hlen).mono ?_
    rw [hv]
    rintro e w1 ⟨rfl, b1⟩
    go_wp2_with ((go_at_call 38; refine (l1In_any _ _ _ _).mono ?_; rintro e w' ⟨rfl, rfl⟩))
    go_returns
    exact ⟨_, rfl, SlOf.nil _ _ _ _ _, Own.nil _ _ _ _, by show Below _ _ _; exact Below.alloc b1 b1.size _⟩
  have hs' := inB_true.1 hs
  have hk' := inB_true.1 hk
  have hok := touchesOk_at hv
  obtain ⟨q, rfl⟩ := Int.eq_ofNat_of_zero_le hk'.1
  have hq : q < xs.length := by omega
  obtain ⟨x, hx⟩ := at_some hq
  have hxr := (hok.2 x (List.mem_of_getElem? hx)).1
  rw [touchKeyL_yes hv hs hk hx]
  have H3 := Lib.hid hok.1
  have Hx := Lib.hid hx
  have H := Lib.hid h
  clear hok hx h
  go_enter Tryd.func39, Tryd.ntmps39
  go_wp2_with fail
  refine (spec_TouchesValid _ H.out hlen).mono ?_
  rw [hv]
  rintro e w1 ⟨rfl, b1⟩
  obtain ⟨A0, cc0, hv0, hc0⟩ := id (H.out.ext b1)
  obtain ⟨vb, voff, rfl, hvlt, hvcell⟩ := hc0 (by omega)
  subst hv0
  have hrow : Row 52 2 encTouch w1.heap.size (w1.alloc (.cells #[] 52)) (.slice (some ⟨w1.heap.size, 0, none⟩) 0 0) ([] : List Touch) := World.ownsRow_made w1 #[] 0 (Nat.le_refl _) (by simp [maxLen]) (by simp)
  obtain ⟨v', w2, hrun, hrow', hgrow⟩ := run_cat (P := Tryd.prog) (t := 60) (ty := 60) (e := 52) Tryd.underlying60 cinfo_TouchK rfl (by omega) hrow ((H.out.ext b1).ext ((Ext.refl w1).alloc (.cells #[] 52))) (fun x _ j => one_TouchK x j) (by simp; omega) (by omega) (by simp)
  have b2 : Ext w1 w2 := Ext.grown ((Ext.refl w1).alloc (.cells #[] 52)) hgrow (fun k hk => by simp [Value.ownBlock] at hk; omega)
  have hrc := Row.cell hrow'
  rw [List.nil_append] at hrc
  obtain ⟨s2, o2⟩ := hrc
  obtain ⟨A, c, rfl, hc⟩ := id s2
  obtain ⟨b, off, rfl, hlt, hcell⟩ := hc (by omega)
  have S2 := Lib.hid s2
  have O2 := Lib.hid (o2.mono b1.size)
  have c0 : w2.cell? ⟨b, off + q * 2, none⟩ = some (.int .i64 x.read) := hcell q x Hx.out 0 (by omega)
  have c1 : w2.cell? ⟨b, off + q * 2 + 1, none⟩ = some (.int .i64 x.write) := hcell q x Hx.out 1 (by omega)
  have d0 : w2.cell? ⟨vb, voff + q * 2, none⟩ = some (.int .i64 x.read) := b2.cell (hvcell q x Hx.out 0 (by omega))
  have d1 : w2.cell? ⟨vb, voff + q * 2 + 1, none⟩ = some (.int .i64 x.write) := b2.cell (hvcell q x Hx.out 1 (by omega))
  have f0 : w2.frozen? ⟨b, off + q * 2, none⟩ = false := O2.out.cell_free (by omega) _
  have f1 : w2.frozen? ⟨b, off + q * 2 + 1, none⟩ = false := O2.out.cell_free (by omega) _
  have B2 := Lib.hid (b1.trans b2)
  have Hrun := Lib.hid hrun
  clear hrun hrow hrow' hgrow s2 o2 hc hcell hc0 hvcell
  have hno : Hid (SlOf 2 encTouch w2 (.slice (some ⟨b, off, none⟩) xs.length c) (xs.set q x) ∧ Own w.heap.size w2 (.slice (some ⟨b, off, none⟩) xs.length c) ∧ Ext w w2) := by
    show _
    rw [set_same Hx.out]
    exact ⟨S2.out, O2.out, B2.out⟩
  have hrd : ∀ rd', Hid (SlOf 2 encTouch (w2.setCell ⟨b, off + q * 2, none⟩ (.int .i64 rd')) (.slice (some ⟨b, off, none⟩) xs.length c) (xs.set q ⟨rd', x.write⟩) ∧ Own w.heap.size (w2.setCell ⟨b, off + q * 2, none⟩ (.int .i64 rd')) (.slice (some ⟨b, off, none⟩) xs.length c) ∧ Ext w (w2.setCell ⟨b, off + q * 2, none⟩ (.int .i64 rd'))) := fun rd' =>
    put_cell (j := 0) S2.out O2.out B2.out (Nat.le_refl _) (by omega) Hx.out (by omega) ⟨rd', x.write⟩ (fun i hl hi => by match i with | 0 => exact absurd rfl hi | 1 => rfl | _ + 2 => omega)
  have hwr : ∀ wr', Hid (SlOf 2 encTouch (w2.setCell ⟨b, off + q * 2 + 1, none⟩ (.int .i64 wr')) (.slice (some ⟨b, off, none⟩) xs.length c) (xs.set q ⟨x.read, wr'⟩) ∧ Own w.heap.size (w2.setCell ⟨b, off + q * 2 + 1, none⟩ (.int .i64 wr')) (.slice (some ⟨b, off, none⟩) xs.length c) ∧ Ext w (w2.setCell ⟨b, off + q * 2 + 1, none⟩ (.int .i64 wr'))) := fun wr' =>
    put_cell (j := 1) S2.out O2.out B2.out (Nat.le_refl _) (by omega) Hx.out (by omega) ⟨x.read, wr'⟩ (fun i hl hi => by match i with | 0 => rfl | 1 => exact absurd rfl hi | _ + 2 => omega)
  obtain ⟨rd, wr_⟩ := x
  simp only at c0 c1 d0 d1 hno hrd hwr hxr
  by_cases c1 : stamp < wr_
  · have hf : Hid (touchB ⟨rd, wr_⟩ stamp write = (⟨rd, wr_⟩, false)) := by show _ = _; simp [touchB, c1]
    go_wp2_with (first | (go_at_call 38; refine (l1In_any _ _ _ _).mono ?_; rintro e w' ⟨rfl, rfl⟩) | (at_builtin; refine wpList_append_run rfl rfl rfl rfl Hrun.out ?_))
    go_returns
    rw [hf.out]
    exact ⟨_, rfl, hno.out.1, hno.out.2.1, hno.out.2.2⟩
  · cases write with
    | true =>
      by_cases c2 : stamp < rd
      · have hf : Hid (touchB ⟨rd, wr_⟩ stamp true = (⟨rd, wr_⟩, false)) := by show _ = _; simp [touchB, c1, c2]
        go_wp2_with (first | (go_at_call 38; refine (l1In_any _ _ _ _).mono ?_; rintro e w' ⟨rfl, rfl⟩) | (at_builtin; refine wpList_append_run rfl rfl rfl rfl Hrun.out ?_))
        go_returns
        rw [hf.out]
        exact ⟨_, rfl, hno.out.1, hno.out.2.1, hno.out.2.2⟩
      · have hf : Hid (touchB ⟨rd, wr_⟩ stamp true = (⟨rd, stamp⟩, true)) := by show _ = _; simp [touchB, c1, c2]
        go_wp2_with (first | (go_at_call 38; refine (l1In_any _ _ _ _).mono ?_; rintro e w' ⟨rfl, rfl⟩) | (at_builtin; refine wpList_append_run rfl rfl rfl rfl Hrun.out ?_))
        go_returns
        rw [hf.out]
        exact ⟨_, rfl, (hwr stamp).out.1, (hwr stamp).out.2.1, (hwr stamp).out.2.2⟩
    | false =>
      by_cases c2 : rd < stamp
      · have hf : Hid (touchB ⟨rd, wr_⟩ stamp false = (⟨stamp, wr_⟩, true)) := by show _ = _; simp [touchB, c1]; omega
        go_wp2_with (first | (go_at_call 38; refine (l1In_any _ _ _ _).mono ?_; rintro e w' ⟨rfl, rfl⟩) | (at_builtin; refine wpList_append_run rfl rfl rfl rfl Hrun.out ?_))
        go_returns
        rw [hf.out]
        exact ⟨_, rfl, (hrd stamp).out.1, (hrd stamp).out.2.1, (hrd stamp).out.2.2⟩
      · have hf : Hid (touchB ⟨rd, wr_⟩ stamp false = (⟨rd, wr_⟩, true)) := by show _ = _; simp [touchB, c1]; omega
        go_wp2_with (first | (go_at_call 38; refine (l1In_any _ _ _ _).mono ?_; rintro e w' ⟨rfl, rfl⟩) | (at_builtin; refine wpList_append_run rfl rfl rfl rfl Hrun.out ?_))
        go_returns
        rw [hf.out]
        exact ⟨_, rfl, (hrd rd).out.1, (hrd rd).out.2.1, (hrd rd).out.2.2⟩
end Go.Proofs.YtiggckhlbklngaaDoor
