/- Locks that are freed: FreeLocks, of the reference and of the program. -/
import Derived.Test.YtbbfdnmlfjdidaaDoorHold
import Derived.Test.YtbbfdnmlfjdidaaDoorClone
import Derived.Test.YtbbfdnmlfjdidaaDoorClipCap
namespace Go.Proofs.YtbbfdnmlfjdidaaDoor
open Go.RowKit

theorem cinfo_HoldF : (Tryd.prog.info? 83).map (fun i => (i.zero, i.size, i.bytes)) = some (some (.agg #[.int .i64 0, .int .i64 0, .bool false, .bool false]), 4, 24) := by kernel_rfl
theorem one_HoldF (x : Hold) (j : Nat) : (encHold x j).oneCell' = true := by
  first | rfl | (unfold encHold; split <;> rfl)
/-- What one lock of the old ones adds. -/
def freeStep (owner : Int) (acc : List Hold) (x : Hold) : List Hold :=
  if (x.owner == owner) = true then acc else acc ++ [⟨x.owner, x.key, x.write, x.got || !(acc.any fun y => clashB x y)⟩]
def freeFold (owner : Int) (xs : List Hold) : List Hold := xs.foldl (freeStep owner) []
/-- What FreeLocks returns. -/
def freeL (xs : List Hold) (owner : Int) : List Hold := if holdsOk xs = true then freeFold owner xs else []
theorem freeFold_step {owner : Int} {xs : List Hold} {k : Nat} {x : Hold} (hx : xs[k]? = some x) : freeFold owner (xs.take (k + 1)) = freeStep owner (freeFold owner (xs.take k)) x := by
  obtain ⟨hk, rfl⟩ := List.getElem?_eq_some_iff.1 hx
  rw [freeFold, List.take_succ_eq_append_getElem hk, List.foldl_append]
  rfl
theorem freeStep_len (owner : Int) (acc : List Hold) (x : Hold) : (freeStep owner acc x).length ≤ acc.length + 1 := by
  unfold freeStep
  split <;> simp
theorem freeFold_len (owner : Int) (xs : List Hold) : (freeFold owner xs).length ≤ xs.length := by
  have : ∀ (xs acc : List Hold), (xs.foldl (freeStep owner) acc).length ≤ acc.length + xs.length := by
    intro xs
    induction xs with
    | nil => intro acc; simp
    | cons x xs ih =>
      intro acc
      rw [List.foldl_cons]
      have h1 := ih (freeStep owner acc x)
      have h2 := freeStep_len owner acc x
      simp only [List.length_cons]
      omega
  simpa [freeFold] using this xs []
theorem freeL_len (xs : List Hold) (owner : Int) (h : xs.length ≤ 1048576) : (freeL xs owner).length ≤ 2097152 := by
  unfold freeL
  split
  · have := freeFold_len owner xs
    omega
  · simp
theorem holdsOk_len {xs : List Hold} (h : holdsOk xs = true) : xs.length ≤ 16 := (allGood_true.1 h).2
theorem run_make_cap {P : Program} (t e : TypeId) {z : Value} {s b : Nat} (ht : P.underlying t = some (.slice e)) (h : (P.info? e).map (fun i => (i.zero, i.size, i.bytes)) = some (some z, s, b)) (n : Nat) (hb : b * n ≤ 281474976710656) (h63 : n ≤ 9223372036854775807) (w : World) :
    (Instr.makeSlice t (.int .i64 0) (.int .i64 (n : Int))).run P w = .ok (.slice (some ⟨w.heap.size, 0, none⟩) 0 n) (w.alloc (.cells (madeCells z.cells (n * s)) e)) := by
  obtain ⟨i, hi, hz, hs, hby⟩ := info_of h
  have hb' : (i.bytes : Int) * (n : Int) ≤ 281474976710656 := by
    have h : ((i.bytes * n : Nat) : Int) ≤ 281474976710656 := by rw [hby]; omega
    rwa [Int.natCast_mul] at h
  have hr := run_make (P := P) w t e i z ht hi hz .i64 .i64 0 n (by omega) (by omega) hb' (by omega)
  simp only [Int.toNat_natCast, Int.toNat_zero] at hr
  rw [hr, hs]
/-- The built-in append at the operation, where what it does is known up to what it leaves. -/
theorem wpList_append_ex {P : Program} {w : World} {ops : Array Oper} {rest : List Oper} {o : Oper} {a : Act} {Q : Exit → Act → World → Prop} {s x : Operand} {t : TypeId} {v u : Value} {R : Value → World → Prop} (hgd : o.guard = none)
    (ho : o.op = .call { callee := .builtin .append, args := #[s, x], argTypes := #[t, t] }) (hs : a.eval s = v) (hx : a.eval x = u) (hrun : ∃ v' w', (Builtin.append_ #[t, t] o.type #[v, u]).run P w = .ok v' w' ∧ R v' w')
    (h : ∀ v' w', R v' w' → wpList P ops Q rest (a.put o.dst v') w') : wpList P ops Q (o :: rest) a w := by
  obtain ⟨v', w', h1, h2⟩ := hrun
  exact wpList_append_run hgd ho hs hx h1 (h v' w' h2)
theorem row_push {w wr : World} {aV : Value} {acc : List Hold} (hb : Ext w wr) (HA : Hid (Row 83 4 encHold w.heap.size wr aV acc)) (hq : acc.length ≤ 16) (o k : Int) (d g : Bool) :
    Hid (∀ W n, W.heap.size = n → Ext wr W → ∃ v' w', (Builtin.append_ #[46, 46] 46 #[aV, .slice (some ⟨n, 0, none⟩) 1 1]).run Tryd.prog (W.alloc (.cells #[.int .i64 o, .int .i64 k, .bool d, .bool g] 83)) = .ok v' w' ∧
      (Row 83 4 encHold w.heap.size w' v' (acc ++ [⟨o, k, d, g⟩]) ∧ Ext w w')) := fun W n hWn hW => by
  subst hWn
  obtain ⟨v', w', hrun, hrow', hgrow⟩ := run_push (P := Tryd.prog) (t := 46) (ty := 46) (e := 83) Tryd.underlying46 cinfo_HoldF rfl (by omega) (HA.out.ext hW) (⟨o, k, d, g⟩ : Hold) (fun j => one_HoldF _ j) (by omega) (by omega) (hb.trans hW).size
  exact ⟨v', w', hrun, hrow', Ext.grown ((hb.trans hW).alloc _) hgrow (HA.out.block)⟩
theorem any_take_step {p : Hold → Bool} {xs : List Hold} {q : Nat} {y : Hold} (hy : xs[q]? = some y) : (xs.take (q + 1)).any p = ((xs.take q).any p || p y) := by
  obtain ⟨hk, rfl⟩ := List.getElem?_eq_some_iff.1 hy
  rw [List.take_succ_eq_append_getElem hk, List.any_append]
  simp
set_option maxHeartbeats 2000000 in
theorem spec_FreeLocks_row {v : Value} {xs : List Hold} (owner : Int) (w : World) (h : SlOf 4 encHold w v xs) (hlen : xs.length ≤ 2097152) :
    Calls Tryd.prog 80 #[v, .int .i64 owner] w fun e w' => ∃ v', e = .returned v' ∧ Row 83 4 encHold w.heap.size w' v' (freeL xs owner) ∧ Ext w w' := by
  have H := Lib.hid h
  have hrow : Row 83 4 encHold w.heap.size (w.alloc (.cells #[] 83)) (.slice (some ⟨w.heap.size, 0, none⟩) 0 0) ([] : List Hold) := World.ownsRow_made w #[] 0 (Nat.le_refl _) (by simp [maxLen]) (by simp)
  have HR := Lib.hid hrow
  obtain ⟨A, c, rfl, _⟩ := id h
  clear h hrow
  by_cases hv : holdsOk xs = true
  case neg =>
    have hf : Hid (freeL xs owner = []) := by show _ = _; rw [freeL, if_neg hv]
    rw [hf.out]
    have hcall := Lib.hid (fun W (hw : Ext w W) => spec_HoldsValid W (H.out.ext hw) hlen)
    simp only [Bool.not_eq_true] at hv
    rw [hv] at hcall
    by_cases hz : 0 < xs.length
    · go_enter Tryd.func80, Tryd.ntmps80
      go_wp2
      go_loopw [5, 6] (fun a i wr => Ext w wr ∧ i = .int .i64 0 ∧ Hid (Row 83 4 encHold w.heap.size wr a ([] : List Hold))) (fun _ _ _ => 0)
      case atStart => exact ⟨(Ext.refl _).alloc _, rfl, HR.out⟩
      case round =>
        obtain ⟨hb, rfl, HA⟩ := hrel
        go_wp2_with fail
        refine (hcall.out _ hb).mono ?_
        rintro e w1 ⟨rfl, b1⟩
        have Hc := Lib.hid (HA.out.ext b1)
        go_wp2
        go_returns
        exact ⟨_, rfl, Hc.out, hb.trans b1⟩
    · have hx0 : xs.length = 0 := by omega
      have Hc := Lib.hid HR.out
      go_enter Tryd.func80, Tryd.ntmps80
      go_wp2
      go_loopw [5, 6] (fun a i wr => Ext w wr ∧ i = .int .i64 0 ∧ Hid (Row 83 4 encHold w.heap.size wr a ([] : List Hold))) (fun _ _ _ => 0)
      case atStart => exact ⟨(Ext.refl _).alloc _, rfl, HR.out⟩
      case round =>
        obtain ⟨hb, rfl, HA⟩ := hrel
        have Hc := Lib.hid HA.out
        go_wp2
        go_returns
        exact ⟨_, rfl, Hc.out, hb⟩
  have hl16 := holdsOk_len hv
  have hcall := Lib.hid (fun W (hw : Ext w W) => spec_HoldsValid W (H.out.ext hw) hlen)
  rw [hv] at hcall
  rw [freeL, if_pos hv]
  go_enter Tryd.func80, Tryd.ntmps80
  go_wp2
  go_loopw [5, 6] (fun a i wr => Ext w wr ∧ ∃ k : Nat, k ≤ xs.length ∧ i = .int .i64 k ∧ Hid (Row 83 4 encHold w.heap.size wr a (freeFold owner (xs.take k)))) (fun _ i _ => xs.length - (intOf i).toNat)
  case atStart => exact ⟨(Ext.refl _).alloc _, 0, Nat.zero_le _, rfl, HR.out⟩
  case round =>
    clear HR
    obtain ⟨hb0, k, hk, rfl, HA0⟩ := hrel
    obtain ⟨A, c, hAe, h'⟩ := id H.out
    by_cases hlt : k < xs.length
    · obtain ⟨b, off, rfl, hbl, hc⟩ := h' (by omega)
      injection hAe with hA1 _ hA3
      subst hA1 hA3
      obtain ⟨x, hx⟩ := at_some hlt
      have Ht := Lib.hid (freeFold_step (owner := owner) hx)
      have hq := Nat.le_trans (freeFold_len owner (xs.take k)) (by rw [List.length_take]; omega : (xs.take k).length ≤ 16)
      obtain ⟨wo, rfl⟩ : ∃ wo : World, wo = wr := ⟨_, rfl⟩
      go_wp2_with fail
      refine (hcall.out _ hb0).mono ?_
      rintro e w1 ⟨rfl, b1⟩
      have hb := hb0.trans b1
      have HA := Lib.hid (HA0.out.ext b1)
      have c0 : w1.cell? ⟨b, off + k * 4, none⟩ = some (.int .i64 x.owner) := hb.cell (hc k x hx 0 (by omega))
      have c1 : w1.cell? ⟨b, off + k * 4 + 1, none⟩ = some (.int .i64 x.key) := hb.cell (hc k x hx 1 (by omega))
      have c2 : w1.cell? ⟨b, off + k * 4 + 2, none⟩ = some (.bool x.write) := hb.cell (hc k x hx 2 (by omega))
      have c3 : w1.cell? ⟨b, off + k * 4 + 3, none⟩ = some (.bool x.got) := hb.cell (hc k x hx 3 (by omega))
      clear hx hc h' b1 hb0 HA0 hcall
      by_cases ho : (x.owner == owner) = true
      · go_wp2
        go_roundw
        case rel => exact ⟨hb.alloc _, k + 1, by omega, by go_num, by show Row _ _ _ _ _ _ _; rw [Ht.out, freeStep, if_pos ho]; exact HA.out.ext ((Ext.refl _).alloc _)⟩
        case measure => simp [intOf]; omega
      · have hst : Hid (freeStep owner (freeFold owner (xs.take k)) x = freeFold owner (xs.take k) ++ [⟨x.owner, x.key, x.write, x.got || !((freeFold owner (xs.take k)).any fun y => clashB x y)⟩]) := by show _ = _; rw [freeStep, if_neg ho]
        simp only [Bool.not_eq_true] at ho
        obtain ⟨acc, hacc⟩ : ∃ acc, freeFold owner (xs.take k) = acc := ⟨_, rfl⟩
        rw [hacc] at hst Ht hq HA
        have hsl := HA.out.cell.1
        obtain ⟨Aa, ca, hae, hac⟩ := hsl
        subst hae
        have HC := Lib.hid hac
        clear hac hacc
        go_wp2
        go_loopw [8, 9] (fun a i wr => Ext w1 wr ∧ wr.cell? ⟨w1.heap.size, 0, none⟩ = some (.int .i64 x.owner) ∧ wr.cell? ⟨w1.heap.size, 1, none⟩ = some (.int .i64 x.key) ∧ wr.cell? ⟨w1.heap.size, 2, none⟩ = some (.bool x.write) ∧ wr.cell? ⟨w1.heap.size, 3, none⟩ = some (.bool x.got) ∧ BlkN wr w1.heap.size 4 ∧
          ∃ q : Nat, q ≤ acc.length ∧ i = .int .i64 q ∧ a = .bool ((acc.take q).any fun y => clashB x y)) (fun _ i _ => acc.length - (intOf i).toNat)
        case atStart => exact ⟨(Ext.refl _).alloc _, by go_cell, by go_cell, by go_cell, by go_cell, BlkN.made w1 _ _, 0, Nat.zero_le _, rfl, by simp⟩
        case round =>
          obtain ⟨hb2, g0, g1, g2, g3, f3, q, hqa, rfl, rfl⟩ := hrel
          by_cases hlt2 : q < acc.length
          · obtain ⟨b', off', rfl, hbl', hcc⟩ := HC.out (by omega)
            obtain ⟨y, hy⟩ := at_some hlt2
            have d0 : ∀ e, (over wr e).cell? ⟨b', off' + q * 4, none⟩ = some (.int .i64 y.owner) := over_cell (hb2.cell (hcc q y hy 0 (by omega)))
            have d1 : ∀ e, (over wr e).cell? ⟨b', off' + q * 4 + 1, none⟩ = some (.int .i64 y.key) := over_cell (hb2.cell (hcc q y hy 1 (by omega)))
            have d2 : ∀ e, (over wr e).cell? ⟨b', off' + q * 4 + 2, none⟩ = some (.bool y.write) := over_cell (hb2.cell (hcc q y hy 2 (by omega)))
            have d3 : ∀ e, (over wr e).cell? ⟨b', off' + q * 4 + 3, none⟩ = some (.bool y.got) := over_cell (hb2.cell (hcc q y hy 3 (by omega)))
            have e0 := over_cell g0
            have e1 := over_cell g1
            have e2 := over_cell g2
            have e3 := over_cell g3
            have Hs := Lib.hid (any_take_step (p := fun y => clashB x y) hy)
            have hblk3 := Lib.hid f3
            have F3 := f3.free 3
            have hcl := fun e => l36Clash_any y x (over wr e)
            rw [clashB_symm y x] at hcl
            have HF := Lib.hid hcl
            clear hy hcl hcc f3
            go_wp2
            refine wp_region_over (by kernel_rfl) (by kernel_rfl) ?_
            by_cases hany : ((acc.take q).any fun y => clashB x y) = true
            · rw [hany]
              repeat (go_big_quiet_step ((go_at_call 65; exact quiet_ext (HF.out _))))
              refine wpQuiet_nil ?_
              intro w3 hb3
              go_wp2
              go_roundw
              case rel => exact ⟨hb2.trans hb3, hb3.cell g0, hb3.cell g1, hb3.cell g2, hb3.cell g3, hblk3.out.ext hb3, q + 1, by omega, by go_num, by rw [Hs.out, hany]; rfl⟩
              case measure => simp [intOf]; omega
            · simp only [Bool.not_eq_true] at hany
              rw [hany]
              repeat (go_big_quiet_step ((go_at_call 65; exact quiet_ext (HF.out _))))
              refine wpQuiet_nil ?_
              intro w3 hb3
              go_wp2
              go_roundw
              case rel => exact ⟨hb2.trans hb3, hb3.cell g0, hb3.cell g1, hb3.cell g2, hb3.cell g3, hblk3.out.ext hb3, q + 1, by omega, by go_num, by rw [Hs.out, hany]; rfl⟩
              case measure => simp [intOf]; omega
          · obtain rfl : q = acc.length := by omega
            rw [List.take_length]
            obtain ⟨z, hz⟩ : ∃ z, (acc.any fun y => clashB x y) = z := ⟨_, rfl⟩
            have hst2 := hst.out
            rw [hz] at hst2
            rw [hz]
            have F3 := f3.free 3
            clear HC hst
            cases hgot : x.got with
            | true =>
              rw [hgot] at g3 hst2
              rw [Bool.true_or] at hst2
              have HQ := Lib.hid ((row_push hb HA (by omega) x.owner x.key x.write true).out (wr.setCell ⟨w1.heap.size, 3, none⟩ (.bool true)) wr.heap.size (by simp) (hb2.setCell (Nat.le_refl _) _))
              have Hs2 := Lib.hid hst2
              clear hst2 hz hgot f3 hb2
              go_wp2_with (at_builtin; refine wpList_append_ex rfl rfl rfl rfl HQ.out ?_; rintro v' w' ⟨hrow', hg⟩)
              go_roundw
              case rel => exact ⟨hg, k + 1, by omega, by go_num, by show Row _ _ _ _ _ _ _; rw [Ht.out, Hs2.out]; exact hrow'⟩
              case measure => simp [intOf]; omega
            | false =>
              rw [hgot] at g3 hst2
              rw [Bool.false_or] at hst2
              have HQ := Lib.hid ((row_push hb HA (by omega) x.owner x.key x.write (!z)).out (wr.setCell ⟨w1.heap.size, 3, none⟩ (.bool (!z))) wr.heap.size (by simp) (hb2.setCell (Nat.le_refl _) _))
              have Hs2 := Lib.hid hst2
              clear hst2 hz hgot f3 hb2
              go_wp2_with (at_builtin; refine wpList_append_ex rfl rfl rfl rfl HQ.out ?_; rintro v' w' ⟨hrow', hg⟩)
              go_roundw
              case rel => exact ⟨hg, k + 1, by omega, by go_num, by show Row _ _ _ _ _ _ _; rw [Ht.out, Hs2.out]; exact hrow'⟩
              case measure => simp [intOf]; omega
    · obtain rfl : k = xs.length := by omega
      rw [List.take_length] at HA0
      have Hc := Lib.hid HA0.out
      clear h' hAe
      go_wp2
      go_returns
      exact ⟨_, rfl, Hc.out, hb0⟩
theorem spec_FreeLocks {v : Value} {xs : List Hold} (owner : Int) (w : World) (h : SlOf 4 encHold w v xs) (hlen : xs.length ≤ 2097152) :
    Calls Tryd.prog 80 #[v, .int .i64 owner] w (RetOf 4 encHold w (freeL xs owner)) :=
  (spec_FreeLocks_row owner w h hlen).mono fun _ _ ⟨v', he, hr, hb⟩ => ⟨v', he, hr.cell.1, hr.cell.2, hb⟩
end Go.Proofs.YtbbfdnmlfjdidaaDoor
