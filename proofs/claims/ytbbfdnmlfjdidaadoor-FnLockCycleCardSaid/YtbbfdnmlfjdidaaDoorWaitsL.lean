/- LockWaits of the program. -/
import Derived.Test.YtbbfdnmlfjdidaaDoorWaitsI
import Derived.Test.YtbbfdnmlfjdidaaDoorMembers
namespace Go.Proofs.YtbbfdnmlfjdidaaDoor
open Go.RowKit
set_option maxRecDepth 8000
theorem LLb.start {E I : TypeId} (w : World) (cs : Array Value) (n : Nat) (h : cs.size = n) (hn : n ≤ 1000) : LLb E I w.heap.size (w.alloc (.cells cs E)) (.slice (some ⟨w.heap.size, 0, none⟩) 0 n) [] [] :=
  ⟨rfl, World.ownsRow_made w cs n (Nat.le_refl _) (by simp [maxLen]; omega) (by rw [h, Nat.mul_one]), fun _ _ _ h => by simp at h, fun _ _ _ _ _ h => by simp at h⟩
set_option maxHeartbeats 4000000 in
theorem impl_LockWaits {v : Value} {xs : List Hold} (w : World) (h : SlOf 4 encHold w v xs) (hlen : xs.length ≤ 2097152) (hcap : ∀ A n c, v = .slice A n c → n ≤ c ∧ c ≤ 9223372036854775807) (hT : Tab64 1 w) :
    Calls Tryd.prog 30 #[v] w fun e w' => ∃ v' us, e = .returned v' ∧ LLr w' v' us (waitsLL xs) ∧ LLo w.heap.size w' v' us ∧ Ext w w' := by
  have H := Lib.hid h
  have HC := Lib.hid hcap
  have HT := Lib.hid hT
  clear h hcap hT
  by_cases hv : holdsOk xs = true
  case neg =>
    have hf : Hid (waitsLL xs = []) := by show _ = _; rw [waitsLL, if_neg hv]
    rw [hf.out]
    simp only [Bool.not_eq_true] at hv
    go_enter Tryd.func30, Tryd.ntmps30
    go_wp2_with fail
    refine (impl_HoldsValid _ H.out hlen HC.out).mono ?_
    rw [hv]
    rintro e w1 ⟨rfl, b1⟩
    go_wp2
    go_returns
    exact ⟨_, [], rfl, ⟨rfl, Sl1.nil _ _ _ _, fun _ _ _ h => by simp at h⟩, ⟨Own.nil _ _ _ _, fun _ _ h => by simp at h, fun _ _ _ _ _ h => by simp at h⟩, b1⟩
  have hfin : Hid (waitsLL xs = (List.range 5).map fun (o : Nat) => membersL (waitsTo xs (o : Int) xs.length)) := by show _ = _; rw [waitsLL, if_pos hv]
  rw [hfin.out]
  have HV := Lib.hid hv
  have H32 : Hid (∀ o : Nat, waitsTo xs (o : Int) xs.length < 32) := fun o => waitsTo_lt hv xs.length
  clear hv hfin
  have hmk : ∀ W, (Instr.makeSlice 48 (.int .i64 0) (.int .i64 5)).run Tryd.prog W = .ok (.slice (some ⟨W.heap.size, 0, none⟩) 0 5) (W.alloc (.cells (madeCells (Value.slice none 0 0).cells (5 * 1)) 25)) := make_cap (P := Tryd.prog) 48 25 Tryd.underlying48 winfo_L 5 (by omega) (by omega)
  go_enter Tryd.func30, Tryd.ntmps30
  go_wp2_with fail
  refine (impl_HoldsValid _ H.out hlen HC.out).mono ?_
  rw [HV.out]
  rintro e w1 ⟨rfl, b1⟩
  go_wp2_with fail
  refine (waitsOf_any _ ((H.out.ext b1).ext ((Ext.refl _).alloc _)) HC.out HV.out).mono ?_
  rintro e w2 ⟨rfl, b2⟩
  have HB0 := Lib.hid ((LLb.start (E := 25) (I := 3) w1 (madeCells (Value.slice none 0 0).cells (5 * 1)) 5 (size_madeCells _ _) (by omega)).ext b2)
  have hb := ((Ext.refl w1).alloc (.cells (madeCells (Value.slice none 0 0).cells (5 * 1)) 25)).trans b2
  have hlo : w.heap.size ≤ w1.heap.size := b1.size
  obtain ⟨f, hfe⟩ : ∃ f : Nat → Nat, (fun (o : Nat) => waitsTo xs (o : Int) xs.length) = f := ⟨_, rfl⟩
  have hfo : Hid (∀ o : Nat, waitsTo xs (o : Int) xs.length = f o) := fun o => by rw [← hfe]
  rw [hfe]
  clear b2 hfe hmk
  unfold fiveV
  go_wp2
  go_loopw [3, 12] (fun o i wr => Ext w1 wr ∧ ∃ (k : Nat) (us : List Value), k ≤ 5 ∧ i = .int .i64 k ∧ Hid (LLb 25 3 w1.heap.size wr o us ((List.range k).map fun (o : Nat) => membersL (waitsTo xs (o : Int) xs.length)))) (fun _ i _ => 5 - (intOf i).toNat)
  case atStart => exact ⟨hb, 0, [], by omega, rfl, HB0.out⟩
  case round =>
    clear HB0 hb
    obtain ⟨hb, k, us, hk, rfl, HL⟩ := hrel
    by_cases hlt : k < 5
    · have hkd : decide ((k : Int) < 5) = true := by simp; omega
      have hix : ∀ W, (Instr.index 80 (.agg #[.int .u64 (f 0 : Int), .int .u64 (f 1 : Int), .int .u64 (f 2 : Int), .int .u64 (f 3 : Int), .int .u64 (f 4 : Int)]) (.int .i64 (k : Int))).run Tryd.prog W = .ok (.int .u64 (f k : Int)) W := by
        match k, hlt with
        | 0, _ => exact fun _ => by kernel_rfl
        | 1, _ => exact fun _ => by kernel_rfl
        | 2, _ => exact fun _ => by kernel_rfl
        | 3, _ => exact fun _ => by kernel_rfl
        | 4, _ => exact fun _ => by kernel_rfl
      have h32 := H32.out k
      rw [hfo.out k] at h32
      go_wp2_with fail
      refine (members_any (f k) _ (by omega) (HT.out.ext (b1.trans hb))).mono ?_
      rintro e w3 ⟨u, rfl, hrow, b3⟩
      obtain ⟨Au, cu, rfl, _⟩ := id hrow.cell.1
      have hun : us.length ≤ 5 := by have := HL.out.1; simp at this; omega
      obtain ⟨v', w', hrun, hll, hext⟩ := push_LL (w0 := wr) 48 HL.out b3 hrow hb.size (by omega)
      have HRUN := Lib.hid hrun
      have HLL := Lib.hid hll
      clear hrun hll hix hrow
      go_wp2_with (at_builtin; refine wpList_append_run rfl rfl rfl rfl HRUN.out ?_)
      go_roundw
      case rel => exact ⟨hext w1 hb (Nat.le_refl _), k + 1, _, by omega, by go_num, by rw [List.range_succ, List.map_append]; rw [← hfo.out k] at HLL; exact HLL.out⟩
      case measure => simp [intOf]; omega
    · obtain rfl : k = 5 := by omega
      have hd := Lib.hid (HL.out.done (by decide))
      go_wp2
      go_returns
      exact ⟨_, _, rfl, hd.out.1, hd.out.2.mono hlo, b1.trans hb⟩
end Go.Proofs.YtbbfdnmlfjdidaaDoor
