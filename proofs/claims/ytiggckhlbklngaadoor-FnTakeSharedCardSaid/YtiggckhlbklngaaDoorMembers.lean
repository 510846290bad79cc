/- The members of a set below 128, as the program lists them: bits.TrailingZeros (it reads the library's table) and impl.members. -/
import Derived.Test.YtiggckhlbklngaaDoorSetSize
import Derived.Test.YtiggckhlbklngaaDoorAppend
import Derived.Test.YtiggckhlbklngaaDoorInts
import Derived.Lib.TrailingZeros
namespace Go.Proofs.YtiggckhlbklngaaDoor
open Go.RowKit
set_option maxRecDepth 8000

/-- The library's table lies in its variable (the program's global q). -/
def Tab64 (q : Nat) (w : World) : Prop := ∀ j, j < 64 → w.cell? ⟨q, j, none⟩ = some (.int .u8 (Lib.deBruijn64tab.getD j 0 : Nat))
theorem Tab64.ext {q : Nat} {w w' : World} (h : Tab64 q w) (hb : Ext w w') : Tab64 q w' := fun j hj => hb.cell (h j hj)
def idx64 (n : Nat) : Nat := 2 ^ Lib.ctz 64 n * 285870213051353865 % 18446744073709551616 / 288230376151711744
theorem key64 (n : Nat) (h : n < 128) (h0 : n ≠ 0) : IntKind.u64.wrap (bits BinOp.and IntKind.u64 (n : Int) (IntKind.u64.wrap (-(n : Int))) * 285870213051353865) / 288230376151711744 = ((idx64 n : Nat) : Int) := by
  have : ((List.range 128).all fun n => n == 0 || IntKind.u64.wrap (bits BinOp.and IntKind.u64 (n : Int) (IntKind.u64.wrap (-(n : Int))) * 285870213051353865) / 288230376151711744 == ((idx64 n : Nat) : Int)) = true := by decide +kernel
  have h1 := List.all_eq_true.1 this n (by simpa using h)
  simpa [h0] using h1
set_option maxHeartbeats 1000000 in
theorem tz64_any (n : Nat) (w : World) (h : n < 128) (h0 : n ≠ 0) (hT : Tab64 1 w) :
    Calls Tryd.prog 89 #[.int .u64 (n : Int)] w fun e w' => e = .returned (.int .i64 (Lib.ctz 64 n : Nat)) ∧ w = w' := by
  obtain ⟨_, hk⟩ := Lib.lowest_bit 64 n h0 (by omega)
  obtain ⟨hi, htab⟩ := Lib.deBruijn64_at _ hk
  have hcell := hT _ hi
  rw [htab] at hcell
  have key := key64 n h h0
  have hi' : idx64 n < 64 := hi
  change w.cell? ⟨1, idx64 n, none⟩ = _ at hcell
  obtain ⟨i, hie⟩ : ∃ i, idx64 n = i := ⟨_, rfl⟩
  obtain ⟨z, hz⟩ : ∃ z, Lib.ctz 64 n = z := ⟨_, rfl⟩
  rw [hie] at key hcell hi'
  rw [hz] at hcell hk ⊢
  have hx0 : ((n : Int) == 0) = false := by simp; omega
  clear hT hi htab hie hz
  go_enter Tryd.func89, Tryd.ntmps89
  go_wp2_with (simp only [key])
  go_returns
  exact ⟨rfl, rfl⟩
theorem tz_any (n : Nat) (w : World) (h : n < 128) (h0 : n ≠ 0) (hT : Tab64 1 w) :
    Calls Tryd.prog 78 #[.int .u64 (n : Int)] w fun e w' => e = .returned (.int .i64 (Lib.ctz 64 n : Nat)) ∧ w = w' := by
  go_enter Tryd.func78, Tryd.ntmps78
  go_wp2_with (go_at_call 89; refine (tz64_any _ _ h h0 hT).mono ?_; rintro e w' ⟨rfl, rfl⟩)
  go_returns
  exact ⟨rfl, rfl⟩
/-- The members of a set below 128. -/
def membersL (n : Nat) : List Int := ((List.range 7).filter fun j => n.testBit j).map fun (j : Nat) => (j : Int)
theorem membersL_next (n : Nat) (h : n < 128) (h0 : n ≠ 0) : membersL n = (Lib.ctz 64 n : Int) :: membersL (n &&& (n - 1)) := by
  have : ((List.range 128).all fun n => n == 0 || membersL n == (Lib.ctz 64 n : Int) :: membersL (n &&& (n - 1))) = true := by decide +kernel
  have h1 := List.all_eq_true.1 this n (by simpa using h)
  simpa [h0] using h1
theorem and_less (n : Nat) (h : n < 128) (h0 : n ≠ 0) : n &&& (n - 1) < n := by
  have : ((List.range 128).all fun n => n == 0 || decide (n &&& (n - 1) < n)) = true := by decide +kernel
  have h1 := List.all_eq_true.1 this n (by simpa using h)
  simpa [h0] using h1
theorem and_bits (n : Nat) (h : n < 128) (h0 : n ≠ 0) : bits BinOp.and IntKind.u64 (n : Int) ((n : Int) - 1) = ((n &&& (n - 1) : Nat) : Int) := by
  have : ((List.range 128).all fun n => n == 0 || bits BinOp.and IntKind.u64 (n : Int) ((n : Int) - 1) == ((n &&& (n - 1) : Nat) : Int)) = true := by decide +kernel
  have h1 := List.all_eq_true.1 this n (by simpa using h)
  simpa [h0] using h1
theorem make_cap {P : Program} (t e : TypeId) {z : Value} {s b : Nat} (ht : P.underlying t = some (.slice e)) (h : (P.info? e).map (fun i => (i.zero, i.size, i.bytes)) = some (some z, s, b)) (n : Nat) (hb : b * n ≤ 281474976710656) (h63 : n ≤ 9223372036854775807) (w : World) :
    (Instr.makeSlice t (.int .i64 0) (.int .i64 (n : Int))).run P w = .ok (.slice (some ⟨w.heap.size, 0, none⟩) 0 n) (w.alloc (.cells (madeCells z.cells (n * s)) e)) := by
  obtain ⟨i, hi, hz, hs, hby⟩ := info_of h
  have hb' : (i.bytes : Int) * (n : Int) ≤ 281474976710656 := by
    have h : ((i.bytes * n : Nat) : Int) ≤ 281474976710656 := by rw [hby]; omega
    rwa [Int.natCast_mul] at h
  have hr := run_make (P := P) w t e i z ht hi hz .i64 .i64 0 n (by omega) (by omega) hb' (by omega)
  simp only [Int.toNat_natCast, Int.toNat_zero] at hr
  rw [hr, hs]
theorem kint : (Tryd.prog.info? 3).map (fun i => (i.zero, i.size, i.bytes)) = some (some (.int .i64 0), 1, 8) := by kernel_rfl
set_option maxHeartbeats 1000000 in
theorem members_any (n : Nat) (w : World) (h : n < 128) (hT : Tab64 1 w) :
    Calls Tryd.prog 63 #[.int .u64 (n : Int)] w fun e w' => ∃ v', e = .returned v' ∧ Row 3 1 (one encI) w.heap.size w' v' (membersL n) ∧ Ext w w' := by
  have hp := pc_le n
  have hmk := make_cap (P := Tryd.prog) 23 3 Tryd.underlying23 kint (pc n) (by omega) (by omega)
  have hrow : Row 3 1 (one encI) w.heap.size _ (.slice (some ⟨w.heap.size, 0, none⟩) 0 (pc n)) ([] : List Int) := World.ownsRow_made w (madeCells (Value.int .i64 0).cells (pc n * 1)) (pc n) (Nat.le_refl _) (by simp [maxLen]; omega) (size_madeCells _ _)
  have HR := Lib.hid hrow
  clear hrow
  go_enter Tryd.func63, Tryd.ntmps63
  go_wp2_with (go_at_call 77; refine (onesCount_any _ _ h).mono ?_; rintro e w' ⟨rfl, rfl⟩)
  go_loopw [0, 3] (fun s a wr => Ext w wr ∧ ∃ (m : Nat) (acc : List Int), m < 128 ∧ s = .int .u64 m ∧ acc.length ≤ 200 - m ∧ Hid (Row 3 1 (one encI) w.heap.size wr a acc) ∧ Hid (acc ++ membersL m = membersL n)) (fun s _ _ => (intOf s).toNat)
  case atStart => exact ⟨(Ext.refl _).alloc _, n, [], h, rfl, by simp, by have h1 := HR.out; rw [Nat.mul_one] at h1; exact h1, by show _ = _; simp⟩
  case round =>
    clear hmk HR
    obtain ⟨hb, m, acc, hm, rfl, hal, HA, HL⟩ := hrel
    by_cases h0 : m = 0
    · subst h0
      have hfin : acc = membersL n := by have h1 := HL.out; rw [show membersL 0 = [] from by decide +kernel, List.append_nil] at h1; exact h1
      subst hfin
      go_wp2
      go_returns
      exact ⟨_, rfl, HA.out, hb⟩
    · have hne : ((m : Int) != 0) = true := by rw [bne_iff_ne]; omega
      have hless := and_less m hm h0
      have hand := and_bits m hm h0
      have HN := Lib.hid (membersL_next m hm h0)
      have HT := Lib.hid (hT.ext hb)
      obtain ⟨z, hz⟩ : ∃ z, Lib.ctz 64 m = z := ⟨_, rfl⟩
      have HZ := Lib.hid hz
      obtain ⟨k, hk⟩ : ∃ k, m &&& (m - 1) = k := ⟨_, rfl⟩
      have HK := Lib.hid hk
      rw [hk] at hless hand
      clear hz hk
      obtain ⟨v', w', hrun, hrow', hgrow⟩ := run_push (P := Tryd.prog) (t := 23) (ty := 23) (e := 3) Tryd.underlying23 kint rfl (by omega) HA.out (z : Int) (fun _ => rfl) (by omega) (by omega) hb.size
      have Hrun := Lib.hid hrun
      have Hrow := Lib.hid hrow'
      have hg := Lib.hid (Ext.grown (hb.alloc _) hgrow (HA.out.block))
      clear hrun hrow' hgrow
      go_wp2_with fail
      refine (tz_any m _ hm h0 HT.out).mono ?_
      rw [HZ.out]
      rintro e w3 ⟨rfl, rfl⟩
      go_wp2_with (at_builtin; refine wpList_append_run rfl rfl rfl rfl Hrun.out ?_)
      go_roundw
      case rel => exact ⟨hg.out, k, acc ++ [(z : Int)], by omega, by go_num, by simp; omega, Hrow.out, by show _ = _; rw [← HL.out, HN.out, HZ.out, HK.out]; simp⟩
      case measure => simp [intOf]; omega
end Go.Proofs.YtiggckhlbklngaaDoor
