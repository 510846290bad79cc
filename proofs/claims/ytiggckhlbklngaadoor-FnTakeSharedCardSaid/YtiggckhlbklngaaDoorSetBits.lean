/- The members of a set below 2^31, as the program lists them. -/
import Derived.Test.YtiggckhlbklngaaDoorSetList
import Derived.Test.YtiggckhlbklngaaDoorRedo64
namespace Go.Proofs.YtiggckhlbklngaaDoor
open Go.RowKit
set_option maxRecDepth 8000

/-- The members of a set below 2^31. -/
def memb31 (n : Nat) : List Int := ((List.range 31).filter fun j => n.testBit j).map fun (j : Nat) => (j : Int)
theorem mem_memb31 {n : Nat} {a : Int} : a ∈ memb31 n ↔ ∃ j : Nat, j < 31 ∧ n.testBit j = true ∧ a = (j : Int) := by
  unfold memb31
  simp only [List.mem_map, List.mem_filter, List.mem_range]
  constructor
  · rintro ⟨j, ⟨h1, h2⟩, rfl⟩; exact ⟨j, h1, h2, rfl⟩
  · rintro ⟨j, h1, h2, rfl⟩; exact ⟨j, ⟨h1, h2⟩, rfl⟩
theorem asc_memb31 (n : Nat) : Asc (memb31 n) := by
  unfold Asc memb31
  rw [List.pairwise_map]
  refine List.Pairwise.imp (R := (· < ·)) (fun h => by omega) ?_
  exact List.Pairwise.filter _ List.pairwise_lt_range
theorem memb31_len (n : Nat) : (memb31 n).length ≤ 31 := by
  unfold memb31
  rw [List.length_map]
  exact Nat.le_trans (List.length_filter_le _ _) (by simp)
theorem memb31_zero : memb31 0 = [] := by simp [memb31]
/-- Without its least member. -/
theorem low_bits {n : Nat} (h : n < 2 ^ 64) (h0 : n ≠ 0) : ∀ j, (n &&& (n - 1)).testBit j = (n.testBit j && !decide (j = Lib.ctz 64 n)) ∧ (n.testBit j = true → Lib.ctz 64 n ≤ j) ∧ n.testBit (Lib.ctz 64 n) = true := by
  obtain ⟨m, hm, -⟩ := Lib.ctzFrom_spec 64 n (by omega) h
  have hc : Lib.ctz 64 n = Lib.ctzFrom 64 n := by simp [Lib.ctz, h0]
  rw [hc]
  obtain ⟨c, hcc⟩ : ∃ c, Lib.ctzFrom 64 n = c := ⟨_, rfl⟩
  rw [hcc] at hm ⊢
  have hp : 0 < 2 ^ c := Nat.two_pow_pos c
  have hs : 2 ^ (c + 1) = 2 * 2 ^ c := by rw [Nat.pow_succ]; omega
  have e1 : n = 2 ^ (c + 1) * m + 2 ^ c := by rw [hm, Nat.mul_add, hs]; simp only [Nat.mul_one]; congr 1; rw [← Nat.mul_assoc, Nat.mul_comm (2 ^ c) 2]
  have e2 : n - 1 = 2 ^ (c + 1) * m + (2 ^ c - 1) := by omega
  have t1 : ∀ j, n.testBit j = if j < c + 1 then (2 ^ c).testBit j else m.testBit (j - (c + 1)) := fun j => by rw [e1]; exact Nat.testBit_two_pow_mul_add m (by omega) j
  have t2 : ∀ j, (n - 1).testBit j = if j < c + 1 then (2 ^ c - 1).testBit j else m.testBit (j - (c + 1)) := fun j => by rw [e2]; exact Nat.testBit_two_pow_mul_add m (by omega) j
  intro j
  refine ⟨?_, ?_, ?_⟩
  · rw [Nat.testBit_and, t1, t2]
    by_cases hj : j < c + 1
    · rw [if_pos hj, if_pos hj, Nat.testBit_two_pow, Nat.testBit_two_pow_sub_one]
      by_cases e : c = j
      · subst e; simp
      · simp [e]
    · rw [if_neg hj, if_neg hj]
      have : (j = c) = False := by simp; omega
      simp [this]
  · intro hj
    rw [t1] at hj
    split at hj
    · rw [Nat.testBit_two_pow] at hj
      simp at hj
      omega
    · omega
  · rw [t1, if_pos (by omega), Nat.testBit_two_pow]
    simp
theorem memb31_next {n : Nat} (h : n < 2 ^ 31) (h0 : n ≠ 0) : memb31 n = (Lib.ctz 64 n : Int) :: memb31 (n &&& (n - 1)) := by
  have hl := low_bits (n := n) (by omega) h0
  obtain ⟨c, hc⟩ : ∃ c, Lib.ctz 64 n = c := ⟨_, rfl⟩
  rw [hc] at hl ⊢
  have hct := (hl 0).2.2
  have hc31 : c < 31 := by
    apply Nat.lt_of_not_le
    intro hle
    have := Nat.testBit_lt_two_pow (x := n) (i := c) (Nat.lt_of_lt_of_le h (Nat.pow_le_pow_right (by omega) hle))
    rw [this] at hct
    cases hct
  refine asc_ext (asc_memb31 n) ?_ fun a => ?_
  · unfold Asc
    rw [List.pairwise_cons]
    refine ⟨fun b hb => ?_, asc_memb31 _⟩
    obtain ⟨j, _, h2, rfl⟩ := mem_memb31.1 hb
    rw [(hl j).1] at h2
    simp only [Bool.and_eq_true, Bool.not_eq_true', decide_eq_false_iff_not] at h2
    have := (hl j).2.1 h2.1
    omega
  · rw [List.mem_cons, mem_memb31, mem_memb31]
    constructor
    · rintro ⟨j, h1, h2, rfl⟩
      by_cases e : j = c
      · exact .inl (by rw [e])
      · exact .inr ⟨j, h1, by rw [(hl j).1, h2]; simp [e], rfl⟩
    · rintro (rfl | ⟨j, h1, h2, rfl⟩)
      · exact ⟨c, hc31, hct, rfl⟩
      · rw [(hl j).1, Bool.and_eq_true] at h2
        exact ⟨j, h1, h2.1, rfl⟩
theorem key31 {n : Nat} (h : n < 2 ^ 31) (h0 : n ≠ 0) : IntKind.u64.wrap (bits BinOp.and IntKind.u64 (n : Int) (IntKind.u64.wrap (-(n : Int))) * 285870213051353865) / 288230376151711744 = ((idx64 n : Nat) : Int) := by
  have e : IntKind.u64.wrap (-(n : Int)) = ((18446744073709551616 - n : Nat) : Int) := by rw [IntKind.wrap_u64]; omega
  have hlow := (Lib.lowest_bit 64 n h0 (by omega)).1
  rw [e, u64_and _ _ (by omega) (by omega)]
  have e2 : n &&& (18446744073709551616 - n) = 2 ^ Lib.ctz 64 n := hlow
  rw [e2, IntKind.wrap_u64]
  unfold idx64
  obtain ⟨P, hP⟩ : ∃ P, 2 ^ Lib.ctz 64 n = P := ⟨_, rfl⟩
  rw [hP]
  omega
set_option maxHeartbeats 1000000 in
theorem tz64_31 (n : Nat) (w : World) (h : n < 2 ^ 31) (h0 : n ≠ 0) (hT : Tab64 1 w) :
    Calls Tryd.prog 89 #[.int .u64 (n : Int)] w fun e w' => e = .returned (.int .i64 (Lib.ctz 64 n : Nat)) ∧ w = w' := by
  obtain ⟨_, hk⟩ := Lib.lowest_bit 64 n h0 (by omega)
  obtain ⟨hi, htab⟩ := Lib.deBruijn64_at _ hk
  have hcell := hT _ hi
  rw [htab] at hcell
  have key := key31 h h0
  have hi' : idx64 n < 64 := hi
  change w.cell? ⟨1, idx64 n, none⟩ = _ at hcell
  obtain ⟨i, hie⟩ : ∃ i, idx64 n = i := ⟨_, rfl⟩
  obtain ⟨z, hz⟩ : ∃ z, Lib.ctz 64 n = z := ⟨_, rfl⟩
  rw [hie] at key hcell hi'
  rw [hz] at hcell hk ⊢
  have hx0 : ((n : Int) == 0) = false := by simp; omega
  clear hT hi htab hie hz
  go_enter Tryd.func89, Tryd.ntmps89
  go_wp2_with (simp only [key])
  go_returns
  exact ⟨rfl, rfl⟩
theorem tz_31 (n : Nat) (w : World) (h : n < 2 ^ 31) (h0 : n ≠ 0) (hT : Tab64 1 w) :
    Calls Tryd.prog 78 #[.int .u64 (n : Int)] w fun e w' => e = .returned (.int .i64 (Lib.ctz 64 n : Nat)) ∧ w = w' := by
  go_enter Tryd.func78, Tryd.ntmps78
  go_wp2_with (go_at_call 89; refine (tz64_31 _ _ h h0 hT).mono ?_; rintro e w' ⟨rfl, rfl⟩)
  go_returns
  exact ⟨rfl, rfl⟩
theorem i64_and127 (y : Int) : ∃ K : Nat, bits BinOp.and IntKind.i64 y 127 = (K : Int) ∧ K ≤ 127 := by
  have h : (BitVec.ofInt 64 y &&& BitVec.ofInt 64 127).toNat ≤ 127 := by
    rw [BitVec.toNat_and]
    exact Nat.and_le_right
  refine ⟨(BitVec.ofInt 64 y &&& BitVec.ofInt 64 127).toNat, ?_, h⟩
  show IntKind.i64.wrap ((BitVec.ofInt 64 y &&& BitVec.ofInt 64 127).toNat : Int) = _
  rw [IntKind.wrap_i64]
  omega
set_option maxHeartbeats 1000000 in
theorem onesCount64_31 (n : Nat) (w : World) :
    Calls Tryd.prog 87 #[.int .u64 (n : Int)] w fun e w' => ∃ K : Nat, e = .returned (.int .i64 (K : Int)) ∧ K ≤ 127 ∧ w = w' := by
  go_enter Tryd.func87, Tryd.ntmps87
  go_wp2
  go_returns
  obtain ⟨K, hK, hl⟩ := i64_and127 _
  exact ⟨K, ret_int hK, hl, rfl⟩
theorem onesCount_31 (n : Nat) (w : World) :
    Calls Tryd.prog 77 #[.int .u64 (n : Int)] w fun e w' => ∃ K : Nat, e = .returned (.int .i64 (K : Int)) ∧ K ≤ 127 ∧ w = w' := by
  go_enter Tryd.func77, Tryd.ntmps77
  go_wp2_with (go_at_call 87; refine (onesCount64_31 _ _).mono ?_; rintro e w' ⟨K, rfl, hK, rfl⟩)
  go_returns
  exact ⟨K, rfl, hK, rfl⟩
set_option maxHeartbeats 2000000 in
theorem members_31 (n : Nat) (w : World) (h : n < 2 ^ 31) (hT : Tab64 1 w) :
    Calls Tryd.prog 63 #[.int .u64 (n : Int)] w fun e w' => ∃ v', e = .returned v' ∧ Row 3 1 (one encI) w.heap.size w' v' (memb31 n) ∧ Ext w w' := by
  go_enter Tryd.func63, Tryd.ntmps63
  go_wp2_with fail
  refine (onesCount_31 _ _).mono ?_
  rintro e w1 ⟨K, rfl, hK, rfl⟩
  have hmk := make_cap (P := Tryd.prog) 23 3 Tryd.underlying23 kint K (by omega) (by omega)
  have hrow : Row 3 1 (one encI) w.heap.size _ (.slice (some ⟨w.heap.size, 0, none⟩) 0 K) ([] : List Int) := World.ownsRow_made w (madeCells (Value.int .i64 0).cells (K * 1)) K (Nat.le_refl _) (by simp [maxLen]; omega) (size_madeCells _ _)
  have HR := Lib.hid hrow
  clear hrow
  go_wp2
  go_loopw [0, 3] (fun s a wr => Ext w wr ∧ ∃ (m : Nat) (acc : List Int), m < 2 ^ 31 ∧ s = .int .u64 m ∧ Hid (Row 3 1 (one encI) w.heap.size wr a acc) ∧ Hid (acc ++ memb31 m = memb31 n)) (fun s _ _ => (intOf s).toNat)
  case atStart => exact ⟨(Ext.refl _).alloc _, n, [], h, rfl, by have h1 := HR.out; rw [Nat.mul_one] at h1; exact h1, by show _ = _; simp⟩
  case round =>
    clear hmk HR
    obtain ⟨hb, m, acc, hm, rfl, HA, HL⟩ := hrel
    by_cases h0 : m = 0
    · subst h0
      have hfin : acc = memb31 n := by have h1 := HL.out; rw [memb31_zero, List.append_nil] at h1; exact h1
      subst hfin
      clear hm
      go_wp2
      go_returns
      exact ⟨_, rfl, HA.out, hb⟩
    · have hne : ((m : Int) != 0) = true := by rw [bne_iff_ne]; omega
      have hless : m &&& (m - 1) < m := by have := @Nat.and_le_right m (m - 1); omega
      have hm1 : ((m : Int) - 1) = ((m - 1 : Nat) : Int) := by omega
      have hand : bits BinOp.and IntKind.u64 (m : Int) ((m : Int) - 1) = ((m &&& (m - 1) : Nat) : Int) := by rw [hm1]; exact u64_and _ _ (by omega) (by omega)
      have HN := Lib.hid (memb31_next hm h0)
      have hal : acc.length ≤ 31 := by
        have h1 := congrArg List.length HL.out
        rw [List.length_append] at h1
        have := memb31_len n
        omega
      have HT := Lib.hid (hT.ext hb)
      obtain ⟨z, hz⟩ : ∃ z, Lib.ctz 64 m = z := ⟨_, rfl⟩
      have HZ := Lib.hid hz
      obtain ⟨k, hk⟩ : ∃ k, m &&& (m - 1) = k := ⟨_, rfl⟩
      have HK := Lib.hid hk
      have hm64 : m < 2147483648 := by omega
      rw [hk] at hless hand
      have HM := Lib.hid hm
      clear hz hk hm1 hm
      obtain ⟨v', w', hrun, hrow', hgrow⟩ := run_push (P := Tryd.prog) (t := 23) (ty := 23) (e := 3) Tryd.underlying23 kint rfl (by omega) HA.out (z : Int) (fun _ => rfl) (by omega) (by omega) hb.size
      have Hrun := Lib.hid hrun
      have Hrow := Lib.hid hrow'
      have hg := Lib.hid (Ext.grown (hb.alloc _) hgrow (HA.out.block))
      clear hrun hrow' hgrow
      go_wp2_with fail
      refine (tz_31 m _ HM.out h0 HT.out).mono ?_
      rw [HZ.out]
      rintro e w3 ⟨rfl, rfl⟩
      go_wp2_with (at_builtin; refine wpList_append_run rfl rfl rfl rfl Hrun.out ?_)
      go_roundw
      case rel => exact ⟨hg.out, k, acc ++ [(z : Int)], by have := HM.out; omega, by go_num, Hrow.out, by show _ = _; rw [← HL.out, HN.out, HZ.out, HK.out]; simp⟩
      case measure => simp [intOf]; omega
end Go.Proofs.YtiggckhlbklngaaDoor
