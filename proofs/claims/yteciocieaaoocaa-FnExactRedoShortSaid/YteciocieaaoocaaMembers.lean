/- The members of a set below 128, as the program lists them: bits.TrailingZeros (it reads the library's table) and impl.members. -/
import Derived.Test.YteciocieaaoocaaSetSize
import Derived.Test.YteciocieaaoocaaAppend
import Derived.Test.YteciocieaaoocaaInts
import Derived.Lib.TrailingZeros
namespace Go.Proofs.Yteciocieaaoocaa
open Go.RowKit
set_option maxRecDepth 8000

/-- The library's table lies in its variable (the program's global q). -/
def Tab64 (q : Nat) (w : World) : Prop := ∀ j, j < 64 → w.cell? ⟨q, j, none⟩ = some (.int .u8 (Lib.deBruijn64tab.getD j 0 : Nat))
theorem Tab64.ext {q : Nat} {w w' : World} (h : Tab64 q w) (hb : Ext w w') : Tab64 q w' := fun j hj => hb.cell (h j hj)
def idx64 (n : Nat) : Nat := 2 ^ Lib.ctz 64 n * 285870213051353865 % 18446744073709551616 / 288230376151711744
theorem key64 (n : Nat) (h : n < 128) (h0 : n ≠ 0) : IntKind.u64.wrap (bits BinOp.and IntKind.u64 (n : Int) (IntKind.u64.wrap (-(n : Int))) * 285870213051353865) / 288230376151711744 = ((idx64 n : Nat) : Int) := by
  have : ((List.range 128).all fun n => n == 0 || IntKind.u64.wrap (bits BinOp.and IntKind.u64 (n : Int) (IntKind.u64.wrap (-(n : Int))) * 285870213051353865) / 288230376151711744 == ((idx64 n : Nat) : Int)) = true := by decide +kernel
  have h1 := List.all_eq_true.1 this n (by simpa using h)
  simpa [h0] using h1
/-- The members of a set below 128. -/
def membersL (n : Nat) : List Int := ((List.range 7).filter fun j => n.testBit j).map fun (j : Nat) => (j : Int)
theorem membersL_next (n : Nat) (h : n < 128) (h0 : n ≠ 0) : membersL n = (Lib.ctz 64 n : Int) :: membersL (n &&& (n - 1)) := by
  have : ((List.range 128).all fun n => n == 0 || membersL n == (Lib.ctz 64 n : Int) :: membersL (n &&& (n - 1))) = true := by decide +kernel
  have h1 := List.all_eq_true.1 this n (by simpa using h)
  simpa [h0] using h1
theorem and_less (n : Nat) (h : n < 128) (h0 : n ≠ 0) : n &&& (n - 1) < n := by
  have : ((List.range 128).all fun n => n == 0 || decide (n &&& (n - 1) < n)) = true := by decide +kernel
  have h1 := List.all_eq_true.1 this n (by simpa using h)
  simpa [h0] using h1
theorem and_bits (n : Nat) (h : n < 128) (h0 : n ≠ 0) : bits BinOp.and IntKind.u64 (n : Int) ((n : Int) - 1) = ((n &&& (n - 1) : Nat) : Int) := by
  have : ((List.range 128).all fun n => n == 0 || bits BinOp.and IntKind.u64 (n : Int) ((n : Int) - 1) == ((n &&& (n - 1) : Nat) : Int)) = true := by decide +kernel
  have h1 := List.all_eq_true.1 this n (by simpa using h)
  simpa [h0] using h1
theorem make_cap {P : Program} (t e : TypeId) {z : Value} {s b : Nat} (ht : P.underlying t = some (.slice e)) (h : (P.info? e).map (fun i => (i.zero, i.size, i.bytes)) = some (some z, s, b)) (n : Nat) (hb : b * n ≤ 281474976710656) (h63 : n ≤ 9223372036854775807) (w : World) :
    (Instr.makeSlice t (.int .i64 0) (.int .i64 (n : Int))).run P w = .ok (.slice (some ⟨w.heap.size, 0, none⟩) 0 n) (w.alloc (.cells (madeCells z.cells (n * s)) e)) := by
  obtain ⟨i, hi, hz, hs, hby⟩ := info_of h
  have hb' : (i.bytes : Int) * (n : Int) ≤ 281474976710656 := by
    have h : ((i.bytes * n : Nat) : Int) ≤ 281474976710656 := by rw [hby]; omega
    rwa [Int.natCast_mul] at h
  have hr := run_make (P := P) w t e i z ht hi hz .i64 .i64 0 n (by omega) (by omega) hb' (by omega)
  simp only [Int.toNat_natCast, Int.toNat_zero] at hr
  rw [hr, hs]
end Go.Proofs.Yteciocieaaoocaa
