/- What a row's listed table of bits.TrailingZeros64 says of the world. -/
import Derived.Test.YtiggckhlbklngaaDoorRows
import Derived.Test.YtiggckhlbklngaaDoorMembers
import Derived.Lib.LaidU8
import Derived.LaidSub
namespace Go.Proofs.YtiggckhlbklngaaDoor
open Go.RowKit Go.Lib
theorem tab64_of_laid {laid : List (String × DataW Unit)} {W : World} (hp : (laid.all fun x => x.2.handleName?.isNone) = true) (hm : ("math/bits.deBruijn64tab", Rows.laid_math_bits_deBruijn64tab) ∈ laid) (h : laidMetH Tryd.prog laid W) : Tab64 1 W := by
  have h1 := (laidMetH_iff.1 h).1
  have h2 : ("math/bits.deBruijn64tab", Rows.laid_math_bits_deBruijn64tab) ∈ laid.filter fun x => x.2.handleName?.isNone := List.mem_filter.2 ⟨hm, List.all_eq_true.1 hp _ hm⟩
  obtain ⟨g, t, cs, fuel, p, hg, hty, hvar, hd⟩ := Lib.laidMet.reads h1 h2
  obtain rfl := Option.some.inj ((show Tryd.prog.globalNamed "math/bits.deBruijn64tab" = some 1 by kernel_rfl).symm.trans hg)
  obtain rfl := Option.some.inj ((show (Tryd.prog.globals[1]?).map (·.type) = some 122 by kernel_rfl).symm.trans hty)
  have hcs := cells_of_tab (zs := Lib.deBruijn64tab.map fun (n : Nat) => (n : Int)) Tryd.underlying122 Tryd.underlying5 (by kernel_rfl) (by kernel_rfl) hd
  intro j hj
  rw [World.var?_cell hg hvar j, ← Array.getElem?_toList, hcs]
  have hl : j < Lib.deBruijn64tab.length := hj
  simp [List.getD, hl]
end Go.Proofs.YtiggckhlbklngaaDoor
