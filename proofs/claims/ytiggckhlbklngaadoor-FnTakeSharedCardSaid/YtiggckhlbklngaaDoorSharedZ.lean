/- append onto an empty list without room. -/
import Derived.Test.YtiggckhlbklngaaDoorSharedO
import Derived.ArgAppend
namespace Go.Proofs.YtiggckhlbklngaaDoor
open Go.RowKit
set_option maxRecDepth 8000
theorem zero_cat {lo g : Nat} {xs : List Int} {A : Option Addr} {c : Nat} (W : World) (hg : lo ≤ g) (hv : Sl1 encI W (.slice A xs.length c) xs) (hl : xs.length ≤ 1000000) (hb : lo ≤ W.heap.size) :
    ∃ A' c' W', (Builtin.append_ #[23, 23] 23 #[.slice (some ⟨g, 0, none⟩) 0 0, .slice A xs.length c]).run Tryd.prog W = .ok (.slice A' xs.length c') W' ∧ Val0 lo W' (.slice A' xs.length c') xs ∧ Ext W W' := by
  obtain ⟨i, hi, hz, hs, hby⟩ := info_of pinfo_I
  obtain ⟨A0, c0, hA, hcell⟩ := hv
  injection hA with e1 _ e3
  subst e1 e3
  by_cases h0 : 0 < xs.length
  · obtain ⟨b, off, rfl, hlt, hc⟩ := hcell h0
    obtain ⟨v', w', hrun, hown, hgr⟩ := run_append_arg_grows (P := Tryd.prog) W 23 23 3 i (.int .i64 0) 1 8 Tryd.underlying23 hi hz hs hby rfl (by omega) ⟨g, 0, none⟩ 0 0 [] (by simp)
      (fun j u hu => by simp at hu)
      ⟨b, off, none⟩ xs.length c (xs.map (Value.int .i64)) (by simp)
      (fun j u hu => by
        rw [List.getElem?_map] at hu
        obtain ⟨y, hy, rfl⟩ := Option.map_eq_some_iff.1 hu
        have hadd : (⟨b, off, none⟩ : Addr).add j = ⟨b, off + j, none⟩ := by unfold Addr.add; split <;> simp_all
        rw [hadd]
        exact hc j y hy)
      (by omega) (by simp only [maxLen]; omega) (by omega)
    have he : xs.map (Value.int .i64) = xs.flatMap (cellsOf_ 1 (one encI)) := by
      have hall : ∀ zs : List Int, zs.map (Value.int .i64) = zs.flatMap (cellsOf_ 1 (one encI)) := fun zs => by
        induction zs with
        | nil => rfl
        | cons z zs ih => rw [List.flatMap_cons, List.map_cons, ih]; rfl
      exact hall xs
    rw [Nat.zero_add, List.nil_append, he] at hown
    have hrow : Row 3 1 (one encI) W.heap.size w' v' xs := hown
    obtain ⟨A', c', rfl, -⟩ := hrow.cell.1
    exact ⟨A', c', w', hrun, (Val0.of_row hrow).low hb, hgr.os, hgr.tape, hgr.output, hgr.size, fun k hk => hgr.block k hk (by simp)⟩
  · have : xs = [] := List.eq_nil_of_length_eq_zero (by omega)
    subst this
    refine ⟨some ⟨g, 0, none⟩, 0, W, ?_, ⟨Sl1.nil _ _ _ _, Own.nil _ _ _ _, fun A n c h => by injection h with _ h2 h3; omega⟩, Ext.refl _⟩
    cases A with
    | none => simp [Builtin.append_, run_underlying Tryd.underlying23, sizeOf, typeInfo, hi, Builtin.lenOf, Builtin.firstCells, storeCells]
    | some a =>
      have hrun := run_append_room_cells (P := Tryd.prog) W 23 23 3 i Tryd.underlying23 hi g 0 0 0 a 0 c [] (by simp) (fun j u hu => by simp at hu) (by simp) (by omega) (fun j hj => by simp at hj) (fun j hj => by simp at hj)
      simpa [World.setCells] using hrun
end Go.Proofs.YtiggckhlbklngaaDoor
