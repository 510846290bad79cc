/- Shared sets of the reference: a copy. -/
import Derived.Test.YtiggckhlbklngaaDoorSharedS
import Derived.Test.YtiggckhlbklngaaDoorSetPut
namespace Go.Proofs.YtiggckhlbklngaaDoor
open Go.RowKit
set_option maxRecDepth 8000
/-- 'append([]int{}, v...)'. -/
theorem copy_run {xs : List Int} {A : Option Addr} {c : Nat} (W : World) (hv : Sl1 encI W (.slice A xs.length c) xs) (hl : xs.length ≤ 1000000) :
    ∃ A' c' W', (Builtin.append_ #[23, 23] 23 #[.slice (some ⟨W.heap.size, 0, none⟩) 0 0, .slice A xs.length c]).run Tryd.prog (W.alloc (.cells #[] 3)) = .ok (.slice A' xs.length c') W' ∧ Val0 W.heap.size W' (.slice A' xs.length c') xs ∧ Ext W W' := by
  obtain ⟨v1, W', hrun, hrow, hg⟩ := run_cat (P := Tryd.prog) (t := 23) (ty := 23) (e := 3) Tryd.underlying23 pinfo_I rfl (by omega) (Row.made (m := 1) (enc := one encI) W 3) (hv.of_.ext ((Ext.refl W).alloc (.cells #[] 3))) (fun x _ j => rfl) (by simp; omega) (by omega) (by simp)
  rw [List.nil_append] at hrow
  have he : Ext W W' := Ext.grown ((Ext.refl W).alloc (.cells #[] 3)) hg (fun k hk => by injection hk with hk; subst hk; exact Nat.le_refl _)
  obtain ⟨A', c', rfl, -⟩ := hrow.cell.1
  exact ⟨A', c', W', hrun, Val0.of_row hrow, he⟩
set_option maxHeartbeats 2000000 in
theorem l1Own_any {vi vo : Value} {i o : List Int} (w : World) (hi : Sl1 encI w vi i) (ho : Sl1 encI w vo o) (hli : i.length ≤ 1000000) (hlo : o.length ≤ 1000000) :
    Calls Tryd.prog 60 #[.agg #[vi, vo]] w (RetSh w i o) := by
  have HI := Lib.hid hi
  have HO := Lib.hid ho
  obtain ⟨A, c, rfl, -⟩ := id hi
  obtain ⟨A', c', rfl, -⟩ := id ho
  clear hi ho
  obtain ⟨W3, hW3⟩ : ∃ W3, ((w.alloc (.cells #[.slice A i.length c, .slice A' o.length c'] 40)).alloc (.cells #[.slice none 0 0, .slice none 0 0] 40)).alloc (.cells #[.slice A i.length c, .slice A' o.length c'] 40) = W3 := ⟨_, rfl⟩
  have hs3 : W3.heap.size = w.heap.size + 1 + 1 + 1 := by rw [← hW3]; simp
  have hE3 : Ext w W3 := by rw [← hW3]; exact (((Ext.refl w).alloc _).alloc _).alloc _
  have hbx : W3.cell? ⟨w.heap.size, 1, none⟩ = some (.slice A' o.length c') := by
    rw [← hW3]
    exact (((Ext.refl _).alloc _).alloc _).cell (w := w.alloc (.cells #[.slice A i.length c, .slice A' o.length c'] 40)) (by rw [cell_of_row _ _ _ _ _ (0, 0) (heap_alloc_new w _)]; rfl)
  have hbx0 : W3.cell? ⟨w.heap.size, 0, none⟩ = some (.slice A i.length c) := by
    rw [← hW3]
    exact (((Ext.refl _).alloc _).alloc _).cell (w := w.alloc (.cells #[.slice A i.length c, .slice A' o.length c'] 40)) (by rw [cell_of_row _ _ _ _ _ (0, 0) (heap_alloc_new w _)]; rfl)
  have hb2 : BlkN W3 (w.heap.size + 1) 2 := by
    have h1 := (BlkN.made (w.alloc (.cells #[.slice A i.length c, .slice A' o.length c'] 40)) #[.slice none 0 0, .slice none 0 0] 40).ext ((Ext.refl _).alloc (.cells #[.slice A i.length c, .slice A' o.length c'] 40))
    rw [hW3] at h1
    simpa using h1
  have hb3 : BlkN W3 (w.heap.size + 1 + 1) 2 := by
    have h1 := BlkN.made ((w.alloc (.cells #[.slice A i.length c, .slice A' o.length c'] 40)).alloc (.cells #[.slice none 0 0, .slice none 0 0] 40)) #[.slice A i.length c, .slice A' o.length c'] 40
    rw [hW3] at h1
    simpa using h1
  obtain ⟨A1, c1, W5, hr1, hv1, he5⟩ := copy_run W3 (HI.out.ext hE3) hli
  have hE6 : Ext w (W5.setCell ⟨w.heap.size + 1 + 1, 0, none⟩ (.slice A1 i.length c1)) := (hE3.trans he5).setCell (by simp; omega) _
  obtain ⟨A2, c2, W8, hr2, hv2, he8⟩ := copy_run (W5.setCell ⟨w.heap.size + 1 + 1, 0, none⟩ (.slice A1 i.length c1)) (HO.out.ext hE6) hlo
  have hsz6 : (W5.setCell ⟨w.heap.size + 1 + 1, 0, none⟩ (.slice A1 i.length c1)).heap.size = W5.heap.size := by simp
  rw [hs3] at hr1 hv1
  rw [hsz6] at hr2 hv2
  have hb36 := ((hb3.ext he5).set ⟨w.heap.size + 1 + 1, 0, none⟩ (.slice A1 i.length c1))
  have hb38 := hb36.ext he8
  have hb28 := (((hb2.ext he5).set ⟨w.heap.size + 1 + 1, 0, none⟩ (.slice A1 i.length c1)).ext he8).set ⟨w.heap.size + 1 + 1, 1, none⟩ (.slice A2 o.length c2)
  have q0 : W8.cell? ⟨w.heap.size + 1 + 1, 0, none⟩ = some (.slice A1 i.length c1) := he8.cell (cell_set_self (hb3.ext he5) (by omega) _)
  have q1 := cell_set_self hb38 (j := 1) (by omega) (.slice A2 o.length c2)
  have qf0 := (hb3.ext he5).free 0
  have qf1 := hb38.free 1
  obtain ⟨d0, hd0⟩ := (hb3.ext he5).cell (j := 0) (by omega)
  obtain ⟨d1, hd1⟩ := hb38.cell (j := 1) (by omega)
  have bx5 : (W5.setCell ⟨w.heap.size + 1 + 1, 0, none⟩ (.slice A1 i.length c1)).cell? ⟨w.heap.size, 1, none⟩ = some (.slice A' o.length c') := by
    rw [cell_set_other (by intro e; injection e with e _ _; omega)]
    exact he5.cell hbx
  have bx6 := ((Ext.refl (W5.setCell ⟨w.heap.size + 1 + 1, 0, none⟩ (.slice A1 i.length c1))).alloc (.cells #[] 3)).cell bx5
  obtain ⟨hf0, hf1, ⟨d2, hd2⟩, ⟨d3, hd3⟩, hs0, hs1'⟩ := box_facts hb28 (.slice A1 i.length c1) (.slice A2 o.length c2)
  have HR1 := Lib.hid hr1
  have HR2 := Lib.hid hr2
  have HV1 := Lib.hid hv1
  have HV2 := Lib.hid hv2
  have HE := Lib.hid (hE6.trans he8)
  have HE8 := Lib.hid he8
  have HS5 : Hid (w.heap.size + 1 + 1 + 1 ≤ W5.heap.size) := by have := he5.size; rw [hs3] at this; exact this
  clear hr1 hr2 hv1 hv2 hE6 he8 he5 hE3 hb2 hb3 hb36 hb38 hb28 hbx hsz6
  go_enter Tryd.func60, Tryd.ntmps60
  go_wp2_with (at_builtin; first | (refine wpList_append_run rfl rfl rfl rfl HR1.out ?_; clear HR1) | refine wpList_append_run rfl rfl rfl rfl HR2.out ?_)
  refine bodyPost_ret (v := .agg #[.slice A1 i.length c1, .slice A2 o.length c2]) (by simp [results, Tryd.results60, go_sem, hs0, hs1']) rfl ?_
  have hlo1 : w.heap.size + 1 + 1 < W5.heap.size := by have := HS5.out; omega
  refine ⟨_, _, rfl, ?_, ?_, ((HE.out.setCell (by simp; omega) _).setCell (by simp) _).setCell (by simp) _⟩
  · exact ((((((HV1.out.set (by omega)).ext HE8.out).set (by omega)).set (by omega)).set (by omega))).low (by omega)
  · exact (((HV2.out.set (by omega)).set (by omega)).set (by omega)).low (by omega)
set_option maxHeartbeats 1000000 in
theorem sameShared_any {v1 v2 u1 u2 : Value} {i o : List Int} (w : World) (h1 : Sl1 encI w v1 i) (h2 : Sl1 encI w v2 o) (h3 : Sl1 encI w u1 i) (h4 : Sl1 encI w u2 o) (hli : i.length ≤ 1000000) (hlo : o.length ≤ 1000000) :
    Calls Tryd.prog 26 #[.agg #[v1, v2], .agg #[u1, u2]] w fun e w' => e = .returned (.bool true) ∧ Ext w w' := by
  have HH := Lib.hid (And.intro h1 (And.intro h2 (And.intro h3 h4)))
  have hE : Ext w ((w.alloc (.cells #[v1, v2] 40)).alloc (.cells #[u1, u2] 40)) := ((Ext.refl w).alloc _).alloc _
  have HE := Lib.hid hE
  have b1 : ((w.alloc (.cells #[v1, v2] 40)).alloc (.cells #[u1, u2] 40)).cell? ⟨w.heap.size, 1, none⟩ = some v2 := ((Ext.refl (w.alloc (.cells #[v1, v2] 40))).alloc _).cell (by rw [cell_of_row _ _ _ _ _ (0, 0) (heap_alloc_new w _)]; rfl)
  have b2 : ((w.alloc (.cells #[v1, v2] 40)).alloc (.cells #[u1, u2] 40)).cell? ⟨w.heap.size + 1, 1, none⟩ = some u2 := by simp
  have HB := Lib.hid (And.intro b1 b2)
  clear h1 h2 h3 h4 hE b1 b2
  go_enter Tryd.func26, Tryd.ntmps26
  go_wp2_with fail
  refine (sameInts_any _ (HH.out.1.ext HE.out) (HH.out.2.2.1.ext HE.out) (by omega)).mono ?_
  rintro e w1 ⟨rfl, b1⟩
  have c1 := b1.cell HB.out.1
  have c2 := b1.cell HB.out.2
  have HE1 := Lib.hid (HE.out.trans b1)
  clear b1
  go_wp2_with fail
  refine (sameInts_any _ (HH.out.2.1.ext HE1.out) (HH.out.2.2.2.ext HE1.out) (by omega)).mono ?_
  rintro e w2 ⟨rfl, b2⟩
  go_wp2
  go_returns
  exact ⟨rfl, HE1.out.trans b2⟩
end Go.Proofs.YtiggckhlbklngaaDoor
