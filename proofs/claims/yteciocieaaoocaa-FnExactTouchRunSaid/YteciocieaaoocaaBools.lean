/- Slices of bools: the laws' helpers; a copy of a list of ints, with its room. -/
import Derived.Test.YteciocieaaoocaaInts
namespace Go.Proofs.Yteciocieaaoocaa
open Go.RowKit

set_option maxHeartbeats 400000 in
theorem eqBoolS_any {v v' : Value} {xs : List Bool} (w : World) (h : Sl1 encB w v xs) (h' : Sl1 encB w v' xs) (hlen : xs.length ≤ 2097152) :
    Calls Try.prog 9 #[v, v'] w fun e w' => e = .returned (.bool true) ∧ Ext w w' := by
  obtain ⟨A, c, rfl, h⟩ := h
  obtain ⟨A', c', rfl, h'⟩ := h'
  go_enter Try.func9, Try.ntmps9
  go_wp2
  go_loopw [5] (fun i wr => Ext w wr ∧ ∃ k : Nat, k ≤ xs.length ∧ i = .int .i64 k) (fun i _ => xs.length - (intOf i).toNat)
  case atStart => exact ⟨Ext.refl _, 0, Nat.zero_le _, rfl⟩
  case round =>
    obtain ⟨hb, k, hk, rfl⟩ := hrel
    by_cases hlt : k < xs.length
    · obtain ⟨b, off, rfl, hbl, hc⟩ := h (by omega)
      obtain ⟨b', off', rfl, hbl', hc'⟩ := h' (by omega)
      obtain ⟨x, hx⟩ := at_some hlt
      have c0 : ∀ e, (over wr e).cell? ⟨b, off + k, none⟩ = some (.bool x) := over_cell (hb.cell (hc k x hx))
      have d0 : ∀ e, (over wr e).cell? ⟨b', off' + k, none⟩ = some (.bool x) := over_cell (hb.cell (hc' k x hx))
      clear hx h h' hc hc'
      go_wp2
      refine wp_region_over (by kernel_rfl) (by kernel_rfl) ?_
      repeat (go_big_quiet_step ((fail)))
      refine wpQuiet_nil ?_
      intro w1 hb1
      go_wp2
      go_roundw
      case rel => exact ⟨hb.trans hb1, k + 1, by omega, by go_num⟩
      case measure => simp [intOf]; omega
    · go_wp2
      go_returns
      exact ⟨rfl, hb⟩
def markB (k0 n : Nat) : List Bool := (List.range n).map fun i => (((k0 + i : Nat) : Int) % 3 == 0)
theorem markB_at {k0 n i : Nat} {x : Bool} (h : (markB k0 n)[i]? = some x) : x = (((k0 + i : Nat) : Int) % 3 == 0) := by
  unfold markB at h
  rw [List.getElem?_map] at h
  obtain ⟨j, hj, rfl⟩ := Option.map_eq_some_iff.1 h
  have := (List.getElem?_eq_some_iff.1 hj).2
  simp at this
  rw [this]
set_option maxHeartbeats 400000 in
theorem markBoolS_any {v : Value} {xs : List Bool} {lo : Nat} (w : World) (k0 : Nat) (h : Sl1 encB w v xs) (ho : Own lo w v) (hlen : xs.length ≤ 2097152) (hk0 : k0 ≤ 1073741824) :
    Calls Try.prog 12 #[v, .int .i64 (k0 : Int)] w fun e w' => e = .returned (.int .i64 ((k0 + xs.length : Nat) : Int)) ∧ Sl1 encB w' v (markB k0 xs.length) ∧ Only v w w' := by
  obtain ⟨A, c, rfl, h⟩ := h
  have hst : ∀ b off, A = some ⟨b, off, none⟩ → Marked w b off xs.length 0 (fun c => .bool (((k0 + c : Nat) : Int) % 3 == 0)) := fun b off hA =>
    ⟨fun i hi => by
      obtain ⟨b', off', hA', _, hc⟩ := h (by omega)
      rw [hA] at hA'
      cases hA'
      obtain ⟨x, hx⟩ := at_some hi
      exact ⟨_, hc i x hx⟩, fun i hi => absurd hi (Nat.not_lt_zero i)⟩
  have Hst := Lib.hid hst
  clear hst
  go_enter Try.func12, Try.ntmps12
  go_wp2
  go_loopw [1, 5] (fun a i wr => Only (.slice A xs.length c) w wr ∧ ∃ k : Nat, k ≤ xs.length ∧ i = .int .i64 k ∧ a = .int .i64 ((k0 + k : Nat) : Int) ∧ Hid (∀ b off, A = some ⟨b, off, none⟩ → Marked wr b off xs.length k (fun c => .bool (((k0 + c : Nat) : Int) % 3 == 0)))) (fun _ i _ => xs.length - (intOf i).toNat)
  case atStart => exact ⟨Only.of_ext (Ext.refl _), 0, Nat.zero_le _, rfl, by simp, Hst.out⟩
  case round =>
    obtain ⟨hb, k, hk, rfl, rfl, HM⟩ := hrel
    by_cases hlt : k < xs.length
    · obtain ⟨b, off, rfl, hbl, hc⟩ := h (by omega)
      have hm := HM.out b off rfl
      obtain ⟨u0, g0⟩ := hm.1 k hlt
      have F0 : wr.frozen? ⟨b, off + k, none⟩ = false := (Own.only ho hb).cell_free (by omega) _
      have Hm := Lib.hid hm
      clear h hc hm HM Hst
      go_wp2
      go_roundw
      case rel => exact ⟨hb.trans (Only.setCell (by omega) _ _), k + 1, by omega, by go_num, by go_num, fun b' off' e => by
        cases e
        exact Marked.set Hm.out hlt rfl (by rfl)⟩
      case measure => simp [intOf]; omega
    · obtain rfl : k = xs.length := by omega
      go_wp2
      go_returns
      refine ⟨rfl, ⟨A, c, by simp [markB], fun hn => ?_⟩, hb⟩
      have hn' : 0 < xs.length := by simpa [markB] using hn
      obtain ⟨b, off, rfl, hbl, hc⟩ := h hn'
      refine ⟨b, off, rfl, Nat.lt_of_lt_of_le hbl hb.size, fun i x hx => ?_⟩
      have hi : i < xs.length := by have := (List.getElem?_eq_some_iff.1 hx).1; simpa [markB] using this
      rw [(HM.out b off rfl).2 i hi, markB_at hx, encB]
set_option maxHeartbeats 400000 in
theorem heldBoolS_any {v : Value} (w : World) (k0 n : Nat) (h : Sl1 encB w v (markB k0 n)) (hlen : n ≤ 2097152) (hk0 : k0 ≤ 1073741824) :
    Calls Try.prog 13 #[v, .int .i64 (k0 : Int)] w fun e w' => e = .returned (.int .i64 ((k0 + n : Nat) : Int)) ∧ Ext w w' := by
  obtain ⟨A, c, rfl, h⟩ := h
  have hl : (markB k0 n).length = n := by simp [markB]
  rw [hl] at h ⊢
  clear hl
  go_enter Try.func13, Try.ntmps13
  go_wp2
  go_loopw [1, 5] (fun a i wr => Ext w wr ∧ ∃ k : Nat, k ≤ n ∧ i = .int .i64 k ∧ a = .int .i64 ((k0 + k : Nat) : Int)) (fun _ i _ => n - (intOf i).toNat)
  case atStart => exact ⟨Ext.refl _, 0, Nat.zero_le _, rfl, by simp⟩
  case round =>
    obtain ⟨hb, k, hk, rfl, rfl⟩ := hrel
    by_cases hlt : k < n
    · obtain ⟨b, off, rfl, hbl, hc⟩ := h (by omega)
      have c0 : wr.cell? ⟨b, off + k, none⟩ = some (.bool (((k0 + k : Nat) : Int) % 3 == 0)) := hb.cell (hc k _ (by simp [markB, hlt]))
      clear h hc
      go_wp2
      go_roundw
      case rel => exact ⟨hb, k + 1, by omega, by go_num, by go_num⟩
      case measure => simp [intOf]; omega
    · obtain rfl : k = n := by omega
      go_wp2
      go_returns
      exact ⟨rfl, hb⟩
set_option maxHeartbeats 400000 in
theorem toIntS_cap {v : Value} {xs : List Int} (w : World) (h : Sl1 encI w v xs) (hlen : xs.length ≤ 2097152) :
    Calls Try.prog 7 #[v] w (fun e w' => ∃ v, e = .returned v ∧ Sl1 encI w' v xs ∧ Own w.heap.size w' v ∧ Ext w w' ∧ ∀ A n c, v = .slice A n c → n ≤ c) := by
  obtain ⟨A, c, rfl, h⟩ := h
  have hmk := run_make_of (P := Try.prog) 22 3 Try.underlying22 info_int xs.length (by omega) (by omega)
  simp only [Nat.mul_one] at hmk
  go_enter Try.func7, Try.ntmps7
  go_wp2
  go_loopw [4] (fun i wr => Ext w wr ∧ ∃ k : Nat, k ≤ xs.length ∧ i = .int .i64 k ∧ Filling1 encI w.heap.size xs.length xs k wr) (fun i _ => xs.length - (intOf i).toNat)
  case atStart => exact ⟨(Ext.refl _).alloc _, 0, Nat.zero_le _, rfl, Filling1.start _ _ (size_madeCells _ _)⟩
  case round =>
    obtain ⟨hb, k, hk, rfl, hf⟩ := hrel
    clear hmk
    by_cases hlt : k < xs.length
    · obtain ⟨b, off, rfl, hbl, hc⟩ := h (by omega)
      obtain ⟨x, hx⟩ := at_some hlt
      have c0 : wr.cell? ⟨b, off + k, none⟩ = some (.int .i64 x) := hb.cell (hc k x hx)
      obtain ⟨u0, g0⟩ : ∃ u, wr.cell? ⟨w.heap.size, k, none⟩ = some u := hf.1.cell (by omega)
      have F0 : wr.frozen? ⟨w.heap.size, k, none⟩ = false := hf.1.free _
      have hx' := Lib.hid hx
      clear hx h hc
      go_wp2
      go_roundw
      case rel => exact ⟨hb.setCell (by exact Nat.le_refl _) _, k + 1, by omega, by go_num, Filling1.set hf hlt hx'.out⟩
      case measure => simp [intOf]; omega
    · obtain rfl : k = xs.length := by omega
      go_wp2
      go_returns
      exact ⟨_, rfl, hf.done _, hf.1.own (Nat.le_refl _) _ _ _, hb, fun A n c e => by injection e with _ e2 e3; omega⟩
end Go.Proofs.Yteciocieaaoocaa
