/- Slices of ints: the laws' helpers, and slices.IndexFunc, ContainsFunc. -/
import Derived.Test.YtmdnfedgicbjiaaRows
import Derived.Test.YtmdnfedgicbjiaaBase
namespace Go.Proofs.Ytmdnfedgicbjiaa
open Go.RowKit

/-! ### A block of ints of the call's own -/
def Filling1 {α : Type} (enc : α → Value) (g N : Nat) (xs : List α) (k : Nat) (w : World) : Prop :=
  BlkN w g N ∧ ∀ i x, i < k → xs[i]? = some x → w.cell? ⟨g, i, none⟩ = some (enc x)
section
variable {α : Type} {enc : α → Value} {g N k : Nat} {xs : List α} {w w' : World} {x : α}
theorem Filling1.start (e : TypeId) (cs : Array Value) (hN : cs.size = N) : Filling1 enc w.heap.size N xs 0 (w.alloc (.cells cs e)) :=
  ⟨hN ▸ BlkN.made w cs e, fun i _ hi => absurd hi (Nat.not_lt_zero i)⟩
theorem Filling1.ext (h : Filling1 enc g N xs k w) (hb : Ext w w') : Filling1 enc g N xs k w' := ⟨h.1.ext hb, fun i x hi hx => hb.cell (h.2 i x hi hx)⟩
theorem Filling1.set (h : Filling1 enc g N xs k w) (hk : k < N) (hx : xs[k]? = some x) : Filling1 enc g N xs (k + 1) (w.setCell ⟨g, k, none⟩ (enc x)) := by
  refine ⟨h.1.set _ _, fun i y hi hy => ?_⟩
  by_cases e : i = k
  · subst e
    rw [hx] at hy
    cases hy
    exact cell_set_self h.1 hk _
  · rw [cell_set_other]
    · exact h.2 i y (by omega) hy
    · intro e'
      injection e' with _ e' _
      omega
theorem Filling1.done (h : Filling1 enc g N xs xs.length w) (c : Nat) : Sl1 enc w (.slice (some ⟨g, 0, none⟩) xs.length c) xs := by
  refine ⟨_, c, rfl, fun _ => ⟨g, 0, rfl, h.1.lt, fun i x hx => ?_⟩⟩
  rw [Nat.zero_add]
  exact h.2 i x (List.getElem?_eq_some_iff.1 hx).1 hx
end

theorem info_int : (Try.prog.info? 3).map (fun i => (i.zero, i.size, i.bytes)) = some (some (.int .i64 0), 1, 8) := by kernel_rfl
set_option maxHeartbeats 400000 in
theorem toIntS_any {v : Value} {xs : List Int} (w : World) (h : Sl1 encI w v xs) (hlen : xs.length ≤ 2097152) :
    Calls Try.prog 7 #[v] w (Ret1 encI w xs) := by
  obtain ⟨A, c, rfl, h⟩ := h
  have hmk := run_make_of (P := Try.prog) 22 3 Try.underlying22 info_int xs.length (by omega) (by omega)
  simp only [Nat.mul_one] at hmk
  go_enter Try.func7, Try.ntmps7
  go_wp2
  go_loopw [4] (fun i wr => Ext w wr ∧ ∃ k : Nat, k ≤ xs.length ∧ i = .int .i64 k ∧ Filling1 encI w.heap.size xs.length xs k wr) (fun i _ => xs.length - (intOf i).toNat)
  case atStart => exact ⟨(Ext.refl _).alloc _, 0, Nat.zero_le _, rfl, Filling1.start _ _ (size_madeCells _ _)⟩
  case round =>
    obtain ⟨hb, k, hk, rfl, hf⟩ := hrel
    clear hmk
    by_cases hlt : k < xs.length
    · obtain ⟨b, off, rfl, hbl, hc⟩ := h (by omega)
      obtain ⟨x, hx⟩ := at_some hlt
      have c0 : wr.cell? ⟨b, off + k, none⟩ = some (.int .i64 x) := hb.cell (hc k x hx)
      obtain ⟨u0, g0⟩ : ∃ u, wr.cell? ⟨w.heap.size, k, none⟩ = some u := hf.1.cell (by omega)
      have F0 : wr.frozen? ⟨w.heap.size, k, none⟩ = false := hf.1.free _
      have hx' := Lib.hid hx
      clear hx h hc
      go_wp2
      go_roundw
      case rel => exact ⟨hb.setCell (by exact Nat.le_refl _) _, k + 1, by omega, by go_num, Filling1.set hf hlt hx'.out⟩
      case measure => simp [intOf]; omega
    · obtain rfl : k = xs.length := by omega
      go_wp2
      go_returns
      exact ⟨_, rfl, hf.done _, hf.1.own (Nat.le_refl _) _ _ _, hb⟩
set_option maxHeartbeats 400000 in
theorem eqIntS_any {v v' : Value} {xs : List Int} (w : World) (h : Sl1 encI w v xs) (h' : Sl1 encI w v' xs) (hlen : xs.length ≤ 2097152) :
    Calls Try.prog 9 #[v, v'] w fun e w' => e = .returned (.bool true) ∧ Ext w w' := by
  obtain ⟨A, c, rfl, h⟩ := h
  obtain ⟨A', c', rfl, h'⟩ := h'
  go_enter Try.func9, Try.ntmps9
  go_wp2
  go_loopw [5] (fun i wr => Ext w wr ∧ ∃ k : Nat, k ≤ xs.length ∧ i = .int .i64 k) (fun i _ => xs.length - (intOf i).toNat)
  case atStart => exact ⟨Ext.refl _, 0, Nat.zero_le _, rfl⟩
  case round =>
    obtain ⟨hb, k, hk, rfl⟩ := hrel
    by_cases hlt : k < xs.length
    · obtain ⟨b, off, rfl, hbl, hc⟩ := h (by omega)
      obtain ⟨b', off', rfl, hbl', hc'⟩ := h' (by omega)
      obtain ⟨x, hx⟩ := at_some hlt
      have c0 : ∀ e, (over wr e).cell? ⟨b, off + k, none⟩ = some (.int .i64 x) := over_cell (hb.cell (hc k x hx))
      have d0 : ∀ e, (over wr e).cell? ⟨b', off' + k, none⟩ = some (.int .i64 x) := over_cell (hb.cell (hc' k x hx))
      clear hx h h' hc hc'
      go_wp2
      refine wp_region_over (by kernel_rfl) (by kernel_rfl) ?_
      repeat (go_big_quiet_step ((fail)))
      refine wpQuiet_nil ?_
      intro w1 hb1
      go_wp2
      go_roundw
      case rel => exact ⟨hb.trans hb1, k + 1, by omega, by go_num⟩
      case measure => simp [intOf]; omega
    · go_wp2
      go_returns
      exact ⟨rfl, hb⟩
def markI (k0 n : Nat) : List Int := (List.range n).map fun i => ((k0 + i : Nat) : Int)
theorem markI_at {k0 n i : Nat} {x : Int} (h : (markI k0 n)[i]? = some x) : x = ((k0 + i : Nat) : Int) := by
  unfold markI at h
  rw [List.getElem?_map] at h
  obtain ⟨j, hj, rfl⟩ := Option.map_eq_some_iff.1 h
  have := (List.getElem?_eq_some_iff.1 hj).2
  simp at this
  rw [this]
set_option maxHeartbeats 400000 in
theorem markIntS_any {v : Value} {xs : List Int} {lo : Nat} (w : World) (k0 : Nat) (h : Sl1 encI w v xs) (ho : Own lo w v) (hlen : xs.length ≤ 2097152) (hk0 : k0 ≤ 1073741824) :
    Calls Try.prog 10 #[v, .int .i64 (k0 : Int)] w fun e w' => e = .returned (.int .i64 ((k0 + xs.length : Nat) : Int)) ∧ Sl1 encI w' v (markI k0 xs.length) ∧ Only v w w' := by
  obtain ⟨A, c, rfl, h⟩ := h
  have hst : ∀ b off, A = some ⟨b, off, none⟩ → Marked w b off xs.length 0 (fun c => .int .i64 ((k0 + c : Nat) : Int)) := fun b off hA =>
    ⟨fun i hi => by
      obtain ⟨b', off', hA', _, hc⟩ := h (by omega)
      rw [hA] at hA'
      cases hA'
      obtain ⟨x, hx⟩ := at_some hi
      exact ⟨_, hc i x hx⟩, fun i hi => absurd hi (Nat.not_lt_zero i)⟩
  have Hst := Lib.hid hst
  clear hst
  go_enter Try.func10, Try.ntmps10
  go_wp2
  go_loopw [1, 5] (fun a i wr => Only (.slice A xs.length c) w wr ∧ ∃ k : Nat, k ≤ xs.length ∧ i = .int .i64 k ∧ a = .int .i64 ((k0 + k : Nat) : Int) ∧ Hid (∀ b off, A = some ⟨b, off, none⟩ → Marked wr b off xs.length k (fun c => .int .i64 ((k0 + c : Nat) : Int)))) (fun _ i _ => xs.length - (intOf i).toNat)
  case atStart => exact ⟨Only.of_ext (Ext.refl _), 0, Nat.zero_le _, rfl, by simp, Hst.out⟩
  case round =>
    obtain ⟨hb, k, hk, rfl, rfl, HM⟩ := hrel
    by_cases hlt : k < xs.length
    · obtain ⟨b, off, rfl, hbl, hc⟩ := h (by omega)
      have hm := HM.out b off rfl
      obtain ⟨u0, g0⟩ := hm.1 k hlt
      have F0 : wr.frozen? ⟨b, off + k, none⟩ = false := (Own.only ho hb).cell_free (by omega) _
      have Hm := Lib.hid hm
      clear h hc hm HM Hst
      go_wp2
      go_roundw
      case rel => exact ⟨hb.trans (Only.setCell (by omega) _ _), k + 1, by omega, by go_num, by go_num, fun b' off' e => by
        cases e
        exact Marked.set Hm.out hlt rfl (by rfl)⟩
      case measure => simp [intOf]; omega
    · obtain rfl : k = xs.length := by omega
      go_wp2
      go_returns
      refine ⟨rfl, ⟨A, c, by simp [markI], fun hn => ?_⟩, hb⟩
      have hn' : 0 < xs.length := by simpa [markI] using hn
      obtain ⟨b, off, rfl, hbl, hc⟩ := h hn'
      refine ⟨b, off, rfl, Nat.lt_of_lt_of_le hbl hb.size, fun i x hx => ?_⟩
      have hi : i < xs.length := by have := (List.getElem?_eq_some_iff.1 hx).1; simpa [markI] using this
      rw [(HM.out b off rfl).2 i hi, markI_at hx, encI]
set_option maxHeartbeats 400000 in
theorem heldIntS_any {v : Value} (w : World) (k0 n : Nat) (h : Sl1 encI w v (markI k0 n)) (hlen : n ≤ 2097152) (hk0 : k0 ≤ 1073741824) :
    Calls Try.prog 11 #[v, .int .i64 (k0 : Int)] w fun e w' => e = .returned (.int .i64 ((k0 + n : Nat) : Int)) ∧ Ext w w' := by
  obtain ⟨A, c, rfl, h⟩ := h
  have hl : (markI k0 n).length = n := by simp [markI]
  rw [hl] at h ⊢
  clear hl
  go_enter Try.func11, Try.ntmps11
  go_wp2
  go_loopw [1, 5] (fun a i wr => Ext w wr ∧ ∃ k : Nat, k ≤ n ∧ i = .int .i64 k ∧ a = .int .i64 ((k0 + k : Nat) : Int)) (fun _ i _ => n - (intOf i).toNat)
  case atStart => exact ⟨Ext.refl _, 0, Nat.zero_le _, rfl, by simp⟩
  case round =>
    obtain ⟨hb, k, hk, rfl, rfl⟩ := hrel
    by_cases hlt : k < n
    · obtain ⟨b, off, rfl, hbl, hc⟩ := h (by omega)
      have c0 : wr.cell? ⟨b, off + k, none⟩ = some (.int .i64 ((k0 + k : Nat) : Int)) := hb.cell (hc k _ (by simp [markI, hlt]))
      clear h hc
      go_wp2
      go_roundw
      case rel => exact ⟨hb, k + 1, by omega, by go_num, by go_num⟩
      case measure => simp [intOf]; omega
    · obtain rfl : k = n := by omega
      go_wp2
      go_returns
      exact ⟨rfl, hb⟩
set_option maxHeartbeats 400000 in
theorem indexFuncI_any {v : Value} {xs : List Int} (w : World) (F : FuncId) (cap : Array Value) (p : Int → Bool) (h : Sl1 encI w v xs) (hlen : xs.length ≤ 2097152)
    (hcf : ∀ args W, (callFunc F args).run Try.prog W = .ok (.enter F args) W) (hF : ∀ x ∈ xs, ∀ W, Ext w W → Calls Try.prog F (#[.int .i64 x] ++ cap) W fun e w' => e = .returned (.bool (p x)) ∧ Ext W w') :
    Calls Try.prog 24 #[v, .func (.func F) #[] cap] w fun e w' => e = .returned (.int .i64 (findAt p xs 0)) ∧ Ext w w' := by
  obtain ⟨A, c, rfl, h⟩ := h
  have HF := Lib.hid hF
  clear hF
  go_enter Try.func24, Try.ntmps24
  go_wp2
  go_loopw [8] (fun i wr => Ext w wr ∧ ∃ k : Nat, k ≤ xs.length ∧ i = .int .i64 k ∧ Hid (findAt p xs 0 = findAt p (xs.drop k) k)) (fun i _ => xs.length - (intOf i).toNat)
  case atStart => exact ⟨Ext.refl _, 0, Nat.zero_le _, rfl, rfl⟩
  case round =>
    obtain ⟨hb, k, hk, rfl, HI⟩ := hrel
    by_cases hlt : k < xs.length
    · obtain ⟨b, off, rfl, hbl, hc⟩ := h (by omega)
      obtain ⟨x, hx⟩ := at_some hlt
      have c0 : wr.cell? ⟨b, off + k, none⟩ = some (.int .i64 x) := hb.cell (hc k x hx)
      have Hx := Lib.hid hx
      have Hm := List.mem_of_getElem? hx
      clear hx h hc
      go_wp2_with fail
      refine (HF.out x Hm _ hb).mono ?_
      rintro e w1 ⟨rfl, b1⟩
      by_cases hp : p x = true
      · have hr := Lib.hid (HI.out.trans (findAt_hit Hx.out hp))
        go_wp2
        go_returns
        exact ⟨ret_int hr.out.symm, hb.trans b1⟩
      · simp only [Bool.not_eq_true] at hp
        have hr := Lib.hid (HI.out.trans (findAt_step Hx.out hp))
        go_wp2
        go_roundw
        case rel => exact ⟨hb.trans b1, k + 1, by omega, by go_num, hr⟩
        case measure => simp [intOf]; omega
    · obtain rfl : k = xs.length := by omega
      go_wp2
      go_returns
      exact ⟨ret_int (by rw [HI.out]; simp [findAt]), hb⟩
set_option maxHeartbeats 400000 in
theorem containsFuncI_any {v : Value} {xs : List Int} (w : World) (F : FuncId) (cap : Array Value) (p : Int → Bool) (h : Sl1 encI w v xs) (hlen : xs.length ≤ 2097152)
    (hcf : ∀ args W, (callFunc F args).run Try.prog W = .ok (.enter F args) W) (hF : ∀ x ∈ xs, ∀ W, Ext w W → Calls Try.prog F (#[.int .i64 x] ++ cap) W fun e w' => e = .returned (.bool (p x)) ∧ Ext W w') :
    Calls Try.prog 21 #[v, .func (.func F) #[] cap] w fun e w' => e = .returned (.bool (xs.any p)) ∧ Ext w w' := by
  have HF := Lib.hid hF
  clear hF
  go_enter Try.func21, Try.ntmps21
  go_wp2_with fail
  refine (indexFuncI_any w F cap p h hlen hcf HF.out).mono ?_
  rintro e w1 ⟨rfl, b1⟩
  go_wp2
  go_returns
  exact ⟨ret_bool (findAt_any), b1⟩
end Go.Proofs.Ytmdnfedgicbjiaa
