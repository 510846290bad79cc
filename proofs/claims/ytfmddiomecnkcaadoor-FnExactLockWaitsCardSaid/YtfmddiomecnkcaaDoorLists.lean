/- Slices of slices of numbers, of the call's own; and the helpers that compare, mark and hold them. -/
import Derived.Test.YtfmddiomecnkcaaDoorInts
import Derived.Test.YtfmddiomecnkcaaDoorAppend
namespace Go.Proofs.YtfmddiomecnkcaaDoor
open Go.RowKit
set_option maxRecDepth 8000

def encV (u : Value) : Value := u
/-- It reads as these lists; us are the inner slices. -/
def LLr (w : World) (v : Value) (us : List Value) (xss : List (List Int)) : Prop :=
  us.length = xss.length ∧ Sl1 encV w v us ∧ ∀ (i : Nat) u xs, us[i]? = some u → xss[i]? = some xs → Sl1 encI w u xs
theorem LLr.ext {w w' : World} {v : Value} {us : List Value} {xss : List (List Int)} (h : LLr w v us xss) (hb : Ext w w') : LLr w' v us xss :=
  ⟨h.1, h.2.1.ext hb, fun i u xs hu hx => (h.2.2 i u xs hu hx).ext hb⟩
/-- All its cells are the call's own, and no two of its slices lie in one block. -/
def LLo (lo : Nat) (w : World) (v : Value) (us : List Value) : Prop :=
  Own lo w v ∧ (∀ (i : Nat) u, us[i]? = some u → Own lo w u ∧ Apart v u) ∧ ∀ (i j : Nat) u u', i < j → us[i]? = some u → us[j]? = some u' → Apart u u'
theorem LLo.ext {lo : Nat} {w w' : World} {v : Value} {us : List Value} (h : LLo lo w v us) (hb : Ext w w') : LLo lo w' v us :=
  ⟨h.1.ext hb, fun i u hu => ⟨(h.2.1 i u hu).1.ext hb, (h.2.1 i u hu).2⟩, h.2.2⟩
theorem LLo.mono {lo lo' : Nat} {w : World} {v : Value} {us : List Value} (h : LLo lo w v us) (hl : lo' ≤ lo) : LLo lo' w v us :=
  ⟨h.1.mono hl, fun i u hu => ⟨(h.2.1 i u hu).1.mono hl, (h.2.1 i u hu).2⟩, h.2.2⟩
/-- As it is built by appending. -/
def LLb (E I : TypeId) (base : Nat) (w : World) (v : Value) (us : List Value) (xss : List (List Int)) : Prop :=
  us.length = xss.length ∧ Row E 1 (one encV) base w v us ∧ (∀ (i : Nat) u xs, us[i]? = some u → xss[i]? = some xs → Row I 1 (one encI) base w u xs) ∧ ∀ (i j : Nat) u u', i < j → us[i]? = some u → us[j]? = some u' → Apart u u'
theorem LLb.ext {E I : TypeId} {base : Nat} {w w' : World} {v : Value} {us : List Value} {xss : List (List Int)} (h : LLb E I base w v us xss) (hb : Ext w w') : LLb E I base w' v us xss :=
  ⟨h.1, h.2.1.ext hb, fun i u xs hu hx => (h.2.2.1 i u xs hu hx).ext hb, h.2.2.2⟩
theorem rows_ne {α β : Type} {e e' : TypeId} {m m' : Nat} {enc : α → Nat → Value} {enc' : β → Nat → Value} {base base' : Nat} {w : World} {v u : Value} {xs : List α} {ys : List β}
    (h : Row e m enc base w v xs) (h' : Row e' m' enc' base' w u ys) (hne : e ≠ e') : u.ownBlock = none ∨ u.ownBlock ≠ v.ownBlock := by
  rcases h.2 with ⟨rfl, _⟩ | ⟨g, cap, cur, rfl, hb, hg, _⟩
  · cases u.ownBlock with
    | none => exact .inl rfl
    | some k => exact .inr (by simp [Value.ownBlock])
  · rcases h'.2 with ⟨rfl, _⟩ | ⟨g', cap', cur', rfl, hb', hg', _⟩
    · exact .inl rfl
    · right
      intro e
      simp [Value.ownBlock] at e
      subst e
      rw [hg] at hg'
      injection hg' with hg'
      injection hg' with _ h2 _
      exact hne h2
theorem rows_apart {α β : Type} {e e' : TypeId} {m m' : Nat} {enc : α → Nat → Value} {enc' : β → Nat → Value} {base base' : Nat} {w : World} {v u : Value} {xs : List α} {ys : List β}
    (h : Row e m enc base w v xs) (h' : Row e' m' enc' base' w u ys) (hne : e ≠ e') : Apart v u := by
  intro a n c a' n' c' hv hu hn hn' eb
  have := rows_ne h h' hne
  subst hv hu
  rcases h.2 with ⟨hv, _⟩ | ⟨g, cap, cur, hv, hb, hg, _⟩
  · cases hv
  rcases h'.2 with ⟨hu, _⟩ | ⟨g', cap', cur', hu, hb', hg', _⟩
  · cases hu
  injection hv with hv _ _
  injection hu with hu _ _
  injection hv with hv
  injection hu with hu
  subst hv hu
  simp only at eb
  subst eb
  rw [hg] at hg'
  injection hg' with hg'
  injection hg' with _ h2 _
  exact hne h2
theorem LLb.nil {E I : TypeId} (w : World) : LLb E I w.heap.size (w.alloc (.cells #[] E)) (.slice (some ⟨w.heap.size, 0, none⟩) 0 0) [] [] :=
  ⟨rfl, World.ownsRow_made w #[] 0 (Nat.le_refl _) (by simp [maxLen]) (by simp), fun _ _ _ h => by simp at h, fun _ _ _ _ _ h => by simp at h⟩
theorem LLb.push {E I : TypeId} (hEI : E ≠ I) {base : Nat} {w0 w w' : World} {v v' u : Value} {us : List Value} {xss : List (List Int)} {xs : List Int} (h0 : LLb E I base w0 v us xss) (hx : Ext w0 w) (hu : Row I 1 (one encI) w0.heap.size w u xs) (hb : base ≤ w0.heap.size)
    (hrow : Row E 1 (one encV) base w' v' (us ++ [u])) (hg : w.grownBy w' v.ownBlock) : LLb E I base w' v' (us ++ [u]) (xss ++ [xs]) := by
  have h := h0.ext hx
  have hlow : Row I 1 (one encI) base w u xs := ⟨hu.1, hu.2.imp id fun ⟨g, cap, cur, a, b, rest⟩ => ⟨g, cap, cur, a, Nat.le_trans hb b, rest⟩⟩
  have keep : ∀ y ys, Row I 1 (one encI) base w y ys → Row I 1 (one encI) base w' y ys := fun y ys hy => World.ownsRow.kept (row := v.ownBlock) hy hg (rows_ne h.2.1 hy hEI)
  refine ⟨by simp [h.1], hrow, fun i y ys hy hys => ?_, fun i j y y' hij hy hy' => ?_⟩
  · rw [List.getElem?_append] at hy hys
    split at hy
    · rename_i hi
      rw [if_pos (by rw [← h.1]; exact hi)] at hys
      exact keep _ _ (h.2.2.1 i y ys hy hys)
    · rename_i hi
      rw [if_neg (by rw [← h.1]; exact hi)] at hys
      have hi0 : i - us.length = 0 := by
        have := (List.getElem?_eq_some_iff.1 hy).1
        simp at this
        omega
      rw [hi0] at hy
      rw [← h.1, hi0] at hys
      simp at hy hys
      subst hy hys
      exact keep _ _ hlow
  · rw [List.getElem?_append] at hy hy'
    split at hy'
    · rename_i hj
      rw [if_pos (by omega)] at hy
      exact h.2.2.2 i j y y' hij hy hy'
    · rename_i hj
      have hj0 : j - us.length = 0 := by
        have := (List.getElem?_eq_some_iff.1 hy').1
        simp at this
        omega
      rw [hj0] at hy'
      simp at hy'
      subst hy'
      rw [if_pos (by omega)] at hy
      have hil : i < xss.length := by rw [← h.1]; exact (List.getElem?_eq_some_iff.1 hy).1
      obtain ⟨ys, hys⟩ := at_some hil
      exact ((h0.2.2.1 i y ys hy hys).cell.1).apart hu.cell.2
theorem LLb.done {E I : TypeId} (hEI : E ≠ I) {base : Nat} {w : World} {v : Value} {us : List Value} {xss : List (List Int)} (h : LLb E I base w v us xss) : LLr w v us xss ∧ LLo base w v us := by
  refine ⟨⟨h.1, h.2.1.cell.1.to1, fun i u xs hu hx => (h.2.2.1 i u xs hu hx).cell.1.to1⟩, h.2.1.cell.2, fun i u hu => ?_, h.2.2.2⟩
  have hil : i < xss.length := by rw [← h.1]; exact (List.getElem?_eq_some_iff.1 hu).1
  obtain ⟨xs, hxs⟩ := at_some hil
  have hr := h.2.2.1 i u xs hu hxs
  exact ⟨hr.cell.2, rows_apart h.2.1 hr hEI⟩
theorem LLr.only {w w' : World} {v x : Value} {us : List Value} {xss : List (List Int)} (h : LLr w v us xss) (ho : Only x w w') (ha : Apart v x) (hus : ∀ (i : Nat) u, us[i]? = some u → Apart u x) : LLr w' v us xss :=
  ⟨h.1, h.2.1.only ho ha, fun i u xs hu hx => (h.2.2 i u xs hu hx).only ho (hus i u hu)⟩
theorem LLo.far {α : Type} {m : Nat} {enc : α → Nat → Value} {w w' : World} {v x : Value} {us : List Value} {xs : List α} (h : LLo w.heap.size w' v us) (t : SlOf m enc w x xs) : Apart v x ∧ ∀ (i : Nat) u, us[i]? = some u → Apart u x :=
  ⟨(t.apart h.1).symm, fun i u hu => (t.apart (h.2.1 i u hu).1).symm⟩
/-- The lengths of the first k. -/
def totL (xss : List (List Int)) (k : Nat) : Nat := ((xss.take k).map List.length).sum
theorem totL_next {xss : List (List Int)} {k : Nat} {xs : List Int} (h : xss[k]? = some xs) : totL xss (k + 1) = totL xss k + xs.length := by
  unfold totL
  rw [List.take_add_one, h]
  simp
set_option maxHeartbeats 1000000 in
theorem eqIntSS_any {v v' : Value} {us us' : List Value} {xss : List (List Int)} (w : World) (h : LLr w v us xss) (h' : LLr w v' us' xss) (hlen : xss.length ≤ 1000) (hin : ∀ xs ∈ xss, xs.length ≤ 1000) :
    Calls Tryd.prog 9 #[v, v'] w fun e w' => e = .returned (.bool true) ∧ Ext w w' := by
  have H := Lib.hid h
  have H' := Lib.hid h'
  obtain ⟨l1, ⟨A, c, rfl, _⟩, _⟩ := id h
  obtain ⟨l2, ⟨A', c', rfl, _⟩, _⟩ := id h'
  clear h h'
  rw [l1, l2]
  have L1 := Lib.hid l1
  have L2 := Lib.hid l2
  clear l1 l2
  go_enter Tryd.func9, Tryd.ntmps9
  go_wp2
  go_loopw [5] (fun i wr => Ext w wr ∧ ∃ k : Nat, k ≤ xss.length ∧ i = .int .i64 k) (fun i _ => xss.length - (intOf i).toNat)
  case atStart => exact ⟨Ext.refl _, 0, Nat.zero_le _, rfl⟩
  case round =>
    obtain ⟨hb, k, hk, rfl⟩ := hrel
    by_cases hlt : k < xss.length
    · obtain ⟨xs, hx⟩ := at_some hlt
      obtain ⟨u, hu⟩ := at_some (show k < us.length by rw [L1.out]; exact hlt)
      obtain ⟨u', hu'⟩ := at_some (show k < us'.length by rw [L2.out]; exact hlt)
      have hl := hin xs (List.mem_of_getElem? hx)
      obtain ⟨A1, c1, hA1, hc1⟩ := id (H.out.ext hb).2.1
      injection hA1 with e1 e2 e3
      subst e1 e3
      clear e2
      obtain ⟨b, off, rfl, _, hcell⟩ := hc1 (by rw [L1.out]; omega)
      obtain ⟨A2, c2, hA2, hc2⟩ := id (H'.out.ext hb).2.1
      injection hA2 with e1 e2 e3
      subst e1 e3
      clear e2
      obtain ⟨b', off', rfl, _, hcell'⟩ := hc2 (by rw [L2.out]; omega)
      have d0 : ∀ e, (over wr e).cell? ⟨b, off + k, none⟩ = some u := over_cell (hcell k u hu)
      have d1 : ∀ e, (over wr e).cell? ⟨b', off' + k, none⟩ = some u' := over_cell (hcell' k u' hu')
      have q0 := Lib.hid ((H.out.ext hb).2.2 k u xs hu hx)
      have q1 := Lib.hid ((H'.out.ext hb).2.2 k u' xs hu' hx)
      clear hc1 hc2 hcell hcell' hx hu hu'
      go_wp2
      refine wp_region_over (by kernel_rfl) (by kernel_rfl) ?_
      repeat (go_big_quiet_step ((go_at_call 26; exact quiet_ext (eqIntS_any _ (q0.out.ext (over_ext _ _)) (q1.out.ext (over_ext _ _)) (by omega)))))
      refine wpQuiet_nil ?_
      intro w3 hb3
      go_wp2
      go_roundw
      case rel => exact ⟨hb.trans hb3, k + 1, by omega, by go_num⟩
      case measure => simp [intOf]; omega
    · obtain rfl : k = xss.length := by omega
      go_wp2
      go_returns
      exact ⟨rfl, hb⟩
/-- The lists behind marking. -/
def marksL (k0 : Nat) (xss : List (List Int)) : List (List Int) := (List.range xss.length).map fun i => markI (k0 + totL xss i) ((xss[i]?.getD []).length)
theorem marksL_at {k0 : Nat} {xss : List (List Int)} {i : Nat} {xs : List Int} (h : xss[i]? = some xs) : (marksL k0 xss)[i]? = some (markI (k0 + totL xss i) xs.length) := by
  have hl := (List.getElem?_eq_some_iff.1 h).1
  unfold marksL
  rw [List.getElem?_map, List.getElem?_range hl]
  simp [h]
theorem marksL_len (k0 : Nat) (xss : List (List Int)) : (marksL k0 xss).length = xss.length := by simp [marksL]
theorem LLo.only {lo : Nat} {w w' : World} {v x : Value} {us : List Value} (h : LLo lo w v us) (ho : Only x w w') : LLo lo w' v us :=
  ⟨h.1.only ho, fun i u hu => ⟨(h.2.1 i u hu).1.only ho, (h.2.1 i u hu).2⟩, h.2.2⟩
theorem below_only {lo : Nat} {w w1 w2 : World} {v : Value} (h : Below lo w w1) (ho : Only v w1 w2) (hown : Own lo w1 v) (hl : lo ≤ w.heap.size) : Below lo w w2 :=
  ⟨ho.os.trans h.os, ho.tape.trans h.tape, ho.output.trans h.output, Nat.le_trans h.size ho.size, fun k hk =>
    (ho.block k (by have := h.size; omega) (fun a n c hv hn e => by have := (hown a n c hv hn).1; omega)).trans (h.block k hk)⟩
theorem totL_le {xss : List (List Int)} {M : Nat} (h : ∀ xs ∈ xss, xs.length ≤ M) (k : Nat) : totL xss k ≤ k * M := by
  induction k with
  | zero => simp [totL]
  | succ k ih =>
    rw [Nat.succ_mul]
    cases hx : xss[k]? with
    | none =>
      unfold totL at ih ⊢
      rw [List.take_add_one, hx]
      simp only [Option.toList_none, List.append_nil]
      omega
    | some xs =>
      rw [totL_next hx]
      have := h xs (List.mem_of_getElem? hx)
      omega
set_option maxHeartbeats 1000000 in
theorem markIntSS_any {v : Value} {us : List Value} {xss : List (List Int)} {lo : Nat} (w : World) (k0 : Nat) (h : LLr w v us xss) (ho : LLo lo w v us) (hlo : lo ≤ w.heap.size) (hlen : xss.length ≤ 1000) (hin : ∀ xs ∈ xss, xs.length ≤ 1000) (hk0 : k0 ≤ 1000000) :
    Calls Tryd.prog 12 #[v, .int .i64 (k0 : Int)] w fun e w' => e = .returned (.int .i64 ((k0 + totL xss xss.length : Nat) : Int)) ∧ LLr w' v us (marksL k0 xss) ∧ LLo lo w' v us ∧ Below lo w w' := by
  have H := Lib.hid h
  have HO := Lib.hid ho
  obtain ⟨l1, ⟨A, c, rfl, _⟩, _⟩ := id h
  have L1 := Lib.hid l1
  have HIN := Lib.hid hin
  have HV : Hid (Value.slice A us.length c = Value.slice A xss.length c) := by show _ = _; rw [l1]
  rw [HV.out]
  clear h ho l1 hin
  go_enter Tryd.func12, Tryd.ntmps12
  go_wp2
  go_loopw [1, 5] (fun a i wr => ∃ k : Nat, k ≤ xss.length ∧ i = .int .i64 k ∧ a = .int .i64 ((k0 + totL xss k : Nat) : Int) ∧ Hid (Below lo w wr ∧ LLo lo wr (.slice A us.length c) us ∧ Sl1 encV wr (.slice A us.length c) us ∧ ∀ (i : Nat) u xs, us[i]? = some u → xss[i]? = some xs → Sl1 encI wr u (if i < k then markI (k0 + totL xss i) xs.length else xs))) (fun _ i _ => xss.length - (intOf i).toNat)
  case atStart => exact ⟨0, Nat.zero_le _, rfl, by simp [totL], Below.refl _ _, HO.out, H.out.2.1, fun i u xs hu hx => by rw [if_neg (by omega)]; exact H.out.2.2 i u xs hu hx⟩
  case round =>
    obtain ⟨k, hk, rfl, rfl, HA⟩ := hrel
    have ht := totL_le HIN.out k
    by_cases hlt : k < xss.length
    · obtain ⟨xs, hx⟩ := at_some hlt
      obtain ⟨u, hu⟩ := at_some (show k < us.length by rw [L1.out]; exact hlt)
      have hl := HIN.out xs (List.mem_of_getElem? hx)
      obtain ⟨A1, c1, hA1, hc1⟩ := id HA.out.2.2.1
      injection hA1 with e1 e2 e3
      subst e1 e3
      clear e2
      obtain ⟨b, off, rfl, _, hcell⟩ := hc1 (by rw [L1.out]; omega)
      have d0 : wr.cell? ⟨b, off + k, none⟩ = some u := hcell k u hu
      have q0 := HA.out.2.2.2 k u xs hu hx
      rw [if_neg (by omega)] at q0
      have Q0 := Lib.hid q0
      have QO := Lib.hid (HA.out.2.1.2.1 k u hu)
      have Hx := Lib.hid hx
      have Hu := Lib.hid hu
      have HN := Lib.hid (totL_next hx)
      obtain ⟨t, hte⟩ : ∃ t, k0 + totL xss k = t := ⟨_, rfl⟩
      have hle : totL xss k ≤ 1000000 := by have : k * 1000 ≤ 1000 * 1000 := Nat.mul_le_mul_right _ (by omega); omega
      have htl : t ≤ 2000000 := by omega
      have HT := Lib.hid hte
      rw [hte]
      clear hte hc1 hcell hx hu q0 ht hle
      go_wp2_with fail
      refine (markIntS_any _ t Q0.out QO.out.1 (by omega) (by omega)).mono ?_
      rintro e w3 ⟨rfl, m3, o3⟩
      have HM := Lib.hid m3
      have HO3 := Lib.hid o3
      clear m3 o3
      go_wp2
      go_roundw
      case rel => exact ⟨k + 1, by omega, by go_num, by rw [HN.out, ← Nat.add_assoc, HT.out]; go_num, below_only HA.out.1 HO3.out QO.out.1 hlo, HA.out.2.1.only HO3.out, HA.out.2.2.1.only HO3.out QO.out.2, fun i y ys hy hys => by
        by_cases e : i = k
        · subst e
          rw [Hu.out] at hy
          rw [Hx.out] at hys
          cases hy
          cases hys
          rw [if_pos (by omega), HT.out]
          exact HM.out
        · have hap : Apart y u := by
            rcases Nat.lt_or_gt_of_ne e with h | h
            · exact HA.out.2.1.2.2 i k y u h hy Hu.out
            · exact (HA.out.2.1.2.2 k i u y h Hu.out hy).symm
          have h1 := (HA.out.2.2.2 i y ys hy hys).only HO3.out hap
          by_cases hi : i < k
          · rw [if_pos hi] at h1
            rw [if_pos (by omega)]
            exact h1
          · rw [if_neg hi] at h1
            rw [if_neg (by omega)]
            exact h1⟩
      case measure => simp [intOf]; omega
    · obtain rfl : k = xss.length := by omega
      have hle : totL xss xss.length ≤ 1000000 := by have : xss.length * 1000 ≤ 1000 * 1000 := Nat.mul_le_mul_right _ (by omega); omega
      clear ht
      go_wp2
      go_returns
      rw [← HV.out]
      refine ⟨rfl, ⟨by rw [marksL_len]; exact L1.out, HA.out.2.2.1, fun i u xs hu hx => ?_⟩, HA.out.2.1, HA.out.1⟩
      have hi : i < xss.length := by rw [← marksL_len k0 xss]; exact (List.getElem?_eq_some_iff.1 hx).1
      obtain ⟨ys, hys⟩ := at_some hi
      rw [marksL_at hys] at hx
      cases hx
      have h1 := HA.out.2.2.2 i u ys hu hys
      rwa [if_pos hi] at h1
set_option maxHeartbeats 1000000 in
theorem heldIntSS_any {v : Value} {us : List Value} {xss : List (List Int)} (w : World) (k0 : Nat) (h : LLr w v us (marksL k0 xss)) (hlen : xss.length ≤ 1000) (hin : ∀ xs ∈ xss, xs.length ≤ 1000) (hk0 : k0 ≤ 1000000) :
    Calls Tryd.prog 13 #[v, .int .i64 (k0 : Int)] w fun e w' => e = .returned (.int .i64 ((k0 + totL xss xss.length : Nat) : Int)) ∧ Ext w w' := by
  have H := Lib.hid h
  obtain ⟨l1, ⟨A, c, rfl, _⟩, _⟩ := id h
  rw [marksL_len] at l1
  have L1 := Lib.hid l1
  have HIN := Lib.hid hin
  have HV : Hid (Value.slice A us.length c = Value.slice A xss.length c) := by show _ = _; rw [l1]
  rw [HV.out]
  clear h l1 hin
  go_enter Tryd.func13, Tryd.ntmps13
  go_wp2
  go_loopw [1, 5] (fun a i wr => Ext w wr ∧ ∃ k : Nat, k ≤ xss.length ∧ i = .int .i64 k ∧ a = .int .i64 ((k0 + totL xss k : Nat) : Int)) (fun _ i _ => xss.length - (intOf i).toNat)
  case atStart => exact ⟨Ext.refl _, 0, Nat.zero_le _, rfl, by simp [totL]⟩
  case round =>
    obtain ⟨hb, k, hk, rfl, rfl⟩ := hrel
    have ht := totL_le HIN.out k
    have hle : totL xss k ≤ 1000000 := by have : k * 1000 ≤ 1000 * 1000 := Nat.mul_le_mul_right _ (by omega); omega
    by_cases hlt : k < xss.length
    · obtain ⟨xs, hx⟩ := at_some hlt
      obtain ⟨u, hu⟩ := at_some (show k < us.length by rw [L1.out]; exact hlt)
      have hl := HIN.out xs (List.mem_of_getElem? hx)
      have hs := H.out.ext hb
      obtain ⟨A1, c1, hA1, hc1⟩ := id hs.2.1
      injection hA1 with e1 e2 e3
      subst e1 e3
      clear e2
      obtain ⟨b, off, rfl, _, hcell⟩ := hc1 (by rw [L1.out]; omega)
      have d0 : wr.cell? ⟨b, off + k, none⟩ = some u := hcell k u hu
      have Q0 := Lib.hid (hs.2.2 k u _ hu (marksL_at hx))
      have HN := Lib.hid (totL_next hx)
      obtain ⟨t, hte⟩ : ∃ t, k0 + totL xss k = t := ⟨_, rfl⟩
      have htl : t ≤ 2000000 := by omega
      have HT := Lib.hid hte
      have hQ := Q0.out
      rw [hte] at hQ ⊢
      have Q1 := Lib.hid hQ
      clear hte hc1 hcell hx hu ht hle hs hQ Q0
      go_wp2_with fail
      refine (heldIntS_any _ t _ Q1.out (by omega) (by omega)).mono ?_
      rintro e w3 ⟨rfl, b3⟩
      go_wp2
      go_roundw
      case rel => exact ⟨hb.trans b3, k + 1, by omega, by go_num, by rw [HN.out, ← Nat.add_assoc, HT.out]; go_num⟩
      case measure => simp [intOf]; omega
    · obtain rfl : k = xss.length := by omega
      clear ht
      go_wp2
      go_returns
      exact ⟨rfl, hb⟩
end Go.Proofs.YtfmddiomecnkcaaDoor
