/- What is left of quorums: QuorumsLeft, of the reference and of the program. -/
import Derived.Test.YtpkjgeidndbbbaaDoorQuorum
import Derived.Test.YtpkjgeidndbbbaaDoorClone
import Derived.Test.YtpkjgeidndbbbaaDoorPut
import Derived.Laws.IdiomCopy
import Derived.Lib.SliceRun
namespace Go.Proofs.YtpkjgeidndbbbaaDoor
open Go.RowKit
set_option maxRecDepth 8000

/-- What QuorumsLeft returns. -/
def leftL (many : Int) (xs : List Int) (down : Int) : List Int := if setsB many xs = true ∧ setsB many [down] = true then xs.filter (fun s => !comB s down) else []
theorem leftL_len (many : Int) (xs : List Int) (down : Int) (h : xs.length ≤ 1048576) : (leftL many xs down).length ≤ 2097152 := by
  unfold leftL
  split
  · have := List.length_filter_le (fun s => !comB s down) xs
    omega
  · simp
theorem filter_take {α : Type} (p : α → Bool) {xs : List α} {k : Nat} {x : α} (hx : xs[k]? = some x) : (xs.take (k + 1)).filter p = (xs.take k).filter p ++ if p x = true then [x] else [] := by
  obtain ⟨hk, rfl⟩ := List.getElem?_eq_some_iff.1 hx
  rw [List.take_succ_eq_append_getElem hk, List.filter_append]
  simp [List.filter_cons]
theorem Sl1.one_ (w : World) (x : Int) (T : TypeId) : Sl1 encI (w.alloc (.cells #[.int .i64 x] T)) (.slice (some ⟨w.heap.size, 0, none⟩) 1 1) [x] :=
  ⟨_, _, rfl, fun _ => ⟨_, _, rfl, by simp, fun i y hy => by
    obtain ⟨hi, rfl⟩ := List.getElem?_eq_some_iff.1 hy
    obtain rfl : i = 0 := by simpa using hi
    exact (cell_of_row _ _ _ _ T (0, 0) (heap_alloc_new w _)).trans rfl⟩⟩
set_option maxHeartbeats 1000000 in
theorem spec_QuorumsLeft {v : Value} {xs : List Int} (many down : Int) (w : World) (h : Sl1 encI w v xs) (hlen : xs.length ≤ 2097152) (hm : many ≤ 9223372036854775807) (hd : down ≤ 9223372036854775807) (sx : Small xs) :
    Calls Tryd.prog 37 #[.int .i64 many, v, .int .i64 down] w (RetOf 1 (one encI) w (leftL many xs down)) := by
  by_cases h1 : setsB many xs = true
  case neg =>
    have hf : Hid (leftL many xs down = []) := by show _ = _; rw [leftL, if_neg (fun h => h1 h.1)]
    rw [hf.out]
    simp only [Bool.not_eq_true] at h1
    go_enter Tryd.func37, Tryd.ntmps37
    go_wp2_with fail
    refine (l32Valid_any _ _ (h.ext ((Ext.refl _).alloc _)) hlen hm).mono ?_
    rw [h1]
    rintro e w1 ⟨rfl, b1⟩
    go_wp2
    go_returns
    exact ⟨_, rfl, SlOf.nil _ _ _ _ _, Own.nil _ _ _ _, ((Ext.refl _).alloc _).trans b1⟩
  by_cases h2 : setsB many [down] = true
  case neg =>
    have hf : Hid (leftL many xs down = []) := by show _ = _; rw [leftL, if_neg (fun h => h2 h.2)]
    rw [hf.out]
    simp only [Bool.not_eq_true] at h2
    go_enter Tryd.func37, Tryd.ntmps37
    go_wp2_with fail
    refine (l32Valid_any _ _ (h.ext ((Ext.refl _).alloc _)) hlen hm).mono ?_
    rw [h1]
    rintro e w1 ⟨rfl, b1⟩
    go_wp2_with fail
    refine (l32Valid_any _ _ (Sl1.one_ _ _ _) (by simp) hm).mono ?_
    rw [h2]
    rintro e w2 ⟨rfl, b2⟩
    go_wp2
    go_returns
    exact ⟨_, rfl, SlOf.nil _ _ _ _ _, Own.nil _ _ _ _, ((((Ext.refl _).alloc _).trans b1).alloc _).trans b2⟩
  have hL : leftL many xs down = xs.filter (fun s => !comB s down) := by rw [leftL, if_pos ⟨h1, h2⟩]
  have hx10 : xs.length ≤ 10 := (setsB_mem h1).1
  rw [hL]
  clear hL
  go_enter Tryd.func37, Tryd.ntmps37
  go_wp2_with fail
  refine (l32Valid_any _ _ (h.ext ((Ext.refl _).alloc _)) hlen hm).mono ?_
  rw [h1]
  rintro e w1 ⟨rfl, b1⟩
  go_wp2_with fail
  refine (l32Valid_any _ _ (Sl1.one_ _ _ _) (by simp) hm).mono ?_
  rw [h2]
  rintro e w2 ⟨rfl, b2⟩
  have hrow : Row 3 1 (one encI) w.heap.size (w.alloc (.cells #[] 3)) (.slice (some ⟨w.heap.size, 0, none⟩) 0 0) ([] : List Int) := World.ownsRow_made w #[] 0 (Nat.le_refl _) (by simp [maxLen]) (by simp)
  have HB := Lib.hid (((((Ext.refl w).alloc (.cells #[] 3)).trans b1).alloc _).trans b2)
  have HR := Lib.hid ((hrow.ext b1).ext (((Ext.refl _).alloc _).trans b2))
  have H := Lib.hid h
  clear hrow h b1 b2
  go_wp2
  go_loopw [7, 8] (fun a i wr => Ext w wr ∧ ∃ k : Nat, k ≤ xs.length ∧ i = .int .i64 k ∧ Hid (Row 3 1 (one encI) w.heap.size wr a ((xs.take k).filter (fun s => !comB s down)))) (fun _ i _ => xs.length - (intOf i).toNat)
  case atStart => exact ⟨HB.out, 0, Nat.zero_le _, rfl, HR.out⟩
  case round =>
    clear HR HB
    obtain ⟨hb, k, hk, rfl, HA⟩ := hrel
    obtain ⟨A, c, rfl, h'⟩ := id H.out
    by_cases hlt : k < xs.length
    · obtain ⟨b, off, rfl, hbl, hc⟩ := h' (by omega)
      obtain ⟨x, hx⟩ := at_some hlt
      have c0 : wr.cell? ⟨b, off + k, none⟩ = some (.int .i64 x) := hb.cell (hc k x hx)
      have hxs : x ≤ 9223372036854775807 := sx x (List.mem_of_getElem? hx)
      have Ht := Lib.hid (filter_take (fun s => !comB s down) hx)
      have hq := Nat.le_trans (List.length_filter_le (fun s => !comB s down) (xs.take k)) (by rw [List.length_take]; omega : (xs.take k).length ≤ 10)
      clear hx hc h'
      by_cases hcm : comB x down = true
      · go_wp2_with fail
        refine (l32Common_any _ _ _ hxs hd).mono ?_
        rw [hcm]
        rintro e w3 ⟨rfl, rfl⟩
        go_wp2
        go_roundw
        case rel => exact ⟨hb, k + 1, by omega, by go_num, by show Row _ _ _ _ _ _ _; rw [Ht.out, hcm]; simpa using HA.out⟩
        case measure => simp [intOf]; omega
      · simp only [Bool.not_eq_true] at hcm
        obtain ⟨v', w', hrun, hrow', hgrow⟩ := run_push (P := Tryd.prog) (t := 36) (ty := 36) (e := 3) Tryd.underlying36 (show (Tryd.prog.info? 3).map (fun i => (i.zero, i.size, i.bytes)) = some (some (.int .i64 0), 1, 8) by kernel_rfl) rfl (by omega) HA.out x (fun _ => rfl) (by omega) (by omega) hb.size
        have Hrun := Lib.hid hrun
        have Hrow := Lib.hid hrow'
        have hg := Lib.hid (Ext.grown (hb.alloc _) hgrow (HA.out.block))
        clear hrun hrow' hgrow
        go_wp2_with fail
        refine (l32Common_any _ _ _ hxs hd).mono ?_
        rw [hcm]
        rintro e w3 ⟨rfl, rfl⟩
        go_wp2_with (at_builtin; refine wpList_append_run rfl rfl rfl rfl Hrun.out ?_)
        go_roundw
        case rel => exact ⟨hg.out, k + 1, by omega, by go_num, by show Row _ _ _ _ _ _ _; rw [Ht.out, hcm]; exact Hrow.out⟩
        case measure => simp [intOf]; omega
    · obtain rfl : k = xs.length := by omega
      have Hc := Lib.hid (HA.out.cell)
      rw [List.take_length] at Hc
      go_wp2
      go_returns
      exact ⟨_, rfl, Hc.out.1, Hc.out.2, hb⟩
theorem findAt_or {α : Type} (p : α → Bool) (xs : List α) (m : Nat) : (findAt p xs m = -1 ∧ ∀ x ∈ xs, p x = false) ∨ ∃ i x, findAt p xs m = ((m + i : Nat) : Int) ∧ xs[i]? = some x ∧ p x = true ∧ ∀ y ∈ xs.take i, p y = false := by
  induction xs generalizing m with
  | nil => exact .inl ⟨rfl, by simp⟩
  | cons x xs ih =>
    unfold findAt
    by_cases hp : p x = true
    · exact .inr ⟨0, x, by rw [if_pos hp]; rfl, rfl, hp, by simp⟩
    · rw [if_neg hp]
      simp only [Bool.not_eq_true] at hp
      rcases ih (m + 1) with ⟨h1, h2⟩ | ⟨i, y, h1, h2, h3, h4⟩
      · exact .inl ⟨h1, fun z hz => by rcases List.mem_cons.1 hz with rfl | hz; exact hp; exact h2 z hz⟩
      · refine .inr ⟨i + 1, y, by rw [h1]; omega, h2, h3, fun z hz => ?_⟩
        rw [List.take_succ_cons] at hz
        rcases List.mem_cons.1 hz with rfl | hz
        · exact hp
        · exact h4 z hz
theorem setCells_size (b : Nat) : ∀ (vs : List Value) (o : Nat) (w : World), (w.setCells b o vs).heap.size = w.heap.size
  | [], _, _ => rfl
  | v :: r, o, w => by rw [World.setCells, setCells_size b r]; simp [World.setCell]
theorem setCells_ext {a : World} (b : Nat) (hb : a.heap.size ≤ b) : ∀ (vs : List Value) (o : Nat) {w : World}, Ext a w → Ext a (w.setCells b o vs)
  | [], _, _, h => h
  | v :: r, o, _, h => setCells_ext b hb r (o + 1) (h.setCell (p := ⟨b, o, none⟩) hb v)
/-- The first ones of a slice whose rest is cleared. -/
theorem cut_clear {w0 w : World} {b off c i n : Nat} {zs ys : List Int} (h : SlOf 1 (one encI) w (.slice (some ⟨b, off, none⟩) n c) zs) (ho : Own w0.heap.size w (.slice (some ⟨b, off, none⟩) n c)) (he : Ext w0 w) (hi : i < n) (hy : zs.take i = ys) (u : Value) :
    let w' := w.setCells b (off + i) (List.replicate (n - i) u)
    SlOf 1 (one encI) w' (.slice (some ⟨b, off, none⟩) i c) ys ∧ Own w0.heap.size w' (.slice (some ⟨b, off, none⟩) i c) ∧ Ext w0 w' := by
  obtain ⟨h1, h2, h3⟩ := ho _ _ _ rfl (by omega)
  obtain ⟨A, c', hA, hc⟩ := id h
  injection hA with e1 e2 e3
  obtain ⟨b', off', hb', hlt, hcell⟩ := hc (by omega)
  rw [← e1] at hb'
  injection hb' with hb'
  injection hb' with e4 e5
  subst e4 e5
  have hyl : ys.length = i := by rw [← hy, List.length_take]; omega
  refine ⟨⟨_, c, by rw [hyl], fun _ => ⟨b, off, rfl, by rw [setCells_size]; exact h2, fun k x hx j hj => ?_⟩⟩, fun a n' c'' hv _ => ?_, setCells_ext b h1 _ _ he⟩
  · obtain rfl : j = 0 := by omega
    have hk : k < ys.length := (List.getElem?_eq_some_iff.1 hx).1
    rw [World.cell?_setCells_out _ _ _ _ _ (fun _ _ => Or.inl (by simp; omega))]
    rw [← hy, List.getElem?_take_of_lt (by omega)] at hx
    exact hcell k x hx 0 (by omega)
  · injection hv with e1 _ _
    injection e1 with e1
    subst e1
    exact ⟨h1, by rw [setCells_size]; exact h2, fun k => by rw [World.frozen?_setCells]; exact h3 k⟩
set_option maxHeartbeats 1000000 in
theorem deleteFuncI_any {v : Value} {xs : List Int} {w0 : World} (w : World) (F : FuncId) (cap : Array Value) (p : Int → Bool) (h : SlOf 1 (one encI) w v xs) (ho : Own w0.heap.size w v) (he : Ext w0 w) (hcap : ∀ A n c, v = .slice A n c → n ≤ c ∧ c ≤ 9223372036854775807) (hlen : xs.length ≤ 2097152)
    (hcf : ∀ args W, (callFunc F args).run Tryd.prog W = .ok (.enter F args) W) (hF : ∀ x ∈ xs, ∀ W, Ext w0 W → Calls Tryd.prog F (#[.int .i64 x] ++ cap) W fun e w' => e = .returned (.bool (p x)) ∧ Ext W w') :
    Calls Tryd.prog 73 #[v, .func (.func F) #[] cap] w fun e w' => ∃ v', e = .returned v' ∧ SlOf 1 (one encI) w' v' (xs.filter fun x => !p x) ∧ Own w0.heap.size w' v' ∧ Ext w0 w' ∧ ∀ A n c, v' = .slice A n c → n ≤ c ∧ c ≤ 9223372036854775807 := by
  obtain ⟨A, c, rfl, h'⟩ := id h
  have HF := Lib.hid hF
  clear hF
  rcases findAt_or p xs 0 with ⟨hf, hno⟩ | ⟨i, x, hf, hx, hp, hno⟩
  · have hfl : xs.filter (fun x => !p x) = xs := List.filter_eq_self.2 fun x hx => by rw [hno x hx]; rfl
    rw [hfl]
    have hcall := Lib.hid (fun W => indexFuncI_any (v := .slice A xs.length c) (xs := xs) W F cap p)
    rw [hf] at hcall
    have H := Lib.hid h
    have HO := Lib.hid ho
    have HC := Lib.hid hcap
    clear h h' ho hno hfl hf hcap
    go_enter Tryd.func73, Tryd.ntmps73
    go_wp2_with fail
    refine (hcall.out _ H.out.to1 hlen hcf (fun x hx W hW => HF.out x hx W (he.trans hW))).mono ?_
    rintro e w1 ⟨rfl, b1⟩
    go_wp2
    go_returns
    exact ⟨_, rfl, H.out.ext b1, HO.out.ext b1, he.trans b1, HC.out⟩
  · have hil : i < xs.length := (List.getElem?_eq_some_iff.1 hx).1
    obtain ⟨b, off, rfl, hlt, _⟩ := h' (by omega)
    have hcall := Lib.hid (fun W => indexFuncI_any (v := .slice (some ⟨b, off, none⟩) xs.length c) (xs := xs) W F cap p)
    rw [hf, Nat.zero_add] at hcall
    have hc := hcap _ _ _ rfl
    have H := Lib.hid h
    have HO := Lib.hid ho
    have hstart : Hid (xs.take i = (xs.take (i + 1)).filter fun x => !p x) := by
      show _ = _
      rw [filter_take _ hx, hp]
      simp only [Bool.not_true, Bool.false_eq_true, if_false, List.append_nil]
      exact (List.filter_eq_self.2 fun y hy => by rw [hno y hy]; rfl).symm
    have hi1 : (((i : Nat) : Int) == -1) = false := by simp
    clear h h' ho hno hf hcap hx
    go_enter Tryd.func73, Tryd.ntmps73
    go_wp2_with fail
    refine (hcall.out _ H.out.to1 hlen hcf (fun x hx W hW => HF.out x hx W (he.trans hW))).mono ?_
    rintro e w1 ⟨rfl, b1⟩
    clear hcall
    have H1 := Lib.hid (H.out.ext b1)
    have HO1 := Lib.hid (HO.out.ext b1)
    have he1 := he.trans b1
    clear H HO he b1
    go_wp2
    go_loopw [5, 6] (fun a j wr => Ext w0 wr ∧ ∃ q k : Nat, q < k ∧ k ≤ xs.length ∧ a = .int .i64 q ∧ j = .int .i64 k ∧ Own w0.heap.size wr (.slice (some ⟨b, off, none⟩) xs.length c) ∧ ∃ zs : List Int, zs.length = xs.length ∧ SlOf 1 (one encI) wr (.slice (some ⟨b, off, none⟩) xs.length c) zs ∧ Hid (zs.take q = (xs.take k).filter fun x => !p x) ∧ Hid (∀ m, k ≤ m → zs[m]? = xs[m]?)) (fun _ j _ => xs.length - (intOf j).toNat)
    case atStart => exact ⟨he1, i, i + 1, by omega, by omega, rfl, by go_num, HO1.out, xs, rfl, H1.out, hstart, fun _ _ => rfl⟩
    case round =>
      clear H1 HO1 he1 hstart hlt hil hp
      obtain ⟨hb, q, k, hqk, hk, rfl, rfl, ho, zs, hzl, hz, HT, HD⟩ := hrel
      obtain ⟨A, c', hA, hcz⟩ := id hz
      obtain ⟨b', off', hA', hbl, hcell⟩ := hcz (by omega)
      rw [hA'] at hA
      injection hA with e1 e2 e3
      injection e1 with e1
      injection e1 with e1 e4
      subst e1 e4
      clear hA' e2 e3
      have hfree := ho.cell_free (by omega)
      by_cases hlt : k < xs.length
      · obtain ⟨x, hx⟩ := at_some hlt
        have hzx : zs[k]? = some x := (HD.out k (Nat.le_refl _)).trans hx
        have Hm := List.mem_of_getElem? hx
        have Ht := Lib.hid (filter_take (fun x => !p x) hx)
        have hql : q < zs.length := by omega
        obtain ⟨y, hy⟩ := at_some hql
        have c0 : wr.cell? ⟨b, off + k, none⟩ = some (.int .i64 x) := by simpa [one, encI] using hcell k x hzx 0 (by omega)
        have cq : wr.cell? ⟨b, off + q, none⟩ = some (.int .i64 y) := by simpa [one, encI] using hcell q y hy 0 (by omega)
        have HO := Lib.hid ho
        have HZ := Lib.hid hz
        have HY := Lib.hid hy
        clear hx hzx hy hcell hcz ho hz
        go_wp2_with fail
        refine (HF.out x Hm _ hb).mono ?_
        rintro e w2 ⟨rfl, b2⟩
        replace c0 := b2.cell c0
        replace cq := b2.cell cq
        have fq : w2.frozen? ⟨b, off + q, none⟩ = false := (HO.out.ext b2).cell_free (by omega) _
        by_cases hp : p x = true
        · rw [hp]
          go_wp2
          go_roundw
          case rel =>
            exact ⟨hb.trans b2, q, k + 1, by omega, by omega, rfl, by go_num, HO.out.ext b2, zs, hzl, HZ.out.ext b2, by show _ = _; rw [Ht.out, hp, HT.out]; simp, fun m hm => HD.out m (by omega)⟩
          case measure => simp [intOf]; omega
        · simp only [Bool.not_eq_true] at hp
          rw [hp]
          obtain ⟨p1, p2, p3⟩ := put_cell (j := 0) (HZ.out.ext b2) (HO.out.ext b2) (hb.trans b2) (Nat.le_refl _) (by omega) HY.out (by omega) x (fun i hl hi => by omega)
          have P1 := Lib.hid p1
          have P2 := Lib.hid p2
          have P3 := Lib.hid p3
          clear p1 p2 p3
          rw [Nat.mul_one, Nat.add_zero] at P1 P2 P3
          go_wp2
          go_roundw
          case rel => exact ⟨P3.out, q + 1, k + 1, by omega, by omega, by go_num, by go_num, P2.out, zs.set q x, by rw [List.length_set]; exact hzl, P1.out, by
              show _ = _
              rw [Ht.out, hp, ← HT.out, List.take_succ_eq_append_getElem (by rw [List.length_set]; exact hql), List.take_set_of_le (Nat.le_refl _)]
              simp, fun m hm => by rw [List.getElem?_set_ne (by omega)]; exact HD.out m (by omega)⟩
          case measure => simp [intOf]; omega
      · obtain rfl : k = xs.length := by omega
        have hys := HT.out
        rw [List.take_length] at hys
        obtain ⟨p1, p2, p3⟩ := cut_clear hz ho hb hqk hys (.int .i64 0)
        have hql : (xs.filter fun x => !p x).length = q := by rw [← hys, List.length_take]; omega
        have P1 := Lib.hid p1
        have P2 := Lib.hid p2
        have P3 := Lib.hid p3
        have hcl : ∀ ty, (Builtin.clear_ #[36] ty #[.slice (some ⟨b, off + q, none⟩) (xs.length - q) (c - q)]).run Tryd.prog wr = .ok (.tuple #[]) (wr.setCells b (off + q) (List.replicate (xs.length - q) (.int .i64 0))) :=
          fun ty => Lib.run_clear_slice wr _ _ ty _ Tryd.underlying36 (fun w => by kernel_rfl) rfl rfl b (off + q) _ _ (by omega) (fun j hj => by
              obtain ⟨x, hx⟩ := at_some (xs := zs) (k := q + j) (by omega)
              have := hcell (q + j) x hx 0 (by omega)
              rw [show off + q + j = off + (q + j) * 1 + 0 by omega, this]; rfl) (fun j _ => hfree _)
        clear p1 p2 p3 hcell hcz ho hz hfree hys
        go_wp2
        go_returns
        exact ⟨_, rfl, P1.out, P2.out, P3.out, fun A n c2 hv => by injection hv with _ e2 e3; subst e2 e3; omega⟩
set_option maxHeartbeats 400000 in
theorem left1_any {a : Addr} {down x : Int} (w : World) (hc : w.cell? a = some (.int .i64 down)) (hx : 0 ≤ x ∧ x ≤ 127) (hd : 0 ≤ down ∧ down ≤ 127) :
    Calls Tryd.prog 75 #[.int .i64 x, .pointer (some a)] w fun e w' => e = .returned (.bool (comB x down)) ∧ Ext w w' := by
  have hb := bits_comB hx hd
  go_enter Tryd.func75, Tryd.ntmps75
  go_wp2
  go_returns
  exact ⟨ret_bool (by rw [bne, hb]; simp), Ext.refl _⟩
set_option maxHeartbeats 1000000 in
theorem impl_QuorumsLeft {v : Value} {xs : List Int} (many down : Int) (w : World) (h : Sl1 encI w v xs) (hlen : xs.length ≤ 2097152) :
    Calls Tryd.prog 35 #[.int .i64 many, v, .int .i64 down] w (RetOf 1 (one encI) w (leftL many xs down)) := by
  have hbox := h.ext ((Ext.refl w).alloc (.cells #[.int .i64 down] 3))
  by_cases h1 : setsB many xs = true
  case neg =>
    have hf : Hid (leftL many xs down = []) := by show _ = _; rw [leftL, if_neg (fun h => h1 h.1)]
    rw [hf.out]
    simp only [Bool.not_eq_true] at h1
    go_enter Tryd.func35, Tryd.ntmps35
    go_wp2_with fail
    refine (setsOk_any _ _ hbox hlen).mono ?_
    rw [h1]
    rintro e w1 ⟨rfl, b1⟩
    go_wp2
    go_returns
    exact ⟨_, rfl, SlOf.nil _ _ _ _ _, Own.nil _ _ _ _, ((Ext.refl _).alloc _).trans b1⟩
  by_cases h2 : setsB many [down] = true
  case neg =>
    have hf : Hid (leftL many xs down = []) := by show _ = _; rw [leftL, if_neg (fun h => h2 h.2)]
    rw [hf.out]
    simp only [Bool.not_eq_true] at h2
    go_enter Tryd.func35, Tryd.ntmps35
    go_wp2_with fail
    refine (setsOk_any _ _ hbox hlen).mono ?_
    rw [h1]
    rintro e w1 ⟨rfl, b1⟩
    have c0 : w1.cell? ⟨w.heap.size, 0, none⟩ = some (.int .i64 down) := b1.cell (by go_cell)
    go_wp2_with fail
    refine (setsOk_any _ _ (Sl1.one_ _ _ _) (by simp)).mono ?_
    rw [h2]
    rintro e w2 ⟨rfl, b2⟩
    go_wp2
    go_returns
    exact ⟨_, rfl, SlOf.nil _ _ _ _ _, Own.nil _ _ _ _, ((((Ext.refl _).alloc _).trans b1).alloc _).trans b2⟩
  have hm1 := setsB_mem h1
  have hd := (setsB_mem h2).2 down (by simp)
  have hL : leftL many xs down = xs.filter (fun s => !comB s down) := by rw [leftL, if_pos ⟨h1, h2⟩]
  rw [hL]
  clear hL
  go_enter Tryd.func35, Tryd.ntmps35
  go_wp2_with fail
  refine (setsOk_any _ _ hbox hlen).mono ?_
  rw [h1]
  rintro e w1 ⟨rfl, b1⟩
  have c0 : w1.cell? ⟨w.heap.size, 0, none⟩ = some (.int .i64 down) := b1.cell (by go_cell)
  go_wp2_with fail
  refine (setsOk_any _ _ (Sl1.one_ _ _ _) (by simp)).mono ?_
  rw [h2]
  rintro e w2 ⟨rfl, b2⟩
  have B2 := ((Ext.refl w1).alloc (.cells #[.int .i64 down] 3)).trans b2
  replace c0 := B2.cell c0
  have B02 := (((Ext.refl w).alloc (.cells #[.int .i64 down] 3)).trans b1).trans B2
  have hw2 := (hbox.ext b1).ext B2
  go_wp2_with fail
  refine (cloneI_any _ hw2.of_ hlen).mono ?_
  rintro e w3 ⟨v3, rfl, r3, b3⟩
  have hc3 := r3.cell
  go_wp2_with fail
  refine (deleteFuncI_any (w0 := w2) _ 75 #[.pointer (some ⟨w.heap.size, 0, none⟩)] (fun s => comB s down) hc3.1 hc3.2 b3 r3.cap hlen (fun _ _ => by kernel_rfl) (fun x hx W hW => left1_any W (hW.cell c0) (hm1.2 x hx) hd)).mono ?_
  rintro e w4 ⟨v4, rfl, s4, o4, b4, k4⟩
  go_wp2_with fail
  refine (clipI_any _ s4 o4 k4).mono ?_
  rintro e w5 ⟨v5, rfl, s5, o5, rfl⟩
  go_wp2
  go_returns
  exact ⟨_, rfl, s5, o5.mono B02.size, B02.trans b4⟩
theorem RetOf.to1 {α : Type} {enc : α → Value} {w w' : World} {xs : List α} {e : Ending} (h : RetOf 1 (one enc) w xs e w') : Ret1 enc w xs e w' := by
  obtain ⟨v, h1, h2, h3, h4⟩ := h
  exact ⟨v, h1, h2.to1, h3, h4⟩
theorem spec_QuorumsLeft1 {v : Value} {xs : List Int} (many down : Int) (w : World) (h : Sl1 encI w v xs) (hlen : xs.length ≤ 2097152) (hm : many ≤ 9223372036854775807) (hd : down ≤ 9223372036854775807) (sx : Small xs) :
    Calls Tryd.prog 37 #[.int .i64 many, v, .int .i64 down] w (Ret1 encI w (leftL many xs down)) := (spec_QuorumsLeft many down w h hlen hm hd sx).mono fun _ _ h => h.to1
theorem impl_QuorumsLeft1 {v : Value} {xs : List Int} (many down : Int) (w : World) (h : Sl1 encI w v xs) (hlen : xs.length ≤ 2097152) :
    Calls Tryd.prog 35 #[.int .i64 many, v, .int .i64 down] w (Ret1 encI w (leftL many xs down)) := (impl_QuorumsLeft many down w h hlen).mono fun _ _ h => h.to1
end Go.Proofs.YtpkjgeidndbbbaaDoor
