/- Locks: HoldsValid, of the reference and of the program. -/
import Derived.Test.YtbbfdnmlfjdidaaDoorLeaf
import Derived.Test.YtbbfdnmlfjdidaaDoorTypes
namespace Go.Proofs.YtbbfdnmlfjdidaaDoor
open Go.RowKit

def clashB (a b : Hold) : Bool := !(a.owner == b.owner) && (a.key == b.key && (a.write || b.write))
theorem clashB_symm (a b : Hold) : clashB a b = clashB b a := by
  unfold clashB
  rw [show (a.owner == b.owner) = (b.owner == a.owner) from BEq.comm, show (a.key == b.key) = (b.key == a.key) from BEq.comm, Bool.or_comm]
def goodHold (xs : List Hold) (k : Nat) : Bool :=
  match xs[k]? with
  | some x => inB x.owner 0 4 && (inB x.key 0 2 && !(x.got && (xs.take k).any fun y => clashB x y))
  | none => false
/-- What HoldsValid answers. -/
def holdsOk (xs : List Hold) : Bool := allGood xs (goodHold xs) 16
theorem goodHold_at {xs : List Hold} {k : Nat} {x : Hold} (hx : xs[k]? = some x) : goodHold xs k = (inB x.owner 0 4 && (inB x.key 0 2 && !(x.got && (xs.take k).any fun y => clashB x y))) := by
  unfold goodHold
  rw [hx]
theorem SlOf.take {α : Type} {m : Nat} {enc : α → Nat → Value} {w : World} {A : Option Addr} {n c k : Nat} {xs : List α} (h : SlOf m enc w (.slice A n c) xs) (hk : k ≤ n) : SlOf m enc w (.slice A k c) (xs.take k) := by
  obtain ⟨A', c', hA, hc⟩ := h
  injection hA with e1 e2 e3
  subst e1 e2 e3
  refine ⟨A, c, by rw [List.length_take, Nat.min_eq_left hk], fun hn => ?_⟩
  rw [List.length_take] at hn
  obtain ⟨b, off, hb, hlt, hcell⟩ := hc (by omega)
  refine ⟨b, off, hb, hlt, fun i x hx j hj => hcell i x ?_ j hj⟩
  rw [List.getElem?_take] at hx
  split at hx
  · exact hx
  · cases hx
theorem any_take_bad {α : Type} {p : α → Bool} {xs : List α} {k q : Nat} {y : α} (hy : xs[q]? = some y) (hq : q < k) (hp : p y = true) : (xs.take k).any p = true := by
  rw [List.any_eq_true]
  refine ⟨y, List.mem_of_getElem? (i := q) ?_, hp⟩
  rw [List.getElem?_take, if_pos hq]
  exact hy
theorem any_take_end {α : Type} {p : α → Bool} {xs : List α} {k : Nat} (h : ∀ i y, i < k → xs[i]? = some y → p y = false) : (xs.take k).any p = false := by
  rw [List.any_eq_false]
  intro y hy
  obtain ⟨i, hi⟩ := List.getElem?_of_mem hy
  rw [List.getElem?_take] at hi
  split at hi
  · rename_i hk
    rw [h i y hk hi]; decide
  · cases hi
set_option maxHeartbeats 400000 in
theorem l36Clash_any (a b : Hold) (w : World) :
    Calls Tryd.prog 65 #[.agg #[.int .i64 a.owner, .int .i64 a.key, .bool a.write, .bool a.got], .agg #[.int .i64 b.owner, .int .i64 b.key, .bool b.write, .bool b.got]] w fun e w' => e = .returned (.bool (clashB a b)) ∧ Ext w w' := by
  obtain ⟨ao, ak, aw, ag⟩ := a
  obtain ⟨bo, bk, bw, bg⟩ := b
  by_cases h1 : (ao == bo) = true
  · have h1' := beq_iff_eq.1 h1
    clear h1
    subst h1'
    go_enter Tryd.func65, Tryd.ntmps65
    go_wp2
    go_returns
    exact ⟨ret_bool (by simp [clashB]), by show Below _ _ _; go_grown⟩
  · simp only [Bool.not_eq_true] at h1
    have h1n : (ao != bo) = true := by rw [bne, h1]; rfl
    have H1 := Lib.hid h1
    clear h1
    by_cases h2 : (ak == bk) = true
    · have h2' := beq_iff_eq.1 h2
      clear h2
      subst h2'
      cases aw with
      | true =>
        go_enter Tryd.func65, Tryd.ntmps65
        go_wp2
        go_returns
        exact ⟨ret_bool (by simp [clashB, H1.out]), by show Below _ _ _; go_grown⟩
      | false =>
        go_enter Tryd.func65, Tryd.ntmps65
        go_wp2
        go_returns
        exact ⟨ret_bool (by simp [clashB, H1.out]), by show Below _ _ _; go_grown⟩
    · simp only [Bool.not_eq_true] at h2
      go_enter Tryd.func65, Tryd.ntmps65
      go_wp2
      go_returns
      exact ⟨ret_bool (by simp [clashB, H1.out, h2]), by show Below _ _ _; go_grown⟩
set_option maxHeartbeats 400000 in
theorem clashes_any (a b : Hold) (w : World) :
    Calls Tryd.prog 81 #[.agg #[.int .i64 a.owner, .int .i64 a.key, .bool a.write, .bool a.got], .agg #[.int .i64 b.owner, .int .i64 b.key, .bool b.write, .bool b.got]] w fun e w' => e = .returned (.bool (clashB a b)) ∧ Ext w w' := by
  obtain ⟨ao, ak, aw, ag⟩ := a
  obtain ⟨bo, bk, bw, bg⟩ := b
  by_cases h1 : (ao == bo) = true
  · have h1' := beq_iff_eq.1 h1
    clear h1
    subst h1'
    go_enter Tryd.func81, Tryd.ntmps81
    go_wp2
    go_returns
    exact ⟨ret_bool (by simp [clashB]), by show Below _ _ _; go_grown⟩
  · simp only [Bool.not_eq_true] at h1
    have h1n : (ao != bo) = true := by rw [bne, h1]; rfl
    have H1 := Lib.hid h1
    clear h1
    by_cases h2 : (ak == bk) = true
    · have h2' := beq_iff_eq.1 h2
      clear h2
      subst h2'
      cases aw with
      | true =>
        go_enter Tryd.func81, Tryd.ntmps81
        go_wp2
        go_returns
        exact ⟨ret_bool (by simp [clashB, H1.out]), by show Below _ _ _; go_grown⟩
      | false =>
        go_enter Tryd.func81, Tryd.ntmps81
        go_wp2
        go_returns
        exact ⟨ret_bool (by simp [clashB, H1.out]), by show Below _ _ _; go_grown⟩
    · simp only [Bool.not_eq_true] at h2
      go_enter Tryd.func81, Tryd.ntmps81
      go_wp2
      go_returns
      exact ⟨ret_bool (by simp [clashB, H1.out, h2]), by show Below _ _ _; go_grown⟩
set_option maxHeartbeats 400000 in
theorem indexFuncHoldM_any {v : Value} {xs : List Hold} (w : World) (F : FuncId) (r : Value) (p : Hold → Bool) (h : SlOf 4 encHold w v xs) (hlen : xs.length ≤ 2097152)
    (hcf : ∀ args W, (callFunc F args).run Tryd.prog W = .ok (.enter F args) W) (hF : ∀ x ∈ xs, ∀ W, Ext w W → Calls Tryd.prog F #[r, .agg #[.int .i64 x.owner, .int .i64 x.key, .bool x.write, .bool x.got]] W fun e w' => e = .returned (.bool (p x)) ∧ Ext W w') :
    Calls Tryd.prog 93 #[v, .func (.func F) #[r] #[]] w fun e w' => e = .returned (.int .i64 (findAt p xs 0)) ∧ Ext w w' := by
  obtain ⟨A, c, rfl, h⟩ := h
  have HF := Lib.hid hF
  clear hF
  go_enter Tryd.func93, Tryd.ntmps93
  go_wp2
  go_loopw [8] (fun i wr => Ext w wr ∧ ∃ k : Nat, k ≤ xs.length ∧ i = .int .i64 k ∧ Hid (findAt p xs 0 = findAt p (xs.drop k) k)) (fun i _ => xs.length - (intOf i).toNat)
  case atStart => exact ⟨Ext.refl _, 0, Nat.zero_le _, rfl, rfl⟩
  case round =>
    obtain ⟨hb, k, hk, rfl, HI⟩ := hrel
    by_cases hlt : k < xs.length
    · obtain ⟨b, off, rfl, hbl, hc⟩ := h (by omega)
      obtain ⟨x, hx⟩ := at_some hlt
      have c0 : wr.cell? ⟨b, off + k * 4, none⟩ = some (.int .i64 x.owner) := hb.cell (hc k x hx 0 (by omega))
      have c1 : wr.cell? ⟨b, off + k * 4 + 1, none⟩ = some (.int .i64 x.key) := hb.cell (hc k x hx 1 (by omega))
      have c2 : wr.cell? ⟨b, off + k * 4 + 2, none⟩ = some (.bool x.write) := hb.cell (hc k x hx 2 (by omega))
      have c3 : wr.cell? ⟨b, off + k * 4 + 3, none⟩ = some (.bool x.got) := hb.cell (hc k x hx 3 (by omega))
      have Hx := Lib.hid hx
      have Hm := List.mem_of_getElem? hx
      clear hx h hc
      go_wp2_with fail
      refine (HF.out x Hm _ hb).mono ?_
      rintro e w1 ⟨rfl, b1⟩
      by_cases hp : p x = true
      · have hr := Lib.hid (HI.out.trans (findAt_hit Hx.out hp))
        go_wp2
        go_returns
        exact ⟨ret_int hr.out.symm, hb.trans b1⟩
      · simp only [Bool.not_eq_true] at hp
        have hr := Lib.hid (HI.out.trans (findAt_step Hx.out hp))
        go_wp2
        go_roundw
        case rel => exact ⟨hb.trans b1, k + 1, by omega, by go_num, hr⟩
        case measure => simp [intOf]; omega
    · obtain rfl : k = xs.length := by omega
      go_wp2
      go_returns
      exact ⟨ret_int (by rw [HI.out]; simp [findAt]), hb⟩

set_option maxHeartbeats 400000 in
theorem containsFuncHoldM_any {v : Value} {xs : List Hold} (w : World) (F : FuncId) (r : Value) (p : Hold → Bool) (h : SlOf 4 encHold w v xs) (hlen : xs.length ≤ 2097152)
    (hcf : ∀ args W, (callFunc F args).run Tryd.prog W = .ok (.enter F args) W) (hF : ∀ x ∈ xs, ∀ W, Ext w W → Calls Tryd.prog F #[r, .agg #[.int .i64 x.owner, .int .i64 x.key, .bool x.write, .bool x.got]] W fun e w' => e = .returned (.bool (p x)) ∧ Ext W w') :
    Calls Tryd.prog 82 #[v, .func (.func F) #[r] #[]] w fun e w' => e = .returned (.bool (xs.any p)) ∧ Ext w w' := by
  have HF := Lib.hid hF
  clear hF
  go_enter Tryd.func82, Tryd.ntmps82
  go_wp2_with fail
  refine (indexFuncHoldM_any w F r p h hlen hcf HF.out).mono ?_
  rintro e w1 ⟨rfl, b1⟩
  go_wp2
  go_returns
  exact ⟨ret_bool (findAt_any), b1⟩

set_option maxHeartbeats 400000 in
theorem free_any {v : Value} {xs : List Hold} (x : Hold) (w : World) (h : SlOf 4 encHold w v xs) (hlen : xs.length ≤ 2097152) :
    Calls Tryd.prog 67 #[.agg #[.int .i64 x.owner, .int .i64 x.key, .bool x.write, .bool x.got], v] w fun e w' => e = .returned (.bool (!xs.any fun y => clashB x y)) ∧ Ext w w' := by
  have hb := h.ext ((Ext.refl w).alloc (.cells #[.int .i64 x.owner, .int .i64 x.key, .bool x.write, .bool x.got] 83))
  clear h
  go_enter Tryd.func67, Tryd.ntmps67
  go_wp2_with fail
  refine (containsFuncHoldM_any _ 81 (.agg #[.int .i64 x.owner, .int .i64 x.key, .bool x.write, .bool x.got]) (fun y => clashB x y) hb hlen (fun _ _ => by kernel_rfl) (fun y _ W _ => clashes_any x y W)).mono ?_
  rintro e w1 ⟨rfl, b1⟩
  go_wp2
  go_returns
  exact ⟨rfl, ((Ext.refl _).alloc _).trans b1⟩
set_option maxHeartbeats 1000000 in
theorem impl_HoldsValid {v : Value} {xs : List Hold} (w : World) (h : SlOf 4 encHold w v xs) (hlen : xs.length ≤ 2097152) (hcap : ∀ A n c, v = .slice A n c → n ≤ c ∧ c ≤ 9223372036854775807) :
    Calls Tryd.prog 33 #[v] w fun e w' => e = .returned (.bool (holdsOk xs)) ∧ Ext w w' := by
  have H := Lib.hid h
  obtain ⟨A, c, rfl, h⟩ := h
  have hcp := hcap _ _ _ rfl
  clear hcap
  go_enter Tryd.func33, Tryd.ntmps33
  go_wp2
  go_loopw [7] (fun i wr => Ext w wr ∧ ∃ k : Nat, k ≤ xs.length ∧ i = .int .i64 k ∧ Hid (∀ i, i < k → goodHold xs i = true)) (fun i _ => xs.length - (intOf i).toNat)
  case atStart => exact ⟨Ext.refl _, 0, Nat.zero_le _, rfl, fun _ h => absurd h (Nat.not_lt_zero _)⟩
  case round =>
    obtain ⟨hb, k, hk, rfl, Hgood⟩ := hrel
    by_cases hlt : k < xs.length
    · obtain ⟨b, off, rfl, hbl, hc⟩ := h (by omega)
      obtain ⟨x, hx⟩ := at_some hlt
      have c0 : wr.cell? ⟨b, off + k * 4, none⟩ = some (.int .i64 x.owner) := hb.cell (hc k x hx 0 (by omega))
      have c1 : wr.cell? ⟨b, off + k * 4 + 1, none⟩ = some (.int .i64 x.key) := hb.cell (hc k x hx 1 (by omega))
      have c2 : wr.cell? ⟨b, off + k * 4 + 2, none⟩ = some (.bool x.write) := hb.cell (hc k x hx 2 (by omega))
      have c3 : wr.cell? ⟨b, off + k * 4 + 3, none⟩ = some (.bool x.got) := hb.cell (hc k x hx 3 (by omega))
      have Hx := Lib.hid hx
      have HS := Lib.hid ((H.out.take (k := k) (by omega)).ext hb)
      have Hbad : goodHold xs k = false → Hid (holdsOk xs = false) := fun hg => allGood_bad hlt hg
      have HB := Lib.hid Hbad
      clear h hc hx Hbad
      go_wp2
      refine wp_world (fun W => Ext wr W ∧ W.cell? ⟨wr.heap.size, 0, none⟩ = some (.int .i64 x.owner) ∧ W.cell? ⟨wr.heap.size, 1, none⟩ = some (.int .i64 x.key) ∧ W.cell? ⟨wr.heap.size, 2, none⟩ = some (.bool x.write) ∧ W.cell? ⟨wr.heap.size, 3, none⟩ = some (.bool x.got)) ⟨(Ext.refl _).alloc _, by go_cell, by go_cell, by go_cell, by go_cell⟩ ?_
      rintro W ⟨hW, e0, e1, e2, e3⟩
      replace e0 := over_cell e0
      replace e1 := over_cell e1
      replace e2 := over_cell e2
      replace e3 := over_cell e3
      replace hb := hb.trans hW
      clear c0 c1 c2 c3
      refine wp_region_over (by kernel_rfl) (by kernel_rfl) ?_
      have hfr := fun e => free_any (xs := xs.take k) x (over W e) ((HS.out.ext hW).ext (over_below W e)) (by rw [List.length_take]; omega)
      by_cases hT : inB x.owner 0 4 = true
      · by_cases hV : inB x.key 0 2 = true
        · by_cases hany : (xs.take k).any (fun y => clashB x y) = true
          · rw [hany] at hfr
            cases hgot : x.got with
            | true =>
              rw [hgot] at e3 hfr
              have HF := Lib.hid hfr
              clear hfr
              have hf := HB.out ((goodHold_at Hx.out).trans (by rw [hgot, hany]; simp))
              repeat (go_big_quiet_step ((first | (go_at_call 58; exact quiet_same (within_any _ _ _ _)) | (go_at_call 66; exact quiet_same (keyOk_any _ _)) | (go_at_call 67; exact quiet_ext (HF.out _)))))
              refine wpQuiet_nil ?_
              intro w1 hb1
              go_wp2
              go_returns
              exact ⟨ret_bool hf.out.symm, hb.trans hb1⟩
            | false =>
              rw [hgot] at e3 hfr
              have HF := Lib.hid hfr
              clear hfr
              have hgk : Hid (goodHold xs k = true) := (goodHold_at Hx.out).trans (by rw [hgot, hT, hV]; simp)
              repeat (go_big_quiet_step ((first | (go_at_call 58; exact quiet_same (within_any _ _ _ _)) | (go_at_call 66; exact quiet_same (keyOk_any _ _)) | (go_at_call 67; exact quiet_ext (HF.out _)))))
              refine wpQuiet_nil ?_
              intro w1 hb1
              go_wp2
              go_roundw
              case rel => exact ⟨hb.trans hb1, k + 1, by omega, by go_num, fun i hi => if e : i = k then e ▸ hgk.out else Hgood.out i (by omega)⟩
              case measure => simp [intOf]; omega
          · simp only [Bool.not_eq_true] at hany
            rw [hany] at hfr
            have hgk : Hid (goodHold xs k = true) := (goodHold_at Hx.out).trans (by rw [hany, hT, hV]; simp)
            cases hgot : x.got with
            | true =>
              rw [hgot] at e3 hfr
              have HF := Lib.hid hfr
              clear hfr
              repeat (go_big_quiet_step ((first | (go_at_call 58; exact quiet_same (within_any _ _ _ _)) | (go_at_call 66; exact quiet_same (keyOk_any _ _)) | (go_at_call 67; exact quiet_ext (HF.out _)))))
              refine wpQuiet_nil ?_
              intro w1 hb1
              go_wp2
              go_roundw
              case rel => exact ⟨hb.trans hb1, k + 1, by omega, by go_num, fun i hi => if e : i = k then e ▸ hgk.out else Hgood.out i (by omega)⟩
              case measure => simp [intOf]; omega
            | false =>
              rw [hgot] at e3 hfr
              have HF := Lib.hid hfr
              clear hfr
              repeat (go_big_quiet_step ((first | (go_at_call 58; exact quiet_same (within_any _ _ _ _)) | (go_at_call 66; exact quiet_same (keyOk_any _ _)) | (go_at_call 67; exact quiet_ext (HF.out _)))))
              refine wpQuiet_nil ?_
              intro w1 hb1
              go_wp2
              go_roundw
              case rel => exact ⟨hb.trans hb1, k + 1, by omega, by go_num, fun i hi => if e : i = k then e ▸ hgk.out else Hgood.out i (by omega)⟩
              case measure => simp [intOf]; omega
        · simp only [Bool.not_eq_true] at hV
          have HF := Lib.hid hfr
          clear hfr
          have hf := HB.out ((goodHold_at Hx.out).trans (by rw [hV]; simp))
          repeat (go_big_quiet_step ((first | (go_at_call 58; exact quiet_same (within_any _ _ _ _)) | (go_at_call 66; exact quiet_same (keyOk_any _ _)) | (go_at_call 67; exact quiet_ext (HF.out _)))))
          refine wpQuiet_nil ?_
          intro w1 hb1
          go_wp2
          go_returns
          exact ⟨ret_bool hf.out.symm, hb.trans hb1⟩
      · simp only [Bool.not_eq_true] at hT
        have HF := Lib.hid hfr
        clear hfr
        have hf := HB.out ((goodHold_at Hx.out).trans (by rw [hT]; simp))
        repeat (go_big_quiet_step ((first | (go_at_call 58; exact quiet_same (within_any _ _ _ _)) | (go_at_call 66; exact quiet_same (keyOk_any _ _)) | (go_at_call 67; exact quiet_ext (HF.out _)))))
        refine wpQuiet_nil ?_
        intro w1 hb1
        go_wp2
        go_returns
        exact ⟨ret_bool hf.out.symm, hb.trans hb1⟩
    · go_wp2
      go_returns
      refine ⟨ret_bool ?_, hb⟩
      rw [holdsOk, allGood_end (fun i hi => Hgood.out i (by omega))]
      simp; omega
set_option maxHeartbeats 1000000 in
theorem spec_HoldsValid {v : Value} {xs : List Hold} (w : World) (h : SlOf 4 encHold w v xs) (hlen : xs.length ≤ 2097152) :
    Calls Tryd.prog 64 #[v] w fun e w' => e = .returned (.bool (holdsOk xs)) ∧ Ext w w' := by
  obtain ⟨A, c, rfl, h⟩ := h
  go_enter Tryd.func64, Tryd.ntmps64
  go_wp2
  go_loopw [3] (fun i wr => Ext w wr ∧ ∃ k : Nat, k ≤ xs.length ∧ i = .int .i64 k ∧ Hid (∀ i, i < k → goodHold xs i = true)) (fun i _ => xs.length - (intOf i).toNat)
  case atStart => exact ⟨Ext.refl _, 0, Nat.zero_le _, rfl, fun _ h => absurd h (Nat.not_lt_zero _)⟩
  case round =>
    obtain ⟨hb, k, hk, rfl, Hgood⟩ := hrel
    by_cases hlt : k < xs.length
    · obtain ⟨b, off, rfl, hbl, hc⟩ := h (by omega)
      obtain ⟨x, hx⟩ := at_some hlt
      have c0 : wr.cell? ⟨b, off + k * 4, none⟩ = some (.int .i64 x.owner) := hb.cell (hc k x hx 0 (by omega))
      have c1 : wr.cell? ⟨b, off + k * 4 + 1, none⟩ = some (.int .i64 x.key) := hb.cell (hc k x hx 1 (by omega))
      have c2 : wr.cell? ⟨b, off + k * 4 + 2, none⟩ = some (.bool x.write) := hb.cell (hc k x hx 2 (by omega))
      have c3 : wr.cell? ⟨b, off + k * 4 + 3, none⟩ = some (.bool x.got) := hb.cell (hc k x hx 3 (by omega))
      have Hc := Lib.hid hc
      have Hx := Lib.hid hx
      have Hbad : goodHold xs k = false → Hid (holdsOk xs = false) := fun hg => allGood_bad hlt hg
      have HB := Lib.hid Hbad
      clear h hc hx Hbad
      by_cases hT : inB x.owner 0 4 = true
      case neg =>
        simp only [Bool.not_eq_true] at hT
        have hf := HB.out ((goodHold_at Hx.out).trans (by rw [hT]; simp))
        go_wp2_with ((go_at_call 51; refine (l1In_any _ _ _ _).mono ?_; rintro e w' ⟨rfl, rfl⟩))
        go_returns
        exact ⟨ret_bool hf.out.symm, hb⟩
      by_cases hV : inB x.key 0 2 = true
      case neg =>
        simp only [Bool.not_eq_true] at hV
        have hf := HB.out ((goodHold_at Hx.out).trans (by rw [hV]; simp))
        go_wp2_with ((go_at_call 51; refine (l1In_any _ _ _ _).mono ?_; rintro e w' ⟨rfl, rfl⟩))
        go_returns
        exact ⟨ret_bool hf.out.symm, hb⟩
      obtain ⟨wo, rfl⟩ : ∃ wo : World, wo = wr := ⟨_, rfl⟩
      go_wp2_with ((go_at_call 51; refine (l1In_any _ _ _ _).mono ?_; rintro e w' ⟨rfl, rfl⟩))
      go_loopw [4] (fun i wr => Ext wo wr ∧ ∃ q : Nat, q ≤ k ∧ i = .int .i64 q ∧ Hid (x.got = true → ∀ i y, i < q → xs[i]? = some y → clashB x y = false)) (fun i _ => k - (intOf i).toNat)
      case atStart => exact ⟨Ext.refl _, 0, Nat.zero_le _, rfl, fun _ i _ h => absurd h (Nat.not_lt_zero _)⟩
      case round =>
        obtain ⟨hb2, q, hq, rfl, HJ⟩ := hrel
        by_cases hlt2 : q < k
        · obtain ⟨y, hy⟩ := at_some (show q < xs.length by omega)
          have d0 : ∀ e, (over wr e).cell? ⟨b, off + q * 4, none⟩ = some (.int .i64 y.owner) := over_cell (hb2.cell (hb.cell (Hc.out q y hy 0 (by omega))))
          have d1 : ∀ e, (over wr e).cell? ⟨b, off + q * 4 + 1, none⟩ = some (.int .i64 y.key) := over_cell (hb2.cell (hb.cell (Hc.out q y hy 1 (by omega))))
          have d2 : ∀ e, (over wr e).cell? ⟨b, off + q * 4 + 2, none⟩ = some (.bool y.write) := over_cell (hb2.cell (hb.cell (Hc.out q y hy 2 (by omega))))
          have d3 : ∀ e, (over wr e).cell? ⟨b, off + q * 4 + 3, none⟩ = some (.bool y.got) := over_cell (hb2.cell (hb.cell (Hc.out q y hy 3 (by omega))))
          have e0 : ∀ e, (over wr e).cell? ⟨b, off + k * 4, none⟩ = some (.int .i64 x.owner) := over_cell (hb2.cell c0)
          have e1 : ∀ e, (over wr e).cell? ⟨b, off + k * 4 + 1, none⟩ = some (.int .i64 x.key) := over_cell (hb2.cell c1)
          have e2 : ∀ e, (over wr e).cell? ⟨b, off + k * 4 + 2, none⟩ = some (.bool x.write) := over_cell (hb2.cell c2)
          have e3 : ∀ e, (over wr e).cell? ⟨b, off + k * 4 + 3, none⟩ = some (.bool x.got) := over_cell (hb2.cell c3)
          have Hy := Lib.hid hy
          have hcl := fun e => l36Clash_any y x (over wr e)
          rw [clashB_symm y x] at hcl
          clear hy c0 c1 c2 c3
          go_wp2
          refine wp_region_over (by kernel_rfl) (by kernel_rfl) ?_
          cases hgot : x.got with
          | false =>
            rw [hgot] at e3 hcl
            have HF := Lib.hid hcl
            clear hcl
            repeat (go_big_quiet_step ((go_at_call 65; exact quiet_ext (HF.out _))))
            refine wpQuiet_nil ?_
            intro w1 hb1
            go_wp2
            go_roundw
            case rel => exact ⟨hb2.trans hb1, q + 1, by omega, by go_num, fun h => by rw [hgot] at h; cases h⟩
            case measure => simp [intOf]; omega
          | true =>
            by_cases hcm : clashB x y = true
            · rw [hgot] at e3
              rw [hcm, hgot] at hcl
              have HF := Lib.hid hcl
              clear hcl
              have hf := HB.out ((goodHold_at Hx.out).trans (by rw [hgot, any_take_bad Hy.out hlt2 hcm]; simp))
              repeat (go_big_quiet_step ((go_at_call 65; exact quiet_ext (HF.out _))))
              refine wpQuiet_nil ?_
              intro w1 hb1
              go_wp2
              go_returns
              exact ⟨ret_bool hf.out.symm, (hb.trans hb2).trans hb1⟩
            · simp only [Bool.not_eq_true] at hcm
              rw [hgot] at e3
              rw [hcm, hgot] at hcl
              have HF := Lib.hid hcl
              clear hcl
              repeat (go_big_quiet_step ((go_at_call 65; exact quiet_ext (HF.out _))))
              refine wpQuiet_nil ?_
              intro w1 hb1
              go_wp2
              go_roundw
              case rel => exact ⟨hb2.trans hb1, q + 1, by omega, by go_num, fun h i z hi hz => if e : i = q then by subst e; rw [Hy.out] at hz; cases hz; exact hcm else HJ.out h i z (by omega) hz⟩
              case measure => simp [intOf]; omega
        · have hgk : Hid (goodHold xs k = true) := (goodHold_at Hx.out).trans (by
            rw [hT, hV]
            cases hgot : x.got with
            | false => simp
            | true => rw [any_take_end (fun i y hi hy => HJ.out hgot i y (by omega) hy)]; simp)
          go_wp2
          go_roundw
          case rel => exact ⟨hb.trans hb2, k + 1, by omega, by go_num, fun i hi => if e : i = k then e ▸ hgk.out else Hgood.out i (by omega)⟩
          case measure => simp [intOf]; omega
    · go_wp2
      go_returns
      refine ⟨ret_bool ?_, hb⟩
      rw [holdsOk, allGood_end (fun i hi => Hgood.out i (by omega))]
      simp; omega
end Go.Proofs.YtbbfdnmlfjdidaaDoor
