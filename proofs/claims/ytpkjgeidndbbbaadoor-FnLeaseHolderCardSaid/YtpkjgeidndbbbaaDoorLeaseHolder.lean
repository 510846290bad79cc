/- Who believes to hold a lease: LeaseHolder, of the reference and of the program. -/
import Derived.Test.YtpkjgeidndbbbaaDoorLease
import Derived.Test.YtpkjgeidndbbbaaDoorInts
namespace Go.Proofs.YtpkjgeidndbbbaaDoor
open Go.RowKit
set_option maxRecDepth 8000

def heldBy (now : Int) (ws : List Int) (skew : Int) (l : Lease) : Bool := heldB l (now + ws.getD l.who.toNat 0) skew
def firstHeld (xs : List Lease) (now : Int) (ws : List Int) (skew : Int) : Int :=
  match xs.find? (heldBy now ws skew) with
  | some l => l.who
  | none => -1
/-- What LeaseHolder answers. -/
def holderB (xs : List Lease) (now : Int) (ws : List Int) (skew : Int) : Int :=
  if leasesOk xs = true ∧ inB skew 0 50 = true ∧ ws.length = 4 ∧ (∀ y ∈ ws, inB y (-skew) skew = true) ∧ inB now 0 1000 = true then firstHeld xs now ws skew else -1
theorem firstHeld_hit {xs : List Lease} {now : Int} {ws : List Int} {skew : Int} {k : Nat} {x : Lease} (hx : xs[k]? = some x) (hp : heldBy now ws skew x = true) (hn : ∀ i y, i < k → xs[i]? = some y → heldBy now ws skew y = false) : firstHeld xs now ws skew = x.who := by
  have : xs.find? (heldBy now ws skew) = some x := by
    obtain ⟨hk, rfl⟩ := List.getElem?_eq_some_iff.1 hx
    rw [List.find?_eq_some_iff_getElem]
    exact ⟨hp, k, hk, rfl, fun j hj => by simp [hn j xs[j] hj (List.getElem?_eq_getElem (by omega))]⟩
  rw [firstHeld, this]
theorem firstHeld_none {xs : List Lease} {now : Int} {ws : List Int} {skew : Int} (hn : ∀ i y, i < xs.length → xs[i]? = some y → heldBy now ws skew y = false) : firstHeld xs now ws skew = -1 := by
  have : xs.find? (heldBy now ws skew) = none := by
    rw [List.find?_eq_none]
    intro x hx
    obtain ⟨i, hi⟩ := List.getElem?_of_mem hx
    rw [hn i x (List.getElem?_eq_some_iff.1 hi).1 hi]
    simp
  rw [firstHeld, this]
theorem leasesOk_at {xs : List Lease} {k : Nat} {x : Lease} (h : leasesOk xs = true) (hx : xs[k]? = some x) : (0 ≤ x.who ∧ x.who ≤ 3) ∧ (0 ≤ x.frm ∧ x.frm ≤ 1000) ∧ (0 ≤ x.til ∧ x.til ≤ 1000) := by
  have h1 := (allGood_true.1 h).1 k (List.getElem?_eq_some_iff.1 hx).1
  rw [goodLease, goodAt_any hx] at h1
  simp only [gLease, Bool.and_eq_true, inB_true] at h1
  exact ⟨h1.1.1.1.1, h1.1.1.1.2, h1.1.1.2⟩
/-- At a time that is none of the giving clock nobody holds anything. -/
theorem held_out {l : Lease} {now y skew : Int} (hl : 0 ≤ l.frm ∧ l.til ≤ 1000) (_hs : 0 ≤ skew ∧ skew ≤ 50) (hy : -skew ≤ y ∧ y ≤ skew) (hn : now < 0 ∨ 1000 < now) (h1 : -9223372036854775808 ≤ now) (h2 : now ≤ 9223372036854775807) :
    heldB l (wrap64 (now + y)) skew = false := by
  unfold wrap64
  simp only [heldB, inB, Bool.and_eq_false_iff, decide_eq_false_iff_not]
  omega

set_option maxHeartbeats 400000 in
theorem leaseHolder1_any {a : Addr} {skew x : Int} (w : World) (hc : w.cell? a = some (.int .i64 skew)) (h0 : 0 ≤ skew) (h1 : skew ≤ 50) :
    Calls Tryd.prog 60 #[.int .i64 x, .pointer (some a)] w fun e w' => e = .returned (.bool (!inB x (-skew) skew)) ∧ Ext w w' := by
  go_enter Tryd.func60, Tryd.ntmps60
  go_wp2_with ((go_at_call 42; refine (within_any _ _ _ _).mono ?_; rintro e w' ⟨rfl, rfl⟩))
  go_returns
  exact ⟨rfl, Ext.refl _⟩
set_option maxHeartbeats 4000000 in
theorem spec_LeaseHolder {u v : Value} {xs : List Lease} {ws : List Int} (now skew : Int) (w : World) (h : SlOf 3 encLease w u xs) (h' : Sl1 encI w v ws) (hlen : xs.length ≤ 2097152) (hlen' : ws.length ≤ 2097152)
    (_ : (Lit.int .i64 now).wf = true) (_ : (Lit.int .i64 skew).wf = true) (_ : ∀ x ∈ ws, (Lit.int .i64 x).wf = true) :
    Calls Tryd.prog 27 #[u, .int .i64 now, v, .int .i64 skew] w fun e w' => e = .returned (.int .i64 (holderB xs now ws skew)) ∧ Ext w w' := by
  have H := Lib.hid h
  have H' := Lib.hid h'
  obtain ⟨A, c, rfl, h⟩ := h
  obtain ⟨A', c', rfl, h'⟩ := h'
  by_cases hv : leasesOk xs = true
  case neg =>
    have hf : Hid (holderB xs now ws skew = -1) := by show _ = _; rw [holderB, if_neg (fun h => hv h.1)]
    simp only [Bool.not_eq_true] at hv
    go_enter Tryd.func27, Tryd.ntmps27
    go_wp2_with fail
    refine (spec_LeasesValid _ H.out hlen).mono ?_
    rintro e w1 ⟨rfl, b1⟩
    go_wp2
    go_returns
    exact ⟨ret_int hf.out.symm, b1⟩
  by_cases h4 : ws.length = 4
  case neg =>
    have hf : Hid (holderB xs now ws skew = -1) := by show _ = _; rw [holderB, if_neg (fun h => h4 h.2.2.1)]
    have h4' : ((ws.length : Int) != 4) = true := by rw [bne_iff_ne]; omega
    clear h4
    go_enter Tryd.func27, Tryd.ntmps27
    go_wp2_with fail
    refine (spec_LeasesValid _ H.out hlen).mono ?_
    rintro e w1 ⟨rfl, b1⟩
    go_wp2
    go_returns
    exact ⟨ret_int hf.out.symm, b1⟩
  have h4' : ((ws.length : Int) != 4) = false := by rw [bne_eq_false_iff_eq]; omega
  have H4 := Lib.hid h4
  have h4a : ws.length < 5 := by omega
  have h4b : 3 < ws.length := by omega
  clear h4
  by_cases hs : inB skew 0 50 = true
  case neg =>
    have hf : Hid (holderB xs now ws skew = -1) := by show _ = _; rw [holderB, if_neg (fun h => hs h.2.1)]
    simp only [Bool.not_eq_true] at hs
    go_enter Tryd.func27, Tryd.ntmps27
    go_wp2_with fail
    refine (spec_LeasesValid _ H.out hlen).mono ?_
    rintro e w1 ⟨rfl, b1⟩
    go_wp2_with ((go_at_call 62; refine (l1In_any _ _ _ _).mono ?_; rintro e w' ⟨rfl, rfl⟩))
    go_returns
    exact ⟨ret_int hf.out.symm, b1⟩
  by_cases hn : inB now 0 1000 = true
  case neg =>
    have hf : Hid (holderB xs now ws skew = -1) := by show _ = _; rw [holderB, if_neg (fun h => hn h.2.2.2.2)]
    simp only [Bool.not_eq_true] at hn
    go_enter Tryd.func27, Tryd.ntmps27
    go_wp2_with fail
    refine (spec_LeasesValid _ H.out hlen).mono ?_
    rintro e w1 ⟨rfl, b1⟩
    go_wp2_with ((go_at_call 62; refine (l1In_any _ _ _ _).mono ?_; rintro e w' ⟨rfl, rfl⟩))
    go_returns
    exact ⟨ret_int hf.out.symm, b1⟩
  have hs' := inB_true.1 hs
  have hn' := inB_true.1 hn
  go_enter Tryd.func27, Tryd.ntmps27
  go_wp2_with fail
  refine (spec_LeasesValid _ H.out hlen).mono ?_
  rintro e w1 ⟨rfl, b1⟩
  go_wp2_with ((go_at_call 62; refine (l1In_any _ _ _ _).mono ?_; rintro e w' ⟨rfl, rfl⟩))
  go_loopw [9] (fun i wr => Ext w1 wr ∧ ∃ k : Nat, k ≤ ws.length ∧ i = .int .i64 k ∧ Hid (∀ i y, i < k → ws[i]? = some y → inB y (-skew) skew = true)) (fun i _ => ws.length - (intOf i).toNat)
  case atStart => exact ⟨Ext.refl _, 0, Nat.zero_le _, rfl, fun i _ h => absurd h (Nat.not_lt_zero _)⟩
  case round =>
    obtain ⟨hb, k, hk, rfl, HG⟩ := hrel
    by_cases hlt : k < ws.length
    · obtain ⟨b, off, rfl, hbl, hc⟩ := h' (by omega)
      obtain ⟨y, hy⟩ := at_some hlt
      have c0 : wr.cell? ⟨b, off + k, none⟩ = some (.int .i64 y) := hb.cell (b1.cell (hc k y hy))
      have Hy := Lib.hid hy
      clear h' hc hy
      by_cases hg : inB y (-skew) skew = true
      · go_wp2_with ((go_at_call 62; refine (l1In_any _ _ _ _).mono ?_; rintro e w' ⟨rfl, rfl⟩))
        go_roundw
        case rel => exact ⟨hb, k + 1, by omega, by go_num, fun i z hi hz => if e : i = k then by subst e; rw [Hy.out] at hz; cases hz; exact hg else HG.out i z (by omega) hz⟩
        case measure => simp [intOf]; omega
      · have hf : Hid (holderB xs now ws skew = -1) := by show _ = _; rw [holderB, if_neg (fun h => hg (h.2.2.2.1 y (List.mem_of_getElem? Hy.out)))]
        simp only [Bool.not_eq_true] at hg
        go_wp2_with ((go_at_call 62; refine (l1In_any _ _ _ _).mono ?_; rintro e w' ⟨rfl, rfl⟩))
        go_returns
        exact ⟨ret_int hf.out.symm, b1.trans hb⟩
    · have hall : ∀ y ∈ ws, inB y (-skew) skew = true := fun y hy => by
        obtain ⟨i, hi⟩ := List.getElem?_of_mem hy
        have := (List.getElem?_eq_some_iff.1 hi).1
        exact HG.out i y (by omega) hi
      have hf : Hid (holderB xs now ws skew = firstHeld xs now ws skew) := by show _ = _; rw [holderB, if_pos ⟨hv, hs, H4.out, hall, hn⟩]
      have Hall := Lib.hid hall
      have B2 := b1.trans hb
      clear hall HG
      obtain ⟨wo, rfl⟩ : ∃ wo : World, wo = wr := ⟨_, rfl⟩
      go_wp2
      go_loopw [10] (fun i wr => Ext wo wr ∧ ∃ k : Nat, k ≤ xs.length ∧ i = .int .i64 k ∧ Hid (∀ i y, i < k → xs[i]? = some y → heldBy now ws skew y = false)) (fun i _ => xs.length - (intOf i).toNat)
      case atStart => exact ⟨Ext.refl _, 0, Nat.zero_le _, rfl, fun i _ h => absurd h (Nat.not_lt_zero _)⟩
      case round =>
        obtain ⟨hb2, j, hj, rfl, HJ⟩ := hrel
        by_cases hlt2 : j < xs.length
        · obtain ⟨b, off, rfl, hbl, hc⟩ := h (by omega)
          obtain ⟨x, hx⟩ := at_some hlt2
          have hx3 := leasesOk_at hv hx
          obtain ⟨who, frm, til⟩ := x
          simp only at hx3
          obtain ⟨q, rfl⟩ := Int.eq_ofNat_of_zero_le hx3.1.1
          have hq : q < ws.length := by omega
          obtain ⟨b', off', rfl, hbl', hc'⟩ := h' (by omega)
          obtain ⟨y, hy⟩ := at_some hq
          have hyb := inB_true.1 (Hall.out y (List.mem_of_getElem? hy))
          have c0 : ∀ e, (over wr e).cell? ⟨b, off + j * 3, none⟩ = some (.int .i64 (q : Int)) := over_cell (hb2.cell (B2.cell (hc j _ hx 0 (by omega))))
          have c1 : ∀ e, (over wr e).cell? ⟨b, off + j * 3 + 1, none⟩ = some (.int .i64 frm) := over_cell (hb2.cell (B2.cell (hc j _ hx 1 (by omega))))
          have c2 : ∀ e, (over wr e).cell? ⟨b, off + j * 3 + 2, none⟩ = some (.int .i64 til) := over_cell (hb2.cell (B2.cell (hc j _ hx 2 (by omega))))
          have d0 : ∀ e, (over wr e).cell? ⟨b', off' + q, none⟩ = some (.int .i64 y) := over_cell (hb2.cell (B2.cell (hc' q y hy)))
          have e0 : wr.cell? ⟨b, off + j * 3, none⟩ = some (.int .i64 (q : Int)) := hb2.cell (B2.cell (hc j _ hx 0 (by omega)))
          have hby : heldBy now ws skew ⟨q, frm, til⟩ = heldB ⟨q, frm, til⟩ (now + y) skew := by
            rw [heldBy]; simp [hy]
          have Hx := Lib.hid hx
          have Hby := Lib.hid hby
          have E0 := Lib.hid e0
          clear h h' hc hc' hx hy hby e0
          go_wp2
          refine wp_region_over (by kernel_rfl) (by kernel_rfl) ?_
          by_cases hh : heldB ⟨q, frm, til⟩ (now + y) skew = true
          · have hr := Lib.hid (hf.out.trans (firstHeld_hit Hx.out (Hby.out.trans hh) HJ.out))
            have hcall := Lib.hid (fun W => spec_LeaseHeld ⟨q, frm, til⟩ (now + y) skew W)
            rw [hh] at hcall
            repeat (go_big_quiet_step ((go_at_call 63; exact quiet_ext (hcall.out _))))
            refine wpQuiet_nil ?_
            intro w2 hb3
            have e0 := hb3.cell E0.out
            go_wp2
            go_returns
            exact ⟨ret_int hr.out.symm, (B2.trans hb2).trans hb3⟩
          · simp only [Bool.not_eq_true] at hh
            have hno := Lib.hid (Hby.out.trans hh)
            have hcall := Lib.hid (fun W => spec_LeaseHeld ⟨q, frm, til⟩ (now + y) skew W)
            rw [hh] at hcall
            repeat (go_big_quiet_step ((go_at_call 63; exact quiet_ext (hcall.out _))))
            refine wpQuiet_nil ?_
            intro w2 hb3
            go_wp2
            go_roundw
            case rel => exact ⟨hb2.trans hb3, j + 1, by omega, by go_num, fun i z hi hz => if e : i = j then by subst e; rw [Hx.out] at hz; cases hz; exact hno.out else HJ.out i z (by omega) hz⟩
            case measure => simp [intOf]; omega
        · have hr := Lib.hid (hf.out.trans (firstHeld_none (fun i y hi hy => HJ.out i y (by omega) hy)))
          go_wp2
          go_returns
          exact ⟨ret_int hr.out.symm, B2.trans hb2⟩
set_option maxHeartbeats 4000000 in
theorem impl_LeaseHolder {u v : Value} {xs : List Lease} {ws : List Int} (now skew : Int) (w : World) (h : SlOf 3 encLease w u xs) (h' : Sl1 encI w v ws) (hlen : xs.length ≤ 2097152) (hlen' : ws.length ≤ 2097152)
    (fn : (Lit.int .i64 now).wf = true) (_ : (Lit.int .i64 skew).wf = true) (_ : ∀ x ∈ ws, (Lit.int .i64 x).wf = true) :
    Calls Tryd.prog 26 #[u, .int .i64 now, v, .int .i64 skew] w fun e w' => e = .returned (.int .i64 (holderB xs now ws skew)) ∧ Ext w w' := by
  have HN := Lib.hid fn
  clear fn
  replace h := h.ext ((Ext.refl w).alloc (.cells #[.int .i64 skew] 3))
  replace h' := h'.ext ((Ext.refl w).alloc (.cells #[.int .i64 skew] 3))
  have H := Lib.hid h
  have H' := Lib.hid h'
  obtain ⟨A, c, rfl, h⟩ := h
  obtain ⟨A', c', rfl, h'⟩ := h'
  have b0 : Ext w (w.alloc (.cells #[.int .i64 skew] 3)) := (Ext.refl w).alloc _
  by_cases hv : leasesOk xs = true
  case neg =>
    have hf : Hid (holderB xs now ws skew = -1) := by show _ = _; rw [holderB, if_neg (fun h => hv h.1)]
    simp only [Bool.not_eq_true] at hv
    go_enter Tryd.func26, Tryd.ntmps26
    go_wp2_with fail
    refine (impl_LeasesValid _ H.out hlen).mono ?_
    rintro e w1 ⟨rfl, b1⟩
    go_wp2
    go_returns
    exact ⟨ret_int hf.out.symm, b0.trans b1⟩
  by_cases hs : inB skew 0 50 = true
  case neg =>
    have hf : Hid (holderB xs now ws skew = -1) := by show _ = _; rw [holderB, if_neg (fun h => hs h.2.1)]
    simp only [Bool.not_eq_true] at hs
    go_enter Tryd.func26, Tryd.ntmps26
    go_wp2_with fail
    refine (impl_LeasesValid _ H.out hlen).mono ?_
    rintro e w1 ⟨rfl, b1⟩
    have e0 := b1.cell (p := ⟨w.heap.size, 0, none⟩) (v := .int .i64 skew) (by go_cell)
    go_wp2_with ((go_at_call 58; refine (skewOk_any _ _).mono ?_; rintro e w' ⟨rfl, rfl⟩))
    go_returns
    exact ⟨ret_int hf.out.symm, b0.trans b1⟩
  by_cases h4 : ws.length = 4
  case neg =>
    have hf : Hid (holderB xs now ws skew = -1) := by show _ = _; rw [holderB, if_neg (fun h => h4 h.2.2.1)]
    have h4' : ((ws.length : Int) != 4) = true := by rw [bne_iff_ne]; omega
    clear h4
    go_enter Tryd.func26, Tryd.ntmps26
    go_wp2_with fail
    refine (impl_LeasesValid _ H.out hlen).mono ?_
    rintro e w1 ⟨rfl, b1⟩
    have e0 := b1.cell (p := ⟨w.heap.size, 0, none⟩) (v := .int .i64 skew) (by go_cell)
    go_wp2_with ((go_at_call 58; refine (skewOk_any _ _).mono ?_; rintro e w' ⟨rfl, rfl⟩))
    go_returns
    exact ⟨ret_int hf.out.symm, b0.trans b1⟩
  have h4' : ((ws.length : Int) != 4) = false := by rw [bne_eq_false_iff_eq]; omega
  have H4 := Lib.hid h4
  have h4a : ws.length < 5 := by omega
  have h4b : 3 < ws.length := by omega
  clear h4
  have hs' := inB_true.1 hs
  go_enter Tryd.func26, Tryd.ntmps26
  go_wp2_with fail
  refine (impl_LeasesValid _ H.out hlen).mono ?_
  rintro e w1 ⟨rfl, b1⟩
  have e0 := b1.cell (p := ⟨w.heap.size, 0, none⟩) (v := .int .i64 skew) (by go_cell)
  go_wp2_with fail
  refine (skewOk_any _ _).mono ?_
  rintro e w' ⟨rfl, rfl⟩
  have hcall := Lib.hid (containsFuncI_any w1 60 #[.pointer (some ⟨w.heap.size, 0, none⟩)] (fun y => !inB y (-skew) skew) (H'.out.ext b1) hlen' (fun _ _ => by kernel_rfl) (fun x _ W hW => leaseHolder1_any W (hW.cell e0) hs'.1 hs'.2))
  by_cases hall : ∀ y ∈ ws, inB y (-skew) skew = true
  case neg =>
    have hf : Hid (holderB xs now ws skew = -1) := by show _ = _; rw [holderB, if_neg (fun h => hall h.2.2.2.1)]
    rw [show (ws.any fun y => !inB y (-skew) skew) = true from by
      rw [List.any_eq_true]
      by_cases hex : ∃ y, y ∈ ws ∧ (!inB y (-skew) skew) = true
      · exact hex
      · exact absurd (fun y hy => by
          cases hi : inB y (-skew) skew with
          | true => rfl
          | false => exact absurd ⟨y, hy, by rw [hi]; rfl⟩ hex) hall] at hcall
    clear hall
    go_wp2_with fail
    refine hcall.out.mono ?_
    rintro e w2 ⟨rfl, b2⟩
    go_wp2
    go_returns
    exact ⟨ret_int hf.out.symm, (b0.trans b1).trans b2⟩
  rw [show (ws.any fun y => !inB y (-skew) skew) = false from by
    rw [List.any_eq_false]
    intro y hy
    rw [hall y hy]; simp] at hcall
  have Hall := Lib.hid hall
  have hf : Hid (holderB xs now ws skew = if inB now 0 1000 = true then firstHeld xs now ws skew else -1) := by
    show _ = _
    by_cases hn : inB now 0 1000 = true
    · rw [if_pos hn, holderB, if_pos ⟨hv, hs, H4.out, hall, hn⟩]
    · rw [if_neg hn, holderB, if_neg (fun h => hn h.2.2.2.2)]
  clear hall
  go_wp2_with fail
  refine hcall.out.mono ?_
  rintro e w2 ⟨rfl, b2⟩
  replace e0 := b2.cell e0
  have B2 := b1.trans b2
  clear b1 b2 hcall
  have hnow : (0 ≤ now ∧ now ≤ 1000) ∨ (now < 0 ∨ 1000 < now) := by omega
  rcases hnow with hn | hn
  · have hf2 : Hid (holderB xs now ws skew = firstHeld xs now ws skew) := hf.out.trans (by rw [if_pos (inB_true.2 hn)])
    go_wp2
    go_loopw [29] (fun i wr => Ext w2 wr ∧ ∃ k : Nat, k ≤ xs.length ∧ i = .int .i64 k ∧ Hid (∀ i y, i < k → xs[i]? = some y → heldBy now ws skew y = false)) (fun i _ => xs.length - (intOf i).toNat)
    case atStart => exact ⟨Ext.refl _, 0, Nat.zero_le _, rfl, fun i _ h => absurd h (Nat.not_lt_zero _)⟩
    case round =>
      obtain ⟨hb2, j, hj, rfl, HJ⟩ := hrel
      by_cases hlt2 : j < xs.length
      · obtain ⟨b, off, rfl, hbl, hc⟩ := h (by omega)
        obtain ⟨x, hx⟩ := at_some hlt2
        have hx3 := leasesOk_at hv hx
        obtain ⟨who, frm, til⟩ := x
        simp only at hx3
        obtain ⟨q, rfl⟩ := Int.eq_ofNat_of_zero_le hx3.1.1
        have hq : q < ws.length := by omega
        obtain ⟨b', off', rfl, hbl', hc'⟩ := h' (by omega)
        obtain ⟨y, hy⟩ := at_some hq
        have hyb := inB_true.1 (Hall.out y (List.mem_of_getElem? hy))
        have c0 : wr.cell? ⟨b, off + j * 3, none⟩ = some (.int .i64 (q : Int)) := hb2.cell (B2.cell (hc j _ hx 0 (by omega)))
        have c1 : wr.cell? ⟨b, off + j * 3 + 1, none⟩ = some (.int .i64 frm) := hb2.cell (B2.cell (hc j _ hx 1 (by omega)))
        have c2 : wr.cell? ⟨b, off + j * 3 + 2, none⟩ = some (.int .i64 til) := hb2.cell (B2.cell (hc j _ hx 2 (by omega)))
        have d0 : wr.cell? ⟨b', off' + q, none⟩ = some (.int .i64 y) := hb2.cell (B2.cell (hc' q y hy))
        have s0 : wr.cell? ⟨w.heap.size, 0, none⟩ = some (.int .i64 skew) := hb2.cell e0
        have hby : heldBy now ws skew ⟨q, frm, til⟩ = heldB ⟨q, frm, til⟩ (now + y) skew := by
          rw [heldBy]; simp [hy]
        have Hx := Lib.hid hx
        have Hby := Lib.hid hby
        have D0 := Lib.hid d0
        have S0 := Lib.hid s0
        clear h h' hc hc' hx hy hby d0 s0 e0
        go_wp2
        refine wp_world (fun W => Ext wr W ∧ W.cell? ⟨wr.heap.size, 0, none⟩ = some (.int .i64 (q : Int)) ∧ W.cell? ⟨wr.heap.size, 1, none⟩ = some (.int .i64 frm) ∧ W.cell? ⟨wr.heap.size, 2, none⟩ = some (.int .i64 til)) ⟨(Ext.refl _).alloc _, by go_cell, by go_cell, by go_cell⟩ ?_
        rintro W ⟨hW, e0, e1, e2⟩
        have E0 := Lib.hid e0
        have d0 := over_cell (hW.cell D0.out)
        have s0 := over_cell (hW.cell S0.out)
        replace e0 := over_cell e0
        replace e1 := over_cell e1
        replace e2 := over_cell e2
        clear c0 c1 c2
        refine wp_region_over (by kernel_rfl) (by kernel_rfl) ?_
        have hcall := Lib.hid (fun W => impl_LeaseHeld ⟨q, frm, til⟩ (now + y) skew W)
        by_cases hh : heldB ⟨q, frm, til⟩ (now + y) skew = true
        · have hr := Lib.hid (hf2.out.trans (firstHeld_hit Hx.out (Hby.out.trans hh) HJ.out))
          rw [hh] at hcall
          repeat (go_big_quiet_step ((go_at_call 28; exact quiet_ext (hcall.out _))))
          refine wpQuiet_nil ?_
          intro w3 hb3
          have f0 := hb3.cell E0.out
          go_wp2
          go_returns
          exact ⟨ret_int hr.out.symm, (((b0.trans B2).trans hb2).trans hW).trans hb3⟩
        · simp only [Bool.not_eq_true] at hh
          have hno := Lib.hid (Hby.out.trans hh)
          rw [hh] at hcall
          repeat (go_big_quiet_step ((go_at_call 28; exact quiet_ext (hcall.out _))))
          refine wpQuiet_nil ?_
          intro w3 hb3
          go_wp2
          go_roundw
          case rel => exact ⟨(hb2.trans hW).trans hb3, j + 1, by omega, by go_num, fun i z hi hz => if e : i = j then by subst e; rw [Hx.out] at hz; cases hz; exact hno.out else HJ.out i z (by omega) hz⟩
          case measure => simp [intOf]; omega
      · have hr := Lib.hid (hf2.out.trans (firstHeld_none (fun i y hi hy => HJ.out i y (by omega) hy)))
        go_wp2
        go_returns
        exact ⟨ret_int hr.out.symm, (b0.trans B2).trans hb2⟩
  · have hf2 : Hid (holderB xs now ws skew = -1) := hf.out.trans (by rw [if_neg (fun h => by have := inB_true.1 h; omega)])
    go_wp2
    go_loopw [29] (fun i wr => Ext w2 wr ∧ ∃ k : Nat, k ≤ xs.length ∧ i = .int .i64 k) (fun i _ => xs.length - (intOf i).toNat)
    case atStart => exact ⟨Ext.refl _, 0, Nat.zero_le _, rfl⟩
    case round =>
      obtain ⟨hb2, j, hj, rfl⟩ := hrel
      by_cases hlt2 : j < xs.length
      · obtain ⟨b, off, rfl, hbl, hc⟩ := h (by omega)
        obtain ⟨x, hx⟩ := at_some hlt2
        have hx3 := leasesOk_at hv hx
        obtain ⟨who, frm, til⟩ := x
        simp only at hx3
        obtain ⟨q, rfl⟩ := Int.eq_ofNat_of_zero_le hx3.1.1
        have hq : q < ws.length := by omega
        obtain ⟨b', off', rfl, hbl', hc'⟩ := h' (by omega)
        obtain ⟨y, hy⟩ := at_some hq
        have hyb := inB_true.1 (Hall.out y (List.mem_of_getElem? hy))
        have c0 : wr.cell? ⟨b, off + j * 3, none⟩ = some (.int .i64 (q : Int)) := hb2.cell (B2.cell (hc j _ hx 0 (by omega)))
        have c1 : wr.cell? ⟨b, off + j * 3 + 1, none⟩ = some (.int .i64 frm) := hb2.cell (B2.cell (hc j _ hx 1 (by omega)))
        have c2 : wr.cell? ⟨b, off + j * 3 + 2, none⟩ = some (.int .i64 til) := hb2.cell (B2.cell (hc j _ hx 2 (by omega)))
        have d0 : wr.cell? ⟨b', off' + q, none⟩ = some (.int .i64 y) := hb2.cell (B2.cell (hc' q y hy))
        have s0 : wr.cell? ⟨w.heap.size, 0, none⟩ = some (.int .i64 skew) := hb2.cell e0
        have hout := held_out (l := ⟨q, frm, til⟩) (now := now) (y := y) (skew := skew) ⟨hx3.2.1.1, hx3.2.2.2⟩ hs' hyb hn (lo_of HN.out) (hi_of HN.out)
        have hcall := Lib.hid (fun W => impl_LeaseHeld ⟨q, frm, til⟩ (wrap64 (now + y)) skew W)
        rw [hout] at hcall
        have D0 := Lib.hid d0
        have S0 := Lib.hid s0
        clear h h' hc hc' hx hy d0 s0 e0 hout
        go_wp2
        refine wp_world (fun W => Ext wr W ∧ W.cell? ⟨wr.heap.size, 0, none⟩ = some (.int .i64 (q : Int)) ∧ W.cell? ⟨wr.heap.size, 1, none⟩ = some (.int .i64 frm) ∧ W.cell? ⟨wr.heap.size, 2, none⟩ = some (.int .i64 til)) ⟨(Ext.refl _).alloc _, by go_cell, by go_cell, by go_cell⟩ ?_
        rintro W ⟨hW, e0, e1, e2⟩
        have d0 := over_cell (hW.cell D0.out)
        have s0 := over_cell (hW.cell S0.out)
        replace e0 := over_cell e0
        replace e1 := over_cell e1
        replace e2 := over_cell e2
        clear c0 c1 c2
        refine wp_region_over (by kernel_rfl) (by kernel_rfl) ?_
        repeat (go_big_quiet_step ((go_at_call 28; exact quiet_ext (hcall.out _))))
        refine wpQuiet_nil ?_
        intro w3 hb3
        go_wp2
        go_roundw
        case rel => exact ⟨(hb2.trans hW).trans hb3, j + 1, by omega, by go_num⟩
        case measure => simp [intOf]; omega
      · go_wp2
        go_returns
        exact ⟨ret_int hf2.out.symm, (b0.trans B2).trans hb2⟩
end Go.Proofs.YtpkjgeidndbbbaaDoor
