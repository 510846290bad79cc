/- The walk of laws.FnLeaseHolder: it answers true. -/
import Derived.Test.YtpkjgeidndbbbaaDoorLease
import Derived.Test.YtpkjgeidndbbbaaDoorLeaseHolder
import Derived.Test.YtpkjgeidndbbbaaDoorDrawHolder
import Derived.Test.YtpkjgeidndbbbaaDoorAlive
namespace Go.Proofs.YtpkjgeidndbbbaaDoor
open Go.RowKit
set_option maxRecDepth 8000

theorem held_true {l : Lease} {now skew : Int} (h : heldB l now skew = true) : (0 ≤ skew ∧ skew ≤ 50) ∧ (-2000 ≤ now ∧ now ≤ 2000) ∧ l.frm ≤ now - skew ∧ now + skew < l.til := by
  simp only [heldB, Bool.and_eq_true, inB_true, decide_eq_true_eq] at h
  exact ⟨h.1.1.1, h.1.1.2, h.1.2, h.2⟩
theorem leases_own {xs : List Lease} {k : Nat} {x : Lease} (h : leasesOk xs = true) (hx : xs[k]? = some x) : x.frm < x.til := by
  have h1 := (allGood_true.1 h).1 k (List.getElem?_eq_some_iff.1 hx).1
  rw [goodLease, goodAt_any hx] at h1
  simp only [gLease, Bool.and_eq_true, decide_eq_true_eq] at h1
  exact h1.1.2
theorem leases_next {xs : List Lease} {k : Nat} {x y : Lease} (h : leasesOk xs = true) (hx : xs[k]? = some x) (hy : xs[k + 1]? = some y) : x.til ≤ y.frm := by
  have h1 := (allGood_true.1 h).1 (k + 1) (List.getElem?_eq_some_iff.1 hy).1
  rw [goodLease, goodAt_pos (by omega) hy hx] at h1
  simp only [gLease, Bool.and_eq_true, decide_eq_true_eq] at h1
  exact h1.2
theorem leases_far {xs : List Lease} (h : leasesOk xs = true) : ∀ (d k : Nat) (x y : Lease), xs[k]? = some x → xs[k + 1 + d]? = some y → x.til ≤ y.frm
  | 0, k, x, y, hx, hy => leases_next h hx hy
  | d + 1, k, x, y, hx, hy => by
    obtain ⟨z, hz⟩ := at_some (xs := xs) (k := k + 1 + d) (by have := (List.getElem?_eq_some_iff.1 hy).1; omega)
    have h1 := leases_far h d k x z hx hz
    have h2 := leases_own h hz
    have h3 := leases_next h hz (show xs[k + 1 + d + 1]? = some y from hy)
    omega
theorem leases_one {xs : List Lease} {now : Int} {i j : Nat} {x y : Lease} (h : leasesOk xs = true) (hx : xs[i]? = some x) (hy : xs[j]? = some y) (h1 : x.frm ≤ now) (h2 : now < x.til) (h3 : y.frm ≤ now) (h4 : now < y.til) : x = y := by
  by_cases e : i = j
  · subst e
    rw [hx] at hy
    injection hy
  · by_cases hlt : i < j
    · have := leases_far h (j - i - 1) i x y hx (by rw [show i + 1 + (j - i - 1) = j by omega]; exact hy)
      omega
    · have := leases_far h (i - j - 1) j y x hy (by rw [show j + 1 + (i - j - 1) = i by omega]; exact hx)
      omega
/-- What a holder's being found says. -/
theorem holder_yes {xs : List Lease} {now skew r : Int} {ws : List Int} (h : holderB xs now ws skew = r) (hr : 0 ≤ r) :
    leasesOk xs = true ∧ ws.length = 4 ∧ (0 ≤ skew ∧ skew ≤ 50) ∧ (0 ≤ now ∧ now ≤ 1000) ∧ (∀ y ∈ ws, -skew ≤ y ∧ y ≤ skew) ∧
      ∀ (k : Nat) (x : Lease) (y : Int), xs[k]? = some x → ws[x.who.toNat]? = some y → (heldB x (now + y) skew = true → x.frm ≤ now ∧ now < x.til) ∧ (x.frm ≤ now → now < x.til → x.who = r) := by
  unfold holderB at h
  split at h
  case isFalse => omega
  rename_i hc
  obtain ⟨c1, c2, c3, c4, c5⟩ := hc
  have c2' := inB_true.1 c2
  have c5' := inB_true.1 c5
  have hws : ∀ y ∈ ws, -skew ≤ y ∧ y ≤ skew := fun y hy => inB_true.1 (c4 y hy)
  have hin : ∀ (x : Lease) (y : Int), ws[x.who.toNat]? = some y → heldB x (now + y) skew = true → x.frm ≤ now ∧ now < x.til := fun x y hy hh => by
    have h1 := held_true hh
    have h2 := hws y (List.mem_of_getElem? hy)
    omega
  refine ⟨c1, c3, c2', c5', hws, fun k x y hx hy => ⟨hin x y hy, fun g1 g2 => ?_⟩⟩
  unfold firstHeld at h
  cases hf : xs.find? (heldBy now ws skew) with
  | none => rw [hf] at h; simp only at h; omega
  | some l =>
    rw [hf] at h
    simp only at h
    obtain ⟨j, hj⟩ := List.getElem?_of_mem (List.mem_of_find?_eq_some hf)
    have hl := List.find?_some hf
    have hl3 := leasesOk_at c1 hj
    obtain ⟨z, hz⟩ := at_some (xs := ws) (k := l.who.toNat) (by omega)
    have hlh : heldB l (now + z) skew = true := by
      rw [heldBy] at hl
      simpa [hz] using hl
    have hg := hin l z hz hlh
    rw [leases_one c1 hx hj g1 g2 hg.1 hg.2]
    exact h
theorem holder_no {xs : List Lease} {now skew r : Int} {ws : List Int} (h : holderB xs now ws skew = r) (hr : r < 0) : r = -1 := by
  unfold holderB at h
  split at h
  case isFalse => omega
  rename_i hc
  unfold firstHeld at h
  cases hf : xs.find? (heldBy now ws skew) with
  | none => rw [hf] at h; exact h.symm
  | some l =>
    rw [hf] at h
    simp only at h
    obtain ⟨j, hj⟩ := List.getElem?_of_mem (List.mem_of_find?_eq_some hf)
    have := (leasesOk_at hc.1 hj).1.1
    omega
theorem wf_small {x : Int} (h : -100000 ≤ x ∧ x ≤ 100000) : (Lit.int .i64 x).wf = true := by
  simp [Lit.wf, IntKind.min, IntKind.max, IntKind.signed, IntKind.bits]; omega
set_option maxHeartbeats 4000000 in
theorem law_FnLeaseHolder (w : World) {v0 : Value} {xs0 : List Int} (s0 : Sl1 encU w v0 xs0) (l0 : xs0.length ≤ 9223372036854775807) (f0 : ∀ x ∈ xs0, 0 ≤ x ∧ x ≤ 255) (k0 : ∀ A n c, v0 = .slice A n c → n ≤ c ∧ c ≤ 9223372036854775807) :
    Calls Tryd.prog 7 #[v0] w fun e w' => e = .returned (.bool true) ∧ Ext w w' := by
  obtain ⟨A0, c0, hv0, _⟩ := id s0
  by_cases hl : xs0.length ≤ 1048576
  case neg =>
    subst hv0
    have hl' : 1048576 < xs0.length := by omega
    clear hl s0 f0 k0
    go_enter Tryd.func7, Tryd.ntmps7
    go_wp2
    go_returns
    exact ⟨rfl, Ext.refl _⟩
  have HC := Lib.hid (⟨xs0, s0, f0, hl, k0⟩ : CodeIn w v0)
  subst hv0
  clear s0 f0 k0
  go_enter Tryd.func7, Tryd.ntmps7
  go_wp2_with fail
  refine (DrawLeaseHolder_any _ HC.out).mono ?_
  rintro e w1 ⟨u, xs, now, wv, ws, skew, rfl, hnow, hsk, hu, hx, hwv, hws, b1⟩
  have hlx : xs.length ≤ 2097152 := Nat.le_trans hx.1 (by omega)
  have hlw : ws.length ≤ 2097152 := Nat.le_trans hws.1 (by omega)
  have HU := Lib.hid hu.1
  have HW := Lib.hid hwv.1.to1
  have HF := Lib.hid (And.intro (wf_small hnow) (And.intro (wf_small (x := skew) (by omega)) (fun x (hx : x ∈ ws) => wf_small (hws.2 x hx))))
  clear hu hx hwv hws hnow hsk
  obtain ⟨r, hr⟩ : ∃ r, holderB xs now ws skew = r := ⟨_, rfl⟩
  have HR := Lib.hid hr
  clear hr
  go_wp2_with fail
  refine (impl_LeaseHolder now skew _ HU.out HW.out hlx hlw HF.out.1 HF.out.2.1 HF.out.2.2).mono ?_
  rw [HR.out]
  rintro e w2 ⟨rfl, b2⟩
  replace HU := Lib.hid (HU.out.ext b2)
  replace HW := Lib.hid (HW.out.ext b2)
  go_wp2_with fail
  refine (spec_LeaseHolder now skew _ HU.out HW.out hlx hlw HF.out.1 HF.out.2.1 HF.out.2.2).mono ?_
  rw [HR.out]
  rintro e w3 ⟨rfl, b3⟩
  replace HU := Lib.hid (HU.out.ext b3)
  replace HW := Lib.hid (HW.out.ext b3)
  have HB := Lib.hid ((b1.trans b2).trans b3)
  clear b1 b2 b3 HF
  by_cases hr0 : r < 0
  · obtain rfl := holder_no HR.out hr0
    clear HR hr0
    go_wp2_with (go_at_call 14; refine (alive_any _).mono ?_; rintro e w8 ⟨rfl, b8⟩)
    go_returns
    exact ⟨rfl, HB.out.trans b8⟩
  · obtain ⟨y1, y2, y3, y4, y5, y6⟩ := holder_yes HR.out (by omega)
    have HY := Lib.hid (And.intro y1 (And.intro y2 (And.intro y5 y6)))
    have h4a : ws.length < 5 := by omega
    have h4b : 3 < ws.length := by omega
    obtain ⟨A, c, rfl, _⟩ := id HU.out
    obtain ⟨A', c', rfl, _⟩ := id HW.out
    clear HR y1 y2 y5 y6 hlw
    go_wp2
    go_loopw [8] (fun i wr => Hid (Ext w3 wr) ∧ ∃ k : Nat, k ≤ xs.length ∧ i = .int .i64 k) (fun i _ => xs.length - (intOf i).toNat)
    case atStart => exact ⟨Ext.refl _, 0, Nat.zero_le _, rfl⟩
    case round =>
      obtain ⟨HE, k, hk, rfl⟩ := hrel
      by_cases hlt : k < xs.length
      · obtain ⟨x, hx⟩ := at_some hlt
        have hx3 := leasesOk_at HY.out.1 hx
        obtain ⟨A1, c1, hA, hcu⟩ := id (HU.out.ext HE.out)
        injection hA with e1 e2 e3
        subst e1 e3
        clear e2
        obtain ⟨A1, c1, hA, hcw⟩ := id (HW.out.ext HE.out)
        injection hA with e1 e2 e3
        subst e1 e3
        clear e2
        obtain ⟨who, frm, til⟩ := x
        simp only at hx3
        obtain ⟨q, rfl⟩ := Int.eq_ofNat_of_zero_le hx3.1.1
        have hq : q < ws.length := by omega
        obtain ⟨b, off, rfl, hbl, hc⟩ := hcu (by omega)
        obtain ⟨b', off', rfl, hbl', hc'⟩ := hcw (by omega)
        obtain ⟨y, hy⟩ := at_some hq
        have hyb := HY.out.2.2.1 y (List.mem_of_getElem? hy)
        obtain ⟨z1, z2⟩ := HY.out.2.2.2 k _ y hx (by simpa using hy)
        simp only at z1 z2
        have c0 : ∀ e, (over wr e).cell? ⟨b, off + k * 3, none⟩ = some (.int .i64 (q : Int)) := over_cell (hc k _ hx 0 (by omega))
        have c1 : ∀ e, (over wr e).cell? ⟨b, off + k * 3 + 1, none⟩ = some (.int .i64 frm) := over_cell (hc k _ hx 1 (by omega))
        have c2 : ∀ e, (over wr e).cell? ⟨b, off + k * 3 + 2, none⟩ = some (.int .i64 til) := over_cell (hc k _ hx 2 (by omega))
        have d0 : ∀ e, (over wr e).cell? ⟨b', off' + q, none⟩ = some (.int .i64 y) := over_cell (hc' q y hy)
        have f0 : wr.cell? ⟨b, off + k * 3, none⟩ = some (.int .i64 (q : Int)) := hc k _ hx 0 (by omega)
        have f1 : wr.cell? ⟨b, off + k * 3 + 1, none⟩ = some (.int .i64 frm) := hc k _ hx 1 (by omega)
        have f2 : wr.cell? ⟨b, off + k * 3 + 2, none⟩ = some (.int .i64 til) := hc k _ hx 2 (by omega)
        have E0 := Lib.hid f0
        have hcall := Lib.hid (fun W => impl_LeaseHeld ⟨q, frm, til⟩ (now + y) skew W)
        obtain ⟨hh, hhe⟩ : ∃ hh, heldB ⟨q, frm, til⟩ (now + y) skew = hh := ⟨_, rfl⟩
        rw [hhe] at hcall z1
        clear hcu hcw hc hc' hx hy hhe
        by_cases g1 : frm ≤ now
        · by_cases g2 : now < til
          · have hw := z2 g1 g2
            subst hw
            clear z1 z2
            cases hh with
            | false =>
              go_wp2
              refine wp_region_over (by kernel_rfl) (by kernel_rfl) ?_
              repeat (go_big_quiet_step ((go_at_call 28; exact quiet_ext (hcall.out _))))
              refine wpQuiet_nil ?_
              intro w6 hb6
              have e0 := hb6.cell E0.out
              go_wp2
              go_roundw
              case rel => exact ⟨HE.out.trans hb6, k + 1, by omega, by go_num⟩
              case measure => simp [intOf]; omega
            | true =>
              go_wp2
              refine wp_region_over (by kernel_rfl) (by kernel_rfl) ?_
              repeat (go_big_quiet_step ((go_at_call 28; exact quiet_ext (hcall.out _))))
              refine wpQuiet_nil ?_
              intro w6 hb6
              have e0 := hb6.cell E0.out
              go_wp2
              go_roundw
              case rel => exact ⟨HE.out.trans hb6, k + 1, by omega, by go_num⟩
              case measure => simp [intOf]; omega
          · have hhf : hh = false := by
              cases hh with
              | false => rfl
              | true => have := z1 rfl; omega
            subst hhf
            clear z1 z2
            go_wp2
            refine wp_region_over (by kernel_rfl) (by kernel_rfl) ?_
            repeat (go_big_quiet_step ((go_at_call 28; exact quiet_ext (hcall.out _))))
            refine wpQuiet_nil ?_
            intro w6 hb6
            have e0 := hb6.cell E0.out
            go_wp2
            go_roundw
            case rel => exact ⟨HE.out.trans hb6, k + 1, by omega, by go_num⟩
            case measure => simp [intOf]; omega
        · have hhf : hh = false := by
            cases hh with
            | false => rfl
            | true => have := z1 rfl; omega
          subst hhf
          clear z1 z2
          go_wp2
          refine wp_region_over (by kernel_rfl) (by kernel_rfl) ?_
          repeat (go_big_quiet_step ((go_at_call 28; exact quiet_ext (hcall.out _))))
          refine wpQuiet_nil ?_
          intro w6 hb6
          have e0 := hb6.cell E0.out
          go_wp2
          go_roundw
          case rel => exact ⟨HE.out.trans hb6, k + 1, by omega, by go_num⟩
          case measure => simp [intOf]; omega
      · go_wp2
        go_returns
        exact ⟨rfl, HB.out.trans HE.out⟩
end Go.Proofs.YtpkjgeidndbbbaaDoor
