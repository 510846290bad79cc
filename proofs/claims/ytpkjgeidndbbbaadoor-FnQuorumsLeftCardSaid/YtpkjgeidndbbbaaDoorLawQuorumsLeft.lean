/- The walk of laws.FnQuorumsLeft: it answers true. -/
import Derived.Test.YtpkjgeidndbbbaaDoorQuorum
import Derived.Test.YtpkjgeidndbbbaaDoorQuorumLeft
import Derived.Test.YtpkjgeidndbbbaaDoorSame
import Derived.Test.YtpkjgeidndbbbaaDoorDrawLeft
import Derived.Test.YtpkjgeidndbbbaaDoorAlive
namespace Go.Proofs.YtpkjgeidndbbbaaDoor
open Go.RowKit
set_option maxRecDepth 8000

theorem small_sm {xs : List Int} (h : ∀ x ∈ xs, smI x) : Small xs := fun x hx => by have := (h x hx).2; omega
theorem left_zero (many : Int) (xs : List Int) : leftL many xs 0 = if setsB many xs = true then xs else [] := by
  unfold leftL
  by_cases h : setsB many xs = true
  · have h0 : setsB many [0] = true := by
      have h1 := h
      unfold setsB at h1 ⊢
      rw [Bool.and_eq_true] at h1
      rw [h1.1]
      have hp : 0 < 2 ^ many.toNat := Nat.pow_pos (by omega)
      simp only [Bool.true_and, Bool.and_eq_true, decide_eq_true_eq, List.all_eq_true, List.mem_singleton, List.length_singleton]
      exact ⟨by omega, fun x hx => by subst hx; rw [inB_true]; omega⟩
    rw [if_pos ⟨h, h0⟩, if_pos h]
    exact List.filter_eq_self.2 fun x _ => by simp [comB]
  · rw [if_neg (fun hh => h hh.1), if_neg h]
theorem left_le (many : Int) (xs : List Int) (d : Int) : (leftL many xs d).length ≤ (leftL many xs 0).length := by
  rw [left_zero]
  unfold leftL
  split
  · rename_i h
    rw [if_pos h.1]
    exact List.length_filter_le _ _
  · simp
theorem left_mem {many : Int} {xs : List Int} {d x : Int} (h : x ∈ leftL many xs d) : x ∈ xs ∧ comB x d = false := by
  unfold leftL at h
  split at h
  · rw [List.mem_filter] at h
    exact ⟨h.1, by simpa using h.2⟩
  · cases h
theorem left_apart {many : Int} {xs : List Int} {d x : Int} (h : x ∈ leftL many xs d) : betweenB many [x] [d] = false := by
  have h1 := (left_mem h).2
  unfold betweenB meetB
  simp [h1]
theorem left_meets {many : Int} {xs : List Int} (d : Int) (h : betweenB many xs xs = true) : betweenB many (leftL many xs d) (leftL many xs d) = true := by
  unfold betweenB at h ⊢
  simp only [Bool.and_eq_true] at h ⊢
  have hs : setsB many (leftL many xs d) = true := by
    have h1 := h.1
    unfold setsB at h1 ⊢
    simp only [Bool.and_eq_true, decide_eq_true_eq, List.all_eq_true] at h1 ⊢
    refine ⟨h1.1, ?_, fun x hx => h1.2.2 x (left_mem hx).1⟩
    have h2 : (leftL many xs d).length ≤ xs.length := by
      unfold leftL
      split
      · exact List.length_filter_le _ _
      · simp
    omega
  refine ⟨hs, hs, ?_⟩
  have h3 := h.2.2
  unfold meetB at h3 ⊢
  rw [List.all_eq_true] at h3 ⊢
  intro x hx
  have h4 := h3 x (left_mem hx).1
  rw [List.all_eq_true] at h4 ⊢
  exact fun y hy => h4 y (left_mem hy).1
set_option maxHeartbeats 4000000 in
theorem law_FnQuorumsLeft (w : World) {v0 : Value} {xs0 : List Int} (s0 : Sl1 encU w v0 xs0) (l0 : xs0.length ≤ 9223372036854775807) (f0 : ∀ x ∈ xs0, 0 ≤ x ∧ x ≤ 255) (k0 : ∀ A n c, v0 = .slice A n c → n ≤ c ∧ c ≤ 9223372036854775807) :
    Calls Tryd.prog 9 #[v0] w fun e w' => e = .returned (.bool true) ∧ Ext w w' := by
  obtain ⟨A0, c0, hv0, _⟩ := id s0
  by_cases hl : xs0.length ≤ 1048576
  case neg =>
    subst hv0
    have hl' : 1048576 < xs0.length := by omega
    clear hl s0 f0 k0
    go_enter Tryd.func9, Tryd.ntmps9
    go_wp2
    go_returns
    exact ⟨rfl, Ext.refl _⟩
  have HC := Lib.hid (⟨xs0, s0, f0, hl, k0⟩ : CodeIn w v0)
  subst hv0
  clear s0 f0 k0
  go_enter Tryd.func9, Tryd.ntmps9
  go_wp2_with fail
  refine (DrawQuorumsLeft_any _ HC.out).mono ?_
  rintro e w1 ⟨s, u, d, xs, rfl, hs, hd, hu, hx, b1⟩
  have hlx := hx.1
  have HU := Lib.hid hu.1.to1
  have HSX := Lib.hid (small_sm hx.2)
  clear hu hx
  obtain ⟨L, hL⟩ : ∃ L, leftL s xs d = L := ⟨_, rfl⟩
  obtain ⟨M, hM⟩ : ∃ L, leftL s xs 0 = L := ⟨_, rfl⟩
  obtain ⟨ok, hok⟩ : ∃ ok, betweenB s xs xs = ok := ⟨_, rfl⟩
  have hle : L.length ≤ M.length := by rw [← hL, ← hM]; exact left_le s xs d
  have hMx : M = [] ∨ M = xs := by rw [← hM, left_zero]; split <;> simp
  have hm5 : M.length ≤ 5 := by rcases hMx with h | h; (rw [h]; simp); (rw [h]; exact hlx)
  have HAP := Lib.hid (fun x (hx : x ∈ L) => left_apart (by rw [hL]; exact hx : x ∈ leftL s xs d))
  have HME : Hid (ok = true → betweenB s L L = true) := fun h => by rw [← hL]; exact left_meets d (hok.trans h)
  have HL := Lib.hid hL
  have HM := Lib.hid hM
  have HK := Lib.hid hok
  have HMX := Lib.hid hMx
  clear hL hM hok hMx
  go_wp2_with fail
  refine (impl_QuorumsLeft1 s d _ HU.out (by omega)).mono ?_
  rw [HL.out]
  rintro e w2 ⟨v2, rfl, h2, o2, b2⟩
  replace HU := Lib.hid (HU.out.ext b2)
  go_wp2_with fail
  refine (spec_QuorumsLeft1 s d _ HU.out (by omega) (by omega) (by omega) HSX.out).mono ?_
  rw [HL.out]
  rintro e w3 ⟨v3, rfl, h3, o3, b3⟩
  replace HU := Lib.hid (HU.out.ext b3)
  have H2 := Lib.hid (h2.ext b3)
  have H3 := Lib.hid h3
  clear h2 h3 o2 o3
  go_wp2_with fail
  refine (sameInts_any _ H2.out H3.out (by omega)).mono ?_
  rintro e w4 ⟨rfl, b4⟩
  replace HU := Lib.hid (HU.out.ext b4)
  replace H2 := Lib.hid (H2.out.ext b4)
  clear H3
  go_wp2_with fail
  refine (impl_QuorumsLeft1 s 0 _ HU.out (by omega)).mono ?_
  rw [HM.out]
  rintro e w5 ⟨v5, rfl, h5, o5, b5⟩
  replace HU := Lib.hid (HU.out.ext b5)
  replace H2 := Lib.hid (H2.out.ext b5)
  have H5 := Lib.hid h5
  have HB := Lib.hid ((((b1.trans b2).trans b3).trans b4).trans b5)
  clear h5 o5 b1 b2 b3 b4 b5
  obtain ⟨A2, c2, rfl, _⟩ := id H2.out
  obtain ⟨A5, c5, rfl, _⟩ := id H5.out
  go_wp2
  go_loopw [8] (fun i wr => Hid (Ext w5 wr) ∧ ∃ k : Nat, k ≤ L.length ∧ i = .int .i64 k) (fun i _ => L.length - (intOf i).toNat)
  case atStart => exact ⟨Ext.refl _, 0, Nat.zero_le _, rfl⟩
  case round =>
    obtain ⟨HE, k, hk, rfl⟩ := hrel
    by_cases hlt : k < L.length
    · obtain ⟨x, hx⟩ := at_some hlt
      have hap := HAP.out x (List.mem_of_getElem? hx)
      obtain ⟨A', c', hA', hcell'⟩ := id (H2.out.ext HE.out)
      injection hA' with e1 e2 e3
      subst e1 e3
      clear e2
      obtain ⟨b, off, rfl, hbl, hc⟩ := hcell' (by omega)
      have cx : wr.cell? ⟨b, off + k, none⟩ = some (.int .i64 x) := hc k x hx
      have HAPX := Lib.hid hap
      clear hap hx hc hcell'
      by_cases hd0 : 0 < d
      · go_wp2_with fail
        refine (impl_QuorumsBetween (xs := [x]) (ys := [d]) s _ ((Sl1.one_ _ x 3).ext ((Ext.refl _).alloc _)) (SlOf.to1 (SlOf.lit_n _ _ _ _ _ _ rfl (by simp))) (by simp) (by simp)).mono ?_
        rw [HAPX.out]
        rintro e w6 ⟨rfl, b6⟩
        have HE6 := Lib.hid (((HE.out.alloc _).alloc _).trans b6)
        clear b6
        go_wp2
        go_roundw
        case rel => exact ⟨HE6.out, k + 1, by omega, by go_num⟩
        case measure => simp [intOf]; omega
      · go_wp2
        go_roundw
        case rel => exact ⟨HE.out, k + 1, by omega, by go_num⟩
        case measure => simp [intOf]; omega
    · obtain rfl : k = L.length := by omega
      replace HU := Lib.hid (HU.out.ext HE.out)
      replace H2 := Lib.hid (H2.out.ext HE.out)
      replace H5 := Lib.hid (H5.out.ext HE.out)
      have HB2 := Lib.hid (HB.out.trans HE.out)
      clear HE HB
      by_cases hz : M.length = 0
      · have hL0 : L = [] := List.eq_nil_of_length_eq_zero (by omega)
        subst hL0
        cases ok with
        | false =>
          go_wp2_with fail
          refine (impl_QuorumsMeet s _ HU.out (by omega)).mono ?_
          rw [HK.out]
          rintro e w7 ⟨rfl, b7⟩
          go_wp2_with (go_at_call 14; refine (alive_any _).mono ?_; rintro e w8 ⟨rfl, b8⟩)
          go_returns
          exact ⟨rfl, (HB2.out.trans b7).trans b8⟩
        | true =>
          go_wp2_with fail
          refine (impl_QuorumsMeet s _ HU.out (by omega)).mono ?_
          rw [HK.out]
          rintro e w7 ⟨rfl, b7⟩
          go_wp2_with fail
          refine (impl_QuorumsMeet s _ (H2.out.ext b7) (by omega)).mono ?_
          rw [HME.out (by simp)]
          rintro e w8 ⟨rfl, b8⟩
          go_wp2_with (go_at_call 14; refine (alive_any _).mono ?_; rintro e w9 ⟨rfl, b9⟩)
          go_returns
          exact ⟨rfl, ((HB2.out.trans b7).trans b8).trans b9⟩
      · have hMxs : M = xs := by
          rcases HMX.out with h | h
          · subst h; simp at hz
          · exact h
        have H5' : Hid (Sl1 encI wr (.slice A5 M.length c5) xs) := by rw [← hMxs]; exact H5.out
        clear hMxs H5 HMX
        go_wp2_with fail
        refine (sameInts_any _ H5'.out HU.out (by omega)).mono ?_
        rintro e w6 ⟨rfl, b6⟩
        replace HU := Lib.hid (HU.out.ext b6)
        replace H2 := Lib.hid (H2.out.ext b6)
        cases ok with
        | false =>
          go_wp2_with fail
          refine (impl_QuorumsMeet s _ HU.out (by omega)).mono ?_
          rw [HK.out]
          rintro e w7 ⟨rfl, b7⟩
          go_wp2_with (go_at_call 14; refine (alive_any _).mono ?_; rintro e w8 ⟨rfl, b8⟩)
          go_returns
          exact ⟨rfl, ((HB2.out.trans b6).trans b7).trans b8⟩
        | true =>
          go_wp2_with fail
          refine (impl_QuorumsMeet s _ HU.out (by omega)).mono ?_
          rw [HK.out]
          rintro e w7 ⟨rfl, b7⟩
          go_wp2_with fail
          refine (impl_QuorumsMeet s _ (H2.out.ext b7) (by omega)).mono ?_
          rw [HME.out (by simp)]
          rintro e w8 ⟨rfl, b8⟩
          go_wp2_with (go_at_call 14; refine (alive_any _).mono ?_; rintro e w9 ⟨rfl, b9⟩)
          go_returns
          exact ⟨rfl, (((HB2.out.trans b6).trans b7).trans b8).trans b9⟩
end Go.Proofs.YtpkjgeidndbbbaaDoor
