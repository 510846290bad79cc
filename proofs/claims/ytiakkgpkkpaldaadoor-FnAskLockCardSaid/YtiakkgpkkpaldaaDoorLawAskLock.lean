/- The walk of laws.FnAskLock: it answers true. -/
import Derived.Test.YtiakkgpkkpaldaaDoorAskLock
import Derived.Test.YtiakkgpkkpaldaaDoorDrawHolds
import Derived.Test.YtiakkgpkkpaldaaDoorAlive
import Derived.Test.YtiakkgpkkpaldaaDoorSameX
import Derived.Test.YtiakkgpkkpaldaaDoorCut
namespace Go.Proofs.YtiakkgpkkpaldaaDoor
open Go.RowKit
set_option maxRecDepth 8000

theorem ask_yes {xs L : List Hold} {o k : Int} {d : Bool} (h : askL xs o k d = (L, true)) : holdsOk xs = true ∧ L = xs ++ [askH xs o k d] ∧ holdsOk L = true := by
  unfold askL at h
  split at h
  · rename_i h1
    split at h
    · rename_i h2
      injection h with h3 _
      subst h3
      exact ⟨h1, rfl, h2⟩
    · cases h
  · cases h
theorem ask_no {xs L : List Hold} {o k : Int} {d : Bool} (h : askL xs o k d = (L, false)) : L = xs ∨ (L = [] ∧ L.length ≠ xs.length) := by
  unfold askL at h
  split at h
  · split at h
    · cases h
    · injection h with h3 _
      exact .inl h3.symm
  · rename_i h1
    injection h with h3 _
    subst h3
    refine .inr ⟨rfl, fun e => h1 ?_⟩
    have : xs = [] := List.eq_nil_of_length_eq_zero e.symm
    subst this
    decide
theorem ask_alone {xs : List Hold} {o k : Int} {d : Bool} (h : (xs.all fun y => y.owner == o) = true) : (askH xs o k d).got = true := by
  unfold askH
  simp only [Bool.not_eq_true']
  rw [List.any_eq_false]
  intro y hy
  have h1 := List.all_eq_true.1 h y hy
  have h2 : y.owner = o := by simpa using h1
  simp [clashB, h2]
theorem all_step {xs : List Hold} {p : Hold → Bool} {k : Nat} {x : Hold} (hx : xs[k]? = some x) : (xs.take (k + 1)).all p = ((xs.take k).all p && p x) := by
  rw [List.take_add_one, hx, List.all_append]
  simp
set_option maxHeartbeats 8000000 in
theorem law_FnAskLock (w : World) {v0 : Value} {xs0 : List Int} (s0 : Sl1 encU w v0 xs0) (l0 : xs0.length ≤ 9223372036854775807) (f0 : ∀ x ∈ xs0, 0 ≤ x ∧ x ≤ 255) (k0 : ∀ A n c, v0 = .slice A n c → n ≤ c ∧ c ≤ 9223372036854775807) :
    Calls Tryd.prog 5 #[v0] w fun e w' => e = .returned (.bool true) ∧ Ext w w' := by
  obtain ⟨A0, c0, hv0, _⟩ := id s0
  by_cases hl : xs0.length ≤ 1048576
  case neg =>
    subst hv0
    have hl' : 1048576 < xs0.length := by omega
    clear hl s0 f0 k0
    go_enter Tryd.func5, Tryd.ntmps5
    go_wp2
    go_returns
    exact ⟨rfl, Ext.refl _⟩
  have HC := Lib.hid (⟨xs0, s0, f0, hl, k0⟩ : CodeIn w v0)
  subst hv0
  clear s0 f0 k0
  go_enter Tryd.func5, Tryd.ntmps5
  go_wp2_with fail
  refine (DrawAskLock_any _ HC.out).mono ?_
  rintro e w1 ⟨u, xs, o, q, d, rfl, hval, hphi, b1⟩
  have hlen : xs.length ≤ 12 := hphi
  have HS := Lib.hid hval.1
  have hcap := hval.2.2
  obtain ⟨A, c, rfl, hcx⟩ := id HS.out
  have hcp := hcap _ _ _ rfl
  have HCX := Lib.hid hcx
  have hst := askL_step xs o q d
  obtain ⟨⟨L, ok⟩, hR⟩ : ∃ R, askL xs o q d = R := ⟨_, rfl⟩
  have HR := Lib.hid hR
  rw [hR] at hst
  simp only at hst
  clear hphi hval hcx hR
  go_wp2_with fail
  refine (impl_AskLock_cap o q d _ HS.out (by omega) hcap).mono ?_
  rw [HR.out]
  rintro e w2 ⟨x, rfl, t2, _, b2, kx⟩
  simp only at t2
  have HS2 := Lib.hid (HS.out.ext b2)
  go_wp2_with fail
  refine (spec_AskLock o q d _ HS2.out (by omega)).mono ?_
  rw [HR.out]
  rintro e w3 ⟨y, rfl, t3, _, b3⟩
  simp only at t3
  have T2 := Lib.hid (t2.ext b3)
  have T3 := Lib.hid t3
  have HB3 := Lib.hid (b2.trans b3)
  have KX := Lib.hid kx
  clear t2 t3 b2 b3 kx
  go_wp2_with fail
  refine (sameHolds_any _ T2.out T3.out (by omega)).mono ?_
  rintro e w4 ⟨rfl, b4⟩
  have HB4 := Lib.hid (HB3.out.trans b4)
  have T4 := Lib.hid (T2.out.ext b4)
  clear T2 T3 b4 HB3
  cases ok with
  | false =>
    rcases ask_no HR.out with rfl | ⟨rfl, hne⟩
    · go_wp2_with fail
      refine (sameHolds_any _ T4.out (HS.out.ext HB4.out) (by omega)).mono ?_
      rintro e w5 ⟨rfl, b5⟩
      go_wp2_with (go_at_call 12; refine (alive_any _).mono ?_; rintro e w7 ⟨rfl, b7⟩)
      go_returns
      exact ⟨rfl, ((b1.trans HB4.out).trans b5).trans b7⟩
    · have HNE := Lib.hid hne
      clear hne
      obtain ⟨Ax, cx, rfl, _⟩ := id T4.out
      go_wp2_with fail
      refine (sameHolds_no _ T4.out (HS.out.ext HB4.out) HNE.out).mono ?_
      rintro e w5 ⟨rfl, b5⟩
      go_wp2_with (go_at_call 12; refine (alive_any _).mono ?_; rintro e w7 ⟨rfl, b7⟩)
      go_returns
      exact ⟨rfl, ((b1.trans HB4.out).trans b5).trans b7⟩
  | true =>
    obtain ⟨hvx, hL, hvL⟩ := ask_yes HR.out
    have HVL := Lib.hid hvL
    have HL := Lib.hid hL
    have hLl : L.length = xs.length + 1 := by rw [hL]; simp
    have HLl := Lib.hid hLl
    obtain ⟨g, hg⟩ : ∃ g, (askH xs o q d).got = g := ⟨_, rfl⟩
    have HALONE : Hid ((xs.all fun y => y.owner == o) = true → g = true) := fun h => by rw [← hg]; exact ask_alone h
    have hlast : L[xs.length]? = some ⟨o, q, d, g⟩ := by rw [hL, List.getElem?_append_right (Nat.le_refl _), Nat.sub_self, ← hg]; rfl
    have HLAST := Lib.hid hlast
    obtain ⟨Ax, cx, hxe, hcx⟩ := id T4.out
    have hkx := KX.out _ _ _ hxe
    subst hxe
    obtain ⟨bx, offx, hAx, _, hcellx⟩ := hcx (by omega)
    subst hAx
    have hl0 := hcellx _ _ hlast 0 (by omega)
    have hl1 := hcellx _ _ hlast 1 (by omega)
    have hl2 := hcellx _ _ hlast 2 (by omega)
    have hl3 := hcellx _ _ hlast 3 (by omega)
    simp only [encHold, Nat.add_zero] at hl0 hl1 hl2 hl3
    have HLC := Lib.hid (And.intro hl0 (And.intro hl1 (And.intro hl2 hl3)))
    have htk : L.take xs.length = xs := by rw [hL]; simp
    have HTK := Lib.hid htk
    have HPART := Lib.hid (T4.out.take (k := xs.length) (by omega))
    clear hvx hL hvL hlast hcx hcellx hl0 hl1 hl2 hl3 htk hg
    rw [hLl] at hkx ⊢
    clear hLl
    go_wp2
    go_loopw [11, 12] (fun a i wr => Ext w4 wr ∧ ∃ k : Nat, k ≤ xs.length ∧ i = .int .i64 k ∧ a = .bool ((xs.take k).all fun y => y.owner == o)) (fun _ i _ => xs.length - (intOf i).toNat)
    case atStart => exact ⟨Ext.refl _, 0, Nat.zero_le _, rfl, by simp⟩
    case round =>
      obtain ⟨hb, k, hk, rfl, rfl⟩ := hrel
      by_cases hlt : k < xs.length
      · obtain ⟨h, hx⟩ := at_some hlt
        obtain ⟨b, off, rfl, _, hcell⟩ := HCX.out (by omega)
        have c0 := hb.cell (HB4.out.cell (hcell k h hx 0 (by omega)))
        simp only [encHold, Nat.add_zero] at c0
        have HN := Lib.hid (all_step (p := fun y => y.owner == o) hx)
        obtain ⟨t, ht⟩ : ∃ t, ((xs.take k).all fun y => y.owner == o) = t := ⟨_, rfl⟩
        have HT := Lib.hid ht
        rw [ht]
        clear ht hx hcell
        cases t with
        | false =>
          go_wp2
          go_roundw
          case rel => exact ⟨hb, k + 1, by omega, by go_num, by rw [HN.out, HT.out]; rfl⟩
          case measure => simp [intOf]; omega
        | true =>
          go_wp2
          go_roundw
          case rel => exact ⟨hb, k + 1, by omega, by go_num, by rw [HN.out, HT.out]; rfl⟩
          case measure => simp [intOf]; omega
      · obtain rfl : k = xs.length := by omega
        rw [List.take_length]
        obtain ⟨t, ht⟩ : ∃ t, (xs.all fun y => y.owner == o) = t := ⟨_, rfl⟩
        have HT := Lib.hid ht
        rw [ht]
        clear ht
        have m0 := hb.cell HLC.out.1
        have m1 := hb.cell HLC.out.2.1
        have m2 := hb.cell HLC.out.2.2.1
        have m3 := hb.cell HLC.out.2.2.2
        have hsub : (((xs.length + 1 : Nat) : Int) - 1) = (xs.length : Int) := by omega
        have hT5 := T4.out
        rw [HLl.out] at hT5
        have hK5 := KX.out
        rw [HLl.out] at hK5
        have HT5 := Lib.hid hT5
        have HK5 := Lib.hid hK5
        have hcut := run_cut_high (P := Tryd.prog) (A := some ⟨bx, offx, none⟩) (n := xs.length + 1) (c := cx) Tryd.underlying23 kinfo_Hold (xs.length) (by omega)
        have hpt : SlOf 4 encHold w4 (.slice (if cx = 0 then some ⟨bx, offx, none⟩ else (some (⟨bx, offx, none⟩ : Addr)).map (·.add (0 * 4))) (xs.length - 0) (cx - 0)) (part L 0 xs.length) := ((T4.out.part 0 xs.length (by omega) (by rw [HLl.out]; omega) (by rw [HLl.out]; omega))).1
        have hpx : part L 0 xs.length = xs := by rw [part, HTK.out]; rfl
        rw [hpx] at hpt
        obtain ⟨vc, hvc⟩ : ∃ vc, (Value.slice (if cx = 0 then some ⟨bx, offx, none⟩ else (some (⟨bx, offx, none⟩ : Addr)).map (·.add (0 * 4))) (xs.length - 0) (cx - 0)) = vc := ⟨_, rfl⟩
        rw [hvc] at hcut hpt
        have HP := Lib.hid hpt
        have HCUT := Lib.hid hcut
        clear hT5 hK5 hpt hpx hvc hcut
        go_wp2_with fail
        refine (impl_HoldsValid _ (HT5.out.ext (hb.alloc _)) (by rw [HLl.out]; omega) HK5.out).mono ?_
        rw [HVL.out]
        rintro e w6 ⟨rfl, b6⟩
        have n0 : w6.cell? ⟨wr.heap.size, 0, none⟩ = some (.int .i64 o) := b6.cell (by go_cell)
        have n1 : w6.cell? ⟨wr.heap.size, 1, none⟩ = some (.int .i64 q) := b6.cell (by go_cell)
        have n3 : w6.cell? ⟨wr.heap.size, 3, none⟩ = some (.bool g) := b6.cell (by go_cell)
        have HN := Lib.hid (And.intro n0 (And.intro n1 n3))
        clear n0 n1 n3 m0 m1 m2 m3
        have hcut := HCUT.out
        go_wp2_with fail
        refine (sameHolds_any _ (HP.out.ext ((hb.alloc _).trans b6)) (HS.out.ext (HB4.out.trans ((hb.alloc _).trans b6))) (by omega)).mono ?_
        rintro e w8 ⟨rfl, b8⟩
        have n0 := b8.cell HN.out.1
        have n1 := b8.cell HN.out.2.1
        have n3 := b8.cell HN.out.2.2
        have q1 : (o == o) = true := by simp
        have q2 : (q == q) = true := by simp
        clear hcut
        have HBB := Lib.hid (((b1.trans HB4.out).trans ((hb.alloc _).trans b6)).trans b8)
        cases t with
        | true =>
          obtain rfl : g = true := HALONE.out HT.out
          go_wp2
          go_returns
          exact ⟨rfl, HBB.out⟩
        | false =>
          cases g with
          | true =>
            go_wp2
            go_returns
            exact ⟨rfl, HBB.out⟩
          | false =>
            go_wp2
            go_returns
            exact ⟨rfl, HBB.out⟩
end Go.Proofs.YtiakkgpkkpaldaaDoor
