/- The walk of laws.FnQuorumsMeet: it answers true. -/
import Derived.Test.YtpkjgeidndbbbaaDoorQuorum
import Derived.Test.YtpkjgeidndbbbaaDoorSetSize
import Derived.Test.YtpkjgeidndbbbaaDoorDrawQuorum
import Derived.Test.YtpkjgeidndbbbaaDoorAlive
namespace Go.Proofs.YtpkjgeidndbbbaaDoor
open Go.RowKit

theorem small_sm {xs : List Int} (h : ∀ x ∈ xs, smI x) : Small xs := fun x hx => by have := (h x hx).2; omega
theorem sizeB_bd (x : Int) : -1 ≤ sizeB x ∧ sizeB x ≤ 7 := by
  unfold sizeB
  split
  · have := pc_le x.toNat
    omega
  · omega
/-- a set of most members -/
def bigB (many : Nat) (x : Int) : Bool := (x / 2 ^ many == 0) && decide ((many : Int) < 2 * sizeB x)
def mostB (many : Nat) : List Int → Bool
  | [] => inB (many : Int) 1 7
  | x :: l => mostB many l && bigB many x
theorem mostB_all {many : Nat} : ∀ {l : List Int}, mostB many l = true → inB (many : Int) 1 7 = true ∧ ∀ x ∈ l, bigB many x = true
  | [], h => ⟨h, by simp⟩
  | x :: l, h => by
    rw [mostB, Bool.and_eq_true] at h
    obtain ⟨h1, h2⟩ := mostB_all h.1
    exact ⟨h1, fun y hy => by
      rcases List.mem_cons.1 hy with rfl | hy
      · exact h.2
      · exact h2 y hy⟩
theorem mostB_step {many q : Nat} {xs : List Int} {x : Int} (hx : xs[q]? = some x) : mostB many (xs.drop q) = (mostB many (xs.drop (q + 1)) && bigB many x) := by
  obtain ⟨hk, rfl⟩ := List.getElem?_eq_some_iff.1 hx
  rw [List.drop_eq_getElem_cons hk, mostB]
theorem pc_two : ∀ a < 128, ∀ b < 128, (a &&& b == 0) = true → pc a + pc b = pc (a ||| b) := by
  have h : ((List.range 128).all fun a => (List.range 128).all fun b => !(a &&& b == 0) || pc a + pc b == pc (a ||| b)) = true := by decide +kernel
  intro a ha b hb hab
  have h1 := List.all_eq_true.1 (List.all_eq_true.1 h a (by simpa using ha)) b (by simpa using hb)
  rw [hab] at h1
  simpa using h1
theorem pc_most : ∀ m ≤ 7, ∀ n < 2 ^ m, pc n ≤ m := by
  have h : ((List.range 8).all fun m => (List.range (2 ^ m)).all fun n => decide (pc n ≤ m)) = true := by decide +kernel
  intro m hm n hn
  have h1 := List.all_eq_true.1 (List.all_eq_true.1 h m (by simp; omega)) n (by simpa using hn)
  simpa using h1
theorem bigB_at {many : Nat} {x : Int} (hm : many ≤ 7) (h : bigB many x = true) : ∃ n : Nat, x = (n : Int) ∧ n < 2 ^ many ∧ many < 2 * pc n := by
  simp only [bigB, Bool.and_eq_true, beq_iff_eq, decide_eq_true_eq] at h
  have hp : (2 : Int) ^ many = ((2 ^ many : Nat) : Int) := by simp
  have hpos : 0 < 2 ^ many := Nat.pow_pos (by omega)
  have h128 : 2 ^ many ≤ 128 := Nat.pow_le_pow_right (n := 2) (by omega) hm
  rw [hp] at h
  have hx := Int.emod_def x ((2 ^ many : Nat) : Int)
  rw [h.1] at hx
  have h0 := Int.emod_nonneg x (show ((2 ^ many : Nat) : Int) ≠ 0 by omega)
  have h1 := Int.emod_lt_of_pos x (show (0 : Int) < ((2 ^ many : Nat) : Int) by omega)
  obtain ⟨n, hn⟩ := Int.eq_ofNat_of_zero_le (show 0 ≤ x by omega)
  subst hn
  refine ⟨n, rfl, by omega, ?_⟩
  have hs : sizeB (n : Int) = (pc n : Int) := by rw [sizeB, if_pos (inB_true.2 (by omega))]; simp
  rw [hs] at h
  omega
theorem bigB_meet {many : Nat} {x y : Int} (hm : many ≤ 7) (hx : bigB many x = true) (hy : bigB many y = true) : comB x y = true := by
  obtain ⟨a, rfl, ha, ha'⟩ := bigB_at hm hx
  obtain ⟨b, rfl, hb, hb'⟩ := bigB_at hm hy
  have h128 : 2 ^ many ≤ 128 := Nat.pow_le_pow_right (n := 2) (by omega) hm
  have hne : ¬ (a &&& b) = 0 := fun h0 => by
    have h1 := pc_two a (by omega) b (by omega) (by simpa using h0)
    have h2 := pc_most many hm (a ||| b) (Nat.or_lt_two_pow ha hb)
    omega
  have hpa : 0 < a := Nat.pos_of_ne_zero (fun h => by subst h; simp at hne)
  have hpb : 0 < b := Nat.pos_of_ne_zero (fun h => by subst h; simp at hne)
  simp only [comB, Bool.and_eq_true, decide_eq_true_eq, Int.toNat_natCast]
  exact ⟨by omega, by omega, hne⟩
theorem most_between {many : Nat} {xs : List Int} (h : mostB many xs = true) (hl : xs.length ≤ 10) : betweenB (many : Int) xs xs = true := by
  obtain ⟨h1, h2⟩ := mostB_all h
  have hm := inB_true.1 h1
  have hs : setsB (many : Int) xs = true := by
    unfold setsB
    rw [h1]
    simp only [Bool.true_and, Bool.and_eq_true, decide_eq_true_eq, List.all_eq_true]
    refine ⟨hl, fun x hx => ?_⟩
    obtain ⟨n, rfl, hn, _⟩ := bigB_at (by omega) (h2 x hx)
    rw [inB_true]
    simp only [Int.toNat_natCast]
    omega
  unfold betweenB
  rw [hs]
  simp only [Bool.true_and, meetB, List.all_eq_true]
  exact fun x hx y hy => bigB_meet (by omega) (h2 x hx) (h2 y hy)
theorem between_rev (many : Int) (xs : List Int) : betweenB many xs.reverse xs.reverse = betweenB many xs xs := by
  have hs : setsB many xs.reverse = setsB many xs := by
    unfold setsB
    rw [List.length_reverse, List.all_reverse]
  have hm : meetB xs.reverse xs.reverse = meetB xs xs := by
    unfold meetB
    rw [List.all_reverse]
    congr 1
    funext a
    rw [List.all_reverse]
  unfold betweenB
  rw [hs, hm]
theorem between_nil (many : Nat) : betweenB (many : Int) [] [] = mostB many [] := by
  unfold betweenB setsB meetB
  simp [mostB]
set_option maxRecDepth 8000 in
set_option maxHeartbeats 2000000 in
theorem law_FnQuorumsMeet (w : World) {v0 : Value} {xs0 : List Int} (s0 : Sl1 encU w v0 xs0) (l0 : xs0.length ≤ 9223372036854775807) (f0 : ∀ x ∈ xs0, 0 ≤ x ∧ x ≤ 255) (k0 : ∀ A n c, v0 = .slice A n c → n ≤ c ∧ c ≤ 9223372036854775807) :
    Calls Tryd.prog 6 #[v0] w fun e w' => e = .returned (.bool true) ∧ Ext w w' := by
  obtain ⟨A0, c0, hv0, _⟩ := id s0
  by_cases hl : xs0.length ≤ 1048576
  case neg =>
    subst hv0
    have hl' : 1048576 < xs0.length := by omega
    clear hl s0 f0 k0
    go_enter Tryd.func6, Tryd.ntmps6
    go_wp2
    go_returns
    exact ⟨rfl, Ext.refl _⟩
  have HC := Lib.hid (⟨xs0, s0, f0, hl, k0⟩ : CodeIn w v0)
  subst hv0
  clear s0 f0 k0
  go_enter Tryd.func6, Tryd.ntmps6
  go_wp2_with fail
  refine (DrawQuorumsMeet_any _ HC.out).mono ?_
  rintro e w1 ⟨s, u, xs, rfl, hs, hu, hx, b1⟩
  obtain ⟨M, rfl⟩ := Int.eq_ofNat_of_zero_le hs.1
  have hlx := hx.1
  have HU := Lib.hid hu.1.to1
  have HSX := Lib.hid hx.2
  obtain ⟨A, c, rfl, _⟩ := id HU.out
  clear hu hx
  obtain ⟨ok, hok⟩ : ∃ ok, betweenB (M : Int) xs xs = ok := ⟨_, rfl⟩
  have HK := Lib.hid hok
  clear hok
  go_wp2_with fail
  refine (impl_QuorumsMeet (M : Int) _ HU.out (by omega)).mono ?_
  rw [HK.out]
  rintro e w2 ⟨rfl, b2⟩
  replace HU := Lib.hid (HU.out.ext b2)
  go_wp2_with fail
  refine (spec_QuorumsMeet (M : Int) _ HU.out (by omega) (by omega) (small_sm HSX.out)).mono ?_
  rw [HK.out]
  rintro e w3 ⟨rfl, b3⟩
  replace HU := Lib.hid (HU.out.ext b3)
  go_wp2_with fail
  refine (impl_QuorumsMeet (M : Int) _ (Sl1.nil encI _ 0 none) (by simp)).mono ?_
  rw [between_nil]
  rintro e w4 ⟨rfl, b4⟩
  have HB := Lib.hid ((b1.trans b2).trans b3)
  have HB4 := Lib.hid (((Ext.refl w3).alloc (.cells #[] 3)).trans b4)
  have HRow := Lib.hid ((Row.made (m := 1) (enc := one encI) w3 3).ext b4)
  clear b1 b2 b3 b4
  go_wp2
  go_loopw [6, 7, 8] (fun o p k wr => ∃ q : Nat, q ≤ xs.length ∧ k = .int .i64 ((q : Int) - 1) ∧ p = .bool (mostB M (xs.drop q)) ∧ Hid (Ext w3 wr ∧ Row 3 1 (one encI) w3.heap.size wr o (xs.drop q).reverse)) (fun _ _ k _ => (intOf k + 1).toNat)
  case atStart => exact ⟨xs.length, Nat.le_refl _, rfl, by rw [List.drop_length], HB4.out, by rw [List.drop_length]; exact HRow.out⟩
  case round =>
    clear HRow HB4
    obtain ⟨q, hq, rfl, rfl, HA⟩ := hrel
    by_cases hq0 : 0 < q
    · obtain ⟨q, rfl⟩ : ∃ p, q = p + 1 := ⟨q - 1, by omega⟩
      obtain ⟨x, hx⟩ := at_some (show q < xs.length by omega)
      have hsx := HSX.out x (List.mem_of_getElem? hx)
      obtain ⟨A', c', hA', hcell'⟩ := id (HU.out.ext HA.out.1)
      injection hA' with e1 e2 e3
      subst e1 e3
      clear e2
      obtain ⟨b, off, rfl, hlt', hcl⟩ := hcell' (by omega)
      have cx : wr.cell? ⟨b, off + q, none⟩ = some (.int .i64 x) := hcl q x hx
      have hst := Lib.hid (mostB_step (many := M) hx)
      have hrv : Hid ((xs.drop q).reverse = (xs.drop (q + 1)).reverse ++ [x]) := by
        show _ = _
        obtain ⟨hk, rfl⟩ := List.getElem?_eq_some_iff.1 hx
        rw [List.drop_eq_getElem_cons hk, List.reverse_cons]
      have hdl : (xs.drop (q + 1)).reverse.length ≤ 5 := by simp; omega
      clear hcl hcell' hx
      have hb3 : b < w3.heap.size := by
        obtain ⟨A', c', hA', hcell'⟩ := id HU.out
        injection hA' with e1 e2 e3
        subst e1
        obtain ⟨b', off', hb', hlt', _⟩ := hcell' (by omega)
        injection hb' with hb'
        injection hb' with e4 e5
        subst e4
        exact hlt'
      cases hmb : mostB M (xs.drop (q + 1)) with
      | false =>
        have HMB := Lib.hid hmb
        clear hmb
        go_wp2_with (at_builtin; refine catI rfl rfl rfl rfl (HA.out.2.ext ((Ext.refl _).alloc _)) (SlOf.lit _ _ _ _ [_] rfl) (by simp at hdl ⊢; omega) (by simp; have := HA.out.1.size; omega) ?_; intro v' w5 hrow hg; have HG := Lib.hid (And.intro hrow hg); have hE : Ext w3 w5 := (HA.out.1.alloc _).grown hg HA.out.2.block; have HE := Lib.hid hE; clear hrow hg hE)
        go_roundw
        case rel => exact ⟨q, by omega, by go_num, by rw [hst.out, HMB.out]; rfl, HE.out, by rw [hrv.out]; exact HG.out.1⟩
        case measure => simp [intOf]
      | true =>
        have hM := inB_true.1 (mostB_all hmb).1
        have hM0 : 0 < M := by omega
        have HMB := Lib.hid hmb
        clear hmb
        by_cases hsh : x / 2 ^ M = 0
        · have HSH := Lib.hid hsh
          go_wp2_with (at_builtin; refine catI rfl rfl rfl rfl (HA.out.2.ext ((Ext.refl _).alloc _)) (SlOf.lit _ _ _ _ [_] rfl) (by simp at hdl ⊢; omega) (by simp; have := HA.out.1.size; omega) ?_; intro v' w5 hrow hg; have HG := Lib.hid (And.intro hrow hg); have hE : Ext w3 w5 := (HA.out.1.alloc _).grown hg HA.out.2.block; have HE := Lib.hid hE; have cx5 : w5.cell? ⟨b, off + q, none⟩ = some (.int .i64 x) := hg.cell (((Ext.refl wr).alloc _).cell cx) (fun e => by have := HA.out.2.block b e.symm; omega); clear hrow hg hE)
          refine (impl_SetSize x _).mono ?_
          rintro e w6 ⟨rfl, rfl⟩
          have hsb := sizeB_bd x
          by_cases hbig : (M : Int) < 2 * sizeB x
          · have hbb : bigB M x = true := by simp [bigB, HSH.out, hbig]
            have HBB := Lib.hid hbb
            clear hbb
            go_wp2
            go_roundw
            case rel => exact ⟨q, by omega, by go_num, by rw [hst.out, HMB.out, HBB.out]; rfl, HE.out, by rw [hrv.out]; exact HG.out.1⟩
            case measure => simp [intOf]
          · have hbb : bigB M x = false := by simp [bigB, hbig]
            have HBB := Lib.hid hbb
            have hdec : decide ((M : Int) < 2 * sizeB x) = false := by simpa using hbig
            clear hbb
            go_wp2
            go_roundw
            case rel => exact ⟨q, by omega, by go_num, by rw [hst.out, HMB.out, HBB.out]; rfl, HE.out, by rw [hrv.out]; exact HG.out.1⟩
            case measure => simp [intOf]
        · have hbb : bigB M x = false := by simp [bigB, hsh]
          have HBB := Lib.hid hbb
          clear hbb
          go_wp2_with (at_builtin; refine catI rfl rfl rfl rfl (HA.out.2.ext ((Ext.refl _).alloc _)) (SlOf.lit _ _ _ _ [_] rfl) (by simp at hdl ⊢; omega) (by simp; have := HA.out.1.size; omega) ?_; intro v' w5 hrow hg; have HG := Lib.hid (And.intro hrow hg); have hE : Ext w3 w5 := (HA.out.1.alloc _).grown hg HA.out.2.block; have HE := Lib.hid hE; have cx5 : w5.cell? ⟨b, off + q, none⟩ = some (.int .i64 x) := hg.cell (((Ext.refl wr).alloc _).cell cx) (fun e => by have := HA.out.2.block b e.symm; omega); clear hrow hg hE)
          go_roundw
          case rel => exact ⟨q, by omega, by go_num, by rw [hst.out, HMB.out, HBB.out]; rfl, HE.out, by rw [hrv.out]; exact HG.out.1⟩
          case measure => simp [intOf]
    · obtain rfl : q = 0 := by omega
      rw [List.drop_zero] at HA
      rw [List.drop_zero]
      have HR1 := Lib.hid HA.out.2.cell.1.to1
      have HE := Lib.hid HA.out.1
      have hrl : xs.reverse.length ≤ 5 := by simp; omega
      obtain ⟨most, hmost⟩ : ∃ most, mostB M xs = most := ⟨_, rfl⟩
      rw [hmost]
      have HM := Lib.hid hmost
      clear hmost HA
      cases most with
      | false =>
        go_wp2_with fail
        refine (impl_QuorumsMeet (M : Int) _ HR1.out (by omega)).mono ?_
        rw [between_rev, HK.out]
        rintro e w6 ⟨rfl, b6⟩
        go_wp2_with (go_at_call 14; refine (alive_any _).mono ?_; rintro e w7 ⟨rfl, b7⟩)
        go_returns
        exact ⟨rfl, ((HB.out.trans HE.out).trans b6).trans b7⟩
      | true =>
        have hok := HK.out.symm.trans (most_between HM.out (by omega))
        subst hok
        go_wp2_with fail
        refine (impl_QuorumsMeet (M : Int) _ HR1.out (by omega)).mono ?_
        rw [between_rev, HK.out]
        rintro e w6 ⟨rfl, b6⟩
        go_wp2_with (go_at_call 14; refine (alive_any _).mono ?_; rintro e w7 ⟨rfl, b7⟩)
        go_returns
        exact ⟨rfl, ((HB.out.trans HE.out).trans b6).trans b7⟩
end Go.Proofs.YtpkjgeidndbbbaaDoor
