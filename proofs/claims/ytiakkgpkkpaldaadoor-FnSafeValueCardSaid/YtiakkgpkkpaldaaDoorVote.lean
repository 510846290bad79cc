/- Ballots: VotesValid, of the reference and of the program (which keeps a map). -/
import Derived.Test.YtiakkgpkkpaldaaDoorLeaf
import Derived.Test.YtiakkgpkkpaldaaDoorTypes
import Derived.Test.YtiakkgpkkpaldaaDoorMaps
namespace Go.Proofs.YtiakkgpkkpaldaaDoor
open Go.RowKit

/-- the votes j and k agree, if they are of one ballot -/
def voteAgree (xs : List Vote) (x : Vote) (j : Nat) : Bool :=
  match xs[j]? with
  | some y => !(y.ballot == x.ballot && y.value != x.value)
  | none => true
def goodVote (xs : List Vote) (k : Nat) : Bool :=
  match xs[k]? with
  | some x => inB x.ballot 0 50 && (inB x.value 0 99 && (!(x.ballot == 0 && x.value != 0) && (List.range k).all (voteAgree xs x)))
  | none => true
/-- What VotesValid answers. -/
def votesOk (xs : List Vote) : Bool := allGood xs (goodVote xs) xs.length && inB xs.length 1 7
theorem votesOk_bad {xs : List Vote} {k : Nat} (hk : k < xs.length) (h : goodVote xs k = false) : votesOk xs = false := by
  rw [votesOk, allGood_bad hk h, Bool.false_and]
theorem votesOk_end {xs : List Vote} (h : ∀ i, i < xs.length → goodVote xs i = true) : votesOk xs = inB xs.length 1 7 := by
  rw [votesOk, allGood_end h]; simp
theorem goodVote_b {xs : List Vote} {k : Nat} {x : Vote} (hx : xs[k]? = some x) (h : inB x.ballot 0 50 = false) : goodVote xs k = false := by simp [goodVote, hx, h]
theorem goodVote_v {xs : List Vote} {k : Nat} {x : Vote} (hx : xs[k]? = some x) (h : inB x.value 0 99 = false) : goodVote xs k = false := by simp [goodVote, hx, h]
theorem goodVote_0 {xs : List Vote} {k : Nat} {x : Vote} (hx : xs[k]? = some x) (h : x.ballot = 0) (h' : x.value ≠ 0) : goodVote xs k = false := by simp [goodVote, hx, h, h']
theorem goodVote_j {xs : List Vote} {k j : Nat} {x y : Vote} (hx : xs[k]? = some x) (hy : xs[j]? = some y) (hj : j < k) (h : y.ballot = x.ballot) (h' : y.value ≠ x.value) : goodVote xs k = false := by
  simp only [goodVote, hx]
  rw [show (List.range k).all (voteAgree xs x) = false from by
    rw [List.all_eq_false]; exact ⟨j, by simp [hj], by simp [voteAgree, hy, h, h']⟩]
  simp
theorem goodVote_yes {xs : List Vote} {k : Nat} {x : Vote} (hx : xs[k]? = some x) (h1 : inB x.ballot 0 50 = true) (h2 : inB x.value 0 99 = true) (h3 : x.ballot = 0 → x.value = 0)
    (h4 : ∀ j y, j < k → xs[j]? = some y → y.ballot = x.ballot → y.value = x.value) : goodVote xs k = true := by
  simp only [goodVote, hx, h1, h2]
  rw [show (List.range k).all (voteAgree xs x) = true from by
    rw [List.all_eq_true]
    intro j hj
    simp at hj
    unfold voteAgree
    cases hy : xs[j]? with
    | none => rfl
    | some y =>
      have := h4 j y hj hy
      by_cases e : y.ballot = x.ballot <;> simp [e, this]]
  by_cases e : x.ballot = 0 <;> simp [e, h3]

set_option maxHeartbeats 2000000 in
theorem spec_VotesValid {v : Value} {xs : List Vote} (w : World) (h : SlOf 2 encVote w v xs) (hlen : xs.length ≤ 2097152) :
    Calls Tryd.prog 48 #[v] w fun e w' => e = .returned (.bool (votesOk xs)) ∧ Ext w w' := by
  obtain ⟨A, c, rfl, h⟩ := h
  go_enter Tryd.func48, Tryd.ntmps48
  go_wp2
  go_loopw [3] (fun i wr => Ext w wr ∧ ∃ k : Nat, k ≤ xs.length ∧ i = .int .i64 k ∧ Hid (∀ i, i < k → goodVote xs i = true)) (fun i _ => xs.length - (intOf i).toNat)
  case atStart => exact ⟨Ext.refl _, 0, Nat.zero_le _, rfl, fun _ h => absurd h (Nat.not_lt_zero _)⟩
  case round =>
    obtain ⟨hb, k, hk, rfl, HG⟩ := hrel
    by_cases hlt : k < xs.length
    · obtain ⟨b, off, rfl, hbl, hc⟩ := h (by omega)
      obtain ⟨x, hx⟩ := at_some hlt
      have c0 : wr.cell? ⟨b, off + k * 2, none⟩ = some (.int .i64 x.ballot) := hb.cell (hc k x hx 0 (by omega))
      have c1 : wr.cell? ⟨b, off + k * 2 + 1, none⟩ = some (.int .i64 x.value) := hb.cell (hc k x hx 1 (by omega))
      have Hc := Lib.hid hc
      have Hx := Lib.hid hx
      clear h hc hx
      by_cases hB : inB x.ballot 0 50 = true
      case neg =>
        simp only [Bool.not_eq_true] at hB
        have hf := Lib.hid (votesOk_bad hlt (goodVote_b Hx.out hB))
        go_wp2_with ((go_at_call 37; refine (l1In_any _ _ _ _).mono ?_; rintro e w' ⟨rfl, rfl⟩))
        go_returns
        exact ⟨ret_bool hf.out.symm, hb.alloc _⟩
      by_cases hV : inB x.value 0 99 = true
      case neg =>
        simp only [Bool.not_eq_true] at hV
        have hf := Lib.hid (votesOk_bad hlt (goodVote_v Hx.out hV))
        go_wp2_with ((go_at_call 37; refine (l1In_any _ _ _ _).mono ?_; rintro e w' ⟨rfl, rfl⟩))
        go_returns
        exact ⟨ret_bool hf.out.symm, hb.alloc _⟩
      have hz : (x.ballot = 0 ∧ x.value ≠ 0) ∨ (x.ballot = 0 ∧ x.value = 0) ∨ x.ballot ≠ 0 := by omega
      rcases hz with ⟨h1, h2⟩ | hz
      · have hf := Lib.hid (votesOk_bad hlt (goodVote_0 Hx.out h1 h2))
        have h1' : (x.ballot == 0) = true := by simp [h1]
        have h2' : (x.value != 0) = true := by simp [h2]
        clear h1 h2
        go_wp2_with ((go_at_call 37; refine (l1In_any _ _ _ _).mono ?_; rintro e w' ⟨rfl, rfl⟩))
        go_returns
        exact ⟨ret_bool hf.out.symm, hb.alloc _⟩
      have h3 : Hid (x.ballot = 0 → x.value = 0) := fun h => by omega
      rcases hz with ⟨h1, h2⟩ | h1
      case' inl =>
        have h1' : (x.ballot == 0) = true := by simp [h1]
        have h2' : (x.value != 0) = false := by simp [h2]
        clear h1 h2
      case' inr =>
        have h1' : (x.ballot == 0) = false := by simp [h1]
        clear h1
      all_goals
        obtain ⟨wo, rfl⟩ : ∃ wo : World, wo = wr := ⟨_, rfl⟩
        go_wp2_with ((go_at_call 37; refine (l1In_any _ _ _ _).mono ?_; rintro e w' ⟨rfl, rfl⟩))
        go_loopw [5] (fun i wq => Ext wo wq ∧ wq.cell? ⟨wo.heap.size, 0, none⟩ = some (.int .i64 x.ballot) ∧ wq.cell? ⟨wo.heap.size, 1, none⟩ = some (.int .i64 x.value) ∧ ∃ j : Nat, j ≤ k ∧ i = .int .i64 j ∧ Hid (∀ i y, i < j → xs[i]? = some y → y.ballot = x.ballot → y.value = x.value)) (fun i _ => k - (intOf i).toNat)
        case atStart => exact ⟨(Ext.refl _).alloc _, by go_cell, by go_cell, 0, Nat.zero_le _, rfl, fun _ _ h => absurd h (Nat.not_lt_zero _)⟩
        case round =>
          obtain ⟨hb2, e0, e1, j, hj, rfl, HJ⟩ := hrel
          clear c0 c1
          by_cases hjk : j < k
          · obtain ⟨y, hy⟩ := at_some (show j < xs.length by omega)
            have d0 : ∀ e, (over wr e).cell? ⟨b, off + j * 2, none⟩ = some (.int .i64 y.ballot) := over_cell (hb2.cell (hb.cell (Hc.out j y hy 0 (by omega))))
            have d1 : ∀ e, (over wr e).cell? ⟨b, off + j * 2 + 1, none⟩ = some (.int .i64 y.value) := over_cell (hb2.cell (hb.cell (Hc.out j y hy 1 (by omega))))
            have f0 := over_cell e0
            have f1 := over_cell e1
            have hjl : j < xs.length := by omega
            have Hy := Lib.hid hy
            have E0 := Lib.hid e0
            have E1 := Lib.hid e1
            clear hy e0 e1
            go_wp2
            refine wp_region_over (by kernel_rfl) (by kernel_rfl) ?_
            by_cases hyb : y.ballot = x.ballot
            · by_cases hyv : y.value = x.value
              · have g0 : (y.ballot == x.ballot) = true := by simp [hyb]
                have g1 : (y.value != x.value) = false := by simp [hyv]
                have Hyv := Lib.hid hyv
                clear hyb hyv
                repeat (go_big_quiet_step ((fail)))
                refine wpQuiet_nil ?_
                intro w1 hb1
                go_wp2
                go_roundw
                case rel => exact ⟨hb2.trans hb1, hb1.cell E0.out, hb1.cell E1.out, j + 1, by omega, by go_num, fun i z hi hz => if e : i = j then (by subst e; rw [Hy.out] at hz; cases hz; exact fun _ => Hyv.out) else HJ.out i z (by omega) hz⟩
                case measure => simp [intOf]; omega
              · have hf := Lib.hid (votesOk_bad hlt (goodVote_j Hx.out Hy.out hjk hyb hyv))
                have g0 : (y.ballot == x.ballot) = true := by simp [hyb]
                have g1 : (y.value != x.value) = true := by simp [hyv]
                clear hyb hyv
                repeat (go_big_quiet_step ((fail)))
                refine wpQuiet_nil ?_
                intro w1 hb1
                go_wp2
                go_returns
                exact ⟨ret_bool hf.out.symm, (hb.trans hb2).trans hb1⟩
            · have g0 : (y.ballot == x.ballot) = false := by simp [hyb]
              have Hyb := Lib.hid hyb
              clear hyb
              repeat (go_big_quiet_step ((fail)))
              refine wpQuiet_nil ?_
              intro w1 hb1
              go_wp2
              go_roundw
              case rel => exact ⟨hb2.trans hb1, hb1.cell E0.out, hb1.cell E1.out, j + 1, by omega, by go_num, fun i z hi hz => if e : i = j then (by subst e; rw [Hy.out] at hz; cases hz; exact fun h => absurd h Hyb.out) else HJ.out i z (by omega) hz⟩
              case measure => simp [intOf]; omega
          · have hgk : Hid (goodVote xs k = true) := goodVote_yes Hx.out hB hV h3.out (fun i y hi hy => HJ.out i y (by omega) hy)
            clear e0 e1
            go_wp2
            go_roundw
            case rel => exact ⟨hb.trans hb2, k + 1, by omega, by go_num, fun i hi => if e : i = k then e ▸ hgk.out else HG.out i (by omega)⟩
            case measure => simp [intOf]; omega
    · have hf := Lib.hid (votesOk_end (fun i hi => HG.out i (by omega)))
      go_wp2_with ((go_at_call 37; refine (l1In_any _ _ _ _).mono ?_; rintro e w' ⟨rfl, rfl⟩))
      go_returns
      exact ⟨ret_bool hf.out.symm, hb⟩
/-- What the map of the program says behind k votes that agree. -/
def VInv (xs : List Vote) (k : Nat) (m : Int → Option Int) : Prop :=
  m 0 = some 0 ∧ (∀ j y, j < k → xs[j]? = some y → m y.ballot = some y.value) ∧ ∀ b v, m b = some v → (b = 0 ∧ v = 0) ∨ ∃ j y, j < k ∧ xs[j]? = some y ∧ y.ballot = b ∧ y.value = v
theorem VInv.start (xs : List Vote) : VInv xs 0 (fun i => if i = 0 then some 0 else none) :=
  ⟨by simp, fun _ _ h => absurd h (Nat.not_lt_zero _), fun b v h => by
    by_cases e : b = 0
    · simp [e] at h; exact .inl ⟨e, h.symm⟩
    · simp [e] at h⟩
theorem VInv.bad {xs : List Vote} {k : Nat} {m : Int → Option Int} {x : Vote} {v : Int} (h : VInv xs k m) (hx : xs[k]? = some x) (hm : m x.ballot = some v) (hv : v ≠ x.value) : goodVote xs k = false := by
  rcases h.2.2 _ _ hm with ⟨e1, e2⟩ | ⟨j, y, hj, hy, e1, e2⟩
  · exact goodVote_0 hx e1 (fun e => hv (by rw [e2, e]))
  · exact goodVote_j hx hy hj e1 (fun e => hv (by rw [← e2, e]))
theorem VInv.good {xs : List Vote} {k : Nat} {m : Int → Option Int} {x : Vote} (h : VInv xs k m) (hx : xs[k]? = some x) (h1 : inB x.ballot 0 50 = true) (h2 : inB x.value 0 99 = true) (hm : m x.ballot = none ∨ m x.ballot = some x.value) :
    goodVote xs k = true ∧ VInv xs (k + 1) (fun i => if i = x.ballot then some x.value else m i) := by
  have h0 : x.ballot = 0 → x.value = 0 := fun e => by
    rw [e, h.1] at hm
    rcases hm with hm | hm
    · cases hm
    · exact (Option.some.inj hm).symm
  have hj : ∀ j y, j < k → xs[j]? = some y → y.ballot = x.ballot → y.value = x.value := fun j y hj hy e => by
    have := h.2.1 j y hj hy
    rw [e] at this
    rw [this] at hm
    rcases hm with hm | hm
    · cases hm
    · exact Option.some.inj hm
  refine ⟨goodVote_yes hx h1 h2 h0 hj, ?_, fun j y hjk hy => ?_, fun b v hb => ?_⟩
  · show (if (0 : Int) = x.ballot then some x.value else m 0) = some 0
    by_cases e : (0 : Int) = x.ballot
    · rw [if_pos e, h0 e.symm]
    · rw [if_neg e]; exact h.1
  · show (if y.ballot = x.ballot then some x.value else m y.ballot) = some y.value
    by_cases ej : j = k
    · subst ej
      rw [hx] at hy
      cases hy
      rw [if_pos rfl]
    · by_cases e : y.ballot = x.ballot
      · rw [if_pos e, hj j y (by omega) hy e]
      · rw [if_neg e]; exact h.2.1 j y (by omega) hy
  · have hb' : (if b = x.ballot then some x.value else m b) = some v := hb
    by_cases e : b = x.ballot
    · rw [if_pos e] at hb'
      cases hb'
      exact .inr ⟨k, x, by omega, hx, e.symm, rfl⟩
    · rw [if_neg e] at hb'
      rcases h.2.2 b v hb' with h' | ⟨j, y, hj', hy, e1, e2⟩
      · exact .inl h'
      · exact .inr ⟨j, y, by omega, hy, e1, e2⟩
set_option maxHeartbeats 2000000 in
theorem impl_VotesValid {v : Value} {xs : List Vote} (w : World) (h : SlOf 2 encVote w v xs) (hlen : xs.length ≤ 2097152) :
    Calls Tryd.prog 44 #[v] w fun e w' => e = .returned (.bool (votesOk xs)) ∧ Ext w w' := by
  obtain ⟨A, c, rfl, h⟩ := h
  have hmm := @run_makeMap Tryd.prog
  have hK : Tryd.prog.underlying 3 = some (.int .i64) := Tryd.underlying3
  have hz : ∀ w, (zeroValue 3).run Tryd.prog w = .ok (.int .i64 0) w := fun w => by kernel_rfl
  obtain ⟨o0, hup0, hm0⟩ := run_update_fn (P := Tryd.prog) (T := 75) Tryd.underlying75 hK (MapFn.made w) 0 0
  have Hz := Lib.hid hz
  have HK := Lib.hid hK
  clear hz hK
  go_enter Tryd.func44, Tryd.ntmps44
  go_wp2
  go_loopw [12] (fun i wr => Ext w wr ∧ w.heap.size < wr.heap.size ∧ ∃ k : Nat, k ≤ xs.length ∧ i = .int .i64 k ∧ Hid (∀ i, i < k → goodVote xs i = true) ∧ Hid (∃ m, MapFn wr w.heap.size m ∧ VInv xs k m)) (fun i _ => xs.length - (intOf i).toNat)
  case atStart => exact ⟨((Ext.refl _).alloc _).setMap (Nat.le_refl _) _, by simp [setMap], 0, Nat.zero_le _, rfl, fun _ h => absurd h (Nat.not_lt_zero _), _, hm0, VInv.start xs⟩
  case round =>
    clear hmm hup0 hm0
    obtain ⟨hb, hgs, k, hk, rfl, HG, HM⟩ := hrel
    by_cases hlt : k < xs.length
    · obtain ⟨b, off, rfl, hbl, hc⟩ := h (by omega)
      obtain ⟨x, hx⟩ := at_some hlt
      have c0 : wr.cell? ⟨b, off + k * 2, none⟩ = some (.int .i64 x.ballot) := hb.cell (hc k x hx 0 (by omega))
      have c1 : wr.cell? ⟨b, off + k * 2 + 1, none⟩ = some (.int .i64 x.value) := hb.cell (hc k x hx 1 (by omega))
      have Hx := Lib.hid hx
      clear h hc hx
      by_cases hB : inB x.ballot 0 50 = true
      case neg =>
        simp only [Bool.not_eq_true] at hB
        have hf := Lib.hid (votesOk_bad hlt (goodVote_b Hx.out hB))
        go_wp2_with ((first | (go_at_call 34; refine (within_any _ _ _ _).mono ?_; rintro e w' ⟨rfl, rfl⟩) | (go_at_call 45; refine (valueOk_any _ _).mono ?_; rintro e w' ⟨rfl, rfl⟩)))
        go_returns
        exact ⟨ret_bool hf.out.symm, hb.alloc _⟩
      by_cases hV : inB x.value 0 99 = true
      case neg =>
        simp only [Bool.not_eq_true] at hV
        have hf := Lib.hid (votesOk_bad hlt (goodVote_v Hx.out hV))
        go_wp2_with ((first | (go_at_call 34; refine (within_any _ _ _ _).mono ?_; rintro e w' ⟨rfl, rfl⟩) | (go_at_call 45; refine (valueOk_any _ _).mono ?_; rintro e w' ⟨rfl, rfl⟩)))
        go_returns
        exact ⟨ret_bool hf.out.symm, hb.alloc _⟩
      go_wp2_with fail
      refine calls_world (fun W => Ext wr W ∧ W.cell? ⟨wr.heap.size, 0, none⟩ = some (.int .i64 x.ballot) ∧ W.cell? ⟨wr.heap.size, 1, none⟩ = some (.int .i64 x.value)) ⟨(Ext.refl _).alloc _, by go_cell, by go_cell⟩ ?_
      rintro W ⟨hW, e0, e1⟩
      obtain ⟨m, hm, hI⟩ := HM.out
      replace hm := hm.ext hW
      clear c0 c1
      have hlk := run_lookup_fn (P := Tryd.prog) (T := 75) Tryd.underlying75 HK.out Hz.out hm x.ballot
      obtain ⟨o, hup, hm2⟩ := run_update_fn (P := Tryd.prog) (T := 75) Tryd.underlying75 HK.out hm x.ballot x.value
      have HI := Lib.hid hI
      have Hm2 := Lib.hid hm2
      clear hI hm hm2
      refine (within_any _ _ _ _).mono ?_
      rintro e w' ⟨rfl, rfl⟩
      cases hmb : m x.ballot with
      | none =>
        rw [hmb] at hlk
        have hr := Lib.hid (HI.out.good Hx.out hB hV (.inl hmb))
        clear hmb
        go_wp2_with ((first | (go_at_call 34; refine (within_any _ _ _ _).mono ?_; rintro e w' ⟨rfl, rfl⟩) | (go_at_call 45; refine (valueOk_any _ _).mono ?_; rintro e w' ⟨rfl, rfl⟩)))
        go_roundw
        case rel => exact ⟨(hb.trans hW).setMap (Nat.le_refl _) _, by have := hW.size; simp [setMap]; omega, k + 1, by omega, by go_num, fun i hi => if e : i = k then e ▸ hr.out.1 else HG.out i (by omega), _, Hm2.out, hr.out.2⟩
        case measure => simp [intOf]; omega
      | some z =>
        rw [hmb] at hlk
        by_cases hzv : z = x.value
        · have hr := Lib.hid (HI.out.good Hx.out hB hV (.inr (by rw [hmb, hzv])))
          have hne : (z != x.value) = false := by simp [hzv]
          clear hmb hzv
          go_wp2_with ((first | (go_at_call 34; refine (within_any _ _ _ _).mono ?_; rintro e w' ⟨rfl, rfl⟩) | (go_at_call 45; refine (valueOk_any _ _).mono ?_; rintro e w' ⟨rfl, rfl⟩)))
          go_roundw
          case rel => exact ⟨(hb.trans hW).setMap (Nat.le_refl _) _, by have := hW.size; simp [setMap]; omega, k + 1, by omega, by go_num, fun i hi => if e : i = k then e ▸ hr.out.1 else HG.out i (by omega), _, Hm2.out, hr.out.2⟩
          case measure => simp [intOf]; omega
        · have hf := Lib.hid (votesOk_bad hlt (HI.out.bad Hx.out hmb hzv))
          have hne : (z != x.value) = true := by simp [hzv]
          clear hmb hzv
          go_wp2_with ((first | (go_at_call 34; refine (within_any _ _ _ _).mono ?_; rintro e w' ⟨rfl, rfl⟩) | (go_at_call 45; refine (valueOk_any _ _).mono ?_; rintro e w' ⟨rfl, rfl⟩)))
          go_returns
          exact ⟨ret_bool hf.out.symm, hb.trans hW⟩
    · have hf := Lib.hid (votesOk_end (fun i hi => HG.out i (by omega)))
      go_wp2_with ((go_at_call 34; refine (within_any _ _ _ _).mono ?_; rintro e w' ⟨rfl, rfl⟩))
      go_returns
      exact ⟨ret_bool hf.out.symm, hb⟩
end Go.Proofs.YtiakkgpkkpaldaaDoor
