/- How many records are kept by more than half: LogCommit, of the reference and of the program. -/
import Derived.Test.YtiggckhlbklngaaDoorMedian
import Derived.Test.YtiggckhlbklngaaDoorSorted
import Derived.Test.YtiggckhlbklngaaDoorInts
namespace Go.Proofs.YtiggckhlbklngaaDoor
open Go.RowKit
set_option maxRecDepth 8000

/-- What LogCommit returns. -/
def commitL (xs : List Int) : Int := if (inB (xs.length : Int) 1 7 = true ∧ xs.all (fun x => inB x 0 12) = true) then bestN xs 13 else -1
theorem commit_len {xs : List Int} (h : inB (xs.length : Int) 1 7 = false) : commitL xs = -1 := by
  unfold commitL
  rw [if_neg]
  rintro ⟨h1, _⟩
  rw [h] at h1
  cases h1
theorem commit_bad {xs : List Int} (h : xs.all (fun x => inB x 0 12) = false) : commitL xs = -1 := by
  unfold commitL
  rw [if_neg]
  rintro ⟨_, h1⟩
  rw [h] at h1
  cases h1
theorem commit_ok {xs : List Int} (h : inB (xs.length : Int) 1 7 = true) (h1 : xs.all (fun x => inB x 0 12) = true) : commitL xs = bestN xs 13 := by
  unfold commitL
  rw [if_pos ⟨h, h1⟩]
theorem commit_mid {xs ys : List Int} (h : inB (xs.length : Int) 1 7 = true) (h1 : xs.all (fun x => inB x 0 12) = true) (hp : ys.Perm xs) (hs : ys.Pairwise (· ≤ ·)) {m : Int} (hm : ys[(xs.length - 1) / 2]? = some m) : commitL xs = m := by
  rw [commit_ok h h1, ← bestN_perm hp]
  have hm' := hm
  rw [← hp.length_eq] at hm'
  have hmem := hp.subset (List.mem_of_getElem? hm)
  have hb := inB_true.1 (List.all_eq_true.1 h1 m hmem)
  exact (bestN_middle hs hm' hb.1).1 (by omega)

theorem commit1_any (x : Int) (w : World) : Calls Tryd.prog 54 #[.int .i64 x] w fun e w' => e = .returned (.bool (!inB x 0 12)) ∧ Ext w w' := by
  go_enter Tryd.func54, Tryd.ntmps54
  go_wp2_with ((go_at_call 35; refine (within_any _ _ _ _).mono ?_; rintro e w' ⟨rfl, rfl⟩))
  go_returns
  exact ⟨rfl, Ext.refl _⟩
set_option maxHeartbeats 2000000 in
theorem impl_LogCommit {v : Value} {xs : List Int} (w : World) (h : Sl1 encI w v xs) (hlen : xs.length ≤ 2097152) :
    Calls Tryd.prog 22 #[v] w fun e w' => e = .returned (.int .i64 (commitL xs)) ∧ Ext w w' := by
  have H := Lib.hid h
  obtain ⟨A, c, rfl, hc0⟩ := id h
  have HC := Lib.hid hc0
  clear h hc0
  have hlen9 : xs.length ≤ 9223372036854775807 := by omega
  cases hl : inB (xs.length : Int) 1 7 with
  | false =>
    rw [commit_len hl]
    go_enter Tryd.func22, Tryd.ntmps22
    go_wp2_with ((go_at_call 35; refine (within_any _ _ _ _).mono ?_; rintro e w' ⟨rfl, rfl⟩))
    go_returns
    exact ⟨rfl, Ext.refl _⟩
  | true =>
    have hl7 := inB_true.1 hl
    cases ha : xs.all (fun x => inB x 0 12) with
    | false =>
      rw [commit_bad ha]
      have hany : xs.any (fun x => !inB x 0 12) = true := by rw [← Bool.not_not (b := xs.any _), List.not_any_eq_all_not]; simpa using ha
      go_enter Tryd.func22, Tryd.ntmps22
      go_wp2_with fail
      refine (within_any _ _ _ _).mono ?_
      rw [hl]
      rintro e w1 ⟨rfl, rfl⟩
      go_wp2_with fail
      refine (containsFuncI_any _ 54 #[] (fun x => !inB x 0 12) H.out hlen (fun _ _ => by kernel_rfl) (fun x _ W _ => commit1_any x W)).mono ?_
      rw [hany]
      rintro e w1 ⟨rfl, b1⟩
      go_wp2
      go_returns
      exact ⟨rfl, b1⟩
    | true =>
      have hany : xs.any (fun x => !inB x 0 12) = false := by rw [← Bool.not_not (b := xs.any _), List.not_any_eq_all_not]; simpa using ha
      obtain ⟨b, off, rfl, hb, hcell⟩ := HC.out (by omega)
      have HLA := Lib.hid (And.intro hl ha)
      obtain ⟨m, hm⟩ : ∃ m, (xs.length - 1) / 2 = m := ⟨_, rfl⟩
      have hmi : ((xs.length : Int) - 1) / 2 = (m : Int) := by omega
      have hmt : ((xs.length : Int) - 1).tdiv 2 = (m : Int) := by rw [Int.tdiv_eq_ediv_of_nonneg (by omega)]; omega
      have hml : m < xs.length := by omega
      have HM := Lib.hid hm
      have HCELL := Lib.hid hcell
      clear ha hm hcell
      go_enter Tryd.func22, Tryd.ntmps22
      go_wp2_with fail
      refine (within_any _ _ _ _).mono ?_
      rw [hl]
      rintro e w1 ⟨rfl, rfl⟩
      clear hl
      go_wp2_with fail
      refine (containsFuncI_any _ 54 #[] (fun x => !inB x 0 12) H.out hlen (fun _ _ => by kernel_rfl) (fun x _ W _ => commit1_any x W)).mono ?_
      rw [hany]
      rintro e w1 ⟨rfl, b1⟩
      clear hany
      have B1 := Lib.hid b1
      clear b1
      go_wp2_with fail
      refine (values_any _ _ _ _).mono ?_
      rintro e w2 ⟨rfl, rfl⟩
      have E2 := Lib.hid (B1.out.alloc (.cells #[.slice (some ⟨b, off, none⟩) xs.length c] 23))
      have hbox : Boxed (w1.alloc (.cells #[.slice (some ⟨b, off, none⟩) xs.length c] 23)) w1.heap.size 23 (.slice (some ⟨b, off, none⟩) xs.length c) := Boxed.new _ _ _
      have hseq := values_stops w1.heap.size w.heap.size c (some ⟨b, off, none⟩) xs _ (by simp) hlen hbox.cell b off (fun _ => rfl) (fun _ => hb) E2.out.size (fun i x hx => E2.out.cell (HCELL.out i x hx))
      have HSEQ := Lib.hid hseq
      clear hseq hbox
      go_wp2_with fail
      refine (sorted_any w1.heap.size w.heap.size xs _ E2.out.size (by omega) HSEQ.out).mono ?_
      rintro e w3 ⟨v3, ys, rfl, hp, hs, hy, b3⟩
      have hyl : ys.length = xs.length := hp.length_eq
      obtain ⟨A3, c3, rfl, hc3⟩ := id hy
      obtain ⟨b3', off3, rfl, _, hcell3⟩ := hc3 (by omega)
      obtain ⟨y, hyy⟩ := at_some (show m < ys.length by omega)
      have c0 : w3.cell? ⟨b3', off3 + m, none⟩ = some (.int .i64 y) := hcell3 m y hyy
      have HF := Lib.hid (commit_mid HLA.out.1 HLA.out.2 hp hs (by rw [HM.out]; exact hyy))
      have E3 := Lib.hid (E2.out.trans b3)
      have hmy : m < ys.length := by omega
      rw [hyl]
      clear hp hs hy b3 hc3 hcell3 hyy
      go_wp2
      go_returns
      exact ⟨ret_int HF.out.symm, E3.out⟩
theorem many_take {xs : List Int} {k : Nat} {x : Int} (hx : xs[k]? = some x) (n : Int) : manyOf (xs.take (k + 1)) n = manyOf (xs.take k) n + if n ≤ x then 1 else 0 := by
  unfold manyOf
  rw [List.take_add_one, hx, List.countP_append]
  by_cases h : n ≤ x
  · simp [h]
  · simp [h]
set_option maxHeartbeats 2000000 in
theorem spec_LogCommit {v : Value} {xs : List Int} (w : World) (h : Sl1 encI w v xs) (hlen : xs.length ≤ 2097152) :
    Calls Tryd.prog 23 #[v] w fun e w' => e = .returned (.int .i64 (commitL xs)) ∧ Ext w w' := by
  obtain ⟨A, c, rfl, hc0⟩ := id h
  have HC := Lib.hid hc0
  clear h hc0
  have hlen9 : xs.length ≤ 9223372036854775807 := by omega
  cases hl : inB (xs.length : Int) 1 7 with
  | false =>
    rw [commit_len hl]
    go_enter Tryd.func23, Tryd.ntmps23
    go_wp2
    go_loopw [3, 4] (fun b n wr => b = .int .i64 (-1) ∧ n = .int .i64 0 ∧ wr = w) (fun _ _ _ => 0)
    case atStart => exact ⟨rfl, rfl, rfl⟩
    case round =>
      obtain ⟨rfl, rfl, rfl⟩ := hrel
      go_wp2_with fail
      refine (l1In_any _ _ _ _).mono ?_
      rw [hl]
      rintro e w' ⟨rfl, rfl⟩
      go_wp2
      go_returns
      exact ⟨rfl, Ext.refl _⟩
  | true =>
    have hl7 := inB_true.1 hl
    obtain ⟨b, off, rfl, hb, hcell⟩ := HC.out (by omega)
    have HCELL := Lib.hid hcell
    clear hcell
    cases ha : xs.all (fun x => inB x 0 12) with
    | false =>
      rw [commit_bad ha]
      have HA : Hid (xs.all (fun x => inB x 0 12) = false) := ha
      clear ha
      go_enter Tryd.func23, Tryd.ntmps23
      go_wp2
      go_loopw [3, 4] (fun b n wr => b = .int .i64 (-1) ∧ n = .int .i64 0 ∧ wr = w) (fun _ _ _ => 0)
      case atStart => exact ⟨rfl, rfl, rfl⟩
      case round =>
        obtain ⟨rfl, rfl, rfl⟩ := hrel
        go_wp2_with fail
        refine (l1In_any _ _ _ _).mono ?_
        rw [hl]
        rintro e w' ⟨rfl, rfl⟩
        clear hl
        go_wp2
        go_loopw [5, 6] (fun n i wr2 => ∃ k q : Nat, k ≤ xs.length ∧ n = .int .i64 (q : Int) ∧ q ≤ k ∧ i = .int .i64 (k : Int) ∧ wr2 = wr ∧ Hid (∀ i x, i < k → xs[i]? = some x → inB x 0 12 = true)) (fun _ i _ => xs.length - (intOf i).toNat)
        case atStart => exact ⟨0, 0, Nat.zero_le _, rfl, Nat.le_refl _, rfl, rfl, fun i x hi => absurd hi (Nat.not_lt_zero _)⟩
        case round =>
          obtain ⟨k, q, hk, rfl, hq, rfl, rfl, HG⟩ := hrel
          by_cases hlt : k < xs.length
          · obtain ⟨x, hx⟩ := at_some hlt
            have c0 : wr.cell? ⟨b, off + k, none⟩ = some (.int .i64 x) := HCELL.out k x hx
            have HX := Lib.hid hx
            clear hx
            cases hg : inB x 0 12 with
            | false =>
              go_wp2_with fail
              refine (l1In_any _ _ _ _).mono ?_
              rw [hg]
              rintro e w' ⟨rfl, rfl⟩
              go_wp2
              go_returns
              exact ⟨rfl, Ext.refl _⟩
            | true =>
              go_wp2_with fail
              refine (l1In_any _ _ _ _).mono ?_
              rw [hg]
              rintro e w' ⟨rfl, rfl⟩
              have HGN : Hid (∀ i x, i < k + 1 → xs[i]? = some x → inB x 0 12 = true) := fun i y hi hy => if e : i = k then by subst e; rw [HX.out] at hy; cases hy; exact hg else HG.out i y (by omega) hy
              clear hg
              by_cases h0 : 0 ≤ x
              · go_wp2
                go_roundw
                case rel => exact ⟨k + 1, q + 1, by omega, by go_num, by omega, by go_num, by first | rfl | trivial, HGN⟩
                case measure => simp [intOf]; omega
              · go_wp2
                go_roundw
                case rel => exact ⟨k + 1, q, by omega, by go_num, by omega, by go_num, by first | rfl | trivial, HGN⟩
                case measure => simp [intOf]; omega
          · exfalso
            have := HA.out
            rw [List.all_eq_false] at this
            obtain ⟨x, hx, hbad⟩ := this
            obtain ⟨i, hi⟩ := List.getElem?_of_mem hx
            exact hbad (HG.out i x (by have := (List.getElem?_eq_some_iff.1 hi).1; omega) hi)
    | true =>
      rw [commit_ok hl ha]
      have HA := Lib.hid (fun (i : Nat) (x : Int) (hx : xs[i]? = some x) => (List.all_eq_true.1 ha x (List.mem_of_getElem? hx) : inB x 0 12 = true))
      have HL := Lib.hid hl
      clear ha hl
      go_enter Tryd.func23, Tryd.ntmps23
      go_wp2
      go_loopw [3, 4] (fun b n wr => ∃ m : Nat, m ≤ 13 ∧ b = .int .i64 (bestN xs m) ∧ n = .int .i64 (m : Int) ∧ wr = w) (fun _ n _ => 13 - (intOf n).toNat)
      case atStart => exact ⟨0, by omega, rfl, rfl, rfl⟩
      case round =>
        obtain ⟨m, hm, rfl, rfl, rfl⟩ := hrel
        by_cases hm12 : m < 13
        · go_wp2_with fail
          refine (l1In_any _ _ _ _).mono ?_
          rw [HL.out]
          rintro e w' ⟨rfl, rfl⟩
          go_wp2
          go_loopw [5, 6] (fun n i wr2 => ∃ k q : Nat, k ≤ xs.length ∧ n = .int .i64 (q : Int) ∧ q ≤ k ∧ i = .int .i64 (k : Int) ∧ wr2 = wr ∧ Hid (manyOf (xs.take k) (m : Int) = q)) (fun _ i _ => xs.length - (intOf i).toNat)
          case atStart => exact ⟨0, 0, Nat.zero_le _, rfl, Nat.le_refl _, rfl, rfl, by show _ = _; simp [manyOf]⟩
          case round =>
            obtain ⟨k, q, hk, rfl, hq, rfl, rfl, HG⟩ := hrel
            by_cases hlt : k < xs.length
            · obtain ⟨x, hx⟩ := at_some hlt
              have c0 : wr.cell? ⟨b, off + k, none⟩ = some (.int .i64 x) := HCELL.out k x hx
              have HX := Lib.hid hx
              have HXB := Lib.hid (HA.out k x hx)
              clear hx
              go_wp2_with fail
              refine (l1In_any _ _ _ _).mono ?_
              rw [HXB.out]
              rintro e w' ⟨rfl, rfl⟩
              by_cases h0 : (m : Int) ≤ x
              · have HGN : Hid (manyOf (xs.take (k + 1)) (m : Int) = q + 1) := by show _ = _; rw [many_take HX.out, HG.out, if_pos h0]
                go_wp2
                go_roundw
                case rel => exact ⟨k + 1, q + 1, by omega, by go_num, by omega, by go_num, by first | rfl | trivial, HGN⟩
                case measure => simp [intOf]; omega
              · have HGN : Hid (manyOf (xs.take (k + 1)) (m : Int) = q) := by show _ = _; rw [many_take HX.out, HG.out, if_neg h0]; rfl
                go_wp2
                go_roundw
                case rel => exact ⟨k + 1, q, by omega, by go_num, by omega, by go_num, by first | rfl | trivial, HGN⟩
                case measure => simp [intOf]; omega
            · obtain rfl : k = xs.length := by omega
              have HQ : Hid (manyOf xs (m : Int) = q) := by
                have := HG.out
                rwa [List.take_length] at this
              by_cases h2 : xs.length < 2 * q
              · have HN : Hid (bestN xs (m + 1) = (m : Int)) := by
                  show _ = _
                  unfold bestN
                  rw [HQ.out, if_pos h2]
                go_wp2
                go_roundw
                case rel => exact ⟨m + 1, by omega, by rw [HN.out], by go_num, by first | rfl | trivial⟩
                case measure => simp [intOf]; omega
              · have HN : Hid (bestN xs (m + 1) = bestN xs m) := by
                  show _ = _
                  rw [bestN, HQ.out, if_neg h2]
                go_wp2
                go_roundw
                case rel => exact ⟨m + 1, by omega, by rw [HN.out], by go_num, by first | rfl | trivial⟩
                case measure => simp [intOf]; omega
        · obtain rfl : m = 13 := by omega
          clear hm12
          go_wp2
          go_returns
          exact ⟨rfl, Ext.refl _⟩
end Go.Proofs.YtiggckhlbklngaaDoor
