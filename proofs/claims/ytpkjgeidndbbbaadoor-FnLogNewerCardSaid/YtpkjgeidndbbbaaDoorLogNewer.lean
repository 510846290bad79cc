/- Logs: LogNewer, of the reference and of the program. -/
import Derived.Test.YtpkjgeidndbbbaaDoorLog
namespace Go.Proofs.YtpkjgeidndbbbaaDoor
open Go.RowKit

/-- The last record's term, or 0. -/
def lastT (xs : List Rec) : Int := match xs[xs.length - 1]? with | some y => y.term | none => 0
theorem lastT_cases {w : World} {A : Option Addr} {n c : Nat} {xs : List Rec} (h : SlOf 2 encRec w (.slice A n c) xs) :
    (xs.length < 1 ∧ lastT xs = 0) ∨ (0 < xs.length ∧ ∃ b off, A = some ⟨b, off, none⟩ ∧ w.cell? ⟨b, off + (xs.length - 1) * 2, none⟩ = some (.int .i64 (lastT xs))) := by
  obtain ⟨A', c', hA, h⟩ := h
  injection hA with h1 h2 h3
  subst h1
  rcases Nat.lt_or_ge 0 xs.length with hn | hn
  · obtain ⟨b, off, rfl, hbl, hc⟩ := h hn
    obtain ⟨y, hy⟩ := at_some (show xs.length - 1 < xs.length by omega)
    have e : lastT xs = y.term := by rw [lastT, hy]
    exact .inr ⟨hn, b, off, rfl, by rw [e]; exact hc _ y hy 0 (by omega)⟩
  · refine .inl ⟨by omega, ?_⟩
    have : xs = [] := List.eq_nil_of_length_eq_zero (by omega)
    subst this; rfl
/-- What LogNewer answers. -/
def newerB (xs ys : List Rec) : Bool := logOk xs && (logOk ys && (decide (lastT ys < lastT xs) || (decide (lastT xs = lastT ys) && decide (ys.length ≤ xs.length))))

set_option maxHeartbeats 400000 in
theorem lastTerm_any {v : Value} {xs : List Rec} (w : World) (h : SlOf 2 encRec w v xs) (hlen : xs.length ≤ 2097152) :
    Calls Tryd.prog 40 #[v] w fun e w' => e = .returned (.int .i64 (lastT xs)) ∧ w = w' := by
  obtain ⟨A, c', rfl, _⟩ := id h
  rcases lastT_cases h with ⟨hn, hl⟩ | ⟨hn, b, off, rfl, hc⟩
  · have Hl := Lib.hid hl
    have hz : ((xs.length : Int) == 0) = true := by rw [beq_iff_eq]; omega
    clear h hl
    go_enter Tryd.func40, Tryd.ntmps40
    go_wp2
    go_returns
    exact ⟨ret_int Hl.out.symm, rfl⟩
  · have hz : ((xs.length : Int) == 0) = false := by rw [beq_eq_false_iff_ne]; omega
    clear h
    go_enter Tryd.func40, Tryd.ntmps40
    go_wp2
    go_returns
    exact ⟨rfl, rfl⟩
set_option maxHeartbeats 400000 in
theorem impl_LogNewer {u v : Value} {xs ys : List Rec} (w : World) (h : SlOf 2 encRec w u xs) (h' : SlOf 2 encRec w v ys) (hlen : xs.length ≤ 2097152) (hlen' : ys.length ≤ 2097152) :
    Calls Tryd.prog 11 #[u, v] w fun e w' => e = .returned (.bool (newerB xs ys)) ∧ Ext w w' := by
  obtain ⟨A, c, rfl, _⟩ := id h
  obtain ⟨A', c', rfl, _⟩ := id h'
  have H := Lib.hid h
  have H' := Lib.hid h'
  clear h h'
  by_cases h1 : logOk xs = true
  · by_cases h2 : logOk ys = true
    · have hf : Hid (newerB xs ys = (decide (lastT ys < lastT xs) || (decide (lastT xs = lastT ys) && decide (ys.length ≤ xs.length)))) := by show _ = _; simp [newerB, h1, h2]
      go_enter Tryd.func11, Tryd.ntmps11
      go_wp2_with fail
      refine (impl_LogValid _ H.out hlen).mono ?_
      rintro e w1 ⟨rfl, b1⟩
      go_wp2_with fail
      refine (impl_LogValid _ (H'.out.ext b1) hlen').mono ?_
      rintro e w2 ⟨rfl, b2⟩
      go_wp2_with fail
      refine (lastTerm_any _ (H.out.ext (b1.trans b2)) hlen).mono ?_
      rintro e w' ⟨rfl, rfl⟩
      go_wp2_with fail
      refine (lastTerm_any _ (H'.out.ext (b1.trans b2)) hlen').mono ?_
      rintro e w' ⟨rfl, rfl⟩
      generalize lastT xs = la at hf
      generalize lastT ys = lb at hf
      rcases Int.lt_trichotomy la lb with hlt | heq | hgt
      · have hne : (la != lb) = true := by rw [bne_iff_ne]; omega
        go_wp2
        go_returns
        exact ⟨ret_bool (by rw [hf.out]; simp; omega), b1.trans b2⟩
      · subst heq
        go_wp2
        go_returns
        exact ⟨ret_bool (by rw [hf.out]; simp), b1.trans b2⟩
      · have hne : (la != lb) = true := by rw [bne_iff_ne]; omega
        go_wp2
        go_returns
        exact ⟨ret_bool (by rw [hf.out]; simp [hgt]), b1.trans b2⟩
    · simp only [Bool.not_eq_true] at h2
      have hf : Hid (newerB xs ys = false) := by show _ = _; simp [newerB, h2]
      go_enter Tryd.func11, Tryd.ntmps11
      go_wp2_with fail
      refine (impl_LogValid _ H.out hlen).mono ?_
      rintro e w1 ⟨rfl, b1⟩
      go_wp2_with fail
      refine (impl_LogValid _ (H'.out.ext b1) hlen').mono ?_
      rintro e w2 ⟨rfl, b2⟩
      go_wp2
      go_returns
      exact ⟨ret_bool hf.out.symm, b1.trans b2⟩
  · simp only [Bool.not_eq_true] at h1
    have hf : Hid (newerB xs ys = false) := by show _ = _; simp [newerB, h1]
    go_enter Tryd.func11, Tryd.ntmps11
    go_wp2_with fail
    refine (impl_LogValid _ H.out hlen).mono ?_
    rintro e w1 ⟨rfl, b1⟩
    go_wp2
    go_returns
    exact ⟨ret_bool hf.out.symm, b1⟩
set_option maxHeartbeats 1000000 in
theorem spec_LogNewer {u v : Value} {xs ys : List Rec} (w : World) (h : SlOf 2 encRec w u xs) (h' : SlOf 2 encRec w v ys) (hlen : xs.length ≤ 2097152) (hlen' : ys.length ≤ 2097152) :
    Calls Tryd.prog 12 #[u, v] w fun e w' => e = .returned (.bool (newerB xs ys)) ∧ Ext w w' := by
  obtain ⟨A, c, rfl, _⟩ := id h
  obtain ⟨A', c', rfl, _⟩ := id h'
  have H := Lib.hid h
  have H' := Lib.hid h'
  clear h h'
  by_cases h1 : logOk xs = true
  · by_cases h2 : logOk ys = true
    · have hf : Hid (newerB xs ys = (decide (lastT ys < lastT xs) || (decide (lastT xs = lastT ys) && decide (ys.length ≤ xs.length)))) := by show _ = _; simp [newerB, h1, h2]
      go_enter Tryd.func12, Tryd.ntmps12
      go_wp2_with fail
      refine (spec_LogValid _ H.out hlen).mono ?_
      rintro e w1 ⟨rfl, b1⟩
      go_wp2_with fail
      refine (spec_LogValid _ (H'.out.ext b1) hlen').mono ?_
      rintro e w2 ⟨rfl, b2⟩
      rcases lastT_cases (H.out.ext (b1.trans b2)) with ⟨hn, hl⟩ | ⟨hn, b, off, rfl, hc⟩
      case' inl => rw [hl] at hf; clear hl
      all_goals
        rcases lastT_cases (H'.out.ext (b1.trans b2)) with ⟨hn', hl'⟩ | ⟨hn', b', off', rfl, hc'⟩
        case' inl => rw [hl'] at hf; clear hl'
        all_goals
          clear H H'
          first | (generalize lastT xs = la at hf hc) | skip
          first | (generalize lastT ys = lb at hf hc') | skip
      · go_wp2
        go_returns
        exact ⟨ret_bool (by rw [hf.out]; simp), b1.trans b2⟩
      · rcases Int.lt_trichotomy 0 lb with hlt | heq | hgt
        · have hne : ((0 : Int) == lb) = false := by rw [beq_eq_false_iff_ne]; omega
          go_wp2
          go_returns
          exact ⟨ret_bool (by rw [hf.out]; simp; omega), b1.trans b2⟩
        · subst heq
          go_wp2
          go_returns
          exact ⟨ret_bool (by rw [hf.out]; simp), b1.trans b2⟩
        · go_wp2
          go_returns
          exact ⟨ret_bool (by rw [hf.out]; simp [hgt]), b1.trans b2⟩
      · rcases Int.lt_trichotomy la 0 with hlt | heq | hgt
        · have hne : (la == (0 : Int)) = false := by rw [beq_eq_false_iff_ne]; omega
          go_wp2
          go_returns
          exact ⟨ret_bool (by rw [hf.out]; simp; omega), b1.trans b2⟩
        · subst heq
          go_wp2
          go_returns
          exact ⟨ret_bool (by rw [hf.out]; simp), b1.trans b2⟩
        · go_wp2
          go_returns
          exact ⟨ret_bool (by rw [hf.out]; simp [hgt]), b1.trans b2⟩
      · rcases Int.lt_trichotomy la lb with hlt | heq | hgt
        · have hne : (la == lb) = false := by rw [beq_eq_false_iff_ne]; omega
          go_wp2
          go_returns
          exact ⟨ret_bool (by rw [hf.out]; simp; omega), b1.trans b2⟩
        · subst heq
          go_wp2
          go_returns
          exact ⟨ret_bool (by rw [hf.out]; simp), b1.trans b2⟩
        · go_wp2
          go_returns
          exact ⟨ret_bool (by rw [hf.out]; simp [hgt]), b1.trans b2⟩
    · simp only [Bool.not_eq_true] at h2
      have hf : Hid (newerB xs ys = false) := by show _ = _; simp [newerB, h2]
      go_enter Tryd.func12, Tryd.ntmps12
      go_wp2_with fail
      refine (spec_LogValid _ H.out hlen).mono ?_
      rintro e w1 ⟨rfl, b1⟩
      go_wp2_with fail
      refine (spec_LogValid _ (H'.out.ext b1) hlen').mono ?_
      rintro e w2 ⟨rfl, b2⟩
      go_wp2
      go_returns
      exact ⟨ret_bool hf.out.symm, b1.trans b2⟩
  · simp only [Bool.not_eq_true] at h1
    have hf : Hid (newerB xs ys = false) := by show _ = _; simp [newerB, h1]
    go_enter Tryd.func12, Tryd.ntmps12
    go_wp2_with fail
    refine (spec_LogValid _ H.out hlen).mono ?_
    rintro e w1 ⟨rfl, b1⟩
    go_wp2
    go_returns
    exact ⟨ret_bool hf.out.symm, b1⟩
end Go.Proofs.YtpkjgeidndbbbaaDoor
