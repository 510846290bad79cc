/- A log after records were sent: LogAppend, of the reference. -/
import Derived.Test.YtiakkgpkkpaldaaDoorLog
import Derived.Test.YtiakkgpkkpaldaaDoorClone
import Derived.Test.YtiakkgpkkpaldaaDoorYApp
import Derived.Test.YtiakkgpkkpaldaaDoorTypedC
import Derived.Test.YtiakkgpkkpaldaaDoorCut
namespace Go.Proofs.YtiakkgpkkpaldaaDoor
open Go.RowKit
set_option maxRecDepth 8000

/-- The log behind k records that were sent from place p on. -/
def outTo (p : Nat) (xs more : List Rec) : Nat → List Rec
  | 0 => xs
  | k + 1 => match more[k]? with
    | some r => match (outTo p xs more k)[p + k]? with
      | some x => if x.term = r.term then outTo p xs more k else (outTo p xs more k).take (p + k) ++ [r]
      | none => (outTo p xs more k).take (p + k) ++ [r]
    | none => outTo p xs more k
theorem outTo_same {p k : Nat} {xs more : List Rec} {r x : Rec} (hr : more[k]? = some r) (hx : (outTo p xs more k)[p + k]? = some x) (h : x.term = r.term) : outTo p xs more (k + 1) = outTo p xs more k := by
  rw [outTo, hr]; simp only; rw [hx]; simp only; rw [if_pos h]
theorem outTo_new {p k : Nat} {xs more : List Rec} {r : Rec} (hr : more[k]? = some r) (h : ∀ x, (outTo p xs more k)[p + k]? = some x → x.term ≠ r.term) : outTo p xs more (k + 1) = (outTo p xs more k).take (p + k) ++ [r] := by
  rw [outTo, hr]; simp only
  cases hx : (outTo p xs more k)[p + k]? with
  | none => rfl
  | some x => simp only; rw [if_neg (h x hx)]
theorem outTo_bounds {p : Nat} {xs more : List Rec} (hp : p ≤ xs.length) {k : Nat} (hk : k ≤ more.length) : p + k ≤ (outTo p xs more k).length ∧ (outTo p xs more k).length ≤ xs.length + k := by
  induction k with
  | zero => exact ⟨hp, Nat.le_refl _⟩
  | succ k ih =>
    have ih := ih (by omega)
    obtain ⟨r, hr⟩ := at_some (show k < more.length by omega)
    by_cases h : ∃ x, (outTo p xs more k)[p + k]? = some x ∧ x.term = r.term
    · obtain ⟨x, hx, he⟩ := h
      rw [outTo_same hr hx he]
      have := (List.getElem?_eq_some_iff.1 hx).1
      omega
    · rw [outTo_new hr (fun x hx he => h ⟨x, hx, he⟩)]
      rw [List.length_append, List.length_take, List.length_singleton]
      omega
/-- Whether the log has the record ahead of the place. -/
def headOk (xs : List Rec) (p term : Int) : Bool := inB p 0 xs.length && (decide (p ≤ 0) || match xs[p.toNat - 1]? with | some y => y.term == term | none => false)
/-- What LogAppend returns. -/
def appendL (xs : List Rec) (p term : Int) (more : List Rec) : List Rec × Bool :=
  if logOk xs = true then
    if headOk xs p term = true then
      if logOk (outTo p.toNat xs more more.length) = true then (outTo p.toNat xs more more.length, true) else (xs, false)
    else (xs, false)
  else ([], false)
theorem appendL_len (xs : List Rec) (p term : Int) (more : List Rec) (h : xs.length ≤ 1048576) : (appendL xs p term more).1.length ≤ 2097152 := by
  unfold appendL
  split
  · split
    · split
      · rename_i h3
        have := (allGood_true.1 h3).2
        simp only
        omega
      · simp only; omega
    · simp only; omega
  · simp
theorem Row.take {α : Type} {e : TypeId} {m : Nat} {enc : α → Nat → Value} {base : Nat} {w : World} {A : Option Addr} {n c : Nat} {xs : List α} (h : Row e m enc base w (.slice A n c) xs) (p : Nat) (hp : p ≤ xs.length) : Row e m enc base w (.slice A p c) (xs.take p) := by
  have hl : (xs.take p).length = p := by rw [List.length_take]; omega
  refine ⟨cells_length _, ?_⟩
  rcases h.2 with ⟨hv, hn⟩ | ⟨g, cap, cur, hv, h1, h2, h3, h4, h5, h6⟩
  · injection hv with e1 e2 e3
    subst e1 e2 e3
    left
    have : p = 0 := by omega
    subst this
    exact ⟨rfl, by simp⟩
  · injection hv with e1 e2 e3
    subst e1 e2 e3
    right
    refine ⟨g, c, cur, by rw [hl], h1, h2, by omega, h4, h5, ?_⟩
    have hcs : (xs.take p).flatMap (cellsOf_ m enc) = (xs.flatMap (cellsOf_ m enc)).take (p * m) := by
      have h7 : xs.flatMap (cellsOf_ m enc) = (xs.take p).flatMap (cellsOf_ m enc) ++ (xs.drop p).flatMap (cellsOf_ m enc) := by
        rw [← List.flatMap_append, List.take_append_drop]
      have h8 : ((xs.take p).flatMap (cellsOf_ m enc) ++ (xs.drop p).flatMap (cellsOf_ m enc)).take (p * m) = (xs.take p).flatMap (cellsOf_ m enc) := by
        rw [List.take_append_of_le_length (by rw [cells_length, hl]; exact Nat.le_refl _), List.take_of_length_le (by rw [cells_length, hl]; exact Nat.le_refl _)]
      exact h8.symm.trans (congrArg (List.take (p * m)) h7.symm)
    rw [hcs, ← h6, List.take_take, hl]
    congr 1
    exact (Nat.min_eq_left (Nat.mul_le_mul_right m hp)).symm
theorem sl_rec (w : World) (t v : Int) (T : TypeId) : SlOf 2 encRec (w.alloc (.cells #[.int .i64 t, .int .i64 v] T)) (.slice (some ⟨w.heap.size, 0, none⟩) 1 1) [⟨t, v⟩] :=
  ⟨_, _, rfl, fun _ => ⟨_, _, rfl, by simp, fun i x hx j hj => by
    obtain ⟨hi, rfl⟩ := List.getElem?_eq_some_iff.1 hx
    obtain rfl : i = 0 := by simpa using hi
    match j, hj with
    | 0, _ => exact (cell_of_row _ _ _ _ T (0, 0) (heap_alloc_new w _)).trans rfl
    | 1, _ => exact (cell_of_row _ _ _ _ T (0, 0) (heap_alloc_new w _)).trans rfl⟩⟩
/-- 'v[:p]' of a row. -/
theorem cut_row {P : Program} {t e : TypeId} {m b : Nat} {z : Value} {α : Type} {enc : α → Nat → Value} {base : Nat} {w : World} {A : Option Addr} {n c : Nat} {xs : List α} (ht : P.underlying t = some (.slice e)) (hinfo : (P.info? e).map (fun i => (i.zero, i.size, i.bytes)) = some (some z, m, b))
    (h : Row e m enc base w (.slice A n c) xs) (p : Nat) (hp : p ≤ xs.length) (hc : xs.length ≤ c) : ∃ V1 A1, (∀ W, (Instr.slice t (.slice A n c) none (some (.int .i64 (p : Int))) none).run P W = .ok V1 W) ∧ Row e m enc base w V1 (xs.take p) ∧ V1 = .slice A1 p c := by
  have hA : (if c = 0 then A else A.map (·.add (0 * m))) = A := by
    split
    · rfl
    · cases A with
      | none => rfl
      | some ad => simp [Addr.add]
  refine ⟨.slice A p c, A, fun W => ?_, h.take p hp, rfl⟩
  have := run_cut_high (P := P) (A := A) (n := n) (c := c) ht hinfo p (by omega) W
  rw [hA, Nat.sub_zero, Nat.sub_zero] at this
  exact this
set_option maxHeartbeats 8000000 in
theorem spec_LogAppend {v u : Value} {xs more : List Rec} (p term : Int) (w : World) (h : SlOf 2 encRec w v xs) (hm : SlOf 2 encRec w u more) (hlen : xs.length ≤ 2097152) (hml : more.length ≤ 1048576) :
    Calls Tryd.prog 29 #[v, .int .i64 p, .int .i64 term, u] w (RetOf2 2 encRec w (appendL xs p term more)) := by
  have H := Lib.hid h
  have HM := Lib.hid hm
  obtain ⟨A, c, rfl, hc0⟩ := id h
  obtain ⟨Am, cm, rfl, hcm0⟩ := id hm
  have HC := Lib.hid hc0
  have HCM := Lib.hid hcm0
  clear h hc0 hm hcm0
  by_cases hv : logOk xs = true
  case neg =>
    have hf : Hid (appendL xs p term more = ([], false)) := by show _ = _; rw [appendL, if_neg hv]
    rw [hf.out]
    simp only [Bool.not_eq_true] at hv
    go_enter Tryd.func29, Tryd.ntmps29
    go_wp2_with fail
    refine (spec_LogValid _ H.out hlen).mono ?_
    rw [hv]
    rintro e w1 ⟨rfl, b1⟩
    have hrow : Row 57 2 encRec w1.heap.size (w1.alloc (.cells #[] 57)) (.slice (some ⟨w1.heap.size, 0, none⟩) 0 0) ([] : List Rec) := World.ownsRow_made w1 #[] 0 (Nat.le_refl _) (by simp [maxLen]) (by simp)
    have Hc := Lib.hid hrow.cell
    clear hrow
    go_wp2
    go_returns
    exact ⟨_, rfl, Hc.out.1, Hc.out.2.mono b1.size, b1.alloc _⟩
  have hl12 : xs.length ≤ 12 := (allGood_true.1 hv).2
  have HV := Lib.hid hv
  obtain ⟨R, hRR⟩ : ∃ R, appendL xs p term more = R := ⟨_, rfl⟩
  rw [hRR]
  have hRR' : (if headOk xs p term = true then if logOk (outTo p.toNat xs more more.length) = true then (outTo p.toNat xs more more.length, true) else (xs, false) else (xs, false)) = R := by rw [← hRR, appendL, if_pos hv]
  have HR := Lib.hid hRR'
  clear hRR hRR' hv
  have hcat : ∀ W, Ext w W → ∃ v' w', (Builtin.append_ #[50, 50] 50 #[.slice (some ⟨W.heap.size, 0, none⟩) 0 0, .slice A xs.length c]).run Tryd.prog (W.alloc (.cells #[] 57)) = .ok v' w' ∧ Row 57 2 encRec W.heap.size w' v' xs ∧ Ext W w' := fun W hW => by
    have hrowN : Row 57 2 encRec W.heap.size (W.alloc (.cells #[] 57)) (.slice (some ⟨W.heap.size, 0, none⟩) 0 0) ([] : List Rec) := World.ownsRow_made W #[] 0 (Nat.le_refl _) (by simp [maxLen]) (by simp)
    obtain ⟨v', w', hrun, hrow', hgrow⟩ := run_cat (P := Tryd.prog) (t := 50) (ty := 50) (e := 57) Tryd.underlying50 cinfo_Rec rfl (by omega) hrowN ((H.out.ext hW).ext ((Ext.refl W).alloc _)) (fun x _ j => one_Rec x j) (by simp; omega) (by omega) (by simp)
    rw [List.nil_append] at hrow'
    exact ⟨v', w', hrun, hrow', Ext.grown ((Ext.refl W).alloc _) hgrow hrowN.block⟩
  have HCAT := Lib.hid hcat
  clear hcat
  go_enter Tryd.func29, Tryd.ntmps29
  go_wp2_with fail
  refine (spec_LogValid _ H.out hlen).mono ?_
  rw [HV.out]
  rintro e w1 ⟨rfl, b1⟩
  obtain ⟨v2, w2, hrun2, hrow2, b2⟩ := HCAT.out w1 b1
  have HRUN2 := Lib.hid hrun2
  have HROW2 := Lib.hid (Row.low hrow2 b1.size)
  have b12 := b1.trans b2
  clear hrun2 hrow2 b1 b2
  by_cases hin : inB p 0 xs.length = true
  case neg =>
    obtain rfl : (xs, false) = R := by rw [← HR.out, if_neg]; intro h; unfold headOk at h; rw [Bool.and_eq_true] at h; exact hin h.1
    simp only [Bool.not_eq_true] at hin
    go_wp2_with (first | (at_builtin; refine wpList_append_run rfl rfl rfl rfl HRUN2.out ?_) | (go_at_call 37; refine (l1In_any _ _ _ _).mono ?_; rintro e w' ⟨rfl, rfl⟩))
    go_returns
    exact ⟨_, rfl, HROW2.out.cell.1, HROW2.out.cell.2, b12⟩
  have hin' := inB_true.1 hin
  obtain ⟨q, rfl⟩ := Int.eq_ofNat_of_zero_le hin'.1
  have hq : q ≤ xs.length := by omega
  have hhead : (q = 0 ∧ headOk xs (q : Int) term = true) ∨ (0 < q ∧ ∃ y, xs[q - 1]? = some y ∧ headOk xs (q : Int) term = (y.term == term)) := by
    unfold headOk
    rw [hin, Bool.true_and]
    by_cases h0 : q = 0
    · left; refine ⟨h0, ?_⟩; subst h0; simp
    · right
      obtain ⟨y, hy⟩ := at_some (show q - 1 < xs.length by omega)
      refine ⟨by omega, y, hy, ?_⟩
      rw [Int.toNat_natCast, hy, decide_eq_false (by omega), Bool.false_or]
  by_cases hho : headOk xs (q : Int) term = true
  case neg =>
    obtain rfl : (xs, false) = R := by rw [← HR.out, if_neg hho]
    rcases hhead with ⟨_, h⟩ | ⟨hq0, y, hy, h⟩
    · exact absurd h hho
    · rw [h] at hho
      simp only [Bool.not_eq_true] at hho
      obtain ⟨b, off, rfl, hbl, hcell⟩ := HC.out (by omega)
      have c0 := b12.cell (hcell (q - 1) y hy 0 (by omega))
      simp only [encRec, Nat.add_zero] at c0
      have hne : (y.term != term) = true := by rw [bne, hho]; rfl
      have i1 : (0 : Int) < (q : Int) := by omega
      obtain ⟨q', rfl⟩ : ∃ q', q = q' + 1 := ⟨q - 1, by omega⟩
      rw [Nat.add_sub_cancel] at c0 hy
      have hqi : (((q' + 1 : Nat) : Int) - 1) = (q' : Int) := by omega
      clear h hcell hho hy
      go_wp2_with (first | (at_builtin; refine wpList_append_run rfl rfl rfl rfl HRUN2.out ?_) | (go_at_call 37; refine (l1In_any _ _ _ _).mono ?_; rintro e w' ⟨rfl, rfl⟩))
      go_returns
      exact ⟨_, rfl, HROW2.out.cell.1, HROW2.out.cell.2, b12⟩
  have hneF : ∀ y, 0 < q → xs[q - 1]? = some y → (y.term != term) = false := fun y hq0 hy => by
    rcases hhead with ⟨h0, _⟩ | ⟨_, y', hy', h⟩
    · omega
    · rw [hy'] at hy; cases hy; rw [hho] at h; rw [bne, ← h]; rfl
  obtain ⟨v3, w3, hrun3, hrow3, b3⟩ := HCAT.out w2 b12
  have HRUN3 := Lib.hid hrun3
  have HROW3 := Lib.hid hrow3
  have HX3 := Lib.hid b3
  have HR2 : Hid ((if logOk (outTo q xs more more.length) = true then (outTo q xs more more.length, true) else (xs, false)) = R) := by
    show _ = _
    rw [← HR.out, if_pos hho]
    rfl
  have HLEN := Lib.hid (fun k (hk : k ≤ more.length) => outTo_bounds (xs := xs) (more := more) hq hk)
  clear hrun3 hrow3 b3 hhead hho HR HCAT
  have hinA : inB (q : Int) 0 (xs.length : Int) = true := hin
  clear hin
  have i0 : (0 : Int) ≤ (q : Int) := by omega
  by_cases hq0 : 0 < q
  case' pos =>
    obtain ⟨y, hy⟩ := at_some (show q - 1 < xs.length by omega)
    have hne := hneF y hq0 hy
    obtain ⟨b, off, hAe, hbl, hcell⟩ := HC.out (by omega)
    subst hAe
    have c0 := b12.cell (hcell (q - 1) y hy 0 (by omega))
    simp only [encRec, Nat.add_zero] at c0
    have i1 : decide ((0 : Int) < (q : Int)) = true := by simp; omega
    obtain ⟨q', hq'⟩ : ∃ q', q - 1 = q' := ⟨_, rfl⟩
    rw [hq'] at c0
    have hqi : (q : Int) - 1 = (q' : Int) := by omega
    have hq'l : q' < xs.length := by omega
    clear hcell hy hneF hq'
  case' neg =>
    have i1 : decide ((0 : Int) < (q : Int)) = false := by simp; omega
    clear hneF
  all_goals
    go_wp2_with (at_builtin; refine wpList_append_run rfl rfl rfl rfl HRUN2.out ?_)
    refine (l1In_any _ _ _ _).mono ?_
    rw [hinA]
    rintro e w' ⟨rfl, rfl⟩
    clear HRUN2 hinA
    go_wp2_with (at_builtin; refine wpList_append_run rfl rfl rfl rfl HRUN3.out ?_)
    clear HRUN3
    try clear hne c0 hqi hq'l
    clear i1 hq0
    go_loopw [11, 12] (fun o i wr => Ext w2 wr ∧ ∃ k : Nat, k ≤ more.length ∧ i = .int .i64 k ∧ Hid (Row 57 2 encRec w2.heap.size wr o (outTo q xs more k))) (fun _ i _ => more.length - (intOf i).toNat)
    case atStart => exact ⟨HX3.out, 0, Nat.zero_le _, rfl, HROW3.out⟩
    case round =>
      clear HROW3 HX3
      obtain ⟨hb, k, hk, rfl, HI⟩ := hrel
      have hbo := HLEN.out k hk
      have HNX : Hid (∀ r, more[k]? = some r → (∀ x, (outTo q xs more k)[q + k]? = some x → x.term = r.term → outTo q xs more (k + 1) = outTo q xs more k) ∧ ((∀ x, (outTo q xs more k)[q + k]? = some x → x.term ≠ r.term) → outTo q xs more (k + 1) = (outTo q xs more k).take (q + k) ++ [r])) := fun r hr => ⟨fun x hx he => outTo_same hr hx he, fun h => outTo_new hr h⟩
      by_cases hlt : k < more.length
      · obtain ⟨O, hO⟩ : ∃ O, outTo q xs more k = O := ⟨_, rfl⟩
        have HI1 := HI.out
        have HNX1 := HNX.out
        rw [hO] at HI1 HNX1 hbo
        obtain ⟨s, hs⟩ : ∃ s, q + k = s := ⟨_, rfl⟩
        rw [hs] at HNX1 hbo
        have hsi : (q : Int) + (k : Int) = (s : Int) := by omega
        obtain ⟨r, hr⟩ := at_some hlt
        have hN := HNX1 r hr
        obtain ⟨bm, offm, hAm, hblm, hcellm⟩ := HCM.out (by omega)
        subst hAm
        have HMW := Lib.hid (And.intro (b12.cell (hcellm k r hr 0 (by omega))) (b12.cell (hcellm k r hr 1 (by omega))))
        have m0 := hb.cell (b12.cell (hcellm k r hr 0 (by omega)))
        have m1 := hb.cell (b12.cell (hcellm k r hr 1 (by omega)))
        simp only [encRec, Nat.add_zero] at m0 m1
        obtain ⟨Ao, co, hoe, hoc⟩ := id HI1.cell.1
        subst hoe
        have hcap := (HI1.cap _ _ _ rfl)
        have HROWO := Lib.hid HI1
        obtain ⟨V1, A1, hV1, hR1, hV1e⟩ := cut_row Tryd.underlying50 cinfo_Rec HI1 s (by omega) hcap.1
        have HV1 := Lib.hid hV1
        have HR1 := Lib.hid hR1
        have HV1E := Lib.hid hV1e
        obtain ⟨V, hV⟩ : ∃ V, Value.slice Ao O.length co = V := ⟨_, rfl⟩
        have HVE := Lib.hid hV
        clear hV1 hR1 hV1e hV
        have HMC := Lib.hid (And.intro m0 m1)
        have e0 := over_cell m0
        have s0 : (0 : Int) ≤ (s : Int) := by omega
        have HNN := Lib.hid hN
        have HSI := Lib.hid hsi
        have Hr := Lib.hid hr
        have hwrap : IntKind.i64.wrap ((q : Int) + (k : Int)) = (s : Int) := by rw [hsi]; exact IntWalk.i64_in _ (by omega)
        clear HI1 HNX1 HNX HI hO hs hN hcellm m0 m1 hr
        have hcase : (∃ x, O[s]? = some x ∧ x.term = r.term) ∨ (∃ x, O[s]? = some x ∧ x.term ≠ r.term) ∨ O[s]? = none := by
          cases hx : O[s]? with
          | none => exact .inr (.inr rfl)
          | some x =>
            by_cases he : x.term = r.term
            · exact .inl ⟨x, rfl, he⟩
            · exact .inr (.inl ⟨x, rfl, he⟩)
        rcases hcase with ⟨x, hx, he⟩ | hcase
        · have hsl : s < O.length := (List.getElem?_eq_some_iff.1 hx).1
          have hd : decide (s < O.length) = true := by simpa using hsl
          obtain ⟨bo, offo, hAo, _, hco⟩ := hoc (by omega)
          subst hAo
          have f0 := over_cell (hco s x hx 0 (by omega))
          simp only [encRec, Nat.add_zero] at f0
          have hg : (x.term == r.term) = true := by simp [he]
          have HNXT := Lib.hid (HNN.out.1 x hx he)
          clear hx he hoc hco
          go_wp2
          refine wp_region_over (by kernel_rfl) (by kernel_rfl) ?_
          repeat (go_big_quiet_step (fail))
          refine wpQuiet_nil ?_
          intro w5 hb5
          go_wp2
          go_roundw
          case rel => exact ⟨hb.trans hb5, k + 1, by omega, by go_num, by rw [HNXT.out]; exact HROWO.out.ext hb5⟩
          case measure => simp [intOf]; omega
        have HNXT : Hid (outTo q xs more (k + 1) = O.take s ++ [r]) := HNN.out.2 fun y hy => by
          rcases hcase with ⟨x, hx, he⟩ | hx
          · rw [hx] at hy; cases hy; exact he
          · rw [hx] at hy; cases hy
        clear HNN
        rcases hcase with ⟨x, hx, he⟩ | hx
        case' inl =>
          have hsl : s < O.length := (List.getElem?_eq_some_iff.1 hx).1
          have hd : decide (s < O.length) = true := by simpa using hsl
          obtain ⟨bo, offo, hAo, _, hco⟩ := hoc (by omega)
          subst hAo
          have f0 := over_cell (hco s x hx 0 (by omega))
          simp only [encRec, Nat.add_zero] at f0
          have hg : (x.term == r.term) = false := by simp [he]
          clear hx he hoc hco
        case' inr =>
          have hsl : ¬ s < O.length := by have := List.getElem?_eq_none_iff.1 hx; omega
          have hd : decide (s < O.length) = false := by simpa using hsl
          clear hx hoc hsl
        all_goals
          go_wp2
          refine wp_region_over (by kernel_rfl) (by kernel_rfl) ?_
          repeat (go_big_quiet_step (fail))
          refine wpQuiet_nil ?_
          intro w5 hb5
          go_wp2
          have HR5 := Lib.hid (HR1.out.ext hb5)
          have hw5 := hb.trans hb5
          have HM2 := Lib.hid HMW.out
          refine wp_region_typedC [70, 71, 72, 73, 74, 75, 76, 77, 78, 79, 80, 11] (by kernel_rfl) (by kernel_rfl) (by kernel_rfl) (fun L W => Ext w2 W ∧ (L.getD 10 true = false → Ext w5 W))
            (fun i L u W => match i with
              | 0 => u = V
              | 1 => u = .int .i64 (q : Int)
              | 2 => u = .int .i64 (k : Int)
              | 3 => u = .int .i64 (s : Int)
              | 4 => u = V1
              | 5 => u = .slice (some ⟨bm, offm, none⟩) more.length cm
              | 6 => u = .int .i64 (k : Int)
              | 7 => u = .pointer (some ⟨bm, offm + k * 2, none⟩)
              | 8 => u = .agg #[.int .i64 r.term, .int .i64 r.value]
              | 9 => L.getD 10 true = false → SlOf 2 encRec W u [r]
              | 10 => Row 57 2 encRec w2.heap.size W u (O.take s ++ [r])
              | 11 => Row 57 2 encRec w2.heap.size W u (O.take s ++ [r])
              | _ => True)
            (fun i W W' => i ≠ 10 → Ext W W') ⟨hw5.drew, fun _ => (Ext.refl _).drew⟩ ?_ ?_ ?_
          · intro i j L u W W' hij hi hsz hLi hdl hdn hLj hS hT
            have hself : (L.setIfInBounds i true).getD i true = true := getD_set_self true (by simpa [hsz] using hi)
            have hne : ∀ q, q ≠ i → (L.setIfInBounds i true).getD q true = L.getD q true := fun q hq => getD_set_ne true (fun e => hq e.symm)
            have d10 : L.getD 11 true = true → L.getD 10 true = true := fun h => hdn 11 _ rfl h { on := 10, ground := .data } (by simp) rfl
            by_cases e10 : i = 10
            · subst e10
              match j, hij, hLj, hT with
              | 0, _, _, hT => exact hT
              | 1, _, _, hT => exact hT
              | 2, _, _, hT => exact hT
              | 3, _, _, hT => exact hT
              | 4, _, _, hT => exact hT
              | 5, _, _, hT => exact hT
              | 6, _, _, hT => exact hT
              | 7, _, _, hT => exact hT
              | 8, _, _, hT => exact hT
              | 9, _, _, _ => exact fun hL => by rw [hself] at hL; cases hL
              | 10, hij, _, _ => exact absurd rfl hij
              | 11, _, hLj, _ => rw [d10 hLj] at hLi; cases hLi
              | _ + 12, _, _, _ => trivial
            have hx := hS e10
            have n10 := hne 10 (fun e => e10 e.symm)
            match j, hT with
            | 0, hT => exact hT
            | 1, hT => exact hT
            | 2, hT => exact hT
            | 3, hT => exact hT
            | 4, hT => exact hT
            | 5, hT => exact hT
            | 6, hT => exact hT
            | 7, hT => exact hT
            | 8, hT => exact hT
            | 9, hT => exact fun hL => (hT (by rw [← n10]; exact hL)).ext hx
            | 10, hT => exact hT.ext hx
            | 11, hT => exact hT.ext hx
            | _ + 12, _ => trivial
          · have hstep : ∀ (i : Nat) (L : Array Bool) (W W' : World), i ≠ 10 → (Ext w2 W ∧ (L.getD 10 true = false → Ext w5 W)) → Ext W W' → (Ext w2 W' ∧ ((L.setIfInBounds i true).getD 10 true = false → Ext w5 W')) := fun i L W W' hi h hx => ⟨h.1.trans hx, fun hL => (h.2 (by rw [getD_set_ne true hi] at hL; exact hL)).trans hx⟩
            intro i o ho a n' W L hn hsz hLi hdl hdn hR hrest hdeps hkeep
            match i, ho with
            | 0, ho =>
              obtain rfl := Option.some.inj ho
              have hk11 := hkeep 11 (fun j oj hoj hd => by
                obtain rfl := dst_ne _ j 11 oj _ 11 (by decide) hoj rfl hd rfl
                cases h11 : L.getD 11 true with
                | false => rfl
                | true =>
                  have h10 := hdn 11 _ rfl h11 { on := 10, ground := .data } (by simp) rfl
                  have h4 := hdn 10 _ rfl h10 { on := 4, ground := .data } (by simp) rfl
                  have h0 := hdn 4 _ rfl h4 { on := 0, ground := .data } (by simp) rfl
                  simp only at h0
                  rw [hLi] at h0
                  cases h0)
              exact y_move rfl ⟨fun _ => hk11.trans HVE.out, (fun h => by cases h), hstep _ _ _ _ (by omega) hR (Ext.refl _), fun _ => Ext.refl _⟩
            | 1, ho =>
              obtain rfl := Option.some.inj ho
              exact y_move rfl ⟨fun _ => hrest 1 (by decide), (fun h => by cases h), hstep _ _ _ _ (by omega) hR (Ext.refl _), fun _ => Ext.refl _⟩
            | 2, ho =>
              obtain rfl := Option.some.inj ho
              exact y_move rfl ⟨fun _ => hrest 12 (by decide), (fun h => by cases h), hstep _ _ _ _ (by omega) hR (Ext.refl _), fun _ => Ext.refl _⟩
            | 3, ho =>
              obtain rfl := Option.some.inj ho
              have e1 : a.tmps.getD 71 undef = .int .i64 (q : Int) := hdeps 1 _ 71 ⟨{ on := 1, ground := .data }, by simp, rfl, rfl⟩ rfl rfl
              have e2 : a.tmps.getD 72 undef = .int .i64 (k : Int) := hdeps 2 _ 72 ⟨{ on := 2, ground := .data }, by simp, rfl, rfl⟩ rfl rfl
              exact y_add rfl e1 e2 (by omega) (by omega) ⟨fun _ => by show Value.int .i64 _ = _; rw [HSI.out], (fun h => by cases h), hstep _ _ _ _ (by omega) hR (Ext.refl _), fun _ => Ext.refl _⟩
            | 4, ho =>
              obtain rfl := Option.some.inj ho
              have e1 : a.tmps.getD 70 undef = V := hdeps 0 _ 70 ⟨{ on := 0, ground := .data }, by simp, rfl, rfl⟩ rfl rfl
              have e2 : a.tmps.getD 73 undef = .int .i64 (s : Int) := hdeps 3 _ 73 ⟨{ on := 3, ground := .data }, by simp, rfl, rfl⟩ rfl rfl
              exact y_slice Tryd.underlying50 rfl (e1.trans HVE.out.symm) (by simp only [Option.map_some, Option.map_none, Act.eval, e2]; exact HV1.out W) ⟨fun _ => rfl, (fun h => by cases h), hstep _ _ _ _ (by omega) hR (Ext.refl _), fun _ => Ext.refl _⟩
            | 5, ho =>
              obtain rfl := Option.some.inj ho
              exact y_move rfl ⟨fun _ => hrest 3 (by decide), (fun h => by cases h), hstep _ _ _ _ (by omega) hR (Ext.refl _), fun _ => Ext.refl _⟩
            | 6, ho =>
              obtain rfl := Option.some.inj ho
              exact y_move rfl ⟨fun _ => hrest 12 (by decide), (fun h => by cases h), hstep _ _ _ _ (by omega) hR (Ext.refl _), fun _ => Ext.refl _⟩
            | 7, ho =>
              obtain rfl := Option.some.inj ho
              have e1 : a.tmps.getD 75 undef = .slice (some ⟨bm, offm, none⟩) more.length cm := hdeps 5 _ 75 ⟨{ on := 5, ground := .data }, by simp, rfl, rfl⟩ rfl rfl
              have e2 : a.tmps.getD 76 undef = .int .i64 (k : Int) := hdeps 6 _ 76 ⟨{ on := 6, ground := .data }, by simp, rfl, rfl⟩ rfl rfl
              refine y_run (v := .pointer (some ⟨bm, offm + k * 2, none⟩)) (w' := W) ?_ ⟨fun _ => rfl, (fun h => by cases h), hstep _ _ _ _ (by omega) hR (Ext.refl _), fun _ => Ext.refl _⟩
              simp only [execOp, Act.eval, e1, e2]
              go_simp
            | 8, ho =>
              obtain rfl := Option.some.inj ho
              have e1 : a.tmps.getD 77 undef = .pointer (some ⟨bm, offm + k * 2, none⟩) := hdeps 7 _ 77 ⟨{ on := 7, ground := .data }, by simp, rfl, rfl⟩ rfl rfl
              have m0 := hR.1.cell HM2.out.1
              have m1 := hR.1.cell HM2.out.2
              simp only [encRec, Nat.add_zero] at m0 m1
              refine y_run (v := .agg #[.int .i64 r.term, .int .i64 r.value]) (w' := W) ?_ ⟨fun _ => rfl, (fun h => by cases h), hstep _ _ _ _ (by omega) hR (Ext.refl _), fun _ => Ext.refl _⟩
              simp only [execOp, Act.eval, e1]
              go_simp
            | 9, ho =>
              obtain rfl := Option.some.inj ho
              have q2 : a.tmps.getD 78 undef = .agg #[.int .i64 r.term, .int .i64 r.value] := hdeps 8 _ 78 ⟨{ on := 8, ground := .data }, by simp, rfl, rfl⟩ rfl rfl
              refine y_run (v := .slice (some ⟨W.heap.size, 0, none⟩) 1 1) (w' := W.alloc (.cells #[.int .i64 r.term, .int .i64 r.value] 57)) ?_ ⟨fun _ _ => sl_rec _ _ _ _, (fun h => by cases h), hstep _ _ _ _ (by omega) hR ((Ext.refl _).alloc _), fun _ => (Ext.refl _).alloc _⟩
              simp only [Array.getD_eq_getD_getElem?] at q2
              go_simp
            | 10, ho =>
              obtain rfl := Option.some.inj ho
              have e1 : a.tmps.getD 74 undef = V1 := hdeps 4 _ 74 ⟨{ on := 4, ground := .data }, by simp, rfl, rfl⟩ rfl rfl
              have q3 := hdeps 9 _ 79 ⟨{ on := 9, ground := .data }, by simp, rfl, rfl⟩ rfl rfl hLi
              obtain ⟨A', c', hA', _⟩ := id q3
              rw [hA'] at q3
              have hrowV := HR5.out.ext (hR.2 hLi)
              obtain ⟨v', W', hrun, hrow', hgrow⟩ := run_cat (P := Tryd.prog) (t := 50) (ty := 50) (e := 57) Tryd.underlying50 cinfo_Rec rfl (by omega) hrowV q3 (fun x _ j => one_Rec x j) (by simp; omega) (by omega) hR.1.size
              exact y_append rfl e1 hA' ⟨v', W', hrun, fun _ => hrow', (fun h => by cases h), ⟨Ext.grown hR.1 hgrow hrowV.block, fun hL => by rw [getD_set_self true (by simp [hsz])] at hL; cases hL⟩, fun hne => absurd rfl hne⟩
            | 11, ho =>
              obtain rfl := Option.some.inj ho
              have q1 := hdeps 10 _ 80 ⟨{ on := 10, ground := .data }, by simp, rfl, rfl⟩ rfl rfl
              exact y_assign rfl ⟨fun _ => q1, (fun h => by cases h), hstep _ _ _ _ (by omega) hR (Ext.refl _), fun _ => Ext.refl _⟩
            | _ + 12, ho => cases ho
          · intro a W hR hsz hdf hrest htyp hbare
            obtain ⟨x70, e70⟩ : ∃ x, a.tmps.getD 70 undef = x := ⟨_, rfl⟩
            obtain ⟨x71, e71⟩ : ∃ x, a.tmps.getD 71 undef = x := ⟨_, rfl⟩
            obtain ⟨x72, e72⟩ : ∃ x, a.tmps.getD 72 undef = x := ⟨_, rfl⟩
            obtain ⟨x73, e73⟩ : ∃ x, a.tmps.getD 73 undef = x := ⟨_, rfl⟩
            obtain ⟨x74, e74⟩ : ∃ x, a.tmps.getD 74 undef = x := ⟨_, rfl⟩
            obtain ⟨x75, e75⟩ : ∃ x, a.tmps.getD 75 undef = x := ⟨_, rfl⟩
            obtain ⟨x76, e76⟩ : ∃ x, a.tmps.getD 76 undef = x := ⟨_, rfl⟩
            obtain ⟨x77, e77⟩ : ∃ x, a.tmps.getD 77 undef = x := ⟨_, rfl⟩
            obtain ⟨x78, e78⟩ : ∃ x, a.tmps.getD 78 undef = x := ⟨_, rfl⟩
            obtain ⟨x79, e79⟩ : ∃ x, a.tmps.getD 79 undef = x := ⟨_, rfl⟩
            obtain ⟨x80, e80⟩ : ∃ x, a.tmps.getD 80 undef = x := ⟨_, rfl⟩
            obtain ⟨x11, e11⟩ : ∃ x, a.tmps.getD 11 undef = x := ⟨_, rfl⟩
            have hrow := htyp 11 _ 11 rfl rfl
            rw [e11] at hrow
            have HROW := Lib.hid hrow
            have HEW := Lib.hid hR.1
            have ha := act_puts hsz hdf hrest [(70, x70), (71, x71), (72, x72), (73, x73), (74, x74), (75, x75), (76, x76), (77, x77), (78, x78), (79, x79), (80, x80), (11, x11)] rfl ⟨by decide, fun d hd => (by decide : ∀ d ∈ ([70, 71, 72, 73, 74, 75, 76, 77, 78, 79, 80, 11] : List Nat), d < 86) d hd⟩ (by simp only [List.forall_mem_cons]; exact ⟨e70, e71, e72, e73, e74, e75, e76, e77, e78, e79, e80, e11, fun _ h => by cases h⟩)
            clear hsz hdf hrest htyp hbare e70 e71 e72 e73 e74 e75 e76 e77 e78 e79 e80 e11 hrow hR
            subst ha
            simp only [List.foldl_cons, List.foldl_nil, Act.put, List.setIfInBounds_toArray, List.set_cons_zero, List.set_cons_succ]
            go_wp2
            go_roundw
            case rel => exact ⟨HEW.out, k + 1, by omega, by go_num, by rw [HNXT.out]; exact HROW.out⟩
            case measure => simp [intOf]; omega
      · obtain rfl : k = more.length := by omega
        clear HNX
        obtain ⟨O, hO⟩ : ∃ O, outTo q xs more more.length = O := ⟨_, rfl⟩
        have HI1 := HI.out
        have hR2 := HR2.out
        rw [hO] at HI1 hR2 hbo
        obtain ⟨ok, hok⟩ : ∃ ok, logOk O = ok := ⟨_, rfl⟩
        rw [hok] at hR2
        have HI2 := Lib.hid HI1
        have HOK := Lib.hid hok
        have HRR := Lib.hid hR2
        clear HI1 HI hO hok hR2 HR2
        go_wp2_with fail
        refine (spec_LogValid _ HI2.out.cell.1 (by omega)).mono ?_
        rw [HOK.out]
        rintro e w6 ⟨rfl, b6⟩
        have hRR := HRR.out
        clear HRR
        cases ok with
        | false =>
          obtain rfl : (xs, false) = R := by rw [← hRR]; rfl
          have HS := Lib.hid ((HROW2.out.ext hb).ext b6)
          clear hRR
          go_wp2
          go_returns
          exact ⟨_, rfl, HS.out.cell.1, HS.out.cell.2, (b12.trans hb).trans b6⟩
        | true =>
          obtain rfl : (O, true) = R := by rw [← hRR]; rfl
          have HS := Lib.hid (Row.low (HI2.out.ext b6) b12.size)
          clear hRR
          go_wp2
          go_returns
          exact ⟨_, rfl, HS.out.cell.1, HS.out.cell.2, (b12.trans hb).trans b6⟩
end Go.Proofs.YtiakkgpkkpaldaaDoor
