/- A log after records were sent: LogAppend of the program. -/
import Derived.Test.YtiakkgpkkpaldaaDoorLogAppend
import Derived.Test.YtiakkgpkkpaldaaDoorClipRec
namespace Go.Proofs.YtiakkgpkkpaldaaDoor
open Go.RowKit
set_option maxRecDepth 8000
set_option maxHeartbeats 8000000 in
theorem impl_LogAppend_cap {v u : Value} {xs more : List Rec} (p term : Int) (w : World) (h : SlOf 2 encRec w v xs) (hm : SlOf 2 encRec w u more) (hlen : xs.length ≤ 2097152) (hml : more.length ≤ 1048576) :
    Calls Tryd.prog 28 #[v, .int .i64 p, .int .i64 term, u] w (RetCap2 2 encRec w (appendL xs p term more)) := by
  have H := Lib.hid h
  have HM := Lib.hid hm
  obtain ⟨A, c, rfl, hc0⟩ := id h
  obtain ⟨Am, cm, rfl, hcm0⟩ := id hm
  have HC := Lib.hid hc0
  have HCM := Lib.hid hcm0
  clear h hc0 hm hcm0
  by_cases hv : logOk xs = true
  case neg =>
    have hf : Hid (appendL xs p term more = ([], false)) := by show _ = _; rw [appendL, if_neg hv]
    rw [hf.out]
    simp only [Bool.not_eq_true] at hv
    go_enter Tryd.func28, Tryd.ntmps28
    go_wp2_with fail
    refine (impl_LogValid _ H.out hlen).mono ?_
    rw [hv]
    rintro e w1 ⟨rfl, b1⟩
    go_wp2
    go_returns
    exact ⟨_, rfl, SlOf.nil _ _ _ _ _, Own.nil _ _ _ _, b1, fun A n c h => by injection h with _ e2 e3; omega⟩
  have hl12 : xs.length ≤ 12 := (allGood_true.1 hv).2
  have HV := Lib.hid hv
  obtain ⟨R, hRR⟩ : ∃ R, appendL xs p term more = R := ⟨_, rfl⟩
  rw [hRR]
  have hRR' : (if headOk xs p term = true then if logOk (outTo p.toNat xs more more.length) = true then (outTo p.toNat xs more more.length, true) else (xs, false) else (xs, false)) = R := by rw [← hRR, appendL, if_pos hv]
  have HR := Lib.hid hRR'
  clear hRR hRR' hv
  go_enter Tryd.func28, Tryd.ntmps28
  go_wp2_with fail
  refine (impl_LogValid _ H.out hlen).mono ?_
  rw [HV.out]
  rintro e w1 ⟨rfl, b1⟩
  go_wp2_with fail
  refine (cloneRec_any _ (H.out.ext b1) hlen).mono ?_
  rintro e w2 ⟨v2, rfl, hrow2, b2⟩
  go_wp2_with fail
  refine (clipRec_cap _ hrow2.cell.1 hrow2.cell.2 hrow2.cap).mono ?_
  rintro e w2' ⟨v2', rfl, hs2, ho2, rfl, hk2⟩
  have HK2 := Lib.hid hk2
  have HS2 := Lib.hid hs2
  have HO2 := Lib.hid (ho2.mono b1.size)
  have b12 := b1.trans b2
  clear hrow2 hs2 ho2 hk2 b1 b2
  by_cases hin : inB p 0 xs.length = true
  case neg =>
    obtain rfl : (xs, false) = R := by rw [← HR.out, if_neg]; intro h; unfold headOk at h; rw [Bool.and_eq_true] at h; exact hin h.1
    simp only [Bool.not_eq_true] at hin
    go_wp2_with (go_at_call 34; refine (within_any _ _ _ _).mono ?_; rintro e w' ⟨rfl, rfl⟩)
    go_returns
    exact ⟨_, rfl, HS2.out, HO2.out, b12, HK2.out⟩
  have hin' := inB_true.1 hin
  obtain ⟨q, rfl⟩ := Int.eq_ofNat_of_zero_le hin'.1
  have hq : q ≤ xs.length := by omega
  have hhead : (q = 0 ∧ headOk xs (q : Int) term = true) ∨ (0 < q ∧ ∃ y, xs[q - 1]? = some y ∧ headOk xs (q : Int) term = (y.term == term)) := by
    unfold headOk
    rw [hin, Bool.true_and]
    by_cases h0 : q = 0
    · left; refine ⟨h0, ?_⟩; subst h0; simp
    · right
      obtain ⟨y, hy⟩ := at_some (show q - 1 < xs.length by omega)
      refine ⟨by omega, y, hy, ?_⟩
      rw [Int.toNat_natCast, hy, decide_eq_false (by omega), Bool.false_or]
  by_cases hho : headOk xs (q : Int) term = true
  case neg =>
    obtain rfl : (xs, false) = R := by rw [← HR.out, if_neg hho]
    rcases hhead with ⟨_, h⟩ | ⟨hq0, y, hy, h⟩
    · exact absurd h hho
    · rw [h] at hho
      simp only [Bool.not_eq_true] at hho
      obtain ⟨b, off, rfl, hbl, hcell⟩ := HC.out (by omega)
      have c0 := b12.cell (hcell (q - 1) y hy 0 (by omega))
      simp only [encRec, Nat.add_zero] at c0
      have hne : (y.term != term) = true := by rw [bne, hho]; rfl
      have i1 : (0 : Int) < (q : Int) := by omega
      obtain ⟨q', rfl⟩ : ∃ q', q = q' + 1 := ⟨q - 1, by omega⟩
      rw [Nat.add_sub_cancel] at c0 hy
      have hqi : (((q' + 1 : Nat) : Int) - 1) = (q' : Int) := by omega
      clear h hcell hho hy
      go_wp2_with (go_at_call 34; refine (within_any _ _ _ _).mono ?_; rintro e w' ⟨rfl, rfl⟩)
      go_returns
      exact ⟨_, rfl, HS2.out, HO2.out, b12, HK2.out⟩
  have hneF : ∀ y, 0 < q → xs[q - 1]? = some y → (y.term != term) = false := fun y hq0 hy => by
    rcases hhead with ⟨h0, _⟩ | ⟨_, y', hy', h⟩
    · omega
    · rw [hy'] at hy; cases hy; rw [hho] at h; rw [bne, ← h]; rfl
  have HR2 : Hid ((if logOk (outTo q xs more more.length) = true then (outTo q xs more more.length, true) else (xs, false)) = R) := by
    show _ = _
    rw [← HR.out, if_pos hho]
    rfl
  have HLEN := Lib.hid (fun k (hk : k ≤ more.length) => outTo_bounds (xs := xs) (more := more) hq hk)
  clear hhead hho HR
  have hinA : inB (q : Int) 0 (xs.length : Int) = true := hin
  clear hin
  have i0 : (0 : Int) ≤ (q : Int) := by omega
  by_cases hq0 : 0 < q
  case' pos =>
    obtain ⟨y, hy⟩ := at_some (show q - 1 < xs.length by omega)
    have hne := hneF y hq0 hy
    obtain ⟨b, off, hAe, hbl, hcell⟩ := HC.out (by omega)
    subst hAe
    have c0 := b12.cell (hcell (q - 1) y hy 0 (by omega))
    simp only [encRec, Nat.add_zero] at c0
    have i1 : decide ((0 : Int) < (q : Int)) = true := by simp; omega
    obtain ⟨q', hq'⟩ : ∃ q', q - 1 = q' := ⟨_, rfl⟩
    rw [hq'] at c0
    have hqi : (q : Int) - 1 = (q' : Int) := by omega
    have hq'l : q' < xs.length := by omega
    clear hcell hy hneF hq'
  case' neg =>
    have i1 : decide ((0 : Int) < (q : Int)) = false := by simp; omega
    clear hneF
  all_goals
    go_wp2_with (go_at_call 34; refine (within_any _ _ _ _).mono ?_; rintro e w' ⟨rfl, rfl⟩)
    refine (cloneRec_any _ (H.out.ext b12) hlen).mono ?_
    rintro e w3 ⟨v3, rfl, hrow3, b3⟩
    have HROW3 := Lib.hid hrow3
    have HX3 := Lib.hid b3
    clear hrow3 b3 hinA
    go_wp2
    try clear hne c0 hqi hq'l
    clear i1 hq0
    go_loopw [11, 44] (fun o i wr => Ext w2 wr ∧ ∃ k : Nat, k ≤ more.length ∧ i = .int .i64 k ∧ Hid (Row 57 2 encRec w2.heap.size wr o (outTo q xs more k))) (fun _ i _ => more.length - (intOf i).toNat)
    case atStart => exact ⟨HX3.out, 0, Nat.zero_le _, rfl, HROW3.out⟩
    case round =>
      clear HROW3 HX3
      obtain ⟨hb, k, hk, rfl, HI⟩ := hrel
      have hbo := HLEN.out k hk
      have HNX : Hid (∀ r, more[k]? = some r → (∀ x, (outTo q xs more k)[q + k]? = some x → x.term = r.term → outTo q xs more (k + 1) = outTo q xs more k) ∧ ((∀ x, (outTo q xs more k)[q + k]? = some x → x.term ≠ r.term) → outTo q xs more (k + 1) = (outTo q xs more k).take (q + k) ++ [r])) := fun r hr => ⟨fun x hx he => outTo_same hr hx he, fun h => outTo_new hr h⟩
      by_cases hlt : k < more.length
      · obtain ⟨O, hO⟩ : ∃ O, outTo q xs more k = O := ⟨_, rfl⟩
        have HI1 := HI.out
        have HNX1 := HNX.out
        rw [hO] at HI1 HNX1 hbo
        obtain ⟨s, hs⟩ : ∃ s, q + k = s := ⟨_, rfl⟩
        rw [hs] at HNX1 hbo
        have hsi : (q : Int) + (k : Int) = (s : Int) := by omega
        obtain ⟨r, hr⟩ := at_some hlt
        have hN := HNX1 r hr
        obtain ⟨bm, offm, hAm, hblm, hcellm⟩ := HCM.out (by omega)
        subst hAm
        have HMW := Lib.hid (And.intro (b12.cell (hcellm k r hr 0 (by omega))) (b12.cell (hcellm k r hr 1 (by omega))))
        have m0 := hb.cell (b12.cell (hcellm k r hr 0 (by omega)))
        have m1 := hb.cell (b12.cell (hcellm k r hr 1 (by omega)))
        simp only [encRec, Nat.add_zero] at m0 m1
        obtain ⟨Ao, co, hoe, hoc⟩ := id HI1.cell.1
        subst hoe
        have hcap := (HI1.cap _ _ _ rfl)
        have HROWO := Lib.hid HI1
        obtain ⟨V1, A1, hV1, hR1, hV1e⟩ := cut_row Tryd.underlying50 cinfo_Rec HI1 s (by omega) hcap.1
        have HV1 := Lib.hid hV1
        have HR1 := Lib.hid hR1
        have HV1E := Lib.hid hV1e
        obtain ⟨V, hV⟩ : ∃ V, Value.slice Ao O.length co = V := ⟨_, rfl⟩
        have HVE := Lib.hid hV
        clear hV1 hR1 hV1e hV
        have HMC := Lib.hid (And.intro m0 m1)
        have s0 : (0 : Int) ≤ (s : Int) := by omega
        have HNN := Lib.hid hN
        have HSI := Lib.hid hsi
        have Hr := Lib.hid hr
        have hwrap : IntKind.i64.wrap ((q : Int) + (k : Int)) = (s : Int) := by rw [hsi]; exact IntWalk.i64_in _ (by omega)
        obtain ⟨rt, rv⟩ := r
        simp only at m0 m1
        have M0 := Lib.hid m0
        have M1 := Lib.hid m1
        obtain ⟨wb, hwb⟩ : ∃ wb, wr.alloc (.cells #[.int .i64 rt, .int .i64 rv] 57) = wb := ⟨_, rfl⟩
        have g0 : wb.cell? ⟨wr.heap.size, 0, none⟩ = some (.int .i64 rt) := by rw [← hwb]; exact (cell_of_row _ _ _ _ 57 (0, 0) (heap_alloc_new wr _)).trans rfl
        have g1 : wb.cell? ⟨wr.heap.size, 1, none⟩ = some (.int .i64 rv) := by rw [← hwb]; exact (cell_of_row _ _ _ _ 57 (0, 0) (heap_alloc_new wr _)).trans rfl
        have hXB : Ext wr wb := by rw [← hwb]; exact (Ext.refl _).alloc _
        have HWB := Lib.hid hwb
        have HXB := Lib.hid hXB
        have G0 := Lib.hid g0
        have G1 := Lib.hid g1
        have eb0 := over_cell g0
        have eb1 := over_cell g1
        clear HI1 HNX1 HNX HI hO hs hN hcellm hr hwb hXB g0 g1
        have hcase : (∃ x, O[s]? = some x ∧ x.term = rt) ∨ (∃ x, O[s]? = some x ∧ x.term ≠ rt) ∨ O[s]? = none := by
          cases hx : O[s]? with
          | none => exact .inr (.inr rfl)
          | some x =>
            by_cases he : x.term = rt
            · exact .inl ⟨x, rfl, he⟩
            · exact .inr (.inl ⟨x, rfl, he⟩)
        rcases hcase with ⟨x, hx, he⟩ | hcase
        · have hsl : s < O.length := (List.getElem?_eq_some_iff.1 hx).1
          have hd : decide (s < O.length) = true := by simpa using hsl
          obtain ⟨bo, offo, hAo, _, hco⟩ := hoc (by omega)
          subst hAo
          have f0 := over_cell (HXB.out.cell (hco s x hx 0 (by omega)))
          simp only [encRec, Nat.add_zero] at f0
          have hg : (x.term == rt) = true := by simp [he]
          have HNXT := Lib.hid (HNN.out.1 x hx he)
          clear hx he hoc hco
          go_wp2
          rw [HWB.out]
          refine wp_region_over (by kernel_rfl) (by kernel_rfl) ?_
          repeat (go_big_quiet_step (fail))
          refine wpQuiet_nil ?_
          intro w5 hb5
          go_wp2
          go_roundw
          case rel => exact ⟨(hb.trans HXB.out).trans hb5, k + 1, by omega, by go_num, by rw [HNXT.out]; exact (HROWO.out.ext HXB.out).ext hb5⟩
          case measure => simp [intOf]; omega
        have HNXT : Hid (outTo q xs more (k + 1) = O.take s ++ [⟨rt, rv⟩]) := HNN.out.2 fun y hy => by
          rcases hcase with ⟨x, hx, he⟩ | hx
          · rw [hx] at hy; cases hy; exact he
          · rw [hx] at hy; cases hy
        clear HNN
        rcases hcase with ⟨x, hx, he⟩ | hx
        case' inl =>
          have hsl : s < O.length := (List.getElem?_eq_some_iff.1 hx).1
          have hd : decide (s < O.length) = true := by simpa using hsl
          obtain ⟨bo, offo, hAo, _, hco⟩ := hoc (by omega)
          subst hAo
          have f0 := over_cell (HXB.out.cell (hco s x hx 0 (by omega)))
          simp only [encRec, Nat.add_zero] at f0
          have hg : (x.term == rt) = false := by simp [he]
          clear hx he hoc hco
        case' inr =>
          have hsl : ¬ s < O.length := by have := List.getElem?_eq_none_iff.1 hx; omega
          have hd : decide (s < O.length) = false := by simpa using hsl
          clear hx hoc hsl
        all_goals
          go_wp2
          rw [HWB.out]
          refine wp_region_over (by kernel_rfl) (by kernel_rfl) ?_
          repeat (go_big_quiet_step (fail))
          refine wpQuiet_nil ?_
          intro w5 hb5
          go_wp2
          have HR5 := Lib.hid ((HR1.out.ext HXB.out).ext hb5)
          have hw5 := (hb.trans HXB.out).trans hb5
          have B0 := Lib.hid (hb5.cell G0.out)
          have B1 := Lib.hid (hb5.cell G1.out)
          refine wp_region_typedC [67, 68, 69, 70, 71, 72, 73, 74, 11] (by kernel_rfl) (by kernel_rfl) (by kernel_rfl) (fun L W => Ext w2 W ∧ (L.getD 7 true = false → Ext w5 W))
            (fun i L u W => match i with
              | 0 => u = V
              | 1 => u = .int .i64 (q : Int)
              | 2 => u = .int .i64 (k : Int)
              | 3 => u = .int .i64 (s : Int)
              | 4 => u = V1
              | 5 => u = .agg #[.int .i64 rt, .int .i64 rv]
              | 6 => L.getD 7 true = false → SlOf 2 encRec W u [⟨rt, rv⟩]
              | 7 => Row 57 2 encRec w2.heap.size W u (O.take s ++ [⟨rt, rv⟩])
              | 8 => Row 57 2 encRec w2.heap.size W u (O.take s ++ [⟨rt, rv⟩])
              | _ => True)
            (fun i W W' => i ≠ 7 → Ext W W') ⟨hw5.drew, fun _ => (Ext.refl _).drew⟩ ?_ ?_ ?_
          · intro i j L u W W' hij hi hsz hLi hdl hdn hLj hS hT
            have hself : (L.setIfInBounds i true).getD i true = true := getD_set_self true (by simpa [hsz] using hi)
            have hne : ∀ q, q ≠ i → (L.setIfInBounds i true).getD q true = L.getD q true := fun q hq => getD_set_ne true (fun e => hq e.symm)
            have d7 : L.getD 8 true = true → L.getD 7 true = true := fun h => hdn 8 _ rfl h { on := 7, ground := .data } (by simp) rfl
            by_cases e7 : i = 7
            · subst e7
              match j, hij, hLj, hT with
              | 0, _, _, hT => exact hT
              | 1, _, _, hT => exact hT
              | 2, _, _, hT => exact hT
              | 3, _, _, hT => exact hT
              | 4, _, _, hT => exact hT
              | 5, _, _, hT => exact hT
              | 6, _, _, _ => exact fun hL => by rw [hself] at hL; cases hL
              | 7, hij, _, _ => exact absurd rfl hij
              | 8, _, hLj, _ => rw [d7 hLj] at hLi; cases hLi
              | _ + 9, _, _, _ => trivial
            have hx := hS e7
            have n7 := hne 7 (fun e => e7 e.symm)
            match j, hT with
            | 0, hT => exact hT
            | 1, hT => exact hT
            | 2, hT => exact hT
            | 3, hT => exact hT
            | 4, hT => exact hT
            | 5, hT => exact hT
            | 6, hT => exact fun hL => (hT (by rw [← n7]; exact hL)).ext hx
            | 7, hT => exact hT.ext hx
            | 8, hT => exact hT.ext hx
            | _ + 9, _ => trivial
          · have hstep : ∀ (i : Nat) (L : Array Bool) (W W' : World), i ≠ 7 → (Ext w2 W ∧ (L.getD 7 true = false → Ext w5 W)) → Ext W W' → (Ext w2 W' ∧ ((L.setIfInBounds i true).getD 7 true = false → Ext w5 W')) := fun i L W W' hi h hx => ⟨h.1.trans hx, fun hL => (h.2 (by rw [getD_set_ne true hi] at hL; exact hL)).trans hx⟩
            intro i o ho a n' W L hn hsz hLi hdl hdn hR hrest hdeps hkeep
            match i, ho with
            | 0, ho =>
              obtain rfl := Option.some.inj ho
              have hk11 := hkeep 11 (fun j oj hoj hd => by
                obtain rfl := dst_ne _ j 8 oj _ 11 (by decide) hoj rfl hd rfl
                cases h8 : L.getD 8 true with
                | false => rfl
                | true =>
                  have h7 := hdn 8 _ rfl h8 { on := 7, ground := .data } (by simp) rfl
                  have h4 := hdn 7 _ rfl h7 { on := 4, ground := .data } (by simp) rfl
                  have h0 := hdn 4 _ rfl h4 { on := 0, ground := .data } (by simp) rfl
                  simp only at h0
                  rw [hLi] at h0
                  cases h0)
              exact y_move rfl ⟨fun _ => hk11.trans HVE.out, (fun h => by cases h), hstep _ _ _ _ (by omega) hR (Ext.refl _), fun _ => Ext.refl _⟩
            | 1, ho =>
              obtain rfl := Option.some.inj ho
              exact y_move rfl ⟨fun _ => hrest 1 (by decide), (fun h => by cases h), hstep _ _ _ _ (by omega) hR (Ext.refl _), fun _ => Ext.refl _⟩
            | 2, ho =>
              obtain rfl := Option.some.inj ho
              exact y_move rfl ⟨fun _ => hrest 12 (by decide), (fun h => by cases h), hstep _ _ _ _ (by omega) hR (Ext.refl _), fun _ => Ext.refl _⟩
            | 3, ho =>
              obtain rfl := Option.some.inj ho
              have e1 : a.tmps.getD 68 undef = .int .i64 (q : Int) := hdeps 1 _ 68 ⟨{ on := 1, ground := .data }, by simp, rfl, rfl⟩ rfl rfl
              have e2 : a.tmps.getD 69 undef = .int .i64 (k : Int) := hdeps 2 _ 69 ⟨{ on := 2, ground := .data }, by simp, rfl, rfl⟩ rfl rfl
              exact y_add rfl e1 e2 (by omega) (by omega) ⟨fun _ => by show Value.int .i64 _ = _; rw [HSI.out], (fun h => by cases h), hstep _ _ _ _ (by omega) hR (Ext.refl _), fun _ => Ext.refl _⟩
            | 4, ho =>
              obtain rfl := Option.some.inj ho
              have e1 : a.tmps.getD 67 undef = V := hdeps 0 _ 67 ⟨{ on := 0, ground := .data }, by simp, rfl, rfl⟩ rfl rfl
              have e2 : a.tmps.getD 70 undef = .int .i64 (s : Int) := hdeps 3 _ 70 ⟨{ on := 3, ground := .data }, by simp, rfl, rfl⟩ rfl rfl
              exact y_slice Tryd.underlying50 rfl (e1.trans HVE.out.symm) (by simp only [Option.map_some, Option.map_none, Act.eval, e2]; exact HV1.out W) ⟨fun _ => rfl, (fun h => by cases h), hstep _ _ _ _ (by omega) hR (Ext.refl _), fun _ => Ext.refl _⟩
            | 5, ho =>
              obtain rfl := Option.some.inj ho
              have h13 : a.tmps.getD 13 undef = .pointer (some ⟨wr.heap.size, 0, none⟩) := hrest 13 (by decide)
              have h7 : L.getD 7 true = false := by
                cases h7 : L.getD 7 true with
                | false => rfl
                | true =>
                  have h6 := hdn 7 _ rfl h7 { on := 6, ground := .data } (by simp) rfl
                  have h5 := hdn 6 _ rfl h6 { on := 5, ground := .data } (by simp) rfl
                  simp only at h5
                  rw [hLi] at h5
                  cases h5
              have m0 := (hR.2 h7).cell B0.out
              have m1 := (hR.2 h7).cell B1.out
              refine y_run (v := .agg #[.int .i64 rt, .int .i64 rv]) (w' := W) ?_ ⟨fun _ => rfl, (fun h => by cases h), hstep _ _ _ _ (by omega) hR (Ext.refl _), fun _ => Ext.refl _⟩
              simp only [execOp, Act.eval, h13]
              go_simp
            | 6, ho =>
              obtain rfl := Option.some.inj ho
              have q2 : a.tmps.getD 72 undef = .agg #[.int .i64 rt, .int .i64 rv] := hdeps 5 _ 72 ⟨{ on := 5, ground := .data }, by simp, rfl, rfl⟩ rfl rfl
              refine y_run (v := .slice (some ⟨W.heap.size, 0, none⟩) 1 1) (w' := W.alloc (.cells #[.int .i64 rt, .int .i64 rv] 57)) ?_ ⟨fun _ _ => sl_rec _ _ _ _, (fun h => by cases h), hstep _ _ _ _ (by omega) hR ((Ext.refl _).alloc _), fun _ => (Ext.refl _).alloc _⟩
              simp only [Array.getD_eq_getD_getElem?] at q2
              go_simp
            | 7, ho =>
              obtain rfl := Option.some.inj ho
              have e1 : a.tmps.getD 71 undef = V1 := hdeps 4 _ 71 ⟨{ on := 4, ground := .data }, by simp, rfl, rfl⟩ rfl rfl
              have q3 := hdeps 6 _ 73 ⟨{ on := 6, ground := .data }, by simp, rfl, rfl⟩ rfl rfl hLi
              obtain ⟨A', c', hA', _⟩ := id q3
              rw [hA'] at q3
              have hrowV := HR5.out.ext (hR.2 hLi)
              obtain ⟨v', W', hrun, hrow', hgrow⟩ := run_cat (P := Tryd.prog) (t := 50) (ty := 50) (e := 57) Tryd.underlying50 cinfo_Rec rfl (by omega) hrowV q3 (fun x _ j => one_Rec x j) (by simp; omega) (by omega) hR.1.size
              exact y_append rfl e1 hA' ⟨v', W', hrun, fun _ => hrow', (fun h => by cases h), ⟨Ext.grown hR.1 hgrow hrowV.block, fun hL => by rw [getD_set_self true (by simp [hsz])] at hL; cases hL⟩, fun hne => absurd rfl hne⟩
            | 8, ho =>
              obtain rfl := Option.some.inj ho
              have q1 := hdeps 7 _ 74 ⟨{ on := 7, ground := .data }, by simp, rfl, rfl⟩ rfl rfl
              exact y_assign rfl ⟨fun _ => q1, (fun h => by cases h), hstep _ _ _ _ (by omega) hR (Ext.refl _), fun _ => Ext.refl _⟩
            | _ + 9, ho => cases ho
          · intro a W hR hsz hdf hrest htyp hbare
            obtain ⟨x67, e67⟩ : ∃ x, a.tmps.getD 67 undef = x := ⟨_, rfl⟩
            obtain ⟨x68, e68⟩ : ∃ x, a.tmps.getD 68 undef = x := ⟨_, rfl⟩
            obtain ⟨x69, e69⟩ : ∃ x, a.tmps.getD 69 undef = x := ⟨_, rfl⟩
            obtain ⟨x70, e70⟩ : ∃ x, a.tmps.getD 70 undef = x := ⟨_, rfl⟩
            obtain ⟨x71, e71⟩ : ∃ x, a.tmps.getD 71 undef = x := ⟨_, rfl⟩
            obtain ⟨x72, e72⟩ : ∃ x, a.tmps.getD 72 undef = x := ⟨_, rfl⟩
            obtain ⟨x73, e73⟩ : ∃ x, a.tmps.getD 73 undef = x := ⟨_, rfl⟩
            obtain ⟨x74, e74⟩ : ∃ x, a.tmps.getD 74 undef = x := ⟨_, rfl⟩
            obtain ⟨x11, e11⟩ : ∃ x, a.tmps.getD 11 undef = x := ⟨_, rfl⟩
            have hrow := htyp 8 _ 11 rfl rfl
            rw [e11] at hrow
            have HROW := Lib.hid hrow
            have HEW := Lib.hid hR.1
            have ha := act_puts hsz hdf hrest [(67, x67), (68, x68), (69, x69), (70, x70), (71, x71), (72, x72), (73, x73), (74, x74), (11, x11)] rfl ⟨by decide, fun d hd => (by decide : ∀ d ∈ ([67, 68, 69, 70, 71, 72, 73, 74, 11] : List Nat), d < 82) d hd⟩ (by simp only [List.forall_mem_cons]; exact ⟨e67, e68, e69, e70, e71, e72, e73, e74, e11, fun _ h => by cases h⟩)
            clear hsz hdf hrest htyp hbare e67 e68 e69 e70 e71 e72 e73 e74 e11 hrow hR
            subst ha
            simp only [List.foldl_cons, List.foldl_nil, Act.put, List.setIfInBounds_toArray, List.set_cons_zero, List.set_cons_succ]
            go_wp2
            go_roundw
            case rel => exact ⟨HEW.out, k + 1, by omega, by go_num, by rw [HNXT.out]; exact HROW.out⟩
            case measure => simp [intOf]; omega
      · obtain rfl : k = more.length := by omega
        clear HNX
        obtain ⟨O, hO⟩ : ∃ O, outTo q xs more more.length = O := ⟨_, rfl⟩
        have HI1 := HI.out
        have hR2 := HR2.out
        rw [hO] at HI1 hR2 hbo
        obtain ⟨ok, hok⟩ : ∃ ok, logOk O = ok := ⟨_, rfl⟩
        rw [hok] at hR2
        have HI2 := Lib.hid HI1
        have HOK := Lib.hid hok
        have HRR := Lib.hid hR2
        clear HI1 HI hO hok hR2 HR2
        go_wp2_with fail
        refine (impl_LogValid _ HI2.out.cell.1 (by omega)).mono ?_
        rw [HOK.out]
        rintro e w6 ⟨rfl, b6⟩
        have hRR := HRR.out
        clear HRR
        cases ok with
        | false =>
          obtain rfl : (xs, false) = R := by rw [← hRR]; rfl
          have HS := Lib.hid ((HS2.out.ext hb).ext b6)
          have HO := Lib.hid ((HO2.out.ext hb).ext b6)
          clear hRR
          go_wp2
          go_returns
          exact ⟨_, rfl, HS.out, HO.out, (b12.trans hb).trans b6, HK2.out⟩
        | true =>
          obtain rfl : (O, true) = R := by rw [← hRR]; rfl
          have HS := Lib.hid (Row.low (HI2.out.ext b6) b12.size)
          clear hRR
          go_wp2_with fail
          refine (clipRec_cap _ HS.out.cell.1 HS.out.cell.2 HS.out.cap).mono ?_
          rintro e w7 ⟨v7, rfl, hs7, ho7, rfl, hk7⟩
          have HS7 := Lib.hid (And.intro hs7 ho7)
          have HK7 := Lib.hid hk7
          clear hs7 ho7 hk7
          go_wp2
          go_returns
          exact ⟨_, rfl, HS7.out.1, HS7.out.2, (b12.trans hb).trans b6, HK7.out⟩
theorem impl_LogAppend {v u : Value} {xs more : List Rec} (p term : Int) (w : World) (h : SlOf 2 encRec w v xs) (hm : SlOf 2 encRec w u more) (hlen : xs.length ≤ 2097152) (hml : more.length ≤ 1048576) :
    Calls Tryd.prog 28 #[v, .int .i64 p, .int .i64 term, u] w (RetOf2 2 encRec w (appendL xs p term more)) :=
  (impl_LogAppend_cap p term w h hm hlen hml).mono fun _ _ ⟨v', he, hr, ho, hb, _⟩ => ⟨v', he, hr, ho, hb⟩
end Go.Proofs.YtiakkgpkkpaldaaDoor
