/- Records that are left: RedoShort of the reference. -/
import Derived.Test.YtiggckhlbklngaaDoorShort
import Derived.Test.YtiggckhlbklngaaDoorClone
import Derived.Test.YtiggckhlbklngaaDoorSetHas
namespace Go.Proofs.YtiggckhlbklngaaDoor
open Go.RowKit
set_option maxRecDepth 8000

theorem drop_more {xs : List Redo} {k j : Nat} {y : Redo} (hk : k ≤ j) (hy : xs[j]? = some y) (p : Redo → Bool) : ((xs.take (j + 1)).drop k).any p = (((xs.take j).drop k).any p || p y) := by
  have hj := (List.getElem?_eq_some_iff.1 hy).1
  rw [List.take_add_one, hy, Option.toList_some, List.drop_append_of_le_length (by rw [List.length_take]; omega), List.any_append]
  simp
theorem shortS_at {S k : Nat} {xs : List Redo} {x : Redo} (hx : xs[k]? = some x) : shortS S (xs.drop k) = if S.testBit x.who.toNat = true ∧ (x.key = -1 ∨ laterB S x.key (xs.drop (k + 1)) = false) then x :: shortS S (xs.drop (k + 1)) else shortS S (xs.drop (k + 1)) := by
  obtain ⟨hk, rfl⟩ := List.getElem?_eq_some_iff.1 hx
  rw [List.drop_eq_getElem_cons hk, shortS]
theorem cinfo_RedoS : (Tryd.prog.info? 73).map (fun i => (i.zero, i.size, i.bytes)) = some (some (.agg #[.int .i64 0, .int .i64 0, .int .i64 0]), 3, 24) := by kernel_rfl
theorem one_RedoS (x : Redo) (j : Nat) : (encRedo x j).oneCell' = true := by
  first | rfl | (unfold encRedo; split <;> rfl)
theorem rows_neT {α β : Type} {e e' : TypeId} {m m' : Nat} {enc : α → Nat → Value} {enc' : β → Nat → Value} {base base' : Nat} {w : World} {v u : Value} {xs : List α} {ys : List β}
    (h : Row e m enc base w v xs) (h' : Row e' m' enc' base' w u ys) (hne : e ≠ e') : u.ownBlock = none ∨ u.ownBlock ≠ v.ownBlock := by
  rcases h.2 with ⟨rfl, _⟩ | ⟨g, cap, cur, rfl, hb, hg, _⟩
  · cases u.ownBlock with
    | none => exact .inl rfl
    | some k => exact .inr (by simp [Value.ownBlock])
  · rcases h'.2 with ⟨rfl, _⟩ | ⟨g', cap', cur', rfl, hb', hg', _⟩
    · exact .inl rfl
    · right
      intro e
      simp [Value.ownBlock] at e
      subst e
      rw [hg] at hg'
      injection hg' with hg'
      injection hg' with _ h2 _
      exact hne h2
set_option maxHeartbeats 8000000 in
theorem spec_RedoShort {v : Value} {xs : List Redo} (w : World) (h : SlOf 3 encRedo w v xs) (hlen : xs.length ≤ 2097152) :
    Calls Tryd.prog 19 #[v] w fun e w' => ∃ v', e = .returned v' ∧ Row 73 3 encRedo w.heap.size w' v' (shortL xs) ∧ Ext w w' := by
  have H := Lib.hid h
  obtain ⟨A, c, rfl, hc0⟩ := id h
  have HC := Lib.hid hc0
  clear h hc0
  have hr0 : Row 73 3 encRedo w.heap.size (w.alloc (.cells #[] 73)) (.slice (some ⟨w.heap.size, 0, none⟩) 0 0) ([] : List Redo) := World.ownsRow_made w #[] 0 (Nat.le_refl _) (by simp [maxLen]) (by simp)
  have HR0 := Lib.hid hr0
  clear hr0
  go_enter Tryd.func19, Tryd.ntmps19
  go_wp2_with fail
  refine (spec_RedoDone_row _ (H.out.ext ((Ext.refl _).alloc _)) hlen).mono ?_
  rintro e w1 ⟨v1, rfl, hd, b1⟩
  have HD := Lib.hid (Row.low (base' := w.heap.size) hd (by simp))
  have HE1 := Lib.hid (((Ext.refl w).alloc _).trans b1)
  have HR1 := Lib.hid (HR0.out.ext b1)
  clear hd b1 HR0
  by_cases hv : redoOk xs = true
  case neg =>
    have hpos := redoOk_empty hv
    have hf : Hid (shortL xs = []) := by show _ = _; rw [shortL, if_neg hv]
    simp only [Bool.not_eq_true] at hv
    go_wp2
    go_loopw [3, 5, 6, 7] (fun o i _ _ wr => Ext w1 wr ∧ i = .int .i64 0 ∧ o = .slice (some ⟨w.heap.size, 0, none⟩) 0 0) (fun _ _ _ _ _ => 0)
    case atStart => exact ⟨Ext.refl _, rfl, rfl⟩
    case round =>
      obtain ⟨hb, rfl, rfl⟩ := hrel
      go_wp2_with fail
      refine (spec_RedoValid _ (H.out.ext (HE1.out.trans hb)) hlen).mono ?_
      rw [hv]
      rintro e w2 ⟨rfl, b2⟩
      go_wp2
      go_returns
      exact ⟨_, rfl, by rw [hf.out]; exact (HR1.out.ext hb).ext b2, (HE1.out.trans hb).trans b2⟩
  have HV := Lib.hid hv
  obtain ⟨h30, hg1, _⟩ := redoOk_pair.1 hv
  have HG := Lib.hid hg1
  obtain ⟨S, hS⟩ : ∃ S, setTo xs xs.length = S := ⟨_, rfl⟩
  have HFIN : Hid (shortL xs = shortS S xs) := by show _ = _; rw [shortL, if_pos hv, hS]
  have hl7 := doneL_len xs
  have HHAS : Hid (∀ y : Redo, y ∈ xs → ((doneL xs).any fun x => x == y.who) = S.testBit y.who.toNat) := by
    show ∀ y : Redo, y ∈ xs → ((doneL xs).any fun x => x == y.who) = S.testBit y.who.toNat
    intro y hy
    have hb := inB_true.1 (hg1 y hy).1
    obtain ⟨q, hq⟩ := Int.eq_ofNat_of_zero_le hb.1
    rw [hq, has_done hv (by omega), hS]
    simp
  clear hv hg1 hS
  go_wp2
  go_loopw [3, 5, 6, 7] (fun o i _ _ wr => Ext w wr ∧ ∃ k : Nat, k ≤ xs.length ∧ i = .int .i64 k ∧ Hid (∃ O : List Redo, Row 73 3 encRedo w.heap.size wr o O ∧ Row 3 1 (one encI) w.heap.size wr v1 (doneL xs) ∧ O.length ≤ k ∧ O ++ shortS S (xs.drop k) = shortS S xs)) (fun _ i _ _ _ => xs.length - (intOf i).toNat)
  case atStart => exact ⟨HE1.out, 0, Nat.zero_le _, rfl, [], HR1.out, HD.out, Nat.le_refl _, rfl⟩
  case round =>
    obtain ⟨hb, k, hk, rfl, HI⟩ := hrel
    obtain ⟨O, hO⟩ := HI.out
    have HO := Lib.hid hO
    have hOl := hO.2.2.1
    clear hO HI
    by_cases hlt : k < xs.length
    · obtain ⟨x, hx⟩ := at_some hlt
      have Hx := Lib.hid hx
      obtain ⟨b, off, rfl, _, hcell⟩ := HC.out (by omega)
      have HCX := Lib.hid (And.intro (hb.cell (hcell k x hx 0 (by omega))) (And.intro (hb.cell (hcell k x hx 1 (by omega))) (hb.cell (hcell k x hx 2 (by omega)))))
      have HCELL := Lib.hid hcell
      clear hx hcell
      go_wp2_with fail
      refine (spec_RedoValid _ (H.out.ext hb) hlen).mono ?_
      rw [HV.out]
      rintro e w2 ⟨rfl, b2⟩
      have HB2 := Lib.hid b2
      clear b2
      go_wp2
      go_loopw [6, 7] (fun t i wr => Ext w2 wr ∧ ∃ j : Nat, k + 1 ≤ j ∧ j ≤ xs.length ∧ i = .int .i64 j ∧ t = .bool (((xs.take j).drop (k + 1)).any fun y => y.key == x.key && S.testBit y.who.toNat)) (fun _ i _ => xs.length - (intOf i).toNat)
      case atStart => exact ⟨Ext.refl _, k + 1, Nat.le_refl _, by omega, by go_num, by rw [List.drop_eq_nil_of_le (by rw [List.length_take]; omega)]; rfl⟩
      case round =>
        obtain ⟨hbi, j, hjk, hj, rfl, rfl⟩ := hrel
        by_cases hlj : j < xs.length
        · obtain ⟨y, hy⟩ := at_some hlj
          have HN := Lib.hid (drop_more (k := k + 1) (by omega) hy (fun y => y.key == x.key && S.testBit y.who.toNat))
          have d0 := over_cell (hbi.cell (HB2.out.cell (hb.cell (HCELL.out j y hy 0 (by omega)))))
          have d1 := over_cell (hbi.cell (HB2.out.cell (hb.cell (HCELL.out j y hy 1 (by omega)))))
          have f1 := over_cell (hbi.cell (HB2.out.cell HCX.out.2.1))
          simp only [encRedo, Nat.add_zero] at d0 d1 f1
          have hyin := HHAS.out y (List.mem_of_getElem? hy)
          obtain ⟨t, ht⟩ : ∃ t, (((xs.take j).drop (k + 1)).any fun y => y.key == x.key && S.testBit y.who.toNat) = t := ⟨_, rfl⟩
          have HT := Lib.hid ht
          rw [ht]
          obtain ⟨sb, hsb⟩ : ∃ sb, S.testBit y.who.toNat = sb := ⟨_, rfl⟩
          rw [hsb] at hyin
          have HSB := Lib.hid hsb
          have HHW : Hid (∀ W, Ext w2 W → Calls Tryd.prog 50 #[v1, .int .i64 y.who] W fun e w' => e = .returned (.bool sb) ∧ Ext W w') := fun W hW =>
            (l30Has_any y.who W (HO.out.2.1.ext (HB2.out.trans hW)).cell.1.to1 (by omega)).mono fun e w' ⟨he, hw⟩ => ⟨by rw [he, hyin], by rw [← hw]; exact Ext.refl _⟩
          clear ht hy hyin hsb
          cases t with
          | true =>
            go_wp2
            refine wp_region_over (by kernel_rfl) (by kernel_rfl) ?_
            repeat (go_big_quiet_step ((fail)))
            refine wpQuiet_nil ?_
            intro w3 hb3
            go_wp2
            go_roundw
            case rel => exact ⟨hbi.trans hb3, j + 1, by omega, by omega, by go_num, by rw [HN.out, HT.out]; rfl⟩
            case measure => simp [intOf]; omega
          | false =>
            cases h1 : y.key == x.key with
            | false =>
              go_wp2
              refine wp_region_over (by kernel_rfl) (by kernel_rfl) ?_
              repeat (go_big_quiet_step ((fail)))
              refine wpQuiet_nil ?_
              intro w3 hb3
              go_wp2
              go_roundw
              case rel => exact ⟨hbi.trans hb3, j + 1, by omega, by omega, by go_num, by rw [HN.out, HT.out, h1]; rfl⟩
              case measure => simp [intOf]; omega
            | true =>
              cases sb with
              | false =>
                go_wp2
                refine wp_region_over (by kernel_rfl) (by kernel_rfl) ?_
                repeat (go_big_quiet_step ((go_at_call 50; exact quiet_ext (HHW.out _ (hbi.trans (over_ext _ _))))))
                refine wpQuiet_nil ?_
                intro w3 hb3
                go_wp2
                go_roundw
                case rel => exact ⟨hbi.trans hb3, j + 1, by omega, by omega, by go_num, by rw [HN.out, HT.out, h1, HSB.out]; rfl⟩
                case measure => simp [intOf]; omega
              | true =>
                go_wp2
                refine wp_region_over (by kernel_rfl) (by kernel_rfl) ?_
                repeat (go_big_quiet_step ((go_at_call 50; exact quiet_ext (HHW.out _ (hbi.trans (over_ext _ _))))))
                refine wpQuiet_nil ?_
                intro w3 hb3
                go_wp2
                go_roundw
                case rel => exact ⟨hbi.trans hb3, j + 1, by omega, by omega, by go_num, by rw [HN.out, HT.out, h1, HSB.out]; rfl⟩
                case measure => simp [intOf]; omega
        · obtain rfl : j = xs.length := by omega
          rw [List.take_length]
          obtain ⟨l, hl⟩ : ∃ l, ((xs.drop (k + 1)).any fun y => y.key == x.key && S.testBit y.who.toNat) = l := ⟨_, rfl⟩
          have HL : Hid (laterB S x.key (xs.drop (k + 1)) = l) := hl
          rw [hl]
          clear hl
          have hxin := HHAS.out x (List.mem_of_getElem? Hx.out)
          obtain ⟨sb, hsb⟩ : ∃ sb, S.testBit x.who.toNat = sb := ⟨_, rfl⟩
          rw [hsb] at hxin
          have HSB := Lib.hid hsb
          have HXIN := Lib.hid hxin
          have g0 := hbi.cell (HB2.out.cell HCX.out.1)
          have g1 := hbi.cell (HB2.out.cell HCX.out.2.1)
          have g2 := hbi.cell (HB2.out.cell HCX.out.2.2)
          simp only [encRedo, Nat.add_zero] at g0 g1 g2
          have HGG := Lib.hid (And.intro g0 (And.intro g1 g2))
          have HAT := Lib.hid (shortS_at (S := S) Hx.out)
          clear hsb hxin g1 g2
          go_wp2_with fail
          refine (l30Has_any x.who _ (HO.out.2.1.ext (HB2.out.trans hbi)).cell.1.to1 (by omega)).mono ?_
          rw [HXIN.out]
          rintro e w5 ⟨rfl, rfl⟩
          have g1 := HGG.out.2.1
          have g2 := HGG.out.2.2
          have HEX := Lib.hid ((hb.trans HB2.out).trans hbi)
          have hskip : Hid ((sb = false ∨ (x.key ≠ -1 ∧ l = true)) → shortS S (xs.drop k) = shortS S (xs.drop (k + 1))) := fun hh => by
            rw [HAT.out, HSB.out, HL.out]
            rcases hh with rfl | ⟨h1, rfl⟩
            · rw [if_neg (by simp)]
            · rw [if_neg (by rintro ⟨_, h | h⟩; exact h1 h; cases h)]
          have hkeep : Hid ((sb = true ∧ (x.key = -1 ∨ l = false)) → shortS S (xs.drop k) = x :: shortS S (xs.drop (k + 1))) := fun hh => by
            rw [HAT.out, HSB.out, HL.out, if_pos hh]
          cases sb with
          | false =>
            have HSH := Lib.hid (hskip.out (.inl rfl))
            go_wp2
            go_roundw
            case rel => exact ⟨HEX.out, k + 1, by omega, by go_num, O, HO.out.1.ext (HB2.out.trans hbi), HO.out.2.1.ext (HB2.out.trans hbi), by omega, by rw [← HSH.out]; exact HO.out.2.2.2⟩
            case measure => simp [intOf]; omega
          | true =>
            by_cases hkey : x.key = -1
            case' pos =>
              have q1 : (x.key == -1) = true := by simp [hkey]
              have HSH := Lib.hid (hkeep.out ⟨rfl, .inl hkey⟩)
              clear hkey
            case' neg =>
              have q1 : (x.key == -1) = false := by simp [hkey]
              cases l
              case' true =>
                have HSH := Lib.hid (hskip.out (.inr ⟨hkey, rfl⟩))
                clear hkey
                go_wp2
                go_roundw
                case rel => exact ⟨HEX.out, k + 1, by omega, by go_num, O, HO.out.1.ext (HB2.out.trans hbi), HO.out.2.1.ext (HB2.out.trans hbi), by omega, by rw [← HSH.out]; exact HO.out.2.2.2⟩
                case measure => simp [intOf]; omega
              case' false =>
                have HSH := Lib.hid (hkeep.out ⟨rfl, .inr rfl⟩)
                clear hkey
            all_goals
              have hrow := HO.out.1.ext (HB2.out.trans hbi)
              obtain ⟨v', w', hrun, hrow', hgrow⟩ := run_push (P := Tryd.prog) (t := 29) (ty := 29) (e := 73) Tryd.underlying29 cinfo_RedoS rfl (by omega) hrow x (fun j => one_RedoS x j) (by omega) (by omega) HEX.out.size
              have hrowA := hrow.ext ((Ext.refl wr).alloc (.cells (cellsOf_ 3 encRedo x).toArray 73))
              have hdA := (HO.out.2.1.ext (HB2.out.trans hbi)).ext ((Ext.refl wr).alloc (.cells (cellsOf_ 3 encRedo x).toArray 73))
              have hd2 : Row 3 1 (one encI) w.heap.size w' v1 (doneL xs) := World.ownsRow.kept hdA hgrow (rows_neT hrowA hdA (by decide))
              have HD2 := Lib.hid hd2
              clear hrowA hdA hd2
              rw [show (cellsOf_ 3 encRedo x).toArray = #[.int .i64 x.who, .int .i64 x.key, .int .i64 x.value] from rfl] at hrun hgrow
              have Hrun := Lib.hid hrun
              have HW := Lib.hid (Ext.grown (HEX.out.alloc _) hgrow hrow.block)
              have HROW := Lib.hid hrow'
              clear hrun hrow' hgrow hrow
              go_wp2_with (at_builtin; refine wpList_append_run rfl rfl rfl rfl Hrun.out ?_)
              go_roundw
              case rel => exact ⟨HW.out, k + 1, by omega, by go_num, O ++ [x], HROW.out, HD2.out, by simp; omega, by rw [List.append_assoc, List.singleton_append, ← HSH.out]; exact HO.out.2.2.2⟩
              case measure => simp [intOf]; omega
    · obtain rfl : k = xs.length := by omega
      go_wp2
      go_returns
      exact ⟨_, rfl, by rw [HFIN.out, ← HO.out.2.2.2, List.drop_length]; simpa [shortS] using HO.out.1, hb⟩
end Go.Proofs.YtiggckhlbklngaaDoor
