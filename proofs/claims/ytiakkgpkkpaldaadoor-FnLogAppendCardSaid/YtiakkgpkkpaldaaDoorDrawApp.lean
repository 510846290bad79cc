/- The draw of a log, of a place, of a term and of records to append. -/
import Derived.Test.YtiakkgpkkpaldaaDoorDrawLog
import Derived.Test.YtiakkgpkkpaldaaDoorLogAppend
import Derived.Test.YtiakkgpkkpaldaaDoorTypedDraw
import Derived.Test.YtiakkgpkkpaldaaDoorTypedC
namespace Go.Proofs.YtiakkgpkkpaldaaDoor
open Go.RowKit
set_option maxRecDepth 8000
/-- A log, a place, a term and records were drawn. -/
def DrawnLA (w : World) (en : Ending) (w' : World) : Prop :=
  ∃ u v xs ys, ∃ p t : Int, en = .returned (.tuple #[u, .int .i64 p, .int .i64 t, v]) ∧ Val 2 encRec w.heap.size w' u xs ∧ SlOf 2 encRec w' v ys ∧ xs.length ≤ 7 ∧ ys.length ≤ 14 ∧ Ext w w'
set_option maxHeartbeats 8000000 in
theorem DrawLogAppend_any {v : Value} (w : World) (h : CodeIn w v) : Calls Tryd.prog 27 #[v] w (DrawnLA w) := by
  have H := Lib.hid h
  clear h
  go_enter Tryd.func27, Tryd.ntmps27
  go_wp2_with fail
  refine (open_code _ H.out).mono ?_
  rintro e w1 ⟨rb, rfl, hl, r1, b1⟩
  have hrl := r1.lt
  go_wp2_with fail
  refine (l20Log_any rb 0 9 _ r1 (by omega) (by omega)).mono ?_
  rintro e w2 ⟨u, xs, rfl, hv1, hphi1, r2, x2⟩
  go_wp2_with fail
  refine (l20Log_any rb _ 0 _ r2 (by omega) (by omega)).mono ?_
  rintro e w3 ⟨u', ys, rfl, hv2, hphi2, r3, x3⟩
  have hxl : xs.length ≤ 7 := hphi1.1
  have hyl : ys.length ≤ 7 := hphi2.1
  have HV1 := Lib.hid (hv1.ex x3 hrl)
  have HV2 := Lib.hid (hv2.lower x2.size)
  have HX3 := Lib.hid (x2.trans x3)
  have HB1 := Lib.hid b1
  obtain ⟨A1, c1, hu, _⟩ := id HV1.out.1
  obtain ⟨A2, c2, hu', _⟩ := id HV2.out.1
  have hcp1 := HV1.out.2.2 _ _ _ hu
  have HP1 := Lib.hid hphi1.2
  have HP2 := Lib.hid hphi2.2
  clear hv1 hv2 hphi1 hphi2 r1 r2 b1 x2 x3
  subst hu hu'
  go_wp2_with fail
  refine (pick_any rb _ ((xs.length : Int) + 1) _ r3 (by omega) (by omega) (by omega)).mono ?_
  rintro e w4 ⟨a, rfl, a0, a1, r4, x4⟩
  go_wp2_with fail
  refine (pick_any rb _ 14 _ r4 (by omega) (by omega) (by omega)).mono ?_
  rintro e w5 ⟨b, rfl, b0, b1, r5, x5⟩
  go_wp2_with fail
  refine (pick_any rb _ 14 _ r5 (by omega) (by omega) (by omega)).mono ?_
  rintro e w6 ⟨c, rfl, cc0, cc1, r6, x6⟩
  have X6 := (x4.trans x5).trans x6
  have HV1' := Lib.hid (HV1.out.ex X6 hrl)
  have HV2' := Lib.hid (HV2.out.ex X6 hrl)
  have HX6 := Lib.hid (HX3.out.trans X6)
  clear HV1 HV2 HX3 X6 x4 x5 x6 r3 r4 r5
  obtain ⟨p, hp⟩ : ∃ p, a + b / 13 - c / 13 = p := ⟨_, rfl⟩
  have hp1 : -1 ≤ p ∧ p ≤ 9 := by omega
  have HPP := Lib.hid hp
  clear hp
  go_wp2_with fail
  refine (pick_any rb _ 4 _ r6 (by omega) (by omega) (by omega)).mono ?_
  rintro e w7 ⟨t, rfl, t0, t1, r7, x7⟩
  have HV3 := Lib.hid (HV1'.out.ex x7 hrl)
  have HV4 := Lib.hid (HV2'.out.ex x7 hrl)
  have HX7 := Lib.hid (HX6.out.trans x7)
  have HR7 := Lib.hid r7
  clear HV1' HV2' HX6 x7 r6 r7
  simp only [HPP.out]
  clear HPP a0 a1 b0 b1 cc0 cc1
  rcases (by omega : p ≤ 0 ∨ (0 < p ∧ (xs.length : Int) < p) ∨ (0 < p ∧ p ≤ (xs.length : Int))) with h1 | ⟨h1, h2⟩ | ⟨h1, h2⟩
  · go_wp2
    go_returns
    exact ⟨_, _, xs, ys, p, t, rfl, HV3.out.lower HB1.out.size, HV4.out.1, hxl, by omega, HB1.out.ex HX7.out hl⟩
  · go_wp2
    go_returns
    exact ⟨_, _, xs, ys, p, t, rfl, HV3.out.lower HB1.out.size, HV4.out.1, hxl, by omega, HB1.out.ex HX7.out hl⟩
  · obtain ⟨q, rfl⟩ : ∃ q : Nat, p = ((q + 1 : Nat) : Int) := ⟨(p - 1).toNat, by omega⟩
    go_wp2_with fail
    refine (pick_any rb _ 4 _ HR7.out (by omega) (by omega) (by omega)).mono ?_
    rintro e w8 ⟨d, rfl, d0, d1, r8, x8⟩
    have HV5 := Lib.hid (HV3.out.ex x8 hrl)
    have HV6 := Lib.hid (HV4.out.ex x8 hrl)
    have HX8 := Lib.hid (HX7.out.trans x8)
    have HR8 := Lib.hid r8
    clear HV3 HV4 HX7 HR7 x8 r8
    rcases (by omega : d ≤ 0 ∨ 0 < d) with h3 | h3
    · go_wp2
      go_returns
      exact ⟨_, _, xs, ys, _, t, rfl, HV5.out.lower HB1.out.size, HV6.out.1, hxl, by omega, HB1.out.ex HX8.out hl⟩
    obtain ⟨A', c', hA', hcell⟩ := id HV5.out.1
    injection hA' with e1 e2 e3
    subst e1 e3
    clear e2
    obtain ⟨bx, offx, rfl, hblx, hcx⟩ := hcell (by omega)
    obtain ⟨r, hr⟩ := at_some (show q < xs.length by omega)
    have m0 := hcx q r hr 0 (by omega)
    simp only [encRec, Nat.add_zero] at m0
    have q2 : (((q + 1 : Nat) : Int) - 1) = (q : Int) := by omega
    have hcut := run_cut_low (P := Tryd.prog) (A := some ⟨bx, offx, none⟩) (n := xs.length) (c := c1) Tryd.underlying50 kinfo_Rec (q + 1) (by omega)
    rw [show ((q + 1 : Nat) : Int) = (q : Int) + 1 from by simp] at hcut
    have hpt := (HV5.out.1.part (q + 1) xs.length (by omega) (by omega) hcp1.1).1
    have hpl : (part xs (q + 1) xs.length).length ≤ 7 := by rw [part_len (Nat.le_refl _)]; omega
    obtain ⟨ps, hps⟩ : ∃ ps, part xs (q + 1) xs.length = ps := ⟨_, rfl⟩
    have HPM : Hid (∀ z ∈ ps, z ∈ xs) := by
      show ∀ z ∈ ps, z ∈ xs
      intro z hz
      rw [← hps] at hz
      unfold part at hz
      exact List.mem_of_mem_take (List.mem_of_mem_drop hz)
    have hpn : xs.length - (q + 1) = ps.length := by rw [← hps, part_len (Nat.le_refl _)]
    rw [hps] at hpt hpl
    rw [hpn] at hpt hcut
    obtain ⟨A3, hA3⟩ : ∃ A3, (if c1 = q + 1 then (some ⟨bx, offx, none⟩ : Option Addr) else (some (⟨bx, offx, none⟩ : Addr)).map (·.add ((q + 1) * 2))) = A3 := ⟨_, rfl⟩
    rw [hA3] at hpt hcut
    have HPT := Lib.hid hpt
    clear hcell hcx hr hps hpt hA3 hpn
    obtain ⟨zs, hzs⟩ : ∃ zs, ps ++ ys = zs := ⟨_, rfl⟩
    have HZS := Lib.hid hzs
    have hzl : zs.length ≤ 14 := by rw [← hzs]; simp; omega
    have HSM : Hid (∀ z ∈ zs, smRec z) := by
      show ∀ z ∈ zs, smRec z
      intro z hz
      rw [← hzs] at hz
      rcases List.mem_append.1 hz with hz | hz
      · exact HP1.out z (HPM.out z hz)
      · exact HP2.out z hz
    clear hzs
    have hrb8 := HR8.out.lt
    by_cases hz : 0 < zs.length
    case neg =>
      go_wp2_with (first | (at_builtin; refine catRec rfl rfl rfl rfl (HG.out.1) (HV6.out.1.ext HG.out.2.2) (by simp; omega) HG.out.2.2.size ?_; intro v'' w10 hrow2 hg2; rw [List.nil_append, HZS.out] at hrow2; obtain ⟨A9, c9, hA9, hcell9⟩ := id hrow2.cell.1; subst hA9; have HG2 := Lib.hid (And.intro hrow2 (And.intro hg2 hcell9)); clear hrow2 hg2 hcell9) | (at_builtin; refine catRec rfl rfl rfl rfl (Row.made _ _) (HPT.out.ext ((Ext.refl _).alloc _)) (by simp; omega) (by simp) ?_; intro v' w9 hrow hg; have HG := Lib.hid (And.intro hrow (And.intro hg (Ext.grown ((Ext.refl w8).alloc (.cells #[] 57)) hg (fun k hk => by injection hk with hk; subst hk; exact Nat.le_refl _)))); clear hrow hg))
      have HX10 : Hid (Ex rb w8 w10) := by show _; exact Ex.grown (Ex.grown ((Ex.refl rb w8).alloc (.cells #[] 57)) HG.out.2.1 (fun k hk => by injection hk with hk; subst hk; exact Nat.le_refl _)) HG2.out.2.1 (fun k hk => HG.out.1.block k hk)
      have HV10 := Lib.hid HG2.out.1.val
      have HV11 := Lib.hid (HV5.out.ex HX10.out hrl)
      go_returns
      exact ⟨_, _, xs, zs, _, _, rfl, HV11.out.lower HB1.out.size, HV10.out.1, hxl, hzl, HB1.out.ex (HX8.out.trans HX10.out) hl⟩
    go_wp2_with (first | (at_builtin; refine catRec rfl rfl rfl rfl (HG.out.1) (HV6.out.1.ext HG.out.2.2) (by simp; omega) HG.out.2.2.size ?_; intro v'' w10 hrow2 hg2; rw [List.nil_append, HZS.out] at hrow2; obtain ⟨A9, c9, hA9, hcell9⟩ := id hrow2.cell.1; subst hA9; have HG2 := Lib.hid (And.intro hrow2 (And.intro hg2 hcell9)); clear hrow2 hg2 hcell9) | (at_builtin; refine catRec rfl rfl rfl rfl (Row.made _ _) (HPT.out.ext ((Ext.refl _).alloc _)) (by simp; omega) (by simp) ?_; intro v' w9 hrow hg; have HG := Lib.hid (And.intro hrow (And.intro hg (Ext.grown ((Ext.refl w8).alloc (.cells #[] 57)) hg (fun k hk => by injection hk with hk; subst hk; exact Nat.le_refl _)))); clear hrow hg))
    have HX10 : Hid (Ex rb w8 w10) := by show _; exact Ex.grown (Ex.grown ((Ex.refl rb w8).alloc (.cells #[] 57)) HG.out.2.1 (fun k hk => by injection hk with hk; subst hk; exact Nat.le_refl _)) HG2.out.2.1 (fun k hk => HG.out.1.block k hk)
    have HV10 := Lib.hid HG2.out.1.val
    have HV11 := Lib.hid (HV5.out.ex HX10.out hrl)
    have HR10 := Lib.hid (((HR8.out.alloc (.cells #[] 57)).grown HG.out.2.1 (fun k hk => by injection hk with hk; subst hk; exact HR8.out.lt)).grown HG2.out.2.1 (fun k hk => Nat.lt_of_lt_of_le HR8.out.lt (HG.out.1.block k hk)))
    have hcell9 := HG2.out.2.2
    refine (pick_any rb _ (zs.length : Int) _ HR10.out (by omega) (by omega) (by omega)).mono ?_
    rintro e w11 ⟨i, rfl, i0, i1, r11, x11⟩
    obtain ⟨i, rfl⟩ := Int.eq_ofNat_of_zero_le i0
    obtain ⟨x, hx⟩ := at_some (show i < zs.length by omega)
    have HSX := Lib.hid (HSM.out x (List.mem_of_getElem? hx))
    have HVX := Lib.hid (HV10.out.ex x11 hrb8)
    obtain ⟨b9, off9, rfl, hb9, hcs⟩ := hcell9 hz
    have hob := (HV10.out.2.1 _ _ _ rfl hz).1
    have hne9 : b9 ≠ rb := by simp only at hob; omega
    have HC0 : Hid (w11.cell? ⟨b9, off9 + i * 2, none⟩ = some (.int .i64 x.term) ∧ True) := ⟨by
      have h1 := x11.cell (hcs i x hx 0 (by omega)) (by show b9 ≠ rb; exact hne9)
      simpa only [encRec, Nat.add_zero] using h1, trivial⟩
    have HR11 := Lib.hid r11
    have HX11 := Lib.hid (HX10.out.trans x11)
    have HXI := Lib.hid hx
    clear hcell9 hcs r11 x11 hx HX10 HR10
    go_wp2_with fail
    refine wp_region_typedC [66, 67, 68, 69, 70, 71, 72, 73, 74, 75, 76, 77] (by kernel_rfl) (by kernel_rfl) (by kernel_rfl)
      (fun L W => (L.getD 12 true = false → Ex rb w11 W ∧ (L.getD 8 true = false → Rd W rb 400)) ∧ (L.getD 12 true = true → ∃ W' y, W = W'.setCell ⟨b9, off9 + i * 2, none⟩ (.int .i64 y) ∧ Ex rb w11 W'))
      (fun j L u W => match j with
        | 0 => u = .slice (some ⟨b9, off9, none⟩) zs.length c9
        | 1 => u = .int .i64 (i : Int)
        | 2 => u = .slice (some ⟨b9, off9, none⟩) zs.length c9
        | 3 => u = .int .i64 (i : Int)
        | 4 => u = .pointer (some ⟨b9, off9 + i * 2, none⟩)
        | 5 => u = .pointer (some ⟨b9, off9 + i * 2, none⟩)
        | 6 => u = .int .i64 x.term
        | 7 => u = .pointer (some ⟨rb, 0, none⟩)
        | 8 => ∃ k : Int, u = .int .i64 k ∧ 0 ≤ k ∧ k ≤ 1
        | 9 => ∃ y : Int, u = .int .i64 y
        | 10 => u = .pointer (some ⟨b9, off9 + i * 2, none⟩)
        | 11 => u = .pointer (some ⟨b9, off9 + i * 2, none⟩)
        | _ => True)
      (fun _ _ _ => True) ⟨fun _ => ⟨(Ex.refl _ _).drew, fun _ => HR11.out.drew.mono (by omega)⟩, fun h => by cases h⟩ ?_ ?_ ?_
    · intro i' j L u W W' _ _ _ _ _ _ _ _ hT
      match j, hT with
      | 0, hT => exact hT
      | 1, hT => exact hT
      | 2, hT => exact hT
      | 3, hT => exact hT
      | 4, hT => exact hT
      | 5, hT => exact hT
      | 6, hT => exact hT
      | 7, hT => exact hT
      | 8, hT => exact hT
      | 9, hT => exact hT
      | 10, hT => exact hT
      | 11, hT => exact hT
      | _ + 12, _ => trivial
    · intro i' o ho a n' W L hn hsz hLi hdl hdn hR hrest hdeps hkeep
      have hdone : L.getD 12 true = true → ∀ j, j < 12 → L.getD j true = true := by
        intro h
        have a11 := hdn 12 _ rfl h { on := 11, ground := .data } (by simp) rfl
        have a9 := hdn 12 _ rfl h { on := 9, ground := .data } (by simp) rfl
        have a10 := hdn 11 _ rfl a11 { on := 10, ground := .data } (by simp) rfl
        have a0 := hdn 10 _ rfl a10 { on := 0, ground := .data } (by simp) rfl
        have a1 := hdn 10 _ rfl a10 { on := 1, ground := .data } (by simp) rfl
        have a6 := hdn 9 _ rfl a9 { on := 6, ground := .data } (by simp) rfl
        have a8 := hdn 9 _ rfl a9 { on := 8, ground := .data } (by simp) rfl
        have a5 := hdn 6 _ rfl a6 { on := 5, ground := .data } (by simp) rfl
        have a4 := hdn 5 _ rfl a5 { on := 4, ground := .data } (by simp) rfl
        have a2 := hdn 4 _ rfl a4 { on := 2, ground := .data } (by simp) rfl
        have a3 := hdn 4 _ rfl a4 { on := 3, ground := .data } (by simp) rfl
        have a7 := hdn 8 _ rfl a8 { on := 7, ground := .data } (by simp) rfl
        intro j hj
        match j, hj with
        | 0, _ => exact a0
        | 1, _ => exact a1
        | 2, _ => exact a2
        | 3, _ => exact a3
        | 4, _ => exact a4
        | 5, _ => exact a5
        | 6, _ => exact a6
        | 7, _ => exact a7
        | 8, _ => exact a8
        | 9, _ => exact a9
        | 10, _ => exact a10
        | 11, _ => exact a11
        | _ + 12, hj => exact absurd hj (by omega)
      have n12 : ∀ j, j < 12 → L.getD j true = false → L.getD 12 true = false := fun j hj hf => by
        cases h : L.getD 12 true with
        | false => rfl
        | true => rw [hdone h j hj] at hf; cases hf
      match i', ho with
      | 0, ho =>
        obtain rfl := Option.some.inj ho
        exact y_move rfl ⟨fun _ => (hrest 8 (by decide)), (fun h => by cases h), (by rw [getD_set_ne true (by omega), getD_set_ne true (by omega)]; exact hR), trivial⟩
      | 1, ho =>
        obtain rfl := Option.some.inj ho
        exact y_move rfl ⟨fun _ => (hrest 11 (by decide)), (fun h => by cases h), (by rw [getD_set_ne true (by omega), getD_set_ne true (by omega)]; exact hR), trivial⟩
      | 2, ho =>
        obtain rfl := Option.some.inj ho
        exact y_move rfl ⟨fun _ => (hrest 8 (by decide)), (fun h => by cases h), (by rw [getD_set_ne true (by omega), getD_set_ne true (by omega)]; exact hR), trivial⟩
      | 3, ho =>
        obtain rfl := Option.some.inj ho
        exact y_move rfl ⟨fun _ => (hrest 11 (by decide)), (fun h => by cases h), (by rw [getD_set_ne true (by omega), getD_set_ne true (by omega)]; exact hR), trivial⟩
      | 4, ho =>
        obtain rfl := Option.some.inj ho
        have e1 : a.tmps.getD 68 undef = .slice (some ⟨b9, off9, none⟩) zs.length c9 := hdeps 2 _ 68 ⟨{ on := 2, ground := .data }, by simp, rfl, rfl⟩ rfl rfl
        have e2 : a.tmps.getD 69 undef = .int .i64 (i : Int) := hdeps 3 _ 69 ⟨{ on := 3, ground := .data }, by simp, rfl, rfl⟩ rfl rfl
        refine y_run (v := .pointer (some ⟨b9, off9 + i * 2, none⟩)) (w' := W) ?_ ⟨fun _ => rfl, (fun h => by cases h), (by rw [getD_set_ne true (by omega), getD_set_ne true (by omega)]; exact hR), trivial⟩
        simp only [execOp, Act.eval, e1, e2]
        go_simp
      | 5, ho =>
        obtain rfl := Option.some.inj ho
        have e1 : a.tmps.getD 70 undef = .pointer (some ⟨b9, off9 + i * 2, none⟩) := hdeps 4 _ 70 ⟨{ on := 4, ground := .data }, by simp, rfl, rfl⟩ rfl rfl
        refine y_run (v := .pointer (some ⟨b9, off9 + i * 2, none⟩)) (w' := W) ?_ ⟨fun _ => rfl, (fun h => by cases h), (by rw [getD_set_ne true (by omega), getD_set_ne true (by omega)]; exact hR), trivial⟩
        simp only [execOp, Act.eval, e1]
        go_simp
      | 6, ho =>
        obtain rfl := Option.some.inj ho
        have e1 : a.tmps.getD 71 undef = .pointer (some ⟨b9, off9 + i * 2, none⟩) := hdeps 5 _ 71 ⟨{ on := 5, ground := .data }, by simp, rfl, rfl⟩ rfl rfl
        have m1 := (hR.1 (n12 6 (by omega) hLi)).1.cell HC0.out.1 (by show b9 ≠ rb; omega)
        refine y_run (v := .int .i64 x.term) (w' := W) ?_ ⟨fun _ => rfl, (fun h => by cases h), (by rw [getD_set_ne true (by omega), getD_set_ne true (by omega)]; exact hR), trivial⟩
        simp only [execOp, Act.eval, e1]
        go_simp
      | 7, ho =>
        obtain rfl := Option.some.inj ho
        exact y_move rfl ⟨fun _ => (hrest 6 (by decide)), (fun h => by cases h), (by rw [getD_set_ne true (by omega), getD_set_ne true (by omega)]; exact hR), trivial⟩
      | 8, ho =>
        obtain rfl := Option.some.inj ho
        have e1 : a.tmps.getD 73 undef = .pointer (some ⟨rb, 0, none⟩) := hdeps 7 _ 73 ⟨{ on := 7, ground := .data }, by simp, rfl, rfl⟩ rfl rfl
        have h12 := n12 8 (by omega) hLi
        refine y_call (args := #[.pointer (some ⟨rb, 0, none⟩), .int .i64 2]) rfl (fun _ _ => by kernel_rfl) (by simp [Act.eval, e1]) ?_
        exact (pick_any rb _ 2 _ ((hR.1 h12).2 hLi) (by omega) (by omega) (by omega)).mono fun e W2 ⟨k, he, k0, k1, rr, xx⟩ => ⟨_, he, fun _ => ⟨k, rfl, by omega, by omega⟩, (fun h => by cases h), ⟨fun _ => ⟨(hR.1 h12).1.trans xx, fun h => (by rw [getD_set_self true (by rw [hsz]; decide)] at h; cases h)⟩, fun h => (by rw [getD_set_ne true (by omega), h12] at h; cases h)⟩, trivial⟩
      | 9, ho =>
        obtain rfl := Option.some.inj ho
        have e1 : a.tmps.getD 72 undef = .int .i64 x.term := hdeps 6 _ 72 ⟨{ on := 6, ground := .data }, by simp, rfl, rfl⟩ rfl rfl
        obtain ⟨k, e2, k0, k1⟩ := hdeps 8 _ 74 ⟨{ on := 8, ground := .data }, by simp, rfl, rfl⟩ rfl rfl
        exact y_add rfl e1 e2 (by have := HSX.out.1; unfold smI at this; omega) (by have := HSX.out.1; unfold smI at this; omega) ⟨fun _ => ⟨_, rfl⟩, (fun h => by cases h), (by rw [getD_set_ne true (by omega), getD_set_ne true (by omega)]; exact hR), trivial⟩
      | 10, ho =>
        obtain rfl := Option.some.inj ho
        have e1 : a.tmps.getD 66 undef = .slice (some ⟨b9, off9, none⟩) zs.length c9 := hdeps 0 _ 66 ⟨{ on := 0, ground := .data }, by simp, rfl, rfl⟩ rfl rfl
        have e2 : a.tmps.getD 67 undef = .int .i64 (i : Int) := hdeps 1 _ 67 ⟨{ on := 1, ground := .data }, by simp, rfl, rfl⟩ rfl rfl
        refine y_run (v := .pointer (some ⟨b9, off9 + i * 2, none⟩)) (w' := W) ?_ ⟨fun _ => rfl, (fun h => by cases h), (by rw [getD_set_ne true (by omega), getD_set_ne true (by omega)]; exact hR), trivial⟩
        simp only [execOp, Act.eval, e1, e2]
        go_simp
      | 11, ho =>
        obtain rfl := Option.some.inj ho
        have e1 : a.tmps.getD 76 undef = .pointer (some ⟨b9, off9 + i * 2, none⟩) := hdeps 10 _ 76 ⟨{ on := 10, ground := .data }, by simp, rfl, rfl⟩ rfl rfl
        refine y_run (v := .pointer (some ⟨b9, off9 + i * 2, none⟩)) (w' := W) ?_ ⟨fun _ => rfl, (fun h => by cases h), (by rw [getD_set_ne true (by omega), getD_set_ne true (by omega)]; exact hR), trivial⟩
        simp only [execOp, Act.eval, e1]
        go_simp
      | 12, ho =>
        obtain rfl := Option.some.inj ho
        have e1 : a.tmps.getD 77 undef = .pointer (some ⟨b9, off9 + i * 2, none⟩) := hdeps 11 _ 77 ⟨{ on := 11, ground := .data }, by simp, rfl, rfl⟩ rfl rfl
        obtain ⟨y, e2⟩ := hdeps 9 _ 75 ⟨{ on := 9, ground := .data }, by simp, rfl, rfl⟩ rfl rfl
        have hex := (hR.1 hLi).1
        have m1 := hex.cell HC0.out.1 (by show b9 ≠ rb; omega)
        have f1 : W.frozen? ⟨b9, off9 + i * 2, none⟩ = false := (HVX.out.ex hex hrb8).2.1.cell_free (by omega) _
        refine y_skip (w' := W.setCell ⟨b9, off9 + i * 2, none⟩ (.int .i64 y)) ?_ ⟨(fun h => by cases h), fun _ => trivial, ⟨fun h => (by rw [getD_set_self true (by rw [hsz]; decide)] at h; cases h), fun _ => ⟨W, y, rfl, hex⟩⟩, trivial⟩
        simp only [execOp, Act.eval, e1, e2]
        go_simp
      | _ + 13, ho => cases ho
    · intro a W hR hsz hdf hrest htyp hbare
      obtain ⟨W', y, rfl, hxW⟩ := hR.2 rfl
      have HEX := Lib.hid (Ex.grown (HX11.out.trans hxW) (grownBy_set W' b9 (off9 + i * 2) (.int .i64 y)) (fun k hk => by injection hk with hk; subst hk; exact hob))
      have hs1 := SlOf.set1 (j := 0) (HVX.out.ex hxW hrb8).1 (HVX.out.ex hxW hrb8).2.1 hz HXI.out (by omega) ⟨y, x.value⟩ (fun i hl hi => by match i with | 0 => exact absurd rfl hi | 1 => rfl | _ + 2 => omega)
      simp only [Nat.add_zero] at hs1
      have HS1 := Lib.hid hs1
      clear hR hs1 hxW
      obtain ⟨x66, e66⟩ : ∃ x, a.tmps.getD 66 undef = x := ⟨_, rfl⟩
      obtain ⟨x67, e67⟩ : ∃ x, a.tmps.getD 67 undef = x := ⟨_, rfl⟩
      obtain ⟨x68, e68⟩ : ∃ x, a.tmps.getD 68 undef = x := ⟨_, rfl⟩
      obtain ⟨x69, e69⟩ : ∃ x, a.tmps.getD 69 undef = x := ⟨_, rfl⟩
      obtain ⟨x70, e70⟩ : ∃ x, a.tmps.getD 70 undef = x := ⟨_, rfl⟩
      obtain ⟨x71, e71⟩ : ∃ x, a.tmps.getD 71 undef = x := ⟨_, rfl⟩
      obtain ⟨x72, e72⟩ : ∃ x, a.tmps.getD 72 undef = x := ⟨_, rfl⟩
      obtain ⟨x73, e73⟩ : ∃ x, a.tmps.getD 73 undef = x := ⟨_, rfl⟩
      obtain ⟨x74, e74⟩ : ∃ x, a.tmps.getD 74 undef = x := ⟨_, rfl⟩
      obtain ⟨x75, e75⟩ : ∃ x, a.tmps.getD 75 undef = x := ⟨_, rfl⟩
      obtain ⟨x76, e76⟩ : ∃ x, a.tmps.getD 76 undef = x := ⟨_, rfl⟩
      obtain ⟨x77, e77⟩ : ∃ x, a.tmps.getD 77 undef = x := ⟨_, rfl⟩
      have ha := act_puts hsz hdf hrest [(66, x66), (67, x67), (68, x68), (69, x69), (70, x70), (71, x71), (72, x72), (73, x73), (74, x74), (75, x75), (76, x76), (77, x77)] rfl ⟨by decide, fun d hd => (by decide : ∀ d ∈ ([66, 67, 68, 69, 70, 71, 72, 73, 74, 75, 76, 77] : List Nat), d < 82) d hd⟩ (by simp only [List.forall_mem_cons]; exact ⟨e66, e67, e68, e69, e70, e71, e72, e73, e74, e75, e76, e77, fun _ h => by cases h⟩)
      clear hsz hdf hrest htyp hbare e66 e67 e68 e69 e70 e71 e72 e73 e74 e75 e76 e77
      subst ha
      simp only [List.foldl_cons, List.foldl_nil, Act.put, List.setIfInBounds_toArray, List.set_cons_zero, List.set_cons_succ]
      go_wp2
      go_returns
      exact ⟨_, _, xs, zs.set i ⟨y, x.value⟩, _, _, rfl, (HV5.out.ex HEX.out hrl).lower HB1.out.size, HS1.out.1, hxl, by simp; omega, HB1.out.ex (HX8.out.trans HEX.out) hl⟩
end Go.Proofs.YtiakkgpkkpaldaaDoor
