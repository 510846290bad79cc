/- The walk of laws.FnTakeShared: it answers true. -/
import Derived.Test.YtiggckhlbklngaaDoorDrawTake
import Derived.Test.YtiggckhlbklngaaDoorSharedT
import Derived.Test.YtiggckhlbklngaaDoorSharedP
import Derived.Test.YtiggckhlbklngaaDoorAlive
import Derived.Test.YtiggckhlbklngaaDoorSameI
namespace Go.Proofs.YtiggckhlbklngaaDoor
open Go.RowKit
set_option maxRecDepth 8000

theorem any_mem {i : List Int} {n : Int} : (i.any fun x => x == n) = decide (n ∈ i) := by
  rw [Bool.eq_iff_iff, List.any_eq_true, decide_eq_true_eq]
  exact ⟨fun ⟨x, hx, e⟩ => by rw [beq_iff_eq] at e; subst e; exact hx, fun h => ⟨n, h, by simp⟩⟩
theorem any_more {α : Type} {p : α → Bool} {xs : List α} {q : Nat} {y : α} (hy : xs[q]? = some y) : (xs.take (q + 1)).any p = ((xs.take q).any p || p y) := by
  obtain ⟨hk, rfl⟩ := List.getElem?_eq_some_iff.1 hy
  rw [List.take_succ_eq_append_getElem hk, List.any_append]
  simp
theorem take_in {i o : List Int} {n : Int} (h : okSh i o = true) : (takeSh i o n).1 = i := by unfold takeSh; rw [if_pos h]
theorem take_out {i o : List Int} {n : Int} (h : okSh i o = true) : (takeSh i o n).2 = if n ∈ i then putL o n else o := by unfold takeSh; rw [if_pos h]
/-- What TakeShared leaves is valid. -/
theorem take_ok {i o : List Int} {n : Int} (h : okSh i o = true) : okSh i (takeSh i o n).2 = true := by
  rw [take_out h]
  obtain ⟨oki, oko, hs⟩ := okSh_true.1 h
  split
  · rename_i hin
    refine okSh_true.2 ⟨oki, okS_put oko (oki.1 n hin), fun y hy => ?_⟩
    rcases mem_putL.1 hy with rfl | hy
    · exact hin
    · exact hs y hy
  · exact h
/-- A taken number stays out. -/
theorem take_stays {i o : List Int} {n : Int} (h : okSh i o = true) (hin : n ∈ i) : n ∉ inSh (putSh i (takeSh i o n).2 n).1 (putSh i (takeSh i o n).2 n).2 := by
  obtain ⟨oki, oko, hs⟩ := okSh_true.1 h
  have hr := oki.1 n hin
  have h2 := take_ok (n := n) h
  have e2 : (takeSh i o n).2 = putL o n := by rw [take_out h, if_pos hin]
  rw [e2] at h2 ⊢
  have hp : putSh i (putL o n) n = (putL i n, putL o n) := by unfold putSh; rw [if_pos ⟨h2, inB_true.2 hr⟩]
  rw [hp]
  intro hm
  unfold inSh at hm
  split at hm
  · rename_i hok
    obtain ⟨oki', oko', -⟩ := okSh_true.1 hok
    simp only at hm oki' oko'
    obtain ⟨j, hj, hb, e⟩ := mem_memb31.1 hm
    have h1 := setV_lt (putL i n)
    have h3 := setV_lt (putL o n)
    rw [dif_bit (by omega) (by omega), Bool.and_eq_true, Bool.not_eq_true'] at hb
    rw [setV_ok oko'] at hb
    have : (setL (putL o n)).testBit j = true := (setL_bit (fun x hx => (oko'.1 x hx).1) j).2 (by rw [← e]; exact mem_putL.2 (.inl rfl))
    rw [this] at hb
    exact absurd hb.2 (by simp)
  · cases hm
theorem inSh_len (i o : List Int) : (inSh i o).length ≤ 31 := by
  unfold inSh
  split
  · exact memb31_len _
  · simp
set_option maxHeartbeats 8000000 in
theorem law_FnTakeShared (w : World) (hT : Tab64 1 w) {v0 : Value} {xs0 : List Int} (s0 : Sl1 encU w v0 xs0) (l0 : xs0.length ≤ 9223372036854775807) (f0 : ∀ x ∈ xs0, 0 ≤ x ∧ x ≤ 255) (k0 : ∀ A n c, v0 = .slice A n c → n ≤ c ∧ c ≤ 9223372036854775807) :
    Calls Tryd.prog 7 #[v0] w fun e w' => e = .returned (.bool true) ∧ Ext w w' := by
  have HT := Lib.hid hT
  clear hT
  obtain ⟨A0, c0, hv0, _⟩ := id s0
  by_cases hl : xs0.length ≤ 1048576
  case neg =>
    subst hv0
    have hl' : 1048576 < xs0.length := by omega
    clear hl s0 f0 k0
    go_enter Tryd.func7, Tryd.ntmps7
    go_wp2
    go_returns
    exact ⟨rfl, Ext.refl _⟩
  have HC := Lib.hid (⟨xs0, s0, f0, hl, k0⟩ : CodeIn w v0)
  subst hv0
  clear s0 f0 k0
  go_enter Tryd.func7, Tryd.ntmps7
  go_wp2_with fail
  refine (DrawTakeShared_any _ HC.out).mono ?_
  rintro e w1 ⟨p, q, i, o, n, rfl, hv1, hv2, hl1, hl2, b1⟩
  obtain ⟨A1, c1, rfl⟩ := hv1.shape
  obtain ⟨A2, c2, rfl⟩ := hv2.shape
  have S1 := Lib.hid hv1.1
  have S2' := Lib.hid hv2.1
  have HB := Lib.hid b1
  clear hv1 hv2 b1
  go_wp2_with fail
  refine calls_world (fun W => Ext w1 W ∧ w1.heap.size < W.heap.size ∧ W.cell? ⟨w1.heap.size, 0, none⟩ = some (.slice A1 i.length c1) ∧ W.cell? ⟨w1.heap.size, 1, none⟩ = some (.slice A2 o.length c2)) ⟨(Ext.refl _).alloc _, by simp, by go_cell, by go_cell⟩ ?_
  rintro w2 ⟨b2, hs2, d0, d1⟩
  have HD := Lib.hid (And.intro d0 d1)
  replace S1 := Lib.hid (S1.out.ext b2)
  replace S2' := Lib.hid (S2'.out.ext b2)
  replace HB := Lib.hid (HB.out.trans b2)
  clear d0 d1 b2
  have hxl := takeSh_len i o n
  obtain ⟨X1, hX1⟩ : ∃ X, (takeSh i o n).1 = X := ⟨_, rfl⟩
  obtain ⟨X2, hX2⟩ : ∃ X, (takeSh i o n).2 = X := ⟨_, rfl⟩
  rw [hX1, hX2] at hxl
  have HX := Lib.hid (And.intro hX1 hX2)
  clear hX1 hX2
  refine (impl_TakeShared n _ S1.out S2'.out (by omega) (by omega) (HT.out.ext HB.out)).mono ?_
  rw [HX.out.1, HX.out.2]
  rintro e w3 ⟨x1, x2, rfl, hx1, hx2, b3⟩
  obtain ⟨B1, k1, rfl⟩ := hx1.shape
  obtain ⟨B2, k2, rfl⟩ := hx2.shape
  have T1 := Lib.hid hx1.1
  have T2 := Lib.hid hx2.1
  replace S1 := Lib.hid (S1.out.ext b3)
  replace S2' := Lib.hid (S2'.out.ext b3)
  replace HB := Lib.hid (HB.out.trans b3)
  replace HD := Lib.hid (And.intro (b3.cell HD.out.1) (b3.cell HD.out.2))
  clear hx1 hx2 b3
  go_wp2_with fail
  refine wp_world (fun W => Ext w3 W ∧ w3.heap.size < W.heap.size ∧ W.cell? ⟨w3.heap.size, 0, none⟩ = some (.slice B1 X1.length k1) ∧ W.cell? ⟨w3.heap.size, 1, none⟩ = some (.slice B2 X2.length k2)) ⟨(Ext.refl _).alloc _, by simp, by go_cell, by go_cell⟩ ?_
  rintro w4 ⟨b4, hs4, g0, g1⟩
  have HG := Lib.hid (And.intro g0 g1)
  replace S1 := Lib.hid (S1.out.ext b4)
  replace S2' := Lib.hid (S2'.out.ext b4)
  replace T1 := Lib.hid (T1.out.ext b4)
  replace T2 := Lib.hid (T2.out.ext b4)
  replace HB := Lib.hid (HB.out.trans b4)
  replace HD := Lib.hid (And.intro (b4.cell HD.out.1) (b4.cell HD.out.2))
  clear g0 g1 b4
  refine wp_region_typed [21, 22, 23, 24, 25, 26] (by kernel_rfl) (by kernel_rfl) (by kernel_rfl)
    (fun _ V => Ext w4 V)
    (fun j u V => match j with
      | 0 => u = .agg #[.slice B1 X1.length k1, .slice B2 X2.length k2]
      | 1 => u = .agg #[.slice A1 i.length c1, .slice A2 o.length c2]
      | 2 => u = .int .i64 n
      | 3 => ∃ y1 y2, u = .agg #[y1, y2] ∧ Sl1 encI V y1 X1 ∧ Sl1 encI V y2 X2
      | 4 => u = .bool true
      | _ => u = .bool false)
    (fun V V' => Ext V V') (Ext.refl _).drew ?_ ?_ ?_
  · intro j u V V' hS hT'
    match j, hT' with
    | 0, hT' => exact hT'
    | 1, hT' => exact hT'
    | 2, hT' => exact hT'
    | 3, hT' =>
      obtain ⟨y1, y2, rfl, h1, h2⟩ := hT'
      exact ⟨y1, y2, rfl, h1.ext hS, h2.ext hS⟩
    | 4, hT' => exact hT'
    | _ + 5, hT' => exact hT'
  · intro j op ho a n' V hn hR hrest hdeps
    match j, ho with
    | 0, ho =>
      obtain rfl := Option.some.inj ho
      have e1 : a.tmps.getD 5 undef = .pointer (some ⟨w3.heap.size, 0, none⟩) := hrest 5 (by decide)
      have m0 := hR.cell HG.out.1
      have m1 := hR.cell HG.out.2
      simp only [Array.getD_eq_getD_getElem?] at e1
      exact y_val (v := .agg #[.slice B1 X1.length k1, .slice B2 X2.length k2]) (by go_simp) ⟨fun _ => rfl, (fun h => by cases h), hR, Ext.refl _⟩
    | 1, ho =>
      obtain rfl := Option.some.inj ho
      have e1 : a.tmps.getD 3 undef = .pointer (some ⟨w1.heap.size, 0, none⟩) := hrest 3 (by decide)
      have m0 := hR.cell HD.out.1
      have m1 := hR.cell HD.out.2
      simp only [Array.getD_eq_getD_getElem?] at e1
      exact y_val (v := .agg #[.slice A1 i.length c1, .slice A2 o.length c2]) (by go_simp) ⟨fun _ => rfl, (fun h => by cases h), hR, Ext.refl _⟩
    | 2, ho =>
      obtain rfl := Option.some.inj ho
      exact y_move rfl ⟨fun _ => hrest 4 (by decide), (fun h => by cases h), hR, Ext.refl _⟩
    | 3, ho =>
      obtain rfl := Option.some.inj ho
      have e1 : a.tmps.getD 22 undef = .agg #[.slice A1 i.length c1, .slice A2 o.length c2] := hdeps 1 _ 22 ⟨{ on := 1, ground := .data }, by simp, rfl, rfl⟩ rfl rfl
      have e2 : a.tmps.getD 23 undef = .int .i64 n := hdeps 2 _ 23 ⟨{ on := 2, ground := .data }, by simp, rfl, rfl⟩ rfl rfl
      refine y_call (args := #[.agg #[.slice A1 i.length c1, .slice A2 o.length c2], .int .i64 n]) rfl (fun _ _ => by kernel_rfl) (by simp [Act.eval, e1, e2]) ?_
      refine (spec_TakeShared n V (S1.out.ext hR) (S2'.out.ext hR) (by omega) (by omega)).mono ?_
      rw [HX.out.1, HX.out.2]
      rintro e V' ⟨y1, y2, rfl, h1, h2, hb⟩
      exact ⟨_, rfl, fun _ => ⟨y1, y2, rfl, h1.1, h2.1⟩, (fun h => by cases h), hR.trans hb, hb⟩
    | 4, ho =>
      obtain rfl := Option.some.inj ho
      have e1 : a.tmps.getD 21 undef = .agg #[.slice B1 X1.length k1, .slice B2 X2.length k2] := hdeps 0 _ 21 ⟨{ on := 0, ground := .data }, by simp, rfl, rfl⟩ rfl rfl
      obtain ⟨y1, y2, e2, h1, h2⟩ := hdeps 3 _ 24 ⟨{ on := 3, ground := .data }, by simp, rfl, rfl⟩ rfl rfl
      refine y_call (args := #[.agg #[.slice B1 X1.length k1, .slice B2 X2.length k2], .agg #[y1, y2]]) rfl (fun _ _ => by kernel_rfl) (by simp [Act.eval, e1, e2]) ?_
      refine (sameShared_any V (T1.out.ext hR) (T2.out.ext hR) h1 h2 (by omega) (by omega)).mono ?_
      rintro e V' ⟨rfl, hb⟩
      exact ⟨_, rfl, fun _ => rfl, (fun h => by cases h), hR.trans hb, hb⟩
    | 5, ho =>
      obtain rfl := Option.some.inj ho
      have e1 : a.tmps.getD 25 undef = .bool true := hdeps 4 _ 25 ⟨{ on := 4, ground := .data }, by simp, rfl, rfl⟩ rfl rfl
      refine y_val (v := .bool false) ?_ ⟨fun _ => rfl, (fun h => by cases h), hR, Ext.refl _⟩
      simp only [execOp, Act.eval, e1]
      go_simp
    | _ + 6, ho => cases ho
  · intro a w5 b5 hsz hdf hrest htyp hbare
    obtain ⟨z21, e21⟩ : ∃ x, a.tmps.getD 21 undef = x := ⟨_, rfl⟩
    obtain ⟨z22, e22⟩ : ∃ x, a.tmps.getD 22 undef = x := ⟨_, rfl⟩
    obtain ⟨z23, e23⟩ : ∃ x, a.tmps.getD 23 undef = x := ⟨_, rfl⟩
    obtain ⟨z24, e24⟩ : ∃ x, a.tmps.getD 24 undef = x := ⟨_, rfl⟩
    obtain ⟨z25, e25⟩ : ∃ x, a.tmps.getD 25 undef = x := ⟨_, rfl⟩
    have e26 : a.tmps.getD 26 undef = .bool false := htyp 5 _ 26 rfl rfl
    have ha := act_puts hsz hdf hrest [(21, z21), (22, z22), (23, z23), (24, z24), (25, z25), (26, .bool false)] rfl ⟨by decide, fun d hd => (by decide : ∀ d ∈ ([21, 22, 23, 24, 25, 26] : List Nat), d < 90) d hd⟩ (by simp only [List.forall_mem_cons]; exact ⟨e21, e22, e23, e24, e25, e26, fun _ h => by cases h⟩)
    clear hsz hdf hrest htyp hbare e21 e22 e23 e24 e25 e26
    subst ha
    simp only [List.foldl_cons, List.foldl_nil, Act.put, List.setIfInBounds_toArray, List.set_cons_zero, List.set_cons_succ]
    replace S1 := Lib.hid (S1.out.ext b5)
    replace S2' := Lib.hid (S2'.out.ext b5)
    replace T1 := Lib.hid (T1.out.ext b5)
    replace T2 := Lib.hid (T2.out.ext b5)
    replace HB := Lib.hid (HB.out.trans b5)
    have d0 := b5.cell HD.out.1
    have d1 := b5.cell HD.out.2
    have g0 := b5.cell HG.out.1
    have g1 := b5.cell HG.out.2
    clear b5 HD HG
    go_wp2_with fail
    refine (impl_SharedValid _ S1.out S2'.out (by omega) (by omega)).mono ?_
    rintro e w6 ⟨rfl, b6⟩
    replace S1 := Lib.hid (S1.out.ext b6)
    replace S2' := Lib.hid (S2'.out.ext b6)
    replace T1 := Lib.hid (T1.out.ext b6)
    replace T2 := Lib.hid (T2.out.ext b6)
    replace HB := Lib.hid (HB.out.trans b6)
    replace d0 := b6.cell d0
    replace d1 := b6.cell d1
    replace g0 := b6.cell g0
    replace g1 := b6.cell g1
    clear b6
    cases hok : okSh i o with
    | false =>
      have hno : takeSh i o n = ([], []) := by unfold takeSh; rw [if_neg (by simp [hok])]
      obtain rfl : X1 = [] := by rw [← HX.out.1, hno]
      clear hno hok
      simp only [List.length_nil] at g0
      go_wp2_with (go_at_call 11; refine (alive_any _).mono ?_; rintro e w8 ⟨rfl, b8⟩)
      go_returns
      exact ⟨rfl, HB.out.trans b8⟩
    | true =>
      obtain rfl : X1 = i := by rw [← HX.out.1, take_in hok]
      have hok2 : okSh X1 X2 = true := by rw [← HX.out.2]; exact take_ok hok
      have HOUT : Hid ((X1.any fun x => x == n) = false → X2 = o) := Lib.hid fun h => by
        rw [any_mem, decide_eq_false_iff_not] at h
        rw [← HX.out.2, take_out hok, if_neg h]
      have HST : Hid ((X1.any fun x => x == n) = true → n ∉ inSh (putSh X1 X2 n).1 (putSh X1 X2 n).2) := Lib.hid fun h => by
        rw [any_mem, decide_eq_true_eq] at h
        have := take_stays hok h
        rw [HX.out.2] at this
        exact this
      have HOK2 := Lib.hid hok2
      clear hok hok2
      obtain ⟨was, hwas⟩ : ∃ b, (X1.any fun x => x == n) = b := ⟨_, rfl⟩
      rw [hwas] at HOUT HST
      have HW := Lib.hid hwas
      clear hwas
      obtain ⟨_, _, hA, hcell⟩ := S1.out
      injection hA with a1 _ a3
      subst a1 a3
      have HCELL := Lib.hid hcell
      clear hcell
      go_wp2
      go_loopw [6, 7] (fun b k wr => w6 = wr ∧ ∃ (q : Nat) (f : Bool), q ≤ X1.length ∧ k = .int .i64 (q : Int) ∧ b = .bool f ∧ Hid (((X1.take q).any fun x => x == n) = f)) (fun _ k _ => X1.length - (intOf k).toNat)
      case atStart => exact ⟨rfl, 0, false, Nat.zero_le _, rfl, rfl, by show _ = _; simp⟩
      case round =>
        obtain ⟨rfl, q, f, hq, rfl, rfl, HF⟩ := hrel
        by_cases hlt : q < X1.length
        · obtain ⟨b, off, rfl, hbl, hcell⟩ := HCELL.out (by omega)
          obtain ⟨x, hx⟩ := at_some hlt
          have c0 := hcell q x hx
          simp only [encI] at c0
          have HN := Lib.hid (any_more (p := fun x => x == n) hx)
          rw [HF.out] at HN
          clear hcell hx
          cases f with
          | true =>
            go_wp2
            go_roundw
            case rel => exact ⟨trivial, q + 1, true, by omega, by go_num, rfl, by show _ = _; rw [HN.out]; rfl⟩
            case measure => simp [intOf]; omega
          | false =>
            go_wp2
            go_roundw
            case rel => exact ⟨trivial, q + 1, (x == n), by omega, by go_num, by first | rfl | simp, by show _ = _; rw [HN.out]; rfl⟩
            case measure => simp [intOf]; omega
        · obtain rfl : q = X1.length := by omega
          have hf : was = f := by rw [← HW.out, ← HF.out, List.take_length]
          subst hf
          clear HF HW
          go_wp2_with fail
          refine (impl_PutShared n _ T1.out T2.out (by omega) (by omega) (HT.out.ext HB.out)).mono ?_
          rintro e w7 ⟨u1, u2, rfl, hu1, hu2, b7⟩
          have hpl := putSh_len X1 X2 n
          obtain ⟨P1, hP1⟩ : ∃ X, (putSh X1 X2 n).1 = X := ⟨_, rfl⟩
          obtain ⟨P2, hP2⟩ : ∃ X, (putSh X1 X2 n).2 = X := ⟨_, rfl⟩
          rw [hP1] at hu1 hpl HST
          rw [hP2] at hu2 hpl HST
          have U1 := Lib.hid hu1.1
          have U2 := Lib.hid hu2.1
          replace S1 := Lib.hid (S1.out.ext b7)
          replace S2' := Lib.hid (S2'.out.ext b7)
          replace T1 := Lib.hid (T1.out.ext b7)
          replace T2 := Lib.hid (T2.out.ext b7)
          replace HB := Lib.hid (HB.out.trans b7)
          replace d0 := b7.cell d0
          replace d1 := b7.cell d1
          replace g0 := b7.cell g0
          replace g1 := b7.cell g1
          clear b7 hu1 hu2 hP1 hP2 HCELL
          go_wp2_with fail
          refine (impl_InShared _ U1.out U2.out (by omega) (by omega) (HT.out.ext HB.out)).mono ?_
          rintro e w8 ⟨u, rfl, hu, b8⟩
          have hzl := inSh_len P1 P2
          obtain ⟨zs, hzs⟩ : ∃ X, inSh P1 P2 = X := ⟨_, rfl⟩
          rw [hzs] at hu hzl HST
          obtain ⟨A8, c8, rfl⟩ := hu.shape
          obtain ⟨_, _, hA8, hcell8⟩ := hu.1
          injection hA8 with a1 _ a3
          subst a1 a3
          have HCELL := Lib.hid hcell8
          replace S1 := Lib.hid (S1.out.ext b8)
          replace S2' := Lib.hid (S2'.out.ext b8)
          replace T1 := Lib.hid (T1.out.ext b8)
          replace T2 := Lib.hid (T2.out.ext b8)
          replace HB := Lib.hid (HB.out.trans b8)
          replace d0 := b8.cell d0
          replace d1 := b8.cell d1
          replace g0 := b8.cell g0
          replace g1 := b8.cell g1
          clear b8 hu hzs hcell8 U1 U2
          go_wp2
          go_loopw [9] (fun k wr => w8 = wr ∧ ∃ q : Nat, q ≤ zs.length ∧ k = .int .i64 (q : Int)) (fun k _ => zs.length - (intOf k).toNat)
          case atStart => exact ⟨rfl, 0, Nat.zero_le _, rfl⟩
          case round =>
            obtain ⟨rfl, q, hq, rfl⟩ := hrel
            cases was with
            | true =>
              by_cases hlt : q < zs.length
              · obtain ⟨b, off, rfl, hbl, hcell⟩ := HCELL.out (by omega)
                obtain ⟨x, hx⟩ := at_some hlt
                have c0 := hcell q x hx
                simp only [encI] at c0
                have hne : (x == n) = false := by
                  rw [beq_eq_false_iff_ne]
                  intro e
                  subst e
                  exact HST.out rfl (List.mem_of_getElem? hx)
                clear hcell hx
                go_wp2
                go_roundw
                case rel => exact ⟨trivial, q + 1, by omega, by go_num⟩
                case measure => simp [intOf]; omega
              · obtain rfl : q = zs.length := by omega
                go_wp2_with fail
                refine (impl_SharedValid _ T1.out T2.out (by omega) (by omega)).mono ?_
                rw [HOK2.out]
                rintro e w9 ⟨rfl, b9⟩
                replace d0 := b9.cell d0
                replace d1 := b9.cell d1
                replace g0 := b9.cell g0
                replace g1 := b9.cell g1
                replace HB := Lib.hid (HB.out.trans b9)
                go_wp2_with fail
                refine (sameInts_any _ (T1.out.ext b9) (S1.out.ext b9) (by omega)).mono ?_
                rintro e w10 ⟨rfl, b10⟩
                replace HB := Lib.hid (HB.out.trans b10)
                clear b9 b10
                go_wp2
                go_returns
                exact ⟨rfl, HB.out⟩
            | false =>
              obtain rfl : X2 = o := HOUT.out rfl
              by_cases hlt : q < zs.length
              all_goals
                go_wp2_with fail
                refine (impl_SharedValid _ T1.out T2.out (by omega) (by omega)).mono ?_
                rw [HOK2.out]
                rintro e w9 ⟨rfl, b9⟩
                replace d0 := b9.cell d0
                replace d1 := b9.cell d1
                replace g0 := b9.cell g0
                replace g1 := b9.cell g1
                replace HB := Lib.hid (HB.out.trans b9)
                go_wp2_with fail
                refine (sameInts_any _ (T1.out.ext b9) (S1.out.ext b9) (by omega)).mono ?_
                rintro e w10 ⟨rfl, b10⟩
                replace d0 := b10.cell d0
                replace d1 := b10.cell d1
                replace g0 := b10.cell g0
                replace g1 := b10.cell g1
                replace HB := Lib.hid (HB.out.trans b10)
                have b11 := b9.trans b10
                clear b9 b10
                go_wp2_with fail
                refine (sameShared_any _ (T1.out.ext b11) (T2.out.ext b11) (S1.out.ext b11) (S2'.out.ext b11) (by omega) (by omega)).mono ?_
                rintro e w12 ⟨rfl, b12⟩
                replace HB := Lib.hid (HB.out.trans b12)
                clear b11 b12
                go_wp2
                go_returns
                exact ⟨rfl, HB.out⟩
end Go.Proofs.YtiggckhlbklngaaDoor
