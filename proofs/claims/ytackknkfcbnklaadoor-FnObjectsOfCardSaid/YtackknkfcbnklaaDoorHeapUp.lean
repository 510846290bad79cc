/- Objects: the library's heap. -/
import Derived.Test.YtackknkfcbnklaaDoorHeaps
namespace Go.Proofs.YtackknkfcbnklaaDoor
open Go.RowKit
set_option maxRecDepth 8000

theorem swap_len {xs ys : List Int} {i j : Nat} (h : ys.length = xs.length) : (swapL ys i j).length = xs.length := by rw [swapL_len, h]
theorem Fr.grownB {O : Nat} {v : Value} {W W' : World} (h : W.grownBy W' v.ownBlock) : Fr O v W W' := Fr.grown h
theorem kids {k c : Nat} (h0 : 0 < c) (h : (c - 1) / 2 = k) : c = 2 * k + 1 ∨ c = 2 * k + 2 := by omega

theorem pile_load (O : Nat) (W : World) (u : Value) (hc : W.cell? ⟨O, 0, none⟩ = some u) : (loadVar 60 ⟨O, 0, none⟩).run Tryd.prog W = .ok u W := by
  go_simp
theorem wrap_ok (t : TypeId) (a : Addr) (s : String) : Builtin.ssaWrapNilChk_ #[t] t #[.pointer (some a), strVal "", strVal s] = pure (.pointer (some a)) := rfl
theorem pile_less (O : Nat) (W : World) (u : Value) (hc : W.cell? ⟨O, 0, none⟩ = some u) : (method 209 98 (.pointer (some ⟨O, 0, none⟩)) "Less").run Tryd.prog W = .ok (80, u) W := by
  obtain ⟨i, hi, hm⟩ := Option.map_eq_some_iff.1 (show (Tryd.prog.info? 98).map (fun i => (i.methods.find? (·.name == "Less")).map fun m => (m.path.isEmpty, m.path.toList, m.func)) = some (some (true, [], some (80, false))) by kernel_rfl)
  obtain ⟨m, hm1, hm2⟩ := Option.map_eq_some_iff.1 hm
  simp only [Prod.mk.injEq] at hm2
  have hp : m.path = #[] := Array.isEmpty_iff.1 hm2.1
  have hl := pile_load O W u hc
  unfold method
  simp [typeInfo, hi, hm1, hm2, hp, follow, receiverAt, run_underlying Tryd.underlying98, wrap_ok, Place.get, asAddr, hl]
theorem pile_swap (O : Nat) (W : World) (u : Value) (hc : W.cell? ⟨O, 0, none⟩ = some u) : (method 209 98 (.pointer (some ⟨O, 0, none⟩)) "Swap").run Tryd.prog W = .ok (81, u) W := by
  obtain ⟨i, hi, hm⟩ := Option.map_eq_some_iff.1 (show (Tryd.prog.info? 98).map (fun i => (i.methods.find? (·.name == "Swap")).map fun m => (m.path.isEmpty, m.path.toList, m.func)) = some (some (true, [], some (81, false))) by kernel_rfl)
  obtain ⟨m, hm1, hm2⟩ := Option.map_eq_some_iff.1 hm
  simp only [Prod.mk.injEq] at hm2
  have hp : m.path = #[] := Array.isEmpty_iff.1 hm2.1
  have hl := pile_load O W u hc
  unfold method
  simp [typeInfo, hi, hm1, hm2, hp, follow, receiverAt, run_underlying Tryd.underlying98, wrap_ok, Place.get, asAddr, hl]
theorem pile_len (O : Nat) (W : World) (u : Value) (hc : W.cell? ⟨O, 0, none⟩ = some u) : (method 209 98 (.pointer (some ⟨O, 0, none⟩)) "Len").run Tryd.prog W = .ok (79, u) W := by
  obtain ⟨i, hi, hm⟩ := Option.map_eq_some_iff.1 (show (Tryd.prog.info? 98).map (fun i => (i.methods.find? (·.name == "Len")).map fun m => (m.path.isEmpty, m.path.toList, m.func)) = some (some (true, [], some (79, false))) by kernel_rfl)
  obtain ⟨m, hm1, hm2⟩ := Option.map_eq_some_iff.1 hm
  simp only [Prod.mk.injEq] at hm2
  have hp : m.path = #[] := Array.isEmpty_iff.1 hm2.1
  have hl := pile_load O W u hc
  unfold method
  simp [typeInfo, hi, hm1, hm2, hp, follow, receiverAt, run_underlying Tryd.underlying98, wrap_ok, Place.get, asAddr, hl]
set_option maxHeartbeats 4000000 in
theorem h_up {T base O n : Nat} {A : Option Addr} {c : Nat} {xs : List Int} (j : Nat) (W : World) (h : ObjAt T base O W (.slice A n c) xs) (hT : T ≠ 3) (hxl : xs.length = n) (hn : n ≤ 1000) (hj : j < n) (hu : UpTo xs n j) :
    Calls Tryd.prog 77 #[.iface 98 (.pointer (some ⟨O, 0, none⟩)), .int .i64 (j : Int)] W fun e W' => e = .returned (.tuple #[]) ∧ ∃ ys, ys.Perm xs ∧ Heap ys n ∧ ObjAt T base O W' (.slice A n c) ys ∧ Fr O (.slice A n c) W W' := by
  have H := Lib.hid h
  have HU := Lib.hid hu
  clear h hu
  go_enter Tryd.func77, Tryd.ntmps77
  go_wp2
  go_loopw [1] (fun a wr => ∃ (k : Nat) (ys : List Int), a = .int .i64 (k : Int) ∧ k < n ∧ Hid (ys.Perm xs ∧ UpTo ys n k ∧ ObjAt T base O wr (.slice A n c) ys ∧ Fr O (.slice A n c) W wr)) (fun a _ => (intOf a).toNat)
  case atStart => exact ⟨j, xs, rfl, hj, List.Perm.refl _, HU.out, H.out, Fr.refl _ _ _⟩
  case round =>
    clear hj
    obtain ⟨k, ys, rfl, hk, HI⟩ := hrel
    have hyl : ys.length = n := HI.out.1.length_eq.trans hxl
    have c0 := HI.out.2.2.1.1.cell
    rcases Nat.eq_zero_or_pos k with h0 | h0
    · subst h0
      have HD := Lib.hid (HI.out.2.1.done (.inl rfl))
      go_wp2
      go_end0
      exact ⟨rfl, ys, HI.out.1, HD.out, HI.out.2.2.1, HI.out.2.2.2⟩
    · obtain ⟨i, hi⟩ : ∃ i, (k - 1) / 2 = i := ⟨_, rfl⟩
      have hik : i < k := by omega
      have hq : ((k : Int) - 1) / 2 = (i : Int) := by omega
      have hqt : ((k : Int) - 1).tdiv 2 = (i : Int) := by rw [Int.tdiv_eq_ediv_of_nonneg (by omega)]; omega
      have hne : ((i : Int) == (k : Int)) = false := by rw [beq_eq_false_iff_ne]; omega
      have HK := Lib.hid hi
      clear hi
      have hml := pile_less O wr _ c0
      go_wp2_with fail
      refine (p_less k i _ HI.out.2.2.1.2 (by omega) (by omega)).mono ?_
      by_cases hlt : gD ys k < gD ys i
      · rw [decide_eq_true hlt]
        rintro e w1 ⟨rfl, b1⟩
        have c1 := b1.cell c0
        have B1 := Lib.hid b1
        have HLT := Lib.hid hlt
        have hms := pile_swap O w1 _ c1
        clear hlt b1 c0 hml
        go_wp2_with fail
        refine (p_swap i k _ (HI.out.2.2.1.2.ext B1.out) (by omega) (by omega)).mono ?_
        rintro e w2 ⟨rfl, q2, g2⟩
        have hb2 : Boxed w2 O T (.slice A n c) := (boxed_ext HI.out.2.2.1.1 B1.out).kept g2 (box_apart (boxed_ext HI.out.2.2.1.1 B1.out) (HI.out.2.2.1.2.ext B1.out) hT)
        have hu2 : UpTo (swapL ys i k) n i := by
          have := HI.out.2.1.swap h0 (by omega) (by omega) (by rw [HK.out]; exact HLT.out)
          rwa [HK.out] at this
        have HN : Hid ((swapL ys i k).Perm xs ∧ UpTo (swapL ys i k) n i ∧ ObjAt T base O w2 (.slice A n c) (swapL ys i k) ∧ Fr O (.slice A n c) W w2) := ⟨(swapL_perm (by omega) (by omega)).trans HI.out.1, hu2, ⟨hb2, q2⟩, (HI.out.2.2.2.trans (Fr.of_ext B1.out) (.inl rfl)).trans (Fr.grown g2) (.inl rfl)⟩
        clear q2 g2 hb2 hu2
        go_wp2
        go_roundw
        case rel => exact ⟨i, _, rfl, by omega, HN.out⟩
        case measure => simp [intOf]; omega
      · rw [decide_eq_false hlt]
        rintro e w1 ⟨rfl, b1⟩
        have HD := Lib.hid (HI.out.2.1.done (.inr (by rw [HK.out]; omega)))
        have B1 := Lib.hid b1
        clear hlt b1 c0
        go_wp2
        go_end0
        exact ⟨rfl, ys, HI.out.1, HD.out, ⟨boxed_ext HI.out.2.2.1.1 B1.out, HI.out.2.2.1.2.ext B1.out⟩, HI.out.2.2.2.trans (Fr.of_ext B1.out) (.inl rfl)⟩
set_option maxHeartbeats 8000000 in
theorem h_down {T base O n : Nat} {A : Option Addr} {c N : Nat} {xs : List Int} (W : World) (h : ObjAt T base O W (.slice A N c) xs) (hT : T ≠ 3) (hN : N = n + 1) (hxl : xs.length = N) (hn : n ≤ 1000) (hu : DownTo xs n 0) :
    Calls Tryd.prog 78 #[.iface 98 (.pointer (some ⟨O, 0, none⟩)), .int .i64 0, .int .i64 (n : Int)] W fun e W' => (∃ b, e = .returned (.bool b)) ∧ ∃ ys, ys.Perm xs ∧ Heap ys n ∧ gD ys n = gD xs n ∧ ObjAt T base O W' (.slice A N c) ys ∧ Fr O (.slice A N c) W W' := by
  have H := Lib.hid h
  have HU := Lib.hid hu
  have HNN := Lib.hid hN
  clear h hu hN
  go_enter Tryd.func78, Tryd.ntmps78
  go_wp2
  go_loopw [7] (fun a wr => ∃ (k : Nat) (ys : List Int), a = .int .i64 (k : Int) ∧ k ≤ n ∧ Hid (ys.Perm xs ∧ DownTo ys n k ∧ gD ys n = gD xs n ∧ ObjAt T base O wr (.slice A N c) ys ∧ Fr O (.slice A N c) W wr)) (fun a _ => n - (intOf a).toNat)
  case atStart => exact ⟨0, xs, rfl, Nat.zero_le _, List.Perm.refl _, HU.out, rfl, H.out, Fr.refl _ _ _⟩
  case round =>
    obtain ⟨k, ys, rfl, hk, HI⟩ := hrel
    have hyl : ys.length = n + 1 := by rw [HI.out.1.length_eq, hxl, HNN.out]
    have c0 := HI.out.2.2.2.1.1.cell
    by_cases hlt : 2 * k + 1 < n
    · obtain ⟨p, hp⟩ : ∃ p, 2 * k + 1 = p := ⟨_, rfl⟩
      have hpi : (2 : Int) * (k : Int) + 1 = (p : Int) := by omega
      have hpn : p < n := by omega
      have HP := Lib.hid hp
      clear hp hlt
      by_cases hp2 : p + 1 < n
      · obtain ⟨q, hq⟩ : ∃ q, p + 1 = q := ⟨_, rfl⟩
        have hqi : (p : Int) + 1 = (q : Int) := by omega
        have hqn : q < n := by omega
        have hml := pile_less O wr _ c0
        have HQ := Lib.hid hq
        clear hp2 hq
        go_wp2_with fail
        refine (p_less q p _ HI.out.2.2.2.1.2 (by omega) (by omega)).mono ?_
        by_cases hle : gD ys q < gD ys p
        · rw [decide_eq_true hle]
          rintro e w1 ⟨rfl, b1⟩
          have c1 := b1.cell c0
          have B1 := Lib.hid b1
          have HM : Hid (∀ c, 0 < c → c < n → (c - 1) / 2 = k → gD ys q ≤ gD ys c) := fun c h0 hc he => by
            have h1 := HP.out
            have h2 := HQ.out
            rcases kids h0 he with h | h
            · rw [show c = p by omega]; omega
            · rw [show c = q by omega]; exact Int.le_refl _
          have hkq : k < q := by have := HP.out; have := HQ.out; omega
          have HKQ : Hid ((q - 1) / 2 = k) := by show _ = _; have := HP.out; have := HQ.out; omega
          clear hle b1 c0 hml
          have hml2 := pile_less O w1 _ c1
          go_wp2_with fail
          refine (p_less q k _ (HI.out.2.2.2.1.2.ext B1.out) (by omega) (by omega)).mono ?_
          by_cases hlt : gD ys q < gD ys k
          · rw [decide_eq_true hlt]
            rintro e w2 ⟨rfl, b2⟩
            have c2 := b2.cell c1
            have B2 := Lib.hid (B1.out.trans b2)
            have HLT := Lib.hid hlt
            have hms := pile_swap O w2 _ c2
            clear hlt b2 c1 hml2
            go_wp2_with fail
            refine (p_swap k q _ (HI.out.2.2.2.1.2.ext B2.out) (by omega) (by omega)).mono ?_
            rintro e w3 ⟨rfl, q3, g3⟩
            have hb3 : Boxed w3 O T (.slice A N c) := (boxed_ext HI.out.2.2.2.1.1 B2.out).kept g3 (box_apart (boxed_ext HI.out.2.2.2.1.1 B2.out) (HI.out.2.2.2.1.2.ext B2.out) hT)
            have hu3 : DownTo (swapL ys k q) n q := HI.out.2.1.swap (by omega) HKQ.out (by omega) (by omega) HLT.out HM.out
            have hl3 : gD (swapL ys k q) n = gD xs n := by rw [gD_swap (by omega) (by omega), if_neg (by omega), if_neg (by omega)]; exact HI.out.2.2.1
            have HN : Hid ((swapL ys k q).Perm xs ∧ DownTo (swapL ys k q) n q ∧ gD (swapL ys k q) n = gD xs n ∧ ObjAt T base O w3 (.slice A N c) (swapL ys k q) ∧ Fr O (.slice A N c) W w3) := ⟨(swapL_perm (by omega) (by omega)).trans HI.out.1, hu3, hl3, ⟨hb3, q3⟩, (HI.out.2.2.2.2.trans (Fr.of_ext B2.out) (.inl rfl)).trans (Fr.grown g3) (.inl rfl)⟩
            clear q3 g3 hb3 hu3 hl3
            go_wp2
            go_roundw
            case rel => exact ⟨q, _, rfl, by omega, HN.out⟩
            case measure => simp [intOf]; omega
          · rw [decide_eq_false hlt]
            rintro e w2 ⟨rfl, b2⟩
            have HD := Lib.hid (HI.out.2.1.done (fun c h0 hc he => by have := HM.out c h0 hc he; omega))
            have B2 := Lib.hid (B1.out.trans b2)
            clear hlt b2 c1 hml2
            go_wp2
            go_returns
            exact ⟨⟨_, rfl⟩, ys, HI.out.1, HD.out, HI.out.2.2.1, ⟨boxed_ext HI.out.2.2.2.1.1 B2.out, HI.out.2.2.2.1.2.ext B2.out⟩, HI.out.2.2.2.2.trans (Fr.of_ext B2.out) (.inl rfl)⟩
        · rw [decide_eq_false hle]
          rintro e w1 ⟨rfl, b1⟩
          have c1 := b1.cell c0
          have B1 := Lib.hid b1
          have HM : Hid (∀ c, 0 < c → c < n → (c - 1) / 2 = k → gD ys p ≤ gD ys c) := fun c h0 hc he => by
            have h1 := HP.out
            have h2 := HQ.out
            rcases kids h0 he with h | h
            · rw [show c = p by omega]; exact Int.le_refl _
            · rw [show c = q by omega]; omega
          have hkp : k < p := by have := HP.out; omega
          have HKQ : Hid ((p - 1) / 2 = k) := by show _ = _; have := HP.out; omega
          clear hle b1 c0 hml
          have hml2 := pile_less O w1 _ c1
          go_wp2_with fail
          refine (p_less p k _ (HI.out.2.2.2.1.2.ext B1.out) (by omega) (by omega)).mono ?_
          by_cases hlt : gD ys p < gD ys k
          · rw [decide_eq_true hlt]
            rintro e w2 ⟨rfl, b2⟩
            have c2 := b2.cell c1
            have B2 := Lib.hid (B1.out.trans b2)
            have HLT := Lib.hid hlt
            have hms := pile_swap O w2 _ c2
            clear hlt b2 c1 hml2
            go_wp2_with fail
            refine (p_swap k p _ (HI.out.2.2.2.1.2.ext B2.out) (by omega) (by omega)).mono ?_
            rintro e w3 ⟨rfl, q3, g3⟩
            have hb3 : Boxed w3 O T (.slice A N c) := (boxed_ext HI.out.2.2.2.1.1 B2.out).kept g3 (box_apart (boxed_ext HI.out.2.2.2.1.1 B2.out) (HI.out.2.2.2.1.2.ext B2.out) hT)
            have hu3 : DownTo (swapL ys k p) n p := HI.out.2.1.swap (by omega) HKQ.out (by omega) (by omega) HLT.out HM.out
            have hl3 : gD (swapL ys k p) n = gD xs n := by rw [gD_swap (by omega) (by omega), if_neg (by omega), if_neg (by omega)]; exact HI.out.2.2.1
            have HN : Hid ((swapL ys k p).Perm xs ∧ DownTo (swapL ys k p) n p ∧ gD (swapL ys k p) n = gD xs n ∧ ObjAt T base O w3 (.slice A N c) (swapL ys k p) ∧ Fr O (.slice A N c) W w3) := ⟨(swapL_perm (by omega) (by omega)).trans HI.out.1, hu3, hl3, ⟨hb3, q3⟩, (HI.out.2.2.2.2.trans (Fr.of_ext B2.out) (.inl rfl)).trans (Fr.grown g3) (.inl rfl)⟩
            clear q3 g3 hb3 hu3 hl3
            go_wp2
            go_roundw
            case rel => exact ⟨p, _, rfl, by omega, HN.out⟩
            case measure => simp [intOf]; omega
          · rw [decide_eq_false hlt]
            rintro e w2 ⟨rfl, b2⟩
            have HD := Lib.hid (HI.out.2.1.done (fun c h0 hc he => by have := HM.out c h0 hc he; omega))
            have B2 := Lib.hid (B1.out.trans b2)
            clear hlt b2 c1 hml2
            go_wp2
            go_returns
            exact ⟨⟨_, rfl⟩, ys, HI.out.1, HD.out, HI.out.2.2.1, ⟨boxed_ext HI.out.2.2.2.1.1 B2.out, HI.out.2.2.2.1.2.ext B2.out⟩, HI.out.2.2.2.2.trans (Fr.of_ext B2.out) (.inl rfl)⟩
      · have hge2 : (n : Int) ≤ (p : Int) + 1 := by omega
        have c1 := c0
        have B1 := Lib.hid (Ext.refl wr)
        have HM : Hid (∀ c, 0 < c → c < n → (c - 1) / 2 = k → gD ys p ≤ gD ys c) := fun c h0 hc he => by
          have h1 := HP.out
          rcases kids h0 he with h | h
          · rw [show c = p by omega]; exact Int.le_refl _
          · omega
        have hkp : k < p := by have := HP.out; omega
        have HKQ : Hid ((p - 1) / 2 = k) := by show _ = _; have := HP.out; omega
        clear c0
        have hml2 := pile_less O wr _ c1
        go_wp2_with fail
        refine (p_less p k _ (HI.out.2.2.2.1.2.ext B1.out) (by omega) (by omega)).mono ?_
        by_cases hlt : gD ys p < gD ys k
        · rw [decide_eq_true hlt]
          rintro e w2 ⟨rfl, b2⟩
          have c2 := b2.cell c1
          have B2 := Lib.hid (B1.out.trans b2)
          have HLT := Lib.hid hlt
          have hms := pile_swap O w2 _ c2
          clear hlt b2 c1 hml2
          go_wp2_with fail
          refine (p_swap k p _ (HI.out.2.2.2.1.2.ext B2.out) (by omega) (by omega)).mono ?_
          rintro e w3 ⟨rfl, q3, g3⟩
          have hb3 : Boxed w3 O T (.slice A N c) := (boxed_ext HI.out.2.2.2.1.1 B2.out).kept g3 (box_apart (boxed_ext HI.out.2.2.2.1.1 B2.out) (HI.out.2.2.2.1.2.ext B2.out) hT)
          have hu3 : DownTo (swapL ys k p) n p := HI.out.2.1.swap (by omega) HKQ.out (by omega) (by omega) HLT.out HM.out
          have hl3 : gD (swapL ys k p) n = gD xs n := by rw [gD_swap (by omega) (by omega), if_neg (by omega), if_neg (by omega)]; exact HI.out.2.2.1
          have HN : Hid ((swapL ys k p).Perm xs ∧ DownTo (swapL ys k p) n p ∧ gD (swapL ys k p) n = gD xs n ∧ ObjAt T base O w3 (.slice A N c) (swapL ys k p) ∧ Fr O (.slice A N c) W w3) := ⟨(swapL_perm (by omega) (by omega)).trans HI.out.1, hu3, hl3, ⟨hb3, q3⟩, (HI.out.2.2.2.2.trans (Fr.of_ext B2.out) (.inl rfl)).trans (Fr.grown g3) (.inl rfl)⟩
          clear q3 g3 hb3 hu3 hl3
          go_wp2
          go_roundw
          case rel => exact ⟨p, _, rfl, by omega, HN.out⟩
          case measure => simp [intOf]; omega
        · rw [decide_eq_false hlt]
          rintro e w2 ⟨rfl, b2⟩
          have HD := Lib.hid (HI.out.2.1.done (fun c h0 hc he => by have := HM.out c h0 hc he; omega))
          have B2 := Lib.hid (B1.out.trans b2)
          clear hlt b2 c1 hml2
          go_wp2
          go_returns
          exact ⟨⟨_, rfl⟩, ys, HI.out.1, HD.out, HI.out.2.2.1, ⟨boxed_ext HI.out.2.2.2.1.1 B2.out, HI.out.2.2.2.1.2.ext B2.out⟩, HI.out.2.2.2.2.trans (Fr.of_ext B2.out) (.inl rfl)⟩
    · have HD := Lib.hid (HI.out.2.1.done (fun c h0 hc he => by have := kids h0 he; omega))
      have hge : (n : Int) ≤ 2 * (k : Int) + 1 := by omega
      go_wp2
      go_returns
      exact ⟨⟨_, rfl⟩, ys, HI.out.1, HD.out, HI.out.2.2.1, HI.out.2.2.2.1, HI.out.2.2.2.2⟩
end Go.Proofs.YtackknkfcbnklaaDoor
