/- Shared sets of the program: TakeShared, PutShared, InShared. -/
import Derived.Test.YtiggckhlbklngaaDoorSharedI
namespace Go.Proofs.YtiggckhlbklngaaDoor
open Go.RowKit
set_option maxRecDepth 8000

/-- What TakeShared and PutShared return. -/
def takeSh (i o : List Int) (n : Int) : List Int × List Int := if okSh i o = true then (i, if n ∈ i then putL o n else o) else ([], [])
def putSh (i o : List Int) (n : Int) : List Int × List Int := if okSh i o = true ∧ inB n 0 30 = true then (putL i n, o) else ([], [])
theorem setV_ok {xs : List Int} (h : okS xs) : setV xs = setL xs := by unfold setV; rw [if_pos h]
theorem not_in {i : List Int} {n : Int} (hi : okS i) (hn : inB n 0 30 = false) : n ∉ i := fun h => by
  rw [inB_true.2 (hi.1 n h)] at hn; cases hn
set_option maxHeartbeats 4000000 in
theorem impl_TakeShared {vi vo : Value} {i o : List Int} (n : Int) (w : World) (hi : Sl1 encI w vi i) (ho : Sl1 encI w vo o) (hli : i.length ≤ 2097152) (hlo : o.length ≤ 2097152) (hT : Tab64 1 w) :
    Calls Tryd.prog 25 #[.agg #[vi, vo], .int .i64 n] w (RetSh w (takeSh i o n).1 (takeSh i o n).2) := by
  have hE : Ext w ((w.alloc (.cells #[vi, vo] 40)).alloc (.cells #[.slice none 0 0, .slice none 0 0] 40)) := ((Ext.refl w).alloc _).alloc _
  have HS := Lib.hid (sets_any _ (hi.ext hE) (ho.ext hE) hli hlo)
  have HT := Lib.hid hT
  have HE := Lib.hid hE
  have hblk0 := BlkN.made (w.alloc (.cells #[vi, vo] 40)) #[.slice none 0 0, .slice none 0 0] 40
  have hsz : (w.alloc (.cells #[vi, vo] 40)).heap.size = w.heap.size + 1 := by simp
  rw [hsz] at hblk0
  have HBLK0 := Lib.hid hblk0
  have HSZ : Hid (((w.alloc (.cells #[vi, vo] 40)).alloc (.cells #[.slice none 0 0, .slice none 0 0] 40)).heap.size = w.heap.size + 2) := by show _ = _; simp
  clear hi ho hE hT hblk0 hsz
  have haV := setV_lt i
  have hbV := setV_lt o
  obtain ⟨a, ha⟩ : ∃ a, setV i = a := ⟨_, rfl⟩
  obtain ⟨b, hb⟩ : ∃ b, setV o = b := ⟨_, rfl⟩
  rw [ha, hb] at HS
  rw [ha] at haV
  rw [hb] at hbV
  have HAB := Lib.hid (And.intro ha hb)
  clear ha hb
  cases hok : okSh i o with
  | false =>
    have HF : Hid (takeSh i o n = ([], [])) := by show _ = _; unfold takeSh; rw [hok]; rfl
    rw [hok] at HS
    rw [HF.out]
    go_enter Tryd.func25, Tryd.ntmps25
    go_wp2_with fail
    refine HS.out.mono ?_
    rintro e w1 ⟨rfl, b1⟩
    have hblk := HBLK0.out.ext b1
    have HE1 := Lib.hid (HE.out.trans b1)
    obtain ⟨hf0, hf1, ⟨d0, hd0⟩, ⟨d1, hd1⟩, hs0, hs1'⟩ := box_facts hblk (.slice none 0 0) (.slice none 0 0)
    clear b1 hblk
    go_wp2
    refine bodyPost_ret (v := .agg #[.slice none 0 0, .slice none 0 0]) (by simp [results, Tryd.results25, go_sem, hs0, hs1']) rfl ?_
    exact ⟨_, _, rfl, Val0.nil _ _, Val0.nil _ _, (HE1.out.setCell (by simp) _).setCell (by simp) _⟩
  | true =>
    obtain ⟨oki, oko, -⟩ := okSh_true.1 hok
    rw [hok] at HS
    have HOK := Lib.hid (And.intro oki oko)
    have htk : takeSh i o n = (i, if n ∈ i then putL o n else o) := by unfold takeSh; rw [if_pos hok]
    obtain ⟨ZS, hZS⟩ : ∃ ZS, (if n ∈ i then putL o n else o) = ZS := ⟨_, rfl⟩
    rw [hZS] at htk
    have HTK := Lib.hid htk
    have HZS := Lib.hid hZS
    have HMA : Hid (memb31 a = i) := by show _ = _; rw [← HAB.out.1, setV_ok oki]; exact memb_setL oki
    rw [HTK.out]
    clear hok oki oko htk hZS
    cases hn : inB n 0 30 with
    | false =>
      have HMB : Hid (memb31 b = ZS) := by
        show _ = _
        rw [← HZS.out, if_neg (not_in HOK.out.1 hn), ← HAB.out.2, setV_ok HOK.out.2]; exact memb_setL HOK.out.2
      go_enter Tryd.func25, Tryd.ntmps25
      go_wp2_with fail
      refine HS.out.mono ?_
      rintro e w1 ⟨rfl, b1⟩
      have HE1 := Lib.hid (HE.out.trans b1)
      have HB1 := Lib.hid b1
      clear b1
      go_wp2_with fail
      refine (within_any _ _ _ _).mono ?_
      rw [hn]
      rintro e w2 ⟨rfl, rfl⟩
      go_wp2_with fail
      refine (sharedOf_any a b _ (by omega) (by omega) (HT.out.ext HE1.out)).mono ?_
      rw [HMA.out, HMB.out]
      rintro e w3 ⟨x, y, rfl, hx, hy, b3⟩
      obtain ⟨A1, c1, rfl, -⟩ := id hx.1
      obtain ⟨A2, c2, rfl, -⟩ := id hy.1
      have hblk := (HBLK0.out.ext HB1.out).ext b3
      obtain ⟨hf0, hf1, ⟨d0, hd0⟩, ⟨d1, hd1⟩, hs0, hs1'⟩ := box_facts hblk (.slice A1 i.length c1) (.slice A2 ZS.length c2)
      have HX := Lib.hid hx
      have HY := Lib.hid hy
      have HE3 := Lib.hid (HE1.out.trans b3)
      have hlo1 : w.heap.size + 1 < w1.heap.size := by have := HB1.out.size; rw [HSZ.out] at this; omega
      clear b3 hblk hx hy
      go_wp2
      refine bodyPost_ret (v := .agg #[.slice A1 i.length c1, .slice A2 ZS.length c2]) (by simp [results, Tryd.results25, go_sem, hs0, hs1']) rfl ?_
      exact ⟨_, _, rfl, ((HX.out.set hlo1).set hlo1).low (by omega), ((HY.out.set hlo1).set hlo1).low (by omega), (HE3.out.setCell (by simp) _).setCell (by simp) _⟩
    | true =>
      have hn' := inB_true.1 hn
      obtain ⟨j, rfl⟩ := Int.eq_ofNat_of_zero_le hn'.1
      have hj : j ≤ 30 := by omega
      have hp : 2 ^ j < 2 ^ 31 := Nat.pow_lt_pow_right (by omega) (by omega)
      have hand : bits .and .u64 (a : Int) (IntKind.u64.wrap (2 ^ j)) = ((a &&& 2 ^ j : Nat) : Int) := by
        rw [show (2 ^ j : Int) = ((2 ^ j : Nat) : Int) by simp, u64_wrap _ (by omega), u64_and _ _ (by omega) (by omega)]
      have hac : a &&& 2 ^ j ≤ a := Nat.and_le_left
      have hor := u64_or b (a &&& 2 ^ j) (by omega) (by omega)
      have hor31 : b ||| (a &&& 2 ^ j) < 2 ^ 31 := Nat.or_lt_two_pow (by omega) (by omega)
      have HMB : Hid (memb31 (b ||| (a &&& 2 ^ j)) = ZS) := by
        show _ = _
        rw [← HZS.out, ← take_bits HOK.out.1 HOK.out.2 hj, ← HAB.out.2, ← HAB.out.1, setV_ok HOK.out.1, setV_ok HOK.out.2]
      obtain ⟨c, hc⟩ : ∃ c, a &&& 2 ^ j = c := ⟨_, rfl⟩
      rw [hc] at hand hor hor31 HMB
      obtain ⟨d, hd⟩ : ∃ d, b ||| c = d := ⟨_, rfl⟩
      rw [hd] at hor hor31 HMB
      have HD := Lib.hid hor31
      clear hc hd hac hp hn' hor31
      go_enter Tryd.func25, Tryd.ntmps25
      go_wp2_with fail
      refine HS.out.mono ?_
      rintro e w1 ⟨rfl, b1⟩
      have HE1 := Lib.hid (HE.out.trans b1)
      have HB1 := Lib.hid b1
      clear b1
      go_wp2_with fail
      refine (within_any _ _ _ _).mono ?_
      rw [hn]
      rintro e w2 ⟨rfl, rfl⟩
      go_wp2_with fail
      refine (sharedOf_any a d _ (by omega) HD.out (HT.out.ext HE1.out)).mono ?_
      rw [HMA.out, HMB.out]
      rintro e w3 ⟨x, y, rfl, hx, hy, b3⟩
      obtain ⟨A1, c1, rfl, -⟩ := id hx.1
      obtain ⟨A2, c2, rfl, -⟩ := id hy.1
      have hblk := (HBLK0.out.ext HB1.out).ext b3
      obtain ⟨hf0, hf1, ⟨d0, hd0⟩, ⟨d1, hd1⟩, hs0, hs1'⟩ := box_facts hblk (.slice A1 i.length c1) (.slice A2 ZS.length c2)
      have HX := Lib.hid hx
      have HY := Lib.hid hy
      have HE3 := Lib.hid (HE1.out.trans b3)
      have hlo1 : w.heap.size + 1 < w1.heap.size := by have := HB1.out.size; rw [HSZ.out] at this; omega
      clear b3 hblk hx hy
      go_wp2
      refine bodyPost_ret (v := .agg #[.slice A1 i.length c1, .slice A2 ZS.length c2]) (by simp [results, Tryd.results25, go_sem, hs0, hs1']) rfl ?_
      exact ⟨_, _, rfl, ((HX.out.set hlo1).set hlo1).low (by omega), ((HY.out.set hlo1).set hlo1).low (by omega), (HE3.out.setCell (by simp) _).setCell (by simp) _⟩
/-- What is in it. -/
def inSh (i o : List Int) : List Int := if okSh i o = true then memb31 (dif (setV i) (setV o)) else []
set_option maxHeartbeats 2000000 in
theorem impl_InShared {vi vo : Value} {i o : List Int} (w : World) (hi : Sl1 encI w vi i) (ho : Sl1 encI w vo o) (hli : i.length ≤ 2097152) (hlo : o.length ≤ 2097152) (hT : Tab64 1 w) :
    Calls Tryd.prog 29 #[.agg #[vi, vo]] w fun e w' => ∃ v, e = .returned v ∧ Val0 w.heap.size w' v (inSh i o) ∧ Ext w w' := by
  have hE : Ext w (w.alloc (.cells #[vi, vo] 40)) := (Ext.refl w).alloc _
  have HS := Lib.hid (sets_any _ (hi.ext hE) (ho.ext hE) hli hlo)
  have HT := Lib.hid hT
  have HE := Lib.hid hE
  clear hi ho hE hT
  have haV := setV_lt i
  have hbV := setV_lt o
  have hdif := u64_dif (setV i) (setV o) (by omega) (by omega)
  have hdl := dif_lt (b := setV o) (show setV i < 2 ^ 31 by omega)
  cases hok : okSh i o with
  | false =>
    have HF : Hid (inSh i o = []) := by show _ = _; unfold inSh; rw [hok]; rfl
    rw [hok] at HS
    rw [HF.out]
    clear hdif hdl
    go_enter Tryd.func29, Tryd.ntmps29
    go_wp2_with fail
    refine HS.out.mono ?_
    rintro e w1 ⟨rfl, b1⟩
    go_wp2
    go_returns
    exact ⟨_, rfl, Val0.nil _ _, HE.out.trans b1⟩
  | true =>
    have HF : Hid (inSh i o = memb31 (dif (setV i) (setV o))) := by show _ = _; unfold inSh; rw [if_pos hok]
    rw [hok] at HS
    rw [HF.out]
    obtain ⟨a, ha⟩ : ∃ a, setV i = a := ⟨_, rfl⟩
    obtain ⟨b, hb⟩ : ∃ b, setV o = b := ⟨_, rfl⟩
    obtain ⟨d, hd⟩ : ∃ d, dif a b = d := ⟨_, rfl⟩
    rw [ha, hb] at HS hdif hdl ⊢
    rw [hd] at hdif hdl ⊢
    have HD := Lib.hid hdl
    clear ha hb hd hdl haV hbV hok HF
    go_enter Tryd.func29, Tryd.ntmps29
    go_wp2_with fail
    refine HS.out.mono ?_
    rintro e w1 ⟨rfl, b1⟩
    have HE1 := Lib.hid (HE.out.trans b1)
    clear b1
    go_wp2_with fail
    refine (members_31 d _ HD.out (HT.out.ext HE1.out)).mono ?_
    rintro e w2 ⟨v, rfl, hr, b2⟩
    have HV := Lib.hid ((Val0.of_row hr).low HE1.out.size)
    have HE2 := Lib.hid (HE1.out.trans b2)
    clear hr b2
    go_wp2
    go_returns
    exact ⟨_, rfl, HV.out, HE2.out⟩
set_option maxHeartbeats 4000000 in
theorem impl_PutShared {vi vo : Value} {i o : List Int} (n : Int) (w : World) (hi : Sl1 encI w vi i) (ho : Sl1 encI w vo o) (hli : i.length ≤ 2097152) (hlo : o.length ≤ 2097152) (hT : Tab64 1 w) :
    Calls Tryd.prog 30 #[.agg #[vi, vo], .int .i64 n] w (RetSh w (putSh i o n).1 (putSh i o n).2) := by
  have hE : Ext w ((w.alloc (.cells #[vi, vo] 40)).alloc (.cells #[.slice none 0 0, .slice none 0 0] 40)) := ((Ext.refl w).alloc _).alloc _
  have HS := Lib.hid (sets_any _ (hi.ext hE) (ho.ext hE) hli hlo)
  have HT := Lib.hid hT
  have HE := Lib.hid hE
  have hblk0 := BlkN.made (w.alloc (.cells #[vi, vo] 40)) #[.slice none 0 0, .slice none 0 0] 40
  have hsz : (w.alloc (.cells #[vi, vo] 40)).heap.size = w.heap.size + 1 := by simp
  rw [hsz] at hblk0
  have HBLK0 := Lib.hid hblk0
  have HSZ : Hid (((w.alloc (.cells #[vi, vo] 40)).alloc (.cells #[.slice none 0 0, .slice none 0 0] 40)).heap.size = w.heap.size + 2) := by show _ = _; simp
  clear hi ho hE hT hblk0 hsz
  have haV := setV_lt i
  have hbV := setV_lt o
  obtain ⟨a, ha⟩ : ∃ a, setV i = a := ⟨_, rfl⟩
  obtain ⟨b, hb⟩ : ∃ b, setV o = b := ⟨_, rfl⟩
  rw [ha, hb] at HS
  rw [ha] at haV
  rw [hb] at hbV
  have HAB := Lib.hid (And.intro ha hb)
  clear ha hb
  have hcase : okSh i o = false ∨ (okSh i o = true ∧ inB n 0 30 = false) ∨ (okSh i o = true ∧ inB n 0 30 = true) := by cases okSh i o <;> cases inB n 0 30 <;> simp
  rcases hcase with hok | ⟨hok, hn⟩ | ⟨hok, hn⟩
  · have HF : Hid (putSh i o n = ([], [])) := by show _ = _; unfold putSh; rw [if_neg (by simp [hok])]
    rw [hok] at HS
    rw [HF.out]
    go_enter Tryd.func30, Tryd.ntmps30
    go_wp2_with fail
    refine HS.out.mono ?_
    rintro e w1 ⟨rfl, b1⟩
    have hblk := HBLK0.out.ext b1
    have HE1 := Lib.hid (HE.out.trans b1)
    obtain ⟨hf0, hf1, ⟨d0, hd0⟩, ⟨d1, hd1⟩, hs0, hs1'⟩ := box_facts hblk (.slice none 0 0) (.slice none 0 0)
    clear b1 hblk
    go_wp2
    refine bodyPost_ret (v := .agg #[.slice none 0 0, .slice none 0 0]) (by simp [results, Tryd.results30, go_sem, hs0, hs1']) rfl ?_
    exact ⟨_, _, rfl, Val0.nil _ _, Val0.nil _ _, (HE1.out.setCell (by simp) _).setCell (by simp) _⟩
  · have HF : Hid (putSh i o n = ([], [])) := by show _ = _; unfold putSh; rw [if_neg (by simp [hn])]
    rw [hok] at HS
    rw [HF.out]
    clear hok
    go_enter Tryd.func30, Tryd.ntmps30
    go_wp2_with fail
    refine HS.out.mono ?_
    rintro e w1 ⟨rfl, b1⟩
    have HB1 := Lib.hid b1
    clear b1
    go_wp2_with fail
    refine (within_any _ _ _ _).mono ?_
    rw [hn]
    rintro e w2 ⟨rfl, rfl⟩
    have hblk := HBLK0.out.ext HB1.out
    have HE1 := Lib.hid (HE.out.trans HB1.out)
    obtain ⟨hf0, hf1, ⟨d0, hd0⟩, ⟨d1, hd1⟩, hs0, hs1'⟩ := box_facts hblk (.slice none 0 0) (.slice none 0 0)
    clear hblk
    go_wp2
    refine bodyPost_ret (v := .agg #[.slice none 0 0, .slice none 0 0]) (by simp [results, Tryd.results30, go_sem, hs0, hs1']) rfl ?_
    exact ⟨_, _, rfl, Val0.nil _ _, Val0.nil _ _, (HE1.out.setCell (by simp) _).setCell (by simp) _⟩
  · obtain ⟨oki, oko, -⟩ := okSh_true.1 hok
    have HF : Hid (putSh i o n = (putL i n, o)) := by show _ = _; unfold putSh; rw [if_pos ⟨hok, hn⟩]
    rw [hok] at HS
    rw [HF.out]
    have hn' := inB_true.1 hn
    obtain ⟨j, rfl⟩ := Int.eq_ofNat_of_zero_le hn'.1
    have hj : j ≤ 30 := by omega
    have hp : 2 ^ j < 2 ^ 31 := Nat.pow_lt_pow_right (by omega) (by omega)
    have hor := u64_set a j (by omega) (by omega)
    have hor31 : a ||| 2 ^ j < 2 ^ 31 := Nat.or_lt_two_pow (by omega) hp
    have HMA : Hid (memb31 (a ||| 2 ^ j) = putL i j) := by show _ = _; rw [← HAB.out.1, setV_ok oki]; exact put_bits oki hj
    have HMB : Hid (memb31 b = o) := by show _ = _; rw [← HAB.out.2, setV_ok oko]; exact memb_setL oko
    obtain ⟨d, hd⟩ : ∃ d, a ||| 2 ^ j = d := ⟨_, rfl⟩
    rw [hd] at hor hor31 HMA
    have HD := Lib.hid hor31
    obtain ⟨ZS, hZS⟩ : ∃ ZS, putL i (j : Int) = ZS := ⟨_, rfl⟩
    rw [hZS] at HMA ⊢
    clear hok oki oko hd hp hn' hor31 hZS HF
    go_enter Tryd.func30, Tryd.ntmps30
    go_wp2_with fail
    refine HS.out.mono ?_
    rintro e w1 ⟨rfl, b1⟩
    have HE1 := Lib.hid (HE.out.trans b1)
    have HB1 := Lib.hid b1
    clear b1
    go_wp2_with fail
    refine (within_any _ _ _ _).mono ?_
    rw [hn]
    rintro e w2 ⟨rfl, rfl⟩
    go_wp2_with fail
    refine (sharedOf_any d b _ HD.out (by omega) (HT.out.ext HE1.out)).mono ?_
    rw [HMA.out, HMB.out]
    rintro e w3 ⟨x, y, rfl, hx, hy, b3⟩
    obtain ⟨A1, c1, rfl, -⟩ := id hx.1
    obtain ⟨A2, c2, rfl, -⟩ := id hy.1
    have hblk := (HBLK0.out.ext HB1.out).ext b3
    obtain ⟨hf0, hf1, ⟨d0, hd0⟩, ⟨d1, hd1⟩, hs0, hs1'⟩ := box_facts hblk (.slice A1 ZS.length c1) (.slice A2 o.length c2)
    have HX := Lib.hid hx
    have HY := Lib.hid hy
    have HE3 := Lib.hid (HE1.out.trans b3)
    have hlo1 : w.heap.size + 1 < w1.heap.size := by have := HB1.out.size; rw [HSZ.out] at this; omega
    clear b3 hblk hx hy
    go_wp2
    refine bodyPost_ret (v := .agg #[.slice A1 ZS.length c1, .slice A2 o.length c2]) (by simp [results, Tryd.results30, go_sem, hs0, hs1']) rfl ?_
    exact ⟨_, _, rfl, ((HX.out.set hlo1).set hlo1).low (by omega), ((HY.out.set hlo1).set hlo1).low (by omega), (HE3.out.setCell (by simp) _).setCell (by simp) _⟩
end Go.Proofs.YtiggckhlbklngaaDoor
