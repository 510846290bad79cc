/- Touches one after the other: TouchRun of the reference. -/
import Derived.Test.YtiggckhlbklngaaDoorTouchKey
import Derived.Test.YtiggckhlbklngaaDoorTypedC
import Derived.Test.YtiggckhlbklngaaDoorYApp
import Derived.Test.YtiggckhlbklngaaDoorCut
namespace Go.Proofs.YtiggckhlbklngaaDoor
open Go.RowKit
set_option maxRecDepth 8000

/-- Whether three numbers are a touch. -/
def tripOk (vs : List Int) (k : Nat) : Bool := inB (vs.getD (3 * k) 0) 1 1000 && (inB (vs.getD (3 * k + 1) 0) 0 2 && inB (vs.getD (3 * k + 2) 0) 0 1)
/-- The keys and the answers behind k touches. -/
def runT (vs : List Int) : Nat → List Touch × List Bool
  | 0 => ([⟨0, 0⟩, ⟨0, 0⟩, ⟨0, 0⟩], [])
  | k + 1 => ((touchKeyL (runT vs k).1 (vs.getD (3 * k) 0) (vs.getD (3 * k + 1) 0) (vs.getD (3 * k + 2) 0 == 1)).1, (runT vs k).2 ++ [(touchKeyL (runT vs k).1 (vs.getD (3 * k) 0) (vs.getD (3 * k + 1) 0) (vs.getD (3 * k + 2) 0 == 1)).2])
/-- What TouchRun returns. -/
def touchRunL (vs : List Int) : List Bool := if vs.length % 3 = 0 ∧ vs.length ≤ 60 ∧ ((List.range (vs.length / 3)).all (tripOk vs)) = true then (runT vs (vs.length / 3)).2 else []
theorem runT_len (vs : List Int) (k : Nat) : (runT vs k).2.length = k := by
  induction k with
  | zero => rfl
  | succ k ih => rw [runT, List.length_append, ih]; rfl
theorem touchRunL_len (vs : List Int) : (touchRunL vs).length ≤ 20 := by
  unfold touchRunL
  split
  · rw [runT_len]; omega
  · simp
theorem runT_three (vs : List Int) (k : Nat) : (runT vs k).1.length ≤ 3 := by
  induction k with
  | zero => simp [runT]
  | succ k ih =>
    rw [runT]
    unfold touchKeyL
    split
    · cases (runT vs k).1[(vs.getD (3 * k + 1) 0).toNat]? with
      | none => simp
      | some x => simp; exact ih
    · simp
theorem SlOf.grow_own {α : Type} {m lo : Nat} {enc : α → Nat → Value} {W W' : World} {u : Value} {xs : List α} {row : Option Nat} (h : SlOf m enc W u xs) (ho : Own lo W u) (hg : W.grownBy W' row) (hr : ∀ k, row = some k → k < lo) : SlOf m enc W' u xs := by
  obtain ⟨A, c, rfl, hc⟩ := h
  refine ⟨A, c, rfl, fun hn => ?_⟩
  obtain ⟨b, off, rfl, hlt, hcell⟩ := hc hn
  have hlo := (ho _ _ _ rfl hn).1
  refine ⟨b, off, rfl, Nat.lt_of_lt_of_le hlt hg.size, fun i y hy j hj => ?_⟩
  rw [← hcell i y hy j hj]
  exact World.cell?_of_block (hg.block b hlt (fun e => by have := hr b e.symm; simp only at hlo; omega))
theorem Row.block_lt {α : Type} {e : TypeId} {m : Nat} {enc : α → Nat → Value} {base : Nat} {w : World} {v : Value} {xs : List α} (h : Row e m enc base w v xs) : ∀ k, v.ownBlock = some k → k < w.heap.size := by
  intro k hk
  rcases h.2 with ⟨hv, _⟩ | ⟨g, cap, cur, hv, hb, hg, _⟩
  · rw [hv] at hk; cases hk
  · rw [hv] at hk
    injection hk with hk
    subst hk
    exact (Array.getElem?_eq_some_iff.1 hg).1
theorem touchRun_bad {vs : List Int} (h : (∃ j, 3 * j + 2 < vs.length ∧ tripOk vs j = false) ∨ 60 < vs.length ∨ vs.length % 3 ≠ 0) : touchRunL vs = [] := by
  unfold touchRunL
  rw [if_neg]
  rintro ⟨h1, h2, h3⟩
  rcases h with ⟨j, hj, hb⟩ | h | h
  · have := List.all_eq_true.1 h3 j (by simp; omega)
    rw [hb] at this
    cases this
  · omega
  · exact h h1
theorem make_touches (W : World) : (Instr.makeSlice 60 (.int .i64 3) (.int .i64 3)).run Tryd.prog W = .ok (.slice (some ⟨W.heap.size, 0, none⟩) 3 3) (W.alloc (.cells #[.int .i64 0, .int .i64 0, .int .i64 0, .int .i64 0, .int .i64 0, .int .i64 0] 52)) := by
  obtain ⟨i, hi, hz, hs, hby⟩ := info_of cinfo_TouchK
  have hr := run_make (P := Tryd.prog) W 60 52 i _ Tryd.underlying60 hi hz .i64 .i64 3 3 (by omega) (by omega) (by rw [hby]; decide) (by omega)
  have hm : madeCells (Value.agg #[.int .i64 0, .int .i64 0]).cells 6 = #[.int .i64 0, .int .i64 0, .int .i64 0, .int .i64 0, .int .i64 0, .int .i64 0] := by kernel_rfl
  rw [hr, hs, show Int.toNat 3 = 3 from rfl, show 3 * 2 = 6 from rfl, hm]
theorem getD_at {xs : List Int} {k : Nat} (h : k < xs.length) : xs[k]? = some (xs.getD k 0) := by
  rw [List.getD_eq_getElem?_getD]
  simp [h]
theorem kbool_T : (Tryd.prog.info? 4).map (fun i => (i.zero, i.size, i.bytes)) = some (some (.bool false), 1, 1) := by kernel_rfl
set_option maxHeartbeats 4000000 in
theorem spec_TouchRun {v : Value} {vs : List Int} (w : World) (h : Sl1 encI w v vs) (hlen : vs.length ≤ 2097152) :
    Calls Tryd.prog 10 #[v] w (Ret1 encB w (touchRunL vs)) := by
  have H := Lib.hid h
  obtain ⟨A, c, rfl, hc0⟩ := id h
  have HC := Lib.hid hc0
  clear h hc0
  go_enter Tryd.func10, Tryd.ntmps10
  have hmk := make_touches
  go_wp2
  go_loopw [3, 4, 5, 6, 7] (fun o u i _ _ wr => Ext w wr ∧ ∃ s k : Nat, s ≤ vs.length + 2 ∧ i = .int .i64 s ∧ Hid (s = 3 * k ∧ (∀ j, j < k → tripOk vs j = true) ∧ (0 < k → vs.length ≤ 60 ∧ vs.length % 3 = 0) ∧ SlOf 2 encTouch wr u (runT vs k).1 ∧ Row 4 1 (one encB) w.heap.size wr o (runT vs k).2)) (fun _ _ i _ _ _ => vs.length + 3 - (intOf i).toNat)
  case atStart => exact ⟨((Ext.refl _).alloc _).alloc _, 0, 0, by omega, rfl, rfl, fun j h => absurd h (by omega), fun h => absurd h (by omega), by
      have h := ((Row.lit (m := 2) (enc := encTouch) (w.alloc (.cells #[] 4)) #[.int .i64 0, .int .i64 0, .int .i64 0, .int .i64 0, .int .i64 0, .int .i64 0] 52 [⟨0, 0⟩, ⟨0, 0⟩, ⟨0, 0⟩] rfl (by simp))).cell.1
      simp only [World.size_alloc, List.length_cons, List.length_nil] at h
      exact h, (show Row 4 1 (one encB) w.heap.size (w.alloc (.cells #[] 4)) (.slice (some ⟨w.heap.size, 0, none⟩) 0 0) ([] : List Bool) from World.ownsRow_made w #[] 0 (Nat.le_refl _) (by simp [maxLen]) (by simp)).ext ((Ext.refl _).alloc _)⟩
  case round =>
    clear hmk
    obtain ⟨hb, s, k, hs, rfl, HI⟩ := hrel
    by_cases hlt : s + 2 < vs.length
    · obtain ⟨b, off, rfl, _, hcell⟩ := HC.out (by omega)
      obtain ⟨s1, h1⟩ : ∃ s1, s + 1 = s1 := ⟨_, rfl⟩
      obtain ⟨s2, h2⟩ : ∃ s2, s + 2 = s2 := ⟨_, rfl⟩
      obtain ⟨x0, hx0⟩ : ∃ x, vs.getD s 0 = x := ⟨_, rfl⟩
      obtain ⟨x1, hx1⟩ : ∃ x, vs.getD s1 0 = x := ⟨_, rfl⟩
      obtain ⟨x2, hx2⟩ : ∃ x, vs.getD s2 0 = x := ⟨_, rfl⟩
      have m0 := hb.cell (hcell s x0 (by rw [← hx0]; exact getD_at (by omega)))
      have m1 := hb.cell (hcell s1 x1 (by rw [← hx1]; exact getD_at (by omega)))
      have m2 := hb.cell (hcell s2 x2 (by rw [← hx2]; exact getD_at (by omega)))
      simp only [encI] at m0 m1 m2
      have hs1 : ((s : Int) + 1) = (s1 : Int) := by omega
      have hs2 : ((s : Int) + 2) = (s2 : Int) := by omega
      have l0 : s < vs.length := by omega
      have l1 : s1 < vs.length := by omega
      have l2 : s2 < vs.length := by omega
      have HX := Lib.hid (And.intro h1 (And.intro h2 (And.intro hx0 (And.intro hx1 hx2))))
      clear hcell hx0 hx1 hx2 h1 h2
      by_cases g0 : inB x0 1 1000 = true
      case neg =>
        have hn : inB x0 1 1000 = false := by simpa using g0
        have hf : touchRunL vs = [] := touchRun_bad (.inl ⟨k, by have := HI.out.1; omega, by unfold tripOk; rw [← HI.out.1, HX.out.1, HX.out.2.1, HX.out.2.2.1, HX.out.2.2.2.1, HX.out.2.2.2.2]; simp [hn]⟩)
        rw [hf]
        clear hf g0
        go_wp2_with ((go_at_call 38; refine (l1In_any _ _ _ _).mono ?_; rintro e w' ⟨rfl, rfl⟩))
        go_returns
        exact ⟨_, rfl, Sl1.nil _ _ _ _, Own.nil _ _ _ _, hb.alloc _⟩
      by_cases g1 : inB x1 0 2 = true
      case neg =>
        have hn : inB x1 0 2 = false := by simpa using g1
        have hf : touchRunL vs = [] := touchRun_bad (.inl ⟨k, by have := HI.out.1; omega, by unfold tripOk; rw [← HI.out.1, HX.out.1, HX.out.2.1, HX.out.2.2.1, HX.out.2.2.2.1, HX.out.2.2.2.2]; simp [hn]⟩)
        rw [hf]
        clear hf g1
        go_wp2_with ((go_at_call 38; refine (l1In_any _ _ _ _).mono ?_; rintro e w' ⟨rfl, rfl⟩))
        go_returns
        exact ⟨_, rfl, Sl1.nil _ _ _ _, Own.nil _ _ _ _, hb.alloc _⟩
      by_cases g2 : inB x2 0 1 = true
      case neg =>
        have hn : inB x2 0 1 = false := by simpa using g2
        have hf : touchRunL vs = [] := touchRun_bad (.inl ⟨k, by have := HI.out.1; omega, by unfold tripOk; rw [← HI.out.1, HX.out.1, HX.out.2.1, HX.out.2.2.1, HX.out.2.2.2.1, HX.out.2.2.2.2]; simp [hn]⟩)
        rw [hf]
        clear hf g2
        go_wp2_with ((go_at_call 38; refine (l1In_any _ _ _ _).mono ?_; rintro e w' ⟨rfl, rfl⟩))
        go_returns
        exact ⟨_, rfl, Sl1.nil _ _ _ _, Own.nil _ _ _ _, hb.alloc _⟩
      by_cases g3 : 60 < vs.length
      case pos =>
        have hf : touchRunL vs = [] := touchRun_bad (.inr (.inl g3))
        rw [hf]
        clear hf
        go_wp2_with ((go_at_call 38; refine (l1In_any _ _ _ _).mono ?_; rintro e w' ⟨rfl, rfl⟩))
        go_returns
        exact ⟨_, rfl, Sl1.nil _ _ _ _, Own.nil _ _ _ _, hb.alloc _⟩
      by_cases g4 : vs.length % 3 = 0
      case neg =>
        have hf : touchRunL vs = [] := touchRun_bad (.inr (.inr g4))
        have g5 : (((vs.length : Int) % 3) != 0) = true := by rw [bne_iff_ne]; omega
        rw [hf]
        clear hf g4
        go_wp2_with ((go_at_call 38; refine (l1In_any _ _ _ _).mono ?_; rintro e w' ⟨rfl, rfl⟩))
        go_returns
        exact ⟨_, rfl, Sl1.nil _ _ _ _, Own.nil _ _ _ _, hb.alloc _⟩
      have g5 : (((vs.length : Int) % 3) != 0) = false := by rw [bne_eq_false_iff_eq]; omega
      obtain ⟨r, hr⟩ : ∃ r, touchKeyL (runT vs k).1 x0 x1 (x2 == 1) = r := ⟨_, rfl⟩
      have HRR := Lib.hid hr
      have RUN : Hid ((runT vs (k + 1)).1 = r.1 ∧ (runT vs (k + 1)).2 = (runT vs k).2 ++ [r.2]) := by
        show _ ∧ _
        rw [runT, ← HI.out.1, HX.out.1, HX.out.2.1, HX.out.2.2.1, HX.out.2.2.2.1, HX.out.2.2.2.2, hr]
        exact ⟨rfl, rfl⟩
      have HT0 : Hid (SlOf 2 encTouch wr u4 (runT vs k).1) := HI.out.2.2.2.1
      have HTL := Lib.hid (runT_three vs k)
      have HM := Lib.hid (And.intro m0 (And.intro m1 m2))
      have HS1 := Lib.hid hs1
      have HS2 := Lib.hid hs2
      have G012 := Lib.hid (And.intro g0 (And.intro g1 g2))
      have G4 := Lib.hid g4
      clear hr
      go_wp2_with ((go_at_call 38; refine (l1In_any _ _ _ _).mono ?_; rintro e w' ⟨rfl, rfl⟩))
      clear m0 m1 m2
      refine wp_region_typedC [54, 55, 56, 57, 58, 59, 60, 61, 62, 63, 64, 65, 66, 67, 68, 69, 70, 53, 71, 72, 6, 7] (by kernel_rfl) (by kernel_rfl) (by kernel_rfl) (fun _ W => Ext wr W)
        (fun j _ u W => match j with
          | 0 => u = u4
          | 1 => u = .slice (some ⟨b, off, none⟩) vs.length c
          | 2 => u = .int .i64 (s : Int)
          | 3 => u = .pointer (some ⟨b, off + s, none⟩)
          | 4 => u = .int .i64 x0
          | 5 => u = .slice (some ⟨b, off, none⟩) vs.length c
          | 6 => u = .int .i64 (s : Int)
          | 7 => u = .int .i64 (s1 : Int)
          | 8 => u = .pointer (some ⟨b, off + s1, none⟩)
          | 9 => u = .int .i64 x1
          | 10 => u = .slice (some ⟨b, off, none⟩) vs.length c
          | 11 => u = .int .i64 (s : Int)
          | 12 => u = .int .i64 (s2 : Int)
          | 13 => u = .pointer (some ⟨b, off + s2, none⟩)
          | 14 => u = .int .i64 x2
          | 15 => u = .bool (x2 == 1)
          | 16 => ∃ z, u = .tuple #[z, .bool r.2] ∧ SlOf 2 encTouch W z r.1 ∧ Own wr.heap.size W z
          | 17 => ∃ z, u = .tuple #[z, .bool r.2] ∧ SlOf 2 encTouch W z r.1 ∧ Own wr.heap.size W z
          | 18 => SlOf 2 encTouch W u r.1 ∧ Own wr.heap.size W u
          | 19 => u = .bool r.2
          | 20 => SlOf 2 encTouch W u r.1 ∧ Own wr.heap.size W u
          | 21 => u = .bool r.2
          | _ => True) (fun _ W W' => Ext W W') ((Ext.refl _).drew) ?_ ?_ ?_
      · intro i j L u W W' _ _ _ _ _ _ _ hS hT
        match j, hT with
        | 0, hT => exact hT
        | 1, hT => exact hT
        | 2, hT => exact hT
        | 3, hT => exact hT
        | 4, hT => exact hT
        | 5, hT => exact hT
        | 6, hT => exact hT
        | 7, hT => exact hT
        | 8, hT => exact hT
        | 9, hT => exact hT
        | 10, hT => exact hT
        | 11, hT => exact hT
        | 12, hT => exact hT
        | 13, hT => exact hT
        | 14, hT => exact hT
        | 15, hT => exact hT
        | 16, hT => obtain ⟨z, h1, h2, h3⟩ := hT; exact ⟨z, h1, h2.ext hS, h3.ext hS⟩
        | 17, hT => obtain ⟨z, h1, h2, h3⟩ := hT; exact ⟨z, h1, h2.ext hS, h3.ext hS⟩
        | 18, hT => exact ⟨hT.1.ext hS, hT.2.ext hS⟩
        | 19, hT => exact hT
        | 20, hT => exact ⟨hT.1.ext hS, hT.2.ext hS⟩
        | 21, hT => exact hT
        | _ + 22, _ => trivial
      · intro i o ho a n W L hn hsz hLi hdl hdn hR hrest hdeps hkeep
        match i, ho with
        | 0, ho =>
          obtain rfl := Option.some.inj ho
          exact y_move rfl ⟨fun _ => hrest 4 (by decide), (fun h => by cases h), hR, Ext.refl _⟩
        | 1, ho =>
          obtain rfl := Option.some.inj ho
          exact y_move rfl ⟨fun _ => hrest 0 (by decide), (fun h => by cases h), hR, Ext.refl _⟩
        | 2, ho =>
          obtain rfl := Option.some.inj ho
          exact y_move rfl ⟨fun _ => hrest 5 (by decide), (fun h => by cases h), hR, Ext.refl _⟩
        | 3, ho =>
          obtain rfl := Option.some.inj ho
          have e1 : a.tmps.getD 55 undef = .slice (some ⟨b, off, none⟩) vs.length c := hdeps 1 _ 55 ⟨{ on := 1, ground := .data }, by simp, rfl, rfl⟩ rfl rfl
          have e2 : a.tmps.getD 56 undef = .int .i64 (s : Int) := hdeps 2 _ 56 ⟨{ on := 2, ground := .data }, by simp, rfl, rfl⟩ rfl rfl
          refine y_run (v := .pointer (some ⟨b, off + s, none⟩)) (w' := W) ?_ ⟨fun _ => rfl, (fun h => by cases h), hR, Ext.refl _⟩
          simp only [execOp, Act.eval, e1, e2]
          go_simp
        | 4, ho =>
          obtain rfl := Option.some.inj ho
          have e1 : a.tmps.getD 57 undef = .pointer (some ⟨b, off + s, none⟩) := hdeps 3 _ 57 ⟨{ on := 3, ground := .data }, by simp, rfl, rfl⟩ rfl rfl
          have m0 := hR.cell HM.out.1
          refine y_run (v := .int .i64 x0) (w' := W) ?_ ⟨fun _ => rfl, (fun h => by cases h), hR, Ext.refl _⟩
          simp only [execOp, Act.eval, e1]
          go_simp
        | 5, ho =>
          obtain rfl := Option.some.inj ho
          exact y_move rfl ⟨fun _ => hrest 0 (by decide), (fun h => by cases h), hR, Ext.refl _⟩
        | 6, ho =>
          obtain rfl := Option.some.inj ho
          exact y_move rfl ⟨fun _ => hrest 5 (by decide), (fun h => by cases h), hR, Ext.refl _⟩
        | 7, ho =>
          obtain rfl := Option.some.inj ho
          have e1 : a.tmps.getD 60 undef = .int .i64 (s : Int) := hdeps 6 _ 60 ⟨{ on := 6, ground := .data }, by simp, rfl, rfl⟩ rfl rfl
          exact y_add rfl e1 (show _ = Value.int .i64 1 from rfl) (by omega) (by omega) ⟨fun _ => by show Value.int .i64 _ = _; rw [HS1.out], (fun h => by cases h), hR, Ext.refl _⟩
        | 8, ho =>
          obtain rfl := Option.some.inj ho
          have e1 : a.tmps.getD 59 undef = .slice (some ⟨b, off, none⟩) vs.length c := hdeps 5 _ 59 ⟨{ on := 5, ground := .data }, by simp, rfl, rfl⟩ rfl rfl
          have e2 : a.tmps.getD 61 undef = .int .i64 (s1 : Int) := hdeps 7 _ 61 ⟨{ on := 7, ground := .data }, by simp, rfl, rfl⟩ rfl rfl
          refine y_run (v := .pointer (some ⟨b, off + s1, none⟩)) (w' := W) ?_ ⟨fun _ => rfl, (fun h => by cases h), hR, Ext.refl _⟩
          simp only [execOp, Act.eval, e1, e2]
          go_simp
        | 9, ho =>
          obtain rfl := Option.some.inj ho
          have e1 : a.tmps.getD 62 undef = .pointer (some ⟨b, off + s1, none⟩) := hdeps 8 _ 62 ⟨{ on := 8, ground := .data }, by simp, rfl, rfl⟩ rfl rfl
          have m0 := hR.cell HM.out.2.1
          refine y_run (v := .int .i64 x1) (w' := W) ?_ ⟨fun _ => rfl, (fun h => by cases h), hR, Ext.refl _⟩
          simp only [execOp, Act.eval, e1]
          go_simp
        | 10, ho =>
          obtain rfl := Option.some.inj ho
          exact y_move rfl ⟨fun _ => hrest 0 (by decide), (fun h => by cases h), hR, Ext.refl _⟩
        | 11, ho =>
          obtain rfl := Option.some.inj ho
          exact y_move rfl ⟨fun _ => hrest 5 (by decide), (fun h => by cases h), hR, Ext.refl _⟩
        | 12, ho =>
          obtain rfl := Option.some.inj ho
          have e1 : a.tmps.getD 65 undef = .int .i64 (s : Int) := hdeps 11 _ 65 ⟨{ on := 11, ground := .data }, by simp, rfl, rfl⟩ rfl rfl
          exact y_add rfl e1 (show _ = Value.int .i64 2 from rfl) (by omega) (by omega) ⟨fun _ => by show Value.int .i64 _ = _; rw [HS2.out], (fun h => by cases h), hR, Ext.refl _⟩
        | 13, ho =>
          obtain rfl := Option.some.inj ho
          have e1 : a.tmps.getD 64 undef = .slice (some ⟨b, off, none⟩) vs.length c := hdeps 10 _ 64 ⟨{ on := 10, ground := .data }, by simp, rfl, rfl⟩ rfl rfl
          have e2 : a.tmps.getD 66 undef = .int .i64 (s2 : Int) := hdeps 12 _ 66 ⟨{ on := 12, ground := .data }, by simp, rfl, rfl⟩ rfl rfl
          refine y_run (v := .pointer (some ⟨b, off + s2, none⟩)) (w' := W) ?_ ⟨fun _ => rfl, (fun h => by cases h), hR, Ext.refl _⟩
          simp only [execOp, Act.eval, e1, e2]
          go_simp
        | 14, ho =>
          obtain rfl := Option.some.inj ho
          have e1 : a.tmps.getD 67 undef = .pointer (some ⟨b, off + s2, none⟩) := hdeps 13 _ 67 ⟨{ on := 13, ground := .data }, by simp, rfl, rfl⟩ rfl rfl
          have m0 := hR.cell HM.out.2.2
          refine y_run (v := .int .i64 x2) (w' := W) ?_ ⟨fun _ => rfl, (fun h => by cases h), hR, Ext.refl _⟩
          simp only [execOp, Act.eval, e1]
          go_simp
        | 15, ho =>
          obtain rfl := Option.some.inj ho
          have e1 : a.tmps.getD 68 undef = .int .i64 x2 := hdeps 14 _ 68 ⟨{ on := 14, ground := .data }, by simp, rfl, rfl⟩ rfl rfl
          exact y_eql rfl e1 (show _ = Value.int .i64 1 from rfl) ⟨fun _ => rfl, (fun h => by cases h), hR, Ext.refl _⟩
        | 16, ho =>
          obtain rfl := Option.some.inj ho
          have e1 : a.tmps.getD 54 undef = u4 := hdeps 0 _ 54 ⟨{ on := 0, ground := .data }, by simp, rfl, rfl⟩ rfl rfl
          have e2 : a.tmps.getD 58 undef = .int .i64 x0 := hdeps 4 _ 58 ⟨{ on := 4, ground := .data }, by simp, rfl, rfl⟩ rfl rfl
          have e3 : a.tmps.getD 63 undef = .int .i64 x1 := hdeps 9 _ 63 ⟨{ on := 9, ground := .data }, by simp, rfl, rfl⟩ rfl rfl
          have e4 : a.tmps.getD 69 undef = .bool (x2 == 1) := hdeps 15 _ 69 ⟨{ on := 15, ground := .data }, by simp, rfl, rfl⟩ rfl rfl
          refine y_call (args := #[u4, .int .i64 x0, .int .i64 x1, .bool (x2 == 1)]) rfl (fun _ _ => by kernel_rfl) (by simp [Act.eval, e1, e2, e3, e4]) ?_
          refine (spec_TouchKey x0 x1 (x2 == 1) _ (HT0.out.ext hR) (by have := HTL.out; omega)).mono fun e W' ⟨z, he, hsl, hown, hb'⟩ => ⟨_, he, fun _ => ?_, (fun h => by cases h), hR.trans hb', hb'⟩
          rw [HRR.out] at hsl ⊢
          exact ⟨z, rfl, hsl, hown.mono hR.size⟩
        | 17, ho =>
          obtain rfl := Option.some.inj ho
          exact y_move rfl ⟨fun _ => hdeps 16 _ 70 ⟨{ on := 16, ground := .data }, by simp, rfl, rfl⟩ rfl rfl, (fun h => by cases h), hR, Ext.refl _⟩
        | 18, ho =>
          obtain rfl := Option.some.inj ho
          obtain ⟨z, e1, hz⟩ := hdeps 17 _ 53 ⟨{ on := 17, ground := .data }, by simp, rfl, rfl⟩ rfl rfl
          refine y_run (v := z) (w' := W) ?_ ⟨fun _ => hz, (fun h => by cases h), hR, Ext.refl _⟩
          simp only [execOp, Act.eval, e1]
          go_simp
        | 19, ho =>
          obtain rfl := Option.some.inj ho
          obtain ⟨z, e1, hz⟩ := hdeps 17 _ 53 ⟨{ on := 17, ground := .data }, by simp, rfl, rfl⟩ rfl rfl
          refine y_run (v := .bool r.2) (w' := W) ?_ ⟨fun _ => rfl, (fun h => by cases h), hR, Ext.refl _⟩
          simp only [execOp, Act.eval, e1]
          go_simp
        | 20, ho =>
          obtain rfl := Option.some.inj ho
          exact y_assign rfl ⟨fun _ => hdeps 18 _ 71 ⟨{ on := 18, ground := .data }, by simp, rfl, rfl⟩ rfl rfl, (fun h => by cases h), hR, Ext.refl _⟩
        | 21, ho =>
          obtain rfl := Option.some.inj ho
          exact y_assign rfl ⟨fun _ => hdeps 19 _ 72 ⟨{ on := 19, ground := .data }, by simp, rfl, rfl⟩ rfl rfl, (fun h => by cases h), hR, Ext.refl _⟩
        | _ + 22, ho => cases ho
      · intro a W hR hsz hdf hrest htyp hbare
        have h20 := htyp 20 _ 6 rfl rfl
        have e7 : a.tmps.getD 7 undef = .bool r.2 := htyp 21 _ 7 rfl rfl
        obtain ⟨x54, e54⟩ : ∃ x, a.tmps.getD 54 undef = x := ⟨_, rfl⟩
        obtain ⟨x55, e55⟩ : ∃ x, a.tmps.getD 55 undef = x := ⟨_, rfl⟩
        obtain ⟨x56, e56⟩ : ∃ x, a.tmps.getD 56 undef = x := ⟨_, rfl⟩
        obtain ⟨x57, e57⟩ : ∃ x, a.tmps.getD 57 undef = x := ⟨_, rfl⟩
        obtain ⟨x58, e58⟩ : ∃ x, a.tmps.getD 58 undef = x := ⟨_, rfl⟩
        obtain ⟨x59, e59⟩ : ∃ x, a.tmps.getD 59 undef = x := ⟨_, rfl⟩
        obtain ⟨x60, e60⟩ : ∃ x, a.tmps.getD 60 undef = x := ⟨_, rfl⟩
        obtain ⟨x61, e61⟩ : ∃ x, a.tmps.getD 61 undef = x := ⟨_, rfl⟩
        obtain ⟨x62, e62⟩ : ∃ x, a.tmps.getD 62 undef = x := ⟨_, rfl⟩
        obtain ⟨x63, e63⟩ : ∃ x, a.tmps.getD 63 undef = x := ⟨_, rfl⟩
        obtain ⟨x64, e64⟩ : ∃ x, a.tmps.getD 64 undef = x := ⟨_, rfl⟩
        obtain ⟨x65, e65⟩ : ∃ x, a.tmps.getD 65 undef = x := ⟨_, rfl⟩
        obtain ⟨x66, e66⟩ : ∃ x, a.tmps.getD 66 undef = x := ⟨_, rfl⟩
        obtain ⟨x67, e67⟩ : ∃ x, a.tmps.getD 67 undef = x := ⟨_, rfl⟩
        obtain ⟨x68, e68⟩ : ∃ x, a.tmps.getD 68 undef = x := ⟨_, rfl⟩
        obtain ⟨x69, e69⟩ : ∃ x, a.tmps.getD 69 undef = x := ⟨_, rfl⟩
        obtain ⟨x70, e70⟩ : ∃ x, a.tmps.getD 70 undef = x := ⟨_, rfl⟩
        obtain ⟨x53, e53⟩ : ∃ x, a.tmps.getD 53 undef = x := ⟨_, rfl⟩
        obtain ⟨x71, e71⟩ : ∃ x, a.tmps.getD 71 undef = x := ⟨_, rfl⟩
        obtain ⟨x72, e72⟩ : ∃ x, a.tmps.getD 72 undef = x := ⟨_, rfl⟩
        obtain ⟨x6, e6⟩ : ∃ x, a.tmps.getD 6 undef = x := ⟨_, rfl⟩
        rw [e6] at h20
        have H20 := Lib.hid h20
        have HRW := Lib.hid hR
        have ha := act_puts hsz hdf hrest [(54, x54), (55, x55), (56, x56), (57, x57), (58, x58), (59, x59), (60, x60), (61, x61), (62, x62), (63, x63), (64, x64), (65, x65), (66, x66), (67, x67), (68, x68), (69, x69), (70, x70), (53, x53), (71, x71), (72, x72), (6, x6), (7, .bool r.2)] rfl ⟨by decide, fun d hd => (by decide : ∀ d ∈ ([54, 55, 56, 57, 58, 59, 60, 61, 62, 63, 64, 65, 66, 67, 68, 69, 70, 53, 71, 72, 6, 7] : List Nat), d < 79) d hd⟩ (by simp only [List.forall_mem_cons]; exact ⟨e54, e55, e56, e57, e58, e59, e60, e61, e62, e63, e64, e65, e66, e67, e68, e69, e70, e53, e71, e72, e6, e7, fun _ h => by cases h⟩)
        clear hsz hdf hrest htyp hbare h20 hR e54 e55 e56 e57 e58 e59 e60 e61 e62 e63 e64 e65 e66 e67 e68 e69 e70 e53 e71 e72 e6 e7
        subst ha
        simp only [List.foldl_cons, List.foldl_nil, Act.put, List.setIfInBounds_toArray, List.set_cons_zero, List.set_cons_succ]
        have hrow := HI.out.2.2.2.2.ext HRW.out
        obtain ⟨v', w', hrun, hrow', hgrow⟩ := run_push (P := Tryd.prog) (t := 25) (ty := 25) (e := 4) Tryd.underlying25 kbool_T rfl (by omega) hrow r.2 (fun _ => rfl) (by rw [runT_len]; have := HI.out.1; omega) (by omega) (Nat.le_trans hb.size HRW.out.size)
        have Hrun := Lib.hid hrun
        have HT2 := Lib.hid (SlOf.grow_own (H20.out.1.ext ((Ext.refl _).alloc _)) (H20.out.2.ext ((Ext.refl _).alloc _)) hgrow (HI.out.2.2.2.2.block_lt))
        have HE2 := Lib.hid (Ext.grown ((hb.trans HRW.out).alloc _) hgrow hrow.block)
        have HROW := Lib.hid hrow'
        clear hrun hrow' hgrow hrow
        go_wp2_with (at_builtin; refine wpList_append_run rfl rfl rfl rfl Hrun.out ?_)
        go_roundw
        case rel => exact ⟨HE2.out, s + 3, k + 1, by omega, by go_num, by have := HI.out.1; omega, fun j hj => by
            by_cases e : j = k
            · subst e
              unfold tripOk
              rw [← HI.out.1, HX.out.1, HX.out.2.1, HX.out.2.2.1, HX.out.2.2.2.1, HX.out.2.2.2.2, G012.out.1, G012.out.2.1, G012.out.2.2]
              rfl
            · exact HI.out.2.1 j (by omega), fun _ => ⟨by omega, G4.out⟩, by rw [RUN.out.1]; exact HT2.out, by rw [RUN.out.2]; exact HROW.out⟩
        case measure => simp [intOf]; omega
    · have hfin : touchRunL vs = (runT vs k).2 := by
        have h1 := HI.out.1
        rcases Nat.eq_zero_or_pos k with h0 | h0
        · subst h0
          unfold touchRunL
          split
          · rename_i hh
            rw [show vs.length / 3 = 0 from by omega]
          · rfl
        · obtain ⟨h2, h3⟩ := HI.out.2.2.1 h0
          have hk : vs.length / 3 = k := by omega
          unfold touchRunL
          rw [hk, if_pos ⟨h3, h2, List.all_eq_true.2 fun j hj => HI.out.2.1 j (by simpa using hj)⟩]
      have HFIN := Lib.hid hfin
      clear hfin
      go_wp2
      go_returns
      exact ⟨_, rfl, by rw [HFIN.out]; exact HI.out.2.2.2.2.cell.1.to1, HI.out.2.2.2.2.cell.2, hb⟩
end Go.Proofs.YtiggckhlbklngaaDoor
