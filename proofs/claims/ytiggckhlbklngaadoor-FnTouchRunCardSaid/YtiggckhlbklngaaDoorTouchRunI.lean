/- Touches one after the other: TouchRun of the program. -/
import Derived.Test.YtiggckhlbklngaaDoorTouchRun
import Derived.Test.YtiggckhlbklngaaDoorChunk
namespace Go.Proofs.YtiggckhlbklngaaDoor
open Go.RowKit
set_option maxRecDepth 8000
attribute [local go_sem] Oper.semAt_some

/-- One touch more, from the place p on. -/
def stepS (vs : List Int) (s : List Touch × List Bool) (p : Nat) : List Touch × List Bool :=
  ((touchKeyL s.1 (vs.getD p 0) (vs.getD (p + 1) 0) (vs.getD (p + 2) 0 == 1)).1, s.2 ++ [(touchKeyL s.1 (vs.getD p 0) (vs.getD (p + 1) 0) (vs.getD (p + 2) 0 == 1)).2])
/-- The keys and the answers behind the touches at these places. -/
def foldS (vs : List Int) (ps : List Nat) : List Touch × List Bool := ps.foldl (stepS vs) ([⟨0, 0⟩, ⟨0, 0⟩, ⟨0, 0⟩], [])
theorem foldS_snoc (vs : List Int) (ps : List Nat) (p : Nat) : foldS vs (ps ++ [p]) = stepS vs (foldS vs ps) p := by simp [foldS]
theorem foldS_runT (vs : List Int) (k : Nat) : foldS vs ((List.range k).map (3 * ·)) = runT vs k := by
  induction k with
  | zero => rfl
  | succ k ih => rw [List.range_succ, List.map_append, List.map_singleton, foldS_snoc, ih]; rfl
theorem foldS_len (vs : List Int) (ps : List Nat) : (foldS vs ps).2.length = ps.length := by
  suffices h : ∀ s : List Touch × List Bool, (ps.foldl (stepS vs) s).2.length = s.2.length + ps.length by simpa [foldS] using h ([⟨0, 0⟩, ⟨0, 0⟩, ⟨0, 0⟩], [])
  induction ps with
  | nil => intro s; rfl
  | cons p ps ih => intro s; rw [List.foldl_cons, ih]; simp [stepS]; omega
/-- The cells of the table. -/
def TabC (cs : Array Value) (xs : List Touch) : Prop := cs.size = 6 ∧ ∀ i x, xs[i]? = some x → cs[i * 2]? = some (.int .i64 x.read) ∧ cs[i * 2 + 1]? = some (.int .i64 x.write)
def TabAt (W : World) (T : Nat) (t : TypeId) (xs : List Touch) : Prop := ∃ cs, W.heap[T]? = some (.cells cs t (0, 0)) ∧ TabC cs xs
theorem TabAt.kept {W W' : World} {T : Nat} {t : TypeId} {xs : List Touch} {row : Option Nat} (h : TabAt W T t xs) (hg : W.grownBy W' row) (hne : some T ≠ row) : TabAt W' T t xs := by
  obtain ⟨cs, h1, h2⟩ := h
  exact ⟨cs, (hg.block T (Array.getElem?_eq_some_iff.1 h1).1 hne).trans h1, h2⟩
theorem TabAt.not_row {W : World} {T : Nat} {t e : TypeId} {xs : List Touch} (h : TabAt W T t xs) (hte : t ≠ e) {base size k : Nat} {v : Value} {ys : List Value} (hr : W.ownsRow base e size v k ys) : some T ≠ v.ownBlock := by
  obtain ⟨cs, h1, _⟩ := h
  rcases hr.2 with ⟨rfl, _⟩ | ⟨g, cap, cur, rfl, _, hgb, _⟩
  · simp [Value.ownBlock]
  · intro e'
    obtain rfl : T = g := by simpa [Value.ownBlock] using e'
    rw [h1] at hgb
    simp at hgb
    exact hte hgb.2
theorem TabAt.set {W : World} {T : Nat} {t : TypeId} {xs : List Touch} (h : TabAt W T t xs) {q : Nat} (hq : q < 3) {y : Touch} : TabAt ((W.setCell ⟨T, q * 2, none⟩ (.int .i64 y.read)).setCell ⟨T, q * 2 + 1, none⟩ (.int .i64 y.write)) T t (xs.set q y) := by
  obtain ⟨cs, h1, hs, h2⟩ := h
  refine ⟨(cs.setIfInBounds (q * 2) (.int .i64 y.read)).setIfInBounds (q * 2 + 1) (.int .i64 y.write), ?_, by simp [hs], fun i x hx => ?_⟩
  · simp [World.setCell, Array.getElem?_modify, h1]
  · rw [List.getElem?_set] at hx
    by_cases e : q = i
    · subst e
      rw [if_pos rfl] at hx
      split at hx
      · cases hx
        constructor
        · rw [Array.getElem?_setIfInBounds_ne (by omega), Array.getElem?_setIfInBounds_self_of_lt (by omega)]
        · rw [Array.getElem?_setIfInBounds_self_of_lt (by simp; omega)]
      · cases hx
    · rw [if_neg e] at hx
      obtain ⟨a1, a2⟩ := h2 i x hx
      constructor
      · rw [Array.getElem?_setIfInBounds_ne (by omega), Array.getElem?_setIfInBounds_ne (by omega)]; exact a1
      · rw [Array.getElem?_setIfInBounds_ne (by omega), Array.getElem?_setIfInBounds_ne (by omega)]; exact a2
theorem TabAt.own {β : Type} (T : Nat) (t : TypeId) (f : β → List Touch) : Go.Own (fun s W => TabAt W T t (f s)) := fun s X Y row hs hg hrow =>
  hs.kept hg (fun e' => by obtain ⟨o, ho, hc⟩ := hrow T e'.symm; obtain ⟨cs, h1, _⟩ := hs; rw [h1] at ho; cases ho; cases hc)
theorem touchesOk_step {xs : List Touch} {q : Nat} {x : Touch} {stamp : Int} {write : Bool} (h : touchesOk xs = true) (hx : xs[q]? = some x) (hs : inB stamp 1 1000 = true) : touchesOk (xs.set q (touchB x stamp write).1) = true := by
  have h0 := touchesOk_at h
  have h1 := inB_true.1 hs
  have h2 := h0.2 x (List.mem_of_getElem? hx)
  rw [touchesOk, Bool.and_eq_true, decide_eq_true_eq, List.all_eq_true]
  refine ⟨by simp [h0.1], fun y hy => ?_⟩
  rw [gTouch, Bool.and_eq_true, inB_true, inB_true]
  rcases List.mem_or_eq_of_mem_set hy with hy | rfl
  · exact h0.2 y hy
  · unfold touchB
    split
    · exact h2
    · split
      · simp only; omega
      · simp only; omega
set_option maxHeartbeats 4000000 in
theorem impl_TouchRun {v : Value} {vs : List Int} (w : World) (h : Sl1 encI w v vs) (hlen : vs.length ≤ 2097152) (hcap : ∀ A n c, v = .slice A n c → n ≤ c) :
    Calls Tryd.prog 9 #[v] w (Ret1 encB w (touchRunL vs)) := by
  have H := Lib.hid h
  obtain ⟨A, c, rfl, hc0⟩ := id h
  have hcap' := hcap _ _ _ rfl
  have HC := Lib.hid hc0
  clear h hc0 hcap
  by_cases hbad : vs.length % 3 ≠ 0 ∨ 60 < vs.length
  · rw [touchRun_bad (by omega)]
    have hm3 : vs.length % 3 ≠ 0 → (((vs.length : Int) % 3) != 0) = true := fun h => by rw [bne_iff_ne]; omega
    have hm4 : vs.length % 3 = 0 → (((vs.length : Int) % 3) != 0) = false := fun h => by rw [bne_eq_false_iff_eq]; omega
    have hlen' : vs.length ≤ 9223372036854775807 := by omega
    by_cases h3 : vs.length % 3 = 0
    · have h60 : 60 < vs.length := by omega
      replace hm4 := hm4 h3
      clear hm3 h3 hbad
      go_enter Tryd.func9, Tryd.ntmps9
      go_wp2
      go_returns
      exact ⟨_, rfl, Sl1.nil _ _ _ _, Own.nil _ _ _ _, (by show Below _ _ _; go_grown)⟩
    · replace hm3 := hm3 h3
      clear hm4 h3 hbad
      go_enter Tryd.func9, Tryd.ntmps9
      go_wp2
      go_returns
      exact ⟨_, rfl, Sl1.nil _ _ _ _, Own.nil _ _ _ _, (by show Below _ _ _; go_grown)⟩
  have h3 : vs.length % 3 = 0 := by omega
  have h60 : vs.length ≤ 60 := by omega
  obtain ⟨L, hL⟩ : ∃ L, vs.length = L := ⟨_, rfl⟩
  rw [hL] at h3 h60 hcap' ⊢
  have hm3 : (((L : Int) % 3) != 0) = false := by rw [bne_eq_false_iff_eq]; omega
  have h60' : ((L : Int) > 60) = False := by simp; omega
  obtain ⟨m, hm⟩ : ∃ m, L / 3 = m := ⟨_, rfl⟩
  have hmi : (L : Int).tdiv 3 = (m : Int) := by rw [Int.tdiv_eq_ediv_of_nonneg (by omega)]; omega
  have hmi' : (L : Int) / 3 = (m : Int) := by omega
  have hmk := make_room (P := Tryd.prog) 25 4 Tryd.underlying25 kbool_T m (by omega) (by omega)
  refine (callsIn_wide (n := 9)).1 ?_
  refine callsIn_of_wp_marks Tryd.func9 rfl trivial ?_ rfl
  simp only [Tryd.ntmps9, List.size_toArray, List.length_cons, List.length_nil, Nat.reduceAdd, Nat.reduceSub, Array.replicate_succ, Array.replicate_zero, List.push_toArray, List.append_toArray, List.nil_append, List.cons_append]
  gi_wp2_with (refine ⟨trivial, ?_⟩; gi_at_call 34; refine (callsIn_wide.2 (chunk_any _ _ _ _)).mono ?_; rintro e w' ⟨rfl, rfl⟩)
  obtain ⟨b, off, hA⟩ : ∃ b off, 0 < L → A = some ⟨b, off, none⟩ ∧ b < w.heap.size ∧ ∀ i x, vs[i]? = some x → w.cell? ⟨b, off + i, none⟩ = some (encI x) := by
    by_cases h0 : 0 < L
    · obtain ⟨b, off, h1, h2, h3⟩ := HC.out (by omega)
      exact ⟨b, off, fun _ => ⟨h1, h2, h3⟩⟩
    · exact ⟨0, 0, fun h => absurd h h0⟩
  have HA := Lib.hid hA
  have HLV := Lib.hid hL
  obtain ⟨W0, hW0⟩ : ∃ W0, ((((((w.alloc (.cells #[Value.slice none 0 0] 25)).alloc (.cells (madeCells #[Value.bool false] m) 4)).alloc (.cells #[Value.slice (some ⟨w.heap.size + 1, 0, none⟩) 0 m] 25)).alloc
    (.cells #[Value.int .i64 0, .int .i64 0, .int .i64 0, .int .i64 0, .int .i64 0, .int .i64 0] 53)).alloc (.cells #[Value.slice A L c] 23)).alloc (.cells #[Value.int .i64 3] 3)) = W0 := ⟨_, rfl⟩
  have hsz : W0.heap.size = w.heap.size + 6 := by rw [← hW0]; simp
  have bR : Boxed W0 w.heap.size 25 (.slice none 0 0) := by
    rw [← hW0]; exact (((((Boxed.new w _ _).alloc _).alloc _).alloc _).alloc _).alloc _
  have bO : Boxed W0 (w.heap.size + 1 + 1) 25 (.slice (some ⟨w.heap.size + 1, 0, none⟩) 0 m) := by
    have := Boxed.new ((w.alloc (.cells #[Value.slice none 0 0] 25)).alloc (.cells (madeCells #[Value.bool false] m) 4)) 25 (.slice (some ⟨w.heap.size + 1, 0, none⟩) 0 m)
    simp only [World.size_alloc] at this
    rw [← hW0]; exact ((this.alloc _).alloc _).alloc _
  have bS : Boxed W0 (w.heap.size + 1 + 1 + 1 + 1) 23 (.slice A L c) := by
    have := Boxed.new ((((w.alloc (.cells #[Value.slice none 0 0] 25)).alloc (.cells (madeCells #[Value.bool false] m) 4)).alloc (.cells #[Value.slice (some ⟨w.heap.size + 1, 0, none⟩) 0 m] 25)).alloc (.cells #[Value.int .i64 0, .int .i64 0, .int .i64 0, .int .i64 0, .int .i64 0, .int .i64 0] 53)) 23 (.slice A L c)
    simp only [World.size_alloc] at this
    rw [← hW0]; exact this.alloc _
  have bN : Boxed W0 (w.heap.size + 1 + 1 + 1 + 1 + 1) 3 (.int .i64 3) := by
    have := Boxed.new (((((w.alloc (.cells #[Value.slice none 0 0] 25)).alloc (.cells (madeCells #[Value.bool false] m) 4)).alloc (.cells #[Value.slice (some ⟨w.heap.size + 1, 0, none⟩) 0 m] 25)).alloc (.cells #[Value.int .i64 0, .int .i64 0, .int .i64 0, .int .i64 0, .int .i64 0, .int .i64 0] 53)).alloc (.cells #[Value.slice A L c] 23)) 3 (.int .i64 3)
    simp only [World.size_alloc] at this
    rw [← hW0]; exact this
  have tT : TabAt W0 (w.heap.size + 1 + 1 + 1) 53 [⟨0, 0⟩, ⟨0, 0⟩, ⟨0, 0⟩] := by
    refine ⟨#[.int .i64 0, .int .i64 0, .int .i64 0, .int .i64 0, .int .i64 0, .int .i64 0], ?_, rfl, fun i x hx => ?_⟩
    · have := World.alloc_heap_new (((w.alloc (.cells #[Value.slice none 0 0] 25)).alloc (.cells (madeCells #[Value.bool false] m) 4)).alloc (.cells #[Value.slice (some ⟨w.heap.size + 1, 0, none⟩) 0 m] 25)) (.cells #[Value.int .i64 0, .int .i64 0, .int .i64 0, .int .i64 0, .int .i64 0, .int .i64 0] 53)
      simp only [World.size_alloc] at this
      rw [← hW0]
      exact (Below.heap_alloc _ _ _ (by simp)).trans ((Below.heap_alloc _ _ _ (by simp)).trans this)
    · match i, hx with
      | 0, hx => cases hx; exact ⟨rfl, rfl⟩
      | 1, hx => cases hx; exact ⟨rfl, rfl⟩
      | 2, hx => cases hx; exact ⟨rfl, rfl⟩
  have rO : Row 4 1 (one encB) w.heap.size W0 (.slice (some ⟨w.heap.size + 1, 0, none⟩) 0 m) ([] : List Bool) := by
    have h1 : Row 4 1 (one encB) w.heap.size ((w.alloc (.cells #[Value.slice none 0 0] 25)).alloc (.cells (madeCells #[Value.bool false] m) 4)) (.slice (some ⟨w.heap.size + 1, 0, none⟩) 0 m) ([] : List Bool) := by
      have := World.ownsRow_made (base := w.heap.size) (e := 4) (size := 1) (w.alloc (.cells #[Value.slice none 0 0] 25)) (madeCells #[Value.bool false] m) m (by simp) (by simp [maxLen]; omega) (by rw [size_madeCells]; omega)
      simp only [World.size_alloc] at this
      exact this
    rw [← hW0]
    exact h1.ext (((((Ext.refl _).alloc _).alloc _).alloc _).alloc _)
  have eB : Ext w W0 := by
    rw [← hW0]
    exact ((((((Ext.refl _).alloc _).alloc _).alloc _).alloc _).alloc _).alloc _
  rw [hW0]
  clear hW0
  refine wpIn_rangeFunc_ownG rfl (by omega) (gf := 64) (lb := #[.pointer (some ⟨w.heap.size + 1 + 1 + 1 + 1, 0, none⟩), .pointer (some ⟨w.heap.size + 1 + 1 + 1 + 1 + 1, 0, none⟩)]) rfl trivial (enters_of Tryd.func64 (by kernel_rfl) rfl)
    (chunk_stops 8 (by omega) (w.heap.size + 1 + 1 + 1 + 1) w.heap.size L c m A b off (fun h => (hA h).1) (by omega) hcap' h60 W0 (by omega) bS.cell bN.cell) keepAt_t (keepAt_b (by omega) (by omega)) (Below.refl _ _) (fun _ => rfl)
    (fun pre W => ((Boxed W w.heap.size 25 (.slice none 0 0) ∧ TabAt W (w.heap.size + 1 + 1 + 1) 53 (foldS vs (pre.map (·.1))).1 ∧ Boxed W (w.heap.size + 1 + 1 + 1 + 1) 23 (.slice A L c) ∧ Boxed W (w.heap.size + 1 + 1 + 1 + 1 + 1) 3 (.int .i64 3) ∧
      ∃ v, Boxed W (w.heap.size + 1 + 1) 25 v ∧ W.ownsRow w.heap.size 4 1 v (foldS vs (pre.map (·.1))).2.length ((foldS vs (pre.map (·.1))).2.flatMap (cellsOf_ 1 (one encB))) ∧ True) ∧
      (touchesOk (foldS vs (pre.map (·.1))).1 = true ∧ ∀ p ∈ pre, tripOk vs (p.1 / 3) = true)) ∧ Below w.heap.size w W)
    (fun c pre W => ((c = .ret ∧ touchRunL vs = []) ∧ Boxed W w.heap.size 25 (.slice none 0 0)) ∧ Below w.heap.size w W)
    (OwnFrom.and (OwnFrom.and (Go.Own.from (fun s A B row hs hg hr => ⟨boxed_own (β := Unit) _ _ (fun _ => .slice none 0 0) () _ _ _ hs.1 hg hr, TabAt.own (β := Unit) _ _ (fun _ => (foldS vs (s.map (·.1))).1) () _ _ _ hs.2.1 hg hr, boxed_own (β := Unit) _ _ (fun _ => .slice _ _ _) () _ _ _ hs.2.2.1 hg hr, boxed_own (β := Unit) _ _ (fun _ => .int .i64 3) () _ _ _ hs.2.2.2.1 hg hr, holdsRow_own w.heap.size _ _ _ 1 (fun pre : List (Plc L) => (foldS vs (pre.map (·.1))).2.length) (fun pre : List (Plc L) => (foldS vs (pre.map (·.1))).2.flatMap (cellsOf_ 1 (one encB))) (fun _ _ => True) s _ _ _ hs.2.2.2.2 hg hr⟩) _) (ownFrom_pure _ _)) (ownFrom_below (Nat.le_refl _) (by omega)))
    (fun c => OwnFrom.and (OwnFrom.and (ownFrom_pure _ (fun _ => c = .ret ∧ touchRunL vs = [])) (Go.Own.from (boxed_own _ _ (fun _ => .slice none 0 0)) _)) (ownFrom_below (Nat.le_refl _) (by omega)))
    ⟨⟨⟨bR, tT, bS, bN, _, bO, rO, trivial⟩, rfl, fun p hp => by cases hp⟩, eB⟩
    (fun x => { tmps := #[.slice A L c, undef, .pointer (some ⟨w.heap.size, 0, none⟩), .pointer (some ⟨w.heap.size + 1 + 1, 0, none⟩), .pointer (some ⟨w.heap.size + 1 + 1 + 1, 0, none⟩), Value.slice (some ⟨b, off + x.1, none⟩) 3 3, undef, undef, undef, undef, undef, .slice A L c, .int .i64 (L : Int), .int .i64 ((L : Int) % 3), .bool false, .bool false, .slice A L c, .int .i64 (L : Int), .bool false, .bool false, .slice A L c, .int .i64 (L : Int), .int .i64 (m : Int), .slice (some ⟨w.heap.size + 1, 0, none⟩) 0 m, .slice A L c, .func (.func 64) #[] #[.pointer (some ⟨w.heap.size + 1 + 1 + 1 + 1, 0, none⟩), .pointer (some ⟨w.heap.size + 1 + 1 + 1 + 1 + 1, 0, none⟩)], Value.slice (some ⟨b, off + x.1, none⟩) 3 3, undef, undef, undef, undef, undef, undef, undef, undef, undef, undef, undef, undef, undef, undef, undef, undef, undef, undef, undef, undef, undef, undef, undef, undef, undef, undef, undef, undef, undef, undef, undef, undef, undef, undef, undef, undef, undef, undef, undef, undef], defers := [] }) ?assign ?body ?done ?stop
  case assign =>
    intro l x W K hK
    gi_wp2
    exact hK
  case body =>
    rintro l pre ⟨s, hs3, hs⟩ W ⟨⟨⟨hR, hT, hS, hN, v, hO, hrow, -⟩, hok, htrip⟩, hB⟩ hlt
    obtain ⟨hA1, hb, hcell⟩ := hA (by omega)
    obtain ⟨x0, hx0⟩ : ∃ x, vs.getD s 0 = x := ⟨_, rfl⟩
    obtain ⟨x1, hx1⟩ : ∃ x, vs.getD (s + 1) 0 = x := ⟨_, rfl⟩
    obtain ⟨x2, hx2⟩ : ∃ x, vs.getD (s + 2) 0 = x := ⟨_, rfl⟩
    have m0 := (hB.cell (p := ⟨b, off + s, none⟩) hb).trans (hcell s x0 (by rw [← hx0]; exact getD_at (by omega)))
    have m1 := (hB.cell (p := ⟨b, off + s + 1, none⟩) hb).trans (hcell (s + 1) x1 (by rw [← hx1]; exact getD_at (by omega)))
    have m2 := (hB.cell (p := ⟨b, off + s + 2, none⟩) hb).trans (hcell (s + 2) x2 (by rw [← hx2]; exact getD_at (by omega)))
    simp only [encI] at m0 m1 m2
    have HX := Lib.hid (And.intro hx0 (And.intro hx1 hx2))
    have hmx : Tryd.prog.follows .mixedOrders = true := by kernel_rfl
    have HR := Lib.hid hR
    have HT := Lib.hid hT
    have HS := Lib.hid (And.intro hS hN)
    have HO := Lib.hid hO
    have HROW := Lib.hid hrow
    have HOK := Lib.hid (And.intro hok htrip)
    have HB := Lib.hid hB
    have HMM := Lib.hid hm
    clear hcell hx0 hx1 hx2 hR hT hS hN hO hrow hok htrip hB hA hL hm hmi hmi' hmk bR bO bS bN tT rO eB
    dsimp only
    gi_wp2
    refine wpIn_region_round (by kernel_rfl) (by kernel_rfl) (by kernel_rfl) ?_
    repeat (gi_big_quiet_step (fail))
    refine wpQuietIn_nil ?_
    rintro _ ⟨nq, rfl⟩
    have EV : Ext W (W.drewN nq) := ⟨rfl, rfl, rfl, Nat.le_refl _, fun _ _ => rfl⟩
    obtain ⟨V, hV⟩ : ∃ V, W.drewN nq = V := ⟨_, rfl⟩
    rw [hV] at EV ⊢
    clear hV m0 m1 m2
    have HS0 := HS
    have HB0 := HB
    replace HR := Lib.hid (boxed_ext HR.out EV)
    replace HT := Lib.hid (HT.out.kept (grownBy_ext EV) (by simp))
    replace HS := Lib.hid (And.intro (boxed_ext HS.out.1 EV) (boxed_ext HS.out.2 EV))
    replace HO := Lib.hid (boxed_ext HO.out EV)
    replace HROW : Hid (Row 4 1 (one encB) w.heap.size V v (foldS vs (pre.map (·.1))).2) := Lib.hid (Row.ext (e := 4) (m := 1) (enc := one encB) HROW.out EV)
    replace HB : Hid (Below w.heap.size w V) := Lib.hid (HB.out.trans (EV.mono HB.out.size))
    have KF : Hid (KeepsFrom W0.heap.size W V) := Lib.hid ((keepsOthers_ext EV).from _)
    have BAD : (inB (vs.getD s 0) 1 1000 && (inB (vs.getD (s + 1) 0) 0 2 && inB (vs.getD (s + 2) 0) 0 1)) = false → touchRunL vs = [] := fun h => touchRun_bad (.inl ⟨s / 3, by have := HLV.out; omega, by unfold tripOk; rw [show 3 * (s / 3) = s by omega]; exact h⟩)
    have cR := HR.out.cell
    have fR := HR.out.frozen
    by_cases g0 : inB x0 1 1000 = true
    case neg =>
      have hn : inB x0 1 1000 = false := by simpa using g0
      have hf := Lib.hid (BAD (by rw [HX.out.1, HX.out.2.1, HX.out.2.2, hn]; simp))
      clear g0
      gi_wp2_with (first | (refine ⟨trivial, ?_⟩; gi_at_call 35; refine (CallsIn.inRound l (callsIn_wide.2 (within_any _ _ _ _))).mono ?_; rintro e w' ⟨rfl, rfl⟩) | (refine ⟨trivial, ?_⟩; gi_at_call 36; refine (CallsIn.inRound l (callsIn_wide.2 (keyOk_any _ _))).mono ?_; rintro e w' ⟨rfl, rfl⟩) | refine ⟨(trivial : Fence.wide.fn _), ?_⟩)
      exact ⟨(KF.out.trans ((KeepsOthers.setCell V _ _).from _)), ⟨⟨rfl, hf.out⟩, HR.out.set _⟩, HB.out.setCell (p := ⟨w.heap.size, 0, none⟩) (Nat.le_refl _) _⟩
    by_cases g1 : inB x1 0 2 = true
    case neg =>
      have hn : inB x1 0 2 = false := by simpa using g1
      have hf := Lib.hid (BAD (by rw [HX.out.1, HX.out.2.1, HX.out.2.2, hn]; simp))
      clear g1
      gi_wp2_with (first | (refine ⟨trivial, ?_⟩; gi_at_call 35; refine (CallsIn.inRound l (callsIn_wide.2 (within_any _ _ _ _))).mono ?_; rintro e w' ⟨rfl, rfl⟩) | (refine ⟨trivial, ?_⟩; gi_at_call 36; refine (CallsIn.inRound l (callsIn_wide.2 (keyOk_any _ _))).mono ?_; rintro e w' ⟨rfl, rfl⟩) | refine ⟨(trivial : Fence.wide.fn _), ?_⟩)
      exact ⟨(KF.out.trans ((KeepsOthers.setCell V _ _).from _)), ⟨⟨rfl, hf.out⟩, HR.out.set _⟩, HB.out.setCell (p := ⟨w.heap.size, 0, none⟩) (Nat.le_refl _) _⟩
    by_cases g2 : inB x2 0 1 = true
    case neg =>
      have hn : inB x2 0 1 = false := by simpa using g2
      have hf := Lib.hid (BAD (by rw [HX.out.1, HX.out.2.1, HX.out.2.2, hn]; simp))
      clear g2
      gi_wp2_with (first | (refine ⟨trivial, ?_⟩; gi_at_call 35; refine (CallsIn.inRound l (callsIn_wide.2 (within_any _ _ _ _))).mono ?_; rintro e w' ⟨rfl, rfl⟩) | (refine ⟨trivial, ?_⟩; gi_at_call 36; refine (CallsIn.inRound l (callsIn_wide.2 (keyOk_any _ _))).mono ?_; rintro e w' ⟨rfl, rfl⟩) | refine ⟨(trivial : Fence.wide.fn _), ?_⟩)
      exact ⟨(KF.out.trans ((KeepsOthers.setCell V _ _).from _)), ⟨⟨rfl, hf.out⟩, HR.out.set _⟩, HB.out.setCell (p := ⟨w.heap.size, 0, none⟩) (Nat.le_refl _) _⟩
    have TRIP : Hid (tripOk vs (s / 3) = true) := by
      show _ = _
      unfold tripOk
      rw [show 3 * (s / 3) = s by omega, HX.out.1, HX.out.2.1, HX.out.2.2, g0, g1, g2]
      rfl
    clear BAD
    have hst := inB_true.1 g0
    have hk' := inB_true.1 g1
    obtain ⟨q, rfl⟩ := Int.eq_ofNat_of_zero_le hk'.1
    have hq3 : q < 3 := by omega
    have hok := touchesOk_at HOK.out.1
    obtain ⟨y, hy⟩ := at_some (show q < (foldS vs (pre.map (·.1))).1.length by omega)
    have hyr := (hok.2 y (List.mem_of_getElem? hy)).1
    obtain ⟨r, hr⟩ : ∃ r, touchB y x0 (x2 == 1) = r := ⟨_, rfl⟩
    have ht := fun W => touch_any y x0 (x2 == 1) W hyr hst
    rw [hr] at ht
    have HY := Lib.hid (And.intro hy hr)
    have hTl : w.heap.size + 1 + 1 + 1 < V.heap.size := by
      obtain ⟨cs, h1, _⟩ := HT.out
      exact (Array.getElem?_eq_some_iff.1 h1).1
    have c0 : V.cell? ⟨w.heap.size + 1 + 1 + 1, q * 2, none⟩ = some (.int .i64 y.read) := by
      obtain ⟨cs, h1, _, h2⟩ := HT.out
      simp [World.cell?, h1, (h2 q y hy).1]
    have c1 : V.cell? ⟨w.heap.size + 1 + 1 + 1, q * 2 + 1, none⟩ = some (.int .i64 y.write) := by
      obtain ⟨cs, h1, _, h2⟩ := HT.out
      simp [World.cell?, h1, (h2 q y hy).2]
    have f0 : ∀ j, V.frozen? ⟨w.heap.size + 1 + 1 + 1, j, none⟩ = false := fun j => by
      obtain ⟨cs, h1, _, h2⟩ := HT.out
      simp [World.frozen?, h1]
    have F0 := Lib.hid f0
    have C01 := Lib.hid (And.intro c0 c1)
    clear hok hy hr hyr f0 cR fR hk' hst
    gi_wp2_with (first | (refine ⟨trivial, ?_⟩; gi_at_call 35; refine (CallsIn.inRound l (callsIn_wide.2 (within_any _ _ _ _))).mono ?_; rintro e w' ⟨rfl, rfl⟩) | (refine ⟨trivial, ?_⟩; gi_at_call 36; refine (CallsIn.inRound l (callsIn_wide.2 (keyOk_any _ _))).mono ?_; rintro e w' ⟨rfl, rfl⟩))
    refine ⟨trivial, (CallsIn.inRound l (callsIn_wide.2 (ht _))).mono ?_⟩
    clear ht
    rintro e W1 ⟨rfl, b1⟩
    have c0' := b1.cell c0
    have c1' := b1.cell c1
    have f0' : W1.frozen? ⟨w.heap.size + 1 + 1 + 1, q * 2, none⟩ = false := (b1.frozen (p := ⟨w.heap.size + 1 + 1 + 1, q * 2, none⟩) hTl).trans (F0.out _)
    have f1' : W1.frozen? ⟨w.heap.size + 1 + 1 + 1, q * 2 + 1, none⟩ = false := (b1.frozen (p := ⟨w.heap.size + 1 + 1 + 1, q * 2 + 1, none⟩) hTl).trans (F0.out _)
    have cO := (boxed_ext HO.out b1).cell
    have fO := (boxed_ext HO.out b1).frozen
    have hTl1 := Nat.lt_of_lt_of_le hTl b1.size
    have hOl1 : w.heap.size + 1 + 1 < W1.heap.size := by omega
    have B1 := Lib.hid b1
    clear c0 c1
    obtain ⟨X, hX⟩ : ∃ X, ((W1.setCell ⟨w.heap.size + 1 + 1 + 1, q * 2, none⟩ (.int .i64 r.1.read)).setCell ⟨w.heap.size + 1 + 1 + 1, q * 2 + 1, none⟩ (.int .i64 r.1.write)) = X := ⟨_, rfl⟩
    have hXs : X.heap.size = W1.heap.size := by rw [← hX]; simp [World.setCell]
    have GX : Hid (∀ (B : Nat) (t : TypeId) (u : Value), Boxed V B t u → B ≠ w.heap.size + 1 + 1 + 1 → Boxed (X.alloc (.cells #[.int .i64 r.1.read, .int .i64 r.1.write] 52)) B t u) := Lib.hid (fun B t u h hne => by
      rw [← hX]; exact (boxed_set (boxed_set (boxed_ext h B1.out) (by simpa using hne.symm) _) (by simpa using hne.symm) _).alloc _)
    have TX : Hid (TabAt (X.alloc (.cells #[.int .i64 r.1.read, .int .i64 r.1.write] 52)) (w.heap.size + 1 + 1 + 1) 53 ((foldS vs (pre.map (·.1))).1.set q r.1)) := by
      refine TabAt.kept (row := none) (W := X) ?_ (World.grownBy_alloc _ _ _) (by simp)
      rw [← hX]
      exact TabAt.set (HT.out.kept (grownBy_ext B1.out) (by simp)) hq3
    have RX : Hid (Row 4 1 (one encB) w.heap.size (X.alloc (.cells #[.int .i64 r.1.read, .int .i64 r.1.write] 52)) v (foldS vs (pre.map (·.1))).2) := by
      have h1 := Row.ext HROW.out B1.out
      have h2 : some (w.heap.size + 1 + 1 + 1) ≠ v.ownBlock := (HT.out.kept (grownBy_ext B1.out) (by simp)).not_row (by decide) h1
      refine Row.ext (w := X) ?_ ((Ext.refl _).alloc _)
      rw [← hX]
      exact World.ownsRow.kept (World.ownsRow.kept h1 (grownBy_setc _ _ _) (.inr h2.symm)) (grownBy_setc _ _ _) (.inr h2.symm)
    have KX : Hid (KeepsOthers W1 (X.alloc (.cells #[.int .i64 r.1.read, .int .i64 r.1.write] 52)) ∧ Below w.heap.size W1 (X.alloc (.cells #[.int .i64 r.1.read, .int .i64 r.1.write] 52))) := by
      refine ⟨?_, ?_⟩
      · rw [← hX]; exact ((KeepsOthers.setCell _ _ _).trans (KeepsOthers.setCell _ _ _)).trans (KeepsOthers.alloc _ _)
      · have hs1 : w.heap.size ≤ W1.heap.size := by omega
        refine Below.alloc ?_ (by rw [hXs]; exact hs1) _
        rw [← hX]
        exact ((Below.refl _ _).setCell (p := ⟨w.heap.size + 1 + 1 + 1, q * 2, none⟩) (by simp; omega) _).setCell (p := ⟨w.heap.size + 1 + 1 + 1, q * 2 + 1, none⟩) (by simp; omega) _
    obtain ⟨i0, hi, hz0, hz1, hz2⟩ := info_parts kbool_T
    have LEN : Hid ((foldS vs (pre.map (·.1))).2.length = pre.length) := by show _ = _; rw [foldS_len, List.length_map]
    have hlm : pre.length + 1 ≤ 100 := by have := HMM.out; omega
    subst hX
    gi_wp2_with (gi_at_builtin; refine halt ?_)
    refine Halt.go ?_
    refine wpListIn_append_own _ rfl _ _ 25 rfl w.heap.size 4 i0 (.bool false) 1 1 Tryd.underlying25 hi hz0 hz1 hz2 rfl (by decide) _ _ _ rfl (World.ownsRow.alloc RX.out _) ⟨_, 0, none⟩ 1 1 [.bool r.2] rfl rfl (cell_one_at _ _ _ _ (by simp [World.setCell])) (by simp [Value.oneCell']) (by rw [LEN.out]; simp only [maxLen]; omega) (by rw [LEN.out]; omega) (by simp; omega) ?_
    intro v' w1 hown' hgrow _
    obtain ⟨g', cap', rfl⟩ := ownsRow_succ hown'
    have HG := Lib.hid hgrow
    have AP := Lib.hid (Boxed.appended (GX.out _ _ _ HO.out (by omega)) (by decide) RX.out (by simp; omega) (by omega) hown' hgrow)
    have hc1 := AP.out.1.cell
    have hf1 := AP.out.1.frozen
    gi_wp2
    have STEP : foldS vs ((pre ++ [(⟨s, hs3, hs⟩ : Plc L)]).map (·.1)) = ((foldS vs (pre.map (·.1))).1.set q r.1, (foldS vs (pre.map (·.1))).2 ++ [r.2]) := by
      rw [List.map_append, List.map_singleton, foldS_snoc]
      unfold stepS
      rw [HX.out.1, HX.out.2.1, HX.out.2.2, touchKeyL_yes HOK.out.1 g0 g1 HY.out.1, HY.out.2]
    have FIN : ∀ (B : Nat) (t : TypeId) (u : Value), Boxed V B t u → B ≠ w.heap.size + 1 + 1 + 1 → B ≠ w.heap.size + 1 + 1 → t ≠ 4 → Boxed (w1.setCell ⟨w.heap.size + 1 + 1, 0, none⟩ (.slice (some ⟨g', 0, none⟩) ((foldS vs (pre.map (·.1))).2.length + 1) cap')) B t u := fun B t u h h1 h2 h3 =>
      boxed_set (((GX.out B t u h h1).alloc _).kept HG.out ((GX.out B t u h h1).not_row h3 RX.out)) (by simpa using h2.symm) _
    have hrw := AP.out.2.2.1
    refine ⟨?_, ⟨?_, fun k hk1 hk2 => ?_⟩, ⟨⟨⟨FIN _ _ _ HR.out (by omega) (by omega) (by decide), ?_, FIN _ _ _ HS.out.1 (by omega) (by omega) (by decide), FIN _ _ _ HS.out.2 (by omega) (by omega) (by decide), _, AP.out.2.1, ?_, trivial⟩, ?_, ?_⟩, ?_⟩⟩
    · exact (KF.out.trans (((keepsOthers_ext B1.out).trans (KX.out.1.trans AP.out.2.2.2.1)).from _))
    · exact (EV.mono HB0.out.size).trans ((B1.out.mono HB.out.size).trans (KX.out.2.trans AP.out.2.2.2.2))
    · have : k = w.heap.size + 1 + 1 + 1 + 1 ∨ k = w.heap.size + 1 + 1 + 1 + 1 + 1 := by omega
      rcases this with rfl | rfl
      · exact (FIN _ _ _ HS.out.1 (by omega) (by omega) (by decide)).trans HS0.out.1.symm
      · exact (FIN _ _ _ HS.out.2 (by omega) (by omega) (by decide)).trans HS0.out.2.symm
    · rw [STEP]
      exact ((TX.out.kept (World.grownBy_alloc _ _ none) (by simp)).kept HG.out (TX.out.not_row (by decide) RX.out)).kept (grownBy_setc _ _ _) (by simp)
    · rw [STEP]
      simp only [List.length_append, List.length_singleton, List.flatMap_append]
      simpa [cellsOf_, one, encB] using hrw
    · rw [STEP]
      have := touchesOk_step (write := (x2 == 1)) HOK.out.1 HY.out.1 g0
      rw [HY.out.2] at this
      exact this
    · intro p hp
      rcases List.mem_append.1 hp with hp | hp
      · exact HOK.out.2 p hp
      · rw [List.mem_singleton] at hp
        subst hp
        exact TRIP.out
    · exact (HB.out.trans ((B1.out.mono HB.out.size))).trans (KX.out.2.trans AP.out.2.2.2.2)
  case done =>
    rintro D ys W hD hS ⟨⟨⟨hR, -, -, -, v, hO, hrow, -⟩, -, htrip⟩, hB⟩ hK
    have hF : foldS vs (ys.map (·.1)) = runT vs m := by rw [hS, foldS_runT]
    have hall : touchRunL vs = (runT vs m).2 := by
      unfold touchRunL
      rw [HLV.out, hm]
      refine if_pos ⟨h3, h60, ?_⟩
      rw [List.all_eq_true]
      intro j hj
      have hj' : 3 * j ∈ (List.range m).map (3 * ·) := List.mem_map.2 ⟨j, hj, rfl⟩
      rw [← hS] at hj'
      obtain ⟨p, hp, hpj⟩ := List.mem_map.1 hj'
      have := htrip p hp
      rwa [hpj, show 3 * j / 3 = j by omega] at this
    rw [hF] at hrow
    obtain ⟨A', c', rfl, -⟩ := (show Row 4 1 (one encB) w.heap.size W v (runT vs m).2 from hrow).cell.1
    have HALL := Lib.hid hall
    have HROW := Lib.hid hrow
    have HRR := Lib.hid hR
    have hne : some w.heap.size ≠ (Value.slice A' (runT vs m).2.length c').ownBlock := hR.not_row (by decide) hrow
    have hc := hO.cell
    have cR := hR.cell
    have fR := hR.frozen
    clear hall hrow htrip hF hm hmi hmi' hmk hA hS h3 hm3 hL
    gi_wp2
    have hK' := (KeepsOthers.setCell W ⟨w.heap.size, 0, none⟩ (.slice A' (runT vs m).2.length c')).same D _ hK rfl
    refine ⟨by simp, .inl ⟨_, _, rfl, run_takeDeferred hK', ?_⟩⟩
    have hc5 := cell_kept (HRR.out.set _).cell (grownBy_putObj' _ D (.deferred none)) (fun r e => by cases e; exact ⟨_, hK', rfl⟩)
    have hr1 : Row 4 1 (one encB) w.heap.size (W.setCell ⟨w.heap.size, 0, none⟩ (.slice A' (runT vs m).2.length c')) (.slice A' (runT vs m).2.length c') (runT vs m).2 := World.ownsRow.kept HROW.out (grownBy_setc _ _ _) (.inr hne.symm)
    have hr2 : Row 4 1 (one encB) w.heap.size ((W.setCell ⟨w.heap.size, 0, none⟩ (.slice A' (runT vs m).2.length c')).putObj D (.deferred none)) (.slice A' (runT vs m).2.length c') (runT vs m).2 := ownsRow_putObj hr1 _ hK' rfl
    refine ⟨_, ?_, _, rfl, by rw [HALL.out]; exact hr2.cell.1.to1, hr2.cell.2, (hB.setCell (p := ⟨w.heap.size, 0, none⟩) (Nat.le_refl _) _).trans (belowK_b (w := w) (Nat.le_refl _) _ D _ _ (by omega) hK' rfl rfl)⟩
    simp [results, Tryd.f9, go_sem, hc5]
  case stop =>
    rintro D c pre W hD - ⟨⟨⟨rfl, hf⟩, hR⟩, hB⟩ hK
    gi_wp2
    refine ⟨by simp, .inl ⟨_, _, rfl, run_takeDeferred hK, ?_⟩⟩
    have hc5 := cell_kept hR.cell (grownBy_putObj' _ D (.deferred none)) (fun r e => by cases e; exact ⟨_, hK, rfl⟩)
    refine ⟨.slice none 0 0, ?_, .slice none 0 0, rfl, by rw [hf]; exact Sl1.nil _ _ _ _, Own.nil _ _ _ _, hB.trans (belowK_b (w := w) (Nat.le_refl _) W D _ _ (by omega) hK rfl rfl)⟩
    simp [results, Tryd.f9, go_sem, hc5]
end Go.Proofs.YtiggckhlbklngaaDoor
