/- Records that are left: RedoShort of the program. -/
import Derived.Test.YtiggckhlbklngaaDoorRedoShort
import Derived.Test.YtiggckhlbklngaaDoorBack
import Derived.Test.YtiggckhlbklngaaDoorRev
namespace Go.Proofs.YtiggckhlbklngaaDoor
open Go.RowKit
set_option maxRecDepth 8000
attribute [local go_sem] Oper.semAt_some

/-- Three marks in a block. -/
def LatAt (W : World) (T : Nat) (t : TypeId) (f : Nat → Bool) : Prop := W.heap[T]? = some (.cells #[.bool (f 0), .bool (f 1), .bool (f 2)] t (0, 0))
theorem LatAt.lt {W : World} {T : Nat} {t : TypeId} {f : Nat → Bool} (h : LatAt W T t f) : T < W.heap.size := (Array.getElem?_eq_some_iff.1 h).1
theorem LatAt.kept {W W' : World} {T : Nat} {t : TypeId} {f : Nat → Bool} {row : Option Nat} (h : LatAt W T t f) (hg : W.grownBy W' row) (hne : some T ≠ row) : LatAt W' T t f := (hg.block T h.lt hne).trans h
theorem LatAt.own {β : Type} (T : Nat) (t : TypeId) (f : β → Nat → Bool) : Go.Own (fun s W => LatAt W T t (f s)) := fun s X Y row hs hg hrow =>
  hs.kept hg (fun e' => by obtain ⟨o, ho, hc⟩ := hrow T e'.symm; rw [show X.heap[T]? = _ from hs] at ho; cases ho; cases hc)
theorem LatAt.not_row {W : World} {T : Nat} {t e : TypeId} {f : Nat → Bool} (h : LatAt W T t f) (hte : t ≠ e) {base size k : Nat} {v : Value} {ys : List Value} (hr : W.ownsRow base e size v k ys) : some T ≠ v.ownBlock := by
  rcases hr.2 with ⟨rfl, _⟩ | ⟨g, cap, cur, rfl, _, hgb, _⟩
  · simp [Value.ownBlock]
  · intro e'
    obtain rfl : T = g := by simpa [Value.ownBlock] using e'
    rw [show W.heap[T]? = _ from h] at hgb
    simp at hgb
    exact hte hgb.2
theorem LatAt.cell {W : World} {T : Nat} {t : TypeId} {f : Nat → Bool} (h : LatAt W T t f) {q : Nat} (hq : q < 3) : W.cell? ⟨T, q, none⟩ = some (.bool (f q)) := by
  simp only [World.cell?, show W.heap[T]? = _ from h]
  match q, hq with
  | 0, _ => rfl
  | 1, _ => rfl
  | 2, _ => rfl
theorem LatAt.frozen {W : World} {T : Nat} {t : TypeId} {f : Nat → Bool} (h : LatAt W T t f) (q : Nat) : W.frozen? ⟨T, q, none⟩ = false := by
  simp [World.frozen?, show W.heap[T]? = _ from h]
theorem LatAt.set {W : World} {T : Nat} {t : TypeId} {f g : Nat → Bool} (h : LatAt W T t f) {q : Nat} (hq : q < 3) (hg : g q = true) (ho : ∀ i, i < 3 → i ≠ q → g i = f i) : LatAt (W.setCell ⟨T, q, none⟩ (.bool true)) T t g := by
  unfold LatAt at *
  match q, hq with
  | 0, _ => simp [World.setCell, Array.getElem?_modify, h, hg, ho 1 (by omega) (by omega), ho 2 (by omega) (by omega)]
  | 1, _ => simp [World.setCell, Array.getElem?_modify, h, hg, ho 0 (by omega) (by omega), ho 2 (by omega) (by omega)]
  | 2, _ => simp [World.setCell, Array.getElem?_modify, h, hg, ho 0 (by omega) (by omega), ho 1 (by omega) (by omega)]
theorem LatAt.same {W : World} {T : Nat} {t : TypeId} {f g : Nat → Bool} (h : LatAt W T t f) (hfg : ∀ i, i < 3 → g i = f i) : LatAt W T t g := by
  unfold LatAt at *
  rw [hfg 0 (by omega), hfg 1 (by omega), hfg 2 (by omega)]
  exact h
/-- The part of the list that has come, in the list's order. -/
def sufOf {xs : List Redo} (pre : List (At xs)) : List Redo := (pre.map (·.1.2)).reverse
theorem sufOf_snoc {xs : List Redo} (pre : List (At xs)) (x : At xs) : sufOf (pre ++ [x]) = x.1.2 :: sufOf pre := by simp [sufOf]
theorem laterB_cons (S : Nat) (key : Int) (x : Redo) (xs : List Redo) : laterB S key (x :: xs) = (x.key == key && S.testBit x.who.toNat || laterB S key xs) := by simp [laterB]
theorem shortS_len (S : Nat) (xs : List Redo) : (shortS S xs).length ≤ xs.length := (shortS_sub S xs).length_le
theorem shortS_yes {S : Nat} {x : Redo} {xs : List Redo} (h1 : S.testBit x.who.toNat = true) (h2 : x.key = -1 ∨ laterB S x.key xs = false) : shortS S (x :: xs) = x :: shortS S xs := by rw [shortS, if_pos ⟨h1, h2⟩]
theorem shortS_no {S : Nat} {x : Redo} {xs : List Redo} (h : ¬ (S.testBit x.who.toNat = true ∧ (x.key = -1 ∨ laterB S x.key xs = false))) : shortS S (x :: xs) = shortS S xs := by rw [shortS, if_neg h]

theorem kredo_S : (Tryd.prog.info? 73).map (fun i => (i.zero, i.size, i.bytes)) = some (some (.agg #[.int .i64 0, .int .i64 0, .int .i64 0]), 3, 24) := by kernel_rfl
set_option maxHeartbeats 4000000 in
theorem impl_RedoShort {v : Value} {xs : List Redo} (w : World) (h : SlOf 3 encRedo w v xs) (hlen : xs.length ≤ 2097152) :
    Calls Tryd.prog 16 #[v] w (RetOf 3 encRedo w (shortL xs)) := by
  have H := Lib.hid h
  obtain ⟨A, c, rfl, hc0⟩ := id h
  have HC := Lib.hid hc0
  clear h hc0
  by_cases hv : redoOk xs = true
  case neg =>
    have hf : Hid (shortL xs = []) := by show _ = _; rw [shortL, if_neg hv]
    rw [hf.out]
    simp only [Bool.not_eq_true] at hv
    go_enter Tryd.func16, Tryd.ntmps16
    go_wp2_with fail
    refine (finished_any _ H.out hlen).mono ?_
    rw [hv]
    rintro e w1 ⟨rfl, b1⟩
    go_wp2
    go_returns
    exact ⟨_, rfl, SlOf.nil _ _ _ _ _, Own.nil _ _ _ _, b1.alloc _⟩
  have hs : finSet xs = setTo xs xs.length := (finSet_end (fun i hi => redo_good hv hi)).1
  obtain ⟨h30, hg1, _⟩ := redoOk_pair.1 hv
  obtain ⟨S, hS⟩ : ∃ S, setTo xs xs.length = S := ⟨_, rfl⟩
  have hS64 : S < 64 := by rw [← hS]; exact setTo_lt (fun i hi => redo_good hv hi)
  rw [hS] at hs
  have HFIN : Hid (shortL xs = shortS S xs) := by show _ = _; rw [shortL, if_pos hv, hS]
  have HG := Lib.hid hg1
  clear hS hg1
  have hmk := make_room (P := Tryd.prog) 29 73 Tryd.underlying29 kredo_S xs.length (by omega) (by omega)
  refine (callsIn_wide (n := 9)).1 ?_
  refine callsIn_of_wp_marks Tryd.func16 rfl trivial ?_ rfl
  simp only [Tryd.ntmps16, List.size_toArray, List.length_cons, List.length_nil, Nat.reduceAdd, Nat.reduceSub, Array.replicate_succ, Array.replicate_zero, List.push_toArray, List.append_toArray, List.nil_append, List.cons_append]
  gi_wp2
  refine ⟨trivial, (callsIn_wide.2 (finished_any _ H.out hlen)).mono ?_⟩
  rw [hv, hs]
  rintro e w1 ⟨rfl, b1⟩
  clear hs hv
  gi_wp2_with (refine ⟨trivial, ?_⟩; gi_at_call 51; refine (callsIn_wide.2 (back_any _ _ _ _)).mono ?_; rintro e w' ⟨rfl, rfl⟩)
  obtain ⟨b, off, hA, hb, hcell⟩ : ∃ b off, (0 < xs.length → A = some ⟨b, off, none⟩) ∧ (0 < xs.length → b < w.heap.size) ∧ ∀ i x, xs[i]? = some x → ∀ j, j < 3 → w.cell? ⟨b, off + i * 3 + j, none⟩ = some (encRedo x j) := by
    by_cases h0 : 0 < xs.length
    · obtain ⟨b, off, h1, h2, h3⟩ := HC.out h0
      exact ⟨b, off, fun _ => h1, fun _ => h2, h3⟩
    · exact ⟨0, 0, fun h => absurd h h0, fun h => absurd h h0, fun i x hx => by have := (List.getElem?_eq_some_iff.1 hx).1; omega⟩
  obtain ⟨W0, hW0⟩ : ∃ W0, (((((w1.alloc (.cells #[Value.int .u64 (S : Int)] 67)).alloc (.cells (madeCells #[Value.int .i64 0, Value.int .i64 0, Value.int .i64 0] (xs.length * 3)) 73)).alloc (.cells #[Value.slice (some ⟨w1.heap.size + 1, 0, none⟩) 0 xs.length] 29)).alloc (.cells #[Value.bool false, Value.bool false, Value.bool false] 76)).alloc (.cells #[Value.slice A xs.length c] 29)) = W0 := ⟨_, rfl⟩
  have hsz : W0.heap.size = w1.heap.size + 5 := by rw [← hW0]; simp
  have hs1 := b1.size
  have eB : Ext w W0 := by
    rw [← hW0]
    exact ((((b1.alloc _).alloc _).alloc _).alloc _).alloc _
  have bS : Boxed W0 (w1.heap.size) 67 (.int .u64 (S : Int)) := by
    rw [← hW0]; exact ((((Boxed.new w1 _ _).alloc _).alloc _).alloc _).alloc _
  have bO : Boxed W0 (w1.heap.size + 1 + 1) 29 (.slice (some ⟨w1.heap.size + 1, 0, none⟩) 0 xs.length) := by
    have := Boxed.new ((w1.alloc (.cells #[Value.int .u64 (S : Int)] 67)).alloc (.cells (madeCells #[Value.int .i64 0, Value.int .i64 0, Value.int .i64 0] (xs.length * 3)) 73)) 29 (.slice (some ⟨w1.heap.size + 1, 0, none⟩) 0 xs.length)
    simp only [World.size_alloc] at this
    rw [← hW0]; exact (this.alloc _).alloc _
  have bL : Boxed W0 (w1.heap.size + 1 + 1 + 1 + 1) 29 (.slice A xs.length c) := by
    have := Boxed.new ((((w1.alloc (.cells #[Value.int .u64 (S : Int)] 67)).alloc (.cells (madeCells #[Value.int .i64 0, Value.int .i64 0, Value.int .i64 0] (xs.length * 3)) 73)).alloc (.cells #[Value.slice (some ⟨w1.heap.size + 1, 0, none⟩) 0 xs.length] 29)).alloc (.cells #[Value.bool false, Value.bool false, Value.bool false] 76)) 29 (.slice A xs.length c)
    simp only [World.size_alloc] at this
    rw [← hW0]; exact this
  have lT : LatAt W0 (w1.heap.size + 1 + 1 + 1) 76 (fun i => laterB S (i : Int) []) := by
    have := World.alloc_heap_new (((w1.alloc (.cells #[Value.int .u64 (S : Int)] 67)).alloc (.cells (madeCells #[Value.int .i64 0, Value.int .i64 0, Value.int .i64 0] (xs.length * 3)) 73)).alloc (.cells #[Value.slice (some ⟨w1.heap.size + 1, 0, none⟩) 0 xs.length] 29)) (.cells #[Value.bool false, Value.bool false, Value.bool false] 76)
    simp only [World.size_alloc] at this
    rw [← hW0]
    exact (Below.heap_alloc _ _ _ (by simp)).trans this
  have rO : Row 73 3 encRedo w.heap.size W0 (.slice (some ⟨w1.heap.size + 1, 0, none⟩) 0 xs.length) ([] : List Redo) := by
    have h1 : Row 73 3 encRedo w.heap.size ((w1.alloc (.cells #[Value.int .u64 (S : Int)] 67)).alloc (.cells (madeCells #[Value.int .i64 0, Value.int .i64 0, Value.int .i64 0] (xs.length * 3)) 73)) (.slice (some ⟨w1.heap.size + 1, 0, none⟩) 0 xs.length) ([] : List Redo) := by
      have := World.ownsRow_made (base := w.heap.size) (e := 73) (size := 3) (w1.alloc (.cells #[Value.int .u64 (S : Int)] 67)) (madeCells #[Value.int .i64 0, Value.int .i64 0, Value.int .i64 0] (xs.length * 3)) xs.length (by simp; omega) (by simp [maxLen]; omega) (by rw [size_madeCells])
      simp only [World.size_alloc] at this
      exact this
    rw [← hW0]
    exact h1.ext ((((Ext.refl _).alloc _).alloc _).alloc _)
  rw [hW0]
  clear hW0
  refine wpIn_rangeFunc_ownH rfl (by omega) (gf := 70) (lb := #[.pointer (some ⟨w1.heap.size + 1 + 1 + 1 + 1, 0, none⟩)]) rfl trivial (enters_of Tryd.func70 (by kernel_rfl) rfl)
    (back_stops 8 (by omega) (w1.heap.size + 1 + 1 + 1 + 1) w.heap.size c A xs b off hA hb hlen W0 (by omega) (by omega) bL.cell (fun i x hx j hj => eB.cell (hcell i x hx j hj))) keepAt_t (keepAt_b (by omega) (by omega)) (Below.refl _ _) (fun _ => rfl)
    (fun pre W => ((Boxed W (w1.heap.size) 67 (.int .u64 (S : Int)) ∧ LatAt W (w1.heap.size + 1 + 1 + 1) 76 (fun i => laterB S (i : Int) (sufOf pre)) ∧ Boxed W (w1.heap.size + 1 + 1 + 1 + 1) 29 (.slice A xs.length c) ∧
      ∃ v, Boxed W (w1.heap.size + 1 + 1) 29 v ∧ W.ownsRow w.heap.size 73 3 v (shortS S (sufOf pre)).reverse.length ((shortS S (sufOf pre)).reverse.flatMap (cellsOf_ 3 encRedo)) ∧ True) ∧ Below w.heap.size w W))
    (fun _ _ _ => False)
    (OwnFrom.and (Go.Own.from (fun s A_ B_ row hs hg hr => ⟨boxed_own (β := Unit) _ _ (fun _ => .int .u64 (S : Int)) () _ _ _ hs.1 hg hr, LatAt.own (β := Unit) _ _ (fun _ i => laterB S (i : Int) (sufOf s)) () _ _ _ hs.2.1 hg hr, boxed_own (β := Unit) _ _ (fun _ => .slice A xs.length c) () _ _ _ hs.2.2.1 hg hr, holdsRow_own w.heap.size _ _ _ 3 (fun pre : List (At xs) => (shortS S (sufOf pre)).reverse.length) (fun pre : List (At xs) => (shortS S (sufOf pre)).reverse.flatMap (cellsOf_ 3 encRedo)) (fun _ _ => True) s _ _ _ hs.2.2.2 hg hr⟩) _) (ownFrom_below (Nat.le_refl _) (by omega)))
    (fun _ _ _ _ _ hs _ _ => hs)
    ⟨⟨bS, lT, bL, _, bO, rO, trivial⟩, eB⟩
    (fun x a' W => ∃ Bx, W.heap[Bx]? = some (.cells #[.int .i64 x.1.2.who, .int .i64 x.1.2.key, .int .i64 x.1.2.value] 73 (0, 0)) ∧ a' = { tmps := #[.slice A xs.length c, undef, .slice none 0 0, .pointer (some ⟨w1.heap.size, 0, none⟩), .bool true, .pointer (some ⟨w1.heap.size + 1 + 1, 0, none⟩), .pointer (some ⟨w1.heap.size + 1 + 1 + 1, 0, none⟩), undef, .pointer (some ⟨Bx, 0, none⟩), .tuple #[.int .u64 (S : Int), .bool true], .slice A xs.length c, .tuple #[.int .u64 (S : Int), .bool true], .int .u64 (S : Int), .bool true, .bool true, .bool false, .slice A xs.length c, .int .i64 (xs.length : Int), .slice (some ⟨w1.heap.size + 1, 0, none⟩) 0 xs.length, .slice A xs.length c, .func (.func 70) #[] #[.pointer (some ⟨w1.heap.size + 1 + 1 + 1 + 1, 0, none⟩)], .int .i64 (x.1.1 : Int), .agg #[.int .i64 x.1.2.who, .int .i64 x.1.2.key, .int .i64 x.1.2.value], undef, undef, undef, undef, undef, undef, undef, undef, undef, undef, undef, undef, undef, undef, undef, undef, undef, undef, undef, undef, undef, undef, undef, undef, undef, undef, undef, undef, undef, undef, undef, undef], defers := [] })
    (fun x a' => Go.Own.from (fun _ X Y row hs hg hrow => by
      obtain ⟨Bx, h1, h2⟩ := hs
      exact ⟨Bx, (hg.block Bx (Array.getElem?_eq_some_iff.1 h1).1 (fun e' => by obtain ⟨o, ho, hc⟩ := hrow Bx e'.symm; rw [h1] at ho; cases ho; cases hc)).trans h1, h2⟩) _)
    ?assign ?body ?done ?stop
  case assign =>
    rintro l pre x W K ⟨⟨hS1, hL1, hB1, v, hO1, hr1, -⟩, hBW⟩ hK
    gi_wp2
    refine hK _ _ ((KeepsOthers.alloc _ _).from _) ⟨(Below.refl _ W).alloc hBW.size _, fun k hk1 hk2 => Below.heap_alloc _ _ _ (by have := hB1.lt; omega)⟩ ⟨⟨hS1.alloc _, hL1.kept (World.grownBy_alloc _ _ none) (by simp), hB1.alloc _, v, hO1.alloc _, World.ownsRow.alloc hr1 _, trivial⟩, hBW.alloc hBW.size _⟩ ⟨W.heap.size, World.alloc_heap_new W _, rfl⟩
  case body =>
    rintro l pre ⟨⟨p, ⟨xw, xk, xv⟩⟩, hx⟩ a' W - - ⟨⟨hS1, hL1, hB1, v, hO1, hr1, -⟩, hBW⟩ ⟨Bx, hBx, rfl⟩ hlt
    dsimp only at hBx hx ⊢
    have hBT : ¬ Bx = w1.heap.size + 1 + 1 + 1 := fun e => by
      subst e
      have h1 := (show W.heap[w1.heap.size + 1 + 1 + 1]? = _ from hL1)
      rw [hBx] at h1
      simp at h1
    have hTB : ¬ w1.heap.size + 1 + 1 + 1 = Bx := fun e => hBT e.symm
    have hgd := HG.out _ (List.mem_of_getElem? hx)
    have hw5 := inB_true.1 hgd.1
    have hk2 := inB_true.1 hgd.2.1
    simp only at hw5 hk2
    have r0 : W.cell? ⟨Bx, 0, none⟩ = some (.int .i64 xw) := by simp [World.cell?, hBx]
    have r1 : W.cell? ⟨Bx, 1, none⟩ = some (.int .i64 xk) := by simp [World.cell?, hBx]
    have r2 : W.cell? ⟨Bx, 2, none⟩ = some (.int .i64 xv) := by simp [World.cell?, hBx]
    have cS := hS1.cell
    have cO := hO1.cell
    have fO := hO1.frozen
    have HS := Lib.hid (And.intro hS1 hB1)
    have HL := Lib.hid hL1
    have HO := Lib.hid hO1
    have HR : Hid (Row 73 3 encRedo w.heap.size W v (shortS S (sufOf pre)).reverse) := Lib.hid hr1
    have HB := Lib.hid hBW
    have HX := Lib.hid hx
    have hbit := u64_bit S xw.toNat (by omega)
    obtain ⟨R, hR⟩ : ∃ R, (shortS S (sufOf pre)).reverse = R := ⟨_, rfl⟩
    have LEN : Hid (R.length + 1 ≤ 64) := by
      have h1 := shortS_len S (sufOf pre)
      have h2 : (sufOf pre).length = pre.length := by simp [sufOf]
      show _ ≤ _
      rw [← hR, List.length_reverse]
      omega
    have HRR := Lib.hid hR
    rw [hR] at HR
    clear hR
    obtain ⟨i0, hi, hz0, hz1, hz2⟩ := info_parts kredo_S
    have hWs := hO1.lt
    have hT := HL.out.lt
    clear hgd hS1 hL1 hO1 hB1 hr1 hBW hBx bS bO bL lT rO eB hmk hA hcell hb
    by_cases ht : S.testBit xw.toNat = true
    case neg =>
      have hsh : ∀ (hq : ¬ (S.testBit xw.toNat = true)), shortS S (sufOf (pre ++ [(⟨(p, ⟨xw, xk, xv⟩), hx⟩ : At xs)])) = shortS S (sufOf pre) := fun hq => by rw [sufOf_snoc, shortS_no (by rintro ⟨h1, _⟩; exact hq h1)]
      have HSH := Lib.hid (hsh ht)
      have HLT : Hid (∀ i : Nat, laterB S (i : Int) (sufOf (pre ++ [(⟨(p, ⟨xw, xk, xv⟩), hx⟩ : At xs)])) = laterB S (i : Int) (sufOf pre)) := by
        intro i
        rw [sufOf_snoc, laterB_cons]
        simp only [Bool.not_eq_true] at ht
        simp [ht]
      rw [if_neg ht] at hbit
      clear hsh ht
      gi_wp2
      exact ⟨KeepsFrom.refl _ _, KeepAt.refl _ _ _ _, ⟨HS.out.1, HL.out.same (fun i _ => HLT.out i), HS.out.2, v, HO.out, by rw [HSH.out, HRR.out]; exact HR.out, trivial⟩, HB.out⟩
    have HT := Lib.hid ht
    rw [if_pos ht] at hbit
    clear ht
    have hsuf : Hid (sufOf (pre ++ [(⟨(p, ⟨xw, xk, xv⟩), hx⟩ : At xs)]) = ⟨xw, xk, xv⟩ :: sufOf pre) := sufOf_snoc _ _
    have SHYY : Hid (xk = -1 ∨ laterB S xk (sufOf pre) = false → (shortS S (sufOf (pre ++ [(⟨(p, ⟨xw, xk, xv⟩), hx⟩ : At xs)]))).reverse = R ++ [⟨xw, xk, xv⟩]) := fun h => by
      rw [hsuf.out, shortS_yes (x := ⟨xw, xk, xv⟩) HT.out h, List.reverse_cons, HRR.out]
    by_cases hneg : xk < 0
    · have SHY := Lib.hid (SHYY.out (.inl (by omega)))
      have RX := HR
      have OX := HO
      have SX := Lib.hid HS.out.1
      have BX := Lib.hid HS.out.2
      have LX : Hid (LatAt W (w1.heap.size + 1 + 1 + 1) 76 (fun i => laterB S (i : Int) (sufOf (pre ++ [(⟨(p, ⟨xw, xk, xv⟩), hx⟩ : At xs)])))) := HL.out.same (fun i _ => by
        rw [sufOf_snoc, laterB_cons]
        simp only
        rw [show (xk == (i : Int)) = false by rw [beq_eq_false_iff_ne]; omega]
        simp)
      have KX : Hid (KeepsOthers W W ∧ Below w.heap.size W W) := ⟨KeepsOthers.refl _, Below.refl _ _⟩
      gi_wp2_with (gi_at_builtin; refine halt ?_)
      refine Halt.go ?_
      refine wpListIn_append_own _ rfl _ _ 29 rfl w.heap.size 73 i0 (.agg #[.int .i64 0, .int .i64 0, .int .i64 0]) 3 24 Tryd.underlying29 hi hz0 hz1 hz2 rfl (by decide) _ _ _ rfl (World.ownsRow.alloc RX.out _) ⟨_, 0, none⟩ 1 1 [.int .i64 xw, .int .i64 xk, .int .i64 xv] rfl rfl (cells_at_ _ _ _ _ rfl) (by simp [Value.oneCell']) (by have := LEN.out; simp only [maxLen]; omega) (by have := LEN.out; omega) (by simp ; omega) ?_
      intro v' w9 hown' hgrow _
      obtain ⟨g', cap', rfl⟩ := ownsRow_succ hown'
      have HGR := Lib.hid hgrow
      have AP := Lib.hid (Boxed.appended OX.out (by decide) RX.out (by omega) (by omega) hown' hgrow)
      have hc1 := AP.out.1.cell
      have hf1 := AP.out.1.frozen
      gi_wp2
      have hrw := AP.out.2.2.1
      have FIN : ∀ (B : Nat) (t : TypeId) (u : Value), Boxed W B t u → B ≠ w1.heap.size + 1 + 1 → t ≠ 73 → Boxed (w9.setCell ⟨w1.heap.size + 1 + 1, 0, none⟩ (.slice (some ⟨g', 0, none⟩) (R.length + 1) cap')) B t u := fun B t u h h2 h3 =>
        boxed_set ((h.alloc _).kept HGR.out (h.not_row h3 RX.out)) (fun e => h2 e.symm) _
      refine ⟨(KX.out.1.trans AP.out.2.2.2.1).from _, ⟨KX.out.2.trans AP.out.2.2.2.2, fun k hk1 hk2 => ?_⟩, ⟨FIN _ _ _ SX.out (by omega) (by decide), ?_, FIN _ _ _ BX.out (by omega) (by decide), _, AP.out.2.1, ?_, trivial⟩, HB.out.trans (KX.out.2.trans AP.out.2.2.2.2)⟩
      · obtain rfl : k = w1.heap.size + 1 + 1 + 1 + 1 := by omega
        exact (FIN _ _ _ BX.out (by omega) (by decide)).trans HS.out.2.symm
      · exact ((LX.out.kept (World.grownBy_alloc _ _ none) (by simp)).kept HGR.out (LX.out.not_row (by decide) RX.out)).kept (grownBy_setc _ _ _) (by simp)
      · rw [SHY.out]
        simp only [List.length_append, List.length_singleton, List.flatMap_append]
        simpa [cellsOf_, encRedo, List.range_succ] using hrw
    obtain ⟨q, rfl⟩ := Int.eq_ofNat_of_zero_le (show 0 ≤ xk by omega)
    have hq3 : q < 3 := by omega
    have cL := HL.out.cell hq3
    have fL := HL.out.frozen q
    clear hneg
    cases hl : laterB S (q : Int) (sufOf pre) with
    | true =>
      rw [hl] at cL
      have HSH : Hid (shortS S (sufOf (pre ++ [(⟨(p, ⟨xw, (q : Int), xv⟩), hx⟩ : At xs)])) = shortS S (sufOf pre)) := by
        show _ = _
        rw [hsuf.out, shortS_no]
        rintro ⟨_, h | h⟩
        · simp only at h; omega
        · simp only at h; rw [hl] at h; cases h
      have HLT : Hid (∀ i : Nat, laterB S (i : Int) (sufOf (pre ++ [(⟨(p, ⟨xw, (q : Int), xv⟩), hx⟩ : At xs)])) = laterB S (i : Int) (sufOf pre)) := by
        intro i
        rw [hsuf.out, laterB_cons]
        simp only
        by_cases hiq : i = q
        · subst hiq; rw [hl]; simp
        · rw [show ((q : Int) == (i : Int)) = false by rw [beq_eq_false_iff_ne]; omega]; simp
      clear hl
      gi_wp2
      exact ⟨KeepsFrom.refl _ _, KeepAt.refl _ _ _ _, ⟨HS.out.1, HL.out.same (fun i _ => HLT.out i), HS.out.2, v, HO.out, by rw [HSH.out, HRR.out]; exact HR.out, trivial⟩, HB.out⟩
    | false =>
      rw [hl] at cL
      have SHY := Lib.hid (SHYY.out (.inr hl))
      have hne : some (w1.heap.size + 1 + 1 + 1) ≠ v.ownBlock := HL.out.not_row (by decide) HR.out
      have RX : Hid (Row 73 3 encRedo w.heap.size (W.setCell ⟨w1.heap.size + 1 + 1 + 1, q, none⟩ (.bool true)) v R) := World.ownsRow.kept HR.out (grownBy_setc _ _ _) (.inr hne.symm)
      have OX := Lib.hid (boxed_set HO.out (a := ⟨w1.heap.size + 1 + 1 + 1, q, none⟩) (by show w1.heap.size + 1 + 1 + 1 ≠ _; omega) (.bool true))
      have SX := Lib.hid (boxed_set HS.out.1 (a := ⟨w1.heap.size + 1 + 1 + 1, q, none⟩) (by show w1.heap.size + 1 + 1 + 1 ≠ _; omega) (.bool true))
      have BX := Lib.hid (boxed_set HS.out.2 (a := ⟨w1.heap.size + 1 + 1 + 1, q, none⟩) (by show w1.heap.size + 1 + 1 + 1 ≠ _; omega) (.bool true))
      have LX : Hid (LatAt (W.setCell ⟨w1.heap.size + 1 + 1 + 1, q, none⟩ (.bool true)) (w1.heap.size + 1 + 1 + 1) 76 (fun i => laterB S (i : Int) (sufOf (pre ++ [(⟨(p, ⟨xw, (q : Int), xv⟩), hx⟩ : At xs)])))) := HL.out.set hq3 (by
        show laterB S (q : Int) _ = true
        rw [hsuf.out, laterB_cons]
        simp [HT.out]) (fun i _ hiq => by
        show laterB S (i : Int) _ = _
        rw [hsuf.out, laterB_cons]
        simp only
        rw [show ((q : Int) == (i : Int)) = false by rw [beq_eq_false_iff_ne]; omega]
        simp)
      have KX : Hid (KeepsOthers W (W.setCell ⟨w1.heap.size + 1 + 1 + 1, q, none⟩ (.bool true)) ∧ Below w.heap.size W (W.setCell ⟨w1.heap.size + 1 + 1 + 1, q, none⟩ (.bool true))) := ⟨KeepsOthers.setCell _ _ _, (Below.refl _ _).setCell (p := ⟨w1.heap.size + 1 + 1 + 1, q, none⟩) (by simp; omega) _⟩
      clear hl hne
      gi_wp2_with (gi_at_builtin; refine halt ?_)
      refine Halt.go ?_
      refine wpListIn_append_own _ rfl _ _ 29 rfl w.heap.size 73 i0 (.agg #[.int .i64 0, .int .i64 0, .int .i64 0]) 3 24 Tryd.underlying29 hi hz0 hz1 hz2 rfl (by decide) _ _ _ rfl (World.ownsRow.alloc RX.out _) ⟨_, 0, none⟩ 1 1 [.int .i64 xw, .int .i64 (q : Int), .int .i64 xv] rfl rfl (cells_at_ _ _ _ _ (by simp [World.setCell])) (by simp [Value.oneCell']) (by have := LEN.out; simp only [maxLen]; omega) (by have := LEN.out; omega) (by simp [World.setCell]; omega) ?_
      intro v' w9 hown' hgrow _
      obtain ⟨g', cap', rfl⟩ := ownsRow_succ hown'
      have HGR := Lib.hid hgrow
      have AP := Lib.hid (Boxed.appended OX.out (by decide) RX.out (by simp [World.setCell]; omega) (by omega) hown' hgrow)
      have hc1 := AP.out.1.cell
      have hf1 := AP.out.1.frozen
      gi_wp2
      have hrw := AP.out.2.2.1
      have FIN : ∀ (B : Nat) (t : TypeId) (u : Value), Boxed (W.setCell ⟨w1.heap.size + 1 + 1 + 1, q, none⟩ (.bool true)) B t u → B ≠ w1.heap.size + 1 + 1 → t ≠ 73 → Boxed (w9.setCell ⟨w1.heap.size + 1 + 1, 0, none⟩ (.slice (some ⟨g', 0, none⟩) (R.length + 1) cap')) B t u := fun B t u h h2 h3 =>
        boxed_set ((h.alloc _).kept HGR.out (h.not_row h3 RX.out)) (fun e => h2 e.symm) _
      refine ⟨(KX.out.1.trans AP.out.2.2.2.1).from _, ⟨KX.out.2.trans AP.out.2.2.2.2, fun k hk1 hk2 => ?_⟩, ⟨FIN _ _ _ SX.out (by omega) (by decide), ?_, FIN _ _ _ BX.out (by omega) (by decide), _, AP.out.2.1, ?_, trivial⟩, HB.out.trans (KX.out.2.trans AP.out.2.2.2.2)⟩
      · obtain rfl : k = w1.heap.size + 1 + 1 + 1 + 1 := by omega
        exact (FIN _ _ _ BX.out (by omega) (by decide)).trans HS.out.2.symm
      · exact ((LX.out.kept (World.grownBy_alloc _ _ none) (by simp)).kept HGR.out (LX.out.not_row (by decide) RX.out)).kept (grownBy_setc _ _ _) (by simp)
      · rw [SHY.out]
        simp only [List.length_append, List.length_singleton, List.flatMap_append]
        simpa [cellsOf_, encRedo, List.range_succ] using hrw
  case done =>
    rintro D ys W hD hS ⟨⟨-, -, -, v, hO1, hr1, -⟩, hBW⟩ hK
    have hsf : sufOf ys = xs := by rw [sufOf, hS, List.reverse_reverse]
    rw [hsf] at hr1
    have hrow : Row 73 3 encRedo w.heap.size W v (shortS S xs).reverse := hr1
    have hll : (shortS S xs).reverse.length ≤ 2097152 := by rw [List.length_reverse]; have := shortS_len S xs; omega
    have hno := hO1.not_row (by decide) hr1
    have hDv : ∀ a n c, v = .slice (some a) n c → 0 < n → a.block ≠ D := fun a n c e _ e' => by
      rcases hr1.2 with ⟨h, _⟩ | ⟨g, cap, cur, h, _, hgb, _⟩
      · rw [h] at e; cases e
      · rw [h] at e
        injection e with e _ _
        injection e with e
        subst e
        simp only at e'
        subst e'
        rw [hgb] at hK
        cases hK
    have HROW := Lib.hid hrow
    have HNO := Lib.hid hno
    have HDV := Lib.hid hDv
    have HBW := Lib.hid hBW
    have HK := Lib.hid hK
    have cO := hO1.cell
    clear hr1 hrow hno hDv hBW hsf hS hK hA hb hcell bS bO bL lT rO eB hmk
    gi_wp2
    refine ⟨trivial, (callsIn_wide.2 (reverseRedo_any _ HROW.out.cell.1 HROW.out.cell.2 hll)).mono ?_⟩
    rintro e W2 ⟨rfl, h2, o2⟩
    have cO2 : W2.cell? ⟨w1.heap.size + 1 + 1, 0, none⟩ = some v := o2.cell (p := ⟨w1.heap.size + 1 + 1, 0, none⟩) (fun a n c e _ e' => HNO.out (by rw [e]; show some _ = some _; exact congrArg some e'.symm)) cO
    have hK2 : W2.heap[D]? = some (.deferred (some [])) := (o2.block D (Array.getElem?_eq_some_iff.1 HK.out).1 HDV.out).trans HK.out
    have HK2 := Lib.hid hK2
    have H2 := Lib.hid h2
    have O2 := Lib.hid o2
    clear h2 o2 hK2
    gi_wp2
    refine ⟨trivial, (callsIn_wide.2 (clipRedo_any _ H2.out (Own.only HROW.out.cell.2 O2.out) HROW.out.cap)).mono ?_⟩
    rintro e W3 ⟨v3, rfl, h3, o3, rfl⟩
    rw [List.reverse_reverse] at h3
    have H3 := Lib.hid h3
    have O3 := Lib.hid o3
    clear h3 o3
    gi_wp2
    refine ⟨by simp, .inl ⟨_, _, rfl, run_takeDeferred HK2.out, ?_⟩⟩
    exact ⟨_, results_tmp rfl _ _ _, v3, rfl, by rw [HFIN.out]; exact slOf_putObj H3.out _ HK2.out rfl, own_putObj O3.out _ (Array.getElem?_eq_some_iff.1 HK2.out).1, Below.trans (Ext.only HBW.out O2.out HROW.out.cell.2 (Nat.le_refl _)) (belowK_b (w := w) (Nat.le_refl _) _ D _ _ (by omega) HK2.out rfl rfl)⟩
  case stop =>
    rintro D c_ pre W _ _ h _
    exact h.elim
theorem spec_RedoShortO {v : Value} {xs : List Redo} (w : World) (h : SlOf 3 encRedo w v xs) (hlen : xs.length ≤ 2097152) :
    Calls Tryd.prog 19 #[v] w (RetOf 3 encRedo w (shortL xs)) := by
  refine (spec_RedoShort w h hlen).mono ?_
  rintro e w' ⟨v', rfl, hr, hb⟩
  exact ⟨v', rfl, hr.cell.1, hr.cell.2, hb⟩
end Go.Proofs.YtiggckhlbklngaaDoor
