/- append onto a slice of the call's own. -/
import Derived.Test.YtiggckhlbklngaaDoorBase
namespace Go.Proofs.YtiggckhlbklngaaDoor
open Go.RowKit

/-- the cells of an element -/
def cellsOf_ {α : Type} (m : Nat) (enc : α → Nat → Value) (x : α) : List Value := (List.range m).map (enc x)
/-- v is a slice of the call's own (blocks from base on) that holds the elements xs and can be appended to. -/
def Row {α : Type} (e : TypeId) (m : Nat) (enc : α → Nat → Value) (base : Nat) (w : World) (v : Value) (xs : List α) : Prop :=
  w.ownsRow base e m v xs.length (xs.flatMap (cellsOf_ m enc))
theorem cells_length {α : Type} {m : Nat} {enc : α → Nat → Value} (xs : List α) : (xs.flatMap (cellsOf_ m enc)).length = xs.length * m := by
  induction xs with
  | nil => simp
  | cons x xs ih => simp only [List.flatMap_cons, List.length_append, ih, List.length_cons, Nat.succ_mul]; simp [cellsOf_]; omega
theorem cells_get {α : Type} {m : Nat} {enc : α → Nat → Value} {xs : List α} {i j : Nat} {x : α} (hx : xs[i]? = some x) (hj : j < m) : (xs.flatMap (cellsOf_ m enc))[i * m + j]? = some (enc x j) := by
  induction xs generalizing i with
  | nil => simp at hx
  | cons y xs ih =>
    rw [List.flatMap_cons]
    cases i with
    | zero =>
      simp at hx
      subst hx
      rw [List.getElem?_append_left (by simp [cellsOf_]; omega)]
      simp [cellsOf_, hj]
    | succ i =>
      simp at hx
      rw [List.getElem?_append_right (by simp [cellsOf_]; rw [Nat.succ_mul]; omega)]
      have := ih hx
      rw [← this]
      congr 1
      simp [cellsOf_]
      rw [Nat.succ_mul]; omega
section
variable {α : Type} {e : TypeId} {m : Nat} {enc : α → Nat → Value} {base : Nat} {w w' : World} {v : Value} {xs : List α}
theorem Row.nil : Row e m enc base w (.slice none 0 0) ([] : List α) := World.ownsRow_nil w base e m
theorem Row.ext (h : Row e m enc base w v xs) (hb : Ext w w') : Row e m enc base w' v xs := by
  refine World.ownsRow.kept (row := none) h ⟨Below.os hb, Below.tape hb, Below.output hb, hb.size, fun k hk _ => Below.block hb k hk⟩ ?_
  cases hv : v.ownBlock <;> simp
theorem Row.cell (h : Row e m enc base w v xs) : SlOf m enc w v xs ∧ Own base w v := by
  refine ⟨?_, ?_⟩
  · rcases h.2 with ⟨rfl, hn⟩ | ⟨g, cap, cur, rfl, hb, hg, hnc, hcm, hcs, htake⟩
    · have : xs = [] := List.eq_nil_of_length_eq_zero hn
      subst this
      exact SlOf.nil _ _ _ _ _
    · refine ⟨_, cap, rfl, fun hn => ⟨g, 0, rfl, (Array.getElem?_eq_some_iff.1 hg).1, fun i x hx j hj => ?_⟩⟩
      have h1 := cells_get (enc := enc) hx hj
      rw [← htake, List.getElem?_take] at h1
      split at h1
      · rw [Nat.zero_add]; simp only [World.cell?, hg]; simpa using h1
      · cases h1
  · intro a n c hv hn
    rcases h.2 with ⟨rfl, _⟩ | ⟨g, cap, cur, rfl, hb, hg, hnc, hcm, hcs, htake⟩
    · cases hv
    · injection hv with h1 h2 h3
      injection h1 with h1
      subst h1
      exact ⟨hb, (Array.getElem?_eq_some_iff.1 hg).1, fun i => by simp [World.frozen?, hg]⟩
theorem Row.cap (h : Row e m enc base w v xs) : ∀ A n c, v = .slice A n c → n ≤ c ∧ c ≤ 9223372036854775807 := by
  intro A n c hv
  rcases h.2 with ⟨rfl, _⟩ | ⟨g, cap, cur, rfl, hb, hg, hnc, hcm, hcs, htake⟩
  · injection hv with h1 h2 h3
    omega
  · injection hv with h1 h2 h3
    simp only [maxLen] at hcm
    omega
/-- the growth of a row keeps what was there -/
theorem Ext.grown {a : World} {row : Option Nat} (h : Ext a w) (hg : w.grownBy w' row) (hr : ∀ k, row = some k → a.heap.size ≤ k) : Ext a w' :=
  Below.grown h hg h.size hr
theorem Row.block (h : Row e m enc base w v xs) : ∀ k, v.ownBlock = some k → base ≤ k := fun k hk => (World.ownsRow.lt h k hk).1
end

theorem Row.low {α : Type} {e : TypeId} {m : Nat} {enc : α → Nat → Value} {base base' : Nat} {w : World} {v : Value} {xs : List α} (h : Row e m enc base w v xs) (hb : base' ≤ base) : Row e m enc base' w v xs :=
  ⟨h.1, h.2.imp id fun ⟨g, cap, cur, a, b, rest⟩ => ⟨g, cap, cur, a, Nat.le_trans hb b, rest⟩⟩
section
variable {P : Program} {α : Type} {t ty e : TypeId} {m b : Nat} {z : Value} {enc : α → Nat → Value} {base : Nat} {w : World} {v : Value} {xs : List α}
/-- 'append(v, x)': the element stands in a block of its own. -/
theorem run_push (ht : P.underlying t = some (.slice e)) (hinfo : (P.info? e).map (fun i => (i.zero, i.size, i.bytes)) = some (some z, m, b)) (hzs : z.cells.size = m) (hm : 0 < m)
    (h : Row e m enc base w v xs) (x : α) (h1 : ∀ j, (enc x j).oneCell' = true) (hn : xs.length + 1 ≤ 4194304) (hb : b ≤ 64) (hbase : base ≤ w.heap.size) :
    ∃ v' w', (Builtin.append_ #[t, t] ty #[v, .slice (some ⟨w.heap.size, 0, none⟩) 1 1]).run P (w.alloc (.cells (cellsOf_ m enc x).toArray e)) = .ok v' w' ∧ Row e m enc base w' v' (xs ++ [x]) ∧ (w.alloc (.cells (cellsOf_ m enc x).toArray e)).grownBy w' v.ownBlock := by
  obtain ⟨i, hi, hz, hs, hby⟩ := info_of hinfo
  have hl : (cellsOf_ m enc x).length = 1 * m := by simp [cellsOf_]
  obtain ⟨v', w', hrun, hown, hgrow, _⟩ := run_append_own (P := P) (w.alloc (.cells (cellsOf_ m enc x).toArray e)) base t ty e i z m b ht hi hz hs hby hzs hm v xs.length _ (World.ownsRow.alloc h _)
    ⟨w.heap.size, 0, none⟩ 1 1 (cellsOf_ m enc x) hl
    (fun j u hu => by
      have hadd : (⟨w.heap.size, 0, none⟩ : Addr).add j = ⟨w.heap.size, j, none⟩ := by unfold Addr.add; split <;> simp_all
      rw [hadd, cell_of_row _ _ j _ e (0, 0) (heap_alloc_new w _)]
      simpa using hu)
    (fun u hu => by simp [cellsOf_] at hu; obtain ⟨j, _, rfl⟩ := hu; exact h1 j) (by simp only [maxLen]; omega)
    (by have : (xs.length + 1) * b ≤ 4194304 * 64 := Nat.mul_le_mul hn hb; omega) (by simp; omega)
  refine ⟨v', w', hrun, ?_, hgrow⟩
  unfold Row
  rw [List.flatMap_append, List.length_append]
  simpa using hown
theorem run_append_none {i : TypeInfo} {n c0 : Nat} {cs : List Value} (ht : P.underlying t = some (.slice e)) (hi : P.info? e = some i) (hown : w.ownsRow base e c0 v n cs) (c : Nat) : (Builtin.append_ #[t, t] ty #[v, .slice none 0 c]).run P w = .ok v w := by
  rcases hown.2 with ⟨rfl, rfl⟩ | ⟨g, cap, cur, rfl, _, _, hnc, _⟩
  · simp [Builtin.append_, run_underlying ht, sizeOf, typeInfo, hi, Builtin.lenOf, Builtin.firstCells]
  · simp [Builtin.append_, run_underlying ht, sizeOf, typeInfo, hi, Builtin.lenOf, Builtin.firstCells, hnc, storeCells]
/-- 'append(v, src...)'. -/
theorem run_cat (ht : P.underlying t = some (.slice e)) (hinfo : (P.info? e).map (fun i => (i.zero, i.size, i.bytes)) = some (some z, m, b)) (hzs : z.cells.size = m) (hm : 0 < m)
    (h : Row e m enc base w v xs) {A : Option Addr} {n c : Nat} {ys : List α} (hy : SlOf m enc w (.slice A n c) ys) (h1 : ∀ x ∈ ys, ∀ j, (enc x j).oneCell' = true) (hn : xs.length + ys.length ≤ 4194304) (hb : b ≤ 64) (hbase : base ≤ w.heap.size) :
    ∃ v' w', (Builtin.append_ #[t, t] ty #[v, .slice A n c]).run P w = .ok v' w' ∧ Row e m enc base w' v' (xs ++ ys) ∧ w.grownBy w' v.ownBlock := by
  obtain ⟨i, hi, hz, hs, hby⟩ := info_of hinfo
  obtain ⟨A', c', hA, hc⟩ := hy
  injection hA with e1 e2 e3
  subst e1 e2
  by_cases h0 : 0 < ys.length
  · obtain ⟨blk, off, rfl, hlt, hcell⟩ := hc h0
    have hl : (ys.flatMap (cellsOf_ m enc)).length = ys.length * m := cells_length ys
    obtain ⟨v', w', hrun, hown, hgrow, _⟩ := run_append_own (P := P) (ty := ty) w base t e i z m b ht hi hz hs hby hzs hm v xs.length _ h
      ⟨blk, off, none⟩ ys.length c (ys.flatMap (cellsOf_ m enc)) hl
      (fun j u hu => by
        have hadd : (⟨blk, off, none⟩ : Addr).add j = ⟨blk, off + j, none⟩ := by unfold Addr.add; split <;> simp_all
        have hjl : j < ys.length * m := by rw [← hl]; exact (List.getElem?_eq_some_iff.1 hu).1
        have hd : j / m < ys.length := Nat.div_lt_of_lt_mul (by rw [Nat.mul_comm]; exact hjl)
        obtain ⟨y, hy⟩ := at_some hd
        have hmod := Nat.mod_lt j hm
        have hdm : j / m * m + j % m = j := by rw [Nat.mul_comm]; exact Nat.div_add_mod j m
        have h2 := cells_get (enc := enc) hy hmod
        rw [hdm, hu] at h2
        have h3 := hcell _ y hy _ hmod
        rw [Nat.add_assoc, hdm] at h3
        rw [hadd, h3, h2])
      (fun u hu => by
        obtain ⟨y, hy, hu⟩ := List.mem_flatMap.1 hu
        simp [cellsOf_] at hu
        obtain ⟨j, _, rfl⟩ := hu
        exact h1 y hy j) (by simp only [maxLen]; omega)
      (by have : (xs.length + ys.length) * b ≤ 4194304 * 64 := Nat.mul_le_mul hn hb; omega) hbase
    refine ⟨v', w', hrun, ?_, hgrow⟩
    unfold Row
    rw [List.flatMap_append, List.length_append]
    exact hown
  · have : ys = [] := List.eq_nil_of_length_eq_zero (by omega)
    subst this
    cases A with
    | none =>
      refine ⟨v, w, run_append_none ht hi h c, by simpa using h, ⟨rfl, rfl, rfl, Nat.le_refl _, fun _ _ _ => rfl⟩⟩
    | some ad =>
      obtain ⟨v', w', hrun, hown, hgrow, _⟩ := run_append_own (P := P) (ty := ty) w base t e i z m b ht hi hz hs hby hzs hm v xs.length _ h ad 0 c [] (by simp) (fun j u hu => by simp at hu) (fun u hu => by cases hu) (by simp only [maxLen]; omega)
        (by have : (xs.length + 0) * b ≤ 4194304 * 64 := Nat.mul_le_mul (by simpa using hn) hb; omega) hbase
      exact ⟨v', w', by simpa using hrun, by simpa [Row] using hown, hgrow⟩
end
/-- The built-in append at the operation, by what it is known to do. -/
theorem wpList_append_run {P : Program} {w w' : World} {ops : Array Oper} {rest : List Oper} {o : Oper} {a : Act} {Q : Exit → Act → World → Prop} {s x : Operand} {t : TypeId} {v u v' : Value} (hgd : o.guard = none)
    (ho : o.op = .call { callee := .builtin .append, args := #[s, x], argTypes := #[t, t] }) (hs : a.eval s = v) (hx : a.eval x = u) (hrun : (Builtin.append_ #[t, t] o.type #[v, u]).run P w = .ok v' w')
    (h : wpList P ops Q rest (a.put o.dst v') w') : wpList P ops Q (o :: rest) a w :=
  wpList_plain hgd fun K hK => by
    unfold Oper.wp execOp
    simp only [ho, resolve, invoke, builtin, Sem.run_bind, Sem.run_pure, Result.andThen_ok, List.map_toArray, List.map_cons, List.map_nil, hs, hx, hrun]
    exact hK _ _ h
/-! ### Elements of one cell -/
def one {α : Type} (enc : α → Value) : α → Nat → Value := fun x _ => enc x
theorem Sl1.of_ {α : Type} {enc : α → Value} {w : World} {v : Value} {xs : List α} (h : Sl1 enc w v xs) : SlOf 1 (one enc) w v xs := by
  obtain ⟨A, c, rfl, h⟩ := h
  refine ⟨A, c, rfl, fun hn => ?_⟩
  obtain ⟨b, off, hA, hlt, hc⟩ := h hn
  exact ⟨b, off, hA, hlt, fun i x hx j hj => by
    obtain rfl : j = 0 := by omega
    rw [Nat.mul_one, Nat.add_zero]
    exact hc i x hx⟩
theorem SlOf.to1 {α : Type} {enc : α → Value} {w : World} {v : Value} {xs : List α} (h : SlOf 1 (one enc) w v xs) : Sl1 enc w v xs := by
  obtain ⟨A, c, rfl, h⟩ := h
  refine ⟨A, c, rfl, fun hn => ?_⟩
  obtain ⟨b, off, hA, hlt, hc⟩ := h hn
  exact ⟨b, off, hA, hlt, fun i x hx => by
    have := hc i x hx 0 (by omega)
    rw [Nat.mul_one, Nat.add_zero] at this
    exact this⟩

/-! ### A store into one element of a slice of the call's own -/
theorem SlOf.put {α : Type} {m : Nat} {enc : α → Nat → Value} {w w' : World} {b off n c : Nat} {xs : List α} {k : Nat} (h : SlOf m enc w (.slice (some ⟨b, off, none⟩) n c) xs) (x' : α)
    (hoth : ∀ i u, (∀ j, j < m → i ≠ off + k * m + j) → w.cell? ⟨b, i, none⟩ = some u → w'.cell? ⟨b, i, none⟩ = some u) (hnew : ∀ j, j < m → w'.cell? ⟨b, off + k * m + j, none⟩ = some (enc x' j)) (hsz : w.heap.size ≤ w'.heap.size) :
    SlOf m enc w' (.slice (some ⟨b, off, none⟩) n c) (xs.set k x') := by
  obtain ⟨A, c', hA, h⟩ := h
  injection hA with e1 e2 e3
  subst e1 e2 e3
  refine ⟨_, _, by rw [List.length_set], fun hn => ?_⟩
  rw [List.length_set] at hn
  obtain ⟨b', off', hb, hlt, hc⟩ := h hn
  injection hb with hb
  injection hb with hb1 hb2
  subst hb1 hb2
  refine ⟨b, off, rfl, Nat.lt_of_lt_of_le hlt hsz, fun i x hx j hj => ?_⟩
  rw [List.getElem?_set] at hx
  by_cases e : k = i
  · subst e
    rw [if_pos rfl] at hx
    split at hx
    · cases hx; exact hnew j hj
    · cases hx
  · rw [if_neg e] at hx
    refine hoth _ _ (fun j' hj' e' => ?_) (hc i x hx j hj)
    rcases Nat.lt_or_gt_of_ne e with h' | h'
    · have := Nat.mul_le_mul_right m (Nat.succ_le_of_lt h'); rw [Nat.succ_mul] at this; omega
    · have := Nat.mul_le_mul_right m (Nat.succ_le_of_lt h'); rw [Nat.succ_mul] at this; omega
/-- What a call returns that makes a slice and says yes or no. -/
def RetOf2 {α : Type} (m : Nat) (enc : α → Nat → Value) (w : World) (r : List α × Bool) (e : Ending) (w' : World) : Prop :=
  ∃ v, e = .returned (.tuple #[v, .bool r.2]) ∧ SlOf m enc w' v r.1 ∧ Own w.heap.size w' v ∧ Ext w w'
end Go.Proofs.YtiggckhlbklngaaDoor
