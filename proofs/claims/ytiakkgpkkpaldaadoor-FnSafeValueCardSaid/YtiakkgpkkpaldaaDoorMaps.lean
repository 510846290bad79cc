/- Maps from int to int that the call makes: what a look-up gives, what a store does. -/
import Derived.Test.YtiakkgpkkpaldaaDoorBase
import Derived.MapKept
namespace Go.Proofs.YtiakkgpkkpaldaaDoor
open Go.RowKit

/-- Block g is a map that answers as m does. -/
def MapFn (w : World) (g : Nat) (m : Int → Option Int) : Prop :=
  ∃ (es : Array MapEntry) (clk : Nat) (l : List (Int × Int)), w.heap[g]? = some (.map es clk) ∧ es.toList.map (fun e => (e.key, e.val)) = l.map (fun p => (Value.int .i64 p.1, Value.int .i64 p.2)) ∧ ∀ k, (l.find? fun p => p.1 == k).map (·.2) = m k

def setMap (w : World) (g : Nat) (o : Obj) : World := { w with heap := w.heap.setIfInBounds g o }

theorem MapFn.lt {w : World} {g : Nat} {m : Int → Option Int} (h : MapFn w g m) : g < w.heap.size := by
  obtain ⟨es, clk, l, h, _⟩ := h
  rcases Nat.lt_or_ge g w.heap.size with h' | h'
  · exact h'
  · rw [Array.getElem?_eq_none h'] at h; cases h
theorem MapFn.ext {w w' : World} {g : Nat} {m : Int → Option Int} (h : MapFn w g m) (hb : Ext w w') : MapFn w' g m := by
  have hl := h.lt
  obtain ⟨es, clk, l, h, h2⟩ := h
  exact ⟨es, clk, l, (Below.block hb g hl).trans h, h2⟩
theorem MapFn.congr {w : World} {g : Nat} {m m' : Int → Option Int} (h : MapFn w g m) (e : ∀ k, m k = m' k) : MapFn w g m' := by
  obtain ⟨es, clk, l, h1, h2, h3⟩ := h
  exact ⟨es, clk, l, h1, h2, fun k => (h3 k).trans (e k)⟩
theorem MapFn.made (w : World) : MapFn (w.alloc (.map #[] 0)) w.heap.size (fun _ => none) :=
  ⟨#[], 0, [], heap_alloc_new w _, rfl, fun _ => rfl⟩

theorem findNow_int (k : Int) : ∀ (es : List MapEntry) (l : List (Int × Int)) (i : Nat), es.map (fun e => (e.key, e.val)) = l.map (fun p => (Value.int .i64 p.1, Value.int .i64 p.2)) →
    Instr.findNow (.int .i64) (.int .i64 k) es i = some ((l.findIdx? (fun p => p.1 == k)).map fun j => (i + j, Value.int .i64 ((l[j]?.map (·.2)).getD 0)))
  | [], [], i, _ => by simp [Instr.findNow]
  | [], _ :: _, _, h => by simp at h
  | _ :: _, [], _, h => by simp at h
  | e :: es, p :: l, i, h => by
    simp only [List.map_cons, List.cons.injEq, Prod.mk.injEq] at h
    obtain ⟨⟨hk, hv⟩, h⟩ := h
    have ih := findNow_int k es l (i + 1) h
    rw [Instr.findNow, hk, hv]
    simp only [Instr.sameNow, if_true]
    by_cases e : k = p.1
    · subst e
      simp [List.findIdx?_cons]
    · have e1 : (k == p.1) = false := by simp [e]
      have e2 : (p.1 == k) = false := by simp; exact fun h => e h.symm
      rw [e1]
      simp only [ih, List.findIdx?_cons, e2]
      simp only [Option.map_map, Bool.false_eq_true, if_false]
      cases l.findIdx? (fun p => p.1 == k) with
      | none => rfl
      | some j => simp; omega

theorem find_of_idx (l : List (Int × Int)) (k : Int) : l.find? (fun p => p.1 == k) = (l.findIdx? (fun p => p.1 == k)).bind fun j => l[j]? := by
  induction l with
  | nil => rfl
  | cons p l ih =>
    rw [List.find?_cons, List.findIdx?_cons]
    by_cases e : (p.1 == k) = true
    · simp [e]
    · simp only [Bool.not_eq_true] at e
      simp only [e, ih]
      cases l.findIdx? (fun p => p.1 == k) with
      | none => simp
      | some j => simp

section
variable {P : Program} {w : World} {g : Nat} {m : Int → Option Int} {T K E : TypeId}
theorem run_lookup_fn (hT : P.underlying T = some (.map K E)) (hK : P.underlying K = some (.int .i64)) (hE : ∀ w, (zeroValue E).run P w = .ok (.int .i64 0) w) (h : MapFn w g m) (k : Int) :
    (Instr.lookup T (.map (some g)) (.int .i64 k) true).run P w = .ok (.tuple #[.int .i64 ((m k).getD 0), .bool (m k).isSome]) w := by
  obtain ⟨es, clk, l, hg, hl, hm⟩ := h
  have hf := findNow_int k es.toList l 0 hl
  have hck : ∀ b, (Instr.checkKey b 10000 K (.int .i64 k)).run P w = .ok () w := fun b => Go.MapKept.run_checkKey hK (by simp [Go.MapKept.IsKey]) b 9999
  have hobj : (getObj g).run P w = .ok (.map es clk) w := by simp [getObj, Sem.run, hg]
  simp only [Instr.lookup, Sem.run_bind, run_underlying hT, Result.andThen_ok, hobj, Sem.run_pure, hck]
  simp only [Instr.findKey, Sem.run_bind, run_underlying hK, Result.andThen_ok, hf, Sem.run_pure]
  have hmk := hm k
  rw [find_of_idx] at hmk
  cases hidx : l.findIdx? (fun p => p.1 == k) with
  | none =>
    rw [hidx] at hmk
    simp only [Option.bind_none, Option.map_none] at hmk
    rw [← hmk]
    simp [hE]
  | some j =>
    rw [hidx] at hmk
    simp only [Option.bind_some] at hmk
    have hj : j < l.length := by
      have := List.findIdx?_eq_some_iff_getElem.1 hidx
      exact this.1
    rw [List.getElem?_eq_getElem hj] at hmk
    simp only [Option.map_some] at hmk
    rw [← hmk]
    simp [List.getElem?_eq_getElem hj]

theorem run_lookup1_fn (hT : P.underlying T = some (.map K E)) (hK : P.underlying K = some (.int .i64)) (hE : ∀ w, (zeroValue E).run P w = .ok (.int .i64 0) w) (h : MapFn w g m) (k : Int) :
    (Instr.lookup T (.map (some g)) (.int .i64 k) false).run P w = .ok (.int .i64 ((m k).getD 0)) w := by
  obtain ⟨es, clk, l, hg, hl, hm⟩ := h
  have hf := findNow_int k es.toList l 0 hl
  have hck : ∀ b, (Instr.checkKey b 10000 K (.int .i64 k)).run P w = .ok () w := fun b => Go.MapKept.run_checkKey hK (by simp [Go.MapKept.IsKey]) b 9999
  have hobj : (getObj g).run P w = .ok (.map es clk) w := by simp [getObj, Sem.run, hg]
  simp only [Instr.lookup, Sem.run_bind, run_underlying hT, Result.andThen_ok, hobj, Sem.run_pure, hck]
  simp only [Instr.findKey, Sem.run_bind, run_underlying hK, Result.andThen_ok, hf, Sem.run_pure]
  have hmk := hm k
  rw [find_of_idx] at hmk
  cases hidx : l.findIdx? (fun p => p.1 == k) with
  | none =>
    rw [hidx] at hmk
    simp only [Option.bind_none, Option.map_none] at hmk
    rw [← hmk]
    simp [hE]
  | some j =>
    rw [hidx] at hmk
    simp only [Option.bind_some] at hmk
    have hj : j < l.length := by
      have := List.findIdx?_eq_some_iff_getElem.1 hidx
      exact this.1
    rw [List.getElem?_eq_getElem hj] at hmk
    simp only [Option.map_some] at hmk
    rw [← hmk]
    simp [List.getElem?_eq_getElem hj]

theorem run_update_fn (hT : P.underlying T = some (.map K E)) (hK : P.underlying K = some (.int .i64)) (h : MapFn w g m) (k v : Int) :
    ∃ o, (Instr.mapUpdate T (.map (some g)) (.int .i64 k) (.int .i64 v)).run P w = .ok () (setMap w g o) ∧ MapFn (setMap w g o) g (fun i => if i = k then some v else m i) := by
  have hlt := h.lt
  obtain ⟨es, clk, l, hg, hl, hm⟩ := h
  have hf := findNow_int k es.toList l 0 hl
  have hck : ∀ b, (Instr.checkKey b 10000 K (.int .i64 k)).run P w = .ok () w := fun b => Go.MapKept.run_checkKey hK (by simp [Go.MapKept.IsKey]) b 9999
  have hobj : (getObj g).run P w = .ok (.map es clk) w := by simp [getObj, Sem.run, hg]
  have hset : ∀ o, (setObj g o).run P w = .ok () (setMap w g o) := fun o => by simp [setObj, Sem.run, hg, setMap]
  cases hidx : l.findIdx? (fun p => p.1 == k) with
  | none =>
    refine ⟨.map (es.push { key := .int .i64 k, val := .int .i64 v, born := clk }) (clk + 1), ?_, ?_⟩
    · simp only [Instr.mapUpdate, Sem.run_bind, run_underlying hT, Result.andThen_ok, hobj, hck]
      simp only [Instr.findKey, Sem.run_bind, run_underlying hK, Result.andThen_ok, hf, Sem.run_pure, hidx, Option.map_none]
      exact hset _
    · refine ⟨_, _, l ++ [(k, v)], by simp [setMap, hlt]; exact ⟨rfl, rfl⟩, by simp [hl], fun i => ?_⟩
      have hnone : l.find? (fun p => p.1 == k) = none := by rw [find_of_idx, hidx]; rfl
      show _ = if i = k then some v else m i
      rw [List.find?_append]
      by_cases e : i = k
      · subst e
        rw [hnone]
        simp
      · have e1 : (k == i) = false := by simp; exact fun h => e h.symm
        rw [if_neg e, ← hm i]
        cases l.find? (fun p => p.1 == i) with
        | none => simp [e1]
        | some q => simp
  | some j =>
    have hj : j < l.length := (List.findIdx?_eq_some_iff_getElem.1 hidx).1
    have hjk : (l[j].1 == k) = true := (List.findIdx?_eq_some_iff_getElem.1 hidx).2.1
    have hbef : ∀ i (hi : i < j), (l[i].1 == k) = false := fun i hi => by
      have := (List.findIdx?_eq_some_iff_getElem.1 hidx).2.2 i hi
      simpa using this
    have hes : es.toList.length = l.length := by have := congrArg List.length hl; simpa using this
    have hkey : (es[j]?.map (·.key)) = some (.int .i64 k) := by
      have h1 := congrArg (fun x => x[j]?) hl
      simp only [List.getElem?_map, List.getElem?_eq_getElem hj, Option.map_some] at h1
      have h2 : es.toList[j]? = es[j]? := by simp
      rw [h2] at h1
      cases he : es[j]? with
      | none => rw [he] at h1; simp at h1
      | some e =>
        rw [he] at h1
        simp at h1
        simp only [Option.map_some, h1.1]
        rw [eq_of_beq hjk]
    refine ⟨.map (es.modify j fun e => { e with key := .int .i64 k, val := .int .i64 v }) clk, ?_, ?_⟩
    · simp only [Instr.mapUpdate, Sem.run_bind, run_underlying hT, Result.andThen_ok, hobj, hck]
      simp only [Instr.findKey, Sem.run_bind, run_underlying hK, Result.andThen_ok, hf, Sem.run_pure, hidx, Option.map_some, Nat.zero_add, hkey, Option.getD_some]
      simp only [Instr.keyThatStays, Instr.sameBits, beq_self_eq_true, Bool.and_self, if_true, Sem.run_pure, Result.andThen_ok]
      exact hset _
    · refine ⟨_, _, l.modify j (fun _ => (k, v)), by simp [setMap, hlt]; exact ⟨rfl, rfl⟩, ?_, fun i => ?_⟩
      · apply List.ext_getElem?
        intro i
        have h1 := congrArg (fun x => x[i]?) hl
        simp only [List.getElem?_map] at h1
        simp only [List.getElem?_map, Array.toList_modify, List.getElem?_modify]
        by_cases e : j = i
        · subst e
          simp only [if_true]
          rw [List.getElem?_eq_getElem hj, List.getElem?_eq_getElem (by omega)]
          rfl
        · simp only [if_neg e]
          cases h2 : es.toList[i]? <;> cases h3 : l[i]? <;> rw [h2, h3] at h1 <;> simp_all
      · show _ = if i = k then some v else m i
        by_cases e : i = k
        · subst e
          rw [if_pos rfl, find_of_idx]
          have : (l.modify j fun _ => (i, v)).findIdx? (fun p => p.1 == i) = some j := by
            rw [List.findIdx?_eq_some_iff_getElem]
            refine ⟨by simpa using hj, by simp, fun q hq => ?_⟩
            rw [List.getElem_modify, if_neg (by omega)]
            simpa using hbef q hq
          rw [this]
          simp [List.getElem?_modify, hj]
        · rw [if_neg e, ← hm i]
          have hne : ∀ q : Int × Int, q.1 = k → (q.1 == i) = false := fun q hq => by simp [hq]; exact fun h => e h.symm
          have hjk' : l[j].1 = k := eq_of_beq hjk
          congr 1
          have key : ∀ (l : List (Int × Int)) (j : Nat), (∀ q, l[j]? = some q → q.1 = k) → (l.modify j fun _ => (k, v)).find? (fun p => p.1 == i) = l.find? (fun p => p.1 == i) := by
            intro l
            induction l with
            | nil => intro j _; simp
            | cons p l ih =>
              intro j hq
              cases j with
              | zero =>
                have := hq p (by simp)
                simp [hne p this, hne (k, v) rfl]
              | succ j =>
                simp only [List.modify_succ_cons, List.find?_cons]
                rw [ih j (fun q h => hq q (by simpa using h))]
          exact key l j (fun q h => by rw [List.getElem?_eq_getElem hj] at h; cases h; exact hjk')
/-- A store into a map of the call's own turns nothing of what was there. -/
theorem Ext.setMap {a b : World} (h : Ext a b) {g : Nat} (hg : a.heap.size ≤ g) (o : Obj) : Ext a (setMap b g o) := by
  have h' : Below a.heap.size a b := h
  refine ⟨h'.os, h'.tape, h'.output, by simp [Proofs.YtiakkgpkkpaldaaDoor.setMap]; exact h'.size, fun k hk => ?_⟩
  simp only [Proofs.YtiakkgpkkpaldaaDoor.setMap, Array.getElem?_setIfInBounds]
  rw [if_neg (by omega)]
  exact h'.block k hk
theorem setMap_cell {w : World} {g : Nat} {o : Obj} {p : Addr} (hp : p.block ≠ g) : (Proofs.YtiakkgpkkpaldaaDoor.setMap w g o).cell? p = w.cell? p := by
  simp only [World.cell?, Proofs.YtiakkgpkkpaldaaDoor.setMap, Array.getElem?_setIfInBounds]
  rw [if_neg (fun e => hp e.symm)]
end
end Go.Proofs.YtiakkgpkkpaldaaDoor
