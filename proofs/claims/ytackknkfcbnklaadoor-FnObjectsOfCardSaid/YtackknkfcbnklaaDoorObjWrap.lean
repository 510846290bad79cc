/- Objects: what their methods keep, as ObjectRun uses them. -/
import Derived.Test.YtackknkfcbnklaaDoorHeapObj
import Derived.Test.YtackknkfcbnklaaDoorObjL
import Derived.Test.YtackknkfcbnklaaDoorInts
namespace Go.Proofs.YtackknkfcbnklaaDoor
open Go.RowKit
set_option maxRecDepth 8000

theorem Ext.fr {O : Nat} {v : Value} {a W W' : World} (h : Ext a W) (hf : Fr O v W W') (hO : a.heap.size ≤ O) (hv : ∀ g, v.ownBlock = some g → a.heap.size ≤ g) : Ext a W' := by
  have hs := h.size
  refine Below.trans h ⟨hf.os, hf.tape, hf.output, hf.size, fun k hk => hf.block k (by omega) (by omega) (fun e => ?_)⟩
  have := hv k e.symm
  omega
theorem QRow.fr {E base O : Nat} {W W' : World} {o v : Value} {xs : List Int} (h : QRow E base W o xs) (hf : Fr O v W W') (h1 : some O ≠ o.ownBlock) (h2 : ∀ g, o.ownBlock = some g → v.ownBlock ≠ some g) : QRow E base W' o xs :=
  h.same fun g hg => hf.block g (h.lt hg).1 (fun e => h1 (by rw [hg, e])) (fun e => h2 g hg e.symm)
theorem QRow.sl1 {E base : Nat} {W : World} {v : Value} {xs : List Int} (h : QRow E base W v xs) : Sl1 encI W v xs := by
  rcases h with ⟨rfl, rfl⟩ | ⟨g, off, c, cur, rfl, _, hg, h1, h2, h3, h4⟩
  · exact Sl1.nil _ _ _ _
  · exact ⟨_, c, rfl, fun _ => ⟨g, off, rfl, (Array.getElem?_eq_some_iff.1 hg).1, fun i x hx => by simp [World.cell?, hg, h4 i x hx, encI]⟩⟩
theorem QRow.owned {E base : Nat} {W : World} {v : Value} {xs : List Int} (h : QRow E base W v xs) : Own base W v := by
  intro a n c hv hn
  rcases h with ⟨rfl, rfl⟩ | ⟨g, off, c', cur, rfl, hb, hg, _⟩
  · cases hv
  · injection hv with e1 e2 e3
    injection e1 with e1
    subst e1
    exact ⟨hb, (Array.getElem?_eq_some_iff.1 hg).1, fun i => by simp [World.frozen?, hg]⟩
theorem QRow.made (E : Nat) {base : Nat} (W : World) (n : Nat) (hb : base ≤ W.heap.size) (hn : n ≤ maxLen) : QRow E base (W.alloc (.cells (madeCells #[Value.int .i64 0] n) E)) (.slice (some ⟨W.heap.size, 0, none⟩) 0 n) [] :=
  .inr ⟨W.heap.size, 0, n, _, rfl, hb, World.alloc_heap_new W _, by simp, hn, by rw [size_madeCells]; omega, fun i x hx => by simp at hx⟩
/-- Where a run stands: the object, its numbers, the answers so far. -/
structure St (k : Int) (T base O : Nat) (W : World) (o v : Value) (zs l out : List Int) : Prop where
  obj : ObjAt T base O W v zs
  rel : Rel k zs l
  row : QRow 3 base W o out
  apart : ∀ g, o.ownBlock = some g → v.ownBlock ≠ some g
theorem St.ext {k : Int} {T base O : Nat} {W W' : World} {o v : Value} {zs l out : List Int} (h : St k T base O W o v zs l out) (hb : Ext W W') : St k T base O W' o v zs l out :=
  ⟨⟨boxed_ext h.obj.1 hb, h.obj.2.ext hb⟩, h.rel, h.row.ext hb, h.apart⟩
theorem St.turn {k : Int} {T base O : Nat} {W W' : World} {o v v' : Value} {zs zs' l l' out : List Int} (h : St k T base O W o v zs l out) (hT : T ≠ 3) (ho : ObjAt T base O W' v' zs') (hr : Rel k zs' l') (hf : Fr O v W W') (hn : NewB v v' W) : St k T base O W' o v' zs' l' out := by
  refine ⟨ho, hr, h.row.fr hf (box_apart h.obj.1 h.row hT) h.apart, fun g hg e => ?_⟩
  rcases hn with hn | ⟨g', hn, hg'⟩ | hn
  · exact h.apart g hg (by rw [← hn]; exact e)
  · rw [hn] at e; injection e with e
    have := (h.row.lt hg).1
    omega
  · rw [hn] at e; cases e
theorem St.own {k : Int} {T base O : Nat} {a W W' : World} {o v : Value} {zs l out : List Int} (h : St k T base O W o v zs l out) (hO : a.heap.size ≤ O) (hb : a.heap.size ≤ base) (he : Ext a W) (hf : Fr O v W W') : Ext a W' :=
  he.fr hf hO fun _ hg => Nat.le_trans hb (h.obj.2.lt hg).2.1
theorem St.push {k : Int} {T base O : Nat} {W : World} {o v : Value} {zs l out : List Int} (h : St k T base O W o v zs l out) (hT : T ≠ 3) (hn : out.length ≤ 1000) (hb : base ≤ W.heap.size) (x : Int) :
    ∃ o' w', (Builtin.append_ #[23, 23] 23 #[o, .slice (some ⟨W.heap.size, 0, none⟩) 1 1]).run Tryd.prog (W.alloc (.cells #[.int .i64 x] 3)) = .ok o' w' ∧ St k T base O w' o' v zs l (out ++ [x]) ∧
      (∀ a : World, a.heap.size ≤ base → Ext a W → Ext a w') ∧ W.heap.size ≤ w'.heap.size := by
  obtain ⟨o', w', hrun, hq, hgr, hnb⟩ := q_push (P := Tryd.prog) (t := 23) (ty := 23) Tryd.underlying23 qinfo h.row x hn hb
  have hE : Ext W (W.alloc (.cells #[.int .i64 x] 3)) := (Ext.refl W).alloc _
  have h1 := h.ext hE
  refine ⟨o', w', hrun, ⟨⟨h1.obj.1.kept hgr (box_apart h1.obj.1 h1.row hT), h1.obj.2.kept hgr ?_⟩, h.rel, hq, fun g hg e => ?_⟩, fun a ha he => ?_, by have := hgr.size; simp at this; omega⟩
  · cases hv : v.ownBlock with
    | none => exact .inl rfl
    | some g => exact .inr fun e => h.apart g e.symm hv
  · rcases hnb with hnb | ⟨g', hnb, hg'⟩
    · exact h.apart g (by rw [← hnb]; exact hg) e
    · have := (h.obj.2.lt e).1
      rw [hnb] at hg; injection hg with hg
      omega
  · exact Ext.grown (he.trans hE) hgr fun g hg => Nat.le_trans ha (h.row.lt hg).2.1
theorem callsOk1_any (x : Int) (w : World) : Calls Tryd.prog 28 #[.int .i64 x] w fun e w' => e = .returned (.bool (!inB x (-1) 99)) ∧ Ext w w' := by
  go_enter Tryd.func28, Tryd.ntmps28
  go_wp2_with fail
  refine (within_any _ _ _ _).mono ?_
  rintro e w1 ⟨rfl, rfl⟩
  go_wp2
  go_returns
  exact ⟨rfl, Ext.refl _⟩
theorem okCalls_eq (xs : List Int) (h : xs.length ≤ 20) : okCalls xs = !xs.any (fun x => !inB x (-1) 99) := by
  unfold okCalls
  rw [decide_eq_true h, Bool.true_and, List.not_any_eq_all_not]
  simp
theorem callsOk_any {v : Value} {xs : List Int} (w : World) (h : Sl1 encI w v xs) : Calls Tryd.prog 21 #[v] w fun e w' => e = .returned (.bool (okCalls xs)) ∧ Ext w w' := by
  have H := Lib.hid h
  obtain ⟨A, c, rfl, -⟩ := h
  by_cases hl : xs.length ≤ 20
  · rw [okCalls_eq xs hl]
    go_enter Tryd.func21, Tryd.ntmps21
    go_wp2_with fail
    refine (containsFuncI_any _ 28 #[] (fun x => !inB x (-1) 99) H.out (by omega) (fun _ _ => by kernel_rfl) (fun x _ W _ => callsOk1_any x W)).mono ?_
    rintro e w1 ⟨rfl, b1⟩
    go_wp2
    go_returns
    exact ⟨rfl, b1⟩
  · have hk : okCalls xs = false := by unfold okCalls; rw [decide_eq_false hl]; rfl
    rw [hk]
    go_enter Tryd.func21, Tryd.ntmps21
    go_wp2
    go_returns
    exact ⟨rfl, Ext.refl _⟩
theorem objectOf_none {k : Int} (w : World) (h : inB k 1 3 = false) : Calls Tryd.prog 20 #[.int .i64 k] w fun e w' => e = .returned .nilIface ∧ w = w' := by
  have h1 : (k == 1) = false := by rw [beq_eq_false_iff_ne]; rintro rfl; simp [inB] at h
  have h2 : (k == 2) = false := by rw [beq_eq_false_iff_ne]; rintro rfl; simp [inB] at h
  have h3 : (k == 3) = false := by rw [beq_eq_false_iff_ne]; rintro rfl; simp [inB] at h
  clear h
  go_enter Tryd.func20, Tryd.ntmps20
  go_wp2
  go_returns
  exact ⟨rfl, rfl⟩
theorem objectOf_1 (w : World) : Calls Tryd.prog 20 #[.int .i64 1] w fun e w' => e = .returned (.iface 54 (.pointer (some ⟨w.heap.size, 0, none⟩))) ∧ w' = w.alloc (.cells #[.slice none 0 0] 56) := by
  go_enter Tryd.func20, Tryd.ntmps20
  go_wp2
  go_returns
  exact ⟨rfl, rfl⟩
theorem objectOf_2 (w : World) : Calls Tryd.prog 20 #[.int .i64 2] w fun e w' => e = .returned (.iface 57 (.pointer (some ⟨w.heap.size, 0, none⟩))) ∧ w' = w.alloc (.cells #[.slice none 0 0] 58) := by
  go_enter Tryd.func20, Tryd.ntmps20
  go_wp2
  go_returns
  exact ⟨rfl, rfl⟩
theorem objectOf_3 (w : World) : Calls Tryd.prog 20 #[.int .i64 3] w fun e w' => e = .returned (.iface 59 (.pointer (some ⟨w.heap.size, 0, none⟩))) ∧ w' = w.alloc (.cells #[.slice none 0 0] 62) := by
  go_enter Tryd.func20, Tryd.ntmps20
  go_wp2
  go_returns
  exact ⟨rfl, rfl⟩
theorem rel_list {k : Int} (hk : k ≠ 3) {zs l : List Int} : Rel k zs l ↔ zs = l := by unfold Rel; rw [if_neg hk]
theorem rel_heap {zs l : List Int} : Rel 3 zs l ↔ zs.Perm l ∧ Heap zs zs.length := by unfold Rel; rw [if_pos rfl]
/-- What put leaves; what take leaves. -/
def PutsTo (k : Int) (T base O : Nat) (v : Value) (l : List Int) (W W' : World) : Prop := ∃ v' zs', ObjAt T base O W' v' zs' ∧ Rel k zs' l ∧ Fr O v W W' ∧ NewB v v' W
theorem Turns.puts {k : Int} {T base O : Nat} {v : Value} {zs l : List Int} {W W' : World} (h : Turns T base O v zs W W') (hr : Rel k zs l) : PutsTo k T base O v l W W' :=
  let ⟨v', h1, h2, h3⟩ := h
  ⟨v', zs, h1, hr, h2, h3⟩
theorem put_1 {base O : Nat} {v : Value} {zs l : List Int} (x : Int) (W : World) (h : ObjAt 56 base O W v zs) (hr : Rel 1 zs l) (hl : l.length ≤ 900) (hb : base ≤ W.heap.size) :
    Calls Tryd.prog 67 #[.pointer (some ⟨O, 0, none⟩), .int .i64 x] W fun e W' => e = .returned (.tuple #[]) ∧ PutsTo 1 56 base O v (l ++ [x]) W W' := by
  obtain rfl := (rel_list (by decide)).1 hr
  exact (q_put x W h (by omega) hb).mono fun e W' ⟨h1, h2⟩ => ⟨h1, h2.puts ((rel_list (by decide)).2 rfl)⟩
theorem put_2 {base O : Nat} {v : Value} {zs l : List Int} (x : Int) (W : World) (h : ObjAt 58 base O W v zs) (hr : Rel 2 zs l) (hl : l.length ≤ 900) (hb : base ≤ W.heap.size) :
    Calls Tryd.prog 70 #[.pointer (some ⟨O, 0, none⟩), .int .i64 x] W fun e W' => e = .returned (.tuple #[]) ∧ PutsTo 2 58 base O v (l ++ [x]) W W' := by
  obtain rfl := (rel_list (by decide)).1 hr
  exact (s_put x W h (by omega) hb).mono fun e W' ⟨h1, h2⟩ => ⟨h1, h2.puts ((rel_list (by decide)).2 rfl)⟩
theorem put_3 {base O : Nat} {v : Value} {zs l : List Int} (x : Int) (W : World) (h : ObjAt 62 base O W v zs) (hr : Rel 3 zs l) (hl : l.length ≤ 900) (hb : base ≤ W.heap.size) :
    Calls Tryd.prog 73 #[.pointer (some ⟨O, 0, none⟩), .int .i64 x] W fun e W' => e = .returned (.tuple #[]) ∧ PutsTo 3 62 base O v (l ++ [x]) W W' := by
  have hz := hr.len
  obtain ⟨hp, hh⟩ := rel_heap.1 hr
  exact (o_put x W h (by omega) hb hh).mono fun e W' ⟨h1, ys, h2, h3, h4⟩ => ⟨h1, h4.puts (rel_heap.2 ⟨h2.trans (hp.append_right _), h3⟩)⟩
theorem empty_1 {base O : Nat} {v : Value} {zs l : List Int} (W : World) (h : ObjAt 56 base O W v zs) (hr : Rel 1 zs l) :
    Calls Tryd.prog 66 #[.pointer (some ⟨O, 0, none⟩)] W fun e W' => e = .returned (.bool ((l.length : Int) == 0)) ∧ W = W' := by rw [← hr.len]; exact q_empty W h
theorem empty_2 {base O : Nat} {v : Value} {zs l : List Int} (W : World) (h : ObjAt 58 base O W v zs) (hr : Rel 2 zs l) :
    Calls Tryd.prog 69 #[.pointer (some ⟨O, 0, none⟩)] W fun e W' => e = .returned (.bool ((l.length : Int) == 0)) ∧ W = W' := by rw [← hr.len]; exact s_empty W h
theorem empty_3 {base O : Nat} {v : Value} {zs l : List Int} (W : World) (h : ObjAt 62 base O W v zs) (hr : Rel 3 zs l) :
    Calls Tryd.prog 72 #[.pointer (some ⟨O, 0, none⟩)] W fun e W' => e = .returned (.bool ((l.length : Int) == 0)) ∧ W = W' := by rw [← hr.len]; exact o_empty W h
theorem take_1 {base O : Nat} {v : Value} {zs l : List Int} (W : World) (h : ObjAt 56 base O W v zs) (hr : Rel 1 zs l) (hl : l.length ≤ 900) (hn : 0 < l.length) :
    Calls Tryd.prog 68 #[.pointer (some ⟨O, 0, none⟩)] W fun e W' => e = .returned (.int .i64 (gD l (takeAt 1 l))) ∧ PutsTo 1 56 base O v (l.eraseIdx (takeAt 1 l)) W W' := by
  obtain rfl := (rel_list (by decide)).1 hr
  have h0 : takeAt 1 zs = 0 := by simp [takeAt]
  rw [h0]
  exact (q_take W h (by omega) (gD_at hn)).mono fun e W' ⟨h1, h2⟩ => ⟨h1, h2.puts ((rel_list (by decide)).2 (by rw [List.eraseIdx_zero]; exact List.drop_one))⟩
theorem take_2 {base O : Nat} {v : Value} {zs l : List Int} (W : World) (h : ObjAt 58 base O W v zs) (hr : Rel 2 zs l) (hl : l.length ≤ 900) (hn : 0 < l.length) :
    Calls Tryd.prog 71 #[.pointer (some ⟨O, 0, none⟩)] W fun e W' => e = .returned (.int .i64 (gD l (takeAt 2 l))) ∧ PutsTo 2 58 base O v (l.eraseIdx (takeAt 2 l)) W W' := by
  obtain rfl := (rel_list (by decide)).1 hr
  have h0 : takeAt 2 zs = zs.length - 1 := by simp [takeAt]
  rw [h0]
  exact (s_take W h (by omega) (gD_at (by omega))).mono fun e W' ⟨h1, h2⟩ => ⟨h1, h2.puts ((rel_list (by decide)).2 (take_last hn).symm)⟩
theorem take_3 {base O : Nat} {v : Value} {zs l : List Int} (W : World) (h : ObjAt 62 base O W v zs) (hr : Rel 3 zs l) (hl : l.length ≤ 900) (hn : 0 < l.length) :
    Calls Tryd.prog 74 #[.pointer (some ⟨O, 0, none⟩)] W fun e W' => e = .returned (.int .i64 (gD l (takeAt 3 l))) ∧ PutsTo 3 62 base O v (l.eraseIdx (takeAt 3 l)) W W' := by
  have hz := hr.len
  obtain ⟨hp, hh⟩ := rel_heap.1 hr
  have h0 : takeAt 3 l = leastTo l l.length := by simp [takeAt]
  have hg := least_same hp hh hn
  rw [h0, ← hg]
  refine (o_take W h (by omega) (by omega) hh).mono fun e W' ⟨h1, ys, h2, h3, h4⟩ => ⟨h1, h4.puts (rel_heap.2 ⟨?_, h3⟩)⟩
  have h5 := erase_perm (leastTo_lt l l.length hn)
  rw [← hg] at h5
  exact List.Perm.cons_inv (h2.trans (hp.trans h5.symm))
end Go.Proofs.YtackknkfcbnklaaDoor
