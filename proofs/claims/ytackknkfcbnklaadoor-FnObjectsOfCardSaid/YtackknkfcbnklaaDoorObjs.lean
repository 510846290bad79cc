/- Objects: queues, stacks and heaps of the program, by their methods. -/
import Derived.Test.YtackknkfcbnklaaDoorQRow
import Derived.Test.YtackknkfcbnklaaDoorPile
import Derived.BigRegion
namespace Go.Proofs.YtackknkfcbnklaaDoor
open Go.RowKit
set_option maxRecDepth 8000

/-- What a method of an object leaves: nothing but the object's box and its list's block has turned. -/
structure Fr (O : Nat) (v : Value) (W W' : World) : Prop where
  os : W'.os = W.os
  tape : W'.tape = W.tape
  output : W'.output = W.output
  size : W.heap.size ≤ W'.heap.size
  block : ∀ k, k < W.heap.size → k ≠ O → some k ≠ v.ownBlock → W'.heap[k]? = W.heap[k]?
/-- The list's block is the one that it was, or a new one. -/
def NewB (v v' : Value) (W : World) : Prop := v'.ownBlock = v.ownBlock ∨ (∃ g, v'.ownBlock = some g ∧ W.heap.size ≤ g) ∨ v'.ownBlock = none
theorem Fr.refl (O : Nat) (v : Value) (W : World) : Fr O v W W := ⟨rfl, rfl, rfl, Nat.le_refl _, fun _ _ _ _ => rfl⟩
theorem Fr.trans {O : Nat} {v v1 : Value} {A B C : World} (h : Fr O v A B) (k : Fr O v1 B C) (hn : NewB v v1 A) : Fr O v A C :=
  ⟨k.os.trans h.os, k.tape.trans h.tape, k.output.trans h.output, Nat.le_trans h.size k.size, fun i hi h1 h2 => (k.block i (Nat.lt_of_lt_of_le hi h.size) h1 (fun e => by
    rcases hn with hn | ⟨g, hn, hg⟩ | hn
    · exact h2 (e.trans hn)
    · rw [hn] at e; injection e with e; omega
    · rw [hn] at e; cases e)).trans (h.block i hi h1 h2)⟩
theorem NewB.refl (v : Value) (W : World) : NewB v v W := .inl rfl
theorem NewB.trans {v v1 v2 : Value} {A B : World} (h : NewB v v1 A) (k : NewB v1 v2 B) (hs : A.heap.size ≤ B.heap.size) : NewB v v2 A := by
  rcases k with k | ⟨g, k, hg⟩ | k
  · rcases h with h | ⟨g, h, hg⟩ | h
    · exact .inl (k.trans h)
    · exact .inr (.inl ⟨g, k.trans h, hg⟩)
    · exact .inr (.inr (k.trans h))
  · exact .inr (.inl ⟨g, k, by omega⟩)
  · exact .inr (.inr k)
theorem Fr.of_ext {O : Nat} {v : Value} {W W' : World} (h : Ext W W') : Fr O v W W' := ⟨Below.os h, Below.tape h, Below.output h, h.size, fun k hk _ _ => Below.block h k hk⟩
theorem Fr.box {O : Nat} {v : Value} {W : World} (i : Nat) (u : Value) : Fr O v W (W.setCell ⟨O, i, none⟩ u) := ⟨rfl, rfl, rfl, (KeepsWalks.setCell _ _ _).size, fun k _ h1 _ => Below.heap_setCell _ _ _ k h1⟩
theorem Fr.grown {O : Nat} {v : Value} {W W' : World} (h : W.grownBy W' v.ownBlock) : Fr O v W W' := ⟨h.os, h.tape, h.output, h.size, fun k hk _ h2 => h.block k hk h2⟩

/-- The object's box holds a list of the call's own. -/
def ObjAt (T base O : Nat) (W : World) (v : Value) (xs : List Int) : Prop := Boxed W O T v ∧ QRow 3 base W v xs
/-- What a method that turns the list leaves. -/
def Turns (T base O : Nat) (v : Value) (xs : List Int) (W W' : World) : Prop := ∃ v', ObjAt T base O W' v' xs ∧ Fr O v W W' ∧ NewB v v' W

theorem qinfo : (Tryd.prog.info? 3).map (fun i => (i.zero, i.size, i.bytes)) = some (some (.int .i64 0), 1, 8) := by kernel_rfl
theorem box_apart {T E base O : Nat} {W : World} {v u : Value} {xs : List Int} (hb : Boxed W O T v) (hq : QRow E base W u xs) (hne : T ≠ E) : some O ≠ u.ownBlock := fun e => by
  obtain ⟨_, _, cur, hg⟩ := hq.lt e.symm
  unfold Boxed at hb
  rw [hb] at hg
  simp at hg
  exact hne hg.2
theorem grownBy_two {A B C : World} {row : Option Nat} (h : A.grownBy B row) (k : B.grownBy C row) : A.grownBy C.drew row :=
  ⟨k.os.trans h.os, k.tape.trans h.tape, k.output.trans h.output, Nat.le_trans h.size k.size, fun i hi hr => (k.block i (Nat.lt_of_lt_of_le hi h.size) hr).trans (h.block i hi hr)⟩
theorem boxed_ext {W W' : World} {B : Nat} {t : TypeId} {v : Value} (h : Boxed W B t v) (hb : Ext W W') : Boxed W' B t v := (Below.block hb B h.lt).trans h
theorem boxed_drew {W : World} {B : Nat} {t : TypeId} {v : Value} (h : Boxed W B t v) : Boxed W.drew B t v := h
theorem ObjAt.mk2 {T base O : Nat} {W : World} {v : Value} {xs : List Int} (h1 : Boxed W O T v) (h2 : QRow 3 base W v xs) : ObjAt T base O W v xs := ⟨h1, h2⟩
theorem q_empty {base O : Nat} {v : Value} {xs : List Int} (W : World) (h : ObjAt 56 base O W v xs) :
    Calls Tryd.prog 66 #[.pointer (some ⟨O, 0, none⟩)] W fun e W' => e = .returned (.bool ((xs.length : Int) == 0)) ∧ W = W' := by
  obtain ⟨A, c, rfl, h1, h2⟩ := h.2.shape
  have c0 := h.1.cell
  clear h
  go_enter Tryd.func66, Tryd.ntmps66
  go_wp2
  go_returns
  exact ⟨rfl, rfl⟩
set_option maxHeartbeats 1000000 in
theorem q_put {base O : Nat} {v : Value} {xs : List Int} (x : Int) (W : World) (h : ObjAt 56 base O W v xs) (hl : xs.length ≤ 1000) (hb : base ≤ W.heap.size) :
    Calls Tryd.prog 67 #[.pointer (some ⟨O, 0, none⟩), .int .i64 x] W fun e W' => e = .returned (.tuple #[]) ∧ Turns 56 base O v (xs ++ [x]) W W' := by
  obtain ⟨v', w', hrun, hq, hgr, hn⟩ := q_push (P := Tryd.prog) (t := 23) (ty := 23) Tryd.underlying23 qinfo h.2 x hl hb
  have hbx : Boxed w' O 56 v := (h.1.alloc _).kept hgr (box_apart h.1 h.2 (by decide))
  have c0 := h.1.cell
  have c1 := hbx.cell
  have f1 := hbx.frozen
  have HQ := Lib.hid hq
  have HB := Lib.hid hbx
  have HG := Lib.hid hgr
  have HN := Lib.hid hn
  have HR := Lib.hid hrun
  have hsh := hq.shape
  rw [List.length_append, List.length_singleton] at hsh
  obtain ⟨A', c', rfl, -, -⟩ := hsh
  clear h hrun hq hgr hn hbx
  go_enter Tryd.func67, Tryd.ntmps67
  go_wp2_with (at_builtin; refine wpList_append_run rfl rfl rfl rfl HR.out ?_)
  go_end0
  refine ⟨rfl, _, ⟨HB.out.set _, HQ.out.kept (grownBy_setCell' _ _ _) (.inr (box_apart HB.out HQ.out (by decide)).symm)⟩, ((Fr.of_ext ((Ext.refl W).alloc _)).trans (Fr.grown HG.out) (.inl rfl)).trans (v1 := v) (Fr.box _ _) (.inl rfl), ?_⟩
  rcases HN.out with h | ⟨g, h, hg⟩
  · exact .inl h
  · exact .inr (.inl ⟨g, h, by omega⟩)
set_option maxHeartbeats 1000000 in
theorem q_take {base O : Nat} {v : Value} {xs : List Int} {x : Int} (W : World) (h : ObjAt 56 base O W v xs) (hl : xs.length ≤ 1000) (hx : xs[0]? = some x) :
    Calls Tryd.prog 68 #[.pointer (some ⟨O, 0, none⟩)] W fun e W' => e = .returned (.int .i64 x) ∧ Turns 56 base O v (xs.drop 1) W W' := by
  have hn : 0 < xs.length := (List.getElem?_eq_some_iff.1 hx).1
  obtain ⟨g, off, c, rfl, h1, h2, h3, h4⟩ := h.2.slot hn
  have c0 := h.1.cell
  have f0 := h.1.frozen
  have m0 := h3 0 x hx
  simp only [maxLen, Nat.add_zero] at h2 m0
  have H := Lib.hid h
  clear h h3 h4 hx
  by_cases hc : c = 1
  · have hq := H.out.2.tail1 hn hc
    have HQ := Lib.hid (ObjAt.mk2 (H.out.1.set _) (hq.kept (grownBy_setCell' W O (.slice (some ⟨g, off, none⟩) (xs.length - 1) (c - 1))) (.inr (box_apart H.out.1 hq (by decide)).symm)))
    have hn1 : xs.length = 1 := by omega
    have HQ2 : Hid (ObjAt 56 base O (W.setCell ⟨O, 0, none⟩ (.slice (some ⟨g, off, none⟩) 0 0)) (.slice (some ⟨g, off, none⟩) 0 0) (xs.drop 1)) := by
      have := HQ.out
      rw [hn1, hc] at this
      exact this
    clear hq HQ
    subst hc
    go_enter Tryd.func68, Tryd.ntmps68
    go_wp2
    go_returns
    exact ⟨rfl, _, HQ2.out, Fr.box _ _, .inl rfl⟩
  · have hq := H.out.2.tail2 hn hc
    have HQ := Lib.hid (ObjAt.mk2 (H.out.1.set _) (hq.kept (grownBy_setCell' W O (.slice (some ⟨g, off + 1, none⟩) (xs.length - 1) (c - 1))) (.inr (box_apart H.out.1 hq (by decide)).symm)))
    clear hq
    go_enter Tryd.func68, Tryd.ntmps68
    go_wp2
    go_returns
    exact ⟨rfl, _, HQ.out, Fr.box _ _, .inl rfl⟩
theorem s_empty {base O : Nat} {v : Value} {xs : List Int} (W : World) (h : ObjAt 58 base O W v xs) :
    Calls Tryd.prog 69 #[.pointer (some ⟨O, 0, none⟩)] W fun e W' => e = .returned (.bool ((xs.length : Int) == 0)) ∧ W = W' := by
  obtain ⟨A, c, rfl, h1, h2⟩ := h.2.shape
  have c0 := h.1.cell
  clear h
  go_enter Tryd.func69, Tryd.ntmps69
  go_wp2
  go_returns
  exact ⟨rfl, rfl⟩
set_option maxHeartbeats 1000000 in
theorem s_put {base O : Nat} {v : Value} {xs : List Int} (x : Int) (W : World) (h : ObjAt 58 base O W v xs) (hl : xs.length ≤ 1000) (hb : base ≤ W.heap.size) :
    Calls Tryd.prog 70 #[.pointer (some ⟨O, 0, none⟩), .int .i64 x] W fun e W' => e = .returned (.tuple #[]) ∧ Turns 58 base O v (xs ++ [x]) W W' := by
  obtain ⟨v', w', hrun, hq, hgr, hn⟩ := q_push (P := Tryd.prog) (t := 23) (ty := 23) Tryd.underlying23 qinfo h.2 x hl hb
  have hbx : Boxed w' O 58 v := (h.1.alloc _).kept hgr (box_apart h.1 h.2 (by decide))
  have c0 := h.1.cell
  have c1 := hbx.cell
  have f1 := hbx.frozen
  have HQ := Lib.hid hq
  have HB := Lib.hid hbx
  have HG := Lib.hid hgr
  have HN := Lib.hid hn
  have HR := Lib.hid hrun
  have hsh := hq.shape
  rw [List.length_append, List.length_singleton] at hsh
  obtain ⟨A', c', rfl, -, -⟩ := hsh
  clear h hrun hq hgr hn hbx
  go_enter Tryd.func70, Tryd.ntmps70
  go_wp2_with (at_builtin; refine wpList_append_run rfl rfl rfl rfl HR.out ?_)
  go_end0
  refine ⟨rfl, _, ⟨HB.out.set _, HQ.out.kept (grownBy_setCell' _ _ _) (.inr (box_apart HB.out HQ.out (by decide)).symm)⟩, ((Fr.of_ext ((Ext.refl W).alloc _)).trans (Fr.grown HG.out) (.inl rfl)).trans (v1 := v) (Fr.box _ _) (.inl rfl), ?_⟩
  rcases HN.out with h | ⟨g, h, hg⟩
  · exact .inl h
  · exact .inr (.inl ⟨g, h, by omega⟩)
set_option maxHeartbeats 2000000 in
theorem s_take {base O : Nat} {v : Value} {xs : List Int} {x : Int} (W : World) (h : ObjAt 58 base O W v xs) (hl : xs.length ≤ 1000) (hx : xs[xs.length - 1]? = some x) :
    Calls Tryd.prog 71 #[.pointer (some ⟨O, 0, none⟩)] W fun e W' => e = .returned (.int .i64 x) ∧ Turns 58 base O v (xs.take (xs.length - 1)) W W' := by
  have hn : 0 < xs.length := by have := (List.getElem?_eq_some_iff.1 hx).1; omega
  obtain ⟨g, off, c, rfl, h1, h2, h3, h4⟩ := h.2.slot hn
  have hq := h.2.init1 hn
  have H := Lib.hid h
  obtain ⟨p, hp⟩ : ∃ p, xs.length - 1 = p := ⟨_, rfl⟩
  rw [hp] at hx hq ⊢
  have hpi : (xs.length : Int) - 1 = (p : Int) := by omega
  have hpl : p < xs.length := by omega
  have hpc : p ≤ c := by omega
  have c0 := h.1.cell
  have m0 := h3 p x hx
  simp only [maxLen] at h2
  have HQ := Lib.hid hq
  have M0 := Lib.hid m0
  have C0 := Lib.hid c0
  clear h h3 h4 hx hq hp m0 c0
  have c0 : ∀ e, (over W e).cell? ⟨O, 0, none⟩ = some (.slice (some ⟨g, off, none⟩) xs.length c) := over_cell C0.out
  have m0 : ∀ e, (over W e).cell? ⟨g, off + p, none⟩ = some (.int .i64 x) := over_cell M0.out
  have hmx : Tryd.prog.follows .mixedOrders = true := by kernel_rfl
  go_enter Tryd.func71, Tryd.ntmps71
  go_wp2
  refine wp_region_over (by kernel_rfl) (by kernel_rfl) ?_
  repeat (go_big_quiet_step ((fail)))
  refine wpQuiet_nil ?_
  intro w1 hb1
  have d0 := (boxed_ext H.out.1 hb1).cell
  have e0 := (boxed_ext H.out.1 hb1).frozen
  clear c0 m0
  go_wp2_with fail
  go_region
  go_wp2
  go_returns
  have hq1 := HQ.out.ext hb1
  exact ⟨rfl, _, ObjAt.mk2 ((boxed_drew (boxed_ext H.out.1 hb1)).set _) ((hq1.ext (Ext.refl _).drew).kept (grownBy_setCell' _ O (.slice (some ⟨g, off, none⟩) p c)) (.inr (box_apart (boxed_ext H.out.1 hb1) hq1 (by decide)).symm)), (Fr.of_ext (hb1.drew)).trans (Fr.box _ _) (.inl rfl), .inl rfl⟩
end Go.Proofs.YtackknkfcbnklaaDoor
