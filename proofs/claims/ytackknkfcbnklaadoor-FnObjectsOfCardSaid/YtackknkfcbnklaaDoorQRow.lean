/- Slices of numbers of the call's own that may begin anywhere in their block. -/
import Derived.Test.YtackknkfcbnklaaDoorLeaf
import Derived.Test.YtackknkfcbnklaaDoorAppend
import Derived.Test.YtackknkfcbnklaaDoorCut
import Derived.ArgAppend
import Derived.RangeFuncBox
namespace Go.Proofs.YtackknkfcbnklaaDoor
open Go.RowKit

def QRow (E base : Nat) (W : World) (v : Value) (xs : List Int) : Prop :=
  (v = .slice none 0 0 ∧ xs = []) ∨ ∃ g off c cur, v = .slice (some ⟨g, off, none⟩) xs.length c ∧ base ≤ g ∧ W.heap[g]? = some (.cells cur E (0, 0)) ∧ xs.length ≤ c ∧ c ≤ maxLen ∧ off + c ≤ cur.size ∧ ∀ i x, xs[i]? = some x → cur[off + i]? = some (.int .i64 x)
section
variable {E base : Nat} {W W' : World} {v : Value} {xs : List Int}
theorem QRow.nil : QRow E base W (.slice none 0 0) [] := .inl ⟨rfl, rfl⟩
theorem QRow.same (h : QRow E base W v xs) (hs : ∀ g, v.ownBlock = some g → W'.heap[g]? = W.heap[g]?) : QRow E base W' v xs := by
  rcases h with h | ⟨g, off, c, cur, rfl, hb, hg, r⟩
  · exact .inl h
  · exact .inr ⟨g, off, c, cur, rfl, hb, (hs g rfl).trans hg, r⟩
theorem QRow.ext (h : QRow E base W v xs) (hb : Ext W W') : QRow E base W' v xs := by
  refine h.same fun g hg => ?_
  rcases h with ⟨rfl, _⟩ | ⟨g', off, c, cur, rfl, _, hg', _⟩
  · cases hg
  · injection hg with hg; subst hg
    exact Below.block hb _ (Array.getElem?_eq_some_iff.1 hg').1
theorem QRow.lt (h : QRow E base W v xs) {g : Nat} (hg : v.ownBlock = some g) : g < W.heap.size ∧ base ≤ g ∧ ∃ cur, W.heap[g]? = some (.cells cur E (0, 0)) := by
  rcases h with ⟨rfl, _⟩ | ⟨g', off, c, cur, rfl, hb, hg', _⟩
  · cases hg
  · injection hg with hg; subst hg
    exact ⟨(Array.getElem?_eq_some_iff.1 hg').1, hb, cur, hg'⟩
theorem QRow.kept (h : QRow E base W v xs) {row : Option Nat} (hg : W.grownBy W' row) (hne : v.ownBlock = none ∨ v.ownBlock ≠ row) : QRow E base W' v xs := by
  refine h.same fun g e => hg.block g (h.lt e).1 (fun e' => ?_)
  rcases hne with hn | hn
  · rw [hn] at e; cases e
  · exact hn (e.trans e')
theorem QRow.shape (h : QRow E base W v xs) : ∃ A c, v = .slice A xs.length c ∧ xs.length ≤ c ∧ c ≤ maxLen := by
  rcases h with ⟨rfl, rfl⟩ | ⟨g, off, c, cur, rfl, _, _, h1, h2, _⟩
  · exact ⟨none, 0, rfl, Nat.le_refl _, by simp [maxLen]⟩
  · exact ⟨_, c, rfl, h1, h2⟩
theorem QRow.slot (h : QRow E base W v xs) (hn : 0 < xs.length) : ∃ g off c, v = .slice (some ⟨g, off, none⟩) xs.length c ∧ xs.length ≤ c ∧ c ≤ maxLen ∧ (∀ i x, xs[i]? = some x → W.cell? ⟨g, off + i, none⟩ = some (.int .i64 x)) ∧ ∀ i, W.frozen? ⟨g, i, none⟩ = false := by
  rcases h with ⟨rfl, rfl⟩ | ⟨g, off, c, cur, rfl, _, hg, h1, h2, h3, h4⟩
  · simp at hn
  · exact ⟨g, off, c, rfl, h1, h2, fun i x hx => by simp [World.cell?, hg, h4 i x hx], fun i => by simp [World.frozen?, hg]⟩
theorem QRow.of_owns {n : Nat} (h : W.ownsRow base E 1 v n (xs.map (Value.int .i64))) : QRow E base W v xs := by
  have hn : xs.length = n := by have := h.1; simpa using this
  subst hn
  rcases h.2 with ⟨rfl, h0⟩ | ⟨g, cap, cur, rfl, hb, hg, h1, h2, h3, h4⟩
  · exact .inl ⟨rfl, List.eq_nil_of_length_eq_zero h0⟩
  · refine .inr ⟨g, 0, cap, cur, rfl, hb, hg, h1, h2, by omega, fun i x hx => ?_⟩
    have h5 : (cur.toList.take (xs.length * 1))[i]? = some (.int .i64 x) := by rw [h4]; simp [hx]
    rw [List.getElem?_take] at h5
    split at h5
    · rw [Nat.zero_add]; simpa using h5
    · cases h5
/-- The head goes. -/
theorem QRow.tail (h : QRow E base W v xs) {A : Option Addr} {c : Nat} (hv : v = .slice A xs.length c) (hn : 0 < xs.length) : QRow E base W (.slice (if c = 1 then A else A.map (·.add (1 * 1))) (xs.length - 1) (c - 1)) (xs.drop 1) := by
  rcases h with ⟨rfl, rfl⟩ | ⟨g, off, c', cur, rfl, hb, hg, h1, h2, h3, h4⟩
  · simp at hn
  · injection hv with e1 _ e3
    subst e1 e3
    have hadd : (⟨g, off, none⟩ : Addr).add 1 = ⟨g, off + 1, none⟩ := by unfold Addr.add; split <;> simp_all
    by_cases hc : c' = 1
    · rw [if_pos hc]
      have : xs.length = 1 := by omega
      refine .inr ⟨g, off, c' - 1, cur, by simp, hb, hg, by simp; omega, by omega, by omega, fun i x hx => ?_⟩
      rw [List.getElem?_drop] at hx
      have := (List.getElem?_eq_some_iff.1 hx).1
      omega
    · rw [if_neg hc]
      refine .inr ⟨g, off + 1, c' - 1, cur, by simp [hadd], hb, hg, by simp; omega, by omega, by omega, fun i x hx => ?_⟩
      rw [List.getElem?_drop] at hx
      have := h4 _ x hx
      rw [← this]
      congr 1
      omega
theorem add_off (g off k : Nat) : (⟨g, off, none⟩ : Addr).add k = ⟨g, off + k, none⟩ := by
  unfold Addr.add
  split <;> simp_all
theorem QRow.tail1 {g off c : Nat} (h : QRow E base W (.slice (some ⟨g, off, none⟩) xs.length c) xs) (hn : 0 < xs.length) (hc : c = 1) : QRow E base W (.slice (some ⟨g, off, none⟩) (xs.length - 1) (c - 1)) (xs.drop 1) := by
  have := h.tail rfl hn
  rwa [if_pos hc] at this
theorem QRow.tail2 {g off c : Nat} (h : QRow E base W (.slice (some ⟨g, off, none⟩) xs.length c) xs) (hn : 0 < xs.length) (hc : c ≠ 1) : QRow E base W (.slice (some ⟨g, off + 1, none⟩) (xs.length - 1) (c - 1)) (xs.drop 1) := by
  have := h.tail rfl hn
  rw [if_neg hc, Option.map_some, add_off] at this
  exact this
/-- The last one goes. -/
theorem QRow.init (h : QRow E base W v xs) {A : Option Addr} {c : Nat} (hv : v = .slice A xs.length c) (hn : 0 < xs.length) : QRow E base W (.slice (if c = 0 then A else A.map (·.add (0 * 1))) (xs.length - 1) c) (xs.take (xs.length - 1)) := by
  rcases h with ⟨rfl, rfl⟩ | ⟨g, off, c', cur, rfl, hb, hg, h1, h2, h3, h4⟩
  · simp at hn
  · injection hv with e1 _ e3
    subst e1 e3
    have hadd : (⟨g, off, none⟩ : Addr).add (0 * 1) = ⟨g, off, none⟩ := by unfold Addr.add; split <;> simp_all
    rw [if_neg (by omega)]
    refine .inr ⟨g, off, c', cur, by simp [hadd], hb, hg, by simp; omega, h2, h3, fun i x hx => ?_⟩
    rw [List.getElem?_take] at hx
    split at hx
    · exact h4 i x hx
    · cases hx
theorem QRow.init1 {g off c : Nat} (h : QRow E base W (.slice (some ⟨g, off, none⟩) xs.length c) xs) (hn : 0 < xs.length) : QRow E base W (.slice (some ⟨g, off, none⟩) (xs.length - 1) c) (xs.take (xs.length - 1)) := by
  have := h.init rfl hn
  obtain ⟨_, _, hv, hc, _⟩ := h.shape
  injection hv with _ _ e
  rw [if_neg (by omega), Option.map_some, add_off] at this
  exact this
end
theorem ownsRow_lower {w : World} {base base' e size n : Nat} {v : Value} {xs : List Value} (h : w.ownsRow base e size v n xs) (hb : base' ≤ base) : w.ownsRow base' e size v n xs :=
  ⟨h.1, h.2.imp id fun ⟨g, cap, cur, a, b, r⟩ => ⟨g, cap, cur, a, Nat.le_trans hb b, r⟩⟩
/-- 'append(v, x)', x in a cell anywhere. -/
theorem q_push_at {P : Program} {t ty : TypeId} {E base : Nat} {W : World} {v : Value} {xs : List Int} (ht : P.underlying t = some (.slice E)) (hinfo : (P.info? E).map (fun i => (i.zero, i.size, i.bytes)) = some (some (.int .i64 0), 1, 8))
    (h : QRow E base W v xs) (x : Int) (hn : xs.length ≤ 1000) (hbase : base ≤ W.heap.size) (b o c : Nat) (hx : W.cell? ⟨b, o, none⟩ = some (.int .i64 x)) :
    ∃ v' w', (Builtin.append_ #[t, t] ty #[v, .slice (some ⟨b, o, none⟩) 1 c]).run P W = .ok v' w' ∧ QRow E base w' v' (xs ++ [x]) ∧ W.grownBy w' v.ownBlock ∧
      (v'.ownBlock = v.ownBlock ∨ ∃ g, v'.ownBlock = some g ∧ W.heap.size ≤ g) := by
  obtain ⟨i, hi, hz, hs, hby⟩ := info_of hinfo
  have hnews : ∀ j u, [Value.int .i64 x][j]? = some u → W.cell? ((⟨b, o, none⟩ : Addr).add j) = some u := fun j u hu => by
    match j, hu with
    | 0, hu => simp at hu; subst hu; rw [add_off]; exact hx
  have h1 : ∀ u ∈ [Value.int .i64 x], u.oneCell' = true := by simp [Value.oneCell']
  rcases h with ⟨rfl, rfl⟩ | ⟨g, off, cc, cur, rfl, hb, hg, hc1, hc2, hc3, hc4⟩
  · obtain ⟨v', w', hrun, hown, hgr, -⟩ := run_append_own (P := P) W W.heap.size t ty E i (.int .i64 0) 1 8 ht hi hz hs hby rfl (by omega) (.slice none 0 0) 0 [] (World.ownsRow_nil _ _ _ _) ⟨b, o, none⟩ 1 c [.int .i64 x] rfl hnews h1 (by simp [maxLen]) (by omega) (by omega)
    refine ⟨v', w', hrun, QRow.of_owns (n := 1) (ownsRow_lower (by simpa using hown) (by omega)), hgr, ?_⟩
    rcases hown.2 with ⟨_, h0⟩ | ⟨g, cap, cur, rfl, hbg, _⟩
    · omega
    · exact .inr ⟨g, rfl, hbg⟩
  · by_cases hr : xs.length + 1 ≤ cc
    · have hrun := run_append_room_cells (P := P) W t ty E i ht hi g off xs.length cc ⟨b, o, none⟩ 1 c [.int .i64 x] (by rw [hs]; rfl) hnews h1 hr
        (fun j hj => by simp at hj; subst hj; rw [hs]; simp [World.cell?, hg, show off + xs.length < cur.size by omega])
        (fun j _ => by simp [World.frozen?, hg])
      rw [hs, Nat.mul_one] at hrun
      have hset : W.setCells g (off + xs.length) [.int .i64 x] = W.setCell ⟨g, off + xs.length, none⟩ (.int .i64 x) := by simp [World.setCells]
      rw [hset] at hrun
      refine ⟨_, _, hrun, .inr ⟨g, off, cc, cur.setIfInBounds (off + xs.length) (.int .i64 x), by simp, hb, ?_, by simp; omega, hc2, by simp; omega, fun k y hy => ?_⟩, ?_, .inl rfl⟩
      · simp [World.setCell, Array.getElem?_modify, hg]
      · by_cases e : k = xs.length
        · subst e
          rw [List.getElem?_append_right (Nat.le_refl _)] at hy
          simp at hy
          subst hy
          rw [Array.getElem?_setIfInBounds_self_of_lt (by omega)]
        · have hk : k < xs.length := by have := (List.getElem?_eq_some_iff.1 hy).1; simp at this; omega
          rw [List.getElem?_append_left hk] at hy
          rw [Array.getElem?_setIfInBounds_ne (by omega)]
          exact hc4 k y hy
      · exact ⟨rfl, rfl, rfl, (KeepsWalks.setCell _ _ _).size, fun k _ hk => Below.heap_setCell _ _ _ k (fun e => hk (by subst e; rfl))⟩
    · obtain ⟨v', w', hrun, hown, hgr⟩ := run_append_arg_grows (P := P) W t ty E i (.int .i64 0) 1 8 ht hi hz hs hby rfl (by omega) ⟨g, off, none⟩ xs.length cc (xs.map (Value.int .i64)) (by simp)
        (fun j u hu => by
          rw [List.getElem?_map] at hu
          obtain ⟨y, hy, rfl⟩ := Option.map_eq_some_iff.1 hu
          rw [add_off]
          simp [World.cell?, hg, hc4 j y hy])
        ⟨b, o, none⟩ 1 c [.int .i64 x] rfl hnews (by omega) (by simp only [maxLen]; omega) (by omega)
      refine ⟨v', w', hrun, QRow.of_owns (n := xs.length + 1) (by rw [List.map_append]; exact ownsRow_lower hown (by omega)), ⟨hgr.os, hgr.tape, hgr.output, hgr.size, fun k hk _ => hgr.block k hk (by simp)⟩, ?_⟩
      rcases hown.2 with ⟨_, h0⟩ | ⟨g', cap, cur', rfl, hbg, _⟩
      · omega
      · exact .inr ⟨g', rfl, hbg⟩
/-- 'append(v, x)'. -/
theorem q_push {P : Program} {t ty : TypeId} {E base : Nat} {W : World} {v : Value} {xs : List Int} (ht : P.underlying t = some (.slice E)) (hinfo : (P.info? E).map (fun i => (i.zero, i.size, i.bytes)) = some (some (.int .i64 0), 1, 8))
    (h : QRow E base W v xs) (x : Int) (hn : xs.length ≤ 1000) (hbase : base ≤ W.heap.size) :
    ∃ v' w', (Builtin.append_ #[t, t] ty #[v, .slice (some ⟨W.heap.size, 0, none⟩) 1 1]).run P (W.alloc (.cells #[.int .i64 x] E)) = .ok v' w' ∧ QRow E base w' v' (xs ++ [x]) ∧ (W.alloc (.cells #[.int .i64 x] E)).grownBy w' v.ownBlock ∧
      (v'.ownBlock = v.ownBlock ∨ ∃ g, v'.ownBlock = some g ∧ W.heap.size < g) := by
  obtain ⟨v', w', h1, h2, h3, h4⟩ := q_push_at (P := P) (ty := ty) ht hinfo (h.ext ((Ext.refl W).alloc (.cells #[.int .i64 x] E))) x hn (by simp; omega) W.heap.size 0 1 (by rw [cell_of_row _ _ _ _ E (0, 0) (heap_alloc_new W _)]; rfl)
  exact ⟨v', w', h1, h2, h3, h4.imp id fun ⟨g, e, hg⟩ => ⟨g, e, by simp at hg; omega⟩⟩
end Go.Proofs.YtackknkfcbnklaaDoor
