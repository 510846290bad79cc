/- The draws of shared sets. -/
import Derived.Test.YtiggckhlbklngaaDoorSharedT
import Derived.Test.YtiggckhlbklngaaDoorPick
import Derived.Test.YtiggckhlbklngaaDoorTypedDraw
namespace Go.Proofs.YtiggckhlbklngaaDoor
open Go.RowKit
set_option maxRecDepth 8000

theorem okS_len {xs : List Int} (h : okS xs) : xs.length ≤ 31 := by rw [← memb_setL h]; exact memb31_len _
theorem putSh_len (i o : List Int) (n : Int) : (putSh i o n).1.length ≤ 31 ∧ (putSh i o n).2.length ≤ 31 := by
  unfold putSh
  split
  · rename_i h
    obtain ⟨oki, oko, -⟩ := okSh_true.1 h.1
    exact ⟨okS_len (okS_put oki (inB_true.1 h.2)), okS_len oko⟩
  · simp
theorem takeSh_len (i o : List Int) (n : Int) : (takeSh i o n).1.length ≤ 31 ∧ (takeSh i o n).2.length ≤ 31 := by
  unfold takeSh
  split
  · rename_i h
    obtain ⟨oki, oko, -⟩ := okSh_true.1 h
    refine ⟨okS_len oki, ?_⟩
    simp only
    split
    · rename_i hin
      exact okS_len (okS_put oko (oki.1 n hin))
    · exact okS_len oko
  · simp
theorem Val0.exS {S : Nat → Prop} {lo : Nat} {w w' : World} {v : Value} {xs : List Int} (h : Val0 lo w v xs) (hx : ExS S w w') (hS : ∀ k, S k → k < lo) : Val0 lo w' v xs := by
  refine ⟨?_, ?_, h.2.2⟩
  · obtain ⟨A, c, hA, hs⟩ := h.1
    refine ⟨A, c, hA, fun hn => ?_⟩
    obtain ⟨b, off, hb, hlt, hc⟩ := hs hn
    refine ⟨b, off, hb, Nat.lt_of_lt_of_le hlt hx.size, fun i x hi => hx.cell (hc i x hi) fun e => ?_⟩
    have h1 := hS _ e
    subst hb
    have h2 := (h.2.1 _ _ _ hA hn).1
    simp only at h1 h2
    omega
  · intro a n c hv hn
    obtain ⟨h1, h2, h3⟩ := h.2.1 a n c hv hn
    refine ⟨h1, Nat.lt_of_lt_of_le h2 hx.size, fun i => ?_⟩
    rw [← h3 i]
    exact World.frozen?_of_block (a := ⟨a.block, i, none⟩) (hx.block a.block h2 (fun e => by have := hS _ e; omega))
/-- Two lists of the call's own, not long. -/
def Good2 (lo : Nat) (V : World) (u : Value) : Prop := ∃ p q i o, u = .agg #[p, q] ∧ Val0 lo V p i ∧ Val0 lo V q o ∧ i.length ≤ 31 ∧ o.length ≤ 31
theorem Good2.exS {S : Nat → Prop} {lo : Nat} {V V' : World} {u : Value} (h : Good2 lo V u) (hx : ExS S V V') (hS : ∀ k, S k → k < lo) : Good2 lo V' u := by
  obtain ⟨p, q, i, o, rfl, h1, h2, h3, h4⟩ := h
  exact ⟨p, q, i, o, rfl, h1.exS hx hS, h2.exS hx hS, h3, h4⟩
theorem Good2.ex {lo rb : Nat} {V V' : World} {u : Value} (h : Good2 lo V u) (hx : Ex rb V V') (hr : rb < lo) : Good2 lo V' u := by
  obtain ⟨p, q, i, o, rfl, h1, h2, h3, h4⟩ := h
  exact ⟨p, q, i, o, rfl, h1.ex hx hr, h2.ex hx hr, h3, h4⟩
theorem Good2.low {lo lo' : Nat} {V : World} {u : Value} (h : Good2 lo V u) (hl : lo' ≤ lo) : Good2 lo' V u := by
  obtain ⟨p, q, i, o, rfl, h1, h2, h3, h4⟩ := h
  exact ⟨p, q, i, o, rfl, h1.low hl, h2.low hl, h3, h4⟩
/-- A box of such lists. -/
def GBox (g : Nat) (V : World) : Prop := BlkN V g 2 ∧ ∃ p q i o, V.cell? ⟨g, 0, none⟩ = some p ∧ V.cell? ⟨g, 1, none⟩ = some q ∧ Val0 (g + 1) V p i ∧ Val0 (g + 1) V q o ∧ i.length ≤ 31 ∧ o.length ≤ 31
theorem BlkN.ex {rb g n : Nat} {V V' : World} (h : BlkN V g n) (hx : Ex rb V V') (hne : g ≠ rb) : BlkN V' g n := by
  have hl := h.lt
  obtain ⟨cs, t, h, hs⟩ := h
  exact ⟨cs, t, (World.grownBy.block hx g hl (fun e => hne (by injection e))).trans h, hs⟩
theorem GBox.ex {rb g : Nat} {V V' : World} (h : GBox g V) (hx : Ex rb V V') (hr : rb < g) : GBox g V' := by
  obtain ⟨hb, p, q, i, o, h1, h2, h3, h4, h5⟩ := h
  exact ⟨hb.ex hx (by omega), p, q, i, o, hx.cell h1 (by simp; omega), hx.cell h2 (by simp; omega), h3.ex hx (by omega), h4.ex hx (by omega), h5⟩
theorem GBox.ext {g : Nat} {V V' : World} (h : GBox g V) (hb : Ext V V') : GBox g V' := by
  obtain ⟨hk, p, q, i, o, h1, h2, h3, h4, h5⟩ := h
  exact ⟨hk.ext hb, p, q, i, o, hb.cell h1, hb.cell h2, h3.ext hb, h4.ext hb, h5⟩
theorem GBox.put {g : Nat} {V : World} {p q : Value} {i o : List Int} (h : BlkN V g 2) (h1 : Val0 (g + 1) V p i) (h2 : Val0 (g + 1) V q o) (h3 : i.length ≤ 31) (h4 : o.length ≤ 31) : GBox g ((V.setCell ⟨g, 0, none⟩ p).setCell ⟨g, 1, none⟩ q) := by
  obtain ⟨p', q', a1, a2, a3, a4⟩ := Boxed2.put h h1 h2
  exact ⟨(h.set _ _).set _ _, p', q', i, o, a1, a2, a3, a4, h3, h4⟩
/-- The world inside the loops. -/
def LR (B rb m g : Nat) (w V : World) : Prop := Ex rb w V ∧ RdB B V rb m ∧ GBox g V ∧ BlkN V w.heap.size 2
section
variable {B rb m g : Nat} {w V V' : World}
theorem LR.mono {m' : Nat} (h : LR B rb m g w V) (hm : m ≤ m') : LR B rb m' g w V := ⟨h.1, h.2.1.mono hm, h.2.2⟩
theorem LR.ext (h : LR B rb m g w V) (hb : Ext V V') : LR B rb m g w V' := ⟨h.1.ext hb, h.2.1.ext hb, h.2.2.1.ext hb, h.2.2.2.ext hb⟩
theorem LR.pick {m' : Nat} (h : LR B rb m (w.heap.size + 3) w V) (hrl : rb < w.heap.size) (hr : RdB B V' rb m') (hx : Ex rb V V') : LR B rb m' (w.heap.size + 3) w V' :=
  ⟨h.1.trans hx, hr, h.2.2.1.ex hx (by omega), h.2.2.2.ex hx (by omega)⟩
theorem LR.store {p q : Value} {i o : List Int} (h : LR B rb m (w.heap.size + 3) w V) (hrl : rb < w.heap.size) (hB : B ≤ rb) (h1 : Val0 (w.heap.size + 4) V p i) (h2 : Val0 (w.heap.size + 4) V q o) (h3 : i.length ≤ 31) (h4 : o.length ≤ 31) :
    LR B rb m (w.heap.size + 3) w ((V.setCell ⟨w.heap.size + 3, 0, none⟩ p).setCell ⟨w.heap.size + 3, 1, none⟩ q) := by
  have hg : V.grownBy ((V.setCell ⟨w.heap.size + 3, 0, none⟩ p).setCell ⟨w.heap.size + 3, 1, none⟩ q) (some (w.heap.size + 3)) := ((Ex.refl (w.heap.size + 3) V).setCell 0 p).setCell 1 q
  exact ⟨h.1.grown hg (fun k hk => by injection hk with hk; omega), h.2.1.grown hg (fun k hk => by injection hk with hk; omega), GBox.put h.2.2.1.1 h1 h2 h3 h4, (h.2.2.2.set _ _).set _ _⟩
end
/-- What came out of a question: yes or no. -/
def AskedB (B rb m : Nat) (w : World) (e : Ending) (w' : World) : Prop := ∃ k : Bool, e = .returned (.bool k) ∧ RdB B w' rb (m + 1) ∧ Ex rb w w'
/-- A shared set was drawn. -/
def DrawnSh (B rb m : Nat) (w : World) (e : Ending) (w' : World) : Prop := ∃ u, e = .returned u ∧ Good2 w.heap.size w' u ∧ RdB B w' rb m ∧ Ex rb w w'
theorem lr_done {B rb m g m' : Nat} {w V : World} {p q : Value} {i o : List Int} (h : LR B rb m g w V) (hrl : rb < w.heap.size) (hB : B ≤ rb) (hm : m ≤ m') (h1 : Val0 (w.heap.size + 1) V p i) (h2 : Val0 (w.heap.size + 1) V q o) (h3 : i.length ≤ 31) (h4 : o.length ≤ 31) :
    DrawnSh B rb m' w (.returned (.agg #[p, q])) ((V.setCell ⟨w.heap.size, 0, none⟩ p).setCell ⟨w.heap.size, 1, none⟩ q) := by
  have hg : V.grownBy ((V.setCell ⟨w.heap.size, 0, none⟩ p).setCell ⟨w.heap.size, 1, none⟩ q) (some w.heap.size) := ((Ex.refl w.heap.size V).setCell 0 p).setCell 1 q
  exact ⟨_, rfl, ⟨p, q, i, o, rfl, (h1.ex hg (by omega)).low (by omega), (h2.ex hg (by omega)).low (by omega), h3, h4⟩, (h.2.1.grown hg (fun k hk => by injection hk with hk; omega)).mono hm, h.1.grown hg (fun k hk => by injection hk with hk; omega)⟩
theorem Val0.lit {lo : Nat} (w : World) (cs : Array Value) (xs : List Int) (T : TypeId) (hcs : cs.toList = xs.map (Value.int .i64)) (hn : cs.size = xs.length) (hl : lo ≤ w.heap.size) (hx : xs.length ≤ 100) : Val0 lo (w.alloc (.cells cs T)) (.slice (some ⟨w.heap.size, 0, none⟩) xs.length xs.length) xs := by
  have hb : BlkN (w.alloc (.cells cs T)) w.heap.size cs.size := BlkN.made w cs T
  refine ⟨⟨_, _, rfl, fun h0 => ⟨w.heap.size, 0, rfl, hb.lt, fun i x hi => ?_⟩⟩, hb.own hl _ _ _, fun A n c h => by injection h with _ h2 h3; omega⟩
  rw [Nat.zero_add, cell_of_row _ _ _ _ T (0, 0) (heap_alloc_new w _), ← Array.getElem?_toList, hcs, List.getElem?_map, hi]
  rfl
theorem cell_made (w : World) (cs : Array Value) (T : TypeId) (k : Nat) {v : Value} (h : cs[k]? = some v) : (w.alloc (.cells cs T)).cell? ⟨w.heap.size, k, none⟩ = some v := by
  rw [cell_of_row _ _ _ _ T (0, 0) (heap_alloc_new w _)]
  exact h
set_option maxHeartbeats 400000 in
theorem odd_b (B rb m : Nat) (n : Int) (w : World) (h : RdB B w rb m) (hm : m ≤ 1000000) (h2 : n ≤ 1000000) :
    Calls Tryd.prog 33 #[.pointer (some ⟨rb, 0, none⟩), .int .i64 n] w (AskedB B rb m w) := by
  by_cases h1 : 1 ≤ n
  · have g1 : decide (0 < n) = true := by simp; omega
    go_enter Tryd.func33, Tryd.ntmps33
    go_wp2_with fail
    refine (pick_b B rb m n _ h hm h1 h2).mono ?_
    rintro e w1 ⟨k, rfl, k0, k1, r1, x1⟩
    go_wp2
    go_returns
    exact ⟨_, rfl, r1, x1⟩
  · have g1 : decide (0 < n) = false := by simp; omega
    go_enter Tryd.func33, Tryd.ntmps33
    go_wp2
    go_returns
    exact ⟨false, rfl, h.mono (by omega), Ex.refl _ _⟩
set_option maxHeartbeats 8000000 in
theorem l20Shared_any (B rb m : Nat) (n : Int) (w : World) (h : RdB B w rb m) (hBr : B ≤ rb) (hm : m ≤ 500000) (h2 : n ≤ 1000000) :
    Calls Tryd.prog 74 #[.pointer (some ⟨rb, 0, none⟩), .int .i64 n] w (DrawnSh B rb (m + 200) w) := by
  have hrl := h.lt
  have H := Lib.hid h
  have hSl : ∀ k, (fun k => k = rb ∨ k = w.heap.size + 3) k → k < w.heap.size + 4 := fun k hk => by rcases hk with rfl | rfl <;> omega
  have HSl := Lib.hid hSl
  clear h hSl
  go_enter Tryd.func74, Tryd.ntmps74
  have hz : ∀ (A : Option Addr) (lo : Nat) (V : World), Val0 lo V (.slice A 0 0) [] := fun A lo V => ⟨Sl1.nil _ _ _ _, Own.nil _ _ _ _, fun A n c h => by injection h with _ h2 h3; omega⟩
  have hlr0 : ∀ r, RdB B w rb r → LR B rb r (w.heap.size + 3) w ((((w.alloc (.cells #[.slice none 0 0, .slice none 0 0] 40)).alloc (.cells #[] 3)).alloc (.cells #[] 3)).alloc (.cells #[.slice (some ⟨w.heap.size + 1, 0, none⟩) 0 0, .slice (some ⟨w.heap.size + 1 + 1, 0, none⟩) 0 0] 40)) := fun r hr => by
    refine ⟨((((Ex.refl rb w).alloc _).alloc _).alloc _).alloc _, (((hr.alloc _).alloc _).alloc _).alloc _, ⟨?_, .slice (some ⟨w.heap.size + 1, 0, none⟩) 0 0, .slice (some ⟨w.heap.size + 1 + 1, 0, none⟩) 0 0, [], [], by go_cell, by go_cell, hz _ _ _, hz _ _ _, by simp, by simp⟩, ?_⟩
    · have := BlkN.made (((w.alloc (.cells #[.slice none 0 0, .slice none 0 0] 40)).alloc (.cells #[] 3)).alloc (.cells #[] 3)) #[.slice (some ⟨w.heap.size + 1, 0, none⟩) 0 0, .slice (some ⟨w.heap.size + 1 + 1, 0, none⟩) 0 0] 40
      simpa using this
    · exact (BlkN.made w #[.slice none 0 0, .slice none 0 0] 40).ext ((((Ext.refl _).alloc _).alloc _).alloc _)
  have HLR0 := Lib.hid (hlr0 m H.out)
  clear hz hlr0 H
  have e3 : w.heap.size + 1 + 1 + 1 = w.heap.size + 3 := rfl
  go_wp2_with fail
  try simp only [e3]
  refine (pick_b B rb m 7 _ HLR0.out.2.1 (by omega) (by omega) (by omega)).mono ?_
  rintro e w1 ⟨k, rfl, k0, k1, r1, x1⟩
  obtain ⟨K, rfl⟩ := Int.eq_ofNat_of_zero_le k0
  have HLR1 := Lib.hid (HLR0.out.pick hrl r1 x1)
  clear r1 x1 HLR0
  go_wp2
  go_loopw [6] (fun k wr => ∃ q : Nat, q ≤ 6 ∧ k = .int .i64 (q : Int) ∧ Hid (LR B rb (m + 50 - 8 * q) (w.heap.size + 3) w wr)) (fun k _ => (intOf k).toNat)
  case atStart => exact ⟨K, by omega, rfl, HLR1.out.mono (by omega)⟩
  case round =>
    clear HLR1
    obtain ⟨q, hq, rfl, HA⟩ := hrel
    by_cases hq0 : 0 < q
    · obtain ⟨M, hM⟩ : ∃ M, m + 50 - 8 * q = M := ⟨_, rfl⟩
      rw [hM] at HA
      have hSl := HSl.out
      go_wp2_with fail
      refine wp_region_typed [17, 18, 19, 20] (by kernel_rfl) (by kernel_rfl) (by kernel_rfl)
        (fun n V => LR B rb (M + n) (w.heap.size + 3) w V)
        (fun j u V => match j with
          | 0 => Good2 (w.heap.size + 4) V u
          | 1 => u = .pointer (some ⟨rb, 0, none⟩)
          | 2 => ∃ k : Int, u = .int .i64 k
          | 3 => Good2 (w.heap.size + 4) V u
          | _ => True)
        (fun V V' => ExS (fun k => k = rb ∨ k = w.heap.size + 3) V V')
        (HA.out.ext (Ext.refl _).drew) ?_ ?_ ?_
      · intro j u V V' hS hT'
        match j, hT' with
        | 0, hT' => exact Good2.exS hT' hS hSl
        | 1, hT' => exact hT'
        | 2, hT' => exact hT'
        | 3, hT' => exact Good2.exS hT' hS hSl
        | _ + 4, hT' => exact hT'
      · intro j op ho a n' V hn hR hrest hdeps
        have hn' : n' < 5 := hn
        match j, ho with
        | 0, ho =>
          obtain rfl := Option.some.inj ho
          have e1 : a.tmps.getD 5 undef = .pointer (some ⟨w.heap.size + 3, 0, none⟩) := hrest 5 (by decide)
          obtain ⟨hbl, p, q, i, o, hc0, hc1, hv1, hv2, hl1, hl2⟩ := hR.2.2.1
          obtain ⟨A1, c1, rfl⟩ := hv1.shape
          obtain ⟨A2, c2, rfl⟩ := hv2.shape
          simp only [Array.getD_eq_getD_getElem?] at e1
          exact y_val (v := .agg #[.slice A1 i.length c1, .slice A2 o.length c2]) (by go_simp) ⟨fun _ => ⟨_, _, i, o, rfl, hv1, hv2, hl1, hl2⟩, (fun h => by cases h), hR.mono (by omega), ExS.refl _ _⟩
        | 1, ho =>
          obtain rfl := Option.some.inj ho
          exact y_move rfl ⟨fun _ => hrest 0 (by decide), (fun h => by cases h), hR.mono (by omega), ExS.refl _ _⟩
        | 2, ho =>
          obtain rfl := Option.some.inj ho
          have e1 : a.tmps.getD 18 undef = .pointer (some ⟨rb, 0, none⟩) := hdeps 1 _ 18 ⟨{ on := 1, ground := .data }, by simp, rfl, rfl⟩ rfl rfl
          refine y_call (args := #[.pointer (some ⟨rb, 0, none⟩), .int .i64 8]) rfl (fun _ _ => by kernel_rfl) (by simp [Act.eval, e1]) ?_
          exact (pick_b B rb _ 8 _ hR.2.1 (by omega) (by omega) (by omega)).mono fun e w2 ⟨k, he, k0, k1, r2, x2⟩ => ⟨_, he, fun _ => ⟨k, rfl⟩, (fun h => by cases h), hR.pick hrl r2 x2, ExS.of_ex x2 (.inl rfl)⟩
        | 3, ho =>
          obtain rfl := Option.some.inj ho
          obtain ⟨p, q, i, o, e1, hv1, hv2, hl1, hl2⟩ := hdeps 0 _ 17 ⟨{ on := 0, ground := .data }, by simp, rfl, rfl⟩ rfl rfl
          obtain ⟨k, e2⟩ := hdeps 2 _ 19 ⟨{ on := 2, ground := .data }, by simp, rfl, rfl⟩ rfl rfl
          refine y_call (args := #[.agg #[p, q], .int .i64 k]) rfl (fun _ _ => by kernel_rfl) (by simp [Act.eval, e1, e2]) ?_
          refine (spec_PutShared k V hv1.1 hv2.1 (by omega) (by omega)).mono ?_
          rintro e V' ⟨p', q', rfl, h1, h2, hb⟩
          have hlo : w.heap.size + 4 ≤ V.heap.size := hR.2.2.1.1.lt
          have hlen := putSh_len i o k
          exact ⟨_, rfl, fun _ => ⟨p', q', _, _, rfl, h1.low hlo, h2.low hlo, hlen.1, hlen.2⟩, (fun h => by cases h), (hR.ext hb).mono (by omega), ExS.of_ex (Ex.of_ext (rb := rb) hb) (.inl rfl)⟩
        | 4, ho =>
          obtain rfl := Option.some.inj ho
          have e1 : a.tmps.getD 5 undef = .pointer (some ⟨w.heap.size + 3, 0, none⟩) := hrest 5 (by decide)
          obtain ⟨p, q, i, o, e2, hv1, hv2, hl1, hl2⟩ := hdeps 3 _ 20 ⟨{ on := 3, ground := .data }, by simp, rfl, rfl⟩ rfl rfl
          obtain ⟨A1, c1, rfl⟩ := hv1.shape
          obtain ⟨A2, c2, rfl⟩ := hv2.shape
          obtain ⟨f0, f1, ⟨d0, hd0⟩, ⟨d1, hd1⟩, -, -⟩ := box_facts hR.2.2.1.1 (.slice A1 i.length c1) (.slice A2 o.length c2)
          have hst := hR.store hrl (by omega) hv1 hv2 hl1 hl2
          refine y_skip (w' := (V.setCell ⟨w.heap.size + 3, 0, none⟩ (.slice A1 i.length c1)).setCell ⟨w.heap.size + 3, 1, none⟩ (.slice A2 o.length c2)) ?_ ⟨(fun h => by cases h), fun _ => trivial, hst.mono (by omega), ExS.of_ex (((Ex.refl _ _).setCell _ _).setCell _ _) (.inr rfl)⟩
          simp only [execOp, Act.eval, e1, e2]
          go_simp
        | _ + 5, ho => cases ho
      · intro a V hR hsz hdf hrest htyp hbare
        obtain ⟨x0, e0⟩ : ∃ x, a.tmps.getD 17 undef = x := ⟨_, rfl⟩
        obtain ⟨x1, e1⟩ : ∃ x, a.tmps.getD 18 undef = x := ⟨_, rfl⟩
        obtain ⟨x2, e2⟩ : ∃ x, a.tmps.getD 19 undef = x := ⟨_, rfl⟩
        obtain ⟨x3, e3⟩ : ∃ x, a.tmps.getD 20 undef = x := ⟨_, rfl⟩
        have ha := act_puts hsz hdf hrest [(17, x0), (18, x1), (19, x2), (20, x3)] rfl ⟨by decide, fun d hd => (by decide : ∀ d ∈ ([17, 18, 19, 20] : List Nat), d < 50) d hd⟩ (by simp only [List.forall_mem_cons]; exact ⟨e0, e1, e2, e3, fun _ h => by cases h⟩)
        clear hsz hdf hrest htyp hbare e0 e1 e2 e3
        subst ha
        simp only [List.foldl_cons, List.foldl_nil, Act.put, List.setIfInBounds_toArray, List.set_cons_zero, List.set_cons_succ]
        have HR : Hid (LR B rb (M + 5) (w.heap.size + 3) w V) := hR
        clear hR HA
        go_wp2
        go_roundw
        case rel => exact ⟨q - 1, by omega, by go_num, HR.out.mono (by omega)⟩
        case measure => simp [intOf]; omega
    · obtain rfl : q = 0 := by omega
      go_wp2_with fail
      refine (pick_b B rb _ 3 _ HA.out.2.1 (by omega) (by omega) (by omega)).mono ?_
      rintro e w1 ⟨k, rfl, k0, k1, r1, x1⟩
      obtain ⟨K2, rfl⟩ := Int.eq_ofNat_of_zero_le k0
      have HLR2 := Lib.hid (HA.out.pick hrl r1 x1)
      clear r1 x1 HA
      go_wp2
      go_loopw [7] (fun k wr => ∃ q : Nat, q ≤ 2 ∧ k = .int .i64 (q : Int) ∧ Hid (LR B rb (m + 100 - 8 * q) (w.heap.size + 3) w wr)) (fun k _ => (intOf k).toNat)
      case atStart => exact ⟨K2, by omega, rfl, HLR2.out.mono (by omega)⟩
      case round =>
        clear HLR2
        obtain ⟨q, hq, rfl, HA⟩ := hrel
        by_cases hq0 : 0 < q
        · obtain ⟨M, hM⟩ : ∃ M, m + 100 - 8 * q = M := ⟨_, rfl⟩
          rw [hM] at HA
          have hSl := HSl.out
          go_wp2_with fail
          refine wp_region_typed [27, 28, 29, 30] (by kernel_rfl) (by kernel_rfl) (by kernel_rfl)
            (fun n V => LR B rb (M + n) (w.heap.size + 3) w V)
            (fun j u V => match j with
              | 0 => Good2 (w.heap.size + 4) V u
              | 1 => u = .pointer (some ⟨rb, 0, none⟩)
              | 2 => ∃ k : Int, u = .int .i64 k
              | 3 => Good2 (w.heap.size + 4) V u
              | _ => True)
            (fun V V' => ExS (fun k => k = rb ∨ k = w.heap.size + 3) V V')
            (HA.out.ext (Ext.refl _).drew) ?_ ?_ ?_
          · intro j u V V' hS hT'
            match j, hT' with
            | 0, hT' => exact Good2.exS hT' hS hSl
            | 1, hT' => exact hT'
            | 2, hT' => exact hT'
            | 3, hT' => exact Good2.exS hT' hS hSl
            | _ + 4, hT' => exact hT'
          · intro j op ho a n' V hn hR hrest hdeps
            have hn' : n' < 5 := hn
            match j, ho with
            | 0, ho =>
              obtain rfl := Option.some.inj ho
              have e1 : a.tmps.getD 5 undef = .pointer (some ⟨w.heap.size + 3, 0, none⟩) := hrest 5 (by decide)
              obtain ⟨hbl, p, q, i, o, hc0, hc1, hv1, hv2, hl1, hl2⟩ := hR.2.2.1
              obtain ⟨A1, c1, rfl⟩ := hv1.shape
              obtain ⟨A2, c2, rfl⟩ := hv2.shape
              simp only [Array.getD_eq_getD_getElem?] at e1
              exact y_val (v := .agg #[.slice A1 i.length c1, .slice A2 o.length c2]) (by go_simp) ⟨fun _ => ⟨_, _, i, o, rfl, hv1, hv2, hl1, hl2⟩, (fun h => by cases h), hR.mono (by omega), ExS.refl _ _⟩
            | 1, ho =>
              obtain rfl := Option.some.inj ho
              exact y_move rfl ⟨fun _ => hrest 0 (by decide), (fun h => by cases h), hR.mono (by omega), ExS.refl _ _⟩
            | 2, ho =>
              obtain rfl := Option.some.inj ho
              have e1 : a.tmps.getD 28 undef = .pointer (some ⟨rb, 0, none⟩) := hdeps 1 _ 28 ⟨{ on := 1, ground := .data }, by simp, rfl, rfl⟩ rfl rfl
              refine y_call (args := #[.pointer (some ⟨rb, 0, none⟩), .int .i64 8]) rfl (fun _ _ => by kernel_rfl) (by simp [Act.eval, e1]) ?_
              exact (pick_b B rb _ 8 _ hR.2.1 (by omega) (by omega) (by omega)).mono fun e w2 ⟨k, he, k0, k1, r2, x2⟩ => ⟨_, he, fun _ => ⟨k, rfl⟩, (fun h => by cases h), hR.pick hrl r2 x2, ExS.of_ex x2 (.inl rfl)⟩
            | 3, ho =>
              obtain rfl := Option.some.inj ho
              obtain ⟨p, q, i, o, e1, hv1, hv2, hl1, hl2⟩ := hdeps 0 _ 27 ⟨{ on := 0, ground := .data }, by simp, rfl, rfl⟩ rfl rfl
              obtain ⟨k, e2⟩ := hdeps 2 _ 29 ⟨{ on := 2, ground := .data }, by simp, rfl, rfl⟩ rfl rfl
              refine y_call (args := #[.agg #[p, q], .int .i64 k]) rfl (fun _ _ => by kernel_rfl) (by simp [Act.eval, e1, e2]) ?_
              refine (spec_TakeShared k V hv1.1 hv2.1 (by omega) (by omega)).mono ?_
              rintro e V' ⟨p', q', rfl, h1, h2, hb⟩
              have hlo : w.heap.size + 4 ≤ V.heap.size := hR.2.2.1.1.lt
              have hlen := takeSh_len i o k
              exact ⟨_, rfl, fun _ => ⟨p', q', _, _, rfl, h1.low hlo, h2.low hlo, hlen.1, hlen.2⟩, (fun h => by cases h), (hR.ext hb).mono (by omega), ExS.of_ex (Ex.of_ext (rb := rb) hb) (.inl rfl)⟩
            | 4, ho =>
              obtain rfl := Option.some.inj ho
              have e1 : a.tmps.getD 5 undef = .pointer (some ⟨w.heap.size + 3, 0, none⟩) := hrest 5 (by decide)
              obtain ⟨p, q, i, o, e2, hv1, hv2, hl1, hl2⟩ := hdeps 3 _ 30 ⟨{ on := 3, ground := .data }, by simp, rfl, rfl⟩ rfl rfl
              obtain ⟨A1, c1, rfl⟩ := hv1.shape
              obtain ⟨A2, c2, rfl⟩ := hv2.shape
              obtain ⟨f0, f1, ⟨d0, hd0⟩, ⟨d1, hd1⟩, -, -⟩ := box_facts hR.2.2.1.1 (.slice A1 i.length c1) (.slice A2 o.length c2)
              have hst := hR.store hrl (by omega) hv1 hv2 hl1 hl2
              refine y_skip (w' := (V.setCell ⟨w.heap.size + 3, 0, none⟩ (.slice A1 i.length c1)).setCell ⟨w.heap.size + 3, 1, none⟩ (.slice A2 o.length c2)) ?_ ⟨(fun h => by cases h), fun _ => trivial, hst.mono (by omega), ExS.of_ex (((Ex.refl _ _).setCell _ _).setCell _ _) (.inr rfl)⟩
              simp only [execOp, Act.eval, e1, e2]
              go_simp
            | _ + 5, ho => cases ho
          · intro a V hR hsz hdf hrest htyp hbare
            obtain ⟨x0, e0⟩ : ∃ x, a.tmps.getD 27 undef = x := ⟨_, rfl⟩
            obtain ⟨x1, e1⟩ : ∃ x, a.tmps.getD 28 undef = x := ⟨_, rfl⟩
            obtain ⟨x2, e2⟩ : ∃ x, a.tmps.getD 29 undef = x := ⟨_, rfl⟩
            obtain ⟨x3, e3⟩ : ∃ x, a.tmps.getD 30 undef = x := ⟨_, rfl⟩
            have ha := act_puts hsz hdf hrest [(27, x0), (28, x1), (29, x2), (30, x3)] rfl ⟨by decide, fun d hd => (by decide : ∀ d ∈ ([27, 28, 29, 30] : List Nat), d < 50) d hd⟩ (by simp only [List.forall_mem_cons]; exact ⟨e0, e1, e2, e3, fun _ h => by cases h⟩)
            clear hsz hdf hrest htyp hbare e0 e1 e2 e3
            subst ha
            simp only [List.foldl_cons, List.foldl_nil, Act.put, List.setIfInBounds_toArray, List.set_cons_zero, List.set_cons_succ]
            have HR : Hid (LR B rb (M + 5) (w.heap.size + 3) w V) := hR
            clear hR HA
            go_wp2
            go_roundw
            case rel => exact ⟨q - 1, by omega, by go_num, HR.out.mono (by omega)⟩
            case measure => simp [intOf]; omega
        · obtain rfl : q = 0 := by omega
          go_wp2_with fail
          refine (odd_b B rb _ n _ HA.out.2.1 (by omega) h2).mono ?_
          rintro e w5 ⟨ask, rfl, r5, x5⟩
          have HL5 := Lib.hid (HA.out.pick hrl r5 x5)
          clear HA r5 x5
          cases ask with
          | false =>
            obtain ⟨hbl, p, q', i, o, hc0, hc1, hv1, hv2, hl1, hl2⟩ := HL5.out.2.2.1
            obtain ⟨A1, c1, rfl⟩ := hv1.shape
            obtain ⟨A2, c2, rfl⟩ := hv2.shape
            obtain ⟨f0, f1, ⟨d0, hd0⟩, ⟨d1, hd1⟩, hs0, hs1⟩ := box_facts HL5.out.2.2.2 (.slice A1 i.length c1) (.slice A2 o.length c2)
            have HV1 := Lib.hid hv1
            have HV2 := Lib.hid hv2
            clear hbl hv1 hv2
            go_wp2
            refine bodyPost_ret (v := .agg #[.slice A1 i.length c1, .slice A2 o.length c2]) (by simp [results, Tryd.results74, go_sem, hs0, hs1]) rfl ?_
            exact lr_done (p := .slice A1 i.length c1) (q := .slice A2 o.length c2) HL5.out hrl hBr (by omega) (HV1.out.low (by omega)) (HV2.out.low (by omega)) hl1 hl2
          | true =>
            go_wp2_with fail
            obtain ⟨W0, hW0⟩ : ∃ W, w5.alloc (.cells #[.int .i64 1] 3) = W := ⟨_, rfl⟩
            obtain ⟨W1, hW1⟩ : ∃ W, W0.alloc (.cells #[.int .i64 2, .int .i64 1] 3) = W := ⟨_, rfl⟩
            obtain ⟨W2, hW2⟩ : ∃ W, W1.alloc (.cells #[.int .i64 31] 3) = W := ⟨_, rfl⟩
            obtain ⟨W3, hW3⟩ : ∃ W, W2.alloc (.cells #[.int .i64 1, .int .i64 1] 3) = W := ⟨_, rfl⟩
            obtain ⟨W4, hW4⟩ : ∃ W, W3.alloc (.cells #[.int .i64 (-1)] 3) = W := ⟨_, rfl⟩
            rw [hW0, hW1, hW2, hW3, hW4]
            have s0 : W0.heap.size = w5.heap.size + 1 := by rw [← hW0]; simp
            have s1 : W1.heap.size = w5.heap.size + 1 + 1 := by rw [← hW1, World.size_alloc, s0]
            have s2 : W2.heap.size = w5.heap.size + 1 + 1 + 1 := by rw [← hW2, World.size_alloc, s1]
            have s3 : W3.heap.size = w5.heap.size + 1 + 1 + 1 + 1 := by rw [← hW3, World.size_alloc, s2]
            have s4 : W4.heap.size = w5.heap.size + 1 + 1 + 1 + 1 + 1 := by rw [← hW4, World.size_alloc, s3]
            have x01 : Ext W0 W1 := by rw [← hW1]; exact (Ext.refl _).alloc _
            have x12 : Ext W1 W2 := by rw [← hW2]; exact (Ext.refl _).alloc _
            have x23 : Ext W2 W3 := by rw [← hW3]; exact (Ext.refl _).alloc _
            have x34 : Ext W3 W4 := by rw [← hW4]; exact (Ext.refl _).alloc _
            have x50 : Ext w5 W0 := by rw [← hW0]; exact (Ext.refl _).alloc _
            have hws : w.heap.size + 4 ≤ w5.heap.size := HL5.out.2.2.1.1.lt
            have v0 : Val0 (w.heap.size + 1) W0 (.slice (some ⟨w5.heap.size, 0, none⟩) 1 1) [1] := by rw [← hW0]; exact Val0.lit w5 _ [1] _ rfl rfl (by omega) (by simp)
            have v1 : Val0 (w.heap.size + 1) W1 (.slice (some ⟨w5.heap.size + 1, 0, none⟩) 2 2) [2, 1] := by rw [← hW1, ← s0]; exact Val0.lit W0 _ [2, 1] _ rfl rfl (by omega) (by simp)
            have v2 : Val0 (w.heap.size + 1) W2 (.slice (some ⟨w5.heap.size + 1 + 1, 0, none⟩) 1 1) [31] := by rw [← hW2, ← s1]; exact Val0.lit W1 _ [31] _ rfl rfl (by omega) (by simp)
            have v3 : Val0 (w.heap.size + 1) W3 (.slice (some ⟨w5.heap.size + 1 + 1 + 1, 0, none⟩) 2 2) [1, 1] := by rw [← hW3, ← s2]; exact Val0.lit W2 _ [1, 1] _ rfl rfl (by omega) (by simp)
            have v4 : Val0 (w.heap.size + 1) W4 (.slice (some ⟨w5.heap.size + 1 + 1 + 1 + 1, 0, none⟩) 1 1) [-1] := by rw [← hW4, ← s3]; exact Val0.lit W3 _ [-1] _ rfl rfl (by omega) (by simp)
            have y0 := v0.ext (((x01.trans x12).trans x23).trans x34)
            have y1 := v1.ext ((x12.trans x23).trans x34)
            have y2 := v2.ext (x23.trans x34)
            have y3 := v3.ext x34
            have hE4 : Ext w5 W4 := (((x50.trans x01).trans x12).trans x23).trans x34
            have HL4 := Lib.hid (HL5.out.ext hE4)
            have HY := Lib.hid (And.intro y0 (And.intro y1 (And.intro y2 (And.intro y3 v4))))
            have S4 := Lib.hid s4
            clear hW0 hW1 hW2 hW3 hW4 s0 s1 s2 s3 s4 x01 x12 x23 x34 x50 v0 v1 v2 v3 v4 y0 y1 y2 y3 hE4 HL5
            refine calls_world (fun W => Ext W4 W ∧ ∀ k, k < 5 → ∃ p q i o, W.cell? ⟨W4.heap.size, k * 2, none⟩ = some p ∧ W.cell? ⟨W4.heap.size, k * 2 + 1, none⟩ = some q ∧ Val0 (w.heap.size + 1) W p i ∧ Val0 (w.heap.size + 1) W q o ∧ i.length ≤ 31 ∧ o.length ≤ 31) ?_ ?_
            · refine ⟨(Ext.refl _).alloc _, fun k hk => ?_⟩
              have hz : ∀ V, Val0 (w.heap.size + 1) V (.slice none 0 0) [] := fun V => Val0.nil _ _
              have ha : ∀ cs, Ext W4 (W4.alloc (.cells cs 40)) := fun cs => (Ext.refl _).alloc _
              have hk' : k = 0 ∨ k = 1 ∨ k = 2 ∨ k = 3 ∨ k = 4 := by omega
              rcases hk' with rfl | rfl | rfl | rfl | rfl
              · exact ⟨_, _, [], [1], cell_made _ _ _ _ rfl, cell_made _ _ _ _ rfl, hz _, HY.out.1.ext (ha _), by simp, by simp⟩
              · exact ⟨_, _, [2, 1], [], cell_made _ _ _ _ rfl, cell_made _ _ _ _ rfl, HY.out.2.1.ext (ha _), hz _, by simp, by simp⟩
              · exact ⟨_, _, [31], [], cell_made _ _ _ _ rfl, cell_made _ _ _ _ rfl, HY.out.2.2.1.ext (ha _), hz _, by simp, by simp⟩
              · exact ⟨_, _, [1, 1], [], cell_made _ _ _ _ rfl, cell_made _ _ _ _ rfl, HY.out.2.2.2.1.ext (ha _), hz _, by simp, by simp⟩
              · exact ⟨_, _, [-1], [], cell_made _ _ _ _ rfl, cell_made _ _ _ _ rfl, HY.out.2.2.2.2.ext (ha _), hz _, by simp, by simp⟩
            · rintro W6 ⟨hE6, hc6⟩
              have HL6 := Lib.hid (HL4.out.ext hE6)
              refine (pick_b B rb _ 5 _ HL6.out.2.1 (by omega) (by omega) (by omega)).mono ?_
              rintro e w7 ⟨k5, rfl, k50, k51, r7, x7⟩
              obtain ⟨K5, rfl⟩ := Int.eq_ofNat_of_zero_le k50
              obtain ⟨p, q', i, o, hc0, hc1, hv1, hv2, hl1, hl2⟩ := hc6 K5 (by omega)
              have h4r : W4.heap.size ≠ rb := by have := HL4.out.2.1.lt; omega
              have hc0' := x7.cell hc0 h4r
              have hc1' := x7.cell hc1 h4r
              rw [S4.out] at hc0' hc1'
              have HL7 := Lib.hid (HL6.out.pick hrl r7 x7)
              obtain ⟨A1, c1, rfl⟩ := hv1.shape
              obtain ⟨A2, c2, rfl⟩ := hv2.shape
              obtain ⟨f0, f1, ⟨d0, hd0⟩, ⟨d1, hd1⟩, hs0, hs1⟩ := box_facts HL7.out.2.2.2 (.slice A1 i.length c1) (.slice A2 o.length c2)
              have HV1 := Lib.hid (hv1.ex x7 (by omega))
              have HV2 := Lib.hid (hv2.ex x7 (by omega))
              clear hc0 hc1 hc6 hv1 hv2 r7 x7 hE6 HL6 h4r
              go_wp2
              refine bodyPost_ret (v := .agg #[.slice A1 i.length c1, .slice A2 o.length c2]) (by simp [results, Tryd.results74, go_sem, hs0, hs1]) rfl ?_
              exact lr_done (p := .slice A1 i.length c1) (q := .slice A2 o.length c2) HL7.out hrl hBr (by omega) HV1.out HV2.out hl1 hl2
end Go.Proofs.YtiggckhlbklngaaDoor
