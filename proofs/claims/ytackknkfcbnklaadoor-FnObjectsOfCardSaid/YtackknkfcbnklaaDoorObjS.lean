/- Objects: ObjectRun of the reference. -/
import Derived.Test.YtackknkfcbnklaaDoorObjT
namespace Go.Proofs.YtackknkfcbnklaaDoor
open Go.RowKit
set_option maxRecDepth 8000

/-- Two lists of the call's own, in blocks of their own. -/
structure S2 (base : Nat) (W : World) (o u : Value) (out l : List Int) : Prop where
  a : QRow 3 base W o out
  b : QRow 3 base W u l
  ap : ∀ g, o.ownBlock = some g → u.ownBlock ≠ some g
theorem S2.symm {base : Nat} {W : World} {o u : Value} {out l : List Int} (h : S2 base W o u out l) : S2 base W u o l out := ⟨h.b, h.a, fun g h1 h2 => h.ap g h2 h1⟩
theorem S2.ext {base : Nat} {W W' : World} {o u : Value} {out l : List Int} (h : S2 base W o u out l) (hb : Ext W W') : S2 base W' o u out l := ⟨h.a.ext hb, h.b.ext hb, h.ap⟩
theorem S2.push {base : Nat} {W : World} {o u : Value} {out l : List Int} (h : S2 base W o u out l) (hn : out.length ≤ 1000) (hb : base ≤ W.heap.size) (x : Int) :
    ∃ o' w', (Builtin.append_ #[23, 23] 23 #[o, .slice (some ⟨W.heap.size, 0, none⟩) 1 1]).run Tryd.prog (W.alloc (.cells #[.int .i64 x] 3)) = .ok o' w' ∧ S2 base w' o' u (out ++ [x]) l ∧ (∀ a : World, a.heap.size ≤ base → Ext a W → Ext a w') := by
  obtain ⟨o', w', hrun, hq, hgr, hnb⟩ := q_push (P := Tryd.prog) (t := 23) (ty := 23) Tryd.underlying23 qinfo h.a x hn hb
  have hE : Ext W (W.alloc (.cells #[.int .i64 x] 3)) := (Ext.refl W).alloc _
  refine ⟨o', w', hrun, ⟨hq, (h.b.ext hE).kept hgr ?_, fun g hg e => ?_⟩, fun a ha he => ?_⟩
  · cases hv : u.ownBlock with
    | none => exact .inl rfl
    | some g => exact .inr fun e => h.ap g e.symm hv
  · rcases hnb with hnb | ⟨g', hnb, hg'⟩
    · exact h.ap g (by rw [← hnb]; exact hg) e
    · have := (h.b.lt e).1
      rw [hnb] at hg; injection hg with hg
      omega
  · exact Ext.grown (he.trans hE) hgr fun g hg => Nat.le_trans ha (h.a.lt hg).2.1
theorem QRow.empty0 (E : Nat) {base : Nat} (W : World) (hb : base ≤ W.heap.size) : QRow E base (W.alloc (.cells #[] E)) (.slice (some ⟨W.heap.size, 0, none⟩) 0 0) [] :=
  .inr ⟨W.heap.size, 0, 0, _, rfl, hb, World.alloc_heap_new W _, by simp, by simp [maxLen], by simp, fun i x hx => by simp at hx⟩
theorem QRow.of_row {base : Nat} {W : World} {v : Value} {xs : List Int} (h : Row 3 1 (one encI) base W v xs) : QRow 3 base W v xs := by
  refine QRow.of_owns (n := xs.length) ?_
  have he : xs.flatMap (cellsOf_ 1 (one encI)) = xs.map (Value.int .i64) := by
    induction xs with
    | nil => rfl
    | cons x xs ih => 
      rw [List.flatMap_cons, List.map_cons]
      have h1 : xs.flatMap (cellsOf_ 1 (one encI)) = xs.map (Value.int .i64) := by
        clear h ih
        induction xs with
        | nil => rfl
        | cons y ys ih => rw [List.flatMap_cons, List.map_cons, ih]; rfl
      rw [h1]; rfl
  have := h
  unfold Row at this
  rw [he] at this
  exact this
set_option maxHeartbeats 8000000 in
theorem spec_ObjectRunQ (k : Int) {v : Value} {xs : List Int} (w : World) (h : Sl1 encI w v xs) (hlen : xs.length ≤ 2097152) :
    Calls Tryd.prog 9 #[.int .i64 k, v] w fun e w' => ∃ v', e = .returned v' ∧ QRow 3 w.heap.size w' v' (objL k xs) ∧ Ext w w' := by
  have H := Lib.hid h
  obtain ⟨A, c, rfl, hc0⟩ := id h
  have HC := Lib.hid hc0
  have hq0 : S2 w.heap.size ((w.alloc (.cells #[] 3)).alloc (.cells #[] 3)) (.slice (some ⟨w.heap.size, 0, none⟩) 0 0) (.slice (some ⟨w.heap.size + 1, 0, none⟩) 0 0) [] [] :=
    ⟨(QRow.empty0 _ w (Nat.le_refl _)).ext ((Ext.refl _).alloc _), by have := QRow.empty0 3 (base := w.heap.size) (w.alloc (.cells #[] 3)) (by simp); simpa using this, fun g h1 h2 => by simp [Value.ownBlock] at h1 h2; omega⟩
  have HQ0 := Lib.hid hq0
  have hE0 : Ext w ((w.alloc (.cells #[] 3)).alloc (.cells #[] 3)) := ((Ext.refl w).alloc _).alloc _
  have HE0 := Lib.hid hE0
  clear h hc0 hq0 hE0
  by_cases hg : xs.length ≤ 20 ∧ inB k 1 3 = true
  case neg =>
    have hno : Hid (objL k xs = []) := by
      show _ = _
      exact objL_no fun h => hg ⟨(okCalls_at h.1).1, h.2⟩
    have hcase : ¬ (xs.length ≤ 20) ∨ ((xs.length ≤ 20) ∧ inB k 1 3 = false) := by
      by_cases h1 : xs.length ≤ 20
      · exact .inr ⟨h1, by cases h2 : inB k 1 3 with | true => exact absurd ⟨h1, h2⟩ hg | false => rfl⟩
      · exact .inl h1
    clear hg
    go_enter Tryd.func9, Tryd.ntmps9
    go_wp2
    go_loopw [5, 6, 7] (fun o _ i wr => Ext w wr ∧ i = .int .i64 0 ∧ Hid (QRow 3 w.heap.size wr o [])) (fun _ _ _ _ => 0)
    case atStart => exact ⟨HE0.out, rfl, HQ0.out.a⟩
    case round =>
      obtain ⟨hb, rfl, HQ⟩ := hrel
      have HB := Lib.hid hb
      by_cases hlt : 0 < xs.length
      · obtain ⟨b, off, rfl, hbl, hcell⟩ := HC.out hlt
        obtain ⟨x, hx⟩ := at_some hlt
        have c0 : wr.cell? ⟨b, off + 0, none⟩ = some (.int .i64 x) := hb.cell (hcell 0 x hx)
        rw [Nat.add_zero] at c0
        clear hb hcell hx
        cases hi : inB x (-1) 99 with
        | false =>
          clear hcase
          go_wp2_with fail
          refine (l1In_any _ _ _ _).mono ?_
          rw [hi]
          rintro e w1 ⟨rfl, rfl⟩
          go_wp2
          go_returns
          exact ⟨_, rfl, by rw [hno.out]; exact QRow.empty0 _ _ HB.out.size, HB.out.alloc _⟩
        | true =>
          rcases hcase with h20 | ⟨h20, hk⟩
          · go_wp2_with fail
            refine (l1In_any _ _ _ _).mono ?_
            rw [hi]
            rintro e w1 ⟨rfl, rfl⟩
            go_wp2
            go_returns
            exact ⟨_, rfl, by rw [hno.out]; exact QRow.empty0 _ _ HB.out.size, HB.out.alloc _⟩
          · go_wp2_with fail
            refine (l1In_any _ _ _ _).mono ?_
            rw [hi]
            rintro e w1 ⟨rfl, rfl⟩
            go_wp2_with fail
            refine (l1In_any _ _ _ _).mono ?_
            rw [hk]
            rintro e w1 ⟨rfl, rfl⟩
            go_wp2
            go_returns
            exact ⟨_, rfl, by rw [hno.out]; exact QRow.empty0 _ _ HB.out.size, HB.out.alloc _⟩
      · have h0 : xs.length = 0 := by omega
        clear hcase
        go_wp2
        go_returns
        exact ⟨_, rfl, by rw [hno.out]; exact HQ.out, HB.out⟩
  obtain ⟨h20, hk⟩ := hg
  go_enter Tryd.func9, Tryd.ntmps9
  go_wp2
  go_loopw [5, 6, 7] (fun o u i wr => Ext w wr ∧ ∃ q : Nat, q ≤ xs.length ∧ i = .int .i64 q ∧ Hid (S2 w.heap.size wr o u (runO k (xs.take q)).2 (runO k (xs.take q)).1) ∧ Hid (∀ (i : Nat) (x : Int), i < q → xs[i]? = some x → inB x (-1) 99 = true)) (fun _ _ i _ => xs.length - (intOf i).toNat)
  case atStart => exact ⟨HE0.out, 0, Nat.zero_le _, rfl, HQ0.out, fun _ _ h => absurd h (Nat.not_lt_zero _)⟩
  case round =>
    obtain ⟨hb, q, hq, rfl, HS, HI⟩ := hrel
    have HBS := Lib.hid hb.size
    have HEB := Lib.hid hb
    have hlen := runO_len k (xs.take q)
    have hlq : (xs.take q).length = q := by rw [List.length_take]; omega
    rw [hlq] at hlen
    obtain ⟨l, hl1⟩ : ∃ l, (runO k (xs.take q)).1 = l := ⟨_, rfl⟩
    obtain ⟨out, ho1⟩ : ∃ out, (runO k (xs.take q)).2 = out := ⟨_, rfl⟩
    rw [hl1, ho1] at hlen HS
    have HR : Hid (runO k (xs.take q) = (l, out)) := by show _ = _; rw [← hl1, ← ho1]
    have HLEN := Lib.hid hlen
    clear hl1 ho1 hlen hlq
    by_cases hlt : q < xs.length
    · obtain ⟨b, off, rfl, hbl, hcell⟩ := HC.out (by omega)
      obtain ⟨x, hx⟩ := at_some hlt
      have c0 : wr.cell? ⟨b, off + q, none⟩ = some (.int .i64 x) := hb.cell (hcell q x hx)
      have HX := Lib.hid hx
      clear hcell hx hb
      cases hi : inB x (-1) 99 with
      | false =>
        have hno : Hid (objL k xs = []) := by
          show _ = _
          refine objL_no fun h => ?_
          have := inB_true.2 ((okCalls_at h.1).2 x (List.mem_of_getElem? HX.out))
          rw [hi] at this
          cases this
        go_wp2_with fail
        refine (l1In_any _ _ _ _).mono ?_
        rw [hi]
        rintro e w1 ⟨rfl, rfl⟩
        go_wp2
        go_returns
        exact ⟨_, rfl, by rw [hno.out]; exact QRow.empty0 _ _ HEB.out.size, HEB.out.alloc _⟩
      | true =>
        have hstep : runO k (xs.take (q + 1)) = ansStep k (l, out) x := by
          rw [List.take_add_one, HX.out, Option.toList_some, runO_snoc, HR.out]
        have HI' : Hid (∀ (i : Nat) (x : Int), i < q + 1 → xs[i]? = some x → inB x (-1) 99 = true) := fun i y hi' hy => by
          by_cases e : i = q
          · subst e
            rw [HX.out] at hy
            cases hy
            exact hi
          · exact HI.out i y (by omega) hy
        have HST := Lib.hid hstep
        clear hstep
        by_cases hx0 : 0 ≤ x
        · have HN : Hid (runO k (xs.take (q + 1)) = (l ++ [x], out ++ [0])) := by
            show _ = _
            rw [HST.out]; unfold ansStep; rw [if_pos hx0]
          obtain ⟨u1, w1, hrun1, s1, e1⟩ := HS.out.symm.push (by have := HLEN.out; omega) HBS.out x
          have HE1 := Lib.hid (e1 w (Nat.le_refl _) HEB.out)
          have S1 := Lib.hid s1.symm
          have HRUN1 := Lib.hid hrun1
          obtain ⟨o2, w2, hrun2, s2, e2⟩ := S1.out.push (by have := HLEN.out; omega) HE1.out.size 0
          have HE2 := Lib.hid (e2 w (Nat.le_refl _) HE1.out)
          have S2' := Lib.hid s2
          have HRUN2 := Lib.hid hrun2
          clear hrun1 s1 e1 hrun2 s2 e2 HST
          go_wp2_with fail
          refine (l1In_any _ _ _ _).mono ?_
          rw [hi]
          rintro e w1 ⟨rfl, rfl⟩
          go_wp2_with fail
          refine (l1In_any _ _ _ _).mono ?_
          rw [hk]
          rintro e w1 ⟨rfl, rfl⟩
          go_wp2_with (at_builtin; first | (refine wpList_append_run rfl rfl rfl rfl HRUN1.out ?_; clear HRUN1) | refine wpList_append_run rfl rfl rfl rfl HRUN2.out ?_)
          go_roundw
          case rel => exact ⟨HE2.out, q + 1, by omega, by go_num, by rw [HN.out]; exact S2'.out, HI'⟩
          case measure => simp [intOf]; omega
        · by_cases hl0 : l.length = 0
          · have HN : Hid (runO k (xs.take (q + 1)) = (l, out ++ [-1])) := by
              show _ = _
              rw [HST.out]; unfold ansStep; rw [if_neg hx0, if_pos hl0]
            obtain ⟨o2, w2, hrun2, s2, e2⟩ := HS.out.push (by have := HLEN.out; omega) HBS.out (-1)
            have HE2 := Lib.hid (e2 w (Nat.le_refl _) HEB.out)
            have S2' := Lib.hid s2
            have HRUN2 := Lib.hid hrun2
            obtain ⟨Al, cl, hul, -, -⟩ := HS.out.b.shape
            rw [hl0] at hul
            subst hul
            clear hrun2 s2 e2 HST hl0
            go_wp2_with fail
            refine (l1In_any _ _ _ _).mono ?_
            rw [hi]
            rintro e w1 ⟨rfl, rfl⟩
            go_wp2_with fail
            refine (l1In_any _ _ _ _).mono ?_
            rw [hk]
            rintro e w1 ⟨rfl, rfl⟩
            go_wp2_with (at_builtin; refine wpList_append_run rfl rfl rfl rfl HRUN2.out ?_)
            go_roundw
            case rel => exact ⟨HE2.out, q + 1, by omega, by go_num, by rw [HN.out]; exact S2'.out, HI'⟩
            case measure => simp [intOf]; omega
          · obtain ⟨p, hp⟩ : ∃ p, takeAt k l = p := ⟨_, rfl⟩
            have hpl : p < l.length := by rw [← hp]; exact takeAt_lt (by omega)
            have HN : Hid (runO k (xs.take (q + 1)) = (l.eraseIdx p, out ++ [gD l p])) := by
              show _ = _
              rw [HST.out]; unfold ansStep; rw [if_neg hx0, if_neg hl0, hp]
            have htk := fun W (hW : Ext wr W) => l35Take_any k W (HS.out.b.sl1.ext hW) (by omega) (by have := HLEN.out; omega)
            rw [hp] at htk
            have HTK := Lib.hid htk
            have hemp : ((l.length : Int) == 0) = false := by rw [beq_eq_false_iff_ne]; omega
            obtain ⟨g, off', cl, rfl, hcl, hcm, hcells, -⟩ := HS.out.b.slot (by omega)
            have HCELL := Lib.hid hcells
            clear hp htk HST hl0 hcells
            simp only [maxLen] at hcm
            go_wp2_with fail
            refine (l1In_any _ _ _ _).mono ?_
            rw [hi]
            rintro e w1 ⟨rfl, rfl⟩
            go_wp2_with fail
            refine (l1In_any _ _ _ _).mono ?_
            rw [hk]
            rintro e w1 ⟨rfl, rfl⟩
            go_wp2_with fail
            refine (HTK.out _ (Ext.refl _)).mono ?_
            rintro e w1 ⟨rfl, b1⟩
            have c1 : w1.cell? ⟨g, off' + p, none⟩ = some (.int .i64 (gD l p)) := b1.cell (HCELL.out p _ (gD_at hpl))
            obtain ⟨y, hy⟩ : ∃ y, gD l p = y := ⟨_, rfl⟩
            rw [hy] at c1 HN
            have HE1 := Lib.hid (HEB.out.trans b1)
            obtain ⟨o2, w2, hrun2, s2, e2⟩ := (HS.out.ext b1).push (by have := HLEN.out; omega) HE1.out.size y
            have HE2 := Lib.hid (e2 w (Nat.le_refl _) HE1.out)
            have S2' := Lib.hid s2
            have HRUN2 := Lib.hid hrun2
            clear hrun2 s2 e2 b1 hy HTK HCELL
            go_wp2_with (at_builtin; refine wpList_append_run rfl rfl rfl rfl HRUN2.out ?_)
            have hsl := S2'.out.b.sl1.of_
            obtain ⟨V1, hV1, hS1⟩ : ∃ V1, (∀ W, (Instr.slice 23 (.slice (some ⟨g, off', none⟩) l.length cl) none (some (.int .i64 (p : Int))) none).run Tryd.prog W = .ok V1 W) ∧ SlOf 1 (one encI) w2 V1 (l.take p) := by
              refine ⟨_, run_cut_high (P := Tryd.prog) Tryd.underlying23 qinfo p (by omega), ?_⟩
              have := (SlOf.part hsl 0 p (by omega) (by omega) (by omega)).1
              simpa [part] using this
            obtain ⟨V2, hV2, hS2⟩ : ∃ V2, (∀ W, (Instr.slice 23 (.slice (some ⟨g, off', none⟩) l.length cl) (some (.int .i64 ((p + 1 : Nat) : Int))) none none).run Tryd.prog W = .ok V2 W) ∧ SlOf 1 (one encI) w2 V2 (l.drop (p + 1)) := by
              refine ⟨_, run_cut_low (P := Tryd.prog) Tryd.underlying23 qinfo (p + 1) (by omega), ?_⟩
              have := (SlOf.part hsl (p + 1) l.length (by omega) (Nat.le_refl _) (by omega)).1
              simpa [part] using this
            obtain ⟨V, hV⟩ : ∃ V, Value.slice (some ⟨g, off', none⟩) l.length cl = V := ⟨_, rfl⟩
            have HVE := Lib.hid hV
            have HV1 := Lib.hid hV1
            have HV2 := Lib.hid hV2
            have HS1 := Lib.hid hS1
            have HS2 := Lib.hid hS2
            have HLB := Lib.hid (And.intro hpl (show l.length ≤ 20 by have := HLEN.out; omega))
            clear hV hV1 hV2 hS1 hS2 hsl
            refine wp_region_typedC [44, 45, 46, 47, 48, 49, 50, 51, 52, 53, 6] (by kernel_rfl) (by kernel_rfl) (by kernel_rfl) (fun _ W => Ext w2 W)
              (fun i L u W => match i with
                | 0 => L.getD 4 true = false → ∃ g, u = .slice (some ⟨g, 0, none⟩) 0 0 ∧ w2.heap.size ≤ g ∧ W.heap[g]? = some (.cells #[] 3 (0, 0))
                | 1 => u = V
                | 2 => u = .int .i64 (p : Int)
                | 3 => u = V1
                | 4 => L.getD 9 true = false → Row 3 1 (one encI) w2.heap.size W u (l.take p)
                | 5 => u = V
                | 6 => u = .int .i64 (p : Int)
                | 7 => u = .int .i64 ((p + 1 : Nat) : Int)
                | 8 => u = V2
                | 9 => Row 3 1 (one encI) w2.heap.size W u (l.take p ++ l.drop (p + 1))
                | 10 => Row 3 1 (one encI) w2.heap.size W u (l.take p ++ l.drop (p + 1))
                | _ => True)
              (fun i W W' => i ≠ 4 → i ≠ 9 → Ext W W') ((Ext.refl _).drew) ?_ ?_ ?_
            · intro i j L u W W' hij hi hsz hLi hdl hdn hLj hS hT
              have hself : (L.setIfInBounds i true).getD i true = true := getD_set_self true (by simpa [hsz] using hi)
              have hne : ∀ q, q ≠ i → (L.setIfInBounds i true).getD q true = L.getD q true := fun q hq => getD_set_ne true (fun e => hq e.symm)
              have d4 : L.getD 9 true = true → L.getD 4 true = true := fun h => hdn 9 _ rfl h { on := 4, ground := .data } (by simp) rfl
              have d9 : L.getD 10 true = true → L.getD 9 true = true := fun h => hdn 10 _ rfl h { on := 9, ground := .data } (by simp) rfl
              by_cases e4 : i = 4
              · subst e4
                match j, hij, hLj, hT with
                | 0, _, _, _ => exact fun hL => by rw [hself] at hL; cases hL
                | 1, _, _, hT => exact hT
                | 2, _, _, hT => exact hT
                | 3, _, _, hT => exact hT
                | 4, hij, _, _ => exact absurd rfl hij
                | 5, _, _, hT => exact hT
                | 6, _, _, hT => exact hT
                | 7, _, _, hT => exact hT
                | 8, _, _, hT => exact hT
                | 9, _, hLj, _ => rw [d4 hLj] at hLi; cases hLi
                | 10, _, hLj, _ => rw [d4 (d9 hLj)] at hLi; cases hLi
                | _ + 11, _, _, _ => trivial
              by_cases e9 : i = 9
              · subst e9
                have h4 := hdl _ rfl { on := 4, ground := .data } (by simp) rfl
                simp only at h4
                match j, hij, hLj, hT with
                | 0, _, _, _ => exact fun hL => by rw [hne 4 (by omega), h4] at hL; cases hL
                | 1, _, _, hT => exact hT
                | 2, _, _, hT => exact hT
                | 3, _, _, hT => exact hT
                | 4, _, _, _ => exact fun hL => by rw [hself] at hL; cases hL
                | 5, _, _, hT => exact hT
                | 6, _, _, hT => exact hT
                | 7, _, _, hT => exact hT
                | 8, _, _, hT => exact hT
                | 9, hij, _, _ => exact absurd rfl hij
                | 10, _, hLj, _ => rw [d9 hLj] at hLi; cases hLi
                | _ + 11, _, _, _ => trivial
              have hx := hS e4 e9
              have n4 := hne 4 (fun e => e4 e.symm)
              have n9 := hne 9 (fun e => e9 e.symm)
              match j, hT with
              | 0, hT => exact fun hL => let ⟨g', h1, h2, h3⟩ := hT (by rw [← n4]; exact hL); ⟨g', h1, h2, (Below.block hx g' (Array.getElem?_eq_some_iff.1 h3).1).trans h3⟩
              | 1, hT => exact hT
              | 2, hT => exact hT
              | 3, hT => exact hT
              | 4, hT => exact fun hL => (hT (by rw [← n9]; exact hL)).ext hx
              | 5, hT => exact hT
              | 6, hT => exact hT
              | 7, hT => exact hT
              | 8, hT => exact hT
              | 9, hT => exact hT.ext hx
              | 10, hT => exact hT.ext hx
              | _ + 11, _ => trivial
            · intro i o ho a n' W L hn hsz hLi hdl hdn hR hrest hdeps hkeep
              match i, ho with
              | 0, ho =>
                obtain rfl := Option.some.inj ho
                refine y_run (v := .slice (some ⟨W.heap.size, 0, none⟩) 0 0) (w' := W.alloc (.cells #[] 3)) ?_ ⟨fun _ _ => ⟨_, rfl, hR.size, heap_alloc_new W _⟩, (fun h => by cases h), hR.alloc _, fun _ _ => (Ext.refl _).alloc _⟩
                go_simp
              | 1, ho =>
                obtain rfl := Option.some.inj ho
                have hk6 := hkeep 6 (fun j oj hoj hd => by
                  obtain rfl := dst_ne _ j 10 oj _ 6 (by decide) hoj rfl hd rfl
                  cases h10 : L.getD 10 true with
                  | false => rfl
                  | true =>
                    have h9 := hdn 10 _ rfl h10 { on := 9, ground := .data } (by simp) rfl
                    have h4 := hdn 9 _ rfl h9 { on := 4, ground := .data } (by simp) rfl
                    have h3 := hdn 4 _ rfl h4 { on := 3, ground := .data } (by simp) rfl
                    have h1 := hdn 3 _ rfl h3 { on := 1, ground := .data } (by simp) rfl
                    simp only at h1
                    rw [hLi] at h1
                    cases h1)
                exact y_move rfl ⟨fun _ => hk6.trans HVE.out, (fun h => by cases h), hR, fun _ _ => Ext.refl _⟩
              | 2, ho =>
                obtain rfl := Option.some.inj ho
                exact y_move rfl ⟨fun _ => hrest 8 (by decide), (fun h => by cases h), hR, fun _ _ => Ext.refl _⟩
              | 3, ho =>
                obtain rfl := Option.some.inj ho
                have e1 : a.tmps.getD 45 undef = V := hdeps 1 _ 45 ⟨{ on := 1, ground := .data }, by simp, rfl, rfl⟩ rfl rfl
                have e2 : a.tmps.getD 46 undef = .int .i64 (p : Int) := hdeps 2 _ 46 ⟨{ on := 2, ground := .data }, by simp, rfl, rfl⟩ rfl rfl
                exact y_slice Tryd.underlying23 rfl (e1.trans HVE.out.symm) (by simp only [Option.map_some, Option.map_none, Act.eval, e2]; exact HV1.out W) ⟨fun _ => rfl, (fun h => by cases h), hR, fun _ _ => Ext.refl _⟩
              | 4, ho =>
                obtain rfl := Option.some.inj ho
                obtain ⟨g', e0, hg', hheap⟩ := hdeps 0 _ 44 ⟨{ on := 0, ground := .data }, by simp, rfl, rfl⟩ rfl rfl hLi
                have e1 : a.tmps.getD 47 undef = V1 := hdeps 3 _ 47 ⟨{ on := 3, ground := .data }, by simp, rfl, rfl⟩ rfl rfl
                have hrow0 : Row 3 1 (one encI) w2.heap.size W (.slice (some ⟨g', 0, none⟩) 0 0) ([] : List Int) := ⟨by simp, .inr ⟨g', 0, #[], rfl, hg', hheap, Nat.le_refl _, by simp [maxLen], by simp, by simp⟩⟩
                have hs1 := HS1.out.ext hR
                obtain ⟨A', c', hA', _⟩ := id hs1
                rw [hA'] at hs1
                obtain ⟨v', W', hrun, hrow', hgrow⟩ := run_cat (P := Tryd.prog) (t := 23) (ty := 23) (e := 3) Tryd.underlying23 qinfo rfl (by omega) hrow0 hs1 (fun x _ j => rfl) (by have := HLB.out; simp; omega) (by omega) hR.size
                rw [List.nil_append] at hrow'
                exact y_append rfl e0 (e1.trans hA') ⟨v', W', hrun, fun _ _ => hrow', (fun h => by cases h), Ext.grown hR hgrow hrow0.block, fun hne _ => absurd rfl hne⟩
              | 5, ho =>
                obtain rfl := Option.some.inj ho
                have hk6 := hkeep 6 (fun j oj hoj hd => by
                  obtain rfl := dst_ne _ j 10 oj _ 6 (by decide) hoj rfl hd rfl
                  cases h10 : L.getD 10 true with
                  | false => rfl
                  | true =>
                    have h9 := hdn 10 _ rfl h10 { on := 9, ground := .data } (by simp) rfl
                    have h8 := hdn 9 _ rfl h9 { on := 8, ground := .data } (by simp) rfl
                    have h5 := hdn 8 _ rfl h8 { on := 5, ground := .data } (by simp) rfl
                    simp only at h5
                    rw [hLi] at h5
                    cases h5)
                exact y_move rfl ⟨fun _ => hk6.trans HVE.out, (fun h => by cases h), hR, fun _ _ => Ext.refl _⟩
              | 6, ho =>
                obtain rfl := Option.some.inj ho
                exact y_move rfl ⟨fun _ => hrest 8 (by decide), (fun h => by cases h), hR, fun _ _ => Ext.refl _⟩
              | 7, ho =>
                obtain rfl := Option.some.inj ho
                have e1 : a.tmps.getD 50 undef = .int .i64 (p : Int) := hdeps 6 _ 50 ⟨{ on := 6, ground := .data }, by simp, rfl, rfl⟩ rfl rfl
                exact y_add (p := (p : Int)) (q := 1) rfl e1 rfl (by omega) (by have := HLB.out; omega) ⟨fun _ => by push_cast; rfl, (fun h => by cases h), hR, fun _ _ => Ext.refl _⟩
              | 8, ho =>
                obtain rfl := Option.some.inj ho
                have e1 : a.tmps.getD 49 undef = V := hdeps 5 _ 49 ⟨{ on := 5, ground := .data }, by simp, rfl, rfl⟩ rfl rfl
                have e2 : a.tmps.getD 51 undef = .int .i64 ((p + 1 : Nat) : Int) := hdeps 7 _ 51 ⟨{ on := 7, ground := .data }, by simp, rfl, rfl⟩ rfl rfl
                exact y_slice Tryd.underlying23 rfl (e1.trans HVE.out.symm) (by simp only [Option.map_some, Option.map_none, Act.eval, e2]; exact HV2.out W) ⟨fun _ => rfl, (fun h => by cases h), hR, fun _ _ => Ext.refl _⟩
              | 9, ho =>
                obtain rfl := Option.some.inj ho
                have q1 := hdeps 4 _ 48 ⟨{ on := 4, ground := .data }, by simp, rfl, rfl⟩ rfl rfl hLi
                have e1 : a.tmps.getD 52 undef = V2 := hdeps 8 _ 52 ⟨{ on := 8, ground := .data }, by simp, rfl, rfl⟩ rfl rfl
                have hs2 := HS2.out.ext hR
                obtain ⟨A', c', hA', _⟩ := id hs2
                rw [hA'] at hs2
                obtain ⟨v', W', hrun, hrow', hgrow⟩ := run_cat (P := Tryd.prog) (t := 23) (ty := 23) (e := 3) Tryd.underlying23 qinfo rfl (by omega) q1 hs2 (fun x _ j => rfl) (by have := HLB.out; simp; omega) (by omega) hR.size
                exact y_append rfl rfl (e1.trans hA') ⟨v', W', hrun, fun _ => hrow', (fun h => by cases h), Ext.grown hR hgrow q1.block, fun _ hne => absurd rfl hne⟩
              | 10, ho =>
                obtain rfl := Option.some.inj ho
                have q1 := hdeps 9 _ 53 ⟨{ on := 9, ground := .data }, by simp, rfl, rfl⟩ rfl rfl
                exact y_assign rfl ⟨fun _ => q1, (fun h => by cases h), hR, fun _ _ => Ext.refl _⟩
              | _ + 11, ho => cases ho
            · intro a W hR hsz hdf hrest htyp hbare
              obtain ⟨x44, e44⟩ : ∃ x, a.tmps.getD 44 undef = x := ⟨_, rfl⟩
              obtain ⟨x45, e45⟩ : ∃ x, a.tmps.getD 45 undef = x := ⟨_, rfl⟩
              obtain ⟨x46, e46⟩ : ∃ x, a.tmps.getD 46 undef = x := ⟨_, rfl⟩
              obtain ⟨x47, e47⟩ : ∃ x, a.tmps.getD 47 undef = x := ⟨_, rfl⟩
              obtain ⟨x48, e48⟩ : ∃ x, a.tmps.getD 48 undef = x := ⟨_, rfl⟩
              obtain ⟨x49, e49⟩ : ∃ x, a.tmps.getD 49 undef = x := ⟨_, rfl⟩
              obtain ⟨x50, e50⟩ : ∃ x, a.tmps.getD 50 undef = x := ⟨_, rfl⟩
              obtain ⟨x51, e51⟩ : ∃ x, a.tmps.getD 51 undef = x := ⟨_, rfl⟩
              obtain ⟨x52, e52⟩ : ∃ x, a.tmps.getD 52 undef = x := ⟨_, rfl⟩
              obtain ⟨x53, e53⟩ : ∃ x, a.tmps.getD 53 undef = x := ⟨_, rfl⟩
              obtain ⟨x6, e6⟩ : ∃ x, a.tmps.getD 6 undef = x := ⟨_, rfl⟩
              have hrow := htyp 10 _ 6 rfl rfl
              rw [e6] at hrow
              have hsfin : S2 w.heap.size W o2 x6 (out ++ [y]) (l.eraseIdx p) := by
                have hq := QRow.of_row hrow
                rw [← List.eraseIdx_eq_take_drop_succ] at hq
                refine ⟨S2'.out.a.ext hR, ?_, fun g h1 h2 => ?_⟩
                · rcases hq with h | ⟨g, off, c, cur, h1, h2, r⟩
                  · exact .inl h
                  · exact .inr ⟨g, off, c, cur, h1, Nat.le_trans HE2.out.size h2, r⟩
                · have := (S2'.out.a.lt h1).1
                  have := (hq.lt h2).2.1
                  omega
              have HSF := Lib.hid hsfin
              have HEW := Lib.hid (HE2.out.trans hR)
              have ha := act_puts hsz hdf hrest [(44, x44), (45, x45), (46, x46), (47, x47), (48, x48), (49, x49), (50, x50), (51, x51), (52, x52), (53, x53), (6, x6)] rfl ⟨by decide, fun d hd => (by decide : ∀ d ∈ ([44, 45, 46, 47, 48, 49, 50, 51, 52, 53, 6] : List Nat), d < 78) d hd⟩ (by simp only [List.forall_mem_cons]; exact ⟨e44, e45, e46, e47, e48, e49, e50, e51, e52, e53, e6, fun _ h => by cases h⟩)
              clear hsz hdf hrest htyp hbare e44 e45 e46 e47 e48 e49 e50 e51 e52 e53 e6 hrow hR hsfin
              subst ha
              simp only [List.foldl_cons, List.foldl_nil, Act.put, List.setIfInBounds_toArray, List.set_cons_zero, List.set_cons_succ]
              go_wp2
              go_roundw
              case rel => exact ⟨HEW.out, q + 1, by omega, by go_num, by rw [HN.out]; exact HSF.out, HI'⟩
              case measure => simp [intOf]; omega
    · obtain rfl : q = xs.length := by omega
      have HF : Hid (objL k xs = out) := by
        have h1 := HR.out
        rw [List.take_length] at h1
        show _ = _
        rw [objL_yes ?_ hk, h1]
        rw [okCalls, Bool.and_eq_true, decide_eq_true_eq, List.all_eq_true]
        refine ⟨h20, fun x hx => ?_⟩
        obtain ⟨i, hi⟩ := List.getElem?_of_mem hx
        exact HI.out i x (List.getElem?_eq_some_iff.1 hi).1 hi
      go_wp2
      go_returns
      exact ⟨_, rfl, by rw [HF.out]; exact HS.out.a, HEB.out⟩
theorem spec_ObjectRun (k : Int) {v : Value} {xs : List Int} (w : World) (h : Sl1 encI w v xs) (hlen : xs.length ≤ 2097152) :
    Calls Tryd.prog 9 #[.int .i64 k, v] w (Ret1 encI w (objL k xs)) :=
  (spec_ObjectRunQ k w h hlen).mono fun _ _ ⟨v', h1, h2, h3⟩ => ⟨v', h1, h2.sl1, h2.owned, h3⟩
end Go.Proofs.YtackknkfcbnklaaDoor
