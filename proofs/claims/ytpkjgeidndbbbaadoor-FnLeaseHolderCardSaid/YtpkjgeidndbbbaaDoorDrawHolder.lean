/- Draws of leases, a time, what is wrong, and a skew. -/
import Derived.Test.YtpkjgeidndbbbaaDoorDrawLease
import Derived.Test.YtpkjgeidndbbbaaDoorDrawSets
import Derived.Test.YtpkjgeidndbbbaaDoorTypedDraw
import Derived.Test.YtpkjgeidndbbbaaDoorCut
namespace Go.Proofs.YtpkjgeidndbbbaaDoor
open Go.RowKit
/-- Leases, a time, what is wrong, and a skew were drawn. -/
def DrawnLH (w : World) (en : Ending) (w' : World) : Prop :=
  ∃ u xs now wv ws sk, en = .returned (.tuple #[u, .int .i64 now, wv, .int .i64 sk]) ∧ smI now ∧ (0 ≤ sk ∧ sk ≤ 11) ∧ Val 3 encLease w.heap.size w' u xs ∧ drawnLease xs ∧ Val 1 (one encI) w.heap.size w' wv ws ∧ drawnInts 4 ws ∧ Ext w w'
set_option maxRecDepth 8000 in
set_option maxHeartbeats 8000000 in
theorem DrawLeaseHolder_any {v : Value} (w : World) (h : CodeIn w v) : Calls Tryd.prog 25 #[v] w (DrawnLH w) := by
  have H := Lib.hid h
  clear h
  go_enter Tryd.func25, Tryd.ntmps25
  go_wp2_with fail
  refine (open_code _ H.out).mono ?_
  rintro e w1 ⟨rb, rfl, hl, r1, b1⟩
  have hr := r1.lt
  go_wp2_with fail
  refine (l20Leases_any rb 0 9 _ r1 (by omega) (by omega)).mono ?_
  rintro e w3 ⟨u, xs, rfl, hrow, hphi, r3, x3⟩
  go_wp2_with fail
  refine (pick_any rb _ 12 _ r3 (by omega) (by omega) (by omega)).mono ?_
  rintro e w4 ⟨sk, rfl, sk0, sk1, r4, x4⟩
  have HX4 := Lib.hid (x3.trans x4)
  have HVL := Lib.hid (hrow.ex x4 hr)
  have hz1 := b1.size
  have hz4 := (x3.trans x4).size
  have HP := Lib.hid hphi
  have HB := Lib.hid b1
  have R4 := Lib.hid r4
  have hr4 := r4.lt
  have HRow := Lib.hid (Row.made (m := 1) (enc := one encI) w4 3)
  clear hrow hphi r1 b1 r3 x3 r4 x4
  go_wp2
  go_loopw [9, 10] (fun o k wr => ∃ (q : Nat) (ws : List Int), q ≤ 4 ∧ k = .int .i64 (q : Int) ∧ Hid (Ex rb w4 wr ∧ Rd wr rb (110 + q) ∧ Row 3 1 (one encI) w4.heap.size wr o ws ∧ ws.length = q ∧ ∀ x ∈ ws, smI x)) (fun _ k _ => 4 - (intOf k).toNat)
  case atStart => exact ⟨0, [], by omega, rfl, (Ex.refl _ _).alloc _, (R4.out.alloc _).mono (by omega), HRow.out, rfl, by simp⟩
  case round =>
    clear HRow R4
    obtain ⟨q, ws, hq, rfl, HA⟩ := hrel
    have hwr := Nat.lt_of_lt_of_le hr4 HA.out.1.size
    by_cases hq0 : q < 4
    · go_wp2_with fail
      refine (pick_any rb _ _ _ HA.out.2.1 (by omega) (by omega) (by omega)).mono ?_
      rintro e w5 ⟨U, rfl, u0, u1, r5, x5⟩
      have HX5 := Lib.hid (HA.out.1.trans x5)
      have HRow5 := Lib.hid (HA.out.2.2.1.ex x5 hr4)
      have HR5 := Lib.hid r5
      have HL := Lib.hid HA.out.2.2.2
      clear HA r5 x5
      go_wp2_with (at_builtin; refine catI rfl rfl rfl rfl (HRow5.out.ext ((Ext.refl _).alloc _)) (SlOf.lit _ _ _ _ [_] rfl) (by simp; have := HL.out.1; omega) (by simp; have := HX5.out.size; omega) ?_; intro v' w6 hrow hg; have HG := Lib.hid (And.intro hrow hg); clear hrow hg)
      go_roundw
      case rel => exact ⟨q + 1, _, by omega, by go_num, (HX5.out.alloc _).grown HG.out.2 HRow5.out.block, ((HR5.out.alloc _).grown HG.out.2 (fun k hk => Nat.lt_of_lt_of_le hr4 (HRow5.out.block k hk))).mono (by omega), HG.out.1, by have := HL.out.1; simp; omega, fun x hx => by
        rcases List.mem_append.1 hx with hx | hx
        · exact HL.out.2 x hx
        · simp at hx; subst hx; unfold smI; omega⟩
      case measure => simp [intOf]; omega
    · obtain rfl : q = 4 := by omega
      have HL := Lib.hid HA.out.2.2.2
      go_wp2_with fail
      refine (odd_any rb _ 9 _ HA.out.2.1 (by omega) (by omega)).mono ?_
      rintro e w6 ⟨k9, rfl, r6, x6⟩
      have HX5 := Lib.hid (HA.out.1.trans x6)
      have HR5 := Lib.hid r6
      have HRow5 := Lib.hid (HA.out.2.2.1.ex x6 hr4)
      clear HA r6 x6
      have hwl := HL.out.1
      obtain ⟨g, cap, hgv, hgb, hgl, hgc⟩ := HRow5.out.form (by omega)
      rw [hwl] at hgv hgc
      subst hgv
      cases k9 with
      | false =>
        have HX6 := HX5
        have HR6 := HR5
        have HRow6 := HRow5
        have HW6 : Hid (ws.length = 4 ∧ ∀ x ∈ ws, smI x) := HL.out
        clear HL HX5 HR5 HRow5 hwl
        have hr6 := HR6.out.lt
        go_wp2_with fail
        refine (odd_any rb _ 14 _ HR6.out (by omega) (by omega)).mono ?_
        rintro e w7 ⟨k14, rfl, r7, x7⟩
        have hr3 := r7.lt
        have HX7 := Lib.hid (HX6.out.trans x7)
        have R7 := Lib.hid r7
        have HRow7 := Lib.hid (HRow6.out.ex x7 hr4)
        clear r7 x7
        have HREL : Rel (· = rb) (fun _ => True) w7 w7 := ⟨ExS.refl _ _, trivial⟩
        cases k14 with
        | false =>
          obtain ⟨wv, hwv⟩ : ∃ wv, Value.slice (some (⟨g, 0, none⟩ : Addr)) 4 cap = wv := ⟨_, rfl⟩
          rw [hwv] at HRow7
          have HVW := Lib.hid HRow7.out.val
          have HWP : Hid (drawnInts 4 ws) := ⟨by rw [HW6.out.1]; omega, HW6.out.2⟩
          go_wp2_with fail
          clear hwv
          have stx : ∀ w w', Ex rb w w' → St (· = rb) (fun _ => True) (fun _ => True) w w' := fun w w' hx => ⟨ExS.of_ex hx rfl, fun _ => trivial, fun _ => trivial⟩
          have hSlt : ∀ k, ((· = rb)) k → k < (w7).heap.size := fun k hk => by subst hk; exact hr3
          refine wp_region_typed [42, 43, 44, 45, 46, 47, 48, 49, 50, 51, 52, 53, 54, 2, 3, 4, 5] (by kernel_rfl) (by kernel_rfl) (by kernel_rfl) (fun n w' => Rd w' rb (300 + n) ∧ Rel (· = rb) (fun _ => True) w7 w') (fun i => (([.eq (u), .eq (.pointer (some ⟨rb, 0, none⟩)), .int (0) (199), .ints 3 (0) (1001), .ints 6 (0) (2), .eq (.pointer (some ⟨rb, 0, none⟩)), .int (0) (5), .adr (0) (2), .int (0) (2), .adr (0) (1001), .int (0) (1001), .eq (wv), .eq (.int .i64 sk), .eq (u), .int (0) (1001), .eq (wv), .eq (.int .i64 sk)] : List Ty).getD i .top).den (· = rb) (fun _ => True)) (St (· = rb) (fun _ => True) (fun _ => True)) ⟨(R7.out).drew.mono (by omega), (HREL).step (stx _ _ ((Ex.refl _ _).drew))⟩ (fun i v w w' hx h => Ty.den_ex _ hx h) ?_ ?_
          · intro i o ho a n w hn hR hrest hdeps
            have hn' : n < 17 := hn
            match i, ho with
            | 0, ho =>
              obtain rfl := Option.some.inj ho
              have h0 : a.tmps.getD 7 undef = u := hrest 7 (by decide)
              exact y_move rfl ⟨fun _ => h0, (fun h => by cases h), ⟨(hR.1.mono (by omega)), hR.2⟩, stx _ _ (Ex.refl _ _)⟩
            | 1, ho =>
              obtain rfl := Option.some.inj ho
              have h0 : a.tmps.getD 6 undef = .pointer (some ⟨rb, 0, none⟩) := hrest 6 (by decide)
              exact y_move rfl ⟨fun _ => h0, (fun h => by cases h), ⟨(hR.1.mono (by omega)), hR.2⟩, stx _ _ (Ex.refl _ _)⟩
            | 2, ho =>
              obtain rfl := Option.some.inj ho
              have q1 := hdeps 1 _ 43 ⟨{ on := 1, ground := .data }, by simp, rfl, rfl⟩ rfl rfl
              have h1 : a.tmps.getD 43 undef = .pointer (some ⟨rb, 0, none⟩) := q1
              refine y_call (args := #[.pointer (some ⟨rb, 0, none⟩), .int .i64 200]) rfl (fun _ _ => by kernel_rfl) (by simp [Act.eval, h1]) ?_
              exact (pick_any rb _ 200 _ hR.1 (by omega) (by omega) (by omega)).mono fun e w2 ⟨k, he, k0, k1, r2, x2⟩ => ⟨_, he, fun _ => ⟨k, rfl, by omega, by omega⟩, (fun h => by cases h), ⟨r2.mono (by omega), hR.2.step (stx _ _ x2)⟩, stx _ _ x2⟩
            | 3, ho =>
              obtain rfl := Option.some.inj ho
              have q1 := hdeps 2 _ 44 ⟨{ on := 2, ground := .data }, by simp, rfl, rfl⟩ rfl rfl
              obtain ⟨k1, h1, l1, u1⟩ := q1
              refine y_lit (cs := #[.int .i64 k1, .int .i64 (1000), .int .i64 (1001)]) (E := 3) ?_ ?_
              · intro W; simp only [Array.getD_eq_getD_getElem?] at h1; go_simp
              · exact ⟨fun _ => ints_made hSlt hR.2 rfl (by simp <;> omega), (fun h => by cases h), ⟨(hR.1.alloc _).mono (by omega), hR.2.step (stx _ _ ((Ex.refl _ _).alloc _))⟩, stx _ _ ((Ex.refl _ _).alloc _)⟩
            | 4, ho =>
              obtain rfl := Option.some.inj ho
              refine y_lit (cs := #[.int .i64 (0), .int .i64 (0), .int .i64 (0), .int .i64 (0), .int .i64 (1), .int .i64 (2)]) (E := 3) ?_ ?_
              · intro W; go_simp
              · exact ⟨fun _ => ints_made hSlt hR.2 rfl (by simp <;> omega), (fun h => by cases h), ⟨(hR.1.alloc _).mono (by omega), hR.2.step (stx _ _ ((Ex.refl _ _).alloc _))⟩, stx _ _ ((Ex.refl _ _).alloc _)⟩
            | 5, ho =>
              obtain rfl := Option.some.inj ho
              have h0 : a.tmps.getD 6 undef = .pointer (some ⟨rb, 0, none⟩) := hrest 6 (by decide)
              exact y_move rfl ⟨fun _ => h0, (fun h => by cases h), ⟨(hR.1.mono (by omega)), hR.2⟩, stx _ _ (Ex.refl _ _)⟩
            | 6, ho =>
              obtain rfl := Option.some.inj ho
              have q1 := hdeps 5 _ 47 ⟨{ on := 5, ground := .data }, by simp, rfl, rfl⟩ rfl rfl
              have h1 : a.tmps.getD 47 undef = .pointer (some ⟨rb, 0, none⟩) := q1
              refine y_call (args := #[.pointer (some ⟨rb, 0, none⟩), .int .i64 6]) rfl (fun _ _ => by kernel_rfl) (by simp [Act.eval, h1]) ?_
              exact (pick_any rb _ 6 _ hR.1 (by omega) (by omega) (by omega)).mono fun e w2 ⟨k, he, k0, k1, r2, x2⟩ => ⟨_, he, fun _ => ⟨k, rfl, by omega, by omega⟩, (fun h => by cases h), ⟨r2.mono (by omega), hR.2.step (stx _ _ x2)⟩, stx _ _ x2⟩
            | 7, ho =>
              obtain rfl := Option.some.inj ho
              have q1 := hdeps 4 _ 46 ⟨{ on := 4, ground := .data }, by simp, rfl, rfl⟩ rfl rfl
              obtain ⟨b1, h1, e1, c1⟩ := q1
              have q2 := hdeps 6 _ 48 ⟨{ on := 6, ground := .data }, by simp, rfl, rfl⟩ rfl rfl
              obtain ⟨k2, h2, l2, u2⟩ := q2
              obtain ⟨q, rfl⟩ := Int.eq_ofNat_of_zero_le (show 0 ≤ k2 by omega)
              obtain ⟨y, cy, y0, y1⟩ := c1 q (by omega)
              exact y_index rfl h1 h2 (by omega) Tryd.underlying36 (fun _ => by kernel_rfl) ⟨fun _ => ⟨⟨b1, q, none⟩, y, rfl, e1, cy, y0, y1⟩, (fun h => by cases h), ⟨(hR.1.mono (by omega)), hR.2⟩, stx _ _ (Ex.refl _ _)⟩
            | 8, ho =>
              obtain rfl := Option.some.inj ho
              have q1 := hdeps 7 _ 49 ⟨{ on := 7, ground := .data }, by simp, rfl, rfl⟩ rfl rfl
              obtain ⟨p1, y1, h1, e1, c1, l1, u1⟩ := q1
              exact y_load rfl h1 c1 (fun _ => by kernel_rfl) ⟨fun _ => ⟨y1, rfl, by omega, by omega⟩, (fun h => by cases h), ⟨(hR.1.mono (by omega)), hR.2⟩, stx _ _ (Ex.refl _ _)⟩
            | 9, ho =>
              obtain rfl := Option.some.inj ho
              have q1 := hdeps 3 _ 45 ⟨{ on := 3, ground := .data }, by simp, rfl, rfl⟩ rfl rfl
              obtain ⟨b1, h1, e1, c1⟩ := q1
              have q2 := hdeps 8 _ 50 ⟨{ on := 8, ground := .data }, by simp, rfl, rfl⟩ rfl rfl
              obtain ⟨k2, h2, l2, u2⟩ := q2
              obtain ⟨q, rfl⟩ := Int.eq_ofNat_of_zero_le (show 0 ≤ k2 by omega)
              obtain ⟨y, cy, y0, y1⟩ := c1 q (by omega)
              exact y_index rfl h1 h2 (by omega) Tryd.underlying36 (fun _ => by kernel_rfl) ⟨fun _ => ⟨⟨b1, q, none⟩, y, rfl, e1, cy, y0, y1⟩, (fun h => by cases h), ⟨(hR.1.mono (by omega)), hR.2⟩, stx _ _ (Ex.refl _ _)⟩
            | 10, ho =>
              obtain rfl := Option.some.inj ho
              have q1 := hdeps 9 _ 51 ⟨{ on := 9, ground := .data }, by simp, rfl, rfl⟩ rfl rfl
              obtain ⟨p1, y1, h1, e1, c1, l1, u1⟩ := q1
              exact y_load rfl h1 c1 (fun _ => by kernel_rfl) ⟨fun _ => ⟨y1, rfl, by omega, by omega⟩, (fun h => by cases h), ⟨(hR.1.mono (by omega)), hR.2⟩, stx _ _ (Ex.refl _ _)⟩
            | 11, ho =>
              obtain rfl := Option.some.inj ho
              have h0 : a.tmps.getD 9 undef = wv := hrest 9 (by decide)
              exact y_move rfl ⟨fun _ => h0, (fun h => by cases h), ⟨(hR.1.mono (by omega)), hR.2⟩, stx _ _ (Ex.refl _ _)⟩
            | 12, ho =>
              obtain rfl := Option.some.inj ho
              have h0 : a.tmps.getD 8 undef = .int .i64 sk := hrest 8 (by decide)
              exact y_move rfl ⟨fun _ => h0, (fun h => by cases h), ⟨(hR.1.mono (by omega)), hR.2⟩, stx _ _ (Ex.refl _ _)⟩
            | 13, ho =>
              obtain rfl := Option.some.inj ho
              exact y_assign rfl ⟨fun _ => hdeps 0 _ 42 ⟨{ on := 0, ground := .data }, by simp, rfl, rfl⟩ rfl rfl, (fun h => by cases h), ⟨(hR.1.mono (by omega)), hR.2⟩, stx _ _ (Ex.refl _ _)⟩
            | 14, ho =>
              obtain rfl := Option.some.inj ho
              exact y_assign rfl ⟨fun _ => hdeps 10 _ 52 ⟨{ on := 10, ground := .data }, by simp, rfl, rfl⟩ rfl rfl, (fun h => by cases h), ⟨(hR.1.mono (by omega)), hR.2⟩, stx _ _ (Ex.refl _ _)⟩
            | 15, ho =>
              obtain rfl := Option.some.inj ho
              exact y_assign rfl ⟨fun _ => hdeps 11 _ 53 ⟨{ on := 11, ground := .data }, by simp, rfl, rfl⟩ rfl rfl, (fun h => by cases h), ⟨(hR.1.mono (by omega)), hR.2⟩, stx _ _ (Ex.refl _ _)⟩
            | 16, ho =>
              obtain rfl := Option.some.inj ho
              exact y_assign rfl ⟨fun _ => hdeps 12 _ 54 ⟨{ on := 12, ground := .data }, by simp, rfl, rfl⟩ rfl rfl, (fun h => by cases h), ⟨(hR.1.mono (by omega)), hR.2⟩, stx _ _ (Ex.refl _ _)⟩
            | _ + 17, ho => cases ho
          · intro a w9 hR hsz hdf hrest htyp hbare
            have HE := Lib.hid ((HB.out.ex HX4.out hl).ex (HX7.out.trans (ExS.ex hR.2.1)) hl)
            have HV9 := Lib.hid ((HVL.out.ex (HX7.out.trans (ExS.ex hR.2.1)) hr).lower hz1)
            have HW9 := Lib.hid ((Val.ex HVW.out (ExS.ex hR.2.1) (by omega)).lower (by omega : w.heap.size ≤ w4.heap.size))
            clear hR
            obtain ⟨x42, e42⟩ : ∃ x, a.tmps.getD 42 undef = x := ⟨_, rfl⟩
            obtain ⟨x43, e43⟩ : ∃ x, a.tmps.getD 43 undef = x := ⟨_, rfl⟩
            obtain ⟨x44, e44⟩ : ∃ x, a.tmps.getD 44 undef = x := ⟨_, rfl⟩
            obtain ⟨x45, e45⟩ : ∃ x, a.tmps.getD 45 undef = x := ⟨_, rfl⟩
            obtain ⟨x46, e46⟩ : ∃ x, a.tmps.getD 46 undef = x := ⟨_, rfl⟩
            obtain ⟨x47, e47⟩ : ∃ x, a.tmps.getD 47 undef = x := ⟨_, rfl⟩
            obtain ⟨x48, e48⟩ : ∃ x, a.tmps.getD 48 undef = x := ⟨_, rfl⟩
            obtain ⟨x49, e49⟩ : ∃ x, a.tmps.getD 49 undef = x := ⟨_, rfl⟩
            obtain ⟨x50, e50⟩ : ∃ x, a.tmps.getD 50 undef = x := ⟨_, rfl⟩
            obtain ⟨x51, e51⟩ : ∃ x, a.tmps.getD 51 undef = x := ⟨_, rfl⟩
            obtain ⟨x52, e52⟩ : ∃ x, a.tmps.getD 52 undef = x := ⟨_, rfl⟩
            obtain ⟨x53, e53⟩ : ∃ x, a.tmps.getD 53 undef = x := ⟨_, rfl⟩
            obtain ⟨x54, e54⟩ : ∃ x, a.tmps.getD 54 undef = x := ⟨_, rfl⟩
            have e2 : a.tmps.getD 2 undef = u := htyp 13 _ 2 rfl rfl
            obtain ⟨k3, e3, l3, u3⟩ := htyp 14 _ 3 rfl rfl
            have e4 : a.tmps.getD 4 undef = wv := htyp 15 _ 4 rfl rfl
            have e5 : a.tmps.getD 5 undef = .int .i64 sk := htyp 16 _ 5 rfl rfl
            have ha := act_puts hsz hdf hrest [(42, x42), (43, x43), (44, x44), (45, x45), (46, x46), (47, x47), (48, x48), (49, x49), (50, x50), (51, x51), (52, x52), (53, x53), (54, x54), (2, u), (3, .int .i64 k3), (4, wv), (5, .int .i64 sk)] rfl ⟨by decide, fun d hd => (by decide : ∀ d ∈ ([42, 43, 44, 45, 46, 47, 48, 49, 50, 51, 52, 53, 54, 2, 3, 4, 5] : List Nat), d < 55) d hd⟩ (by simp only [List.forall_mem_cons]; exact ⟨e42, e43, e44, e45, e46, e47, e48, e49, e50, e51, e52, e53, e54, e2, e3, e4, e5, fun _ h => by cases h⟩)
            clear hsz hdf hrest htyp hbare e42 e43 e44 e45 e46 e47 e48 e49 e50 e51 e52 e53 e54 e2 e3 e4 e5
            subst ha
            simp only [List.foldl_cons, List.foldl_nil, Act.put, List.setIfInBounds_toArray, List.set_cons_zero, List.set_cons_succ]
            go_wp2
            go_returns
            exact ⟨u, xs, k3, wv, ws, sk, rfl, by unfold smI; omega, ⟨sk0, by omega⟩, HV9.out, HP.out, HW9.out, HWP.out, HE.out⟩
        | true =>
          have hcut := run_cut_low (P := Tryd.prog) (n := 4) (A := some ⟨g, 0, none⟩) (c := cap) Tryd.underlying36 kinfo_I 1 (by omega)
          have hpt := HRow7.out.cell.1.part 1 4 (by omega) (by have := HW6.out.1; omega) (by have := HW6.out.1; omega)
          rw [if_neg (by omega)] at hcut hpt
          simp only [Int.cast_ofNat_Int] at hcut
          obtain ⟨wv, hvc⟩ : ∃ wv, (Value.slice (Option.map (fun x : Addr => x.add (1 * 1)) (some (⟨g, 0, none⟩ : Addr))) (4 - 1) (cap - 1)) = wv := ⟨_, rfl⟩
          have hcp' : ∀ A n c, wv = .slice A n c → n ≤ c ∧ c ≤ 9223372036854775807 := by
            have hcc := (HRow7.out.cap _ _ _ rfl).2
            intro A n c' h; rw [← hvc] at h; injection h with e1 e2 e3; omega
          rw [hvc] at hcut hpt
          have HVW : Hid (Val 1 (one encI) w4.heap.size w7 wv (part ws 1 4)) := ⟨hpt.1, hpt.2 _ HRow7.out.cell.2, hcp'⟩
          have HWP : Hid (drawnInts 4 (part ws 1 4)) := ⟨by rw [part_len (by have := HW6.out.1; omega)]; omega, fun z hz => HW6.out.2 z (List.mem_of_mem_take (List.mem_of_mem_drop hz))⟩
          clear hpt hvc hcp'
          generalize part ws 1 4 = ws at HVW HWP
          go_wp2_with fail
          clear hcut
          have stx : ∀ w w', Ex rb w w' → St (· = rb) (fun _ => True) (fun _ => True) w w' := fun w w' hx => ⟨ExS.of_ex hx rfl, fun _ => trivial, fun _ => trivial⟩
          have hSlt : ∀ k, ((· = rb)) k → k < (w7).heap.size := fun k hk => by subst hk; exact hr3
          refine wp_region_typed [42, 43, 44, 45, 46, 47, 48, 49, 50, 51, 52, 53, 54, 2, 3, 4, 5] (by kernel_rfl) (by kernel_rfl) (by kernel_rfl) (fun n w' => Rd w' rb (300 + n) ∧ Rel (· = rb) (fun _ => True) w7 w') (fun i => (([.eq (u), .eq (.pointer (some ⟨rb, 0, none⟩)), .int (0) (199), .ints 3 (0) (1001), .ints 6 (0) (2), .eq (.pointer (some ⟨rb, 0, none⟩)), .int (0) (5), .adr (0) (2), .int (0) (2), .adr (0) (1001), .int (0) (1001), .eq (wv), .eq (.int .i64 sk), .eq (u), .int (0) (1001), .eq (wv), .eq (.int .i64 sk)] : List Ty).getD i .top).den (· = rb) (fun _ => True)) (St (· = rb) (fun _ => True) (fun _ => True)) ⟨(R7.out).drew.mono (by omega), (HREL).step (stx _ _ ((Ex.refl _ _).drew))⟩ (fun i v w w' hx h => Ty.den_ex _ hx h) ?_ ?_
          · intro i o ho a n w hn hR hrest hdeps
            have hn' : n < 17 := hn
            match i, ho with
            | 0, ho =>
              obtain rfl := Option.some.inj ho
              have h0 : a.tmps.getD 7 undef = u := hrest 7 (by decide)
              exact y_move rfl ⟨fun _ => h0, (fun h => by cases h), ⟨(hR.1.mono (by omega)), hR.2⟩, stx _ _ (Ex.refl _ _)⟩
            | 1, ho =>
              obtain rfl := Option.some.inj ho
              have h0 : a.tmps.getD 6 undef = .pointer (some ⟨rb, 0, none⟩) := hrest 6 (by decide)
              exact y_move rfl ⟨fun _ => h0, (fun h => by cases h), ⟨(hR.1.mono (by omega)), hR.2⟩, stx _ _ (Ex.refl _ _)⟩
            | 2, ho =>
              obtain rfl := Option.some.inj ho
              have q1 := hdeps 1 _ 43 ⟨{ on := 1, ground := .data }, by simp, rfl, rfl⟩ rfl rfl
              have h1 : a.tmps.getD 43 undef = .pointer (some ⟨rb, 0, none⟩) := q1
              refine y_call (args := #[.pointer (some ⟨rb, 0, none⟩), .int .i64 200]) rfl (fun _ _ => by kernel_rfl) (by simp [Act.eval, h1]) ?_
              exact (pick_any rb _ 200 _ hR.1 (by omega) (by omega) (by omega)).mono fun e w2 ⟨k, he, k0, k1, r2, x2⟩ => ⟨_, he, fun _ => ⟨k, rfl, by omega, by omega⟩, (fun h => by cases h), ⟨r2.mono (by omega), hR.2.step (stx _ _ x2)⟩, stx _ _ x2⟩
            | 3, ho =>
              obtain rfl := Option.some.inj ho
              have q1 := hdeps 2 _ 44 ⟨{ on := 2, ground := .data }, by simp, rfl, rfl⟩ rfl rfl
              obtain ⟨k1, h1, l1, u1⟩ := q1
              refine y_lit (cs := #[.int .i64 k1, .int .i64 (1000), .int .i64 (1001)]) (E := 3) ?_ ?_
              · intro W; simp only [Array.getD_eq_getD_getElem?] at h1; go_simp
              · exact ⟨fun _ => ints_made hSlt hR.2 rfl (by simp <;> omega), (fun h => by cases h), ⟨(hR.1.alloc _).mono (by omega), hR.2.step (stx _ _ ((Ex.refl _ _).alloc _))⟩, stx _ _ ((Ex.refl _ _).alloc _)⟩
            | 4, ho =>
              obtain rfl := Option.some.inj ho
              refine y_lit (cs := #[.int .i64 (0), .int .i64 (0), .int .i64 (0), .int .i64 (0), .int .i64 (1), .int .i64 (2)]) (E := 3) ?_ ?_
              · intro W; go_simp
              · exact ⟨fun _ => ints_made hSlt hR.2 rfl (by simp <;> omega), (fun h => by cases h), ⟨(hR.1.alloc _).mono (by omega), hR.2.step (stx _ _ ((Ex.refl _ _).alloc _))⟩, stx _ _ ((Ex.refl _ _).alloc _)⟩
            | 5, ho =>
              obtain rfl := Option.some.inj ho
              have h0 : a.tmps.getD 6 undef = .pointer (some ⟨rb, 0, none⟩) := hrest 6 (by decide)
              exact y_move rfl ⟨fun _ => h0, (fun h => by cases h), ⟨(hR.1.mono (by omega)), hR.2⟩, stx _ _ (Ex.refl _ _)⟩
            | 6, ho =>
              obtain rfl := Option.some.inj ho
              have q1 := hdeps 5 _ 47 ⟨{ on := 5, ground := .data }, by simp, rfl, rfl⟩ rfl rfl
              have h1 : a.tmps.getD 47 undef = .pointer (some ⟨rb, 0, none⟩) := q1
              refine y_call (args := #[.pointer (some ⟨rb, 0, none⟩), .int .i64 6]) rfl (fun _ _ => by kernel_rfl) (by simp [Act.eval, h1]) ?_
              exact (pick_any rb _ 6 _ hR.1 (by omega) (by omega) (by omega)).mono fun e w2 ⟨k, he, k0, k1, r2, x2⟩ => ⟨_, he, fun _ => ⟨k, rfl, by omega, by omega⟩, (fun h => by cases h), ⟨r2.mono (by omega), hR.2.step (stx _ _ x2)⟩, stx _ _ x2⟩
            | 7, ho =>
              obtain rfl := Option.some.inj ho
              have q1 := hdeps 4 _ 46 ⟨{ on := 4, ground := .data }, by simp, rfl, rfl⟩ rfl rfl
              obtain ⟨b1, h1, e1, c1⟩ := q1
              have q2 := hdeps 6 _ 48 ⟨{ on := 6, ground := .data }, by simp, rfl, rfl⟩ rfl rfl
              obtain ⟨k2, h2, l2, u2⟩ := q2
              obtain ⟨q, rfl⟩ := Int.eq_ofNat_of_zero_le (show 0 ≤ k2 by omega)
              obtain ⟨y, cy, y0, y1⟩ := c1 q (by omega)
              exact y_index rfl h1 h2 (by omega) Tryd.underlying36 (fun _ => by kernel_rfl) ⟨fun _ => ⟨⟨b1, q, none⟩, y, rfl, e1, cy, y0, y1⟩, (fun h => by cases h), ⟨(hR.1.mono (by omega)), hR.2⟩, stx _ _ (Ex.refl _ _)⟩
            | 8, ho =>
              obtain rfl := Option.some.inj ho
              have q1 := hdeps 7 _ 49 ⟨{ on := 7, ground := .data }, by simp, rfl, rfl⟩ rfl rfl
              obtain ⟨p1, y1, h1, e1, c1, l1, u1⟩ := q1
              exact y_load rfl h1 c1 (fun _ => by kernel_rfl) ⟨fun _ => ⟨y1, rfl, by omega, by omega⟩, (fun h => by cases h), ⟨(hR.1.mono (by omega)), hR.2⟩, stx _ _ (Ex.refl _ _)⟩
            | 9, ho =>
              obtain rfl := Option.some.inj ho
              have q1 := hdeps 3 _ 45 ⟨{ on := 3, ground := .data }, by simp, rfl, rfl⟩ rfl rfl
              obtain ⟨b1, h1, e1, c1⟩ := q1
              have q2 := hdeps 8 _ 50 ⟨{ on := 8, ground := .data }, by simp, rfl, rfl⟩ rfl rfl
              obtain ⟨k2, h2, l2, u2⟩ := q2
              obtain ⟨q, rfl⟩ := Int.eq_ofNat_of_zero_le (show 0 ≤ k2 by omega)
              obtain ⟨y, cy, y0, y1⟩ := c1 q (by omega)
              exact y_index rfl h1 h2 (by omega) Tryd.underlying36 (fun _ => by kernel_rfl) ⟨fun _ => ⟨⟨b1, q, none⟩, y, rfl, e1, cy, y0, y1⟩, (fun h => by cases h), ⟨(hR.1.mono (by omega)), hR.2⟩, stx _ _ (Ex.refl _ _)⟩
            | 10, ho =>
              obtain rfl := Option.some.inj ho
              have q1 := hdeps 9 _ 51 ⟨{ on := 9, ground := .data }, by simp, rfl, rfl⟩ rfl rfl
              obtain ⟨p1, y1, h1, e1, c1, l1, u1⟩ := q1
              exact y_load rfl h1 c1 (fun _ => by kernel_rfl) ⟨fun _ => ⟨y1, rfl, by omega, by omega⟩, (fun h => by cases h), ⟨(hR.1.mono (by omega)), hR.2⟩, stx _ _ (Ex.refl _ _)⟩
            | 11, ho =>
              obtain rfl := Option.some.inj ho
              have h0 : a.tmps.getD 9 undef = wv := hrest 9 (by decide)
              exact y_move rfl ⟨fun _ => h0, (fun h => by cases h), ⟨(hR.1.mono (by omega)), hR.2⟩, stx _ _ (Ex.refl _ _)⟩
            | 12, ho =>
              obtain rfl := Option.some.inj ho
              have h0 : a.tmps.getD 8 undef = .int .i64 sk := hrest 8 (by decide)
              exact y_move rfl ⟨fun _ => h0, (fun h => by cases h), ⟨(hR.1.mono (by omega)), hR.2⟩, stx _ _ (Ex.refl _ _)⟩
            | 13, ho =>
              obtain rfl := Option.some.inj ho
              exact y_assign rfl ⟨fun _ => hdeps 0 _ 42 ⟨{ on := 0, ground := .data }, by simp, rfl, rfl⟩ rfl rfl, (fun h => by cases h), ⟨(hR.1.mono (by omega)), hR.2⟩, stx _ _ (Ex.refl _ _)⟩
            | 14, ho =>
              obtain rfl := Option.some.inj ho
              exact y_assign rfl ⟨fun _ => hdeps 10 _ 52 ⟨{ on := 10, ground := .data }, by simp, rfl, rfl⟩ rfl rfl, (fun h => by cases h), ⟨(hR.1.mono (by omega)), hR.2⟩, stx _ _ (Ex.refl _ _)⟩
            | 15, ho =>
              obtain rfl := Option.some.inj ho
              exact y_assign rfl ⟨fun _ => hdeps 11 _ 53 ⟨{ on := 11, ground := .data }, by simp, rfl, rfl⟩ rfl rfl, (fun h => by cases h), ⟨(hR.1.mono (by omega)), hR.2⟩, stx _ _ (Ex.refl _ _)⟩
            | 16, ho =>
              obtain rfl := Option.some.inj ho
              exact y_assign rfl ⟨fun _ => hdeps 12 _ 54 ⟨{ on := 12, ground := .data }, by simp, rfl, rfl⟩ rfl rfl, (fun h => by cases h), ⟨(hR.1.mono (by omega)), hR.2⟩, stx _ _ (Ex.refl _ _)⟩
            | _ + 17, ho => cases ho
          · intro a w9 hR hsz hdf hrest htyp hbare
            have HE := Lib.hid ((HB.out.ex HX4.out hl).ex (HX7.out.trans (ExS.ex hR.2.1)) hl)
            have HV9 := Lib.hid ((HVL.out.ex (HX7.out.trans (ExS.ex hR.2.1)) hr).lower hz1)
            have HW9 := Lib.hid ((Val.ex HVW.out (ExS.ex hR.2.1) (by omega)).lower (by omega : w.heap.size ≤ w4.heap.size))
            clear hR
            obtain ⟨x42, e42⟩ : ∃ x, a.tmps.getD 42 undef = x := ⟨_, rfl⟩
            obtain ⟨x43, e43⟩ : ∃ x, a.tmps.getD 43 undef = x := ⟨_, rfl⟩
            obtain ⟨x44, e44⟩ : ∃ x, a.tmps.getD 44 undef = x := ⟨_, rfl⟩
            obtain ⟨x45, e45⟩ : ∃ x, a.tmps.getD 45 undef = x := ⟨_, rfl⟩
            obtain ⟨x46, e46⟩ : ∃ x, a.tmps.getD 46 undef = x := ⟨_, rfl⟩
            obtain ⟨x47, e47⟩ : ∃ x, a.tmps.getD 47 undef = x := ⟨_, rfl⟩
            obtain ⟨x48, e48⟩ : ∃ x, a.tmps.getD 48 undef = x := ⟨_, rfl⟩
            obtain ⟨x49, e49⟩ : ∃ x, a.tmps.getD 49 undef = x := ⟨_, rfl⟩
            obtain ⟨x50, e50⟩ : ∃ x, a.tmps.getD 50 undef = x := ⟨_, rfl⟩
            obtain ⟨x51, e51⟩ : ∃ x, a.tmps.getD 51 undef = x := ⟨_, rfl⟩
            obtain ⟨x52, e52⟩ : ∃ x, a.tmps.getD 52 undef = x := ⟨_, rfl⟩
            obtain ⟨x53, e53⟩ : ∃ x, a.tmps.getD 53 undef = x := ⟨_, rfl⟩
            obtain ⟨x54, e54⟩ : ∃ x, a.tmps.getD 54 undef = x := ⟨_, rfl⟩
            have e2 : a.tmps.getD 2 undef = u := htyp 13 _ 2 rfl rfl
            obtain ⟨k3, e3, l3, u3⟩ := htyp 14 _ 3 rfl rfl
            have e4 : a.tmps.getD 4 undef = wv := htyp 15 _ 4 rfl rfl
            have e5 : a.tmps.getD 5 undef = .int .i64 sk := htyp 16 _ 5 rfl rfl
            have ha := act_puts hsz hdf hrest [(42, x42), (43, x43), (44, x44), (45, x45), (46, x46), (47, x47), (48, x48), (49, x49), (50, x50), (51, x51), (52, x52), (53, x53), (54, x54), (2, u), (3, .int .i64 k3), (4, wv), (5, .int .i64 sk)] rfl ⟨by decide, fun d hd => (by decide : ∀ d ∈ ([42, 43, 44, 45, 46, 47, 48, 49, 50, 51, 52, 53, 54, 2, 3, 4, 5] : List Nat), d < 55) d hd⟩ (by simp only [List.forall_mem_cons]; exact ⟨e42, e43, e44, e45, e46, e47, e48, e49, e50, e51, e52, e53, e54, e2, e3, e4, e5, fun _ h => by cases h⟩)
            clear hsz hdf hrest htyp hbare e42 e43 e44 e45 e46 e47 e48 e49 e50 e51 e52 e53 e54 e2 e3 e4 e5
            subst ha
            simp only [List.foldl_cons, List.foldl_nil, Act.put, List.setIfInBounds_toArray, List.set_cons_zero, List.set_cons_succ]
            go_wp2
            go_returns
            exact ⟨u, xs, k3, wv, ws, sk, rfl, by unfold smI; omega, ⟨sk0, by omega⟩, HV9.out, HP.out, HW9.out, HWP.out, HE.out⟩
      | true =>
        obtain ⟨x, hx⟩ := at_some (show 0 < ws.length by omega)
        obtain ⟨A', c', hA', hcell'⟩ := id HRow5.out.cell.1
        injection hA' with e1 e4 e3
        subst e1
        obtain ⟨b', off', hb', hlt', hcl⟩ := hcell' (by omega)
        injection hb' with hb'
        injection hb' with e5 e6
        subst e5 e6
        have c0 := hcl 0 x hx 0 (by omega)
        simp only [Nat.zero_add, Nat.mul_one, Nat.add_zero, one, encI] at c0
        have f0 : w6.frozen? ⟨g, 0, none⟩ = false := HRow5.out.cell.2.cell_free (by omega) _
        have hset := Row.set1 HRow5.out 0 (sk + 1)
        have HX6 := Lib.hid (HX5.out.grown hset.2 (fun k hk => by injection hk with hk; omega))
        have HR6 := Lib.hid (HR5.out.grown hset.2 (fun k hk => by injection hk with hk; omega))
        have HRow6 := Lib.hid hset.1
        have HW6 : Hid ((ws.set 0 (sk + 1)).length = 4 ∧ ∀ x ∈ ws.set 0 (sk + 1), smI x) := ⟨by simp [hwl], fun z hz => by
          rcases List.mem_or_eq_of_mem_set hz with hz | rfl
          · exact HL.out.2 z hz
          · unfold smI; omega⟩
        generalize ws.set 0 (sk + 1) = ws at HRow6 HW6
        clear hcl hcell' e4 e3 hx hset HL HX5 HR5 HRow5 hwl
        have hr6 := HR6.out.lt
        go_wp2_with fail
        refine (odd_any rb _ 14 _ HR6.out (by omega) (by omega)).mono ?_
        rintro e w7 ⟨k14, rfl, r7, x7⟩
        have hr3 := r7.lt
        have HX7 := Lib.hid (HX6.out.trans x7)
        have R7 := Lib.hid r7
        have HRow7 := Lib.hid (HRow6.out.ex x7 hr4)
        clear r7 x7
        have HREL : Rel (· = rb) (fun _ => True) w7 w7 := ⟨ExS.refl _ _, trivial⟩
        cases k14 with
        | false =>
          obtain ⟨wv, hwv⟩ : ∃ wv, Value.slice (some (⟨g, 0, none⟩ : Addr)) 4 cap = wv := ⟨_, rfl⟩
          rw [hwv] at HRow7
          have HVW := Lib.hid HRow7.out.val
          have HWP : Hid (drawnInts 4 ws) := ⟨by rw [HW6.out.1]; omega, HW6.out.2⟩
          go_wp2_with fail
          clear hwv
          have stx : ∀ w w', Ex rb w w' → St (· = rb) (fun _ => True) (fun _ => True) w w' := fun w w' hx => ⟨ExS.of_ex hx rfl, fun _ => trivial, fun _ => trivial⟩
          have hSlt : ∀ k, ((· = rb)) k → k < (w7).heap.size := fun k hk => by subst hk; exact hr3
          refine wp_region_typed [42, 43, 44, 45, 46, 47, 48, 49, 50, 51, 52, 53, 54, 2, 3, 4, 5] (by kernel_rfl) (by kernel_rfl) (by kernel_rfl) (fun n w' => Rd w' rb (300 + n) ∧ Rel (· = rb) (fun _ => True) w7 w') (fun i => (([.eq (u), .eq (.pointer (some ⟨rb, 0, none⟩)), .int (0) (199), .ints 3 (0) (1001), .ints 6 (0) (2), .eq (.pointer (some ⟨rb, 0, none⟩)), .int (0) (5), .adr (0) (2), .int (0) (2), .adr (0) (1001), .int (0) (1001), .eq (wv), .eq (.int .i64 sk), .eq (u), .int (0) (1001), .eq (wv), .eq (.int .i64 sk)] : List Ty).getD i .top).den (· = rb) (fun _ => True)) (St (· = rb) (fun _ => True) (fun _ => True)) ⟨(R7.out).drew.mono (by omega), (HREL).step (stx _ _ ((Ex.refl _ _).drew))⟩ (fun i v w w' hx h => Ty.den_ex _ hx h) ?_ ?_
          · intro i o ho a n w hn hR hrest hdeps
            have hn' : n < 17 := hn
            match i, ho with
            | 0, ho =>
              obtain rfl := Option.some.inj ho
              have h0 : a.tmps.getD 7 undef = u := hrest 7 (by decide)
              exact y_move rfl ⟨fun _ => h0, (fun h => by cases h), ⟨(hR.1.mono (by omega)), hR.2⟩, stx _ _ (Ex.refl _ _)⟩
            | 1, ho =>
              obtain rfl := Option.some.inj ho
              have h0 : a.tmps.getD 6 undef = .pointer (some ⟨rb, 0, none⟩) := hrest 6 (by decide)
              exact y_move rfl ⟨fun _ => h0, (fun h => by cases h), ⟨(hR.1.mono (by omega)), hR.2⟩, stx _ _ (Ex.refl _ _)⟩
            | 2, ho =>
              obtain rfl := Option.some.inj ho
              have q1 := hdeps 1 _ 43 ⟨{ on := 1, ground := .data }, by simp, rfl, rfl⟩ rfl rfl
              have h1 : a.tmps.getD 43 undef = .pointer (some ⟨rb, 0, none⟩) := q1
              refine y_call (args := #[.pointer (some ⟨rb, 0, none⟩), .int .i64 200]) rfl (fun _ _ => by kernel_rfl) (by simp [Act.eval, h1]) ?_
              exact (pick_any rb _ 200 _ hR.1 (by omega) (by omega) (by omega)).mono fun e w2 ⟨k, he, k0, k1, r2, x2⟩ => ⟨_, he, fun _ => ⟨k, rfl, by omega, by omega⟩, (fun h => by cases h), ⟨r2.mono (by omega), hR.2.step (stx _ _ x2)⟩, stx _ _ x2⟩
            | 3, ho =>
              obtain rfl := Option.some.inj ho
              have q1 := hdeps 2 _ 44 ⟨{ on := 2, ground := .data }, by simp, rfl, rfl⟩ rfl rfl
              obtain ⟨k1, h1, l1, u1⟩ := q1
              refine y_lit (cs := #[.int .i64 k1, .int .i64 (1000), .int .i64 (1001)]) (E := 3) ?_ ?_
              · intro W; simp only [Array.getD_eq_getD_getElem?] at h1; go_simp
              · exact ⟨fun _ => ints_made hSlt hR.2 rfl (by simp <;> omega), (fun h => by cases h), ⟨(hR.1.alloc _).mono (by omega), hR.2.step (stx _ _ ((Ex.refl _ _).alloc _))⟩, stx _ _ ((Ex.refl _ _).alloc _)⟩
            | 4, ho =>
              obtain rfl := Option.some.inj ho
              refine y_lit (cs := #[.int .i64 (0), .int .i64 (0), .int .i64 (0), .int .i64 (0), .int .i64 (1), .int .i64 (2)]) (E := 3) ?_ ?_
              · intro W; go_simp
              · exact ⟨fun _ => ints_made hSlt hR.2 rfl (by simp <;> omega), (fun h => by cases h), ⟨(hR.1.alloc _).mono (by omega), hR.2.step (stx _ _ ((Ex.refl _ _).alloc _))⟩, stx _ _ ((Ex.refl _ _).alloc _)⟩
            | 5, ho =>
              obtain rfl := Option.some.inj ho
              have h0 : a.tmps.getD 6 undef = .pointer (some ⟨rb, 0, none⟩) := hrest 6 (by decide)
              exact y_move rfl ⟨fun _ => h0, (fun h => by cases h), ⟨(hR.1.mono (by omega)), hR.2⟩, stx _ _ (Ex.refl _ _)⟩
            | 6, ho =>
              obtain rfl := Option.some.inj ho
              have q1 := hdeps 5 _ 47 ⟨{ on := 5, ground := .data }, by simp, rfl, rfl⟩ rfl rfl
              have h1 : a.tmps.getD 47 undef = .pointer (some ⟨rb, 0, none⟩) := q1
              refine y_call (args := #[.pointer (some ⟨rb, 0, none⟩), .int .i64 6]) rfl (fun _ _ => by kernel_rfl) (by simp [Act.eval, h1]) ?_
              exact (pick_any rb _ 6 _ hR.1 (by omega) (by omega) (by omega)).mono fun e w2 ⟨k, he, k0, k1, r2, x2⟩ => ⟨_, he, fun _ => ⟨k, rfl, by omega, by omega⟩, (fun h => by cases h), ⟨r2.mono (by omega), hR.2.step (stx _ _ x2)⟩, stx _ _ x2⟩
            | 7, ho =>
              obtain rfl := Option.some.inj ho
              have q1 := hdeps 4 _ 46 ⟨{ on := 4, ground := .data }, by simp, rfl, rfl⟩ rfl rfl
              obtain ⟨b1, h1, e1, c1⟩ := q1
              have q2 := hdeps 6 _ 48 ⟨{ on := 6, ground := .data }, by simp, rfl, rfl⟩ rfl rfl
              obtain ⟨k2, h2, l2, u2⟩ := q2
              obtain ⟨q, rfl⟩ := Int.eq_ofNat_of_zero_le (show 0 ≤ k2 by omega)
              obtain ⟨y, cy, y0, y1⟩ := c1 q (by omega)
              exact y_index rfl h1 h2 (by omega) Tryd.underlying36 (fun _ => by kernel_rfl) ⟨fun _ => ⟨⟨b1, q, none⟩, y, rfl, e1, cy, y0, y1⟩, (fun h => by cases h), ⟨(hR.1.mono (by omega)), hR.2⟩, stx _ _ (Ex.refl _ _)⟩
            | 8, ho =>
              obtain rfl := Option.some.inj ho
              have q1 := hdeps 7 _ 49 ⟨{ on := 7, ground := .data }, by simp, rfl, rfl⟩ rfl rfl
              obtain ⟨p1, y1, h1, e1, c1, l1, u1⟩ := q1
              exact y_load rfl h1 c1 (fun _ => by kernel_rfl) ⟨fun _ => ⟨y1, rfl, by omega, by omega⟩, (fun h => by cases h), ⟨(hR.1.mono (by omega)), hR.2⟩, stx _ _ (Ex.refl _ _)⟩
            | 9, ho =>
              obtain rfl := Option.some.inj ho
              have q1 := hdeps 3 _ 45 ⟨{ on := 3, ground := .data }, by simp, rfl, rfl⟩ rfl rfl
              obtain ⟨b1, h1, e1, c1⟩ := q1
              have q2 := hdeps 8 _ 50 ⟨{ on := 8, ground := .data }, by simp, rfl, rfl⟩ rfl rfl
              obtain ⟨k2, h2, l2, u2⟩ := q2
              obtain ⟨q, rfl⟩ := Int.eq_ofNat_of_zero_le (show 0 ≤ k2 by omega)
              obtain ⟨y, cy, y0, y1⟩ := c1 q (by omega)
              exact y_index rfl h1 h2 (by omega) Tryd.underlying36 (fun _ => by kernel_rfl) ⟨fun _ => ⟨⟨b1, q, none⟩, y, rfl, e1, cy, y0, y1⟩, (fun h => by cases h), ⟨(hR.1.mono (by omega)), hR.2⟩, stx _ _ (Ex.refl _ _)⟩
            | 10, ho =>
              obtain rfl := Option.some.inj ho
              have q1 := hdeps 9 _ 51 ⟨{ on := 9, ground := .data }, by simp, rfl, rfl⟩ rfl rfl
              obtain ⟨p1, y1, h1, e1, c1, l1, u1⟩ := q1
              exact y_load rfl h1 c1 (fun _ => by kernel_rfl) ⟨fun _ => ⟨y1, rfl, by omega, by omega⟩, (fun h => by cases h), ⟨(hR.1.mono (by omega)), hR.2⟩, stx _ _ (Ex.refl _ _)⟩
            | 11, ho =>
              obtain rfl := Option.some.inj ho
              have h0 : a.tmps.getD 9 undef = wv := hrest 9 (by decide)
              exact y_move rfl ⟨fun _ => h0, (fun h => by cases h), ⟨(hR.1.mono (by omega)), hR.2⟩, stx _ _ (Ex.refl _ _)⟩
            | 12, ho =>
              obtain rfl := Option.some.inj ho
              have h0 : a.tmps.getD 8 undef = .int .i64 sk := hrest 8 (by decide)
              exact y_move rfl ⟨fun _ => h0, (fun h => by cases h), ⟨(hR.1.mono (by omega)), hR.2⟩, stx _ _ (Ex.refl _ _)⟩
            | 13, ho =>
              obtain rfl := Option.some.inj ho
              exact y_assign rfl ⟨fun _ => hdeps 0 _ 42 ⟨{ on := 0, ground := .data }, by simp, rfl, rfl⟩ rfl rfl, (fun h => by cases h), ⟨(hR.1.mono (by omega)), hR.2⟩, stx _ _ (Ex.refl _ _)⟩
            | 14, ho =>
              obtain rfl := Option.some.inj ho
              exact y_assign rfl ⟨fun _ => hdeps 10 _ 52 ⟨{ on := 10, ground := .data }, by simp, rfl, rfl⟩ rfl rfl, (fun h => by cases h), ⟨(hR.1.mono (by omega)), hR.2⟩, stx _ _ (Ex.refl _ _)⟩
            | 15, ho =>
              obtain rfl := Option.some.inj ho
              exact y_assign rfl ⟨fun _ => hdeps 11 _ 53 ⟨{ on := 11, ground := .data }, by simp, rfl, rfl⟩ rfl rfl, (fun h => by cases h), ⟨(hR.1.mono (by omega)), hR.2⟩, stx _ _ (Ex.refl _ _)⟩
            | 16, ho =>
              obtain rfl := Option.some.inj ho
              exact y_assign rfl ⟨fun _ => hdeps 12 _ 54 ⟨{ on := 12, ground := .data }, by simp, rfl, rfl⟩ rfl rfl, (fun h => by cases h), ⟨(hR.1.mono (by omega)), hR.2⟩, stx _ _ (Ex.refl _ _)⟩
            | _ + 17, ho => cases ho
          · intro a w9 hR hsz hdf hrest htyp hbare
            have HE := Lib.hid ((HB.out.ex HX4.out hl).ex (HX7.out.trans (ExS.ex hR.2.1)) hl)
            have HV9 := Lib.hid ((HVL.out.ex (HX7.out.trans (ExS.ex hR.2.1)) hr).lower hz1)
            have HW9 := Lib.hid ((Val.ex HVW.out (ExS.ex hR.2.1) (by omega)).lower (by omega : w.heap.size ≤ w4.heap.size))
            clear hR
            obtain ⟨x42, e42⟩ : ∃ x, a.tmps.getD 42 undef = x := ⟨_, rfl⟩
            obtain ⟨x43, e43⟩ : ∃ x, a.tmps.getD 43 undef = x := ⟨_, rfl⟩
            obtain ⟨x44, e44⟩ : ∃ x, a.tmps.getD 44 undef = x := ⟨_, rfl⟩
            obtain ⟨x45, e45⟩ : ∃ x, a.tmps.getD 45 undef = x := ⟨_, rfl⟩
            obtain ⟨x46, e46⟩ : ∃ x, a.tmps.getD 46 undef = x := ⟨_, rfl⟩
            obtain ⟨x47, e47⟩ : ∃ x, a.tmps.getD 47 undef = x := ⟨_, rfl⟩
            obtain ⟨x48, e48⟩ : ∃ x, a.tmps.getD 48 undef = x := ⟨_, rfl⟩
            obtain ⟨x49, e49⟩ : ∃ x, a.tmps.getD 49 undef = x := ⟨_, rfl⟩
            obtain ⟨x50, e50⟩ : ∃ x, a.tmps.getD 50 undef = x := ⟨_, rfl⟩
            obtain ⟨x51, e51⟩ : ∃ x, a.tmps.getD 51 undef = x := ⟨_, rfl⟩
            obtain ⟨x52, e52⟩ : ∃ x, a.tmps.getD 52 undef = x := ⟨_, rfl⟩
            obtain ⟨x53, e53⟩ : ∃ x, a.tmps.getD 53 undef = x := ⟨_, rfl⟩
            obtain ⟨x54, e54⟩ : ∃ x, a.tmps.getD 54 undef = x := ⟨_, rfl⟩
            have e2 : a.tmps.getD 2 undef = u := htyp 13 _ 2 rfl rfl
            obtain ⟨k3, e3, l3, u3⟩ := htyp 14 _ 3 rfl rfl
            have e4 : a.tmps.getD 4 undef = wv := htyp 15 _ 4 rfl rfl
            have e5 : a.tmps.getD 5 undef = .int .i64 sk := htyp 16 _ 5 rfl rfl
            have ha := act_puts hsz hdf hrest [(42, x42), (43, x43), (44, x44), (45, x45), (46, x46), (47, x47), (48, x48), (49, x49), (50, x50), (51, x51), (52, x52), (53, x53), (54, x54), (2, u), (3, .int .i64 k3), (4, wv), (5, .int .i64 sk)] rfl ⟨by decide, fun d hd => (by decide : ∀ d ∈ ([42, 43, 44, 45, 46, 47, 48, 49, 50, 51, 52, 53, 54, 2, 3, 4, 5] : List Nat), d < 55) d hd⟩ (by simp only [List.forall_mem_cons]; exact ⟨e42, e43, e44, e45, e46, e47, e48, e49, e50, e51, e52, e53, e54, e2, e3, e4, e5, fun _ h => by cases h⟩)
            clear hsz hdf hrest htyp hbare e42 e43 e44 e45 e46 e47 e48 e49 e50 e51 e52 e53 e54 e2 e3 e4 e5
            subst ha
            simp only [List.foldl_cons, List.foldl_nil, Act.put, List.setIfInBounds_toArray, List.set_cons_zero, List.set_cons_succ]
            go_wp2
            go_returns
            exact ⟨u, xs, k3, wv, ws, sk, rfl, by unfold smI; omega, ⟨sk0, by omega⟩, HV9.out, HP.out, HW9.out, HWP.out, HE.out⟩
        | true =>
          have hcut := run_cut_low (P := Tryd.prog) (n := 4) (A := some ⟨g, 0, none⟩) (c := cap) Tryd.underlying36 kinfo_I 1 (by omega)
          have hpt := HRow7.out.cell.1.part 1 4 (by omega) (by have := HW6.out.1; omega) (by have := HW6.out.1; omega)
          rw [if_neg (by omega)] at hcut hpt
          simp only [Int.cast_ofNat_Int] at hcut
          obtain ⟨wv, hvc⟩ : ∃ wv, (Value.slice (Option.map (fun x : Addr => x.add (1 * 1)) (some (⟨g, 0, none⟩ : Addr))) (4 - 1) (cap - 1)) = wv := ⟨_, rfl⟩
          have hcp' : ∀ A n c, wv = .slice A n c → n ≤ c ∧ c ≤ 9223372036854775807 := by
            have hcc := (HRow7.out.cap _ _ _ rfl).2
            intro A n c' h; rw [← hvc] at h; injection h with e1 e2 e3; omega
          rw [hvc] at hcut hpt
          have HVW : Hid (Val 1 (one encI) w4.heap.size w7 wv (part ws 1 4)) := ⟨hpt.1, hpt.2 _ HRow7.out.cell.2, hcp'⟩
          have HWP : Hid (drawnInts 4 (part ws 1 4)) := ⟨by rw [part_len (by have := HW6.out.1; omega)]; omega, fun z hz => HW6.out.2 z (List.mem_of_mem_take (List.mem_of_mem_drop hz))⟩
          clear hpt hvc hcp'
          generalize part ws 1 4 = ws at HVW HWP
          go_wp2_with fail
          clear hcut
          have stx : ∀ w w', Ex rb w w' → St (· = rb) (fun _ => True) (fun _ => True) w w' := fun w w' hx => ⟨ExS.of_ex hx rfl, fun _ => trivial, fun _ => trivial⟩
          have hSlt : ∀ k, ((· = rb)) k → k < (w7).heap.size := fun k hk => by subst hk; exact hr3
          refine wp_region_typed [42, 43, 44, 45, 46, 47, 48, 49, 50, 51, 52, 53, 54, 2, 3, 4, 5] (by kernel_rfl) (by kernel_rfl) (by kernel_rfl) (fun n w' => Rd w' rb (300 + n) ∧ Rel (· = rb) (fun _ => True) w7 w') (fun i => (([.eq (u), .eq (.pointer (some ⟨rb, 0, none⟩)), .int (0) (199), .ints 3 (0) (1001), .ints 6 (0) (2), .eq (.pointer (some ⟨rb, 0, none⟩)), .int (0) (5), .adr (0) (2), .int (0) (2), .adr (0) (1001), .int (0) (1001), .eq (wv), .eq (.int .i64 sk), .eq (u), .int (0) (1001), .eq (wv), .eq (.int .i64 sk)] : List Ty).getD i .top).den (· = rb) (fun _ => True)) (St (· = rb) (fun _ => True) (fun _ => True)) ⟨(R7.out).drew.mono (by omega), (HREL).step (stx _ _ ((Ex.refl _ _).drew))⟩ (fun i v w w' hx h => Ty.den_ex _ hx h) ?_ ?_
          · intro i o ho a n w hn hR hrest hdeps
            have hn' : n < 17 := hn
            match i, ho with
            | 0, ho =>
              obtain rfl := Option.some.inj ho
              have h0 : a.tmps.getD 7 undef = u := hrest 7 (by decide)
              exact y_move rfl ⟨fun _ => h0, (fun h => by cases h), ⟨(hR.1.mono (by omega)), hR.2⟩, stx _ _ (Ex.refl _ _)⟩
            | 1, ho =>
              obtain rfl := Option.some.inj ho
              have h0 : a.tmps.getD 6 undef = .pointer (some ⟨rb, 0, none⟩) := hrest 6 (by decide)
              exact y_move rfl ⟨fun _ => h0, (fun h => by cases h), ⟨(hR.1.mono (by omega)), hR.2⟩, stx _ _ (Ex.refl _ _)⟩
            | 2, ho =>
              obtain rfl := Option.some.inj ho
              have q1 := hdeps 1 _ 43 ⟨{ on := 1, ground := .data }, by simp, rfl, rfl⟩ rfl rfl
              have h1 : a.tmps.getD 43 undef = .pointer (some ⟨rb, 0, none⟩) := q1
              refine y_call (args := #[.pointer (some ⟨rb, 0, none⟩), .int .i64 200]) rfl (fun _ _ => by kernel_rfl) (by simp [Act.eval, h1]) ?_
              exact (pick_any rb _ 200 _ hR.1 (by omega) (by omega) (by omega)).mono fun e w2 ⟨k, he, k0, k1, r2, x2⟩ => ⟨_, he, fun _ => ⟨k, rfl, by omega, by omega⟩, (fun h => by cases h), ⟨r2.mono (by omega), hR.2.step (stx _ _ x2)⟩, stx _ _ x2⟩
            | 3, ho =>
              obtain rfl := Option.some.inj ho
              have q1 := hdeps 2 _ 44 ⟨{ on := 2, ground := .data }, by simp, rfl, rfl⟩ rfl rfl
              obtain ⟨k1, h1, l1, u1⟩ := q1
              refine y_lit (cs := #[.int .i64 k1, .int .i64 (1000), .int .i64 (1001)]) (E := 3) ?_ ?_
              · intro W; simp only [Array.getD_eq_getD_getElem?] at h1; go_simp
              · exact ⟨fun _ => ints_made hSlt hR.2 rfl (by simp <;> omega), (fun h => by cases h), ⟨(hR.1.alloc _).mono (by omega), hR.2.step (stx _ _ ((Ex.refl _ _).alloc _))⟩, stx _ _ ((Ex.refl _ _).alloc _)⟩
            | 4, ho =>
              obtain rfl := Option.some.inj ho
              refine y_lit (cs := #[.int .i64 (0), .int .i64 (0), .int .i64 (0), .int .i64 (0), .int .i64 (1), .int .i64 (2)]) (E := 3) ?_ ?_
              · intro W; go_simp
              · exact ⟨fun _ => ints_made hSlt hR.2 rfl (by simp <;> omega), (fun h => by cases h), ⟨(hR.1.alloc _).mono (by omega), hR.2.step (stx _ _ ((Ex.refl _ _).alloc _))⟩, stx _ _ ((Ex.refl _ _).alloc _)⟩
            | 5, ho =>
              obtain rfl := Option.some.inj ho
              have h0 : a.tmps.getD 6 undef = .pointer (some ⟨rb, 0, none⟩) := hrest 6 (by decide)
              exact y_move rfl ⟨fun _ => h0, (fun h => by cases h), ⟨(hR.1.mono (by omega)), hR.2⟩, stx _ _ (Ex.refl _ _)⟩
            | 6, ho =>
              obtain rfl := Option.some.inj ho
              have q1 := hdeps 5 _ 47 ⟨{ on := 5, ground := .data }, by simp, rfl, rfl⟩ rfl rfl
              have h1 : a.tmps.getD 47 undef = .pointer (some ⟨rb, 0, none⟩) := q1
              refine y_call (args := #[.pointer (some ⟨rb, 0, none⟩), .int .i64 6]) rfl (fun _ _ => by kernel_rfl) (by simp [Act.eval, h1]) ?_
              exact (pick_any rb _ 6 _ hR.1 (by omega) (by omega) (by omega)).mono fun e w2 ⟨k, he, k0, k1, r2, x2⟩ => ⟨_, he, fun _ => ⟨k, rfl, by omega, by omega⟩, (fun h => by cases h), ⟨r2.mono (by omega), hR.2.step (stx _ _ x2)⟩, stx _ _ x2⟩
            | 7, ho =>
              obtain rfl := Option.some.inj ho
              have q1 := hdeps 4 _ 46 ⟨{ on := 4, ground := .data }, by simp, rfl, rfl⟩ rfl rfl
              obtain ⟨b1, h1, e1, c1⟩ := q1
              have q2 := hdeps 6 _ 48 ⟨{ on := 6, ground := .data }, by simp, rfl, rfl⟩ rfl rfl
              obtain ⟨k2, h2, l2, u2⟩ := q2
              obtain ⟨q, rfl⟩ := Int.eq_ofNat_of_zero_le (show 0 ≤ k2 by omega)
              obtain ⟨y, cy, y0, y1⟩ := c1 q (by omega)
              exact y_index rfl h1 h2 (by omega) Tryd.underlying36 (fun _ => by kernel_rfl) ⟨fun _ => ⟨⟨b1, q, none⟩, y, rfl, e1, cy, y0, y1⟩, (fun h => by cases h), ⟨(hR.1.mono (by omega)), hR.2⟩, stx _ _ (Ex.refl _ _)⟩
            | 8, ho =>
              obtain rfl := Option.some.inj ho
              have q1 := hdeps 7 _ 49 ⟨{ on := 7, ground := .data }, by simp, rfl, rfl⟩ rfl rfl
              obtain ⟨p1, y1, h1, e1, c1, l1, u1⟩ := q1
              exact y_load rfl h1 c1 (fun _ => by kernel_rfl) ⟨fun _ => ⟨y1, rfl, by omega, by omega⟩, (fun h => by cases h), ⟨(hR.1.mono (by omega)), hR.2⟩, stx _ _ (Ex.refl _ _)⟩
            | 9, ho =>
              obtain rfl := Option.some.inj ho
              have q1 := hdeps 3 _ 45 ⟨{ on := 3, ground := .data }, by simp, rfl, rfl⟩ rfl rfl
              obtain ⟨b1, h1, e1, c1⟩ := q1
              have q2 := hdeps 8 _ 50 ⟨{ on := 8, ground := .data }, by simp, rfl, rfl⟩ rfl rfl
              obtain ⟨k2, h2, l2, u2⟩ := q2
              obtain ⟨q, rfl⟩ := Int.eq_ofNat_of_zero_le (show 0 ≤ k2 by omega)
              obtain ⟨y, cy, y0, y1⟩ := c1 q (by omega)
              exact y_index rfl h1 h2 (by omega) Tryd.underlying36 (fun _ => by kernel_rfl) ⟨fun _ => ⟨⟨b1, q, none⟩, y, rfl, e1, cy, y0, y1⟩, (fun h => by cases h), ⟨(hR.1.mono (by omega)), hR.2⟩, stx _ _ (Ex.refl _ _)⟩
            | 10, ho =>
              obtain rfl := Option.some.inj ho
              have q1 := hdeps 9 _ 51 ⟨{ on := 9, ground := .data }, by simp, rfl, rfl⟩ rfl rfl
              obtain ⟨p1, y1, h1, e1, c1, l1, u1⟩ := q1
              exact y_load rfl h1 c1 (fun _ => by kernel_rfl) ⟨fun _ => ⟨y1, rfl, by omega, by omega⟩, (fun h => by cases h), ⟨(hR.1.mono (by omega)), hR.2⟩, stx _ _ (Ex.refl _ _)⟩
            | 11, ho =>
              obtain rfl := Option.some.inj ho
              have h0 : a.tmps.getD 9 undef = wv := hrest 9 (by decide)
              exact y_move rfl ⟨fun _ => h0, (fun h => by cases h), ⟨(hR.1.mono (by omega)), hR.2⟩, stx _ _ (Ex.refl _ _)⟩
            | 12, ho =>
              obtain rfl := Option.some.inj ho
              have h0 : a.tmps.getD 8 undef = .int .i64 sk := hrest 8 (by decide)
              exact y_move rfl ⟨fun _ => h0, (fun h => by cases h), ⟨(hR.1.mono (by omega)), hR.2⟩, stx _ _ (Ex.refl _ _)⟩
            | 13, ho =>
              obtain rfl := Option.some.inj ho
              exact y_assign rfl ⟨fun _ => hdeps 0 _ 42 ⟨{ on := 0, ground := .data }, by simp, rfl, rfl⟩ rfl rfl, (fun h => by cases h), ⟨(hR.1.mono (by omega)), hR.2⟩, stx _ _ (Ex.refl _ _)⟩
            | 14, ho =>
              obtain rfl := Option.some.inj ho
              exact y_assign rfl ⟨fun _ => hdeps 10 _ 52 ⟨{ on := 10, ground := .data }, by simp, rfl, rfl⟩ rfl rfl, (fun h => by cases h), ⟨(hR.1.mono (by omega)), hR.2⟩, stx _ _ (Ex.refl _ _)⟩
            | 15, ho =>
              obtain rfl := Option.some.inj ho
              exact y_assign rfl ⟨fun _ => hdeps 11 _ 53 ⟨{ on := 11, ground := .data }, by simp, rfl, rfl⟩ rfl rfl, (fun h => by cases h), ⟨(hR.1.mono (by omega)), hR.2⟩, stx _ _ (Ex.refl _ _)⟩
            | 16, ho =>
              obtain rfl := Option.some.inj ho
              exact y_assign rfl ⟨fun _ => hdeps 12 _ 54 ⟨{ on := 12, ground := .data }, by simp, rfl, rfl⟩ rfl rfl, (fun h => by cases h), ⟨(hR.1.mono (by omega)), hR.2⟩, stx _ _ (Ex.refl _ _)⟩
            | _ + 17, ho => cases ho
          · intro a w9 hR hsz hdf hrest htyp hbare
            have HE := Lib.hid ((HB.out.ex HX4.out hl).ex (HX7.out.trans (ExS.ex hR.2.1)) hl)
            have HV9 := Lib.hid ((HVL.out.ex (HX7.out.trans (ExS.ex hR.2.1)) hr).lower hz1)
            have HW9 := Lib.hid ((Val.ex HVW.out (ExS.ex hR.2.1) (by omega)).lower (by omega : w.heap.size ≤ w4.heap.size))
            clear hR
            obtain ⟨x42, e42⟩ : ∃ x, a.tmps.getD 42 undef = x := ⟨_, rfl⟩
            obtain ⟨x43, e43⟩ : ∃ x, a.tmps.getD 43 undef = x := ⟨_, rfl⟩
            obtain ⟨x44, e44⟩ : ∃ x, a.tmps.getD 44 undef = x := ⟨_, rfl⟩
            obtain ⟨x45, e45⟩ : ∃ x, a.tmps.getD 45 undef = x := ⟨_, rfl⟩
            obtain ⟨x46, e46⟩ : ∃ x, a.tmps.getD 46 undef = x := ⟨_, rfl⟩
            obtain ⟨x47, e47⟩ : ∃ x, a.tmps.getD 47 undef = x := ⟨_, rfl⟩
            obtain ⟨x48, e48⟩ : ∃ x, a.tmps.getD 48 undef = x := ⟨_, rfl⟩
            obtain ⟨x49, e49⟩ : ∃ x, a.tmps.getD 49 undef = x := ⟨_, rfl⟩
            obtain ⟨x50, e50⟩ : ∃ x, a.tmps.getD 50 undef = x := ⟨_, rfl⟩
            obtain ⟨x51, e51⟩ : ∃ x, a.tmps.getD 51 undef = x := ⟨_, rfl⟩
            obtain ⟨x52, e52⟩ : ∃ x, a.tmps.getD 52 undef = x := ⟨_, rfl⟩
            obtain ⟨x53, e53⟩ : ∃ x, a.tmps.getD 53 undef = x := ⟨_, rfl⟩
            obtain ⟨x54, e54⟩ : ∃ x, a.tmps.getD 54 undef = x := ⟨_, rfl⟩
            have e2 : a.tmps.getD 2 undef = u := htyp 13 _ 2 rfl rfl
            obtain ⟨k3, e3, l3, u3⟩ := htyp 14 _ 3 rfl rfl
            have e4 : a.tmps.getD 4 undef = wv := htyp 15 _ 4 rfl rfl
            have e5 : a.tmps.getD 5 undef = .int .i64 sk := htyp 16 _ 5 rfl rfl
            have ha := act_puts hsz hdf hrest [(42, x42), (43, x43), (44, x44), (45, x45), (46, x46), (47, x47), (48, x48), (49, x49), (50, x50), (51, x51), (52, x52), (53, x53), (54, x54), (2, u), (3, .int .i64 k3), (4, wv), (5, .int .i64 sk)] rfl ⟨by decide, fun d hd => (by decide : ∀ d ∈ ([42, 43, 44, 45, 46, 47, 48, 49, 50, 51, 52, 53, 54, 2, 3, 4, 5] : List Nat), d < 55) d hd⟩ (by simp only [List.forall_mem_cons]; exact ⟨e42, e43, e44, e45, e46, e47, e48, e49, e50, e51, e52, e53, e54, e2, e3, e4, e5, fun _ h => by cases h⟩)
            clear hsz hdf hrest htyp hbare e42 e43 e44 e45 e46 e47 e48 e49 e50 e51 e52 e53 e54 e2 e3 e4 e5
            subst ha
            simp only [List.foldl_cons, List.foldl_nil, Act.put, List.setIfInBounds_toArray, List.set_cons_zero, List.set_cons_succ]
            go_wp2
            go_returns
            exact ⟨u, xs, k3, wv, ws, sk, rfl, by unfold smI; omega, ⟨sk0, by omega⟩, HV9.out, HP.out, HW9.out, HWP.out, HE.out⟩
end Go.Proofs.YtpkjgeidndbbbaaDoor
