/- The draw of votes, of members and of a wish. -/
import Derived.Test.YtiakkgpkkpaldaaDoorDrawVote
import Derived.Test.YtiakkgpkkpaldaaDoorTypedDraw
namespace Go.Proofs.YtiakkgpkkpaldaaDoor
open Go.RowKit
/-- Votes, members and a wish were drawn. -/
def DrawnVS (w : World) (en : Ending) (w' : World) : Prop :=
  ∃ u s d xs, en = .returned (.tuple #[u, .int .i64 s, .int .i64 d]) ∧ Val 2 encVote w.heap.size w' u xs ∧ drawnVote xs ∧ Ext w w'
set_option maxRecDepth 8000 in
set_option maxHeartbeats 4000000 in
theorem DrawSafeValue_any {v : Value} (w : World) (h : CodeIn w v) : Calls Tryd.prog 20 #[v] w (DrawnVS w) := by
  have H := Lib.hid h
  clear h
  go_enter Tryd.func20, Tryd.ntmps20
  go_wp2_with fail
  refine (open_code _ H.out).mono ?_
  rintro e w1 ⟨rb, rfl, hl, r1, b1⟩
  have hr := r1.lt
  go_wp2_with fail
  refine (l20Votes_any rb 0 9 _ r1 (by omega) (by omega)).mono ?_
  rintro e w3 ⟨u, xs, rfl, hrow, hphi, r3, x3⟩
  have hlen : xs.length ≤ 8 := hphi.1
  have HR := Lib.hid (And.intro r3 x3)
  have HV := Lib.hid hrow
  have hz1 := b1.size
  have HP := Lib.hid hphi
  have HB := Lib.hid b1
  have hr3 := r3.lt
  obtain ⟨A, c, hu, _⟩ := id (hrow.1)
  have HU := Lib.hid hu
  clear hrow hphi r1 b1 r3 x3
  subst hu
  have HREL : Rel (· = rb) (fun _ => True) w3 w3 := ⟨ExS.refl _ _, trivial⟩
  go_wp2
  go_loop [7, 8] (fun a i => ∃ k p : Nat, k ≤ xs.length ∧ k ≤ 7 ∧ p ≤ 128 ∧ 1 ≤ p ∧ i = .int .i64 k ∧ a = .int .i64 p ∧ Hid (p = 2 ^ k)) (fun _ i => 9 - (intOf i).toNat)
  case atStart => exact ⟨0, 1, Nat.zero_le _, by omega, by omega, by omega, rfl, rfl, rfl⟩
  case round =>
    obtain ⟨k, p, hk, hk7, hp128, hp1, rfl, rfl, hp⟩ := hrel
    by_cases hlt : k < xs.length ∧ k < 7
    · have hp64 : p ≤ 64 := by
        have := hp.out
        have h2 : 2 ^ k ≤ 2 ^ 6 := Nat.pow_le_pow_right (by omega) (by omega)
        omega
      have hq1 := hlt.1
      have hq2 := hlt.2
      have HP2 : Hid (2 * p = 2 ^ (k + 1)) := by show _ = _; rw [hp.out, Nat.pow_succ]; omega
      go_wp2
      go_round
      case rel => exact ⟨k + 1, 2 * p, by omega, by omega, by omega, by omega, by go_num, by go_num, HP2⟩
      case measure => simp [intOf]; omega
    · obtain ⟨cc, hcc⟩ : ∃ cc, cc = (decide ((k : Int) < (xs.length : Int)) && decide ((k : Int) < 7)) := ⟨_, rfl⟩
      have hstop : ¬ k < xs.length ∨ (k < xs.length ∧ ¬ k < 7) := by omega
      clear hcc
      rcases hstop with hs | ⟨hs1, hs2⟩
      · have hs' : decide ((k : Int) < (xs.length : Int)) = false := by simp; omega
        go_wp2_with fail
        have stx : ∀ w w', Ex rb w w' → St (· = rb) (fun _ => True) (fun _ => True) w w' := fun w w' hx => ⟨ExS.of_ex hx rfl, fun _ => trivial, fun _ => trivial⟩
        have hSlt : ∀ k, ((· = rb)) k → k < (w3).heap.size := fun k hk => by subst hk; exact hr3
        refine wp_region_typed [25, 26, 27, 28, 29, 30, 31, 32, 33, 34, 35, 36, 37, 38, 39, 40, 41, 42, 43, 44, 45, 46, 47, 48, 49, 2, 3, 4] (by kernel_rfl) (by kernel_rfl) (by kernel_rfl) (fun n w' => Rd w' rb (200 + n) ∧ Rel (· = rb) (fun _ => True) w3 w') (fun i => (([.eq (.slice A xs.length c), .eq (.pointer (some ⟨rb, 0, none⟩)), .eq (.int .i64 (p : Int)), .int (0) (127), .int (1) (128), .int (0) (127), .int (1) (128), .ints 3 (0) (128), .ints 6 (0) (2), .eq (.pointer (some ⟨rb, 0, none⟩)), .int (0) (5), .adr (0) (2), .int (0) (2), .adr (0) (128), .int (0) (128), .eq (.pointer (some ⟨rb, 0, none⟩)), .int (0) (8), .ints 3 (-1) (100), .ints 6 (0) (2), .eq (.pointer (some ⟨rb, 0, none⟩)), .int (0) (5), .adr (0) (2), .int (0) (2), .adr (-1) (100), .int (-1) (100), .eq (.slice A xs.length c), .int (0) (128), .int (-1) (100)] : List Ty).getD i .top).den (· = rb) (fun _ => True)) (St (· = rb) (fun _ => True) (fun _ => True)) ⟨(HR.out.1).drew.mono (by omega), (HREL).step (stx _ _ ((Ex.refl _ _).drew))⟩ (fun i v w w' hx h => Ty.den_ex _ hx h) ?_ ?_
        · intro i o ho a n w hn hR hrest hdeps
          have hn' : n < 28 := hn
          match i, ho with
          | 0, ho =>
            obtain rfl := Option.some.inj ho
            have h0 : a.tmps.getD 6 undef = .slice A xs.length c := hrest 6 (by decide)
            exact y_move rfl ⟨fun _ => h0, (fun h => by cases h), ⟨(hR.1.mono (by omega)), hR.2⟩, stx _ _ (Ex.refl _ _)⟩
          | 1, ho =>
            obtain rfl := Option.some.inj ho
            have h0 : a.tmps.getD 5 undef = .pointer (some ⟨rb, 0, none⟩) := hrest 5 (by decide)
            exact y_move rfl ⟨fun _ => h0, (fun h => by cases h), ⟨(hR.1.mono (by omega)), hR.2⟩, stx _ _ (Ex.refl _ _)⟩
          | 2, ho =>
            obtain rfl := Option.some.inj ho
            have h0 : a.tmps.getD 7 undef = .int .i64 (p : Int) := hrest 7 (by decide)
            exact y_move rfl ⟨fun _ => h0, (fun h => by cases h), ⟨(hR.1.mono (by omega)), hR.2⟩, stx _ _ (Ex.refl _ _)⟩
          | 3, ho =>
            obtain rfl := Option.some.inj ho
            have q1 := hdeps 1 _ 26 ⟨{ on := 1, ground := .data }, by simp, rfl, rfl⟩ rfl rfl
            have h1 : a.tmps.getD 26 undef = .pointer (some ⟨rb, 0, none⟩) := q1
            have q2 := hdeps 2 _ 27 ⟨{ on := 2, ground := .data }, by simp, rfl, rfl⟩ rfl rfl
            have h2 : a.tmps.getD 27 undef = .int .i64 (p : Int) := q2
            refine y_call (args := #[.pointer (some ⟨rb, 0, none⟩), .int .i64 (p : Int)]) rfl (fun _ _ => by kernel_rfl) (by simp [Act.eval, h1, h2]) ?_
            exact (pick_any rb _ (p : Int) _ hR.1 (by omega) (by omega) (by omega)).mono fun e w2 ⟨k, he, k0, k1, r2, x2⟩ => ⟨_, he, fun _ => ⟨k, rfl, by omega, by omega⟩, (fun h => by cases h), ⟨r2.mono (by omega), hR.2.step (stx _ _ x2)⟩, stx _ _ x2⟩
          | 4, ho =>
            obtain rfl := Option.some.inj ho
            have h0 : a.tmps.getD 7 undef = .int .i64 (p : Int) := hrest 7 (by decide)
            exact y_move rfl ⟨fun _ => ⟨(p : Int), h0, by omega, by omega⟩, (fun h => by cases h), ⟨(hR.1.mono (by omega)), hR.2⟩, stx _ _ (Ex.refl _ _)⟩
          | 5, ho =>
            obtain rfl := Option.some.inj ho
            have q1 := hdeps 4 _ 29 ⟨{ on := 4, ground := .data }, by simp, rfl, rfl⟩ rfl rfl
            obtain ⟨k1, h1, l1, u1⟩ := q1
            exact y_sub rfl h1 rfl (by omega) (by omega) ⟨fun _ => ⟨_, rfl, by omega, by omega⟩, (fun h => by cases h), ⟨(hR.1.mono (by omega)), hR.2⟩, stx _ _ (Ex.refl _ _)⟩
          | 6, ho =>
            obtain rfl := Option.some.inj ho
            have h0 : a.tmps.getD 7 undef = .int .i64 (p : Int) := hrest 7 (by decide)
            exact y_move rfl ⟨fun _ => ⟨(p : Int), h0, by omega, by omega⟩, (fun h => by cases h), ⟨(hR.1.mono (by omega)), hR.2⟩, stx _ _ (Ex.refl _ _)⟩
          | 7, ho =>
            obtain rfl := Option.some.inj ho
            have q1 := hdeps 3 _ 28 ⟨{ on := 3, ground := .data }, by simp, rfl, rfl⟩ rfl rfl
            obtain ⟨k1, h1, l1, u1⟩ := q1
            have q2 := hdeps 5 _ 30 ⟨{ on := 5, ground := .data }, by simp, rfl, rfl⟩ rfl rfl
            obtain ⟨k2, h2, l2, u2⟩ := q2
            have q3 := hdeps 6 _ 31 ⟨{ on := 6, ground := .data }, by simp, rfl, rfl⟩ rfl rfl
            obtain ⟨k3, h3, l3, u3⟩ := q3
            refine y_lit (cs := #[.int .i64 k1, .int .i64 k2, .int .i64 k3]) (E := 3) ?_ ?_
            · intro W; simp only [Array.getD_eq_getD_getElem?] at h1 h2 h3; go_simp
            · exact ⟨fun _ => ints_made hSlt hR.2 rfl (by simp <;> omega), (fun h => by cases h), ⟨(hR.1.alloc _).mono (by omega), hR.2.step (stx _ _ ((Ex.refl _ _).alloc _))⟩, stx _ _ ((Ex.refl _ _).alloc _)⟩
          | 8, ho =>
            obtain rfl := Option.some.inj ho
            refine y_lit (cs := #[.int .i64 (0), .int .i64 (0), .int .i64 (0), .int .i64 (1), .int .i64 (1), .int .i64 (2)]) (E := 3) ?_ ?_
            · intro W; go_simp
            · exact ⟨fun _ => ints_made hSlt hR.2 rfl (by simp <;> omega), (fun h => by cases h), ⟨(hR.1.alloc _).mono (by omega), hR.2.step (stx _ _ ((Ex.refl _ _).alloc _))⟩, stx _ _ ((Ex.refl _ _).alloc _)⟩
          | 9, ho =>
            obtain rfl := Option.some.inj ho
            have h0 : a.tmps.getD 5 undef = .pointer (some ⟨rb, 0, none⟩) := hrest 5 (by decide)
            exact y_move rfl ⟨fun _ => h0, (fun h => by cases h), ⟨(hR.1.mono (by omega)), hR.2⟩, stx _ _ (Ex.refl _ _)⟩
          | 10, ho =>
            obtain rfl := Option.some.inj ho
            have q1 := hdeps 9 _ 34 ⟨{ on := 9, ground := .data }, by simp, rfl, rfl⟩ rfl rfl
            have h1 : a.tmps.getD 34 undef = .pointer (some ⟨rb, 0, none⟩) := q1
            refine y_call (args := #[.pointer (some ⟨rb, 0, none⟩), .int .i64 6]) rfl (fun _ _ => by kernel_rfl) (by simp [Act.eval, h1]) ?_
            exact (pick_any rb _ 6 _ hR.1 (by omega) (by omega) (by omega)).mono fun e w2 ⟨k, he, k0, k1, r2, x2⟩ => ⟨_, he, fun _ => ⟨k, rfl, by omega, by omega⟩, (fun h => by cases h), ⟨r2.mono (by omega), hR.2.step (stx _ _ x2)⟩, stx _ _ x2⟩
          | 11, ho =>
            obtain rfl := Option.some.inj ho
            have q1 := hdeps 8 _ 33 ⟨{ on := 8, ground := .data }, by simp, rfl, rfl⟩ rfl rfl
            obtain ⟨b1, h1, e1, c1⟩ := q1
            have q2 := hdeps 10 _ 35 ⟨{ on := 10, ground := .data }, by simp, rfl, rfl⟩ rfl rfl
            obtain ⟨k2, h2, l2, u2⟩ := q2
            obtain ⟨q, rfl⟩ := Int.eq_ofNat_of_zero_le (show 0 ≤ k2 by omega)
            obtain ⟨y, cy, y0, y1⟩ := c1 q (by omega)
            exact y_index rfl h1 h2 (by omega) Tryd.underlying46 (fun _ => by kernel_rfl) ⟨fun _ => ⟨⟨b1, q, none⟩, y, rfl, e1, cy, y0, y1⟩, (fun h => by cases h), ⟨(hR.1.mono (by omega)), hR.2⟩, stx _ _ (Ex.refl _ _)⟩
          | 12, ho =>
            obtain rfl := Option.some.inj ho
            have q1 := hdeps 11 _ 36 ⟨{ on := 11, ground := .data }, by simp, rfl, rfl⟩ rfl rfl
            obtain ⟨p1, y1, h1, e1, c1, l1, u1⟩ := q1
            exact y_load rfl h1 c1 (fun _ => by kernel_rfl) ⟨fun _ => ⟨y1, rfl, by omega, by omega⟩, (fun h => by cases h), ⟨(hR.1.mono (by omega)), hR.2⟩, stx _ _ (Ex.refl _ _)⟩
          | 13, ho =>
            obtain rfl := Option.some.inj ho
            have q1 := hdeps 7 _ 32 ⟨{ on := 7, ground := .data }, by simp, rfl, rfl⟩ rfl rfl
            obtain ⟨b1, h1, e1, c1⟩ := q1
            have q2 := hdeps 12 _ 37 ⟨{ on := 12, ground := .data }, by simp, rfl, rfl⟩ rfl rfl
            obtain ⟨k2, h2, l2, u2⟩ := q2
            obtain ⟨q, rfl⟩ := Int.eq_ofNat_of_zero_le (show 0 ≤ k2 by omega)
            obtain ⟨y, cy, y0, y1⟩ := c1 q (by omega)
            exact y_index rfl h1 h2 (by omega) Tryd.underlying46 (fun _ => by kernel_rfl) ⟨fun _ => ⟨⟨b1, q, none⟩, y, rfl, e1, cy, y0, y1⟩, (fun h => by cases h), ⟨(hR.1.mono (by omega)), hR.2⟩, stx _ _ (Ex.refl _ _)⟩
          | 14, ho =>
            obtain rfl := Option.some.inj ho
            have q1 := hdeps 13 _ 38 ⟨{ on := 13, ground := .data }, by simp, rfl, rfl⟩ rfl rfl
            obtain ⟨p1, y1, h1, e1, c1, l1, u1⟩ := q1
            exact y_load rfl h1 c1 (fun _ => by kernel_rfl) ⟨fun _ => ⟨y1, rfl, by omega, by omega⟩, (fun h => by cases h), ⟨(hR.1.mono (by omega)), hR.2⟩, stx _ _ (Ex.refl _ _)⟩
          | 15, ho =>
            obtain rfl := Option.some.inj ho
            have h0 : a.tmps.getD 5 undef = .pointer (some ⟨rb, 0, none⟩) := hrest 5 (by decide)
            exact y_move rfl ⟨fun _ => h0, (fun h => by cases h), ⟨(hR.1.mono (by omega)), hR.2⟩, stx _ _ (Ex.refl _ _)⟩
          | 16, ho =>
            obtain rfl := Option.some.inj ho
            have q1 := hdeps 15 _ 40 ⟨{ on := 15, ground := .data }, by simp, rfl, rfl⟩ rfl rfl
            have h1 : a.tmps.getD 40 undef = .pointer (some ⟨rb, 0, none⟩) := q1
            refine y_call (args := #[.pointer (some ⟨rb, 0, none⟩), .int .i64 9]) rfl (fun _ _ => by kernel_rfl) (by simp [Act.eval, h1]) ?_
            exact (pick_any rb _ 9 _ hR.1 (by omega) (by omega) (by omega)).mono fun e w2 ⟨k, he, k0, k1, r2, x2⟩ => ⟨_, he, fun _ => ⟨k, rfl, by omega, by omega⟩, (fun h => by cases h), ⟨r2.mono (by omega), hR.2.step (stx _ _ x2)⟩, stx _ _ x2⟩
          | 17, ho =>
            obtain rfl := Option.some.inj ho
            have q1 := hdeps 16 _ 41 ⟨{ on := 16, ground := .data }, by simp, rfl, rfl⟩ rfl rfl
            obtain ⟨k1, h1, l1, u1⟩ := q1
            refine y_lit (cs := #[.int .i64 k1, .int .i64 (-1), .int .i64 (100)]) (E := 3) ?_ ?_
            · intro W; simp only [Array.getD_eq_getD_getElem?] at h1; go_simp
            · exact ⟨fun _ => ints_made hSlt hR.2 rfl (by simp <;> omega), (fun h => by cases h), ⟨(hR.1.alloc _).mono (by omega), hR.2.step (stx _ _ ((Ex.refl _ _).alloc _))⟩, stx _ _ ((Ex.refl _ _).alloc _)⟩
          | 18, ho =>
            obtain rfl := Option.some.inj ho
            refine y_lit (cs := #[.int .i64 (0), .int .i64 (0), .int .i64 (0), .int .i64 (0), .int .i64 (1), .int .i64 (2)]) (E := 3) ?_ ?_
            · intro W; go_simp
            · exact ⟨fun _ => ints_made hSlt hR.2 rfl (by simp <;> omega), (fun h => by cases h), ⟨(hR.1.alloc _).mono (by omega), hR.2.step (stx _ _ ((Ex.refl _ _).alloc _))⟩, stx _ _ ((Ex.refl _ _).alloc _)⟩
          | 19, ho =>
            obtain rfl := Option.some.inj ho
            have h0 : a.tmps.getD 5 undef = .pointer (some ⟨rb, 0, none⟩) := hrest 5 (by decide)
            exact y_move rfl ⟨fun _ => h0, (fun h => by cases h), ⟨(hR.1.mono (by omega)), hR.2⟩, stx _ _ (Ex.refl _ _)⟩
          | 20, ho =>
            obtain rfl := Option.some.inj ho
            have q1 := hdeps 19 _ 44 ⟨{ on := 19, ground := .data }, by simp, rfl, rfl⟩ rfl rfl
            have h1 : a.tmps.getD 44 undef = .pointer (some ⟨rb, 0, none⟩) := q1
            refine y_call (args := #[.pointer (some ⟨rb, 0, none⟩), .int .i64 6]) rfl (fun _ _ => by kernel_rfl) (by simp [Act.eval, h1]) ?_
            exact (pick_any rb _ 6 _ hR.1 (by omega) (by omega) (by omega)).mono fun e w2 ⟨k, he, k0, k1, r2, x2⟩ => ⟨_, he, fun _ => ⟨k, rfl, by omega, by omega⟩, (fun h => by cases h), ⟨r2.mono (by omega), hR.2.step (stx _ _ x2)⟩, stx _ _ x2⟩
          | 21, ho =>
            obtain rfl := Option.some.inj ho
            have q1 := hdeps 18 _ 43 ⟨{ on := 18, ground := .data }, by simp, rfl, rfl⟩ rfl rfl
            obtain ⟨b1, h1, e1, c1⟩ := q1
            have q2 := hdeps 20 _ 45 ⟨{ on := 20, ground := .data }, by simp, rfl, rfl⟩ rfl rfl
            obtain ⟨k2, h2, l2, u2⟩ := q2
            obtain ⟨q, rfl⟩ := Int.eq_ofNat_of_zero_le (show 0 ≤ k2 by omega)
            obtain ⟨y, cy, y0, y1⟩ := c1 q (by omega)
            exact y_index rfl h1 h2 (by omega) Tryd.underlying46 (fun _ => by kernel_rfl) ⟨fun _ => ⟨⟨b1, q, none⟩, y, rfl, e1, cy, y0, y1⟩, (fun h => by cases h), ⟨(hR.1.mono (by omega)), hR.2⟩, stx _ _ (Ex.refl _ _)⟩
          | 22, ho =>
            obtain rfl := Option.some.inj ho
            have q1 := hdeps 21 _ 46 ⟨{ on := 21, ground := .data }, by simp, rfl, rfl⟩ rfl rfl
            obtain ⟨p1, y1, h1, e1, c1, l1, u1⟩ := q1
            exact y_load rfl h1 c1 (fun _ => by kernel_rfl) ⟨fun _ => ⟨y1, rfl, by omega, by omega⟩, (fun h => by cases h), ⟨(hR.1.mono (by omega)), hR.2⟩, stx _ _ (Ex.refl _ _)⟩
          | 23, ho =>
            obtain rfl := Option.some.inj ho
            have q1 := hdeps 17 _ 42 ⟨{ on := 17, ground := .data }, by simp, rfl, rfl⟩ rfl rfl
            obtain ⟨b1, h1, e1, c1⟩ := q1
            have q2 := hdeps 22 _ 47 ⟨{ on := 22, ground := .data }, by simp, rfl, rfl⟩ rfl rfl
            obtain ⟨k2, h2, l2, u2⟩ := q2
            obtain ⟨q, rfl⟩ := Int.eq_ofNat_of_zero_le (show 0 ≤ k2 by omega)
            obtain ⟨y, cy, y0, y1⟩ := c1 q (by omega)
            exact y_index rfl h1 h2 (by omega) Tryd.underlying46 (fun _ => by kernel_rfl) ⟨fun _ => ⟨⟨b1, q, none⟩, y, rfl, e1, cy, y0, y1⟩, (fun h => by cases h), ⟨(hR.1.mono (by omega)), hR.2⟩, stx _ _ (Ex.refl _ _)⟩
          | 24, ho =>
            obtain rfl := Option.some.inj ho
            have q1 := hdeps 23 _ 48 ⟨{ on := 23, ground := .data }, by simp, rfl, rfl⟩ rfl rfl
            obtain ⟨p1, y1, h1, e1, c1, l1, u1⟩ := q1
            exact y_load rfl h1 c1 (fun _ => by kernel_rfl) ⟨fun _ => ⟨y1, rfl, by omega, by omega⟩, (fun h => by cases h), ⟨(hR.1.mono (by omega)), hR.2⟩, stx _ _ (Ex.refl _ _)⟩
          | 25, ho =>
            obtain rfl := Option.some.inj ho
            exact y_assign rfl ⟨fun _ => hdeps 0 _ 25 ⟨{ on := 0, ground := .data }, by simp, rfl, rfl⟩ rfl rfl, (fun h => by cases h), ⟨(hR.1.mono (by omega)), hR.2⟩, stx _ _ (Ex.refl _ _)⟩
          | 26, ho =>
            obtain rfl := Option.some.inj ho
            exact y_assign rfl ⟨fun _ => hdeps 14 _ 39 ⟨{ on := 14, ground := .data }, by simp, rfl, rfl⟩ rfl rfl, (fun h => by cases h), ⟨(hR.1.mono (by omega)), hR.2⟩, stx _ _ (Ex.refl _ _)⟩
          | 27, ho =>
            obtain rfl := Option.some.inj ho
            exact y_assign rfl ⟨fun _ => hdeps 24 _ 49 ⟨{ on := 24, ground := .data }, by simp, rfl, rfl⟩ rfl rfl, (fun h => by cases h), ⟨(hR.1.mono (by omega)), hR.2⟩, stx _ _ (Ex.refl _ _)⟩
          | _ + 28, ho => cases ho
        · intro a w9 hR hsz hdf hrest htyp hbare
          have HE := Lib.hid (HB.out.ex (HR.out.2.trans (ExS.ex hR.2.1)) hl)
          have HV9 := Lib.hid ((HV.out.ex (ExS.ex (hR.2.1)) (by omega)).lower (by omega : w.heap.size ≤ w1.heap.size))
          clear hR
          obtain ⟨x25, e25⟩ : ∃ x, a.tmps.getD 25 undef = x := ⟨_, rfl⟩
          obtain ⟨x26, e26⟩ : ∃ x, a.tmps.getD 26 undef = x := ⟨_, rfl⟩
          obtain ⟨x27, e27⟩ : ∃ x, a.tmps.getD 27 undef = x := ⟨_, rfl⟩
          obtain ⟨x28, e28⟩ : ∃ x, a.tmps.getD 28 undef = x := ⟨_, rfl⟩
          obtain ⟨x29, e29⟩ : ∃ x, a.tmps.getD 29 undef = x := ⟨_, rfl⟩
          obtain ⟨x30, e30⟩ : ∃ x, a.tmps.getD 30 undef = x := ⟨_, rfl⟩
          obtain ⟨x31, e31⟩ : ∃ x, a.tmps.getD 31 undef = x := ⟨_, rfl⟩
          obtain ⟨x32, e32⟩ : ∃ x, a.tmps.getD 32 undef = x := ⟨_, rfl⟩
          obtain ⟨x33, e33⟩ : ∃ x, a.tmps.getD 33 undef = x := ⟨_, rfl⟩
          obtain ⟨x34, e34⟩ : ∃ x, a.tmps.getD 34 undef = x := ⟨_, rfl⟩
          obtain ⟨x35, e35⟩ : ∃ x, a.tmps.getD 35 undef = x := ⟨_, rfl⟩
          obtain ⟨x36, e36⟩ : ∃ x, a.tmps.getD 36 undef = x := ⟨_, rfl⟩
          obtain ⟨x37, e37⟩ : ∃ x, a.tmps.getD 37 undef = x := ⟨_, rfl⟩
          obtain ⟨x38, e38⟩ : ∃ x, a.tmps.getD 38 undef = x := ⟨_, rfl⟩
          obtain ⟨x39, e39⟩ : ∃ x, a.tmps.getD 39 undef = x := ⟨_, rfl⟩
          obtain ⟨x40, e40⟩ : ∃ x, a.tmps.getD 40 undef = x := ⟨_, rfl⟩
          obtain ⟨x41, e41⟩ : ∃ x, a.tmps.getD 41 undef = x := ⟨_, rfl⟩
          obtain ⟨x42, e42⟩ : ∃ x, a.tmps.getD 42 undef = x := ⟨_, rfl⟩
          obtain ⟨x43, e43⟩ : ∃ x, a.tmps.getD 43 undef = x := ⟨_, rfl⟩
          obtain ⟨x44, e44⟩ : ∃ x, a.tmps.getD 44 undef = x := ⟨_, rfl⟩
          obtain ⟨x45, e45⟩ : ∃ x, a.tmps.getD 45 undef = x := ⟨_, rfl⟩
          obtain ⟨x46, e46⟩ : ∃ x, a.tmps.getD 46 undef = x := ⟨_, rfl⟩
          obtain ⟨x47, e47⟩ : ∃ x, a.tmps.getD 47 undef = x := ⟨_, rfl⟩
          obtain ⟨x48, e48⟩ : ∃ x, a.tmps.getD 48 undef = x := ⟨_, rfl⟩
          obtain ⟨x49, e49⟩ : ∃ x, a.tmps.getD 49 undef = x := ⟨_, rfl⟩
          have e2 : a.tmps.getD 2 undef = .slice A xs.length c := htyp 25 _ 2 rfl rfl
          obtain ⟨k3, e3, l3, u3⟩ := htyp 26 _ 3 rfl rfl
          obtain ⟨k4, e4, l4, u4⟩ := htyp 27 _ 4 rfl rfl
          have ha := act_puts hsz hdf hrest [(25, x25), (26, x26), (27, x27), (28, x28), (29, x29), (30, x30), (31, x31), (32, x32), (33, x33), (34, x34), (35, x35), (36, x36), (37, x37), (38, x38), (39, x39), (40, x40), (41, x41), (42, x42), (43, x43), (44, x44), (45, x45), (46, x46), (47, x47), (48, x48), (49, x49), (2, .slice A xs.length c), (3, .int .i64 k3), (4, .int .i64 k4)] rfl ⟨by decide, fun d hd => (by decide : ∀ d ∈ ([25, 26, 27, 28, 29, 30, 31, 32, 33, 34, 35, 36, 37, 38, 39, 40, 41, 42, 43, 44, 45, 46, 47, 48, 49, 2, 3, 4] : List Nat), d < 50) d hd⟩ (by simp only [List.forall_mem_cons]; exact ⟨e25, e26, e27, e28, e29, e30, e31, e32, e33, e34, e35, e36, e37, e38, e39, e40, e41, e42, e43, e44, e45, e46, e47, e48, e49, e2, e3, e4, fun _ h => by cases h⟩)
          clear hsz hdf hrest htyp hbare e25 e26 e27 e28 e29 e30 e31 e32 e33 e34 e35 e36 e37 e38 e39 e40 e41 e42 e43 e44 e45 e46 e47 e48 e49 e2 e3 e4
          subst ha
          simp only [List.foldl_cons, List.foldl_nil, Act.put, List.setIfInBounds_toArray, List.set_cons_zero, List.set_cons_succ]
          go_wp2
          go_returns
          exact ⟨(.slice A xs.length c), k3, k4, xs, rfl, HV9.out, HP.out, HE.out⟩
      · have hs' : decide ((k : Int) < 7) = false := by simp; omega
        go_wp2_with fail
        have stx : ∀ w w', Ex rb w w' → St (· = rb) (fun _ => True) (fun _ => True) w w' := fun w w' hx => ⟨ExS.of_ex hx rfl, fun _ => trivial, fun _ => trivial⟩
        have hSlt : ∀ k, ((· = rb)) k → k < (w3).heap.size := fun k hk => by subst hk; exact hr3
        refine wp_region_typed [25, 26, 27, 28, 29, 30, 31, 32, 33, 34, 35, 36, 37, 38, 39, 40, 41, 42, 43, 44, 45, 46, 47, 48, 49, 2, 3, 4] (by kernel_rfl) (by kernel_rfl) (by kernel_rfl) (fun n w' => Rd w' rb (200 + n) ∧ Rel (· = rb) (fun _ => True) w3 w') (fun i => (([.eq (.slice A xs.length c), .eq (.pointer (some ⟨rb, 0, none⟩)), .eq (.int .i64 (p : Int)), .int (0) (127), .int (1) (128), .int (0) (127), .int (1) (128), .ints 3 (0) (128), .ints 6 (0) (2), .eq (.pointer (some ⟨rb, 0, none⟩)), .int (0) (5), .adr (0) (2), .int (0) (2), .adr (0) (128), .int (0) (128), .eq (.pointer (some ⟨rb, 0, none⟩)), .int (0) (8), .ints 3 (-1) (100), .ints 6 (0) (2), .eq (.pointer (some ⟨rb, 0, none⟩)), .int (0) (5), .adr (0) (2), .int (0) (2), .adr (-1) (100), .int (-1) (100), .eq (.slice A xs.length c), .int (0) (128), .int (-1) (100)] : List Ty).getD i .top).den (· = rb) (fun _ => True)) (St (· = rb) (fun _ => True) (fun _ => True)) ⟨(HR.out.1).drew.mono (by omega), (HREL).step (stx _ _ ((Ex.refl _ _).drew))⟩ (fun i v w w' hx h => Ty.den_ex _ hx h) ?_ ?_
        · intro i o ho a n w hn hR hrest hdeps
          have hn' : n < 28 := hn
          match i, ho with
          | 0, ho =>
            obtain rfl := Option.some.inj ho
            have h0 : a.tmps.getD 6 undef = .slice A xs.length c := hrest 6 (by decide)
            exact y_move rfl ⟨fun _ => h0, (fun h => by cases h), ⟨(hR.1.mono (by omega)), hR.2⟩, stx _ _ (Ex.refl _ _)⟩
          | 1, ho =>
            obtain rfl := Option.some.inj ho
            have h0 : a.tmps.getD 5 undef = .pointer (some ⟨rb, 0, none⟩) := hrest 5 (by decide)
            exact y_move rfl ⟨fun _ => h0, (fun h => by cases h), ⟨(hR.1.mono (by omega)), hR.2⟩, stx _ _ (Ex.refl _ _)⟩
          | 2, ho =>
            obtain rfl := Option.some.inj ho
            have h0 : a.tmps.getD 7 undef = .int .i64 (p : Int) := hrest 7 (by decide)
            exact y_move rfl ⟨fun _ => h0, (fun h => by cases h), ⟨(hR.1.mono (by omega)), hR.2⟩, stx _ _ (Ex.refl _ _)⟩
          | 3, ho =>
            obtain rfl := Option.some.inj ho
            have q1 := hdeps 1 _ 26 ⟨{ on := 1, ground := .data }, by simp, rfl, rfl⟩ rfl rfl
            have h1 : a.tmps.getD 26 undef = .pointer (some ⟨rb, 0, none⟩) := q1
            have q2 := hdeps 2 _ 27 ⟨{ on := 2, ground := .data }, by simp, rfl, rfl⟩ rfl rfl
            have h2 : a.tmps.getD 27 undef = .int .i64 (p : Int) := q2
            refine y_call (args := #[.pointer (some ⟨rb, 0, none⟩), .int .i64 (p : Int)]) rfl (fun _ _ => by kernel_rfl) (by simp [Act.eval, h1, h2]) ?_
            exact (pick_any rb _ (p : Int) _ hR.1 (by omega) (by omega) (by omega)).mono fun e w2 ⟨k, he, k0, k1, r2, x2⟩ => ⟨_, he, fun _ => ⟨k, rfl, by omega, by omega⟩, (fun h => by cases h), ⟨r2.mono (by omega), hR.2.step (stx _ _ x2)⟩, stx _ _ x2⟩
          | 4, ho =>
            obtain rfl := Option.some.inj ho
            have h0 : a.tmps.getD 7 undef = .int .i64 (p : Int) := hrest 7 (by decide)
            exact y_move rfl ⟨fun _ => ⟨(p : Int), h0, by omega, by omega⟩, (fun h => by cases h), ⟨(hR.1.mono (by omega)), hR.2⟩, stx _ _ (Ex.refl _ _)⟩
          | 5, ho =>
            obtain rfl := Option.some.inj ho
            have q1 := hdeps 4 _ 29 ⟨{ on := 4, ground := .data }, by simp, rfl, rfl⟩ rfl rfl
            obtain ⟨k1, h1, l1, u1⟩ := q1
            exact y_sub rfl h1 rfl (by omega) (by omega) ⟨fun _ => ⟨_, rfl, by omega, by omega⟩, (fun h => by cases h), ⟨(hR.1.mono (by omega)), hR.2⟩, stx _ _ (Ex.refl _ _)⟩
          | 6, ho =>
            obtain rfl := Option.some.inj ho
            have h0 : a.tmps.getD 7 undef = .int .i64 (p : Int) := hrest 7 (by decide)
            exact y_move rfl ⟨fun _ => ⟨(p : Int), h0, by omega, by omega⟩, (fun h => by cases h), ⟨(hR.1.mono (by omega)), hR.2⟩, stx _ _ (Ex.refl _ _)⟩
          | 7, ho =>
            obtain rfl := Option.some.inj ho
            have q1 := hdeps 3 _ 28 ⟨{ on := 3, ground := .data }, by simp, rfl, rfl⟩ rfl rfl
            obtain ⟨k1, h1, l1, u1⟩ := q1
            have q2 := hdeps 5 _ 30 ⟨{ on := 5, ground := .data }, by simp, rfl, rfl⟩ rfl rfl
            obtain ⟨k2, h2, l2, u2⟩ := q2
            have q3 := hdeps 6 _ 31 ⟨{ on := 6, ground := .data }, by simp, rfl, rfl⟩ rfl rfl
            obtain ⟨k3, h3, l3, u3⟩ := q3
            refine y_lit (cs := #[.int .i64 k1, .int .i64 k2, .int .i64 k3]) (E := 3) ?_ ?_
            · intro W; simp only [Array.getD_eq_getD_getElem?] at h1 h2 h3; go_simp
            · exact ⟨fun _ => ints_made hSlt hR.2 rfl (by simp <;> omega), (fun h => by cases h), ⟨(hR.1.alloc _).mono (by omega), hR.2.step (stx _ _ ((Ex.refl _ _).alloc _))⟩, stx _ _ ((Ex.refl _ _).alloc _)⟩
          | 8, ho =>
            obtain rfl := Option.some.inj ho
            refine y_lit (cs := #[.int .i64 (0), .int .i64 (0), .int .i64 (0), .int .i64 (1), .int .i64 (1), .int .i64 (2)]) (E := 3) ?_ ?_
            · intro W; go_simp
            · exact ⟨fun _ => ints_made hSlt hR.2 rfl (by simp <;> omega), (fun h => by cases h), ⟨(hR.1.alloc _).mono (by omega), hR.2.step (stx _ _ ((Ex.refl _ _).alloc _))⟩, stx _ _ ((Ex.refl _ _).alloc _)⟩
          | 9, ho =>
            obtain rfl := Option.some.inj ho
            have h0 : a.tmps.getD 5 undef = .pointer (some ⟨rb, 0, none⟩) := hrest 5 (by decide)
            exact y_move rfl ⟨fun _ => h0, (fun h => by cases h), ⟨(hR.1.mono (by omega)), hR.2⟩, stx _ _ (Ex.refl _ _)⟩
          | 10, ho =>
            obtain rfl := Option.some.inj ho
            have q1 := hdeps 9 _ 34 ⟨{ on := 9, ground := .data }, by simp, rfl, rfl⟩ rfl rfl
            have h1 : a.tmps.getD 34 undef = .pointer (some ⟨rb, 0, none⟩) := q1
            refine y_call (args := #[.pointer (some ⟨rb, 0, none⟩), .int .i64 6]) rfl (fun _ _ => by kernel_rfl) (by simp [Act.eval, h1]) ?_
            exact (pick_any rb _ 6 _ hR.1 (by omega) (by omega) (by omega)).mono fun e w2 ⟨k, he, k0, k1, r2, x2⟩ => ⟨_, he, fun _ => ⟨k, rfl, by omega, by omega⟩, (fun h => by cases h), ⟨r2.mono (by omega), hR.2.step (stx _ _ x2)⟩, stx _ _ x2⟩
          | 11, ho =>
            obtain rfl := Option.some.inj ho
            have q1 := hdeps 8 _ 33 ⟨{ on := 8, ground := .data }, by simp, rfl, rfl⟩ rfl rfl
            obtain ⟨b1, h1, e1, c1⟩ := q1
            have q2 := hdeps 10 _ 35 ⟨{ on := 10, ground := .data }, by simp, rfl, rfl⟩ rfl rfl
            obtain ⟨k2, h2, l2, u2⟩ := q2
            obtain ⟨q, rfl⟩ := Int.eq_ofNat_of_zero_le (show 0 ≤ k2 by omega)
            obtain ⟨y, cy, y0, y1⟩ := c1 q (by omega)
            exact y_index rfl h1 h2 (by omega) Tryd.underlying46 (fun _ => by kernel_rfl) ⟨fun _ => ⟨⟨b1, q, none⟩, y, rfl, e1, cy, y0, y1⟩, (fun h => by cases h), ⟨(hR.1.mono (by omega)), hR.2⟩, stx _ _ (Ex.refl _ _)⟩
          | 12, ho =>
            obtain rfl := Option.some.inj ho
            have q1 := hdeps 11 _ 36 ⟨{ on := 11, ground := .data }, by simp, rfl, rfl⟩ rfl rfl
            obtain ⟨p1, y1, h1, e1, c1, l1, u1⟩ := q1
            exact y_load rfl h1 c1 (fun _ => by kernel_rfl) ⟨fun _ => ⟨y1, rfl, by omega, by omega⟩, (fun h => by cases h), ⟨(hR.1.mono (by omega)), hR.2⟩, stx _ _ (Ex.refl _ _)⟩
          | 13, ho =>
            obtain rfl := Option.some.inj ho
            have q1 := hdeps 7 _ 32 ⟨{ on := 7, ground := .data }, by simp, rfl, rfl⟩ rfl rfl
            obtain ⟨b1, h1, e1, c1⟩ := q1
            have q2 := hdeps 12 _ 37 ⟨{ on := 12, ground := .data }, by simp, rfl, rfl⟩ rfl rfl
            obtain ⟨k2, h2, l2, u2⟩ := q2
            obtain ⟨q, rfl⟩ := Int.eq_ofNat_of_zero_le (show 0 ≤ k2 by omega)
            obtain ⟨y, cy, y0, y1⟩ := c1 q (by omega)
            exact y_index rfl h1 h2 (by omega) Tryd.underlying46 (fun _ => by kernel_rfl) ⟨fun _ => ⟨⟨b1, q, none⟩, y, rfl, e1, cy, y0, y1⟩, (fun h => by cases h), ⟨(hR.1.mono (by omega)), hR.2⟩, stx _ _ (Ex.refl _ _)⟩
          | 14, ho =>
            obtain rfl := Option.some.inj ho
            have q1 := hdeps 13 _ 38 ⟨{ on := 13, ground := .data }, by simp, rfl, rfl⟩ rfl rfl
            obtain ⟨p1, y1, h1, e1, c1, l1, u1⟩ := q1
            exact y_load rfl h1 c1 (fun _ => by kernel_rfl) ⟨fun _ => ⟨y1, rfl, by omega, by omega⟩, (fun h => by cases h), ⟨(hR.1.mono (by omega)), hR.2⟩, stx _ _ (Ex.refl _ _)⟩
          | 15, ho =>
            obtain rfl := Option.some.inj ho
            have h0 : a.tmps.getD 5 undef = .pointer (some ⟨rb, 0, none⟩) := hrest 5 (by decide)
            exact y_move rfl ⟨fun _ => h0, (fun h => by cases h), ⟨(hR.1.mono (by omega)), hR.2⟩, stx _ _ (Ex.refl _ _)⟩
          | 16, ho =>
            obtain rfl := Option.some.inj ho
            have q1 := hdeps 15 _ 40 ⟨{ on := 15, ground := .data }, by simp, rfl, rfl⟩ rfl rfl
            have h1 : a.tmps.getD 40 undef = .pointer (some ⟨rb, 0, none⟩) := q1
            refine y_call (args := #[.pointer (some ⟨rb, 0, none⟩), .int .i64 9]) rfl (fun _ _ => by kernel_rfl) (by simp [Act.eval, h1]) ?_
            exact (pick_any rb _ 9 _ hR.1 (by omega) (by omega) (by omega)).mono fun e w2 ⟨k, he, k0, k1, r2, x2⟩ => ⟨_, he, fun _ => ⟨k, rfl, by omega, by omega⟩, (fun h => by cases h), ⟨r2.mono (by omega), hR.2.step (stx _ _ x2)⟩, stx _ _ x2⟩
          | 17, ho =>
            obtain rfl := Option.some.inj ho
            have q1 := hdeps 16 _ 41 ⟨{ on := 16, ground := .data }, by simp, rfl, rfl⟩ rfl rfl
            obtain ⟨k1, h1, l1, u1⟩ := q1
            refine y_lit (cs := #[.int .i64 k1, .int .i64 (-1), .int .i64 (100)]) (E := 3) ?_ ?_
            · intro W; simp only [Array.getD_eq_getD_getElem?] at h1; go_simp
            · exact ⟨fun _ => ints_made hSlt hR.2 rfl (by simp <;> omega), (fun h => by cases h), ⟨(hR.1.alloc _).mono (by omega), hR.2.step (stx _ _ ((Ex.refl _ _).alloc _))⟩, stx _ _ ((Ex.refl _ _).alloc _)⟩
          | 18, ho =>
            obtain rfl := Option.some.inj ho
            refine y_lit (cs := #[.int .i64 (0), .int .i64 (0), .int .i64 (0), .int .i64 (0), .int .i64 (1), .int .i64 (2)]) (E := 3) ?_ ?_
            · intro W; go_simp
            · exact ⟨fun _ => ints_made hSlt hR.2 rfl (by simp <;> omega), (fun h => by cases h), ⟨(hR.1.alloc _).mono (by omega), hR.2.step (stx _ _ ((Ex.refl _ _).alloc _))⟩, stx _ _ ((Ex.refl _ _).alloc _)⟩
          | 19, ho =>
            obtain rfl := Option.some.inj ho
            have h0 : a.tmps.getD 5 undef = .pointer (some ⟨rb, 0, none⟩) := hrest 5 (by decide)
            exact y_move rfl ⟨fun _ => h0, (fun h => by cases h), ⟨(hR.1.mono (by omega)), hR.2⟩, stx _ _ (Ex.refl _ _)⟩
          | 20, ho =>
            obtain rfl := Option.some.inj ho
            have q1 := hdeps 19 _ 44 ⟨{ on := 19, ground := .data }, by simp, rfl, rfl⟩ rfl rfl
            have h1 : a.tmps.getD 44 undef = .pointer (some ⟨rb, 0, none⟩) := q1
            refine y_call (args := #[.pointer (some ⟨rb, 0, none⟩), .int .i64 6]) rfl (fun _ _ => by kernel_rfl) (by simp [Act.eval, h1]) ?_
            exact (pick_any rb _ 6 _ hR.1 (by omega) (by omega) (by omega)).mono fun e w2 ⟨k, he, k0, k1, r2, x2⟩ => ⟨_, he, fun _ => ⟨k, rfl, by omega, by omega⟩, (fun h => by cases h), ⟨r2.mono (by omega), hR.2.step (stx _ _ x2)⟩, stx _ _ x2⟩
          | 21, ho =>
            obtain rfl := Option.some.inj ho
            have q1 := hdeps 18 _ 43 ⟨{ on := 18, ground := .data }, by simp, rfl, rfl⟩ rfl rfl
            obtain ⟨b1, h1, e1, c1⟩ := q1
            have q2 := hdeps 20 _ 45 ⟨{ on := 20, ground := .data }, by simp, rfl, rfl⟩ rfl rfl
            obtain ⟨k2, h2, l2, u2⟩ := q2
            obtain ⟨q, rfl⟩ := Int.eq_ofNat_of_zero_le (show 0 ≤ k2 by omega)
            obtain ⟨y, cy, y0, y1⟩ := c1 q (by omega)
            exact y_index rfl h1 h2 (by omega) Tryd.underlying46 (fun _ => by kernel_rfl) ⟨fun _ => ⟨⟨b1, q, none⟩, y, rfl, e1, cy, y0, y1⟩, (fun h => by cases h), ⟨(hR.1.mono (by omega)), hR.2⟩, stx _ _ (Ex.refl _ _)⟩
          | 22, ho =>
            obtain rfl := Option.some.inj ho
            have q1 := hdeps 21 _ 46 ⟨{ on := 21, ground := .data }, by simp, rfl, rfl⟩ rfl rfl
            obtain ⟨p1, y1, h1, e1, c1, l1, u1⟩ := q1
            exact y_load rfl h1 c1 (fun _ => by kernel_rfl) ⟨fun _ => ⟨y1, rfl, by omega, by omega⟩, (fun h => by cases h), ⟨(hR.1.mono (by omega)), hR.2⟩, stx _ _ (Ex.refl _ _)⟩
          | 23, ho =>
            obtain rfl := Option.some.inj ho
            have q1 := hdeps 17 _ 42 ⟨{ on := 17, ground := .data }, by simp, rfl, rfl⟩ rfl rfl
            obtain ⟨b1, h1, e1, c1⟩ := q1
            have q2 := hdeps 22 _ 47 ⟨{ on := 22, ground := .data }, by simp, rfl, rfl⟩ rfl rfl
            obtain ⟨k2, h2, l2, u2⟩ := q2
            obtain ⟨q, rfl⟩ := Int.eq_ofNat_of_zero_le (show 0 ≤ k2 by omega)
            obtain ⟨y, cy, y0, y1⟩ := c1 q (by omega)
            exact y_index rfl h1 h2 (by omega) Tryd.underlying46 (fun _ => by kernel_rfl) ⟨fun _ => ⟨⟨b1, q, none⟩, y, rfl, e1, cy, y0, y1⟩, (fun h => by cases h), ⟨(hR.1.mono (by omega)), hR.2⟩, stx _ _ (Ex.refl _ _)⟩
          | 24, ho =>
            obtain rfl := Option.some.inj ho
            have q1 := hdeps 23 _ 48 ⟨{ on := 23, ground := .data }, by simp, rfl, rfl⟩ rfl rfl
            obtain ⟨p1, y1, h1, e1, c1, l1, u1⟩ := q1
            exact y_load rfl h1 c1 (fun _ => by kernel_rfl) ⟨fun _ => ⟨y1, rfl, by omega, by omega⟩, (fun h => by cases h), ⟨(hR.1.mono (by omega)), hR.2⟩, stx _ _ (Ex.refl _ _)⟩
          | 25, ho =>
            obtain rfl := Option.some.inj ho
            exact y_assign rfl ⟨fun _ => hdeps 0 _ 25 ⟨{ on := 0, ground := .data }, by simp, rfl, rfl⟩ rfl rfl, (fun h => by cases h), ⟨(hR.1.mono (by omega)), hR.2⟩, stx _ _ (Ex.refl _ _)⟩
          | 26, ho =>
            obtain rfl := Option.some.inj ho
            exact y_assign rfl ⟨fun _ => hdeps 14 _ 39 ⟨{ on := 14, ground := .data }, by simp, rfl, rfl⟩ rfl rfl, (fun h => by cases h), ⟨(hR.1.mono (by omega)), hR.2⟩, stx _ _ (Ex.refl _ _)⟩
          | 27, ho =>
            obtain rfl := Option.some.inj ho
            exact y_assign rfl ⟨fun _ => hdeps 24 _ 49 ⟨{ on := 24, ground := .data }, by simp, rfl, rfl⟩ rfl rfl, (fun h => by cases h), ⟨(hR.1.mono (by omega)), hR.2⟩, stx _ _ (Ex.refl _ _)⟩
          | _ + 28, ho => cases ho
        · intro a w9 hR hsz hdf hrest htyp hbare
          have HE := Lib.hid (HB.out.ex (HR.out.2.trans (ExS.ex hR.2.1)) hl)
          have HV9 := Lib.hid ((HV.out.ex (ExS.ex (hR.2.1)) (by omega)).lower (by omega : w.heap.size ≤ w1.heap.size))
          clear hR
          obtain ⟨x25, e25⟩ : ∃ x, a.tmps.getD 25 undef = x := ⟨_, rfl⟩
          obtain ⟨x26, e26⟩ : ∃ x, a.tmps.getD 26 undef = x := ⟨_, rfl⟩
          obtain ⟨x27, e27⟩ : ∃ x, a.tmps.getD 27 undef = x := ⟨_, rfl⟩
          obtain ⟨x28, e28⟩ : ∃ x, a.tmps.getD 28 undef = x := ⟨_, rfl⟩
          obtain ⟨x29, e29⟩ : ∃ x, a.tmps.getD 29 undef = x := ⟨_, rfl⟩
          obtain ⟨x30, e30⟩ : ∃ x, a.tmps.getD 30 undef = x := ⟨_, rfl⟩
          obtain ⟨x31, e31⟩ : ∃ x, a.tmps.getD 31 undef = x := ⟨_, rfl⟩
          obtain ⟨x32, e32⟩ : ∃ x, a.tmps.getD 32 undef = x := ⟨_, rfl⟩
          obtain ⟨x33, e33⟩ : ∃ x, a.tmps.getD 33 undef = x := ⟨_, rfl⟩
          obtain ⟨x34, e34⟩ : ∃ x, a.tmps.getD 34 undef = x := ⟨_, rfl⟩
          obtain ⟨x35, e35⟩ : ∃ x, a.tmps.getD 35 undef = x := ⟨_, rfl⟩
          obtain ⟨x36, e36⟩ : ∃ x, a.tmps.getD 36 undef = x := ⟨_, rfl⟩
          obtain ⟨x37, e37⟩ : ∃ x, a.tmps.getD 37 undef = x := ⟨_, rfl⟩
          obtain ⟨x38, e38⟩ : ∃ x, a.tmps.getD 38 undef = x := ⟨_, rfl⟩
          obtain ⟨x39, e39⟩ : ∃ x, a.tmps.getD 39 undef = x := ⟨_, rfl⟩
          obtain ⟨x40, e40⟩ : ∃ x, a.tmps.getD 40 undef = x := ⟨_, rfl⟩
          obtain ⟨x41, e41⟩ : ∃ x, a.tmps.getD 41 undef = x := ⟨_, rfl⟩
          obtain ⟨x42, e42⟩ : ∃ x, a.tmps.getD 42 undef = x := ⟨_, rfl⟩
          obtain ⟨x43, e43⟩ : ∃ x, a.tmps.getD 43 undef = x := ⟨_, rfl⟩
          obtain ⟨x44, e44⟩ : ∃ x, a.tmps.getD 44 undef = x := ⟨_, rfl⟩
          obtain ⟨x45, e45⟩ : ∃ x, a.tmps.getD 45 undef = x := ⟨_, rfl⟩
          obtain ⟨x46, e46⟩ : ∃ x, a.tmps.getD 46 undef = x := ⟨_, rfl⟩
          obtain ⟨x47, e47⟩ : ∃ x, a.tmps.getD 47 undef = x := ⟨_, rfl⟩
          obtain ⟨x48, e48⟩ : ∃ x, a.tmps.getD 48 undef = x := ⟨_, rfl⟩
          obtain ⟨x49, e49⟩ : ∃ x, a.tmps.getD 49 undef = x := ⟨_, rfl⟩
          have e2 : a.tmps.getD 2 undef = .slice A xs.length c := htyp 25 _ 2 rfl rfl
          obtain ⟨k3, e3, l3, u3⟩ := htyp 26 _ 3 rfl rfl
          obtain ⟨k4, e4, l4, u4⟩ := htyp 27 _ 4 rfl rfl
          have ha := act_puts hsz hdf hrest [(25, x25), (26, x26), (27, x27), (28, x28), (29, x29), (30, x30), (31, x31), (32, x32), (33, x33), (34, x34), (35, x35), (36, x36), (37, x37), (38, x38), (39, x39), (40, x40), (41, x41), (42, x42), (43, x43), (44, x44), (45, x45), (46, x46), (47, x47), (48, x48), (49, x49), (2, .slice A xs.length c), (3, .int .i64 k3), (4, .int .i64 k4)] rfl ⟨by decide, fun d hd => (by decide : ∀ d ∈ ([25, 26, 27, 28, 29, 30, 31, 32, 33, 34, 35, 36, 37, 38, 39, 40, 41, 42, 43, 44, 45, 46, 47, 48, 49, 2, 3, 4] : List Nat), d < 50) d hd⟩ (by simp only [List.forall_mem_cons]; exact ⟨e25, e26, e27, e28, e29, e30, e31, e32, e33, e34, e35, e36, e37, e38, e39, e40, e41, e42, e43, e44, e45, e46, e47, e48, e49, e2, e3, e4, fun _ h => by cases h⟩)
          clear hsz hdf hrest htyp hbare e25 e26 e27 e28 e29 e30 e31 e32 e33 e34 e35 e36 e37 e38 e39 e40 e41 e42 e43 e44 e45 e46 e47 e48 e49 e2 e3 e4
          subst ha
          simp only [List.foldl_cons, List.foldl_nil, Act.put, List.setIfInBounds_toArray, List.set_cons_zero, List.set_cons_succ]
          go_wp2
          go_returns
          exact ⟨(.slice A xs.length c), k3, k4, xs, rfl, HV9.out, HP.out, HE.out⟩
end Go.Proofs.YtiakkgpkkpaldaaDoor
