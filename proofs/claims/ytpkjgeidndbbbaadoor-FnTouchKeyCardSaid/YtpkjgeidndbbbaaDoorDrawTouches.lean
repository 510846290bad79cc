/- Draws of keys with stamps, and of an access. -/
import Derived.Test.YtpkjgeidndbbbaaDoorDrawTouch
import Derived.Test.YtpkjgeidndbbbaaDoorTypedDraw
namespace Go.Proofs.YtpkjgeidndbbbaaDoor
open Go.RowKit
/-- Keys with stamps, a stamp, a key and a kind were drawn. -/
def DrawnTK (w : World) (en : Ending) (w' : World) : Prop :=
  ∃ u xs stamp key write, en = .returned (.tuple #[u, .int .i64 stamp, .int .i64 key, .bool write]) ∧ smI stamp ∧ smI key ∧ Val 2 encTouch w.heap.size w' u xs ∧ drawnTouch xs ∧ Ext w w'
set_option maxRecDepth 8000 in
set_option maxHeartbeats 2000000 in
theorem DrawTouchKey_any {v : Value} (w : World) (h : CodeIn w v) : Calls Tryd.prog 29 #[v] w (DrawnTK w) := by
  have H := Lib.hid h
  clear h
  go_enter Tryd.func29, Tryd.ntmps29
  go_wp2_with fail
  refine (open_code _ H.out).mono ?_
  rintro e w1 ⟨rb, rfl, hl, r1, b1⟩
  have hr := r1.lt
  go_wp2_with fail
  refine (l20Touches_any rb 0 9 _ r1 (by omega) (by omega)).mono ?_
  rintro e w3 ⟨u, xs, rfl, hrow, hphi, r3, x3⟩
  have HR := Lib.hid (And.intro r3 x3)
  have HV := Lib.hid hrow
  have hz1 := b1.size
  have HP := Lib.hid hphi
  have HB := Lib.hid b1
  have hr3 := r3.lt
  clear hrow hphi r1 b1 r3 x3
  have HREL : Rel (· = rb) (fun _ => True) w3 w3 := ⟨ExS.refl _ _, trivial⟩
  go_wp2_with fail
  have stx : ∀ w w', Ex rb w w' → St (· = rb) (fun _ => True) (fun _ => True) w w' := fun w w' hx => ⟨ExS.of_ex hx rfl, fun _ => trivial, fun _ => trivial⟩
  have hSlt : ∀ k, ((· = rb)) k → k < (w3).heap.size := fun k hk => by subst hk; exact hr3
  refine wp_region_typed [12, 13, 14, 15, 16, 17, 18, 19, 20, 21, 22, 23, 24, 25, 26, 27, 28, 29, 30, 31, 32, 2, 3, 4, 5] (by kernel_rfl) (by kernel_rfl) (by kernel_rfl) (fun n w' => Rd w' rb (200 + n) ∧ Rel (· = rb) (fun _ => True) w3 w') (fun i => (([.eq (u), .eq (.pointer (some ⟨rb, 0, none⟩)), .int (0) (8), .int (1) (9), .ints 4 (0) (1001), .ints 7 (0) (3), .eq (.pointer (some ⟨rb, 0, none⟩)), .int (0) (6), .adr (0) (3), .int (0) (3), .adr (0) (1001), .int (0) (1001), .eq (.pointer (some ⟨rb, 0, none⟩)), .int (0) (3), .eq (.pointer (some ⟨rb, 0, none⟩)), .int (0) (13), .int (0) (1), .int (-1) (3), .eq (.pointer (some ⟨rb, 0, none⟩)), .int (0) (1), .bool, .eq (u), .int (0) (1001), .int (-1) (3), .bool] : List Ty).getD i .top).den (· = rb) (fun _ => True)) (St (· = rb) (fun _ => True) (fun _ => True)) ⟨(HR.out.1).drew.mono (by omega), (HREL).step (stx _ _ ((Ex.refl _ _).drew))⟩ (fun i v w w' hx h => Ty.den_ex _ hx h) ?_ ?_
  · intro i o ho a n w hn hR hrest hdeps
    have hn' : n < 25 := hn
    match i, ho with
    | 0, ho =>
      obtain rfl := Option.some.inj ho
      have h0 : a.tmps.getD 7 undef = u := hrest 7 (by decide)
      exact y_move rfl ⟨fun _ => h0, (fun h => by cases h), ⟨(hR.1.mono (by omega)), hR.2⟩, stx _ _ (Ex.refl _ _)⟩
    | 1, ho =>
      obtain rfl := Option.some.inj ho
      have h0 : a.tmps.getD 6 undef = .pointer (some ⟨rb, 0, none⟩) := hrest 6 (by decide)
      exact y_move rfl ⟨fun _ => h0, (fun h => by cases h), ⟨(hR.1.mono (by omega)), hR.2⟩, stx _ _ (Ex.refl _ _)⟩
    | 2, ho =>
      obtain rfl := Option.some.inj ho
      have q1 := hdeps 1 _ 13 ⟨{ on := 1, ground := .data }, by simp, rfl, rfl⟩ rfl rfl
      have h1 : a.tmps.getD 13 undef = .pointer (some ⟨rb, 0, none⟩) := q1
      refine y_call (args := #[.pointer (some ⟨rb, 0, none⟩), .int .i64 9]) rfl (fun _ _ => by kernel_rfl) (by simp [Act.eval, h1]) ?_
      exact (pick_any rb _ 9 _ hR.1 (by omega) (by omega) (by omega)).mono fun e w2 ⟨k, he, k0, k1, r2, x2⟩ => ⟨_, he, fun _ => ⟨k, rfl, by omega, by omega⟩, (fun h => by cases h), ⟨r2.mono (by omega), hR.2.step (stx _ _ x2)⟩, stx _ _ x2⟩
    | 3, ho =>
      obtain rfl := Option.some.inj ho
      have q2 := hdeps 2 _ 14 ⟨{ on := 2, ground := .data }, by simp, rfl, rfl⟩ rfl rfl
      obtain ⟨k2, h2, l2, u2⟩ := q2
      exact y_add rfl rfl h2 (by omega) (by omega) ⟨fun _ => ⟨_, rfl, by omega, by omega⟩, (fun h => by cases h), ⟨(hR.1.mono (by omega)), hR.2⟩, stx _ _ (Ex.refl _ _)⟩
    | 4, ho =>
      obtain rfl := Option.some.inj ho
      have q1 := hdeps 3 _ 15 ⟨{ on := 3, ground := .data }, by simp, rfl, rfl⟩ rfl rfl
      obtain ⟨k1, h1, l1, u1⟩ := q1
      refine y_lit (cs := #[.int .i64 k1, .int .i64 (1000), .int .i64 (0), .int .i64 (1001)]) (E := 3) ?_ ?_
      · intro W; simp only [Array.getD_eq_getD_getElem?] at h1; go_simp
      · exact ⟨fun _ => ints_made hSlt hR.2 rfl (by simp <;> omega), (fun h => by cases h), ⟨(hR.1.alloc _).mono (by omega), hR.2.step (stx _ _ ((Ex.refl _ _).alloc _))⟩, stx _ _ ((Ex.refl _ _).alloc _)⟩
    | 5, ho =>
      obtain rfl := Option.some.inj ho
      refine y_lit (cs := #[.int .i64 (0), .int .i64 (0), .int .i64 (0), .int .i64 (0), .int .i64 (1), .int .i64 (2), .int .i64 (3)]) (E := 3) ?_ ?_
      · intro W; go_simp
      · exact ⟨fun _ => ints_made hSlt hR.2 rfl (by simp <;> omega), (fun h => by cases h), ⟨(hR.1.alloc _).mono (by omega), hR.2.step (stx _ _ ((Ex.refl _ _).alloc _))⟩, stx _ _ ((Ex.refl _ _).alloc _)⟩
    | 6, ho =>
      obtain rfl := Option.some.inj ho
      have h0 : a.tmps.getD 6 undef = .pointer (some ⟨rb, 0, none⟩) := hrest 6 (by decide)
      exact y_move rfl ⟨fun _ => h0, (fun h => by cases h), ⟨(hR.1.mono (by omega)), hR.2⟩, stx _ _ (Ex.refl _ _)⟩
    | 7, ho =>
      obtain rfl := Option.some.inj ho
      have q1 := hdeps 6 _ 18 ⟨{ on := 6, ground := .data }, by simp, rfl, rfl⟩ rfl rfl
      have h1 : a.tmps.getD 18 undef = .pointer (some ⟨rb, 0, none⟩) := q1
      refine y_call (args := #[.pointer (some ⟨rb, 0, none⟩), .int .i64 7]) rfl (fun _ _ => by kernel_rfl) (by simp [Act.eval, h1]) ?_
      exact (pick_any rb _ 7 _ hR.1 (by omega) (by omega) (by omega)).mono fun e w2 ⟨k, he, k0, k1, r2, x2⟩ => ⟨_, he, fun _ => ⟨k, rfl, by omega, by omega⟩, (fun h => by cases h), ⟨r2.mono (by omega), hR.2.step (stx _ _ x2)⟩, stx _ _ x2⟩
    | 8, ho =>
      obtain rfl := Option.some.inj ho
      have q1 := hdeps 5 _ 17 ⟨{ on := 5, ground := .data }, by simp, rfl, rfl⟩ rfl rfl
      obtain ⟨b1, h1, e1, c1⟩ := q1
      have q2 := hdeps 7 _ 19 ⟨{ on := 7, ground := .data }, by simp, rfl, rfl⟩ rfl rfl
      obtain ⟨k2, h2, l2, u2⟩ := q2
      obtain ⟨q, rfl⟩ := Int.eq_ofNat_of_zero_le (show 0 ≤ k2 by omega)
      obtain ⟨y, cy, y0, y1⟩ := c1 q (by omega)
      exact y_index rfl h1 h2 (by omega) Tryd.underlying36 (fun _ => by kernel_rfl) ⟨fun _ => ⟨⟨b1, q, none⟩, y, rfl, e1, cy, y0, y1⟩, (fun h => by cases h), ⟨(hR.1.mono (by omega)), hR.2⟩, stx _ _ (Ex.refl _ _)⟩
    | 9, ho =>
      obtain rfl := Option.some.inj ho
      have q1 := hdeps 8 _ 20 ⟨{ on := 8, ground := .data }, by simp, rfl, rfl⟩ rfl rfl
      obtain ⟨p1, y1, h1, e1, c1, l1, u1⟩ := q1
      exact y_load rfl h1 c1 (fun _ => by kernel_rfl) ⟨fun _ => ⟨y1, rfl, by omega, by omega⟩, (fun h => by cases h), ⟨(hR.1.mono (by omega)), hR.2⟩, stx _ _ (Ex.refl _ _)⟩
    | 10, ho =>
      obtain rfl := Option.some.inj ho
      have q1 := hdeps 4 _ 16 ⟨{ on := 4, ground := .data }, by simp, rfl, rfl⟩ rfl rfl
      obtain ⟨b1, h1, e1, c1⟩ := q1
      have q2 := hdeps 9 _ 21 ⟨{ on := 9, ground := .data }, by simp, rfl, rfl⟩ rfl rfl
      obtain ⟨k2, h2, l2, u2⟩ := q2
      obtain ⟨q, rfl⟩ := Int.eq_ofNat_of_zero_le (show 0 ≤ k2 by omega)
      obtain ⟨y, cy, y0, y1⟩ := c1 q (by omega)
      exact y_index rfl h1 h2 (by omega) Tryd.underlying36 (fun _ => by kernel_rfl) ⟨fun _ => ⟨⟨b1, q, none⟩, y, rfl, e1, cy, y0, y1⟩, (fun h => by cases h), ⟨(hR.1.mono (by omega)), hR.2⟩, stx _ _ (Ex.refl _ _)⟩
    | 11, ho =>
      obtain rfl := Option.some.inj ho
      have q1 := hdeps 10 _ 22 ⟨{ on := 10, ground := .data }, by simp, rfl, rfl⟩ rfl rfl
      obtain ⟨p1, y1, h1, e1, c1, l1, u1⟩ := q1
      exact y_load rfl h1 c1 (fun _ => by kernel_rfl) ⟨fun _ => ⟨y1, rfl, by omega, by omega⟩, (fun h => by cases h), ⟨(hR.1.mono (by omega)), hR.2⟩, stx _ _ (Ex.refl _ _)⟩
    | 12, ho =>
      obtain rfl := Option.some.inj ho
      have h0 : a.tmps.getD 6 undef = .pointer (some ⟨rb, 0, none⟩) := hrest 6 (by decide)
      exact y_move rfl ⟨fun _ => h0, (fun h => by cases h), ⟨(hR.1.mono (by omega)), hR.2⟩, stx _ _ (Ex.refl _ _)⟩
    | 13, ho =>
      obtain rfl := Option.some.inj ho
      have q1 := hdeps 12 _ 24 ⟨{ on := 12, ground := .data }, by simp, rfl, rfl⟩ rfl rfl
      have h1 : a.tmps.getD 24 undef = .pointer (some ⟨rb, 0, none⟩) := q1
      refine y_call (args := #[.pointer (some ⟨rb, 0, none⟩), .int .i64 4]) rfl (fun _ _ => by kernel_rfl) (by simp [Act.eval, h1]) ?_
      exact (pick_any rb _ 4 _ hR.1 (by omega) (by omega) (by omega)).mono fun e w2 ⟨k, he, k0, k1, r2, x2⟩ => ⟨_, he, fun _ => ⟨k, rfl, by omega, by omega⟩, (fun h => by cases h), ⟨r2.mono (by omega), hR.2.step (stx _ _ x2)⟩, stx _ _ x2⟩
    | 14, ho =>
      obtain rfl := Option.some.inj ho
      have h0 : a.tmps.getD 6 undef = .pointer (some ⟨rb, 0, none⟩) := hrest 6 (by decide)
      exact y_move rfl ⟨fun _ => h0, (fun h => by cases h), ⟨(hR.1.mono (by omega)), hR.2⟩, stx _ _ (Ex.refl _ _)⟩
    | 15, ho =>
      obtain rfl := Option.some.inj ho
      have q1 := hdeps 14 _ 26 ⟨{ on := 14, ground := .data }, by simp, rfl, rfl⟩ rfl rfl
      have h1 : a.tmps.getD 26 undef = .pointer (some ⟨rb, 0, none⟩) := q1
      refine y_call (args := #[.pointer (some ⟨rb, 0, none⟩), .int .i64 14]) rfl (fun _ _ => by kernel_rfl) (by simp [Act.eval, h1]) ?_
      exact (pick_any rb _ 14 _ hR.1 (by omega) (by omega) (by omega)).mono fun e w2 ⟨k, he, k0, k1, r2, x2⟩ => ⟨_, he, fun _ => ⟨k, rfl, by omega, by omega⟩, (fun h => by cases h), ⟨r2.mono (by omega), hR.2.step (stx _ _ x2)⟩, stx _ _ x2⟩
    | 16, ho =>
      obtain rfl := Option.some.inj ho
      have q1 := hdeps 15 _ 27 ⟨{ on := 15, ground := .data }, by simp, rfl, rfl⟩ rfl rfl
      obtain ⟨k1, h1, l1, u1⟩ := q1
      exact y_quo rfl h1 rfl (by omega) (by omega) (by omega) ⟨fun _ => ⟨_, rfl, by omega, by omega⟩, (fun h => by cases h), ⟨(hR.1.mono (by omega)), hR.2⟩, stx _ _ (Ex.refl _ _)⟩
    | 17, ho =>
      obtain rfl := Option.some.inj ho
      have q1 := hdeps 13 _ 25 ⟨{ on := 13, ground := .data }, by simp, rfl, rfl⟩ rfl rfl
      obtain ⟨k1, h1, l1, u1⟩ := q1
      have q2 := hdeps 16 _ 28 ⟨{ on := 16, ground := .data }, by simp, rfl, rfl⟩ rfl rfl
      obtain ⟨k2, h2, l2, u2⟩ := q2
      exact y_sub rfl h1 h2 (by omega) (by omega) ⟨fun _ => ⟨_, rfl, by omega, by omega⟩, (fun h => by cases h), ⟨(hR.1.mono (by omega)), hR.2⟩, stx _ _ (Ex.refl _ _)⟩
    | 18, ho =>
      obtain rfl := Option.some.inj ho
      have h0 : a.tmps.getD 6 undef = .pointer (some ⟨rb, 0, none⟩) := hrest 6 (by decide)
      exact y_move rfl ⟨fun _ => h0, (fun h => by cases h), ⟨(hR.1.mono (by omega)), hR.2⟩, stx _ _ (Ex.refl _ _)⟩
    | 19, ho =>
      obtain rfl := Option.some.inj ho
      have q1 := hdeps 18 _ 30 ⟨{ on := 18, ground := .data }, by simp, rfl, rfl⟩ rfl rfl
      have h1 : a.tmps.getD 30 undef = .pointer (some ⟨rb, 0, none⟩) := q1
      refine y_call (args := #[.pointer (some ⟨rb, 0, none⟩), .int .i64 2]) rfl (fun _ _ => by kernel_rfl) (by simp [Act.eval, h1]) ?_
      exact (pick_any rb _ 2 _ hR.1 (by omega) (by omega) (by omega)).mono fun e w2 ⟨k, he, k0, k1, r2, x2⟩ => ⟨_, he, fun _ => ⟨k, rfl, by omega, by omega⟩, (fun h => by cases h), ⟨r2.mono (by omega), hR.2.step (stx _ _ x2)⟩, stx _ _ x2⟩
    | 20, ho =>
      obtain rfl := Option.some.inj ho
      have q1 := hdeps 19 _ 31 ⟨{ on := 19, ground := .data }, by simp, rfl, rfl⟩ rfl rfl
      obtain ⟨k1, h1, l1, u1⟩ := q1
      exact y_eql rfl h1 rfl ⟨fun _ => ⟨_, rfl⟩, (fun h => by cases h), ⟨(hR.1.mono (by omega)), hR.2⟩, stx _ _ (Ex.refl _ _)⟩
    | 21, ho =>
      obtain rfl := Option.some.inj ho
      exact y_assign rfl ⟨fun _ => hdeps 0 _ 12 ⟨{ on := 0, ground := .data }, by simp, rfl, rfl⟩ rfl rfl, (fun h => by cases h), ⟨(hR.1.mono (by omega)), hR.2⟩, stx _ _ (Ex.refl _ _)⟩
    | 22, ho =>
      obtain rfl := Option.some.inj ho
      exact y_assign rfl ⟨fun _ => hdeps 11 _ 23 ⟨{ on := 11, ground := .data }, by simp, rfl, rfl⟩ rfl rfl, (fun h => by cases h), ⟨(hR.1.mono (by omega)), hR.2⟩, stx _ _ (Ex.refl _ _)⟩
    | 23, ho =>
      obtain rfl := Option.some.inj ho
      exact y_assign rfl ⟨fun _ => hdeps 17 _ 29 ⟨{ on := 17, ground := .data }, by simp, rfl, rfl⟩ rfl rfl, (fun h => by cases h), ⟨(hR.1.mono (by omega)), hR.2⟩, stx _ _ (Ex.refl _ _)⟩
    | 24, ho =>
      obtain rfl := Option.some.inj ho
      exact y_assign rfl ⟨fun _ => hdeps 20 _ 32 ⟨{ on := 20, ground := .data }, by simp, rfl, rfl⟩ rfl rfl, (fun h => by cases h), ⟨(hR.1.mono (by omega)), hR.2⟩, stx _ _ (Ex.refl _ _)⟩
    | _ + 25, ho => cases ho
  · intro a w9 hR hsz hdf hrest htyp hbare
    have HE := Lib.hid (HB.out.ex (HR.out.2.trans (ExS.ex hR.2.1)) hl)
    have HV9 := Lib.hid ((HV.out.ex (ExS.ex (hR.2.1)) hr).lower hz1)
    clear hR
    obtain ⟨x12, e12⟩ : ∃ x, a.tmps.getD 12 undef = x := ⟨_, rfl⟩
    obtain ⟨x13, e13⟩ : ∃ x, a.tmps.getD 13 undef = x := ⟨_, rfl⟩
    obtain ⟨x14, e14⟩ : ∃ x, a.tmps.getD 14 undef = x := ⟨_, rfl⟩
    obtain ⟨x15, e15⟩ : ∃ x, a.tmps.getD 15 undef = x := ⟨_, rfl⟩
    obtain ⟨x16, e16⟩ : ∃ x, a.tmps.getD 16 undef = x := ⟨_, rfl⟩
    obtain ⟨x17, e17⟩ : ∃ x, a.tmps.getD 17 undef = x := ⟨_, rfl⟩
    obtain ⟨x18, e18⟩ : ∃ x, a.tmps.getD 18 undef = x := ⟨_, rfl⟩
    obtain ⟨x19, e19⟩ : ∃ x, a.tmps.getD 19 undef = x := ⟨_, rfl⟩
    obtain ⟨x20, e20⟩ : ∃ x, a.tmps.getD 20 undef = x := ⟨_, rfl⟩
    obtain ⟨x21, e21⟩ : ∃ x, a.tmps.getD 21 undef = x := ⟨_, rfl⟩
    obtain ⟨x22, e22⟩ : ∃ x, a.tmps.getD 22 undef = x := ⟨_, rfl⟩
    obtain ⟨x23, e23⟩ : ∃ x, a.tmps.getD 23 undef = x := ⟨_, rfl⟩
    obtain ⟨x24, e24⟩ : ∃ x, a.tmps.getD 24 undef = x := ⟨_, rfl⟩
    obtain ⟨x25, e25⟩ : ∃ x, a.tmps.getD 25 undef = x := ⟨_, rfl⟩
    obtain ⟨x26, e26⟩ : ∃ x, a.tmps.getD 26 undef = x := ⟨_, rfl⟩
    obtain ⟨x27, e27⟩ : ∃ x, a.tmps.getD 27 undef = x := ⟨_, rfl⟩
    obtain ⟨x28, e28⟩ : ∃ x, a.tmps.getD 28 undef = x := ⟨_, rfl⟩
    obtain ⟨x29, e29⟩ : ∃ x, a.tmps.getD 29 undef = x := ⟨_, rfl⟩
    obtain ⟨x30, e30⟩ : ∃ x, a.tmps.getD 30 undef = x := ⟨_, rfl⟩
    obtain ⟨x31, e31⟩ : ∃ x, a.tmps.getD 31 undef = x := ⟨_, rfl⟩
    obtain ⟨x32, e32⟩ : ∃ x, a.tmps.getD 32 undef = x := ⟨_, rfl⟩
    have e2 : a.tmps.getD 2 undef = u := htyp 21 _ 2 rfl rfl
    obtain ⟨k3, e3, l3, u3⟩ := htyp 22 _ 3 rfl rfl
    obtain ⟨k4, e4, l4, u4⟩ := htyp 23 _ 4 rfl rfl
    obtain ⟨k5, e5⟩ := htyp 24 _ 5 rfl rfl
    have ha := act_puts hsz hdf hrest [(12, x12), (13, x13), (14, x14), (15, x15), (16, x16), (17, x17), (18, x18), (19, x19), (20, x20), (21, x21), (22, x22), (23, x23), (24, x24), (25, x25), (26, x26), (27, x27), (28, x28), (29, x29), (30, x30), (31, x31), (32, x32), (2, u), (3, .int .i64 k3), (4, .int .i64 k4), (5, .bool k5)] rfl ⟨by decide, fun d hd => (by decide : ∀ d ∈ ([12, 13, 14, 15, 16, 17, 18, 19, 20, 21, 22, 23, 24, 25, 26, 27, 28, 29, 30, 31, 32, 2, 3, 4, 5] : List Nat), d < 33) d hd⟩ (by simp only [List.forall_mem_cons]; exact ⟨e12, e13, e14, e15, e16, e17, e18, e19, e20, e21, e22, e23, e24, e25, e26, e27, e28, e29, e30, e31, e32, e2, e3, e4, e5, fun _ h => by cases h⟩)
    clear hsz hdf hrest htyp hbare e12 e13 e14 e15 e16 e17 e18 e19 e20 e21 e22 e23 e24 e25 e26 e27 e28 e29 e30 e31 e32 e2 e3 e4 e5
    subst ha
    simp only [List.foldl_cons, List.foldl_nil, Act.put, List.setIfInBounds_toArray, List.set_cons_zero, List.set_cons_succ]
    go_wp2
    go_returns
    exact ⟨u, xs, k3, k4, k5, rfl, by unfold smI; omega, by unfold smI; omega, HV9.out, HP.out, HE.out⟩
end Go.Proofs.YtpkjgeidndbbbaaDoor
