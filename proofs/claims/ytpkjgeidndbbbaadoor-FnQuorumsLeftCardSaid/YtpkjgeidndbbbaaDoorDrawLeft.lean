/- Draws of sets and of those that are down. -/
import Derived.Test.YtpkjgeidndbbbaaDoorDrawSets
import Derived.Test.YtpkjgeidndbbbaaDoorTypedDraw
namespace Go.Proofs.YtpkjgeidndbbbaaDoor
open Go.RowKit
/-- A number of members, sets, and those that are down were drawn. -/
def DrawnQD (w : World) (en : Ending) (w' : World) : Prop :=
  ∃ s u d xs, en = .returned (.tuple #[.int .i64 s, u, .int .i64 d]) ∧ (0 ≤ s ∧ s ≤ 8) ∧ (0 ≤ d ∧ d ≤ 127) ∧ Val 1 (one encI) w.heap.size w' u xs ∧ drawnInts 5 xs ∧ Ext w w'
set_option maxRecDepth 8000 in
set_option maxHeartbeats 2000000 in
theorem DrawQuorumsLeft_any {v : Value} (w : World) (h : CodeIn w v) : Calls Tryd.prog 34 #[v] w (DrawnQD w) := by
  have H := Lib.hid h
  clear h
  go_enter Tryd.func34, Tryd.ntmps34
  go_wp2_with fail
  refine (open_code _ H.out).mono ?_
  rintro e w1 ⟨rb, rfl, hl, r1, b1⟩
  have hr := r1.lt
  go_wp2_with fail
  refine (l20Members_any rb 0 _ r1 (by omega)).mono ?_
  rintro e w2 ⟨s, rfl, s0, s1, r2, x2⟩
  go_wp2_with fail
  refine (l20Sets_any rb _ s _ r2 (by omega) ⟨s0, s1⟩).mono ?_
  rintro e w3 ⟨u, xs, rfl, hrow, hphi, r3, x3⟩
  have HR := Lib.hid (And.intro r3 (x2.trans x3))
  have HV := Lib.hid hrow
  have hz2 := x2.size
  have hz1 := b1.size
  have HP := Lib.hid hphi
  have HB := Lib.hid b1
  have hr3 := r3.lt
  clear hrow hphi r1 b1 r2 x2 r3 x3
  have HREL : Rel (· = rb) (fun _ => True) w3 w3 := ⟨ExS.refl _ _, trivial⟩
  go_wp2_with fail
  have stx : ∀ w w', Ex rb w w' → St (· = rb) (fun _ => True) (fun _ => True) w w' := fun w w' hx => ⟨ExS.of_ex hx rfl, fun _ => trivial, fun _ => trivial⟩
  have hSlt : ∀ k, ((· = rb)) k → k < (w3).heap.size := fun k hk => by subst hk; exact hr3
  refine wp_region_typed [15, 16, 17, 18, 19, 20, 21, 22, 23, 2, 3, 4] (by kernel_rfl) (by kernel_rfl) (by kernel_rfl) (fun n w' => Rd w' rb (200 + n) ∧ Rel (· = rb) (fun _ => True) w3 w') (fun i => (([.eq (.int .i64 s), .eq (u), .eq (.pointer (some ⟨rb, 0, none⟩)), .int (0) (127), .ints 5 (0) (127), .eq (.pointer (some ⟨rb, 0, none⟩)), .int (0) (4), .adr (0) (127), .int (0) (127), .eq (.int .i64 s), .eq (u), .int (0) (127)] : List Ty).getD i .top).den (· = rb) (fun _ => True)) (St (· = rb) (fun _ => True) (fun _ => True)) ⟨(HR.out.1).drew.mono (by omega), (HREL).step (stx _ _ ((Ex.refl _ _).drew))⟩ (fun i v w w' hx h => Ty.den_ex _ hx h) ?_ ?_
  · intro i o ho a n w hn hR hrest hdeps
    have hn' : n < 12 := hn
    match i, ho with
    | 0, ho =>
      obtain rfl := Option.some.inj ho
      have h0 : a.tmps.getD 6 undef = .int .i64 s := hrest 6 (by decide)
      exact y_move rfl ⟨fun _ => h0, (fun h => by cases h), ⟨(hR.1.mono (by omega)), hR.2⟩, stx _ _ (Ex.refl _ _)⟩
    | 1, ho =>
      obtain rfl := Option.some.inj ho
      have h0 : a.tmps.getD 7 undef = u := hrest 7 (by decide)
      exact y_move rfl ⟨fun _ => h0, (fun h => by cases h), ⟨(hR.1.mono (by omega)), hR.2⟩, stx _ _ (Ex.refl _ _)⟩
    | 2, ho =>
      obtain rfl := Option.some.inj ho
      have h0 : a.tmps.getD 5 undef = .pointer (some ⟨rb, 0, none⟩) := hrest 5 (by decide)
      exact y_move rfl ⟨fun _ => h0, (fun h => by cases h), ⟨(hR.1.mono (by omega)), hR.2⟩, stx _ _ (Ex.refl _ _)⟩
    | 3, ho =>
      obtain rfl := Option.some.inj ho
      have q1 := hdeps 2 _ 17 ⟨{ on := 2, ground := .data }, by simp, rfl, rfl⟩ rfl rfl
      have h1 : a.tmps.getD 17 undef = .pointer (some ⟨rb, 0, none⟩) := q1
      refine y_call (args := #[.pointer (some ⟨rb, 0, none⟩), .int .i64 128]) rfl (fun _ _ => by kernel_rfl) (by simp [Act.eval, h1]) ?_
      exact (pick_any rb _ 128 _ hR.1 (by omega) (by omega) (by omega)).mono fun e w2 ⟨k, he, k0, k1, r2, x2⟩ => ⟨_, he, fun _ => ⟨k, rfl, by omega, by omega⟩, (fun h => by cases h), ⟨r2.mono (by omega), hR.2.step (stx _ _ x2)⟩, stx _ _ x2⟩
    | 4, ho =>
      obtain rfl := Option.some.inj ho
      have q5 := hdeps 3 _ 18 ⟨{ on := 3, ground := .data }, by simp, rfl, rfl⟩ rfl rfl
      obtain ⟨k5, h5, l5, u5⟩ := q5
      refine y_lit (cs := #[.int .i64 (0), .int .i64 (1), .int .i64 (2), .int .i64 (3), .int .i64 k5]) (E := 3) ?_ ?_
      · intro W; simp only [Array.getD_eq_getD_getElem?] at h5; go_simp
      · exact ⟨fun _ => ints_made hSlt hR.2 rfl (by simp <;> omega), (fun h => by cases h), ⟨(hR.1.alloc _).mono (by omega), hR.2.step (stx _ _ ((Ex.refl _ _).alloc _))⟩, stx _ _ ((Ex.refl _ _).alloc _)⟩
    | 5, ho =>
      obtain rfl := Option.some.inj ho
      have h0 : a.tmps.getD 5 undef = .pointer (some ⟨rb, 0, none⟩) := hrest 5 (by decide)
      exact y_move rfl ⟨fun _ => h0, (fun h => by cases h), ⟨(hR.1.mono (by omega)), hR.2⟩, stx _ _ (Ex.refl _ _)⟩
    | 6, ho =>
      obtain rfl := Option.some.inj ho
      have q1 := hdeps 5 _ 20 ⟨{ on := 5, ground := .data }, by simp, rfl, rfl⟩ rfl rfl
      have h1 : a.tmps.getD 20 undef = .pointer (some ⟨rb, 0, none⟩) := q1
      refine y_call (args := #[.pointer (some ⟨rb, 0, none⟩), .int .i64 5]) rfl (fun _ _ => by kernel_rfl) (by simp [Act.eval, h1]) ?_
      exact (pick_any rb _ 5 _ hR.1 (by omega) (by omega) (by omega)).mono fun e w2 ⟨k, he, k0, k1, r2, x2⟩ => ⟨_, he, fun _ => ⟨k, rfl, by omega, by omega⟩, (fun h => by cases h), ⟨r2.mono (by omega), hR.2.step (stx _ _ x2)⟩, stx _ _ x2⟩
    | 7, ho =>
      obtain rfl := Option.some.inj ho
      have q1 := hdeps 4 _ 19 ⟨{ on := 4, ground := .data }, by simp, rfl, rfl⟩ rfl rfl
      obtain ⟨b1, h1, e1, c1⟩ := q1
      have q2 := hdeps 6 _ 21 ⟨{ on := 6, ground := .data }, by simp, rfl, rfl⟩ rfl rfl
      obtain ⟨k2, h2, l2, u2⟩ := q2
      obtain ⟨q, rfl⟩ := Int.eq_ofNat_of_zero_le (show 0 ≤ k2 by omega)
      obtain ⟨y, cy, y0, y1⟩ := c1 q (by omega)
      exact y_index rfl h1 h2 (by omega) Tryd.underlying36 (fun _ => by kernel_rfl) ⟨fun _ => ⟨⟨b1, q, none⟩, y, rfl, e1, cy, y0, y1⟩, (fun h => by cases h), ⟨(hR.1.mono (by omega)), hR.2⟩, stx _ _ (Ex.refl _ _)⟩
    | 8, ho =>
      obtain rfl := Option.some.inj ho
      have q1 := hdeps 7 _ 22 ⟨{ on := 7, ground := .data }, by simp, rfl, rfl⟩ rfl rfl
      obtain ⟨p1, y1, h1, e1, c1, l1, u1⟩ := q1
      exact y_load rfl h1 c1 (fun _ => by kernel_rfl) ⟨fun _ => ⟨y1, rfl, by omega, by omega⟩, (fun h => by cases h), ⟨(hR.1.mono (by omega)), hR.2⟩, stx _ _ (Ex.refl _ _)⟩
    | 9, ho =>
      obtain rfl := Option.some.inj ho
      exact y_assign rfl ⟨fun _ => hdeps 0 _ 15 ⟨{ on := 0, ground := .data }, by simp, rfl, rfl⟩ rfl rfl, (fun h => by cases h), ⟨(hR.1.mono (by omega)), hR.2⟩, stx _ _ (Ex.refl _ _)⟩
    | 10, ho =>
      obtain rfl := Option.some.inj ho
      exact y_assign rfl ⟨fun _ => hdeps 1 _ 16 ⟨{ on := 1, ground := .data }, by simp, rfl, rfl⟩ rfl rfl, (fun h => by cases h), ⟨(hR.1.mono (by omega)), hR.2⟩, stx _ _ (Ex.refl _ _)⟩
    | 11, ho =>
      obtain rfl := Option.some.inj ho
      exact y_assign rfl ⟨fun _ => hdeps 8 _ 23 ⟨{ on := 8, ground := .data }, by simp, rfl, rfl⟩ rfl rfl, (fun h => by cases h), ⟨(hR.1.mono (by omega)), hR.2⟩, stx _ _ (Ex.refl _ _)⟩
    | _ + 12, ho => cases ho
  · intro a w9 hR hsz hdf hrest htyp hbare
    have HE := Lib.hid (HB.out.ex (HR.out.2.trans (ExS.ex hR.2.1)) hl)
    have HV9 := Lib.hid ((HV.out.ex (ExS.ex (hR.2.1)) (by omega)).lower (by omega : w.heap.size ≤ w2.heap.size))
    clear hR
    obtain ⟨x15, e15⟩ : ∃ x, a.tmps.getD 15 undef = x := ⟨_, rfl⟩
    obtain ⟨x16, e16⟩ : ∃ x, a.tmps.getD 16 undef = x := ⟨_, rfl⟩
    obtain ⟨x17, e17⟩ : ∃ x, a.tmps.getD 17 undef = x := ⟨_, rfl⟩
    obtain ⟨x18, e18⟩ : ∃ x, a.tmps.getD 18 undef = x := ⟨_, rfl⟩
    obtain ⟨x19, e19⟩ : ∃ x, a.tmps.getD 19 undef = x := ⟨_, rfl⟩
    obtain ⟨x20, e20⟩ : ∃ x, a.tmps.getD 20 undef = x := ⟨_, rfl⟩
    obtain ⟨x21, e21⟩ : ∃ x, a.tmps.getD 21 undef = x := ⟨_, rfl⟩
    obtain ⟨x22, e22⟩ : ∃ x, a.tmps.getD 22 undef = x := ⟨_, rfl⟩
    obtain ⟨x23, e23⟩ : ∃ x, a.tmps.getD 23 undef = x := ⟨_, rfl⟩
    have e2 : a.tmps.getD 2 undef = .int .i64 s := htyp 9 _ 2 rfl rfl
    have e3 : a.tmps.getD 3 undef = u := htyp 10 _ 3 rfl rfl
    obtain ⟨k4, e4, l4, u4⟩ := htyp 11 _ 4 rfl rfl
    have ha := act_puts hsz hdf hrest [(15, x15), (16, x16), (17, x17), (18, x18), (19, x19), (20, x20), (21, x21), (22, x22), (23, x23), (2, .int .i64 s), (3, u), (4, .int .i64 k4)] rfl ⟨by decide, fun d hd => (by decide : ∀ d ∈ ([15, 16, 17, 18, 19, 20, 21, 22, 23, 2, 3, 4] : List Nat), d < 24) d hd⟩ (by simp only [List.forall_mem_cons]; exact ⟨e15, e16, e17, e18, e19, e20, e21, e22, e23, e2, e3, e4, fun _ h => by cases h⟩)
    clear hsz hdf hrest htyp hbare e15 e16 e17 e18 e19 e20 e21 e22 e23 e2 e3 e4
    subst ha
    simp only [List.foldl_cons, List.foldl_nil, Act.put, List.setIfInBounds_toArray, List.set_cons_zero, List.set_cons_succ]
    go_wp2
    go_returns
    exact ⟨s, u, k4, xs, rfl, ⟨s0, s1⟩, ⟨by omega, by omega⟩, HV9.out, HP.out, HE.out⟩
end Go.Proofs.YtpkjgeidndbbbaaDoor
