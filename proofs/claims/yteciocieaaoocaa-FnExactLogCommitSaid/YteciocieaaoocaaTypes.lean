/- The structs of the laws: their cells, and what the laws' own helpers on them do. -/
import Derived.Test.YteciocieaaoocaaRows
import Derived.Test.YteciocieaaoocaaBase
namespace Go.Proofs.Yteciocieaaoocaa
open Go.RowKit

structure Rec where
  term : Int
  value : Int
def encRec (x : Rec) : Nat → Value
  | 0 => .int .i64 x.term
  | _ => .int .i64 x.value
def aggRec (x : Rec) : Value := .agg #[.int .i64 x.term, .int .i64 x.value]
def wfRec (x : Rec) : Prop := (Lit.int .i64 x.term).wf = true ∧ (Lit.int .i64 x.value).wf = true
structure Vote where
  ballot : Int
  value : Int
def encVote (x : Vote) : Nat → Value
  | 0 => .int .i64 x.ballot
  | _ => .int .i64 x.value
def aggVote (x : Vote) : Value := .agg #[.int .i64 x.ballot, .int .i64 x.value]
def wfVote (x : Vote) : Prop := (Lit.int .i64 x.ballot).wf = true ∧ (Lit.int .i64 x.value).wf = true
structure Touch where
  read : Int
  write : Int
def encTouch (x : Touch) : Nat → Value
  | 0 => .int .i64 x.read
  | _ => .int .i64 x.write
def aggTouch (x : Touch) : Value := .agg #[.int .i64 x.read, .int .i64 x.write]
def wfTouch (x : Touch) : Prop := (Lit.int .i64 x.read).wf = true ∧ (Lit.int .i64 x.write).wf = true
structure Lease where
  who : Int
  frm : Int
  til : Int
def encLease (x : Lease) : Nat → Value
  | 0 => .int .i64 x.who
  | 1 => .int .i64 x.frm
  | _ => .int .i64 x.til
def aggLease (x : Lease) : Value := .agg #[.int .i64 x.who, .int .i64 x.frm, .int .i64 x.til]
def wfLease (x : Lease) : Prop := (Lit.int .i64 x.who).wf = true ∧ (Lit.int .i64 x.frm).wf = true ∧ (Lit.int .i64 x.til).wf = true
structure Redo where
  who : Int
  key : Int
  value : Int
def encRedo (x : Redo) : Nat → Value
  | 0 => .int .i64 x.who
  | 1 => .int .i64 x.key
  | _ => .int .i64 x.value
def aggRedo (x : Redo) : Value := .agg #[.int .i64 x.who, .int .i64 x.key, .int .i64 x.value]
def wfRedo (x : Redo) : Prop := (Lit.int .i64 x.who).wf = true ∧ (Lit.int .i64 x.key).wf = true ∧ (Lit.int .i64 x.value).wf = true
set_option maxHeartbeats 400000 in
theorem toRedo_any (a : Int) (b : Int) (c : Int) (w : World) :
    Calls Try.prog 32 #[.agg #[.int .i64 a, .int .i64 b, .int .i64 c]] w fun e w' => e = .returned (.agg #[.int .i64 a, .int .i64 b, .int .i64 c]) ∧ Ext w w' := by
  go_enter Try.func32, Try.ntmps32
  go_wp2
  go_returns
  refine ⟨rfl, ?_⟩
  show Below _ _ _
  go_grown

set_option maxHeartbeats 400000 in
theorem eqRedo_any (a : Int) (b : Int) (c : Int) (w : World) :
    Calls Try.prog 37 #[.agg #[.int .i64 a, .int .i64 b, .int .i64 c], .agg #[.int .i64 a, .int .i64 b, .int .i64 c]] w fun e w' => e = .returned (.bool true) ∧ Ext w w' := by
  go_enter Try.func37, Try.ntmps37
  go_wp2
  go_returns
  refine ⟨rfl, ?_⟩
  show Below _ _ _
  go_grown

set_option maxHeartbeats 400000 in
theorem szRedoS_any (A : Option Addr) (n c : Nat) (left : Int) (w : World) (hn : n ≤ 9223372036854775807) (h0 : 0 ≤ left) (h1 : left ≤ 1048576) :
    Calls Try.prog 14 #[.slice A n c, .int .i64 left] w fun e w' => e = .returned (.int .i64 (if (n : Int) ≤ left then left - n else -1)) ∧ w = w' := by
  by_cases h : (n : Int) ≤ left
  · rw [if_pos h]
    go_enter Try.func14, Try.ntmps14
    go_wp2
    go_returns
    exact ⟨rfl, rfl⟩
  · rw [if_neg h]
    go_enter Try.func14, Try.ntmps14
    go_wp2
    go_returns
    exact ⟨rfl, rfl⟩

set_option maxHeartbeats 400000 in
theorem eqRedoS_any {v v' : Value} {xs : List Redo} (w : World) (h : SlOf 3 encRedo w v xs) (h' : SlOf 3 encRedo w v' xs) (hlen : xs.length ≤ 2097152) :
    Calls Try.prog 18 #[v, v'] w fun e w' => e = .returned (.bool true) ∧ Ext w w' := by
  obtain ⟨A, c, rfl, h⟩ := h
  obtain ⟨A', c', rfl, h'⟩ := h'
  go_enter Try.func18, Try.ntmps18
  go_wp2
  go_loopw [5] (fun i wr => Ext w wr ∧ ∃ k : Nat, k ≤ xs.length ∧ i = .int .i64 k) (fun i _ => xs.length - (intOf i).toNat)
  case atStart => exact ⟨Ext.refl _, 0, Nat.zero_le _, rfl⟩
  case round =>
    obtain ⟨hb, k, hk, rfl⟩ := hrel
    by_cases hlt : k < xs.length
    · obtain ⟨b, off, rfl, hbl, hc⟩ := h (by omega)
      obtain ⟨b', off', rfl, hbl', hc'⟩ := h' (by omega)
      obtain ⟨x, hx⟩ := at_some hlt
      have c0 : ∀ e, (over wr e).cell? ⟨b, off + k * 3, none⟩ = some (.int .i64 x.who) := over_cell (hb.cell (hc k x hx 0 (by omega)))
      have c1 : ∀ e, (over wr e).cell? ⟨b, off + k * 3 + 1, none⟩ = some (.int .i64 x.key) := over_cell (hb.cell (hc k x hx 1 (by omega)))
      have c2 : ∀ e, (over wr e).cell? ⟨b, off + k * 3 + 2, none⟩ = some (.int .i64 x.value) := over_cell (hb.cell (hc k x hx 2 (by omega)))
      have d0 : ∀ e, (over wr e).cell? ⟨b', off' + k * 3, none⟩ = some (.int .i64 x.who) := over_cell (hb.cell (hc' k x hx 0 (by omega)))
      have d1 : ∀ e, (over wr e).cell? ⟨b', off' + k * 3 + 1, none⟩ = some (.int .i64 x.key) := over_cell (hb.cell (hc' k x hx 1 (by omega)))
      have d2 : ∀ e, (over wr e).cell? ⟨b', off' + k * 3 + 2, none⟩ = some (.int .i64 x.value) := over_cell (hb.cell (hc' k x hx 2 (by omega)))
      clear hx h h' hc hc'
      go_wp2
      refine wp_region_over (by kernel_rfl) (by kernel_rfl) ?_
      repeat (go_big_quiet_step ((go_at_call 37; exact quiet_ext (eqRedo_any _ _ _ _))))
      refine wpQuiet_nil ?_
      intro w1 hb1
      go_wp2
      go_roundw
      case rel => exact ⟨hb.trans hb1, k + 1, by omega, by go_num⟩
      case measure => simp [intOf]; omega
    · go_wp2
      go_returns
      exact ⟨rfl, hb⟩

theorem info_Redo : (Try.prog.info? 56).map (fun i => (i.zero, i.size, i.bytes)) = some (some (.agg #[.int .i64 0, .int .i64 0, .int .i64 0]), 3, 24) := by kernel_rfl
set_option maxHeartbeats 400000 in
theorem toRedoS_any {v : Value} {xs : List Redo} (w : World) (h : SlOf 3 encRedo w v xs) (hlen : xs.length ≤ 2097152) :
    Calls Try.prog 16 #[v] w (RetOf 3 encRedo w xs) := by
  obtain ⟨A, c, rfl, h⟩ := h
  have hmk := run_make_of (P := Try.prog) 33 56 Try.underlying33 info_Redo xs.length (by omega) (by omega)
  go_enter Try.func16, Try.ntmps16
  go_wp2
  go_loopw [4] (fun i wr => Ext w wr ∧ ∃ k : Nat, k ≤ xs.length ∧ i = .int .i64 k ∧ Filling 3 encRedo w.heap.size (xs.length * 3) xs k wr) (fun i _ => xs.length - (intOf i).toNat)
  case atStart => exact ⟨(Ext.refl _).alloc _, 0, Nat.zero_le _, rfl, Filling.start _ _ (size_madeCells _ _)⟩
  case round =>
    obtain ⟨hb, k, hk, rfl, hf⟩ := hrel
    clear hmk
    by_cases hlt : k < xs.length
    · obtain ⟨b, off, rfl, hbl, hc⟩ := h (by omega)
      obtain ⟨x, hx⟩ := at_some hlt
      have c0 : wr.cell? ⟨b, off + k * 3, none⟩ = some (.int .i64 x.who) := hb.cell (hc k x hx 0 (by omega))
      have c1 : wr.cell? ⟨b, off + k * 3 + 1, none⟩ = some (.int .i64 x.key) := hb.cell (hc k x hx 1 (by omega))
      have c2 : wr.cell? ⟨b, off + k * 3 + 2, none⟩ = some (.int .i64 x.value) := hb.cell (hc k x hx 2 (by omega))
      obtain ⟨u0, g0⟩ : ∃ u, wr.cell? ⟨w.heap.size, k * 3, none⟩ = some u := hf.1.cell (by omega)
      obtain ⟨u1, g1⟩ : ∃ u, wr.cell? ⟨w.heap.size, k * 3 + 1, none⟩ = some u := hf.1.cell (by omega)
      obtain ⟨u2, g2⟩ : ∃ u, wr.cell? ⟨w.heap.size, k * 3 + 2, none⟩ = some u := hf.1.cell (by omega)
      have hx' := Lib.hid hx
      clear hx h hc
      go_wp2_with (go_at_call 32; refine (toRedo_any _ _ _ _).mono ?_; rintro e w1 ⟨rfl, hb1⟩; (
        have G0 := hb1.cell g0
        have F0 : w1.frozen? ⟨w.heap.size, k * 3, none⟩ = false := (hf.1.ext hb1).free _
        have G1 := hb1.cell g1
        have F1 : w1.frozen? ⟨w.heap.size, k * 3 + 1, none⟩ = false := (hf.1.ext hb1).free _
        have G2 := hb1.cell g2
        have F2 : w1.frozen? ⟨w.heap.size, k * 3 + 2, none⟩ = false := (hf.1.ext hb1).free _))
      go_roundw
      case rel =>
        have hf1 := hf.ext hb1
        have hN : (k + 1) * 3 ≤ xs.length * 3 := by omega
        exact ⟨((((hb.trans hb1).setCell (by exact Nat.le_refl _) _).setCell (by exact Nat.le_refl _) _).setCell (by exact Nat.le_refl _) _), k + 1, by omega, by go_num, Filling.next (Filling.set (by omega) (Filling.set (by omega) (Filling.set (by omega) (hf1.begin_ x) (by omega)) (by omega)) (by omega)) hx'.out⟩
      case measure => simp [intOf]; omega
    · obtain rfl : k = xs.length := by omega
      go_wp2
      go_returns
      exact ⟨_, rfl, hf.done _, hf.1.own (Nat.le_refl _) _ _ _, hb⟩

structure Hold where
  owner : Int
  key : Int
  write : Bool
  got : Bool
def encHold (x : Hold) : Nat → Value
  | 0 => .int .i64 x.owner
  | 1 => .int .i64 x.key
  | 2 => .bool x.write
  | _ => .bool x.got
def aggHold (x : Hold) : Value := .agg #[.int .i64 x.owner, .int .i64 x.key, .bool x.write, .bool x.got]
def wfHold (x : Hold) : Prop := (Lit.int .i64 x.owner).wf = true ∧ (Lit.int .i64 x.key).wf = true
def markRedo (k0 i : Nat) : Redo := ⟨((k0 + i * 3 : Nat) : Int) + 0, ((k0 + i * 3 : Nat) : Int) + 1, ((k0 + i * 3 : Nat) : Int) + 2⟩
def marksRedo (k0 n : Nat) : List Redo := (List.range n).map (markRedo k0)
set_option maxHeartbeats 1000000 in
theorem markRedoS_any {v : Value} {xs : List Redo} {lo : Nat} (w : World) (k0 : Nat) (h : SlOf 3 encRedo w v xs) (ho : Own lo w v) (hlen : xs.length ≤ 2097152) (hk0 : k0 ≤ 1073741824) :
    Calls Try.prog 19 #[v, .int .i64 (k0 : Int)] w fun e w' => e = .returned (.int .i64 ((k0 + xs.length * 3 : Nat) : Int)) ∧ SlOf 3 encRedo w' v (marksRedo k0 xs.length) ∧ Only v w w' := by
  obtain ⟨A, c, rfl, h⟩ := h
  have hst : ∀ b off, A = some ⟨b, off, none⟩ → Marked w b off (xs.length * 3) 0 (fun c => encRedo (markRedo k0 (c / 3)) (c % 3)) := fun b off hA =>
    ⟨fun i hi => by
      obtain ⟨b', off', hA', _, hc⟩ := h (by omega)
      rw [hA] at hA'
      cases hA'
      obtain ⟨x, hx⟩ := at_some (show i / 3 < xs.length by omega)
      have := hc _ x hx (i % 3) (by omega)
      rw [Nat.add_assoc, show i / 3 * 3 + i % 3 = i by omega] at this
      exact ⟨_, this⟩, fun i hi => absurd hi (Nat.not_lt_zero i)⟩
  have Hst := Lib.hid hst
  clear hst
  go_enter Try.func19, Try.ntmps19
  go_wp2
  go_loopw [1, 5] (fun a i wr => Only (.slice A xs.length c) w wr ∧ ∃ k : Nat, k ≤ xs.length ∧ i = .int .i64 k ∧ a = .int .i64 ((k0 + k * 3 : Nat) : Int) ∧ Hid (∀ b off, A = some ⟨b, off, none⟩ → Marked wr b off (xs.length * 3) (k * 3) (fun c => encRedo (markRedo k0 (c / 3)) (c % 3)))) (fun _ i _ => xs.length - (intOf i).toNat)
  case atStart => exact ⟨Only.of_ext (Ext.refl _), 0, Nat.zero_le _, rfl, by simp, fun b off e => by rw [Nat.zero_mul]; exact Hst.out b off e⟩
  case round =>
    obtain ⟨hb, k, hk, rfl, rfl, HM⟩ := hrel
    by_cases hlt : k < xs.length
    · obtain ⟨b, off, rfl, hbl, hc⟩ := h (by omega)
      have hm := HM.out b off rfl
      have hfr : ∀ i, wr.frozen? ⟨b, i, none⟩ = false := fun i => (Own.only ho hb).cell_free (by omega) _
      obtain ⟨u0, g0⟩ := hm.1 (k * 3 + 0) (by omega)
      have F0 : wr.frozen? ⟨b, off + (k * 3 + 0), none⟩ = false := hfr _
      obtain ⟨u1, g1⟩ := hm.1 (k * 3 + 1) (by omega)
      have F1 : wr.frozen? ⟨b, off + (k * 3 + 1), none⟩ = false := hfr _
      obtain ⟨u2, g2⟩ := hm.1 (k * 3 + 2) (by omega)
      have F2 : wr.frozen? ⟨b, off + (k * 3 + 2), none⟩ = false := hfr _
      have Hm := Lib.hid hm
      simp only [← Nat.add_assoc, Nat.add_zero] at g0 F0 g1 F1 g2 F2
      clear h hc hm HM Hst hfr
      go_wp2
      go_roundw
      case rel => exact ⟨(((hb).trans (Only.setCell (by omega) _ _)).trans (Only.setCell (by omega) _ _)).trans (Only.setCell (by omega) _ _), k + 1, by omega, by go_num, by go_num, fun b' off' e => by
        cases e
        rw [Nat.succ_mul]
        exact Marked.set (Marked.set (Marked.set (Hm.out) (by omega) (congrArg (fun o => (⟨b, o, none⟩ : Addr)) (by omega)) (by show _ = encRedo (markRedo k0 ((k * 3 + 0) / 3)) ((k * 3 + 0) % 3); rw [show (k * 3 + 0) / 3 = k by omega, show (k * 3 + 0) % 3 = 0 by omega]; simp [markRedo, encRedo] <;> first | omega | (rw [Bool.eq_iff_iff, beq_iff_eq, beq_iff_eq]; omega) | (congr 2; omega))) (by omega) (congrArg (fun o => (⟨b, o, none⟩ : Addr)) (by omega)) (by show _ = encRedo (markRedo k0 ((k * 3 + 1) / 3)) ((k * 3 + 1) % 3); rw [show (k * 3 + 1) / 3 = k by omega, show (k * 3 + 1) % 3 = 1 by omega]; simp [markRedo, encRedo] <;> first | omega | (rw [Bool.eq_iff_iff, beq_iff_eq, beq_iff_eq]; omega) | (congr 2; omega))) (by omega) (congrArg (fun o => (⟨b, o, none⟩ : Addr)) (by omega)) (by show _ = encRedo (markRedo k0 ((k * 3 + 2) / 3)) ((k * 3 + 2) % 3); rw [show (k * 3 + 2) / 3 = k by omega, show (k * 3 + 2) % 3 = 2 by omega]; simp [markRedo, encRedo] <;> first | omega | (rw [Bool.eq_iff_iff, beq_iff_eq, beq_iff_eq]; omega) | (congr 2; omega))⟩
      case measure => simp [intOf]; omega
    · obtain rfl : k = xs.length := by omega
      go_wp2
      go_returns
      refine ⟨rfl, ⟨A, c, by simp [marksRedo], fun hn => ?_⟩, hb⟩
      have hn' : 0 < xs.length := by simpa [marksRedo] using hn
      obtain ⟨b, off, rfl, hbl, hc⟩ := h hn'
      refine ⟨b, off, rfl, Nat.lt_of_lt_of_le hbl hb.size, fun i x hx j hj => ?_⟩
      have hi : i < xs.length := by have := (List.getElem?_eq_some_iff.1 hx).1; simpa [marksRedo] using this
      have hx' : x = markRedo k0 i := by
        unfold marksRedo at hx
        rw [List.getElem?_map] at hx
        obtain ⟨j, hj, rfl⟩ := Option.map_eq_some_iff.1 hx
        have := (List.getElem?_eq_some_iff.1 hj).2
        simp at this
        rw [this]
      have := (HM.out b off rfl).2 (i * 3 + j) (by omega)
      dsimp only at this
      rw [show (i * 3 + j) / 3 = i by omega, show (i * 3 + j) % 3 = j by omega, ← Nat.add_assoc] at this
      rw [this, hx']

set_option maxHeartbeats 1000000 in
theorem heldRedoS_any {v : Value} (w : World) (k0 n : Nat) (h : SlOf 3 encRedo w v (marksRedo k0 n)) (hlen : n ≤ 2097152) (hk0 : k0 ≤ 1073741824) :
    Calls Try.prog 20 #[v, .int .i64 (k0 : Int)] w fun e w' => e = .returned (.int .i64 ((k0 + n * 3 : Nat) : Int)) ∧ Ext w w' := by
  obtain ⟨A, c, rfl, h⟩ := h
  have hl : (marksRedo k0 n).length = n := by simp [marksRedo]
  rw [hl] at h ⊢
  clear hl
  go_enter Try.func20, Try.ntmps20
  go_wp2
  go_loopw [1, 5] (fun a i wr => Ext w wr ∧ ∃ k : Nat, k ≤ n ∧ i = .int .i64 k ∧ a = .int .i64 ((k0 + k * 3 : Nat) : Int)) (fun _ i _ => n - (intOf i).toNat)
  case atStart => exact ⟨Ext.refl _, 0, Nat.zero_le _, rfl, by simp⟩
  case round =>
    obtain ⟨hb, k, hk, rfl, rfl⟩ := hrel
    by_cases hlt : k < n
    · obtain ⟨b, off, rfl, hbl, hc⟩ := h (by omega)
      have c0 : wr.cell? ⟨b, off + k * 3, none⟩ = some (.int .i64 (((k0 + k * 3 : Nat) : Int) + 0)) := hb.cell (hc k (markRedo k0 k) (by simp [marksRedo, hlt]) 0 (by omega))
      have c1 : wr.cell? ⟨b, off + k * 3 + 1, none⟩ = some (.int .i64 (((k0 + k * 3 : Nat) : Int) + 1)) := hb.cell (hc k (markRedo k0 k) (by simp [marksRedo, hlt]) 1 (by omega))
      have c2 : wr.cell? ⟨b, off + k * 3 + 2, none⟩ = some (.int .i64 (((k0 + k * 3 : Nat) : Int) + 2)) := hb.cell (hc k (markRedo k0 k) (by simp [marksRedo, hlt]) 2 (by omega))
      clear h hc
      go_wp2
      go_roundw
      case rel => exact ⟨hb, k + 1, by omega, by go_num, by go_num⟩
      case measure => simp [intOf]; omega
    · obtain rfl : k = n := by omega
      go_wp2
      go_returns
      exact ⟨rfl, hb⟩

end Go.Proofs.Yteciocieaaoocaa
