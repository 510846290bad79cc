/- The structs of the laws: their cells, and what the laws' own helpers on them do. -/
import Derived.Test.YtcddagcfhibdiaaRows
import Derived.Test.YtcddagcfhibdiaaBase
namespace Go.Proofs.Ytcddagcfhibdiaa
open Go.RowKit

structure Rec where
  term : Int
  value : Int
def encRec (x : Rec) : Nat → Value
  | 0 => .int .i64 x.term
  | _ => .int .i64 x.value
def aggRec (x : Rec) : Value := .agg #[.int .i64 x.term, .int .i64 x.value]
def wfRec (x : Rec) : Prop := (Lit.int .i64 x.term).wf = true ∧ (Lit.int .i64 x.value).wf = true
set_option maxHeartbeats 400000 in
theorem toRecord_any (a : Int) (b : Int) (w : World) :
    Calls Try.prog 44 #[.agg #[.int .i64 a, .int .i64 b]] w fun e w' => e = .returned (.agg #[.int .i64 a, .int .i64 b]) ∧ Ext w w' := by
  go_enter Try.func44, Try.ntmps44
  go_wp2
  go_returns
  refine ⟨rfl, ?_⟩
  show Below _ _ _
  go_grown

set_option maxHeartbeats 400000 in
theorem eqRecord_any (a : Int) (b : Int) (w : World) :
    Calls Try.prog 46 #[.agg #[.int .i64 a, .int .i64 b], .agg #[.int .i64 a, .int .i64 b]] w fun e w' => e = .returned (.bool true) ∧ Ext w w' := by
  go_enter Try.func46, Try.ntmps46
  go_wp2
  go_returns
  refine ⟨rfl, ?_⟩
  show Below _ _ _
  go_grown

set_option maxHeartbeats 400000 in
theorem szRecordS_any (A : Option Addr) (n c : Nat) (left : Int) (w : World) (hn : n ≤ 9223372036854775807) (h0 : 0 ≤ left) (h1 : left ≤ 1048576) :
    Calls Try.prog 15 #[.slice A n c, .int .i64 left] w fun e w' => e = .returned (.int .i64 (if (n : Int) ≤ left then left - n else -1)) ∧ w = w' := by
  by_cases h : (n : Int) ≤ left
  · rw [if_pos h]
    go_enter Try.func15, Try.ntmps15
    go_wp2
    go_returns
    exact ⟨rfl, rfl⟩
  · rw [if_neg h]
    go_enter Try.func15, Try.ntmps15
    go_wp2
    go_returns
    exact ⟨rfl, rfl⟩

set_option maxHeartbeats 400000 in
theorem eqRecordS_any {v v' : Value} {xs : List Rec} (w : World) (h : SlOf 2 encRec w v xs) (h' : SlOf 2 encRec w v' xs) (hlen : xs.length ≤ 2097152) :
    Calls Try.prog 19 #[v, v'] w fun e w' => e = .returned (.bool true) ∧ Ext w w' := by
  obtain ⟨A, c, rfl, h⟩ := h
  obtain ⟨A', c', rfl, h'⟩ := h'
  go_enter Try.func19, Try.ntmps19
  go_wp2
  go_loopw [5] (fun i wr => Ext w wr ∧ ∃ k : Nat, k ≤ xs.length ∧ i = .int .i64 k) (fun i _ => xs.length - (intOf i).toNat)
  case atStart => exact ⟨Ext.refl _, 0, Nat.zero_le _, rfl⟩
  case round =>
    obtain ⟨hb, k, hk, rfl⟩ := hrel
    by_cases hlt : k < xs.length
    · obtain ⟨b, off, rfl, hbl, hc⟩ := h (by omega)
      obtain ⟨b', off', rfl, hbl', hc'⟩ := h' (by omega)
      obtain ⟨x, hx⟩ := at_some hlt
      have c0 : ∀ e, (over wr e).cell? ⟨b, off + k * 2, none⟩ = some (.int .i64 x.term) := over_cell (hb.cell (hc k x hx 0 (by omega)))
      have c1 : ∀ e, (over wr e).cell? ⟨b, off + k * 2 + 1, none⟩ = some (.int .i64 x.value) := over_cell (hb.cell (hc k x hx 1 (by omega)))
      have d0 : ∀ e, (over wr e).cell? ⟨b', off' + k * 2, none⟩ = some (.int .i64 x.term) := over_cell (hb.cell (hc' k x hx 0 (by omega)))
      have d1 : ∀ e, (over wr e).cell? ⟨b', off' + k * 2 + 1, none⟩ = some (.int .i64 x.value) := over_cell (hb.cell (hc' k x hx 1 (by omega)))
      clear hx h h' hc hc'
      go_wp2
      refine wp_region_over (by kernel_rfl) (by kernel_rfl) ?_
      repeat (go_big_quiet_step ((go_at_call 46; exact quiet_ext (eqRecord_any _ _ _))))
      refine wpQuiet_nil ?_
      intro w1 hb1
      go_wp2
      go_roundw
      case rel => exact ⟨hb.trans hb1, k + 1, by omega, by go_num⟩
      case measure => simp [intOf]; omega
    · go_wp2
      go_returns
      exact ⟨rfl, hb⟩

theorem info_Record : (Try.prog.info? 69).map (fun i => (i.zero, i.size, i.bytes)) = some (some (.agg #[.int .i64 0, .int .i64 0]), 2, 16) := by kernel_rfl
set_option maxHeartbeats 400000 in
theorem toRecordS_any {v : Value} {xs : List Rec} (w : World) (h : SlOf 2 encRec w v xs) (hlen : xs.length ≤ 2097152) :
    Calls Try.prog 17 #[v] w (RetOf 2 encRec w xs) := by
  obtain ⟨A, c, rfl, h⟩ := h
  have hmk := run_make_of (P := Try.prog) 33 69 Try.underlying33 info_Record xs.length (by omega) (by omega)
  go_enter Try.func17, Try.ntmps17
  go_wp2
  go_loopw [4] (fun i wr => Ext w wr ∧ ∃ k : Nat, k ≤ xs.length ∧ i = .int .i64 k ∧ Filling 2 encRec w.heap.size (xs.length * 2) xs k wr) (fun i _ => xs.length - (intOf i).toNat)
  case atStart => exact ⟨(Ext.refl _).alloc _, 0, Nat.zero_le _, rfl, Filling.start _ _ (size_madeCells _ _)⟩
  case round =>
    obtain ⟨hb, k, hk, rfl, hf⟩ := hrel
    clear hmk
    by_cases hlt : k < xs.length
    · obtain ⟨b, off, rfl, hbl, hc⟩ := h (by omega)
      obtain ⟨x, hx⟩ := at_some hlt
      have c0 : wr.cell? ⟨b, off + k * 2, none⟩ = some (.int .i64 x.term) := hb.cell (hc k x hx 0 (by omega))
      have c1 : wr.cell? ⟨b, off + k * 2 + 1, none⟩ = some (.int .i64 x.value) := hb.cell (hc k x hx 1 (by omega))
      obtain ⟨u0, g0⟩ : ∃ u, wr.cell? ⟨w.heap.size, k * 2, none⟩ = some u := hf.1.cell (by omega)
      obtain ⟨u1, g1⟩ : ∃ u, wr.cell? ⟨w.heap.size, k * 2 + 1, none⟩ = some u := hf.1.cell (by omega)
      have hx' := Lib.hid hx
      clear hx h hc
      go_wp2_with (go_at_call 44; refine (toRecord_any _ _ _).mono ?_; rintro e w1 ⟨rfl, hb1⟩; (
        have G0 := hb1.cell g0
        have F0 : w1.frozen? ⟨w.heap.size, k * 2, none⟩ = false := (hf.1.ext hb1).free _
        have G1 := hb1.cell g1
        have F1 : w1.frozen? ⟨w.heap.size, k * 2 + 1, none⟩ = false := (hf.1.ext hb1).free _))
      go_roundw
      case rel =>
        have hf1 := hf.ext hb1
        have hN : (k + 1) * 2 ≤ xs.length * 2 := by omega
        exact ⟨(((hb.trans hb1).setCell (by exact Nat.le_refl _) _).setCell (by exact Nat.le_refl _) _), k + 1, by omega, by go_num, Filling.next (Filling.set (by omega) (Filling.set (by omega) (hf1.begin_ x) (by omega)) (by omega)) hx'.out⟩
      case measure => simp [intOf]; omega
    · obtain rfl : k = xs.length := by omega
      go_wp2
      go_returns
      exact ⟨_, rfl, hf.done _, hf.1.own (Nat.le_refl _) _ _ _, hb⟩

structure Vote where
  ballot : Int
  value : Int
def encVote (x : Vote) : Nat → Value
  | 0 => .int .i64 x.ballot
  | _ => .int .i64 x.value
def aggVote (x : Vote) : Value := .agg #[.int .i64 x.ballot, .int .i64 x.value]
def wfVote (x : Vote) : Prop := (Lit.int .i64 x.ballot).wf = true ∧ (Lit.int .i64 x.value).wf = true
set_option maxHeartbeats 400000 in
theorem toVote_any (a : Int) (b : Int) (w : World) :
    Calls Try.prog 54 #[.agg #[.int .i64 a, .int .i64 b]] w fun e w' => e = .returned (.agg #[.int .i64 a, .int .i64 b]) ∧ Ext w w' := by
  go_enter Try.func54, Try.ntmps54
  go_wp2
  go_returns
  refine ⟨rfl, ?_⟩
  show Below _ _ _
  go_grown

set_option maxHeartbeats 400000 in
theorem eqVote_any (a : Int) (b : Int) (w : World) :
    Calls Try.prog 55 #[.agg #[.int .i64 a, .int .i64 b], .agg #[.int .i64 a, .int .i64 b]] w fun e w' => e = .returned (.bool true) ∧ Ext w w' := by
  go_enter Try.func55, Try.ntmps55
  go_wp2
  go_returns
  refine ⟨rfl, ?_⟩
  show Below _ _ _
  go_grown

set_option maxHeartbeats 400000 in
theorem szVoteS_any (A : Option Addr) (n c : Nat) (left : Int) (w : World) (hn : n ≤ 9223372036854775807) (h0 : 0 ≤ left) (h1 : left ≤ 1048576) :
    Calls Try.prog 30 #[.slice A n c, .int .i64 left] w fun e w' => e = .returned (.int .i64 (if (n : Int) ≤ left then left - n else -1)) ∧ w = w' := by
  by_cases h : (n : Int) ≤ left
  · rw [if_pos h]
    go_enter Try.func30, Try.ntmps30
    go_wp2
    go_returns
    exact ⟨rfl, rfl⟩
  · rw [if_neg h]
    go_enter Try.func30, Try.ntmps30
    go_wp2
    go_returns
    exact ⟨rfl, rfl⟩

set_option maxHeartbeats 400000 in
theorem eqVoteS_any {v v' : Value} {xs : List Vote} (w : World) (h : SlOf 2 encVote w v xs) (h' : SlOf 2 encVote w v' xs) (hlen : xs.length ≤ 2097152) :
    Calls Try.prog 34 #[v, v'] w fun e w' => e = .returned (.bool true) ∧ Ext w w' := by
  obtain ⟨A, c, rfl, h⟩ := h
  obtain ⟨A', c', rfl, h'⟩ := h'
  go_enter Try.func34, Try.ntmps34
  go_wp2
  go_loopw [5] (fun i wr => Ext w wr ∧ ∃ k : Nat, k ≤ xs.length ∧ i = .int .i64 k) (fun i _ => xs.length - (intOf i).toNat)
  case atStart => exact ⟨Ext.refl _, 0, Nat.zero_le _, rfl⟩
  case round =>
    obtain ⟨hb, k, hk, rfl⟩ := hrel
    by_cases hlt : k < xs.length
    · obtain ⟨b, off, rfl, hbl, hc⟩ := h (by omega)
      obtain ⟨b', off', rfl, hbl', hc'⟩ := h' (by omega)
      obtain ⟨x, hx⟩ := at_some hlt
      have c0 : ∀ e, (over wr e).cell? ⟨b, off + k * 2, none⟩ = some (.int .i64 x.ballot) := over_cell (hb.cell (hc k x hx 0 (by omega)))
      have c1 : ∀ e, (over wr e).cell? ⟨b, off + k * 2 + 1, none⟩ = some (.int .i64 x.value) := over_cell (hb.cell (hc k x hx 1 (by omega)))
      have d0 : ∀ e, (over wr e).cell? ⟨b', off' + k * 2, none⟩ = some (.int .i64 x.ballot) := over_cell (hb.cell (hc' k x hx 0 (by omega)))
      have d1 : ∀ e, (over wr e).cell? ⟨b', off' + k * 2 + 1, none⟩ = some (.int .i64 x.value) := over_cell (hb.cell (hc' k x hx 1 (by omega)))
      clear hx h h' hc hc'
      go_wp2
      refine wp_region_over (by kernel_rfl) (by kernel_rfl) ?_
      repeat (go_big_quiet_step ((go_at_call 55; exact quiet_ext (eqVote_any _ _ _))))
      refine wpQuiet_nil ?_
      intro w1 hb1
      go_wp2
      go_roundw
      case rel => exact ⟨hb.trans hb1, k + 1, by omega, by go_num⟩
      case measure => simp [intOf]; omega
    · go_wp2
      go_returns
      exact ⟨rfl, hb⟩

theorem info_Vote : (Try.prog.info? 82).map (fun i => (i.zero, i.size, i.bytes)) = some (some (.agg #[.int .i64 0, .int .i64 0]), 2, 16) := by kernel_rfl
set_option maxHeartbeats 400000 in
theorem toVoteS_any {v : Value} {xs : List Vote} (w : World) (h : SlOf 2 encVote w v xs) (hlen : xs.length ≤ 2097152) :
    Calls Try.prog 32 #[v] w (RetOf 2 encVote w xs) := by
  obtain ⟨A, c, rfl, h⟩ := h
  have hmk := run_make_of (P := Try.prog) 54 82 Try.underlying54 info_Vote xs.length (by omega) (by omega)
  go_enter Try.func32, Try.ntmps32
  go_wp2
  go_loopw [4] (fun i wr => Ext w wr ∧ ∃ k : Nat, k ≤ xs.length ∧ i = .int .i64 k ∧ Filling 2 encVote w.heap.size (xs.length * 2) xs k wr) (fun i _ => xs.length - (intOf i).toNat)
  case atStart => exact ⟨(Ext.refl _).alloc _, 0, Nat.zero_le _, rfl, Filling.start _ _ (size_madeCells _ _)⟩
  case round =>
    obtain ⟨hb, k, hk, rfl, hf⟩ := hrel
    clear hmk
    by_cases hlt : k < xs.length
    · obtain ⟨b, off, rfl, hbl, hc⟩ := h (by omega)
      obtain ⟨x, hx⟩ := at_some hlt
      have c0 : wr.cell? ⟨b, off + k * 2, none⟩ = some (.int .i64 x.ballot) := hb.cell (hc k x hx 0 (by omega))
      have c1 : wr.cell? ⟨b, off + k * 2 + 1, none⟩ = some (.int .i64 x.value) := hb.cell (hc k x hx 1 (by omega))
      obtain ⟨u0, g0⟩ : ∃ u, wr.cell? ⟨w.heap.size, k * 2, none⟩ = some u := hf.1.cell (by omega)
      obtain ⟨u1, g1⟩ : ∃ u, wr.cell? ⟨w.heap.size, k * 2 + 1, none⟩ = some u := hf.1.cell (by omega)
      have hx' := Lib.hid hx
      clear hx h hc
      go_wp2_with (go_at_call 54; refine (toVote_any _ _ _).mono ?_; rintro e w1 ⟨rfl, hb1⟩; (
        have G0 := hb1.cell g0
        have F0 : w1.frozen? ⟨w.heap.size, k * 2, none⟩ = false := (hf.1.ext hb1).free _
        have G1 := hb1.cell g1
        have F1 : w1.frozen? ⟨w.heap.size, k * 2 + 1, none⟩ = false := (hf.1.ext hb1).free _))
      go_roundw
      case rel =>
        have hf1 := hf.ext hb1
        have hN : (k + 1) * 2 ≤ xs.length * 2 := by omega
        exact ⟨(((hb.trans hb1).setCell (by exact Nat.le_refl _) _).setCell (by exact Nat.le_refl _) _), k + 1, by omega, by go_num, Filling.next (Filling.set (by omega) (Filling.set (by omega) (hf1.begin_ x) (by omega)) (by omega)) hx'.out⟩
      case measure => simp [intOf]; omega
    · obtain rfl : k = xs.length := by omega
      go_wp2
      go_returns
      exact ⟨_, rfl, hf.done _, hf.1.own (Nat.le_refl _) _ _ _, hb⟩

structure Touch where
  read : Int
  write : Int
def encTouch (x : Touch) : Nat → Value
  | 0 => .int .i64 x.read
  | _ => .int .i64 x.write
def aggTouch (x : Touch) : Value := .agg #[.int .i64 x.read, .int .i64 x.write]
def wfTouch (x : Touch) : Prop := (Lit.int .i64 x.read).wf = true ∧ (Lit.int .i64 x.write).wf = true
set_option maxHeartbeats 400000 in
theorem toTouch_any (a : Int) (b : Int) (w : World) :
    Calls Try.prog 50 #[.agg #[.int .i64 a, .int .i64 b]] w fun e w' => e = .returned (.agg #[.int .i64 a, .int .i64 b]) ∧ Ext w w' := by
  go_enter Try.func50, Try.ntmps50
  go_wp2
  go_returns
  refine ⟨rfl, ?_⟩
  show Below _ _ _
  go_grown

set_option maxHeartbeats 400000 in
theorem eqTouch_any (a : Int) (b : Int) (w : World) :
    Calls Try.prog 53 #[.agg #[.int .i64 a, .int .i64 b], .agg #[.int .i64 a, .int .i64 b]] w fun e w' => e = .returned (.bool true) ∧ Ext w w' := by
  go_enter Try.func53, Try.ntmps53
  go_wp2
  go_returns
  refine ⟨rfl, ?_⟩
  show Below _ _ _
  go_grown

set_option maxHeartbeats 400000 in
theorem szTouchS_any (A : Option Addr) (n c : Nat) (left : Int) (w : World) (hn : n ≤ 9223372036854775807) (h0 : 0 ≤ left) (h1 : left ≤ 1048576) :
    Calls Try.prog 25 #[.slice A n c, .int .i64 left] w fun e w' => e = .returned (.int .i64 (if (n : Int) ≤ left then left - n else -1)) ∧ w = w' := by
  by_cases h : (n : Int) ≤ left
  · rw [if_pos h]
    go_enter Try.func25, Try.ntmps25
    go_wp2
    go_returns
    exact ⟨rfl, rfl⟩
  · rw [if_neg h]
    go_enter Try.func25, Try.ntmps25
    go_wp2
    go_returns
    exact ⟨rfl, rfl⟩

set_option maxHeartbeats 400000 in
theorem eqTouchS_any {v v' : Value} {xs : List Touch} (w : World) (h : SlOf 2 encTouch w v xs) (h' : SlOf 2 encTouch w v' xs) (hlen : xs.length ≤ 2097152) :
    Calls Try.prog 29 #[v, v'] w fun e w' => e = .returned (.bool true) ∧ Ext w w' := by
  obtain ⟨A, c, rfl, h⟩ := h
  obtain ⟨A', c', rfl, h'⟩ := h'
  go_enter Try.func29, Try.ntmps29
  go_wp2
  go_loopw [5] (fun i wr => Ext w wr ∧ ∃ k : Nat, k ≤ xs.length ∧ i = .int .i64 k) (fun i _ => xs.length - (intOf i).toNat)
  case atStart => exact ⟨Ext.refl _, 0, Nat.zero_le _, rfl⟩
  case round =>
    obtain ⟨hb, k, hk, rfl⟩ := hrel
    by_cases hlt : k < xs.length
    · obtain ⟨b, off, rfl, hbl, hc⟩ := h (by omega)
      obtain ⟨b', off', rfl, hbl', hc'⟩ := h' (by omega)
      obtain ⟨x, hx⟩ := at_some hlt
      have c0 : ∀ e, (over wr e).cell? ⟨b, off + k * 2, none⟩ = some (.int .i64 x.read) := over_cell (hb.cell (hc k x hx 0 (by omega)))
      have c1 : ∀ e, (over wr e).cell? ⟨b, off + k * 2 + 1, none⟩ = some (.int .i64 x.write) := over_cell (hb.cell (hc k x hx 1 (by omega)))
      have d0 : ∀ e, (over wr e).cell? ⟨b', off' + k * 2, none⟩ = some (.int .i64 x.read) := over_cell (hb.cell (hc' k x hx 0 (by omega)))
      have d1 : ∀ e, (over wr e).cell? ⟨b', off' + k * 2 + 1, none⟩ = some (.int .i64 x.write) := over_cell (hb.cell (hc' k x hx 1 (by omega)))
      clear hx h h' hc hc'
      go_wp2
      refine wp_region_over (by kernel_rfl) (by kernel_rfl) ?_
      repeat (go_big_quiet_step ((go_at_call 53; exact quiet_ext (eqTouch_any _ _ _))))
      refine wpQuiet_nil ?_
      intro w1 hb1
      go_wp2
      go_roundw
      case rel => exact ⟨hb.trans hb1, k + 1, by omega, by go_num⟩
      case measure => simp [intOf]; omega
    · go_wp2
      go_returns
      exact ⟨rfl, hb⟩

theorem info_Touch : (Try.prog.info? 75).map (fun i => (i.zero, i.size, i.bytes)) = some (some (.agg #[.int .i64 0, .int .i64 0]), 2, 16) := by kernel_rfl
set_option maxHeartbeats 400000 in
theorem toTouchS_any {v : Value} {xs : List Touch} (w : World) (h : SlOf 2 encTouch w v xs) (hlen : xs.length ≤ 2097152) :
    Calls Try.prog 27 #[v] w (RetOf 2 encTouch w xs) := by
  obtain ⟨A, c, rfl, h⟩ := h
  have hmk := run_make_of (P := Try.prog) 47 75 Try.underlying47 info_Touch xs.length (by omega) (by omega)
  go_enter Try.func27, Try.ntmps27
  go_wp2
  go_loopw [4] (fun i wr => Ext w wr ∧ ∃ k : Nat, k ≤ xs.length ∧ i = .int .i64 k ∧ Filling 2 encTouch w.heap.size (xs.length * 2) xs k wr) (fun i _ => xs.length - (intOf i).toNat)
  case atStart => exact ⟨(Ext.refl _).alloc _, 0, Nat.zero_le _, rfl, Filling.start _ _ (size_madeCells _ _)⟩
  case round =>
    obtain ⟨hb, k, hk, rfl, hf⟩ := hrel
    clear hmk
    by_cases hlt : k < xs.length
    · obtain ⟨b, off, rfl, hbl, hc⟩ := h (by omega)
      obtain ⟨x, hx⟩ := at_some hlt
      have c0 : wr.cell? ⟨b, off + k * 2, none⟩ = some (.int .i64 x.read) := hb.cell (hc k x hx 0 (by omega))
      have c1 : wr.cell? ⟨b, off + k * 2 + 1, none⟩ = some (.int .i64 x.write) := hb.cell (hc k x hx 1 (by omega))
      obtain ⟨u0, g0⟩ : ∃ u, wr.cell? ⟨w.heap.size, k * 2, none⟩ = some u := hf.1.cell (by omega)
      obtain ⟨u1, g1⟩ : ∃ u, wr.cell? ⟨w.heap.size, k * 2 + 1, none⟩ = some u := hf.1.cell (by omega)
      have hx' := Lib.hid hx
      clear hx h hc
      go_wp2_with (go_at_call 50; refine (toTouch_any _ _ _).mono ?_; rintro e w1 ⟨rfl, hb1⟩; (
        have G0 := hb1.cell g0
        have F0 : w1.frozen? ⟨w.heap.size, k * 2, none⟩ = false := (hf.1.ext hb1).free _
        have G1 := hb1.cell g1
        have F1 : w1.frozen? ⟨w.heap.size, k * 2 + 1, none⟩ = false := (hf.1.ext hb1).free _))
      go_roundw
      case rel =>
        have hf1 := hf.ext hb1
        have hN : (k + 1) * 2 ≤ xs.length * 2 := by omega
        exact ⟨(((hb.trans hb1).setCell (by exact Nat.le_refl _) _).setCell (by exact Nat.le_refl _) _), k + 1, by omega, by go_num, Filling.next (Filling.set (by omega) (Filling.set (by omega) (hf1.begin_ x) (by omega)) (by omega)) hx'.out⟩
      case measure => simp [intOf]; omega
    · obtain rfl : k = xs.length := by omega
      go_wp2
      go_returns
      exact ⟨_, rfl, hf.done _, hf.1.own (Nat.le_refl _) _ _ _, hb⟩

structure Lease where
  who : Int
  frm : Int
  til : Int
def encLease (x : Lease) : Nat → Value
  | 0 => .int .i64 x.who
  | 1 => .int .i64 x.frm
  | _ => .int .i64 x.til
def aggLease (x : Lease) : Value := .agg #[.int .i64 x.who, .int .i64 x.frm, .int .i64 x.til]
def wfLease (x : Lease) : Prop := (Lit.int .i64 x.who).wf = true ∧ (Lit.int .i64 x.frm).wf = true ∧ (Lit.int .i64 x.til).wf = true
set_option maxHeartbeats 400000 in
theorem toLease_any (a : Int) (b : Int) (c : Int) (w : World) :
    Calls Try.prog 11 #[.agg #[.int .i64 a, .int .i64 b, .int .i64 c]] w fun e w' => e = .returned (.agg #[.int .i64 a, .int .i64 b, .int .i64 c]) ∧ Ext w w' := by
  go_enter Try.func11, Try.ntmps11
  go_wp2
  go_returns
  refine ⟨rfl, ?_⟩
  show Below _ _ _
  go_grown

set_option maxHeartbeats 400000 in
theorem eqLease_any (a : Int) (b : Int) (c : Int) (w : World) :
    Calls Try.prog 49 #[.agg #[.int .i64 a, .int .i64 b, .int .i64 c], .agg #[.int .i64 a, .int .i64 b, .int .i64 c]] w fun e w' => e = .returned (.bool true) ∧ Ext w w' := by
  go_enter Try.func49, Try.ntmps49
  go_wp2
  go_returns
  refine ⟨rfl, ?_⟩
  show Below _ _ _
  go_grown

set_option maxHeartbeats 400000 in
theorem szLeaseS_any (A : Option Addr) (n c : Nat) (left : Int) (w : World) (hn : n ≤ 9223372036854775807) (h0 : 0 ≤ left) (h1 : left ≤ 1048576) :
    Calls Try.prog 20 #[.slice A n c, .int .i64 left] w fun e w' => e = .returned (.int .i64 (if (n : Int) ≤ left then left - n else -1)) ∧ w = w' := by
  by_cases h : (n : Int) ≤ left
  · rw [if_pos h]
    go_enter Try.func20, Try.ntmps20
    go_wp2
    go_returns
    exact ⟨rfl, rfl⟩
  · rw [if_neg h]
    go_enter Try.func20, Try.ntmps20
    go_wp2
    go_returns
    exact ⟨rfl, rfl⟩

set_option maxHeartbeats 400000 in
theorem eqLeaseS_any {v v' : Value} {xs : List Lease} (w : World) (h : SlOf 3 encLease w v xs) (h' : SlOf 3 encLease w v' xs) (hlen : xs.length ≤ 2097152) :
    Calls Try.prog 24 #[v, v'] w fun e w' => e = .returned (.bool true) ∧ Ext w w' := by
  obtain ⟨A, c, rfl, h⟩ := h
  obtain ⟨A', c', rfl, h'⟩ := h'
  go_enter Try.func24, Try.ntmps24
  go_wp2
  go_loopw [5] (fun i wr => Ext w wr ∧ ∃ k : Nat, k ≤ xs.length ∧ i = .int .i64 k) (fun i _ => xs.length - (intOf i).toNat)
  case atStart => exact ⟨Ext.refl _, 0, Nat.zero_le _, rfl⟩
  case round =>
    obtain ⟨hb, k, hk, rfl⟩ := hrel
    by_cases hlt : k < xs.length
    · obtain ⟨b, off, rfl, hbl, hc⟩ := h (by omega)
      obtain ⟨b', off', rfl, hbl', hc'⟩ := h' (by omega)
      obtain ⟨x, hx⟩ := at_some hlt
      have c0 : ∀ e, (over wr e).cell? ⟨b, off + k * 3, none⟩ = some (.int .i64 x.who) := over_cell (hb.cell (hc k x hx 0 (by omega)))
      have c1 : ∀ e, (over wr e).cell? ⟨b, off + k * 3 + 1, none⟩ = some (.int .i64 x.frm) := over_cell (hb.cell (hc k x hx 1 (by omega)))
      have c2 : ∀ e, (over wr e).cell? ⟨b, off + k * 3 + 2, none⟩ = some (.int .i64 x.til) := over_cell (hb.cell (hc k x hx 2 (by omega)))
      have d0 : ∀ e, (over wr e).cell? ⟨b', off' + k * 3, none⟩ = some (.int .i64 x.who) := over_cell (hb.cell (hc' k x hx 0 (by omega)))
      have d1 : ∀ e, (over wr e).cell? ⟨b', off' + k * 3 + 1, none⟩ = some (.int .i64 x.frm) := over_cell (hb.cell (hc' k x hx 1 (by omega)))
      have d2 : ∀ e, (over wr e).cell? ⟨b', off' + k * 3 + 2, none⟩ = some (.int .i64 x.til) := over_cell (hb.cell (hc' k x hx 2 (by omega)))
      clear hx h h' hc hc'
      go_wp2
      refine wp_region_over (by kernel_rfl) (by kernel_rfl) ?_
      repeat (go_big_quiet_step ((go_at_call 49; exact quiet_ext (eqLease_any _ _ _ _))))
      refine wpQuiet_nil ?_
      intro w1 hb1
      go_wp2
      go_roundw
      case rel => exact ⟨hb.trans hb1, k + 1, by omega, by go_num⟩
      case measure => simp [intOf]; omega
    · go_wp2
      go_returns
      exact ⟨rfl, hb⟩

theorem info_Lease : (Try.prog.info? 25).map (fun i => (i.zero, i.size, i.bytes)) = some (some (.agg #[.int .i64 0, .int .i64 0, .int .i64 0]), 3, 24) := by kernel_rfl
set_option maxHeartbeats 400000 in
theorem toLeaseS_any {v : Value} {xs : List Lease} (w : World) (h : SlOf 3 encLease w v xs) (hlen : xs.length ≤ 2097152) :
    Calls Try.prog 22 #[v] w (RetOf 3 encLease w xs) := by
  obtain ⟨A, c, rfl, h⟩ := h
  have hmk := run_make_of (P := Try.prog) 40 25 Try.underlying40 info_Lease xs.length (by omega) (by omega)
  go_enter Try.func22, Try.ntmps22
  go_wp2
  go_loopw [4] (fun i wr => Ext w wr ∧ ∃ k : Nat, k ≤ xs.length ∧ i = .int .i64 k ∧ Filling 3 encLease w.heap.size (xs.length * 3) xs k wr) (fun i _ => xs.length - (intOf i).toNat)
  case atStart => exact ⟨(Ext.refl _).alloc _, 0, Nat.zero_le _, rfl, Filling.start _ _ (size_madeCells _ _)⟩
  case round =>
    obtain ⟨hb, k, hk, rfl, hf⟩ := hrel
    clear hmk
    by_cases hlt : k < xs.length
    · obtain ⟨b, off, rfl, hbl, hc⟩ := h (by omega)
      obtain ⟨x, hx⟩ := at_some hlt
      have c0 : wr.cell? ⟨b, off + k * 3, none⟩ = some (.int .i64 x.who) := hb.cell (hc k x hx 0 (by omega))
      have c1 : wr.cell? ⟨b, off + k * 3 + 1, none⟩ = some (.int .i64 x.frm) := hb.cell (hc k x hx 1 (by omega))
      have c2 : wr.cell? ⟨b, off + k * 3 + 2, none⟩ = some (.int .i64 x.til) := hb.cell (hc k x hx 2 (by omega))
      obtain ⟨u0, g0⟩ : ∃ u, wr.cell? ⟨w.heap.size, k * 3, none⟩ = some u := hf.1.cell (by omega)
      obtain ⟨u1, g1⟩ : ∃ u, wr.cell? ⟨w.heap.size, k * 3 + 1, none⟩ = some u := hf.1.cell (by omega)
      obtain ⟨u2, g2⟩ : ∃ u, wr.cell? ⟨w.heap.size, k * 3 + 2, none⟩ = some u := hf.1.cell (by omega)
      have hx' := Lib.hid hx
      clear hx h hc
      go_wp2_with (go_at_call 11; refine (toLease_any _ _ _ _).mono ?_; rintro e w1 ⟨rfl, hb1⟩; (
        have G0 := hb1.cell g0
        have F0 : w1.frozen? ⟨w.heap.size, k * 3, none⟩ = false := (hf.1.ext hb1).free _
        have G1 := hb1.cell g1
        have F1 : w1.frozen? ⟨w.heap.size, k * 3 + 1, none⟩ = false := (hf.1.ext hb1).free _
        have G2 := hb1.cell g2
        have F2 : w1.frozen? ⟨w.heap.size, k * 3 + 2, none⟩ = false := (hf.1.ext hb1).free _))
      go_roundw
      case rel =>
        have hf1 := hf.ext hb1
        have hN : (k + 1) * 3 ≤ xs.length * 3 := by omega
        exact ⟨((((hb.trans hb1).setCell (by exact Nat.le_refl _) _).setCell (by exact Nat.le_refl _) _).setCell (by exact Nat.le_refl _) _), k + 1, by omega, by go_num, Filling.next (Filling.set (by omega) (Filling.set (by omega) (Filling.set (by omega) (hf1.begin_ x) (by omega)) (by omega)) (by omega)) hx'.out⟩
      case measure => simp [intOf]; omega
    · obtain rfl : k = xs.length := by omega
      go_wp2
      go_returns
      exact ⟨_, rfl, hf.done _, hf.1.own (Nat.le_refl _) _ _ _, hb⟩

structure Redo where
  who : Int
  key : Int
  value : Int
def encRedo (x : Redo) : Nat → Value
  | 0 => .int .i64 x.who
  | 1 => .int .i64 x.key
  | _ => .int .i64 x.value
def aggRedo (x : Redo) : Value := .agg #[.int .i64 x.who, .int .i64 x.key, .int .i64 x.value]
def wfRedo (x : Redo) : Prop := (Lit.int .i64 x.who).wf = true ∧ (Lit.int .i64 x.key).wf = true ∧ (Lit.int .i64 x.value).wf = true
set_option maxHeartbeats 400000 in
theorem toRedo_any (a : Int) (b : Int) (c : Int) (w : World) :
    Calls Try.prog 56 #[.agg #[.int .i64 a, .int .i64 b, .int .i64 c]] w fun e w' => e = .returned (.agg #[.int .i64 a, .int .i64 b, .int .i64 c]) ∧ Ext w w' := by
  go_enter Try.func56, Try.ntmps56
  go_wp2
  go_returns
  refine ⟨rfl, ?_⟩
  show Below _ _ _
  go_grown

set_option maxHeartbeats 400000 in
theorem eqRedo_any (a : Int) (b : Int) (c : Int) (w : World) :
    Calls Try.prog 58 #[.agg #[.int .i64 a, .int .i64 b, .int .i64 c], .agg #[.int .i64 a, .int .i64 b, .int .i64 c]] w fun e w' => e = .returned (.bool true) ∧ Ext w w' := by
  go_enter Try.func58, Try.ntmps58
  go_wp2
  go_returns
  refine ⟨rfl, ?_⟩
  show Below _ _ _
  go_grown

set_option maxHeartbeats 400000 in
theorem szRedoS_any (A : Option Addr) (n c : Nat) (left : Int) (w : World) (hn : n ≤ 9223372036854775807) (h0 : 0 ≤ left) (h1 : left ≤ 1048576) :
    Calls Try.prog 35 #[.slice A n c, .int .i64 left] w fun e w' => e = .returned (.int .i64 (if (n : Int) ≤ left then left - n else -1)) ∧ w = w' := by
  by_cases h : (n : Int) ≤ left
  · rw [if_pos h]
    go_enter Try.func35, Try.ntmps35
    go_wp2
    go_returns
    exact ⟨rfl, rfl⟩
  · rw [if_neg h]
    go_enter Try.func35, Try.ntmps35
    go_wp2
    go_returns
    exact ⟨rfl, rfl⟩

set_option maxHeartbeats 400000 in
theorem eqRedoS_any {v v' : Value} {xs : List Redo} (w : World) (h : SlOf 3 encRedo w v xs) (h' : SlOf 3 encRedo w v' xs) (hlen : xs.length ≤ 2097152) :
    Calls Try.prog 39 #[v, v'] w fun e w' => e = .returned (.bool true) ∧ Ext w w' := by
  obtain ⟨A, c, rfl, h⟩ := h
  obtain ⟨A', c', rfl, h'⟩ := h'
  go_enter Try.func39, Try.ntmps39
  go_wp2
  go_loopw [5] (fun i wr => Ext w wr ∧ ∃ k : Nat, k ≤ xs.length ∧ i = .int .i64 k) (fun i _ => xs.length - (intOf i).toNat)
  case atStart => exact ⟨Ext.refl _, 0, Nat.zero_le _, rfl⟩
  case round =>
    obtain ⟨hb, k, hk, rfl⟩ := hrel
    by_cases hlt : k < xs.length
    · obtain ⟨b, off, rfl, hbl, hc⟩ := h (by omega)
      obtain ⟨b', off', rfl, hbl', hc'⟩ := h' (by omega)
      obtain ⟨x, hx⟩ := at_some hlt
      have c0 : ∀ e, (over wr e).cell? ⟨b, off + k * 3, none⟩ = some (.int .i64 x.who) := over_cell (hb.cell (hc k x hx 0 (by omega)))
      have c1 : ∀ e, (over wr e).cell? ⟨b, off + k * 3 + 1, none⟩ = some (.int .i64 x.key) := over_cell (hb.cell (hc k x hx 1 (by omega)))
      have c2 : ∀ e, (over wr e).cell? ⟨b, off + k * 3 + 2, none⟩ = some (.int .i64 x.value) := over_cell (hb.cell (hc k x hx 2 (by omega)))
      have d0 : ∀ e, (over wr e).cell? ⟨b', off' + k * 3, none⟩ = some (.int .i64 x.who) := over_cell (hb.cell (hc' k x hx 0 (by omega)))
      have d1 : ∀ e, (over wr e).cell? ⟨b', off' + k * 3 + 1, none⟩ = some (.int .i64 x.key) := over_cell (hb.cell (hc' k x hx 1 (by omega)))
      have d2 : ∀ e, (over wr e).cell? ⟨b', off' + k * 3 + 2, none⟩ = some (.int .i64 x.value) := over_cell (hb.cell (hc' k x hx 2 (by omega)))
      clear hx h h' hc hc'
      go_wp2
      refine wp_region_over (by kernel_rfl) (by kernel_rfl) ?_
      repeat (go_big_quiet_step ((go_at_call 58; exact quiet_ext (eqRedo_any _ _ _ _))))
      refine wpQuiet_nil ?_
      intro w1 hb1
      go_wp2
      go_roundw
      case rel => exact ⟨hb.trans hb1, k + 1, by omega, by go_num⟩
      case measure => simp [intOf]; omega
    · go_wp2
      go_returns
      exact ⟨rfl, hb⟩

theorem info_Redo : (Try.prog.info? 89).map (fun i => (i.zero, i.size, i.bytes)) = some (some (.agg #[.int .i64 0, .int .i64 0, .int .i64 0]), 3, 24) := by kernel_rfl
set_option maxHeartbeats 400000 in
theorem toRedoS_any {v : Value} {xs : List Redo} (w : World) (h : SlOf 3 encRedo w v xs) (hlen : xs.length ≤ 2097152) :
    Calls Try.prog 37 #[v] w (RetOf 3 encRedo w xs) := by
  obtain ⟨A, c, rfl, h⟩ := h
  have hmk := run_make_of (P := Try.prog) 61 89 Try.underlying61 info_Redo xs.length (by omega) (by omega)
  go_enter Try.func37, Try.ntmps37
  go_wp2
  go_loopw [4] (fun i wr => Ext w wr ∧ ∃ k : Nat, k ≤ xs.length ∧ i = .int .i64 k ∧ Filling 3 encRedo w.heap.size (xs.length * 3) xs k wr) (fun i _ => xs.length - (intOf i).toNat)
  case atStart => exact ⟨(Ext.refl _).alloc _, 0, Nat.zero_le _, rfl, Filling.start _ _ (size_madeCells _ _)⟩
  case round =>
    obtain ⟨hb, k, hk, rfl, hf⟩ := hrel
    clear hmk
    by_cases hlt : k < xs.length
    · obtain ⟨b, off, rfl, hbl, hc⟩ := h (by omega)
      obtain ⟨x, hx⟩ := at_some hlt
      have c0 : wr.cell? ⟨b, off + k * 3, none⟩ = some (.int .i64 x.who) := hb.cell (hc k x hx 0 (by omega))
      have c1 : wr.cell? ⟨b, off + k * 3 + 1, none⟩ = some (.int .i64 x.key) := hb.cell (hc k x hx 1 (by omega))
      have c2 : wr.cell? ⟨b, off + k * 3 + 2, none⟩ = some (.int .i64 x.value) := hb.cell (hc k x hx 2 (by omega))
      obtain ⟨u0, g0⟩ : ∃ u, wr.cell? ⟨w.heap.size, k * 3, none⟩ = some u := hf.1.cell (by omega)
      obtain ⟨u1, g1⟩ : ∃ u, wr.cell? ⟨w.heap.size, k * 3 + 1, none⟩ = some u := hf.1.cell (by omega)
      obtain ⟨u2, g2⟩ : ∃ u, wr.cell? ⟨w.heap.size, k * 3 + 2, none⟩ = some u := hf.1.cell (by omega)
      have hx' := Lib.hid hx
      clear hx h hc
      go_wp2_with (go_at_call 56; refine (toRedo_any _ _ _ _).mono ?_; rintro e w1 ⟨rfl, hb1⟩; (
        have G0 := hb1.cell g0
        have F0 : w1.frozen? ⟨w.heap.size, k * 3, none⟩ = false := (hf.1.ext hb1).free _
        have G1 := hb1.cell g1
        have F1 : w1.frozen? ⟨w.heap.size, k * 3 + 1, none⟩ = false := (hf.1.ext hb1).free _
        have G2 := hb1.cell g2
        have F2 : w1.frozen? ⟨w.heap.size, k * 3 + 2, none⟩ = false := (hf.1.ext hb1).free _))
      go_roundw
      case rel =>
        have hf1 := hf.ext hb1
        have hN : (k + 1) * 3 ≤ xs.length * 3 := by omega
        exact ⟨((((hb.trans hb1).setCell (by exact Nat.le_refl _) _).setCell (by exact Nat.le_refl _) _).setCell (by exact Nat.le_refl _) _), k + 1, by omega, by go_num, Filling.next (Filling.set (by omega) (Filling.set (by omega) (Filling.set (by omega) (hf1.begin_ x) (by omega)) (by omega)) (by omega)) hx'.out⟩
      case measure => simp [intOf]; omega
    · obtain rfl : k = xs.length := by omega
      go_wp2
      go_returns
      exact ⟨_, rfl, hf.done _, hf.1.own (Nat.le_refl _) _ _ _, hb⟩

structure Hold where
  owner : Int
  key : Int
  write : Bool
  got : Bool
def encHold (x : Hold) : Nat → Value
  | 0 => .int .i64 x.owner
  | 1 => .int .i64 x.key
  | 2 => .bool x.write
  | _ => .bool x.got
def aggHold (x : Hold) : Value := .agg #[.int .i64 x.owner, .int .i64 x.key, .bool x.write, .bool x.got]
def wfHold (x : Hold) : Prop := (Lit.int .i64 x.owner).wf = true ∧ (Lit.int .i64 x.key).wf = true
set_option maxHeartbeats 400000 in
theorem indexFuncTouch_any {v : Value} {xs : List Touch} (w : World) (F : FuncId) (cap : Array Value) (p : Touch → Bool) (h : SlOf 2 encTouch w v xs) (hlen : xs.length ≤ 2097152)
    (hcf : ∀ args W, (callFunc F args).run Try.prog W = .ok (.enter F args) W) (hF : ∀ x ∈ xs, ∀ W, Ext w W → Calls Try.prog F (#[.agg #[.int .i64 x.read, .int .i64 x.write]] ++ cap) W fun e w' => e = .returned (.bool (p x)) ∧ Ext W w') :
    Calls Try.prog 61 #[v, .func (.func F) #[] cap] w fun e w' => e = .returned (.int .i64 (findAt p xs 0)) ∧ Ext w w' := by
  obtain ⟨A, c, rfl, h⟩ := h
  have HF := Lib.hid hF
  clear hF
  go_enter Try.func61, Try.ntmps61
  go_wp2
  go_loopw [8] (fun i wr => Ext w wr ∧ ∃ k : Nat, k ≤ xs.length ∧ i = .int .i64 k ∧ Hid (findAt p xs 0 = findAt p (xs.drop k) k)) (fun i _ => xs.length - (intOf i).toNat)
  case atStart => exact ⟨Ext.refl _, 0, Nat.zero_le _, rfl, rfl⟩
  case round =>
    obtain ⟨hb, k, hk, rfl, HI⟩ := hrel
    by_cases hlt : k < xs.length
    · obtain ⟨b, off, rfl, hbl, hc⟩ := h (by omega)
      obtain ⟨x, hx⟩ := at_some hlt
      have c0 : wr.cell? ⟨b, off + k * 2, none⟩ = some (.int .i64 x.read) := hb.cell (hc k x hx 0 (by omega))
      have c1 : wr.cell? ⟨b, off + k * 2 + 1, none⟩ = some (.int .i64 x.write) := hb.cell (hc k x hx 1 (by omega))
      have Hx := Lib.hid hx
      have Hm := List.mem_of_getElem? hx
      clear hx h hc
      go_wp2_with fail
      refine (HF.out x Hm _ hb).mono ?_
      rintro e w1 ⟨rfl, b1⟩
      by_cases hp : p x = true
      · have hr := Lib.hid (HI.out.trans (findAt_hit Hx.out hp))
        go_wp2
        go_returns
        exact ⟨ret_int hr.out.symm, hb.trans b1⟩
      · simp only [Bool.not_eq_true] at hp
        have hr := Lib.hid (HI.out.trans (findAt_step Hx.out hp))
        go_wp2
        go_roundw
        case rel => exact ⟨hb.trans b1, k + 1, by omega, by go_num, hr⟩
        case measure => simp [intOf]; omega
    · obtain rfl : k = xs.length := by omega
      go_wp2
      go_returns
      exact ⟨ret_int (by rw [HI.out]; simp [findAt]), hb⟩

set_option maxHeartbeats 400000 in
theorem containsFuncTouch_any {v : Value} {xs : List Touch} (w : World) (F : FuncId) (cap : Array Value) (p : Touch → Bool) (h : SlOf 2 encTouch w v xs) (hlen : xs.length ≤ 2097152)
    (hcf : ∀ args W, (callFunc F args).run Try.prog W = .ok (.enter F args) W) (hF : ∀ x ∈ xs, ∀ W, Ext w W → Calls Try.prog F (#[.agg #[.int .i64 x.read, .int .i64 x.write]] ++ cap) W fun e w' => e = .returned (.bool (p x)) ∧ Ext W w') :
    Calls Try.prog 51 #[v, .func (.func F) #[] cap] w fun e w' => e = .returned (.bool (xs.any p)) ∧ Ext w w' := by
  have HF := Lib.hid hF
  clear hF
  go_enter Try.func51, Try.ntmps51
  go_wp2_with fail
  refine (indexFuncTouch_any w F cap p h hlen hcf HF.out).mono ?_
  rintro e w1 ⟨rfl, b1⟩
  go_wp2
  go_returns
  exact ⟨ret_bool (findAt_any), b1⟩

end Go.Proofs.Ytcddagcfhibdiaa
