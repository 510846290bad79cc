/- As TypedL, and what has run has what it waits for behind it ('Dn'). Nothing of the program is used here. -/
import Derived.Test.YtiggckhlbklngaaDoorTyped
namespace Go.Proofs.YtiggckhlbklngaaDoor
open Go.RowKit

section
variable {P : Program} {ops : Array Oper}
/-- What has run has what it waits for behind it. -/
def Dn (ops : Array Oper) (L : Array Bool) : Prop := ∀ i o, ops[i]? = some o → L.getD i true = true → ∀ e ∈ o.after, Region.binds .any e = true → L.getD e.on true = true
theorem Dn.set {L : Array Bool} {i : Nat} {o : Oper} (h : Dn ops L) (ho : ops[i]? = some o) (hsz : L.size = ops.size) (hd : ∀ e ∈ o.after, Region.binds .any e = true → L.getD e.on true = true) : Dn ops (L.setIfInBounds i true) := by
  have up : ∀ k, L.getD k true = true → (L.setIfInBounds i true).getD k true = true := fun k hk => by
    by_cases e : i = k
    · subst e
      exact getD_set_self true (by rw [hsz]; exact (Array.getElem?_eq_some_iff.1 ho).1)
    · rw [getD_set_ne true e]; exact hk
  intro k ok hok hk e he hb
  by_cases ek : i = k
  · subst ek
    rw [ho] at hok
    cases hok
    exact up _ (hd e he hb)
  · rw [getD_set_ne true ek] at hk
    exact up _ (h k ok hok hk e he hb)
/-- The state inside the region. -/
structure TInvC (ops : Array Oper) (a0 : Act) (R : Array Bool → World → Prop) (T : Nat → Array Bool → Value → World → Prop) (n : Nat) (listed : Array Bool) (a : Act) (w : World) : Prop where
  world : R listed w
  dn : Dn ops listed
  size : a.tmps.size = a0.tmps.size
  defers : a.defers = a0.defers
  rest : ∀ t, t ∉ ops.toList.filterMap (·.dst) → a.tmps.getD t undef = a0.tmps.getD t undef
  keep : ∀ t, (∀ j oj, ops[j]? = some oj → oj.dst = some t → listed.getD j true = false) → a.tmps.getD t undef = a0.tmps.getD t undef
  typed : ∀ i o d, ops[i]? = some o → listed.getD i true = true → o.dst = some d → T i listed (a.tmps.getD d undef) w
  bare : ∀ i o, ops[i]? = some o → listed.getD i true = true → o.dst = none → T i listed undef w

theorem wp_typedC {a0 : Act} {Q : Exit → Act → World → Prop} (hok : typedOk ops a0.tmps.size = true) {R : Array Bool → World → Prop} {T : Nat → Array Bool → Value → World → Prop} {St : Nat → World → World → Prop}
    (hT : ∀ i j (L : Array Bool) v w w', i ≠ j → i < ops.size → L.size = ops.size → L.getD i true = false → (∀ o, ops[i]? = some o → ∀ e ∈ o.after, Region.binds .any e = true → L.getD e.on true = true) → Dn ops L → L.getD j true = true → St i w w' → T j L v w → T j (L.setIfInBounds i true) v w')
    (hop : ∀ i o, ops[i]? = some o → ∀ (a : Act) n w (L : Array Bool), n < ops.size → L.size = ops.size → L.getD i true = false → (∀ e ∈ o.after, Region.binds .any e = true → L.getD e.on true = true) → Dn ops L → R L w → (∀ t, t ∉ ops.toList.filterMap (·.dst) → a.tmps.getD t undef = a0.tmps.getD t undef) →
      (∀ j oj d, (∃ e ∈ o.after, Region.binds .any e = true ∧ e.on = j) → ops[j]? = some oj → oj.dst = some d → T j L (a.tmps.getD d undef) w) →
      (∀ t, (∀ j oj, ops[j]? = some oj → oj.dst = some t → L.getD j true = false) → a.tmps.getD t undef = a0.tmps.getD t undef) →
      Yields P o a w fun v w' => (o.dst.isSome = true → T i (L.setIfInBounds i true) v w') ∧ (o.dst = none → T i (L.setIfInBounds i true) undef w') ∧ R (L.setIfInBounds i true) w' ∧ St i w w')
    (hend : ∀ a w, TInvC ops a0 R T ops.size (Array.replicate ops.size true) a w → Q .normal a w) :
    ∀ (fuel n : Nat) (listed : Array Bool) (a : Act) (w : World), n + fuel = ops.size → listed.size = ops.size → unl listed ops.size = fuel → TInvC ops a0 R T n listed a w → wpAny P .any ops Q fuel listed a w := by
  simp only [typedOk, Bool.and_eq_true, List.all_eq_true, decide_eq_true_eq] at hok
  obtain ⟨⟨hg, hnd⟩, hb⟩ := hok
  have hback : ∀ i o, ops[i]? = some o → ∀ e ∈ o.after, Region.binds .any e = true → e.on < i := fun i o ho e he hbi => by
    have hi : i < ops.size := (Array.getElem?_eq_some_iff.1 ho).1
    have h1 := hb i (by simpa using hi)
    rw [ho] at h1
    simp only at h1
    rw [Array.all_eq_true_iff_forall_mem] at h1
    have h2 := h1 e he
    rw [hbi] at h2
    simpa using h2
  intro fuel
  induction fuel with
  | zero =>
    intro n listed a w hn hsz hu hI
    have hall : ∀ i, i < ops.size → listed.getD i true = true := fun i hi => unl_zero hu hi
    have hrep : listed = Array.replicate ops.size true := by
      apply Array.ext (by simpa using hsz)
      intro i h1 h2
      have := hall i (by omega)
      simpa [Array.getD, h1] using this
    refine ⟨?_, ?_⟩
    · cases hr : Region.ready .any ops listed with
      | nil => rfl
      | cons j l =>
        have hm : j ∈ Region.ready .any ops listed := by rw [hr]; simp
        obtain ⟨h1, o, ho, _⟩ := mem_ready.1 hm
        rw [hall j (Array.getElem?_eq_some_iff.1 ho).1] at h1
        cases h1
    · obtain rfl : n = ops.size := by omega
      exact hend a w ⟨hrep ▸ hI.world, hrep ▸ hI.dn, hI.size, hI.defers, hI.rest, hrep ▸ hI.keep, fun i o d ho _ hd => (hrep ▸ hI.typed i o d ho (hall i (Array.getElem?_eq_some_iff.1 ho).1) hd : T i (Array.replicate ops.size true) _ _), fun i o ho _ hd => (hrep ▸ hI.bare i o ho (hall i (Array.getElem?_eq_some_iff.1 ho).1) hd : T i (Array.replicate ops.size true) _ _)⟩
  | succ fuel ih =>
    intro n listed a w hn hsz hu hI
    refine ⟨fun h0 => absurd h0 (ready_some hback (by omega) hsz), fun i hi => ?_⟩
    obtain ⟨h1, o, ho, hall⟩ := mem_ready.1 hi
    have hil : i < ops.size := (Array.getElem?_eq_some_iff.1 ho).1
    have hgo := hg o (by exact List.mem_of_getElem? (by simpa using ho))
    have hguard : o.guard = none := by simpa using hgo.1
    unfold wpOp
    simp only [ho, Region.wanted, hguard, if_true]
    have hdl : ∀ e ∈ o.after, Region.binds .any e = true → listed.getD e.on true = true := fun e he hbe => by
      have := hall e he hbe
      simp only [Array.getD] at this ⊢
      split at this
      · rename_i h; simp [h] at this ⊢; exact this
      · cases this
    have hdeps0 := hdl
    refine .inl (wp_of_yields (hop i o ho a n w listed (by omega) hsz h1 hdl hI.dn hI.world hI.rest (fun j oj d ⟨e, he, hbe, hej⟩ hoj hd => ?_) hI.keep) ?_)
    · refine hI.typed j oj d hoj ?_ hd
      have := hdl e he hbe
      rwa [hej] at this
    · intro v w' ⟨hv, hv0, hR, hS⟩
      have hu' := unl_set h1 ops.size hil
      refine ih (n + 1) _ _ _ (by omega) (by simpa using hsz) (by omega) ⟨hR, hI.dn.set ho hsz hdl, ?_, ?_, fun t ht => ?_, fun t ht => ?_, fun j oj d hoj hl hd => ?_, fun j oj hoj hl hd => ?_⟩
      · cases hdst : o.dst with
        | none => simpa [Act.put] using hI.size
        | some d => simpa [Act.put] using hI.size
      · cases hdst : o.dst with
        | none => simpa [Act.put] using hI.defers
        | some d => simpa [Act.put] using hI.defers
      · rw [← hI.rest t ht]
        cases hdst : o.dst with
        | none => simp [Act.put]
        | some d =>
          have : d ≠ t := fun e => ht (by subst e; exact List.mem_filterMap.2 ⟨o, List.mem_of_getElem? (by simpa using ho), hdst⟩)
          show (a.tmps.setIfInBounds d v).getD t undef = _
          exact getD_set_other this
      · have hi1 : (listed.setIfInBounds i true).getD i true = true := getD_set_self true (by rw [hsz]; exact hil)
        rw [← hI.keep t (fun j oj hoj hd => by
          by_cases e : i = j
          · subst e
            have := ht i oj hoj hd
            rw [hi1] at this
            cases this
          · have := ht j oj hoj hd
            rwa [getD_set_ne true e] at this)]
        cases hdst : o.dst with
        | none => simp [Act.put]
        | some d =>
          have : d ≠ t := fun e => by
            subst e
            have := ht i o ho hdst
            rw [hi1] at this
            cases this
          show (a.tmps.setIfInBounds d v).getD t undef = _
          exact getD_set_other this
      · by_cases e : j = i
        · subst e
          rw [ho] at hoj
          cases hoj
          have hdl : d < a.tmps.size := by
            have := hgo.2
            rw [hd] at this
            rw [hI.size]
            simpa using this
          rw [hd]
          have hx : (a.put (some d) v).tmps.getD d undef = v := by simp [Act.put, Array.getD, hdl]
          rw [hx]
          exact hv (by rw [hd]; rfl)
        · rw [getD_set_ne true (fun e' => e e'.symm)] at hl
          have h3 := hT i j listed _ w w' (fun e' => e e'.symm) hil hsz h1 (fun o' ho' => by rw [ho] at ho'; cases ho'; exact hdeps0) hI.dn hl hS (hI.typed j oj d hoj hl hd)
          cases hdst : o.dst with
          | none => simpa [Act.put] using h3
          | some d' =>
            have hne : d' ≠ d := fun e' => by
              subst e'
              exact e (dst_ne ops.toList j i oj o d' hnd (by simpa using hoj) (by simpa using ho) hd hdst)
            have hx : (a.put (some d') v).tmps.getD d undef = a.tmps.getD d undef := getD_set_other hne
            rw [hx]
            exact h3
      · by_cases e : j = i
        · subst e
          rw [ho] at hoj
          cases hoj
          exact hv0 hd
        · rw [getD_set_ne true (fun e' => e e'.symm)] at hl
          exact hT i j listed _ w w' (fun e' => e e'.symm) hil hsz h1 (fun o' ho' => by rw [ho] at ho'; cases ho'; exact hdeps0) hI.dn hl hS (hI.bare j oj hoj hl hd)
/-- A region that draws its order, by types. -/
theorem wp_region_typedC {id : Nat} {l : List Oper} {a0 : Act} {w0 : World} {Q : Exit → Act → World → Prop} (ds : List Tmp) (hm : P.follows .mixedOrders = true) (hds : l.filterMap (·.dst) = ds) (hok : typedOk l.toArray a0.tmps.size = true) (R : Array Bool → World → Prop) (T : Nat → Array Bool → Value → World → Prop) (St : Nat → World → World → Prop)
    (h0 : R (Array.replicate l.length false) w0.drew) (hT : ∀ i j (L : Array Bool) v w w', i ≠ j → i < l.length → L.size = l.length → L.getD i true = false → (∀ o, l[i]? = some o → ∀ e ∈ o.after, Region.binds .any e = true → L.getD e.on true = true) → Dn l.toArray L → L.getD j true = true → St i w w' → T j L v w → T j (L.setIfInBounds i true) v w')
    (hop : ∀ i o, l[i]? = some o → ∀ (a : Act) n w (L : Array Bool), n < l.length → L.size = l.length → L.getD i true = false → (∀ e ∈ o.after, Region.binds .any e = true → L.getD e.on true = true) → Dn l.toArray L → R L w → (∀ t, t ∉ ds → a.tmps.getD t undef = a0.tmps.getD t undef) →
      (∀ j oj d, (∃ e ∈ o.after, Region.binds .any e = true ∧ e.on = j) → l[j]? = some oj → oj.dst = some d → T j L (a.tmps.getD d undef) w) →
      (∀ t, (∀ j oj, l[j]? = some oj → oj.dst = some t → L.getD j true = false) → a.tmps.getD t undef = a0.tmps.getD t undef) →
      Yields P o a w fun v w' => (o.dst.isSome = true → T i (L.setIfInBounds i true) v w') ∧ (o.dst = none → T i (L.setIfInBounds i true) undef w') ∧ R (L.setIfInBounds i true) w' ∧ St i w w')
    (hend : ∀ a w, R (Array.replicate l.length true) w → a.tmps.size = a0.tmps.size → a.defers = a0.defers → (∀ t, t ∉ ds → a.tmps.getD t undef = a0.tmps.getD t undef) → (∀ i o d, l[i]? = some o → o.dst = some d → T i (Array.replicate l.length true) (a.tmps.getD d undef) w) → (∀ i o, l[i]? = some o → o.dst = none → T i (Array.replicate l.length true) undef w) → Q .normal a w) :
    (Code.region id l.toArray true).wp P Q a0 w0 := by
  subst hds
  refine wp_region_any hm ?_
  refine wp_typedC (P := P) (ops := l.toArray) (a0 := a0) (Q := Q) hok (R := R) (T := T) (St := St) (by simpa using hT) (fun i o ho => ?_) (fun a w hI => ?_) l.length 0 _ a0 _ (by simp) (by simp) (by simpa using unl_start l.length) ⟨h0, fun i o ho hl => ?_, rfl, rfl, fun _ _ => rfl, fun _ _ => rfl, fun i o d ho hl => ?_, fun i o ho hl => ?_⟩
  · have := hop i o (by simpa using ho)
    simpa using this
  · have hl : ∀ i o, l[i]? = some o → (Array.replicate l.toArray.size true).getD i true = true := fun i o ho => by
      have : i < l.length := (List.getElem?_eq_some_iff.1 ho).1
      simp [Array.getD, this]
    exact hend a w (by simpa using hI.world) hI.size hI.defers (by simpa using hI.rest) (fun i o d ho hd => by simpa using hI.typed i o d (by simpa using ho) (hl i o ho) hd) (fun i o ho hd => by simpa using hI.bare i o (by simpa using ho) (hl i o ho) hd)
  · have : i < l.length := by have := (Array.getElem?_eq_some_iff.1 ho).1; simpa using this
    simp [Array.getD, this] at hl
  · have : i < l.length := by have := (Array.getElem?_eq_some_iff.1 ho).1; simpa using this
    simp [Array.getD, this] at hl
  · have : i < l.length := by have := (Array.getElem?_eq_some_iff.1 ho).1; simpa using this
    simp [Array.getD, this] at hl
end
end Go.Proofs.YtiggckhlbklngaaDoor
