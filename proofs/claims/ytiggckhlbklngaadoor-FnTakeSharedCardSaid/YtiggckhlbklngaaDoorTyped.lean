/- A region that draws its order, each operation by what is known of what it yields ('typed'): one proof an operation serves every order. Nothing of the program is used here. -/
import Derived.Test.YtiggckhlbklngaaDoorBase
import Derived.Orders
namespace Go.Proofs.YtiggckhlbklngaaDoor
open Go.RowKit

/-- What an operation yields, and the world behind it. -/
def Yields (P : Program) (o : Oper) (a : Act) (w : World) (φ : Value → World → Prop) : Prop :=
  match (execOp a.eval o).run P w with
  | .ok (.value v) w' => φ v w'
  | .ok .skip w' => φ undef w'
  | .ok (.enter f args) w' => Calls P f args w' fun e w'' => ∃ v, e = .returned v ∧ φ v w''
  | _ => False
theorem wp_of_yields {P : Program} {o : Oper} {a : Act} {w : World} {φ : Value → World → Prop} {K : Act → World → Prop} {Q : Exit → Act → World → Prop} (h : Yields P o a w φ) (hK : ∀ v w', φ v w' → K (a.put o.dst v) w') : o.wp P a w K Q := by
  unfold Yields at h
  unfold Oper.wp
  generalize (execOp a.eval o).run P w = r at *
  cases r with
  | ok n w' =>
    cases n <;> simp only [Oper.upon] at h ⊢
    case value v => exact hK _ _ h
    case skip => exact hK _ _ h
    case enter f args => exact h.mono fun e w'' ⟨v, he, hv⟩ => by subst he; exact hK _ _ hv
  | halt x w' => exact h.elim

section
variable {P : Program} {ops : Array Oper}
def unl (listed : Array Bool) (n : Nat) : Nat := (List.range n).countP fun i => listed.getD i true == false
theorem unl_succ (listed : Array Bool) (n : Nat) : unl listed (n + 1) = unl listed n + if listed.getD n true = false then 1 else 0 := by
  unfold unl
  rw [List.range_succ, List.countP_append, List.countP_singleton]
  simp
theorem getD_set_self {listed : Array Bool} {i : Nat} (d : Bool) (h : i < listed.size) : (listed.setIfInBounds i true).getD i d = true := by
  simp [Array.getD, h]
theorem unl_set {listed : Array Bool} {i : Nat} (hi : listed.getD i true = false) : ∀ n, i < n → unl listed n = unl (listed.setIfInBounds i true) n + 1 := by
  have hs : i < listed.size := by
    rcases Nat.lt_or_ge i listed.size with h | h
    · exact h
    · simp [Array.getD, Nat.not_lt.2 h] at hi
  have hlow : ∀ n, n ≤ i → unl listed n = unl (listed.setIfInBounds i true) n := by
    intro n
    induction n with
    | zero => intro _; rfl
    | succ n ih =>
      intro hn
      rw [unl_succ, unl_succ, ih (by omega), getD_set_ne true (by omega)]
  intro n
  induction n with
  | zero => intro h; omega
  | succ n ih =>
    intro hn
    rw [unl_succ, unl_succ]
    by_cases e : i = n
    · subst e
      rw [hi, getD_set_self true hs, hlow i (Nat.le_refl _)]
      simp
    · rw [ih (by omega), getD_set_ne true e]
      omega
theorem unl_start (n : Nat) : unl (Array.replicate n false) n = n := by
  have : ∀ m, m ≤ n → unl (Array.replicate n false) m = m := by
    intro m
    induction m with
    | zero => intro _; rfl
    | succ m ih =>
      intro hm
      rw [unl_succ, ih (by omega), if_pos]
      simp [Array.getD, show m < n by omega]
  exact this n (Nat.le_refl _)
theorem unl_zero {listed : Array Bool} {n : Nat} (h : unl listed n = 0) {i : Nat} (hi : i < n) : listed.getD i true = true := by
  unfold unl at h
  rw [List.countP_eq_zero] at h
  have := h i (by simpa using hi)
  simpa using this
theorem least_of {p : Nat → Prop} (i : Nat) (h : p i) : ∃ j, j ≤ i ∧ p j ∧ ∀ k, k < j → ¬ p k := by
  induction i using Nat.strongRecOn with
  | _ i ih =>
    by_cases hx : ∃ k, k < i ∧ p k
    · obtain ⟨k, hk, hp⟩ := hx
      obtain ⟨j, hj, h1, h2⟩ := ih k hk hp
      exact ⟨j, by omega, h1, h2⟩
    · exact ⟨i, Nat.le_refl _, h, fun k hk hp => hx ⟨k, hk, hp⟩⟩
theorem ready_some {listed : Array Bool} (hback : ∀ i o, ops[i]? = some o → ∀ e ∈ o.after, Region.binds .any e = true → e.on < i) (hn : unl listed ops.size ≠ 0) (hsz : listed.size = ops.size) : Region.ready .any ops listed ≠ [] := by
  have : ∃ i, i < ops.size ∧ listed.getD i true = false := by
    apply Classical.byContradiction
    intro hx
    apply hn
    unfold unl
    rw [List.countP_eq_zero]
    intro i hi
    simp only [List.mem_range] at hi
    cases hg : listed.getD i true with
    | true => simp
    | false => exact absurd ⟨i, hi, hg⟩ hx
  obtain ⟨i, hi⟩ := this
  obtain ⟨j, hj, h1, h2⟩ := least_of (p := fun i => i < ops.size ∧ listed.getD i true = false) i hi
  intro he
  have hm : j ∈ Region.ready .any ops listed := by
    refine mem_ready.2 ⟨h1.2, ops[j], by simp [h1.1], fun e hee hb => ?_⟩
    have hlt := hback j ops[j] (by simp [h1.1]) e hee hb
    have hnp := h2 e.on hlt
    cases hg : listed.getD e.on true with
    | true =>
      simp only [Array.getD] at hg ⊢
      split at hg
      · rename_i h; simp [h] at hg ⊢; exact hg
      · rename_i h; omega
    | false => exact absurd ⟨by omega, hg⟩ hnp
  rw [he] at hm
  cases hm

theorem getD_set_other {xs : Array Value} {d t : Nat} {v u : Value} (h : d ≠ t) : (xs.setIfInBounds d v).getD t u = xs.getD t u := by
  simp [Array.getD_eq_getD_getElem?, h]
/-- What is asked of the region's form: no guards; its temporaries are there, each written once; what an operation waits for stands ahead of it. -/
def typedOk (ops : Array Oper) (sz : Nat) : Bool :=
  ops.toList.all (fun o => o.guard.isNone && (match o.dst with | some d => decide (d < sz) | none => true)) &&
  decide (ops.toList.filterMap (·.dst)).Nodup &&
  (List.range ops.size).all fun i => match ops[i]? with | some o => o.after.all fun e => !Region.binds .any e || decide (e.on < i) | none => true
theorem dst_ne : ∀ (l : List Oper) (i j : Nat) (oi oj : Oper) (d : Tmp), (l.filterMap (·.dst)).Nodup → l[i]? = some oi → l[j]? = some oj → oi.dst = some d → oj.dst = some d → i = j
  | [], i, _, _, _, _, _, hi, _, _, _ => by simp at hi
  | o :: l, i, j, oi, oj, d, hn, hi, hj, h1, h2 => by
    have hmem : ∀ (k : Nat) (ok : Oper), l[k]? = some ok → ok.dst = some d → d ∈ l.filterMap (·.dst) := fun k ok hk hd => List.mem_filterMap.2 ⟨ok, List.mem_of_getElem? hk, hd⟩
    have hl : (l.filterMap (·.dst)).Nodup := by
      rw [List.filterMap_cons] at hn
      split at hn
      · exact hn
      · exact (List.nodup_cons.1 hn).2
    have hhead : o.dst = some d → d ∉ l.filterMap (·.dst) := fun ho => by
      rw [List.filterMap_cons, ho] at hn
      exact (List.nodup_cons.1 hn).1
    cases i with
    | zero =>
      simp at hi
      subst hi
      cases j with
      | zero => rfl
      | succ j => exact absurd (hmem j oj (by simpa using hj) h2) (hhead h1)
    | succ i =>
      cases j with
      | zero =>
        simp at hj
        subst hj
        exact absurd (hmem i oi (by simpa using hi) h1) (hhead h2)
      | succ j => rw [dst_ne l i j oi oj d hl (by simpa using hi) (by simpa using hj) h1 h2]

/-- The state inside the region. -/
structure TInv (ops : Array Oper) (a0 : Act) (R : Nat → World → Prop) (T : Nat → Value → World → Prop) (n : Nat) (listed : Array Bool) (a : Act) (w : World) : Prop where
  world : R n w
  size : a.tmps.size = a0.tmps.size
  defers : a.defers = a0.defers
  rest : ∀ t, t ∉ ops.toList.filterMap (·.dst) → a.tmps.getD t undef = a0.tmps.getD t undef
  typed : ∀ i o d, ops[i]? = some o → listed.getD i true = true → o.dst = some d → T i (a.tmps.getD d undef) w
  bare : ∀ i o, ops[i]? = some o → listed.getD i true = true → o.dst = none → T i undef w

theorem wp_typed {a0 : Act} {Q : Exit → Act → World → Prop} (hok : typedOk ops a0.tmps.size = true) {R : Nat → World → Prop} {T : Nat → Value → World → Prop} {St : World → World → Prop}
    (hT : ∀ i v w w', St w w' → T i v w → T i v w')
    (hop : ∀ i o, ops[i]? = some o → ∀ (a : Act) n w, n < ops.size → R n w → (∀ t, t ∉ ops.toList.filterMap (·.dst) → a.tmps.getD t undef = a0.tmps.getD t undef) →
      (∀ j oj d, (∃ e ∈ o.after, Region.binds .any e = true ∧ e.on = j) → ops[j]? = some oj → oj.dst = some d → T j (a.tmps.getD d undef) w) →
      Yields P o a w fun v w' => (o.dst.isSome = true → T i v w') ∧ (o.dst = none → T i undef w') ∧ R (n + 1) w' ∧ St w w')
    (hend : ∀ a w, TInv ops a0 R T ops.size (Array.replicate ops.size true) a w → Q .normal a w) :
    ∀ (fuel n : Nat) (listed : Array Bool) (a : Act) (w : World), n + fuel = ops.size → listed.size = ops.size → unl listed ops.size = fuel → TInv ops a0 R T n listed a w → wpAny P .any ops Q fuel listed a w := by
  simp only [typedOk, Bool.and_eq_true, List.all_eq_true, decide_eq_true_eq] at hok
  obtain ⟨⟨hg, hnd⟩, hb⟩ := hok
  have hback : ∀ i o, ops[i]? = some o → ∀ e ∈ o.after, Region.binds .any e = true → e.on < i := fun i o ho e he hbi => by
    have hi : i < ops.size := (Array.getElem?_eq_some_iff.1 ho).1
    have h1 := hb i (by simpa using hi)
    rw [ho] at h1
    simp only at h1
    rw [Array.all_eq_true_iff_forall_mem] at h1
    have h2 := h1 e he
    rw [hbi] at h2
    simpa using h2
  intro fuel
  induction fuel with
  | zero =>
    intro n listed a w hn hsz hu hI
    have hall : ∀ i, i < ops.size → listed.getD i true = true := fun i hi => unl_zero hu hi
    refine ⟨?_, ?_⟩
    · cases hr : Region.ready .any ops listed with
      | nil => rfl
      | cons j l =>
        have hm : j ∈ Region.ready .any ops listed := by rw [hr]; simp
        obtain ⟨h1, o, ho, _⟩ := mem_ready.1 hm
        rw [hall j (Array.getElem?_eq_some_iff.1 ho).1] at h1
        cases h1
    · obtain rfl : n = ops.size := by omega
      exact hend a w ⟨hI.world, hI.size, hI.defers, hI.rest, fun i o d ho _ hd => hI.typed i o d ho (hall i (Array.getElem?_eq_some_iff.1 ho).1) hd, fun i o ho _ hd => hI.bare i o ho (hall i (Array.getElem?_eq_some_iff.1 ho).1) hd⟩
  | succ fuel ih =>
    intro n listed a w hn hsz hu hI
    refine ⟨fun h0 => absurd h0 (ready_some hback (by omega) hsz), fun i hi => ?_⟩
    obtain ⟨h1, o, ho, hall⟩ := mem_ready.1 hi
    have hil : i < ops.size := (Array.getElem?_eq_some_iff.1 ho).1
    have hgo := hg o (by exact List.mem_of_getElem? (by simpa using ho))
    have hguard : o.guard = none := by simpa using hgo.1
    unfold wpOp
    simp only [ho, Region.wanted, hguard, if_true]
    refine .inl (wp_of_yields (hop i o ho a n w (by omega) hI.world hI.rest (fun j oj d ⟨e, he, hbe, hej⟩ hoj hd => ?_)) ?_)
    · refine hI.typed j oj d hoj ?_ hd
      have := hall e he hbe
      rw [hej] at this
      simp only [Array.getD] at this ⊢
      split at this
      · rename_i h; simp [h] at this ⊢; exact this
      · cases this
    · intro v w' ⟨hv, hv0, hR, hS⟩
      have hu' := unl_set h1 ops.size hil
      refine ih (n + 1) _ _ _ (by omega) (by simpa using hsz) (by omega) ⟨hR, ?_, ?_, fun t ht => ?_, fun j oj d hoj hl hd => ?_, fun j oj hoj hl hd => ?_⟩
      · cases hdst : o.dst with
        | none => simpa [Act.put] using hI.size
        | some d => simpa [Act.put] using hI.size
      · cases hdst : o.dst with
        | none => simpa [Act.put] using hI.defers
        | some d => simpa [Act.put] using hI.defers
      · rw [← hI.rest t ht]
        cases hdst : o.dst with
        | none => simp [Act.put]
        | some d =>
          have : d ≠ t := fun e => ht (by subst e; exact List.mem_filterMap.2 ⟨o, List.mem_of_getElem? (by simpa using ho), hdst⟩)
          show (a.tmps.setIfInBounds d v).getD t undef = _
          exact getD_set_other this
      · by_cases e : j = i
        · subst e
          rw [ho] at hoj
          cases hoj
          have hdl : d < a.tmps.size := by
            have := hgo.2
            rw [hd] at this
            rw [hI.size]
            simpa using this
          rw [hd]
          have hx : (a.put (some d) v).tmps.getD d undef = v := by simp [Act.put, Array.getD, hdl]
          rw [hx]
          exact hv (by rw [hd]; rfl)
        · rw [getD_set_ne true (fun e' => e e'.symm)] at hl
          have h3 := hT j _ w w' hS (hI.typed j oj d hoj hl hd)
          cases hdst : o.dst with
          | none => simpa [Act.put] using h3
          | some d' =>
            have hne : d' ≠ d := fun e' => by
              subst e'
              exact e (dst_ne ops.toList j i oj o d' hnd (by simpa using hoj) (by simpa using ho) hd hdst)
            have hx : (a.put (some d') v).tmps.getD d undef = a.tmps.getD d undef := getD_set_other hne
            rw [hx]
            exact h3
      · by_cases e : j = i
        · subst e
          rw [ho] at hoj
          cases hoj
          exact hv0 hd
        · rw [getD_set_ne true (fun e' => e e'.symm)] at hl
          exact hT j _ w w' hS (hI.bare j oj hoj hl hd)
/-- A region that draws its order, by types. -/
theorem wp_region_typed {id : Nat} {l : List Oper} {a0 : Act} {w0 : World} {Q : Exit → Act → World → Prop} (ds : List Tmp) (hm : P.follows .mixedOrders = true) (hds : l.filterMap (·.dst) = ds) (hok : typedOk l.toArray a0.tmps.size = true) (R : Nat → World → Prop) (T : Nat → Value → World → Prop) (St : World → World → Prop)
    (h0 : R 0 w0.drew) (hT : ∀ i v w w', St w w' → T i v w → T i v w')
    (hop : ∀ i o, l[i]? = some o → ∀ (a : Act) n w, n < l.length → R n w → (∀ t, t ∉ ds → a.tmps.getD t undef = a0.tmps.getD t undef) →
      (∀ j oj d, (∃ e ∈ o.after, Region.binds .any e = true ∧ e.on = j) → l[j]? = some oj → oj.dst = some d → T j (a.tmps.getD d undef) w) →
      Yields P o a w fun v w' => (o.dst.isSome = true → T i v w') ∧ (o.dst = none → T i undef w') ∧ R (n + 1) w' ∧ St w w')
    (hend : ∀ a w, R l.length w → a.tmps.size = a0.tmps.size → a.defers = a0.defers → (∀ t, t ∉ ds → a.tmps.getD t undef = a0.tmps.getD t undef) → (∀ i o d, l[i]? = some o → o.dst = some d → T i (a.tmps.getD d undef) w) → (∀ i o, l[i]? = some o → o.dst = none → T i undef w) → Q .normal a w) :
    (Code.region id l.toArray true).wp P Q a0 w0 := by
  subst hds
  refine wp_region_any hm ?_
  refine wp_typed (P := P) (ops := l.toArray) (a0 := a0) (Q := Q) hok (R := R) (T := T) (St := St) hT (fun i o ho => ?_) (fun a w hI => ?_) l.length 0 _ a0 _ (by simp) (by simp) (by simpa using unl_start l.length) ⟨h0, rfl, rfl, fun _ _ => rfl, fun i o d ho hl => ?_, fun i o ho hl => ?_⟩
  · have := hop i o (by simpa using ho)
    simpa using this
  · have hl : ∀ i o, l[i]? = some o → (Array.replicate l.toArray.size true).getD i true = true := fun i o ho => by
      have : i < l.length := (List.getElem?_eq_some_iff.1 ho).1
      simp [Array.getD, this]
    exact hend a w (by simpa using hI.world) hI.size hI.defers (by simpa using hI.rest) (fun i o d ho hd => hI.typed i o d (by simpa using ho) (hl i o ho) hd) (fun i o ho hd => hI.bare i o (by simpa using ho) (hl i o ho) hd)
  · have : i < l.length := by have := (Array.getElem?_eq_some_iff.1 ho).1; simpa using this
    simp [Array.getD, this] at hl
  · have : i < l.length := by have := (Array.getElem?_eq_some_iff.1 ho).1; simpa using this
    simp [Array.getD, this] at hl
end
theorem act_puts_ : ∀ (l : List (Tmp × Value)) (a a0 : Act), a.tmps.size = a0.tmps.size → a.defers = a0.defers → (∀ t, t ∉ l.map (·.1) → a.tmps.getD t undef = a0.tmps.getD t undef) → ((l.map (·.1)).Nodup ∧ ∀ d ∈ l.map (·.1), d < a0.tmps.size) →
    (∀ p ∈ l, a.tmps.getD p.1 undef = p.2) → a = l.foldl (fun a p => a.put (some p.1) p.2) a0
  | [], a, a0, hs, hd, hrest, _, _ => by
    obtain ⟨tm, df⟩ := a
    obtain ⟨tm0, df0⟩ := a0
    simp only at hs hd hrest
    subst hd
    simp only [List.foldl_nil]
    congr 1
    apply Array.ext hs
    intro i h1 h2
    have := hrest i (by simp)
    simpa [Array.getD, h1, h2] using this
  | (d, v) :: l, a, a0, hs, hd, hrest, hnd, hv => by
    rw [List.foldl_cons]
    have hdl : d < a0.tmps.size := hnd.2 d (by simp)
    have hnd' : d ∉ l.map (·.1) ∧ (l.map (·.1)).Nodup := List.nodup_cons.1 hnd.1
    have hsz : (a0.put (some d) v).tmps.size = a0.tmps.size := by simp [Act.put]
    refine act_puts_ l a (a0.put (some d) v) (by rw [hs, hsz]) (by rw [hd]; rfl) (fun t ht => ?_) ⟨hnd'.2, fun e he => by rw [hsz]; exact hnd.2 e (by simp only [List.map_cons]; exact List.mem_cons_of_mem _ he)⟩ (fun q hq => hv q (List.mem_cons_of_mem _ hq))
    by_cases e : t = d
    · subst e
      have h1 := hv (t, v) (by simp)
      simp only at h1
      rw [h1]
      show v = (a0.tmps.setIfInBounds t v).getD t undef
      simp [Array.getD, hdl]
    · have h1 := hrest t (by simp only [List.map_cons, List.mem_cons, not_or]; exact ⟨e, ht⟩)
      rw [h1]
      exact (getD_set_other (fun e' => e e'.symm)).symm
/-- The state behind such a region: the temporaries that it wrote are known, the others as before. -/
theorem act_puts {a a0 : Act} {ds : List Tmp} (hs : a.tmps.size = a0.tmps.size) (hd : a.defers = a0.defers) (hrest : ∀ t, t ∉ ds → a.tmps.getD t undef = a0.tmps.getD t undef) (l : List (Tmp × Value)) (hds : l.map (·.1) = ds) (hnd : (ds.Nodup ∧ ∀ d ∈ ds, d < a0.tmps.size))
    (hv : ∀ p ∈ l, a.tmps.getD p.1 undef = p.2) : a = l.foldl (fun a p => a.put (some p.1) p.2) a0 := by
  subst hds
  exact act_puts_ l a a0 hs hd hrest hnd hv
end Go.Proofs.YtiggckhlbklngaaDoor
