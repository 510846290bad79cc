/- FnDeskLevel: for every argument that can be read the law returns true, and the arguments read as before; the listed tables are tied to the program's text. No condition. -/
import Derived.Test.YtcdopfdgknglfaaGreatDoorCZA
import Derived.Test.YtcdopfdgknglfaaGreatDoorCards
import Derived.Test.YtcdopfdgknglfaaGreatDoorTie
import Derived.SevenTiedAt
import Derived.LaidMore
import Derived.Lay
import Derived.Stop.Joined
namespace Go.Proofs.YtcdopfdgknglfaaGreatDoor.FnDeskLevel
open Go.RowKit Go.ChangeShapes Go.WideShapes Go.ChangeAt Go.Proofs.YtcdopfdgknglfaaGreatDoor
set_option linter.unusedVariables false
set_option maxRecDepth 100000
theorem lifted (os : Os) (started : os.Started) (H : Type) (enc : TypeId × Value → H) :
    ReturnsInHanded {} Tryz.checked os 5 .any (fun w args => (Rows.fnDeskLevelSpec.pre enc Tryz.prog Tryz.f5 [] false w args ∧ laidMetH Tryz.prog Rows.fnDeskLevelRow.laid w) ∧ sizedMet enc Tryz.prog Tryz.f5 (OpenSpec.ofChange Rows.fnDeskLevelSpec) false w args)
      (Rows.fnDeskLevelSpec.post enc Tryz.prog Tryz.f5 false true false false) := by
  refine tF (C := Tryz.checked) (X := fun w _ => laidMetH Tryz.prog Rows.fnDeskLevelRow.laid w) (fun _ _ _ hh h => h.of_heap hh) MW started (by kernel_rfl) Tryz.func5
    (ChangeSpec.witness_shaped (enc := enc) (C := Tryz.checked) (os := os) (X := fun w _ => laidMetH Tryz.prog Rows.fnDeskLevelRow.laid w) false (World.laidAll Tryz.prog os Rows.fnDeskLevelRow.laid) #[.slice none 0 0] 8 (World.laidAll_os _ _ _)
      (World.shaped_of_ZipB (by kernel_rfl) (by kernel_rfl)) (by kernel_rfl) (by kernel_rfl) (by kernel_rfl)
      (by rw [MakeChecks.laidMetH_plain _ _ _ (by kernel_rfl)]; exact laidMet_laidAll _ (by kernel_rfl) (by kernel_rfl))) ?_
  intro W base args ds gs before hval0 hW hL hsh
  have hval : ∀ (j : Nat) t v, Tryz.f5.params[j]? = some t → args[j]? = some v → Value.okWide Tryz.prog W .any base t v := hval0
  have hW' := hW
  obtain ⟨p, q, ZP, hV, rfl, hfz, hnd⟩ := hW
  have hA : DataW.TrodAll enc Tryz.prog W 0 (fun _ => true) true Tryz.f5.params.toList args.toList ds p := ZP
  rw [Tryz.params5] at hA hval
  obtain ⟨v0, vs0, d0, ds0, p0, q0, hargs, rfl, rfl, t0, r0⟩ := trodAll_cons hA
  obtain ⟨rfl, rfl, rfl⟩ := trodAll_nil r0
  obtain rfl : args = #[v0] := by cases args; simp_all
  obtain ⟨rfl, rfl⟩ := trodVars_none hV
  have k0 := t0
  have lt0 : ∀ x ∈ p0, x.block < W.heap.size := by obtain ⟨m, hm⟩ := k0; exact DataW.trod_lt m _ _ _ hm
  obtain ⟨a0, n0, c0, rfl⟩ := okWide_slice Tryz.underlying22 (hval 0 22 v0 rfl rfl)
  obtain ⟨Qn, s0, l0, f0, g0, h0⟩ := Ir t0
  clear ZP hval0
  refine (xR W s0 l0 f0 (fun A n c h => by injection h with e1 e2 e3; subst e2 e3; exact ⟨g0, h0⟩) (FN (laid := Rows.fnDeskLevelRow.laid) (by kernel_rfl) (by unfold Rows.fnDeskLevelRow; simp) (by unfold Rows.fnDeskLevelRow; simp) hL hsh)).mono fun e W' ⟨he, bel⟩ => ?_
  subst he
  exact ⟨_, rfl, _, _, _, [], _, [], hW', trodAll_mk1 (shut_bool Tryz.underlying4 _), (trodAll_cons_mk (Below.trod NM (by kernel_rfl) (of_decide_eq_true (by kernel_rfl)) k0 bel lt0) trodAll_mk0), rfl, Below.frame bel _, fun h => by cases h⟩
abbrev cc := Rows.fnDeskLevelRow
abbrev ss := Rows.fnDeskLevelSpec
noncomputable abbrev ff := Tryz.f5
theorem q1 : (cc.wf (OpenSpec.ofChange ss)) = true := by kernel_rfl
theorem q2 : (laidOutB Tryz.prog) = true := by kernel_rfl
theorem q3 : (mapsRowed Tryz.prog) = true := by kernel_rfl
theorem q4 : (ff.params.all (Tryz.prog.readableRec ·)) = true := by kernel_rfl
theorem q5 : (namedTie Tryz.prog cc.named ss.vars) = true := by kernel_rfl
theorem q6 : (cc.stops == []) = true := by kernel_rfl
theorem q7 : (Tryz.prog.stops == []) = true := by kernel_rfl
theorem q8 : (cc.knobs == []) = true := by kernel_rfl
theorem q9 : (Tryz.prog.stopKnobs == []) = true := by kernel_rfl
theorem q10 : (cc.inPlace == Tryz.prog.inPlace 5) = true := by kernel_rfl
theorem q11 : (cc.unfollowed == Tryz.prog.unfollowed 5) = true := by kernel_rfl
theorem q12 : (cc.recurses == Tryz.prog.recurses 5) = true := by kernel_rfl
theorem q13 : (cc.named == Tryz.prog.varsNamed 5) = true := by kernel_rfl
theorem q14 : (cc.maps == (ff.params.toList ++ ss.plain.varTypes Tryz.prog).any (Tryz.prog.mapsRec ·)) = true := by kernel_rfl
theorem q15 : (cc.ifaces == (ff.params.toList ++ ss.plain.varTypes Tryz.prog).any (Tryz.prog.ifacesRec ·)) = true := by kernel_rfl
theorem q16 : (cc.mapsOut == Tryz.prog.mapsAmong ff.resultTypes.toList) = true := by kernel_rfl
theorem q17 : (cc.loops == (ff.params.toList ++ ss.plain.varTypes Tryz.prog).any (Tryz.prog.loopsFrom ·)) = true := by kernel_rfl
theorem q18 : (cc.wideKeys == (ff.params.toList ++ ss.plain.varTypes Tryz.prog ++ ff.resultTypes.toList).any (Tryz.prog.wideKeysFrom ·)) = true := by kernel_rfl
theorem q19 : (ss.vars.all (Tryz.prog.varReadable ·)) = true := by kernel_rfl
theorem q20 : (ff.resultTypes.all (fun t => Tryz.prog.readableRec t && decide (t < Tryz.prog.types.size))) = true := by kernel_rfl
theorem q21 : (cc.ifacesOut == ff.resultTypes.toList.any (Tryz.prog.ifacesRec ·)) = true := by kernel_rfl
theorem q22 : (cc.loopsOut == ff.resultTypes.toList.any (Tryz.prog.loopsFrom ·)) = true := by kernel_rfl
theorem q23 : (cc.plainKeys == Tryz.prog.plainKeys) = true := by kernel_rfl
theorem q24 : (cc.shortTexts.isNone) = true := by kernel_rfl
theorem q25 : (Tryz.prog.stopsHeard) = true := by kernel_rfl
theorem q26 : (Tryz.prog.mayEnter) = true := by kernel_rfl
theorem q27 : (cc.lifted == Tryz.prog.liftsFinal) = true := by kernel_rfl
theorem q28 : (Tryz.prog.make == some cc.make) = true := by kernel_rfl
theorem q29 : (cc.kinds == (if cc.domain.isEmpty then [] else ff.params.toList.map fun t => match Tryz.prog.underlying t with | some (.int k) => some k | _ => none)) = true := by kernel_rfl
theorem q30 : (cc.pinned == cc.pinnedBy) = true := by kernel_rfl
theorem q31 : (cc.veiled == (ff.params.toList ++ ss.plain.varTypes Tryz.prog ++ ff.resultTypes.toList).any (Tryz.prog.veiledRec ·)) = true := by kernel_rfl
theorem q32 : (cc.veiledFits Tryz.prog ff.params.toList (ff.params.toList ++ ss.plain.varTypes Tryz.prog ++ ff.resultTypes.toList)) = true := by kernel_rfl
theorem j4 {a b : Bool} (h : a = true) (k : b = true) : (a && b) = true := by rw [h, k]; rfl
theorem facts : joinedFacts Tryz.prog 5 Tryz.f5 ss cc = true := by
  unfold joinedFacts
  exact (j4 (j4 (j4 (j4 (j4 (j4 (j4 (j4 (j4 (j4 (j4 (j4 (j4 (j4 (j4 (j4 (j4 (j4 (j4 (j4 (j4 (j4 (j4 (j4 (j4 (j4 (j4 (j4 (j4 (j4 (j4 q1 q2) q3) q4) q5) q6) q7) q8) q9) q10) q11) q12) q13) q14) q15) q16) q17) q18) q19) q20) q21) q22) q23) q24) q25) q26) q27) q28) q29) q30) q31) q32)
theorem r1 : Tryz.prog.funcNamed "loop.example/historychecker/laws.FnDeskLevel" = some 5 := by kernel_rfl
theorem r2 : cc.wfByText (OpenSpec.ofChange ss) = true := by kernel_rfl
theorem r3 : Tryz.pinned.checked.prog.mainIs = some (true, "f1ab527dec57a6b593ddbf87914bf9d8b8b886f2d7364816ec2df722d9ec5284".toList) := by kernel_rfl
theorem r4 : true = Tryz.pinned.checked.prog.looks [] := by kernel_rfl
theorem r5 : ([22].all fun u => !Tryz.prog.wantsStandIn u) = true := by kernel_rfl
theorem r6 : false = cc.goesBy Tryz.pinned.checked.prog := by kernel_rfl
theorem r7 : ff.isInstance Tryz.pinned.checked.prog cc.origin cc.targs := of_decide_eq_true (by kernel_rfl)
theorem r8 : ff.isWrapper Tryz.pinned.checked.prog cc.wrapper cc.mainSum := by unfold Func.isWrapper; first | (rw [if_pos (by decide +kernel)]; kernel_rfl) | (rw [if_neg (by decide +kernel)]; exact ⟨rfl, rfl⟩)
theorem TJ : Rows.fnDeskLevelRow.holds Tryz.pinned (OpenSpec.ofChange Rows.fnDeskLevelSpec) :=
  OpenClaim.holds_of_wide 5 Tryz.f5 rfl rfl rfl rfl rfl rfl rfl ⟨rfl, rfl, rfl, rfl, rfl⟩ rfl rfl rfl rfl rfl r1 Tryz.func5 facts r7 r8
    (fun os started H enc _ => lifted os started H enc)
theorem proved : Rows.FnDeskLevelCardSaid :=
  Claim7.holds_tied_plain_at .later [] [.data, .data, .data, .data, .sentinel, .sentinel, .pinned] true (true, "f1ab527dec57a6b593ddbf87914bf9d8b8b886f2d7364816ec2df722d9ec5284") true
    TJ (fun _ h => by cases h) r2 (fun _ h => by cases h) fnDeskLevel_row_tie rfl ⟨rfl, rfl⟩ r3 rfl
    (fun f fn hf hfn => by
      obtain rfl : f = 5 := Option.some.inj (r1.symm.trans hf) |>.symm
      obtain rfl : fn = Tryz.f5 := (Option.some.inj (Tryz.func5.symm.trans hfn)).symm
      exact ⟨r4, fun j t ht => by
        rw [Tryz.params5] at ht
        have hm : t ∈ [22] := by simpa using Array.mem_of_getElem? ht
        exact (show Tryz.prog.wantsStandIn t = false by simpa using List.all_eq_true.1 r5 t hm)⟩)
    r6
end Go.Proofs.YtcdopfdgknglfaaGreatDoor.FnDeskLevel
