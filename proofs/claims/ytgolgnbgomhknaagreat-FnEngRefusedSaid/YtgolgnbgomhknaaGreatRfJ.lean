/- FnEngRefused returns true at every input; the input reads afterwards as it did. No condition beyond the row. -/
import Derived.Test.YtgolgnbgomhknaaGreatRows
import Derived.Test.YtgolgnbgomhknaaGreatChecked
import Derived.Test.YtgolgnbgomhknaaGreatRfL1
import Derived.WalkKit
import Derived.ProofKit
import Derived.OpenShut
set_option linter.unusedSimpArgs false
set_option maxRecDepth 100000
set_option linter.unusedVariables false
namespace Go.Proofs.YtgolgnbgomhknaaGreat.fnEngRefused
open Go Go.Am Go.ChangeShapes Go.WideShapes Go.ChangeAt Go.RowKit
theorem own : ownKnob Tryz.prog.godebug = none := by kernel_rfl
theorem laidOut : laidOutB Tryz.prog = true := by kernel_rfl
theorem kk (l0 : List Int) (h0 : l0.length ≤ 9223372036854775807) (g0 : ∀ y ∈ l0, u8 y) : FnP Tryz.prog 13 [.c (.sl false 1 (l0.map fun n => [cY n]))] [.c (cB true)] :=
  z0t9.2 (l0, ()) _ true ⟨_, _, rfl, rfl, rfl⟩ (Go.Am.Pl.law_FnEngRefused l0 h0 g0)
theorem contract (H : Type) (enc : TypeId × Value → H) (W : World) (base : Nat) (args : Array Value) (ds gs : List (DataW H)) (before : List MemPlace)
    (hval : ∀ (j : Nat) t v, Tryz.f13.params[j]? = some t → args[j]? = some v → Value.okWide Tryz.prog W .any base t v)
    (hW : DataW.Whole enc Tryz.prog Tryz.f13.params.toList Rows.fnEngRefusedSpec.vars false W args.toList ds gs before) :
    Calls Tryz.prog 13 args W fun e W2 => ∃ v, e = .returned v ∧ Rows.fnEngRefusedSpec.post enc Tryz.prog Tryz.f13 false true false false W args v W2 := by
  have hW1 := hW
  obtain ⟨p, q, hA0, _⟩ := hW
  have hA : DataW.TrodAll enc Tryz.prog W 0 (fun _ => true) true Tryz.f13.params.toList args.toList ds p := hA0
  rw [Tryz.params13] at hA hval
  obtain ⟨v0, vs0, d0, ds0, p0, q0, hargs0, hds0, hps0, h0, r0⟩ := trodAll_cons hA
  obtain ⟨rfl, rfl, rfl⟩ := trodAll_nil r0
  subst hds0
  obtain rfl : args = #[v0] := by cases args; simp_all
  obtain ⟨l0, k0, s0⟩ := (o_bytes W).cell (z1pl Tryz.underlying22 (hval 0 22 v0 rfl rfl)) h0
  refine (z1lm (kk l0 k0.1 k0.2) (z1kv s0 z1oj)).mono fun e W2 ⟨he, hf⟩ => ?_
  subst he
  refine ⟨_, rfl, z1pb hW1 rfl hf rfl Tryz.underlying4 laidOut ?_ rfl⟩
  intro t ht
  rw [Tryz.params13] at ht
  simp only [List.mem_cons, List.not_mem_nil, or_false] at ht
  rcases ht with rfl <;> exact ⟨by kernel_rfl, of_decide_eq_true (by kernel_rfl)⟩
theorem lifted (os : Os) (started : os.Started) (H : Type) (enc : TypeId × Value → H) :
    ReturnsInHanded {} Tryz.checked os 13 .any (Rows.fnEngRefusedSpec.pre6 enc Tryz.prog Tryz.f13 Rows.fnEngRefusedRow.domain false) (Rows.fnEngRefusedSpec.post enc Tryz.prog Tryz.f13 false true false false) := by
  refine returnsInHanded_of_change (C := Tryz.checked) own started (by kernel_rfl) Tryz.func13
    (ChangeSpec.witness6 (enc := enc) (C := Tryz.checked) false ⟨#[], #[.slice none 0 0], []⟩ 8 (by kernel_rfl) (by kernel_rfl) (by kernel_rfl) (by kernel_rfl)) ?_
  intro W base args ds gs before hval hW _ _
  exact contract H enc W base args ds gs before hval hW
theorem and_t {a b : Bool} (h : a = true) (k : b = true) : (a && b) = true := by rw [h, k]; rfl
theorem j0 : Rows.fnEngRefusedRow.wf (OpenSpec.ofChange Rows.fnEngRefusedSpec) = true := by kernel_rfl
theorem j1 : laidOutB Tryz.prog = true := laidOut
theorem j2 : mapsRowed Tryz.prog = true := by kernel_rfl
theorem j3 : Tryz.f13.params.all (Tryz.prog.readableRec ·) = true := by kernel_rfl
theorem j4 : namedTie Tryz.prog Rows.fnEngRefusedRow.named Rows.fnEngRefusedSpec.vars = true := by kernel_rfl
theorem j5 : (Rows.fnEngRefusedRow.stops == []) = true := by kernel_rfl
theorem j6 : (Tryz.prog.stops == []) = true := by kernel_rfl
theorem j7 : (Rows.fnEngRefusedRow.knobs == []) = true := by kernel_rfl
theorem j8 : (Tryz.prog.stopKnobs == []) = true := by kernel_rfl
theorem j9 : (Rows.fnEngRefusedRow.inPlace == Tryz.prog.inPlace 13) = true := by kernel_rfl
theorem j10 : (Rows.fnEngRefusedRow.unfollowed == Tryz.prog.unfollowed 13) = true := by kernel_rfl
theorem j11 : (Rows.fnEngRefusedRow.recurses == Tryz.prog.recurses 13) = true := by kernel_rfl
theorem j12 : (Rows.fnEngRefusedRow.named == Tryz.prog.varsNamed 13) = true := by kernel_rfl
theorem j13 : (Rows.fnEngRefusedRow.maps == (Tryz.f13.params.toList ++ Rows.fnEngRefusedSpec.plain.varTypes Tryz.prog).any (Tryz.prog.mapsRec ·)) = true := by kernel_rfl
theorem j14 : (Rows.fnEngRefusedRow.ifaces == (Tryz.f13.params.toList ++ Rows.fnEngRefusedSpec.plain.varTypes Tryz.prog).any (Tryz.prog.ifacesRec ·)) = true := by kernel_rfl
theorem j15 : (Rows.fnEngRefusedRow.mapsOut == Tryz.prog.mapsAmong Tryz.f13.resultTypes.toList) = true := by kernel_rfl
theorem j16 : (Rows.fnEngRefusedRow.loops == (Tryz.f13.params.toList ++ Rows.fnEngRefusedSpec.plain.varTypes Tryz.prog).any (Tryz.prog.loopsFrom ·)) = true := by kernel_rfl
theorem j17 : (Rows.fnEngRefusedRow.wideKeys == (Tryz.f13.params.toList ++ Rows.fnEngRefusedSpec.plain.varTypes Tryz.prog ++ Tryz.f13.resultTypes.toList).any (Tryz.prog.wideKeysFrom ·)) = true := by kernel_rfl
theorem j18 : Rows.fnEngRefusedSpec.vars.all (Tryz.prog.varReadable ·) = true := by kernel_rfl
theorem j19 : Tryz.f13.resultTypes.all (fun t => Tryz.prog.readableRec t && decide (t < Tryz.prog.types.size)) = true := by kernel_rfl
theorem j20 : (Rows.fnEngRefusedRow.ifacesOut == Tryz.f13.resultTypes.toList.any (Tryz.prog.ifacesRec ·)) = true := by kernel_rfl
theorem j21 : (Rows.fnEngRefusedRow.loopsOut == Tryz.f13.resultTypes.toList.any (Tryz.prog.loopsFrom ·)) = true := by kernel_rfl
theorem j22 : (Rows.fnEngRefusedRow.plainKeys == Tryz.prog.plainKeys) = true := by kernel_rfl
theorem j23 : Rows.fnEngRefusedRow.shortTexts.isNone = true := by kernel_rfl
theorem j24 : Tryz.prog.stopsHeard = true := by kernel_rfl
theorem j25 : Tryz.prog.mayEnter = true := by kernel_rfl
theorem j26 : (Rows.fnEngRefusedRow.lifted == Tryz.prog.liftsFinal) = true := by kernel_rfl
theorem j27 : (Tryz.prog.make == some Rows.fnEngRefusedRow.make) = true := by kernel_rfl
theorem j28 : (Rows.fnEngRefusedRow.kinds == (if Rows.fnEngRefusedRow.domain.isEmpty then [] else Tryz.f13.params.toList.map fun t => match Tryz.prog.underlying t with | some (.int k) => some k | _ => none)) = true := by kernel_rfl
theorem j29 : (Rows.fnEngRefusedRow.pinned == Rows.fnEngRefusedRow.pinnedBy) = true := by kernel_rfl
theorem j30 : (Rows.fnEngRefusedRow.veiled == (Tryz.f13.params.toList ++ Rows.fnEngRefusedSpec.plain.varTypes Tryz.prog ++ Tryz.f13.resultTypes.toList).any (Tryz.prog.veiledRec ·)) = true := by kernel_rfl
theorem j31 : Rows.fnEngRefusedRow.veiledFits Tryz.prog Tryz.f13.params.toList (Tryz.f13.params.toList ++ Rows.fnEngRefusedSpec.plain.varTypes Tryz.prog ++ Tryz.f13.resultTypes.toList) = true := by kernel_rfl
theorem closed : joinedFacts Tryz.prog 13 Tryz.f13 Rows.fnEngRefusedSpec Rows.fnEngRefusedRow = true := (and_t (and_t (and_t (and_t (and_t (and_t (and_t (and_t (and_t (and_t (and_t (and_t (and_t (and_t (and_t (and_t (and_t (and_t (and_t (and_t (and_t (and_t (and_t (and_t (and_t (and_t (and_t (and_t (and_t (and_t (and_t j0 j1) j2) j3) j4) j5) j6) j7) j8) j9) j10) j11) j12) j13) j14) j15) j16) j17) j18) j19) j20) j21) j22) j23) j24) j25) j26) j27) j28) j29) j30) j31)
theorem named : Tryz.prog.funcNamed Rows.fnEngRefusedRow.func = some 13 := by kernel_rfl
theorem inst : Tryz.f13.isInstance Tryz.prog Rows.fnEngRefusedRow.origin Rows.fnEngRefusedRow.targs := of_decide_eq_true (by kernel_rfl)
theorem wrap : Tryz.f13.isWrapper Tryz.prog Rows.fnEngRefusedRow.wrapper Rows.fnEngRefusedRow.mainSum := by unfold Func.isWrapper; first | (rw [if_pos (by decide +kernel)]; kernel_rfl) | (rw [if_neg (by decide +kernel)]; exact ⟨rfl, rfl⟩)
theorem proved : Rows.FnEngRefusedSaid :=
  OpenClaim.holds_of_wide 13 Tryz.f13 rfl rfl rfl rfl rfl rfl rfl ⟨rfl, rfl, rfl, rfl, rfl⟩ rfl rfl rfl rfl rfl named Tryz.func13 closed inst wrap
    (fun os started H enc _ => lifted os started H enc)
end Go.Proofs.YtgolgnbgomhknaaGreat.fnEngRefused
