/- FnCasWork returns true at every input; the input reads afterwards as it did. No condition beyond the row. -/
import Derived.Test.YtgolgnbgomhknaaRows
import Derived.Test.YtgolgnbgomhknaaChecked
import Derived.Test.YtgolgnbgomhknaaCwL1
import Derived.WalkKit
import Derived.ProofKit
import Derived.OpenShut
set_option maxRecDepth 100000
set_option linter.unusedVariables false
set_option linter.unusedSimpArgs false
namespace Go.Proofs.Ytgolgnbgomhknaa.fnCasWork
open Go Go.Am Go.ChangeShapes Go.WideShapes Go.ChangeAt Go.RowKit
theorem own : ownKnob Try.prog.godebug = none := by kernel_rfl
theorem laidOut : laidOutB Try.prog = true := by kernel_rfl
theorem kk (l0 : List Int) (h0 : l0.length ≤ 9223372036854775807) (g0 : ∀ y ∈ l0, u8 y) : FnP Try.prog 5 [.c (.sl false 1 (l0.map fun n => [cY n]))] [.c (cB true)] :=
  y3v.2 (l0, ()) _ true ⟨_, _, rfl, rfl, rfl⟩ (Go.Am.Pl.law_FnCasWork l0 h0 g0)
theorem contract (H : Type) (enc : TypeId × Value → H) (W : World) (base : Nat) (args : Array Value) (ds gs : List (DataW H)) (before : List MemPlace)
    (hval : ∀ (j : Nat) t v, Try.f5.params[j]? = some t → args[j]? = some v → Value.okWide Try.prog W .any base t v)
    (hW : DataW.Whole enc Try.prog Try.f5.params.toList Rows.fnCasWorkSpec.vars false W args.toList ds gs before) :
    Calls Try.prog 5 args W fun e W2 => ∃ v, e = .returned v ∧ Rows.fnCasWorkSpec.post enc Try.prog Try.f5 false true false false W args v W2 := by
  have hW1 := hW
  obtain ⟨p, q, hA0, _⟩ := hW
  have hA : DataW.TrodAll enc Try.prog W 0 (fun _ => true) true Try.f5.params.toList args.toList ds p := hA0
  rw [Try.params5] at hA hval
  obtain ⟨v0, vs0, d0, ds0, p0, q0, hargs0, hds0, hps0, h0, r0⟩ := trodAll_cons hA
  obtain ⟨rfl, rfl, rfl⟩ := trodAll_nil r0
  subst hds0
  obtain rfl : args = #[v0] := by cases args; simp_all
  obtain ⟨l0, k0, s0⟩ := (o_bytes W).cell (w4k Try.underlying22 (hval 0 22 v0 rfl rfl)) h0
  refine (w20 (kk l0 k0.1 k0.2) (w0s s0 w3t)).mono fun e W2 ⟨he, hf⟩ => ?_
  subst he
  refine ⟨_, rfl, w4d hW1 rfl hf rfl Try.underlying4 laidOut ?_ rfl⟩
  intro t ht
  rw [Try.params5] at ht
  simp only [zM, List.not_mem_nil, or_false] at ht
  rcases ht with rfl <;> exact ⟨by kernel_rfl, of_decide_eq_true (by kernel_rfl)⟩
theorem lifted (os : Os) (started : os.Started) (H : Type) (enc : TypeId × Value → H) :
    ReturnsInHanded {} Try.checked os 5 .any (Rows.fnCasWorkSpec.pre6 enc Try.prog Try.f5 Rows.fnCasWorkRow.domain false) (Rows.fnCasWorkSpec.post enc Try.prog Try.f5 false true false false) := by
  refine returnsInHanded_of_change (C := Try.checked) own started (by kernel_rfl) Try.func5
    (ChangeSpec.witness6 (enc := enc) (C := Try.checked) false ⟨#[], #[.slice none 0 0], []⟩ 8 (by kernel_rfl) (by kernel_rfl) (by kernel_rfl) (by kernel_rfl)) ?_
  intro W base args ds gs before hval hW _ _
  exact contract H enc W base args ds gs before hval hW
theorem and_t {a b : Bool} (h : a = true) (k : b = true) : (a && b) = true := by rw [h, k]; rfl
theorem j0 : Rows.fnCasWorkRow.wf (OpenSpec.ofChange Rows.fnCasWorkSpec) = true := by kernel_rfl
theorem j1 : laidOutB Try.prog = true := laidOut
theorem j2 : mapsRowed Try.prog = true := by kernel_rfl
theorem j3 : Try.f5.params.all (Try.prog.readableRec ·) = true := by kernel_rfl
theorem j4 : namedTie Try.prog Rows.fnCasWorkRow.named Rows.fnCasWorkSpec.vars = true := by kernel_rfl
theorem j5 : (Rows.fnCasWorkRow.stops == []) = true := by kernel_rfl
theorem j6 : (Try.prog.stops == []) = true := by kernel_rfl
theorem j7 : (Rows.fnCasWorkRow.knobs == []) = true := by kernel_rfl
theorem j8 : (Try.prog.stopKnobs == []) = true := by kernel_rfl
theorem j9 : (Rows.fnCasWorkRow.inPlace == Try.prog.inPlace 5) = true := by kernel_rfl
theorem j10 : (Rows.fnCasWorkRow.unfollowed == Try.prog.unfollowed 5) = true := by kernel_rfl
theorem j11 : (Rows.fnCasWorkRow.recurses == Try.prog.recurses 5) = true := by kernel_rfl
theorem j12 : (Rows.fnCasWorkRow.named == Try.prog.varsNamed 5) = true := by kernel_rfl
theorem j13 : (Rows.fnCasWorkRow.maps == (Try.f5.params.toList ++ Rows.fnCasWorkSpec.plain.varTypes Try.prog).any (Try.prog.mapsRec ·)) = true := by kernel_rfl
theorem j14 : (Rows.fnCasWorkRow.ifaces == (Try.f5.params.toList ++ Rows.fnCasWorkSpec.plain.varTypes Try.prog).any (Try.prog.ifacesRec ·)) = true := by kernel_rfl
theorem j15 : (Rows.fnCasWorkRow.mapsOut == Try.prog.mapsAmong Try.f5.resultTypes.toList) = true := by kernel_rfl
theorem j16 : (Rows.fnCasWorkRow.loops == (Try.f5.params.toList ++ Rows.fnCasWorkSpec.plain.varTypes Try.prog).any (Try.prog.loopsFrom ·)) = true := by kernel_rfl
theorem j17 : (Rows.fnCasWorkRow.wideKeys == (Try.f5.params.toList ++ Rows.fnCasWorkSpec.plain.varTypes Try.prog ++ Try.f5.resultTypes.toList).any (Try.prog.wideKeysFrom ·)) = true := by kernel_rfl
theorem j18 : Rows.fnCasWorkSpec.vars.all (Try.prog.varReadable ·) = true := by kernel_rfl
theorem j19 : Try.f5.resultTypes.all (fun t => Try.prog.readableRec t && decide (t < Try.prog.types.size)) = true := by kernel_rfl
theorem j20 : (Rows.fnCasWorkRow.ifacesOut == Try.f5.resultTypes.toList.any (Try.prog.ifacesRec ·)) = true := by kernel_rfl
theorem j21 : (Rows.fnCasWorkRow.loopsOut == Try.f5.resultTypes.toList.any (Try.prog.loopsFrom ·)) = true := by kernel_rfl
theorem j22 : (Rows.fnCasWorkRow.plainKeys == Try.prog.plainKeys) = true := by kernel_rfl
theorem j23 : Rows.fnCasWorkRow.shortTexts.isNone = true := by kernel_rfl
theorem j24 : Try.prog.stopsHeard = true := by kernel_rfl
theorem j25 : Try.prog.mayEnter = true := by kernel_rfl
theorem j26 : (Rows.fnCasWorkRow.lifted == Try.prog.liftsFinal) = true := by kernel_rfl
theorem j27 : (Try.prog.make == some Rows.fnCasWorkRow.make) = true := by kernel_rfl
theorem j28 : (Rows.fnCasWorkRow.kinds == (if Rows.fnCasWorkRow.domain.isEmpty then [] else Try.f5.params.toList.map fun t => match Try.prog.underlying t with | some (.int k) => some k | _ => none)) = true := by kernel_rfl
theorem j29 : (Rows.fnCasWorkRow.pinned == Rows.fnCasWorkRow.pinnedBy) = true := by kernel_rfl
theorem j30 : (Rows.fnCasWorkRow.veiled == (Try.f5.params.toList ++ Rows.fnCasWorkSpec.plain.varTypes Try.prog ++ Try.f5.resultTypes.toList).any (Try.prog.veiledRec ·)) = true := by kernel_rfl
theorem j31 : Rows.fnCasWorkRow.veiledFits Try.prog Try.f5.params.toList (Try.f5.params.toList ++ Rows.fnCasWorkSpec.plain.varTypes Try.prog ++ Try.f5.resultTypes.toList) = true := by kernel_rfl
theorem closed : joinedFacts Try.prog 5 Try.f5 Rows.fnCasWorkSpec Rows.fnCasWorkRow = true := (and_t (and_t (and_t (and_t (and_t (and_t (and_t (and_t (and_t (and_t (and_t (and_t (and_t (and_t (and_t (and_t (and_t (and_t (and_t (and_t (and_t (and_t (and_t (and_t (and_t (and_t (and_t (and_t (and_t (and_t (and_t j0 j1) j2) j3) j4) j5) j6) j7) j8) j9) j10) j11) j12) j13) j14) j15) j16) j17) j18) j19) j20) j21) j22) j23) j24) j25) j26) j27) j28) j29) j30) j31)
theorem named : Try.prog.funcNamed Rows.fnCasWorkRow.func = some 5 := by kernel_rfl
theorem inst : Try.f5.isInstance Try.prog Rows.fnCasWorkRow.origin Rows.fnCasWorkRow.targs := of_decide_eq_true (by kernel_rfl)
theorem wrap : Try.f5.isWrapper Try.prog Rows.fnCasWorkRow.wrapper Rows.fnCasWorkRow.mainSum := by unfold Func.isWrapper; first | (rw [if_pos (by decide +kernel)]; kernel_rfl) | (rw [if_neg (by decide +kernel)]; exact ⟨rfl, rfl⟩)
theorem proved : Rows.FnCasWorkSaid :=
  OpenClaim.holds_of_wide 5 Try.f5 rfl rfl rfl rfl rfl rfl rfl ⟨rfl, rfl, rfl, rfl, rfl⟩ rfl rfl rfl rfl rfl named Try.func5 closed inst wrap
    (fun os started H enc _ => lifted os started H enc)
end Go.Proofs.Ytgolgnbgomhknaa.fnCasWork
