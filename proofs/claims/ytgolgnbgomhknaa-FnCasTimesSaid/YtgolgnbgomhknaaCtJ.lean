/- FnCasTimes returns true at every input; the input reads afterwards as it did. No condition beyond the row. -/
import Derived.Test.YtgolgnbgomhknaaRows
import Derived.Test.YtgolgnbgomhknaaChecked
import Derived.Test.YtgolgnbgomhknaaCtL1
import Derived.WalkKit
import Derived.ProofKit
import Derived.OpenShut
set_option maxRecDepth 100000
set_option linter.unusedVariables false
set_option linter.unusedSimpArgs false
namespace Go.Proofs.Ytgolgnbgomhknaa.fnCasTimes
open Go Go.Am Go.ChangeShapes Go.WideShapes Go.ChangeAt Go.RowKit
theorem own : ownKnob Try.prog.godebug = none := by kernel_rfl
theorem laidOut : laidOutB Try.prog = true := by kernel_rfl
theorem kk (l0 : List Int) (h0 : l0.length ≤ 9223372036854775807) (g0 : ∀ y ∈ l0, u8 y) (l1 : List Int) (h1 : l1.length ≤ 9223372036854775807) (g1 : ∀ y ∈ l1, u8 y) : FnP Try.prog 4 [.c (.sl false 1 (l0.map fun n => [cY n])), .c (.sl false 1 (l1.map fun n => [cY n]))] [.c (cB true)] :=
  y1u.2 (l0, l1, ()) _ true ⟨_, _, rfl, rfl, ⟨_, _, rfl, rfl, rfl⟩⟩ (Go.Am.Pl.law_FnCasTimes l0 l1 h0 g0 h1 g1)
theorem contract (H : Type) (enc : TypeId × Value → H) (W : World) (base : Nat) (args : Array Value) (ds gs : List (DataW H)) (before : List MemPlace)
    (hval : ∀ (j : Nat) t v, Try.f4.params[j]? = some t → args[j]? = some v → Value.okWide Try.prog W .any base t v)
    (hW : DataW.Whole enc Try.prog Try.f4.params.toList Rows.fnCasTimesSpec.vars false W args.toList ds gs before) :
    Calls Try.prog 4 args W fun e W2 => ∃ v, e = .returned v ∧ Rows.fnCasTimesSpec.post enc Try.prog Try.f4 false true false false W args v W2 := by
  have hW1 := hW
  obtain ⟨p, q, hA0, _⟩ := hW
  have hA : DataW.TrodAll enc Try.prog W 0 (fun _ => true) true Try.f4.params.toList args.toList ds p := hA0
  rw [Try.params4] at hA hval
  obtain ⟨v0, vs0, d0, ds0, p0, q0, hargs0, hds0, hps0, h0, r0⟩ := trodAll_cons hA
  obtain ⟨v1, vs1, d1, ds1, p1, q1, hargs1, hds1, hps1, h1, r1⟩ := trodAll_cons r0
  obtain ⟨rfl, rfl, rfl⟩ := trodAll_nil r1
  subst hargs1 hds1
  subst hds0
  obtain rfl : args = #[v0, v1] := by cases args; simp_all
  obtain ⟨l0, k0, s0⟩ := (o_bytes W).cell (yu7 Try.underlying22 (hval 0 22 v0 rfl rfl)) h0
  obtain ⟨l1, k1, s1⟩ := (o_bytes W).cell (yu7 Try.underlying22 (hval 1 22 v1 rfl rfl)) h1
  refine (w1j (kk l0 k0.1 k0.2 l1 k1.1 k1.2) (ye3 s0 (ye3 s1 w3c))).mono fun e W2 ⟨he, hf⟩ => ?_
  subst he
  refine ⟨_, rfl, w3v hW1 rfl hf rfl Try.underlying4 laidOut ?_ rfl⟩
  intro t ht
  rw [Try.params4] at ht
  simp only [zM, List.not_mem_nil, or_false] at ht
  rcases ht with rfl | rfl <;> exact ⟨by kernel_rfl, of_decide_eq_true (by kernel_rfl)⟩
theorem lifted (os : Os) (started : os.Started) (H : Type) (enc : TypeId × Value → H) :
    ReturnsInHanded {} Try.checked os 4 .any (Rows.fnCasTimesSpec.pre6 enc Try.prog Try.f4 Rows.fnCasTimesRow.domain false) (Rows.fnCasTimesSpec.post enc Try.prog Try.f4 false true false false) := by
  refine returnsInHanded_of_change (C := Try.checked) own started (by kernel_rfl) Try.func4
    (ChangeSpec.witness6 (enc := enc) (C := Try.checked) false ⟨#[], #[.slice none 0 0, .slice none 0 0], []⟩ 8 (by kernel_rfl) (by kernel_rfl) (by kernel_rfl) (by kernel_rfl)) ?_
  intro W base args ds gs before hval hW _ _
  exact contract H enc W base args ds gs before hval hW
theorem and_t {a b : Bool} (h : a = true) (k : b = true) : (a && b) = true := by rw [h, k]; rfl
theorem j0 : Rows.fnCasTimesRow.wf (OpenSpec.ofChange Rows.fnCasTimesSpec) = true := by kernel_rfl
theorem j1 : laidOutB Try.prog = true := laidOut
theorem j2 : mapsRowed Try.prog = true := by kernel_rfl
theorem j3 : Try.f4.params.all (Try.prog.readableRec ·) = true := by kernel_rfl
theorem j4 : namedTie Try.prog Rows.fnCasTimesRow.named Rows.fnCasTimesSpec.vars = true := by kernel_rfl
theorem j5 : (Rows.fnCasTimesRow.stops == []) = true := by kernel_rfl
theorem j6 : (Try.prog.stops == []) = true := by kernel_rfl
theorem j7 : (Rows.fnCasTimesRow.knobs == []) = true := by kernel_rfl
theorem j8 : (Try.prog.stopKnobs == []) = true := by kernel_rfl
theorem j9 : (Rows.fnCasTimesRow.inPlace == Try.prog.inPlace 4) = true := by kernel_rfl
theorem j10 : (Rows.fnCasTimesRow.unfollowed == Try.prog.unfollowed 4) = true := by kernel_rfl
theorem j11 : (Rows.fnCasTimesRow.recurses == Try.prog.recurses 4) = true := by kernel_rfl
theorem j12 : (Rows.fnCasTimesRow.named == Try.prog.varsNamed 4) = true := by kernel_rfl
theorem j13 : (Rows.fnCasTimesRow.maps == (Try.f4.params.toList ++ Rows.fnCasTimesSpec.plain.varTypes Try.prog).any (Try.prog.mapsRec ·)) = true := by kernel_rfl
theorem j14 : (Rows.fnCasTimesRow.ifaces == (Try.f4.params.toList ++ Rows.fnCasTimesSpec.plain.varTypes Try.prog).any (Try.prog.ifacesRec ·)) = true := by kernel_rfl
theorem j15 : (Rows.fnCasTimesRow.mapsOut == Try.prog.mapsAmong Try.f4.resultTypes.toList) = true := by kernel_rfl
theorem j16 : (Rows.fnCasTimesRow.loops == (Try.f4.params.toList ++ Rows.fnCasTimesSpec.plain.varTypes Try.prog).any (Try.prog.loopsFrom ·)) = true := by kernel_rfl
theorem j17 : (Rows.fnCasTimesRow.wideKeys == (Try.f4.params.toList ++ Rows.fnCasTimesSpec.plain.varTypes Try.prog ++ Try.f4.resultTypes.toList).any (Try.prog.wideKeysFrom ·)) = true := by kernel_rfl
theorem j18 : Rows.fnCasTimesSpec.vars.all (Try.prog.varReadable ·) = true := by kernel_rfl
theorem j19 : Try.f4.resultTypes.all (fun t => Try.prog.readableRec t && decide (t < Try.prog.types.size)) = true := by kernel_rfl
theorem j20 : (Rows.fnCasTimesRow.ifacesOut == Try.f4.resultTypes.toList.any (Try.prog.ifacesRec ·)) = true := by kernel_rfl
theorem j21 : (Rows.fnCasTimesRow.loopsOut == Try.f4.resultTypes.toList.any (Try.prog.loopsFrom ·)) = true := by kernel_rfl
theorem j22 : (Rows.fnCasTimesRow.plainKeys == Try.prog.plainKeys) = true := by kernel_rfl
theorem j23 : Rows.fnCasTimesRow.shortTexts.isNone = true := by kernel_rfl
theorem j24 : Try.prog.stopsHeard = true := by kernel_rfl
theorem j25 : Try.prog.mayEnter = true := by kernel_rfl
theorem j26 : (Rows.fnCasTimesRow.lifted == Try.prog.liftsFinal) = true := by kernel_rfl
theorem j27 : (Try.prog.make == some Rows.fnCasTimesRow.make) = true := by kernel_rfl
theorem j28 : (Rows.fnCasTimesRow.kinds == (if Rows.fnCasTimesRow.domain.isEmpty then [] else Try.f4.params.toList.map fun t => match Try.prog.underlying t with | some (.int k) => some k | _ => none)) = true := by kernel_rfl
theorem j29 : (Rows.fnCasTimesRow.pinned == Rows.fnCasTimesRow.pinnedBy) = true := by kernel_rfl
theorem j30 : (Rows.fnCasTimesRow.veiled == (Try.f4.params.toList ++ Rows.fnCasTimesSpec.plain.varTypes Try.prog ++ Try.f4.resultTypes.toList).any (Try.prog.veiledRec ·)) = true := by kernel_rfl
theorem j31 : Rows.fnCasTimesRow.veiledFits Try.prog Try.f4.params.toList (Try.f4.params.toList ++ Rows.fnCasTimesSpec.plain.varTypes Try.prog ++ Try.f4.resultTypes.toList) = true := by kernel_rfl
theorem closed : joinedFacts Try.prog 4 Try.f4 Rows.fnCasTimesSpec Rows.fnCasTimesRow = true := (and_t (and_t (and_t (and_t (and_t (and_t (and_t (and_t (and_t (and_t (and_t (and_t (and_t (and_t (and_t (and_t (and_t (and_t (and_t (and_t (and_t (and_t (and_t (and_t (and_t (and_t (and_t (and_t (and_t (and_t (and_t j0 j1) j2) j3) j4) j5) j6) j7) j8) j9) j10) j11) j12) j13) j14) j15) j16) j17) j18) j19) j20) j21) j22) j23) j24) j25) j26) j27) j28) j29) j30) j31)
theorem named : Try.prog.funcNamed Rows.fnCasTimesRow.func = some 4 := by kernel_rfl
theorem inst : Try.f4.isInstance Try.prog Rows.fnCasTimesRow.origin Rows.fnCasTimesRow.targs := of_decide_eq_true (by kernel_rfl)
theorem wrap : Try.f4.isWrapper Try.prog Rows.fnCasTimesRow.wrapper Rows.fnCasTimesRow.mainSum := by unfold Func.isWrapper; first | (rw [if_pos (by decide +kernel)]; kernel_rfl) | (rw [if_neg (by decide +kernel)]; exact ⟨rfl, rfl⟩)
theorem proved : Rows.FnCasTimesSaid :=
  OpenClaim.holds_of_wide 4 Try.f4 rfl rfl rfl rfl rfl rfl rfl ⟨rfl, rfl, rfl, rfl, rfl⟩ rfl rfl rfl rfl rfl named Try.func4 closed inst wrap
    (fun os started H enc _ => lifted os started H enc)
end Go.Proofs.Ytgolgnbgomhknaa.fnCasTimes
