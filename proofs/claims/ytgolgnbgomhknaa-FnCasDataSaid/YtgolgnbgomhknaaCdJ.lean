/- FnCasData returns true at every input; the input reads afterwards as it did. No condition beyond the row. -/
import Derived.Test.YtgolgnbgomhknaaRows
import Derived.Test.YtgolgnbgomhknaaChecked
import Derived.Test.YtgolgnbgomhknaaCdL1
import Derived.WalkKit
import Derived.ProofKit
import Derived.OpenShut
set_option linter.unusedSimpArgs false
set_option maxRecDepth 100000
set_option linter.unusedVariables false
namespace Go.Proofs.Ytgolgnbgomhknaa.fnCasData
open Go Go.Am Go.ChangeShapes Go.WideShapes Go.ChangeAt Go.RowKit
theorem own : ownKnob Try.prog.godebug = none := by kernel_rfl
theorem laidOut : laidOutB Try.prog = true := by kernel_rfl
theorem kk (l0 : List Int) (h0 : l0.length ≤ 9223372036854775807) (g0 : ∀ y ∈ l0, u8 y) : FnP Try.prog 7 [.c (.sl false 1 (l0.map fun n => [cY n]))] [.c (cB true)] :=
  z0kj.2 (l0, ()) _ true ⟨_, _, rfl, rfl, rfl⟩ (Go.Am.Pl.law_FnCasData l0 h0 g0)
theorem contract (H : Type) (enc : TypeId × Value → H) (W : World) (base : Nat) (args : Array Value) (ds gs : List (DataW H)) (before : List MemPlace)
    (hval : ∀ (j : Nat) t v, Try.f7.params[j]? = some t → args[j]? = some v → Value.okWide Try.prog W .any base t v)
    (hW : DataW.Whole enc Try.prog Try.f7.params.toList Rows.fnCasDataSpec.vars false W args.toList ds gs before) :
    Calls Try.prog 7 args W fun e W2 => ∃ v, e = .returned v ∧ Rows.fnCasDataSpec.post enc Try.prog Try.f7 false true false false W args v W2 := by
  have hW1 := hW
  obtain ⟨p, q, hA0, _⟩ := hW
  have hA : DataW.TrodAll enc Try.prog W 0 (fun _ => true) true Try.f7.params.toList args.toList ds p := hA0
  rw [Try.params7] at hA hval
  obtain ⟨v0, vs0, d0, ds0, p0, q0, hargs0, hds0, hps0, h0, r0⟩ := trodAll_cons hA
  obtain ⟨rfl, rfl, rfl⟩ := trodAll_nil r0
  subst hds0
  obtain rfl : args = #[v0] := by cases args; simp_all
  obtain ⟨l0, k0, s0⟩ := (o_bytes W).cell (z133 Try.underlying22 (hval 0 22 v0 rfl rfl)) h0
  refine (z0zu (kk l0 k0.1 k0.2) (z0zb s0 z129)).mono fun e W2 ⟨he, hf⟩ => ?_
  subst he
  refine ⟨_, rfl, z12w hW1 rfl hf rfl Try.underlying4 laidOut ?_ rfl⟩
  intro t ht
  rw [Try.params7] at ht
  simp only [List.mem_cons, List.not_mem_nil, or_false] at ht
  rcases ht with rfl <;> exact ⟨by kernel_rfl, of_decide_eq_true (by kernel_rfl)⟩
theorem lifted (os : Os) (started : os.Started) (H : Type) (enc : TypeId × Value → H) :
    ReturnsInHanded {} Try.checked os 7 .any (Rows.fnCasDataSpec.pre6 enc Try.prog Try.f7 Rows.fnCasDataRow.domain false) (Rows.fnCasDataSpec.post enc Try.prog Try.f7 false true false false) := by
  refine returnsInHanded_of_change (C := Try.checked) own started (by kernel_rfl) Try.func7
    (ChangeSpec.witness6 (enc := enc) (C := Try.checked) false ⟨#[], #[.slice none 0 0], []⟩ 8 (by kernel_rfl) (by kernel_rfl) (by kernel_rfl) (by kernel_rfl)) ?_
  intro W base args ds gs before hval hW _ _
  exact contract H enc W base args ds gs before hval hW
theorem and_t {a b : Bool} (h : a = true) (k : b = true) : (a && b) = true := by rw [h, k]; rfl
theorem j0 : Rows.fnCasDataRow.wf (OpenSpec.ofChange Rows.fnCasDataSpec) = true := by kernel_rfl
theorem j1 : laidOutB Try.prog = true := laidOut
theorem j2 : mapsRowed Try.prog = true := by kernel_rfl
theorem j3 : Try.f7.params.all (Try.prog.readableRec ·) = true := by kernel_rfl
theorem j4 : namedTie Try.prog Rows.fnCasDataRow.named Rows.fnCasDataSpec.vars = true := by kernel_rfl
theorem j5 : (Rows.fnCasDataRow.stops == []) = true := by kernel_rfl
theorem j6 : (Try.prog.stops == []) = true := by kernel_rfl
theorem j7 : (Rows.fnCasDataRow.knobs == []) = true := by kernel_rfl
theorem j8 : (Try.prog.stopKnobs == []) = true := by kernel_rfl
theorem j9 : (Rows.fnCasDataRow.inPlace == Try.prog.inPlace 7) = true := by kernel_rfl
theorem j10 : (Rows.fnCasDataRow.unfollowed == Try.prog.unfollowed 7) = true := by kernel_rfl
theorem j11 : (Rows.fnCasDataRow.recurses == Try.prog.recurses 7) = true := by kernel_rfl
theorem j12 : (Rows.fnCasDataRow.named == Try.prog.varsNamed 7) = true := by kernel_rfl
theorem j13 : (Rows.fnCasDataRow.maps == (Try.f7.params.toList ++ Rows.fnCasDataSpec.plain.varTypes Try.prog).any (Try.prog.mapsRec ·)) = true := by kernel_rfl
theorem j14 : (Rows.fnCasDataRow.ifaces == (Try.f7.params.toList ++ Rows.fnCasDataSpec.plain.varTypes Try.prog).any (Try.prog.ifacesRec ·)) = true := by kernel_rfl
theorem j15 : (Rows.fnCasDataRow.mapsOut == Try.prog.mapsAmong Try.f7.resultTypes.toList) = true := by kernel_rfl
theorem j16 : (Rows.fnCasDataRow.loops == (Try.f7.params.toList ++ Rows.fnCasDataSpec.plain.varTypes Try.prog).any (Try.prog.loopsFrom ·)) = true := by kernel_rfl
theorem j17 : (Rows.fnCasDataRow.wideKeys == (Try.f7.params.toList ++ Rows.fnCasDataSpec.plain.varTypes Try.prog ++ Try.f7.resultTypes.toList).any (Try.prog.wideKeysFrom ·)) = true := by kernel_rfl
theorem j18 : Rows.fnCasDataSpec.vars.all (Try.prog.varReadable ·) = true := by kernel_rfl
theorem j19 : Try.f7.resultTypes.all (fun t => Try.prog.readableRec t && decide (t < Try.prog.types.size)) = true := by kernel_rfl
theorem j20 : (Rows.fnCasDataRow.ifacesOut == Try.f7.resultTypes.toList.any (Try.prog.ifacesRec ·)) = true := by kernel_rfl
theorem j21 : (Rows.fnCasDataRow.loopsOut == Try.f7.resultTypes.toList.any (Try.prog.loopsFrom ·)) = true := by kernel_rfl
theorem j22 : (Rows.fnCasDataRow.plainKeys == Try.prog.plainKeys) = true := by kernel_rfl
theorem j23 : Rows.fnCasDataRow.shortTexts.isNone = true := by kernel_rfl
theorem j24 : Try.prog.stopsHeard = true := by kernel_rfl
theorem j25 : Try.prog.mayEnter = true := by kernel_rfl
theorem j26 : (Rows.fnCasDataRow.lifted == Try.prog.liftsFinal) = true := by kernel_rfl
theorem j27 : (Try.prog.make == some Rows.fnCasDataRow.make) = true := by kernel_rfl
theorem j28 : (Rows.fnCasDataRow.kinds == (if Rows.fnCasDataRow.domain.isEmpty then [] else Try.f7.params.toList.map fun t => match Try.prog.underlying t with | some (.int k) => some k | _ => none)) = true := by kernel_rfl
theorem j29 : (Rows.fnCasDataRow.pinned == Rows.fnCasDataRow.pinnedBy) = true := by kernel_rfl
theorem j30 : (Rows.fnCasDataRow.veiled == (Try.f7.params.toList ++ Rows.fnCasDataSpec.plain.varTypes Try.prog ++ Try.f7.resultTypes.toList).any (Try.prog.veiledRec ·)) = true := by kernel_rfl
theorem j31 : Rows.fnCasDataRow.veiledFits Try.prog Try.f7.params.toList (Try.f7.params.toList ++ Rows.fnCasDataSpec.plain.varTypes Try.prog ++ Try.f7.resultTypes.toList) = true := by kernel_rfl
theorem closed : joinedFacts Try.prog 7 Try.f7 Rows.fnCasDataSpec Rows.fnCasDataRow = true := (and_t (and_t (and_t (and_t (and_t (and_t (and_t (and_t (and_t (and_t (and_t (and_t (and_t (and_t (and_t (and_t (and_t (and_t (and_t (and_t (and_t (and_t (and_t (and_t (and_t (and_t (and_t (and_t (and_t (and_t (and_t j0 j1) j2) j3) j4) j5) j6) j7) j8) j9) j10) j11) j12) j13) j14) j15) j16) j17) j18) j19) j20) j21) j22) j23) j24) j25) j26) j27) j28) j29) j30) j31)
theorem named : Try.prog.funcNamed Rows.fnCasDataRow.func = some 7 := by kernel_rfl
theorem inst : Try.f7.isInstance Try.prog Rows.fnCasDataRow.origin Rows.fnCasDataRow.targs := of_decide_eq_true (by kernel_rfl)
theorem wrap : Try.f7.isWrapper Try.prog Rows.fnCasDataRow.wrapper Rows.fnCasDataRow.mainSum := by unfold Func.isWrapper; first | (rw [if_pos (by decide +kernel)]; kernel_rfl) | (rw [if_neg (by decide +kernel)]; exact ⟨rfl, rfl⟩)
theorem proved : Rows.FnCasDataSaid :=
  OpenClaim.holds_of_wide 7 Try.f7 rfl rfl rfl rfl rfl rfl rfl ⟨rfl, rfl, rfl, rfl, rfl⟩ rfl rfl rfl rfl rfl named Try.func7 closed inst wrap
    (fun os started H enc _ => lifted os started H enc)
end Go.Proofs.Ytgolgnbgomhknaa.fnCasData
