/- FnExactDrvBack returns true at every input; the input reads afterwards as it did. No condition beyond the row. -/
import Derived.Test.YtcbpckbehdaloaaRows
import Derived.Test.YtcbpckbehdaloaaChecked
import Derived.Test.YtcbpckbehdaloaaDbL1
import Derived.WalkKit
import Derived.ProofKit
import Derived.OpenShut
set_option linter.unusedSimpArgs false
set_option maxRecDepth 100000
set_option linter.unusedVariables false
namespace Go.Proofs.Ytcbpckbehdaloaa.fnExactDrvBack
open Go Go.Am Go.ChangeShapes Go.WideShapes Go.ChangeAt Go.RowKit

theorem own : ownKnob Try.prog.godebug = none := by kernel_rfl
theorem laidOut : laidOutB Try.prog = true := by kernel_rfl
theorem kk (l0 : GNet) (h0 : GNet.lens (· ≤ 9223372036854775807) l0) (l1 : GCase) (h1 : GCase.lens (· ≤ 9223372036854775807) l1) : FnP Try.prog 7 [.row (GNet.cells false l0), .row (GCase.cells false l1)] [.c (cB true)] :=
  o_laws_FnExactDrvBack.2 (l0, l1, ()) _ true ⟨_, _, rfl, rfl, ⟨_, _, rfl, rfl, rfl⟩⟩ (Go.Am.Pl.law_DrvBack l0 l1 h0 h1)

theorem contract (H : Type) (enc : TypeId × Value → H) (W : World) (base : Nat) (args : Array Value) (ds gs : List (DataW H)) (before : List MemPlace)
    (hval : ∀ (j : Nat) t v, Try.f7.params[j]? = some t → args[j]? = some v → Value.okWide Try.prog W .any base t v)
    (hW : DataW.Whole enc Try.prog Try.f7.params.toList Rows.fnExactDrvBackSpec.vars false W args.toList ds gs before) :
    Calls Try.prog 7 args W fun e W2 => ∃ v, e = .returned v ∧ Rows.fnExactDrvBackSpec.post enc Try.prog Try.f7 false true false false W args v W2 := by
  have hW1 := hW
  obtain ⟨p, q, hA0, _⟩ := hW
  have hA : DataW.TrodAll enc Try.prog W 0 (fun _ => true) true Try.f7.params.toList args.toList ds p := hA0
  rw [Try.params7] at hA hval
  obtain ⟨v0, vs0, d0, ds0, p0, q0, hargs0, hds0, hps0, h0, r0⟩ := trodAll_cons hA
  obtain ⟨v1, vs1, d1, ds1, p1, q1, hargs1, hds1, hps1, h1, r1⟩ := trodAll_cons r0
  obtain ⟨rfl, rfl, rfl⟩ := trodAll_nil r1
  subst hargs1 hds1
  subst hds0
  obtain rfl : args = #[v0, v1] := by cases args; simp_all
  obtain ⟨cs0, rfl⟩ := ok_struct Try.underlying54 (hval 0 54 v0 rfl rfl)
  obtain ⟨l0, k0, s0⟩ := (o_GNet W).row h0
  obtain ⟨cs1, rfl⟩ := ok_struct Try.underlying58 (hval 1 58 v1 rfl rfl)
  obtain ⟨l1, k1, s1⟩ := (o_GCase W).row h1
  refine (law_calls (kk l0 (GNet.ok_lens k0) l1 (GCase.ok_lens k1)) (args_cons s0 (args_cons s1 args_nil))).mono fun e W2 ⟨he, hf⟩ => ?_
  subst he
  refine ⟨_, rfl, law_post hW1 rfl hf rfl Try.underlying4 laidOut ?_ rfl⟩
  intro t ht
  rw [Try.params7] at ht
  simp only [List.mem_cons, List.not_mem_nil, or_false] at ht
  rcases ht with rfl | rfl <;> exact ⟨by kernel_rfl, of_decide_eq_true (by kernel_rfl)⟩

theorem lifted (os : Os) (started : os.Started) (H : Type) (enc : TypeId × Value → H) :
    ReturnsInHanded {} Try.checked os 7 .any (Rows.fnExactDrvBackSpec.pre6 enc Try.prog Try.f7 Rows.fnExactDrvBackRow.domain false) (Rows.fnExactDrvBackSpec.post enc Try.prog Try.f7 false true false false) := by
  refine returnsInHanded_of_change (C := Try.checked) own started (by kernel_rfl) Try.func7
    (ChangeSpec.witness6 (enc := enc) (C := Try.checked) false ⟨#[], #[.agg #[.int .i64 0, .slice none 0 0], .agg #[.int .i64 0, .slice none 0 0, .slice none 0 0, .slice none 0 0, .slice none 0 0]], []⟩ 8 (by kernel_rfl) (by kernel_rfl) (by kernel_rfl) (by kernel_rfl)) ?_
  intro W base args ds gs before hval hW _ _
  exact contract H enc W base args ds gs before hval hW

theorem proved : Rows.FnExactDrvBackSaid :=
  OpenClaim.holds_of_wide 7 Try.f7 rfl rfl rfl rfl rfl rfl rfl ⟨rfl, rfl, rfl, rfl, rfl⟩ rfl rfl rfl rfl rfl (by kernel_rfl) Try.func7 (by kernel_rfl)
    (of_decide_eq_true (by kernel_rfl)) (by unfold Func.isWrapper; first | (rw [if_pos (by decide +kernel)]; kernel_rfl) | (rw [if_neg (by decide +kernel)]; exact ⟨rfl, rfl⟩))
    (fun os started H enc _ => lifted os started H enc)
end Go.Proofs.Ytcbpckbehdaloaa.fnExactDrvBack
