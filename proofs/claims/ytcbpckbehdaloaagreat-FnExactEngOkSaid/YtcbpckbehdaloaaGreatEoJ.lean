/- FnExactEngOk returns true at every input; the input reads afterwards as it did. No condition beyond the row. -/
import Derived.Test.YtcbpckbehdaloaaGreatRows
import Derived.Test.YtcbpckbehdaloaaGreatChecked
import Derived.Test.YtcbpckbehdaloaaGreatEoPEngOk
import Derived.Test.YtcbpckbehdaloaaGreatAmW
import Derived.WalkKit
import Derived.ProofKit
import Derived.OpenShut
set_option linter.unusedSimpArgs false
set_option maxRecDepth 100000
set_option linter.unusedVariables false
namespace Go.Proofs.YtcbpckbehdaloaaGreat.fnExactEngOk
open Go Go.Am Go.ChangeShapes Go.WideShapes Go.ChangeAt Go.RowKit

theorem own : ownKnob Tryz.prog.godebug = none := by kernel_rfl
theorem laidOut : laidOutB Tryz.prog = true := by kernel_rfl

theorem contract (H : Type) (enc : TypeId × Value → H) (W : World) (base : Nat) (args : Array Value) (ds gs : List (DataW H)) (before : List MemPlace)
    (hval : ∀ (j : Nat) t v, Tryz.f6.params[j]? = some t → args[j]? = some v → Value.okWide Tryz.prog W .any base t v)
    (hW : DataW.Whole enc Tryz.prog Tryz.f6.params.toList Rows.fnExactEngOkSpec.vars false W args.toList ds gs before) :
    Calls Tryz.prog 6 args W fun e W2 => ∃ v, e = .returned v ∧ Rows.fnExactEngOkSpec.post enc Tryz.prog Tryz.f6 false true false false W args v W2 := by
  have hW1 := hW
  obtain ⟨p, q, hA0, _⟩ := hW
  have hA : DataW.TrodAll enc Tryz.prog W 0 (fun _ => true) true Tryz.f6.params.toList args.toList ds p := hA0
  rw [Tryz.params6] at hA hval
  obtain ⟨v0, vs0, d0, ds0, p0, q0, hargs0, hds0, hps0, h0, r0⟩ := trodAll_cons hA
  obtain ⟨rfl, rfl, rfl⟩ := trodAll_nil r0
  subst hds0
  obtain rfl : args = #[v0] := by cases args; simp_all
  obtain ⟨cs0, rfl⟩ := ok_struct Tryz.underlying27 (hval 0 27 v0 rfl rfl)
  obtain ⟨l0, k0, s0⟩ := (o_GHouse W).row h0
  refine (law_calls (Go.Am.Pl.k_EngOk l0 (GHouse.ok_lens k0)) (args_cons s0 args_nil)).mono fun e W2 ⟨he, hf⟩ => ?_
  subst he
  refine ⟨_, rfl, law_post hW1 rfl hf rfl Tryz.underlying4 laidOut ?_ rfl⟩
  intro t ht
  rw [Tryz.params6] at ht
  simp only [List.mem_cons, List.not_mem_nil, or_false] at ht
  rcases ht with rfl <;> exact ⟨by kernel_rfl, of_decide_eq_true (by kernel_rfl)⟩

theorem lifted (os : Os) (started : os.Started) (H : Type) (enc : TypeId × Value → H) :
    ReturnsInHanded {} Tryz.checked os 6 .any (Rows.fnExactEngOkSpec.pre6 enc Tryz.prog Tryz.f6 Rows.fnExactEngOkRow.domain false) (Rows.fnExactEngOkSpec.post enc Tryz.prog Tryz.f6 false true false false) := by
  refine returnsInHanded_of_change (C := Tryz.checked) own started (by kernel_rfl) Tryz.func6
    (ChangeSpec.witness6 (enc := enc) (C := Tryz.checked) false ⟨#[], #[.agg #[.slice none 0 0, .slice none 0 0, .slice none 0 0, .slice none 0 0]], []⟩ 8 (by kernel_rfl) (by kernel_rfl) (by kernel_rfl) (by kernel_rfl)) ?_
  intro W base args ds gs before hval hW _ _
  exact contract H enc W base args ds gs before hval hW

theorem proved : Rows.FnExactEngOkSaid :=
  OpenClaim.holds_of_wide 6 Tryz.f6 rfl rfl rfl rfl rfl rfl rfl ⟨rfl, rfl, rfl, rfl, rfl⟩ rfl rfl rfl rfl rfl (by kernel_rfl) Tryz.func6 (by kernel_rfl)
    (of_decide_eq_true (by kernel_rfl)) (by unfold Func.isWrapper; first | (rw [if_pos (by decide +kernel)]; kernel_rfl) | (rw [if_neg (by decide +kernel)]; exact ⟨rfl, rfl⟩))
    (fun os started H enc _ => lifted os started H enc)
end Go.Proofs.YtcbpckbehdaloaaGreat.fnExactEngOk
