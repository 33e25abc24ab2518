/- FnExactLogOk returns true at every input; the input reads afterwards as it did. No condition beyond the row. -/
import Derived.Test.YtcbpckbehdaloaaRows
import Derived.Test.YtcbpckbehdaloaaChecked
import Derived.Test.YtcbpckbehdaloaaLoL1
import Derived.WalkKit
import Derived.ProofKit
import Derived.OpenShut
set_option linter.unusedSimpArgs false
set_option maxRecDepth 100000
set_option linter.unusedVariables false
namespace Go.Proofs.Ytcbpckbehdaloaa.fnExactLogOk
open Go Go.Am Go.ChangeShapes Go.WideShapes Go.ChangeAt Go.RowKit

theorem own : ownKnob Try.prog.godebug = none := by kernel_rfl
theorem laidOut : laidOutB Try.prog = true := by kernel_rfl
theorem kk (l0 : List GReq) (h0 : l0.length ≤ 9223372036854775807) (g0 : ∀ y ∈ l0, GReq.lens (· ≤ 9223372036854775807) y) : FnP Try.prog 5 [.c (.sl false 11 (l0.map (GReq.cells false)))] [.c (cB true)] :=
  o_laws_FnExactLogOk.2 (l0, ()) _ true ⟨_, _, rfl, rfl, rfl⟩ (Go.Am.Pl.law_LogOk l0 h0 g0)

theorem contract (H : Type) (enc : TypeId × Value → H) (W : World) (base : Nat) (args : Array Value) (ds gs : List (DataW H)) (before : List MemPlace)
    (hval : ∀ (j : Nat) t v, Try.f5.params[j]? = some t → args[j]? = some v → Value.okWide Try.prog W .any base t v)
    (hW : DataW.Whole enc Try.prog Try.f5.params.toList Rows.fnExactLogOkSpec.vars false W args.toList ds gs before) :
    Calls Try.prog 5 args W fun e W2 => ∃ v, e = .returned v ∧ Rows.fnExactLogOkSpec.post enc Try.prog Try.f5 false true false false W args v W2 := by
  have hW1 := hW
  obtain ⟨p, q, hA0, _⟩ := hW
  have hA : DataW.TrodAll enc Try.prog W 0 (fun _ => true) true Try.f5.params.toList args.toList ds p := hA0
  rw [Try.params5] at hA hval
  obtain ⟨v0, vs0, d0, ds0, p0, q0, hargs0, hds0, hps0, h0, r0⟩ := trodAll_cons hA
  obtain ⟨rfl, rfl, rfl⟩ := trodAll_nil r0
  subst hds0
  obtain rfl : args = #[v0] := by cases args; simp_all
  obtain ⟨l0, k0, s0⟩ := (o_GReqS W).cell (ok_slice Try.underlying22 (hval 0 22 v0 rfl rfl)) h0
  refine (law_calls (kk l0 k0.1 (fun y hy => GReq.ok_lens (k0.2 y hy))) (args_cons s0 args_nil)).mono fun e W2 ⟨he, hf⟩ => ?_
  subst he
  refine ⟨_, rfl, law_post hW1 rfl hf rfl Try.underlying4 laidOut ?_ rfl⟩
  intro t ht
  rw [Try.params5] at ht
  simp only [List.mem_cons, List.not_mem_nil, or_false] at ht
  rcases ht with rfl <;> exact ⟨by kernel_rfl, of_decide_eq_true (by kernel_rfl)⟩

theorem lifted (os : Os) (started : os.Started) (H : Type) (enc : TypeId × Value → H) :
    ReturnsInHanded {} Try.checked os 5 .any (Rows.fnExactLogOkSpec.pre6 enc Try.prog Try.f5 Rows.fnExactLogOkRow.domain false) (Rows.fnExactLogOkSpec.post enc Try.prog Try.f5 false true false false) := by
  refine returnsInHanded_of_change (C := Try.checked) own started (by kernel_rfl) Try.func5
    (ChangeSpec.witness6 (enc := enc) (C := Try.checked) false ⟨#[], #[.slice none 0 0], []⟩ 8 (by kernel_rfl) (by kernel_rfl) (by kernel_rfl) (by kernel_rfl)) ?_
  intro W base args ds gs before hval hW _ _
  exact contract H enc W base args ds gs before hval hW

theorem proved : Rows.FnExactLogOkSaid :=
  OpenClaim.holds_of_wide 5 Try.f5 rfl rfl rfl rfl rfl rfl rfl ⟨rfl, rfl, rfl, rfl, rfl⟩ rfl rfl rfl rfl rfl (by kernel_rfl) Try.func5 (by kernel_rfl)
    (of_decide_eq_true (by kernel_rfl)) (by unfold Func.isWrapper; first | (rw [if_pos (by decide +kernel)]; kernel_rfl) | (rw [if_neg (by decide +kernel)]; exact ⟨rfl, rfl⟩))
    (fun os started H enc _ => lifted os started H enc)
end Go.Proofs.Ytcbpckbehdaloaa.fnExactLogOk
