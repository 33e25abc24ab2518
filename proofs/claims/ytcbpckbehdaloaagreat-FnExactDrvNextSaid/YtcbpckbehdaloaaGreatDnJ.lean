/- FnExactDrvNext returns true at every input; the input reads afterwards as it did. No condition beyond the row. -/
import Derived.Test.YtcbpckbehdaloaaGreatRows
import Derived.Test.YtcbpckbehdaloaaGreatChecked
import Derived.Test.YtcbpckbehdaloaaGreatDnL1
import Derived.WalkKit
import Derived.ProofKit
import Derived.OpenShut
set_option linter.unusedSimpArgs false
set_option maxRecDepth 100000
set_option linter.unusedVariables false
namespace Go.Proofs.YtcbpckbehdaloaaGreat.fnExactDrvNext
open Go Go.Am Go.ChangeShapes Go.WideShapes Go.ChangeAt Go.RowKit

theorem own : ownKnob Tryz.prog.godebug = none := by kernel_rfl
theorem laidOut : laidOutB Tryz.prog = true := by kernel_rfl
theorem kk (l0 : GNet) (h0 : GNet.lens (· ≤ 9223372036854775807) l0) (l1 : List Int) (h1 : l1.length ≤ 9223372036854775807) (l2 : GCase) (h2 : GCase.lens (· ≤ 9223372036854775807) l2) : FnP Tryz.prog 9 [.row (GNet.cells false l0), .c (cIs false l1), .row (GCase.cells false l2)] [.c (cB true)] :=
  o_laws_FnExactDrvNext.2 (l0, l1, l2, ()) _ true ⟨_, _, rfl, rfl, ⟨_, _, rfl, rfl, ⟨_, _, rfl, rfl, rfl⟩⟩⟩ (Go.Am.Pl.law_DrvNext l0 l1 l2 h0 h1 h2)

theorem contract (H : Type) (enc : TypeId × Value → H) (W : World) (base : Nat) (args : Array Value) (ds gs : List (DataW H)) (before : List MemPlace)
    (hval : ∀ (j : Nat) t v, Tryz.f9.params[j]? = some t → args[j]? = some v → Value.okWide Tryz.prog W .any base t v)
    (hW : DataW.Whole enc Tryz.prog Tryz.f9.params.toList Rows.fnExactDrvNextSpec.vars false W args.toList ds gs before) :
    Calls Tryz.prog 9 args W fun e W2 => ∃ v, e = .returned v ∧ Rows.fnExactDrvNextSpec.post enc Tryz.prog Tryz.f9 false true false false W args v W2 := by
  have hW1 := hW
  obtain ⟨p, q, hA0, _⟩ := hW
  have hA : DataW.TrodAll enc Tryz.prog W 0 (fun _ => true) true Tryz.f9.params.toList args.toList ds p := hA0
  rw [Tryz.params9] at hA hval
  obtain ⟨v0, vs0, d0, ds0, p0, q0, hargs0, hds0, hps0, h0, r0⟩ := trodAll_cons hA
  obtain ⟨v1, vs1, d1, ds1, p1, q1, hargs1, hds1, hps1, h1, r1⟩ := trodAll_cons r0
  obtain ⟨v2, vs2, d2, ds2, p2, q2, hargs2, hds2, hps2, h2, r2⟩ := trodAll_cons r1
  obtain ⟨rfl, rfl, rfl⟩ := trodAll_nil r2
  subst hargs2 hds2
  subst hargs1 hds1
  subst hds0
  obtain rfl : args = #[v0, v1, v2] := by cases args; simp_all
  obtain ⟨cs0, rfl⟩ := ok_struct Tryz.underlying66 (hval 0 66 v0 rfl rfl)
  obtain ⟨l0, k0, s0⟩ := (o_GNet W).row h0
  obtain ⟨l1, k1, s1⟩ := (o_ints W).cell (ok_slice Tryz.underlying23 (hval 1 23 v1 rfl rfl)) h1
  obtain ⟨cs2, rfl⟩ := ok_struct Tryz.underlying70 (hval 2 70 v2 rfl rfl)
  obtain ⟨l2, k2, s2⟩ := (o_GCase W).row h2
  refine (law_calls (kk l0 (GNet.ok_lens k0) l1 k1.1 l2 (GCase.ok_lens k2)) (args_cons s0 (args_cons s1 (args_cons s2 args_nil)))).mono fun e W2 ⟨he, hf⟩ => ?_
  subst he
  refine ⟨_, rfl, law_post hW1 rfl hf rfl Tryz.underlying4 laidOut ?_ rfl⟩
  intro t ht
  rw [Tryz.params9] at ht
  simp only [List.mem_cons, List.not_mem_nil, or_false] at ht
  rcases ht with rfl | rfl | rfl <;> exact ⟨by kernel_rfl, of_decide_eq_true (by kernel_rfl)⟩

theorem lifted (os : Os) (started : os.Started) (H : Type) (enc : TypeId × Value → H) :
    ReturnsInHanded {} Tryz.checked os 9 .any (Rows.fnExactDrvNextSpec.pre6 enc Tryz.prog Tryz.f9 Rows.fnExactDrvNextRow.domain false) (Rows.fnExactDrvNextSpec.post enc Tryz.prog Tryz.f9 false true false false) := by
  refine returnsInHanded_of_change (C := Tryz.checked) own started (by kernel_rfl) Tryz.func9
    (ChangeSpec.witness6 (enc := enc) (C := Tryz.checked) false ⟨#[], #[.agg #[.int .i64 0, .slice none 0 0], .slice none 0 0, .agg #[.int .i64 0, .slice none 0 0, .slice none 0 0, .slice none 0 0, .slice none 0 0]], []⟩ 8 (by kernel_rfl) (by kernel_rfl) (by kernel_rfl) (by kernel_rfl)) ?_
  intro W base args ds gs before hval hW _ _
  exact contract H enc W base args ds gs before hval hW

theorem proved : Rows.FnExactDrvNextSaid :=
  OpenClaim.holds_of_wide 9 Tryz.f9 rfl rfl rfl rfl rfl rfl rfl ⟨rfl, rfl, rfl, rfl, rfl⟩ rfl rfl rfl rfl rfl (by kernel_rfl) Tryz.func9 (by kernel_rfl)
    (of_decide_eq_true (by kernel_rfl)) (by unfold Func.isWrapper; first | (rw [if_pos (by decide +kernel)]; kernel_rfl) | (rw [if_neg (by decide +kernel)]; exact ⟨rfl, rfl⟩))
    (fun os started H enc _ => lifted os started H enc)
end Go.Proofs.YtcbpckbehdaloaaGreat.fnExactDrvNext
