/- FnExactEngDo returns true at every input; the input reads afterwards as it did. No condition beyond the row. -/
import Derived.Test.YtcbpckbehdaloaaGreatRows
import Derived.Test.YtcbpckbehdaloaaGreatChecked
import Derived.Test.YtcbpckbehdaloaaGreatEdL1
import Derived.WalkKit
import Derived.ProofKit
import Derived.OpenShut
set_option linter.unusedSimpArgs false
set_option maxRecDepth 100000
set_option linter.unusedVariables false
namespace Go.Proofs.YtcbpckbehdaloaaGreat.fnExactEngDo
open Go Go.Am Go.ChangeShapes Go.WideShapes Go.ChangeAt Go.RowKit
theorem own : ownKnob Tryz.prog.godebug = none := by kernel_rfl
theorem laidOut : laidOutB Tryz.prog = true := by kernel_rfl
theorem kk (l0 : GHouse) (h0 : GHouse.lens (· ≤ 9223372036854775807) l0) (l1 : GReq) (h1 : GReq.lens (· ≤ 9223372036854775807) l1) : FnP Tryz.prog 3 [.row (GHouse.cells false l0), .row (GReq.cells false l1)] [.c (cB true)] :=
  z0w7.2 (l0, l1, ()) _ true ⟨_, _, rfl, rfl, ⟨_, _, rfl, rfl, rfl⟩⟩ (Go.Am.Pl.law_EngDo l0 l1 h0 h1)
theorem contract (H : Type) (enc : TypeId × Value → H) (W : World) (base : Nat) (args : Array Value) (ds gs : List (DataW H)) (before : List MemPlace)
    (hval : ∀ (j : Nat) t v, Tryz.f3.params[j]? = some t → args[j]? = some v → Value.okWide Tryz.prog W .any base t v)
    (hW : DataW.Whole enc Tryz.prog Tryz.f3.params.toList Rows.fnExactEngDoSpec.vars false W args.toList ds gs before) :
    Calls Tryz.prog 3 args W fun e W2 => ∃ v, e = .returned v ∧ Rows.fnExactEngDoSpec.post enc Tryz.prog Tryz.f3 false true false false W args v W2 := by
  have hW1 := hW
  obtain ⟨p, q, hA0, _⟩ := hW
  have hA : DataW.TrodAll enc Tryz.prog W 0 (fun _ => true) true Tryz.f3.params.toList args.toList ds p := hA0
  rw [Tryz.params3] at hA hval
  obtain ⟨v0, vs0, d0, ds0, p0, q0, hargs0, hds0, hps0, h0, r0⟩ := trodAll_cons hA
  obtain ⟨v1, vs1, d1, ds1, p1, q1, hargs1, hds1, hps1, h1, r1⟩ := trodAll_cons r0
  obtain ⟨rfl, rfl, rfl⟩ := trodAll_nil r1
  subst hargs1 hds1
  subst hds0
  obtain rfl : args = #[v0, v1] := by cases args; simp_all
  obtain ⟨cs0, rfl⟩ := z1sa Tryz.underlying27 (hval 0 27 v0 rfl rfl)
  obtain ⟨l0, k0, s0⟩ := (o_GHouse W).row h0
  obtain ⟨cs1, rfl⟩ := z1sa Tryz.underlying31 (hval 1 31 v1 rfl rfl)
  obtain ⟨l1, k1, s1⟩ := (o_GReq W).row h1
  refine (z20u (kk l0 (GHouse.ok_lens k0) l1 (GReq.ok_lens k1)) (z1rd s0 (z1rd s1 z23a))).mono fun e W2 ⟨he, hf⟩ => ?_
  subst he
  refine ⟨_, rfl, z241 hW1 rfl hf rfl Tryz.underlying4 laidOut ?_ rfl⟩
  intro t ht
  rw [Tryz.params3] at ht
  simp only [List.mem_cons, List.not_mem_nil, or_false] at ht
  rcases ht with rfl | rfl <;> exact ⟨by kernel_rfl, of_decide_eq_true (by kernel_rfl)⟩
theorem lifted (os : Os) (started : os.Started) (H : Type) (enc : TypeId × Value → H) :
    ReturnsInHanded {} Tryz.checked os 3 .any (Rows.fnExactEngDoSpec.pre6 enc Tryz.prog Tryz.f3 Rows.fnExactEngDoRow.domain false) (Rows.fnExactEngDoSpec.post enc Tryz.prog Tryz.f3 false true false false) := by
  refine returnsInHanded_of_change (C := Tryz.checked) own started (by kernel_rfl) Tryz.func3
    (ChangeSpec.witness6 (enc := enc) (C := Tryz.checked) false ⟨#[], #[.agg #[.slice none 0 0, .slice none 0 0, .slice none 0 0, .slice none 0 0], .agg #[.int .i64 0, .int .i64 0, .int .i64 0, .int .i64 0, .int .i64 0, .int .i64 0, .slice none 0 0, .int .i64 0, .int .i64 0, .int .i64 0, .int .i64 0]], []⟩ 8 (by kernel_rfl) (by kernel_rfl) (by kernel_rfl) (by kernel_rfl)) ?_
  intro W base args ds gs before hval hW _ _
  exact contract H enc W base args ds gs before hval hW
theorem proved : Rows.FnExactEngDoSaid :=
  OpenClaim.holds_of_wide 3 Tryz.f3 rfl rfl rfl rfl rfl rfl rfl ⟨rfl, rfl, rfl, rfl, rfl⟩ rfl rfl rfl rfl rfl (by kernel_rfl) Tryz.func3 (by kernel_rfl)
    (of_decide_eq_true (by kernel_rfl)) (by unfold Func.isWrapper; first | (rw [if_pos (by decide +kernel)]; kernel_rfl) | (rw [if_neg (by decide +kernel)]; exact ⟨rfl, rfl⟩))
    (fun os started H enc _ => lifted os started H enc)
end Go.Proofs.YtcbpckbehdaloaaGreat.fnExactEngDo
