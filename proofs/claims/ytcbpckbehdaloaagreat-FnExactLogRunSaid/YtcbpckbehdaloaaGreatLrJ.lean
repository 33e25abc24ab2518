/- FnExactLogRun returns true at every input; the input reads afterwards as it did. No condition beyond the row. -/
import Derived.Test.YtcbpckbehdaloaaGreatRows
import Derived.Test.YtcbpckbehdaloaaGreatChecked
import Derived.Test.YtcbpckbehdaloaaGreatLrL1
import Derived.WalkKit
import Derived.ProofKit
import Derived.OpenShut
set_option linter.unusedSimpArgs false
set_option maxRecDepth 100000
set_option linter.unusedVariables false
namespace Go.Proofs.YtcbpckbehdaloaaGreat.fnExactLogRun
open Go Go.Am Go.ChangeShapes Go.WideShapes Go.ChangeAt Go.RowKit
theorem own : ownKnob Tryz.prog.godebug = none := by kernel_rfl
theorem laidOut : laidOutB Tryz.prog = true := by kernel_rfl
theorem kk (l0 : GHouse) (h0 : GHouse.lens (· ≤ 9223372036854775807) l0) (l1 : List GReq) (h1 : l1.length ≤ 9223372036854775807) (g1 : ∀ y ∈ l1, GReq.lens (· ≤ 9223372036854775807) y) : FnP Tryz.prog 5 [.row (GHouse.cells false l0), .c (.sl false 11 (l1.map (GReq.cells false)))] [.c (cB true)] :=
  z0ty.2 (l0, l1, ()) _ true ⟨_, _, rfl, rfl, ⟨_, _, rfl, rfl, rfl⟩⟩ (Go.Am.Pl.law_LogRun l0 l1 h0 h1 g1)
theorem contract (H : Type) (enc : TypeId × Value → H) (W : World) (base : Nat) (args : Array Value) (ds gs : List (DataW H)) (before : List MemPlace)
    (hval : ∀ (j : Nat) t v, Tryz.f5.params[j]? = some t → args[j]? = some v → Value.okWide Tryz.prog W .any base t v)
    (hW : DataW.Whole enc Tryz.prog Tryz.f5.params.toList Rows.fnExactLogRunSpec.vars false W args.toList ds gs before) :
    Calls Tryz.prog 5 args W fun e W2 => ∃ v, e = .returned v ∧ Rows.fnExactLogRunSpec.post enc Tryz.prog Tryz.f5 false true false false W args v W2 := by
  have hW1 := hW
  obtain ⟨p, q, hA0, _⟩ := hW
  have hA : DataW.TrodAll enc Tryz.prog W 0 (fun _ => true) true Tryz.f5.params.toList args.toList ds p := hA0
  rw [Tryz.params5] at hA hval
  obtain ⟨v0, vs0, d0, ds0, p0, q0, hargs0, hds0, hps0, h0, r0⟩ := trodAll_cons hA
  obtain ⟨v1, vs1, d1, ds1, p1, q1, hargs1, hds1, hps1, h1, r1⟩ := trodAll_cons r0
  obtain ⟨rfl, rfl, rfl⟩ := trodAll_nil r1
  subst hargs1 hds1
  subst hds0
  obtain rfl : args = #[v0, v1] := by cases args; simp_all
  obtain ⟨cs0, rfl⟩ := z25t Tryz.underlying27 (hval 0 27 v0 rfl rfl)
  obtain ⟨l0, k0, s0⟩ := (o_GHouse W).row h0
  obtain ⟨l1, k1, s1⟩ := (o_GReqS W).cell (z284 Tryz.underlying51 (hval 1 51 v1 rfl rfl)) h1
  refine (z24x (kk l0 (GHouse.ok_lens k0) l1 k1.1 (fun y hy => GReq.ok_lens (k1.2 y hy))) (z1vw s0 (z1vw s1 z27f))).mono fun e W2 ⟨he, hf⟩ => ?_
  subst he
  refine ⟨_, rfl, z27u hW1 rfl hf rfl Tryz.underlying4 laidOut ?_ rfl⟩
  intro t ht
  rw [Tryz.params5] at ht
  simp only [List.mem_cons, List.not_mem_nil, or_false] at ht
  rcases ht with rfl | rfl <;> exact ⟨by kernel_rfl, of_decide_eq_true (by kernel_rfl)⟩
theorem lifted (os : Os) (started : os.Started) (H : Type) (enc : TypeId × Value → H) :
    ReturnsInHanded {} Tryz.checked os 5 .any (Rows.fnExactLogRunSpec.pre6 enc Tryz.prog Tryz.f5 Rows.fnExactLogRunRow.domain false) (Rows.fnExactLogRunSpec.post enc Tryz.prog Tryz.f5 false true false false) := by
  refine returnsInHanded_of_change (C := Tryz.checked) own started (by kernel_rfl) Tryz.func5
    (ChangeSpec.witness6 (enc := enc) (C := Tryz.checked) false ⟨#[], #[.agg #[.slice none 0 0, .slice none 0 0, .slice none 0 0, .slice none 0 0], .slice none 0 0], []⟩ 8 (by kernel_rfl) (by kernel_rfl) (by kernel_rfl) (by kernel_rfl)) ?_
  intro W base args ds gs before hval hW _ _
  exact contract H enc W base args ds gs before hval hW
theorem proved : Rows.FnExactLogRunSaid :=
  OpenClaim.holds_of_wide 5 Tryz.f5 rfl rfl rfl rfl rfl rfl rfl ⟨rfl, rfl, rfl, rfl, rfl⟩ rfl rfl rfl rfl rfl (by kernel_rfl) Tryz.func5 (by kernel_rfl)
    (of_decide_eq_true (by kernel_rfl)) (by unfold Func.isWrapper; first | (rw [if_pos (by decide +kernel)]; kernel_rfl) | (rw [if_neg (by decide +kernel)]; exact ⟨rfl, rfl⟩))
    (fun os started H enc _ => lifted os started H enc)
end Go.Proofs.YtcbpckbehdaloaaGreat.fnExactLogRun
