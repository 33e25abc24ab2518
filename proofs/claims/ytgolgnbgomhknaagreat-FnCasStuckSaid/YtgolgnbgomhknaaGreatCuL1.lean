/- The plain law. Own work. -/
import Derived.Test.YtgolgnbgomhknaaGreatCuP2
set_option maxRecDepth 100000
set_option linter.unusedVariables false
set_option linter.unusedSimpArgs false
section
namespace Go.Am.Pl
open Go
noncomputable def stuckB (n : GNet) (c : GCase) : Bool := casB n c && (decide (c.state = 1) && (decide (c.busy = []) && decide (tasksB n c.marks [] = [])))
theorem lenZ {α : Type} {l : List α} : (l.length : Int) = 0 ↔ l = [] := by rw [← List.length_eq_zero_iff]; omega
theorem yu1 (n : GNet) (c : GCase) (sn : n.small) (sc : c.small) : z7a n c = some (stuckB n c) := by
  unfold z7a stuckB
  rw [y10 n c sn sc, Option.bind_some]
  by_cases h1 : casB n c = true
  case neg => rw [if_neg h1, Bool.eq_false_iff.2 h1]; rfl
  rw [if_pos h1, h1]
  by_cases h2 : c.state = 1
  case neg => rw [if_neg (by simpa using h2), decide_eq_false h2]; rfl
  rw [if_pos (decide_eq_true h2), decide_eq_true h2]
  by_cases h3 : c.busy = []
  case neg => rw [if_neg (by rw [decide_eq_true_eq, lenZ]; exact h3), decide_eq_false h3]; rfl
  rw [if_pos (by rw [decide_eq_true_eq, lenZ]; exact h3), decide_eq_true h3, h3, y4i n c.marks [] sn sc.1 (Nat.zero_le _), Option.bind_some, Bool.true_and, Bool.true_and, Bool.true_and]
  exact congrArg some (decide_eq_decide.2 lenZ)
theorem yq3 (n : GNet) (c : GCase) (sn : n.small) (sc : c.small) : z71 n c = some (stuckB n c) := by
  unfold z71 stuckB
  rw [y6a n c sn sc, Option.bind_some]
  by_cases h1 : casB n c = true
  case neg => rw [Bool.eq_false_iff.2 h1]; rfl
  rw [h1]
  by_cases h2 : c.state = 1
  case neg => rw [decide_eq_false h2]; rfl
  rw [decide_eq_true h2, if_pos (by rfl)]
  by_cases h3 : c.busy = []
  case neg => rw [if_neg (by rw [decide_eq_true_eq, lenZ]; exact h3), decide_eq_false h3]; rfl
  rw [if_pos (by rw [decide_eq_true_eq, lenZ]; exact h3), decide_eq_true h3, yq4 n c.marks [] sn sc.1 (Nat.zero_le _), Option.bind_some, Bool.true_and, Bool.true_and, Bool.true_and]
  exact congrArg some (decide_eq_decide.2 lenZ)
theorem w4s {n : GNet} {c : GCase} (sn : n.small) (sc : c.small) {kx : Bool → Option Bool} (hk : kx ((nats n.tasks.length).any (enaB n c.marks c.busy)) = some true) : z0i n c kx FUEL false 0 = some true :=
  scan (nats n.tasks.length) (by rw [z8w]; have := sn.1; unfold SMALL at this; omega) (fun f i s => z0i n c kx f s i) (fun _ _ _ => some true) (fun pre s => s = pre.any (enaB n c.marks c.busy))
    (fun f s hi => by
      have hi : s = (nats n.tasks.length).any (enaB n c.marks c.busy) := hi
      show z0i n c kx (f + 1) s ((nats n.tasks.length).length : Int) = some true
      rw [z0i, if_neg (by rw [z8w]; simp), hi]; exact hk)
    (fun f pre x suf s a b g d hi k => by
      rw [z8w] at g
      have hx := yq8 b
      have hi : s = pre.any (enaB n c.marks c.busy) := hi
      show z0i n c kx (f + 1) s (pre.length : Int) = some true
      rw [z0i, if_pos (decide_eq_true g)]
      by_cases hs : s = true
      · rw [if_pos hs, z01 d]
        exact k true (by rw [List.any_append, ← hi, hs]; rfl)
      · rw [if_neg hs, y95 n c.marks c.busy _ sn sc.1 sc.2.1, Option.bind_some, z01 d]
        refine k _ ?_
        rw [List.any_append, ← hi, Bool.eq_false_iff.2 hs, Bool.false_or, ← hx]; simp) FUEL false rfl (by rw [z8w]; have := z3d; have := sn.1; unfold SMALL at this; omega)
theorem w4t {n : GNet} {c : GCase} : (nats n.tasks.length).any (enaB n c.marks c.busy) = !decide (tasksB n c.marks c.busy = []) := by
  unfold tasksB
  by_cases h : (nats n.tasks.length).filter (enaB n c.marks c.busy) = []
  · rw [decide_eq_true h]
    rw [List.filter_eq_nil_iff] at h
    rw [Bool.not_true, List.any_eq_false]; exact h
  · rw [decide_eq_false h, Bool.not_false, List.any_eq_true]
    obtain ⟨x, hx⟩ := List.exists_mem_of_ne_nil _ h
    obtain ⟨a, b⟩ := List.mem_filter.1 hx
    exact ⟨x, a, b⟩
theorem law_FnCasStuck (code : List Int) (hl : code.length ≤ 9223372036854775807) (hb : ∀ y ∈ code, 0 ≤ y ∧ y ≤ 255) : z8h code = some true := by
  unfold z8h
  by_cases hz : 1048576 < (code.length : Int)
  · rw [if_pos (decide_eq_true hz)]
  rw [if_neg (by simpa using hz)]
  obtain ⟨⟨n, c⟩, e, hn, hc⟩ := drawCasStuck code hb
  dsimp only at hn hc
  have sn := hn.small
  have sc := hc.small (by omega)
  rw [e, Option.bind_some]
  dsimp only
  rw [yq3 n c sn sc, Option.bind_some, yu1 n c sn sc, Option.bind_some, if_pos (by simp), y10 n c sn sc, Option.bind_some]
  by_cases h1 : casB n c = true
  case neg => rw [if_neg h1, if_neg (by unfold stuckB; rw [Bool.eq_false_iff.2 h1]; simp), gu_Ok, Option.bind_some]
  rw [if_pos h1]
  by_cases h2 : c.state = 1
  case neg => rw [if_neg (by simpa using h2), if_neg (by unfold stuckB; rw [decide_eq_false h2]; simp), gu_Ok, Option.bind_some]
  rw [if_pos (decide_eq_true h2)]
  refine w4s sn sc ?_
  have hone := hn.one
  have sp : ([7, 7] : List Int).length ≤ SMALL := by simp [SMALL]
  unfold z9n
  rw [z01 (by omega), yq2 n [7, 7] c _ 1 sn sp sc, Option.bind_some, w4t]
  have quiet : stuckB n c = true → startB n [7, 7] c (Int.tmod (code.length : Int) (n.tasks.length : Int)) 1 = (c, false) := by
    intro hs
    refine w15 fun ht => ?_
    have S := (w2h ht).1
    unfold stuckB at hs
    simp only [Bool.and_eq_true, decide_eq_true_eq] at hs
    obtain ⟨_, _, h3, h4⟩ := hs
    have g := y8d S.ena
    have : Int.tmod (code.length : Int) (n.tasks.length : Int) ∈ tasksB n c.marks c.busy := List.mem_filter.2 ⟨w8t.2 g.2.2, S.ena⟩
    rw [h3, h4] at this; simp at this
  have es : stuckB n c = (decide (c.busy = []) && decide (tasksB n c.marks [] = [])) := by unfold stuckB; rw [h1, decide_eq_true h2]; rfl
  by_cases h3 : c.busy = []
  · rw [if_pos (by rw [decide_eq_true_eq, lenZ]; exact h3)]
    have e5 : stuckB n c = !!decide (tasksB n c.marks c.busy = []) := by rw [es, decide_eq_true h3, Bool.true_and, Bool.not_not, h3]
    rw [if_pos (by rw [← e5]; simp)]
    by_cases hs : stuckB n c = true
    · rw [if_pos hs, quiet hs, if_neg (by simp), wb9 _ _ sc, Option.bind_some]; simp
    · rw [if_neg hs]
  · rw [if_neg (by rw [decide_eq_true_eq, lenZ]; exact h3)]
    have e5 : stuckB n c = false := by rw [es, decide_eq_false h3]; rfl
    rw [e5, if_pos (by simp), if_neg (by simp)]
end Go.Am.Pl
end
