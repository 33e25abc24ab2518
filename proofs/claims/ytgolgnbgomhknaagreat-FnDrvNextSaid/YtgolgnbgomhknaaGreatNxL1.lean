/- The plain law. Own work. -/
import Derived.Test.YtgolgnbgomhknaaGreatNxP2
set_option maxRecDepth 100000
set_option linter.unusedVariables false
set_option linter.unusedSimpArgs false
section
namespace Go.Am.Pl
open Go
noncomputable def canN (n : GNet) (p : List Int) (c : GCase) (t : Int) : Bool := enaB n c.marks c.busy t && decide (0 < ((mayB n p c.did c.busy t).length : Int))
theorem we6 {n : GNet} {p : List Int} {c : GCase} (sn : n.small) (sp : p.length ≤ SMALL) (sc : c.small) {kx : Bool → Option Bool} (hk : kx ((nats n.tasks.length).any (canN n p c)) = some true) : z0i p n c kx FUEL false 0 = some true :=
  scan (nats n.tasks.length) (by rw [z8r]; have := sn.1; unfold SMALL at this; omega) (fun f i s => z0i p n c kx f s i) (fun _ _ _ => some true) (fun pre s => s = pre.any (canN n p c))
    (fun f s hi => by
      have hi : s = (nats n.tasks.length).any (canN n p c) := hi
      show z0i p n c kx (f + 1) s ((nats n.tasks.length).length : Int) = some true
      rw [z0i, if_neg (by rw [z8r]; simp), hi]; exact hk)
    (fun f pre x suf s a b g d hi k => by
      rw [z8r] at g
      have hx := w0b b
      have hi : s = pre.any (canN n p c) := hi
      show z0i p n c kx (f + 1) s (pre.length : Int) = some true
      rw [z0i, if_pos (zT g)]
      by_cases hs : s = true
      · rw [if_pos hs, z01 d]
        exact k true (by rw [List.any_append, ← hi, hs]; rfl)
      · rw [if_neg hs, yf7 n c.marks c.busy _ sn sc.1 sc.2.1, zB]
        have e : (pre ++ [x]).any (canN n p c) = canN n p c (pre.length : Int) := by
          rw [List.any_append, ← hi, zF.2 hs, Bool.false_or, ← hx]; simp
        by_cases he : enaB n c.marks c.busy (pre.length : Int) = true
        · rw [if_pos he, zu8 n p c.did c.busy _ sn sp sc.2.2.2 sc.2.1, zB, z01 d]
          refine k _ ?_
          rw [e]; unfold canN; rw [he]; rfl
        · rw [if_neg he, z01 d]
          refine k _ ?_
          rw [e]; unfold canN; rw [zF.2 he]; rfl) FUEL false rfl (by rw [z8r]; have := z2d; have := sn.1; unfold SMALL at this; omega)
theorem w83 {n : GNet} {p : List Int} {c : GCase} : (nats n.tasks.length).any (canN n p c) = !decide (pairs n p c (tasksB n c.marks c.busy) = []) := by
  by_cases h : pairs n p c (tasksB n c.marks c.busy) = []
  · rw [zT h, Bool.not_true, List.any_eq_false]
    intro t ht hc
    unfold canN at hc
    rw [zA, zE] at hc
    unfold pairs at h
    rw [List.flatMap_eq_nil_iff] at h
    have := h t (List.mem_filter.2 ⟨ht, hc.1⟩)
    rw [List.map_eq_nil_iff] at this
    rw [this] at hc; simp at hc
  · rw [decide_eq_false h, Bool.not_false, List.any_eq_true]
    obtain ⟨d, hd⟩ := List.exists_mem_of_ne_nil _ h
    unfold pairs at hd
    obtain ⟨t, ht, hm⟩ := List.mem_flatMap.1 hd
    obtain ⟨a, b⟩ := List.mem_filter.1 ht
    refine ⟨t, a, ?_⟩
    unfold canN
    rw [b, Bool.true_and, zE]
    obtain ⟨w, hw, _⟩ := zQ.1 hm
    have := List.length_pos_of_mem hw
    omega
theorem law_FnDrvNext (code : List Int) (hl : code.length ≤ 9223372036854775807) (hb : ∀ y ∈ code, 0 ≤ y ∧ y ≤ 255) : zb4 code = some true := by
  unfold zb4
  by_cases hz : 1048576 < (code.length : Int)
  · rw [if_pos (zT hz)]
  rw [if_neg (by simpa using hz)]
  obtain ⟨⟨n, p, c⟩, e, hn, hp, hc⟩ := drawDrvNext code hb
  dsimp only at hn hp hc
  have sn := hn.small
  have sc := hc.small (by omega)
  have sp : p.length ≤ SMALL := by unfold SMALL; omega
  have sx := (w9b n p c).small sc
  rw [e, zB]
  dsimp only
  rw [w2v n p c sn sp sc, zB, w41 n p c sn sp sc, zB, w02 _ _ sx, zB, if_pos (by simp), if_pos (by simp), y2z n c sn sc, zB]
  have no : nextB n p c = (c, false) → (if (nextB n p c).2 = true then (some false) else ((z2y (nextB n p c).1 c).bind fun x35 => (if x35 = true then ((z78).bind fun x37 => (some x37)) else (some false)))) = some true := fun hf => by
    rw [hf, if_neg (by simp), w02 _ _ sc, zB, if_pos (by simp), gu_Ok, zB]
  by_cases h1 : casB n c = true
  case neg => rw [if_neg h1]; exact no (by unfold nextB; rw [zF.2 h1]; rfl)
  rw [if_pos h1, y32 p sp, zB]
  by_cases h2 : pplB p = true
  case neg => rw [if_neg h2]; exact no (by unfold nextB; rw [zF.2 h2]; cases casB n c <;> rfl)
  rw [if_pos h2]
  by_cases h3 : c.state = 1
  case neg => rw [if_neg (by simpa using h3)]; exact no (by unfold nextB; rw [decide_eq_false h3]; cases casB n c <;> cases pplB p <;> rfl)
  rw [if_pos (zT h3)]
  have e1 : nextB n p c = if 0 < c.busy.length then workB n c 0 (-1) 0 else pickB n p c (pairs n p c (tasksB n c.marks c.busy)) := by unfold nextB; rw [h1, h2, zT h3]; rfl
  by_cases h4 : 0 < c.busy.length
  · rw [if_pos h4] at e1
    rw [if_pos (by rw [zE]; omega), y8c n c 0 (-1) 0 sn sc, zB, e1, if_pos (by simp), w02 _ _ ((yk6 n c 0 (-1) 0).small sc), zB]; simp
  rw [if_neg h4] at e1
  rw [if_neg (by rw [zE]; omega)]
  refine we6 sn sp sc ?_
  rw [w83]
  unfold zg6
  cases hp2 : pairs n p c (tasksB n c.marks c.busy) with
  | nil =>
    have e2 : nextB n p c = (c, false) := by rw [e1, hp2]; rfl
    rw [e2, if_pos (by simp), if_neg (by simp), show GCase.mk c.state c.marks c.busy c.data c.did = c from rfl, w02 _ _ sc, zB, if_pos (by simp)]
  | cons d l =>
    have hd : d ∈ pairs n p c (tasksB n c.marks c.busy) := by rw [hp2]; simp
    unfold pairs at hd
    obtain ⟨t, ht, hm⟩ := List.mem_flatMap.1 hd
    obtain ⟨a, b⟩ := List.mem_filter.1 ht
    obtain ⟨w, hw, rfl⟩ := zQ.1 hm
    have S : StartF n p c t w := ⟨h1, h3, b, hw, by omega⟩
    have e2 : nextB n p c = (begun n c t w, true) := by
      rw [e1, hp2]
      show startB n p c t w = _
      unfold startB; rw [w5j.2 S]; rfl
    have hb0 : c.busy = [] := List.length_eq_zero_iff.1 (by omega)
    have e3 : (begun n c t w).busy = [GItem.mk t w 0] := by show c.busy ++ [_] = _; rw [hb0]; rfl
    have e4 : getI [GItem.mk t w 0] 0 = some (GItem.mk t w 0) := rfl
    have hml : (mayB n p c.did c.busy t).length ≤ SMALL := by have := yb2 n p c.did c.busy t; unfold SMALL; omega
    rw [e2, if_pos (by simp), if_pos rfl]
    dsimp only
    rw [e3, if_pos (by simp), e4, zB, zu8 n p c.did c.busy t sn sp sc.2.2.2 sc.2.1, zB, zB, wp6 _ _ hml, zB]
    congr 1
    rw [List.any_eq_true]; exact ⟨w, hw, by simp⟩
end Go.Am.Pl
end
