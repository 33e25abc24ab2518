/- The plain law. Own work. -/
import Derived.Test.YtgolgnbgomhknaaEwP2
set_option maxRecDepth 100000
set_option linter.unusedVariables false
set_option linter.unusedSimpArgs false
section
namespace Go.Am.Pl
open Go
theorem w18 (pre : List GRun) (x : GRun) : busyN (pre ++ [x]) = busyN pre + x.case.busy.length := y0m x pre
theorem yl0 : ∀ {l : List GRun}, (∀ r ∈ l, r.case.busy.length ≤ 1048576) → busyN l ≤ 1048576 * l.length
  | [], _ => Nat.zero_le _
  | r :: l, h => by
    have := yl0 (l := l) (fun x hx => h x (by simp [hx]))
    have := h r (by simp)
    simp only [busyN, zC, Nat.mul_add]; omega
theorem w21 {h : GHouse} (hr : h.runs.length ≤ 1000) (hB : busyN h.runs ≤ SMALL) {kx : Int → Option Bool} (hk : kx (busyN h.runs : Nat) = some true) : z0r h kx FUEL 0 0 = some true :=
  scan h.runs (by omega) (fun f i s => z0r h kx f s i) (fun _ _ _ => some true) (fun pre s => s = (busyN pre : Nat))
    (fun f s hi => by
      have hi : s = (busyN h.runs : Nat) := hi
      show z0r h kx (f + 1) s (h.runs.length : Int) = some true
      rw [z0r, if_neg (by simp), hi]; exact hk)
    (fun f pre x suf s a b g d hi k => by
      have hi : s = (busyN pre : Nat) := hi
      have hp := y5o pre x suf
      rw [← a] at hp
      show z0r h kx (f + 1) s (pre.length : Int) = some true
      rw [z0r, if_pos (zT g), b, zB, z03 (by unfold SMALL at hB; constructor <;> omega), z03 d]
      exact k _ (by rw [w18, hi]; omega)) FUEL 0 rfl (by have := z39; omega)
theorem law_FnEngWork (code : List Int) (hl : code.length ≤ 9223372036854775807) (hb : ∀ y ∈ code, 0 ≤ y ∧ y ≤ 255) : z7j code = some true := by
  unfold z7j
  by_cases hz : 1048576 < (code.length : Int)
  · rw [if_pos (zT hz)]
  rw [if_neg (by simpa using hz)]
  obtain ⟨⟨h, who⟩, e, hh, hr6, hbz⟩ := drawEngWork code hb
  dsimp only at hh hr6 hbz
  have sh := y7j hh
  have hB : busyN h.runs ≤ SMALL := by have := yl0 hbz; unfold SMALL; omega
  rw [e, zB]
  dsimp only
  rw [y3f h who sh.2.2.2.1 hB, zB, ys4 h who sh.2.2.2.1 hB, zB, w8z _ _ (Nat.le_trans (z8u who 0 h.runs) hB), zB, if_pos (by simp)]
  refine w21 (by omega) hB ?_
  unfold z8l
  obtain ⟨f, hF⟩ : ∃ f, FUEL = f + 5 := ⟨FUEL - 5, by have := z39; omega⟩
  have L1 := z8u 1 0 h.runs
  have L2 := z8u 2 0 h.runs
  have L3 := z8u 3 0 h.runs
  have L4 := z8u 4 0 h.runs
  unfold SMALL at hB
  have four : ∀ kx : Int → Option Bool, z0x h kx FUEL 0 1 = kx (((workL 1 0 h.runs).length + (workL 2 0 h.runs).length + (workL 3 0 h.runs).length + (workL 4 0 h.runs).length : Nat)) := by
    intro kx
    have st : ∀ (f : Nat) (s i : Int), 0 ≤ s → s ≤ 3 * 1000000000 → 1 ≤ i → i ≤ 4 → z0x h kx (f + 1) s i = z0x h kx f (s + ((workL i 0 h.runs).length : Nat)) (i + 1) := by
      intro f s i s0 s1 i0 i1
      have L := z8u i 0 h.runs
      rw [z0x, if_pos (zT i1), y3f h i sh.2.2.2.1 (by unfold SMALL; omega), zB, z03 (by constructor <;> omega), z03 (by constructor <;> omega)]
    rw [hF, st _ _ _ (by omega) (by omega) (by omega) (by omega), show (1 : Int) + 1 = 2 from rfl, st _ _ _ (by omega) (by omega) (by omega) (by omega), show (2 : Int) + 1 = 3 from rfl, st _ _ _ (by omega) (by omega) (by omega) (by omega), show (3 : Int) + 1 = 4 from rfl, st _ _ _ (by omega) (by omega) (by omega) (by omega), z0x, if_neg (by simp)]
    congr 1; omega
  rw [four]
  unfold z8m
  rw [w1w h sh, zB]
  simp only [gu_Ok, zB]
  by_cases h1 : houseB h = true
  case neg => simp [h1]
  have W := w3k h1
  have hsum := yt5 0 W
  rw [if_pos h1, if_pos (by rw [zE, hsum]), if_pos h1]
  by_cases c4 : who ≤ 4
  · simp [c4]
  · have : workL who 0 h.runs = [] := ya6 0 (fun r hr b hb => by have := W r hr b hb; omega)
    simp [this]
end Go.Am.Pl
end
