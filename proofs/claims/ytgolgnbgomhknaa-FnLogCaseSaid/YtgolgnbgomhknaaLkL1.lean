/- The plain law. Own work. -/
import Derived.Test.YtgolgnbgomhknaaLkP2
set_option maxRecDepth 100000
set_option linter.unusedVariables false
set_option linter.unusedSimpArgs false
section
namespace Go.Am.Pl
open Go
theorem yz7 {lg : List GReq} (hr : lg.length ≤ 1000) {kx : Int → Option Bool} (hk : kx (aboutN lg : Nat) = some true) : z0e lg kx FUEL 0 0 = some true :=
  scan lg (by omega) (fun f i s => z0e lg kx f s i) (fun _ _ _ => some true) (fun pre s => s = (aboutN pre : Nat))
    (fun f s hi => by
      have hi : s = (aboutN lg : Nat) := hi
      show z0e lg kx (f + 1) s (lg.length : Int) = some true
      rw [z0e, if_neg (by simp), hi]; exact hk)
    (fun f pre x suf s a b g d hi k => by
      have hi : s = (aboutN pre : Nat) := hi
      have hp := yp4 pre
      have hpl : pre.length < lg.length := by rw [a]; simp
      show z0e lg kx (f + 1) s (pre.length : Int) = some true
      rw [z0e, if_pos (zT g), b, zB, zB]
      by_cases k1 : 2 ≤ x.kind
      · rw [if_pos (zT k1)]
        by_cases k2 : x.kind ≤ 4
        · rw [if_pos (zT k2), z02 (by constructor <;> omega), z02 d]
          exact k _ (by rw [zy8, if_pos ⟨k1, k2⟩, hi]; omega)
        · rw [if_neg (by simpa using k2), z02 d]
          exact k _ (by rw [zy8, if_neg (fun c => k2 c.2), hi]; omega)
      · rw [if_neg (by simpa using k1), z02 d]
        exact k _ (by rw [zy8, if_neg (fun c => k1 c.1), hi]; omega)) FUEL 0 rfl (by have := z40; omega)
theorem law_FnLogCase (code : List Int) (hl : code.length ≤ 9223372036854775807) (hb : ∀ y ∈ code, 0 ≤ y ∧ y ≤ 255) : z80 code = some true := by
  unfold z80
  by_cases hz : 1048576 < (code.length : Int)
  · rw [if_pos (zT hz)]
  rw [if_neg (by simpa using hz)]
  obtain ⟨⟨lg, i⟩, e, hr, hi⟩ := drawLogCase code hb
  dsimp only at hr hi
  obtain ⟨s1, s2⟩ := hr.small (by omega)
  have hr1 := hr.1
  have sub : ∀ r ∈ lg.flatMap (caseE i), r.data.length ≤ SMALL := fun r h => s2 r (w43 h)
  have sl : (lg.flatMap (caseE i)).length ≤ SMALL := Nat.le_trans (z9p (y1m i) lg) s1
  rw [e, zB]
  dsimp only
  rw [zt6 lg i s1 s2, zB, yy5 lg i s1 s2, zB, w53 _ _ sl sub, zB, if_pos (by simp)]
  refine yz7 (by omega) ?_
  unfold z98
  obtain ⟨f, hF⟩ : ∃ f, FUEL = f + 6 := ⟨FUEL - 6, by have := z40; omega⟩
  have L0 := zz1 0 lg
  have L1 := zz1 1 lg
  have L2 := zz1 2 lg
  have L3 := zz1 3 lg
  have L4 := zz1 4 lg
  have five : ∀ kx : Int → Option Bool, z0y lg kx FUEL 0 0 = kx ((caseN 0 lg + caseN 1 lg + caseN 2 lg + caseN 3 lg + caseN 4 lg : Nat)) := by
    intro kx
    have st : ∀ (f : Nat) (s i : Int), 0 ≤ s → s ≤ 1000000000 → 0 ≤ i → i < 5 → z0y lg kx (f + 1) s i = z0y lg kx f (s + (caseN i lg : Nat)) (i + 1) := by
      intro f s i s0 s1' i0 i1
      have L := zz1 i lg
      rw [z0y, if_pos (zT i1), zt6 lg i s1 s2, zB]
      unfold caseN at L ⊢
      rw [z02 (by constructor <;> omega), z02 (by constructor <;> omega)]
    rw [hF, st _ _ _ (by omega) (by omega) (by omega) (by omega), show (0 : Int) + 1 = 1 from rfl, st _ _ _ (by omega) (by omega) (by omega) (by omega), show (1 : Int) + 1 = 2 from rfl, st _ _ _ (by omega) (by omega) (by omega) (by omega), show (2 : Int) + 1 = 3 from rfl, st _ _ _ (by omega) (by omega) (by omega) (by omega), show (3 : Int) + 1 = 4 from rfl, st _ _ _ (by omega) (by omega) (by omega) (by omega), z0y, if_neg (by simp)]
    congr 1; omega
  rw [five]
  unfold z99
  rw [w3i lg s1 s2, zB]
  simp only [zt6 _ i sl sub, y72, zB, w53 _ _ sl sub, gu_Ok]
  by_cases h1 : logB lg = true
  · rw [if_pos h1, if_pos (by rw [zE, yq8 (fun r hr => w38 ((w8d.1 h1).2 r hr))])]; simp
  · rw [if_neg h1]; simp
end Go.Am.Pl
end
