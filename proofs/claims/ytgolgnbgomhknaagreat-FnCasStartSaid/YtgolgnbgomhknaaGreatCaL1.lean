/- The plain law. Own work. -/
import Derived.Test.YtgolgnbgomhknaaGreatCaP2
set_option maxRecDepth 100000
set_option linter.unusedVariables false
set_option linter.unusedSimpArgs false
section
namespace Go.Am.Pl
open Go
theorem yy8 (n : GNet) (marks : List Int) (t : Int) (hn : n.small) (hm : marks.length ≤ SMALL) (h1 : mrkB n marks = true) (t0 : 0 ≤ t) (t1 : t < n.tasks.length) : z8j n marks t = some (takeL (atI n.tasks t).join (atI n.tasks t).in_ marks) := by
  unfold z8j
  rw [y4u n marks hn hm, zB, if_pos h1, zx0 n t hn, zB, if_pos (z19.2 ⟨t0, by omega⟩), yz2 hn hm h1 t0 t1, zB]
theorem law_FnCasStart (code : List Int) (hl : code.length ≤ 9223372036854775807) (hb : ∀ y ∈ code, 0 ≤ y ∧ y ≤ 255) : z8c code = some true := by
  unfold z8c
  by_cases hz : 1048576 < (code.length : Int)
  · rw [if_pos (zT hz)]
  rw [if_neg (by simpa using hz)]
  obtain ⟨⟨n, p, c, t, who⟩, e, hn, hp, hc, hw⟩ := drawCasStart code hb
  dsimp only at hn hp hc hw
  have sn := hn.small
  have sc := hc.small (by omega)
  have sp : p.length ≤ SMALL := by unfold SMALL; omega
  have sx := (yk6 n p c t who).small sc
  rw [e, zB]
  dsimp only
  rw [yp7 n p c t who sn sp sc, zB, y41 n p c t who sn sp sc, zB, w1d _ _ sx, zB, if_pos (by simp), if_pos (by simp), y5e n c sn sc, zB]
  have no : ¬ (startB n p c t who).2 = true → (if (startB n p c t who).2 = true then (some false) else ((z2l (startB n p c t who).1 c).bind fun x42 => (if x42 = true then ((z4m).bind fun x44 => (some x44)) else (some false)))) = some true := fun hf => by
    rw [if_neg hf, y6c hf, w1d _ _ sc, zB, if_pos (by simp), gu_Ok, zB]
  by_cases h1 : casB n c = true
  case neg => rw [if_neg h1]; exact no fun ht => h1 (zc9 ht).1.cas
  rw [if_pos h1]
  by_cases h2 : c.state = 1
  case neg => rw [if_neg (by simpa using h2)]; exact no fun ht => h2 (zc9 ht).1.run
  rw [if_pos (zT h2), y8s n c.marks c.busy t sn sc.1 sc.2.1, zB]
  by_cases h3 : enaB n c.marks c.busy t = true
  case neg => rw [if_neg h3]; exact no fun ht => h3 (zc9 ht).1.ena
  have hml : (mayB n p c.did c.busy t).length ≤ SMALL := by have := yq1 n p c.did c.busy t; unfold SMALL; omega
  rw [if_pos h3, y8t n p c.did c.busy t sn sp sc.2.2.2 sc.2.1, zB, wd8 _ _ hml, zB]
  by_cases h4 : who ∈ mayB n p c.did c.busy t
  case neg =>
    rw [if_neg (by rw [List.any_eq_true]; rintro ⟨y, hy, e⟩; rw [zE] at e; subst e; exact h4 hy)]
    exact no fun ht => h4 (zc9 ht).1.may
  rw [if_pos (by rw [List.any_eq_true]; exact ⟨who, h4, zT rfl⟩)]
  have F := z86 h1
  have hb6 := F.busyl
  by_cases h5 : c.busy.length = 6
  · have hf : ¬ (startB n p c t who).2 = true := fun ht => (zc9 ht).1.room h5
    rw [if_neg hf, y6c hf, w1d _ _ sc, zB, if_pos (by simp), if_neg (by rw [zE]; omega), gu_Ok, zB]
  have S : StartF n p c t who := ⟨h1, h2, h3, h4, h5⟩
  have e2 : startB n p c t who = (begun n c t who, true) := by unfold startB; rw [ya1.2 S]; rfl
  have hok := w7v S
  rw [e2] at sx ⊢
  dsimp only
  dsimp only at sx
  obtain ⟨g1, g2, g3⟩ := y2y h3
  have em : (begun n c t who).marks = takeL (atI n.tasks t).join (atI n.tasks t).in_ c.marks := rfl
  have ed : (begun n c t who).data = c.data := rfl
  have eD : (begun n c t who).did = c.did := rfl
  have hlen : (begun n c t who).busy.length = c.busy.length + 1 := by show (c.busy ++ [_]).length = _; simp
  have hget : getI (begun n c t who).busy (c.busy.length : Int) = some (GItem.mk t who 0) := by
    show getI (c.busy ++ [GItem.mk t who 0]) _ = _
    rw [z8h]; simp
  have htake : (begun n c t who).busy.take (c.busy.length : Int).toNat = c.busy := by
    show (c.busy ++ [GItem.mk t who 0]).take _ = _
    simp
  rw [if_pos rfl, if_pos (by rw [zE]; omega), yy8 n c.marks t sn sc.1 g1 g3.1 g3.2, zB, yp6 _ _ sx.1, zB, if_pos (zT em), z02 (by constructor <;> omega), if_pos (by rw [zE]; omega), z02 ⟨by omega, by omega⟩, htake, w5o _ _ sc.2.1, zB, if_pos (by simp), hget, zB, if_pos (by simp)]
  rw [yp6 _ _ sx.2.2.1, zB, if_pos (zT ed), w9h _ _ sx.2.2.2, zB, if_pos (zT eD), yj2 n _ sn sx, zB, hok]
end Go.Am.Pl
end
