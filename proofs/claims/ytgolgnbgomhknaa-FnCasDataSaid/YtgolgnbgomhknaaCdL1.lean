/- The plain law. Own work. -/
import Derived.Test.YtgolgnbgomhknaaCdP2
section
set_option maxRecDepth 100000
set_option linter.unusedVariables false
set_option linter.unusedSimpArgs false
namespace Go.Am.Pl
open Go
theorem z0ud (v num : Int) (c : GCase) (xd : List Int) (kx0 kx1 : Int → Option Bool) (hs : c.data.length ≤ SMALL) (hl : xd.length = c.data.length) (hx : ∀ i : Int, 0 ≤ i → i < c.data.length → atI xd i ≠ atI c.data i → i = v ∧ atI xd i = num)
    (hk : ∀ s, 0 ≤ s → s ≤ 1 → (xd = c.data → s = 0) → kx1 s = some true) : z00s v num c xd kx0 kx1 FUEL 0 0 = some true :=
  scan c.data (by unfold SMALL at hs; omega) (fun f i s => z00s v num c xd kx0 kx1 f s i) (fun _ _ _ => some true) (fun pre s => (s = 0 ∨ (s = 1 ∧ v < pre.length)) ∧ (xd = c.data → s = 0))
    (fun n s hi => by rw [z00s, if_neg (by simp)]; exact hk s (by omega) (by omega) hi.2)
    (fun n pre x suf s a b g d hi k => by
      obtain ⟨h1, h2⟩ := hi
      have e1 : atI c.data (pre.length : Int) = x := by unfold atI; rw [b]; rfl
      rw [z00s, if_pos (decide_eq_true g), if_pos (decide_eq_true (by rw [hl])), z02k xd (by omega) (by rw [hl]; exact g), Option.bind_some, b, Option.bind_some]
      by_cases h : atI xd (pre.length : Int) = x
      · rw [if_pos (decide_eq_true h), z007 d]
        exact k s ⟨by rcases h1 with h1 | h1; exact .inl h1; exact .inr ⟨h1.1, by simp; omega⟩, h2⟩
      · have := hx pre.length (by omega) g (by rw [e1]; exact h)
        rw [if_neg (by simpa using h), z007 (by constructor <;> omega), if_pos (decide_eq_true this.1), Option.bind_some, if_pos (decide_eq_true this.2), z007 d]
        exact k (s + 1) ⟨.inr ⟨by omega, by simp; omega⟩, fun e => absurd (by rw [e, e1]) h⟩) FUEL 0 ⟨.inl rfl, fun _ => rfl⟩ (by have := z048; unfold SMALL at hs; omega)
theorem z0yu (n : GNet) (c : GCase) : (stopB n c).1.data = c.data := by unfold stopB; cases casB n c && decide (c.state = 1) <;> rfl
theorem law_FnCasData (code : List Int) (hl : code.length ≤ 9223372036854775807) (hb : ∀ y ∈ code, 0 ≤ y ∧ y ≤ 255) : z07b code = some true := by
  unfold z07b
  by_cases hz : 1048576 < (code.length : Int)
  · rw [if_pos (decide_eq_true hz)]
  rw [if_neg (by simpa using hz)]
  obtain ⟨⟨n, c, k, v, num⟩, e, hn, hc⟩ := drawCasWork code hb
  dsimp only at hn hc
  have sn := hn.small
  have sc := hc.small (by omega)
  rw [e, Option.bind_some]
  dsimp only
  have sx := (z0pl n c k v num).small sc
  rw [z0sx n c k v num sn sc, Option.bind_some, z0f6 n c k v num sn sc, Option.bind_some, z14p _ _ sx, Option.bind_some, if_pos (by simp), if_pos (by simp), z0sw n c sn sc, Option.bind_some, z0yu]
  have fin : ∀ (b : Bool) (s : Int), 0 ≤ s → s ≤ 1 → (b = false → s = 0) → z051 b c c.data s = some true := by
    intro b s h0 h1 h2
    unfold z051
    rw [if_pos (decide_eq_true h1)]
    cases b
    · rw [if_neg (by simp), if_pos (decide_eq_true (h2 rfl)), z0ur _ _ sc.2.2.1, Option.bind_some, if_pos (by simp), gu_Ok, Option.bind_some]
    · rw [if_pos rfl, z0ur _ _ sc.2.2.1, Option.bind_some, if_pos (by simp), gu_Ok, Option.bind_some]
  by_cases h : (workB n c k v num).2 = true
  · obtain ⟨W, R⟩ := z0z0 h
    have hd : (workB n c k v num).1.data = datB c.data v num := by
      generalize (workB n c k v num).1 = x at R
      cases R <;> rfl
    rw [hd, h]
    refine z0ud v num c _ _ _ sc.2.2.1 (z0j3 _ _ _) (fun i i0 i1 hne => ?_) (fun s h0 h1 _ => fin true s h0 h1 (fun e => by cases e))
    unfold datB at hne ⊢
    by_cases hv : 0 ≤ v
    · rw [if_pos hv] at hne ⊢
      rw [z145 _ _ hv i0 i1] at hne ⊢
      by_cases e2 : v = i
      · exact ⟨e2.symm, by rw [if_pos e2]⟩
      · rw [if_neg e2] at hne; exact absurd rfl hne
    · rw [if_neg hv] at hne; exact absurd rfl hne
  · rw [z0wc h]
    exact z0ud v num c _ _ _ sc.2.2.1 rfl (fun i i0 i1 hne => absurd rfl hne) (fun s h0 h1 h2 => fin false s h0 h1 (fun _ => h2 rfl))
end Go.Am.Pl
end
