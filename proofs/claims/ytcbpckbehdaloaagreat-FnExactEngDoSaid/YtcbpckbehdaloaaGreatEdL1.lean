/- The plain law. Own work. -/
import Derived.Test.YtcbpckbehdaloaaGreatEdP2
section
set_option maxRecDepth 100000
set_option linter.unusedVariables false
set_option linter.unusedSimpArgs false
namespace Go.Am.Pl
open Go
theorem okHouse {h : GHouse} (hs : houseSmall h) : okGHouse h := by
  obtain ⟨h1, h2, h3, h4, h5⟩ := hs
  exact ⟨⟨h1.1, fun n hn => ⟨(h1.2 n hn).1, fun t ht => (h1.2 n hn).2 t ht⟩⟩, h2, ⟨h3.1, fun x hx => h3.2 x hx⟩, ⟨h4, fun r hr => h5 r hr⟩⟩
theorem z20g {h : GHouse} {r : GReq} (hl : GHouse.lens (· ≤ 1048576) h) : GHouse.lens (· ≤ 1048576) (engB h r).1 ∧ GHouse.W (engB h r).1 ≤ GHouse.W h + 6000000000000 := by
  unfold engB
  cases e : houseB h && reqB r
  · exact ⟨⟨⟨by simp [noHouse], fun y h => by simp [noHouse] at h⟩, by simp [noHouse], ⟨by simp [noHouse], fun y h => by simp [noHouse] at h⟩, ⟨by simp [noHouse], fun y h => by simp [noHouse] at h⟩⟩, by simp [noHouse, GHouse.W, sumW]⟩
  · rw [Bool.and_eq_true] at e
    obtain ⟨H, e1, e2⟩ := z229 (z13a e.1 hl) r (z11e e.2)
    exact ⟨H.lens, z20r H.lens e1 e2⟩
theorem law_EngDo (h : GHouse) (q : GReq) (hh : GHouse.lens (· ≤ 9223372036854775807) h) (hq : GReq.lens (· ≤ 9223372036854775807) q) : z09q h q = some true := by
  unfold z09q
  rw [z1m9 _ _ ⟨by omega, by omega, hh⟩, Option.bind_some]
  by_cases hz : szR 1048576 (GHouse.W h) < 0
  · rw [if_pos (decide_eq_true hz)]
  have e1 := z21k hz
  rw [if_neg (by simpa using hz), e1.2, z1ww _ _ ⟨by omega, by omega, hq⟩, Option.bind_some]
  by_cases hz2 : szR (1048576 - (GHouse.W h : Int)) (GReq.W q) < 0
  · rw [if_pos (decide_eq_true hz2)]
  have e2 := z21k hz2
  rw [if_neg (by simpa using hz2)]
  have hl : GHouse.lens (· ≤ 1048576) h := GHouse.lens_of (by omega)
  have ql : GReq.lens (· ≤ 1048576) q := GReq.lens_of (by omega)
  have qs : q.data.length ≤ SMALL := by have : q.data.length ≤ 1048576 := ql; unfold SMALL; omega
  have hs := z0gi hl
  have b1 := z1su h
  have b2 := cIntS q.data
  have b3 : q.data.length ≤ 1048576 := ql
  have hB : BIG = 4000000000000000000 := rfl
  have e3 := z1zl h q hl qs
  have e4 := z1xm h q hl qs
  obtain ⟨rl, rw_⟩ := z20g (r := q) hl
  generalize engB h q = r at *
  have rs := z0gi rl
  have rv := z1su r.1
  simp only [z1me h hl, z1x0 q ql, e3, e4, z12e h h ⟨hl, hl⟩, z1wt q q ⟨ql, ql⟩, z12e r.1 _ ⟨rl, rl⟩, Option.bind_some, decide_true, if_true,
    z0zv h 1 (okHouse hs) (by omega) (by omega), z1u7 q _ qs (show 0 ≤ 1 + (vGHouse h : Int) by omega) (by omega), z0zv r.1 1 (okHouse rs) (by omega) (by omega), z1il r.1 1 (okHouse rs) (by omega) (by omega)]
  repeat rw [if_neg (by simp; omega)]
end Go.Am.Pl
end
