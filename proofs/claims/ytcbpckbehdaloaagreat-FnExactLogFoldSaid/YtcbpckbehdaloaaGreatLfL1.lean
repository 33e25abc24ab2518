/- The plain law. Own work. -/
import Derived.Test.YtcbpckbehdaloaaGreatLfP2
section
set_option maxRecDepth 100000
set_option linter.unusedVariables false
set_option linter.unusedSimpArgs false
namespace Go.Am.Pl
open Go
theorem okHouse {h : GHouse} (hs : houseSmall h) : okGHouse h := by
  obtain ⟨h1, h2, h3, h4, h5⟩ := hs
  exact ⟨⟨h1.1, fun n hn => ⟨(h1.2 n hn).1, fun t ht => (h1.2 n hn).2 t ht⟩⟩, h2, ⟨h3.1, fun x hx => h3.2 x hx⟩, ⟨h4, fun r hr => h5 r hr⟩⟩
theorem z1sf : GHouse.lens (· ≤ 1048576) noHouse := ⟨⟨by simp [noHouse], fun y h => by simp [noHouse] at h⟩, by simp [noHouse], ⟨by simp [noHouse], fun y h => by simp [noHouse] at h⟩, ⟨by simp [noHouse], fun y h => by simp [noHouse] at h⟩⟩
theorem z24n : GHouse.W noHouse = 0 := by simp [noHouse, GHouse.W, sumW]
theorem z242 {l : List GReq} (hl : l.length ≤ 1048576) (h : ∀ r ∈ l, GReq.lens (· ≤ 1048576) r) : cntS cGReq l ≤ 1048586 * 1048576 :=
  z20x (fun r hr => by have := h r hr; unfold GReq.lens at this; have := z29a this; unfold cGReq; omega) hl
theorem z1ms {h : GHouse} {q : List GReq} (hl : GHouse.lens (· ≤ 1048576) h) : GHouse.lens (· ≤ 1048576) (logFoldB h q).1 ∧ GHouse.W (logFoldB h q).1 ≤ GHouse.W h + 6000000000000 := by
  have no : GHouse.lens (· ≤ 1048576) noHouse ∧ GHouse.W noHouse ≤ GHouse.W h + 6000000000000 := ⟨z1sf, by rw [z24n]; omega⟩
  unfold logFoldB
  cases e : houseB h && logB q
  · exact no
  · rw [Bool.and_eq_true] at e
    obtain ⟨H, e1, e2, e3⟩ := z1ft q h (z15k e.1 hl) (z21j e.2).case
    show GHouse.lens (· ≤ 1048576) (foldF h q).1 ∧ GHouse.W (foldF h q).1 ≤ _
    rw [z0z5]
    split
    · exact no
    · exact ⟨H.lens, z24i H.lens e1 e2⟩
theorem law_LogFold (h : GHouse) (q : List GReq) (hh : GHouse.lens (· ≤ 9223372036854775807) h) (hq : q.length ≤ 9223372036854775807) (hq2 : ∀ r ∈ q, GReq.lens (· ≤ 9223372036854775807) r) : z08n h q = some true := by
  unfold z08n
  rw [z1pu _ _ ⟨by omega, by omega, hh⟩, Option.bind_some]
  by_cases hz : szR 1048576 (GHouse.W h) < 0
  · rw [if_pos (decide_eq_true hz)]
  have e1 := z25e hz
  rw [if_neg (by simpa using hz), e1.2, z1ww _ _ ⟨by omega, by omega, hq, hq2⟩, Option.bind_some]
  by_cases hz2 : szR (1048576 - (GHouse.W h : Int)) (q.length + sumW GReq.W q) < 0
  · rw [if_pos (decide_eq_true hz2)]
  have e2 := z25e hz2
  rw [if_neg (by simpa using hz2)]
  have hl : GHouse.lens (· ≤ 1048576) h := GHouse.lens_of (by omega)
  have ql : q.length ≤ 1048576 := by omega
  have qd : ∀ r ∈ q, GReq.lens (· ≤ 1048576) r := fun r hr => by have := z196 (f := GReq.W) hr; unfold GReq.lens; unfold GReq.W at this e2; omega
  have qs : ∀ r ∈ q, r.data.length ≤ SMALL := fun r hr => sm (qd r hr)
  have qo : ∀ r ∈ q, okGReq r := qs
  have hs := z0e1 hl
  have b1 := z1wb h
  have b2 := z242 ql qd
  have hB : BIG = 4000000000000000000 := rfl
  have e3 := z1uj h q hl (sm ql) qs
  have e4 := z1ry h q hl (sm ql) qs
  obtain ⟨rl, rw_⟩ := z1ms (q := q) hl
  generalize logFoldB h q = r at *
  have rs := z0e1 rl
  have rv := z1wb r.1
  simp only [z1pz h hl, z1x4 q ⟨ql, qd⟩, e3, e4, z14m h h ⟨hl, hl⟩, z1wo q q ⟨ql, qd, qd⟩, z14m r.1 _ ⟨rl, rl⟩, Option.bind_some, decide_true, if_true, beq_self_eq_true,
    z123 h 1 (okHouse hs) (by omega) (by omega), z1sb q _ qo (sm ql) (show 0 ≤ 1 + (vGHouse h : Int) by omega) (by omega), z123 r.1 1 (okHouse rs) (by omega) (by omega), z1lx r.1 1 (okHouse rs) (by omega) (by omega)]
  repeat rw [if_neg (by simp; omega)]
end Go.Am.Pl
end
