/- The plain law. Own work. -/
import Derived.Test.YtcbpckbehdaloaaGreatLrP2
section
set_option maxRecDepth 100000
set_option linter.unusedVariables false
set_option linter.unusedSimpArgs false
namespace Go.Am.Pl
open Go
theorem okHouse {h : GHouse} (hs : houseSmall h) : okGHouse h := by
  obtain ⟨h1, h2, h3, h4, h5⟩ := hs
  exact ⟨⟨h1.1, fun n hn => ⟨(h1.2 n hn).1, fun t ht => (h1.2 n hn).2 t ht⟩⟩, h2, ⟨h3.1, fun x hx => h3.2 x hx⟩, ⟨h4, fun r hr => h5 r hr⟩⟩
theorem z1q4 : GHouse.lens (· ≤ 1048576) noHouse := ⟨⟨by simp [noHouse], fun y h => by simp [noHouse] at h⟩, by simp [noHouse], ⟨by simp [noHouse], fun y h => by simp [noHouse] at h⟩, ⟨by simp [noHouse], fun y h => by simp [noHouse] at h⟩⟩
theorem z25w : GHouse.W noHouse = 0 := by simp [noHouse, GHouse.W, sumW]
theorem z1wa {l : List GReq} (hl : l.length ≤ 1048576) (h : ∀ r ∈ l, GReq.lens (· ≤ 1048576) r) : cntS cGReq l ≤ 1048586 * 1048576 :=
  z23a (fun r hr => by have := h r hr; unfold GReq.lens at this; have := z2ap this; unfold cGReq; omega) hl
theorem z1r6 {h : GHouse} {q : List GReq} (hl : GHouse.lens (· ≤ 1048576) h) : GHouse.lens (· ≤ 1048576) (logRunB h q).1 ∧ GHouse.W (logRunB h q).1 ≤ GHouse.W h + 6000000000000 ∧ (logRunB h q).2.length ≤ q.length ∧ ∀ r ∈ (logRunB h q).2, r ∈ q := by
  unfold logRunB
  cases e : houseB h && logB q
  · exact ⟨z1q4, by show GHouse.W noHouse ≤ _; rw [z25w]; omega, Nat.zero_le _, fun r hr => by simp at hr⟩
  · rw [Bool.and_eq_true] at e
    obtain ⟨H, e1, e2, e3⟩ := z1ee q h (z190 e.1 hl) (z21i e.2).case
    exact ⟨H.lens, z25m H.lens e1 e2, z1gm q h, e3⟩
theorem law_LogRun (h : GHouse) (q : List GReq) (hh : GHouse.lens (· ≤ 9223372036854775807) h) (hq : q.length ≤ 9223372036854775807) (hq2 : ∀ r ∈ q, GReq.lens (· ≤ 9223372036854775807) r) : z09i h q = some true := by
  unfold z09i
  rw [z1sf _ _ ⟨by omega, by omega, hh⟩, Option.bind_some]
  by_cases hz : szR 1048576 (GHouse.W h) < 0
  · rw [if_pos (decide_eq_true hz)]
  have e1 := z25p hz
  rw [if_neg (by simpa using hz), e1.2, z1xc _ _ ⟨by omega, by omega, hq, hq2⟩, Option.bind_some]
  by_cases hz2 : szR (1048576 - (GHouse.W h : Int)) (q.length + sumW GReq.W q) < 0
  · rw [if_pos (decide_eq_true hz2)]
  have e2 := z25p hz2
  rw [if_neg (by simpa using hz2)]
  have hl : GHouse.lens (· ≤ 1048576) h := GHouse.lens_of (by omega)
  have ql : q.length ≤ 1048576 := by omega
  have qd : ∀ r ∈ q, GReq.lens (· ≤ 1048576) r := fun r hr => by have := z14j (f := GReq.W) hr; unfold GReq.lens; unfold GReq.W at this e2; omega
  have qs : ∀ r ∈ q, r.data.length ≤ SMALL := fun r hr => sm (qd r hr)
  have qo : ∀ r ∈ q, okGReq r := qs
  have hs := z0hh hl
  have b1 := z1wk h
  have b2 := z1wa ql qd
  have hB : BIG = 4000000000000000000 := rfl
  have e3 := z1x2 h q hl (sm ql) qs
  have e4 := z1y5 h q hl (sm ql) qs
  obtain ⟨rl, rw_, ll, lm⟩ := z1r6 (q := q) hl
  generalize logRunB h q = r at *
  have rs := z0hh rl
  have rv := z1wk r.1
  have ld : ∀ x ∈ r.2, GReq.lens (· ≤ 1048576) x := fun x hx => qd x (lm x hx)
  have lo : ∀ x ∈ r.2, okGReq x := fun x hx => qs x (lm x hx)
  have ll2 : r.2.length ≤ 1048576 := Nat.le_trans ll ql
  have b3 := z1wa ll2 ld
  simp only [z1ri h hl, z1zh q ⟨ql, qd⟩, e3, e4, z14h h h ⟨hl, hl⟩, z1cp q q ⟨ql, qd, qd⟩, z14h r.1 _ ⟨rl, rl⟩, z1cp r.2 _ ⟨ll2, ld, ld⟩, Option.bind_some, decide_true, if_true,
    z111 h 1 (okHouse hs) (by omega) (by omega), z14e q _ qo (sm ql) (show 0 ≤ 1 + (vGHouse h : Int) by omega) (by omega), z111 r.1 1 (okHouse rs) (by omega) (by omega), z1lb r.1 1 (okHouse rs) (by omega) (by omega),
    z14e r.2 _ lo (sm ll2) (show 0 ≤ 1 + (vGHouse r.1 : Int) by omega) (by omega), z1tj r.2 _ lo (sm ll2) (show 0 ≤ 1 + (vGHouse r.1 : Int) by omega) (by omega)]
  repeat rw [if_neg (by simp; omega)]
end Go.Am.Pl
end
