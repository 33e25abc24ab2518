/- The plain law. Own work. -/
import Derived.Test.YtcbpckbehdaloaaGreatEnP1
section
/- FnExactEngNew: the plain law. Own work. -/
set_option maxRecDepth 100000
set_option linter.unusedVariables false
set_option linter.unusedSimpArgs false
namespace Go.Am.Pl
open Go

theorem newB_lens {nets : List GNet} {people : List Int} (h1 : nets.length ≤ 1048576) (h2 : ∀ n ∈ nets, GNet.lens (· ≤ 1048576) n) (h3 : people.length ≤ 1048576) : GHouse.lens (· ≤ 1048576) (newB nets people) := by
  unfold newB
  cases netsB nets && pplB people
  · exact ⟨⟨by simp, fun y h => by simp at h⟩, by simp, ⟨by simp, fun y h => by simp at h⟩, ⟨by simp, fun y h => by simp at h⟩⟩
  · exact ⟨⟨h1, h2⟩, h3, ⟨by simp, fun y h => by simp at h⟩, ⟨by simp, fun y h => by simp at h⟩⟩
theorem newB_W (nets : List GNet) (people : List Int) : GHouse.W (newB nets people) ≤ nets.length + sumW GNet.W nets + people.length := by
  unfold newB
  cases netsB nets && pplB people
  · simp [GHouse.W, sumW]
  · simp [GHouse.W, sumW]
theorem okHouse {h : GHouse} (hs : houseSmall h) : okGHouse h := by
  obtain ⟨h1, h2, h3, h4, h5⟩ := hs
  exact ⟨⟨h1.1, fun n hn => ⟨(h1.2 n hn).1, fun t ht => (h1.2 n hn).2 t ht⟩⟩, h2, ⟨h3.1, fun x hx => h3.2 x hx⟩, ⟨h4, fun r hr => h5 r hr⟩⟩
theorem law_EngNew (nets : List GNet) (people : List Int) (hn : nets.length ≤ 9223372036854775807) (hn1 : ∀ n ∈ nets, GNet.lens (· ≤ 9223372036854775807) n) (hp : people.length ≤ 9223372036854775807) : m_laws_FnExactEngNew nets people = some true := by
  unfold m_laws_FnExactEngNew
  by_cases hp0 : (1048576 : Int) < (people.length : Int)
  · rw [if_pos (decide_eq_true hp0)]
  rw [if_neg (by simpa using hp0), c_szNetNetS _ _ ⟨by omega, by omega, hn, hn1⟩, Option.bind_some]
  by_cases hz : szR 1048576 (nets.length + sumW GNet.W nets) < 0
  · rw [if_pos (decide_eq_true hz)]
  have e1 := szR_ge hz
  rw [if_neg (by simpa using hz)]
  have hp2 : people.length ≤ 1048576 := by omega
  have hl2 : nets.length ≤ 1048576 := by omega
  have hd2 : ∀ n ∈ nets, GNet.lens (· ≤ 1048576) n := fun n hr => by have := sumW_mem (f := GNet.W) hr; exact GNet.lens_of (by omega)
  have hs : netsSmall nets := ⟨by unfold SMALL; omega, fun n h => small_net (hd2 n h)⟩
  have hp3 : people.length ≤ SMALL := by unfold SMALL; omega
  have rl := newB_lens hl2 hd2 hp2
  have rs := small_house rl
  have rw_ := newB_W nets people
  have rv := vHouse_le (newB nets people)
  have nv := cNetS_le nets
  have pv := cIntS people
  have hB : BIG = 4000000000000000000 := rfl
  have on : ∀ n ∈ nets, okGNet n := fun n h => ⟨(hs.2 n h).1, fun t ht => (hs.2 n h).2 t ht⟩
  simp only [c_toNetNetS nets ⟨hl2, hd2⟩, c_toIntS people hp2, spec_EngNew nets people hs hp3, impl_EngNew nets people hs hp3, c_eqNetNetS nets nets ⟨hl2, hd2, hd2⟩, c_eqIntS people people hp2, c_eqEngHouse (newB nets people) _ ⟨rl, rl⟩, Option.bind_some, decide_true, if_true,
    mark_NetNetS nets 1 on hs.1 (by omega) (by omega), mark_IntS people _ hp3 (show 0 ≤ 1 + (cntS cGNet nets : Int) by omega) (by omega), mark_EngHouse (newB nets people) 1 (okHouse rs) (by omega) (by omega), held_EngHouse (newB nets people) 1 (okHouse rs) (by omega) (by omega)]
  repeat rw [if_neg (by simp; omega)]

end Go.Am.Pl

end
