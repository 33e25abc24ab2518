/- The plain law. Own work. -/
import Derived.Test.YtgolgnbgomhknaaGreatRuP2
set_option maxRecDepth 100000
set_option linter.unusedVariables false
set_option linter.unusedSimpArgs false
section
namespace Go.Am.Pl
open Go
theorem vl3 {h : GHouse} {r : GReq} (hh : houseB h = true) (hr : reqB r = true) : engB h r = doB h r := by unfold engB; rw [hh, hr]; rfl
theorem v5f {rs lg : List GReq} {x : GHouse} {kx : Int → GHouse → Option Bool} (hl : rs.length ≤ 1000) (hr : ∀ r ∈ rs, reqB r = true) (hd : ∀ r ∈ rs, r.data.length ≤ SMALL) (hlg : lg.length ≤ 1000) (hdl : ∀ r ∈ lg, r.data.length ≤ SMALL)
    {h : GHouse} (hh : houseB h = true) (hL : GHouse.lens (· ≤ 1048576) h) (hx : foldR h [] rs = (x, lg)) (hk : kx (lg.length : Int) x = some true) : z17 rs lg kx FUEL 0 0 h = some true :=
  scan rs (by omega) (fun f i (s : Int × GHouse) => z17 rs lg kx f i s.1 s.2) (fun _ _ _ => some true)
    (fun pre s => ∃ suf done rest, rs = pre ++ suf ∧ lg = done ++ rest ∧ s.1 = (done.length : Int) ∧ houseB s.2 = true ∧ GHouse.lens (· ≤ 1048576) s.2 ∧ foldR s.2 [] suf = (x, rest))
    (fun f s hi => by
      obtain ⟨suf, done, rest, e1, e2, e3, e4, e5, e6⟩ := hi
      have hs : suf = [] := by have := congrArg List.length e1; simp at this; exact this
      subst hs
      have e7 : (s.2, ([] : List GReq)) = (x, rest) := e6
      have e8 := congrArg Prod.fst e7
      have e9 : [] = rest := congrArg Prod.snd e7
      dsimp only at e8
      show z17 rs lg kx (f + 1) (rs.length : Int) s.1 s.2 = some true
      rw [z17, if_neg (by simp), e3, e8]
      rw [show done.length = lg.length by rw [e2, ← e9, List.append_nil]]
      exact hk)
    (fun f pre r suf s a b g d hi k => by
      obtain ⟨suf2, done, rest, e1, e2, e3, e4, e5, e6⟩ := hi
      have hs : suf2 = r :: suf := List.append_cancel_left (e1.symm.trans a)
      subst hs
      have hm : r ∈ rs := by rw [a]; simp
      show z17 rs lg kx (f + 1) (pre.length : Int) s.1 s.2 = some true
      rw [z17, if_pos (zT g), b, zB, v80 s.2 r e5 (hd r hm), zB, vl3 e4 (hr r hm)]
      have D := w14 (zz3 e4 e5) r (zj9 (hr r hm))
      have H := w6k e4 (hr r hm)
      rw [wl4] at e6
      by_cases h1 : (doB s.2 r).2 = 1
      · rw [if_pos h1] at e6
        have e7 := congrArg Prod.fst e6
        have e8 := congrArg Prod.snd e6
        dsimp only at e7 e8
        have hlen : done.length + 1 ≤ lg.length := by rw [e2, ← e8]; simp
        have hget : getI lg (done.length : Int) = some r := by rw [e2, ← e8, w5h]
        rw [if_pos (zT h1), e3, if_neg (by rw [zE]; omega), hget, zB, zB, vs4 r r (hd r hm), zB, if_pos (by simp), z00 (by constructor <;> omega), z00 d]
        refine k ((done.length : Int) + 1, (doB s.2 r).1) ⟨suf, done ++ [r], (foldR (doB s.2 r).1 [] suf).2, by rw [a]; simp, by rw [e2, ← e8]; simp, by simp, H, D.1.lens, ?_⟩
        rw [← e7]
      · rw [if_neg h1] at e6
        rw [if_neg (by simpa using h1), z00 d, v9c h1]
        exact k (s.1, s.2) ⟨suf, done, rest, by rw [a]; simp, e2, e3, e4, e5, e6⟩) FUEL (0, h) ⟨rs, [], lg, rfl, rfl, rfl, hh, hL, hx⟩ (by have := z21; omega)
theorem law_FnLogRun (code : List Int) (hl : code.length ≤ 9223372036854775807) (hb : ∀ y ∈ code, 0 ≤ y ∧ y ≤ 255) : y0b code = some true := by
  unfold y0b
  by_cases hz : 1048576 < (code.length : Int)
  · rw [if_pos (zT hz)]
  rw [if_neg (by simpa using hz)]
  obtain ⟨⟨h, rs⟩, e, hh, hr⟩ := drawLogRun code hb
  dsimp only at hh hr
  obtain ⟨a1, a2⟩ := hr.small (by omega)
  have RR := vp6 (h := h) hr
  obtain ⟨b1, b2⟩ := RR.small (by omega)
  have sx := zd5 (vp5 (rs := rs) hh)
  rw [e, zB]
  dsimp only
  rw [v55 h rs hh a1 a2, zB, v61 h rs hh a1 a2, zB, wv4 _ _ sx, zB, if_pos (by simp), vv7 _ _ b1 b2, zB, if_pos (by simp), wn0 h (zd5 hh), zB]
  rcases v42 (h := h) (rs := rs) with ⟨h1, h2, e1⟩ | ⟨e1, hn⟩
  · rw [if_pos h1, w2e rs a1 a2, zB, if_pos h2]
    have L := v6y.1 h2
    have hok : houseB (logRunB h rs).1 = true := by rw [e1]; exact yr7 rs h1 L.2
    have R1 := RR.1
    refine v5f (x := (logRunB h rs).1) (by omega) L.2 a2 (by omega) b2 h1 hh e1.symm ?_
    unfold y17
    rw [if_pos (by simp), show GHouse.mk (logRunB h rs).1.nets (logRunB h rs).1.people (logRunB h rs).1.tree (logRunB h rs).1.runs = (logRunB h rs).1 from rfl, wv4 _ _ sx, zB, if_pos (by simp), w1m _ sx, zB, hok]
  · have tail : ((z5n (logRunB h rs).1 (GHouse.mk [] [] [] [])).bind fun x => (if x = true then (if decide (((logRunB h rs).2.length : Int) = 0) = true then ((zn4).bind fun x2 => (some x2)) else (some false)) else (some false))) = some true := by
      rw [e1, wv4 _ _ wx1, zB, if_pos (show decide (noHouse = GHouse.mk [] [] [] []) = true from zT rfl), if_pos (by simp), gu_Ok, zB]
    by_cases h1 : houseB h = true
    · rw [if_pos h1, w2e rs a1 a2, zB, if_neg (fun h2 => hn ⟨h1, h2⟩)]; exact tail
    · rw [if_neg h1]; exact tail
end Go.Am.Pl
end
