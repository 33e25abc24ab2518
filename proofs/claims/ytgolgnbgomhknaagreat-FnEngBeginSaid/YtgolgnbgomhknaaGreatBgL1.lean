/- The plain law. Own work. -/
import Derived.Test.YtgolgnbgomhknaaGreatBgP2
set_option maxRecDepth 100000
set_option linter.unusedVariables false
set_option linter.unusedSimpArgs false
section
namespace Go.Am.Pl
open Go
theorem w3p {h : GHouse} {q : GReq} (hh : GHouse.lens (· ≤ 1048576) h) (hqs : q.data.length ≤ SMALL) (hk : reqB q = true → q.kind = 1) : ((z8l h q).bind fun x6 => ((z8r h q).bind fun x7 => ((z6j x6.1 x7.1).bind fun x8 => (if x8 = true then (if decide (x6.2 = x7.2) = true then (if decide (x6.2 = 1) = true then ((z69 h.tree q.data).bind fun x12 => (if decide ((h.nets.length : Int) ≤ x12) = true then (gd (ok64 ((h.runs.length : Int) + 1)) (if decide ((x6.1.runs.length : Int) = ((h.runs.length : Int) + 1)) = true then ((getI x6.1.runs (h.runs.length : Int)).bind fun x16 => (if decide (x16.net = 0) = true then ((getI x6.1.runs (h.runs.length : Int)).bind fun x18 => ((getI h.nets 0).bind fun x19 => ((z1x x19 q.data).bind fun x20 => ((z2h x18.case x20).bind fun x21 => (some x21))))) else (some false))) else (some false))) else (gd (ok64 ((h.runs.length : Int) + 1)) (if decide ((x6.1.runs.length : Int) = ((h.runs.length : Int) + 1)) = true then ((getI x6.1.runs (h.runs.length : Int)).bind fun x24 => (if decide (x24.net = x12) = true then ((getI x6.1.runs (h.runs.length : Int)).bind fun x26 => ((getI h.nets x12).bind fun x27 => ((z1x x27 q.data).bind fun x28 => ((z2h x26.case x28).bind fun x29 => (some x29))))) else (some false))) else (some false))))) else (if decide (x6.2 = 0) = true then ((z5g).bind fun x31 => (some x31)) else (if decide (x6.2 = 4) = true then (if decide ((h.runs.length : Int) = 5) = true then ((z5g).bind fun x34 => (some x34)) else (some false)) else (some false)))) else (some false)) else (some false))))) = some true := by
  have sx := zx3 (v5j (r := q) hh)
  have sh := zx3 hh
  rw [v43 h q hh hqs, zB, v4q h q hh hqs, zB, v9e _ _ sx, zB, if_pos (by simp), if_pos (by simp)]
  rcases v5k (h := h) (q := q) with ⟨h1, h2, e1⟩ | ⟨e1, hn⟩
  · have k1 := hk h2
    have H := y1v h1 hh
    by_cases hf : (h.runs.length : Int) = 5
    · have e2 : engB h q = (h, 4) := by rw [e1]; unfold doB; rw [if_pos k1, if_pos hf]
      rw [e2, if_neg (by simp), if_neg (by simp), if_pos (by simp), if_pos (zT hf), gu_Ok, zB]
    · have e2 : engB h q = (GHouse.mk h.nets h.people h.tree (h.runs ++ [GRun.mk (netOf h q.data) (newC (atI h.nets (netOf h q.data)) q.data)]), 1) := by rw [e1]; unfold doB; rw [if_pos k1, if_neg hf]
      have hnet := w2z H q.data
      have gn := z0f h.nets hnet.1 hnet.2
      have mn := z21 h.nets hnet.1 hnet.2
      have sn := sh.1.2 _ mn
      rw [e2] at sx ⊢
      dsimp only at sx ⊢
      have hlen : (((h.runs ++ [GRun.mk (netOf h q.data) (newC (atI h.nets (netOf h q.data)) q.data)]).length : Nat) : Int) = (h.runs.length : Int) + 1 := by simp
      have hget : getI (h.runs ++ [GRun.mk (netOf h q.data) (newC (atI h.nets (netOf h q.data)) q.data)]) (h.runs.length : Int) = some (GRun.mk (netOf h q.data) (newC (atI h.nets (netOf h q.data)) q.data)) := by rw [z2u]; simp
      have sc : (newC (atI h.nets (netOf h q.data)) q.data).small := sx.2.2.2.2 (GRun.mk (netOf h q.data) (newC (atI h.nets (netOf h q.data)) q.data)) (by simp)
      have many := H.many
      rw [if_pos (by simp), w4r h.tree q.data sh.2.2.1 hqs, zB]
      by_cases hc : (h.nets.length : Int) ≤ askB h.tree q.data
      · have e3 : netOf h q.data = 0 := by unfold netOf; rw [if_pos hc]
        rw [if_pos (zT hc), z00 (by constructor <;> omega), if_pos (zT hlen), hget, zB, zB]
        dsimp only
        rw [e3] at gn sn sc ⊢
        rw [if_pos (by simp), gn, zB, y3m _ _ sn hqs, zB, v1a _ _ sc, zB, zT rfl]
      · have e3 : netOf h q.data = askB h.tree q.data := by unfold netOf; rw [if_neg hc]
        rw [if_neg (by simpa using hc), z00 (by constructor <;> omega), if_pos (zT hlen), hget, zB, zB]
        dsimp only
        rw [e3] at gn sn sc ⊢
        rw [if_pos (by simp), gn, zB, y3m _ _ sn hqs, zB, v1a _ _ sc, zB, zT rfl]
  · rw [e1, if_neg (by simp), if_pos (by simp), gu_Ok, zB]
theorem law_FnEngBegin (code : List Int) (hl : code.length ≤ 9223372036854775807) (hb : ∀ y ∈ code, 0 ≤ y ∧ y ≤ 255) : zk6 code = some true := by
  unfold zk6
  by_cases hz : 1048576 < (code.length : Int)
  · rw [if_pos (zT hz)]
  rw [if_neg (by simpa using hz)]
  obtain ⟨⟨h, q⟩, e, hh, hq⟩ := drawEngDo code hb
  dsimp only at hh hq
  have hqs : q.data.length ≤ SMALL := by unfold SMALL; omega
  rw [e, zB]
  dsimp only
  rw [y4g q hqs, zB]
  by_cases h2 : reqB q = true
  case neg => rw [if_neg h2]; exact w3p hh hqs (fun c => absurd c h2)
  rw [if_pos h2]
  by_cases k1 : q.kind = 1
  · rw [if_pos (zT k1)]; exact w3p hh hqs (fun _ => k1)
  have hd : Int.tdiv (code.length : Int) 7 = (code.length : Int) / 7 := Int.tdiv_eq_ediv_of_nonneg (by omega)
  rw [if_neg (by simpa using k1), z00 (by omega), z00 (by rw [hd]; exact ⟨by omega, by constructor <;> omega⟩), z00 (by omega)]
  exact w3p (q := GReq.mk 1 0 0 0 0 0 [(Int.tmod (code.length : Int) 7), (Int.tmod (Int.tdiv (code.length : Int) 7) 5), (-1)] (GAsk.mk 0 0 0) 0) hh (by simp [SMALL]) (fun _ => rfl)
end Go.Am.Pl
end
