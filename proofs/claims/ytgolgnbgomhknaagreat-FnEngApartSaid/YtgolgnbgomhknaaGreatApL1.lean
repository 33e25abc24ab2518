/- The plain law. Own work. -/
import Derived.Test.YtgolgnbgomhknaaGreatApP2
set_option maxRecDepth 100000
set_option linter.unusedVariables false
set_option linter.unusedSimpArgs false
section
namespace Go.Am.Pl
open Go
theorem w9s {h : GHouse} {q : GReq} {xr : List GRun} {b : Bool} {kx : Bool → Option Bool} (hs : houseSmall h) (hxs : ∀ r ∈ xr, r.case.small) (hle : h.runs.length ≤ xr.length)
    (hat : ∀ i : Int, 0 ≤ i → i < h.runs.length → ¬ (b = true ∧ i = q.case) → atI xr i = atI h.runs i) (hk : kx b = some true) : z0m h q xr kx FUEL 0 b = some true := by
  refine scan0 h.runs (by have := hs.2.2.2.1; unfold SMALL at this; omega) (fun n i => z0m h q xr kx n i b) (fun _ _ => some true) (fun f => ?_) (fun f pre y suf a g c d ih => ?_)
  · rw [z0m, if_neg (by simp)]; exact hk
  · have gx := z0f xr (i := (pre.length : Int)) (by omega) (by omega)
    have mx := z21 xr (i := (pre.length : Int)) (by omega) (by omega)
    have ey : atI h.runs (pre.length : Int) = y := by unfold atI; rw [g]; rfl
    have same : ∀ (he : atI xr (pre.length : Int) = y), ((getI xr (pre.length : Int)).bind fun x16 => ((getI h.runs (pre.length : Int)).bind fun x17 => (if decide (x16.net = x17.net) = true then ((getI xr (pre.length : Int)).bind fun x19 => ((getI h.runs (pre.length : Int)).bind fun x20 => ((z7h x19.case x20.case).bind fun x21 => (if x21 = true then (gd (ok64 ((pre.length : Int) + 1)) ((z0m h q xr kx f) ((pre.length : Int) + 1) b)) else (some false))))) else (some false)))) = some true := by
      intro he
      rw [he] at gx mx
      rw [gx, g, zB, zB, if_pos (by simp), zB, zB, v6q _ _ (hxs y mx), zB, if_pos (by simp), z00 d]
      exact ih
    rw [z0m, if_pos (zT c)]
    cases b
    · rw [if_neg (by simp)]
      exact same (by rw [hat _ (by omega) c (by simp), ey])
    · rw [if_pos rfl]
      by_cases hq : (pre.length : Int) = q.case
      · rw [if_pos (zT hq), z00 d]; exact ih
      · rw [if_neg (by simpa using hq)]
        exact same (by rw [hat _ (by omega) c (fun e => hq e.2), ey])
theorem law_FnEngApart (code : List Int) (hl : code.length ≤ 9223372036854775807) (hb : ∀ y ∈ code, 0 ≤ y ∧ y ≤ 255) : zk4 code = some true := by
  unfold zk4
  by_cases hz : 1048576 < (code.length : Int)
  · rw [if_pos (zT hz)]
  rw [if_neg (by simpa using hz)]
  obtain ⟨⟨h, q⟩, e, hh, hq⟩ := drawEngDo code hb
  dsimp only at hh hq
  have hqs : q.data.length ≤ SMALL := by unfold SMALL; omega
  have sx := zx1 (v5u (r := q) hh)
  have sh := zx1 hh
  rw [e, zB]
  dsimp only
  rw [v4d h q hh hqs, zB, v50 h q hh hqs, zB, v9r _ _ sx, zB, if_pos (by simp), if_pos (by simp)]
  rcases v5v (h := h) (q := q) with ⟨h1, h2, e1⟩ | ⟨e1, hn⟩
  · rw [e1] at sx ⊢
    have ha := vh5 h q
    have q0 := zo2 h2
    have f5 : h.runs.length ≤ (doB h q).1.runs.length := by rw [v5t]; split <;> omega
    rw [if_neg (by rw [zE]; omega)]
    have at1 : ∀ b : Bool, (b = true ↔ 2 ≤ q.kind ∧ q.kind ≤ 4) → ∀ i : Int, 0 ≤ i → i < h.runs.length → ¬ (b = true ∧ i = q.case) → atI (doB h q).1.runs i = atI h.runs i := fun b hb i i0 i1 hi =>
      vl6 q0 i0 i1 (fun c => hi ⟨hb.2 (by
        have hk : 1 ≤ q.kind ∧ q.kind ≤ 5 := by simp only [reqB, zA, z0a] at h2; exact h2.1
        omega), c.2.2⟩)
    have fin : ∀ b : Bool, (b = true → 2 ≤ q.kind ∧ q.kind ≤ 4) → (if b = true then ((z7i (doB h q).1.tree h.tree).bind fun x33 => (if x33 = true then (some (decide (((doB h q).1.runs.length : Int) = (h.runs.length : Int)))) else (some false))) else (some true)) = some true := by
      intro b hb
      cases b
      · rw [if_neg (by simp)]
      · have k := hb rfl
        rw [if_pos rfl, v6r _ _ sx.2.2.1, zB, v9n (by omega), if_pos (by simp), v5t, if_neg (by omega)]
        simp
    by_cases k2 : 2 ≤ q.kind
    · rw [if_pos (zT k2)]
      exact w9s sh sx.2.2.2.2 f5 (at1 _ (by rw [zE]; exact ⟨fun c => ⟨k2, c⟩, fun c => c.2⟩)) (fin _ (fun c => ⟨k2, of_decide_eq_true c⟩))
    · rw [if_neg (by simpa using k2)]
      exact w9s sh sx.2.2.2.2 f5 (at1 _ ⟨fun c => absurd c Bool.false_ne_true, fun c => absurd c.1 k2⟩) (fin _ (fun c => absurd c Bool.false_ne_true))
  · rw [e1, if_pos (by simp), if_pos (by simp [noHouse]), gu_Ok, zB]
end Go.Am.Pl
end
