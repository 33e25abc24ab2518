/- The plain law. Own work. -/
import Derived.Test.YtgolgnbgomhknaaGreatKoP2
set_option maxRecDepth 100000
set_option linter.unusedVariables false
set_option linter.unusedSimpArgs false
section
namespace Go.Am.Pl
open Go
theorem zf7 {h : GHouse} (sh : houseSmall h) {b : Bool} (e : houseB h = b) : ((z09 h).bind fun x26 => (if (x26 == b) = true then ((z09 h).bind fun x28 => ((z19 h).bind fun x29 => (if (x28 == x29) = true then ((z1y).bind fun x31 => (some x31)) else (some false)))) else (some false))) = some true := by
  rw [w6y h sh, w7i h sh, zB, if_pos (by rw [e]; simp), zB, zB, if_pos (by simp), gu_Ok, zB]
theorem w3c {h : GHouse} (sh : houseSmall h) {A : Option Bool} {B : Bool → Option Bool} {s0 : Bool} (h1 : houseB h = (s0 && h.runs.all (runB h.nets))) (hA : houseB h = false → A = some true) (hB : ∀ b, houseB h = b → B b = some true) : z07 h A B FUEL s0 0 = some true :=
  scan h.runs (by have := sh.2.2.2.1; unfold SMALL at this; omega) (fun f i s => z07 h A B f s i) (fun _ _ _ => some true) (fun pre s => s = (s0 && pre.all (runB h.nets)))
    (fun f s hi => by
      have hi : s = (s0 && h.runs.all (runB h.nets)) := hi
      show z07 h A B (f + 1) s (h.runs.length : Int) = some true
      rw [z07, if_neg (by simp)]
      exact hB s (by rw [h1, hi]))
    (fun f pre r suf s a b g d hi k => by
      have hi : s = (s0 && pre.all (runB h.nets)) := hi
      have hm : r ∈ h.runs := by rw [a]; simp
      show z07 h A B (f + 1) s (pre.length : Int) = some true
      rw [z07, if_pos (zT g)]
      by_cases hs : s = true
      case neg =>
        rw [if_neg hs]
        refine hA ?_
        rw [h1, a, List.all_append, ← Bool.and_assoc, ← hi, zF.2 hs]; rfl
      have e : (s0 && (pre ++ [r]).all (runB h.nets)) = runB h.nets r := by
        rw [List.all_append, ← Bool.and_assoc, ← hi, hs]; simp
      rw [if_pos hs, b, zB]
      by_cases c1 : 0 ≤ r.net
      · rw [if_pos (zT c1)]
        by_cases c2 : r.net < h.nets.length
        · have gm := z1g h.nets c1 c2
          have mm := z3n h.nets c1 c2
          rw [if_pos (zT c2), gm, zB, zB, yq9 _ _ (sh.1.2 _ mm) (sh.2.2.2.2 r hm), zB, z02 d]
          refine k _ ?_
          rw [e]
          unfold runB
          rw [z08.2 (show 0 ≤ r.net ∧ r.net ≤ (h.nets.length : Int) - 1 from ⟨c1, by omega⟩)]; rfl
        · rw [if_neg (by simpa using c2), z02 d]
          refine k _ ?_
          rw [e]
          exact (zF.2 fun c => c2 (y53.1 c).1.2).symm
      · rw [if_neg (by simpa using c1), z02 d]
        refine k _ ?_
        rw [e]
        exact (zF.2 fun c => c1 (y53.1 c).1.1).symm) FUEL s0 (by simp) (by have := z3a; have := sh.2.2.2.1; unfold SMALL at this; omega)
theorem y0a {h : GHouse} (sh : houseSmall h) {kx : Bool → Option Bool} {s0 : Bool} (hk : kx (s0 && h.nets.all netB) = some true) : z0c h kx FUEL s0 0 = some true :=
  scan h.nets (by have := sh.1.1; unfold SMALL at this; omega) (fun f i s => z0c h kx f s i) (fun _ _ _ => some true) (fun pre s => s = (s0 && pre.all netB))
    (fun f s hi => by
      have hi : s = (s0 && h.nets.all netB) := hi
      show z0c h kx (f + 1) s (h.nets.length : Int) = some true
      rw [z0c, if_neg (by simp), hi]; exact hk)
    (fun f pre r suf s a b g d hi k => by
      have hi : s = (s0 && pre.all netB) := hi
      have hm : r ∈ h.nets := by rw [a]; simp
      show z0c h kx (f + 1) s (pre.length : Int) = some true
      rw [z0c, if_pos (zT g)]
      by_cases hs : s = true
      · rw [if_pos hs, b, zB, y5z r (sh.1.2 r hm), zB, z02 d]
        refine k _ ?_
        rw [List.all_append, ← Bool.and_assoc, ← hi, hs]; simp
      · rw [if_neg hs, z02 d]
        refine k _ ?_
        rw [List.all_append, ← Bool.and_assoc, ← hi, zF.2 hs]; rfl) FUEL s0 (by simp) (by have := z3a; have := sh.1.1; unfold SMALL at this; omega)
theorem law_FnEngOk (code : List Int) (hl : code.length ≤ 9223372036854775807) (hb : ∀ y ∈ code, 0 ≤ y ∧ y ≤ 255) : zg9 code = some true := by
  unfold zg9
  by_cases hz : 1048576 < (code.length : Int)
  · rw [if_pos (zT hz)]
  rw [if_neg (by simpa using hz)]
  obtain ⟨h, e, hh⟩ := drawEngOk code hb
  have sh := yg4 hh
  rw [e, zB]
  have bad : ∀ {A : Option Bool} {B : Bool → Option Bool} {s0 : Bool}, s0 = false → houseB h = false → (houseB h = false → A = some true) → (∀ b, houseB h = b → B b = some true) → z07 h A B FUEL s0 0 = some true := fun hs hf hA hB => w3c sh (by rw [hf, hs]; rfl) hA hB
  by_cases c1 : 1 ≤ (h.nets.length : Int)
  case neg =>
    have hf : houseB h = false := zF.2 fun c => by have := (z56.1 c).nets; simp only [netsB, zA, z08] at this; omega
    rw [if_neg (by simpa using c1)]
    exact y0a sh (bad (Bool.false_and _) hf (zf7 sh) (fun b => zf7 sh))
  rw [if_pos (zT c1)]
  by_cases c2 : (h.nets.length : Int) ≤ 3
  case neg =>
    have hf : houseB h = false := zF.2 fun c => by have := (z56.1 c).nets; simp only [netsB, zA, z08] at this; omega
    rw [if_neg (by simpa using c2)]
    exact y0a sh (bad (Bool.false_and _) hf (zf7 sh) (fun b => zf7 sh))
  rw [if_pos (zT c2)]
  by_cases c3 : (h.runs.length : Int) ≤ 5
  case neg =>
    have hf : houseB h = false := zF.2 fun c => by have := (z56.1 c).many; omega
    rw [if_neg (by simpa using c3)]
    exact y0a sh (bad (Bool.false_and _) hf (zf7 sh) (fun b => zf7 sh))
  rw [if_pos (zT c3), yr1 _ sh.2.1, zB]
  by_cases c4 : pplB h.people = true
  case neg =>
    have hf : houseB h = false := zF.2 fun c => c4 (z56.1 c).ppl
    rw [if_neg c4]
    exact y0a sh (bad (Bool.false_and _) hf (zf7 sh) (fun b => zf7 sh))
  rw [if_pos c4, yr2 _ sh.2.2.1, zB]
  refine y0a sh (w3c sh ?_ (zf7 sh) (fun b => zf7 sh))
  unfold houseB netsB
  rw [z08.2 ⟨c1, c2⟩, c4, decide_eq_false (show ¬ 5 < (h.runs.length : Int) by omega)]
  cases h.nets.all netB <;> cases rdrB h.tree <;> simp
end Go.Am.Pl
end
