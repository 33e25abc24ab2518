/- The plain law. Own work. -/
import Derived.Test.YtgolgnbgomhknaaLoP2
set_option maxRecDepth 100000
set_option linter.unusedVariables false
set_option linter.unusedSimpArgs false
section
namespace Go.Am.Pl
open Go
theorem yy8 {l : List GReq} (hl : l.length ≤ 1000) (hd : ∀ q ∈ l, q.data.length ≤ SMALL) {kx : Bool → Option Bool} {s0 : Bool} (hk : kx (s0 && l.all reqB) = some true) : z0l l kx FUEL s0 0 = some true :=
  scan l (by omega) (fun f i s => z0l l kx f s i) (fun _ _ _ => some true) (fun pre s => s = (s0 && pre.all reqB))
    (fun f s hi => by
      have hi : s = (s0 && l.all reqB) := hi
      show z0l l kx (f + 1) s (l.length : Int) = some true
      rw [z0l, if_neg (by simp), hi]; exact hk)
    (fun f pre r suf s a b g d hi k => by
      have hi : s = (s0 && pre.all reqB) := hi
      have hm : r ∈ l := by rw [a]; simp
      show z0l l kx (f + 1) s (pre.length : Int) = some true
      rw [z0l, if_pos (zT g)]
      by_cases hs : s = true
      · rw [if_pos hs, b, zB, zz3 r (hd r hm), zB, z02 d]
        refine k _ ?_
        rw [List.all_append, ← Bool.and_assoc, ← hi, hs]; simp
      · rw [if_neg hs, z02 d]
        refine k _ ?_
        rw [List.all_append, ← Bool.and_assoc, ← hi, zF.2 hs]; rfl) FUEL s0 (by simp) (by have := z3p; omega)
theorem law_FnLogOk (code : List Int) (hl : code.length ≤ 9223372036854775807) (hb : ∀ y ∈ code, 0 ≤ y ∧ y ≤ 255) : z9e code = some true := by
  unfold z9e
  by_cases hz : 1048576 < (code.length : Int)
  · rw [if_pos (zT hz)]
  rw [if_neg (by simpa using hz)]
  obtain ⟨l, e, hr⟩ := drawLogOk code hb
  obtain ⟨s1, s2⟩ := hr.small (by omega)
  have hl1 := hr.1
  rw [e, zB]
  refine yy8 (by omega) s2 ?_
  have e1 : (decide ((l.length : Int) ≤ 150) && l.all reqB) = logB l := by
    unfold logB
    congr 1
    by_cases h : (l.length : Int) ≤ 150
    · rw [zT h, decide_eq_false (show ¬ 150 < (l.length : Int) by omega)]; rfl
    · rw [decide_eq_false h, zT (show 150 < (l.length : Int) by omega)]; rfl
  rw [e1]
  unfold za1
  have hn : z38 ([] : List GReq) = some true := by rw [y16 [] (Nat.zero_le _) (fun r hr => by simp at hr)]; rfl
  rw [y16 l s1 s2, w07 l s1 s2, zB, if_pos (by simp), zB, zB, if_pos (by simp), hn]
  by_cases h : logB l = true
  · have hd : Int.tdiv (l.length : Int) 2 = (l.length : Int) / 2 := Int.tdiv_eq_ediv_of_nonneg (by omega)
    have t1 : (l.take (Int.tdiv (l.length : Int) 2).toNat).length ≤ SMALL := by rw [List.length_take]; omega
    rw [if_pos h, z02 (by rw [hd]; exact ⟨by omega, by constructor <;> omega⟩), z02 (by rw [hd]; exact ⟨by omega, by omega⟩), y16 _ t1 (fun r hr => s2 r (List.mem_of_mem_take hr)), zB, w21 h, if_pos rfl, zB]
  · rw [if_neg h, zB]
end Go.Am.Pl
end
