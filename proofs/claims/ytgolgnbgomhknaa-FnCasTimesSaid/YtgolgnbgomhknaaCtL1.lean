/- The plain law. Own work. -/
import Derived.Test.YtgolgnbgomhknaaCtP2
set_option maxRecDepth 100000
set_option linter.unusedVariables false
set_option linter.unusedSimpArgs false
section
namespace Go.Am.Pl
open Go
def timesI (t : Int) : List GDid → Int
  | [] => 0
  | d :: l => (if d.task = t then 1 else 0) + timesI t l
theorem y21 (t : Int) (d : GDid) : ∀ l : List GDid, timesI t (l ++ [d]) = timesI t l + (if d.task = t then 1 else 0)
  | [] => by simp [timesI]
  | x :: l => by simp only [List.cons_append, timesI, y21 t d l]; omega
theorem y6d (t : Int) : ∀ l : List GDid, 0 ≤ timesI t l ∧ timesI t l ≤ l.length
  | [] => by simp [timesI]
  | x :: l => by have := y6d t l; simp only [timesI, zC]; split <;> omega
theorem yc9 (c : GCase) (t : Int) (hs : c.did.length ≤ SMALL) : z5x c t = some (timesI t c.did) := by
  unfold z5x
  have := scan c.did (by unfold SMALL at hs; omega) (fun f i s => z1m c t z5y f s i) (fun _ suf s => some (s + timesI t suf)) (fun pre s => 0 ≤ s ∧ s ≤ pre.length)
    (fun n s _ => by rw [z1m, if_neg (by simp)]; simp [timesI, z5y])
    (fun n pre x suf s a b g d hi k => by
      have hpl : pre.length < SMALL := by rw [a, zL, zC] at hs; omega
      unfold SMALL at hpl
      have hs1 : ok64 (s + 1) := by constructor <;> omega
      rw [z1m, if_pos (zT g), b, zB, z02 hs1, z02 d]
      by_cases h : x.task = t
      · rw [if_pos (zT h), k (s + 1) (by simp; omega)]; simp only [timesI, if_pos h]; exact congrArg some (by omega)
      · rw [if_neg (by simpa using h), z02 d, k s (by simp; omega)]; simp only [timesI, if_neg h, Int.zero_add]) FUEL 0 (by simp) (by have := z2v; unfold SMALL at hs; omega)
  rw [this, Int.zero_add]
theorem z7z (c : GCase) (t : Int) (hs : c.did.length ≤ SMALL) : z2x c t = some (timesI t c.did) := by
  unfold z2x
  have := scan c.did (by unfold SMALL at hs; omega) (fun f i s => z1l t c.did (c.did.length : Int) z5t f i s) (fun _ suf s => some (s + timesI t suf)) (fun pre s => 0 ≤ s ∧ s ≤ pre.length)
    (fun n s _ => by rw [z1l, if_neg (by simp)]; simp [timesI, z5t])
    (fun n pre x suf s a b g d hi k => by
      have hpl : pre.length < SMALL := by rw [a, zL, zC] at hs; omega
      unfold SMALL at hpl
      have hs1 : ok64 (s + 1) := by constructor <;> omega
      rw [z1l, if_pos (zT g), b, zB, z02 hs1, z02 d]
      by_cases h : x.task = t
      · rw [if_pos (zT h), k (s + 1) (by simp; omega)]; simp only [timesI, if_pos h]; exact congrArg some (by omega)
      · rw [if_neg (by simpa using h), z02 d, k s (by simp; omega)]; simp only [timesI, if_neg h, Int.zero_add]) FUEL 0 (by simp) (by have := z2v; unfold SMALL at hs; omega)
  rw [this, Int.zero_add]
theorem w03 {k : Int} {b : Bool} {c x : GCase} (sc : c.did.length ≤ 62) (hx : (x.did = c.did) ∨ (b = true ∧ (0 ≤ k ∧ k < c.busy.length) ∧ ∃ w, x.did = c.did ++ [GDid.mk (atI c.busy k).task w])) :
    z0q k b c x.state x.marks x.busy x.data x.did z3j FUEL 0 0 = some true := by
  have sx : x.did.length ≤ 63 := by
    rcases hx with e | ⟨_, _, w, e⟩
    · rw [e]; omega
    · rw [e]; simp; omega
  refine scan (nats 6) (by rw [zh3]; omega) (fun f i s => z0q k b c x.state x.marks x.busy x.data x.did z3j f s i) (fun _ _ _ => some true) (fun pre s => s = 0 ∨ (s = 1 ∧ (atI c.busy k).task < pre.length))
    (fun n s hi => ?_) (fun n pre y suf s a e g d hi ih => ?_) FUEL 0 (.inl rfl) (by have := z2v; rw [zh3]; omega)
  · rw [z0q, if_neg (by rw [zh3]; simp)]
    unfold z3j
    rw [if_pos (by rw [zE]; omega), z7z _ _ (by simp [SMALL]), zB]
    rfl
  · rw [zh3] at g
    have g : (pre.length : Int) < 6 := by omega
    have h1 := y6d (pre.length : Int) c.did
    have h2 := y6d (pre.length : Int) x.did
    rw [z0q, if_pos (zT g), z7z c _ (by unfold SMALL; omega), zB, z7z _ _ (by unfold SMALL; show x.did.length ≤ _; omega), zB]
    show (if decide (timesI (pre.length : Int) x.did = timesI (pre.length : Int) c.did) = true then _ else _) = some true
    have hpl : ((pre ++ [y]).length : Int) = pre.length + 1 := by simp
    by_cases h : timesI (pre.length : Int) x.did = timesI (pre.length : Int) c.did
    · rw [if_pos (zT h)]
      show gd (ok64 (s + timesI (pre.length : Int) x.did)) (gd (ok64 (s + timesI (pre.length : Int) x.did - timesI (pre.length : Int) c.did)) _) = some true
      rw [z02 (by constructor <;> omega), z02 (by constructor <;> omega), z02 d]
      exact ih (s + timesI (pre.length : Int) x.did - timesI (pre.length : Int) c.did) (by rw [hpl]; omega)
    · rcases hx with e2 | ⟨hb, hk, w, e2⟩
      · rw [e2] at h; exact absurd rfl h
      rw [e2, y21] at h
      have ht : (atI c.busy k).task = pre.length := by
        by_cases q : (atI c.busy k).task = pre.length
        · exact q
        · rw [if_neg q] at h; exact absurd (by omega) h
      have e3 : timesI (pre.length : Int) x.did = timesI (pre.length : Int) c.did + 1 := by rw [e2, y21, if_pos ht]
      rw [if_neg (by rw [zE, e3]; omega), if_pos hb]
      show gd (ok64 (timesI (pre.length : Int) c.did + 1)) (if decide (timesI (pre.length : Int) x.did = timesI (pre.length : Int) c.did + 1) = true then _ else _) = some true
      rw [z02 (by constructor <;> omega), if_pos (zT e3), z1g c.busy hk.1 hk.2, zB, if_pos (zT ht)]
      show gd (ok64 (s + timesI (pre.length : Int) x.did)) (gd (ok64 (s + timesI (pre.length : Int) x.did - timesI (pre.length : Int) c.did)) _) = some true
      rw [z02 (by constructor <;> omega), z02 (by constructor <;> omega), z02 d]
      exact ih (s + timesI (pre.length : Int) x.did - timesI (pre.length : Int) c.did) (by rw [hpl]; omega)
theorem law_FnCasTimes (code more : List Int) (hl : code.length ≤ 9223372036854775807) (hb : ∀ y ∈ code, 0 ≤ y ∧ y ≤ 255) (hl2 : more.length ≤ 9223372036854775807) (hb2 : ∀ y ∈ more, 0 ≤ y ∧ y ≤ 255) : z6v code more = some true := by
  unfold z6v
  by_cases hz : 1048576 < (code.length : Int)
  · rw [if_pos (zT hz)]
  rw [if_neg (by simpa using hz)]
  by_cases hz : 1048576 < (more.length : Int)
  · rw [if_pos (zT hz)]
  rw [if_neg (by simpa using hz)]
  obtain ⟨⟨d, t⟩, e, hd⟩ := drawCasTimes code hb
  dsimp only at hd
  have sd := hd.small (by omega)
  rw [e, zB]
  dsimp only
  rw [z7z d t sd.2.2.2, zB, yc9 d t sd.2.2.2, zB, if_pos (by simp)]
  obtain ⟨⟨n, c, k, v, num⟩, e, hn, hc⟩ := drawCasWork more hb2
  dsimp only at hn hc
  have sn := hn.small
  have sc := hc.small (by omega)
  rw [e, zB]
  dsimp only
  rw [yi6 n c k v num sn sc, zB]
  refine w03 hc.did ?_
  by_cases h : (workB n c k v num).2 = true
  · obtain ⟨W, R⟩ := w04 h
    rw [h]
    generalize (workB n c k v num).1 = x at R
    cases R with
    | more hd => exact .inl rfl
    | ends hd G hp => exact .inr ⟨rfl, ⟨W.k0, W.k1⟩, _, rfl⟩
    | goes hd G hp => exact .inr ⟨rfl, ⟨W.k0, W.k1⟩, _, rfl⟩
  · rw [yr7 h]; exact .inl rfl
end Go.Am.Pl
end
