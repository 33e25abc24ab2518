/- The plain law. Own work. -/
import Derived.Test.YtcbpckbehdaloaaEwP1
section
/- FnExactEngWork: the plain law. Own work. -/
set_option maxRecDepth 100000
set_option linter.unusedVariables false
set_option linter.unusedSimpArgs false
namespace Go.Am.Pl
open Go

def busyN : List GRun → Nat
  | [] => 0
  | r :: l => r.case.busy.length + busyN l
theorem busyN_app (r : GRun) : ∀ l : List GRun, busyN (l ++ [r]) = busyN l + r.case.busy.length
  | [] => by simp [busyN]
  | x :: l => by simp only [List.cons_append, busyN, busyN_app r l]; omega
theorem busyN_pre (pre : List GRun) (x : GRun) (suf : List GRun) : busyN pre + x.case.busy.length ≤ busyN (pre ++ x :: suf) := by
  induction pre with
  | nil => simp [busyN]
  | cons y l ih => simp only [List.cons_append, busyN]; omega
theorem busyN_W : ∀ l : List GRun, busyN l ≤ sumW GRun.W l
  | [] => Nat.zero_le _
  | r :: l => by
    have := busyN_W l
    have e : sumW GRun.W (r :: l) = GRun.W r + sumW GRun.W l := by simp [sumW]
    rw [e]; simp only [busyN, GRun.W, GCase.W]; omega
def ownE (who i : Int) (b : GItem) : List Int := if b.who = who then [i] else []
theorem ownE_len (who i : Int) (b : GItem) : (ownE who i b).length ≤ 1 := by unfold ownE; split <;> simp
def workB (who : Int) : Int → List GRun → List Int
  | _, [] => []
  | i, r :: l => r.case.busy.flatMap (ownE who i) ++ workB who (i + 1) l
theorem workB_len (who : Int) : ∀ (i : Int) (l : List GRun), (workB who i l).length ≤ busyN l
  | _, [] => by simp [workB]
  | i, r :: l => by
    have := workB_len who (i + 1) l
    have := flat_len (ownE_len who i) r.case.busy
    simp only [workB, busyN, List.length_append]; omega
/-- A loop that puts more behind what there is. -/
theorem emit_on {α γ β : Type} (l : List α) (hl : l.length ≤ SMALL) (e : α → List γ) (s0 : List γ) (f : Nat → Int → List γ → Option β) (kx : List γ → Option β) (h0 : ∀ n s, f (n + 1) (l.length : Int) s = kx s)
    (h1 : ∀ n pre x suf s, l = pre ++ x :: suf → getI l (pre.length : Int) = some x → (pre.length : Int) < (l.length : Int) → ok64 ((pre.length : Int) + 1) → s = s0 ++ pre.flatMap e → f (n + 1) (pre.length : Int) s = f n ((pre.length : Int) + 1) (s ++ e x)) :
    f FUEL 0 s0 = kx (s0 ++ l.flatMap e) := by
  have := scan l (by unfold SMALL at hl; omega) f (fun pre suf s => kx (s ++ suf.flatMap e)) (fun pre s => s = s0 ++ pre.flatMap e) (fun n s _ => by rw [h0]; simp)
    (fun n pre x suf s a b c d i k => by
      rw [h1 n pre x suf s a b c d i, k (s ++ e x) (by rw [i]; simp)]
      simp) FUEL s0 (by simp) (by have := FUEL_ge; unfold SMALL at hl; omega)
  rw [this]
theorem on_small {busy pre suf : List GItem} {x : GItem} {s s0 : List Int} {who i : Int} (hb : s0.length + busy.length ≤ SMALL) (a : busy = pre ++ x :: suf) (hs : s = s0 ++ pre.flatMap (ownE who i)) {y : Int} : s.length + [y].length ≤ SMALL := by
  have h1 := flat_len (ownE_len who i) pre
  rw [a, List.length_append, List.length_cons] at hb
  rw [hs, List.length_append, List.length_singleton]; omega
theorem spec_work_in (h : GHouse) (who i : Int) (r : GRun) (hr : getI h.runs i = some r) (s0 : List Int) (hb : s0.length + r.case.busy.length ≤ SMALL) (kx : List Int → Option (List Int)) :
    m_spec_EngWork_l1 h who i kx FUEL 0 s0 = kx (s0 ++ r.case.busy.flatMap (ownE who i)) := by
  refine emit_on r.case.busy (by omega) (ownE who i) s0 (m_spec_EngWork_l1 h who i kx) kx (fun n s => ?_) (fun n pre x suf s a b d g e => ?_)
  · rw [m_spec_EngWork_l1, hr, Option.bind_some, if_neg (by simp)]
  · rw [m_spec_EngWork_l1, hr, Option.bind_some, if_pos (decide_eq_true d), Option.bind_some, b, Option.bind_some]
    simp only [gd_pos (on_small hb a e), gd_pos g]
    unfold ownE
    by_cases hw : x.who = who <;> simp [hw]
theorem impl_work_in (who i : Int) (busy : List GItem) (s0 : List Int) (hb : s0.length + busy.length ≤ SMALL) (kx : List Int → Option (List Int)) :
    m_impl_EngWork_l1 who i busy (busy.length : Int) kx FUEL 0 s0 = kx (s0 ++ busy.flatMap (ownE who i)) := by
  refine emit_on busy (by omega) (ownE who i) s0 (m_impl_EngWork_l1 who i busy (busy.length : Int) kx) kx (fun n s => ?_) (fun n pre x suf s a b d g e => ?_)
  · rw [m_impl_EngWork_l1, if_neg (by simp)]
  · rw [m_impl_EngWork_l1, if_pos (decide_eq_true d), b, Option.bind_some]
    simp only [gd_pos (on_small hb a e), gd_pos g]
    unfold ownE
    by_cases hw : x.who = who <;> simp [hw]
theorem spec_EngWork (h : GHouse) (who : Int) (hl : h.runs.length ≤ SMALL) (hb : busyN h.runs ≤ SMALL) : m_spec_EngWork h who = some (workB who 0 h.runs) := by
  unfold m_spec_EngWork
  have := scan h.runs (by unfold SMALL at hl; omega) (m_spec_EngWork_l0 h who m_spec_EngWork_k2) (fun pre suf s => some (s ++ workB who pre.length suf)) (fun pre s => s.length ≤ busyN pre)
    (fun n s _ => by rw [m_spec_EngWork_l0, if_neg (by simp)]; simp [workB, m_spec_EngWork_k2])
    (fun n pre x suf s a b c d i k => by
      have hp := busyN_pre pre x suf
      rw [← a] at hp
      rw [m_spec_EngWork_l0, if_pos (decide_eq_true c), spec_work_in h who _ x b s (by omega), m_spec_EngWork_k1, gd_pos d, k _ (by have := flat_len (ownE_len who pre.length) x.case.busy; rw [busyN_app, List.length_append]; omega)]
      rw [show (((pre ++ [x]).length : Nat) : Int) = pre.length + 1 by simp, workB, List.append_assoc]) FUEL [] (by simp) (by have := FUEL_ge; unfold SMALL at hl; omega)
  rw [this]; rfl
theorem impl_EngWork (h : GHouse) (who : Int) (hl : h.runs.length ≤ SMALL) (hb : busyN h.runs ≤ SMALL) : m_impl_EngWork h who = some (workB who 0 h.runs) := by
  unfold m_impl_EngWork
  have := scan h.runs (by unfold SMALL at hl; omega) (fun n i s => m_impl_EngWork_l0 who m_impl_EngWork_k2 n h.runs (h.runs.length : Int) i s) (fun pre suf s => some (s ++ workB who pre.length suf)) (fun pre s => s.length ≤ busyN pre)
    (fun n s _ => by rw [m_impl_EngWork_l0, if_neg (by simp)]; simp [workB, m_impl_EngWork_k2])
    (fun n pre x suf s a b c d i k => by
      have hp := busyN_pre pre x suf
      rw [← a] at hp
      rw [m_impl_EngWork_l0, if_pos (decide_eq_true c), b, Option.bind_some, impl_work_in who _ x.case.busy s (by omega), m_impl_EngWork_k1, gd_pos d, k _ (by have := flat_len (ownE_len who pre.length) x.case.busy; rw [busyN_app, List.length_append]; omega)]
      rw [show (((pre ++ [x]).length : Nat) : Int) = pre.length + 1 by simp, workB, List.append_assoc]) FUEL [] (by simp) (by have := FUEL_ge; unfold SMALL at hl; omega)
  rw [this]; rfl
theorem okHouse {h : GHouse} (hs : houseSmall h) : okGHouse h := by
  obtain ⟨h1, h2, h3, h4, h5⟩ := hs
  exact ⟨⟨h1.1, fun n hn => ⟨(h1.2 n hn).1, fun t ht => (h1.2 n hn).2 t ht⟩⟩, h2, ⟨h3.1, fun x hx => h3.2 x hx⟩, ⟨h4, fun r hr => h5 r hr⟩⟩
theorem law_EngWork (h : GHouse) (who : Int) (hl : GHouse.lens (· ≤ 9223372036854775807) h) (hw : ok64 who) : m_laws_FnExactEngWork h who = some true := by
  unfold m_laws_FnExactEngWork
  rw [c_szEngHouse _ _ ⟨by omega, by omega, hl⟩, Option.bind_some]
  by_cases hz : szR 1048576 (GHouse.W h) < 0
  · rw [if_pos (decide_eq_true hz)]
  have e1 := szR_ge hz
  rw [if_neg (by simpa using hz)]
  have h2 : GHouse.lens (· ≤ 1048576) h := GHouse.lens_of (by omega)
  have hs := small_house h2
  have hv := vHouse_le h
  have hb : busyN h.runs ≤ 1048576 := by have := busyN_W h.runs; have e2 := e1.1; unfold GHouse.W at e2; omega
  have rl := workB_len who 0 h.runs
  have rv := cIntS (workB who 0 h.runs)
  have hB : BIG = 4000000000000000000 := rfl
  simp only [c_toEngHouse h h2, spec_EngWork h who hs.2.2.2.1 (sm hb), impl_EngWork h who hs.2.2.2.1 (sm hb), c_eqEngHouse h h ⟨h2, h2⟩, c_eqIntS (workB who 0 h.runs) _ (Nat.le_trans rl hb), Option.bind_some, decide_true, if_true,
    mark_EngHouse h 1 (okHouse hs) (by omega) (by omega), mark_IntS (workB who 0 h.runs) 1 (sm (Nat.le_trans rl hb)) (by omega) (by omega), held_IntS (workB who 0 h.runs) 1 (sm (Nat.le_trans rl hb)) (by omega) (by omega)]
  repeat rw [if_neg (by simp; omega)]

end Go.Am.Pl

end
