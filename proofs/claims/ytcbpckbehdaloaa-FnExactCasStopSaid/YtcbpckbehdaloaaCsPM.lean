/- Plain laws: the laws' marks: what mark* writes, held* finds. Own work. -/
import Derived.Test.YtcbpckbehdaloaaCsP1
import Derived.Test.YtcbpckbehdaloaaCsC3
set_option maxRecDepth 100000
set_option maxHeartbeats 1000000
set_option linter.unusedVariables false
set_option linter.unusedSimpArgs false
namespace Go.Am.Pl
open Go

def BIG : Int := 4000000000000000000
theorem set_mid {α : Type} (pre : List α) (x y : α) (suf : List α) : (pre ++ x :: suf).set (pre.length : Int).toNat y = pre ++ y :: suf := by simp
theorem ok_big {k : Int} (h0 : 0 ≤ k) (h1 : k ≤ BIG) : ok64 k := by unfold BIG at h1; constructor <;> omega

/-- How many numbers a list takes; the list with its numbers. -/
def cntS {α : Type} (cnt : α → Nat) : List α → Nat
  | [] => 0
  | x :: l => cnt x + cntS cnt l
def numS {α : Type} (cnt : α → Nat) (num : α → Int → α) : List α → Int → List α
  | [], _ => []
  | x :: l, k => num x k :: numS cnt num l (k + cnt x)

theorem mark_scan {α : Type} (cnt : α → Nat) (num : α → Int → α) (f : Nat → Int → Int → List α → Option (Int × List α)) (ok : α → Prop)
    (h0 : ∀ n k l, f (n + 1) k (l.length : Int) l = some (k, l))
    (h1 : ∀ n k pre x suf, ok x → 0 ≤ k → k + cnt x ≤ BIG → ok64 ((pre.length : Int) + 1) → f (n + 1) k (pre.length : Int) (pre ++ x :: suf) = f n (k + cnt x) ((pre.length : Int) + 1) (pre ++ num x k :: suf)) :
    ∀ (a : List α) (k : Int), (∀ x ∈ a, ok x) → a.length ≤ SMALL → 0 ≤ k → k + cntS cnt a ≤ BIG → f FUEL k 0 a = some (k + cntS cnt a, numS cnt num a k) := by
  have key : ∀ (suf pre : List α) (n : Nat) (k : Int), (∀ x ∈ suf, ok x) → pre.length + suf.length ≤ SMALL → 0 ≤ k → k + cntS cnt suf ≤ BIG → suf.length < n →
      f n k (pre.length : Int) (pre ++ suf) = some (k + cntS cnt suf, pre ++ numS cnt num suf k) := by
    intro suf
    induction suf with
    | nil =>
      intro pre n k _ _ _ _ hn
      obtain ⟨m, rfl⟩ : ∃ m, n = m + 1 := ⟨n - 1, by omega⟩
      simp only [List.append_nil, h0, cntS, numS]; simp
    | cons x suf ih =>
      intro pre n k hok hl hk hb hn
      obtain ⟨m, rfl⟩ : ∃ m, n = m + 1 := ⟨n - 1, by omega⟩
      simp only [cntS, List.length_cons] at hb hl hn
      have hb' : k + cnt x + cntS cnt suf ≤ BIG := by omega
      rw [h1 m k pre x suf (hok x (by simp)) hk (by omega) (by unfold SMALL at hl; constructor <;> omega)]
      have := ih (pre ++ [num x k]) m (k + cnt x) (fun y hy => hok y (by simp [hy])) (by simp; omega) (by omega) hb' (by omega)
      simp only [List.append_assoc, List.singleton_append, List.length_append, List.length_singleton] at this
      rw [show (((pre.length + 1 : Nat)) : Int) = (pre.length : Int) + 1 by omega] at this
      rw [this]
      simp only [cntS, numS]
      congr 2; omega
  intro a k hok hl hk hb
  have := key a [] FUEL k hok (by simpa using hl) hk hb (by unfold FUEL; unfold SMALL at hl; omega)
  simpa using this

theorem held_scan {α : Type} (cnt : α → Nat) (num : α → Int → α) (a : List α) (ka : Int) (f : Nat → Int → Int → Option Int)
    (h0 : ∀ n k, f (n + 1) k ((numS cnt num a ka).length : Int) = some k)
    (h1 : ∀ n k i x, getI (numS cnt num a ka) i = some (num x k) → x ∈ a → i < ((numS cnt num a ka).length : Int) → 0 ≤ k → k + cnt x ≤ BIG → ok64 (i + 1) → f (n + 1) k i = f n (k + cnt x) (i + 1))
    (hl : a.length ≤ SMALL) (hk : 0 ≤ ka) (hb : ka + cntS cnt a ≤ BIG) : f FUEL ka 0 = some (ka + cntS cnt a) := by
  have hlen : ∀ (l : List α) (k : Int), (numS cnt num l k).length = l.length := by intro l; induction l with
    | nil => intro k; rfl
    | cons x l ih => intro k; simp [numS, ih]
  have key : ∀ (suf : List α) (pre : List α) (n : Nat) (k : Int), (∀ x ∈ suf, x ∈ a) → numS cnt num a ka = pre ++ numS cnt num suf k → 0 ≤ k → k + cntS cnt suf ≤ BIG → suf.length < n → f n k (pre.length : Int) = some (k + cntS cnt suf) := by
    intro suf
    induction suf with
    | nil =>
      intro pre n k _ he _ _ hn
      obtain ⟨m, rfl⟩ : ∃ m, n = m + 1 := ⟨n - 1, by omega⟩
      have := h0 m k
      rw [he] at this
      simpa [numS, cntS] using this
    | cons x suf ih =>
      intro pre n k hmem he hk hb hn
      obtain ⟨m, rfl⟩ : ∃ m, n = m + 1 := ⟨n - 1, by omega⟩
      simp only [cntS, List.length_cons] at hb hn
      have hL : (numS cnt num a ka).length = pre.length + (numS cnt num suf (k + cnt x)).length + 1 := by rw [he]; simp [numS]; omega
      have hL2 : pre.length + 1 ≤ SMALL := by rw [hlen] at hL; omega
      rw [h1 m k pre.length x (by rw [he, numS]; exact getI_mid _ _ _) (hmem x (by simp)) (by omega) hk (by omega) (by unfold SMALL at hL2; constructor <;> omega)]
      have := ih (pre ++ [num x k]) m (k + cnt x) (fun y hy => hmem y (by simp [hy])) (by rw [he, numS]; simp) (by omega) (by omega) (by omega)
      simp only [List.length_append, List.length_singleton] at this
      rw [show (((pre.length + 1 : Nat)) : Int) = (pre.length : Int) + 1 by omega] at this
      rw [this]; simp only [cntS]; congr 1; omega
  exact key a [] FUEL ka (fun x h => h) (by simp) hk hb (by unfold FUEL; unfold SMALL at hl; omega)

def cI1 : Int → Nat := fun _ => 1
def nI1 : Int → Int → Int := fun _ k => k
theorem mark_IntS (a : List Int) (k : Int) (hl : a.length ≤ SMALL) (hk : 0 ≤ k) (hb : k + cntS cI1 a ≤ BIG) : m_markIntS a k = some (k + cntS cI1 a, numS cI1 nI1 a k) := by
  unfold m_markIntS
  refine mark_scan cI1 nI1 (m_markIntS_l0 m_markIntS_k1) (fun _ => True) (fun n k l => ?_) (fun n k pre x suf _ h0 h1 h2 => ?_) a k (fun _ _ => trivial) hl hk hb
  · rw [m_markIntS_l0, if_neg (by simp)]; rfl
  · rw [m_markIntS_l0, if_pos (by simp; omega), getI_mid, Option.bind_some, gd_pos (ok_big (by omega) (by simpa [cI1] using h1)), gd_pos h2, set_mid]; rfl
theorem held_IntS (a : List Int) (k : Int) (hl : a.length ≤ SMALL) (hk : 0 ≤ k) (hb : k + cntS cI1 a ≤ BIG) : m_heldIntS (numS cI1 nI1 a k) k = some (k + cntS cI1 a) := by
  unfold m_heldIntS
  refine held_scan cI1 nI1 a k (m_heldIntS_l0 _ m_heldIntS_k1) (fun n k => ?_) (fun n k i x hg hm hi h0 h1 h2 => ?_) hl hk hb
  · rw [m_heldIntS_l0, if_neg (by simp)]; rfl
  · rw [m_heldIntS_l0, if_pos (decide_eq_true hi), hg, Option.bind_some, if_pos (by simp [nI1]), gd_pos (ok_big (by omega) (by simpa [cI1] using h1)), gd_pos h2]; rfl

end Go.Am.Pl
