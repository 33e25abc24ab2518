/- Plain laws. Own work. -/
import Derived.Test.YtcbpckbehdaloaaLcC1
section
/- Plain laws, chapters 1 and 2: what the mirrors compute. Own work. -/
set_option maxRecDepth 100000
set_option linter.unusedVariables false
set_option linter.unusedSimpArgs false
namespace Go.Am.Pl
open Go

/-! ### Loops over a list -/
theorem getI_mid {α : Type} (pre : List α) (x : α) (suf : List α) : getI (pre ++ x :: suf) (pre.length : Int) = some x := by
  rw [getI_nat]; simp
/-- A loop over the indexes of a list, with state s. -/
theorem scan {α β σ : Type} (l : List α) (hl : l.length ≤ 4611686018427387000) (f : Nat → Int → σ → Option β) (g : List α → List α → σ → Option β) (Inv : List α → σ → Prop)
    (h0 : ∀ n s, Inv l s → f (n + 1) (l.length : Int) s = g l [] s)
    (h1 : ∀ n pre x suf s, l = pre ++ x :: suf → getI l (pre.length : Int) = some x → ((pre.length : Int) < (l.length : Int)) → ok64 ((pre.length : Int) + 1) → Inv pre s →
      (∀ s', Inv (pre ++ [x]) s' → f n ((pre.length : Int) + 1) s' = g (pre ++ [x]) suf s') → f (n + 1) (pre.length : Int) s = g pre (x :: suf) s) :
    ∀ n s, Inv [] s → l.length < n → f n 0 s = g [] l s := by
  have key : ∀ suf pre n s, l = pre ++ suf → Inv pre s → suf.length < n → f n (pre.length : Int) s = g pre suf s := by
    intro suf
    induction suf with
    | nil =>
      intro pre n s hp hi hn
      obtain ⟨m, rfl⟩ : ∃ m, n = m + 1 := ⟨n - 1, by simp at hn; omega⟩
      simp only [List.append_nil] at hp
      subst hp
      exact h0 m s hi
    | cons x suf ih =>
      intro pre n s hp hi hn
      obtain ⟨m, rfl⟩ : ∃ m, n = m + 1 := ⟨n - 1, by simp at hn; omega⟩
      have hlen : l.length = pre.length + suf.length + 1 := by rw [hp]; simp; omega
      refine h1 m pre x suf s hp (by rw [hp]; exact getI_mid pre x suf) (by omega) (by constructor <;> omega) hi ?_
      intro s' hi'
      have := ih (pre ++ [x]) m s' (by rw [hp]; simp) hi' (by simp at hn; omega)
      rw [← this]; simp
  intro n s hi hn
  exact key l [] n s (by simp) hi hn

/-- The same without a state. -/
theorem scan0 {α β : Type} (l : List α) (hl : l.length ≤ 4611686018427387000) (f : Nat → Int → Option β) (g : List α → List α → Option β)
    (h0 : ∀ n, f (n + 1) (l.length : Int) = g l [])
    (h1 : ∀ n pre x suf, l = pre ++ x :: suf → getI l (pre.length : Int) = some x → ((pre.length : Int) < (l.length : Int)) → ok64 ((pre.length : Int) + 1) →
      f n ((pre.length : Int) + 1) = g (pre ++ [x]) suf → f (n + 1) (pre.length : Int) = g pre (x :: suf)) :
    f FUEL 0 = g [] l :=
  scan l hl (fun n i (_ : Unit) => f n i) (fun a b _ => g a b) (fun _ _ => True) (fun n s _ => h0 n) (fun n pre x suf s a b c d e k => h1 n pre x suf a b c d (k () trivial)) FUEL () trivial (by have := FUEL_ge; omega)

def inB (n a b : Int) : Bool := decide (a ≤ n ∧ n ≤ b)
theorem spec_in (n a b : Int) : m_spec_l1In n a b = some (inB n a b) := by
  unfold m_spec_l1In inB; by_cases h : a ≤ n <;> simp [h]
theorem impl_in (n a b : Int) : m_impl_in n a b = some (inB n a b) := by
  unfold m_impl_in inB; by_cases h : a ≤ n <;> simp [h]
theorem iteB (a b : Bool) : (if a = true then some b else some false) = some (a && b) := by cases a <;> rfl
theorem iteN (a b : Bool) : (if a = true then some false else some b) = some (!a && b) := by cases a <;> rfl

/-! ### The library's loops -/
def anyIdx {α : Type} (q : α → Bool) : List α → Int → Int
  | [], _ => -1
  | x :: l, i => if q x then i else anyIdx q l (i + 1)
theorem anyIdx_nonneg {α : Type} (q : α → Bool) : ∀ (l : List α) (i : Int), 0 ≤ i → (decide (0 ≤ anyIdx q l i)) = l.any q
  | [], i, _ => by simp [anyIdx]
  | x :: l, i, h => by
    by_cases hx : q x = true
    · simp [anyIdx, hx, h]
    · simp [anyIdx, hx, anyIdx_nonneg q l (i + 1) (by omega)]


theorem IndexFunc_I (s : List Int) (hs : s.length ≤ SMALL) (p : Int → Option Bool) (q : Int → Bool) (hp : ∀ x ∈ s, p x = some (q x)) : m_IndexFunc_I s p = some (anyIdx q s 0) := by
  unfold m_IndexFunc_I
  have := scan0 s (by unfold SMALL at hs; omega) (m_IndexFunc_I_l0 s p (s.length : Int) m_IndexFunc_I_k1) (fun pre suf => some (anyIdx q suf pre.length))
    (fun n => by rw [m_IndexFunc_I_l0, if_neg (by simp)]; rfl)
    (fun n pre x suf hl hg hlt hok ih => by
      rw [m_IndexFunc_I_l0, if_pos (decide_eq_true hlt), hg, Option.bind_some, hp x (by rw [hl]; simp), Option.bind_some, gd_pos hok, ih, anyIdx]
      by_cases hx : q x = true
      · rw [if_pos hx, if_pos hx]
      · rw [if_neg hx, if_neg hx]; simp)
  simpa using this
theorem ContainsFunc_I (s : List Int) (hs : s.length ≤ SMALL) (p : Int → Option Bool) (q : Int → Bool) (hp : ∀ x ∈ s, p x = some (q x)) : m_ContainsFunc_I s p = some (s.any q) := by
  unfold m_ContainsFunc_I
  rw [IndexFunc_I s hs p q hp, Option.bind_some, anyIdx_nonneg q s 0 (Int.le_refl _)]

theorem IndexFunc_GReq (s : List GReq) (hs : s.length ≤ SMALL) (p : GReq → Option Bool) (q : GReq → Bool) (hp : ∀ x ∈ s, p x = some (q x)) : m_IndexFunc_GReq s p = some (anyIdx q s 0) := by
  unfold m_IndexFunc_GReq
  have := scan0 s (by unfold SMALL at hs; omega) (m_IndexFunc_GReq_l0 s p (s.length : Int) m_IndexFunc_GReq_k1) (fun pre suf => some (anyIdx q suf pre.length))
    (fun n => by rw [m_IndexFunc_GReq_l0, if_neg (by simp)]; rfl)
    (fun n pre x suf hl hg hlt hok ih => by
      rw [m_IndexFunc_GReq_l0, if_pos (decide_eq_true hlt), hg, Option.bind_some, hp x (by rw [hl]; simp), Option.bind_some, gd_pos hok, ih, anyIdx]
      by_cases hx : q x = true
      · rw [if_pos hx, if_pos hx]
      · rw [if_neg hx, if_neg hx]; simp)
  simpa using this
theorem ContainsFunc_GReq (s : List GReq) (hs : s.length ≤ SMALL) (p : GReq → Option Bool) (q : GReq → Bool) (hp : ∀ x ∈ s, p x = some (q x)) : m_ContainsFunc_GReq s p = some (s.any q) := by
  unfold m_ContainsFunc_GReq
  rw [IndexFunc_GReq s hs p q hp, Option.bind_some, anyIdx_nonneg q s 0 (Int.le_refl _)]

theorem IndexFunc_GTask (s : List GTask) (hs : s.length ≤ SMALL) (p : GTask → Option Bool) (q : GTask → Bool) (hp : ∀ x ∈ s, p x = some (q x)) : m_IndexFunc_GTask s p = some (anyIdx q s 0) := by
  unfold m_IndexFunc_GTask
  have := scan0 s (by unfold SMALL at hs; omega) (m_IndexFunc_GTask_l0 s p (s.length : Int) m_IndexFunc_GTask_k1) (fun pre suf => some (anyIdx q suf pre.length))
    (fun n => by rw [m_IndexFunc_GTask_l0, if_neg (by simp)]; rfl)
    (fun n pre x suf hl hg hlt hok ih => by
      rw [m_IndexFunc_GTask_l0, if_pos (decide_eq_true hlt), hg, Option.bind_some, hp x (by rw [hl]; simp), Option.bind_some, gd_pos hok, ih, anyIdx]
      by_cases hx : q x = true
      · rw [if_pos hx, if_pos hx]
      · rw [if_neg hx, if_neg hx]; simp)
  simpa using this
theorem ContainsFunc_GTask (s : List GTask) (hs : s.length ≤ SMALL) (p : GTask → Option Bool) (q : GTask → Bool) (hp : ∀ x ∈ s, p x = some (q x)) : m_ContainsFunc_GTask s p = some (s.any q) := by
  unfold m_ContainsFunc_GTask
  rw [IndexFunc_GTask s hs p q hp, Option.bind_some, anyIdx_nonneg q s 0 (Int.le_refl _)]

theorem IndexFunc_GNet (s : List GNet) (hs : s.length ≤ SMALL) (p : GNet → Option Bool) (q : GNet → Bool) (hp : ∀ x ∈ s, p x = some (q x)) : m_IndexFunc_GNet s p = some (anyIdx q s 0) := by
  unfold m_IndexFunc_GNet
  have := scan0 s (by unfold SMALL at hs; omega) (m_IndexFunc_GNet_l0 s p (s.length : Int) m_IndexFunc_GNet_k1) (fun pre suf => some (anyIdx q suf pre.length))
    (fun n => by rw [m_IndexFunc_GNet_l0, if_neg (by simp)]; rfl)
    (fun n pre x suf hl hg hlt hok ih => by
      rw [m_IndexFunc_GNet_l0, if_pos (decide_eq_true hlt), hg, Option.bind_some, hp x (by rw [hl]; simp), Option.bind_some, gd_pos hok, ih, anyIdx]
      by_cases hx : q x = true
      · rw [if_pos hx, if_pos hx]
      · rw [if_neg hx, if_neg hx]; simp)
  simpa using this
theorem ContainsFunc_GNet (s : List GNet) (hs : s.length ≤ SMALL) (p : GNet → Option Bool) (q : GNet → Bool) (hp : ∀ x ∈ s, p x = some (q x)) : m_ContainsFunc_GNet s p = some (s.any q) := by
  unfold m_ContainsFunc_GNet
  rw [IndexFunc_GNet s hs p q hp, Option.bind_some, anyIdx_nonneg q s 0 (Int.le_refl _)]

theorem IndexFunc_GItem (s : List GItem) (hs : s.length ≤ SMALL) (p : GItem → Option Bool) (q : GItem → Bool) (hp : ∀ x ∈ s, p x = some (q x)) : m_IndexFunc_GItem s p = some (anyIdx q s 0) := by
  unfold m_IndexFunc_GItem
  have := scan0 s (by unfold SMALL at hs; omega) (m_IndexFunc_GItem_l0 s p (s.length : Int) m_IndexFunc_GItem_k1) (fun pre suf => some (anyIdx q suf pre.length))
    (fun n => by rw [m_IndexFunc_GItem_l0, if_neg (by simp)]; rfl)
    (fun n pre x suf hl hg hlt hok ih => by
      rw [m_IndexFunc_GItem_l0, if_pos (decide_eq_true hlt), hg, Option.bind_some, hp x (by rw [hl]; simp), Option.bind_some, gd_pos hok, ih, anyIdx]
      by_cases hx : q x = true
      · rw [if_pos hx, if_pos hx]
      · rw [if_neg hx, if_neg hx]; simp)
  simpa using this
theorem ContainsFunc_GItem (s : List GItem) (hs : s.length ≤ SMALL) (p : GItem → Option Bool) (q : GItem → Bool) (hp : ∀ x ∈ s, p x = some (q x)) : m_ContainsFunc_GItem s p = some (s.any q) := by
  unfold m_ContainsFunc_GItem
  rw [IndexFunc_GItem s hs p q hp, Option.bind_some, anyIdx_nonneg q s 0 (Int.le_refl _)]

theorem Index_I (s : List Int) (hs : s.length ≤ SMALL) (v : Int) : m_Index_I s v = some (anyIdx (fun x => decide (v = x)) s 0) := by
  unfold m_Index_I
  have := scan0 s (by unfold SMALL at hs; omega) (m_Index_I_l0 s v (s.length : Int) m_Index_I_k1) (fun pre suf => some (anyIdx (fun x => decide (v = x)) suf pre.length))
    (fun n => by rw [m_Index_I_l0, if_neg (by simp)]; rfl)
    (fun n pre x suf hl hg hlt hok ih => by
      rw [m_Index_I_l0, if_pos (decide_eq_true hlt), hg, Option.bind_some, gd_pos hok, ih, anyIdx]
      by_cases hx : decide (v = x) = true
      · rw [if_pos hx, if_pos hx]
      · rw [if_neg hx, if_neg hx]; simp)
  simpa using this
theorem Contains_I (s : List Int) (hs : s.length ≤ SMALL) (v : Int) : m_Contains_I s v = some (s.any (fun x => decide (v = x))) := by
  unfold m_Contains_I
  rw [Index_I s hs, Option.bind_some, anyIdx_nonneg _ s 0 (Int.le_refl _)]

/-! ### Chapter 1 -/
def datOk (l : List Int) : Bool := decide (l.length = 3) && l.all (fun x => inB x (-99) 99)
theorem spec_DatOk (l : List Int) (hl : l.length ≤ SMALL) : m_spec_DatOk l = some (datOk l) := by
  unfold m_spec_DatOk datOk
  have := scan0 l (by unfold SMALL at hl; omega) (m_spec_DatOk_l0 l m_spec_DatOk_k1) (fun _ suf => some (suf.all (fun x => inB x (-99) 99)))
    (fun n => by rw [m_spec_DatOk_l0, if_neg (by simp)]; rfl)
    (fun n pre x suf hl hg hlt hok ih => by
      rw [m_spec_DatOk_l0, if_pos (decide_eq_true hlt), hg, Option.bind_some, spec_in, Option.bind_some, gd_pos hok, ih, iteB, List.all_cons])
  rw [this]
  rw [iteB]
  congr 2
  exact decide_eq_decide.2 (by omega)
theorem impl_isDatum (n : Int) : m_impl_isDatum n = some (inB n (-99) 99) := by unfold m_impl_isDatum; rw [impl_in]; rfl
theorem all_not_any {α : Type} (l : List α) (q : α → Bool) : (!l.any (fun x => !q x)) = l.all q := by
  induction l with
  | nil => rfl
  | cons x l ih => rw [List.any_cons, List.all_cons, ← ih]; cases q x <;> simp
theorem impl_DatOk (l : List Int) (hl : l.length ≤ SMALL) : m_impl_DatOk l = some (datOk l) := by
  unfold m_impl_DatOk datOk
  rw [ContainsFunc_I l hl _ (fun n => !inB n (-99) 99) (fun x _ => by unfold m_impl_DatOk_1; rw [impl_isDatum]; rfl), Option.bind_some, all_not_any, iteB]
  congr 2
  exact decide_eq_decide.2 (by omega)
def expOk (e : GAsk) : Bool := bif decide (e.op = 0) then decide (e.var = 0) && decide (e.k = 0) else inB e.op 1 3 && inB e.var 0 2 && inB e.k (-99) 99
theorem spec_ExpOk (e : GAsk) : m_spec_ExpOk e = some (expOk e) := by
  unfold m_spec_ExpOk expOk
  simp only [spec_in, Option.bind_some, iteB]
  by_cases h : e.op = 0
  · simp [h]
  · simp [h, Bool.and_assoc]
theorem impl_ExpOk (e : GAsk) : m_impl_ExpOk e = some (expOk e) := by
  unfold m_impl_ExpOk expOk
  simp only [impl_in, impl_isDatum, Option.bind_some, iteB]
  by_cases h : e.op = 0
  · simp [h]
  · simp [h, Bool.and_assoc]

end Go.Am.Pl

end
section
/- Plain laws: the laws' marks: what mark* writes, held* finds. Own work. -/
set_option maxRecDepth 100000
set_option maxHeartbeats 1000000
set_option linter.unusedVariables false
set_option linter.unusedSimpArgs false
namespace Go.Am.Pl
open Go

def BIG : Int := 4000000000000000000
theorem set_mid {α : Type} (pre : List α) (x y : α) (suf : List α) : (pre ++ x :: suf).set (pre.length : Int).toNat y = pre ++ y :: suf := by simp
theorem ok_big {k : Int} (h0 : 0 ≤ k) (h1 : k ≤ BIG) : ok64 k := by unfold BIG at h1; constructor <;> omega

/-- How many numbers a list takes; the list with its numbers. -/
def cntS {α : Type} (cnt : α → Nat) : List α → Nat
  | [] => 0
  | x :: l => cnt x + cntS cnt l
def numS {α : Type} (cnt : α → Nat) (num : α → Int → α) : List α → Int → List α
  | [], _ => []
  | x :: l, k => num x k :: numS cnt num l (k + cnt x)

theorem mark_scan {α : Type} (cnt : α → Nat) (num : α → Int → α) (f : Nat → Int → Int → List α → Option (Int × List α)) (ok : α → Prop)
    (h0 : ∀ n k l, f (n + 1) k (l.length : Int) l = some (k, l))
    (h1 : ∀ n k pre x suf, ok x → 0 ≤ k → k + cnt x ≤ BIG → ok64 ((pre.length : Int) + 1) → f (n + 1) k (pre.length : Int) (pre ++ x :: suf) = f n (k + cnt x) ((pre.length : Int) + 1) (pre ++ num x k :: suf)) :
    ∀ (a : List α) (k : Int), (∀ x ∈ a, ok x) → a.length ≤ SMALL → 0 ≤ k → k + cntS cnt a ≤ BIG → f FUEL k 0 a = some (k + cntS cnt a, numS cnt num a k) := by
  have key : ∀ (suf pre : List α) (n : Nat) (k : Int), (∀ x ∈ suf, ok x) → pre.length + suf.length ≤ SMALL → 0 ≤ k → k + cntS cnt suf ≤ BIG → suf.length < n →
      f n k (pre.length : Int) (pre ++ suf) = some (k + cntS cnt suf, pre ++ numS cnt num suf k) := by
    intro suf
    induction suf with
    | nil =>
      intro pre n k _ _ _ _ hn
      obtain ⟨m, rfl⟩ : ∃ m, n = m + 1 := ⟨n - 1, by omega⟩
      simp only [List.append_nil, h0, cntS, numS]; simp
    | cons x suf ih =>
      intro pre n k hok hl hk hb hn
      obtain ⟨m, rfl⟩ : ∃ m, n = m + 1 := ⟨n - 1, by omega⟩
      simp only [cntS, List.length_cons] at hb hl hn
      have hb' : k + cnt x + cntS cnt suf ≤ BIG := by omega
      rw [h1 m k pre x suf (hok x (by simp)) hk (by omega) (by unfold SMALL at hl; constructor <;> omega)]
      have := ih (pre ++ [num x k]) m (k + cnt x) (fun y hy => hok y (by simp [hy])) (by simp; omega) (by omega) hb' (by omega)
      simp only [List.append_assoc, List.singleton_append, List.length_append, List.length_singleton] at this
      rw [show (((pre.length + 1 : Nat)) : Int) = (pre.length : Int) + 1 by omega] at this
      rw [this]
      simp only [cntS, numS]
      congr 2; omega
  intro a k hok hl hk hb
  have := key a [] FUEL k hok (by simpa using hl) hk hb (by have := FUEL_ge; unfold SMALL at hl; omega)
  simpa using this

theorem held_scan {α : Type} (cnt : α → Nat) (num : α → Int → α) (a : List α) (ka : Int) (f : Nat → Int → Int → Option Int)
    (h0 : ∀ n k, f (n + 1) k ((numS cnt num a ka).length : Int) = some k)
    (h1 : ∀ n k i x, getI (numS cnt num a ka) i = some (num x k) → x ∈ a → i < ((numS cnt num a ka).length : Int) → 0 ≤ k → k + cnt x ≤ BIG → ok64 (i + 1) → f (n + 1) k i = f n (k + cnt x) (i + 1))
    (hl : a.length ≤ SMALL) (hk : 0 ≤ ka) (hb : ka + cntS cnt a ≤ BIG) : f FUEL ka 0 = some (ka + cntS cnt a) := by
  have hlen : ∀ (l : List α) (k : Int), (numS cnt num l k).length = l.length := by intro l; induction l with
    | nil => intro k; rfl
    | cons x l ih => intro k; simp [numS, ih]
  have key : ∀ (suf : List α) (pre : List α) (n : Nat) (k : Int), (∀ x ∈ suf, x ∈ a) → numS cnt num a ka = pre ++ numS cnt num suf k → 0 ≤ k → k + cntS cnt suf ≤ BIG → suf.length < n → f n k (pre.length : Int) = some (k + cntS cnt suf) := by
    intro suf
    induction suf with
    | nil =>
      intro pre n k _ he _ _ hn
      obtain ⟨m, rfl⟩ : ∃ m, n = m + 1 := ⟨n - 1, by omega⟩
      have := h0 m k
      rw [he] at this
      simpa [numS, cntS] using this
    | cons x suf ih =>
      intro pre n k hmem he hk hb hn
      obtain ⟨m, rfl⟩ : ∃ m, n = m + 1 := ⟨n - 1, by omega⟩
      simp only [cntS, List.length_cons] at hb hn
      have hL : (numS cnt num a ka).length = pre.length + (numS cnt num suf (k + cnt x)).length + 1 := by rw [he]; simp [numS]; omega
      have hL2 : pre.length + 1 ≤ SMALL := by rw [hlen] at hL; omega
      rw [h1 m k pre.length x (by rw [he, numS]; exact getI_mid _ _ _) (hmem x (by simp)) (by omega) hk (by omega) (by unfold SMALL at hL2; constructor <;> omega)]
      have := ih (pre ++ [num x k]) m (k + cnt x) (fun y hy => hmem y (by simp [hy])) (by rw [he, numS]; simp) (by omega) (by omega) (by omega)
      simp only [List.length_append, List.length_singleton] at this
      rw [show (((pre.length + 1 : Nat)) : Int) = (pre.length : Int) + 1 by omega] at this
      rw [this]; simp only [cntS]; congr 1; omega
  exact key a [] FUEL ka (fun x h => h) (by simp) hk hb (by have := FUEL_ge; unfold SMALL at hl; omega)

def cI1 : Int → Nat := fun _ => 1
def nI1 : Int → Int → Int := fun _ k => k
theorem mark_IntS (a : List Int) (k : Int) (hl : a.length ≤ SMALL) (hk : 0 ≤ k) (hb : k + cntS cI1 a ≤ BIG) : m_markIntS a k = some (k + cntS cI1 a, numS cI1 nI1 a k) := by
  unfold m_markIntS
  refine mark_scan cI1 nI1 (m_markIntS_l0 m_markIntS_k1) (fun _ => True) (fun n k l => ?_) (fun n k pre x suf _ h0 h1 h2 => ?_) a k (fun _ _ => trivial) hl hk hb
  · rw [m_markIntS_l0, if_neg (by simp)]; rfl
  · rw [m_markIntS_l0, if_pos (by simp; omega), getI_mid, Option.bind_some, gd_pos (ok_big (by omega) (by simpa [cI1] using h1)), gd_pos h2, set_mid]; rfl
theorem held_IntS (a : List Int) (k : Int) (hl : a.length ≤ SMALL) (hk : 0 ≤ k) (hb : k + cntS cI1 a ≤ BIG) : m_heldIntS (numS cI1 nI1 a k) k = some (k + cntS cI1 a) := by
  unfold m_heldIntS
  refine held_scan cI1 nI1 a k (m_heldIntS_l0 _ m_heldIntS_k1) (fun n k => ?_) (fun n k i x hg hm hi h0 h1 h2 => ?_) hl hk hb
  · rw [m_heldIntS_l0, if_neg (by simp)]; rfl
  · rw [m_heldIntS_l0, if_pos (decide_eq_true hi), hg, Option.bind_some, if_pos (by simp [nI1]), gd_pos (ok_big (by omega) (by simpa [cI1] using h1)), gd_pos h2]; rfl

end Go.Am.Pl

end
section
/- Plain laws: marks of the struct types. Printed by marks.py. Own work. -/
set_option maxRecDepth 100000
set_option maxHeartbeats 2000000
set_option linter.unusedVariables false
set_option linter.unusedSimpArgs false
namespace Go.Am.Pl
open Go
theorem gd_ok {v : Int} {α : Type} {x : Option α} (h0 : 0 ≤ v) (h1 : v ≤ BIG) : gd (ok64 v) x = x := gd_pos (ok_big h0 h1)
theorem ng_ok {v : Int} {α : Type} {x y : Option α} (h0 : 0 ≤ v) : (if decide (v < 0) = true then x else y) = y := if_neg (by simp; omega)

def okGItem (x : GItem) : Prop := True
def cGItem (x : GItem) : Nat := 1 + 1 + 1
def nGItem (x : GItem) (k : Int) : GItem := (GItem.mk (k) (k + 1) (k + 1 + 1))
theorem cGItem_eq (x : GItem) (k : Int) : k + (cGItem x : Int) = k + 1 + 1 + 1 := by unfold cGItem; omega
theorem mark_CasItemS (a : List GItem) (k : Int) (hl : a.length ≤ SMALL) (hk : 0 ≤ k) (hb : k + cntS cGItem a ≤ BIG) : m_markCasItemS a k = some (k + cntS cGItem a, numS cGItem nGItem a k) := by
  unfold m_markCasItemS
  refine mark_scan cGItem nGItem _ okGItem (fun n k l => ?_) (fun n k pre x suf ho h0 h1 h2 => ?_) a k (fun _ _ => True.intro) hl hk hb
  · rw [m_markCasItemS_l0, if_neg (by simp)]; rfl
  · rw [cGItem_eq] at h1 ⊢
    (try unfold okGItem at ho)
    have hB : BIG = 4000000000000000000 := rfl
    rw [m_markCasItemS_l0, if_pos (by simp; omega)]
    simp (maxSteps := 3000000) (disch := first | omega | exact ho | exact ho.1 | exact ho.2 | exact ho.2.1 | exact ho.2.2 | exact ho.2.2.1 | exact ho.2.2.2 | exact ho.2.2.2.1 | exact ho.2.2.2.2 | exact ho.2.2.2.2.1 | exact ho.2.2.2.2.2 | (intro y hy; exact True.intro)) only [getI_mid, Option.bind_some, set_mid, gd_pos h2, gd_ok]
    rfl
theorem held_CasItemS (a : List GItem) (k : Int) (hl : a.length ≤ SMALL) (hk : 0 ≤ k) (hb : k + cntS cGItem a ≤ BIG) : m_heldCasItemS (numS cGItem nGItem a k) k = some (k + cntS cGItem a) := by
  unfold m_heldCasItemS
  refine held_scan cGItem nGItem a k _ (fun n k => ?_) (fun n k i x hg hm hi h0 h1 h2 => ?_) hl hk hb
  · rw [m_heldCasItemS_l0, if_neg (by simp)]; rfl
  · have ho : okGItem x := True.intro
    rw [cGItem_eq] at h1 ⊢
    unfold okGItem at ho
    have hB : BIG = 4000000000000000000 := rfl
    rw [m_heldCasItemS_l0, if_pos (decide_eq_true hi)]
    simp (maxSteps := 3000000) (disch := first | omega | exact ho | exact ho.1 | exact ho.2 | exact ho.2.1 | exact ho.2.2 | exact ho.2.2.1 | exact ho.2.2.2 | exact ho.2.2.2.1 | exact ho.2.2.2.2 | exact ho.2.2.2.2.1 | exact ho.2.2.2.2.2 | (intro y hy; exact True.intro)) only [hg, nGItem, Option.bind_some, gd_pos h2, gd_ok, ng_ok, decide_true, if_true]

def okGDid (x : GDid) : Prop := True
def cGDid (x : GDid) : Nat := 1 + 1
def nGDid (x : GDid) (k : Int) : GDid := (GDid.mk (k) (k + 1))
theorem cGDid_eq (x : GDid) (k : Int) : k + (cGDid x : Int) = k + 1 + 1 := by unfold cGDid; omega
theorem mark_CasDidS (a : List GDid) (k : Int) (hl : a.length ≤ SMALL) (hk : 0 ≤ k) (hb : k + cntS cGDid a ≤ BIG) : m_markCasDidS a k = some (k + cntS cGDid a, numS cGDid nGDid a k) := by
  unfold m_markCasDidS
  refine mark_scan cGDid nGDid _ okGDid (fun n k l => ?_) (fun n k pre x suf ho h0 h1 h2 => ?_) a k (fun _ _ => True.intro) hl hk hb
  · rw [m_markCasDidS_l0, if_neg (by simp)]; rfl
  · rw [cGDid_eq] at h1 ⊢
    (try unfold okGDid at ho)
    have hB : BIG = 4000000000000000000 := rfl
    rw [m_markCasDidS_l0, if_pos (by simp; omega)]
    simp (maxSteps := 3000000) (disch := first | omega | exact ho | exact ho.1 | exact ho.2 | exact ho.2.1 | exact ho.2.2 | exact ho.2.2.1 | exact ho.2.2.2 | exact ho.2.2.2.1 | exact ho.2.2.2.2 | exact ho.2.2.2.2.1 | exact ho.2.2.2.2.2 | (intro y hy; exact True.intro)) only [getI_mid, Option.bind_some, set_mid, gd_pos h2, gd_ok]
    rfl
theorem held_CasDidS (a : List GDid) (k : Int) (hl : a.length ≤ SMALL) (hk : 0 ≤ k) (hb : k + cntS cGDid a ≤ BIG) : m_heldCasDidS (numS cGDid nGDid a k) k = some (k + cntS cGDid a) := by
  unfold m_heldCasDidS
  refine held_scan cGDid nGDid a k _ (fun n k => ?_) (fun n k i x hg hm hi h0 h1 h2 => ?_) hl hk hb
  · rw [m_heldCasDidS_l0, if_neg (by simp)]; rfl
  · have ho : okGDid x := True.intro
    rw [cGDid_eq] at h1 ⊢
    unfold okGDid at ho
    have hB : BIG = 4000000000000000000 := rfl
    rw [m_heldCasDidS_l0, if_pos (decide_eq_true hi)]
    simp (maxSteps := 3000000) (disch := first | omega | exact ho | exact ho.1 | exact ho.2 | exact ho.2.1 | exact ho.2.2 | exact ho.2.2.1 | exact ho.2.2.2 | exact ho.2.2.2.1 | exact ho.2.2.2.2 | exact ho.2.2.2.2.1 | exact ho.2.2.2.2.2 | (intro y hy; exact True.intro)) only [hg, nGDid, Option.bind_some, gd_pos h2, gd_ok, ng_ok, decide_true, if_true]

def okGFlow (x : GFlow) : Prop := True
def cGFlow (x : GFlow) : Nat := 1 + 1 + 1 + 1
def nGFlow (x : GFlow) (k : Int) : GFlow := (GFlow.mk (k) (GAsk.mk (k + 1) (k + 1 + 1) (k + 1 + 1 + 1)))
theorem cGFlow_eq (x : GFlow) (k : Int) : k + (cGFlow x : Int) = k + 1 + 1 + 1 + 1 := by unfold cGFlow; omega
theorem mark_NetFlowS (a : List GFlow) (k : Int) (hl : a.length ≤ SMALL) (hk : 0 ≤ k) (hb : k + cntS cGFlow a ≤ BIG) : m_markNetFlowS a k = some (k + cntS cGFlow a, numS cGFlow nGFlow a k) := by
  unfold m_markNetFlowS
  refine mark_scan cGFlow nGFlow _ okGFlow (fun n k l => ?_) (fun n k pre x suf ho h0 h1 h2 => ?_) a k (fun _ _ => True.intro) hl hk hb
  · rw [m_markNetFlowS_l0, if_neg (by simp)]; rfl
  · rw [cGFlow_eq] at h1 ⊢
    (try unfold okGFlow at ho)
    have hB : BIG = 4000000000000000000 := rfl
    rw [m_markNetFlowS_l0, if_pos (by simp; omega)]
    simp (maxSteps := 3000000) (disch := first | omega | exact ho | exact ho.1 | exact ho.2 | exact ho.2.1 | exact ho.2.2 | exact ho.2.2.1 | exact ho.2.2.2 | exact ho.2.2.2.1 | exact ho.2.2.2.2 | exact ho.2.2.2.2.1 | exact ho.2.2.2.2.2 | (intro y hy; exact True.intro)) only [getI_mid, Option.bind_some, set_mid, gd_pos h2, gd_ok]
    rfl
theorem held_NetFlowS (a : List GFlow) (k : Int) (hl : a.length ≤ SMALL) (hk : 0 ≤ k) (hb : k + cntS cGFlow a ≤ BIG) : m_heldNetFlowS (numS cGFlow nGFlow a k) k = some (k + cntS cGFlow a) := by
  unfold m_heldNetFlowS
  refine held_scan cGFlow nGFlow a k _ (fun n k => ?_) (fun n k i x hg hm hi h0 h1 h2 => ?_) hl hk hb
  · rw [m_heldNetFlowS_l0, if_neg (by simp)]; rfl
  · have ho : okGFlow x := True.intro
    rw [cGFlow_eq] at h1 ⊢
    unfold okGFlow at ho
    have hB : BIG = 4000000000000000000 := rfl
    rw [m_heldNetFlowS_l0, if_pos (decide_eq_true hi)]
    simp (maxSteps := 3000000) (disch := first | omega | exact ho | exact ho.1 | exact ho.2 | exact ho.2.1 | exact ho.2.2 | exact ho.2.2.1 | exact ho.2.2.2 | exact ho.2.2.2.1 | exact ho.2.2.2.2 | exact ho.2.2.2.2.1 | exact ho.2.2.2.2.2 | (intro y hy; exact True.intro)) only [hg, nGFlow, Option.bind_some, gd_pos h2, gd_ok, ng_ok, decide_true, if_true]

def okGTask (x : GTask) : Prop := x.in_.length ≤ SMALL ∧ x.out.length ≤ SMALL ∧ x.clear.length ≤ SMALL
def cGTask (x : GTask) : Nat := 1 + 1 + cntS cI1 x.in_ + cntS cGFlow x.out + cntS cI1 x.clear + 1 + 1 + 1 + 1
def nGTask (x : GTask) (k : Int) : GTask := (GTask.mk (k) (k + 1) (numS cI1 nI1 x.in_ (k + 1 + 1)) (numS cGFlow nGFlow x.out (k + 1 + 1 + ((cntS cI1 x.in_ : Nat) : Int))) (numS cI1 nI1 x.clear (k + 1 + 1 + ((cntS cI1 x.in_ : Nat) : Int) + ((cntS cGFlow x.out : Nat) : Int))) (k + 1 + 1 + ((cntS cI1 x.in_ : Nat) : Int) + ((cntS cGFlow x.out : Nat) : Int) + ((cntS cI1 x.clear : Nat) : Int)) (k + 1 + 1 + ((cntS cI1 x.in_ : Nat) : Int) + ((cntS cGFlow x.out : Nat) : Int) + ((cntS cI1 x.clear : Nat) : Int) + 1) (k + 1 + 1 + ((cntS cI1 x.in_ : Nat) : Int) + ((cntS cGFlow x.out : Nat) : Int) + ((cntS cI1 x.clear : Nat) : Int) + 1 + 1) (k + 1 + 1 + ((cntS cI1 x.in_ : Nat) : Int) + ((cntS cGFlow x.out : Nat) : Int) + ((cntS cI1 x.clear : Nat) : Int) + 1 + 1 + 1))
theorem cGTask_eq (x : GTask) (k : Int) : k + (cGTask x : Int) = k + 1 + 1 + ((cntS cI1 x.in_ : Nat) : Int) + ((cntS cGFlow x.out : Nat) : Int) + ((cntS cI1 x.clear : Nat) : Int) + 1 + 1 + 1 + 1 := by unfold cGTask; omega
theorem mark_NetTaskS (a : List GTask) (k : Int) (hok : ∀ x ∈ a, okGTask x) (hl : a.length ≤ SMALL) (hk : 0 ≤ k) (hb : k + cntS cGTask a ≤ BIG) : m_markNetTaskS a k = some (k + cntS cGTask a, numS cGTask nGTask a k) := by
  unfold m_markNetTaskS
  refine mark_scan cGTask nGTask _ okGTask (fun n k l => ?_) (fun n k pre x suf ho h0 h1 h2 => ?_) a k hok hl hk hb
  · rw [m_markNetTaskS_l0, if_neg (by simp)]; rfl
  · rw [cGTask_eq] at h1 ⊢
    (try unfold okGTask at ho)
    have hB : BIG = 4000000000000000000 := rfl
    rw [m_markNetTaskS_l0, if_pos (by simp; omega)]
    simp (maxSteps := 3000000) (disch := first | omega | exact ho | exact ho.1 | exact ho.2 | exact ho.2.1 | exact ho.2.2 | exact ho.2.2.1 | exact ho.2.2.2 | exact ho.2.2.2.1 | exact ho.2.2.2.2 | exact ho.2.2.2.2.1 | exact ho.2.2.2.2.2 | (intro y hy; exact True.intro)) only [getI_mid, Option.bind_some, set_mid, gd_pos h2, gd_ok, mark_IntS, mark_NetFlowS]
    rfl
theorem held_NetTaskS (a : List GTask) (k : Int) (hok : ∀ x ∈ a, okGTask x) (hl : a.length ≤ SMALL) (hk : 0 ≤ k) (hb : k + cntS cGTask a ≤ BIG) : m_heldNetTaskS (numS cGTask nGTask a k) k = some (k + cntS cGTask a) := by
  unfold m_heldNetTaskS
  refine held_scan cGTask nGTask a k _ (fun n k => ?_) (fun n k i x hg hm hi h0 h1 h2 => ?_) hl hk hb
  · rw [m_heldNetTaskS_l0, if_neg (by simp)]; rfl
  · have ho : okGTask x := hok x hm
    rw [cGTask_eq] at h1 ⊢
    unfold okGTask at ho
    have hB : BIG = 4000000000000000000 := rfl
    rw [m_heldNetTaskS_l0, if_pos (decide_eq_true hi)]
    simp (maxSteps := 3000000) (disch := first | omega | exact ho | exact ho.1 | exact ho.2 | exact ho.2.1 | exact ho.2.2 | exact ho.2.2.1 | exact ho.2.2.2 | exact ho.2.2.2.1 | exact ho.2.2.2.2 | exact ho.2.2.2.2.1 | exact ho.2.2.2.2.2 | (intro y hy; exact True.intro)) only [hg, nGTask, Option.bind_some, gd_pos h2, gd_ok, ng_ok, decide_true, if_true, held_IntS, held_NetFlowS]

def okGNet (x : GNet) : Prop := x.tasks.length ≤ SMALL ∧ ∀ y ∈ x.tasks, okGTask y
def cGNet (x : GNet) : Nat := 1 + cntS cGTask x.tasks
def nGNet (x : GNet) (k : Int) : GNet := (GNet.mk (k) (numS cGTask nGTask x.tasks (k + 1)))
theorem cGNet_eq (x : GNet) (k : Int) : k + (cGNet x : Int) = k + 1 + ((cntS cGTask x.tasks : Nat) : Int) := by unfold cGNet; omega
theorem mark_NetNetS (a : List GNet) (k : Int) (hok : ∀ x ∈ a, okGNet x) (hl : a.length ≤ SMALL) (hk : 0 ≤ k) (hb : k + cntS cGNet a ≤ BIG) : m_markNetNetS a k = some (k + cntS cGNet a, numS cGNet nGNet a k) := by
  unfold m_markNetNetS
  refine mark_scan cGNet nGNet _ okGNet (fun n k l => ?_) (fun n k pre x suf ho h0 h1 h2 => ?_) a k hok hl hk hb
  · rw [m_markNetNetS_l0, if_neg (by simp)]; rfl
  · rw [cGNet_eq] at h1 ⊢
    (try unfold okGNet at ho)
    have hB : BIG = 4000000000000000000 := rfl
    rw [m_markNetNetS_l0, if_pos (by simp; omega)]
    simp (maxSteps := 3000000) (disch := first | omega | exact ho | exact ho.1 | exact ho.2 | exact ho.2.1 | exact ho.2.2 | exact ho.2.2.1 | exact ho.2.2.2 | exact ho.2.2.2.1 | exact ho.2.2.2.2 | exact ho.2.2.2.2.1 | exact ho.2.2.2.2.2 | (intro y hy; exact True.intro)) only [getI_mid, Option.bind_some, set_mid, gd_pos h2, gd_ok, mark_NetTaskS]
    rfl
theorem held_NetNetS (a : List GNet) (k : Int) (hok : ∀ x ∈ a, okGNet x) (hl : a.length ≤ SMALL) (hk : 0 ≤ k) (hb : k + cntS cGNet a ≤ BIG) : m_heldNetNetS (numS cGNet nGNet a k) k = some (k + cntS cGNet a) := by
  unfold m_heldNetNetS
  refine held_scan cGNet nGNet a k _ (fun n k => ?_) (fun n k i x hg hm hi h0 h1 h2 => ?_) hl hk hb
  · rw [m_heldNetNetS_l0, if_neg (by simp)]; rfl
  · have ho : okGNet x := hok x hm
    rw [cGNet_eq] at h1 ⊢
    unfold okGNet at ho
    have hB : BIG = 4000000000000000000 := rfl
    rw [m_heldNetNetS_l0, if_pos (decide_eq_true hi)]
    simp (maxSteps := 3000000) (disch := first | omega | exact ho | exact ho.1 | exact ho.2 | exact ho.2.1 | exact ho.2.2 | exact ho.2.2.1 | exact ho.2.2.2 | exact ho.2.2.2.1 | exact ho.2.2.2.2 | exact ho.2.2.2.2.1 | exact ho.2.2.2.2.2 | (intro y hy; exact True.intro)) only [hg, nGNet, Option.bind_some, gd_pos h2, gd_ok, ng_ok, decide_true, if_true, held_NetTaskS]

def okGNode (x : GNode) : Prop := x.stone.length ≤ SMALL
def cGNode (x : GNode) : Nat := 1 + 1 + 1 + 1 + 1 + 1 + cntS cI1 x.stone
def nGNode (x : GNode) (k : Int) : GNode := (GNode.mk (GAsk.mk (k) (k + 1) (k + 1 + 1)) (k + 1 + 1 + 1) (k + 1 + 1 + 1 + 1) (k + 1 + 1 + 1 + 1 + 1) (numS cI1 nI1 x.stone (k + 1 + 1 + 1 + 1 + 1 + 1)))
theorem cGNode_eq (x : GNode) (k : Int) : k + (cGNode x : Int) = k + 1 + 1 + 1 + 1 + 1 + 1 + ((cntS cI1 x.stone : Nat) : Int) := by unfold cGNode; omega
theorem mark_RdrNodeS (a : List GNode) (k : Int) (hok : ∀ x ∈ a, okGNode x) (hl : a.length ≤ SMALL) (hk : 0 ≤ k) (hb : k + cntS cGNode a ≤ BIG) : m_markRdrNodeS a k = some (k + cntS cGNode a, numS cGNode nGNode a k) := by
  unfold m_markRdrNodeS
  refine mark_scan cGNode nGNode _ okGNode (fun n k l => ?_) (fun n k pre x suf ho h0 h1 h2 => ?_) a k hok hl hk hb
  · rw [m_markRdrNodeS_l0, if_neg (by simp)]; rfl
  · rw [cGNode_eq] at h1 ⊢
    (try unfold okGNode at ho)
    have hB : BIG = 4000000000000000000 := rfl
    rw [m_markRdrNodeS_l0, if_pos (by simp; omega)]
    simp (maxSteps := 3000000) (disch := first | omega | exact ho | exact ho.1 | exact ho.2 | exact ho.2.1 | exact ho.2.2 | exact ho.2.2.1 | exact ho.2.2.2 | exact ho.2.2.2.1 | exact ho.2.2.2.2 | exact ho.2.2.2.2.1 | exact ho.2.2.2.2.2 | (intro y hy; exact True.intro)) only [getI_mid, Option.bind_some, set_mid, gd_pos h2, gd_ok, mark_IntS]
    rfl
theorem held_RdrNodeS (a : List GNode) (k : Int) (hok : ∀ x ∈ a, okGNode x) (hl : a.length ≤ SMALL) (hk : 0 ≤ k) (hb : k + cntS cGNode a ≤ BIG) : m_heldRdrNodeS (numS cGNode nGNode a k) k = some (k + cntS cGNode a) := by
  unfold m_heldRdrNodeS
  refine held_scan cGNode nGNode a k _ (fun n k => ?_) (fun n k i x hg hm hi h0 h1 h2 => ?_) hl hk hb
  · rw [m_heldRdrNodeS_l0, if_neg (by simp)]; rfl
  · have ho : okGNode x := hok x hm
    rw [cGNode_eq] at h1 ⊢
    unfold okGNode at ho
    have hB : BIG = 4000000000000000000 := rfl
    rw [m_heldRdrNodeS_l0, if_pos (decide_eq_true hi)]
    simp (maxSteps := 3000000) (disch := first | omega | exact ho | exact ho.1 | exact ho.2 | exact ho.2.1 | exact ho.2.2 | exact ho.2.2.1 | exact ho.2.2.2 | exact ho.2.2.2.1 | exact ho.2.2.2.2 | exact ho.2.2.2.2.1 | exact ho.2.2.2.2.2 | (intro y hy; exact True.intro)) only [hg, nGNode, Option.bind_some, gd_pos h2, gd_ok, ng_ok, decide_true, if_true, held_IntS]

def okGRun (x : GRun) : Prop := x.case.marks.length ≤ SMALL ∧ x.case.busy.length ≤ SMALL ∧ x.case.data.length ≤ SMALL ∧ x.case.did.length ≤ SMALL
def cGRun (x : GRun) : Nat := 1 + 1 + cntS cI1 x.case.marks + cntS cGItem x.case.busy + cntS cI1 x.case.data + cntS cGDid x.case.did
def nGRun (x : GRun) (k : Int) : GRun := (GRun.mk (k) (GCase.mk (k + 1) (numS cI1 nI1 x.case.marks (k + 1 + 1)) (numS cGItem nGItem x.case.busy (k + 1 + 1 + ((cntS cI1 x.case.marks : Nat) : Int))) (numS cI1 nI1 x.case.data (k + 1 + 1 + ((cntS cI1 x.case.marks : Nat) : Int) + ((cntS cGItem x.case.busy : Nat) : Int))) (numS cGDid nGDid x.case.did (k + 1 + 1 + ((cntS cI1 x.case.marks : Nat) : Int) + ((cntS cGItem x.case.busy : Nat) : Int) + ((cntS cI1 x.case.data : Nat) : Int)))))
theorem cGRun_eq (x : GRun) (k : Int) : k + (cGRun x : Int) = k + 1 + 1 + ((cntS cI1 x.case.marks : Nat) : Int) + ((cntS cGItem x.case.busy : Nat) : Int) + ((cntS cI1 x.case.data : Nat) : Int) + ((cntS cGDid x.case.did : Nat) : Int) := by unfold cGRun; omega
theorem mark_EngRunS (a : List GRun) (k : Int) (hok : ∀ x ∈ a, okGRun x) (hl : a.length ≤ SMALL) (hk : 0 ≤ k) (hb : k + cntS cGRun a ≤ BIG) : m_markEngRunS a k = some (k + cntS cGRun a, numS cGRun nGRun a k) := by
  unfold m_markEngRunS
  refine mark_scan cGRun nGRun _ okGRun (fun n k l => ?_) (fun n k pre x suf ho h0 h1 h2 => ?_) a k hok hl hk hb
  · rw [m_markEngRunS_l0, if_neg (by simp)]; rfl
  · rw [cGRun_eq] at h1 ⊢
    (try unfold okGRun at ho)
    have hB : BIG = 4000000000000000000 := rfl
    rw [m_markEngRunS_l0, if_pos (by simp; omega)]
    simp (maxSteps := 3000000) (disch := first | omega | exact ho | exact ho.1 | exact ho.2 | exact ho.2.1 | exact ho.2.2 | exact ho.2.2.1 | exact ho.2.2.2 | exact ho.2.2.2.1 | exact ho.2.2.2.2 | exact ho.2.2.2.2.1 | exact ho.2.2.2.2.2 | (intro y hy; exact True.intro)) only [getI_mid, Option.bind_some, set_mid, gd_pos h2, gd_ok, mark_IntS, mark_CasItemS, mark_CasDidS]
    rfl
theorem held_EngRunS (a : List GRun) (k : Int) (hok : ∀ x ∈ a, okGRun x) (hl : a.length ≤ SMALL) (hk : 0 ≤ k) (hb : k + cntS cGRun a ≤ BIG) : m_heldEngRunS (numS cGRun nGRun a k) k = some (k + cntS cGRun a) := by
  unfold m_heldEngRunS
  refine held_scan cGRun nGRun a k _ (fun n k => ?_) (fun n k i x hg hm hi h0 h1 h2 => ?_) hl hk hb
  · rw [m_heldEngRunS_l0, if_neg (by simp)]; rfl
  · have ho : okGRun x := hok x hm
    rw [cGRun_eq] at h1 ⊢
    unfold okGRun at ho
    have hB : BIG = 4000000000000000000 := rfl
    rw [m_heldEngRunS_l0, if_pos (decide_eq_true hi)]
    simp (maxSteps := 3000000) (disch := first | omega | exact ho | exact ho.1 | exact ho.2 | exact ho.2.1 | exact ho.2.2 | exact ho.2.2.1 | exact ho.2.2.2 | exact ho.2.2.2.1 | exact ho.2.2.2.2 | exact ho.2.2.2.2.1 | exact ho.2.2.2.2.2 | (intro y hy; exact True.intro)) only [hg, nGRun, Option.bind_some, gd_pos h2, gd_ok, ng_ok, decide_true, if_true, held_IntS, held_CasItemS, held_CasDidS]

def okGReq (x : GReq) : Prop := x.data.length ≤ SMALL
def cGReq (x : GReq) : Nat := 1 + 1 + 1 + 1 + 1 + 1 + cntS cI1 x.data + 1 + 1 + 1 + 1
def nGReq (x : GReq) (k : Int) : GReq := (GReq.mk (k) (k + 1) (k + 1 + 1) (k + 1 + 1 + 1) (k + 1 + 1 + 1 + 1) (k + 1 + 1 + 1 + 1 + 1) (numS cI1 nI1 x.data (k + 1 + 1 + 1 + 1 + 1 + 1)) (GAsk.mk (k + 1 + 1 + 1 + 1 + 1 + 1 + ((cntS cI1 x.data : Nat) : Int)) (k + 1 + 1 + 1 + 1 + 1 + 1 + ((cntS cI1 x.data : Nat) : Int) + 1) (k + 1 + 1 + 1 + 1 + 1 + 1 + ((cntS cI1 x.data : Nat) : Int) + 1 + 1)) (k + 1 + 1 + 1 + 1 + 1 + 1 + ((cntS cI1 x.data : Nat) : Int) + 1 + 1 + 1))
theorem cGReq_eq (x : GReq) (k : Int) : k + (cGReq x : Int) = k + 1 + 1 + 1 + 1 + 1 + 1 + ((cntS cI1 x.data : Nat) : Int) + 1 + 1 + 1 + 1 := by unfold cGReq; omega
theorem mark_EngReqS (a : List GReq) (k : Int) (hok : ∀ x ∈ a, okGReq x) (hl : a.length ≤ SMALL) (hk : 0 ≤ k) (hb : k + cntS cGReq a ≤ BIG) : m_markEngReqS a k = some (k + cntS cGReq a, numS cGReq nGReq a k) := by
  unfold m_markEngReqS
  refine mark_scan cGReq nGReq _ okGReq (fun n k l => ?_) (fun n k pre x suf ho h0 h1 h2 => ?_) a k hok hl hk hb
  · rw [m_markEngReqS_l0, if_neg (by simp)]; rfl
  · rw [cGReq_eq] at h1 ⊢
    (try unfold okGReq at ho)
    have hB : BIG = 4000000000000000000 := rfl
    rw [m_markEngReqS_l0, if_pos (by simp; omega)]
    simp (maxSteps := 3000000) (disch := first | omega | exact ho | exact ho.1 | exact ho.2 | exact ho.2.1 | exact ho.2.2 | exact ho.2.2.1 | exact ho.2.2.2 | exact ho.2.2.2.1 | exact ho.2.2.2.2 | exact ho.2.2.2.2.1 | exact ho.2.2.2.2.2 | (intro y hy; exact True.intro)) only [getI_mid, Option.bind_some, set_mid, gd_pos h2, gd_ok, mark_IntS]
    rfl
theorem held_EngReqS (a : List GReq) (k : Int) (hok : ∀ x ∈ a, okGReq x) (hl : a.length ≤ SMALL) (hk : 0 ≤ k) (hb : k + cntS cGReq a ≤ BIG) : m_heldEngReqS (numS cGReq nGReq a k) k = some (k + cntS cGReq a) := by
  unfold m_heldEngReqS
  refine held_scan cGReq nGReq a k _ (fun n k => ?_) (fun n k i x hg hm hi h0 h1 h2 => ?_) hl hk hb
  · rw [m_heldEngReqS_l0, if_neg (by simp)]; rfl
  · have ho : okGReq x := hok x hm
    rw [cGReq_eq] at h1 ⊢
    unfold okGReq at ho
    have hB : BIG = 4000000000000000000 := rfl
    rw [m_heldEngReqS_l0, if_pos (decide_eq_true hi)]
    simp (maxSteps := 3000000) (disch := first | omega | exact ho | exact ho.1 | exact ho.2 | exact ho.2.1 | exact ho.2.2 | exact ho.2.2.1 | exact ho.2.2.2 | exact ho.2.2.2.1 | exact ho.2.2.2.2 | exact ho.2.2.2.2.1 | exact ho.2.2.2.2.2 | (intro y hy; exact True.intro)) only [hg, nGReq, Option.bind_some, gd_pos h2, gd_ok, ng_ok, decide_true, if_true, held_IntS]

end Go.Am.Pl

end
section
/- Plain laws: loops that put out lists; bounds on how many marks there are. Own work. -/
set_option maxRecDepth 100000
set_option linter.unusedVariables false
set_option linter.unusedSimpArgs false
namespace Go.Am.Pl
open Go

theorem emit_scan {α γ β : Type} (l : List α) (hl : l.length ≤ SMALL) (e : α → List γ) (f : Nat → Int → List γ → Option β) (kx : List γ → Option β) (h0 : ∀ n s, f (n + 1) (l.length : Int) s = kx s)
    (h1 : ∀ n pre x suf s, l = pre ++ x :: suf → getI l (pre.length : Int) = some x → x ∈ l → (pre.length : Int) < (l.length : Int) → ok64 ((pre.length : Int) + 1) → s = pre.flatMap e → f (n + 1) (pre.length : Int) s = f n ((pre.length : Int) + 1) (s ++ e x)) :
    f FUEL 0 [] = kx (l.flatMap e) := by
  have := scan l (by unfold SMALL at hl; omega) f (fun pre suf s => kx (s ++ suf.flatMap e)) (fun pre s => s = pre.flatMap e) (fun n s _ => by rw [h0]; simp)
    (fun n pre x suf s a b c d i k => by
      rw [h1 n pre x suf s a b (by rw [a]; simp) c d i, k (s ++ e x) (by rw [i]; simp)]
      simp) FUEL [] rfl (by have := FUEL_ge; unfold SMALL at hl; omega)
  rw [this]; simp
theorem flat_len {α γ : Type} {e : α → List γ} (he : ∀ x, (e x).length ≤ 1) : ∀ l : List α, (l.flatMap e).length ≤ l.length
  | [] => by simp
  | x :: l => by have := flat_len he l; have := he x; simp only [List.flatMap_cons, List.length_append, List.length_cons]; omega
theorem cntS_crude {α : Type} {cnt : α → Nat} {K : Nat} : ∀ {l : List α}, (∀ x ∈ l, cnt x ≤ K) → cntS cnt l ≤ K * l.length
  | [], _ => by simp [cntS]
  | x :: l, h => by
    have h1 := cntS_crude (l := l) fun y hy => h y (by simp [hy])
    have h2 := h x (by simp)
    simp only [cntS, List.length_cons, Nat.mul_add]; omega
theorem cntS_cap {α : Type} {cnt : α → Nat} {K n : Nat} {l : List α} (h : ∀ x ∈ l, cnt x ≤ K) (hl : l.length ≤ n) : cntS cnt l ≤ K * n :=
  Nat.le_trans (cntS_crude h) (Nat.mul_le_mul_left K hl)
theorem cI1_cap {l : List Int} {n : Nat} (h : l.length ≤ n) : cntS cI1 l ≤ n := by have := cntS_cap (cnt := cI1) (K := 1) (l := l) (fun _ _ => Nat.le_refl _) h; omega
theorem sm {n : Nat} (h : n ≤ 1048576) : n ≤ SMALL := by unfold SMALL; omega
end Go.Am.Pl

end
