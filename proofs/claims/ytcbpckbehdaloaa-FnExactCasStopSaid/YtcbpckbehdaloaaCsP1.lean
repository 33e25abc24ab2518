/- Plain laws, chapters 1 and 2: what the mirrors compute. Own work. -/
import Derived.Test.YtcbpckbehdaloaaCsC3
set_option maxRecDepth 100000
set_option linter.unusedVariables false
set_option linter.unusedSimpArgs false
namespace Go.Am.Pl
open Go

/-! ### Loops over a list -/
theorem getI_mid {α : Type} (pre : List α) (x : α) (suf : List α) : getI (pre ++ x :: suf) (pre.length : Int) = some x := by
  rw [getI_nat]; simp
/-- A loop over the indexes of a list, with state s. -/
theorem scan {α β σ : Type} (l : List α) (hl : l.length ≤ 4611686018427387000) (f : Nat → Int → σ → Option β) (g : List α → List α → σ → Option β) (Inv : List α → σ → Prop)
    (h0 : ∀ n s, Inv l s → f (n + 1) (l.length : Int) s = g l [] s)
    (h1 : ∀ n pre x suf s, l = pre ++ x :: suf → getI l (pre.length : Int) = some x → ((pre.length : Int) < (l.length : Int)) → ok64 ((pre.length : Int) + 1) → Inv pre s →
      (∀ s', Inv (pre ++ [x]) s' → f n ((pre.length : Int) + 1) s' = g (pre ++ [x]) suf s') → f (n + 1) (pre.length : Int) s = g pre (x :: suf) s) :
    ∀ n s, Inv [] s → l.length < n → f n 0 s = g [] l s := by
  have key : ∀ suf pre n s, l = pre ++ suf → Inv pre s → suf.length < n → f n (pre.length : Int) s = g pre suf s := by
    intro suf
    induction suf with
    | nil =>
      intro pre n s hp hi hn
      obtain ⟨m, rfl⟩ : ∃ m, n = m + 1 := ⟨n - 1, by simp at hn; omega⟩
      simp only [List.append_nil] at hp
      subst hp
      exact h0 m s hi
    | cons x suf ih =>
      intro pre n s hp hi hn
      obtain ⟨m, rfl⟩ : ∃ m, n = m + 1 := ⟨n - 1, by simp at hn; omega⟩
      have hlen : l.length = pre.length + suf.length + 1 := by rw [hp]; simp; omega
      refine h1 m pre x suf s hp (by rw [hp]; exact getI_mid pre x suf) (by omega) (by constructor <;> omega) hi ?_
      intro s' hi'
      have := ih (pre ++ [x]) m s' (by rw [hp]; simp) hi' (by simp at hn; omega)
      rw [← this]; simp
  intro n s hi hn
  exact key l [] n s (by simp) hi hn

/-- The same without a state. -/
theorem scan0 {α β : Type} (l : List α) (hl : l.length ≤ 4611686018427387000) (f : Nat → Int → Option β) (g : List α → List α → Option β)
    (h0 : ∀ n, f (n + 1) (l.length : Int) = g l [])
    (h1 : ∀ n pre x suf, l = pre ++ x :: suf → getI l (pre.length : Int) = some x → ((pre.length : Int) < (l.length : Int)) → ok64 ((pre.length : Int) + 1) →
      f n ((pre.length : Int) + 1) = g (pre ++ [x]) suf → f (n + 1) (pre.length : Int) = g pre (x :: suf)) :
    f FUEL 0 = g [] l :=
  scan l hl (fun n i (_ : Unit) => f n i) (fun a b _ => g a b) (fun _ _ => True) (fun n s _ => h0 n) (fun n pre x suf s a b c d e k => h1 n pre x suf a b c d (k () trivial)) FUEL () trivial (by unfold FUEL; omega)

def inB (n a b : Int) : Bool := decide (a ≤ n ∧ n ≤ b)
theorem spec_in (n a b : Int) : m_spec_l1In n a b = some (inB n a b) := by
  unfold m_spec_l1In inB; by_cases h : a ≤ n <;> simp [h]
theorem impl_in (n a b : Int) : m_impl_in n a b = some (inB n a b) := by
  unfold m_impl_in inB; by_cases h : a ≤ n <;> simp [h]
theorem iteB (a b : Bool) : (if a = true then some b else some false) = some (a && b) := by cases a <;> rfl
theorem iteN (a b : Bool) : (if a = true then some false else some b) = some (!a && b) := by cases a <;> rfl

/-! ### The library's loops -/
def anyIdx {α : Type} (q : α → Bool) : List α → Int → Int
  | [], _ => -1
  | x :: l, i => if q x then i else anyIdx q l (i + 1)
theorem anyIdx_nonneg {α : Type} (q : α → Bool) : ∀ (l : List α) (i : Int), 0 ≤ i → (decide (0 ≤ anyIdx q l i)) = l.any q
  | [], i, _ => by simp [anyIdx]
  | x :: l, i, h => by
    by_cases hx : q x = true
    · simp [anyIdx, hx, h]
    · simp [anyIdx, hx, anyIdx_nonneg q l (i + 1) (by omega)]


theorem IndexFunc_I (s : List Int) (hs : s.length ≤ SMALL) (p : Int → Option Bool) (q : Int → Bool) (hp : ∀ x ∈ s, p x = some (q x)) : m_IndexFunc_I s p = some (anyIdx q s 0) := by
  unfold m_IndexFunc_I
  have := scan0 s (by unfold SMALL at hs; omega) (m_IndexFunc_I_l0 s p m_IndexFunc_I_k1) (fun pre suf => some (anyIdx q suf pre.length))
    (fun n => by rw [m_IndexFunc_I_l0, if_neg (by simp)]; rfl)
    (fun n pre x suf hl hg hlt hok ih => by
      rw [m_IndexFunc_I_l0, if_pos (decide_eq_true hlt), hg, Option.bind_some, hp x (by rw [hl]; simp), Option.bind_some, gd_pos hok, ih, anyIdx]
      by_cases hx : q x = true
      · rw [if_pos hx, if_pos hx]
      · rw [if_neg hx, if_neg hx]; simp)
  simpa using this
theorem ContainsFunc_I (s : List Int) (hs : s.length ≤ SMALL) (p : Int → Option Bool) (q : Int → Bool) (hp : ∀ x ∈ s, p x = some (q x)) : m_ContainsFunc_I s p = some (s.any q) := by
  unfold m_ContainsFunc_I
  rw [IndexFunc_I s hs p q hp, Option.bind_some, anyIdx_nonneg q s 0 (Int.le_refl _)]

theorem IndexFunc_GReq (s : List GReq) (hs : s.length ≤ SMALL) (p : GReq → Option Bool) (q : GReq → Bool) (hp : ∀ x ∈ s, p x = some (q x)) : m_IndexFunc_GReq s p = some (anyIdx q s 0) := by
  unfold m_IndexFunc_GReq
  have := scan0 s (by unfold SMALL at hs; omega) (m_IndexFunc_GReq_l0 s p m_IndexFunc_GReq_k1) (fun pre suf => some (anyIdx q suf pre.length))
    (fun n => by rw [m_IndexFunc_GReq_l0, if_neg (by simp)]; rfl)
    (fun n pre x suf hl hg hlt hok ih => by
      rw [m_IndexFunc_GReq_l0, if_pos (decide_eq_true hlt), hg, Option.bind_some, hp x (by rw [hl]; simp), Option.bind_some, gd_pos hok, ih, anyIdx]
      by_cases hx : q x = true
      · rw [if_pos hx, if_pos hx]
      · rw [if_neg hx, if_neg hx]; simp)
  simpa using this
theorem ContainsFunc_GReq (s : List GReq) (hs : s.length ≤ SMALL) (p : GReq → Option Bool) (q : GReq → Bool) (hp : ∀ x ∈ s, p x = some (q x)) : m_ContainsFunc_GReq s p = some (s.any q) := by
  unfold m_ContainsFunc_GReq
  rw [IndexFunc_GReq s hs p q hp, Option.bind_some, anyIdx_nonneg q s 0 (Int.le_refl _)]

theorem IndexFunc_GTask (s : List GTask) (hs : s.length ≤ SMALL) (p : GTask → Option Bool) (q : GTask → Bool) (hp : ∀ x ∈ s, p x = some (q x)) : m_IndexFunc_GTask s p = some (anyIdx q s 0) := by
  unfold m_IndexFunc_GTask
  have := scan0 s (by unfold SMALL at hs; omega) (m_IndexFunc_GTask_l0 s p m_IndexFunc_GTask_k1) (fun pre suf => some (anyIdx q suf pre.length))
    (fun n => by rw [m_IndexFunc_GTask_l0, if_neg (by simp)]; rfl)
    (fun n pre x suf hl hg hlt hok ih => by
      rw [m_IndexFunc_GTask_l0, if_pos (decide_eq_true hlt), hg, Option.bind_some, hp x (by rw [hl]; simp), Option.bind_some, gd_pos hok, ih, anyIdx]
      by_cases hx : q x = true
      · rw [if_pos hx, if_pos hx]
      · rw [if_neg hx, if_neg hx]; simp)
  simpa using this
theorem ContainsFunc_GTask (s : List GTask) (hs : s.length ≤ SMALL) (p : GTask → Option Bool) (q : GTask → Bool) (hp : ∀ x ∈ s, p x = some (q x)) : m_ContainsFunc_GTask s p = some (s.any q) := by
  unfold m_ContainsFunc_GTask
  rw [IndexFunc_GTask s hs p q hp, Option.bind_some, anyIdx_nonneg q s 0 (Int.le_refl _)]

theorem IndexFunc_GNet (s : List GNet) (hs : s.length ≤ SMALL) (p : GNet → Option Bool) (q : GNet → Bool) (hp : ∀ x ∈ s, p x = some (q x)) : m_IndexFunc_GNet s p = some (anyIdx q s 0) := by
  unfold m_IndexFunc_GNet
  have := scan0 s (by unfold SMALL at hs; omega) (m_IndexFunc_GNet_l0 s p m_IndexFunc_GNet_k1) (fun pre suf => some (anyIdx q suf pre.length))
    (fun n => by rw [m_IndexFunc_GNet_l0, if_neg (by simp)]; rfl)
    (fun n pre x suf hl hg hlt hok ih => by
      rw [m_IndexFunc_GNet_l0, if_pos (decide_eq_true hlt), hg, Option.bind_some, hp x (by rw [hl]; simp), Option.bind_some, gd_pos hok, ih, anyIdx]
      by_cases hx : q x = true
      · rw [if_pos hx, if_pos hx]
      · rw [if_neg hx, if_neg hx]; simp)
  simpa using this
theorem ContainsFunc_GNet (s : List GNet) (hs : s.length ≤ SMALL) (p : GNet → Option Bool) (q : GNet → Bool) (hp : ∀ x ∈ s, p x = some (q x)) : m_ContainsFunc_GNet s p = some (s.any q) := by
  unfold m_ContainsFunc_GNet
  rw [IndexFunc_GNet s hs p q hp, Option.bind_some, anyIdx_nonneg q s 0 (Int.le_refl _)]

theorem IndexFunc_GItem (s : List GItem) (hs : s.length ≤ SMALL) (p : GItem → Option Bool) (q : GItem → Bool) (hp : ∀ x ∈ s, p x = some (q x)) : m_IndexFunc_GItem s p = some (anyIdx q s 0) := by
  unfold m_IndexFunc_GItem
  have := scan0 s (by unfold SMALL at hs; omega) (m_IndexFunc_GItem_l0 s p m_IndexFunc_GItem_k1) (fun pre suf => some (anyIdx q suf pre.length))
    (fun n => by rw [m_IndexFunc_GItem_l0, if_neg (by simp)]; rfl)
    (fun n pre x suf hl hg hlt hok ih => by
      rw [m_IndexFunc_GItem_l0, if_pos (decide_eq_true hlt), hg, Option.bind_some, hp x (by rw [hl]; simp), Option.bind_some, gd_pos hok, ih, anyIdx]
      by_cases hx : q x = true
      · rw [if_pos hx, if_pos hx]
      · rw [if_neg hx, if_neg hx]; simp)
  simpa using this
theorem ContainsFunc_GItem (s : List GItem) (hs : s.length ≤ SMALL) (p : GItem → Option Bool) (q : GItem → Bool) (hp : ∀ x ∈ s, p x = some (q x)) : m_ContainsFunc_GItem s p = some (s.any q) := by
  unfold m_ContainsFunc_GItem
  rw [IndexFunc_GItem s hs p q hp, Option.bind_some, anyIdx_nonneg q s 0 (Int.le_refl _)]

theorem Index_I (s : List Int) (hs : s.length ≤ SMALL) (v : Int) : m_Index_I s v = some (anyIdx (fun x => decide (v = x)) s 0) := by
  unfold m_Index_I
  have := scan0 s (by unfold SMALL at hs; omega) (m_Index_I_l0 s v m_Index_I_k1) (fun pre suf => some (anyIdx (fun x => decide (v = x)) suf pre.length))
    (fun n => by rw [m_Index_I_l0, if_neg (by simp)]; rfl)
    (fun n pre x suf hl hg hlt hok ih => by
      rw [m_Index_I_l0, if_pos (decide_eq_true hlt), hg, Option.bind_some, gd_pos hok, ih, anyIdx]
      by_cases hx : decide (v = x) = true
      · rw [if_pos hx, if_pos hx]
      · rw [if_neg hx, if_neg hx]; simp)
  simpa using this
theorem Contains_I (s : List Int) (hs : s.length ≤ SMALL) (v : Int) : m_Contains_I s v = some (s.any (fun x => decide (v = x))) := by
  unfold m_Contains_I
  rw [Index_I s hs, Option.bind_some, anyIdx_nonneg _ s 0 (Int.le_refl _)]

/-! ### Chapter 1 -/
def datOk (l : List Int) : Bool := decide (l.length = 3) && l.all (fun x => inB x (-99) 99)
theorem spec_DatOk (l : List Int) (hl : l.length ≤ SMALL) : m_spec_DatOk l = some (datOk l) := by
  unfold m_spec_DatOk datOk
  have := scan0 l (by unfold SMALL at hl; omega) (m_spec_DatOk_l0 l m_spec_DatOk_k1) (fun _ suf => some (suf.all (fun x => inB x (-99) 99)))
    (fun n => by rw [m_spec_DatOk_l0, if_neg (by simp)]; rfl)
    (fun n pre x suf hl hg hlt hok ih => by
      rw [m_spec_DatOk_l0, if_pos (decide_eq_true hlt), hg, Option.bind_some, spec_in, Option.bind_some, gd_pos hok, ih, iteB, List.all_cons])
  rw [this]
  rw [iteB]
  congr 2
  exact decide_eq_decide.2 (by omega)
theorem impl_isDatum (n : Int) : m_impl_isDatum n = some (inB n (-99) 99) := by unfold m_impl_isDatum; rw [impl_in]; rfl
theorem all_not_any {α : Type} (l : List α) (q : α → Bool) : (!l.any (fun x => !q x)) = l.all q := by
  induction l with
  | nil => rfl
  | cons x l ih => rw [List.any_cons, List.all_cons, ← ih]; cases q x <;> simp
theorem impl_DatOk (l : List Int) (hl : l.length ≤ SMALL) : m_impl_DatOk l = some (datOk l) := by
  unfold m_impl_DatOk datOk
  rw [ContainsFunc_I l hl _ (fun n => !inB n (-99) 99) (fun x _ => by unfold m_impl_DatOk_1; rw [impl_isDatum]; rfl), Option.bind_some, all_not_any, iteB]
  congr 2
  exact decide_eq_decide.2 (by omega)
def expOk (e : GAsk) : Bool := bif decide (e.op = 0) then decide (e.var = 0) && decide (e.k = 0) else inB e.op 1 3 && inB e.var 0 2 && inB e.k (-99) 99
theorem spec_ExpOk (e : GAsk) : m_spec_ExpOk e = some (expOk e) := by
  unfold m_spec_ExpOk expOk
  simp only [spec_in, Option.bind_some, iteB]
  by_cases h : e.op = 0
  · simp [h]
  · simp [h, Bool.and_assoc]
theorem impl_ExpOk (e : GAsk) : m_impl_ExpOk e = some (expOk e) := by
  unfold m_impl_ExpOk expOk
  simp only [impl_in, impl_isDatum, Option.bind_some, iteB]
  by_cases h : e.op = 0
  · simp [h]
  · simp [h, Bool.and_assoc]

end Go.Am.Pl
