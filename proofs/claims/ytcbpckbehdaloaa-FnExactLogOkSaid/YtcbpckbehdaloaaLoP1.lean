/- Plain laws. Own work. -/
import Derived.Test.YtcbpckbehdaloaaLoC1
section
/- Plain laws, chapters 1 and 2: what the mirrors compute. Own work. -/
set_option maxRecDepth 100000
set_option linter.unusedVariables false
set_option linter.unusedSimpArgs false
namespace Go.Am.Pl
open Go

/-! ### Loops over a list -/
theorem getI_mid {α : Type} (pre : List α) (x : α) (suf : List α) : getI (pre ++ x :: suf) (pre.length : Int) = some x := by
  rw [getI_nat]; simp
/-- A loop over the indexes of a list, with state s. -/
theorem scan {α β σ : Type} (l : List α) (hl : l.length ≤ 4611686018427387000) (f : Nat → Int → σ → Option β) (g : List α → List α → σ → Option β) (Inv : List α → σ → Prop)
    (h0 : ∀ n s, Inv l s → f (n + 1) (l.length : Int) s = g l [] s)
    (h1 : ∀ n pre x suf s, l = pre ++ x :: suf → getI l (pre.length : Int) = some x → ((pre.length : Int) < (l.length : Int)) → ok64 ((pre.length : Int) + 1) → Inv pre s →
      (∀ s', Inv (pre ++ [x]) s' → f n ((pre.length : Int) + 1) s' = g (pre ++ [x]) suf s') → f (n + 1) (pre.length : Int) s = g pre (x :: suf) s) :
    ∀ n s, Inv [] s → l.length < n → f n 0 s = g [] l s := by
  have key : ∀ suf pre n s, l = pre ++ suf → Inv pre s → suf.length < n → f n (pre.length : Int) s = g pre suf s := by
    intro suf
    induction suf with
    | nil =>
      intro pre n s hp hi hn
      obtain ⟨m, rfl⟩ : ∃ m, n = m + 1 := ⟨n - 1, by simp at hn; omega⟩
      simp only [List.append_nil] at hp
      subst hp
      exact h0 m s hi
    | cons x suf ih =>
      intro pre n s hp hi hn
      obtain ⟨m, rfl⟩ : ∃ m, n = m + 1 := ⟨n - 1, by simp at hn; omega⟩
      have hlen : l.length = pre.length + suf.length + 1 := by rw [hp]; simp; omega
      refine h1 m pre x suf s hp (by rw [hp]; exact getI_mid pre x suf) (by omega) (by constructor <;> omega) hi ?_
      intro s' hi'
      have := ih (pre ++ [x]) m s' (by rw [hp]; simp) hi' (by simp at hn; omega)
      rw [← this]; simp
  intro n s hi hn
  exact key l [] n s (by simp) hi hn

/-- The same without a state. -/
theorem scan0 {α β : Type} (l : List α) (hl : l.length ≤ 4611686018427387000) (f : Nat → Int → Option β) (g : List α → List α → Option β)
    (h0 : ∀ n, f (n + 1) (l.length : Int) = g l [])
    (h1 : ∀ n pre x suf, l = pre ++ x :: suf → getI l (pre.length : Int) = some x → ((pre.length : Int) < (l.length : Int)) → ok64 ((pre.length : Int) + 1) →
      f n ((pre.length : Int) + 1) = g (pre ++ [x]) suf → f (n + 1) (pre.length : Int) = g pre (x :: suf)) :
    f FUEL 0 = g [] l :=
  scan l hl (fun n i (_ : Unit) => f n i) (fun a b _ => g a b) (fun _ _ => True) (fun n s _ => h0 n) (fun n pre x suf s a b c d e k => h1 n pre x suf a b c d (k () trivial)) FUEL () trivial (by have := FUEL_ge; omega)

def inB (n a b : Int) : Bool := decide (a ≤ n ∧ n ≤ b)
theorem spec_in (n a b : Int) : m_spec_l1In n a b = some (inB n a b) := by
  unfold m_spec_l1In inB; by_cases h : a ≤ n <;> simp [h]
theorem impl_in (n a b : Int) : m_impl_in n a b = some (inB n a b) := by
  unfold m_impl_in inB; by_cases h : a ≤ n <;> simp [h]
theorem iteB (a b : Bool) : (if a = true then some b else some false) = some (a && b) := by cases a <;> rfl
theorem iteN (a b : Bool) : (if a = true then some false else some b) = some (!a && b) := by cases a <;> rfl

/-! ### The library's loops -/
def anyIdx {α : Type} (q : α → Bool) : List α → Int → Int
  | [], _ => -1
  | x :: l, i => if q x then i else anyIdx q l (i + 1)
theorem anyIdx_nonneg {α : Type} (q : α → Bool) : ∀ (l : List α) (i : Int), 0 ≤ i → (decide (0 ≤ anyIdx q l i)) = l.any q
  | [], i, _ => by simp [anyIdx]
  | x :: l, i, h => by
    by_cases hx : q x = true
    · simp [anyIdx, hx, h]
    · simp [anyIdx, hx, anyIdx_nonneg q l (i + 1) (by omega)]


theorem IndexFunc_I (s : List Int) (hs : s.length ≤ SMALL) (p : Int → Option Bool) (q : Int → Bool) (hp : ∀ x ∈ s, p x = some (q x)) : m_IndexFunc_I s p = some (anyIdx q s 0) := by
  unfold m_IndexFunc_I
  have := scan0 s (by unfold SMALL at hs; omega) (m_IndexFunc_I_l0 s p (s.length : Int) m_IndexFunc_I_k1) (fun pre suf => some (anyIdx q suf pre.length))
    (fun n => by rw [m_IndexFunc_I_l0, if_neg (by simp)]; rfl)
    (fun n pre x suf hl hg hlt hok ih => by
      rw [m_IndexFunc_I_l0, if_pos (decide_eq_true hlt), hg, Option.bind_some, hp x (by rw [hl]; simp), Option.bind_some, gd_pos hok, ih, anyIdx]
      by_cases hx : q x = true
      · rw [if_pos hx, if_pos hx]
      · rw [if_neg hx, if_neg hx]; simp)
  simpa using this
theorem ContainsFunc_I (s : List Int) (hs : s.length ≤ SMALL) (p : Int → Option Bool) (q : Int → Bool) (hp : ∀ x ∈ s, p x = some (q x)) : m_ContainsFunc_I s p = some (s.any q) := by
  unfold m_ContainsFunc_I
  rw [IndexFunc_I s hs p q hp, Option.bind_some, anyIdx_nonneg q s 0 (Int.le_refl _)]

theorem IndexFunc_GReq (s : List GReq) (hs : s.length ≤ SMALL) (p : GReq → Option Bool) (q : GReq → Bool) (hp : ∀ x ∈ s, p x = some (q x)) : m_IndexFunc_GReq s p = some (anyIdx q s 0) := by
  unfold m_IndexFunc_GReq
  have := scan0 s (by unfold SMALL at hs; omega) (m_IndexFunc_GReq_l0 s p (s.length : Int) m_IndexFunc_GReq_k1) (fun pre suf => some (anyIdx q suf pre.length))
    (fun n => by rw [m_IndexFunc_GReq_l0, if_neg (by simp)]; rfl)
    (fun n pre x suf hl hg hlt hok ih => by
      rw [m_IndexFunc_GReq_l0, if_pos (decide_eq_true hlt), hg, Option.bind_some, hp x (by rw [hl]; simp), Option.bind_some, gd_pos hok, ih, anyIdx]
      by_cases hx : q x = true
      · rw [if_pos hx, if_pos hx]
      · rw [if_neg hx, if_neg hx]; simp)
  simpa using this
theorem ContainsFunc_GReq (s : List GReq) (hs : s.length ≤ SMALL) (p : GReq → Option Bool) (q : GReq → Bool) (hp : ∀ x ∈ s, p x = some (q x)) : m_ContainsFunc_GReq s p = some (s.any q) := by
  unfold m_ContainsFunc_GReq
  rw [IndexFunc_GReq s hs p q hp, Option.bind_some, anyIdx_nonneg q s 0 (Int.le_refl _)]

theorem IndexFunc_GTask (s : List GTask) (hs : s.length ≤ SMALL) (p : GTask → Option Bool) (q : GTask → Bool) (hp : ∀ x ∈ s, p x = some (q x)) : m_IndexFunc_GTask s p = some (anyIdx q s 0) := by
  unfold m_IndexFunc_GTask
  have := scan0 s (by unfold SMALL at hs; omega) (m_IndexFunc_GTask_l0 s p (s.length : Int) m_IndexFunc_GTask_k1) (fun pre suf => some (anyIdx q suf pre.length))
    (fun n => by rw [m_IndexFunc_GTask_l0, if_neg (by simp)]; rfl)
    (fun n pre x suf hl hg hlt hok ih => by
      rw [m_IndexFunc_GTask_l0, if_pos (decide_eq_true hlt), hg, Option.bind_some, hp x (by rw [hl]; simp), Option.bind_some, gd_pos hok, ih, anyIdx]
      by_cases hx : q x = true
      · rw [if_pos hx, if_pos hx]
      · rw [if_neg hx, if_neg hx]; simp)
  simpa using this
theorem ContainsFunc_GTask (s : List GTask) (hs : s.length ≤ SMALL) (p : GTask → Option Bool) (q : GTask → Bool) (hp : ∀ x ∈ s, p x = some (q x)) : m_ContainsFunc_GTask s p = some (s.any q) := by
  unfold m_ContainsFunc_GTask
  rw [IndexFunc_GTask s hs p q hp, Option.bind_some, anyIdx_nonneg q s 0 (Int.le_refl _)]

theorem IndexFunc_GNet (s : List GNet) (hs : s.length ≤ SMALL) (p : GNet → Option Bool) (q : GNet → Bool) (hp : ∀ x ∈ s, p x = some (q x)) : m_IndexFunc_GNet s p = some (anyIdx q s 0) := by
  unfold m_IndexFunc_GNet
  have := scan0 s (by unfold SMALL at hs; omega) (m_IndexFunc_GNet_l0 s p (s.length : Int) m_IndexFunc_GNet_k1) (fun pre suf => some (anyIdx q suf pre.length))
    (fun n => by rw [m_IndexFunc_GNet_l0, if_neg (by simp)]; rfl)
    (fun n pre x suf hl hg hlt hok ih => by
      rw [m_IndexFunc_GNet_l0, if_pos (decide_eq_true hlt), hg, Option.bind_some, hp x (by rw [hl]; simp), Option.bind_some, gd_pos hok, ih, anyIdx]
      by_cases hx : q x = true
      · rw [if_pos hx, if_pos hx]
      · rw [if_neg hx, if_neg hx]; simp)
  simpa using this
theorem ContainsFunc_GNet (s : List GNet) (hs : s.length ≤ SMALL) (p : GNet → Option Bool) (q : GNet → Bool) (hp : ∀ x ∈ s, p x = some (q x)) : m_ContainsFunc_GNet s p = some (s.any q) := by
  unfold m_ContainsFunc_GNet
  rw [IndexFunc_GNet s hs p q hp, Option.bind_some, anyIdx_nonneg q s 0 (Int.le_refl _)]

theorem IndexFunc_GItem (s : List GItem) (hs : s.length ≤ SMALL) (p : GItem → Option Bool) (q : GItem → Bool) (hp : ∀ x ∈ s, p x = some (q x)) : m_IndexFunc_GItem s p = some (anyIdx q s 0) := by
  unfold m_IndexFunc_GItem
  have := scan0 s (by unfold SMALL at hs; omega) (m_IndexFunc_GItem_l0 s p (s.length : Int) m_IndexFunc_GItem_k1) (fun pre suf => some (anyIdx q suf pre.length))
    (fun n => by rw [m_IndexFunc_GItem_l0, if_neg (by simp)]; rfl)
    (fun n pre x suf hl hg hlt hok ih => by
      rw [m_IndexFunc_GItem_l0, if_pos (decide_eq_true hlt), hg, Option.bind_some, hp x (by rw [hl]; simp), Option.bind_some, gd_pos hok, ih, anyIdx]
      by_cases hx : q x = true
      · rw [if_pos hx, if_pos hx]
      · rw [if_neg hx, if_neg hx]; simp)
  simpa using this
theorem ContainsFunc_GItem (s : List GItem) (hs : s.length ≤ SMALL) (p : GItem → Option Bool) (q : GItem → Bool) (hp : ∀ x ∈ s, p x = some (q x)) : m_ContainsFunc_GItem s p = some (s.any q) := by
  unfold m_ContainsFunc_GItem
  rw [IndexFunc_GItem s hs p q hp, Option.bind_some, anyIdx_nonneg q s 0 (Int.le_refl _)]

theorem Index_I (s : List Int) (hs : s.length ≤ SMALL) (v : Int) : m_Index_I s v = some (anyIdx (fun x => decide (v = x)) s 0) := by
  unfold m_Index_I
  have := scan0 s (by unfold SMALL at hs; omega) (m_Index_I_l0 s v (s.length : Int) m_Index_I_k1) (fun pre suf => some (anyIdx (fun x => decide (v = x)) suf pre.length))
    (fun n => by rw [m_Index_I_l0, if_neg (by simp)]; rfl)
    (fun n pre x suf hl hg hlt hok ih => by
      rw [m_Index_I_l0, if_pos (decide_eq_true hlt), hg, Option.bind_some, gd_pos hok, ih, anyIdx]
      by_cases hx : decide (v = x) = true
      · rw [if_pos hx, if_pos hx]
      · rw [if_neg hx, if_neg hx]; simp)
  simpa using this
theorem Contains_I (s : List Int) (hs : s.length ≤ SMALL) (v : Int) : m_Contains_I s v = some (s.any (fun x => decide (v = x))) := by
  unfold m_Contains_I
  rw [Index_I s hs, Option.bind_some, anyIdx_nonneg _ s 0 (Int.le_refl _)]

/-! ### Chapter 1 -/
def datOk (l : List Int) : Bool := decide (l.length = 3) && l.all (fun x => inB x (-99) 99)
theorem spec_DatOk (l : List Int) (hl : l.length ≤ SMALL) : m_spec_DatOk l = some (datOk l) := by
  unfold m_spec_DatOk datOk
  have := scan0 l (by unfold SMALL at hl; omega) (m_spec_DatOk_l0 l m_spec_DatOk_k1) (fun _ suf => some (suf.all (fun x => inB x (-99) 99)))
    (fun n => by rw [m_spec_DatOk_l0, if_neg (by simp)]; rfl)
    (fun n pre x suf hl hg hlt hok ih => by
      rw [m_spec_DatOk_l0, if_pos (decide_eq_true hlt), hg, Option.bind_some, spec_in, Option.bind_some, gd_pos hok, ih, iteB, List.all_cons])
  rw [this]
  rw [iteB]
  congr 2
  exact decide_eq_decide.2 (by omega)
theorem impl_isDatum (n : Int) : m_impl_isDatum n = some (inB n (-99) 99) := by unfold m_impl_isDatum; rw [impl_in]; rfl
theorem all_not_any {α : Type} (l : List α) (q : α → Bool) : (!l.any (fun x => !q x)) = l.all q := by
  induction l with
  | nil => rfl
  | cons x l ih => rw [List.any_cons, List.all_cons, ← ih]; cases q x <;> simp
theorem impl_DatOk (l : List Int) (hl : l.length ≤ SMALL) : m_impl_DatOk l = some (datOk l) := by
  unfold m_impl_DatOk datOk
  rw [ContainsFunc_I l hl _ (fun n => !inB n (-99) 99) (fun x _ => by unfold m_impl_DatOk_1; rw [impl_isDatum]; rfl), Option.bind_some, all_not_any, iteB]
  congr 2
  exact decide_eq_decide.2 (by omega)
def expOk (e : GAsk) : Bool := bif decide (e.op = 0) then decide (e.var = 0) && decide (e.k = 0) else inB e.op 1 3 && inB e.var 0 2 && inB e.k (-99) 99
theorem spec_ExpOk (e : GAsk) : m_spec_ExpOk e = some (expOk e) := by
  unfold m_spec_ExpOk expOk
  simp only [spec_in, Option.bind_some, iteB]
  by_cases h : e.op = 0
  · simp [h]
  · simp [h, Bool.and_assoc]
theorem impl_ExpOk (e : GAsk) : m_impl_ExpOk e = some (expOk e) := by
  unfold m_impl_ExpOk expOk
  simp only [impl_in, impl_isDatum, Option.bind_some, iteB]
  by_cases h : e.op = 0
  · simp [h]
  · simp [h, Bool.and_assoc]

end Go.Am.Pl

end
section
/- Plain laws, chapters 9 and 10: requests, logs. Own work. -/
set_option maxRecDepth 100000
set_option linter.unusedVariables false
set_option linter.unusedSimpArgs false
namespace Go.Am.Pl
open Go

theorem eq_scan {a b : List Int} (hl : a.length ≤ SMALL) (hab : a.length = b.length) (c : Option Bool) (f : Nat → Int → Option Bool) (h0 : ∀ n, f (n + 1) (a.length : Int) = c)
    (h1 : ∀ n i x y, getI a i = some x → getI b i = some y → i < (a.length : Int) → ok64 (i + 1) → f (n + 1) i = if decide (x = y) = true then f n (i + 1) else some false) :
    f FUEL 0 = if decide (a = b) = true then c else some false := by
  have := scan0 a (by unfold SMALL at hl; omega) f (fun pre suf => if decide (suf = b.drop pre.length) = true then c else some false)
    (fun n => by rw [h0, hab, List.drop_eq_nil_of_le (Nat.le_refl _)]; rfl)
    (fun n pre x suf ha hg hlt hok ih => by
      have hk : pre.length < b.length := by omega
      rw [h1 n _ x b[pre.length] hg (by rw [getI_nat]; exact List.getElem?_eq_getElem hk) hlt hok, ih, List.drop_eq_getElem_cons hk, List.length_append, List.length_singleton]
      by_cases hx : x = b[pre.length]
      · rw [if_pos (decide_eq_true hx)]
        by_cases hs : suf = b.drop (pre.length + 1)
        · rw [if_pos (decide_eq_true hs), if_pos (decide_eq_true (by rw [← hx, ← hs]))]
        · rw [if_neg (by simpa using hs), if_neg (by simp only [decide_eq_true_eq]; intro h; exact hs (List.cons.inj h).2)]
      · rw [if_neg (by simpa using hx), if_neg (by simp only [decide_eq_true_eq]; intro h; exact hx (List.cons.inj h).1)])
  simpa using this
theorem Equal_I (a b : List Int) (hl : a.length ≤ SMALL) : m_Equal_I a b = some (decide (a = b)) := by
  unfold m_Equal_I
  by_cases h : a.length = b.length
  · rw [if_pos (decide_eq_true (by omega)), eq_scan hl h (some true) (m_Equal_I_l0 a b (a.length : Int) m_Equal_I_k1) (fun n => by rw [m_Equal_I_l0, if_neg (by simp)]; rfl)
      (fun n i x y ha hb hlt hok => by rw [m_Equal_I_l0, if_pos (decide_eq_true hlt), ha, Option.bind_some, hb, Option.bind_some, gd_pos hok])]
    cases decide (a = b) <;> rfl
  · rw [if_neg (by simp only [decide_eq_true_eq]; omega)]
    exact congrArg some (decide_eq_false fun e => h (by rw [e])).symm
theorem ask_eq (a b : GAsk) : [a.op, a.var, a.k] = [b.op, b.var, b.k] ↔ a = b := by cases a; cases b; simp
theorem spec_l9Same (a b : GReq) (hl : a.data.length ≤ SMALL) : m_spec_l9Same a b = some (decide (a = b)) := by
  unfold m_spec_l9Same
  have e : a.data.length = b.data.length → m_spec_l9Same_l0 a b (m_spec_l9Same_k1 a b) FUEL 0 = if decide (a.data = b.data) = true then m_spec_l9Same_k1 a b else some false := fun h =>
    eq_scan hl h _ (m_spec_l9Same_l0 a b (m_spec_l9Same_k1 a b)) (fun n => by rw [m_spec_l9Same_l0, if_neg (by simp)])
      (fun n i x y ha hb hlt hok => by rw [m_spec_l9Same_l0, if_pos (decide_eq_true hlt), ha, Option.bind_some, hb, Option.bind_some, gd_pos hok])
  have e2 : (if decide ((a.data.length : Int) = (b.data.length : Int)) = true then m_spec_l9Same_l0 a b (m_spec_l9Same_k1 a b) FUEL 0 else some false) = if decide (a.data = b.data) = true then m_spec_l9Same_k1 a b else some false := by
    by_cases h : a.data.length = b.data.length
    · rw [if_pos (decide_eq_true (by omega)), e h]
    · rw [if_neg (by simp only [decide_eq_true_eq]; omega), if_neg (by simp only [decide_eq_true_eq]; intro e; exact h (by rw [e]))]
  rw [e2]
  unfold m_spec_l9Same_k1
  refine (eq_step (eq_step (eq_step (eq_step (eq_step (eq_step (eq_step (eq_step rfl)))))))).trans (congrArg some (decide_eq_decide.2 ?_))
  rw [ask_eq]
  cases a; cases b; simp only [GReq.mk.injEq]
  constructor
  · rintro ⟨a, b, c, d, e, f, g, h, i⟩; exact ⟨b, c, d, e, f, g, a, h, i⟩
  · rintro ⟨b, c, d, e, f, g, a, h, i⟩; exact ⟨a, b, c, d, e, f, g, h, i⟩
theorem impl_same (a b : GReq) (hl : a.data.length ≤ SMALL) : m_impl_EngReq_same a b = some (decide (a = b)) := by
  unfold m_impl_EngReq_same
  rw [Equal_I _ _ hl]
  refine (eq_step (eq_step (eq_step (eq_step (eq_step (eq_step (eq_step (eq_step rfl)))))))).trans (congrArg some (decide_eq_decide.2 ?_))
  rw [ask_eq]
  cases a; cases b; simp only [GReq.mk.injEq]
  constructor
  · rintro ⟨b, c, d, e, f, g, h, i, a⟩; exact ⟨b, c, d, e, f, g, a, h, i⟩
  · rintro ⟨b, c, d, e, f, g, a, h, i⟩; exact ⟨b, c, d, e, f, g, h, i, a⟩
theorem inB_iff8 {n a b : Int} : inB n a b = true ↔ a ≤ n ∧ n ≤ b := by simp [inB]
def formB (r : GReq) : GReq :=
  if r.kind = 1 then GReq.mk r.kind 0 0 0 0 0 r.data (GAsk.mk 0 0 0) 0 else if r.kind = 2 then GReq.mk r.kind r.who r.case r.task 0 0 [] (GAsk.mk 0 0 0) 0
  else if r.kind = 3 then GReq.mk r.kind 0 r.case r.task r.var r.num [] (GAsk.mk 0 0 0) 0 else if r.kind = 4 then GReq.mk r.kind 0 r.case 0 0 0 [] (GAsk.mk 0 0 0) 0
  else GReq.mk r.kind 0 0 0 0 0 r.data r.if_ r.ans
theorem spec_Form (r : GReq) (h : inB r.kind 1 5 = true) : m_spec_l9Form r = some (formB r) := by
  have := inB_iff8.1 h
  unfold m_spec_l9Form formB
  by_cases h1 : r.kind = 1
  · simp [h1]
  by_cases h2 : r.kind = 2
  · simp [h1, h2]
  by_cases h3 : r.kind = 3
  · simp [h1, h2, h3]
  by_cases h4 : r.kind = 4
  · simp [h1, h2, h3, h4]
  · have h5 : r.kind = 5 := by omega
    simp [h5]
theorem impl_named (r : GReq) : m_impl_EngReq_named r = some (formB r) := by
  unfold m_impl_EngReq_named formB
  by_cases h1 : r.kind = 1
  · simp [h1]
  by_cases h2 : r.kind = 2
  · simp [h1, h2]
  by_cases h3 : r.kind = 3
  · simp [h1, h2, h3]
  by_cases h4 : r.kind = 4
  · simp [h1, h2, h3, h4]
  · simp [h1, h2, h3, h4]
def reqB (r : GReq) : Bool :=
  inB r.kind 1 5 && (decide (r = formB r) && (inB r.who 0 4 && (inB r.case 0 4 && (inB r.task 0 5 && (inB r.var (-1) 2 && (inB r.num (-99) 99 && (expOk r.if_ && (inB r.ans 0 2 && ((decide (r.kind = 1) || decide (r.kind = 5)) == datOk r.data)))))))))
theorem spec_EngReqOk (r : GReq) (hl : r.data.length ≤ SMALL) : m_spec_EngReqOk r = some (reqB r) := by
  unfold m_spec_EngReqOk reqB
  rw [spec_in, Option.bind_some]
  by_cases h : inB r.kind 1 5 = true
  · rw [if_pos h, h, spec_Form r h, Option.bind_some, spec_l9Same _ _ hl]
    simp only [spec_in, spec_ExpOk, spec_DatOk _ hl, Option.bind_some]
    have e : (if decide (r.kind = 1) = true then some (true == datOk r.data) else some (decide (r.kind = 5) == datOk r.data)) = some ((decide (r.kind = 1) || decide (r.kind = 5)) == datOk r.data) := by
      by_cases h1 : r.kind = 1
      · simp [h1]
      · simp [h1]
    rw [e]
    simp only [iteB, Bool.true_and]
  · rw [if_neg h, Bool.eq_false_iff.2 h]; rfl
theorem impl_EngReqOk (r : GReq) (hl : r.data.length ≤ SMALL) : m_impl_EngReqOk r = some (reqB r) := by
  unfold m_impl_EngReqOk reqB
  simp only [impl_in, impl_isDatum, m_impl_isAnswer, impl_ExpOk, impl_DatOk _ hl, impl_named, impl_same _ _ hl, Option.bind_some, iteB]
  by_cases h1 : r.kind = 1
  · rw [if_pos (decide_eq_true h1)]
    simp only [h1, decide_true, Bool.true_or]
    rw [show (datOk r.data == true) = (true == datOk r.data) by cases datOk r.data <;> rfl]
    congr 1; ac_rfl
  · rw [if_neg (by simpa using h1)]
    simp only [h1, decide_false, Bool.false_or]
    rw [show (datOk r.data == decide (r.kind = 5)) = (decide (r.kind = 5) == datOk r.data) by cases datOk r.data <;> cases decide (r.kind = 5) <;> rfl]
    congr 1; ac_rfl
def logB (log : List GReq) : Bool := !decide (150 < (log.length : Int)) && log.all reqB
theorem spec_LogOk (log : List GReq) (hl : log.length ≤ SMALL) (hd : ∀ r ∈ log, r.data.length ≤ SMALL) : m_spec_LogOk log = some (logB log) := by
  unfold m_spec_LogOk logB
  have := scan0 log (by unfold SMALL at hl; omega) (m_spec_LogOk_l0 log m_spec_LogOk_k1) (fun _ suf => some (suf.all reqB))
    (fun n => by rw [m_spec_LogOk_l0, if_neg (by simp)]; rfl)
    (fun n pre x suf hl hg hlt hok ih => by
      rw [m_spec_LogOk_l0, if_pos (decide_eq_true hlt), hg, Option.bind_some, spec_EngReqOk x (hd x (by rw [hl]; simp)), Option.bind_some, gd_pos hok, ih, iteB, List.all_cons])
  rw [this, iteN]
theorem impl_LogOk (log : List GReq) (hl : log.length ≤ SMALL) (hd : ∀ r ∈ log, r.data.length ≤ SMALL) : m_impl_LogOk log = some (logB log) := by
  unfold m_impl_LogOk logB
  rw [ContainsFunc_GReq log hl _ (fun r => !reqB r) (fun r hr => by unfold m_impl_LogOk_1; rw [impl_EngReqOk r (hd r hr)]; rfl), Option.bind_some, all_not_any, iteB]
  congr 2
  rw [Bool.eq_iff_iff]; simp
end Go.Am.Pl

end
