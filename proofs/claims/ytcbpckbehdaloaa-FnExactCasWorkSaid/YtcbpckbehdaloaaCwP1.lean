/- Plain laws. Own work. -/
import Derived.Test.YtcbpckbehdaloaaCwC1
section
/- Plain laws, chapters 1 and 2: what the mirrors compute. Own work. -/
set_option maxRecDepth 100000
set_option linter.unusedVariables false
set_option linter.unusedSimpArgs false
namespace Go.Am.Pl
open Go

/-! ### Loops over a list -/
theorem getI_mid {α : Type} (pre : List α) (x : α) (suf : List α) : getI (pre ++ x :: suf) (pre.length : Int) = some x := by
  rw [getI_nat]; simp
/-- A loop over the indexes of a list, with state s. -/
theorem scan {α β σ : Type} (l : List α) (hl : l.length ≤ 4611686018427387000) (f : Nat → Int → σ → Option β) (g : List α → List α → σ → Option β) (Inv : List α → σ → Prop)
    (h0 : ∀ n s, Inv l s → f (n + 1) (l.length : Int) s = g l [] s)
    (h1 : ∀ n pre x suf s, l = pre ++ x :: suf → getI l (pre.length : Int) = some x → ((pre.length : Int) < (l.length : Int)) → ok64 ((pre.length : Int) + 1) → Inv pre s →
      (∀ s', Inv (pre ++ [x]) s' → f n ((pre.length : Int) + 1) s' = g (pre ++ [x]) suf s') → f (n + 1) (pre.length : Int) s = g pre (x :: suf) s) :
    ∀ n s, Inv [] s → l.length < n → f n 0 s = g [] l s := by
  have key : ∀ suf pre n s, l = pre ++ suf → Inv pre s → suf.length < n → f n (pre.length : Int) s = g pre suf s := by
    intro suf
    induction suf with
    | nil =>
      intro pre n s hp hi hn
      obtain ⟨m, rfl⟩ : ∃ m, n = m + 1 := ⟨n - 1, by simp at hn; omega⟩
      simp only [List.append_nil] at hp
      subst hp
      exact h0 m s hi
    | cons x suf ih =>
      intro pre n s hp hi hn
      obtain ⟨m, rfl⟩ : ∃ m, n = m + 1 := ⟨n - 1, by simp at hn; omega⟩
      have hlen : l.length = pre.length + suf.length + 1 := by rw [hp]; simp; omega
      refine h1 m pre x suf s hp (by rw [hp]; exact getI_mid pre x suf) (by omega) (by constructor <;> omega) hi ?_
      intro s' hi'
      have := ih (pre ++ [x]) m s' (by rw [hp]; simp) hi' (by simp at hn; omega)
      rw [← this]; simp
  intro n s hi hn
  exact key l [] n s (by simp) hi hn

/-- The same without a state. -/
theorem scan0 {α β : Type} (l : List α) (hl : l.length ≤ 4611686018427387000) (f : Nat → Int → Option β) (g : List α → List α → Option β)
    (h0 : ∀ n, f (n + 1) (l.length : Int) = g l [])
    (h1 : ∀ n pre x suf, l = pre ++ x :: suf → getI l (pre.length : Int) = some x → ((pre.length : Int) < (l.length : Int)) → ok64 ((pre.length : Int) + 1) →
      f n ((pre.length : Int) + 1) = g (pre ++ [x]) suf → f (n + 1) (pre.length : Int) = g pre (x :: suf)) :
    f FUEL 0 = g [] l :=
  scan l hl (fun n i (_ : Unit) => f n i) (fun a b _ => g a b) (fun _ _ => True) (fun n s _ => h0 n) (fun n pre x suf s a b c d e k => h1 n pre x suf a b c d (k () trivial)) FUEL () trivial (by have := FUEL_ge; omega)

def inB (n a b : Int) : Bool := decide (a ≤ n ∧ n ≤ b)
theorem spec_in (n a b : Int) : m_spec_l1In n a b = some (inB n a b) := by
  unfold m_spec_l1In inB; by_cases h : a ≤ n <;> simp [h]
theorem impl_in (n a b : Int) : m_impl_in n a b = some (inB n a b) := by
  unfold m_impl_in inB; by_cases h : a ≤ n <;> simp [h]
theorem iteB (a b : Bool) : (if a = true then some b else some false) = some (a && b) := by cases a <;> rfl
theorem iteN (a b : Bool) : (if a = true then some false else some b) = some (!a && b) := by cases a <;> rfl

/-! ### The library's loops -/
def anyIdx {α : Type} (q : α → Bool) : List α → Int → Int
  | [], _ => -1
  | x :: l, i => if q x then i else anyIdx q l (i + 1)
theorem anyIdx_nonneg {α : Type} (q : α → Bool) : ∀ (l : List α) (i : Int), 0 ≤ i → (decide (0 ≤ anyIdx q l i)) = l.any q
  | [], i, _ => by simp [anyIdx]
  | x :: l, i, h => by
    by_cases hx : q x = true
    · simp [anyIdx, hx, h]
    · simp [anyIdx, hx, anyIdx_nonneg q l (i + 1) (by omega)]


theorem IndexFunc_I (s : List Int) (hs : s.length ≤ SMALL) (p : Int → Option Bool) (q : Int → Bool) (hp : ∀ x ∈ s, p x = some (q x)) : m_IndexFunc_I s p = some (anyIdx q s 0) := by
  unfold m_IndexFunc_I
  have := scan0 s (by unfold SMALL at hs; omega) (m_IndexFunc_I_l0 s p (s.length : Int) m_IndexFunc_I_k1) (fun pre suf => some (anyIdx q suf pre.length))
    (fun n => by rw [m_IndexFunc_I_l0, if_neg (by simp)]; rfl)
    (fun n pre x suf hl hg hlt hok ih => by
      rw [m_IndexFunc_I_l0, if_pos (decide_eq_true hlt), hg, Option.bind_some, hp x (by rw [hl]; simp), Option.bind_some, gd_pos hok, ih, anyIdx]
      by_cases hx : q x = true
      · rw [if_pos hx, if_pos hx]
      · rw [if_neg hx, if_neg hx]; simp)
  simpa using this
theorem ContainsFunc_I (s : List Int) (hs : s.length ≤ SMALL) (p : Int → Option Bool) (q : Int → Bool) (hp : ∀ x ∈ s, p x = some (q x)) : m_ContainsFunc_I s p = some (s.any q) := by
  unfold m_ContainsFunc_I
  rw [IndexFunc_I s hs p q hp, Option.bind_some, anyIdx_nonneg q s 0 (Int.le_refl _)]

theorem IndexFunc_GReq (s : List GReq) (hs : s.length ≤ SMALL) (p : GReq → Option Bool) (q : GReq → Bool) (hp : ∀ x ∈ s, p x = some (q x)) : m_IndexFunc_GReq s p = some (anyIdx q s 0) := by
  unfold m_IndexFunc_GReq
  have := scan0 s (by unfold SMALL at hs; omega) (m_IndexFunc_GReq_l0 s p (s.length : Int) m_IndexFunc_GReq_k1) (fun pre suf => some (anyIdx q suf pre.length))
    (fun n => by rw [m_IndexFunc_GReq_l0, if_neg (by simp)]; rfl)
    (fun n pre x suf hl hg hlt hok ih => by
      rw [m_IndexFunc_GReq_l0, if_pos (decide_eq_true hlt), hg, Option.bind_some, hp x (by rw [hl]; simp), Option.bind_some, gd_pos hok, ih, anyIdx]
      by_cases hx : q x = true
      · rw [if_pos hx, if_pos hx]
      · rw [if_neg hx, if_neg hx]; simp)
  simpa using this
theorem ContainsFunc_GReq (s : List GReq) (hs : s.length ≤ SMALL) (p : GReq → Option Bool) (q : GReq → Bool) (hp : ∀ x ∈ s, p x = some (q x)) : m_ContainsFunc_GReq s p = some (s.any q) := by
  unfold m_ContainsFunc_GReq
  rw [IndexFunc_GReq s hs p q hp, Option.bind_some, anyIdx_nonneg q s 0 (Int.le_refl _)]

theorem IndexFunc_GTask (s : List GTask) (hs : s.length ≤ SMALL) (p : GTask → Option Bool) (q : GTask → Bool) (hp : ∀ x ∈ s, p x = some (q x)) : m_IndexFunc_GTask s p = some (anyIdx q s 0) := by
  unfold m_IndexFunc_GTask
  have := scan0 s (by unfold SMALL at hs; omega) (m_IndexFunc_GTask_l0 s p (s.length : Int) m_IndexFunc_GTask_k1) (fun pre suf => some (anyIdx q suf pre.length))
    (fun n => by rw [m_IndexFunc_GTask_l0, if_neg (by simp)]; rfl)
    (fun n pre x suf hl hg hlt hok ih => by
      rw [m_IndexFunc_GTask_l0, if_pos (decide_eq_true hlt), hg, Option.bind_some, hp x (by rw [hl]; simp), Option.bind_some, gd_pos hok, ih, anyIdx]
      by_cases hx : q x = true
      · rw [if_pos hx, if_pos hx]
      · rw [if_neg hx, if_neg hx]; simp)
  simpa using this
theorem ContainsFunc_GTask (s : List GTask) (hs : s.length ≤ SMALL) (p : GTask → Option Bool) (q : GTask → Bool) (hp : ∀ x ∈ s, p x = some (q x)) : m_ContainsFunc_GTask s p = some (s.any q) := by
  unfold m_ContainsFunc_GTask
  rw [IndexFunc_GTask s hs p q hp, Option.bind_some, anyIdx_nonneg q s 0 (Int.le_refl _)]

theorem IndexFunc_GNet (s : List GNet) (hs : s.length ≤ SMALL) (p : GNet → Option Bool) (q : GNet → Bool) (hp : ∀ x ∈ s, p x = some (q x)) : m_IndexFunc_GNet s p = some (anyIdx q s 0) := by
  unfold m_IndexFunc_GNet
  have := scan0 s (by unfold SMALL at hs; omega) (m_IndexFunc_GNet_l0 s p (s.length : Int) m_IndexFunc_GNet_k1) (fun pre suf => some (anyIdx q suf pre.length))
    (fun n => by rw [m_IndexFunc_GNet_l0, if_neg (by simp)]; rfl)
    (fun n pre x suf hl hg hlt hok ih => by
      rw [m_IndexFunc_GNet_l0, if_pos (decide_eq_true hlt), hg, Option.bind_some, hp x (by rw [hl]; simp), Option.bind_some, gd_pos hok, ih, anyIdx]
      by_cases hx : q x = true
      · rw [if_pos hx, if_pos hx]
      · rw [if_neg hx, if_neg hx]; simp)
  simpa using this
theorem ContainsFunc_GNet (s : List GNet) (hs : s.length ≤ SMALL) (p : GNet → Option Bool) (q : GNet → Bool) (hp : ∀ x ∈ s, p x = some (q x)) : m_ContainsFunc_GNet s p = some (s.any q) := by
  unfold m_ContainsFunc_GNet
  rw [IndexFunc_GNet s hs p q hp, Option.bind_some, anyIdx_nonneg q s 0 (Int.le_refl _)]

theorem IndexFunc_GItem (s : List GItem) (hs : s.length ≤ SMALL) (p : GItem → Option Bool) (q : GItem → Bool) (hp : ∀ x ∈ s, p x = some (q x)) : m_IndexFunc_GItem s p = some (anyIdx q s 0) := by
  unfold m_IndexFunc_GItem
  have := scan0 s (by unfold SMALL at hs; omega) (m_IndexFunc_GItem_l0 s p (s.length : Int) m_IndexFunc_GItem_k1) (fun pre suf => some (anyIdx q suf pre.length))
    (fun n => by rw [m_IndexFunc_GItem_l0, if_neg (by simp)]; rfl)
    (fun n pre x suf hl hg hlt hok ih => by
      rw [m_IndexFunc_GItem_l0, if_pos (decide_eq_true hlt), hg, Option.bind_some, hp x (by rw [hl]; simp), Option.bind_some, gd_pos hok, ih, anyIdx]
      by_cases hx : q x = true
      · rw [if_pos hx, if_pos hx]
      · rw [if_neg hx, if_neg hx]; simp)
  simpa using this
theorem ContainsFunc_GItem (s : List GItem) (hs : s.length ≤ SMALL) (p : GItem → Option Bool) (q : GItem → Bool) (hp : ∀ x ∈ s, p x = some (q x)) : m_ContainsFunc_GItem s p = some (s.any q) := by
  unfold m_ContainsFunc_GItem
  rw [IndexFunc_GItem s hs p q hp, Option.bind_some, anyIdx_nonneg q s 0 (Int.le_refl _)]

theorem Index_I (s : List Int) (hs : s.length ≤ SMALL) (v : Int) : m_Index_I s v = some (anyIdx (fun x => decide (v = x)) s 0) := by
  unfold m_Index_I
  have := scan0 s (by unfold SMALL at hs; omega) (m_Index_I_l0 s v (s.length : Int) m_Index_I_k1) (fun pre suf => some (anyIdx (fun x => decide (v = x)) suf pre.length))
    (fun n => by rw [m_Index_I_l0, if_neg (by simp)]; rfl)
    (fun n pre x suf hl hg hlt hok ih => by
      rw [m_Index_I_l0, if_pos (decide_eq_true hlt), hg, Option.bind_some, gd_pos hok, ih, anyIdx]
      by_cases hx : decide (v = x) = true
      · rw [if_pos hx, if_pos hx]
      · rw [if_neg hx, if_neg hx]; simp)
  simpa using this
theorem Contains_I (s : List Int) (hs : s.length ≤ SMALL) (v : Int) : m_Contains_I s v = some (s.any (fun x => decide (v = x))) := by
  unfold m_Contains_I
  rw [Index_I s hs, Option.bind_some, anyIdx_nonneg _ s 0 (Int.le_refl _)]

/-! ### Chapter 1 -/
def datOk (l : List Int) : Bool := decide (l.length = 3) && l.all (fun x => inB x (-99) 99)
theorem spec_DatOk (l : List Int) (hl : l.length ≤ SMALL) : m_spec_DatOk l = some (datOk l) := by
  unfold m_spec_DatOk datOk
  have := scan0 l (by unfold SMALL at hl; omega) (m_spec_DatOk_l0 l m_spec_DatOk_k1) (fun _ suf => some (suf.all (fun x => inB x (-99) 99)))
    (fun n => by rw [m_spec_DatOk_l0, if_neg (by simp)]; rfl)
    (fun n pre x suf hl hg hlt hok ih => by
      rw [m_spec_DatOk_l0, if_pos (decide_eq_true hlt), hg, Option.bind_some, spec_in, Option.bind_some, gd_pos hok, ih, iteB, List.all_cons])
  rw [this]
  rw [iteB]
  congr 2
  exact decide_eq_decide.2 (by omega)
theorem impl_isDatum (n : Int) : m_impl_isDatum n = some (inB n (-99) 99) := by unfold m_impl_isDatum; rw [impl_in]; rfl
theorem all_not_any {α : Type} (l : List α) (q : α → Bool) : (!l.any (fun x => !q x)) = l.all q := by
  induction l with
  | nil => rfl
  | cons x l ih => rw [List.any_cons, List.all_cons, ← ih]; cases q x <;> simp
theorem impl_DatOk (l : List Int) (hl : l.length ≤ SMALL) : m_impl_DatOk l = some (datOk l) := by
  unfold m_impl_DatOk datOk
  rw [ContainsFunc_I l hl _ (fun n => !inB n (-99) 99) (fun x _ => by unfold m_impl_DatOk_1; rw [impl_isDatum]; rfl), Option.bind_some, all_not_any, iteB]
  congr 2
  exact decide_eq_decide.2 (by omega)
def expOk (e : GAsk) : Bool := bif decide (e.op = 0) then decide (e.var = 0) && decide (e.k = 0) else inB e.op 1 3 && inB e.var 0 2 && inB e.k (-99) 99
theorem spec_ExpOk (e : GAsk) : m_spec_ExpOk e = some (expOk e) := by
  unfold m_spec_ExpOk expOk
  simp only [spec_in, Option.bind_some, iteB]
  by_cases h : e.op = 0
  · simp [h]
  · simp [h, Bool.and_assoc]
theorem impl_ExpOk (e : GAsk) : m_impl_ExpOk e = some (expOk e) := by
  unfold m_impl_ExpOk expOk
  simp only [impl_in, impl_isDatum, Option.bind_some, iteB]
  by_cases h : e.op = 0
  · simp [h]
  · simp [h, Bool.and_assoc]

end Go.Am.Pl

end
section
/- Plain laws, chapter 2: nets. Own work. -/
set_option maxRecDepth 100000
set_option linter.unusedVariables false
set_option linter.unusedSimpArgs false
namespace Go.Am.Pl
open Go

/-- Ascending, above p, up to high. -/
def asc (high : Int) : Int → List Int → Bool
  | _, [] => true
  | p, x :: l => inB x (p + 1) high && asc high x l
def ascS (low high : Int) : Option Int → List Int → Bool
  | _, [] => true
  | p, x :: l => inB x low high && (p.all (fun y => decide (y < x)) && ascS low high (some x) l)
theorem ascS_asc (low high : Int) : ∀ (l : List Int) (p : Option Int), (∀ y, p = some y → low ≤ y) → ascS low high p l = asc high (p.getD (low - 1)) l
  | [], p, _ => rfl
  | x :: l, p, h => by
    simp only [ascS, asc]
    by_cases hx : low ≤ x
    · rw [ascS_asc low high l (some x) (fun y hy => by cases hy; exact hx), ← Bool.and_assoc]
      congr 1
      cases p with
      | none => simp [inB]
      | some y => have := h y rfl; rw [Bool.eq_iff_iff]; simp [inB]; omega
    · have h1 : inB x low high = false := by simp [inB]; omega
      have h2 : inB x (p.getD (low - 1) + 1) high = false := by
        cases p with
        | none => simp [inB]; omega
        | some y => have := h y rfl; simp [inB]; omega
      rw [h1, h2]; rfl
theorem asc_len (high : Int) : ∀ (l : List Int) (p : Int), p ≤ high → asc high p l = true → (l.length : Int) ≤ high - p
  | [], p, h, _ => by simp; omega
  | x :: l, p, h, ha => by
    simp only [asc, Bool.and_eq_true, inB, decide_eq_true_eq] at ha
    have := asc_len high l x ha.1.2 ha.2
    simp only [List.length_cons]; omega

theorem getI_last {α : Type} (pre : List α) (y : α) (suf : List α) : getI (pre ++ y :: suf) ((((pre ++ [y]).length : Nat) : Int) - 1) = some y := by
  have : ((((pre ++ [y]).length : Nat) : Int) - 1) = (pre.length : Int) := by simp
  rw [this]; exact getI_mid pre y suf

theorem spec_l2Rises (l : List Int) (least most low high : Int) (hl : l.length ≤ SMALL) : m_spec_l2Rises l least most low high = some (inB l.length least most && asc high (low - 1) l) := by
  unfold m_spec_l2Rises
  have := scan0 l (by unfold SMALL at hl; omega) (m_spec_l2Rises_l0 l low high m_spec_l2Rises_k1) (fun pre suf => some (ascS low high pre.getLast? suf))
    (fun n => by rw [m_spec_l2Rises_l0, if_neg (by simp)]; rfl)
    (fun n pre x suf hl hg hlt hok ih => by
      rw [m_spec_l2Rises_l0, if_pos (decide_eq_true hlt), hg]
      simp only [Option.bind_some, spec_in, gd_pos hok, ih]
      rw [ascS]
      by_cases hx : inB x low high = true
      · rw [if_pos hx, hx, Bool.true_and]
        rcases List.eq_nil_or_concat pre with rfl | ⟨pre', y, rfl⟩
        · simp
        · simp only [List.concat_eq_append] at hl hlt hg hok ih ⊢
          have h1 : (((pre' ++ [y]).length : Nat) : Int) = (pre'.length : Int) + 1 := by simp
          have h2 : getI l ((((pre' ++ [y]).length : Nat) : Int) - 1) = some y := by rw [hl, List.append_assoc]; exact getI_last pre' y _
          rw [if_pos (decide_eq_true (by omega)), gd_pos (by constructor <;> omega), h2]
          simp only [Option.bind_some]
          by_cases hy : x ≤ y
          · rw [if_pos (decide_eq_true hy)]; simp; omega
          · rw [if_neg (by simpa using hy)]; simp; omega
      · rw [if_neg hx, Bool.eq_false_iff.2 hx]; rfl)
  rw [this, spec_in, Option.bind_some, iteB, ascS_asc low high l _ (fun y hy => by simp at hy)]
  rfl
theorem spec_l2Has (l : List Int) (k : Int) (hl : l.length ≤ SMALL) : m_spec_l2Has l k = some (l.any (fun x => decide (x = k))) := by
  unfold m_spec_l2Has
  exact scan0 l (by unfold SMALL at hl; omega) (m_spec_l2Has_l0 l k m_spec_l2Has_k1) (fun _ suf => some (suf.any (fun x => decide (x = k))))
    (fun n => by rw [m_spec_l2Has_l0, if_neg (by simp)]; rfl)
    (fun n pre x suf hl hg hlt hok ih => by
      rw [m_spec_l2Has_l0, if_pos (decide_eq_true hlt), hg, Option.bind_some, gd_pos hok, ih, List.any_cons]
      by_cases hx : x = k <;> simp [hx])

def ascW (high : Int) (w : List Int) : Int → List Int → Bool
  | _, [] => true
  | p, x :: l => inB x (p + 1) high && (!w.any (fun y => decide (x = y)) && ascW high w x l)
theorem ascW_asc (high : Int) (w : List Int) : ∀ (l : List Int) (p : Int), ascW high w p l = (asc high p l && !l.any (fun x => w.any (fun y => decide (x = y))))
  | [], p => rfl
  | x :: l, p => by
    simp only [ascW, asc, List.any_cons, ascW_asc high w l x]
    cases inB x (p + 1) high <;> cases w.any (fun y => decide (x = y)) <;> cases asc high x l <;> cases l.any (fun x => w.any (fun y => decide (x = y))) <;> rfl

theorem impl_ascends (l : List Int) (places : Int) (w : List Int) (hl : l.length ≤ SMALL) (hw : w.length ≤ SMALL) (hp : 0 ≤ places ∧ places ≤ 100) :
    m_impl_ascends l places w = some (ascW (places - 1) w (-1) l) := by
  unfold m_impl_ascends
  have := scan l (by unfold SMALL at hl; omega) (fun n i s => m_impl_ascends_l0 l places w (l.length : Int) m_impl_ascends_k1 n i s) (fun _ suf s => some (ascW (places - 1) w s suf)) (fun _ s => -1 ≤ s ∧ s ≤ 100)
    (fun n s _ => by rw [m_impl_ascends_l0, if_neg (by simp)]; rfl)
    (fun n pre x suf s hl hg hlt hok hi ih => by
      rw [m_impl_ascends_l0, if_pos (decide_eq_true hlt), hg, Option.bind_some, gd_pos (by constructor <;> omega), gd_pos (by constructor <;> omega), impl_in, Option.bind_some, Contains_I w hw, Option.bind_some, gd_pos hok, ascW]
      by_cases hx : inB x (s + 1) (places - 1) = true
      · have hx' : s + 1 ≤ x ∧ x ≤ places - 1 := by simpa [inB] using hx
        rw [if_pos hx, hx, Bool.true_and, ih x ⟨by omega, by omega⟩, iteN]
      · rw [if_neg hx, Bool.eq_false_iff.2 hx]; rfl) FUEL (-1) ⟨by omega, by omega⟩ (by have := FUEL_ge; unfold SMALL at hl; omega)
  exact this

/-! ### Flows -/
theorem ok_len1 {α : Type} {l : List α} (h : l.length ≤ SMALL) : ok64 ((l.length : Int) - 1) := by unfold SMALL at h; constructor <;> omega
theorem ok_pl {places : Int} (hp : 0 ≤ places ∧ places ≤ 100) : ok64 (places - 1) := by constructor <;> omega
def flowsB (t : GTask) (places : Int) : List GFlow → List GFlow → Bool
  | _, [] => true
  | pre, x :: suf => inB x.to 1 (places - 1) && (expOk x.if_ && (((decide (t.split = 1) || suf.isEmpty) == decide (x.if_.op = 0)) && (!pre.any (fun y => decide (y.to = x.to)) && flowsB t places (pre ++ [x]) suf)))

theorem getI_left {α : Type} {l pre suf : List α} {k : Int} {x : α} (hl : l = pre ++ suf) (h : getI pre k = some x) : getI l k = some x := by
  obtain ⟨h0, h1, h2⟩ := getI_some h
  unfold getI; rw [if_pos h0, hl, List.getElem?_append_left h1]; exact h2

theorem spec_flows_in1 (t : GTask) (pre suf : List GFlow) (hl : t.out = pre ++ suf) (hs : t.out.length ≤ SMALL) (x : GFlow) (i : Int) (hi : i = pre.length) (kx : Option Bool) :
    m_spec_l2Flows_l1 t i x kx FUEL 0 = if (pre.any fun y => decide (y.to = x.to)) = true then some false else kx := by
  subst hi
  have hp : pre.length ≤ 4611686018427387000 := by have := congrArg List.length hl; simp at this; unfold SMALL at hs; omega
  exact scan0 pre hp (m_spec_l2Flows_l1 t pre.length x kx) (fun _ suf => if (suf.any fun y => decide (y.to = x.to)) = true then some false else kx)
    (fun n => by rw [m_spec_l2Flows_l1, if_neg (by simp)]; rfl)
    (fun n p y s hl' hg hlt hok ih => by
      rw [m_spec_l2Flows_l1, if_pos (decide_eq_true hlt), getI_left hl hg, Option.bind_some, gd_pos hok, ih, List.any_cons]
      by_cases hx : y.to = x.to <;> simp [hx])
theorem isEmpty_last {α : Type} {l pre suf : List α} {x : α} (h : l = pre ++ x :: suf) : (decide ((pre.length : Int) = (l.length : Int) - 1)) = suf.isEmpty := by
  rw [h]
  cases suf with
  | nil => simp
  | cons y s => simp; omega

theorem spec_l2Flows (t : GTask) (places : Int) (hs : t.out.length ≤ SMALL) (hp : 0 ≤ places ∧ places ≤ 100) : m_spec_l2Flows t places = some (inB t.out.length 1 3 && flowsB t places [] t.out) := by
  unfold m_spec_l2Flows
  have := scan0 t.out (by unfold SMALL at hs; omega) (m_spec_l2Flows_l0 t places m_spec_l2Flows_k3) (fun pre suf => some (flowsB t places pre suf))
    (fun n => by rw [m_spec_l2Flows_l0, if_neg (by simp)]; rfl)
    (fun n pre x suf hl hg hlt hok ih => by
      rw [m_spec_l2Flows_l0, if_pos (decide_eq_true hlt), hg, Option.bind_some, gd_pos (ok_len1 hs), isEmpty_last hl, flowsB]
      simp only [gd_pos (ok_pl hp), spec_in, spec_ExpOk, Option.bind_some, spec_flows_in1 t pre _ hl hs x _ rfl, m_spec_l2Flows_k1, m_spec_l2Flows_k2, gd_pos hok, ih]
      cases suf.isEmpty <;> cases inB x.to 1 (places - 1) <;> cases expOk x.if_ <;> cases decide (x.if_.op = 0) <;> cases decide (t.split = 1) <;> cases (pre.any fun y => decide (y.to = x.to)) <;> simp)
  rw [this, spec_in, Option.bind_some, iteB]

theorem impl_outOk (t : GTask) (places : Int) (hs : t.out.length ≤ SMALL) (hp : 0 ≤ places ∧ places ≤ 100) : m_impl_NetTask_outOk t places = some (flowsB t places [] t.out && inB t.out.length 1 3) := by
  unfold m_impl_NetTask_outOk
  have := scan t.out (by unfold SMALL at hs; omega) (fun n i s => m_impl_NetTask_outOk_l0 t places t.out (t.out.length : Int) (m_impl_NetTask_outOk_k1 t) n i s) (fun pre suf _ => some (flowsB t places pre suf && inB t.out.length 1 3)) (fun pre s => ∀ k, k ∈ s ↔ k = 0 ∨ ∃ y ∈ pre, y.to = k)
    (fun n s _ => by rw [m_impl_NetTask_outOk_l0, if_neg (by simp), m_impl_NetTask_outOk_k1, impl_in]; rfl)
    (fun n pre x suf s hl hg hlt hok hi ih => by
      have ih' := ih (insKey s x.to) (by
        intro k
        simp only [List.mem_append, List.mem_singleton]
        unfold insKey
        split
        · rename_i hin
          rw [hi k]
          constructor
          · rintro (h | ⟨y, hy, h⟩)
            · exact .inl h
            · exact .inr ⟨y, .inl hy, h⟩
          · rintro (h | ⟨y, hy | hy, h⟩)
            · exact .inl h
            · exact .inr ⟨y, hy, h⟩
            · subst hy; rw [← h]; exact (hi _).1 hin
        · rw [List.mem_append, List.mem_singleton, hi k]
          constructor
          · rintro ((h | ⟨y, hy, h⟩) | h)
            · exact .inl h
            · exact .inr ⟨y, .inl hy, h⟩
            · exact .inr ⟨x, .inr rfl, h.symm⟩
          · rintro (h | ⟨y, hy | hy, h⟩)
            · exact .inl (.inl h)
            · exact .inl (.inr ⟨y, hy, h⟩)
            · subst hy; exact .inr h.symm)
      rw [m_impl_NetTask_outOk_l0, if_pos (decide_eq_true hlt), hg, Option.bind_some, isEmpty_last hl, flowsB]
      simp only [gd_pos (ok_len1 hs), gd_pos (ok_pl hp), impl_in, impl_ExpOk, Option.bind_some, gd_pos hok, ih']
      have hin : (decide (x.to ∈ s)) = (decide (x.to = 0) || pre.any fun y => decide (y.to = x.to)) := by
        rw [Bool.eq_iff_iff]; simp [hi x.to]
      rw [hin]
      have h01 : inB x.to 0 (places - 1) = (inB x.to 1 (places - 1) || (decide (x.to = 0) && decide (0 ≤ places - 1))) := by rw [Bool.eq_iff_iff]; simp [inB]; omega
      have h02 : x.to = 0 → inB x.to 1 (places - 1) = false := by intro h; simp [inB, h]
      rw [h01]
      by_cases hz : x.to = 0
      · rw [h02 hz]; simp [hz]
      · simp only [hz, decide_false, Bool.false_and, Bool.or_false, Bool.false_or]
        cases suf.isEmpty <;> cases inB x.to 1 (places - 1) <;> cases expOk x.if_ <;> cases decide (x.if_.op = 0) <;> by_cases hsp : t.split = 1 <;> cases (pre.any fun y => decide (y.to = x.to)) <;> simp [hsp]) FUEL (insKey [] 0) (by intro k; simp [insKey]) (by have := FUEL_ge; unfold SMALL at hs; omega)
  exact this

/-! ### Tasks, nets -/
def taskB (t : GTask) (places tasks : Int) : Bool :=
  inB t.join 1 3 && (inB t.split 1 3 && ((inB t.in_.length 1 3 && asc (places - 1) (-1) t.in_) && (!t.in_.any (fun x => decide (x = 1)) && ((inB t.out.length 1 3 && flowsB t places [] t.out) &&
    ((inB t.clear.length 0 places && asc (places - 1) 1 t.clear) && (inB t.role 1 3 && (inB t.apart (-1) (tasks - 1) && (inB t.all 1 3 && inB t.need 1 t.all))))))))
end Go.Am.Pl
namespace Go.Am
def GTask.small (t : GTask) : Prop := t.in_.length ≤ SMALL ∧ t.out.length ≤ SMALL ∧ t.clear.length ≤ SMALL
end Go.Am
namespace Go.Am.Pl
theorem spec_l2Task (t : GTask) (places tasks : Int) (hs : t.small) (hp : 0 ≤ places ∧ places ≤ 100) (ht : 0 ≤ tasks ∧ tasks ≤ SMALL) : m_spec_l2Task t places tasks = some (taskB t places tasks) := by
  obtain ⟨h1, h2, h3⟩ := hs
  unfold m_spec_l2Task taskB
  have ht' : ok64 (tasks - 1) := by unfold SMALL at ht; constructor <;> omega
  simp only [spec_in, Option.bind_some, gd_pos (ok_pl hp), gd_pos ht', spec_l2Rises _ _ _ _ _ h1, spec_l2Rises _ _ _ _ _ h3, spec_l2Has _ _ h1, spec_l2Flows t places h2 hp, iteB, iteN]
  rfl
theorem clear_eq (places : Int) (hp : 0 ≤ places) (l : List Int) : ascW (places - 1) [0, 1] (-1) l = (inB l.length 0 places && asc (places - 1) 1 l) := by
  rw [ascW_asc]
  have key : ∀ (l : List Int) (p : Int), 1 ≤ p → (asc (places - 1) p l && !l.any (fun x => [0, 1].any (fun y => decide (x = y)))) = asc (places - 1) p l := by
    intro l
    induction l with
    | nil => intro p _; rfl
    | cons x l ih =>
      intro p hp'
      by_cases hx : inB x (p + 1) (places - 1) = true
      · have hx' : p + 1 ≤ x := by simp [inB] at hx; omega
        have h01 : ([0, 1].any fun y => decide (x = y)) = false := by simp; omega
        simp only [asc, hx, Bool.true_and, List.any_cons (l := l), h01, Bool.false_or]
        exact ih x (by omega)
      · simp only [asc, Bool.eq_false_iff.2 hx, Bool.false_and]
  cases l with
  | nil => simp [asc, inB]; exact hp
  | cons x l =>
    by_cases hx : inB x 2 (places - 1) = true
    · have hx' : 2 ≤ x ∧ x ≤ places - 1 := by simpa [inB] using hx
      have h01 : ([0, 1].any fun y => decide (x = y)) = false := by simp; omega
      have h1 : inB x (-1 + 1) (places - 1) = true := by simp [inB]; omega
      have h2 : inB x (1 + 1) (places - 1) = true := by simp [inB]; omega
      simp only [asc, h1, h2, Bool.true_and, List.any_cons (l := l), h01, Bool.false_or, key l x (by omega)]
      cases ha : asc (places - 1) x l with
      | false => simp
      | true =>
        have := asc_len (places - 1) l x (by omega) ha
        simp [inB]; omega
    · have h2 : inB x (1 + 1) (places - 1) = false := Bool.eq_false_iff.2 hx
      simp only [asc, h2, Bool.false_and, Bool.and_false]
      by_cases h1 : inB x (-1 + 1) (places - 1) = true
      · have h01 : ([0, 1].any fun y => decide (x = y)) = true := by simp [inB] at hx h1 ⊢; omega
        simp only [List.any_cons (l := l), h01, Bool.true_or, Bool.not_true, Bool.and_false]
      · rw [Bool.eq_false_iff.2 h1]; rfl
theorem in_eq (places : Int) (l : List Int) : ascW (places - 1) [1] (-1) l = (asc (places - 1) (-1) l && !l.any (fun x => decide (x = 1))) := by
  rw [ascW_asc]; simp
theorem impl_ok (t : GTask) (places tasks : Int) (hs : t.small) (hp : 0 ≤ places ∧ places ≤ 100) (ht : 0 ≤ tasks ∧ tasks ≤ SMALL) : m_impl_NetTask_ok t places tasks = some (taskB t places tasks) := by
  obtain ⟨h1, h2, h3⟩ := hs
  unfold m_impl_NetTask_ok taskB
  have ht' : ok64 (tasks - 1) := by unfold SMALL at ht; constructor <;> omega
  simp only [m_impl_isKind, m_impl_isRole, impl_in, Option.bind_some, gd_pos ht', impl_ascends _ _ [1] h1 (by unfold SMALL; decide) hp, impl_ascends _ _ [0, 1] h3 (by unfold SMALL; decide) hp, impl_outOk t places h2 hp, iteB, in_eq, clear_eq places hp.1]
  congr 1
  generalize inB t.join 1 3 = a; generalize inB t.split 1 3 = b; generalize inB t.in_.length 1 3 = c; generalize asc (places - 1) (-1) t.in_ = d; generalize t.in_.any (fun x => decide (x = 1)) = e
  generalize flowsB t places [] t.out = f; generalize inB t.out.length 1 3 = g; generalize (inB t.clear.length 0 places && asc (places - 1) 1 t.clear) = h
  cases a <;> cases b <;> cases c <;> cases d <;> cases e <;> cases f <;> cases g <;> simp

def netB (n : GNet) : Bool := inB n.places 2 8 && (inB n.tasks.length 1 6 && n.tasks.all (fun t => taskB t n.places n.tasks.length))
end Go.Am.Pl
namespace Go.Am
def GNet.small (n : GNet) : Prop := n.tasks.length ≤ SMALL ∧ ∀ t ∈ n.tasks, t.small
end Go.Am
namespace Go.Am.Pl
theorem spec_NetOk (n : GNet) (hs : n.small) : m_spec_NetOk n = some (netB n) := by
  unfold m_spec_NetOk netB
  simp only [spec_in, Option.bind_some]
  by_cases hp : inB n.places 2 8 = true
  · have hp' : 0 ≤ n.places ∧ n.places ≤ 100 := by simp [inB] at hp; omega
    have := scan0 n.tasks (by have := hs.1; unfold SMALL at this; omega) (m_spec_NetOk_l0 n m_spec_NetOk_k1) (fun _ suf => some (suf.all (fun t => taskB t n.places n.tasks.length)))
      (fun k => by rw [m_spec_NetOk_l0, if_neg (by simp)]; rfl)
      (fun k pre x suf hl hg hlt hok ih => by
        rw [m_spec_NetOk_l0, if_pos (decide_eq_true hlt), hg, Option.bind_some, spec_l2Task x _ _ (hs.2 x (by rw [hl]; simp)) hp' ⟨by omega, by exact_mod_cast hs.1⟩, Option.bind_some, gd_pos hok, ih, iteB, List.all_cons])
    rw [this, if_pos hp, hp, iteB, Bool.true_and]
  · rw [if_neg hp, Bool.eq_false_iff.2 hp]; rfl
theorem impl_NetOk (n : GNet) (hs : n.small) : m_impl_NetOk n = some (netB n) := by
  unfold m_impl_NetOk netB m_impl_sizesOk
  simp only [impl_in, Option.bind_some, iteB]
  by_cases hp : inB n.places 2 8 = true
  · have hp' : 0 ≤ n.places ∧ n.places ≤ 100 := by simp [inB] at hp; omega
    rw [ContainsFunc_GTask n.tasks hs.1 _ (fun t => !taskB t n.places n.tasks.length) (fun t ht => by
      unfold m_impl_NetOk_1; rw [impl_ok t _ _ (hs.2 t ht) hp' ⟨by omega, by exact_mod_cast hs.1⟩]; rfl), Option.bind_some, all_not_any, iteB, hp]
    rfl
  · rw [Bool.eq_false_iff.2 hp]; rfl

end Go.Am.Pl

end
section
/- Plain laws, chapters 3, 5, 6, 7, 9: what is in order. Own work. -/
set_option maxRecDepth 100000
set_option linter.unusedVariables false
set_option linter.unusedSimpArgs false
namespace Go.Am.Pl
open Go

deriving instance Inhabited for GAsk, GFlow, GTask, GNet, GItem, GDid, GCase, GNode, GRun, GHouse, GReq

theorem getI_ok {α : Type} (l : List α) {i : Int} (h0 : 0 ≤ i) (h1 : i < l.length) : ∃ x, getI l i = some x ∧ x ∈ l := by
  obtain ⟨n, rfl⟩ := Int.eq_ofNat_of_zero_le h0
  have hn : n < l.length := by omega
  exact ⟨l[n], by rw [getI_nat, List.getElem?_eq_getElem hn], List.getElem_mem hn⟩
/-- The element, of a list that has it. -/
def atI {α : Type} [Inhabited α] (l : List α) (i : Int) : α := (getI l i).getD default
theorem getI_at {α : Type} [Inhabited α] (l : List α) {i : Int} (h0 : 0 ≤ i) (h1 : i < l.length) : getI l i = some (atI l i) := by
  obtain ⟨x, hx, _⟩ := getI_ok l h0 h1
  unfold atI; rw [hx]; rfl
theorem atI_mem {α : Type} [Inhabited α] (l : List α) {i : Int} (h0 : 0 ≤ i) (h1 : i < l.length) : atI l i ∈ l := by
  obtain ⟨x, hx, hm⟩ := getI_ok l h0 h1
  unfold atI; rw [hx]; exact hm
theorem inB_iff {n a b : Int} : inB n a b = true ↔ a ≤ n ∧ n ≤ b := by simp [inB]

def expHolds (e : GAsk) (data : List Int) : Bool :=
  expOk e && (datOk data && (bif decide (e.op = 1) then decide (atI data e.var < e.k) else bif decide (e.op = 2) then decide (atI data e.var = e.k) else bif decide (e.op = 3) then decide (e.k < atI data e.var) else true))
theorem expOk_var {e : GAsk} {data : List Int} (h : expOk e = true) (hd : datOk data = true) : e.op = 0 ∨ getI data e.var = some (atI data e.var) := by
  by_cases h0 : e.op = 0
  · exact .inl h0
  · right
    simp [expOk, h0, inB] at h
    simp [datOk] at hd
    exact getI_at data (by omega) (by omega)
theorem spec_ExpHolds (e : GAsk) (data : List Int) (hl : data.length ≤ SMALL) : m_spec_ExpHolds e data = some (expHolds e data) := by
  unfold m_spec_ExpHolds expHolds
  rw [spec_ExpOk, Option.bind_some, spec_DatOk data hl]
  by_cases h1 : expOk e = true
  · by_cases h2 : datOk data = true
    · rcases expOk_var h1 h2 with h | h
      · simp [h1, h2, h]
      · rw [if_pos h1, Option.bind_some, if_pos h2, h1, h2, h]
        by_cases a : e.op = 1 <;> by_cases b : e.op = 2 <;> by_cases c : e.op = 3 <;> simp [a, b, c]
    · simp [h1, Bool.eq_false_iff.2 h2]
  · simp [Bool.eq_false_iff.2 h1]
theorem impl_ExpHolds (e : GAsk) (data : List Int) (hl : data.length ≤ SMALL) : m_impl_ExpHolds e data = some (expHolds e data) := by
  unfold m_impl_ExpHolds expHolds
  rw [impl_ExpOk, Option.bind_some, impl_DatOk data hl]
  by_cases h1 : expOk e = true
  · by_cases h2 : datOk data = true
    · rcases expOk_var h1 h2 with h | h
      · simp [h1, h2, h]
      · rw [if_pos h1, Option.bind_some, if_pos h2, h1, h2, h]
        by_cases a : e.op = 1 <;> by_cases b : e.op = 2 <;> by_cases c : e.op = 3 <;> simp [a, b, c]
    · simp [h1, Bool.eq_false_iff.2 h2]
  · simp [Bool.eq_false_iff.2 h1]

/-! ### Marks, people, work -/
def marksB (n : GNet) (m : List Int) : Bool := decide ((m.length : Int) = n.places) && m.all (fun x => inB x 0 4)
def mrkB (n : GNet) (m : List Int) : Bool := netB n && marksB n m
theorem spec_MrkOk (n : GNet) (m : List Int) (hn : n.small) (hm : m.length ≤ SMALL) : m_spec_MrkOk n m = some (mrkB n m) := by
  unfold m_spec_MrkOk mrkB marksB
  have := scan0 m (by unfold SMALL at hm; omega) (m_spec_MrkOk_l0 m m_spec_MrkOk_k1) (fun _ suf => some (suf.all (fun x => inB x 0 4)))
    (fun k => by rw [m_spec_MrkOk_l0, if_neg (by simp)]; rfl)
    (fun k pre x suf hl hg hlt hok ih => by
      rw [m_spec_MrkOk_l0, if_pos (decide_eq_true hlt), hg, Option.bind_some, spec_in, Option.bind_some, gd_pos hok, ih, iteB, List.all_cons])
  rw [this, spec_NetOk n hn, Option.bind_some, iteB, iteB]
theorem impl_marksOk (n : GNet) (m : List Int) (hm : m.length ≤ SMALL) : m_impl_NetNet_marksOk n m = some (marksB n m) := by
  unfold m_impl_NetNet_marksOk marksB
  rw [ContainsFunc_I m hm _ (fun x => !inB x 0 4) (fun x _ => by unfold m_impl_NetNet_marksOk_1; rw [impl_in]; rfl), Option.bind_some, all_not_any, iteB]
theorem impl_MrkOk (n : GNet) (m : List Int) (hn : n.small) (hm : m.length ≤ SMALL) : m_impl_MrkOk n m = some (mrkB n m) := by
  unfold m_impl_MrkOk mrkB
  rw [impl_NetOk n hn, Option.bind_some, impl_marksOk n m hm, Option.bind_some, iteB]
def pplB (p : List Int) : Bool := inB p.length 1 4 && p.all (fun x => inB x 0 7)
theorem spec_PplOk (m : List Int) (hm : m.length ≤ SMALL) : m_spec_PplOk m = some (pplB m) := by
  unfold m_spec_PplOk pplB
  have := scan0 m (by unfold SMALL at hm; omega) (m_spec_PplOk_l0 m m_spec_PplOk_k1) (fun _ suf => some (suf.all (fun x => inB x 0 7)))
    (fun k => by rw [m_spec_PplOk_l0, if_neg (by simp)]; rfl)
    (fun k pre x suf hl hg hlt hok ih => by
      rw [m_spec_PplOk_l0, if_pos (decide_eq_true hlt), hg, Option.bind_some, spec_in, Option.bind_some, gd_pos hok, ih, iteB, List.all_cons])
  rw [this, spec_in, Option.bind_some, iteB]
theorem impl_PplOk (m : List Int) (hm : m.length ≤ SMALL) : m_impl_PplOk m = some (pplB m) := by
  unfold m_impl_PplOk pplB
  rw [impl_in, Option.bind_some, ContainsFunc_I m hm _ (fun x => !inB x 0 7) (fun x _ => by unfold m_impl_PplOk_1; rw [impl_in]; rfl), Option.bind_some, all_not_any, iteB]

def itemB (n : GNet) (b : GItem) : Bool := inB b.task 0 ((n.tasks.length : Int) - 1) && (inB b.who 1 4 && inB b.did 0 ((atI n.tasks b.task).need - 1))
def busyB (n : GNet) (busy : List GItem) : Bool := decide ((busy.length : Int) ≤ 6) && busy.all (itemB n)
theorem netB_need {n : GNet} (h : netB n = true) {t : GTask} (ht : t ∈ n.tasks) : 1 ≤ t.need ∧ t.need ≤ 3 := by
  simp only [netB, Bool.and_eq_true, List.all_eq_true] at h
  have := h.2.2 t ht
  simp only [taskB, Bool.and_eq_true, inB_iff] at this
  omega
theorem spec_l3Busy (n : GNet) (busy : List GItem) (hn : n.small) (hb : busy.length ≤ SMALL) (ho : netB n = true) : m_spec_l3Busy n busy = some (busyB n busy) := by
  unfold m_spec_l3Busy busyB
  have := scan0 busy (by unfold SMALL at hb; omega) (m_spec_l3Busy_l0 n busy m_spec_l3Busy_k1) (fun _ suf => some (suf.all (itemB n)))
    (fun k => by rw [m_spec_l3Busy_l0, if_neg (by simp)]; rfl)
    (fun k pre x suf hl hg hlt hok ih => by
      rw [m_spec_l3Busy_l0, if_pos (decide_eq_true hlt), hg]
      simp only [Option.bind_some, gd_pos (ok_len1 hn.1), spec_in, List.all_cons, itemB]
      by_cases h1 : inB x.task 0 ((n.tasks.length : Int) - 1) = true
      · have h1' := inB_iff.1 h1
        have hmem := atI_mem n.tasks h1'.1 (by omega)
        have hneed := netB_need ho hmem
        rw [if_pos h1, getI_at n.tasks h1'.1 (by omega), Option.bind_some, gd_pos (by constructor <;> omega), gd_pos hok, ih, h1]
        cases inB x.who 1 4 <;> cases inB x.did 0 ((atI n.tasks x.task).need - 1) <;> simp
      · rw [if_neg h1, Bool.eq_false_iff.2 h1]; rfl)
  rw [this]
  by_cases h6 : 6 < (busy.length : Int)
  · rw [if_pos (decide_eq_true h6), decide_eq_false (by omega)]; rfl
  · rw [if_neg (by simpa using h6), decide_eq_true (by omega)]; rfl
theorem impl_busyOk (n : GNet) (busy : List GItem) (hn : n.small) (hb : busy.length ≤ SMALL) (ho : netB n = true) : m_impl_NetNet_busyOk n busy = some (busyB n busy) := by
  unfold m_impl_NetNet_busyOk busyB
  have := scan0 busy (by unfold SMALL at hb; omega) (m_impl_NetNet_busyOk_l0 n busy (busy.length : Int) (m_impl_NetNet_busyOk_k1 busy)) (fun _ suf => some (suf.all (itemB n) && decide ((busy.length : Int) ≤ 6)))
    (fun k => by rw [m_impl_NetNet_busyOk_l0, if_neg (by simp)]; rfl)
    (fun k pre x suf hl hg hlt hok ih => by
      rw [m_impl_NetNet_busyOk_l0, if_pos (decide_eq_true hlt), hg]
      simp only [m_impl_NetNet_hasTask, m_impl_isPerson, Option.bind_some, gd_pos (ok_len1 hn.1), impl_in, List.all_cons, itemB]
      by_cases h1 : inB x.task 0 ((n.tasks.length : Int) - 1) = true
      · have h1' := inB_iff.1 h1
        have hmem := atI_mem n.tasks h1'.1 (by omega)
        have hneed := netB_need ho hmem
        rw [if_pos h1, getI_at n.tasks h1'.1 (by omega), Option.bind_some, gd_pos (by constructor <;> omega), gd_pos hok, ih, h1]
        cases inB x.who 1 4 <;> cases inB x.did 0 ((atI n.tasks x.task).need - 1) <;> simp
      · rw [if_neg h1, Bool.eq_false_iff.2 h1]; rfl)
  rw [this, Bool.and_comm]

/-! ### Cases -/
def didB (n : GNet) (d : GDid) : Bool := inB d.task 0 ((n.tasks.length : Int) - 1) && inB d.who 1 4
def stateB (c : GCase) : Bool := bif decide (c.state = 1) then decide (atI c.marks 1 = 0) else decide ((c.busy.length : Int) = 0) && (decide (c.state = 2) == decide (0 < atI c.marks 1))
def casB (n : GNet) (c : GCase) : Bool := mrkB n c.marks && (busyB n c.busy && (datOk c.data && (!decide (60 < (c.did.length : Int)) && (inB c.state 1 3 && (c.did.all (didB n) && stateB c)))))
end Go.Am.Pl
namespace Go.Am
def GCase.small (c : GCase) : Prop := c.marks.length ≤ SMALL ∧ c.busy.length ≤ SMALL ∧ c.data.length ≤ SMALL ∧ c.did.length ≤ SMALL
end Go.Am
namespace Go.Am.Pl
theorem mrkB_net {n : GNet} {m : List Int} (h : mrkB n m = true) : netB n = true := by simp only [mrkB, Bool.and_eq_true] at h; exact h.1
theorem mrkB_one {n : GNet} {m : List Int} (h : mrkB n m = true) : getI m 1 = some (atI m 1) := by
  simp only [mrkB, netB, marksB, Bool.and_eq_true, inB_iff, decide_eq_true_eq] at h
  exact getI_at m (by omega) (by omega)
theorem spec_CasOk (n : GNet) (c : GCase) (hn : n.small) (hc : c.small) : m_spec_CasOk n c = some (casB n c) := by
  obtain ⟨hc1, hc2, hc3, hc4⟩ := hc
  unfold m_spec_CasOk casB
  rw [spec_MrkOk n c.marks hn hc1, Option.bind_some]
  by_cases h1 : mrkB n c.marks = true
  · have ho := mrkB_net h1
    have hk : m_spec_CasOk_k1 c = some (stateB c) := by
      unfold m_spec_CasOk_k1 stateB
      rw [mrkB_one h1]
      by_cases hs : c.state = 1
      · simp [hs]
      · by_cases hb : c.busy = [] <;> simp [hs, hb]
    have := scan0 c.did (by unfold SMALL at hc4; omega) (m_spec_CasOk_l0 n c (m_spec_CasOk_k1 c)) (fun _ suf => some (suf.all (didB n) && stateB c))
      (fun k => by rw [m_spec_CasOk_l0, if_neg (by simp), hk]; rfl)
      (fun k pre x suf hl hg hlt hok ih => by
        rw [m_spec_CasOk_l0, if_pos (decide_eq_true hlt), hg]
        simp only [Option.bind_some, gd_pos (ok_len1 hn.1), spec_in, List.all_cons, didB, gd_pos hok, ih]
        cases inB x.task 0 ((n.tasks.length : Int) - 1) <;> cases inB x.who 1 4 <;> simp)
    rw [if_pos h1, spec_l3Busy n c.busy hn hc2 ho, Option.bind_some, spec_DatOk c.data hc3, Option.bind_some, spec_in, Option.bind_some, this, h1]
    simp only [iteB, iteN]
    rfl
  · rw [if_neg h1, Bool.eq_false_iff.2 h1]; rfl
theorem impl_CasOk (n : GNet) (c : GCase) (hn : n.small) (hc : c.small) : m_impl_CasOk n c = some (casB n c) := by
  obtain ⟨hc1, hc2, hc3, hc4⟩ := hc
  unfold m_impl_CasOk casB
  rw [impl_MrkOk n c.marks hn hc1, Option.bind_some]
  by_cases h1 : mrkB n c.marks = true
  · have ho := mrkB_net h1
    have hk : m_impl_CasOk_k1 c = some (inB c.state 1 3 && stateB c) := by
      unfold m_impl_CasOk_k1 stateB
      rw [mrkB_one h1]
      by_cases hs : c.state = 1
      · simp [hs, inB]
      · by_cases hs2 : c.state = 2
        · by_cases hb : c.busy = [] <;> simp [hs2, hb, inB]
        · by_cases hs3 : c.state = 3
          · by_cases hb : c.busy = [] <;> simp [hs3, hb, inB]
          · have : inB c.state 1 3 = false := by simp [inB]; omega
            simp [hs, hs2, hs3, this]
    have := scan0 c.did (by unfold SMALL at hc4; omega) (m_impl_CasOk_l0 n c.did (c.did.length : Int) (m_impl_CasOk_k1 c)) (fun _ suf => some (suf.all (didB n) && (inB c.state 1 3 && stateB c)))
      (fun k => by rw [m_impl_CasOk_l0, if_neg (by simp), hk]; rfl)
      (fun k pre x suf hl hg hlt hok ih => by
        rw [m_impl_CasOk_l0, if_pos (decide_eq_true hlt), hg]
        simp only [m_impl_NetNet_hasTask, m_impl_isPerson, Option.bind_some, gd_pos (ok_len1 hn.1), impl_in, List.all_cons, didB, gd_pos hok, ih]
        cases inB x.task 0 ((n.tasks.length : Int) - 1) <;> cases inB x.who 1 4 <;> simp)
    rw [if_pos h1, impl_busyOk n c.busy hn hc2 ho, Option.bind_some, impl_DatOk c.data hc3, Option.bind_some, this, h1]
    simp only [iteB, iteN]
    congr 1
    cases busyB n c.busy <;> cases datOk c.data <;> cases c.did.all (didB n) <;> cases inB c.state 1 3 <;> simp
  · rw [if_neg h1, Bool.eq_false_iff.2 h1]; rfl

/-! ### Bounds -/
theorem small_task {t : GTask} (h : GTask.lens (· ≤ 1048576) t) : t.small := by
  obtain ⟨a, b, c⟩ := h; unfold GTask.small SMALL; omega
theorem small_net {n : GNet} (h : GNet.lens (· ≤ 1048576) n) : n.small := ⟨by have := h.1; dsimp only at this; unfold SMALL; omega, fun t ht => small_task (h.2 t ht)⟩
theorem small_case {c : GCase} (h : GCase.lens (· ≤ 1048576) c) : c.small := by
  obtain ⟨a, b, c, d⟩ := h; unfold GCase.small SMALL; omega

end Go.Am.Pl

end
section
/- Plain laws, chapters 7 and 9: the rules' tree, the house. Own work. -/
set_option maxRecDepth 100000
set_option linter.unusedVariables false
set_option linter.unusedSimpArgs false
namespace Go.Am.Pl
open Go

def cnt1 (x : GNode) (i : Int) : Int := (if x.yes = i then 1 else 0) + (if x.no = i then 1 else 0)
def cntL (i : Int) : List GNode → Int
  | [] => 0
  | x :: l => cnt1 x i + cntL i l
theorem cnt1_le (x : GNode) (i : Int) : 0 ≤ cnt1 x i ∧ cnt1 x i ≤ 2 := by unfold cnt1; split <;> split <;> omega
theorem cntL_le (i : Int) : ∀ l : List GNode, 0 ≤ cntL i l ∧ cntL i l ≤ 2 * l.length
  | [] => by simp [cntL]
  | x :: l => by have := cntL_le i l; have := cnt1_le x i; simp only [cntL, List.length_cons]; omega
theorem cntL_snoc (i : Int) (x : GNode) : ∀ l : List GNode, cntL i (l ++ [x]) = cntL i l + cnt1 x i
  | [] => by simp [cntL]
  | y :: l => by simp only [List.cons_append, cntL, cntL_snoc i x l]; omega

theorem rdr_in1 (tree : List GNode) (i : Int) (kx : Int → Option Bool) (ht : tree.length ≤ SMALL) : m_spec_RdrOk_l1 tree i kx FUEL 0 0 = kx (cntL i tree) := by
  have := scan tree (by unfold SMALL at ht; omega) (fun n k s => m_spec_RdrOk_l1 tree i kx n s k) (fun _ suf s => kx (s + cntL i suf)) (fun pre s => 0 ≤ s ∧ s ≤ 2 * pre.length)
    (fun n s _ => by rw [m_spec_RdrOk_l1, if_neg (by simp)]; simp [cntL])
    (fun n pre x suf s hl hg hlt hok hi ih => by
      have hs : (tree.length : Int) ≤ 1000000000 := by unfold SMALL at ht; omega
      have h1 : ok64 (s + 1) := by constructor <;> omega
      have h2 : ok64 (s + 1 + 1) := by constructor <;> omega
      have hpl : (((pre ++ [x]).length : Nat) : Int) = pre.length + 1 := by simp
      rw [m_spec_RdrOk_l1, if_pos (decide_eq_true hlt), hg]
      simp only [Option.bind_some, gd_pos h1, gd_pos h2, gd_pos hok]
      rw [ih (s + 1 + 1) (by omega), ih (s + 1) (by omega), ih s (by omega)]
      simp only [cntL, cnt1]
      by_cases a : x.yes = i <;> by_cases b : x.no = i <;> simp [a, b] <;> congr 1 <;> omega) FUEL 0 (by simp) (by have := FUEL_ge; unfold SMALL at ht; omega)
  simpa using this

def okN (len i v : Int) : Bool := decide (v = -1) || inB v (i + 1) (len - 1)
def nodeB (len i : Int) (x : GNode) : Bool := expHolds x.if_ x.stone && (inB x.ans 0 2 && (okN len i x.yes && okN len i x.no))
def nodesI (len : Int) : Int → List GNode → Bool
  | _, [] => true
  | i, x :: l => nodeB len i x && nodesI len (i + 1) l
def nodesS (tree : List GNode) : Int → List GNode → Bool
  | _, [] => true
  | i, x :: l => nodeB tree.length i x && ((decide (i = 0) == decide (cntL i tree = 0)) && (!decide (1 < cntL i tree) && nodesS tree (i + 1) l))
theorem expHolds_ok {e : GAsk} {d : List Int} (h : expHolds e d = true) : expOk e = true ∧ datOk d = true := by
  simp only [expHolds, Bool.and_eq_true] at h; exact ⟨h.1, h.2.1⟩
def treeSmall (tree : List GNode) : Prop := tree.length ≤ SMALL ∧ ∀ x ∈ tree, x.stone.length ≤ SMALL

theorem spec_RdrOk_S (tree : List GNode) (ht : treeSmall tree) : m_spec_RdrOk tree = some (!decide (12 < (tree.length : Int)) && nodesS tree 0 tree) := by
  unfold m_spec_RdrOk
  have := scan0 tree (by have := ht.1; unfold SMALL at this; omega) (m_spec_RdrOk_l0 tree m_spec_RdrOk_k5) (fun pre suf => some (nodesS tree pre.length suf))
    (fun n => by rw [m_spec_RdrOk_l0, if_neg (by simp)]; rfl)
    (fun n pre x suf hl hg hlt hok ih => by
      have hx : x.stone.length ≤ SMALL := ht.2 x (by rw [hl]; simp)
      have hpl : (((pre ++ [x]).length : Nat) : Int) = pre.length + 1 := by simp
      rw [hpl] at ih
      rw [m_spec_RdrOk_l0, if_pos (decide_eq_true hlt), hg]
      simp only [Option.bind_some, gd_pos hok, gd_pos (ok_len1 ht.1), spec_ExpOk, spec_in, spec_DatOk _ hx, spec_ExpHolds _ _ hx, rdr_in1 tree _ _ ht.1,
        m_spec_RdrOk_k1, m_spec_RdrOk_k2, m_spec_RdrOk_k3, m_spec_RdrOk_k4, ih, nodesS, nodeB, okN]
      by_cases hh : expHolds x.if_ x.stone = true
      · obtain ⟨h1, h2⟩ := expHolds_ok hh
        rw [h1, h2, hh]
        simp only [if_true]
        cases inB x.ans 0 2 <;> by_cases hy : x.yes = -1 <;> by_cases hn : x.no = -1 <;> cases inB x.yes (↑pre.length + 1) (↑tree.length - 1) <;> cases inB x.no (↑pre.length + 1) (↑tree.length - 1) <;>
          cases (decide ((pre.length : Int) = 0) == decide (cntL ↑pre.length tree = 0)) <;> cases decide (1 < cntL ↑pre.length tree) <;> simp [hy, hn]
      · rw [Bool.eq_false_iff.2 hh]
        cases expOk x.if_ <;> cases inB x.ans 0 2 <;> cases datOk x.stone <;> simp)
  rw [this, iteN]
  rfl

def bump (l : List Int) (v : Int) : List Int := if v = -1 then l else l.set v.toNat (atI l v + 1)
theorem getI_set {α : Type} (l : List α) {v j : Int} (w : α) (hv : 0 ≤ v) (hj : 0 ≤ j) (hl : j < l.length) : getI (l.set v.toNat w) j = if v = j then some w else getI l j := by
  unfold getI
  rw [if_pos hj, if_pos hj, List.getElem?_set]
  by_cases h : v = j
  · subst h; simp; omega
  · rw [if_neg (by omega), if_neg h]
theorem bump_len (l : List Int) (v : Int) : (bump l v).length = l.length := by unfold bump; split <;> simp
theorem bump_get (l : List Int) {v j : Int} (hv : v = -1 ∨ 0 ≤ v) (c : Int → Int) (hc : ∀ j : Int, 0 ≤ j → j < l.length → getI l j = some (c j)) (hj : 0 ≤ j) (hl : j < l.length) : getI (bump l v) j = some (c j + if v = j then 1 else 0) := by
  unfold bump
  by_cases h : v = -1
  · rw [if_pos h, if_neg (by omega), hc j hj hl]; simp
  · rw [if_neg h, getI_set l _ (by omega) hj hl]
    by_cases he : v = j
    · subst he
      rw [if_pos rfl, if_pos rfl]
      unfold atI
      rw [hc _ hj hl]; rfl
    · rw [if_neg he, if_neg he, hc j hj hl]; simp

theorem impl_rdr_in (tree : List GNode) (i : Int) (x : GNode) (kx : List Int → Option Bool) (l : List Int) (c : Int → Int) (hl : l.length = tree.length) (hc : ∀ j : Int, 0 ≤ j → j < l.length → getI l j = some (c j))
    (hb : ∀ j, 0 ≤ c j ∧ c j ≤ 2000000000) (hi : 0 ≤ i) (hi2 : ok64 (i + 1)) (ht : tree.length ≤ SMALL) :
    m_impl_RdrOk_l1 tree i ([x.yes, x.no].length : Int) [x.yes, x.no] kx FUEL 0 l = if (okN tree.length i x.yes && okN tree.length i x.no) = true then kx (bump (bump l x.yes) x.no) else some false := by
  have one : ∀ (n : Nat) (k : Int) (v : Int) (m : List Int) (d : Int → Int), m.length = tree.length → (∀ j : Int, 0 ≤ j → j < m.length → getI m j = some (d j)) → (∀ j, 0 ≤ d j ∧ d j ≤ 2000000001) → getI [x.yes, x.no] k = some v → 0 ≤ k → k < 2 →
      m_impl_RdrOk_l1 tree i ([x.yes, x.no].length : Int) [x.yes, x.no] kx (n + 1) k m = if okN tree.length i v = true then m_impl_RdrOk_l1 tree i ([x.yes, x.no].length : Int) [x.yes, x.no] kx n (k + 1) (bump m v) else some false := by
    intro n k v m d hm hd hbd hg hk0 hk2
    have hk : ok64 (k + 1) := by constructor <;> omega
    rw [m_impl_RdrOk_l1, if_pos (by simp; omega), hg]
    simp only [Option.bind_some, gd_pos hk, gd_pos hi2, gd_pos (ok_len1 ht), impl_in]
    unfold okN bump
    by_cases hv : v = -1
    · simp [hv]
    · by_cases hin : inB v (i + 1) (tree.length - 1) = true
      · have hin' := inB_iff.1 hin
        have h1 := hd v (by omega) (by omega)
        have h2 := hbd v
        rw [if_neg (by simpa using hv), if_pos hin, h1]
        simp only [Option.bind_some, gd_pos (show ok64 (d v + 1) by constructor <;> omega)]
        rw [if_pos (by simp [hin]), if_neg hv]
        unfold atI; rw [h1]; rfl
      · rw [if_neg (by simpa using hv), if_neg hin, if_neg (by simp [hv, Bool.eq_false_iff.2 hin])]
  obtain ⟨f, hF⟩ : ∃ f, FUEL = f + 1 + 1 + 1 := ⟨FUEL - 3, by have := FUEL_ge; omega⟩
  rw [hF, one _ 0 x.yes l c hl hc (fun j => by have := hb j; omega) rfl (by omega) (by omega)]
  by_cases h1 : okN tree.length i x.yes = true
  · have hy : x.yes = -1 ∨ 0 ≤ x.yes := by simp only [okN, Bool.or_eq_true, decide_eq_true_eq, inB_iff] at h1; omega
    rw [if_pos h1, one _ (0 + 1) x.no (bump l x.yes) (fun j => c j + if x.yes = j then 1 else 0) (by rw [bump_len, hl]) (fun j hj hjl => bump_get l hy c hc hj (by rwa [bump_len] at hjl)) (fun j => by have := hb j; split <;> omega) rfl (by omega) (by omega), h1, Bool.true_and]
    by_cases h2 : okN tree.length i x.no = true
    · rw [if_pos h2, if_pos h2, m_impl_RdrOk_l1, if_neg (by simp)]
    · rw [if_neg h2, if_neg h2]
  · rw [if_neg h1, if_neg (by rw [Bool.eq_false_iff.2 h1]; simp)]

def oneB : Int → List Int → Bool
  | _, [] => true
  | i, x :: s => (!decide (0 < i) || decide (x = 1)) && oneB (i + 1) s
theorem impl_rdr_ones (tree : List GNode) (l : List Int) (hl : l.length ≤ SMALL) : m_impl_RdrOk_k2 tree l = some (oneB 0 l && decide ((tree.length : Int) ≤ 12)) := by
  unfold m_impl_RdrOk_k2
  have := scan0 l (by unfold SMALL at hl; omega) (m_impl_RdrOk_l2 l (l.length : Int) (m_impl_RdrOk_k3 tree)) (fun pre suf => some (oneB pre.length suf && decide ((tree.length : Int) ≤ 12)))
    (fun n => by rw [m_impl_RdrOk_l2, if_neg (by simp)]; rfl)
    (fun n pre x suf hl hg hlt hok ih => by
      have hpl : (((pre ++ [x]).length : Nat) : Int) = pre.length + 1 := by simp
      rw [hpl] at ih
      rw [m_impl_RdrOk_l2, if_pos (decide_eq_true hlt), hg]
      simp only [Option.bind_some, gd_pos hok, ih, oneB]
      cases decide (0 < (pre.length : Int)) <;> by_cases hx : x = 1 <;> simp [hx])
  exact this

theorem impl_RdrOk_I (tree : List GNode) (ht : treeSmall tree) : m_impl_RdrOk tree = some (nodesI tree.length 0 tree && (oneB 0 ((List.range tree.length).map fun j : Nat => cntL (j : Int) tree) && decide ((tree.length : Int) ≤ 12))) := by
  unfold m_impl_RdrOk
  have hs := ht.1
  have hs' : (tree.length : Int) ≤ 1000000000 := by unfold SMALL at hs; omega
  rw [gd_pos ⟨by omega, hs'⟩]
  have := scan tree (by unfold SMALL at hs; omega) (fun n k s => m_impl_RdrOk_l0 tree (m_impl_RdrOk_k2 tree) n tree (tree.length : Int) k s) (fun pre suf s => some (nodesI tree.length pre.length suf && (oneB 0 ((List.range tree.length).map fun j : Nat => cntL (j : Int) tree) && decide ((tree.length : Int) ≤ 12))))
    (fun pre s => s.length = tree.length ∧ ∀ j : Int, 0 ≤ j → j < s.length → getI s j = some (cntL j pre))
    (fun n s hi => by
      rw [m_impl_RdrOk_l0, if_neg (by simp), impl_rdr_ones tree s (by rw [hi.1]; exact hs)]
      have : s = (List.range tree.length).map fun j : Nat => cntL (j : Int) tree := by
        apply List.ext_getElem?
        intro j
        by_cases hj : j < s.length
        · have := hi.2 j (by omega) (by omega)
          rw [getI_nat] at this
          rw [this, List.getElem?_map, List.getElem?_range (by rw [← hi.1]; exact hj)]; rfl
        · rw [List.getElem?_eq_none (by omega), List.getElem?_eq_none (by simp; omega)]
      rw [← this]; simp [nodesI])
    (fun n pre x suf s hl hg hlt hok hi ih => by
      have hx : x.stone.length ≤ SMALL := ht.2 x (by rw [hl]; simp)
      have hpl : (((pre ++ [x]).length : Nat) : Int) = pre.length + 1 := by simp
      rw [m_impl_RdrOk_l0, if_pos (decide_eq_true hlt), hg]
      simp only [Option.bind_some, impl_ExpHolds _ _ hx, m_impl_isAnswer, impl_in, nodesI, nodeB]
      rw [impl_rdr_in tree pre.length x _ s (fun j => cntL j pre) hi.1 hi.2 (fun j => by have := cntL_le j pre; omega) (by omega) hok hs]
      by_cases hy : okN tree.length pre.length x.yes = true
      · by_cases hn : okN tree.length pre.length x.no = true
        · have hy' : x.yes = -1 ∨ 0 ≤ x.yes := by simp only [okN, Bool.or_eq_true, decide_eq_true_eq, inB_iff] at hy; omega
          have hn' : x.no = -1 ∨ 0 ≤ x.no := by simp only [okN, Bool.or_eq_true, decide_eq_true_eq, inB_iff] at hn; omega
          have h3 := ih (bump (bump s x.yes) x.no) ⟨by rw [bump_len, bump_len, hi.1], fun j hj hjl => by
            rw [bump_get (bump s x.yes) hn' (fun j => cntL j pre + if x.yes = j then 1 else 0) (fun j hj hjl => bump_get s hy' _ hi.2 hj (by rwa [bump_len] at hjl)) hj (by rwa [bump_len] at hjl), cntL_snoc, cnt1]
            congr 1; omega⟩
          rw [hpl] at h3
          rw [hy, hn, m_impl_RdrOk_k1, gd_pos hok, h3]
          cases expHolds x.if_ x.stone <;> cases inB x.ans 0 2 <;> simp
        · rw [Bool.eq_false_iff.2 hn]; cases expHolds x.if_ x.stone <;> cases inB x.ans 0 2 <;> simp
      · rw [Bool.eq_false_iff.2 hy]; cases expHolds x.if_ x.stone <;> cases inB x.ans 0 2 <;> simp) FUEL (List.replicate (tree.length : Int).toNat 0)
      ⟨by simp, fun j hj hjl => by
        obtain ⟨k, rfl⟩ := Int.eq_ofNat_of_zero_le hj
        rw [getI_nat, List.getElem?_replicate, if_pos (by simpa using hjl)]; rfl⟩ (by have := FUEL_ge; unfold SMALL at hs; omega)
  simpa using this

def rdrB (tree : List GNode) : Bool := nodesI tree.length 0 tree && (oneB 0 ((List.range tree.length).map fun j : Nat => cntL (j : Int) tree) && decide ((tree.length : Int) ≤ 12))
theorem oneB_iff (f : Int → Int) : ∀ (n : Nat) (i : Nat), oneB i ((List.range' i n).map fun j : Nat => f (j : Int)) = true ↔ ∀ j : Nat, i ≤ j → j < i + n → 0 < j → f j = 1
  | 0, i => by simp [oneB]; omega
  | n + 1, i => by
    rw [List.range'_succ, List.map_cons, oneB, Bool.and_eq_true]
    have := oneB_iff f n (i + 1)
    rw [show (((i + 1 : Nat)) : Int) = (i : Int) + 1 by omega] at this
    rw [this]
    constructor
    · rintro ⟨h1, h2⟩ j hj hj2 h0
      by_cases h : j = i
      · subst h
        have : 0 < (j : Int) := by omega
        rw [decide_eq_true this] at h1; simpa using h1
      · exact h2 j (by omega) (by omega) h0
    · intro h
      refine ⟨?_, fun j hj hj2 h0 => h j (by omega) (by omega) h0⟩
      by_cases h0 : 0 < i
      · simp [h i (by omega) (by omega) h0]
      · simp; omega
theorem nodesI_edges (len : Int) : ∀ (l : List GNode) (i : Int), 0 ≤ i → nodesI len i l = true → cntL 0 l = 0
  | [], _, _, _ => rfl
  | x :: l, i, hi, h => by
    simp only [nodesI, nodeB, okN, Bool.and_eq_true, Bool.or_eq_true, decide_eq_true_eq, inB_iff] at h
    have := nodesI_edges len l (i + 1) (by omega) h.2
    simp only [cntL, cnt1, this]
    rw [if_neg (by omega), if_neg (by omega)]; rfl
theorem nodesS_iff (tree : List GNode) : ∀ (l : List GNode) (i : Nat), nodesS tree i l = true ↔ nodesI tree.length i l = true ∧ ∀ j : Nat, i ≤ j → j < i + l.length → ((j = 0 ↔ cntL j tree = 0) ∧ cntL j tree ≤ 1)
  | [], i => by simp [nodesS, nodesI]; omega
  | x :: l, i => by
    have ih := nodesS_iff tree l (i + 1)
    rw [show (((i + 1 : Nat)) : Int) = (i : Int) + 1 by omega] at ih
    simp only [nodesS, nodesI, Bool.and_eq_true, ih, List.length_cons]
    constructor
    · rintro ⟨h1, h2, h3, h4, h5⟩
      refine ⟨⟨h1, h4⟩, fun j hj hj2 => ?_⟩
      by_cases h : j = i
      · subst h
        simp at h2 h3
        exact ⟨by rw [← h2], by omega⟩
      · exact h5 j (by omega) (by omega)
    · rintro ⟨⟨h1, h4⟩, h5⟩
      obtain ⟨h6, h7⟩ := h5 i (by omega) (by omega)
      refine ⟨h1, ?_, ?_, h4, fun j hj hj2 => h5 j (by omega) (by omega)⟩
      · simp [← h6]
      · simp; omega
theorem rdr_eq (tree : List GNode) : (!decide (12 < (tree.length : Int)) && nodesS tree 0 tree) = rdrB tree := by
  rw [Bool.eq_iff_iff]
  have h1 := nodesS_iff tree tree 0
  have h2 := oneB_iff (fun j => cntL j tree) tree.length 0
  rw [show ((0 : Nat) : Int) = 0 from rfl] at h1 h2
  rw [← List.range_eq_range'] at h2
  simp only [rdrB, Bool.and_eq_true, h1, h2, Bool.not_eq_true', decide_eq_false_iff_not, decide_eq_true_eq]
  constructor
  · rintro ⟨a, b, c⟩
    refine ⟨b, fun j hj hj2 h0 => ?_, by omega⟩
    have := c j hj hj2
    have := (cntL_le j tree).1
    omega
  · rintro ⟨b, c, a⟩
    refine ⟨by omega, b, fun j hj hj2 => ?_⟩
    by_cases h0 : j = 0
    · subst h0
      have := nodesI_edges _ tree 0 (by omega) b
      simp [this]
    · have := c j hj hj2 (by omega)
      omega
theorem spec_RdrOk (tree : List GNode) (ht : treeSmall tree) : m_spec_RdrOk tree = some (rdrB tree) := by rw [spec_RdrOk_S tree ht, rdr_eq]
theorem impl_RdrOk (tree : List GNode) (ht : treeSmall tree) : m_impl_RdrOk tree = some (rdrB tree) := impl_RdrOk_I tree ht

end Go.Am.Pl

end
section
/- Plain laws: copies; cases that are stopped. Own work. -/
set_option maxRecDepth 100000
set_option linter.unusedVariables false
set_option linter.unusedSimpArgs false
namespace Go.Am.Pl
open Go

theorem impl_cloneInts (l : List Int) (h : l.length ≤ SMALL) : m_impl_cloneInts l = some l := by unfold m_impl_cloneInts; rw [gd_pos (by simpa using h)]; rfl
theorem spec_l6Copy (c : GCase) (h : c.small) : m_spec_l6Copy c = some c := by
  obtain ⟨h1, h2, h3, h4⟩ := h
  unfold m_spec_l6Copy
  simp [gd, h1, h2, h3, h4]
theorem impl_CasClone (c : GCase) (h : c.small) : m_impl_CasCase_clone c = some c := by
  obtain ⟨h1, h2, h3, h4⟩ := h
  unfold m_impl_CasCase_clone
  simp [gd, impl_cloneInts, h1, h2, h3, h4]
def stopB (n : GNet) (c : GCase) : GCase × Bool := bif casB n c && decide (c.state = 1) then (GCase.mk 3 c.marks [] c.data c.did, true) else (c, false)
theorem spec_CasStop (n : GNet) (c : GCase) (hn : n.small) (hc : c.small) : m_spec_CasStop n c = some (stopB n c) := by
  unfold m_spec_CasStop stopB
  simp only [spec_l6Copy c hc, spec_CasOk n c hn hc, Option.bind_some]
  cases casB n c <;> by_cases hs : c.state = 1 <;> simp [hs]
theorem impl_running (n : GNet) (c : GCase) (hn : n.small) (hc : c.small) : m_impl_running n c = some (casB n c && decide (c.state = 1)) := by
  unfold m_impl_running
  simp only [impl_CasOk n c hn hc, Option.bind_some]
  cases casB n c <;> by_cases hs : c.state = 1 <;> simp [hs]
theorem impl_CasStop (n : GNet) (c : GCase) (hn : n.small) (hc : c.small) : m_impl_CasStop n c = some (stopB n c) := by
  unfold m_impl_CasStop stopB
  simp only [impl_CasClone c hc, impl_running n c hn hc, Option.bind_some]
  cases casB n c <;> by_cases hs : c.state = 1 <;> simp [hs]

end Go.Am.Pl

end
section
/- Plain laws: the laws' marks: what mark* writes, held* finds. Own work. -/
set_option maxRecDepth 100000
set_option maxHeartbeats 1000000
set_option linter.unusedVariables false
set_option linter.unusedSimpArgs false
namespace Go.Am.Pl
open Go

def BIG : Int := 4000000000000000000
theorem set_mid {α : Type} (pre : List α) (x y : α) (suf : List α) : (pre ++ x :: suf).set (pre.length : Int).toNat y = pre ++ y :: suf := by simp
theorem ok_big {k : Int} (h0 : 0 ≤ k) (h1 : k ≤ BIG) : ok64 k := by unfold BIG at h1; constructor <;> omega

/-- How many numbers a list takes; the list with its numbers. -/
def cntS {α : Type} (cnt : α → Nat) : List α → Nat
  | [] => 0
  | x :: l => cnt x + cntS cnt l
def numS {α : Type} (cnt : α → Nat) (num : α → Int → α) : List α → Int → List α
  | [], _ => []
  | x :: l, k => num x k :: numS cnt num l (k + cnt x)

theorem mark_scan {α : Type} (cnt : α → Nat) (num : α → Int → α) (f : Nat → Int → Int → List α → Option (Int × List α)) (ok : α → Prop)
    (h0 : ∀ n k l, f (n + 1) k (l.length : Int) l = some (k, l))
    (h1 : ∀ n k pre x suf, ok x → 0 ≤ k → k + cnt x ≤ BIG → ok64 ((pre.length : Int) + 1) → f (n + 1) k (pre.length : Int) (pre ++ x :: suf) = f n (k + cnt x) ((pre.length : Int) + 1) (pre ++ num x k :: suf)) :
    ∀ (a : List α) (k : Int), (∀ x ∈ a, ok x) → a.length ≤ SMALL → 0 ≤ k → k + cntS cnt a ≤ BIG → f FUEL k 0 a = some (k + cntS cnt a, numS cnt num a k) := by
  have key : ∀ (suf pre : List α) (n : Nat) (k : Int), (∀ x ∈ suf, ok x) → pre.length + suf.length ≤ SMALL → 0 ≤ k → k + cntS cnt suf ≤ BIG → suf.length < n →
      f n k (pre.length : Int) (pre ++ suf) = some (k + cntS cnt suf, pre ++ numS cnt num suf k) := by
    intro suf
    induction suf with
    | nil =>
      intro pre n k _ _ _ _ hn
      obtain ⟨m, rfl⟩ : ∃ m, n = m + 1 := ⟨n - 1, by omega⟩
      simp only [List.append_nil, h0, cntS, numS]; simp
    | cons x suf ih =>
      intro pre n k hok hl hk hb hn
      obtain ⟨m, rfl⟩ : ∃ m, n = m + 1 := ⟨n - 1, by omega⟩
      simp only [cntS, List.length_cons] at hb hl hn
      have hb' : k + cnt x + cntS cnt suf ≤ BIG := by omega
      rw [h1 m k pre x suf (hok x (by simp)) hk (by omega) (by unfold SMALL at hl; constructor <;> omega)]
      have := ih (pre ++ [num x k]) m (k + cnt x) (fun y hy => hok y (by simp [hy])) (by simp; omega) (by omega) hb' (by omega)
      simp only [List.append_assoc, List.singleton_append, List.length_append, List.length_singleton] at this
      rw [show (((pre.length + 1 : Nat)) : Int) = (pre.length : Int) + 1 by omega] at this
      rw [this]
      simp only [cntS, numS]
      congr 2; omega
  intro a k hok hl hk hb
  have := key a [] FUEL k hok (by simpa using hl) hk hb (by have := FUEL_ge; unfold SMALL at hl; omega)
  simpa using this

theorem held_scan {α : Type} (cnt : α → Nat) (num : α → Int → α) (a : List α) (ka : Int) (f : Nat → Int → Int → Option Int)
    (h0 : ∀ n k, f (n + 1) k ((numS cnt num a ka).length : Int) = some k)
    (h1 : ∀ n k i x, getI (numS cnt num a ka) i = some (num x k) → x ∈ a → i < ((numS cnt num a ka).length : Int) → 0 ≤ k → k + cnt x ≤ BIG → ok64 (i + 1) → f (n + 1) k i = f n (k + cnt x) (i + 1))
    (hl : a.length ≤ SMALL) (hk : 0 ≤ ka) (hb : ka + cntS cnt a ≤ BIG) : f FUEL ka 0 = some (ka + cntS cnt a) := by
  have hlen : ∀ (l : List α) (k : Int), (numS cnt num l k).length = l.length := by intro l; induction l with
    | nil => intro k; rfl
    | cons x l ih => intro k; simp [numS, ih]
  have key : ∀ (suf : List α) (pre : List α) (n : Nat) (k : Int), (∀ x ∈ suf, x ∈ a) → numS cnt num a ka = pre ++ numS cnt num suf k → 0 ≤ k → k + cntS cnt suf ≤ BIG → suf.length < n → f n k (pre.length : Int) = some (k + cntS cnt suf) := by
    intro suf
    induction suf with
    | nil =>
      intro pre n k _ he _ _ hn
      obtain ⟨m, rfl⟩ : ∃ m, n = m + 1 := ⟨n - 1, by omega⟩
      have := h0 m k
      rw [he] at this
      simpa [numS, cntS] using this
    | cons x suf ih =>
      intro pre n k hmem he hk hb hn
      obtain ⟨m, rfl⟩ : ∃ m, n = m + 1 := ⟨n - 1, by omega⟩
      simp only [cntS, List.length_cons] at hb hn
      have hL : (numS cnt num a ka).length = pre.length + (numS cnt num suf (k + cnt x)).length + 1 := by rw [he]; simp [numS]; omega
      have hL2 : pre.length + 1 ≤ SMALL := by rw [hlen] at hL; omega
      rw [h1 m k pre.length x (by rw [he, numS]; exact getI_mid _ _ _) (hmem x (by simp)) (by omega) hk (by omega) (by unfold SMALL at hL2; constructor <;> omega)]
      have := ih (pre ++ [num x k]) m (k + cnt x) (fun y hy => hmem y (by simp [hy])) (by rw [he, numS]; simp) (by omega) (by omega) (by omega)
      simp only [List.length_append, List.length_singleton] at this
      rw [show (((pre.length + 1 : Nat)) : Int) = (pre.length : Int) + 1 by omega] at this
      rw [this]; simp only [cntS]; congr 1; omega
  exact key a [] FUEL ka (fun x h => h) (by simp) hk hb (by have := FUEL_ge; unfold SMALL at hl; omega)

def cI1 : Int → Nat := fun _ => 1
def nI1 : Int → Int → Int := fun _ k => k
theorem mark_IntS (a : List Int) (k : Int) (hl : a.length ≤ SMALL) (hk : 0 ≤ k) (hb : k + cntS cI1 a ≤ BIG) : m_markIntS a k = some (k + cntS cI1 a, numS cI1 nI1 a k) := by
  unfold m_markIntS
  refine mark_scan cI1 nI1 (m_markIntS_l0 m_markIntS_k1) (fun _ => True) (fun n k l => ?_) (fun n k pre x suf _ h0 h1 h2 => ?_) a k (fun _ _ => trivial) hl hk hb
  · rw [m_markIntS_l0, if_neg (by simp)]; rfl
  · rw [m_markIntS_l0, if_pos (by simp; omega), getI_mid, Option.bind_some, gd_pos (ok_big (by omega) (by simpa [cI1] using h1)), gd_pos h2, set_mid]; rfl
theorem held_IntS (a : List Int) (k : Int) (hl : a.length ≤ SMALL) (hk : 0 ≤ k) (hb : k + cntS cI1 a ≤ BIG) : m_heldIntS (numS cI1 nI1 a k) k = some (k + cntS cI1 a) := by
  unfold m_heldIntS
  refine held_scan cI1 nI1 a k (m_heldIntS_l0 _ m_heldIntS_k1) (fun n k => ?_) (fun n k i x hg hm hi h0 h1 h2 => ?_) hl hk hb
  · rw [m_heldIntS_l0, if_neg (by simp)]; rfl
  · rw [m_heldIntS_l0, if_pos (decide_eq_true hi), hg, Option.bind_some, if_pos (by simp [nI1]), gd_pos (ok_big (by omega) (by simpa [cI1] using h1)), gd_pos h2]; rfl

end Go.Am.Pl

end
section
/- Plain laws: marks of the struct types. Printed by marks.py. Own work. -/
set_option maxRecDepth 100000
set_option maxHeartbeats 2000000
set_option linter.unusedVariables false
set_option linter.unusedSimpArgs false
namespace Go.Am.Pl
open Go
theorem gd_ok {v : Int} {α : Type} {x : Option α} (h0 : 0 ≤ v) (h1 : v ≤ BIG) : gd (ok64 v) x = x := gd_pos (ok_big h0 h1)
theorem ng_ok {v : Int} {α : Type} {x y : Option α} (h0 : 0 ≤ v) : (if decide (v < 0) = true then x else y) = y := if_neg (by simp; omega)

def okGItem (x : GItem) : Prop := True
def cGItem (x : GItem) : Nat := 1 + 1 + 1
def nGItem (x : GItem) (k : Int) : GItem := (GItem.mk (k) (k + 1) (k + 1 + 1))
theorem cGItem_eq (x : GItem) (k : Int) : k + (cGItem x : Int) = k + 1 + 1 + 1 := by unfold cGItem; omega
theorem mark_CasItemS (a : List GItem) (k : Int) (hl : a.length ≤ SMALL) (hk : 0 ≤ k) (hb : k + cntS cGItem a ≤ BIG) : m_markCasItemS a k = some (k + cntS cGItem a, numS cGItem nGItem a k) := by
  unfold m_markCasItemS
  refine mark_scan cGItem nGItem _ okGItem (fun n k l => ?_) (fun n k pre x suf ho h0 h1 h2 => ?_) a k (fun _ _ => True.intro) hl hk hb
  · rw [m_markCasItemS_l0, if_neg (by simp)]; rfl
  · rw [cGItem_eq] at h1 ⊢
    (try unfold okGItem at ho)
    have hB : BIG = 4000000000000000000 := rfl
    rw [m_markCasItemS_l0, if_pos (by simp; omega)]
    simp (maxSteps := 3000000) (disch := first | omega | exact ho | exact ho.1 | exact ho.2 | exact ho.2.1 | exact ho.2.2 | exact ho.2.2.1 | exact ho.2.2.2 | exact ho.2.2.2.1 | exact ho.2.2.2.2 | exact ho.2.2.2.2.1 | exact ho.2.2.2.2.2 | (intro y hy; exact True.intro)) only [getI_mid, Option.bind_some, set_mid, gd_pos h2, gd_ok]
    rfl
theorem held_CasItemS (a : List GItem) (k : Int) (hl : a.length ≤ SMALL) (hk : 0 ≤ k) (hb : k + cntS cGItem a ≤ BIG) : m_heldCasItemS (numS cGItem nGItem a k) k = some (k + cntS cGItem a) := by
  unfold m_heldCasItemS
  refine held_scan cGItem nGItem a k _ (fun n k => ?_) (fun n k i x hg hm hi h0 h1 h2 => ?_) hl hk hb
  · rw [m_heldCasItemS_l0, if_neg (by simp)]; rfl
  · have ho : okGItem x := True.intro
    rw [cGItem_eq] at h1 ⊢
    unfold okGItem at ho
    have hB : BIG = 4000000000000000000 := rfl
    rw [m_heldCasItemS_l0, if_pos (decide_eq_true hi)]
    simp (maxSteps := 3000000) (disch := first | omega | exact ho | exact ho.1 | exact ho.2 | exact ho.2.1 | exact ho.2.2 | exact ho.2.2.1 | exact ho.2.2.2 | exact ho.2.2.2.1 | exact ho.2.2.2.2 | exact ho.2.2.2.2.1 | exact ho.2.2.2.2.2 | (intro y hy; exact True.intro)) only [hg, nGItem, Option.bind_some, gd_pos h2, gd_ok, ng_ok, decide_true, if_true]

def okGDid (x : GDid) : Prop := True
def cGDid (x : GDid) : Nat := 1 + 1
def nGDid (x : GDid) (k : Int) : GDid := (GDid.mk (k) (k + 1))
theorem cGDid_eq (x : GDid) (k : Int) : k + (cGDid x : Int) = k + 1 + 1 := by unfold cGDid; omega
theorem mark_CasDidS (a : List GDid) (k : Int) (hl : a.length ≤ SMALL) (hk : 0 ≤ k) (hb : k + cntS cGDid a ≤ BIG) : m_markCasDidS a k = some (k + cntS cGDid a, numS cGDid nGDid a k) := by
  unfold m_markCasDidS
  refine mark_scan cGDid nGDid _ okGDid (fun n k l => ?_) (fun n k pre x suf ho h0 h1 h2 => ?_) a k (fun _ _ => True.intro) hl hk hb
  · rw [m_markCasDidS_l0, if_neg (by simp)]; rfl
  · rw [cGDid_eq] at h1 ⊢
    (try unfold okGDid at ho)
    have hB : BIG = 4000000000000000000 := rfl
    rw [m_markCasDidS_l0, if_pos (by simp; omega)]
    simp (maxSteps := 3000000) (disch := first | omega | exact ho | exact ho.1 | exact ho.2 | exact ho.2.1 | exact ho.2.2 | exact ho.2.2.1 | exact ho.2.2.2 | exact ho.2.2.2.1 | exact ho.2.2.2.2 | exact ho.2.2.2.2.1 | exact ho.2.2.2.2.2 | (intro y hy; exact True.intro)) only [getI_mid, Option.bind_some, set_mid, gd_pos h2, gd_ok]
    rfl
theorem held_CasDidS (a : List GDid) (k : Int) (hl : a.length ≤ SMALL) (hk : 0 ≤ k) (hb : k + cntS cGDid a ≤ BIG) : m_heldCasDidS (numS cGDid nGDid a k) k = some (k + cntS cGDid a) := by
  unfold m_heldCasDidS
  refine held_scan cGDid nGDid a k _ (fun n k => ?_) (fun n k i x hg hm hi h0 h1 h2 => ?_) hl hk hb
  · rw [m_heldCasDidS_l0, if_neg (by simp)]; rfl
  · have ho : okGDid x := True.intro
    rw [cGDid_eq] at h1 ⊢
    unfold okGDid at ho
    have hB : BIG = 4000000000000000000 := rfl
    rw [m_heldCasDidS_l0, if_pos (decide_eq_true hi)]
    simp (maxSteps := 3000000) (disch := first | omega | exact ho | exact ho.1 | exact ho.2 | exact ho.2.1 | exact ho.2.2 | exact ho.2.2.1 | exact ho.2.2.2 | exact ho.2.2.2.1 | exact ho.2.2.2.2 | exact ho.2.2.2.2.1 | exact ho.2.2.2.2.2 | (intro y hy; exact True.intro)) only [hg, nGDid, Option.bind_some, gd_pos h2, gd_ok, ng_ok, decide_true, if_true]

def okGFlow (x : GFlow) : Prop := True
def cGFlow (x : GFlow) : Nat := 1 + 1 + 1 + 1
def nGFlow (x : GFlow) (k : Int) : GFlow := (GFlow.mk (k) (GAsk.mk (k + 1) (k + 1 + 1) (k + 1 + 1 + 1)))
theorem cGFlow_eq (x : GFlow) (k : Int) : k + (cGFlow x : Int) = k + 1 + 1 + 1 + 1 := by unfold cGFlow; omega
theorem mark_NetFlowS (a : List GFlow) (k : Int) (hl : a.length ≤ SMALL) (hk : 0 ≤ k) (hb : k + cntS cGFlow a ≤ BIG) : m_markNetFlowS a k = some (k + cntS cGFlow a, numS cGFlow nGFlow a k) := by
  unfold m_markNetFlowS
  refine mark_scan cGFlow nGFlow _ okGFlow (fun n k l => ?_) (fun n k pre x suf ho h0 h1 h2 => ?_) a k (fun _ _ => True.intro) hl hk hb
  · rw [m_markNetFlowS_l0, if_neg (by simp)]; rfl
  · rw [cGFlow_eq] at h1 ⊢
    (try unfold okGFlow at ho)
    have hB : BIG = 4000000000000000000 := rfl
    rw [m_markNetFlowS_l0, if_pos (by simp; omega)]
    simp (maxSteps := 3000000) (disch := first | omega | exact ho | exact ho.1 | exact ho.2 | exact ho.2.1 | exact ho.2.2 | exact ho.2.2.1 | exact ho.2.2.2 | exact ho.2.2.2.1 | exact ho.2.2.2.2 | exact ho.2.2.2.2.1 | exact ho.2.2.2.2.2 | (intro y hy; exact True.intro)) only [getI_mid, Option.bind_some, set_mid, gd_pos h2, gd_ok]
    rfl
theorem held_NetFlowS (a : List GFlow) (k : Int) (hl : a.length ≤ SMALL) (hk : 0 ≤ k) (hb : k + cntS cGFlow a ≤ BIG) : m_heldNetFlowS (numS cGFlow nGFlow a k) k = some (k + cntS cGFlow a) := by
  unfold m_heldNetFlowS
  refine held_scan cGFlow nGFlow a k _ (fun n k => ?_) (fun n k i x hg hm hi h0 h1 h2 => ?_) hl hk hb
  · rw [m_heldNetFlowS_l0, if_neg (by simp)]; rfl
  · have ho : okGFlow x := True.intro
    rw [cGFlow_eq] at h1 ⊢
    unfold okGFlow at ho
    have hB : BIG = 4000000000000000000 := rfl
    rw [m_heldNetFlowS_l0, if_pos (decide_eq_true hi)]
    simp (maxSteps := 3000000) (disch := first | omega | exact ho | exact ho.1 | exact ho.2 | exact ho.2.1 | exact ho.2.2 | exact ho.2.2.1 | exact ho.2.2.2 | exact ho.2.2.2.1 | exact ho.2.2.2.2 | exact ho.2.2.2.2.1 | exact ho.2.2.2.2.2 | (intro y hy; exact True.intro)) only [hg, nGFlow, Option.bind_some, gd_pos h2, gd_ok, ng_ok, decide_true, if_true]

def okGTask (x : GTask) : Prop := x.in_.length ≤ SMALL ∧ x.out.length ≤ SMALL ∧ x.clear.length ≤ SMALL
def cGTask (x : GTask) : Nat := 1 + 1 + cntS cI1 x.in_ + cntS cGFlow x.out + cntS cI1 x.clear + 1 + 1 + 1 + 1
def nGTask (x : GTask) (k : Int) : GTask := (GTask.mk (k) (k + 1) (numS cI1 nI1 x.in_ (k + 1 + 1)) (numS cGFlow nGFlow x.out (k + 1 + 1 + ((cntS cI1 x.in_ : Nat) : Int))) (numS cI1 nI1 x.clear (k + 1 + 1 + ((cntS cI1 x.in_ : Nat) : Int) + ((cntS cGFlow x.out : Nat) : Int))) (k + 1 + 1 + ((cntS cI1 x.in_ : Nat) : Int) + ((cntS cGFlow x.out : Nat) : Int) + ((cntS cI1 x.clear : Nat) : Int)) (k + 1 + 1 + ((cntS cI1 x.in_ : Nat) : Int) + ((cntS cGFlow x.out : Nat) : Int) + ((cntS cI1 x.clear : Nat) : Int) + 1) (k + 1 + 1 + ((cntS cI1 x.in_ : Nat) : Int) + ((cntS cGFlow x.out : Nat) : Int) + ((cntS cI1 x.clear : Nat) : Int) + 1 + 1) (k + 1 + 1 + ((cntS cI1 x.in_ : Nat) : Int) + ((cntS cGFlow x.out : Nat) : Int) + ((cntS cI1 x.clear : Nat) : Int) + 1 + 1 + 1))
theorem cGTask_eq (x : GTask) (k : Int) : k + (cGTask x : Int) = k + 1 + 1 + ((cntS cI1 x.in_ : Nat) : Int) + ((cntS cGFlow x.out : Nat) : Int) + ((cntS cI1 x.clear : Nat) : Int) + 1 + 1 + 1 + 1 := by unfold cGTask; omega
theorem mark_NetTaskS (a : List GTask) (k : Int) (hok : ∀ x ∈ a, okGTask x) (hl : a.length ≤ SMALL) (hk : 0 ≤ k) (hb : k + cntS cGTask a ≤ BIG) : m_markNetTaskS a k = some (k + cntS cGTask a, numS cGTask nGTask a k) := by
  unfold m_markNetTaskS
  refine mark_scan cGTask nGTask _ okGTask (fun n k l => ?_) (fun n k pre x suf ho h0 h1 h2 => ?_) a k hok hl hk hb
  · rw [m_markNetTaskS_l0, if_neg (by simp)]; rfl
  · rw [cGTask_eq] at h1 ⊢
    (try unfold okGTask at ho)
    have hB : BIG = 4000000000000000000 := rfl
    rw [m_markNetTaskS_l0, if_pos (by simp; omega)]
    simp (maxSteps := 3000000) (disch := first | omega | exact ho | exact ho.1 | exact ho.2 | exact ho.2.1 | exact ho.2.2 | exact ho.2.2.1 | exact ho.2.2.2 | exact ho.2.2.2.1 | exact ho.2.2.2.2 | exact ho.2.2.2.2.1 | exact ho.2.2.2.2.2 | (intro y hy; exact True.intro)) only [getI_mid, Option.bind_some, set_mid, gd_pos h2, gd_ok, mark_IntS, mark_NetFlowS]
    rfl
theorem held_NetTaskS (a : List GTask) (k : Int) (hok : ∀ x ∈ a, okGTask x) (hl : a.length ≤ SMALL) (hk : 0 ≤ k) (hb : k + cntS cGTask a ≤ BIG) : m_heldNetTaskS (numS cGTask nGTask a k) k = some (k + cntS cGTask a) := by
  unfold m_heldNetTaskS
  refine held_scan cGTask nGTask a k _ (fun n k => ?_) (fun n k i x hg hm hi h0 h1 h2 => ?_) hl hk hb
  · rw [m_heldNetTaskS_l0, if_neg (by simp)]; rfl
  · have ho : okGTask x := hok x hm
    rw [cGTask_eq] at h1 ⊢
    unfold okGTask at ho
    have hB : BIG = 4000000000000000000 := rfl
    rw [m_heldNetTaskS_l0, if_pos (decide_eq_true hi)]
    simp (maxSteps := 3000000) (disch := first | omega | exact ho | exact ho.1 | exact ho.2 | exact ho.2.1 | exact ho.2.2 | exact ho.2.2.1 | exact ho.2.2.2 | exact ho.2.2.2.1 | exact ho.2.2.2.2 | exact ho.2.2.2.2.1 | exact ho.2.2.2.2.2 | (intro y hy; exact True.intro)) only [hg, nGTask, Option.bind_some, gd_pos h2, gd_ok, ng_ok, decide_true, if_true, held_IntS, held_NetFlowS]

def okGNet (x : GNet) : Prop := x.tasks.length ≤ SMALL ∧ ∀ y ∈ x.tasks, okGTask y
def cGNet (x : GNet) : Nat := 1 + cntS cGTask x.tasks
def nGNet (x : GNet) (k : Int) : GNet := (GNet.mk (k) (numS cGTask nGTask x.tasks (k + 1)))
theorem cGNet_eq (x : GNet) (k : Int) : k + (cGNet x : Int) = k + 1 + ((cntS cGTask x.tasks : Nat) : Int) := by unfold cGNet; omega
theorem mark_NetNetS (a : List GNet) (k : Int) (hok : ∀ x ∈ a, okGNet x) (hl : a.length ≤ SMALL) (hk : 0 ≤ k) (hb : k + cntS cGNet a ≤ BIG) : m_markNetNetS a k = some (k + cntS cGNet a, numS cGNet nGNet a k) := by
  unfold m_markNetNetS
  refine mark_scan cGNet nGNet _ okGNet (fun n k l => ?_) (fun n k pre x suf ho h0 h1 h2 => ?_) a k hok hl hk hb
  · rw [m_markNetNetS_l0, if_neg (by simp)]; rfl
  · rw [cGNet_eq] at h1 ⊢
    (try unfold okGNet at ho)
    have hB : BIG = 4000000000000000000 := rfl
    rw [m_markNetNetS_l0, if_pos (by simp; omega)]
    simp (maxSteps := 3000000) (disch := first | omega | exact ho | exact ho.1 | exact ho.2 | exact ho.2.1 | exact ho.2.2 | exact ho.2.2.1 | exact ho.2.2.2 | exact ho.2.2.2.1 | exact ho.2.2.2.2 | exact ho.2.2.2.2.1 | exact ho.2.2.2.2.2 | (intro y hy; exact True.intro)) only [getI_mid, Option.bind_some, set_mid, gd_pos h2, gd_ok, mark_NetTaskS]
    rfl
theorem held_NetNetS (a : List GNet) (k : Int) (hok : ∀ x ∈ a, okGNet x) (hl : a.length ≤ SMALL) (hk : 0 ≤ k) (hb : k + cntS cGNet a ≤ BIG) : m_heldNetNetS (numS cGNet nGNet a k) k = some (k + cntS cGNet a) := by
  unfold m_heldNetNetS
  refine held_scan cGNet nGNet a k _ (fun n k => ?_) (fun n k i x hg hm hi h0 h1 h2 => ?_) hl hk hb
  · rw [m_heldNetNetS_l0, if_neg (by simp)]; rfl
  · have ho : okGNet x := hok x hm
    rw [cGNet_eq] at h1 ⊢
    unfold okGNet at ho
    have hB : BIG = 4000000000000000000 := rfl
    rw [m_heldNetNetS_l0, if_pos (decide_eq_true hi)]
    simp (maxSteps := 3000000) (disch := first | omega | exact ho | exact ho.1 | exact ho.2 | exact ho.2.1 | exact ho.2.2 | exact ho.2.2.1 | exact ho.2.2.2 | exact ho.2.2.2.1 | exact ho.2.2.2.2 | exact ho.2.2.2.2.1 | exact ho.2.2.2.2.2 | (intro y hy; exact True.intro)) only [hg, nGNet, Option.bind_some, gd_pos h2, gd_ok, ng_ok, decide_true, if_true, held_NetTaskS]

def okGNode (x : GNode) : Prop := x.stone.length ≤ SMALL
def cGNode (x : GNode) : Nat := 1 + 1 + 1 + 1 + 1 + 1 + cntS cI1 x.stone
def nGNode (x : GNode) (k : Int) : GNode := (GNode.mk (GAsk.mk (k) (k + 1) (k + 1 + 1)) (k + 1 + 1 + 1) (k + 1 + 1 + 1 + 1) (k + 1 + 1 + 1 + 1 + 1) (numS cI1 nI1 x.stone (k + 1 + 1 + 1 + 1 + 1 + 1)))
theorem cGNode_eq (x : GNode) (k : Int) : k + (cGNode x : Int) = k + 1 + 1 + 1 + 1 + 1 + 1 + ((cntS cI1 x.stone : Nat) : Int) := by unfold cGNode; omega
theorem mark_RdrNodeS (a : List GNode) (k : Int) (hok : ∀ x ∈ a, okGNode x) (hl : a.length ≤ SMALL) (hk : 0 ≤ k) (hb : k + cntS cGNode a ≤ BIG) : m_markRdrNodeS a k = some (k + cntS cGNode a, numS cGNode nGNode a k) := by
  unfold m_markRdrNodeS
  refine mark_scan cGNode nGNode _ okGNode (fun n k l => ?_) (fun n k pre x suf ho h0 h1 h2 => ?_) a k hok hl hk hb
  · rw [m_markRdrNodeS_l0, if_neg (by simp)]; rfl
  · rw [cGNode_eq] at h1 ⊢
    (try unfold okGNode at ho)
    have hB : BIG = 4000000000000000000 := rfl
    rw [m_markRdrNodeS_l0, if_pos (by simp; omega)]
    simp (maxSteps := 3000000) (disch := first | omega | exact ho | exact ho.1 | exact ho.2 | exact ho.2.1 | exact ho.2.2 | exact ho.2.2.1 | exact ho.2.2.2 | exact ho.2.2.2.1 | exact ho.2.2.2.2 | exact ho.2.2.2.2.1 | exact ho.2.2.2.2.2 | (intro y hy; exact True.intro)) only [getI_mid, Option.bind_some, set_mid, gd_pos h2, gd_ok, mark_IntS]
    rfl
theorem held_RdrNodeS (a : List GNode) (k : Int) (hok : ∀ x ∈ a, okGNode x) (hl : a.length ≤ SMALL) (hk : 0 ≤ k) (hb : k + cntS cGNode a ≤ BIG) : m_heldRdrNodeS (numS cGNode nGNode a k) k = some (k + cntS cGNode a) := by
  unfold m_heldRdrNodeS
  refine held_scan cGNode nGNode a k _ (fun n k => ?_) (fun n k i x hg hm hi h0 h1 h2 => ?_) hl hk hb
  · rw [m_heldRdrNodeS_l0, if_neg (by simp)]; rfl
  · have ho : okGNode x := hok x hm
    rw [cGNode_eq] at h1 ⊢
    unfold okGNode at ho
    have hB : BIG = 4000000000000000000 := rfl
    rw [m_heldRdrNodeS_l0, if_pos (decide_eq_true hi)]
    simp (maxSteps := 3000000) (disch := first | omega | exact ho | exact ho.1 | exact ho.2 | exact ho.2.1 | exact ho.2.2 | exact ho.2.2.1 | exact ho.2.2.2 | exact ho.2.2.2.1 | exact ho.2.2.2.2 | exact ho.2.2.2.2.1 | exact ho.2.2.2.2.2 | (intro y hy; exact True.intro)) only [hg, nGNode, Option.bind_some, gd_pos h2, gd_ok, ng_ok, decide_true, if_true, held_IntS]

def okGRun (x : GRun) : Prop := x.case.marks.length ≤ SMALL ∧ x.case.busy.length ≤ SMALL ∧ x.case.data.length ≤ SMALL ∧ x.case.did.length ≤ SMALL
def cGRun (x : GRun) : Nat := 1 + 1 + cntS cI1 x.case.marks + cntS cGItem x.case.busy + cntS cI1 x.case.data + cntS cGDid x.case.did
def nGRun (x : GRun) (k : Int) : GRun := (GRun.mk (k) (GCase.mk (k + 1) (numS cI1 nI1 x.case.marks (k + 1 + 1)) (numS cGItem nGItem x.case.busy (k + 1 + 1 + ((cntS cI1 x.case.marks : Nat) : Int))) (numS cI1 nI1 x.case.data (k + 1 + 1 + ((cntS cI1 x.case.marks : Nat) : Int) + ((cntS cGItem x.case.busy : Nat) : Int))) (numS cGDid nGDid x.case.did (k + 1 + 1 + ((cntS cI1 x.case.marks : Nat) : Int) + ((cntS cGItem x.case.busy : Nat) : Int) + ((cntS cI1 x.case.data : Nat) : Int)))))
theorem cGRun_eq (x : GRun) (k : Int) : k + (cGRun x : Int) = k + 1 + 1 + ((cntS cI1 x.case.marks : Nat) : Int) + ((cntS cGItem x.case.busy : Nat) : Int) + ((cntS cI1 x.case.data : Nat) : Int) + ((cntS cGDid x.case.did : Nat) : Int) := by unfold cGRun; omega
theorem mark_EngRunS (a : List GRun) (k : Int) (hok : ∀ x ∈ a, okGRun x) (hl : a.length ≤ SMALL) (hk : 0 ≤ k) (hb : k + cntS cGRun a ≤ BIG) : m_markEngRunS a k = some (k + cntS cGRun a, numS cGRun nGRun a k) := by
  unfold m_markEngRunS
  refine mark_scan cGRun nGRun _ okGRun (fun n k l => ?_) (fun n k pre x suf ho h0 h1 h2 => ?_) a k hok hl hk hb
  · rw [m_markEngRunS_l0, if_neg (by simp)]; rfl
  · rw [cGRun_eq] at h1 ⊢
    (try unfold okGRun at ho)
    have hB : BIG = 4000000000000000000 := rfl
    rw [m_markEngRunS_l0, if_pos (by simp; omega)]
    simp (maxSteps := 3000000) (disch := first | omega | exact ho | exact ho.1 | exact ho.2 | exact ho.2.1 | exact ho.2.2 | exact ho.2.2.1 | exact ho.2.2.2 | exact ho.2.2.2.1 | exact ho.2.2.2.2 | exact ho.2.2.2.2.1 | exact ho.2.2.2.2.2 | (intro y hy; exact True.intro)) only [getI_mid, Option.bind_some, set_mid, gd_pos h2, gd_ok, mark_IntS, mark_CasItemS, mark_CasDidS]
    rfl
theorem held_EngRunS (a : List GRun) (k : Int) (hok : ∀ x ∈ a, okGRun x) (hl : a.length ≤ SMALL) (hk : 0 ≤ k) (hb : k + cntS cGRun a ≤ BIG) : m_heldEngRunS (numS cGRun nGRun a k) k = some (k + cntS cGRun a) := by
  unfold m_heldEngRunS
  refine held_scan cGRun nGRun a k _ (fun n k => ?_) (fun n k i x hg hm hi h0 h1 h2 => ?_) hl hk hb
  · rw [m_heldEngRunS_l0, if_neg (by simp)]; rfl
  · have ho : okGRun x := hok x hm
    rw [cGRun_eq] at h1 ⊢
    unfold okGRun at ho
    have hB : BIG = 4000000000000000000 := rfl
    rw [m_heldEngRunS_l0, if_pos (decide_eq_true hi)]
    simp (maxSteps := 3000000) (disch := first | omega | exact ho | exact ho.1 | exact ho.2 | exact ho.2.1 | exact ho.2.2 | exact ho.2.2.1 | exact ho.2.2.2 | exact ho.2.2.2.1 | exact ho.2.2.2.2 | exact ho.2.2.2.2.1 | exact ho.2.2.2.2.2 | (intro y hy; exact True.intro)) only [hg, nGRun, Option.bind_some, gd_pos h2, gd_ok, ng_ok, decide_true, if_true, held_IntS, held_CasItemS, held_CasDidS]

def okGReq (x : GReq) : Prop := x.data.length ≤ SMALL
def cGReq (x : GReq) : Nat := 1 + 1 + 1 + 1 + 1 + 1 + cntS cI1 x.data + 1 + 1 + 1 + 1
def nGReq (x : GReq) (k : Int) : GReq := (GReq.mk (k) (k + 1) (k + 1 + 1) (k + 1 + 1 + 1) (k + 1 + 1 + 1 + 1) (k + 1 + 1 + 1 + 1 + 1) (numS cI1 nI1 x.data (k + 1 + 1 + 1 + 1 + 1 + 1)) (GAsk.mk (k + 1 + 1 + 1 + 1 + 1 + 1 + ((cntS cI1 x.data : Nat) : Int)) (k + 1 + 1 + 1 + 1 + 1 + 1 + ((cntS cI1 x.data : Nat) : Int) + 1) (k + 1 + 1 + 1 + 1 + 1 + 1 + ((cntS cI1 x.data : Nat) : Int) + 1 + 1)) (k + 1 + 1 + 1 + 1 + 1 + 1 + ((cntS cI1 x.data : Nat) : Int) + 1 + 1 + 1))
theorem cGReq_eq (x : GReq) (k : Int) : k + (cGReq x : Int) = k + 1 + 1 + 1 + 1 + 1 + 1 + ((cntS cI1 x.data : Nat) : Int) + 1 + 1 + 1 + 1 := by unfold cGReq; omega
theorem mark_EngReqS (a : List GReq) (k : Int) (hok : ∀ x ∈ a, okGReq x) (hl : a.length ≤ SMALL) (hk : 0 ≤ k) (hb : k + cntS cGReq a ≤ BIG) : m_markEngReqS a k = some (k + cntS cGReq a, numS cGReq nGReq a k) := by
  unfold m_markEngReqS
  refine mark_scan cGReq nGReq _ okGReq (fun n k l => ?_) (fun n k pre x suf ho h0 h1 h2 => ?_) a k hok hl hk hb
  · rw [m_markEngReqS_l0, if_neg (by simp)]; rfl
  · rw [cGReq_eq] at h1 ⊢
    (try unfold okGReq at ho)
    have hB : BIG = 4000000000000000000 := rfl
    rw [m_markEngReqS_l0, if_pos (by simp; omega)]
    simp (maxSteps := 3000000) (disch := first | omega | exact ho | exact ho.1 | exact ho.2 | exact ho.2.1 | exact ho.2.2 | exact ho.2.2.1 | exact ho.2.2.2 | exact ho.2.2.2.1 | exact ho.2.2.2.2 | exact ho.2.2.2.2.1 | exact ho.2.2.2.2.2 | (intro y hy; exact True.intro)) only [getI_mid, Option.bind_some, set_mid, gd_pos h2, gd_ok, mark_IntS]
    rfl
theorem held_EngReqS (a : List GReq) (k : Int) (hok : ∀ x ∈ a, okGReq x) (hl : a.length ≤ SMALL) (hk : 0 ≤ k) (hb : k + cntS cGReq a ≤ BIG) : m_heldEngReqS (numS cGReq nGReq a k) k = some (k + cntS cGReq a) := by
  unfold m_heldEngReqS
  refine held_scan cGReq nGReq a k _ (fun n k => ?_) (fun n k i x hg hm hi h0 h1 h2 => ?_) hl hk hb
  · rw [m_heldEngReqS_l0, if_neg (by simp)]; rfl
  · have ho : okGReq x := hok x hm
    rw [cGReq_eq] at h1 ⊢
    unfold okGReq at ho
    have hB : BIG = 4000000000000000000 := rfl
    rw [m_heldEngReqS_l0, if_pos (decide_eq_true hi)]
    simp (maxSteps := 3000000) (disch := first | omega | exact ho | exact ho.1 | exact ho.2 | exact ho.2.1 | exact ho.2.2 | exact ho.2.2.1 | exact ho.2.2.2 | exact ho.2.2.2.1 | exact ho.2.2.2.2 | exact ho.2.2.2.2.1 | exact ho.2.2.2.2.2 | (intro y hy; exact True.intro)) only [hg, nGReq, Option.bind_some, gd_pos h2, gd_ok, ng_ok, decide_true, if_true, held_IntS]

end Go.Am.Pl

end
section
/- Plain laws: marks of what is handed over by value. Own work. -/
set_option maxRecDepth 100000
set_option maxHeartbeats 2000000
set_option linter.unusedVariables false
set_option linter.unusedSimpArgs false
namespace Go.Am.Pl
open Go

def vGNet (x : GNet) : Nat := cntS cGTask x.tasks
def wGNet (x : GNet) (k : Int) : GNet := GNet.mk x.places (numS cGTask nGTask x.tasks k)
theorem mark_NetNet (x : GNet) (k : Int) (ho : okGNet x) (hk : 0 ≤ k) (hb : k + vGNet x ≤ BIG) : m_markNetNet x k = some (k + vGNet x, wGNet x k) := by
  unfold m_markNetNet
  rw [mark_NetTaskS x.tasks k ho.2 ho.1 hk hb]; rfl
def okGCase (x : GCase) : Prop := x.marks.length ≤ SMALL ∧ x.busy.length ≤ SMALL ∧ x.data.length ≤ SMALL ∧ x.did.length ≤ SMALL
def vGCase (x : GCase) : Nat := cntS cI1 x.marks + cntS cGItem x.busy + cntS cI1 x.data + cntS cGDid x.did
def wGCase (x : GCase) (k : Int) : GCase := GCase.mk x.state (numS cI1 nI1 x.marks k) (numS cGItem nGItem x.busy (k + (cntS cI1 x.marks : Nat))) (numS cI1 nI1 x.data (k + (cntS cI1 x.marks : Nat) + (cntS cGItem x.busy : Nat)))
  (numS cGDid nGDid x.did (k + (cntS cI1 x.marks : Nat) + (cntS cGItem x.busy : Nat) + (cntS cI1 x.data : Nat)))
theorem vGCase_eq (x : GCase) (k : Int) : k + (vGCase x : Int) = k + (cntS cI1 x.marks : Nat) + (cntS cGItem x.busy : Nat) + (cntS cI1 x.data : Nat) + (cntS cGDid x.did : Nat) := by unfold vGCase; omega
theorem mark_CasCase (x : GCase) (k : Int) (ho : okGCase x) (hk : 0 ≤ k) (hb : k + vGCase x ≤ BIG) : m_markCasCase x k = some (k + vGCase x, wGCase x k) := by
  obtain ⟨h1, h2, h3, h4⟩ := ho
  rw [vGCase_eq] at hb ⊢
  unfold m_markCasCase
  rw [mark_IntS x.marks k h1 hk (by omega), Option.bind_some, mark_CasItemS x.busy _ h2 (by omega) (by omega), Option.bind_some, mark_IntS x.data _ h3 (by omega) (by omega), Option.bind_some, mark_CasDidS x.did _ h4 (by omega) (by omega)]
  rfl
theorem held_CasCase (x : GCase) (k : Int) (ho : okGCase x) (hk : 0 ≤ k) (hb : k + vGCase x ≤ BIG) : m_heldCasCase (wGCase x k) k = some (k + vGCase x) := by
  obtain ⟨h1, h2, h3, h4⟩ := ho
  rw [vGCase_eq] at hb ⊢
  unfold m_heldCasCase wGCase
  simp only []
  rw [held_IntS x.marks k h1 hk (by omega), Option.bind_some, ng_ok (by omega), held_CasItemS x.busy _ h2 (by omega) (by omega), Option.bind_some, ng_ok (by omega), held_IntS x.data _ h3 (by omega) (by omega), Option.bind_some, ng_ok (by omega),
    held_CasDidS x.did _ h4 (by omega) (by omega), Option.bind_some, ng_ok (by omega)]

def okGHouse (x : GHouse) : Prop := (x.nets.length ≤ SMALL ∧ ∀ y ∈ x.nets, okGNet y) ∧ x.people.length ≤ SMALL ∧ (x.tree.length ≤ SMALL ∧ ∀ y ∈ x.tree, okGNode y) ∧ (x.runs.length ≤ SMALL ∧ ∀ y ∈ x.runs, okGRun y)
def vGHouse (x : GHouse) : Nat := cntS cGNet x.nets + cntS cI1 x.people + cntS cGNode x.tree + cntS cGRun x.runs
def wGHouse (x : GHouse) (k : Int) : GHouse := GHouse.mk (numS cGNet nGNet x.nets k) (numS cI1 nI1 x.people (k + (cntS cGNet x.nets : Nat))) (numS cGNode nGNode x.tree (k + (cntS cGNet x.nets : Nat) + (cntS cI1 x.people : Nat)))
  (numS cGRun nGRun x.runs (k + (cntS cGNet x.nets : Nat) + (cntS cI1 x.people : Nat) + (cntS cGNode x.tree : Nat)))
theorem vGHouse_eq (x : GHouse) (k : Int) : k + (vGHouse x : Int) = k + (cntS cGNet x.nets : Nat) + (cntS cI1 x.people : Nat) + (cntS cGNode x.tree : Nat) + (cntS cGRun x.runs : Nat) := by unfold vGHouse; omega
theorem mark_EngHouse (x : GHouse) (k : Int) (ho : okGHouse x) (hk : 0 ≤ k) (hb : k + vGHouse x ≤ BIG) : m_markEngHouse x k = some (k + vGHouse x, wGHouse x k) := by
  obtain ⟨h1, h2, h3, h4⟩ := ho
  rw [vGHouse_eq] at hb ⊢
  unfold m_markEngHouse
  rw [mark_NetNetS x.nets k h1.2 h1.1 hk (by omega), Option.bind_some, mark_IntS x.people _ h2 (by omega) (by omega), Option.bind_some, mark_RdrNodeS x.tree _ h3.2 h3.1 (by omega) (by omega), Option.bind_some, mark_EngRunS x.runs _ h4.2 h4.1 (by omega) (by omega)]
  rfl
theorem held_EngHouse (x : GHouse) (k : Int) (ho : okGHouse x) (hk : 0 ≤ k) (hb : k + vGHouse x ≤ BIG) : m_heldEngHouse (wGHouse x k) k = some (k + vGHouse x) := by
  obtain ⟨h1, h2, h3, h4⟩ := ho
  rw [vGHouse_eq] at hb ⊢
  unfold m_heldEngHouse wGHouse
  simp only []
  rw [held_NetNetS x.nets k h1.2 h1.1 hk (by omega), Option.bind_some, ng_ok (by omega), held_IntS x.people _ h2 (by omega) (by omega), Option.bind_some, ng_ok (by omega), held_RdrNodeS x.tree _ h3.2 h3.1 (by omega) (by omega), Option.bind_some, ng_ok (by omega),
    held_EngRunS x.runs _ h4.2 h4.1 (by omega) (by omega), Option.bind_some, ng_ok (by omega)]
theorem mark_EngReq (x : GReq) (k : Int) (ho : x.data.length ≤ SMALL) (hk : 0 ≤ k) (hb : k + cntS cI1 x.data ≤ BIG) : m_markEngReq x k = some (k + cntS cI1 x.data, GReq.mk x.kind x.who x.case x.task x.var x.num (numS cI1 nI1 x.data k) x.if_ x.ans) := by
  unfold m_markEngReq
  rw [mark_IntS x.data k ho hk hb]; rfl

end Go.Am.Pl

end
section
/- Plain laws: how many marks there are, by the weights. Own work. -/
set_option maxRecDepth 100000
set_option linter.unusedVariables false
set_option linter.unusedSimpArgs false
namespace Go.Am.Pl
open Go

theorem cntS_le {α : Type} {cnt W : α → Nat} {K : Nat} : ∀ {l : List α}, (∀ x ∈ l, cnt x ≤ K + K * W x) → cntS cnt l ≤ K * (l.length + sumW W l)
  | [], _ => by simp [cntS]
  | x :: l, h => by
    have h1 := cntS_le (l := l) fun y hy => h y (by simp [hy])
    have h2 := h x (by simp)
    simp only [cntS, List.length_cons]
    have : sumW W (x :: l) = W x + sumW W l := by simp [sumW]
    rw [this]
    have : K * (l.length + 1 + (W x + sumW W l)) = K * (l.length + sumW W l) + (K + K * W x) := by simp only [Nat.mul_add, Nat.mul_one]; omega
    omega
theorem cntS_const {α : Type} {cnt : α → Nat} {K : Nat} (h : ∀ x, cnt x = K) : ∀ l : List α, cntS cnt l = K * l.length
  | [] => rfl
  | x :: l => by simp only [cntS, h, cntS_const h l, List.length_cons, Nat.mul_add]; omega
theorem cIntS (l : List Int) : cntS cI1 l = 1 * l.length := cntS_const (fun _ => rfl) l
theorem cItemS (l : List GItem) : cntS cGItem l = 3 * l.length := cntS_const (fun _ => rfl) l
theorem cDidS (l : List GDid) : cntS cGDid l = 2 * l.length := cntS_const (fun _ => rfl) l
theorem cFlowS (l : List GFlow) : cntS cGFlow l = 4 * l.length := cntS_const (fun _ => rfl) l
theorem cTask_le (x : GTask) : cGTask x ≤ 10 + 10 * GTask.W x := by
  unfold cGTask; rw [cIntS, cIntS, cFlowS]; simp only [GTask.W]; omega
theorem vNet_le (x : GNet) : vGNet x ≤ 10 * GNet.W x := by
  unfold vGNet
  have := cntS_le (cnt := cGTask) (W := GTask.W) (K := 10) (l := x.tasks) fun t _ => cTask_le t
  simp only [GNet.W]; omega
theorem vCase_le (x : GCase) : vGCase x ≤ 10 * GCase.W x := by
  unfold vGCase; rw [cIntS, cIntS, cItemS, cDidS]; simp only [GCase.W]; omega
theorem cNet_le (x : GNet) : cGNet x ≤ 10 + 10 * GNet.W x := by
  have := vNet_le x; unfold vGNet at this; unfold cGNet; omega
theorem cNode_le (x : GNode) : cGNode x ≤ 10 + 10 * GNode.W x := by
  unfold cGNode; rw [cIntS]; simp only [GNode.W]; omega
theorem cRun_le (x : GRun) : cGRun x ≤ 10 + 10 * GRun.W x := by
  unfold cGRun; rw [cIntS, cIntS, cItemS, cDidS]; simp only [GRun.W, GCase.W]; omega
theorem cNetS_le (l : List GNet) : cntS cGNet l ≤ 10 * (l.length + sumW GNet.W l) := cntS_le fun x _ => cNet_le x
theorem vHouse_le (x : GHouse) : vGHouse x ≤ 10 * GHouse.W x := by
  unfold vGHouse
  have h1 := cNetS_le x.nets
  have h2 := cntS_le (cnt := cGNode) (W := GNode.W) (K := 10) (l := x.tree) fun t _ => cNode_le t
  have h3 := cntS_le (cnt := cGRun) (W := GRun.W) (K := 10) (l := x.runs) fun t _ => cRun_le t
  rw [cIntS]; simp only [GHouse.W]; omega

end Go.Am.Pl

end
section
/- Plain laws: loops that put out lists; bounds on how many marks there are. Own work. -/
set_option maxRecDepth 100000
set_option linter.unusedVariables false
set_option linter.unusedSimpArgs false
namespace Go.Am.Pl
open Go

theorem emit_scan {α γ β : Type} (l : List α) (hl : l.length ≤ SMALL) (e : α → List γ) (f : Nat → Int → List γ → Option β) (kx : List γ → Option β) (h0 : ∀ n s, f (n + 1) (l.length : Int) s = kx s)
    (h1 : ∀ n pre x suf s, l = pre ++ x :: suf → getI l (pre.length : Int) = some x → x ∈ l → (pre.length : Int) < (l.length : Int) → ok64 ((pre.length : Int) + 1) → s = pre.flatMap e → f (n + 1) (pre.length : Int) s = f n ((pre.length : Int) + 1) (s ++ e x)) :
    f FUEL 0 [] = kx (l.flatMap e) := by
  have := scan l (by unfold SMALL at hl; omega) f (fun pre suf s => kx (s ++ suf.flatMap e)) (fun pre s => s = pre.flatMap e) (fun n s _ => by rw [h0]; simp)
    (fun n pre x suf s a b c d i k => by
      rw [h1 n pre x suf s a b (by rw [a]; simp) c d i, k (s ++ e x) (by rw [i]; simp)]
      simp) FUEL [] rfl (by have := FUEL_ge; unfold SMALL at hl; omega)
  rw [this]; simp
theorem flat_len {α γ : Type} {e : α → List γ} (he : ∀ x, (e x).length ≤ 1) : ∀ l : List α, (l.flatMap e).length ≤ l.length
  | [] => by simp
  | x :: l => by have := flat_len he l; have := he x; simp only [List.flatMap_cons, List.length_append, List.length_cons]; omega
theorem cntS_crude {α : Type} {cnt : α → Nat} {K : Nat} : ∀ {l : List α}, (∀ x ∈ l, cnt x ≤ K) → cntS cnt l ≤ K * l.length
  | [], _ => by simp [cntS]
  | x :: l, h => by
    have h1 := cntS_crude (l := l) fun y hy => h y (by simp [hy])
    have h2 := h x (by simp)
    simp only [cntS, List.length_cons, Nat.mul_add]; omega
theorem cntS_cap {α : Type} {cnt : α → Nat} {K n : Nat} {l : List α} (h : ∀ x ∈ l, cnt x ≤ K) (hl : l.length ≤ n) : cntS cnt l ≤ K * n :=
  Nat.le_trans (cntS_crude h) (Nat.mul_le_mul_left K hl)
theorem cI1_cap {l : List Int} {n : Nat} (h : l.length ≤ n) : cntS cI1 l ≤ n := by have := cntS_cap (cnt := cI1) (K := 1) (l := l) (fun _ _ => Nat.le_refl _) h; omega
theorem sm {n : Nat} (h : n ≤ 1048576) : n ≤ SMALL := by unfold SMALL; omega
end Go.Am.Pl

end
section
/- Plain laws: what a net, a case that is ok has; marks that grow. Own work. -/
set_option maxRecDepth 100000
set_option linter.unusedVariables false
set_option linter.unusedSimpArgs false
namespace Go.Am.Pl
open Go

theorem asc_mem {high : Int} : ∀ {l : List Int} {p : Int}, asc high p l = true → ∀ x ∈ l, p + 1 ≤ x ∧ x ≤ high
  | [], _, _, x, hx => by simp at hx
  | y :: l, p, h, x, hx => by
    simp only [asc, Bool.and_eq_true, inB_iff] at h
    rcases List.mem_cons.1 hx with rfl | hx
    · exact h.1
    · have := asc_mem h.2 x hx; omega
structure TaskOk (n : GNet) (t : GTask) : Prop where
  join : 1 ≤ t.join ∧ t.join ≤ 3
  split : 1 ≤ t.split ∧ t.split ≤ 3
  inl : 1 ≤ t.in_.length ∧ t.in_.length ≤ 3
  ins : ∀ p ∈ t.in_, 0 ≤ p ∧ p ≤ n.places - 1
  outl : 1 ≤ t.out.length ∧ t.out.length ≤ 3
  clearl : (t.clear.length : Int) ≤ n.places
  clears : ∀ p ∈ t.clear, 2 ≤ p ∧ p ≤ n.places - 1
  role : 1 ≤ t.role ∧ t.role ≤ 3
  apart : -1 ≤ t.apart ∧ t.apart ≤ n.tasks.length - 1
  all : 1 ≤ t.all ∧ t.all ≤ 3
  need : 1 ≤ t.need ∧ t.need ≤ t.all
theorem netB_task {n : GNet} (h : netB n = true) {t : GTask} (ht : t ∈ n.tasks) : TaskOk n t := by
  simp only [netB, Bool.and_eq_true, List.all_eq_true] at h
  have := h.2.2 t ht
  simp only [taskB, Bool.and_eq_true, inB_iff] at this
  obtain ⟨a, b, ⟨c, d⟩, e, ⟨f, g⟩, ⟨i, j⟩, k, l, m, o⟩ := this
  exact ⟨a, b, by omega, fun p hp => by have := asc_mem d p hp; omega, by omega, by omega, fun p hp => by have := asc_mem j p hp; omega, k, l, m, o⟩
theorem netB_size {n : GNet} (h : netB n = true) : (2 ≤ n.places ∧ n.places ≤ 8) ∧ (1 ≤ n.tasks.length ∧ n.tasks.length ≤ 6) := by
  simp only [netB, Bool.and_eq_true, inB_iff] at h; omega
structure CasFacts (n : GNet) (c : GCase) : Prop where
  net : netB n = true
  len : (c.marks.length : Int) = n.places
  mks : ∀ x ∈ c.marks, 0 ≤ x ∧ x ≤ 4
  busyl : c.busy.length ≤ 6
  busy : ∀ b ∈ c.busy, (0 ≤ b.task ∧ b.task < n.tasks.length) ∧ (1 ≤ b.who ∧ b.who ≤ 4) ∧ (0 ≤ b.did ∧ b.did ≤ (atI n.tasks b.task).need - 1)
  data : datOk c.data = true
  didl : c.did.length ≤ 60
  did : ∀ d ∈ c.did, (0 ≤ d.task ∧ d.task < n.tasks.length) ∧ (1 ≤ d.who ∧ d.who ≤ 4)
  state : 1 ≤ c.state ∧ c.state ≤ 3
theorem casB_facts {n : GNet} {c : GCase} (h : casB n c = true) : CasFacts n c := by
  simp only [casB, mrkB, marksB, busyB, itemB, didB, Bool.and_eq_true, List.all_eq_true, inB_iff, decide_eq_true_eq, Bool.not_eq_true', decide_eq_false_iff_not] at h
  obtain ⟨⟨a, b, c1⟩, ⟨d, e⟩, f, g, i, j, k⟩ := h
  exact ⟨a, b, c1, by omega, fun x hx => by have := e x hx; omega, f, by omega, fun x hx => by have := j x hx; omega, i⟩

/-- One more at a place. -/
def inc (l : List Int) (p : Int) : List Int := l.set p.toNat (atI l p + 1)
theorem inc_len (l : List Int) (p : Int) : (inc l p).length = l.length := by simp [inc]
def incs (l : List Int) (ps : List Int) : List Int := ps.foldl inc l
theorem incs_len (ps : List Int) : ∀ l : List Int, (incs l ps).length = l.length := by
  induction ps with
  | nil => intro l; rfl
  | cons p ps ih => intro l; show (incs (inc l p) ps).length = _; rw [ih, inc_len]
theorem incs_app (l : List Int) (a b : List Int) : incs l (a ++ b) = incs (incs l a) b := List.foldl_append
def capM (K : Int) (l : List Int) : Prop := ∀ x ∈ l, 0 ≤ x ∧ x ≤ K
theorem capM_at {K : Int} {l : List Int} (h : capM K l) {p : Int} (h0 : 0 ≤ p) (h1 : p < l.length) : 0 ≤ atI l p ∧ atI l p ≤ K := h _ (atI_mem l h0 h1)
theorem capM_inc {K : Int} {l : List Int} (h : capM K l) {p : Int} (h0 : 0 ≤ p) (h1 : p < l.length) : capM (K + 1) (inc l p) := by
  intro x hx
  have := capM_at h h0 h1
  rcases List.mem_or_eq_of_mem_set hx with hx | rfl
  · have := h x hx; omega
  · omega
def okM (l : List Int) : Bool := l.all (fun x => inB x 0 4)
theorem okM_cap {l : List Int} : okM l = true ↔ capM 4 l := by simp only [okM, List.all_eq_true, inB_iff]; rfl
theorem okM_inc {l : List Int} {p : Int} {K : Int} (hl : capM K l) (h0 : 0 ≤ p) (h1 : p < l.length) (h : okM (inc l p) = true) : okM l = true ∧ atI l p ≤ 3 := by
  rw [okM_cap] at h ⊢
  have hp : atI l p + 1 ∈ inc l p := List.mem_iff_getElem?.2 ⟨p.toNat, by unfold inc; rw [List.getElem?_set_self (by omega)]⟩
  have h4 := h _ hp
  refine ⟨fun x hx => ?_, by omega⟩
  obtain ⟨j, hj⟩ := List.mem_iff_getElem?.1 hx
  by_cases e : p.toNat = j
  · have : atI l p = x := by unfold atI getI; rw [if_pos h0, e, hj]; rfl
    have := hl x hx; omega
  · exact h x (List.mem_iff_getElem?.2 ⟨j, by unfold inc; rw [List.getElem?_set_ne e]; exact hj⟩)
theorem okM_incs {ps : List Int} : ∀ {l : List Int} {K : Int}, capM K l → (∀ p ∈ ps, 0 ≤ p ∧ p < l.length) → okM (incs l ps) = true → okM l = true := by
  induction ps with
  | nil => intro l K _ _ h; exact h
  | cons p ps ih =>
    intro l K hl hp h
    have hp0 := hp p (by simp)
    exact (okM_inc hl hp0.1 hp0.2 (ih (l := inc l p) (capM_inc hl hp0.1 hp0.2) (fun q hq => by rw [inc_len]; exact hp q (by simp [hq])) h)).1
/-- A loop that puts one more at each place of a list, and leaves where there are four. -/
theorem stop_scan {β : Type} (ps : List Int) (hs : ps.length ≤ SMALL) (f : Nat → Int → List Int → Option β) (kx : List Int → Option β) (bad : Option β) (l0 : List Int) (hp : ∀ p ∈ ps, 0 ≤ p ∧ p < l0.length) (hc : okM l0 = true)
    (h0 : ∀ n s, f (n + 1) (ps.length : Int) s = kx s)
    (h1 : ∀ n i p s, getI ps i = some p → i < (ps.length : Int) → ok64 (i + 1) → getI s p = some (atI s p) → ok64 (atI s p + 1) → f (n + 1) i s = if decide (atI s p = 4) = true then bad else f n (i + 1) (inc s p)) :
    f FUEL 0 l0 = if okM (incs l0 ps) = true then kx (incs l0 ps) else bad :=
  scan ps (by unfold SMALL at hs; omega) f (fun _ suf l => if okM (incs l suf) = true then kx (incs l suf) else bad) (fun _ l => l.length = l0.length ∧ okM l = true)
    (fun n s hi => by rw [h0]; rw [if_pos (show okM (incs s []) = true from hi.2)]; rfl)
    (fun n pre x suf s a b c d hi k => by
      have hx := hp x (by rw [a]; simp)
      have hx2 : x < s.length := by rw [hi.1]; exact hx.2
      have hcap := okM_cap.1 hi.2
      have hv := capM_at hcap hx.1 hx2
      rw [h1 n _ x s b c d (getI_at s hx.1 hx2) (by constructor <;> omega)]
      show _ = if okM (incs (inc s x) suf) = true then kx (incs (inc s x) suf) else bad
      by_cases h4 : atI s x = 4
      · rw [if_pos (decide_eq_true h4), if_neg]
        intro h5
        have h6 := okM_incs (capM_inc hcap hx.1 hx2) (fun q hq => by rw [inc_len, hi.1]; exact hp q (by rw [a]; simp [hq])) h5
        have := (okM_inc hcap hx.1 hx2 h6).2
        omega
      · rw [if_neg (by simpa using h4)]
        exact k (inc s x) ⟨by rw [inc_len, hi.1], okM_cap.2 (fun y hy => by
          rcases List.mem_or_eq_of_mem_set hy with hy | rfl
          · exact hcap y hy
          · omega)⟩) FUEL l0 ⟨rfl, hc⟩ (by have := FUEL_ge; unfold SMALL at hs; omega)
/-- A loop that puts one more at each place of a list. -/
theorem inc_scan {β : Type} (ps : List Int) (hs : ps.length ≤ SMALL) (f : Nat → Int → List Int → Option β) (kx : List Int → Option β) (l0 : List Int) (K : Int) (hK : 0 ≤ K ∧ K ≤ 1000000000) (hp : ∀ p ∈ ps, 0 ≤ p ∧ p < l0.length) (hc : capM K l0)
    (h0 : ∀ n s, f (n + 1) (ps.length : Int) s = kx s)
    (h1 : ∀ n i p s, getI ps i = some p → i < (ps.length : Int) → ok64 (i + 1) → getI s p = some (atI s p) → ok64 (atI s p + 1) → f (n + 1) i s = f n (i + 1) (inc s p)) :
    f FUEL 0 l0 = kx (incs l0 ps) :=
  scan ps (by unfold SMALL at hs; omega) f (fun _ suf l => kx (incs l suf)) (fun pre l => l.length = l0.length ∧ capM (K + pre.length) l) (fun n s hi => by rw [h0]; rfl)
    (fun n pre x suf s a b c d hi k => by
      have hx := hp x (by rw [a]; simp)
      have hx2 : x < s.length := by rw [hi.1]; exact hx.2
      have hv := capM_at hi.2 hx.1 hx2
      have hpl : pre.length ≤ SMALL := by rw [a, List.length_append] at hs; omega
      unfold SMALL at hpl
      rw [h1 n _ x s b c d (getI_at s hx.1 hx2) (by constructor <;> omega)]
      refine k (inc s x) ⟨by rw [inc_len, hi.1], ?_⟩
      have := capM_inc hi.2 hx.1 hx2
      rw [List.length_append, List.length_singleton, show ((K + ((pre.length + 1 : Nat) : Int)) = K + pre.length + 1) by omega]
      exact this) FUEL l0 ⟨rfl, by simpa using hc⟩ (by have := FUEL_ge; unfold SMALL at hs; omega)
theorem capM_incs : ∀ (ps : List Int) (l : List Int) (K : Int), (∀ p ∈ ps, 0 ≤ p ∧ p < l.length) → capM K l → capM (K + ps.length) (incs l ps) := by
  intro ps
  induction ps with
  | nil => intro l K _ h; simpa [incs] using h
  | cons p ps ih =>
    intro l K hp h
    have := ih (inc l p) (K + 1) (fun q hq => by rw [inc_len]; exact hp q (by simp [hq])) (capM_inc h (hp p (by simp)).1 (hp p (by simp)).2)
    rw [List.length_cons, show (K + ((ps.length + 1 : Nat) : Int)) = K + 1 + ps.length by omega]; exact this
end Go.Am.Pl

end
section
/- Plain laws, chapters 4 and 6: what a task gives. Own work. -/
set_option maxRecDepth 100000
set_option linter.unusedVariables false
set_option linter.unusedSimpArgs false
namespace Go.Am.Pl
open Go

def goB (split : Int) (last none_ : Bool) : Bool := bif decide (split = 2) then none_ else bif decide (split = 3) then !last || none_ else true
def splL (split : Int) (data : List Int) : List GFlow → List Int → List Int
  | [], l => l
  | f :: fs, l => if (expHolds f.if_ data && goB split fs.isEmpty l.isEmpty) = true then splL split data fs (l ++ [f.to]) else splL split data fs l
theorem splL_done (data : List Int) : ∀ (fs : List GFlow) (l : List Int), l.isEmpty = false → splL 2 data fs l = l
  | [], l, _ => rfl
  | f :: fs, l, h => by
    unfold splL
    rw [if_neg (by simp [goB, h]), splL_done data fs l h]
theorem splL_len (split : Int) (data : List Int) : ∀ (fs : List GFlow) (l : List Int), (splL split data fs l).length ≤ l.length + fs.length
  | [], l => by simp [splL]
  | f :: fs, l => by
    unfold splL; split
    · have := splL_len split data fs (l ++ [f.to]); simp at this; simp; omega
    · have := splL_len split data fs l; simp; omega
theorem splL_mem (split : Int) (data : List Int) : ∀ (fs : List GFlow) (l : List Int) (p : Int), p ∈ splL split data fs l → p ∈ l ∨ ∃ f ∈ fs, f.to = p
  | [], l, p, h => .inl h
  | f :: fs, l, p, h => by
    unfold splL at h; split at h
    · rcases splL_mem split data fs _ p h with h | ⟨g, hg, e⟩
      · rcases List.mem_append.1 h with h | h
        · exact .inl h
        · simp at h; exact .inr ⟨f, by simp, h.symm⟩
      · exact .inr ⟨g, by simp [hg], e⟩
    · rcases splL_mem split data fs _ p h with h | ⟨g, hg, e⟩
      · exact .inl h
      · exact .inr ⟨g, by simp [hg], e⟩
theorem last_lt {α : Type} {l pre suf : List α} {x : α} (h : l = pre ++ x :: suf) : (decide ((pre.length : Int) < (l.length : Int) - 1)) = !suf.isEmpty := by
  rw [h]
  cases suf with
  | nil => simp
  | cons y s => simp; omega
theorem one_small {l : List Int} {n : Nat} (h : l.length ≤ n) (hn : n < SMALL) {y : Int} : l.length + [y].length ≤ SMALL := by rw [List.length_singleton]; omega
theorem len0 (l : List Int) : decide ((l.length : Int) = 0) = l.isEmpty := by
  cases l with
  | nil => rfl
  | cons x l => simp; omega
theorem len1 (l : List Int) : decide (0 < (l.length : Int)) = !l.isEmpty := by
  cases l with
  | nil => rfl
  | cons x l => simp
theorem spec_SplTo (t : GTask) (data : List Int) (hs : t.out.length ≤ SMALL) (hd : data.length ≤ SMALL) : m_spec_SplTo t data = some (splL t.split data t.out []) := by
  unfold m_spec_SplTo
  refine scan t.out (by unfold SMALL at hs; omega) (m_spec_SplTo_l0 t data m_spec_SplTo_k1 m_spec_SplTo_k2 m_spec_SplTo_k3 m_spec_SplTo_k4) (fun _ suf l => some (splL t.split data suf l)) (fun pre l => l.length ≤ pre.length ∧ (t.split = 2 → l = []))
    (fun n s hi => by rw [m_spec_SplTo_l0, if_neg (by simp)]; rfl)
    (fun n pre x suf s a b c d hi k => ?_) FUEL [] ⟨by simp, fun _ => rfl⟩ (by have := FUEL_ge; unfold SMALL at hs; omega)
  have hpl : pre.length < SMALL := by rw [a, List.length_append, List.length_cons] at hs; omega
  have h1 : t.split ≠ 2 → m_spec_SplTo_l0 t data m_spec_SplTo_k1 m_spec_SplTo_k2 m_spec_SplTo_k3 m_spec_SplTo_k4 n ((pre.length : Int) + 1) (s ++ [x.to]) = some (splL t.split data suf (s ++ [x.to])) := fun h2 => k (s ++ [x.to]) ⟨by simp; exact hi.1, fun h => absurd h h2⟩
  have h2 := k s ⟨by simp; have := hi.1; omega, hi.2⟩
  rw [m_spec_SplTo_l0, if_pos (decide_eq_true c)]
  simp only [b, Option.bind_some, spec_ExpHolds _ _ hd, last_lt a, len0, gd_pos (ok_len1 hs), gd_pos d, gd_pos (one_small hi.1 hpl), h2, splL, m_spec_SplTo_k1, m_spec_SplTo_k2, m_spec_SplTo_k3, goB]
  by_cases e2 : t.split = 2
  · have hn := hi.2 e2
    subst hn
    cases expHolds x.if_ data
    · simp
    · have e3 : t.split ≠ 3 := by omega
      have := splL_done data suf [x.to] rfl
      simp [e2, this]
  · rw [h1 e2]
    cases expHolds x.if_ data <;> by_cases e3 : t.split = 3 <;> cases suf.isEmpty <;> cases s.isEmpty <;> simp [e2, e3]
theorem impl_SplTo (t : GTask) (data : List Int) (hs : t.out.length ≤ SMALL) (hd : data.length ≤ SMALL) : m_impl_SplTo t data = some (splL t.split data t.out []) := by
  unfold m_impl_SplTo
  refine scan t.out (by unfold SMALL at hs; omega) (m_impl_SplTo_l0 t data t.out (t.out.length : Int) m_impl_SplTo_k1) (fun _ suf l => some (splL t.split data suf l)) (fun pre l => l.length ≤ pre.length)
    (fun n s hi => by rw [m_impl_SplTo_l0, if_neg (by simp)]; rfl)
    (fun n pre x suf s a b c d hi k => ?_) FUEL [] (by simp) (by have := FUEL_ge; unfold SMALL at hs; omega)
  have hpl : pre.length < SMALL := by rw [a, List.length_append, List.length_cons] at hs; omega
  have h1 := k (s ++ [x.to]) (by simp; exact hi)
  have h2 := k s (by simp; omega)
  rw [m_impl_SplTo_l0, if_pos (decide_eq_true c)]
  simp only [b, Option.bind_some, impl_ExpHolds _ _ hd, isEmpty_last a, len1, gd_pos (ok_len1 hs), gd_pos d, gd_pos (one_small hi hpl), h1, h2, splL, goB]
  cases expHolds x.if_ data <;> by_cases e2 : t.split = 2 <;> by_cases e3 : t.split = 3 <;> cases suf.isEmpty <;> cases s.isEmpty <;> simp [e2, e3]

/-- No marks at places. -/
def zeros (l : List Int) (ps : List Int) : List Int := ps.foldl (fun l p => l.set p.toNat 0) l
theorem zeros_len (ps : List Int) : ∀ l : List Int, (zeros l ps).length = l.length := by
  induction ps with
  | nil => intro l; rfl
  | cons p ps ih => intro l; show (zeros (l.set p.toNat 0) ps).length = _; rw [ih]; simp
theorem zeros_ok (ps : List Int) : ∀ l : List Int, okM l = true → okM (zeros l ps) = true := by
  induction ps with
  | nil => intro l h; exact h
  | cons p ps ih =>
    intro l h
    refine ih _ (okM_cap.2 fun x hx => ?_)
    rcases List.mem_or_eq_of_mem_set hx with hx | rfl
    · exact okM_cap.1 h x hx
    · omega
theorem zero_scan {β : Type} (ps : List Int) (hs : ps.length ≤ SMALL) (f : Nat → Int → List Int → Option β) (kx : List Int → Option β) (l0 : List Int) (hp : ∀ p ∈ ps, 0 ≤ p ∧ p < l0.length)
    (h0 : ∀ n s, f (n + 1) (ps.length : Int) s = kx s)
    (h1 : ∀ n i p s, getI ps i = some p → i < (ps.length : Int) → ok64 (i + 1) → getI s p = some (atI s p) → f (n + 1) i s = f n (i + 1) (s.set p.toNat 0)) :
    f FUEL 0 l0 = kx (zeros l0 ps) :=
  scan ps (by unfold SMALL at hs; omega) f (fun _ suf l => kx (zeros l suf)) (fun pre l => l.length = l0.length) (fun n s hi => by rw [h0]; rfl)
    (fun n pre x suf s a b c d hi k => by
      have hx := hp x (by rw [a]; simp)
      rw [h1 n _ x s b c d (getI_at s hx.1 (by rw [hi]; exact hx.2))]
      exact k _ (by simpa using hi)) FUEL l0 rfl (by have := FUEL_ge; unfold SMALL at hs; omega)
def giveL (n : GNet) (m : List Int) (t : GTask) (data : List Int) : List Int := incs (zeros m t.clear) (splL t.split data t.out [])
def giveB (n : GNet) (m : List Int) (t : Int) (data : List Int) : List Int × Bool :=
  bif mrkB n m && (inB t 0 ((n.tasks.length : Int) - 1) && (datOk data && okM (giveL n m (atI n.tasks t) data))) then (giveL n m (atI n.tasks t) data, true) else ([], false)
theorem flowsB_to {t : GTask} {places : Int} : ∀ {suf pre : List GFlow}, flowsB t places pre suf = true → ∀ f ∈ suf, 1 ≤ f.to ∧ f.to ≤ places - 1
  | [], _, _, f, hf => by simp at hf
  | x :: suf, pre, h, f, hf => by
    simp only [flowsB, Bool.and_eq_true, inB_iff] at h
    rcases List.mem_cons.1 hf with rfl | hf
    · exact h.1
    · exact flowsB_to h.2.2.2.2 f hf
theorem netB_to {n : GNet} (h : netB n = true) {t : GTask} (ht : t ∈ n.tasks) : ∀ f ∈ t.out, 1 ≤ f.to ∧ f.to ≤ n.places - 1 := by
  simp only [netB, Bool.and_eq_true, List.all_eq_true] at h
  have := h.2.2 t ht
  simp only [taskB, Bool.and_eq_true] at this
  exact flowsB_to this.2.2.2.2.1.2
theorem mrkB_facts {n : GNet} {m : List Int} (h : mrkB n m = true) : netB n = true ∧ (m.length : Int) = n.places ∧ okM m = true := by
  simp only [mrkB, marksB, Bool.and_eq_true, decide_eq_true_eq] at h
  exact ⟨h.1, h.2.1, h.2.2⟩
structure GiveOk (n : GNet) (m : List Int) (t : GTask) (data : List Int) : Prop where
  clears : ∀ p ∈ t.clear, 0 ≤ p ∧ p < m.length
  tos : ∀ p ∈ splL t.split data t.out [], 0 ≤ p ∧ p < (zeros m t.clear).length
  len : (splL t.split data t.out []).length ≤ SMALL
  ok : okM (zeros m t.clear) = true
theorem give_ok {n : GNet} {m : List Int} {t : GTask} {data : List Int} (hm : mrkB n m = true) (ht : t ∈ n.tasks) : GiveOk n m t data := by
  obtain ⟨h1, h2, h3⟩ := mrkB_facts hm
  have T := netB_task h1 ht
  refine ⟨fun p hp => by have := T.clears p hp; omega, fun p hp => ?_, ?_, zeros_ok _ _ h3⟩
  · rcases splL_mem _ _ _ _ _ hp with h | ⟨f, hf, e⟩
    · simp at h
    · have := netB_to h1 ht f hf; rw [zeros_len]; omega
  · have := splL_len t.split data t.out []; have := T.outl; rw [List.length_nil] at *; unfold SMALL; omega
theorem spec_FirGive (n : GNet) (m : List Int) (t : Int) (data : List Int) (hn : n.small) (hm : m.length ≤ SMALL) (hd : data.length ≤ SMALL) : m_spec_FirGive n m t data = some (giveB n m t data) := by
  unfold m_spec_FirGive giveB
  rw [spec_MrkOk n m hn hm, Option.bind_some, gd_pos (ok_len1 hn.1), spec_in, Option.bind_some, spec_DatOk _ hd, Option.bind_some, gd_pos (by simpa using hm)]
  by_cases h1 : mrkB n m = true
  · by_cases h2 : inB t 0 ((n.tasks.length : Int) - 1) = true
    · by_cases h3 : datOk data = true
      · have h2' := inB_iff.1 h2
        have hg := getI_at n.tasks h2'.1 (by omega)
        have ht := atI_mem n.tasks h2'.1 (by omega)
        have G := give_ok (data := data) h1 ht
        rw [if_pos h1, if_pos h2, if_pos h3, h1, h2, h3, List.nil_append]
        rw [zero_scan (atI n.tasks t).clear (hn.2 _ ht).2.2 (m_spec_FirGive_l0 n t (m_spec_FirGive_k1 n t data)) (m_spec_FirGive_k1 n t data) m G.clears (fun n s => by rw [m_spec_FirGive_l0, hg, Option.bind_some, if_neg (by simp)])
          (fun n i p s b c d g => by rw [m_spec_FirGive_l0, hg, Option.bind_some, if_pos (decide_eq_true c), Option.bind_some, b, Option.bind_some, g, Option.bind_some, gd_pos d])]
        unfold m_spec_FirGive_k1
        rw [hg, Option.bind_some, spec_SplTo _ _ (hn.2 _ ht).2.1 hd, Option.bind_some]
        rw [stop_scan _ G.len (m_spec_FirGive_l1 _ m_spec_FirGive_k2) m_spec_FirGive_k2 (some ([], false)) _ G.tos G.ok (fun n s => by rw [m_spec_FirGive_l1, if_neg (by simp)])
          (fun n i p s b c d g o => by rw [m_spec_FirGive_l1, if_pos (decide_eq_true c)]; simp only [b, Option.bind_some, g, gd_pos d, gd_pos o]; rfl)]
        unfold m_spec_FirGive_k2 giveL
        cases okM (incs (zeros m (atI n.tasks t).clear) (splL (atI n.tasks t).split data (atI n.tasks t).out [])) <;> rfl
      · rw [if_pos h1, if_pos h2, if_neg h3, Bool.eq_false_iff.2 h3]; simp
    · rw [if_pos h1, if_neg h2, Bool.eq_false_iff.2 h2]; simp
  · rw [if_neg h1, Bool.eq_false_iff.2 h1]; simp
theorem impl_hasTask (n : GNet) (t : Int) (hn : n.small) : m_impl_NetNet_hasTask n t = some (inB t 0 ((n.tasks.length : Int) - 1)) := by
  unfold m_impl_NetNet_hasTask; rw [gd_pos (ok_len1 hn.1), impl_in]; rfl
theorem impl_FirGive (n : GNet) (m : List Int) (t : Int) (data : List Int) (hn : n.small) (hm : m.length ≤ SMALL) (hd : data.length ≤ SMALL) : m_impl_FirGive n m t data = some (giveB n m t data) := by
  unfold m_impl_FirGive giveB
  rw [impl_MrkOk n m hn hm, Option.bind_some, impl_hasTask n t hn, Option.bind_some, impl_DatOk _ hd, Option.bind_some, impl_cloneInts _ hm, Option.bind_some]
  by_cases h1 : mrkB n m = true
  · by_cases h2 : inB t 0 ((n.tasks.length : Int) - 1) = true
    · by_cases h3 : datOk data = true
      · have h2' := inB_iff.1 h2
        have hg := getI_at n.tasks h2'.1 (by omega)
        have ht := atI_mem n.tasks h2'.1 (by omega)
        have G := give_ok (data := data) h1 ht
        obtain ⟨f1, f2, f3⟩ := mrkB_facts h1
        rw [if_pos h1, if_pos h2, if_pos h3, h1, h2, h3, hg, Option.bind_some]
        rw [zero_scan (atI n.tasks t).clear (hn.2 _ ht).2.2 (m_impl_FirGive_l0 (atI n.tasks t).clear ((atI n.tasks t).clear.length : Int) (m_impl_FirGive_k1 n t data)) (m_impl_FirGive_k1 n t data) m G.clears (fun n s => by rw [m_impl_FirGive_l0, if_neg (by simp)])
          (fun n i p s b c d g => by rw [m_impl_FirGive_l0, if_pos (decide_eq_true c), b, Option.bind_some, g, Option.bind_some, gd_pos d])]
        unfold m_impl_FirGive_k1
        rw [hg, Option.bind_some, impl_SplTo _ _ (hn.2 _ ht).2.1 hd, Option.bind_some]
        rw [inc_scan _ G.len (m_impl_FirGive_l1 _ _ (m_impl_FirGive_k2 n)) (m_impl_FirGive_k2 n) _ 4 (by omega) G.tos (okM_cap.1 G.ok) (fun n s => by rw [m_impl_FirGive_l1, if_neg (by simp)])
          (fun n i p s b c d g o => by rw [m_impl_FirGive_l1, if_pos (decide_eq_true c)]; simp only [b, Option.bind_some, g, gd_pos d, gd_pos o]; rfl)]
        unfold m_impl_FirGive_k2 giveL
        have hl : (incs (zeros m (atI n.tasks t).clear) (splL (atI n.tasks t).split data (atI n.tasks t).out [])).length = m.length := by rw [incs_len, zeros_len]
        rw [impl_marksOk _ _ (by rw [hl]; exact hm), Option.bind_some]
        unfold marksB
        rw [hl, decide_eq_true f2, Bool.true_and]
        show (if okM _ = true then _ else _) = _
        cases okM (incs (zeros m (atI n.tasks t).clear) (splL (atI n.tasks t).split data (atI n.tasks t).out [])) <;> rfl
      · rw [if_pos h1, if_pos h2, if_neg h3, Bool.eq_false_iff.2 h3]; simp
    · rw [if_pos h1, if_neg h2, Bool.eq_false_iff.2 h2]; simp
  · rw [if_neg h1, Bool.eq_false_iff.2 h1]; simp
end Go.Am.Pl

end
section
/- Plain laws, chapter 6: work. Own work. -/
set_option maxRecDepth 100000
set_option linter.unusedVariables false
set_option linter.unusedSimpArgs false
namespace Go.Am.Pl
open Go

theorem giveB_len (n : GNet) (m : List Int) (t : Int) (data : List Int) : (giveB n m t data).1.length ≤ m.length := by
  unfold giveB
  cases mrkB n m && (inB t 0 ((n.tasks.length : Int) - 1) && (datOk data && okM (giveL n m (atI n.tasks t) data)))
  · simp
  · show (giveL n m (atI n.tasks t) data).length ≤ _
    unfold giveL; rw [incs_len, zeros_len]; exact Nat.le_refl _
theorem giveB_one {n : GNet} {m : List Int} {t : Int} {data : List Int} (h : (giveB n m t data).2 = true) : getI (giveB n m t data).1 1 = some (atI (giveB n m t data).1 1) := by
  have hl : (2 : Int) ≤ ((giveB n m t data).1.length : Int) := by
    unfold giveB at h ⊢
    cases e : mrkB n m && (inB t 0 ((n.tasks.length : Int) - 1) && (datOk data && okM (giveL n m (atI n.tasks t) data)))
    · rw [e] at h; cases h
    · show (2 : Int) ≤ ((giveL n m (atI n.tasks t) data).length : Int)
      unfold giveL; rw [incs_len, zeros_len]
      rw [Bool.and_eq_true] at e
      obtain ⟨f1, f2, f3⟩ := mrkB_facts e.1
      have := netB_size f1; omega
  exact getI_at _ (by omega) (by omega)
def datB (data : List Int) (v num : Int) : List Int := if 0 ≤ v then data.set v.toNat num else data
theorem datB_len (data : List Int) (v num : Int) : (datB data v num).length = data.length := by unfold datB; split <;> simp
theorem datOk_len {data : List Int} (h : datOk data = true) : data.length = 3 := by simp only [datOk, Bool.and_eq_true, decide_eq_true_eq] at h; exact h.1
theorem spec_DatSet {data : List Int} {v num : Int} (hd : datOk data = true) (hv : inB v (-1) 2 = true) (hn : inB num (-99) 99 = true) : m_spec_DatSet data v num = some (datB data v num) := by
  have hl := datOk_len hd
  have hv' := inB_iff.1 hv
  have hs : data.length ≤ SMALL := by unfold SMALL; omega
  unfold m_spec_DatSet datB
  rw [spec_DatOk _ hs, Option.bind_some, if_pos hd, spec_in, Option.bind_some, spec_in, Option.bind_some, if_pos hn, gd_pos (by simpa using hs), List.nil_append]
  by_cases h : 0 ≤ v
  · rw [if_pos (inB_iff.2 ⟨h, hv'.2⟩), getI_at data h (by omega), if_pos h]; rfl
  · rw [if_neg (fun e => h (inB_iff.1 e).1), if_neg h, gd_pos (by simpa using hs)]
def itD (b : GItem) : GItem := GItem.mk b.task b.who (b.did + 1)
def doneB (n : GNet) (c : GCase) (k : Int) (data : List Int) : GCase × Bool :=
  if (atI c.busy k).did + 1 < (atI n.tasks (atI c.busy k).task).need then (GCase.mk c.state c.marks (c.busy.set k.toNat (itD (atI c.busy k))) data c.did, true)
  else if (giveB n c.marks (atI c.busy k).task data).2 = true then
    (if 0 < atI (giveB n c.marks (atI c.busy k).task data).1 1 then (GCase.mk 2 (giveB n c.marks (atI c.busy k).task data).1 [] data (c.did ++ [GDid.mk (atI c.busy k).task (atI c.busy k).who]), true)
     else (GCase.mk c.state (giveB n c.marks (atI c.busy k).task data).1 (c.busy.take k.toNat ++ c.busy.drop (k + 1).toNat) data (c.did ++ [GDid.mk (atI c.busy k).task (atI c.busy k).who]), true))
  else (c, false)
def workB (n : GNet) (c : GCase) (k v num : Int) : GCase × Bool :=
  bif casB n c && (decide (c.state = 1) && (inB k 0 ((c.busy.length : Int) - 1) && (inB v (-1) 2 && (inB num (-99) 99 && !decide ((c.did.length : Int) = 60))))) then doneB n c k (datB c.data v num) else (c, false)
theorem spec_CasWork (n : GNet) (c : GCase) (k v num : Int) (hn : n.small) (hc : c.small) : m_spec_CasWork n c k v num = some (workB n c k v num) := by
  unfold m_spec_CasWork workB
  rw [spec_l6Copy c hc, Option.bind_some, spec_CasOk n c hn hc, Option.bind_some, gd_pos (ok_len1 hc.2.1)]
  simp only [spec_in, Option.bind_some]
  by_cases h1 : casB n c = true
  case neg => rw [if_neg h1, Bool.eq_false_iff.2 h1]; rfl
  by_cases h2 : c.state = 1
  case neg => rw [if_pos h1, if_neg (by simpa using h2), decide_eq_false h2]; simp
  by_cases h3 : inB k 0 ((c.busy.length : Int) - 1) = true
  case neg => rw [if_pos h1, if_pos (decide_eq_true h2), if_neg h3, Bool.eq_false_iff.2 h3]; simp
  by_cases h4 : inB v (-1) 2 = true
  case neg => rw [if_pos h1, if_pos (decide_eq_true h2), if_pos h3, if_neg h4, Bool.eq_false_iff.2 h4]; simp
  by_cases h5 : inB num (-99) 99 = true
  case neg => rw [if_pos h1, if_pos (decide_eq_true h2), if_pos h3, if_pos h4, if_neg h5, Bool.eq_false_iff.2 h5]; simp
  by_cases h6 : (c.did.length : Int) = 60
  · rw [if_pos h1, if_pos (decide_eq_true h2), if_pos h3, if_pos h4, if_pos h5, if_pos (decide_eq_true h6), decide_eq_true h6]; simp
  rw [if_pos h1, if_pos (decide_eq_true h2), if_pos h3, if_pos h4, if_pos h5, if_neg (by simpa using h6), h1, decide_eq_true h2, h3, h4, h5, decide_eq_false h6]
  have F := casB_facts h1
  have hk := inB_iff.1 h3
  have hb := atI_mem c.busy hk.1 (by omega)
  obtain ⟨ft, fw, fd⟩ := F.busy _ hb
  have ht := atI_mem n.tasks ft.1 ft.2
  have T := netB_task F.net ht
  have hneed := T.need
  have hall := T.all
  have hl := datOk_len F.data
  have hds : (datB c.data v num).length ≤ SMALL := by rw [datB_len]; unfold SMALL; omega
  have h60 := F.didl
  have hbl := F.busyl
  rw [getI_at c.busy hk.1 (by omega), Option.bind_some, spec_DatSet F.data h4 h5, Option.bind_some, gd_pos (by constructor <;> omega), Option.bind_some, gd_pos (by constructor <;> omega), getI_at n.tasks ft.1 ft.2, Option.bind_some]
  show _ = some (doneB n c k (datB c.data v num))
  unfold doneB
  by_cases h7 : (atI c.busy k).did + 1 < (atI n.tasks (atI c.busy k).task).need
  · rw [if_pos (decide_eq_true h7), if_pos h7]; rfl
  rw [if_neg (by simpa using h7), if_neg h7, spec_FirGive n _ _ _ hn hc.1 hds, Option.bind_some]
  by_cases h8 : (giveB n c.marks (atI c.busy k).task (datB c.data v num)).2 = true
  case neg => rw [if_neg h8, if_neg h8]
  rw [if_pos h8, if_pos h8, gd_pos (by omega), gd_pos (by simp; unfold SMALL; omega), gd_pos (by constructor <;> omega), gd_pos (by omega), gd_pos (by simp; unfold SMALL; omega), gd_pos (by simp; unfold SMALL; omega), giveB_one h8, Option.bind_some]
  by_cases h9 : 0 < atI (giveB n c.marks (atI c.busy k).task (datB c.data v num)).1 1
  · rw [if_pos (decide_eq_true h9), if_pos h9]
  · rw [if_neg (by simpa using h9), if_neg h9]; rfl
theorem impl_CasWork (n : GNet) (c : GCase) (k v num : Int) (hn : n.small) (hc : c.small) : m_impl_CasWork n c k v num = some (workB n c k v num) := by
  unfold m_impl_CasWork workB
  rw [impl_CasClone c hc, Option.bind_some, impl_running n c hn hc, Option.bind_some, gd_pos (ok_len1 hc.2.1)]
  simp only [impl_in, impl_isDatum, Option.bind_some]
  by_cases h1 : casB n c = true
  case neg => rw [Bool.eq_false_iff.2 h1]; rfl
  by_cases h2 : c.state = 1
  case neg => rw [decide_eq_false h2]; simp
  rw [h1, decide_eq_true h2]
  by_cases h3 : inB k 0 ((c.busy.length : Int) - 1) = true
  case neg => rw [Bool.eq_false_iff.2 h3]; simp
  by_cases h4 : inB v (-1) 2 = true
  case neg => rw [h3, Bool.eq_false_iff.2 h4]; simp
  by_cases h5 : inB num (-99) 99 = true
  case neg => rw [h3, h4, Bool.eq_false_iff.2 h5]; simp
  by_cases h6 : (c.did.length : Int) = 60
  · rw [h3, h4, h5, decide_eq_true h6]; simp
  rw [h3, h4, h5, decide_eq_false h6]
  have F := casB_facts h1
  have hk := inB_iff.1 h3
  have hv := inB_iff.1 h4
  have hb := atI_mem c.busy hk.1 (by omega)
  obtain ⟨ft, fw, fd⟩ := F.busy _ hb
  have ht := atI_mem n.tasks ft.1 ft.2
  have T := netB_task F.net ht
  have hneed := T.need
  have hall := T.all
  have hl := datOk_len F.data
  have h60 := F.didl
  have hbl := F.busyl
  have e1 : ∀ x : GItem, (c.busy.set k.toNat x).take k.toNat = c.busy.take k.toNat := fun x => List.take_set_of_le (Nat.le_refl _)
  have e2 : ∀ x : GItem, (c.busy.set k.toNat x).drop (k + 1).toNat = c.busy.drop (k + 1).toNat := fun x => List.drop_set_of_lt (by omega)
  have hD : ∀ x : GItem, m_Delete_GItem (c.busy.set k.toNat x) k (k + 1) = some (c.busy.take k.toNat ++ c.busy.drop (k + 1).toNat) := fun x => by
    unfold m_Delete_GItem; rw [gd_pos (by simp; omega), e1, e2]
  have okd : ok64 ((atI c.busy k).did + 1) := by constructor <;> omega
  have okk : ok64 (k + 1) := by constructor <;> omega
  have hsd : ∀ y : GDid, c.did.length + [y].length ≤ SMALL := fun y => by simp; unfold SMALL; omega
  have cl : ∀ (s : Int) (m : List Int) (b : List GItem) (d : List Int) (y : GDid), m.length ≤ c.marks.length → b.length ≤ c.busy.length → d.length = 3 → m_impl_CasCase_clone (GCase.mk s m b d (c.did ++ [y])) = some (GCase.mk s m b d (c.did ++ [y])) := fun s m b d y hm hb hd =>
    impl_CasClone _ ⟨Nat.le_trans hm hc.1, Nat.le_trans hb hc.2.1, by show d.length ≤ _; unfold SMALL; omega, by show (c.did ++ [y]).length ≤ _; rw [List.length_append]; exact hsd y⟩
  have tdl : (c.busy.take k.toNat ++ c.busy.drop (k + 1).toNat).length ≤ c.busy.length := by simp; omega
  have tail : ∀ data : List Int, data.length = 3 → (if decide ((atI c.busy k).did + 1 < (atI n.tasks (atI c.busy k).task).need) = true then some (GCase.mk c.state c.marks (c.busy.set k.toNat (itD (atI c.busy k))) data c.did, true)
      else (m_impl_FirGive n c.marks (atI c.busy k).task data).bind fun x18 => if x18.2 = true then gd (c.did.length + [GDid.mk (atI c.busy k).task (atI c.busy k).who].length ≤ SMALL) (gd (ok64 (k + 1)) ((m_Delete_GItem (c.busy.set k.toNat (itD (atI c.busy k))) k (k + 1)).bind fun x22 => (getI x18.1 1).bind fun x23 =>
        if decide (0 < x23) = true then (m_impl_CasCase_clone (GCase.mk 2 x18.1 [] data (c.did ++ [GDid.mk (atI c.busy k).task (atI c.busy k).who]))).bind fun x25 => some (x25, true)
        else (m_impl_CasCase_clone (GCase.mk c.state x18.1 x22 data (c.did ++ [GDid.mk (atI c.busy k).task (atI c.busy k).who]))).bind fun x26 => some (x26, true))) else some (c, false)) = some (doneB n c k data) := by
    intro data hdl
    unfold doneB
    by_cases h7 : (atI c.busy k).did + 1 < (atI n.tasks (atI c.busy k).task).need
    · rw [if_pos (decide_eq_true h7), if_pos h7]
    rw [if_neg (by simpa using h7), if_neg h7, impl_FirGive n _ _ _ hn hc.1 (by unfold SMALL; omega), Option.bind_some]
    have hgl := giveB_len n c.marks (atI c.busy k).task data
    by_cases h8 : (giveB n c.marks (atI c.busy k).task data).2 = true
    case neg => rw [if_neg h8, if_neg h8]
    rw [if_pos h8, if_pos h8, gd_pos (hsd _), gd_pos okk, hD, Option.bind_some, giveB_one h8, Option.bind_some]
    by_cases h9 : 0 < atI (giveB n c.marks (atI c.busy k).task data).1 1
    · rw [if_pos (decide_eq_true h9), if_pos h9, cl _ _ _ _ _ hgl (Nat.zero_le _) hdl]; rfl
    · rw [if_neg (by simpa using h9), if_neg h9, cl _ _ _ _ _ hgl tdl hdl]; rfl
  rw [if_pos (show (true && true) = true from rfl), if_pos rfl, if_pos rfl, if_pos rfl, if_neg (by simp)]
  by_cases hv0 : 0 ≤ v
  · rw [if_pos (decide_eq_true hv0), getI_at c.data hv0 (by omega), Option.bind_some, getI_at c.busy hk.1 (by omega), Option.bind_some, gd_pos okd, getI_at n.tasks ft.1 ft.2, Option.bind_some]
    have := tail (datB c.data v num) (by rw [datB_len, hl])
    unfold datB at this ⊢
    rw [if_pos hv0] at this ⊢
    exact this
  · rw [if_neg (by simpa using hv0), getI_at c.busy hk.1 (by omega), Option.bind_some, gd_pos okd, getI_at n.tasks ft.1 ft.2, Option.bind_some]
    have := tail (datB c.data v num) (by rw [datB_len, hl])
    unfold datB at this ⊢
    rw [if_neg hv0] at this ⊢
    exact this
end Go.Am.Pl

end
