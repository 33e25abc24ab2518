/- Plain laws. Own work. -/
import Derived.Test.YtcbpckbehdaloaaGreatDnC2
section
/- Plain laws, chapters 1 and 2: what the mirrors compute. Own work. -/
set_option maxRecDepth 100000
set_option linter.unusedVariables false
set_option linter.unusedSimpArgs false
namespace Go.Am.Pl
open Go

/-! ### Loops over a list -/
theorem getI_mid {α : Type} (pre : List α) (x : α) (suf : List α) : getI (pre ++ x :: suf) (pre.length : Int) = some x := by
  rw [getI_nat]; simp
/-- A loop over the indexes of a list, with state s. -/
theorem scan {α β σ : Type} (l : List α) (hl : l.length ≤ 4611686018427387000) (f : Nat → Int → σ → Option β) (g : List α → List α → σ → Option β) (Inv : List α → σ → Prop)
    (h0 : ∀ n s, Inv l s → f (n + 1) (l.length : Int) s = g l [] s)
    (h1 : ∀ n pre x suf s, l = pre ++ x :: suf → getI l (pre.length : Int) = some x → ((pre.length : Int) < (l.length : Int)) → ok64 ((pre.length : Int) + 1) → Inv pre s →
      (∀ s', Inv (pre ++ [x]) s' → f n ((pre.length : Int) + 1) s' = g (pre ++ [x]) suf s') → f (n + 1) (pre.length : Int) s = g pre (x :: suf) s) :
    ∀ n s, Inv [] s → l.length < n → f n 0 s = g [] l s := by
  have key : ∀ suf pre n s, l = pre ++ suf → Inv pre s → suf.length < n → f n (pre.length : Int) s = g pre suf s := by
    intro suf
    induction suf with
    | nil =>
      intro pre n s hp hi hn
      obtain ⟨m, rfl⟩ : ∃ m, n = m + 1 := ⟨n - 1, by simp at hn; omega⟩
      simp only [List.append_nil] at hp
      subst hp
      exact h0 m s hi
    | cons x suf ih =>
      intro pre n s hp hi hn
      obtain ⟨m, rfl⟩ : ∃ m, n = m + 1 := ⟨n - 1, by simp at hn; omega⟩
      have hlen : l.length = pre.length + suf.length + 1 := by rw [hp]; simp; omega
      refine h1 m pre x suf s hp (by rw [hp]; exact getI_mid pre x suf) (by omega) (by constructor <;> omega) hi ?_
      intro s' hi'
      have := ih (pre ++ [x]) m s' (by rw [hp]; simp) hi' (by simp at hn; omega)
      rw [← this]; simp
  intro n s hi hn
  exact key l [] n s (by simp) hi hn

/-- The same without a state. -/
theorem scan0 {α β : Type} (l : List α) (hl : l.length ≤ 4611686018427387000) (f : Nat → Int → Option β) (g : List α → List α → Option β)
    (h0 : ∀ n, f (n + 1) (l.length : Int) = g l [])
    (h1 : ∀ n pre x suf, l = pre ++ x :: suf → getI l (pre.length : Int) = some x → ((pre.length : Int) < (l.length : Int)) → ok64 ((pre.length : Int) + 1) →
      f n ((pre.length : Int) + 1) = g (pre ++ [x]) suf → f (n + 1) (pre.length : Int) = g pre (x :: suf)) :
    f FUEL 0 = g [] l :=
  scan l hl (fun n i (_ : Unit) => f n i) (fun a b _ => g a b) (fun _ _ => True) (fun n s _ => h0 n) (fun n pre x suf s a b c d e k => h1 n pre x suf a b c d (k () trivial)) FUEL () trivial (by have := FUEL_ge; omega)

def inB (n a b : Int) : Bool := decide (a ≤ n ∧ n ≤ b)
theorem spec_in (n a b : Int) : m_spec_l1In n a b = some (inB n a b) := by
  unfold m_spec_l1In inB; by_cases h : a ≤ n <;> simp [h]
theorem impl_in (n a b : Int) : m_impl_in n a b = some (inB n a b) := by
  unfold m_impl_in inB; by_cases h : a ≤ n <;> simp [h]
theorem iteB (a b : Bool) : (if a = true then some b else some false) = some (a && b) := by cases a <;> rfl
theorem iteN (a b : Bool) : (if a = true then some false else some b) = some (!a && b) := by cases a <;> rfl

/-! ### The library's loops -/
def anyIdx {α : Type} (q : α → Bool) : List α → Int → Int
  | [], _ => -1
  | x :: l, i => if q x then i else anyIdx q l (i + 1)
theorem anyIdx_nonneg {α : Type} (q : α → Bool) : ∀ (l : List α) (i : Int), 0 ≤ i → (decide (0 ≤ anyIdx q l i)) = l.any q
  | [], i, _ => by simp [anyIdx]
  | x :: l, i, h => by
    by_cases hx : q x = true
    · simp [anyIdx, hx, h]
    · simp [anyIdx, hx, anyIdx_nonneg q l (i + 1) (by omega)]


theorem IndexFunc_I (s : List Int) (hs : s.length ≤ SMALL) (p : Int → Option Bool) (q : Int → Bool) (hp : ∀ x ∈ s, p x = some (q x)) : m_IndexFunc_I s p = some (anyIdx q s 0) := by
  unfold m_IndexFunc_I
  have := scan0 s (by unfold SMALL at hs; omega) (m_IndexFunc_I_l0 s p (s.length : Int) m_IndexFunc_I_k1) (fun pre suf => some (anyIdx q suf pre.length))
    (fun n => by rw [m_IndexFunc_I_l0, if_neg (by simp)]; rfl)
    (fun n pre x suf hl hg hlt hok ih => by
      rw [m_IndexFunc_I_l0, if_pos (decide_eq_true hlt), hg, Option.bind_some, hp x (by rw [hl]; simp), Option.bind_some, gd_pos hok, ih, anyIdx]
      by_cases hx : q x = true
      · rw [if_pos hx, if_pos hx]
      · rw [if_neg hx, if_neg hx]; simp)
  simpa using this
theorem ContainsFunc_I (s : List Int) (hs : s.length ≤ SMALL) (p : Int → Option Bool) (q : Int → Bool) (hp : ∀ x ∈ s, p x = some (q x)) : m_ContainsFunc_I s p = some (s.any q) := by
  unfold m_ContainsFunc_I
  rw [IndexFunc_I s hs p q hp, Option.bind_some, anyIdx_nonneg q s 0 (Int.le_refl _)]

theorem IndexFunc_GTask (s : List GTask) (hs : s.length ≤ SMALL) (p : GTask → Option Bool) (q : GTask → Bool) (hp : ∀ x ∈ s, p x = some (q x)) : m_IndexFunc_GTask s p = some (anyIdx q s 0) := by
  unfold m_IndexFunc_GTask
  have := scan0 s (by unfold SMALL at hs; omega) (m_IndexFunc_GTask_l0 s p (s.length : Int) m_IndexFunc_GTask_k1) (fun pre suf => some (anyIdx q suf pre.length))
    (fun n => by rw [m_IndexFunc_GTask_l0, if_neg (by simp)]; rfl)
    (fun n pre x suf hl hg hlt hok ih => by
      rw [m_IndexFunc_GTask_l0, if_pos (decide_eq_true hlt), hg, Option.bind_some, hp x (by rw [hl]; simp), Option.bind_some, gd_pos hok, ih, anyIdx]
      by_cases hx : q x = true
      · rw [if_pos hx, if_pos hx]
      · rw [if_neg hx, if_neg hx]; simp)
  simpa using this
theorem ContainsFunc_GTask (s : List GTask) (hs : s.length ≤ SMALL) (p : GTask → Option Bool) (q : GTask → Bool) (hp : ∀ x ∈ s, p x = some (q x)) : m_ContainsFunc_GTask s p = some (s.any q) := by
  unfold m_ContainsFunc_GTask
  rw [IndexFunc_GTask s hs p q hp, Option.bind_some, anyIdx_nonneg q s 0 (Int.le_refl _)]

theorem IndexFunc_GItem (s : List GItem) (hs : s.length ≤ SMALL) (p : GItem → Option Bool) (q : GItem → Bool) (hp : ∀ x ∈ s, p x = some (q x)) : m_IndexFunc_GItem s p = some (anyIdx q s 0) := by
  unfold m_IndexFunc_GItem
  have := scan0 s (by unfold SMALL at hs; omega) (m_IndexFunc_GItem_l0 s p (s.length : Int) m_IndexFunc_GItem_k1) (fun pre suf => some (anyIdx q suf pre.length))
    (fun n => by rw [m_IndexFunc_GItem_l0, if_neg (by simp)]; rfl)
    (fun n pre x suf hl hg hlt hok ih => by
      rw [m_IndexFunc_GItem_l0, if_pos (decide_eq_true hlt), hg, Option.bind_some, hp x (by rw [hl]; simp), Option.bind_some, gd_pos hok, ih, anyIdx]
      by_cases hx : q x = true
      · rw [if_pos hx, if_pos hx]
      · rw [if_neg hx, if_neg hx]; simp)
  simpa using this
theorem ContainsFunc_GItem (s : List GItem) (hs : s.length ≤ SMALL) (p : GItem → Option Bool) (q : GItem → Bool) (hp : ∀ x ∈ s, p x = some (q x)) : m_ContainsFunc_GItem s p = some (s.any q) := by
  unfold m_ContainsFunc_GItem
  rw [IndexFunc_GItem s hs p q hp, Option.bind_some, anyIdx_nonneg q s 0 (Int.le_refl _)]

theorem Index_I (s : List Int) (hs : s.length ≤ SMALL) (v : Int) : m_Index_I s v = some (anyIdx (fun x => decide (v = x)) s 0) := by
  unfold m_Index_I
  have := scan0 s (by unfold SMALL at hs; omega) (m_Index_I_l0 s v (s.length : Int) m_Index_I_k1) (fun pre suf => some (anyIdx (fun x => decide (v = x)) suf pre.length))
    (fun n => by rw [m_Index_I_l0, if_neg (by simp)]; rfl)
    (fun n pre x suf hl hg hlt hok ih => by
      rw [m_Index_I_l0, if_pos (decide_eq_true hlt), hg, Option.bind_some, gd_pos hok, ih, anyIdx]
      by_cases hx : decide (v = x) = true
      · rw [if_pos hx, if_pos hx]
      · rw [if_neg hx, if_neg hx]; simp)
  simpa using this
theorem Contains_I (s : List Int) (hs : s.length ≤ SMALL) (v : Int) : m_Contains_I s v = some (s.any (fun x => decide (v = x))) := by
  unfold m_Contains_I
  rw [Index_I s hs, Option.bind_some, anyIdx_nonneg _ s 0 (Int.le_refl _)]

/-! ### Chapter 1 -/
def datOk (l : List Int) : Bool := decide (l.length = 3) && l.all (fun x => inB x (-99) 99)
theorem spec_DatOk (l : List Int) (hl : l.length ≤ SMALL) : m_spec_DatOk l = some (datOk l) := by
  unfold m_spec_DatOk datOk
  have := scan0 l (by unfold SMALL at hl; omega) (m_spec_DatOk_l0 l m_spec_DatOk_k1) (fun _ suf => some (suf.all (fun x => inB x (-99) 99)))
    (fun n => by rw [m_spec_DatOk_l0, if_neg (by simp)]; rfl)
    (fun n pre x suf hl hg hlt hok ih => by
      rw [m_spec_DatOk_l0, if_pos (decide_eq_true hlt), hg, Option.bind_some, spec_in, Option.bind_some, gd_pos hok, ih, iteB, List.all_cons])
  rw [this]
  rw [iteB]
  congr 2
  exact decide_eq_decide.2 (by omega)
theorem impl_isDatum (n : Int) : m_impl_isDatum n = some (inB n (-99) 99) := by unfold m_impl_isDatum; rw [impl_in]; rfl
theorem all_not_any {α : Type} (l : List α) (q : α → Bool) : (!l.any (fun x => !q x)) = l.all q := by
  induction l with
  | nil => rfl
  | cons x l ih => rw [List.any_cons, List.all_cons, ← ih]; cases q x <;> simp
theorem impl_DatOk (l : List Int) (hl : l.length ≤ SMALL) : m_impl_DatOk l = some (datOk l) := by
  unfold m_impl_DatOk datOk
  rw [ContainsFunc_I l hl _ (fun n => !inB n (-99) 99) (fun x _ => by unfold m_impl_DatOk_1; rw [impl_isDatum]; rfl), Option.bind_some, all_not_any, iteB]
  congr 2
  exact decide_eq_decide.2 (by omega)
def expOk (e : GAsk) : Bool := bif decide (e.op = 0) then decide (e.var = 0) && decide (e.k = 0) else inB e.op 1 3 && inB e.var 0 2 && inB e.k (-99) 99
theorem spec_ExpOk (e : GAsk) : m_spec_ExpOk e = some (expOk e) := by
  unfold m_spec_ExpOk expOk
  simp only [spec_in, Option.bind_some, iteB]
  by_cases h : e.op = 0
  · simp [h]
  · simp [h, Bool.and_assoc]
theorem impl_ExpOk (e : GAsk) : m_impl_ExpOk e = some (expOk e) := by
  unfold m_impl_ExpOk expOk
  simp only [impl_in, impl_isDatum, Option.bind_some, iteB]
  by_cases h : e.op = 0
  · simp [h]
  · simp [h, Bool.and_assoc]

end Go.Am.Pl

end
section
/- Plain laws, chapter 2: nets. Own work. -/
set_option maxRecDepth 100000
set_option linter.unusedVariables false
set_option linter.unusedSimpArgs false
namespace Go.Am.Pl
open Go

/-- Ascending, above p, up to high. -/
def asc (high : Int) : Int → List Int → Bool
  | _, [] => true
  | p, x :: l => inB x (p + 1) high && asc high x l
def ascS (low high : Int) : Option Int → List Int → Bool
  | _, [] => true
  | p, x :: l => inB x low high && (p.all (fun y => decide (y < x)) && ascS low high (some x) l)
theorem ascS_asc (low high : Int) : ∀ (l : List Int) (p : Option Int), (∀ y, p = some y → low ≤ y) → ascS low high p l = asc high (p.getD (low - 1)) l
  | [], p, _ => rfl
  | x :: l, p, h => by
    simp only [ascS, asc]
    by_cases hx : low ≤ x
    · rw [ascS_asc low high l (some x) (fun y hy => by cases hy; exact hx), ← Bool.and_assoc]
      congr 1
      cases p with
      | none => simp [inB]
      | some y => have := h y rfl; rw [Bool.eq_iff_iff]; simp [inB]; omega
    · have h1 : inB x low high = false := by simp [inB]; omega
      have h2 : inB x (p.getD (low - 1) + 1) high = false := by
        cases p with
        | none => simp [inB]; omega
        | some y => have := h y rfl; simp [inB]; omega
      rw [h1, h2]; rfl
theorem asc_len (high : Int) : ∀ (l : List Int) (p : Int), p ≤ high → asc high p l = true → (l.length : Int) ≤ high - p
  | [], p, h, _ => by simp; omega
  | x :: l, p, h, ha => by
    simp only [asc, Bool.and_eq_true, inB, decide_eq_true_eq] at ha
    have := asc_len high l x ha.1.2 ha.2
    simp only [List.length_cons]; omega

theorem getI_last {α : Type} (pre : List α) (y : α) (suf : List α) : getI (pre ++ y :: suf) ((((pre ++ [y]).length : Nat) : Int) - 1) = some y := by
  have : ((((pre ++ [y]).length : Nat) : Int) - 1) = (pre.length : Int) := by simp
  rw [this]; exact getI_mid pre y suf

theorem spec_l2Rises (l : List Int) (least most low high : Int) (hl : l.length ≤ SMALL) : m_spec_l2Rises l least most low high = some (inB l.length least most && asc high (low - 1) l) := by
  unfold m_spec_l2Rises
  have := scan0 l (by unfold SMALL at hl; omega) (m_spec_l2Rises_l0 l low high m_spec_l2Rises_k1) (fun pre suf => some (ascS low high pre.getLast? suf))
    (fun n => by rw [m_spec_l2Rises_l0, if_neg (by simp)]; rfl)
    (fun n pre x suf hl hg hlt hok ih => by
      rw [m_spec_l2Rises_l0, if_pos (decide_eq_true hlt), hg]
      simp only [Option.bind_some, spec_in, gd_pos hok, ih]
      rw [ascS]
      by_cases hx : inB x low high = true
      · rw [if_pos hx, hx, Bool.true_and]
        rcases List.eq_nil_or_concat pre with rfl | ⟨pre', y, rfl⟩
        · simp
        · simp only [List.concat_eq_append] at hl hlt hg hok ih ⊢
          have h1 : (((pre' ++ [y]).length : Nat) : Int) = (pre'.length : Int) + 1 := by simp
          have h2 : getI l ((((pre' ++ [y]).length : Nat) : Int) - 1) = some y := by rw [hl, List.append_assoc]; exact getI_last pre' y _
          rw [if_pos (decide_eq_true (by omega)), gd_pos (by constructor <;> omega), h2]
          simp only [Option.bind_some]
          by_cases hy : x ≤ y
          · rw [if_pos (decide_eq_true hy)]; simp; omega
          · rw [if_neg (by simpa using hy)]; simp; omega
      · rw [if_neg hx, Bool.eq_false_iff.2 hx]; rfl)
  rw [this, spec_in, Option.bind_some, iteB, ascS_asc low high l _ (fun y hy => by simp at hy)]
  rfl
theorem spec_l2Has (l : List Int) (k : Int) (hl : l.length ≤ SMALL) : m_spec_l2Has l k = some (l.any (fun x => decide (x = k))) := by
  unfold m_spec_l2Has
  exact scan0 l (by unfold SMALL at hl; omega) (m_spec_l2Has_l0 l k m_spec_l2Has_k1) (fun _ suf => some (suf.any (fun x => decide (x = k))))
    (fun n => by rw [m_spec_l2Has_l0, if_neg (by simp)]; rfl)
    (fun n pre x suf hl hg hlt hok ih => by
      rw [m_spec_l2Has_l0, if_pos (decide_eq_true hlt), hg, Option.bind_some, gd_pos hok, ih, List.any_cons]
      by_cases hx : x = k <;> simp [hx])

def ascW (high : Int) (w : List Int) : Int → List Int → Bool
  | _, [] => true
  | p, x :: l => inB x (p + 1) high && (!w.any (fun y => decide (x = y)) && ascW high w x l)
theorem ascW_asc (high : Int) (w : List Int) : ∀ (l : List Int) (p : Int), ascW high w p l = (asc high p l && !l.any (fun x => w.any (fun y => decide (x = y))))
  | [], p => rfl
  | x :: l, p => by
    simp only [ascW, asc, List.any_cons, ascW_asc high w l x]
    cases inB x (p + 1) high <;> cases w.any (fun y => decide (x = y)) <;> cases asc high x l <;> cases l.any (fun x => w.any (fun y => decide (x = y))) <;> rfl

theorem impl_ascends (l : List Int) (places : Int) (w : List Int) (hl : l.length ≤ SMALL) (hw : w.length ≤ SMALL) (hp : 0 ≤ places ∧ places ≤ 100) :
    m_impl_ascends l places w = some (ascW (places - 1) w (-1) l) := by
  unfold m_impl_ascends
  have := scan l (by unfold SMALL at hl; omega) (fun n i s => m_impl_ascends_l0 l places w (l.length : Int) m_impl_ascends_k1 n i s) (fun _ suf s => some (ascW (places - 1) w s suf)) (fun _ s => -1 ≤ s ∧ s ≤ 100)
    (fun n s _ => by rw [m_impl_ascends_l0, if_neg (by simp)]; rfl)
    (fun n pre x suf s hl hg hlt hok hi ih => by
      rw [m_impl_ascends_l0, if_pos (decide_eq_true hlt), hg, Option.bind_some, gd_pos (by constructor <;> omega), gd_pos (by constructor <;> omega), impl_in, Option.bind_some, Contains_I w hw, Option.bind_some, gd_pos hok, ascW]
      by_cases hx : inB x (s + 1) (places - 1) = true
      · have hx' : s + 1 ≤ x ∧ x ≤ places - 1 := by simpa [inB] using hx
        rw [if_pos hx, hx, Bool.true_and, ih x ⟨by omega, by omega⟩, iteN]
      · rw [if_neg hx, Bool.eq_false_iff.2 hx]; rfl) FUEL (-1) ⟨by omega, by omega⟩ (by have := FUEL_ge; unfold SMALL at hl; omega)
  exact this

/-! ### Flows -/
theorem ok_len1 {α : Type} {l : List α} (h : l.length ≤ SMALL) : ok64 ((l.length : Int) - 1) := by unfold SMALL at h; constructor <;> omega
theorem ok_pl {places : Int} (hp : 0 ≤ places ∧ places ≤ 100) : ok64 (places - 1) := by constructor <;> omega
def flowsB (t : GTask) (places : Int) : List GFlow → List GFlow → Bool
  | _, [] => true
  | pre, x :: suf => inB x.to 1 (places - 1) && (expOk x.if_ && (((decide (t.split = 1) || suf.isEmpty) == decide (x.if_.op = 0)) && (!pre.any (fun y => decide (y.to = x.to)) && flowsB t places (pre ++ [x]) suf)))

theorem getI_left {α : Type} {l pre suf : List α} {k : Int} {x : α} (hl : l = pre ++ suf) (h : getI pre k = some x) : getI l k = some x := by
  obtain ⟨h0, h1, h2⟩ := getI_some h
  unfold getI; rw [if_pos h0, hl, List.getElem?_append_left h1]; exact h2

theorem spec_flows_in1 (t : GTask) (pre suf : List GFlow) (hl : t.out = pre ++ suf) (hs : t.out.length ≤ SMALL) (x : GFlow) (i : Int) (hi : i = pre.length) (kx : Option Bool) :
    m_spec_l2Flows_l1 t i x kx FUEL 0 = if (pre.any fun y => decide (y.to = x.to)) = true then some false else kx := by
  subst hi
  have hp : pre.length ≤ 4611686018427387000 := by have := congrArg List.length hl; simp at this; unfold SMALL at hs; omega
  exact scan0 pre hp (m_spec_l2Flows_l1 t pre.length x kx) (fun _ suf => if (suf.any fun y => decide (y.to = x.to)) = true then some false else kx)
    (fun n => by rw [m_spec_l2Flows_l1, if_neg (by simp)]; rfl)
    (fun n p y s hl' hg hlt hok ih => by
      rw [m_spec_l2Flows_l1, if_pos (decide_eq_true hlt), getI_left hl hg, Option.bind_some, gd_pos hok, ih, List.any_cons]
      by_cases hx : y.to = x.to <;> simp [hx])
theorem isEmpty_last {α : Type} {l pre suf : List α} {x : α} (h : l = pre ++ x :: suf) : (decide ((pre.length : Int) = (l.length : Int) - 1)) = suf.isEmpty := by
  rw [h]
  cases suf with
  | nil => simp
  | cons y s => simp; omega

theorem spec_l2Flows (t : GTask) (places : Int) (hs : t.out.length ≤ SMALL) (hp : 0 ≤ places ∧ places ≤ 100) : m_spec_l2Flows t places = some (inB t.out.length 1 3 && flowsB t places [] t.out) := by
  unfold m_spec_l2Flows
  have := scan0 t.out (by unfold SMALL at hs; omega) (m_spec_l2Flows_l0 t places m_spec_l2Flows_k3) (fun pre suf => some (flowsB t places pre suf))
    (fun n => by rw [m_spec_l2Flows_l0, if_neg (by simp)]; rfl)
    (fun n pre x suf hl hg hlt hok ih => by
      rw [m_spec_l2Flows_l0, if_pos (decide_eq_true hlt), hg, Option.bind_some, gd_pos (ok_len1 hs), isEmpty_last hl, flowsB]
      simp only [gd_pos (ok_pl hp), spec_in, spec_ExpOk, Option.bind_some, spec_flows_in1 t pre _ hl hs x _ rfl, m_spec_l2Flows_k1, m_spec_l2Flows_k2, gd_pos hok, ih]
      cases suf.isEmpty <;> cases inB x.to 1 (places - 1) <;> cases expOk x.if_ <;> cases decide (x.if_.op = 0) <;> cases decide (t.split = 1) <;> cases (pre.any fun y => decide (y.to = x.to)) <;> simp)
  rw [this, spec_in, Option.bind_some, iteB]

theorem impl_outOk (t : GTask) (places : Int) (hs : t.out.length ≤ SMALL) (hp : 0 ≤ places ∧ places ≤ 100) : m_impl_NetTask_outOk t places = some (flowsB t places [] t.out && inB t.out.length 1 3) := by
  unfold m_impl_NetTask_outOk
  have := scan t.out (by unfold SMALL at hs; omega) (fun n i s => m_impl_NetTask_outOk_l0 t places t.out (t.out.length : Int) (m_impl_NetTask_outOk_k1 t) n i s) (fun pre suf _ => some (flowsB t places pre suf && inB t.out.length 1 3)) (fun pre s => ∀ k, k ∈ s ↔ k = 0 ∨ ∃ y ∈ pre, y.to = k)
    (fun n s _ => by rw [m_impl_NetTask_outOk_l0, if_neg (by simp), m_impl_NetTask_outOk_k1, impl_in]; rfl)
    (fun n pre x suf s hl hg hlt hok hi ih => by
      have ih' := ih (insKey s x.to) (by
        intro k
        simp only [List.mem_append, List.mem_singleton]
        unfold insKey
        split
        · rename_i hin
          rw [hi k]
          constructor
          · rintro (h | ⟨y, hy, h⟩)
            · exact .inl h
            · exact .inr ⟨y, .inl hy, h⟩
          · rintro (h | ⟨y, hy | hy, h⟩)
            · exact .inl h
            · exact .inr ⟨y, hy, h⟩
            · subst hy; rw [← h]; exact (hi _).1 hin
        · rw [List.mem_append, List.mem_singleton, hi k]
          constructor
          · rintro ((h | ⟨y, hy, h⟩) | h)
            · exact .inl h
            · exact .inr ⟨y, .inl hy, h⟩
            · exact .inr ⟨x, .inr rfl, h.symm⟩
          · rintro (h | ⟨y, hy | hy, h⟩)
            · exact .inl (.inl h)
            · exact .inl (.inr ⟨y, hy, h⟩)
            · subst hy; exact .inr h.symm)
      rw [m_impl_NetTask_outOk_l0, if_pos (decide_eq_true hlt), hg, Option.bind_some, isEmpty_last hl, flowsB]
      simp only [gd_pos (ok_len1 hs), gd_pos (ok_pl hp), impl_in, impl_ExpOk, Option.bind_some, gd_pos hok, ih']
      have hin : (decide (x.to ∈ s)) = (decide (x.to = 0) || pre.any fun y => decide (y.to = x.to)) := by
        rw [Bool.eq_iff_iff]; simp [hi x.to]
      rw [hin]
      have h01 : inB x.to 0 (places - 1) = (inB x.to 1 (places - 1) || (decide (x.to = 0) && decide (0 ≤ places - 1))) := by rw [Bool.eq_iff_iff]; simp [inB]; omega
      have h02 : x.to = 0 → inB x.to 1 (places - 1) = false := by intro h; simp [inB, h]
      rw [h01]
      by_cases hz : x.to = 0
      · rw [h02 hz]; simp [hz]
      · simp only [hz, decide_false, Bool.false_and, Bool.or_false, Bool.false_or]
        cases suf.isEmpty <;> cases inB x.to 1 (places - 1) <;> cases expOk x.if_ <;> cases decide (x.if_.op = 0) <;> by_cases hsp : t.split = 1 <;> cases (pre.any fun y => decide (y.to = x.to)) <;> simp [hsp]) FUEL (insKey [] 0) (by intro k; simp [insKey]) (by have := FUEL_ge; unfold SMALL at hs; omega)
  exact this

/-! ### Tasks, nets -/
def taskB (t : GTask) (places tasks : Int) : Bool :=
  inB t.join 1 3 && (inB t.split 1 3 && ((inB t.in_.length 1 3 && asc (places - 1) (-1) t.in_) && (!t.in_.any (fun x => decide (x = 1)) && ((inB t.out.length 1 3 && flowsB t places [] t.out) &&
    ((inB t.clear.length 0 places && asc (places - 1) 1 t.clear) && (inB t.role 1 3 && (inB t.apart (-1) (tasks - 1) && (inB t.all 1 3 && inB t.need 1 t.all))))))))
end Go.Am.Pl
namespace Go.Am
def GTask.small (t : GTask) : Prop := t.in_.length ≤ SMALL ∧ t.out.length ≤ SMALL ∧ t.clear.length ≤ SMALL
end Go.Am
namespace Go.Am.Pl
theorem spec_l2Task (t : GTask) (places tasks : Int) (hs : t.small) (hp : 0 ≤ places ∧ places ≤ 100) (ht : 0 ≤ tasks ∧ tasks ≤ SMALL) : m_spec_l2Task t places tasks = some (taskB t places tasks) := by
  obtain ⟨h1, h2, h3⟩ := hs
  unfold m_spec_l2Task taskB
  have ht' : ok64 (tasks - 1) := by unfold SMALL at ht; constructor <;> omega
  simp only [spec_in, Option.bind_some, gd_pos (ok_pl hp), gd_pos ht', spec_l2Rises _ _ _ _ _ h1, spec_l2Rises _ _ _ _ _ h3, spec_l2Has _ _ h1, spec_l2Flows t places h2 hp, iteB, iteN]
  rfl
theorem clear_eq (places : Int) (hp : 0 ≤ places) (l : List Int) : ascW (places - 1) [0, 1] (-1) l = (inB l.length 0 places && asc (places - 1) 1 l) := by
  rw [ascW_asc]
  have key : ∀ (l : List Int) (p : Int), 1 ≤ p → (asc (places - 1) p l && !l.any (fun x => [0, 1].any (fun y => decide (x = y)))) = asc (places - 1) p l := by
    intro l
    induction l with
    | nil => intro p _; rfl
    | cons x l ih =>
      intro p hp'
      by_cases hx : inB x (p + 1) (places - 1) = true
      · have hx' : p + 1 ≤ x := by simp [inB] at hx; omega
        have h01 : ([0, 1].any fun y => decide (x = y)) = false := by simp; omega
        simp only [asc, hx, Bool.true_and, List.any_cons (l := l), h01, Bool.false_or]
        exact ih x (by omega)
      · simp only [asc, Bool.eq_false_iff.2 hx, Bool.false_and]
  cases l with
  | nil => simp [asc, inB]; exact hp
  | cons x l =>
    by_cases hx : inB x 2 (places - 1) = true
    · have hx' : 2 ≤ x ∧ x ≤ places - 1 := by simpa [inB] using hx
      have h01 : ([0, 1].any fun y => decide (x = y)) = false := by simp; omega
      have h1 : inB x (-1 + 1) (places - 1) = true := by simp [inB]; omega
      have h2 : inB x (1 + 1) (places - 1) = true := by simp [inB]; omega
      simp only [asc, h1, h2, Bool.true_and, List.any_cons (l := l), h01, Bool.false_or, key l x (by omega)]
      cases ha : asc (places - 1) x l with
      | false => simp
      | true =>
        have := asc_len (places - 1) l x (by omega) ha
        simp [inB]; omega
    · have h2 : inB x (1 + 1) (places - 1) = false := Bool.eq_false_iff.2 hx
      simp only [asc, h2, Bool.false_and, Bool.and_false]
      by_cases h1 : inB x (-1 + 1) (places - 1) = true
      · have h01 : ([0, 1].any fun y => decide (x = y)) = true := by simp [inB] at hx h1 ⊢; omega
        simp only [List.any_cons (l := l), h01, Bool.true_or, Bool.not_true, Bool.and_false]
      · rw [Bool.eq_false_iff.2 h1]; rfl
theorem in_eq (places : Int) (l : List Int) : ascW (places - 1) [1] (-1) l = (asc (places - 1) (-1) l && !l.any (fun x => decide (x = 1))) := by
  rw [ascW_asc]; simp
theorem impl_ok (t : GTask) (places tasks : Int) (hs : t.small) (hp : 0 ≤ places ∧ places ≤ 100) (ht : 0 ≤ tasks ∧ tasks ≤ SMALL) : m_impl_NetTask_ok t places tasks = some (taskB t places tasks) := by
  obtain ⟨h1, h2, h3⟩ := hs
  unfold m_impl_NetTask_ok taskB
  have ht' : ok64 (tasks - 1) := by unfold SMALL at ht; constructor <;> omega
  simp only [m_impl_isKind, m_impl_isRole, impl_in, Option.bind_some, gd_pos ht', impl_ascends _ _ [1] h1 (by unfold SMALL; decide) hp, impl_ascends _ _ [0, 1] h3 (by unfold SMALL; decide) hp, impl_outOk t places h2 hp, iteB, in_eq, clear_eq places hp.1]
  congr 1
  generalize inB t.join 1 3 = a; generalize inB t.split 1 3 = b; generalize inB t.in_.length 1 3 = c; generalize asc (places - 1) (-1) t.in_ = d; generalize t.in_.any (fun x => decide (x = 1)) = e
  generalize flowsB t places [] t.out = f; generalize inB t.out.length 1 3 = g; generalize (inB t.clear.length 0 places && asc (places - 1) 1 t.clear) = h
  cases a <;> cases b <;> cases c <;> cases d <;> cases e <;> cases f <;> cases g <;> simp

def netB (n : GNet) : Bool := inB n.places 2 8 && (inB n.tasks.length 1 6 && n.tasks.all (fun t => taskB t n.places n.tasks.length))
end Go.Am.Pl
namespace Go.Am
def GNet.small (n : GNet) : Prop := n.tasks.length ≤ SMALL ∧ ∀ t ∈ n.tasks, t.small
end Go.Am
namespace Go.Am.Pl
theorem spec_NetOk (n : GNet) (hs : n.small) : m_spec_NetOk n = some (netB n) := by
  unfold m_spec_NetOk netB
  simp only [spec_in, Option.bind_some]
  by_cases hp : inB n.places 2 8 = true
  · have hp' : 0 ≤ n.places ∧ n.places ≤ 100 := by simp [inB] at hp; omega
    have := scan0 n.tasks (by have := hs.1; unfold SMALL at this; omega) (m_spec_NetOk_l0 n m_spec_NetOk_k1) (fun _ suf => some (suf.all (fun t => taskB t n.places n.tasks.length)))
      (fun k => by rw [m_spec_NetOk_l0, if_neg (by simp)]; rfl)
      (fun k pre x suf hl hg hlt hok ih => by
        rw [m_spec_NetOk_l0, if_pos (decide_eq_true hlt), hg, Option.bind_some, spec_l2Task x _ _ (hs.2 x (by rw [hl]; simp)) hp' ⟨by omega, by exact_mod_cast hs.1⟩, Option.bind_some, gd_pos hok, ih, iteB, List.all_cons])
    rw [this, if_pos hp, hp, iteB, Bool.true_and]
  · rw [if_neg hp, Bool.eq_false_iff.2 hp]; rfl
theorem impl_NetOk (n : GNet) (hs : n.small) : m_impl_NetOk n = some (netB n) := by
  unfold m_impl_NetOk netB m_impl_sizesOk
  simp only [impl_in, Option.bind_some, iteB]
  by_cases hp : inB n.places 2 8 = true
  · have hp' : 0 ≤ n.places ∧ n.places ≤ 100 := by simp [inB] at hp; omega
    rw [ContainsFunc_GTask n.tasks hs.1 _ (fun t => !taskB t n.places n.tasks.length) (fun t ht => by
      unfold m_impl_NetOk_1; rw [impl_ok t _ _ (hs.2 t ht) hp' ⟨by omega, by exact_mod_cast hs.1⟩]; rfl), Option.bind_some, all_not_any, iteB, hp]
    rfl
  · rw [Bool.eq_false_iff.2 hp]; rfl

end Go.Am.Pl

end
section
/- Plain laws, chapters 3, 5, 6, 7, 9: what is in order. Own work. -/
set_option maxRecDepth 100000
set_option linter.unusedVariables false
set_option linter.unusedSimpArgs false
namespace Go.Am.Pl
open Go

deriving instance Inhabited for GAsk, GFlow, GTask, GNet, GItem, GDid, GCase, GNode, GRun, GHouse, GReq

theorem getI_ok {α : Type} (l : List α) {i : Int} (h0 : 0 ≤ i) (h1 : i < l.length) : ∃ x, getI l i = some x ∧ x ∈ l := by
  obtain ⟨n, rfl⟩ := Int.eq_ofNat_of_zero_le h0
  have hn : n < l.length := by omega
  exact ⟨l[n], by rw [getI_nat, List.getElem?_eq_getElem hn], List.getElem_mem hn⟩
/-- The element, of a list that has it. -/
def atI {α : Type} [Inhabited α] (l : List α) (i : Int) : α := (getI l i).getD default
theorem getI_at {α : Type} [Inhabited α] (l : List α) {i : Int} (h0 : 0 ≤ i) (h1 : i < l.length) : getI l i = some (atI l i) := by
  obtain ⟨x, hx, _⟩ := getI_ok l h0 h1
  unfold atI; rw [hx]; rfl
theorem atI_mem {α : Type} [Inhabited α] (l : List α) {i : Int} (h0 : 0 ≤ i) (h1 : i < l.length) : atI l i ∈ l := by
  obtain ⟨x, hx, hm⟩ := getI_ok l h0 h1
  unfold atI; rw [hx]; exact hm
theorem inB_iff {n a b : Int} : inB n a b = true ↔ a ≤ n ∧ n ≤ b := by simp [inB]

def expHolds (e : GAsk) (data : List Int) : Bool :=
  expOk e && (datOk data && (bif decide (e.op = 1) then decide (atI data e.var < e.k) else bif decide (e.op = 2) then decide (atI data e.var = e.k) else bif decide (e.op = 3) then decide (e.k < atI data e.var) else true))
theorem expOk_var {e : GAsk} {data : List Int} (h : expOk e = true) (hd : datOk data = true) : e.op = 0 ∨ getI data e.var = some (atI data e.var) := by
  by_cases h0 : e.op = 0
  · exact .inl h0
  · right
    simp [expOk, h0, inB] at h
    simp [datOk] at hd
    exact getI_at data (by omega) (by omega)
theorem spec_ExpHolds (e : GAsk) (data : List Int) (hl : data.length ≤ SMALL) : m_spec_ExpHolds e data = some (expHolds e data) := by
  unfold m_spec_ExpHolds expHolds
  rw [spec_ExpOk, Option.bind_some, spec_DatOk data hl]
  by_cases h1 : expOk e = true
  · by_cases h2 : datOk data = true
    · rcases expOk_var h1 h2 with h | h
      · simp [h1, h2, h]
      · rw [if_pos h1, Option.bind_some, if_pos h2, h1, h2, h]
        by_cases a : e.op = 1 <;> by_cases b : e.op = 2 <;> by_cases c : e.op = 3 <;> simp [a, b, c]
    · simp [h1, Bool.eq_false_iff.2 h2]
  · simp [Bool.eq_false_iff.2 h1]
theorem impl_ExpHolds (e : GAsk) (data : List Int) (hl : data.length ≤ SMALL) : m_impl_ExpHolds e data = some (expHolds e data) := by
  unfold m_impl_ExpHolds expHolds
  rw [impl_ExpOk, Option.bind_some, impl_DatOk data hl]
  by_cases h1 : expOk e = true
  · by_cases h2 : datOk data = true
    · rcases expOk_var h1 h2 with h | h
      · simp [h1, h2, h]
      · rw [if_pos h1, Option.bind_some, if_pos h2, h1, h2, h]
        by_cases a : e.op = 1 <;> by_cases b : e.op = 2 <;> by_cases c : e.op = 3 <;> simp [a, b, c]
    · simp [h1, Bool.eq_false_iff.2 h2]
  · simp [Bool.eq_false_iff.2 h1]

/-! ### Marks, people, work -/
def marksB (n : GNet) (m : List Int) : Bool := decide ((m.length : Int) = n.places) && m.all (fun x => inB x 0 4)
def mrkB (n : GNet) (m : List Int) : Bool := netB n && marksB n m
theorem spec_MrkOk (n : GNet) (m : List Int) (hn : n.small) (hm : m.length ≤ SMALL) : m_spec_MrkOk n m = some (mrkB n m) := by
  unfold m_spec_MrkOk mrkB marksB
  have := scan0 m (by unfold SMALL at hm; omega) (m_spec_MrkOk_l0 m m_spec_MrkOk_k1) (fun _ suf => some (suf.all (fun x => inB x 0 4)))
    (fun k => by rw [m_spec_MrkOk_l0, if_neg (by simp)]; rfl)
    (fun k pre x suf hl hg hlt hok ih => by
      rw [m_spec_MrkOk_l0, if_pos (decide_eq_true hlt), hg, Option.bind_some, spec_in, Option.bind_some, gd_pos hok, ih, iteB, List.all_cons])
  rw [this, spec_NetOk n hn, Option.bind_some, iteB, iteB]
theorem impl_marksOk (n : GNet) (m : List Int) (hm : m.length ≤ SMALL) : m_impl_NetNet_marksOk n m = some (marksB n m) := by
  unfold m_impl_NetNet_marksOk marksB
  rw [ContainsFunc_I m hm _ (fun x => !inB x 0 4) (fun x _ => by unfold m_impl_NetNet_marksOk_1; rw [impl_in]; rfl), Option.bind_some, all_not_any, iteB]
theorem impl_MrkOk (n : GNet) (m : List Int) (hn : n.small) (hm : m.length ≤ SMALL) : m_impl_MrkOk n m = some (mrkB n m) := by
  unfold m_impl_MrkOk mrkB
  rw [impl_NetOk n hn, Option.bind_some, impl_marksOk n m hm, Option.bind_some, iteB]
def pplB (p : List Int) : Bool := inB p.length 1 4 && p.all (fun x => inB x 0 7)
theorem spec_PplOk (m : List Int) (hm : m.length ≤ SMALL) : m_spec_PplOk m = some (pplB m) := by
  unfold m_spec_PplOk pplB
  have := scan0 m (by unfold SMALL at hm; omega) (m_spec_PplOk_l0 m m_spec_PplOk_k1) (fun _ suf => some (suf.all (fun x => inB x 0 7)))
    (fun k => by rw [m_spec_PplOk_l0, if_neg (by simp)]; rfl)
    (fun k pre x suf hl hg hlt hok ih => by
      rw [m_spec_PplOk_l0, if_pos (decide_eq_true hlt), hg, Option.bind_some, spec_in, Option.bind_some, gd_pos hok, ih, iteB, List.all_cons])
  rw [this, spec_in, Option.bind_some, iteB]
theorem impl_PplOk (m : List Int) (hm : m.length ≤ SMALL) : m_impl_PplOk m = some (pplB m) := by
  unfold m_impl_PplOk pplB
  rw [impl_in, Option.bind_some, ContainsFunc_I m hm _ (fun x => !inB x 0 7) (fun x _ => by unfold m_impl_PplOk_1; rw [impl_in]; rfl), Option.bind_some, all_not_any, iteB]

def itemB (n : GNet) (b : GItem) : Bool := inB b.task 0 ((n.tasks.length : Int) - 1) && (inB b.who 1 4 && inB b.did 0 ((atI n.tasks b.task).need - 1))
def busyB (n : GNet) (busy : List GItem) : Bool := decide ((busy.length : Int) ≤ 6) && busy.all (itemB n)
theorem netB_need {n : GNet} (h : netB n = true) {t : GTask} (ht : t ∈ n.tasks) : 1 ≤ t.need ∧ t.need ≤ 3 := by
  simp only [netB, Bool.and_eq_true, List.all_eq_true] at h
  have := h.2.2 t ht
  simp only [taskB, Bool.and_eq_true, inB_iff] at this
  omega
theorem spec_l3Busy (n : GNet) (busy : List GItem) (hn : n.small) (hb : busy.length ≤ SMALL) (ho : netB n = true) : m_spec_l3Busy n busy = some (busyB n busy) := by
  unfold m_spec_l3Busy busyB
  have := scan0 busy (by unfold SMALL at hb; omega) (m_spec_l3Busy_l0 n busy m_spec_l3Busy_k1) (fun _ suf => some (suf.all (itemB n)))
    (fun k => by rw [m_spec_l3Busy_l0, if_neg (by simp)]; rfl)
    (fun k pre x suf hl hg hlt hok ih => by
      rw [m_spec_l3Busy_l0, if_pos (decide_eq_true hlt), hg]
      simp only [Option.bind_some, gd_pos (ok_len1 hn.1), spec_in, List.all_cons, itemB]
      by_cases h1 : inB x.task 0 ((n.tasks.length : Int) - 1) = true
      · have h1' := inB_iff.1 h1
        have hmem := atI_mem n.tasks h1'.1 (by omega)
        have hneed := netB_need ho hmem
        rw [if_pos h1, getI_at n.tasks h1'.1 (by omega), Option.bind_some, gd_pos (by constructor <;> omega), gd_pos hok, ih, h1]
        cases inB x.who 1 4 <;> cases inB x.did 0 ((atI n.tasks x.task).need - 1) <;> simp
      · rw [if_neg h1, Bool.eq_false_iff.2 h1]; rfl)
  rw [this]
  by_cases h6 : 6 < (busy.length : Int)
  · rw [if_pos (decide_eq_true h6), decide_eq_false (by omega)]; rfl
  · rw [if_neg (by simpa using h6), decide_eq_true (by omega)]; rfl
theorem impl_busyOk (n : GNet) (busy : List GItem) (hn : n.small) (hb : busy.length ≤ SMALL) (ho : netB n = true) : m_impl_NetNet_busyOk n busy = some (busyB n busy) := by
  unfold m_impl_NetNet_busyOk busyB
  have := scan0 busy (by unfold SMALL at hb; omega) (m_impl_NetNet_busyOk_l0 n busy (busy.length : Int) (m_impl_NetNet_busyOk_k1 busy)) (fun _ suf => some (suf.all (itemB n) && decide ((busy.length : Int) ≤ 6)))
    (fun k => by rw [m_impl_NetNet_busyOk_l0, if_neg (by simp)]; rfl)
    (fun k pre x suf hl hg hlt hok ih => by
      rw [m_impl_NetNet_busyOk_l0, if_pos (decide_eq_true hlt), hg]
      simp only [m_impl_NetNet_hasTask, m_impl_isPerson, Option.bind_some, gd_pos (ok_len1 hn.1), impl_in, List.all_cons, itemB]
      by_cases h1 : inB x.task 0 ((n.tasks.length : Int) - 1) = true
      · have h1' := inB_iff.1 h1
        have hmem := atI_mem n.tasks h1'.1 (by omega)
        have hneed := netB_need ho hmem
        rw [if_pos h1, getI_at n.tasks h1'.1 (by omega), Option.bind_some, gd_pos (by constructor <;> omega), gd_pos hok, ih, h1]
        cases inB x.who 1 4 <;> cases inB x.did 0 ((atI n.tasks x.task).need - 1) <;> simp
      · rw [if_neg h1, Bool.eq_false_iff.2 h1]; rfl)
  rw [this, Bool.and_comm]

/-! ### Cases -/
def didB (n : GNet) (d : GDid) : Bool := inB d.task 0 ((n.tasks.length : Int) - 1) && inB d.who 1 4
def stateB (c : GCase) : Bool := bif decide (c.state = 1) then decide (atI c.marks 1 = 0) else decide ((c.busy.length : Int) = 0) && (decide (c.state = 2) == decide (0 < atI c.marks 1))
def casB (n : GNet) (c : GCase) : Bool := mrkB n c.marks && (busyB n c.busy && (datOk c.data && (!decide (60 < (c.did.length : Int)) && (inB c.state 1 3 && (c.did.all (didB n) && stateB c)))))
end Go.Am.Pl
namespace Go.Am
def GCase.small (c : GCase) : Prop := c.marks.length ≤ SMALL ∧ c.busy.length ≤ SMALL ∧ c.data.length ≤ SMALL ∧ c.did.length ≤ SMALL
end Go.Am
namespace Go.Am.Pl
theorem mrkB_net {n : GNet} {m : List Int} (h : mrkB n m = true) : netB n = true := by simp only [mrkB, Bool.and_eq_true] at h; exact h.1
theorem mrkB_one {n : GNet} {m : List Int} (h : mrkB n m = true) : getI m 1 = some (atI m 1) := by
  simp only [mrkB, netB, marksB, Bool.and_eq_true, inB_iff, decide_eq_true_eq] at h
  exact getI_at m (by omega) (by omega)
theorem spec_CasOk (n : GNet) (c : GCase) (hn : n.small) (hc : c.small) : m_spec_CasOk n c = some (casB n c) := by
  obtain ⟨hc1, hc2, hc3, hc4⟩ := hc
  unfold m_spec_CasOk casB
  rw [spec_MrkOk n c.marks hn hc1, Option.bind_some]
  by_cases h1 : mrkB n c.marks = true
  · have ho := mrkB_net h1
    have hk : m_spec_CasOk_k1 c = some (stateB c) := by
      unfold m_spec_CasOk_k1 stateB
      rw [mrkB_one h1]
      by_cases hs : c.state = 1
      · simp [hs]
      · by_cases hb : c.busy = [] <;> simp [hs, hb]
    have := scan0 c.did (by unfold SMALL at hc4; omega) (m_spec_CasOk_l0 n c (m_spec_CasOk_k1 c)) (fun _ suf => some (suf.all (didB n) && stateB c))
      (fun k => by rw [m_spec_CasOk_l0, if_neg (by simp), hk]; rfl)
      (fun k pre x suf hl hg hlt hok ih => by
        rw [m_spec_CasOk_l0, if_pos (decide_eq_true hlt), hg]
        simp only [Option.bind_some, gd_pos (ok_len1 hn.1), spec_in, List.all_cons, didB, gd_pos hok, ih]
        cases inB x.task 0 ((n.tasks.length : Int) - 1) <;> cases inB x.who 1 4 <;> simp)
    rw [if_pos h1, spec_l3Busy n c.busy hn hc2 ho, Option.bind_some, spec_DatOk c.data hc3, Option.bind_some, spec_in, Option.bind_some, this, h1]
    simp only [iteB, iteN]
    rfl
  · rw [if_neg h1, Bool.eq_false_iff.2 h1]; rfl
theorem impl_CasOk (n : GNet) (c : GCase) (hn : n.small) (hc : c.small) : m_impl_CasOk n c = some (casB n c) := by
  obtain ⟨hc1, hc2, hc3, hc4⟩ := hc
  unfold m_impl_CasOk casB
  rw [impl_MrkOk n c.marks hn hc1, Option.bind_some]
  by_cases h1 : mrkB n c.marks = true
  · have ho := mrkB_net h1
    have hk : m_impl_CasOk_k1 c = some (inB c.state 1 3 && stateB c) := by
      unfold m_impl_CasOk_k1 stateB
      rw [mrkB_one h1]
      by_cases hs : c.state = 1
      · simp [hs, inB]
      · by_cases hs2 : c.state = 2
        · by_cases hb : c.busy = [] <;> simp [hs2, hb, inB]
        · by_cases hs3 : c.state = 3
          · by_cases hb : c.busy = [] <;> simp [hs3, hb, inB]
          · have : inB c.state 1 3 = false := by simp [inB]; omega
            simp [hs, hs2, hs3, this]
    have := scan0 c.did (by unfold SMALL at hc4; omega) (m_impl_CasOk_l0 n c.did (c.did.length : Int) (m_impl_CasOk_k1 c)) (fun _ suf => some (suf.all (didB n) && (inB c.state 1 3 && stateB c)))
      (fun k => by rw [m_impl_CasOk_l0, if_neg (by simp), hk]; rfl)
      (fun k pre x suf hl hg hlt hok ih => by
        rw [m_impl_CasOk_l0, if_pos (decide_eq_true hlt), hg]
        simp only [m_impl_NetNet_hasTask, m_impl_isPerson, Option.bind_some, gd_pos (ok_len1 hn.1), impl_in, List.all_cons, didB, gd_pos hok, ih]
        cases inB x.task 0 ((n.tasks.length : Int) - 1) <;> cases inB x.who 1 4 <;> simp)
    rw [if_pos h1, impl_busyOk n c.busy hn hc2 ho, Option.bind_some, impl_DatOk c.data hc3, Option.bind_some, this, h1]
    simp only [iteB, iteN]
    congr 1
    cases busyB n c.busy <;> cases datOk c.data <;> cases c.did.all (didB n) <;> cases inB c.state 1 3 <;> simp
  · rw [if_neg h1, Bool.eq_false_iff.2 h1]; rfl

/-! ### Bounds -/
theorem small_task {t : GTask} (h : GTask.lens (· ≤ 1048576) t) : t.small := by
  obtain ⟨a, b, c⟩ := h; unfold GTask.small SMALL; omega
theorem small_net {n : GNet} (h : GNet.lens (· ≤ 1048576) n) : n.small := ⟨by have := h.1; dsimp only at this; unfold SMALL; omega, fun t ht => small_task (h.2 t ht)⟩
theorem small_case {c : GCase} (h : GCase.lens (· ≤ 1048576) c) : c.small := by
  obtain ⟨a, b, c, d⟩ := h; unfold GCase.small SMALL; omega

end Go.Am.Pl

end
section
/- Plain laws, chapters 7 and 9: the rules' tree, the house. Own work. -/
set_option maxRecDepth 100000
set_option linter.unusedVariables false
set_option linter.unusedSimpArgs false
namespace Go.Am.Pl
open Go

theorem getI_set {α : Type} (l : List α) {v j : Int} (w : α) (hv : 0 ≤ v) (hj : 0 ≤ j) (hl : j < l.length) : getI (l.set v.toNat w) j = if v = j then some w else getI l j := by
  unfold getI
  rw [if_pos hj, if_pos hj, List.getElem?_set]
  by_cases h : v = j
  · subst h; simp; omega
  · rw [if_neg (by omega), if_neg h]
end Go.Am.Pl

end
section
/- Plain laws: copies; cases that are stopped. Own work. -/
set_option maxRecDepth 100000
set_option linter.unusedVariables false
set_option linter.unusedSimpArgs false
namespace Go.Am.Pl
open Go

theorem impl_cloneInts (l : List Int) (h : l.length ≤ SMALL) : m_impl_cloneInts l = some l := by unfold m_impl_cloneInts; rw [gd_pos (by simpa using h)]; rfl
theorem spec_l6Copy (c : GCase) (h : c.small) : m_spec_l6Copy c = some c := by
  obtain ⟨h1, h2, h3, h4⟩ := h
  unfold m_spec_l6Copy
  simp [gd, h1, h2, h3, h4]
theorem impl_CasClone (c : GCase) (h : c.small) : m_impl_CasCase_clone c = some c := by
  obtain ⟨h1, h2, h3, h4⟩ := h
  unfold m_impl_CasCase_clone
  simp [gd, impl_cloneInts, h1, h2, h3, h4]
theorem impl_running (n : GNet) (c : GCase) (hn : n.small) (hc : c.small) : m_impl_running n c = some (casB n c && decide (c.state = 1)) := by
  unfold m_impl_running
  simp only [impl_CasOk n c hn hc, Option.bind_some]
  cases casB n c <;> by_cases hs : c.state = 1 <;> simp [hs]
end Go.Am.Pl

end
section
/- Plain laws: the laws' marks: what mark* writes, held* finds. Own work. -/
set_option maxRecDepth 100000
set_option maxHeartbeats 1000000
set_option linter.unusedVariables false
set_option linter.unusedSimpArgs false
namespace Go.Am.Pl
open Go

def BIG : Int := 4000000000000000000
theorem set_mid {α : Type} (pre : List α) (x y : α) (suf : List α) : (pre ++ x :: suf).set (pre.length : Int).toNat y = pre ++ y :: suf := by simp
theorem ok_big {k : Int} (h0 : 0 ≤ k) (h1 : k ≤ BIG) : ok64 k := by unfold BIG at h1; constructor <;> omega

/-- How many numbers a list takes; the list with its numbers. -/
def cntS {α : Type} (cnt : α → Nat) : List α → Nat
  | [] => 0
  | x :: l => cnt x + cntS cnt l
def numS {α : Type} (cnt : α → Nat) (num : α → Int → α) : List α → Int → List α
  | [], _ => []
  | x :: l, k => num x k :: numS cnt num l (k + cnt x)

theorem mark_scan {α : Type} (cnt : α → Nat) (num : α → Int → α) (f : Nat → Int → Int → List α → Option (Int × List α)) (ok : α → Prop)
    (h0 : ∀ n k l, f (n + 1) k (l.length : Int) l = some (k, l))
    (h1 : ∀ n k pre x suf, ok x → 0 ≤ k → k + cnt x ≤ BIG → ok64 ((pre.length : Int) + 1) → f (n + 1) k (pre.length : Int) (pre ++ x :: suf) = f n (k + cnt x) ((pre.length : Int) + 1) (pre ++ num x k :: suf)) :
    ∀ (a : List α) (k : Int), (∀ x ∈ a, ok x) → a.length ≤ SMALL → 0 ≤ k → k + cntS cnt a ≤ BIG → f FUEL k 0 a = some (k + cntS cnt a, numS cnt num a k) := by
  have key : ∀ (suf pre : List α) (n : Nat) (k : Int), (∀ x ∈ suf, ok x) → pre.length + suf.length ≤ SMALL → 0 ≤ k → k + cntS cnt suf ≤ BIG → suf.length < n →
      f n k (pre.length : Int) (pre ++ suf) = some (k + cntS cnt suf, pre ++ numS cnt num suf k) := by
    intro suf
    induction suf with
    | nil =>
      intro pre n k _ _ _ _ hn
      obtain ⟨m, rfl⟩ : ∃ m, n = m + 1 := ⟨n - 1, by omega⟩
      simp only [List.append_nil, h0, cntS, numS]; simp
    | cons x suf ih =>
      intro pre n k hok hl hk hb hn
      obtain ⟨m, rfl⟩ : ∃ m, n = m + 1 := ⟨n - 1, by omega⟩
      simp only [cntS, List.length_cons] at hb hl hn
      have hb' : k + cnt x + cntS cnt suf ≤ BIG := by omega
      rw [h1 m k pre x suf (hok x (by simp)) hk (by omega) (by unfold SMALL at hl; constructor <;> omega)]
      have := ih (pre ++ [num x k]) m (k + cnt x) (fun y hy => hok y (by simp [hy])) (by simp; omega) (by omega) hb' (by omega)
      simp only [List.append_assoc, List.singleton_append, List.length_append, List.length_singleton] at this
      rw [show (((pre.length + 1 : Nat)) : Int) = (pre.length : Int) + 1 by omega] at this
      rw [this]
      simp only [cntS, numS]
      congr 2; omega
  intro a k hok hl hk hb
  have := key a [] FUEL k hok (by simpa using hl) hk hb (by have := FUEL_ge; unfold SMALL at hl; omega)
  simpa using this

theorem held_scan {α : Type} (cnt : α → Nat) (num : α → Int → α) (a : List α) (ka : Int) (f : Nat → Int → Int → Option Int)
    (h0 : ∀ n k, f (n + 1) k ((numS cnt num a ka).length : Int) = some k)
    (h1 : ∀ n k i x, getI (numS cnt num a ka) i = some (num x k) → x ∈ a → i < ((numS cnt num a ka).length : Int) → 0 ≤ k → k + cnt x ≤ BIG → ok64 (i + 1) → f (n + 1) k i = f n (k + cnt x) (i + 1))
    (hl : a.length ≤ SMALL) (hk : 0 ≤ ka) (hb : ka + cntS cnt a ≤ BIG) : f FUEL ka 0 = some (ka + cntS cnt a) := by
  have hlen : ∀ (l : List α) (k : Int), (numS cnt num l k).length = l.length := by intro l; induction l with
    | nil => intro k; rfl
    | cons x l ih => intro k; simp [numS, ih]
  have key : ∀ (suf : List α) (pre : List α) (n : Nat) (k : Int), (∀ x ∈ suf, x ∈ a) → numS cnt num a ka = pre ++ numS cnt num suf k → 0 ≤ k → k + cntS cnt suf ≤ BIG → suf.length < n → f n k (pre.length : Int) = some (k + cntS cnt suf) := by
    intro suf
    induction suf with
    | nil =>
      intro pre n k _ he _ _ hn
      obtain ⟨m, rfl⟩ : ∃ m, n = m + 1 := ⟨n - 1, by omega⟩
      have := h0 m k
      rw [he] at this
      simpa [numS, cntS] using this
    | cons x suf ih =>
      intro pre n k hmem he hk hb hn
      obtain ⟨m, rfl⟩ : ∃ m, n = m + 1 := ⟨n - 1, by omega⟩
      simp only [cntS, List.length_cons] at hb hn
      have hL : (numS cnt num a ka).length = pre.length + (numS cnt num suf (k + cnt x)).length + 1 := by rw [he]; simp [numS]; omega
      have hL2 : pre.length + 1 ≤ SMALL := by rw [hlen] at hL; omega
      rw [h1 m k pre.length x (by rw [he, numS]; exact getI_mid _ _ _) (hmem x (by simp)) (by omega) hk (by omega) (by unfold SMALL at hL2; constructor <;> omega)]
      have := ih (pre ++ [num x k]) m (k + cnt x) (fun y hy => hmem y (by simp [hy])) (by rw [he, numS]; simp) (by omega) (by omega) (by omega)
      simp only [List.length_append, List.length_singleton] at this
      rw [show (((pre.length + 1 : Nat)) : Int) = (pre.length : Int) + 1 by omega] at this
      rw [this]; simp only [cntS]; congr 1; omega
  exact key a [] FUEL ka (fun x h => h) (by simp) hk hb (by have := FUEL_ge; unfold SMALL at hl; omega)

def cI1 : Int → Nat := fun _ => 1
def nI1 : Int → Int → Int := fun _ k => k
theorem mark_IntS (a : List Int) (k : Int) (hl : a.length ≤ SMALL) (hk : 0 ≤ k) (hb : k + cntS cI1 a ≤ BIG) : m_markIntS a k = some (k + cntS cI1 a, numS cI1 nI1 a k) := by
  unfold m_markIntS
  refine mark_scan cI1 nI1 (m_markIntS_l0 m_markIntS_k1) (fun _ => True) (fun n k l => ?_) (fun n k pre x suf _ h0 h1 h2 => ?_) a k (fun _ _ => trivial) hl hk hb
  · rw [m_markIntS_l0, if_neg (by simp)]; rfl
  · rw [m_markIntS_l0, if_pos (by simp; omega), getI_mid, Option.bind_some, gd_pos (ok_big (by omega) (by simpa [cI1] using h1)), gd_pos h2, set_mid]; rfl
theorem held_IntS (a : List Int) (k : Int) (hl : a.length ≤ SMALL) (hk : 0 ≤ k) (hb : k + cntS cI1 a ≤ BIG) : m_heldIntS (numS cI1 nI1 a k) k = some (k + cntS cI1 a) := by
  unfold m_heldIntS
  refine held_scan cI1 nI1 a k (m_heldIntS_l0 _ m_heldIntS_k1) (fun n k => ?_) (fun n k i x hg hm hi h0 h1 h2 => ?_) hl hk hb
  · rw [m_heldIntS_l0, if_neg (by simp)]; rfl
  · rw [m_heldIntS_l0, if_pos (decide_eq_true hi), hg, Option.bind_some, if_pos (by simp [nI1]), gd_pos (ok_big (by omega) (by simpa [cI1] using h1)), gd_pos h2]; rfl

end Go.Am.Pl

end
section
/- Plain laws: marks of the struct types. Printed by marks.py. Own work. -/
set_option maxRecDepth 100000
set_option maxHeartbeats 2000000
set_option linter.unusedVariables false
set_option linter.unusedSimpArgs false
namespace Go.Am.Pl
open Go
theorem gd_ok {v : Int} {α : Type} {x : Option α} (h0 : 0 ≤ v) (h1 : v ≤ BIG) : gd (ok64 v) x = x := gd_pos (ok_big h0 h1)
theorem ng_ok {v : Int} {α : Type} {x y : Option α} (h0 : 0 ≤ v) : (if decide (v < 0) = true then x else y) = y := if_neg (by simp; omega)

def okGItem (x : GItem) : Prop := True
def cGItem (x : GItem) : Nat := 1 + 1 + 1
def nGItem (x : GItem) (k : Int) : GItem := (GItem.mk (k) (k + 1) (k + 1 + 1))
theorem cGItem_eq (x : GItem) (k : Int) : k + (cGItem x : Int) = k + 1 + 1 + 1 := by unfold cGItem; omega
theorem mark_CasItemS (a : List GItem) (k : Int) (hl : a.length ≤ SMALL) (hk : 0 ≤ k) (hb : k + cntS cGItem a ≤ BIG) : m_markCasItemS a k = some (k + cntS cGItem a, numS cGItem nGItem a k) := by
  unfold m_markCasItemS
  refine mark_scan cGItem nGItem _ okGItem (fun n k l => ?_) (fun n k pre x suf ho h0 h1 h2 => ?_) a k (fun _ _ => True.intro) hl hk hb
  · rw [m_markCasItemS_l0, if_neg (by simp)]; rfl
  · rw [cGItem_eq] at h1 ⊢
    (try unfold okGItem at ho)
    have hB : BIG = 4000000000000000000 := rfl
    rw [m_markCasItemS_l0, if_pos (by simp; omega)]
    simp (maxSteps := 3000000) (disch := first | omega | exact ho | exact ho.1 | exact ho.2 | exact ho.2.1 | exact ho.2.2 | exact ho.2.2.1 | exact ho.2.2.2 | exact ho.2.2.2.1 | exact ho.2.2.2.2 | exact ho.2.2.2.2.1 | exact ho.2.2.2.2.2 | (intro y hy; exact True.intro)) only [getI_mid, Option.bind_some, set_mid, gd_pos h2, gd_ok]
    rfl
theorem held_CasItemS (a : List GItem) (k : Int) (hl : a.length ≤ SMALL) (hk : 0 ≤ k) (hb : k + cntS cGItem a ≤ BIG) : m_heldCasItemS (numS cGItem nGItem a k) k = some (k + cntS cGItem a) := by
  unfold m_heldCasItemS
  refine held_scan cGItem nGItem a k _ (fun n k => ?_) (fun n k i x hg hm hi h0 h1 h2 => ?_) hl hk hb
  · rw [m_heldCasItemS_l0, if_neg (by simp)]; rfl
  · have ho : okGItem x := True.intro
    rw [cGItem_eq] at h1 ⊢
    unfold okGItem at ho
    have hB : BIG = 4000000000000000000 := rfl
    rw [m_heldCasItemS_l0, if_pos (decide_eq_true hi)]
    simp (maxSteps := 3000000) (disch := first | omega | exact ho | exact ho.1 | exact ho.2 | exact ho.2.1 | exact ho.2.2 | exact ho.2.2.1 | exact ho.2.2.2 | exact ho.2.2.2.1 | exact ho.2.2.2.2 | exact ho.2.2.2.2.1 | exact ho.2.2.2.2.2 | (intro y hy; exact True.intro)) only [hg, nGItem, Option.bind_some, gd_pos h2, gd_ok, ng_ok, decide_true, if_true]

def okGDid (x : GDid) : Prop := True
def cGDid (x : GDid) : Nat := 1 + 1
def nGDid (x : GDid) (k : Int) : GDid := (GDid.mk (k) (k + 1))
theorem cGDid_eq (x : GDid) (k : Int) : k + (cGDid x : Int) = k + 1 + 1 := by unfold cGDid; omega
theorem mark_CasDidS (a : List GDid) (k : Int) (hl : a.length ≤ SMALL) (hk : 0 ≤ k) (hb : k + cntS cGDid a ≤ BIG) : m_markCasDidS a k = some (k + cntS cGDid a, numS cGDid nGDid a k) := by
  unfold m_markCasDidS
  refine mark_scan cGDid nGDid _ okGDid (fun n k l => ?_) (fun n k pre x suf ho h0 h1 h2 => ?_) a k (fun _ _ => True.intro) hl hk hb
  · rw [m_markCasDidS_l0, if_neg (by simp)]; rfl
  · rw [cGDid_eq] at h1 ⊢
    (try unfold okGDid at ho)
    have hB : BIG = 4000000000000000000 := rfl
    rw [m_markCasDidS_l0, if_pos (by simp; omega)]
    simp (maxSteps := 3000000) (disch := first | omega | exact ho | exact ho.1 | exact ho.2 | exact ho.2.1 | exact ho.2.2 | exact ho.2.2.1 | exact ho.2.2.2 | exact ho.2.2.2.1 | exact ho.2.2.2.2 | exact ho.2.2.2.2.1 | exact ho.2.2.2.2.2 | (intro y hy; exact True.intro)) only [getI_mid, Option.bind_some, set_mid, gd_pos h2, gd_ok]
    rfl
theorem held_CasDidS (a : List GDid) (k : Int) (hl : a.length ≤ SMALL) (hk : 0 ≤ k) (hb : k + cntS cGDid a ≤ BIG) : m_heldCasDidS (numS cGDid nGDid a k) k = some (k + cntS cGDid a) := by
  unfold m_heldCasDidS
  refine held_scan cGDid nGDid a k _ (fun n k => ?_) (fun n k i x hg hm hi h0 h1 h2 => ?_) hl hk hb
  · rw [m_heldCasDidS_l0, if_neg (by simp)]; rfl
  · have ho : okGDid x := True.intro
    rw [cGDid_eq] at h1 ⊢
    unfold okGDid at ho
    have hB : BIG = 4000000000000000000 := rfl
    rw [m_heldCasDidS_l0, if_pos (decide_eq_true hi)]
    simp (maxSteps := 3000000) (disch := first | omega | exact ho | exact ho.1 | exact ho.2 | exact ho.2.1 | exact ho.2.2 | exact ho.2.2.1 | exact ho.2.2.2 | exact ho.2.2.2.1 | exact ho.2.2.2.2 | exact ho.2.2.2.2.1 | exact ho.2.2.2.2.2 | (intro y hy; exact True.intro)) only [hg, nGDid, Option.bind_some, gd_pos h2, gd_ok, ng_ok, decide_true, if_true]

def okGFlow (x : GFlow) : Prop := True
def cGFlow (x : GFlow) : Nat := 1 + 1 + 1 + 1
def nGFlow (x : GFlow) (k : Int) : GFlow := (GFlow.mk (k) (GAsk.mk (k + 1) (k + 1 + 1) (k + 1 + 1 + 1)))
theorem cGFlow_eq (x : GFlow) (k : Int) : k + (cGFlow x : Int) = k + 1 + 1 + 1 + 1 := by unfold cGFlow; omega
theorem mark_NetFlowS (a : List GFlow) (k : Int) (hl : a.length ≤ SMALL) (hk : 0 ≤ k) (hb : k + cntS cGFlow a ≤ BIG) : m_markNetFlowS a k = some (k + cntS cGFlow a, numS cGFlow nGFlow a k) := by
  unfold m_markNetFlowS
  refine mark_scan cGFlow nGFlow _ okGFlow (fun n k l => ?_) (fun n k pre x suf ho h0 h1 h2 => ?_) a k (fun _ _ => True.intro) hl hk hb
  · rw [m_markNetFlowS_l0, if_neg (by simp)]; rfl
  · rw [cGFlow_eq] at h1 ⊢
    (try unfold okGFlow at ho)
    have hB : BIG = 4000000000000000000 := rfl
    rw [m_markNetFlowS_l0, if_pos (by simp; omega)]
    simp (maxSteps := 3000000) (disch := first | omega | exact ho | exact ho.1 | exact ho.2 | exact ho.2.1 | exact ho.2.2 | exact ho.2.2.1 | exact ho.2.2.2 | exact ho.2.2.2.1 | exact ho.2.2.2.2 | exact ho.2.2.2.2.1 | exact ho.2.2.2.2.2 | (intro y hy; exact True.intro)) only [getI_mid, Option.bind_some, set_mid, gd_pos h2, gd_ok]
    rfl
def okGTask (x : GTask) : Prop := x.in_.length ≤ SMALL ∧ x.out.length ≤ SMALL ∧ x.clear.length ≤ SMALL
def cGTask (x : GTask) : Nat := 1 + 1 + cntS cI1 x.in_ + cntS cGFlow x.out + cntS cI1 x.clear + 1 + 1 + 1 + 1
def nGTask (x : GTask) (k : Int) : GTask := (GTask.mk (k) (k + 1) (numS cI1 nI1 x.in_ (k + 1 + 1)) (numS cGFlow nGFlow x.out (k + 1 + 1 + ((cntS cI1 x.in_ : Nat) : Int))) (numS cI1 nI1 x.clear (k + 1 + 1 + ((cntS cI1 x.in_ : Nat) : Int) + ((cntS cGFlow x.out : Nat) : Int))) (k + 1 + 1 + ((cntS cI1 x.in_ : Nat) : Int) + ((cntS cGFlow x.out : Nat) : Int) + ((cntS cI1 x.clear : Nat) : Int)) (k + 1 + 1 + ((cntS cI1 x.in_ : Nat) : Int) + ((cntS cGFlow x.out : Nat) : Int) + ((cntS cI1 x.clear : Nat) : Int) + 1) (k + 1 + 1 + ((cntS cI1 x.in_ : Nat) : Int) + ((cntS cGFlow x.out : Nat) : Int) + ((cntS cI1 x.clear : Nat) : Int) + 1 + 1) (k + 1 + 1 + ((cntS cI1 x.in_ : Nat) : Int) + ((cntS cGFlow x.out : Nat) : Int) + ((cntS cI1 x.clear : Nat) : Int) + 1 + 1 + 1))
theorem cGTask_eq (x : GTask) (k : Int) : k + (cGTask x : Int) = k + 1 + 1 + ((cntS cI1 x.in_ : Nat) : Int) + ((cntS cGFlow x.out : Nat) : Int) + ((cntS cI1 x.clear : Nat) : Int) + 1 + 1 + 1 + 1 := by unfold cGTask; omega
theorem mark_NetTaskS (a : List GTask) (k : Int) (hok : ∀ x ∈ a, okGTask x) (hl : a.length ≤ SMALL) (hk : 0 ≤ k) (hb : k + cntS cGTask a ≤ BIG) : m_markNetTaskS a k = some (k + cntS cGTask a, numS cGTask nGTask a k) := by
  unfold m_markNetTaskS
  refine mark_scan cGTask nGTask _ okGTask (fun n k l => ?_) (fun n k pre x suf ho h0 h1 h2 => ?_) a k hok hl hk hb
  · rw [m_markNetTaskS_l0, if_neg (by simp)]; rfl
  · rw [cGTask_eq] at h1 ⊢
    (try unfold okGTask at ho)
    have hB : BIG = 4000000000000000000 := rfl
    rw [m_markNetTaskS_l0, if_pos (by simp; omega)]
    simp (maxSteps := 3000000) (disch := first | omega | exact ho | exact ho.1 | exact ho.2 | exact ho.2.1 | exact ho.2.2 | exact ho.2.2.1 | exact ho.2.2.2 | exact ho.2.2.2.1 | exact ho.2.2.2.2 | exact ho.2.2.2.2.1 | exact ho.2.2.2.2.2 | (intro y hy; exact True.intro)) only [getI_mid, Option.bind_some, set_mid, gd_pos h2, gd_ok, mark_IntS, mark_NetFlowS]
    rfl
def okGNet (x : GNet) : Prop := x.tasks.length ≤ SMALL ∧ ∀ y ∈ x.tasks, okGTask y
end Go.Am.Pl

end
section
/- Plain laws: marks of what is handed over by value. Own work. -/
set_option maxRecDepth 100000
set_option maxHeartbeats 2000000
set_option linter.unusedVariables false
set_option linter.unusedSimpArgs false
namespace Go.Am.Pl
open Go

def vGNet (x : GNet) : Nat := cntS cGTask x.tasks
def wGNet (x : GNet) (k : Int) : GNet := GNet.mk x.places (numS cGTask nGTask x.tasks k)
theorem mark_NetNet (x : GNet) (k : Int) (ho : okGNet x) (hk : 0 ≤ k) (hb : k + vGNet x ≤ BIG) : m_markNetNet x k = some (k + vGNet x, wGNet x k) := by
  unfold m_markNetNet
  rw [mark_NetTaskS x.tasks k ho.2 ho.1 hk hb]; rfl
def okGCase (x : GCase) : Prop := x.marks.length ≤ SMALL ∧ x.busy.length ≤ SMALL ∧ x.data.length ≤ SMALL ∧ x.did.length ≤ SMALL
def vGCase (x : GCase) : Nat := cntS cI1 x.marks + cntS cGItem x.busy + cntS cI1 x.data + cntS cGDid x.did
def wGCase (x : GCase) (k : Int) : GCase := GCase.mk x.state (numS cI1 nI1 x.marks k) (numS cGItem nGItem x.busy (k + (cntS cI1 x.marks : Nat))) (numS cI1 nI1 x.data (k + (cntS cI1 x.marks : Nat) + (cntS cGItem x.busy : Nat)))
  (numS cGDid nGDid x.did (k + (cntS cI1 x.marks : Nat) + (cntS cGItem x.busy : Nat) + (cntS cI1 x.data : Nat)))
theorem vGCase_eq (x : GCase) (k : Int) : k + (vGCase x : Int) = k + (cntS cI1 x.marks : Nat) + (cntS cGItem x.busy : Nat) + (cntS cI1 x.data : Nat) + (cntS cGDid x.did : Nat) := by unfold vGCase; omega
theorem mark_CasCase (x : GCase) (k : Int) (ho : okGCase x) (hk : 0 ≤ k) (hb : k + vGCase x ≤ BIG) : m_markCasCase x k = some (k + vGCase x, wGCase x k) := by
  obtain ⟨h1, h2, h3, h4⟩ := ho
  rw [vGCase_eq] at hb ⊢
  unfold m_markCasCase
  rw [mark_IntS x.marks k h1 hk (by omega), Option.bind_some, mark_CasItemS x.busy _ h2 (by omega) (by omega), Option.bind_some, mark_IntS x.data _ h3 (by omega) (by omega), Option.bind_some, mark_CasDidS x.did _ h4 (by omega) (by omega)]
  rfl
theorem held_CasCase (x : GCase) (k : Int) (ho : okGCase x) (hk : 0 ≤ k) (hb : k + vGCase x ≤ BIG) : m_heldCasCase (wGCase x k) k = some (k + vGCase x) := by
  obtain ⟨h1, h2, h3, h4⟩ := ho
  rw [vGCase_eq] at hb ⊢
  unfold m_heldCasCase wGCase
  simp only []
  rw [held_IntS x.marks k h1 hk (by omega), Option.bind_some, ng_ok (by omega), held_CasItemS x.busy _ h2 (by omega) (by omega), Option.bind_some, ng_ok (by omega), held_IntS x.data _ h3 (by omega) (by omega), Option.bind_some, ng_ok (by omega),
    held_CasDidS x.did _ h4 (by omega) (by omega), Option.bind_some, ng_ok (by omega)]

end Go.Am.Pl

end
section
/- Plain laws: how many marks there are, by the weights. Own work. -/
set_option maxRecDepth 100000
set_option linter.unusedVariables false
set_option linter.unusedSimpArgs false
namespace Go.Am.Pl
open Go

theorem cntS_le {α : Type} {cnt W : α → Nat} {K : Nat} : ∀ {l : List α}, (∀ x ∈ l, cnt x ≤ K + K * W x) → cntS cnt l ≤ K * (l.length + sumW W l)
  | [], _ => by simp [cntS]
  | x :: l, h => by
    have h1 := cntS_le (l := l) fun y hy => h y (by simp [hy])
    have h2 := h x (by simp)
    simp only [cntS, List.length_cons]
    have : sumW W (x :: l) = W x + sumW W l := by simp [sumW]
    rw [this]
    have : K * (l.length + 1 + (W x + sumW W l)) = K * (l.length + sumW W l) + (K + K * W x) := by simp only [Nat.mul_add, Nat.mul_one]; omega
    omega
theorem cntS_const {α : Type} {cnt : α → Nat} {K : Nat} (h : ∀ x, cnt x = K) : ∀ l : List α, cntS cnt l = K * l.length
  | [] => rfl
  | x :: l => by simp only [cntS, h, cntS_const h l, List.length_cons, Nat.mul_add]; omega
theorem cIntS (l : List Int) : cntS cI1 l = 1 * l.length := cntS_const (fun _ => rfl) l
theorem cItemS (l : List GItem) : cntS cGItem l = 3 * l.length := cntS_const (fun _ => rfl) l
theorem cDidS (l : List GDid) : cntS cGDid l = 2 * l.length := cntS_const (fun _ => rfl) l
theorem cFlowS (l : List GFlow) : cntS cGFlow l = 4 * l.length := cntS_const (fun _ => rfl) l
theorem cTask_le (x : GTask) : cGTask x ≤ 10 + 10 * GTask.W x := by
  unfold cGTask; rw [cIntS, cIntS, cFlowS]; simp only [GTask.W]; omega
theorem vNet_le (x : GNet) : vGNet x ≤ 10 * GNet.W x := by
  unfold vGNet
  have := cntS_le (cnt := cGTask) (W := GTask.W) (K := 10) (l := x.tasks) fun t _ => cTask_le t
  simp only [GNet.W]; omega
theorem vCase_le (x : GCase) : vGCase x ≤ 10 * GCase.W x := by
  unfold vGCase; rw [cIntS, cIntS, cItemS, cDidS]; simp only [GCase.W]; omega
end Go.Am.Pl

end
section
/- Plain laws: loops that put out lists; bounds on how many marks there are. Own work. -/
set_option maxRecDepth 100000
set_option linter.unusedVariables false
set_option linter.unusedSimpArgs false
namespace Go.Am.Pl
open Go

theorem emit_scan {α γ β : Type} (l : List α) (hl : l.length ≤ SMALL) (e : α → List γ) (f : Nat → Int → List γ → Option β) (kx : List γ → Option β) (h0 : ∀ n s, f (n + 1) (l.length : Int) s = kx s)
    (h1 : ∀ n pre x suf s, l = pre ++ x :: suf → getI l (pre.length : Int) = some x → x ∈ l → (pre.length : Int) < (l.length : Int) → ok64 ((pre.length : Int) + 1) → s = pre.flatMap e → f (n + 1) (pre.length : Int) s = f n ((pre.length : Int) + 1) (s ++ e x)) :
    f FUEL 0 [] = kx (l.flatMap e) := by
  have := scan l (by unfold SMALL at hl; omega) f (fun pre suf s => kx (s ++ suf.flatMap e)) (fun pre s => s = pre.flatMap e) (fun n s _ => by rw [h0]; simp)
    (fun n pre x suf s a b c d i k => by
      rw [h1 n pre x suf s a b (by rw [a]; simp) c d i, k (s ++ e x) (by rw [i]; simp)]
      simp) FUEL [] rfl (by have := FUEL_ge; unfold SMALL at hl; omega)
  rw [this]; simp
theorem flat_len {α γ : Type} {e : α → List γ} (he : ∀ x, (e x).length ≤ 1) : ∀ l : List α, (l.flatMap e).length ≤ l.length
  | [] => by simp
  | x :: l => by have := flat_len he l; have := he x; simp only [List.flatMap_cons, List.length_append, List.length_cons]; omega
end Go.Am.Pl

end
section
/- Plain laws: what a net, a case that is ok has; marks that grow. Own work. -/
set_option maxRecDepth 100000
set_option linter.unusedVariables false
set_option linter.unusedSimpArgs false
namespace Go.Am.Pl
open Go

theorem asc_mem {high : Int} : ∀ {l : List Int} {p : Int}, asc high p l = true → ∀ x ∈ l, p + 1 ≤ x ∧ x ≤ high
  | [], _, _, x, hx => by simp at hx
  | y :: l, p, h, x, hx => by
    simp only [asc, Bool.and_eq_true, inB_iff] at h
    rcases List.mem_cons.1 hx with rfl | hx
    · exact h.1
    · have := asc_mem h.2 x hx; omega
structure TaskOk (n : GNet) (t : GTask) : Prop where
  join : 1 ≤ t.join ∧ t.join ≤ 3
  split : 1 ≤ t.split ∧ t.split ≤ 3
  inl : 1 ≤ t.in_.length ∧ t.in_.length ≤ 3
  ins : ∀ p ∈ t.in_, 0 ≤ p ∧ p ≤ n.places - 1
  outl : 1 ≤ t.out.length ∧ t.out.length ≤ 3
  clearl : (t.clear.length : Int) ≤ n.places
  clears : ∀ p ∈ t.clear, 2 ≤ p ∧ p ≤ n.places - 1
  role : 1 ≤ t.role ∧ t.role ≤ 3
  apart : -1 ≤ t.apart ∧ t.apart ≤ n.tasks.length - 1
  all : 1 ≤ t.all ∧ t.all ≤ 3
  need : 1 ≤ t.need ∧ t.need ≤ t.all
theorem netB_task {n : GNet} (h : netB n = true) {t : GTask} (ht : t ∈ n.tasks) : TaskOk n t := by
  simp only [netB, Bool.and_eq_true, List.all_eq_true] at h
  have := h.2.2 t ht
  simp only [taskB, Bool.and_eq_true, inB_iff] at this
  obtain ⟨a, b, ⟨c, d⟩, e, ⟨f, g⟩, ⟨i, j⟩, k, l, m, o⟩ := this
  exact ⟨a, b, by omega, fun p hp => by have := asc_mem d p hp; omega, by omega, by omega, fun p hp => by have := asc_mem j p hp; omega, k, l, m, o⟩
theorem netB_size {n : GNet} (h : netB n = true) : (2 ≤ n.places ∧ n.places ≤ 8) ∧ (1 ≤ n.tasks.length ∧ n.tasks.length ≤ 6) := by
  simp only [netB, Bool.and_eq_true, inB_iff] at h; omega
structure CasFacts (n : GNet) (c : GCase) : Prop where
  net : netB n = true
  len : (c.marks.length : Int) = n.places
  mks : ∀ x ∈ c.marks, 0 ≤ x ∧ x ≤ 4
  busyl : c.busy.length ≤ 6
  busy : ∀ b ∈ c.busy, (0 ≤ b.task ∧ b.task < n.tasks.length) ∧ (1 ≤ b.who ∧ b.who ≤ 4) ∧ (0 ≤ b.did ∧ b.did ≤ (atI n.tasks b.task).need - 1)
  data : datOk c.data = true
  didl : c.did.length ≤ 60
  did : ∀ d ∈ c.did, (0 ≤ d.task ∧ d.task < n.tasks.length) ∧ (1 ≤ d.who ∧ d.who ≤ 4)
  state : 1 ≤ c.state ∧ c.state ≤ 3
theorem casB_facts {n : GNet} {c : GCase} (h : casB n c = true) : CasFacts n c := by
  simp only [casB, mrkB, marksB, busyB, itemB, didB, Bool.and_eq_true, List.all_eq_true, inB_iff, decide_eq_true_eq, Bool.not_eq_true', decide_eq_false_iff_not] at h
  obtain ⟨⟨a, b, c1⟩, ⟨d, e⟩, f, g, i, j, k⟩ := h
  exact ⟨a, b, c1, by omega, fun x hx => by have := e x hx; omega, f, by omega, fun x hx => by have := j x hx; omega, i⟩

/-- One more at a place. -/
def inc (l : List Int) (p : Int) : List Int := l.set p.toNat (atI l p + 1)
theorem inc_len (l : List Int) (p : Int) : (inc l p).length = l.length := by simp [inc]
def incs (l : List Int) (ps : List Int) : List Int := ps.foldl inc l
theorem incs_len (ps : List Int) : ∀ l : List Int, (incs l ps).length = l.length := by
  induction ps with
  | nil => intro l; rfl
  | cons p ps ih => intro l; show (incs (inc l p) ps).length = _; rw [ih, inc_len]
def capM (K : Int) (l : List Int) : Prop := ∀ x ∈ l, 0 ≤ x ∧ x ≤ K
theorem capM_at {K : Int} {l : List Int} (h : capM K l) {p : Int} (h0 : 0 ≤ p) (h1 : p < l.length) : 0 ≤ atI l p ∧ atI l p ≤ K := h _ (atI_mem l h0 h1)
theorem capM_inc {K : Int} {l : List Int} (h : capM K l) {p : Int} (h0 : 0 ≤ p) (h1 : p < l.length) : capM (K + 1) (inc l p) := by
  intro x hx
  have := capM_at h h0 h1
  rcases List.mem_or_eq_of_mem_set hx with hx | rfl
  · have := h x hx; omega
  · omega
def okM (l : List Int) : Bool := l.all (fun x => inB x 0 4)
theorem okM_cap {l : List Int} : okM l = true ↔ capM 4 l := by simp only [okM, List.all_eq_true, inB_iff]; rfl
theorem okM_inc {l : List Int} {p : Int} {K : Int} (hl : capM K l) (h0 : 0 ≤ p) (h1 : p < l.length) (h : okM (inc l p) = true) : okM l = true ∧ atI l p ≤ 3 := by
  rw [okM_cap] at h ⊢
  have hp : atI l p + 1 ∈ inc l p := List.mem_iff_getElem?.2 ⟨p.toNat, by unfold inc; rw [List.getElem?_set_self (by omega)]⟩
  have h4 := h _ hp
  refine ⟨fun x hx => ?_, by omega⟩
  obtain ⟨j, hj⟩ := List.mem_iff_getElem?.1 hx
  by_cases e : p.toNat = j
  · have : atI l p = x := by unfold atI getI; rw [if_pos h0, e, hj]; rfl
    have := hl x hx; omega
  · exact h x (List.mem_iff_getElem?.2 ⟨j, by unfold inc; rw [List.getElem?_set_ne e]; exact hj⟩)
theorem okM_incs {ps : List Int} : ∀ {l : List Int} {K : Int}, capM K l → (∀ p ∈ ps, 0 ≤ p ∧ p < l.length) → okM (incs l ps) = true → okM l = true := by
  induction ps with
  | nil => intro l K _ _ h; exact h
  | cons p ps ih =>
    intro l K hl hp h
    have hp0 := hp p (by simp)
    exact (okM_inc hl hp0.1 hp0.2 (ih (l := inc l p) (capM_inc hl hp0.1 hp0.2) (fun q hq => by rw [inc_len]; exact hp q (by simp [hq])) h)).1
/-- A loop that puts one more at each place of a list, and leaves where there are four. -/
theorem stop_scan {β : Type} (ps : List Int) (hs : ps.length ≤ SMALL) (f : Nat → Int → List Int → Option β) (kx : List Int → Option β) (bad : Option β) (l0 : List Int) (hp : ∀ p ∈ ps, 0 ≤ p ∧ p < l0.length) (hc : okM l0 = true)
    (h0 : ∀ n s, f (n + 1) (ps.length : Int) s = kx s)
    (h1 : ∀ n i p s, getI ps i = some p → i < (ps.length : Int) → ok64 (i + 1) → getI s p = some (atI s p) → ok64 (atI s p + 1) → f (n + 1) i s = if decide (atI s p = 4) = true then bad else f n (i + 1) (inc s p)) :
    f FUEL 0 l0 = if okM (incs l0 ps) = true then kx (incs l0 ps) else bad :=
  scan ps (by unfold SMALL at hs; omega) f (fun _ suf l => if okM (incs l suf) = true then kx (incs l suf) else bad) (fun _ l => l.length = l0.length ∧ okM l = true)
    (fun n s hi => by rw [h0]; rw [if_pos (show okM (incs s []) = true from hi.2)]; rfl)
    (fun n pre x suf s a b c d hi k => by
      have hx := hp x (by rw [a]; simp)
      have hx2 : x < s.length := by rw [hi.1]; exact hx.2
      have hcap := okM_cap.1 hi.2
      have hv := capM_at hcap hx.1 hx2
      rw [h1 n _ x s b c d (getI_at s hx.1 hx2) (by constructor <;> omega)]
      show _ = if okM (incs (inc s x) suf) = true then kx (incs (inc s x) suf) else bad
      by_cases h4 : atI s x = 4
      · rw [if_pos (decide_eq_true h4), if_neg]
        intro h5
        have h6 := okM_incs (capM_inc hcap hx.1 hx2) (fun q hq => by rw [inc_len, hi.1]; exact hp q (by rw [a]; simp [hq])) h5
        have := (okM_inc hcap hx.1 hx2 h6).2
        omega
      · rw [if_neg (by simpa using h4)]
        exact k (inc s x) ⟨by rw [inc_len, hi.1], okM_cap.2 (fun y hy => by
          rcases List.mem_or_eq_of_mem_set hy with hy | rfl
          · exact hcap y hy
          · omega)⟩) FUEL l0 ⟨rfl, hc⟩ (by have := FUEL_ge; unfold SMALL at hs; omega)
/-- A loop that puts one more at each place of a list. -/
theorem inc_scan {β : Type} (ps : List Int) (hs : ps.length ≤ SMALL) (f : Nat → Int → List Int → Option β) (kx : List Int → Option β) (l0 : List Int) (K : Int) (hK : 0 ≤ K ∧ K ≤ 1000000000) (hp : ∀ p ∈ ps, 0 ≤ p ∧ p < l0.length) (hc : capM K l0)
    (h0 : ∀ n s, f (n + 1) (ps.length : Int) s = kx s)
    (h1 : ∀ n i p s, getI ps i = some p → i < (ps.length : Int) → ok64 (i + 1) → getI s p = some (atI s p) → ok64 (atI s p + 1) → f (n + 1) i s = f n (i + 1) (inc s p)) :
    f FUEL 0 l0 = kx (incs l0 ps) :=
  scan ps (by unfold SMALL at hs; omega) f (fun _ suf l => kx (incs l suf)) (fun pre l => l.length = l0.length ∧ capM (K + pre.length) l) (fun n s hi => by rw [h0]; rfl)
    (fun n pre x suf s a b c d hi k => by
      have hx := hp x (by rw [a]; simp)
      have hx2 : x < s.length := by rw [hi.1]; exact hx.2
      have hv := capM_at hi.2 hx.1 hx2
      have hpl : pre.length ≤ SMALL := by rw [a, List.length_append] at hs; omega
      unfold SMALL at hpl
      rw [h1 n _ x s b c d (getI_at s hx.1 hx2) (by constructor <;> omega)]
      refine k (inc s x) ⟨by rw [inc_len, hi.1], ?_⟩
      have := capM_inc hi.2 hx.1 hx2
      rw [List.length_append, List.length_singleton, show ((K + ((pre.length + 1 : Nat) : Int)) = K + pre.length + 1) by omega]
      exact this) FUEL l0 ⟨rfl, by simpa using hc⟩ (by have := FUEL_ge; unfold SMALL at hs; omega)
end Go.Am.Pl

end
section
/- Plain laws, chapters 4 and 6: what a task gives. Own work. -/
set_option maxRecDepth 100000
set_option linter.unusedVariables false
set_option linter.unusedSimpArgs false
namespace Go.Am.Pl
open Go

def goB (split : Int) (last none_ : Bool) : Bool := bif decide (split = 2) then none_ else bif decide (split = 3) then !last || none_ else true
def splL (split : Int) (data : List Int) : List GFlow → List Int → List Int
  | [], l => l
  | f :: fs, l => if (expHolds f.if_ data && goB split fs.isEmpty l.isEmpty) = true then splL split data fs (l ++ [f.to]) else splL split data fs l
theorem splL_done (data : List Int) : ∀ (fs : List GFlow) (l : List Int), l.isEmpty = false → splL 2 data fs l = l
  | [], l, _ => rfl
  | f :: fs, l, h => by
    unfold splL
    rw [if_neg (by simp [goB, h]), splL_done data fs l h]
theorem splL_len (split : Int) (data : List Int) : ∀ (fs : List GFlow) (l : List Int), (splL split data fs l).length ≤ l.length + fs.length
  | [], l => by simp [splL]
  | f :: fs, l => by
    unfold splL; split
    · have := splL_len split data fs (l ++ [f.to]); simp at this; simp; omega
    · have := splL_len split data fs l; simp; omega
theorem splL_mem (split : Int) (data : List Int) : ∀ (fs : List GFlow) (l : List Int) (p : Int), p ∈ splL split data fs l → p ∈ l ∨ ∃ f ∈ fs, f.to = p
  | [], l, p, h => .inl h
  | f :: fs, l, p, h => by
    unfold splL at h; split at h
    · rcases splL_mem split data fs _ p h with h | ⟨g, hg, e⟩
      · rcases List.mem_append.1 h with h | h
        · exact .inl h
        · simp at h; exact .inr ⟨f, by simp, h.symm⟩
      · exact .inr ⟨g, by simp [hg], e⟩
    · rcases splL_mem split data fs _ p h with h | ⟨g, hg, e⟩
      · exact .inl h
      · exact .inr ⟨g, by simp [hg], e⟩
theorem last_lt {α : Type} {l pre suf : List α} {x : α} (h : l = pre ++ x :: suf) : (decide ((pre.length : Int) < (l.length : Int) - 1)) = !suf.isEmpty := by
  rw [h]
  cases suf with
  | nil => simp
  | cons y s => simp; omega
theorem one_small {l : List Int} {n : Nat} (h : l.length ≤ n) (hn : n < SMALL) {y : Int} : l.length + [y].length ≤ SMALL := by rw [List.length_singleton]; omega
theorem len0 (l : List Int) : decide ((l.length : Int) = 0) = l.isEmpty := by
  cases l with
  | nil => rfl
  | cons x l => simp; omega
theorem len1 (l : List Int) : decide (0 < (l.length : Int)) = !l.isEmpty := by
  cases l with
  | nil => rfl
  | cons x l => simp
theorem spec_SplTo (t : GTask) (data : List Int) (hs : t.out.length ≤ SMALL) (hd : data.length ≤ SMALL) : m_spec_SplTo t data = some (splL t.split data t.out []) := by
  unfold m_spec_SplTo
  refine scan t.out (by unfold SMALL at hs; omega) (m_spec_SplTo_l0 t data m_spec_SplTo_k1 m_spec_SplTo_k2 m_spec_SplTo_k3 m_spec_SplTo_k4) (fun _ suf l => some (splL t.split data suf l)) (fun pre l => l.length ≤ pre.length ∧ (t.split = 2 → l = []))
    (fun n s hi => by rw [m_spec_SplTo_l0, if_neg (by simp)]; rfl)
    (fun n pre x suf s a b c d hi k => ?_) FUEL [] ⟨by simp, fun _ => rfl⟩ (by have := FUEL_ge; unfold SMALL at hs; omega)
  have hpl : pre.length < SMALL := by rw [a, List.length_append, List.length_cons] at hs; omega
  have h1 : t.split ≠ 2 → m_spec_SplTo_l0 t data m_spec_SplTo_k1 m_spec_SplTo_k2 m_spec_SplTo_k3 m_spec_SplTo_k4 n ((pre.length : Int) + 1) (s ++ [x.to]) = some (splL t.split data suf (s ++ [x.to])) := fun h2 => k (s ++ [x.to]) ⟨by simp; exact hi.1, fun h => absurd h h2⟩
  have h2 := k s ⟨by simp; have := hi.1; omega, hi.2⟩
  rw [m_spec_SplTo_l0, if_pos (decide_eq_true c)]
  simp only [b, Option.bind_some, spec_ExpHolds _ _ hd, last_lt a, len0, gd_pos (ok_len1 hs), gd_pos d, gd_pos (one_small hi.1 hpl), h2, splL, m_spec_SplTo_k1, m_spec_SplTo_k2, m_spec_SplTo_k3, goB]
  by_cases e2 : t.split = 2
  · have hn := hi.2 e2
    subst hn
    cases expHolds x.if_ data
    · simp
    · have e3 : t.split ≠ 3 := by omega
      have := splL_done data suf [x.to] rfl
      simp [e2, this]
  · rw [h1 e2]
    cases expHolds x.if_ data <;> by_cases e3 : t.split = 3 <;> cases suf.isEmpty <;> cases s.isEmpty <;> simp [e2, e3]
theorem impl_SplTo (t : GTask) (data : List Int) (hs : t.out.length ≤ SMALL) (hd : data.length ≤ SMALL) : m_impl_SplTo t data = some (splL t.split data t.out []) := by
  unfold m_impl_SplTo
  refine scan t.out (by unfold SMALL at hs; omega) (m_impl_SplTo_l0 t data t.out (t.out.length : Int) m_impl_SplTo_k1) (fun _ suf l => some (splL t.split data suf l)) (fun pre l => l.length ≤ pre.length)
    (fun n s hi => by rw [m_impl_SplTo_l0, if_neg (by simp)]; rfl)
    (fun n pre x suf s a b c d hi k => ?_) FUEL [] (by simp) (by have := FUEL_ge; unfold SMALL at hs; omega)
  have hpl : pre.length < SMALL := by rw [a, List.length_append, List.length_cons] at hs; omega
  have h1 := k (s ++ [x.to]) (by simp; exact hi)
  have h2 := k s (by simp; omega)
  rw [m_impl_SplTo_l0, if_pos (decide_eq_true c)]
  simp only [b, Option.bind_some, impl_ExpHolds _ _ hd, isEmpty_last a, len1, gd_pos (ok_len1 hs), gd_pos d, gd_pos (one_small hi hpl), h1, h2, splL, goB]
  cases expHolds x.if_ data <;> by_cases e2 : t.split = 2 <;> by_cases e3 : t.split = 3 <;> cases suf.isEmpty <;> cases s.isEmpty <;> simp [e2, e3]

/-- No marks at places. -/
def zeros (l : List Int) (ps : List Int) : List Int := ps.foldl (fun l p => l.set p.toNat 0) l
theorem zeros_len (ps : List Int) : ∀ l : List Int, (zeros l ps).length = l.length := by
  induction ps with
  | nil => intro l; rfl
  | cons p ps ih => intro l; show (zeros (l.set p.toNat 0) ps).length = _; rw [ih]; simp
theorem zeros_ok (ps : List Int) : ∀ l : List Int, okM l = true → okM (zeros l ps) = true := by
  induction ps with
  | nil => intro l h; exact h
  | cons p ps ih =>
    intro l h
    refine ih _ (okM_cap.2 fun x hx => ?_)
    rcases List.mem_or_eq_of_mem_set hx with hx | rfl
    · exact okM_cap.1 h x hx
    · omega
theorem zero_scan {β : Type} (ps : List Int) (hs : ps.length ≤ SMALL) (f : Nat → Int → List Int → Option β) (kx : List Int → Option β) (l0 : List Int) (hp : ∀ p ∈ ps, 0 ≤ p ∧ p < l0.length)
    (h0 : ∀ n s, f (n + 1) (ps.length : Int) s = kx s)
    (h1 : ∀ n i p s, getI ps i = some p → i < (ps.length : Int) → ok64 (i + 1) → getI s p = some (atI s p) → f (n + 1) i s = f n (i + 1) (s.set p.toNat 0)) :
    f FUEL 0 l0 = kx (zeros l0 ps) :=
  scan ps (by unfold SMALL at hs; omega) f (fun _ suf l => kx (zeros l suf)) (fun pre l => l.length = l0.length) (fun n s hi => by rw [h0]; rfl)
    (fun n pre x suf s a b c d hi k => by
      have hx := hp x (by rw [a]; simp)
      rw [h1 n _ x s b c d (getI_at s hx.1 (by rw [hi]; exact hx.2))]
      exact k _ (by simpa using hi)) FUEL l0 rfl (by have := FUEL_ge; unfold SMALL at hs; omega)
def giveL (n : GNet) (m : List Int) (t : GTask) (data : List Int) : List Int := incs (zeros m t.clear) (splL t.split data t.out [])
def giveB (n : GNet) (m : List Int) (t : Int) (data : List Int) : List Int × Bool :=
  bif mrkB n m && (inB t 0 ((n.tasks.length : Int) - 1) && (datOk data && okM (giveL n m (atI n.tasks t) data))) then (giveL n m (atI n.tasks t) data, true) else ([], false)
theorem flowsB_to {t : GTask} {places : Int} : ∀ {suf pre : List GFlow}, flowsB t places pre suf = true → ∀ f ∈ suf, 1 ≤ f.to ∧ f.to ≤ places - 1
  | [], _, _, f, hf => by simp at hf
  | x :: suf, pre, h, f, hf => by
    simp only [flowsB, Bool.and_eq_true, inB_iff] at h
    rcases List.mem_cons.1 hf with rfl | hf
    · exact h.1
    · exact flowsB_to h.2.2.2.2 f hf
theorem netB_to {n : GNet} (h : netB n = true) {t : GTask} (ht : t ∈ n.tasks) : ∀ f ∈ t.out, 1 ≤ f.to ∧ f.to ≤ n.places - 1 := by
  simp only [netB, Bool.and_eq_true, List.all_eq_true] at h
  have := h.2.2 t ht
  simp only [taskB, Bool.and_eq_true] at this
  exact flowsB_to this.2.2.2.2.1.2
theorem mrkB_facts {n : GNet} {m : List Int} (h : mrkB n m = true) : netB n = true ∧ (m.length : Int) = n.places ∧ okM m = true := by
  simp only [mrkB, marksB, Bool.and_eq_true, decide_eq_true_eq] at h
  exact ⟨h.1, h.2.1, h.2.2⟩
structure GiveOk (n : GNet) (m : List Int) (t : GTask) (data : List Int) : Prop where
  clears : ∀ p ∈ t.clear, 0 ≤ p ∧ p < m.length
  tos : ∀ p ∈ splL t.split data t.out [], 0 ≤ p ∧ p < (zeros m t.clear).length
  len : (splL t.split data t.out []).length ≤ SMALL
  ok : okM (zeros m t.clear) = true
theorem give_ok {n : GNet} {m : List Int} {t : GTask} {data : List Int} (hm : mrkB n m = true) (ht : t ∈ n.tasks) : GiveOk n m t data := by
  obtain ⟨h1, h2, h3⟩ := mrkB_facts hm
  have T := netB_task h1 ht
  refine ⟨fun p hp => by have := T.clears p hp; omega, fun p hp => ?_, ?_, zeros_ok _ _ h3⟩
  · rcases splL_mem _ _ _ _ _ hp with h | ⟨f, hf, e⟩
    · simp at h
    · have := netB_to h1 ht f hf; rw [zeros_len]; omega
  · have := splL_len t.split data t.out []; have := T.outl; rw [List.length_nil] at *; unfold SMALL; omega
theorem spec_FirGive (n : GNet) (m : List Int) (t : Int) (data : List Int) (hn : n.small) (hm : m.length ≤ SMALL) (hd : data.length ≤ SMALL) : m_spec_FirGive n m t data = some (giveB n m t data) := by
  unfold m_spec_FirGive giveB
  rw [spec_MrkOk n m hn hm, Option.bind_some, gd_pos (ok_len1 hn.1), spec_in, Option.bind_some, spec_DatOk _ hd, Option.bind_some, gd_pos (by simpa using hm)]
  by_cases h1 : mrkB n m = true
  · by_cases h2 : inB t 0 ((n.tasks.length : Int) - 1) = true
    · by_cases h3 : datOk data = true
      · have h2' := inB_iff.1 h2
        have hg := getI_at n.tasks h2'.1 (by omega)
        have ht := atI_mem n.tasks h2'.1 (by omega)
        have G := give_ok (data := data) h1 ht
        rw [if_pos h1, if_pos h2, if_pos h3, h1, h2, h3, List.nil_append]
        rw [zero_scan (atI n.tasks t).clear (hn.2 _ ht).2.2 (m_spec_FirGive_l0 n t (m_spec_FirGive_k1 n t data)) (m_spec_FirGive_k1 n t data) m G.clears (fun n s => by rw [m_spec_FirGive_l0, hg, Option.bind_some, if_neg (by simp)])
          (fun n i p s b c d g => by rw [m_spec_FirGive_l0, hg, Option.bind_some, if_pos (decide_eq_true c), Option.bind_some, b, Option.bind_some, g, Option.bind_some, gd_pos d])]
        unfold m_spec_FirGive_k1
        rw [hg, Option.bind_some, spec_SplTo _ _ (hn.2 _ ht).2.1 hd, Option.bind_some]
        rw [stop_scan _ G.len (m_spec_FirGive_l1 _ m_spec_FirGive_k2) m_spec_FirGive_k2 (some ([], false)) _ G.tos G.ok (fun n s => by rw [m_spec_FirGive_l1, if_neg (by simp)])
          (fun n i p s b c d g o => by rw [m_spec_FirGive_l1, if_pos (decide_eq_true c)]; simp only [b, Option.bind_some, g, gd_pos d, gd_pos o]; rfl)]
        unfold m_spec_FirGive_k2 giveL
        cases okM (incs (zeros m (atI n.tasks t).clear) (splL (atI n.tasks t).split data (atI n.tasks t).out [])) <;> rfl
      · rw [if_pos h1, if_pos h2, if_neg h3, Bool.eq_false_iff.2 h3]; simp
    · rw [if_pos h1, if_neg h2, Bool.eq_false_iff.2 h2]; simp
  · rw [if_neg h1, Bool.eq_false_iff.2 h1]; simp
theorem impl_hasTask (n : GNet) (t : Int) (hn : n.small) : m_impl_NetNet_hasTask n t = some (inB t 0 ((n.tasks.length : Int) - 1)) := by
  unfold m_impl_NetNet_hasTask; rw [gd_pos (ok_len1 hn.1), impl_in]; rfl
theorem impl_FirGive (n : GNet) (m : List Int) (t : Int) (data : List Int) (hn : n.small) (hm : m.length ≤ SMALL) (hd : data.length ≤ SMALL) : m_impl_FirGive n m t data = some (giveB n m t data) := by
  unfold m_impl_FirGive giveB
  rw [impl_MrkOk n m hn hm, Option.bind_some, impl_hasTask n t hn, Option.bind_some, impl_DatOk _ hd, Option.bind_some, impl_cloneInts _ hm, Option.bind_some]
  by_cases h1 : mrkB n m = true
  · by_cases h2 : inB t 0 ((n.tasks.length : Int) - 1) = true
    · by_cases h3 : datOk data = true
      · have h2' := inB_iff.1 h2
        have hg := getI_at n.tasks h2'.1 (by omega)
        have ht := atI_mem n.tasks h2'.1 (by omega)
        have G := give_ok (data := data) h1 ht
        obtain ⟨f1, f2, f3⟩ := mrkB_facts h1
        rw [if_pos h1, if_pos h2, if_pos h3, h1, h2, h3, hg, Option.bind_some]
        rw [zero_scan (atI n.tasks t).clear (hn.2 _ ht).2.2 (m_impl_FirGive_l0 (atI n.tasks t).clear ((atI n.tasks t).clear.length : Int) (m_impl_FirGive_k1 n t data)) (m_impl_FirGive_k1 n t data) m G.clears (fun n s => by rw [m_impl_FirGive_l0, if_neg (by simp)])
          (fun n i p s b c d g => by rw [m_impl_FirGive_l0, if_pos (decide_eq_true c), b, Option.bind_some, g, Option.bind_some, gd_pos d])]
        unfold m_impl_FirGive_k1
        rw [hg, Option.bind_some, impl_SplTo _ _ (hn.2 _ ht).2.1 hd, Option.bind_some]
        rw [inc_scan _ G.len (m_impl_FirGive_l1 _ _ (m_impl_FirGive_k2 n)) (m_impl_FirGive_k2 n) _ 4 (by omega) G.tos (okM_cap.1 G.ok) (fun n s => by rw [m_impl_FirGive_l1, if_neg (by simp)])
          (fun n i p s b c d g o => by rw [m_impl_FirGive_l1, if_pos (decide_eq_true c)]; simp only [b, Option.bind_some, g, gd_pos d, gd_pos o]; rfl)]
        unfold m_impl_FirGive_k2 giveL
        have hl : (incs (zeros m (atI n.tasks t).clear) (splL (atI n.tasks t).split data (atI n.tasks t).out [])).length = m.length := by rw [incs_len, zeros_len]
        rw [impl_marksOk _ _ (by rw [hl]; exact hm), Option.bind_some]
        unfold marksB
        rw [hl, decide_eq_true f2, Bool.true_and]
        show (if okM _ = true then _ else _) = _
        cases okM (incs (zeros m (atI n.tasks t).clear) (splL (atI n.tasks t).split data (atI n.tasks t).out [])) <;> rfl
      · rw [if_pos h1, if_pos h2, if_neg h3, Bool.eq_false_iff.2 h3]; simp
    · rw [if_pos h1, if_neg h2, Bool.eq_false_iff.2 h2]; simp
  · rw [if_neg h1, Bool.eq_false_iff.2 h1]; simp
end Go.Am.Pl

end
section
/- Plain laws, chapter 6: work. Own work. -/
set_option maxRecDepth 100000
set_option linter.unusedVariables false
set_option linter.unusedSimpArgs false
namespace Go.Am.Pl
open Go

theorem giveB_len (n : GNet) (m : List Int) (t : Int) (data : List Int) : (giveB n m t data).1.length ≤ m.length := by
  unfold giveB
  cases mrkB n m && (inB t 0 ((n.tasks.length : Int) - 1) && (datOk data && okM (giveL n m (atI n.tasks t) data)))
  · simp
  · show (giveL n m (atI n.tasks t) data).length ≤ _
    unfold giveL; rw [incs_len, zeros_len]; exact Nat.le_refl _
theorem giveB_one {n : GNet} {m : List Int} {t : Int} {data : List Int} (h : (giveB n m t data).2 = true) : getI (giveB n m t data).1 1 = some (atI (giveB n m t data).1 1) := by
  have hl : (2 : Int) ≤ ((giveB n m t data).1.length : Int) := by
    unfold giveB at h ⊢
    cases e : mrkB n m && (inB t 0 ((n.tasks.length : Int) - 1) && (datOk data && okM (giveL n m (atI n.tasks t) data)))
    · rw [e] at h; cases h
    · show (2 : Int) ≤ ((giveL n m (atI n.tasks t) data).length : Int)
      unfold giveL; rw [incs_len, zeros_len]
      rw [Bool.and_eq_true] at e
      obtain ⟨f1, f2, f3⟩ := mrkB_facts e.1
      have := netB_size f1; omega
  exact getI_at _ (by omega) (by omega)
def datB (data : List Int) (v num : Int) : List Int := if 0 ≤ v then data.set v.toNat num else data
theorem datB_len (data : List Int) (v num : Int) : (datB data v num).length = data.length := by unfold datB; split <;> simp
theorem datOk_len {data : List Int} (h : datOk data = true) : data.length = 3 := by simp only [datOk, Bool.and_eq_true, decide_eq_true_eq] at h; exact h.1
theorem spec_DatSet {data : List Int} {v num : Int} (hd : datOk data = true) (hv : inB v (-1) 2 = true) (hn : inB num (-99) 99 = true) : m_spec_DatSet data v num = some (datB data v num) := by
  have hl := datOk_len hd
  have hv' := inB_iff.1 hv
  have hs : data.length ≤ SMALL := by unfold SMALL; omega
  unfold m_spec_DatSet datB
  rw [spec_DatOk _ hs, Option.bind_some, if_pos hd, spec_in, Option.bind_some, spec_in, Option.bind_some, if_pos hn, gd_pos (by simpa using hs), List.nil_append]
  by_cases h : 0 ≤ v
  · rw [if_pos (inB_iff.2 ⟨h, hv'.2⟩), getI_at data h (by omega), if_pos h]; rfl
  · rw [if_neg (fun e => h (inB_iff.1 e).1), if_neg h, gd_pos (by simpa using hs)]
def itD (b : GItem) : GItem := GItem.mk b.task b.who (b.did + 1)
def doneB (n : GNet) (c : GCase) (k : Int) (data : List Int) : GCase × Bool :=
  if (atI c.busy k).did + 1 < (atI n.tasks (atI c.busy k).task).need then (GCase.mk c.state c.marks (c.busy.set k.toNat (itD (atI c.busy k))) data c.did, true)
  else if (giveB n c.marks (atI c.busy k).task data).2 = true then
    (if 0 < atI (giveB n c.marks (atI c.busy k).task data).1 1 then (GCase.mk 2 (giveB n c.marks (atI c.busy k).task data).1 [] data (c.did ++ [GDid.mk (atI c.busy k).task (atI c.busy k).who]), true)
     else (GCase.mk c.state (giveB n c.marks (atI c.busy k).task data).1 (c.busy.take k.toNat ++ c.busy.drop (k + 1).toNat) data (c.did ++ [GDid.mk (atI c.busy k).task (atI c.busy k).who]), true))
  else (c, false)
def workB (n : GNet) (c : GCase) (k v num : Int) : GCase × Bool :=
  bif casB n c && (decide (c.state = 1) && (inB k 0 ((c.busy.length : Int) - 1) && (inB v (-1) 2 && (inB num (-99) 99 && !decide ((c.did.length : Int) = 60))))) then doneB n c k (datB c.data v num) else (c, false)
theorem spec_CasWork (n : GNet) (c : GCase) (k v num : Int) (hn : n.small) (hc : c.small) : m_spec_CasWork n c k v num = some (workB n c k v num) := by
  unfold m_spec_CasWork workB
  rw [spec_l6Copy c hc, Option.bind_some, spec_CasOk n c hn hc, Option.bind_some, gd_pos (ok_len1 hc.2.1)]
  simp only [spec_in, Option.bind_some]
  by_cases h1 : casB n c = true
  case neg => rw [if_neg h1, Bool.eq_false_iff.2 h1]; rfl
  by_cases h2 : c.state = 1
  case neg => rw [if_pos h1, if_neg (by simpa using h2), decide_eq_false h2]; simp
  by_cases h3 : inB k 0 ((c.busy.length : Int) - 1) = true
  case neg => rw [if_pos h1, if_pos (decide_eq_true h2), if_neg h3, Bool.eq_false_iff.2 h3]; simp
  by_cases h4 : inB v (-1) 2 = true
  case neg => rw [if_pos h1, if_pos (decide_eq_true h2), if_pos h3, if_neg h4, Bool.eq_false_iff.2 h4]; simp
  by_cases h5 : inB num (-99) 99 = true
  case neg => rw [if_pos h1, if_pos (decide_eq_true h2), if_pos h3, if_pos h4, if_neg h5, Bool.eq_false_iff.2 h5]; simp
  by_cases h6 : (c.did.length : Int) = 60
  · rw [if_pos h1, if_pos (decide_eq_true h2), if_pos h3, if_pos h4, if_pos h5, if_pos (decide_eq_true h6), decide_eq_true h6]; simp
  rw [if_pos h1, if_pos (decide_eq_true h2), if_pos h3, if_pos h4, if_pos h5, if_neg (by simpa using h6), h1, decide_eq_true h2, h3, h4, h5, decide_eq_false h6]
  have F := casB_facts h1
  have hk := inB_iff.1 h3
  have hb := atI_mem c.busy hk.1 (by omega)
  obtain ⟨ft, fw, fd⟩ := F.busy _ hb
  have ht := atI_mem n.tasks ft.1 ft.2
  have T := netB_task F.net ht
  have hneed := T.need
  have hall := T.all
  have hl := datOk_len F.data
  have hds : (datB c.data v num).length ≤ SMALL := by rw [datB_len]; unfold SMALL; omega
  have h60 := F.didl
  have hbl := F.busyl
  rw [getI_at c.busy hk.1 (by omega), Option.bind_some, spec_DatSet F.data h4 h5, Option.bind_some, gd_pos (by constructor <;> omega), Option.bind_some, gd_pos (by constructor <;> omega), getI_at n.tasks ft.1 ft.2, Option.bind_some]
  show _ = some (doneB n c k (datB c.data v num))
  unfold doneB
  by_cases h7 : (atI c.busy k).did + 1 < (atI n.tasks (atI c.busy k).task).need
  · rw [if_pos (decide_eq_true h7), if_pos h7]; rfl
  rw [if_neg (by simpa using h7), if_neg h7, spec_FirGive n _ _ _ hn hc.1 hds, Option.bind_some]
  by_cases h8 : (giveB n c.marks (atI c.busy k).task (datB c.data v num)).2 = true
  case neg => rw [if_neg h8, if_neg h8]
  rw [if_pos h8, if_pos h8, gd_pos (by omega), gd_pos (by simp; unfold SMALL; omega), gd_pos (by constructor <;> omega), gd_pos (by omega), gd_pos (by simp; unfold SMALL; omega), gd_pos (by simp; unfold SMALL; omega), giveB_one h8, Option.bind_some]
  by_cases h9 : 0 < atI (giveB n c.marks (atI c.busy k).task (datB c.data v num)).1 1
  · rw [if_pos (decide_eq_true h9), if_pos h9]
  · rw [if_neg (by simpa using h9), if_neg h9]; rfl
theorem impl_CasWork (n : GNet) (c : GCase) (k v num : Int) (hn : n.small) (hc : c.small) : m_impl_CasWork n c k v num = some (workB n c k v num) := by
  unfold m_impl_CasWork workB
  rw [impl_CasClone c hc, Option.bind_some, impl_running n c hn hc, Option.bind_some, gd_pos (ok_len1 hc.2.1)]
  simp only [impl_in, impl_isDatum, Option.bind_some]
  by_cases h1 : casB n c = true
  case neg => rw [Bool.eq_false_iff.2 h1]; rfl
  by_cases h2 : c.state = 1
  case neg => rw [decide_eq_false h2]; simp
  rw [h1, decide_eq_true h2]
  by_cases h3 : inB k 0 ((c.busy.length : Int) - 1) = true
  case neg => rw [Bool.eq_false_iff.2 h3]; simp
  by_cases h4 : inB v (-1) 2 = true
  case neg => rw [h3, Bool.eq_false_iff.2 h4]; simp
  by_cases h5 : inB num (-99) 99 = true
  case neg => rw [h3, h4, Bool.eq_false_iff.2 h5]; simp
  by_cases h6 : (c.did.length : Int) = 60
  · rw [h3, h4, h5, decide_eq_true h6]; simp
  rw [h3, h4, h5, decide_eq_false h6]
  have F := casB_facts h1
  have hk := inB_iff.1 h3
  have hv := inB_iff.1 h4
  have hb := atI_mem c.busy hk.1 (by omega)
  obtain ⟨ft, fw, fd⟩ := F.busy _ hb
  have ht := atI_mem n.tasks ft.1 ft.2
  have T := netB_task F.net ht
  have hneed := T.need
  have hall := T.all
  have hl := datOk_len F.data
  have h60 := F.didl
  have hbl := F.busyl
  have e1 : ∀ x : GItem, (c.busy.set k.toNat x).take k.toNat = c.busy.take k.toNat := fun x => List.take_set_of_le (Nat.le_refl _)
  have e2 : ∀ x : GItem, (c.busy.set k.toNat x).drop (k + 1).toNat = c.busy.drop (k + 1).toNat := fun x => List.drop_set_of_lt (by omega)
  have hD : ∀ x : GItem, m_Delete_GItem (c.busy.set k.toNat x) k (k + 1) = some (c.busy.take k.toNat ++ c.busy.drop (k + 1).toNat) := fun x => by
    unfold m_Delete_GItem; rw [gd_pos (by simp; omega), e1, e2]
  have okd : ok64 ((atI c.busy k).did + 1) := by constructor <;> omega
  have okk : ok64 (k + 1) := by constructor <;> omega
  have hsd : ∀ y : GDid, c.did.length + [y].length ≤ SMALL := fun y => by simp; unfold SMALL; omega
  have cl : ∀ (s : Int) (m : List Int) (b : List GItem) (d : List Int) (y : GDid), m.length ≤ c.marks.length → b.length ≤ c.busy.length → d.length = 3 → m_impl_CasCase_clone (GCase.mk s m b d (c.did ++ [y])) = some (GCase.mk s m b d (c.did ++ [y])) := fun s m b d y hm hb hd =>
    impl_CasClone _ ⟨Nat.le_trans hm hc.1, Nat.le_trans hb hc.2.1, by show d.length ≤ _; unfold SMALL; omega, by show (c.did ++ [y]).length ≤ _; rw [List.length_append]; exact hsd y⟩
  have tdl : (c.busy.take k.toNat ++ c.busy.drop (k + 1).toNat).length ≤ c.busy.length := by simp; omega
  have tail : ∀ data : List Int, data.length = 3 → (if decide ((atI c.busy k).did + 1 < (atI n.tasks (atI c.busy k).task).need) = true then some (GCase.mk c.state c.marks (c.busy.set k.toNat (itD (atI c.busy k))) data c.did, true)
      else (m_impl_FirGive n c.marks (atI c.busy k).task data).bind fun x18 => if x18.2 = true then gd (c.did.length + [GDid.mk (atI c.busy k).task (atI c.busy k).who].length ≤ SMALL) (gd (ok64 (k + 1)) ((m_Delete_GItem (c.busy.set k.toNat (itD (atI c.busy k))) k (k + 1)).bind fun x22 => (getI x18.1 1).bind fun x23 =>
        if decide (0 < x23) = true then (m_impl_CasCase_clone (GCase.mk 2 x18.1 [] data (c.did ++ [GDid.mk (atI c.busy k).task (atI c.busy k).who]))).bind fun x25 => some (x25, true)
        else (m_impl_CasCase_clone (GCase.mk c.state x18.1 x22 data (c.did ++ [GDid.mk (atI c.busy k).task (atI c.busy k).who]))).bind fun x26 => some (x26, true))) else some (c, false)) = some (doneB n c k data) := by
    intro data hdl
    unfold doneB
    by_cases h7 : (atI c.busy k).did + 1 < (atI n.tasks (atI c.busy k).task).need
    · rw [if_pos (decide_eq_true h7), if_pos h7]
    rw [if_neg (by simpa using h7), if_neg h7, impl_FirGive n _ _ _ hn hc.1 (by unfold SMALL; omega), Option.bind_some]
    have hgl := giveB_len n c.marks (atI c.busy k).task data
    by_cases h8 : (giveB n c.marks (atI c.busy k).task data).2 = true
    case neg => rw [if_neg h8, if_neg h8]
    rw [if_pos h8, if_pos h8, gd_pos (hsd _), gd_pos okk, hD, Option.bind_some, giveB_one h8, Option.bind_some]
    by_cases h9 : 0 < atI (giveB n c.marks (atI c.busy k).task data).1 1
    · rw [if_pos (decide_eq_true h9), if_pos h9, cl _ _ _ _ _ hgl (Nat.zero_le _) hdl]; rfl
    · rw [if_neg (by simpa using h9), if_neg h9, cl _ _ _ _ _ hgl tdl hdl]; rfl
  rw [if_pos (show (true && true) = true from rfl), if_pos rfl, if_pos rfl, if_pos rfl, if_neg (by simp)]
  by_cases hv0 : 0 ≤ v
  · rw [if_pos (decide_eq_true hv0), getI_at c.data hv0 (by omega), Option.bind_some, getI_at c.busy hk.1 (by omega), Option.bind_some, gd_pos okd, getI_at n.tasks ft.1 ft.2, Option.bind_some]
    have := tail (datB c.data v num) (by rw [datB_len, hl])
    unfold datB at this ⊢
    rw [if_pos hv0] at this ⊢
    exact this
  · rw [if_neg (by simpa using hv0), getI_at c.busy hk.1 (by omega), Option.bind_some, gd_pos okd, getI_at n.tasks ft.1 ft.2, Option.bind_some]
    have := tail (datB c.data v num) (by rw [datB_len, hl])
    unfold datB at this ⊢
    rw [if_neg hv0] at this ⊢
    exact this
end Go.Am.Pl

end
section
/- Plain laws: the spread of marks over a net, without a program in sight. Own work. -/
set_option maxRecDepth 100000
set_option linter.unusedVariables false
set_option linter.unusedSimpArgs false
namespace Go.Am.Pl
open Go

def atB (l : List Bool) (p : Int) : Bool := (getI l p).getD false
theorem getI_atB (l : List Bool) {i : Int} (h0 : 0 ≤ i) (h1 : i < l.length) : getI l i = some (atB l i) := by
  obtain ⟨x, hx, _⟩ := getI_ok l h0 h1
  unfold atB; rw [hx]; rfl
def setT (l : List Bool) (p : Int) : List Bool := l.set p.toNat true
theorem setT_len (l : List Bool) (p : Int) : (setT l p).length = l.length := by simp [setT]
theorem atB_set (l : List Bool) {p q : Int} (hp : 0 ≤ p) (hq : 0 ≤ q) (hl : q < l.length) : atB (setT l p) q = (decide (p = q) || atB l q) := by
  unfold atB setT
  rw [getI_set l true hp hq hl]
  by_cases h : p = q <;> simp [h]
def setTs (l : List Bool) (ps : List Int) : List Bool := ps.foldl setT l
theorem setTs_len : ∀ (ps : List Int) (l : List Bool), (setTs l ps).length = l.length
  | [], l => rfl
  | p :: ps, l => by show (setTs (setT l p) ps).length = _; rw [setTs_len ps, setT_len]
theorem atB_sets : ∀ (ps : List Int) (l : List Bool) {q : Int}, (∀ p ∈ ps, 0 ≤ p) → 0 ≤ q → q < l.length → atB (setTs l ps) q = (decide (q ∈ ps) || atB l q)
  | [], l, q, _, _, _ => by simp [setTs]
  | p :: ps, l, q, hp, h0, h1 => by
    show atB (setTs (setT l p) ps) q = _
    rw [atB_sets ps (setT l p) (fun x hx => hp x (by simp [hx])) h0 (by rw [setT_len]; exact h1), atB_set l (hp p (by simp)) h0 h1]
    by_cases h : p = q
    · subst h; simp
    · have : q ≠ p := fun e => h e.symm
      simp [h, this]

/-! ### Rounds -/
def rndT (but i : Int) (t : GTask) (l : List Bool) : List Bool := if i ≠ but ∧ t.in_.any (atB l) = true then setTs l (t.out.map (·.to)) else l
def rnd (but : Int) : Int → List GTask → List Bool → List Bool
  | _, [], l => l
  | i, t :: ts, l => rnd but (i + 1) ts (rndT but i t l)
theorem rndT_len (but i : Int) (t : GTask) (l : List Bool) : (rndT but i t l).length = l.length := by
  unfold rndT; split
  · rw [setTs_len]
  · rfl
theorem rnd_len (but : Int) : ∀ (ts : List GTask) (i : Int) (l : List Bool), (rnd but i ts l).length = l.length
  | [], _, _ => rfl
  | t :: ts, i, l => by unfold rnd; rw [rnd_len but ts, rndT_len]
/-- The places of the tasks lie in the net. -/
def Pls (N : Int) (ts : List GTask) : Prop := ∀ t ∈ ts, (∀ p ∈ t.in_, 0 ≤ p ∧ p < N) ∧ ∀ f ∈ t.out, 0 ≤ f.to ∧ f.to < N
theorem rndT_at {but i : Int} {t : GTask} {l : List Bool} (ht : ∀ f ∈ t.out, 0 ≤ f.to ∧ f.to < (l.length : Int)) {q : Int} (h0 : 0 ≤ q) (h1 : q < l.length) :
    atB (rndT but i t l) q = ((decide (i ≠ but) && t.in_.any (atB l) && t.out.any (fun f => decide (f.to = q))) || atB l q) := by
  unfold rndT
  by_cases hc : i ≠ but ∧ t.in_.any (atB l) = true
  · rw [if_pos hc, atB_sets _ _ (fun p hp => by obtain ⟨f, hf, e⟩ := List.mem_map.1 hp; subst e; exact (ht f hf).1) h0 h1, decide_eq_true hc.1, hc.2, Bool.true_and, Bool.true_and]
    congr 1
    rw [Bool.eq_iff_iff]; simp
  · rw [if_neg hc]
    have : (decide (i ≠ but) && t.in_.any (atB l)) = false := by
      rw [Bool.eq_false_iff]; intro h; rw [Bool.and_eq_true, decide_eq_true_eq] at h; exact hc h
    rw [this]; rfl
/-- What is true stays true. -/
def Sub (a b : List Bool) : Prop := ∀ q : Int, 0 ≤ q → q < a.length → atB a q = true → atB b q = true
theorem rndT_sub {but i : Int} {t : GTask} {l : List Bool} (ht : ∀ f ∈ t.out, 0 ≤ f.to ∧ f.to < (l.length : Int)) : Sub l (rndT but i t l) := fun q h0 h1 h => by
  rw [rndT_at ht h0 h1, h, Bool.or_true]
theorem rnd_sub {but : Int} : ∀ (ts : List GTask) (i : Int) (l : List Bool), Pls l.length ts → Sub l (rnd but i ts l)
  | [], _, _, _ => fun _ _ _ h => h
  | t :: ts, i, l, hp => fun q h0 h1 h => by
    have ht := (hp t (by simp)).2
    unfold rnd
    exact rnd_sub ts (i + 1) (rndT but i t l) (by rw [rndT_len]; exact fun x hx => hp x (by simp [hx])) q h0 (by rw [rndT_len]; exact h1) (rndT_sub ht q h0 h1 h)
/-- One step: a task, not the one left out, from one of its places to one to which it leads. -/
def Stp (but : Int) (ts : List GTask) (p q : Int) : Prop := ∃ (j : Nat) (t : GTask), ts[j]? = some t ∧ (j : Int) ≠ but ∧ p ∈ t.in_ ∧ ∃ f ∈ t.out, f.to = q
inductive Star (but : Int) (ts : List GTask) : Int → Int → Prop where
  | refl (p : Int) : Star but ts p p
  | tail {p q r : Int} : Star but ts p q → Stp but ts q r → Star but ts p r
/-- All that is true can be come to from where it began. -/
def Sound (but : Int) (ts : List GTask) (S : Int → Prop) (l : List Bool) : Prop := ∀ q : Int, 0 ≤ q → q < l.length → atB l q = true → ∃ p, S p ∧ Star but ts p q
theorem rnd_sound {but : Int} {all : List GTask} {S : Int → Prop} : ∀ (ts pre : List GTask) (l : List Bool), all = pre ++ ts → Pls l.length all → Sound but all S l → Sound but all S (rnd but pre.length ts l)
  | [], _, _, _, _, h => h
  | t :: ts, pre, l, ha, hp, h => by
    have hm : t ∈ all := by rw [ha]; simp
    have ht := hp t hm
    unfold rnd
    have := rnd_sound (all := all) (S := S) ts (pre ++ [t]) (rndT but pre.length t l) (by rw [ha]; simp) (by rw [rndT_len]; exact hp) (fun q h0 h1 hq => by
      rw [rndT_len] at h1
      rw [rndT_at ht.2 h0 h1] at hq
      rcases Bool.or_eq_true _ _ ▸ hq with hq | hq
      · simp only [Bool.and_eq_true, decide_eq_true_eq, List.any_eq_true] at hq
        obtain ⟨⟨hb, p, hpi, hpt⟩, f, hf, e⟩ := hq
        obtain ⟨s, hs, hst⟩ := h p (ht.1 p hpi).1 (ht.1 p hpi).2 hpt
        exact ⟨s, hs, hst.tail ⟨pre.length, t, by rw [ha]; simp, hb, hpi, f, hf, e⟩⟩
      · exact h q h0 h1 hq)
    simpa using this
/-- Nothing more can be come to in one step. -/
def Shut (but : Int) (ts : List GTask) (l : List Bool) : Prop := ∀ p q : Int, 0 ≤ p → p < l.length → atB l p = true → Stp but ts p q → atB l q = true
theorem rndT_fix {but i : Int} {t : GTask} {l : List Bool} (h : rndT but i t l = l) (ht : ∀ f ∈ t.out, 0 ≤ f.to ∧ f.to < (l.length : Int)) (hb : i ≠ but) {p : Int} (hp : p ∈ t.in_) (hl : atB l p = true) : ∀ f ∈ t.out, atB l f.to = true := fun f hf => by
  have := rndT_at (but := but) (i := i) ht (ht f hf).1 (ht f hf).2
  rw [h] at this
  rw [this, decide_eq_true hb, Bool.true_and, List.any_eq_true.2 ⟨p, hp, hl⟩, Bool.true_and, List.any_eq_true.2 ⟨f, hf, by simp⟩]; rfl

theorem sub_eq {a b : List Bool} (hl : a.length = b.length) (h1 : Sub a b) (h2 : Sub b a) : a = b := by
  apply List.ext_getElem? 
  intro j
  by_cases hj : j < a.length
  · have e1 := h1 j (by omega) (by omega)
    have e2 := h2 j (by omega) (by omega)
    unfold atB at e1 e2
    rw [getI_nat, getI_nat] at e1 e2
    rw [List.getElem?_eq_getElem hj, List.getElem?_eq_getElem (show j < b.length by omega)] at e1 e2 ⊢
    simp only [Option.getD_some] at e1 e2
    cases ha : a[j] <;> cases hb : b[j] <;> simp_all
  · rw [List.getElem?_eq_none (by omega), List.getElem?_eq_none (by omega)]
theorem Sub.trans {a b c : List Bool} (hl : a.length = b.length) (h1 : Sub a b) (h2 : Sub b c) : Sub a c := fun q h0 h3 h => h2 q h0 (by omega) (h1 q h0 h3 h)
theorem rnd_fix {but : Int} : ∀ (ts : List GTask) (i : Int) (l : List Bool), Pls l.length ts → rnd but i ts l = l → ∀ (j : Nat) (t : GTask), ts[j]? = some t → rndT but (i + j) t l = l
  | [], _, _, _, _, j, t, h => by simp at h
  | u :: ts, i, l, hp, h, j, t, hj => by
    have hu := (hp u (by simp)).2
    have hp' : Pls ((rndT but i u l).length) ts := by rw [rndT_len]; exact fun x hx => hp x (by simp [hx])
    have h2 := rnd_sub (but := but) ts (i + 1) (rndT but i u l) hp'
    unfold rnd at h
    rw [h] at h2
    have e : rndT but i u l = l := sub_eq (rndT_len _ _ _ _) h2 (rndT_sub hu)
    cases j with
    | zero => simp at hj; subst hj; simpa using e
    | succ j =>
      rw [e] at h
      have := rnd_fix ts (i + 1) l (fun x hx => hp x (by simp [hx])) h j t (by simpa using hj)
      rw [show i + ((j + 1 : Nat) : Int) = i + 1 + j by omega]; exact this
theorem fix_shut {but : Int} {ts : List GTask} {l : List Bool} (hp : Pls l.length ts) (h : rnd but 0 ts l = l) : Shut but ts l := fun p q h0 h1 ha ⟨j, t, hj, hb, hpi, f, hf, e⟩ => by
  subst e
  have := rnd_fix ts 0 l hp h j t hj
  rw [Int.zero_add] at this
  exact rndT_fix this (hp t (List.mem_iff_getElem?.2 ⟨j, hj⟩)).2 hb hpi ha f hf
theorem shut_star {but : Int} {ts : List GTask} {l : List Bool} (hp : Pls l.length ts) (h : Shut but ts l) {p q : Int} (hs : Star but ts p q) (h0 : 0 ≤ p) (h1 : p < l.length) (ha : atB l p = true) : (0 ≤ q ∧ q < l.length) ∧ atB l q = true := by
  induction hs with
  | refl => exact ⟨⟨h0, h1⟩, ha⟩
  | tail _ st ih =>
    obtain ⟨⟨i0, i1⟩, i2⟩ := ih
    refine ⟨?_, h _ _ i0 i1 i2 st⟩
    obtain ⟨j, t, hj, _, _, f, hf, e⟩ := st
    subst e
    exact (hp t (List.mem_iff_getElem?.2 ⟨j, hj⟩)).2 f hf
/-- How many are true. -/
def cntT (l : List Bool) : Nat := (l.filter id).length
theorem cntT_le (l : List Bool) : cntT l ≤ l.length := List.length_filter_le _ _
theorem cntT_cons (x : Bool) (l : List Bool) : cntT (x :: l) = (if x = true then 1 else 0) + cntT l := by
  unfold cntT; cases x <;> simp; omega
theorem cnt_mono : ∀ (a b : List Bool), a.length = b.length → (∀ j : Nat, a[j]? = some true → b[j]? = some true) → cntT a ≤ cntT b ∧ (cntT a = cntT b → a = b)
  | [], [], _, _ => ⟨Nat.le_refl _, fun _ => rfl⟩
  | [], _ :: _, h, _ => by simp at h
  | _ :: _, [], h, _ => by simp at h
  | x :: a, y :: b, hl, h => by
    have h0 : x = true → y = true := fun e => by have := h 0 (by simp [e]); simpa using this
    obtain ⟨i1, i2⟩ := cnt_mono a b (by simpa using hl) (fun j hj => by have := h (j + 1) (by simpa using hj); simpa using this)
    rw [cntT_cons, cntT_cons]
    cases x <;> cases y
    · exact ⟨by simpa using i1, fun e => by rw [i2 (by simpa using e)]⟩
    · exact ⟨by simp; omega, fun e => by simp at e; omega⟩
    · exact absurd (h0 rfl) (by simp)
    · exact ⟨by simpa using i1, fun e => by rw [i2 (by simpa using e)]⟩
theorem sub_cnt {a b : List Bool} (hl : a.length = b.length) (h : Sub a b) : cntT a ≤ cntT b ∧ (cntT a = cntT b → a = b) := by
  refine cnt_mono a b hl fun j hj => ?_
  have hlt : j < a.length := by
    rcases Nat.lt_or_ge j a.length with h2 | h2
    · exact h2
    · rw [List.getElem?_eq_none h2] at hj; cases hj
  have := h j (by omega) (by omega) (by unfold atB; rw [getI_nat, hj]; rfl)
  unfold atB at this
  rw [getI_nat] at this
  cases e : b[j]? with
  | none => rw [e] at this; cases this
  | some v => rw [e] at this; simp at this; rw [this]
def iter (but : Int) (ts : List GTask) : Nat → List Bool → List Bool
  | 0, l => l
  | k + 1, l => iter but ts k (rnd but 0 ts l)
theorem iter_len (but : Int) (ts : List GTask) : ∀ (k : Nat) (l : List Bool), (iter but ts k l).length = l.length
  | 0, _ => rfl
  | k + 1, l => by show (iter but ts k (rnd but 0 ts l)).length = _; rw [iter_len but ts k, rnd_len]
theorem iter_stay {but : Int} {ts : List GTask} {l : List Bool} (h : rnd but 0 ts l = l) : ∀ k : Nat, iter but ts k l = l
  | 0 => rfl
  | k + 1 => by show iter but ts k (rnd but 0 ts l) = l; rw [h]; exact iter_stay h k
theorem iter_fix {but : Int} {ts : List GTask} : ∀ (k : Nat) (l : List Bool), Pls l.length ts → l.length ≤ cntT l + k → rnd but 0 ts (iter but ts k l) = iter but ts k l
  | 0, l, hp, h => by
    have hs := rnd_sub (but := but) ts 0 l hp
    obtain ⟨h1, h2⟩ := sub_cnt (rnd_len but ts 0 l).symm hs
    have h3 := cntT_le (rnd but 0 ts l)
    rw [rnd_len] at h3
    exact (h2 (by omega)).symm
  | k + 1, l, hp, h => by
    by_cases e : rnd but 0 ts l = l
    · rw [iter_stay e]; exact e
    · have hs := rnd_sub (but := but) ts 0 l hp
      obtain ⟨h1, h2⟩ := sub_cnt (rnd_len but ts 0 l).symm hs
      have h4 : cntT l ≠ cntT (rnd but 0 ts l) := fun e2 => e (h2 e2).symm
      exact iter_fix k (rnd but 0 ts l) (by rw [rnd_len]; exact hp) (by rw [rnd_len]; omega)
theorem iter_sub {but : Int} {ts : List GTask} : ∀ (k : Nat) (l : List Bool), Pls l.length ts → Sub l (iter but ts k l)
  | 0, _, _ => fun _ _ _ h => h
  | k + 1, l, hp => Sub.trans (rnd_len but ts 0 l).symm (rnd_sub ts 0 l hp) (iter_sub k (rnd but 0 ts l) (by rw [rnd_len]; exact hp))
theorem iter_sound {but : Int} {ts : List GTask} {S : Int → Prop} : ∀ (k : Nat) (l : List Bool), Pls l.length ts → Sound but ts S l → Sound but ts S (iter but ts k l)
  | 0, _, _, h => h
  | k + 1, l, hp, h => iter_sound k (rnd but 0 ts l) (by rw [rnd_len]; exact hp) (rnd_sound ts [] l rfl hp h)
/-- What a spread comes to. -/
theorem spread_iff {but : Int} {ts : List GTask} {l r : List Bool} (hp : Pls l.length ts) (hl : r.length = l.length) (h1 : Sub l r) (h2 : rnd but 0 ts r = r) (h3 : Sound but ts (fun p => (0 ≤ p ∧ p < l.length) ∧ atB l p = true) r) {q : Int} (h0 : 0 ≤ q) (hq : q < l.length) :
    atB r q = true ↔ ∃ p : Int, ((0 ≤ p ∧ p < l.length) ∧ atB l p = true) ∧ Star but ts p q := by
  have hp' : Pls r.length ts := by rw [hl]; exact hp
  constructor
  · exact h3 q h0 (by rw [hl]; exact hq)
  · rintro ⟨p, ⟨⟨a, b⟩, c⟩, st⟩
    exact (shut_star hp' (fix_shut hp' h2) st a (by rw [hl]; exact b) (h1 p a b c)).2
theorem sound_self {but : Int} {ts : List GTask} (l : List Bool) : Sound but ts (fun p => (0 ≤ p ∧ p < l.length) ∧ atB l p = true) l := fun q h0 h1 h => ⟨q, ⟨⟨h0, h1⟩, h⟩, .refl q⟩
end Go.Am.Pl

end
section
/- Plain laws, chapters 2 and 3: the spread, as the reference and the program have it. Own work. -/
set_option maxRecDepth 100000
set_option linter.unusedVariables false
set_option linter.unusedSimpArgs false
namespace Go.Am.Pl
open Go

/-- A loop over the indexes of a list that leaves nowhere: what it comes to has a property. -/
theorem scanE {α β σ : Type} (l : List α) (hl : l.length ≤ SMALL) (f : Nat → Int → σ → Option β) (kx : σ → Option β) (Inv : List α → σ → Prop)
    (h0 : ∀ n s, f (n + 1) (l.length : Int) s = kx s)
    (h1 : ∀ n pre x suf s, l = pre ++ x :: suf → getI l (pre.length : Int) = some x → x ∈ l → ((pre.length : Int) < (l.length : Int)) → ok64 ((pre.length : Int) + 1) → Inv pre s →
      ∃ s', Inv (pre ++ [x]) s' ∧ f (n + 1) (pre.length : Int) s = f n ((pre.length : Int) + 1) s') :
    ∀ s, Inv [] s → ∃ s', Inv l s' ∧ f FUEL 0 s = kx s' := by
  unfold SMALL at hl
  have key : ∀ suf pre n s, l = pre ++ suf → Inv pre s → suf.length < n → ∃ s', Inv l s' ∧ f n (pre.length : Int) s = kx s' := by
    intro suf
    induction suf with
    | nil =>
      intro pre n s hp hi hn
      obtain ⟨m, rfl⟩ : ∃ m, n = m + 1 := ⟨n - 1, by simp at hn; omega⟩
      simp only [List.append_nil] at hp
      subst hp
      exact ⟨s, hi, h0 m s⟩
    | cons x suf ih =>
      intro pre n s hp hi hn
      obtain ⟨m, rfl⟩ : ∃ m, n = m + 1 := ⟨n - 1, by simp at hn; omega⟩
      have hlen : l.length = pre.length + suf.length + 1 := by rw [hp]; simp; omega
      obtain ⟨s', hi', e⟩ := h1 m pre x suf s hp (by rw [hp]; exact getI_mid pre x suf) (by rw [hp]; simp) (by omega) (by constructor <;> omega) hi
      obtain ⟨s2, hi2, e2⟩ := ih (pre ++ [x]) m s' (by rw [hp]; simp) hi' (by simp at hn; omega)
      refine ⟨s2, hi2, ?_⟩
      rw [e, ← e2]; simp
  intro s hi
  exact key l [] FUEL s (by simp) hi (by have := FUEL_ge; omega)

/-! ### The reference's spread -/
theorem spr_in {n : GNet} {i : Int} {t : GTask} {l : List Bool} (kx : Bool → Option (List Bool)) (h : getI n.tasks i = some t) (hs : t.in_.length ≤ SMALL) (hp : ∀ p ∈ t.in_, 0 ≤ p ∧ p < l.length) :
    m_spec_l2Spread_l2 n i l kx FUEL false 0 = kx (t.in_.any (atB l)) :=
  scan t.in_ (by unfold SMALL at hs; omega) (fun f k s => m_spec_l2Spread_l2 n i l kx f s k) (fun _ suf s => kx (s || suf.any (atB l))) (fun _ _ => True)
    (fun f s _ => by rw [m_spec_l2Spread_l2, h, Option.bind_some, if_neg (by simp)]; simp)
    (fun f pre x suf s a b c d _ k => by
      have hx := hp x (by rw [a]; simp)
      rw [m_spec_l2Spread_l2, h, Option.bind_some, if_pos (decide_eq_true c)]
      cases s
      · rw [if_neg (by simp), Option.bind_some, b, Option.bind_some, getI_atB l hx.1 hx.2, Option.bind_some, gd_pos d, k _ trivial]; simp
      · rw [if_pos rfl, gd_pos d, k _ trivial]; simp) FUEL false trivial (by have := FUEL_ge; unfold SMALL at hs; omega)
theorem spr_out {n : GNet} {but i : Int} {t : GTask} {s : Bool} {l : List Bool} (kx : List Bool → Option (List Bool)) (h : getI n.tasks i = some t) (hs : t.out.length ≤ SMALL) (hp : ∀ f ∈ t.out, 0 ≤ f.to ∧ f.to < l.length) :
    m_spec_l2Spread_l3 n but i s kx kx kx FUEL 0 l = kx (if i ≠ but ∧ s = true then setTs l (t.out.map (·.to)) else l) := by
  obtain ⟨g, hF⟩ : ∃ g, FUEL = g + 1 := ⟨FUEL - 1, by have := FUEL_ge; omega⟩
  by_cases hb : i = but
  · rw [hF, m_spec_l2Spread_l3, h, Option.bind_some]
    cases s <;> simp [hb]
  · cases s
    · rw [hF, m_spec_l2Spread_l3, h, Option.bind_some]; simp
    · rw [if_pos ⟨hb, rfl⟩]
      exact scan t.out (by unfold SMALL at hs; omega) (m_spec_l2Spread_l3 n but i true kx kx kx) (fun _ suf l => kx (setTs l (suf.map (·.to)))) (fun _ l2 => l2.length = l.length)
        (fun f s _ => by rw [m_spec_l2Spread_l3, h, Option.bind_some, if_neg (by simp)]; rfl)
        (fun f pre x suf s a b c d hi k => by
          have hx := hp x (by rw [a]; simp)
          rw [m_spec_l2Spread_l3, h, Option.bind_some, if_pos (decide_eq_true c), if_pos rfl, if_neg (by simpa using hb), Option.bind_some, b, Option.bind_some, getI_atB s hx.1 (by rw [hi]; exact hx.2), Option.bind_some, gd_pos d]
          exact k _ (by rw [← hi, ← setT_len s x.to]; rfl)) FUEL l rfl (by have := FUEL_ge; unfold SMALL at hs; omega)
theorem netB_pls {n : GNet} (h : netB n = true) {N : Nat} (hN : (N : Int) = n.places) : Pls N n.tasks := fun t ht => by
  have T := netB_task h ht
  refine ⟨fun p hp => by have := T.ins p hp; omega, fun f hf => ?_⟩
  have := netB_to h ht f hf; omega
theorem spec_l2Spread {n : GNet} {l : List Bool} (but : Int) (hn : n.small) (h : netB n = true) (hl : (l.length : Int) = n.places) : m_spec_l2Spread n l but = some (iter but n.tasks l.length l) := by
  have hsz := netB_size h
  have hP := netB_pls h hl
  unfold m_spec_l2Spread
  rw [gd_pos (by simp; unfold SMALL; omega), List.nil_append]
  have round : ∀ (kx : List Bool → Option (List Bool)) (s : List Bool), s.length = l.length → m_spec_l2Spread_l1 n but kx FUEL 0 s = kx (rnd but 0 n.tasks s) := fun kx s hs =>
    scan n.tasks (by have := hn.1; unfold SMALL at this; omega) (m_spec_l2Spread_l1 n but kx) (fun pre suf s => kx (rnd but pre.length suf s)) (fun _ s => s.length = l.length)
      (fun f s _ => by rw [m_spec_l2Spread_l1, if_neg (by simp)]; rfl)
      (fun f pre x suf s a b c d hi k => by
        have hx : x ∈ n.tasks := by rw [a]; simp
        have hx2 := hP x hx
        rw [m_spec_l2Spread_l1, if_pos (decide_eq_true c), spr_in _ b (hn.2 x hx).1 (by rw [hi]; exact hx2.1)]
        unfold m_spec_l2Spread_k1
        have e2 : m_spec_l2Spread_k2 (pre.length : Int) (m_spec_l2Spread_l1 n but kx f) = fun z => m_spec_l2Spread_l1 n but kx f ((pre.length : Int) + 1) z := funext fun z => by unfold m_spec_l2Spread_k2; rw [gd_pos d]
        have e3 : m_spec_l2Spread_k3 (pre.length : Int) (m_spec_l2Spread_l1 n but kx f) = fun z => m_spec_l2Spread_l1 n but kx f ((pre.length : Int) + 1) z := funext fun z => by unfold m_spec_l2Spread_k3; rw [gd_pos d]
        have e4 : m_spec_l2Spread_k4 (pre.length : Int) (m_spec_l2Spread_l1 n but kx f) = fun z => m_spec_l2Spread_l1 n but kx f ((pre.length : Int) + 1) z := funext fun z => by unfold m_spec_l2Spread_k4; rw [gd_pos d]
        rw [e2, e3, e4, spr_out _ b (hn.2 x hx).2.1 (by rw [hi]; exact hx2.2)]
        have := k (rndT but pre.length x s) (by rw [rndT_len, hi])
        rw [rnd]
        rw [List.length_append, List.length_singleton] at this
        exact this) FUEL s hs (by have := FUEL_ge; have := hn.1; unfold SMALL at this; omega)
  have hrep : (List.replicate l.length ()).length = l.length := by simp
  have := scan (List.replicate l.length ()) (by rw [hrep]; omega) (m_spec_l2Spread_l0 n but m_spec_l2Spread_k6) (fun _ suf s => some (iter but n.tasks suf.length s)) (fun _ s => s.length = l.length)
      (fun f s _ => by rw [m_spec_l2Spread_l0, hrep, if_neg (by simp; omega)]; rfl)
      (fun f pre x suf s a b c d hi k => by
        rw [hrep] at c
        rw [m_spec_l2Spread_l0, if_pos (by simp; omega), round _ s hi]
        unfold m_spec_l2Spread_k5
        rw [gd_pos d]
        exact k _ (by rw [rnd_len, hi])) FUEL l rfl (by have := FUEL_ge; rw [hrep]; omega)
  rw [this, hrep]

/-! ### The program's reach -/
theorem setT_same {l : List Bool} {p : Int} (h0 : 0 ≤ p) (h1 : p < l.length) (h : atB l p = true) : setT l p = l :=
  sub_eq (setT_len l p) (fun q a b c => by
    rw [setT_len] at b
    rw [atB_set l h0 a b] at c
    rcases Bool.or_eq_true _ _ ▸ c with c | c
    · rw [decide_eq_true_eq] at c; subst c; exact h
    · exact c) (fun q a b c => by rw [atB_set l h0 a b, c, Bool.or_true])
theorem sets_ne {l : List Bool} {p : Int} {ps : List Int} (hp : ∀ x ∈ ps, 0 ≤ x) (h0 : 0 ≤ p) (h1 : p < l.length) (h : atB l p = false) : setTs (setT l p) ps ≠ l := fun e => by
  have h2 := atB_sets ps (setT l p) hp h0 (by rw [setT_len]; exact h1)
  rw [e, h, atB_set l h0 h0 h1] at h2
  simp at h2
theorem reach_out (ps : List GFlow) (hs : ps.length ≤ SMALL) (kx : Bool → List Bool → Option (List Bool)) (c0 : Bool) (l0 : List Bool) (hp : ∀ f ∈ ps, 0 ≤ f.to ∧ f.to < l0.length) :
    m_impl_NetNet_reach_l2 ps (ps.length : Int) kx FUEL 0 c0 l0 = kx (c0 || !decide (setTs l0 (ps.map (·.to)) = l0)) (setTs l0 (ps.map (·.to))) :=
  scan ps (by unfold SMALL at hs; omega) (fun n i (s : Bool × List Bool) => m_impl_NetNet_reach_l2 ps (ps.length : Int) kx n i s.1 s.2) (fun _ suf s => kx (s.1 || !decide (setTs s.2 (suf.map (·.to)) = s.2)) (setTs s.2 (suf.map (·.to)))) (fun _ s => s.2.length = l0.length)
    (fun n s _ => by rw [m_impl_NetNet_reach_l2, if_neg (by simp)]; simp [setTs])
    (fun n pre x suf s a b c d hi k => by
      obtain ⟨s1, s2⟩ := s
      have hx := hp x (by rw [a]; simp)
      have hx2 : x.to < s2.length := by rw [hi]; exact hx.2
      have hg := getI_atB s2 hx.1 hx2
      have hm : ∀ y ∈ suf.map (·.to), 0 ≤ y := fun y hy => by obtain ⟨f, hf, e⟩ := List.mem_map.1 hy; subst e; exact (hp f (by rw [a]; simp [hf])).1
      show m_impl_NetNet_reach_l2 ps (ps.length : Int) kx (n + 1) (pre.length : Int) s1 s2 = kx (s1 || !decide (setTs (setT s2 x.to) (suf.map (·.to)) = s2)) (setTs (setT s2 x.to) (suf.map (·.to)))
      rw [m_impl_NetNet_reach_l2, if_pos (decide_eq_true c), b, Option.bind_some]
      have fin : ∀ b2 : Bool, (b2 || !decide (setTs (setT s2 x.to) (suf.map (·.to)) = setT s2 x.to)) = (s1 || !decide (setTs (setT s2 x.to) (suf.map (·.to)) = s2)) → m_impl_NetNet_reach_l2 ps (ps.length : Int) kx n ((pre.length : Int) + 1) b2 (s2.set x.to.toNat true) = kx (s1 || !decide (setTs (setT s2 x.to) (suf.map (·.to)) = s2)) (setTs (setT s2 x.to) (suf.map (·.to))) := fun b2 hb => by
        have := k (b2, setT s2 x.to) (by show (setT s2 x.to).length = _; rw [setT_len, hi])
        rw [← hb]; exact this
      cases s1
      · rw [if_neg (by simp), hg, Option.bind_some, Option.bind_some, gd_pos d]
        refine fin _ ?_
        cases e : atB s2 x.to
        · simp [sets_ne hm hx.1 hx2 e]
        · rw [setT_same hx.1 hx2 e]; rfl
      · rw [if_pos rfl, hg, Option.bind_some, gd_pos d]
        exact fin _ (by simp)) FUEL (c0, l0) rfl (by have := FUEL_ge; unfold SMALL at hs; omega)
theorem ContainsB (s : List Int) (hs : s.length ≤ SMALL) (l : List Bool) (hp : ∀ p ∈ s, 0 ≤ p ∧ p < l.length) : m_ContainsFunc_I s (fun z => m_impl_NetNet_reach_1 z l) = some (s.any (atB l)) :=
  ContainsFunc_I s hs _ (atB l) (fun x hx => by unfold m_impl_NetNet_reach_1; rw [getI_atB l (hp x hx).1 (hp x hx).2]; rfl)
theorem reach_round {n : GNet} {N : Nat} (but : Int) (hn : n.small) (hP : Pls N n.tasks) (kx : Bool → List Bool → Option (List Bool)) (l0 : List Bool) (hl : l0.length = N) :
    m_impl_NetNet_reach_l1 but kx FUEL n.tasks (n.tasks.length : Int) 0 false l0 = kx (!decide (rnd but 0 n.tasks l0 = l0)) (rnd but 0 n.tasks l0) := by
  have := scan n.tasks (by have := hn.1; unfold SMALL at this; omega) (fun f i (s : Bool × List Bool) => m_impl_NetNet_reach_l1 but kx f n.tasks (n.tasks.length : Int) i s.1 s.2)
    (fun pre suf s => kx (s.1 || !decide (rnd but pre.length suf s.2 = s.2)) (rnd but pre.length suf s.2)) (fun _ s => s.2.length = N)
    (fun f s _ => by rw [m_impl_NetNet_reach_l1, if_neg (by simp)]; simp [rnd])
    (fun f pre x suf s a b c d hi k => by
      obtain ⟨s1, s2⟩ := s
      have hi2 : s2.length = N := hi
      have hx : x ∈ n.tasks := by rw [a]; simp
      have hx2 := hP x hx
      have hsuf : Pls (rndT but pre.length x s2).length suf := by rw [rndT_len, hi2]; exact fun y hy => hP y (by rw [a]; simp [hy])
      have fin : ∀ b2 : Bool, b2 = (s1 || !decide (rndT but pre.length x s2 = s2)) → m_impl_NetNet_reach_l1 but kx f n.tasks (n.tasks.length : Int) ((pre.length : Int) + 1) b2 (rndT but pre.length x s2) = kx (s1 || !decide (rnd but pre.length (x :: suf) s2 = s2)) (rnd but pre.length (x :: suf) s2) := fun b2 hb => by
        have h2 := k (b2, rndT but pre.length x s2) (by show (rndT but pre.length x s2).length = _; rw [rndT_len, hi2])
        rw [List.length_append, List.length_singleton] at h2
        have h3 : m_impl_NetNet_reach_l1 but kx f n.tasks (n.tasks.length : Int) ((pre.length : Int) + 1) b2 (rndT but pre.length x s2) = kx (b2 || !decide (rnd but (pre.length + 1) suf (rndT but pre.length x s2) = rndT but pre.length x s2)) (rnd but (pre.length + 1) suf (rndT but pre.length x s2)) := h2
        rw [h3, rnd, hb]
        congr 1
        by_cases e : rndT but pre.length x s2 = s2
        · rw [e]; simp
        · have : rnd but (pre.length + 1) suf (rndT but pre.length x s2) ≠ s2 := fun e2 => e (by
            have h4 := rnd_sub (but := but) suf (pre.length + 1) (rndT but pre.length x s2) hsuf
            rw [e2] at h4
            exact sub_eq (rndT_len _ _ _ _) h4 (rndT_sub (by rw [hi2]; exact hx2.2)))
          simp [e, this]
      show m_impl_NetNet_reach_l1 but kx (f + 1) n.tasks (n.tasks.length : Int) (pre.length : Int) s1 s2 = kx (s1 || !decide (rnd but pre.length (x :: suf) s2 = s2)) (rnd but pre.length (x :: suf) s2)
      rw [m_impl_NetNet_reach_l1, if_pos (decide_eq_true c), b, Option.bind_some]
      by_cases hb : (pre.length : Int) = but
      · have e : rndT but pre.length x s2 = s2 := by unfold rndT; rw [if_neg (fun h => h.1 hb)]
        rw [if_pos (decide_eq_true hb), gd_pos d]
        have := fin s1 (by rw [e]; simp)
        rw [e] at this; exact this
      · rw [if_neg (by simpa using hb), ContainsB x.in_ (hn.2 x hx).1 s2 (by rw [hi2]; exact hx2.1), Option.bind_some]
        by_cases ha : x.in_.any (atB s2) = true
        · have e : rndT but pre.length x s2 = setTs s2 (x.out.map (·.to)) := by unfold rndT; rw [if_pos ⟨hb, ha⟩]
          rw [if_pos ha, reach_out x.out (hn.2 x hx).2.1 _ s1 s2 (by rw [hi2]; exact hx2.2)]
          unfold m_impl_NetNet_reach_k1
          rw [gd_pos d, ← e]
          exact fin _ rfl
        · have e : rndT but pre.length x s2 = s2 := by unfold rndT; rw [if_neg (fun h => ha h.2)]
          rw [if_neg ha, gd_pos d]
          have := fin s1 (by rw [e]; simp)
          rw [e] at this; exact this) FUEL (false, l0) hl (by have := FUEL_ge; have := hn.1; unfold SMALL at this; omega)
  simpa using this
theorem reach_loop {n : GNet} {N : Nat} (but : Int) (hn : n.small) (hP : Pls N n.tasks) (kx : List Bool → Option (List Bool)) : ∀ (K : Nat) (l : List Bool) (f : Nat), l.length = N → N ≤ cntT l + K → K + 2 ≤ f →
    m_impl_NetNet_reach_l0 n but kx f true l = kx (iter but n.tasks K l) := by
  intro K
  induction K with
  | zero =>
    intro l f hl hc hf
    obtain ⟨g, rfl⟩ : ∃ g, f = g + 2 := ⟨f - 2, by omega⟩
    rw [m_impl_NetNet_reach_l0, if_pos rfl, reach_round but hn hP _ l hl]
    unfold m_impl_NetNet_reach_k2
    have e : rnd but 0 n.tasks l = l := iter_fix (but := but) (ts := n.tasks) 0 l (by rw [hl]; exact hP) (by rw [hl]; exact hc)
    rw [e, decide_eq_true rfl, m_impl_NetNet_reach_l0, if_neg (by simp)]; rfl
  | succ K ih =>
    intro l f hl hc hf
    obtain ⟨g, rfl⟩ : ∃ g, f = g + 2 := ⟨f - 2, by omega⟩
    rw [m_impl_NetNet_reach_l0, if_pos rfl, reach_round but hn hP _ l hl]
    unfold m_impl_NetNet_reach_k2
    by_cases e : rnd but 0 n.tasks l = l
    · rw [e, decide_eq_true rfl, m_impl_NetNet_reach_l0, if_neg (by simp), iter_stay e]
    · rw [decide_eq_false e]
      have hs := rnd_sub (but := but) n.tasks 0 l (by rw [hl]; exact hP)
      obtain ⟨h1, h2⟩ := sub_cnt (rnd_len but n.tasks 0 l).symm hs
      have h4 : cntT l ≠ cntT (rnd but 0 n.tasks l) := fun e2 => e (h2 e2).symm
      exact ih (rnd but 0 n.tasks l) (g + 1) (by rw [rnd_len, hl]) (by omega) (by omega)
def oneT (N : Nat) (p : Int) : List Bool := setT (List.replicate N false) p
theorem impl_reach {n : GNet} (p but : Int) (hn : n.small) (h : netB n = true) (h0 : 0 ≤ p) (h1 : p < n.places) : m_impl_NetNet_reach n p but = some (iter but n.tasks n.places.toNat (oneT n.places.toNat p)) := by
  have hsz := netB_size h
  unfold m_impl_NetNet_reach
  rw [gd_pos (by omega), getI_atB (List.replicate n.places.toNat false) h0 (by simp; omega), Option.bind_some]
  have hl : (oneT n.places.toNat p).length = n.places.toNat := by unfold oneT; rw [setT_len]; simp
  exact (reach_loop but hn (netB_pls h (by omega)) m_impl_NetNet_reach_k3 n.places.toNat (oneT n.places.toNat p) FUEL hl (by omega) (by have := FUEL_ge; omega))
theorem atB_rep (N : Nat) (q : Int) : atB (List.replicate N false) q = false := by
  unfold atB getI
  split
  · cases e : (List.replicate N false)[q.toNat]? with
    | none => rfl
    | some v =>
      have := List.mem_of_getElem? e
      rw [List.mem_replicate] at this
      simp [this.2]
  · rfl
theorem oneT_at {N : Nat} {p q : Int} (hp : 0 ≤ p) (hq : 0 ≤ q) (h : q < N) : atB (oneT N p) q = decide (p = q) := by
  unfold oneT; rw [atB_set _ hp hq (by simpa using h), atB_rep, Bool.or_false]
/-- What is come to from one place. -/
theorem reach_iff {n : GNet} {p but q : Int} (h : netB n = true) (h0 : 0 ≤ p) (h1 : p < n.places) (g0 : 0 ≤ q) (g1 : q < n.places) :
    atB (iter but n.tasks n.places.toNat (oneT n.places.toNat p)) q = true ↔ Star but n.tasks p q := by
  have hsz := netB_size h
  have hl : (oneT n.places.toNat p).length = n.places.toNat := by unfold oneT; rw [setT_len]; simp
  have hP : Pls (oneT n.places.toNat p).length n.tasks := netB_pls h (by rw [hl]; omega)
  rw [spread_iff hP (by rw [iter_len]) (iter_sub _ _ hP) (iter_fix _ _ hP (by rw [hl]; omega)) (iter_sound _ _ hP (sound_self _)) g0 (by rw [hl]; omega)]
  constructor
  · rintro ⟨x, ⟨⟨a, b⟩, c⟩, st⟩
    rw [hl] at b
    rw [oneT_at h0 a b, decide_eq_true_eq] at c
    subst c; exact st
  · intro st
    exact ⟨p, ⟨⟨h0, by rw [hl]; omega⟩, by rw [oneT_at h0 h0 (by omega)]; simp⟩, st⟩
/-- What is come to from all that is true. -/
theorem spread_all {n : GNet} {l : List Bool} {but q : Int} (h : netB n = true) (hl : (l.length : Int) = n.places) (g0 : 0 ≤ q) (g1 : q < n.places) :
    atB (iter but n.tasks l.length l) q = true ↔ ∃ p, (0 ≤ p ∧ p < n.places) ∧ atB l p = true ∧ Star but n.tasks p q := by
  have hP : Pls l.length n.tasks := netB_pls h hl
  rw [spread_iff hP (by rw [iter_len]) (iter_sub _ _ hP) (iter_fix _ _ hP (by omega)) (iter_sound _ _ hP (sound_self _)) g0 (by omega)]
  constructor
  · rintro ⟨x, ⟨⟨a, b⟩, c⟩, st⟩; exact ⟨x, ⟨a, by omega⟩, c, st⟩
  · rintro ⟨x, ⟨a, b⟩, c, st⟩; exact ⟨x, ⟨⟨a, by omega⟩, c⟩, st⟩
end Go.Am.Pl

end
section
/- Plain laws, chapter 3: what can begin, what it takes. Own work. -/
set_option maxRecDepth 100000
set_option linter.unusedVariables false
set_option linter.unusedSimpArgs false
namespace Go.Am.Pl
open Go

/-- From where more may come. -/
def srcB (n : GNet) (marks : List Int) (busy : List GItem) (ins : List Int) (p : Int) : Bool :=
  (decide (0 < atI marks p) && !ins.any (fun x => decide (x = p))) || busy.any (fun b => (atI n.tasks b.task).out.any (fun f => decide (f.to = p)))
/-- More may come to a task. -/
def Coming (n : GNet) (marks : List Int) (busy : List GItem) (t : Int) : Prop :=
  ∃ q ∈ (atI n.tasks t).in_, atI marks q = 0 ∧ ∃ p : Int, (0 ≤ p ∧ p < n.places) ∧ srcB n marks busy (atI n.tasks t).in_ p = true ∧ Star t n.tasks p q
noncomputable def comB (n : GNet) (marks : List Int) (busy : List GItem) (t : Int) : Bool := @decide (Coming n marks busy t) (Classical.propDecidable _)
theorem comB_iff {n : GNet} {marks : List Int} {busy : List GItem} {t : Int} : comB n marks busy t = true ↔ Coming n marks busy t := by unfold comB; exact @decide_eq_true_iff _ (Classical.propDecidable _)
theorem comB_eq {n : GNet} {marks : List Int} {busy : List GItem} {t : Int} {b : Bool} (h : b = true ↔ Coming n marks busy t) : b = comB n marks busy t := by
  rw [Bool.eq_iff_iff, h, comB_iff]
/-- What a net, marks and tasks under way that are ok have. -/
structure MB (n : GNet) (m : List Int) (busy : List GItem) : Prop where
  net : netB n = true
  len : (m.length : Int) = n.places
  mks : ∀ x ∈ m, 0 ≤ x ∧ x ≤ 4
  busyl : busy.length ≤ 6
  busy : ∀ b ∈ busy, (0 ≤ b.task ∧ b.task < n.tasks.length)
theorem mb_of {n : GNet} {m : List Int} {busy : List GItem} (h1 : mrkB n m = true) (h2 : busyB n busy = true) : MB n m busy := by
  obtain ⟨a, b, c⟩ := mrkB_facts h1
  simp only [busyB, itemB, Bool.and_eq_true, List.all_eq_true, inB_iff, decide_eq_true_eq] at h2
  exact ⟨a, b, okM_cap.1 c, by omega, fun x hx => by have := h2.2 x hx; omega⟩
theorem spec_l3Coming {n : GNet} {marks : List Int} {busy : List GItem} {t : Int} (hn : n.small) (M : MB n marks busy) (t0 : 0 ≤ t) (t1 : t < n.tasks.length) : m_spec_l3Coming n marks busy t = some (comB n marks busy t) := by
  have hsz := netB_size M.net
  have hml := M.len
  have hg := getI_at n.tasks t0 t1
  have hm := atI_mem n.tasks t0 t1
  have T := netB_task M.net hm
  have hsm := hn.2 _ hm
  generalize hins : (atI n.tasks t).in_ = ins at *
  unfold m_spec_l3Coming
  rw [gd_pos (by omega)]
  -- marks elsewhere
  obtain ⟨s1, ⟨hl1, hv1⟩, e1⟩ := scanE marks (by unfold SMALL; omega) (m_spec_l3Coming_l0 n marks t (m_spec_l3Coming_k1 n marks busy t)) (m_spec_l3Coming_k1 n marks busy t)
    (fun pre s => (s.length : Int) = n.places ∧ ∀ q : Int, 0 ≤ q → q < n.places → atB s q = (decide (q < pre.length) && (decide (0 < atI marks q) && !ins.any (fun x => decide (x = q)))))
    (fun f s => by rw [m_spec_l3Coming_l0, if_neg (by simp; omega)])
    (fun f pre x suf s a b c d g hi => by
      have hx : 0 ≤ (pre.length : Int) ∧ (pre.length : Int) < n.places := by omega
      have hgs := getI_atB s hx.1 (by omega)
      have hat : atI marks pre.length = x := by unfold atI; rw [b]; rfl
      have inv : ∀ v : Bool, v = (decide (0 < x) && !ins.any (fun y => decide (y = (pre.length : Int)))) → ((s.set (pre.length : Int).toNat v).length : Int) = n.places ∧ ∀ q : Int, 0 ≤ q → q < n.places → atB (s.set (pre.length : Int).toNat v) q = (decide (q < (pre ++ [x]).length) && (decide (0 < atI marks q) && !ins.any (fun x => decide (x = q)))) := fun v hv => by
        refine ⟨by rw [List.length_set]; exact hi.1, fun q q0 q1 => ?_⟩
        have e : atB (s.set (pre.length : Int).toNat v) q = if (pre.length : Int) = q then v else atB s q := by
          unfold atB; rw [getI_set s v hx.1 q0 (by omega)]
          split <;> rfl
        rw [e]
        by_cases h : (pre.length : Int) = q
        · rw [if_pos h, ← h, hat, hv]
          have : decide ((pre.length : Int) < (((pre ++ [x]).length : Nat) : Int)) = true := by simp; omega
          rw [this, Bool.true_and]
        · rw [if_neg h, hi.2 q q0 q1]
          have : decide (q < (pre.length : Int)) = decide (q < (((pre ++ [x]).length : Nat) : Int)) := decide_eq_decide.2 (by simp; omega)
          rw [this]
      rw [m_spec_l3Coming_l0, if_pos (decide_eq_true (by omega)), b, Option.bind_some]
      by_cases h : 0 < x
      · rw [if_pos (decide_eq_true h), hg, Option.bind_some, hins, spec_l2Has _ _ (hins ▸ hsm.1), Option.bind_some, hgs, Option.bind_some, gd_pos g]
        exact ⟨_, inv _ (by simp [h]), rfl⟩
      · rw [if_neg (by simpa using h), hgs, Option.bind_some, gd_pos g]
        exact ⟨_, inv _ (by simp [h]), rfl⟩)
    (List.replicate n.places.toNat false) ⟨by simp; omega, fun q q0 q1 => by rw [atB_rep]; simp; omega⟩
  have e1' : m_spec_l3Coming_l0 n marks t (m_spec_l3Coming_k1 n marks busy t) FUEL 0 (List.replicate n.places.toNat false) = m_spec_l3Coming_k1 n marks busy t s1 := e1
  rw [e1']
  unfold m_spec_l3Coming_k1
  -- tasks under way
  obtain ⟨s2, ⟨hl2, hv2⟩, e2⟩ := scanE busy (by have := M.busyl; unfold SMALL; omega) (m_spec_l3Coming_l1 n busy (m_spec_l3Coming_k3 n marks t)) (m_spec_l3Coming_k3 n marks t)
    (fun pre s => (s.length : Int) = n.places ∧ ∀ q : Int, 0 ≤ q → q < n.places → atB s q = ((decide (0 < atI marks q) && !ins.any (fun x => decide (x = q))) || pre.any (fun b => (atI n.tasks b.task).out.any (fun f => decide (f.to = q)))))
    (fun f s => by rw [m_spec_l3Coming_l1, if_neg (by simp)])
    (fun f pre x suf s a b c d g hi => by
      have hb := M.busy x c
      have hxm := atI_mem n.tasks hb.1 hb.2
      have hto := netB_to M.net hxm
      rw [m_spec_l3Coming_l1, if_pos (decide_eq_true d), b, Option.bind_some, getI_at n.tasks hb.1 hb.2, Option.bind_some]
      obtain ⟨s3, ⟨hl3, hv3⟩, e3⟩ := scanE (atI n.tasks x.task).out (hn.2 _ hxm).2.1 (m_spec_l3Coming_l2 (atI n.tasks x.task).out (m_spec_l3Coming_k2 pre.length (m_spec_l3Coming_l1 n busy (m_spec_l3Coming_k3 n marks t) f))) (m_spec_l3Coming_k2 pre.length (m_spec_l3Coming_l1 n busy (m_spec_l3Coming_k3 n marks t) f))
        (fun pr z => (z.length : Int) = n.places ∧ ∀ q : Int, 0 ≤ q → q < n.places → atB z q = (pr.any (fun f => decide (f.to = q)) || atB s q))
        (fun f s => by rw [m_spec_l3Coming_l2, if_neg (by simp)])
        (fun f pr y sf z a2 b2 c2 d2 g2 hi2 => by
          have hy := hto y c2
          rw [m_spec_l3Coming_l2, if_pos (decide_eq_true d2), b2, Option.bind_some, getI_atB z (by omega) (by omega), Option.bind_some, gd_pos g2]
          refine ⟨setT z y.to, ⟨by rw [setT_len]; exact hi2.1, fun q q0 q1 => ?_⟩, rfl⟩
          rw [atB_set z (by omega) q0 (by omega), hi2.2 q q0 q1, List.any_append, List.any_cons, List.any_nil, Bool.or_false]
          generalize decide (y.to = q) = u; generalize (pr.any fun f => decide (f.to = q)) = v; generalize atB s q = w
          cases u <;> cases v <;> cases w <;> rfl) s ⟨hi.1, fun q _ _ => by simp⟩
      refine ⟨s3, ⟨hl3, fun q q0 q1 => ?_⟩, ?_⟩
      · rw [hv3 q q0 q1, hi.2 q q0 q1, List.any_append, List.any_cons, List.any_nil, Bool.or_false]
        cases (List.any (atI n.tasks x.task).out fun f => decide (f.to = q)) <;> simp
      · have : m_spec_l3Coming_l2 (atI n.tasks x.task).out (m_spec_l3Coming_k2 pre.length (m_spec_l3Coming_l1 n busy (m_spec_l3Coming_k3 n marks t) f)) FUEL 0 s = m_spec_l3Coming_k2 pre.length (m_spec_l3Coming_l1 n busy (m_spec_l3Coming_k3 n marks t) f) s3 := e3
        rw [this]; unfold m_spec_l3Coming_k2; rw [gd_pos g])
    s1 ⟨hl1, fun q q0 q1 => by rw [hv1 q q0 q1, decide_eq_true (by omega)]; simp⟩
  rw [e2]
  unfold m_spec_l3Coming_k3
  rw [spec_l2Spread t hn M.net hl2, Option.bind_some]
  generalize hr : iter t n.tasks s2.length s2 = r
  have hrl : (r.length : Int) = n.places := by rw [← hr, iter_len]; exact hl2
  have hri : ∀ q : Int, 0 ≤ q → q < n.places → (atB r q = true ↔ ∃ p : Int, (0 ≤ p ∧ p < n.places) ∧ srcB n marks busy ins p = true ∧ Star t n.tasks p q) := fun q q0 q1 => by
    rw [← hr, spread_all M.net hl2 q0 q1]
    constructor
    · rintro ⟨p, a, b, c⟩; rw [hv2 p a.1 a.2] at b; exact ⟨p, a, b, c⟩
    · rintro ⟨p, a, b, c⟩; exact ⟨p, a, by rw [hv2 p a.1 a.2]; exact b, c⟩
  have hin : ∀ p ∈ ins, 0 ≤ p ∧ p < n.places := fun p hp => by have := T.ins p (hins ▸ hp); omega
  have fin : m_spec_l3Coming_l3 n marks t r m_spec_l3Coming_k4 FUEL 0 = some (ins.any (fun q => decide (atI marks q = 0) && atB r q)) :=
    scan0 ins (by have := hins ▸ hsm.1; unfold SMALL at this; omega) (m_spec_l3Coming_l3 n marks t r m_spec_l3Coming_k4) (fun _ suf => some (suf.any (fun q => decide (atI marks q = 0) && atB r q)))
      (fun f => by rw [m_spec_l3Coming_l3, hg, Option.bind_some, hins, if_neg (by simp)]; rfl)
      (fun f pre x suf a b c d ih => by
        have hx := hin x (by rw [a]; simp)
        rw [m_spec_l3Coming_l3, hg, Option.bind_some, hins, if_pos (decide_eq_true c), Option.bind_some, hins, b, Option.bind_some, getI_at marks hx.1 (by have := M.len; omega), Option.bind_some, List.any_cons]
        by_cases h : atI marks x = 0
        · rw [if_pos (decide_eq_true h), Option.bind_some, hins, b, Option.bind_some, getI_atB r hx.1 (by omega), Option.bind_some, gd_pos d, ih]
          cases atB r x <;> simp [h]
        · rw [if_neg (by simpa using h), gd_pos d, ih]; simp [h])
  rw [fin]
  congr 1
  refine comB_eq ?_
  unfold Coming
  rw [hins, List.any_eq_true]
  constructor
  · rintro ⟨q, hq, h⟩
    rw [Bool.and_eq_true, decide_eq_true_eq] at h
    exact ⟨q, hq, h.1, (hri q (hin q hq).1 (hin q hq).2).1 h.2⟩
  · rintro ⟨q, hq, h, h2⟩
    exact ⟨q, hq, by rw [Bool.and_eq_true, decide_eq_true_eq]; exact ⟨h, (hri q (hin q hq).1 (hin q hq).2).2 h2⟩⟩

theorem impl_arrives {n : GNet} {marks : List Int} {busy : List GItem} {t : Int} (hn : n.small) (M : MB n marks busy) (t0 : 0 ≤ t) (t1 : t < n.tasks.length) : m_impl_NetNet_arrives n marks busy t = some (comB n marks busy t) := by
  have hsz := netB_size M.net
  have hml := M.len
  have hg := getI_at n.tasks t0 t1
  have hm := atI_mem n.tasks t0 t1
  have T := netB_task M.net hm
  have hsm := hn.2 _ hm
  unfold m_impl_NetNet_arrives
  rw [hg, Option.bind_some]
  generalize hins : (atI n.tasks t).in_ = ins at *
  have hsl0 : ins.length ≤ SMALL := hins ▸ hsm.1
  -- marks elsewhere
  obtain ⟨s1, ⟨hl1, hv1⟩, e1⟩ := scanE marks (by unfold SMALL; omega) (m_impl_NetNet_arrives_l0 marks ins (marks.length : Int) (m_impl_NetNet_arrives_k1 n busy t ins marks)) (m_impl_NetNet_arrives_k1 n busy t ins marks)
    (fun pre s => s.length ≤ pre.length ∧ ∀ q : Int, q ∈ s ↔ (0 ≤ q ∧ q < pre.length) ∧ (decide (0 < atI marks q) && !ins.any (fun x => decide (x = q))) = true)
    (fun f s => by rw [m_impl_NetNet_arrives_l0, if_neg (by simp)])
    (fun f pre x suf s a b c d g hi => by
      have hat : atI marks pre.length = x := by unfold atI; rw [b]; rfl
      have hsl : s.length + [(pre.length : Int)].length ≤ SMALL := by rw [List.length_singleton]; unfold SMALL; omega
      have sym : ins.any (fun y => decide ((pre.length : Int) = y)) = ins.any (fun y => decide (y = (pre.length : Int))) := by congr 1; funext y; exact decide_eq_decide.2 ⟨Eq.symm, Eq.symm⟩
      have no : (decide (0 < x) && !ins.any (fun y => decide (y = (pre.length : Int)))) = false → s.length ≤ (pre ++ [x]).length ∧ ∀ q : Int, q ∈ s ↔ (0 ≤ q ∧ q < (pre ++ [x]).length) ∧ (decide (0 < atI marks q) && !ins.any (fun x => decide (x = q))) = true := fun h => by
        refine ⟨by simp; omega, fun q => ?_⟩
        rw [hi.2 q]
        constructor
        · rintro ⟨⟨u, v⟩, w⟩; exact ⟨⟨u, by simp; omega⟩, w⟩
        · rintro ⟨⟨u, v⟩, w⟩
          refine ⟨⟨u, ?_⟩, w⟩
          simp at v
          by_cases e : q = pre.length
          · rw [e, hat, h] at w; cases w
          · omega
      rw [m_impl_NetNet_arrives_l0, if_pos (decide_eq_true d), b, Option.bind_some]
      by_cases h : 0 < x
      · rw [if_pos (decide_eq_true h), Contains_I _ hsl0, Option.bind_some, sym]
        by_cases h2 : ins.any (fun y => decide (y = (pre.length : Int))) = true
        · rw [if_pos h2, gd_pos g]
          exact ⟨s, no (by rw [h2]; simp), rfl⟩
        · rw [if_neg h2, gd_pos hsl, gd_pos g]
          refine ⟨_, ⟨by simp; exact hi.1, fun q => ?_⟩, rfl⟩
          rw [List.mem_append, List.mem_singleton, hi.2 q]
          constructor
          · rintro (⟨⟨u, v⟩, w⟩ | rfl)
            · exact ⟨⟨u, by simp; omega⟩, w⟩
            · exact ⟨⟨by omega, by simp; omega⟩, by rw [hat, Bool.eq_false_iff.2 h2]; simp [h]⟩
          · rintro ⟨⟨u, v⟩, w⟩
            simp at v
            by_cases e : q = pre.length
            · exact .inr e
            · exact .inl ⟨⟨u, by omega⟩, w⟩
      · rw [if_neg (by simpa using h), gd_pos g]
        exact ⟨s, no (by simp [h]), rfl⟩)
    [] ⟨by simp, fun q => by simp; omega⟩
  rw [e1]
  unfold m_impl_NetNet_arrives_k1
  -- tasks under way
  obtain ⟨s2, ⟨hl2, hv2⟩, e2⟩ := scanE busy (by have := M.busyl; unfold SMALL; omega) (m_impl_NetNet_arrives_l1 n busy (m_impl_NetNet_arrives_k3 n t ins marks) · (busy.length : Int) · ·) (m_impl_NetNet_arrives_k3 n t ins marks)
    (fun pre s => s.length ≤ s1.length + 3 * pre.length ∧ ∀ q : Int, q ∈ s ↔ q ∈ s1 ∨ ∃ b ∈ pre, ∃ f ∈ (atI n.tasks b.task).out, f.to = q)
    (fun f s => by rw [m_impl_NetNet_arrives_l1, if_neg (by simp)])
    (fun f pre x suf s a b c d g hi => by
      have hb := M.busy x c
      have hxm := atI_mem n.tasks hb.1 hb.2
      have X := netB_task M.net hxm
      have hxl := X.outl
      have hpl : pre.length ≤ 6 := by have := M.busyl; omega
      rw [m_impl_NetNet_arrives_l1, if_pos (decide_eq_true d), b, Option.bind_some, getI_at n.tasks hb.1 hb.2, Option.bind_some]
      obtain ⟨s3, ⟨hl3, hv3⟩, e3⟩ := scanE (atI n.tasks x.task).out (hn.2 _ hxm).2.1 (m_impl_NetNet_arrives_l2 (atI n.tasks x.task).out ((atI n.tasks x.task).out.length : Int) (m_impl_NetNet_arrives_k2 (busy.length : Int) pre.length (m_impl_NetNet_arrives_l1 n busy (m_impl_NetNet_arrives_k3 n t ins marks) f))) (m_impl_NetNet_arrives_k2 (busy.length : Int) pre.length (m_impl_NetNet_arrives_l1 n busy (m_impl_NetNet_arrives_k3 n t ins marks) f))
        (fun pr z => z.length ≤ s.length + pr.length ∧ ∀ q : Int, q ∈ z ↔ q ∈ s ∨ ∃ f ∈ pr, f.to = q)
        (fun f s => by rw [m_impl_NetNet_arrives_l2, if_neg (by simp)])
        (fun f pr y sf z a2 b2 c2 d2 g2 hi2 => by
          rw [m_impl_NetNet_arrives_l2, if_pos (decide_eq_true d2), b2, Option.bind_some, gd_pos (by have := hi.1; have := hi2.1; rw [List.length_singleton]; unfold SMALL; omega), gd_pos g2]
          refine ⟨_, ⟨by simp; have := hi2.1; omega, fun q => ?_⟩, rfl⟩
          rw [List.mem_append, List.mem_singleton, hi2.2 q]
          constructor
          · rintro ((h | ⟨f, hf, e⟩) | rfl)
            · exact .inl h
            · exact .inr ⟨f, by simp [hf], e⟩
            · exact .inr ⟨y, by simp, rfl⟩
          · rintro (h | ⟨f, hf, e⟩)
            · exact .inl (.inl h)
            · rw [List.mem_append, List.mem_singleton] at hf
              rcases hf with hf | rfl
              · exact .inl (.inr ⟨f, hf, e⟩)
              · exact .inr e.symm) s ⟨by simp, fun q => by simp⟩
      refine ⟨s3, ⟨by have := hi.1; rw [List.length_append, List.length_singleton]; omega, fun q => ?_⟩, ?_⟩
      · rw [hv3 q, hi.2 q]
        constructor
        · rintro ((h | ⟨b, hb, h⟩) | h)
          · exact .inl h
          · exact .inr ⟨b, by simp [hb], h⟩
          · exact .inr ⟨x, by simp, h⟩
        · rintro (h | ⟨b, hb, h⟩)
          · exact .inl (.inl h)
          · rw [List.mem_append, List.mem_singleton] at hb
            rcases hb with hb | rfl
            · exact .inl (.inr ⟨b, hb, h⟩)
            · exact .inr h
      · rw [e3]; unfold m_impl_NetNet_arrives_k2; rw [gd_pos g])
    s1 ⟨by simp, fun q => by simp⟩
  rw [e2]
  unfold m_impl_NetNet_arrives_k3
  have hmem : ∀ q : Int, q ∈ s2 ↔ (0 ≤ q ∧ q < n.places) ∧ srcB n marks busy ins q = true := fun q => by
    rw [hv2 q, hv1 q]
    unfold srcB
    rw [Bool.or_eq_true, List.any_eq_true, M.len]
    constructor
    · rintro (h | ⟨b, hb, f, hf, e⟩)
      · exact ⟨h.1, .inl h.2⟩
      · have hb2 := M.busy b hb
        have hto := netB_to M.net (atI_mem n.tasks hb2.1 hb2.2) f hf
        exact ⟨by omega, .inr ⟨b, hb, by rw [List.any_eq_true]; exact ⟨f, hf, by simpa using e⟩⟩⟩
    · rintro ⟨h, h2 | ⟨b, hb, h2⟩⟩
      · exact .inl ⟨h, h2⟩
      · rw [List.any_eq_true] at h2
        obtain ⟨f, hf, e⟩ := h2
        exact .inr ⟨b, hb, f, hf, by simpa using e⟩
  have hin : ∀ p ∈ ins, 0 ≤ p ∧ p < n.places := fun p hp => by have := T.ins p (hins ▸ hp); omega
  have hs2 : s2.length ≤ SMALL := by have := M.busyl; unfold SMALL; omega
  have fin : m_impl_NetNet_arrives_l3 n t ins marks s2 (s2.length : Int) m_impl_NetNet_arrives_k4 FUEL 0 = some (s2.any (fun p => ins.any (fun q => decide (atI marks q = 0) && atB (iter t n.tasks n.places.toNat (oneT n.places.toNat p)) q))) :=
    scan0 s2 (by unfold SMALL at hs2; omega) (m_impl_NetNet_arrives_l3 n t ins marks s2 (s2.length : Int) m_impl_NetNet_arrives_k4) (fun _ suf => some (suf.any (fun p => ins.any (fun q => decide (atI marks q = 0) && atB (iter t n.tasks n.places.toNat (oneT n.places.toNat p)) q))))
      (fun f => by rw [m_impl_NetNet_arrives_l3, if_neg (by simp)]; rfl)
      (fun f pre x suf a b c d ih => by
        have hx := (hmem x).1 (by rw [a]; simp)
        rw [m_impl_NetNet_arrives_l3, if_pos (decide_eq_true c), b, Option.bind_some, impl_reach x t hn M.net hx.1.1 hx.1.2, Option.bind_some, ContainsFunc_I ins hsl0 _ (fun q => decide (atI marks q = 0) && atB (iter t n.tasks n.places.toNat (oneT n.places.toNat x)) q) (fun q hq => by
          have hq2 := hin q hq
          unfold m_impl_NetNet_arrives_1
          rw [getI_at marks hq2.1 (by omega), Option.bind_some, getI_atB _ hq2.1 (by rw [iter_len]; unfold oneT; rw [setT_len]; simp; omega)]
          by_cases h : atI marks q = 0
          · rw [if_pos (decide_eq_true h)]; simp [h]
          · rw [if_neg (by simpa using h)]; simp [h]), Option.bind_some, gd_pos d, ih, List.any_cons]
        cases (ins.any fun q => decide (atI marks q = 0) && atB (iter t n.tasks n.places.toNat (oneT n.places.toNat x)) q) <;> simp)
  rw [fin]
  congr 1
  refine comB_eq ?_
  unfold Coming
  rw [hins, List.any_eq_true]
  constructor
  · rintro ⟨p, hp, h⟩
    rw [List.any_eq_true] at h
    obtain ⟨q, hq, h⟩ := h
    rw [Bool.and_eq_true, decide_eq_true_eq] at h
    have hp2 := (hmem p).1 hp
    exact ⟨q, hq, h.1, p, hp2.1, hp2.2, (reach_iff M.net hp2.1.1 hp2.1.2 (hin q hq).1 (hin q hq).2).1 h.2⟩
  · rintro ⟨q, hq, h, p, hp, h2, h3⟩
    refine ⟨p, (hmem p).2 ⟨hp, h2⟩, ?_⟩
    rw [List.any_eq_true]
    exact ⟨q, hq, by rw [Bool.and_eq_true, decide_eq_true_eq]; exact ⟨h, (reach_iff M.net hp.1 hp.2 (hin q hq).1 (hin q hq).2).2 h3⟩⟩

/-! ### What can begin -/
def someB (marks : List Int) (l : List Int) : Bool := l.any (fun p => decide (0 < atI marks p))
def allB (marks : List Int) (l : List Int) : Bool := l.all (fun p => decide (0 < atI marks p))
theorem spec_l3Some (marks l : List Int) (hs : l.length ≤ SMALL) (hp : ∀ p ∈ l, 0 ≤ p ∧ p < marks.length) : m_spec_l3Some marks l = some (someB marks l, allB marks l) := by
  unfold m_spec_l3Some
  exact scan l (by unfold SMALL at hs; omega) (fun f i (s : Bool × Bool) => m_spec_l3Some_l0 marks l m_spec_l3Some_k1 f s.1 s.2 i) (fun _ suf s => some (s.1 || someB marks suf, s.2 && allB marks suf)) (fun _ _ => True)
    (fun f s _ => by rw [m_spec_l3Some_l0, if_neg (by simp)]; simp [someB, allB, m_spec_l3Some_k1])
    (fun f pre x suf s a b c d _ k => by
      obtain ⟨s1, s2⟩ := s
      have hx := hp x (by rw [a]; simp)
      have hg := getI_at marks hx.1 hx.2
      have ih := fun u v => k (u, v) trivial
      show m_spec_l3Some_l0 marks l m_spec_l3Some_k1 (f + 1) s1 s2 (pre.length : Int) = some (s1 || someB marks (x :: suf), s2 && allB marks (x :: suf))
      rw [m_spec_l3Some_l0, if_pos (decide_eq_true c)]
      simp only [b, hg, Option.bind_some, gd_pos d]
      dsimp only at ih
      simp only [ih, someB, allB, List.any_cons, List.all_cons]
      cases s1 <;> cases s2 <;> simp) FUEL (false, true) trivial (by have := FUEL_ge; unfold SMALL at hs; omega)
noncomputable def canB (n : GNet) (marks : List Int) (busy : List GItem) (t : Int) : Bool :=
  bif decide ((atI n.tasks t).join = 1) then allB marks (atI n.tasks t).in_ else bif decide ((atI n.tasks t).join = 2) then someB marks (atI n.tasks t).in_ else someB marks (atI n.tasks t).in_ && (allB marks (atI n.tasks t).in_ || !comB n marks busy t)
theorem spec_l3Can {n : GNet} {marks : List Int} {busy : List GItem} {t : Int} (hn : n.small) (M : MB n marks busy) (t0 : 0 ≤ t) (t1 : t < n.tasks.length) : m_spec_l3Can n marks busy t = some (canB n marks busy t) := by
  have hml := M.len
  have hg := getI_at n.tasks t0 t1
  have hm := atI_mem n.tasks t0 t1
  have T := netB_task M.net hm
  unfold m_spec_l3Can canB
  rw [hg, Option.bind_some, spec_l3Some _ _ (hn.2 _ hm).1 (fun p hp => by have := T.ins p hp; omega), Option.bind_some, Option.bind_some, spec_l3Coming hn M t0 t1]
  by_cases h1 : (atI n.tasks t).join = 1
  · simp [h1]
  · by_cases h2 : (atI n.tasks t).join = 2
    · simp [h2]
    · simp only [h1, h2, decide_false, cond_false, Option.bind_some]
      cases someB marks (atI n.tasks t).in_ <;> cases allB marks (atI n.tasks t).in_ <;> simp
theorem impl_can {n : GNet} {marks : List Int} {busy : List GItem} {t : Int} (hn : n.small) (M : MB n marks busy) (t0 : 0 ≤ t) (t1 : t < n.tasks.length) : m_impl_NetNet_can n marks busy t = some (canB n marks busy t) := by
  have hml := M.len
  have hg := getI_at n.tasks t0 t1
  have hm := atI_mem n.tasks t0 t1
  have T := netB_task M.net hm
  have hs := (hn.2 _ hm).1
  unfold m_impl_NetNet_can
  rw [hg, Option.bind_some]
  have := scan (atI n.tasks t).in_ (by unfold SMALL at hs; omega) (fun f i (s : Bool × Bool) => m_impl_NetNet_can_l0 marks (atI n.tasks t).in_ ((atI n.tasks t).in_.length : Int) (m_impl_NetNet_can_k1 n marks busy t) f s.1 i s.2)
    (fun _ suf s => m_impl_NetNet_can_k1 n marks busy t (s.1 && allB marks suf) (s.2 || someB marks suf)) (fun _ _ => True)
    (fun f s _ => by rw [m_impl_NetNet_can_l0, if_neg (by simp)]; simp [someB, allB])
    (fun f pre x suf s a b c d _ k => by
      obtain ⟨s1, s2⟩ := s
      have hx := T.ins x (by rw [a]; simp)
      have hg := getI_at marks hx.1 (by omega)
      have ih := fun u v => k (u, v) trivial
      show m_impl_NetNet_can_l0 marks (atI n.tasks t).in_ ((atI n.tasks t).in_.length : Int) (m_impl_NetNet_can_k1 n marks busy t) (f + 1) s1 (pre.length : Int) s2 = m_impl_NetNet_can_k1 n marks busy t (s1 && allB marks (x :: suf)) (s2 || someB marks (x :: suf))
      rw [m_impl_NetNet_can_l0, if_pos (decide_eq_true c)]
      simp only [b, hg, Option.bind_some, gd_pos d]
      dsimp only at ih
      simp only [ih, someB, allB, List.any_cons, List.all_cons]
      cases s1 <;> cases s2 <;> simp) FUEL (true, false) trivial (by have := FUEL_ge; unfold SMALL at hs; omega)
  refine this.trans ?_
  unfold m_impl_NetNet_can_k1 canB
  rw [hg, Option.bind_some, impl_arrives hn M t0 t1]
  by_cases h1 : (atI n.tasks t).join = 1
  · simp [h1]
  · by_cases h2 : (atI n.tasks t).join = 2
    · simp [h2]
    · simp only [h1, h2, decide_false, cond_false, Option.bind_some]
      cases someB marks (atI n.tasks t).in_ <;> cases allB marks (atI n.tasks t).in_ <;> simp
noncomputable def enaB (n : GNet) (marks : List Int) (busy : List GItem) (t : Int) : Bool := mrkB n marks && (busyB n busy && (inB t 0 ((n.tasks.length : Int) - 1) && canB n marks busy t))
theorem spec_EnaCan (n : GNet) (marks : List Int) (busy : List GItem) (t : Int) (hn : n.small) (hm : marks.length ≤ SMALL) (hb : busy.length ≤ SMALL) : m_spec_EnaCan n marks busy t = some (enaB n marks busy t) := by
  unfold m_spec_EnaCan enaB
  rw [spec_MrkOk n marks hn hm, Option.bind_some]
  by_cases h1 : mrkB n marks = true
  case neg => rw [if_neg h1, Bool.eq_false_iff.2 h1]; rfl
  rw [if_pos h1, h1, spec_l3Busy n busy hn hb (mrkB_net h1), Option.bind_some]
  by_cases h2 : busyB n busy = true
  case neg => rw [if_neg h2, Bool.eq_false_iff.2 h2]; rfl
  rw [if_pos h2, h2, gd_pos (ok_len1 hn.1), spec_in, Option.bind_some]
  by_cases h3 : inB t 0 ((n.tasks.length : Int) - 1) = true
  case neg => rw [if_neg h3, Bool.eq_false_iff.2 h3]; rfl
  have h3' := inB_iff.1 h3
  rw [if_pos h3, h3, spec_l3Can hn (mb_of h1 h2) h3'.1 (by omega), Option.bind_some]; rfl
theorem impl_EnaCan (n : GNet) (marks : List Int) (busy : List GItem) (t : Int) (hn : n.small) (hm : marks.length ≤ SMALL) (hb : busy.length ≤ SMALL) : m_impl_EnaCan n marks busy t = some (enaB n marks busy t) := by
  unfold m_impl_EnaCan enaB
  rw [impl_MrkOk n marks hn hm, Option.bind_some]
  by_cases h1 : mrkB n marks = true
  case neg => rw [if_neg h1, Bool.eq_false_iff.2 h1]; rfl
  rw [if_pos h1, h1, impl_busyOk n busy hn hb (mrkB_net h1), Option.bind_some]
  by_cases h2 : busyB n busy = true
  case neg => rw [if_neg h2, Bool.eq_false_iff.2 h2]; rfl
  rw [if_pos h2, h2, impl_hasTask n t hn, Option.bind_some]
  by_cases h3 : inB t 0 ((n.tasks.length : Int) - 1) = true
  case neg => rw [if_neg h3, Bool.eq_false_iff.2 h3]; rfl
  have h3' := inB_iff.1 h3
  rw [if_pos h3, h3, impl_can hn (mb_of h1 h2) h3'.1 (by omega), Option.bind_some]; rfl

/-! ### What is taken -/
def dec (l : List Int) (p : Int) : List Int := l.set p.toNat (atI l p - 1)
def takeL (join : Int) : List Int → List Int → List Int
  | [], l => l
  | p :: ps, l => if 0 < atI l p then (if join = 2 then dec l p else takeL join ps (dec l p)) else takeL join ps l
theorem dec_len (l : List Int) (p : Int) : (dec l p).length = l.length := by simp [dec]
theorem takeL_len (join : Int) : ∀ (ps l : List Int), (takeL join ps l).length = l.length
  | [], l => rfl
  | p :: ps, l => by
    unfold takeL
    split
    · split
      · exact dec_len l p
      · rw [takeL_len join ps, dec_len]
    · exact takeL_len join ps l
theorem capM_dec {l : List Int} {p : Int} (h : capM 4 l) (hp : 0 < atI l p) (h0 : 0 ≤ p) (h1 : p < l.length) : capM 4 (dec l p) := fun x hx => by
  have hv := capM_at h h0 h1
  rcases List.mem_or_eq_of_mem_set hx with hx | rfl
  · exact h x hx
  · omega
theorem take_scan {β : Type} (join : Int) (ps : List Int) (hs : ps.length ≤ SMALL) (f : Nat → Int → List Int → Option β) (kx : List Int → Option β) (l0 : List Int) (hp : ∀ p ∈ ps, 0 ≤ p ∧ p < l0.length) (hc : capM 4 l0)
    (h0 : ∀ n s, f (n + 1) (ps.length : Int) s = kx s)
    (h1 : ∀ n i p s, getI ps i = some p → i < (ps.length : Int) → ok64 (i + 1) → getI s p = some (atI s p) → ok64 (atI s p - 1) → f (n + 1) i s = if decide (0 < atI s p) = true then (if decide (join = 2) = true then kx (dec s p) else f n (i + 1) (dec s p)) else f n (i + 1) s) :
    f FUEL 0 l0 = kx (takeL join ps l0) :=
  scan ps (by unfold SMALL at hs; omega) f (fun _ suf l => kx (takeL join suf l)) (fun _ l => l.length = l0.length ∧ capM 4 l) (fun n s hi => by rw [h0]; rfl)
    (fun n pre x suf s a b c d hi k => by
      have hx := hp x (by rw [a]; simp)
      have hx2 : x < s.length := by rw [hi.1]; exact hx.2
      have hv := capM_at hi.2 hx.1 hx2
      rw [h1 n _ x s b c d (getI_at s hx.1 hx2) (by constructor <;> omega), takeL]
      by_cases h : 0 < atI s x
      · rw [if_pos (decide_eq_true h), if_pos h]
        by_cases h2 : join = 2
        · rw [if_pos (decide_eq_true h2), if_pos h2]
        · rw [if_neg (by simpa using h2), if_neg h2]
          exact k _ ⟨by rw [dec_len, hi.1], capM_dec hi.2 h hx.1 hx2⟩
      · rw [if_neg (by simpa using h), if_neg h]
        exact k _ hi) FUEL l0 ⟨rfl, hc⟩ (by have := FUEL_ge; unfold SMALL at hs; omega)
theorem spec_EnaTake (n : GNet) (marks : List Int) (t : Int) (hn : n.small) (hm : marks.length ≤ SMALL) : m_spec_EnaTake n marks t = some (bif mrkB n marks && inB t 0 ((n.tasks.length : Int) - 1) then takeL (atI n.tasks t).join (atI n.tasks t).in_ marks else []) := by
  unfold m_spec_EnaTake
  rw [spec_MrkOk n marks hn hm, Option.bind_some]
  by_cases h1 : mrkB n marks = true
  case neg => rw [if_neg h1, Bool.eq_false_iff.2 h1]; rfl
  rw [if_pos h1, h1, gd_pos (ok_len1 hn.1), spec_in, Option.bind_some]
  by_cases h3 : inB t 0 ((n.tasks.length : Int) - 1) = true
  case neg => rw [if_neg h3, Bool.eq_false_iff.2 h3]; rfl
  have h3' := inB_iff.1 h3
  obtain ⟨f1, f2, f3⟩ := mrkB_facts h1
  have hg := getI_at n.tasks h3'.1 (by omega)
  have ht := atI_mem n.tasks h3'.1 (by omega)
  have T := netB_task f1 ht
  rw [if_pos h3, h3, gd_pos (by simpa using hm), List.nil_append]
  rw [take_scan (atI n.tasks t).join (atI n.tasks t).in_ (hn.2 _ ht).1 (m_spec_EnaTake_l0 n t m_spec_EnaTake_k1 m_spec_EnaTake_k2) (fun l => some l) marks (fun p hp => by have := T.ins p hp; omega) (okM_cap.1 f3)
    (fun f s => by rw [m_spec_EnaTake_l0, hg, Option.bind_some, if_neg (by simp)]; rfl)
    (fun f i p s a b c d e => by
      rw [m_spec_EnaTake_l0, hg, Option.bind_some, if_pos (decide_eq_true b), Option.bind_some, a, Option.bind_some, d, Option.bind_some, Option.bind_some, gd_pos e, Option.bind_some, Option.bind_some]; simp only [gd_pos c]; rfl)]
  rfl
theorem impl_take {n : GNet} {marks : List Int} {t : Int} (hn : n.small) (hm : marks.length ≤ SMALL) (h1 : mrkB n marks = true) (t0 : 0 ≤ t) (t1 : t < n.tasks.length) : m_impl_NetNet_take n marks t = some (takeL (atI n.tasks t).join (atI n.tasks t).in_ marks) := by
  unfold m_impl_NetNet_take
  obtain ⟨f1, f2, f3⟩ := mrkB_facts h1
  have hg := getI_at n.tasks t0 t1
  have ht := atI_mem n.tasks t0 t1
  have T := netB_task f1 ht
  rw [impl_cloneInts _ hm, Option.bind_some, hg, Option.bind_some]
  exact take_scan (atI n.tasks t).join (atI n.tasks t).in_ (hn.2 _ ht).1 (m_impl_NetNet_take_l0 n t (atI n.tasks t).in_ ((atI n.tasks t).in_.length : Int) m_impl_NetNet_take_k1 m_impl_NetNet_take_k2) (fun l => some l) marks (fun p hp => by have := T.ins p hp; omega) (okM_cap.1 f3)
    (fun f s => by rw [m_impl_NetNet_take_l0, if_neg (by simp)]; rfl)
    (fun f i p s a b c d e => by
      rw [m_impl_NetNet_take_l0, if_pos (decide_eq_true b), a, Option.bind_some, d, Option.bind_some, Option.bind_some, gd_pos e, Option.bind_some, hg, Option.bind_some]; simp only [gd_pos c]; rfl)
end Go.Am.Pl

end
section
/- Plain laws, chapters 5 and 6: who may, what is begun. Own work. -/
set_option maxRecDepth 100000
set_option linter.unusedVariables false
set_option linter.unusedSimpArgs false
namespace Go.Am.Pl
open Go

/-! ### Who has a role -/
def bitB (x role : Int) : Bool := decide ((x / 2 ^ (role - 1).toNat) % 2 = 1)
def hasB (people : List Int) (who role : Int) : Bool := pplB people && (inB who 1 people.length && (inB role 1 3 && bitB (atI people (who - 1)) role))
theorem eight {x : Int} (h : 0 ≤ x ∧ x ≤ 7) : x = 0 ∨ x = 1 ∨ x = 2 ∨ x = 3 ∨ x = 4 ∨ x = 5 ∨ x = 6 ∨ x = 7 := by omega
theorem spec_bit {x role : Int} (hx : 0 ≤ x ∧ x ≤ 7) (hr : 1 ≤ role ∧ role ≤ 3) : m_spec_PplHas_l0 role m_spec_PplHas_k1 FUEL x 1 = some (bitB x role) := by
  obtain ⟨f, hF⟩ : ∃ f, FUEL = f + 3 := ⟨FUEL - 3, by have := FUEL_ge; omega⟩
  rw [hF]
  have hr' : role = 1 ∨ role = 2 ∨ role = 3 := by omega
  rcases hr' with rfl | rfl | rfl <;> rcases eight hx with rfl | rfl | rfl | rfl | rfl | rfl | rfl | rfl <;> rfl
theorem impl_bit {x role : Int} (hx : 0 ≤ x ∧ x ≤ 7) (hr : 1 ≤ role ∧ role ≤ 3) : decide ((andI (shrI x (role - 1)) 1) = 1) = bitB x role := by
  have hr' : role = 1 ∨ role = 2 ∨ role = 3 := by omega
  rcases hr' with rfl | rfl | rfl <;> rcases eight hx with rfl | rfl | rfl | rfl | rfl | rfl | rfl | rfl <;> decide
theorem pplB_facts {p : List Int} (h : pplB p = true) : (1 ≤ p.length ∧ p.length ≤ 4) ∧ ∀ x ∈ p, 0 ≤ x ∧ x ≤ 7 := by
  simp only [pplB, Bool.and_eq_true, inB_iff, List.all_eq_true] at h
  exact ⟨by omega, h.2⟩
theorem spec_PplHas (people : List Int) (who role : Int) (hl : people.length ≤ SMALL) : m_spec_PplHas people who role = some (hasB people who role) := by
  unfold m_spec_PplHas hasB
  rw [spec_PplOk _ hl, Option.bind_some]
  by_cases h1 : pplB people = true
  case neg => rw [if_neg h1, Bool.eq_false_iff.2 h1]; rfl
  rw [if_pos h1, h1, spec_in, Option.bind_some]
  by_cases h2 : inB who 1 people.length = true
  case neg => rw [if_neg h2, Bool.eq_false_iff.2 h2]; rfl
  rw [if_pos h2, h2, spec_in, Option.bind_some]
  by_cases h3 : inB role 1 3 = true
  case neg => rw [if_neg h3, Bool.eq_false_iff.2 h3]; rfl
  have h2' := inB_iff.1 h2
  have F := pplB_facts h1
  rw [if_pos h3, h3, gd_pos (by constructor <;> omega), getI_at people (by omega) (by omega), Option.bind_some, spec_bit (F.2 _ (atI_mem people (by omega) (by omega))) (inB_iff.1 h3)]
  rfl
theorem impl_PplHas (people : List Int) (who role : Int) (hl : people.length ≤ SMALL) : m_impl_PplHas people who role = some (hasB people who role) := by
  unfold m_impl_PplHas hasB m_impl_isRole
  rw [impl_PplOk _ hl, Option.bind_some]
  by_cases h1 : pplB people = true
  case neg => rw [if_neg h1, Bool.eq_false_iff.2 h1]; rfl
  rw [if_pos h1, h1, impl_in, Option.bind_some]
  by_cases h2 : inB who 1 people.length = true
  case neg => rw [if_neg h2, Bool.eq_false_iff.2 h2]; rfl
  rw [if_pos h2, h2, impl_in, Option.bind_some, Option.bind_some]
  by_cases h3 : inB role 1 3 = true
  case neg => rw [if_neg h3, Bool.eq_false_iff.2 h3]; rfl
  have h2' := inB_iff.1 h2
  have h3' := inB_iff.1 h3
  have F := pplB_facts h1
  rw [if_pos h3, h3, gd_pos (by constructor <;> omega), getI_at people (by omega) (by omega), Option.bind_some, gd_pos (by constructor <;> omega), gd_pos (by omega), impl_bit (F.2 _ (atI_mem people (by omega) (by omega))) (inB_iff.1 h3)]
  rfl

/-! ### Who has done something -/
def doneD (did : List GDid) (who task : Int) : Bool := did.any (fun d => decide (d.who = who) && decide (d.task = task))
theorem spec_PplDid (did : List GDid) (who task : Int) (hl : did.length ≤ SMALL) : m_spec_PplDid did who task = some (doneD did who task) := by
  unfold m_spec_PplDid doneD
  exact scan0 did (by unfold SMALL at hl; omega) (m_spec_PplDid_l0 did who task m_spec_PplDid_k1) (fun _ suf => some (suf.any (fun d => decide (d.who = who) && decide (d.task = task))))
    (fun f => by rw [m_spec_PplDid_l0, if_neg (by simp)]; rfl)
    (fun f pre x suf a b c d ih => by
      rw [m_spec_PplDid_l0, if_pos (decide_eq_true c)]
      simp only [b, Option.bind_some, gd_pos d, ih, List.any_cons]
      by_cases h1 : x.who = who <;> by_cases h2 : x.task = task <;> simp [h1, h2])
theorem impl_PplDid (did : List GDid) (who task : Int) (hl : did.length ≤ SMALL) : m_impl_PplDid did who task = some (doneD did who task) := by
  have e : m_Index_GDid did (GDid.mk task who) = some (anyIdx (fun d : GDid => decide (d.who = who) && decide (d.task = task)) did 0) := by
    unfold m_Index_GDid
    have := scan0 did (by unfold SMALL at hl; omega) (m_Index_GDid_l0 did (GDid.mk task who) (did.length : Int) m_Index_GDid_k1) (fun pre suf => some (anyIdx (fun d : GDid => decide (d.who = who) && decide (d.task = task)) suf pre.length))
      (fun f => by rw [m_Index_GDid_l0, if_neg (by simp)]; rfl)
      (fun f pre x suf a b c d ih => by
        rw [m_Index_GDid_l0, if_pos (decide_eq_true c), b, Option.bind_some, gd_pos d, ih, anyIdx]
        by_cases h1 : x.who = who <;> by_cases h2 : x.task = task
        · rw [if_pos (by simp [h1, h2]), if_pos (by simp [h1, h2])]
        · rw [if_neg (by simp [h1]; exact fun e => h2 e.symm), if_neg (by simp [h2])]; simp
        · rw [if_neg (by simp; exact fun _ e => h1 e.symm), if_neg (by simp [h1])]; simp
        · rw [if_neg (by simp; exact fun _ e => h1 e.symm), if_neg (by simp [h1])]; simp)
    simpa using this
  unfold m_impl_PplDid m_Contains_GDid doneD
  rw [e, Option.bind_some, Option.bind_some, anyIdx_nonneg _ did 0 (Int.le_refl _)]

/-! ### Who may -/
/-- The numbers 1, 2, .. -/
def idxs (N : Nat) : List Int := (List.range N).map (fun i : Nat => (i : Int) + 1)
theorem idxs_len (N : Nat) : (idxs N).length = N := by simp [idxs]
theorem idxs_get {N : Nat} {i : Nat} {x : Int} (h : getI (idxs N) (i : Int) = some x) : x = (i : Int) + 1 := by
  rw [getI_nat] at h
  simp only [idxs, List.getElem?_map, Option.map_eq_some_iff] at h
  obtain ⟨j, hj, rfl⟩ := h
  rw [List.getElem?_eq_some_iff] at hj
  obtain ⟨h1, h2⟩ := hj
  rw [List.getElem_range] at h2
  omega
theorem flat_filter {α : Type} (q : α → Bool) : ∀ l : List α, l.flatMap (fun x => if q x = true then [x] else []) = l.filter q
  | [] => rfl
  | x :: l => by
    rw [List.flatMap_cons, flat_filter q l, List.filter_cons]
    split <;> simp
def nowB (busy : List GItem) (apart who : Int) : Bool := busy.any (fun b => decide (b.who = who) && decide (b.task = apart))
def mayW (n : GNet) (people : List Int) (did : List GDid) (busy : List GItem) (t who : Int) : Bool :=
  hasB people who (atI n.tasks t).role && (!nowB busy (atI n.tasks t).apart who && !doneD did who (atI n.tasks t).apart)
def mayB (n : GNet) (people : List Int) (did : List GDid) (busy : List GItem) (t : Int) : List Int :=
  bif netB n && (pplB people && inB t 0 ((n.tasks.length : Int) - 1)) then (idxs people.length).filter (mayW n people did busy t) else []
theorem spec_now {n : GNet} {t : Int} (busy : List GItem) (who : Int) (kx : Bool → Option (List Int)) (hg : getI n.tasks t = some (atI n.tasks t)) (hb : busy.length ≤ SMALL) :
    m_spec_PplMay_l1 n busy t who kx FUEL false 0 = kx (nowB busy (atI n.tasks t).apart who) :=
  scan busy (by unfold SMALL at hb; omega) (fun f i s => m_spec_PplMay_l1 n busy t who kx f s i) (fun _ suf s => kx (s || nowB suf (atI n.tasks t).apart who)) (fun _ _ => True)
    (fun f s _ => by rw [m_spec_PplMay_l1, if_neg (by simp)]; simp [nowB])
    (fun f pre x suf s a b c d _ k => by
      have ih := fun u => k u trivial
      rw [m_spec_PplMay_l1, if_pos (decide_eq_true c)]
      simp only [b, hg, Option.bind_some, gd_pos d, ih, nowB, List.any_cons]
      cases s
      · by_cases h : x.who = who <;> simp [h]
      · simp) FUEL false trivial (by have := FUEL_ge; unfold SMALL at hb; omega)
theorem spec_PplMay (n : GNet) (people : List Int) (did : List GDid) (busy : List GItem) (t : Int) (hn : n.small) (hp : people.length ≤ SMALL) (hd : did.length ≤ SMALL) (hb : busy.length ≤ SMALL) :
    m_spec_PplMay n people did busy t = some (mayB n people did busy t) := by
  unfold m_spec_PplMay mayB
  rw [spec_NetOk n hn, Option.bind_some]
  by_cases h1 : netB n = true
  case neg => rw [if_neg h1, Bool.eq_false_iff.2 h1]; rfl
  rw [if_pos h1, h1, spec_PplOk _ hp, Option.bind_some]
  by_cases h2 : pplB people = true
  case neg => rw [if_neg h2, Bool.eq_false_iff.2 h2]; rfl
  rw [if_pos h2, h2, gd_pos (ok_len1 hn.1), spec_in, Option.bind_some]
  by_cases h3 : inB t 0 ((n.tasks.length : Int) - 1) = true
  case neg => rw [if_neg h3, Bool.eq_false_iff.2 h3]; rfl
  have h3' := inB_iff.1 h3
  have hg := getI_at n.tasks h3'.1 (by omega)
  rw [if_pos h3, h3]
  have := emit_scan (idxs people.length) (by rw [idxs_len]; exact hp) (fun w => if mayW n people did busy t w = true then [w] else []) (fun f i s => m_spec_PplMay_l0 n people did busy t m_spec_PplMay_k2 f (i + 1) s) m_spec_PplMay_k2
    (fun f s => by rw [m_spec_PplMay_l0, idxs_len, if_neg (by simp; omega)])
    (fun f pre x suf s a b c d e i => by
      have hx := idxs_get b
      rw [idxs_len] at d
      have hs : s.length + [(pre.length : Int) + 1].length ≤ SMALL := by
        rw [i, List.length_singleton]
        have := flat_len (e := fun w => if mayW n people did busy t w = true then [w] else []) (fun x => by split <;> simp) pre
        unfold SMALL at hp ⊢; omega
      rw [m_spec_PplMay_l0, if_pos (by simp; omega), spec_now busy _ _ hg hb]
      unfold m_spec_PplMay_k1
      simp only [hg, Option.bind_some, spec_PplHas _ _ _ hp, spec_PplDid _ _ _ hd, gd_pos (show ok64 ((pre.length : Int) + 1 + 1) by unfold SMALL at hp; constructor <;> omega), gd_pos hs]
      subst hx
      unfold mayW
      cases hasB people ((pre.length : Int) + 1) (atI n.tasks t).role <;> cases nowB busy (atI n.tasks t).apart ((pre.length : Int) + 1) <;> cases doneD did ((pre.length : Int) + 1) (atI n.tasks t).apart <;> simp)
  refine this.trans ?_
  rw [flat_filter]; rfl
theorem impl_PplMay (n : GNet) (people : List Int) (did : List GDid) (busy : List GItem) (t : Int) (hn : n.small) (hp : people.length ≤ SMALL) (hd : did.length ≤ SMALL) (hb : busy.length ≤ SMALL) :
    m_impl_PplMay n people did busy t = some (mayB n people did busy t) := by
  unfold m_impl_PplMay mayB m_impl_persons
  rw [impl_NetOk n hn, Option.bind_some]
  by_cases h1 : netB n = true
  case neg => rw [if_neg h1, Bool.eq_false_iff.2 h1]; rfl
  rw [if_pos h1, h1, impl_hasTask n t hn, Option.bind_some]
  by_cases h3 : inB t 0 ((n.tasks.length : Int) - 1) = true
  case neg => rw [if_neg h3, Bool.eq_false_iff.2 h3]; simp
  have h3' := inB_iff.1 h3
  have hg := getI_at n.tasks h3'.1 (by omega)
  rw [if_pos h3, h3, hg, Option.bind_some, impl_PplOk _ hp, Option.bind_some]
  by_cases h2 : pplB people = true
  case neg => rw [if_neg h2, Bool.eq_false_iff.2 h2]; rfl
  rw [if_pos h2, h2]
  have hw : ∀ w : Int, m_impl_PplMay_1 w busy (atI n.tasks t) people did = some (mayW n people did busy t w) := fun w => by
    unfold m_impl_PplMay_1 mayW nowB
    rw [ContainsFunc_GItem busy hb _ (fun b => decide (b.who = w) && decide (b.task = (atI n.tasks t).apart)) (fun x _ => by unfold m_impl_PplMay_1_1; by_cases h : x.task = (atI n.tasks t).apart <;> simp [h]), Option.bind_some, impl_PplHas _ _ _ hp, Option.bind_some, impl_PplDid _ _ _ hd, Option.bind_some]
    cases hasB people w (atI n.tasks t).role <;> cases (busy.any fun b => decide (b.who = w) && decide (b.task = (atI n.tasks t).apart)) <;> simp
  have := emit_scan (idxs people.length) (by rw [idxs_len]; exact hp) (fun w => if mayW n people did busy t w = true then [w] else []) (m_impl_persons_l0 (fun z => m_impl_PplMay_1 z busy (atI n.tasks t) people did) (people.length : Int) m_impl_persons_k1) m_impl_persons_k1
    (fun f s => by rw [m_impl_persons_l0, idxs_len, if_neg (by simp)])
    (fun f pre x suf s a b c d e i => by
      have hx := idxs_get b
      rw [idxs_len] at d
      have hs : s.length + [(pre.length : Int) + 1].length ≤ SMALL := by
        rw [i, List.length_singleton]
        have := flat_len (e := fun w => if mayW n people did busy t w = true then [w] else []) (fun x => by split <;> simp) pre
        unfold SMALL at hp ⊢; omega
      rw [m_impl_persons_l0, if_pos (decide_eq_true d)]
      simp only [gd_pos e, gd_pos hs, hw, Option.bind_some]
      subst hx
      cases mayW n people did busy t ((pre.length : Int) + 1) <;> simp)
  rw [this, flat_filter]; rfl
theorem mayB_len (n : GNet) (people : List Int) (did : List GDid) (busy : List GItem) (t : Int) : (mayB n people did busy t).length ≤ people.length := by
  unfold mayB
  cases netB n && (pplB people && inB t 0 ((n.tasks.length : Int) - 1))
  · simp
  · show ((idxs people.length).filter _).length ≤ _
    have := List.length_filter_le (mayW n people did busy t) (idxs people.length)
    rw [idxs_len] at this; exact this

/-! ### What is begun -/
noncomputable def startOk (n : GNet) (people : List Int) (c : GCase) (t who : Int) : Bool :=
  casB n c && (decide (c.state = 1) && (enaB n c.marks c.busy t && ((mayB n people c.did c.busy t).any (fun x => decide (x = who)) && !decide ((c.busy.length : Int) = 6))))
def begun (n : GNet) (c : GCase) (t who : Int) : GCase := GCase.mk c.state (takeL (atI n.tasks t).join (atI n.tasks t).in_ c.marks) (c.busy ++ [GItem.mk t who 0]) c.data c.did
noncomputable def startB (n : GNet) (people : List Int) (c : GCase) (t who : Int) : GCase × Bool := bif startOk n people c t who then (begun n c t who, true) else (c, false)
theorem enaB_task {n : GNet} {m : List Int} {busy : List GItem} {t : Int} (h : enaB n m busy t = true) : mrkB n m = true ∧ busyB n busy = true ∧ (0 ≤ t ∧ t < n.tasks.length) := by
  simp only [enaB, Bool.and_eq_true, inB_iff] at h
  exact ⟨h.1, h.2.1, by omega⟩
theorem spec_CasStart (n : GNet) (people : List Int) (c : GCase) (t who : Int) (hn : n.small) (hp : people.length ≤ SMALL) (hc : c.small) : m_spec_CasStart n people c t who = some (startB n people c t who) := by
  unfold m_spec_CasStart startB startOk
  rw [spec_l6Copy c hc, Option.bind_some, spec_CasOk n c hn hc, Option.bind_some]
  by_cases h1 : casB n c = true
  case neg => rw [if_neg h1, Bool.eq_false_iff.2 h1]; rfl
  rw [if_pos h1, h1]
  by_cases h2 : c.state = 1
  case neg => rw [if_neg (by simpa using h2), decide_eq_false h2]; rfl
  rw [if_pos (decide_eq_true h2), decide_eq_true h2, spec_EnaCan n c.marks c.busy t hn hc.1 hc.2.1, Option.bind_some]
  by_cases h3 : enaB n c.marks c.busy t = true
  case neg => rw [if_neg h3, Bool.eq_false_iff.2 h3]; rfl
  rw [if_pos h3, h3, spec_PplMay n people c.did c.busy t hn hp hc.2.2.2 hc.2.1, Option.bind_some, spec_l2Has _ _ (Nat.le_trans (mayB_len ..) hp), Option.bind_some]
  by_cases h4 : (mayB n people c.did c.busy t).any (fun x => decide (x = who)) = true
  case neg => rw [if_neg h4, Bool.eq_false_iff.2 h4]; rfl
  rw [if_pos h4, h4]
  by_cases h5 : (c.busy.length : Int) = 6
  · rw [if_pos (decide_eq_true h5), decide_eq_true h5]; rfl
  obtain ⟨g1, g2, g3⟩ := enaB_task h3
  have F := casB_facts h1
  rw [if_neg (by simpa using h5), decide_eq_false h5, spec_EnaTake n c.marks t hn hc.1, Option.bind_some, gd_pos (by have := F.busyl; rw [List.length_singleton]; unfold SMALL; omega), g1, inB_iff.2 (show 0 ≤ t ∧ t ≤ (n.tasks.length : Int) - 1 by omega)]
  rfl
theorem startB_parts (n : GNet) (people : List Int) (c : GCase) (t who : Int) : (startB n people c t who).1.marks.length = c.marks.length ∧ ((startB n people c t who).1.busy.length ≤ c.busy.length ∨ (startB n people c t who).1.busy.length ≤ 7) ∧
    (startB n people c t who).1.data.length = c.data.length ∧ (startB n people c t who).1.did.length = c.did.length := by
  unfold startB
  cases e : startOk n people c t who
  · exact ⟨rfl, .inl (Nat.le_refl _), rfl, rfl⟩
  · unfold startOk at e
    rw [Bool.and_eq_true] at e
    have F := casB_facts e.1
    have := F.busyl
    exact ⟨takeL_len _ _ _, .inr (by show (c.busy ++ [GItem.mk t who 0]).length ≤ 7; rw [List.length_append, List.length_singleton]; omega), rfl, rfl⟩
theorem startB_small (n : GNet) (people : List Int) (c : GCase) (t who : Int) (hc : c.small) : (startB n people c t who).1.small := by
  obtain ⟨a, b, d, e⟩ := startB_parts n people c t who
  exact ⟨by rw [a]; exact hc.1, by rcases b with b | b; exact Nat.le_trans b hc.2.1; exact Nat.le_trans b (by unfold SMALL; omega), by rw [d]; exact hc.2.2.1, by rw [e]; exact hc.2.2.2⟩
theorem impl_CasStart (n : GNet) (people : List Int) (c : GCase) (t who : Int) (hn : n.small) (hp : people.length ≤ SMALL) (hc : c.small) : m_impl_CasStart n people c t who = some (startB n people c t who) := by
  have hsm := startB_small n people c t who hc
  unfold m_impl_CasStart startB startOk
  rw [impl_CasClone c hc, Option.bind_some, impl_running n c hn hc, Option.bind_some]
  by_cases h1 : casB n c = true
  case neg => rw [Bool.eq_false_iff.2 h1]; rfl
  rw [h1]
  by_cases h2 : c.state = 1
  case neg => rw [decide_eq_false h2]; rfl
  rw [decide_eq_true h2, if_pos (by rfl)]
  by_cases h5 : (c.busy.length : Int) = 6
  · rw [if_pos (decide_eq_true h5), decide_eq_true h5]; simp
  rw [if_neg (by simpa using h5), decide_eq_false h5, impl_EnaCan n c.marks c.busy t hn hc.1 hc.2.1, Option.bind_some]
  by_cases h3 : enaB n c.marks c.busy t = true
  case neg => rw [if_neg h3, Bool.eq_false_iff.2 h3]; rfl
  have sym : (mayB n people c.did c.busy t).any (fun x => decide (who = x)) = (mayB n people c.did c.busy t).any (fun x => decide (x = who)) := by congr 1; funext y; exact decide_eq_decide.2 ⟨Eq.symm, Eq.symm⟩
  rw [if_pos h3, h3, impl_PplMay n people c.did c.busy t hn hp hc.2.2.2 hc.2.1, Option.bind_some, Contains_I _ (Nat.le_trans (mayB_len ..) hp), Option.bind_some, sym]
  by_cases h4 : (mayB n people c.did c.busy t).any (fun x => decide (x = who)) = true
  case neg => rw [if_neg h4, Bool.eq_false_iff.2 h4]; rfl
  obtain ⟨g1, g2, g3⟩ := enaB_task h3
  have F := casB_facts h1
  have e : startB n people c t who = (begun n c t who, true) := by unfold startB startOk; rw [h1, decide_eq_true h2, h3, h4, decide_eq_false h5]; rfl
  rw [e] at hsm
  rw [if_pos h4, h4, impl_take hn hc.1 g1 g3.1 g3.2, Option.bind_some, gd_pos (by have := F.busyl; rw [List.length_singleton]; unfold SMALL; omega)]
  show (m_impl_CasCase_clone (begun n c t who)).bind _ = _
  rw [impl_CasClone _ hsm, Option.bind_some]; rfl
end Go.Am.Pl

end
section
/- Plain laws, chapters 3, 6 and 11: all that can begin; steps. Own work. -/
set_option maxRecDepth 100000
set_option linter.unusedVariables false
set_option linter.unusedSimpArgs false
namespace Go.Am.Pl
open Go

/-! ### All tasks that can begin -/
/-- The numbers 0, 1, .. -/
def nats (N : Nat) : List Int := (List.range N).map (fun i : Nat => (i : Int))
theorem nats_len (N : Nat) : (nats N).length = N := by simp [nats]
theorem nats_get {N : Nat} {i : Nat} {x : Int} (h : getI (nats N) (i : Int) = some x) : x = (i : Int) := by
  rw [getI_nat] at h
  simp only [nats, List.getElem?_map, Option.map_eq_some_iff] at h
  obtain ⟨j, hj, rfl⟩ := h
  rw [List.getElem?_eq_some_iff] at hj
  obtain ⟨h1, h2⟩ := hj
  rw [List.getElem_range] at h2
  omega
noncomputable def tasksB (n : GNet) (marks : List Int) (busy : List GItem) : List Int := (nats n.tasks.length).filter (enaB n marks busy)
theorem tasksB_len (n : GNet) (marks : List Int) (busy : List GItem) : (tasksB n marks busy).length ≤ n.tasks.length := by
  have := List.length_filter_le (enaB n marks busy) (nats n.tasks.length)
  rw [nats_len] at this; exact this
theorem spec_EnaTasks (n : GNet) (marks : List Int) (busy : List GItem) (hn : n.small) (hm : marks.length ≤ SMALL) (hb : busy.length ≤ SMALL) : m_spec_EnaTasks n marks busy = some (tasksB n marks busy) := by
  unfold m_spec_EnaTasks tasksB
  have := emit_scan (nats n.tasks.length) (by rw [nats_len]; exact hn.1) (fun w => if enaB n marks busy w = true then [w] else []) (m_spec_EnaTasks_l0 n marks busy m_spec_EnaTasks_k1) m_spec_EnaTasks_k1
    (fun f s => by rw [m_spec_EnaTasks_l0, nats_len, if_neg (by simp)])
    (fun f pre x suf s a b c d e i => by
      have hx := nats_get b
      rw [nats_len] at d
      have hs : s.length + [(pre.length : Int)].length ≤ SMALL := by
        rw [i, List.length_singleton]
        have := flat_len (e := fun w => if enaB n marks busy w = true then [w] else []) (fun x => by split <;> simp) pre
        have := hn.1; omega
      rw [m_spec_EnaTasks_l0, if_pos (decide_eq_true d)]
      simp only [spec_EnaCan n marks busy _ hn hm hb, Option.bind_some, gd_pos e, gd_pos hs]
      subst hx
      cases enaB n marks busy (pre.length : Int) <;> simp)
  rw [this, flat_filter]; rfl
theorem impl_EnaTasks (n : GNet) (marks : List Int) (busy : List GItem) (hn : n.small) (hm : marks.length ≤ SMALL) (hb : busy.length ≤ SMALL) : m_impl_EnaTasks n marks busy = some (tasksB n marks busy) := by
  unfold m_impl_EnaTasks tasksB
  rw [impl_MrkOk n marks hn hm, Option.bind_some]
  by_cases h1 : mrkB n marks = true
  case neg =>
    rw [if_neg h1]; congr 1
    refine (List.filter_eq_nil_iff.2 fun x _ => ?_).symm
    unfold enaB; rw [Bool.eq_false_iff.2 h1]; simp
  rw [if_pos h1, impl_busyOk n busy hn hb (mrkB_net h1), Option.bind_some]
  by_cases h2 : busyB n busy = true
  case neg =>
    rw [if_neg h2]; congr 1
    refine (List.filter_eq_nil_iff.2 fun x _ => ?_).symm
    unfold enaB; rw [Bool.eq_false_iff.2 h2]; simp
  rw [if_pos h2]
  have M := mb_of h1 h2
  have := emit_scan (nats n.tasks.length) (by rw [nats_len]; exact hn.1) (fun w => if enaB n marks busy w = true then [w] else []) (m_impl_EnaTasks_l0 n marks busy (n.tasks.length : Int) m_impl_EnaTasks_k1) m_impl_EnaTasks_k1
    (fun f s => by rw [m_impl_EnaTasks_l0, nats_len, if_neg (by simp)])
    (fun f pre x suf s a b c d e i => by
      have hx := nats_get b
      rw [nats_len] at d
      have hs : s.length + [(pre.length : Int)].length ≤ SMALL := by
        rw [i, List.length_singleton]
        have := flat_len (e := fun w => if enaB n marks busy w = true then [w] else []) (fun x => by split <;> simp) pre
        have := hn.1; omega
      have he : enaB n marks busy (pre.length : Int) = canB n marks busy (pre.length : Int) := by
        unfold enaB; rw [h1, h2, inB_iff.2 (show 0 ≤ (pre.length : Int) ∧ (pre.length : Int) ≤ (n.tasks.length : Int) - 1 by omega)]; rfl
      rw [m_impl_EnaTasks_l0, if_pos (decide_eq_true d)]
      simp only [impl_can hn M (show 0 ≤ (pre.length : Int) by omega) d, Option.bind_some, gd_pos e, gd_pos hs]
      subst hx
      rw [he]
      cases canB n marks busy (pre.length : Int) <;> simp)
  rw [this, flat_filter]; rfl

/-! ### All that may be begun -/
theorem mayB_four (n : GNet) (people : List Int) (did : List GDid) (busy : List GItem) (t : Int) : (mayB n people did busy t).length ≤ 4 := by
  have := mayB_len n people did busy t
  by_cases h : pplB people = true
  · have := (pplB_facts h).1; omega
  · unfold mayB; rw [Bool.eq_false_iff.2 h]; simp
noncomputable def pairs (n : GNet) (people : List Int) (c : GCase) (l : List Int) : List GDid := l.flatMap (fun t => (mayB n people c.did c.busy t).map (GDid.mk t))
/-- A loop that puts a list's elements behind what there is. -/
theorem push_scan {α γ β : Type} (l : List α) (g : α → γ) (l0 : List γ) (hl : l0.length + l.length ≤ SMALL) (f : Nat → Int → List γ → Option β) (kx : List γ → Option β) (h0 : ∀ n s, f (n + 1) (l.length : Int) s = kx s)
    (h1 : ∀ n i x s, getI l i = some x → x ∈ l → i < (l.length : Int) → ok64 (i + 1) → (∀ y : γ, s.length + [y].length ≤ SMALL) → f (n + 1) i s = f n (i + 1) (s ++ [g x])) : f FUEL 0 l0 = kx (l0 ++ l.map g) :=
  scan l (by unfold SMALL at hl; omega) f (fun _ suf s => kx (s ++ suf.map g)) (fun pre s => s.length = l0.length + pre.length) (fun n s _ => by rw [h0]; simp)
    (fun n pre x suf s a b c d i k => by
      have : pre.length < l.length := by rw [a]; simp
      rw [h1 n _ x s b (by rw [a]; simp) c d (fun y => by rw [List.length_singleton]; omega), k _ (by simp; omega)]; simp) FUEL l0 (by simp) (by have := FUEL_ge; unfold SMALL at hl; omega)
noncomputable def canL (n : GNet) (people : List Int) (c : GCase) : List GDid := bif casB n c && (decide (c.state = 1) && !decide ((c.busy.length : Int) = 6)) then pairs n people c (tasksB n c.marks c.busy) else []
theorem impl_CasCan (n : GNet) (people : List Int) (c : GCase) (hn : n.small) (hp : people.length ≤ SMALL) (hc : c.small) : m_impl_CasCan n people c = some (canL n people c) := by
  unfold m_impl_CasCan canL
  rw [impl_running n c hn hc, Option.bind_some]
  by_cases h1 : casB n c = true
  case neg => rw [Bool.eq_false_iff.2 h1]; rfl
  rw [h1]
  by_cases h2 : c.state = 1
  case neg => rw [decide_eq_false h2]; rfl
  rw [decide_eq_true h2, if_pos (by rfl)]
  by_cases h5 : (c.busy.length : Int) = 6
  · rw [if_pos (decide_eq_true h5), decide_eq_true h5]; rfl
  have F := casB_facts h1
  have hsz := netB_size F.net
  rw [if_neg (by simpa using h5), decide_eq_false h5, impl_EnaTasks n c.marks c.busy hn hc.1 hc.2.1, Option.bind_some]
  have htl := tasksB_len n c.marks c.busy
  obtain ⟨ts, hts⟩ : ∃ ts, tasksB n c.marks c.busy = ts := ⟨_, rfl⟩
  rw [hts] at htl ⊢
  have := scan ts (by omega) (fun f i s => m_impl_CasCan_l0 n people c ts m_impl_CasCan_k2 f (ts.length : Int) i s) (fun _ suf s => some (s ++ pairs n people c suf)) (fun pre s => s.length ≤ 4 * pre.length)
    (fun f s _ => by rw [m_impl_CasCan_l0, if_neg (by simp)]; simp [pairs, m_impl_CasCan_k2])
    (fun f pre x suf s a b cc d i k => by
      have hm := mayB_four n people c.did c.busy x
      have hpl : pre.length < ts.length := by rw [a]; simp
      rw [m_impl_CasCan_l0, if_pos (decide_eq_true cc), b, Option.bind_some, impl_PplMay n people c.did c.busy x hn hp hc.2.2.2 hc.2.1, Option.bind_some]
      rw [push_scan (mayB n people c.did c.busy x) (GDid.mk x) s (by unfold SMALL; omega) (m_impl_CasCan_l1 x (mayB n people c.did c.busy x) ((mayB n people c.did c.busy x).length : Int) (m_impl_CasCan_k1 (ts.length : Int) (pre.length : Int) (m_impl_CasCan_l0 n people c ts m_impl_CasCan_k2 f))) (m_impl_CasCan_k1 (ts.length : Int) (pre.length : Int) (m_impl_CasCan_l0 n people c ts m_impl_CasCan_k2 f))
        (fun f s => by rw [m_impl_CasCan_l1, if_neg (by simp)])
        (fun f i y s a b c d e => by rw [m_impl_CasCan_l1, if_pos (decide_eq_true c), a, Option.bind_some, gd_pos (e _), gd_pos d])]
      unfold m_impl_CasCan_k1
      rw [gd_pos d, k _ (by simp; omega)]
      unfold pairs
      rw [List.flatMap_cons, List.append_assoc]) FUEL [] (by simp) (by have := FUEL_ge; omega)
  exact this

/-! ### A step -/
noncomputable def pickB (n : GNet) (people : List Int) (c : GCase) : List GDid → GCase × Bool
  | [] => (c, false)
  | d :: _ => startB n people c d.task d.who
noncomputable def nextB (n : GNet) (people : List Int) (c : GCase) : GCase × Bool :=
  bif casB n c && (pplB people && decide (c.state = 1)) then (if 0 < c.busy.length then workB n c 0 (-1) 0 else pickB n people c (pairs n people c (tasksB n c.marks c.busy))) else (c, false)
theorem spec_DrvNext (n : GNet) (people : List Int) (c : GCase) (hn : n.small) (hp : people.length ≤ SMALL) (hc : c.small) : m_spec_DrvNext n people c = some (nextB n people c) := by
  unfold m_spec_DrvNext nextB
  rw [spec_CasOk n c hn hc, Option.bind_some, spec_l6Copy c hc]
  by_cases h1 : casB n c = true
  case neg => rw [if_neg h1, Bool.eq_false_iff.2 h1]; rfl
  rw [if_pos h1, h1, spec_PplOk _ hp, Option.bind_some]
  by_cases h2 : pplB people = true
  case neg => rw [if_neg h2, Bool.eq_false_iff.2 h2]; rfl
  rw [if_pos h2, h2]
  by_cases h3 : c.state = 1
  case neg => rw [if_neg (by simpa using h3), decide_eq_false h3]; rfl
  rw [if_pos (decide_eq_true h3), decide_eq_true h3]
  by_cases h4 : 0 < c.busy.length
  · rw [if_pos (decide_eq_true (by omega)), spec_CasWork n c 0 (-1) 0 hn hc, Option.bind_some]
    simp only [Bool.and_self, cond_true, if_pos h4]
  rw [if_neg (by rw [decide_eq_true_eq]; omega), spec_EnaTasks n c.marks c.busy hn hc.1 hc.2.1, Option.bind_some]
  simp only [Bool.and_self, cond_true, if_neg h4]
  have F := casB_facts h1
  have hsz := netB_size F.net
  have htl := tasksB_len n c.marks c.busy
  obtain ⟨ts, hts⟩ : ∃ ts, tasksB n c.marks c.busy = ts := ⟨_, rfl⟩
  rw [hts] at htl ⊢
  exact scan0 ts (by omega) (m_spec_DrvNext_l0 n people c ts (m_spec_DrvNext_k1 c)) (fun _ suf => some (pickB n people c (pairs n people c suf)))
    (fun f => by rw [m_spec_DrvNext_l0, if_neg (by simp)]; unfold m_spec_DrvNext_k1; rw [spec_l6Copy c hc]; rfl)
    (fun f pre x suf a b cc d ih => by
      rw [m_spec_DrvNext_l0, if_pos (decide_eq_true cc), b, Option.bind_some, spec_PplMay n people c.did c.busy x hn hp hc.2.2.2 hc.2.1, Option.bind_some, Option.bind_some, gd_pos d, ih]
      unfold pairs
      rw [List.flatMap_cons]
      cases e : mayB n people c.did c.busy x with
      | nil => simp
      | cons w ws => rw [if_pos (by simp)]; show ((getI (w :: ws) 0).bind _) = _; rw [show getI (w :: ws) 0 = some w from rfl, Option.bind_some, spec_CasStart n people c x w hn hp hc]; rfl)
theorem impl_DrvNext (n : GNet) (people : List Int) (c : GCase) (hn : n.small) (hp : people.length ≤ SMALL) (hc : c.small) : m_impl_DrvNext n people c = some (nextB n people c) := by
  unfold m_impl_DrvNext nextB
  rw [impl_running n c hn hc, Option.bind_some, impl_CasClone c hc]
  by_cases h1 : casB n c = true
  case neg => rw [Bool.eq_false_iff.2 h1]; rfl
  rw [h1]
  by_cases h3 : c.state = 1
  case neg => rw [decide_eq_false h3]; simp
  rw [decide_eq_true h3, if_pos (by rfl), impl_PplOk _ hp, Option.bind_some]
  by_cases h2 : pplB people = true
  case neg => rw [if_neg h2, Bool.eq_false_iff.2 h2]; rfl
  rw [if_pos h2, h2]
  by_cases h4 : 0 < c.busy.length
  · rw [if_pos (decide_eq_true (by omega)), impl_CasWork n c 0 (-1) 0 hn hc, Option.bind_some]
    simp only [Bool.and_self, cond_true, if_pos h4]
  rw [if_neg (by rw [decide_eq_true_eq]; omega), impl_CasCan n people c hn hp hc, Option.bind_some]
  simp only [Bool.and_self, cond_true, if_neg h4]
  have e : canL n people c = pairs n people c (tasksB n c.marks c.busy) := by
    unfold canL; rw [h1, decide_eq_true h3, decide_eq_false (by omega)]; rfl
  rw [e]
  generalize pairs n people c (tasksB n c.marks c.busy) = l
  obtain ⟨f, hF⟩ : ∃ f, FUEL = f + 1 := ⟨FUEL - 1, by have := FUEL_ge; omega⟩
  rw [hF, m_impl_DrvNext_l0]
  cases l with
  | nil => rw [if_neg (by simp)]; unfold m_impl_DrvNext_k1; rw [impl_CasClone c hc]; rfl
  | cons d ds =>
    rw [if_pos (by simp), show getI (d :: ds) 0 = some d from rfl, Option.bind_some, impl_CasStart n people c d.task d.who hn hp hc]; rfl

/-! ### Bounds -/
def Bnd (c d : GCase) : Prop := d.marks.length ≤ c.marks.length ∧ (d.busy.length ≤ c.busy.length ∨ d.busy.length ≤ 7) ∧ d.data.length ≤ c.data.length ∧ (d.did.length ≤ c.did.length ∨ d.did.length ≤ 61)
theorem Bnd.refl (c : GCase) : Bnd c c := ⟨Nat.le_refl _, .inl (Nat.le_refl _), Nat.le_refl _, .inl (Nat.le_refl _)⟩
theorem Bnd.trans {a b c : GCase} (h1 : Bnd a b) (h2 : Bnd b c) : Bnd a c := by
  obtain ⟨p, q, r, s⟩ := h1
  obtain ⟨t, u, v, w⟩ := h2
  exact ⟨by omega, by omega, by omega, by omega⟩
theorem Bnd.small {c d : GCase} (h : Bnd c d) (hc : c.small) : d.small := by
  obtain ⟨p, q, r, s⟩ := h
  obtain ⟨t, u, v, w⟩ := hc
  unfold SMALL at *
  exact ⟨by unfold SMALL; omega, by unfold SMALL; omega, by unfold SMALL; omega, by unfold SMALL; omega⟩
theorem Bnd.lens {c d : GCase} (h : Bnd c d) (hc : GCase.lens (· ≤ 1048576) c) : GCase.lens (· ≤ 1048576) d := by
  obtain ⟨p, q, r, s⟩ := h
  obtain ⟨t, u, v, w⟩ := hc
  exact ⟨by show _ ≤ _; omega, by show _ ≤ _; omega, by show _ ≤ _; omega, by show _ ≤ _; omega⟩
theorem workB_bnd (n : GNet) (c : GCase) (k v num : Int) : Bnd c (workB n c k v num).1 := by
  unfold workB
  cases e : casB n c && (decide (c.state = 1) && (inB k 0 ((c.busy.length : Int) - 1) && (inB v (-1) 2 && (inB num (-99) 99 && !decide ((c.did.length : Int) = 60)))))
  · exact Bnd.refl c
  · rw [Bool.and_eq_true] at e
    have F := casB_facts e.1
    have h60 := F.didl
    have hg := giveB_len n c.marks (atI c.busy k).task (datB c.data v num)
    have hd : (datB c.data v num).length ≤ c.data.length := by rw [datB_len]; exact Nat.le_refl _
    show Bnd c (doneB n c k (datB c.data v num)).1
    unfold doneB
    split
    · exact ⟨Nat.le_refl _, .inl (by simp), hd, .inl (Nat.le_refl _)⟩
    · split
      · split
        · exact ⟨hg, .inl (Nat.zero_le _), hd, .inr (by simp; omega)⟩
        · exact ⟨hg, .inl (by simp; omega), hd, .inr (by simp; omega)⟩
      · exact Bnd.refl c
theorem startB_bnd (n : GNet) (people : List Int) (c : GCase) (t who : Int) : Bnd c (startB n people c t who).1 := by
  obtain ⟨a, b, d, e⟩ := startB_parts n people c t who
  exact ⟨by omega, b, by omega, .inl (by omega)⟩
theorem nextB_bnd (n : GNet) (people : List Int) (c : GCase) : Bnd c (nextB n people c).1 := by
  unfold nextB
  cases casB n c && (pplB people && decide (c.state = 1))
  · exact Bnd.refl c
  · show Bnd c (if 0 < c.busy.length then workB n c 0 (-1) 0 else pickB n people c (pairs n people c (tasksB n c.marks c.busy))).1
    split
    · exact workB_bnd n c 0 (-1) 0
    · cases pairs n people c (tasksB n c.marks c.busy) with
      | nil => exact Bnd.refl c
      | cons d ds => exact startB_bnd n people c d.task d.who

/-! ### Steps -/
end Go.Am.Pl

end
