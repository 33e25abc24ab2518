/- Plain laws. Own work. -/
import Derived.Test.YtgolgnbgomhknaaCkC1
section
set_option maxRecDepth 100000
set_option linter.unusedVariables false
set_option linter.unusedSimpArgs false
namespace Go.Am.Pl
open Go
theorem z0qf {α : Type} (pre : List α) (x : α) (suf : List α) : getI (pre ++ x :: suf) (pre.length : Int) = some x := by
  rw [z085]; simp
theorem scan {α β σ : Type} (l : List α) (hl : l.length ≤ 4611686018427387000) (f : Nat → Int → σ → Option β) (g : List α → List α → σ → Option β) (Inv : List α → σ → Prop)
    (h0 : ∀ n s, Inv l s → f (n + 1) (l.length : Int) s = g l [] s)
    (h1 : ∀ n pre x suf s, l = pre ++ x :: suf → getI l (pre.length : Int) = some x → ((pre.length : Int) < (l.length : Int)) → ok64 ((pre.length : Int) + 1) → Inv pre s →
      (∀ s', Inv (pre ++ [x]) s' → f n ((pre.length : Int) + 1) s' = g (pre ++ [x]) suf s') → f (n + 1) (pre.length : Int) s = g pre (x :: suf) s) :
    ∀ n s, Inv [] s → l.length < n → f n 0 s = g [] l s := by
  have key : ∀ suf pre n s, l = pre ++ suf → Inv pre s → suf.length < n → f n (pre.length : Int) s = g pre suf s := by
    intro suf
    induction suf with
    | nil =>
      intro pre n s hp hi hn
      obtain ⟨m, rfl⟩ : ∃ m, n = m + 1 := ⟨n - 1, by simp at hn; omega⟩
      simp only [List.append_nil] at hp
      subst hp
      exact h0 m s hi
    | cons x suf ih =>
      intro pre n s hp hi hn
      obtain ⟨m, rfl⟩ : ∃ m, n = m + 1 := ⟨n - 1, by simp at hn; omega⟩
      have hlen : l.length = pre.length + suf.length + 1 := by rw [hp]; simp; omega
      refine h1 m pre x suf s hp (by rw [hp]; exact z0qf pre x suf) (by omega) (by constructor <;> omega) hi ?_
      intro s' hi'
      have := ih (pre ++ [x]) m s' (by rw [hp]; simp) hi' (by simp at hn; omega)
      rw [← this]; simp
  intro n s hi hn
  exact key l [] n s (by simp) hi hn
theorem scan0 {α β : Type} (l : List α) (hl : l.length ≤ 4611686018427387000) (f : Nat → Int → Option β) (g : List α → List α → Option β)
    (h0 : ∀ n, f (n + 1) (l.length : Int) = g l [])
    (h1 : ∀ n pre x suf, l = pre ++ x :: suf → getI l (pre.length : Int) = some x → ((pre.length : Int) < (l.length : Int)) → ok64 ((pre.length : Int) + 1) →
      f n ((pre.length : Int) + 1) = g (pre ++ [x]) suf → f (n + 1) (pre.length : Int) = g pre (x :: suf)) :
    f FUEL 0 = g [] l :=
  scan l hl (fun n i (_ : Unit) => f n i) (fun a b _ => g a b) (fun _ _ => True) (fun n s _ => h0 n) (fun n pre x suf s a b c d e k => h1 n pre x suf a b c d (k () trivial)) FUEL () trivial (by have := z04g; omega)
def inB (n a b : Int) : Bool := decide (a ≤ n ∧ n ≤ b)
theorem z03d (n a b : Int) : z003 n a b = some (inB n a b) := by
  unfold z003 inB; by_cases h : a ≤ n <;> simp [h]
theorem z0cc (n a b : Int) : z00z n a b = some (inB n a b) := by
  unfold z00z inB; by_cases h : a ≤ n <;> simp [h]
theorem iteB (a b : Bool) : (if a = true then some b else some false) = some (a && b) := by cases a <;> rfl
theorem iteN (a b : Bool) : (if a = true then some false else some b) = some (!a && b) := by cases a <;> rfl
def anyIdx {α : Type} (q : α → Bool) : List α → Int → Int
  | [], _ => -1
  | x :: l, i => if q x then i else anyIdx q l (i + 1)
theorem z06r {α : Type} (q : α → Bool) : ∀ (l : List α) (i : Int), 0 ≤ i → (decide (0 ≤ anyIdx q l i)) = l.any q
  | [], i, _ => by simp [anyIdx]
  | x :: l, i, h => by
    by_cases hx : q x = true
    · simp [anyIdx, hx, h]
    · simp [anyIdx, hx, z06r q l (i + 1) (by omega)]
theorem z0sw (s : List Int) (hs : s.length ≤ SMALL) (p : Int → Option Bool) (q : Int → Bool) (hp : ∀ x ∈ s, p x = some (q x)) : z06y s p = some (anyIdx q s 0) := by
  unfold z06y
  have := scan0 s (by unfold SMALL at hs; omega) (z02h s p (s.length : Int) z0aq) (fun pre suf => some (anyIdx q suf pre.length))
    (fun n => by rw [z02h, if_neg (by simp)]; rfl)
    (fun n pre x suf hl hg hlt hok ih => by
      rw [z02h, if_pos (decide_eq_true hlt), hg, Option.bind_some, hp x (by rw [hl]; simp), Option.bind_some, z008 hok, ih, anyIdx]
      by_cases hx : q x = true
      · rw [if_pos hx, if_pos hx]
      · rw [if_neg hx, if_neg hx]; simp)
  simpa using this
theorem z0dm (s : List Int) (hs : s.length ≤ SMALL) (p : Int → Option Bool) (q : Int → Bool) (hp : ∀ x ∈ s, p x = some (q x)) : z039 s p = some (s.any q) := by
  unfold z039
  rw [z0sw s hs p q hp, Option.bind_some, z06r q s 0 (Int.le_refl _)]
theorem z0j4 (s : List GTask) (hs : s.length ≤ SMALL) (p : GTask → Option Bool) (q : GTask → Bool) (hp : ∀ x ∈ s, p x = some (q x)) : z03n s p = some (anyIdx q s 0) := by
  unfold z03n
  have := scan0 s (by unfold SMALL at hs; omega) (z011 s p (s.length : Int) z06f) (fun pre suf => some (anyIdx q suf pre.length))
    (fun n => by rw [z011, if_neg (by simp)]; rfl)
    (fun n pre x suf hl hg hlt hok ih => by
      rw [z011, if_pos (decide_eq_true hlt), hg, Option.bind_some, hp x (by rw [hl]; simp), Option.bind_some, z008 hok, ih, anyIdx]
      by_cases hx : q x = true
      · rw [if_pos hx, if_pos hx]
      · rw [if_neg hx, if_neg hx]; simp)
  simpa using this
theorem z0f1 (s : List GTask) (hs : s.length ≤ SMALL) (p : GTask → Option Bool) (q : GTask → Bool) (hp : ∀ x ∈ s, p x = some (q x)) : z02p s p = some (s.any q) := by
  unfold z02p
  rw [z0j4 s hs p q hp, Option.bind_some, z06r q s 0 (Int.le_refl _)]
theorem z114 (s : List Int) (hs : s.length ≤ SMALL) (v : Int) : z0gi s v = some (anyIdx (fun x => decide (v = x)) s 0) := by
  unfold z0gi
  have := scan0 s (by unfold SMALL at hs; omega) (z04l s v (s.length : Int) z0ib) (fun pre suf => some (anyIdx (fun x => decide (v = x)) suf pre.length))
    (fun n => by rw [z04l, if_neg (by simp)]; rfl)
    (fun n pre x suf hl hg hlt hok ih => by
      rw [z04l, if_pos (decide_eq_true hlt), hg, Option.bind_some, z008 hok, ih, anyIdx]
      by_cases hx : decide (v = x) = true
      · rw [if_pos hx, if_pos hx]
      · rw [if_neg hx, if_neg hx]; simp)
  simpa using this
theorem z0tv (s : List Int) (hs : s.length ≤ SMALL) (v : Int) : z08e s v = some (s.any (fun x => decide (v = x))) := by
  unfold z08e
  rw [z114 s hs, Option.bind_some, z06r _ s 0 (Int.le_refl _)]
def datOk (l : List Int) : Bool := decide (l.length = 3) && l.all (fun x => inB x (-99) 99)
theorem z0b2 (l : List Int) (hl : l.length ≤ SMALL) : z03b l = some (datOk l) := by
  unfold z03b datOk
  have := scan0 l (by unfold SMALL at hl; omega) (z02y l z0ce) (fun _ suf => some (suf.all (fun x => inB x (-99) 99)))
    (fun n => by rw [z02y, if_neg (by simp)]; rfl)
    (fun n pre x suf hl hg hlt hok ih => by
      rw [z02y, if_pos (decide_eq_true hlt), hg, Option.bind_some, z03d, Option.bind_some, z008 hok, ih, iteB, List.all_cons])
  rw [this]
  rw [iteB]
  congr 2
  exact decide_eq_decide.2 (by omega)
theorem z0hv (n : Int) : z047 n = some (inB n (-99) 99) := by unfold z047; rw [z0cc]; rfl
theorem z0f4 {α : Type} (l : List α) (q : α → Bool) : (!l.any (fun x => !q x)) = l.all q := by
  induction l with
  | nil => rfl
  | cons x l ih => rw [List.any_cons, List.all_cons, ← ih]; cases q x <;> simp
theorem z0ht (l : List Int) (hl : l.length ≤ SMALL) : z04m l = some (datOk l) := by
  unfold z04m datOk
  rw [z0dm l hl _ (fun n => !inB n (-99) 99) (fun x _ => by unfold z08f; rw [z0hv]; rfl), Option.bind_some, z0f4, iteB]
  congr 2
  exact decide_eq_decide.2 (by omega)
def expOk (e : GAsk) : Bool := bif decide (e.op = 0) then decide (e.var = 0) && decide (e.k = 0) else inB e.op 1 3 && inB e.var 0 2 && inB e.k (-99) 99
theorem z0pg (e : GAsk) : z04p e = some (expOk e) := by
  unfold z04p expOk
  simp only [z03d, Option.bind_some, iteB]
  by_cases h : e.op = 0
  · simp [h]
  · simp [h, Bool.and_assoc]
theorem z0ur (e : GAsk) : z06h e = some (expOk e) := by
  unfold z06h expOk
  simp only [z0cc, z0hv, Option.bind_some, iteB]
  by_cases h : e.op = 0
  · simp [h]
  · simp [h, Bool.and_assoc]
end Go.Am.Pl
end
section
set_option maxRecDepth 100000
set_option linter.unusedVariables false
set_option linter.unusedSimpArgs false
namespace Go.Am.Pl
open Go
def asc (high : Int) : Int → List Int → Bool
  | _, [] => true
  | p, x :: l => inB x (p + 1) high && asc high x l
def ascS (low high : Int) : Option Int → List Int → Bool
  | _, [] => true
  | p, x :: l => inB x low high && (p.all (fun y => decide (y < x)) && ascS low high (some x) l)
theorem z0u7 (low high : Int) : ∀ (l : List Int) (p : Option Int), (∀ y, p = some y → low ≤ y) → ascS low high p l = asc high (p.getD (low - 1)) l
  | [], p, _ => rfl
  | x :: l, p, h => by
    simp only [ascS, asc]
    by_cases hx : low ≤ x
    · rw [z0u7 low high l (some x) (fun y hy => by cases hy; exact hx), ← Bool.and_assoc]
      congr 1
      cases p with
      | none => simp [inB]
      | some y => have := h y rfl; rw [Bool.eq_iff_iff]; simp [inB]; omega
    · have h1 : inB x low high = false := by simp [inB]; omega
      have h2 : inB x (p.getD (low - 1) + 1) high = false := by
        cases p with
        | none => simp [inB]; omega
        | some y => have := h y rfl; simp [inB]; omega
      rw [h1, h2]; rfl
theorem z0y9 (high : Int) : ∀ (l : List Int) (p : Int), p ≤ high → asc high p l = true → (l.length : Int) ≤ high - p
  | [], p, h, _ => by simp; omega
  | x :: l, p, h, ha => by
    simp only [asc, Bool.and_eq_true, inB, decide_eq_true_eq] at ha
    have := z0y9 high l x ha.1.2 ha.2
    simp only [List.length_cons]; omega
theorem z0wy {α : Type} (pre : List α) (y : α) (suf : List α) : getI (pre ++ y :: suf) ((((pre ++ [y]).length : Nat) : Int) - 1) = some y := by
  have : ((((pre ++ [y]).length : Nat) : Int) - 1) = (pre.length : Int) := by simp
  rw [this]; exact z0qf pre y suf
theorem z0ix (l : List Int) (least most low high : Int) (hl : l.length ≤ SMALL) : z04c l least most low high = some (inB l.length least most && asc high (low - 1) l) := by
  unfold z04c
  have := scan0 l (by unfold SMALL at hl; omega) (z01f l low high z09b) (fun pre suf => some (ascS low high pre.getLast? suf))
    (fun n => by rw [z01f, if_neg (by simp)]; rfl)
    (fun n pre x suf hl hg hlt hok ih => by
      rw [z01f, if_pos (decide_eq_true hlt), hg]
      simp only [Option.bind_some, z03d, z008 hok, ih]
      rw [ascS]
      by_cases hx : inB x low high = true
      · rw [if_pos hx, hx, Bool.true_and]
        rcases List.eq_nil_or_concat pre with rfl | ⟨pre', y, rfl⟩
        · simp
        · simp only [List.concat_eq_append] at hl hlt hg hok ih ⊢
          have h1 : (((pre' ++ [y]).length : Nat) : Int) = (pre'.length : Int) + 1 := by simp
          have h2 : getI l ((((pre' ++ [y]).length : Nat) : Int) - 1) = some y := by rw [hl, List.append_assoc]; exact z0wy pre' y _
          rw [if_pos (decide_eq_true (by omega)), z008 (by constructor <;> omega), h2]
          simp only [Option.bind_some]
          by_cases hy : x ≤ y
          · rw [if_pos (decide_eq_true hy)]; simp; omega
          · rw [if_neg (by simpa using hy)]; simp; omega
      · rw [if_neg hx, Bool.eq_false_iff.2 hx]; rfl)
  rw [this, z03d, Option.bind_some, iteB, z0u7 low high l _ (fun y hy => by simp at hy)]
  rfl
theorem z0iw (l : List Int) (k : Int) (hl : l.length ≤ SMALL) : z04q l k = some (l.any (fun x => decide (x = k))) := by
  unfold z04q
  exact scan0 l (by unfold SMALL at hl; omega) (z032 l k z0ci) (fun _ suf => some (suf.any (fun x => decide (x = k))))
    (fun n => by rw [z032, if_neg (by simp)]; rfl)
    (fun n pre x suf hl hg hlt hok ih => by
      rw [z032, if_pos (decide_eq_true hlt), hg, Option.bind_some, z008 hok, ih, List.any_cons]
      by_cases hx : x = k <;> simp [hx])
def ascW (high : Int) (w : List Int) : Int → List Int → Bool
  | _, [] => true
  | p, x :: l => inB x (p + 1) high && (!w.any (fun y => decide (x = y)) && ascW high w x l)
theorem z0pp (high : Int) (w : List Int) : ∀ (l : List Int) (p : Int), ascW high w p l = (asc high p l && !l.any (fun x => w.any (fun y => decide (x = y))))
  | [], p => rfl
  | x :: l, p => by
    simp only [ascW, asc, List.any_cons, z0pp high w l x]
    cases inB x (p + 1) high <;> cases w.any (fun y => decide (x = y)) <;> cases asc high x l <;> cases l.any (fun x => w.any (fun y => decide (x = y))) <;> rfl
theorem z0hu (l : List Int) (places : Int) (w : List Int) (hl : l.length ≤ SMALL) (hw : w.length ≤ SMALL) (hp : 0 ≤ places ∧ places ≤ 100) :
    z046 l places w = some (ascW (places - 1) w (-1) l) := by
  unfold z046
  have := scan l (by unfold SMALL at hl; omega) (fun n i s => z021 l places w (l.length : Int) z093 n i s) (fun _ suf s => some (ascW (places - 1) w s suf)) (fun _ s => -1 ≤ s ∧ s ≤ 100)
    (fun n s _ => by rw [z021, if_neg (by simp)]; rfl)
    (fun n pre x suf s hl hg hlt hok hi ih => by
      rw [z021, if_pos (decide_eq_true hlt), hg, Option.bind_some, z008 (by constructor <;> omega), z008 (by constructor <;> omega), z0cc, Option.bind_some, z0tv w hw, Option.bind_some, z008 hok, ascW]
      by_cases hx : inB x (s + 1) (places - 1) = true
      · have hx' : s + 1 ≤ x ∧ x ≤ places - 1 := by simpa [inB] using hx
        rw [if_pos hx, hx, Bool.true_and, ih x ⟨by omega, by omega⟩, iteN]
      · rw [if_neg hx, Bool.eq_false_iff.2 hx]; rfl) FUEL (-1) ⟨by omega, by omega⟩ (by have := z04g; unfold SMALL at hl; omega)
  exact this
theorem z09c {α : Type} {l : List α} (h : l.length ≤ SMALL) : ok64 ((l.length : Int) - 1) := by unfold SMALL at h; constructor <;> omega
theorem ok_pl {places : Int} (hp : 0 ≤ places ∧ places ≤ 100) : ok64 (places - 1) := by constructor <;> omega
def flowsB (t : GTask) (places : Int) : List GFlow → List GFlow → Bool
  | _, [] => true
  | pre, x :: suf => inB x.to 1 (places - 1) && (expOk x.if_ && (((decide (t.split = 1) || suf.isEmpty) == decide (x.if_.op = 0)) && (!pre.any (fun y => decide (y.to = x.to)) && flowsB t places (pre ++ [x]) suf)))
theorem z0wz {α : Type} {l pre suf : List α} {k : Int} {x : α} (hl : l = pre ++ suf) (h : getI pre k = some x) : getI l k = some x := by
  obtain ⟨h0, h1, h2⟩ := z086 h
  unfold getI; rw [if_pos h0, hl, List.getElem?_append_left h1]; exact h2
theorem z0n8 (t : GTask) (pre suf : List GFlow) (hl : t.out = pre ++ suf) (hs : t.out.length ≤ SMALL) (x : GFlow) (i : Int) (hi : i = pre.length) (kx : Option Bool) :
    z00y t i x kx FUEL 0 = if (pre.any fun y => decide (y.to = x.to)) = true then some false else kx := by
  subst hi
  have hp : pre.length ≤ 4611686018427387000 := by have := congrArg List.length hl; simp at this; unfold SMALL at hs; omega
  exact scan0 pre hp (z00y t pre.length x kx) (fun _ suf => if (suf.any fun y => decide (y.to = x.to)) = true then some false else kx)
    (fun n => by rw [z00y, if_neg (by simp)]; rfl)
    (fun n p y s hl' hg hlt hok ih => by
      rw [z00y, if_pos (decide_eq_true hlt), z0wz hl hg, Option.bind_some, z008 hok, ih, List.any_cons]
      by_cases hx : y.to = x.to <;> simp [hx])
theorem z0hw {α : Type} {l pre suf : List α} {x : α} (h : l = pre ++ x :: suf) : (decide ((pre.length : Int) = (l.length : Int) - 1)) = suf.isEmpty := by
  rw [h]
  cases suf with
  | nil => simp
  | cons y s => simp; omega
theorem z0rh (t : GTask) (places : Int) (hs : t.out.length ≤ SMALL) (hp : 0 ≤ places ∧ places ≤ 100) : z062 t places = some (inB t.out.length 1 3 && flowsB t places [] t.out) := by
  unfold z062
  have := scan0 t.out (by unfold SMALL at hs; omega) (z01e t places z09a) (fun pre suf => some (flowsB t places pre suf))
    (fun n => by rw [z01e, if_neg (by simp)]; rfl)
    (fun n pre x suf hl hg hlt hok ih => by
      rw [z01e, if_pos (decide_eq_true hlt), hg, Option.bind_some, z008 (z09c hs), z0hw hl, flowsB]
      simp only [z008 (ok_pl hp), z03d, z0pg, Option.bind_some, z0n8 t pre _ hl hs x _ rfl, z098, z099, z008 hok, ih]
      cases suf.isEmpty <;> cases inB x.to 1 (places - 1) <;> cases expOk x.if_ <;> cases decide (x.if_.op = 0) <;> cases decide (t.split = 1) <;> cases (pre.any fun y => decide (y.to = x.to)) <;> simp)
  rw [this, z03d, Option.bind_some, iteB]
theorem z0ut (t : GTask) (places : Int) (hs : t.out.length ≤ SMALL) (hp : 0 ≤ places ∧ places ≤ 100) : z02s t places = some (flowsB t places [] t.out && inB t.out.length 1 3) := by
  unfold z02s
  have := scan t.out (by unfold SMALL at hs; omega) (fun n i s => z00g t places t.out (t.out.length : Int) (z034 t) n i s) (fun pre suf _ => some (flowsB t places pre suf && inB t.out.length 1 3)) (fun pre s => ∀ k, k ∈ s ↔ k = 0 ∨ ∃ y ∈ pre, y.to = k)
    (fun n s _ => by rw [z00g, if_neg (by simp), z034, z0cc]; rfl)
    (fun n pre x suf s hl hg hlt hok hi ih => by
      have ih' := ih (insKey s x.to) (by
        intro k
        simp only [List.mem_append, List.mem_singleton]
        unfold insKey
        split
        · rename_i hin
          rw [hi k]
          constructor
          · rintro (h | ⟨y, hy, h⟩)
            · exact .inl h
            · exact .inr ⟨y, .inl hy, h⟩
          · rintro (h | ⟨y, hy | hy, h⟩)
            · exact .inl h
            · exact .inr ⟨y, hy, h⟩
            · subst hy; rw [← h]; exact (hi _).1 hin
        · rw [List.mem_append, List.mem_singleton, hi k]
          constructor
          · rintro ((h | ⟨y, hy, h⟩) | h)
            · exact .inl h
            · exact .inr ⟨y, .inl hy, h⟩
            · exact .inr ⟨x, .inr rfl, h.symm⟩
          · rintro (h | ⟨y, hy | hy, h⟩)
            · exact .inl (.inl h)
            · exact .inl (.inr ⟨y, hy, h⟩)
            · subst hy; exact .inr h.symm)
      rw [z00g, if_pos (decide_eq_true hlt), hg, Option.bind_some, z0hw hl, flowsB]
      simp only [z008 (z09c hs), z008 (ok_pl hp), z0cc, z0ur, Option.bind_some, z008 hok, ih']
      have hin : (decide (x.to ∈ s)) = (decide (x.to = 0) || pre.any fun y => decide (y.to = x.to)) := by
        rw [Bool.eq_iff_iff]; simp [hi x.to]
      rw [hin]
      have h01 : inB x.to 0 (places - 1) = (inB x.to 1 (places - 1) || (decide (x.to = 0) && decide (0 ≤ places - 1))) := by rw [Bool.eq_iff_iff]; simp [inB]; omega
      have h02 : x.to = 0 → inB x.to 1 (places - 1) = false := by intro h; simp [inB, h]
      rw [h01]
      by_cases hz : x.to = 0
      · rw [h02 hz]; simp [hz]
      · simp only [hz, decide_false, Bool.false_and, Bool.or_false, Bool.false_or]
        cases suf.isEmpty <;> cases inB x.to 1 (places - 1) <;> cases expOk x.if_ <;> cases decide (x.if_.op = 0) <;> by_cases hsp : t.split = 1 <;> cases (pre.any fun y => decide (y.to = x.to)) <;> simp [hsp]) FUEL (insKey [] 0) (by intro k; simp [insKey]) (by have := z04g; unfold SMALL at hs; omega)
  exact this
def taskB (t : GTask) (places tasks : Int) : Bool :=
  inB t.join 1 3 && (inB t.split 1 3 && ((inB t.in_.length 1 3 && asc (places - 1) (-1) t.in_) && (!t.in_.any (fun x => decide (x = 1)) && ((inB t.out.length 1 3 && flowsB t places [] t.out) &&
    ((inB t.clear.length 0 places && asc (places - 1) 1 t.clear) && (inB t.role 1 3 && (inB t.apart (-1) (tasks - 1) && (inB t.all 1 3 && inB t.need 1 t.all))))))))
end Go.Am.Pl
namespace Go.Am
def GTask.small (t : GTask) : Prop := t.in_.length ≤ SMALL ∧ t.out.length ≤ SMALL ∧ t.clear.length ≤ SMALL
end Go.Am
namespace Go.Am.Pl
theorem z0tm (t : GTask) (places tasks : Int) (hs : t.small) (hp : 0 ≤ places ∧ places ≤ 100) (ht : 0 ≤ tasks ∧ tasks ≤ SMALL) : z077 t places tasks = some (taskB t places tasks) := by
  obtain ⟨h1, h2, h3⟩ := hs
  unfold z077 taskB
  have ht' : ok64 (tasks - 1) := by unfold SMALL at ht; constructor <;> omega
  simp only [z03d, Option.bind_some, z008 (ok_pl hp), z008 ht', z0ix _ _ _ _ _ h1, z0ix _ _ _ _ _ h3, z0iw _ _ h1, z0rh t places h2 hp, iteB, iteN]
  rfl
theorem z0zs (places : Int) (hp : 0 ≤ places) (l : List Int) : ascW (places - 1) [0, 1] (-1) l = (inB l.length 0 places && asc (places - 1) 1 l) := by
  rw [z0pp]
  have key : ∀ (l : List Int) (p : Int), 1 ≤ p → (asc (places - 1) p l && !l.any (fun x => [0, 1].any (fun y => decide (x = y)))) = asc (places - 1) p l := by
    intro l
    induction l with
    | nil => intro p _; rfl
    | cons x l ih =>
      intro p hp'
      by_cases hx : inB x (p + 1) (places - 1) = true
      · have hx' : p + 1 ≤ x := by simp [inB] at hx; omega
        have h01 : ([0, 1].any fun y => decide (x = y)) = false := by simp; omega
        simp only [asc, hx, Bool.true_and, List.any_cons (l := l), h01, Bool.false_or]
        exact ih x (by omega)
      · simp only [asc, Bool.eq_false_iff.2 hx, Bool.false_and]
  cases l with
  | nil => simp [asc, inB]; exact hp
  | cons x l =>
    by_cases hx : inB x 2 (places - 1) = true
    · have hx' : 2 ≤ x ∧ x ≤ places - 1 := by simpa [inB] using hx
      have h01 : ([0, 1].any fun y => decide (x = y)) = false := by simp; omega
      have h1 : inB x (-1 + 1) (places - 1) = true := by simp [inB]; omega
      have h2 : inB x (1 + 1) (places - 1) = true := by simp [inB]; omega
      simp only [asc, h1, h2, Bool.true_and, List.any_cons (l := l), h01, Bool.false_or, key l x (by omega)]
      cases ha : asc (places - 1) x l with
      | false => simp
      | true =>
        have := z0y9 (places - 1) l x (by omega) ha
        simp [inB]; omega
    · have h2 : inB x (1 + 1) (places - 1) = false := Bool.eq_false_iff.2 hx
      simp only [asc, h2, Bool.false_and, Bool.and_false]
      by_cases h1 : inB x (-1 + 1) (places - 1) = true
      · have h01 : ([0, 1].any fun y => decide (x = y)) = true := by simp [inB] at hx h1 ⊢; omega
        simp only [List.any_cons (l := l), h01, Bool.true_or, Bool.not_true, Bool.and_false]
      · rw [Bool.eq_false_iff.2 h1]; rfl
theorem in_eq (places : Int) (l : List Int) : ascW (places - 1) [1] (-1) l = (asc (places - 1) (-1) l && !l.any (fun x => decide (x = 1))) := by
  rw [z0pp]; simp
theorem z11w (t : GTask) (places tasks : Int) (hs : t.small) (hp : 0 ≤ places ∧ places ≤ 100) (ht : 0 ≤ tasks ∧ tasks ≤ SMALL) : z03o t places tasks = some (taskB t places tasks) := by
  obtain ⟨h1, h2, h3⟩ := hs
  unfold z03o taskB
  have ht' : ok64 (tasks - 1) := by unfold SMALL at ht; constructor <;> omega
  simp only [z06z, z0ar, z0cc, Option.bind_some, z008 ht', z0hu _ _ [1] h1 (by unfold SMALL; decide) hp, z0hu _ _ [0, 1] h3 (by unfold SMALL; decide) hp, z0ut t places h2 hp, iteB, in_eq, z0zs places hp.1]
  congr 1
  generalize inB t.join 1 3 = a; generalize inB t.split 1 3 = b; generalize inB t.in_.length 1 3 = c; generalize asc (places - 1) (-1) t.in_ = d; generalize t.in_.any (fun x => decide (x = 1)) = e
  generalize flowsB t places [] t.out = f; generalize inB t.out.length 1 3 = g; generalize (inB t.clear.length 0 places && asc (places - 1) 1 t.clear) = h
  cases a <;> cases b <;> cases c <;> cases d <;> cases e <;> cases f <;> cases g <;> simp
def netB (n : GNet) : Bool := inB n.places 2 8 && (inB n.tasks.length 1 6 && n.tasks.all (fun t => taskB t n.places n.tasks.length))
end Go.Am.Pl
namespace Go.Am
def GNet.small (n : GNet) : Prop := n.tasks.length ≤ SMALL ∧ ∀ t ∈ n.tasks, t.small
end Go.Am
namespace Go.Am.Pl
theorem z0er (n : GNet) (hs : n.small) : z01z n = some (netB n) := by
  unfold z01z netB
  simp only [z03d, Option.bind_some]
  by_cases hp : inB n.places 2 8 = true
  · have hp' : 0 ≤ n.places ∧ n.places ≤ 100 := by simp [inB] at hp; omega
    have := scan0 n.tasks (by have := hs.1; unfold SMALL at this; omega) (z030 n z0cg) (fun _ suf => some (suf.all (fun t => taskB t n.places n.tasks.length)))
      (fun k => by rw [z030, if_neg (by simp)]; rfl)
      (fun k pre x suf hl hg hlt hok ih => by
        rw [z030, if_pos (decide_eq_true hlt), hg, Option.bind_some, z0tm x _ _ (hs.2 x (by rw [hl]; simp)) hp' ⟨by omega, by exact_mod_cast hs.1⟩, Option.bind_some, z008 hok, ih, iteB, List.all_cons])
    rw [this, if_pos hp, hp, iteB, Bool.true_and]
  · rw [if_neg hp, Bool.eq_false_iff.2 hp]; rfl
theorem z0us (n : GNet) (hs : n.small) : z08g n = some (netB n) := by
  unfold z08g netB z08i
  simp only [z0cc, Option.bind_some, iteB]
  by_cases hp : inB n.places 2 8 = true
  · have hp' : 0 ≤ n.places ∧ n.places ≤ 100 := by simp [inB] at hp; omega
    rw [z0f1 n.tasks hs.1 _ (fun t => !taskB t n.places n.tasks.length) (fun t ht => by
      unfold z08h; rw [z11w t _ _ (hs.2 t ht) hp' ⟨by omega, by exact_mod_cast hs.1⟩]; rfl), Option.bind_some, z0f4, iteB, hp]
    rfl
  · rw [Bool.eq_false_iff.2 hp]; rfl
end Go.Am.Pl
end
section
set_option maxRecDepth 100000
set_option linter.unusedVariables false
set_option linter.unusedSimpArgs false
namespace Go.Am.Pl
open Go
deriving instance Inhabited for GAsk, GFlow, GTask, GNet, GItem, GDid, GCase, GNode, GRun, GHouse, GReq
theorem z0s5 {α : Type} (l : List α) {i : Int} (h0 : 0 ≤ i) (h1 : i < l.length) : ∃ x, getI l i = some x ∧ x ∈ l := by
  obtain ⟨n, rfl⟩ := Int.eq_ofNat_of_zero_le h0
  have hn : n < l.length := by omega
  exact ⟨l[n], by rw [z085, List.getElem?_eq_getElem hn], List.getElem_mem hn⟩
def atI {α : Type} [Inhabited α] (l : List α) (i : Int) : α := (getI l i).getD default
theorem z03i {α : Type} [Inhabited α] (l : List α) {i : Int} (h0 : 0 ≤ i) (h1 : i < l.length) : getI l i = some (atI l i) := by
  obtain ⟨x, hx, _⟩ := z0s5 l h0 h1
  unfold atI; rw [hx]; rfl
theorem z0a2 {α : Type} [Inhabited α] (l : List α) {i : Int} (h0 : 0 ≤ i) (h1 : i < l.length) : atI l i ∈ l := by
  obtain ⟨x, hx, hm⟩ := z0s5 l h0 h1
  unfold atI; rw [hx]; exact hm
theorem z02t {n a b : Int} : inB n a b = true ↔ a ≤ n ∧ n ≤ b := by simp [inB]
def expHolds (e : GAsk) (data : List Int) : Bool :=
  expOk e && (datOk data && (bif decide (e.op = 1) then decide (atI data e.var < e.k) else bif decide (e.op = 2) then decide (atI data e.var = e.k) else bif decide (e.op = 3) then decide (e.k < atI data e.var) else true))
theorem z0wq {e : GAsk} {data : List Int} (h : expOk e = true) (hd : datOk data = true) : e.op = 0 ∨ getI data e.var = some (atI data e.var) := by
  by_cases h0 : e.op = 0
  · exact .inl h0
  · right
    simp [expOk, h0, inB] at h
    simp [datOk] at hd
    exact z03i data (by omega) (by omega)
theorem z0pf (e : GAsk) (data : List Int) (hl : data.length ≤ SMALL) : z04z e data = some (expHolds e data) := by
  unfold z04z expHolds
  rw [z0pg, Option.bind_some, z0b2 data hl]
  by_cases h1 : expOk e = true
  · by_cases h2 : datOk data = true
    · rcases z0wq h1 h2 with h | h
      · simp [h1, h2, h]
      · rw [if_pos h1, Option.bind_some, if_pos h2, h1, h2, h]
        by_cases a : e.op = 1 <;> by_cases b : e.op = 2 <;> by_cases c : e.op = 3 <;> simp [a, b, c]
    · simp [h1, Bool.eq_false_iff.2 h2]
  · simp [Bool.eq_false_iff.2 h1]
def marksB (n : GNet) (m : List Int) : Bool := decide ((m.length : Int) = n.places) && m.all (fun x => inB x 0 4)
def mrkB (n : GNet) (m : List Int) : Bool := netB n && marksB n m
theorem z0eq (n : GNet) (m : List Int) (hn : n.small) (hm : m.length ≤ SMALL) : z03x n m = some (mrkB n m) := by
  unfold z03x mrkB marksB
  have := scan0 m (by unfold SMALL at hm; omega) (z02z m z0cf) (fun _ suf => some (suf.all (fun x => inB x 0 4)))
    (fun k => by rw [z02z, if_neg (by simp)]; rfl)
    (fun k pre x suf hl hg hlt hok ih => by
      rw [z02z, if_pos (decide_eq_true hlt), hg, Option.bind_some, z03d, Option.bind_some, z008 hok, ih, iteB, List.all_cons])
  rw [this, z0er n hn, Option.bind_some, iteB, iteB]
theorem z0qi (n : GNet) (m : List Int) (hm : m.length ≤ SMALL) : z02f n m = some (marksB n m) := by
  unfold z02f marksB
  rw [z0dm m hm _ (fun x => !inB x 0 4) (fun x _ => by unfold z033; rw [z0cc]; rfl), Option.bind_some, z0f4, iteB]
theorem z0oh (n : GNet) (m : List Int) (hn : n.small) (hm : m.length ≤ SMALL) : z06i n m = some (mrkB n m) := by
  unfold z06i mrkB
  rw [z0us n hn, Option.bind_some, z0qi n m hm, Option.bind_some, iteB]
def pplB (p : List Int) : Bool := inB p.length 1 4 && p.all (fun x => inB x 0 7)
theorem z0ph (m : List Int) (hm : m.length ≤ SMALL) : z06k m = some (pplB m) := by
  unfold z06k pplB
  have := scan0 m (by unfold SMALL at hm; omega) (z031 m z0ch) (fun _ suf => some (suf.all (fun x => inB x 0 7)))
    (fun k => by rw [z031, if_neg (by simp)]; rfl)
    (fun k pre x suf hl hg hlt hok ih => by
      rw [z031, if_pos (decide_eq_true hlt), hg, Option.bind_some, z03d, Option.bind_some, z008 hok, ih, iteB, List.all_cons])
  rw [this, z03d, Option.bind_some, iteB]
def itemB (n : GNet) (b : GItem) : Bool := inB b.task 0 ((n.tasks.length : Int) - 1) && (inB b.who 1 4 && inB b.did 0 ((atI n.tasks b.task).need - 1))
def busyB (n : GNet) (busy : List GItem) : Bool := decide ((busy.length : Int) ≤ 6) && busy.all (itemB n)
theorem z0sh {n : GNet} (h : netB n = true) {t : GTask} (ht : t ∈ n.tasks) : 1 ≤ t.need ∧ t.need ≤ 3 := by
  simp only [netB, Bool.and_eq_true, List.all_eq_true] at h
  have := h.2.2 t ht
  simp only [taskB, Bool.and_eq_true, z02t] at this
  omega
theorem z0km (n : GNet) (busy : List GItem) (hn : n.small) (hb : busy.length ≤ SMALL) (ho : netB n = true) : z05c n busy = some (busyB n busy) := by
  unfold z05c busyB
  have := scan0 busy (by unfold SMALL at hb; omega) (z02m n busy z0ax) (fun _ suf => some (suf.all (itemB n)))
    (fun k => by rw [z02m, if_neg (by simp)]; rfl)
    (fun k pre x suf hl hg hlt hok ih => by
      rw [z02m, if_pos (decide_eq_true hlt), hg]
      simp only [Option.bind_some, z008 (z09c hn.1), z03d, List.all_cons, itemB]
      by_cases h1 : inB x.task 0 ((n.tasks.length : Int) - 1) = true
      · have h1' := z02t.1 h1
        have hmem := z0a2 n.tasks h1'.1 (by omega)
        have hneed := z0sh ho hmem
        rw [if_pos h1, z03i n.tasks h1'.1 (by omega), Option.bind_some, z008 (by constructor <;> omega), z008 hok, ih, h1]
        cases inB x.who 1 4 <;> cases inB x.did 0 ((atI n.tasks x.task).need - 1) <;> simp
      · rw [if_neg h1, Bool.eq_false_iff.2 h1]; rfl)
  rw [this]
  by_cases h6 : 6 < (busy.length : Int)
  · rw [if_pos (decide_eq_true h6), decide_eq_false (by omega)]; rfl
  · rw [if_neg (by simpa using h6), decide_eq_true (by omega)]; rfl
theorem z0t4 (n : GNet) (busy : List GItem) (hn : n.small) (hb : busy.length ≤ SMALL) (ho : netB n = true) : z02r n busy = some (busyB n busy) := by
  unfold z02r busyB
  have := scan0 busy (by unfold SMALL at hb; omega) (z00n n busy (busy.length : Int) (z04h busy)) (fun _ suf => some (suf.all (itemB n) && decide ((busy.length : Int) ≤ 6)))
    (fun k => by rw [z00n, if_neg (by simp)]; rfl)
    (fun k pre x suf hl hg hlt hok ih => by
      rw [z00n, if_pos (decide_eq_true hlt), hg]
      simp only [z01h, z03j, Option.bind_some, z008 (z09c hn.1), z0cc, List.all_cons, itemB]
      by_cases h1 : inB x.task 0 ((n.tasks.length : Int) - 1) = true
      · have h1' := z02t.1 h1
        have hmem := z0a2 n.tasks h1'.1 (by omega)
        have hneed := z0sh ho hmem
        rw [if_pos h1, z03i n.tasks h1'.1 (by omega), Option.bind_some, z008 (by constructor <;> omega), z008 hok, ih, h1]
        cases inB x.who 1 4 <;> cases inB x.did 0 ((atI n.tasks x.task).need - 1) <;> simp
      · rw [if_neg h1, Bool.eq_false_iff.2 h1]; rfl)
  rw [this, Bool.and_comm]
def didB (n : GNet) (d : GDid) : Bool := inB d.task 0 ((n.tasks.length : Int) - 1) && inB d.who 1 4
def stateB (c : GCase) : Bool := bif decide (c.state = 1) then decide (atI c.marks 1 = 0) else decide ((c.busy.length : Int) = 0) && (decide (c.state = 2) == decide (0 < atI c.marks 1))
def casB (n : GNet) (c : GCase) : Bool := mrkB n c.marks && (busyB n c.busy && (datOk c.data && (!decide (60 < (c.did.length : Int)) && (inB c.state 1 3 && (c.did.all (didB n) && stateB c)))))
end Go.Am.Pl
namespace Go.Am
def GCase.small (c : GCase) : Prop := c.marks.length ≤ SMALL ∧ c.busy.length ≤ SMALL ∧ c.data.length ≤ SMALL ∧ c.did.length ≤ SMALL
end Go.Am
namespace Go.Am.Pl
theorem z0qm {n : GNet} {m : List Int} (h : mrkB n m = true) : netB n = true := by simp only [mrkB, Bool.and_eq_true] at h; exact h.1
theorem z0qn {n : GNet} {m : List Int} (h : mrkB n m = true) : getI m 1 = some (atI m 1) := by
  simp only [mrkB, netB, marksB, Bool.and_eq_true, z02t, decide_eq_true_eq] at h
  exact z03i m (by omega) (by omega)
theorem z0iv (n : GNet) (c : GCase) (hn : n.small) (hc : c.small) : z04n n c = some (casB n c) := by
  obtain ⟨hc1, hc2, hc3, hc4⟩ := hc
  unfold z04n casB
  rw [z0eq n c.marks hn hc1, Option.bind_some]
  by_cases h1 : mrkB n c.marks = true
  · have ho := z0qm h1
    have hk : z04y c = some (stateB c) := by
      unfold z04y stateB
      rw [z0qn h1]
      by_cases hs : c.state = 1
      · simp [hs]
      · by_cases hb : c.busy = [] <;> simp [hs, hb]
    have := scan0 c.did (by unfold SMALL at hc4; omega) (z02x n c (z04y c)) (fun _ suf => some (suf.all (didB n) && stateB c))
      (fun k => by rw [z02x, if_neg (by simp), hk]; rfl)
      (fun k pre x suf hl hg hlt hok ih => by
        rw [z02x, if_pos (decide_eq_true hlt), hg]
        simp only [Option.bind_some, z008 (z09c hn.1), z03d, List.all_cons, didB, z008 hok, ih]
        cases inB x.task 0 ((n.tasks.length : Int) - 1) <;> cases inB x.who 1 4 <;> simp)
    rw [if_pos h1, z0km n c.busy hn hc2 ho, Option.bind_some, z0b2 c.data hc3, Option.bind_some, z03d, Option.bind_some, this, h1]
    simp only [iteB, iteN]
    rfl
  · rw [if_neg h1, Bool.eq_false_iff.2 h1]; rfl
theorem z0og (n : GNet) (c : GCase) (hn : n.small) (hc : c.small) : z06g n c = some (casB n c) := by
  obtain ⟨hc1, hc2, hc3, hc4⟩ := hc
  unfold z06g casB
  rw [z0oh n c.marks hn hc1, Option.bind_some]
  by_cases h1 : mrkB n c.marks = true
  · have ho := z0qm h1
    have hk : z04x c = some (inB c.state 1 3 && stateB c) := by
      unfold z04x stateB
      rw [z0qn h1]
      by_cases hs : c.state = 1
      · simp [hs, inB]
      · by_cases hs2 : c.state = 2
        · by_cases hb : c.busy = [] <;> simp [hs2, hb, inB]
        · by_cases hs3 : c.state = 3
          · by_cases hb : c.busy = [] <;> simp [hs3, hb, inB]
          · have : inB c.state 1 3 = false := by simp [inB]; omega
            simp [hs, hs2, hs3, this]
    have := scan0 c.did (by unfold SMALL at hc4; omega) (z02v n c.did (c.did.length : Int) (z04x c)) (fun _ suf => some (suf.all (didB n) && (inB c.state 1 3 && stateB c)))
      (fun k => by rw [z02v, if_neg (by simp), hk]; rfl)
      (fun k pre x suf hl hg hlt hok ih => by
        rw [z02v, if_pos (decide_eq_true hlt), hg]
        simp only [z01h, z03j, Option.bind_some, z008 (z09c hn.1), z0cc, List.all_cons, didB, z008 hok, ih]
        cases inB x.task 0 ((n.tasks.length : Int) - 1) <;> cases inB x.who 1 4 <;> simp)
    rw [if_pos h1, z0t4 n c.busy hn hc2 ho, Option.bind_some, z0ht c.data hc3, Option.bind_some, this, h1]
    simp only [iteB, iteN]
    congr 1
    cases busyB n c.busy <;> cases datOk c.data <;> cases c.did.all (didB n) <;> cases inB c.state 1 3 <;> simp
  · rw [if_neg h1, Bool.eq_false_iff.2 h1]; rfl
end Go.Am.Pl
end
section
set_option maxRecDepth 100000
set_option linter.unusedVariables false
set_option linter.unusedSimpArgs false
namespace Go.Am.Pl
open Go
def Tot {α : Type} (o : Option α) (P : α → Prop) : Prop := ∃ v, o = some v ∧ P v
section
variable {α β : Type}
theorem Tot.pure {v : α} {P : α → Prop} (h : P v) : Tot (some v) P := ⟨v, rfl, h⟩
theorem Tot.bind {o : Option α} {P : α → Prop} (h : Tot o P) {f : α → Option β} {Q : β → Prop} (g : ∀ v, P v → Tot (f v) Q) : Tot (o.bind f) Q := by
  obtain ⟨v, rfl, hv⟩ := h; exact g v hv
theorem Tot.bindE {o : Option α} {v : α} (h : o = some v) {f : α → Option β} {Q : β → Prop} (g : Tot (f v) Q) : Tot (o.bind f) Q := by rw [h]; exact g
theorem Tot.gd {p : Prop} [Decidable p] {x : Option α} {Q : α → Prop} (h : p) (g : Tot x Q) : Tot (gd p x) Q := by rw [z008 h]; exact g
theorem Tot.ite {c : Prop} [Decidable c] {a b : Option α} {Q : α → Prop} (h1 : c → Tot a Q) (h2 : ¬ c → Tot b Q) : Tot (if c then a else b) Q := by
  split
  · exact h1 ‹_›
  · exact h2 ‹_›
theorem Tot.iteD {c : Prop} [Decidable c] {a b : Option α} {Q : α → Prop} (h1 : c → Tot a Q) (h2 : ¬ c → Tot b Q) : Tot (if decide c = true then a else b) Q :=
  Tot.ite (fun h => h1 (of_decide_eq_true h)) (fun h => h2 (fun x => h (decide_eq_true x)))
theorem Tot.iteN {c : Prop} [Decidable c] {a b : Option α} {Q : α → Prop} (h1 : ¬ c → Tot a Q) (h2 : c → Tot b Q) : Tot (if (!decide c) = true then a else b) Q :=
  Tot.ite (fun h => h1 (by simpa using h)) (fun h => h2 (by simpa using h))
theorem Tot.mono {o : Option α} {P Q : α → Prop} (h : Tot o P) (g : ∀ v, P v → Q v) : Tot o Q := by obtain ⟨v, e, hv⟩ := h; exact ⟨v, e, g v hv⟩
theorem Tot.getI {l : List α} {i : Int} (h0 : 0 ≤ i) (h1 : i < l.length) {f : α → Option β} {Q : β → Prop} (g : ∀ x, x ∈ l → getI l i = some x → Tot (f x) Q) : Tot ((getI l i).bind f) Q := by
  obtain ⟨x, hx, hm⟩ := z0s5 l h0 h1
  rw [hx]; exact g x hm hx
theorem Tot.loop {σ : Type} (I : σ → Prop) (mu : σ → Nat) (f : Nat → σ → Option β) {Q : β → Prop} (step : ∀ n s, I s → (∀ s', I s' → mu s' < mu s → Tot (f n s') Q) → Tot (f (n + 1) s) Q) : ∀ (k n : Nat) (s : σ), mu s ≤ k → k < n → I s → Tot (f n s) Q
  | 0, n, s, hm, hn, hi => by
    obtain ⟨m, rfl⟩ : ∃ m, n = m + 1 := ⟨n - 1, by omega⟩
    exact step m s hi fun s' _ h => absurd h (by omega)
  | k + 1, n, s, hm, hn, hi => by
    obtain ⟨m, rfl⟩ : ∃ m, n = m + 1 := ⟨n - 1, by omega⟩
    exact step m s hi fun s' hi' h => Tot.loop I mu f step k m s' (by omega) (by omega) hi'
theorem Tot.loopF {σ : Type} (I : σ → Prop) (mu : σ → Nat) (f : Nat → σ → Option β) {Q : β → Prop} (step : ∀ n s, I s → (∀ s', I s' → mu s' < mu s → Tot (f n s') Q) → Tot (f (n + 1) s) Q) (s : σ) (hm : mu s ≤ 1000000000000) (hi : I s) : Tot (f FUEL s) Q :=
  Tot.loop I mu f step _ FUEL s hm (by have := z04g; omega) hi
end
theorem z0yc {x : Int} (h : 0 ≤ x ∧ x < 4611686018427387904) : BitVec.ofInt 64 x = BitVec.ofNat 64 x.toNat := by
  obtain ⟨n, rfl⟩ := Int.eq_ofNat_of_zero_le h.1
  apply BitVec.eq_of_toNat_eq
  rw [BitVec.toNat_ofInt, BitVec.toNat_ofNat]
  omega
theorem z12n {x y : Int} (hx : 0 ≤ x ∧ x < 4611686018427387904) (hy : 0 ≤ y ∧ y < 4611686018427387904) : 0 ≤ xorI x y ∧ xorI x y < 4611686018427387904 := by
  unfold xorI
  rw [z0yc hx, z0yc hy, BitVec.toNat_xor, BitVec.toNat_ofNat, BitVec.toNat_ofNat]
  have h1 : x.toNat % 2 ^ 64 < 2 ^ 62 := by omega
  have h2 : y.toNat % 2 ^ 64 < 2 ^ 62 := by omega
  have := Nat.xor_lt_two_pow h1 h2
  rw [IntKind.wrap_i64]; omega
structure Rd (K : Int) (r : GRd) : Prop where
  byte : ∀ y ∈ r.b, 0 ≤ y ∧ y ≤ 255
  len : r.b.length ≤ 2000
  p0 : 0 ≤ r.p
  p1 : r.p ≤ K
theorem Rd.mono {K L : Int} {r : GRd} (h : Rd K r) (hl : K ≤ L) : Rd L r := ⟨h.byte, h.len, h.p0, Int.le_trans h.p1 hl⟩
end Go.Am.Pl
end
section
set_option maxRecDepth 100000
set_option maxHeartbeats 2000000
set_option linter.unusedVariables false
set_option linter.unusedSimpArgs false
namespace Go.Am.Pl
open Go
theorem Tot.bind2 {α β γ : Type} {o : Option (α × β)} {P : α × β → Prop} (h : Tot o P) {f : α × β → Option γ} {Q : γ → Prop} (g : ∀ a b, P (a, b) → Tot (f (a, b)) Q) : Tot (o.bind f) Q := by
  obtain ⟨⟨a, b⟩, rfl, hv⟩ := h; exact g a b hv
theorem z018 {K : Int} {r : GRd} {n : Int} (h : Rd K r) (hK : K ≤ 1000000000) : Tot (z005 r n) (fun v => (0 ≤ v.1 ∧ (1 ≤ n → v.1 < n)) ∧ Rd (K + 1) v.2) := by
  obtain ⟨hb, hl, h0, h1⟩ := h
  have R : Rd (K + 1) (GRd.mk r.b (r.p + 1)) := ⟨hb, hl, by show 0 ≤ r.p + 1; omega, by show r.p + 1 ≤ K + 1; omega⟩
  unfold z005
  refine Tot.gd (by constructor <;> omega) (Tot.iteD (fun c => Tot.pure ⟨⟨Int.le_refl _, fun h => absurd h (by omega)⟩, R⟩) (fun c => ?_))
  refine Tot.iteD (fun c => Tot.pure ⟨⟨Int.le_refl _, fun h => by show (0 : Int) < n; omega⟩, R⟩) (fun c2 => ?_)
  have mod : ∀ x : Int, 0 ≤ x → Tot (some (Int.tmod x n, GRd.mk r.b (r.p + 1))) (fun v => (0 ≤ v.1 ∧ (1 ≤ n → v.1 < n)) ∧ Rd (K + 1) v.2) := fun x hx =>
    Tot.pure ⟨⟨Int.tmod_nonneg _ hx, fun h => Int.tmod_lt_of_pos _ (by omega)⟩, R⟩
  refine Tot.gd (by constructor <;> omega) (Tot.iteD (fun c3 => ?_) (fun c3 => ?_))
  · refine Tot.getI (by omega) c3 (fun x hx _ => ?_)
    have := hb x hx
    exact Tot.gd (by constructor <;> omega) (Tot.gd (by omega) (mod x (by omega)))
  · have hlen : 0 < (r.b.length : Int) := by omega
    refine Tot.gd (by omega) (Tot.getI (Int.tmod_nonneg _ (by omega)) (Int.tmod_lt_of_pos _ hlen) (fun x hx _ => ?_))
    have hx := hb x hx
    refine Tot.gd (by constructor <;> omega) (Tot.gd (by constructor <;> omega) (Tot.gd (by constructor <;> omega) (Tot.gd (by constructor <;> omega) (Tot.gd (by omega) ?_))))
    refine Tot.getI (Int.tmod_nonneg _ (by omega)) (Int.tmod_lt_of_pos _ hlen) (fun y hy _ => ?_)
    have hy := hb y hy
    have hq : 0 ≤ Int.tdiv (r.p + 1 - 1) (r.b.length : Int) ∧ Int.tdiv (r.p + 1 - 1) (r.b.length : Int) ≤ r.p := by
      rw [Int.tdiv_eq_ediv_of_nonneg (by omega)]
      refine ⟨Int.ediv_nonneg (by omega) (by omega), Int.le_trans (Int.ediv_le_self _ (by omega)) (by omega)⟩
    generalize Int.tdiv (r.p + 1 - 1) (r.b.length : Int) = q at *
    refine Tot.gd (by constructor <;> omega) (Tot.gd (by constructor <;> omega) (Tot.gd (by constructor <;> omega) (Tot.gd (by constructor <;> omega) (Tot.gd (by constructor <;> omega) (Tot.gd ⟨by omega, by constructor <;> omega⟩ (Tot.gd (by constructor <;> omega) (Tot.gd (by constructor <;> omega) ?_)))))))
    generalize hs : x * 131 + y * 1117 + (r.p + 1 - 1) * 29 + q * 53 = s
    have hs0 : 0 ≤ s ∧ s ≤ 1000000000000 := by omega
    have hd : Int.tdiv s 64 = s / 64 := Int.tdiv_eq_ediv_of_nonneg (by omega)
    rw [hd]
    refine Tot.gd ⟨by omega, by constructor <;> omega⟩ (Tot.gd (by omega) (mod _ (z12n ⟨by omega, by omega⟩ ⟨by omega, by omega⟩).1))
theorem Rd.eta {K : Int} {r : GRd} (h : Rd K r) : Rd K (GRd.mk r.b r.p) := h
theorem z0ul {K : Int} {r : GRd} {n : Int} (h : Rd K r) (hK : K ≤ 900000000) : Tot (z04b r n) (fun v => v.1.length ≤ 4 ∧ Rd (K + 20) v.2) := by
  unfold z04b
  have key := Tot.loopF (Q := fun v : List Int × GRd => v.1.length ≤ 4 ∧ Rd (K + 20) v.2) (fun s : List Int × Int × Int × List Int => Rd (K + 2 * s.2.2.1) (GRd.mk s.1 s.2.1) ∧ 0 ≤ s.2.2.1 ∧ s.2.2.1 ≤ 3 ∧ (s.2.2.2.length : Int) = s.2.2.1) (fun s => (3 - s.2.2.1).toNat)
    (fun f s => z024 (z03s n) f s.1 s.2.1 s.2.2.1 s.2.2.2) (fun f s hi ih => ?_) (r.b, r.p, 0, []) (by dsimp only; omega) ⟨by dsimp only; exact h.eta.mono (by omega), by dsimp only; omega, by dsimp only; omega, rfl⟩
  · exact key
  obtain ⟨b0, p0, i, l⟩ := s
  obtain ⟨h1, h2, h3, h4⟩ := hi
  dsimp only at h1 h2 h3 h4 ⊢
  have ih' : ∀ b p i' l', Rd (K + 2 * i') (GRd.mk b p) → 0 ≤ i' → i' ≤ 3 → ((l' : List Int).length : Int) = i' → i < i' → Tot (z024 (z03s n) f b p i' l') (fun v => v.1.length ≤ 4 ∧ Rd (K + 20) v.2) :=
    fun b p i' l' g1 g2 g3 g4 g5 => ih (b, p, i', l') ⟨g1, g2, g3, g4⟩ (by dsimp only; omega)
  rw [z024]
  refine Tot.iteD (fun c => ?_) (fun c => ?_)
  · skip
    repeat' first
      | (refine Tot.bind2 (z018 (by assumption) (by omega)) ?_; intro a b h; dsimp only at h; obtain ⟨⟨_, _⟩, _⟩ := h; try dsimp only)
      | (refine Tot.gd (by first | omega | (constructor <;> omega) | (simp only [List.length_append, List.length_cons, List.length_nil, List.length_set, List.length_drop, SMALL]; omega)) ?_)
      | (refine Tot.getI (by omega) (by first | omega | (simp only [List.length_cons, List.length_nil, List.length_set, List.length_append]; omega)) ?_; intro x hx hg)
      | (refine Tot.iteD (fun _ => ?_) (fun _ => ?_))
      | (refine ih' _ _ _ _ (Rd.mono (by assumption) (by omega)) (by omega) (by omega) (by simp only [List.length_append, List.length_cons, List.length_nil]; omega) (by omega))
  · unfold z03s
    repeat' first
      | (refine Tot.bind2 (z018 (by assumption) (by omega)) ?_; intro a b h; dsimp only at h; obtain ⟨⟨_, _⟩, _⟩ := h; try dsimp only)
      | (refine Tot.gd (by first | omega | (constructor <;> omega) | (simp only [List.length_append, List.length_cons, List.length_nil, List.length_set, List.length_drop, SMALL]; omega)) ?_)
      | (refine Tot.getI (by omega) (by first | omega | (simp only [List.length_cons, List.length_nil, List.length_set, List.length_append]; omega)) ?_; intro x hx hg)
      | (refine Tot.iteD (fun _ => ?_) (fun _ => ?_))
      | exact Tot.pure ⟨by first | (dsimp only; omega) | (simp only [List.length_append, List.length_cons, List.length_nil, List.length_set, List.length_drop]; omega), Rd.mono (by assumption) (by omega)⟩
theorem z11a {K : Int} {r : GRd} {n : Int} (h : Rd K r) (hK : K ≤ 900000000) : Tot (z076 r n) (fun v => Rd (K + 20) v.2) := by
  unfold z076
  repeat' first
    | (refine Tot.bind2 (z018 (by assumption) (by omega)) ?_; intro a b h; dsimp only at h; obtain ⟨⟨_, _⟩, _⟩ := h; try dsimp only)
    | (refine Tot.gd (by first | omega | (constructor <;> omega) | (simp only [List.length_append, List.length_cons, List.length_nil, List.length_set, List.length_drop, SMALL]; omega)) ?_)
    | (refine Tot.getI (by omega) (by first | omega | (simp only [List.length_cons, List.length_nil, List.length_set, List.length_append]; omega)) ?_; intro x hx hg)
    | (refine Tot.iteD (fun _ => ?_) (fun _ => ?_))
    | exact Tot.pure (Rd.mono (by assumption) (by omega))
theorem z0pa {K : Int} {r : GRd} {n : Int} (h : Rd K r) (hK : K ≤ 900000000) : Tot (z03c r n) (fun v => v.1.length ≤ 5 ∧ Rd (K + 20) v.2) := by
  unfold z03c
  refine Tot.bind2 (z018 h (by omega)) ?_
  intro a b h1
  dsimp only at h1
  obtain ⟨⟨a0, a1⟩, hb⟩ := h1
  dsimp only
  refine Tot.getI (by omega) (by simp only [List.length_cons, List.length_nil]; omega) ?_
  intro l hl _
  have hl : 1 ≤ l.length ∧ l.length ≤ 4 := by
    simp only [List.mem_cons, List.not_mem_nil, or_false] at hl
    rcases hl with rfl | rfl | rfl | rfl | rfl <;> simp
  simp only [List.nil_append]
  repeat' first
    | (refine Tot.bind2 (z018 (by assumption) (by omega)) ?_; intro a b h; dsimp only at h; obtain ⟨⟨_, _⟩, _⟩ := h; try dsimp only)
    | (refine Tot.gd (by first | omega | (constructor <;> omega) | (simp only [List.length_append, List.length_cons, List.length_nil, List.length_set, List.length_drop, SMALL]; omega)) ?_)
    | (refine Tot.getI (by omega) (by first | omega | (simp only [List.length_cons, List.length_nil, List.length_set, List.length_append]; omega)) ?_; intro x hx hg)
    | (refine Tot.iteD (fun _ => ?_) (fun _ => ?_))
    | exact Tot.pure ⟨by first | (dsimp only; omega) | (simp only [List.length_append, List.length_cons, List.length_nil, List.length_set, List.length_drop]; omega), Rd.mono (by assumption) (by omega)⟩
theorem z0x3 {K : Int} {r : GRd} {p n : Int} (h : Rd K r) (hK : K ≤ 900000000) (hp : p ≤ 9) : Tot (z053 r p n) (fun v => v.1.length ≤ 10 ∧ Rd (K + 20) v.2) := by
  unfold z053
  have key := Tot.loopF (Q := fun v : List Int × GRd => v.1.length ≤ 10 ∧ Rd (K + 20) v.2) (fun s : List Int × Int × Int × List Int => Rd (K + s.2.2.1) (GRd.mk s.1 s.2.1) ∧ 0 ≤ s.2.2.1 ∧ (s.2.2.1 ≤ p ∨ s.2.2.1 = 0) ∧ (s.2.2.2.length : Int) = s.2.2.1) (fun s => (p - s.2.2.1).toNat)
    (fun f s => z01r p (z03e p n) f s.1 s.2.1 s.2.2.1 s.2.2.2) (fun f s hi ih => ?_) (r.b, r.p, 0, []) (by dsimp only; omega) ⟨by dsimp only; exact h.eta.mono (by omega), by dsimp only; omega, by dsimp only; omega, rfl⟩
  · exact key
  obtain ⟨b0, p0, i, l⟩ := s
  obtain ⟨h1, h2, h3, h4⟩ := hi
  dsimp only at h1 h2 h3 h4 ⊢
  have ih' : ∀ b q i' l', Rd (K + i') (GRd.mk b q) → 0 ≤ i' → i' ≤ p → ((l' : List Int).length : Int) = i' → i < i' → Tot (z01r p (z03e p n) f b q i' l') (fun v => v.1.length ≤ 10 ∧ Rd (K + 20) v.2) :=
    fun b q i' l' g1 g2 g3 g4 g5 => ih (b, q, i', l') ⟨g1, g2, .inl g3, g4⟩ (by dsimp only; omega)
  rw [z01r]
  refine Tot.iteD (fun c => ?_) (fun c => ?_)
  · skip
    repeat' first
      | (refine Tot.bind2 (z018 (by assumption) (by omega)) ?_; intro a b h; dsimp only at h; obtain ⟨⟨_, _⟩, _⟩ := h; try dsimp only)
      | (refine Tot.gd (by first | omega | (constructor <;> omega) | (simp only [List.length_append, List.length_cons, List.length_nil, List.length_set, List.length_drop, SMALL]; omega)) ?_)
      | (refine Tot.getI (by omega) (by first | omega | (simp only [List.length_cons, List.length_nil, List.length_set, List.length_append]; omega)) ?_; intro x hx hg)
      | (refine Tot.iteD (fun _ => ?_) (fun _ => ?_))
      | (refine ih' _ _ _ _ (Rd.mono (by assumption) (by omega)) (by omega) (by omega) (by simp only [List.length_append, List.length_cons, List.length_nil, List.length_set, List.length_drop]; omega) (by omega))
  · unfold z03e
    repeat' first
      | (refine Tot.bind2 (z018 (by assumption) (by omega)) ?_; intro a b h; dsimp only at h; obtain ⟨⟨_, _⟩, _⟩ := h; try dsimp only)
      | (refine Tot.gd (by first | omega | (constructor <;> omega) | (simp only [List.length_append, List.length_cons, List.length_nil, List.length_set, List.length_drop, SMALL]; omega)) ?_)
      | (refine Tot.getI (by omega) (by first | omega | (simp only [List.length_cons, List.length_nil, List.length_set, List.length_append]; omega)) ?_; intro x hx hg)
      | (refine Tot.iteD (fun _ => ?_) (fun _ => ?_))
      | exact Tot.pure ⟨by first | (dsimp only; omega) | (simp only [List.length_append, List.length_cons, List.length_nil, List.length_set, List.length_drop]; omega), Rd.mono (by assumption) (by omega)⟩
theorem z0zp {K : Int} {r : GRd} {n : GNet} {k : Int} (h : Rd K r) (hK : K ≤ 900000000) (hn : 1 ≤ n.tasks.length) : Tot (z05y r n k) (fun v => v.1.length ≤ 4 ∧ Rd (K + 20) v.2) := by
  unfold z05y
  refine Tot.bind2 (z018 h (by omega)) ?_
  intro k0 r0 h1
  dsimp only at h1
  obtain ⟨⟨a0, a1⟩, hb⟩ := h1
  dsimp only
  have key := Tot.loopF (Q := fun v : List GItem × GRd => v.1.length ≤ 4 ∧ Rd (K + 20) v.2) (fun s : List Int × Int × Int × List GItem => Rd (K + 1 + 3 * (3 - s.2.2.1)) (GRd.mk s.1 s.2.1) ∧ 0 ≤ s.2.2.1 ∧ s.2.2.1 ≤ 3 ∧ (s.2.2.2.length : Int) + s.2.2.1 ≤ 3) (fun s => s.2.2.1.toNat)
    (fun f s => z01c n (z03r k) f s.1 s.2.1 s.2.2.1 s.2.2.2) (fun f s hi ih => ?_) (r0.b, r0.p, k0, []) (by dsimp only; omega) ⟨by dsimp only; exact hb.eta.mono (by omega), by dsimp only; omega, by dsimp only; omega, by simp only [List.length_nil]; omega⟩
  · exact key
  obtain ⟨b0, p0, i, l⟩ := s
  obtain ⟨h1, h2, h3, h4⟩ := hi
  dsimp only at h1 h2 h3 h4 ⊢
  have ih' : ∀ b q l', Rd (K + 1 + 3 * (3 - (i - 1))) (GRd.mk b q) → 1 ≤ i → ((l' : List GItem).length : Int) + (i - 1) ≤ 3 → Tot (z01c n (z03r k) f b q (i - 1) l') (fun v => v.1.length ≤ 4 ∧ Rd (K + 20) v.2) :=
    fun b q l' g1 g2 g3 => ih (b, q, i - 1, l') ⟨g1, by dsimp only; omega, by dsimp only; omega, g3⟩ (by dsimp only; omega)
  rw [z01c]
  refine Tot.iteD (fun c => ?_) (fun c => ?_)
  · skip
    repeat' first
      | (refine Tot.bind2 (z018 (by assumption) (by omega)) ?_; intro a b h; dsimp only at h; obtain ⟨⟨_, _⟩, _⟩ := h; try dsimp only)
      | (refine Tot.gd (by first | omega | (constructor <;> omega) | (simp only [List.length_append, List.length_cons, List.length_nil, List.length_set, List.length_drop, SMALL]; omega)) ?_)
      | (refine Tot.getI (by omega) (by first | omega | (simp only [List.length_cons, List.length_nil, List.length_set, List.length_append]; omega)) ?_; intro x hx hg)
      | (refine Tot.iteD (fun _ => ?_) (fun _ => ?_))
      | (refine ih' _ _ _ (Rd.mono (by assumption) (by omega)) (by omega) (by simp only [List.length_append, List.length_cons, List.length_nil, List.length_set, List.length_drop]; omega))
  · unfold z03r
    repeat' first
      | (refine Tot.bind2 (z018 (by assumption) (by omega)) ?_; intro a b h; dsimp only at h; obtain ⟨⟨_, _⟩, _⟩ := h; try dsimp only)
      | (refine Tot.gd (by first | omega | (constructor <;> omega) | (simp only [List.length_append, List.length_cons, List.length_nil, List.length_set, List.length_drop, SMALL]; omega)) ?_)
      | (refine Tot.getI (by omega) (by first | omega | (simp only [List.length_cons, List.length_nil, List.length_set, List.length_append]; omega)) ?_; intro x hx hg)
      | (refine Tot.iteD (fun _ => ?_) (fun _ => ?_))
      | exact Tot.pure ⟨by first | (dsimp only; omega) | (simp only [List.length_append, List.length_cons, List.length_nil, List.length_set, List.length_drop]; omega), Rd.mono (by assumption) (by omega)⟩
end Go.Am.Pl
end
section
set_option maxRecDepth 100000
set_option linter.unusedVariables false
set_option linter.unusedSimpArgs false
namespace Go.Am.Pl
open Go
def cnt1 (x : GNode) (i : Int) : Int := (if x.yes = i then 1 else 0) + (if x.no = i then 1 else 0)
def cntL (i : Int) : List GNode → Int
  | [] => 0
  | x :: l => cnt1 x i + cntL i l
def okN (len i v : Int) : Bool := decide (v = -1) || inB v (i + 1) (len - 1)
def nodeB (len i : Int) (x : GNode) : Bool := expHolds x.if_ x.stone && (inB x.ans 0 2 && (okN len i x.yes && okN len i x.no))
theorem z0qg {α : Type} (l : List α) {v j : Int} (w : α) (hv : 0 ≤ v) (hj : 0 ≤ j) (hl : j < l.length) : getI (l.set v.toNat w) j = if v = j then some w else getI l j := by
  unfold getI
  rw [if_pos hj, if_pos hj, List.getElem?_set]
  by_cases h : v = j
  · subst h; simp; omega
  · rw [if_neg (by omega), if_neg h]
end Go.Am.Pl
end
section
set_option maxRecDepth 100000
set_option linter.unusedVariables false
set_option linter.unusedSimpArgs false
namespace Go.Am.Pl
open Go
theorem z0u8 {high : Int} : ∀ {l : List Int} {p : Int}, asc high p l = true → ∀ x ∈ l, p + 1 ≤ x ∧ x ≤ high
  | [], _, _, x, hx => by simp at hx
  | y :: l, p, h, x, hx => by
    simp only [asc, Bool.and_eq_true, z02t] at h
    rcases List.mem_cons.1 hx with rfl | hx
    · exact h.1
    · have := z0u8 h.2 x hx; omega
structure TaskOk (n : GNet) (t : GTask) : Prop where
  join : 1 ≤ t.join ∧ t.join ≤ 3
  split : 1 ≤ t.split ∧ t.split ≤ 3
  inl : 1 ≤ t.in_.length ∧ t.in_.length ≤ 3
  ins : ∀ p ∈ t.in_, 0 ≤ p ∧ p ≤ n.places - 1
  outl : 1 ≤ t.out.length ∧ t.out.length ≤ 3
  clearl : (t.clear.length : Int) ≤ n.places
  clears : ∀ p ∈ t.clear, 2 ≤ p ∧ p ≤ n.places - 1
  role : 1 ≤ t.role ∧ t.role ≤ 3
  apart : -1 ≤ t.apart ∧ t.apart ≤ n.tasks.length - 1
  all : 1 ≤ t.all ∧ t.all ≤ 3
  need : 1 ≤ t.need ∧ t.need ≤ t.all
theorem z07a {n : GNet} (h : netB n = true) {t : GTask} (ht : t ∈ n.tasks) : TaskOk n t := by
  simp only [netB, Bool.and_eq_true, List.all_eq_true] at h
  have := h.2.2 t ht
  simp only [taskB, Bool.and_eq_true, z02t] at this
  obtain ⟨a, b, ⟨c, d⟩, e, ⟨f, g⟩, ⟨i, j⟩, k, l, m, o⟩ := this
  exact ⟨a, b, by omega, fun p hp => by have := z0u8 d p hp; omega, by omega, by omega, fun p hp => by have := z0u8 j p hp; omega, k, l, m, o⟩
theorem z079 {n : GNet} (h : netB n = true) : (2 ≤ n.places ∧ n.places ≤ 8) ∧ (1 ≤ n.tasks.length ∧ n.tasks.length ≤ 6) := by
  simp only [netB, Bool.and_eq_true, z02t] at h; omega
structure CasFacts (n : GNet) (c : GCase) : Prop where
  net : netB n = true
  len : (c.marks.length : Int) = n.places
  mks : ∀ x ∈ c.marks, 0 ≤ x ∧ x ≤ 4
  busyl : c.busy.length ≤ 6
  busy : ∀ b ∈ c.busy, (0 ≤ b.task ∧ b.task < n.tasks.length) ∧ (1 ≤ b.who ∧ b.who ≤ 4) ∧ (0 ≤ b.did ∧ b.did ≤ (atI n.tasks b.task).need - 1)
  data : datOk c.data = true
  didl : c.did.length ≤ 60
  did : ∀ d ∈ c.did, (0 ≤ d.task ∧ d.task < n.tasks.length) ∧ (1 ≤ d.who ∧ d.who ≤ 4)
  state : 1 ≤ c.state ∧ c.state ≤ 3
theorem z0dt {n : GNet} {c : GCase} (h : casB n c = true) : CasFacts n c := by
  simp only [casB, mrkB, marksB, busyB, itemB, didB, Bool.and_eq_true, List.all_eq_true, z02t, decide_eq_true_eq, Bool.not_eq_true', decide_eq_false_iff_not] at h
  obtain ⟨⟨a, b, c1⟩, ⟨d, e⟩, f, g, i, j, k⟩ := h
  exact ⟨a, b, c1, by omega, fun x hx => by have := e x hx; omega, f, by omega, fun x hx => by have := j x hx; omega, i⟩
def inc (l : List Int) (p : Int) : List Int := l.set p.toNat (atI l p + 1)
theorem z0sa (l : List Int) (p : Int) : (inc l p).length = l.length := by simp [inc]
def incs (l : List Int) (ps : List Int) : List Int := ps.foldl inc l
theorem z0uu (ps : List Int) : ∀ l : List Int, (incs l ps).length = l.length := by
  induction ps with
  | nil => intro l; rfl
  | cons p ps ih => intro l; show (incs (inc l p) ps).length = _; rw [ih, z0sa]
def capM (K : Int) (l : List Int) : Prop := ∀ x ∈ l, 0 ≤ x ∧ x ≤ K
theorem z0ru {K : Int} {l : List Int} (h : capM K l) {p : Int} (h0 : 0 ≤ p) (h1 : p < l.length) : 0 ≤ atI l p ∧ atI l p ≤ K := h _ (z0a2 l h0 h1)
theorem z0ue {K : Int} {l : List Int} (h : capM K l) {p : Int} (h0 : 0 ≤ p) (h1 : p < l.length) : capM (K + 1) (inc l p) := by
  intro x hx
  have := z0ru h h0 h1
  rcases List.mem_or_eq_of_mem_set hx with hx | rfl
  · have := h x hx; omega
  · omega
def okM (l : List Int) : Bool := l.all (fun x => inB x 0 4)
theorem z0in {l : List Int} : okM l = true ↔ capM 4 l := by simp only [okM, List.all_eq_true, z02t]; rfl
theorem z0z0 {l : List Int} {p : Int} {K : Int} (hl : capM K l) (h0 : 0 ≤ p) (h1 : p < l.length) (h : okM (inc l p) = true) : okM l = true ∧ atI l p ≤ 3 := by
  rw [z0in] at h ⊢
  have hp : atI l p + 1 ∈ inc l p := List.mem_iff_getElem?.2 ⟨p.toNat, by unfold inc; rw [List.getElem?_set_self (by omega)]⟩
  have h4 := h _ hp
  refine ⟨fun x hx => ?_, by omega⟩
  obtain ⟨j, hj⟩ := List.mem_iff_getElem?.1 hx
  by_cases e : p.toNat = j
  · have : atI l p = x := by unfold atI getI; rw [if_pos h0, e, hj]; rfl
    have := hl x hx; omega
  · exact h x (List.mem_iff_getElem?.2 ⟨j, by unfold inc; rw [List.getElem?_set_ne e]; exact hj⟩)
theorem z109 {ps : List Int} : ∀ {l : List Int} {K : Int}, capM K l → (∀ p ∈ ps, 0 ≤ p ∧ p < l.length) → okM (incs l ps) = true → okM l = true := by
  induction ps with
  | nil => intro l K _ _ h; exact h
  | cons p ps ih =>
    intro l K hl hp h
    have hp0 := hp p (by simp)
    exact (z0z0 hl hp0.1 hp0.2 (ih (l := inc l p) (z0ue hl hp0.1 hp0.2) (fun q hq => by rw [z0sa]; exact hp q (by simp [hq])) h)).1
theorem z0xl {β : Type} (ps : List Int) (hs : ps.length ≤ SMALL) (f : Nat → Int → List Int → Option β) (kx : List Int → Option β) (bad : Option β) (l0 : List Int) (hp : ∀ p ∈ ps, 0 ≤ p ∧ p < l0.length) (hc : okM l0 = true)
    (h0 : ∀ n s, f (n + 1) (ps.length : Int) s = kx s)
    (h1 : ∀ n i p s, getI ps i = some p → i < (ps.length : Int) → ok64 (i + 1) → getI s p = some (atI s p) → ok64 (atI s p + 1) → f (n + 1) i s = if decide (atI s p = 4) = true then bad else f n (i + 1) (inc s p)) :
    f FUEL 0 l0 = if okM (incs l0 ps) = true then kx (incs l0 ps) else bad :=
  scan ps (by unfold SMALL at hs; omega) f (fun _ suf l => if okM (incs l suf) = true then kx (incs l suf) else bad) (fun _ l => l.length = l0.length ∧ okM l = true)
    (fun n s hi => by rw [h0]; rw [if_pos (show okM (incs s []) = true from hi.2)]; rfl)
    (fun n pre x suf s a b c d hi k => by
      have hx := hp x (by rw [a]; simp)
      have hx2 : x < s.length := by rw [hi.1]; exact hx.2
      have hcap := z0in.1 hi.2
      have hv := z0ru hcap hx.1 hx2
      rw [h1 n _ x s b c d (z03i s hx.1 hx2) (by constructor <;> omega)]
      show _ = if okM (incs (inc s x) suf) = true then kx (incs (inc s x) suf) else bad
      by_cases h4 : atI s x = 4
      · rw [if_pos (decide_eq_true h4), if_neg]
        intro h5
        have h6 := z109 (z0ue hcap hx.1 hx2) (fun q hq => by rw [z0sa, hi.1]; exact hp q (by rw [a]; simp [hq])) h5
        have := (z0z0 hcap hx.1 hx2 h6).2
        omega
      · rw [if_neg (by simpa using h4)]
        exact k (inc s x) ⟨by rw [z0sa, hi.1], z0in.2 (fun y hy => by
          rcases List.mem_or_eq_of_mem_set hy with hy | rfl
          · exact hcap y hy
          · omega)⟩) FUEL l0 ⟨rfl, hc⟩ (by have := z04g; unfold SMALL at hs; omega)
end Go.Am.Pl
end
section
set_option maxRecDepth 100000
set_option maxHeartbeats 2000000
set_option linter.unusedVariables false
set_option linter.unusedSimpArgs false
namespace Go.Am.Pl
open Go
structure TaskT (t : GTask) : Prop where
  in_ : t.in_.length ≤ 4
  out : t.out.length ≤ 4
  clear : t.clear.length ≤ 9
structure NetT (n : GNet) : Prop where
  one : 1 ≤ n.tasks.length
  six : n.tasks.length ≤ 6
  pl : n.places ≤ 9
  task : ∀ t ∈ n.tasks, TaskT t
theorem TaskT.small {t : GTask} (h : TaskT t) : t.small := ⟨by have := h.in_; unfold SMALL; omega, by have := h.out; unfold SMALL; omega, by have := h.clear; unfold SMALL; omega⟩
theorem NetT.small {n : GNet} (h : NetT n) : n.small := ⟨by have := h.six; unfold SMALL; omega, fun t ht => (h.task t ht).small⟩
theorem z122 {n : GNet} (h : netB n = true) : NetT n := by
  have hs := z079 h
  exact ⟨by omega, by omega, by omega, fun t ht => by
    have T := z07a h ht
    exact ⟨by have := T.inl; omega, by have := T.outl; omega, by have := T.clearl; omega⟩⟩
theorem z0xn {K : Int} {split : Int} {to : List Int} {kx : List Int → Int → List GFlow → Option (GTask × GRd)} {Q : GTask × GRd → Prop} (hK : K ≤ 900000000) (ht : to.length ≤ 3)
    (hk : ∀ b p l, Rd (K + 9) (GRd.mk b p) → l.length ≤ 3 → Tot (kx b p l) Q) {b : List Int} {p : Int} (h : Rd K (GRd.mk b p)) : Tot (z00j split to kx FUEL b p 0 []) Q := by
  have key := Tot.loopF (Q := Q) (fun s : List Int × Int × Int × List GFlow => Rd (K + 3 * s.2.2.1) (GRd.mk s.1 s.2.1) ∧ 0 ≤ s.2.2.1 ∧ s.2.2.1 ≤ to.length ∧ (s.2.2.2.length : Int) = s.2.2.1) (fun s => ((to.length : Int) - s.2.2.1).toNat)
    (fun f s => z00j split to kx f s.1 s.2.1 s.2.2.1 s.2.2.2) (fun f s hi ih => ?_) (b, p, 0, []) (by dsimp only; omega) ⟨by dsimp only; exact h.mono (by omega), by dsimp only; omega, by dsimp only; omega, rfl⟩
  · exact key
  obtain ⟨b0, p0, i, l⟩ := s
  obtain ⟨h1, h2, h3, h4⟩ := hi
  dsimp only at h1 h2 h3 h4 ⊢
  have ih' : ∀ b q i' l', Rd (K + 3 * i') (GRd.mk b q) → 0 ≤ i' → i' ≤ to.length → ((l' : List GFlow).length : Int) = i' → i < i' → Tot (z00j split to kx f b q i' l') Q :=
    fun b q i' l' g1 g2 g3 g4 g5 => ih (b, q, i', l') ⟨g1, g2, g3, g4⟩ (by dsimp only; omega)
  rw [z00j]
  refine Tot.iteD (fun c => ?_) (fun c => hk _ _ _ (h1.mono (by omega)) (by omega))
  repeat' first
    | (refine Tot.bind2 (z018 (by assumption) (by omega)) ?_; intro a b h; dsimp only at h; obtain ⟨⟨_, _⟩, _⟩ := h; try dsimp only)
    | (refine Tot.gd (by first | omega | (constructor <;> omega) | (simp only [List.length_append, List.length_cons, List.length_nil, List.length_set, List.length_drop, SMALL]; omega)) ?_)
    | (refine Tot.getI (by omega) (by first | omega | (simp only [List.length_cons, List.length_nil, List.length_set, List.length_append]; omega)) ?_; intro x hx hg)
    | (refine Tot.iteD (fun _ => ?_) (fun _ => ?_))
    | (refine ih' _ _ _ _ (Rd.mono (by assumption) (by omega)) (by omega) (by omega) (by simp only [List.length_append, List.length_cons, List.length_nil, List.length_set, List.length_drop]; omega) (by omega))
theorem z0w7 {K : Int} {r : GRd} {join split tasks : Int} {in_ to : List Int} (h : Rd K r) (hK : K ≤ 800000000) (hi : in_.length ≤ 3) (ht : to.length ≤ 3) : Tot (z004 r join split in_ to tasks) (fun v => TaskT v.1 ∧ Rd (K + 20) v.2) := by
  unfold z004
  repeat' first
    | (refine Tot.bind2 (z018 (by assumption) (by omega)) ?_; intro a b h; dsimp only at h; obtain ⟨⟨_, _⟩, _⟩ := h; try dsimp only)
    | (refine Tot.gd (by first | omega | (constructor <;> omega) | (simp only [List.length_append, List.length_cons, List.length_nil, List.length_set, List.length_drop, SMALL]; omega)) ?_)
    | (refine Tot.getI (by omega) (by first | omega | (simp only [List.length_cons, List.length_nil, List.length_set, List.length_append]; omega)) ?_; intro x hx hg)
    | (refine Tot.iteD (fun _ => ?_) (fun _ => ?_))
    | (refine z0xn (K := K + 5) (by omega) ht (fun b p l hb hl => ?_) (Rd.eta (Rd.mono (by assumption) (by omega))))
    | (unfold z096; exact Tot.pure ⟨⟨by dsimp only; omega, by dsimp only; omega, by simp⟩, Rd.mono (by assumption) (by omega)⟩)
    | (unfold z097; exact Tot.pure ⟨⟨by dsimp only; omega, by dsimp only; omega, by simp⟩, Rd.mono (by assumption) (by omega)⟩)
theorem z0h9 {α : Type} {P : α → Prop} : ∀ t ∈ ([] : List α), P t := fun t ht => (List.not_mem_nil ht).elim
theorem z0vv {K N P : Int} (hK : K ≤ 700000000) (hN : 1 ≤ N ∧ N ≤ 4) (hP : 3 ≤ P ∧ P ≤ 6) {b : List Int} {p : Int} (h : Rd (K + 10) (GRd.mk b p)) : Tot (z00l N P (z02l P) FUEL b p 0 []) (fun v => NetT v.1 ∧ Rd (K + 200) v.2) := by
  have key := Tot.loopF (Q := fun v : GNet × GRd => NetT v.1 ∧ Rd (K + 200) v.2) (fun s : List Int × Int × Int × List GTask => Rd (K + 10 + 40 * s.2.2.1) (GRd.mk s.1 s.2.1) ∧ 0 ≤ s.2.2.1 ∧ s.2.2.1 ≤ N ∧ (s.2.2.2.length : Int) = s.2.2.1 ∧ ∀ t ∈ s.2.2.2, TaskT t) (fun s => (N - s.2.2.1).toNat)
    (fun f s => z00l N P (z02l P) f s.1 s.2.1 s.2.2.1 s.2.2.2) (fun f s hi ih => ?_) (b, p, 0, []) (by dsimp only; omega) ⟨by dsimp only; exact h.mono (by omega), by dsimp only; omega, by dsimp only; omega, rfl, z0h9⟩
  · exact key
  obtain ⟨b0, p0, i, l⟩ := s
  obtain ⟨h1, h2, h3, h4, h5⟩ := hi
  dsimp only at h1 h2 h3 h4 h5 ⊢
  have ih' : ∀ b q (t : GTask), Rd (K + 10 + 40 * (i + 1)) (GRd.mk b q) → i + 1 ≤ N → TaskT t → Tot (z00l N P (z02l P) f b q (i + 1) (l ++ [t])) (fun v => NetT v.1 ∧ Rd (K + 200) v.2) :=
    fun b q t g1 g2 g3 => ih (b, q, i + 1, l ++ [t]) ⟨g1, by dsimp only; omega, g2, by dsimp only; rw [List.length_append, List.length_singleton]; omega, fun x hx => by
      rcases List.mem_append.1 hx with hx | hx
      · exact h5 x hx
      · rw [List.mem_singleton.1 hx]; exact g3⟩ (by dsimp only; omega)
  rw [z00l]
  refine Tot.iteD (fun c => ?_) (fun c => ?_)
  · skip
    repeat' first
      | (refine Tot.bind2 (z0w7 (by assumption) (by omega) (by simp) (by simp)) ?_; intro a b h; dsimp only at h; obtain ⟨_, _⟩ := h; try dsimp only)
      | (refine Tot.bind2 (z018 (by assumption) (by omega)) ?_; intro a b h; dsimp only at h; obtain ⟨⟨_, _⟩, _⟩ := h; try dsimp only)
      | (refine Tot.gd (by first | omega | (constructor <;> omega) | (simp only [List.length_append, List.length_cons, List.length_nil, List.length_set, List.length_drop, SMALL]; omega)) ?_)
      | (refine Tot.getI (by omega) (by first | omega | (simp only [List.length_cons, List.length_nil, List.length_set, List.length_append]; omega)) ?_; intro x hx hg)
      | (refine Tot.iteD (fun _ => ?_) (fun _ => ?_))
      | (refine ih' _ _ _ (Rd.mono (by assumption) (by omega)) (by omega) (by assumption))
  · unfold z02l
    exact Tot.pure ⟨⟨by dsimp only; omega, by dsimp only; omega, by dsimp only; omega, h5⟩, h1.mono (by omega)⟩
theorem z0xi {K : Int} {r : GRd} (h : Rd K r) (hK : K ≤ 700000000) : Tot (z054 r) (fun v => NetT v.1 ∧ Rd (K + 200) v.2) := by
  unfold z054
  repeat' first
    | (refine Tot.bind2 (z0w7 (by assumption) (by omega) (by simp) (by simp)) ?_; intro a b h; dsimp only at h; obtain ⟨_, _⟩ := h; try dsimp only)
    | (refine Tot.bind2 (z018 (by assumption) (by omega)) ?_; intro a b h; dsimp only at h; obtain ⟨⟨_, _⟩, _⟩ := h; try dsimp only)
    | (refine Tot.gd (by first | omega | (constructor <;> omega) | (simp only [List.length_append, List.length_cons, List.length_nil, List.length_set, List.length_drop, SMALL]; omega)) ?_)
    | (refine Tot.getI (by omega) (by first | omega | (simp only [List.length_cons, List.length_nil, List.length_set, List.length_append]; omega)) ?_; intro x hx hg)
    | (refine Tot.iteD (fun _ => ?_) (fun _ => ?_))
    | (refine z0vv (by omega) (by omega) (by omega) (Rd.eta (Rd.mono (by assumption) (by omega))))
    | (refine Tot.pure ⟨⟨by simp, by simp, by dsimp only; omega, ?_⟩, Rd.mono (by assumption) (by omega)⟩; dsimp only; repeat' first | exact z0h9 | exact List.forall_mem_cons.2 ⟨by assumption, z0h9⟩ | (refine List.forall_mem_cons.2 ⟨by assumption, ?_⟩))
theorem z0yy {K : Int} {r : GRd} (h : Rd K r) (hK : K ≤ 600000000) : Tot (z05b r) (fun v => netB v.1 = true ∧ Rd (K + 210) v.2) := by
  unfold z05b
  refine Tot.bind2 (z0xi h (by omega)) ?_
  intro n0 r0 hh
  dsimp only at hh
  obtain ⟨hn, hr⟩ := hh
  dsimp only
  have d : netB (GNet.mk 2 [GTask.mk 1 1 [0] [GFlow.mk 1 (GAsk.mk 0 0 0)] [] 1 (-1) 1 1]) = true := by decide
  have fin : ∀ (n : GNet) (r : GRd), n.small → Rd (K + 210) r → Tot ((z01z n).bind fun x => if x = true then some (n, r) else some (GNet.mk 2 [GTask.mk 1 1 [0] [GFlow.mk 1 (GAsk.mk 0 0 0)] [] 1 (-1) 1 1], r)) (fun v => netB v.1 = true ∧ Rd (K + 210) v.2) := by
    intro n r hs hr
    rw [z0er n hs, Option.bind_some]
    refine Tot.ite (fun c => Tot.pure ⟨c, hr⟩) (fun c => Tot.pure ⟨d, hr⟩)
  have hone := hn.one
  refine Tot.bind2 (z018 hr (by omega)) ?_
  intro a b h1
  dsimp only at h1
  obtain ⟨⟨a0, a1⟩, hb⟩ := h1
  dsimp only
  refine Tot.iteD (fun _ => Tot.iteD (fun _ => Tot.iteD (fun _ => ?_) (fun _ => fin _ _ hn.small (hb.mono (by omega)))) (fun _ => fin _ _ hn.small (hb.mono (by omega)))) (fun _ => fin _ _ hn.small (hb.mono (by omega)))
  refine Tot.bind2 (z018 hb (by omega)) ?_
  intro a2 b2 h2
  dsimp only at h2
  obtain ⟨⟨a3, a4⟩, hb2⟩ := h2
  dsimp only
  refine Tot.getI (by omega) (by omega) ?_
  intro t ht hg
  refine fin _ _ ⟨by show (n0.tasks.set _ _).length ≤ SMALL; rw [List.length_set]; exact hn.small.1, fun x hx => ?_⟩ (hb2.mono (by omega))
  rcases List.mem_or_eq_of_mem_set hx with hx | rfl
  · exact hn.small.2 x hx
  · have T := (hn.task t ht).small
    exact ⟨T.1, T.2.1, by simp [SMALL]⟩
theorem set_T {n : GNet} (hn : NetT n) {k : Nat} {t : GTask} (ht : TaskT t) : NetT (GNet.mk n.places (n.tasks.set k t)) :=
  ⟨by rw [List.length_set]; exact hn.one, by rw [List.length_set]; exact hn.six, hn.pl, fun x hx => by
    rcases List.mem_or_eq_of_mem_set hx with hx | rfl
    · exact hn.task x hx
    · exact ht⟩
theorem z0u3 {K : Int} {r : GRd} {n : Int} (h : Rd K r) (hK : K ≤ 500000000) : Tot (z04a r n) (fun v => NetT v.1 ∧ Rd (K + 250) v.2) := by
  unfold z04a
  refine Tot.bind2 (z0yy h (by omega)) ?_
  intro n0 r0 hh
  dsimp only at hh
  obtain ⟨hn, hr⟩ := hh
  dsimp only
  have hT := z122 hn
  have hsz := z079 hn
  have hone := hT.one
  have hfin : ∀ (t : GTask) (k : Int) (r : GRd), TaskT t → Rd (K + 250) r → Tot ((getI n0.tasks k).bind fun _ => some (GNet.mk n0.places (n0.tasks.set k.toNat t), r)) (fun v => NetT v.1 ∧ Rd (K + 250) v.2) → True := fun _ _ _ _ _ _ => trivial
  refine Tot.bind2 (z018 hr (by omega)) ?_
  intro a b h1
  dsimp only at h1
  obtain ⟨⟨a0, a1⟩, hb⟩ := h1
  dsimp only
  refine Tot.iteD (fun _ => Tot.pure ⟨hT, hb.mono (by omega)⟩) (fun _ => ?_)
  refine Tot.bind2 (z018 hb (by omega)) ?_
  intro a2 b2 h2
  dsimp only at h2
  obtain ⟨⟨a3, a4⟩, hb2⟩ := h2
  dsimp only
  refine Tot.iteD (fun _ => ?_) (fun _ => ?_)
  · refine Tot.bind2 (z018 hb2 (by omega)) ?_
    intro a5 b5 h5
    dsimp only at h5
    obtain ⟨⟨a6, a7⟩, hb5⟩ := h5
    dsimp only
    refine Tot.getI (by omega) (by simp only [List.length_cons, List.length_nil]; omega) ?_
    intro x hx _
    refine Tot.pure ⟨⟨hT.one, hT.six, ?_, hT.task⟩, hb5.mono (by omega)⟩
    simp only [List.mem_cons, List.not_mem_nil, or_false] at hx
    show x ≤ 9
    omega
  refine Tot.bind2 (z018 hb2 (by omega)) ?_
  intro k b5 h5
  dsimp only at h5
  obtain ⟨⟨a6, a7⟩, hb5⟩ := h5
  dsimp only
  refine Tot.getI (by omega) (by omega) ?_
  intro t ht hg
  have T := z07a hn ht
  have i1 := T.inl; have i2 := T.outl; have i3 := T.clearl
  have i4 : t.clear.length ≤ 8 := by omega
  have i5 := T.all
  clear i3 hfin
  repeat' first
    | (refine Tot.bind2 (z11a (by assumption) (by omega)) ?_; intro a b h; dsimp only at h; obtain _ := h; try dsimp only)
    | (refine Tot.bind2 (z018 (by assumption) (by omega)) ?_; intro a b h; dsimp only at h; obtain ⟨⟨_, _⟩, _⟩ := h; try dsimp only)
    | (refine Tot.gd (by first | omega | (constructor <;> omega) | (simp only [List.length_append, List.length_cons, List.length_nil, List.length_set, List.length_drop, SMALL]; omega)) ?_)
    | (refine Tot.getI (by omega) (by first | omega | (simp only [List.length_cons, List.length_nil, List.length_set, List.length_append]; omega)) ?_; intro x hx hg)
    | (refine Tot.iteD (fun _ => ?_) (fun _ => ?_))
    | exact Tot.pure ⟨set_T hT ⟨by first | (dsimp only; omega) | (dsimp only; simp only [List.length_append, List.length_cons, List.length_nil, List.length_set, List.length_drop]; omega), by first | (dsimp only; omega) | (dsimp only; simp only [List.length_append, List.length_cons, List.length_nil, List.length_set, List.length_drop]; omega), by first | (dsimp only; omega) | (dsimp only; simp only [List.length_append, List.length_cons, List.length_nil, List.length_set, List.length_drop]; omega)⟩, Rd.mono (by assumption) (by omega)⟩
end Go.Am.Pl
end
section
set_option maxRecDepth 100000
set_option linter.unusedVariables false
set_option linter.unusedSimpArgs false
namespace Go.Am.Pl
open Go
theorem z0m0 (l : List Int) (h : l.length ≤ SMALL) : z03a l = some l := by unfold z03a; rw [z008 (by simpa using h)]; rfl
theorem z0kn (c : GCase) (h : c.small) : z040 c = some c := by
  obtain ⟨h1, h2, h3, h4⟩ := h
  unfold z040
  simp [gd, h1, h2, h3, h4]
theorem z0of (c : GCase) (h : c.small) : z02q c = some c := by
  obtain ⟨h1, h2, h3, h4⟩ := h
  unfold z02q
  simp [gd, z0m0, h1, h2, h3, h4]
def stopB (n : GNet) (c : GCase) : GCase × Bool := bif casB n c && decide (c.state = 1) then (GCase.mk 3 c.marks [] c.data c.did, true) else (c, false)
theorem z0qj (n : GNet) (c : GCase) (hn : n.small) (hc : c.small) : z05u n c = some (casB n c && decide (c.state = 1)) := by
  unfold z05u
  simp only [z0og n c hn hc, Option.bind_some]
  cases casB n c <;> by_cases hs : c.state = 1 <;> simp [hs]
theorem z0qh (n : GNet) (c : GCase) (hn : n.small) (hc : c.small) : z05t n c = some (stopB n c) := by
  unfold z05t stopB
  simp only [z0of c hc, z0qj n c hn hc, Option.bind_some]
  cases casB n c <;> by_cases hs : c.state = 1 <;> simp [hs]
end Go.Am.Pl
end
section
set_option maxRecDepth 100000
set_option linter.unusedVariables false
set_option linter.unusedSimpArgs false
namespace Go.Am.Pl
open Go
def goB (split : Int) (last none_ : Bool) : Bool := bif decide (split = 2) then none_ else bif decide (split = 3) then !last || none_ else true
def splL (split : Int) (data : List Int) : List GFlow → List Int → List Int
  | [], l => l
  | f :: fs, l => if (expHolds f.if_ data && goB split fs.isEmpty l.isEmpty) = true then splL split data fs (l ++ [f.to]) else splL split data fs l
theorem z0st (data : List Int) : ∀ (fs : List GFlow) (l : List Int), l.isEmpty = false → splL 2 data fs l = l
  | [], l, _ => rfl
  | f :: fs, l, h => by
    unfold splL
    rw [if_neg (by simp [goB, h]), z0st data fs l h]
theorem z0ri (split : Int) (data : List Int) : ∀ (fs : List GFlow) (l : List Int), (splL split data fs l).length ≤ l.length + fs.length
  | [], l => by simp [splL]
  | f :: fs, l => by
    unfold splL; split
    · have := z0ri split data fs (l ++ [f.to]); simp at this; simp; omega
    · have := z0ri split data fs l; simp; omega
theorem z0rj (split : Int) (data : List Int) : ∀ (fs : List GFlow) (l : List Int) (p : Int), p ∈ splL split data fs l → p ∈ l ∨ ∃ f ∈ fs, f.to = p
  | [], l, p, h => .inl h
  | f :: fs, l, p, h => by
    unfold splL at h; split at h
    · rcases z0rj split data fs _ p h with h | ⟨g, hg, e⟩
      · rcases List.mem_append.1 h with h | h
        · exact .inl h
        · simp at h; exact .inr ⟨f, by simp, h.symm⟩
      · exact .inr ⟨g, by simp [hg], e⟩
    · rcases z0rj split data fs _ p h with h | ⟨g, hg, e⟩
      · exact .inl h
      · exact .inr ⟨g, by simp [hg], e⟩
theorem z11x {α : Type} {l pre suf : List α} {x : α} (h : l = pre ++ x :: suf) : (decide ((pre.length : Int) < (l.length : Int) - 1)) = !suf.isEmpty := by
  rw [h]
  cases suf with
  | nil => simp
  | cons y s => simp; omega
theorem z0x5 {l : List Int} {n : Nat} (h : l.length ≤ n) (hn : n < SMALL) {y : Int} : l.length + [y].length ≤ SMALL := by rw [List.length_singleton]; omega
theorem len0 (l : List Int) : decide ((l.length : Int) = 0) = l.isEmpty := by
  cases l with
  | nil => rfl
  | cons x l => simp; omega
theorem z0vz (t : GTask) (data : List Int) (hs : t.out.length ≤ SMALL) (hd : data.length ≤ SMALL) : z08l t data = some (splL t.split data t.out []) := by
  unfold z08l
  refine scan t.out (by unfold SMALL at hs; omega) (z00o t data z050 z051 z052 z07k) (fun _ suf l => some (splL t.split data suf l)) (fun pre l => l.length ≤ pre.length ∧ (t.split = 2 → l = []))
    (fun n s hi => by rw [z00o, if_neg (by simp)]; rfl)
    (fun n pre x suf s a b c d hi k => ?_) FUEL [] ⟨by simp, fun _ => rfl⟩ (by have := z04g; unfold SMALL at hs; omega)
  have hpl : pre.length < SMALL := by rw [a, List.length_append, List.length_cons] at hs; omega
  have h1 : t.split ≠ 2 → z00o t data z050 z051 z052 z07k n ((pre.length : Int) + 1) (s ++ [x.to]) = some (splL t.split data suf (s ++ [x.to])) := fun h2 => k (s ++ [x.to]) ⟨by simp; exact hi.1, fun h => absurd h h2⟩
  have h2 := k s ⟨by simp; have := hi.1; omega, hi.2⟩
  rw [z00o, if_pos (decide_eq_true c)]
  simp only [b, Option.bind_some, z0pf _ _ hd, z11x a, len0, z008 (z09c hs), z008 d, z008 (z0x5 hi.1 hpl), h2, splL, z050, z051, z052, goB]
  by_cases e2 : t.split = 2
  · have hn := hi.2 e2
    subst hn
    cases expHolds x.if_ data
    · simp
    · have e3 : t.split ≠ 3 := by omega
      have := z0st data suf [x.to] rfl
      simp [e2, this]
  · rw [h1 e2]
    cases expHolds x.if_ data <;> by_cases e3 : t.split = 3 <;> cases suf.isEmpty <;> cases s.isEmpty <;> simp [e2, e3]
def zeros (l : List Int) (ps : List Int) : List Int := ps.foldl (fun l p => l.set p.toNat 0) l
theorem z0na (ps : List Int) : ∀ l : List Int, (zeros l ps).length = l.length := by
  induction ps with
  | nil => intro l; rfl
  | cons p ps ih => intro l; show (zeros (l.set p.toNat 0) ps).length = _; rw [ih]; simp
theorem z113 (ps : List Int) : ∀ l : List Int, okM l = true → okM (zeros l ps) = true := by
  induction ps with
  | nil => intro l h; exact h
  | cons p ps ih =>
    intro l h
    refine ih _ (z0in.2 fun x hx => ?_)
    rcases List.mem_or_eq_of_mem_set hx with hx | rfl
    · exact z0in.1 h x hx
    · omega
theorem z0y6 {β : Type} (ps : List Int) (hs : ps.length ≤ SMALL) (f : Nat → Int → List Int → Option β) (kx : List Int → Option β) (l0 : List Int) (hp : ∀ p ∈ ps, 0 ≤ p ∧ p < l0.length)
    (h0 : ∀ n s, f (n + 1) (ps.length : Int) s = kx s)
    (h1 : ∀ n i p s, getI ps i = some p → i < (ps.length : Int) → ok64 (i + 1) → getI s p = some (atI s p) → f (n + 1) i s = f n (i + 1) (s.set p.toNat 0)) :
    f FUEL 0 l0 = kx (zeros l0 ps) :=
  scan ps (by unfold SMALL at hs; omega) f (fun _ suf l => kx (zeros l suf)) (fun pre l => l.length = l0.length) (fun n s hi => by rw [h0]; rfl)
    (fun n pre x suf s a b c d hi k => by
      have hx := hp x (by rw [a]; simp)
      rw [h1 n _ x s b c d (z03i s hx.1 (by rw [hi]; exact hx.2))]
      exact k _ (by simpa using hi)) FUEL l0 rfl (by have := z04g; unfold SMALL at hs; omega)
def giveL (n : GNet) (m : List Int) (t : GTask) (data : List Int) : List Int := incs (zeros m t.clear) (splL t.split data t.out [])
def giveB (n : GNet) (m : List Int) (t : Int) (data : List Int) : List Int × Bool :=
  bif mrkB n m && (inB t 0 ((n.tasks.length : Int) - 1) && (datOk data && okM (giveL n m (atI n.tasks t) data))) then (giveL n m (atI n.tasks t) data, true) else ([], false)
theorem z0s2 {t : GTask} {places : Int} : ∀ {suf pre : List GFlow}, flowsB t places pre suf = true → ∀ f ∈ suf, 1 ≤ f.to ∧ f.to ≤ places - 1
  | [], _, _, f, hf => by simp at hf
  | x :: suf, pre, h, f, hf => by
    simp only [flowsB, Bool.and_eq_true, z02t] at h
    rcases List.mem_cons.1 hf with rfl | hf
    · exact h.1
    · exact z0s2 h.2.2.2.2 f hf
theorem z0v2 {n : GNet} (h : netB n = true) {t : GTask} (ht : t ∈ n.tasks) : ∀ f ∈ t.out, 1 ≤ f.to ∧ f.to ≤ n.places - 1 := by
  simp only [netB, Bool.and_eq_true, List.all_eq_true] at h
  have := h.2.2 t ht
  simp only [taskB, Bool.and_eq_true] at this
  exact z0s2 this.2.2.2.2.1.2
theorem z0ej {n : GNet} {m : List Int} (h : mrkB n m = true) : netB n = true ∧ (m.length : Int) = n.places ∧ okM m = true := by
  simp only [mrkB, marksB, Bool.and_eq_true, decide_eq_true_eq] at h
  exact ⟨h.1, h.2.1, h.2.2⟩
structure GiveOk (n : GNet) (m : List Int) (t : GTask) (data : List Int) : Prop where
  clears : ∀ p ∈ t.clear, 0 ≤ p ∧ p < m.length
  tos : ∀ p ∈ splL t.split data t.out [], 0 ≤ p ∧ p < (zeros m t.clear).length
  len : (splL t.split data t.out []).length ≤ SMALL
  ok : okM (zeros m t.clear) = true
theorem z11s {n : GNet} {m : List Int} {t : GTask} {data : List Int} (hm : mrkB n m = true) (ht : t ∈ n.tasks) : GiveOk n m t data := by
  obtain ⟨h1, h2, h3⟩ := z0ej hm
  have T := z07a h1 ht
  refine ⟨fun p hp => by have := T.clears p hp; omega, fun p hp => ?_, ?_, z113 _ _ h3⟩
  · rcases z0rj _ _ _ _ _ hp with h | ⟨f, hf, e⟩
    · simp at h
    · have := z0v2 h1 ht f hf; rw [z0na]; omega
  · have := z0ri t.split data t.out []; have := T.outl; rw [List.length_nil] at *; unfold SMALL; omega
theorem z0rg (n : GNet) (m : List Int) (t : Int) (data : List Int) (hn : n.small) (hm : m.length ≤ SMALL) (hd : data.length ≤ SMALL) : z05x n m t data = some (giveB n m t data) := by
  unfold z05x giveB
  rw [z0eq n m hn hm, Option.bind_some, z008 (z09c hn.1), z03d, Option.bind_some, z0b2 _ hd, Option.bind_some, z008 (by simpa using hm)]
  by_cases h1 : mrkB n m = true
  · by_cases h2 : inB t 0 ((n.tasks.length : Int) - 1) = true
    · by_cases h3 : datOk data = true
      · have h2' := z02t.1 h2
        have hg := z03i n.tasks h2'.1 (by omega)
        have ht := z0a2 n.tasks h2'.1 (by omega)
        have G := z11s (data := data) h1 ht
        rw [if_pos h1, if_pos h2, if_pos h3, h1, h2, h3, List.nil_append]
        rw [z0y6 (atI n.tasks t).clear (hn.2 _ ht).2.2 (z022 n t (z03p n t data)) (z03p n t data) m G.clears (fun n s => by rw [z022, hg, Option.bind_some, if_neg (by simp)])
          (fun n i p s b c d g => by rw [z022, hg, Option.bind_some, if_pos (decide_eq_true c), Option.bind_some, b, Option.bind_some, g, Option.bind_some, z008 d])]
        unfold z03p
        rw [hg, Option.bind_some, z0vz _ _ (hn.2 _ ht).2.1 hd, Option.bind_some]
        rw [z0xl _ G.len (z023 _ z03q) z03q (some ([], false)) _ G.tos G.ok (fun n s => by rw [z023, if_neg (by simp)])
          (fun n i p s b c d g o => by rw [z023, if_pos (decide_eq_true c)]; simp only [b, Option.bind_some, g, z008 d, z008 o]; rfl)]
        unfold z03q giveL
        cases okM (incs (zeros m (atI n.tasks t).clear) (splL (atI n.tasks t).split data (atI n.tasks t).out [])) <;> rfl
      · rw [if_pos h1, if_pos h2, if_neg h3, Bool.eq_false_iff.2 h3]; simp
    · rw [if_pos h1, if_neg h2, Bool.eq_false_iff.2 h2]; simp
  · rw [if_neg h1, Bool.eq_false_iff.2 h1]; simp
end Go.Am.Pl
end
section
set_option maxRecDepth 100000
set_option linter.unusedVariables false
set_option linter.unusedSimpArgs false
namespace Go.Am.Pl
open Go
theorem z0x0 (n : GNet) (m : List Int) (t : Int) (data : List Int) : (giveB n m t data).1.length ≤ m.length := by
  unfold giveB
  cases mrkB n m && (inB t 0 ((n.tasks.length : Int) - 1) && (datOk data && okM (giveL n m (atI n.tasks t) data)))
  · simp
  · show (giveL n m (atI n.tasks t) data).length ≤ _
    unfold giveL; rw [z0uu, z0na]; exact Nat.le_refl _
theorem z0x1 {n : GNet} {m : List Int} {t : Int} {data : List Int} (h : (giveB n m t data).2 = true) : getI (giveB n m t data).1 1 = some (atI (giveB n m t data).1 1) := by
  have hl : (2 : Int) ≤ ((giveB n m t data).1.length : Int) := by
    unfold giveB at h ⊢
    cases e : mrkB n m && (inB t 0 ((n.tasks.length : Int) - 1) && (datOk data && okM (giveL n m (atI n.tasks t) data)))
    · rw [e] at h; cases h
    · show (2 : Int) ≤ ((giveL n m (atI n.tasks t) data).length : Int)
      unfold giveL; rw [z0uu, z0na]
      rw [Bool.and_eq_true] at e
      obtain ⟨f1, f2, f3⟩ := z0ej e.1
      have := z079 f1; omega
  exact z03i _ (by omega) (by omega)
def datB (data : List Int) (v num : Int) : List Int := if 0 ≤ v then data.set v.toNat num else data
theorem z0uk (data : List Int) (v num : Int) : (datB data v num).length = data.length := by unfold datB; split <;> simp
theorem z0rx {data : List Int} (h : datOk data = true) : data.length = 3 := by simp only [datOk, Bool.and_eq_true, decide_eq_true_eq] at h; exact h.1
theorem z0tj {data : List Int} {v num : Int} (hd : datOk data = true) (hv : inB v (-1) 2 = true) (hn : inB num (-99) 99 = true) : z073 data v num = some (datB data v num) := by
  have hl := z0rx hd
  have hv' := z02t.1 hv
  have hs : data.length ≤ SMALL := by unfold SMALL; omega
  unfold z073 datB
  rw [z0b2 _ hs, Option.bind_some, if_pos hd, z03d, Option.bind_some, z03d, Option.bind_some, if_pos hn, z008 (by simpa using hs), List.nil_append]
  by_cases h : 0 ≤ v
  · rw [if_pos (z02t.2 ⟨h, hv'.2⟩), z03i data h (by omega), if_pos h]; rfl
  · rw [if_neg (fun e => h (z02t.1 e).1), if_neg h, z008 (by simpa using hs)]
def itD (b : GItem) : GItem := GItem.mk b.task b.who (b.did + 1)
def doneB (n : GNet) (c : GCase) (k : Int) (data : List Int) : GCase × Bool :=
  if (atI c.busy k).did + 1 < (atI n.tasks (atI c.busy k).task).need then (GCase.mk c.state c.marks (c.busy.set k.toNat (itD (atI c.busy k))) data c.did, true)
  else if (giveB n c.marks (atI c.busy k).task data).2 = true then
    (if 0 < atI (giveB n c.marks (atI c.busy k).task data).1 1 then (GCase.mk 2 (giveB n c.marks (atI c.busy k).task data).1 [] data (c.did ++ [GDid.mk (atI c.busy k).task (atI c.busy k).who]), true)
     else (GCase.mk c.state (giveB n c.marks (atI c.busy k).task data).1 (c.busy.take k.toNat ++ c.busy.drop (k + 1).toNat) data (c.did ++ [GDid.mk (atI c.busy k).task (atI c.busy k).who]), true))
  else (c, false)
def workB (n : GNet) (c : GCase) (k v num : Int) : GCase × Bool :=
  bif casB n c && (decide (c.state = 1) && (inB k 0 ((c.busy.length : Int) - 1) && (inB v (-1) 2 && (inB num (-99) 99 && !decide ((c.did.length : Int) = 60))))) then doneB n c k (datB c.data v num) else (c, false)
theorem z0re (n : GNet) (c : GCase) (k v num : Int) (hn : n.small) (hc : c.small) : z05v n c k v num = some (workB n c k v num) := by
  unfold z05v workB
  rw [z0kn c hc, Option.bind_some, z0iv n c hn hc, Option.bind_some, z008 (z09c hc.2.1)]
  simp only [z03d, Option.bind_some]
  by_cases h1 : casB n c = true
  case neg => rw [if_neg h1, Bool.eq_false_iff.2 h1]; rfl
  by_cases h2 : c.state = 1
  case neg => rw [if_pos h1, if_neg (by simpa using h2), decide_eq_false h2]; simp
  by_cases h3 : inB k 0 ((c.busy.length : Int) - 1) = true
  case neg => rw [if_pos h1, if_pos (decide_eq_true h2), if_neg h3, Bool.eq_false_iff.2 h3]; simp
  by_cases h4 : inB v (-1) 2 = true
  case neg => rw [if_pos h1, if_pos (decide_eq_true h2), if_pos h3, if_neg h4, Bool.eq_false_iff.2 h4]; simp
  by_cases h5 : inB num (-99) 99 = true
  case neg => rw [if_pos h1, if_pos (decide_eq_true h2), if_pos h3, if_pos h4, if_neg h5, Bool.eq_false_iff.2 h5]; simp
  by_cases h6 : (c.did.length : Int) = 60
  · rw [if_pos h1, if_pos (decide_eq_true h2), if_pos h3, if_pos h4, if_pos h5, if_pos (decide_eq_true h6), decide_eq_true h6]; simp
  rw [if_pos h1, if_pos (decide_eq_true h2), if_pos h3, if_pos h4, if_pos h5, if_neg (by simpa using h6), h1, decide_eq_true h2, h3, h4, h5, decide_eq_false h6]
  have F := z0dt h1
  have hk := z02t.1 h3
  have hb := z0a2 c.busy hk.1 (by omega)
  obtain ⟨ft, fw, fd⟩ := F.busy _ hb
  have ht := z0a2 n.tasks ft.1 ft.2
  have T := z07a F.net ht
  have hneed := T.need
  have hall := T.all
  have hl := z0rx F.data
  have hds : (datB c.data v num).length ≤ SMALL := by rw [z0uk]; unfold SMALL; omega
  have h60 := F.didl
  have hbl := F.busyl
  rw [z03i c.busy hk.1 (by omega), Option.bind_some, z0tj F.data h4 h5, Option.bind_some, z008 (by constructor <;> omega), Option.bind_some, z008 (by constructor <;> omega), z03i n.tasks ft.1 ft.2, Option.bind_some]
  show _ = some (doneB n c k (datB c.data v num))
  unfold doneB
  by_cases h7 : (atI c.busy k).did + 1 < (atI n.tasks (atI c.busy k).task).need
  · rw [if_pos (decide_eq_true h7), if_pos h7]; rfl
  rw [if_neg (by simpa using h7), if_neg h7, z0rg n _ _ _ hn hc.1 hds, Option.bind_some]
  by_cases h8 : (giveB n c.marks (atI c.busy k).task (datB c.data v num)).2 = true
  case neg => rw [if_neg h8, if_neg h8]
  rw [if_pos h8, if_pos h8, z008 (by omega), z008 (by simp; unfold SMALL; omega), z008 (by constructor <;> omega), z008 (by omega), z008 (by simp; unfold SMALL; omega), z008 (by simp; unfold SMALL; omega), z0x1 h8, Option.bind_some]
  by_cases h9 : 0 < atI (giveB n c.marks (atI c.busy k).task (datB c.data v num)).1 1
  · rw [if_pos (decide_eq_true h9), if_pos h9]
  · rw [if_neg (by simpa using h9), if_neg h9]; rfl
end Go.Am.Pl
end
section
set_option maxRecDepth 100000
set_option maxHeartbeats 1000000
set_option linter.unusedVariables false
set_option linter.unusedSimpArgs false
namespace Go.Am.Pl
open Go
end Go.Am.Pl
end
section
set_option maxRecDepth 100000
set_option linter.unusedVariables false
set_option linter.unusedSimpArgs false
namespace Go.Am.Pl
open Go
theorem z0ry {α γ β : Type} (l : List α) (hl : l.length ≤ SMALL) (e : α → List γ) (f : Nat → Int → List γ → Option β) (kx : List γ → Option β) (h0 : ∀ n s, f (n + 1) (l.length : Int) s = kx s)
    (h1 : ∀ n pre x suf s, l = pre ++ x :: suf → getI l (pre.length : Int) = some x → x ∈ l → (pre.length : Int) < (l.length : Int) → ok64 ((pre.length : Int) + 1) → s = pre.flatMap e → f (n + 1) (pre.length : Int) s = f n ((pre.length : Int) + 1) (s ++ e x)) :
    f FUEL 0 [] = kx (l.flatMap e) := by
  have := scan l (by unfold SMALL at hl; omega) f (fun pre suf s => kx (s ++ suf.flatMap e)) (fun pre s => s = pre.flatMap e) (fun n s _ => by rw [h0]; simp)
    (fun n pre x suf s a b c d i k => by
      rw [h1 n pre x suf s a b (by rw [a]; simp) c d i, k (s ++ e x) (by rw [i]; simp)]
      simp) FUEL [] rfl (by have := z04g; unfold SMALL at hl; omega)
  rw [this]; simp
theorem z0q7 {α γ : Type} {e : α → List γ} (he : ∀ x, (e x).length ≤ 1) : ∀ l : List α, (l.flatMap e).length ≤ l.length
  | [] => by simp
  | x :: l => by have := z0q7 he l; have := he x; simp only [List.flatMap_cons, List.length_append, List.length_cons]; omega
end Go.Am.Pl
end
section
set_option maxRecDepth 100000
set_option linter.unusedVariables false
set_option linter.unusedSimpArgs false
namespace Go.Am.Pl
open Go
def atB (l : List Bool) (p : Int) : Bool := (getI l p).getD false
theorem z0hq (l : List Bool) {i : Int} (h0 : 0 ≤ i) (h1 : i < l.length) : getI l i = some (atB l i) := by
  obtain ⟨x, hx, _⟩ := z0s5 l h0 h1
  unfold atB; rw [hx]; rfl
def setT (l : List Bool) (p : Int) : List Bool := l.set p.toNat true
theorem z0n7 (l : List Bool) (p : Int) : (setT l p).length = l.length := by simp [setT]
theorem z0ya (l : List Bool) {p q : Int} (hp : 0 ≤ p) (hq : 0 ≤ q) (hl : q < l.length) : atB (setT l p) q = (decide (p = q) || atB l q) := by
  unfold atB setT
  rw [z0qg l true hp hq hl]
  by_cases h : p = q <;> simp [h]
def setTs (l : List Bool) (ps : List Int) : List Bool := ps.foldl setT l
theorem z0sr : ∀ (ps : List Int) (l : List Bool), (setTs l ps).length = l.length
  | [], l => rfl
  | p :: ps, l => by show (setTs (setT l p) ps).length = _; rw [z0sr ps, z0n7]
theorem z0u9 : ∀ (ps : List Int) (l : List Bool) {q : Int}, (∀ p ∈ ps, 0 ≤ p) → 0 ≤ q → q < l.length → atB (setTs l ps) q = (decide (q ∈ ps) || atB l q)
  | [], l, q, _, _, _ => by simp [setTs]
  | p :: ps, l, q, hp, h0, h1 => by
    show atB (setTs (setT l p) ps) q = _
    rw [z0u9 ps (setT l p) (fun x hx => hp x (by simp [hx])) h0 (by rw [z0n7]; exact h1), z0ya l (hp p (by simp)) h0 h1]
    by_cases h : p = q
    · subst h; simp
    · have : q ≠ p := fun e => h e.symm
      simp [h, this]
def rndT (but i : Int) (t : GTask) (l : List Bool) : List Bool := if i ≠ but ∧ t.in_.any (atB l) = true then setTs l (t.out.map (·.to)) else l
def rnd (but : Int) : Int → List GTask → List Bool → List Bool
  | _, [], l => l
  | i, t :: ts, l => rnd but (i + 1) ts (rndT but i t l)
theorem z0b0 (but i : Int) (t : GTask) (l : List Bool) : (rndT but i t l).length = l.length := by
  unfold rndT; split
  · rw [z0sr]
  · rfl
theorem z0b1 (but : Int) : ∀ (ts : List GTask) (i : Int) (l : List Bool), (rnd but i ts l).length = l.length
  | [], _, _ => rfl
  | t :: ts, i, l => by unfold rnd; rw [z0b1 but ts, z0b0]
def Pls (N : Int) (ts : List GTask) : Prop := ∀ t ∈ ts, (∀ p ∈ t.in_, 0 ≤ p ∧ p < N) ∧ ∀ f ∈ t.out, 0 ≤ f.to ∧ f.to < N
theorem z0vk {but i : Int} {t : GTask} {l : List Bool} (ht : ∀ f ∈ t.out, 0 ≤ f.to ∧ f.to < (l.length : Int)) {q : Int} (h0 : 0 ≤ q) (h1 : q < l.length) :
    atB (rndT but i t l) q = ((decide (i ≠ but) && t.in_.any (atB l) && t.out.any (fun f => decide (f.to = q))) || atB l q) := by
  unfold rndT
  by_cases hc : i ≠ but ∧ t.in_.any (atB l) = true
  · rw [if_pos hc, z0u9 _ _ (fun p hp => by obtain ⟨f, hf, e⟩ := List.mem_map.1 hp; subst e; exact (ht f hf).1) h0 h1, decide_eq_true hc.1, hc.2, Bool.true_and, Bool.true_and]
    congr 1
    rw [Bool.eq_iff_iff]; simp
  · rw [if_neg hc]
    have : (decide (i ≠ but) && t.in_.any (atB l)) = false := by
      rw [Bool.eq_false_iff]; intro h; rw [Bool.and_eq_true, decide_eq_true_eq] at h; exact hc h
    rw [this]; rfl
def Sub (a b : List Bool) : Prop := ∀ q : Int, 0 ≤ q → q < a.length → atB a q = true → atB b q = true
theorem z0vl {but i : Int} {t : GTask} {l : List Bool} (ht : ∀ f ∈ t.out, 0 ≤ f.to ∧ f.to < (l.length : Int)) : Sub l (rndT but i t l) := fun q h0 h1 h => by
  rw [z0vk ht h0 h1, h, Bool.or_true]
theorem z0pc {but : Int} : ∀ (ts : List GTask) (i : Int) (l : List Bool), Pls l.length ts → Sub l (rnd but i ts l)
  | [], _, _, _ => fun _ _ _ h => h
  | t :: ts, i, l, hp => fun q h0 h1 h => by
    have ht := (hp t (by simp)).2
    unfold rnd
    exact z0pc ts (i + 1) (rndT but i t l) (by rw [z0b0]; exact fun x hx => hp x (by simp [hx])) q h0 (by rw [z0b0]; exact h1) (z0vl ht q h0 h1 h)
def Stp (but : Int) (ts : List GTask) (p q : Int) : Prop := ∃ (j : Nat) (t : GTask), ts[j]? = some t ∧ (j : Int) ≠ but ∧ p ∈ t.in_ ∧ ∃ f ∈ t.out, f.to = q
inductive Star (but : Int) (ts : List GTask) : Int → Int → Prop where
  | refl (p : Int) : Star but ts p p
  | tail {p q r : Int} : Star but ts p q → Stp but ts q r → Star but ts p r
def Sound (but : Int) (ts : List GTask) (S : Int → Prop) (l : List Bool) : Prop := ∀ q : Int, 0 ≤ q → q < l.length → atB l q = true → ∃ p, S p ∧ Star but ts p q
theorem z0sq {but : Int} {all : List GTask} {S : Int → Prop} : ∀ (ts pre : List GTask) (l : List Bool), all = pre ++ ts → Pls l.length all → Sound but all S l → Sound but all S (rnd but pre.length ts l)
  | [], _, _, _, _, h => h
  | t :: ts, pre, l, ha, hp, h => by
    have hm : t ∈ all := by rw [ha]; simp
    have ht := hp t hm
    unfold rnd
    have := z0sq (all := all) (S := S) ts (pre ++ [t]) (rndT but pre.length t l) (by rw [ha]; simp) (by rw [z0b0]; exact hp) (fun q h0 h1 hq => by
      rw [z0b0] at h1
      rw [z0vk ht.2 h0 h1] at hq
      rcases Bool.or_eq_true _ _ ▸ hq with hq | hq
      · simp only [Bool.and_eq_true, decide_eq_true_eq, List.any_eq_true] at hq
        obtain ⟨⟨hb, p, hpi, hpt⟩, f, hf, e⟩ := hq
        obtain ⟨s, hs, hst⟩ := h p (ht.1 p hpi).1 (ht.1 p hpi).2 hpt
        exact ⟨s, hs, hst.tail ⟨pre.length, t, by rw [ha]; simp, hb, hpi, f, hf, e⟩⟩
      · exact h q h0 h1 hq)
    simpa using this
def Shut (but : Int) (ts : List GTask) (l : List Bool) : Prop := ∀ p q : Int, 0 ≤ p → p < l.length → atB l p = true → Stp but ts p q → atB l q = true
theorem z10o {but i : Int} {t : GTask} {l : List Bool} (h : rndT but i t l = l) (ht : ∀ f ∈ t.out, 0 ≤ f.to ∧ f.to < (l.length : Int)) (hb : i ≠ but) {p : Int} (hp : p ∈ t.in_) (hl : atB l p = true) : ∀ f ∈ t.out, atB l f.to = true := fun f hf => by
  have := z0vk (but := but) (i := i) ht (ht f hf).1 (ht f hf).2
  rw [h] at this
  rw [this, decide_eq_true hb, Bool.true_and, List.any_eq_true.2 ⟨p, hp, hl⟩, Bool.true_and, List.any_eq_true.2 ⟨f, hf, by simp⟩]; rfl
theorem z13k {a b : List Bool} (hl : a.length = b.length) (h1 : Sub a b) (h2 : Sub b a) : a = b := by
  apply List.ext_getElem?
  intro j
  by_cases hj : j < a.length
  · have e1 := h1 j (by omega) (by omega)
    have e2 := h2 j (by omega) (by omega)
    unfold atB at e1 e2
    rw [z085, z085] at e1 e2
    rw [List.getElem?_eq_getElem hj, List.getElem?_eq_getElem (show j < b.length by omega)] at e1 e2 ⊢
    simp only [Option.getD_some] at e1 e2
    cases ha : a[j] <;> cases hb : b[j] <;> simp_all
  · rw [List.getElem?_eq_none (by omega), List.getElem?_eq_none (by omega)]
theorem Sub.trans {a b c : List Bool} (hl : a.length = b.length) (h1 : Sub a b) (h2 : Sub b c) : Sub a c := fun q h0 h3 h => h2 q h0 (by omega) (h1 q h0 h3 h)
theorem z0z3 {but : Int} : ∀ (ts : List GTask) (i : Int) (l : List Bool), Pls l.length ts → rnd but i ts l = l → ∀ (j : Nat) (t : GTask), ts[j]? = some t → rndT but (i + j) t l = l
  | [], _, _, _, _, j, t, h => by simp at h
  | u :: ts, i, l, hp, h, j, t, hj => by
    have hu := (hp u (by simp)).2
    have hp' : Pls ((rndT but i u l).length) ts := by rw [z0b0]; exact fun x hx => hp x (by simp [hx])
    have h2 := z0pc (but := but) ts (i + 1) (rndT but i u l) hp'
    unfold rnd at h
    rw [h] at h2
    have e : rndT but i u l = l := z13k (z0b0 _ _ _ _) h2 (z0vl hu)
    cases j with
    | zero => simp at hj; subst hj; simpa using e
    | succ j =>
      rw [e] at h
      have := z0z3 ts (i + 1) l (fun x hx => hp x (by simp [hx])) h j t (by simpa using hj)
      rw [show i + ((j + 1 : Nat) : Int) = i + 1 + j by omega]; exact this
theorem z0zv {but : Int} {ts : List GTask} {l : List Bool} (hp : Pls l.length ts) (h : rnd but 0 ts l = l) : Shut but ts l := fun p q h0 h1 ha ⟨j, t, hj, hb, hpi, f, hf, e⟩ => by
  subst e
  have := z0z3 ts 0 l hp h j t hj
  rw [Int.zero_add] at this
  exact z10o this (hp t (List.mem_iff_getElem?.2 ⟨j, hj⟩)).2 hb hpi ha f hf
theorem z0xj {but : Int} {ts : List GTask} {l : List Bool} (hp : Pls l.length ts) (h : Shut but ts l) {p q : Int} (hs : Star but ts p q) (h0 : 0 ≤ p) (h1 : p < l.length) (ha : atB l p = true) : (0 ≤ q ∧ q < l.length) ∧ atB l q = true := by
  induction hs with
  | refl => exact ⟨⟨h0, h1⟩, ha⟩
  | tail _ st ih =>
    obtain ⟨⟨i0, i1⟩, i2⟩ := ih
    refine ⟨?_, h _ _ i0 i1 i2 st⟩
    obtain ⟨j, t, hj, _, _, f, hf, e⟩ := st
    subst e
    exact (hp t (List.mem_iff_getElem?.2 ⟨j, hj⟩)).2 f hf
def cntT (l : List Bool) : Nat := (l.filter id).length
theorem z11i (l : List Bool) : cntT l ≤ l.length := List.length_filter_le _ _
theorem z0rv (x : Bool) (l : List Bool) : cntT (x :: l) = (if x = true then 1 else 0) + cntT l := by
  unfold cntT; cases x <;> simp; omega
theorem z0ui : ∀ (a b : List Bool), a.length = b.length → (∀ j : Nat, a[j]? = some true → b[j]? = some true) → cntT a ≤ cntT b ∧ (cntT a = cntT b → a = b)
  | [], [], _, _ => ⟨Nat.le_refl _, fun _ => rfl⟩
  | [], _ :: _, h, _ => by simp at h
  | _ :: _, [], h, _ => by simp at h
  | x :: a, y :: b, hl, h => by
    have h0 : x = true → y = true := fun e => by have := h 0 (by simp [e]); simpa using this
    obtain ⟨i1, i2⟩ := z0ui a b (by simpa using hl) (fun j hj => by have := h (j + 1) (by simpa using hj); simpa using this)
    rw [z0rv, z0rv]
    cases x <;> cases y
    · exact ⟨by simpa using i1, fun e => by rw [i2 (by simpa using e)]⟩
    · exact ⟨by simp; omega, fun e => by simp at e; omega⟩
    · exact absurd (h0 rfl) (by simp)
    · exact ⟨by simpa using i1, fun e => by rw [i2 (by simpa using e)]⟩
theorem z0z8 {a b : List Bool} (hl : a.length = b.length) (h : Sub a b) : cntT a ≤ cntT b ∧ (cntT a = cntT b → a = b) := by
  refine z0ui a b hl fun j hj => ?_
  have hlt : j < a.length := by
    rcases Nat.lt_or_ge j a.length with h2 | h2
    · exact h2
    · rw [List.getElem?_eq_none h2] at hj; cases hj
  have := h j (by omega) (by omega) (by unfold atB; rw [z085, hj]; rfl)
  unfold atB at this
  rw [z085] at this
  cases e : b[j]? with
  | none => rw [e] at this; cases this
  | some v => rw [e] at this; simp at this; rw [this]
def iter (but : Int) (ts : List GTask) : Nat → List Bool → List Bool
  | 0, l => l
  | k + 1, l => iter but ts k (rnd but 0 ts l)
theorem z0qk (but : Int) (ts : List GTask) : ∀ (k : Nat) (l : List Bool), (iter but ts k l).length = l.length
  | 0, _ => rfl
  | k + 1, l => by show (iter but ts k (rnd but 0 ts l)).length = _; rw [z0qk but ts k, z0b1]
theorem z0sb {but : Int} {ts : List GTask} {l : List Bool} (h : rnd but 0 ts l = l) : ∀ k : Nat, iter but ts k l = l
  | 0 => rfl
  | k + 1 => by show iter but ts k (rnd but 0 ts l) = l; rw [h]; exact z0sb h k
theorem z0uw {but : Int} {ts : List GTask} : ∀ (k : Nat) (l : List Bool), Pls l.length ts → l.length ≤ cntT l + k → rnd but 0 ts (iter but ts k l) = iter but ts k l
  | 0, l, hp, h => by
    have hs := z0pc (but := but) ts 0 l hp
    obtain ⟨h1, h2⟩ := z0z8 (z0b1 but ts 0 l).symm hs
    have h3 := z11i (rnd but 0 ts l)
    rw [z0b1] at h3
    exact (h2 (by omega)).symm
  | k + 1, l, hp, h => by
    by_cases e : rnd but 0 ts l = l
    · rw [z0sb e]; exact e
    · have hs := z0pc (but := but) ts 0 l hp
      obtain ⟨h1, h2⟩ := z0z8 (z0b1 but ts 0 l).symm hs
      have h4 : cntT l ≠ cntT (rnd but 0 ts l) := fun e2 => e (h2 e2).symm
      exact z0uw k (rnd but 0 ts l) (by rw [z0b1]; exact hp) (by rw [z0b1]; omega)
theorem z0ux {but : Int} {ts : List GTask} : ∀ (k : Nat) (l : List Bool), Pls l.length ts → Sub l (iter but ts k l)
  | 0, _, _ => fun _ _ _ h => h
  | k + 1, l, hp => Sub.trans (z0b1 but ts 0 l).symm (z0pc ts 0 l hp) (z0ux k (rnd but 0 ts l) (by rw [z0b1]; exact hp))
theorem z0oi {but : Int} {ts : List GTask} {S : Int → Prop} : ∀ (k : Nat) (l : List Bool), Pls l.length ts → Sound but ts S l → Sound but ts S (iter but ts k l)
  | 0, _, _, h => h
  | k + 1, l, hp, h => z0oi k (rnd but 0 ts l) (by rw [z0b1]; exact hp) (z0sq ts [] l rfl hp h)
theorem z0w3 {but : Int} {ts : List GTask} {l r : List Bool} (hp : Pls l.length ts) (hl : r.length = l.length) (h1 : Sub l r) (h2 : rnd but 0 ts r = r) (h3 : Sound but ts (fun p => (0 ≤ p ∧ p < l.length) ∧ atB l p = true) r) {q : Int} (h0 : 0 ≤ q) (hq : q < l.length) :
    atB r q = true ↔ ∃ p : Int, ((0 ≤ p ∧ p < l.length) ∧ atB l p = true) ∧ Star but ts p q := by
  have hp' : Pls r.length ts := by rw [hl]; exact hp
  constructor
  · exact h3 q h0 (by rw [hl]; exact hq)
  · rintro ⟨p, ⟨⟨a, b⟩, c⟩, st⟩
    exact (z0xj hp' (z0zv hp' h2) st a (by rw [hl]; exact b) (h1 p a b c)).2
theorem z0vy {but : Int} {ts : List GTask} (l : List Bool) : Sound but ts (fun p => (0 ≤ p ∧ p < l.length) ∧ atB l p = true) l := fun q h0 h1 h => ⟨q, ⟨⟨h0, h1⟩, h⟩, .refl q⟩
end Go.Am.Pl
end
section
set_option maxRecDepth 100000
set_option linter.unusedVariables false
set_option linter.unusedSimpArgs false
namespace Go.Am.Pl
open Go
theorem scanE {α β σ : Type} (l : List α) (hl : l.length ≤ SMALL) (f : Nat → Int → σ → Option β) (kx : σ → Option β) (Inv : List α → σ → Prop)
    (h0 : ∀ n s, f (n + 1) (l.length : Int) s = kx s)
    (h1 : ∀ n pre x suf s, l = pre ++ x :: suf → getI l (pre.length : Int) = some x → x ∈ l → ((pre.length : Int) < (l.length : Int)) → ok64 ((pre.length : Int) + 1) → Inv pre s →
      ∃ s', Inv (pre ++ [x]) s' ∧ f (n + 1) (pre.length : Int) s = f n ((pre.length : Int) + 1) s') :
    ∀ s, Inv [] s → ∃ s', Inv l s' ∧ f FUEL 0 s = kx s' := by
  unfold SMALL at hl
  have key : ∀ suf pre n s, l = pre ++ suf → Inv pre s → suf.length < n → ∃ s', Inv l s' ∧ f n (pre.length : Int) s = kx s' := by
    intro suf
    induction suf with
    | nil =>
      intro pre n s hp hi hn
      obtain ⟨m, rfl⟩ : ∃ m, n = m + 1 := ⟨n - 1, by simp at hn; omega⟩
      simp only [List.append_nil] at hp
      subst hp
      exact ⟨s, hi, h0 m s⟩
    | cons x suf ih =>
      intro pre n s hp hi hn
      obtain ⟨m, rfl⟩ : ∃ m, n = m + 1 := ⟨n - 1, by simp at hn; omega⟩
      have hlen : l.length = pre.length + suf.length + 1 := by rw [hp]; simp; omega
      obtain ⟨s', hi', e⟩ := h1 m pre x suf s hp (by rw [hp]; exact z0qf pre x suf) (by rw [hp]; simp) (by omega) (by constructor <;> omega) hi
      obtain ⟨s2, hi2, e2⟩ := ih (pre ++ [x]) m s' (by rw [hp]; simp) hi' (by simp at hn; omega)
      refine ⟨s2, hi2, ?_⟩
      rw [e, ← e2]; simp
  intro s hi
  exact key l [] FUEL s (by simp) hi (by have := z04g; omega)
theorem z13j {n : GNet} {i : Int} {t : GTask} {l : List Bool} (kx : Bool → Option (List Bool)) (h : getI n.tasks i = some t) (hs : t.in_.length ≤ SMALL) (hp : ∀ p ∈ t.in_, 0 ≤ p ∧ p < l.length) :
    z00r n i l kx FUEL false 0 = kx (t.in_.any (atB l)) :=
  scan t.in_ (by unfold SMALL at hs; omega) (fun f k s => z00r n i l kx f s k) (fun _ suf s => kx (s || suf.any (atB l))) (fun _ _ => True)
    (fun f s _ => by rw [z00r, h, Option.bind_some, if_neg (by simp)]; simp)
    (fun f pre x suf s a b c d _ k => by
      have hx := hp x (by rw [a]; simp)
      rw [z00r, h, Option.bind_some, if_pos (decide_eq_true c)]
      cases s
      · rw [if_neg (by simp), Option.bind_some, b, Option.bind_some, z0hq l hx.1 hx.2, Option.bind_some, z008 d, k _ trivial]; simp
      · rw [if_pos rfl, z008 d, k _ trivial]; simp) FUEL false trivial (by have := z04g; unfold SMALL at hs; omega)
theorem z12j {n : GNet} {but i : Int} {t : GTask} {s : Bool} {l : List Bool} (kx : List Bool → Option (List Bool)) (h : getI n.tasks i = some t) (hs : t.out.length ≤ SMALL) (hp : ∀ f ∈ t.out, 0 ≤ f.to ∧ f.to < l.length) :
    z00m n but i s kx kx kx FUEL 0 l = kx (if i ≠ but ∧ s = true then setTs l (t.out.map (·.to)) else l) := by
  obtain ⟨g, hF⟩ : ∃ g, FUEL = g + 1 := ⟨FUEL - 1, by have := z04g; omega⟩
  by_cases hb : i = but
  · rw [hF, z00m, h, Option.bind_some]
    cases s <;> simp [hb]
  · cases s
    · rw [hF, z00m, h, Option.bind_some]; simp
    · rw [if_pos ⟨hb, rfl⟩]
      exact scan t.out (by unfold SMALL at hs; omega) (z00m n but i true kx kx kx) (fun _ suf l => kx (setTs l (suf.map (·.to)))) (fun _ l2 => l2.length = l.length)
        (fun f s _ => by rw [z00m, h, Option.bind_some, if_neg (by simp)]; rfl)
        (fun f pre x suf s a b c d hi k => by
          have hx := hp x (by rw [a]; simp)
          rw [z00m, h, Option.bind_some, if_pos (decide_eq_true c), if_pos rfl, if_neg (by simpa using hb), Option.bind_some, b, Option.bind_some, z0hq s hx.1 (by rw [hi]; exact hx.2), Option.bind_some, z008 d]
          exact k _ (by rw [← hi, ← z0n7 s x.to]; rfl)) FUEL l rfl (by have := z04g; unfold SMALL at hs; omega)
theorem z0v1 {n : GNet} (h : netB n = true) {N : Nat} (hN : (N : Int) = n.places) : Pls N n.tasks := fun t ht => by
  have T := z07a h ht
  refine ⟨fun p hp => by have := T.ins p hp; omega, fun f hf => ?_⟩
  have := z0v2 h ht f hf; omega
theorem z0pi {n : GNet} {l : List Bool} (but : Int) (hn : n.small) (h : netB n = true) (hl : (l.length : Int) = n.places) : z055 n l but = some (iter but n.tasks l.length l) := by
  have hsz := z079 h
  have hP := z0v1 h hl
  unfold z055
  rw [z008 (by simp; unfold SMALL; omega), List.nil_append]
  have round : ∀ (kx : List Bool → Option (List Bool)) (s : List Bool), s.length = l.length → z006 n but kx FUEL 0 s = kx (rnd but 0 n.tasks s) := fun kx s hs =>
    scan n.tasks (by have := hn.1; unfold SMALL at this; omega) (z006 n but kx) (fun pre suf s => kx (rnd but pre.length suf s)) (fun _ s => s.length = l.length)
      (fun f s _ => by rw [z006, if_neg (by simp)]; rfl)
      (fun f pre x suf s a b c d hi k => by
        have hx : x ∈ n.tasks := by rw [a]; simp
        have hx2 := hP x hx
        rw [z006, if_pos (decide_eq_true c), z13j _ b (hn.2 x hx).1 (by rw [hi]; exact hx2.1)]
        unfold z07p
        have e2 : z04r (pre.length : Int) (z006 n but kx f) = fun z => z006 n but kx f ((pre.length : Int) + 1) z := funext fun z => by unfold z04r; rw [z008 d]
        have e3 : z04s (pre.length : Int) (z006 n but kx f) = fun z => z006 n but kx f ((pre.length : Int) + 1) z := funext fun z => by unfold z04s; rw [z008 d]
        have e4 : z04t (pre.length : Int) (z006 n but kx f) = fun z => z006 n but kx f ((pre.length : Int) + 1) z := funext fun z => by unfold z04t; rw [z008 d]
        rw [e2, e3, e4, z12j _ b (hn.2 x hx).2.1 (by rw [hi]; exact hx2.2)]
        have := k (rndT but pre.length x s) (by rw [z0b0, hi])
        rw [rnd]
        rw [List.length_append, List.length_singleton] at this
        exact this) FUEL s hs (by have := z04g; have := hn.1; unfold SMALL at this; omega)
  have hrep : (List.replicate l.length ()).length = l.length := by simp
  have := scan (List.replicate l.length ()) (by rw [hrep]; omega) (z01s n but z07r) (fun _ suf s => some (iter but n.tasks suf.length s)) (fun _ s => s.length = l.length)
      (fun f s _ => by rw [z01s, hrep, if_neg (by simp; omega)]; rfl)
      (fun f pre x suf s a b c d hi k => by
        rw [hrep] at c
        rw [z01s, if_pos (by simp; omega), round _ s hi]
        unfold z07q
        rw [z008 d]
        exact k _ (by rw [z0b1, hi])) FUEL l rfl (by have := z04g; rw [hrep]; omega)
  rw [this, hrep]
def oneT (N : Nat) (p : Int) : List Bool := setT (List.replicate N false) p
theorem z11b (N : Nat) (q : Int) : atB (List.replicate N false) q = false := by
  unfold atB getI
  split
  · cases e : (List.replicate N false)[q.toNat]? with
    | none => rfl
    | some v =>
      have := List.mem_of_getElem? e
      rw [List.mem_replicate] at this
      simp [this.2]
  · rfl
theorem z0w2 {n : GNet} {l : List Bool} {but q : Int} (h : netB n = true) (hl : (l.length : Int) = n.places) (g0 : 0 ≤ q) (g1 : q < n.places) :
    atB (iter but n.tasks l.length l) q = true ↔ ∃ p, (0 ≤ p ∧ p < n.places) ∧ atB l p = true ∧ Star but n.tasks p q := by
  have hP : Pls l.length n.tasks := z0v1 h hl
  rw [z0w3 hP (by rw [z0qk]) (z0ux _ _ hP) (z0uw _ _ hP (by omega)) (z0oi _ _ hP (z0vy _)) g0 (by omega)]
  constructor
  · rintro ⟨x, ⟨⟨a, b⟩, c⟩, st⟩; exact ⟨x, ⟨a, by omega⟩, c, st⟩
  · rintro ⟨x, ⟨a, b⟩, c, st⟩; exact ⟨x, ⟨⟨a, by omega⟩, c⟩, st⟩
end Go.Am.Pl
end
section
set_option maxRecDepth 100000
set_option linter.unusedVariables false
set_option linter.unusedSimpArgs false
namespace Go.Am.Pl
open Go
def srcB (n : GNet) (marks : List Int) (busy : List GItem) (ins : List Int) (p : Int) : Bool :=
  (decide (0 < atI marks p) && !ins.any (fun x => decide (x = p))) || busy.any (fun b => (atI n.tasks b.task).out.any (fun f => decide (f.to = p)))
def Coming (n : GNet) (marks : List Int) (busy : List GItem) (t : Int) : Prop :=
  ∃ q ∈ (atI n.tasks t).in_, atI marks q = 0 ∧ ∃ p : Int, (0 ≤ p ∧ p < n.places) ∧ srcB n marks busy (atI n.tasks t).in_ p = true ∧ Star t n.tasks p q
noncomputable def comB (n : GNet) (marks : List Int) (busy : List GItem) (t : Int) : Bool := @decide (Coming n marks busy t) (Classical.propDecidable _)
theorem z0zt {n : GNet} {marks : List Int} {busy : List GItem} {t : Int} : comB n marks busy t = true ↔ Coming n marks busy t := by unfold comB; exact @decide_eq_true_iff _ (Classical.propDecidable _)
theorem z11j {n : GNet} {marks : List Int} {busy : List GItem} {t : Int} {b : Bool} (h : b = true ↔ Coming n marks busy t) : b = comB n marks busy t := by
  rw [Bool.eq_iff_iff, h, z0zt]
structure MB (n : GNet) (m : List Int) (busy : List GItem) : Prop where
  net : netB n = true
  len : (m.length : Int) = n.places
  mks : ∀ x ∈ m, 0 ≤ x ∧ x ≤ 4
  busyl : busy.length ≤ 6
  busy : ∀ b ∈ busy, (0 ≤ b.task ∧ b.task < n.tasks.length)
theorem mb_of {n : GNet} {m : List Int} {busy : List GItem} (h1 : mrkB n m = true) (h2 : busyB n busy = true) : MB n m busy := by
  obtain ⟨a, b, c⟩ := z0ej h1
  simp only [busyB, itemB, Bool.and_eq_true, List.all_eq_true, z02t, decide_eq_true_eq] at h2
  exact ⟨a, b, z0in.1 c, by omega, fun x hx => by have := h2.2 x hx; omega⟩
theorem z0pj {n : GNet} {marks : List Int} {busy : List GItem} {t : Int} (hn : n.small) (M : MB n marks busy) (t0 : 0 ≤ t) (t1 : t < n.tasks.length) : z056 n marks busy t = some (comB n marks busy t) := by
  have hsz := z079 M.net
  have hml := M.len
  have hg := z03i n.tasks t0 t1
  have hm := z0a2 n.tasks t0 t1
  have T := z07a M.net hm
  have hsm := hn.2 _ hm
  generalize hins : (atI n.tasks t).in_ = ins at *
  unfold z056
  rw [z008 (by omega)]
  obtain ⟨s1, ⟨hl1, hv1⟩, e1⟩ := scanE marks (by unfold SMALL; omega) (z00t n marks t (z01t n marks busy t)) (z01t n marks busy t)
    (fun pre s => (s.length : Int) = n.places ∧ ∀ q : Int, 0 ≤ q → q < n.places → atB s q = (decide (q < pre.length) && (decide (0 < atI marks q) && !ins.any (fun x => decide (x = q)))))
    (fun f s => by rw [z00t, if_neg (by simp; omega)])
    (fun f pre x suf s a b c d g hi => by
      have hx : 0 ≤ (pre.length : Int) ∧ (pre.length : Int) < n.places := by omega
      have hgs := z0hq s hx.1 (by omega)
      have hat : atI marks pre.length = x := by unfold atI; rw [b]; rfl
      have inv : ∀ v : Bool, v = (decide (0 < x) && !ins.any (fun y => decide (y = (pre.length : Int)))) → ((s.set (pre.length : Int).toNat v).length : Int) = n.places ∧ ∀ q : Int, 0 ≤ q → q < n.places → atB (s.set (pre.length : Int).toNat v) q = (decide (q < (pre ++ [x]).length) && (decide (0 < atI marks q) && !ins.any (fun x => decide (x = q)))) := fun v hv => by
        refine ⟨by rw [List.length_set]; exact hi.1, fun q q0 q1 => ?_⟩
        have e : atB (s.set (pre.length : Int).toNat v) q = if (pre.length : Int) = q then v else atB s q := by
          unfold atB; rw [z0qg s v hx.1 q0 (by omega)]
          split <;> rfl
        rw [e]
        by_cases h : (pre.length : Int) = q
        · rw [if_pos h, ← h, hat, hv]
          have : decide ((pre.length : Int) < (((pre ++ [x]).length : Nat) : Int)) = true := by simp; omega
          rw [this, Bool.true_and]
        · rw [if_neg h, hi.2 q q0 q1]
          have : decide (q < (pre.length : Int)) = decide (q < (((pre ++ [x]).length : Nat) : Int)) := decide_eq_decide.2 (by simp; omega)
          rw [this]
      rw [z00t, if_pos (decide_eq_true (by omega)), b, Option.bind_some]
      by_cases h : 0 < x
      · rw [if_pos (decide_eq_true h), hg, Option.bind_some, hins, z0iw _ _ (hins ▸ hsm.1), Option.bind_some, hgs, Option.bind_some, z008 g]
        exact ⟨_, inv _ (by simp [h]), rfl⟩
      · rw [if_neg (by simpa using h), hgs, Option.bind_some, z008 g]
        exact ⟨_, inv _ (by simp [h]), rfl⟩)
    (List.replicate n.places.toNat false) ⟨by simp; omega, fun q q0 q1 => by rw [z11b]; simp; omega⟩
  have e1' : z00t n marks t (z01t n marks busy t) FUEL 0 (List.replicate n.places.toNat false) = z01t n marks busy t s1 := e1
  rw [e1']
  unfold z01t
  obtain ⟨s2, ⟨hl2, hv2⟩, e2⟩ := scanE busy (by have := M.busyl; unfold SMALL; omega) (z00e n busy (z00s n marks t)) (z00s n marks t)
    (fun pre s => (s.length : Int) = n.places ∧ ∀ q : Int, 0 ≤ q → q < n.places → atB s q = ((decide (0 < atI marks q) && !ins.any (fun x => decide (x = q))) || pre.any (fun b => (atI n.tasks b.task).out.any (fun f => decide (f.to = q)))))
    (fun f s => by rw [z00e, if_neg (by simp)])
    (fun f pre x suf s a b c d g hi => by
      have hb := M.busy x c
      have hxm := z0a2 n.tasks hb.1 hb.2
      have hto := z0v2 M.net hxm
      rw [z00e, if_pos (decide_eq_true d), b, Option.bind_some, z03i n.tasks hb.1 hb.2, Option.bind_some]
      obtain ⟨s3, ⟨hl3, hv3⟩, e3⟩ := scanE (atI n.tasks x.task).out (hn.2 _ hxm).2.1 (z013 (atI n.tasks x.task).out (z01u pre.length (z00e n busy (z00s n marks t) f))) (z01u pre.length (z00e n busy (z00s n marks t) f))
        (fun pr z => (z.length : Int) = n.places ∧ ∀ q : Int, 0 ≤ q → q < n.places → atB z q = (pr.any (fun f => decide (f.to = q)) || atB s q))
        (fun f s => by rw [z013, if_neg (by simp)])
        (fun f pr y sf z a2 b2 c2 d2 g2 hi2 => by
          have hy := hto y c2
          rw [z013, if_pos (decide_eq_true d2), b2, Option.bind_some, z0hq z (by omega) (by omega), Option.bind_some, z008 g2]
          refine ⟨setT z y.to, ⟨by rw [z0n7]; exact hi2.1, fun q q0 q1 => ?_⟩, rfl⟩
          rw [z0ya z (by omega) q0 (by omega), hi2.2 q q0 q1, List.any_append, List.any_cons, List.any_nil, Bool.or_false]
          generalize decide (y.to = q) = u; generalize (pr.any fun f => decide (f.to = q)) = v; generalize atB s q = w
          cases u <;> cases v <;> cases w <;> rfl) s ⟨hi.1, fun q _ _ => by simp⟩
      refine ⟨s3, ⟨hl3, fun q q0 q1 => ?_⟩, ?_⟩
      · rw [hv3 q q0 q1, hi.2 q q0 q1, List.any_append, List.any_cons, List.any_nil, Bool.or_false]
        cases (List.any (atI n.tasks x.task).out fun f => decide (f.to = q)) <;> simp
      · have : z013 (atI n.tasks x.task).out (z01u pre.length (z00e n busy (z00s n marks t) f)) FUEL 0 s = z01u pre.length (z00e n busy (z00s n marks t) f) s3 := e3
        rw [this]; unfold z01u; rw [z008 g])
    s1 ⟨hl1, fun q q0 q1 => by rw [hv1 q q0 q1, decide_eq_true (by omega)]; simp⟩
  rw [e2]
  unfold z00s
  rw [z0pi t hn M.net hl2, Option.bind_some]
  generalize hr : iter t n.tasks s2.length s2 = r
  have hrl : (r.length : Int) = n.places := by rw [← hr, z0qk]; exact hl2
  have hri : ∀ q : Int, 0 ≤ q → q < n.places → (atB r q = true ↔ ∃ p : Int, (0 ≤ p ∧ p < n.places) ∧ srcB n marks busy ins p = true ∧ Star t n.tasks p q) := fun q q0 q1 => by
    rw [← hr, z0w2 M.net hl2 q0 q1]
    constructor
    · rintro ⟨p, a, b, c⟩; rw [hv2 p a.1 a.2] at b; exact ⟨p, a, b, c⟩
    · rintro ⟨p, a, b, c⟩; exact ⟨p, a, by rw [hv2 p a.1 a.2]; exact b, c⟩
  have hin : ∀ p ∈ ins, 0 ≤ p ∧ p < n.places := fun p hp => by have := T.ins p (hins ▸ hp); omega
  have fin : z00u n marks t r z04u FUEL 0 = some (ins.any (fun q => decide (atI marks q = 0) && atB r q)) :=
    scan0 ins (by have := hins ▸ hsm.1; unfold SMALL at this; omega) (z00u n marks t r z04u) (fun _ suf => some (suf.any (fun q => decide (atI marks q = 0) && atB r q)))
      (fun f => by rw [z00u, hg, Option.bind_some, hins, if_neg (by simp)]; rfl)
      (fun f pre x suf a b c d ih => by
        have hx := hin x (by rw [a]; simp)
        rw [z00u, hg, Option.bind_some, hins, if_pos (decide_eq_true c), Option.bind_some, hins, b, Option.bind_some, z03i marks hx.1 (by have := M.len; omega), Option.bind_some, List.any_cons]
        by_cases h : atI marks x = 0
        · rw [if_pos (decide_eq_true h), Option.bind_some, hins, b, Option.bind_some, z0hq r hx.1 (by omega), Option.bind_some, z008 d, ih]
          cases atB r x <;> simp [h]
        · rw [if_neg (by simpa using h), z008 d, ih]; simp [h])
  rw [fin]
  congr 1
  refine z11j ?_
  unfold Coming
  rw [hins, List.any_eq_true]
  constructor
  · rintro ⟨q, hq, h⟩
    rw [Bool.and_eq_true, decide_eq_true_eq] at h
    exact ⟨q, hq, h.1, (hri q (hin q hq).1 (hin q hq).2).1 h.2⟩
  · rintro ⟨q, hq, h, h2⟩
    exact ⟨q, hq, by rw [Bool.and_eq_true, decide_eq_true_eq]; exact ⟨h, (hri q (hin q hq).1 (hin q hq).2).2 h2⟩⟩
def someB (marks : List Int) (l : List Int) : Bool := l.any (fun p => decide (0 < atI marks p))
def allB (marks : List Int) (l : List Int) : Bool := l.all (fun p => decide (0 < atI marks p))
theorem z0tn (marks l : List Int) (hs : l.length ≤ SMALL) (hp : ∀ p ∈ l, 0 ≤ p ∧ p < marks.length) : z078 marks l = some (someB marks l, allB marks l) := by
  unfold z078
  exact scan l (by unfold SMALL at hs; omega) (fun f i (s : Bool × Bool) => z00p marks l z04d f s.1 s.2 i) (fun _ suf s => some (s.1 || someB marks suf, s.2 && allB marks suf)) (fun _ _ => True)
    (fun f s _ => by rw [z00p, if_neg (by simp)]; simp [someB, allB, z04d])
    (fun f pre x suf s a b c d _ k => by
      obtain ⟨s1, s2⟩ := s
      have hx := hp x (by rw [a]; simp)
      have hg := z03i marks hx.1 hx.2
      have ih := fun u v => k (u, v) trivial
      show z00p marks l z04d (f + 1) s1 s2 (pre.length : Int) = some (s1 || someB marks (x :: suf), s2 && allB marks (x :: suf))
      rw [z00p, if_pos (decide_eq_true c)]
      simp only [b, hg, Option.bind_some, z008 d]
      dsimp only at ih
      simp only [ih, someB, allB, List.any_cons, List.all_cons]
      cases s1 <;> cases s2 <;> simp) FUEL (false, true) trivial (by have := z04g; unfold SMALL at hs; omega)
noncomputable def canB (n : GNet) (marks : List Int) (busy : List GItem) (t : Int) : Bool :=
  bif decide ((atI n.tasks t).join = 1) then allB marks (atI n.tasks t).in_ else bif decide ((atI n.tasks t).join = 2) then someB marks (atI n.tasks t).in_ else someB marks (atI n.tasks t).in_ && (allB marks (atI n.tasks t).in_ || !comB n marks busy t)
theorem z0w0 {n : GNet} {marks : List Int} {busy : List GItem} {t : Int} (hn : n.small) (M : MB n marks busy) (t0 : 0 ≤ t) (t1 : t < n.tasks.length) : z08m n marks busy t = some (canB n marks busy t) := by
  have hml := M.len
  have hg := z03i n.tasks t0 t1
  have hm := z0a2 n.tasks t0 t1
  have T := z07a M.net hm
  unfold z08m canB
  rw [hg, Option.bind_some, z0tn _ _ (hn.2 _ hm).1 (fun p hp => by have := T.ins p hp; omega), Option.bind_some, Option.bind_some, z0pj hn M t0 t1]
  by_cases h1 : (atI n.tasks t).join = 1
  · simp [h1]
  · by_cases h2 : (atI n.tasks t).join = 2
    · simp [h2]
    · simp only [h1, h2, decide_false, cond_false, Option.bind_some]
      cases someB marks (atI n.tasks t).in_ <;> cases allB marks (atI n.tasks t).in_ <;> simp
noncomputable def enaB (n : GNet) (marks : List Int) (busy : List GItem) (t : Int) : Bool := mrkB n marks && (busyB n busy && (inB t 0 ((n.tasks.length : Int) - 1) && canB n marks busy t))
theorem z0kk (n : GNet) (marks : List Int) (busy : List GItem) (t : Int) (hn : n.small) (hm : marks.length ≤ SMALL) (hb : busy.length ≤ SMALL) : z05a n marks busy t = some (enaB n marks busy t) := by
  unfold z05a enaB
  rw [z0eq n marks hn hm, Option.bind_some]
  by_cases h1 : mrkB n marks = true
  case neg => rw [if_neg h1, Bool.eq_false_iff.2 h1]; rfl
  rw [if_pos h1, h1, z0km n busy hn hb (z0qm h1), Option.bind_some]
  by_cases h2 : busyB n busy = true
  case neg => rw [if_neg h2, Bool.eq_false_iff.2 h2]; rfl
  rw [if_pos h2, h2, z008 (z09c hn.1), z03d, Option.bind_some]
  by_cases h3 : inB t 0 ((n.tasks.length : Int) - 1) = true
  case neg => rw [if_neg h3, Bool.eq_false_iff.2 h3]; rfl
  have h3' := z02t.1 h3
  rw [if_pos h3, h3, z0w0 hn (mb_of h1 h2) h3'.1 (by omega), Option.bind_some]; rfl
def dec (l : List Int) (p : Int) : List Int := l.set p.toNat (atI l p - 1)
def takeL (join : Int) : List Int → List Int → List Int
  | [], l => l
  | p :: ps, l => if 0 < atI l p then (if join = 2 then dec l p else takeL join ps (dec l p)) else takeL join ps l
theorem z0um (l : List Int) (p : Int) : (dec l p).length = l.length := by simp [dec]
theorem z0n9 (join : Int) : ∀ (ps l : List Int), (takeL join ps l).length = l.length
  | [], l => rfl
  | p :: ps, l => by
    unfold takeL
    split
    · split
      · exact z0um l p
      · rw [z0n9 join ps, z0um]
    · exact z0n9 join ps l
theorem z0zq {l : List Int} {p : Int} (h : capM 4 l) (hp : 0 < atI l p) (h0 : 0 ≤ p) (h1 : p < l.length) : capM 4 (dec l p) := fun x hx => by
  have hv := z0ru h h0 h1
  rcases List.mem_or_eq_of_mem_set hx with hx | rfl
  · exact h x hx
  · omega
theorem z0xm {β : Type} (join : Int) (ps : List Int) (hs : ps.length ≤ SMALL) (f : Nat → Int → List Int → Option β) (kx : List Int → Option β) (l0 : List Int) (hp : ∀ p ∈ ps, 0 ≤ p ∧ p < l0.length) (hc : capM 4 l0)
    (h0 : ∀ n s, f (n + 1) (ps.length : Int) s = kx s)
    (h1 : ∀ n i p s, getI ps i = some p → i < (ps.length : Int) → ok64 (i + 1) → getI s p = some (atI s p) → ok64 (atI s p - 1) → f (n + 1) i s = if decide (0 < atI s p) = true then (if decide (join = 2) = true then kx (dec s p) else f n (i + 1) (dec s p)) else f n (i + 1) s) :
    f FUEL 0 l0 = kx (takeL join ps l0) :=
  scan ps (by unfold SMALL at hs; omega) f (fun _ suf l => kx (takeL join suf l)) (fun _ l => l.length = l0.length ∧ capM 4 l) (fun n s hi => by rw [h0]; rfl)
    (fun n pre x suf s a b c d hi k => by
      have hx := hp x (by rw [a]; simp)
      have hx2 : x < s.length := by rw [hi.1]; exact hx.2
      have hv := z0ru hi.2 hx.1 hx2
      rw [h1 n _ x s b c d (z03i s hx.1 hx2) (by constructor <;> omega), takeL]
      by_cases h : 0 < atI s x
      · rw [if_pos (decide_eq_true h), if_pos h]
        by_cases h2 : join = 2
        · rw [if_pos (decide_eq_true h2), if_pos h2]
        · rw [if_neg (by simpa using h2), if_neg h2]
          exact k _ ⟨by rw [z0um, hi.1], z0zq hi.2 h hx.1 hx2⟩
      · rw [if_neg (by simpa using h), if_neg h]
        exact k _ hi) FUEL l0 ⟨rfl, hc⟩ (by have := z04g; unfold SMALL at hs; omega)
theorem z0rf (n : GNet) (marks : List Int) (t : Int) (hn : n.small) (hm : marks.length ≤ SMALL) : z05w n marks t = some (bif mrkB n marks && inB t 0 ((n.tasks.length : Int) - 1) then takeL (atI n.tasks t).join (atI n.tasks t).in_ marks else []) := by
  unfold z05w
  rw [z0eq n marks hn hm, Option.bind_some]
  by_cases h1 : mrkB n marks = true
  case neg => rw [if_neg h1, Bool.eq_false_iff.2 h1]; rfl
  rw [if_pos h1, h1, z008 (z09c hn.1), z03d, Option.bind_some]
  by_cases h3 : inB t 0 ((n.tasks.length : Int) - 1) = true
  case neg => rw [if_neg h3, Bool.eq_false_iff.2 h3]; rfl
  have h3' := z02t.1 h3
  obtain ⟨f1, f2, f3⟩ := z0ej h1
  have hg := z03i n.tasks h3'.1 (by omega)
  have ht := z0a2 n.tasks h3'.1 (by omega)
  have T := z07a f1 ht
  rw [if_pos h3, h3, z008 (by simpa using hm), List.nil_append]
  rw [z0xm (atI n.tasks t).join (atI n.tasks t).in_ (hn.2 _ ht).1 (z01b n t z094 z095) (fun l => some l) marks (fun p hp => by have := T.ins p hp; omega) (z0in.1 f3)
    (fun f s => by rw [z01b, hg, Option.bind_some, if_neg (by simp)]; rfl)
    (fun f i p s a b c d e => by
      rw [z01b, hg, Option.bind_some, if_pos (decide_eq_true b), Option.bind_some, a, Option.bind_some, d, Option.bind_some, Option.bind_some, z008 e, Option.bind_some, Option.bind_some]; simp only [z008 c]; rfl)]
  rfl
end Go.Am.Pl
end
section
set_option maxRecDepth 100000
set_option linter.unusedVariables false
set_option linter.unusedSimpArgs false
namespace Go.Am.Pl
open Go
def bitB (x role : Int) : Bool := decide ((x / 2 ^ (role - 1).toNat) % 2 = 1)
def hasB (people : List Int) (who role : Int) : Bool := pplB people && (inB who 1 people.length && (inB role 1 3 && bitB (atI people (who - 1)) role))
theorem eight {x : Int} (h : 0 ≤ x ∧ x ≤ 7) : x = 0 ∨ x = 1 ∨ x = 2 ∨ x = 3 ∨ x = 4 ∨ x = 5 ∨ x = 6 ∨ x = 7 := by omega
theorem z10w {x role : Int} (hx : 0 ≤ x ∧ x ≤ 7) (hr : 1 ≤ role ∧ role ≤ 3) : z049 role z0av FUEL x 1 = some (bitB x role) := by
  obtain ⟨f, hF⟩ : ∃ f, FUEL = f + 3 := ⟨FUEL - 3, by have := z04g; omega⟩
  rw [hF]
  have hr' : role = 1 ∨ role = 2 ∨ role = 3 := by omega
  rcases hr' with rfl | rfl | rfl <;> rcases eight hx with rfl | rfl | rfl | rfl | rfl | rfl | rfl | rfl <;> rfl
theorem z0vh {p : List Int} (h : pplB p = true) : (1 ≤ p.length ∧ p.length ≤ 4) ∧ ∀ x ∈ p, 0 ≤ x ∧ x ≤ 7 := by
  simp only [pplB, Bool.and_eq_true, z02t, List.all_eq_true] at h
  exact ⟨by omega, h.2⟩
theorem z0tl (people : List Int) (who role : Int) (hl : people.length ≤ SMALL) : z075 people who role = some (hasB people who role) := by
  unfold z075 hasB
  rw [z0ph _ hl, Option.bind_some]
  by_cases h1 : pplB people = true
  case neg => rw [if_neg h1, Bool.eq_false_iff.2 h1]; rfl
  rw [if_pos h1, h1, z03d, Option.bind_some]
  by_cases h2 : inB who 1 people.length = true
  case neg => rw [if_neg h2, Bool.eq_false_iff.2 h2]; rfl
  rw [if_pos h2, h2, z03d, Option.bind_some]
  by_cases h3 : inB role 1 3 = true
  case neg => rw [if_neg h3, Bool.eq_false_iff.2 h3]; rfl
  have h2' := z02t.1 h2
  have F := z0vh h1
  rw [if_pos h3, h3, z008 (by constructor <;> omega), z03i people (by omega) (by omega), Option.bind_some, z10w (F.2 _ (z0a2 people (by omega) (by omega))) (z02t.1 h3)]
  rfl
def doneD (did : List GDid) (who task : Int) : Bool := did.any (fun d => decide (d.who = who) && decide (d.task = task))
theorem z0tk (did : List GDid) (who task : Int) (hl : did.length ≤ SMALL) : z074 did who task = some (doneD did who task) := by
  unfold z074 doneD
  exact scan0 did (by unfold SMALL at hl; omega) (z020 did who task z0au) (fun _ suf => some (suf.any (fun d => decide (d.who = who) && decide (d.task = task))))
    (fun f => by rw [z020, if_neg (by simp)]; rfl)
    (fun f pre x suf a b c d ih => by
      rw [z020, if_pos (decide_eq_true c)]
      simp only [b, Option.bind_some, z008 d, ih, List.any_cons]
      by_cases h1 : x.who = who <;> by_cases h2 : x.task = task <;> simp [h1, h2])
def idxs (N : Nat) : List Int := (List.range N).map (fun i : Nat => (i : Int) + 1)
theorem z0lz (N : Nat) : (idxs N).length = N := by simp [idxs]
theorem z101 {N : Nat} {i : Nat} {x : Int} (h : getI (idxs N) (i : Int) = some x) : x = (i : Int) + 1 := by
  rw [z085] at h
  simp only [idxs, List.getElem?_map, Option.map_eq_some_iff] at h
  obtain ⟨j, hj, rfl⟩ := h
  rw [List.getElem?_eq_some_iff] at hj
  obtain ⟨h1, h2⟩ := hj
  rw [List.getElem_range] at h2
  omega
theorem z0f5 {α : Type} (q : α → Bool) : ∀ l : List α, l.flatMap (fun x => if q x = true then [x] else []) = l.filter q
  | [] => rfl
  | x :: l => by
    rw [List.flatMap_cons, z0f5 q l, List.filter_cons]
    split <;> simp
def nowB (busy : List GItem) (apart who : Int) : Bool := busy.any (fun b => decide (b.who = who) && decide (b.task = apart))
def mayW (n : GNet) (people : List Int) (did : List GDid) (busy : List GItem) (t who : Int) : Bool :=
  hasB people who (atI n.tasks t).role && (!nowB busy (atI n.tasks t).apart who && !doneD did who (atI n.tasks t).apart)
def mayB (n : GNet) (people : List Int) (did : List GDid) (busy : List GItem) (t : Int) : List Int :=
  bif netB n && (pplB people && inB t 0 ((n.tasks.length : Int) - 1)) then (idxs people.length).filter (mayW n people did busy t) else []
theorem z10x {n : GNet} {t : Int} (busy : List GItem) (who : Int) (kx : Bool → Option (List Int)) (hg : getI n.tasks t = some (atI n.tasks t)) (hb : busy.length ≤ SMALL) :
    z00w n busy t who kx FUEL false 0 = kx (nowB busy (atI n.tasks t).apart who) :=
  scan busy (by unfold SMALL at hb; omega) (fun f i s => z00w n busy t who kx f s i) (fun _ suf s => kx (s || nowB suf (atI n.tasks t).apart who)) (fun _ _ => True)
    (fun f s _ => by rw [z00w, if_neg (by simp)]; simp [nowB])
    (fun f pre x suf s a b c d _ k => by
      have ih := fun u => k u trivial
      rw [z00w, if_pos (decide_eq_true c)]
      simp only [b, hg, Option.bind_some, z008 d, ih, nowB, List.any_cons]
      cases s
      · by_cases h : x.who = who <;> simp [h]
      · simp) FUEL false trivial (by have := z04g; unfold SMALL at hb; omega)
theorem z0kl (n : GNet) (people : List Int) (did : List GDid) (busy : List GItem) (t : Int) (hn : n.small) (hp : people.length ≤ SMALL) (hd : did.length ≤ SMALL) (hb : busy.length ≤ SMALL) :
    z03z n people did busy t = some (mayB n people did busy t) := by
  unfold z03z mayB
  rw [z0er n hn, Option.bind_some]
  by_cases h1 : netB n = true
  case neg => rw [if_neg h1, Bool.eq_false_iff.2 h1]; rfl
  rw [if_pos h1, h1, z0ph _ hp, Option.bind_some]
  by_cases h2 : pplB people = true
  case neg => rw [if_neg h2, Bool.eq_false_iff.2 h2]; rfl
  rw [if_pos h2, h2, z008 (z09c hn.1), z03d, Option.bind_some]
  by_cases h3 : inB t 0 ((n.tasks.length : Int) - 1) = true
  case neg => rw [if_neg h3, Bool.eq_false_iff.2 h3]; rfl
  have h3' := z02t.1 h3
  have hg := z03i n.tasks h3'.1 (by omega)
  rw [if_pos h3, h3]
  have := z0ry (idxs people.length) (by rw [z0lz]; exact hp) (fun w => if mayW n people did busy t w = true then [w] else []) (fun f i s => z02k n people did busy t z06j f (i + 1) s) z06j
    (fun f s => by rw [z02k, z0lz, if_neg (by simp; omega)])
    (fun f pre x suf s a b c d e i => by
      have hx := z101 b
      rw [z0lz] at d
      have hs : s.length + [(pre.length : Int) + 1].length ≤ SMALL := by
        rw [i, List.length_singleton]
        have := z0q7 (e := fun w => if mayW n people did busy t w = true then [w] else []) (fun x => by split <;> simp) pre
        unfold SMALL at hp ⊢; omega
      rw [z02k, if_pos (by simp; omega), z10x busy _ _ hg hb]
      unfold z0aw
      simp only [hg, Option.bind_some, z0tl _ _ _ hp, z0tk _ _ _ hd, z008 (show ok64 ((pre.length : Int) + 1 + 1) by unfold SMALL at hp; constructor <;> omega), z008 hs]
      subst hx
      unfold mayW
      cases hasB people ((pre.length : Int) + 1) (atI n.tasks t).role <;> cases nowB busy (atI n.tasks t).apart ((pre.length : Int) + 1) <;> cases doneD did ((pre.length : Int) + 1) (atI n.tasks t).apart <;> simp)
  refine this.trans ?_
  rw [z0f5]; rfl
theorem z106 (n : GNet) (people : List Int) (did : List GDid) (busy : List GItem) (t : Int) : (mayB n people did busy t).length ≤ people.length := by
  unfold mayB
  cases netB n && (pplB people && inB t 0 ((n.tasks.length : Int) - 1))
  · simp
  · show ((idxs people.length).filter _).length ≤ _
    have := List.length_filter_le (mayW n people did busy t) (idxs people.length)
    rw [z0lz] at this; exact this
noncomputable def startOk (n : GNet) (people : List Int) (c : GCase) (t who : Int) : Bool :=
  casB n c && (decide (c.state = 1) && (enaB n c.marks c.busy t && ((mayB n people c.did c.busy t).any (fun x => decide (x = who)) && !decide ((c.busy.length : Int) = 6))))
def begun (n : GNet) (c : GCase) (t who : Int) : GCase := GCase.mk c.state (takeL (atI n.tasks t).join (atI n.tasks t).in_ c.marks) (c.busy ++ [GItem.mk t who 0]) c.data c.did
noncomputable def startB (n : GNet) (people : List Int) (c : GCase) (t who : Int) : GCase × Bool := bif startOk n people c t who then (begun n c t who, true) else (c, false)
theorem z0wp {n : GNet} {m : List Int} {busy : List GItem} {t : Int} (h : enaB n m busy t = true) : mrkB n m = true ∧ busyB n busy = true ∧ (0 ≤ t ∧ t < n.tasks.length) := by
  simp only [enaB, Bool.and_eq_true, z02t] at h
  exact ⟨h.1, h.2.1, by omega⟩
theorem z0pd (n : GNet) (people : List Int) (c : GCase) (t who : Int) (hn : n.small) (hp : people.length ≤ SMALL) (hc : c.small) : z03k n people c t who = some (startB n people c t who) := by
  unfold z03k startB startOk
  rw [z0kn c hc, Option.bind_some, z0iv n c hn hc, Option.bind_some]
  by_cases h1 : casB n c = true
  case neg => rw [if_neg h1, Bool.eq_false_iff.2 h1]; rfl
  rw [if_pos h1, h1]
  by_cases h2 : c.state = 1
  case neg => rw [if_neg (by simpa using h2), decide_eq_false h2]; rfl
  rw [if_pos (decide_eq_true h2), decide_eq_true h2, z0kk n c.marks c.busy t hn hc.1 hc.2.1, Option.bind_some]
  by_cases h3 : enaB n c.marks c.busy t = true
  case neg => rw [if_neg h3, Bool.eq_false_iff.2 h3]; rfl
  rw [if_pos h3, h3, z0kl n people c.did c.busy t hn hp hc.2.2.2 hc.2.1, Option.bind_some, z0iw _ _ (Nat.le_trans (z106 ..) hp), Option.bind_some]
  by_cases h4 : (mayB n people c.did c.busy t).any (fun x => decide (x = who)) = true
  case neg => rw [if_neg h4, Bool.eq_false_iff.2 h4]; rfl
  rw [if_pos h4, h4]
  by_cases h5 : (c.busy.length : Int) = 6
  · rw [if_pos (decide_eq_true h5), decide_eq_true h5]; rfl
  obtain ⟨g1, g2, g3⟩ := z0wp h3
  have F := z0dt h1
  rw [if_neg (by simpa using h5), decide_eq_false h5, z0rf n c.marks t hn hc.1, Option.bind_some, z008 (by have := F.busyl; rw [List.length_singleton]; unfold SMALL; omega), g1, z02t.2 (show 0 ≤ t ∧ t ≤ (n.tasks.length : Int) - 1 by omega)]
  rfl
theorem z0rk (n : GNet) (people : List Int) (c : GCase) (t who : Int) : (startB n people c t who).1.marks.length = c.marks.length ∧ ((startB n people c t who).1.busy.length ≤ c.busy.length ∨ (startB n people c t who).1.busy.length ≤ 7) ∧
    (startB n people c t who).1.data.length = c.data.length ∧ (startB n people c t who).1.did.length = c.did.length := by
  unfold startB
  cases e : startOk n people c t who
  · exact ⟨rfl, .inl (Nat.le_refl _), rfl, rfl⟩
  · unfold startOk at e
    rw [Bool.and_eq_true] at e
    have F := z0dt e.1
    have := F.busyl
    exact ⟨z0n9 _ _ _, .inr (by show (c.busy ++ [GItem.mk t who 0]).length ≤ 7; rw [List.length_append, List.length_singleton]; omega), rfl, rfl⟩
end Go.Am.Pl
end
section
set_option maxRecDepth 100000
set_option linter.unusedVariables false
set_option linter.unusedSimpArgs false
namespace Go.Am.Pl
open Go
def nats (N : Nat) : List Int := (List.range N).map (fun i : Nat => (i : Int))
theorem z0qo (N : Nat) : (nats N).length = N := by simp [nats]
theorem z107 {N : Nat} {i : Nat} {x : Int} (h : getI (nats N) (i : Int) = some x) : x = (i : Int) := by
  rw [z085] at h
  simp only [nats, List.getElem?_map, Option.map_eq_some_iff] at h
  obtain ⟨j, hj, rfl⟩ := h
  rw [List.getElem?_eq_some_iff] at hj
  obtain ⟨h1, h2⟩ := hj
  rw [List.getElem_range] at h2
  omega
noncomputable def tasksB (n : GNet) (marks : List Int) (busy : List GItem) : List Int := (nats n.tasks.length).filter (enaB n marks busy)
theorem z0pe (n : GNet) (marks : List Int) (busy : List GItem) (hn : n.small) (hm : marks.length ≤ SMALL) (hb : busy.length ≤ SMALL) : z03l n marks busy = some (tasksB n marks busy) := by
  unfold z03l tasksB
  have := z0ry (nats n.tasks.length) (by rw [z0qo]; exact hn.1) (fun w => if enaB n marks busy w = true then [w] else []) (z012 n marks busy z04o) z04o
    (fun f s => by rw [z012, z0qo, if_neg (by simp)])
    (fun f pre x suf s a b c d e i => by
      have hx := z107 b
      rw [z0qo] at d
      have hs : s.length + [(pre.length : Int)].length ≤ SMALL := by
        rw [i, List.length_singleton]
        have := z0q7 (e := fun w => if enaB n marks busy w = true then [w] else []) (fun x => by split <;> simp) pre
        have := hn.1; omega
      rw [z012, if_pos (decide_eq_true d)]
      simp only [z0kk n marks busy _ hn hm hb, Option.bind_some, z008 e, z008 hs]
      subst hx
      cases enaB n marks busy (pre.length : Int) <;> simp)
  rw [this, z0f5]; rfl
def Bnd (c d : GCase) : Prop := d.marks.length ≤ c.marks.length ∧ (d.busy.length ≤ c.busy.length ∨ d.busy.length ≤ 7) ∧ d.data.length ≤ c.data.length ∧ (d.did.length ≤ c.did.length ∨ d.did.length ≤ 61)
theorem Bnd.refl (c : GCase) : Bnd c c := ⟨Nat.le_refl _, .inl (Nat.le_refl _), Nat.le_refl _, .inl (Nat.le_refl _)⟩
theorem Bnd.trans {a b c : GCase} (h1 : Bnd a b) (h2 : Bnd b c) : Bnd a c := by
  obtain ⟨p, q, r, s⟩ := h1
  obtain ⟨t, u, v, w⟩ := h2
  exact ⟨by omega, by omega, by omega, by omega⟩
theorem Bnd.small {c d : GCase} (h : Bnd c d) (hc : c.small) : d.small := by
  obtain ⟨p, q, r, s⟩ := h
  obtain ⟨t, u, v, w⟩ := hc
  unfold SMALL at *
  exact ⟨by unfold SMALL; omega, by unfold SMALL; omega, by unfold SMALL; omega, by unfold SMALL; omega⟩
theorem z0xp (n : GNet) (c : GCase) (k v num : Int) : Bnd c (workB n c k v num).1 := by
  unfold workB
  cases e : casB n c && (decide (c.state = 1) && (inB k 0 ((c.busy.length : Int) - 1) && (inB v (-1) 2 && (inB num (-99) 99 && !decide ((c.did.length : Int) = 60)))))
  · exact Bnd.refl c
  · rw [Bool.and_eq_true] at e
    have F := z0dt e.1
    have h60 := F.didl
    have hg := z0x0 n c.marks (atI c.busy k).task (datB c.data v num)
    have hd : (datB c.data v num).length ≤ c.data.length := by rw [z0uk]; exact Nat.le_refl _
    show Bnd c (doneB n c k (datB c.data v num)).1
    unfold doneB
    split
    · exact ⟨Nat.le_refl _, .inl (by simp), hd, .inl (Nat.le_refl _)⟩
    · split
      · split
        · exact ⟨hg, .inl (Nat.zero_le _), hd, .inr (by simp; omega)⟩
        · exact ⟨hg, .inl (by simp; omega), hd, .inr (by simp; omega)⟩
      · exact Bnd.refl c
theorem z0w4 (n : GNet) (people : List Int) (c : GCase) (t who : Int) : Bnd c (startB n people c t who).1 := by
  obtain ⟨a, b, d, e⟩ := z0rk n people c t who
  exact ⟨by omega, b, by omega, .inl (by omega)⟩
end Go.Am.Pl
end
section
set_option maxRecDepth 100000
set_option linter.unusedVariables false
set_option linter.unusedSimpArgs false
namespace Go.Am.Pl
open Go
end Go.Am.Pl
end
section
set_option maxRecDepth 100000
set_option linter.unusedVariables false
set_option linter.unusedSimpArgs false
namespace Go.Am.Pl
open Go
end Go.Am.Pl
end
section
set_option maxRecDepth 100000
set_option linter.unusedVariables false
set_option linter.unusedSimpArgs false
namespace Go.Am.Pl
open Go
def noCase : GCase := GCase.mk 0 [] [] [] []
def newC (n : GNet) (data : List Int) : GCase := bif netB n && datOk data then GCase.mk 1 ((List.replicate n.places.toNat (0 : Int)).set 0 1) [] data [] else noCase
theorem z0y7 {n : GNet} (h : netB n = true) : getI (List.replicate n.places.toNat (0 : Int)) 0 = some (atI (List.replicate n.places.toNat (0 : Int)) 0) := by
  have := z079 h
  exact z03i _ (by omega) (by simp; omega)
theorem z0ti (n : GNet) (data : List Int) (hn : n.small) (hd : data.length ≤ SMALL) : z072 n data = some (newC n data) := by
  unfold z072 newC
  rw [z0er n hn, Option.bind_some]
  by_cases h1 : netB n = true
  case neg => rw [if_neg h1, Bool.eq_false_iff.2 h1]; rfl
  rw [if_pos h1, h1, z0b2 _ hd, Option.bind_some]
  by_cases h2 : datOk data = true
  case neg => rw [if_neg h2, Bool.eq_false_iff.2 h2]; rfl
  have := z079 h1
  rw [if_pos h2, h2, z008 (by omega), z008 (by simpa using hd), z0y7 h1]; rfl
structure RdrFacts (tree : List GNode) : Prop where
  len : tree.length ≤ 12
  node : ∀ a : Int, 0 ≤ a → a < tree.length → nodeB tree.length a (atI tree a) = true
  ones : ∀ j : Nat, 0 < j → j < tree.length → cntL j tree = 1
end Go.Am.Pl
end
