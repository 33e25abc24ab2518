/- Plain laws. Own work. -/
import Derived.Test.YtgolgnbgomhknaaGreatSyC2
set_option maxRecDepth 100000
set_option linter.unusedVariables false
set_option linter.unusedSimpArgs false
set_option maxHeartbeats 2000000
section
namespace Go.Am.Pl
open Go
theorem wj2 {α : Type} (pre : List α) (x : α) (suf : List α) : getI (pre ++ x :: suf) (pre.length : Int) = some x := by
  rw [z3h]; simp
theorem scan {α β σ : Type} (l : List α) (hl : l.length ≤ 4611686018427387000) (f : Nat → Int → σ → Option β) (g : List α → List α → σ → Option β) (Inv : List α → σ → Prop)
    (h0 : ∀ n s, Inv l s → f (n + 1) (l.length : Int) s = g l [] s)
    (h1 : ∀ n pre x suf s, l = pre ++ x :: suf → getI l (pre.length : Int) = some x → ((pre.length : Int) < (l.length : Int)) → ok64 ((pre.length : Int) + 1) → Inv pre s →
      (∀ s', Inv (pre ++ [x]) s' → f n ((pre.length : Int) + 1) s' = g (pre ++ [x]) suf s') → f (n + 1) (pre.length : Int) s = g pre (x :: suf) s) :
    ∀ n s, Inv [] s → l.length < n → f n 0 s = g [] l s := by
  have key : ∀ suf pre n s, l = pre ++ suf → Inv pre s → suf.length < n → f n (pre.length : Int) s = g pre suf s := by
    intro suf
    induction suf with
    | nil =>
      intro pre n s hp hi hn
      obtain ⟨m, rfl⟩ : ∃ m, n = m + 1 := ⟨n - 1, by simp at hn; omega⟩
      simp only [List.append_nil] at hp
      subst hp
      exact h0 m s hi
    | cons x suf ih =>
      intro pre n s hp hi hn
      obtain ⟨m, rfl⟩ : ∃ m, n = m + 1 := ⟨n - 1, by simp at hn; omega⟩
      have hlen : l.length = pre.length + suf.length + 1 := by rw [hp]; simp; omega
      refine h1 m pre x suf s hp (by rw [hp]; exact wj2 pre x suf) (by omega) (by constructor <;> omega) hi ?_
      intro s' hi'
      have := ih (pre ++ [x]) m s' (by rw [hp]; simp) hi' (by simp at hn; omega)
      rw [← this]; simp
  intro n s hi hn
  exact key l [] n s (by simp) hi hn
theorem scan0 {α β : Type} (l : List α) (hl : l.length ≤ 4611686018427387000) (f : Nat → Int → Option β) (g : List α → List α → Option β)
    (h0 : ∀ n, f (n + 1) (l.length : Int) = g l [])
    (h1 : ∀ n pre x suf, l = pre ++ x :: suf → getI l (pre.length : Int) = some x → ((pre.length : Int) < (l.length : Int)) → ok64 ((pre.length : Int) + 1) →
      f n ((pre.length : Int) + 1) = g (pre ++ [x]) suf → f (n + 1) (pre.length : Int) = g pre (x :: suf)) :
    f FUEL 0 = g [] l :=
  scan l hl (fun n i (_ : Unit) => f n i) (fun a b _ => g a b) (fun _ _ => True) (fun n s _ => h0 n) (fun n pre x suf s a b c d e k => h1 n pre x suf a b c d (k () trivial)) FUEL () trivial (by have := z2i; omega)
def inB (n a b : Int) : Bool := decide (a ≤ n ∧ n ≤ b)
theorem z2j (n a b : Int) : z03 n a b = some (inB n a b) := by
  unfold z03 inB; by_cases h : a ≤ n <;> simp [h]
theorem z5m (n a b : Int) : z0c n a b = some (inB n a b) := by
  unfold z0c inB; by_cases h : a ≤ n <;> simp [h]
theorem iteB (a b : Bool) : (if a = true then some b else some false) = some (a && b) := by cases a <;> rfl
theorem iteN (a b : Bool) : (if a = true then some false else some b) = some (!a && b) := by cases a <;> rfl
def anyIdx {α : Type} (q : α → Bool) : List α → Int → Int
  | [], _ => -1
  | x :: l, i => if q x then i else anyIdx q l (i + 1)
theorem z7a {α : Type} (q : α → Bool) : ∀ (l : List α) (i : Int), 0 ≤ i → (decide (0 ≤ anyIdx q l i)) = l.any q
  | [], i, _ => by simp [anyIdx]
  | x :: l, i, h => by
    by_cases hx : q x = true
    · simp [anyIdx, hx, h]
    · simp [anyIdx, hx, z7a q l (i + 1) (by omega)]
theorem v11 (s : List Int) (hs : s.length ≤ SMALL) (p : Int → Option Bool) (q : Int → Bool) (hp : ∀ x ∈ s, p x = some (q x)) : zs7 s p = some (anyIdx q s 0) := by
  unfold zs7
  have := scan0 s (by unfold SMALL at hs; omega) (z5n s p (s.length : Int) y5b) (fun pre suf => some (anyIdx q suf pre.length))
    (fun n => by rw [z5n, if_neg (by simp)]; rfl)
    (fun n pre x suf hl hg hlt hok ih => by
      rw [z5n, if_pos (decide_eq_true hlt), hg, Option.bind_some, hp x (by rw [hl]; simp), Option.bind_some, z00 hok, ih, anyIdx]
      by_cases hx : q x = true
      · rw [if_pos hx, if_pos hx]
      · rw [if_neg hx, if_neg hx]; simp)
  simpa using this
theorem z9j (s : List Int) (hs : s.length ≤ SMALL) (p : Int → Option Bool) (q : Int → Bool) (hp : ∀ x ∈ s, p x = some (q x)) : z2e s p = some (s.any q) := by
  unfold z2e
  rw [v11 s hs p q hp, Option.bind_some, z7a q s 0 (Int.le_refl _)]
theorem w38 (s : List GTask) (hs : s.length ≤ SMALL) (p : GTask → Option Bool) (q : GTask → Bool) (hp : ∀ x ∈ s, p x = some (q x)) : z8z s p = some (anyIdx q s 0) := by
  unfold z8z
  have := scan0 s (by unfold SMALL at hs; omega) (z33 s p (s.length : Int) zq7) (fun pre suf => some (anyIdx q suf pre.length))
    (fun n => by rw [z33, if_neg (by simp)]; rfl)
    (fun n pre x suf hl hg hlt hok ih => by
      rw [z33, if_pos (decide_eq_true hlt), hg, Option.bind_some, hp x (by rw [hl]; simp), Option.bind_some, z00 hok, ih, anyIdx]
      by_cases hx : q x = true
      · rw [if_pos hx, if_pos hx]
      · rw [if_neg hx, if_neg hx]; simp)
  simpa using this
theorem ym7 (s : List GTask) (hs : s.length ≤ SMALL) (p : GTask → Option Bool) (q : GTask → Bool) (hp : ∀ x ∈ s, p x = some (q x)) : z6j s p = some (s.any q) := by
  unfold z6j
  rw [w38 s hs p q hp, Option.bind_some, z7a q s 0 (Int.le_refl _)]
theorem w6n (s : List GNet) (hs : s.length ≤ SMALL) (p : GNet → Option Bool) (q : GNet → Bool) (hp : ∀ x ∈ s, p x = some (q x)) : z9y s p = some (anyIdx q s 0) := by
  unfold z9y
  have := scan0 s (by unfold SMALL at hs; omega) (z3j s p (s.length : Int) zw9) (fun pre suf => some (anyIdx q suf pre.length))
    (fun n => by rw [z3j, if_neg (by simp)]; rfl)
    (fun n pre x suf hl hg hlt hok ih => by
      rw [z3j, if_pos (decide_eq_true hlt), hg, Option.bind_some, hp x (by rw [hl]; simp), Option.bind_some, z00 hok, ih, anyIdx]
      by_cases hx : q x = true
      · rw [if_pos hx, if_pos hx]
      · rw [if_neg hx, if_neg hx]; simp)
  simpa using this
theorem yu4 (s : List GNet) (hs : s.length ≤ SMALL) (p : GNet → Option Bool) (q : GNet → Bool) (hp : ∀ x ∈ s, p x = some (q x)) : z7d s p = some (s.any q) := by
  unfold z7d
  rw [w6n s hs p q hp, Option.bind_some, z7a q s 0 (Int.le_refl _)]
theorem w37 (s : List GItem) (hs : s.length ≤ SMALL) (p : GItem → Option Bool) (q : GItem → Bool) (hp : ∀ x ∈ s, p x = some (q x)) : z8y s p = some (anyIdx q s 0) := by
  unfold z8y
  have := scan0 s (by unfold SMALL at hs; omega) (z32 s p (s.length : Int) zq6) (fun pre suf => some (anyIdx q suf pre.length))
    (fun n => by rw [z32, if_neg (by simp)]; rfl)
    (fun n pre x suf hl hg hlt hok ih => by
      rw [z32, if_pos (decide_eq_true hlt), hg, Option.bind_some, hp x (by rw [hl]; simp), Option.bind_some, z00 hok, ih, anyIdx]
      by_cases hx : q x = true
      · rw [if_pos hx, if_pos hx]
      · rw [if_neg hx, if_neg hx]; simp)
  simpa using this
theorem ym6 (s : List GItem) (hs : s.length ≤ SMALL) (p : GItem → Option Bool) (q : GItem → Bool) (hp : ∀ x ∈ s, p x = some (q x)) : z6i s p = some (s.any q) := by
  unfold z6i
  rw [w37 s hs p q hp, Option.bind_some, z7a q s 0 (Int.le_refl _)]
theorem vf6 (s : List Int) (hs : s.length ≤ SMALL) (v : Int) : yq9 s v = some (anyIdx (fun x => decide (v = x)) s 0) := by
  unfold yq9
  have := scan0 s (by unfold SMALL at hs; omega) (zb5 s v (s.length : Int) w0p) (fun pre suf => some (anyIdx (fun x => decide (v = x)) suf pre.length))
    (fun n => by rw [zb5, if_neg (by simp)]; rfl)
    (fun n pre x suf hl hg hlt hok ih => by
      rw [zb5, if_pos (decide_eq_true hlt), hg, Option.bind_some, z00 hok, ih, anyIdx]
      by_cases hx : decide (v = x) = true
      · rw [if_pos hx, if_pos hx]
      · rw [if_neg hx, if_neg hx]; simp)
  simpa using this
theorem yu5 (s : List Int) (hs : s.length ≤ SMALL) (v : Int) : zb3 s v = some (s.any (fun x => decide (v = x))) := by
  unfold zb3
  rw [vf6 s hs, Option.bind_some, z7a _ s 0 (Int.le_refl _)]
def datOk (l : List Int) : Bool := decide (l.length = 3) && l.all (fun x => inB x (-99) 99)
theorem z83 (l : List Int) (hl : l.length ≤ SMALL) : z2n l = some (datOk l) := by
  unfold z2n datOk
  have := scan0 l (by unfold SMALL at hl; omega) (z6y l y8e) (fun _ suf => some (suf.all (fun x => inB x (-99) 99)))
    (fun n => by rw [z6y, if_neg (by simp)]; rfl)
    (fun n pre x suf hl hg hlt hok ih => by
      rw [z6y, if_pos (decide_eq_true hlt), hg, Option.bind_some, z2j, Option.bind_some, z00 hok, ih, iteB, List.all_cons])
  rw [this]
  rw [iteB]
  congr 2
  exact decide_eq_decide.2 (by omega)
theorem zz5 (n : Int) : z59 n = some (inB n (-99) 99) := by unfold z59; rw [z5m]; rfl
theorem zv5 {α : Type} (l : List α) (q : α → Bool) : (!l.any (fun x => !q x)) = l.all q := by
  induction l with
  | nil => rfl
  | cons x l ih => rw [List.any_cons, List.all_cons, ← ih]; cases q x <;> simp
theorem zb0 (l : List Int) (hl : l.length ≤ SMALL) : z3a l = some (datOk l) := by
  unfold z3a datOk
  rw [z9j l hl _ (fun n => !inB n (-99) 99) (fun x _ => by unfold y12; rw [zz5]; rfl), Option.bind_some, zv5, iteB]
  congr 2
  exact decide_eq_decide.2 (by omega)
def expOk (e : GAsk) : Bool := bif decide (e.op = 0) then decide (e.var = 0) && decide (e.k = 0) else inB e.op 1 3 && inB e.var 0 2 && inB e.k (-99) 99
theorem y2h (e : GAsk) : z69 e = some (expOk e) := by
  unfold z69 expOk
  simp only [z2j, Option.bind_some, iteB]
  by_cases h : e.op = 0
  · simp [h]
  · simp [h, Bool.and_assoc]
theorem yx3 (e : GAsk) : z78 e = some (expOk e) := by
  unfold z78 expOk
  simp only [z5m, zz5, Option.bind_some, iteB]
  by_cases h : e.op = 0
  · simp [h]
  · simp [h, Bool.and_assoc]
end Go.Am.Pl
end
section
namespace Go.Am.Pl
open Go
def asc (high : Int) : Int → List Int → Bool
  | _, [] => true
  | p, x :: l => inB x (p + 1) high && asc high x l
def ascS (low high : Int) : Option Int → List Int → Bool
  | _, [] => true
  | p, x :: l => inB x low high && (p.all (fun y => decide (y < x)) && ascS low high (some x) l)
theorem v30 (low high : Int) : ∀ (l : List Int) (p : Option Int), (∀ y, p = some y → low ≤ y) → ascS low high p l = asc high (p.getD (low - 1)) l
  | [], p, _ => rfl
  | x :: l, p, h => by
    simp only [ascS, asc]
    by_cases hx : low ≤ x
    · rw [v30 low high l (some x) (fun y hy => by cases hy; exact hx), ← Bool.and_assoc]
      congr 1
      cases p with
      | none => simp [inB]
      | some y => have := h y rfl; rw [Bool.eq_iff_iff]; simp [inB]; omega
    · have h1 : inB x low high = false := by simp [inB]; omega
      have h2 : inB x (p.getD (low - 1) + 1) high = false := by
        cases p with
        | none => simp [inB]; omega
        | some y => have := h y rfl; simp [inB]; omega
      rw [h1, h2]; rfl
theorem v5g (high : Int) : ∀ (l : List Int) (p : Int), p ≤ high → asc high p l = true → (l.length : Int) ≤ high - p
  | [], p, h, _ => by simp; omega
  | x :: l, p, h, ha => by
    simp only [asc, Bool.and_eq_true, inB, decide_eq_true_eq] at ha
    have := v5g high l x ha.1.2 ha.2
    simp only [List.length_cons]; omega
theorem v6f {α : Type} (pre : List α) (y : α) (suf : List α) : getI (pre ++ y :: suf) ((((pre ++ [y]).length : Nat) : Int) - 1) = some y := by
  have : ((((pre ++ [y]).length : Nat) : Int) - 1) = (pre.length : Int) := by simp
  rw [this]; exact wj2 pre y suf
theorem w10 (l : List Int) (least most low high : Int) (hl : l.length ≤ SMALL) : z9r l least most low high = some (inB l.length least most && asc high (low - 1) l) := by
  unfold z9r
  have := scan0 l (by unfold SMALL at hl; omega) (z3r l low high y2c) (fun pre suf => some (ascS low high pre.getLast? suf))
    (fun n => by rw [z3r, if_neg (by simp)]; rfl)
    (fun n pre x suf hl hg hlt hok ih => by
      rw [z3r, if_pos (decide_eq_true hlt), hg]
      simp only [Option.bind_some, z2j, z00 hok, ih]
      rw [ascS]
      by_cases hx : inB x low high = true
      · rw [if_pos hx, hx, Bool.true_and]
        rcases List.eq_nil_or_concat pre with rfl | ⟨pre', y, rfl⟩
        · simp
        · simp only [List.concat_eq_append] at hl hlt hg hok ih ⊢
          have h1 : (((pre' ++ [y]).length : Nat) : Int) = (pre'.length : Int) + 1 := by simp
          have h2 : getI l ((((pre' ++ [y]).length : Nat) : Int) - 1) = some y := by rw [hl, List.append_assoc]; exact v6f pre' y _
          rw [if_pos (decide_eq_true (by omega)), z00 (by constructor <;> omega), h2]
          simp only [Option.bind_some]
          by_cases hy : x ≤ y
          · rw [if_pos (decide_eq_true hy)]; simp; omega
          · rw [if_neg (by simpa using hy)]; simp; omega
      · rw [if_neg hx, Bool.eq_false_iff.2 hx]; rfl)
  rw [this, z2j, Option.bind_some, iteB, v30 low high l _ (fun y hy => by simp at hy)]
  rfl
theorem yz9 (l : List Int) (k : Int) (hl : l.length ≤ SMALL) : zb8 l k = some (l.any (fun x => decide (x = k))) := by
  unfold zb8
  exact scan0 l (by unfold SMALL at hl; omega) (z75 l k y8o) (fun _ suf => some (suf.any (fun x => decide (x = k))))
    (fun n => by rw [z75, if_neg (by simp)]; rfl)
    (fun n pre x suf hl hg hlt hok ih => by
      rw [z75, if_pos (decide_eq_true hlt), hg, Option.bind_some, z00 hok, ih, List.any_cons]
      by_cases hx : x = k <;> simp [hx])
def ascW (high : Int) (w : List Int) : Int → List Int → Bool
  | _, [] => true
  | p, x :: l => inB x (p + 1) high && (!w.any (fun y => decide (x = y)) && ascW high w x l)
theorem wb8 (high : Int) (w : List Int) : ∀ (l : List Int) (p : Int), ascW high w p l = (asc high p l && !l.any (fun x => w.any (fun y => decide (x = y))))
  | [], p => rfl
  | x :: l, p => by
    simp only [ascW, asc, List.any_cons, wb8 high w l x]
    cases inB x (p + 1) high <;> cases w.any (fun y => decide (x = y)) <;> cases asc high x l <;> cases l.any (fun x => w.any (fun y => decide (x = y))) <;> rfl
theorem w0k (l : List Int) (places : Int) (w : List Int) (hl : l.length ≤ SMALL) (hw : w.length ≤ SMALL) (hp : 0 ≤ places ∧ places ≤ 100) :
    z9o l places w = some (ascW (places - 1) w (-1) l) := by
  unfold z9o
  have := scan l (by unfold SMALL at hl; omega) (fun n i s => z5c l places w (l.length : Int) y22 n i s) (fun _ suf s => some (ascW (places - 1) w s suf)) (fun _ s => -1 ≤ s ∧ s ≤ 100)
    (fun n s _ => by rw [z5c, if_neg (by simp)]; rfl)
    (fun n pre x suf s hl hg hlt hok hi ih => by
      rw [z5c, if_pos (decide_eq_true hlt), hg, Option.bind_some, z00 (by constructor <;> omega), z00 (by constructor <;> omega), z5m, Option.bind_some, yu5 w hw, Option.bind_some, z00 hok, ascW]
      by_cases hx : inB x (s + 1) (places - 1) = true
      · have hx' : s + 1 ≤ x ∧ x ≤ places - 1 := by simpa [inB] using hx
        rw [if_pos hx, hx, Bool.true_and, ih x ⟨by omega, by omega⟩, iteN]
      · rw [if_neg hx, Bool.eq_false_iff.2 hx]; rfl) FUEL (-1) ⟨by omega, by omega⟩ (by have := z2i; unfold SMALL at hl; omega)
  exact this
theorem z7o {α : Type} {l : List α} (h : l.length ≤ SMALL) : ok64 ((l.length : Int) - 1) := by unfold SMALL at h; constructor <;> omega
theorem ok_pl {places : Int} (hp : 0 ≤ places ∧ places ≤ 100) : ok64 (places - 1) := by constructor <;> omega
def flowsB (t : GTask) (places : Int) : List GFlow → List GFlow → Bool
  | _, [] => true
  | pre, x :: suf => inB x.to 1 (places - 1) && (expOk x.if_ && (((decide (t.split = 1) || suf.isEmpty) == decide (x.if_.op = 0)) && (!pre.any (fun y => decide (y.to = x.to)) && flowsB t places (pre ++ [x]) suf)))
theorem v6g {α : Type} {l pre suf : List α} {k : Int} {x : α} (hl : l = pre ++ suf) (h : getI pre k = some x) : getI l k = some x := by
  obtain ⟨h0, h1, h2⟩ := zv7 h
  unfold getI; rw [if_pos h0, hl, List.getElem?_append_left h1]; exact h2
theorem w9o (t : GTask) (pre suf : List GFlow) (hl : t.out = pre ++ suf) (hs : t.out.length ≤ SMALL) (x : GFlow) (i : Int) (hi : i = pre.length) (kx : Option Bool) :
    z2o t i x kx FUEL 0 = if (pre.any fun y => decide (y.to = x.to)) = true then some false else kx := by
  subst hi
  have hp : pre.length ≤ 4611686018427387000 := by have := congrArg List.length hl; simp at this; unfold SMALL at hs; omega
  exact scan0 pre hp (z2o t pre.length x kx) (fun _ suf => if (suf.any fun y => decide (y.to = x.to)) = true then some false else kx)
    (fun n => by rw [z2o, if_neg (by simp)]; rfl)
    (fun n p y s hl' hg hlt hok ih => by
      rw [z2o, if_pos (decide_eq_true hlt), v6g hl hg, Option.bind_some, z00 hok, ih, List.any_cons]
      by_cases hx : y.to = x.to <;> simp [hx])
theorem y7y {α : Type} {l pre suf : List α} {x : α} (h : l = pre ++ x :: suf) : (decide ((pre.length : Int) = (l.length : Int) - 1)) = suf.isEmpty := by
  rw [h]
  cases suf with
  | nil => simp
  | cons y s => simp; omega
theorem v0o (t : GTask) (places : Int) (hs : t.out.length ≤ SMALL) (hp : 0 ≤ places ∧ places ≤ 100) : zm6 t places = some (inB t.out.length 1 3 && flowsB t places [] t.out) := by
  unfold zm6
  have := scan0 t.out (by unfold SMALL at hs; omega) (z3q t places y2b) (fun pre suf => some (flowsB t places pre suf))
    (fun n => by rw [z3q, if_neg (by simp)]; rfl)
    (fun n pre x suf hl hg hlt hok ih => by
      rw [z3q, if_pos (decide_eq_true hlt), hg, Option.bind_some, z00 (z7o hs), y7y hl, flowsB]
      simp only [z00 (ok_pl hp), z2j, y2h, Option.bind_some, w9o t pre _ hl hs x _ rfl, y29, y2a, z00 hok, ih]
      cases suf.isEmpty <;> cases inB x.to 1 (places - 1) <;> cases expOk x.if_ <;> cases decide (x.if_.op = 0) <;> cases decide (t.split = 1) <;> cases (pre.any fun y => decide (y.to = x.to)) <;> simp)
  rw [this, z2j, Option.bind_some, iteB]
theorem v4k (t : GTask) (places : Int) (hs : t.out.length ≤ SMALL) (hp : 0 ≤ places ∧ places ≤ 100) : z6l t places = some (flowsB t places [] t.out && inB t.out.length 1 3) := by
  unfold z6l
  have := scan t.out (by unfold SMALL at hs; omega) (fun n i s => z1a t places t.out (t.out.length : Int) (z7i t) n i s) (fun pre suf _ => some (flowsB t places pre suf && inB t.out.length 1 3)) (fun pre s => ∀ k, k ∈ s ↔ k = 0 ∨ ∃ y ∈ pre, y.to = k)
    (fun n s _ => by rw [z1a, if_neg (by simp), z7i, z5m]; rfl)
    (fun n pre x suf s hl hg hlt hok hi ih => by
      have ih' := ih (insKey s x.to) (by
        intro k
        simp only [List.mem_append, List.mem_singleton]
        unfold insKey
        split
        · rename_i hin
          rw [hi k]
          constructor
          · rintro (h | ⟨y, hy, h⟩)
            · exact .inl h
            · exact .inr ⟨y, .inl hy, h⟩
          · rintro (h | ⟨y, hy | hy, h⟩)
            · exact .inl h
            · exact .inr ⟨y, hy, h⟩
            · subst hy; rw [← h]; exact (hi _).1 hin
        · rw [List.mem_append, List.mem_singleton, hi k]
          constructor
          · rintro ((h | ⟨y, hy, h⟩) | h)
            · exact .inl h
            · exact .inr ⟨y, .inl hy, h⟩
            · exact .inr ⟨x, .inr rfl, h.symm⟩
          · rintro (h | ⟨y, hy | hy, h⟩)
            · exact .inl (.inl h)
            · exact .inl (.inr ⟨y, hy, h⟩)
            · subst hy; exact .inr h.symm)
      rw [z1a, if_pos (decide_eq_true hlt), hg, Option.bind_some, y7y hl, flowsB]
      simp only [z00 (z7o hs), z00 (ok_pl hp), z5m, yx3, Option.bind_some, z00 hok, ih']
      have hin : (decide (x.to ∈ s)) = (decide (x.to = 0) || pre.any fun y => decide (y.to = x.to)) := by
        rw [Bool.eq_iff_iff]; simp [hi x.to]
      rw [hin]
      have h01 : inB x.to 0 (places - 1) = (inB x.to 1 (places - 1) || (decide (x.to = 0) && decide (0 ≤ places - 1))) := by rw [Bool.eq_iff_iff]; simp [inB]; omega
      have h02 : x.to = 0 → inB x.to 1 (places - 1) = false := by intro h; simp [inB, h]
      rw [h01]
      by_cases hz : x.to = 0
      · rw [h02 hz]; simp [hz]
      · simp only [hz, decide_false, Bool.false_and, Bool.or_false, Bool.false_or]
        cases suf.isEmpty <;> cases inB x.to 1 (places - 1) <;> cases expOk x.if_ <;> cases decide (x.if_.op = 0) <;> by_cases hsp : t.split = 1 <;> cases (pre.any fun y => decide (y.to = x.to)) <;> simp [hsp]) FUEL (insKey [] 0) (by intro k; simp [insKey]) (by have := z2i; unfold SMALL at hs; omega)
  exact this
def taskB (t : GTask) (places tasks : Int) : Bool :=
  inB t.join 1 3 && (inB t.split 1 3 && ((inB t.in_.length 1 3 && asc (places - 1) (-1) t.in_) && (!t.in_.any (fun x => decide (x = 1)) && ((inB t.out.length 1 3 && flowsB t places [] t.out) &&
    ((inB t.clear.length 0 places && asc (places - 1) 1 t.clear) && (inB t.role 1 3 && (inB t.apart (-1) (tasks - 1) && (inB t.all 1 3 && inB t.need 1 t.all))))))))
end Go.Am.Pl
namespace Go.Am
def GTask.small (t : GTask) : Prop := t.in_.length ≤ SMALL ∧ t.out.length ≤ SMALL ∧ t.clear.length ≤ SMALL
end Go.Am
namespace Go.Am.Pl
theorem v2i (t : GTask) (places tasks : Int) (hs : t.small) (hp : 0 ≤ places ∧ places ≤ 100) (ht : 0 ≤ tasks ∧ tasks ≤ SMALL) : zu4 t places tasks = some (taskB t places tasks) := by
  obtain ⟨h1, h2, h3⟩ := hs
  unfold zu4 taskB
  have ht' : ok64 (tasks - 1) := by unfold SMALL at ht; constructor <;> omega
  simp only [z2j, Option.bind_some, z00 (ok_pl hp), z00 ht', w10 _ _ _ _ _ h1, w10 _ _ _ _ _ h3, yz9 _ _ h1, v0o t places h2 hp, iteB, iteN]
  rfl
theorem v9j (places : Int) (hp : 0 ≤ places) (l : List Int) : ascW (places - 1) [0, 1] (-1) l = (inB l.length 0 places && asc (places - 1) 1 l) := by
  rw [wb8]
  have key : ∀ (l : List Int) (p : Int), 1 ≤ p → (asc (places - 1) p l && !l.any (fun x => [0, 1].any (fun y => decide (x = y)))) = asc (places - 1) p l := by
    intro l
    induction l with
    | nil => intro p _; rfl
    | cons x l ih =>
      intro p hp'
      by_cases hx : inB x (p + 1) (places - 1) = true
      · have hx' : p + 1 ≤ x := by simp [inB] at hx; omega
        have h01 : ([0, 1].any fun y => decide (x = y)) = false := by simp; omega
        simp only [asc, hx, Bool.true_and, List.any_cons (l := l), h01, Bool.false_or]
        exact ih x (by omega)
      · simp only [asc, Bool.eq_false_iff.2 hx, Bool.false_and]
  cases l with
  | nil => simp [asc, inB]; exact hp
  | cons x l =>
    by_cases hx : inB x 2 (places - 1) = true
    · have hx' : 2 ≤ x ∧ x ≤ places - 1 := by simpa [inB] using hx
      have h01 : ([0, 1].any fun y => decide (x = y)) = false := by simp; omega
      have h1 : inB x (-1 + 1) (places - 1) = true := by simp [inB]; omega
      have h2 : inB x (1 + 1) (places - 1) = true := by simp [inB]; omega
      simp only [asc, h1, h2, Bool.true_and, List.any_cons (l := l), h01, Bool.false_or, key l x (by omega)]
      cases ha : asc (places - 1) x l with
      | false => simp
      | true =>
        have := v5g (places - 1) l x (by omega) ha
        simp [inB]; omega
    · have h2 : inB x (1 + 1) (places - 1) = false := Bool.eq_false_iff.2 hx
      simp only [asc, h2, Bool.false_and, Bool.and_false]
      by_cases h1 : inB x (-1 + 1) (places - 1) = true
      · have h01 : ([0, 1].any fun y => decide (x = y)) = true := by simp [inB] at hx h1 ⊢; omega
        simp only [List.any_cons (l := l), h01, Bool.true_or, Bool.not_true, Bool.and_false]
      · rw [Bool.eq_false_iff.2 h1]; rfl
theorem in_eq (places : Int) (l : List Int) : ascW (places - 1) [1] (-1) l = (asc (places - 1) (-1) l && !l.any (fun x => decide (x = 1))) := by
  rw [wb8]; simp
theorem vi6 (t : GTask) (places tasks : Int) (hs : t.small) (hp : 0 ≤ places ∧ places ≤ 100) (ht : 0 ≤ tasks ∧ tasks ≤ SMALL) : z93 t places tasks = some (taskB t places tasks) := by
  obtain ⟨h1, h2, h3⟩ := hs
  unfold z93 taskB
  have ht' : ok64 (tasks - 1) := by unfold SMALL at ht; constructor <;> omega
  simp only [zt4, zf0, z5m, Option.bind_some, z00 ht', w0k _ _ [1] h1 (by unfold SMALL; decide) hp, w0k _ _ [0, 1] h3 (by unfold SMALL; decide) hp, v4k t places h2 hp, iteB, in_eq, v9j places hp.1]
  congr 1
  generalize inB t.join 1 3 = a; generalize inB t.split 1 3 = b; generalize inB t.in_.length 1 3 = c; generalize asc (places - 1) (-1) t.in_ = d; generalize t.in_.any (fun x => decide (x = 1)) = e
  generalize flowsB t places [] t.out = f; generalize inB t.out.length 1 3 = g; generalize (inB t.clear.length 0 places && asc (places - 1) 1 t.clear) = h
  cases a <;> cases b <;> cases c <;> cases d <;> cases e <;> cases f <;> cases g <;> simp
def netB (n : GNet) : Bool := inB n.places 2 8 && (inB n.tasks.length 1 6 && n.tasks.all (fun t => taskB t n.places n.tasks.length))
end Go.Am.Pl
namespace Go.Am
def GNet.small (n : GNet) : Prop := n.tasks.length ≤ SMALL ∧ ∀ t ∈ n.tasks, t.small
end Go.Am
namespace Go.Am.Pl
theorem y2i (n : GNet) (hs : n.small) : z3c n = some (netB n) := by
  unfold z3c netB
  simp only [z2j, Option.bind_some]
  by_cases hp : inB n.places 2 8 = true
  · have hp' : 0 ≤ n.places ∧ n.places ≤ 100 := by simp [inB] at hp; omega
    have := scan0 n.tasks (by have := hs.1; unfold SMALL at this; omega) (z72 n y8h) (fun _ suf => some (suf.all (fun t => taskB t n.places n.tasks.length)))
      (fun k => by rw [z72, if_neg (by simp)]; rfl)
      (fun k pre x suf hl hg hlt hok ih => by
        rw [z72, if_pos (decide_eq_true hlt), hg, Option.bind_some, v2i x _ _ (hs.2 x (by rw [hl]; simp)) hp' ⟨by omega, by exact_mod_cast hs.1⟩, Option.bind_some, z00 hok, ih, iteB, List.all_cons])
    rw [this, if_pos hp, hp, iteB, Bool.true_and]
  · rw [if_neg hp, Bool.eq_false_iff.2 hp]; rfl
theorem yb2 (n : GNet) (hs : n.small) : z8j n = some (netB n) := by
  unfold z8j netB y17
  simp only [z5m, Option.bind_some, iteB]
  by_cases hp : inB n.places 2 8 = true
  · have hp' : 0 ≤ n.places ∧ n.places ≤ 100 := by simp [inB] at hp; omega
    rw [ym7 n.tasks hs.1 _ (fun t => !taskB t n.places n.tasks.length) (fun t ht => by
      unfold y14; rw [vi6 t _ _ (hs.2 t ht) hp' ⟨by omega, by exact_mod_cast hs.1⟩]; rfl), Option.bind_some, zv5, iteB, hp]
    rfl
  · rw [Bool.eq_false_iff.2 hp]; rfl
end Go.Am.Pl
end
section
namespace Go.Am.Pl
open Go
deriving instance Inhabited for GAsk, GFlow, GTask, GNet, GItem, GDid, GCase, GNode, GRun, GHouse, GReq
theorem wj3 {α : Type} (l : List α) {i : Int} (h0 : 0 ≤ i) (h1 : i < l.length) : ∃ x, getI l i = some x ∧ x ∈ l := by
  obtain ⟨n, rfl⟩ := Int.eq_ofNat_of_zero_le h0
  have hn : n < l.length := by omega
  exact ⟨l[n], by rw [z3h, List.getElem?_eq_getElem hn], List.getElem_mem hn⟩
def atI {α : Type} [Inhabited α] (l : List α) (i : Int) : α := (getI l i).getD default
theorem z0g {α : Type} [Inhabited α] (l : List α) {i : Int} (h0 : 0 ≤ i) (h1 : i < l.length) : getI l i = some (atI l i) := by
  obtain ⟨x, hx, _⟩ := wj3 l h0 h1
  unfold atI; rw [hx]; rfl
theorem z29 {α : Type} [Inhabited α] (l : List α) {i : Int} (h0 : 0 ≤ i) (h1 : i < l.length) : atI l i ∈ l := by
  obtain ⟨x, hx, hm⟩ := wj3 l h0 h1
  unfold atI; rw [hx]; exact hm
theorem z0b {n a b : Int} : inB n a b = true ↔ a ≤ n ∧ n ≤ b := by simp [inB]
def expHolds (e : GAsk) (data : List Int) : Bool :=
  expOk e && (datOk data && (bif decide (e.op = 1) then decide (atI data e.var < e.k) else bif decide (e.op = 2) then decide (atI data e.var = e.k) else bif decide (e.op = 3) then decide (e.k < atI data e.var) else true))
theorem ws0 {e : GAsk} {data : List Int} (h : expOk e = true) (hd : datOk data = true) : e.op = 0 ∨ getI data e.var = some (atI data e.var) := by
  by_cases h0 : e.op = 0
  · exact .inl h0
  · right
    simp [expOk, h0, inB] at h
    simp [datOk] at hd
    exact z0g data (by omega) (by omega)
theorem z53 (e : GAsk) (data : List Int) (hl : data.length ≤ SMALL) : z1b e data = some (expHolds e data) := by
  unfold z1b expHolds
  rw [y2h, Option.bind_some, z83 data hl]
  by_cases h1 : expOk e = true
  · by_cases h2 : datOk data = true
    · rcases ws0 h1 h2 with h | h
      · simp [h1, h2, h]
      · rw [if_pos h1, Option.bind_some, if_pos h2, h1, h2, h]
        by_cases a : e.op = 1 <;> by_cases b : e.op = 2 <;> by_cases c : e.op = 3 <;> simp [a, b, c]
    · simp [h1, Bool.eq_false_iff.2 h2]
  · simp [Bool.eq_false_iff.2 h1]
theorem z7c (e : GAsk) (data : List Int) (hl : data.length ≤ SMALL) : z2c e data = some (expHolds e data) := by
  unfold z2c expHolds
  rw [yx3, Option.bind_some, zb0 data hl]
  by_cases h1 : expOk e = true
  · by_cases h2 : datOk data = true
    · rcases ws0 h1 h2 with h | h
      · simp [h1, h2, h]
      · rw [if_pos h1, Option.bind_some, if_pos h2, h1, h2, h]
        by_cases a : e.op = 1 <;> by_cases b : e.op = 2 <;> by_cases c : e.op = 3 <;> simp [a, b, c]
    · simp [h1, Bool.eq_false_iff.2 h2]
  · simp [Bool.eq_false_iff.2 h1]
def marksB (n : GNet) (m : List Int) : Bool := decide ((m.length : Int) = n.places) && m.all (fun x => inB x 0 4)
def mrkB (n : GNet) (m : List Int) : Bool := netB n && marksB n m
theorem yc1 (n : GNet) (m : List Int) (hn : n.small) (hm : m.length ≤ SMALL) : z8o n m = some (mrkB n m) := by
  unfold z8o mrkB marksB
  have := scan0 m (by unfold SMALL at hm; omega) (z71 m y8g) (fun _ suf => some (suf.all (fun x => inB x 0 4)))
    (fun k => by rw [z71, if_neg (by simp)]; rfl)
    (fun k pre x suf hl hg hlt hok ih => by
      rw [z71, if_pos (decide_eq_true hlt), hg, Option.bind_some, z2j, Option.bind_some, z00 hok, ih, iteB, List.all_cons])
  rw [this, y2i n hn, Option.bind_some, iteB, iteB]
theorem w0l (n : GNet) (m : List Int) (hm : m.length ≤ SMALL) : z4c n m = some (marksB n m) := by
  unfold z4c marksB
  rw [z9j m hm _ (fun x => !inB x 0 4) (fun x _ => by unfold z7g; rw [z5m]; rfl), Option.bind_some, zv5, iteB]
theorem yx4 (n : GNet) (m : List Int) (hn : n.small) (hm : m.length ≤ SMALL) : zb6 n m = some (mrkB n m) := by
  unfold zb6 mrkB
  rw [yb2 n hn, Option.bind_some, w0l n m hm, Option.bind_some, iteB]
def pplB (p : List Int) : Bool := inB p.length 1 4 && p.all (fun x => inB x 0 7)
theorem yc2 (m : List Int) (hm : m.length ≤ SMALL) : z8p m = some (pplB m) := by
  unfold z8p pplB
  have := scan0 m (by unfold SMALL at hm; omega) (z73 m y8i) (fun _ suf => some (suf.all (fun x => inB x 0 7)))
    (fun k => by rw [z73, if_neg (by simp)]; rfl)
    (fun k pre x suf hl hg hlt hok ih => by
      rw [z73, if_pos (decide_eq_true hlt), hg, Option.bind_some, z2j, Option.bind_some, z00 hok, ih, iteB, List.all_cons])
  rw [this, z2j, Option.bind_some, iteB]
theorem yx5 (m : List Int) (hm : m.length ≤ SMALL) : zb7 m = some (pplB m) := by
  unfold zb7 pplB
  rw [z5m, Option.bind_some, z9j m hm _ (fun x => !inB x 0 7) (fun x _ => by unfold y15; rw [z5m]; rfl), Option.bind_some, zv5, iteB]
def itemB (n : GNet) (b : GItem) : Bool := inB b.task 0 ((n.tasks.length : Int) - 1) && (inB b.who 1 4 && inB b.did 0 ((atI n.tasks b.task).need - 1))
def busyB (n : GNet) (busy : List GItem) : Bool := decide ((busy.length : Int) ≤ 6) && busy.all (itemB n)
theorem wy4 {n : GNet} (h : netB n = true) {t : GTask} (ht : t ∈ n.tasks) : 1 ≤ t.need ∧ t.need ≤ 3 := by
  simp only [netB, Bool.and_eq_true, List.all_eq_true] at h
  have := h.2.2 t ht
  simp only [taskB, Bool.and_eq_true, z0b] at this
  omega
theorem w6h (n : GNet) (busy : List GItem) (hn : n.small) (hb : busy.length ≤ SMALL) (ho : netB n = true) : zg7 n busy = some (busyB n busy) := by
  unfold zg7 busyB
  have := scan0 busy (by unfold SMALL at hb; omega) (z5v n busy y5g) (fun _ suf => some (suf.all (itemB n)))
    (fun k => by rw [z5v, if_neg (by simp)]; rfl)
    (fun k pre x suf hl hg hlt hok ih => by
      rw [z5v, if_pos (decide_eq_true hlt), hg]
      simp only [Option.bind_some, z00 (z7o hn.1), z2j, List.all_cons, itemB]
      by_cases h1 : inB x.task 0 ((n.tasks.length : Int) - 1) = true
      · have h1' := z0b.1 h1
        have hmem := z29 n.tasks h1'.1 (by omega)
        have hneed := wy4 ho hmem
        rw [if_pos h1, z0g n.tasks h1'.1 (by omega), Option.bind_some, z00 (by constructor <;> omega), z00 hok, ih, h1]
        cases inB x.who 1 4 <;> cases inB x.did 0 ((atI n.tasks x.task).need - 1) <;> simp
      · rw [if_neg h1, Bool.eq_false_iff.2 h1]; rfl)
  rw [this]
  by_cases h6 : 6 < (busy.length : Int)
  · rw [if_pos (decide_eq_true h6), decide_eq_false (by omega)]; rfl
  · rw [if_neg (by simpa using h6), decide_eq_true (by omega)]; rfl
theorem w4w (n : GNet) (busy : List GItem) (hn : n.small) (hb : busy.length ≤ SMALL) (ho : netB n = true) : z4t n busy = some (busyB n busy) := by
  unfold z4t busyB
  have := scan0 busy (by unfold SMALL at hb; omega) (z1y n busy (busy.length : Int) (ze8 busy)) (fun _ suf => some (suf.all (itemB n) && decide ((busy.length : Int) ≤ 6)))
    (fun k => by rw [z1y, if_neg (by simp)]; rfl)
    (fun k pre x suf hl hg hlt hok ih => by
      rw [z1y, if_pos (decide_eq_true hlt), hg]
      simp only [z0n, z8m, Option.bind_some, z00 (z7o hn.1), z5m, List.all_cons, itemB]
      by_cases h1 : inB x.task 0 ((n.tasks.length : Int) - 1) = true
      · have h1' := z0b.1 h1
        have hmem := z29 n.tasks h1'.1 (by omega)
        have hneed := wy4 ho hmem
        rw [if_pos h1, z0g n.tasks h1'.1 (by omega), Option.bind_some, z00 (by constructor <;> omega), z00 hok, ih, h1]
        cases inB x.who 1 4 <;> cases inB x.did 0 ((atI n.tasks x.task).need - 1) <;> simp
      · rw [if_neg h1, Bool.eq_false_iff.2 h1]; rfl)
  rw [this, Bool.and_comm]
def didB (n : GNet) (d : GDid) : Bool := inB d.task 0 ((n.tasks.length : Int) - 1) && inB d.who 1 4
def stateB (c : GCase) : Bool := bif decide (c.state = 1) then decide (atI c.marks 1 = 0) else decide ((c.busy.length : Int) = 0) && (decide (c.state = 2) == decide (0 < atI c.marks 1))
def casB (n : GNet) (c : GCase) : Bool := mrkB n c.marks && (busyB n c.busy && (datOk c.data && (!decide (60 < (c.did.length : Int)) && (inB c.state 1 3 && (c.did.all (didB n) && stateB c)))))
end Go.Am.Pl
namespace Go.Am
def GCase.small (c : GCase) : Prop := c.marks.length ≤ SMALL ∧ c.busy.length ≤ SMALL ∧ c.data.length ≤ SMALL ∧ c.did.length ≤ SMALL
end Go.Am
namespace Go.Am.Pl
theorem w33 {n : GNet} {m : List Int} (h : mrkB n m = true) : netB n = true := by simp only [mrkB, Bool.and_eq_true] at h; exact h.1
theorem v3h {n : GNet} {m : List Int} (h : mrkB n m = true) : getI m 1 = some (atI m 1) := by
  simp only [mrkB, netB, marksB, Bool.and_eq_true, z0b, decide_eq_true_eq] at h
  exact z0g m (by omega) (by omega)
theorem yc0 (n : GNet) (c : GCase) (hn : n.small) (hc : c.small) : z8n n c = some (casB n c) := by
  obtain ⟨hc1, hc2, hc3, hc4⟩ := hc
  unfold z8n casB
  rw [yc1 n c.marks hn hc1, Option.bind_some]
  by_cases h1 : mrkB n c.marks = true
  · have ho := w33 h1
    have hk : zf1 c = some (stateB c) := by
      unfold zf1 stateB
      rw [v3h h1]
      by_cases hs : c.state = 1
      · simp [hs]
      · by_cases hb : c.busy = [] <;> simp [hs, hb]
    have := scan0 c.did (by unfold SMALL at hc4; omega) (z6w n c (zf1 c)) (fun _ suf => some (suf.all (didB n) && stateB c))
      (fun k => by rw [z6w, if_neg (by simp), hk]; rfl)
      (fun k pre x suf hl hg hlt hok ih => by
        rw [z6w, if_pos (decide_eq_true hlt), hg]
        simp only [Option.bind_some, z00 (z7o hn.1), z2j, List.all_cons, didB, z00 hok, ih]
        cases inB x.task 0 ((n.tasks.length : Int) - 1) <;> cases inB x.who 1 4 <;> simp)
    rw [if_pos h1, w6h n c.busy hn hc2 ho, Option.bind_some, z83 c.data hc3, Option.bind_some, z2j, Option.bind_some, this, h1]
    simp only [iteB, iteN]
    rfl
  · rw [if_neg h1, Bool.eq_false_iff.2 h1]; rfl
theorem wa1 (n : GNet) (c : GCase) (hn : n.small) (hc : c.small) : zn7 n c = some (casB n c) := by
  obtain ⟨hc1, hc2, hc3, hc4⟩ := hc
  unfold zn7 casB
  rw [yx4 n c.marks hn hc1, Option.bind_some]
  by_cases h1 : mrkB n c.marks = true
  · have ho := w33 h1
    have hk : ze5 c = some (inB c.state 1 3 && stateB c) := by
      unfold ze5 stateB
      rw [v3h h1]
      by_cases hs : c.state = 1
      · simp [hs, inB]
      · by_cases hs2 : c.state = 2
        · by_cases hb : c.busy = [] <;> simp [hs2, hb, inB]
        · by_cases hs3 : c.state = 3
          · by_cases hb : c.busy = [] <;> simp [hs3, hb, inB]
          · have : inB c.state 1 3 = false := by simp [inB]; omega
            simp [hs, hs2, hs3, this]
    have := scan0 c.did (by unfold SMALL at hc4; omega) (z6o n c.did (c.did.length : Int) (ze5 c)) (fun _ suf => some (suf.all (didB n) && (inB c.state 1 3 && stateB c)))
      (fun k => by rw [z6o, if_neg (by simp), hk]; rfl)
      (fun k pre x suf hl hg hlt hok ih => by
        rw [z6o, if_pos (decide_eq_true hlt), hg]
        simp only [z0n, z8m, Option.bind_some, z00 (z7o hn.1), z5m, List.all_cons, didB, z00 hok, ih]
        cases inB x.task 0 ((n.tasks.length : Int) - 1) <;> cases inB x.who 1 4 <;> simp)
    rw [if_pos h1, w4w n c.busy hn hc2 ho, Option.bind_some, zb0 c.data hc3, Option.bind_some, this, h1]
    simp only [iteB, iteN]
    congr 1
    cases busyB n c.busy <;> cases datOk c.data <;> cases c.did.all (didB n) <;> cases inB c.state 1 3 <;> simp
  · rw [if_neg h1, Bool.eq_false_iff.2 h1]; rfl
theorem v52 {t : GTask} (h : GTask.lens (· ≤ 1048576) t) : t.small := by
  obtain ⟨a, b, c⟩ := h; unfold GTask.small SMALL; omega
theorem v81 {n : GNet} (h : GNet.lens (· ≤ 1048576) n) : n.small := ⟨by have := h.1; dsimp only at this; unfold SMALL; omega, fun t ht => v52 (h.2 t ht)⟩
theorem v51 {c : GCase} (h : GCase.lens (· ≤ 1048576) c) : c.small := by
  obtain ⟨a, b, c, d⟩ := h; unfold GCase.small SMALL; omega
end Go.Am.Pl
end
section
namespace Go.Am.Pl
open Go
def Tot {α : Type} (o : Option α) (P : α → Prop) : Prop := ∃ v, o = some v ∧ P v
section
variable {α β : Type}
theorem Tot.pure {v : α} {P : α → Prop} (h : P v) : Tot (some v) P := ⟨v, rfl, h⟩
theorem Tot.bind {o : Option α} {P : α → Prop} (h : Tot o P) {f : α → Option β} {Q : β → Prop} (g : ∀ v, P v → Tot (f v) Q) : Tot (o.bind f) Q := by
  obtain ⟨v, rfl, hv⟩ := h; exact g v hv
theorem Tot.bindE {o : Option α} {v : α} (h : o = some v) {f : α → Option β} {Q : β → Prop} (g : Tot (f v) Q) : Tot (o.bind f) Q := by rw [h]; exact g
theorem Tot.gd {p : Prop} [Decidable p] {x : Option α} {Q : α → Prop} (h : p) (g : Tot x Q) : Tot (gd p x) Q := by rw [z00 h]; exact g
theorem Tot.ite {c : Prop} [Decidable c] {a b : Option α} {Q : α → Prop} (h1 : c → Tot a Q) (h2 : ¬ c → Tot b Q) : Tot (if c then a else b) Q := by
  split
  · exact h1 ‹_›
  · exact h2 ‹_›
theorem Tot.iteD {c : Prop} [Decidable c] {a b : Option α} {Q : α → Prop} (h1 : c → Tot a Q) (h2 : ¬ c → Tot b Q) : Tot (if decide c = true then a else b) Q :=
  Tot.ite (fun h => h1 (of_decide_eq_true h)) (fun h => h2 (fun x => h (decide_eq_true x)))
theorem Tot.iteN {c : Prop} [Decidable c] {a b : Option α} {Q : α → Prop} (h1 : ¬ c → Tot a Q) (h2 : c → Tot b Q) : Tot (if (!decide c) = true then a else b) Q :=
  Tot.ite (fun h => h1 (by simpa using h)) (fun h => h2 (by simpa using h))
theorem Tot.mono {o : Option α} {P Q : α → Prop} (h : Tot o P) (g : ∀ v, P v → Q v) : Tot o Q := by obtain ⟨v, e, hv⟩ := h; exact ⟨v, e, g v hv⟩
theorem Tot.getI {l : List α} {i : Int} (h0 : 0 ≤ i) (h1 : i < l.length) {f : α → Option β} {Q : β → Prop} (g : ∀ x, x ∈ l → getI l i = some x → Tot (f x) Q) : Tot ((getI l i).bind f) Q := by
  obtain ⟨x, hx, hm⟩ := wj3 l h0 h1
  rw [hx]; exact g x hm hx
theorem Tot.loop {σ : Type} (I : σ → Prop) (mu : σ → Nat) (f : Nat → σ → Option β) {Q : β → Prop} (step : ∀ n s, I s → (∀ s', I s' → mu s' < mu s → Tot (f n s') Q) → Tot (f (n + 1) s) Q) : ∀ (k n : Nat) (s : σ), mu s ≤ k → k < n → I s → Tot (f n s) Q
  | 0, n, s, hm, hn, hi => by
    obtain ⟨m, rfl⟩ : ∃ m, n = m + 1 := ⟨n - 1, by omega⟩
    exact step m s hi fun s' _ h => absurd h (by omega)
  | k + 1, n, s, hm, hn, hi => by
    obtain ⟨m, rfl⟩ : ∃ m, n = m + 1 := ⟨n - 1, by omega⟩
    exact step m s hi fun s' hi' h => Tot.loop I mu f step k m s' (by omega) (by omega) hi'
theorem Tot.loopF {σ : Type} (I : σ → Prop) (mu : σ → Nat) (f : Nat → σ → Option β) {Q : β → Prop} (step : ∀ n s, I s → (∀ s', I s' → mu s' < mu s → Tot (f n s') Q) → Tot (f (n + 1) s) Q) (s : σ) (hm : mu s ≤ 1000000000000) (hi : I s) : Tot (f FUEL s) Q :=
  Tot.loop I mu f step _ FUEL s hm (by have := z2i; omega) hi
end
theorem v5m {x : Int} (h : 0 ≤ x ∧ x < 4611686018427387904) : BitVec.ofInt 64 x = BitVec.ofNat 64 x.toNat := by
  obtain ⟨n, rfl⟩ := Int.eq_ofNat_of_zero_le h.1
  apply BitVec.eq_of_toNat_eq
  rw [BitVec.toNat_ofInt, BitVec.toNat_ofNat]
  omega
theorem vl3 {x y : Int} (hx : 0 ≤ x ∧ x < 4611686018427387904) (hy : 0 ≤ y ∧ y < 4611686018427387904) : 0 ≤ xorI x y ∧ xorI x y < 4611686018427387904 := by
  unfold xorI
  rw [v5m hx, v5m hy, BitVec.toNat_xor, BitVec.toNat_ofNat, BitVec.toNat_ofNat]
  have h1 : x.toNat % 2 ^ 64 < 2 ^ 62 := by omega
  have h2 : y.toNat % 2 ^ 64 < 2 ^ 62 := by omega
  have := Nat.xor_lt_two_pow h1 h2
  rw [IntKind.wrap_i64]; omega
structure Rd (K : Int) (r : GRd) : Prop where
  byte : ∀ y ∈ r.b, 0 ≤ y ∧ y ≤ 255
  len : r.b.length ≤ 2000
  p0 : 0 ≤ r.p
  p1 : r.p ≤ K
theorem Rd.mono {K L : Int} {r : GRd} (h : Rd K r) (hl : K ≤ L) : Rd L r := ⟨h.byte, h.len, h.p0, Int.le_trans h.p1 hl⟩
end Go.Am.Pl
end
section
namespace Go.Am.Pl
open Go
theorem Tot.bind2 {α β γ : Type} {o : Option (α × β)} {P : α × β → Prop} (h : Tot o P) {f : α × β → Option γ} {Q : γ → Prop} (g : ∀ a b, P (a, b) → Tot (f (a, b)) Q) : Tot (o.bind f) Q := by
  obtain ⟨⟨a, b⟩, rfl, hv⟩ := h; exact g a b hv
theorem z0i {K : Int} {r : GRd} {n : Int} (h : Rd K r) (hK : K ≤ 1000000000) : Tot (z02 r n) (fun v => (0 ≤ v.1 ∧ (1 ≤ n → v.1 < n)) ∧ Rd (K + 1) v.2) := by
  obtain ⟨hb, hl, h0, h1⟩ := h
  have R : Rd (K + 1) (GRd.mk r.b (r.p + 1)) := ⟨hb, hl, by show 0 ≤ r.p + 1; omega, by show r.p + 1 ≤ K + 1; omega⟩
  unfold z02
  refine Tot.gd (by constructor <;> omega) (Tot.iteD (fun c => Tot.pure ⟨⟨Int.le_refl _, fun h => absurd h (by omega)⟩, R⟩) (fun c => ?_))
  refine Tot.iteD (fun c => Tot.pure ⟨⟨Int.le_refl _, fun h => by show (0 : Int) < n; omega⟩, R⟩) (fun c2 => ?_)
  have mod : ∀ x : Int, 0 ≤ x → Tot (some (Int.tmod x n, GRd.mk r.b (r.p + 1))) (fun v => (0 ≤ v.1 ∧ (1 ≤ n → v.1 < n)) ∧ Rd (K + 1) v.2) := fun x hx =>
    Tot.pure ⟨⟨Int.tmod_nonneg _ hx, fun h => Int.tmod_lt_of_pos _ (by omega)⟩, R⟩
  refine Tot.gd (by constructor <;> omega) (Tot.iteD (fun c3 => ?_) (fun c3 => ?_))
  · refine Tot.getI (by omega) c3 (fun x hx _ => ?_)
    have := hb x hx
    exact Tot.gd (by constructor <;> omega) (Tot.gd (by omega) (mod x (by omega)))
  · have hlen : 0 < (r.b.length : Int) := by omega
    refine Tot.gd (by omega) (Tot.getI (Int.tmod_nonneg _ (by omega)) (Int.tmod_lt_of_pos _ hlen) (fun x hx _ => ?_))
    have hx := hb x hx
    refine Tot.gd (by constructor <;> omega) (Tot.gd (by constructor <;> omega) (Tot.gd (by constructor <;> omega) (Tot.gd (by constructor <;> omega) (Tot.gd (by omega) ?_))))
    refine Tot.getI (Int.tmod_nonneg _ (by omega)) (Int.tmod_lt_of_pos _ hlen) (fun y hy _ => ?_)
    have hy := hb y hy
    have hq : 0 ≤ Int.tdiv (r.p + 1 - 1) (r.b.length : Int) ∧ Int.tdiv (r.p + 1 - 1) (r.b.length : Int) ≤ r.p := by
      rw [Int.tdiv_eq_ediv_of_nonneg (by omega)]
      refine ⟨Int.ediv_nonneg (by omega) (by omega), Int.le_trans (Int.ediv_le_self _ (by omega)) (by omega)⟩
    generalize Int.tdiv (r.p + 1 - 1) (r.b.length : Int) = q at *
    refine Tot.gd (by constructor <;> omega) (Tot.gd (by constructor <;> omega) (Tot.gd (by constructor <;> omega) (Tot.gd (by constructor <;> omega) (Tot.gd (by constructor <;> omega) (Tot.gd ⟨by omega, by constructor <;> omega⟩ (Tot.gd (by constructor <;> omega) (Tot.gd (by constructor <;> omega) ?_)))))))
    generalize hs : x * 131 + y * 1117 + (r.p + 1 - 1) * 29 + q * 53 = s
    have hs0 : 0 ≤ s ∧ s ≤ 1000000000000 := by omega
    have hd : Int.tdiv s 64 = s / 64 := Int.tdiv_eq_ediv_of_nonneg (by omega)
    rw [hd]
    refine Tot.gd ⟨by omega, by constructor <;> omega⟩ (Tot.gd (by omega) (mod _ (vl3 ⟨by omega, by omega⟩ ⟨by omega, by omega⟩).1))
theorem Rd.eta {K : Int} {r : GRd} (h : Rd K r) : Rd K (GRd.mk r.b r.p) := h
theorem y3h {K : Int} {r : GRd} {n : Int} (h : Rd K r) (hK : K ≤ 900000000) : Tot (z2d r n) (fun v => v.1.length ≤ 4 ∧ Rd (K + 20) v.2) := by
  unfold z2d
  have key := Tot.loopF (Q := fun v : List Int × GRd => v.1.length ≤ 4 ∧ Rd (K + 20) v.2) (fun s : List Int × Int × Int × List Int => Rd (K + 2 * s.2.2.1) (GRd.mk s.1 s.2.1) ∧ 0 ≤ s.2.2.1 ∧ s.2.2.1 ≤ 3 ∧ (s.2.2.2.length : Int) = s.2.2.1) (fun s => (3 - s.2.2.1).toNat)
    (fun f s => z5g (z99 n) f s.1 s.2.1 s.2.2.1 s.2.2.2) (fun f s hi ih => ?_) (r.b, r.p, 0, []) (by dsimp only; omega) ⟨by dsimp only; exact h.eta.mono (by omega), by dsimp only; omega, by dsimp only; omega, rfl⟩
  · exact key
  obtain ⟨b0, p0, i, l⟩ := s
  obtain ⟨h1, h2, h3, h4⟩ := hi
  dsimp only at h1 h2 h3 h4 ⊢
  have ih' : ∀ b p i' l', Rd (K + 2 * i') (GRd.mk b p) → 0 ≤ i' → i' ≤ 3 → ((l' : List Int).length : Int) = i' → i < i' → Tot (z5g (z99 n) f b p i' l') (fun v => v.1.length ≤ 4 ∧ Rd (K + 20) v.2) :=
    fun b p i' l' g1 g2 g3 g4 g5 => ih (b, p, i', l') ⟨g1, g2, g3, g4⟩ (by dsimp only; omega)
  rw [z5g]
  refine Tot.iteD (fun c => ?_) (fun c => ?_)
  · skip
    repeat' first
      | (refine Tot.bind2 (z0i (by assumption) (by omega)) ?_; intro a b h; dsimp only at h; obtain ⟨⟨_, _⟩, _⟩ := h; try dsimp only)
      | (refine Tot.gd (by first | omega | (constructor <;> omega) | (simp only [List.length_append, List.length_cons, List.length_nil, List.length_set, List.length_drop, SMALL]; omega)) ?_)
      | (refine Tot.getI (by omega) (by first | omega | (simp only [List.length_cons, List.length_nil, List.length_set, List.length_append]; omega)) ?_; intro x hx hg)
      | (refine Tot.iteD (fun _ => ?_) (fun _ => ?_))
      | (refine ih' _ _ _ _ (Rd.mono (by assumption) (by omega)) (by omega) (by omega) (by simp only [List.length_append, List.length_cons, List.length_nil]; omega) (by omega))
  · unfold z99
    repeat' first
      | (refine Tot.bind2 (z0i (by assumption) (by omega)) ?_; intro a b h; dsimp only at h; obtain ⟨⟨_, _⟩, _⟩ := h; try dsimp only)
      | (refine Tot.gd (by first | omega | (constructor <;> omega) | (simp only [List.length_append, List.length_cons, List.length_nil, List.length_set, List.length_drop, SMALL]; omega)) ?_)
      | (refine Tot.getI (by omega) (by first | omega | (simp only [List.length_cons, List.length_nil, List.length_set, List.length_append]; omega)) ?_; intro x hx hg)
      | (refine Tot.iteD (fun _ => ?_) (fun _ => ?_))
      | exact Tot.pure ⟨by first | (dsimp only; omega) | (simp only [List.length_append, List.length_cons, List.length_nil, List.length_set, List.length_drop]; omega), Rd.mono (by assumption) (by omega)⟩
theorem wb9 {K : Int} {r : GRd} {n : Int} (h : Rd K r) (hK : K ≤ 900000000) : Tot (z7l r n) (fun v => Rd (K + 20) v.2) := by
  unfold z7l
  repeat' first
    | (refine Tot.bind2 (z0i (by assumption) (by omega)) ?_; intro a b h; dsimp only at h; obtain ⟨⟨_, _⟩, _⟩ := h; try dsimp only)
    | (refine Tot.gd (by first | omega | (constructor <;> omega) | (simp only [List.length_append, List.length_cons, List.length_nil, List.length_set, List.length_drop, SMALL]; omega)) ?_)
    | (refine Tot.getI (by omega) (by first | omega | (simp only [List.length_cons, List.length_nil, List.length_set, List.length_append]; omega)) ?_; intro x hx hg)
    | (refine Tot.iteD (fun _ => ?_) (fun _ => ?_))
    | exact Tot.pure (Rd.mono (by assumption) (by omega))
theorem yb8 {K : Int} {r : GRd} {n : Int} (h : Rd K r) (hK : K ≤ 900000000) : Tot (z4r r n) (fun v => v.1.length ≤ 5 ∧ Rd (K + 20) v.2) := by
  unfold z4r
  refine Tot.bind2 (z0i h (by omega)) ?_
  intro a b h1
  dsimp only at h1
  obtain ⟨⟨a0, a1⟩, hb⟩ := h1
  dsimp only
  refine Tot.getI (by omega) (by simp only [List.length_cons, List.length_nil]; omega) ?_
  intro l hl _
  have hl : 1 ≤ l.length ∧ l.length ≤ 4 := by
    simp only [List.mem_cons, List.not_mem_nil, or_false] at hl
    rcases hl with rfl | rfl | rfl | rfl | rfl <;> simp
  simp only [List.nil_append]
  repeat' first
    | (refine Tot.bind2 (z0i (by assumption) (by omega)) ?_; intro a b h; dsimp only at h; obtain ⟨⟨_, _⟩, _⟩ := h; try dsimp only)
    | (refine Tot.gd (by first | omega | (constructor <;> omega) | (simp only [List.length_append, List.length_cons, List.length_nil, List.length_set, List.length_drop, SMALL]; omega)) ?_)
    | (refine Tot.getI (by omega) (by first | omega | (simp only [List.length_cons, List.length_nil, List.length_set, List.length_append]; omega)) ?_; intro x hx hg)
    | (refine Tot.iteD (fun _ => ?_) (fun _ => ?_))
    | exact Tot.pure ⟨by first | (dsimp only; omega) | (simp only [List.length_append, List.length_cons, List.length_nil, List.length_set, List.length_drop]; omega), Rd.mono (by assumption) (by omega)⟩
theorem v71 {K : Int} {r : GRd} {p n : Int} (h : Rd K r) (hK : K ≤ 900000000) (hp : p ≤ 9) : Tot (zf7 r p n) (fun v => v.1.length ≤ 10 ∧ Rd (K + 20) v.2) := by
  unfold zf7
  have key := Tot.loopF (Q := fun v : List Int × GRd => v.1.length ≤ 10 ∧ Rd (K + 20) v.2) (fun s : List Int × Int × Int × List Int => Rd (K + s.2.2.1) (GRd.mk s.1 s.2.1) ∧ 0 ≤ s.2.2.1 ∧ (s.2.2.1 ≤ p ∨ s.2.2.1 = 0) ∧ (s.2.2.2.length : Int) = s.2.2.1) (fun s => (p - s.2.2.1).toNat)
    (fun f s => z4k p (z88 p n) f s.1 s.2.1 s.2.2.1 s.2.2.2) (fun f s hi ih => ?_) (r.b, r.p, 0, []) (by dsimp only; omega) ⟨by dsimp only; exact h.eta.mono (by omega), by dsimp only; omega, by dsimp only; omega, rfl⟩
  · exact key
  obtain ⟨b0, p0, i, l⟩ := s
  obtain ⟨h1, h2, h3, h4⟩ := hi
  dsimp only at h1 h2 h3 h4 ⊢
  have ih' : ∀ b q i' l', Rd (K + i') (GRd.mk b q) → 0 ≤ i' → i' ≤ p → ((l' : List Int).length : Int) = i' → i < i' → Tot (z4k p (z88 p n) f b q i' l') (fun v => v.1.length ≤ 10 ∧ Rd (K + 20) v.2) :=
    fun b q i' l' g1 g2 g3 g4 g5 => ih (b, q, i', l') ⟨g1, g2, .inl g3, g4⟩ (by dsimp only; omega)
  rw [z4k]
  refine Tot.iteD (fun c => ?_) (fun c => ?_)
  · skip
    repeat' first
      | (refine Tot.bind2 (z0i (by assumption) (by omega)) ?_; intro a b h; dsimp only at h; obtain ⟨⟨_, _⟩, _⟩ := h; try dsimp only)
      | (refine Tot.gd (by first | omega | (constructor <;> omega) | (simp only [List.length_append, List.length_cons, List.length_nil, List.length_set, List.length_drop, SMALL]; omega)) ?_)
      | (refine Tot.getI (by omega) (by first | omega | (simp only [List.length_cons, List.length_nil, List.length_set, List.length_append]; omega)) ?_; intro x hx hg)
      | (refine Tot.iteD (fun _ => ?_) (fun _ => ?_))
      | (refine ih' _ _ _ _ (Rd.mono (by assumption) (by omega)) (by omega) (by omega) (by simp only [List.length_append, List.length_cons, List.length_nil, List.length_set, List.length_drop]; omega) (by omega))
  · unfold z88
    repeat' first
      | (refine Tot.bind2 (z0i (by assumption) (by omega)) ?_; intro a b h; dsimp only at h; obtain ⟨⟨_, _⟩, _⟩ := h; try dsimp only)
      | (refine Tot.gd (by first | omega | (constructor <;> omega) | (simp only [List.length_append, List.length_cons, List.length_nil, List.length_set, List.length_drop, SMALL]; omega)) ?_)
      | (refine Tot.getI (by omega) (by first | omega | (simp only [List.length_cons, List.length_nil, List.length_set, List.length_append]; omega)) ?_; intro x hx hg)
      | (refine Tot.iteD (fun _ => ?_) (fun _ => ?_))
      | exact Tot.pure ⟨by first | (dsimp only; omega) | (simp only [List.length_append, List.length_cons, List.length_nil, List.length_set, List.length_drop]; omega), Rd.mono (by assumption) (by omega)⟩
theorem v9h {K : Int} {r : GRd} {n : GNet} {k : Int} (h : Rd K r) (hK : K ≤ 900000000) (hn : 1 ≤ n.tasks.length) : Tot (zm1 r n k) (fun v => v.1.length ≤ 4 ∧ Rd (K + 20) v.2) := by
  unfold zm1
  refine Tot.bind2 (z0i h (by omega)) ?_
  intro k0 r0 h1
  dsimp only at h1
  obtain ⟨⟨a0, a1⟩, hb⟩ := h1
  dsimp only
  have key := Tot.loopF (Q := fun v : List GItem × GRd => v.1.length ≤ 4 ∧ Rd (K + 20) v.2) (fun s : List Int × Int × Int × List GItem => Rd (K + 1 + 3 * (3 - s.2.2.1)) (GRd.mk s.1 s.2.1) ∧ 0 ≤ s.2.2.1 ∧ s.2.2.1 ≤ 3 ∧ (s.2.2.2.length : Int) + s.2.2.1 ≤ 3) (fun s => s.2.2.1.toNat)
    (fun f s => z3n n (z98 k) f s.1 s.2.1 s.2.2.1 s.2.2.2) (fun f s hi ih => ?_) (r0.b, r0.p, k0, []) (by dsimp only; omega) ⟨by dsimp only; exact hb.eta.mono (by omega), by dsimp only; omega, by dsimp only; omega, by simp only [List.length_nil]; omega⟩
  · exact key
  obtain ⟨b0, p0, i, l⟩ := s
  obtain ⟨h1, h2, h3, h4⟩ := hi
  dsimp only at h1 h2 h3 h4 ⊢
  have ih' : ∀ b q l', Rd (K + 1 + 3 * (3 - (i - 1))) (GRd.mk b q) → 1 ≤ i → ((l' : List GItem).length : Int) + (i - 1) ≤ 3 → Tot (z3n n (z98 k) f b q (i - 1) l') (fun v => v.1.length ≤ 4 ∧ Rd (K + 20) v.2) :=
    fun b q l' g1 g2 g3 => ih (b, q, i - 1, l') ⟨g1, by dsimp only; omega, by dsimp only; omega, g3⟩ (by dsimp only; omega)
  rw [z3n]
  refine Tot.iteD (fun c => ?_) (fun c => ?_)
  · skip
    repeat' first
      | (refine Tot.bind2 (z0i (by assumption) (by omega)) ?_; intro a b h; dsimp only at h; obtain ⟨⟨_, _⟩, _⟩ := h; try dsimp only)
      | (refine Tot.gd (by first | omega | (constructor <;> omega) | (simp only [List.length_append, List.length_cons, List.length_nil, List.length_set, List.length_drop, SMALL]; omega)) ?_)
      | (refine Tot.getI (by omega) (by first | omega | (simp only [List.length_cons, List.length_nil, List.length_set, List.length_append]; omega)) ?_; intro x hx hg)
      | (refine Tot.iteD (fun _ => ?_) (fun _ => ?_))
      | (refine ih' _ _ _ (Rd.mono (by assumption) (by omega)) (by omega) (by simp only [List.length_append, List.length_cons, List.length_nil, List.length_set, List.length_drop]; omega))
  · unfold z98
    repeat' first
      | (refine Tot.bind2 (z0i (by assumption) (by omega)) ?_; intro a b h; dsimp only at h; obtain ⟨⟨_, _⟩, _⟩ := h; try dsimp only)
      | (refine Tot.gd (by first | omega | (constructor <;> omega) | (simp only [List.length_append, List.length_cons, List.length_nil, List.length_set, List.length_drop, SMALL]; omega)) ?_)
      | (refine Tot.getI (by omega) (by first | omega | (simp only [List.length_cons, List.length_nil, List.length_set, List.length_append]; omega)) ?_; intro x hx hg)
      | (refine Tot.iteD (fun _ => ?_) (fun _ => ?_))
      | exact Tot.pure ⟨by first | (dsimp only; omega) | (simp only [List.length_append, List.length_cons, List.length_nil, List.length_set, List.length_drop]; omega), Rd.mono (by assumption) (by omega)⟩
end Go.Am.Pl
end
section
namespace Go.Am.Pl
open Go
def cnt1 (x : GNode) (i : Int) : Int := (if x.yes = i then 1 else 0) + (if x.no = i then 1 else 0)
def cntL (i : Int) : List GNode → Int
  | [] => 0
  | x :: l => cnt1 x i + cntL i l
theorem vg9 (x : GNode) (i : Int) : 0 ≤ cnt1 x i ∧ cnt1 x i ≤ 2 := by unfold cnt1; split <;> split <;> omega
theorem v19 (i : Int) : ∀ l : List GNode, 0 ≤ cntL i l ∧ cntL i l ≤ 2 * l.length
  | [] => by simp [cntL]
  | x :: l => by have := v19 i l; have := vg9 x i; simp only [cntL, List.length_cons]; omega
theorem w3v (i : Int) (x : GNode) : ∀ l : List GNode, cntL i (l ++ [x]) = cntL i l + cnt1 x i
  | [] => by simp [cntL]
  | y :: l => by simp only [List.cons_append, cntL, w3v i x l]; omega
theorem vk3 (tree : List GNode) (i : Int) (kx : Int → Option Bool) (ht : tree.length ≤ SMALL) : z14 tree i kx FUEL 0 0 = kx (cntL i tree) := by
  have := scan tree (by unfold SMALL at ht; omega) (fun n k s => z14 tree i kx n s k) (fun _ suf s => kx (s + cntL i suf)) (fun pre s => 0 ≤ s ∧ s ≤ 2 * pre.length)
    (fun n s _ => by rw [z14, if_neg (by simp)]; simp [cntL])
    (fun n pre x suf s hl hg hlt hok hi ih => by
      have hs : (tree.length : Int) ≤ 1000000000 := by unfold SMALL at ht; omega
      have h1 : ok64 (s + 1) := by constructor <;> omega
      have h2 : ok64 (s + 1 + 1) := by constructor <;> omega
      have hpl : (((pre ++ [x]).length : Nat) : Int) = pre.length + 1 := by simp
      rw [z14, if_pos (decide_eq_true hlt), hg]
      simp only [Option.bind_some, z00 h1, z00 h2, z00 hok]
      rw [ih (s + 1 + 1) (by omega), ih (s + 1) (by omega), ih s (by omega)]
      simp only [cntL, cnt1]
      by_cases a : x.yes = i <;> by_cases b : x.no = i <;> simp [a, b] <;> congr 1 <;> omega) FUEL 0 (by simp) (by have := z2i; unfold SMALL at ht; omega)
  simpa using this
def okN (len i v : Int) : Bool := decide (v = -1) || inB v (i + 1) (len - 1)
def nodeB (len i : Int) (x : GNode) : Bool := expHolds x.if_ x.stone && (inB x.ans 0 2 && (okN len i x.yes && okN len i x.no))
def nodesI (len : Int) : Int → List GNode → Bool
  | _, [] => true
  | i, x :: l => nodeB len i x && nodesI len (i + 1) l
def nodesS (tree : List GNode) : Int → List GNode → Bool
  | _, [] => true
  | i, x :: l => nodeB tree.length i x && ((decide (i = 0) == decide (cntL i tree = 0)) && (!decide (1 < cntL i tree) && nodesS tree (i + 1) l))
theorem v1b {e : GAsk} {d : List Int} (h : expHolds e d = true) : expOk e = true ∧ datOk d = true := by
  simp only [expHolds, Bool.and_eq_true] at h; exact ⟨h.1, h.2.1⟩
def treeSmall (tree : List GNode) : Prop := tree.length ≤ SMALL ∧ ∀ x ∈ tree, x.stone.length ≤ SMALL
theorem v0n (tree : List GNode) (ht : treeSmall tree) : z8q tree = some (!decide (12 < (tree.length : Int)) && nodesS tree 0 tree) := by
  unfold z8q
  have := scan0 tree (by have := ht.1; unfold SMALL at this; omega) (z2z tree y8n) (fun pre suf => some (nodesS tree pre.length suf))
    (fun n => by rw [z2z, if_neg (by simp)]; rfl)
    (fun n pre x suf hl hg hlt hok ih => by
      have hx : x.stone.length ≤ SMALL := ht.2 x (by rw [hl]; simp)
      have hpl : (((pre ++ [x]).length : Nat) : Int) = pre.length + 1 := by simp
      rw [hpl] at ih
      rw [z2z, if_pos (decide_eq_true hlt), hg]
      simp only [Option.bind_some, z00 hok, z00 (z7o ht.1), y2h, z2j, z83 _ hx, z53 _ _ hx, vk3 tree _ _ ht.1,
        y8j, y8k, y8l, y8m, ih, nodesS, nodeB, okN]
      by_cases hh : expHolds x.if_ x.stone = true
      · obtain ⟨h1, h2⟩ := v1b hh
        rw [h1, h2, hh]
        simp only [if_true]
        cases inB x.ans 0 2 <;> by_cases hy : x.yes = -1 <;> by_cases hn : x.no = -1 <;> cases inB x.yes (↑pre.length + 1) (↑tree.length - 1) <;> cases inB x.no (↑pre.length + 1) (↑tree.length - 1) <;>
          cases (decide ((pre.length : Int) = 0) == decide (cntL ↑pre.length tree = 0)) <;> cases decide (1 < cntL ↑pre.length tree) <;> simp [hy, hn]
      · rw [Bool.eq_false_iff.2 hh]
        cases expOk x.if_ <;> cases inB x.ans 0 2 <;> cases datOk x.stone <;> simp)
  rw [this, iteN]
  rfl
def bump (l : List Int) (v : Int) : List Int := if v = -1 then l else l.set v.toNat (atI l v + 1)
theorem yq1 {α : Type} (l : List α) {v j : Int} (w : α) (hv : 0 ≤ v) (hj : 0 ≤ j) (hl : j < l.length) : getI (l.set v.toNat w) j = if v = j then some w else getI l j := by
  unfold getI
  rw [if_pos hj, if_pos hj, List.getElem?_set]
  by_cases h : v = j
  · subst h; simp; omega
  · rw [if_neg (by omega), if_neg h]
theorem yb0 (l : List Int) (v : Int) : (bump l v).length = l.length := by unfold bump; split <;> simp
theorem wc2 (l : List Int) {v j : Int} (hv : v = -1 ∨ 0 ≤ v) (c : Int → Int) (hc : ∀ j : Int, 0 ≤ j → j < l.length → getI l j = some (c j)) (hj : 0 ≤ j) (hl : j < l.length) : getI (bump l v) j = some (c j + if v = j then 1 else 0) := by
  unfold bump
  by_cases h : v = -1
  · rw [if_pos h, if_neg (by omega), hc j hj hl]; simp
  · rw [if_neg h, yq1 l _ (by omega) hj hl]
    by_cases he : v = j
    · subst he
      rw [if_pos rfl, if_pos rfl]
      unfold atI
      rw [hc _ hj hl]; rfl
    · rw [if_neg he, if_neg he, hc j hj hl]; simp
theorem v1r (tree : List GNode) (i : Int) (x : GNode) (kx : List Int → Option Bool) (l : List Int) (c : Int → Int) (hl : l.length = tree.length) (hc : ∀ j : Int, 0 ≤ j → j < l.length → getI l j = some (c j))
    (hb : ∀ j, 0 ≤ c j ∧ c j ≤ 2000000000) (hi : 0 ≤ i) (hi2 : ok64 (i + 1)) (ht : tree.length ≤ SMALL) :
    z2x tree i ([x.yes, x.no].length : Int) [x.yes, x.no] kx FUEL 0 l = if (okN tree.length i x.yes && okN tree.length i x.no) = true then kx (bump (bump l x.yes) x.no) else some false := by
  have one : ∀ (n : Nat) (k : Int) (v : Int) (m : List Int) (d : Int → Int), m.length = tree.length → (∀ j : Int, 0 ≤ j → j < m.length → getI m j = some (d j)) → (∀ j, 0 ≤ d j ∧ d j ≤ 2000000001) → getI [x.yes, x.no] k = some v → 0 ≤ k → k < 2 →
      z2x tree i ([x.yes, x.no].length : Int) [x.yes, x.no] kx (n + 1) k m = if okN tree.length i v = true then z2x tree i ([x.yes, x.no].length : Int) [x.yes, x.no] kx n (k + 1) (bump m v) else some false := by
    intro n k v m d hm hd hbd hg hk0 hk2
    have hk : ok64 (k + 1) := by constructor <;> omega
    rw [z2x, if_pos (by simp; omega), hg]
    simp only [Option.bind_some, z00 hk, z00 hi2, z00 (z7o ht), z5m]
    unfold okN bump
    by_cases hv : v = -1
    · simp [hv]
    · by_cases hin : inB v (i + 1) (tree.length - 1) = true
      · have hin' := z0b.1 hin
        have h1 := hd v (by omega) (by omega)
        have h2 := hbd v
        rw [if_neg (by simpa using hv), if_pos hin, h1]
        simp only [Option.bind_some, z00 (show ok64 (d v + 1) by constructor <;> omega)]
        rw [if_pos (by simp [hin]), if_neg hv]
        unfold atI; rw [h1]; rfl
      · rw [if_neg (by simpa using hv), if_neg hin, if_neg (by simp [hv, Bool.eq_false_iff.2 hin])]
  obtain ⟨f, hF⟩ : ∃ f, FUEL = f + 1 + 1 + 1 := ⟨FUEL - 3, by have := z2i; omega⟩
  rw [hF, one _ 0 x.yes l c hl hc (fun j => by have := hb j; omega) rfl (by omega) (by omega)]
  by_cases h1 : okN tree.length i x.yes = true
  · have hy : x.yes = -1 ∨ 0 ≤ x.yes := by simp only [okN, Bool.or_eq_true, decide_eq_true_eq, z0b] at h1; omega
    rw [if_pos h1, one _ (0 + 1) x.no (bump l x.yes) (fun j => c j + if x.yes = j then 1 else 0) (by rw [yb0, hl]) (fun j hj hjl => wc2 l hy c hc hj (by rwa [yb0] at hjl)) (fun j => by have := hb j; split <;> omega) rfl (by omega) (by omega), h1, Bool.true_and]
    by_cases h2 : okN tree.length i x.no = true
    · rw [if_pos h2, if_pos h2, z2x, if_neg (by simp)]
    · rw [if_neg h2, if_neg h2]
  · rw [if_neg h1, if_neg (by rw [Bool.eq_false_iff.2 h1]; simp)]
def oneB : Int → List Int → Bool
  | _, [] => true
  | i, x :: s => (!decide (0 < i) || decide (x = 1)) && oneB (i + 1) s
theorem wj9 (tree : List GNode) (l : List Int) (hl : l.length ≤ SMALL) : ze9 tree l = some (oneB 0 l && decide ((tree.length : Int) ≤ 12)) := by
  unfold ze9
  have := scan0 l (by unfold SMALL at hl; omega) (z5i l (l.length : Int) (y8b tree)) (fun pre suf => some (oneB pre.length suf && decide ((tree.length : Int) ≤ 12)))
    (fun n => by rw [z5i, if_neg (by simp)]; rfl)
    (fun n pre x suf hl hg hlt hok ih => by
      have hpl : (((pre ++ [x]).length : Nat) : Int) = pre.length + 1 := by simp
      rw [hpl] at ih
      rw [z5i, if_pos (decide_eq_true hlt), hg]
      simp only [Option.bind_some, z00 hok, ih, oneB]
      cases decide (0 < (pre.length : Int)) <;> by_cases hx : x = 1 <;> simp [hx])
  exact this
theorem wx3 (tree : List GNode) (ht : treeSmall tree) : z8l tree = some (nodesI tree.length 0 tree && (oneB 0 ((List.range tree.length).map fun j : Nat => cntL (j : Int) tree) && decide ((tree.length : Int) ≤ 12))) := by
  unfold z8l
  have hs := ht.1
  have hs' : (tree.length : Int) ≤ 1000000000 := by unfold SMALL at hs; omega
  rw [z00 ⟨by omega, hs'⟩]
  have := scan tree (by unfold SMALL at hs; omega) (fun n k s => z6s tree (ze9 tree) n tree (tree.length : Int) k s) (fun pre suf s => some (nodesI tree.length pre.length suf && (oneB 0 ((List.range tree.length).map fun j : Nat => cntL (j : Int) tree) && decide ((tree.length : Int) ≤ 12))))
    (fun pre s => s.length = tree.length ∧ ∀ j : Int, 0 ≤ j → j < s.length → getI s j = some (cntL j pre))
    (fun n s hi => by
      rw [z6s, if_neg (by simp), wj9 tree s (by rw [hi.1]; exact hs)]
      have : s = (List.range tree.length).map fun j : Nat => cntL (j : Int) tree := by
        apply List.ext_getElem?
        intro j
        by_cases hj : j < s.length
        · have := hi.2 j (by omega) (by omega)
          rw [z3h] at this
          rw [this, List.getElem?_map, List.getElem?_range (by rw [← hi.1]; exact hj)]; rfl
        · rw [List.getElem?_eq_none (by omega), List.getElem?_eq_none (by simp; omega)]
      rw [← this]; simp [nodesI])
    (fun n pre x suf s hl hg hlt hok hi ih => by
      have hx : x.stone.length ≤ SMALL := ht.2 x (by rw [hl]; simp)
      have hpl : (((pre ++ [x]).length : Nat) : Int) = pre.length + 1 := by simp
      rw [z6s, if_pos (decide_eq_true hlt), hg]
      simp only [Option.bind_some, z7c _ _ hx, z4d, z5m, nodesI, nodeB]
      rw [v1r tree pre.length x _ s (fun j => cntL j pre) hi.1 hi.2 (fun j => by have := v19 j pre; omega) (by omega) hok hs]
      by_cases hy : okN tree.length pre.length x.yes = true
      · by_cases hn : okN tree.length pre.length x.no = true
        · have hy' : x.yes = -1 ∨ 0 ≤ x.yes := by simp only [okN, Bool.or_eq_true, decide_eq_true_eq, z0b] at hy; omega
          have hn' : x.no = -1 ∨ 0 ≤ x.no := by simp only [okN, Bool.or_eq_true, decide_eq_true_eq, z0b] at hn; omega
          have h3 := ih (bump (bump s x.yes) x.no) ⟨by rw [yb0, yb0, hi.1], fun j hj hjl => by
            rw [wc2 (bump s x.yes) hn' (fun j => cntL j pre + if x.yes = j then 1 else 0) (fun j hj hjl => wc2 s hy' _ hi.2 hj (by rwa [yb0] at hjl)) hj (by rwa [yb0] at hjl), w3v, cnt1]
            congr 1; omega⟩
          rw [hpl] at h3
          rw [hy, hn, y8a, z00 hok, h3]
          cases expHolds x.if_ x.stone <;> cases inB x.ans 0 2 <;> simp
        · rw [Bool.eq_false_iff.2 hn]; cases expHolds x.if_ x.stone <;> cases inB x.ans 0 2 <;> simp
      · rw [Bool.eq_false_iff.2 hy]; cases expHolds x.if_ x.stone <;> cases inB x.ans 0 2 <;> simp) FUEL (List.replicate (tree.length : Int).toNat 0)
      ⟨by simp, fun j hj hjl => by
        obtain ⟨k, rfl⟩ := Int.eq_ofNat_of_zero_le hj
        rw [z3h, List.getElem?_replicate, if_pos (by simpa using hjl)]; rfl⟩ (by have := z2i; unfold SMALL at hs; omega)
  simpa using this
def rdrB (tree : List GNode) : Bool := nodesI tree.length 0 tree && (oneB 0 ((List.range tree.length).map fun j : Nat => cntL (j : Int) tree) && decide ((tree.length : Int) ≤ 12))
theorem w35 (f : Int → Int) : ∀ (n : Nat) (i : Nat), oneB i ((List.range' i n).map fun j : Nat => f (j : Int)) = true ↔ ∀ j : Nat, i ≤ j → j < i + n → 0 < j → f j = 1
  | 0, i => by simp [oneB]; omega
  | n + 1, i => by
    rw [List.range'_succ, List.map_cons, oneB, Bool.and_eq_true]
    have := w35 f n (i + 1)
    rw [show (((i + 1 : Nat)) : Int) = (i : Int) + 1 by omega] at this
    rw [this]
    constructor
    · rintro ⟨h1, h2⟩ j hj hj2 h0
      by_cases h : j = i
      · subst h
        have : 0 < (j : Int) := by omega
        rw [decide_eq_true this] at h1; simpa using h1
      · exact h2 j (by omega) (by omega) h0
    · intro h
      refine ⟨?_, fun j hj hj2 h0 => h j (by omega) (by omega) h0⟩
      by_cases h0 : 0 < i
      · simp [h i (by omega) (by omega) h0]
      · simp; omega
theorem w0q (len : Int) : ∀ (l : List GNode) (i : Int), 0 ≤ i → nodesI len i l = true → cntL 0 l = 0
  | [], _, _, _ => rfl
  | x :: l, i, hi, h => by
    simp only [nodesI, nodeB, okN, Bool.and_eq_true, Bool.or_eq_true, decide_eq_true_eq, z0b] at h
    have := w0q len l (i + 1) (by omega) h.2
    simp only [cntL, cnt1, this]
    rw [if_neg (by omega), if_neg (by omega)]; rfl
theorem wa7 (tree : List GNode) : ∀ (l : List GNode) (i : Nat), nodesS tree i l = true ↔ nodesI tree.length i l = true ∧ ∀ j : Nat, i ≤ j → j < i + l.length → ((j = 0 ↔ cntL j tree = 0) ∧ cntL j tree ≤ 1)
  | [], i => by simp [nodesS, nodesI]; omega
  | x :: l, i => by
    have ih := wa7 tree l (i + 1)
    rw [show (((i + 1 : Nat)) : Int) = (i : Int) + 1 by omega] at ih
    simp only [nodesS, nodesI, Bool.and_eq_true, ih, List.length_cons]
    constructor
    · rintro ⟨h1, h2, h3, h4, h5⟩
      refine ⟨⟨h1, h4⟩, fun j hj hj2 => ?_⟩
      by_cases h : j = i
      · subst h
        simp at h2 h3
        exact ⟨by rw [← h2], by omega⟩
      · exact h5 j (by omega) (by omega)
    · rintro ⟨⟨h1, h4⟩, h5⟩
      obtain ⟨h6, h7⟩ := h5 i (by omega) (by omega)
      refine ⟨h1, ?_, ?_, h4, fun j hj hj2 => h5 j (by omega) (by omega)⟩
      · simp [← h6]
      · simp; omega
theorem vo3 (tree : List GNode) : (!decide (12 < (tree.length : Int)) && nodesS tree 0 tree) = rdrB tree := by
  rw [Bool.eq_iff_iff]
  have h1 := wa7 tree tree 0
  have h2 := w35 (fun j => cntL j tree) tree.length 0
  rw [show ((0 : Nat) : Int) = 0 from rfl] at h1 h2
  rw [← List.range_eq_range'] at h2
  simp only [rdrB, Bool.and_eq_true, h1, h2, Bool.not_eq_true', decide_eq_false_iff_not, decide_eq_true_eq]
  constructor
  · rintro ⟨a, b, c⟩
    refine ⟨b, fun j hj hj2 h0 => ?_, by omega⟩
    have := c j hj hj2
    have := (v19 j tree).1
    omega
  · rintro ⟨b, c, a⟩
    refine ⟨by omega, b, fun j hj hj2 => ?_⟩
    by_cases h0 : j = 0
    · subst h0
      have := w0q _ tree 0 (by omega) b
      simp [this]
    · have := c j hj hj2 (by omega)
      omega
theorem yz8 (tree : List GNode) (ht : treeSmall tree) : z8q tree = some (rdrB tree) := by rw [v0n tree ht, vo3]
theorem yx6 (tree : List GNode) (ht : treeSmall tree) : z8l tree = some (rdrB tree) := wx3 tree ht
end Go.Am.Pl
end
section
namespace Go.Am.Pl
open Go
theorem v17 {high : Int} : ∀ {l : List Int} {p : Int}, asc high p l = true → ∀ x ∈ l, p + 1 ≤ x ∧ x ≤ high
  | [], _, _, x, hx => by simp at hx
  | y :: l, p, h, x, hx => by
    simp only [asc, Bool.and_eq_true, z0b] at h
    rcases List.mem_cons.1 hx with rfl | hx
    · exact h.1
    · have := v17 h.2 x hx; omega
structure TaskOk (n : GNet) (t : GTask) : Prop where
  join : 1 ≤ t.join ∧ t.join ≤ 3
  split : 1 ≤ t.split ∧ t.split ≤ 3
  inl : 1 ≤ t.in_.length ∧ t.in_.length ≤ 3
  ins : ∀ p ∈ t.in_, 0 ≤ p ∧ p ≤ n.places - 1
  outl : 1 ≤ t.out.length ∧ t.out.length ≤ 3
  clearl : (t.clear.length : Int) ≤ n.places
  clears : ∀ p ∈ t.clear, 2 ≤ p ∧ p ≤ n.places - 1
  role : 1 ≤ t.role ∧ t.role ≤ 3
  apart : -1 ≤ t.apart ∧ t.apart ≤ n.tasks.length - 1
  all : 1 ≤ t.all ∧ t.all ≤ 3
  need : 1 ≤ t.need ∧ t.need ≤ t.all
theorem z6d {n : GNet} (h : netB n = true) {t : GTask} (ht : t ∈ n.tasks) : TaskOk n t := by
  simp only [netB, Bool.and_eq_true, List.all_eq_true] at h
  have := h.2.2 t ht
  simp only [taskB, Bool.and_eq_true, z0b] at this
  obtain ⟨a, b, ⟨c, d⟩, e, ⟨f, g⟩, ⟨i, j⟩, k, l, m, o⟩ := this
  exact ⟨a, b, by omega, fun p hp => by have := v17 d p hp; omega, by omega, by omega, fun p hp => by have := v17 j p hp; omega, k, l, m, o⟩
theorem z5k {n : GNet} (h : netB n = true) : (2 ≤ n.places ∧ n.places ≤ 8) ∧ (1 ≤ n.tasks.length ∧ n.tasks.length ≤ 6) := by
  simp only [netB, Bool.and_eq_true, z0b] at h; omega
structure CasFacts (n : GNet) (c : GCase) : Prop where
  net : netB n = true
  len : (c.marks.length : Int) = n.places
  mks : ∀ x ∈ c.marks, 0 ≤ x ∧ x ≤ 4
  busyl : c.busy.length ≤ 6
  busy : ∀ b ∈ c.busy, (0 ≤ b.task ∧ b.task < n.tasks.length) ∧ (1 ≤ b.who ∧ b.who ≤ 4) ∧ (0 ≤ b.did ∧ b.did ≤ (atI n.tasks b.task).need - 1)
  data : datOk c.data = true
  didl : c.did.length ≤ 60
  did : ∀ d ∈ c.did, (0 ≤ d.task ∧ d.task < n.tasks.length) ∧ (1 ≤ d.who ∧ d.who ≤ 4)
  state : 1 ≤ c.state ∧ c.state ≤ 3
theorem zj9 {n : GNet} {c : GCase} (h : casB n c = true) : CasFacts n c := by
  simp only [casB, mrkB, marksB, busyB, itemB, didB, Bool.and_eq_true, List.all_eq_true, z0b, decide_eq_true_eq, Bool.not_eq_true', decide_eq_false_iff_not] at h
  obtain ⟨⟨a, b, c1⟩, ⟨d, e⟩, f, g, i, j, k⟩ := h
  exact ⟨a, b, c1, by omega, fun x hx => by have := e x hx; omega, f, by omega, fun x hx => by have := j x hx; omega, i⟩
def inc (l : List Int) (p : Int) : List Int := l.set p.toNat (atI l p + 1)
theorem w4x (l : List Int) (p : Int) : (inc l p).length = l.length := by simp [inc]
def incs (l : List Int) (ps : List Int) : List Int := ps.foldl inc l
theorem w2z (ps : List Int) : ∀ l : List Int, (incs l ps).length = l.length := by
  induction ps with
  | nil => intro l; rfl
  | cons p ps ih => intro l; show (incs (inc l p) ps).length = _; rw [ih, w4x]
def capM (K : Int) (l : List Int) : Prop := ∀ x ∈ l, 0 ≤ x ∧ x ≤ K
theorem yv7 {K : Int} {l : List Int} (h : capM K l) {p : Int} (h0 : 0 ≤ p) (h1 : p < l.length) : 0 ≤ atI l p ∧ atI l p ≤ K := h _ (z29 l h0 h1)
theorem wc4 {K : Int} {l : List Int} (h : capM K l) {p : Int} (h0 : 0 ≤ p) (h1 : p < l.length) : capM (K + 1) (inc l p) := by
  intro x hx
  have := yv7 h h0 h1
  rcases List.mem_or_eq_of_mem_set hx with hx | rfl
  · have := h x hx; omega
  · omega
def okM (l : List Int) : Bool := l.all (fun x => inB x 0 4)
theorem zk8 {l : List Int} : okM l = true ↔ capM 4 l := by simp only [okM, List.all_eq_true, z0b]; rfl
theorem v79 {l : List Int} {p : Int} {K : Int} (hl : capM K l) (h0 : 0 ≤ p) (h1 : p < l.length) (h : okM (inc l p) = true) : okM l = true ∧ atI l p ≤ 3 := by
  rw [zk8] at h ⊢
  have hp : atI l p + 1 ∈ inc l p := List.mem_iff_getElem?.2 ⟨p.toNat, by unfold inc; rw [List.getElem?_set_self (by omega)]⟩
  have h4 := h _ hp
  refine ⟨fun x hx => ?_, by omega⟩
  obtain ⟨j, hj⟩ := List.mem_iff_getElem?.1 hx
  by_cases e : p.toNat = j
  · have : atI l p = x := by unfold atI getI; rw [if_pos h0, e, hj]; rfl
    have := hl x hx; omega
  · exact h x (List.mem_iff_getElem?.2 ⟨j, by unfold inc; rw [List.getElem?_set_ne e]; exact hj⟩)
theorem va5 {ps : List Int} : ∀ {l : List Int} {K : Int}, capM K l → (∀ p ∈ ps, 0 ≤ p ∧ p < l.length) → okM (incs l ps) = true → okM l = true := by
  induction ps with
  | nil => intro l K _ _ h; exact h
  | cons p ps ih =>
    intro l K hl hp h
    have hp0 := hp p (by simp)
    exact (v79 hl hp0.1 hp0.2 (ih (l := inc l p) (wc4 hl hp0.1 hp0.2) (fun q hq => by rw [w4x]; exact hp q (by simp [hq])) h)).1
theorem v8a {β : Type} (ps : List Int) (hs : ps.length ≤ SMALL) (f : Nat → Int → List Int → Option β) (kx : List Int → Option β) (bad : Option β) (l0 : List Int) (hp : ∀ p ∈ ps, 0 ≤ p ∧ p < l0.length) (hc : okM l0 = true)
    (h0 : ∀ n s, f (n + 1) (ps.length : Int) s = kx s)
    (h1 : ∀ n i p s, getI ps i = some p → i < (ps.length : Int) → ok64 (i + 1) → getI s p = some (atI s p) → ok64 (atI s p + 1) → f (n + 1) i s = if decide (atI s p = 4) = true then bad else f n (i + 1) (inc s p)) :
    f FUEL 0 l0 = if okM (incs l0 ps) = true then kx (incs l0 ps) else bad :=
  scan ps (by unfold SMALL at hs; omega) f (fun _ suf l => if okM (incs l suf) = true then kx (incs l suf) else bad) (fun _ l => l.length = l0.length ∧ okM l = true)
    (fun n s hi => by rw [h0]; rw [if_pos (show okM (incs s []) = true from hi.2)]; rfl)
    (fun n pre x suf s a b c d hi k => by
      have hx := hp x (by rw [a]; simp)
      have hx2 : x < s.length := by rw [hi.1]; exact hx.2
      have hcap := zk8.1 hi.2
      have hv := yv7 hcap hx.1 hx2
      rw [h1 n _ x s b c d (z0g s hx.1 hx2) (by constructor <;> omega)]
      show _ = if okM (incs (inc s x) suf) = true then kx (incs (inc s x) suf) else bad
      by_cases h4 : atI s x = 4
      · rw [if_pos (decide_eq_true h4), if_neg]
        intro h5
        have h6 := va5 (wc4 hcap hx.1 hx2) (fun q hq => by rw [w4x, hi.1]; exact hp q (by rw [a]; simp [hq])) h5
        have := (v79 hcap hx.1 hx2 h6).2
        omega
      · rw [if_neg (by simpa using h4)]
        exact k (inc s x) ⟨by rw [w4x, hi.1], zk8.2 (fun y hy => by
          rcases List.mem_or_eq_of_mem_set hy with hy | rfl
          · exact hcap y hy
          · omega)⟩) FUEL l0 ⟨rfl, hc⟩ (by have := z2i; unfold SMALL at hs; omega)
theorem v9u {β : Type} (ps : List Int) (hs : ps.length ≤ SMALL) (f : Nat → Int → List Int → Option β) (kx : List Int → Option β) (l0 : List Int) (K : Int) (hK : 0 ≤ K ∧ K ≤ 1000000000) (hp : ∀ p ∈ ps, 0 ≤ p ∧ p < l0.length) (hc : capM K l0)
    (h0 : ∀ n s, f (n + 1) (ps.length : Int) s = kx s)
    (h1 : ∀ n i p s, getI ps i = some p → i < (ps.length : Int) → ok64 (i + 1) → getI s p = some (atI s p) → ok64 (atI s p + 1) → f (n + 1) i s = f n (i + 1) (inc s p)) :
    f FUEL 0 l0 = kx (incs l0 ps) :=
  scan ps (by unfold SMALL at hs; omega) f (fun _ suf l => kx (incs l suf)) (fun pre l => l.length = l0.length ∧ capM (K + pre.length) l) (fun n s hi => by rw [h0]; rfl)
    (fun n pre x suf s a b c d hi k => by
      have hx := hp x (by rw [a]; simp)
      have hx2 : x < s.length := by rw [hi.1]; exact hx.2
      have hv := yv7 hi.2 hx.1 hx2
      have hpl : pre.length ≤ SMALL := by rw [a, List.length_append] at hs; omega
      unfold SMALL at hpl
      rw [h1 n _ x s b c d (z0g s hx.1 hx2) (by constructor <;> omega)]
      refine k (inc s x) ⟨by rw [w4x, hi.1], ?_⟩
      have := wc4 hi.2 hx.1 hx2
      rw [List.length_append, List.length_singleton, show ((K + ((pre.length + 1 : Nat) : Int)) = K + pre.length + 1) by omega]
      exact this) FUEL l0 ⟨rfl, by simpa using hc⟩ (by have := z2i; unfold SMALL at hs; omega)
end Go.Am.Pl
end
section
namespace Go.Am.Pl
open Go
structure TaskT (t : GTask) : Prop where
  in_ : t.in_.length ≤ 4
  out : t.out.length ≤ 4
  clear : t.clear.length ≤ 9
structure NetT (n : GNet) : Prop where
  one : 1 ≤ n.tasks.length
  six : n.tasks.length ≤ 6
  pl : n.places ≤ 9
  task : ∀ t ∈ n.tasks, TaskT t
theorem TaskT.small {t : GTask} (h : TaskT t) : t.small := ⟨by have := h.in_; unfold SMALL; omega, by have := h.out; unfold SMALL; omega, by have := h.clear; unfold SMALL; omega⟩
theorem NetT.small {n : GNet} (h : NetT n) : n.small := ⟨by have := h.six; unfold SMALL; omega, fun t ht => (h.task t ht).small⟩
theorem v3i {n : GNet} (h : netB n = true) : NetT n := by
  have hs := z5k h
  exact ⟨by omega, by omega, by omega, fun t ht => by
    have T := z6d h ht
    exact ⟨by have := T.inl; omega, by have := T.outl; omega, by have := T.clearl; omega⟩⟩
theorem v8c {K : Int} {split : Int} {to : List Int} {kx : List Int → Int → List GFlow → Option (GTask × GRd)} {Q : GTask × GRd → Prop} (hK : K ≤ 900000000) (ht : to.length ≤ 3)
    (hk : ∀ b p l, Rd (K + 9) (GRd.mk b p) → l.length ≤ 3 → Tot (kx b p l) Q) {b : List Int} {p : Int} (h : Rd K (GRd.mk b p)) : Tot (z1f split to kx FUEL b p 0 []) Q := by
  have key := Tot.loopF (Q := Q) (fun s : List Int × Int × Int × List GFlow => Rd (K + 3 * s.2.2.1) (GRd.mk s.1 s.2.1) ∧ 0 ≤ s.2.2.1 ∧ s.2.2.1 ≤ to.length ∧ (s.2.2.2.length : Int) = s.2.2.1) (fun s => ((to.length : Int) - s.2.2.1).toNat)
    (fun f s => z1f split to kx f s.1 s.2.1 s.2.2.1 s.2.2.2) (fun f s hi ih => ?_) (b, p, 0, []) (by dsimp only; omega) ⟨by dsimp only; exact h.mono (by omega), by dsimp only; omega, by dsimp only; omega, rfl⟩
  · exact key
  obtain ⟨b0, p0, i, l⟩ := s
  obtain ⟨h1, h2, h3, h4⟩ := hi
  dsimp only at h1 h2 h3 h4 ⊢
  have ih' : ∀ b q i' l', Rd (K + 3 * i') (GRd.mk b q) → 0 ≤ i' → i' ≤ to.length → ((l' : List GFlow).length : Int) = i' → i < i' → Tot (z1f split to kx f b q i' l') Q :=
    fun b q i' l' g1 g2 g3 g4 g5 => ih (b, q, i', l') ⟨g1, g2, g3, g4⟩ (by dsimp only; omega)
  rw [z1f]
  refine Tot.iteD (fun c => ?_) (fun c => hk _ _ _ (h1.mono (by omega)) (by omega))
  repeat' first
    | (refine Tot.bind2 (z0i (by assumption) (by omega)) ?_; intro a b h; dsimp only at h; obtain ⟨⟨_, _⟩, _⟩ := h; try dsimp only)
    | (refine Tot.gd (by first | omega | (constructor <;> omega) | (simp only [List.length_append, List.length_cons, List.length_nil, List.length_set, List.length_drop, SMALL]; omega)) ?_)
    | (refine Tot.getI (by omega) (by first | omega | (simp only [List.length_cons, List.length_nil, List.length_set, List.length_append]; omega)) ?_; intro x hx hg)
    | (refine Tot.iteD (fun _ => ?_) (fun _ => ?_))
    | (refine ih' _ _ _ _ (Rd.mono (by assumption) (by omega)) (by omega) (by omega) (by simp only [List.length_append, List.length_cons, List.length_nil, List.length_set, List.length_drop]; omega) (by omega))
theorem v3z {K : Int} {r : GRd} {join split tasks : Int} {in_ to : List Int} (h : Rd K r) (hK : K ≤ 800000000) (hi : in_.length ≤ 3) (ht : to.length ≤ 3) : Tot (z0a r join split in_ to tasks) (fun v => TaskT v.1 ∧ Rd (K + 20) v.2) := by
  unfold z0a
  repeat' first
    | (refine Tot.bind2 (z0i (by assumption) (by omega)) ?_; intro a b h; dsimp only at h; obtain ⟨⟨_, _⟩, _⟩ := h; try dsimp only)
    | (refine Tot.gd (by first | omega | (constructor <;> omega) | (simp only [List.length_append, List.length_cons, List.length_nil, List.length_set, List.length_drop, SMALL]; omega)) ?_)
    | (refine Tot.getI (by omega) (by first | omega | (simp only [List.length_cons, List.length_nil, List.length_set, List.length_append]; omega)) ?_; intro x hx hg)
    | (refine Tot.iteD (fun _ => ?_) (fun _ => ?_))
    | (refine v8c (K := K + 5) (by omega) ht (fun b p l hb hl => ?_) (Rd.eta (Rd.mono (by assumption) (by omega))))
    | (unfold y27; exact Tot.pure ⟨⟨by dsimp only; omega, by dsimp only; omega, by simp⟩, Rd.mono (by assumption) (by omega)⟩)
    | (unfold y28; exact Tot.pure ⟨⟨by dsimp only; omega, by dsimp only; omega, by simp⟩, Rd.mono (by assumption) (by omega)⟩)
theorem yw8 {α : Type} {P : α → Prop} : ∀ t ∈ ([] : List α), P t := fun t ht => (List.not_mem_nil ht).elim
theorem v4z {K N P : Int} (hK : K ≤ 700000000) (hN : 1 ≤ N ∧ N ≤ 4) (hP : 3 ≤ P ∧ P ≤ 6) {b : List Int} {p : Int} (h : Rd (K + 10) (GRd.mk b p)) : Tot (z1h N P (z6a P) FUEL b p 0 []) (fun v => NetT v.1 ∧ Rd (K + 200) v.2) := by
  have key := Tot.loopF (Q := fun v : GNet × GRd => NetT v.1 ∧ Rd (K + 200) v.2) (fun s : List Int × Int × Int × List GTask => Rd (K + 10 + 40 * s.2.2.1) (GRd.mk s.1 s.2.1) ∧ 0 ≤ s.2.2.1 ∧ s.2.2.1 ≤ N ∧ (s.2.2.2.length : Int) = s.2.2.1 ∧ ∀ t ∈ s.2.2.2, TaskT t) (fun s => (N - s.2.2.1).toNat)
    (fun f s => z1h N P (z6a P) f s.1 s.2.1 s.2.2.1 s.2.2.2) (fun f s hi ih => ?_) (b, p, 0, []) (by dsimp only; omega) ⟨by dsimp only; exact h.mono (by omega), by dsimp only; omega, by dsimp only; omega, rfl, yw8⟩
  · exact key
  obtain ⟨b0, p0, i, l⟩ := s
  obtain ⟨h1, h2, h3, h4, h5⟩ := hi
  dsimp only at h1 h2 h3 h4 h5 ⊢
  have ih' : ∀ b q (t : GTask), Rd (K + 10 + 40 * (i + 1)) (GRd.mk b q) → i + 1 ≤ N → TaskT t → Tot (z1h N P (z6a P) f b q (i + 1) (l ++ [t])) (fun v => NetT v.1 ∧ Rd (K + 200) v.2) :=
    fun b q t g1 g2 g3 => ih (b, q, i + 1, l ++ [t]) ⟨g1, by dsimp only; omega, g2, by dsimp only; rw [List.length_append, List.length_singleton]; omega, fun x hx => by
      rcases List.mem_append.1 hx with hx | hx
      · exact h5 x hx
      · rw [List.mem_singleton.1 hx]; exact g3⟩ (by dsimp only; omega)
  rw [z1h]
  refine Tot.iteD (fun c => ?_) (fun c => ?_)
  · skip
    repeat' first
      | (refine Tot.bind2 (v3z (by assumption) (by omega) (by simp) (by simp)) ?_; intro a b h; dsimp only at h; obtain ⟨_, _⟩ := h; try dsimp only)
      | (refine Tot.bind2 (z0i (by assumption) (by omega)) ?_; intro a b h; dsimp only at h; obtain ⟨⟨_, _⟩, _⟩ := h; try dsimp only)
      | (refine Tot.gd (by first | omega | (constructor <;> omega) | (simp only [List.length_append, List.length_cons, List.length_nil, List.length_set, List.length_drop, SMALL]; omega)) ?_)
      | (refine Tot.getI (by omega) (by first | omega | (simp only [List.length_cons, List.length_nil, List.length_set, List.length_append]; omega)) ?_; intro x hx hg)
      | (refine Tot.iteD (fun _ => ?_) (fun _ => ?_))
      | (refine ih' _ _ _ (Rd.mono (by assumption) (by omega)) (by omega) (by assumption))
  · unfold z6a
    exact Tot.pure ⟨⟨by dsimp only; omega, by dsimp only; omega, by dsimp only; omega, h5⟩, h1.mono (by omega)⟩
theorem v7x {K : Int} {r : GRd} (h : Rd K r) (hK : K ≤ 700000000) : Tot (zf8 r) (fun v => NetT v.1 ∧ Rd (K + 200) v.2) := by
  unfold zf8
  repeat' first
    | (refine Tot.bind2 (v3z (by assumption) (by omega) (by simp) (by simp)) ?_; intro a b h; dsimp only at h; obtain ⟨_, _⟩ := h; try dsimp only)
    | (refine Tot.bind2 (z0i (by assumption) (by omega)) ?_; intro a b h; dsimp only at h; obtain ⟨⟨_, _⟩, _⟩ := h; try dsimp only)
    | (refine Tot.gd (by first | omega | (constructor <;> omega) | (simp only [List.length_append, List.length_cons, List.length_nil, List.length_set, List.length_drop, SMALL]; omega)) ?_)
    | (refine Tot.getI (by omega) (by first | omega | (simp only [List.length_cons, List.length_nil, List.length_set, List.length_append]; omega)) ?_; intro x hx hg)
    | (refine Tot.iteD (fun _ => ?_) (fun _ => ?_))
    | (refine v4z (by omega) (by omega) (by omega) (Rd.eta (Rd.mono (by assumption) (by omega))))
    | (refine Tot.pure ⟨⟨by simp, by simp, by dsimp only; omega, ?_⟩, Rd.mono (by assumption) (by omega)⟩; dsimp only; repeat' first | exact yw8 | exact List.forall_mem_cons.2 ⟨by assumption, yw8⟩ | (refine List.forall_mem_cons.2 ⟨by assumption, ?_⟩))
theorem wl0 {K : Int} {r : GRd} (h : Rd K r) (hK : K ≤ 600000000) : Tot (z7m r) (fun v => netB v.1 = true ∧ Rd (K + 210) v.2) := by
  unfold z7m
  refine Tot.bind2 (v7x h (by omega)) ?_
  intro n0 r0 hh
  dsimp only at hh
  obtain ⟨hn, hr⟩ := hh
  dsimp only
  have d : netB (GNet.mk 2 [GTask.mk 1 1 [0] [GFlow.mk 1 (GAsk.mk 0 0 0)] [] 1 (-1) 1 1]) = true := by decide
  have fin : ∀ (n : GNet) (r : GRd), n.small → Rd (K + 210) r → Tot ((z3c n).bind fun x => if x = true then some (n, r) else some (GNet.mk 2 [GTask.mk 1 1 [0] [GFlow.mk 1 (GAsk.mk 0 0 0)] [] 1 (-1) 1 1], r)) (fun v => netB v.1 = true ∧ Rd (K + 210) v.2) := by
    intro n r hs hr
    rw [y2i n hs, Option.bind_some]
    refine Tot.ite (fun c => Tot.pure ⟨c, hr⟩) (fun c => Tot.pure ⟨d, hr⟩)
  have hone := hn.one
  refine Tot.bind2 (z0i hr (by omega)) ?_
  intro a b h1
  dsimp only at h1
  obtain ⟨⟨a0, a1⟩, hb⟩ := h1
  dsimp only
  refine Tot.iteD (fun _ => Tot.iteD (fun _ => Tot.iteD (fun _ => ?_) (fun _ => fin _ _ hn.small (hb.mono (by omega)))) (fun _ => fin _ _ hn.small (hb.mono (by omega)))) (fun _ => fin _ _ hn.small (hb.mono (by omega)))
  refine Tot.bind2 (z0i hb (by omega)) ?_
  intro a2 b2 h2
  dsimp only at h2
  obtain ⟨⟨a3, a4⟩, hb2⟩ := h2
  dsimp only
  refine Tot.getI (by omega) (by omega) ?_
  intro t ht hg
  refine fin _ _ ⟨by show (n0.tasks.set _ _).length ≤ SMALL; rw [List.length_set]; exact hn.small.1, fun x hx => ?_⟩ (hb2.mono (by omega))
  rcases List.mem_or_eq_of_mem_set hx with hx | rfl
  · exact hn.small.2 x hx
  · have T := (hn.task t ht).small
    exact ⟨T.1, T.2.1, by simp [SMALL]⟩
theorem set_T {n : GNet} (hn : NetT n) {k : Nat} {t : GTask} (ht : TaskT t) : NetT (GNet.mk n.places (n.tasks.set k t)) :=
  ⟨by rw [List.length_set]; exact hn.one, by rw [List.length_set]; exact hn.six, hn.pl, fun x hx => by
    rcases List.mem_or_eq_of_mem_set hx with hx | rfl
    · exact hn.task x hx
    · exact ht⟩
theorem w9r {K : Int} {r : GRd} {n : Int} (h : Rd K r) (hK : K ≤ 500000000) : Tot (z7u r n) (fun v => NetT v.1 ∧ Rd (K + 250) v.2) := by
  unfold z7u
  refine Tot.bind2 (wl0 h (by omega)) ?_
  intro n0 r0 hh
  dsimp only at hh
  obtain ⟨hn, hr⟩ := hh
  dsimp only
  have hT := v3i hn
  have hsz := z5k hn
  have hone := hT.one
  have hfin : ∀ (t : GTask) (k : Int) (r : GRd), TaskT t → Rd (K + 250) r → Tot ((getI n0.tasks k).bind fun _ => some (GNet.mk n0.places (n0.tasks.set k.toNat t), r)) (fun v => NetT v.1 ∧ Rd (K + 250) v.2) → True := fun _ _ _ _ _ _ => trivial
  refine Tot.bind2 (z0i hr (by omega)) ?_
  intro a b h1
  dsimp only at h1
  obtain ⟨⟨a0, a1⟩, hb⟩ := h1
  dsimp only
  refine Tot.iteD (fun _ => Tot.pure ⟨hT, hb.mono (by omega)⟩) (fun _ => ?_)
  refine Tot.bind2 (z0i hb (by omega)) ?_
  intro a2 b2 h2
  dsimp only at h2
  obtain ⟨⟨a3, a4⟩, hb2⟩ := h2
  dsimp only
  refine Tot.iteD (fun _ => ?_) (fun _ => ?_)
  · refine Tot.bind2 (z0i hb2 (by omega)) ?_
    intro a5 b5 h5
    dsimp only at h5
    obtain ⟨⟨a6, a7⟩, hb5⟩ := h5
    dsimp only
    refine Tot.getI (by omega) (by simp only [List.length_cons, List.length_nil]; omega) ?_
    intro x hx _
    refine Tot.pure ⟨⟨hT.one, hT.six, ?_, hT.task⟩, hb5.mono (by omega)⟩
    simp only [List.mem_cons, List.not_mem_nil, or_false] at hx
    show x ≤ 9
    omega
  refine Tot.bind2 (z0i hb2 (by omega)) ?_
  intro k b5 h5
  dsimp only at h5
  obtain ⟨⟨a6, a7⟩, hb5⟩ := h5
  dsimp only
  refine Tot.getI (by omega) (by omega) ?_
  intro t ht hg
  have T := z6d hn ht
  have i1 := T.inl; have i2 := T.outl; have i3 := T.clearl
  have i4 : t.clear.length ≤ 8 := by omega
  have i5 := T.all
  clear i3 hfin
  repeat' first
    | (refine Tot.bind2 (wb9 (by assumption) (by omega)) ?_; intro a b h; dsimp only at h; obtain _ := h; try dsimp only)
    | (refine Tot.bind2 (z0i (by assumption) (by omega)) ?_; intro a b h; dsimp only at h; obtain ⟨⟨_, _⟩, _⟩ := h; try dsimp only)
    | (refine Tot.gd (by first | omega | (constructor <;> omega) | (simp only [List.length_append, List.length_cons, List.length_nil, List.length_set, List.length_drop, SMALL]; omega)) ?_)
    | (refine Tot.getI (by omega) (by first | omega | (simp only [List.length_cons, List.length_nil, List.length_set, List.length_append]; omega)) ?_; intro x hx hg)
    | (refine Tot.iteD (fun _ => ?_) (fun _ => ?_))
    | exact Tot.pure ⟨set_T hT ⟨by first | (dsimp only; omega) | (dsimp only; simp only [List.length_append, List.length_cons, List.length_nil, List.length_set, List.length_drop]; omega), by first | (dsimp only; omega) | (dsimp only; simp only [List.length_append, List.length_cons, List.length_nil, List.length_set, List.length_drop]; omega), by first | (dsimp only; omega) | (dsimp only; simp only [List.length_append, List.length_cons, List.length_nil, List.length_set, List.length_drop]; omega)⟩, Rd.mono (by assumption) (by omega)⟩
end Go.Am.Pl
end
section
namespace Go.Am.Pl
open Go
theorem z2q (l : List Int) (h : l.length ≤ SMALL) : z0l l = some l := by unfold z0l; rw [z00 (by simpa using h)]; rfl
theorem y4n (c : GCase) (h : c.small) : z6c c = some c := by
  obtain ⟨h1, h2, h3, h4⟩ := h
  unfold z6c
  simp [z00, h1, h2, h3, h4]
theorem z8w (c : GCase) (h : c.small) : z08 c = some c := by
  obtain ⟨h1, h2, h3, h4⟩ := h
  unfold z08
  simp [z00, z2q, h1, h2, h3, h4]
def stopB (n : GNet) (c : GCase) : GCase × Bool := bif casB n c && decide (c.state = 1) then (GCase.mk 3 c.marks [] c.data c.did, true) else (c, false)
theorem v0k (n : GNet) (c : GCase) (hn : n.small) (hc : c.small) : zl8 n c = some (stopB n c) := by
  unfold zl8 stopB
  simp only [y4n c hc, yc0 n c hn hc, Option.bind_some]
  cases casB n c <;> by_cases hs : c.state = 1 <;> simp [hs]
theorem y7x (n : GNet) (c : GCase) (hn : n.small) (hc : c.small) : z81 n c = some (casB n c && decide (c.state = 1)) := by
  unfold z81
  simp only [wa1 n c hn hc, Option.bind_some]
  cases casB n c <;> by_cases hs : c.state = 1 <;> simp [hs]
theorem ww9 (n : GNet) (c : GCase) (hn : n.small) (hc : c.small) : zl5 n c = some (stopB n c) := by
  unfold zl5 stopB
  simp only [z8w c hc, y7x n c hn hc, Option.bind_some]
  cases casB n c <;> by_cases hs : c.state = 1 <;> simp [hs]
end Go.Am.Pl
end
section
namespace Go.Am.Pl
open Go
def goB (split : Int) (last none_ : Bool) : Bool := bif decide (split = 2) then none_ else bif decide (split = 3) then !last || none_ else true
def splL (split : Int) (data : List Int) : List GFlow → List Int → List Int
  | [], l => l
  | f :: fs, l => if (expHolds f.if_ data && goB split fs.isEmpty l.isEmpty) = true then splL split data fs (l ++ [f.to]) else splL split data fs l
theorem v0p (data : List Int) : ∀ (fs : List GFlow) (l : List Int), l.isEmpty = false → splL 2 data fs l = l
  | [], l, _ => rfl
  | f :: fs, l, h => by
    unfold splL
    rw [if_neg (by simp [goB, h]), v0p data fs l h]
theorem wp5 (split : Int) (data : List Int) : ∀ (fs : List GFlow) (l : List Int), (splL split data fs l).length ≤ l.length + fs.length
  | [], l => by simp [splL]
  | f :: fs, l => by
    unfold splL; split
    · have := wp5 split data fs (l ++ [f.to]); simp at this; simp; omega
    · have := wp5 split data fs l; simp; omega
theorem wp6 (split : Int) (data : List Int) : ∀ (fs : List GFlow) (l : List Int) (p : Int), p ∈ splL split data fs l → p ∈ l ∨ ∃ f ∈ fs, f.to = p
  | [], l, p, h => .inl h
  | f :: fs, l, p, h => by
    unfold splL at h; split at h
    · rcases wp6 split data fs _ p h with h | ⟨g, hg, e⟩
      · rcases List.mem_append.1 h with h | h
        · exact .inl h
        · simp at h; exact .inr ⟨f, by simp, h.symm⟩
      · exact .inr ⟨g, by simp [hg], e⟩
    · rcases wp6 split data fs _ p h with h | ⟨g, hg, e⟩
      · exact .inl h
      · exact .inr ⟨g, by simp [hg], e⟩
theorem vi7 {α : Type} {l pre suf : List α} {x : α} (h : l = pre ++ x :: suf) : (decide ((pre.length : Int) < (l.length : Int) - 1)) = !suf.isEmpty := by
  rw [h]
  cases suf with
  | nil => simp
  | cons y s => simp; omega
theorem wz5 {l : List Int} {n : Nat} (h : l.length ≤ n) (hn : n < SMALL) {y : Int} : l.length + [y].length ≤ SMALL := by rw [List.length_singleton]; omega
theorem len0 (l : List Int) : decide ((l.length : Int) = 0) = l.isEmpty := by
  cases l with
  | nil => rfl
  | cons x l => simp; omega
theorem len1 (l : List Int) : decide (0 < (l.length : Int)) = !l.isEmpty := by
  cases l with
  | nil => rfl
  | cons x l => simp
theorem v54 (t : GTask) (data : List Int) (hs : t.out.length ≤ SMALL) (hd : data.length ≤ SMALL) : y02 t data = some (splL t.split data t.out []) := by
  unfold y02
  refine scan t.out (by unfold SMALL at hs; omega) (z1q t data zf4 zf5 zf6 zx2) (fun _ suf l => some (splL t.split data suf l)) (fun pre l => l.length ≤ pre.length ∧ (t.split = 2 → l = []))
    (fun n s hi => by rw [z1q, if_neg (by simp)]; rfl)
    (fun n pre x suf s a b c d hi k => ?_) FUEL [] ⟨by simp, fun _ => rfl⟩ (by have := z2i; unfold SMALL at hs; omega)
  have hpl : pre.length < SMALL := by rw [a, List.length_append, List.length_cons] at hs; omega
  have h1 : t.split ≠ 2 → z1q t data zf4 zf5 zf6 zx2 n ((pre.length : Int) + 1) (s ++ [x.to]) = some (splL t.split data suf (s ++ [x.to])) := fun h2 => k (s ++ [x.to]) ⟨by simp; exact hi.1, fun h => absurd h h2⟩
  have h2 := k s ⟨by simp; have := hi.1; omega, hi.2⟩
  rw [z1q, if_pos (decide_eq_true c)]
  simp only [b, Option.bind_some, z53 _ _ hd, vi7 a, len0, z00 (z7o hs), z00 d, z00 (wz5 hi.1 hpl), h2, splL, zf4, zf5, zf6, goB]
  by_cases e2 : t.split = 2
  · have hn := hi.2 e2
    subst hn
    cases expHolds x.if_ data
    · simp
    · have e3 : t.split ≠ 3 := by omega
      have := v0p data suf [x.to] rfl
      simp [e2, this]
  · rw [h1 e2]
    cases expHolds x.if_ data <;> by_cases e3 : t.split = 3 <;> cases suf.isEmpty <;> cases s.isEmpty <;> simp [e2, e3]
theorem v4i (t : GTask) (data : List Int) (hs : t.out.length ≤ SMALL) (hd : data.length ≤ SMALL) : zz9 t data = some (splL t.split data t.out []) := by
  unfold zz9
  refine scan t.out (by unfold SMALL at hs; omega) (z0o t data t.out (t.out.length : Int) y8c) (fun _ suf l => some (splL t.split data suf l)) (fun pre l => l.length ≤ pre.length)
    (fun n s hi => by rw [z0o, if_neg (by simp)]; rfl)
    (fun n pre x suf s a b c d hi k => ?_) FUEL [] (by simp) (by have := z2i; unfold SMALL at hs; omega)
  have hpl : pre.length < SMALL := by rw [a, List.length_append, List.length_cons] at hs; omega
  have h1 := k (s ++ [x.to]) (by simp; exact hi)
  have h2 := k s (by simp; omega)
  rw [z0o, if_pos (decide_eq_true c)]
  simp only [b, Option.bind_some, z7c _ _ hd, y7y a, len1, z00 (z7o hs), z00 d, z00 (wz5 hi hpl), h1, h2, splL, goB]
  cases expHolds x.if_ data <;> by_cases e2 : t.split = 2 <;> by_cases e3 : t.split = 3 <;> cases suf.isEmpty <;> cases s.isEmpty <;> simp [e2, e3]
def zeros (l : List Int) (ps : List Int) : List Int := ps.foldl (fun l p => l.set p.toNat 0) l
theorem ya7 (ps : List Int) : ∀ l : List Int, (zeros l ps).length = l.length := by
  induction ps with
  | nil => intro l; rfl
  | cons p ps ih => intro l; show (zeros (l.set p.toNat 0) ps).length = _; rw [ih]; simp
theorem ve0 (ps : List Int) : ∀ l : List Int, okM l = true → okM (zeros l ps) = true := by
  induction ps with
  | nil => intro l h; exact h
  | cons p ps ih =>
    intro l h
    refine ih _ (zk8.2 fun x hx => ?_)
    rcases List.mem_or_eq_of_mem_set hx with hx | rfl
    · exact zk8.1 h x hx
    · omega
theorem v0z {β : Type} (ps : List Int) (hs : ps.length ≤ SMALL) (f : Nat → Int → List Int → Option β) (kx : List Int → Option β) (l0 : List Int) (hp : ∀ p ∈ ps, 0 ≤ p ∧ p < l0.length)
    (h0 : ∀ n s, f (n + 1) (ps.length : Int) s = kx s)
    (h1 : ∀ n i p s, getI ps i = some p → i < (ps.length : Int) → ok64 (i + 1) → getI s p = some (atI s p) → f (n + 1) i s = f n (i + 1) (s.set p.toNat 0)) :
    f FUEL 0 l0 = kx (zeros l0 ps) :=
  scan ps (by unfold SMALL at hs; omega) f (fun _ suf l => kx (zeros l suf)) (fun pre l => l.length = l0.length) (fun n s hi => by rw [h0]; rfl)
    (fun n pre x suf s a b c d hi k => by
      have hx := hp x (by rw [a]; simp)
      rw [h1 n _ x s b c d (z0g s hx.1 (by rw [hi]; exact hx.2))]
      exact k _ (by simpa using hi)) FUEL l0 rfl (by have := z2i; unfold SMALL at hs; omega)
def giveL (n : GNet) (m : List Int) (t : GTask) (data : List Int) : List Int := incs (zeros m t.clear) (splL t.split data t.out [])
def giveB (n : GNet) (m : List Int) (t : Int) (data : List Int) : List Int × Bool :=
  bif mrkB n m && (inB t 0 ((n.tasks.length : Int) - 1) && (datOk data && okM (giveL n m (atI n.tasks t) data))) then (giveL n m (atI n.tasks t) data, true) else ([], false)
theorem wu8 {t : GTask} {places : Int} : ∀ {suf pre : List GFlow}, flowsB t places pre suf = true → ∀ f ∈ suf, 1 ≤ f.to ∧ f.to ≤ places - 1
  | [], _, _, f, hf => by simp at hf
  | x :: suf, pre, h, f, hf => by
    simp only [flowsB, Bool.and_eq_true, z0b] at h
    rcases List.mem_cons.1 hf with rfl | hf
    · exact h.1
    · exact wu8 h.2.2.2.2 f hf
theorem wk8 {n : GNet} (h : netB n = true) {t : GTask} (ht : t ∈ n.tasks) : ∀ f ∈ t.out, 1 ≤ f.to ∧ f.to ≤ n.places - 1 := by
  simp only [netB, Bool.and_eq_true, List.all_eq_true] at h
  have := h.2.2 t ht
  simp only [taskB, Bool.and_eq_true] at this
  exact wu8 this.2.2.2.2.1.2
theorem z82 {n : GNet} {m : List Int} (h : mrkB n m = true) : netB n = true ∧ (m.length : Int) = n.places ∧ okM m = true := by
  simp only [mrkB, marksB, Bool.and_eq_true, decide_eq_true_eq] at h
  exact ⟨h.1, h.2.1, h.2.2⟩
structure GiveOk (n : GNet) (m : List Int) (t : GTask) (data : List Int) : Prop where
  clears : ∀ p ∈ t.clear, 0 ≤ p ∧ p < m.length
  tos : ∀ p ∈ splL t.split data t.out [], 0 ≤ p ∧ p < (zeros m t.clear).length
  len : (splL t.split data t.out []).length ≤ SMALL
  ok : okM (zeros m t.clear) = true
theorem v6q {n : GNet} {m : List Int} {t : GTask} {data : List Int} (hm : mrkB n m = true) (ht : t ∈ n.tasks) : GiveOk n m t data := by
  obtain ⟨h1, h2, h3⟩ := z82 hm
  have T := z6d h1 ht
  refine ⟨fun p hp => by have := T.clears p hp; omega, fun p hp => ?_, ?_, ve0 _ _ h3⟩
  · rcases wp6 _ _ _ _ _ hp with h | ⟨f, hf, e⟩
    · simp at h
    · have := wk8 h1 ht f hf; rw [ya7]; omega
  · have := wp5 t.split data t.out []; have := T.outl; rw [List.length_nil] at *; unfold SMALL; omega
theorem v0m (n : GNet) (m : List Int) (t : Int) (data : List Int) (hn : n.small) (hm : m.length ≤ SMALL) (hd : data.length ≤ SMALL) : zm0 n m t data = some (giveB n m t data) := by
  unfold zm0 giveB
  rw [yc1 n m hn hm, Option.bind_some, z00 (z7o hn.1), z2j, Option.bind_some, z83 _ hd, Option.bind_some, z00 (by simpa using hm)]
  by_cases h1 : mrkB n m = true
  · by_cases h2 : inB t 0 ((n.tasks.length : Int) - 1) = true
    · by_cases h3 : datOk data = true
      · have h2' := z0b.1 h2
        have hg := z0g n.tasks h2'.1 (by omega)
        have ht := z29 n.tasks h2'.1 (by omega)
        have G := v6q (data := data) h1 ht
        rw [if_pos h1, if_pos h2, if_pos h3, h1, h2, h3, List.nil_append]
        rw [v0z (atI n.tasks t).clear (hn.2 _ ht).2.2 (z5e n t (z95 n t data)) (z95 n t data) m G.clears (fun n s => by rw [z5e, hg, Option.bind_some, if_neg (by simp)])
          (fun n i p s b c d g => by rw [z5e, hg, Option.bind_some, if_pos (decide_eq_true c), Option.bind_some, b, Option.bind_some, g, Option.bind_some, z00 d])]
        unfold z95
        rw [hg, Option.bind_some, v54 _ _ (hn.2 _ ht).2.1 hd, Option.bind_some]
        rw [v8a _ G.len (z5f _ z96) z96 (some ([], false)) _ G.tos G.ok (fun n s => by rw [z5f, if_neg (by simp)])
          (fun n i p s b c d g o => by rw [z5f, if_pos (decide_eq_true c)]; simp only [b, Option.bind_some, g, z00 d, z00 o]; rfl)]
        unfold z96 giveL
        cases okM (incs (zeros m (atI n.tasks t).clear) (splL (atI n.tasks t).split data (atI n.tasks t).out [])) <;> rfl
      · rw [if_pos h1, if_pos h2, if_neg h3, Bool.eq_false_iff.2 h3]; simp
    · rw [if_pos h1, if_neg h2, Bool.eq_false_iff.2 h2]; simp
  · rw [if_neg h1, Bool.eq_false_iff.2 h1]; simp
theorem y7w (n : GNet) (t : Int) (hn : n.small) : z0n n t = some (inB t 0 ((n.tasks.length : Int) - 1)) := by
  unfold z0n; rw [z00 (z7o hn.1), z5m]; rfl
theorem wx1 (n : GNet) (m : List Int) (t : Int) (data : List Int) (hn : n.small) (hm : m.length ≤ SMALL) (hd : data.length ≤ SMALL) : z80 n m t data = some (giveB n m t data) := by
  unfold z80 giveB
  rw [yx4 n m hn hm, Option.bind_some, y7w n t hn, Option.bind_some, zb0 _ hd, Option.bind_some, z2q _ hm, Option.bind_some]
  by_cases h1 : mrkB n m = true
  · by_cases h2 : inB t 0 ((n.tasks.length : Int) - 1) = true
    · by_cases h3 : datOk data = true
      · have h2' := z0b.1 h2
        have hg := z0g n.tasks h2'.1 (by omega)
        have ht := z29 n.tasks h2'.1 (by omega)
        have G := v6q (data := data) h1 ht
        obtain ⟨f1, f2, f3⟩ := z82 h1
        rw [if_pos h1, if_pos h2, if_pos h3, h1, h2, h3, hg, Option.bind_some]
        rw [v0z (atI n.tasks t).clear (hn.2 _ ht).2.2 (z5a (atI n.tasks t).clear ((atI n.tasks t).clear.length : Int) (z90 n t data)) (z90 n t data) m G.clears (fun n s => by rw [z5a, if_neg (by simp)])
          (fun n i p s b c d g => by rw [z5a, if_pos (decide_eq_true c), b, Option.bind_some, g, Option.bind_some, z00 d])]
        unfold z90
        rw [hg, Option.bind_some, v4i _ _ (hn.2 _ ht).2.1 hd, Option.bind_some]
        rw [v9u _ G.len (z5b _ _ (z91 n)) (z91 n) _ 4 (by omega) G.tos (zk8.1 G.ok) (fun n s => by rw [z5b, if_neg (by simp)])
          (fun n i p s b c d g o => by rw [z5b, if_pos (decide_eq_true c)]; simp only [b, Option.bind_some, g, z00 d, z00 o]; rfl)]
        unfold z91 giveL
        have hl : (incs (zeros m (atI n.tasks t).clear) (splL (atI n.tasks t).split data (atI n.tasks t).out [])).length = m.length := by rw [w2z, ya7]
        rw [w0l _ _ (by rw [hl]; exact hm), Option.bind_some]
        unfold marksB
        rw [hl, decide_eq_true f2, Bool.true_and]
        show (if okM _ = true then _ else _) = _
        cases okM (incs (zeros m (atI n.tasks t).clear) (splL (atI n.tasks t).split data (atI n.tasks t).out [])) <;> rfl
      · rw [if_pos h1, if_pos h2, if_neg h3, Bool.eq_false_iff.2 h3]; simp
    · rw [if_pos h1, if_neg h2, Bool.eq_false_iff.2 h2]; simp
  · rw [if_neg h1, Bool.eq_false_iff.2 h1]; simp
end Go.Am.Pl
end
section
namespace Go.Am.Pl
open Go
theorem ww2 (n : GNet) (m : List Int) (t : Int) (data : List Int) : (giveB n m t data).1.length ≤ m.length := by
  unfold giveB
  cases mrkB n m && (inB t 0 ((n.tasks.length : Int) - 1) && (datOk data && okM (giveL n m (atI n.tasks t) data)))
  · simp
  · show (giveL n m (atI n.tasks t) data).length ≤ _
    unfold giveL; rw [w2z, ya7]; exact Nat.le_refl _
theorem ww3 {n : GNet} {m : List Int} {t : Int} {data : List Int} (h : (giveB n m t data).2 = true) : getI (giveB n m t data).1 1 = some (atI (giveB n m t data).1 1) := by
  have hl : (2 : Int) ≤ ((giveB n m t data).1.length : Int) := by
    unfold giveB at h ⊢
    cases e : mrkB n m && (inB t 0 ((n.tasks.length : Int) - 1) && (datOk data && okM (giveL n m (atI n.tasks t) data)))
    · rw [e] at h; cases h
    · show (2 : Int) ≤ ((giveL n m (atI n.tasks t) data).length : Int)
      unfold giveL; rw [w2z, ya7]
      rw [Bool.and_eq_true] at e
      obtain ⟨f1, f2, f3⟩ := z82 e.1
      have := z5k f1; omega
  exact z0g _ (by omega) (by omega)
def datB (data : List Int) (v num : Int) : List Int := if 0 ≤ v then data.set v.toNat num else data
theorem w2u (data : List Int) (v num : Int) : (datB data v num).length = data.length := by unfold datB; split <;> simp
theorem y1h {data : List Int} (h : datOk data = true) : data.length = 3 := by simp only [datOk, Bool.and_eq_true, decide_eq_true_eq] at h; exact h.1
theorem v2d {data : List Int} {v num : Int} (hd : datOk data = true) (hv : inB v (-1) 2 = true) (hn : inB num (-99) 99 = true) : z7j data v num = some (datB data v num) := by
  have hl := y1h hd
  have hv' := z0b.1 hv
  have hs : data.length ≤ SMALL := by unfold SMALL; omega
  unfold z7j datB
  rw [z83 _ hs, Option.bind_some, if_pos hd, z2j, Option.bind_some, z2j, Option.bind_some, if_pos hn, z00 (by simpa using hs), List.nil_append]
  by_cases h : 0 ≤ v
  · rw [if_pos (z0b.2 ⟨h, hv'.2⟩), z0g data h (by omega), if_pos h]; rfl
  · rw [if_neg (fun e => h (z0b.1 e).1), if_neg h, z00 (by simpa using hs)]
def itD (b : GItem) : GItem := GItem.mk b.task b.who (b.did + 1)
def doneB (n : GNet) (c : GCase) (k : Int) (data : List Int) : GCase × Bool :=
  if (atI c.busy k).did + 1 < (atI n.tasks (atI c.busy k).task).need then (GCase.mk c.state c.marks (c.busy.set k.toNat (itD (atI c.busy k))) data c.did, true)
  else if (giveB n c.marks (atI c.busy k).task data).2 = true then
    (if 0 < atI (giveB n c.marks (atI c.busy k).task data).1 1 then (GCase.mk 2 (giveB n c.marks (atI c.busy k).task data).1 [] data (c.did ++ [GDid.mk (atI c.busy k).task (atI c.busy k).who]), true)
     else (GCase.mk c.state (giveB n c.marks (atI c.busy k).task data).1 (c.busy.take k.toNat ++ c.busy.drop (k + 1).toNat) data (c.did ++ [GDid.mk (atI c.busy k).task (atI c.busy k).who]), true))
  else (c, false)
def workB (n : GNet) (c : GCase) (k v num : Int) : GCase × Bool :=
  bif casB n c && (decide (c.state = 1) && (inB k 0 ((c.busy.length : Int) - 1) && (inB v (-1) 2 && (inB num (-99) 99 && !decide ((c.did.length : Int) = 60))))) then doneB n c k (datB c.data v num) else (c, false)
theorem w0y (n : GNet) (c : GCase) (k v num : Int) (hn : n.small) (hc : c.small) : z9p n c k v num = some (workB n c k v num) := by
  unfold z9p workB
  rw [y4n c hc, Option.bind_some, yc0 n c hn hc, Option.bind_some, z00 (z7o hc.2.1)]
  simp only [z2j, Option.bind_some]
  by_cases h1 : casB n c = true
  case neg => rw [if_neg h1, Bool.eq_false_iff.2 h1]; rfl
  by_cases h2 : c.state = 1
  case neg => rw [if_pos h1, if_neg (by simpa using h2), decide_eq_false h2]; simp
  by_cases h3 : inB k 0 ((c.busy.length : Int) - 1) = true
  case neg => rw [if_pos h1, if_pos (decide_eq_true h2), if_neg h3, Bool.eq_false_iff.2 h3]; simp
  by_cases h4 : inB v (-1) 2 = true
  case neg => rw [if_pos h1, if_pos (decide_eq_true h2), if_pos h3, if_neg h4, Bool.eq_false_iff.2 h4]; simp
  by_cases h5 : inB num (-99) 99 = true
  case neg => rw [if_pos h1, if_pos (decide_eq_true h2), if_pos h3, if_pos h4, if_neg h5, Bool.eq_false_iff.2 h5]; simp
  by_cases h6 : (c.did.length : Int) = 60
  · rw [if_pos h1, if_pos (decide_eq_true h2), if_pos h3, if_pos h4, if_pos h5, if_pos (decide_eq_true h6), decide_eq_true h6]; simp
  rw [if_pos h1, if_pos (decide_eq_true h2), if_pos h3, if_pos h4, if_pos h5, if_neg (by simpa using h6), h1, decide_eq_true h2, h3, h4, h5, decide_eq_false h6]
  have F := zj9 h1
  have hk := z0b.1 h3
  have hb := z29 c.busy hk.1 (by omega)
  obtain ⟨ft, fw, fd⟩ := F.busy _ hb
  have ht := z29 n.tasks ft.1 ft.2
  have T := z6d F.net ht
  have hneed := T.need
  have hall := T.all
  have hl := y1h F.data
  have hds : (datB c.data v num).length ≤ SMALL := by rw [w2u]; unfold SMALL; omega
  have h60 := F.didl
  have hbl := F.busyl
  rw [z0g c.busy hk.1 (by omega), Option.bind_some, v2d F.data h4 h5, Option.bind_some, z00 (by constructor <;> omega), Option.bind_some, z00 (by constructor <;> omega), z0g n.tasks ft.1 ft.2, Option.bind_some]
  show _ = some (doneB n c k (datB c.data v num))
  unfold doneB
  by_cases h7 : (atI c.busy k).did + 1 < (atI n.tasks (atI c.busy k).task).need
  · rw [if_pos (decide_eq_true h7), if_pos h7]; rfl
  rw [if_neg (by simpa using h7), if_neg h7, v0m n _ _ _ hn hc.1 hds, Option.bind_some]
  by_cases h8 : (giveB n c.marks (atI c.busy k).task (datB c.data v num)).2 = true
  case neg => rw [if_neg h8, if_neg h8]
  rw [if_pos h8, if_pos h8, z00 (by omega), z00 (by simp; unfold SMALL; omega), z00 (by constructor <;> omega), z00 (by omega), z00 (by simp; unfold SMALL; omega), z00 (by simp; unfold SMALL; omega), ww3 h8, Option.bind_some]
  by_cases h9 : 0 < atI (giveB n c.marks (atI c.busy k).task (datB c.data v num)).1 1
  · rw [if_pos (decide_eq_true h9), if_pos h9]
  · rw [if_neg (by simpa using h9), if_neg h9]; rfl
theorem wx0 (n : GNet) (c : GCase) (k v num : Int) (hn : n.small) (hc : c.small) : zl6 n c k v num = some (workB n c k v num) := by
  unfold zl6 workB
  rw [z8w c hc, Option.bind_some, y7x n c hn hc, Option.bind_some, z00 (z7o hc.2.1)]
  simp only [z5m, zz5, Option.bind_some]
  by_cases h1 : casB n c = true
  case neg => rw [Bool.eq_false_iff.2 h1]; rfl
  by_cases h2 : c.state = 1
  case neg => rw [decide_eq_false h2]; simp
  rw [h1, decide_eq_true h2]
  by_cases h3 : inB k 0 ((c.busy.length : Int) - 1) = true
  case neg => rw [Bool.eq_false_iff.2 h3]; simp
  by_cases h4 : inB v (-1) 2 = true
  case neg => rw [h3, Bool.eq_false_iff.2 h4]; simp
  by_cases h5 : inB num (-99) 99 = true
  case neg => rw [h3, h4, Bool.eq_false_iff.2 h5]; simp
  by_cases h6 : (c.did.length : Int) = 60
  · rw [h3, h4, h5, decide_eq_true h6]; simp
  rw [h3, h4, h5, decide_eq_false h6]
  have F := zj9 h1
  have hk := z0b.1 h3
  have hv := z0b.1 h4
  have hb := z29 c.busy hk.1 (by omega)
  obtain ⟨ft, fw, fd⟩ := F.busy _ hb
  have ht := z29 n.tasks ft.1 ft.2
  have T := z6d F.net ht
  have hneed := T.need
  have hall := T.all
  have hl := y1h F.data
  have h60 := F.didl
  have hbl := F.busyl
  have e1 : ∀ x : GItem, (c.busy.set k.toNat x).take k.toNat = c.busy.take k.toNat := fun x => List.take_set_of_le (Nat.le_refl _)
  have e2 : ∀ x : GItem, (c.busy.set k.toNat x).drop (k + 1).toNat = c.busy.drop (k + 1).toNat := fun x => List.drop_set_of_lt (by omega)
  have hD : ∀ x : GItem, z6g (c.busy.set k.toNat x) k (k + 1) = some (c.busy.take k.toNat ++ c.busy.drop (k + 1).toNat) := fun x => by
    unfold z6g; rw [z00 (by simp; omega), e1, e2]
  have okd : ok64 ((atI c.busy k).did + 1) := by constructor <;> omega
  have okk : ok64 (k + 1) := by constructor <;> omega
  have hsd : ∀ y : GDid, c.did.length + [y].length ≤ SMALL := fun y => by simp; unfold SMALL; omega
  have cl : ∀ (s : Int) (m : List Int) (b : List GItem) (d : List Int) (y : GDid), m.length ≤ c.marks.length → b.length ≤ c.busy.length → d.length = 3 → z08 (GCase.mk s m b d (c.did ++ [y])) = some (GCase.mk s m b d (c.did ++ [y])) := fun s m b d y hm hb hd =>
    z8w _ ⟨Nat.le_trans hm hc.1, Nat.le_trans hb hc.2.1, by show d.length ≤ _; unfold SMALL; omega, by show (c.did ++ [y]).length ≤ _; rw [List.length_append]; exact hsd y⟩
  have tdl : (c.busy.take k.toNat ++ c.busy.drop (k + 1).toNat).length ≤ c.busy.length := by simp; omega
  have tail : ∀ data : List Int, data.length = 3 → (if decide ((atI c.busy k).did + 1 < (atI n.tasks (atI c.busy k).task).need) = true then some (GCase.mk c.state c.marks (c.busy.set k.toNat (itD (atI c.busy k))) data c.did, true)
      else (z80 n c.marks (atI c.busy k).task data).bind fun x18 => if x18.2 = true then gd (c.did.length + [GDid.mk (atI c.busy k).task (atI c.busy k).who].length ≤ SMALL) (gd (ok64 (k + 1)) ((z6g (c.busy.set k.toNat (itD (atI c.busy k))) k (k + 1)).bind fun x22 => (getI x18.1 1).bind fun x23 =>
        if decide (0 < x23) = true then (z08 (GCase.mk 2 x18.1 [] data (c.did ++ [GDid.mk (atI c.busy k).task (atI c.busy k).who]))).bind fun x25 => some (x25, true)
        else (z08 (GCase.mk c.state x18.1 x22 data (c.did ++ [GDid.mk (atI c.busy k).task (atI c.busy k).who]))).bind fun x26 => some (x26, true))) else some (c, false)) = some (doneB n c k data) := by
    intro data hdl
    unfold doneB
    by_cases h7 : (atI c.busy k).did + 1 < (atI n.tasks (atI c.busy k).task).need
    · rw [if_pos (decide_eq_true h7), if_pos h7]
    rw [if_neg (by simpa using h7), if_neg h7, wx1 n _ _ _ hn hc.1 (by unfold SMALL; omega), Option.bind_some]
    have hgl := ww2 n c.marks (atI c.busy k).task data
    by_cases h8 : (giveB n c.marks (atI c.busy k).task data).2 = true
    case neg => rw [if_neg h8, if_neg h8]
    rw [if_pos h8, if_pos h8, z00 (hsd _), z00 okk, hD, Option.bind_some, ww3 h8, Option.bind_some]
    by_cases h9 : 0 < atI (giveB n c.marks (atI c.busy k).task data).1 1
    · rw [if_pos (decide_eq_true h9), if_pos h9, cl _ _ _ _ _ hgl (Nat.zero_le _) hdl]; rfl
    · rw [if_neg (by simpa using h9), if_neg h9, cl _ _ _ _ _ hgl tdl hdl]; rfl
  rw [if_pos (show (true && true) = true from rfl), if_pos rfl, if_pos rfl, if_pos rfl, if_neg (by simp)]
  by_cases hv0 : 0 ≤ v
  · rw [if_pos (decide_eq_true hv0), z0g c.data hv0 (by omega), Option.bind_some, z0g c.busy hk.1 (by omega), Option.bind_some, z00 okd, z0g n.tasks ft.1 ft.2, Option.bind_some]
    have := tail (datB c.data v num) (by rw [w2u, hl])
    unfold datB at this ⊢
    rw [if_pos hv0] at this ⊢
    exact this
  · rw [if_neg (by simpa using hv0), z0g c.busy hk.1 (by omega), Option.bind_some, z00 okd, z0g n.tasks ft.1 ft.2, Option.bind_some]
    have := tail (datB c.data v num) (by rw [w2u, hl])
    unfold datB at this ⊢
    rw [if_neg hv0] at this ⊢
    exact this
end Go.Am.Pl
end
section
namespace Go.Am.Pl
open Go
end Go.Am.Pl
end
section
namespace Go.Am.Pl
open Go
theorem yn6 {α γ β : Type} (l : List α) (hl : l.length ≤ SMALL) (e : α → List γ) (f : Nat → Int → List γ → Option β) (kx : List γ → Option β) (h0 : ∀ n s, f (n + 1) (l.length : Int) s = kx s)
    (h1 : ∀ n pre x suf s, l = pre ++ x :: suf → getI l (pre.length : Int) = some x → x ∈ l → (pre.length : Int) < (l.length : Int) → ok64 ((pre.length : Int) + 1) → s = pre.flatMap e → f (n + 1) (pre.length : Int) s = f n ((pre.length : Int) + 1) (s ++ e x)) :
    f FUEL 0 [] = kx (l.flatMap e) := by
  have := scan l (by unfold SMALL at hl; omega) f (fun pre suf s => kx (s ++ suf.flatMap e)) (fun pre s => s = pre.flatMap e) (fun n s _ => by rw [h0]; simp)
    (fun n pre x suf s a b c d i k => by
      rw [h1 n pre x suf s a b (by rw [a]; simp) c d i, k (s ++ e x) (by rw [i]; simp)]
      simp) FUEL [] rfl (by have := z2i; unfold SMALL at hl; omega)
  rw [this]; simp
theorem yo0 {α γ : Type} {e : α → List γ} (he : ∀ x, (e x).length ≤ 1) : ∀ l : List α, (l.flatMap e).length ≤ l.length
  | [] => by simp
  | x :: l => by have := yo0 he l; have := he x; simp only [List.flatMap_cons, List.length_append, List.length_cons]; omega
end Go.Am.Pl
end
section
namespace Go.Am.Pl
open Go
def atB (l : List Bool) (p : Int) : Bool := (getI l p).getD false
theorem zs1 (l : List Bool) {i : Int} (h0 : 0 ≤ i) (h1 : i < l.length) : getI l i = some (atB l i) := by
  obtain ⟨x, hx, _⟩ := wj3 l h0 h1
  unfold atB; rw [hx]; rfl
def setT (l : List Bool) (p : Int) : List Bool := l.set p.toNat true
theorem zh5 (l : List Bool) (p : Int) : (setT l p).length = l.length := by simp [setT]
theorem yv6 (l : List Bool) {p q : Int} (hp : 0 ≤ p) (hq : 0 ≤ q) (hl : q < l.length) : atB (setT l p) q = (decide (p = q) || atB l q) := by
  unfold atB setT
  rw [yq1 l true hp hq hl]
  by_cases h : p = q <;> simp [h]
def setTs (l : List Bool) (ps : List Int) : List Bool := ps.foldl setT l
theorem v0i : ∀ (ps : List Int) (l : List Bool), (setTs l ps).length = l.length
  | [], l => rfl
  | p :: ps, l => by show (setTs (setT l p) ps).length = _; rw [v0i ps, zh5]
theorem wc0 : ∀ (ps : List Int) (l : List Bool) {q : Int}, (∀ p ∈ ps, 0 ≤ p) → 0 ≤ q → q < l.length → atB (setTs l ps) q = (decide (q ∈ ps) || atB l q)
  | [], l, q, _, _, _ => by simp [setTs]
  | p :: ps, l, q, hp, h0, h1 => by
    show atB (setTs (setT l p) ps) q = _
    rw [wc0 ps (setT l p) (fun x hx => hp x (by simp [hx])) h0 (by rw [zh5]; exact h1), yv6 l (hp p (by simp)) h0 h1]
    by_cases h : p = q
    · subst h; simp
    · have : q ≠ p := fun e => h e.symm
      simp [h, this]
def rndT (but i : Int) (t : GTask) (l : List Bool) : List Bool := if i ≠ but ∧ t.in_.any (atB l) = true then setTs l (t.out.map (·.to)) else l
def rnd (but : Int) : Int → List GTask → List Bool → List Bool
  | _, [], l => l
  | i, t :: ts, l => rnd but (i + 1) ts (rndT but i t l)
theorem zh4 (but i : Int) (t : GTask) (l : List Bool) : (rndT but i t l).length = l.length := by
  unfold rndT; split
  · rw [v0i]
  · rfl
theorem zl0 (but : Int) : ∀ (ts : List GTask) (i : Int) (l : List Bool), (rnd but i ts l).length = l.length
  | [], _, _ => rfl
  | t :: ts, i, l => by unfold rnd; rw [zl0 but ts, zh4]
def Pls (N : Int) (ts : List GTask) : Prop := ∀ t ∈ ts, (∀ p ∈ t.in_, 0 ≤ p ∧ p < N) ∧ ∀ f ∈ t.out, 0 ≤ f.to ∧ f.to < N
theorem v28 {but i : Int} {t : GTask} {l : List Bool} (ht : ∀ f ∈ t.out, 0 ≤ f.to ∧ f.to < (l.length : Int)) {q : Int} (h0 : 0 ≤ q) (h1 : q < l.length) :
    atB (rndT but i t l) q = ((decide (i ≠ but) && t.in_.any (atB l) && t.out.any (fun f => decide (f.to = q))) || atB l q) := by
  unfold rndT
  by_cases hc : i ≠ but ∧ t.in_.any (atB l) = true
  · rw [if_pos hc, wc0 _ _ (fun p hp => by obtain ⟨f, hf, e⟩ := List.mem_map.1 hp; subst e; exact (ht f hf).1) h0 h1, decide_eq_true hc.1, hc.2, Bool.true_and, Bool.true_and]
    congr 1
    rw [Bool.eq_iff_iff]; simp
  · rw [if_neg hc]
    have : (decide (i ≠ but) && t.in_.any (atB l)) = false := by
      rw [Bool.eq_false_iff]; intro h; rw [Bool.and_eq_true, decide_eq_true_eq] at h; exact hc h
    rw [this]; rfl
def Sub (a b : List Bool) : Prop := ∀ q : Int, 0 ≤ q → q < a.length → atB a q = true → atB b q = true
theorem wp1 {but i : Int} {t : GTask} {l : List Bool} (ht : ∀ f ∈ t.out, 0 ≤ f.to ∧ f.to < (l.length : Int)) : Sub l (rndT but i t l) := fun q h0 h1 h => by
  rw [v28 ht h0 h1, h, Bool.or_true]
theorem ym3 {but : Int} : ∀ (ts : List GTask) (i : Int) (l : List Bool), Pls l.length ts → Sub l (rnd but i ts l)
  | [], _, _, _ => fun _ _ _ h => h
  | t :: ts, i, l, hp => fun q h0 h1 h => by
    have ht := (hp t (by simp)).2
    unfold rnd
    exact ym3 ts (i + 1) (rndT but i t l) (by rw [zh4]; exact fun x hx => hp x (by simp [hx])) q h0 (by rw [zh4]; exact h1) (wp1 ht q h0 h1 h)
def Stp (but : Int) (ts : List GTask) (p q : Int) : Prop := ∃ (j : Nat) (t : GTask), ts[j]? = some t ∧ (j : Int) ≠ but ∧ p ∈ t.in_ ∧ ∃ f ∈ t.out, f.to = q
inductive Star (but : Int) (ts : List GTask) : Int → Int → Prop where
  | refl (p : Int) : Star but ts p p
  | tail {p q r : Int} : Star but ts p q → Stp but ts q r → Star but ts p r
def Sound (but : Int) (ts : List GTask) (S : Int → Prop) (l : List Bool) : Prop := ∀ q : Int, 0 ≤ q → q < l.length → atB l q = true → ∃ p, S p ∧ Star but ts p q
theorem v0g {but : Int} {all : List GTask} {S : Int → Prop} : ∀ (ts pre : List GTask) (l : List Bool), all = pre ++ ts → Pls l.length all → Sound but all S l → Sound but all S (rnd but pre.length ts l)
  | [], _, _, _, _, h => h
  | t :: ts, pre, l, ha, hp, h => by
    have hm : t ∈ all := by rw [ha]; simp
    have ht := hp t hm
    unfold rnd
    have := v0g (all := all) (S := S) ts (pre ++ [t]) (rndT but pre.length t l) (by rw [ha]; simp) (by rw [zh4]; exact hp) (fun q h0 h1 hq => by
      rw [zh4] at h1
      rw [v28 ht.2 h0 h1] at hq
      rcases Bool.or_eq_true _ _ ▸ hq with hq | hq
      · simp only [Bool.and_eq_true, decide_eq_true_eq, List.any_eq_true] at hq
        obtain ⟨⟨hb, p, hpi, hpt⟩, f, hf, e⟩ := hq
        obtain ⟨s, hs, hst⟩ := h p (ht.1 p hpi).1 (ht.1 p hpi).2 hpt
        exact ⟨s, hs, hst.tail ⟨pre.length, t, by rw [ha]; simp, hb, hpi, f, hf, e⟩⟩
      · exact h q h0 h1 hq)
    simpa using this
def Shut (but : Int) (ts : List GTask) (l : List Bool) : Prop := ∀ p q : Int, 0 ≤ p → p < l.length → atB l p = true → Stp but ts p q → atB l q = true
theorem vc2 {but i : Int} {t : GTask} {l : List Bool} (h : rndT but i t l = l) (ht : ∀ f ∈ t.out, 0 ≤ f.to ∧ f.to < (l.length : Int)) (hb : i ≠ but) {p : Int} (hp : p ∈ t.in_) (hl : atB l p = true) : ∀ f ∈ t.out, atB l f.to = true := fun f hf => by
  have := v28 (but := but) (i := i) ht (ht f hf).1 (ht f hf).2
  rw [h] at this
  rw [this, decide_eq_true hb, Bool.true_and, List.any_eq_true.2 ⟨p, hp, hl⟩, Bool.true_and, List.any_eq_true.2 ⟨f, hf, by simp⟩]; rfl
theorem v8b {a b : List Bool} (hl : a.length = b.length) (h1 : Sub a b) (h2 : Sub b a) : a = b := by
  apply List.ext_getElem?
  intro j
  by_cases hj : j < a.length
  · have e1 := h1 j (by omega) (by omega)
    have e2 := h2 j (by omega) (by omega)
    unfold atB at e1 e2
    rw [z3h, z3h] at e1 e2
    rw [List.getElem?_eq_getElem hj, List.getElem?_eq_getElem (show j < b.length by omega)] at e1 e2 ⊢
    simp only [Option.getD_some] at e1 e2
    cases ha : a[j] <;> cases hb : b[j] <;> simp_all
  · rw [List.getElem?_eq_none (by omega), List.getElem?_eq_none (by omega)]
theorem Sub.trans {a b c : List Bool} (hl : a.length = b.length) (h1 : Sub a b) (h2 : Sub b c) : Sub a c := fun q h0 h3 h => h2 q h0 (by omega) (h1 q h0 h3 h)
theorem v7t {but : Int} : ∀ (ts : List GTask) (i : Int) (l : List Bool), Pls l.length ts → rnd but i ts l = l → ∀ (j : Nat) (t : GTask), ts[j]? = some t → rndT but (i + j) t l = l
  | [], _, _, _, _, j, t, h => by simp at h
  | u :: ts, i, l, hp, h, j, t, hj => by
    have hu := (hp u (by simp)).2
    have hp' : Pls ((rndT but i u l).length) ts := by rw [zh4]; exact fun x hx => hp x (by simp [hx])
    have h2 := ym3 (but := but) ts (i + 1) (rndT but i u l) hp'
    unfold rnd at h
    rw [h] at h2
    have e : rndT but i u l = l := v8b (zh4 _ _ _ _) h2 (wp1 hu)
    cases j with
    | zero => simp at hj; subst hj; simpa using e
    | succ j =>
      rw [e] at h
      have := v7t ts (i + 1) l (fun x hx => hp x (by simp [hx])) h j t (by simpa using hj)
      rw [show i + ((j + 1 : Nat) : Int) = i + 1 + j by omega]; exact this
theorem v9n {but : Int} {ts : List GTask} {l : List Bool} (hp : Pls l.length ts) (h : rnd but 0 ts l = l) : Shut but ts l := fun p q h0 h1 ha ⟨j, t, hj, hb, hpi, f, hf, e⟩ => by
  subst e
  have := v7t ts 0 l hp h j t hj
  rw [Int.zero_add] at this
  exact vc2 this (hp t (List.mem_iff_getElem?.2 ⟨j, hj⟩)).2 hb hpi ha f hf
theorem v7y {but : Int} {ts : List GTask} {l : List Bool} (hp : Pls l.length ts) (h : Shut but ts l) {p q : Int} (hs : Star but ts p q) (h0 : 0 ≤ p) (h1 : p < l.length) (ha : atB l p = true) : (0 ≤ q ∧ q < l.length) ∧ atB l q = true := by
  induction hs with
  | refl => exact ⟨⟨h0, h1⟩, ha⟩
  | tail _ st ih =>
    obtain ⟨⟨i0, i1⟩, i2⟩ := ih
    refine ⟨?_, h _ _ i0 i1 i2 st⟩
    obtain ⟨j, t, hj, _, _, f, hf, e⟩ := st
    subst e
    exact (hp t (List.mem_iff_getElem?.2 ⟨j, hj⟩)).2 f hf
def cntT (l : List Bool) : Nat := (l.filter id).length
theorem vh0 (l : List Bool) : cntT l ≤ l.length := List.length_filter_le _ _
theorem wr5 (x : Bool) (l : List Bool) : cntT (x :: l) = (if x = true then 1 else 0) + cntT l := by
  unfold cntT; cases x <;> simp; omega
theorem v33 : ∀ (a b : List Bool), a.length = b.length → (∀ j : Nat, a[j]? = some true → b[j]? = some true) → cntT a ≤ cntT b ∧ (cntT a = cntT b → a = b)
  | [], [], _, _ => ⟨Nat.le_refl _, fun _ => rfl⟩
  | [], _ :: _, h, _ => by simp at h
  | _ :: _, [], h, _ => by simp at h
  | x :: a, y :: b, hl, h => by
    have h0 : x = true → y = true := fun e => by have := h 0 (by simp [e]); simpa using this
    obtain ⟨i1, i2⟩ := v33 a b (by simpa using hl) (fun j hj => by have := h (j + 1) (by simpa using hj); simpa using this)
    rw [wr5, wr5]
    cases x <;> cases y
    · exact ⟨by simpa using i1, fun e => by rw [i2 (by simpa using e)]⟩
    · exact ⟨by simp; omega, fun e => by simp at e; omega⟩
    · exact absurd (h0 rfl) (by simp)
    · exact ⟨by simpa using i1, fun e => by rw [i2 (by simpa using e)]⟩
theorem v2m {a b : List Bool} (hl : a.length = b.length) (h : Sub a b) : cntT a ≤ cntT b ∧ (cntT a = cntT b → a = b) := by
  refine v33 a b hl fun j hj => ?_
  have hlt : j < a.length := by
    rcases Nat.lt_or_ge j a.length with h2 | h2
    · exact h2
    · rw [List.getElem?_eq_none h2] at hj; cases hj
  have := h j (by omega) (by omega) (by unfold atB; rw [z3h, hj]; rfl)
  unfold atB at this
  rw [z3h] at this
  cases e : b[j]? with
  | none => rw [e] at this; cases this
  | some v => rw [e] at this; simp at this; rw [this]
def iter (but : Int) (ts : List GTask) : Nat → List Bool → List Bool
  | 0, l => l
  | k + 1, l => iter but ts k (rnd but 0 ts l)
theorem yq3 (but : Int) (ts : List GTask) : ∀ (k : Nat) (l : List Bool), (iter but ts k l).length = l.length
  | 0, _ => rfl
  | k + 1, l => by show (iter but ts k (rnd but 0 ts l)).length = _; rw [yq3 but ts k, zl0]
theorem w4z {but : Int} {ts : List GTask} {l : List Bool} (h : rnd but 0 ts l = l) : ∀ k : Nat, iter but ts k l = l
  | 0 => rfl
  | k + 1 => by show iter but ts k (rnd but 0 ts l) = l; rw [h]; exact w4z h k
theorem w31 {but : Int} {ts : List GTask} : ∀ (k : Nat) (l : List Bool), Pls l.length ts → l.length ≤ cntT l + k → rnd but 0 ts (iter but ts k l) = iter but ts k l
  | 0, l, hp, h => by
    have hs := ym3 (but := but) ts 0 l hp
    obtain ⟨h1, h2⟩ := v2m (zl0 but ts 0 l).symm hs
    have h3 := vh0 (rnd but 0 ts l)
    rw [zl0] at h3
    exact (h2 (by omega)).symm
  | k + 1, l, hp, h => by
    by_cases e : rnd but 0 ts l = l
    · rw [w4z e]; exact e
    · have hs := ym3 (but := but) ts 0 l hp
      obtain ⟨h1, h2⟩ := v2m (zl0 but ts 0 l).symm hs
      have h4 : cntT l ≠ cntT (rnd but 0 ts l) := fun e2 => e (h2 e2).symm
      exact w31 k (rnd but 0 ts l) (by rw [zl0]; exact hp) (by rw [zl0]; omega)
theorem wk5 {but : Int} {ts : List GTask} : ∀ (k : Nat) (l : List Bool), Pls l.length ts → Sub l (iter but ts k l)
  | 0, _, _ => fun _ _ _ h => h
  | k + 1, l, hp => Sub.trans (zl0 but ts 0 l).symm (ym3 ts 0 l hp) (wk5 k (rnd but 0 ts l) (by rw [zl0]; exact hp))
theorem yx7 {but : Int} {ts : List GTask} {S : Int → Prop} : ∀ (k : Nat) (l : List Bool), Pls l.length ts → Sound but ts S l → Sound but ts S (iter but ts k l)
  | 0, _, _, h => h
  | k + 1, l, hp, h => yx7 k (rnd but 0 ts l) (by rw [zl0]; exact hp) (v0g ts [] l rfl hp h)
theorem wb4 {but : Int} {ts : List GTask} {l r : List Bool} (hp : Pls l.length ts) (hl : r.length = l.length) (h1 : Sub l r) (h2 : rnd but 0 ts r = r) (h3 : Sound but ts (fun p => (0 ≤ p ∧ p < l.length) ∧ atB l p = true) r) {q : Int} (h0 : 0 ≤ q) (hq : q < l.length) :
    atB r q = true ↔ ∃ p : Int, ((0 ≤ p ∧ p < l.length) ∧ atB l p = true) ∧ Star but ts p q := by
  have hp' : Pls r.length ts := by rw [hl]; exact hp
  constructor
  · exact h3 q h0 (by rw [hl]; exact hq)
  · rintro ⟨p, ⟨⟨a, b⟩, c⟩, st⟩
    exact (v7y hp' (v9n hp' h2) st a (by rw [hl]; exact b) (h1 p a b c)).2
theorem wb2 {but : Int} {ts : List GTask} (l : List Bool) : Sound but ts (fun p => (0 ≤ p ∧ p < l.length) ∧ atB l p = true) l := fun q h0 h1 h => ⟨q, ⟨⟨h0, h1⟩, h⟩, .refl q⟩
end Go.Am.Pl
end
section
namespace Go.Am.Pl
open Go
theorem scanE {α β σ : Type} (l : List α) (hl : l.length ≤ SMALL) (f : Nat → Int → σ → Option β) (kx : σ → Option β) (Inv : List α → σ → Prop)
    (h0 : ∀ n s, f (n + 1) (l.length : Int) s = kx s)
    (h1 : ∀ n pre x suf s, l = pre ++ x :: suf → getI l (pre.length : Int) = some x → x ∈ l → ((pre.length : Int) < (l.length : Int)) → ok64 ((pre.length : Int) + 1) → Inv pre s →
      ∃ s', Inv (pre ++ [x]) s' ∧ f (n + 1) (pre.length : Int) s = f n ((pre.length : Int) + 1) s') :
    ∀ s, Inv [] s → ∃ s', Inv l s' ∧ f FUEL 0 s = kx s' := by
  unfold SMALL at hl
  have key : ∀ suf pre n s, l = pre ++ suf → Inv pre s → suf.length < n → ∃ s', Inv l s' ∧ f n (pre.length : Int) s = kx s' := by
    intro suf
    induction suf with
    | nil =>
      intro pre n s hp hi hn
      obtain ⟨m, rfl⟩ : ∃ m, n = m + 1 := ⟨n - 1, by simp at hn; omega⟩
      simp only [List.append_nil] at hp
      subst hp
      exact ⟨s, hi, h0 m s⟩
    | cons x suf ih =>
      intro pre n s hp hi hn
      obtain ⟨m, rfl⟩ : ∃ m, n = m + 1 := ⟨n - 1, by simp at hn; omega⟩
      have hlen : l.length = pre.length + suf.length + 1 := by rw [hp]; simp; omega
      obtain ⟨s', hi', e⟩ := h1 m pre x suf s hp (by rw [hp]; exact wj2 pre x suf) (by rw [hp]; simp) (by omega) (by constructor <;> omega) hi
      obtain ⟨s2, hi2, e2⟩ := ih (pre ++ [x]) m s' (by rw [hp]; simp) hi' (by simp at hn; omega)
      refine ⟨s2, hi2, ?_⟩
      rw [e, ← e2]; simp
  intro s hi
  exact key l [] FUEL s (by simp) hi (by have := z2i; omega)
theorem vo5 {n : GNet} {i : Int} {t : GTask} {l : List Bool} (kx : Bool → Option (List Bool)) (h : getI n.tasks i = some t) (hs : t.in_.length ≤ SMALL) (hp : ∀ p ∈ t.in_, 0 ≤ p ∧ p < l.length) :
    z23 n i l kx FUEL false 0 = kx (t.in_.any (atB l)) :=
  scan t.in_ (by unfold SMALL at hs; omega) (fun f k s => z23 n i l kx f s k) (fun _ suf s => kx (s || suf.any (atB l))) (fun _ _ => True)
    (fun f s _ => by rw [z23, h, Option.bind_some, if_neg (by simp)]; simp)
    (fun f pre x suf s a b c d _ k => by
      have hx := hp x (by rw [a]; simp)
      rw [z23, h, Option.bind_some, if_pos (decide_eq_true c)]
      cases s
      · rw [if_neg (by simp), Option.bind_some, b, Option.bind_some, zs1 l hx.1 hx.2, Option.bind_some, z00 d, k _ trivial]; simp
      · rw [if_pos rfl, z00 d, k _ trivial]; simp) FUEL false trivial (by have := z2i; unfold SMALL at hs; omega)
theorem vl1 {n : GNet} {but i : Int} {t : GTask} {s : Bool} {l : List Bool} (kx : List Bool → Option (List Bool)) (h : getI n.tasks i = some t) (hs : t.out.length ≤ SMALL) (hp : ∀ f ∈ t.out, 0 ≤ f.to ∧ f.to < l.length) :
    z1i n but i s kx kx kx FUEL 0 l = kx (if i ≠ but ∧ s = true then setTs l (t.out.map (·.to)) else l) := by
  obtain ⟨g, hF⟩ : ∃ g, FUEL = g + 1 := ⟨FUEL - 1, by have := z2i; omega⟩
  by_cases hb : i = but
  · rw [hF, z1i, h, Option.bind_some]
    cases s <;> simp [hb]
  · cases s
    · rw [hF, z1i, h, Option.bind_some]; simp
    · rw [if_pos ⟨hb, rfl⟩]
      exact scan t.out (by unfold SMALL at hs; omega) (z1i n but i true kx kx kx) (fun _ suf l => kx (setTs l (suf.map (·.to)))) (fun _ l2 => l2.length = l.length)
        (fun f s _ => by rw [z1i, h, Option.bind_some, if_neg (by simp)]; rfl)
        (fun f pre x suf s a b c d hi k => by
          have hx := hp x (by rw [a]; simp)
          rw [z1i, h, Option.bind_some, if_pos (decide_eq_true c), if_pos rfl, if_neg (by simpa using hb), Option.bind_some, b, Option.bind_some, zs1 s hx.1 (by rw [hi]; exact hx.2), Option.bind_some, z00 d]
          exact k _ (by rw [← hi, ← zh5 s x.to]; rfl)) FUEL l rfl (by have := z2i; unfold SMALL at hs; omega)
theorem w34 {n : GNet} (h : netB n = true) {N : Nat} (hN : (N : Int) = n.places) : Pls N n.tasks := fun t ht => by
  have T := z6d h ht
  refine ⟨fun p hp => by have := T.ins p hp; omega, fun f hf => ?_⟩
  have := wk8 h ht f hf; omega
theorem wp3 {n : GNet} {l : List Bool} (but : Int) (hn : n.small) (h : netB n = true) (hl : (l.length : Int) = n.places) : zg3 n l but = some (iter but n.tasks l.length l) := by
  have hsz := z5k h
  have hP := w34 h hl
  unfold zg3
  rw [z00 (by simp; unfold SMALL; omega), List.nil_append]
  have round : ∀ (kx : List Bool → Option (List Bool)) (s : List Bool), s.length = l.length → z0j n but kx FUEL 0 s = kx (rnd but 0 n.tasks s) := fun kx s hs =>
    scan n.tasks (by have := hn.1; unfold SMALL at this; omega) (z0j n but kx) (fun pre suf s => kx (rnd but pre.length suf s)) (fun _ s => s.length = l.length)
      (fun f s _ => by rw [z0j, if_neg (by simp)]; rfl)
      (fun f pre x suf s a b c d hi k => by
        have hx : x ∈ n.tasks := by rw [a]; simp
        have hx2 := hP x hx
        rw [z0j, if_pos (decide_eq_true c), vo5 _ b (hn.2 x hx).1 (by rw [hi]; exact hx2.1)]
        unfold y03
        have e2 : zg4 (pre.length : Int) (z0j n but kx f) = fun z => z0j n but kx f ((pre.length : Int) + 1) z := funext fun z => by unfold zg4; rw [z00 d]
        have e3 : zg5 (pre.length : Int) (z0j n but kx f) = fun z => z0j n but kx f ((pre.length : Int) + 1) z := funext fun z => by unfold zg5; rw [z00 d]
        have e4 : zg6 (pre.length : Int) (z0j n but kx f) = fun z => z0j n but kx f ((pre.length : Int) + 1) z := funext fun z => by unfold zg6; rw [z00 d]
        rw [e2, e3, e4, vl1 _ b (hn.2 x hx).2.1 (by rw [hi]; exact hx2.2)]
        have := k (rndT but pre.length x s) (by rw [zh4, hi])
        rw [rnd]
        rw [List.length_append, List.length_singleton] at this
        exact this) FUEL s hs (by have := z2i; have := hn.1; unfold SMALL at this; omega)
  have hrep : (List.replicate l.length ()).length = l.length := by simp
  have := scan (List.replicate l.length ()) (by rw [hrep]; omega) (z4l n but y05) (fun _ suf s => some (iter but n.tasks suf.length s)) (fun _ s => s.length = l.length)
      (fun f s _ => by rw [z4l, hrep, if_neg (by simp; omega)]; rfl)
      (fun f pre x suf s a b c d hi k => by
        rw [hrep] at c
        rw [z4l, if_pos (by simp; omega), round _ s hi]
        unfold y04
        rw [z00 d]
        exact k _ (by rw [zl0, hi])) FUEL l rfl (by have := z2i; rw [hrep]; omega)
  rw [this, hrep]
theorem v7w {l : List Bool} {p : Int} (h0 : 0 ≤ p) (h1 : p < l.length) (h : atB l p = true) : setT l p = l :=
  v8b (zh5 l p) (fun q a b c => by
    rw [zh5] at b
    rw [yv6 l h0 a b] at c
    rcases Bool.or_eq_true _ _ ▸ c with c | c
    · rw [decide_eq_true_eq] at c; subst c; exact h
    · exact c) (fun q a b c => by rw [yv6 l h0 a b, c, Bool.or_true])
theorem vk8 {l : List Bool} {p : Int} {ps : List Int} (hp : ∀ x ∈ ps, 0 ≤ x) (h0 : 0 ≤ p) (h1 : p < l.length) (h : atB l p = false) : setTs (setT l p) ps ≠ l := fun e => by
  have h2 := wc0 ps (setT l p) hp h0 (by rw [zh5]; exact h1)
  rw [e, h, yv6 l h0 h0 h1] at h2
  simp at h2
theorem v7p (ps : List GFlow) (hs : ps.length ≤ SMALL) (kx : Bool → List Bool → Option (List Bool)) (c0 : Bool) (l0 : List Bool) (hp : ∀ f ∈ ps, 0 ≤ f.to ∧ f.to < l0.length) :
    z0k ps (ps.length : Int) kx FUEL 0 c0 l0 = kx (c0 || !decide (setTs l0 (ps.map (·.to)) = l0)) (setTs l0 (ps.map (·.to))) :=
  scan ps (by unfold SMALL at hs; omega) (fun n i (s : Bool × List Bool) => z0k ps (ps.length : Int) kx n i s.1 s.2) (fun _ suf s => kx (s.1 || !decide (setTs s.2 (suf.map (·.to)) = s.2)) (setTs s.2 (suf.map (·.to)))) (fun _ s => s.2.length = l0.length)
    (fun n s _ => by rw [z0k, if_neg (by simp)]; simp [setTs])
    (fun n pre x suf s a b c d hi k => by
      obtain ⟨s1, s2⟩ := s
      have hx := hp x (by rw [a]; simp)
      have hx2 : x.to < s2.length := by rw [hi]; exact hx.2
      have hg := zs1 s2 hx.1 hx2
      have hm : ∀ y ∈ suf.map (·.to), 0 ≤ y := fun y hy => by obtain ⟨f, hf, e⟩ := List.mem_map.1 hy; subst e; exact (hp f (by rw [a]; simp [hf])).1
      show z0k ps (ps.length : Int) kx (n + 1) (pre.length : Int) s1 s2 = kx (s1 || !decide (setTs (setT s2 x.to) (suf.map (·.to)) = s2)) (setTs (setT s2 x.to) (suf.map (·.to)))
      rw [z0k, if_pos (decide_eq_true c), b, Option.bind_some]
      have fin : ∀ b2 : Bool, (b2 || !decide (setTs (setT s2 x.to) (suf.map (·.to)) = setT s2 x.to)) = (s1 || !decide (setTs (setT s2 x.to) (suf.map (·.to)) = s2)) → z0k ps (ps.length : Int) kx n ((pre.length : Int) + 1) b2 (s2.set x.to.toNat true) = kx (s1 || !decide (setTs (setT s2 x.to) (suf.map (·.to)) = s2)) (setTs (setT s2 x.to) (suf.map (·.to))) := fun b2 hb => by
        have := k (b2, setT s2 x.to) (by show (setT s2 x.to).length = _; rw [zh5, hi])
        rw [← hb]; exact this
      cases s1
      · rw [if_neg (by simp), hg, Option.bind_some, Option.bind_some, z00 d]
        refine fin _ ?_
        cases e : atB s2 x.to
        · simp [vk8 hm hx.1 hx2 e]
        · rw [v7w hx.1 hx2 e]; rfl
      · rw [if_pos rfl, hg, Option.bind_some, z00 d]
        exact fin _ (by simp)) FUEL (c0, l0) rfl (by have := z2i; unfold SMALL at hs; omega)
theorem ContainsB (s : List Int) (hs : s.length ≤ SMALL) (l : List Bool) (hp : ∀ p ∈ s, 0 ≤ p ∧ p < l.length) : z2e s (fun z => z67 z l) = some (s.any (atB l)) :=
  z9j s hs _ (atB l) (fun x hx => by unfold z67; rw [zs1 l (hp x hx).1 (hp x hx).2]; rfl)
theorem w66 {n : GNet} {N : Nat} (but : Int) (hn : n.small) (hP : Pls N n.tasks) (kx : Bool → List Bool → Option (List Bool)) (l0 : List Bool) (hl : l0.length = N) :
    z0d but kx FUEL n.tasks (n.tasks.length : Int) 0 false l0 = kx (!decide (rnd but 0 n.tasks l0 = l0)) (rnd but 0 n.tasks l0) := by
  have := scan n.tasks (by have := hn.1; unfold SMALL at this; omega) (fun f i (s : Bool × List Bool) => z0d but kx f n.tasks (n.tasks.length : Int) i s.1 s.2)
    (fun pre suf s => kx (s.1 || !decide (rnd but pre.length suf s.2 = s.2)) (rnd but pre.length suf s.2)) (fun _ s => s.2.length = N)
    (fun f s _ => by rw [z0d, if_neg (by simp)]; simp [rnd])
    (fun f pre x suf s a b c d hi k => by
      obtain ⟨s1, s2⟩ := s
      have hi2 : s2.length = N := hi
      have hx : x ∈ n.tasks := by rw [a]; simp
      have hx2 := hP x hx
      have hsuf : Pls (rndT but pre.length x s2).length suf := by rw [zh4, hi2]; exact fun y hy => hP y (by rw [a]; simp [hy])
      have fin : ∀ b2 : Bool, b2 = (s1 || !decide (rndT but pre.length x s2 = s2)) → z0d but kx f n.tasks (n.tasks.length : Int) ((pre.length : Int) + 1) b2 (rndT but pre.length x s2) = kx (s1 || !decide (rnd but pre.length (x :: suf) s2 = s2)) (rnd but pre.length (x :: suf) s2) := fun b2 hb => by
        have h2 := k (b2, rndT but pre.length x s2) (by show (rndT but pre.length x s2).length = _; rw [zh4, hi2])
        rw [List.length_append, List.length_singleton] at h2
        have h3 : z0d but kx f n.tasks (n.tasks.length : Int) ((pre.length : Int) + 1) b2 (rndT but pre.length x s2) = kx (b2 || !decide (rnd but (pre.length + 1) suf (rndT but pre.length x s2) = rndT but pre.length x s2)) (rnd but (pre.length + 1) suf (rndT but pre.length x s2)) := h2
        rw [h3, rnd, hb]
        congr 1
        by_cases e : rndT but pre.length x s2 = s2
        · rw [e]; simp
        · have : rnd but (pre.length + 1) suf (rndT but pre.length x s2) ≠ s2 := fun e2 => e (by
            have h4 := ym3 (but := but) suf (pre.length + 1) (rndT but pre.length x s2) hsuf
            rw [e2] at h4
            exact v8b (zh4 _ _ _ _) h4 (wp1 (by rw [hi2]; exact hx2.2)))
          simp [e, this]
      show z0d but kx (f + 1) n.tasks (n.tasks.length : Int) (pre.length : Int) s1 s2 = kx (s1 || !decide (rnd but pre.length (x :: suf) s2 = s2)) (rnd but pre.length (x :: suf) s2)
      rw [z0d, if_pos (decide_eq_true c), b, Option.bind_some]
      by_cases hb : (pre.length : Int) = but
      · have e : rndT but pre.length x s2 = s2 := by unfold rndT; rw [if_neg (fun h => h.1 hb)]
        rw [if_pos (decide_eq_true hb), z00 d]
        have := fin s1 (by rw [e]; simp)
        rw [e] at this; exact this
      · rw [if_neg (by simpa using hb), ContainsB x.in_ (hn.2 x hx).1 s2 (by rw [hi2]; exact hx2.1), Option.bind_some]
        by_cases ha : x.in_.any (atB s2) = true
        · have e : rndT but pre.length x s2 = setTs s2 (x.out.map (·.to)) := by unfold rndT; rw [if_pos ⟨hb, ha⟩]
          rw [if_pos ha, v7p x.out (hn.2 x hx).2.1 _ s1 s2 (by rw [hi2]; exact hx2.2)]
          unfold zi8
          rw [z00 d, ← e]
          exact fin _ rfl
        · have e : rndT but pre.length x s2 = s2 := by unfold rndT; rw [if_neg (fun h => ha h.2)]
          rw [if_neg ha, z00 d]
          have := fin s1 (by rw [e]; simp)
          rw [e] at this; exact this) FUEL (false, l0) hl (by have := z2i; have := hn.1; unfold SMALL at this; omega)
  simpa using this
theorem v4u {n : GNet} {N : Nat} (but : Int) (hn : n.small) (hP : Pls N n.tasks) (kx : List Bool → Option (List Bool)) : ∀ (K : Nat) (l : List Bool) (f : Nat), l.length = N → N ≤ cntT l + K → K + 2 ≤ f →
    z0z n but kx f true l = kx (iter but n.tasks K l) := by
  intro K
  induction K with
  | zero =>
    intro l f hl hc hf
    obtain ⟨g, rfl⟩ : ∃ g, f = g + 2 := ⟨f - 2, by omega⟩
    rw [z0z, if_pos rfl, w66 but hn hP _ l hl]
    unfold z85
    have e : rnd but 0 n.tasks l = l := w31 (but := but) (ts := n.tasks) 0 l (by rw [hl]; exact hP) (by rw [hl]; exact hc)
    rw [e, decide_eq_true rfl, z0z, if_neg (by simp)]; rfl
  | succ K ih =>
    intro l f hl hc hf
    obtain ⟨g, rfl⟩ : ∃ g, f = g + 2 := ⟨f - 2, by omega⟩
    rw [z0z, if_pos rfl, w66 but hn hP _ l hl]
    unfold z85
    by_cases e : rnd but 0 n.tasks l = l
    · rw [e, decide_eq_true rfl, z0z, if_neg (by simp), w4z e]
    · rw [decide_eq_false e]
      have hs := ym3 (but := but) n.tasks 0 l (by rw [hl]; exact hP)
      obtain ⟨h1, h2⟩ := v2m (zl0 but n.tasks 0 l).symm hs
      have h4 : cntT l ≠ cntT (rnd but 0 n.tasks l) := fun e2 => e (h2 e2).symm
      exact ih (rnd but 0 n.tasks l) (g + 1) (by rw [zl0, hl]) (by omega) (by omega)
def oneT (N : Nat) (p : Int) : List Bool := setT (List.replicate N false) p
theorem v4l {n : GNet} (p but : Int) (hn : n.small) (h : netB n = true) (h0 : 0 ≤ p) (h1 : p < n.places) : z7h n p but = some (iter but n.tasks n.places.toNat (oneT n.places.toNat p)) := by
  have hsz := z5k h
  unfold z7h
  rw [z00 (by omega), zs1 (List.replicate n.places.toNat false) h0 (by simp; omega), Option.bind_some]
  have hl : (oneT n.places.toNat p).length = n.places.toNat := by unfold oneT; rw [zh5]; simp
  exact (v4u but hn (w34 h (by omega)) zi9 n.places.toNat (oneT n.places.toNat p) FUEL hl (by omega) (by have := z2i; omega))
theorem v5h (N : Nat) (q : Int) : atB (List.replicate N false) q = false := by
  unfold atB getI
  split
  · cases e : (List.replicate N false)[q.toNat]? with
    | none => rfl
    | some v =>
      have := List.mem_of_getElem? e
      rw [List.mem_replicate] at this
      simp [this.2]
  · rfl
theorem v7b {N : Nat} {p q : Int} (hp : 0 ≤ p) (hq : 0 ≤ q) (h : q < N) : atB (oneT N p) q = decide (p = q) := by
  unfold oneT; rw [yv6 _ hp hq (by simpa using h), v5h, Bool.or_false]
theorem v0f {n : GNet} {p but q : Int} (h : netB n = true) (h0 : 0 ≤ p) (h1 : p < n.places) (g0 : 0 ≤ q) (g1 : q < n.places) :
    atB (iter but n.tasks n.places.toNat (oneT n.places.toNat p)) q = true ↔ Star but n.tasks p q := by
  have hsz := z5k h
  have hl : (oneT n.places.toNat p).length = n.places.toNat := by unfold oneT; rw [zh5]; simp
  have hP : Pls (oneT n.places.toNat p).length n.tasks := w34 h (by rw [hl]; omega)
  rw [wb4 hP (by rw [yq3]) (wk5 _ _ hP) (w31 _ _ hP (by rw [hl]; omega)) (yx7 _ _ hP (wb2 _)) g0 (by rw [hl]; omega)]
  constructor
  · rintro ⟨x, ⟨⟨a, b⟩, c⟩, st⟩
    rw [hl] at b
    rw [v7b h0 a b, decide_eq_true_eq] at c
    subst c; exact st
  · intro st
    exact ⟨p, ⟨⟨h0, by rw [hl]; omega⟩, by rw [v7b h0 h0 (by omega)]; simp⟩, st⟩
theorem v56 {n : GNet} {l : List Bool} {but q : Int} (h : netB n = true) (hl : (l.length : Int) = n.places) (g0 : 0 ≤ q) (g1 : q < n.places) :
    atB (iter but n.tasks l.length l) q = true ↔ ∃ p, (0 ≤ p ∧ p < n.places) ∧ atB l p = true ∧ Star but n.tasks p q := by
  have hP : Pls l.length n.tasks := w34 h hl
  rw [wb4 hP (by rw [yq3]) (wk5 _ _ hP) (w31 _ _ hP (by omega)) (yx7 _ _ hP (wb2 _)) g0 (by omega)]
  constructor
  · rintro ⟨x, ⟨⟨a, b⟩, c⟩, st⟩; exact ⟨x, ⟨a, by omega⟩, c, st⟩
  · rintro ⟨x, ⟨a, b⟩, c, st⟩; exact ⟨x, ⟨⟨a, by omega⟩, c⟩, st⟩
end Go.Am.Pl
end
section
namespace Go.Am.Pl
open Go
def srcB (n : GNet) (marks : List Int) (busy : List GItem) (ins : List Int) (p : Int) : Bool :=
  (decide (0 < atI marks p) && !ins.any (fun x => decide (x = p))) || busy.any (fun b => (atI n.tasks b.task).out.any (fun f => decide (f.to = p)))
def Coming (n : GNet) (marks : List Int) (busy : List GItem) (t : Int) : Prop :=
  ∃ q ∈ (atI n.tasks t).in_, atI marks q = 0 ∧ ∃ p : Int, (0 ≤ p ∧ p < n.places) ∧ srcB n marks busy (atI n.tasks t).in_ p = true ∧ Star t n.tasks p q
noncomputable def comB (n : GNet) (marks : List Int) (busy : List GItem) (t : Int) : Bool := @decide (Coming n marks busy t) (Classical.propDecidable _)
theorem v9k {n : GNet} {marks : List Int} {busy : List GItem} {t : Int} : comB n marks busy t = true ↔ Coming n marks busy t := by unfold comB; exact @decide_eq_true_iff _ (Classical.propDecidable _)
theorem v5r {n : GNet} {marks : List Int} {busy : List GItem} {t : Int} {b : Bool} (h : b = true ↔ Coming n marks busy t) : b = comB n marks busy t := by
  rw [Bool.eq_iff_iff, h, v9k]
structure MB (n : GNet) (m : List Int) (busy : List GItem) : Prop where
  net : netB n = true
  len : (m.length : Int) = n.places
  mks : ∀ x ∈ m, 0 ≤ x ∧ x ≤ 4
  busyl : busy.length ≤ 6
  busy : ∀ b ∈ busy, (0 ≤ b.task ∧ b.task < n.tasks.length)
theorem mb_of {n : GNet} {m : List Int} {busy : List GItem} (h1 : mrkB n m = true) (h2 : busyB n busy = true) : MB n m busy := by
  obtain ⟨a, b, c⟩ := z82 h1
  simp only [busyB, itemB, Bool.and_eq_true, List.all_eq_true, z0b, decide_eq_true_eq] at h2
  exact ⟨a, b, zk8.1 c, by omega, fun x hx => by have := h2.2 x hx; omega⟩
theorem wp4 {n : GNet} {marks : List Int} {busy : List GItem} {t : Int} (hn : n.small) (M : MB n marks busy) (t0 : 0 ≤ t) (t1 : t < n.tasks.length) : zg8 n marks busy t = some (comB n marks busy t) := by
  have hsz := z5k M.net
  have hml := M.len
  have hg := z0g n.tasks t0 t1
  have hm := z29 n.tasks t0 t1
  have T := z6d M.net hm
  have hsm := hn.2 _ hm
  generalize hins : (atI n.tasks t).in_ = ins at *
  unfold zg8
  rw [z00 (by omega)]
  obtain ⟨s1, ⟨hl1, hv1⟩, e1⟩ := scanE marks (by unfold SMALL; omega) (z25 n marks t (z4m n marks busy t)) (z4m n marks busy t)
    (fun pre s => (s.length : Int) = n.places ∧ ∀ q : Int, 0 ≤ q → q < n.places → atB s q = (decide (q < pre.length) && (decide (0 < atI marks q) && !ins.any (fun x => decide (x = q)))))
    (fun f s => by rw [z25, if_neg (by simp; omega)])
    (fun f pre x suf s a b c d g hi => by
      have hx : 0 ≤ (pre.length : Int) ∧ (pre.length : Int) < n.places := by omega
      have hgs := zs1 s hx.1 (by omega)
      have hat : atI marks pre.length = x := by unfold atI; rw [b]; rfl
      have inv : ∀ v : Bool, v = (decide (0 < x) && !ins.any (fun y => decide (y = (pre.length : Int)))) → ((s.set (pre.length : Int).toNat v).length : Int) = n.places ∧ ∀ q : Int, 0 ≤ q → q < n.places → atB (s.set (pre.length : Int).toNat v) q = (decide (q < (pre ++ [x]).length) && (decide (0 < atI marks q) && !ins.any (fun x => decide (x = q)))) := fun v hv => by
        refine ⟨by rw [List.length_set]; exact hi.1, fun q q0 q1 => ?_⟩
        have e : atB (s.set (pre.length : Int).toNat v) q = if (pre.length : Int) = q then v else atB s q := by
          unfold atB; rw [yq1 s v hx.1 q0 (by omega)]
          split <;> rfl
        rw [e]
        by_cases h : (pre.length : Int) = q
        · rw [if_pos h, ← h, hat, hv]
          have : decide ((pre.length : Int) < (((pre ++ [x]).length : Nat) : Int)) = true := by simp; omega
          rw [this, Bool.true_and]
        · rw [if_neg h, hi.2 q q0 q1]
          have : decide (q < (pre.length : Int)) = decide (q < (((pre ++ [x]).length : Nat) : Int)) := decide_eq_decide.2 (by simp; omega)
          rw [this]
      rw [z25, if_pos (decide_eq_true (by omega)), b, Option.bind_some]
      by_cases h : 0 < x
      · rw [if_pos (decide_eq_true h), hg, Option.bind_some, hins, yz9 _ _ (hins ▸ hsm.1), Option.bind_some, hgs, Option.bind_some, z00 g]
        exact ⟨_, inv _ (by simp [h]), rfl⟩
      · rw [if_neg (by simpa using h), hgs, Option.bind_some, z00 g]
        exact ⟨_, inv _ (by simp [h]), rfl⟩)
    (List.replicate n.places.toNat false) ⟨by simp; omega, fun q q0 q1 => by rw [v5h]; simp; omega⟩
  have e1' : z25 n marks t (z4m n marks busy t) FUEL 0 (List.replicate n.places.toNat false) = z4m n marks busy t s1 := e1
  rw [e1']
  unfold z4m
  obtain ⟨s2, ⟨hl2, hv2⟩, e2⟩ := scanE busy (by have := M.busyl; unfold SMALL; omega) (z16 n busy (z24 n marks t)) (z24 n marks t)
    (fun pre s => (s.length : Int) = n.places ∧ ∀ q : Int, 0 ≤ q → q < n.places → atB s q = ((decide (0 < atI marks q) && !ins.any (fun x => decide (x = q))) || pre.any (fun b => (atI n.tasks b.task).out.any (fun f => decide (f.to = q)))))
    (fun f s => by rw [z16, if_neg (by simp)])
    (fun f pre x suf s a b c d g hi => by
      have hb := M.busy x c
      have hxm := z29 n.tasks hb.1 hb.2
      have hto := wk8 M.net hxm
      rw [z16, if_pos (decide_eq_true d), b, Option.bind_some, z0g n.tasks hb.1 hb.2, Option.bind_some]
      obtain ⟨s3, ⟨hl3, hv3⟩, e3⟩ := scanE (atI n.tasks x.task).out (hn.2 _ hxm).2.1 (z30 (atI n.tasks x.task).out (z4n pre.length (z16 n busy (z24 n marks t) f))) (z4n pre.length (z16 n busy (z24 n marks t) f))
        (fun pr z => (z.length : Int) = n.places ∧ ∀ q : Int, 0 ≤ q → q < n.places → atB z q = (pr.any (fun f => decide (f.to = q)) || atB s q))
        (fun f s => by rw [z30, if_neg (by simp)])
        (fun f pr y sf z a2 b2 c2 d2 g2 hi2 => by
          have hy := hto y c2
          rw [z30, if_pos (decide_eq_true d2), b2, Option.bind_some, zs1 z (by omega) (by omega), Option.bind_some, z00 g2]
          refine ⟨setT z y.to, ⟨by rw [zh5]; exact hi2.1, fun q q0 q1 => ?_⟩, rfl⟩
          rw [yv6 z (by omega) q0 (by omega), hi2.2 q q0 q1, List.any_append, List.any_cons, List.any_nil, Bool.or_false]
          generalize decide (y.to = q) = u; generalize (pr.any fun f => decide (f.to = q)) = v; generalize atB s q = w
          cases u <;> cases v <;> cases w <;> rfl) s ⟨hi.1, fun q _ _ => by simp⟩
      refine ⟨s3, ⟨hl3, fun q q0 q1 => ?_⟩, ?_⟩
      · rw [hv3 q q0 q1, hi.2 q q0 q1, List.any_append, List.any_cons, List.any_nil, Bool.or_false]
        cases (List.any (atI n.tasks x.task).out fun f => decide (f.to = q)) <;> simp
      · have : z30 (atI n.tasks x.task).out (z4n pre.length (z16 n busy (z24 n marks t) f)) FUEL 0 s = z4n pre.length (z16 n busy (z24 n marks t) f) s3 := e3
        rw [this]; unfold z4n; rw [z00 g])
    s1 ⟨hl1, fun q q0 q1 => by rw [hv1 q q0 q1, decide_eq_true (by omega)]; simp⟩
  rw [e2]
  unfold z24
  rw [wp3 t hn M.net hl2, Option.bind_some]
  generalize hr : iter t n.tasks s2.length s2 = r
  have hrl : (r.length : Int) = n.places := by rw [← hr, yq3]; exact hl2
  have hri : ∀ q : Int, 0 ≤ q → q < n.places → (atB r q = true ↔ ∃ p : Int, (0 ≤ p ∧ p < n.places) ∧ srcB n marks busy ins p = true ∧ Star t n.tasks p q) := fun q q0 q1 => by
    rw [← hr, v56 M.net hl2 q0 q1]
    constructor
    · rintro ⟨p, a, b, c⟩; rw [hv2 p a.1 a.2] at b; exact ⟨p, a, b, c⟩
    · rintro ⟨p, a, b, c⟩; exact ⟨p, a, by rw [hv2 p a.1 a.2]; exact b, c⟩
  have hin : ∀ p ∈ ins, 0 ≤ p ∧ p < n.places := fun p hp => by have := T.ins p (hins ▸ hp); omega
  have fin : z26 n marks t r zg9 FUEL 0 = some (ins.any (fun q => decide (atI marks q = 0) && atB r q)) :=
    scan0 ins (by have := hins ▸ hsm.1; unfold SMALL at this; omega) (z26 n marks t r zg9) (fun _ suf => some (suf.any (fun q => decide (atI marks q = 0) && atB r q)))
      (fun f => by rw [z26, hg, Option.bind_some, hins, if_neg (by simp)]; rfl)
      (fun f pre x suf a b c d ih => by
        have hx := hin x (by rw [a]; simp)
        rw [z26, hg, Option.bind_some, hins, if_pos (decide_eq_true c), Option.bind_some, hins, b, Option.bind_some, z0g marks hx.1 (by have := M.len; omega), Option.bind_some, List.any_cons]
        by_cases h : atI marks x = 0
        · rw [if_pos (decide_eq_true h), Option.bind_some, hins, b, Option.bind_some, zs1 r hx.1 (by omega), Option.bind_some, z00 d, ih]
          cases atB r x <;> simp [h]
        · rw [if_neg (by simpa using h), z00 d, ih]; simp [h])
  rw [fin]
  congr 1
  refine v5r ?_
  unfold Coming
  rw [hins, List.any_eq_true]
  constructor
  · rintro ⟨q, hq, h⟩
    rw [Bool.and_eq_true, decide_eq_true_eq] at h
    exact ⟨q, hq, h.1, (hri q (hin q hq).1 (hin q hq).2).1 h.2⟩
  · rintro ⟨q, hq, h, h2⟩
    exact ⟨q, hq, by rw [Bool.and_eq_true, decide_eq_true_eq]; exact ⟨h, (hri q (hin q hq).1 (hin q hq).2).2 h2⟩⟩
theorem wx4 {n : GNet} {marks : List Int} {busy : List GItem} {t : Int} (hn : n.small) (M : MB n marks busy) (t0 : 0 ≤ t) (t1 : t < n.tasks.length) : z66 n marks busy t = some (comB n marks busy t) := by
  have hsz := z5k M.net
  have hml := M.len
  have hg := z0g n.tasks t0 t1
  have hm := z29 n.tasks t0 t1
  have T := z6d M.net hm
  have hsm := hn.2 _ hm
  unfold z66
  rw [hg, Option.bind_some]
  generalize hins : (atI n.tasks t).in_ = ins at *
  have hsl0 : ins.length ≤ SMALL := hins ▸ hsm.1
  obtain ⟨s1, ⟨hl1, hv1⟩, e1⟩ := scanE marks (by unfold SMALL; omega) (z0p marks ins (marks.length : Int) (z4i n busy t ins marks)) (z4i n busy t ins marks)
    (fun pre s => s.length ≤ pre.length ∧ ∀ q : Int, q ∈ s ↔ (0 ≤ q ∧ q < pre.length) ∧ (decide (0 < atI marks q) && !ins.any (fun x => decide (x = q))) = true)
    (fun f s => by rw [z0p, if_neg (by simp)])
    (fun f pre x suf s a b c d g hi => by
      have hat : atI marks pre.length = x := by unfold atI; rw [b]; rfl
      have hsl : s.length + [(pre.length : Int)].length ≤ SMALL := by rw [List.length_singleton]; unfold SMALL; omega
      have sym : ins.any (fun y => decide ((pre.length : Int) = y)) = ins.any (fun y => decide (y = (pre.length : Int))) := by congr 1; funext y; exact decide_eq_decide.2 ⟨Eq.symm, Eq.symm⟩
      have no : (decide (0 < x) && !ins.any (fun y => decide (y = (pre.length : Int)))) = false → s.length ≤ (pre ++ [x]).length ∧ ∀ q : Int, q ∈ s ↔ (0 ≤ q ∧ q < (pre ++ [x]).length) ∧ (decide (0 < atI marks q) && !ins.any (fun x => decide (x = q))) = true := fun h => by
        refine ⟨by simp; omega, fun q => ?_⟩
        rw [hi.2 q]
        constructor
        · rintro ⟨⟨u, v⟩, w⟩; exact ⟨⟨u, by simp; omega⟩, w⟩
        · rintro ⟨⟨u, v⟩, w⟩
          refine ⟨⟨u, ?_⟩, w⟩
          simp at v
          by_cases e : q = pre.length
          · rw [e, hat, h] at w; cases w
          · omega
      rw [z0p, if_pos (decide_eq_true d), b, Option.bind_some]
      by_cases h : 0 < x
      · rw [if_pos (decide_eq_true h), yu5 _ hsl0, Option.bind_some, sym]
        by_cases h2 : ins.any (fun y => decide (y = (pre.length : Int))) = true
        · rw [if_pos h2, z00 g]
          exact ⟨s, no (by rw [h2]; simp), rfl⟩
        · rw [if_neg h2, z00 hsl, z00 g]
          refine ⟨_, ⟨by simp; exact hi.1, fun q => ?_⟩, rfl⟩
          rw [List.mem_append, List.mem_singleton, hi.2 q]
          constructor
          · rintro (⟨⟨u, v⟩, w⟩ | rfl)
            · exact ⟨⟨u, by simp; omega⟩, w⟩
            · exact ⟨⟨by omega, by simp; omega⟩, by rw [hat, Bool.eq_false_iff.2 h2]; simp [h]⟩
          · rintro ⟨⟨u, v⟩, w⟩
            simp at v
            by_cases e : q = pre.length
            · exact .inr e
            · exact .inl ⟨⟨u, by omega⟩, w⟩
      · rw [if_neg (by simpa using h), z00 g]
        exact ⟨s, no (by simp [h]), rfl⟩)
    [] ⟨by simp, fun q => by simp; omega⟩
  rw [e1]
  unfold z4i
  obtain ⟨s2, ⟨hl2, hv2⟩, e2⟩ := scanE busy (by have := M.busyl; unfold SMALL; omega) (z0q n busy (z1m n t ins marks) · (busy.length : Int) · ·) (z1m n t ins marks)
    (fun pre s => s.length ≤ s1.length + 3 * pre.length ∧ ∀ q : Int, q ∈ s ↔ q ∈ s1 ∨ ∃ b ∈ pre, ∃ f ∈ (atI n.tasks b.task).out, f.to = q)
    (fun f s => by rw [z0q, if_neg (by simp)])
    (fun f pre x suf s a b c d g hi => by
      have hb := M.busy x c
      have hxm := z29 n.tasks hb.1 hb.2
      have X := z6d M.net hxm
      have hxl := X.outl
      have hpl : pre.length ≤ 6 := by have := M.busyl; omega
      rw [z0q, if_pos (decide_eq_true d), b, Option.bind_some, z0g n.tasks hb.1 hb.2, Option.bind_some]
      obtain ⟨s3, ⟨hl3, hv3⟩, e3⟩ := scanE (atI n.tasks x.task).out (hn.2 _ hxm).2.1 (z1n (atI n.tasks x.task).out ((atI n.tasks x.task).out.length : Int) (z4j (busy.length : Int) pre.length (z0q n busy (z1m n t ins marks) f))) (z4j (busy.length : Int) pre.length (z0q n busy (z1m n t ins marks) f))
        (fun pr z => z.length ≤ s.length + pr.length ∧ ∀ q : Int, q ∈ z ↔ q ∈ s ∨ ∃ f ∈ pr, f.to = q)
        (fun f s => by rw [z1n, if_neg (by simp)])
        (fun f pr y sf z a2 b2 c2 d2 g2 hi2 => by
          rw [z1n, if_pos (decide_eq_true d2), b2, Option.bind_some, z00 (by have := hi.1; have := hi2.1; rw [List.length_singleton]; unfold SMALL; omega), z00 g2]
          refine ⟨_, ⟨by simp; have := hi2.1; omega, fun q => ?_⟩, rfl⟩
          rw [List.mem_append, List.mem_singleton, hi2.2 q]
          constructor
          · rintro ((h | ⟨f, hf, e⟩) | rfl)
            · exact .inl h
            · exact .inr ⟨f, by simp [hf], e⟩
            · exact .inr ⟨y, by simp, rfl⟩
          · rintro (h | ⟨f, hf, e⟩)
            · exact .inl (.inl h)
            · rw [List.mem_append, List.mem_singleton] at hf
              rcases hf with hf | rfl
              · exact .inl (.inr ⟨f, hf, e⟩)
              · exact .inr e.symm) s ⟨by simp, fun q => by simp⟩
      refine ⟨s3, ⟨by have := hi.1; rw [List.length_append, List.length_singleton]; omega, fun q => ?_⟩, ?_⟩
      · rw [hv3 q, hi.2 q]
        constructor
        · rintro ((h | ⟨b, hb, h⟩) | h)
          · exact .inl h
          · exact .inr ⟨b, by simp [hb], h⟩
          · exact .inr ⟨x, by simp, h⟩
        · rintro (h | ⟨b, hb, h⟩)
          · exact .inl (.inl h)
          · rw [List.mem_append, List.mem_singleton] at hb
            rcases hb with hb | rfl
            · exact .inl (.inr ⟨b, hb, h⟩)
            · exact .inr h
      · rw [e3]; unfold z4j; rw [z00 g])
    s1 ⟨by simp, fun q => by simp⟩
  rw [e2]
  unfold z1m
  have hmem : ∀ q : Int, q ∈ s2 ↔ (0 ≤ q ∧ q < n.places) ∧ srcB n marks busy ins q = true := fun q => by
    rw [hv2 q, hv1 q]
    unfold srcB
    rw [Bool.or_eq_true, List.any_eq_true, M.len]
    constructor
    · rintro (h | ⟨b, hb, f, hf, e⟩)
      · exact ⟨h.1, .inl h.2⟩
      · have hb2 := M.busy b hb
        have hto := wk8 M.net (z29 n.tasks hb2.1 hb2.2) f hf
        exact ⟨by omega, .inr ⟨b, hb, by rw [List.any_eq_true]; exact ⟨f, hf, by simpa using e⟩⟩⟩
    · rintro ⟨h, h2 | ⟨b, hb, h2⟩⟩
      · exact .inl ⟨h, h2⟩
      · rw [List.any_eq_true] at h2
        obtain ⟨f, hf, e⟩ := h2
        exact .inr ⟨b, hb, f, hf, by simpa using e⟩
  have hin : ∀ p ∈ ins, 0 ≤ p ∧ p < n.places := fun p hp => by have := T.ins p (hins ▸ hp); omega
  have hs2 : s2.length ≤ SMALL := by have := M.busyl; unfold SMALL; omega
  have fin : z13 n t ins marks s2 (s2.length : Int) z6r FUEL 0 = some (s2.any (fun p => ins.any (fun q => decide (atI marks q = 0) && atB (iter t n.tasks n.places.toNat (oneT n.places.toNat p)) q))) :=
    scan0 s2 (by unfold SMALL at hs2; omega) (z13 n t ins marks s2 (s2.length : Int) z6r) (fun _ suf => some (suf.any (fun p => ins.any (fun q => decide (atI marks q = 0) && atB (iter t n.tasks n.places.toNat (oneT n.places.toNat p)) q))))
      (fun f => by rw [z13, if_neg (by simp)]; rfl)
      (fun f pre x suf a b c d ih => by
        have hx := (hmem x).1 (by rw [a]; simp)
        rw [z13, if_pos (decide_eq_true c), b, Option.bind_some, v4l x t hn M.net hx.1.1 hx.1.2, Option.bind_some, z9j ins hsl0 _ (fun q => decide (atI marks q = 0) && atB (iter t n.tasks n.places.toNat (oneT n.places.toNat x)) q) (fun q hq => by
          have hq2 := hin q hq
          unfold z7e
          rw [z0g marks hq2.1 (by omega), Option.bind_some, zs1 _ hq2.1 (by rw [yq3]; unfold oneT; rw [zh5]; simp; omega)]
          by_cases h : atI marks q = 0
          · rw [if_pos (decide_eq_true h)]; simp [h]
          · rw [if_neg (by simpa using h)]; simp [h]), Option.bind_some, z00 d, ih, List.any_cons]
        cases (ins.any fun q => decide (atI marks q = 0) && atB (iter t n.tasks n.places.toNat (oneT n.places.toNat x)) q) <;> simp)
  rw [fin]
  congr 1
  refine v5r ?_
  unfold Coming
  rw [hins, List.any_eq_true]
  constructor
  · rintro ⟨p, hp, h⟩
    rw [List.any_eq_true] at h
    obtain ⟨q, hq, h⟩ := h
    rw [Bool.and_eq_true, decide_eq_true_eq] at h
    have hp2 := (hmem p).1 hp
    exact ⟨q, hq, h.1, p, hp2.1, hp2.2, (v0f M.net hp2.1.1 hp2.1.2 (hin q hq).1 (hin q hq).2).1 h.2⟩
  · rintro ⟨q, hq, h, p, hp, h2, h3⟩
    refine ⟨p, (hmem p).2 ⟨hp, h2⟩, ?_⟩
    rw [List.any_eq_true]
    exact ⟨q, hq, by rw [Bool.and_eq_true, decide_eq_true_eq]; exact ⟨h, (v0f M.net hp.1 hp.2 (hin q hq).1 (hin q hq).2).2 h3⟩⟩
def someB (marks : List Int) (l : List Int) : Bool := l.any (fun p => decide (0 < atI marks p))
def allB (marks : List Int) (l : List Int) : Bool := l.all (fun p => decide (0 < atI marks p))
theorem v2j (marks l : List Int) (hs : l.length ≤ SMALL) (hp : ∀ p ∈ l, 0 ≤ p ∧ p < marks.length) : zu5 marks l = some (someB marks l, allB marks l) := by
  unfold zu5
  exact scan l (by unfold SMALL at hs; omega) (fun f i (s : Bool × Bool) => z1v marks l za3 f s.1 s.2 i) (fun _ suf s => some (s.1 || someB marks suf, s.2 && allB marks suf)) (fun _ _ => True)
    (fun f s _ => by rw [z1v, if_neg (by simp)]; simp [someB, allB, za3])
    (fun f pre x suf s a b c d _ k => by
      obtain ⟨s1, s2⟩ := s
      have hx := hp x (by rw [a]; simp)
      have hg := z0g marks hx.1 hx.2
      have ih := fun u v => k (u, v) trivial
      show z1v marks l za3 (f + 1) s1 s2 (pre.length : Int) = some (s1 || someB marks (x :: suf), s2 && allB marks (x :: suf))
      rw [z1v, if_pos (decide_eq_true c)]
      simp only [b, hg, Option.bind_some, z00 d]
      dsimp only at ih
      simp only [ih, someB, allB, List.any_cons, List.all_cons]
      cases s1 <;> cases s2 <;> simp) FUEL (false, true) trivial (by have := z2i; unfold SMALL at hs; omega)
noncomputable def canB (n : GNet) (marks : List Int) (busy : List GItem) (t : Int) : Bool :=
  bif decide ((atI n.tasks t).join = 1) then allB marks (atI n.tasks t).in_ else bif decide ((atI n.tasks t).join = 2) then someB marks (atI n.tasks t).in_ else someB marks (atI n.tasks t).in_ && (allB marks (atI n.tasks t).in_ || !comB n marks busy t)
theorem v55 {n : GNet} {marks : List Int} {busy : List GItem} {t : Int} (hn : n.small) (M : MB n marks busy) (t0 : 0 ≤ t) (t1 : t < n.tasks.length) : y06 n marks busy t = some (canB n marks busy t) := by
  have hml := M.len
  have hg := z0g n.tasks t0 t1
  have hm := z29 n.tasks t0 t1
  have T := z6d M.net hm
  unfold y06 canB
  rw [hg, Option.bind_some, v2j _ _ (hn.2 _ hm).1 (fun p hp => by have := T.ins p hp; omega), Option.bind_some, Option.bind_some, wp4 hn M t0 t1]
  by_cases h1 : (atI n.tasks t).join = 1
  · simp [h1]
  · by_cases h2 : (atI n.tasks t).join = 2
    · simp [h2]
    · simp only [h1, h2, decide_false, cond_false, Option.bind_some]
      cases someB marks (atI n.tasks t).in_ <;> cases allB marks (atI n.tasks t).in_ <;> simp
theorem v9s {n : GNet} {marks : List Int} {busy : List GItem} {t : Int} (hn : n.small) (M : MB n marks busy) (t0 : 0 ≤ t) (t1 : t < n.tasks.length) : z92 n marks busy t = some (canB n marks busy t) := by
  have hml := M.len
  have hg := z0g n.tasks t0 t1
  have hm := z29 n.tasks t0 t1
  have T := z6d M.net hm
  have hs := (hn.2 _ hm).1
  unfold z92
  rw [hg, Option.bind_some]
  have := scan (atI n.tasks t).in_ (by unfold SMALL at hs; omega) (fun f i (s : Bool × Bool) => z0s marks (atI n.tasks t).in_ ((atI n.tasks t).in_.length : Int) (z34 n marks busy t) f s.1 i s.2)
    (fun _ suf s => z34 n marks busy t (s.1 && allB marks suf) (s.2 || someB marks suf)) (fun _ _ => True)
    (fun f s _ => by rw [z0s, if_neg (by simp)]; simp [someB, allB])
    (fun f pre x suf s a b c d _ k => by
      obtain ⟨s1, s2⟩ := s
      have hx := T.ins x (by rw [a]; simp)
      have hg := z0g marks hx.1 (by omega)
      have ih := fun u v => k (u, v) trivial
      show z0s marks (atI n.tasks t).in_ ((atI n.tasks t).in_.length : Int) (z34 n marks busy t) (f + 1) s1 (pre.length : Int) s2 = z34 n marks busy t (s1 && allB marks (x :: suf)) (s2 || someB marks (x :: suf))
      rw [z0s, if_pos (decide_eq_true c)]
      simp only [b, hg, Option.bind_some, z00 d]
      dsimp only at ih
      simp only [ih, someB, allB, List.any_cons, List.all_cons]
      cases s1 <;> cases s2 <;> simp) FUEL (true, false) trivial (by have := z2i; unfold SMALL at hs; omega)
  refine this.trans ?_
  unfold z34 canB
  rw [hg, Option.bind_some, wx4 hn M t0 t1]
  by_cases h1 : (atI n.tasks t).join = 1
  · simp [h1]
  · by_cases h2 : (atI n.tasks t).join = 2
    · simp [h2]
    · simp only [h1, h2, decide_false, cond_false, Option.bind_some]
      cases someB marks (atI n.tasks t).in_ <;> cases allB marks (atI n.tasks t).in_ <;> simp
noncomputable def enaB (n : GNet) (marks : List Int) (busy : List GItem) (t : Int) : Bool := mrkB n marks && (busyB n busy && (inB t 0 ((n.tasks.length : Int) - 1) && canB n marks busy t))
theorem w6e (n : GNet) (marks : List Int) (busy : List GItem) (t : Int) (hn : n.small) (hm : marks.length ≤ SMALL) (hb : busy.length ≤ SMALL) : zf2 n marks busy t = some (enaB n marks busy t) := by
  unfold zf2 enaB
  rw [yc1 n marks hn hm, Option.bind_some]
  by_cases h1 : mrkB n marks = true
  case neg => rw [if_neg h1, Bool.eq_false_iff.2 h1]; rfl
  rw [if_pos h1, h1, w6h n busy hn hb (w33 h1), Option.bind_some]
  by_cases h2 : busyB n busy = true
  case neg => rw [if_neg h2, Bool.eq_false_iff.2 h2]; rfl
  rw [if_pos h2, h2, z00 (z7o hn.1), z2j, Option.bind_some]
  by_cases h3 : inB t 0 ((n.tasks.length : Int) - 1) = true
  case neg => rw [if_neg h3, Bool.eq_false_iff.2 h3]; rfl
  have h3' := z0b.1 h3
  rw [if_pos h3, h3, v55 hn (mb_of h1 h2) h3'.1 (by omega), Option.bind_some]; rfl
theorem v1l (n : GNet) (marks : List Int) (busy : List GItem) (t : Int) (hn : n.small) (hm : marks.length ≤ SMALL) (hb : busy.length ≤ SMALL) : zs8 n marks busy t = some (enaB n marks busy t) := by
  unfold zs8 enaB
  rw [yx4 n marks hn hm, Option.bind_some]
  by_cases h1 : mrkB n marks = true
  case neg => rw [if_neg h1, Bool.eq_false_iff.2 h1]; rfl
  rw [if_pos h1, h1, w4w n busy hn hb (w33 h1), Option.bind_some]
  by_cases h2 : busyB n busy = true
  case neg => rw [if_neg h2, Bool.eq_false_iff.2 h2]; rfl
  rw [if_pos h2, h2, y7w n t hn, Option.bind_some]
  by_cases h3 : inB t 0 ((n.tasks.length : Int) - 1) = true
  case neg => rw [if_neg h3, Bool.eq_false_iff.2 h3]; rfl
  have h3' := z0b.1 h3
  rw [if_pos h3, h3, v9s hn (mb_of h1 h2) h3'.1 (by omega), Option.bind_some]; rfl
def dec (l : List Int) (p : Int) : List Int := l.set p.toNat (atI l p - 1)
def takeL (join : Int) : List Int → List Int → List Int
  | [], l => l
  | p :: ps, l => if 0 < atI l p then (if join = 2 then dec l p else takeL join ps (dec l p)) else takeL join ps l
theorem wc5 (l : List Int) (p : Int) : (dec l p).length = l.length := by simp [dec]
theorem yu1 (join : Int) : ∀ (ps l : List Int), (takeL join ps l).length = l.length
  | [], l => rfl
  | p :: ps, l => by
    unfold takeL
    split
    · split
      · exact wc5 l p
      · rw [yu1 join ps, wc5]
    · exact yu1 join ps l
theorem wc3 {l : List Int} {p : Int} (h : capM 4 l) (hp : 0 < atI l p) (h0 : 0 ≤ p) (h1 : p < l.length) : capM 4 (dec l p) := fun x hx => by
  have hv := yv7 h h0 h1
  rcases List.mem_or_eq_of_mem_set hx with hx | rfl
  · exact h x hx
  · omega
theorem v0s {β : Type} (join : Int) (ps : List Int) (hs : ps.length ≤ SMALL) (f : Nat → Int → List Int → Option β) (kx : List Int → Option β) (l0 : List Int) (hp : ∀ p ∈ ps, 0 ≤ p ∧ p < l0.length) (hc : capM 4 l0)
    (h0 : ∀ n s, f (n + 1) (ps.length : Int) s = kx s)
    (h1 : ∀ n i p s, getI ps i = some p → i < (ps.length : Int) → ok64 (i + 1) → getI s p = some (atI s p) → ok64 (atI s p - 1) → f (n + 1) i s = if decide (0 < atI s p) = true then (if decide (join = 2) = true then kx (dec s p) else f n (i + 1) (dec s p)) else f n (i + 1) s) :
    f FUEL 0 l0 = kx (takeL join ps l0) :=
  scan ps (by unfold SMALL at hs; omega) f (fun _ suf l => kx (takeL join suf l)) (fun _ l => l.length = l0.length ∧ capM 4 l) (fun n s hi => by rw [h0]; rfl)
    (fun n pre x suf s a b c d hi k => by
      have hx := hp x (by rw [a]; simp)
      have hx2 : x < s.length := by rw [hi.1]; exact hx.2
      have hv := yv7 hi.2 hx.1 hx2
      rw [h1 n _ x s b c d (z0g s hx.1 hx2) (by constructor <;> omega), takeL]
      by_cases h : 0 < atI s x
      · rw [if_pos (decide_eq_true h), if_pos h]
        by_cases h2 : join = 2
        · rw [if_pos (decide_eq_true h2), if_pos h2]
        · rw [if_neg (by simpa using h2), if_neg h2]
          exact k _ ⟨by rw [wc5, hi.1], wc3 hi.2 h hx.1 hx2⟩
      · rw [if_neg (by simpa using h), if_neg h]
        exact k _ hi) FUEL l0 ⟨rfl, hc⟩ (by have := z2i; unfold SMALL at hs; omega)
theorem v0l (n : GNet) (marks : List Int) (t : Int) (hn : n.small) (hm : marks.length ≤ SMALL) : zl9 n marks t = some (bif mrkB n marks && inB t 0 ((n.tasks.length : Int) - 1) then takeL (atI n.tasks t).join (atI n.tasks t).in_ marks else []) := by
  unfold zl9
  rw [yc1 n marks hn hm, Option.bind_some]
  by_cases h1 : mrkB n marks = true
  case neg => rw [if_neg h1, Bool.eq_false_iff.2 h1]; rfl
  rw [if_pos h1, h1, z00 (z7o hn.1), z2j, Option.bind_some]
  by_cases h3 : inB t 0 ((n.tasks.length : Int) - 1) = true
  case neg => rw [if_neg h3, Bool.eq_false_iff.2 h3]; rfl
  have h3' := z0b.1 h3
  obtain ⟨f1, f2, f3⟩ := z82 h1
  have hg := z0g n.tasks h3'.1 (by omega)
  have ht := z29 n.tasks h3'.1 (by omega)
  have T := z6d f1 ht
  rw [if_pos h3, h3, z00 (by simpa using hm), List.nil_append]
  rw [v0s (atI n.tasks t).join (atI n.tasks t).in_ (hn.2 _ ht).1 (z3m n t y25 y26) (fun l => some l) marks (fun p hp => by have := T.ins p hp; omega) (zk8.1 f3)
    (fun f s => by rw [z3m, hg, Option.bind_some, if_neg (by simp)]; rfl)
    (fun f i p s a b c d e => by
      rw [z3m, hg, Option.bind_some, if_pos (decide_eq_true b), Option.bind_some, a, Option.bind_some, d, Option.bind_some, Option.bind_some, z00 e, Option.bind_some, Option.bind_some]; simp only [z00 c]; rfl)]
  rfl
theorem v6w {n : GNet} {marks : List Int} {t : Int} (hn : n.small) (hm : marks.length ≤ SMALL) (h1 : mrkB n marks = true) (t0 : 0 ≤ t) (t1 : t < n.tasks.length) : z87 n marks t = some (takeL (atI n.tasks t).join (atI n.tasks t).in_ marks) := by
  unfold z87
  obtain ⟨f1, f2, f3⟩ := z82 h1
  have hg := z0g n.tasks t0 t1
  have ht := z29 n.tasks t0 t1
  have T := z6d f1 ht
  rw [z2q _ hm, Option.bind_some, hg, Option.bind_some]
  exact v0s (atI n.tasks t).join (atI n.tasks t).in_ (hn.2 _ ht).1 (z1p n t (atI n.tasks t).in_ ((atI n.tasks t).in_.length : Int) zn9 zo0) (fun l => some l) marks (fun p hp => by have := T.ins p hp; omega) (zk8.1 f3)
    (fun f s => by rw [z1p, if_neg (by simp)]; rfl)
    (fun f i p s a b c d e => by
      rw [z1p, if_pos (decide_eq_true b), a, Option.bind_some, d, Option.bind_some, Option.bind_some, z00 e, Option.bind_some, hg, Option.bind_some]; simp only [z00 c]; rfl)
end Go.Am.Pl
end
section
namespace Go.Am.Pl
open Go
def bitB (x role : Int) : Bool := decide ((x / 2 ^ (role - 1).toNat) % 2 = 1)
def hasB (people : List Int) (who role : Int) : Bool := pplB people && (inB who 1 people.length && (inB role 1 3 && bitB (atI people (who - 1)) role))
theorem eight {x : Int} (h : 0 ≤ x ∧ x ≤ 7) : x = 0 ∨ x = 1 ∨ x = 2 ∨ x = 3 ∨ x = 4 ∨ x = 5 ∨ x = 6 ∨ x = 7 := by omega
theorem y4m {x role s : Int} (f : Nat) (hx : 0 ≤ x ∧ x ≤ 7) (hs : s < role) (h3 : 0 ≤ s ∧ role ≤ 3) : z2g role z5t (f + 1) x s = z2g role z5t f (Int.tdiv x 2) (s + 1) := by
  have hd : Int.tdiv x 2 = x / 2 := Int.tdiv_eq_ediv_of_nonneg hx.1
  rw [z2g, if_pos (decide_eq_true hs), z00 (by rw [hd]; exact ⟨by omega, by constructor <;> omega⟩), z00 (by constructor <;> omega)]
theorem y97 {x role s : Int} (f : Nat) (hs : ¬ s < role) : z2g role z5t (f + 1) x s = some (decide (Int.tmod x 2 = 1)) := by
  rw [z2g, if_neg (by simpa using hs), z5t, z00 (by omega)]
theorem tdiv2 {x : Int} (hx : 0 ≤ x ∧ x ≤ 7) : 0 ≤ Int.tdiv x 2 ∧ Int.tdiv x 2 ≤ 7 := by
  have hd : Int.tdiv x 2 = x / 2 := Int.tdiv_eq_ediv_of_nonneg hx.1
  omega
theorem vc9 {x role : Int} (hx : 0 ≤ x ∧ x ≤ 7) (hr : 1 ≤ role ∧ role ≤ 3) : z2g role z5t FUEL x 1 = some (bitB x role) := by
  obtain ⟨f, hF⟩ : ∃ f, FUEL = f + 3 := ⟨FUEL - 3, by have := z2i; omega⟩
  rw [hF]
  have hr' : role = 1 ∨ role = 2 ∨ role = 3 := by omega
  rcases hr' with rfl | rfl | rfl
  · rw [y97 _ (by omega)]
    rcases eight hx with rfl | rfl | rfl | rfl | rfl | rfl | rfl | rfl <;> rfl
  · rw [y4m _ hx (by omega) (by omega), y97 _ (by omega)]
    rcases eight hx with rfl | rfl | rfl | rfl | rfl | rfl | rfl | rfl <;> rfl
  · rw [y4m _ hx (by omega) (by omega), y4m _ (tdiv2 hx) (by omega) (by omega), y97 _ (by omega)]
    rcases eight hx with rfl | rfl | rfl | rfl | rfl | rfl | rfl | rfl <;> rfl
theorem v9r {x role : Int} (hx : 0 ≤ x ∧ x ≤ 7) (hr : 1 ≤ role ∧ role ≤ 3) : decide ((andI (shrI x (role - 1)) 1) = 1) = bitB x role := by
  have hr' : role = 1 ∨ role = 2 ∨ role = 3 := by omega
  rcases hr' with rfl | rfl | rfl <;> rcases eight hx with rfl | rfl | rfl | rfl | rfl | rfl | rfl | rfl <;> decide
theorem yz6 {p : List Int} (h : pplB p = true) : (1 ≤ p.length ∧ p.length ≤ 4) ∧ ∀ x ∈ p, 0 ≤ x ∧ x ≤ 7 := by
  simp only [pplB, Bool.and_eq_true, z0b, List.all_eq_true] at h
  exact ⟨by omega, h.2⟩
theorem v2g (people : List Int) (who role : Int) (hl : people.length ≤ SMALL) : zu1 people who role = some (hasB people who role) := by
  unfold zu1 hasB
  rw [yc2 _ hl, Option.bind_some]
  by_cases h1 : pplB people = true
  case neg => rw [if_neg h1, Bool.eq_false_iff.2 h1]; rfl
  rw [if_pos h1, h1, z2j, Option.bind_some]
  by_cases h2 : inB who 1 people.length = true
  case neg => rw [if_neg h2, Bool.eq_false_iff.2 h2]; rfl
  rw [if_pos h2, h2, z2j, Option.bind_some]
  by_cases h3 : inB role 1 3 = true
  case neg => rw [if_neg h3, Bool.eq_false_iff.2 h3]; rfl
  have h2' := z0b.1 h2
  have F := yz6 h1
  rw [if_pos h3, h3, z00 (by constructor <;> omega), z0g people (by omega) (by omega), Option.bind_some, vc9 (F.2 _ (z29 people (by omega) (by omega))) (z0b.1 h3)]
  rfl
theorem v1n (people : List Int) (who role : Int) (hl : people.length ≤ SMALL) : zt0 people who role = some (hasB people who role) := by
  unfold zt0 hasB zf0
  rw [yx5 _ hl, Option.bind_some]
  by_cases h1 : pplB people = true
  case neg => rw [if_neg h1, Bool.eq_false_iff.2 h1]; rfl
  rw [if_pos h1, h1, z5m, Option.bind_some]
  by_cases h2 : inB who 1 people.length = true
  case neg => rw [if_neg h2, Bool.eq_false_iff.2 h2]; rfl
  rw [if_pos h2, h2, z5m, Option.bind_some, Option.bind_some]
  by_cases h3 : inB role 1 3 = true
  case neg => rw [if_neg h3, Bool.eq_false_iff.2 h3]; rfl
  have h2' := z0b.1 h2
  have h3' := z0b.1 h3
  have F := yz6 h1
  rw [if_pos h3, h3, z00 (by constructor <;> omega), z0g people (by omega) (by omega), Option.bind_some, z00 (by constructor <;> omega), z00 (by omega), v9r (F.2 _ (z29 people (by omega) (by omega))) (z0b.1 h3)]
  rfl
def doneD (did : List GDid) (who task : Int) : Bool := did.any (fun d => decide (d.who = who) && decide (d.task = task))
theorem v2f (did : List GDid) (who task : Int) (hl : did.length ≤ SMALL) : zu0 did who task = some (doneD did who task) := by
  unfold zu0 doneD
  exact scan0 did (by unfold SMALL at hl; omega) (z4p did who task y5e) (fun _ suf => some (suf.any (fun d => decide (d.who = who) && decide (d.task = task))))
    (fun f => by rw [z4p, if_neg (by simp)]; rfl)
    (fun f pre x suf a b c d ih => by
      rw [z4p, if_pos (decide_eq_true c)]
      simp only [b, Option.bind_some, z00 d, ih, List.any_cons]
      by_cases h1 : x.who = who <;> by_cases h2 : x.task = task <;> simp [h1, h2])
theorem v1m (did : List GDid) (who task : Int) (hl : did.length ≤ SMALL) : zs9 did who task = some (doneD did who task) := by
  have e : zz7 did (GDid.mk task who) = some (anyIdx (fun d : GDid => decide (d.who = who) && decide (d.task = task)) did 0) := by
    unfold zz7
    have := scan0 did (by unfold SMALL at hl; omega) (z6n did (GDid.mk task who) (did.length : Int) y88) (fun pre suf => some (anyIdx (fun d : GDid => decide (d.who = who) && decide (d.task = task)) suf pre.length))
      (fun f => by rw [z6n, if_neg (by simp)]; rfl)
      (fun f pre x suf a b c d ih => by
        rw [z6n, if_pos (decide_eq_true c), b, Option.bind_some, z00 d, ih, anyIdx]
        by_cases h1 : x.who = who <;> by_cases h2 : x.task = task
        · rw [if_pos (by simp [h1, h2]), if_pos (by simp [h1, h2])]
        · rw [if_neg (by simp [h1]; exact fun e => h2 e.symm), if_neg (by simp [h2])]; simp
        · rw [if_neg (by simp; exact fun _ e => h1 e.symm), if_neg (by simp [h1])]; simp
        · rw [if_neg (by simp; exact fun _ e => h1 e.symm), if_neg (by simp [h1])]; simp)
    simpa using this
  unfold zs9 zw8 doneD
  rw [e, Option.bind_some, Option.bind_some, z7a _ did 0 (Int.le_refl _)]
def idxs (N : Nat) : List Int := (List.range N).map (fun i : Nat => (i : Int) + 1)
theorem y3p (N : Nat) : (idxs N).length = N := by simp [idxs]
theorem v3b {N : Nat} {i : Nat} {x : Int} (h : getI (idxs N) (i : Int) = some x) : x = (i : Int) + 1 := by
  rw [z3h] at h
  simp only [idxs, List.getElem?_map, Option.map_eq_some_iff] at h
  obtain ⟨j, hj, rfl⟩ := h
  rw [List.getElem?_eq_some_iff] at hj
  obtain ⟨h1, h2⟩ := hj
  rw [List.getElem_range] at h2
  omega
theorem v9q {N : Nat} {x : Int} : x ∈ idxs N ↔ 1 ≤ x ∧ x ≤ N := by
  simp only [idxs, List.mem_map, List.mem_range]
  constructor
  · rintro ⟨i, h, rfl⟩; omega
  · intro h; exact ⟨(x - 1).toNat, by omega, by omega⟩
theorem y3k {α : Type} (q : α → Bool) : ∀ l : List α, l.flatMap (fun x => if q x = true then [x] else []) = l.filter q
  | [] => rfl
  | x :: l => by
    rw [List.flatMap_cons, y3k q l, List.filter_cons]
    split <;> simp
def nowB (busy : List GItem) (apart who : Int) : Bool := busy.any (fun b => decide (b.who = who) && decide (b.task = apart))
def mayW (n : GNet) (people : List Int) (did : List GDid) (busy : List GItem) (t who : Int) : Bool :=
  hasB people who (atI n.tasks t).role && (!nowB busy (atI n.tasks t).apart who && !doneD did who (atI n.tasks t).apart)
def mayB (n : GNet) (people : List Int) (did : List GDid) (busy : List GItem) (t : Int) : List Int :=
  bif netB n && (pplB people && inB t 0 ((n.tasks.length : Int) - 1)) then (idxs people.length).filter (mayW n people did busy t) else []
theorem vd0 {n : GNet} {t : Int} (busy : List GItem) (who : Int) (kx : Bool → Option (List Int)) (hg : getI n.tasks t = some (atI n.tasks t)) (hb : busy.length ≤ SMALL) :
    z2h n busy t who kx FUEL false 0 = kx (nowB busy (atI n.tasks t).apart who) :=
  scan busy (by unfold SMALL at hb; omega) (fun f i s => z2h n busy t who kx f s i) (fun _ suf s => kx (s || nowB suf (atI n.tasks t).apart who)) (fun _ _ => True)
    (fun f s _ => by rw [z2h, if_neg (by simp)]; simp [nowB])
    (fun f pre x suf s a b c d _ k => by
      have ih := fun u => k u trivial
      rw [z2h, if_pos (decide_eq_true c)]
      simp only [b, hg, Option.bind_some, z00 d, ih, nowB, List.any_cons]
      cases s
      · by_cases h : x.who = who <;> simp [h]
      · simp) FUEL false trivial (by have := z2i; unfold SMALL at hb; omega)
theorem w6f (n : GNet) (people : List Int) (did : List GDid) (busy : List GItem) (t : Int) (hn : n.small) (hp : people.length ≤ SMALL) (hd : did.length ≤ SMALL) (hb : busy.length ≤ SMALL) :
    z97 n people did busy t = some (mayB n people did busy t) := by
  unfold z97 mayB
  rw [y2i n hn, Option.bind_some]
  by_cases h1 : netB n = true
  case neg => rw [if_neg h1, Bool.eq_false_iff.2 h1]; rfl
  rw [if_pos h1, h1, yc2 _ hp, Option.bind_some]
  by_cases h2 : pplB people = true
  case neg => rw [if_neg h2, Bool.eq_false_iff.2 h2]; rfl
  rw [if_pos h2, h2, z00 (z7o hn.1), z2j, Option.bind_some]
  by_cases h3 : inB t 0 ((n.tasks.length : Int) - 1) = true
  case neg => rw [if_neg h3, Bool.eq_false_iff.2 h3]; rfl
  have h3' := z0b.1 h3
  have hg := z0g n.tasks h3'.1 (by omega)
  rw [if_pos h3, h3]
  have := yn6 (idxs people.length) (by rw [y3p]; exact hp) (fun w => if mayW n people did busy t w = true then [w] else []) (fun f i s => z5u n people did busy t zp7 f (i + 1) s) zp7
    (fun f s => by rw [z5u, y3p, if_neg (by simp; omega)])
    (fun f pre x suf s a b c d e i => by
      have hx := v3b b
      rw [y3p] at d
      have hs : s.length + [(pre.length : Int) + 1].length ≤ SMALL := by
        rw [i, List.length_singleton]
        have := yo0 (e := fun w => if mayW n people did busy t w = true then [w] else []) (fun x => by split <;> simp) pre
        unfold SMALL at hp ⊢; omega
      rw [z5u, if_pos (by simp; omega), vd0 busy _ _ hg hb]
      unfold y5f
      simp only [hg, Option.bind_some, v2g _ _ _ hp, v2f _ _ _ hd, z00 (show ok64 ((pre.length : Int) + 1 + 1) by unfold SMALL at hp; constructor <;> omega), z00 hs]
      subst hx
      unfold mayW
      cases hasB people ((pre.length : Int) + 1) (atI n.tasks t).role <;> cases nowB busy (atI n.tasks t).apart ((pre.length : Int) + 1) <;> cases doneD did ((pre.length : Int) + 1) (atI n.tasks t).apart <;> simp)
  refine this.trans ?_
  rw [y3k]; rfl
theorem v1o (n : GNet) (people : List Int) (did : List GDid) (busy : List GItem) (t : Int) (hn : n.small) (hp : people.length ≤ SMALL) (hd : did.length ≤ SMALL) (hb : busy.length ≤ SMALL) :
    zt1 n people did busy t = some (mayB n people did busy t) := by
  unfold zt1 mayB y16
  rw [yb2 n hn, Option.bind_some]
  by_cases h1 : netB n = true
  case neg => rw [if_neg h1, Bool.eq_false_iff.2 h1]; rfl
  rw [if_pos h1, h1, y7w n t hn, Option.bind_some]
  by_cases h3 : inB t 0 ((n.tasks.length : Int) - 1) = true
  case neg => rw [if_neg h3, Bool.eq_false_iff.2 h3]; simp
  have h3' := z0b.1 h3
  have hg := z0g n.tasks h3'.1 (by omega)
  rw [if_pos h3, h3, hg, Option.bind_some, yx5 _ hp, Option.bind_some]
  by_cases h2 : pplB people = true
  case neg => rw [if_neg h2, Bool.eq_false_iff.2 h2]; rfl
  rw [if_pos h2, h2]
  have hw : ∀ w : Int, z8k w busy (atI n.tasks t) people did = some (mayW n people did busy t w) := fun w => by
    unfold z8k mayW nowB
    rw [ym6 busy hb _ (fun b => decide (b.who = w) && decide (b.task = (atI n.tasks t).apart)) (fun x _ => by unfold zk2; by_cases h : x.task = (atI n.tasks t).apart <;> simp [h]), Option.bind_some, v1n _ _ _ hp, Option.bind_some, v1m _ _ _ hd, Option.bind_some]
    cases hasB people w (atI n.tasks t).role <;> cases (busy.any fun b => decide (b.who = w) && decide (b.task = (atI n.tasks t).apart)) <;> simp
  have := yn6 (idxs people.length) (by rw [y3p]; exact hp) (fun w => if mayW n people did busy t w = true then [w] else []) (z3k (fun z => z8k z busy (atI n.tasks t) people did) (people.length : Int) zk4) zk4
    (fun f s => by rw [z3k, y3p, if_neg (by simp)])
    (fun f pre x suf s a b c d e i => by
      have hx := v3b b
      rw [y3p] at d
      have hs : s.length + [(pre.length : Int) + 1].length ≤ SMALL := by
        rw [i, List.length_singleton]
        have := yo0 (e := fun w => if mayW n people did busy t w = true then [w] else []) (fun x => by split <;> simp) pre
        unfold SMALL at hp ⊢; omega
      rw [z3k, if_pos (decide_eq_true d)]
      simp only [z00 e, z00 hs, hw, Option.bind_some]
      subst hx
      cases mayW n people did busy t ((pre.length : Int) + 1) <;> simp)
  rw [this, y3k]; rfl
theorem v3f (n : GNet) (people : List Int) (did : List GDid) (busy : List GItem) (t : Int) : (mayB n people did busy t).length ≤ people.length := by
  unfold mayB
  cases netB n && (pplB people && inB t 0 ((n.tasks.length : Int) - 1))
  · simp
  · show ((idxs people.length).filter _).length ≤ _
    have := List.length_filter_le (mayW n people did busy t) (idxs people.length)
    rw [y3p] at this; exact this
noncomputable def startOk (n : GNet) (people : List Int) (c : GCase) (t who : Int) : Bool :=
  casB n c && (decide (c.state = 1) && (enaB n c.marks c.busy t && ((mayB n people c.did c.busy t).any (fun x => decide (x = who)) && !decide ((c.busy.length : Int) = 6))))
def begun (n : GNet) (c : GCase) (t who : Int) : GCase := GCase.mk c.state (takeL (atI n.tasks t).join (atI n.tasks t).in_ c.marks) (c.busy ++ [GItem.mk t who 0]) c.data c.did
noncomputable def startB (n : GNet) (people : List Int) (c : GCase) (t who : Int) : GCase × Bool := bif startOk n people c t who then (begun n c t who, true) else (c, false)
theorem w3x {n : GNet} {m : List Int} {busy : List GItem} {t : Int} (h : enaB n m busy t = true) : mrkB n m = true ∧ busyB n busy = true ∧ (0 ≤ t ∧ t < n.tasks.length) := by
  simp only [enaB, Bool.and_eq_true, z0b] at h
  exact ⟨h.1, h.2.1, by omega⟩
theorem yt7 (n : GNet) (people : List Int) (c : GCase) (t who : Int) (hn : n.small) (hp : people.length ≤ SMALL) (hc : c.small) : z6x n people c t who = some (startB n people c t who) := by
  unfold z6x startB startOk
  rw [y4n c hc, Option.bind_some, yc0 n c hn hc, Option.bind_some]
  by_cases h1 : casB n c = true
  case neg => rw [if_neg h1, Bool.eq_false_iff.2 h1]; rfl
  rw [if_pos h1, h1]
  by_cases h2 : c.state = 1
  case neg => rw [if_neg (by simpa using h2), decide_eq_false h2]; rfl
  rw [if_pos (decide_eq_true h2), decide_eq_true h2, w6e n c.marks c.busy t hn hc.1 hc.2.1, Option.bind_some]
  by_cases h3 : enaB n c.marks c.busy t = true
  case neg => rw [if_neg h3, Bool.eq_false_iff.2 h3]; rfl
  rw [if_pos h3, h3, w6f n people c.did c.busy t hn hp hc.2.2.2 hc.2.1, Option.bind_some, yz9 _ _ (Nat.le_trans (v3f ..) hp), Option.bind_some]
  by_cases h4 : (mayB n people c.did c.busy t).any (fun x => decide (x = who)) = true
  case neg => rw [if_neg h4, Bool.eq_false_iff.2 h4]; rfl
  rw [if_pos h4, h4]
  by_cases h5 : (c.busy.length : Int) = 6
  · rw [if_pos (decide_eq_true h5), decide_eq_true h5]; rfl
  obtain ⟨g1, g2, g3⟩ := w3x h3
  have F := zj9 h1
  rw [if_neg (by simpa using h5), decide_eq_false h5, v0l n c.marks t hn hc.1, Option.bind_some, z00 (by have := F.busyl; rw [List.length_singleton]; unfold SMALL; omega), g1, z0b.2 (show 0 ≤ t ∧ t ≤ (n.tasks.length : Int) - 1 by omega)]
  rfl
theorem w11 (n : GNet) (people : List Int) (c : GCase) (t who : Int) : (startB n people c t who).1.marks.length = c.marks.length ∧ ((startB n people c t who).1.busy.length ≤ c.busy.length ∨ (startB n people c t who).1.busy.length ≤ 7) ∧
    (startB n people c t who).1.data.length = c.data.length ∧ (startB n people c t who).1.did.length = c.did.length := by
  unfold startB
  cases e : startOk n people c t who
  · exact ⟨rfl, .inl (Nat.le_refl _), rfl, rfl⟩
  · unfold startOk at e
    rw [Bool.and_eq_true] at e
    have F := zj9 e.1
    have := F.busyl
    exact ⟨yu1 _ _ _, .inr (by show (c.busy ++ [GItem.mk t who 0]).length ≤ 7; rw [List.length_append, List.length_singleton]; omega), rfl, rfl⟩
theorem v0r (n : GNet) (people : List Int) (c : GCase) (t who : Int) (hc : c.small) : (startB n people c t who).1.small := by
  obtain ⟨a, b, d, e⟩ := w11 n people c t who
  exact ⟨by rw [a]; exact hc.1, by rcases b with b | b; exact Nat.le_trans b hc.2.1; exact Nat.le_trans b (by unfold SMALL; omega), by rw [d]; exact hc.2.2.1, by rw [e]; exact hc.2.2.2⟩
theorem wj6 (n : GNet) (people : List Int) (c : GCase) (t who : Int) (hn : n.small) (hp : people.length ≤ SMALL) (hc : c.small) : ze6 n people c t who = some (startB n people c t who) := by
  have hsm := v0r n people c t who hc
  unfold ze6 startB startOk
  rw [z8w c hc, Option.bind_some, y7x n c hn hc, Option.bind_some]
  by_cases h1 : casB n c = true
  case neg => rw [Bool.eq_false_iff.2 h1]; rfl
  rw [h1]
  by_cases h2 : c.state = 1
  case neg => rw [decide_eq_false h2]; rfl
  rw [decide_eq_true h2, if_pos (by rfl)]
  by_cases h5 : (c.busy.length : Int) = 6
  · rw [if_pos (decide_eq_true h5), decide_eq_true h5]; simp
  rw [if_neg (by simpa using h5), decide_eq_false h5, v1l n c.marks c.busy t hn hc.1 hc.2.1, Option.bind_some]
  by_cases h3 : enaB n c.marks c.busy t = true
  case neg => rw [if_neg h3, Bool.eq_false_iff.2 h3]; rfl
  have sym : (mayB n people c.did c.busy t).any (fun x => decide (who = x)) = (mayB n people c.did c.busy t).any (fun x => decide (x = who)) := by congr 1; funext y; exact decide_eq_decide.2 ⟨Eq.symm, Eq.symm⟩
  rw [if_pos h3, h3, v1o n people c.did c.busy t hn hp hc.2.2.2 hc.2.1, Option.bind_some, yu5 _ (Nat.le_trans (v3f ..) hp), Option.bind_some, sym]
  by_cases h4 : (mayB n people c.did c.busy t).any (fun x => decide (x = who)) = true
  case neg => rw [if_neg h4, Bool.eq_false_iff.2 h4]; rfl
  obtain ⟨g1, g2, g3⟩ := w3x h3
  have F := zj9 h1
  have e : startB n people c t who = (begun n c t who, true) := by unfold startB startOk; rw [h1, decide_eq_true h2, h3, h4, decide_eq_false h5]; rfl
  rw [e] at hsm
  rw [if_pos h4, h4, v6w hn hc.1 g1 g3.1 g3.2, Option.bind_some, z00 (by have := F.busyl; rw [List.length_singleton]; unfold SMALL; omega)]
  show (z08 (begun n c t who)).bind _ = _
  rw [z8w _ hsm, Option.bind_some]; rfl
end Go.Am.Pl
end
section
namespace Go.Am.Pl
open Go
def nats (N : Nat) : List Int := (List.range N).map (fun i : Nat => (i : Int))
theorem wk7 (N : Nat) : (nats N).length = N := by simp [nats]
theorem va0 {N : Nat} {i : Nat} {x : Int} (h : getI (nats N) (i : Int) = some x) : x = (i : Int) := by
  rw [z3h] at h
  simp only [nats, List.getElem?_map, Option.map_eq_some_iff] at h
  obtain ⟨j, hj, rfl⟩ := h
  rw [List.getElem?_eq_some_iff] at hj
  obtain ⟨h1, h2⟩ := hj
  rw [List.getElem_range] at h2
  omega
noncomputable def tasksB (n : GNet) (marks : List Int) (busy : List GItem) : List Int := (nats n.tasks.length).filter (enaB n marks busy)
theorem yt9 (n : GNet) (marks : List Int) (busy : List GItem) (hn : n.small) (hm : marks.length ≤ SMALL) (hb : busy.length ≤ SMALL) : z5j n marks busy = some (tasksB n marks busy) := by
  unfold z5j tasksB
  have := yn6 (nats n.tasks.length) (by rw [wk7]; exact hn.1) (fun w => if enaB n marks busy w = true then [w] else []) (z2y n marks busy zf3) zf3
    (fun f s => by rw [z2y, wk7, if_neg (by simp)])
    (fun f pre x suf s a b c d e i => by
      have hx := va0 b
      rw [wk7] at d
      have hs : s.length + [(pre.length : Int)].length ≤ SMALL := by
        rw [i, List.length_singleton]
        have := yo0 (e := fun w => if enaB n marks busy w = true then [w] else []) (fun x => by split <;> simp) pre
        have := hn.1; omega
      rw [z2y, if_pos (decide_eq_true d)]
      simp only [w6e n marks busy _ hn hm hb, Option.bind_some, z00 e, z00 hs]
      subst hx
      cases enaB n marks busy (pre.length : Int) <;> simp)
  rw [this, y3k]; rfl
def Bnd (c d : GCase) : Prop := d.marks.length ≤ c.marks.length ∧ (d.busy.length ≤ c.busy.length ∨ d.busy.length ≤ 7) ∧ d.data.length ≤ c.data.length ∧ (d.did.length ≤ c.did.length ∨ d.did.length ≤ 61)
theorem Bnd.refl (c : GCase) : Bnd c c := ⟨Nat.le_refl _, .inl (Nat.le_refl _), Nat.le_refl _, .inl (Nat.le_refl _)⟩
theorem Bnd.trans {a b c : GCase} (h1 : Bnd a b) (h2 : Bnd b c) : Bnd a c := by
  obtain ⟨p, q, r, s⟩ := h1
  obtain ⟨t, u, v, w⟩ := h2
  exact ⟨by omega, by omega, by omega, by omega⟩
theorem Bnd.small {c d : GCase} (h : Bnd c d) (hc : c.small) : d.small := by
  obtain ⟨p, q, r, s⟩ := h
  obtain ⟨t, u, v, w⟩ := hc
  unfold SMALL at *
  exact ⟨by unfold SMALL; omega, by unfold SMALL; omega, by unfold SMALL; omega, by unfold SMALL; omega⟩
theorem Bnd.lens {c d : GCase} (h : Bnd c d) (hc : GCase.lens (· ≤ 1048576) c) : GCase.lens (· ≤ 1048576) d := by
  obtain ⟨p, q, r, s⟩ := h
  obtain ⟨t, u, v, w⟩ := hc
  exact ⟨by show _ ≤ _; omega, by show _ ≤ _; omega, by show _ ≤ _; omega, by show _ ≤ _; omega⟩
theorem v0v (n : GNet) (c : GCase) (k v num : Int) : Bnd c (workB n c k v num).1 := by
  unfold workB
  cases e : casB n c && (decide (c.state = 1) && (inB k 0 ((c.busy.length : Int) - 1) && (inB v (-1) 2 && (inB num (-99) 99 && !decide ((c.did.length : Int) = 60)))))
  · exact Bnd.refl c
  · rw [Bool.and_eq_true] at e
    have F := zj9 e.1
    have h60 := F.didl
    have hg := ww2 n c.marks (atI c.busy k).task (datB c.data v num)
    have hd : (datB c.data v num).length ≤ c.data.length := by rw [w2u]; exact Nat.le_refl _
    show Bnd c (doneB n c k (datB c.data v num)).1
    unfold doneB
    split
    · exact ⟨Nat.le_refl _, .inl (by simp), hd, .inl (Nat.le_refl _)⟩
    · split
      · split
        · exact ⟨hg, .inl (Nat.zero_le _), hd, .inr (by simp; omega)⟩
        · exact ⟨hg, .inl (by simp; omega), hd, .inr (by simp; omega)⟩
      · exact Bnd.refl c
theorem wb5 (n : GNet) (people : List Int) (c : GCase) (t who : Int) : Bnd c (startB n people c t who).1 := by
  obtain ⟨a, b, d, e⟩ := w11 n people c t who
  exact ⟨by omega, b, by omega, .inl (by omega)⟩
end Go.Am.Pl
end
section
namespace Go.Am.Pl
open Go
def runB (nets : List GNet) (r : GRun) : Bool := inB r.net 0 ((nets.length : Int) - 1) && casB (atI nets r.net) r.case
def netsB (nets : List GNet) : Bool := inB nets.length 1 3 && nets.all netB
def houseB (h : GHouse) : Bool := netsB h.nets && (pplB h.people && (rdrB h.tree && (!decide (5 < (h.runs.length : Int)) && h.runs.all (runB h.nets))))
def netsSmall (nets : List GNet) : Prop := nets.length ≤ SMALL ∧ ∀ n ∈ nets, n.small
def houseSmall (h : GHouse) : Prop := netsSmall h.nets ∧ h.people.length ≤ SMALL ∧ treeSmall h.tree ∧ h.runs.length ≤ SMALL ∧ ∀ r ∈ h.runs, r.case.small
theorem w6i (nets : List GNet) (h : netsSmall nets) : zh2 nets = some (netsB nets) := by
  unfold zh2 netsB
  have := scan0 nets (by have := h.1; unfold SMALL at this; omega) (z5z nets y5l) (fun _ suf => some (suf.all netB))
    (fun k => by rw [z5z, if_neg (by simp)]; rfl)
    (fun k pre x suf hl hg hlt hok ih => by
      rw [z5z, if_pos (decide_eq_true hlt), hg, Option.bind_some, y2i x (h.2 x (by rw [hl]; simp)), Option.bind_some, z00 hok, ih, iteB, List.all_cons])
  rw [this, z2j, Option.bind_some, iteB]
theorem wb3 (h : GHouse) (hs : houseSmall h) : zo2 h = some (houseB h) := by
  obtain ⟨h1, h2, h3, h4, h5⟩ := hs
  unfold zo2 houseB
  have := scan0 h.runs (by unfold SMALL at h4; omega) (z6z h y8f) (fun _ suf => some (suf.all (runB h.nets)))
    (fun k => by rw [z6z, if_neg (by simp)]; rfl)
    (fun k pre x suf hl hg hlt hok ih => by
      rw [z6z, if_pos (decide_eq_true hlt), hg]
      simp only [Option.bind_some, z00 (z7o h1.1), z2j, z00 hok, ih, List.all_cons, runB]
      by_cases hn : inB x.net 0 ((h.nets.length : Int) - 1) = true
      · have hn' := z0b.1 hn
        rw [if_pos hn, z0g h.nets hn'.1 (by omega), Option.bind_some, yc0 _ _ (h1.2 _ (z29 h.nets hn'.1 (by omega))) (h5 x (by rw [hl]; simp)), Option.bind_some, iteB, hn]; rfl
      · rw [if_neg hn, Bool.eq_false_iff.2 hn]; rfl)
  rw [w6i _ h1, yc2 _ h2, yz8 _ h3, this]
  simp only [Option.bind_some, iteB, iteN]
theorem wa2 (h : GHouse) (hs : houseSmall h) : zn8 h = some (houseB h) := by
  obtain ⟨h1, h2, h3, h4, h5⟩ := hs
  unfold zn8 houseB netsB
  have := scan0 h.runs (by unfold SMALL at h4; omega) (z6q h h.runs (h.runs.length : Int) y89) (fun _ suf => some (suf.all (runB h.nets)))
    (fun k => by rw [z6q, if_neg (by simp)]; rfl)
    (fun k pre x suf hl hg hlt hok ih => by
      rw [z6q, if_pos (decide_eq_true hlt), hg]
      simp only [Option.bind_some, z00 (z7o h1.1), z5m, z00 hok, ih, List.all_cons, runB]
      by_cases hn : inB x.net 0 ((h.nets.length : Int) - 1) = true
      · have hn' := z0b.1 hn
        rw [if_pos hn, z0g h.nets hn'.1 (by omega), Option.bind_some, wa1 _ _ (h1.2 _ (z29 h.nets hn'.1 (by omega))) (h5 x (by rw [hl]; simp)), Option.bind_some, iteB, hn]; rfl
      · rw [if_neg hn, Bool.eq_false_iff.2 hn]; rfl)
  rw [yu4 h.nets h1.1 _ (fun n => !netB n) (fun n hn => by unfold y13; rw [yb2 n (h1.2 n hn)]; rfl), yx5 _ h2, yx6 _ h3, this, z5m]
  simp only [Option.bind_some, iteB, iteN, zv5, Bool.and_assoc]
theorem zl1 {h : GHouse} (hl : GHouse.lens (· ≤ 1048576) h) : houseSmall h := by
  obtain ⟨⟨a, b⟩, c, ⟨d, e⟩, f, g⟩ := hl
  skip
  exact ⟨⟨by unfold SMALL; omega, fun n hn => v81 (b n hn)⟩, by unfold SMALL; omega, ⟨by unfold SMALL; omega, fun x hx => by have := e x hx; unfold GNode.lens at this; unfold SMALL; omega⟩, by unfold SMALL; omega, fun r hr => v51 (g r hr)⟩
end Go.Am.Pl
end
section
namespace Go.Am.Pl
open Go
theorem zc7 {α β : Type} (l : List α) (hl : l.length ≤ SMALL) (f : Nat → Int → List α → Option β) (kx : List α → Option β) (h0 : ∀ n s, f (n + 1) (l.length : Int) s = kx s)
    (h1 : ∀ n i x s, getI l i = some x → x ∈ l → i < (l.length : Int) → ok64 (i + 1) → (∀ y : α, s.length + [y].length ≤ SMALL) → f (n + 1) i s = f n (i + 1) (s ++ [x])) : f FUEL 0 [] = kx l := by
  have := yn6 l hl (fun x => [x]) f kx h0 (fun n pre x suf s a b c d g i => h1 n _ x s b c d g (fun y => by
    have h2 := yo0 (e := fun x : α => [x]) (fun _ => Nat.le_refl _) pre
    rw [a, List.length_append, List.length_cons] at hl
    rw [i, List.length_singleton]; omega))
  rw [this]; simp
theorem y4l {α : Type} {l : List α} (h : l.length ≤ SMALL) : ([] : List α).length + l.length ≤ SMALL := by simpa using h
theorem w0z (n : GNet) (h : n.small) : z7v n = some n := by
  unfold z7v
  refine zc7 n.tasks h.1 (z3s n (za8 n.places)) (za8 n.places) (fun m s => ?_) (fun m i x s hg hx hlt hok hs => ?_)
  · rw [z3s, if_neg (by simp)]
  · obtain ⟨a, b, c⟩ := h.2 x hx
    rw [z3s, if_pos (decide_eq_true hlt), hg, Option.bind_some, z00 (y4l a), z00 (y4l b), z00 (y4l c), z00 (hs _), z00 hok]; rfl
theorem yt8 (t : List GNode) (h : treeSmall t) : zh0 t = some t := by
  unfold zh0
  refine zc7 t h.1 (z5w t zp8) zp8 (fun m s => ?_) (fun m i x s hg hx hlt hok hs => ?_)
  · rw [z5w, if_neg (by simp)]
  · rw [z5w, if_pos (decide_eq_true hlt), hg, Option.bind_some, z00 (y4l (h.2 x hx)), z00 (hs _), z00 hok]; rfl
theorem yh3 (h : GHouse) (hs : houseSmall h) : zh1 h = some h := by
  obtain ⟨h1, h2, h3, h4, h5⟩ := hs
  unfold zh1
  rw [z00 (y4l h2), yt8 _ h3, Option.bind_some]
  refine (zc7 h.nets h1.1 (z5x h (za4 h h.tree (([] : List Int) ++ h.people))) (za4 h h.tree (([] : List Int) ++ h.people)) (fun m s => ?_) (fun m i x s hg hx hlt hok hs => ?_)).trans ?_
  · rw [z5x, if_neg (by simp)]
  · rw [z5x, if_pos (decide_eq_true hlt), hg, Option.bind_some, w0z x (h1.2 x hx), Option.bind_some, z00 (hs _), z00 hok]
  · unfold za4
    refine (zc7 h.runs h4 (z5y h (zp9 h.tree (([] : List Int) ++ h.people) h.nets)) (zp9 h.tree (([] : List Int) ++ h.people) h.nets) (fun m s => ?_) (fun m i x s hg hx hlt hok hs => ?_)).trans rfl
    · rw [z5y, if_neg (by simp)]
    · rw [z5y, if_pos (decide_eq_true hlt), hg, Option.bind_some, Option.bind_some, y4n _ (h5 x hx), Option.bind_some, z00 (hs _), z00 hok]
theorem w8c (t : GTask) (h : t.small) : z6k t = some t := by
  unfold z6k
  rw [z2q _ h.1, Option.bind_some, z00 (y4l h.2.1), z2q _ h.2.2]; rfl
theorem wj7 (n : GNet) (h : n.small) : z7f n = some n := by
  unfold z7f
  refine zc7 n.tasks h.1 (z28 n.tasks (n.tasks.length : Int) (z84 n.places)) (z84 n.places) (fun m s => ?_) (fun m i x s hg hx hlt hok hs => ?_)
  · rw [z28, if_neg (by simp)]
  · rw [z28, if_pos (decide_eq_true hlt), hg, Option.bind_some, w8c x (h.2 x hx), Option.bind_some, z00 (hs _), z00 hok]
theorem yg6 (t : List GNode) (h : treeSmall t) : z6t t = some t := by
  unfold z6t
  refine zc7 t h.1 (z35 t (t.length : Int) z9h) z9h (fun m s => ?_) (fun m i x s hg hx hlt hok hs => ?_)
  · rw [z35, if_neg (by simp)]
  · rw [z35, if_pos (decide_eq_true hlt), hg, Option.bind_some, z2q _ (h.2 x hx), Option.bind_some, z00 (hs _), z00 hok]
theorem y7v (h : GHouse) (hs : houseSmall h) : z2m h = some h := by
  obtain ⟨h1, h2, h3, h4, h5⟩ := hs
  unfold z2m
  rw [z2q _ h2, Option.bind_some, yg6 _ h3, Option.bind_some]
  refine (zc7 h.nets h1.1 (z1k h.nets (h.nets.length : Int) (z4h h h.people h.tree)) (z4h h h.people h.tree) (fun m s => ?_) (fun m i x s hg hx hlt hok hs => ?_)).trans ?_
  · rw [z1k, if_neg (by simp)]
  · rw [z1k, if_pos (decide_eq_true hlt), hg, Option.bind_some, wj7 x (h1.2 x hx), Option.bind_some, z00 (hs _), z00 hok]
  · unfold z4h
    refine (zc7 h.runs h4 (z1l h.runs (h.runs.length : Int) (z6p h.people h.tree h.nets)) (z6p h.people h.tree h.nets) (fun m s => ?_) (fun m i x s hg hx hlt hok hs => ?_)).trans rfl
    · rw [z1l, if_neg (by simp)]
    · rw [z1l, if_pos (decide_eq_true hlt), hg, Option.bind_some, z8w _ (h5 x hx), Option.bind_some, z00 (hs _), z00 hok]
def newB (nets : List GNet) (people : List Int) : GHouse := bif netsB nets && pplB people then GHouse.mk nets people [] [] else GHouse.mk [] [] [] []
theorem v2e (nets : List GNet) (people : List Int) (h1 : netsSmall nets) (h2 : people.length ≤ SMALL) : zt9 nets people = some (newB nets people) := by
  unfold zt9 newB
  have := zc7 nets h1.1 (z5s nets (zp6 (([] : List Int) ++ people))) (zp6 (([] : List Int) ++ people))
    (fun m s => by rw [z5s, if_neg (by simp)])
    (fun m i x s hg hx hlt hok hs => by rw [z5s, if_pos (decide_eq_true hlt), hg, Option.bind_some, w0z x (h1.2 x hx), Option.bind_some, z00 (hs _), z00 hok])
  rw [w6i _ h1, yc2 _ h2, Option.bind_some, Option.bind_some, z00 (y4l h2), this]
  cases netsB nets <;> cases pplB people <;> rfl
theorem vc0 : rdrB [] = true := by decide
end Go.Am.Pl
end
section
namespace Go.Am.Pl
open Go
def noCase : GCase := GCase.mk 0 [] [] [] []
def newC (n : GNet) (data : List Int) : GCase := bif netB n && datOk data then GCase.mk 1 ((List.replicate n.places.toNat (0 : Int)).set 0 1) [] data [] else noCase
theorem v10 {n : GNet} (h : netB n = true) : getI (List.replicate n.places.toNat (0 : Int)) 0 = some (atI (List.replicate n.places.toNat (0 : Int)) 0) := by
  have := z5k h
  exact z0g _ (by omega) (by simp; omega)
theorem ym4 (n : GNet) (data : List Int) (hn : n.small) (hd : data.length ≤ SMALL) : z94 n data = some (newC n data) := by
  unfold z94 newC
  rw [y2i n hn, Option.bind_some]
  by_cases h1 : netB n = true
  case neg => rw [if_neg h1, Bool.eq_false_iff.2 h1]; rfl
  rw [if_pos h1, h1, z83 _ hd, Option.bind_some]
  by_cases h2 : datOk data = true
  case neg => rw [if_neg h2, Bool.eq_false_iff.2 h2]; rfl
  have := z5k h1
  rw [if_pos h2, h2, z00 (by omega), z00 (by simpa using hd), v10 h1]; rfl
theorem w4v (n : GNet) (data : List Int) (hn : n.small) (hd : data.length ≤ SMALL) : ze4 n data = some (newC n data) := by
  unfold ze4 newC
  rw [yb2 n hn, Option.bind_some]
  by_cases h1 : netB n = true
  case neg => rw [if_neg h1, Bool.eq_false_iff.2 h1]; rfl
  rw [if_pos h1, h1, zb0 _ hd, Option.bind_some]
  by_cases h2 : datOk data = true
  case neg => rw [if_neg h2, Bool.eq_false_iff.2 h2]; rfl
  have := z5k h1
  rw [if_pos h2, h2, z00 (by omega), z2q _ hd, Option.bind_some, v10 h1]; rfl
def nxt (tree : List GNode) (data : List Int) (a : Int) : Int := if expHolds (atI tree a).if_ data = true then (atI tree a).yes else (atI tree a).no
def wayL (tree : List GNode) (data : List Int) : Nat → Int → List Int
  | 0, _ => []
  | k + 1, a => if a = -1 then [] else a :: wayL tree data k (nxt tree data a)
def wayB (tree : List GNode) (data : List Int) : List Int := if tree.length = 0 then [] else wayL tree data 12 0
def holdI (tree : List GNode) (data : List Int) (a : Int) : Bool := expHolds (atI tree a).if_ data
def heldF (tree : List GNode) (data : List Int) (l : List Int) (h : Int) : Int := l.foldl (fun h a => if holdI tree data a = true then a else h) h
def lastF (l : List Int) (a : Int) : Int := l.foldl (fun _ x => x) a
def Vd (tree : List GNode) (a : Int) : Prop := a = -1 ∨ (0 ≤ a ∧ a < tree.length)
theorem wy5 (len : Int) : ∀ (l : List GNode) (i : Int) (j : Nat), nodesI len i l = true → j < l.length → nodeB len (i + j) (atI l j) = true
  | [], _, _, _, h => by simp at h
  | x :: l, i, 0, h, _ => by
    simp only [nodesI, Bool.and_eq_true] at h
    have : atI (x :: l) ((0 : Nat) : Int) = x := rfl
    rw [this]; simpa using h.1
  | x :: l, i, j + 1, h, hj => by
    simp only [nodesI, Bool.and_eq_true] at h
    have := wy5 len l (i + 1) j h.2 (by simpa using hj)
    have e : atI (x :: l) ((j + 1 : Nat) : Int) = atI l (j : Int) := by unfold atI; rw [z3h, z3h]; rfl
    rw [e, show i + ((j + 1 : Nat) : Int) = i + 1 + j by omega]; exact this
structure RdrFacts (tree : List GNode) : Prop where
  len : tree.length ≤ 12
  node : ∀ a : Int, 0 ≤ a → a < tree.length → nodeB tree.length a (atI tree a) = true
  ones : ∀ j : Nat, 0 < j → j < tree.length → cntL j tree = 1
theorem zb9 {tree : List GNode} (h : rdrB tree = true) : RdrFacts tree := by
  have h2 := w35 (fun j => cntL j tree) tree.length 0
  rw [← List.range_eq_range'] at h2
  simp only [rdrB, Bool.and_eq_true, decide_eq_true_eq] at h
  obtain ⟨a, b, c⟩ := h
  rw [show ((0 : Nat) : Int) = 0 from rfl] at h2
  have b := h2.1 b
  refine ⟨by omega, fun x h0 h1 => ?_, fun j h0 h1 => b j (by omega) (by omega) h0⟩
  have := wy5 tree.length tree 0 x.toNat a (by omega)
  rw [show (0 : Int) + (x.toNat : Int) = x by omega, show ((x.toNat : Nat) : Int) = x by omega] at this; exact this
theorem yb6 {len a : Int} {x : GNode} (h : nodeB len a x = true) : (x.yes = -1 ∨ (a + 1 ≤ x.yes ∧ x.yes ≤ len - 1)) ∧ (x.no = -1 ∨ (a + 1 ≤ x.no ∧ x.no ≤ len - 1)) := by
  simp only [nodeB, okN, Bool.and_eq_true, Bool.or_eq_true, decide_eq_true_eq, z0b] at h
  exact ⟨h.2.2.1, h.2.2.2⟩
theorem wy7 {tree : List GNode} (F : RdrFacts tree) (data : List Int) {a : Int} (h0 : 0 ≤ a) (h1 : a < tree.length) : nxt tree data a = -1 ∨ (a < nxt tree data a ∧ nxt tree data a < tree.length) := by
  have := yb6 (F.node a h0 h1)
  unfold nxt; split <;> omega
theorem v43 {tree : List GNode} (F : RdrFacts tree) (data : List Int) : ∀ (k : Nat) (a : Int), Vd tree a → ∀ p ∈ wayL tree data k a, 0 ≤ p ∧ p < tree.length
  | 0, _, _, p, hp => by simp [wayL] at hp
  | k + 1, a, ha, p, hp => by
    unfold wayL at hp
    split at hp
    · simp at hp
    · rename_i hne
      have hv : 0 ≤ a ∧ a < tree.length := ha.resolve_left hne
      rcases List.mem_cons.1 hp with rfl | hp
      · exact hv
      · have := wy7 F data hv.1 hv.2
        exact v43 F data k _ (by unfold Vd; omega) p hp
theorem w6l {tree : List GNode} (F : RdrFacts tree) (data : List Int) : ∀ (k m : Nat) (a : Int), Vd tree a → (tree.length : Int) - a ≤ k → (tree.length : Int) - a ≤ m → wayL tree data k a = wayL tree data m a
  | 0, m, a, ha, hk, hm => by
    have : a = -1 := by unfold Vd at ha; omega
    subst this
    cases m <;> simp [wayL]
  | k + 1, 0, a, ha, hk, hm => by
    have : a = -1 := by unfold Vd at ha; omega
    subst this
    simp [wayL]
  | k + 1, m + 1, a, ha, hk, hm => by
    unfold wayL
    split
    · rfl
    · rename_i hne
      have hv : 0 ≤ a ∧ a < tree.length := ha.resolve_left hne
      have := wy7 F data hv.1 hv.2
      by_cases e : nxt tree data a = -1
      · rw [e]; cases k <;> cases m <;> simp [wayL]
      · rw [w6l F data k m _ (by unfold Vd; omega) (by omega) (by omega)]
theorem v0u {tree : List GNode} (F : RdrFacts tree) (data : List Int) (hd : data.length ≤ SMALL) (k1 k2 : Int → Int → Option (Int × Int)) (e1 : ∀ a b, k1 a b = some (a, b)) (e2 : ∀ a b, k2 a b = some (a, b)) :
    ∀ (k : Nat) (f : Nat) (h b a : Int), k ≤ 12 → k < f → Vd tree a → z3d tree data k1 k2 f h b a (12 - k) = some (heldF tree data (wayL tree data k a) h, lastF (wayL tree data k a) b) := by
  intro k
  induction k with
  | zero =>
    intro f h b a hk hf ha
    obtain ⟨g, rfl⟩ : ∃ g, f = g + 1 := ⟨f - 1, by omega⟩
    rw [z3d, if_neg (by simp), e2]; rfl
  | succ k ih =>
    intro f h b a hk hf ha
    obtain ⟨g, rfl⟩ : ∃ g, f = g + 1 := ⟨f - 1, by omega⟩
    rw [z3d, if_pos (by rw [decide_eq_true_eq]; omega), wayL]
    by_cases hne : a = -1
    · rw [if_pos (decide_eq_true hne), if_pos hne, e1]; rfl
    · have hv : 0 ≤ a ∧ a < tree.length := ha.resolve_left hne
      have hg := z0g tree hv.1 hv.2
      have hn := wy7 F data hv.1 hv.2
      have hi : (12 : Int) - ((k + 1 : Nat) : Int) + 1 = 12 - k := by omega
      have ok : ok64 ((12 : Int) - k) := by constructor <;> omega
      rw [if_neg (by simpa using hne), if_neg hne, hg, Option.bind_some, z53 _ _ hd, Option.bind_some, Option.bind_some, Option.bind_some, hi, z00 ok, z00 ok]
      by_cases hh : expHolds (atI tree a).if_ data = true
      · have e : nxt tree data a = (atI tree a).yes := by unfold nxt; rw [if_pos hh]
        rw [e] at hn ⊢
        rw [if_pos hh, ih g a a _ (by omega) (by omega) (by unfold Vd; omega)]
        simp only [heldF, lastF, List.foldl_cons, holdI, hh, if_true]
      · have e : nxt tree data a = (atI tree a).no := by unfold nxt; rw [if_neg hh]
        rw [e] at hn ⊢
        rw [if_neg hh, ih g h a _ (by omega) (by omega) (by unfold Vd; omega)]
        simp [heldF, lastF, holdI, hh]
theorem yu0 {tree : List GNode} (F : RdrFacts tree) (data : List Int) (hd : data.length ≤ SMALL) : z7n tree data = some (heldF tree data (wayB tree data) (-1), lastF (wayB tree data) (-1)) := by
  unfold z7n wayB
  have hF := z2i
  by_cases h : tree.length = 0
  · rw [if_pos (decide_eq_true (by omega)), if_pos h]
    have := v0u F data hd y5h y5i (fun _ _ => rfl) (fun _ _ => rfl) 12 FUEL (-1) (-1) (-1) (by omega) (by omega) (.inl rfl)
    exact this
  · rw [if_neg (by rw [decide_eq_true_eq]; omega), if_neg h]
    exact v0u F data hd y5j y5k (fun _ _ => rfl) (fun _ _ => rfl) 12 FUEL (-1) (-1) 0 (by omega) (by omega) (.inr ⟨by omega, by omega⟩)
theorem v3c {tree : List GNode} (F : RdrFacts tree) (data : List Int) (hd : data.length ≤ SMALL) : y23 tree data = some (wayB tree data) := by
  unfold y23 wayB
  have hF := z2i
  by_cases h : tree.length = 0
  · obtain ⟨g, e⟩ : ∃ g, FUEL = g + 1 := ⟨FUEL - 1, by omega⟩
    rw [e, z2f, if_neg (by rw [decide_eq_true_eq]; omega), if_pos h]; rfl
  · have hpos : decide (0 < (tree.length : Int)) = true := decide_eq_true (by omega)
    have key : ∀ (k f : Nat) (a : Int) (l : List Int), Vd tree a → (tree.length : Int) - a ≤ k → k < f → l.length + k ≤ 1000 → z2f tree data z68 yr0 f a l = some (l ++ wayL tree data k a) := by
      intro k
      induction k with
      | zero =>
        intro f a l ha hk hf hl
        obtain ⟨g, rfl⟩ : ∃ g, f = g + 1 := ⟨f - 1, by omega⟩
        have : a = -1 := by unfold Vd at ha; omega
        rw [z2f, if_pos hpos, if_pos (decide_eq_true this)]; simp [wayL, z68]
      | succ k ih =>
        intro f a l ha hk hf hl
        obtain ⟨g, rfl⟩ : ∃ g, f = g + 1 := ⟨f - 1, by omega⟩
        rw [z2f, if_pos hpos, wayL]
        by_cases hne : a = -1
        · rw [if_pos (decide_eq_true hne), if_pos hne]; simp [z68]
        · have hv : 0 ≤ a ∧ a < tree.length := ha.resolve_left hne
          have hg := z0g tree hv.1 hv.2
          have hn := wy7 F data hv.1 hv.2
          rw [if_neg (by simpa using hne), if_neg hne, z00 (by rw [List.length_singleton]; unfold SMALL; omega), hg, Option.bind_some, z7c _ _ hd, Option.bind_some, Option.bind_some, Option.bind_some]
          by_cases hh : expHolds (atI tree a).if_ data = true
          · have e : nxt tree data a = (atI tree a).yes := by unfold nxt; rw [if_pos hh]
            rw [e] at hn ⊢
            rw [if_pos hh]
            by_cases e1 : (atI tree a).yes = -1
            · rw [e1]
              by_cases hk0 : k = 0
              · subst hk0
                obtain ⟨g2, rfl⟩ : ∃ g2, g = g2 + 1 := ⟨g - 1, by omega⟩
                rw [z2f, if_pos hpos, if_pos (by simp)]; simp [wayL, z68]
              · obtain ⟨g2, rfl⟩ : ∃ g2, g = g2 + 1 := ⟨g - 1, by omega⟩
                obtain ⟨k2, rfl⟩ : ∃ k2, k = k2 + 1 := ⟨k - 1, by omega⟩
                rw [z2f, if_pos hpos, if_pos (by simp)]; simp [wayL, z68]
            · rw [ih g _ (l ++ [a]) (by unfold Vd; omega) (by omega) (by omega) (by simp; omega)]; simp
          · have e : nxt tree data a = (atI tree a).no := by unfold nxt; rw [if_neg hh]
            rw [e] at hn ⊢
            rw [if_neg hh]
            by_cases e1 : (atI tree a).no = -1
            · rw [e1]
              by_cases hk0 : k = 0
              · subst hk0
                obtain ⟨g2, rfl⟩ : ∃ g2, g = g2 + 1 := ⟨g - 1, by omega⟩
                rw [z2f, if_pos hpos, if_pos (by simp)]; simp [wayL, z68]
              · obtain ⟨g2, rfl⟩ : ∃ g2, g = g2 + 1 := ⟨g - 1, by omega⟩
                obtain ⟨k2, rfl⟩ : ∃ k2, k = k2 + 1 := ⟨k - 1, by omega⟩
                rw [z2f, if_pos hpos, if_pos (by simp)]; simp [wayL, z68]
            · rw [ih g _ (l ++ [a]) (by unfold Vd; omega) (by omega) (by omega) (by simp; omega)]; simp
    rw [if_neg h, key tree.length FUEL 0 [] (.inr ⟨by omega, by omega⟩) (by omega) (by have := F.len; omega) (by have := F.len; simp; omega), List.nil_append]
    rw [w6l F data tree.length 12 0 (.inr ⟨by omega, by omega⟩) (by omega) (by have := F.len; omega)]
theorem wq0 {tree : List GNode} (F : RdrFacts tree) (data : List Int) : ∀ p ∈ wayB tree data, 0 ≤ p ∧ p < tree.length := by
  unfold wayB
  split
  · intro p hp; simp at hp
  · exact v43 F data 12 0 (.inr ⟨by omega, by omega⟩)
theorem v42 (tree : List GNode) (data : List Int) : ∀ (k : Nat) (a : Int), (wayL tree data k a).length ≤ k
  | 0, _ => by simp [wayL]
  | k + 1, a => by
    unfold wayL
    split
    · simp
    · have := v42 tree data k (nxt tree data a); simp; exact this
theorem v41 (tree : List GNode) (data : List Int) : (wayB tree data).length ≤ 12 := by
  unfold wayB
  split
  · simp
  · exact v42 _ _ _ _
theorem ww5 (tree : List GNode) (data : List Int) : ∀ (l : List Int) (h : Int), heldF tree data l h = h ∨ heldF tree data l h ∈ l
  | [], h => .inl rfl
  | a :: l, h => by
    have := ww5 tree data l (if holdI tree data a = true then a else h)
    have e : heldF tree data (a :: l) h = heldF tree data l (if holdI tree data a = true then a else h) := rfl
    rw [e]
    rcases this with h2 | h2
    · rw [h2]; split
      · exact .inr (by simp)
      · exact .inl rfl
    · exact .inr (by simp [h2])
theorem wy1 : ∀ (l : List Int) (a : Int), lastF l a = a ∨ lastF l a ∈ l
  | [], a => .inl rfl
  | x :: l, a => by
    have : lastF (x :: l) a = lastF l x := rfl
    rw [this]
    rcases wy1 l x with h | h
    · rw [h]; exact .inr (by simp)
    · exact .inr (by simp [h])
def heldB (tree : List GNode) (data : List Int) : Int := heldF tree data (wayB tree data) (-1)
def lastB (tree : List GNode) (data : List Int) : Int := lastF (wayB tree data) (-1)
theorem wj5 {tree : List GNode} (F : RdrFacts tree) (data : List Int) : Vd tree (heldB tree data) := by
  rcases ww5 tree data (wayB tree data) (-1) with h | h
  · exact .inl h
  · exact .inr (wq0 F data _ h)
def askB (tree : List GNode) (data : List Int) : Int := bif rdrB tree && datOk data then (if heldB tree data = -1 then 0 else (atI tree (heldB tree data)).ans) else 0
theorem v2h (tree : List GNode) (data : List Int) (ht : treeSmall tree) (hd : data.length ≤ SMALL) : zu2 tree data = some (askB tree data) := by
  unfold zu2 askB
  rw [yz8 tree ht, Option.bind_some]
  by_cases h1 : rdrB tree = true
  case neg => rw [if_neg h1, Bool.eq_false_iff.2 h1]; rfl
  rw [if_pos h1, h1, z83 _ hd, Option.bind_some]
  by_cases h2 : datOk data = true
  case neg => rw [if_neg h2, Bool.eq_false_iff.2 h2]; rfl
  have F := zb9 h1
  rw [if_pos h2, h2, yu0 F data hd, Option.bind_some]
  show (if decide (heldB tree data = -1) = true then _ else _) = _
  by_cases h3 : heldB tree data = -1
  · rw [if_pos (decide_eq_true h3)]; simp [h3]
  · have hv := (wj5 F data).resolve_left h3
    rw [if_neg (by simpa using h3)]
    show ((getI tree (heldB tree data)).bind _) = _
    rw [z0g tree hv.1 hv.2]; simp [h3]
theorem wx2 (tree : List GNode) (data : List Int) (ht : treeSmall tree) (hd : data.length ≤ SMALL) : zl7 tree data = some (bif rdrB tree && datOk data then heldB tree data else -1) := by
  unfold zl7 y4d
  rw [yx6 tree ht, Option.bind_some]
  have nil : z1z tree data [] (([] : List Int).length : Int) zk3 FUEL 0 (-1) = some (-1) := by
    obtain ⟨g, e⟩ : ∃ g, FUEL = g + 1 := ⟨FUEL - 1, by have := z2i; omega⟩
    rw [e, z1z, if_neg (by simp)]; rfl
  by_cases h1 : rdrB tree = true
  case neg => rw [if_neg h1, Bool.eq_false_iff.2 h1, Option.bind_some, nil]; rfl
  rw [if_pos h1, h1, zb0 _ hd, Option.bind_some]
  by_cases h2 : datOk data = true
  case neg => rw [if_neg h2, Bool.eq_false_iff.2 h2, Option.bind_some, nil]; rfl
  have F := zb9 h1
  have hl := v41 tree data
  rw [if_pos h2, h2, v3c F data hd, Option.bind_some, Option.bind_some]
  exact scan (wayB tree data) (by omega) (z1z tree data (wayB tree data) ((wayB tree data).length : Int) zk3) (fun _ suf h => some (heldF tree data suf h)) (fun _ _ => True)
    (fun f s _ => by rw [z1z, if_neg (by simp)]; rfl)
    (fun f pre x suf s a b c d _ k => by
      have hx := wq0 F data x (by rw [a]; simp)
      rw [z1z, if_pos (decide_eq_true c), b, Option.bind_some, z0g tree hx.1 hx.2, Option.bind_some, z7c _ _ hd, Option.bind_some, z00 d, z00 d, k _ trivial, k _ trivial]
      have e : heldF tree data (x :: suf) s = heldF tree data suf (if holdI tree data x = true then x else s) := rfl
      rw [e]; unfold holdI
      split <;> rfl) FUEL (-1) trivial (by have := z2i; omega)
theorem v1q (tree : List GNode) (data : List Int) (ht : treeSmall tree) (hd : data.length ≤ SMALL) : zt3 tree data = some (askB tree data) := by
  unfold zt3 askB
  rw [wx2 tree data ht hd, Option.bind_some]
  cases h : rdrB tree && datOk data
  · rfl
  · rw [Bool.and_eq_true] at h
    have F := zb9 h.1
    show (if decide (heldB tree data = -1) = true then _ else _) = some (if heldB tree data = -1 then 0 else (atI tree (heldB tree data)).ans)
    by_cases h3 : heldB tree data = -1
    · rw [if_pos (decide_eq_true h3)]; simp [h3]
    · have hv := (wj5 F data).resolve_left h3
      rw [if_neg (by simpa using h3)]
      show ((getI tree (heldB tree data)).bind _) = _
      rw [z0g tree hv.1 hv.2]; simp [h3]
theorem w9t (tree : List GNode) (data : List Int) : 0 ≤ askB tree data ∧ askB tree data ≤ 2 := by
  unfold askB
  cases h : rdrB tree && datOk data
  · simp
  · rw [Bool.and_eq_true] at h
    have F := zb9 h.1
    show 0 ≤ (if heldB tree data = -1 then 0 else (atI tree (heldB tree data)).ans) ∧ (if heldB tree data = -1 then 0 else (atI tree (heldB tree data)).ans) ≤ 2
    split
    · omega
    · rename_i h3
      have hv := (wj5 F data).resolve_left h3
      have := F.node _ hv.1 hv.2
      simp only [nodeB, Bool.and_eq_true, z0b] at this
      exact this.2.1
theorem yb4 {tree : List GNode} (F : RdrFacts tree) (data : List Int) (h : 0 < tree.length) : 0 ≤ lastB tree data ∧ lastB tree data < tree.length := by
  have e : wayB tree data = 0 :: wayL tree data 11 (nxt tree data 0) := by
    unfold wayB; rw [if_neg (by omega)]; rfl
  unfold lastB
  rw [e]
  have : lastF (0 :: wayL tree data 11 (nxt tree data 0)) (-1) = lastF (wayL tree data 11 (nxt tree data 0)) 0 := rfl
  rw [this]
  rcases wy1 (wayL tree data 11 (nxt tree data 0)) 0 with h2 | h2
  · rw [h2]; omega
  · exact wq0 F data _ (by rw [e]; simp [h2])
theorem wa4 : ∀ (l : List Int) (a : Int), 0 < l.length → getI l ((l.length : Int) - 1) = some (lastF l a)
  | [x], a, _ => rfl
  | x :: y :: l, a, _ => by
    have := wa4 (y :: l) x (by simp)
    have e : lastF (x :: y :: l) a = lastF (y :: l) x := rfl
    rw [e, ← this]
    have h1 : (((x :: y :: l).length : Nat) : Int) - 1 = ((l.length + 1 : Nat) : Int) := by simp
    have h2 : (((y :: l).length : Nat) : Int) - 1 = ((l.length : Nat) : Int) := by simp
    rw [h1, h2, z3h, z3h]; rfl
theorem wx5 {tree : List GNode} (F : RdrFacts tree) (data : List Int) (hd : data.length ≤ SMALL) (h : 0 < tree.length) : zx0 tree data = some (lastB tree data, holdI tree data (lastB tree data)) := by
  have hv := yb4 F data h
  have hl := v41 tree data
  have e : 0 < (wayB tree data).length := by
    unfold wayB; rw [if_neg (by omega)]; simp [wayL]
  unfold zx0
  rw [v3c F data hd, Option.bind_some, z00 (by constructor <;> omega), wa4 _ (-1) e, Option.bind_some]
  show ((getI tree (lastB tree data)).bind _) = _
  rw [z0g tree hv.1 hv.2, Option.bind_some, z7c _ _ hd, Option.bind_some]; rfl
def sameB (tree : List GNode) (a b : List Int) : Bool := decide (lastB tree a = lastB tree b) && (holdI tree a (lastB tree a) == holdI tree b (lastB tree b))
theorem v86 {tree : List GNode} (F : RdrFacts tree) (a b : List Int) (ha : a.length ≤ SMALL) (hb : b.length ≤ SMALL) (h : 0 < tree.length) : zu6 tree a b = some (sameB tree a b) := by
  have hv := yb4 F a h
  unfold zu6 sameB
  rw [yu0 F a ha, Option.bind_some, yu0 F b hb, Option.bind_some]
  show (if decide (lastB tree a = lastB tree b) = true then (if decide (lastB tree a = -1) = true then _ else ((getI tree (lastB tree a)).bind _)) else _) = _
  by_cases e : lastB tree a = lastB tree b
  · rw [if_pos (decide_eq_true e), if_neg (by rw [decide_eq_true_eq]; omega), z0g tree hv.1 hv.2, Option.bind_some, z53 _ _ ha, Option.bind_some]
    show ((getI tree (lastB tree a)).bind _) = _
    rw [z0g tree hv.1 hv.2, Option.bind_some, z53 _ _ hb, Option.bind_some, decide_eq_true e, Bool.true_and, ← e]; rfl
  · rw [if_neg (by simpa using e), decide_eq_false e]; rfl
def newN (e : GAsk) (ans : Int) (data : List Int) : GNode := GNode.mk e (-1) (-1) ans data
def putN (tree : List GNode) (data : List Int) : List GNode :=
  if tree.length = 0 then tree
  else if holdI tree data (lastB tree data) = true then tree.set (lastB tree data).toNat (GNode.mk (atI tree (lastB tree data)).if_ tree.length (atI tree (lastB tree data)).no (atI tree (lastB tree data)).ans (atI tree (lastB tree data)).stone)
  else tree.set (lastB tree data).toNat (GNode.mk (atI tree (lastB tree data)).if_ (atI tree (lastB tree data)).yes tree.length (atI tree (lastB tree data)).ans (atI tree (lastB tree data)).stone)
theorem v3q (tree : List GNode) (data : List Int) : (putN tree data).length = tree.length := by unfold putN; split; rfl; split <;> simp
def addOk (tree : List GNode) (data : List Int) (e : GAsk) (ans : Int) : Bool := rdrB tree && (datOk data && (expHolds e data && (inB ans 0 2 && !decide ((tree.length : Int) = 12))))
def takenB (tree : List GNode) (data : List Int) (e : GAsk) : Bool := tree.any (fun x => sameB tree x.stone data && expHolds e x.stone)
def addB (tree : List GNode) (data : List Int) (e : GAsk) (ans : Int) : List GNode × Bool :=
  bif addOk tree data e ans && !takenB tree data e then (putN tree data ++ [newN e ans data], true) else (tree, false)
theorem w6g (tree : List GNode) (data : List Int) (e : GAsk) (ans : Int) (ht : treeSmall tree) (hd : data.length ≤ SMALL) : z7k tree data e ans = some (addB tree data e ans) := by
  unfold z7k addB addOk
  rw [yt8 tree ht, Option.bind_some, yz8 tree ht, Option.bind_some]
  by_cases h1 : rdrB tree = true
  case neg => rw [if_neg h1, Bool.eq_false_iff.2 h1]; rfl
  have F := zb9 h1
  rw [if_pos h1, h1, z83 _ hd, Option.bind_some]
  by_cases h2 : datOk data = true
  case neg => rw [if_neg h2, Bool.eq_false_iff.2 h2]; rfl
  rw [if_pos h2, h2, z53 _ _ hd, Option.bind_some]
  by_cases h3 : expHolds e data = true
  case neg => rw [if_neg h3, Bool.eq_false_iff.2 h3]; rfl
  rw [if_pos h3, h3, z2j, Option.bind_some]
  by_cases h4 : inB ans 0 2 = true
  case neg => rw [if_neg h4, Bool.eq_false_iff.2 h4]; rfl
  rw [if_pos h4, h4]
  by_cases h5 : (tree.length : Int) = 12
  · rw [if_pos (decide_eq_true h5), decide_eq_true h5]; rfl
  rw [if_neg (by simpa using h5), decide_eq_false h5]
  have hl := F.len
  have loop := scan0 tree (by omega) (z4q tree data e tree (za1 tree data e ans tree)) (fun _ suf => if suf.any (fun x => sameB tree x.stone data && expHolds e x.stone) = true then some (tree, false) else za1 tree data e ans tree)
    (fun f => by rw [z4q, if_neg (by simp)]; rfl)
    (fun f pre x suf a b c d ih => by
      have hx : x ∈ tree := by rw [a]; simp
      rw [z4q, if_pos (decide_eq_true c), b, Option.bind_some, v86 F x.stone data (ht.2 x hx) hd (by omega), Option.bind_some, Option.bind_some, z53 _ _ (ht.2 x hx), Option.bind_some, z00 d, ih, List.any_cons]
      cases sameB tree x.stone data <;> cases expHolds e x.stone <;> simp)
  rw [loop]
  show (if takenB tree data e = true then _ else _) = _
  cases takenB tree data e
  case true => rfl
  rw [if_neg (by simp)]
  unfold za1
  rw [yu0 F data hd, Option.bind_some]
  show (if decide (lastB tree data = -1) = true then _ else ((getI tree (lastB tree data)).bind _)) = some (putN tree data ++ [newN e ans data], true)
  have g1 : ([] : List Int).length + data.length ≤ SMALL := by simpa using hd
  have g2 : ∀ (l : List GNode) (y : GNode), l.length = tree.length → l.length + [y].length ≤ SMALL := fun l y h => by rw [List.length_singleton]; unfold SMALL; omega
  unfold putN newN
  by_cases h0 : tree.length = 0
  · have : lastB tree data = -1 := by unfold lastB wayB; rw [if_pos h0]; rfl
    rw [if_pos (decide_eq_true this), z00 g1, z00 (g2 _ _ rfl), if_pos h0]; rfl
  · have hv := yb4 F data (by omega)
    have hg := z0g tree hv.1 hv.2
    rw [if_neg (by rw [decide_eq_true_eq]; omega), if_neg h0, hg, Option.bind_some, z53 _ _ hd, Option.bind_some]
    show (if holdI tree data (lastB tree data) = true then ((getI tree (lastB tree data)).bind _) else ((getI tree (lastB tree data)).bind _)) = _
    rw [hg, Option.bind_some, Option.bind_some, z00 g1, z00 (g2 _ _ (by simp)), z00 g1, z00 (g2 _ _ (by simp))]
    split <;> rfl
theorem v1p (tree : List GNode) (data : List Int) (e : GAsk) (ans : Int) (ht : treeSmall tree) (hd : data.length ≤ SMALL) : zt2 tree data e ans = some (addB tree data e ans) := by
  unfold zt2 addB addOk z4d
  rw [yg6 tree ht, Option.bind_some, yx6 tree ht, Option.bind_some]
  by_cases h1 : rdrB tree = true
  case neg => rw [if_neg h1, Bool.eq_false_iff.2 h1]; rfl
  have F := zb9 h1
  rw [if_pos h1, h1, zb0 _ hd, Option.bind_some]
  by_cases h2 : datOk data = true
  case neg => rw [if_neg h2, Bool.eq_false_iff.2 h2]; rfl
  rw [if_pos h2, h2, z5m, Option.bind_some, Option.bind_some]
  by_cases h4 : inB ans 0 2 = true
  case neg => rw [if_neg h4, Bool.eq_false_iff.2 h4]; simp
  rw [if_pos h4, h4, z7c _ _ hd, Option.bind_some]
  by_cases h3 : expHolds e data = true
  case neg => rw [if_neg h3, Bool.eq_false_iff.2 h3]; rfl
  rw [if_pos h3, h3]
  by_cases h5 : (tree.length : Int) = 12
  · rw [if_pos (decide_eq_true h5), decide_eq_true h5]; rfl
  rw [if_neg (by simpa using h5), decide_eq_false h5]
  have hl := F.len
  have g2 : ∀ (l : List GNode) (y : GNode), l.length = tree.length → l.length + [y].length ≤ SMALL := fun l y h => by rw [List.length_singleton]; unfold SMALL; omega
  by_cases h0 : tree.length = 0
  · have hn : tree = [] := List.length_eq_zero_iff.1 h0
    rw [if_neg (by rw [decide_eq_true_eq]; omega), z2q _ hd, Option.bind_some, z00 (g2 _ _ rfl)]
    subst hn
    simp [takenB, putN, newN]
  have hv := yb4 F data (by omega)
  have hg := z0g tree hv.1 hv.2
  rw [if_pos (by rw [decide_eq_true_eq]; omega), wx5 F data hd (by omega), Option.bind_some]
  have loop := scan0 tree (by omega) (z3b tree e tree (lastB tree data) (holdI tree data (lastB tree data)) tree (tree.length : Int) (z9z tree data e ans tree (lastB tree data) (holdI tree data (lastB tree data)))) (fun _ suf => if suf.any (fun x => sameB tree x.stone data && expHolds e x.stone) = true then some (tree, false) else z9z tree data e ans tree (lastB tree data) (holdI tree data (lastB tree data)))
    (fun f => by rw [z3b, if_neg (by simp)]; rfl)
    (fun f pre x suf a b c d ih => by
      have hx : x ∈ tree := by rw [a]; simp
      rw [z3b, if_pos (decide_eq_true c), b, Option.bind_some, wx5 F x.stone (ht.2 x hx) (by omega), Option.bind_some, z7c _ _ (ht.2 x hx), Option.bind_some, z00 d, ih, List.any_cons]
      unfold sameB
      by_cases e1 : lastB tree x.stone = lastB tree data
      · rw [if_pos (decide_eq_true e1), decide_eq_true e1]
        cases (holdI tree x.stone (lastB tree x.stone) == holdI tree data (lastB tree data)) <;> cases expHolds e x.stone <;> simp
      · rw [if_neg (by simpa using e1), decide_eq_false e1]; simp)
  rw [loop]
  show (if takenB tree data e = true then _ else _) = _
  cases takenB tree data e
  case true => rfl
  rw [if_neg (by simp)]
  unfold z9z
  show _ = some (putN tree data ++ [newN e ans data], true)
  unfold putN newN
  rw [if_neg h0, hg, Option.bind_some, z2q _ hd, Option.bind_some, Option.bind_some, Option.bind_some, z00 (g2 _ _ (by simp)), z00 (g2 _ _ (by simp))]
  split <;> rfl
end Go.Am.Pl
end
