/- Plain laws. Own work. -/
import Derived.Test.YtcbpckbehdaloaaGreatEdC2
section
set_option maxRecDepth 100000
set_option linter.unusedVariables false
set_option linter.unusedSimpArgs false
namespace Go.Am.Pl
open Go
theorem z0c6 {α : Type} (pre : List α) (x : α) (suf : List α) : getI (pre ++ x :: suf) (pre.length : Int) = some x := by
  rw [z08t]; simp
theorem scan {α β σ : Type} (l : List α) (hl : l.length ≤ 4611686018427387000) (f : Nat → Int → σ → Option β) (g : List α → List α → σ → Option β) (Inv : List α → σ → Prop)
    (h0 : ∀ n s, Inv l s → f (n + 1) (l.length : Int) s = g l [] s)
    (h1 : ∀ n pre x suf s, l = pre ++ x :: suf → getI l (pre.length : Int) = some x → ((pre.length : Int) < (l.length : Int)) → ok64 ((pre.length : Int) + 1) → Inv pre s →
      (∀ s', Inv (pre ++ [x]) s' → f n ((pre.length : Int) + 1) s' = g (pre ++ [x]) suf s') → f (n + 1) (pre.length : Int) s = g pre (x :: suf) s) :
    ∀ n s, Inv [] s → l.length < n → f n 0 s = g [] l s := by
  have key : ∀ suf pre n s, l = pre ++ suf → Inv pre s → suf.length < n → f n (pre.length : Int) s = g pre suf s := by
    intro suf
    induction suf with
    | nil =>
      intro pre n s hp hi hn
      obtain ⟨m, rfl⟩ : ∃ m, n = m + 1 := ⟨n - 1, by simp at hn; omega⟩
      simp only [List.append_nil] at hp
      subst hp
      exact h0 m s hi
    | cons x suf ih =>
      intro pre n s hp hi hn
      obtain ⟨m, rfl⟩ : ∃ m, n = m + 1 := ⟨n - 1, by simp at hn; omega⟩
      have hlen : l.length = pre.length + suf.length + 1 := by rw [hp]; simp; omega
      refine h1 m pre x suf s hp (by rw [hp]; exact z0c6 pre x suf) (by omega) (by constructor <;> omega) hi ?_
      intro s' hi'
      have := ih (pre ++ [x]) m s' (by rw [hp]; simp) hi' (by simp at hn; omega)
      rw [← this]; simp
  intro n s hi hn
  exact key l [] n s (by simp) hi hn
theorem scan0 {α β : Type} (l : List α) (hl : l.length ≤ 4611686018427387000) (f : Nat → Int → Option β) (g : List α → List α → Option β)
    (h0 : ∀ n, f (n + 1) (l.length : Int) = g l [])
    (h1 : ∀ n pre x suf, l = pre ++ x :: suf → getI l (pre.length : Int) = some x → ((pre.length : Int) < (l.length : Int)) → ok64 ((pre.length : Int) + 1) →
      f n ((pre.length : Int) + 1) = g (pre ++ [x]) suf → f (n + 1) (pre.length : Int) = g pre (x :: suf)) :
    f FUEL 0 = g [] l :=
  scan l hl (fun n i (_ : Unit) => f n i) (fun a b _ => g a b) (fun _ _ => True) (fun n s _ => h0 n) (fun n pre x suf s a b c d e k => h1 n pre x suf a b c d (k () trivial)) FUEL () trivial (by have := z02j; omega)
def inB (n a b : Int) : Bool := decide (a ≤ n ∧ n ≤ b)
theorem z054 (n a b : Int) : z002 n a b = some (inB n a b) := by
  unfold z002 inB; by_cases h : a ≤ n <;> simp [h]
theorem z083 (n a b : Int) : z00b n a b = some (inB n a b) := by
  unfold z00b inB; by_cases h : a ≤ n <;> simp [h]
theorem iteB (a b : Bool) : (if a = true then some b else some false) = some (a && b) := by cases a <;> rfl
theorem iteN (a b : Bool) : (if a = true then some false else some b) = some (!a && b) := by cases a <;> rfl
def anyIdx {α : Type} (q : α → Bool) : List α → Int → Int
  | [], _ => -1
  | x :: l, i => if q x then i else anyIdx q l (i + 1)
theorem z07k {α : Type} (q : α → Bool) : ∀ (l : List α) (i : Int), 0 ≤ i → (decide (0 ≤ anyIdx q l i)) = l.any q
  | [], i, _ => by simp [anyIdx]
  | x :: l, i, h => by
    by_cases hx : q x = true
    · simp [anyIdx, hx, h]
    · simp [anyIdx, hx, z07k q l (i + 1) (by omega)]
theorem z1sz (s : List Int) (hs : s.length ≤ SMALL) (p : Int → Option Bool) (q : Int → Bool) (hp : ∀ x ∈ s, p x = some (q x)) : z0ei s p = some (anyIdx q s 0) := by
  unfold z0ei
  have := scan0 s (by unfold SMALL at hs; omega) (z05g s p (s.length : Int) z0m0) (fun pre suf => some (anyIdx q suf pre.length))
    (fun n => by rw [z05g, if_neg (by simp)]; rfl)
    (fun n pre x suf hl hg hlt hok ih => by
      rw [z05g, if_pos (decide_eq_true hlt), hg, Option.bind_some, hp x (by rw [hl]; simp), Option.bind_some, z001 hok, ih, anyIdx]
      by_cases hx : q x = true
      · rw [if_pos hx, if_pos hx]
      · rw [if_neg hx, if_neg hx]; simp)
  simpa using this
theorem z09g (s : List Int) (hs : s.length ≤ SMALL) (p : Int → Option Bool) (q : Int → Bool) (hp : ∀ x ∈ s, p x = some (q x)) : z020 s p = some (s.any q) := by
  unfold z020
  rw [z1sz s hs p q hp, Option.bind_some, z07k q s 0 (Int.le_refl _)]
theorem z170 (s : List GTask) (hs : s.length ≤ SMALL) (p : GTask → Option Bool) (q : GTask → Bool) (hp : ∀ x ∈ s, p x = some (q x)) : z08l s p = some (anyIdx q s 0) := by
  unfold z08l
  have := scan0 s (by unfold SMALL at hs; omega) (z028 s p (s.length : Int) z0dl) (fun pre suf => some (anyIdx q suf pre.length))
    (fun n => by rw [z028, if_neg (by simp)]; rfl)
    (fun n pre x suf hl hg hlt hok ih => by
      rw [z028, if_pos (decide_eq_true hlt), hg, Option.bind_some, hp x (by rw [hl]; simp), Option.bind_some, z001 hok, ih, anyIdx]
      by_cases hx : q x = true
      · rw [if_pos hx, if_pos hx]
      · rw [if_neg hx, if_neg hx]; simp)
  simpa using this
theorem z0wz (s : List GTask) (hs : s.length ≤ SMALL) (p : GTask → Option Bool) (q : GTask → Bool) (hp : ∀ x ∈ s, p x = some (q x)) : z06e s p = some (s.any q) := by
  unfold z06e
  rw [z170 s hs p q hp, Option.bind_some, z07k q s 0 (Int.le_refl _)]
theorem z1au (s : List GNet) (hs : s.length ≤ SMALL) (p : GNet → Option Bool) (q : GNet → Bool) (hp : ∀ x ∈ s, p x = some (q x)) : z09l s p = some (anyIdx q s 0) := by
  unfold z09l
  have := scan0 s (by unfold SMALL at hs; omega) (z02q s p (s.length : Int) z0eh) (fun pre suf => some (anyIdx q suf pre.length))
    (fun n => by rw [z02q, if_neg (by simp)]; rfl)
    (fun n pre x suf hl hg hlt hok ih => by
      rw [z02q, if_pos (decide_eq_true hlt), hg, Option.bind_some, hp x (by rw [hl]; simp), Option.bind_some, z001 hok, ih, anyIdx]
      by_cases hx : q x = true
      · rw [if_pos hx, if_pos hx]
      · rw [if_neg hx, if_neg hx]; simp)
  simpa using this
theorem z10a (s : List GNet) (hs : s.length ≤ SMALL) (p : GNet → Option Bool) (q : GNet → Bool) (hp : ∀ x ∈ s, p x = some (q x)) : z07f s p = some (s.any q) := by
  unfold z07f
  rw [z1au s hs p q hp, Option.bind_some, z07k q s 0 (Int.le_refl _)]
theorem z16z (s : List GItem) (hs : s.length ≤ SMALL) (p : GItem → Option Bool) (q : GItem → Bool) (hp : ∀ x ∈ s, p x = some (q x)) : z08k s p = some (anyIdx q s 0) := by
  unfold z08k
  have := scan0 s (by unfold SMALL at hs; omega) (z027 s p (s.length : Int) z0dk) (fun pre suf => some (anyIdx q suf pre.length))
    (fun n => by rw [z027, if_neg (by simp)]; rfl)
    (fun n pre x suf hl hg hlt hok ih => by
      rw [z027, if_pos (decide_eq_true hlt), hg, Option.bind_some, hp x (by rw [hl]; simp), Option.bind_some, z001 hok, ih, anyIdx]
      by_cases hx : q x = true
      · rw [if_pos hx, if_pos hx]
      · rw [if_neg hx, if_neg hx]; simp)
  simpa using this
theorem z0wy (s : List GItem) (hs : s.length ≤ SMALL) (p : GItem → Option Bool) (q : GItem → Bool) (hp : ∀ x ∈ s, p x = some (q x)) : z06d s p = some (s.any q) := by
  unfold z06d
  rw [z16z s hs p q hp, Option.bind_some, z07k q s 0 (Int.le_refl _)]
theorem z255 (s : List Int) (hs : s.length ≤ SMALL) (v : Int) : z11a s v = some (anyIdx (fun x => decide (v = x)) s 0) := by
  unfold z11a
  have := scan0 s (by unfold SMALL at hs; omega) (z0aw s v (s.length : Int) z15f) (fun pre suf => some (anyIdx (fun x => decide (v = x)) suf pre.length))
    (fun n => by rw [z0aw, if_neg (by simp)]; rfl)
    (fun n pre x suf hl hg hlt hok ih => by
      rw [z0aw, if_pos (decide_eq_true hlt), hg, Option.bind_some, z001 hok, ih, anyIdx]
      by_cases hx : decide (v = x) = true
      · rw [if_pos hx, if_pos hx]
      · rw [if_neg hx, if_neg hx]; simp)
  simpa using this
theorem z11h (s : List Int) (hs : s.length ≤ SMALL) (v : Int) : z0au s v = some (s.any (fun x => decide (v = x))) := by
  unfold z0au
  rw [z255 s hs, Option.bind_some, z07k _ s 0 (Int.le_refl _)]
def datOk (l : List Int) : Bool := decide (l.length = 3) && l.all (fun x => inB x (-99) 99)
theorem z0a3 (l : List Int) (hl : l.length ≤ SMALL) : z02b l = some (datOk l) := by
  unfold z02b datOk
  have := scan0 l (by unfold SMALL at hl; omega) (z071 l z0q9) (fun _ suf => some (suf.all (fun x => inB x (-99) 99)))
    (fun n => by rw [z071, if_neg (by simp)]; rfl)
    (fun n pre x suf hl hg hlt hok ih => by
      rw [z071, if_pos (decide_eq_true hlt), hg, Option.bind_some, z054, Option.bind_some, z001 hok, ih, iteB, List.all_cons])
  rw [this]
  rw [iteB]
  congr 2
  exact decide_eq_decide.2 (by omega)
theorem z0gy (n : Int) : z053 n = some (inB n (-99) 99) := by unfold z053; rw [z083]; rfl
theorem z0g2 {α : Type} (l : List α) (q : α → Bool) : (!l.any (fun x => !q x)) = l.all q := by
  induction l with
  | nil => rfl
  | cons x l ih => rw [List.any_cons, List.all_cons, ← ih]; cases q x <;> simp
theorem z0df (l : List Int) (hl : l.length ≤ SMALL) : z03t l = some (datOk l) := by
  unfold z03t datOk
  rw [z09g l hl _ (fun n => !inB n (-99) 99) (fun x _ => by unfold z0hc; rw [z0gy]; rfl), Option.bind_some, z0g2, iteB]
  congr 2
  exact decide_eq_decide.2 (by omega)
def expOk (e : GAsk) : Bool := bif decide (e.op = 0) then decide (e.var = 0) && decide (e.k = 0) else inB e.op 1 3 && inB e.var 0 2 && inB e.k (-99) 99
theorem z0wf (e : GAsk) : z07v e = some (expOk e) := by
  unfold z07v expOk
  simp only [z054, Option.bind_some, iteB]
  by_cases h : e.op = 0
  · simp [h]
  · simp [h, Bool.and_assoc]
theorem z13c (e : GAsk) : z07p e = some (expOk e) := by
  unfold z07p expOk
  simp only [z083, z0gy, Option.bind_some, iteB]
  by_cases h : e.op = 0
  · simp [h]
  · simp [h, Bool.and_assoc]
end Go.Am.Pl
end
section
set_option maxRecDepth 100000
set_option linter.unusedVariables false
set_option linter.unusedSimpArgs false
namespace Go.Am.Pl
open Go
def asc (high : Int) : Int → List Int → Bool
  | _, [] => true
  | p, x :: l => inB x (p + 1) high && asc high x l
def ascS (low high : Int) : Option Int → List Int → Bool
  | _, [] => true
  | p, x :: l => inB x low high && (p.all (fun y => decide (y < x)) && ascS low high (some x) l)
theorem z1wl (low high : Int) : ∀ (l : List Int) (p : Option Int), (∀ y, p = some y → low ≤ y) → ascS low high p l = asc high (p.getD (low - 1)) l
  | [], p, _ => rfl
  | x :: l, p, h => by
    simp only [ascS, asc]
    by_cases hx : low ≤ x
    · rw [z1wl low high l (some x) (fun y hy => by cases hy; exact hx), ← Bool.and_assoc]
      congr 1
      cases p with
      | none => simp [inB]
      | some y => have := h y rfl; rw [Bool.eq_iff_iff]; simp [inB]; omega
    · have h1 : inB x low high = false := by simp [inB]; omega
      have h2 : inB x (p.getD (low - 1) + 1) high = false := by
        cases p with
        | none => simp [inB]; omega
        | some y => have := h y rfl; simp [inB]; omega
      rw [h1, h2]; rfl
theorem z223 (high : Int) : ∀ (l : List Int) (p : Int), p ≤ high → asc high p l = true → (l.length : Int) ≤ high - p
  | [], p, h, _ => by simp; omega
  | x :: l, p, h, ha => by
    simp only [asc, Bool.and_eq_true, inB, decide_eq_true_eq] at ha
    have := z223 high l x ha.1.2 ha.2
    simp only [List.length_cons]; omega
theorem z20o {α : Type} (pre : List α) (y : α) (suf : List α) : getI (pre ++ y :: suf) ((((pre ++ [y]).length : Nat) : Int) - 1) = some y := by
  have : ((((pre ++ [y]).length : Nat) : Int) - 1) = (pre.length : Int) := by simp
  rw [this]; exact z0c6 pre y suf
theorem z16l (l : List Int) (least most low high : Int) (hl : l.length ≤ SMALL) : z09u l least most low high = some (inB l.length least most && asc high (low - 1) l) := by
  unfold z09u
  have := scan0 l (by unfold SMALL at hl; omega) (z02z l low high z0iu) (fun pre suf => some (ascS low high pre.getLast? suf))
    (fun n => by rw [z02z, if_neg (by simp)]; rfl)
    (fun n pre x suf hl hg hlt hok ih => by
      rw [z02z, if_pos (decide_eq_true hlt), hg]
      simp only [Option.bind_some, z054, z001 hok, ih]
      rw [ascS]
      by_cases hx : inB x low high = true
      · rw [if_pos hx, hx, Bool.true_and]
        rcases List.eq_nil_or_concat pre with rfl | ⟨pre', y, rfl⟩
        · simp
        · simp only [List.concat_eq_append] at hl hlt hg hok ih ⊢
          have h1 : (((pre' ++ [y]).length : Nat) : Int) = (pre'.length : Int) + 1 := by simp
          have h2 : getI l ((((pre' ++ [y]).length : Nat) : Int) - 1) = some y := by rw [hl, List.append_assoc]; exact z20o pre' y _
          rw [if_pos (decide_eq_true (by omega)), z001 (by constructor <;> omega), h2]
          simp only [Option.bind_some]
          by_cases hy : x ≤ y
          · rw [if_pos (decide_eq_true hy)]; simp; omega
          · rw [if_neg (by simpa using hy)]; simp; omega
      · rw [if_neg hx, Bool.eq_false_iff.2 hx]; rfl)
  rw [this, z054, Option.bind_some, iteB, z1wl low high l _ (fun y hy => by simp at hy)]
  rfl
theorem z16k (l : List Int) (k : Int) (hl : l.length ≤ SMALL) : z0b1 l k = some (l.any (fun x => decide (x = k))) := by
  unfold z0b1
  exact scan0 l (by unfold SMALL at hl; omega) (z076 l k z0qj) (fun _ suf => some (suf.any (fun x => decide (x = k))))
    (fun n => by rw [z076, if_neg (by simp)]; rfl)
    (fun n pre x suf hl hg hlt hok ih => by
      rw [z076, if_pos (decide_eq_true hlt), hg, Option.bind_some, z001 hok, ih, List.any_cons]
      by_cases hx : x = k <;> simp [hx])
def ascW (high : Int) (w : List Int) : Int → List Int → Bool
  | _, [] => true
  | p, x :: l => inB x (p + 1) high && (!w.any (fun y => decide (x = y)) && ascW high w x l)
theorem z1m0 (high : Int) (w : List Int) : ∀ (l : List Int) (p : Int), ascW high w p l = (asc high p l && !l.any (fun x => w.any (fun y => decide (x = y))))
  | [], p => rfl
  | x :: l, p => by
    simp only [ascW, asc, List.any_cons, z1m0 high w l x]
    cases inB x (p + 1) high <;> cases w.any (fun y => decide (x = y)) <;> cases asc high x l <;> cases l.any (fun x => w.any (fun y => decide (x = y))) <;> rfl
theorem z13g (l : List Int) (places : Int) (w : List Int) (hl : l.length ≤ SMALL) (hw : w.length ≤ SMALL) (hp : 0 ≤ places ∧ places ≤ 100) :
    z09p l places w = some (ascW (places - 1) w (-1) l) := by
  unfold z09p
  have := scan l (by unfold SMALL at hl; omega) (fun n i s => z04b l places w (l.length : Int) z0io n i s) (fun _ suf s => some (ascW (places - 1) w s suf)) (fun _ s => -1 ≤ s ∧ s ≤ 100)
    (fun n s _ => by rw [z04b, if_neg (by simp)]; rfl)
    (fun n pre x suf s hl hg hlt hok hi ih => by
      rw [z04b, if_pos (decide_eq_true hlt), hg, Option.bind_some, z001 (by constructor <;> omega), z001 (by constructor <;> omega), z083, Option.bind_some, z11h w hw, Option.bind_some, z001 hok, ascW]
      by_cases hx : inB x (s + 1) (places - 1) = true
      · have hx' : s + 1 ≤ x ∧ x ≤ places - 1 := by simpa [inB] using hx
        rw [if_pos hx, hx, Bool.true_and, ih x ⟨by omega, by omega⟩, iteN]
      · rw [if_neg hx, Bool.eq_false_iff.2 hx]; rfl) FUEL (-1) ⟨by omega, by omega⟩ (by have := z02j; unfold SMALL at hl; omega)
  exact this
theorem z0a0 {α : Type} {l : List α} (h : l.length ≤ SMALL) : ok64 ((l.length : Int) - 1) := by unfold SMALL at h; constructor <;> omega
theorem ok_pl {places : Int} (hp : 0 ≤ places ∧ places ≤ 100) : ok64 (places - 1) := by constructor <;> omega
def flowsB (t : GTask) (places : Int) : List GFlow → List GFlow → Bool
  | _, [] => true
  | pre, x :: suf => inB x.to 1 (places - 1) && (expOk x.if_ && (((decide (t.split = 1) || suf.isEmpty) == decide (x.if_.op = 0)) && (!pre.any (fun y => decide (y.to = x.to)) && flowsB t places (pre ++ [x]) suf)))
theorem z20p {α : Type} {l pre suf : List α} {k : Int} {x : α} (hl : l = pre ++ suf) (h : getI pre k = some x) : getI l k = some x := by
  obtain ⟨h0, h1, h2⟩ := z0gx h
  unfold getI; rw [if_pos h0, hl, List.getElem?_append_left h1]; exact h2
theorem z1fj (t : GTask) (pre suf : List GFlow) (hl : t.out = pre ++ suf) (hs : t.out.length ≤ SMALL) (x : GFlow) (i : Int) (hi : i = pre.length) (kx : Option Bool) :
    z024 t i x kx FUEL 0 = if (pre.any fun y => decide (y.to = x.to)) = true then some false else kx := by
  subst hi
  have hp : pre.length ≤ 4611686018427387000 := by have := congrArg List.length hl; simp at this; unfold SMALL at hs; omega
  exact scan0 pre hp (z024 t pre.length x kx) (fun _ suf => if (suf.any fun y => decide (y.to = x.to)) = true then some false else kx)
    (fun n => by rw [z024, if_neg (by simp)]; rfl)
    (fun n p y s hl' hg hlt hok ih => by
      rw [z024, if_pos (decide_eq_true hlt), z20p hl hg, Option.bind_some, z001 hok, ih, List.any_cons]
      by_cases hx : y.to = x.to <;> simp [hx])
theorem z0sd {α : Type} {l pre suf : List α} {x : α} (h : l = pre ++ x :: suf) : (decide ((pre.length : Int) = (l.length : Int) - 1)) = suf.isEmpty := by
  rw [h]
  cases suf with
  | nil => simp
  | cons y s => simp; omega
theorem z1r2 (t : GTask) (places : Int) (hs : t.out.length ≤ SMALL) (hp : 0 ≤ places ∧ places ≤ 100) : z0d6 t places = some (inB t.out.length 1 3 && flowsB t places [] t.out) := by
  unfold z0d6
  have := scan0 t.out (by unfold SMALL at hs; omega) (z02y t places z0it) (fun pre suf => some (flowsB t places pre suf))
    (fun n => by rw [z02y, if_neg (by simp)]; rfl)
    (fun n pre x suf hl hg hlt hok ih => by
      rw [z02y, if_pos (decide_eq_true hlt), hg, Option.bind_some, z001 (z0a0 hs), z0sd hl, flowsB]
      simp only [z001 (ok_pl hp), z054, z0wf, Option.bind_some, z1fj t pre _ hl hs x _ rfl, z0ir, z0is, z001 hok, ih]
      cases suf.isEmpty <;> cases inB x.to 1 (places - 1) <;> cases expOk x.if_ <;> cases decide (x.if_.op = 0) <;> cases decide (t.split = 1) <;> cases (pre.any fun y => decide (y.to = x.to)) <;> simp)
  rw [this, z054, Option.bind_some, iteB]
theorem z1xq (t : GTask) (places : Int) (hs : t.out.length ≤ SMALL) (hp : 0 ≤ places ∧ places ≤ 100) : z06j t places = some (flowsB t places [] t.out && inB t.out.length 1 3) := by
  unfold z06j
  have := scan t.out (by unfold SMALL at hs; omega) (fun n i s => z011 t places t.out (t.out.length : Int) (z07a t) n i s) (fun pre suf _ => some (flowsB t places pre suf && inB t.out.length 1 3)) (fun pre s => ∀ k, k ∈ s ↔ k = 0 ∨ ∃ y ∈ pre, y.to = k)
    (fun n s _ => by rw [z011, if_neg (by simp), z07a, z083]; rfl)
    (fun n pre x suf s hl hg hlt hok hi ih => by
      have ih' := ih (insKey s x.to) (by
        intro k
        simp only [List.mem_append, List.mem_singleton]
        unfold insKey
        split
        · rename_i hin
          rw [hi k]
          constructor
          · rintro (h | ⟨y, hy, h⟩)
            · exact .inl h
            · exact .inr ⟨y, .inl hy, h⟩
          · rintro (h | ⟨y, hy | hy, h⟩)
            · exact .inl h
            · exact .inr ⟨y, hy, h⟩
            · subst hy; rw [← h]; exact (hi _).1 hin
        · rw [List.mem_append, List.mem_singleton, hi k]
          constructor
          · rintro ((h | ⟨y, hy, h⟩) | h)
            · exact .inl h
            · exact .inr ⟨y, .inl hy, h⟩
            · exact .inr ⟨x, .inr rfl, h.symm⟩
          · rintro (h | ⟨y, hy | hy, h⟩)
            · exact .inl (.inl h)
            · exact .inl (.inr ⟨y, hy, h⟩)
            · subst hy; exact .inr h.symm)
      rw [z011, if_pos (decide_eq_true hlt), hg, Option.bind_some, z0sd hl, flowsB]
      simp only [z001 (z0a0 hs), z001 (ok_pl hp), z083, z13c, Option.bind_some, z001 hok, ih']
      have hin : (decide (x.to ∈ s)) = (decide (x.to = 0) || pre.any fun y => decide (y.to = x.to)) := by
        rw [Bool.eq_iff_iff]; simp [hi x.to]
      rw [hin]
      have h01 : inB x.to 0 (places - 1) = (inB x.to 1 (places - 1) || (decide (x.to = 0) && decide (0 ≤ places - 1))) := by rw [Bool.eq_iff_iff]; simp [inB]; omega
      have h02 : x.to = 0 → inB x.to 1 (places - 1) = false := by intro h; simp [inB, h]
      rw [h01]
      by_cases hz : x.to = 0
      · rw [h02 hz]; simp [hz]
      · simp only [hz, decide_false, Bool.false_and, Bool.or_false, Bool.false_or]
        cases suf.isEmpty <;> cases inB x.to 1 (places - 1) <;> cases expOk x.if_ <;> cases decide (x.if_.op = 0) <;> by_cases hsp : t.split = 1 <;> cases (pre.any fun y => decide (y.to = x.to)) <;> simp [hsp]) FUEL (insKey [] 0) (by intro k; simp [insKey]) (by have := z02j; unfold SMALL at hs; omega)
  exact this
def taskB (t : GTask) (places tasks : Int) : Bool :=
  inB t.join 1 3 && (inB t.split 1 3 && ((inB t.in_.length 1 3 && asc (places - 1) (-1) t.in_) && (!t.in_.any (fun x => decide (x = 1)) && ((inB t.out.length 1 3 && flowsB t places [] t.out) &&
    ((inB t.clear.length 0 places && asc (places - 1) 1 t.clear) && (inB t.role 1 3 && (inB t.apart (-1) (tasks - 1) && (inB t.all 1 3 && inB t.need 1 t.all))))))))
end Go.Am.Pl
namespace Go.Am
def GTask.small (t : GTask) : Prop := t.in_.length ≤ SMALL ∧ t.out.length ≤ SMALL ∧ t.clear.length ≤ SMALL
end Go.Am
namespace Go.Am.Pl
theorem z1w1 (t : GTask) (places tasks : Int) (hs : t.small) (hp : 0 ≤ places ∧ places ≤ 100) (ht : 0 ≤ tasks ∧ tasks ≤ SMALL) : z0f3 t places tasks = some (taskB t places tasks) := by
  obtain ⟨h1, h2, h3⟩ := hs
  unfold z0f3 taskB
  have ht' : ok64 (tasks - 1) := by unfold SMALL at ht; constructor <;> omega
  simp only [z054, Option.bind_some, z001 (ok_pl hp), z001 ht', z16l _ _ _ _ _ h1, z16l _ _ _ _ _ h3, z16k _ _ h1, z1r2 t places h2 hp, iteB, iteN]
  rfl
theorem z23l (places : Int) (hp : 0 ≤ places) (l : List Int) : ascW (places - 1) [0, 1] (-1) l = (inB l.length 0 places && asc (places - 1) 1 l) := by
  rw [z1m0]
  have key : ∀ (l : List Int) (p : Int), 1 ≤ p → (asc (places - 1) p l && !l.any (fun x => [0, 1].any (fun y => decide (x = y)))) = asc (places - 1) p l := by
    intro l
    induction l with
    | nil => intro p _; rfl
    | cons x l ih =>
      intro p hp'
      by_cases hx : inB x (p + 1) (places - 1) = true
      · have hx' : p + 1 ≤ x := by simp [inB] at hx; omega
        have h01 : ([0, 1].any fun y => decide (x = y)) = false := by simp; omega
        simp only [asc, hx, Bool.true_and, List.any_cons (l := l), h01, Bool.false_or]
        exact ih x (by omega)
      · simp only [asc, Bool.eq_false_iff.2 hx, Bool.false_and]
  cases l with
  | nil => simp [asc, inB]; exact hp
  | cons x l =>
    by_cases hx : inB x 2 (places - 1) = true
    · have hx' : 2 ≤ x ∧ x ≤ places - 1 := by simpa [inB] using hx
      have h01 : ([0, 1].any fun y => decide (x = y)) = false := by simp; omega
      have h1 : inB x (-1 + 1) (places - 1) = true := by simp [inB]; omega
      have h2 : inB x (1 + 1) (places - 1) = true := by simp [inB]; omega
      simp only [asc, h1, h2, Bool.true_and, List.any_cons (l := l), h01, Bool.false_or, key l x (by omega)]
      cases ha : asc (places - 1) x l with
      | false => simp
      | true =>
        have := z223 (places - 1) l x (by omega) ha
        simp [inB]; omega
    · have h2 : inB x (1 + 1) (places - 1) = false := Bool.eq_false_iff.2 hx
      simp only [asc, h2, Bool.false_and, Bool.and_false]
      by_cases h1 : inB x (-1 + 1) (places - 1) = true
      · have h01 : ([0, 1].any fun y => decide (x = y)) = true := by simp [inB] at hx h1 ⊢; omega
        simp only [List.any_cons (l := l), h01, Bool.true_or, Bool.not_true, Bool.and_false]
      · rw [Bool.eq_false_iff.2 h1]; rfl
theorem in_eq (places : Int) (l : List Int) : ascW (places - 1) [1] (-1) l = (asc (places - 1) (-1) l && !l.any (fun x => decide (x = 1))) := by
  rw [z1m0]; simp
theorem z25v (t : GTask) (places tasks : Int) (hs : t.small) (hp : 0 ≤ places ∧ places ≤ 100) (ht : 0 ≤ tasks ∧ tasks ≤ SMALL) : z08p t places tasks = some (taskB t places tasks) := by
  obtain ⟨h1, h2, h3⟩ := hs
  unfold z08p taskB
  have ht' : ok64 (tasks - 1) := by unfold SMALL at ht; constructor <;> omega
  simp only [z0es, z0bv, z083, Option.bind_some, z001 ht', z13g _ _ [1] h1 (by unfold SMALL; decide) hp, z13g _ _ [0, 1] h3 (by unfold SMALL; decide) hp, z1xq t places h2 hp, iteB, in_eq, z23l places hp.1]
  congr 1
  generalize inB t.join 1 3 = a; generalize inB t.split 1 3 = b; generalize inB t.in_.length 1 3 = c; generalize asc (places - 1) (-1) t.in_ = d; generalize t.in_.any (fun x => decide (x = 1)) = e
  generalize flowsB t places [] t.out = f; generalize inB t.out.length 1 3 = g; generalize (inB t.clear.length 0 places && asc (places - 1) 1 t.clear) = h
  cases a <;> cases b <;> cases c <;> cases d <;> cases e <;> cases f <;> cases g <;> simp
def netB (n : GNet) : Bool := inB n.places 2 8 && (inB n.tasks.length 1 6 && n.tasks.all (fun t => taskB t n.places n.tasks.length))
end Go.Am.Pl
namespace Go.Am
def GNet.small (n : GNet) : Prop := n.tasks.length ≤ SMALL ∧ ∀ t ∈ n.tasks, t.small
end Go.Am
namespace Go.Am.Pl
theorem z0wh (n : GNet) (hs : n.small) : z092 n = some (netB n) := by
  unfold z092 netB
  simp only [z054, Option.bind_some]
  by_cases hp : inB n.places 2 8 = true
  · have hp' : 0 ≤ n.places ∧ n.places ≤ 100 := by simp [inB] at hp; omega
    have := scan0 n.tasks (by have := hs.1; unfold SMALL at this; omega) (z074 n z0qc) (fun _ suf => some (suf.all (fun t => taskB t n.places n.tasks.length)))
      (fun k => by rw [z074, if_neg (by simp)]; rfl)
      (fun k pre x suf hl hg hlt hok ih => by
        rw [z074, if_pos (decide_eq_true hlt), hg, Option.bind_some, z1w1 x _ _ (hs.2 x (by rw [hl]; simp)) hp' ⟨by omega, by exact_mod_cast hs.1⟩, Option.bind_some, z001 hok, ih, iteB, List.all_cons])
    rw [this, if_pos hp, hp, iteB, Bool.true_and]
  · rw [if_neg hp, Bool.eq_false_iff.2 hp]; rfl
theorem z0v8 (n : GNet) (hs : n.small) : z08x n = some (netB n) := by
  unfold z08x netB z0hj
  simp only [z083, Option.bind_some, iteB]
  by_cases hp : inB n.places 2 8 = true
  · have hp' : 0 ≤ n.places ∧ n.places ≤ 100 := by simp [inB] at hp; omega
    rw [z0wz n.tasks hs.1 _ (fun t => !taskB t n.places n.tasks.length) (fun t ht => by
      unfold z0hf; rw [z25v t _ _ (hs.2 t ht) hp' ⟨by omega, by exact_mod_cast hs.1⟩]; rfl), Option.bind_some, z0g2, iteB, hp]
    rfl
  · rw [Bool.eq_false_iff.2 hp]; rfl
end Go.Am.Pl
end
section
set_option maxRecDepth 100000
set_option linter.unusedVariables false
set_option linter.unusedSimpArgs false
namespace Go.Am.Pl
open Go
deriving instance Inhabited for GAsk, GFlow, GTask, GNet, GItem, GDid, GCase, GNode, GRun, GHouse, GReq
theorem z1xj {α : Type} (l : List α) {i : Int} (h0 : 0 ≤ i) (h1 : i < l.length) : ∃ x, getI l i = some x ∧ x ∈ l := by
  obtain ⟨n, rfl⟩ := Int.eq_ofNat_of_zero_le h0
  have hn : n < l.length := by omega
  exact ⟨l[n], by rw [z08t, List.getElem?_eq_getElem hn], List.getElem_mem hn⟩
def atI {α : Type} [Inhabited α] (l : List α) (i : Int) : α := (getI l i).getD default
theorem z00r {α : Type} [Inhabited α] (l : List α) {i : Int} (h0 : 0 ≤ i) (h1 : i < l.length) : getI l i = some (atI l i) := by
  obtain ⟨x, hx, _⟩ := z1xj l h0 h1
  unfold atI; rw [hx]; rfl
theorem z05a {α : Type} [Inhabited α] (l : List α) {i : Int} (h0 : 0 ≤ i) (h1 : i < l.length) : atI l i ∈ l := by
  obtain ⟨x, hx, hm⟩ := z1xj l h0 h1
  unfold atI; rw [hx]; exact hm
theorem z01k {n a b : Int} : inB n a b = true ↔ a ≤ n ∧ n ≤ b := by simp [inB]
def expHolds (e : GAsk) (data : List Int) : Bool :=
  expOk e && (datOk data && (bif decide (e.op = 1) then decide (atI data e.var < e.k) else bif decide (e.op = 2) then decide (atI data e.var = e.k) else bif decide (e.op = 3) then decide (e.k < atI data e.var) else true))
theorem z1rq {e : GAsk} {data : List Int} (h : expOk e = true) (hd : datOk data = true) : e.op = 0 ∨ getI data e.var = some (atI data e.var) := by
  by_cases h0 : e.op = 0
  · exact .inl h0
  · right
    simp [expOk, h0, inB] at h
    simp [datOk] at hd
    exact z00r data (by omega) (by omega)
theorem z066 (e : GAsk) (data : List Int) (hl : data.length ≤ SMALL) : z01n e data = some (expHolds e data) := by
  unfold z01n expHolds
  rw [z0wf, Option.bind_some, z0a3 data hl]
  by_cases h1 : expOk e = true
  · by_cases h2 : datOk data = true
    · rcases z1rq h1 h2 with h | h
      · simp [h1, h2, h]
      · rw [if_pos h1, Option.bind_some, if_pos h2, h1, h2, h]
        by_cases a : e.op = 1 <;> by_cases b : e.op = 2 <;> by_cases c : e.op = 3 <;> simp [a, b, c]
    · simp [h1, Bool.eq_false_iff.2 h2]
  · simp [Bool.eq_false_iff.2 h1]
theorem z07l (e : GAsk) (data : List Int) (hl : data.length ≤ SMALL) : z01y e data = some (expHolds e data) := by
  unfold z01y expHolds
  rw [z13c, Option.bind_some, z0df data hl]
  by_cases h1 : expOk e = true
  · by_cases h2 : datOk data = true
    · rcases z1rq h1 h2 with h | h
      · simp [h1, h2, h]
      · rw [if_pos h1, Option.bind_some, if_pos h2, h1, h2, h]
        by_cases a : e.op = 1 <;> by_cases b : e.op = 2 <;> by_cases c : e.op = 3 <;> simp [a, b, c]
    · simp [h1, Bool.eq_false_iff.2 h2]
  · simp [Bool.eq_false_iff.2 h1]
def marksB (n : GNet) (m : List Int) : Bool := decide ((m.length : Int) = n.places) && m.all (fun x => inB x 0 4)
def mrkB (n : GNet) (m : List Int) : Bool := netB n && marksB n m
theorem z0wg (n : GNet) (m : List Int) (hn : n.small) (hm : m.length ≤ SMALL) : z091 n m = some (mrkB n m) := by
  unfold z091 mrkB marksB
  have := scan0 m (by unfold SMALL at hm; omega) (z073 m z0qb) (fun _ suf => some (suf.all (fun x => inB x 0 4)))
    (fun k => by rw [z073, if_neg (by simp)]; rfl)
    (fun k pre x suf hl hg hlt hok ih => by
      rw [z073, if_pos (decide_eq_true hlt), hg, Option.bind_some, z054, Option.bind_some, z001 hok, ih, iteB, List.all_cons])
  rw [this, z0wh n hn, Option.bind_some, iteB, iteB]
theorem z13h (n : GNet) (m : List Int) (hm : m.length ≤ SMALL) : z031 n m = some (marksB n m) := by
  unfold z031 marksB
  rw [z09g m hm _ (fun x => !inB x 0 4) (fun x _ => by unfold z079; rw [z083]; rfl), Option.bind_some, z0g2, iteB]
theorem z13d (n : GNet) (m : List Int) (hn : n.small) (hm : m.length ≤ SMALL) : z0ay n m = some (mrkB n m) := by
  unfold z0ay mrkB
  rw [z0v8 n hn, Option.bind_some, z13h n m hm, Option.bind_some, iteB]
def pplB (p : List Int) : Bool := inB p.length 1 4 && p.all (fun x => inB x 0 7)
theorem z16i (m : List Int) (hm : m.length ≤ SMALL) : z0b0 m = some (pplB m) := by
  unfold z0b0 pplB
  have := scan0 m (by unfold SMALL at hm; omega) (z075 m z0qd) (fun _ suf => some (suf.all (fun x => inB x 0 7)))
    (fun k => by rw [z075, if_neg (by simp)]; rfl)
    (fun k pre x suf hl hg hlt hok ih => by
      rw [z075, if_pos (decide_eq_true hlt), hg, Option.bind_some, z054, Option.bind_some, z001 hok, ih, iteB, List.all_cons])
  rw [this, z054, Option.bind_some, iteB]
theorem z13e (m : List Int) (hm : m.length ≤ SMALL) : z0az m = some (pplB m) := by
  unfold z0az pplB
  rw [z083, Option.bind_some, z09g m hm _ (fun x => !inB x 0 7) (fun x _ => by unfold z0hg; rw [z083]; rfl), Option.bind_some, z0g2, iteB]
def itemB (n : GNet) (b : GItem) : Bool := inB b.task 0 ((n.tasks.length : Int) - 1) && (inB b.who 1 4 && inB b.did 0 ((atI n.tasks b.task).need - 1))
def busyB (n : GNet) (busy : List GItem) : Bool := decide ((busy.length : Int) ≤ 6) && busy.all (itemB n)
theorem z1s7 {n : GNet} (h : netB n = true) {t : GTask} (ht : t ∈ n.tasks) : 1 ≤ t.need ∧ t.need ≤ 3 := by
  simp only [netB, Bool.and_eq_true, List.all_eq_true] at h
  have := h.2.2 t ht
  simp only [taskB, Bool.and_eq_true, z01k] at this
  omega
theorem z1aq (n : GNet) (busy : List GItem) (hn : n.small) (hb : busy.length ≤ SMALL) (ho : netB n = true) : z0bx n busy = some (busyB n busy) := by
  unfold z0bx busyB
  have := scan0 busy (by unfold SMALL at hb; omega) (z05r n busy z0mr) (fun _ suf => some (suf.all (itemB n)))
    (fun k => by rw [z05r, if_neg (by simp)]; rfl)
    (fun k pre x suf hl hg hlt hok ih => by
      rw [z05r, if_pos (decide_eq_true hlt), hg]
      simp only [Option.bind_some, z001 (z0a0 hn.1), z054, List.all_cons, itemB]
      by_cases h1 : inB x.task 0 ((n.tasks.length : Int) - 1) = true
      · have h1' := z01k.1 h1
        have hmem := z05a n.tasks h1'.1 (by omega)
        have hneed := z1s7 ho hmem
        rw [if_pos h1, z00r n.tasks h1'.1 (by omega), Option.bind_some, z001 (by constructor <;> omega), z001 hok, ih, h1]
        cases inB x.who 1 4 <;> cases inB x.did 0 ((atI n.tasks x.task).need - 1) <;> simp
      · rw [if_neg h1, Bool.eq_false_iff.2 h1]; rfl)
  rw [this]
  by_cases h6 : 6 < (busy.length : Int)
  · rw [if_pos (decide_eq_true h6), decide_eq_false (by omega)]; rfl
  · rw [if_neg (by simpa using h6), decide_eq_true (by omega)]; rfl
theorem z19w (n : GNet) (busy : List GItem) (hn : n.small) (hb : busy.length ≤ SMALL) (ho : netB n = true) : z03u n busy = some (busyB n busy) := by
  unfold z03u busyB
  have := scan0 busy (by unfold SMALL at hb; omega) (z01j n busy (busy.length : Int) (z0ag busy)) (fun _ suf => some (suf.all (itemB n) && decide ((busy.length : Int) ≤ 6)))
    (fun k => by rw [z01j, if_neg (by simp)]; rfl)
    (fun k pre x suf hl hg hlt hok ih => by
      rw [z01j, if_pos (decide_eq_true hlt), hg]
      simp only [z00i, z08c, Option.bind_some, z001 (z0a0 hn.1), z083, List.all_cons, itemB]
      by_cases h1 : inB x.task 0 ((n.tasks.length : Int) - 1) = true
      · have h1' := z01k.1 h1
        have hmem := z05a n.tasks h1'.1 (by omega)
        have hneed := z1s7 ho hmem
        rw [if_pos h1, z00r n.tasks h1'.1 (by omega), Option.bind_some, z001 (by constructor <;> omega), z001 hok, ih, h1]
        cases inB x.who 1 4 <;> cases inB x.did 0 ((atI n.tasks x.task).need - 1) <;> simp
      · rw [if_neg h1, Bool.eq_false_iff.2 h1]; rfl)
  rw [this, Bool.and_comm]
def didB (n : GNet) (d : GDid) : Bool := inB d.task 0 ((n.tasks.length : Int) - 1) && inB d.who 1 4
def stateB (c : GCase) : Bool := bif decide (c.state = 1) then decide (atI c.marks 1 = 0) else decide ((c.busy.length : Int) = 0) && (decide (c.state = 2) == decide (0 < atI c.marks 1))
def casB (n : GNet) (c : GCase) : Bool := mrkB n c.marks && (busyB n c.busy && (datOk c.data && (!decide (60 < (c.did.length : Int)) && (inB c.state 1 3 && (c.did.all (didB n) && stateB c)))))
end Go.Am.Pl
namespace Go.Am
def GCase.small (c : GCase) : Prop := c.marks.length ≤ SMALL ∧ c.busy.length ≤ SMALL ∧ c.data.length ≤ SMALL ∧ c.did.length ≤ SMALL
end Go.Am
namespace Go.Am.Pl
theorem z1dv {n : GNet} {m : List Int} (h : mrkB n m = true) : netB n = true := by simp only [mrkB, Bool.and_eq_true] at h; exact h.1
theorem z1xx {n : GNet} {m : List Int} (h : mrkB n m = true) : getI m 1 = some (atI m 1) := by
  simp only [mrkB, netB, marksB, Bool.and_eq_true, z01k, decide_eq_true_eq] at h
  exact z00r m (by omega) (by omega)
theorem z0we (n : GNet) (c : GCase) (hn : n.small) (hc : c.small) : z090 n c = some (casB n c) := by
  obtain ⟨hc1, hc2, hc3, hc4⟩ := hc
  unfold z090 casB
  rw [z0wg n c.marks hn hc1, Option.bind_some]
  by_cases h1 : mrkB n c.marks = true
  · have ho := z1dv h1
    have hk : z0bf c = some (stateB c) := by
      unfold z0bf stateB
      rw [z1xx h1]
      by_cases hs : c.state = 1
      · simp [hs]
      · by_cases hb : c.busy = [] <;> simp [hs, hb]
    have := scan0 c.did (by unfold SMALL at hc4; omega) (z070 n c (z0bf c)) (fun _ suf => some (suf.all (didB n) && stateB c))
      (fun k => by rw [z070, if_neg (by simp), hk]; rfl)
      (fun k pre x suf hl hg hlt hok ih => by
        rw [z070, if_pos (decide_eq_true hlt), hg]
        simp only [Option.bind_some, z001 (z0a0 hn.1), z054, List.all_cons, didB, z001 hok, ih]
        cases inB x.task 0 ((n.tasks.length : Int) - 1) <;> cases inB x.who 1 4 <;> simp)
    rw [if_pos h1, z1aq n c.busy hn hc2 ho, Option.bind_some, z0a3 c.data hc3, Option.bind_some, z054, Option.bind_some, this, h1]
    simp only [iteB, iteN]
    rfl
  · rw [if_neg h1, Bool.eq_false_iff.2 h1]; rfl
theorem z1ir (n : GNet) (c : GCase) (hn : n.small) (hc : c.small) : z0dm n c = some (casB n c) := by
  obtain ⟨hc1, hc2, hc3, hc4⟩ := hc
  unfold z0dm casB
  rw [z13d n c.marks hn hc1, Option.bind_some]
  by_cases h1 : mrkB n c.marks = true
  · have ho := z1dv h1
    have hk : z0bb c = some (inB c.state 1 3 && stateB c) := by
      unfold z0bb stateB
      rw [z1xx h1]
      by_cases hs : c.state = 1
      · simp [hs, inB]
      · by_cases hs2 : c.state = 2
        · by_cases hb : c.busy = [] <;> simp [hs2, hb, inB]
        · by_cases hs3 : c.state = 3
          · by_cases hb : c.busy = [] <;> simp [hs3, hb, inB]
          · have : inB c.state 1 3 = false := by simp [inB]; omega
            simp [hs, hs2, hs3, this]
    have := scan0 c.did (by unfold SMALL at hc4; omega) (z06x n c.did (c.did.length : Int) (z0bb c)) (fun _ suf => some (suf.all (didB n) && (inB c.state 1 3 && stateB c)))
      (fun k => by rw [z06x, if_neg (by simp), hk]; rfl)
      (fun k pre x suf hl hg hlt hok ih => by
        rw [z06x, if_pos (decide_eq_true hlt), hg]
        simp only [z00i, z08c, Option.bind_some, z001 (z0a0 hn.1), z083, List.all_cons, didB, z001 hok, ih]
        cases inB x.task 0 ((n.tasks.length : Int) - 1) <;> cases inB x.who 1 4 <;> simp)
    rw [if_pos h1, z19w n c.busy hn hc2 ho, Option.bind_some, z0df c.data hc3, Option.bind_some, this, h1]
    simp only [iteB, iteN]
    congr 1
    cases busyB n c.busy <;> cases datOk c.data <;> cases c.did.all (didB n) <;> cases inB c.state 1 3 <;> simp
  · rw [if_neg h1, Bool.eq_false_iff.2 h1]; rfl
theorem z1zk {t : GTask} (h : GTask.lens (· ≤ 1048576) t) : t.small := by
  obtain ⟨a, b, c⟩ := h; unfold GTask.small SMALL; omega
theorem z21c {n : GNet} (h : GNet.lens (· ≤ 1048576) n) : n.small := ⟨by have := h.1; dsimp only at this; unfold SMALL; omega, fun t ht => z1zk (h.2 t ht)⟩
theorem z1zj {c : GCase} (h : GCase.lens (· ≤ 1048576) c) : c.small := by
  obtain ⟨a, b, c, d⟩ := h; unfold GCase.small SMALL; omega
end Go.Am.Pl
end
section
set_option maxRecDepth 100000
set_option linter.unusedVariables false
set_option linter.unusedSimpArgs false
namespace Go.Am.Pl
open Go
def cnt1 (x : GNode) (i : Int) : Int := (if x.yes = i then 1 else 0) + (if x.no = i then 1 else 0)
def cntL (i : Int) : List GNode → Int
  | [] => 0
  | x :: l => cnt1 x i + cntL i l
theorem z25j (x : GNode) (i : Int) : 0 ≤ cnt1 x i ∧ cnt1 x i ≤ 2 := by unfold cnt1; split <;> split <;> omega
theorem z1x6 (i : Int) : ∀ l : List GNode, 0 ≤ cntL i l ∧ cntL i l ≤ 2 * l.length
  | [] => by simp [cntL]
  | x :: l => by have := z1x6 i l; have := z25j x i; simp only [cntL, List.length_cons]; omega
theorem z1rl (i : Int) (x : GNode) : ∀ l : List GNode, cntL i (l ++ [x]) = cntL i l + cnt1 x i
  | [] => by simp [cntL]
  | y :: l => by simp only [List.cons_append, cntL, z1rl i x l]; omega
theorem z26b (tree : List GNode) (i : Int) (kx : Int → Option Bool) (ht : tree.length ≤ SMALL) : z00z tree i kx FUEL 0 0 = kx (cntL i tree) := by
  have := scan tree (by unfold SMALL at ht; omega) (fun n k s => z00z tree i kx n s k) (fun _ suf s => kx (s + cntL i suf)) (fun pre s => 0 ≤ s ∧ s ≤ 2 * pre.length)
    (fun n s _ => by rw [z00z, if_neg (by simp)]; simp [cntL])
    (fun n pre x suf s hl hg hlt hok hi ih => by
      have hs : (tree.length : Int) ≤ 1000000000 := by unfold SMALL at ht; omega
      have h1 : ok64 (s + 1) := by constructor <;> omega
      have h2 : ok64 (s + 1 + 1) := by constructor <;> omega
      have hpl : (((pre ++ [x]).length : Nat) : Int) = pre.length + 1 := by simp
      rw [z00z, if_pos (decide_eq_true hlt), hg]
      simp only [Option.bind_some, z001 h1, z001 h2, z001 hok]
      rw [ih (s + 1 + 1) (by omega), ih (s + 1) (by omega), ih s (by omega)]
      simp only [cntL, cnt1]
      by_cases a : x.yes = i <;> by_cases b : x.no = i <;> simp [a, b] <;> congr 1 <;> omega) FUEL 0 (by simp) (by have := z02j; unfold SMALL at ht; omega)
  simpa using this
def okN (len i v : Int) : Bool := decide (v = -1) || inB v (i + 1) (len - 1)
def nodeB (len i : Int) (x : GNode) : Bool := expHolds x.if_ x.stone && (inB x.ans 0 2 && (okN len i x.yes && okN len i x.no))
def nodesI (len : Int) : Int → List GNode → Bool
  | _, [] => true
  | i, x :: l => nodeB len i x && nodesI len (i + 1) l
def nodesS (tree : List GNode) : Int → List GNode → Bool
  | _, [] => true
  | i, x :: l => nodeB tree.length i x && ((decide (i = 0) == decide (cntL i tree = 0)) && (!decide (1 < cntL i tree) && nodesS tree (i + 1) l))
theorem z1tq {e : GAsk} {d : List Int} (h : expHolds e d = true) : expOk e = true ∧ datOk d = true := by
  simp only [expHolds, Bool.and_eq_true] at h; exact ⟨h.1, h.2.1⟩
def treeSmall (tree : List GNode) : Prop := tree.length ≤ SMALL ∧ ∀ x ∈ tree, x.stone.length ≤ SMALL
theorem z1r1 (tree : List GNode) (ht : treeSmall tree) : z093 tree = some (!decide (12 < (tree.length : Int)) && nodesS tree 0 tree) := by
  unfold z093
  have := scan0 tree (by have := ht.1; unfold SMALL at this; omega) (z02i tree z0qi) (fun pre suf => some (nodesS tree pre.length suf))
    (fun n => by rw [z02i, if_neg (by simp)]; rfl)
    (fun n pre x suf hl hg hlt hok ih => by
      have hx : x.stone.length ≤ SMALL := ht.2 x (by rw [hl]; simp)
      have hpl : (((pre ++ [x]).length : Nat) : Int) = pre.length + 1 := by simp
      rw [hpl] at ih
      rw [z02i, if_pos (decide_eq_true hlt), hg]
      simp only [Option.bind_some, z001 hok, z001 (z0a0 ht.1), z0wf, z054, z0a3 _ hx, z066 _ _ hx, z26b tree _ _ ht.1,
        z0qe, z0qf, z0qg, z0qh, ih, nodesS, nodeB, okN]
      by_cases hh : expHolds x.if_ x.stone = true
      · obtain ⟨h1, h2⟩ := z1tq hh
        rw [h1, h2, hh]
        simp only [if_true]
        cases inB x.ans 0 2 <;> by_cases hy : x.yes = -1 <;> by_cases hn : x.no = -1 <;> cases inB x.yes (↑pre.length + 1) (↑tree.length - 1) <;> cases inB x.no (↑pre.length + 1) (↑tree.length - 1) <;>
          cases (decide ((pre.length : Int) = 0) == decide (cntL ↑pre.length tree = 0)) <;> cases decide (1 < cntL ↑pre.length tree) <;> simp [hy, hn]
      · rw [Bool.eq_false_iff.2 hh]
        cases expOk x.if_ <;> cases inB x.ans 0 2 <;> cases datOk x.stone <;> simp)
  rw [this, iteN]
  rfl
def bump (l : List Int) (v : Int) : List Int := if v = -1 then l else l.set v.toNat (atI l v + 1)
theorem z1da {α : Type} (l : List α) {v j : Int} (w : α) (hv : 0 ≤ v) (hj : 0 ≤ j) (hl : j < l.length) : getI (l.set v.toNat w) j = if v = j then some w else getI l j := by
  unfold getI
  rw [if_pos hj, if_pos hj, List.getElem?_set]
  by_cases h : v = j
  · subst h; simp; omega
  · rw [if_neg (by omega), if_neg h]
theorem z0x4 (l : List Int) (v : Int) : (bump l v).length = l.length := by unfold bump; split <;> simp
theorem z1m3 (l : List Int) {v j : Int} (hv : v = -1 ∨ 0 ≤ v) (c : Int → Int) (hc : ∀ j : Int, 0 ≤ j → j < l.length → getI l j = some (c j)) (hj : 0 ≤ j) (hl : j < l.length) : getI (bump l v) j = some (c j + if v = j then 1 else 0) := by
  unfold bump
  by_cases h : v = -1
  · rw [if_pos h, if_neg (by omega), hc j hj hl]; simp
  · rw [if_neg h, z1da l _ (by omega) hj hl]
    by_cases he : v = j
    · subst he
      rw [if_pos rfl, if_pos rfl]
      unfold atI
      rw [hc _ hj hl]; rfl
    · rw [if_neg he, if_neg he, hc j hj hl]; simp
theorem z1u4 (tree : List GNode) (i : Int) (x : GNode) (kx : List Int → Option Bool) (l : List Int) (c : Int → Int) (hl : l.length = tree.length) (hc : ∀ j : Int, 0 ≤ j → j < l.length → getI l j = some (c j))
    (hb : ∀ j, 0 ≤ c j ∧ c j ≤ 2000000000) (hi : 0 ≤ i) (hi2 : ok64 (i + 1)) (ht : tree.length ≤ SMALL) :
    z02h tree i ([x.yes, x.no].length : Int) [x.yes, x.no] kx FUEL 0 l = if (okN tree.length i x.yes && okN tree.length i x.no) = true then kx (bump (bump l x.yes) x.no) else some false := by
  have one : ∀ (n : Nat) (k : Int) (v : Int) (m : List Int) (d : Int → Int), m.length = tree.length → (∀ j : Int, 0 ≤ j → j < m.length → getI m j = some (d j)) → (∀ j, 0 ≤ d j ∧ d j ≤ 2000000001) → getI [x.yes, x.no] k = some v → 0 ≤ k → k < 2 →
      z02h tree i ([x.yes, x.no].length : Int) [x.yes, x.no] kx (n + 1) k m = if okN tree.length i v = true then z02h tree i ([x.yes, x.no].length : Int) [x.yes, x.no] kx n (k + 1) (bump m v) else some false := by
    intro n k v m d hm hd hbd hg hk0 hk2
    have hk : ok64 (k + 1) := by constructor <;> omega
    rw [z02h, if_pos (by simp; omega), hg]
    simp only [Option.bind_some, z001 hk, z001 hi2, z001 (z0a0 ht), z083]
    unfold okN bump
    by_cases hv : v = -1
    · simp [hv]
    · by_cases hin : inB v (i + 1) (tree.length - 1) = true
      · have hin' := z01k.1 hin
        have h1 := hd v (by omega) (by omega)
        have h2 := hbd v
        rw [if_neg (by simpa using hv), if_pos hin, h1]
        simp only [Option.bind_some, z001 (show ok64 (d v + 1) by constructor <;> omega)]
        rw [if_pos (by simp [hin]), if_neg hv]
        unfold atI; rw [h1]; rfl
      · rw [if_neg (by simpa using hv), if_neg hin, if_neg (by simp [hv, Bool.eq_false_iff.2 hin])]
  obtain ⟨f, hF⟩ : ∃ f, FUEL = f + 1 + 1 + 1 := ⟨FUEL - 3, by have := z02j; omega⟩
  rw [hF, one _ 0 x.yes l c hl hc (fun j => by have := hb j; omega) rfl (by omega) (by omega)]
  by_cases h1 : okN tree.length i x.yes = true
  · have hy : x.yes = -1 ∨ 0 ≤ x.yes := by simp only [okN, Bool.or_eq_true, decide_eq_true_eq, z01k] at h1; omega
    rw [if_pos h1, one _ (0 + 1) x.no (bump l x.yes) (fun j => c j + if x.yes = j then 1 else 0) (by rw [z0x4, hl]) (fun j hj hjl => z1m3 l hy c hc hj (by rwa [z0x4] at hjl)) (fun j => by have := hb j; split <;> omega) rfl (by omega) (by omega), h1, Bool.true_and]
    by_cases h2 : okN tree.length i x.no = true
    · rw [if_pos h2, if_pos h2, z02h, if_neg (by simp)]
    · rw [if_neg h2, if_neg h2]
  · rw [if_neg h1, if_neg (by rw [Bool.eq_false_iff.2 h1]; simp)]
def oneB : Int → List Int → Bool
  | _, [] => true
  | i, x :: s => (!decide (0 < i) || decide (x = 1)) && oneB (i + 1) s
theorem z1iv (tree : List GNode) (l : List Int) (hl : l.length ≤ SMALL) : z0be tree l = some (oneB 0 l && decide ((tree.length : Int) ≤ 12)) := by
  unfold z0be
  have := scan0 l (by unfold SMALL at hl; omega) (z058 l (l.length : Int) (z0q7 tree)) (fun pre suf => some (oneB pre.length suf && decide ((tree.length : Int) ≤ 12)))
    (fun n => by rw [z058, if_neg (by simp)]; rfl)
    (fun n pre x suf hl hg hlt hok ih => by
      have hpl : (((pre ++ [x]).length : Nat) : Int) = pre.length + 1 := by simp
      rw [hpl] at ih
      rw [z058, if_pos (decide_eq_true hlt), hg]
      simp only [Option.bind_some, z001 hok, ih, oneB]
      cases decide (0 < (pre.length : Int)) <;> by_cases hx : x = 1 <;> simp [hx])
  exact this
theorem z1oh (tree : List GNode) (ht : treeSmall tree) : z08y tree = some (nodesI tree.length 0 tree && (oneB 0 ((List.range tree.length).map fun j : Nat => cntL (j : Int) tree) && decide ((tree.length : Int) ≤ 12))) := by
  unfold z08y
  have hs := ht.1
  have hs' : (tree.length : Int) ≤ 1000000000 := by unfold SMALL at hs; omega
  rw [z001 ⟨by omega, hs'⟩]
  have := scan tree (by unfold SMALL at hs; omega) (fun n k s => z06z tree (z0be tree) n tree (tree.length : Int) k s) (fun pre suf s => some (nodesI tree.length pre.length suf && (oneB 0 ((List.range tree.length).map fun j : Nat => cntL (j : Int) tree) && decide ((tree.length : Int) ≤ 12))))
    (fun pre s => s.length = tree.length ∧ ∀ j : Int, 0 ≤ j → j < s.length → getI s j = some (cntL j pre))
    (fun n s hi => by
      rw [z06z, if_neg (by simp), z1iv tree s (by rw [hi.1]; exact hs)]
      have : s = (List.range tree.length).map fun j : Nat => cntL (j : Int) tree := by
        apply List.ext_getElem?
        intro j
        by_cases hj : j < s.length
        · have := hi.2 j (by omega) (by omega)
          rw [z08t] at this
          rw [this, List.getElem?_map, List.getElem?_range (by rw [← hi.1]; exact hj)]; rfl
        · rw [List.getElem?_eq_none (by omega), List.getElem?_eq_none (by simp; omega)]
      rw [← this]; simp [nodesI])
    (fun n pre x suf s hl hg hlt hok hi ih => by
      have hx : x.stone.length ≤ SMALL := ht.2 x (by rw [hl]; simp)
      have hpl : (((pre ++ [x]).length : Nat) : Int) = pre.length + 1 := by simp
      rw [z06z, if_pos (decide_eq_true hlt), hg]
      simp only [Option.bind_some, z07l _ _ hx, z03m, z083, nodesI, nodeB]
      rw [z1u4 tree pre.length x _ s (fun j => cntL j pre) hi.1 hi.2 (fun j => by have := z1x6 j pre; omega) (by omega) hok hs]
      by_cases hy : okN tree.length pre.length x.yes = true
      · by_cases hn : okN tree.length pre.length x.no = true
        · have hy' : x.yes = -1 ∨ 0 ≤ x.yes := by simp only [okN, Bool.or_eq_true, decide_eq_true_eq, z01k] at hy; omega
          have hn' : x.no = -1 ∨ 0 ≤ x.no := by simp only [okN, Bool.or_eq_true, decide_eq_true_eq, z01k] at hn; omega
          have h3 := ih (bump (bump s x.yes) x.no) ⟨by rw [z0x4, z0x4, hi.1], fun j hj hjl => by
            rw [z1m3 (bump s x.yes) hn' (fun j => cntL j pre + if x.yes = j then 1 else 0) (fun j hj hjl => z1m3 s hy' _ hi.2 hj (by rwa [z0x4] at hjl)) hj (by rwa [z0x4] at hjl), z1rl, cnt1]
            congr 1; omega⟩
          rw [hpl] at h3
          rw [hy, hn, z0q6, z001 hok, h3]
          cases expHolds x.if_ x.stone <;> cases inB x.ans 0 2 <;> simp
        · rw [Bool.eq_false_iff.2 hn]; cases expHolds x.if_ x.stone <;> cases inB x.ans 0 2 <;> simp
      · rw [Bool.eq_false_iff.2 hy]; cases expHolds x.if_ x.stone <;> cases inB x.ans 0 2 <;> simp) FUEL (List.replicate (tree.length : Int).toNat 0)
      ⟨by simp, fun j hj hjl => by
        obtain ⟨k, rfl⟩ := Int.eq_ofNat_of_zero_le hj
        rw [z08t, List.getElem?_replicate, if_pos (by simpa using hjl)]; rfl⟩ (by have := z02j; unfold SMALL at hs; omega)
  simpa using this
def rdrB (tree : List GNode) : Bool := nodesI tree.length 0 tree && (oneB 0 ((List.range tree.length).map fun j : Nat => cntL (j : Int) tree) && decide ((tree.length : Int) ≤ 12))
theorem z1pz (f : Int → Int) : ∀ (n : Nat) (i : Nat), oneB i ((List.range' i n).map fun j : Nat => f (j : Int)) = true ↔ ∀ j : Nat, i ≤ j → j < i + n → 0 < j → f j = 1
  | 0, i => by simp [oneB]; omega
  | n + 1, i => by
    rw [List.range'_succ, List.map_cons, oneB, Bool.and_eq_true]
    have := z1pz f n (i + 1)
    rw [show (((i + 1 : Nat)) : Int) = (i : Int) + 1 by omega] at this
    rw [this]
    constructor
    · rintro ⟨h1, h2⟩ j hj hj2 h0
      by_cases h : j = i
      · subst h
        have : 0 < (j : Int) := by omega
        rw [decide_eq_true this] at h1; simpa using h1
      · exact h2 j (by omega) (by omega) h0
    · intro h
      refine ⟨?_, fun j hj hj2 h0 => h j (by omega) (by omega) h0⟩
      by_cases h0 : 0 < i
      · simp [h i (by omega) (by omega) h0]
      · simp; omega
theorem z15z (len : Int) : ∀ (l : List GNode) (i : Int), 0 ≤ i → nodesI len i l = true → cntL 0 l = 0
  | [], _, _, _ => rfl
  | x :: l, i, hi, h => by
    simp only [nodesI, nodeB, okN, Bool.and_eq_true, Bool.or_eq_true, decide_eq_true_eq, z01k] at h
    have := z15z len l (i + 1) (by omega) h.2
    simp only [cntL, cnt1, this]
    rw [if_neg (by omega), if_neg (by omega)]; rfl
theorem z1jl (tree : List GNode) : ∀ (l : List GNode) (i : Nat), nodesS tree i l = true ↔ nodesI tree.length i l = true ∧ ∀ j : Nat, i ≤ j → j < i + l.length → ((j = 0 ↔ cntL j tree = 0) ∧ cntL j tree ≤ 1)
  | [], i => by simp [nodesS, nodesI]; omega
  | x :: l, i => by
    have ih := z1jl tree l (i + 1)
    rw [show (((i + 1 : Nat)) : Int) = (i : Int) + 1 by omega] at ih
    simp only [nodesS, nodesI, Bool.and_eq_true, ih, List.length_cons]
    constructor
    · rintro ⟨h1, h2, h3, h4, h5⟩
      refine ⟨⟨h1, h4⟩, fun j hj hj2 => ?_⟩
      by_cases h : j = i
      · subst h
        simp at h2 h3
        exact ⟨by rw [← h2], by omega⟩
      · exact h5 j (by omega) (by omega)
    · rintro ⟨⟨h1, h4⟩, h5⟩
      obtain ⟨h6, h7⟩ := h5 i (by omega) (by omega)
      refine ⟨h1, ?_, ?_, h4, fun j hj hj2 => h5 j (by omega) (by omega)⟩
      · simp [← h6]
      · simp; omega
theorem z27f (tree : List GNode) : (!decide (12 < (tree.length : Int)) && nodesS tree 0 tree) = rdrB tree := by
  rw [Bool.eq_iff_iff]
  have h1 := z1jl tree tree 0
  have h2 := z1pz (fun j => cntL j tree) tree.length 0
  rw [show ((0 : Nat) : Int) = 0 from rfl] at h1 h2
  rw [← List.range_eq_range'] at h2
  simp only [rdrB, Bool.and_eq_true, h1, h2, Bool.not_eq_true', decide_eq_false_iff_not, decide_eq_true_eq]
  constructor
  · rintro ⟨a, b, c⟩
    refine ⟨b, fun j hj hj2 h0 => ?_, by omega⟩
    have := c j hj hj2
    have := (z1x6 j tree).1
    omega
  · rintro ⟨b, c, a⟩
    refine ⟨by omega, b, fun j hj hj2 => ?_⟩
    by_cases h0 : j = 0
    · subst h0
      have := z15z _ tree 0 (by omega) b
      simp [this]
    · have := c j hj hj2 (by omega)
      omega
theorem z16j (tree : List GNode) (ht : treeSmall tree) : z093 tree = some (rdrB tree) := by rw [z1r1 tree ht, z27f]
theorem z13f (tree : List GNode) (ht : treeSmall tree) : z08y tree = some (rdrB tree) := z1oh tree ht
end Go.Am.Pl
end
section
set_option maxRecDepth 100000
set_option linter.unusedVariables false
set_option linter.unusedSimpArgs false
namespace Go.Am.Pl
open Go
def runB (nets : List GNet) (r : GRun) : Bool := inB r.net 0 ((nets.length : Int) - 1) && casB (atI nets r.net) r.case
def netsB (nets : List GNet) : Bool := inB nets.length 1 3 && nets.all netB
def houseB (h : GHouse) : Bool := netsB h.nets && (pplB h.people && (rdrB h.tree && (!decide (5 < (h.runs.length : Int)) && h.runs.all (runB h.nets))))
def netsSmall (nets : List GNet) : Prop := nets.length ≤ SMALL ∧ ∀ n ∈ nets, n.small
def houseSmall (h : GHouse) : Prop := netsSmall h.nets ∧ h.people.length ≤ SMALL ∧ treeSmall h.tree ∧ h.runs.length ≤ SMALL ∧ ∀ r ∈ h.runs, r.case.small
theorem z1w3 (nets : List GNet) (h : netsSmall nets) : z0f9 nets = some (netsB nets) := by
  unfold z0f9 netsB
  have := scan0 nets (by have := h.1; unfold SMALL at this; omega) (z05v nets z0mw) (fun _ suf => some (suf.all netB))
    (fun k => by rw [z05v, if_neg (by simp)]; rfl)
    (fun k pre x suf hl hg hlt hok ih => by
      rw [z05v, if_pos (decide_eq_true hlt), hg, Option.bind_some, z0wh x (h.2 x (by rw [hl]; simp)), Option.bind_some, z001 hok, ih, iteB, List.all_cons])
  rw [this, z054, Option.bind_some, iteB]
theorem z1zm (h : GHouse) (hs : houseSmall h) : z0hm h = some (houseB h) := by
  obtain ⟨h1, h2, h3, h4, h5⟩ := hs
  unfold z0hm houseB
  have := scan0 h.runs (by unfold SMALL at h4; omega) (z072 h z0qa) (fun _ suf => some (suf.all (runB h.nets)))
    (fun k => by rw [z072, if_neg (by simp)]; rfl)
    (fun k pre x suf hl hg hlt hok ih => by
      rw [z072, if_pos (decide_eq_true hlt), hg]
      simp only [Option.bind_some, z001 (z0a0 h1.1), z054, z001 hok, ih, List.all_cons, runB]
      by_cases hn : inB x.net 0 ((h.nets.length : Int) - 1) = true
      · have hn' := z01k.1 hn
        rw [if_pos hn, z00r h.nets hn'.1 (by omega), Option.bind_some, z0we _ _ (h1.2 _ (z05a h.nets hn'.1 (by omega))) (h5 x (by rw [hl]; simp)), Option.bind_some, iteB, hn]; rfl
      · rw [if_neg hn, Bool.eq_false_iff.2 hn]; rfl)
  rw [z1w3 _ h1, z16i _ h2, z16j _ h3, this]
  simp only [Option.bind_some, iteB, iteN]
theorem z1xn (h : GHouse) (hs : houseSmall h) : z0hd h = some (houseB h) := by
  obtain ⟨h1, h2, h3, h4, h5⟩ := hs
  unfold z0hd houseB netsB
  have := scan0 h.runs (by unfold SMALL at h4; omega) (z06y h h.runs (h.runs.length : Int) z0q5) (fun _ suf => some (suf.all (runB h.nets)))
    (fun k => by rw [z06y, if_neg (by simp)]; rfl)
    (fun k pre x suf hl hg hlt hok ih => by
      rw [z06y, if_pos (decide_eq_true hlt), hg]
      simp only [Option.bind_some, z001 (z0a0 h1.1), z083, z001 hok, ih, List.all_cons, runB]
      by_cases hn : inB x.net 0 ((h.nets.length : Int) - 1) = true
      · have hn' := z01k.1 hn
        rw [if_pos hn, z00r h.nets hn'.1 (by omega), Option.bind_some, z1ir _ _ (h1.2 _ (z05a h.nets hn'.1 (by omega))) (h5 x (by rw [hl]; simp)), Option.bind_some, iteB, hn]; rfl
      · rw [if_neg hn, Bool.eq_false_iff.2 hn]; rfl)
  rw [z10a h.nets h1.1 _ (fun n => !netB n) (fun n hn => by unfold z0he; rw [z0v8 n (h1.2 n hn)]; rfl), z13e _ h2, z13f _ h3, this, z083]
  simp only [Option.bind_some, iteB, iteN, z0g2, Bool.and_assoc]
theorem z0gi {h : GHouse} (hl : GHouse.lens (· ≤ 1048576) h) : houseSmall h := by
  obtain ⟨⟨a, b⟩, c, ⟨d, e⟩, f, g⟩ := hl
  skip
  exact ⟨⟨by unfold SMALL; omega, fun n hn => z21c (b n hn)⟩, by unfold SMALL; omega, ⟨by unfold SMALL; omega, fun x hx => by have := e x hx; unfold GNode.lens at this; unfold SMALL; omega⟩, by unfold SMALL; omega, fun r hr => z1zj (g r hr)⟩
end Go.Am.Pl
end
section
set_option maxRecDepth 100000
set_option linter.unusedVariables false
set_option linter.unusedSimpArgs false
namespace Go.Am.Pl
open Go
theorem z02f (l : List Int) (h : l.length ≤ SMALL) : z00f l = some l := by unfold z00f; rw [z001 (by simpa using h)]; rfl
theorem z0oq (c : GCase) (h : c.small) : z065 c = some c := by
  obtain ⟨h1, h2, h3, h4⟩ := h
  unfold z065
  simp [gd, h1, h2, h3, h4]
theorem z098 (c : GCase) (h : c.small) : z007 c = some c := by
  obtain ⟨h1, h2, h3, h4⟩ := h
  unfold z007
  simp [gd, z02f, h1, h2, h3, h4]
def stopB (n : GNet) (c : GCase) : GCase × Bool := bif casB n c && decide (c.state = 1) then (GCase.mk 3 c.marks [] c.data c.did, true) else (c, false)
theorem z1qw (n : GNet) (c : GCase) (hn : n.small) (hc : c.small) : z0d2 n c = some (stopB n c) := by
  unfold z0d2 stopB
  simp only [z0oq c hc, z0we n c hn hc, Option.bind_some]
  cases casB n c <;> by_cases hs : c.state = 1 <;> simp [hs]
theorem z0sc (n : GNet) (c : GCase) (hn : n.small) (hc : c.small) : z082 n c = some (casB n c && decide (c.state = 1)) := by
  unfold z082
  simp only [z1ir n c hn hc, Option.bind_some]
  cases casB n c <;> by_cases hs : c.state = 1 <;> simp [hs]
theorem z1od (n : GNet) (c : GCase) (hn : n.small) (hc : c.small) : z0cv n c = some (stopB n c) := by
  unfold z0cv stopB
  simp only [z098 c hc, z0sc n c hn hc, Option.bind_some]
  cases casB n c <;> by_cases hs : c.state = 1 <;> simp [hs]
end Go.Am.Pl
end
section
set_option maxRecDepth 100000
set_option maxHeartbeats 1000000
set_option linter.unusedVariables false
set_option linter.unusedSimpArgs false
namespace Go.Am.Pl
open Go
def BIG : Int := 4000000000000000000
theorem z102 {α : Type} (pre : List α) (x y : α) (suf : List α) : (pre ++ x :: suf).set (pre.length : Int).toNat y = pre ++ y :: suf := by simp
theorem z247 {k : Int} (h0 : 0 ≤ k) (h1 : k ≤ BIG) : ok64 k := by unfold BIG at h1; constructor <;> omega
def cntS {α : Type} (cnt : α → Nat) : List α → Nat
  | [] => 0
  | x :: l => cnt x + cntS cnt l
def numS {α : Type} (cnt : α → Nat) (num : α → Int → α) : List α → Int → List α
  | [], _ => []
  | x :: l, k => num x k :: numS cnt num l (k + cnt x)
theorem z0fb {α : Type} (cnt : α → Nat) (num : α → Int → α) (f : Nat → Int → Int → List α → Option (Int × List α)) (ok : α → Prop)
    (h0 : ∀ n k l, f (n + 1) k (l.length : Int) l = some (k, l))
    (h1 : ∀ n k pre x suf, ok x → 0 ≤ k → k + cnt x ≤ BIG → ok64 ((pre.length : Int) + 1) → f (n + 1) k (pre.length : Int) (pre ++ x :: suf) = f n (k + cnt x) ((pre.length : Int) + 1) (pre ++ num x k :: suf)) :
    ∀ (a : List α) (k : Int), (∀ x ∈ a, ok x) → a.length ≤ SMALL → 0 ≤ k → k + cntS cnt a ≤ BIG → f FUEL k 0 a = some (k + cntS cnt a, numS cnt num a k) := by
  have key : ∀ (suf pre : List α) (n : Nat) (k : Int), (∀ x ∈ suf, ok x) → pre.length + suf.length ≤ SMALL → 0 ≤ k → k + cntS cnt suf ≤ BIG → suf.length < n →
      f n k (pre.length : Int) (pre ++ suf) = some (k + cntS cnt suf, pre ++ numS cnt num suf k) := by
    intro suf
    induction suf with
    | nil =>
      intro pre n k _ _ _ _ hn
      obtain ⟨m, rfl⟩ : ∃ m, n = m + 1 := ⟨n - 1, by omega⟩
      simp only [List.append_nil, h0, cntS, numS]; simp
    | cons x suf ih =>
      intro pre n k hok hl hk hb hn
      obtain ⟨m, rfl⟩ : ∃ m, n = m + 1 := ⟨n - 1, by omega⟩
      simp only [cntS, List.length_cons] at hb hl hn
      have hb' : k + cnt x + cntS cnt suf ≤ BIG := by omega
      rw [h1 m k pre x suf (hok x (by simp)) hk (by omega) (by unfold SMALL at hl; constructor <;> omega)]
      have := ih (pre ++ [num x k]) m (k + cnt x) (fun y hy => hok y (by simp [hy])) (by simp; omega) (by omega) hb' (by omega)
      simp only [List.append_assoc, List.singleton_append, List.length_append, List.length_singleton] at this
      rw [show (((pre.length + 1 : Nat)) : Int) = (pre.length : Int) + 1 by omega] at this
      rw [this]
      simp only [cntS, numS]
      congr 2; omega
  intro a k hok hl hk hb
  have := key a [] FUEL k hok (by simpa using hl) hk hb (by have := z02j; unfold SMALL at hl; omega)
  simpa using this
theorem z0ee {α : Type} (cnt : α → Nat) (num : α → Int → α) (a : List α) (ka : Int) (f : Nat → Int → Int → Option Int)
    (h0 : ∀ n k, f (n + 1) k ((numS cnt num a ka).length : Int) = some k)
    (h1 : ∀ n k i x, getI (numS cnt num a ka) i = some (num x k) → x ∈ a → i < ((numS cnt num a ka).length : Int) → 0 ≤ k → k + cnt x ≤ BIG → ok64 (i + 1) → f (n + 1) k i = f n (k + cnt x) (i + 1))
    (hl : a.length ≤ SMALL) (hk : 0 ≤ ka) (hb : ka + cntS cnt a ≤ BIG) : f FUEL ka 0 = some (ka + cntS cnt a) := by
  have hlen : ∀ (l : List α) (k : Int), (numS cnt num l k).length = l.length := by intro l; induction l with
    | nil => intro k; rfl
    | cons x l ih => intro k; simp [numS, ih]
  have key : ∀ (suf : List α) (pre : List α) (n : Nat) (k : Int), (∀ x ∈ suf, x ∈ a) → numS cnt num a ka = pre ++ numS cnt num suf k → 0 ≤ k → k + cntS cnt suf ≤ BIG → suf.length < n → f n k (pre.length : Int) = some (k + cntS cnt suf) := by
    intro suf
    induction suf with
    | nil =>
      intro pre n k _ he _ _ hn
      obtain ⟨m, rfl⟩ : ∃ m, n = m + 1 := ⟨n - 1, by omega⟩
      have := h0 m k
      rw [he] at this
      simpa [numS, cntS] using this
    | cons x suf ih =>
      intro pre n k hmem he hk hb hn
      obtain ⟨m, rfl⟩ : ∃ m, n = m + 1 := ⟨n - 1, by omega⟩
      simp only [cntS, List.length_cons] at hb hn
      have hL : (numS cnt num a ka).length = pre.length + (numS cnt num suf (k + cnt x)).length + 1 := by rw [he]; simp [numS]; omega
      have hL2 : pre.length + 1 ≤ SMALL := by rw [hlen] at hL; omega
      rw [h1 m k pre.length x (by rw [he, numS]; exact z0c6 _ _ _) (hmem x (by simp)) (by omega) hk (by omega) (by unfold SMALL at hL2; constructor <;> omega)]
      have := ih (pre ++ [num x k]) m (k + cnt x) (fun y hy => hmem y (by simp [hy])) (by rw [he, numS]; simp) (by omega) (by omega) (by omega)
      simp only [List.length_append, List.length_singleton] at this
      rw [show (((pre.length + 1 : Nat)) : Int) = (pre.length : Int) + 1 by omega] at this
      rw [this]; simp only [cntS]; congr 1; omega
  exact key a [] FUEL ka (fun x h => h) (by simp) hk hb (by have := z02j; unfold SMALL at hl; omega)
def cI1 : Int → Nat := fun _ => 1
def nI1 : Int → Int → Int := fun _ k => k
theorem z0w1 (a : List Int) (k : Int) (hl : a.length ≤ SMALL) (hk : 0 ≤ k) (hb : k + cntS cI1 a ≤ BIG) : z08d a k = some (k + cntS cI1 a, numS cI1 nI1 a k) := by
  unfold z08d
  refine z0fb cI1 nI1 (z09d z0zu) (fun _ => True) (fun n k l => ?_) (fun n k pre x suf _ h0 h1 h2 => ?_) a k (fun _ _ => trivial) hl hk hb
  · rw [z09d, if_neg (by simp)]; rfl
  · rw [z09d, if_pos (by simp; omega), z0c6, Option.bind_some, z001 (z247 (by omega) (by simpa [cI1] using h1)), z001 h2, z102]; rfl
theorem z118 (a : List Int) (k : Int) (hl : a.length ≤ SMALL) (hk : 0 ≤ k) (hb : k + cntS cI1 a ≤ BIG) : z09n (numS cI1 nI1 a k) k = some (k + cntS cI1 a) := by
  unfold z09n
  refine z0ee cI1 nI1 a k (z09c _ z0zs) (fun n k => ?_) (fun n k i x hg hm hi h0 h1 h2 => ?_) hl hk hb
  · rw [z09c, if_neg (by simp)]; rfl
  · rw [z09c, if_pos (decide_eq_true hi), hg, Option.bind_some, if_pos (by simp [nI1]), z001 (z247 (by omega) (by simpa [cI1] using h1)), z001 h2]; rfl
end Go.Am.Pl
end
section
set_option maxRecDepth 100000
set_option maxHeartbeats 2000000
set_option linter.unusedVariables false
set_option linter.unusedSimpArgs false
namespace Go.Am.Pl
open Go
theorem gd_ok {v : Int} {α : Type} {x : Option α} (h0 : 0 ≤ v) (h1 : v ≤ BIG) : gd (ok64 v) x = x := z001 (z247 h0 h1)
theorem ng_ok {v : Int} {α : Type} {x y : Option α} (h0 : 0 ≤ v) : (if decide (v < 0) = true then x else y) = y := if_neg (by simp; omega)
def okGItem (x : GItem) : Prop := True
def cGItem (x : GItem) : Nat := 1 + 1 + 1
def nGItem (x : GItem) (k : Int) : GItem := (GItem.mk (k) (k + 1) (k + 1 + 1))
theorem z1rg (x : GItem) (k : Int) : k + (cGItem x : Int) = k + 1 + 1 + 1 := by unfold cGItem; omega
theorem z1jh (a : List GItem) (k : Int) (hl : a.length ≤ SMALL) (hk : 0 ≤ k) (hb : k + cntS cGItem a ≤ BIG) : z0cy a k = some (k + cntS cGItem a, numS cGItem nGItem a k) := by
  unfold z0cy
  refine z0fb cGItem nGItem _ okGItem (fun n k l => ?_) (fun n k pre x suf ho h0 h1 h2 => ?_) a k (fun _ _ => True.intro) hl hk hb
  · rw [z06s, if_neg (by simp)]; rfl
  · rw [z1rg] at h1 ⊢
    (try unfold okGItem at ho)
    have hB : BIG = 4000000000000000000 := rfl
    rw [z06s, if_pos (by simp; omega)]
    simp (maxSteps := 3000000) (disch := first | omega | exact ho | exact ho.1 | exact ho.2 | exact ho.2.1 | exact ho.2.2 | exact ho.2.2.1 | exact ho.2.2.2 | exact ho.2.2.2.1 | exact ho.2.2.2.2 | exact ho.2.2.2.2.1 | exact ho.2.2.2.2.2 | (intro y hy; exact True.intro)) only [z0c6, Option.bind_some, z102, z001 h2, gd_ok]
    rfl
theorem z1ik (a : List GItem) (k : Int) (hl : a.length ≤ SMALL) (hk : 0 ≤ k) (hb : k + cntS cGItem a ≤ BIG) : z0cr (numS cGItem nGItem a k) k = some (k + cntS cGItem a) := by
  unfold z0cr
  refine z0ee cGItem nGItem a k _ (fun n k => ?_) (fun n k i x hg hm hi h0 h1 h2 => ?_) hl hk hb
  · rw [z06n, if_neg (by simp)]; rfl
  · have ho : okGItem x := True.intro
    rw [z1rg] at h1 ⊢
    unfold okGItem at ho
    have hB : BIG = 4000000000000000000 := rfl
    rw [z06n, if_pos (decide_eq_true hi)]
    simp (maxSteps := 3000000) (disch := first | omega | exact ho | exact ho.1 | exact ho.2 | exact ho.2.1 | exact ho.2.2 | exact ho.2.2.1 | exact ho.2.2.2 | exact ho.2.2.2.1 | exact ho.2.2.2.2 | exact ho.2.2.2.2.1 | exact ho.2.2.2.2.2 | (intro y hy; exact True.intro)) only [hg, nGItem, Option.bind_some, z001 h2, gd_ok, ng_ok, decide_true, if_true]
def okGDid (x : GDid) : Prop := True
def cGDid (x : GDid) : Nat := 1 + 1
def nGDid (x : GDid) (k : Int) : GDid := (GDid.mk (k) (k + 1))
theorem z1wp (x : GDid) (k : Int) : k + (cGDid x : Int) = k + 1 + 1 := by unfold cGDid; omega
theorem z1or (a : List GDid) (k : Int) (hl : a.length ≤ SMALL) (hk : 0 ≤ k) (hb : k + cntS cGDid a ≤ BIG) : z0et a k = some (k + cntS cGDid a, numS cGDid nGDid a k) := by
  unfold z0et
  refine z0fb cGDid nGDid _ okGDid (fun n k l => ?_) (fun n k pre x suf ho h0 h1 h2 => ?_) a k (fun _ _ => True.intro) hl hk hb
  · rw [z07s, if_neg (by simp)]; rfl
  · rw [z1wp] at h1 ⊢
    (try unfold okGDid at ho)
    have hB : BIG = 4000000000000000000 := rfl
    rw [z07s, if_pos (by simp; omega)]
    simp (maxSteps := 3000000) (disch := first | omega | exact ho | exact ho.1 | exact ho.2 | exact ho.2.1 | exact ho.2.2 | exact ho.2.2.1 | exact ho.2.2.2 | exact ho.2.2.2.1 | exact ho.2.2.2.2 | exact ho.2.2.2.2.1 | exact ho.2.2.2.2.2 | (intro y hy; exact True.intro)) only [z0c6, Option.bind_some, z102, z001 h2, gd_ok]
    rfl
theorem z1oa (a : List GDid) (k : Int) (hl : a.length ≤ SMALL) (hk : 0 ≤ k) (hb : k + cntS cGDid a ≤ BIG) : z0ej (numS cGDid nGDid a k) k = some (k + cntS cGDid a) := by
  unfold z0ej
  refine z0ee cGDid nGDid a k _ (fun n k => ?_) (fun n k i x hg hm hi h0 h1 h2 => ?_) hl hk hb
  · rw [z07m, if_neg (by simp)]; rfl
  · have ho : okGDid x := True.intro
    rw [z1wp] at h1 ⊢
    unfold okGDid at ho
    have hB : BIG = 4000000000000000000 := rfl
    rw [z07m, if_pos (decide_eq_true hi)]
    simp (maxSteps := 3000000) (disch := first | omega | exact ho | exact ho.1 | exact ho.2 | exact ho.2.1 | exact ho.2.2 | exact ho.2.2.1 | exact ho.2.2.2 | exact ho.2.2.2.1 | exact ho.2.2.2.2 | exact ho.2.2.2.2.1 | exact ho.2.2.2.2.2 | (intro y hy; exact True.intro)) only [hg, nGDid, Option.bind_some, z001 h2, gd_ok, ng_ok, decide_true, if_true]
def okGFlow (x : GFlow) : Prop := True
def cGFlow (x : GFlow) : Nat := 1 + 1 + 1 + 1
def nGFlow (x : GFlow) (k : Int) : GFlow := (GFlow.mk (k) (GAsk.mk (k + 1) (k + 1 + 1) (k + 1 + 1 + 1)))
theorem z1rf (x : GFlow) (k : Int) : k + (cGFlow x : Int) = k + 1 + 1 + 1 + 1 := by unfold cGFlow; omega
theorem z1ji (a : List GFlow) (k : Int) (hl : a.length ≤ SMALL) (hk : 0 ≤ k) (hb : k + cntS cGFlow a ≤ BIG) : z0cz a k = some (k + cntS cGFlow a, numS cGFlow nGFlow a k) := by
  unfold z0cz
  refine z0fb cGFlow nGFlow _ okGFlow (fun n k l => ?_) (fun n k pre x suf ho h0 h1 h2 => ?_) a k (fun _ _ => True.intro) hl hk hb
  · rw [z06t, if_neg (by simp)]; rfl
  · rw [z1rf] at h1 ⊢
    (try unfold okGFlow at ho)
    have hB : BIG = 4000000000000000000 := rfl
    rw [z06t, if_pos (by simp; omega)]
    simp (maxSteps := 3000000) (disch := first | omega | exact ho | exact ho.1 | exact ho.2 | exact ho.2.1 | exact ho.2.2 | exact ho.2.2.1 | exact ho.2.2.2 | exact ho.2.2.2.1 | exact ho.2.2.2.2 | exact ho.2.2.2.2.1 | exact ho.2.2.2.2.2 | (intro y hy; exact True.intro)) only [z0c6, Option.bind_some, z102, z001 h2, gd_ok]
    rfl
theorem z1im (a : List GFlow) (k : Int) (hl : a.length ≤ SMALL) (hk : 0 ≤ k) (hb : k + cntS cGFlow a ≤ BIG) : z0cs (numS cGFlow nGFlow a k) k = some (k + cntS cGFlow a) := by
  unfold z0cs
  refine z0ee cGFlow nGFlow a k _ (fun n k => ?_) (fun n k i x hg hm hi h0 h1 h2 => ?_) hl hk hb
  · rw [z06o, if_neg (by simp)]; rfl
  · have ho : okGFlow x := True.intro
    rw [z1rf] at h1 ⊢
    unfold okGFlow at ho
    have hB : BIG = 4000000000000000000 := rfl
    rw [z06o, if_pos (decide_eq_true hi)]
    simp (maxSteps := 3000000) (disch := first | omega | exact ho | exact ho.1 | exact ho.2 | exact ho.2.1 | exact ho.2.2 | exact ho.2.2.1 | exact ho.2.2.2 | exact ho.2.2.2.1 | exact ho.2.2.2.2 | exact ho.2.2.2.2.1 | exact ho.2.2.2.2.2 | (intro y hy; exact True.intro)) only [hg, nGFlow, Option.bind_some, z001 h2, gd_ok, ng_ok, decide_true, if_true]
def okGTask (x : GTask) : Prop := x.in_.length ≤ SMALL ∧ x.out.length ≤ SMALL ∧ x.clear.length ≤ SMALL
def cGTask (x : GTask) : Nat := 1 + 1 + cntS cI1 x.in_ + cntS cGFlow x.out + cntS cI1 x.clear + 1 + 1 + 1 + 1
def nGTask (x : GTask) (k : Int) : GTask := (GTask.mk (k) (k + 1) (numS cI1 nI1 x.in_ (k + 1 + 1)) (numS cGFlow nGFlow x.out (k + 1 + 1 + ((cntS cI1 x.in_ : Nat) : Int))) (numS cI1 nI1 x.clear (k + 1 + 1 + ((cntS cI1 x.in_ : Nat) : Int) + ((cntS cGFlow x.out : Nat) : Int))) (k + 1 + 1 + ((cntS cI1 x.in_ : Nat) : Int) + ((cntS cGFlow x.out : Nat) : Int) + ((cntS cI1 x.clear : Nat) : Int)) (k + 1 + 1 + ((cntS cI1 x.in_ : Nat) : Int) + ((cntS cGFlow x.out : Nat) : Int) + ((cntS cI1 x.clear : Nat) : Int) + 1) (k + 1 + 1 + ((cntS cI1 x.in_ : Nat) : Int) + ((cntS cGFlow x.out : Nat) : Int) + ((cntS cI1 x.clear : Nat) : Int) + 1 + 1) (k + 1 + 1 + ((cntS cI1 x.in_ : Nat) : Int) + ((cntS cGFlow x.out : Nat) : Int) + ((cntS cI1 x.clear : Nat) : Int) + 1 + 1 + 1))
theorem z1ri (x : GTask) (k : Int) : k + (cGTask x : Int) = k + 1 + 1 + ((cntS cI1 x.in_ : Nat) : Int) + ((cntS cGFlow x.out : Nat) : Int) + ((cntS cI1 x.clear : Nat) : Int) + 1 + 1 + 1 + 1 := by unfold cGTask; omega
theorem z1jj (a : List GTask) (k : Int) (hok : ∀ x ∈ a, okGTask x) (hl : a.length ≤ SMALL) (hk : 0 ≤ k) (hb : k + cntS cGTask a ≤ BIG) : z0d0 a k = some (k + cntS cGTask a, numS cGTask nGTask a k) := by
  unfold z0d0
  refine z0fb cGTask nGTask _ okGTask (fun n k l => ?_) (fun n k pre x suf ho h0 h1 h2 => ?_) a k hok hl hk hb
  · rw [z06u, if_neg (by simp)]; rfl
  · rw [z1ri] at h1 ⊢
    (try unfold okGTask at ho)
    have hB : BIG = 4000000000000000000 := rfl
    rw [z06u, if_pos (by simp; omega)]
    simp (maxSteps := 3000000) (disch := first | omega | exact ho | exact ho.1 | exact ho.2 | exact ho.2.1 | exact ho.2.2 | exact ho.2.2.1 | exact ho.2.2.2 | exact ho.2.2.2.1 | exact ho.2.2.2.2 | exact ho.2.2.2.2.1 | exact ho.2.2.2.2.2 | (intro y hy; exact True.intro)) only [z0c6, Option.bind_some, z102, z001 h2, gd_ok, z0w1, z1ji]
    rfl
theorem z1in (a : List GTask) (k : Int) (hok : ∀ x ∈ a, okGTask x) (hl : a.length ≤ SMALL) (hk : 0 ≤ k) (hb : k + cntS cGTask a ≤ BIG) : z0ct (numS cGTask nGTask a k) k = some (k + cntS cGTask a) := by
  unfold z0ct
  refine z0ee cGTask nGTask a k _ (fun n k => ?_) (fun n k i x hg hm hi h0 h1 h2 => ?_) hl hk hb
  · rw [z06p, if_neg (by simp)]; rfl
  · have ho : okGTask x := hok x hm
    rw [z1ri] at h1 ⊢
    unfold okGTask at ho
    have hB : BIG = 4000000000000000000 := rfl
    rw [z06p, if_pos (decide_eq_true hi)]
    simp (maxSteps := 3000000) (disch := first | omega | exact ho | exact ho.1 | exact ho.2 | exact ho.2.1 | exact ho.2.2 | exact ho.2.2.1 | exact ho.2.2.2 | exact ho.2.2.2.1 | exact ho.2.2.2.2 | exact ho.2.2.2.2.1 | exact ho.2.2.2.2.2 | (intro y hy; exact True.intro)) only [hg, nGTask, Option.bind_some, z001 h2, gd_ok, ng_ok, decide_true, if_true, z118, z1im]
def okGNet (x : GNet) : Prop := x.tasks.length ≤ SMALL ∧ ∀ y ∈ x.tasks, okGTask y
def cGNet (x : GNet) : Nat := 1 + cntS cGTask x.tasks
def nGNet (x : GNet) (k : Int) : GNet := (GNet.mk (k) (numS cGTask nGTask x.tasks (k + 1)))
theorem z1wq (x : GNet) (k : Int) : k + (cGNet x : Int) = k + 1 + ((cntS cGTask x.tasks : Nat) : Int) := by unfold cGNet; omega
theorem z1ot (a : List GNet) (k : Int) (hok : ∀ x ∈ a, okGNet x) (hl : a.length ≤ SMALL) (hk : 0 ≤ k) (hb : k + cntS cGNet a ≤ BIG) : z0ev a k = some (k + cntS cGNet a, numS cGNet nGNet a k) := by
  unfold z0ev
  refine z0fb cGNet nGNet _ okGNet (fun n k l => ?_) (fun n k pre x suf ho h0 h1 h2 => ?_) a k hok hl hk hb
  · rw [z07u, if_neg (by simp)]; rfl
  · rw [z1wq] at h1 ⊢
    (try unfold okGNet at ho)
    have hB : BIG = 4000000000000000000 := rfl
    rw [z07u, if_pos (by simp; omega)]
    simp (maxSteps := 3000000) (disch := first | omega | exact ho | exact ho.1 | exact ho.2 | exact ho.2.1 | exact ho.2.2 | exact ho.2.2.1 | exact ho.2.2.2 | exact ho.2.2.2.1 | exact ho.2.2.2.2 | exact ho.2.2.2.2.1 | exact ho.2.2.2.2.2 | (intro y hy; exact True.intro)) only [z0c6, Option.bind_some, z102, z001 h2, gd_ok, z1jj]
    rfl
theorem z1oc (a : List GNet) (k : Int) (hok : ∀ x ∈ a, okGNet x) (hl : a.length ≤ SMALL) (hk : 0 ≤ k) (hb : k + cntS cGNet a ≤ BIG) : z0el (numS cGNet nGNet a k) k = some (k + cntS cGNet a) := by
  unfold z0el
  refine z0ee cGNet nGNet a k _ (fun n k => ?_) (fun n k i x hg hm hi h0 h1 h2 => ?_) hl hk hb
  · rw [z07o, if_neg (by simp)]; rfl
  · have ho : okGNet x := hok x hm
    rw [z1wq] at h1 ⊢
    unfold okGNet at ho
    have hB : BIG = 4000000000000000000 := rfl
    rw [z07o, if_pos (decide_eq_true hi)]
    simp (maxSteps := 3000000) (disch := first | omega | exact ho | exact ho.1 | exact ho.2 | exact ho.2.1 | exact ho.2.2 | exact ho.2.2.1 | exact ho.2.2.2 | exact ho.2.2.2.1 | exact ho.2.2.2.2 | exact ho.2.2.2.2.1 | exact ho.2.2.2.2.2 | (intro y hy; exact True.intro)) only [hg, nGNet, Option.bind_some, z001 h2, gd_ok, ng_ok, decide_true, if_true, z1in]
def okGNode (x : GNode) : Prop := x.stone.length ≤ SMALL
def cGNode (x : GNode) : Nat := 1 + 1 + 1 + 1 + 1 + 1 + cntS cI1 x.stone
def nGNode (x : GNode) (k : Int) : GNode := (GNode.mk (GAsk.mk (k) (k + 1) (k + 1 + 1)) (k + 1 + 1 + 1) (k + 1 + 1 + 1 + 1) (k + 1 + 1 + 1 + 1 + 1) (numS cI1 nI1 x.stone (k + 1 + 1 + 1 + 1 + 1 + 1)))
theorem z1rh (x : GNode) (k : Int) : k + (cGNode x : Int) = k + 1 + 1 + 1 + 1 + 1 + 1 + ((cntS cI1 x.stone : Nat) : Int) := by unfold cGNode; omega
theorem z1jk (a : List GNode) (k : Int) (hok : ∀ x ∈ a, okGNode x) (hl : a.length ≤ SMALL) (hk : 0 ≤ k) (hb : k + cntS cGNode a ≤ BIG) : z0d1 a k = some (k + cntS cGNode a, numS cGNode nGNode a k) := by
  unfold z0d1
  refine z0fb cGNode nGNode _ okGNode (fun n k l => ?_) (fun n k pre x suf ho h0 h1 h2 => ?_) a k hok hl hk hb
  · rw [z06v, if_neg (by simp)]; rfl
  · rw [z1rh] at h1 ⊢
    (try unfold okGNode at ho)
    have hB : BIG = 4000000000000000000 := rfl
    rw [z06v, if_pos (by simp; omega)]
    simp (maxSteps := 3000000) (disch := first | omega | exact ho | exact ho.1 | exact ho.2 | exact ho.2.1 | exact ho.2.2 | exact ho.2.2.1 | exact ho.2.2.2 | exact ho.2.2.2.1 | exact ho.2.2.2.2 | exact ho.2.2.2.2.1 | exact ho.2.2.2.2.2 | (intro y hy; exact True.intro)) only [z0c6, Option.bind_some, z102, z001 h2, gd_ok, z0w1]
    rfl
theorem z1io (a : List GNode) (k : Int) (hok : ∀ x ∈ a, okGNode x) (hl : a.length ≤ SMALL) (hk : 0 ≤ k) (hb : k + cntS cGNode a ≤ BIG) : z0cu (numS cGNode nGNode a k) k = some (k + cntS cGNode a) := by
  unfold z0cu
  refine z0ee cGNode nGNode a k _ (fun n k => ?_) (fun n k i x hg hm hi h0 h1 h2 => ?_) hl hk hb
  · rw [z06q, if_neg (by simp)]; rfl
  · have ho : okGNode x := hok x hm
    rw [z1rh] at h1 ⊢
    unfold okGNode at ho
    have hB : BIG = 4000000000000000000 := rfl
    rw [z06q, if_pos (decide_eq_true hi)]
    simp (maxSteps := 3000000) (disch := first | omega | exact ho | exact ho.1 | exact ho.2 | exact ho.2.1 | exact ho.2.2 | exact ho.2.2.1 | exact ho.2.2.2 | exact ho.2.2.2.1 | exact ho.2.2.2.2 | exact ho.2.2.2.2.1 | exact ho.2.2.2.2.2 | (intro y hy; exact True.intro)) only [hg, nGNode, Option.bind_some, z001 h2, gd_ok, ng_ok, decide_true, if_true, z118]
def okGRun (x : GRun) : Prop := x.case.marks.length ≤ SMALL ∧ x.case.busy.length ≤ SMALL ∧ x.case.data.length ≤ SMALL ∧ x.case.did.length ≤ SMALL
def cGRun (x : GRun) : Nat := 1 + 1 + cntS cI1 x.case.marks + cntS cGItem x.case.busy + cntS cI1 x.case.data + cntS cGDid x.case.did
def nGRun (x : GRun) (k : Int) : GRun := (GRun.mk (k) (GCase.mk (k + 1) (numS cI1 nI1 x.case.marks (k + 1 + 1)) (numS cGItem nGItem x.case.busy (k + 1 + 1 + ((cntS cI1 x.case.marks : Nat) : Int))) (numS cI1 nI1 x.case.data (k + 1 + 1 + ((cntS cI1 x.case.marks : Nat) : Int) + ((cntS cGItem x.case.busy : Nat) : Int))) (numS cGDid nGDid x.case.did (k + 1 + 1 + ((cntS cI1 x.case.marks : Nat) : Int) + ((cntS cGItem x.case.busy : Nat) : Int) + ((cntS cI1 x.case.data : Nat) : Int)))))
theorem z1wr (x : GRun) (k : Int) : k + (cGRun x : Int) = k + 1 + 1 + ((cntS cI1 x.case.marks : Nat) : Int) + ((cntS cGItem x.case.busy : Nat) : Int) + ((cntS cI1 x.case.data : Nat) : Int) + ((cntS cGDid x.case.did : Nat) : Int) := by unfold cGRun; omega
theorem z1os (a : List GRun) (k : Int) (hok : ∀ x ∈ a, okGRun x) (hl : a.length ≤ SMALL) (hk : 0 ≤ k) (hb : k + cntS cGRun a ≤ BIG) : z0eu a k = some (k + cntS cGRun a, numS cGRun nGRun a k) := by
  unfold z0eu
  refine z0fb cGRun nGRun _ okGRun (fun n k l => ?_) (fun n k pre x suf ho h0 h1 h2 => ?_) a k hok hl hk hb
  · rw [z07t, if_neg (by simp)]; rfl
  · rw [z1wr] at h1 ⊢
    (try unfold okGRun at ho)
    have hB : BIG = 4000000000000000000 := rfl
    rw [z07t, if_pos (by simp; omega)]
    simp (maxSteps := 3000000) (disch := first | omega | exact ho | exact ho.1 | exact ho.2 | exact ho.2.1 | exact ho.2.2 | exact ho.2.2.1 | exact ho.2.2.2 | exact ho.2.2.2.1 | exact ho.2.2.2.2 | exact ho.2.2.2.2.1 | exact ho.2.2.2.2.2 | (intro y hy; exact True.intro)) only [z0c6, Option.bind_some, z102, z001 h2, gd_ok, z0w1, z1jh, z1or]
    rfl
theorem z1ob (a : List GRun) (k : Int) (hok : ∀ x ∈ a, okGRun x) (hl : a.length ≤ SMALL) (hk : 0 ≤ k) (hb : k + cntS cGRun a ≤ BIG) : z0ek (numS cGRun nGRun a k) k = some (k + cntS cGRun a) := by
  unfold z0ek
  refine z0ee cGRun nGRun a k _ (fun n k => ?_) (fun n k i x hg hm hi h0 h1 h2 => ?_) hl hk hb
  · rw [z07n, if_neg (by simp)]; rfl
  · have ho : okGRun x := hok x hm
    rw [z1wr] at h1 ⊢
    unfold okGRun at ho
    have hB : BIG = 4000000000000000000 := rfl
    rw [z07n, if_pos (decide_eq_true hi)]
    simp (maxSteps := 3000000) (disch := first | omega | exact ho | exact ho.1 | exact ho.2 | exact ho.2.1 | exact ho.2.2 | exact ho.2.2.1 | exact ho.2.2.2 | exact ho.2.2.2.1 | exact ho.2.2.2.2 | exact ho.2.2.2.2.1 | exact ho.2.2.2.2.2 | (intro y hy; exact True.intro)) only [hg, nGRun, Option.bind_some, z001 h2, gd_ok, ng_ok, decide_true, if_true, z118, z1ik, z1oa]
end Go.Am.Pl
end
section
set_option maxRecDepth 100000
set_option maxHeartbeats 2000000
set_option linter.unusedVariables false
set_option linter.unusedSimpArgs false
namespace Go.Am.Pl
open Go
def vGNet (x : GNet) : Nat := cntS cGTask x.tasks
def okGHouse (x : GHouse) : Prop := (x.nets.length ≤ SMALL ∧ ∀ y ∈ x.nets, okGNet y) ∧ x.people.length ≤ SMALL ∧ (x.tree.length ≤ SMALL ∧ ∀ y ∈ x.tree, okGNode y) ∧ (x.runs.length ≤ SMALL ∧ ∀ y ∈ x.runs, okGRun y)
def vGHouse (x : GHouse) : Nat := cntS cGNet x.nets + cntS cI1 x.people + cntS cGNode x.tree + cntS cGRun x.runs
def wGHouse (x : GHouse) (k : Int) : GHouse := GHouse.mk (numS cGNet nGNet x.nets k) (numS cI1 nI1 x.people (k + (cntS cGNet x.nets : Nat))) (numS cGNode nGNode x.tree (k + (cntS cGNet x.nets : Nat) + (cntS cI1 x.people : Nat)))
  (numS cGRun nGRun x.runs (k + (cntS cGNet x.nets : Nat) + (cntS cI1 x.people : Nat) + (cntS cGNode x.tree : Nat)))
theorem z1lp (x : GHouse) (k : Int) : k + (vGHouse x : Int) = k + (cntS cGNet x.nets : Nat) + (cntS cI1 x.people : Nat) + (cntS cGNode x.tree : Nat) + (cntS cGRun x.runs : Nat) := by unfold vGHouse; omega
theorem z0zv (x : GHouse) (k : Int) (ho : okGHouse x) (hk : 0 ≤ k) (hb : k + vGHouse x ≤ BIG) : z09r x k = some (k + vGHouse x, wGHouse x k) := by
  obtain ⟨h1, h2, h3, h4⟩ := ho
  rw [z1lp] at hb ⊢
  unfold z09r
  rw [z1ot x.nets k h1.2 h1.1 hk (by omega), Option.bind_some, z0w1 x.people _ h2 (by omega) (by omega), Option.bind_some, z1jk x.tree _ h3.2 h3.1 (by omega) (by omega), Option.bind_some, z1os x.runs _ h4.2 h4.1 (by omega) (by omega)]
  rfl
theorem z1il (x : GHouse) (k : Int) (ho : okGHouse x) (hk : 0 ≤ k) (hb : k + vGHouse x ≤ BIG) : z09m (wGHouse x k) k = some (k + vGHouse x) := by
  obtain ⟨h1, h2, h3, h4⟩ := ho
  rw [z1lp] at hb ⊢
  unfold z09m wGHouse
  simp only []
  rw [z1oc x.nets k h1.2 h1.1 hk (by omega), Option.bind_some, ng_ok (by omega), z118 x.people _ h2 (by omega) (by omega), Option.bind_some, ng_ok (by omega), z1io x.tree _ h3.2 h3.1 (by omega) (by omega), Option.bind_some, ng_ok (by omega),
    z1ob x.runs _ h4.2 h4.1 (by omega) (by omega), Option.bind_some, ng_ok (by omega)]
theorem z1u7 (x : GReq) (k : Int) (ho : x.data.length ≤ SMALL) (hk : 0 ≤ k) (hb : k + cntS cI1 x.data ≤ BIG) : z0hk x k = some (k + cntS cI1 x.data, GReq.mk x.kind x.who x.case x.task x.var x.num (numS cI1 nI1 x.data k) x.if_ x.ans) := by
  unfold z0hk
  rw [z0w1 x.data k ho hk hb]; rfl
end Go.Am.Pl
end
section
set_option maxRecDepth 100000
set_option linter.unusedVariables false
set_option linter.unusedSimpArgs false
namespace Go.Am.Pl
open Go
theorem z1fs {α : Type} {cnt W : α → Nat} {K : Nat} : ∀ {l : List α}, (∀ x ∈ l, cnt x ≤ K + K * W x) → cntS cnt l ≤ K * (l.length + sumW W l)
  | [], _ => by simp [cntS]
  | x :: l, h => by
    have h1 := z1fs (l := l) fun y hy => h y (by simp [hy])
    have h2 := h x (by simp)
    simp only [cntS, List.length_cons]
    have : sumW W (x :: l) = W x + sumW W l := by simp [sumW]
    rw [this]
    have : K * (l.length + 1 + (W x + sumW W l)) = K * (l.length + sumW W l) + (K + K * W x) := by simp only [Nat.mul_add, Nat.mul_one]; omega
    omega
theorem z0kh {α : Type} {cnt : α → Nat} {K : Nat} (h : ∀ x, cnt x = K) : ∀ l : List α, cntS cnt l = K * l.length
  | [] => rfl
  | x :: l => by simp only [cntS, h, z0kh h l, List.length_cons, Nat.mul_add]; omega
theorem cIntS (l : List Int) : cntS cI1 l = 1 * l.length := z0kh (fun _ => rfl) l
theorem cItemS (l : List GItem) : cntS cGItem l = 3 * l.length := z0kh (fun _ => rfl) l
theorem cDidS (l : List GDid) : cntS cGDid l = 2 * l.length := z0kh (fun _ => rfl) l
theorem cFlowS (l : List GFlow) : cntS cGFlow l = 4 * l.length := z0kh (fun _ => rfl) l
theorem z23j (x : GTask) : cGTask x ≤ 10 + 10 * GTask.W x := by
  unfold cGTask; rw [cIntS, cIntS, cFlowS]; simp only [GTask.W]; omega
theorem z26m (x : GNet) : vGNet x ≤ 10 * GNet.W x := by
  unfold vGNet
  have := z1fs (cnt := cGTask) (W := GTask.W) (K := 10) (l := x.tasks) fun t _ => z23j t
  simp only [GNet.W]; omega
theorem z25f (x : GNet) : cGNet x ≤ 10 + 10 * GNet.W x := by
  have := z26m x; unfold vGNet at this; unfold cGNet; omega
theorem z23i (x : GNode) : cGNode x ≤ 10 + 10 * GNode.W x := by
  unfold cGNode; rw [cIntS]; simp only [GNode.W]; omega
theorem z25g (x : GRun) : cGRun x ≤ 10 + 10 * GRun.W x := by
  unfold cGRun; rw [cIntS, cIntS, cItemS, cDidS]; simp only [GRun.W, GCase.W]; omega
theorem z23h (l : List GNet) : cntS cGNet l ≤ 10 * (l.length + sumW GNet.W l) := z1fs fun x _ => z25f x
theorem z1su (x : GHouse) : vGHouse x ≤ 10 * GHouse.W x := by
  unfold vGHouse
  have h1 := z23h x.nets
  have h2 := z1fs (cnt := cGNode) (W := GNode.W) (K := 10) (l := x.tree) fun t _ => z23i t
  have h3 := z1fs (cnt := cGRun) (W := GRun.W) (K := 10) (l := x.runs) fun t _ => z25g t
  rw [cIntS]; simp only [GHouse.W]; omega
end Go.Am.Pl
end
section
set_option maxRecDepth 100000
set_option linter.unusedVariables false
set_option linter.unusedSimpArgs false
namespace Go.Am.Pl
open Go
theorem z1bg {α γ β : Type} (l : List α) (hl : l.length ≤ SMALL) (e : α → List γ) (f : Nat → Int → List γ → Option β) (kx : List γ → Option β) (h0 : ∀ n s, f (n + 1) (l.length : Int) s = kx s)
    (h1 : ∀ n pre x suf s, l = pre ++ x :: suf → getI l (pre.length : Int) = some x → x ∈ l → (pre.length : Int) < (l.length : Int) → ok64 ((pre.length : Int) + 1) → s = pre.flatMap e → f (n + 1) (pre.length : Int) s = f n ((pre.length : Int) + 1) (s ++ e x)) :
    f FUEL 0 [] = kx (l.flatMap e) := by
  have := scan l (by unfold SMALL at hl; omega) f (fun pre suf s => kx (s ++ suf.flatMap e)) (fun pre s => s = pre.flatMap e) (fun n s _ => by rw [h0]; simp)
    (fun n pre x suf s a b c d i k => by
      rw [h1 n pre x suf s a b (by rw [a]; simp) c d i, k (s ++ e x) (by rw [i]; simp)]
      simp) FUEL [] rfl (by have := z02j; unfold SMALL at hl; omega)
  rw [this]; simp
theorem z1cr {α γ : Type} {e : α → List γ} (he : ∀ x, (e x).length ≤ 1) : ∀ l : List α, (l.flatMap e).length ≤ l.length
  | [] => by simp
  | x :: l => by have := z1cr he l; have := he x; simp only [List.flatMap_cons, List.length_append, List.length_cons]; omega
end Go.Am.Pl
end
section
set_option maxRecDepth 100000
set_option linter.unusedVariables false
set_option linter.unusedSimpArgs false
namespace Go.Am.Pl
open Go
theorem z22a {a b : List Int} (hl : a.length ≤ SMALL) (hab : a.length = b.length) (c : Option Bool) (f : Nat → Int → Option Bool) (h0 : ∀ n, f (n + 1) (a.length : Int) = c)
    (h1 : ∀ n i x y, getI a i = some x → getI b i = some y → i < (a.length : Int) → ok64 (i + 1) → f (n + 1) i = if decide (x = y) = true then f n (i + 1) else some false) :
    f FUEL 0 = if decide (a = b) = true then c else some false := by
  have := scan0 a (by unfold SMALL at hl; omega) f (fun pre suf => if decide (suf = b.drop pre.length) = true then c else some false)
    (fun n => by rw [h0, hab, List.drop_eq_nil_of_le (Nat.le_refl _)]; rfl)
    (fun n pre x suf ha hg hlt hok ih => by
      have hk : pre.length < b.length := by omega
      rw [h1 n _ x b[pre.length] hg (by rw [z08t]; exact List.getElem?_eq_getElem hk) hlt hok, ih, List.drop_eq_getElem_cons hk, List.length_append, List.length_singleton]
      by_cases hx : x = b[pre.length]
      · rw [if_pos (decide_eq_true hx)]
        by_cases hs : suf = b.drop (pre.length + 1)
        · rw [if_pos (decide_eq_true hs), if_pos (decide_eq_true (by rw [← hx, ← hs]))]
        · rw [if_neg (by simpa using hs), if_neg (by simp only [decide_eq_true_eq]; intro h; exact hs (List.cons.inj h).2)]
      · rw [if_neg (by simpa using hx), if_neg (by simp only [decide_eq_true_eq]; intro h; exact hx (List.cons.inj h).1)])
  simpa using this
theorem z254 (a b : List Int) (hl : a.length ≤ SMALL) : z119 a b = some (decide (a = b)) := by
  unfold z119
  by_cases h : a.length = b.length
  · rw [if_pos (decide_eq_true (by omega)), z22a hl h (some true) (z0av a b (a.length : Int) z15e) (fun n => by rw [z0av, if_neg (by simp)]; rfl)
      (fun n i x y ha hb hlt hok => by rw [z0av, if_pos (decide_eq_true hlt), ha, Option.bind_some, hb, Option.bind_some, z001 hok])]
    cases decide (a = b) <;> rfl
  · rw [if_neg (by simp only [decide_eq_true_eq]; omega)]
    exact congrArg some (decide_eq_false fun e => h (by rw [e])).symm
theorem z25b (a b : GAsk) : [a.op, a.var, a.k] = [b.op, b.var, b.k] ↔ a = b := by cases a; cases b; simp
theorem z1w4 (a b : GReq) (hl : a.data.length ≤ SMALL) : z0fa a b = some (decide (a = b)) := by
  unfold z0fa
  have e : a.data.length = b.data.length → z02n a b (z03x a b) FUEL 0 = if decide (a.data = b.data) = true then z03x a b else some false := fun h =>
    z22a hl h _ (z02n a b (z03x a b)) (fun n => by rw [z02n, if_neg (by simp)])
      (fun n i x y ha hb hlt hok => by rw [z02n, if_pos (decide_eq_true hlt), ha, Option.bind_some, hb, Option.bind_some, z001 hok])
  have e2 : (if decide ((a.data.length : Int) = (b.data.length : Int)) = true then z02n a b (z03x a b) FUEL 0 else some false) = if decide (a.data = b.data) = true then z03x a b else some false := by
    by_cases h : a.data.length = b.data.length
    · rw [if_pos (decide_eq_true (by omega)), e h]
    · rw [if_neg (by simp only [decide_eq_true_eq]; omega), if_neg (by simp only [decide_eq_true_eq]; intro e; exact h (by rw [e]))]
  rw [e2]
  unfold z03x
  refine (z00h (z00h (z00h (z00h (z00h (z00h (z00h (z00h rfl)))))))).trans (congrArg some (decide_eq_decide.2 ?_))
  rw [z25b]
  cases a; cases b; simp only [GReq.mk.injEq]
  constructor
  · rintro ⟨a, b, c, d, e, f, g, h, i⟩; exact ⟨b, c, d, e, f, g, a, h, i⟩
  · rintro ⟨b, c, d, e, f, g, a, h, i⟩; exact ⟨a, b, c, d, e, f, g, h, i⟩
theorem z20s (a b : GReq) (hl : a.data.length ≤ SMALL) : z05p a b = some (decide (a = b)) := by
  unfold z05p
  rw [z254 _ _ hl]
  refine (z00h (z00h (z00h (z00h (z00h (z00h (z00h (z00h rfl)))))))).trans (congrArg some (decide_eq_decide.2 ?_))
  rw [z25b]
  cases a; cases b; simp only [GReq.mk.injEq]
  constructor
  · rintro ⟨b, c, d, e, f, g, h, i, a⟩; exact ⟨b, c, d, e, f, g, a, h, i⟩
  · rintro ⟨b, c, d, e, f, g, a, h, i⟩; exact ⟨b, c, d, e, f, g, h, i, a⟩
theorem z23y {n a b : Int} : inB n a b = true ↔ a ≤ n ∧ n ≤ b := by simp [inB]
def formB (r : GReq) : GReq :=
  if r.kind = 1 then GReq.mk r.kind 0 0 0 0 0 r.data (GAsk.mk 0 0 0) 0 else if r.kind = 2 then GReq.mk r.kind r.who r.case r.task 0 0 [] (GAsk.mk 0 0 0) 0
  else if r.kind = 3 then GReq.mk r.kind 0 r.case r.task r.var r.num [] (GAsk.mk 0 0 0) 0 else if r.kind = 4 then GReq.mk r.kind 0 r.case 0 0 0 [] (GAsk.mk 0 0 0) 0
  else GReq.mk r.kind 0 0 0 0 0 r.data r.if_ r.ans
theorem z21e (r : GReq) (h : inB r.kind 1 5 = true) : z0f8 r = some (formB r) := by
  have := z23y.1 h
  unfold z0f8 formB
  by_cases h1 : r.kind = 1
  · simp [h1]
  by_cases h2 : r.kind = 2
  · simp [h1, h2]
  by_cases h3 : r.kind = 3
  · simp [h1, h2, h3]
  by_cases h4 : r.kind = 4
  · simp [h1, h2, h3, h4]
  · have h5 : r.kind = 5 := by omega
    simp [h5]
theorem z1xp (r : GReq) : z052 r = some (formB r) := by
  unfold z052 formB
  by_cases h1 : r.kind = 1
  · simp [h1]
  by_cases h2 : r.kind = 2
  · simp [h1, h2]
  by_cases h3 : r.kind = 3
  · simp [h1, h2, h3]
  by_cases h4 : r.kind = 4
  · simp [h1, h2, h3, h4]
  · simp [h1, h2, h3, h4]
def reqB (r : GReq) : Bool :=
  inB r.kind 1 5 && (decide (r = formB r) && (inB r.who 0 4 && (inB r.case 0 4 && (inB r.task 0 5 && (inB r.var (-1) 2 && (inB r.num (-99) 99 && (expOk r.if_ && (inB r.ans 0 2 && ((decide (r.kind = 1) || decide (r.kind = 5)) == datOk r.data)))))))))
theorem z1lj (r : GReq) (hl : r.data.length ≤ SMALL) : z0bh r = some (reqB r) := by
  unfold z0bh reqB
  rw [z054, Option.bind_some]
  by_cases h : inB r.kind 1 5 = true
  · rw [if_pos h, h, z21e r h, Option.bind_some, z1w4 _ _ hl]
    simp only [z054, z0wf, z0a3 _ hl, Option.bind_some]
    have e : (if decide (r.kind = 1) = true then some (true == datOk r.data) else some (decide (r.kind = 5) == datOk r.data)) = some ((decide (r.kind = 1) || decide (r.kind = 5)) == datOk r.data) := by
      by_cases h1 : r.kind = 1
      · simp [h1]
      · simp [h1]
    rw [e]
    simp only [iteB, Bool.true_and]
  · rw [if_neg h, Bool.eq_false_iff.2 h]; rfl
theorem z1iu (r : GReq) (hl : r.data.length ≤ SMALL) : z0bd r = some (reqB r) := by
  unfold z0bd reqB
  simp only [z083, z0gy, z03m, z13c, z0df _ hl, z1xp, z20s _ _ hl, Option.bind_some, iteB]
  by_cases h1 : r.kind = 1
  · rw [if_pos (decide_eq_true h1)]
    simp only [h1, decide_true, Bool.true_or]
    rw [show (datOk r.data == true) = (true == datOk r.data) by cases datOk r.data <;> rfl]
    congr 1; ac_rfl
  · rw [if_neg (by simpa using h1)]
    simp only [h1, decide_false, Bool.false_or]
    rw [show (datOk r.data == decide (r.kind = 5)) = (decide (r.kind = 5) == datOk r.data) by cases datOk r.data <;> cases decide (r.kind = 5) <;> rfl]
    congr 1; ac_rfl
end Go.Am.Pl
end
section
set_option maxRecDepth 100000
set_option linter.unusedVariables false
set_option linter.unusedSimpArgs false
namespace Go.Am.Pl
open Go
theorem z0e6 {α β : Type} (l : List α) (hl : l.length ≤ SMALL) (f : Nat → Int → List α → Option β) (kx : List α → Option β) (h0 : ∀ n s, f (n + 1) (l.length : Int) s = kx s)
    (h1 : ∀ n i x s, getI l i = some x → x ∈ l → i < (l.length : Int) → ok64 (i + 1) → (∀ y : α, s.length + [y].length ≤ SMALL) → f (n + 1) i s = f n (i + 1) (s ++ [x])) : f FUEL 0 [] = kx l := by
  have := z1bg l hl (fun x => [x]) f kx h0 (fun n pre x suf s a b c d g i => h1 n _ x s b c d g (fun y => by
    have h2 := z1cr (e := fun x : α => [x]) (fun _ => Nat.le_refl _) pre
    rw [a, List.length_append, List.length_cons] at hl
    rw [i, List.length_singleton]; omega))
  rw [this]; simp
theorem z0y9 {α : Type} {l : List α} (h : l.length ≤ SMALL) : ([] : List α).length + l.length ≤ SMALL := by simpa using h
theorem z1qy (n : GNet) (h : n.small) : z09w n = some n := by
  unfold z09w
  refine z0e6 n.tasks h.1 (z02r n (z09x n.places)) (z09x n.places) (fun m s => ?_) (fun m i x s hg hx hlt hok hs => ?_)
  · rw [z02r, if_neg (by simp)]
  · obtain ⟨a, b, c⟩ := h.2 x hx
    rw [z02r, if_pos (decide_eq_true hlt), hg, Option.bind_some, z001 (z0y9 a), z001 (z0y9 b), z001 (z0y9 c), z001 (hs _), z001 hok]; rfl
theorem z104 (t : List GNode) (h : treeSmall t) : z0by t = some t := by
  unfold z0by
  refine z0e6 t h.1 (z05s t z0dp) z0dp (fun m s => ?_) (fun m i x s hg hx hlt hok hs => ?_)
  · rw [z05s, if_neg (by simp)]
  · rw [z05s, if_pos (decide_eq_true hlt), hg, Option.bind_some, z001 (z0y9 (h.2 x hx)), z001 (hs _), z001 hok]; rfl
theorem z1fi (h : GHouse) (hs : houseSmall h) : z0f7 h = some h := by
  obtain ⟨h1, h2, h3, h4, h5⟩ := hs
  unfold z0f7
  rw [z001 (z0y9 h2), z104 _ h3, Option.bind_some]
  refine (z0e6 h.nets h1.1 (z05t h (z09y h h.tree (([] : List Int) ++ h.people))) (z09y h h.tree (([] : List Int) ++ h.people)) (fun m s => ?_) (fun m i x s hg hx hlt hok hs => ?_)).trans ?_
  · rw [z05t, if_neg (by simp)]
  · rw [z05t, if_pos (decide_eq_true hlt), hg, Option.bind_some, z1qy x (h1.2 x hx), Option.bind_some, z001 (hs _), z001 hok]
  · unfold z09y
    refine (z0e6 h.runs h4 (z05u h (z0dq h.tree (([] : List Int) ++ h.people) h.nets)) (z0dq h.tree (([] : List Int) ++ h.people) h.nets) (fun m s => ?_) (fun m i x s hg hx hlt hok hs => ?_)).trans rfl
    · rw [z05u, if_neg (by simp)]
    · rw [z05u, if_pos (decide_eq_true hlt), hg, Option.bind_some, Option.bind_some, z0oq _ (h5 x hx), Option.bind_some, z001 (hs _), z001 hok]
theorem z1db (t : GTask) (h : t.small) : z06i t = some t := by
  unfold z06i
  rw [z02f _ h.1, Option.bind_some, z001 (z0y9 h.2.1), z02f _ h.2.2]; rfl
theorem z1it (n : GNet) (h : n.small) : z07g n = some n := by
  unfold z07g
  refine z0e6 n.tasks h.1 (z01t n.tasks (n.tasks.length : Int) (z07q n.places)) (z07q n.places) (fun m s => ?_) (fun m i x s hg hx hlt hok hs => ?_)
  · rw [z01t, if_neg (by simp)]
  · rw [z01t, if_pos (decide_eq_true hlt), hg, Option.bind_some, z1db x (h.2 x hx), Option.bind_some, z001 (hs _), z001 hok]
theorem z0v7 (t : List GNode) (h : treeSmall t) : z06r t = some t := by
  unfold z06r
  refine z0e6 t h.1 (z02a t (t.length : Int) z08z) z08z (fun m s => ?_) (fun m i x s hg hx hlt hok hs => ?_)
  · rw [z02a, if_neg (by simp)]
  · rw [z02a, if_pos (decide_eq_true hlt), hg, Option.bind_some, z02f _ (h.2 x hx), Option.bind_some, z001 (hs _), z001 hok]
theorem z0q3 (h : GHouse) (hs : houseSmall h) : z022 h = some h := by
  obtain ⟨h1, h2, h3, h4, h5⟩ := hs
  unfold z022
  rw [z02f _ h2, Option.bind_some, z0v7 _ h3, Option.bind_some]
  refine (z0e6 h.nets h1.1 (z01b h.nets (h.nets.length : Int) (z03f h h.people h.tree)) (z03f h h.people h.tree) (fun m s => ?_) (fun m i x s hg hx hlt hok hs => ?_)).trans ?_
  · rw [z01b, if_neg (by simp)]
  · rw [z01b, if_pos (decide_eq_true hlt), hg, Option.bind_some, z1it x (h1.2 x hx), Option.bind_some, z001 (hs _), z001 hok]
  · unfold z03f
    refine (z0e6 h.runs h4 (z01c h.runs (h.runs.length : Int) (z06g h.people h.tree h.nets)) (z06g h.people h.tree h.nets) (fun m s => ?_) (fun m i x s hg hx hlt hok hs => ?_)).trans rfl
    · rw [z01c, if_neg (by simp)]
    · rw [z01c, if_pos (decide_eq_true hlt), hg, Option.bind_some, z098 _ (h5 x hx), Option.bind_some, z001 (hs _), z001 hok]
end Go.Am.Pl
end
section
set_option maxRecDepth 100000
set_option linter.unusedVariables false
set_option linter.unusedSimpArgs false
namespace Go.Am.Pl
open Go
theorem z1wm {high : Int} : ∀ {l : List Int} {p : Int}, asc high p l = true → ∀ x ∈ l, p + 1 ≤ x ∧ x ≤ high
  | [], _, _, x, hx => by simp at hx
  | y :: l, p, h, x, hx => by
    simp only [asc, Bool.and_eq_true, z01k] at h
    rcases List.mem_cons.1 hx with rfl | hx
    · exact h.1
    · have := z1wm h.2 x hx; omega
structure TaskOk (n : GNet) (t : GTask) : Prop where
  join : 1 ≤ t.join ∧ t.join ≤ 3
  split : 1 ≤ t.split ∧ t.split ≤ 3
  inl : 1 ≤ t.in_.length ∧ t.in_.length ≤ 3
  ins : ∀ p ∈ t.in_, 0 ≤ p ∧ p ≤ n.places - 1
  outl : 1 ≤ t.out.length ∧ t.out.length ≤ 3
  clearl : (t.clear.length : Int) ≤ n.places
  clears : ∀ p ∈ t.clear, 2 ≤ p ∧ p ≤ n.places - 1
  role : 1 ≤ t.role ∧ t.role ≤ 3
  apart : -1 ≤ t.apart ∧ t.apart ≤ n.tasks.length - 1
  all : 1 ≤ t.all ∧ t.all ≤ 3
  need : 1 ≤ t.need ∧ t.need ≤ t.all
theorem z09z {n : GNet} (h : netB n = true) {t : GTask} (ht : t ∈ n.tasks) : TaskOk n t := by
  simp only [netB, Bool.and_eq_true, List.all_eq_true] at h
  have := h.2.2 t ht
  simp only [taskB, Bool.and_eq_true, z01k] at this
  obtain ⟨a, b, ⟨c, d⟩, e, ⟨f, g⟩, ⟨i, j⟩, k, l, m, o⟩ := this
  exact ⟨a, b, by omega, fun p hp => by have := z1wm d p hp; omega, by omega, by omega, fun p hp => by have := z1wm j p hp; omega, k, l, m, o⟩
theorem z0bn {n : GNet} (h : netB n = true) : (2 ≤ n.places ∧ n.places ≤ 8) ∧ (1 ≤ n.tasks.length ∧ n.tasks.length ≤ 6) := by
  simp only [netB, Bool.and_eq_true, z01k] at h; omega
structure CasFacts (n : GNet) (c : GCase) : Prop where
  net : netB n = true
  len : (c.marks.length : Int) = n.places
  mks : ∀ x ∈ c.marks, 0 ≤ x ∧ x ≤ 4
  busyl : c.busy.length ≤ 6
  busy : ∀ b ∈ c.busy, (0 ≤ b.task ∧ b.task < n.tasks.length) ∧ (1 ≤ b.who ∧ b.who ≤ 4) ∧ (0 ≤ b.did ∧ b.did ≤ (atI n.tasks b.task).need - 1)
  data : datOk c.data = true
  didl : c.did.length ≤ 60
  did : ∀ d ∈ c.did, (0 ≤ d.task ∧ d.task < n.tasks.length) ∧ (1 ≤ d.who ∧ d.who ≤ 4)
  state : 1 ≤ c.state ∧ c.state ≤ 3
theorem z0g4 {n : GNet} {c : GCase} (h : casB n c = true) : CasFacts n c := by
  simp only [casB, mrkB, marksB, busyB, itemB, didB, Bool.and_eq_true, List.all_eq_true, z01k, decide_eq_true_eq, Bool.not_eq_true', decide_eq_false_iff_not] at h
  obtain ⟨⟨a, b, c1⟩, ⟨d, e⟩, f, g, i, j, k⟩ := h
  exact ⟨a, b, c1, by omega, fun x hx => by have := e x hx; omega, f, by omega, fun x hx => by have := j x hx; omega, i⟩
def inc (l : List Int) (p : Int) : List Int := l.set p.toNat (atI l p + 1)
theorem z1iw (l : List Int) (p : Int) : (inc l p).length = l.length := by simp [inc]
def incs (l : List Int) (ps : List Int) : List Int := ps.foldl inc l
theorem z1oj (ps : List Int) : ∀ l : List Int, (incs l ps).length = l.length := by
  induction ps with
  | nil => intro l; rfl
  | cons p ps ih => intro l; show (incs (inc l p) ps).length = _; rw [ih, z1iw]
def capM (K : Int) (l : List Int) : Prop := ∀ x ∈ l, 0 ≤ x ∧ x ≤ K
theorem z1fr {K : Int} {l : List Int} (h : capM K l) {p : Int} (h0 : 0 ≤ p) (h1 : p < l.length) : 0 ≤ atI l p ∧ atI l p ≤ K := h _ (z05a l h0 h1)
theorem z1mi {K : Int} {l : List Int} (h : capM K l) {p : Int} (h0 : 0 ≤ p) (h1 : p < l.length) : capM (K + 1) (inc l p) := by
  intro x hx
  have := z1fr h h0 h1
  rcases List.mem_or_eq_of_mem_set hx with hx | rfl
  · have := h x hx; omega
  · omega
def okM (l : List Int) : Bool := l.all (fun x => inB x 0 4)
theorem z0w9 {l : List Int} : okM l = true ↔ capM 4 l := by simp only [okM, List.all_eq_true, z01k]; rfl
theorem z22t {l : List Int} {p : Int} {K : Int} (hl : capM K l) (h0 : 0 ≤ p) (h1 : p < l.length) (h : okM (inc l p) = true) : okM l = true ∧ atI l p ≤ 3 := by
  rw [z0w9] at h ⊢
  have hp : atI l p + 1 ∈ inc l p := List.mem_iff_getElem?.2 ⟨p.toNat, by unfold inc; rw [List.getElem?_set_self (by omega)]⟩
  have h4 := h _ hp
  refine ⟨fun x hx => ?_, by omega⟩
  obtain ⟨j, hj⟩ := List.mem_iff_getElem?.1 hx
  by_cases e : p.toNat = j
  · have : atI l p = x := by unfold atI getI; rw [if_pos h0, e, hj]; rfl
    have := hl x hx; omega
  · exact h x (List.mem_iff_getElem?.2 ⟨j, by unfold inc; rw [List.getElem?_set_ne e]; exact hj⟩)
theorem z246 {ps : List Int} : ∀ {l : List Int} {K : Int}, capM K l → (∀ p ∈ ps, 0 ≤ p ∧ p < l.length) → okM (incs l ps) = true → okM l = true := by
  induction ps with
  | nil => intro l K _ _ h; exact h
  | cons p ps ih =>
    intro l K hl hp h
    have hp0 := hp p (by simp)
    exact (z22t hl hp0.1 hp0.2 (ih (l := inc l p) (z1mi hl hp0.1 hp0.2) (fun q hq => by rw [z1iw]; exact hp q (by simp [hq])) h)).1
theorem z21i {β : Type} (ps : List Int) (hs : ps.length ≤ SMALL) (f : Nat → Int → List Int → Option β) (kx : List Int → Option β) (bad : Option β) (l0 : List Int) (hp : ∀ p ∈ ps, 0 ≤ p ∧ p < l0.length) (hc : okM l0 = true)
    (h0 : ∀ n s, f (n + 1) (ps.length : Int) s = kx s)
    (h1 : ∀ n i p s, getI ps i = some p → i < (ps.length : Int) → ok64 (i + 1) → getI s p = some (atI s p) → ok64 (atI s p + 1) → f (n + 1) i s = if decide (atI s p = 4) = true then bad else f n (i + 1) (inc s p)) :
    f FUEL 0 l0 = if okM (incs l0 ps) = true then kx (incs l0 ps) else bad :=
  scan ps (by unfold SMALL at hs; omega) f (fun _ suf l => if okM (incs l suf) = true then kx (incs l suf) else bad) (fun _ l => l.length = l0.length ∧ okM l = true)
    (fun n s hi => by rw [h0]; rw [if_pos (show okM (incs s []) = true from hi.2)]; rfl)
    (fun n pre x suf s a b c d hi k => by
      have hx := hp x (by rw [a]; simp)
      have hx2 : x < s.length := by rw [hi.1]; exact hx.2
      have hcap := z0w9.1 hi.2
      have hv := z1fr hcap hx.1 hx2
      rw [h1 n _ x s b c d (z00r s hx.1 hx2) (by constructor <;> omega)]
      show _ = if okM (incs (inc s x) suf) = true then kx (incs (inc s x) suf) else bad
      by_cases h4 : atI s x = 4
      · rw [if_pos (decide_eq_true h4), if_neg]
        intro h5
        have h6 := z246 (z1mi hcap hx.1 hx2) (fun q hq => by rw [z1iw, hi.1]; exact hp q (by rw [a]; simp [hq])) h5
        have := (z22t hcap hx.1 hx2 h6).2
        omega
      · rw [if_neg (by simpa using h4)]
        exact k (inc s x) ⟨by rw [z1iw, hi.1], z0w9.2 (fun y hy => by
          rcases List.mem_or_eq_of_mem_set hy with hy | rfl
          · exact hcap y hy
          · omega)⟩) FUEL l0 ⟨rfl, hc⟩ (by have := z02j; unfold SMALL at hs; omega)
theorem z23z {β : Type} (ps : List Int) (hs : ps.length ≤ SMALL) (f : Nat → Int → List Int → Option β) (kx : List Int → Option β) (l0 : List Int) (K : Int) (hK : 0 ≤ K ∧ K ≤ 1000000000) (hp : ∀ p ∈ ps, 0 ≤ p ∧ p < l0.length) (hc : capM K l0)
    (h0 : ∀ n s, f (n + 1) (ps.length : Int) s = kx s)
    (h1 : ∀ n i p s, getI ps i = some p → i < (ps.length : Int) → ok64 (i + 1) → getI s p = some (atI s p) → ok64 (atI s p + 1) → f (n + 1) i s = f n (i + 1) (inc s p)) :
    f FUEL 0 l0 = kx (incs l0 ps) :=
  scan ps (by unfold SMALL at hs; omega) f (fun _ suf l => kx (incs l suf)) (fun pre l => l.length = l0.length ∧ capM (K + pre.length) l) (fun n s hi => by rw [h0]; rfl)
    (fun n pre x suf s a b c d hi k => by
      have hx := hp x (by rw [a]; simp)
      have hx2 : x < s.length := by rw [hi.1]; exact hx.2
      have hv := z1fr hi.2 hx.1 hx2
      have hpl : pre.length ≤ SMALL := by rw [a, List.length_append] at hs; omega
      unfold SMALL at hpl
      rw [h1 n _ x s b c d (z00r s hx.1 hx2) (by constructor <;> omega)]
      refine k (inc s x) ⟨by rw [z1iw, hi.1], ?_⟩
      have := z1mi hi.2 hx.1 hx2
      rw [List.length_append, List.length_singleton, show ((K + ((pre.length + 1 : Nat) : Int)) = K + pre.length + 1) by omega]
      exact this) FUEL l0 ⟨rfl, by simpa using hc⟩ (by have := z02j; unfold SMALL at hs; omega)
end Go.Am.Pl
end
section
set_option maxRecDepth 100000
set_option linter.unusedVariables false
set_option linter.unusedSimpArgs false
namespace Go.Am.Pl
open Go
def goB (split : Int) (last none_ : Bool) : Bool := bif decide (split = 2) then none_ else bif decide (split = 3) then !last || none_ else true
def splL (split : Int) (data : List Int) : List GFlow → List Int → List Int
  | [], l => l
  | f :: fs, l => if (expHolds f.if_ data && goB split fs.isEmpty l.isEmpty) = true then splL split data fs (l ++ [f.to]) else splL split data fs l
theorem z1so (data : List Int) : ∀ (fs : List GFlow) (l : List Int), l.isEmpty = false → splL 2 data fs l = l
  | [], l, _ => rfl
  | f :: fs, l, h => by
    unfold splL
    rw [if_neg (by simp [goB, h]), z1so data fs l h]
theorem z1r3 (split : Int) (data : List Int) : ∀ (fs : List GFlow) (l : List Int), (splL split data fs l).length ≤ l.length + fs.length
  | [], l => by simp [splL]
  | f :: fs, l => by
    unfold splL; split
    · have := z1r3 split data fs (l ++ [f.to]); simp at this; simp; omega
    · have := z1r3 split data fs l; simp; omega
theorem z1r4 (split : Int) (data : List Int) : ∀ (fs : List GFlow) (l : List Int) (p : Int), p ∈ splL split data fs l → p ∈ l ∨ ∃ f ∈ fs, f.to = p
  | [], l, p, h => .inl h
  | f :: fs, l, p, h => by
    unfold splL at h; split at h
    · rcases z1r4 split data fs _ p h with h | ⟨g, hg, e⟩
      · rcases List.mem_append.1 h with h | h
        · exact .inl h
        · simp at h; exact .inr ⟨f, by simp, h.symm⟩
      · exact .inr ⟨g, by simp [hg], e⟩
    · rcases z1r4 split data fs _ p h with h | ⟨g, hg, e⟩
      · exact .inl h
      · exact .inr ⟨g, by simp [hg], e⟩
theorem z25w {α : Type} {l pre suf : List α} {x : α} (h : l = pre ++ x :: suf) : (decide ((pre.length : Int) < (l.length : Int) - 1)) = !suf.isEmpty := by
  rw [h]
  cases suf with
  | nil => simp
  | cons y s => simp; omega
theorem z1sb {l : List Int} {n : Nat} (h : l.length ≤ n) (hn : n < SMALL) {y : Int} : l.length + [y].length ≤ SMALL := by rw [List.length_singleton]; omega
theorem len0 (l : List Int) : decide ((l.length : Int) = 0) = l.isEmpty := by
  cases l with
  | nil => rfl
  | cons x l => simp; omega
theorem len1 (l : List Int) : decide (0 < (l.length : Int)) = !l.isEmpty := by
  cases l with
  | nil => rfl
  | cons x l => simp
theorem z1zn (t : GTask) (data : List Int) (hs : t.out.length ≤ SMALL) (hd : data.length ≤ SMALL) : z0hn t data = some (splL t.split data t.out []) := by
  unfold z0hn
  refine scan t.out (by unfold SMALL at hs; omega) (z01o t data z0bi z0bj z0bk z0fw) (fun _ suf l => some (splL t.split data suf l)) (fun pre l => l.length ≤ pre.length ∧ (t.split = 2 → l = []))
    (fun n s hi => by rw [z01o, if_neg (by simp)]; rfl)
    (fun n pre x suf s a b c d hi k => ?_) FUEL [] ⟨by simp, fun _ => rfl⟩ (by have := z02j; unfold SMALL at hs; omega)
  have hpl : pre.length < SMALL := by rw [a, List.length_append, List.length_cons] at hs; omega
  have h1 : t.split ≠ 2 → z01o t data z0bi z0bj z0bk z0fw n ((pre.length : Int) + 1) (s ++ [x.to]) = some (splL t.split data suf (s ++ [x.to])) := fun h2 => k (s ++ [x.to]) ⟨by simp; exact hi.1, fun h => absurd h h2⟩
  have h2 := k s ⟨by simp; have := hi.1; omega, hi.2⟩
  rw [z01o, if_pos (decide_eq_true c)]
  simp only [b, Option.bind_some, z066 _ _ hd, z25w a, len0, z001 (z0a0 hs), z001 d, z001 (z1sb hi.1 hpl), h2, splL, z0bi, z0bj, z0bk, goB]
  by_cases e2 : t.split = 2
  · have hn := hi.2 e2
    subst hn
    cases expHolds x.if_ data
    · simp
    · have e3 : t.split ≠ 3 := by omega
      have := z1so data suf [x.to] rfl
      simp [e2, this]
  · rw [h1 e2]
    cases expHolds x.if_ data <;> by_cases e3 : t.split = 3 <;> cases suf.isEmpty <;> cases s.isEmpty <;> simp [e2, e3]
theorem z1xo (t : GTask) (data : List Int) (hs : t.out.length ≤ SMALL) (hd : data.length ≤ SMALL) : z0hh t data = some (splL t.split data t.out []) := by
  unfold z0hh
  refine scan t.out (by unfold SMALL at hs; omega) (z00n t data t.out (t.out.length : Int) z0q8) (fun _ suf l => some (splL t.split data suf l)) (fun pre l => l.length ≤ pre.length)
    (fun n s hi => by rw [z00n, if_neg (by simp)]; rfl)
    (fun n pre x suf s a b c d hi k => ?_) FUEL [] (by simp) (by have := z02j; unfold SMALL at hs; omega)
  have hpl : pre.length < SMALL := by rw [a, List.length_append, List.length_cons] at hs; omega
  have h1 := k (s ++ [x.to]) (by simp; exact hi)
  have h2 := k s (by simp; omega)
  rw [z00n, if_pos (decide_eq_true c)]
  simp only [b, Option.bind_some, z07l _ _ hd, z0sd a, len1, z001 (z0a0 hs), z001 d, z001 (z1sb hi hpl), h1, h2, splL, goB]
  cases expHolds x.if_ data <;> by_cases e2 : t.split = 2 <;> by_cases e3 : t.split = 3 <;> cases suf.isEmpty <;> cases s.isEmpty <;> simp [e2, e3]
def zeros (l : List Int) (ps : List Int) : List Int := ps.foldl (fun l p => l.set p.toNat 0) l
theorem z11g (ps : List Int) : ∀ l : List Int, (zeros l ps).length = l.length := by
  induction ps with
  | nil => intro l; rfl
  | cons p ps ih => intro l; show (zeros (l.set p.toNat 0) ps).length = _; rw [ih]; simp
theorem z253 (ps : List Int) : ∀ l : List Int, okM l = true → okM (zeros l ps) = true := by
  induction ps with
  | nil => intro l h; exact h
  | cons p ps ih =>
    intro l h
    refine ih _ (z0w9.2 fun x hx => ?_)
    rcases List.mem_or_eq_of_mem_set hx with hx | rfl
    · exact z0w9.1 h x hx
    · omega
theorem z1sx {β : Type} (ps : List Int) (hs : ps.length ≤ SMALL) (f : Nat → Int → List Int → Option β) (kx : List Int → Option β) (l0 : List Int) (hp : ∀ p ∈ ps, 0 ≤ p ∧ p < l0.length)
    (h0 : ∀ n s, f (n + 1) (ps.length : Int) s = kx s)
    (h1 : ∀ n i p s, getI ps i = some p → i < (ps.length : Int) → ok64 (i + 1) → getI s p = some (atI s p) → f (n + 1) i s = f n (i + 1) (s.set p.toNat 0)) :
    f FUEL 0 l0 = kx (zeros l0 ps) :=
  scan ps (by unfold SMALL at hs; omega) f (fun _ suf l => kx (zeros l suf)) (fun pre l => l.length = l0.length) (fun n s hi => by rw [h0]; rfl)
    (fun n pre x suf s a b c d hi k => by
      have hx := hp x (by rw [a]; simp)
      rw [h1 n _ x s b c d (z00r s hx.1 (by rw [hi]; exact hx.2))]
      exact k _ (by simpa using hi)) FUEL l0 rfl (by have := z02j; unfold SMALL at hs; omega)
def giveL (n : GNet) (m : List Int) (t : GTask) (data : List Int) : List Int := incs (zeros m t.clear) (splL t.split data t.out [])
def giveB (n : GNet) (m : List Int) (t : Int) (data : List Int) : List Int × Bool :=
  bif mrkB n m && (inB t 0 ((n.tasks.length : Int) - 1) && (datOk data && okM (giveL n m (atI n.tasks t) data))) then (giveL n m (atI n.tasks t) data, true) else ([], false)
theorem z1rs {t : GTask} {places : Int} : ∀ {suf pre : List GFlow}, flowsB t places pre suf = true → ∀ f ∈ suf, 1 ≤ f.to ∧ f.to ≤ places - 1
  | [], _, _, f, hf => by simp at hf
  | x :: suf, pre, h, f, hf => by
    simp only [flowsB, Bool.and_eq_true, z01k] at h
    rcases List.mem_cons.1 hf with rfl | hf
    · exact h.1
    · exact z1rs h.2.2.2.2 f hf
theorem z1s8 {n : GNet} (h : netB n = true) {t : GTask} (ht : t ∈ n.tasks) : ∀ f ∈ t.out, 1 ≤ f.to ∧ f.to ≤ n.places - 1 := by
  simp only [netB, Bool.and_eq_true, List.all_eq_true] at h
  have := h.2.2 t ht
  simp only [taskB, Bool.and_eq_true] at this
  exact z1rs this.2.2.2.2.1.2
theorem z0gg {n : GNet} {m : List Int} (h : mrkB n m = true) : netB n = true ∧ (m.length : Int) = n.places ∧ okM m = true := by
  simp only [mrkB, marksB, Bool.and_eq_true, decide_eq_true_eq] at h
  exact ⟨h.1, h.2.1, h.2.2⟩
structure GiveOk (n : GNet) (m : List Int) (t : GTask) (data : List Int) : Prop where
  clears : ∀ p ∈ t.clear, 0 ≤ p ∧ p < m.length
  tos : ∀ p ∈ splL t.split data t.out [], 0 ≤ p ∧ p < (zeros m t.clear).length
  len : (splL t.split data t.out []).length ≤ SMALL
  ok : okM (zeros m t.clear) = true
theorem z22m {n : GNet} {m : List Int} {t : GTask} {data : List Int} (hm : mrkB n m = true) (ht : t ∈ n.tasks) : GiveOk n m t data := by
  obtain ⟨h1, h2, h3⟩ := z0gg hm
  have T := z09z h1 ht
  refine ⟨fun p hp => by have := T.clears p hp; omega, fun p hp => ?_, ?_, z253 _ _ h3⟩
  · rcases z1r4 _ _ _ _ _ hp with h | ⟨f, hf, e⟩
    · simp at h
    · have := z1s8 h1 ht f hf; rw [z11g]; omega
  · have := z1r3 t.split data t.out []; have := T.outl; rw [List.length_nil] at *; unfold SMALL; omega
theorem z1r0 (n : GNet) (m : List Int) (t : Int) (data : List Int) (hn : n.small) (hm : m.length ≤ SMALL) (hd : data.length ≤ SMALL) : z0d5 n m t data = some (giveB n m t data) := by
  unfold z0d5 giveB
  rw [z0wg n m hn hm, Option.bind_some, z001 (z0a0 hn.1), z054, Option.bind_some, z0a3 _ hd, Option.bind_some, z001 (by simpa using hm)]
  by_cases h1 : mrkB n m = true
  · by_cases h2 : inB t 0 ((n.tasks.length : Int) - 1) = true
    · by_cases h3 : datOk data = true
      · have h2' := z01k.1 h2
        have hg := z00r n.tasks h2'.1 (by omega)
        have ht := z05a n.tasks h2'.1 (by omega)
        have G := z22m (data := data) h1 ht
        rw [if_pos h1, if_pos h2, if_pos h3, h1, h2, h3, List.nil_append]
        rw [z1sx (atI n.tasks t).clear (hn.2 _ ht).2.2 (z04c n t (z08q n t data)) (z08q n t data) m G.clears (fun n s => by rw [z04c, hg, Option.bind_some, if_neg (by simp)])
          (fun n i p s b c d g => by rw [z04c, hg, Option.bind_some, if_pos (decide_eq_true c), Option.bind_some, b, Option.bind_some, g, Option.bind_some, z001 d])]
        unfold z08q
        rw [hg, Option.bind_some, z1zn _ _ (hn.2 _ ht).2.1 hd, Option.bind_some]
        rw [z21i _ G.len (z04d _ z08r) z08r (some ([], false)) _ G.tos G.ok (fun n s => by rw [z04d, if_neg (by simp)])
          (fun n i p s b c d g o => by rw [z04d, if_pos (decide_eq_true c)]; simp only [b, Option.bind_some, g, z001 d, z001 o]; rfl)]
        unfold z08r giveL
        cases okM (incs (zeros m (atI n.tasks t).clear) (splL (atI n.tasks t).split data (atI n.tasks t).out [])) <;> rfl
      · rw [if_pos h1, if_pos h2, if_neg h3, Bool.eq_false_iff.2 h3]; simp
    · rw [if_pos h1, if_neg h2, Bool.eq_false_iff.2 h2]; simp
  · rw [if_neg h1, Bool.eq_false_iff.2 h1]; simp
theorem z0sb (n : GNet) (t : Int) (hn : n.small) : z00i n t = some (inB t 0 ((n.tasks.length : Int) - 1)) := by
  unfold z00i; rw [z001 (z0a0 hn.1), z083]; rfl
theorem z1of (n : GNet) (m : List Int) (t : Int) (data : List Int) (hn : n.small) (hm : m.length ≤ SMALL) (hd : data.length ≤ SMALL) : z080 n m t data = some (giveB n m t data) := by
  unfold z080 giveB
  rw [z13d n m hn hm, Option.bind_some, z0sb n t hn, Option.bind_some, z0df _ hd, Option.bind_some, z02f _ hm, Option.bind_some]
  by_cases h1 : mrkB n m = true
  · by_cases h2 : inB t 0 ((n.tasks.length : Int) - 1) = true
    · by_cases h3 : datOk data = true
      · have h2' := z01k.1 h2
        have hg := z00r n.tasks h2'.1 (by omega)
        have ht := z05a n.tasks h2'.1 (by omega)
        have G := z22m (data := data) h1 ht
        obtain ⟨f1, f2, f3⟩ := z0gg h1
        rw [if_pos h1, if_pos h2, if_pos h3, h1, h2, h3, hg, Option.bind_some]
        rw [z1sx (atI n.tasks t).clear (hn.2 _ ht).2.2 (z049 (atI n.tasks t).clear ((atI n.tasks t).clear.length : Int) (z08m n t data)) (z08m n t data) m G.clears (fun n s => by rw [z049, if_neg (by simp)])
          (fun n i p s b c d g => by rw [z049, if_pos (decide_eq_true c), b, Option.bind_some, g, Option.bind_some, z001 d])]
        unfold z08m
        rw [hg, Option.bind_some, z1xo _ _ (hn.2 _ ht).2.1 hd, Option.bind_some]
        rw [z23z _ G.len (z04a _ _ (z08n n)) (z08n n) _ 4 (by omega) G.tos (z0w9.1 G.ok) (fun n s => by rw [z04a, if_neg (by simp)])
          (fun n i p s b c d g o => by rw [z04a, if_pos (decide_eq_true c)]; simp only [b, Option.bind_some, g, z001 d, z001 o]; rfl)]
        unfold z08n giveL
        have hl : (incs (zeros m (atI n.tasks t).clear) (splL (atI n.tasks t).split data (atI n.tasks t).out [])).length = m.length := by rw [z1oj, z11g]
        rw [z13h _ _ (by rw [hl]; exact hm), Option.bind_some]
        unfold marksB
        rw [hl, decide_eq_true f2, Bool.true_and]
        show (if okM _ = true then _ else _) = _
        cases okM (incs (zeros m (atI n.tasks t).clear) (splL (atI n.tasks t).split data (atI n.tasks t).out [])) <;> rfl
      · rw [if_pos h1, if_pos h2, if_neg h3, Bool.eq_false_iff.2 h3]; simp
    · rw [if_pos h1, if_neg h2, Bool.eq_false_iff.2 h2]; simp
  · rw [if_neg h1, Bool.eq_false_iff.2 h1]; simp
end Go.Am.Pl
end
section
set_option maxRecDepth 100000
set_option linter.unusedVariables false
set_option linter.unusedSimpArgs false
namespace Go.Am.Pl
open Go
theorem z1rx (n : GNet) (m : List Int) (t : Int) (data : List Int) : (giveB n m t data).1.length ≤ m.length := by
  unfold giveB
  cases mrkB n m && (inB t 0 ((n.tasks.length : Int) - 1) && (datOk data && okM (giveL n m (atI n.tasks t) data)))
  · simp
  · show (giveL n m (atI n.tasks t) data).length ≤ _
    unfold giveL; rw [z1oj, z11g]; exact Nat.le_refl _
theorem z1ry {n : GNet} {m : List Int} {t : Int} {data : List Int} (h : (giveB n m t data).2 = true) : getI (giveB n m t data).1 1 = some (atI (giveB n m t data).1 1) := by
  have hl : (2 : Int) ≤ ((giveB n m t data).1.length : Int) := by
    unfold giveB at h ⊢
    cases e : mrkB n m && (inB t 0 ((n.tasks.length : Int) - 1) && (datOk data && okM (giveL n m (atI n.tasks t) data)))
    · rw [e] at h; cases h
    · show (2 : Int) ≤ ((giveL n m (atI n.tasks t) data).length : Int)
      unfold giveL; rw [z1oj, z11g]
      rw [Bool.and_eq_true] at e
      obtain ⟨f1, f2, f3⟩ := z0gg e.1
      have := z0bn f1; omega
  exact z00r _ (by omega) (by omega)
def datB (data : List Int) (v num : Int) : List Int := if 0 ≤ v then data.set v.toNat num else data
theorem z1bc (data : List Int) (v num : Int) : (datB data v num).length = data.length := by unfold datB; split <;> simp
theorem z0tw {data : List Int} (h : datOk data = true) : data.length = 3 := by simp only [datOk, Bool.and_eq_true, decide_eq_true_eq] at h; exact h.1
theorem z1vu {data : List Int} {v num : Int} (hd : datOk data = true) (hv : inB v (-1) 2 = true) (hn : inB num (-99) 99 = true) : z0ew data v num = some (datB data v num) := by
  have hl := z0tw hd
  have hv' := z01k.1 hv
  have hs : data.length ≤ SMALL := by unfold SMALL; omega
  unfold z0ew datB
  rw [z0a3 _ hs, Option.bind_some, if_pos hd, z054, Option.bind_some, z054, Option.bind_some, if_pos hn, z001 (by simpa using hs), List.nil_append]
  by_cases h : 0 ≤ v
  · rw [if_pos (z01k.2 ⟨h, hv'.2⟩), z00r data h (by omega), if_pos h]; rfl
  · rw [if_neg (fun e => h (z01k.1 e).1), if_neg h, z001 (by simpa using hs)]
def itD (b : GItem) : GItem := GItem.mk b.task b.who (b.did + 1)
def doneB (n : GNet) (c : GCase) (k : Int) (data : List Int) : GCase × Bool :=
  if (atI c.busy k).did + 1 < (atI n.tasks (atI c.busy k).task).need then (GCase.mk c.state c.marks (c.busy.set k.toNat (itD (atI c.busy k))) data c.did, true)
  else if (giveB n c.marks (atI c.busy k).task data).2 = true then
    (if 0 < atI (giveB n c.marks (atI c.busy k).task data).1 1 then (GCase.mk 2 (giveB n c.marks (atI c.busy k).task data).1 [] data (c.did ++ [GDid.mk (atI c.busy k).task (atI c.busy k).who]), true)
     else (GCase.mk c.state (giveB n c.marks (atI c.busy k).task data).1 (c.busy.take k.toNat ++ c.busy.drop (k + 1).toNat) data (c.did ++ [GDid.mk (atI c.busy k).task (atI c.busy k).who]), true))
  else (c, false)
def workB (n : GNet) (c : GCase) (k v num : Int) : GCase × Bool :=
  bif casB n c && (decide (c.state = 1) && (inB k 0 ((c.busy.length : Int) - 1) && (inB v (-1) 2 && (inB num (-99) 99 && !decide ((c.did.length : Int) = 60))))) then doneB n c k (datB c.data v num) else (c, false)
theorem z1qx (n : GNet) (c : GCase) (k v num : Int) (hn : n.small) (hc : c.small) : z0d3 n c k v num = some (workB n c k v num) := by
  unfold z0d3 workB
  rw [z0oq c hc, Option.bind_some, z0we n c hn hc, Option.bind_some, z001 (z0a0 hc.2.1)]
  simp only [z054, Option.bind_some]
  by_cases h1 : casB n c = true
  case neg => rw [if_neg h1, Bool.eq_false_iff.2 h1]; rfl
  by_cases h2 : c.state = 1
  case neg => rw [if_pos h1, if_neg (by simpa using h2), decide_eq_false h2]; simp
  by_cases h3 : inB k 0 ((c.busy.length : Int) - 1) = true
  case neg => rw [if_pos h1, if_pos (decide_eq_true h2), if_neg h3, Bool.eq_false_iff.2 h3]; simp
  by_cases h4 : inB v (-1) 2 = true
  case neg => rw [if_pos h1, if_pos (decide_eq_true h2), if_pos h3, if_neg h4, Bool.eq_false_iff.2 h4]; simp
  by_cases h5 : inB num (-99) 99 = true
  case neg => rw [if_pos h1, if_pos (decide_eq_true h2), if_pos h3, if_pos h4, if_neg h5, Bool.eq_false_iff.2 h5]; simp
  by_cases h6 : (c.did.length : Int) = 60
  · rw [if_pos h1, if_pos (decide_eq_true h2), if_pos h3, if_pos h4, if_pos h5, if_pos (decide_eq_true h6), decide_eq_true h6]; simp
  rw [if_pos h1, if_pos (decide_eq_true h2), if_pos h3, if_pos h4, if_pos h5, if_neg (by simpa using h6), h1, decide_eq_true h2, h3, h4, h5, decide_eq_false h6]
  have F := z0g4 h1
  have hk := z01k.1 h3
  have hb := z05a c.busy hk.1 (by omega)
  obtain ⟨ft, fw, fd⟩ := F.busy _ hb
  have ht := z05a n.tasks ft.1 ft.2
  have T := z09z F.net ht
  have hneed := T.need
  have hall := T.all
  have hl := z0tw F.data
  have hds : (datB c.data v num).length ≤ SMALL := by rw [z1bc]; unfold SMALL; omega
  have h60 := F.didl
  have hbl := F.busyl
  rw [z00r c.busy hk.1 (by omega), Option.bind_some, z1vu F.data h4 h5, Option.bind_some, z001 (by constructor <;> omega), Option.bind_some, z001 (by constructor <;> omega), z00r n.tasks ft.1 ft.2, Option.bind_some]
  show _ = some (doneB n c k (datB c.data v num))
  unfold doneB
  by_cases h7 : (atI c.busy k).did + 1 < (atI n.tasks (atI c.busy k).task).need
  · rw [if_pos (decide_eq_true h7), if_pos h7]; rfl
  rw [if_neg (by simpa using h7), if_neg h7, z1r0 n _ _ _ hn hc.1 hds, Option.bind_some]
  by_cases h8 : (giveB n c.marks (atI c.busy k).task (datB c.data v num)).2 = true
  case neg => rw [if_neg h8, if_neg h8]
  rw [if_pos h8, if_pos h8, z001 (by omega), z001 (by simp; unfold SMALL; omega), z001 (by constructor <;> omega), z001 (by omega), z001 (by simp; unfold SMALL; omega), z001 (by simp; unfold SMALL; omega), z1ry h8, Option.bind_some]
  by_cases h9 : 0 < atI (giveB n c.marks (atI c.busy k).task (datB c.data v num)).1 1
  · rw [if_pos (decide_eq_true h9), if_pos h9]
  · rw [if_neg (by simpa using h9), if_neg h9]; rfl
theorem z1oe (n : GNet) (c : GCase) (k v num : Int) (hn : n.small) (hc : c.small) : z0cw n c k v num = some (workB n c k v num) := by
  unfold z0cw workB
  rw [z098 c hc, Option.bind_some, z0sc n c hn hc, Option.bind_some, z001 (z0a0 hc.2.1)]
  simp only [z083, z0gy, Option.bind_some]
  by_cases h1 : casB n c = true
  case neg => rw [Bool.eq_false_iff.2 h1]; rfl
  by_cases h2 : c.state = 1
  case neg => rw [decide_eq_false h2]; simp
  rw [h1, decide_eq_true h2]
  by_cases h3 : inB k 0 ((c.busy.length : Int) - 1) = true
  case neg => rw [Bool.eq_false_iff.2 h3]; simp
  by_cases h4 : inB v (-1) 2 = true
  case neg => rw [h3, Bool.eq_false_iff.2 h4]; simp
  by_cases h5 : inB num (-99) 99 = true
  case neg => rw [h3, h4, Bool.eq_false_iff.2 h5]; simp
  by_cases h6 : (c.did.length : Int) = 60
  · rw [h3, h4, h5, decide_eq_true h6]; simp
  rw [h3, h4, h5, decide_eq_false h6]
  have F := z0g4 h1
  have hk := z01k.1 h3
  have hv := z01k.1 h4
  have hb := z05a c.busy hk.1 (by omega)
  obtain ⟨ft, fw, fd⟩ := F.busy _ hb
  have ht := z05a n.tasks ft.1 ft.2
  have T := z09z F.net ht
  have hneed := T.need
  have hall := T.all
  have hl := z0tw F.data
  have h60 := F.didl
  have hbl := F.busyl
  have e1 : ∀ x : GItem, (c.busy.set k.toNat x).take k.toNat = c.busy.take k.toNat := fun x => List.take_set_of_le (Nat.le_refl _)
  have e2 : ∀ x : GItem, (c.busy.set k.toNat x).drop (k + 1).toNat = c.busy.drop (k + 1).toNat := fun x => List.drop_set_of_lt (by omega)
  have hD : ∀ x : GItem, z06f (c.busy.set k.toNat x) k (k + 1) = some (c.busy.take k.toNat ++ c.busy.drop (k + 1).toNat) := fun x => by
    unfold z06f; rw [z001 (by simp; omega), e1, e2]
  have okd : ok64 ((atI c.busy k).did + 1) := by constructor <;> omega
  have okk : ok64 (k + 1) := by constructor <;> omega
  have hsd : ∀ y : GDid, c.did.length + [y].length ≤ SMALL := fun y => by simp; unfold SMALL; omega
  have cl : ∀ (s : Int) (m : List Int) (b : List GItem) (d : List Int) (y : GDid), m.length ≤ c.marks.length → b.length ≤ c.busy.length → d.length = 3 → z007 (GCase.mk s m b d (c.did ++ [y])) = some (GCase.mk s m b d (c.did ++ [y])) := fun s m b d y hm hb hd =>
    z098 _ ⟨Nat.le_trans hm hc.1, Nat.le_trans hb hc.2.1, by show d.length ≤ _; unfold SMALL; omega, by show (c.did ++ [y]).length ≤ _; rw [List.length_append]; exact hsd y⟩
  have tdl : (c.busy.take k.toNat ++ c.busy.drop (k + 1).toNat).length ≤ c.busy.length := by simp; omega
  have tail : ∀ data : List Int, data.length = 3 → (if decide ((atI c.busy k).did + 1 < (atI n.tasks (atI c.busy k).task).need) = true then some (GCase.mk c.state c.marks (c.busy.set k.toNat (itD (atI c.busy k))) data c.did, true)
      else (z080 n c.marks (atI c.busy k).task data).bind fun x18 => if x18.2 = true then gd (c.did.length + [GDid.mk (atI c.busy k).task (atI c.busy k).who].length ≤ SMALL) (gd (ok64 (k + 1)) ((z06f (c.busy.set k.toNat (itD (atI c.busy k))) k (k + 1)).bind fun x22 => (getI x18.1 1).bind fun x23 =>
        if decide (0 < x23) = true then (z007 (GCase.mk 2 x18.1 [] data (c.did ++ [GDid.mk (atI c.busy k).task (atI c.busy k).who]))).bind fun x25 => some (x25, true)
        else (z007 (GCase.mk c.state x18.1 x22 data (c.did ++ [GDid.mk (atI c.busy k).task (atI c.busy k).who]))).bind fun x26 => some (x26, true))) else some (c, false)) = some (doneB n c k data) := by
    intro data hdl
    unfold doneB
    by_cases h7 : (atI c.busy k).did + 1 < (atI n.tasks (atI c.busy k).task).need
    · rw [if_pos (decide_eq_true h7), if_pos h7]
    rw [if_neg (by simpa using h7), if_neg h7, z1of n _ _ _ hn hc.1 (by unfold SMALL; omega), Option.bind_some]
    have hgl := z1rx n c.marks (atI c.busy k).task data
    by_cases h8 : (giveB n c.marks (atI c.busy k).task data).2 = true
    case neg => rw [if_neg h8, if_neg h8]
    rw [if_pos h8, if_pos h8, z001 (hsd _), z001 okk, hD, Option.bind_some, z1ry h8, Option.bind_some]
    by_cases h9 : 0 < atI (giveB n c.marks (atI c.busy k).task data).1 1
    · rw [if_pos (decide_eq_true h9), if_pos h9, cl _ _ _ _ _ hgl (Nat.zero_le _) hdl]; rfl
    · rw [if_neg (by simpa using h9), if_neg h9, cl _ _ _ _ _ hgl tdl hdl]; rfl
  rw [if_pos (show (true && true) = true from rfl), if_pos rfl, if_pos rfl, if_pos rfl, if_neg (by simp)]
  by_cases hv0 : 0 ≤ v
  · rw [if_pos (decide_eq_true hv0), z00r c.data hv0 (by omega), Option.bind_some, z00r c.busy hk.1 (by omega), Option.bind_some, z001 okd, z00r n.tasks ft.1 ft.2, Option.bind_some]
    have := tail (datB c.data v num) (by rw [z1bc, hl])
    unfold datB at this ⊢
    rw [if_pos hv0] at this ⊢
    exact this
  · rw [if_neg (by simpa using hv0), z00r c.busy hk.1 (by omega), Option.bind_some, z001 okd, z00r n.tasks ft.1 ft.2, Option.bind_some]
    have := tail (datB c.data v num) (by rw [z1bc, hl])
    unfold datB at this ⊢
    rw [if_neg hv0] at this ⊢
    exact this
end Go.Am.Pl
end
section
set_option maxRecDepth 100000
set_option linter.unusedVariables false
set_option linter.unusedSimpArgs false
namespace Go.Am.Pl
open Go
def atB (l : List Bool) (p : Int) : Bool := (getI l p).getD false
theorem z0gw (l : List Bool) {i : Int} (h0 : 0 ≤ i) (h1 : i < l.length) : getI l i = some (atB l i) := by
  obtain ⟨x, hx, _⟩ := z1xj l h0 h1
  unfold atB; rw [hx]; rfl
def setT (l : List Bool) (p : Int) : List Bool := l.set p.toNat true
theorem z0du (l : List Bool) (p : Int) : (setT l p).length = l.length := by simp [setT]
theorem z19q (l : List Bool) {p q : Int} (hp : 0 ≤ p) (hq : 0 ≤ q) (hl : q < l.length) : atB (setT l p) q = (decide (p = q) || atB l q) := by
  unfold atB setT
  rw [z1da l true hp hq hl]
  by_cases h : p = q <;> simp [h]
def setTs (l : List Bool) (ps : List Int) : List Bool := ps.foldl setT l
theorem z1sm : ∀ (ps : List Int) (l : List Bool), (setTs l ps).length = l.length
  | [], l => rfl
  | p :: ps, l => by show (setTs (setT l p) ps).length = _; rw [z1sm ps, z0du]
theorem z1m1 : ∀ (ps : List Int) (l : List Bool) {q : Int}, (∀ p ∈ ps, 0 ≤ p) → 0 ≤ q → q < l.length → atB (setTs l ps) q = (decide (q ∈ ps) || atB l q)
  | [], l, q, _, _, _ => by simp [setTs]
  | p :: ps, l, q, hp, h0, h1 => by
    show atB (setTs (setT l p) ps) q = _
    rw [z1m1 ps (setT l p) (fun x hx => hp x (by simp [hx])) h0 (by rw [z0du]; exact h1), z19q l (hp p (by simp)) h0 h1]
    by_cases h : p = q
    · subst h; simp
    · have : q ≠ p := fun e => h e.symm
      simp [h, this]
def rndT (but i : Int) (t : GTask) (l : List Bool) : List Bool := if i ≠ but ∧ t.in_.any (atB l) = true then setTs l (t.out.map (·.to)) else l
def rnd (but : Int) : Int → List GTask → List Bool → List Bool
  | _, [], l => l
  | i, t :: ts, l => rnd but (i + 1) ts (rndT but i t l)
theorem z0dt (but i : Int) (t : GTask) (l : List Bool) : (rndT but i t l).length = l.length := by
  unfold rndT; split
  · rw [z1sm]
  · rfl
theorem z0gh (but : Int) : ∀ (ts : List GTask) (i : Int) (l : List Bool), (rnd but i ts l).length = l.length
  | [], _, _ => rfl
  | t :: ts, i, l => by unfold rnd; rw [z0gh but ts, z0dt]
def Pls (N : Int) (ts : List GTask) : Prop := ∀ t ∈ ts, (∀ p ∈ t.in_, 0 ≤ p ∧ p < N) ∧ ∀ f ∈ t.out, 0 ≤ f.to ∧ f.to < N
theorem z1yv {but i : Int} {t : GTask} {l : List Bool} (ht : ∀ f ∈ t.out, 0 ≤ f.to ∧ f.to < (l.length : Int)) {q : Int} (h0 : 0 ≤ q) (h1 : q < l.length) :
    atB (rndT but i t l) q = ((decide (i ≠ but) && t.in_.any (atB l) && t.out.any (fun f => decide (f.to = q))) || atB l q) := by
  unfold rndT
  by_cases hc : i ≠ but ∧ t.in_.any (atB l) = true
  · rw [if_pos hc, z1m1 _ _ (fun p hp => by obtain ⟨f, hf, e⟩ := List.mem_map.1 hp; subst e; exact (ht f hf).1) h0 h1, decide_eq_true hc.1, hc.2, Bool.true_and, Bool.true_and]
    congr 1
    rw [Bool.eq_iff_iff]; simp
  · rw [if_neg hc]
    have : (decide (i ≠ but) && t.in_.any (atB l)) = false := by
      rw [Bool.eq_false_iff]; intro h; rw [Bool.and_eq_true, decide_eq_true_eq] at h; exact hc h
    rw [this]; rfl
def Sub (a b : List Bool) : Prop := ∀ q : Int, 0 ≤ q → q < a.length → atB a q = true → atB b q = true
theorem z1qf {but i : Int} {t : GTask} {l : List Bool} (ht : ∀ f ∈ t.out, 0 ≤ f.to ∧ f.to < (l.length : Int)) : Sub l (rndT but i t l) := fun q h0 h1 h => by
  rw [z1yv ht h0 h1, h, Bool.or_true]
theorem z16e {but : Int} : ∀ (ts : List GTask) (i : Int) (l : List Bool), Pls l.length ts → Sub l (rnd but i ts l)
  | [], _, _, _ => fun _ _ _ h => h
  | t :: ts, i, l, hp => fun q h0 h1 h => by
    have ht := (hp t (by simp)).2
    unfold rnd
    exact z16e ts (i + 1) (rndT but i t l) (by rw [z0dt]; exact fun x hx => hp x (by simp [hx])) q h0 (by rw [z0dt]; exact h1) (z1qf ht q h0 h1 h)
def Stp (but : Int) (ts : List GTask) (p q : Int) : Prop := ∃ (j : Nat) (t : GTask), ts[j]? = some t ∧ (j : Int) ≠ but ∧ p ∈ t.in_ ∧ ∃ f ∈ t.out, f.to = q
inductive Star (but : Int) (ts : List GTask) : Int → Int → Prop where
  | refl (p : Int) : Star but ts p p
  | tail {p q r : Int} : Star but ts p q → Stp but ts q r → Star but ts p r
def Sound (but : Int) (ts : List GTask) (S : Int → Prop) (l : List Bool) : Prop := ∀ q : Int, 0 ≤ q → q < l.length → atB l q = true → ∃ p, S p ∧ Star but ts p q
theorem z1sl {but : Int} {all : List GTask} {S : Int → Prop} : ∀ (ts pre : List GTask) (l : List Bool), all = pre ++ ts → Pls l.length all → Sound but all S l → Sound but all S (rnd but pre.length ts l)
  | [], _, _, _, _, h => h
  | t :: ts, pre, l, ha, hp, h => by
    have hm : t ∈ all := by rw [ha]; simp
    have ht := hp t hm
    unfold rnd
    have := z1sl (all := all) (S := S) ts (pre ++ [t]) (rndT but pre.length t l) (by rw [ha]; simp) (by rw [z0dt]; exact hp) (fun q h0 h1 hq => by
      rw [z0dt] at h1
      rw [z1yv ht.2 h0 h1] at hq
      rcases Bool.or_eq_true _ _ ▸ hq with hq | hq
      · simp only [Bool.and_eq_true, decide_eq_true_eq, List.any_eq_true] at hq
        obtain ⟨⟨hb, p, hpi, hpt⟩, f, hf, e⟩ := hq
        obtain ⟨s, hs, hst⟩ := h p (ht.1 p hpi).1 (ht.1 p hpi).2 hpt
        exact ⟨s, hs, hst.tail ⟨pre.length, t, by rw [ha]; simp, hb, hpi, f, hf, e⟩⟩
      · exact h q h0 h1 hq)
    simpa using this
def Shut (but : Int) (ts : List GTask) (l : List Bool) : Prop := ∀ p q : Int, 0 ≤ p → p < l.length → atB l p = true → Stp but ts p q → atB l q = true
theorem z24k {but i : Int} {t : GTask} {l : List Bool} (h : rndT but i t l = l) (ht : ∀ f ∈ t.out, 0 ≤ f.to ∧ f.to < (l.length : Int)) (hb : i ≠ but) {p : Int} (hp : p ∈ t.in_) (hl : atB l p = true) : ∀ f ∈ t.out, atB l f.to = true := fun f hf => by
  have := z1yv (but := but) (i := i) ht (ht f hf).1 (ht f hf).2
  rw [h] at this
  rw [this, decide_eq_true hb, Bool.true_and, List.any_eq_true.2 ⟨p, hp, hl⟩, Bool.true_and, List.any_eq_true.2 ⟨f, hf, by simp⟩]; rfl
theorem z24x {a b : List Bool} (hl : a.length = b.length) (h1 : Sub a b) (h2 : Sub b a) : a = b := by
  apply List.ext_getElem?
  intro j
  by_cases hj : j < a.length
  · have e1 := h1 j (by omega) (by omega)
    have e2 := h2 j (by omega) (by omega)
    unfold atB at e1 e2
    rw [z08t, z08t] at e1 e2
    rw [List.getElem?_eq_getElem hj, List.getElem?_eq_getElem (show j < b.length by omega)] at e1 e2 ⊢
    simp only [Option.getD_some] at e1 e2
    cases ha : a[j] <;> cases hb : b[j] <;> simp_all
  · rw [List.getElem?_eq_none (by omega), List.getElem?_eq_none (by omega)]
theorem Sub.trans {a b c : List Bool} (hl : a.length = b.length) (h1 : Sub a b) (h2 : Sub b c) : Sub a c := fun q h0 h3 h => h2 q h0 (by omega) (h1 q h0 h3 h)
theorem z22x {but : Int} : ∀ (ts : List GTask) (i : Int) (l : List Bool), Pls l.length ts → rnd but i ts l = l → ∀ (j : Nat) (t : GTask), ts[j]? = some t → rndT but (i + j) t l = l
  | [], _, _, _, _, j, t, h => by simp at h
  | u :: ts, i, l, hp, h, j, t, hj => by
    have hu := (hp u (by simp)).2
    have hp' : Pls ((rndT but i u l).length) ts := by rw [z0dt]; exact fun x hx => hp x (by simp [hx])
    have h2 := z16e (but := but) ts (i + 1) (rndT but i u l) hp'
    unfold rnd at h
    rw [h] at h2
    have e : rndT but i u l = l := z24x (z0dt _ _ _ _) h2 (z1qf hu)
    cases j with
    | zero => simp at hj; subst hj; simpa using e
    | succ j =>
      rw [e] at h
      have := z22x ts (i + 1) l (fun x hx => hp x (by simp [hx])) h j t (by simpa using hj)
      rw [show i + ((j + 1 : Nat) : Int) = i + 1 + j by omega]; exact this
theorem z23p {but : Int} {ts : List GTask} {l : List Bool} (hp : Pls l.length ts) (h : rnd but 0 ts l = l) : Shut but ts l := fun p q h0 h1 ha ⟨j, t, hj, hb, hpi, f, hf, e⟩ => by
  subst e
  have := z22x ts 0 l hp h j t hj
  rw [Int.zero_add] at this
  exact z24k this (hp t (List.mem_iff_getElem?.2 ⟨j, hj⟩)).2 hb hpi ha f hf
theorem z21b {but : Int} {ts : List GTask} {l : List Bool} (hp : Pls l.length ts) (h : Shut but ts l) {p q : Int} (hs : Star but ts p q) (h0 : 0 ≤ p) (h1 : p < l.length) (ha : atB l p = true) : (0 ≤ q ∧ q < l.length) ∧ atB l q = true := by
  induction hs with
  | refl => exact ⟨⟨h0, h1⟩, ha⟩
  | tail _ st ih =>
    obtain ⟨⟨i0, i1⟩, i2⟩ := ih
    refine ⟨?_, h _ _ i0 i1 i2 st⟩
    obtain ⟨j, t, hj, _, _, f, hf, e⟩ := st
    subst e
    exact (hp t (List.mem_iff_getElem?.2 ⟨j, hj⟩)).2 f hf
def cntT (l : List Bool) : Nat := (l.filter id).length
theorem z25k (l : List Bool) : cntT l ≤ l.length := List.length_filter_le _ _
theorem z1rm (x : Bool) (l : List Bool) : cntT (x :: l) = (if x = true then 1 else 0) + cntT l := by
  unfold cntT; cases x <;> simp; omega
theorem z1x7 : ∀ (a b : List Bool), a.length = b.length → (∀ j : Nat, a[j]? = some true → b[j]? = some true) → cntT a ≤ cntT b ∧ (cntT a = cntT b → a = b)
  | [], [], _, _ => ⟨Nat.le_refl _, fun _ => rfl⟩
  | [], _ :: _, h, _ => by simp at h
  | _ :: _, [], h, _ => by simp at h
  | x :: a, y :: b, hl, h => by
    have h0 : x = true → y = true := fun e => by have := h 0 (by simp [e]); simpa using this
    obtain ⟨i1, i2⟩ := z1x7 a b (by simpa using hl) (fun j hj => by have := h (j + 1) (by simpa using hj); simpa using this)
    rw [z1rm, z1rm]
    cases x <;> cases y
    · exact ⟨by simpa using i1, fun e => by rw [i2 (by simpa using e)]⟩
    · exact ⟨by simp; omega, fun e => by simp at e; omega⟩
    · exact absurd (h0 rfl) (by simp)
    · exact ⟨by simpa using i1, fun e => by rw [i2 (by simpa using e)]⟩
theorem z1zs {a b : List Bool} (hl : a.length = b.length) (h : Sub a b) : cntT a ≤ cntT b ∧ (cntT a = cntT b → a = b) := by
  refine z1x7 a b hl fun j hj => ?_
  have hlt : j < a.length := by
    rcases Nat.lt_or_ge j a.length with h2 | h2
    · exact h2
    · rw [List.getElem?_eq_none h2] at hj; cases hj
  have := h j (by omega) (by omega) (by unfold atB; rw [z08t, hj]; rfl)
  unfold atB at this
  rw [z08t] at this
  cases e : b[j]? with
  | none => rw [e] at this; cases this
  | some v => rw [e] at this; simp at this; rw [this]
def iter (but : Int) (ts : List GTask) : Nat → List Bool → List Bool
  | 0, l => l
  | k + 1, l => iter but ts k (rnd but 0 ts l)
theorem z13j (but : Int) (ts : List GTask) : ∀ (k : Nat) (l : List Bool), (iter but ts k l).length = l.length
  | 0, _ => rfl
  | k + 1, l => by show (iter but ts k (rnd but 0 ts l)).length = _; rw [z13j but ts k, z0gh]
theorem z1de {but : Int} {ts : List GTask} {l : List Bool} (h : rnd but 0 ts l = l) : ∀ k : Nat, iter but ts k l = l
  | 0 => rfl
  | k + 1 => by show iter but ts k (rnd but 0 ts l) = l; rw [h]; exact z1de h k
theorem z1dd {but : Int} {ts : List GTask} : ∀ (k : Nat) (l : List Bool), Pls l.length ts → l.length ≤ cntT l + k → rnd but 0 ts (iter but ts k l) = iter but ts k l
  | 0, l, hp, h => by
    have hs := z16e (but := but) ts 0 l hp
    obtain ⟨h1, h2⟩ := z1zs (z0gh but ts 0 l).symm hs
    have h3 := z25k (rnd but 0 ts l)
    rw [z0gh] at h3
    exact (h2 (by omega)).symm
  | k + 1, l, hp, h => by
    by_cases e : rnd but 0 ts l = l
    · rw [z1de e]; exact e
    · have hs := z16e (but := but) ts 0 l hp
      obtain ⟨h1, h2⟩ := z1zs (z0gh but ts 0 l).symm hs
      have h4 : cntT l ≠ cntT (rnd but 0 ts l) := fun e2 => e (h2 e2).symm
      exact z1dd k (rnd but 0 ts l) (by rw [z0gh]; exact hp) (by rw [z0gh]; omega)
theorem z1ol {but : Int} {ts : List GTask} : ∀ (k : Nat) (l : List Bool), Pls l.length ts → Sub l (iter but ts k l)
  | 0, _, _ => fun _ _ _ h => h
  | k + 1, l, hp => Sub.trans (z0gh but ts 0 l).symm (z16e ts 0 l hp) (z1ol k (rnd but 0 ts l) (by rw [z0gh]; exact hp))
theorem z13k {but : Int} {ts : List GTask} {S : Int → Prop} : ∀ (k : Nat) (l : List Bool), Pls l.length ts → Sound but ts S l → Sound but ts S (iter but ts k l)
  | 0, _, _, h => h
  | k + 1, l, hp, h => z13k k (rnd but 0 ts l) (by rw [z0gh]; exact hp) (z1sl ts [] l rfl hp h)
theorem z1ln {but : Int} {ts : List GTask} {l r : List Bool} (hp : Pls l.length ts) (hl : r.length = l.length) (h1 : Sub l r) (h2 : rnd but 0 ts r = r) (h3 : Sound but ts (fun p => (0 ≤ p ∧ p < l.length) ∧ atB l p = true) r) {q : Int} (h0 : 0 ≤ q) (hq : q < l.length) :
    atB r q = true ↔ ∃ p : Int, ((0 ≤ p ∧ p < l.length) ∧ atB l p = true) ∧ Star but ts p q := by
  have hp' : Pls r.length ts := by rw [hl]; exact hp
  constructor
  · exact h3 q h0 (by rw [hl]; exact hq)
  · rintro ⟨p, ⟨⟨a, b⟩, c⟩, st⟩
    exact (z21b hp' (z23p hp' h2) st a (by rw [hl]; exact b) (h1 p a b c)).2
theorem z1lh {but : Int} {ts : List GTask} (l : List Bool) : Sound but ts (fun p => (0 ≤ p ∧ p < l.length) ∧ atB l p = true) l := fun q h0 h1 h => ⟨q, ⟨⟨h0, h1⟩, h⟩, .refl q⟩
end Go.Am.Pl
end
section
set_option maxRecDepth 100000
set_option linter.unusedVariables false
set_option linter.unusedSimpArgs false
namespace Go.Am.Pl
open Go
theorem scanE {α β σ : Type} (l : List α) (hl : l.length ≤ SMALL) (f : Nat → Int → σ → Option β) (kx : σ → Option β) (Inv : List α → σ → Prop)
    (h0 : ∀ n s, f (n + 1) (l.length : Int) s = kx s)
    (h1 : ∀ n pre x suf s, l = pre ++ x :: suf → getI l (pre.length : Int) = some x → x ∈ l → ((pre.length : Int) < (l.length : Int)) → ok64 ((pre.length : Int) + 1) → Inv pre s →
      ∃ s', Inv (pre ++ [x]) s' ∧ f (n + 1) (pre.length : Int) s = f n ((pre.length : Int) + 1) s') :
    ∀ s, Inv [] s → ∃ s', Inv l s' ∧ f FUEL 0 s = kx s' := by
  unfold SMALL at hl
  have key : ∀ suf pre n s, l = pre ++ suf → Inv pre s → suf.length < n → ∃ s', Inv l s' ∧ f n (pre.length : Int) s = kx s' := by
    intro suf
    induction suf with
    | nil =>
      intro pre n s hp hi hn
      obtain ⟨m, rfl⟩ : ∃ m, n = m + 1 := ⟨n - 1, by simp at hn; omega⟩
      simp only [List.append_nil] at hp
      subst hp
      exact ⟨s, hi, h0 m s⟩
    | cons x suf ih =>
      intro pre n s hp hi hn
      obtain ⟨m, rfl⟩ : ∃ m, n = m + 1 := ⟨n - 1, by simp at hn; omega⟩
      have hlen : l.length = pre.length + suf.length + 1 := by rw [hp]; simp; omega
      obtain ⟨s', hi', e⟩ := h1 m pre x suf s hp (by rw [hp]; exact z0c6 pre x suf) (by rw [hp]; simp) (by omega) (by constructor <;> omega) hi
      obtain ⟨s2, hi2, e2⟩ := ih (pre ++ [x]) m s' (by rw [hp]; simp) hi' (by simp at hn; omega)
      refine ⟨s2, hi2, ?_⟩
      rw [e, ← e2]; simp
  intro s hi
  exact key l [] FUEL s (by simp) hi (by have := z02j; omega)
theorem z27h {n : GNet} {i : Int} {t : GTask} {l : List Bool} (kx : Bool → Option (List Bool)) (h : getI n.tasks i = some t) (hs : t.in_.length ≤ SMALL) (hp : ∀ p ∈ t.in_, 0 ≤ p ∧ p < l.length) :
    z01u n i l kx FUEL false 0 = kx (t.in_.any (atB l)) :=
  scan t.in_ (by unfold SMALL at hs; omega) (fun f k s => z01u n i l kx f s k) (fun _ suf s => kx (s || suf.any (atB l))) (fun _ _ => True)
    (fun f s _ => by rw [z01u, h, Option.bind_some, if_neg (by simp)]; simp)
    (fun f pre x suf s a b c d _ k => by
      have hx := hp x (by rw [a]; simp)
      rw [z01u, h, Option.bind_some, if_pos (decide_eq_true c)]
      cases s
      · rw [if_neg (by simp), Option.bind_some, b, Option.bind_some, z0gw l hx.1 hx.2, Option.bind_some, z001 d, k _ trivial]; simp
      · rw [if_pos rfl, z001 d, k _ trivial]; simp) FUEL false trivial (by have := z02j; unfold SMALL at hs; omega)
theorem z26k {n : GNet} {but i : Int} {t : GTask} {s : Bool} {l : List Bool} (kx : List Bool → Option (List Bool)) (h : getI n.tasks i = some t) (hs : t.out.length ≤ SMALL) (hp : ∀ f ∈ t.out, 0 ≤ f.to ∧ f.to < l.length) :
    z01f n but i s kx kx kx FUEL 0 l = kx (if i ≠ but ∧ s = true then setTs l (t.out.map (·.to)) else l) := by
  obtain ⟨g, hF⟩ : ∃ g, FUEL = g + 1 := ⟨FUEL - 1, by have := z02j; omega⟩
  by_cases hb : i = but
  · rw [hF, z01f, h, Option.bind_some]
    cases s <;> simp [hb]
  · cases s
    · rw [hF, z01f, h, Option.bind_some]; simp
    · rw [if_pos ⟨hb, rfl⟩]
      exact scan t.out (by unfold SMALL at hs; omega) (z01f n but i true kx kx kx) (fun _ suf l => kx (setTs l (suf.map (·.to)))) (fun _ l2 => l2.length = l.length)
        (fun f s _ => by rw [z01f, h, Option.bind_some, if_neg (by simp)]; rfl)
        (fun f pre x suf s a b c d hi k => by
          have hx := hp x (by rw [a]; simp)
          rw [z01f, h, Option.bind_some, if_pos (decide_eq_true c), if_pos rfl, if_neg (by simpa using hb), Option.bind_some, b, Option.bind_some, z0gw s hx.1 (by rw [hi]; exact hx.2), Option.bind_some, z001 d]
          exact k _ (by rw [← hi, ← z0du s x.to]; rfl)) FUEL l rfl (by have := z02j; unfold SMALL at hs; omega)
theorem z1dw {n : GNet} (h : netB n = true) {N : Nat} (hN : (N : Int) = n.places) : Pls N n.tasks := fun t ht => by
  have T := z09z h ht
  refine ⟨fun p hp => by have := T.ins p hp; omega, fun f hf => ?_⟩
  have := z1s8 h ht f hf; omega
theorem z1lk {n : GNet} {l : List Bool} (but : Int) (hn : n.small) (h : netB n = true) (hl : (l.length : Int) = n.places) : z0bl n l but = some (iter but n.tasks l.length l) := by
  have hsz := z0bn h
  have hP := z1dw h hl
  unfold z0bl
  rw [z001 (by simp; unfold SMALL; omega), List.nil_append]
  have round : ∀ (kx : List Bool → Option (List Bool)) (s : List Bool), s.length = l.length → z00d n but kx FUEL 0 s = kx (rnd but 0 n.tasks s) := fun kx s hs =>
    scan n.tasks (by have := hn.1; unfold SMALL at this; omega) (z00d n but kx) (fun pre suf s => kx (rnd but pre.length suf s)) (fun _ s => s.length = l.length)
      (fun f s _ => by rw [z00d, if_neg (by simp)]; rfl)
      (fun f pre x suf s a b c d hi k => by
        have hx : x ∈ n.tasks := by rw [a]; simp
        have hx2 := hP x hx
        rw [z00d, if_pos (decide_eq_true c), z27h _ b (hn.2 x hx).1 (by rw [hi]; exact hx2.1)]
        unfold z0gc
        have e2 : z0b2 (pre.length : Int) (z00d n but kx f) = fun z => z00d n but kx f ((pre.length : Int) + 1) z := funext fun z => by unfold z0b2; rw [z001 d]
        have e3 : z0b3 (pre.length : Int) (z00d n but kx f) = fun z => z00d n but kx f ((pre.length : Int) + 1) z := funext fun z => by unfold z0b3; rw [z001 d]
        have e4 : z0b4 (pre.length : Int) (z00d n but kx f) = fun z => z00d n but kx f ((pre.length : Int) + 1) z := funext fun z => by unfold z0b4; rw [z001 d]
        rw [e2, e3, e4, z26k _ b (hn.2 x hx).2.1 (by rw [hi]; exact hx2.2)]
        have := k (rndT but pre.length x s) (by rw [z0dt, hi])
        rw [rnd]
        rw [List.length_append, List.length_singleton] at this
        exact this) FUEL s hs (by have := z02j; have := hn.1; unfold SMALL at this; omega)
  have hrep : (List.replicate l.length ()).length = l.length := by simp
  have := scan (List.replicate l.length ()) (by rw [hrep]; omega) (z03n n but z0ge) (fun _ suf s => some (iter but n.tasks suf.length s)) (fun _ s => s.length = l.length)
      (fun f s _ => by rw [z03n, hrep, if_neg (by simp; omega)]; rfl)
      (fun f pre x suf s a b c d hi k => by
        rw [hrep] at c
        rw [z03n, if_pos (by simp; omega), round _ s hi]
        unfold z0gd
        rw [z001 d]
        exact k _ (by rw [z0gh, hi])) FUEL l rfl (by have := z02j; rw [hrep]; omega)
  rw [this, hrep]
theorem z21a {l : List Bool} {p : Int} (h0 : 0 ≤ p) (h1 : p < l.length) (h : atB l p = true) : setT l p = l :=
  z24x (z0du l p) (fun q a b c => by
    rw [z0du] at b
    rw [z19q l h0 a b] at c
    rcases Bool.or_eq_true _ _ ▸ c with c | c
    · rw [decide_eq_true_eq] at c; subst c; exact h
    · exact c) (fun q a b c => by rw [z19q l h0 a b, c, Bool.or_true])
theorem z26h {l : List Bool} {p : Int} {ps : List Int} (hp : ∀ x ∈ ps, 0 ≤ x) (h0 : 0 ≤ p) (h1 : p < l.length) (h : atB l p = false) : setTs (setT l p) ps ≠ l := fun e => by
  have h2 := z1m1 ps (setT l p) hp h0 (by rw [z0du]; exact h1)
  rw [e, h, z19q l h0 h0 h1] at h2
  simp at h2
theorem z219 (ps : List GFlow) (hs : ps.length ≤ SMALL) (kx : Bool → List Bool → Option (List Bool)) (c0 : Bool) (l0 : List Bool) (hp : ∀ f ∈ ps, 0 ≤ f.to ∧ f.to < l0.length) :
    z00c ps (ps.length : Int) kx FUEL 0 c0 l0 = kx (c0 || !decide (setTs l0 (ps.map (·.to)) = l0)) (setTs l0 (ps.map (·.to))) :=
  scan ps (by unfold SMALL at hs; omega) (fun n i (s : Bool × List Bool) => z00c ps (ps.length : Int) kx n i s.1 s.2) (fun _ suf s => kx (s.1 || !decide (setTs s.2 (suf.map (·.to)) = s.2)) (setTs s.2 (suf.map (·.to)))) (fun _ s => s.2.length = l0.length)
    (fun n s _ => by rw [z00c, if_neg (by simp)]; simp [setTs])
    (fun n pre x suf s a b c d hi k => by
      obtain ⟨s1, s2⟩ := s
      have hx := hp x (by rw [a]; simp)
      have hx2 : x.to < s2.length := by rw [hi]; exact hx.2
      have hg := z0gw s2 hx.1 hx2
      have hm : ∀ y ∈ suf.map (·.to), 0 ≤ y := fun y hy => by obtain ⟨f, hf, e⟩ := List.mem_map.1 hy; subst e; exact (hp f (by rw [a]; simp [hf])).1
      show z00c ps (ps.length : Int) kx (n + 1) (pre.length : Int) s1 s2 = kx (s1 || !decide (setTs (setT s2 x.to) (suf.map (·.to)) = s2)) (setTs (setT s2 x.to) (suf.map (·.to)))
      rw [z00c, if_pos (decide_eq_true c), b, Option.bind_some]
      have fin : ∀ b2 : Bool, (b2 || !decide (setTs (setT s2 x.to) (suf.map (·.to)) = setT s2 x.to)) = (s1 || !decide (setTs (setT s2 x.to) (suf.map (·.to)) = s2)) → z00c ps (ps.length : Int) kx n ((pre.length : Int) + 1) b2 (s2.set x.to.toNat true) = kx (s1 || !decide (setTs (setT s2 x.to) (suf.map (·.to)) = s2)) (setTs (setT s2 x.to) (suf.map (·.to))) := fun b2 hb => by
        have := k (b2, setT s2 x.to) (by show (setT s2 x.to).length = _; rw [z0du, hi])
        rw [← hb]; exact this
      cases s1
      · rw [if_neg (by simp), hg, Option.bind_some, Option.bind_some, z001 d]
        refine fin _ ?_
        cases e : atB s2 x.to
        · simp [z26h hm hx.1 hx2 e]
        · rw [z21a hx.1 hx2 e]; rfl
      · rw [if_pos rfl, hg, Option.bind_some, z001 d]
        exact fin _ (by simp)) FUEL (c0, l0) rfl (by have := z02j; unfold SMALL at hs; omega)
theorem ContainsB (s : List Int) (hs : s.length ≤ SMALL) (l : List Bool) (hp : ∀ p ∈ s, 0 ≤ p ∧ p < l.length) : z020 s (fun z => z05d z l) = some (s.any (atB l)) :=
  z09g s hs _ (atB l) (fun x hx => by unfold z05d; rw [z0gw l (hp x hx).1 (hp x hx).2]; rfl)
theorem z1al {n : GNet} {N : Nat} (but : Int) (hn : n.small) (hP : Pls N n.tasks) (kx : Bool → List Bool → Option (List Bool)) (l0 : List Bool) (hl : l0.length = N) :
    z009 but kx FUEL n.tasks (n.tasks.length : Int) 0 false l0 = kx (!decide (rnd but 0 n.tasks l0 = l0)) (rnd but 0 n.tasks l0) := by
  have := scan n.tasks (by have := hn.1; unfold SMALL at this; omega) (fun f i (s : Bool × List Bool) => z009 but kx f n.tasks (n.tasks.length : Int) i s.1 s.2)
    (fun pre suf s => kx (s.1 || !decide (rnd but pre.length suf s.2 = s.2)) (rnd but pre.length suf s.2)) (fun _ s => s.2.length = N)
    (fun f s _ => by rw [z009, if_neg (by simp)]; simp [rnd])
    (fun f pre x suf s a b c d hi k => by
      obtain ⟨s1, s2⟩ := s
      have hi2 : s2.length = N := hi
      have hx : x ∈ n.tasks := by rw [a]; simp
      have hx2 := hP x hx
      have hsuf : Pls (rndT but pre.length x s2).length suf := by rw [z0dt, hi2]; exact fun y hy => hP y (by rw [a]; simp [hy])
      have fin : ∀ b2 : Bool, b2 = (s1 || !decide (rndT but pre.length x s2 = s2)) → z009 but kx f n.tasks (n.tasks.length : Int) ((pre.length : Int) + 1) b2 (rndT but pre.length x s2) = kx (s1 || !decide (rnd but pre.length (x :: suf) s2 = s2)) (rnd but pre.length (x :: suf) s2) := fun b2 hb => by
        have h2 := k (b2, rndT but pre.length x s2) (by show (rndT but pre.length x s2).length = _; rw [z0dt, hi2])
        rw [List.length_append, List.length_singleton] at h2
        have h3 : z009 but kx f n.tasks (n.tasks.length : Int) ((pre.length : Int) + 1) b2 (rndT but pre.length x s2) = kx (b2 || !decide (rnd but (pre.length + 1) suf (rndT but pre.length x s2) = rndT but pre.length x s2)) (rnd but (pre.length + 1) suf (rndT but pre.length x s2)) := h2
        rw [h3, rnd, hb]
        congr 1
        by_cases e : rndT but pre.length x s2 = s2
        · rw [e]; simp
        · have : rnd but (pre.length + 1) suf (rndT but pre.length x s2) ≠ s2 := fun e2 => e (by
            have h4 := z16e (but := but) suf (pre.length + 1) (rndT but pre.length x s2) hsuf
            rw [e2] at h4
            exact z24x (z0dt _ _ _ _) h4 (z1qf (by rw [hi2]; exact hx2.2)))
          simp [e, this]
      show z009 but kx (f + 1) n.tasks (n.tasks.length : Int) (pre.length : Int) s1 s2 = kx (s1 || !decide (rnd but pre.length (x :: suf) s2 = s2)) (rnd but pre.length (x :: suf) s2)
      rw [z009, if_pos (decide_eq_true c), b, Option.bind_some]
      by_cases hb : (pre.length : Int) = but
      · have e : rndT but pre.length x s2 = s2 := by unfold rndT; rw [if_neg (fun h => h.1 hb)]
        rw [if_pos (decide_eq_true hb), z001 d]
        have := fin s1 (by rw [e]; simp)
        rw [e] at this; exact this
      · rw [if_neg (by simpa using hb), ContainsB x.in_ (hn.2 x hx).1 s2 (by rw [hi2]; exact hx2.1), Option.bind_some]
        by_cases ha : x.in_.any (atB s2) = true
        · have e : rndT but pre.length x s2 = setTs s2 (x.out.map (·.to)) := by unfold rndT; rw [if_pos ⟨hb, ha⟩]
          rw [if_pos ha, z219 x.out (hn.2 x hx).2.1 _ s1 s2 (by rw [hi2]; exact hx2.2)]
          unfold z0bt
          rw [z001 d, ← e]
          exact fin _ rfl
        · have e : rndT but pre.length x s2 = s2 := by unfold rndT; rw [if_neg (fun h => ha h.2)]
          rw [if_neg ha, z001 d]
          have := fin s1 (by rw [e]; simp)
          rw [e] at this; exact this) FUEL (false, l0) hl (by have := z02j; have := hn.1; unfold SMALL at this; omega)
  simpa using this
theorem z1yr {n : GNet} {N : Nat} (but : Int) (hn : n.small) (hP : Pls N n.tasks) (kx : List Bool → Option (List Bool)) : ∀ (K : Nat) (l : List Bool) (f : Nat), l.length = N → N ≤ cntT l + K → K + 2 ≤ f →
    z00s n but kx f true l = kx (iter but n.tasks K l) := by
  intro K
  induction K with
  | zero =>
    intro l f hl hc hf
    obtain ⟨g, rfl⟩ : ∃ g, f = g + 2 := ⟨f - 2, by omega⟩
    rw [z00s, if_pos rfl, z1al but hn hP _ l hl]
    unfold z07r
    have e : rnd but 0 n.tasks l = l := z1dd (but := but) (ts := n.tasks) 0 l (by rw [hl]; exact hP) (by rw [hl]; exact hc)
    rw [e, decide_eq_true rfl, z00s, if_neg (by simp)]; rfl
  | succ K ih =>
    intro l f hl hc hf
    obtain ⟨g, rfl⟩ : ∃ g, f = g + 2 := ⟨f - 2, by omega⟩
    rw [z00s, if_pos rfl, z1al but hn hP _ l hl]
    unfold z07r
    by_cases e : rnd but 0 n.tasks l = l
    · rw [e, decide_eq_true rfl, z00s, if_neg (by simp), z1de e]
    · rw [decide_eq_false e]
      have hs := z16e (but := but) n.tasks 0 l (by rw [hl]; exact hP)
      obtain ⟨h1, h2⟩ := z1zs (z0gh but n.tasks 0 l).symm hs
      have h4 : cntT l ≠ cntT (rnd but 0 n.tasks l) := fun e2 => e (h2 e2).symm
      exact ih (rnd but 0 n.tasks l) (g + 1) (by rw [z0gh, hl]) (by omega) (by omega)
def oneT (N : Nat) (p : Int) : List Bool := setT (List.replicate N false) p
theorem z1xr {n : GNet} (p but : Int) (hn : n.small) (h : netB n = true) (h0 : 0 ≤ p) (h1 : p < n.places) : z07h n p but = some (iter but n.tasks n.places.toNat (oneT n.places.toNat p)) := by
  have hsz := z0bn h
  unfold z07h
  rw [z001 (by omega), z0gw (List.replicate n.places.toNat false) h0 (by simp; omega), Option.bind_some]
  have hl : (oneT n.places.toNat p).length = n.places.toNat := by unfold oneT; rw [z0du]; simp
  exact (z1yr but hn (z1dw h (by omega)) z0bu n.places.toNat (oneT n.places.toNat p) FUEL hl (by omega) (by have := z02j; omega))
theorem z224 (N : Nat) (q : Int) : atB (List.replicate N false) q = false := by
  unfold atB getI
  split
  · cases e : (List.replicate N false)[q.toNat]? with
    | none => rfl
    | some v =>
      have := List.mem_of_getElem? e
      rw [List.mem_replicate] at this
      simp [this.2]
  · rfl
theorem z22u {N : Nat} {p q : Int} (hp : 0 ≤ p) (hq : 0 ≤ q) (h : q < N) : atB (oneT N p) q = decide (p = q) := by
  unfold oneT; rw [z19q _ hp hq (by simpa using h), z224, Bool.or_false]
theorem z1sk {n : GNet} {p but q : Int} (h : netB n = true) (h0 : 0 ≤ p) (h1 : p < n.places) (g0 : 0 ≤ q) (g1 : q < n.places) :
    atB (iter but n.tasks n.places.toNat (oneT n.places.toNat p)) q = true ↔ Star but n.tasks p q := by
  have hsz := z0bn h
  have hl : (oneT n.places.toNat p).length = n.places.toNat := by unfold oneT; rw [z0du]; simp
  have hP : Pls (oneT n.places.toNat p).length n.tasks := z1dw h (by rw [hl]; omega)
  rw [z1ln hP (by rw [z13j]) (z1ol _ _ hP) (z1dd _ _ hP (by rw [hl]; omega)) (z13k _ _ hP (z1lh _)) g0 (by rw [hl]; omega)]
  constructor
  · rintro ⟨x, ⟨⟨a, b⟩, c⟩, st⟩
    rw [hl] at b
    rw [z22u h0 a b, decide_eq_true_eq] at c
    subst c; exact st
  · intro st
    exact ⟨p, ⟨⟨h0, by rw [hl]; omega⟩, by rw [z22u h0 h0 (by omega)]; simp⟩, st⟩
theorem z1zq {n : GNet} {l : List Bool} {but q : Int} (h : netB n = true) (hl : (l.length : Int) = n.places) (g0 : 0 ≤ q) (g1 : q < n.places) :
    atB (iter but n.tasks l.length l) q = true ↔ ∃ p, (0 ≤ p ∧ p < n.places) ∧ atB l p = true ∧ Star but n.tasks p q := by
  have hP : Pls l.length n.tasks := z1dw h hl
  rw [z1ln hP (by rw [z13j]) (z1ol _ _ hP) (z1dd _ _ hP (by omega)) (z13k _ _ hP (z1lh _)) g0 (by omega)]
  constructor
  · rintro ⟨x, ⟨⟨a, b⟩, c⟩, st⟩; exact ⟨x, ⟨a, by omega⟩, c, st⟩
  · rintro ⟨x, ⟨a, b⟩, c, st⟩; exact ⟨x, ⟨⟨a, by omega⟩, c⟩, st⟩
end Go.Am.Pl
end
section
set_option maxRecDepth 100000
set_option linter.unusedVariables false
set_option linter.unusedSimpArgs false
namespace Go.Am.Pl
open Go
def srcB (n : GNet) (marks : List Int) (busy : List GItem) (ins : List Int) (p : Int) : Bool :=
  (decide (0 < atI marks p) && !ins.any (fun x => decide (x = p))) || busy.any (fun b => (atI n.tasks b.task).out.any (fun f => decide (f.to = p)))
def Coming (n : GNet) (marks : List Int) (busy : List GItem) (t : Int) : Prop :=
  ∃ q ∈ (atI n.tasks t).in_, atI marks q = 0 ∧ ∃ p : Int, (0 ≤ p ∧ p < n.places) ∧ srcB n marks busy (atI n.tasks t).in_ p = true ∧ Star t n.tasks p q
noncomputable def comB (n : GNet) (marks : List Int) (busy : List GItem) (t : Int) : Bool := @decide (Coming n marks busy t) (Classical.propDecidable _)
theorem z23m {n : GNet} {marks : List Int} {busy : List GItem} {t : Int} : comB n marks busy t = true ↔ Coming n marks busy t := by unfold comB; exact @decide_eq_true_iff _ (Classical.propDecidable _)
theorem z228 {n : GNet} {marks : List Int} {busy : List GItem} {t : Int} {b : Bool} (h : b = true ↔ Coming n marks busy t) : b = comB n marks busy t := by
  rw [Bool.eq_iff_iff, h, z23m]
structure MB (n : GNet) (m : List Int) (busy : List GItem) : Prop where
  net : netB n = true
  len : (m.length : Int) = n.places
  mks : ∀ x ∈ m, 0 ≤ x ∧ x ≤ 4
  busyl : busy.length ≤ 6
  busy : ∀ b ∈ busy, (0 ≤ b.task ∧ b.task < n.tasks.length)
theorem mb_of {n : GNet} {m : List Int} {busy : List GItem} (h1 : mrkB n m = true) (h2 : busyB n busy = true) : MB n m busy := by
  obtain ⟨a, b, c⟩ := z0gg h1
  simp only [busyB, itemB, Bool.and_eq_true, List.all_eq_true, z01k, decide_eq_true_eq] at h2
  exact ⟨a, b, z0w9.1 c, by omega, fun x hx => by have := h2.2 x hx; omega⟩
theorem z1ll {n : GNet} {marks : List Int} {busy : List GItem} {t : Int} (hn : n.small) (M : MB n marks busy) (t0 : 0 ≤ t) (t1 : t < n.tasks.length) : z0bm n marks busy t = some (comB n marks busy t) := by
  have hsz := z0bn M.net
  have hml := M.len
  have hg := z00r n.tasks t0 t1
  have hm := z05a n.tasks t0 t1
  have T := z09z M.net hm
  have hsm := hn.2 _ hm
  generalize hins : (atI n.tasks t).in_ = ins at *
  unfold z0bm
  rw [z001 (by omega)]
  obtain ⟨s1, ⟨hl1, hv1⟩, e1⟩ := scanE marks (by unfold SMALL; omega) (z01w n marks t (z03o n marks busy t)) (z03o n marks busy t)
    (fun pre s => (s.length : Int) = n.places ∧ ∀ q : Int, 0 ≤ q → q < n.places → atB s q = (decide (q < pre.length) && (decide (0 < atI marks q) && !ins.any (fun x => decide (x = q)))))
    (fun f s => by rw [z01w, if_neg (by simp; omega)])
    (fun f pre x suf s a b c d g hi => by
      have hx : 0 ≤ (pre.length : Int) ∧ (pre.length : Int) < n.places := by omega
      have hgs := z0gw s hx.1 (by omega)
      have hat : atI marks pre.length = x := by unfold atI; rw [b]; rfl
      have inv : ∀ v : Bool, v = (decide (0 < x) && !ins.any (fun y => decide (y = (pre.length : Int)))) → ((s.set (pre.length : Int).toNat v).length : Int) = n.places ∧ ∀ q : Int, 0 ≤ q → q < n.places → atB (s.set (pre.length : Int).toNat v) q = (decide (q < (pre ++ [x]).length) && (decide (0 < atI marks q) && !ins.any (fun x => decide (x = q)))) := fun v hv => by
        refine ⟨by rw [List.length_set]; exact hi.1, fun q q0 q1 => ?_⟩
        have e : atB (s.set (pre.length : Int).toNat v) q = if (pre.length : Int) = q then v else atB s q := by
          unfold atB; rw [z1da s v hx.1 q0 (by omega)]
          split <;> rfl
        rw [e]
        by_cases h : (pre.length : Int) = q
        · rw [if_pos h, ← h, hat, hv]
          have : decide ((pre.length : Int) < (((pre ++ [x]).length : Nat) : Int)) = true := by simp; omega
          rw [this, Bool.true_and]
        · rw [if_neg h, hi.2 q q0 q1]
          have : decide (q < (pre.length : Int)) = decide (q < (((pre ++ [x]).length : Nat) : Int)) := decide_eq_decide.2 (by simp; omega)
          rw [this]
      rw [z01w, if_pos (decide_eq_true (by omega)), b, Option.bind_some]
      by_cases h : 0 < x
      · rw [if_pos (decide_eq_true h), hg, Option.bind_some, hins, z16k _ _ (hins ▸ hsm.1), Option.bind_some, hgs, Option.bind_some, z001 g]
        exact ⟨_, inv _ (by simp [h]), rfl⟩
      · rw [if_neg (by simpa using h), hgs, Option.bind_some, z001 g]
        exact ⟨_, inv _ (by simp [h]), rfl⟩)
    (List.replicate n.places.toNat false) ⟨by simp; omega, fun q q0 q1 => by rw [z224]; simp; omega⟩
  have e1' : z01w n marks t (z03o n marks busy t) FUEL 0 (List.replicate n.places.toNat false) = z03o n marks busy t s1 := e1
  rw [e1']
  unfold z03o
  obtain ⟨s2, ⟨hl2, hv2⟩, e2⟩ := scanE busy (by have := M.busyl; unfold SMALL; omega) (z010 n busy (z01v n marks t)) (z01v n marks t)
    (fun pre s => (s.length : Int) = n.places ∧ ∀ q : Int, 0 ≤ q → q < n.places → atB s q = ((decide (0 < atI marks q) && !ins.any (fun x => decide (x = q))) || pre.any (fun b => (atI n.tasks b.task).out.any (fun f => decide (f.to = q)))))
    (fun f s => by rw [z010, if_neg (by simp)])
    (fun f pre x suf s a b c d g hi => by
      have hb := M.busy x c
      have hxm := z05a n.tasks hb.1 hb.2
      have hto := z1s8 M.net hxm
      rw [z010, if_pos (decide_eq_true d), b, Option.bind_some, z00r n.tasks hb.1 hb.2, Option.bind_some]
      obtain ⟨s3, ⟨hl3, hv3⟩, e3⟩ := scanE (atI n.tasks x.task).out (hn.2 _ hxm).2.1 (z02c (atI n.tasks x.task).out (z03p pre.length (z010 n busy (z01v n marks t) f))) (z03p pre.length (z010 n busy (z01v n marks t) f))
        (fun pr z => (z.length : Int) = n.places ∧ ∀ q : Int, 0 ≤ q → q < n.places → atB z q = (pr.any (fun f => decide (f.to = q)) || atB s q))
        (fun f s => by rw [z02c, if_neg (by simp)])
        (fun f pr y sf z a2 b2 c2 d2 g2 hi2 => by
          have hy := hto y c2
          rw [z02c, if_pos (decide_eq_true d2), b2, Option.bind_some, z0gw z (by omega) (by omega), Option.bind_some, z001 g2]
          refine ⟨setT z y.to, ⟨by rw [z0du]; exact hi2.1, fun q q0 q1 => ?_⟩, rfl⟩
          rw [z19q z (by omega) q0 (by omega), hi2.2 q q0 q1, List.any_append, List.any_cons, List.any_nil, Bool.or_false]
          generalize decide (y.to = q) = u; generalize (pr.any fun f => decide (f.to = q)) = v; generalize atB s q = w
          cases u <;> cases v <;> cases w <;> rfl) s ⟨hi.1, fun q _ _ => by simp⟩
      refine ⟨s3, ⟨hl3, fun q q0 q1 => ?_⟩, ?_⟩
      · rw [hv3 q q0 q1, hi.2 q q0 q1, List.any_append, List.any_cons, List.any_nil, Bool.or_false]
        cases (List.any (atI n.tasks x.task).out fun f => decide (f.to = q)) <;> simp
      · have : z02c (atI n.tasks x.task).out (z03p pre.length (z010 n busy (z01v n marks t) f)) FUEL 0 s = z03p pre.length (z010 n busy (z01v n marks t) f) s3 := e3
        rw [this]; unfold z03p; rw [z001 g])
    s1 ⟨hl1, fun q q0 q1 => by rw [hv1 q q0 q1, decide_eq_true (by omega)]; simp⟩
  rw [e2]
  unfold z01v
  rw [z1lk t hn M.net hl2, Option.bind_some]
  generalize hr : iter t n.tasks s2.length s2 = r
  have hrl : (r.length : Int) = n.places := by rw [← hr, z13j]; exact hl2
  have hri : ∀ q : Int, 0 ≤ q → q < n.places → (atB r q = true ↔ ∃ p : Int, (0 ≤ p ∧ p < n.places) ∧ srcB n marks busy ins p = true ∧ Star t n.tasks p q) := fun q q0 q1 => by
    rw [← hr, z1zq M.net hl2 q0 q1]
    constructor
    · rintro ⟨p, a, b, c⟩; rw [hv2 p a.1 a.2] at b; exact ⟨p, a, b, c⟩
    · rintro ⟨p, a, b, c⟩; exact ⟨p, a, by rw [hv2 p a.1 a.2]; exact b, c⟩
  have hin : ∀ p ∈ ins, 0 ≤ p ∧ p < n.places := fun p hp => by have := T.ins p (hins ▸ hp); omega
  have fin : z01x n marks t r z0b5 FUEL 0 = some (ins.any (fun q => decide (atI marks q = 0) && atB r q)) :=
    scan0 ins (by have := hins ▸ hsm.1; unfold SMALL at this; omega) (z01x n marks t r z0b5) (fun _ suf => some (suf.any (fun q => decide (atI marks q = 0) && atB r q)))
      (fun f => by rw [z01x, hg, Option.bind_some, hins, if_neg (by simp)]; rfl)
      (fun f pre x suf a b c d ih => by
        have hx := hin x (by rw [a]; simp)
        rw [z01x, hg, Option.bind_some, hins, if_pos (decide_eq_true c), Option.bind_some, hins, b, Option.bind_some, z00r marks hx.1 (by have := M.len; omega), Option.bind_some, List.any_cons]
        by_cases h : atI marks x = 0
        · rw [if_pos (decide_eq_true h), Option.bind_some, hins, b, Option.bind_some, z0gw r hx.1 (by omega), Option.bind_some, z001 d, ih]
          cases atB r x <;> simp [h]
        · rw [if_neg (by simpa using h), z001 d, ih]; simp [h])
  rw [fin]
  congr 1
  refine z228 ?_
  unfold Coming
  rw [hins, List.any_eq_true]
  constructor
  · rintro ⟨q, hq, h⟩
    rw [Bool.and_eq_true, decide_eq_true_eq] at h
    exact ⟨q, hq, h.1, (hri q (hin q hq).1 (hin q hq).2).1 h.2⟩
  · rintro ⟨q, hq, h, h2⟩
    exact ⟨q, hq, by rw [Bool.and_eq_true, decide_eq_true_eq]; exact ⟨h, (hri q (hin q hq).1 (hin q hq).2).2 h2⟩⟩
theorem z1oi {n : GNet} {marks : List Int} {busy : List GItem} {t : Int} (hn : n.small) (M : MB n marks busy) (t0 : 0 ≤ t) (t1 : t < n.tasks.length) : z05c n marks busy t = some (comB n marks busy t) := by
  have hsz := z0bn M.net
  have hml := M.len
  have hg := z00r n.tasks t0 t1
  have hm := z05a n.tasks t0 t1
  have T := z09z M.net hm
  have hsm := hn.2 _ hm
  unfold z05c
  rw [hg, Option.bind_some]
  generalize hins : (atI n.tasks t).in_ = ins at *
  have hsl0 : ins.length ≤ SMALL := hins ▸ hsm.1
  obtain ⟨s1, ⟨hl1, hv1⟩, e1⟩ := scanE marks (by unfold SMALL; omega) (z00j marks ins (marks.length : Int) (z03g n busy t ins marks)) (z03g n busy t ins marks)
    (fun pre s => s.length ≤ pre.length ∧ ∀ q : Int, q ∈ s ↔ (0 ≤ q ∧ q < pre.length) ∧ (decide (0 < atI marks q) && !ins.any (fun x => decide (x = q))) = true)
    (fun f s => by rw [z00j, if_neg (by simp)])
    (fun f pre x suf s a b c d g hi => by
      have hat : atI marks pre.length = x := by unfold atI; rw [b]; rfl
      have hsl : s.length + [(pre.length : Int)].length ≤ SMALL := by rw [List.length_singleton]; unfold SMALL; omega
      have sym : ins.any (fun y => decide ((pre.length : Int) = y)) = ins.any (fun y => decide (y = (pre.length : Int))) := by congr 1; funext y; exact decide_eq_decide.2 ⟨Eq.symm, Eq.symm⟩
      have no : (decide (0 < x) && !ins.any (fun y => decide (y = (pre.length : Int)))) = false → s.length ≤ (pre ++ [x]).length ∧ ∀ q : Int, q ∈ s ↔ (0 ≤ q ∧ q < (pre ++ [x]).length) ∧ (decide (0 < atI marks q) && !ins.any (fun x => decide (x = q))) = true := fun h => by
        refine ⟨by simp; omega, fun q => ?_⟩
        rw [hi.2 q]
        constructor
        · rintro ⟨⟨u, v⟩, w⟩; exact ⟨⟨u, by simp; omega⟩, w⟩
        · rintro ⟨⟨u, v⟩, w⟩
          refine ⟨⟨u, ?_⟩, w⟩
          simp at v
          by_cases e : q = pre.length
          · rw [e, hat, h] at w; cases w
          · omega
      rw [z00j, if_pos (decide_eq_true d), b, Option.bind_some]
      by_cases h : 0 < x
      · rw [if_pos (decide_eq_true h), z11h _ hsl0, Option.bind_some, sym]
        by_cases h2 : ins.any (fun y => decide (y = (pre.length : Int))) = true
        · rw [if_pos h2, z001 g]
          exact ⟨s, no (by rw [h2]; simp), rfl⟩
        · rw [if_neg h2, z001 hsl, z001 g]
          refine ⟨_, ⟨by simp; exact hi.1, fun q => ?_⟩, rfl⟩
          rw [List.mem_append, List.mem_singleton, hi.2 q]
          constructor
          · rintro (⟨⟨u, v⟩, w⟩ | rfl)
            · exact ⟨⟨u, by simp; omega⟩, w⟩
            · exact ⟨⟨by omega, by simp; omega⟩, by rw [hat, Bool.eq_false_iff.2 h2]; simp [h]⟩
          · rintro ⟨⟨u, v⟩, w⟩
            simp at v
            by_cases e : q = pre.length
            · exact .inr e
            · exact .inl ⟨⟨u, by omega⟩, w⟩
      · rw [if_neg (by simpa using h), z001 g]
        exact ⟨s, no (by simp [h]), rfl⟩)
    [] ⟨by simp, fun q => by simp; omega⟩
  rw [e1]
  unfold z03g
  obtain ⟨s2, ⟨hl2, hv2⟩, e2⟩ := scanE busy (by have := M.busyl; unfold SMALL; omega) (z00k n busy (z01d n t ins marks) · (busy.length : Int) · ·) (z01d n t ins marks)
    (fun pre s => s.length ≤ s1.length + 3 * pre.length ∧ ∀ q : Int, q ∈ s ↔ q ∈ s1 ∨ ∃ b ∈ pre, ∃ f ∈ (atI n.tasks b.task).out, f.to = q)
    (fun f s => by rw [z00k, if_neg (by simp)])
    (fun f pre x suf s a b c d g hi => by
      have hb := M.busy x c
      have hxm := z05a n.tasks hb.1 hb.2
      have X := z09z M.net hxm
      have hxl := X.outl
      have hpl : pre.length ≤ 6 := by have := M.busyl; omega
      rw [z00k, if_pos (decide_eq_true d), b, Option.bind_some, z00r n.tasks hb.1 hb.2, Option.bind_some]
      obtain ⟨s3, ⟨hl3, hv3⟩, e3⟩ := scanE (atI n.tasks x.task).out (hn.2 _ hxm).2.1 (z01e (atI n.tasks x.task).out ((atI n.tasks x.task).out.length : Int) (z03h (busy.length : Int) pre.length (z00k n busy (z01d n t ins marks) f))) (z03h (busy.length : Int) pre.length (z00k n busy (z01d n t ins marks) f))
        (fun pr z => z.length ≤ s.length + pr.length ∧ ∀ q : Int, q ∈ z ↔ q ∈ s ∨ ∃ f ∈ pr, f.to = q)
        (fun f s => by rw [z01e, if_neg (by simp)])
        (fun f pr y sf z a2 b2 c2 d2 g2 hi2 => by
          rw [z01e, if_pos (decide_eq_true d2), b2, Option.bind_some, z001 (by have := hi.1; have := hi2.1; rw [List.length_singleton]; unfold SMALL; omega), z001 g2]
          refine ⟨_, ⟨by simp; have := hi2.1; omega, fun q => ?_⟩, rfl⟩
          rw [List.mem_append, List.mem_singleton, hi2.2 q]
          constructor
          · rintro ((h | ⟨f, hf, e⟩) | rfl)
            · exact .inl h
            · exact .inr ⟨f, by simp [hf], e⟩
            · exact .inr ⟨y, by simp, rfl⟩
          · rintro (h | ⟨f, hf, e⟩)
            · exact .inl (.inl h)
            · rw [List.mem_append, List.mem_singleton] at hf
              rcases hf with hf | rfl
              · exact .inl (.inr ⟨f, hf, e⟩)
              · exact .inr e.symm) s ⟨by simp, fun q => by simp⟩
      refine ⟨s3, ⟨by have := hi.1; rw [List.length_append, List.length_singleton]; omega, fun q => ?_⟩, ?_⟩
      · rw [hv3 q, hi.2 q]
        constructor
        · rintro ((h | ⟨b, hb, h⟩) | h)
          · exact .inl h
          · exact .inr ⟨b, by simp [hb], h⟩
          · exact .inr ⟨x, by simp, h⟩
        · rintro (h | ⟨b, hb, h⟩)
          · exact .inl (.inl h)
          · rw [List.mem_append, List.mem_singleton] at hb
            rcases hb with hb | rfl
            · exact .inl (.inr ⟨b, hb, h⟩)
            · exact .inr h
      · rw [e3]; unfold z03h; rw [z001 g])
    s1 ⟨by simp, fun q => by simp⟩
  rw [e2]
  unfold z01d
  have hmem : ∀ q : Int, q ∈ s2 ↔ (0 ≤ q ∧ q < n.places) ∧ srcB n marks busy ins q = true := fun q => by
    rw [hv2 q, hv1 q]
    unfold srcB
    rw [Bool.or_eq_true, List.any_eq_true, M.len]
    constructor
    · rintro (h | ⟨b, hb, f, hf, e⟩)
      · exact ⟨h.1, .inl h.2⟩
      · have hb2 := M.busy b hb
        have hto := z1s8 M.net (z05a n.tasks hb2.1 hb2.2) f hf
        exact ⟨by omega, .inr ⟨b, hb, by rw [List.any_eq_true]; exact ⟨f, hf, by simpa using e⟩⟩⟩
    · rintro ⟨h, h2 | ⟨b, hb, h2⟩⟩
      · exact .inl ⟨h, h2⟩
      · rw [List.any_eq_true] at h2
        obtain ⟨f, hf, e⟩ := h2
        exact .inr ⟨b, hb, f, hf, by simpa using e⟩
  have hin : ∀ p ∈ ins, 0 ≤ p ∧ p < n.places := fun p hp => by have := T.ins p (hins ▸ hp); omega
  have hs2 : s2.length ≤ SMALL := by have := M.busyl; unfold SMALL; omega
  have fin : z00y n t ins marks s2 (s2.length : Int) z06h FUEL 0 = some (s2.any (fun p => ins.any (fun q => decide (atI marks q = 0) && atB (iter t n.tasks n.places.toNat (oneT n.places.toNat p)) q))) :=
    scan0 s2 (by unfold SMALL at hs2; omega) (z00y n t ins marks s2 (s2.length : Int) z06h) (fun _ suf => some (suf.any (fun p => ins.any (fun q => decide (atI marks q = 0) && atB (iter t n.tasks n.places.toNat (oneT n.places.toNat p)) q))))
      (fun f => by rw [z00y, if_neg (by simp)]; rfl)
      (fun f pre x suf a b c d ih => by
        have hx := (hmem x).1 (by rw [a]; simp)
        rw [z00y, if_pos (decide_eq_true c), b, Option.bind_some, z1xr x t hn M.net hx.1.1 hx.1.2, Option.bind_some, z09g ins hsl0 _ (fun q => decide (atI marks q = 0) && atB (iter t n.tasks n.places.toNat (oneT n.places.toNat x)) q) (fun q hq => by
          have hq2 := hin q hq
          unfold z078
          rw [z00r marks hq2.1 (by omega), Option.bind_some, z0gw _ hq2.1 (by rw [z13j]; unfold oneT; rw [z0du]; simp; omega)]
          by_cases h : atI marks q = 0
          · rw [if_pos (decide_eq_true h)]; simp [h]
          · rw [if_neg (by simpa using h)]; simp [h]), Option.bind_some, z001 d, ih, List.any_cons]
        cases (ins.any fun q => decide (atI marks q = 0) && atB (iter t n.tasks n.places.toNat (oneT n.places.toNat x)) q) <;> simp)
  rw [fin]
  congr 1
  refine z228 ?_
  unfold Coming
  rw [hins, List.any_eq_true]
  constructor
  · rintro ⟨p, hp, h⟩
    rw [List.any_eq_true] at h
    obtain ⟨q, hq, h⟩ := h
    rw [Bool.and_eq_true, decide_eq_true_eq] at h
    have hp2 := (hmem p).1 hp
    exact ⟨q, hq, h.1, p, hp2.1, hp2.2, (z1sk M.net hp2.1.1 hp2.1.2 (hin q hq).1 (hin q hq).2).1 h.2⟩
  · rintro ⟨q, hq, h, p, hp, h2, h3⟩
    refine ⟨p, (hmem p).2 ⟨hp, h2⟩, ?_⟩
    rw [List.any_eq_true]
    exact ⟨q, hq, by rw [Bool.and_eq_true, decide_eq_true_eq]; exact ⟨h, (z1sk M.net hp.1 hp.2 (hin q hq).1 (hin q hq).2).2 h3⟩⟩
def someB (marks : List Int) (l : List Int) : Bool := l.any (fun p => decide (0 < atI marks p))
def allB (marks : List Int) (l : List Int) : Bool := l.all (fun p => decide (0 < atI marks p))
theorem z1w2 (marks l : List Int) (hs : l.length ≤ SMALL) (hp : ∀ p ∈ l, 0 ≤ p ∧ p < marks.length) : z0f4 marks l = some (someB marks l, allB marks l) := by
  unfold z0f4
  exact scan l (by unfold SMALL at hs; omega) (fun f i (s : Bool × Bool) => z01p marks l z09v f s.1 s.2 i) (fun _ suf s => some (s.1 || someB marks suf, s.2 && allB marks suf)) (fun _ _ => True)
    (fun f s _ => by rw [z01p, if_neg (by simp)]; simp [someB, allB, z09v])
    (fun f pre x suf s a b c d _ k => by
      obtain ⟨s1, s2⟩ := s
      have hx := hp x (by rw [a]; simp)
      have hg := z00r marks hx.1 hx.2
      have ih := fun u v => k (u, v) trivial
      show z01p marks l z09v (f + 1) s1 s2 (pre.length : Int) = some (s1 || someB marks (x :: suf), s2 && allB marks (x :: suf))
      rw [z01p, if_pos (decide_eq_true c)]
      simp only [b, hg, Option.bind_some, z001 d]
      dsimp only at ih
      simp only [ih, someB, allB, List.any_cons, List.all_cons]
      cases s1 <;> cases s2 <;> simp) FUEL (false, true) trivial (by have := z02j; unfold SMALL at hs; omega)
noncomputable def canB (n : GNet) (marks : List Int) (busy : List GItem) (t : Int) : Bool :=
  bif decide ((atI n.tasks t).join = 1) then allB marks (atI n.tasks t).in_ else bif decide ((atI n.tasks t).join = 2) then someB marks (atI n.tasks t).in_ else someB marks (atI n.tasks t).in_ && (allB marks (atI n.tasks t).in_ || !comB n marks busy t)
theorem z1zo {n : GNet} {marks : List Int} {busy : List GItem} {t : Int} (hn : n.small) (M : MB n marks busy) (t0 : 0 ≤ t) (t1 : t < n.tasks.length) : z0ho n marks busy t = some (canB n marks busy t) := by
  have hml := M.len
  have hg := z00r n.tasks t0 t1
  have hm := z05a n.tasks t0 t1
  have T := z09z M.net hm
  unfold z0ho canB
  rw [hg, Option.bind_some, z1w2 _ _ (hn.2 _ hm).1 (fun p hp => by have := T.ins p hp; omega), Option.bind_some, Option.bind_some, z1ll hn M t0 t1]
  by_cases h1 : (atI n.tasks t).join = 1
  · simp [h1]
  · by_cases h2 : (atI n.tasks t).join = 2
    · simp [h2]
    · simp only [h1, h2, decide_false, cond_false, Option.bind_some]
      cases someB marks (atI n.tasks t).in_ <;> cases allB marks (atI n.tasks t).in_ <;> simp
theorem z23x {n : GNet} {marks : List Int} {busy : List GItem} {t : Int} (hn : n.small) (M : MB n marks busy) (t0 : 0 ≤ t) (t1 : t < n.tasks.length) : z08o n marks busy t = some (canB n marks busy t) := by
  have hml := M.len
  have hg := z00r n.tasks t0 t1
  have hm := z05a n.tasks t0 t1
  have T := z09z M.net hm
  have hs := (hn.2 _ hm).1
  unfold z08o
  rw [hg, Option.bind_some]
  have := scan (atI n.tasks t).in_ (by unfold SMALL at hs; omega) (fun f i (s : Bool × Bool) => z00m marks (atI n.tasks t).in_ ((atI n.tasks t).in_.length : Int) (z029 n marks busy t) f s.1 i s.2)
    (fun _ suf s => z029 n marks busy t (s.1 && allB marks suf) (s.2 || someB marks suf)) (fun _ _ => True)
    (fun f s _ => by rw [z00m, if_neg (by simp)]; simp [someB, allB])
    (fun f pre x suf s a b c d _ k => by
      obtain ⟨s1, s2⟩ := s
      have hx := T.ins x (by rw [a]; simp)
      have hg := z00r marks hx.1 (by omega)
      have ih := fun u v => k (u, v) trivial
      show z00m marks (atI n.tasks t).in_ ((atI n.tasks t).in_.length : Int) (z029 n marks busy t) (f + 1) s1 (pre.length : Int) s2 = z029 n marks busy t (s1 && allB marks (x :: suf)) (s2 || someB marks (x :: suf))
      rw [z00m, if_pos (decide_eq_true c)]
      simp only [b, hg, Option.bind_some, z001 d]
      dsimp only at ih
      simp only [ih, someB, allB, List.any_cons, List.all_cons]
      cases s1 <;> cases s2 <;> simp) FUEL (true, false) trivial (by have := z02j; unfold SMALL at hs; omega)
  refine this.trans ?_
  unfold z029 canB
  rw [hg, Option.bind_some, z1oi hn M t0 t1]
  by_cases h1 : (atI n.tasks t).join = 1
  · simp [h1]
  · by_cases h2 : (atI n.tasks t).join = 2
    · simp [h2]
    · simp only [h1, h2, decide_false, cond_false, Option.bind_some]
      cases someB marks (atI n.tasks t).in_ <;> cases allB marks (atI n.tasks t).in_ <;> simp
noncomputable def enaB (n : GNet) (marks : List Int) (busy : List GItem) (t : Int) : Bool := mrkB n marks && (busyB n busy && (inB t 0 ((n.tasks.length : Int) - 1) && canB n marks busy t))
theorem z1vv (n : GNet) (marks : List Int) (busy : List GItem) (t : Int) (hn : n.small) (hm : marks.length ≤ SMALL) (hb : busy.length ≤ SMALL) : z0ex n marks busy t = some (enaB n marks busy t) := by
  unfold z0ex enaB
  rw [z0wg n marks hn hm, Option.bind_some]
  by_cases h1 : mrkB n marks = true
  case neg => rw [if_neg h1, Bool.eq_false_iff.2 h1]; rfl
  rw [if_pos h1, h1, z1aq n busy hn hb (z1dv h1), Option.bind_some]
  by_cases h2 : busyB n busy = true
  case neg => rw [if_neg h2, Bool.eq_false_iff.2 h2]; rfl
  rw [if_pos h2, h2, z001 (z0a0 hn.1), z054, Option.bind_some]
  by_cases h3 : inB t 0 ((n.tasks.length : Int) - 1) = true
  case neg => rw [if_neg h3, Bool.eq_false_iff.2 h3]; rfl
  have h3' := z01k.1 h3
  rw [if_pos h3, h3, z1zo hn (mb_of h1 h2) h3'.1 (by omega), Option.bind_some]; rfl
theorem z1ty (n : GNet) (marks : List Int) (busy : List GItem) (t : Int) (hn : n.small) (hm : marks.length ≤ SMALL) (hb : busy.length ≤ SMALL) : z0em n marks busy t = some (enaB n marks busy t) := by
  unfold z0em enaB
  rw [z13d n marks hn hm, Option.bind_some]
  by_cases h1 : mrkB n marks = true
  case neg => rw [if_neg h1, Bool.eq_false_iff.2 h1]; rfl
  rw [if_pos h1, h1, z19w n busy hn hb (z1dv h1), Option.bind_some]
  by_cases h2 : busyB n busy = true
  case neg => rw [if_neg h2, Bool.eq_false_iff.2 h2]; rfl
  rw [if_pos h2, h2, z0sb n t hn, Option.bind_some]
  by_cases h3 : inB t 0 ((n.tasks.length : Int) - 1) = true
  case neg => rw [if_neg h3, Bool.eq_false_iff.2 h3]; rfl
  have h3' := z01k.1 h3
  rw [if_pos h3, h3, z23x hn (mb_of h1 h2) h3'.1 (by omega), Option.bind_some]; rfl
def dec (l : List Int) (p : Int) : List Int := l.set p.toNat (atI l p - 1)
def takeL (join : Int) : List Int → List Int → List Int
  | [], l => l
  | p :: ps, l => if 0 < atI l p then (if join = 2 then dec l p else takeL join ps (dec l p)) else takeL join ps l
theorem z1x9 (l : List Int) (p : Int) : (dec l p).length = l.length := by simp [dec]
theorem z1fl (join : Int) : ∀ (ps l : List Int), (takeL join ps l).length = l.length
  | [], l => rfl
  | p :: ps, l => by
    unfold takeL
    split
    · split
      · exact z1x9 l p
      · rw [z1fl join ps, z1x9]
    · exact z1fl join ps l
theorem z23k {l : List Int} {p : Int} (h : capM 4 l) (hp : 0 < atI l p) (h0 : 0 ≤ p) (h1 : p < l.length) : capM 4 (dec l p) := fun x hx => by
  have hv := z1fr h h0 h1
  rcases List.mem_or_eq_of_mem_set hx with hx | rfl
  · exact h x hx
  · omega
theorem z1ss {β : Type} (join : Int) (ps : List Int) (hs : ps.length ≤ SMALL) (f : Nat → Int → List Int → Option β) (kx : List Int → Option β) (l0 : List Int) (hp : ∀ p ∈ ps, 0 ≤ p ∧ p < l0.length) (hc : capM 4 l0)
    (h0 : ∀ n s, f (n + 1) (ps.length : Int) s = kx s)
    (h1 : ∀ n i p s, getI ps i = some p → i < (ps.length : Int) → ok64 (i + 1) → getI s p = some (atI s p) → ok64 (atI s p - 1) → f (n + 1) i s = if decide (0 < atI s p) = true then (if decide (join = 2) = true then kx (dec s p) else f n (i + 1) (dec s p)) else f n (i + 1) s) :
    f FUEL 0 l0 = kx (takeL join ps l0) :=
  scan ps (by unfold SMALL at hs; omega) f (fun _ suf l => kx (takeL join suf l)) (fun _ l => l.length = l0.length ∧ capM 4 l) (fun n s hi => by rw [h0]; rfl)
    (fun n pre x suf s a b c d hi k => by
      have hx := hp x (by rw [a]; simp)
      have hx2 : x < s.length := by rw [hi.1]; exact hx.2
      have hv := z1fr hi.2 hx.1 hx2
      rw [h1 n _ x s b c d (z00r s hx.1 hx2) (by constructor <;> omega), takeL]
      by_cases h : 0 < atI s x
      · rw [if_pos (decide_eq_true h), if_pos h]
        by_cases h2 : join = 2
        · rw [if_pos (decide_eq_true h2), if_pos h2]
        · rw [if_neg (by simpa using h2), if_neg h2]
          exact k _ ⟨by rw [z1x9, hi.1], z23k hi.2 h hx.1 hx2⟩
      · rw [if_neg (by simpa using h), if_neg h]
        exact k _ hi) FUEL l0 ⟨rfl, hc⟩ (by have := z02j; unfold SMALL at hs; omega)
theorem z1qz (n : GNet) (marks : List Int) (t : Int) (hn : n.small) (hm : marks.length ≤ SMALL) : z0d4 n marks t = some (bif mrkB n marks && inB t 0 ((n.tasks.length : Int) - 1) then takeL (atI n.tasks t).join (atI n.tasks t).in_ marks else []) := by
  unfold z0d4
  rw [z0wg n marks hn hm, Option.bind_some]
  by_cases h1 : mrkB n marks = true
  case neg => rw [if_neg h1, Bool.eq_false_iff.2 h1]; rfl
  rw [if_pos h1, h1, z001 (z0a0 hn.1), z054, Option.bind_some]
  by_cases h3 : inB t 0 ((n.tasks.length : Int) - 1) = true
  case neg => rw [if_neg h3, Bool.eq_false_iff.2 h3]; rfl
  have h3' := z01k.1 h3
  obtain ⟨f1, f2, f3⟩ := z0gg h1
  have hg := z00r n.tasks h3'.1 (by omega)
  have ht := z05a n.tasks h3'.1 (by omega)
  have T := z09z f1 ht
  rw [if_pos h3, h3, z001 (by simpa using hm), List.nil_append]
  rw [z1ss (atI n.tasks t).join (atI n.tasks t).in_ (hn.2 _ ht).1 (z02x n t z0ip z0iq) (fun l => some l) marks (fun p hp => by have := T.ins p hp; omega) (z0w9.1 f3)
    (fun f s => by rw [z02x, hg, Option.bind_some, if_neg (by simp)]; rfl)
    (fun f i p s a b c d e => by
      rw [z02x, hg, Option.bind_some, if_pos (decide_eq_true b), Option.bind_some, a, Option.bind_some, d, Option.bind_some, Option.bind_some, z001 e, Option.bind_some, Option.bind_some]; simp only [z001 c]; rfl)]
  rfl
theorem z20t {n : GNet} {marks : List Int} {t : Int} (hn : n.small) (hm : marks.length ≤ SMALL) (h1 : mrkB n marks = true) (t0 : 0 ≤ t) (t1 : t < n.tasks.length) : z081 n marks t = some (takeL (atI n.tasks t).join (atI n.tasks t).in_ marks) := by
  unfold z081
  obtain ⟨f1, f2, f3⟩ := z0gg h1
  have hg := z00r n.tasks t0 t1
  have ht := z05a n.tasks t0 t1
  have T := z09z f1 ht
  rw [z02f _ hm, Option.bind_some, hg, Option.bind_some]
  exact z1ss (atI n.tasks t).join (atI n.tasks t).in_ (hn.2 _ ht).1 (z01i n t (atI n.tasks t).in_ ((atI n.tasks t).in_.length : Int) z0ci z0cj) (fun l => some l) marks (fun p hp => by have := T.ins p hp; omega) (z0w9.1 f3)
    (fun f s => by rw [z01i, if_neg (by simp)]; rfl)
    (fun f i p s a b c d e => by
      rw [z01i, if_pos (decide_eq_true b), a, Option.bind_some, d, Option.bind_some, Option.bind_some, z001 e, Option.bind_some, hg, Option.bind_some]; simp only [z001 c]; rfl)
end Go.Am.Pl
end
section
set_option maxRecDepth 100000
set_option linter.unusedVariables false
set_option linter.unusedSimpArgs false
namespace Go.Am.Pl
open Go
def bitB (x role : Int) : Bool := decide ((x / 2 ^ (role - 1).toNat) % 2 = 1)
def hasB (people : List Int) (who role : Int) : Bool := pplB people && (inB who 1 people.length && (inB role 1 3 && bitB (atI people (who - 1)) role))
theorem eight {x : Int} (h : 0 ≤ x ∧ x ≤ 7) : x = 0 ∨ x = 1 ∨ x = 2 ∨ x = 3 ∨ x = 4 ∨ x = 5 ∨ x = 6 ∨ x = 7 := by omega
theorem z24v {x role : Int} (hx : 0 ≤ x ∧ x ≤ 7) (hr : 1 ≤ role ∧ role ≤ 3) : z09s role z0mp FUEL x 1 = some (bitB x role) := by
  obtain ⟨f, hF⟩ : ∃ f, FUEL = f + 3 := ⟨FUEL - 3, by have := z02j; omega⟩
  rw [hF]
  have hr' : role = 1 ∨ role = 2 ∨ role = 3 := by omega
  rcases hr' with rfl | rfl | rfl <;> rcases eight hx with rfl | rfl | rfl | rfl | rfl | rfl | rfl | rfl <;> rfl
theorem z23w {x role : Int} (hx : 0 ≤ x ∧ x ≤ 7) (hr : 1 ≤ role ∧ role ≤ 3) : decide ((andI (shrI x (role - 1)) 1) = 1) = bitB x role := by
  have hr' : role = 1 ∨ role = 2 ∨ role = 3 := by omega
  rcases hr' with rfl | rfl | rfl <;> rcases eight hx with rfl | rfl | rfl | rfl | rfl | rfl | rfl | rfl <;> decide
theorem z1lg {p : List Int} (h : pplB p = true) : (1 ≤ p.length ∧ p.length ≤ 4) ∧ ∀ x ∈ p, 0 ≤ x ∧ x ≤ 7 := by
  simp only [pplB, Bool.and_eq_true, z01k, List.all_eq_true] at h
  exact ⟨by omega, h.2⟩
theorem z1vx (people : List Int) (who role : Int) (hl : people.length ≤ SMALL) : z0ez people who role = some (hasB people who role) := by
  unfold z0ez hasB
  rw [z16i _ hl, Option.bind_some]
  by_cases h1 : pplB people = true
  case neg => rw [if_neg h1, Bool.eq_false_iff.2 h1]; rfl
  rw [if_pos h1, h1, z054, Option.bind_some]
  by_cases h2 : inB who 1 people.length = true
  case neg => rw [if_neg h2, Bool.eq_false_iff.2 h2]; rfl
  rw [if_pos h2, h2, z054, Option.bind_some]
  by_cases h3 : inB role 1 3 = true
  case neg => rw [if_neg h3, Bool.eq_false_iff.2 h3]; rfl
  have h2' := z01k.1 h2
  have F := z1lg h1
  rw [if_pos h3, h3, z001 (by constructor <;> omega), z00r people (by omega) (by omega), Option.bind_some, z24v (F.2 _ (z05a people (by omega) (by omega))) (z01k.1 h3)]
  rfl
theorem z1u0 (people : List Int) (who role : Int) (hl : people.length ≤ SMALL) : z0eo people who role = some (hasB people who role) := by
  unfold z0eo hasB z0bv
  rw [z13e _ hl, Option.bind_some]
  by_cases h1 : pplB people = true
  case neg => rw [if_neg h1, Bool.eq_false_iff.2 h1]; rfl
  rw [if_pos h1, h1, z083, Option.bind_some]
  by_cases h2 : inB who 1 people.length = true
  case neg => rw [if_neg h2, Bool.eq_false_iff.2 h2]; rfl
  rw [if_pos h2, h2, z083, Option.bind_some, Option.bind_some]
  by_cases h3 : inB role 1 3 = true
  case neg => rw [if_neg h3, Bool.eq_false_iff.2 h3]; rfl
  have h2' := z01k.1 h2
  have h3' := z01k.1 h3
  have F := z1lg h1
  rw [if_pos h3, h3, z001 (by constructor <;> omega), z00r people (by omega) (by omega), Option.bind_some, z001 (by constructor <;> omega), z001 (by omega), z23w (F.2 _ (z05a people (by omega) (by omega))) (z01k.1 h3)]
  rfl
def doneD (did : List GDid) (who task : Int) : Bool := did.any (fun d => decide (d.who = who) && decide (d.task = task))
theorem z1vw (did : List GDid) (who task : Int) (hl : did.length ≤ SMALL) : z0ey did who task = some (doneD did who task) := by
  unfold z0ey doneD
  exact scan0 did (by unfold SMALL at hl; omega) (z03v did who task z0mo) (fun _ suf => some (suf.any (fun d => decide (d.who = who) && decide (d.task = task))))
    (fun f => by rw [z03v, if_neg (by simp)]; rfl)
    (fun f pre x suf a b c d ih => by
      rw [z03v, if_pos (decide_eq_true c)]
      simp only [b, Option.bind_some, z001 d, ih, List.any_cons]
      by_cases h1 : x.who = who <;> by_cases h2 : x.task = task <;> simp [h1, h2])
theorem z1tz (did : List GDid) (who task : Int) (hl : did.length ≤ SMALL) : z0en did who task = some (doneD did who task) := by
  have e : z0h7 did (GDid.mk task who) = some (anyIdx (fun d : GDid => decide (d.who = who) && decide (d.task = task)) did 0) := by
    unfold z0h7
    have := scan0 did (by unfold SMALL at hl; omega) (z06w did (GDid.mk task who) (did.length : Int) z0q4) (fun pre suf => some (anyIdx (fun d : GDid => decide (d.who = who) && decide (d.task = task)) suf pre.length))
      (fun f => by rw [z06w, if_neg (by simp)]; rfl)
      (fun f pre x suf a b c d ih => by
        rw [z06w, if_pos (decide_eq_true c), b, Option.bind_some, z001 d, ih, anyIdx]
        by_cases h1 : x.who = who <;> by_cases h2 : x.task = task
        · rw [if_pos (by simp [h1, h2]), if_pos (by simp [h1, h2])]
        · rw [if_neg (by simp [h1]; exact fun e => h2 e.symm), if_neg (by simp [h2])]; simp
        · rw [if_neg (by simp; exact fun _ e => h1 e.symm), if_neg (by simp [h1])]; simp
        · rw [if_neg (by simp; exact fun _ e => h1 e.symm), if_neg (by simp [h1])]; simp)
    simpa using this
  unfold z0en z0fv doneD
  rw [e, Option.bind_some, Option.bind_some, z07k _ did 0 (Int.le_refl _)]
def idxs (N : Nat) : List Int := (List.range N).map (fun i : Nat => (i : Int) + 1)
theorem z0sa (N : Nat) : (idxs N).length = N := by simp [idxs]
theorem z1xl {N : Nat} {i : Nat} {x : Int} (h : getI (idxs N) (i : Int) = some x) : x = (i : Int) + 1 := by
  rw [z08t] at h
  simp only [idxs, List.getElem?_map, Option.map_eq_some_iff] at h
  obtain ⟨j, hj, rfl⟩ := h
  rw [List.getElem?_eq_some_iff] at hj
  obtain ⟨h1, h2⟩ := hj
  rw [List.getElem_range] at h2
  omega
theorem z0x8 {α : Type} (q : α → Bool) : ∀ l : List α, l.flatMap (fun x => if q x = true then [x] else []) = l.filter q
  | [] => rfl
  | x :: l => by
    rw [List.flatMap_cons, z0x8 q l, List.filter_cons]
    split <;> simp
def nowB (busy : List GItem) (apart who : Int) : Bool := busy.any (fun b => decide (b.who = who) && decide (b.task = apart))
def mayW (n : GNet) (people : List Int) (did : List GDid) (busy : List GItem) (t who : Int) : Bool :=
  hasB people who (atI n.tasks t).role && (!nowB busy (atI n.tasks t).apart who && !doneD did who (atI n.tasks t).apart)
def mayB (n : GNet) (people : List Int) (did : List GDid) (busy : List GItem) (t : Int) : List Int :=
  bif netB n && (pplB people && inB t 0 ((n.tasks.length : Int) - 1)) then (idxs people.length).filter (mayW n people did busy t) else []
theorem z24w {n : GNet} {t : Int} (busy : List GItem) (who : Int) (kx : Bool → Option (List Int)) (hg : getI n.tasks t = some (atI n.tasks t)) (hb : busy.length ≤ SMALL) :
    z021 n busy t who kx FUEL false 0 = kx (nowB busy (atI n.tasks t).apart who) :=
  scan busy (by unfold SMALL at hb; omega) (fun f i s => z021 n busy t who kx f s i) (fun _ suf s => kx (s || nowB suf (atI n.tasks t).apart who)) (fun _ _ => True)
    (fun f s _ => by rw [z021, if_neg (by simp)]; simp [nowB])
    (fun f pre x suf s a b c d _ k => by
      have ih := fun u => k u trivial
      rw [z021, if_pos (decide_eq_true c)]
      simp only [b, hg, Option.bind_some, z001 d, ih, nowB, List.any_cons]
      cases s
      · by_cases h : x.who = who <;> simp [h]
      · simp) FUEL false trivial (by have := z02j; unfold SMALL at hb; omega)
theorem z1vy (n : GNet) (people : List Int) (did : List GDid) (busy : List GItem) (t : Int) (hn : n.small) (hp : people.length ≤ SMALL) (hd : did.length ≤ SMALL) (hb : busy.length ≤ SMALL) :
    z0f0 n people did busy t = some (mayB n people did busy t) := by
  unfold z0f0 mayB
  rw [z0wh n hn, Option.bind_some]
  by_cases h1 : netB n = true
  case neg => rw [if_neg h1, Bool.eq_false_iff.2 h1]; rfl
  rw [if_pos h1, h1, z16i _ hp, Option.bind_some]
  by_cases h2 : pplB people = true
  case neg => rw [if_neg h2, Bool.eq_false_iff.2 h2]; rfl
  rw [if_pos h2, h2, z001 (z0a0 hn.1), z054, Option.bind_some]
  by_cases h3 : inB t 0 ((n.tasks.length : Int) - 1) = true
  case neg => rw [if_neg h3, Bool.eq_false_iff.2 h3]; rfl
  have h3' := z01k.1 h3
  have hg := z00r n.tasks h3'.1 (by omega)
  rw [if_pos h3, h3]
  have := z1bg (idxs people.length) (by rw [z0sa]; exact hp) (fun w => if mayW n people did busy t w = true then [w] else []) (fun f i s => z05q n people did busy t z0do f (i + 1) s) z0do
    (fun f s => by rw [z05q, z0sa, if_neg (by simp; omega)])
    (fun f pre x suf s a b c d e i => by
      have hx := z1xl b
      rw [z0sa] at d
      have hs : s.length + [(pre.length : Int) + 1].length ≤ SMALL := by
        rw [i, List.length_singleton]
        have := z1cr (e := fun w => if mayW n people did busy t w = true then [w] else []) (fun x => by split <;> simp) pre
        unfold SMALL at hp ⊢; omega
      rw [z05q, if_pos (by simp; omega), z24w busy _ _ hg hb]
      unfold z0mq
      simp only [hg, Option.bind_some, z1vx _ _ _ hp, z1vw _ _ _ hd, z001 (show ok64 ((pre.length : Int) + 1 + 1) by unfold SMALL at hp; constructor <;> omega), z001 hs]
      subst hx
      unfold mayW
      cases hasB people ((pre.length : Int) + 1) (atI n.tasks t).role <;> cases nowB busy (atI n.tasks t).apart ((pre.length : Int) + 1) <;> cases doneD did ((pre.length : Int) + 1) (atI n.tasks t).apart <;> simp)
  refine this.trans ?_
  rw [z0x8]; rfl
theorem z1u1 (n : GNet) (people : List Int) (did : List GDid) (busy : List GItem) (t : Int) (hn : n.small) (hp : people.length ≤ SMALL) (hd : did.length ≤ SMALL) (hb : busy.length ≤ SMALL) :
    z0ep n people did busy t = some (mayB n people did busy t) := by
  unfold z0ep mayB z0hi
  rw [z0v8 n hn, Option.bind_some]
  by_cases h1 : netB n = true
  case neg => rw [if_neg h1, Bool.eq_false_iff.2 h1]; rfl
  rw [if_pos h1, h1, z0sb n t hn, Option.bind_some]
  by_cases h3 : inB t 0 ((n.tasks.length : Int) - 1) = true
  case neg => rw [if_neg h3, Bool.eq_false_iff.2 h3]; simp
  have h3' := z01k.1 h3
  have hg := z00r n.tasks h3'.1 (by omega)
  rw [if_pos h3, h3, hg, Option.bind_some, z13e _ hp, Option.bind_some]
  by_cases h2 : pplB people = true
  case neg => rw [if_neg h2, Bool.eq_false_iff.2 h2]; rfl
  rw [if_pos h2, h2]
  have hw : ∀ w : Int, z08b w busy (atI n.tasks t) people did = some (mayW n people did busy t w) := fun w => by
    unfold z08b mayW nowB
    rw [z0wy busy hb _ (fun b => decide (b.who = w) && decide (b.task = (atI n.tasks t).apart)) (fun x _ => by unfold z0c8; by_cases h : x.task = (atI n.tasks t).apart <;> simp [h]), Option.bind_some, z1u0 _ _ _ hp, Option.bind_some, z1tz _ _ _ hd, Option.bind_some]
    cases hasB people w (atI n.tasks t).role <;> cases (busy.any fun b => decide (b.who = w) && decide (b.task = (atI n.tasks t).apart)) <;> simp
  have := z1bg (idxs people.length) (by rw [z0sa]; exact hp) (fun w => if mayW n people did busy t w = true then [w] else []) (z02w (fun z => z08b z busy (atI n.tasks t) people did) (people.length : Int) z0ca) z0ca
    (fun f s => by rw [z02w, z0sa, if_neg (by simp)])
    (fun f pre x suf s a b c d e i => by
      have hx := z1xl b
      rw [z0sa] at d
      have hs : s.length + [(pre.length : Int) + 1].length ≤ SMALL := by
        rw [i, List.length_singleton]
        have := z1cr (e := fun w => if mayW n people did busy t w = true then [w] else []) (fun x => by split <;> simp) pre
        unfold SMALL at hp ⊢; omega
      rw [z02w, if_pos (decide_eq_true d)]
      simp only [z001 e, z001 hs, hw, Option.bind_some]
      subst hx
      cases mayW n people did busy t ((pre.length : Int) + 1) <;> simp)
  rw [this, z0x8]; rfl
theorem z1xv (n : GNet) (people : List Int) (did : List GDid) (busy : List GItem) (t : Int) : (mayB n people did busy t).length ≤ people.length := by
  unfold mayB
  cases netB n && (pplB people && inB t 0 ((n.tasks.length : Int) - 1))
  · simp
  · show ((idxs people.length).filter _).length ≤ _
    have := List.length_filter_le (mayW n people did busy t) (idxs people.length)
    rw [z0sa] at this; exact this
noncomputable def startOk (n : GNet) (people : List Int) (c : GCase) (t who : Int) : Bool :=
  casB n c && (decide (c.state = 1) && (enaB n c.marks c.busy t && ((mayB n people c.did c.busy t).any (fun x => decide (x = who)) && !decide ((c.busy.length : Int) = 6))))
def begun (n : GNet) (c : GCase) (t who : Int) : GCase := GCase.mk c.state (takeL (atI n.tasks t).join (atI n.tasks t).in_ c.marks) (c.busy ++ [GItem.mk t who 0]) c.data c.did
noncomputable def startB (n : GNet) (people : List Int) (c : GCase) (t who : Int) : GCase × Bool := bif startOk n people c t who then (begun n c t who, true) else (c, false)
theorem z1ro {n : GNet} {m : List Int} {busy : List GItem} {t : Int} (h : enaB n m busy t = true) : mrkB n m = true ∧ busyB n busy = true ∧ (0 ≤ t ∧ t < n.tasks.length) := by
  simp only [enaB, Bool.and_eq_true, z01k] at h
  exact ⟨h.1, h.2.1, by omega⟩
theorem z1li (n : GNet) (people : List Int) (c : GCase) (t who : Int) (hn : n.small) (hp : people.length ≤ SMALL) (hc : c.small) : z0bg n people c t who = some (startB n people c t who) := by
  unfold z0bg startB startOk
  rw [z0oq c hc, Option.bind_some, z0we n c hn hc, Option.bind_some]
  by_cases h1 : casB n c = true
  case neg => rw [if_neg h1, Bool.eq_false_iff.2 h1]; rfl
  rw [if_pos h1, h1]
  by_cases h2 : c.state = 1
  case neg => rw [if_neg (by simpa using h2), decide_eq_false h2]; rfl
  rw [if_pos (decide_eq_true h2), decide_eq_true h2, z1vv n c.marks c.busy t hn hc.1 hc.2.1, Option.bind_some]
  by_cases h3 : enaB n c.marks c.busy t = true
  case neg => rw [if_neg h3, Bool.eq_false_iff.2 h3]; rfl
  rw [if_pos h3, h3, z1vy n people c.did c.busy t hn hp hc.2.2.2 hc.2.1, Option.bind_some, z16k _ _ (Nat.le_trans (z1xv ..) hp), Option.bind_some]
  by_cases h4 : (mayB n people c.did c.busy t).any (fun x => decide (x = who)) = true
  case neg => rw [if_neg h4, Bool.eq_false_iff.2 h4]; rfl
  rw [if_pos h4, h4]
  by_cases h5 : (c.busy.length : Int) = 6
  · rw [if_pos (decide_eq_true h5), decide_eq_true h5]; rfl
  obtain ⟨g1, g2, g3⟩ := z1ro h3
  have F := z0g4 h1
  rw [if_neg (by simpa using h5), decide_eq_false h5, z1qz n c.marks t hn hc.1, Option.bind_some, z001 (by have := F.busyl; rw [List.length_singleton]; unfold SMALL; omega), g1, z01k.2 (show 0 ≤ t ∧ t ≤ (n.tasks.length : Int) - 1 by omega)]
  rfl
theorem z16o (n : GNet) (people : List Int) (c : GCase) (t who : Int) : (startB n people c t who).1.marks.length = c.marks.length ∧ ((startB n people c t who).1.busy.length ≤ c.busy.length ∨ (startB n people c t who).1.busy.length ≤ 7) ∧
    (startB n people c t who).1.data.length = c.data.length ∧ (startB n people c t who).1.did.length = c.did.length := by
  unfold startB
  cases e : startOk n people c t who
  · exact ⟨rfl, .inl (Nat.le_refl _), rfl, rfl⟩
  · unfold startOk at e
    rw [Bool.and_eq_true] at e
    have F := z0g4 e.1
    have := F.busyl
    exact ⟨z1fl _ _ _, .inr (by show (c.busy ++ [GItem.mk t who 0]).length ≤ 7; rw [List.length_append, List.length_singleton]; omega), rfl, rfl⟩
theorem z1r5 (n : GNet) (people : List Int) (c : GCase) (t who : Int) (hc : c.small) : (startB n people c t who).1.small := by
  obtain ⟨a, b, d, e⟩ := z16o n people c t who
  exact ⟨by rw [a]; exact hc.1, by rcases b with b | b; exact Nat.le_trans b hc.2.1; exact Nat.le_trans b (by unfold SMALL; omega), by rw [d]; exact hc.2.2.1, by rw [e]; exact hc.2.2.2⟩
theorem z1is (n : GNet) (people : List Int) (c : GCase) (t who : Int) (hn : n.small) (hp : people.length ≤ SMALL) (hc : c.small) : z0bc n people c t who = some (startB n people c t who) := by
  have hsm := z1r5 n people c t who hc
  unfold z0bc startB startOk
  rw [z098 c hc, Option.bind_some, z0sc n c hn hc, Option.bind_some]
  by_cases h1 : casB n c = true
  case neg => rw [Bool.eq_false_iff.2 h1]; rfl
  rw [h1]
  by_cases h2 : c.state = 1
  case neg => rw [decide_eq_false h2]; rfl
  rw [decide_eq_true h2, if_pos (by rfl)]
  by_cases h5 : (c.busy.length : Int) = 6
  · rw [if_pos (decide_eq_true h5), decide_eq_true h5]; simp
  rw [if_neg (by simpa using h5), decide_eq_false h5, z1ty n c.marks c.busy t hn hc.1 hc.2.1, Option.bind_some]
  by_cases h3 : enaB n c.marks c.busy t = true
  case neg => rw [if_neg h3, Bool.eq_false_iff.2 h3]; rfl
  have sym : (mayB n people c.did c.busy t).any (fun x => decide (who = x)) = (mayB n people c.did c.busy t).any (fun x => decide (x = who)) := by congr 1; funext y; exact decide_eq_decide.2 ⟨Eq.symm, Eq.symm⟩
  rw [if_pos h3, h3, z1u1 n people c.did c.busy t hn hp hc.2.2.2 hc.2.1, Option.bind_some, z11h _ (Nat.le_trans (z1xv ..) hp), Option.bind_some, sym]
  by_cases h4 : (mayB n people c.did c.busy t).any (fun x => decide (x = who)) = true
  case neg => rw [if_neg h4, Bool.eq_false_iff.2 h4]; rfl
  obtain ⟨g1, g2, g3⟩ := z1ro h3
  have F := z0g4 h1
  have e : startB n people c t who = (begun n c t who, true) := by unfold startB startOk; rw [h1, decide_eq_true h2, h3, h4, decide_eq_false h5]; rfl
  rw [e] at hsm
  rw [if_pos h4, h4, z20t hn hc.1 g1 g3.1 g3.2, Option.bind_some, z001 (by have := F.busyl; rw [List.length_singleton]; unfold SMALL; omega)]
  show (z007 (begun n c t who)).bind _ = _
  rw [z098 _ hsm, Option.bind_some]; rfl
end Go.Am.Pl
end
section
set_option maxRecDepth 100000
set_option linter.unusedVariables false
set_option linter.unusedSimpArgs false
namespace Go.Am.Pl
open Go
def Bnd (c d : GCase) : Prop := d.marks.length ≤ c.marks.length ∧ (d.busy.length ≤ c.busy.length ∨ d.busy.length ≤ 7) ∧ d.data.length ≤ c.data.length ∧ (d.did.length ≤ c.did.length ∨ d.did.length ≤ 61)
theorem Bnd.refl (c : GCase) : Bnd c c := ⟨Nat.le_refl _, .inl (Nat.le_refl _), Nat.le_refl _, .inl (Nat.le_refl _)⟩
theorem Bnd.trans {a b c : GCase} (h1 : Bnd a b) (h2 : Bnd b c) : Bnd a c := by
  obtain ⟨p, q, r, s⟩ := h1
  obtain ⟨t, u, v, w⟩ := h2
  exact ⟨by omega, by omega, by omega, by omega⟩
theorem Bnd.small {c d : GCase} (h : Bnd c d) (hc : c.small) : d.small := by
  obtain ⟨p, q, r, s⟩ := h
  obtain ⟨t, u, v, w⟩ := hc
  unfold SMALL at *
  exact ⟨by unfold SMALL; omega, by unfold SMALL; omega, by unfold SMALL; omega, by unfold SMALL; omega⟩
theorem Bnd.lens {c d : GCase} (h : Bnd c d) (hc : GCase.lens (· ≤ 1048576) c) : GCase.lens (· ≤ 1048576) d := by
  obtain ⟨p, q, r, s⟩ := h
  obtain ⟨t, u, v, w⟩ := hc
  exact ⟨by show _ ≤ _; omega, by show _ ≤ _; omega, by show _ ≤ _; omega, by show _ ≤ _; omega⟩
theorem z21n (n : GNet) (c : GCase) (k v num : Int) : Bnd c (workB n c k v num).1 := by
  unfold workB
  cases e : casB n c && (decide (c.state = 1) && (inB k 0 ((c.busy.length : Int) - 1) && (inB v (-1) 2 && (inB num (-99) 99 && !decide ((c.did.length : Int) = 60)))))
  · exact Bnd.refl c
  · rw [Bool.and_eq_true] at e
    have F := z0g4 e.1
    have h60 := F.didl
    have hg := z1rx n c.marks (atI c.busy k).task (datB c.data v num)
    have hd : (datB c.data v num).length ≤ c.data.length := by rw [z1bc]; exact Nat.le_refl _
    show Bnd c (doneB n c k (datB c.data v num)).1
    unfold doneB
    split
    · exact ⟨Nat.le_refl _, .inl (by simp), hd, .inl (Nat.le_refl _)⟩
    · split
      · split
        · exact ⟨hg, .inl (Nat.zero_le _), hd, .inr (by simp; omega)⟩
        · exact ⟨hg, .inl (by simp; omega), hd, .inr (by simp; omega)⟩
      · exact Bnd.refl c
theorem z1zr (n : GNet) (people : List Int) (c : GCase) (t who : Int) : Bnd c (startB n people c t who).1 := by
  obtain ⟨a, b, d, e⟩ := z16o n people c t who
  exact ⟨by omega, b, by omega, .inl (by omega)⟩
end Go.Am.Pl
end
