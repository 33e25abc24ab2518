/- Plain laws. Own work. -/
import Derived.Test.YtgolgnbgomhknaaGreatDvC2
set_option maxRecDepth 100000
set_option linter.unusedVariables false
set_option linter.unusedSimpArgs false
set_option maxHeartbeats 2000000
section
namespace Go.Am.Pl
open Go
theorem w06 {α : Type} (pre : List α) (x : α) (suf : List α) : getI (pre ++ x :: suf) (pre.length : Int) = some x := by
  rw [zc9]; simp
theorem scan {α β σ : Type} (l : List α) (hl : l.length ≤ 4611686018427387000) (f : Nat → Int → σ → Option β) (g : List α → List α → σ → Option β) (Inv : List α → σ → Prop)
    (h0 : ∀ n s, Inv l s → f (n + 1) (l.length : Int) s = g l [] s)
    (h1 : ∀ n pre x suf s, l = pre ++ x :: suf → getI l (pre.length : Int) = some x → ((pre.length : Int) < (l.length : Int)) → ok64 ((pre.length : Int) + 1) → Inv pre s →
      (∀ s', Inv (pre ++ [x]) s' → f n ((pre.length : Int) + 1) s' = g (pre ++ [x]) suf s') → f (n + 1) (pre.length : Int) s = g pre (x :: suf) s) :
    ∀ n s, Inv [] s → l.length < n → f n 0 s = g [] l s := by
  have key : ∀ suf pre n s, l = pre ++ suf → Inv pre s → suf.length < n → f n (pre.length : Int) s = g pre suf s := by
    intro suf
    induction suf with
    | nil =>
      intro pre n s hp hi hn
      obtain ⟨m, rfl⟩ : ∃ m, n = m + 1 := ⟨n - 1, by simp at hn; omega⟩
      simp only [List.append_nil] at hp
      subst hp
      exact h0 m s hi
    | cons x suf ih =>
      intro pre n s hp hi hn
      obtain ⟨m, rfl⟩ : ∃ m, n = m + 1 := ⟨n - 1, by simp at hn; omega⟩
      have hlen : l.length = pre.length + suf.length + 1 := by rw [hp]; simp; omega
      refine h1 m pre x suf s hp (by rw [hp]; exact w06 pre x suf) (by omega) (by constructor <;> omega) hi ?_
      intro s' hi'
      have := ih (pre ++ [x]) m s' (by rw [hp]; simp) hi' (by simp at hn; omega)
      rw [← this]; simp
  intro n s hi hn
  exact key l [] n s (by simp) hi hn
theorem scan0 {α β : Type} (l : List α) (hl : l.length ≤ 4611686018427387000) (f : Nat → Int → Option β) (g : List α → List α → Option β)
    (h0 : ∀ n, f (n + 1) (l.length : Int) = g l [])
    (h1 : ∀ n pre x suf, l = pre ++ x :: suf → getI l (pre.length : Int) = some x → ((pre.length : Int) < (l.length : Int)) → ok64 ((pre.length : Int) + 1) →
      f n ((pre.length : Int) + 1) = g (pre ++ [x]) suf → f (n + 1) (pre.length : Int) = g pre (x :: suf)) :
    f FUEL 0 = g [] l :=
  scan l hl (fun n i (_ : Unit) => f n i) (fun a b _ => g a b) (fun _ _ => True) (fun n s _ => h0 n) (fun n pre x suf s a b c d e k => h1 n pre x suf a b c d (k () trivial)) FUEL () trivial (by have := z1v; omega)
def inB (n a b : Int) : Bool := decide (a ≤ n ∧ n ≤ b)
theorem z3t (n a b : Int) : z07 n a b = some (inB n a b) := by
  unfold z07 inB; by_cases h : a ≤ n <;> simp [h]
theorem z6j (n a b : Int) : z0t n a b = some (inB n a b) := by
  unfold z0t inB; by_cases h : a ≤ n <;> simp [h]
theorem iteB (a b : Bool) : (if a = true then some b else some false) = some (a && b) := by cases a <;> rfl
theorem iteN (a b : Bool) : (if a = true then some false else some b) = some (!a && b) := by cases a <;> rfl
def anyIdx {α : Type} (q : α → Bool) : List α → Int → Int
  | [], _ => -1
  | x :: l, i => if q x then i else anyIdx q l (i + 1)
theorem z65 {α : Type} (q : α → Bool) : ∀ (l : List α) (i : Int), 0 ≤ i → (decide (0 ≤ anyIdx q l i)) = l.any q
  | [], i, _ => by simp [anyIdx]
  | x :: l, i, h => by
    by_cases hx : q x = true
    · simp [anyIdx, hx, h]
    · simp [anyIdx, hx, z65 q l (i + 1) (by omega)]
theorem w4n (s : List Int) (hs : s.length ≤ SMALL) (p : Int → Option Bool) (q : Int → Bool) (hp : ∀ x ∈ s, p x = some (q x)) : zd4 s p = some (anyIdx q s 0) := by
  unfold zd4
  have := scan0 s (by unfold SMALL at hs; omega) (z3v s p (s.length : Int) zy2) (fun pre suf => some (anyIdx q suf pre.length))
    (fun n => by rw [z3v, if_neg (by simp)]; rfl)
    (fun n pre x suf hl hg hlt hok ih => by
      rw [z3v, if_pos (zT hlt), hg, zB, hp x (by rw [hl]; simp), zB, z01 hok, ih, anyIdx]
      by_cases hx : q x = true
      · rw [if_pos hx, if_pos hx]
      · rw [if_neg hx, if_neg hx]; simp)
  simpa using this
theorem z6o (s : List Int) (hs : s.length ≤ SMALL) (p : Int → Option Bool) (q : Int → Bool) (hp : ∀ x ∈ s, p x = some (q x)) : z1o s p = some (s.any q) := by
  unfold z1o
  rw [w4n s hs p q hp, zB, z65 q s 0 (Int.le_refl _)]
theorem yb3 (s : List GTask) (hs : s.length ≤ SMALL) (p : GTask → Option Bool) (q : GTask → Bool) (hp : ∀ x ∈ s, p x = some (q x)) : z68 s p = some (anyIdx q s 0) := by
  unfold z68
  have := scan0 s (by unfold SMALL at hs; omega) (z26 s p (s.length : Int) zb8) (fun pre suf => some (anyIdx q suf pre.length))
    (fun n => by rw [z26, if_neg (by simp)]; rfl)
    (fun n pre x suf hl hg hlt hok ih => by
      rw [z26, if_pos (zT hlt), hg, zB, hp x (by rw [hl]; simp), zB, z01 hok, ih, anyIdx]
      by_cases hx : q x = true
      · rw [if_pos hx, if_pos hx]
      · rw [if_neg hx, if_neg hx]; simp)
  simpa using this
theorem y56 (s : List GTask) (hs : s.length ≤ SMALL) (p : GTask → Option Bool) (q : GTask → Bool) (hp : ∀ x ∈ s, p x = some (q x)) : z4i s p = some (s.any q) := by
  unfold z4i
  rw [yb3 s hs p q hp, zB, z65 q s 0 (Int.le_refl _)]
theorem yb2 (s : List GItem) (hs : s.length ≤ SMALL) (p : GItem → Option Bool) (q : GItem → Bool) (hp : ∀ x ∈ s, p x = some (q x)) : z67 s p = some (anyIdx q s 0) := by
  unfold z67
  have := scan0 s (by unfold SMALL at hs; omega) (z25 s p (s.length : Int) zb7) (fun pre suf => some (anyIdx q suf pre.length))
    (fun n => by rw [z25, if_neg (by simp)]; rfl)
    (fun n pre x suf hl hg hlt hok ih => by
      rw [z25, if_pos (zT hlt), hg, zB, hp x (by rw [hl]; simp), zB, z01 hok, ih, anyIdx]
      by_cases hx : q x = true
      · rw [if_pos hx, if_pos hx]
      · rw [if_neg hx, if_neg hx]; simp)
  simpa using this
theorem y55 (s : List GItem) (hs : s.length ≤ SMALL) (p : GItem → Option Bool) (q : GItem → Bool) (hp : ∀ x ∈ s, p x = some (q x)) : z4h s p = some (s.any q) := by
  unfold z4h
  rw [yb2 s hs p q hp, zB, z65 q s 0 (Int.le_refl _)]
theorem wl8 (s : List Int) (hs : s.length ≤ SMALL) (v : Int) : y5u s v = some (anyIdx (fun x => decide (v = x)) s 0) := by
  unfold y5u
  have := scan0 s (by unfold SMALL at hs; omega) (z7d s v (s.length : Int) y8h) (fun pre suf => some (anyIdx (fun x => decide (v = x)) suf pre.length))
    (fun n => by rw [z7d, if_neg (by simp)]; rfl)
    (fun n pre x suf hl hg hlt hok ih => by
      rw [z7d, if_pos (zT hlt), hg, zB, z01 hok, ih, anyIdx]
      by_cases hx : decide (v = x) = true
      · rw [if_pos hx, if_pos hx]
      · rw [if_neg hx, if_neg hx]; simp)
  simpa using this
theorem y6j (s : List Int) (hs : s.length ≤ SMALL) (v : Int) : z7c s v = some (s.any (fun x => decide (v = x))) := by
  unfold z7c
  rw [wl8 s hs, zB, z65 _ s 0 (Int.le_refl _)]
def datOk (l : List Int) : Bool := decide (l.length = 3) && l.all (fun x => inB x (-99) 99)
theorem zq7 (l : List Int) (hl : l.length ≤ SMALL) : z52 l = some (datOk l) := by
  unfold z52 datOk
  have := scan0 l (by unfold SMALL at hl; omega) (z4t l y1o) (fun _ suf => some (suf.all (fun x => inB x (-99) 99)))
    (fun n => by rw [z4t, if_neg (by simp)]; rfl)
    (fun n pre x suf hl hg hlt hok ih => by
      rw [z4t, if_pos (zT hlt), hg, zB, z3t, zB, z01 hok, ih, iteB, List.all_cons])
  rw [this]
  rw [iteB]
  congr 2
  exact decide_eq_decide.2 (by omega)
theorem y1c (n : Int) : z5m n = some (inB n (-99) 99) := by unfold z5m; rw [z6j]; rfl
theorem zt6 {α : Type} (l : List α) (q : α → Bool) : (!l.any (fun x => !q x)) = l.all q := by
  induction l with
  | nil => rfl
  | cons x l ih => rw [List.any_cons, List.all_cons, ← ih]; cases q x <;> simp
theorem y2v (l : List Int) (hl : l.length ≤ SMALL) : z5w l = some (datOk l) := by
  unfold z5w datOk
  rw [z6o l hl _ (fun n => !inB n (-99) 99) (fun x _ => by unfold zm3; rw [y1c]; rfl), zB, zt6, iteB]
  congr 2
  exact decide_eq_decide.2 (by omega)
def expOk (e : GAsk) : Bool := bif decide (e.op = 0) then decide (e.var = 0) && decide (e.k = 0) else inB e.op 1 3 && inB e.var 0 2 && inB e.k (-99) 99
theorem yv4 (e : GAsk) : z7h e = some (expOk e) := by
  unfold z7h expOk
  simp only [z3t, zB, iteB]
  by_cases h : e.op = 0
  · simp [h]
  · simp [h, Bool.and_assoc]
theorem yu5 (e : GAsk) : z7e e = some (expOk e) := by
  unfold z7e expOk
  simp only [z6j, y1c, zB, iteB]
  by_cases h : e.op = 0
  · simp [h]
  · simp [h, Bool.and_assoc]
end Go.Am.Pl
end
section
namespace Go.Am.Pl
open Go
def asc (high : Int) : Int → List Int → Bool
  | _, [] => true
  | p, x :: l => inB x (p + 1) high && asc high x l
def ascS (low high : Int) : Option Int → List Int → Bool
  | _, [] => true
  | p, x :: l => inB x low high && (p.all (fun y => decide (y < x)) && ascS low high (some x) l)
theorem w6a (low high : Int) : ∀ (l : List Int) (p : Option Int), (∀ y, p = some y → low ≤ y) → ascS low high p l = asc high (p.getD (low - 1)) l
  | [], p, _ => rfl
  | x :: l, p, h => by
    simp only [ascS, asc]
    by_cases hx : low ≤ x
    · rw [w6a low high l (some x) (fun y hy => by cases hy; exact hx), ← Bool.and_assoc]
      congr 1
      cases p with
      | none => simp [inB]
      | some y => have := h y rfl; rw [Bool.eq_iff_iff]; simp [inB]; omega
    · have h1 : inB x low high = false := by simp [inB]; omega
      have h2 : inB x (p.getD (low - 1) + 1) high = false := by
        cases p with
        | none => simp [inB]; omega
        | some y => have := h y rfl; simp [inB]; omega
      rw [h1, h2]; rfl
theorem w8b (high : Int) : ∀ (l : List Int) (p : Int), p ≤ high → asc high p l = true → (l.length : Int) ≤ high - p
  | [], p, h, _ => by simp; omega
  | x :: l, p, h, ha => by
    simp only [asc, zA, inB, zE] at ha
    have := w8b high l x ha.1.2 ha.2
    simp only [zC]; omega
theorem w92 {α : Type} (pre : List α) (y : α) (suf : List α) : getI (pre ++ y :: suf) ((((pre ++ [y]).length : Nat) : Int) - 1) = some y := by
  have : ((((pre ++ [y]).length : Nat) : Int) - 1) = (pre.length : Int) := by simp
  rw [this]; exact w06 pre y suf
theorem y8p (l : List Int) (least most low high : Int) (hl : l.length ≤ SMALL) : z6x l least most low high = some (inB l.length least most && asc high (low - 1) l) := by
  unfold z6x
  have := scan0 l (by unfold SMALL at hl; omega) (z2k l low high zq2) (fun pre suf => some (ascS low high pre.getLast? suf))
    (fun n => by rw [z2k, if_neg (by simp)]; rfl)
    (fun n pre x suf hl hg hlt hok ih => by
      rw [z2k, if_pos (zT hlt), hg]
      simp only [zB, z3t, z01 hok, ih]
      rw [ascS]
      by_cases hx : inB x low high = true
      · rw [if_pos hx, hx, Bool.true_and]
        rcases List.eq_nil_or_concat pre with rfl | ⟨pre', y, rfl⟩
        · simp
        · simp only [List.concat_eq_append] at hl hlt hg hok ih ⊢
          have h1 : (((pre' ++ [y]).length : Nat) : Int) = (pre'.length : Int) + 1 := by simp
          have h2 : getI l ((((pre' ++ [y]).length : Nat) : Int) - 1) = some y := by rw [hl, List.append_assoc]; exact w92 pre' y _
          rw [if_pos (zT (by omega)), z01 (by constructor <;> omega), h2]
          simp only [zB]
          by_cases hy : x ≤ y
          · rw [if_pos (zT hy)]; simp; omega
          · rw [if_neg (by simpa using hy)]; simp; omega
      · rw [if_neg hx, zF.2 hx]; rfl)
  rw [this, z3t, zB, iteB, w6a low high l _ (fun y hy => by simp at hy)]
  rfl
theorem y7v (l : List Int) (k : Int) (hl : l.length ≤ SMALL) : z7j l k = some (l.any (fun x => decide (x = k))) := by
  unfold z7j
  exact scan0 l (by unfold SMALL at hl; omega) (z4z l k y1s) (fun _ suf => some (suf.any (fun x => decide (x = k))))
    (fun n => by rw [z4z, if_neg (by simp)]; rfl)
    (fun n pre x suf hl hg hlt hok ih => by
      rw [z4z, if_pos (zT hlt), hg, zB, z01 hok, ih, List.any_cons]
      by_cases hx : x = k <;> simp [hx])
def ascW (high : Int) (w : List Int) : Int → List Int → Bool
  | _, [] => true
  | p, x :: l => inB x (p + 1) high && (!w.any (fun y => decide (x = y)) && ascW high w x l)
theorem yw2 (high : Int) (w : List Int) : ∀ (l : List Int) (p : Int), ascW high w p l = (asc high p l && !l.any (fun x => w.any (fun y => decide (x = y))))
  | [], p => rfl
  | x :: l, p => by
    simp only [ascW, asc, List.any_cons, yw2 high w l x]
    cases inB x (p + 1) high <;> cases w.any (fun y => decide (x = y)) <;> cases asc high x l <;> cases l.any (fun x => w.any (fun y => decide (x = y))) <;> rfl
theorem y8d (l : List Int) (places : Int) (w : List Int) (hl : l.length ≤ SMALL) (hw : w.length ≤ SMALL) (hp : 0 ≤ places ∧ places ≤ 100) :
    z6t l places w = some (ascW (places - 1) w (-1) l) := by
  unfold z6t
  have := scan l (by unfold SMALL at hl; omega) (fun n i s => z3o l places w (l.length : Int) zp4 n i s) (fun _ suf s => some (ascW (places - 1) w s suf)) (fun _ s => -1 ≤ s ∧ s ≤ 100)
    (fun n s _ => by rw [z3o, if_neg (by simp)]; rfl)
    (fun n pre x suf s hl hg hlt hok hi ih => by
      rw [z3o, if_pos (zT hlt), hg, zB, z01 (by constructor <;> omega), z01 (by constructor <;> omega), z6j, zB, y6j w hw, zB, z01 hok, ascW]
      by_cases hx : inB x (s + 1) (places - 1) = true
      · have hx' : s + 1 ≤ x ∧ x ≤ places - 1 := by simpa [inB] using hx
        rw [if_pos hx, hx, Bool.true_and, ih x ⟨by omega, by omega⟩, iteN]
      · rw [if_neg hx, zF.2 hx]; rfl) FUEL (-1) ⟨by omega, by omega⟩ (by have := z1v; unfold SMALL at hl; omega)
  exact this
theorem z78 {α : Type} {l : List α} (h : l.length ≤ SMALL) : ok64 ((l.length : Int) - 1) := by unfold SMALL at h; constructor <;> omega
theorem ok_pl {places : Int} (hp : 0 ≤ places ∧ places ≤ 100) : ok64 (places - 1) := by constructor <;> omega
def flowsB (t : GTask) (places : Int) : List GFlow → List GFlow → Bool
  | _, [] => true
  | pre, x :: suf => inB x.to 1 (places - 1) && (expOk x.if_ && (((decide (t.split = 1) || suf.isEmpty) == decide (x.if_.op = 0)) && (!pre.any (fun y => decide (y.to = x.to)) && flowsB t places (pre ++ [x]) suf)))
theorem w93 {α : Type} {l pre suf : List α} {k : Int} {x : α} (hl : l = pre ++ suf) (h : getI pre k = some x) : getI l k = some x := by
  obtain ⟨h0, h1, h2⟩ := zf4 h
  unfold getI; rw [if_pos h0, hl, List.getElem?_append_left h1]; exact h2
theorem yt5 (t : GTask) (pre suf : List GFlow) (hl : t.out = pre ++ suf) (hs : t.out.length ≤ SMALL) (x : GFlow) (i : Int) (hi : i = pre.length) (kx : Option Bool) :
    z1s t i x kx FUEL 0 = if (pre.any fun y => decide (y.to = x.to)) = true then some false else kx := by
  subst hi
  have hp : pre.length ≤ 4611686018427387000 := by have := congrArg List.length hl; simp at this; unfold SMALL at hs; omega
  exact scan0 pre hp (z1s t pre.length x kx) (fun _ suf => if (suf.any fun y => decide (y.to = x.to)) = true then some false else kx)
    (fun n => by rw [z1s, if_neg (by simp)]; rfl)
    (fun n p y s hl' hg hlt hok ih => by
      rw [z1s, if_pos (zT hlt), w93 hl hg, zB, z01 hok, ih, List.any_cons]
      by_cases hx : y.to = x.to <;> simp [hx])
theorem y1d {α : Type} {l pre suf : List α} {x : α} (h : l = pre ++ x :: suf) : (decide ((pre.length : Int) = (l.length : Int) - 1)) = suf.isEmpty := by
  rw [h]
  cases suf with
  | nil => simp
  | cons y s => simp; omega
theorem w4c (t : GTask) (places : Int) (hs : t.out.length ≤ SMALL) (hp : 0 ≤ places ∧ places ≤ 100) : z9s t places = some (inB t.out.length 1 3 && flowsB t places [] t.out) := by
  unfold z9s
  have := scan0 t.out (by unfold SMALL at hs; omega) (z2j t places zq1) (fun pre suf => some (flowsB t places pre suf))
    (fun n => by rw [z2j, if_neg (by simp)]; rfl)
    (fun n pre x suf hl hg hlt hok ih => by
      rw [z2j, if_pos (zT hlt), hg, zB, z01 (z78 hs), y1d hl, flowsB]
      simp only [z01 (ok_pl hp), z3t, yv4, zB, yt5 t pre _ hl hs x _ rfl, zp9, zq0, z01 hok, ih]
      cases suf.isEmpty <;> cases inB x.to 1 (places - 1) <;> cases expOk x.if_ <;> cases decide (x.if_.op = 0) <;> cases decide (t.split = 1) <;> cases (pre.any fun y => decide (y.to = x.to)) <;> simp)
  rw [this, z3t, zB, iteB]
theorem w7g (t : GTask) (places : Int) (hs : t.out.length ≤ SMALL) (hp : 0 ≤ places ∧ places ≤ 100) : z4j t places = some (flowsB t places [] t.out && inB t.out.length 1 3) := by
  unfold z4j
  have := scan t.out (by unfold SMALL at hs; omega) (fun n i s => z0x t places t.out (t.out.length : Int) (z58 t) n i s) (fun pre suf _ => some (flowsB t places pre suf && inB t.out.length 1 3)) (fun pre s => ∀ k, k ∈ s ↔ k = 0 ∨ ∃ y ∈ pre, y.to = k)
    (fun n s _ => by rw [z0x, if_neg (by simp), z58, z6j]; rfl)
    (fun n pre x suf s hl hg hlt hok hi ih => by
      have ih' := ih (insKey s x.to) (by
        intro k
        simp only [zP, List.mem_singleton]
        unfold insKey
        split
        · rename_i hin
          rw [hi k]
          constructor
          · rintro (h | ⟨y, hy, h⟩)
            · exact .inl h
            · exact .inr ⟨y, .inl hy, h⟩
          · rintro (h | ⟨y, hy | hy, h⟩)
            · exact .inl h
            · exact .inr ⟨y, hy, h⟩
            · subst hy; rw [← h]; exact (hi _).1 hin
        · rw [zP, List.mem_singleton, hi k]
          constructor
          · rintro ((h | ⟨y, hy, h⟩) | h)
            · exact .inl h
            · exact .inr ⟨y, .inl hy, h⟩
            · exact .inr ⟨x, .inr rfl, h.symm⟩
          · rintro (h | ⟨y, hy | hy, h⟩)
            · exact .inl (.inl h)
            · exact .inl (.inr ⟨y, hy, h⟩)
            · subst hy; exact .inr h.symm)
      rw [z0x, if_pos (zT hlt), hg, zB, y1d hl, flowsB]
      simp only [z01 (z78 hs), z01 (ok_pl hp), z6j, yu5, zB, z01 hok, ih']
      have hin : (decide (x.to ∈ s)) = (decide (x.to = 0) || pre.any fun y => decide (y.to = x.to)) := by
        rw [Bool.eq_iff_iff]; simp [hi x.to]
      rw [hin]
      have h01 : inB x.to 0 (places - 1) = (inB x.to 1 (places - 1) || (decide (x.to = 0) && decide (0 ≤ places - 1))) := by rw [Bool.eq_iff_iff]; simp [inB]; omega
      have h02 : x.to = 0 → inB x.to 1 (places - 1) = false := by intro h; simp [inB, h]
      rw [h01]
      by_cases hz : x.to = 0
      · rw [h02 hz]; simp [hz]
      · simp only [hz, decide_false, Bool.false_and, Bool.or_false, Bool.false_or]
        cases suf.isEmpty <;> cases inB x.to 1 (places - 1) <;> cases expOk x.if_ <;> cases decide (x.if_.op = 0) <;> by_cases hsp : t.split = 1 <;> cases (pre.any fun y => decide (y.to = x.to)) <;> simp [hsp]) FUEL (insKey [] 0) (by intro k; simp [insKey]) (by have := z1v; unfold SMALL at hs; omega)
  exact this
def taskB (t : GTask) (places tasks : Int) : Bool :=
  inB t.join 1 3 && (inB t.split 1 3 && ((inB t.in_.length 1 3 && asc (places - 1) (-1) t.in_) && (!t.in_.any (fun x => decide (x = 1)) && ((inB t.out.length 1 3 && flowsB t places [] t.out) &&
    ((inB t.clear.length 0 places && asc (places - 1) 1 t.clear) && (inB t.role 1 3 && (inB t.apart (-1) (tasks - 1) && (inB t.all 1 3 && inB t.need 1 t.all))))))))
end Go.Am.Pl
namespace Go.Am
def GTask.small (t : GTask) : Prop := t.in_.length ≤ SMALL ∧ t.out.length ≤ SMALL ∧ t.clear.length ≤ SMALL
end Go.Am
namespace Go.Am.Pl
theorem w5u (t : GTask) (places tasks : Int) (hs : t.small) (hp : 0 ≤ places ∧ places ≤ 100) (ht : 0 ≤ tasks ∧ tasks ≤ SMALL) : ze7 t places tasks = some (taskB t places tasks) := by
  obtain ⟨h1, h2, h3⟩ := hs
  unfold ze7 taskB
  have ht' : ok64 (tasks - 1) := by unfold SMALL at ht; constructor <;> omega
  simp only [z3t, zB, z01 (ok_pl hp), z01 ht', y8p _ _ _ _ _ h1, y8p _ _ _ _ _ h3, y7v _ _ h1, w4c t places h2 hp, iteB, iteN]
  rfl
theorem wg1 (places : Int) (hp : 0 ≤ places) (l : List Int) : ascW (places - 1) [0, 1] (-1) l = (inB l.length 0 places && asc (places - 1) 1 l) := by
  rw [yw2]
  have key : ∀ (l : List Int) (p : Int), 1 ≤ p → (asc (places - 1) p l && !l.any (fun x => [0, 1].any (fun y => decide (x = y)))) = asc (places - 1) p l := by
    intro l
    induction l with
    | nil => intro p _; rfl
    | cons x l ih =>
      intro p hp'
      by_cases hx : inB x (p + 1) (places - 1) = true
      · have hx' : p + 1 ≤ x := by simp [inB] at hx; omega
        have h01 : ([0, 1].any fun y => decide (x = y)) = false := by simp; omega
        simp only [asc, hx, Bool.true_and, List.any_cons (l := l), h01, Bool.false_or]
        exact ih x (by omega)
      · simp only [asc, zF.2 hx, Bool.false_and]
  cases l with
  | nil => simp [asc, inB]; exact hp
  | cons x l =>
    by_cases hx : inB x 2 (places - 1) = true
    · have hx' : 2 ≤ x ∧ x ≤ places - 1 := by simpa [inB] using hx
      have h01 : ([0, 1].any fun y => decide (x = y)) = false := by simp; omega
      have h1 : inB x (-1 + 1) (places - 1) = true := by simp [inB]; omega
      have h2 : inB x (1 + 1) (places - 1) = true := by simp [inB]; omega
      simp only [asc, h1, h2, Bool.true_and, List.any_cons (l := l), h01, Bool.false_or, key l x (by omega)]
      cases ha : asc (places - 1) x l with
      | false => simp
      | true =>
        have := w8b (places - 1) l x (by omega) ha
        simp [inB]; omega
    · have h2 : inB x (1 + 1) (places - 1) = false := zF.2 hx
      simp only [asc, h2, Bool.false_and, Bool.and_false]
      by_cases h1 : inB x (-1 + 1) (places - 1) = true
      · have h01 : ([0, 1].any fun y => decide (x = y)) = true := by simp [inB] at hx h1 ⊢; omega
        simp only [List.any_cons (l := l), h01, Bool.true_or, Bool.not_true, Bool.and_false]
      · rw [zF.2 h1]; rfl
theorem in_eq (places : Int) (l : List Int) : ascW (places - 1) [1] (-1) l = (asc (places - 1) (-1) l && !l.any (fun x => decide (x = 1))) := by
  rw [yw2]; simp
theorem wn7 (t : GTask) (places tasks : Int) (hs : t.small) (hp : 0 ≤ places ∧ places ≤ 100) (ht : 0 ≤ tasks ∧ tasks ≤ SMALL) : z6b t places tasks = some (taskB t places tasks) := by
  obtain ⟨h1, h2, h3⟩ := hs
  unfold z6b taskB
  have ht' : ok64 (tasks - 1) := by unfold SMALL at ht; constructor <;> omega
  simp only [zd9, z86, z6j, zB, z01 ht', y8d _ _ [1] h1 (by unfold SMALL; decide) hp, y8d _ _ [0, 1] h3 (by unfold SMALL; decide) hp, w7g t places h2 hp, iteB, in_eq, wg1 places hp.1]
  congr 1
  generalize inB t.join 1 3 = a; generalize inB t.split 1 3 = b; generalize inB t.in_.length 1 3 = c; generalize asc (places - 1) (-1) t.in_ = d; generalize t.in_.any (fun x => decide (x = 1)) = e
  generalize flowsB t places [] t.out = f; generalize inB t.out.length 1 3 = g; generalize (inB t.clear.length 0 places && asc (places - 1) 1 t.clear) = h
  cases a <;> cases b <;> cases c <;> cases d <;> cases e <;> cases f <;> cases g <;> simp
def netB (n : GNet) : Bool := inB n.places 2 8 && (inB n.tasks.length 1 6 && n.tasks.all (fun t => taskB t n.places n.tasks.length))
end Go.Am.Pl
namespace Go.Am
def GNet.small (n : GNet) : Prop := n.tasks.length ≤ SMALL ∧ ∀ t ∈ n.tasks, t.small
end Go.Am
namespace Go.Am.Pl
theorem y32 (n : GNet) (hs : n.small) : z31 n = some (netB n) := by
  unfold z31 netB
  simp only [z3t, zB]
  by_cases hp : inB n.places 2 8 = true
  · have hp' : 0 ≤ n.places ∧ n.places ≤ 100 := by simp [inB] at hp; omega
    have := scan0 n.tasks (by have := hs.1; unfold SMALL at this; omega) (z4w n y1q) (fun _ suf => some (suf.all (fun t => taskB t n.places n.tasks.length)))
      (fun k => by rw [z4w, if_neg (by simp)]; rfl)
      (fun k pre x suf hl hg hlt hok ih => by
        rw [z4w, if_pos (zT hlt), hg, zB, w5u x _ _ (hs.2 x (by rw [hl]; simp)) hp' ⟨by omega, by exact_mod_cast hs.1⟩, zB, z01 hok, ih, iteB, List.all_cons])
    rw [this, if_pos hp, hp, iteB, Bool.true_and]
  · rw [if_neg hp, zF.2 hp]; rfl
theorem yu6 (n : GNet) (hs : n.small) : za1 n = some (netB n) := by
  unfold za1 netB zm7
  simp only [z6j, zB, iteB]
  by_cases hp : inB n.places 2 8 = true
  · have hp' : 0 ≤ n.places ∧ n.places ≤ 100 := by simp [inB] at hp; omega
    rw [y56 n.tasks hs.1 _ (fun t => !taskB t n.places n.tasks.length) (fun t ht => by
      unfold zm4; rw [wn7 t _ _ (hs.2 t ht) hp' ⟨by omega, by exact_mod_cast hs.1⟩]; rfl), zB, zt6, iteB, hp]
    rfl
  · rw [zF.2 hp]; rfl
end Go.Am.Pl
end
section
namespace Go.Am.Pl
open Go
deriving instance Inhabited for GAsk, GFlow, GTask, GNet, GItem, GDid, GCase, GNode, GRun, GHouse, GReq
theorem w07 {α : Type} (l : List α) {i : Int} (h0 : 0 ≤ i) (h1 : i < l.length) : ∃ x, getI l i = some x ∧ x ∈ l := by
  obtain ⟨n, rfl⟩ := Int.eq_ofNat_of_zero_le h0
  have hn : n < l.length := by omega
  exact ⟨l[n], by rw [zc9, List.getElem?_eq_getElem hn], List.getElem_mem hn⟩
def atI {α : Type} [Inhabited α] (l : List α) (i : Int) : α := (getI l i).getD default
theorem z16 {α : Type} [Inhabited α] (l : List α) {i : Int} (h0 : 0 ≤ i) (h1 : i < l.length) : getI l i = some (atI l i) := by
  obtain ⟨x, hx, _⟩ := w07 l h0 h1
  unfold atI; rw [hx]; rfl
theorem z4l {α : Type} [Inhabited α] (l : List α) {i : Int} (h0 : 0 ≤ i) (h1 : i < l.length) : atI l i ∈ l := by
  obtain ⟨x, hx, hm⟩ := w07 l h0 h1
  unfold atI; rw [hx]; exact hm
theorem z1e {n a b : Int} : inB n a b = true ↔ a ≤ n ∧ n ≤ b := by simp [inB]
def expHolds (e : GAsk) (data : List Int) : Bool :=
  expOk e && (datOk data && (bif decide (e.op = 1) then decide (atI data e.var < e.k) else bif decide (e.op = 2) then decide (atI data e.var = e.k) else bif decide (e.op = 3) then decide (e.k < atI data e.var) else true))
theorem w24 {e : GAsk} {data : List Int} (h : expOk e = true) (hd : datOk data = true) : e.op = 0 ∨ getI data e.var = some (atI data e.var) := by
  by_cases h0 : e.op = 0
  · exact .inl h0
  · right
    simp [expOk, h0, inB] at h
    simp [datOk] at hd
    exact z16 data (by omega) (by omega)
theorem w1h (e : GAsk) (data : List Int) (hl : data.length ≤ SMALL) : z8b e data = some (expHolds e data) := by
  unfold z8b expHolds
  rw [yv4, zB, zq7 data hl]
  by_cases h1 : expOk e = true
  · by_cases h2 : datOk data = true
    · rcases w24 h1 h2 with h | h
      · simp [h1, h2, h]
      · rw [if_pos h1, zB, if_pos h2, h1, h2, h]
        by_cases a : e.op = 1 <;> by_cases b : e.op = 2 <;> by_cases c : e.op = 3 <;> simp [a, b, c]
    · simp [h1, zF.2 h2]
  · simp [zF.2 h1]
theorem w0c (e : GAsk) (data : List Int) (hl : data.length ≤ SMALL) : z83 e data = some (expHolds e data) := by
  unfold z83 expHolds
  rw [yu5, zB, y2v data hl]
  by_cases h1 : expOk e = true
  · by_cases h2 : datOk data = true
    · rcases w24 h1 h2 with h | h
      · simp [h1, h2, h]
      · rw [if_pos h1, zB, if_pos h2, h1, h2, h]
        by_cases a : e.op = 1 <;> by_cases b : e.op = 2 <;> by_cases c : e.op = 3 <;> simp [a, b, c]
    · simp [h1, zF.2 h2]
  · simp [zF.2 h1]
def marksB (n : GNet) (m : List Int) : Bool := decide ((m.length : Int) = n.places) && m.all (fun x => inB x 0 4)
def mrkB (n : GNet) (m : List Int) : Bool := netB n && marksB n m
theorem y31 (n : GNet) (m : List Int) (hn : n.small) (hm : m.length ≤ SMALL) : z60 n m = some (mrkB n m) := by
  unfold z60 mrkB marksB
  have := scan0 m (by unfold SMALL at hm; omega) (z4v m y1p) (fun _ suf => some (suf.all (fun x => inB x 0 4)))
    (fun k => by rw [z4v, if_neg (by simp)]; rfl)
    (fun k pre x suf hl hg hlt hok ih => by
      rw [z4v, if_pos (zT hlt), hg, zB, z3t, zB, z01 hok, ih, iteB, List.all_cons])
  rw [this, y32 n hn, zB, iteB, iteB]
theorem y8e (n : GNet) (m : List Int) (hm : m.length ≤ SMALL) : z30 n m = some (marksB n m) := by
  unfold z30 marksB
  rw [z6o m hm _ (fun x => !inB x 0 4) (fun x _ => by unfold z56; rw [z6j]; rfl), zB, zt6, iteB]
theorem y2w (n : GNet) (m : List Int) (hn : n.small) (hm : m.length ≤ SMALL) : z5x n m = some (mrkB n m) := by
  unfold z5x mrkB
  rw [yu6 n hn, zB, y8e n m hm, zB, iteB]
def pplB (p : List Int) : Bool := inB p.length 1 4 && p.all (fun x => inB x 0 7)
theorem y7u (m : List Int) (hm : m.length ≤ SMALL) : z7i m = some (pplB m) := by
  unfold z7i pplB
  have := scan0 m (by unfold SMALL at hm; omega) (z4x m y1r) (fun _ suf => some (suf.all (fun x => inB x 0 7)))
    (fun k => by rw [z4x, if_neg (by simp)]; rfl)
    (fun k pre x suf hl hg hlt hok ih => by
      rw [z4x, if_pos (zT hlt), hg, zB, z3t, zB, z01 hok, ih, iteB, List.all_cons])
  rw [this, z3t, zB, iteB]
theorem y78 (m : List Int) (hm : m.length ≤ SMALL) : z7f m = some (pplB m) := by
  unfold z7f pplB
  rw [z6j, zB, z6o m hm _ (fun x => !inB x 0 7) (fun x _ => by unfold zm5; rw [z6j]; rfl), zB, zt6, iteB]
def itemB (n : GNet) (b : GItem) : Bool := inB b.task 0 ((n.tasks.length : Int) - 1) && (inB b.who 1 4 && inB b.did 0 ((atI n.tasks b.task).need - 1))
def busyB (n : GNet) (busy : List GItem) : Bool := decide ((busy.length : Int) ≤ 6) && busy.all (itemB n)
theorem w3d {n : GNet} (h : netB n = true) {t : GTask} (ht : t ∈ n.tasks) : 1 ≤ t.need ∧ t.need ≤ 3 := by
  simp only [netB, zA, zV] at h
  have := h.2.2 t ht
  simp only [taskB, zA, z1e] at this
  omega
theorem yk9 (n : GNet) (busy : List GItem) (hn : n.small) (hb : busy.length ≤ SMALL) (ho : netB n = true) : z8m n busy = some (busyB n busy) := by
  unfold z8m busyB
  have := scan0 busy (by unfold SMALL at hb; omega) (z43 n busy zz0) (fun _ suf => some (suf.all (itemB n)))
    (fun k => by rw [z43, if_neg (by simp)]; rfl)
    (fun k pre x suf hl hg hlt hok ih => by
      rw [z43, if_pos (zT hlt), hg]
      simp only [zB, z01 (z78 hn.1), z3t, List.all_cons, itemB]
      by_cases h1 : inB x.task 0 ((n.tasks.length : Int) - 1) = true
      · have h1' := z1e.1 h1
        have hmem := z4l n.tasks h1'.1 (by omega)
        have hneed := w3d ho hmem
        rw [if_pos h1, z16 n.tasks h1'.1 (by omega), zB, z01 (by constructor <;> omega), z01 hok, ih, h1]
        cases inB x.who 1 4 <;> cases inB x.did 0 ((atI n.tasks x.task).need - 1) <;> simp
      · rw [if_neg h1, zF.2 h1]; rfl)
  rw [this]
  by_cases h6 : 6 < (busy.length : Int)
  · rw [if_pos (zT h6), decide_eq_false (by omega)]; rfl
  · rw [if_neg (by simpa using h6), zT (by omega)]; rfl
theorem y4q (n : GNet) (busy : List GItem) (hn : n.small) (hb : busy.length ≤ SMALL) (ho : netB n = true) : z27 n busy = some (busyB n busy) := by
  unfold z27 busyB
  have := scan0 busy (by unfold SMALL at hb; omega) (z1f n busy (busy.length : Int) (z84 busy)) (fun _ suf => some (suf.all (itemB n) && decide ((busy.length : Int) ≤ 6)))
    (fun k => by rw [z1f, if_neg (by simp)]; rfl)
    (fun k pre x suf hl hg hlt hok ih => by
      rw [z1f, if_pos (zT hlt), hg]
      simp only [z0g, z5z, zB, z01 (z78 hn.1), z6j, List.all_cons, itemB]
      by_cases h1 : inB x.task 0 ((n.tasks.length : Int) - 1) = true
      · have h1' := z1e.1 h1
        have hmem := z4l n.tasks h1'.1 (by omega)
        have hneed := w3d ho hmem
        rw [if_pos h1, z16 n.tasks h1'.1 (by omega), zB, z01 (by constructor <;> omega), z01 hok, ih, h1]
        cases inB x.who 1 4 <;> cases inB x.did 0 ((atI n.tasks x.task).need - 1) <;> simp
      · rw [if_neg h1, zF.2 h1]; rfl)
  rw [this, Bool.and_comm]
def didB (n : GNet) (d : GDid) : Bool := inB d.task 0 ((n.tasks.length : Int) - 1) && inB d.who 1 4
def stateB (c : GCase) : Bool := bif decide (c.state = 1) then decide (atI c.marks 1 = 0) else decide ((c.busy.length : Int) = 0) && (decide (c.state = 2) == decide (0 < atI c.marks 1))
def casB (n : GNet) (c : GCase) : Bool := mrkB n c.marks && (busyB n c.busy && (datOk c.data && (!decide (60 < (c.did.length : Int)) && (inB c.state 1 3 && (c.did.all (didB n) && stateB c)))))
end Go.Am.Pl
namespace Go.Am
def GCase.small (c : GCase) : Prop := c.marks.length ≤ SMALL ∧ c.busy.length ≤ SMALL ∧ c.data.length ≤ SMALL ∧ c.did.length ≤ SMALL
end Go.Am
namespace Go.Am.Pl
theorem y5v {n : GNet} {m : List Int} (h : mrkB n m = true) : netB n = true := by simp only [mrkB, zA] at h; exact h.1
theorem w6l {n : GNet} {m : List Int} (h : mrkB n m = true) : getI m 1 = some (atI m 1) := by
  simp only [mrkB, netB, marksB, zA, z1e, zE] at h
  exact z16 m (by omega) (by omega)
theorem y7t (n : GNet) (c : GCase) (hn : n.small) (hc : c.small) : z7g n c = some (casB n c) := by
  obtain ⟨hc1, hc2, hc3, hc4⟩ := hc
  unfold z7g casB
  rw [y31 n c.marks hn hc1, zB]
  by_cases h1 : mrkB n c.marks = true
  · have ho := y5v h1
    have hk : z88 c = some (stateB c) := by
      unfold z88 stateB
      rw [w6l h1]
      by_cases hs : c.state = 1
      · simp [hs]
      · by_cases hb : c.busy = [] <;> simp [hs, hb]
    have := scan0 c.did (by unfold SMALL at hc4; omega) (z4r n c (z88 c)) (fun _ suf => some (suf.all (didB n) && stateB c))
      (fun k => by rw [z4r, if_neg (by simp), hk]; rfl)
      (fun k pre x suf hl hg hlt hok ih => by
        rw [z4r, if_pos (zT hlt), hg]
        simp only [zB, z01 (z78 hn.1), z3t, List.all_cons, didB, z01 hok, ih]
        cases inB x.task 0 ((n.tasks.length : Int) - 1) <;> cases inB x.who 1 4 <;> simp)
    rw [if_pos h1, yk9 n c.busy hn hc2 ho, zB, zq7 c.data hc3, zB, z3t, zB, this, h1]
    simp only [iteB, iteN]
    rfl
  · rw [if_neg h1, zF.2 h1]; rfl
theorem w7e (n : GNet) (c : GCase) (hn : n.small) (hc : c.small) : zi8 n c = some (casB n c) := by
  obtain ⟨hc1, hc2, hc3, hc4⟩ := hc
  unfold zi8 casB
  rw [y2w n c.marks hn hc1, zB]
  by_cases h1 : mrkB n c.marks = true
  · have ho := y5v h1
    have hk : z7y c = some (inB c.state 1 3 && stateB c) := by
      unfold z7y stateB
      rw [w6l h1]
      by_cases hs : c.state = 1
      · simp [hs, inB]
      · by_cases hs2 : c.state = 2
        · by_cases hb : c.busy = [] <;> simp [hs2, hb, inB]
        · by_cases hs3 : c.state = 3
          · by_cases hb : c.busy = [] <;> simp [hs3, hb, inB]
          · have : inB c.state 1 3 = false := by simp [inB]; omega
            simp [hs, hs2, hs3, this]
    have := scan0 c.did (by unfold SMALL at hc4; omega) (z4n n c.did (c.did.length : Int) (z7y c)) (fun _ suf => some (suf.all (didB n) && (inB c.state 1 3 && stateB c)))
      (fun k => by rw [z4n, if_neg (by simp), hk]; rfl)
      (fun k pre x suf hl hg hlt hok ih => by
        rw [z4n, if_pos (zT hlt), hg]
        simp only [z0g, z5z, zB, z01 (z78 hn.1), z6j, List.all_cons, didB, z01 hok, ih]
        cases inB x.task 0 ((n.tasks.length : Int) - 1) <;> cases inB x.who 1 4 <;> simp)
    rw [if_pos h1, y4q n c.busy hn hc2 ho, zB, y2v c.data hc3, zB, this, h1]
    simp only [iteB, iteN]
    congr 1
    cases busyB n c.busy <;> cases datOk c.data <;> cases c.did.all (didB n) <;> cases inB c.state 1 3 <;> simp
  · rw [if_neg h1, zF.2 h1]; rfl
theorem w7y {t : GTask} (h : GTask.lens (· ≤ 1048576) t) : t.small := by
  obtain ⟨a, b, c⟩ := h; unfold GTask.small SMALL; omega
theorem wb6 {n : GNet} (h : GNet.lens (· ≤ 1048576) n) : n.small := ⟨by have := h.1; dsimp only at this; unfold SMALL; omega, fun t ht => w7y (h.2 t ht)⟩
theorem w7x {c : GCase} (h : GCase.lens (· ≤ 1048576) c) : c.small := by
  obtain ⟨a, b, c, d⟩ := h; unfold GCase.small SMALL; omega
end Go.Am.Pl
end
section
namespace Go.Am.Pl
open Go
def Tot {α : Type} (o : Option α) (P : α → Prop) : Prop := ∃ v, o = some v ∧ P v
section
variable {α β : Type}
theorem Tot.pure {v : α} {P : α → Prop} (h : P v) : Tot (some v) P := ⟨v, rfl, h⟩
theorem Tot.bind {o : Option α} {P : α → Prop} (h : Tot o P) {f : α → Option β} {Q : β → Prop} (g : ∀ v, P v → Tot (f v) Q) : Tot (o.bind f) Q := by
  obtain ⟨v, rfl, hv⟩ := h; exact g v hv
theorem Tot.bindE {o : Option α} {v : α} (h : o = some v) {f : α → Option β} {Q : β → Prop} (g : Tot (f v) Q) : Tot (o.bind f) Q := by rw [h]; exact g
theorem Tot.gd {p : Prop} [Decidable p] {x : Option α} {Q : α → Prop} (h : p) (g : Tot x Q) : Tot (gd p x) Q := by rw [z01 h]; exact g
theorem Tot.ite {c : Prop} [Decidable c] {a b : Option α} {Q : α → Prop} (h1 : c → Tot a Q) (h2 : ¬ c → Tot b Q) : Tot (if c then a else b) Q := by
  split
  · exact h1 ‹_›
  · exact h2 ‹_›
theorem Tot.iteD {c : Prop} [Decidable c] {a b : Option α} {Q : α → Prop} (h1 : c → Tot a Q) (h2 : ¬ c → Tot b Q) : Tot (if decide c = true then a else b) Q :=
  Tot.ite (fun h => h1 (of_decide_eq_true h)) (fun h => h2 (fun x => h (zT x)))
theorem Tot.iteN {c : Prop} [Decidable c] {a b : Option α} {Q : α → Prop} (h1 : ¬ c → Tot a Q) (h2 : c → Tot b Q) : Tot (if (!decide c) = true then a else b) Q :=
  Tot.ite (fun h => h1 (by simpa using h)) (fun h => h2 (by simpa using h))
theorem Tot.mono {o : Option α} {P Q : α → Prop} (h : Tot o P) (g : ∀ v, P v → Q v) : Tot o Q := by obtain ⟨v, e, hv⟩ := h; exact ⟨v, e, g v hv⟩
theorem Tot.getI {l : List α} {i : Int} (h0 : 0 ≤ i) (h1 : i < l.length) {f : α → Option β} {Q : β → Prop} (g : ∀ x, x ∈ l → getI l i = some x → Tot (f x) Q) : Tot ((getI l i).bind f) Q := by
  obtain ⟨x, hx, hm⟩ := w07 l h0 h1
  rw [hx]; exact g x hm hx
theorem Tot.loop {σ : Type} (I : σ → Prop) (mu : σ → Nat) (f : Nat → σ → Option β) {Q : β → Prop} (step : ∀ n s, I s → (∀ s', I s' → mu s' < mu s → Tot (f n s') Q) → Tot (f (n + 1) s) Q) : ∀ (k n : Nat) (s : σ), mu s ≤ k → k < n → I s → Tot (f n s) Q
  | 0, n, s, hm, hn, hi => by
    obtain ⟨m, rfl⟩ : ∃ m, n = m + 1 := ⟨n - 1, by omega⟩
    exact step m s hi fun s' _ h => absurd h (by omega)
  | k + 1, n, s, hm, hn, hi => by
    obtain ⟨m, rfl⟩ : ∃ m, n = m + 1 := ⟨n - 1, by omega⟩
    exact step m s hi fun s' hi' h => Tot.loop I mu f step k m s' (by omega) (by omega) hi'
theorem Tot.loopF {σ : Type} (I : σ → Prop) (mu : σ → Nat) (f : Nat → σ → Option β) {Q : β → Prop} (step : ∀ n s, I s → (∀ s', I s' → mu s' < mu s → Tot (f n s') Q) → Tot (f (n + 1) s) Q) (s : σ) (hm : mu s ≤ 1000000000000) (hi : I s) : Tot (f FUEL s) Q :=
  Tot.loop I mu f step _ FUEL s hm (by have := z1v; omega) hi
end
theorem w8e {x : Int} (h : 0 ≤ x ∧ x < 4611686018427387904) : BitVec.ofInt 64 x = BitVec.ofNat 64 x.toNat := by
  obtain ⟨n, rfl⟩ := Int.eq_ofNat_of_zero_le h.1
  apply BitVec.eq_of_toNat_eq
  rw [BitVec.toNat_ofInt, BitVec.toNat_ofNat]
  omega
theorem wq1 {x y : Int} (hx : 0 ≤ x ∧ x < 4611686018427387904) (hy : 0 ≤ y ∧ y < 4611686018427387904) : 0 ≤ xorI x y ∧ xorI x y < 4611686018427387904 := by
  unfold xorI
  rw [w8e hx, w8e hy, BitVec.toNat_xor, BitVec.toNat_ofNat, BitVec.toNat_ofNat]
  have h1 : x.toNat % 2 ^ 64 < 2 ^ 62 := by omega
  have h2 : y.toNat % 2 ^ 64 < 2 ^ 62 := by omega
  have := Nat.xor_lt_two_pow h1 h2
  rw [IntKind.wrap_i64]; omega
structure Rd (K : Int) (r : GRd) : Prop where
  byte : ∀ y ∈ r.b, 0 ≤ y ∧ y ≤ 255
  len : r.b.length ≤ 2000
  p0 : 0 ≤ r.p
  p1 : r.p ≤ K
theorem Rd.mono {K L : Int} {r : GRd} (h : Rd K r) (hl : K ≤ L) : Rd L r := ⟨h.byte, h.len, h.p0, Int.le_trans h.p1 hl⟩
end Go.Am.Pl
end
section
namespace Go.Am.Pl
open Go
theorem Tot.bind2 {α β γ : Type} {o : Option (α × β)} {P : α × β → Prop} (h : Tot o P) {f : α × β → Option γ} {Q : γ → Prop} (g : ∀ a b, P (a, b) → Tot (f (a, b)) Q) : Tot (o.bind f) Q := by
  obtain ⟨⟨a, b⟩, rfl, hv⟩ := h; exact g a b hv
theorem z1g {K : Int} {r : GRd} {n : Int} (h : Rd K r) (hK : K ≤ 1000000000) : Tot (z08 r n) (fun v => (0 ≤ v.1 ∧ (1 ≤ n → v.1 < n)) ∧ Rd (K + 1) v.2) := by
  obtain ⟨hb, hl, h0, h1⟩ := h
  have R : Rd (K + 1) (GRd.mk r.b (r.p + 1)) := ⟨hb, hl, by show 0 ≤ r.p + 1; omega, by show r.p + 1 ≤ K + 1; omega⟩
  unfold z08
  refine Tot.gd (by constructor <;> omega) (Tot.iteD (fun c => Tot.pure ⟨⟨Int.le_refl _, fun h => absurd h (by omega)⟩, R⟩) (fun c => ?_))
  refine Tot.iteD (fun c => Tot.pure ⟨⟨Int.le_refl _, fun h => by show (0 : Int) < n; omega⟩, R⟩) (fun c2 => ?_)
  have mod : ∀ x : Int, 0 ≤ x → Tot (some (Int.tmod x n, GRd.mk r.b (r.p + 1))) (fun v => (0 ≤ v.1 ∧ (1 ≤ n → v.1 < n)) ∧ Rd (K + 1) v.2) := fun x hx =>
    Tot.pure ⟨⟨Int.tmod_nonneg _ hx, fun h => Int.tmod_lt_of_pos _ (by omega)⟩, R⟩
  refine Tot.gd (by constructor <;> omega) (Tot.iteD (fun c3 => ?_) (fun c3 => ?_))
  · refine Tot.getI (by omega) c3 (fun x hx _ => ?_)
    have := hb x hx
    exact Tot.gd (by constructor <;> omega) (Tot.gd (by omega) (mod x (by omega)))
  · have hlen : 0 < (r.b.length : Int) := by omega
    refine Tot.gd (by omega) (Tot.getI (Int.tmod_nonneg _ (by omega)) (Int.tmod_lt_of_pos _ hlen) (fun x hx _ => ?_))
    have hx := hb x hx
    refine Tot.gd (by constructor <;> omega) (Tot.gd (by constructor <;> omega) (Tot.gd (by constructor <;> omega) (Tot.gd (by constructor <;> omega) (Tot.gd (by omega) ?_))))
    refine Tot.getI (Int.tmod_nonneg _ (by omega)) (Int.tmod_lt_of_pos _ hlen) (fun y hy _ => ?_)
    have hy := hb y hy
    have hq : 0 ≤ Int.tdiv (r.p + 1 - 1) (r.b.length : Int) ∧ Int.tdiv (r.p + 1 - 1) (r.b.length : Int) ≤ r.p := by
      rw [Int.tdiv_eq_ediv_of_nonneg (by omega)]
      refine ⟨Int.ediv_nonneg (by omega) (by omega), Int.le_trans (Int.ediv_le_self _ (by omega)) (by omega)⟩
    generalize Int.tdiv (r.p + 1 - 1) (r.b.length : Int) = q at *
    refine Tot.gd (by constructor <;> omega) (Tot.gd (by constructor <;> omega) (Tot.gd (by constructor <;> omega) (Tot.gd (by constructor <;> omega) (Tot.gd (by constructor <;> omega) (Tot.gd ⟨by omega, by constructor <;> omega⟩ (Tot.gd (by constructor <;> omega) (Tot.gd (by constructor <;> omega) ?_)))))))
    generalize hs : x * 131 + y * 1117 + (r.p + 1 - 1) * 29 + q * 53 = s
    have hs0 : 0 ≤ s ∧ s ≤ 1000000000000 := by omega
    have hd : Int.tdiv s 64 = s / 64 := Int.tdiv_eq_ediv_of_nonneg (by omega)
    rw [hd]
    refine Tot.gd ⟨by omega, by constructor <;> omega⟩ (Tot.gd (by omega) (mod _ (wq1 ⟨by omega, by omega⟩ ⟨by omega, by omega⟩).1))
theorem Rd.eta {K : Int} {r : GRd} (h : Rd K r) : Rd K (GRd.mk r.b r.p) := h
theorem w6e {K : Int} {r : GRd} {n : Int} (h : Rd K r) (hK : K ≤ 900000000) : Tot (z6w r n) (fun v => v.1.length ≤ 4 ∧ Rd (K + 20) v.2) := by
  unfold z6w
  have key := Tot.loopF (Q := fun v : List Int × GRd => v.1.length ≤ 4 ∧ Rd (K + 20) v.2) (fun s : List Int × Int × Int × List Int => Rd (K + 2 * s.2.2.1) (GRd.mk s.1 s.2.1) ∧ 0 ≤ s.2.2.1 ∧ s.2.2.1 ≤ 3 ∧ (s.2.2.2.length : Int) = s.2.2.1) (fun s => (3 - s.2.2.1).toNat)
    (fun f s => z3s (z6g n) f s.1 s.2.1 s.2.2.1 s.2.2.2) (fun f s hi ih => ?_) (r.b, r.p, 0, []) (by dsimp only; omega) ⟨by dsimp only; exact h.eta.mono (by omega), by dsimp only; omega, by dsimp only; omega, rfl⟩
  · exact key
  obtain ⟨b0, p0, i, l⟩ := s
  obtain ⟨h1, h2, h3, h4⟩ := hi
  dsimp only at h1 h2 h3 h4 ⊢
  have ih' : ∀ b p i' l', Rd (K + 2 * i') (GRd.mk b p) → 0 ≤ i' → i' ≤ 3 → ((l' : List Int).length : Int) = i' → i < i' → Tot (z3s (z6g n) f b p i' l') (fun v => v.1.length ≤ 4 ∧ Rd (K + 20) v.2) :=
    fun b p i' l' g1 g2 g3 g4 g5 => ih (b, p, i', l') ⟨g1, g2, g3, g4⟩ (by dsimp only; omega)
  rw [z3s]
  refine Tot.iteD (fun c => ?_) (fun c => ?_)
  · skip
    repeat' first
      | (refine Tot.bind2 (z1g (by assumption) (by omega)) ?_; intro a b h; dsimp only at h; obtain ⟨⟨_, _⟩, _⟩ := h; try dsimp only)
      | (refine Tot.gd (by first | omega | (constructor <;> omega) | (simp only [zL, zC, zN, zS, List.length_drop, SMALL]; omega)) ?_)
      | (refine Tot.getI (by omega) (by first | omega | (simp only [zC, zN, zS, zL]; omega)) ?_; intro x hx hg)
      | (refine Tot.iteD (fun _ => ?_) (fun _ => ?_))
      | (refine ih' _ _ _ _ (Rd.mono (by assumption) (by omega)) (by omega) (by omega) (by simp only [zL, zC, zN]; omega) (by omega))
  · unfold z6g
    repeat' first
      | (refine Tot.bind2 (z1g (by assumption) (by omega)) ?_; intro a b h; dsimp only at h; obtain ⟨⟨_, _⟩, _⟩ := h; try dsimp only)
      | (refine Tot.gd (by first | omega | (constructor <;> omega) | (simp only [zL, zC, zN, zS, List.length_drop, SMALL]; omega)) ?_)
      | (refine Tot.getI (by omega) (by first | omega | (simp only [zC, zN, zS, zL]; omega)) ?_; intro x hx hg)
      | (refine Tot.iteD (fun _ => ?_) (fun _ => ?_))
      | exact Tot.pure ⟨by first | (dsimp only; omega) | (simp only [zL, zC, zN, zS, List.length_drop]; omega), Rd.mono (by assumption) (by omega)⟩
theorem wm2 {K : Int} {r : GRd} {n : Int} (h : Rd K r) (hK : K ≤ 900000000) : Tot (ze6 r n) (fun v => Rd (K + 20) v.2) := by
  unfold ze6
  repeat' first
    | (refine Tot.bind2 (z1g (by assumption) (by omega)) ?_; intro a b h; dsimp only at h; obtain ⟨⟨_, _⟩, _⟩ := h; try dsimp only)
    | (refine Tot.gd (by first | omega | (constructor <;> omega) | (simp only [zL, zC, zN, zS, List.length_drop, SMALL]; omega)) ?_)
    | (refine Tot.getI (by omega) (by first | omega | (simp only [zC, zN, zS, zL]; omega)) ?_; intro x hx hg)
    | (refine Tot.iteD (fun _ => ?_) (fun _ => ?_))
    | exact Tot.pure (Rd.mono (by assumption) (by omega))
theorem yv1 {K : Int} {r : GRd} {n : Int} (h : Rd K r) (hK : K ≤ 900000000) : Tot (z5g r n) (fun v => v.1.length ≤ 5 ∧ Rd (K + 20) v.2) := by
  unfold z5g
  refine Tot.bind2 (z1g h (by omega)) ?_
  intro a b h1
  dsimp only at h1
  obtain ⟨⟨a0, a1⟩, hb⟩ := h1
  dsimp only
  refine Tot.getI (by omega) (by simp only [zC, zN]; omega) ?_
  intro l hl _
  have hl : 1 ≤ l.length ∧ l.length ≤ 4 := by
    simp only [zM, List.not_mem_nil, or_false] at hl
    rcases hl with rfl | rfl | rfl | rfl | rfl <;> simp
  simp only [List.nil_append]
  repeat' first
    | (refine Tot.bind2 (z1g (by assumption) (by omega)) ?_; intro a b h; dsimp only at h; obtain ⟨⟨_, _⟩, _⟩ := h; try dsimp only)
    | (refine Tot.gd (by first | omega | (constructor <;> omega) | (simp only [zL, zC, zN, zS, List.length_drop, SMALL]; omega)) ?_)
    | (refine Tot.getI (by omega) (by first | omega | (simp only [zC, zN, zS, zL]; omega)) ?_; intro x hx hg)
    | (refine Tot.iteD (fun _ => ?_) (fun _ => ?_))
    | exact Tot.pure ⟨by first | (dsimp only; omega) | (simp only [zL, zC, zN, zS, List.length_drop]; omega), Rd.mono (by assumption) (by omega)⟩
theorem w9l {K : Int} {r : GRd} {p n : Int} (h : Rd K r) (hK : K ≤ 900000000) (hp : p ≤ 9) : Tot (z8f r p n) (fun v => v.1.length ≤ 10 ∧ Rd (K + 20) v.2) := by
  unfold z8f
  have key := Tot.loopF (Q := fun v : List Int × GRd => v.1.length ≤ 10 ∧ Rd (K + 20) v.2) (fun s : List Int × Int × Int × List Int => Rd (K + s.2.2.1) (GRd.mk s.1 s.2.1) ∧ 0 ≤ s.2.2.1 ∧ (s.2.2.1 ≤ p ∨ s.2.2.1 = 0) ∧ (s.2.2.2.length : Int) = s.2.2.1) (fun s => (p - s.2.2.1).toNat)
    (fun f s => z37 p (z5p p n) f s.1 s.2.1 s.2.2.1 s.2.2.2) (fun f s hi ih => ?_) (r.b, r.p, 0, []) (by dsimp only; omega) ⟨by dsimp only; exact h.eta.mono (by omega), by dsimp only; omega, by dsimp only; omega, rfl⟩
  · exact key
  obtain ⟨b0, p0, i, l⟩ := s
  obtain ⟨h1, h2, h3, h4⟩ := hi
  dsimp only at h1 h2 h3 h4 ⊢
  have ih' : ∀ b q i' l', Rd (K + i') (GRd.mk b q) → 0 ≤ i' → i' ≤ p → ((l' : List Int).length : Int) = i' → i < i' → Tot (z37 p (z5p p n) f b q i' l') (fun v => v.1.length ≤ 10 ∧ Rd (K + 20) v.2) :=
    fun b q i' l' g1 g2 g3 g4 g5 => ih (b, q, i', l') ⟨g1, g2, .inl g3, g4⟩ (by dsimp only; omega)
  rw [z37]
  refine Tot.iteD (fun c => ?_) (fun c => ?_)
  · skip
    repeat' first
      | (refine Tot.bind2 (z1g (by assumption) (by omega)) ?_; intro a b h; dsimp only at h; obtain ⟨⟨_, _⟩, _⟩ := h; try dsimp only)
      | (refine Tot.gd (by first | omega | (constructor <;> omega) | (simp only [zL, zC, zN, zS, List.length_drop, SMALL]; omega)) ?_)
      | (refine Tot.getI (by omega) (by first | omega | (simp only [zC, zN, zS, zL]; omega)) ?_; intro x hx hg)
      | (refine Tot.iteD (fun _ => ?_) (fun _ => ?_))
      | (refine ih' _ _ _ _ (Rd.mono (by assumption) (by omega)) (by omega) (by omega) (by simp only [zL, zC, zN, zS, List.length_drop]; omega) (by omega))
  · unfold z5p
    repeat' first
      | (refine Tot.bind2 (z1g (by assumption) (by omega)) ?_; intro a b h; dsimp only at h; obtain ⟨⟨_, _⟩, _⟩ := h; try dsimp only)
      | (refine Tot.gd (by first | omega | (constructor <;> omega) | (simp only [zL, zC, zN, zS, List.length_drop, SMALL]; omega)) ?_)
      | (refine Tot.getI (by omega) (by first | omega | (simp only [zC, zN, zS, zL]; omega)) ?_; intro x hx hg)
      | (refine Tot.iteD (fun _ => ?_) (fun _ => ?_))
      | exact Tot.pure ⟨by first | (dsimp only; omega) | (simp only [zL, zC, zN, zS, List.length_drop]; omega), Rd.mono (by assumption) (by omega)⟩
theorem wf8 {K : Int} {r : GRd} {n : GNet} {k : Int} (h : Rd K r) (hK : K ≤ 900000000) (hn : 1 ≤ n.tasks.length) : Tot (z9o r n k) (fun v => v.1.length ≤ 4 ∧ Rd (K + 20) v.2) := by
  unfold z9o
  refine Tot.bind2 (z1g h (by omega)) ?_
  intro k0 r0 h1
  dsimp only at h1
  obtain ⟨⟨a0, a1⟩, hb⟩ := h1
  dsimp only
  have key := Tot.loopF (Q := fun v : List GItem × GRd => v.1.length ≤ 4 ∧ Rd (K + 20) v.2) (fun s : List Int × Int × Int × List GItem => Rd (K + 1 + 3 * (3 - s.2.2.1)) (GRd.mk s.1 s.2.1) ∧ 0 ≤ s.2.2.1 ∧ s.2.2.1 ≤ 3 ∧ (s.2.2.2.length : Int) + s.2.2.1 ≤ 3) (fun s => s.2.2.1.toNat)
    (fun f s => z2h n (z6f k) f s.1 s.2.1 s.2.2.1 s.2.2.2) (fun f s hi ih => ?_) (r0.b, r0.p, k0, []) (by dsimp only; omega) ⟨by dsimp only; exact hb.eta.mono (by omega), by dsimp only; omega, by dsimp only; omega, by simp only [zN]; omega⟩
  · exact key
  obtain ⟨b0, p0, i, l⟩ := s
  obtain ⟨h1, h2, h3, h4⟩ := hi
  dsimp only at h1 h2 h3 h4 ⊢
  have ih' : ∀ b q l', Rd (K + 1 + 3 * (3 - (i - 1))) (GRd.mk b q) → 1 ≤ i → ((l' : List GItem).length : Int) + (i - 1) ≤ 3 → Tot (z2h n (z6f k) f b q (i - 1) l') (fun v => v.1.length ≤ 4 ∧ Rd (K + 20) v.2) :=
    fun b q l' g1 g2 g3 => ih (b, q, i - 1, l') ⟨g1, by dsimp only; omega, by dsimp only; omega, g3⟩ (by dsimp only; omega)
  rw [z2h]
  refine Tot.iteD (fun c => ?_) (fun c => ?_)
  · skip
    repeat' first
      | (refine Tot.bind2 (z1g (by assumption) (by omega)) ?_; intro a b h; dsimp only at h; obtain ⟨⟨_, _⟩, _⟩ := h; try dsimp only)
      | (refine Tot.gd (by first | omega | (constructor <;> omega) | (simp only [zL, zC, zN, zS, List.length_drop, SMALL]; omega)) ?_)
      | (refine Tot.getI (by omega) (by first | omega | (simp only [zC, zN, zS, zL]; omega)) ?_; intro x hx hg)
      | (refine Tot.iteD (fun _ => ?_) (fun _ => ?_))
      | (refine ih' _ _ _ (Rd.mono (by assumption) (by omega)) (by omega) (by simp only [zL, zC, zN, zS, List.length_drop]; omega))
  · unfold z6f
    repeat' first
      | (refine Tot.bind2 (z1g (by assumption) (by omega)) ?_; intro a b h; dsimp only at h; obtain ⟨⟨_, _⟩, _⟩ := h; try dsimp only)
      | (refine Tot.gd (by first | omega | (constructor <;> omega) | (simp only [zL, zC, zN, zS, List.length_drop, SMALL]; omega)) ?_)
      | (refine Tot.getI (by omega) (by first | omega | (simp only [zC, zN, zS, zL]; omega)) ?_; intro x hx hg)
      | (refine Tot.iteD (fun _ => ?_) (fun _ => ?_))
      | exact Tot.pure ⟨by first | (dsimp only; omega) | (simp only [zL, zC, zN, zS, List.length_drop]; omega), Rd.mono (by assumption) (by omega)⟩
end Go.Am.Pl
end
section
namespace Go.Am.Pl
open Go
def cnt1 (x : GNode) (i : Int) : Int := (if x.yes = i then 1 else 0) + (if x.no = i then 1 else 0)
def cntL (i : Int) : List GNode → Int
  | [] => 0
  | x :: l => cnt1 x i + cntL i l
def okN (len i v : Int) : Bool := decide (v = -1) || inB v (i + 1) (len - 1)
def nodeB (len i : Int) (x : GNode) : Bool := expHolds x.if_ x.stone && (inB x.ans 0 2 && (okN len i x.yes && okN len i x.no))
def nodesI (len : Int) : Int → List GNode → Bool
  | _, [] => true
  | i, x :: l => nodeB len i x && nodesI len (i + 1) l
def treeSmall (tree : List GNode) : Prop := tree.length ≤ SMALL ∧ ∀ x ∈ tree, x.stone.length ≤ SMALL
theorem w08 {α : Type} (l : List α) {v j : Int} (w : α) (hv : 0 ≤ v) (hj : 0 ≤ j) (hl : j < l.length) : getI (l.set v.toNat w) j = if v = j then some w else getI l j := by
  unfold getI
  rw [if_pos hj, if_pos hj, List.getElem?_set]
  by_cases h : v = j
  · subst h; simp; omega
  · rw [if_neg (by omega), if_neg h]
def oneB : Int → List Int → Bool
  | _, [] => true
  | i, x :: s => (!decide (0 < i) || decide (x = 1)) && oneB (i + 1) s
def rdrB (tree : List GNode) : Bool := nodesI tree.length 0 tree && (oneB 0 ((List.range tree.length).map fun j : Nat => cntL (j : Int) tree) && decide ((tree.length : Int) ≤ 12))
end Go.Am.Pl
end
section
namespace Go.Am.Pl
open Go
theorem w4t {high : Int} : ∀ {l : List Int} {p : Int}, asc high p l = true → ∀ x ∈ l, p + 1 ≤ x ∧ x ≤ high
  | [], _, _, x, hx => by simp at hx
  | y :: l, p, h, x, hx => by
    simp only [asc, zA, z1e] at h
    rcases zM.1 hx with rfl | hx
    · exact h.1
    · have := w4t h.2 x hx; omega
structure TaskOk (n : GNet) (t : GTask) : Prop where
  join : 1 ≤ t.join ∧ t.join ≤ 3
  split : 1 ≤ t.split ∧ t.split ≤ 3
  inl : 1 ≤ t.in_.length ∧ t.in_.length ≤ 3
  ins : ∀ p ∈ t.in_, 0 ≤ p ∧ p ≤ n.places - 1
  outl : 1 ≤ t.out.length ∧ t.out.length ≤ 3
  clearl : (t.clear.length : Int) ≤ n.places
  clears : ∀ p ∈ t.clear, 2 ≤ p ∧ p ≤ n.places - 1
  role : 1 ≤ t.role ∧ t.role ≤ 3
  apart : -1 ≤ t.apart ∧ t.apart ≤ n.tasks.length - 1
  all : 1 ≤ t.all ∧ t.all ≤ 3
  need : 1 ≤ t.need ∧ t.need ≤ t.all
theorem z51 {n : GNet} (h : netB n = true) {t : GTask} (ht : t ∈ n.tasks) : TaskOk n t := by
  simp only [netB, zA, zV] at h
  have := h.2.2 t ht
  simp only [taskB, zA, z1e] at this
  obtain ⟨a, b, ⟨c, d⟩, e, ⟨f, g⟩, ⟨i, j⟩, k, l, m, o⟩ := this
  exact ⟨a, b, by omega, fun p hp => by have := w4t d p hp; omega, by omega, by omega, fun p hp => by have := w4t j p hp; omega, k, l, m, o⟩
theorem z50 {n : GNet} (h : netB n = true) : (2 ≤ n.places ∧ n.places ≤ 8) ∧ (1 ≤ n.tasks.length ∧ n.tasks.length ≤ 6) := by
  simp only [netB, zA, z1e] at h; omega
structure CasFacts (n : GNet) (c : GCase) : Prop where
  net : netB n = true
  len : (c.marks.length : Int) = n.places
  mks : ∀ x ∈ c.marks, 0 ≤ x ∧ x ≤ 4
  busyl : c.busy.length ≤ 6
  busy : ∀ b ∈ c.busy, (0 ≤ b.task ∧ b.task < n.tasks.length) ∧ (1 ≤ b.who ∧ b.who ≤ 4) ∧ (0 ≤ b.did ∧ b.did ≤ (atI n.tasks b.task).need - 1)
  data : datOk c.data = true
  didl : c.did.length ≤ 60
  did : ∀ d ∈ c.did, (0 ≤ d.task ∧ d.task < n.tasks.length) ∧ (1 ≤ d.who ∧ d.who ≤ 4)
  state : 1 ≤ c.state ∧ c.state ≤ 3
theorem z79 {n : GNet} {c : GCase} (h : casB n c = true) : CasFacts n c := by
  simp only [casB, mrkB, marksB, busyB, itemB, didB, zA, zV, z1e, zE, Bool.not_eq_true', decide_eq_false_iff_not] at h
  obtain ⟨⟨a, b, c1⟩, ⟨d, e⟩, f, g, i, j, k⟩ := h
  exact ⟨a, b, c1, by omega, fun x hx => by have := e x hx; omega, f, by omega, fun x hx => by have := j x hx; omega, i⟩
def inc (l : List Int) (p : Int) : List Int := l.set p.toNat (atI l p + 1)
theorem yg1 (l : List Int) (p : Int) : (inc l p).length = l.length := by simp [inc]
def incs (l : List Int) (ps : List Int) : List Int := ps.foldl inc l
theorem w0d (ps : List Int) : ∀ l : List Int, (incs l ps).length = l.length := by
  induction ps with
  | nil => intro l; rfl
  | cons p ps ih => intro l; show (incs (inc l p) ps).length = _; rw [ih, yg1]
def capM (K : Int) (l : List Int) : Prop := ∀ x ∈ l, 0 ≤ x ∧ x ≤ K
theorem yc7 {K : Int} {l : List Int} (h : capM K l) {p : Int} (h0 : 0 ≤ p) (h1 : p < l.length) : 0 ≤ atI l p ∧ atI l p ≤ K := h _ (z4l l h0 h1)
theorem yw5 {K : Int} {l : List Int} (h : capM K l) {p : Int} (h0 : 0 ≤ p) (h1 : p < l.length) : capM (K + 1) (inc l p) := by
  intro x hx
  have := yc7 h h0 h1
  rcases List.mem_or_eq_of_mem_set hx with hx | rfl
  · have := h x hx; omega
  · omega
def okM (l : List Int) : Bool := l.all (fun x => inB x 0 4)
theorem zw3 {l : List Int} : okM l = true ↔ capM 4 l := by simp only [okM, zV, z1e]; rfl
theorem w9q {l : List Int} {p : Int} {K : Int} (hl : capM K l) (h0 : 0 ≤ p) (h1 : p < l.length) (h : okM (inc l p) = true) : okM l = true ∧ atI l p ≤ 3 := by
  rw [zw3] at h ⊢
  have hp : atI l p + 1 ∈ inc l p := List.mem_iff_getElem?.2 ⟨p.toNat, by unfold inc; rw [List.getElem?_set_self (by omega)]⟩
  have h4 := h _ hp
  refine ⟨fun x hx => ?_, by omega⟩
  obtain ⟨j, hj⟩ := List.mem_iff_getElem?.1 hx
  by_cases e : p.toNat = j
  · have : atI l p = x := by unfold atI getI; rw [if_pos h0, e, hj]; rfl
    have := hl x hx; omega
  · exact h x (List.mem_iff_getElem?.2 ⟨j, by unfold inc; rw [List.getElem?_set_ne e]; exact hj⟩)
theorem wh5 {ps : List Int} : ∀ {l : List Int} {K : Int}, capM K l → (∀ p ∈ ps, 0 ≤ p ∧ p < l.length) → okM (incs l ps) = true → okM l = true := by
  induction ps with
  | nil => intro l K _ _ h; exact h
  | cons p ps ih =>
    intro l K hl hp h
    have hp0 := hp p (by simp)
    exact (w9q hl hp0.1 hp0.2 (ih (l := inc l p) (yw5 hl hp0.1 hp0.2) (fun q hq => by rw [yg1]; exact hp q (by simp [hq])) h)).1
theorem wb9 {β : Type} (ps : List Int) (hs : ps.length ≤ SMALL) (f : Nat → Int → List Int → Option β) (kx : List Int → Option β) (bad : Option β) (l0 : List Int) (hp : ∀ p ∈ ps, 0 ≤ p ∧ p < l0.length) (hc : okM l0 = true)
    (h0 : ∀ n s, f (n + 1) (ps.length : Int) s = kx s)
    (h1 : ∀ n i p s, getI ps i = some p → i < (ps.length : Int) → ok64 (i + 1) → getI s p = some (atI s p) → ok64 (atI s p + 1) → f (n + 1) i s = if decide (atI s p = 4) = true then bad else f n (i + 1) (inc s p)) :
    f FUEL 0 l0 = if okM (incs l0 ps) = true then kx (incs l0 ps) else bad :=
  scan ps (by unfold SMALL at hs; omega) f (fun _ suf l => if okM (incs l suf) = true then kx (incs l suf) else bad) (fun _ l => l.length = l0.length ∧ okM l = true)
    (fun n s hi => by rw [h0]; rw [if_pos (show okM (incs s []) = true from hi.2)]; rfl)
    (fun n pre x suf s a b c d hi k => by
      have hx := hp x (by rw [a]; simp)
      have hx2 : x < s.length := by rw [hi.1]; exact hx.2
      have hcap := zw3.1 hi.2
      have hv := yc7 hcap hx.1 hx2
      rw [h1 n _ x s b c d (z16 s hx.1 hx2) (by constructor <;> omega)]
      show _ = if okM (incs (inc s x) suf) = true then kx (incs (inc s x) suf) else bad
      by_cases h4 : atI s x = 4
      · rw [if_pos (zT h4), if_neg]
        intro h5
        have h6 := wh5 (yw5 hcap hx.1 hx2) (fun q hq => by rw [yg1, hi.1]; exact hp q (by rw [a]; simp [hq])) h5
        have := (w9q hcap hx.1 hx2 h6).2
        omega
      · rw [if_neg (by simpa using h4)]
        exact k (inc s x) ⟨by rw [yg1, hi.1], zw3.2 (fun y hy => by
          rcases List.mem_or_eq_of_mem_set hy with hy | rfl
          · exact hcap y hy
          · omega)⟩) FUEL l0 ⟨rfl, hc⟩ (by have := z1v; unfold SMALL at hs; omega)
theorem wg9 {β : Type} (ps : List Int) (hs : ps.length ≤ SMALL) (f : Nat → Int → List Int → Option β) (kx : List Int → Option β) (l0 : List Int) (K : Int) (hK : 0 ≤ K ∧ K ≤ 1000000000) (hp : ∀ p ∈ ps, 0 ≤ p ∧ p < l0.length) (hc : capM K l0)
    (h0 : ∀ n s, f (n + 1) (ps.length : Int) s = kx s)
    (h1 : ∀ n i p s, getI ps i = some p → i < (ps.length : Int) → ok64 (i + 1) → getI s p = some (atI s p) → ok64 (atI s p + 1) → f (n + 1) i s = f n (i + 1) (inc s p)) :
    f FUEL 0 l0 = kx (incs l0 ps) :=
  scan ps (by unfold SMALL at hs; omega) f (fun _ suf l => kx (incs l suf)) (fun pre l => l.length = l0.length ∧ capM (K + pre.length) l) (fun n s hi => by rw [h0]; rfl)
    (fun n pre x suf s a b c d hi k => by
      have hx := hp x (by rw [a]; simp)
      have hx2 : x < s.length := by rw [hi.1]; exact hx.2
      have hv := yc7 hi.2 hx.1 hx2
      have hpl : pre.length ≤ SMALL := by rw [a, zL] at hs; omega
      unfold SMALL at hpl
      rw [h1 n _ x s b c d (z16 s hx.1 hx2) (by constructor <;> omega)]
      refine k (inc s x) ⟨by rw [yg1, hi.1], ?_⟩
      have := yw5 hi.2 hx.1 hx2
      rw [zL, zJ, show ((K + ((pre.length + 1 : Nat) : Int)) = K + pre.length + 1) by omega]
      exact this) FUEL l0 ⟨rfl, by simpa using hc⟩ (by have := z1v; unfold SMALL at hs; omega)
end Go.Am.Pl
end
section
namespace Go.Am.Pl
open Go
structure TaskT (t : GTask) : Prop where
  in_ : t.in_.length ≤ 4
  out : t.out.length ≤ 4
  clear : t.clear.length ≤ 9
structure NetT (n : GNet) : Prop where
  one : 1 ≤ n.tasks.length
  six : n.tasks.length ≤ 6
  pl : n.places ≤ 9
  task : ∀ t ∈ n.tasks, TaskT t
theorem TaskT.small {t : GTask} (h : TaskT t) : t.small := ⟨by have := h.in_; unfold SMALL; omega, by have := h.out; unfold SMALL; omega, by have := h.clear; unfold SMALL; omega⟩
theorem NetT.small {n : GNet} (h : NetT n) : n.small := ⟨by have := h.six; unfold SMALL; omega, fun t ht => (h.task t ht).small⟩
theorem wl3 {n : GNet} (h : netB n = true) : NetT n := by
  have hs := z50 h
  exact ⟨by omega, by omega, by omega, fun t ht => by
    have T := z51 h ht
    exact ⟨by have := T.inl; omega, by have := T.outl; omega, by have := T.clearl; omega⟩⟩
theorem wc1 {K : Int} {split : Int} {to : List Int} {kx : List Int → Int → List GFlow → Option (GTask × GRd)} {Q : GTask × GRd → Prop} (hK : K ≤ 900000000) (ht : to.length ≤ 3)
    (hk : ∀ b p l, Rd (K + 9) (GRd.mk b p) → l.length ≤ 3 → Tot (kx b p l) Q) {b : List Int} {p : Int} (h : Rd K (GRd.mk b p)) : Tot (z11 split to kx FUEL b p 0 []) Q := by
  have key := Tot.loopF (Q := Q) (fun s : List Int × Int × Int × List GFlow => Rd (K + 3 * s.2.2.1) (GRd.mk s.1 s.2.1) ∧ 0 ≤ s.2.2.1 ∧ s.2.2.1 ≤ to.length ∧ (s.2.2.2.length : Int) = s.2.2.1) (fun s => ((to.length : Int) - s.2.2.1).toNat)
    (fun f s => z11 split to kx f s.1 s.2.1 s.2.2.1 s.2.2.2) (fun f s hi ih => ?_) (b, p, 0, []) (by dsimp only; omega) ⟨by dsimp only; exact h.mono (by omega), by dsimp only; omega, by dsimp only; omega, rfl⟩
  · exact key
  obtain ⟨b0, p0, i, l⟩ := s
  obtain ⟨h1, h2, h3, h4⟩ := hi
  dsimp only at h1 h2 h3 h4 ⊢
  have ih' : ∀ b q i' l', Rd (K + 3 * i') (GRd.mk b q) → 0 ≤ i' → i' ≤ to.length → ((l' : List GFlow).length : Int) = i' → i < i' → Tot (z11 split to kx f b q i' l') Q :=
    fun b q i' l' g1 g2 g3 g4 g5 => ih (b, q, i', l') ⟨g1, g2, g3, g4⟩ (by dsimp only; omega)
  rw [z11]
  refine Tot.iteD (fun c => ?_) (fun c => hk _ _ _ (h1.mono (by omega)) (by omega))
  repeat' first
    | (refine Tot.bind2 (z1g (by assumption) (by omega)) ?_; intro a b h; dsimp only at h; obtain ⟨⟨_, _⟩, _⟩ := h; try dsimp only)
    | (refine Tot.gd (by first | omega | (constructor <;> omega) | (simp only [zL, zC, zN, zS, List.length_drop, SMALL]; omega)) ?_)
    | (refine Tot.getI (by omega) (by first | omega | (simp only [zC, zN, zS, zL]; omega)) ?_; intro x hx hg)
    | (refine Tot.iteD (fun _ => ?_) (fun _ => ?_))
    | (refine ih' _ _ _ _ (Rd.mono (by assumption) (by omega)) (by omega) (by omega) (by simp only [zL, zC, zN, zS, List.length_drop]; omega) (by omega))
theorem w71 {K : Int} {r : GRd} {join split tasks : Int} {in_ to : List Int} (h : Rd K r) (hK : K ≤ 800000000) (hi : in_.length ≤ 3) (ht : to.length ≤ 3) : Tot (z09 r join split in_ to tasks) (fun v => TaskT v.1 ∧ Rd (K + 20) v.2) := by
  unfold z09
  repeat' first
    | (refine Tot.bind2 (z1g (by assumption) (by omega)) ?_; intro a b h; dsimp only at h; obtain ⟨⟨_, _⟩, _⟩ := h; try dsimp only)
    | (refine Tot.gd (by first | omega | (constructor <;> omega) | (simp only [zL, zC, zN, zS, List.length_drop, SMALL]; omega)) ?_)
    | (refine Tot.getI (by omega) (by first | omega | (simp only [zC, zN, zS, zL]; omega)) ?_; intro x hx hg)
    | (refine Tot.iteD (fun _ => ?_) (fun _ => ?_))
    | (refine wc1 (K := K + 5) (by omega) ht (fun b p l hb hl => ?_) (Rd.eta (Rd.mono (by assumption) (by omega))))
    | (unfold zp7; exact Tot.pure ⟨⟨by dsimp only; omega, by dsimp only; omega, by simp⟩, Rd.mono (by assumption) (by omega)⟩)
    | (unfold zp8; exact Tot.pure ⟨⟨by dsimp only; omega, by dsimp only; omega, by simp⟩, Rd.mono (by assumption) (by omega)⟩)
theorem y73 {α : Type} {P : α → Prop} : ∀ t ∈ ([] : List α), P t := fun t ht => (List.not_mem_nil ht).elim
theorem w7v {K N P : Int} (hK : K ≤ 700000000) (hN : 1 ≤ N ∧ N ≤ 4) (hP : 3 ≤ P ∧ P ≤ 6) {b : List Int} {p : Int} (h : Rd (K + 10) (GRd.mk b p)) : Tot (z13 N P (z4d P) FUEL b p 0 []) (fun v => NetT v.1 ∧ Rd (K + 200) v.2) := by
  have key := Tot.loopF (Q := fun v : GNet × GRd => NetT v.1 ∧ Rd (K + 200) v.2) (fun s : List Int × Int × Int × List GTask => Rd (K + 10 + 40 * s.2.2.1) (GRd.mk s.1 s.2.1) ∧ 0 ≤ s.2.2.1 ∧ s.2.2.1 ≤ N ∧ (s.2.2.2.length : Int) = s.2.2.1 ∧ ∀ t ∈ s.2.2.2, TaskT t) (fun s => (N - s.2.2.1).toNat)
    (fun f s => z13 N P (z4d P) f s.1 s.2.1 s.2.2.1 s.2.2.2) (fun f s hi ih => ?_) (b, p, 0, []) (by dsimp only; omega) ⟨by dsimp only; exact h.mono (by omega), by dsimp only; omega, by dsimp only; omega, rfl, y73⟩
  · exact key
  obtain ⟨b0, p0, i, l⟩ := s
  obtain ⟨h1, h2, h3, h4, h5⟩ := hi
  dsimp only at h1 h2 h3 h4 h5 ⊢
  have ih' : ∀ b q (t : GTask), Rd (K + 10 + 40 * (i + 1)) (GRd.mk b q) → i + 1 ≤ N → TaskT t → Tot (z13 N P (z4d P) f b q (i + 1) (l ++ [t])) (fun v => NetT v.1 ∧ Rd (K + 200) v.2) :=
    fun b q t g1 g2 g3 => ih (b, q, i + 1, l ++ [t]) ⟨g1, by dsimp only; omega, g2, by dsimp only; rw [zL, zJ]; omega, fun x hx => by
      rcases zP.1 hx with hx | hx
      · exact h5 x hx
      · rw [List.mem_singleton.1 hx]; exact g3⟩ (by dsimp only; omega)
  rw [z13]
  refine Tot.iteD (fun c => ?_) (fun c => ?_)
  · skip
    repeat' first
      | (refine Tot.bind2 (w71 (by assumption) (by omega) (by simp) (by simp)) ?_; intro a b h; dsimp only at h; obtain ⟨_, _⟩ := h; try dsimp only)
      | (refine Tot.bind2 (z1g (by assumption) (by omega)) ?_; intro a b h; dsimp only at h; obtain ⟨⟨_, _⟩, _⟩ := h; try dsimp only)
      | (refine Tot.gd (by first | omega | (constructor <;> omega) | (simp only [zL, zC, zN, zS, List.length_drop, SMALL]; omega)) ?_)
      | (refine Tot.getI (by omega) (by first | omega | (simp only [zC, zN, zS, zL]; omega)) ?_; intro x hx hg)
      | (refine Tot.iteD (fun _ => ?_) (fun _ => ?_))
      | (refine ih' _ _ _ (Rd.mono (by assumption) (by omega)) (by omega) (by assumption))
  · unfold z4d
    exact Tot.pure ⟨⟨by dsimp only; omega, by dsimp only; omega, by dsimp only; omega, h5⟩, h1.mono (by omega)⟩
theorem wb2 {K : Int} {r : GRd} (h : Rd K r) (hK : K ≤ 700000000) : Tot (z8h r) (fun v => NetT v.1 ∧ Rd (K + 200) v.2) := by
  unfold z8h
  repeat' first
    | (refine Tot.bind2 (w71 (by assumption) (by omega) (by simp) (by simp)) ?_; intro a b h; dsimp only at h; obtain ⟨_, _⟩ := h; try dsimp only)
    | (refine Tot.bind2 (z1g (by assumption) (by omega)) ?_; intro a b h; dsimp only at h; obtain ⟨⟨_, _⟩, _⟩ := h; try dsimp only)
    | (refine Tot.gd (by first | omega | (constructor <;> omega) | (simp only [zL, zC, zN, zS, List.length_drop, SMALL]; omega)) ?_)
    | (refine Tot.getI (by omega) (by first | omega | (simp only [zC, zN, zS, zL]; omega)) ?_; intro x hx hg)
    | (refine Tot.iteD (fun _ => ?_) (fun _ => ?_))
    | (refine w7v (by omega) (by omega) (by omega) (Rd.eta (Rd.mono (by assumption) (by omega))))
    | (refine Tot.pure ⟨⟨by simp, by simp, by dsimp only; omega, ?_⟩, Rd.mono (by assumption) (by omega)⟩; dsimp only; repeat' first | exact y73 | exact List.forall_mem_cons.2 ⟨by assumption, y73⟩ | (refine List.forall_mem_cons.2 ⟨by assumption, ?_⟩))
theorem w9n {K : Int} {r : GRd} (h : Rd K r) (hK : K ≤ 600000000) : Tot (z8g r) (fun v => netB v.1 = true ∧ Rd (K + 210) v.2) := by
  unfold z8g
  refine Tot.bind2 (wb2 h (by omega)) ?_
  intro n0 r0 hh
  dsimp only at hh
  obtain ⟨hn, hr⟩ := hh
  dsimp only
  have d : netB (GNet.mk 2 [GTask.mk 1 1 [0] [GFlow.mk 1 (GAsk.mk 0 0 0)] [] 1 (-1) 1 1]) = true := by decide
  have fin : ∀ (n : GNet) (r : GRd), n.small → Rd (K + 210) r → Tot ((z31 n).bind fun x => if x = true then some (n, r) else some (GNet.mk 2 [GTask.mk 1 1 [0] [GFlow.mk 1 (GAsk.mk 0 0 0)] [] 1 (-1) 1 1], r)) (fun v => netB v.1 = true ∧ Rd (K + 210) v.2) := by
    intro n r hs hr
    rw [y32 n hs, zB]
    refine Tot.ite (fun c => Tot.pure ⟨c, hr⟩) (fun c => Tot.pure ⟨d, hr⟩)
  have hone := hn.one
  refine Tot.bind2 (z1g hr (by omega)) ?_
  intro a b h1
  dsimp only at h1
  obtain ⟨⟨a0, a1⟩, hb⟩ := h1
  dsimp only
  refine Tot.iteD (fun _ => Tot.iteD (fun _ => Tot.iteD (fun _ => ?_) (fun _ => fin _ _ hn.small (hb.mono (by omega)))) (fun _ => fin _ _ hn.small (hb.mono (by omega)))) (fun _ => fin _ _ hn.small (hb.mono (by omega)))
  refine Tot.bind2 (z1g hb (by omega)) ?_
  intro a2 b2 h2
  dsimp only at h2
  obtain ⟨⟨a3, a4⟩, hb2⟩ := h2
  dsimp only
  refine Tot.getI (by omega) (by omega) ?_
  intro t ht hg
  refine fin _ _ ⟨by show (n0.tasks.set _ _).length ≤ SMALL; rw [zS]; exact hn.small.1, fun x hx => ?_⟩ (hb2.mono (by omega))
  rcases List.mem_or_eq_of_mem_set hx with hx | rfl
  · exact hn.small.2 x hx
  · have T := (hn.task t ht).small
    exact ⟨T.1, T.2.1, by simp [SMALL]⟩
theorem set_T {n : GNet} (hn : NetT n) {k : Nat} {t : GTask} (ht : TaskT t) : NetT (GNet.mk n.places (n.tasks.set k t)) :=
  ⟨by rw [zS]; exact hn.one, by rw [zS]; exact hn.six, hn.pl, fun x hx => by
    rcases List.mem_or_eq_of_mem_set hx with hx | rfl
    · exact hn.task x hx
    · exact ht⟩
theorem w78 {K : Int} {r : GRd} {n : Int} (h : Rd K r) (hK : K ≤ 500000000) : Tot (z74 r n) (fun v => NetT v.1 ∧ Rd (K + 250) v.2) := by
  unfold z74
  refine Tot.bind2 (w9n h (by omega)) ?_
  intro n0 r0 hh
  dsimp only at hh
  obtain ⟨hn, hr⟩ := hh
  dsimp only
  have hT := wl3 hn
  have hsz := z50 hn
  have hone := hT.one
  have hfin : ∀ (t : GTask) (k : Int) (r : GRd), TaskT t → Rd (K + 250) r → Tot ((getI n0.tasks k).bind fun _ => some (GNet.mk n0.places (n0.tasks.set k.toNat t), r)) (fun v => NetT v.1 ∧ Rd (K + 250) v.2) → True := fun _ _ _ _ _ _ => trivial
  refine Tot.bind2 (z1g hr (by omega)) ?_
  intro a b h1
  dsimp only at h1
  obtain ⟨⟨a0, a1⟩, hb⟩ := h1
  dsimp only
  refine Tot.iteD (fun _ => Tot.pure ⟨hT, hb.mono (by omega)⟩) (fun _ => ?_)
  refine Tot.bind2 (z1g hb (by omega)) ?_
  intro a2 b2 h2
  dsimp only at h2
  obtain ⟨⟨a3, a4⟩, hb2⟩ := h2
  dsimp only
  refine Tot.iteD (fun _ => ?_) (fun _ => ?_)
  · refine Tot.bind2 (z1g hb2 (by omega)) ?_
    intro a5 b5 h5
    dsimp only at h5
    obtain ⟨⟨a6, a7⟩, hb5⟩ := h5
    dsimp only
    refine Tot.getI (by omega) (by simp only [zC, zN]; omega) ?_
    intro x hx _
    refine Tot.pure ⟨⟨hT.one, hT.six, ?_, hT.task⟩, hb5.mono (by omega)⟩
    simp only [zM, List.not_mem_nil, or_false] at hx
    show x ≤ 9
    omega
  refine Tot.bind2 (z1g hb2 (by omega)) ?_
  intro k b5 h5
  dsimp only at h5
  obtain ⟨⟨a6, a7⟩, hb5⟩ := h5
  dsimp only
  refine Tot.getI (by omega) (by omega) ?_
  intro t ht hg
  have T := z51 hn ht
  have i1 := T.inl; have i2 := T.outl; have i3 := T.clearl
  have i4 : t.clear.length ≤ 8 := by omega
  have i5 := T.all
  clear i3 hfin
  repeat' first
    | (refine Tot.bind2 (wm2 (by assumption) (by omega)) ?_; intro a b h; dsimp only at h; obtain _ := h; try dsimp only)
    | (refine Tot.bind2 (z1g (by assumption) (by omega)) ?_; intro a b h; dsimp only at h; obtain ⟨⟨_, _⟩, _⟩ := h; try dsimp only)
    | (refine Tot.gd (by first | omega | (constructor <;> omega) | (simp only [zL, zC, zN, zS, List.length_drop, SMALL]; omega)) ?_)
    | (refine Tot.getI (by omega) (by first | omega | (simp only [zC, zN, zS, zL]; omega)) ?_; intro x hx hg)
    | (refine Tot.iteD (fun _ => ?_) (fun _ => ?_))
    | exact Tot.pure ⟨set_T hT ⟨by first | (dsimp only; omega) | (dsimp only; simp only [zL, zC, zN, zS, List.length_drop]; omega), by first | (dsimp only; omega) | (dsimp only; simp only [zL, zC, zN, zS, List.length_drop]; omega), by first | (dsimp only; omega) | (dsimp only; simp only [zL, zC, zN, zS, List.length_drop]; omega)⟩, Rd.mono (by assumption) (by omega)⟩
end Go.Am.Pl
end
section
namespace Go.Am.Pl
open Go
theorem zl7 (l : List Int) (h : l.length ≤ SMALL) : z3c l = some l := by unfold z3c; rw [z01 (by simpa using h)]; rfl
theorem zh0 (c : GCase) (h : c.small) : z23 c = some c := by
  obtain ⟨h1, h2, h3, h4⟩ := h
  unfold z23
  simp [z01, h1, h2, h3, h4]
theorem z54 (c : GCase) (h : c.small) : z03 c = some c := by
  obtain ⟨h1, h2, h3, h4⟩ := h
  unfold z03
  simp [z01, zl7, h1, h2, h3, h4]
theorem zi1 (n : GNet) (c : GCase) (hn : n.small) (hc : c.small) : z4g n c = some (casB n c && decide (c.state = 1)) := by
  unfold z4g
  simp only [w7e n c hn hc, zB]
  cases casB n c <;> by_cases hs : c.state = 1 <;> simp [hs]
end Go.Am.Pl
end
section
namespace Go.Am.Pl
open Go
def goB (split : Int) (last none_ : Bool) : Bool := bif decide (split = 2) then none_ else bif decide (split = 3) then !last || none_ else true
def splL (split : Int) (data : List Int) : List GFlow → List Int → List Int
  | [], l => l
  | f :: fs, l => if (expHolds f.if_ data && goB split fs.isEmpty l.isEmpty) = true then splL split data fs (l ++ [f.to]) else splL split data fs l
theorem w4d (data : List Int) : ∀ (fs : List GFlow) (l : List Int), l.isEmpty = false → splL 2 data fs l = l
  | [], l, _ => rfl
  | f :: fs, l, h => by
    unfold splL
    rw [if_neg (by simp [goB, h]), w4d data fs l h]
theorem w1k (split : Int) (data : List Int) : ∀ (fs : List GFlow) (l : List Int), (splL split data fs l).length ≤ l.length + fs.length
  | [], l => by simp [splL]
  | f :: fs, l => by
    unfold splL; split
    · have := w1k split data fs (l ++ [f.to]); simp at this; simp; omega
    · have := w1k split data fs l; simp; omega
theorem w1l (split : Int) (data : List Int) : ∀ (fs : List GFlow) (l : List Int) (p : Int), p ∈ splL split data fs l → p ∈ l ∨ ∃ f ∈ fs, f.to = p
  | [], l, p, h => .inl h
  | f :: fs, l, p, h => by
    unfold splL at h; split at h
    · rcases w1l split data fs _ p h with h | ⟨g, hg, e⟩
      · rcases zP.1 h with h | h
        · exact .inl h
        · simp at h; exact .inr ⟨f, by simp, h.symm⟩
      · exact .inr ⟨g, by simp [hg], e⟩
    · rcases w1l split data fs _ p h with h | ⟨g, hg, e⟩
      · exact .inl h
      · exact .inr ⟨g, by simp [hg], e⟩
theorem wn8 {α : Type} {l pre suf : List α} {x : α} (h : l = pre ++ x :: suf) : (decide ((pre.length : Int) < (l.length : Int) - 1)) = !suf.isEmpty := by
  rw [h]
  cases suf with
  | nil => simp
  | cons y s => simp; omega
theorem w3k {l : List Int} {n : Nat} (h : l.length ≤ n) (hn : n < SMALL) {y : Int} : l.length + [y].length ≤ SMALL := by rw [zJ]; omega
theorem len0 (l : List Int) : decide ((l.length : Int) = 0) = l.isEmpty := by
  cases l with
  | nil => rfl
  | cons x l => simp; omega
theorem len1 (l : List Int) : decide (0 < (l.length : Int)) = !l.isEmpty := by
  cases l with
  | nil => rfl
  | cons x l => simp
theorem w7z (t : GTask) (data : List Int) (hs : t.out.length ≤ SMALL) (hd : data.length ≤ SMALL) : zj1 t data = some (splL t.split data t.out []) := by
  unfold zj1
  refine scan t.out (by unfold SMALL at hs; omega) (z1b t data z8c z8d z8e zg7) (fun _ suf l => some (splL t.split data suf l)) (fun pre l => l.length ≤ pre.length ∧ (t.split = 2 → l = []))
    (fun n s hi => by rw [z1b, if_neg (by simp)]; rfl)
    (fun n pre x suf s a b c d hi k => ?_) FUEL [] ⟨by simp, fun _ => rfl⟩ (by have := z1v; unfold SMALL at hs; omega)
  have hpl : pre.length < SMALL := by rw [a, zL, zC] at hs; omega
  have h1 : t.split ≠ 2 → z1b t data z8c z8d z8e zg7 n ((pre.length : Int) + 1) (s ++ [x.to]) = some (splL t.split data suf (s ++ [x.to])) := fun h2 => k (s ++ [x.to]) ⟨by simp; exact hi.1, fun h => absurd h h2⟩
  have h2 := k s ⟨by simp; have := hi.1; omega, hi.2⟩
  rw [z1b, if_pos (zT c)]
  simp only [b, zB, w1h _ _ hd, wn8 a, len0, z01 (z78 hs), z01 d, z01 (w3k hi.1 hpl), h2, splL, z8c, z8d, z8e, goB]
  by_cases e2 : t.split = 2
  · have hn := hi.2 e2
    subst hn
    cases expHolds x.if_ data
    · simp
    · have e3 : t.split ≠ 3 := by omega
      have := w4d data suf [x.to] rfl
      simp [e2, this]
  · rw [h1 e2]
    cases expHolds x.if_ data <;> by_cases e3 : t.split = 3 <;> cases suf.isEmpty <;> cases s.isEmpty <;> simp [e2, e3]
theorem w7f (t : GTask) (data : List Int) (hs : t.out.length ≤ SMALL) (hd : data.length ≤ SMALL) : zi9 t data = some (splL t.split data t.out []) := by
  unfold zi9
  refine scan t.out (by unfold SMALL at hs; omega) (z0h t data t.out (t.out.length : Int) y1m) (fun _ suf l => some (splL t.split data suf l)) (fun pre l => l.length ≤ pre.length)
    (fun n s hi => by rw [z0h, if_neg (by simp)]; rfl)
    (fun n pre x suf s a b c d hi k => ?_) FUEL [] (by simp) (by have := z1v; unfold SMALL at hs; omega)
  have hpl : pre.length < SMALL := by rw [a, zL, zC] at hs; omega
  have h1 := k (s ++ [x.to]) (by simp; exact hi)
  have h2 := k s (by simp; omega)
  rw [z0h, if_pos (zT c)]
  simp only [b, zB, w0c _ _ hd, y1d a, len1, z01 (z78 hs), z01 d, z01 (w3k hi hpl), h1, h2, splL, goB]
  cases expHolds x.if_ data <;> by_cases e2 : t.split = 2 <;> by_cases e3 : t.split = 3 <;> cases suf.isEmpty <;> cases s.isEmpty <;> simp [e2, e3]
def zeros (l : List Int) (ps : List Int) : List Int := ps.foldl (fun l p => l.set p.toNat 0) l
theorem y6i (ps : List Int) : ∀ l : List Int, (zeros l ps).length = l.length := by
  induction ps with
  | nil => intro l; rfl
  | cons p ps ih => intro l; show (zeros (l.set p.toNat 0) ps).length = _; rw [ih]; simp
theorem wk5 (ps : List Int) : ∀ l : List Int, okM l = true → okM (zeros l ps) = true := by
  induction ps with
  | nil => intro l h; exact h
  | cons p ps ih =>
    intro l h
    refine ih _ (zw3.2 fun x hx => ?_)
    rcases List.mem_or_eq_of_mem_set hx with hx | rfl
    · exact zw3.1 h x hx
    · omega
theorem w4m {β : Type} (ps : List Int) (hs : ps.length ≤ SMALL) (f : Nat → Int → List Int → Option β) (kx : List Int → Option β) (l0 : List Int) (hp : ∀ p ∈ ps, 0 ≤ p ∧ p < l0.length)
    (h0 : ∀ n s, f (n + 1) (ps.length : Int) s = kx s)
    (h1 : ∀ n i p s, getI ps i = some p → i < (ps.length : Int) → ok64 (i + 1) → getI s p = some (atI s p) → f (n + 1) i s = f n (i + 1) (s.set p.toNat 0)) :
    f FUEL 0 l0 = kx (zeros l0 ps) :=
  scan ps (by unfold SMALL at hs; omega) f (fun _ suf l => kx (zeros l suf)) (fun pre l => l.length = l0.length) (fun n s hi => by rw [h0]; rfl)
    (fun n pre x suf s a b c d hi k => by
      have hx := hp x (by rw [a]; simp)
      rw [h1 n _ x s b c d (z16 s hx.1 (by rw [hi]; exact hx.2))]
      exact k _ (by simpa using hi)) FUEL l0 rfl (by have := z1v; unfold SMALL at hs; omega)
def giveL (n : GNet) (m : List Int) (t : GTask) (data : List Int) : List Int := incs (zeros m t.clear) (splL t.split data t.out [])
def giveB (n : GNet) (m : List Int) (t : Int) (data : List Int) : List Int × Bool :=
  bif mrkB n m && (inB t 0 ((n.tasks.length : Int) - 1) && (datOk data && okM (giveL n m (atI n.tasks t) data))) then (giveL n m (atI n.tasks t) data, true) else ([], false)
theorem w2p {t : GTask} {places : Int} : ∀ {suf pre : List GFlow}, flowsB t places pre suf = true → ∀ f ∈ suf, 1 ≤ f.to ∧ f.to ≤ places - 1
  | [], _, _, f, hf => by simp at hf
  | x :: suf, pre, h, f, hf => by
    simp only [flowsB, zA, z1e] at h
    rcases zM.1 hf with rfl | hf
    · exact h.1
    · exact w2p h.2.2.2.2 f hf
theorem w0j {n : GNet} (h : netB n = true) {t : GTask} (ht : t ∈ n.tasks) : ∀ f ∈ t.out, 1 ≤ f.to ∧ f.to ≤ n.places - 1 := by
  simp only [netB, zA, zV] at h
  have := h.2.2 t ht
  simp only [taskB, zA] at this
  exact w2p this.2.2.2.2.1.2
theorem zf2 {n : GNet} {m : List Int} (h : mrkB n m = true) : netB n = true ∧ (m.length : Int) = n.places ∧ okM m = true := by
  simp only [mrkB, marksB, zA, zE] at h
  exact ⟨h.1, h.2.1, h.2.2⟩
structure GiveOk (n : GNet) (m : List Int) (t : GTask) (data : List Int) : Prop where
  clears : ∀ p ∈ t.clear, 0 ≤ p ∧ p < m.length
  tos : ∀ p ∈ splL t.split data t.out [], 0 ≤ p ∧ p < (zeros m t.clear).length
  len : (splL t.split data t.out []).length ≤ SMALL
  ok : okM (zeros m t.clear) = true
theorem w9a {n : GNet} {m : List Int} {t : GTask} {data : List Int} (hm : mrkB n m = true) (ht : t ∈ n.tasks) : GiveOk n m t data := by
  obtain ⟨h1, h2, h3⟩ := zf2 hm
  have T := z51 h1 ht
  refine ⟨fun p hp => by have := T.clears p hp; omega, fun p hp => ?_, ?_, wk5 _ _ h3⟩
  · rcases w1l _ _ _ _ _ hp with h | ⟨f, hf, e⟩
    · simp at h
    · have := w0j h1 ht f hf; rw [y6i]; omega
  · have := w1k t.split data t.out []; have := T.outl; rw [zN] at *; unfold SMALL; omega
theorem w4b (n : GNet) (m : List Int) (t : Int) (data : List Int) (hn : n.small) (hm : m.length ≤ SMALL) (hd : data.length ≤ SMALL) : z9n n m t data = some (giveB n m t data) := by
  unfold z9n giveB
  rw [y31 n m hn hm, zB, z01 (z78 hn.1), z3t, zB, zq7 _ hd, zB, z01 (by simpa using hm)]
  by_cases h1 : mrkB n m = true
  · by_cases h2 : inB t 0 ((n.tasks.length : Int) - 1) = true
    · by_cases h3 : datOk data = true
      · have h2' := z1e.1 h2
        have hg := z16 n.tasks h2'.1 (by omega)
        have ht := z4l n.tasks h2'.1 (by omega)
        have G := w9a (data := data) h1 ht
        rw [if_pos h1, if_pos h2, if_pos h3, h1, h2, h3, List.nil_append]
        rw [w4m (atI n.tasks t).clear (hn.2 _ ht).2.2 (z3q n t (z6d n t data)) (z6d n t data) m G.clears (fun n s => by rw [z3q, hg, zB, if_neg (by simp)])
          (fun n i p s b c d g => by rw [z3q, hg, zB, if_pos (zT c), zB, b, zB, g, zB, z01 d])]
        unfold z6d
        rw [hg, zB, w7z _ _ (hn.2 _ ht).2.1 hd, zB]
        rw [wb9 _ G.len (z3r _ z6e) z6e (some ([], false)) _ G.tos G.ok (fun n s => by rw [z3r, if_neg (by simp)])
          (fun n i p s b c d g o => by rw [z3r, if_pos (zT c)]; simp only [b, zB, g, z01 d, z01 o]; rfl)]
        unfold z6e giveL
        cases okM (incs (zeros m (atI n.tasks t).clear) (splL (atI n.tasks t).split data (atI n.tasks t).out [])) <;> rfl
      · rw [if_pos h1, if_pos h2, if_neg h3, zF.2 h3]; simp
    · rw [if_pos h1, if_neg h2, zF.2 h2]; simp
  · rw [if_neg h1, zF.2 h1]; simp
theorem y1b (n : GNet) (t : Int) (hn : n.small) : z0g n t = some (inB t 0 ((n.tasks.length : Int) - 1)) := by
  unfold z0g; rw [z01 (z78 hn.1), z6j]; rfl
theorem w35 (n : GNet) (m : List Int) (t : Int) (data : List Int) (hn : n.small) (hm : m.length ≤ SMALL) (hd : data.length ≤ SMALL) : z5l n m t data = some (giveB n m t data) := by
  unfold z5l giveB
  rw [y2w n m hn hm, zB, y1b n t hn, zB, y2v _ hd, zB, zl7 _ hm, zB]
  by_cases h1 : mrkB n m = true
  · by_cases h2 : inB t 0 ((n.tasks.length : Int) - 1) = true
    · by_cases h3 : datOk data = true
      · have h2' := z1e.1 h2
        have hg := z16 n.tasks h2'.1 (by omega)
        have ht := z4l n.tasks h2'.1 (by omega)
        have G := w9a (data := data) h1 ht
        obtain ⟨f1, f2, f3⟩ := zf2 h1
        rw [if_pos h1, if_pos h2, if_pos h3, h1, h2, h3, hg, zB]
        rw [w4m (atI n.tasks t).clear (hn.2 _ ht).2.2 (z3m (atI n.tasks t).clear ((atI n.tasks t).clear.length : Int) (z69 n t data)) (z69 n t data) m G.clears (fun n s => by rw [z3m, if_neg (by simp)])
          (fun n i p s b c d g => by rw [z3m, if_pos (zT c), b, zB, g, zB, z01 d])]
        unfold z69
        rw [hg, zB, w7f _ _ (hn.2 _ ht).2.1 hd, zB]
        rw [wg9 _ G.len (z3n _ _ (z6a n)) (z6a n) _ 4 (by omega) G.tos (zw3.1 G.ok) (fun n s => by rw [z3n, if_neg (by simp)])
          (fun n i p s b c d g o => by rw [z3n, if_pos (zT c)]; simp only [b, zB, g, z01 d, z01 o]; rfl)]
        unfold z6a giveL
        have hl : (incs (zeros m (atI n.tasks t).clear) (splL (atI n.tasks t).split data (atI n.tasks t).out [])).length = m.length := by rw [w0d, y6i]
        rw [y8e _ _ (by rw [hl]; exact hm), zB]
        unfold marksB
        rw [hl, zT f2, Bool.true_and]
        show (if okM _ = true then _ else _) = _
        cases okM (incs (zeros m (atI n.tasks t).clear) (splL (atI n.tasks t).split data (atI n.tasks t).out [])) <;> rfl
      · rw [if_pos h1, if_pos h2, if_neg h3, zF.2 h3]; simp
    · rw [if_pos h1, if_neg h2, zF.2 h2]; simp
  · rw [if_neg h1, zF.2 h1]; simp
end Go.Am.Pl
end
section
namespace Go.Am.Pl
open Go
theorem w30 (n : GNet) (m : List Int) (t : Int) (data : List Int) : (giveB n m t data).1.length ≤ m.length := by
  unfold giveB
  cases mrkB n m && (inB t 0 ((n.tasks.length : Int) - 1) && (datOk data && okM (giveL n m (atI n.tasks t) data)))
  · simp
  · show (giveL n m (atI n.tasks t) data).length ≤ _
    unfold giveL; rw [w0d, y6i]; exact Nat.le_refl _
theorem w31 {n : GNet} {m : List Int} {t : Int} {data : List Int} (h : (giveB n m t data).2 = true) : getI (giveB n m t data).1 1 = some (atI (giveB n m t data).1 1) := by
  have hl : (2 : Int) ≤ ((giveB n m t data).1.length : Int) := by
    unfold giveB at h ⊢
    cases e : mrkB n m && (inB t 0 ((n.tasks.length : Int) - 1) && (datOk data && okM (giveL n m (atI n.tasks t) data)))
    · rw [e] at h; cases h
    · show (2 : Int) ≤ ((giveL n m (atI n.tasks t) data).length : Int)
      unfold giveL; rw [w0d, y6i]
      rw [zA] at e
      obtain ⟨f1, f2, f3⟩ := zf2 e.1
      have := z50 f1; omega
  exact z16 _ (by omega) (by omega)
def datB (data : List Int) (v num : Int) : List Int := if 0 ≤ v then data.set v.toNat num else data
theorem ya2 (data : List Int) (v num : Int) : (datB data v num).length = data.length := by unfold datB; split <;> simp
theorem yc9 {data : List Int} (h : datOk data = true) : data.length = 3 := by simp only [datOk, zA, zE] at h; exact h.1
theorem w5q {data : List Int} {v num : Int} (hd : datOk data = true) (hv : inB v (-1) 2 = true) (hn : inB num (-99) 99 = true) : ze2 data v num = some (datB data v num) := by
  have hl := yc9 hd
  have hv' := z1e.1 hv
  have hs : data.length ≤ SMALL := by unfold SMALL; omega
  unfold ze2 datB
  rw [zq7 _ hs, zB, if_pos hd, z3t, zB, z3t, zB, if_pos hn, z01 (by simpa using hs), List.nil_append]
  by_cases h : 0 ≤ v
  · rw [if_pos (z1e.2 ⟨h, hv'.2⟩), z16 data h (by omega), if_pos h]; rfl
  · rw [if_neg (fun e => h (z1e.1 e).1), if_neg h, z01 (by simpa using hs)]
def itD (b : GItem) : GItem := GItem.mk b.task b.who (b.did + 1)
def doneB (n : GNet) (c : GCase) (k : Int) (data : List Int) : GCase × Bool :=
  if (atI c.busy k).did + 1 < (atI n.tasks (atI c.busy k).task).need then (GCase.mk c.state c.marks (c.busy.set k.toNat (itD (atI c.busy k))) data c.did, true)
  else if (giveB n c.marks (atI c.busy k).task data).2 = true then
    (if 0 < atI (giveB n c.marks (atI c.busy k).task data).1 1 then (GCase.mk 2 (giveB n c.marks (atI c.busy k).task data).1 [] data (c.did ++ [GDid.mk (atI c.busy k).task (atI c.busy k).who]), true)
     else (GCase.mk c.state (giveB n c.marks (atI c.busy k).task data).1 (c.busy.take k.toNat ++ c.busy.drop (k + 1).toNat) data (c.did ++ [GDid.mk (atI c.busy k).task (atI c.busy k).who]), true))
  else (c, false)
def workB (n : GNet) (c : GCase) (k v num : Int) : GCase × Bool :=
  bif casB n c && (decide (c.state = 1) && (inB k 0 ((c.busy.length : Int) - 1) && (inB v (-1) 2 && (inB num (-99) 99 && !decide ((c.did.length : Int) = 60))))) then doneB n c k (datB c.data v num) else (c, false)
theorem y8o (n : GNet) (c : GCase) (k v num : Int) (hn : n.small) (hc : c.small) : z6u n c k v num = some (workB n c k v num) := by
  unfold z6u workB
  rw [zh0 c hc, zB, y7t n c hn hc, zB, z01 (z78 hc.2.1)]
  simp only [z3t, zB]
  by_cases h1 : casB n c = true
  case neg => rw [if_neg h1, zF.2 h1]; rfl
  by_cases h2 : c.state = 1
  case neg => rw [if_pos h1, if_neg (by simpa using h2), decide_eq_false h2]; simp
  by_cases h3 : inB k 0 ((c.busy.length : Int) - 1) = true
  case neg => rw [if_pos h1, if_pos (zT h2), if_neg h3, zF.2 h3]; simp
  by_cases h4 : inB v (-1) 2 = true
  case neg => rw [if_pos h1, if_pos (zT h2), if_pos h3, if_neg h4, zF.2 h4]; simp
  by_cases h5 : inB num (-99) 99 = true
  case neg => rw [if_pos h1, if_pos (zT h2), if_pos h3, if_pos h4, if_neg h5, zF.2 h5]; simp
  by_cases h6 : (c.did.length : Int) = 60
  · rw [if_pos h1, if_pos (zT h2), if_pos h3, if_pos h4, if_pos h5, if_pos (zT h6), zT h6]; simp
  rw [if_pos h1, if_pos (zT h2), if_pos h3, if_pos h4, if_pos h5, if_neg (by simpa using h6), h1, zT h2, h3, h4, h5, decide_eq_false h6]
  have F := z79 h1
  have hk := z1e.1 h3
  have hb := z4l c.busy hk.1 (by omega)
  obtain ⟨ft, fw, fd⟩ := F.busy _ hb
  have ht := z4l n.tasks ft.1 ft.2
  have T := z51 F.net ht
  have hneed := T.need
  have hall := T.all
  have hl := yc9 F.data
  have hds : (datB c.data v num).length ≤ SMALL := by rw [ya2]; unfold SMALL; omega
  have h60 := F.didl
  have hbl := F.busyl
  rw [z16 c.busy hk.1 (by omega), zB, w5q F.data h4 h5, zB, z01 (by constructor <;> omega), zB, z01 (by constructor <;> omega), z16 n.tasks ft.1 ft.2, zB]
  show _ = some (doneB n c k (datB c.data v num))
  unfold doneB
  by_cases h7 : (atI c.busy k).did + 1 < (atI n.tasks (atI c.busy k).task).need
  · rw [if_pos (zT h7), if_pos h7]; rfl
  rw [if_neg (by simpa using h7), if_neg h7, w4b n _ _ _ hn hc.1 hds, zB]
  by_cases h8 : (giveB n c.marks (atI c.busy k).task (datB c.data v num)).2 = true
  case neg => rw [if_neg h8, if_neg h8]
  rw [if_pos h8, if_pos h8, z01 (by omega), z01 (by simp; unfold SMALL; omega), z01 (by constructor <;> omega), z01 (by omega), z01 (by simp; unfold SMALL; omega), z01 (by simp; unfold SMALL; omega), w31 h8, zB]
  by_cases h9 : 0 < atI (giveB n c.marks (atI c.busy k).task (datB c.data v num)).1 1
  · rw [if_pos (zT h9), if_pos h9]
  · rw [if_neg (by simpa using h9), if_neg h9]; rfl
theorem w34 (n : GNet) (c : GCase) (k v num : Int) (hn : n.small) (hc : c.small) : z9l n c k v num = some (workB n c k v num) := by
  unfold z9l workB
  rw [z54 c hc, zB, zi1 n c hn hc, zB, z01 (z78 hc.2.1)]
  simp only [z6j, y1c, zB]
  by_cases h1 : casB n c = true
  case neg => rw [zF.2 h1]; rfl
  by_cases h2 : c.state = 1
  case neg => rw [decide_eq_false h2]; simp
  rw [h1, zT h2]
  by_cases h3 : inB k 0 ((c.busy.length : Int) - 1) = true
  case neg => rw [zF.2 h3]; simp
  by_cases h4 : inB v (-1) 2 = true
  case neg => rw [h3, zF.2 h4]; simp
  by_cases h5 : inB num (-99) 99 = true
  case neg => rw [h3, h4, zF.2 h5]; simp
  by_cases h6 : (c.did.length : Int) = 60
  · rw [h3, h4, h5, zT h6]; simp
  rw [h3, h4, h5, decide_eq_false h6]
  have F := z79 h1
  have hk := z1e.1 h3
  have hv := z1e.1 h4
  have hb := z4l c.busy hk.1 (by omega)
  obtain ⟨ft, fw, fd⟩ := F.busy _ hb
  have ht := z4l n.tasks ft.1 ft.2
  have T := z51 F.net ht
  have hneed := T.need
  have hall := T.all
  have hl := yc9 F.data
  have h60 := F.didl
  have hbl := F.busyl
  have e1 : ∀ x : GItem, (c.busy.set k.toNat x).take k.toNat = c.busy.take k.toNat := fun x => List.take_set_of_le (Nat.le_refl _)
  have e2 : ∀ x : GItem, (c.busy.set k.toNat x).drop (k + 1).toNat = c.busy.drop (k + 1).toNat := fun x => List.drop_set_of_lt (by omega)
  have hD : ∀ x : GItem, z4f (c.busy.set k.toNat x) k (k + 1) = some (c.busy.take k.toNat ++ c.busy.drop (k + 1).toNat) := fun x => by
    unfold z4f; rw [z01 (by simp; omega), e1, e2]
  have okd : ok64 ((atI c.busy k).did + 1) := by constructor <;> omega
  have okk : ok64 (k + 1) := by constructor <;> omega
  have hsd : ∀ y : GDid, c.did.length + [y].length ≤ SMALL := fun y => by simp; unfold SMALL; omega
  have cl : ∀ (s : Int) (m : List Int) (b : List GItem) (d : List Int) (y : GDid), m.length ≤ c.marks.length → b.length ≤ c.busy.length → d.length = 3 → z03 (GCase.mk s m b d (c.did ++ [y])) = some (GCase.mk s m b d (c.did ++ [y])) := fun s m b d y hm hb hd =>
    z54 _ ⟨Nat.le_trans hm hc.1, Nat.le_trans hb hc.2.1, by show d.length ≤ _; unfold SMALL; omega, by show (c.did ++ [y]).length ≤ _; rw [zL]; exact hsd y⟩
  have tdl : (c.busy.take k.toNat ++ c.busy.drop (k + 1).toNat).length ≤ c.busy.length := by simp; omega
  have tail : ∀ data : List Int, data.length = 3 → (if decide ((atI c.busy k).did + 1 < (atI n.tasks (atI c.busy k).task).need) = true then some (GCase.mk c.state c.marks (c.busy.set k.toNat (itD (atI c.busy k))) data c.did, true)
      else (z5l n c.marks (atI c.busy k).task data).bind fun x18 => if x18.2 = true then gd (c.did.length + [GDid.mk (atI c.busy k).task (atI c.busy k).who].length ≤ SMALL) (gd (ok64 (k + 1)) ((z4f (c.busy.set k.toNat (itD (atI c.busy k))) k (k + 1)).bind fun x22 => (getI x18.1 1).bind fun x23 =>
        if decide (0 < x23) = true then (z03 (GCase.mk 2 x18.1 [] data (c.did ++ [GDid.mk (atI c.busy k).task (atI c.busy k).who]))).bind fun x25 => some (x25, true)
        else (z03 (GCase.mk c.state x18.1 x22 data (c.did ++ [GDid.mk (atI c.busy k).task (atI c.busy k).who]))).bind fun x26 => some (x26, true))) else some (c, false)) = some (doneB n c k data) := by
    intro data hdl
    unfold doneB
    by_cases h7 : (atI c.busy k).did + 1 < (atI n.tasks (atI c.busy k).task).need
    · rw [if_pos (zT h7), if_pos h7]
    rw [if_neg (by simpa using h7), if_neg h7, w35 n _ _ _ hn hc.1 (by unfold SMALL; omega), zB]
    have hgl := w30 n c.marks (atI c.busy k).task data
    by_cases h8 : (giveB n c.marks (atI c.busy k).task data).2 = true
    case neg => rw [if_neg h8, if_neg h8]
    rw [if_pos h8, if_pos h8, z01 (hsd _), z01 okk, hD, zB, w31 h8, zB]
    by_cases h9 : 0 < atI (giveB n c.marks (atI c.busy k).task data).1 1
    · rw [if_pos (zT h9), if_pos h9, cl _ _ _ _ _ hgl (Nat.zero_le _) hdl]; rfl
    · rw [if_neg (by simpa using h9), if_neg h9, cl _ _ _ _ _ hgl tdl hdl]; rfl
  rw [if_pos (show (true && true) = true from rfl), if_pos rfl, if_pos rfl, if_pos rfl, if_neg (by simp)]
  by_cases hv0 : 0 ≤ v
  · rw [if_pos (zT hv0), z16 c.data hv0 (by omega), zB, z16 c.busy hk.1 (by omega), zB, z01 okd, z16 n.tasks ft.1 ft.2, zB]
    have := tail (datB c.data v num) (by rw [ya2, hl])
    unfold datB at this ⊢
    rw [if_pos hv0] at this ⊢
    exact this
  · rw [if_neg (by simpa using hv0), z16 c.busy hk.1 (by omega), zB, z01 okd, z16 n.tasks ft.1 ft.2, zB]
    have := tail (datB c.data v num) (by rw [ya2, hl])
    unfold datB at this ⊢
    rw [if_neg hv0] at this ⊢
    exact this
end Go.Am.Pl
end
section
namespace Go.Am.Pl
open Go
end Go.Am.Pl
end
section
namespace Go.Am.Pl
open Go
theorem y5c {α γ β : Type} (l : List α) (hl : l.length ≤ SMALL) (e : α → List γ) (f : Nat → Int → List γ → Option β) (kx : List γ → Option β) (h0 : ∀ n s, f (n + 1) (l.length : Int) s = kx s)
    (h1 : ∀ n pre x suf s, l = pre ++ x :: suf → getI l (pre.length : Int) = some x → x ∈ l → (pre.length : Int) < (l.length : Int) → ok64 ((pre.length : Int) + 1) → s = pre.flatMap e → f (n + 1) (pre.length : Int) s = f n ((pre.length : Int) + 1) (s ++ e x)) :
    f FUEL 0 [] = kx (l.flatMap e) := by
  have := scan l (by unfold SMALL at hl; omega) f (fun pre suf s => kx (s ++ suf.flatMap e)) (fun pre s => s = pre.flatMap e) (fun n s _ => by rw [h0]; simp)
    (fun n pre x suf s a b c d i k => by
      rw [h1 n pre x suf s a b (by rw [a]; simp) c d i, k (s ++ e x) (by rw [i]; simp)]
      simp) FUEL [] rfl (by have := z1v; unfold SMALL at hl; omega)
  rw [this]; simp
theorem y5e {α γ : Type} {e : α → List γ} (he : ∀ x, (e x).length ≤ 1) : ∀ l : List α, (l.flatMap e).length ≤ l.length
  | [] => by simp
  | x :: l => by have := y5e he l; have := he x; simp only [List.flatMap_cons, zL, zC]; omega
end Go.Am.Pl
end
section
namespace Go.Am.Pl
open Go
def atB (l : List Bool) (p : Int) : Bool := (getI l p).getD false
theorem zc8 (l : List Bool) {i : Int} (h0 : 0 ≤ i) (h1 : i < l.length) : getI l i = some (atB l i) := by
  obtain ⟨x, hx, _⟩ := w07 l h0 h1
  unfold atB; rw [hx]; rfl
def setT (l : List Bool) (p : Int) : List Bool := l.set p.toNat true
theorem z8q (l : List Bool) (p : Int) : (setT l p).length = l.length := by simp [setT]
theorem y6u (l : List Bool) {p q : Int} (hp : 0 ≤ p) (hq : 0 ≤ q) (hl : q < l.length) : atB (setT l p) q = (decide (p = q) || atB l q) := by
  unfold atB setT
  rw [w08 l true hp hq hl]
  by_cases h : p = q <;> simp [h]
def setTs (l : List Bool) (ps : List Int) : List Bool := ps.foldl setT l
theorem w47 : ∀ (ps : List Int) (l : List Bool), (setTs l ps).length = l.length
  | [], l => rfl
  | p :: ps, l => by show (setTs (setT l p) ps).length = _; rw [w47 ps, z8q]
theorem yw3 : ∀ (ps : List Int) (l : List Bool) {q : Int}, (∀ p ∈ ps, 0 ≤ p) → 0 ≤ q → q < l.length → atB (setTs l ps) q = (decide (q ∈ ps) || atB l q)
  | [], l, q, _, _, _ => by simp [setTs]
  | p :: ps, l, q, hp, h0, h1 => by
    show atB (setTs (setT l p) ps) q = _
    rw [yw3 ps (setT l p) (fun x hx => hp x (by simp [hx])) h0 (by rw [z8q]; exact h1), y6u l (hp p (by simp)) h0 h1]
    by_cases h : p = q
    · subst h; simp
    · have : q ≠ p := fun e => h e.symm
      simp [h, this]
def rndT (but i : Int) (t : GTask) (l : List Bool) : List Bool := if i ≠ but ∧ t.in_.any (atB l) = true then setTs l (t.out.map (·.to)) else l
def rnd (but : Int) : Int → List GTask → List Bool → List Bool
  | _, [], l => l
  | i, t :: ts, l => rnd but (i + 1) ts (rndT but i t l)
theorem z8p (but i : Int) (t : GTask) (l : List Bool) : (rndT but i t l).length = l.length := by
  unfold rndT; split
  · rw [w47]
  · rfl
theorem z9i (but : Int) : ∀ (ts : List GTask) (i : Int) (l : List Bool), (rnd but i ts l).length = l.length
  | [], _, _ => rfl
  | t :: ts, i, l => by unfold rnd; rw [z9i but ts, z8p]
def Pls (N : Int) (ts : List GTask) : Prop := ∀ t ∈ ts, (∀ p ∈ t.in_, 0 ≤ p ∧ p < N) ∧ ∀ f ∈ t.out, 0 ≤ f.to ∧ f.to < N
theorem w5j {but i : Int} {t : GTask} {l : List Bool} (ht : ∀ f ∈ t.out, 0 ≤ f.to ∧ f.to < (l.length : Int)) {q : Int} (h0 : 0 ≤ q) (h1 : q < l.length) :
    atB (rndT but i t l) q = ((decide (i ≠ but) && t.in_.any (atB l) && t.out.any (fun f => decide (f.to = q))) || atB l q) := by
  unfold rndT
  by_cases hc : i ≠ but ∧ t.in_.any (atB l) = true
  · rw [if_pos hc, yw3 _ _ (fun p hp => by obtain ⟨f, hf, e⟩ := zQ.1 hp; subst e; exact (ht f hf).1) h0 h1, zT hc.1, hc.2, Bool.true_and, Bool.true_and]
    congr 1
    rw [Bool.eq_iff_iff]; simp
  · rw [if_neg hc]
    have : (decide (i ≠ but) && t.in_.any (atB l)) = false := by
      rw [zF]; intro h; rw [zA, zE] at h; exact hc h
    rw [this]; rfl
def Sub (a b : List Bool) : Prop := ∀ q : Int, 0 ≤ q → q < a.length → atB a q = true → atB b q = true
theorem w1g {but i : Int} {t : GTask} {l : List Bool} (ht : ∀ f ∈ t.out, 0 ≤ f.to ∧ f.to < (l.length : Int)) : Sub l (rndT but i t l) := fun q h0 h1 h => by
  rw [w5j ht h0 h1, h, Bool.or_true]
theorem y52 {but : Int} : ∀ (ts : List GTask) (i : Int) (l : List Bool), Pls l.length ts → Sub l (rnd but i ts l)
  | [], _, _, _ => fun _ _ _ h => h
  | t :: ts, i, l, hp => fun q h0 h1 h => by
    have ht := (hp t (by simp)).2
    unfold rnd
    exact y52 ts (i + 1) (rndT but i t l) (by rw [z8p]; exact fun x hx => hp x (by simp [hx])) q h0 (by rw [z8p]; exact h1) (w1g ht q h0 h1 h)
def Stp (but : Int) (ts : List GTask) (p q : Int) : Prop := ∃ (j : Nat) (t : GTask), ts[j]? = some t ∧ (j : Int) ≠ but ∧ p ∈ t.in_ ∧ ∃ f ∈ t.out, f.to = q
inductive Star (but : Int) (ts : List GTask) : Int → Int → Prop where
  | refl (p : Int) : Star but ts p p
  | tail {p q r : Int} : Star but ts p q → Stp but ts q r → Star but ts p r
def Sound (but : Int) (ts : List GTask) (S : Int → Prop) (l : List Bool) : Prop := ∀ q : Int, 0 ≤ q → q < l.length → atB l q = true → ∃ p, S p ∧ Star but ts p q
theorem w45 {but : Int} {all : List GTask} {S : Int → Prop} : ∀ (ts pre : List GTask) (l : List Bool), all = pre ++ ts → Pls l.length all → Sound but all S l → Sound but all S (rnd but pre.length ts l)
  | [], _, _, _, _, h => h
  | t :: ts, pre, l, ha, hp, h => by
    have hm : t ∈ all := by rw [ha]; simp
    have ht := hp t hm
    unfold rnd
    have := w45 (all := all) (S := S) ts (pre ++ [t]) (rndT but pre.length t l) (by rw [ha]; simp) (by rw [z8p]; exact hp) (fun q h0 h1 hq => by
      rw [z8p] at h1
      rw [w5j ht.2 h0 h1] at hq
      rcases Bool.or_eq_true _ _ ▸ hq with hq | hq
      · simp only [zA, zE, List.any_eq_true] at hq
        obtain ⟨⟨hb, p, hpi, hpt⟩, f, hf, e⟩ := hq
        obtain ⟨s, hs, hst⟩ := h p (ht.1 p hpi).1 (ht.1 p hpi).2 hpt
        exact ⟨s, hs, hst.tail ⟨pre.length, t, by rw [ha]; simp, hb, hpi, f, hf, e⟩⟩
      · exact h q h0 h1 hq)
    simpa using this
def Shut (but : Int) (ts : List GTask) (l : List Bool) : Prop := ∀ p q : Int, 0 ≤ p → p < l.length → atB l p = true → Stp but ts p q → atB l q = true
theorem wj0 {but i : Int} {t : GTask} {l : List Bool} (h : rndT but i t l = l) (ht : ∀ f ∈ t.out, 0 ≤ f.to ∧ f.to < (l.length : Int)) (hb : i ≠ but) {p : Int} (hp : p ∈ t.in_) (hl : atB l p = true) : ∀ f ∈ t.out, atB l f.to = true := fun f hf => by
  have := w5j (but := but) (i := i) ht (ht f hf).1 (ht f hf).2
  rw [h] at this
  rw [this, zT hb, Bool.true_and, List.any_eq_true.2 ⟨p, hp, hl⟩, Bool.true_and, List.any_eq_true.2 ⟨f, hf, by simp⟩]; rfl
theorem wc0 {a b : List Bool} (hl : a.length = b.length) (h1 : Sub a b) (h2 : Sub b a) : a = b := by
  apply List.ext_getElem?
  intro j
  by_cases hj : j < a.length
  · have e1 := h1 j (by omega) (by omega)
    have e2 := h2 j (by omega) (by omega)
    unfold atB at e1 e2
    rw [zc9, zc9] at e1 e2
    rw [List.getElem?_eq_getElem hj, List.getElem?_eq_getElem (show j < b.length by omega)] at e1 e2 ⊢
    simp only [Option.getD_some] at e1 e2
    cases ha : a[j] <;> cases hb : b[j] <;> simp_all
  · rw [List.getElem?_eq_none (by omega), List.getElem?_eq_none (by omega)]
theorem Sub.trans {a b c : List Bool} (hl : a.length = b.length) (h1 : Sub a b) (h2 : Sub b c) : Sub a c := fun q h0 h3 h => h2 q h0 (by omega) (h1 q h0 h3 h)
theorem wa8 {but : Int} : ∀ (ts : List GTask) (i : Int) (l : List Bool), Pls l.length ts → rnd but i ts l = l → ∀ (j : Nat) (t : GTask), ts[j]? = some t → rndT but (i + j) t l = l
  | [], _, _, _, _, j, t, h => by simp at h
  | u :: ts, i, l, hp, h, j, t, hj => by
    have hu := (hp u (by simp)).2
    have hp' : Pls ((rndT but i u l).length) ts := by rw [z8p]; exact fun x hx => hp x (by simp [hx])
    have h2 := y52 (but := but) ts (i + 1) (rndT but i u l) hp'
    unfold rnd at h
    rw [h] at h2
    have e : rndT but i u l = l := wc0 (z8p _ _ _ _) h2 (w1g hu)
    cases j with
    | zero => simp at hj; subst hj; simpa using e
    | succ j =>
      rw [e] at h
      have := wa8 ts (i + 1) l (fun x hx => hp x (by simp [hx])) h j t (by simpa using hj)
      rw [show i + ((j + 1 : Nat) : Int) = i + 1 + j by omega]; exact this
theorem wg5 {but : Int} {ts : List GTask} {l : List Bool} (hp : Pls l.length ts) (h : rnd but 0 ts l = l) : Shut but ts l := fun p q h0 h1 ha ⟨j, t, hj, hb, hpi, f, hf, e⟩ => by
  subst e
  have := wa8 ts 0 l hp h j t hj
  rw [Int.zero_add] at this
  exact wj0 this (hp t (List.mem_iff_getElem?.2 ⟨j, hj⟩)).2 hb hpi ha f hf
theorem wb3 {but : Int} {ts : List GTask} {l : List Bool} (hp : Pls l.length ts) (h : Shut but ts l) {p q : Int} (hs : Star but ts p q) (h0 : 0 ≤ p) (h1 : p < l.length) (ha : atB l p = true) : (0 ≤ q ∧ q < l.length) ∧ atB l q = true := by
  induction hs with
  | refl => exact ⟨⟨h0, h1⟩, ha⟩
  | tail _ st ih =>
    obtain ⟨⟨i0, i1⟩, i2⟩ := ih
    refine ⟨?_, h _ _ i0 i1 i2 st⟩
    obtain ⟨j, t, hj, _, _, f, hf, e⟩ := st
    subst e
    exact (hp t (List.mem_iff_getElem?.2 ⟨j, hj⟩)).2 f hf
def cntT (l : List Bool) : Nat := (l.filter id).length
theorem wm8 (l : List Bool) : cntT l ≤ l.length := List.length_filter_le _ _
theorem w1z (x : Bool) (l : List Bool) : cntT (x :: l) = (if x = true then 1 else 0) + cntT l := by
  unfold cntT; cases x <;> simp; omega
theorem w6c : ∀ (a b : List Bool), a.length = b.length → (∀ j : Nat, a[j]? = some true → b[j]? = some true) → cntT a ≤ cntT b ∧ (cntT a = cntT b → a = b)
  | [], [], _, _ => ⟨Nat.le_refl _, fun _ => rfl⟩
  | [], _ :: _, h, _ => by simp at h
  | _ :: _, [], h, _ => by simp at h
  | x :: a, y :: b, hl, h => by
    have h0 : x = true → y = true := fun e => by have := h 0 (by simp [e]); simpa using this
    obtain ⟨i1, i2⟩ := w6c a b (by simpa using hl) (fun j hj => by have := h (j + 1) (by simpa using hj); simpa using this)
    rw [w1z, w1z]
    cases x <;> cases y
    · exact ⟨by simpa using i1, fun e => by rw [i2 (by simpa using e)]⟩
    · exact ⟨by simp; omega, fun e => by simp at e; omega⟩
    · exact absurd (h0 rfl) (by simp)
    · exact ⟨by simpa using i1, fun e => by rw [i2 (by simpa using e)]⟩
theorem w5w {a b : List Bool} (hl : a.length = b.length) (h : Sub a b) : cntT a ≤ cntT b ∧ (cntT a = cntT b → a = b) := by
  refine w6c a b hl fun j hj => ?_
  have hlt : j < a.length := by
    rcases Nat.lt_or_ge j a.length with h2 | h2
    · exact h2
    · rw [List.getElem?_eq_none h2] at hj; cases hj
  have := h j (by omega) (by omega) (by unfold atB; rw [zc9, hj]; rfl)
  unfold atB at this
  rw [zc9] at this
  cases e : b[j]? with
  | none => rw [e] at this; cases this
  | some v => rw [e] at this; simp at this; rw [this]
def iter (but : Int) (ts : List GTask) : Nat → List Bool → List Bool
  | 0, l => l
  | k + 1, l => iter but ts k (rnd but 0 ts l)
theorem y5r (but : Int) (ts : List GTask) : ∀ (k : Nat) (l : List Bool), (iter but ts k l).length = l.length
  | 0, _ => rfl
  | k + 1, l => by show (iter but ts k (rnd but 0 ts l)).length = _; rw [y5r but ts k, z9i]
theorem yg3 {but : Int} {ts : List GTask} {l : List Bool} (h : rnd but 0 ts l = l) : ∀ k : Nat, iter but ts k l = l
  | 0 => rfl
  | k + 1 => by show iter but ts k (rnd but 0 ts l) = l; rw [h]; exact yg3 h k
theorem ya8 {but : Int} {ts : List GTask} : ∀ (k : Nat) (l : List Bool), Pls l.length ts → l.length ≤ cntT l + k → rnd but 0 ts (iter but ts k l) = iter but ts k l
  | 0, l, hp, h => by
    have hs := y52 (but := but) ts 0 l hp
    obtain ⟨h1, h2⟩ := w5w (z9i but ts 0 l).symm hs
    have h3 := wm8 (rnd but 0 ts l)
    rw [z9i] at h3
    exact (h2 (by omega)).symm
  | k + 1, l, hp, h => by
    by_cases e : rnd but 0 ts l = l
    · rw [yg3 e]; exact e
    · have hs := y52 (but := but) ts 0 l hp
      obtain ⟨h1, h2⟩ := w5w (z9i but ts 0 l).symm hs
      have h4 : cntT l ≠ cntT (rnd but 0 ts l) := fun e2 => e (h2 e2).symm
      exact ya8 k (rnd but 0 ts l) (by rw [z9i]; exact hp) (by rw [z9i]; omega)
theorem w0g {but : Int} {ts : List GTask} : ∀ (k : Nat) (l : List Bool), Pls l.length ts → Sub l (iter but ts k l)
  | 0, _, _ => fun _ _ _ h => h
  | k + 1, l, hp => Sub.trans (z9i but ts 0 l).symm (y52 ts 0 l hp) (w0g k (rnd but 0 ts l) (by rw [z9i]; exact hp))
theorem y79 {but : Int} {ts : List GTask} {S : Int → Prop} : ∀ (k : Nat) (l : List Bool), Pls l.length ts → Sound but ts S l → Sound but ts S (iter but ts k l)
  | 0, _, _, h => h
  | k + 1, l, hp, h => y79 k (rnd but 0 ts l) (by rw [z9i]; exact hp) (w45 ts [] l rfl hp h)
theorem yv5 {but : Int} {ts : List GTask} {l r : List Bool} (hp : Pls l.length ts) (hl : r.length = l.length) (h1 : Sub l r) (h2 : rnd but 0 ts r = r) (h3 : Sound but ts (fun p => (0 ≤ p ∧ p < l.length) ∧ atB l p = true) r) {q : Int} (h0 : 0 ≤ q) (hq : q < l.length) :
    atB r q = true ↔ ∃ p : Int, ((0 ≤ p ∧ p < l.length) ∧ atB l p = true) ∧ Star but ts p q := by
  have hp' : Pls r.length ts := by rw [hl]; exact hp
  constructor
  · exact h3 q h0 (by rw [hl]; exact hq)
  · rintro ⟨p, ⟨⟨a, b⟩, c⟩, st⟩
    exact (wb3 hp' (wg5 hp' h2) st a (by rw [hl]; exact b) (h1 p a b c)).2
theorem yv3 {but : Int} {ts : List GTask} (l : List Bool) : Sound but ts (fun p => (0 ≤ p ∧ p < l.length) ∧ atB l p = true) l := fun q h0 h1 h => ⟨q, ⟨⟨h0, h1⟩, h⟩, .refl q⟩
end Go.Am.Pl
end
section
namespace Go.Am.Pl
open Go
theorem scanE {α β σ : Type} (l : List α) (hl : l.length ≤ SMALL) (f : Nat → Int → σ → Option β) (kx : σ → Option β) (Inv : List α → σ → Prop)
    (h0 : ∀ n s, f (n + 1) (l.length : Int) s = kx s)
    (h1 : ∀ n pre x suf s, l = pre ++ x :: suf → getI l (pre.length : Int) = some x → x ∈ l → ((pre.length : Int) < (l.length : Int)) → ok64 ((pre.length : Int) + 1) → Inv pre s →
      ∃ s', Inv (pre ++ [x]) s' ∧ f (n + 1) (pre.length : Int) s = f n ((pre.length : Int) + 1) s') :
    ∀ s, Inv [] s → ∃ s', Inv l s' ∧ f FUEL 0 s = kx s' := by
  unfold SMALL at hl
  have key : ∀ suf pre n s, l = pre ++ suf → Inv pre s → suf.length < n → ∃ s', Inv l s' ∧ f n (pre.length : Int) s = kx s' := by
    intro suf
    induction suf with
    | nil =>
      intro pre n s hp hi hn
      obtain ⟨m, rfl⟩ : ∃ m, n = m + 1 := ⟨n - 1, by simp at hn; omega⟩
      simp only [List.append_nil] at hp
      subst hp
      exact ⟨s, hi, h0 m s⟩
    | cons x suf ih =>
      intro pre n s hp hi hn
      obtain ⟨m, rfl⟩ : ∃ m, n = m + 1 := ⟨n - 1, by simp at hn; omega⟩
      have hlen : l.length = pre.length + suf.length + 1 := by rw [hp]; simp; omega
      obtain ⟨s', hi', e⟩ := h1 m pre x suf s hp (by rw [hp]; exact w06 pre x suf) (by rw [hp]; simp) (by omega) (by constructor <;> omega) hi
      obtain ⟨s2, hi2, e2⟩ := ih (pre ++ [x]) m s' (by rw [hp]; simp) hi' (by simp at hn; omega)
      refine ⟨s2, hi2, ?_⟩
      rw [e, ← e2]; simp
  intro s hi
  exact key l [] FUEL s (by simp) hi (by have := z1v; omega)
theorem wt2 {n : GNet} {i : Int} {t : GTask} {l : List Bool} (kx : Bool → Option (List Bool)) (h : getI n.tasks i = some t) (hs : t.in_.length ≤ SMALL) (hp : ∀ p ∈ t.in_, 0 ≤ p ∧ p < l.length) :
    z1i n i l kx FUEL false 0 = kx (t.in_.any (atB l)) :=
  scan t.in_ (by unfold SMALL at hs; omega) (fun f k s => z1i n i l kx f s k) (fun _ suf s => kx (s || suf.any (atB l))) (fun _ _ => True)
    (fun f s _ => by rw [z1i, h, zB, if_neg (by simp)]; simp)
    (fun f pre x suf s a b c d _ k => by
      have hx := hp x (by rw [a]; simp)
      rw [z1i, h, zB, if_pos (zT c)]
      cases s
      · rw [if_neg (by simp), zB, b, zB, zc8 l hx.1 hx.2, zB, z01 d, k _ trivial]; simp
      · rw [if_pos rfl, z01 d, k _ trivial]; simp) FUEL false trivial (by have := z1v; unfold SMALL at hs; omega)
theorem wp9 {n : GNet} {but i : Int} {t : GTask} {s : Bool} {l : List Bool} (kx : List Bool → Option (List Bool)) (h : getI n.tasks i = some t) (hs : t.out.length ≤ SMALL) (hp : ∀ f ∈ t.out, 0 ≤ f.to ∧ f.to < l.length) :
    z14 n but i s kx kx kx FUEL 0 l = kx (if i ≠ but ∧ s = true then setTs l (t.out.map (·.to)) else l) := by
  obtain ⟨g, hF⟩ : ∃ g, FUEL = g + 1 := ⟨FUEL - 1, by have := z1v; omega⟩
  by_cases hb : i = but
  · rw [hF, z14, h, zB]
    cases s <;> simp [hb]
  · cases s
    · rw [hF, z14, h, zB]; simp
    · rw [if_pos ⟨hb, rfl⟩]
      exact scan t.out (by unfold SMALL at hs; omega) (z14 n but i true kx kx kx) (fun _ suf l => kx (setTs l (suf.map (·.to)))) (fun _ l2 => l2.length = l.length)
        (fun f s _ => by rw [z14, h, zB, if_neg (by simp)]; rfl)
        (fun f pre x suf s a b c d hi k => by
          have hx := hp x (by rw [a]; simp)
          rw [z14, h, zB, if_pos (zT c), if_pos rfl, if_neg (by simpa using hb), zB, b, zB, zc8 s hx.1 (by rw [hi]; exact hx.2), zB, z01 d]
          exact k _ (by rw [← hi, ← z8q s x.to]; rfl)) FUEL l rfl (by have := z1v; unfold SMALL at hs; omega)
theorem yb0 {n : GNet} (h : netB n = true) {N : Nat} (hN : (N : Int) = n.places) : Pls N n.tasks := fun t ht => by
  have T := z51 h ht
  refine ⟨fun p hp => by have := T.ins p hp; omega, fun f hf => ?_⟩
  have := w0j h ht f hf; omega
theorem w1i {n : GNet} {l : List Bool} (but : Int) (hn : n.small) (h : netB n = true) (hl : (l.length : Int) = n.places) : z8i n l but = some (iter but n.tasks l.length l) := by
  have hsz := z50 h
  have hP := yb0 h hl
  unfold z8i
  rw [z01 (by simp; unfold SMALL; omega), List.nil_append]
  have round : ∀ (kx : List Bool → Option (List Bool)) (s : List Bool), s.length = l.length → z0d n but kx FUEL 0 s = kx (rnd but 0 n.tasks s) := fun kx s hs =>
    scan n.tasks (by have := hn.1; unfold SMALL at this; omega) (z0d n but kx) (fun pre suf s => kx (rnd but pre.length suf s)) (fun _ s => s.length = l.length)
      (fun f s _ => by rw [z0d, if_neg (by simp)]; rfl)
      (fun f pre x suf s a b c d hi k => by
        have hx : x ∈ n.tasks := by rw [a]; simp
        have hx2 := hP x hx
        rw [z0d, if_pos (zT c), wt2 _ b (hn.2 x hx).1 (by rw [hi]; exact hx2.1)]
        unfold zj2
        have e2 : z8j (pre.length : Int) (z0d n but kx f) = fun z => z0d n but kx f ((pre.length : Int) + 1) z := funext fun z => by unfold z8j; rw [z01 d]
        have e3 : z8k (pre.length : Int) (z0d n but kx f) = fun z => z0d n but kx f ((pre.length : Int) + 1) z := funext fun z => by unfold z8k; rw [z01 d]
        have e4 : z8l (pre.length : Int) (z0d n but kx f) = fun z => z0d n but kx f ((pre.length : Int) + 1) z := funext fun z => by unfold z8l; rw [z01 d]
        rw [e2, e3, e4, wp9 _ b (hn.2 x hx).2.1 (by rw [hi]; exact hx2.2)]
        have := k (rndT but pre.length x s) (by rw [z8p, hi])
        rw [rnd]
        rw [zL, zJ] at this
        exact this) FUEL s hs (by have := z1v; have := hn.1; unfold SMALL at this; omega)
  have hrep : (List.replicate l.length ()).length = l.length := by simp
  have := scan (List.replicate l.length ()) (by rw [hrep]; omega) (z38 n but zj4) (fun _ suf s => some (iter but n.tasks suf.length s)) (fun _ s => s.length = l.length)
      (fun f s _ => by rw [z38, hrep, if_neg (by simp; omega)]; rfl)
      (fun f pre x suf s a b c d hi k => by
        rw [hrep] at c
        rw [z38, if_pos (by simp; omega), round _ s hi]
        unfold zj3
        rw [z01 d]
        exact k _ (by rw [z9i, hi])) FUEL l rfl (by have := z1v; rw [hrep]; omega)
  rw [this, hrep]
theorem wb1 {l : List Bool} {p : Int} (h0 : 0 ≤ p) (h1 : p < l.length) (h : atB l p = true) : setT l p = l :=
  wc0 (z8q l p) (fun q a b c => by
    rw [z8q] at b
    rw [y6u l h0 a b] at c
    rcases Bool.or_eq_true _ _ ▸ c with c | c
    · rw [zE] at c; subst c; exact h
    · exact c) (fun q a b c => by rw [y6u l h0 a b, c, Bool.or_true])
theorem wp6 {l : List Bool} {p : Int} {ps : List Int} (hp : ∀ x ∈ ps, 0 ≤ x) (h0 : 0 ≤ p) (h1 : p < l.length) (h : atB l p = false) : setTs (setT l p) ps ≠ l := fun e => by
  have h2 := yw3 ps (setT l p) hp h0 (by rw [z8q]; exact h1)
  rw [e, h, y6u l h0 h0 h1] at h2
  simp at h2
theorem wa6 (ps : List GFlow) (hs : ps.length ≤ SMALL) (kx : Bool → List Bool → Option (List Bool)) (c0 : Bool) (l0 : List Bool) (hp : ∀ f ∈ ps, 0 ≤ f.to ∧ f.to < l0.length) :
    z0e ps (ps.length : Int) kx FUEL 0 c0 l0 = kx (c0 || !decide (setTs l0 (ps.map (·.to)) = l0)) (setTs l0 (ps.map (·.to))) :=
  scan ps (by unfold SMALL at hs; omega) (fun n i (s : Bool × List Bool) => z0e ps (ps.length : Int) kx n i s.1 s.2) (fun _ suf s => kx (s.1 || !decide (setTs s.2 (suf.map (·.to)) = s.2)) (setTs s.2 (suf.map (·.to)))) (fun _ s => s.2.length = l0.length)
    (fun n s _ => by rw [z0e, if_neg (by simp)]; simp [setTs])
    (fun n pre x suf s a b c d hi k => by
      obtain ⟨s1, s2⟩ := s
      have hx := hp x (by rw [a]; simp)
      have hx2 : x.to < s2.length := by rw [hi]; exact hx.2
      have hg := zc8 s2 hx.1 hx2
      have hm : ∀ y ∈ suf.map (·.to), 0 ≤ y := fun y hy => by obtain ⟨f, hf, e⟩ := zQ.1 hy; subst e; exact (hp f (by rw [a]; simp [hf])).1
      show z0e ps (ps.length : Int) kx (n + 1) (pre.length : Int) s1 s2 = kx (s1 || !decide (setTs (setT s2 x.to) (suf.map (·.to)) = s2)) (setTs (setT s2 x.to) (suf.map (·.to)))
      rw [z0e, if_pos (zT c), b, zB]
      have fin : ∀ b2 : Bool, (b2 || !decide (setTs (setT s2 x.to) (suf.map (·.to)) = setT s2 x.to)) = (s1 || !decide (setTs (setT s2 x.to) (suf.map (·.to)) = s2)) → z0e ps (ps.length : Int) kx n ((pre.length : Int) + 1) b2 (s2.set x.to.toNat true) = kx (s1 || !decide (setTs (setT s2 x.to) (suf.map (·.to)) = s2)) (setTs (setT s2 x.to) (suf.map (·.to))) := fun b2 hb => by
        have := k (b2, setT s2 x.to) (by show (setT s2 x.to).length = _; rw [z8q, hi])
        rw [← hb]; exact this
      cases s1
      · rw [if_neg (by simp), hg, zB, zB, z01 d]
        refine fin _ ?_
        cases e : atB s2 x.to
        · simp [wp6 hm hx.1 hx2 e]
        · rw [wb1 hx.1 hx2 e]; rfl
      · rw [if_pos rfl, hg, zB, z01 d]
        exact fin _ (by simp)) FUEL (c0, l0) rfl (by have := z1v; unfold SMALL at hs; omega)
theorem ContainsB (s : List Int) (hs : s.length ≤ SMALL) (l : List Bool) (hp : ∀ p ∈ s, 0 ≤ p ∧ p < l.length) : z1o s (fun z => z4b z l) = some (s.any (atB l)) :=
  z6o s hs _ (atB l) (fun x hx => by unfold z4b; rw [zc8 l (hp x hx).1 (hp x hx).2]; rfl)
theorem yk0 {n : GNet} {N : Nat} (but : Int) (hn : n.small) (hP : Pls N n.tasks) (kx : Bool → List Bool → Option (List Bool)) (l0 : List Bool) (hl : l0.length = N) :
    z0a but kx FUEL n.tasks (n.tasks.length : Int) 0 false l0 = kx (!decide (rnd but 0 n.tasks l0 = l0)) (rnd but 0 n.tasks l0) := by
  have := scan n.tasks (by have := hn.1; unfold SMALL at this; omega) (fun f i (s : Bool × List Bool) => z0a but kx f n.tasks (n.tasks.length : Int) i s.1 s.2)
    (fun pre suf s => kx (s.1 || !decide (rnd but pre.length suf s.2 = s.2)) (rnd but pre.length suf s.2)) (fun _ s => s.2.length = N)
    (fun f s _ => by rw [z0a, if_neg (by simp)]; simp [rnd])
    (fun f pre x suf s a b c d hi k => by
      obtain ⟨s1, s2⟩ := s
      have hi2 : s2.length = N := hi
      have hx : x ∈ n.tasks := by rw [a]; simp
      have hx2 := hP x hx
      have hsuf : Pls (rndT but pre.length x s2).length suf := by rw [z8p, hi2]; exact fun y hy => hP y (by rw [a]; simp [hy])
      have fin : ∀ b2 : Bool, b2 = (s1 || !decide (rndT but pre.length x s2 = s2)) → z0a but kx f n.tasks (n.tasks.length : Int) ((pre.length : Int) + 1) b2 (rndT but pre.length x s2) = kx (s1 || !decide (rnd but pre.length (x :: suf) s2 = s2)) (rnd but pre.length (x :: suf) s2) := fun b2 hb => by
        have h2 := k (b2, rndT but pre.length x s2) (by show (rndT but pre.length x s2).length = _; rw [z8p, hi2])
        rw [zL, zJ] at h2
        have h3 : z0a but kx f n.tasks (n.tasks.length : Int) ((pre.length : Int) + 1) b2 (rndT but pre.length x s2) = kx (b2 || !decide (rnd but (pre.length + 1) suf (rndT but pre.length x s2) = rndT but pre.length x s2)) (rnd but (pre.length + 1) suf (rndT but pre.length x s2)) := h2
        rw [h3, rnd, hb]
        congr 1
        by_cases e : rndT but pre.length x s2 = s2
        · rw [e]; simp
        · have : rnd but (pre.length + 1) suf (rndT but pre.length x s2) ≠ s2 := fun e2 => e (by
            have h4 := y52 (but := but) suf (pre.length + 1) (rndT but pre.length x s2) hsuf
            rw [e2] at h4
            exact wc0 (z8p _ _ _ _) h4 (w1g (by rw [hi2]; exact hx2.2)))
          simp [e, this]
      show z0a but kx (f + 1) n.tasks (n.tasks.length : Int) (pre.length : Int) s1 s2 = kx (s1 || !decide (rnd but pre.length (x :: suf) s2 = s2)) (rnd but pre.length (x :: suf) s2)
      rw [z0a, if_pos (zT c), b, zB]
      by_cases hb : (pre.length : Int) = but
      · have e : rndT but pre.length x s2 = s2 := by unfold rndT; rw [if_neg (fun h => h.1 hb)]
        rw [if_pos (zT hb), z01 d]
        have := fin s1 (by rw [e]; simp)
        rw [e] at this; exact this
      · rw [if_neg (by simpa using hb), ContainsB x.in_ (hn.2 x hx).1 s2 (by rw [hi2]; exact hx2.1), zB]
        by_cases ha : x.in_.any (atB s2) = true
        · have e : rndT but pre.length x s2 = setTs s2 (x.out.map (·.to)) := by unfold rndT; rw [if_pos ⟨hb, ha⟩]
          rw [if_pos ha, wa6 x.out (hn.2 x hx).2.1 _ s1 s2 (by rw [hi2]; exact hx2.2)]
          unfold z91
          rw [z01 d, ← e]
          exact fin _ rfl
        · have e : rndT but pre.length x s2 = s2 := by unfold rndT; rw [if_neg (fun h => ha h.2)]
          rw [if_neg ha, z01 d]
          have := fin s1 (by rw [e]; simp)
          rw [e] at this; exact this) FUEL (false, l0) hl (by have := z1v; have := hn.1; unfold SMALL at this; omega)
  simpa using this
theorem w7q {n : GNet} {N : Nat} (but : Int) (hn : n.small) (hP : Pls N n.tasks) (kx : List Bool → Option (List Bool)) : ∀ (K : Nat) (l : List Bool) (f : Nat), l.length = N → N ≤ cntT l + K → K + 2 ≤ f →
    z0q n but kx f true l = kx (iter but n.tasks K l) := by
  intro K
  induction K with
  | zero =>
    intro l f hl hc hf
    obtain ⟨g, rfl⟩ : ∃ g, f = g + 2 := ⟨f - 2, by omega⟩
    rw [z0q, if_pos rfl, yk0 but hn hP _ l hl]
    unfold z5n
    have e : rnd but 0 n.tasks l = l := ya8 (but := but) (ts := n.tasks) 0 l (by rw [hl]; exact hP) (by rw [hl]; exact hc)
    rw [e, zT rfl, z0q, if_neg (by simp)]; rfl
  | succ K ih =>
    intro l f hl hc hf
    obtain ⟨g, rfl⟩ : ∃ g, f = g + 2 := ⟨f - 2, by omega⟩
    rw [z0q, if_pos rfl, yk0 but hn hP _ l hl]
    unfold z5n
    by_cases e : rnd but 0 n.tasks l = l
    · rw [e, zT rfl, z0q, if_neg (by simp), yg3 e]
    · rw [decide_eq_false e]
      have hs := y52 (but := but) n.tasks 0 l (by rw [hl]; exact hP)
      obtain ⟨h1, h2⟩ := w5w (z9i but n.tasks 0 l).symm hs
      have h4 : cntT l ≠ cntT (rnd but 0 n.tasks l) := fun e2 => e (h2 e2).symm
      exact ih (rnd but 0 n.tasks l) (g + 1) (by rw [z9i, hl]) (by omega) (by omega)
def oneT (N : Nat) (p : Int) : List Bool := setT (List.replicate N false) p
theorem w7h {n : GNet} (p but : Int) (hn : n.small) (h : netB n = true) (h0 : 0 ≤ p) (h1 : p < n.places) : z57 n p but = some (iter but n.tasks n.places.toNat (oneT n.places.toNat p)) := by
  have hsz := z50 h
  unfold z57
  rw [z01 (by omega), zc8 (List.replicate n.places.toNat false) h0 (by simp; omega), zB]
  have hl : (oneT n.places.toNat p).length = n.places.toNat := by unfold oneT; rw [z8q]; simp
  exact (w7q but hn (yb0 h (by omega)) z92 n.places.toNat (oneT n.places.toNat p) FUEL hl (by omega) (by have := z1v; omega))
theorem w8c (N : Nat) (q : Int) : atB (List.replicate N false) q = false := by
  unfold atB getI
  split
  · cases e : (List.replicate N false)[q.toNat]? with
    | none => rfl
    | some v =>
      have := List.mem_of_getElem? e
      rw [List.mem_replicate] at this
      simp [this.2]
  · rfl
theorem w9r {N : Nat} {p q : Int} (hp : 0 ≤ p) (hq : 0 ≤ q) (h : q < N) : atB (oneT N p) q = decide (p = q) := by
  unfold oneT; rw [y6u _ hp hq (by simpa using h), w8c, Bool.or_false]
theorem w44 {n : GNet} {p but q : Int} (h : netB n = true) (h0 : 0 ≤ p) (h1 : p < n.places) (g0 : 0 ≤ q) (g1 : q < n.places) :
    atB (iter but n.tasks n.places.toNat (oneT n.places.toNat p)) q = true ↔ Star but n.tasks p q := by
  have hsz := z50 h
  have hl : (oneT n.places.toNat p).length = n.places.toNat := by unfold oneT; rw [z8q]; simp
  have hP : Pls (oneT n.places.toNat p).length n.tasks := yb0 h (by rw [hl]; omega)
  rw [yv5 hP (by rw [y5r]) (w0g _ _ hP) (ya8 _ _ hP (by rw [hl]; omega)) (y79 _ _ hP (yv3 _)) g0 (by rw [hl]; omega)]
  constructor
  · rintro ⟨x, ⟨⟨a, b⟩, c⟩, st⟩
    rw [hl] at b
    rw [w9r h0 a b, zE] at c
    subst c; exact st
  · intro st
    exact ⟨p, ⟨⟨h0, by rw [hl]; omega⟩, by rw [w9r h0 h0 (by omega)]; simp⟩, st⟩
theorem w81 {n : GNet} {l : List Bool} {but q : Int} (h : netB n = true) (hl : (l.length : Int) = n.places) (g0 : 0 ≤ q) (g1 : q < n.places) :
    atB (iter but n.tasks l.length l) q = true ↔ ∃ p, (0 ≤ p ∧ p < n.places) ∧ atB l p = true ∧ Star but n.tasks p q := by
  have hP : Pls l.length n.tasks := yb0 h hl
  rw [yv5 hP (by rw [y5r]) (w0g _ _ hP) (ya8 _ _ hP (by omega)) (y79 _ _ hP (yv3 _)) g0 (by omega)]
  constructor
  · rintro ⟨x, ⟨⟨a, b⟩, c⟩, st⟩; exact ⟨x, ⟨a, by omega⟩, c, st⟩
  · rintro ⟨x, ⟨a, b⟩, c, st⟩; exact ⟨x, ⟨⟨a, by omega⟩, c⟩, st⟩
end Go.Am.Pl
end
section
namespace Go.Am.Pl
open Go
def srcB (n : GNet) (marks : List Int) (busy : List GItem) (ins : List Int) (p : Int) : Bool :=
  (decide (0 < atI marks p) && !ins.any (fun x => decide (x = p))) || busy.any (fun b => (atI n.tasks b.task).out.any (fun f => decide (f.to = p)))
def Coming (n : GNet) (marks : List Int) (busy : List GItem) (t : Int) : Prop :=
  ∃ q ∈ (atI n.tasks t).in_, atI marks q = 0 ∧ ∃ p : Int, (0 ≤ p ∧ p < n.places) ∧ srcB n marks busy (atI n.tasks t).in_ p = true ∧ Star t n.tasks p q
noncomputable def comB (n : GNet) (marks : List Int) (busy : List GItem) (t : Int) : Bool := @decide (Coming n marks busy t) (Classical.propDecidable _)
theorem wg2 {n : GNet} {marks : List Int} {busy : List GItem} {t : Int} : comB n marks busy t = true ↔ Coming n marks busy t := by unfold comB; exact @decide_eq_true_iff _ (Classical.propDecidable _)
theorem w8j {n : GNet} {marks : List Int} {busy : List GItem} {t : Int} {b : Bool} (h : b = true ↔ Coming n marks busy t) : b = comB n marks busy t := by
  rw [Bool.eq_iff_iff, h, wg2]
structure MB (n : GNet) (m : List Int) (busy : List GItem) : Prop where
  net : netB n = true
  len : (m.length : Int) = n.places
  mks : ∀ x ∈ m, 0 ≤ x ∧ x ≤ 4
  busyl : busy.length ≤ 6
  busy : ∀ b ∈ busy, (0 ≤ b.task ∧ b.task < n.tasks.length)
theorem mb_of {n : GNet} {m : List Int} {busy : List GItem} (h1 : mrkB n m = true) (h2 : busyB n busy = true) : MB n m busy := by
  obtain ⟨a, b, c⟩ := zf2 h1
  simp only [busyB, itemB, zA, zV, z1e, zE] at h2
  exact ⟨a, b, zw3.1 c, by omega, fun x hx => by have := h2.2 x hx; omega⟩
theorem w1j {n : GNet} {marks : List Int} {busy : List GItem} {t : Int} (hn : n.small) (M : MB n marks busy) (t0 : 0 ≤ t) (t1 : t < n.tasks.length) : z8n n marks busy t = some (comB n marks busy t) := by
  have hsz := z50 M.net
  have hml := M.len
  have hg := z16 n.tasks t0 t1
  have hm := z4l n.tasks t0 t1
  have T := z51 M.net hm
  have hsm := hn.2 _ hm
  generalize hins : (atI n.tasks t).in_ = ins at *
  unfold z8n
  rw [z01 (by omega)]
  obtain ⟨s1, ⟨hl1, hv1⟩, e1⟩ := scanE marks (by unfold SMALL; omega) (z1k n marks t (z39 n marks busy t)) (z39 n marks busy t)
    (fun pre s => (s.length : Int) = n.places ∧ ∀ q : Int, 0 ≤ q → q < n.places → atB s q = (decide (q < pre.length) && (decide (0 < atI marks q) && !ins.any (fun x => decide (x = q)))))
    (fun f s => by rw [z1k, if_neg (by simp; omega)])
    (fun f pre x suf s a b c d g hi => by
      have hx : 0 ≤ (pre.length : Int) ∧ (pre.length : Int) < n.places := by omega
      have hgs := zc8 s hx.1 (by omega)
      have hat : atI marks pre.length = x := by unfold atI; rw [b]; rfl
      have inv : ∀ v : Bool, v = (decide (0 < x) && !ins.any (fun y => decide (y = (pre.length : Int)))) → ((s.set (pre.length : Int).toNat v).length : Int) = n.places ∧ ∀ q : Int, 0 ≤ q → q < n.places → atB (s.set (pre.length : Int).toNat v) q = (decide (q < (pre ++ [x]).length) && (decide (0 < atI marks q) && !ins.any (fun x => decide (x = q)))) := fun v hv => by
        refine ⟨by rw [zS]; exact hi.1, fun q q0 q1 => ?_⟩
        have e : atB (s.set (pre.length : Int).toNat v) q = if (pre.length : Int) = q then v else atB s q := by
          unfold atB; rw [w08 s v hx.1 q0 (by omega)]
          split <;> rfl
        rw [e]
        by_cases h : (pre.length : Int) = q
        · rw [if_pos h, ← h, hat, hv]
          have : decide ((pre.length : Int) < (((pre ++ [x]).length : Nat) : Int)) = true := by simp; omega
          rw [this, Bool.true_and]
        · rw [if_neg h, hi.2 q q0 q1]
          have : decide (q < (pre.length : Int)) = decide (q < (((pre ++ [x]).length : Nat) : Int)) := decide_eq_decide.2 (by simp; omega)
          rw [this]
      rw [z1k, if_pos (zT (by omega)), b, zB]
      by_cases h : 0 < x
      · rw [if_pos (zT h), hg, zB, hins, y7v _ _ (hins ▸ hsm.1), zB, hgs, zB, z01 g]
        exact ⟨_, inv _ (by simp [h]), rfl⟩
      · rw [if_neg (by simpa using h), hgs, zB, z01 g]
        exact ⟨_, inv _ (by simp [h]), rfl⟩)
    (List.replicate n.places.toNat false) ⟨by simp; omega, fun q q0 q1 => by rw [w8c]; simp; omega⟩
  have e1' : z1k n marks t (z39 n marks busy t) FUEL 0 (List.replicate n.places.toNat false) = z39 n marks busy t s1 := e1
  rw [e1']
  unfold z39
  obtain ⟨s2, ⟨hl2, hv2⟩, e2⟩ := scanE busy (by have := M.busyl; unfold SMALL; omega) (z0u n busy (z1j n marks t)) (z1j n marks t)
    (fun pre s => (s.length : Int) = n.places ∧ ∀ q : Int, 0 ≤ q → q < n.places → atB s q = ((decide (0 < atI marks q) && !ins.any (fun x => decide (x = q))) || pre.any (fun b => (atI n.tasks b.task).out.any (fun f => decide (f.to = q)))))
    (fun f s => by rw [z0u, if_neg (by simp)])
    (fun f pre x suf s a b c d g hi => by
      have hb := M.busy x c
      have hxm := z4l n.tasks hb.1 hb.2
      have hto := w0j M.net hxm
      rw [z0u, if_pos (zT d), b, zB, z16 n.tasks hb.1 hb.2, zB]
      obtain ⟨s3, ⟨hl3, hv3⟩, e3⟩ := scanE (atI n.tasks x.task).out (hn.2 _ hxm).2.1 (z22 (atI n.tasks x.task).out (z3a pre.length (z0u n busy (z1j n marks t) f))) (z3a pre.length (z0u n busy (z1j n marks t) f))
        (fun pr z => (z.length : Int) = n.places ∧ ∀ q : Int, 0 ≤ q → q < n.places → atB z q = (pr.any (fun f => decide (f.to = q)) || atB s q))
        (fun f s => by rw [z22, if_neg (by simp)])
        (fun f pr y sf z a2 b2 c2 d2 g2 hi2 => by
          have hy := hto y c2
          rw [z22, if_pos (zT d2), b2, zB, zc8 z (by omega) (by omega), zB, z01 g2]
          refine ⟨setT z y.to, ⟨by rw [z8q]; exact hi2.1, fun q q0 q1 => ?_⟩, rfl⟩
          rw [y6u z (by omega) q0 (by omega), hi2.2 q q0 q1, List.any_append, List.any_cons, List.any_nil, Bool.or_false]
          generalize decide (y.to = q) = u; generalize (pr.any fun f => decide (f.to = q)) = v; generalize atB s q = w
          cases u <;> cases v <;> cases w <;> rfl) s ⟨hi.1, fun q _ _ => by simp⟩
      refine ⟨s3, ⟨hl3, fun q q0 q1 => ?_⟩, ?_⟩
      · rw [hv3 q q0 q1, hi.2 q q0 q1, List.any_append, List.any_cons, List.any_nil, Bool.or_false]
        cases (List.any (atI n.tasks x.task).out fun f => decide (f.to = q)) <;> simp
      · have : z22 (atI n.tasks x.task).out (z3a pre.length (z0u n busy (z1j n marks t) f)) FUEL 0 s = z3a pre.length (z0u n busy (z1j n marks t) f) s3 := e3
        rw [this]; unfold z3a; rw [z01 g])
    s1 ⟨hl1, fun q q0 q1 => by rw [hv1 q q0 q1, zT (by omega)]; simp⟩
  rw [e2]
  unfold z1j
  rw [w1i t hn M.net hl2, zB]
  generalize hr : iter t n.tasks s2.length s2 = r
  have hrl : (r.length : Int) = n.places := by rw [← hr, y5r]; exact hl2
  have hri : ∀ q : Int, 0 ≤ q → q < n.places → (atB r q = true ↔ ∃ p : Int, (0 ≤ p ∧ p < n.places) ∧ srcB n marks busy ins p = true ∧ Star t n.tasks p q) := fun q q0 q1 => by
    rw [← hr, w81 M.net hl2 q0 q1]
    constructor
    · rintro ⟨p, a, b, c⟩; rw [hv2 p a.1 a.2] at b; exact ⟨p, a, b, c⟩
    · rintro ⟨p, a, b, c⟩; exact ⟨p, a, by rw [hv2 p a.1 a.2]; exact b, c⟩
  have hin : ∀ p ∈ ins, 0 ≤ p ∧ p < n.places := fun p hp => by have := T.ins p (hins ▸ hp); omega
  have fin : z1l n marks t r z8o FUEL 0 = some (ins.any (fun q => decide (atI marks q = 0) && atB r q)) :=
    scan0 ins (by have := hins ▸ hsm.1; unfold SMALL at this; omega) (z1l n marks t r z8o) (fun _ suf => some (suf.any (fun q => decide (atI marks q = 0) && atB r q)))
      (fun f => by rw [z1l, hg, zB, hins, if_neg (by simp)]; rfl)
      (fun f pre x suf a b c d ih => by
        have hx := hin x (by rw [a]; simp)
        rw [z1l, hg, zB, hins, if_pos (zT c), zB, hins, b, zB, z16 marks hx.1 (by have := M.len; omega), zB, List.any_cons]
        by_cases h : atI marks x = 0
        · rw [if_pos (zT h), zB, hins, b, zB, zc8 r hx.1 (by omega), zB, z01 d, ih]
          cases atB r x <;> simp [h]
        · rw [if_neg (by simpa using h), z01 d, ih]; simp [h])
  rw [fin]
  congr 1
  refine w8j ?_
  unfold Coming
  rw [hins, List.any_eq_true]
  constructor
  · rintro ⟨q, hq, h⟩
    rw [zA, zE] at h
    exact ⟨q, hq, h.1, (hri q (hin q hq).1 (hin q hq).2).1 h.2⟩
  · rintro ⟨q, hq, h, h2⟩
    exact ⟨q, hq, by rw [zA, zE]; exact ⟨h, (hri q (hin q hq).1 (hin q hq).2).2 h2⟩⟩
theorem w36 {n : GNet} {marks : List Int} {busy : List GItem} {t : Int} (hn : n.small) (M : MB n marks busy) (t0 : 0 ≤ t) (t1 : t < n.tasks.length) : z4a n marks busy t = some (comB n marks busy t) := by
  have hsz := z50 M.net
  have hml := M.len
  have hg := z16 n.tasks t0 t1
  have hm := z4l n.tasks t0 t1
  have T := z51 M.net hm
  have hsm := hn.2 _ hm
  unfold z4a
  rw [hg, zB]
  generalize hins : (atI n.tasks t).in_ = ins at *
  have hsl0 : ins.length ≤ SMALL := hins ▸ hsm.1
  obtain ⟨s1, ⟨hl1, hv1⟩, e1⟩ := scanE marks (by unfold SMALL; omega) (z0i marks ins (marks.length : Int) (z35 n busy t ins marks)) (z35 n busy t ins marks)
    (fun pre s => s.length ≤ pre.length ∧ ∀ q : Int, q ∈ s ↔ (0 ≤ q ∧ q < pre.length) ∧ (decide (0 < atI marks q) && !ins.any (fun x => decide (x = q))) = true)
    (fun f s => by rw [z0i, if_neg (by simp)])
    (fun f pre x suf s a b c d g hi => by
      have hat : atI marks pre.length = x := by unfold atI; rw [b]; rfl
      have hsl : s.length + [(pre.length : Int)].length ≤ SMALL := by rw [zJ]; unfold SMALL; omega
      have sym : ins.any (fun y => decide ((pre.length : Int) = y)) = ins.any (fun y => decide (y = (pre.length : Int))) := by congr 1; funext y; exact decide_eq_decide.2 ⟨Eq.symm, Eq.symm⟩
      have no : (decide (0 < x) && !ins.any (fun y => decide (y = (pre.length : Int)))) = false → s.length ≤ (pre ++ [x]).length ∧ ∀ q : Int, q ∈ s ↔ (0 ≤ q ∧ q < (pre ++ [x]).length) ∧ (decide (0 < atI marks q) && !ins.any (fun x => decide (x = q))) = true := fun h => by
        refine ⟨by simp; omega, fun q => ?_⟩
        rw [hi.2 q]
        constructor
        · rintro ⟨⟨u, v⟩, w⟩; exact ⟨⟨u, by simp; omega⟩, w⟩
        · rintro ⟨⟨u, v⟩, w⟩
          refine ⟨⟨u, ?_⟩, w⟩
          simp at v
          by_cases e : q = pre.length
          · rw [e, hat, h] at w; cases w
          · omega
      rw [z0i, if_pos (zT d), b, zB]
      by_cases h : 0 < x
      · rw [if_pos (zT h), y6j _ hsl0, zB, sym]
        by_cases h2 : ins.any (fun y => decide (y = (pre.length : Int))) = true
        · rw [if_pos h2, z01 g]
          exact ⟨s, no (by rw [h2]; simp), rfl⟩
        · rw [if_neg h2, z01 hsl, z01 g]
          refine ⟨_, ⟨by simp; exact hi.1, fun q => ?_⟩, rfl⟩
          rw [zP, List.mem_singleton, hi.2 q]
          constructor
          · rintro (⟨⟨u, v⟩, w⟩ | rfl)
            · exact ⟨⟨u, by simp; omega⟩, w⟩
            · exact ⟨⟨by omega, by simp; omega⟩, by rw [hat, zF.2 h2]; simp [h]⟩
          · rintro ⟨⟨u, v⟩, w⟩
            simp at v
            by_cases e : q = pre.length
            · exact .inr e
            · exact .inl ⟨⟨u, by omega⟩, w⟩
      · rw [if_neg (by simpa using h), z01 g]
        exact ⟨s, no (by simp [h]), rfl⟩)
    [] ⟨by simp, fun q => by simp; omega⟩
  rw [e1]
  unfold z35
  obtain ⟨s2, ⟨hl2, hv2⟩, e2⟩ := scanE busy (by have := M.busyl; unfold SMALL; omega) (z0j n busy (z17 n t ins marks) · (busy.length : Int) · ·) (z17 n t ins marks)
    (fun pre s => s.length ≤ s1.length + 3 * pre.length ∧ ∀ q : Int, q ∈ s ↔ q ∈ s1 ∨ ∃ b ∈ pre, ∃ f ∈ (atI n.tasks b.task).out, f.to = q)
    (fun f s => by rw [z0j, if_neg (by simp)])
    (fun f pre x suf s a b c d g hi => by
      have hb := M.busy x c
      have hxm := z4l n.tasks hb.1 hb.2
      have X := z51 M.net hxm
      have hxl := X.outl
      have hpl : pre.length ≤ 6 := by have := M.busyl; omega
      rw [z0j, if_pos (zT d), b, zB, z16 n.tasks hb.1 hb.2, zB]
      obtain ⟨s3, ⟨hl3, hv3⟩, e3⟩ := scanE (atI n.tasks x.task).out (hn.2 _ hxm).2.1 (z18 (atI n.tasks x.task).out ((atI n.tasks x.task).out.length : Int) (z36 (busy.length : Int) pre.length (z0j n busy (z17 n t ins marks) f))) (z36 (busy.length : Int) pre.length (z0j n busy (z17 n t ins marks) f))
        (fun pr z => z.length ≤ s.length + pr.length ∧ ∀ q : Int, q ∈ z ↔ q ∈ s ∨ ∃ f ∈ pr, f.to = q)
        (fun f s => by rw [z18, if_neg (by simp)])
        (fun f pr y sf z a2 b2 c2 d2 g2 hi2 => by
          rw [z18, if_pos (zT d2), b2, zB, z01 (by have := hi.1; have := hi2.1; rw [zJ]; unfold SMALL; omega), z01 g2]
          refine ⟨_, ⟨by simp; have := hi2.1; omega, fun q => ?_⟩, rfl⟩
          rw [zP, List.mem_singleton, hi2.2 q]
          constructor
          · rintro ((h | ⟨f, hf, e⟩) | rfl)
            · exact .inl h
            · exact .inr ⟨f, by simp [hf], e⟩
            · exact .inr ⟨y, by simp, rfl⟩
          · rintro (h | ⟨f, hf, e⟩)
            · exact .inl (.inl h)
            · rw [zP, List.mem_singleton] at hf
              rcases hf with hf | rfl
              · exact .inl (.inr ⟨f, hf, e⟩)
              · exact .inr e.symm) s ⟨by simp, fun q => by simp⟩
      refine ⟨s3, ⟨by have := hi.1; rw [zL, zJ]; omega, fun q => ?_⟩, ?_⟩
      · rw [hv3 q, hi.2 q]
        constructor
        · rintro ((h | ⟨b, hb, h⟩) | h)
          · exact .inl h
          · exact .inr ⟨b, by simp [hb], h⟩
          · exact .inr ⟨x, by simp, h⟩
        · rintro (h | ⟨b, hb, h⟩)
          · exact .inl (.inl h)
          · rw [zP, List.mem_singleton] at hb
            rcases hb with hb | rfl
            · exact .inl (.inr ⟨b, hb, h⟩)
            · exact .inr h
      · rw [e3]; unfold z36; rw [z01 g])
    s1 ⟨by simp, fun q => by simp⟩
  rw [e2]
  unfold z17
  have hmem : ∀ q : Int, q ∈ s2 ↔ (0 ≤ q ∧ q < n.places) ∧ srcB n marks busy ins q = true := fun q => by
    rw [hv2 q, hv1 q]
    unfold srcB
    rw [Bool.or_eq_true, List.any_eq_true, M.len]
    constructor
    · rintro (h | ⟨b, hb, f, hf, e⟩)
      · exact ⟨h.1, .inl h.2⟩
      · have hb2 := M.busy b hb
        have hto := w0j M.net (z4l n.tasks hb2.1 hb2.2) f hf
        exact ⟨by omega, .inr ⟨b, hb, by rw [List.any_eq_true]; exact ⟨f, hf, by simpa using e⟩⟩⟩
    · rintro ⟨h, h2 | ⟨b, hb, h2⟩⟩
      · exact .inl ⟨h, h2⟩
      · rw [List.any_eq_true] at h2
        obtain ⟨f, hf, e⟩ := h2
        exact .inr ⟨b, hb, f, hf, by simpa using e⟩
  have hin : ∀ p ∈ ins, 0 ≤ p ∧ p < n.places := fun p hp => by have := T.ins p (hins ▸ hp); omega
  have hs2 : s2.length ≤ SMALL := by have := M.busyl; unfold SMALL; omega
  have fin : z0s n t ins marks s2 (s2.length : Int) z4o FUEL 0 = some (s2.any (fun p => ins.any (fun q => decide (atI marks q = 0) && atB (iter t n.tasks n.places.toNat (oneT n.places.toNat p)) q))) :=
    scan0 s2 (by unfold SMALL at hs2; omega) (z0s n t ins marks s2 (s2.length : Int) z4o) (fun _ suf => some (suf.any (fun p => ins.any (fun q => decide (atI marks q = 0) && atB (iter t n.tasks n.places.toNat (oneT n.places.toNat p)) q))))
      (fun f => by rw [z0s, if_neg (by simp)]; rfl)
      (fun f pre x suf a b c d ih => by
        have hx := (hmem x).1 (by rw [a]; simp)
        rw [z0s, if_pos (zT c), b, zB, w7h x t hn M.net hx.1.1 hx.1.2, zB, z6o ins hsl0 _ (fun q => decide (atI marks q = 0) && atB (iter t n.tasks n.places.toNat (oneT n.places.toNat x)) q) (fun q hq => by
          have hq2 := hin q hq
          unfold z55
          rw [z16 marks hq2.1 (by omega), zB, zc8 _ hq2.1 (by rw [y5r]; unfold oneT; rw [z8q]; simp; omega)]
          by_cases h : atI marks q = 0
          · rw [if_pos (zT h)]; simp [h]
          · rw [if_neg (by simpa using h)]; simp [h]), zB, z01 d, ih, List.any_cons]
        cases (ins.any fun q => decide (atI marks q = 0) && atB (iter t n.tasks n.places.toNat (oneT n.places.toNat x)) q) <;> simp)
  rw [fin]
  congr 1
  refine w8j ?_
  unfold Coming
  rw [hins, List.any_eq_true]
  constructor
  · rintro ⟨p, hp, h⟩
    rw [List.any_eq_true] at h
    obtain ⟨q, hq, h⟩ := h
    rw [zA, zE] at h
    have hp2 := (hmem p).1 hp
    exact ⟨q, hq, h.1, p, hp2.1, hp2.2, (w44 M.net hp2.1.1 hp2.1.2 (hin q hq).1 (hin q hq).2).1 h.2⟩
  · rintro ⟨q, hq, h, p, hp, h2, h3⟩
    refine ⟨p, (hmem p).2 ⟨hp, h2⟩, ?_⟩
    rw [List.any_eq_true]
    exact ⟨q, hq, by rw [zA, zE]; exact ⟨h, (w44 M.net hp.1 hp.2 (hin q hq).1 (hin q hq).2).2 h3⟩⟩
def someB (marks : List Int) (l : List Int) : Bool := l.any (fun p => decide (0 < atI marks p))
def allB (marks : List Int) (l : List Int) : Bool := l.all (fun p => decide (0 < atI marks p))
theorem w5v (marks l : List Int) (hs : l.length ≤ SMALL) (hp : ∀ p ∈ l, 0 ≤ p ∧ p < marks.length) : ze8 marks l = some (someB marks l, allB marks l) := by
  unfold ze8
  exact scan l (by unfold SMALL at hs; omega) (fun f i (s : Bool × Bool) => z1d marks l z75 f s.1 s.2 i) (fun _ suf s => some (s.1 || someB marks suf, s.2 && allB marks suf)) (fun _ _ => True)
    (fun f s _ => by rw [z1d, if_neg (by simp)]; simp [someB, allB, z75])
    (fun f pre x suf s a b c d _ k => by
      obtain ⟨s1, s2⟩ := s
      have hx := hp x (by rw [a]; simp)
      have hg := z16 marks hx.1 hx.2
      have ih := fun u v => k (u, v) trivial
      show z1d marks l z75 (f + 1) s1 s2 (pre.length : Int) = some (s1 || someB marks (x :: suf), s2 && allB marks (x :: suf))
      rw [z1d, if_pos (zT c)]
      simp only [b, hg, zB, z01 d]
      dsimp only at ih
      simp only [ih, someB, allB, List.any_cons, List.all_cons]
      cases s1 <;> cases s2 <;> simp) FUEL (false, true) trivial (by have := z1v; unfold SMALL at hs; omega)
noncomputable def canB (n : GNet) (marks : List Int) (busy : List GItem) (t : Int) : Bool :=
  bif decide ((atI n.tasks t).join = 1) then allB marks (atI n.tasks t).in_ else bif decide ((atI n.tasks t).join = 2) then someB marks (atI n.tasks t).in_ else someB marks (atI n.tasks t).in_ && (allB marks (atI n.tasks t).in_ || !comB n marks busy t)
theorem w80 {n : GNet} {marks : List Int} {busy : List GItem} {t : Int} (hn : n.small) (M : MB n marks busy) (t0 : 0 ≤ t) (t1 : t < n.tasks.length) : zj5 n marks busy t = some (canB n marks busy t) := by
  have hml := M.len
  have hg := z16 n.tasks t0 t1
  have hm := z4l n.tasks t0 t1
  have T := z51 M.net hm
  unfold zj5 canB
  rw [hg, zB, w5v _ _ (hn.2 _ hm).1 (fun p hp => by have := T.ins p hp; omega), zB, zB, w1j hn M t0 t1]
  by_cases h1 : (atI n.tasks t).join = 1
  · simp [h1]
  · by_cases h2 : (atI n.tasks t).join = 2
    · simp [h2]
    · simp only [h1, h2, decide_false, cond_false, zB]
      cases someB marks (atI n.tasks t).in_ <;> cases allB marks (atI n.tasks t).in_ <;> simp
theorem w6j {n : GNet} {marks : List Int} {busy : List GItem} {t : Int} (hn : n.small) (M : MB n marks busy) (t0 : 0 ≤ t) (t1 : t < n.tasks.length) : z4p n marks busy t = some (canB n marks busy t) := by
  have hml := M.len
  have hg := z16 n.tasks t0 t1
  have hm := z4l n.tasks t0 t1
  have T := z51 M.net hm
  have hs := (hn.2 _ hm).1
  unfold z4p
  rw [hg, zB]
  have := scan (atI n.tasks t).in_ (by unfold SMALL at hs; omega) (fun f i (s : Bool × Bool) => z0k marks (atI n.tasks t).in_ ((atI n.tasks t).in_.length : Int) (z28 n marks busy t) f s.1 i s.2)
    (fun _ suf s => z28 n marks busy t (s.1 && allB marks suf) (s.2 || someB marks suf)) (fun _ _ => True)
    (fun f s _ => by rw [z0k, if_neg (by simp)]; simp [someB, allB])
    (fun f pre x suf s a b c d _ k => by
      obtain ⟨s1, s2⟩ := s
      have hx := T.ins x (by rw [a]; simp)
      have hg := z16 marks hx.1 (by omega)
      have ih := fun u v => k (u, v) trivial
      show z0k marks (atI n.tasks t).in_ ((atI n.tasks t).in_.length : Int) (z28 n marks busy t) (f + 1) s1 (pre.length : Int) s2 = z28 n marks busy t (s1 && allB marks (x :: suf)) (s2 || someB marks (x :: suf))
      rw [z0k, if_pos (zT c)]
      simp only [b, hg, zB, z01 d]
      dsimp only at ih
      simp only [ih, someB, allB, List.any_cons, List.all_cons]
      cases s1 <;> cases s2 <;> simp) FUEL (true, false) trivial (by have := z1v; unfold SMALL at hs; omega)
  refine this.trans ?_
  unfold z28 canB
  rw [hg, zB, w36 hn M t0 t1]
  by_cases h1 : (atI n.tasks t).join = 1
  · simp [h1]
  · by_cases h2 : (atI n.tasks t).join = 2
    · simp [h2]
    · simp only [h1, h2, decide_false, cond_false, zB]
      cases someB marks (atI n.tasks t).in_ <;> cases allB marks (atI n.tasks t).in_ <;> simp
noncomputable def enaB (n : GNet) (marks : List Int) (busy : List GItem) (t : Int) : Bool := mrkB n marks && (busyB n busy && (inB t 0 ((n.tasks.length : Int) - 1) && canB n marks busy t))
theorem yk8 (n : GNet) (marks : List Int) (busy : List GItem) (t : Int) (hn : n.small) (hm : marks.length ≤ SMALL) (hb : busy.length ≤ SMALL) : z89 n marks busy t = some (enaB n marks busy t) := by
  unfold z89 enaB
  rw [y31 n marks hn hm, zB]
  by_cases h1 : mrkB n marks = true
  case neg => rw [if_neg h1, zF.2 h1]; rfl
  rw [if_pos h1, h1, yk9 n busy hn hb (y5v h1), zB]
  by_cases h2 : busyB n busy = true
  case neg => rw [if_neg h2, zF.2 h2]; rfl
  rw [if_pos h2, h2, z01 (z78 hn.1), z3t, zB]
  by_cases h3 : inB t 0 ((n.tasks.length : Int) - 1) = true
  case neg => rw [if_neg h3, zF.2 h3]; rfl
  have h3' := z1e.1 h3
  rw [if_pos h3, h3, w80 hn (mb_of h1 h2) h3'.1 (by omega), zB]; rfl
theorem w52 (n : GNet) (marks : List Int) (busy : List GItem) (t : Int) (hn : n.small) (hm : marks.length ≤ SMALL) (hb : busy.length ≤ SMALL) : zd6 n marks busy t = some (enaB n marks busy t) := by
  unfold zd6 enaB
  rw [y2w n marks hn hm, zB]
  by_cases h1 : mrkB n marks = true
  case neg => rw [if_neg h1, zF.2 h1]; rfl
  rw [if_pos h1, h1, y4q n busy hn hb (y5v h1), zB]
  by_cases h2 : busyB n busy = true
  case neg => rw [if_neg h2, zF.2 h2]; rfl
  rw [if_pos h2, h2, y1b n t hn, zB]
  by_cases h3 : inB t 0 ((n.tasks.length : Int) - 1) = true
  case neg => rw [if_neg h3, zF.2 h3]; rfl
  have h3' := z1e.1 h3
  rw [if_pos h3, h3, w6j hn (mb_of h1 h2) h3'.1 (by omega), zB]; rfl
def dec (l : List Int) (p : Int) : List Int := l.set p.toNat (atI l p - 1)
def takeL (join : Int) : List Int → List Int → List Int
  | [], l => l
  | p :: ps, l => if 0 < atI l p then (if join = 2 then dec l p else takeL join ps (dec l p)) else takeL join ps l
theorem w4v (l : List Int) (p : Int) : (dec l p).length = l.length := by simp [dec]
theorem yl1 (join : Int) : ∀ (ps l : List Int), (takeL join ps l).length = l.length
  | [], l => rfl
  | p :: ps, l => by
    unfold takeL
    split
    · split
      · exact w4v l p
      · rw [yl1 join ps, w4v]
    · exact yl1 join ps l
theorem wf9 {l : List Int} {p : Int} (h : capM 4 l) (hp : 0 < atI l p) (h0 : 0 ≤ p) (h1 : p < l.length) : capM 4 (dec l p) := fun x hx => by
  have hv := yc7 h h0 h1
  rcases List.mem_or_eq_of_mem_set hx with hx | rfl
  · exact h x hx
  · omega
theorem w4h {β : Type} (join : Int) (ps : List Int) (hs : ps.length ≤ SMALL) (f : Nat → Int → List Int → Option β) (kx : List Int → Option β) (l0 : List Int) (hp : ∀ p ∈ ps, 0 ≤ p ∧ p < l0.length) (hc : capM 4 l0)
    (h0 : ∀ n s, f (n + 1) (ps.length : Int) s = kx s)
    (h1 : ∀ n i p s, getI ps i = some p → i < (ps.length : Int) → ok64 (i + 1) → getI s p = some (atI s p) → ok64 (atI s p - 1) → f (n + 1) i s = if decide (0 < atI s p) = true then (if decide (join = 2) = true then kx (dec s p) else f n (i + 1) (dec s p)) else f n (i + 1) s) :
    f FUEL 0 l0 = kx (takeL join ps l0) :=
  scan ps (by unfold SMALL at hs; omega) f (fun _ suf l => kx (takeL join suf l)) (fun _ l => l.length = l0.length ∧ capM 4 l) (fun n s hi => by rw [h0]; rfl)
    (fun n pre x suf s a b c d hi k => by
      have hx := hp x (by rw [a]; simp)
      have hx2 : x < s.length := by rw [hi.1]; exact hx.2
      have hv := yc7 hi.2 hx.1 hx2
      rw [h1 n _ x s b c d (z16 s hx.1 hx2) (by constructor <;> omega), takeL]
      by_cases h : 0 < atI s x
      · rw [if_pos (zT h), if_pos h]
        by_cases h2 : join = 2
        · rw [if_pos (zT h2), if_pos h2]
        · rw [if_neg (by simpa using h2), if_neg h2]
          exact k _ ⟨by rw [w4v, hi.1], wf9 hi.2 h hx.1 hx2⟩
      · rw [if_neg (by simpa using h), if_neg h]
        exact k _ hi) FUEL l0 ⟨rfl, hc⟩ (by have := z1v; unfold SMALL at hs; omega)
theorem w4a (n : GNet) (marks : List Int) (t : Int) (hn : n.small) (hm : marks.length ≤ SMALL) : z9m n marks t = some (bif mrkB n marks && inB t 0 ((n.tasks.length : Int) - 1) then takeL (atI n.tasks t).join (atI n.tasks t).in_ marks else []) := by
  unfold z9m
  rw [y31 n marks hn hm, zB]
  by_cases h1 : mrkB n marks = true
  case neg => rw [if_neg h1, zF.2 h1]; rfl
  rw [if_pos h1, h1, z01 (z78 hn.1), z3t, zB]
  by_cases h3 : inB t 0 ((n.tasks.length : Int) - 1) = true
  case neg => rw [if_neg h3, zF.2 h3]; rfl
  have h3' := z1e.1 h3
  obtain ⟨f1, f2, f3⟩ := zf2 h1
  have hg := z16 n.tasks h3'.1 (by omega)
  have ht := z4l n.tasks h3'.1 (by omega)
  have T := z51 f1 ht
  rw [if_pos h3, h3, z01 (by simpa using hm), List.nil_append]
  rw [w4h (atI n.tasks t).join (atI n.tasks t).in_ (hn.2 _ ht).1 (z2g n t zp5 zp6) (fun l => some l) marks (fun p hp => by have := T.ins p hp; omega) (zw3.1 f3)
    (fun f s => by rw [z2g, hg, zB, if_neg (by simp)]; rfl)
    (fun f i p s a b c d e => by
      rw [z2g, hg, zB, if_pos (zT b), zB, a, zB, d, zB, zB, z01 e, zB, zB]; simp only [z01 c]; rfl)]
  rfl
theorem w9h {n : GNet} {marks : List Int} {t : Int} (hn : n.small) (hm : marks.length ≤ SMALL) (h1 : mrkB n marks = true) (t0 : 0 ≤ t) (t1 : t < n.tasks.length) : z5o n marks t = some (takeL (atI n.tasks t).join (atI n.tasks t).in_ marks) := by
  unfold z5o
  obtain ⟨f1, f2, f3⟩ := zf2 h1
  have hg := z16 n.tasks t0 t1
  have ht := z4l n.tasks t0 t1
  have T := z51 f1 ht
  rw [zl7 _ hm, zB, hg, zB]
  exact w4h (atI n.tasks t).join (atI n.tasks t).in_ (hn.2 _ ht).1 (z1a n t (atI n.tasks t).in_ ((atI n.tasks t).in_.length : Int) z9z za0) (fun l => some l) marks (fun p hp => by have := T.ins p hp; omega) (zw3.1 f3)
    (fun f s => by rw [z1a, if_neg (by simp)]; rfl)
    (fun f i p s a b c d e => by
      rw [z1a, if_pos (zT b), a, zB, d, zB, zB, z01 e, zB, hg, zB]; simp only [z01 c]; rfl)
end Go.Am.Pl
end
section
namespace Go.Am.Pl
open Go
def bitB (x role : Int) : Bool := decide ((x / 2 ^ (role - 1).toNat) % 2 = 1)
def hasB (people : List Int) (who role : Int) : Bool := pplB people && (inB who 1 people.length && (inB role 1 3 && bitB (atI people (who - 1)) role))
theorem eight {x : Int} (h : 0 ≤ x ∧ x ≤ 7) : x = 0 ∨ x = 1 ∨ x = 2 ∨ x = 3 ∨ x = 4 ∨ x = 5 ∨ x = 6 ∨ x = 7 := by omega
theorem zw5 {x role s : Int} (f : Nat) (hx : 0 ≤ x ∧ x ≤ 7) (hs : s < role) (h3 : 0 ≤ s ∧ role ≤ 3) : z1p role z41 (f + 1) x s = z1p role z41 f (Int.tdiv x 2) (s + 1) := by
  have hd : Int.tdiv x 2 = x / 2 := Int.tdiv_eq_ediv_of_nonneg hx.1
  rw [z1p, if_pos (zT hs), z01 (by rw [hd]; exact ⟨by omega, by constructor <;> omega⟩), z01 (by constructor <;> omega)]
theorem y26 {x role s : Int} (f : Nat) (hs : ¬ s < role) : z1p role z41 (f + 1) x s = some (decide (Int.tmod x 2 = 1)) := by
  rw [z1p, if_neg (by simpa using hs), z41, z01 (by omega)]
theorem tdiv2 {x : Int} (hx : 0 ≤ x ∧ x ≤ 7) : 0 ≤ Int.tdiv x 2 ∧ Int.tdiv x 2 ≤ 7 := by
  have hd : Int.tdiv x 2 = x / 2 := Int.tdiv_eq_ediv_of_nonneg hx.1
  omega
theorem wj7 {x role : Int} (hx : 0 ≤ x ∧ x ≤ 7) (hr : 1 ≤ role ∧ role ≤ 3) : z1p role z41 FUEL x 1 = some (bitB x role) := by
  obtain ⟨f, hF⟩ : ∃ f, FUEL = f + 3 := ⟨FUEL - 3, by have := z1v; omega⟩
  rw [hF]
  have hr' : role = 1 ∨ role = 2 ∨ role = 3 := by omega
  rcases hr' with rfl | rfl | rfl
  · rw [y26 _ (by omega)]
    rcases eight hx with rfl | rfl | rfl | rfl | rfl | rfl | rfl | rfl <;> rfl
  · rw [zw5 _ hx (by omega) (by omega), y26 _ (by omega)]
    rcases eight hx with rfl | rfl | rfl | rfl | rfl | rfl | rfl | rfl <;> rfl
  · rw [zw5 _ hx (by omega) (by omega), zw5 _ (tdiv2 hx) (by omega) (by omega), y26 _ (by omega)]
    rcases eight hx with rfl | rfl | rfl | rfl | rfl | rfl | rfl | rfl <;> rfl
theorem wg8 {x role : Int} (hx : 0 ≤ x ∧ x ≤ 7) (hr : 1 ≤ role ∧ role ≤ 3) : decide ((andI (shrI x (role - 1)) 1) = 1) = bitB x role := by
  have hr' : role = 1 ∨ role = 2 ∨ role = 3 := by omega
  rcases hr' with rfl | rfl | rfl <;> rcases eight hx with rfl | rfl | rfl | rfl | rfl | rfl | rfl | rfl <;> decide
theorem y7r {p : List Int} (h : pplB p = true) : (1 ≤ p.length ∧ p.length ≤ 4) ∧ ∀ x ∈ p, 0 ≤ x ∧ x ≤ 7 := by
  simp only [pplB, zA, z1e, zV] at h
  exact ⟨by omega, h.2⟩
theorem w5t (people : List Int) (who role : Int) (hl : people.length ≤ SMALL) : ze5 people who role = some (hasB people who role) := by
  unfold ze5 hasB
  rw [y7u _ hl, zB]
  by_cases h1 : pplB people = true
  case neg => rw [if_neg h1, zF.2 h1]; rfl
  rw [if_pos h1, h1, z3t, zB]
  by_cases h2 : inB who 1 people.length = true
  case neg => rw [if_neg h2, zF.2 h2]; rfl
  rw [if_pos h2, h2, z3t, zB]
  by_cases h3 : inB role 1 3 = true
  case neg => rw [if_neg h3, zF.2 h3]; rfl
  have h2' := z1e.1 h2
  have F := y7r h1
  rw [if_pos h3, h3, z01 (by constructor <;> omega), z16 people (by omega) (by omega), zB, wj7 (F.2 _ (z4l people (by omega) (by omega))) (z1e.1 h3)]
  rfl
theorem w54 (people : List Int) (who role : Int) (hl : people.length ≤ SMALL) : zd8 people who role = some (hasB people who role) := by
  unfold zd8 hasB z86
  rw [y78 _ hl, zB]
  by_cases h1 : pplB people = true
  case neg => rw [if_neg h1, zF.2 h1]; rfl
  rw [if_pos h1, h1, z6j, zB]
  by_cases h2 : inB who 1 people.length = true
  case neg => rw [if_neg h2, zF.2 h2]; rfl
  rw [if_pos h2, h2, z6j, zB, zB]
  by_cases h3 : inB role 1 3 = true
  case neg => rw [if_neg h3, zF.2 h3]; rfl
  have h2' := z1e.1 h2
  have h3' := z1e.1 h3
  have F := y7r h1
  rw [if_pos h3, h3, z01 (by constructor <;> omega), z16 people (by omega) (by omega), zB, z01 (by constructor <;> omega), z01 (by omega), wg8 (F.2 _ (z4l people (by omega) (by omega))) (z1e.1 h3)]
  rfl
def doneD (did : List GDid) (who task : Int) : Bool := did.any (fun d => decide (d.who = who) && decide (d.task = task))
theorem w5s (did : List GDid) (who task : Int) (hl : did.length ≤ SMALL) : ze4 did who task = some (doneD did who task) := by
  unfold ze4 doneD
  exact scan0 did (by unfold SMALL at hl; omega) (z3d did who task zy8) (fun _ suf => some (suf.any (fun d => decide (d.who = who) && decide (d.task = task))))
    (fun f => by rw [z3d, if_neg (by simp)]; rfl)
    (fun f pre x suf a b c d ih => by
      rw [z3d, if_pos (zT c)]
      simp only [b, zB, z01 d, ih, List.any_cons]
      by_cases h1 : x.who = who <;> by_cases h2 : x.task = task <;> simp [h1, h2])
theorem w53 (did : List GDid) (who task : Int) (hl : did.length ≤ SMALL) : zd7 did who task = some (doneD did who task) := by
  have e : zi7 did (GDid.mk task who) = some (anyIdx (fun d : GDid => decide (d.who = who) && decide (d.task = task)) did 0) := by
    unfold zi7
    have := scan0 did (by unfold SMALL at hl; omega) (z4m did (GDid.mk task who) (did.length : Int) y1l) (fun pre suf => some (anyIdx (fun d : GDid => decide (d.who = who) && decide (d.task = task)) suf pre.length))
      (fun f => by rw [z4m, if_neg (by simp)]; rfl)
      (fun f pre x suf a b c d ih => by
        rw [z4m, if_pos (zT c), b, zB, z01 d, ih, anyIdx]
        by_cases h1 : x.who = who <;> by_cases h2 : x.task = task
        · rw [if_pos (by simp [h1, h2]), if_pos (by simp [h1, h2])]
        · rw [if_neg (by simp [h1]; exact fun e => h2 e.symm), if_neg (by simp [h2])]; simp
        · rw [if_neg (by simp; exact fun _ e => h1 e.symm), if_neg (by simp [h1])]; simp
        · rw [if_neg (by simp; exact fun _ e => h1 e.symm), if_neg (by simp [h1])]; simp)
    simpa using this
  unfold zd7 zg4 doneD
  rw [e, zB, zB, z65 _ did 0 (Int.le_refl _)]
def idxs (N : Nat) : List Int := (List.range N).map (fun i : Nat => (i : Int) + 1)
theorem zu3 (N : Nat) : (idxs N).length = N := by simp [idxs]
theorem w6i {N : Nat} {i : Nat} {x : Int} (h : getI (idxs N) (i : Int) = some x) : x = (i : Int) + 1 := by
  rw [zc9] at h
  simp only [idxs, zI, Option.map_eq_some_iff] at h
  obtain ⟨j, hj, rfl⟩ := h
  rw [zG] at hj
  obtain ⟨h1, h2⟩ := hj
  rw [List.getElem_range] at h2
  omega
theorem zf3 {α : Type} (q : α → Bool) : ∀ l : List α, l.flatMap (fun x => if q x = true then [x] else []) = l.filter q
  | [] => rfl
  | x :: l => by
    rw [List.flatMap_cons, zf3 q l, List.filter_cons]
    split <;> simp
def nowB (busy : List GItem) (apart who : Int) : Bool := busy.any (fun b => decide (b.who = who) && decide (b.task = apart))
def mayW (n : GNet) (people : List Int) (did : List GDid) (busy : List GItem) (t who : Int) : Bool :=
  hasB people who (atI n.tasks t).role && (!nowB busy (atI n.tasks t).apart who && !doneD did who (atI n.tasks t).apart)
def mayB (n : GNet) (people : List Int) (did : List GDid) (busy : List GItem) (t : Int) : List Int :=
  bif netB n && (pplB people && inB t 0 ((n.tasks.length : Int) - 1)) then (idxs people.length).filter (mayW n people did busy t) else []
theorem wj8 {n : GNet} {t : Int} (busy : List GItem) (who : Int) (kx : Bool → Option (List Int)) (hg : getI n.tasks t = some (atI n.tasks t)) (hb : busy.length ≤ SMALL) :
    z1q n busy t who kx FUEL false 0 = kx (nowB busy (atI n.tasks t).apart who) :=
  scan busy (by unfold SMALL at hb; omega) (fun f i s => z1q n busy t who kx f s i) (fun _ suf s => kx (s || nowB suf (atI n.tasks t).apart who)) (fun _ _ => True)
    (fun f s _ => by rw [z1q, if_neg (by simp)]; simp [nowB])
    (fun f pre x suf s a b c d _ k => by
      have ih := fun u => k u trivial
      rw [z1q, if_pos (zT c)]
      simp only [b, hg, zB, z01 d, ih, nowB, List.any_cons]
      cases s
      · by_cases h : x.who = who <;> simp [h]
      · simp) FUEL false trivial (by have := z1v; unfold SMALL at hb; omega)
theorem y53 (n : GNet) (people : List Int) (did : List GDid) (busy : List GItem) (t : Int) (hn : n.small) (hp : people.length ≤ SMALL) (hd : did.length ≤ SMALL) (hb : busy.length ≤ SMALL) :
    z59 n people did busy t = some (mayB n people did busy t) := by
  unfold z59 mayB
  rw [y32 n hn, zB]
  by_cases h1 : netB n = true
  case neg => rw [if_neg h1, zF.2 h1]; rfl
  rw [if_pos h1, h1, y7u _ hp, zB]
  by_cases h2 : pplB people = true
  case neg => rw [if_neg h2, zF.2 h2]; rfl
  rw [if_pos h2, h2, z01 (z78 hn.1), z3t, zB]
  by_cases h3 : inB t 0 ((n.tasks.length : Int) - 1) = true
  case neg => rw [if_neg h3, zF.2 h3]; rfl
  have h3' := z1e.1 h3
  have hg := z16 n.tasks h3'.1 (by omega)
  rw [if_pos h3, h3]
  have := y5c (idxs people.length) (by rw [zu3]; exact hp) (fun w => if mayW n people did busy t w = true then [w] else []) (fun f i s => z42 n people did busy t zb0 f (i + 1) s) zb0
    (fun f s => by rw [z42, zu3, if_neg (by simp; omega)])
    (fun f pre x suf s a b c d e i => by
      have hx := w6i b
      rw [zu3] at d
      have hs : s.length + [(pre.length : Int) + 1].length ≤ SMALL := by
        rw [i, zJ]
        have := y5e (e := fun w => if mayW n people did busy t w = true then [w] else []) (fun x => by split <;> simp) pre
        unfold SMALL at hp ⊢; omega
      rw [z42, if_pos (by simp; omega), wj8 busy _ _ hg hb]
      unfold zy9
      simp only [hg, zB, w5t _ _ _ hp, w5s _ _ _ hd, z01 (show ok64 ((pre.length : Int) + 1 + 1) by unfold SMALL at hp; constructor <;> omega), z01 hs]
      subst hx
      unfold mayW
      cases hasB people ((pre.length : Int) + 1) (atI n.tasks t).role <;> cases nowB busy (atI n.tasks t).apart ((pre.length : Int) + 1) <;> cases doneD did ((pre.length : Int) + 1) (atI n.tasks t).apart <;> simp)
  refine this.trans ?_
  rw [zf3]; rfl
theorem yg0 (n : GNet) (people : List Int) (did : List GDid) (busy : List GItem) (t : Int) (hn : n.small) (hp : people.length ≤ SMALL) (hd : did.length ≤ SMALL) (hb : busy.length ≤ SMALL) :
    z85 n people did busy t = some (mayB n people did busy t) := by
  unfold z85 mayB zm6
  rw [yu6 n hn, zB]
  by_cases h1 : netB n = true
  case neg => rw [if_neg h1, zF.2 h1]; rfl
  rw [if_pos h1, h1, y1b n t hn, zB]
  by_cases h3 : inB t 0 ((n.tasks.length : Int) - 1) = true
  case neg => rw [if_neg h3, zF.2 h3]; simp
  have h3' := z1e.1 h3
  have hg := z16 n.tasks h3'.1 (by omega)
  rw [if_pos h3, h3, hg, zB, y78 _ hp, zB]
  by_cases h2 : pplB people = true
  case neg => rw [if_neg h2, zF.2 h2]; rfl
  rw [if_pos h2, h2]
  have hw : ∀ w : Int, z5y w busy (atI n.tasks t) people did = some (mayW n people did busy t w) := fun w => by
    unfold z5y mayW nowB
    rw [y55 busy hb _ (fun b => decide (b.who = w) && decide (b.task = (atI n.tasks t).apart)) (fun x _ => by unfold z9e; by_cases h : x.task = (atI n.tasks t).apart <;> simp [h]), zB, w54 _ _ _ hp, zB, w53 _ _ _ hd, zB]
    cases hasB people w (atI n.tasks t).role <;> cases (busy.any fun b => decide (b.who = w) && decide (b.task = (atI n.tasks t).apart)) <;> simp
  have := y5c (idxs people.length) (by rw [zu3]; exact hp) (fun w => if mayW n people did busy t w = true then [w] else []) (z2f (fun z => z5y z busy (atI n.tasks t) people did) (people.length : Int) z9f) z9f
    (fun f s => by rw [z2f, zu3, if_neg (by simp)])
    (fun f pre x suf s a b c d e i => by
      have hx := w6i b
      rw [zu3] at d
      have hs : s.length + [(pre.length : Int) + 1].length ≤ SMALL := by
        rw [i, zJ]
        have := y5e (e := fun w => if mayW n people did busy t w = true then [w] else []) (fun x => by split <;> simp) pre
        unfold SMALL at hp ⊢; omega
      rw [z2f, if_pos (zT d)]
      simp only [z01 e, z01 hs, hw, zB]
      subst hx
      cases mayW n people did busy t ((pre.length : Int) + 1) <;> simp)
  rw [this, zf3]; rfl
theorem w0i (n : GNet) (people : List Int) (did : List GDid) (busy : List GItem) (t : Int) : (mayB n people did busy t).length ≤ people.length := by
  unfold mayB
  cases netB n && (pplB people && inB t 0 ((n.tasks.length : Int) - 1))
  · simp
  · show ((idxs people.length).filter _).length ≤ _
    have := List.length_filter_le (mayW n people did busy t) (idxs people.length)
    rw [zu3] at this; exact this
noncomputable def startOk (n : GNet) (people : List Int) (c : GCase) (t who : Int) : Bool :=
  casB n c && (decide (c.state = 1) && (enaB n c.marks c.busy t && ((mayB n people c.did c.busy t).any (fun x => decide (x = who)) && !decide ((c.busy.length : Int) = 6))))
def begun (n : GNet) (c : GCase) (t who : Int) : GCase := GCase.mk c.state (takeL (atI n.tasks t).join (atI n.tasks t).in_ c.marks) (c.busy ++ [GItem.mk t who 0]) c.data c.did
noncomputable def startB (n : GNet) (people : List Int) (c : GCase) (t who : Int) : GCase × Bool := bif startOk n people c t who then (begun n c t who, true) else (c, false)
theorem w21 {n : GNet} {m : List Int} {busy : List GItem} {t : Int} (h : enaB n m busy t = true) : mrkB n m = true ∧ busyB n busy = true ∧ (0 ≤ t ∧ t < n.tasks.length) := by
  simp only [enaB, zA, z1e] at h
  exact ⟨h.1, h.2.1, by omega⟩
theorem y6e (n : GNet) (people : List Int) (c : GCase) (t who : Int) (hn : n.small) (hp : people.length ≤ SMALL) (hc : c.small) : z4s n people c t who = some (startB n people c t who) := by
  unfold z4s startB startOk
  rw [zh0 c hc, zB, y7t n c hn hc, zB]
  by_cases h1 : casB n c = true
  case neg => rw [if_neg h1, zF.2 h1]; rfl
  rw [if_pos h1, h1]
  by_cases h2 : c.state = 1
  case neg => rw [if_neg (by simpa using h2), decide_eq_false h2]; rfl
  rw [if_pos (zT h2), zT h2, yk8 n c.marks c.busy t hn hc.1 hc.2.1, zB]
  by_cases h3 : enaB n c.marks c.busy t = true
  case neg => rw [if_neg h3, zF.2 h3]; rfl
  rw [if_pos h3, h3, y53 n people c.did c.busy t hn hp hc.2.2.2 hc.2.1, zB, y7v _ _ (Nat.le_trans (w0i ..) hp), zB]
  by_cases h4 : (mayB n people c.did c.busy t).any (fun x => decide (x = who)) = true
  case neg => rw [if_neg h4, zF.2 h4]; rfl
  rw [if_pos h4, h4]
  by_cases h5 : (c.busy.length : Int) = 6
  · rw [if_pos (zT h5), zT h5]; rfl
  obtain ⟨g1, g2, g3⟩ := w21 h3
  have F := z79 h1
  rw [if_neg (by simpa using h5), decide_eq_false h5, w4a n c.marks t hn hc.1, zB, z01 (by have := F.busyl; rw [zJ]; unfold SMALL; omega), g1, z1e.2 (show 0 ≤ t ∧ t ≤ (n.tasks.length : Int) - 1 by omega)]
  rfl
theorem y8q (n : GNet) (people : List Int) (c : GCase) (t who : Int) : (startB n people c t who).1.marks.length = c.marks.length ∧ ((startB n people c t who).1.busy.length ≤ c.busy.length ∨ (startB n people c t who).1.busy.length ≤ 7) ∧
    (startB n people c t who).1.data.length = c.data.length ∧ (startB n people c t who).1.did.length = c.did.length := by
  unfold startB
  cases e : startOk n people c t who
  · exact ⟨rfl, .inl (Nat.le_refl _), rfl, rfl⟩
  · unfold startOk at e
    rw [zA] at e
    have F := z79 e.1
    have := F.busyl
    exact ⟨yl1 _ _ _, .inr (by show (c.busy ++ [GItem.mk t who 0]).length ≤ 7; rw [zL, zJ]; omega), rfl, rfl⟩
theorem w4g (n : GNet) (people : List Int) (c : GCase) (t who : Int) (hc : c.small) : (startB n people c t who).1.small := by
  obtain ⟨a, b, d, e⟩ := y8q n people c t who
  exact ⟨by rw [a]; exact hc.1, by rcases b with b | b; exact Nat.le_trans b hc.2.1; exact Nat.le_trans b (by unfold SMALL; omega), by rw [d]; exact hc.2.2.1, by rw [e]; exact hc.2.2.2⟩
theorem w0a (n : GNet) (people : List Int) (c : GCase) (t who : Int) (hn : n.small) (hp : people.length ≤ SMALL) (hc : c.small) : z7z n people c t who = some (startB n people c t who) := by
  have hsm := w4g n people c t who hc
  unfold z7z startB startOk
  rw [z54 c hc, zB, zi1 n c hn hc, zB]
  by_cases h1 : casB n c = true
  case neg => rw [zF.2 h1]; rfl
  rw [h1]
  by_cases h2 : c.state = 1
  case neg => rw [decide_eq_false h2]; rfl
  rw [zT h2, if_pos (by rfl)]
  by_cases h5 : (c.busy.length : Int) = 6
  · rw [if_pos (zT h5), zT h5]; simp
  rw [if_neg (by simpa using h5), decide_eq_false h5, w52 n c.marks c.busy t hn hc.1 hc.2.1, zB]
  by_cases h3 : enaB n c.marks c.busy t = true
  case neg => rw [if_neg h3, zF.2 h3]; rfl
  have sym : (mayB n people c.did c.busy t).any (fun x => decide (who = x)) = (mayB n people c.did c.busy t).any (fun x => decide (x = who)) := by congr 1; funext y; exact decide_eq_decide.2 ⟨Eq.symm, Eq.symm⟩
  rw [if_pos h3, h3, yg0 n people c.did c.busy t hn hp hc.2.2.2 hc.2.1, zB, y6j _ (Nat.le_trans (w0i ..) hp), zB, sym]
  by_cases h4 : (mayB n people c.did c.busy t).any (fun x => decide (x = who)) = true
  case neg => rw [if_neg h4, zF.2 h4]; rfl
  obtain ⟨g1, g2, g3⟩ := w21 h3
  have F := z79 h1
  have e : startB n people c t who = (begun n c t who, true) := by unfold startB startOk; rw [h1, zT h2, h3, h4, decide_eq_false h5]; rfl
  rw [e] at hsm
  rw [if_pos h4, h4, w9h hn hc.1 g1 g3.1 g3.2, zB, z01 (by have := F.busyl; rw [zJ]; unfold SMALL; omega)]
  show (z03 (begun n c t who)).bind _ = _
  rw [z54 _ hsm, zB]; rfl
end Go.Am.Pl
end
section
namespace Go.Am.Pl
open Go
def nats (N : Nat) : List Int := (List.range N).map (fun i : Nat => (i : Int))
theorem zv8 (N : Nat) : (nats N).length = N := by simp [nats]
theorem w6m {N : Nat} {i : Nat} {x : Int} (h : getI (nats N) (i : Int) = some x) : x = (i : Int) := by
  rw [zc9] at h
  simp only [nats, zI, Option.map_eq_some_iff] at h
  obtain ⟨j, hj, rfl⟩ := h
  rw [zG] at hj
  obtain ⟨h1, h2⟩ := hj
  rw [List.getElem_range] at h2
  omega
noncomputable def tasksB (n : GNet) (marks : List Int) (busy : List GItem) : List Int := (nats n.tasks.length).filter (enaB n marks busy)
theorem yv9 (n : GNet) (marks : List Int) (busy : List GItem) : (tasksB n marks busy).length ≤ n.tasks.length := by
  have := List.length_filter_le (enaB n marks busy) (nats n.tasks.length)
  rw [zv8] at this; exact this
theorem y6f (n : GNet) (marks : List Int) (busy : List GItem) (hn : n.small) (hm : marks.length ≤ SMALL) (hb : busy.length ≤ SMALL) : z4u n marks busy = some (tasksB n marks busy) := by
  unfold z4u tasksB
  have := y5c (nats n.tasks.length) (by rw [zv8]; exact hn.1) (fun w => if enaB n marks busy w = true then [w] else []) (z21 n marks busy z8a) z8a
    (fun f s => by rw [z21, zv8, if_neg (by simp)])
    (fun f pre x suf s a b c d e i => by
      have hx := w6m b
      rw [zv8] at d
      have hs : s.length + [(pre.length : Int)].length ≤ SMALL := by
        rw [i, zJ]
        have := y5e (e := fun w => if enaB n marks busy w = true then [w] else []) (fun x => by split <;> simp) pre
        have := hn.1; omega
      rw [z21, if_pos (zT d)]
      simp only [yk8 n marks busy _ hn hm hb, zB, z01 e, z01 hs]
      subst hx
      cases enaB n marks busy (pre.length : Int) <;> simp)
  rw [this, zf3]; rfl
theorem w0b (n : GNet) (marks : List Int) (busy : List GItem) (hn : n.small) (hm : marks.length ≤ SMALL) (hb : busy.length ≤ SMALL) : z81 n marks busy = some (tasksB n marks busy) := by
  unfold z81 tasksB
  rw [y2w n marks hn hm, zB]
  by_cases h1 : mrkB n marks = true
  case neg =>
    rw [if_neg h1]; congr 1
    refine (List.filter_eq_nil_iff.2 fun x _ => ?_).symm
    unfold enaB; rw [zF.2 h1]; simp
  rw [if_pos h1, y4q n busy hn hb (y5v h1), zB]
  by_cases h2 : busyB n busy = true
  case neg =>
    rw [if_neg h2]; congr 1
    refine (List.filter_eq_nil_iff.2 fun x _ => ?_).symm
    unfold enaB; rw [zF.2 h2]; simp
  rw [if_pos h2]
  have M := mb_of h1 h2
  have := y5c (nats n.tasks.length) (by rw [zv8]; exact hn.1) (fun w => if enaB n marks busy w = true then [w] else []) (z20 n marks busy (n.tasks.length : Int) z82) z82
    (fun f s => by rw [z20, zv8, if_neg (by simp)])
    (fun f pre x suf s a b c d e i => by
      have hx := w6m b
      rw [zv8] at d
      have hs : s.length + [(pre.length : Int)].length ≤ SMALL := by
        rw [i, zJ]
        have := y5e (e := fun w => if enaB n marks busy w = true then [w] else []) (fun x => by split <;> simp) pre
        have := hn.1; omega
      have he : enaB n marks busy (pre.length : Int) = canB n marks busy (pre.length : Int) := by
        unfold enaB; rw [h1, h2, z1e.2 (show 0 ≤ (pre.length : Int) ∧ (pre.length : Int) ≤ (n.tasks.length : Int) - 1 by omega)]; rfl
      rw [z20, if_pos (zT d)]
      simp only [w6j hn M (show 0 ≤ (pre.length : Int) by omega) d, zB, z01 e, z01 hs]
      subst hx
      rw [he]
      cases canB n marks busy (pre.length : Int) <;> simp)
  rw [this, zf3]; rfl
theorem w9m (n : GNet) (people : List Int) (did : List GDid) (busy : List GItem) (t : Int) : (mayB n people did busy t).length ≤ 4 := by
  have := w0i n people did busy t
  by_cases h : pplB people = true
  · have := (y7r h).1; omega
  · unfold mayB; rw [zF.2 h]; simp
noncomputable def pairs (n : GNet) (people : List Int) (c : GCase) (l : List Int) : List GDid := l.flatMap (fun t => (mayB n people c.did c.busy t).map (GDid.mk t))
theorem wa5 {α γ β : Type} (l : List α) (g : α → γ) (l0 : List γ) (hl : l0.length + l.length ≤ SMALL) (f : Nat → Int → List γ → Option β) (kx : List γ → Option β) (h0 : ∀ n s, f (n + 1) (l.length : Int) s = kx s)
    (h1 : ∀ n i x s, getI l i = some x → x ∈ l → i < (l.length : Int) → ok64 (i + 1) → (∀ y : γ, s.length + [y].length ≤ SMALL) → f (n + 1) i s = f n (i + 1) (s ++ [g x])) : f FUEL 0 l0 = kx (l0 ++ l.map g) :=
  scan l (by unfold SMALL at hl; omega) f (fun _ suf s => kx (s ++ suf.map g)) (fun pre s => s.length = l0.length + pre.length) (fun n s _ => by rw [h0]; simp)
    (fun n pre x suf s a b c d i k => by
      have : pre.length < l.length := by rw [a]; simp
      rw [h1 n _ x s b (by rw [a]; simp) c d (fun y => by rw [zJ]; omega), k _ (by simp; omega)]; simp) FUEL l0 (by simp) (by have := z1v; unfold SMALL at hl; omega)
noncomputable def canL (n : GNet) (people : List Int) (c : GCase) : List GDid := bif casB n c && (decide (c.state = 1) && !decide ((c.busy.length : Int) = 6)) then pairs n people c (tasksB n c.marks c.busy) else []
theorem w51 (n : GNet) (people : List Int) (c : GCase) (hn : n.small) (hp : people.length ≤ SMALL) (hc : c.small) : zd5 n people c = some (canL n people c) := by
  unfold zd5 canL
  rw [zi1 n c hn hc, zB]
  by_cases h1 : casB n c = true
  case neg => rw [zF.2 h1]; rfl
  rw [h1]
  by_cases h2 : c.state = 1
  case neg => rw [decide_eq_false h2]; rfl
  rw [zT h2, if_pos (by rfl)]
  by_cases h5 : (c.busy.length : Int) = 6
  · rw [if_pos (zT h5), zT h5]; rfl
  have F := z79 h1
  have hsz := z50 F.net
  rw [if_neg (by simpa using h5), decide_eq_false h5, w0b n c.marks c.busy hn hc.1 hc.2.1, zB]
  have htl := yv9 n c.marks c.busy
  obtain ⟨ts, hts⟩ : ∃ ts, tasksB n c.marks c.busy = ts := ⟨_, rfl⟩
  rw [hts] at htl ⊢
  have := scan ts (by omega) (fun f i s => z2b n people c ts z5f f (ts.length : Int) i s) (fun _ suf s => some (s ++ pairs n people c suf)) (fun pre s => s.length ≤ 4 * pre.length)
    (fun f s _ => by rw [z2b, if_neg (by simp)]; simp [pairs, z5f])
    (fun f pre x suf s a b cc d i k => by
      have hm := w9m n people c.did c.busy x
      have hpl : pre.length < ts.length := by rw [a]; simp
      rw [z2b, if_pos (zT cc), b, zB, yg0 n people c.did c.busy x hn hp hc.2.2.2 hc.2.1, zB]
      rw [wa5 (mayB n people c.did c.busy x) (GDid.mk x) s (by unfold SMALL; omega) (z3w x (mayB n people c.did c.busy x) ((mayB n people c.did c.busy x).length : Int) (z73 (ts.length : Int) (pre.length : Int) (z2b n people c ts z5f f))) (z73 (ts.length : Int) (pre.length : Int) (z2b n people c ts z5f f))
        (fun f s => by rw [z3w, if_neg (by simp)])
        (fun f i y s a b c d e => by rw [z3w, if_pos (zT c), a, zB, z01 (e _), z01 d])]
      unfold z73
      rw [z01 d, k _ (by simp; omega)]
      unfold pairs
      rw [List.flatMap_cons, List.append_assoc]) FUEL [] (by simp) (by have := z1v; omega)
  exact this
noncomputable def pickB (n : GNet) (people : List Int) (c : GCase) : List GDid → GCase × Bool
  | [] => (c, false)
  | d :: _ => startB n people c d.task d.who
noncomputable def nextB (n : GNet) (people : List Int) (c : GCase) : GCase × Bool :=
  bif casB n c && (pplB people && decide (c.state = 1)) then (if 0 < c.busy.length then workB n c 0 (-1) 0 else pickB n people c (pairs n people c (tasksB n c.marks c.busy))) else (c, false)
theorem w49 (n : GNet) (people : List Int) (c : GCase) (hn : n.small) (hp : people.length ≤ SMALL) (hc : c.small) : z6v n people c = some (nextB n people c) := by
  unfold z6v nextB
  rw [y7t n c hn hc, zB, zh0 c hc]
  by_cases h1 : casB n c = true
  case neg => rw [if_neg h1, zF.2 h1]; rfl
  rw [if_pos h1, h1, y7u _ hp, zB]
  by_cases h2 : pplB people = true
  case neg => rw [if_neg h2, zF.2 h2]; rfl
  rw [if_pos h2, h2]
  by_cases h3 : c.state = 1
  case neg => rw [if_neg (by simpa using h3), decide_eq_false h3]; rfl
  rw [if_pos (zT h3), zT h3]
  by_cases h4 : 0 < c.busy.length
  · rw [if_pos (zT (by omega)), y8o n c 0 (-1) 0 hn hc, zB]
    simp only [Bool.and_self, cond_true, if_pos h4]
  rw [if_neg (by rw [zE]; omega), y6f n c.marks c.busy hn hc.1 hc.2.1, zB]
  simp only [Bool.and_self, cond_true, if_neg h4]
  have F := z79 h1
  have hsz := z50 F.net
  have htl := yv9 n c.marks c.busy
  obtain ⟨ts, hts⟩ : ∃ ts, tasksB n c.marks c.busy = ts := ⟨_, rfl⟩
  rw [hts] at htl ⊢
  exact scan0 ts (by omega) (z3p n people c ts (z9g c)) (fun _ suf => some (pickB n people c (pairs n people c suf)))
    (fun f => by rw [z3p, if_neg (by simp)]; unfold z9g; rw [zh0 c hc]; rfl)
    (fun f pre x suf a b cc d ih => by
      rw [z3p, if_pos (zT cc), b, zB, y53 n people c.did c.busy x hn hp hc.2.2.2 hc.2.1, zB, zB, z01 d, ih]
      unfold pairs
      rw [List.flatMap_cons]
      cases e : mayB n people c.did c.busy x with
      | nil => simp
      | cons w ws => rw [if_pos (by simp)]; show ((getI (w :: ws) 0).bind _) = _; rw [show getI (w :: ws) 0 = some w from rfl, zB, y6e n people c x w hn hp hc]; rfl)
theorem y8c (n : GNet) (people : List Int) (c : GCase) (hn : n.small) (hp : people.length ≤ SMALL) (hc : c.small) : z5k n people c = some (nextB n people c) := by
  unfold z5k nextB
  rw [zi1 n c hn hc, zB, z54 c hc]
  by_cases h1 : casB n c = true
  case neg => rw [zF.2 h1]; rfl
  rw [h1]
  by_cases h3 : c.state = 1
  case neg => rw [decide_eq_false h3]; simp
  rw [zT h3, if_pos (by rfl), y78 _ hp, zB]
  by_cases h2 : pplB people = true
  case neg => rw [if_neg h2, zF.2 h2]; rfl
  rw [if_pos h2, h2]
  by_cases h4 : 0 < c.busy.length
  · rw [if_pos (zT (by omega)), w34 n c 0 (-1) 0 hn hc, zB]
    simp only [Bool.and_self, cond_true, if_pos h4]
  rw [if_neg (by rw [zE]; omega), w51 n people c hn hp hc, zB]
  simp only [Bool.and_self, cond_true, if_neg h4]
  have e : canL n people c = pairs n people c (tasksB n c.marks c.busy) := by
    unfold canL; rw [h1, zT h3, decide_eq_false (by omega)]; rfl
  rw [e]
  generalize pairs n people c (tasksB n c.marks c.busy) = l
  obtain ⟨f, hF⟩ : ∃ f, FUEL = f + 1 := ⟨FUEL - 1, by have := z1v; omega⟩
  rw [hF, z9d]
  cases l with
  | nil => rw [if_neg (by simp)]; unfold zp3; rw [z54 c hc]; rfl
  | cons d ds =>
    rw [if_pos (by simp), show getI (d :: ds) 0 = some d from rfl, zB, w0a n people c d.task d.who hn hp hc]; rfl
def Bnd (c d : GCase) : Prop := d.marks.length ≤ c.marks.length ∧ (d.busy.length ≤ c.busy.length ∨ d.busy.length ≤ 7) ∧ d.data.length ≤ c.data.length ∧ (d.did.length ≤ c.did.length ∨ d.did.length ≤ 61)
theorem Bnd.refl (c : GCase) : Bnd c c := ⟨Nat.le_refl _, .inl (Nat.le_refl _), Nat.le_refl _, .inl (Nat.le_refl _)⟩
theorem Bnd.trans {a b c : GCase} (h1 : Bnd a b) (h2 : Bnd b c) : Bnd a c := by
  obtain ⟨p, q, r, s⟩ := h1
  obtain ⟨t, u, v, w⟩ := h2
  exact ⟨by omega, by omega, by omega, by omega⟩
theorem Bnd.small {c d : GCase} (h : Bnd c d) (hc : c.small) : d.small := by
  obtain ⟨p, q, r, s⟩ := h
  obtain ⟨t, u, v, w⟩ := hc
  unfold SMALL at *
  exact ⟨by unfold SMALL; omega, by unfold SMALL; omega, by unfold SMALL; omega, by unfold SMALL; omega⟩
theorem Bnd.lens {c d : GCase} (h : Bnd c d) (hc : GCase.lens (· ≤ 1048576) c) : GCase.lens (· ≤ 1048576) d := by
  obtain ⟨p, q, r, s⟩ := h
  obtain ⟨t, u, v, w⟩ := hc
  exact ⟨by show _ ≤ _; omega, by show _ ≤ _; omega, by show _ ≤ _; omega, by show _ ≤ _; omega⟩
theorem w4i (n : GNet) (c : GCase) (k v num : Int) : Bnd c (workB n c k v num).1 := by
  unfold workB
  cases e : casB n c && (decide (c.state = 1) && (inB k 0 ((c.busy.length : Int) - 1) && (inB v (-1) 2 && (inB num (-99) 99 && !decide ((c.did.length : Int) = 60)))))
  · exact Bnd.refl c
  · rw [zA] at e
    have F := z79 e.1
    have h60 := F.didl
    have hg := w30 n c.marks (atI c.busy k).task (datB c.data v num)
    have hd : (datB c.data v num).length ≤ c.data.length := by rw [ya2]; exact Nat.le_refl _
    show Bnd c (doneB n c k (datB c.data v num)).1
    unfold doneB
    split
    · exact ⟨Nat.le_refl _, .inl (by simp), hd, .inl (Nat.le_refl _)⟩
    · split
      · split
        · exact ⟨hg, .inl (Nat.zero_le _), hd, .inr (by simp; omega)⟩
        · exact ⟨hg, .inl (by simp; omega), hd, .inr (by simp; omega)⟩
      · exact Bnd.refl c
theorem yv6 (n : GNet) (people : List Int) (c : GCase) (t who : Int) : Bnd c (startB n people c t who).1 := by
  obtain ⟨a, b, d, e⟩ := y8q n people c t who
  exact ⟨by omega, b, by omega, .inl (by omega)⟩
theorem yh5 (n : GNet) (people : List Int) (c : GCase) : Bnd c (nextB n people c).1 := by
  unfold nextB
  cases casB n c && (pplB people && decide (c.state = 1))
  · exact Bnd.refl c
  · show Bnd c (if 0 < c.busy.length then workB n c 0 (-1) 0 else pickB n people c (pairs n people c (tasksB n c.marks c.busy))).1
    split
    · exact w4i n c 0 (-1) 0
    · cases pairs n people c (tasksB n c.marks c.busy) with
      | nil => exact Bnd.refl c
      | cons d ds => exact yv6 n people c d.task d.who
noncomputable def stepsB (n : GNet) (people : List Int) : Nat → GCase → GCase
  | 0, c => c
  | k + 1, c => if (nextB n people c).2 = true then stepsB n people k (nextB n people c).1 else c
theorem yv7 (n : GNet) (people : List Int) : ∀ (k : Nat) (c : GCase), Bnd c (stepsB n people k c)
  | 0, c => Bnd.refl c
  | k + 1, c => by
    unfold stepsB
    split
    · exact (yh5 n people c).trans (yv7 n people k _)
    · exact Bnd.refl c
noncomputable def drvB (n : GNet) (people : List Int) (c : GCase) (steps : Int) : GCase := if 200 < steps then GCase.mk 0 [] [] [] [] else stepsB n people steps.toNat c
theorem w5r (n : GNet) (people : List Int) (c : GCase) (steps : Int) (hn : n.small) (hp : people.length ≤ SMALL) (hc : c.small) : ze3 n people c steps = some (drvB n people c steps) := by
  unfold ze3 drvB
  rw [zh0 c hc, zB]
  by_cases h : 200 < steps
  · rw [if_pos (zT h), if_pos h]
  rw [if_neg (by simpa using h), if_neg h]
  have key : ∀ (k f : Nat) (i : Int) (c : GCase), 0 ≤ i → k = (steps - i).toNat → k < f → c.small → z40 n people steps zy7 f c.state i c.marks c.busy c.data c.did = some (stepsB n people k c) := by
    intro k
    induction k with
    | zero =>
      intro f i c h0 hk hf hc
      obtain ⟨g, rfl⟩ : ∃ g, f = g + 1 := ⟨f - 1, by omega⟩
      rw [z40, if_neg (by simp; omega)]; rfl
    | succ k ih =>
      intro f i c h0 hk hf hc
      obtain ⟨g, rfl⟩ : ∃ g, f = g + 1 := ⟨f - 1, by omega⟩
      rw [z40, if_pos (by simp; omega)]
      show ((z6v n people c).bind _) = _
      rw [w49 n people c hn hp hc, zB, stepsB]
      by_cases h2 : (nextB n people c).2 = true
      · rw [if_pos h2, if_pos h2, z01 (by constructor <;> omega)]
        exact ih g (i + 1) (nextB n people c).1 (by omega) (by omega) (by omega) ((yh5 n people c).small hc)
      · rw [if_neg h2, if_neg h2]
  exact key steps.toNat FUEL 0 c (by omega) (by simp) (by have := z1v; omega) hc
theorem yf9 (n : GNet) (people : List Int) (c : GCase) (steps : Int) (hn : n.small) (hp : people.length ≤ SMALL) (hc : c.small) : z80 n people c steps = some (drvB n people c steps) := by
  unfold z80 drvB
  by_cases h : 200 < steps
  · rw [if_pos (zT h), if_pos h]
  rw [if_neg (by simpa using h), if_neg h, z54 c hc, zB]
  have key : ∀ (k f : Nat) (i : Int) (c : GCase), i ≤ 200 → k = i.toNat → k < f → c.small → z3x n people zy3 zy4 f c.state i c.marks c.busy c.data c.did = some (stepsB n people k c) := by
    intro k
    induction k with
    | zero =>
      intro f i c h0 hk hf hc
      obtain ⟨g, rfl⟩ : ∃ g, f = g + 1 := ⟨f - 1, by omega⟩
      rw [z3x, if_neg (by simp; omega)]; rfl
    | succ k ih =>
      intro f i c h0 hk hf hc
      obtain ⟨g, rfl⟩ : ∃ g, f = g + 1 := ⟨f - 1, by omega⟩
      rw [z3x, if_pos (by simp; omega)]
      show ((z5k n people c).bind _) = _
      rw [y8c n people c hn hp hc, zB, stepsB]
      by_cases h2 : (nextB n people c).2 = true
      · rw [if_pos h2, if_pos h2, z01 (by constructor <;> omega)]
        exact ih g (i - 1) (nextB n people c).1 (by omega) (by omega) (by omega) ((yh5 n people c).small hc)
      · rw [if_neg h2, if_neg h2]; rfl
  exact key steps.toNat FUEL steps c (by omega) rfl (by have := z1v; omega) hc
end Go.Am.Pl
end
section
namespace Go.Am.Pl
open Go
def runB (nets : List GNet) (r : GRun) : Bool := inB r.net 0 ((nets.length : Int) - 1) && casB (atI nets r.net) r.case
def netsB (nets : List GNet) : Bool := inB nets.length 1 3 && nets.all netB
def netsSmall (nets : List GNet) : Prop := nets.length ≤ SMALL ∧ ∀ n ∈ nets, n.small
def houseSmall (h : GHouse) : Prop := netsSmall h.nets ∧ h.people.length ≤ SMALL ∧ treeSmall h.tree ∧ h.runs.length ≤ SMALL ∧ ∀ r ∈ h.runs, r.case.small
theorem w5o {h : GHouse} (hl : GHouse.lens (· ≤ 1048576) h) : houseSmall h := by
  obtain ⟨⟨a, b⟩, c, ⟨d, e⟩, f, g⟩ := hl
  skip
  exact ⟨⟨by unfold SMALL; omega, fun n hn => wb6 (b n hn)⟩, by unfold SMALL; omega, ⟨by unfold SMALL; omega, fun x hx => by have := e x hx; unfold GNode.lens at this; unfold SMALL; omega⟩, by unfold SMALL; omega, fun r hr => w7x (g r hr)⟩
end Go.Am.Pl
end
section
namespace Go.Am.Pl
open Go
end Go.Am.Pl
end
section
namespace Go.Am.Pl
open Go
def noCase : GCase := GCase.mk 0 [] [] [] []
def newC (n : GNet) (data : List Int) : GCase := bif netB n && datOk data then GCase.mk 1 ((List.replicate n.places.toNat (0 : Int)).set 0 1) [] data [] else noCase
theorem we6 {n : GNet} (h : netB n = true) : getI (List.replicate n.places.toNat (0 : Int)) 0 = some (atI (List.replicate n.places.toNat (0 : Int)) 0) := by
  have := z50 h
  exact z16 _ (by omega) (by simp; omega)
theorem w5p (n : GNet) (data : List Int) (hn : n.small) (hd : data.length ≤ SMALL) : ze1 n data = some (newC n data) := by
  unfold ze1 newC
  rw [y32 n hn, zB]
  by_cases h1 : netB n = true
  case neg => rw [if_neg h1, zF.2 h1]; rfl
  rw [if_pos h1, h1, zq7 _ hd, zB]
  by_cases h2 : datOk data = true
  case neg => rw [if_neg h2, zF.2 h2]; rfl
  have := z50 h1
  rw [if_pos h2, h2, z01 (by omega), z01 (by simpa using hd), we6 h1]; rfl
structure RdrFacts (tree : List GNode) : Prop where
  len : tree.length ≤ 12
  node : ∀ a : Int, 0 ≤ a → a < tree.length → nodeB tree.length a (atI tree a) = true
  ones : ∀ j : Nat, 0 < j → j < tree.length → cntL j tree = 1
end Go.Am.Pl
end
