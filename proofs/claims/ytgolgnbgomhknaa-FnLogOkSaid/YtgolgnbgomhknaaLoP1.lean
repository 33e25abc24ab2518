/- Plain laws. Own work. -/
import Derived.Test.YtgolgnbgomhknaaLoC2
set_option maxRecDepth 100000
set_option linter.unusedVariables false
set_option linter.unusedSimpArgs false
set_option maxHeartbeats 2000000
section
namespace Go.Am.Pl
open Go
theorem y9l {α : Type} (pre : List α) (x : α) (suf : List α) : getI (pre ++ x :: suf) (pre.length : Int) = some x := by
  rw [z34]; simp
theorem scan {α β σ : Type} (l : List α) (hl : l.length ≤ 4611686018427387000) (f : Nat → Int → σ → Option β) (g : List α → List α → σ → Option β) (Inv : List α → σ → Prop)
    (h0 : ∀ n s, Inv l s → f (n + 1) (l.length : Int) s = g l [] s)
    (h1 : ∀ n pre x suf s, l = pre ++ x :: suf → getI l (pre.length : Int) = some x → ((pre.length : Int) < (l.length : Int)) → ok64 ((pre.length : Int) + 1) → Inv pre s →
      (∀ s', Inv (pre ++ [x]) s' → f n ((pre.length : Int) + 1) s' = g (pre ++ [x]) suf s') → f (n + 1) (pre.length : Int) s = g pre (x :: suf) s) :
    ∀ n s, Inv [] s → l.length < n → f n 0 s = g [] l s := by
  have key : ∀ suf pre n s, l = pre ++ suf → Inv pre s → suf.length < n → f n (pre.length : Int) s = g pre suf s := by
    intro suf
    induction suf with
    | nil =>
      intro pre n s hp hi hn
      obtain ⟨m, rfl⟩ : ∃ m, n = m + 1 := ⟨n - 1, by simp at hn; omega⟩
      simp only [List.append_nil] at hp
      subst hp
      exact h0 m s hi
    | cons x suf ih =>
      intro pre n s hp hi hn
      obtain ⟨m, rfl⟩ : ∃ m, n = m + 1 := ⟨n - 1, by simp at hn; omega⟩
      have hlen : l.length = pre.length + suf.length + 1 := by rw [hp]; simp; omega
      refine h1 m pre x suf s hp (by rw [hp]; exact y9l pre x suf) (by omega) (by constructor <;> omega) hi ?_
      intro s' hi'
      have := ih (pre ++ [x]) m s' (by rw [hp]; simp) hi' (by simp at hn; omega)
      rw [← this]; simp
  intro n s hi hn
  exact key l [] n s (by simp) hi hn
theorem scan0 {α β : Type} (l : List α) (hl : l.length ≤ 4611686018427387000) (f : Nat → Int → Option β) (g : List α → List α → Option β)
    (h0 : ∀ n, f (n + 1) (l.length : Int) = g l [])
    (h1 : ∀ n pre x suf, l = pre ++ x :: suf → getI l (pre.length : Int) = some x → ((pre.length : Int) < (l.length : Int)) → ok64 ((pre.length : Int) + 1) →
      f n ((pre.length : Int) + 1) = g (pre ++ [x]) suf → f (n + 1) (pre.length : Int) = g pre (x :: suf)) :
    f FUEL 0 = g [] l :=
  scan l hl (fun n i (_ : Unit) => f n i) (fun a b _ => g a b) (fun _ _ => True) (fun n s _ => h0 n) (fun n pre x suf s a b c d e k => h1 n pre x suf a b c d (k () trivial)) FUEL () trivial (by have := z3p; omega)
def inB (n a b : Int) : Bool := decide (a ≤ n ∧ n ≤ b)
theorem z19 (n a b : Int) : z00 n a b = some (inB n a b) := by
  unfold z00 inB; by_cases h : a ≤ n <;> simp [h]
theorem yo5 (n a b : Int) : z26 n a b = some (inB n a b) := by
  unfold z26 inB; by_cases h : a ≤ n <;> simp [h]
theorem iteB (a b : Bool) : (if a = true then some b else some false) = some (a && b) := by cases a <;> rfl
theorem iteN (a b : Bool) : (if a = true then some false else some b) = some (!a && b) := by cases a <;> rfl
def anyIdx {α : Type} (q : α → Bool) : List α → Int → Int
  | [], _ => -1
  | x :: l, i => if q x then i else anyIdx q l (i + 1)
theorem zd2 {α : Type} (q : α → Bool) : ∀ (l : List α) (i : Int), 0 ≤ i → (decide (0 ≤ anyIdx q l i)) = l.any q
  | [], i, _ => by simp [anyIdx]
  | x :: l, i, h => by
    by_cases hx : q x = true
    · simp [anyIdx, hx, h]
    · simp [anyIdx, hx, zd2 q l (i + 1) (by omega)]
theorem yn3 (s : List Int) (hs : s.length ≤ SMALL) (p : Int → Option Bool) (q : Int → Bool) (hp : ∀ x ∈ s, p x = some (q x)) : z7d s p = some (anyIdx q s 0) := by
  unfold z7d
  have := scan0 s (by unfold SMALL at hs; omega) (z2v s p (s.length : Int) zg5) (fun pre suf => some (anyIdx q suf pre.length))
    (fun n => by rw [z2v, if_neg (by simp)]; rfl)
    (fun n pre x suf hl hg hlt hok ih => by
      rw [z2v, if_pos (zT hlt), hg, zB, hp x (by rw [hl]; simp), zB, z02 hok, ih, anyIdx]
      by_cases hx : q x = true
      · rw [if_pos hx, if_pos hx]
      · rw [if_neg hx, if_neg hx]; simp)
  simpa using this
theorem y63 (s : List Int) (hs : s.length ≤ SMALL) (p : Int → Option Bool) (q : Int → Bool) (hp : ∀ x ∈ s, p x = some (q x)) : z4p s p = some (s.any q) := by
  unfold z4p
  rw [yn3 s hs p q hp, zB, zd2 q s 0 (Int.le_refl _)]
theorem y64 (s : List GReq) (hs : s.length ≤ SMALL) (p : GReq → Option Bool) (q : GReq → Bool) (hp : ∀ x ∈ s, p x = some (q x)) : z4q s p = some (anyIdx q s 0) := by
  unfold z4q
  have := scan0 s (by unfold SMALL at hs; omega) (z1r s p (s.length : Int) z82) (fun pre suf => some (anyIdx q suf pre.length))
    (fun n => by rw [z1r, if_neg (by simp)]; rfl)
    (fun n pre x suf hl hg hlt hok ih => by
      rw [z1r, if_pos (zT hlt), hg, zB, hp x (by rw [hl]; simp), zB, z02 hok, ih, anyIdx]
      by_cases hx : q x = true
      · rw [if_pos hx, if_pos hx]
      · rw [if_neg hx, if_neg hx]; simp)
  simpa using this
theorem y0q (s : List GReq) (hs : s.length ≤ SMALL) (p : GReq → Option Bool) (q : GReq → Bool) (hp : ∀ x ∈ s, p x = some (q x)) : z3r s p = some (s.any q) := by
  unfold z3r
  rw [y64 s hs p q hp, zB, zd2 q s 0 (Int.le_refl _)]
def datOk (l : List Int) : Bool := decide (l.length = 3) && l.all (fun x => inB x (-99) 99)
theorem z3x (l : List Int) (hl : l.length ≤ SMALL) : z17 l = some (datOk l) := by
  unfold z17 datOk
  have := scan0 l (by unfold SMALL at hl; omega) (z3j l zm9) (fun _ suf => some (suf.all (fun x => inB x (-99) 99)))
    (fun n => by rw [z3j, if_neg (by simp)]; rfl)
    (fun n pre x suf hl hg hlt hok ih => by
      rw [z3j, if_pos (zT hlt), hg, zB, z19, zB, z02 hok, ih, iteB, List.all_cons])
  rw [this]
  rw [iteB]
  congr 2
  exact decide_eq_decide.2 (by omega)
theorem zm0 (n : Int) : z3f n = some (inB n (-99) 99) := by unfold z3f; rw [yo5]; rfl
theorem y42 {α : Type} (l : List α) (q : α → Bool) : (!l.any (fun x => !q x)) = l.all q := by
  induction l with
  | nil => rfl
  | cons x l ih => rw [List.any_cons, List.all_cons, ← ih]; cases q x <;> simp
theorem yy5 (l : List Int) (hl : l.length ≤ SMALL) : z6o l = some (datOk l) := by
  unfold z6o datOk
  rw [y63 l hl _ (fun n => !inB n (-99) 99) (fun x _ => by unfold z9c; rw [zm0]; rfl), zB, y42, iteB]
  congr 2
  exact decide_eq_decide.2 (by omega)
def expOk (e : GAsk) : Bool := bif decide (e.op = 0) then decide (e.var = 0) && decide (e.k = 0) else inB e.op 1 3 && inB e.var 0 2 && inB e.k (-99) 99
theorem zb4 (e : GAsk) : z39 e = some (expOk e) := by
  unfold z39 expOk
  simp only [z19, zB, iteB]
  by_cases h : e.op = 0
  · simp [h]
  · simp [h, Bool.and_assoc]
theorem yy6 (e : GAsk) : z6p e = some (expOk e) := by
  unfold z6p expOk
  simp only [yo5, zm0, zB, iteB]
  by_cases h : e.op = 0
  · simp [h]
  · simp [h, Bool.and_assoc]
end Go.Am.Pl
end
section
namespace Go.Am.Pl
open Go
def asc (high : Int) : Int → List Int → Bool
  | _, [] => true
  | p, x :: l => inB x (p + 1) high && asc high x l
def ascS (low high : Int) : Option Int → List Int → Bool
  | _, [] => true
  | p, x :: l => inB x low high && (p.all (fun y => decide (y < x)) && ascS low high (some x) l)
theorem yt1 (low high : Int) : ∀ (l : List Int) (p : Option Int), (∀ y, p = some y → low ≤ y) → ascS low high p l = asc high (p.getD (low - 1)) l
  | [], p, _ => rfl
  | x :: l, p, h => by
    simp only [ascS, asc]
    by_cases hx : low ≤ x
    · rw [yt1 low high l (some x) (fun y hy => by cases hy; exact hx), ← Bool.and_assoc]
      congr 1
      cases p with
      | none => simp [inB]
      | some y => have := h y rfl; rw [Bool.eq_iff_iff]; simp [inB]; omega
    · have h1 : inB x low high = false := by simp [inB]; omega
      have h2 : inB x (p.getD (low - 1) + 1) high = false := by
        cases p with
        | none => simp [inB]; omega
        | some y => have := h y rfl; simp [inB]; omega
      rw [h1, h2]; rfl
theorem w1g {α : Type} (pre : List α) (y : α) (suf : List α) : getI (pre ++ y :: suf) ((((pre ++ [y]).length : Nat) : Int) - 1) = some y := by
  have : ((((pre ++ [y]).length : Nat) : Int) - 1) = (pre.length : Int) := by simp
  rw [this]; exact y9l pre y suf
theorem y27 (l : List Int) (least most low high : Int) (hl : l.length ≤ SMALL) : z4l l least most low high = some (inB l.length least most && asc high (low - 1) l) := by
  unfold z4l
  have := scan0 l (by unfold SMALL at hl; omega) (z1u l low high za9) (fun pre suf => some (ascS low high pre.getLast? suf))
    (fun n => by rw [z1u, if_neg (by simp)]; rfl)
    (fun n pre x suf hl hg hlt hok ih => by
      rw [z1u, if_pos (zT hlt), hg]
      simp only [zB, z19, z02 hok, ih]
      rw [ascS]
      by_cases hx : inB x low high = true
      · rw [if_pos hx, hx, Bool.true_and]
        rcases List.eq_nil_or_concat pre with rfl | ⟨pre', y, rfl⟩
        · simp
        · simp only [List.concat_eq_append] at hl hlt hg hok ih ⊢
          have h1 : (((pre' ++ [y]).length : Nat) : Int) = (pre'.length : Int) + 1 := by simp
          have h2 : getI l ((((pre' ++ [y]).length : Nat) : Int) - 1) = some y := by rw [hl, List.append_assoc]; exact w1g pre' y _
          rw [if_pos (zT (by omega)), z02 (by constructor <;> omega), h2]
          simp only [zB]
          by_cases hy : x ≤ y
          · rw [if_pos (zT hy)]; simp; omega
          · rw [if_neg (by simpa using hy)]; simp; omega
      · rw [if_neg hx, zF.2 hx]; rfl)
  rw [this, z19, zB, iteB, yt1 low high l _ (fun y hy => by simp at hy)]
  rfl
theorem y1l (l : List Int) (k : Int) (hl : l.length ≤ SMALL) : z57 l k = some (l.any (fun x => decide (x = k))) := by
  unfold z57
  exact scan0 l (by unfold SMALL at hl; omega) (z3o l k zn9) (fun _ suf => some (suf.any (fun x => decide (x = k))))
    (fun n => by rw [z3o, if_neg (by simp)]; rfl)
    (fun n pre x suf hl hg hlt hok ih => by
      rw [z3o, if_pos (zT hlt), hg, zB, z02 hok, ih, List.any_cons]
      by_cases hx : x = k <;> simp [hx])
theorem z9g {α : Type} {l : List α} (h : l.length ≤ SMALL) : ok64 ((l.length : Int) - 1) := by unfold SMALL at h; constructor <;> omega
theorem ok_pl {places : Int} (hp : 0 ≤ places ∧ places ≤ 100) : ok64 (places - 1) := by constructor <;> omega
def flowsB (t : GTask) (places : Int) : List GFlow → List GFlow → Bool
  | _, [] => true
  | pre, x :: suf => inB x.to 1 (places - 1) && (expOk x.if_ && (((decide (t.split = 1) || suf.isEmpty) == decide (x.if_.op = 0)) && (!pre.any (fun y => decide (y.to = x.to)) && flowsB t places (pre ++ [x]) suf)))
theorem w1h {α : Type} {l pre suf : List α} {k : Int} {x : α} (hl : l = pre ++ suf) (h : getI pre k = some x) : getI l k = some x := by
  obtain ⟨h0, h1, h2⟩ := z7x h
  unfold getI; rw [if_pos h0, hl, List.getElem?_append_left h1]; exact h2
theorem y7u (t : GTask) (pre suf : List GFlow) (hl : t.out = pre ++ suf) (hs : t.out.length ≤ SMALL) (x : GFlow) (i : Int) (hi : i = pre.length) (kx : Option Bool) :
    z18 t i x kx FUEL 0 = if (pre.any fun y => decide (y.to = x.to)) = true then some false else kx := by
  subst hi
  have hp : pre.length ≤ 4611686018427387000 := by have := congrArg List.length hl; simp at this; unfold SMALL at hs; omega
  exact scan0 pre hp (z18 t pre.length x kx) (fun _ suf => if (suf.any fun y => decide (y.to = x.to)) = true then some false else kx)
    (fun n => by rw [z18, if_neg (by simp)]; rfl)
    (fun n p y s hl' hg hlt hok ih => by
      rw [z18, if_pos (zT hlt), w1h hl hg, zB, z02 hok, ih, List.any_cons]
      by_cases hx : y.to = x.to <;> simp [hx])
theorem yi0 {α : Type} {l pre suf : List α} {x : α} (h : l = pre ++ x :: suf) : (decide ((pre.length : Int) = (l.length : Int) - 1)) = suf.isEmpty := by
  rw [h]
  cases suf with
  | nil => simp
  | cons y s => simp; omega
theorem ym5 (t : GTask) (places : Int) (hs : t.out.length ≤ SMALL) (hp : 0 ≤ places ∧ places ≤ 100) : z6l t places = some (inB t.out.length 1 3 && flowsB t places [] t.out) := by
  unfold z6l
  have := scan0 t.out (by unfold SMALL at hs; omega) (z1t t places za8) (fun pre suf => some (flowsB t places pre suf))
    (fun n => by rw [z1t, if_neg (by simp)]; rfl)
    (fun n pre x suf hl hg hlt hok ih => by
      rw [z1t, if_pos (zT hlt), hg, zB, z02 (z9g hs), yi0 hl, flowsB]
      simp only [z02 (ok_pl hp), z19, zb4, zB, y7u t pre _ hl hs x _ rfl, za6, za7, z02 hok, ih]
      cases suf.isEmpty <;> cases inB x.to 1 (places - 1) <;> cases expOk x.if_ <;> cases decide (x.if_.op = 0) <;> cases decide (t.split = 1) <;> cases (pre.any fun y => decide (y.to = x.to)) <;> simp)
  rw [this, z19, zB, iteB]
def taskB (t : GTask) (places tasks : Int) : Bool :=
  inB t.join 1 3 && (inB t.split 1 3 && ((inB t.in_.length 1 3 && asc (places - 1) (-1) t.in_) && (!t.in_.any (fun x => decide (x = 1)) && ((inB t.out.length 1 3 && flowsB t places [] t.out) &&
    ((inB t.clear.length 0 places && asc (places - 1) 1 t.clear) && (inB t.role 1 3 && (inB t.apart (-1) (tasks - 1) && (inB t.all 1 3 && inB t.need 1 t.all))))))))
end Go.Am.Pl
namespace Go.Am
def GTask.small (t : GTask) : Prop := t.in_.length ≤ SMALL ∧ t.out.length ≤ SMALL ∧ t.clear.length ≤ SMALL
end Go.Am
namespace Go.Am.Pl
theorem yr4 (t : GTask) (places tasks : Int) (hs : t.small) (hp : 0 ≤ places ∧ places ≤ 100) (ht : 0 ≤ tasks ∧ tasks ≤ SMALL) : z7l t places tasks = some (taskB t places tasks) := by
  obtain ⟨h1, h2, h3⟩ := hs
  unfold z7l taskB
  have ht' : ok64 (tasks - 1) := by unfold SMALL at ht; constructor <;> omega
  simp only [z19, zB, z02 (ok_pl hp), z02 ht', y27 _ _ _ _ _ h1, y27 _ _ _ _ _ h3, y1l _ _ h1, ym5 t places h2 hp, iteB, iteN]
  rfl
def netB (n : GNet) : Bool := inB n.places 2 8 && (inB n.tasks.length 1 6 && n.tasks.all (fun t => taskB t n.places n.tasks.length))
end Go.Am.Pl
namespace Go.Am
def GNet.small (n : GNet) : Prop := n.tasks.length ≤ SMALL ∧ ∀ t ∈ n.tasks, t.small
end Go.Am
namespace Go.Am.Pl
theorem zb5 (n : GNet) (hs : n.small) : z1l n = some (netB n) := by
  unfold z1l netB
  simp only [z19, zB]
  by_cases hp : inB n.places 2 8 = true
  · have hp' : 0 ≤ n.places ∧ n.places ≤ 100 := by simp [inB] at hp; omega
    have := scan0 n.tasks (by have := hs.1; unfold SMALL at this; omega) (z3m n zn2) (fun _ suf => some (suf.all (fun t => taskB t n.places n.tasks.length)))
      (fun k => by rw [z3m, if_neg (by simp)]; rfl)
      (fun k pre x suf hl hg hlt hok ih => by
        rw [z3m, if_pos (zT hlt), hg, zB, yr4 x _ _ (hs.2 x (by rw [hl]; simp)) hp' ⟨by omega, by exact_mod_cast hs.1⟩, zB, z02 hok, ih, iteB, List.all_cons])
    rw [this, if_pos hp, hp, iteB, Bool.true_and]
  · rw [if_neg hp, zF.2 hp]; rfl
end Go.Am.Pl
end
section
namespace Go.Am.Pl
open Go
deriving instance Inhabited for GAsk, GFlow, GTask, GNet, GItem, GDid, GCase, GNode, GRun, GHouse, GReq
theorem y9m {α : Type} (l : List α) {i : Int} (h0 : 0 ≤ i) (h1 : i < l.length) : ∃ x, getI l i = some x ∧ x ∈ l := by
  obtain ⟨n, rfl⟩ := Int.eq_ofNat_of_zero_le h0
  have hn : n < l.length := by omega
  exact ⟨l[n], by rw [z34, List.getElem?_eq_getElem hn], List.getElem_mem hn⟩
def atI {α : Type} [Inhabited α] (l : List α) (i : Int) : α := (getI l i).getD default
theorem z1p {α : Type} [Inhabited α] (l : List α) {i : Int} (h0 : 0 ≤ i) (h1 : i < l.length) : getI l i = some (atI l i) := by
  obtain ⟨x, hx, _⟩ := y9m l h0 h1
  unfold atI; rw [hx]; rfl
theorem z3q {α : Type} [Inhabited α] (l : List α) {i : Int} (h0 : 0 ≤ i) (h1 : i < l.length) : atI l i ∈ l := by
  obtain ⟨x, hx, hm⟩ := y9m l h0 h1
  unfold atI; rw [hx]; exact hm
theorem z0a {n a b : Int} : inB n a b = true ↔ a ≤ n ∧ n ≤ b := by simp [inB]
def expHolds (e : GAsk) (data : List Int) : Bool :=
  expOk e && (datOk data && (bif decide (e.op = 1) then decide (atI data e.var < e.k) else bif decide (e.op = 2) then decide (atI data e.var = e.k) else bif decide (e.op = 3) then decide (e.k < atI data e.var) else true))
theorem w0z {e : GAsk} {data : List Int} (h : expOk e = true) (hd : datOk data = true) : e.op = 0 ∨ getI data e.var = some (atI data e.var) := by
  by_cases h0 : e.op = 0
  · exact .inl h0
  · right
    simp [expOk, h0, inB] at h
    simp [datOk] at hd
    exact z1p data (by omega) (by omega)
theorem z3d (e : GAsk) (data : List Int) (hl : data.length ≤ SMALL) : z0r e data = some (expHolds e data) := by
  unfold z0r expHolds
  rw [zb4, zB, z3x data hl]
  by_cases h1 : expOk e = true
  · by_cases h2 : datOk data = true
    · rcases w0z h1 h2 with h | h
      · simp [h1, h2, h]
      · rw [if_pos h1, zB, if_pos h2, h1, h2, h]
        by_cases a : e.op = 1 <;> by_cases b : e.op = 2 <;> by_cases c : e.op = 3 <;> simp [a, b, c]
    · simp [h1, zF.2 h2]
  · simp [zF.2 h1]
def marksB (n : GNet) (m : List Int) : Bool := decide ((m.length : Int) = n.places) && m.all (fun x => inB x 0 4)
def mrkB (n : GNet) (m : List Int) : Bool := netB n && marksB n m
theorem zr9 (n : GNet) (m : List Int) (hn : n.small) (hm : m.length ≤ SMALL) : z49 n m = some (mrkB n m) := by
  unfold z49 mrkB marksB
  have := scan0 m (by unfold SMALL at hm; omega) (z3l m zn1) (fun _ suf => some (suf.all (fun x => inB x 0 4)))
    (fun k => by rw [z3l, if_neg (by simp)]; rfl)
    (fun k pre x suf hl hg hlt hok ih => by
      rw [z3l, if_pos (zT hlt), hg, zB, z19, zB, z02 hok, ih, iteB, List.all_cons])
  rw [this, zb5 n hn, zB, iteB, iteB]
def pplB (p : List Int) : Bool := inB p.length 1 4 && p.all (fun x => inB x 0 7)
theorem y1k (m : List Int) (hm : m.length ≤ SMALL) : z55 m = some (pplB m) := by
  unfold z55 pplB
  have := scan0 m (by unfold SMALL at hm; omega) (z3n m zn3) (fun _ suf => some (suf.all (fun x => inB x 0 7)))
    (fun k => by rw [z3n, if_neg (by simp)]; rfl)
    (fun k pre x suf hl hg hlt hok ih => by
      rw [z3n, if_pos (zT hlt), hg, zB, z19, zB, z02 hok, ih, iteB, List.all_cons])
  rw [this, z19, zB, iteB]
def itemB (n : GNet) (b : GItem) : Bool := inB b.task 0 ((n.tasks.length : Int) - 1) && (inB b.who 1 4 && inB b.did 0 ((atI n.tasks b.task).need - 1))
def busyB (n : GNet) (busy : List GItem) : Bool := decide ((busy.length : Int) ≤ 6) && busy.all (itemB n)
theorem w24 {n : GNet} (h : netB n = true) {t : GTask} (ht : t ∈ n.tasks) : 1 ≤ t.need ∧ t.need ≤ 3 := by
  simp only [netB, zA, zV] at h
  have := h.2.2 t ht
  simp only [taskB, zA, z0a] at this
  omega
theorem y60 (n : GNet) (busy : List GItem) (hn : n.small) (hb : busy.length ≤ SMALL) (ho : netB n = true) : z5y n busy = some (busyB n busy) := by
  unfold z5y busyB
  have := scan0 busy (by unfold SMALL at hb; omega) (z2z n busy zg8) (fun _ suf => some (suf.all (itemB n)))
    (fun k => by rw [z2z, if_neg (by simp)]; rfl)
    (fun k pre x suf hl hg hlt hok ih => by
      rw [z2z, if_pos (zT hlt), hg]
      simp only [zB, z02 (z9g hn.1), z19, List.all_cons, itemB]
      by_cases h1 : inB x.task 0 ((n.tasks.length : Int) - 1) = true
      · have h1' := z0a.1 h1
        have hmem := z3q n.tasks h1'.1 (by omega)
        have hneed := w24 ho hmem
        rw [if_pos h1, z1p n.tasks h1'.1 (by omega), zB, z02 (by constructor <;> omega), z02 hok, ih, h1]
        cases inB x.who 1 4 <;> cases inB x.did 0 ((atI n.tasks x.task).need - 1) <;> simp
      · rw [if_neg h1, zF.2 h1]; rfl)
  rw [this]
  by_cases h6 : 6 < (busy.length : Int)
  · rw [if_pos (zT h6), decide_eq_false (by omega)]; rfl
  · rw [if_neg (by simpa using h6), zT (by omega)]; rfl
def didB (n : GNet) (d : GDid) : Bool := inB d.task 0 ((n.tasks.length : Int) - 1) && inB d.who 1 4
def stateB (c : GCase) : Bool := bif decide (c.state = 1) then decide (atI c.marks 1 = 0) else decide ((c.busy.length : Int) = 0) && (decide (c.state = 2) == decide (0 < atI c.marks 1))
def casB (n : GNet) (c : GCase) : Bool := mrkB n c.marks && (busyB n c.busy && (datOk c.data && (!decide (60 < (c.did.length : Int)) && (inB c.state 1 3 && (c.did.all (didB n) && stateB c)))))
end Go.Am.Pl
namespace Go.Am
def GCase.small (c : GCase) : Prop := c.marks.length ≤ SMALL ∧ c.busy.length ≤ SMALL ∧ c.data.length ≤ SMALL ∧ c.did.length ≤ SMALL
end Go.Am
namespace Go.Am.Pl
theorem yu8 {n : GNet} {m : List Int} (h : mrkB n m = true) : netB n = true := by simp only [mrkB, zA] at h; exact h.1
theorem w51 {n : GNet} {m : List Int} (h : mrkB n m = true) : getI m 1 = some (atI m 1) := by
  simp only [mrkB, netB, marksB, zA, z0a, zE] at h
  exact z1p m (by omega) (by omega)
theorem y1j (n : GNet) (c : GCase) (hn : n.small) (hc : c.small) : z54 n c = some (casB n c) := by
  obtain ⟨hc1, hc2, hc3, hc4⟩ := hc
  unfold z54 casB
  rw [zr9 n c.marks hn hc1, zB]
  by_cases h1 : mrkB n c.marks = true
  · have ho := yu8 h1
    have hk : z5i c = some (stateB c) := by
      unfold z5i stateB
      rw [w51 h1]
      by_cases hs : c.state = 1
      · simp [hs]
      · by_cases hb : c.busy = [] <;> simp [hs, hb]
    have := scan0 c.did (by unfold SMALL at hc4; omega) (z3i n c (z5i c)) (fun _ suf => some (suf.all (didB n) && stateB c))
      (fun k => by rw [z3i, if_neg (by simp), hk]; rfl)
      (fun k pre x suf hl hg hlt hok ih => by
        rw [z3i, if_pos (zT hlt), hg]
        simp only [zB, z02 (z9g hn.1), z19, List.all_cons, didB, z02 hok, ih]
        cases inB x.task 0 ((n.tasks.length : Int) - 1) <;> cases inB x.who 1 4 <;> simp)
    rw [if_pos h1, y60 n c.busy hn hc2 ho, zB, z3x c.data hc3, zB, z19, zB, this, h1]
    simp only [iteB, iteN]
    rfl
  · rw [if_neg h1, zF.2 h1]; rfl
theorem w05 {t : GTask} (h : GTask.lens (· ≤ 1048576) t) : t.small := by
  obtain ⟨a, b, c⟩ := h; unfold GTask.small SMALL; omega
theorem w32 {n : GNet} (h : GNet.lens (· ≤ 1048576) n) : n.small := ⟨by have := h.1; dsimp only at this; unfold SMALL; omega, fun t ht => w05 (h.2 t ht)⟩
theorem w04 {c : GCase} (h : GCase.lens (· ≤ 1048576) c) : c.small := by
  obtain ⟨a, b, c, d⟩ := h; unfold GCase.small SMALL; omega
end Go.Am.Pl
end
section
namespace Go.Am.Pl
open Go
def Tot {α : Type} (o : Option α) (P : α → Prop) : Prop := ∃ v, o = some v ∧ P v
section
variable {α β : Type}
theorem Tot.pure {v : α} {P : α → Prop} (h : P v) : Tot (some v) P := ⟨v, rfl, h⟩
theorem Tot.bind {o : Option α} {P : α → Prop} (h : Tot o P) {f : α → Option β} {Q : β → Prop} (g : ∀ v, P v → Tot (f v) Q) : Tot (o.bind f) Q := by
  obtain ⟨v, rfl, hv⟩ := h; exact g v hv
theorem Tot.bindE {o : Option α} {v : α} (h : o = some v) {f : α → Option β} {Q : β → Prop} (g : Tot (f v) Q) : Tot (o.bind f) Q := by rw [h]; exact g
theorem Tot.gd {p : Prop} [Decidable p] {x : Option α} {Q : α → Prop} (h : p) (g : Tot x Q) : Tot (gd p x) Q := by rw [z02 h]; exact g
theorem Tot.ite {c : Prop} [Decidable c] {a b : Option α} {Q : α → Prop} (h1 : c → Tot a Q) (h2 : ¬ c → Tot b Q) : Tot (if c then a else b) Q := by
  split
  · exact h1 ‹_›
  · exact h2 ‹_›
theorem Tot.iteD {c : Prop} [Decidable c] {a b : Option α} {Q : α → Prop} (h1 : c → Tot a Q) (h2 : ¬ c → Tot b Q) : Tot (if decide c = true then a else b) Q :=
  Tot.ite (fun h => h1 (of_decide_eq_true h)) (fun h => h2 (fun x => h (zT x)))
theorem Tot.iteN {c : Prop} [Decidable c] {a b : Option α} {Q : α → Prop} (h1 : ¬ c → Tot a Q) (h2 : c → Tot b Q) : Tot (if (!decide c) = true then a else b) Q :=
  Tot.ite (fun h => h1 (by simpa using h)) (fun h => h2 (by simpa using h))
theorem Tot.mono {o : Option α} {P Q : α → Prop} (h : Tot o P) (g : ∀ v, P v → Q v) : Tot o Q := by obtain ⟨v, e, hv⟩ := h; exact ⟨v, e, g v hv⟩
theorem Tot.getI {l : List α} {i : Int} (h0 : 0 ≤ i) (h1 : i < l.length) {f : α → Option β} {Q : β → Prop} (g : ∀ x, x ∈ l → getI l i = some x → Tot (f x) Q) : Tot ((getI l i).bind f) Q := by
  obtain ⟨x, hx, hm⟩ := y9m l h0 h1
  rw [hx]; exact g x hm hx
theorem Tot.loop {σ : Type} (I : σ → Prop) (mu : σ → Nat) (f : Nat → σ → Option β) {Q : β → Prop} (step : ∀ n s, I s → (∀ s', I s' → mu s' < mu s → Tot (f n s') Q) → Tot (f (n + 1) s) Q) : ∀ (k n : Nat) (s : σ), mu s ≤ k → k < n → I s → Tot (f n s) Q
  | 0, n, s, hm, hn, hi => by
    obtain ⟨m, rfl⟩ : ∃ m, n = m + 1 := ⟨n - 1, by omega⟩
    exact step m s hi fun s' _ h => absurd h (by omega)
  | k + 1, n, s, hm, hn, hi => by
    obtain ⟨m, rfl⟩ : ∃ m, n = m + 1 := ⟨n - 1, by omega⟩
    exact step m s hi fun s' hi' h => Tot.loop I mu f step k m s' (by omega) (by omega) hi'
theorem Tot.loopF {σ : Type} (I : σ → Prop) (mu : σ → Nat) (f : Nat → σ → Option β) {Q : β → Prop} (step : ∀ n s, I s → (∀ s', I s' → mu s' < mu s → Tot (f n s') Q) → Tot (f (n + 1) s) Q) (s : σ) (hm : mu s ≤ 1000000000000) (hi : I s) : Tot (f FUEL s) Q :=
  Tot.loop I mu f step _ FUEL s hm (by have := z3p; omega) hi
end
theorem w0r {x : Int} (h : 0 ≤ x ∧ x < 4611686018427387904) : BitVec.ofInt 64 x = BitVec.ofNat 64 x.toNat := by
  obtain ⟨n, rfl⟩ := Int.eq_ofNat_of_zero_le h.1
  apply BitVec.eq_of_toNat_eq
  rw [BitVec.toNat_ofInt, BitVec.toNat_ofNat]
  omega
theorem w80 {x y : Int} (hx : 0 ≤ x ∧ x < 4611686018427387904) (hy : 0 ≤ y ∧ y < 4611686018427387904) : 0 ≤ xorI x y ∧ xorI x y < 4611686018427387904 := by
  unfold xorI
  rw [w0r hx, w0r hy, BitVec.toNat_xor, BitVec.toNat_ofNat, BitVec.toNat_ofNat]
  have h1 : x.toNat % 2 ^ 64 < 2 ^ 62 := by omega
  have h2 : y.toNat % 2 ^ 64 < 2 ^ 62 := by omega
  have := Nat.xor_lt_two_pow h1 h2
  rw [IntKind.wrap_i64]; omega
structure Rd (K : Int) (r : GRd) : Prop where
  byte : ∀ y ∈ r.b, 0 ≤ y ∧ y ≤ 255
  len : r.b.length ≤ 2000
  p0 : 0 ≤ r.p
  p1 : r.p ≤ K
theorem Rd.mono {K L : Int} {r : GRd} (h : Rd K r) (hl : K ≤ L) : Rd L r := ⟨h.byte, h.len, h.p0, Int.le_trans h.p1 hl⟩
end Go.Am.Pl
end
section
namespace Go.Am.Pl
open Go
theorem Tot.bind2 {α β γ : Type} {o : Option (α × β)} {P : α × β → Prop} (h : Tot o P) {f : α × β → Option γ} {Q : γ → Prop} (g : ∀ a b, P (a, b) → Tot (f (a, b)) Q) : Tot (o.bind f) Q := by
  obtain ⟨⟨a, b⟩, rfl, hv⟩ := h; exact g a b hv
theorem z3h {K : Int} {r : GRd} {n : Int} (h : Rd K r) (hK : K ≤ 1000000000) : Tot (z05 r n) (fun v => (0 ≤ v.1 ∧ (1 ≤ n → v.1 < n)) ∧ Rd (K + 1) v.2) := by
  obtain ⟨hb, hl, h0, h1⟩ := h
  have R : Rd (K + 1) (GRd.mk r.b (r.p + 1)) := ⟨hb, hl, by show 0 ≤ r.p + 1; omega, by show r.p + 1 ≤ K + 1; omega⟩
  unfold z05
  refine Tot.gd (by constructor <;> omega) (Tot.iteD (fun c => Tot.pure ⟨⟨Int.le_refl _, fun h => absurd h (by omega)⟩, R⟩) (fun c => ?_))
  refine Tot.iteD (fun c => Tot.pure ⟨⟨Int.le_refl _, fun h => by show (0 : Int) < n; omega⟩, R⟩) (fun c2 => ?_)
  have mod : ∀ x : Int, 0 ≤ x → Tot (some (Int.tmod x n, GRd.mk r.b (r.p + 1))) (fun v => (0 ≤ v.1 ∧ (1 ≤ n → v.1 < n)) ∧ Rd (K + 1) v.2) := fun x hx =>
    Tot.pure ⟨⟨Int.tmod_nonneg _ hx, fun h => Int.tmod_lt_of_pos _ (by omega)⟩, R⟩
  refine Tot.gd (by constructor <;> omega) (Tot.iteD (fun c3 => ?_) (fun c3 => ?_))
  · refine Tot.getI (by omega) c3 (fun x hx _ => ?_)
    have := hb x hx
    exact Tot.gd (by constructor <;> omega) (Tot.gd (by omega) (mod x (by omega)))
  · have hlen : 0 < (r.b.length : Int) := by omega
    refine Tot.gd (by omega) (Tot.getI (Int.tmod_nonneg _ (by omega)) (Int.tmod_lt_of_pos _ hlen) (fun x hx _ => ?_))
    have hx := hb x hx
    refine Tot.gd (by constructor <;> omega) (Tot.gd (by constructor <;> omega) (Tot.gd (by constructor <;> omega) (Tot.gd (by constructor <;> omega) (Tot.gd (by omega) ?_))))
    refine Tot.getI (Int.tmod_nonneg _ (by omega)) (Int.tmod_lt_of_pos _ hlen) (fun y hy _ => ?_)
    have hy := hb y hy
    have hq : 0 ≤ Int.tdiv (r.p + 1 - 1) (r.b.length : Int) ∧ Int.tdiv (r.p + 1 - 1) (r.b.length : Int) ≤ r.p := by
      rw [Int.tdiv_eq_ediv_of_nonneg (by omega)]
      refine ⟨Int.ediv_nonneg (by omega) (by omega), Int.le_trans (Int.ediv_le_self _ (by omega)) (by omega)⟩
    generalize Int.tdiv (r.p + 1 - 1) (r.b.length : Int) = q at *
    refine Tot.gd (by constructor <;> omega) (Tot.gd (by constructor <;> omega) (Tot.gd (by constructor <;> omega) (Tot.gd (by constructor <;> omega) (Tot.gd (by constructor <;> omega) (Tot.gd ⟨by omega, by constructor <;> omega⟩ (Tot.gd (by constructor <;> omega) (Tot.gd (by constructor <;> omega) ?_)))))))
    generalize hs : x * 131 + y * 1117 + (r.p + 1 - 1) * 29 + q * 53 = s
    have hs0 : 0 ≤ s ∧ s ≤ 1000000000000 := by omega
    have hd : Int.tdiv s 64 = s / 64 := Int.tdiv_eq_ediv_of_nonneg (by omega)
    rw [hd]
    refine Tot.gd ⟨by omega, by constructor <;> omega⟩ (Tot.gd (by omega) (mod _ (w80 ⟨by omega, by omega⟩ ⟨by omega, by omega⟩).1))
theorem Rd.eta {K : Int} {r : GRd} (h : Rd K r) : Rd K (GRd.mk r.b r.p) := h
theorem y8j {K : Int} {r : GRd} {n : Int} (h : Rd K r) (hK : K ≤ 900000000) : Tot (z3g r n) (fun v => v.1.length ≤ 4 ∧ Rd (K + 20) v.2) := by
  unfold z3g
  have key := Tot.loopF (Q := fun v : List Int × GRd => v.1.length ≤ 4 ∧ Rd (K + 20) v.2) (fun s : List Int × Int × Int × List Int => Rd (K + 2 * s.2.2.1) (GRd.mk s.1 s.2.1) ∧ 0 ≤ s.2.2.1 ∧ s.2.2.1 ≤ 3 ∧ (s.2.2.2.length : Int) = s.2.2.1) (fun s => (3 - s.2.2.1).toNat)
    (fun f s => z2p (z4g n) f s.1 s.2.1 s.2.2.1 s.2.2.2) (fun f s hi ih => ?_) (r.b, r.p, 0, []) (by dsimp only; omega) ⟨by dsimp only; exact h.eta.mono (by omega), by dsimp only; omega, by dsimp only; omega, rfl⟩
  · exact key
  obtain ⟨b0, p0, i, l⟩ := s
  obtain ⟨h1, h2, h3, h4⟩ := hi
  dsimp only at h1 h2 h3 h4 ⊢
  have ih' : ∀ b p i' l', Rd (K + 2 * i') (GRd.mk b p) → 0 ≤ i' → i' ≤ 3 → ((l' : List Int).length : Int) = i' → i < i' → Tot (z2p (z4g n) f b p i' l') (fun v => v.1.length ≤ 4 ∧ Rd (K + 20) v.2) :=
    fun b p i' l' g1 g2 g3 g4 g5 => ih (b, p, i', l') ⟨g1, g2, g3, g4⟩ (by dsimp only; omega)
  rw [z2p]
  refine Tot.iteD (fun c => ?_) (fun c => ?_)
  · skip
    repeat' first
      | (refine Tot.bind2 (z3h (by assumption) (by omega)) ?_; intro a b h; dsimp only at h; obtain ⟨⟨_, _⟩, _⟩ := h; try dsimp only)
      | (refine Tot.gd (by first | omega | (constructor <;> omega) | (simp only [zL, zC, zN, zS, List.length_drop, SMALL]; omega)) ?_)
      | (refine Tot.getI (by omega) (by first | omega | (simp only [zC, zN, zS, zL]; omega)) ?_; intro x hx hg)
      | (refine Tot.iteD (fun _ => ?_) (fun _ => ?_))
      | (refine ih' _ _ _ _ (Rd.mono (by assumption) (by omega)) (by omega) (by omega) (by simp only [zL, zC, zN]; omega) (by omega))
  · unfold z4g
    repeat' first
      | (refine Tot.bind2 (z3h (by assumption) (by omega)) ?_; intro a b h; dsimp only at h; obtain ⟨⟨_, _⟩, _⟩ := h; try dsimp only)
      | (refine Tot.gd (by first | omega | (constructor <;> omega) | (simp only [zL, zC, zN, zS, List.length_drop, SMALL]; omega)) ?_)
      | (refine Tot.getI (by omega) (by first | omega | (simp only [zC, zN, zS, zL]; omega)) ?_; intro x hx hg)
      | (refine Tot.iteD (fun _ => ?_) (fun _ => ?_))
      | exact Tot.pure ⟨by first | (dsimp only; omega) | (simp only [zL, zC, zN, zS, List.length_drop]; omega), Rd.mono (by assumption) (by omega)⟩
theorem w6q {K : Int} {r : GRd} {n : Int} (h : Rd K r) (hK : K ≤ 900000000) : Tot (z7k r n) (fun v => Rd (K + 20) v.2) := by
  unfold z7k
  repeat' first
    | (refine Tot.bind2 (z3h (by assumption) (by omega)) ?_; intro a b h; dsimp only at h; obtain ⟨⟨_, _⟩, _⟩ := h; try dsimp only)
    | (refine Tot.gd (by first | omega | (constructor <;> omega) | (simp only [zL, zC, zN, zS, List.length_drop, SMALL]; omega)) ?_)
    | (refine Tot.getI (by omega) (by first | omega | (simp only [zC, zN, zS, zL]; omega)) ?_; intro x hx hg)
    | (refine Tot.iteD (fun _ => ?_) (fun _ => ?_))
    | exact Tot.pure (Rd.mono (by assumption) (by omega))
theorem yz7 {K : Int} {r : GRd} {n : Int} (h : Rd K r) (hK : K ≤ 900000000) : Tot (z4t r n) (fun v => v.1.length ≤ 5 ∧ Rd (K + 20) v.2) := by
  unfold z4t
  refine Tot.bind2 (z3h h (by omega)) ?_
  intro a b h1
  dsimp only at h1
  obtain ⟨⟨a0, a1⟩, hb⟩ := h1
  dsimp only
  refine Tot.getI (by omega) (by simp only [zC, zN]; omega) ?_
  intro l hl _
  have hl : 1 ≤ l.length ∧ l.length ≤ 4 := by
    simp only [zM, List.not_mem_nil, or_false] at hl
    rcases hl with rfl | rfl | rfl | rfl | rfl <;> simp
  simp only [List.nil_append]
  repeat' first
    | (refine Tot.bind2 (z3h (by assumption) (by omega)) ?_; intro a b h; dsimp only at h; obtain ⟨⟨_, _⟩, _⟩ := h; try dsimp only)
    | (refine Tot.gd (by first | omega | (constructor <;> omega) | (simp only [zL, zC, zN, zS, List.length_drop, SMALL]; omega)) ?_)
    | (refine Tot.getI (by omega) (by first | omega | (simp only [zC, zN, zS, zL]; omega)) ?_; intro x hx hg)
    | (refine Tot.iteD (fun _ => ?_) (fun _ => ?_))
    | exact Tot.pure ⟨by first | (dsimp only; omega) | (simp only [zL, zC, zN, zS, List.length_drop]; omega), Rd.mono (by assumption) (by omega)⟩
end Go.Am.Pl
end
section
namespace Go.Am.Pl
open Go
def cnt1 (x : GNode) (i : Int) : Int := (if x.yes = i then 1 else 0) + (if x.no = i then 1 else 0)
def cntL (i : Int) : List GNode → Int
  | [] => 0
  | x :: l => cnt1 x i + cntL i l
theorem w6y (x : GNode) (i : Int) : 0 ≤ cnt1 x i ∧ cnt1 x i ≤ 2 := by unfold cnt1; split <;> split <;> omega
theorem w0v (i : Int) : ∀ l : List GNode, 0 ≤ cntL i l ∧ cntL i l ≤ 2 * l.length
  | [] => by simp [cntL]
  | x :: l => by have := w0v i l; have := w6y x i; simp only [cntL, zC]; omega
theorem ye7 (i : Int) (x : GNode) : ∀ l : List GNode, cntL i (l ++ [x]) = cntL i l + cnt1 x i
  | [] => by simp [cntL]
  | y :: l => by simp only [List.cons_append, cntL, ye7 i x l]; omega
theorem w7q (tree : List GNode) (i : Int) (kx : Int → Option Bool) (ht : tree.length ≤ SMALL) : z0g tree i kx FUEL 0 0 = kx (cntL i tree) := by
  have := scan tree (by unfold SMALL at ht; omega) (fun n k s => z0g tree i kx n s k) (fun _ suf s => kx (s + cntL i suf)) (fun pre s => 0 ≤ s ∧ s ≤ 2 * pre.length)
    (fun n s _ => by rw [z0g, if_neg (by simp)]; simp [cntL])
    (fun n pre x suf s hl hg hlt hok hi ih => by
      have hs : (tree.length : Int) ≤ 1000000000 := by unfold SMALL at ht; omega
      have h1 : ok64 (s + 1) := by constructor <;> omega
      have h2 : ok64 (s + 1 + 1) := by constructor <;> omega
      have hpl : (((pre ++ [x]).length : Nat) : Int) = pre.length + 1 := by simp
      rw [z0g, if_pos (zT hlt), hg]
      simp only [zB, z02 h1, z02 h2, z02 hok]
      rw [ih (s + 1 + 1) (by omega), ih (s + 1) (by omega), ih s (by omega)]
      simp only [cntL, cnt1]
      by_cases a : x.yes = i <;> by_cases b : x.no = i <;> simp [a, b] <;> congr 1 <;> omega) FUEL 0 (by simp) (by have := z3p; unfold SMALL at ht; omega)
  simpa using this
def okN (len i v : Int) : Bool := decide (v = -1) || inB v (i + 1) (len - 1)
def nodeB (len i : Int) (x : GNode) : Bool := expHolds x.if_ x.stone && (inB x.ans 0 2 && (okN len i x.yes && okN len i x.no))
def nodesI (len : Int) : Int → List GNode → Bool
  | _, [] => true
  | i, x :: l => nodeB len i x && nodesI len (i + 1) l
def nodesS (tree : List GNode) : Int → List GNode → Bool
  | _, [] => true
  | i, x :: l => nodeB tree.length i x && ((decide (i = 0) == decide (cntL i tree = 0)) && (!decide (1 < cntL i tree) && nodesS tree (i + 1) l))
theorem yo0 {e : GAsk} {d : List Int} (h : expHolds e d = true) : expOk e = true ∧ datOk d = true := by
  simp only [expHolds, zA] at h; exact ⟨h.1, h.2.1⟩
def treeSmall (tree : List GNode) : Prop := tree.length ≤ SMALL ∧ ∀ x ∈ tree, x.stone.length ≤ SMALL
theorem ym4 (tree : List GNode) (ht : treeSmall tree) : z56 tree = some (!decide (12 < (tree.length : Int)) && nodesS tree 0 tree) := by
  unfold z56
  have := scan0 tree (by have := ht.1; unfold SMALL at this; omega) (z1h tree zn8) (fun pre suf => some (nodesS tree pre.length suf))
    (fun n => by rw [z1h, if_neg (by simp)]; rfl)
    (fun n pre x suf hl hg hlt hok ih => by
      have hx : x.stone.length ≤ SMALL := ht.2 x (by rw [hl]; simp)
      have hpl : (((pre ++ [x]).length : Nat) : Int) = pre.length + 1 := by simp
      rw [hpl] at ih
      rw [z1h, if_pos (zT hlt), hg]
      simp only [zB, z02 hok, z02 (z9g ht.1), zb4, z19, z3x _ hx, z3d _ _ hx, w7q tree _ _ ht.1,
        zn4, zn5, zn6, zn7, ih, nodesS, nodeB, okN]
      by_cases hh : expHolds x.if_ x.stone = true
      · obtain ⟨h1, h2⟩ := yo0 hh
        rw [h1, h2, hh]
        simp only [if_true]
        cases inB x.ans 0 2 <;> by_cases hy : x.yes = -1 <;> by_cases hn : x.no = -1 <;> cases inB x.yes (↑pre.length + 1) (↑tree.length - 1) <;> cases inB x.no (↑pre.length + 1) (↑tree.length - 1) <;>
          cases (decide ((pre.length : Int) = 0) == decide (cntL ↑pre.length tree = 0)) <;> cases decide (1 < cntL ↑pre.length tree) <;> simp [hy, hn]
      · rw [zF.2 hh]
        cases expOk x.if_ <;> cases inB x.ans 0 2 <;> cases datOk x.stone <;> simp)
  rw [this, iteN]
  rfl
theorem y3e {α : Type} (l : List α) {v j : Int} (w : α) (hv : 0 ≤ v) (hj : 0 ≤ j) (hl : j < l.length) : getI (l.set v.toNat w) j = if v = j then some w else getI l j := by
  unfold getI
  rw [if_pos hj, if_pos hj, List.getElem?_set]
  by_cases h : v = j
  · subst h; simp; omega
  · rw [if_neg (by omega), if_neg h]
def oneB : Int → List Int → Bool
  | _, [] => true
  | i, x :: s => (!decide (0 < i) || decide (x = 1)) && oneB (i + 1) s
def rdrB (tree : List GNode) : Bool := nodesI tree.length 0 tree && (oneB 0 ((List.range tree.length).map fun j : Nat => cntL (j : Int) tree) && decide ((tree.length : Int) ≤ 12))
theorem y3j (f : Int → Int) : ∀ (n : Nat) (i : Nat), oneB i ((List.range' i n).map fun j : Nat => f (j : Int)) = true ↔ ∀ j : Nat, i ≤ j → j < i + n → 0 < j → f j = 1
  | 0, i => by simp [oneB]; omega
  | n + 1, i => by
    rw [List.range'_succ, List.map_cons, oneB, zA]
    have := y3j f n (i + 1)
    rw [show (((i + 1 : Nat)) : Int) = (i : Int) + 1 by omega] at this
    rw [this]
    constructor
    · rintro ⟨h1, h2⟩ j hj hj2 h0
      by_cases h : j = i
      · subst h
        have : 0 < (j : Int) := by omega
        rw [zT this] at h1; simpa using h1
      · exact h2 j (by omega) (by omega) h0
    · intro h
      refine ⟨?_, fun j hj hj2 h0 => h j (by omega) (by omega) h0⟩
      by_cases h0 : 0 < i
      · simp [h i (by omega) (by omega) h0]
      · simp; omega
theorem y21 (len : Int) : ∀ (l : List GNode) (i : Int), 0 ≤ i → nodesI len i l = true → cntL 0 l = 0
  | [], _, _, _ => rfl
  | x :: l, i, hi, h => by
    simp only [nodesI, nodeB, okN, zA, Bool.or_eq_true, zE, z0a] at h
    have := y21 len l (i + 1) (by omega) h.2
    simp only [cntL, cnt1, this]
    rw [if_neg (by omega), if_neg (by omega)]; rfl
theorem y89 (tree : List GNode) : ∀ (l : List GNode) (i : Nat), nodesS tree i l = true ↔ nodesI tree.length i l = true ∧ ∀ j : Nat, i ≤ j → j < i + l.length → ((j = 0 ↔ cntL j tree = 0) ∧ cntL j tree ≤ 1)
  | [], i => by simp [nodesS, nodesI]; omega
  | x :: l, i => by
    have ih := y89 tree l (i + 1)
    rw [show (((i + 1 : Nat)) : Int) = (i : Int) + 1 by omega] at ih
    simp only [nodesS, nodesI, zA, ih, zC]
    constructor
    · rintro ⟨h1, h2, h3, h4, h5⟩
      refine ⟨⟨h1, h4⟩, fun j hj hj2 => ?_⟩
      by_cases h : j = i
      · subst h
        simp at h2 h3
        exact ⟨by rw [← h2], by omega⟩
      · exact h5 j (by omega) (by omega)
    · rintro ⟨⟨h1, h4⟩, h5⟩
      obtain ⟨h6, h7⟩ := h5 i (by omega) (by omega)
      refine ⟨h1, ?_, ?_, h4, fun j hj hj2 => h5 j (by omega) (by omega)⟩
      · simp [← h6]
      · simp; omega
theorem w8s (tree : List GNode) : (!decide (12 < (tree.length : Int)) && nodesS tree 0 tree) = rdrB tree := by
  rw [Bool.eq_iff_iff]
  have h1 := y89 tree tree 0
  have h2 := y3j (fun j => cntL j tree) tree.length 0
  rw [show ((0 : Nat) : Int) = 0 from rfl] at h1 h2
  rw [← List.range_eq_range'] at h2
  simp only [rdrB, zA, h1, h2, Bool.not_eq_true', decide_eq_false_iff_not, zE]
  constructor
  · rintro ⟨a, b, c⟩
    refine ⟨b, fun j hj hj2 h0 => ?_, by omega⟩
    have := c j hj hj2
    have := (w0v j tree).1
    omega
  · rintro ⟨b, c, a⟩
    refine ⟨by omega, b, fun j hj hj2 => ?_⟩
    by_cases h0 : j = 0
    · subst h0
      have := y21 _ tree 0 (by omega) b
      simp [this]
    · have := c j hj hj2 (by omega)
      omega
theorem y8e (tree : List GNode) (ht : treeSmall tree) : z56 tree = some (rdrB tree) := by rw [ym4 tree ht, w8s]
end Go.Am.Pl
end
section
namespace Go.Am.Pl
open Go
theorem yn8 {high : Int} : ∀ {l : List Int} {p : Int}, asc high p l = true → ∀ x ∈ l, p + 1 ≤ x ∧ x ≤ high
  | [], _, _, x, hx => by simp at hx
  | y :: l, p, h, x, hx => by
    simp only [asc, zA, z0a] at h
    rcases zM.1 hx with rfl | hx
    · exact h.1
    · have := yn8 h.2 x hx; omega
structure TaskOk (n : GNet) (t : GTask) : Prop where
  join : 1 ≤ t.join ∧ t.join ≤ 3
  split : 1 ≤ t.split ∧ t.split ≤ 3
  inl : 1 ≤ t.in_.length ∧ t.in_.length ≤ 3
  ins : ∀ p ∈ t.in_, 0 ≤ p ∧ p ≤ n.places - 1
  outl : 1 ≤ t.out.length ∧ t.out.length ≤ 3
  clearl : (t.clear.length : Int) ≤ n.places
  clears : ∀ p ∈ t.clear, 2 ≤ p ∧ p ≤ n.places - 1
  role : 1 ≤ t.role ∧ t.role ≤ 3
  apart : -1 ≤ t.apart ∧ t.apart ≤ n.tasks.length - 1
  all : 1 ≤ t.all ∧ t.all ≤ 3
  need : 1 ≤ t.need ∧ t.need ≤ t.all
theorem z6q {n : GNet} (h : netB n = true) {t : GTask} (ht : t ∈ n.tasks) : TaskOk n t := by
  simp only [netB, zA, zV] at h
  have := h.2.2 t ht
  simp only [taskB, zA, z0a] at this
  obtain ⟨a, b, ⟨c, d⟩, e, ⟨f, g⟩, ⟨i, j⟩, k, l, m, o⟩ := this
  exact ⟨a, b, by omega, fun p hp => by have := yn8 d p hp; omega, by omega, by omega, fun p hp => by have := yn8 j p hp; omega, k, l, m, o⟩
theorem z62 {n : GNet} (h : netB n = true) : (2 ≤ n.places ∧ n.places ≤ 8) ∧ (1 ≤ n.tasks.length ∧ n.tasks.length ≤ 6) := by
  simp only [netB, zA, z0a] at h; omega
structure CasFacts (n : GNet) (c : GCase) : Prop where
  net : netB n = true
  len : (c.marks.length : Int) = n.places
  mks : ∀ x ∈ c.marks, 0 ≤ x ∧ x ≤ 4
  busyl : c.busy.length ≤ 6
  busy : ∀ b ∈ c.busy, (0 ≤ b.task ∧ b.task < n.tasks.length) ∧ (1 ≤ b.who ∧ b.who ≤ 4) ∧ (0 ≤ b.did ∧ b.did ≤ (atI n.tasks b.task).need - 1)
  data : datOk c.data = true
  didl : c.did.length ≤ 60
  did : ∀ d ∈ c.did, (0 ≤ d.task ∧ d.task < n.tasks.length) ∧ (1 ≤ d.who ∧ d.who ≤ 4)
  state : 1 ≤ c.state ∧ c.state ≤ 3
theorem z9m {n : GNet} {c : GCase} (h : casB n c = true) : CasFacts n c := by
  simp only [casB, mrkB, marksB, busyB, itemB, didB, zA, zV, z0a, zE, Bool.not_eq_true', decide_eq_false_iff_not] at h
  obtain ⟨⟨a, b, c1⟩, ⟨d, e⟩, f, g, i, j, k⟩ := h
  exact ⟨a, b, c1, by omega, fun x hx => by have := e x hx; omega, f, by omega, fun x hx => by have := j x hx; omega, i⟩
def inc (l : List Int) (p : Int) : List Int := l.set p.toNat (atI l p + 1)
theorem y9o (l : List Int) (p : Int) : (inc l p).length = l.length := by simp [inc]
def incs (l : List Int) (ps : List Int) : List Int := ps.foldl inc l
theorem y9p (ps : List Int) : ∀ l : List Int, (incs l ps).length = l.length := by
  induction ps with
  | nil => intro l; rfl
  | cons p ps ih => intro l; show (incs (inc l p) ps).length = _; rw [ih, y9o]
def capM (K : Int) (l : List Int) : Prop := ∀ x ∈ l, 0 ≤ x ∧ x ≤ K
theorem y43 {K : Int} {l : List Int} (h : capM K l) {p : Int} (h0 : 0 ≤ p) (h1 : p < l.length) : 0 ≤ atI l p ∧ atI l p ≤ K := h _ (z3q l h0 h1)
theorem yt3 {K : Int} {l : List Int} (h : capM K l) {p : Int} (h0 : 0 ≤ p) (h1 : p < l.length) : capM (K + 1) (inc l p) := by
  intro x hx
  have := y43 h h0 h1
  rcases List.mem_or_eq_of_mem_set hx with hx | rfl
  · have := h x hx; omega
  · omega
def okM (l : List Int) : Bool := l.all (fun x => inB x 0 4)
theorem z85 {l : List Int} : okM l = true ↔ capM 4 l := by simp only [okM, zV, z0a]; rfl
theorem w2c {l : List Int} {p : Int} {K : Int} (hl : capM K l) (h0 : 0 ≤ p) (h1 : p < l.length) (h : okM (inc l p) = true) : okM l = true ∧ atI l p ≤ 3 := by
  rw [z85] at h ⊢
  have hp : atI l p + 1 ∈ inc l p := List.mem_iff_getElem?.2 ⟨p.toNat, by unfold inc; rw [List.getElem?_set_self (by omega)]⟩
  have h4 := h _ hp
  refine ⟨fun x hx => ?_, by omega⟩
  obtain ⟨j, hj⟩ := List.mem_iff_getElem?.1 hx
  by_cases e : p.toNat = j
  · have : atI l p = x := by unfold atI getI; rw [if_pos h0, e, hj]; rfl
    have := hl x hx; omega
  · exact h x (List.mem_iff_getElem?.2 ⟨j, by unfold inc; rw [List.getElem?_set_ne e]; exact hj⟩)
theorem w57 {ps : List Int} : ∀ {l : List Int} {K : Int}, capM K l → (∀ p ∈ ps, 0 ≤ p ∧ p < l.length) → okM (incs l ps) = true → okM l = true := by
  induction ps with
  | nil => intro l K _ _ h; exact h
  | cons p ps ih =>
    intro l K hl hp h
    have hp0 := hp p (by simp)
    exact (w2c hl hp0.1 hp0.2 (ih (l := inc l p) (yt3 hl hp0.1 hp0.2) (fun q hq => by rw [y9o]; exact hp q (by simp [hq])) h)).1
theorem w3a {β : Type} (ps : List Int) (hs : ps.length ≤ SMALL) (f : Nat → Int → List Int → Option β) (kx : List Int → Option β) (bad : Option β) (l0 : List Int) (hp : ∀ p ∈ ps, 0 ≤ p ∧ p < l0.length) (hc : okM l0 = true)
    (h0 : ∀ n s, f (n + 1) (ps.length : Int) s = kx s)
    (h1 : ∀ n i p s, getI ps i = some p → i < (ps.length : Int) → ok64 (i + 1) → getI s p = some (atI s p) → ok64 (atI s p + 1) → f (n + 1) i s = if decide (atI s p = 4) = true then bad else f n (i + 1) (inc s p)) :
    f FUEL 0 l0 = if okM (incs l0 ps) = true then kx (incs l0 ps) else bad :=
  scan ps (by unfold SMALL at hs; omega) f (fun _ suf l => if okM (incs l suf) = true then kx (incs l suf) else bad) (fun _ l => l.length = l0.length ∧ okM l = true)
    (fun n s hi => by rw [h0]; rw [if_pos (show okM (incs s []) = true from hi.2)]; rfl)
    (fun n pre x suf s a b c d hi k => by
      have hx := hp x (by rw [a]; simp)
      have hx2 : x < s.length := by rw [hi.1]; exact hx.2
      have hcap := z85.1 hi.2
      have hv := y43 hcap hx.1 hx2
      rw [h1 n _ x s b c d (z1p s hx.1 hx2) (by constructor <;> omega)]
      show _ = if okM (incs (inc s x) suf) = true then kx (incs (inc s x) suf) else bad
      by_cases h4 : atI s x = 4
      · rw [if_pos (zT h4), if_neg]
        intro h5
        have h6 := w57 (yt3 hcap hx.1 hx2) (fun q hq => by rw [y9o, hi.1]; exact hp q (by rw [a]; simp [hq])) h5
        have := (w2c hcap hx.1 hx2 h6).2
        omega
      · rw [if_neg (by simpa using h4)]
        exact k (inc s x) ⟨by rw [y9o, hi.1], z85.2 (fun y hy => by
          rcases List.mem_or_eq_of_mem_set hy with hy | rfl
          · exact hcap y hy
          · omega)⟩) FUEL l0 ⟨rfl, hc⟩ (by have := z3p; unfold SMALL at hs; omega)
end Go.Am.Pl
end
section
namespace Go.Am.Pl
open Go
structure TaskT (t : GTask) : Prop where
  in_ : t.in_.length ≤ 4
  out : t.out.length ≤ 4
  clear : t.clear.length ≤ 9
structure NetT (n : GNet) : Prop where
  one : 1 ≤ n.tasks.length
  six : n.tasks.length ≤ 6
  pl : n.places ≤ 9
  task : ∀ t ∈ n.tasks, TaskT t
theorem TaskT.small {t : GTask} (h : TaskT t) : t.small := ⟨by have := h.in_; unfold SMALL; omega, by have := h.out; unfold SMALL; omega, by have := h.clear; unfold SMALL; omega⟩
theorem NetT.small {n : GNet} (h : NetT n) : n.small := ⟨by have := h.six; unfold SMALL; omega, fun t ht => (h.task t ht).small⟩
theorem w6e {n : GNet} (h : netB n = true) : NetT n := by
  have hs := z62 h
  exact ⟨by omega, by omega, by omega, fun t ht => by
    have T := z6q h ht
    exact ⟨by have := T.inl; omega, by have := T.outl; omega, by have := T.clearl; omega⟩⟩
theorem w3d {K : Int} {split : Int} {to : List Int} {kx : List Int → Int → List GFlow → Option (GTask × GRd)} {Q : GTask × GRd → Prop} (hK : K ≤ 900000000) (ht : to.length ≤ 3)
    (hk : ∀ b p l, Rd (K + 9) (GRd.mk b p) → l.length ≤ 3 → Tot (kx b p l) Q) {b : List Int} {p : Int} (h : Rd K (GRd.mk b p)) : Tot (z0m split to kx FUEL b p 0 []) Q := by
  have key := Tot.loopF (Q := Q) (fun s : List Int × Int × Int × List GFlow => Rd (K + 3 * s.2.2.1) (GRd.mk s.1 s.2.1) ∧ 0 ≤ s.2.2.1 ∧ s.2.2.1 ≤ to.length ∧ (s.2.2.2.length : Int) = s.2.2.1) (fun s => ((to.length : Int) - s.2.2.1).toNat)
    (fun f s => z0m split to kx f s.1 s.2.1 s.2.2.1 s.2.2.2) (fun f s hi ih => ?_) (b, p, 0, []) (by dsimp only; omega) ⟨by dsimp only; exact h.mono (by omega), by dsimp only; omega, by dsimp only; omega, rfl⟩
  · exact key
  obtain ⟨b0, p0, i, l⟩ := s
  obtain ⟨h1, h2, h3, h4⟩ := hi
  dsimp only at h1 h2 h3 h4 ⊢
  have ih' : ∀ b q i' l', Rd (K + 3 * i') (GRd.mk b q) → 0 ≤ i' → i' ≤ to.length → ((l' : List GFlow).length : Int) = i' → i < i' → Tot (z0m split to kx f b q i' l') Q :=
    fun b q i' l' g1 g2 g3 g4 g5 => ih (b, q, i', l') ⟨g1, g2, g3, g4⟩ (by dsimp only; omega)
  rw [z0m]
  refine Tot.iteD (fun c => ?_) (fun c => hk _ _ _ (h1.mono (by omega)) (by omega))
  repeat' first
    | (refine Tot.bind2 (z3h (by assumption) (by omega)) ?_; intro a b h; dsimp only at h; obtain ⟨⟨_, _⟩, _⟩ := h; try dsimp only)
    | (refine Tot.gd (by first | omega | (constructor <;> omega) | (simp only [zL, zC, zN, zS, List.length_drop, SMALL]; omega)) ?_)
    | (refine Tot.getI (by omega) (by first | omega | (simp only [zC, zN, zS, zL]; omega)) ?_; intro x hx hg)
    | (refine Tot.iteD (fun _ => ?_) (fun _ => ?_))
    | (refine ih' _ _ _ _ (Rd.mono (by assumption) (by omega)) (by omega) (by omega) (by simp only [zL, zC, zN, zS, List.length_drop]; omega) (by omega))
theorem yw7 {K : Int} {r : GRd} {join split tasks : Int} {in_ to : List Int} (h : Rd K r) (hK : K ≤ 800000000) (hi : in_.length ≤ 3) (ht : to.length ≤ 3) : Tot (z06 r join split in_ to tasks) (fun v => TaskT v.1 ∧ Rd (K + 20) v.2) := by
  unfold z06
  repeat' first
    | (refine Tot.bind2 (z3h (by assumption) (by omega)) ?_; intro a b h; dsimp only at h; obtain ⟨⟨_, _⟩, _⟩ := h; try dsimp only)
    | (refine Tot.gd (by first | omega | (constructor <;> omega) | (simp only [zL, zC, zN, zS, List.length_drop, SMALL]; omega)) ?_)
    | (refine Tot.getI (by omega) (by first | omega | (simp only [zC, zN, zS, zL]; omega)) ?_; intro x hx hg)
    | (refine Tot.iteD (fun _ => ?_) (fun _ => ?_))
    | (refine w3d (K := K + 5) (by omega) ht (fun b p l hb hl => ?_) (Rd.eta (Rd.mono (by assumption) (by omega))))
    | (unfold za4; exact Tot.pure ⟨⟨by dsimp only; omega, by dsimp only; omega, by simp⟩, Rd.mono (by assumption) (by omega)⟩)
    | (unfold za5; exact Tot.pure ⟨⟨by dsimp only; omega, by dsimp only; omega, by simp⟩, Rd.mono (by assumption) (by omega)⟩)
theorem y13 {α : Type} {P : α → Prop} : ∀ t ∈ ([] : List α), P t := fun t ht => (List.not_mem_nil ht).elim
theorem w02 {K N P : Int} (hK : K ≤ 700000000) (hN : 1 ≤ N ∧ N ≤ 4) (hP : 3 ≤ P ∧ P ≤ 6) {b : List Int} {p : Int} (h : Rd (K + 10) (GRd.mk b p)) : Tot (z0o N P (z3a P) FUEL b p 0 []) (fun v => NetT v.1 ∧ Rd (K + 200) v.2) := by
  have key := Tot.loopF (Q := fun v : GNet × GRd => NetT v.1 ∧ Rd (K + 200) v.2) (fun s : List Int × Int × Int × List GTask => Rd (K + 10 + 40 * s.2.2.1) (GRd.mk s.1 s.2.1) ∧ 0 ≤ s.2.2.1 ∧ s.2.2.1 ≤ N ∧ (s.2.2.2.length : Int) = s.2.2.1 ∧ ∀ t ∈ s.2.2.2, TaskT t) (fun s => (N - s.2.2.1).toNat)
    (fun f s => z0o N P (z3a P) f s.1 s.2.1 s.2.2.1 s.2.2.2) (fun f s hi ih => ?_) (b, p, 0, []) (by dsimp only; omega) ⟨by dsimp only; exact h.mono (by omega), by dsimp only; omega, by dsimp only; omega, rfl, y13⟩
  · exact key
  obtain ⟨b0, p0, i, l⟩ := s
  obtain ⟨h1, h2, h3, h4, h5⟩ := hi
  dsimp only at h1 h2 h3 h4 h5 ⊢
  have ih' : ∀ b q (t : GTask), Rd (K + 10 + 40 * (i + 1)) (GRd.mk b q) → i + 1 ≤ N → TaskT t → Tot (z0o N P (z3a P) f b q (i + 1) (l ++ [t])) (fun v => NetT v.1 ∧ Rd (K + 200) v.2) :=
    fun b q t g1 g2 g3 => ih (b, q, i + 1, l ++ [t]) ⟨g1, by dsimp only; omega, g2, by dsimp only; rw [zL, zJ]; omega, fun x hx => by
      rcases zP.1 hx with hx | hx
      · exact h5 x hx
      · rw [List.mem_singleton.1 hx]; exact g3⟩ (by dsimp only; omega)
  rw [z0o]
  refine Tot.iteD (fun c => ?_) (fun c => ?_)
  · skip
    repeat' first
      | (refine Tot.bind2 (yw7 (by assumption) (by omega) (by simp) (by simp)) ?_; intro a b h; dsimp only at h; obtain ⟨_, _⟩ := h; try dsimp only)
      | (refine Tot.bind2 (z3h (by assumption) (by omega)) ?_; intro a b h; dsimp only at h; obtain ⟨⟨_, _⟩, _⟩ := h; try dsimp only)
      | (refine Tot.gd (by first | omega | (constructor <;> omega) | (simp only [zL, zC, zN, zS, List.length_drop, SMALL]; omega)) ?_)
      | (refine Tot.getI (by omega) (by first | omega | (simp only [zC, zN, zS, zL]; omega)) ?_; intro x hx hg)
      | (refine Tot.iteD (fun _ => ?_) (fun _ => ?_))
      | (refine ih' _ _ _ (Rd.mono (by assumption) (by omega)) (by omega) (by assumption))
  · unfold z3a
    exact Tot.pure ⟨⟨by dsimp only; omega, by dsimp only; omega, by dsimp only; omega, h5⟩, h1.mono (by omega)⟩
theorem w2y {K : Int} {r : GRd} (h : Rd K r) (hK : K ≤ 700000000) : Tot (z5q r) (fun v => NetT v.1 ∧ Rd (K + 200) v.2) := by
  unfold z5q
  repeat' first
    | (refine Tot.bind2 (yw7 (by assumption) (by omega) (by simp) (by simp)) ?_; intro a b h; dsimp only at h; obtain ⟨_, _⟩ := h; try dsimp only)
    | (refine Tot.bind2 (z3h (by assumption) (by omega)) ?_; intro a b h; dsimp only at h; obtain ⟨⟨_, _⟩, _⟩ := h; try dsimp only)
    | (refine Tot.gd (by first | omega | (constructor <;> omega) | (simp only [zL, zC, zN, zS, List.length_drop, SMALL]; omega)) ?_)
    | (refine Tot.getI (by omega) (by first | omega | (simp only [zC, zN, zS, zL]; omega)) ?_; intro x hx hg)
    | (refine Tot.iteD (fun _ => ?_) (fun _ => ?_))
    | (refine w02 (by omega) (by omega) (by omega) (Rd.eta (Rd.mono (by assumption) (by omega))))
    | (refine Tot.pure ⟨⟨by simp, by simp, by dsimp only; omega, ?_⟩, Rd.mono (by assumption) (by omega)⟩; dsimp only; repeat' first | exact y13 | exact List.forall_mem_cons.2 ⟨by assumption, y13⟩ | (refine List.forall_mem_cons.2 ⟨by assumption, ?_⟩))
theorem w25 {K : Int} {r : GRd} (h : Rd K r) (hK : K ≤ 600000000) : Tot (z5p r) (fun v => netB v.1 = true ∧ Rd (K + 210) v.2) := by
  unfold z5p
  refine Tot.bind2 (w2y h (by omega)) ?_
  intro n0 r0 hh
  dsimp only at hh
  obtain ⟨hn, hr⟩ := hh
  dsimp only
  have d : netB (GNet.mk 2 [GTask.mk 1 1 [0] [GFlow.mk 1 (GAsk.mk 0 0 0)] [] 1 (-1) 1 1]) = true := by decide
  have fin : ∀ (n : GNet) (r : GRd), n.small → Rd (K + 210) r → Tot ((z1l n).bind fun x => if x = true then some (n, r) else some (GNet.mk 2 [GTask.mk 1 1 [0] [GFlow.mk 1 (GAsk.mk 0 0 0)] [] 1 (-1) 1 1], r)) (fun v => netB v.1 = true ∧ Rd (K + 210) v.2) := by
    intro n r hs hr
    rw [zb5 n hs, zB]
    refine Tot.ite (fun c => Tot.pure ⟨c, hr⟩) (fun c => Tot.pure ⟨d, hr⟩)
  have hone := hn.one
  refine Tot.bind2 (z3h hr (by omega)) ?_
  intro a b h1
  dsimp only at h1
  obtain ⟨⟨a0, a1⟩, hb⟩ := h1
  dsimp only
  refine Tot.iteD (fun _ => Tot.iteD (fun _ => Tot.iteD (fun _ => ?_) (fun _ => fin _ _ hn.small (hb.mono (by omega)))) (fun _ => fin _ _ hn.small (hb.mono (by omega)))) (fun _ => fin _ _ hn.small (hb.mono (by omega)))
  refine Tot.bind2 (z3h hb (by omega)) ?_
  intro a2 b2 h2
  dsimp only at h2
  obtain ⟨⟨a3, a4⟩, hb2⟩ := h2
  dsimp only
  refine Tot.getI (by omega) (by omega) ?_
  intro t ht hg
  refine fin _ _ ⟨by show (n0.tasks.set _ _).length ≤ SMALL; rw [zS]; exact hn.small.1, fun x hx => ?_⟩ (hb2.mono (by omega))
  rcases List.mem_or_eq_of_mem_set hx with hx | rfl
  · exact hn.small.2 x hx
  · have T := (hn.task t ht).small
    exact ⟨T.1, T.2.1, by simp [SMALL]⟩
end Go.Am.Pl
end
section
namespace Go.Am.Pl
open Go
theorem ze9 (c : GCase) (h : c.small) : z3b c = some c := by
  obtain ⟨h1, h2, h3, h4⟩ := h
  unfold z3b
  simp [z02, h1, h2, h3, h4]
def stopB (n : GNet) (c : GCase) : GCase × Bool := bif casB n c && decide (c.state = 1) then (GCase.mk 3 c.marks [] c.data c.did, true) else (c, false)
theorem ym0 (n : GNet) (c : GCase) (hn : n.small) (hc : c.small) : z6e n c = some (stopB n c) := by
  unfold z6e stopB
  simp only [ze9 c hc, y1j n c hn hc, zB]
  cases casB n c <;> by_cases hs : c.state = 1 <;> simp [hs]
end Go.Am.Pl
end
section
namespace Go.Am.Pl
open Go
def goB (split : Int) (last none_ : Bool) : Bool := bif decide (split = 2) then none_ else bif decide (split = 3) then !last || none_ else true
def splL (split : Int) (data : List Int) : List GFlow → List Int → List Int
  | [], l => l
  | f :: fs, l => if (expHolds f.if_ data && goB split fs.isEmpty l.isEmpty) = true then splL split data fs (l ++ [f.to]) else splL split data fs l
theorem ym6 (data : List Int) : ∀ (fs : List GFlow) (l : List Int), l.isEmpty = false → splL 2 data fs l = l
  | [], l, _ => rfl
  | f :: fs, l, h => by
    unfold splL
    rw [if_neg (by simp [goB, h]), ym6 data fs l h]
theorem yd0 (split : Int) (data : List Int) : ∀ (fs : List GFlow) (l : List Int), (splL split data fs l).length ≤ l.length + fs.length
  | [], l => by simp [splL]
  | f :: fs, l => by
    unfold splL; split
    · have := yd0 split data fs (l ++ [f.to]); simp at this; simp; omega
    · have := yd0 split data fs l; simp; omega
theorem yd1 (split : Int) (data : List Int) : ∀ (fs : List GFlow) (l : List Int) (p : Int), p ∈ splL split data fs l → p ∈ l ∨ ∃ f ∈ fs, f.to = p
  | [], l, p, h => .inl h
  | f :: fs, l, p, h => by
    unfold splL at h; split at h
    · rcases yd1 split data fs _ p h with h | ⟨g, hg, e⟩
      · rcases zP.1 h with h | h
        · exact .inl h
        · simp at h; exact .inr ⟨f, by simp, h.symm⟩
      · exact .inr ⟨g, by simp [hg], e⟩
    · rcases yd1 split data fs _ p h with h | ⟨g, hg, e⟩
      · exact .inl h
      · exact .inr ⟨g, by simp [hg], e⟩
theorem w7a {α : Type} {l pre suf : List α} {x : α} (h : l = pre ++ x :: suf) : (decide ((pre.length : Int) < (l.length : Int) - 1)) = !suf.isEmpty := by
  rw [h]
  cases suf with
  | nil => simp
  | cons y s => simp; omega
theorem w2e {l : List Int} {n : Nat} (h : l.length ≤ n) (hn : n < SMALL) {y : Int} : l.length + [y].length ≤ SMALL := by rw [zJ]; omega
theorem len0 (l : List Int) : decide ((l.length : Int) = 0) = l.isEmpty := by
  cases l with
  | nil => rfl
  | cons x l => simp; omega
theorem w08 (t : GTask) (data : List Int) (hs : t.out.length ≤ SMALL) (hd : data.length ≤ SMALL) : z8m t data = some (splL t.split data t.out []) := by
  unfold z8m
  refine scan t.out (by unfold SMALL at hs; omega) (z0s t data z5m z5n z5o z84) (fun _ suf l => some (splL t.split data suf l)) (fun pre l => l.length ≤ pre.length ∧ (t.split = 2 → l = []))
    (fun n s hi => by rw [z0s, if_neg (by simp)]; rfl)
    (fun n pre x suf s a b c d hi k => ?_) FUEL [] ⟨by simp, fun _ => rfl⟩ (by have := z3p; unfold SMALL at hs; omega)
  have hpl : pre.length < SMALL := by rw [a, zL, zC] at hs; omega
  have h1 : t.split ≠ 2 → z0s t data z5m z5n z5o z84 n ((pre.length : Int) + 1) (s ++ [x.to]) = some (splL t.split data suf (s ++ [x.to])) := fun h2 => k (s ++ [x.to]) ⟨by simp; exact hi.1, fun h => absurd h h2⟩
  have h2 := k s ⟨by simp; have := hi.1; omega, hi.2⟩
  rw [z0s, if_pos (zT c)]
  simp only [b, zB, z3d _ _ hd, w7a a, len0, z02 (z9g hs), z02 d, z02 (w2e hi.1 hpl), h2, splL, z5m, z5n, z5o, goB]
  by_cases e2 : t.split = 2
  · have hn := hi.2 e2
    subst hn
    cases expHolds x.if_ data
    · simp
    · have e3 : t.split ≠ 3 := by omega
      have := ym6 data suf [x.to] rfl
      simp [e2, this]
  · rw [h1 e2]
    cases expHolds x.if_ data <;> by_cases e3 : t.split = 3 <;> cases suf.isEmpty <;> cases s.isEmpty <;> simp [e2, e3]
def zeros (l : List Int) (ps : List Int) : List Int := ps.foldl (fun l p => l.set p.toNat 0) l
theorem y0p (ps : List Int) : ∀ l : List Int, (zeros l ps).length = l.length := by
  induction ps with
  | nil => intro l; rfl
  | cons p ps ih => intro l; show (zeros (l.set p.toNat 0) ps).length = _; rw [ih]; simp
theorem w65 (ps : List Int) : ∀ l : List Int, okM l = true → okM (zeros l ps) = true := by
  induction ps with
  | nil => intro l h; exact h
  | cons p ps ih =>
    intro l h
    refine ih _ (z85.2 fun x hx => ?_)
    rcases List.mem_or_eq_of_mem_set hx with hx | rfl
    · exact z85.1 h x hx
    · omega
theorem w45 {β : Type} (ps : List Int) (hs : ps.length ≤ SMALL) (f : Nat → Int → List Int → Option β) (kx : List Int → Option β) (l0 : List Int) (hp : ∀ p ∈ ps, 0 ≤ p ∧ p < l0.length)
    (h0 : ∀ n s, f (n + 1) (ps.length : Int) s = kx s)
    (h1 : ∀ n i p s, getI ps i = some p → i < (ps.length : Int) → ok64 (i + 1) → getI s p = some (atI s p) → f (n + 1) i s = f n (i + 1) (s.set p.toNat 0)) :
    f FUEL 0 l0 = kx (zeros l0 ps) :=
  scan ps (by unfold SMALL at hs; omega) f (fun _ suf l => kx (zeros l suf)) (fun pre l => l.length = l0.length) (fun n s hi => by rw [h0]; rfl)
    (fun n pre x suf s a b c d hi k => by
      have hx := hp x (by rw [a]; simp)
      rw [h1 n _ x s b c d (z1p s hx.1 (by rw [hi]; exact hx.2))]
      exact k _ (by simpa using hi)) FUEL l0 rfl (by have := z3p; unfold SMALL at hs; omega)
def giveL (n : GNet) (m : List Int) (t : GTask) (data : List Int) : List Int := incs (zeros m t.clear) (splL t.split data t.out [])
def giveB (n : GNet) (m : List Int) (t : Int) (data : List Int) : List Int × Bool :=
  bif mrkB n m && (inB t 0 ((n.tasks.length : Int) - 1) && (datOk data && okM (giveL n m (atI n.tasks t) data))) then (giveL n m (atI n.tasks t) data, true) else ([], false)
theorem yg8 {t : GTask} {places : Int} : ∀ {suf pre : List GFlow}, flowsB t places pre suf = true → ∀ f ∈ suf, 1 ≤ f.to ∧ f.to ≤ places - 1
  | [], _, _, f, hf => by simp at hf
  | x :: suf, pre, h, f, hf => by
    simp only [flowsB, zA, z0a] at h
    rcases zM.1 hf with rfl | hf
    · exact h.1
    · exact yg8 h.2.2.2.2 f hf
theorem yp1 {n : GNet} (h : netB n = true) {t : GTask} (ht : t ∈ n.tasks) : ∀ f ∈ t.out, 1 ≤ f.to ∧ f.to ≤ n.places - 1 := by
  simp only [netB, zA, zV] at h
  have := h.2.2 t ht
  simp only [taskB, zA] at this
  exact yg8 this.2.2.2.2.1.2
theorem z58 {n : GNet} {m : List Int} (h : mrkB n m = true) : netB n = true ∧ (m.length : Int) = n.places ∧ okM m = true := by
  simp only [mrkB, marksB, zA, zE] at h
  exact ⟨h.1, h.2.1, h.2.2⟩
structure GiveOk (n : GNet) (m : List Int) (t : GTask) (data : List Int) : Prop where
  clears : ∀ p ∈ t.clear, 0 ≤ p ∧ p < m.length
  tos : ∀ p ∈ splL t.split data t.out [], 0 ≤ p ∧ p < (zeros m t.clear).length
  len : (splL t.split data t.out []).length ≤ SMALL
  ok : okM (zeros m t.clear) = true
theorem w79 {n : GNet} {m : List Int} {t : GTask} {data : List Int} (hm : mrkB n m = true) (ht : t ∈ n.tasks) : GiveOk n m t data := by
  obtain ⟨h1, h2, h3⟩ := z58 hm
  have T := z6q h1 ht
  refine ⟨fun p hp => by have := T.clears p hp; omega, fun p hp => ?_, ?_, w65 _ _ h3⟩
  · rcases yd1 _ _ _ _ _ hp with h | ⟨f, hf, e⟩
    · simp at h
    · have := yp1 h1 ht f hf; rw [y0p]; omega
  · have := yd0 t.split data t.out []; have := T.outl; rw [zN] at *; unfold SMALL; omega
theorem ym3 (n : GNet) (m : List Int) (t : Int) (data : List Int) (hn : n.small) (hm : m.length ≤ SMALL) (hd : data.length ≤ SMALL) : z6h n m t data = some (giveB n m t data) := by
  unfold z6h giveB
  rw [zr9 n m hn hm, zB, z02 (z9g hn.1), z19, zB, z3x _ hd, zB, z02 (by simpa using hm)]
  by_cases h1 : mrkB n m = true
  · by_cases h2 : inB t 0 ((n.tasks.length : Int) - 1) = true
    · by_cases h3 : datOk data = true
      · have h2' := z0a.1 h2
        have hg := z1p n.tasks h2'.1 (by omega)
        have ht := z3q n.tasks h2'.1 (by omega)
        have G := w79 (data := data) h1 ht
        rw [if_pos h1, if_pos h2, if_pos h3, h1, h2, h3, List.nil_append]
        rw [w45 (atI n.tasks t).clear (hn.2 _ ht).2.2 (z2n n t (z4e n t data)) (z4e n t data) m G.clears (fun n s => by rw [z2n, hg, zB, if_neg (by simp)])
          (fun n i p s b c d g => by rw [z2n, hg, zB, if_pos (zT c), zB, b, zB, g, zB, z02 d])]
        unfold z4e
        rw [hg, zB, w08 _ _ (hn.2 _ ht).2.1 hd, zB]
        rw [w3a _ G.len (z2o _ z4f) z4f (some ([], false)) _ G.tos G.ok (fun n s => by rw [z2o, if_neg (by simp)])
          (fun n i p s b c d g o => by rw [z2o, if_pos (zT c)]; simp only [b, zB, g, z02 d, z02 o]; rfl)]
        unfold z4f giveL
        cases okM (incs (zeros m (atI n.tasks t).clear) (splL (atI n.tasks t).split data (atI n.tasks t).out [])) <;> rfl
      · rw [if_pos h1, if_pos h2, if_neg h3, zF.2 h3]; simp
    · rw [if_pos h1, if_neg h2, zF.2 h2]; simp
  · rw [if_neg h1, zF.2 h1]; simp
end Go.Am.Pl
end
section
namespace Go.Am.Pl
open Go
theorem w1p (n : GNet) (m : List Int) (t : Int) (data : List Int) : (giveB n m t data).1.length ≤ m.length := by
  unfold giveB
  cases mrkB n m && (inB t 0 ((n.tasks.length : Int) - 1) && (datOk data && okM (giveL n m (atI n.tasks t) data)))
  · simp
  · show (giveL n m (atI n.tasks t) data).length ≤ _
    unfold giveL; rw [y9p, y0p]; exact Nat.le_refl _
theorem w1q {n : GNet} {m : List Int} {t : Int} {data : List Int} (h : (giveB n m t data).2 = true) : getI (giveB n m t data).1 1 = some (atI (giveB n m t data).1 1) := by
  have hl : (2 : Int) ≤ ((giveB n m t data).1.length : Int) := by
    unfold giveB at h ⊢
    cases e : mrkB n m && (inB t 0 ((n.tasks.length : Int) - 1) && (datOk data && okM (giveL n m (atI n.tasks t) data)))
    · rw [e] at h; cases h
    · show (2 : Int) ≤ ((giveL n m (atI n.tasks t) data).length : Int)
      unfold giveL; rw [y9p, y0p]
      rw [zA] at e
      obtain ⟨f1, f2, f3⟩ := z58 e.1
      have := z62 f1; omega
  exact z1p _ (by omega) (by omega)
def datB (data : List Int) (v num : Int) : List Int := if 0 ≤ v then data.set v.toNat num else data
theorem yt8 (data : List Int) (v num : Int) : (datB data v num).length = data.length := by unfold datB; split <;> simp
theorem zk1 {data : List Int} (h : datOk data = true) : data.length = 3 := by simp only [datOk, zA, zE] at h; exact h.1
theorem yq7 {data : List Int} {v num : Int} (hd : datOk data = true) (hv : inB v (-1) 2 = true) (hn : inB num (-99) 99 = true) : z3s data v num = some (datB data v num) := by
  have hl := zk1 hd
  have hv' := z0a.1 hv
  have hs : data.length ≤ SMALL := by unfold SMALL; omega
  unfold z3s datB
  rw [z3x _ hs, zB, if_pos hd, z19, zB, z19, zB, if_pos hn, z02 (by simpa using hs), List.nil_append]
  by_cases h : 0 ≤ v
  · rw [if_pos (z0a.2 ⟨h, hv'.2⟩), z1p data h (by omega), if_pos h]; rfl
  · rw [if_neg (fun e => h (z0a.1 e).1), if_neg h, z02 (by simpa using hs)]
def itD (b : GItem) : GItem := GItem.mk b.task b.who (b.did + 1)
def doneB (n : GNet) (c : GCase) (k : Int) (data : List Int) : GCase × Bool :=
  if (atI c.busy k).did + 1 < (atI n.tasks (atI c.busy k).task).need then (GCase.mk c.state c.marks (c.busy.set k.toNat (itD (atI c.busy k))) data c.did, true)
  else if (giveB n c.marks (atI c.busy k).task data).2 = true then
    (if 0 < atI (giveB n c.marks (atI c.busy k).task data).1 1 then (GCase.mk 2 (giveB n c.marks (atI c.busy k).task data).1 [] data (c.did ++ [GDid.mk (atI c.busy k).task (atI c.busy k).who]), true)
     else (GCase.mk c.state (giveB n c.marks (atI c.busy k).task data).1 (c.busy.take k.toNat ++ c.busy.drop (k + 1).toNat) data (c.did ++ [GDid.mk (atI c.busy k).task (atI c.busy k).who]), true))
  else (c, false)
def workB (n : GNet) (c : GCase) (k v num : Int) : GCase × Bool :=
  bif casB n c && (decide (c.state = 1) && (inB k 0 ((c.busy.length : Int) - 1) && (inB v (-1) 2 && (inB num (-99) 99 && !decide ((c.did.length : Int) = 60))))) then doneB n c k (datB c.data v num) else (c, false)
theorem ym1 (n : GNet) (c : GCase) (k v num : Int) (hn : n.small) (hc : c.small) : z6f n c k v num = some (workB n c k v num) := by
  unfold z6f workB
  rw [ze9 c hc, zB, y1j n c hn hc, zB, z02 (z9g hc.2.1)]
  simp only [z19, zB]
  by_cases h1 : casB n c = true
  case neg => rw [if_neg h1, zF.2 h1]; rfl
  by_cases h2 : c.state = 1
  case neg => rw [if_pos h1, if_neg (by simpa using h2), decide_eq_false h2]; simp
  by_cases h3 : inB k 0 ((c.busy.length : Int) - 1) = true
  case neg => rw [if_pos h1, if_pos (zT h2), if_neg h3, zF.2 h3]; simp
  by_cases h4 : inB v (-1) 2 = true
  case neg => rw [if_pos h1, if_pos (zT h2), if_pos h3, if_neg h4, zF.2 h4]; simp
  by_cases h5 : inB num (-99) 99 = true
  case neg => rw [if_pos h1, if_pos (zT h2), if_pos h3, if_pos h4, if_neg h5, zF.2 h5]; simp
  by_cases h6 : (c.did.length : Int) = 60
  · rw [if_pos h1, if_pos (zT h2), if_pos h3, if_pos h4, if_pos h5, if_pos (zT h6), zT h6]; simp
  rw [if_pos h1, if_pos (zT h2), if_pos h3, if_pos h4, if_pos h5, if_neg (by simpa using h6), h1, zT h2, h3, h4, h5, decide_eq_false h6]
  have F := z9m h1
  have hk := z0a.1 h3
  have hb := z3q c.busy hk.1 (by omega)
  obtain ⟨ft, fw, fd⟩ := F.busy _ hb
  have ht := z3q n.tasks ft.1 ft.2
  have T := z6q F.net ht
  have hneed := T.need
  have hall := T.all
  have hl := zk1 F.data
  have hds : (datB c.data v num).length ≤ SMALL := by rw [yt8]; unfold SMALL; omega
  have h60 := F.didl
  have hbl := F.busyl
  rw [z1p c.busy hk.1 (by omega), zB, yq7 F.data h4 h5, zB, z02 (by constructor <;> omega), zB, z02 (by constructor <;> omega), z1p n.tasks ft.1 ft.2, zB]
  show _ = some (doneB n c k (datB c.data v num))
  unfold doneB
  by_cases h7 : (atI c.busy k).did + 1 < (atI n.tasks (atI c.busy k).task).need
  · rw [if_pos (zT h7), if_pos h7]; rfl
  rw [if_neg (by simpa using h7), if_neg h7, ym3 n _ _ _ hn hc.1 hds, zB]
  by_cases h8 : (giveB n c.marks (atI c.busy k).task (datB c.data v num)).2 = true
  case neg => rw [if_neg h8, if_neg h8]
  rw [if_pos h8, if_pos h8, z02 (by omega), z02 (by simp; unfold SMALL; omega), z02 (by constructor <;> omega), z02 (by omega), z02 (by simp; unfold SMALL; omega), z02 (by simp; unfold SMALL; omega), w1q h8, zB]
  by_cases h9 : 0 < atI (giveB n c.marks (atI c.busy k).task (datB c.data v num)).1 1
  · rw [if_pos (zT h9), if_pos h9]
  · rw [if_neg (by simpa using h9), if_neg h9]; rfl
end Go.Am.Pl
end
section
namespace Go.Am.Pl
open Go
end Go.Am.Pl
end
section
namespace Go.Am.Pl
open Go
theorem y46 {α γ β : Type} (l : List α) (hl : l.length ≤ SMALL) (e : α → List γ) (f : Nat → Int → List γ → Option β) (kx : List γ → Option β) (h0 : ∀ n s, f (n + 1) (l.length : Int) s = kx s)
    (h1 : ∀ n pre x suf s, l = pre ++ x :: suf → getI l (pre.length : Int) = some x → x ∈ l → (pre.length : Int) < (l.length : Int) → ok64 ((pre.length : Int) + 1) → s = pre.flatMap e → f (n + 1) (pre.length : Int) s = f n ((pre.length : Int) + 1) (s ++ e x)) :
    f FUEL 0 [] = kx (l.flatMap e) := by
  have := scan l (by unfold SMALL at hl; omega) f (fun pre suf s => kx (s ++ suf.flatMap e)) (fun pre s => s = pre.flatMap e) (fun n s _ => by rw [h0]; simp)
    (fun n pre x suf s a b c d i k => by
      rw [h1 n pre x suf s a b (by rw [a]; simp) c d i, k (s ++ e x) (by rw [i]; simp)]
      simp) FUEL [] rfl (by have := z3p; unfold SMALL at hl; omega)
  rw [this]; simp
theorem y3c {α γ : Type} {e : α → List γ} (he : ∀ x, (e x).length ≤ 1) : ∀ l : List α, (l.flatMap e).length ≤ l.length
  | [] => by simp
  | x :: l => by have := y3c he l; have := he x; simp only [List.flatMap_cons, zL, zC]; omega
end Go.Am.Pl
end
section
namespace Go.Am.Pl
open Go
def atB (l : List Bool) (p : Int) : Bool := (getI l p).getD false
theorem zz1 (l : List Bool) {i : Int} (h0 : 0 ≤ i) (h1 : i < l.length) : getI l i = some (atB l i) := by
  obtain ⟨x, hx, _⟩ := y9m l h0 h1
  unfold atB; rw [hx]; rfl
def setT (l : List Bool) (p : Int) : List Bool := l.set p.toNat true
theorem y3l (l : List Bool) (p : Int) : (setT l p).length = l.length := by simp [setT]
theorem w0n (l : List Bool) {p q : Int} (hp : 0 ≤ p) (hq : 0 ≤ q) (hl : q < l.length) : atB (setT l p) q = (decide (p = q) || atB l q) := by
  unfold atB setT
  rw [y3e l true hp hq hl]
  by_cases h : p = q <;> simp [h]
def setTs (l : List Bool) (ps : List Int) : List Bool := ps.foldl setT l
theorem yl8 : ∀ (ps : List Int) (l : List Bool), (setTs l ps).length = l.length
  | [], l => rfl
  | p :: ps, l => by show (setTs (setT l p) ps).length = _; rw [yl8 ps, y3l]
theorem yt2 : ∀ (ps : List Int) (l : List Bool) {q : Int}, (∀ p ∈ ps, 0 ≤ p) → 0 ≤ q → q < l.length → atB (setTs l ps) q = (decide (q ∈ ps) || atB l q)
  | [], l, q, _, _, _ => by simp [setTs]
  | p :: ps, l, q, hp, h0, h1 => by
    show atB (setTs (setT l p) ps) q = _
    rw [yt2 ps (setT l p) (fun x hx => hp x (by simp [hx])) h0 (by rw [y3l]; exact h1), w0n l (hp p (by simp)) h0 h1]
    by_cases h : p = q
    · subst h; simp
    · have : q ≠ p := fun e => h e.symm
      simp [h, this]
def rndT (but i : Int) (t : GTask) (l : List Bool) : List Bool := if i ≠ but ∧ t.in_.any (atB l) = true then setTs l (t.out.map (·.to)) else l
def rnd (but : Int) : Int → List GTask → List Bool → List Bool
  | _, [], l => l
  | i, t :: ts, l => rnd but (i + 1) ts (rndT but i t l)
theorem z8s (but i : Int) (t : GTask) (l : List Bool) : (rndT but i t l).length = l.length := by
  unfold rndT; split
  · rw [yl8]
  · rfl
theorem z87 (but : Int) : ∀ (ts : List GTask) (i : Int) (l : List Bool), (rnd but i ts l).length = l.length
  | [], _, _ => rfl
  | t :: ts, i, l => by unfold rnd; rw [z87 but ts, z8s]
def Pls (N : Int) (ts : List GTask) : Prop := ∀ t ∈ ts, (∀ p ∈ t.in_, 0 ≤ p ∧ p < N) ∧ ∀ f ∈ t.out, 0 ≤ f.to ∧ f.to < N
theorem yq1 {but i : Int} {t : GTask} {l : List Bool} (ht : ∀ f ∈ t.out, 0 ≤ f.to ∧ f.to < (l.length : Int)) {q : Int} (h0 : 0 ≤ q) (h1 : q < l.length) :
    atB (rndT but i t l) q = ((decide (i ≠ but) && t.in_.any (atB l) && t.out.any (fun f => decide (f.to = q))) || atB l q) := by
  unfold rndT
  by_cases hc : i ≠ but ∧ t.in_.any (atB l) = true
  · rw [if_pos hc, yt2 _ _ (fun p hp => by obtain ⟨f, hf, e⟩ := zQ.1 hp; subst e; exact (ht f hf).1) h0 h1, zT hc.1, hc.2, Bool.true_and, Bool.true_and]
    congr 1
    rw [Bool.eq_iff_iff]; simp
  · rw [if_neg hc]
    have : (decide (i ≠ but) && t.in_.any (atB l)) = false := by
      rw [zF]; intro h; rw [zA, zE] at h; exact hc h
    rw [this]; rfl
def Sub (a b : List Bool) : Prop := ∀ q : Int, 0 ≤ q → q < a.length → atB a q = true → atB b q = true
theorem yv9 {but i : Int} {t : GTask} {l : List Bool} (ht : ∀ f ∈ t.out, 0 ≤ f.to ∧ f.to < (l.length : Int)) : Sub l (rndT but i t l) := fun q h0 h1 h => by
  rw [yq1 ht h0 h1, h, Bool.or_true]
theorem y5q {but : Int} : ∀ (ts : List GTask) (i : Int) (l : List Bool), Pls l.length ts → Sub l (rnd but i ts l)
  | [], _, _, _ => fun _ _ _ h => h
  | t :: ts, i, l, hp => fun q h0 h1 h => by
    have ht := (hp t (by simp)).2
    unfold rnd
    exact y5q ts (i + 1) (rndT but i t l) (by rw [z8s]; exact fun x hx => hp x (by simp [hx])) q h0 (by rw [z8s]; exact h1) (yv9 ht q h0 h1 h)
def Stp (but : Int) (ts : List GTask) (p q : Int) : Prop := ∃ (j : Nat) (t : GTask), ts[j]? = some t ∧ (j : Int) ≠ but ∧ p ∈ t.in_ ∧ ∃ f ∈ t.out, f.to = q
inductive Star (but : Int) (ts : List GTask) : Int → Int → Prop where
  | refl (p : Int) : Star but ts p p
  | tail {p q r : Int} : Star but ts p q → Stp but ts q r → Star but ts p r
def Sound (but : Int) (ts : List GTask) (S : Int → Prop) (l : List Bool) : Prop := ∀ q : Int, 0 ≤ q → q < l.length → atB l q = true → ∃ p, S p ∧ Star but ts p q
theorem yl6 {but : Int} {all : List GTask} {S : Int → Prop} : ∀ (ts pre : List GTask) (l : List Bool), all = pre ++ ts → Pls l.length all → Sound but all S l → Sound but all S (rnd but pre.length ts l)
  | [], _, _, _, _, h => h
  | t :: ts, pre, l, ha, hp, h => by
    have hm : t ∈ all := by rw [ha]; simp
    have ht := hp t hm
    unfold rnd
    have := yl6 (all := all) (S := S) ts (pre ++ [t]) (rndT but pre.length t l) (by rw [ha]; simp) (by rw [z8s]; exact hp) (fun q h0 h1 hq => by
      rw [z8s] at h1
      rw [yq1 ht.2 h0 h1] at hq
      rcases Bool.or_eq_true _ _ ▸ hq with hq | hq
      · simp only [zA, zE, List.any_eq_true] at hq
        obtain ⟨⟨hb, p, hpi, hpt⟩, f, hf, e⟩ := hq
        obtain ⟨s, hs, hst⟩ := h p (ht.1 p hpi).1 (ht.1 p hpi).2 hpt
        exact ⟨s, hs, hst.tail ⟨pre.length, t, by rw [ha]; simp, hb, hpi, f, hf, e⟩⟩
      · exact h q h0 h1 hq)
    simpa using this
def Shut (but : Int) (ts : List GTask) (l : List Bool) : Prop := ∀ p q : Int, 0 ≤ p → p < l.length → atB l p = true → Stp but ts p q → atB l q = true
theorem w5p {but i : Int} {t : GTask} {l : List Bool} (h : rndT but i t l = l) (ht : ∀ f ∈ t.out, 0 ≤ f.to ∧ f.to < (l.length : Int)) (hb : i ≠ but) {p : Int} (hp : p ∈ t.in_) (hl : atB l p = true) : ∀ f ∈ t.out, atB l f.to = true := fun f hf => by
  have := yq1 (but := but) (i := i) ht (ht f hf).1 (ht f hf).2
  rw [h] at this
  rw [this, zT hb, Bool.true_and, List.any_eq_true.2 ⟨p, hp, hl⟩, Bool.true_and, List.any_eq_true.2 ⟨f, hf, by simp⟩]; rfl
theorem w8v {a b : List Bool} (hl : a.length = b.length) (h1 : Sub a b) (h2 : Sub b a) : a = b := by
  apply List.ext_getElem?
  intro j
  by_cases hj : j < a.length
  · have e1 := h1 j (by omega) (by omega)
    have e2 := h2 j (by omega) (by omega)
    unfold atB at e1 e2
    rw [z34, z34] at e1 e2
    rw [List.getElem?_eq_getElem hj, List.getElem?_eq_getElem (show j < b.length by omega)] at e1 e2 ⊢
    simp only [Option.getD_some] at e1 e2
    cases ha : a[j] <;> cases hb : b[j] <;> simp_all
  · rw [List.getElem?_eq_none (by omega), List.getElem?_eq_none (by omega)]
theorem Sub.trans {a b c : List Bool} (hl : a.length = b.length) (h1 : Sub a b) (h2 : Sub b c) : Sub a c := fun q h0 h3 h => h2 q h0 (by omega) (h1 q h0 h3 h)
theorem w2v {but : Int} : ∀ (ts : List GTask) (i : Int) (l : List Bool), Pls l.length ts → rnd but i ts l = l → ∀ (j : Nat) (t : GTask), ts[j]? = some t → rndT but (i + j) t l = l
  | [], _, _, _, _, j, t, h => by simp at h
  | u :: ts, i, l, hp, h, j, t, hj => by
    have hu := (hp u (by simp)).2
    have hp' : Pls ((rndT but i u l).length) ts := by rw [z8s]; exact fun x hx => hp x (by simp [hx])
    have h2 := y5q (but := but) ts (i + 1) (rndT but i u l) hp'
    unfold rnd at h
    rw [h] at h2
    have e : rndT but i u l = l := w8v (z8s _ _ _ _) h2 (yv9 hu)
    cases j with
    | zero => simp at hj; subst hj; simpa using e
    | succ j =>
      rw [e] at h
      have := w2v ts (i + 1) l (fun x hx => hp x (by simp [hx])) h j t (by simpa using hj)
      rw [show i + ((j + 1 : Nat) : Int) = i + 1 + j by omega]; exact this
theorem w4o {but : Int} {ts : List GTask} {l : List Bool} (hp : Pls l.length ts) (h : rnd but 0 ts l = l) : Shut but ts l := fun p q h0 h1 ha ⟨j, t, hj, hb, hpi, f, hf, e⟩ => by
  subst e
  have := w2v ts 0 l hp h j t hj
  rw [Int.zero_add] at this
  exact w5p this (hp t (List.mem_iff_getElem?.2 ⟨j, hj⟩)).2 hb hpi ha f hf
theorem w2z {but : Int} {ts : List GTask} {l : List Bool} (hp : Pls l.length ts) (h : Shut but ts l) {p q : Int} (hs : Star but ts p q) (h0 : 0 ≤ p) (h1 : p < l.length) (ha : atB l p = true) : (0 ≤ q ∧ q < l.length) ∧ atB l q = true := by
  induction hs with
  | refl => exact ⟨⟨h0, h1⟩, ha⟩
  | tail _ st ih =>
    obtain ⟨⟨i0, i1⟩, i2⟩ := ih
    refine ⟨?_, h _ _ i0 i1 i2 st⟩
    obtain ⟨j, t, hj, _, _, f, hf, e⟩ := st
    subst e
    exact (hp t (List.mem_iff_getElem?.2 ⟨j, hj⟩)).2 f hf
def cntT (l : List Bool) : Nat := (l.filter id).length
theorem w6z (l : List Bool) : cntT l ≤ l.length := List.length_filter_le _ _
theorem ye8 (x : Bool) (l : List Bool) : cntT (x :: l) = (if x = true then 1 else 0) + cntT l := by
  unfold cntT; cases x <;> simp; omega
theorem yt6 : ∀ (a b : List Bool), a.length = b.length → (∀ j : Nat, a[j]? = some true → b[j]? = some true) → cntT a ≤ cntT b ∧ (cntT a = cntT b → a = b)
  | [], [], _, _ => ⟨Nat.le_refl _, fun _ => rfl⟩
  | [], _ :: _, h, _ => by simp at h
  | _ :: _, [], h, _ => by simp at h
  | x :: a, y :: b, hl, h => by
    have h0 : x = true → y = true := fun e => by have := h 0 (by simp [e]); simpa using this
    obtain ⟨i1, i2⟩ := yt6 a b (by simpa using hl) (fun j hj => by have := h (j + 1) (by simpa using hj); simpa using this)
    rw [ye8, ye8]
    cases x <;> cases y
    · exact ⟨by simpa using i1, fun e => by rw [i2 (by simpa using e)]⟩
    · exact ⟨by simp; omega, fun e => by simp at e; omega⟩
    · exact absurd (h0 rfl) (by simp)
    · exact ⟨by simpa using i1, fun e => by rw [i2 (by simpa using e)]⟩
theorem w3b {a b : List Bool} (hl : a.length = b.length) (h : Sub a b) : cntT a ≤ cntT b ∧ (cntT a = cntT b → a = b) := by
  refine yt6 a b hl fun j hj => ?_
  have hlt : j < a.length := by
    rcases Nat.lt_or_ge j a.length with h2 | h2
    · exact h2
    · rw [List.getElem?_eq_none h2] at hj; cases hj
  have := h j (by omega) (by omega) (by unfold atB; rw [z34, hj]; rfl)
  unfold atB at this
  rw [z34] at this
  cases e : b[j]? with
  | none => rw [e] at this; cases this
  | some v => rw [e] at this; simp at this; rw [this]
def iter (but : Int) (ts : List GTask) : Nat → List Bool → List Bool
  | 0, l => l
  | k + 1, l => iter but ts k (rnd but 0 ts l)
theorem y9q (but : Int) (ts : List GTask) : ∀ (k : Nat) (l : List Bool), (iter but ts k l).length = l.length
  | 0, _ => rfl
  | k + 1, l => by show (iter but ts k (rnd but 0 ts l)).length = _; rw [y9q but ts k, z87]
theorem yi1 {but : Int} {ts : List GTask} {l : List Bool} (h : rnd but 0 ts l = l) : ∀ k : Nat, iter but ts k l = l
  | 0 => rfl
  | k + 1 => by show iter but ts k (rnd but 0 ts l) = l; rw [h]; exact yi1 h k
theorem yu3 {but : Int} {ts : List GTask} : ∀ (k : Nat) (l : List Bool), Pls l.length ts → l.length ≤ cntT l + k → rnd but 0 ts (iter but ts k l) = iter but ts k l
  | 0, l, hp, h => by
    have hs := y5q (but := but) ts 0 l hp
    obtain ⟨h1, h2⟩ := w3b (z87 but ts 0 l).symm hs
    have h3 := w6z (rnd but 0 ts l)
    rw [z87] at h3
    exact (h2 (by omega)).symm
  | k + 1, l, hp, h => by
    by_cases e : rnd but 0 ts l = l
    · rw [yi1 e]; exact e
    · have hs := y5q (but := but) ts 0 l hp
      obtain ⟨h1, h2⟩ := w3b (z87 but ts 0 l).symm hs
      have h4 : cntT l ≠ cntT (rnd but 0 ts l) := fun e2 => e (h2 e2).symm
      exact yu3 k (rnd but 0 ts l) (by rw [z87]; exact hp) (by rw [z87]; omega)
theorem yu4 {but : Int} {ts : List GTask} : ∀ (k : Nat) (l : List Bool), Pls l.length ts → Sub l (iter but ts k l)
  | 0, _, _ => fun _ _ _ h => h
  | k + 1, l, hp => Sub.trans (z87 but ts 0 l).symm (y5q ts 0 l hp) (yu4 k (rnd but 0 ts l) (by rw [z87]; exact hp))
theorem y85 {but : Int} {ts : List GTask} {S : Int → Prop} : ∀ (k : Nat) (l : List Bool), Pls l.length ts → Sound but ts S l → Sound but ts S (iter but ts k l)
  | 0, _, _, h => h
  | k + 1, l, hp, h => y85 k (rnd but 0 ts l) (by rw [z87]; exact hp) (yl6 ts [] l rfl hp h)
theorem w0b {but : Int} {ts : List GTask} {l r : List Bool} (hp : Pls l.length ts) (hl : r.length = l.length) (h1 : Sub l r) (h2 : rnd but 0 ts r = r) (h3 : Sound but ts (fun p => (0 ≤ p ∧ p < l.length) ∧ atB l p = true) r) {q : Int} (h0 : 0 ≤ q) (hq : q < l.length) :
    atB r q = true ↔ ∃ p : Int, ((0 ≤ p ∧ p < l.length) ∧ atB l p = true) ∧ Star but ts p q := by
  have hp' : Pls r.length ts := by rw [hl]; exact hp
  constructor
  · exact h3 q h0 (by rw [hl]; exact hq)
  · rintro ⟨p, ⟨⟨a, b⟩, c⟩, st⟩
    exact (w2z hp' (w4o hp' h2) st a (by rw [hl]; exact b) (h1 p a b c)).2
theorem w06 {but : Int} {ts : List GTask} (l : List Bool) : Sound but ts (fun p => (0 ≤ p ∧ p < l.length) ∧ atB l p = true) l := fun q h0 h1 h => ⟨q, ⟨⟨h0, h1⟩, h⟩, .refl q⟩
end Go.Am.Pl
end
section
namespace Go.Am.Pl
open Go
theorem scanE {α β σ : Type} (l : List α) (hl : l.length ≤ SMALL) (f : Nat → Int → σ → Option β) (kx : σ → Option β) (Inv : List α → σ → Prop)
    (h0 : ∀ n s, f (n + 1) (l.length : Int) s = kx s)
    (h1 : ∀ n pre x suf s, l = pre ++ x :: suf → getI l (pre.length : Int) = some x → x ∈ l → ((pre.length : Int) < (l.length : Int)) → ok64 ((pre.length : Int) + 1) → Inv pre s →
      ∃ s', Inv (pre ++ [x]) s' ∧ f (n + 1) (pre.length : Int) s = f n ((pre.length : Int) + 1) s') :
    ∀ s, Inv [] s → ∃ s', Inv l s' ∧ f FUEL 0 s = kx s' := by
  unfold SMALL at hl
  have key : ∀ suf pre n s, l = pre ++ suf → Inv pre s → suf.length < n → ∃ s', Inv l s' ∧ f n (pre.length : Int) s = kx s' := by
    intro suf
    induction suf with
    | nil =>
      intro pre n s hp hi hn
      obtain ⟨m, rfl⟩ : ∃ m, n = m + 1 := ⟨n - 1, by simp at hn; omega⟩
      simp only [List.append_nil] at hp
      subst hp
      exact ⟨s, hi, h0 m s⟩
    | cons x suf ih =>
      intro pre n s hp hi hn
      obtain ⟨m, rfl⟩ : ∃ m, n = m + 1 := ⟨n - 1, by simp at hn; omega⟩
      have hlen : l.length = pre.length + suf.length + 1 := by rw [hp]; simp; omega
      obtain ⟨s', hi', e⟩ := h1 m pre x suf s hp (by rw [hp]; exact y9l pre x suf) (by rw [hp]; simp) (by omega) (by constructor <;> omega) hi
      obtain ⟨s2, hi2, e2⟩ := ih (pre ++ [x]) m s' (by rw [hp]; simp) hi' (by simp at hn; omega)
      refine ⟨s2, hi2, ?_⟩
      rw [e, ← e2]; simp
  intro s hi
  exact key l [] FUEL s (by simp) hi (by have := z3p; omega)
theorem w8u {n : GNet} {i : Int} {t : GTask} {l : List Bool} (kx : Bool → Option (List Bool)) (h : getI n.tasks i = some t) (hs : t.in_.length ≤ SMALL) (hp : ∀ p ∈ t.in_, 0 ≤ p ∧ p < l.length) :
    z0x n i l kx FUEL false 0 = kx (t.in_.any (atB l)) :=
  scan t.in_ (by unfold SMALL at hs; omega) (fun f k s => z0x n i l kx f s k) (fun _ suf s => kx (s || suf.any (atB l))) (fun _ _ => True)
    (fun f s _ => by rw [z0x, h, zB, if_neg (by simp)]; simp)
    (fun f pre x suf s a b c d _ k => by
      have hx := hp x (by rw [a]; simp)
      rw [z0x, h, zB, if_pos (zT c)]
      cases s
      · rw [if_neg (by simp), zB, b, zB, zz1 l hx.1 hx.2, zB, z02 d, k _ trivial]; simp
      · rw [if_pos rfl, z02 d, k _ trivial]; simp) FUEL false trivial (by have := z3p; unfold SMALL at hs; omega)
theorem w7y {n : GNet} {but i : Int} {t : GTask} {s : Bool} {l : List Bool} (kx : List Bool → Option (List Bool)) (h : getI n.tasks i = some t) (hs : t.out.length ≤ SMALL) (hp : ∀ f ∈ t.out, 0 ≤ f.to ∧ f.to < l.length) :
    z0p n but i s kx kx kx FUEL 0 l = kx (if i ≠ but ∧ s = true then setTs l (t.out.map (·.to)) else l) := by
  obtain ⟨g, hF⟩ : ∃ g, FUEL = g + 1 := ⟨FUEL - 1, by have := z3p; omega⟩
  by_cases hb : i = but
  · rw [hF, z0p, h, zB]
    cases s <;> simp [hb]
  · cases s
    · rw [hF, z0p, h, zB]; simp
    · rw [if_pos ⟨hb, rfl⟩]
      exact scan t.out (by unfold SMALL at hs; omega) (z0p n but i true kx kx kx) (fun _ suf l => kx (setTs l (suf.map (·.to)))) (fun _ l2 => l2.length = l.length)
        (fun f s _ => by rw [z0p, h, zB, if_neg (by simp)]; rfl)
        (fun f pre x suf s a b c d hi k => by
          have hx := hp x (by rw [a]; simp)
          rw [z0p, h, zB, if_pos (zT c), if_pos rfl, if_neg (by simpa using hb), zB, b, zB, zz1 s hx.1 (by rw [hi]; exact hx.2), zB, z02 d]
          exact k _ (by rw [← hi, ← y3l s x.to]; rfl)) FUEL l rfl (by have := z3p; unfold SMALL at hs; omega)
theorem yu9 {n : GNet} (h : netB n = true) {N : Nat} (hN : (N : Int) = n.places) : Pls N n.tasks := fun t ht => by
  have T := z6q h ht
  refine ⟨fun p hp => by have := T.ins p hp; omega, fun f hf => ?_⟩
  have := yp1 h ht f hf; omega
theorem yc8 {n : GNet} {l : List Bool} (but : Int) (hn : n.small) (h : netB n = true) (hl : (l.length : Int) = n.places) : z5u n l but = some (iter but n.tasks l.length l) := by
  have hsz := z62 h
  have hP := yu9 h hl
  unfold z5u
  rw [z02 (by simp; unfold SMALL; omega), List.nil_append]
  have round : ∀ (kx : List Bool → Option (List Bool)) (s : List Bool), s.length = l.length → z09 n but kx FUEL 0 s = kx (rnd but 0 n.tasks s) := fun kx s hs =>
    scan n.tasks (by have := hn.1; unfold SMALL at this; omega) (z09 n but kx) (fun pre suf s => kx (rnd but pre.length suf s)) (fun _ s => s.length = l.length)
      (fun f s _ => by rw [z09, if_neg (by simp)]; rfl)
      (fun f pre x suf s a b c d hi k => by
        have hx : x ∈ n.tasks := by rw [a]; simp
        have hx2 := hP x hx
        rw [z09, if_pos (zT c), w8u _ b (hn.2 x hx).1 (by rw [hi]; exact hx2.1)]
        unfold z8n
        have e2 : z5v (pre.length : Int) (z09 n but kx f) = fun z => z09 n but kx f ((pre.length : Int) + 1) z := funext fun z => by unfold z5v; rw [z02 d]
        have e3 : z5w (pre.length : Int) (z09 n but kx f) = fun z => z09 n but kx f ((pre.length : Int) + 1) z := funext fun z => by unfold z5w; rw [z02 d]
        have e4 : z5x (pre.length : Int) (z09 n but kx f) = fun z => z09 n but kx f ((pre.length : Int) + 1) z := funext fun z => by unfold z5x; rw [z02 d]
        rw [e2, e3, e4, w7y _ b (hn.2 x hx).2.1 (by rw [hi]; exact hx2.2)]
        have := k (rndT but pre.length x s) (by rw [z8s, hi])
        rw [rnd]
        rw [zL, zJ] at this
        exact this) FUEL s hs (by have := z3p; have := hn.1; unfold SMALL at this; omega)
  have hrep : (List.replicate l.length ()).length = l.length := by simp
  have := scan (List.replicate l.length ()) (by rw [hrep]; omega) (z29 n but z8p) (fun _ suf s => some (iter but n.tasks suf.length s)) (fun _ s => s.length = l.length)
      (fun f s _ => by rw [z29, hrep, if_neg (by simp; omega)]; rfl)
      (fun f pre x suf s a b c d hi k => by
        rw [hrep] at c
        rw [z29, if_pos (by simp; omega), round _ s hi]
        unfold z8o
        rw [z02 d]
        exact k _ (by rw [z87, hi])) FUEL l rfl (by have := z3p; rw [hrep]; omega)
  rw [this, hrep]
def oneT (N : Nat) (p : Int) : List Bool := setT (List.replicate N false) p
theorem w6r (N : Nat) (q : Int) : atB (List.replicate N false) q = false := by
  unfold atB getI
  split
  · cases e : (List.replicate N false)[q.toNat]? with
    | none => rfl
    | some v =>
      have := List.mem_of_getElem? e
      rw [List.mem_replicate] at this
      simp [this.2]
  · rfl
theorem w0a {n : GNet} {l : List Bool} {but q : Int} (h : netB n = true) (hl : (l.length : Int) = n.places) (g0 : 0 ≤ q) (g1 : q < n.places) :
    atB (iter but n.tasks l.length l) q = true ↔ ∃ p, (0 ≤ p ∧ p < n.places) ∧ atB l p = true ∧ Star but n.tasks p q := by
  have hP : Pls l.length n.tasks := yu9 h hl
  rw [w0b hP (by rw [y9q]) (yu4 _ _ hP) (yu3 _ _ hP (by omega)) (y85 _ _ hP (w06 _)) g0 (by omega)]
  constructor
  · rintro ⟨x, ⟨⟨a, b⟩, c⟩, st⟩; exact ⟨x, ⟨a, by omega⟩, c, st⟩
  · rintro ⟨x, ⟨a, b⟩, c, st⟩; exact ⟨x, ⟨⟨a, by omega⟩, c⟩, st⟩
end Go.Am.Pl
end
section
namespace Go.Am.Pl
open Go
def srcB (n : GNet) (marks : List Int) (busy : List GItem) (ins : List Int) (p : Int) : Bool :=
  (decide (0 < atI marks p) && !ins.any (fun x => decide (x = p))) || busy.any (fun b => (atI n.tasks b.task).out.any (fun f => decide (f.to = p)))
def Coming (n : GNet) (marks : List Int) (busy : List GItem) (t : Int) : Prop :=
  ∃ q ∈ (atI n.tasks t).in_, atI marks q = 0 ∧ ∃ p : Int, (0 ≤ p ∧ p < n.places) ∧ srcB n marks busy (atI n.tasks t).in_ p = true ∧ Star t n.tasks p q
noncomputable def comB (n : GNet) (marks : List Int) (busy : List GItem) (t : Int) : Bool := @decide (Coming n marks busy t) (Classical.propDecidable _)
theorem w4m {n : GNet} {marks : List Int} {busy : List GItem} {t : Int} : comB n marks busy t = true ↔ Coming n marks busy t := by unfold comB; exact @decide_eq_true_iff _ (Classical.propDecidable _)
theorem w70 {n : GNet} {marks : List Int} {busy : List GItem} {t : Int} {b : Bool} (h : b = true ↔ Coming n marks busy t) : b = comB n marks busy t := by
  rw [Bool.eq_iff_iff, h, w4m]
structure MB (n : GNet) (m : List Int) (busy : List GItem) : Prop where
  net : netB n = true
  len : (m.length : Int) = n.places
  mks : ∀ x ∈ m, 0 ≤ x ∧ x ≤ 4
  busyl : busy.length ≤ 6
  busy : ∀ b ∈ busy, (0 ≤ b.task ∧ b.task < n.tasks.length)
theorem mb_of {n : GNet} {m : List Int} {busy : List GItem} (h1 : mrkB n m = true) (h2 : busyB n busy = true) : MB n m busy := by
  obtain ⟨a, b, c⟩ := z58 h1
  simp only [busyB, itemB, zA, zV, z0a, zE] at h2
  exact ⟨a, b, z85.1 c, by omega, fun x hx => by have := h2.2 x hx; omega⟩
theorem yc9 {n : GNet} {marks : List Int} {busy : List GItem} {t : Int} (hn : n.small) (M : MB n marks busy) (t0 : 0 ≤ t) (t1 : t < n.tasks.length) : z5z n marks busy t = some (comB n marks busy t) := by
  have hsz := z62 M.net
  have hml := M.len
  have hg := z1p n.tasks t0 t1
  have hm := z3q n.tasks t0 t1
  have T := z6q M.net hm
  have hsm := hn.2 _ hm
  generalize hins : (atI n.tasks t).in_ = ins at *
  unfold z5z
  rw [z02 (by omega)]
  obtain ⟨s1, ⟨hl1, hv1⟩, e1⟩ := scanE marks (by unfold SMALL; omega) (z0z n marks t (z2a n marks busy t)) (z2a n marks busy t)
    (fun pre s => (s.length : Int) = n.places ∧ ∀ q : Int, 0 ≤ q → q < n.places → atB s q = (decide (q < pre.length) && (decide (0 < atI marks q) && !ins.any (fun x => decide (x = q)))))
    (fun f s => by rw [z0z, if_neg (by simp; omega)])
    (fun f pre x suf s a b c d g hi => by
      have hx : 0 ≤ (pre.length : Int) ∧ (pre.length : Int) < n.places := by omega
      have hgs := zz1 s hx.1 (by omega)
      have hat : atI marks pre.length = x := by unfold atI; rw [b]; rfl
      have inv : ∀ v : Bool, v = (decide (0 < x) && !ins.any (fun y => decide (y = (pre.length : Int)))) → ((s.set (pre.length : Int).toNat v).length : Int) = n.places ∧ ∀ q : Int, 0 ≤ q → q < n.places → atB (s.set (pre.length : Int).toNat v) q = (decide (q < (pre ++ [x]).length) && (decide (0 < atI marks q) && !ins.any (fun x => decide (x = q)))) := fun v hv => by
        refine ⟨by rw [zS]; exact hi.1, fun q q0 q1 => ?_⟩
        have e : atB (s.set (pre.length : Int).toNat v) q = if (pre.length : Int) = q then v else atB s q := by
          unfold atB; rw [y3e s v hx.1 q0 (by omega)]
          split <;> rfl
        rw [e]
        by_cases h : (pre.length : Int) = q
        · rw [if_pos h, ← h, hat, hv]
          have : decide ((pre.length : Int) < (((pre ++ [x]).length : Nat) : Int)) = true := by simp; omega
          rw [this, Bool.true_and]
        · rw [if_neg h, hi.2 q q0 q1]
          have : decide (q < (pre.length : Int)) = decide (q < (((pre ++ [x]).length : Nat) : Int)) := decide_eq_decide.2 (by simp; omega)
          rw [this]
      rw [z0z, if_pos (zT (by omega)), b, zB]
      by_cases h : 0 < x
      · rw [if_pos (zT h), hg, zB, hins, y1l _ _ (hins ▸ hsm.1), zB, hgs, zB, z02 g]
        exact ⟨_, inv _ (by simp [h]), rfl⟩
      · rw [if_neg (by simpa using h), hgs, zB, z02 g]
        exact ⟨_, inv _ (by simp [h]), rfl⟩)
    (List.replicate n.places.toNat false) ⟨by simp; omega, fun q q0 q1 => by rw [w6r]; simp; omega⟩
  have e1' : z0z n marks t (z2a n marks busy t) FUEL 0 (List.replicate n.places.toNat false) = z2a n marks busy t s1 := e1
  rw [e1']
  unfold z2a
  obtain ⟨s2, ⟨hl2, hv2⟩, e2⟩ := scanE busy (by have := M.busyl; unfold SMALL; omega) (z0h n busy (z0y n marks t)) (z0y n marks t)
    (fun pre s => (s.length : Int) = n.places ∧ ∀ q : Int, 0 ≤ q → q < n.places → atB s q = ((decide (0 < atI marks q) && !ins.any (fun x => decide (x = q))) || pre.any (fun b => (atI n.tasks b.task).out.any (fun f => decide (f.to = q)))))
    (fun f s => by rw [z0h, if_neg (by simp)])
    (fun f pre x suf s a b c d g hi => by
      have hb := M.busy x c
      have hxm := z3q n.tasks hb.1 hb.2
      have hto := yp1 M.net hxm
      rw [z0h, if_pos (zT d), b, zB, z1p n.tasks hb.1 hb.2, zB]
      obtain ⟨s3, ⟨hl3, hv3⟩, e3⟩ := scanE (atI n.tasks x.task).out (hn.2 _ hxm).2.1 (z1j (atI n.tasks x.task).out (z2b pre.length (z0h n busy (z0y n marks t) f))) (z2b pre.length (z0h n busy (z0y n marks t) f))
        (fun pr z => (z.length : Int) = n.places ∧ ∀ q : Int, 0 ≤ q → q < n.places → atB z q = (pr.any (fun f => decide (f.to = q)) || atB s q))
        (fun f s => by rw [z1j, if_neg (by simp)])
        (fun f pr y sf z a2 b2 c2 d2 g2 hi2 => by
          have hy := hto y c2
          rw [z1j, if_pos (zT d2), b2, zB, zz1 z (by omega) (by omega), zB, z02 g2]
          refine ⟨setT z y.to, ⟨by rw [y3l]; exact hi2.1, fun q q0 q1 => ?_⟩, rfl⟩
          rw [w0n z (by omega) q0 (by omega), hi2.2 q q0 q1, List.any_append, List.any_cons, List.any_nil, Bool.or_false]
          generalize decide (y.to = q) = u; generalize (pr.any fun f => decide (f.to = q)) = v; generalize atB s q = w
          cases u <;> cases v <;> cases w <;> rfl) s ⟨hi.1, fun q _ _ => by simp⟩
      refine ⟨s3, ⟨hl3, fun q q0 q1 => ?_⟩, ?_⟩
      · rw [hv3 q q0 q1, hi.2 q q0 q1, List.any_append, List.any_cons, List.any_nil, Bool.or_false]
        cases (List.any (atI n.tasks x.task).out fun f => decide (f.to = q)) <;> simp
      · have : z1j (atI n.tasks x.task).out (z2b pre.length (z0h n busy (z0y n marks t) f)) FUEL 0 s = z2b pre.length (z0h n busy (z0y n marks t) f) s3 := e3
        rw [this]; unfold z2b; rw [z02 g])
    s1 ⟨hl1, fun q q0 q1 => by rw [hv1 q q0 q1, zT (by omega)]; simp⟩
  rw [e2]
  unfold z0y
  rw [yc8 t hn M.net hl2, zB]
  generalize hr : iter t n.tasks s2.length s2 = r
  have hrl : (r.length : Int) = n.places := by rw [← hr, y9q]; exact hl2
  have hri : ∀ q : Int, 0 ≤ q → q < n.places → (atB r q = true ↔ ∃ p : Int, (0 ≤ p ∧ p < n.places) ∧ srcB n marks busy ins p = true ∧ Star t n.tasks p q) := fun q q0 q1 => by
    rw [← hr, w0a M.net hl2 q0 q1]
    constructor
    · rintro ⟨p, a, b, c⟩; rw [hv2 p a.1 a.2] at b; exact ⟨p, a, b, c⟩
    · rintro ⟨p, a, b, c⟩; exact ⟨p, a, by rw [hv2 p a.1 a.2]; exact b, c⟩
  have hin : ∀ p ∈ ins, 0 ≤ p ∧ p < n.places := fun p hp => by have := T.ins p (hins ▸ hp); omega
  have fin : z10 n marks t r z60 FUEL 0 = some (ins.any (fun q => decide (atI marks q = 0) && atB r q)) :=
    scan0 ins (by have := hins ▸ hsm.1; unfold SMALL at this; omega) (z10 n marks t r z60) (fun _ suf => some (suf.any (fun q => decide (atI marks q = 0) && atB r q)))
      (fun f => by rw [z10, hg, zB, hins, if_neg (by simp)]; rfl)
      (fun f pre x suf a b c d ih => by
        have hx := hin x (by rw [a]; simp)
        rw [z10, hg, zB, hins, if_pos (zT c), zB, hins, b, zB, z1p marks hx.1 (by have := M.len; omega), zB, List.any_cons]
        by_cases h : atI marks x = 0
        · rw [if_pos (zT h), zB, hins, b, zB, zz1 r hx.1 (by omega), zB, z02 d, ih]
          cases atB r x <;> simp [h]
        · rw [if_neg (by simpa using h), z02 d, ih]; simp [h])
  rw [fin]
  congr 1
  refine w70 ?_
  unfold Coming
  rw [hins, List.any_eq_true]
  constructor
  · rintro ⟨q, hq, h⟩
    rw [zA, zE] at h
    exact ⟨q, hq, h.1, (hri q (hin q hq).1 (hin q hq).2).1 h.2⟩
  · rintro ⟨q, hq, h, h2⟩
    exact ⟨q, hq, by rw [zA, zE]; exact ⟨h, (hri q (hin q hq).1 (hin q hq).2).2 h2⟩⟩
def someB (marks : List Int) (l : List Int) : Bool := l.any (fun p => decide (0 < atI marks p))
def allB (marks : List Int) (l : List Int) : Bool := l.all (fun p => decide (0 < atI marks p))
theorem yr5 (marks l : List Int) (hs : l.length ≤ SMALL) (hp : ∀ p ∈ l, 0 ≤ p ∧ p < marks.length) : z7m marks l = some (someB marks l, allB marks l) := by
  unfold z7m
  exact scan l (by unfold SMALL at hs; omega) (fun f i (s : Bool × Bool) => z0v marks l z4v f s.1 s.2 i) (fun _ suf s => some (s.1 || someB marks suf, s.2 && allB marks suf)) (fun _ _ => True)
    (fun f s _ => by rw [z0v, if_neg (by simp)]; simp [someB, allB, z4v])
    (fun f pre x suf s a b c d _ k => by
      obtain ⟨s1, s2⟩ := s
      have hx := hp x (by rw [a]; simp)
      have hg := z1p marks hx.1 hx.2
      have ih := fun u v => k (u, v) trivial
      show z0v marks l z4v (f + 1) s1 s2 (pre.length : Int) = some (s1 || someB marks (x :: suf), s2 && allB marks (x :: suf))
      rw [z0v, if_pos (zT c)]
      simp only [b, hg, zB, z02 d]
      dsimp only at ih
      simp only [ih, someB, allB, List.any_cons, List.all_cons]
      cases s1 <;> cases s2 <;> simp) FUEL (false, true) trivial (by have := z3p; unfold SMALL at hs; omega)
noncomputable def canB (n : GNet) (marks : List Int) (busy : List GItem) (t : Int) : Bool :=
  bif decide ((atI n.tasks t).join = 1) then allB marks (atI n.tasks t).in_ else bif decide ((atI n.tasks t).join = 2) then someB marks (atI n.tasks t).in_ else someB marks (atI n.tasks t).in_ && (allB marks (atI n.tasks t).in_ || !comB n marks busy t)
theorem w09 {n : GNet} {marks : List Int} {busy : List GItem} {t : Int} (hn : n.small) (M : MB n marks busy) (t0 : 0 ≤ t) (t1 : t < n.tasks.length) : z8q n marks busy t = some (canB n marks busy t) := by
  have hml := M.len
  have hg := z1p n.tasks t0 t1
  have hm := z3q n.tasks t0 t1
  have T := z6q M.net hm
  unfold z8q canB
  rw [hg, zB, yr5 _ _ (hn.2 _ hm).1 (fun p hp => by have := T.ins p hp; omega), zB, zB, yc9 hn M t0 t1]
  by_cases h1 : (atI n.tasks t).join = 1
  · simp [h1]
  · by_cases h2 : (atI n.tasks t).join = 2
    · simp [h2]
    · simp only [h1, h2, decide_false, cond_false, zB]
      cases someB marks (atI n.tasks t).in_ <;> cases allB marks (atI n.tasks t).in_ <;> simp
noncomputable def enaB (n : GNet) (marks : List Int) (busy : List GItem) (t : Int) : Bool := mrkB n marks && (busyB n busy && (inB t 0 ((n.tasks.length : Int) - 1) && canB n marks busy t))
theorem y5z (n : GNet) (marks : List Int) (busy : List GItem) (t : Int) (hn : n.small) (hm : marks.length ≤ SMALL) (hb : busy.length ≤ SMALL) : z5k n marks busy t = some (enaB n marks busy t) := by
  unfold z5k enaB
  rw [zr9 n marks hn hm, zB]
  by_cases h1 : mrkB n marks = true
  case neg => rw [if_neg h1, zF.2 h1]; rfl
  rw [if_pos h1, h1, y60 n busy hn hb (yu8 h1), zB]
  by_cases h2 : busyB n busy = true
  case neg => rw [if_neg h2, zF.2 h2]; rfl
  rw [if_pos h2, h2, z02 (z9g hn.1), z19, zB]
  by_cases h3 : inB t 0 ((n.tasks.length : Int) - 1) = true
  case neg => rw [if_neg h3, zF.2 h3]; rfl
  have h3' := z0a.1 h3
  rw [if_pos h3, h3, w09 hn (mb_of h1 h2) h3'.1 (by omega), zB]; rfl
def dec (l : List Int) (p : Int) : List Int := l.set p.toNat (atI l p - 1)
def takeL (join : Int) : List Int → List Int → List Int
  | [], l => l
  | p :: ps, l => if 0 < atI l p then (if join = 2 then dec l p else takeL join ps (dec l p)) else takeL join ps l
theorem y8k (l : List Int) (p : Int) : (dec l p).length = l.length := by simp [dec]
theorem y0m (join : Int) : ∀ (ps l : List Int), (takeL join ps l).length = l.length
  | [], l => rfl
  | p :: ps, l => by
    unfold takeL
    split
    · split
      · exact y8k l p
      · rw [y0m join ps, y8k]
    · exact y0m join ps l
theorem y8i {l : List Int} {p : Int} (h : capM 4 l) (hp : 0 < atI l p) (h0 : 0 ≤ p) (h1 : p < l.length) : capM 4 (dec l p) := fun x hx => by
  have hv := y43 h h0 h1
  rcases List.mem_or_eq_of_mem_set hx with hx | rfl
  · exact h x hx
  · omega
theorem w3c {β : Type} (join : Int) (ps : List Int) (hs : ps.length ≤ SMALL) (f : Nat → Int → List Int → Option β) (kx : List Int → Option β) (l0 : List Int) (hp : ∀ p ∈ ps, 0 ≤ p ∧ p < l0.length) (hc : capM 4 l0)
    (h0 : ∀ n s, f (n + 1) (ps.length : Int) s = kx s)
    (h1 : ∀ n i p s, getI ps i = some p → i < (ps.length : Int) → ok64 (i + 1) → getI s p = some (atI s p) → ok64 (atI s p - 1) → f (n + 1) i s = if decide (0 < atI s p) = true then (if decide (join = 2) = true then kx (dec s p) else f n (i + 1) (dec s p)) else f n (i + 1) s) :
    f FUEL 0 l0 = kx (takeL join ps l0) :=
  scan ps (by unfold SMALL at hs; omega) f (fun _ suf l => kx (takeL join suf l)) (fun _ l => l.length = l0.length ∧ capM 4 l) (fun n s hi => by rw [h0]; rfl)
    (fun n pre x suf s a b c d hi k => by
      have hx := hp x (by rw [a]; simp)
      have hx2 : x < s.length := by rw [hi.1]; exact hx.2
      have hv := y43 hi.2 hx.1 hx2
      rw [h1 n _ x s b c d (z1p s hx.1 hx2) (by constructor <;> omega), takeL]
      by_cases h : 0 < atI s x
      · rw [if_pos (zT h), if_pos h]
        by_cases h2 : join = 2
        · rw [if_pos (zT h2), if_pos h2]
        · rw [if_neg (by simpa using h2), if_neg h2]
          exact k _ ⟨by rw [y8k, hi.1], y8i hi.2 h hx.1 hx2⟩
      · rw [if_neg (by simpa using h), if_neg h]
        exact k _ hi) FUEL l0 ⟨rfl, hc⟩ (by have := z3p; unfold SMALL at hs; omega)
theorem ym2 (n : GNet) (marks : List Int) (t : Int) (hn : n.small) (hm : marks.length ≤ SMALL) : z6g n marks t = some (bif mrkB n marks && inB t 0 ((n.tasks.length : Int) - 1) then takeL (atI n.tasks t).join (atI n.tasks t).in_ marks else []) := by
  unfold z6g
  rw [zr9 n marks hn hm, zB]
  by_cases h1 : mrkB n marks = true
  case neg => rw [if_neg h1, zF.2 h1]; rfl
  rw [if_pos h1, h1, z02 (z9g hn.1), z19, zB]
  by_cases h3 : inB t 0 ((n.tasks.length : Int) - 1) = true
  case neg => rw [if_neg h3, zF.2 h3]; rfl
  have h3' := z0a.1 h3
  obtain ⟨f1, f2, f3⟩ := z58 h1
  have hg := z1p n.tasks h3'.1 (by omega)
  have ht := z3q n.tasks h3'.1 (by omega)
  have T := z6q f1 ht
  rw [if_pos h3, h3, z02 (by simpa using hm), List.nil_append]
  rw [w3c (atI n.tasks t).join (atI n.tasks t).in_ (hn.2 _ ht).1 (z1s n t za2 za3) (fun l => some l) marks (fun p hp => by have := T.ins p hp; omega) (z85.1 f3)
    (fun f s => by rw [z1s, hg, zB, if_neg (by simp)]; rfl)
    (fun f i p s a b c d e => by
      rw [z1s, hg, zB, if_pos (zT b), zB, a, zB, d, zB, zB, z02 e, zB, zB]; simp only [z02 c]; rfl)]
  rfl
end Go.Am.Pl
end
section
namespace Go.Am.Pl
open Go
def bitB (x role : Int) : Bool := decide ((x / 2 ^ (role - 1).toNat) % 2 = 1)
def hasB (people : List Int) (who role : Int) : Bool := pplB people && (inB who 1 people.length && (inB role 1 3 && bitB (atI people (who - 1)) role))
theorem eight {x : Int} (h : 0 ≤ x ∧ x ≤ 7) : x = 0 ∨ x = 1 ∨ x = 2 ∨ x = 3 ∨ x = 4 ∨ x = 5 ∨ x = 6 ∨ x = 7 := by omega
theorem ze8 {x role s : Int} (f : Nat) (hx : 0 ≤ x ∧ x ≤ 7) (hs : s < role) (h3 : 0 ≤ s ∧ role ≤ 3) : z14 role z2x (f + 1) x s = z14 role z2x f (Int.tdiv x 2) (s + 1) := by
  have hd : Int.tdiv x 2 = x / 2 := Int.tdiv_eq_ediv_of_nonneg hx.1
  rw [z14, if_pos (zT hs), z02 (by rw [hd]; exact ⟨by omega, by constructor <;> omega⟩), z02 (by constructor <;> omega)]
theorem zo8 {x role s : Int} (f : Nat) (hs : ¬ s < role) : z14 role z2x (f + 1) x s = some (decide (Int.tmod x 2 = 1)) := by
  rw [z14, if_neg (by simpa using hs), z2x, z02 (by omega)]
theorem tdiv2 {x : Int} (hx : 0 ≤ x ∧ x ≤ 7) : 0 ≤ Int.tdiv x 2 ∧ Int.tdiv x 2 ≤ 7 := by
  have hd : Int.tdiv x 2 = x / 2 := Int.tdiv_eq_ediv_of_nonneg hx.1
  omega
theorem w5w {x role : Int} (hx : 0 ≤ x ∧ x ≤ 7) (hr : 1 ≤ role ∧ role ≤ 3) : z14 role z2x FUEL x 1 = some (bitB x role) := by
  obtain ⟨f, hF⟩ : ∃ f, FUEL = f + 3 := ⟨FUEL - 3, by have := z3p; omega⟩
  rw [hF]
  have hr' : role = 1 ∨ role = 2 ∨ role = 3 := by omega
  rcases hr' with rfl | rfl | rfl
  · rw [zo8 _ (by omega)]
    rcases eight hx with rfl | rfl | rfl | rfl | rfl | rfl | rfl | rfl <;> rfl
  · rw [ze8 _ hx (by omega) (by omega), zo8 _ (by omega)]
    rcases eight hx with rfl | rfl | rfl | rfl | rfl | rfl | rfl | rfl <;> rfl
  · rw [ze8 _ hx (by omega) (by omega), ze8 _ (tdiv2 hx) (by omega) (by omega), zo8 _ (by omega)]
    rcases eight hx with rfl | rfl | rfl | rfl | rfl | rfl | rfl | rfl <;> rfl
theorem y8c {p : List Int} (h : pplB p = true) : (1 ≤ p.length ∧ p.length ≤ 4) ∧ ∀ x ∈ p, 0 ≤ x ∧ x ≤ 7 := by
  simp only [pplB, zA, z0a, zV] at h
  exact ⟨by omega, h.2⟩
theorem yr0 (people : List Int) (who role : Int) (hl : people.length ≤ SMALL) : z7g people who role = some (hasB people who role) := by
  unfold z7g hasB
  rw [y1k _ hl, zB]
  by_cases h1 : pplB people = true
  case neg => rw [if_neg h1, zF.2 h1]; rfl
  rw [if_pos h1, h1, z19, zB]
  by_cases h2 : inB who 1 people.length = true
  case neg => rw [if_neg h2, zF.2 h2]; rfl
  rw [if_pos h2, h2, z19, zB]
  by_cases h3 : inB role 1 3 = true
  case neg => rw [if_neg h3, zF.2 h3]; rfl
  have h2' := z0a.1 h2
  have F := y8c h1
  rw [if_pos h3, h3, z02 (by constructor <;> omega), z1p people (by omega) (by omega), zB, w5w (F.2 _ (z3q people (by omega) (by omega))) (z0a.1 h3)]
  rfl
def doneD (did : List GDid) (who task : Int) : Bool := did.any (fun d => decide (d.who = who) && decide (d.task = task))
theorem yq9 (did : List GDid) (who task : Int) (hl : did.length ≤ SMALL) : z7f did who task = some (doneD did who task) := by
  unfold z7f doneD
  exact scan0 did (by unfold SMALL at hl; omega) (z2c did who task zg6) (fun _ suf => some (suf.any (fun d => decide (d.who = who) && decide (d.task = task))))
    (fun f => by rw [z2c, if_neg (by simp)]; rfl)
    (fun f pre x suf a b c d ih => by
      rw [z2c, if_pos (zT c)]
      simp only [b, zB, z02 d, ih, List.any_cons]
      by_cases h1 : x.who = who <;> by_cases h2 : x.task = task <;> simp [h1, h2])
def idxs (N : Nat) : List Int := (List.range N).map (fun i : Nat => (i : Int) + 1)
theorem y3f (N : Nat) : (idxs N).length = N := by simp [idxs]
theorem w4r {N : Nat} {i : Nat} {x : Int} (h : getI (idxs N) (i : Int) = some x) : x = (i : Int) + 1 := by
  rw [z34] at h
  simp only [idxs, zI, Option.map_eq_some_iff] at h
  obtain ⟨j, hj, rfl⟩ := h
  rw [zG] at hj
  obtain ⟨h1, h2⟩ := hj
  rw [List.getElem_range] at h2
  omega
theorem w4s {N : Nat} {x : Int} : x ∈ idxs N ↔ 1 ≤ x ∧ x ≤ N := by
  simp only [idxs, zQ, List.mem_range]
  constructor
  · rintro ⟨i, h, rfl⟩; omega
  · intro h; exact ⟨(x - 1).toNat, by omega, by omega⟩
theorem zv3 {α : Type} (q : α → Bool) : ∀ l : List α, l.flatMap (fun x => if q x = true then [x] else []) = l.filter q
  | [] => rfl
  | x :: l => by
    rw [List.flatMap_cons, zv3 q l, List.filter_cons]
    split <;> simp
def nowB (busy : List GItem) (apart who : Int) : Bool := busy.any (fun b => decide (b.who = who) && decide (b.task = apart))
def mayW (n : GNet) (people : List Int) (did : List GDid) (busy : List GItem) (t who : Int) : Bool :=
  hasB people who (atI n.tasks t).role && (!nowB busy (atI n.tasks t).apart who && !doneD did who (atI n.tasks t).apart)
def mayB (n : GNet) (people : List Int) (did : List GDid) (busy : List GItem) (t : Int) : List Int :=
  bif netB n && (pplB people && inB t 0 ((n.tasks.length : Int) - 1)) then (idxs people.length).filter (mayW n people did busy t) else []
theorem w5x {n : GNet} {t : Int} (busy : List GItem) (who : Int) (kx : Bool → Option (List Int)) (hg : getI n.tasks t = some (atI n.tasks t)) (hb : busy.length ≤ SMALL) :
    z15 n busy t who kx FUEL false 0 = kx (nowB busy (atI n.tasks t).apart who) :=
  scan busy (by unfold SMALL at hb; omega) (fun f i s => z15 n busy t who kx f s i) (fun _ suf s => kx (s || nowB suf (atI n.tasks t).apart who)) (fun _ _ => True)
    (fun f s _ => by rw [z15, if_neg (by simp)]; simp [nowB])
    (fun f pre x suf s a b c d _ k => by
      have ih := fun u => k u trivial
      rw [z15, if_pos (zT c)]
      simp only [b, hg, zB, z02 d, ih, nowB, List.any_cons]
      cases s
      · by_cases h : x.who = who <;> simp [h]
      · simp) FUEL false trivial (by have := z3p; unfold SMALL at hb; omega)
theorem yr1 (n : GNet) (people : List Int) (did : List GDid) (busy : List GItem) (t : Int) (hn : n.small) (hp : people.length ≤ SMALL) (hd : did.length ≤ SMALL) (hb : busy.length ≤ SMALL) :
    z7h n people did busy t = some (mayB n people did busy t) := by
  unfold z7h mayB
  rw [zb5 n hn, zB]
  by_cases h1 : netB n = true
  case neg => rw [if_neg h1, zF.2 h1]; rfl
  rw [if_pos h1, h1, y1k _ hp, zB]
  by_cases h2 : pplB people = true
  case neg => rw [if_neg h2, zF.2 h2]; rfl
  rw [if_pos h2, h2, z02 (z9g hn.1), z19, zB]
  by_cases h3 : inB t 0 ((n.tasks.length : Int) - 1) = true
  case neg => rw [if_neg h3, zF.2 h3]; rfl
  have h3' := z0a.1 h3
  have hg := z1p n.tasks h3'.1 (by omega)
  rw [if_pos h3, h3]
  have := y46 (idxs people.length) (by rw [y3f]; exact hp) (fun w => if mayW n people did busy t w = true then [w] else []) (fun f i s => z2y n people did busy t z6z f (i + 1) s) z6z
    (fun f s => by rw [z2y, y3f, if_neg (by simp; omega)])
    (fun f pre x suf s a b c d e i => by
      have hx := w4r b
      rw [y3f] at d
      have hs : s.length + [(pre.length : Int) + 1].length ≤ SMALL := by
        rw [i, zJ]
        have := y3c (e := fun w => if mayW n people did busy t w = true then [w] else []) (fun x => by split <;> simp) pre
        unfold SMALL at hp ⊢; omega
      rw [z2y, if_pos (by simp; omega), w5x busy _ _ hg hb]
      unfold zg7
      simp only [hg, zB, yr0 _ _ _ hp, yq9 _ _ _ hd, z02 (show ok64 ((pre.length : Int) + 1 + 1) by unfold SMALL at hp; constructor <;> omega), z02 hs]
      subst hx
      unfold mayW
      cases hasB people ((pre.length : Int) + 1) (atI n.tasks t).role <;> cases nowB busy (atI n.tasks t).apart ((pre.length : Int) + 1) <;> cases doneD did ((pre.length : Int) + 1) (atI n.tasks t).apart <;> simp)
  refine this.trans ?_
  rw [zv3]; rfl
theorem w4y (n : GNet) (people : List Int) (did : List GDid) (busy : List GItem) (t : Int) : (mayB n people did busy t).length ≤ people.length := by
  unfold mayB
  cases netB n && (pplB people && inB t 0 ((n.tasks.length : Int) - 1))
  · simp
  · show ((idxs people.length).filter _).length ≤ _
    have := List.length_filter_le (mayW n people did busy t) (idxs people.length)
    rw [y3f] at this; exact this
noncomputable def startOk (n : GNet) (people : List Int) (c : GCase) (t who : Int) : Bool :=
  casB n c && (decide (c.state = 1) && (enaB n c.marks c.busy t && ((mayB n people c.did c.busy t).any (fun x => decide (x = who)) && !decide ((c.busy.length : Int) = 6))))
def begun (n : GNet) (c : GCase) (t who : Int) : GCase := GCase.mk c.state (takeL (atI n.tasks t).join (atI n.tasks t).in_ c.marks) (c.busy ++ [GItem.mk t who 0]) c.data c.did
noncomputable def startB (n : GNet) (people : List Int) (c : GCase) (t who : Int) : GCase × Bool := bif startOk n people c t who then (begun n c t who, true) else (c, false)
theorem yf0 {n : GNet} {m : List Int} {busy : List GItem} {t : Int} (h : enaB n m busy t = true) : mrkB n m = true ∧ busyB n busy = true ∧ (0 ≤ t ∧ t < n.tasks.length) := by
  simp only [enaB, zA, z0a] at h
  exact ⟨h.1, h.2.1, by omega⟩
theorem yc6 (n : GNet) (people : List Int) (c : GCase) (t who : Int) (hn : n.small) (hp : people.length ≤ SMALL) (hc : c.small) : z5j n people c t who = some (startB n people c t who) := by
  unfold z5j startB startOk
  rw [ze9 c hc, zB, y1j n c hn hc, zB]
  by_cases h1 : casB n c = true
  case neg => rw [if_neg h1, zF.2 h1]; rfl
  rw [if_pos h1, h1]
  by_cases h2 : c.state = 1
  case neg => rw [if_neg (by simpa using h2), decide_eq_false h2]; rfl
  rw [if_pos (zT h2), zT h2, y5z n c.marks c.busy t hn hc.1 hc.2.1, zB]
  by_cases h3 : enaB n c.marks c.busy t = true
  case neg => rw [if_neg h3, zF.2 h3]; rfl
  rw [if_pos h3, h3, yr1 n people c.did c.busy t hn hp hc.2.2.2 hc.2.1, zB, y1l _ _ (Nat.le_trans (w4y ..) hp), zB]
  by_cases h4 : (mayB n people c.did c.busy t).any (fun x => decide (x = who)) = true
  case neg => rw [if_neg h4, zF.2 h4]; rfl
  rw [if_pos h4, h4]
  by_cases h5 : (c.busy.length : Int) = 6
  · rw [if_pos (zT h5), zT h5]; rfl
  obtain ⟨g1, g2, g3⟩ := yf0 h3
  have F := z9m h1
  rw [if_neg (by simpa using h5), decide_eq_false h5, ym2 n c.marks t hn hc.1, zB, z02 (by have := F.busyl; rw [zJ]; unfold SMALL; omega), g1, z0a.2 (show 0 ≤ t ∧ t ≤ (n.tasks.length : Int) - 1 by omega)]
  rfl
theorem ym8 (n : GNet) (people : List Int) (c : GCase) (t who : Int) : (startB n people c t who).1.marks.length = c.marks.length ∧ ((startB n people c t who).1.busy.length ≤ c.busy.length ∨ (startB n people c t who).1.busy.length ≤ 7) ∧
    (startB n people c t who).1.data.length = c.data.length ∧ (startB n people c t who).1.did.length = c.did.length := by
  unfold startB
  cases e : startOk n people c t who
  · exact ⟨rfl, .inl (Nat.le_refl _), rfl, rfl⟩
  · unfold startOk at e
    rw [zA] at e
    have F := z9m e.1
    have := F.busyl
    exact ⟨y0m _ _ _, .inr (by show (c.busy ++ [GItem.mk t who 0]).length ≤ 7; rw [zL, zJ]; omega), rfl, rfl⟩
end Go.Am.Pl
end
section
namespace Go.Am.Pl
open Go
def nats (N : Nat) : List Int := (List.range N).map (fun i : Nat => (i : Int))
theorem y9s (N : Nat) : (nats N).length = N := by simp [nats]
theorem w52 {N : Nat} {i : Nat} {x : Int} (h : getI (nats N) (i : Int) = some x) : x = (i : Int) := by
  rw [z34] at h
  simp only [nats, zI, Option.map_eq_some_iff] at h
  obtain ⟨j, hj, rfl⟩ := h
  rw [zG] at hj
  obtain ⟨h1, h2⟩ := hj
  rw [List.getElem_range] at h2
  omega
noncomputable def tasksB (n : GNet) (marks : List Int) (busy : List GItem) : List Int := (nats n.tasks.length).filter (enaB n marks busy)
theorem yc7 (n : GNet) (marks : List Int) (busy : List GItem) (hn : n.small) (hm : marks.length ≤ SMALL) (hb : busy.length ≤ SMALL) : z47 n marks busy = some (tasksB n marks busy) := by
  unfold z47 tasksB
  have := y46 (nats n.tasks.length) (by rw [y9s]; exact hn.1) (fun w => if enaB n marks busy w = true then [w] else []) (z1g n marks busy z5l) z5l
    (fun f s => by rw [z1g, y9s, if_neg (by simp)])
    (fun f pre x suf s a b c d e i => by
      have hx := w52 b
      rw [y9s] at d
      have hs : s.length + [(pre.length : Int)].length ≤ SMALL := by
        rw [i, zJ]
        have := y3c (e := fun w => if enaB n marks busy w = true then [w] else []) (fun x => by split <;> simp) pre
        have := hn.1; omega
      rw [z1g, if_pos (zT d)]
      simp only [y5z n marks busy _ hn hm hb, zB, z02 e, z02 hs]
      subst hx
      cases enaB n marks busy (pre.length : Int) <;> simp)
  rw [this, zv3]; rfl
def Bnd (c d : GCase) : Prop := d.marks.length ≤ c.marks.length ∧ (d.busy.length ≤ c.busy.length ∨ d.busy.length ≤ 7) ∧ d.data.length ≤ c.data.length ∧ (d.did.length ≤ c.did.length ∨ d.did.length ≤ 61)
theorem Bnd.refl (c : GCase) : Bnd c c := ⟨Nat.le_refl _, .inl (Nat.le_refl _), Nat.le_refl _, .inl (Nat.le_refl _)⟩
theorem Bnd.trans {a b c : GCase} (h1 : Bnd a b) (h2 : Bnd b c) : Bnd a c := by
  obtain ⟨p, q, r, s⟩ := h1
  obtain ⟨t, u, v, w⟩ := h2
  exact ⟨by omega, by omega, by omega, by omega⟩
theorem Bnd.small {c d : GCase} (h : Bnd c d) (hc : c.small) : d.small := by
  obtain ⟨p, q, r, s⟩ := h
  obtain ⟨t, u, v, w⟩ := hc
  unfold SMALL at *
  exact ⟨by unfold SMALL; omega, by unfold SMALL; omega, by unfold SMALL; omega, by unfold SMALL; omega⟩
theorem Bnd.lens {c d : GCase} (h : Bnd c d) (hc : GCase.lens (· ≤ 1048576) c) : GCase.lens (· ≤ 1048576) d := by
  obtain ⟨p, q, r, s⟩ := h
  obtain ⟨t, u, v, w⟩ := hc
  exact ⟨by show _ ≤ _; omega, by show _ ≤ _; omega, by show _ ≤ _; omega, by show _ ≤ _; omega⟩
theorem w3i (n : GNet) (c : GCase) (k v num : Int) : Bnd c (workB n c k v num).1 := by
  unfold workB
  cases e : casB n c && (decide (c.state = 1) && (inB k 0 ((c.busy.length : Int) - 1) && (inB v (-1) 2 && (inB num (-99) 99 && !decide ((c.did.length : Int) = 60)))))
  · exact Bnd.refl c
  · rw [zA] at e
    have F := z9m e.1
    have h60 := F.didl
    have hg := w1p n c.marks (atI c.busy k).task (datB c.data v num)
    have hd : (datB c.data v num).length ≤ c.data.length := by rw [yt8]; exact Nat.le_refl _
    show Bnd c (doneB n c k (datB c.data v num)).1
    unfold doneB
    split
    · exact ⟨Nat.le_refl _, .inl (by simp), hd, .inl (Nat.le_refl _)⟩
    · split
      · split
        · exact ⟨hg, .inl (Nat.zero_le _), hd, .inr (by simp; omega)⟩
        · exact ⟨hg, .inl (by simp; omega), hd, .inr (by simp; omega)⟩
      · exact Bnd.refl c
theorem w0c (n : GNet) (people : List Int) (c : GCase) (t who : Int) : Bnd c (startB n people c t who).1 := by
  obtain ⟨a, b, d, e⟩ := ym8 n people c t who
  exact ⟨by omega, b, by omega, .inl (by omega)⟩
end Go.Am.Pl
end
section
namespace Go.Am.Pl
open Go
def runB (nets : List GNet) (r : GRun) : Bool := inB r.net 0 ((nets.length : Int) - 1) && casB (atI nets r.net) r.case
def netsB (nets : List GNet) : Bool := inB nets.length 1 3 && nets.all netB
def houseB (h : GHouse) : Bool := netsB h.nets && (pplB h.people && (rdrB h.tree && (!decide (5 < (h.runs.length : Int)) && h.runs.all (runB h.nets))))
def netsSmall (nets : List GNet) : Prop := nets.length ≤ SMALL ∧ ∀ n ∈ nets, n.small
def houseSmall (h : GHouse) : Prop := netsSmall h.nets ∧ h.people.length ≤ SMALL ∧ treeSmall h.tree ∧ h.runs.length ≤ SMALL ∧ ∀ r ∈ h.runs, r.case.small
theorem yr6 (nets : List GNet) (h : netsSmall nets) : z7r nets = some (netsB nets) := by
  unfold z7r netsB
  have := scan0 nets (by have := h.1; unfold SMALL at this; omega) (z33 nets zh3) (fun _ suf => some (suf.all netB))
    (fun k => by rw [z33, if_neg (by simp)]; rfl)
    (fun k pre x suf hl hg hlt hok ih => by
      rw [z33, if_pos (zT hlt), hg, zB, zb5 x (h.2 x (by rw [hl]; simp)), zB, z02 hok, ih, iteB, List.all_cons])
  rw [this, z19, zB, iteB]
theorem yq6 {h : GHouse} (hl : GHouse.lens (· ≤ 1048576) h) : houseSmall h := by
  obtain ⟨⟨a, b⟩, c, ⟨d, e⟩, f, g⟩ := hl
  skip
  exact ⟨⟨by unfold SMALL; omega, fun n hn => w32 (b n hn)⟩, by unfold SMALL; omega, ⟨by unfold SMALL; omega, fun x hx => by have := e x hx; unfold GNode.lens at this; unfold SMALL; omega⟩, by unfold SMALL; omega, fun r hr => w04 (g r hr)⟩
end Go.Am.Pl
end
section
namespace Go.Am.Pl
open Go
theorem zk0 {α β : Type} (l : List α) (hl : l.length ≤ SMALL) (f : Nat → Int → List α → Option β) (kx : List α → Option β) (h0 : ∀ n s, f (n + 1) (l.length : Int) s = kx s)
    (h1 : ∀ n i x s, getI l i = some x → x ∈ l → i < (l.length : Int) → ok64 (i + 1) → (∀ y : α, s.length + [y].length ≤ SMALL) → f (n + 1) i s = f n (i + 1) (s ++ [x])) : f FUEL 0 [] = kx l := by
  have := y46 l hl (fun x => [x]) f kx h0 (fun n pre x suf s a b c d g i => h1 n _ x s b c d g (fun y => by
    have h2 := y3c (e := fun x : α => [x]) (fun _ => Nat.le_refl _) pre
    rw [a, zL, zC] at hl
    rw [i, zJ]; omega))
  rw [this]; simp
theorem zr8 {α : Type} {l : List α} (h : l.length ≤ SMALL) : ([] : List α).length + l.length ≤ SMALL := by simpa using h
theorem y26 (n : GNet) (h : n.small) : z3v n = some n := by
  unfold z3v
  refine zk0 n.tasks h.1 (z1v n (z51 n.places)) (z51 n.places) (fun m s => ?_) (fun m i x s hg hx hlt hok hs => ?_)
  · rw [z1v, if_neg (by simp)]
  · obtain ⟨a, b, c⟩ := h.2 x hx
    rw [z1v, if_pos (zT hlt), hg, zB, z02 (zr8 a), z02 (zr8 b), z02 (zr8 c), z02 (hs _), z02 hok]; rfl
theorem y0j (t : List GNode) (h : treeSmall t) : z61 t = some t := by
  unfold z61
  refine zk0 t h.1 (z30 t z70) z70 (fun m s => ?_) (fun m i x s hg hx hlt hok hs => ?_)
  · rw [z30, if_neg (by simp)]
  · rw [z30, if_pos (zT hlt), hg, zB, z02 (zr8 (h.2 x hx)), z02 (hs _), z02 hok]; rfl
theorem y7t (h : GHouse) (hs : houseSmall h) : z7p h = some h := by
  obtain ⟨h1, h2, h3, h4, h5⟩ := hs
  unfold z7p
  rw [z02 (zr8 h2), y0j _ h3, zB]
  refine (zk0 h.nets h1.1 (z31 h (z4w h h.tree (([] : List Int) ++ h.people))) (z4w h h.tree (([] : List Int) ++ h.people)) (fun m s => ?_) (fun m i x s hg hx hlt hok hs => ?_)).trans ?_
  · rw [z31, if_neg (by simp)]
  · rw [z31, if_pos (zT hlt), hg, zB, y26 x (h1.2 x hx), zB, z02 (hs _), z02 hok]
  · unfold z4w
    refine (zk0 h.runs h4 (z32 h (z71 h.tree (([] : List Int) ++ h.people) h.nets)) (z71 h.tree (([] : List Int) ++ h.people) h.nets) (fun m s => ?_) (fun m i x s hg hx hlt hok hs => ?_)).trans rfl
    · rw [z32, if_neg (by simp)]
    · rw [z32, if_pos (zT hlt), hg, zB, zB, ze9 _ (h5 x hx), zB, z02 (hs _), z02 hok]
def newB (nets : List GNet) (people : List Int) : GHouse := bif netsB nets && pplB people then GHouse.mk nets people [] [] else GHouse.mk [] [] [] []
theorem yq8 (nets : List GNet) (people : List Int) (h1 : netsSmall nets) (h2 : people.length ≤ SMALL) : z7e nets people = some (newB nets people) := by
  unfold z7e newB
  have := zk0 nets h1.1 (z2w nets (z6y (([] : List Int) ++ people))) (z6y (([] : List Int) ++ people))
    (fun m s => by rw [z2w, if_neg (by simp)])
    (fun m i x s hg hx hlt hok hs => by rw [z2w, if_pos (zT hlt), hg, zB, y26 x (h1.2 x hx), zB, z02 (hs _), z02 hok])
  rw [yr6 _ h1, y1k _ h2, zB, zB, z02 (zr8 h2), this]
  cases netsB nets <;> cases pplB people <;> rfl
theorem w5m : rdrB [] = true := by decide
end Go.Am.Pl
end
section
namespace Go.Am.Pl
open Go
def noCase : GCase := GCase.mk 0 [] [] [] []
def newC (n : GNet) (data : List Int) : GCase := bif netB n && datOk data then GCase.mk 1 ((List.replicate n.places.toNat (0 : Int)).set 0 1) [] data [] else noCase
theorem w46 {n : GNet} (h : netB n = true) : getI (List.replicate n.places.toNat (0 : Int)) 0 = some (atI (List.replicate n.places.toNat (0 : Int)) 0) := by
  have := z62 h
  exact z1p _ (by omega) (by simp; omega)
theorem y5y (n : GNet) (data : List Int) (hn : n.small) (hd : data.length ≤ SMALL) : z5h n data = some (newC n data) := by
  unfold z5h newC
  rw [zb5 n hn, zB]
  by_cases h1 : netB n = true
  case neg => rw [if_neg h1, zF.2 h1]; rfl
  rw [if_pos h1, h1, z3x _ hd, zB]
  by_cases h2 : datOk data = true
  case neg => rw [if_neg h2, zF.2 h2]; rfl
  have := z62 h1
  rw [if_pos h2, h2, z02 (by omega), z02 (by simpa using hd), w46 h1]; rfl
def nxt (tree : List GNode) (data : List Int) (a : Int) : Int := if expHolds (atI tree a).if_ data = true then (atI tree a).yes else (atI tree a).no
def wayL (tree : List GNode) (data : List Int) : Nat → Int → List Int
  | 0, _ => []
  | k + 1, a => if a = -1 then [] else a :: wayL tree data k (nxt tree data a)
def wayB (tree : List GNode) (data : List Int) : List Int := if tree.length = 0 then [] else wayL tree data 12 0
def holdI (tree : List GNode) (data : List Int) (a : Int) : Bool := expHolds (atI tree a).if_ data
def heldF (tree : List GNode) (data : List Int) (l : List Int) (h : Int) : Int := l.foldl (fun h a => if holdI tree data a = true then a else h) h
def lastF (l : List Int) (a : Int) : Int := l.foldl (fun _ x => x) a
def Vd (tree : List GNode) (a : Int) : Prop := a = -1 ∨ (0 ≤ a ∧ a < tree.length)
theorem yi9 (len : Int) : ∀ (l : List GNode) (i : Int) (j : Nat), nodesI len i l = true → j < l.length → nodeB len (i + j) (atI l j) = true
  | [], _, _, _, h => by simp at h
  | x :: l, i, 0, h, _ => by
    simp only [nodesI, zA] at h
    have : atI (x :: l) ((0 : Nat) : Int) = x := rfl
    rw [this]; simpa using h.1
  | x :: l, i, j + 1, h, hj => by
    simp only [nodesI, zA] at h
    have := yi9 len l (i + 1) j h.2 (by simpa using hj)
    have e : atI (x :: l) ((j + 1 : Nat) : Int) = atI l (j : Int) := by unfold atI; rw [z34, z34]; rfl
    rw [e, show i + ((j + 1 : Nat) : Int) = i + 1 + j by omega]; exact this
structure RdrFacts (tree : List GNode) : Prop where
  len : tree.length ≤ 12
  node : ∀ a : Int, 0 ≤ a → a < tree.length → nodeB tree.length a (atI tree a) = true
  ones : ∀ j : Nat, 0 < j → j < tree.length → cntL j tree = 1
theorem zb2 {tree : List GNode} (h : rdrB tree = true) : RdrFacts tree := by
  have h2 := y3j (fun j => cntL j tree) tree.length 0
  rw [← List.range_eq_range'] at h2
  simp only [rdrB, zA, zE] at h
  obtain ⟨a, b, c⟩ := h
  rw [show ((0 : Nat) : Int) = 0 from rfl] at h2
  have b := h2.1 b
  refine ⟨by omega, fun x h0 h1 => ?_, fun j h0 h1 => b j (by omega) (by omega) h0⟩
  have := yi9 tree.length tree 0 x.toNat a (by omega)
  rw [show (0 : Int) + (x.toNat : Int) = x by omega, show ((x.toNat : Nat) : Int) = x by omega] at this; exact this
theorem zr5 {len a : Int} {x : GNode} (h : nodeB len a x = true) : (x.yes = -1 ∨ (a + 1 ≤ x.yes ∧ x.yes ≤ len - 1)) ∧ (x.no = -1 ∨ (a + 1 ≤ x.no ∧ x.no ≤ len - 1)) := by
  simp only [nodeB, okN, zA, Bool.or_eq_true, zE, z0a] at h
  exact ⟨h.2.2.1, h.2.2.2⟩
theorem w29 {tree : List GNode} (F : RdrFacts tree) (data : List Int) {a : Int} (h0 : 0 ≤ a) (h1 : a < tree.length) : nxt tree data a = -1 ∨ (a < nxt tree data a ∧ nxt tree data a < tree.length) := by
  have := zr5 (F.node a h0 h1)
  unfold nxt; split <;> omega
theorem yx0 {tree : List GNode} (F : RdrFacts tree) (data : List Int) : ∀ (k : Nat) (a : Int), Vd tree a → ∀ p ∈ wayL tree data k a, 0 ≤ p ∧ p < tree.length
  | 0, _, _, p, hp => by simp [wayL] at hp
  | k + 1, a, ha, p, hp => by
    unfold wayL at hp
    split at hp
    · simp at hp
    · rename_i hne
      have hv : 0 ≤ a ∧ a < tree.length := ha.resolve_left hne
      rcases zM.1 hp with rfl | hp
      · exact hv
      · have := w29 F data hv.1 hv.2
        exact yx0 F data k _ (by unfold Vd; omega) p hp
theorem ym9 {tree : List GNode} (F : RdrFacts tree) (data : List Int) (hd : data.length ≤ SMALL) (k1 k2 : Int → Int → Option (Int × Int)) (e1 : ∀ a b, k1 a b = some (a, b)) (e2 : ∀ a b, k2 a b = some (a, b)) :
    ∀ (k : Nat) (f : Nat) (h b a : Int), k ≤ 12 → k < f → Vd tree a → z1m tree data k1 k2 f h b a (12 - k) = some (heldF tree data (wayL tree data k a) h, lastF (wayL tree data k a) b) := by
  intro k
  induction k with
  | zero =>
    intro f h b a hk hf ha
    obtain ⟨g, rfl⟩ : ∃ g, f = g + 1 := ⟨f - 1, by omega⟩
    rw [z1m, if_neg (by simp), e2]; rfl
  | succ k ih =>
    intro f h b a hk hf ha
    obtain ⟨g, rfl⟩ : ∃ g, f = g + 1 := ⟨f - 1, by omega⟩
    rw [z1m, if_pos (by rw [zE]; omega), wayL]
    by_cases hne : a = -1
    · rw [if_pos (zT hne), if_pos hne, e1]; rfl
    · have hv : 0 ≤ a ∧ a < tree.length := ha.resolve_left hne
      have hg := z1p tree hv.1 hv.2
      have hn := w29 F data hv.1 hv.2
      have hi : (12 : Int) - ((k + 1 : Nat) : Int) + 1 = 12 - k := by omega
      have ok : ok64 ((12 : Int) - k) := by constructor <;> omega
      rw [if_neg (by simpa using hne), if_neg hne, hg, zB, z3d _ _ hd, zB, zB, zB, hi, z02 ok, z02 ok]
      by_cases hh : expHolds (atI tree a).if_ data = true
      · have e : nxt tree data a = (atI tree a).yes := by unfold nxt; rw [if_pos hh]
        rw [e] at hn ⊢
        rw [if_pos hh, ih g a a _ (by omega) (by omega) (by unfold Vd; omega)]
        simp only [heldF, lastF, List.foldl_cons, holdI, hh, if_true]
      · have e : nxt tree data a = (atI tree a).no := by unfold nxt; rw [if_neg hh]
        rw [e] at hn ⊢
        rw [if_neg hh, ih g h a _ (by omega) (by omega) (by unfold Vd; omega)]
        simp [heldF, lastF, holdI, hh]
theorem y0l {tree : List GNode} (F : RdrFacts tree) (data : List Int) (hd : data.length ≤ SMALL) : z3t tree data = some (heldF tree data (wayB tree data) (-1), lastF (wayB tree data) (-1)) := by
  unfold z3t wayB
  have hF := z3p
  by_cases h : tree.length = 0
  · rw [if_pos (zT (by omega)), if_pos h]
    have := ym9 F data hd zg9 zh0 (fun _ _ => rfl) (fun _ _ => rfl) 12 FUEL (-1) (-1) (-1) (by omega) (by omega) (.inl rfl)
    exact this
  · rw [if_neg (by rw [zE]; omega), if_neg h]
    exact ym9 F data hd zh1 zh2 (fun _ _ => rfl) (fun _ _ => rfl) 12 FUEL (-1) (-1) 0 (by omega) (by omega) (.inr ⟨by omega, by omega⟩)
theorem yw9 {tree : List GNode} (F : RdrFacts tree) (data : List Int) : ∀ p ∈ wayB tree data, 0 ≤ p ∧ p < tree.length := by
  unfold wayB
  split
  · intro p hp; simp at hp
  · exact yx0 F data 12 0 (.inr ⟨by omega, by omega⟩)
theorem yh7 (tree : List GNode) (data : List Int) : ∀ (l : List Int) (h : Int), heldF tree data l h = h ∨ heldF tree data l h ∈ l
  | [], h => .inl rfl
  | a :: l, h => by
    have := yh7 tree data l (if holdI tree data a = true then a else h)
    have e : heldF tree data (a :: l) h = heldF tree data l (if holdI tree data a = true then a else h) := rfl
    rw [e]
    rcases this with h2 | h2
    · rw [h2]; split
      · exact .inr (by simp)
      · exact .inl rfl
    · exact .inr (by simp [h2])
theorem yi5 : ∀ (l : List Int) (a : Int), lastF l a = a ∨ lastF l a ∈ l
  | [], a => .inl rfl
  | x :: l, a => by
    have : lastF (x :: l) a = lastF l x := rfl
    rw [this]
    rcases yi5 l x with h | h
    · rw [h]; exact .inr (by simp)
    · exact .inr (by simp [h])
def heldB (tree : List GNode) (data : List Int) : Int := heldF tree data (wayB tree data) (-1)
def lastB (tree : List GNode) (data : List Int) : Int := lastF (wayB tree data) (-1)
theorem yu2 {tree : List GNode} (F : RdrFacts tree) (data : List Int) : Vd tree (heldB tree data) := by
  rcases yh7 tree data (wayB tree data) (-1) with h | h
  · exact .inl h
  · exact .inr (yw9 F data _ h)
def askB (tree : List GNode) (data : List Int) : Int := bif rdrB tree && datOk data then (if heldB tree data = -1 then 0 else (atI tree (heldB tree data)).ans) else 0
theorem yr3 (tree : List GNode) (data : List Int) (ht : treeSmall tree) (hd : data.length ≤ SMALL) : z7j tree data = some (askB tree data) := by
  unfold z7j askB
  rw [y8e tree ht, zB]
  by_cases h1 : rdrB tree = true
  case neg => rw [if_neg h1, zF.2 h1]; rfl
  rw [if_pos h1, h1, z3x _ hd, zB]
  by_cases h2 : datOk data = true
  case neg => rw [if_neg h2, zF.2 h2]; rfl
  have F := zb2 h1
  rw [if_pos h2, h2, y0l F data hd, zB]
  show (if decide (heldB tree data = -1) = true then _ else _) = _
  by_cases h3 : heldB tree data = -1
  · rw [if_pos (zT h3)]; simp [h3]
  · have hv := (yu2 F data).resolve_left h3
    rw [if_neg (by simpa using h3)]
    show ((getI tree (heldB tree data)).bind _) = _
    rw [z1p tree hv.1 hv.2]; simp [h3]
theorem y7y (tree : List GNode) (data : List Int) : 0 ≤ askB tree data ∧ askB tree data ≤ 2 := by
  unfold askB
  cases h : rdrB tree && datOk data
  · simp
  · rw [zA] at h
    have F := zb2 h.1
    show 0 ≤ (if heldB tree data = -1 then 0 else (atI tree (heldB tree data)).ans) ∧ (if heldB tree data = -1 then 0 else (atI tree (heldB tree data)).ans) ≤ 2
    split
    · omega
    · rename_i h3
      have hv := (yu2 F data).resolve_left h3
      have := F.node _ hv.1 hv.2
      simp only [nodeB, zA, z0a] at this
      exact this.2.1
theorem y3h {tree : List GNode} (F : RdrFacts tree) (data : List Int) (h : 0 < tree.length) : 0 ≤ lastB tree data ∧ lastB tree data < tree.length := by
  have e : wayB tree data = 0 :: wayL tree data 11 (nxt tree data 0) := by
    unfold wayB; rw [if_neg (by omega)]; rfl
  unfold lastB
  rw [e]
  have : lastF (0 :: wayL tree data 11 (nxt tree data 0)) (-1) = lastF (wayL tree data 11 (nxt tree data 0)) 0 := rfl
  rw [this]
  rcases yi5 (wayL tree data 11 (nxt tree data 0)) 0 with h2 | h2
  · rw [h2]; omega
  · exact yw9 F data _ (by rw [e]; simp [h2])
def sameB (tree : List GNode) (a b : List Int) : Bool := decide (lastB tree a = lastB tree b) && (holdI tree a (lastB tree a) == holdI tree b (lastB tree b))
theorem w36 {tree : List GNode} (F : RdrFacts tree) (a b : List Int) (ha : a.length ≤ SMALL) (hb : b.length ≤ SMALL) (h : 0 < tree.length) : z7n tree a b = some (sameB tree a b) := by
  have hv := y3h F a h
  unfold z7n sameB
  rw [y0l F a ha, zB, y0l F b hb, zB]
  show (if decide (lastB tree a = lastB tree b) = true then (if decide (lastB tree a = -1) = true then _ else ((getI tree (lastB tree a)).bind _)) else _) = _
  by_cases e : lastB tree a = lastB tree b
  · rw [if_pos (zT e), if_neg (by rw [zE]; omega), z1p tree hv.1 hv.2, zB, z3d _ _ ha, zB]
    show ((getI tree (lastB tree a)).bind _) = _
    rw [z1p tree hv.1 hv.2, zB, z3d _ _ hb, zB, zT e, Bool.true_and, ← e]; rfl
  · rw [if_neg (by simpa using e), decide_eq_false e]; rfl
def newN (e : GAsk) (ans : Int) (data : List Int) : GNode := GNode.mk e (-1) (-1) ans data
def putN (tree : List GNode) (data : List Int) : List GNode :=
  if tree.length = 0 then tree
  else if holdI tree data (lastB tree data) = true then tree.set (lastB tree data).toNat (GNode.mk (atI tree (lastB tree data)).if_ tree.length (atI tree (lastB tree data)).no (atI tree (lastB tree data)).ans (atI tree (lastB tree data)).stone)
  else tree.set (lastB tree data).toNat (GNode.mk (atI tree (lastB tree data)).if_ (atI tree (lastB tree data)).yes tree.length (atI tree (lastB tree data)).ans (atI tree (lastB tree data)).stone)
theorem w5l (tree : List GNode) (data : List Int) : (putN tree data).length = tree.length := by unfold putN; split; rfl; split <;> simp
def addOk (tree : List GNode) (data : List Int) (e : GAsk) (ans : Int) : Bool := rdrB tree && (datOk data && (expHolds e data && (inB ans 0 2 && !decide ((tree.length : Int) = 12))))
def takenB (tree : List GNode) (data : List Int) (e : GAsk) : Bool := tree.any (fun x => sameB tree x.stone data && expHolds e x.stone)
def addB (tree : List GNode) (data : List Int) (e : GAsk) (ans : Int) : List GNode × Bool :=
  bif addOk tree data e ans && !takenB tree data e then (putN tree data ++ [newN e ans data], true) else (tree, false)
theorem yr2 (tree : List GNode) (data : List Int) (e : GAsk) (ans : Int) (ht : treeSmall tree) (hd : data.length ≤ SMALL) : z7i tree data e ans = some (addB tree data e ans) := by
  unfold z7i addB addOk
  rw [y0j tree ht, zB, y8e tree ht, zB]
  by_cases h1 : rdrB tree = true
  case neg => rw [if_neg h1, zF.2 h1]; rfl
  have F := zb2 h1
  rw [if_pos h1, h1, z3x _ hd, zB]
  by_cases h2 : datOk data = true
  case neg => rw [if_neg h2, zF.2 h2]; rfl
  rw [if_pos h2, h2, z3d _ _ hd, zB]
  by_cases h3 : expHolds e data = true
  case neg => rw [if_neg h3, zF.2 h3]; rfl
  rw [if_pos h3, h3, z19, zB]
  by_cases h4 : inB ans 0 2 = true
  case neg => rw [if_neg h4, zF.2 h4]; rfl
  rw [if_pos h4, h4]
  by_cases h5 : (tree.length : Int) = 12
  · rw [if_pos (zT h5), zT h5]; rfl
  rw [if_neg (by simpa using h5), decide_eq_false h5]
  have hl := F.len
  have loop := scan0 tree (by omega) (z2d tree data e tree (z4s tree data e ans tree)) (fun _ suf => if suf.any (fun x => sameB tree x.stone data && expHolds e x.stone) = true then some (tree, false) else z4s tree data e ans tree)
    (fun f => by rw [z2d, if_neg (by simp)]; rfl)
    (fun f pre x suf a b c d ih => by
      have hx : x ∈ tree := by rw [a]; simp
      rw [z2d, if_pos (zT c), b, zB, w36 F x.stone data (ht.2 x hx) hd (by omega), zB, zB, z3d _ _ (ht.2 x hx), zB, z02 d, ih, List.any_cons]
      cases sameB tree x.stone data <;> cases expHolds e x.stone <;> simp)
  rw [loop]
  show (if takenB tree data e = true then _ else _) = _
  cases takenB tree data e
  case true => rfl
  rw [if_neg (by simp)]
  unfold z4s
  rw [y0l F data hd, zB]
  show (if decide (lastB tree data = -1) = true then _ else ((getI tree (lastB tree data)).bind _)) = some (putN tree data ++ [newN e ans data], true)
  have g1 : ([] : List Int).length + data.length ≤ SMALL := by simpa using hd
  have g2 : ∀ (l : List GNode) (y : GNode), l.length = tree.length → l.length + [y].length ≤ SMALL := fun l y h => by rw [zJ]; unfold SMALL; omega
  unfold putN newN
  by_cases h0 : tree.length = 0
  · have : lastB tree data = -1 := by unfold lastB wayB; rw [if_pos h0]; rfl
    rw [if_pos (zT this), z02 g1, z02 (g2 _ _ rfl), if_pos h0]; rfl
  · have hv := y3h F data (by omega)
    have hg := z1p tree hv.1 hv.2
    rw [if_neg (by rw [zE]; omega), if_neg h0, hg, zB, z3d _ _ hd, zB]
    show (if holdI tree data (lastB tree data) = true then ((getI tree (lastB tree data)).bind _) else ((getI tree (lastB tree data)).bind _)) = _
    rw [hg, zB, zB, z02 g1, z02 (g2 _ _ (by simp)), z02 g1, z02 (g2 _ _ (by simp))]
    split <;> rfl
end Go.Am.Pl
end
