/- Plain laws, chapter 2: nets. Own work. -/
import Derived.Test.YtcbpckbehdaloaaCsP1
set_option maxRecDepth 100000
set_option linter.unusedVariables false
set_option linter.unusedSimpArgs false
namespace Go.Am.Pl
open Go

/-- Ascending, above p, up to high. -/
def asc (high : Int) : Int → List Int → Bool
  | _, [] => true
  | p, x :: l => inB x (p + 1) high && asc high x l
def ascS (low high : Int) : Option Int → List Int → Bool
  | _, [] => true
  | p, x :: l => inB x low high && (p.all (fun y => decide (y < x)) && ascS low high (some x) l)
theorem ascS_asc (low high : Int) : ∀ (l : List Int) (p : Option Int), (∀ y, p = some y → low ≤ y) → ascS low high p l = asc high (p.getD (low - 1)) l
  | [], p, _ => rfl
  | x :: l, p, h => by
    simp only [ascS, asc]
    by_cases hx : low ≤ x
    · rw [ascS_asc low high l (some x) (fun y hy => by cases hy; exact hx), ← Bool.and_assoc]
      congr 1
      cases p with
      | none => simp [inB]
      | some y => have := h y rfl; rw [Bool.eq_iff_iff]; simp [inB]; omega
    · have h1 : inB x low high = false := by simp [inB]; omega
      have h2 : inB x (p.getD (low - 1) + 1) high = false := by
        cases p with
        | none => simp [inB]; omega
        | some y => have := h y rfl; simp [inB]; omega
      rw [h1, h2]; rfl
theorem asc_len (high : Int) : ∀ (l : List Int) (p : Int), p ≤ high → asc high p l = true → (l.length : Int) ≤ high - p
  | [], p, h, _ => by simp; omega
  | x :: l, p, h, ha => by
    simp only [asc, Bool.and_eq_true, inB, decide_eq_true_eq] at ha
    have := asc_len high l x ha.1.2 ha.2
    simp only [List.length_cons]; omega

theorem getI_last {α : Type} (pre : List α) (y : α) (suf : List α) : getI (pre ++ y :: suf) ((((pre ++ [y]).length : Nat) : Int) - 1) = some y := by
  have : ((((pre ++ [y]).length : Nat) : Int) - 1) = (pre.length : Int) := by simp
  rw [this]; exact getI_mid pre y suf

theorem spec_l2Rises (l : List Int) (least most low high : Int) (hl : l.length ≤ SMALL) : m_spec_l2Rises l least most low high = some (inB l.length least most && asc high (low - 1) l) := by
  unfold m_spec_l2Rises
  have := scan0 l (by unfold SMALL at hl; omega) (m_spec_l2Rises_l0 l low high m_spec_l2Rises_k1) (fun pre suf => some (ascS low high pre.getLast? suf))
    (fun n => by rw [m_spec_l2Rises_l0, if_neg (by simp)]; rfl)
    (fun n pre x suf hl hg hlt hok ih => by
      rw [m_spec_l2Rises_l0, if_pos (decide_eq_true hlt), hg]
      simp only [Option.bind_some, spec_in, gd_pos hok, ih]
      rw [ascS]
      by_cases hx : inB x low high = true
      · rw [if_pos hx, hx, Bool.true_and]
        rcases List.eq_nil_or_concat pre with rfl | ⟨pre', y, rfl⟩
        · simp
        · simp only [List.concat_eq_append] at hl hlt hg hok ih ⊢
          have h1 : (((pre' ++ [y]).length : Nat) : Int) = (pre'.length : Int) + 1 := by simp
          have h2 : getI l ((((pre' ++ [y]).length : Nat) : Int) - 1) = some y := by rw [hl, List.append_assoc]; exact getI_last pre' y _
          rw [if_pos (decide_eq_true (by omega)), gd_pos (by constructor <;> omega), h2]
          simp only [Option.bind_some]
          by_cases hy : x ≤ y
          · rw [if_pos (decide_eq_true hy)]; simp; omega
          · rw [if_neg (by simpa using hy)]; simp; omega
      · rw [if_neg hx, Bool.eq_false_iff.2 hx]; rfl)
  rw [this, spec_in, Option.bind_some, iteB, ascS_asc low high l _ (fun y hy => by simp at hy)]
  rfl
theorem spec_l2Has (l : List Int) (k : Int) (hl : l.length ≤ SMALL) : m_spec_l2Has l k = some (l.any (fun x => decide (x = k))) := by
  unfold m_spec_l2Has
  exact scan0 l (by unfold SMALL at hl; omega) (m_spec_l2Has_l0 l k m_spec_l2Has_k1) (fun _ suf => some (suf.any (fun x => decide (x = k))))
    (fun n => by rw [m_spec_l2Has_l0, if_neg (by simp)]; rfl)
    (fun n pre x suf hl hg hlt hok ih => by
      rw [m_spec_l2Has_l0, if_pos (decide_eq_true hlt), hg, Option.bind_some, gd_pos hok, ih, List.any_cons]
      by_cases hx : x = k <;> simp [hx])

def ascW (high : Int) (w : List Int) : Int → List Int → Bool
  | _, [] => true
  | p, x :: l => inB x (p + 1) high && (!w.any (fun y => decide (x = y)) && ascW high w x l)
theorem ascW_asc (high : Int) (w : List Int) : ∀ (l : List Int) (p : Int), ascW high w p l = (asc high p l && !l.any (fun x => w.any (fun y => decide (x = y))))
  | [], p => rfl
  | x :: l, p => by
    simp only [ascW, asc, List.any_cons, ascW_asc high w l x]
    cases inB x (p + 1) high <;> cases w.any (fun y => decide (x = y)) <;> cases asc high x l <;> cases l.any (fun x => w.any (fun y => decide (x = y))) <;> rfl

theorem impl_ascends (l : List Int) (places : Int) (w : List Int) (hl : l.length ≤ SMALL) (hw : w.length ≤ SMALL) (hp : 0 ≤ places ∧ places ≤ 100) :
    m_impl_ascends l places w = some (ascW (places - 1) w (-1) l) := by
  unfold m_impl_ascends
  have := scan l (by unfold SMALL at hl; omega) (fun n i s => m_impl_ascends_l0 l places w m_impl_ascends_k1 n i s) (fun _ suf s => some (ascW (places - 1) w s suf)) (fun _ s => -1 ≤ s ∧ s ≤ 100)
    (fun n s _ => by rw [m_impl_ascends_l0, if_neg (by simp)]; rfl)
    (fun n pre x suf s hl hg hlt hok hi ih => by
      rw [m_impl_ascends_l0, if_pos (decide_eq_true hlt), hg, Option.bind_some, gd_pos (by constructor <;> omega), gd_pos (by constructor <;> omega), impl_in, Option.bind_some, Contains_I w hw, Option.bind_some, gd_pos hok, ascW]
      by_cases hx : inB x (s + 1) (places - 1) = true
      · have hx' : s + 1 ≤ x ∧ x ≤ places - 1 := by simpa [inB] using hx
        rw [if_pos hx, hx, Bool.true_and, ih x ⟨by omega, by omega⟩, iteN]
      · rw [if_neg hx, Bool.eq_false_iff.2 hx]; rfl) FUEL (-1) ⟨by omega, by omega⟩ (by unfold FUEL; unfold SMALL at hl; omega)
  exact this

/-! ### Flows -/
theorem ok_len1 {α : Type} {l : List α} (h : l.length ≤ SMALL) : ok64 ((l.length : Int) - 1) := by unfold SMALL at h; constructor <;> omega
theorem ok_pl {places : Int} (hp : 0 ≤ places ∧ places ≤ 100) : ok64 (places - 1) := by constructor <;> omega
def flowsB (t : GTask) (places : Int) : List GFlow → List GFlow → Bool
  | _, [] => true
  | pre, x :: suf => inB x.to 1 (places - 1) && (expOk x.if_ && (((decide (t.split = 1) || suf.isEmpty) == decide (x.if_.op = 0)) && (!pre.any (fun y => decide (y.to = x.to)) && flowsB t places (pre ++ [x]) suf)))

theorem getI_left {α : Type} {l pre suf : List α} {k : Int} {x : α} (hl : l = pre ++ suf) (h : getI pre k = some x) : getI l k = some x := by
  obtain ⟨h0, h1, h2⟩ := getI_some h
  unfold getI; rw [if_pos h0, hl, List.getElem?_append_left h1]; exact h2

theorem spec_flows_in1 (t : GTask) (pre suf : List GFlow) (hl : t.out = pre ++ suf) (hs : t.out.length ≤ SMALL) (x : GFlow) (i : Int) (hi : i = pre.length) (kx : Option Bool) :
    m_spec_l2Flows_l1 t i x kx FUEL 0 = if (pre.any fun y => decide (y.to = x.to)) = true then some false else kx := by
  subst hi
  have hp : pre.length ≤ 4611686018427387000 := by have := congrArg List.length hl; simp at this; unfold SMALL at hs; omega
  exact scan0 pre hp (m_spec_l2Flows_l1 t pre.length x kx) (fun _ suf => if (suf.any fun y => decide (y.to = x.to)) = true then some false else kx)
    (fun n => by rw [m_spec_l2Flows_l1, if_neg (by simp)]; rfl)
    (fun n p y s hl' hg hlt hok ih => by
      rw [m_spec_l2Flows_l1, if_pos (decide_eq_true hlt), getI_left hl hg, Option.bind_some, gd_pos hok, ih, List.any_cons]
      by_cases hx : y.to = x.to <;> simp [hx])
theorem spec_flows_in2 (t : GTask) (pre suf : List GFlow) (hl : t.out = pre ++ suf) (hs : t.out.length ≤ SMALL) (x : GFlow) (i : Int) (hi : i = pre.length) (kx : Option Bool) :
    m_spec_l2Flows_l2 t i x kx FUEL 0 = if (pre.any fun y => decide (y.to = x.to)) = true then some false else kx := by
  subst hi
  have hp : pre.length ≤ 4611686018427387000 := by have := congrArg List.length hl; simp at this; unfold SMALL at hs; omega
  exact scan0 pre hp (m_spec_l2Flows_l2 t pre.length x kx) (fun _ suf => if (suf.any fun y => decide (y.to = x.to)) = true then some false else kx)
    (fun n => by rw [m_spec_l2Flows_l2, if_neg (by simp)]; rfl)
    (fun n p y s hl' hg hlt hok ih => by
      rw [m_spec_l2Flows_l2, if_pos (decide_eq_true hlt), getI_left hl hg, Option.bind_some, gd_pos hok, ih, List.any_cons]
      by_cases hx : y.to = x.to <;> simp [hx])

theorem isEmpty_last {α : Type} {l pre suf : List α} {x : α} (h : l = pre ++ x :: suf) : (decide ((pre.length : Int) = (l.length : Int) - 1)) = suf.isEmpty := by
  rw [h]
  cases suf with
  | nil => simp
  | cons y s => simp; omega

theorem spec_l2Flows (t : GTask) (places : Int) (hs : t.out.length ≤ SMALL) (hp : 0 ≤ places ∧ places ≤ 100) : m_spec_l2Flows t places = some (inB t.out.length 1 3 && flowsB t places [] t.out) := by
  unfold m_spec_l2Flows
  have := scan0 t.out (by unfold SMALL at hs; omega) (m_spec_l2Flows_l0 t places m_spec_l2Flows_k3) (fun pre suf => some (flowsB t places pre suf))
    (fun n => by rw [m_spec_l2Flows_l0, if_neg (by simp)]; rfl)
    (fun n pre x suf hl hg hlt hok ih => by
      rw [m_spec_l2Flows_l0, if_pos (decide_eq_true hlt), hg, Option.bind_some, gd_pos (ok_len1 hs), isEmpty_last hl, flowsB]
      simp only [gd_pos (ok_pl hp), spec_in, spec_ExpOk, Option.bind_some, spec_flows_in1 t pre _ hl hs x _ rfl, spec_flows_in2 t pre _ hl hs x _ rfl, m_spec_l2Flows_k1, m_spec_l2Flows_k2, gd_pos hok, ih]
      cases suf.isEmpty <;> cases inB x.to 1 (places - 1) <;> cases expOk x.if_ <;> cases decide (x.if_.op = 0) <;> cases decide (t.split = 1) <;> cases (pre.any fun y => decide (y.to = x.to)) <;> simp)
  rw [this, spec_in, Option.bind_some, iteB]

theorem impl_outOk (t : GTask) (places : Int) (hs : t.out.length ≤ SMALL) (hp : 0 ≤ places ∧ places ≤ 100) : m_impl_NetTask_outOk t places = some (flowsB t places [] t.out && inB t.out.length 1 3) := by
  unfold m_impl_NetTask_outOk
  have := scan t.out (by unfold SMALL at hs; omega) (fun n i s => m_impl_NetTask_outOk_l0 t places (m_impl_NetTask_outOk_k1 t) n i s) (fun pre suf _ => some (flowsB t places pre suf && inB t.out.length 1 3)) (fun pre s => ∀ k, k ∈ s ↔ k = 0 ∨ ∃ y ∈ pre, y.to = k)
    (fun n s _ => by rw [m_impl_NetTask_outOk_l0, if_neg (by simp), m_impl_NetTask_outOk_k1, impl_in]; rfl)
    (fun n pre x suf s hl hg hlt hok hi ih => by
      have ih' := ih (insKey s x.to) (by
        intro k
        simp only [List.mem_append, List.mem_singleton]
        unfold insKey
        split
        · rename_i hin
          rw [hi k]
          constructor
          · rintro (h | ⟨y, hy, h⟩)
            · exact .inl h
            · exact .inr ⟨y, .inl hy, h⟩
          · rintro (h | ⟨y, hy | hy, h⟩)
            · exact .inl h
            · exact .inr ⟨y, hy, h⟩
            · subst hy; rw [← h]; exact (hi _).1 hin
        · rw [List.mem_append, List.mem_singleton, hi k]
          constructor
          · rintro ((h | ⟨y, hy, h⟩) | h)
            · exact .inl h
            · exact .inr ⟨y, .inl hy, h⟩
            · exact .inr ⟨x, .inr rfl, h.symm⟩
          · rintro (h | ⟨y, hy | hy, h⟩)
            · exact .inl (.inl h)
            · exact .inl (.inr ⟨y, hy, h⟩)
            · subst hy; exact .inr h.symm)
      rw [m_impl_NetTask_outOk_l0, if_pos (decide_eq_true hlt), hg, Option.bind_some, isEmpty_last hl, flowsB]
      rw [gd_pos (ok_len1 hs)]
      simp only [gd_pos (ok_pl hp), impl_in, impl_ExpOk, Option.bind_some, gd_pos hok, ih']
      have hin : (decide (x.to ∈ s)) = (decide (x.to = 0) || pre.any fun y => decide (y.to = x.to)) := by
        rw [Bool.eq_iff_iff]; simp [hi x.to]
      rw [hin]
      have h01 : inB x.to 0 (places - 1) = (inB x.to 1 (places - 1) || (decide (x.to = 0) && decide (0 ≤ places - 1))) := by rw [Bool.eq_iff_iff]; simp [inB]; omega
      have h02 : x.to = 0 → inB x.to 1 (places - 1) = false := by intro h; simp [inB, h]
      rw [h01]
      by_cases hz : x.to = 0
      · rw [h02 hz]; simp [hz]
      · simp only [hz, decide_false, Bool.false_and, Bool.or_false, Bool.false_or]
        cases suf.isEmpty <;> cases inB x.to 1 (places - 1) <;> cases expOk x.if_ <;> cases decide (x.if_.op = 0) <;> by_cases hsp : t.split = 1 <;> cases (pre.any fun y => decide (y.to = x.to)) <;> simp [hsp]) FUEL (insKey [] 0) (by intro k; simp [insKey]) (by unfold FUEL; unfold SMALL at hs; omega)
  exact this

/-! ### Tasks, nets -/
def taskB (t : GTask) (places tasks : Int) : Bool :=
  inB t.join 1 3 && (inB t.split 1 3 && ((inB t.in_.length 1 3 && asc (places - 1) (-1) t.in_) && (!t.in_.any (fun x => decide (x = 1)) && ((inB t.out.length 1 3 && flowsB t places [] t.out) &&
    ((inB t.clear.length 0 places && asc (places - 1) 1 t.clear) && (inB t.role 1 3 && (inB t.apart (-1) (tasks - 1) && (inB t.all 1 3 && inB t.need 1 t.all))))))))
end Go.Am.Pl
namespace Go.Am
def GTask.small (t : GTask) : Prop := t.in_.length ≤ SMALL ∧ t.out.length ≤ SMALL ∧ t.clear.length ≤ SMALL
end Go.Am
namespace Go.Am.Pl
theorem spec_l2Task (t : GTask) (places tasks : Int) (hs : t.small) (hp : 0 ≤ places ∧ places ≤ 100) (ht : 0 ≤ tasks ∧ tasks ≤ SMALL) : m_spec_l2Task t places tasks = some (taskB t places tasks) := by
  obtain ⟨h1, h2, h3⟩ := hs
  unfold m_spec_l2Task taskB
  have ht' : ok64 (tasks - 1) := by unfold SMALL at ht; constructor <;> omega
  simp only [spec_in, Option.bind_some, gd_pos (ok_pl hp), gd_pos ht', spec_l2Rises _ _ _ _ _ h1, spec_l2Rises _ _ _ _ _ h3, spec_l2Has _ _ h1, spec_l2Flows t places h2 hp, iteB, iteN]
  rfl
theorem clear_eq (places : Int) (hp : 0 ≤ places) (l : List Int) : ascW (places - 1) [0, 1] (-1) l = (inB l.length 0 places && asc (places - 1) 1 l) := by
  rw [ascW_asc]
  have key : ∀ (l : List Int) (p : Int), 1 ≤ p → (asc (places - 1) p l && !l.any (fun x => [0, 1].any (fun y => decide (x = y)))) = asc (places - 1) p l := by
    intro l
    induction l with
    | nil => intro p _; rfl
    | cons x l ih =>
      intro p hp'
      by_cases hx : inB x (p + 1) (places - 1) = true
      · have hx' : p + 1 ≤ x := by simp [inB] at hx; omega
        have h01 : ([0, 1].any fun y => decide (x = y)) = false := by simp; omega
        simp only [asc, hx, Bool.true_and, List.any_cons (l := l), h01, Bool.false_or]
        exact ih x (by omega)
      · simp only [asc, Bool.eq_false_iff.2 hx, Bool.false_and]
  cases l with
  | nil => simp [asc, inB]; exact hp
  | cons x l =>
    by_cases hx : inB x 2 (places - 1) = true
    · have hx' : 2 ≤ x ∧ x ≤ places - 1 := by simpa [inB] using hx
      have h01 : ([0, 1].any fun y => decide (x = y)) = false := by simp; omega
      have h1 : inB x (-1 + 1) (places - 1) = true := by simp [inB]; omega
      have h2 : inB x (1 + 1) (places - 1) = true := by simp [inB]; omega
      simp only [asc, h1, h2, Bool.true_and, List.any_cons (l := l), h01, Bool.false_or, key l x (by omega)]
      cases ha : asc (places - 1) x l with
      | false => simp
      | true =>
        have := asc_len (places - 1) l x (by omega) ha
        simp [inB]; omega
    · have h2 : inB x (1 + 1) (places - 1) = false := Bool.eq_false_iff.2 hx
      simp only [asc, h2, Bool.false_and, Bool.and_false]
      by_cases h1 : inB x (-1 + 1) (places - 1) = true
      · have h01 : ([0, 1].any fun y => decide (x = y)) = true := by simp [inB] at hx h1 ⊢; omega
        simp only [List.any_cons (l := l), h01, Bool.true_or, Bool.not_true, Bool.and_false]
      · rw [Bool.eq_false_iff.2 h1]; rfl
theorem in_eq (places : Int) (l : List Int) : ascW (places - 1) [1] (-1) l = (asc (places - 1) (-1) l && !l.any (fun x => decide (x = 1))) := by
  rw [ascW_asc]; simp
theorem impl_ok (t : GTask) (places tasks : Int) (hs : t.small) (hp : 0 ≤ places ∧ places ≤ 100) (ht : 0 ≤ tasks ∧ tasks ≤ SMALL) : m_impl_NetTask_ok t places tasks = some (taskB t places tasks) := by
  obtain ⟨h1, h2, h3⟩ := hs
  unfold m_impl_NetTask_ok taskB
  have ht' : ok64 (tasks - 1) := by unfold SMALL at ht; constructor <;> omega
  simp only [m_impl_isKind, m_impl_isRole, impl_in, Option.bind_some, gd_pos ht', impl_ascends _ _ [1] h1 (by unfold SMALL; decide) hp, impl_ascends _ _ [0, 1] h3 (by unfold SMALL; decide) hp, impl_outOk t places h2 hp, iteB, in_eq, clear_eq places hp.1]
  congr 1
  generalize inB t.join 1 3 = a; generalize inB t.split 1 3 = b; generalize inB t.in_.length 1 3 = c; generalize asc (places - 1) (-1) t.in_ = d; generalize t.in_.any (fun x => decide (x = 1)) = e
  generalize flowsB t places [] t.out = f; generalize inB t.out.length 1 3 = g; generalize (inB t.clear.length 0 places && asc (places - 1) 1 t.clear) = h
  cases a <;> cases b <;> cases c <;> cases d <;> cases e <;> cases f <;> cases g <;> simp

def netB (n : GNet) : Bool := inB n.places 2 8 && (inB n.tasks.length 1 6 && n.tasks.all (fun t => taskB t n.places n.tasks.length))
end Go.Am.Pl
namespace Go.Am
def GNet.small (n : GNet) : Prop := n.tasks.length ≤ SMALL ∧ ∀ t ∈ n.tasks, t.small
end Go.Am
namespace Go.Am.Pl
theorem spec_NetOk (n : GNet) (hs : n.small) : m_spec_NetOk n = some (netB n) := by
  unfold m_spec_NetOk netB
  simp only [spec_in, Option.bind_some]
  by_cases hp : inB n.places 2 8 = true
  · have hp' : 0 ≤ n.places ∧ n.places ≤ 100 := by simp [inB] at hp; omega
    have := scan0 n.tasks (by have := hs.1; unfold SMALL at this; omega) (m_spec_NetOk_l0 n m_spec_NetOk_k1) (fun _ suf => some (suf.all (fun t => taskB t n.places n.tasks.length)))
      (fun k => by rw [m_spec_NetOk_l0, if_neg (by simp)]; rfl)
      (fun k pre x suf hl hg hlt hok ih => by
        rw [m_spec_NetOk_l0, if_pos (decide_eq_true hlt), hg, Option.bind_some, spec_l2Task x _ _ (hs.2 x (by rw [hl]; simp)) hp' ⟨by omega, by exact_mod_cast hs.1⟩, Option.bind_some, gd_pos hok, ih, iteB, List.all_cons])
    rw [this, if_pos hp, hp, iteB, Bool.true_and]
  · rw [if_neg hp, Bool.eq_false_iff.2 hp]; rfl
theorem impl_NetOk (n : GNet) (hs : n.small) : m_impl_NetOk n = some (netB n) := by
  unfold m_impl_NetOk netB m_impl_sizesOk
  simp only [impl_in, Option.bind_some, iteB]
  by_cases hp : inB n.places 2 8 = true
  · have hp' : 0 ≤ n.places ∧ n.places ≤ 100 := by simp [inB] at hp; omega
    rw [ContainsFunc_GTask n.tasks hs.1 _ (fun t => !taskB t n.places n.tasks.length) (fun t ht => by
      unfold m_impl_NetOk_1; rw [impl_ok t _ _ (hs.2 t ht) hp' ⟨by omega, by exact_mod_cast hs.1⟩]; rfl), Option.bind_some, all_not_any, iteB, hp]
    rfl
  · rw [Bool.eq_false_iff.2 hp]; rfl

end Go.Am.Pl
