/- Plain laws. Own work. -/
import Derived.Test.YtgolgnbgomhknaaCkP1
section
set_option maxRecDepth 100000
set_option maxHeartbeats 2000000
set_option linter.unusedVariables false
set_option linter.unusedSimpArgs false
namespace Go.Am.Pl
open Go
structure CaseT (m : Nat) (c : GCase) : Prop where
  marks : c.marks.length ≤ 10
  busy : c.busy.length ≤ 7
  data : c.data.length ≤ 4
  did : c.did.length ≤ m
theorem CaseT.small {c : GCase} {m : Nat} (h : CaseT m c) (hm : m ≤ 62) : c.small := by
  obtain ⟨a, b, d, e⟩ := h
  exact ⟨by unfold SMALL; omega, by unfold SMALL; omega, by unfold SMALL; omega, by unfold SMALL; omega⟩
theorem CaseT.bnd {c d : GCase} {m : Nat} (h : CaseT m c) (hm : 61 ≤ m) (b : Bnd c d) : CaseT m d := by
  obtain ⟨p, q, r, s⟩ := b
  obtain ⟨t, u, v, w⟩ := h
  exact ⟨by omega, by omega, by omega, by omega⟩
theorem z12y {n : GNet} {data : List Int} (hd : data.length ≤ 4) : CaseT 61 (newC n data) := by
  unfold newC
  cases e : netB n && datOk data
  · exact ⟨Nat.zero_le _, Nat.zero_le _, Nat.zero_le _, Nat.zero_le _⟩
  · rw [Bool.and_eq_true] at e
    have h1 := z079 e.1
    exact ⟨by show ((List.replicate n.places.toNat (0 : Int)).set 0 1).length ≤ 10; simp; omega, Nat.zero_le _, hd, Nat.zero_le _⟩
theorem z10y {K : Int} {r : GRd} {n : GNet} {p : List Int} {c : GCase} (h : Rd K r) (hK : K ≤ 900000000) (hn : n.small) (hp : p.length ≤ SMALL) (hc : c.small) : Tot (z061 r n p c) (fun v => Bnd c v.1 ∧ Rd (K + 6) v.2) := by
  unfold z061
  repeat' first
    | (refine Tot.bind2 (z018 (by assumption) (by omega)) ?_; intro a b h; dsimp only at h; obtain ⟨⟨_, _⟩, _⟩ := h; try dsimp only)
    | (refine Tot.bind2 (z018 (by assumption) (by omega)) ?_; intro a b h; dsimp only at h; obtain ⟨⟨_, _⟩, _⟩ := h; try dsimp only)
    | (refine Tot.gd (by first | omega | (constructor <;> omega) | (simp only [List.length_append, List.length_cons, List.length_nil, List.length_set, List.length_drop, SMALL]; omega)) ?_)
    | (refine Tot.getI (by omega) (by first | omega | (simp only [List.length_cons, List.length_nil, List.length_set, List.length_append]; omega)) ?_; intro x hx hg)
    | (refine Tot.iteD (fun _ => ?_) (fun _ => ?_))
    | refine Tot.bindE (z0re n c _ _ _ hn hc) ?_
    | (refine Tot.bindE (z0pe n c.marks c.busy hn hc.1 hc.2.1) ?_; generalize tasksB n c.marks c.busy = ts)
    | (refine Tot.bindE (z0kl n p c.did c.busy _ hn hp hc.2.2.2 hc.2.1) ?_; generalize mayB n p c.did c.busy _ = ms)
    | refine Tot.bindE (z0pd n p c _ _ hn hp hc) ?_
    | exact Tot.pure ⟨z0xp n c _ _ _, Rd.mono (by assumption) (by omega)⟩
    | exact Tot.pure ⟨z0w4 n p c _ _, Rd.mono (by assumption) (by omega)⟩
    | exact Tot.pure ⟨Bnd.refl c, Rd.mono (by assumption) (by omega)⟩
abbrev CaseQ (K : Int) (v : GNet × List Int × GCase × GRd) : Prop := NetT v.1 ∧ v.2.1.length ≤ 5 ∧ CaseT 62 v.2.2.1 ∧ Rd K v.2.2.2
theorem z0wl {K : Int} {n : Int} {x : GNet} {p : List Int} (hK : K ≤ 400000000) (hX : NetT x) (hp : p.length ≤ 5) {b : List Int} {q : Int} {k : Int} {c : GCase} (h : Rd K (GRd.mk b q)) (hc : CaseT 61 c) (k0 : 0 ≤ k) (k1 : k ≤ 16) :
    Tot (z01d p x (z02u n p x) FUEL b q c.state k c.marks c.busy c.data c.did) (CaseQ (K + 500)) := by
  have hps : p.length ≤ SMALL := by unfold SMALL; omega
  have key := Tot.loopF (Q := CaseQ (K + 500)) (fun s : List Int × Int × Int × GCase => Rd (K + 6 * (16 - s.2.2.1)) (GRd.mk s.1 s.2.1) ∧ 0 ≤ s.2.2.1 ∧ s.2.2.1 ≤ 16 ∧ CaseT 61 s.2.2.2) (fun s => s.2.2.1.toNat)
    (fun f s => z01d p x (z02u n p x) f s.1 s.2.1 s.2.2.2.state s.2.2.1 s.2.2.2.marks s.2.2.2.busy s.2.2.2.data s.2.2.2.did) (fun f s hi ih => ?_) (b, q, k, c) (by dsimp only; omega) ⟨by dsimp only; exact h.mono (by omega), k0, k1, hc⟩
  · exact key
  obtain ⟨b0, q0, i, d⟩ := s
  obtain ⟨h1, h2, h3, h4⟩ := hi
  dsimp only at h1 h2 h3 h4 ⊢
  have ih' : ∀ b q (d : GCase), Rd (K + 6 * (16 - (i - 1))) (GRd.mk b q) → 1 ≤ i → CaseT 61 d → Tot (z01d p x (z02u n p x) f b q d.state (i - 1) d.marks d.busy d.data d.did) (CaseQ (K + 500)) :=
    fun b q d g1 g2 g3 => ih (b, q, i - 1, d) ⟨g1, by dsimp only; omega, by dsimp only; omega, g3⟩ (by dsimp only; omega)
  rw [z01d]
  refine Tot.iteD (fun c => ?_) (fun c => ?_)
  · refine Tot.bind2 (z10y h1 (by omega) hX.small hps (h4.small (by omega))) ?_
    intro d2 r2 hh
    dsimp only at hh
    obtain ⟨hb, hr⟩ := hh
    dsimp only
    exact Tot.gd (by constructor <;> omega) (ih' _ _ d2 (Rd.mono hr (by omega)) (by omega) (h4.bnd (by omega) hb))
  · have h5 : i = 0 := by omega
    subst h5
    obtain ⟨t1, t2, t3, t4⟩ := h4
    unfold z02u
    repeat' first
      | (refine Tot.bind2 (z0u3 (by assumption) (by omega)) ?_; intro a b h; dsimp only at h; obtain ⟨_, _⟩ := h; try dsimp only)
      | (refine Tot.bind2 (z0x3 (by assumption) (by omega) hX.pl) ?_; intro a b h; dsimp only at h; obtain ⟨_, _⟩ := h; try dsimp only)
      | (refine Tot.bind2 (z0zp (by assumption) (by omega) hX.one) ?_; intro a b h; dsimp only at h; obtain ⟨_, _⟩ := h; try dsimp only)
      | (refine Tot.bind2 (z0ul (by assumption) (by omega)) ?_; intro a b h; dsimp only at h; obtain ⟨_, _⟩ := h; try dsimp only)
      | (refine Tot.bind2 (z0pa (by assumption) (by omega)) ?_; intro a b h; dsimp only at h; obtain ⟨_, _⟩ := h; try dsimp only)
      | (refine Tot.bind2 (z018 (by assumption) (by omega)) ?_; intro a b h; dsimp only at h; obtain ⟨⟨_, _⟩, _⟩ := h; try dsimp only)
      | (refine Tot.gd (by first | omega | (constructor <;> omega) | (simp only [List.length_append, List.length_cons, List.length_nil, List.length_set, List.length_drop, SMALL]; omega)) ?_)
      | (refine Tot.getI (by omega) (by first | omega | (simp only [List.length_cons, List.length_nil, List.length_set, List.length_append]; omega)) ?_; intro x hx hg)
      | (refine Tot.iteD (fun _ => ?_) (fun _ => ?_))
      | exact Tot.pure ⟨hX, hp, ⟨by first | (dsimp only; omega) | (dsimp only; simp only [List.length_append, List.length_cons, List.length_nil, List.length_set, List.length_drop]; omega), by dsimp only; omega, by dsimp only; omega, by first | (dsimp only; omega) | (dsimp only; simp only [List.length_append, List.length_cons, List.length_nil, List.length_set, List.length_drop]; omega)⟩, Rd.mono (by assumption) (by omega)⟩
      | exact Tot.pure ⟨by assumption, hp, ⟨by dsimp only; omega, by dsimp only; omega, by dsimp only; omega, by dsimp only; omega⟩, Rd.mono (by assumption) (by omega)⟩
      | exact Tot.pure ⟨hX, by assumption, ⟨by dsimp only; omega, by dsimp only; omega, by dsimp only; omega, by dsimp only; omega⟩, Rd.mono (by assumption) (by omega)⟩
theorem z0zr {K : Int} {r : GRd} {n : Int} (h : Rd K r) (hK : K ≤ 300000000) : Tot (z060 r n) (CaseQ (K + 1000)) := by
  unfold z060
  refine Tot.bind2 (z0yy h (by omega)) ?_
  intro x r1 hh; dsimp only at hh; obtain ⟨hx, h1⟩ := hh; dsimp only
  refine Tot.bind2 (z0pa h1 (by omega)) ?_
  intro p r2 hh; dsimp only at hh; obtain ⟨hp, h2⟩ := hh; dsimp only
  refine Tot.bind2 (z0ul h2 (by omega)) ?_
  intro dt r3 hh; dsimp only at hh; obtain ⟨hd, h3⟩ := hh; dsimp only
  have hT := z122 hx
  refine Tot.bindE (z0ti x dt hT.small (by unfold SMALL; omega)) ?_
  refine Tot.bind2 (z018 h3 (by omega)) ?_
  intro a r4 hh; dsimp only at hh; obtain ⟨⟨a0, a1⟩, h4⟩ := hh; dsimp only
  refine Tot.bind2 (z018 h4 (by omega)) ?_
  intro a2 r5 hh; dsimp only at hh; obtain ⟨⟨a3, a4⟩, h5⟩ := hh; dsimp only
  refine Tot.getI (by omega) (by simp only [List.length_cons, List.length_nil]; omega) ?_
  intro k hk _
  have hk : 0 ≤ k ∧ k ≤ 16 := by
    simp only [List.mem_cons, List.not_mem_nil, or_false] at hk
    omega
  exact (z0wl (n := n) (by omega) hT hp (Rd.eta h5) (z12y hd) hk.1 hk.2).mono fun v hv => ⟨hv.1, hv.2.1, hv.2.2.1, Rd.mono hv.2.2.2 (by omega)⟩
theorem z10j (code : List Int) (hc : ∀ y ∈ code, 0 ≤ y ∧ y ≤ 255) : Tot (z05z code) (fun r => Rd 0 r) := by
  unfold z05z
  refine Tot.iteD (fun c => Tot.gd ⟨by omega, by omega⟩ (Tot.pure ⟨fun y hy => hc y (List.mem_of_mem_take hy), by show (code.take _).length ≤ 2000; rw [List.length_take]; omega, Int.le_refl _, Int.le_refl _⟩)) (fun c => Tot.pure ⟨hc, by show code.length ≤ 2000; omega, Int.le_refl _, Int.le_refl _⟩)
theorem drawCasOk (code : List Int) (hc : ∀ y ∈ code, 0 ≤ y ∧ y ≤ 255) : Tot (z048 code) (fun v => NetT v.1 ∧ CaseT 62 v.2) := by
  unfold z048
  refine Tot.bind (z10j code hc) fun r h => ?_
  refine Tot.bind (z0zr h (by omega)) fun v hv => ?_
  exact Tot.pure ⟨hv.1, hv.2.2.1⟩
end Go.Am.Pl
end
section
set_option maxRecDepth 100000
set_option linter.unusedVariables false
set_option linter.unusedSimpArgs false
namespace Go.Am.Pl
open Go
theorem z0uq {α : Type} [DecidableEq α] (a b : List α) (hs : a.length ≤ SMALL) (hl : a.length = b.length) (f : Nat → Int → Option Bool) (kx : Option Bool) (h0 : ∀ n, f (n + 1) (a.length : Int) = kx)
    (h1 : ∀ n i x y, x ∈ a → y ∈ b → getI a i = some x → getI b i = some y → i < (a.length : Int) → ok64 (i + 1) → f (n + 1) i = if x = y then f n (i + 1) else some false) : f FUEL 0 = if a = b then kx else some false := by
  have := scan0 a (by unfold SMALL at hs; omega) f (fun pre suf => if suf = b.drop pre.length then kx else some false) (fun n => by rw [h0, hl, List.drop_length]; simp)
    (fun n pre x suf e g c d ih => by
      have hlt : pre.length < b.length := by rw [← hl]; omega
      have hb : getI b (pre.length : Int) = some b[pre.length] := by rw [z085, List.getElem?_eq_getElem hlt]
      rw [h1 n _ x b[pre.length] (by rw [e]; simp) (List.getElem_mem hlt) g hb c d, ih, List.drop_eq_getElem_cons hlt]
      have hl1 : (pre ++ [x]).length = pre.length + 1 := by simp
      rw [hl1]
      by_cases h : x = b[pre.length]
      · rw [if_pos h]
        by_cases h2 : suf = b.drop (pre.length + 1)
        · rw [if_pos h2, if_pos (by rw [h2, ← h])]
        · rw [if_neg h2, if_neg (fun h3 => h2 (List.cons.inj h3).2)]
      · rw [if_neg h, if_neg (fun h3 => h (List.cons.inj h3).1)])
  rw [this]; rfl
theorem z0zy {α : Type} [DecidableEq α] {a b : List α} {X : Option Bool} (h : a.length = b.length → X = some (decide (a = b))) : (if decide ((a.length : Int) = (b.length : Int)) = true then X else some false) = some (decide (a = b)) := by
  by_cases hl : a.length = b.length
  · rw [if_pos (decide_eq_true (by omega)), h hl]
  · rw [if_neg (by rw [decide_eq_true_eq]; omega), decide_eq_false (fun e => hl (by rw [e]))]
theorem z0uv {p : Prop} [Decidable p] : (if p then some true else some false) = some (decide p) := by by_cases h : p <;> simp [h]
theorem z0ys (a b : List Int) (hs : a.length ≤ SMALL) : z059 a b = some (decide (a = b)) := by
  unfold z059
  refine z0zy fun hl => ?_
  rw [z0uq a b hs hl (z02j a b z0at) (some true) (fun n => by rw [z02j, if_neg (by simp)]; rfl) (fun n i x y _ _ hx hy hi ho => by
    rw [z02j, if_pos (decide_eq_true hi), hx, Option.bind_some, hy, Option.bind_some, z008 ho]; simp only [decide_eq_true_eq]), z0uv]
theorem z11t (a b : List GItem) (hs : a.length ≤ SMALL) : z070 a b = some (decide (a = b)) := by
  unfold z070
  refine z0zy fun hl => ?_
  rw [z0uq a b hs hl (z02i a b z0as) (some true) (fun n => by rw [z02i, if_neg (by simp)]; rfl) (fun n i x y _ _ hx hy hi ho => by
    rw [z02i, if_pos (decide_eq_true hi), hx, Option.bind_some, hy, Option.bind_some, z008 ho]
    have e : ([x.task, x.who, x.did] = [y.task, y.who, y.did]) ↔ x = y := by cases x; cases y; simp
    simp only [decide_eq_true_eq, e]), z0uv]
theorem z12v (a b : List GDid) (hs : a.length ≤ SMALL) : z08k a b = some (decide (a = b)) := by
  unfold z08k
  refine z0zy fun hl => ?_
  rw [z0uq a b hs hl (z02w a b z0cd) (some true) (fun n => by rw [z02w, if_neg (by simp)]; rfl) (fun n i x y _ _ hx hy hi ho => by
    rw [z02w, if_pos (decide_eq_true hi), hx, Option.bind_some, hy, Option.bind_some, z008 ho]
    have e : ([x.task, x.who] = [y.task, y.who]) ↔ x = y := by cases x; cases y; simp
    simp only [decide_eq_true_eq, e]), z0uv]
theorem iteS {p : Prop} [Decidable p] {q : Prop} [Decidable q] : (if decide p = true then some (decide q) else some false) = some (decide (p ∧ q)) := by by_cases h : p <;> simp [h]
theorem z11u (a b : GCase) (hs : a.small) : z071 a b = some (decide (a = b)) := by
  obtain ⟨h1, h2, h3, h4⟩ := hs
  unfold z071
  simp only [z0ys _ _ h1, z11t _ _ h2, z0ys _ _ h3, z12v _ _ h4, Option.bind_some, iteS]
  congr 1
  refine decide_eq_decide.2 ?_
  cases a; cases b; simp
theorem gu_Ok : z0bn = some true := by
  unfold z0bn
  rw [z0ht _ (by simp [SMALL])]; rfl
end Go.Am.Pl
end
