/- Plain laws. Own work. -/
import Derived.Test.YtgolgnbgomhknaaCwP1
set_option maxRecDepth 100000
set_option maxHeartbeats 2000000
set_option linter.unusedVariables false
set_option linter.unusedSimpArgs false
section
namespace Go.Am.Pl
open Go
structure CaseT (m : Nat) (c : GCase) : Prop where
  marks : c.marks.length ≤ 10
  busy : c.busy.length ≤ 7
  data : c.data.length ≤ 4
  did : c.did.length ≤ m
theorem CaseT.small {c : GCase} {m : Nat} (h : CaseT m c) (hm : m ≤ 62) : c.small := by
  obtain ⟨a, b, d, e⟩ := h
  exact ⟨by unfold SMALL; omega, by unfold SMALL; omega, by unfold SMALL; omega, by unfold SMALL; omega⟩
theorem CaseT.bnd {c d : GCase} {m : Nat} (h : CaseT m c) (hm : 61 ≤ m) (b : Bnd c d) : CaseT m d := by
  obtain ⟨p, q, r, s⟩ := b
  obtain ⟨t, u, v, w⟩ := h
  exact ⟨by omega, by omega, by omega, by omega⟩
theorem w7a {n : GNet} {data : List Int} (hd : data.length ≤ 4) : CaseT 61 (newC n data) := by
  unfold newC
  cases e : netB n && datOk data
  · exact ⟨Nat.zero_le _, Nat.zero_le _, Nat.zero_le _, Nat.zero_le _⟩
  · rw [zA] at e
    have h1 := z6e e.1
    exact ⟨by show ((List.replicate n.places.toNat (0 : Int)).set 0 1).length ≤ 10; simp; omega, Nat.zero_le _, hd, Nat.zero_le _⟩
theorem w57 {K : Int} {r : GRd} {n : GNet} {p : List Int} {c : GCase} (h : Rd K r) (hK : K ≤ 900000000) (hn : n.small) (hp : p.length ≤ SMALL) (hc : c.small) : Tot (z73 r n p c) (fun v => Bnd c v.1 ∧ Rd (K + 6) v.2) := by
  unfold z73
  repeat' first
    | (refine Tot.bind2 (z0k (by assumption) (by omega)) ?_; intro a b h; dsimp only at h; obtain ⟨⟨_, _⟩, _⟩ := h; try dsimp only)
    | (refine Tot.bind2 (z0k (by assumption) (by omega)) ?_; intro a b h; dsimp only at h; obtain ⟨⟨_, _⟩, _⟩ := h; try dsimp only)
    | (refine Tot.gd (by first | omega | (constructor <;> omega) | (simp only [zL, zC, zN, zS, List.length_drop, SMALL]; omega)) ?_)
    | (refine Tot.getI (by omega) (by first | omega | (simp only [zC, zN, zS, zL]; omega)) ?_; intro x hx hg)
    | (refine Tot.iteD (fun _ => ?_) (fun _ => ?_))
    | refine Tot.bindE (zq1 n c _ _ _ hn hc) ?_
    | (refine Tot.bindE (y11 n c.marks c.busy hn hc.1 hc.2.1) ?_; generalize tasksB n c.marks c.busy = ts)
    | (refine Tot.bindE (zz0 n p c.did c.busy _ hn hp hc.2.2.2 hc.2.1) ?_; generalize mayB n p c.did c.busy _ = ms)
    | refine Tot.bindE (y10 n p c _ _ hn hp hc) ?_
    | exact Tot.pure ⟨y6n n c _ _ _, Rd.mono (by assumption) (by omega)⟩
    | exact Tot.pure ⟨y9b n p c _ _, Rd.mono (by assumption) (by omega)⟩
    | exact Tot.pure ⟨Bnd.refl c, Rd.mono (by assumption) (by omega)⟩
theorem w2w {K : Int} {r : GRd} {n : GNet} {p : List Int} {c : GCase} (h : Rd K r) (hK : K ≤ 900000000) (hn : n.small) (hp : p.length ≤ SMALL) (hc : c.small) : Tot (z66 r n p c) (fun v => Bnd c v.1 ∧ Rd (K + 6) v.2) := by
  unfold z66
  repeat' first
    | (refine Tot.bind2 (z0k (by assumption) (by omega)) ?_; intro a b h; dsimp only at h; obtain ⟨⟨_, _⟩, _⟩ := h; try dsimp only)
    | (refine Tot.bind2 (z0k (by assumption) (by omega)) ?_; intro a b h; dsimp only at h; obtain ⟨⟨_, _⟩, _⟩ := h; try dsimp only)
    | (refine Tot.gd (by first | omega | (constructor <;> omega) | (simp only [zL, zC, zN, zS, List.length_drop, SMALL]; omega)) ?_)
    | (refine Tot.getI (by omega) (by first | omega | (simp only [zC, zN, zS, zL]; omega)) ?_; intro x hx hg)
    | (refine Tot.iteD (fun _ => ?_) (fun _ => ?_))
    | refine Tot.bindE (zq1 n c _ _ _ hn hc) ?_
    | (refine Tot.bindE (y11 n c.marks c.busy hn hc.1 hc.2.1) ?_; generalize tasksB n c.marks c.busy = ts)
    | (refine Tot.bindE (zz0 n p c.did c.busy _ hn hp hc.2.2.2 hc.2.1) ?_; generalize mayB n p c.did c.busy _ = ms)
    | refine Tot.bindE (y10 n p c _ _ hn hp hc) ?_
    | exact Tot.pure ⟨y6n n c _ _ _, Rd.mono (by assumption) (by omega)⟩
    | exact Tot.pure ⟨y9b n p c _ _, Rd.mono (by assumption) (by omega)⟩
    | exact Tot.pure ⟨Bnd.refl c, Rd.mono (by assumption) (by omega)⟩
abbrev CaseQ (K : Int) (v : GNet × List Int × GCase × GRd) : Prop := NetT v.1 ∧ v.2.1.length ≤ 5 ∧ CaseT 62 v.2.2.1 ∧ Rd K v.2.2.2
theorem w0z {K : Int} {n : Int} {x : GNet} {p : List Int} (hK : K ≤ 400000000) (hX : NetT x) (hp : p.length ≤ 5) {b : List Int} {q : Int} {k : Int} {c : GCase} (h : Rd K (GRd.mk b q)) (hc : CaseT 61 c) (k0 : 0 ≤ k) (k1 : k ≤ 16) :
    Tot (z1p p x (z3s n p x) FUEL b q c.state k c.marks c.busy c.data c.did) (CaseQ (K + 500)) := by
  have hps : p.length ≤ SMALL := by unfold SMALL; omega
  have key := Tot.loopF (Q := CaseQ (K + 500)) (fun s : List Int × Int × Int × GCase => Rd (K + 6 * (16 - s.2.2.1)) (GRd.mk s.1 s.2.1) ∧ 0 ≤ s.2.2.1 ∧ s.2.2.1 ≤ 16 ∧ CaseT 61 s.2.2.2) (fun s => s.2.2.1.toNat)
    (fun f s => z1p p x (z3s n p x) f s.1 s.2.1 s.2.2.2.state s.2.2.1 s.2.2.2.marks s.2.2.2.busy s.2.2.2.data s.2.2.2.did) (fun f s hi ih => ?_) (b, q, k, c) (by dsimp only; omega) ⟨by dsimp only; exact h.mono (by omega), k0, k1, hc⟩
  · exact key
  obtain ⟨b0, q0, i, d⟩ := s
  obtain ⟨h1, h2, h3, h4⟩ := hi
  dsimp only at h1 h2 h3 h4 ⊢
  have ih' : ∀ b q (d : GCase), Rd (K + 6 * (16 - (i - 1))) (GRd.mk b q) → 1 ≤ i → CaseT 61 d → Tot (z1p p x (z3s n p x) f b q d.state (i - 1) d.marks d.busy d.data d.did) (CaseQ (K + 500)) :=
    fun b q d g1 g2 g3 => ih (b, q, i - 1, d) ⟨g1, by dsimp only; omega, by dsimp only; omega, g3⟩ (by dsimp only; omega)
  rw [z1p]
  refine Tot.iteD (fun c => ?_) (fun c => ?_)
  · refine Tot.bind2 (w57 h1 (by omega) hX.small hps (h4.small (by omega))) ?_
    intro d2 r2 hh
    dsimp only at hh
    obtain ⟨hb, hr⟩ := hh
    dsimp only
    exact Tot.gd (by constructor <;> omega) (ih' _ _ d2 (Rd.mono hr (by omega)) (by omega) (h4.bnd (by omega) hb))
  · have h5 : i = 0 := by omega
    subst h5
    obtain ⟨t1, t2, t3, t4⟩ := h4
    unfold z3s
    repeat' first
      | (refine Tot.bind2 (yy8 (by assumption) (by omega)) ?_; intro a b h; dsimp only at h; obtain ⟨_, _⟩ := h; try dsimp only)
      | (refine Tot.bind2 (w23 (by assumption) (by omega) hX.pl) ?_; intro a b h; dsimp only at h; obtain ⟨_, _⟩ := h; try dsimp only)
      | (refine Tot.bind2 (w40 (by assumption) (by omega) hX.one) ?_; intro a b h; dsimp only at h; obtain ⟨_, _⟩ := h; try dsimp only)
      | (refine Tot.bind2 (yv7 (by assumption) (by omega)) ?_; intro a b h; dsimp only at h; obtain ⟨_, _⟩ := h; try dsimp only)
      | (refine Tot.bind2 (y97 (by assumption) (by omega)) ?_; intro a b h; dsimp only at h; obtain ⟨_, _⟩ := h; try dsimp only)
      | (refine Tot.bind2 (z0k (by assumption) (by omega)) ?_; intro a b h; dsimp only at h; obtain ⟨⟨_, _⟩, _⟩ := h; try dsimp only)
      | (refine Tot.gd (by first | omega | (constructor <;> omega) | (simp only [zL, zC, zN, zS, List.length_drop, SMALL]; omega)) ?_)
      | (refine Tot.getI (by omega) (by first | omega | (simp only [zC, zN, zS, zL]; omega)) ?_; intro x hx hg)
      | (refine Tot.iteD (fun _ => ?_) (fun _ => ?_))
      | exact Tot.pure ⟨hX, hp, ⟨by first | (dsimp only; omega) | (dsimp only; simp only [zL, zC, zN, zS, List.length_drop]; omega), by dsimp only; omega, by dsimp only; omega, by first | (dsimp only; omega) | (dsimp only; simp only [zL, zC, zN, zS, List.length_drop]; omega)⟩, Rd.mono (by assumption) (by omega)⟩
      | exact Tot.pure ⟨by assumption, hp, ⟨by dsimp only; omega, by dsimp only; omega, by dsimp only; omega, by dsimp only; omega⟩, Rd.mono (by assumption) (by omega)⟩
      | exact Tot.pure ⟨hX, by assumption, ⟨by dsimp only; omega, by dsimp only; omega, by dsimp only; omega, by dsimp only; omega⟩, Rd.mono (by assumption) (by omega)⟩
theorem w42 {K : Int} {r : GRd} {n : Int} (h : Rd K r) (hK : K ≤ 300000000) : Tot (z72 r n) (CaseQ (K + 1000)) := by
  unfold z72
  refine Tot.bind2 (w24 h (by omega)) ?_
  intro x r1 hh; dsimp only at hh; obtain ⟨hx, h1⟩ := hh; dsimp only
  refine Tot.bind2 (y97 h1 (by omega)) ?_
  intro p r2 hh; dsimp only at hh; obtain ⟨hp, h2⟩ := hh; dsimp only
  refine Tot.bind2 (yv7 h2 (by omega)) ?_
  intro dt r3 hh; dsimp only at hh; obtain ⟨hd, h3⟩ := hh; dsimp only
  have hT := w5l hx
  refine Tot.bindE (yt3 x dt hT.small (by unfold SMALL; omega)) ?_
  refine Tot.bind2 (z0k h3 (by omega)) ?_
  intro a r4 hh; dsimp only at hh; obtain ⟨⟨a0, a1⟩, h4⟩ := hh; dsimp only
  refine Tot.bind2 (z0k h4 (by omega)) ?_
  intro a2 r5 hh; dsimp only at hh; obtain ⟨⟨a3, a4⟩, h5⟩ := hh; dsimp only
  refine Tot.getI (by omega) (by simp only [zC, zN]; omega) ?_
  intro k hk _
  have hk : 0 ≤ k ∧ k ≤ 16 := by
    simp only [zM, List.not_mem_nil, or_false] at hk
    omega
  exact (w0z (n := n) (by omega) hT hp (Rd.eta h5) (w7a hd) hk.1 hk.2).mono fun v hv => ⟨hv.1, hv.2.1, hv.2.2.1, Rd.mono hv.2.2.2 (by omega)⟩
theorem w4t (code : List Int) (hc : ∀ y ∈ code, 0 ≤ y ∧ y ≤ 255) : Tot (z71 code) (fun r => Rd 0 r) := by
  unfold z71
  refine Tot.iteD (fun c => Tot.gd ⟨by omega, by omega⟩ (Tot.pure ⟨fun y hy => hc y (List.mem_of_mem_take hy), by show (code.take _).length ≤ 2000; rw [List.length_take]; omega, Int.le_refl _, Int.le_refl _⟩)) (fun c => Tot.pure ⟨hc, by show code.length ≤ 2000; omega, Int.le_refl _, Int.le_refl _⟩)
end Go.Am.Pl
end
section
namespace Go.Am.Pl
open Go
theorem y6p {K : Int} {x : GNet} {d : GCase} {b0 : List Int} {q0 : Int} (h2 : Rd K (GRd.mk b0 q0)) (hK : K ≤ 900000000) (hX : NetT x) (h5 : CaseT 62 d) : Tot (z27 x b0 q0 d) (fun v => NetT v.1 ∧ CaseT 62 v.2.1) := by
  have h6 := h5.busy
  unfold z27
  refine Tot.gd (by constructor <;> omega) (Tot.bind2 (z0k h2 (by omega)) ?_)
  intro a r1 hh; dsimp only at hh; obtain ⟨⟨a0, a1⟩, g1⟩ := hh; dsimp only
  refine Tot.bind2 (z0k g1 (by omega)) ?_
  intro a2 r2 hh; dsimp only at hh; obtain ⟨⟨a3, a4⟩, g2⟩ := hh; dsimp only
  have hd : Int.tdiv a2 8 = a2 / 8 := Int.tdiv_eq_ediv_of_nonneg a3
  rw [hd]
  refine Tot.gd ⟨by omega, by constructor <;> omega⟩ (Tot.gd (by constructor <;> omega) (Tot.bind2 (z0k g2 (by omega)) ?_))
  intro a5 r3 hh; dsimp only at hh; obtain ⟨⟨a6, a7⟩, g3⟩ := hh; dsimp only
  refine Tot.gd (by constructor <;> omega) (Tot.bind2 (z0k g3 (by omega)) ?_)
  intro a8 r4 hh; dsimp only at hh; obtain ⟨⟨a9, a10⟩, g4⟩ := hh; dsimp only
  refine Tot.getI (by omega) (by simp only [zC, zN]; omega) ?_
  intro y hy _
  exact Tot.pure ⟨hX, h5⟩
theorem drawCasWork (code : List Int) (hc : ∀ y ∈ code, 0 ≤ y ∧ y ≤ 255) : Tot (z47 code) (fun v => NetT v.1 ∧ CaseT 62 v.2.1) := by
  unfold z47
  refine Tot.bind (w4t code hc) fun r h => ?_
  refine Tot.bind (w42 h (by omega)) ?_
  rintro ⟨x, p, c, r1⟩ ⟨hX, hp, hc, h1⟩
  dsimp only at hX hp hc h1 ⊢
  have hps : p.length ≤ SMALL := by unfold SMALL; omega
  have key := Tot.loopF (Q := fun v : GNet × GCase × Int × Int × Int => NetT v.1 ∧ CaseT 62 v.2.1) (fun s : List Int × Int × Int × GCase => Rd (1000 + 6 * s.2.2.1) (GRd.mk s.1 s.2.1) ∧ 0 ≤ s.2.2.1 ∧ s.2.2.1 ≤ 3 ∧ CaseT 62 s.2.2.2) (fun s => (3 - s.2.2.1).toNat)
    (fun f s => z1b p x (z27 x) (z4j x) (z4k x) f s.1 s.2.1 s.2.2.1 s.2.2.2) (fun f s hi ih => ?_) (r1.b, r1.p, 0, c) (by dsimp only; omega) ⟨by dsimp only; exact (Rd.eta h1).mono (by omega), by dsimp only; omega, by dsimp only; omega, hc⟩
  · exact key
  obtain ⟨b0, q0, i, d⟩ := s
  obtain ⟨h2, h3, h4, h5⟩ := hi
  dsimp only at h2 h3 h4 h5 ⊢
  have ih' : ∀ b q (d : GCase), Rd (1000 + 6 * (i + 1)) (GRd.mk b q) → i + 1 ≤ 3 → CaseT 62 d → Tot (z1b p x (z27 x) (z4j x) (z4k x) f b q (i + 1) d) (fun v => NetT v.1 ∧ CaseT 62 v.2.1) :=
    fun b q d g1 g2 g3 => ih (b, q, i + 1, d) ⟨g1, by dsimp only; omega, g2, g3⟩ (by dsimp only; omega)
  have h6 := h5.busy
  rw [z1b]
  refine Tot.iteD (fun c3 => Tot.iteD (fun c2 => ?_) (fun c2 => ?_)) (fun c3 => ?_)
  · refine Tot.bindE (y1y x d hX.small (h5.small (by omega))) (Tot.ite (fun c1 => ?_) (fun c1 => ?_))
    · refine Tot.bind2 (w2w h2 (by omega) hX.small hps (h5.small (by omega))) ?_
      intro d2 r2 hh
      dsimp only at hh
      obtain ⟨hb, hr⟩ := hh
      dsimp only
      exact Tot.gd (by constructor <;> omega) (ih' _ _ d2 (Rd.mono hr (by omega)) (by omega) (h5.bnd (by omega) hb))
    · exact y6p h2 (by omega) hX h5
  · exact y6p h2 (by omega) hX h5
  · exact y6p h2 (by omega) hX h5
end Go.Am.Pl
end
section
namespace Go.Am.Pl
open Go
theorem yq9 {α : Type} [DecidableEq α] (a b : List α) (hs : a.length ≤ SMALL) (hl : a.length = b.length) (f : Nat → Int → Option Bool) (kx : Option Bool) (h0 : ∀ n, f (n + 1) (a.length : Int) = kx)
    (h1 : ∀ n i x y, x ∈ a → y ∈ b → getI a i = some x → getI b i = some y → i < (a.length : Int) → ok64 (i + 1) → f (n + 1) i = if x = y then f n (i + 1) else some false) : f FUEL 0 = if a = b then kx else some false := by
  have := scan0 a (by unfold SMALL at hs; omega) f (fun pre suf => if suf = b.drop pre.length then kx else some false) (fun n => by rw [h0, hl, List.drop_length]; simp)
    (fun n pre x suf e g c d ih => by
      have hlt : pre.length < b.length := by rw [← hl]; omega
      have hb : getI b (pre.length : Int) = some b[pre.length] := by rw [z5n, List.getElem?_eq_getElem hlt]
      rw [h1 n _ x b[pre.length] (by rw [e]; simp) (List.getElem_mem hlt) g hb c d, ih, List.drop_eq_getElem_cons hlt]
      have hl1 : (pre ++ [x]).length = pre.length + 1 := by simp
      rw [hl1]
      by_cases h : x = b[pre.length]
      · rw [if_pos h]
        by_cases h2 : suf = b.drop (pre.length + 1)
        · rw [if_pos h2, if_pos (by rw [h2, ← h])]
        · rw [if_neg h2, if_neg (fun h3 => h2 (List.cons.inj h3).2)]
      · rw [if_neg h, if_neg (fun h3 => h (List.cons.inj h3).1)])
  rw [this]; rfl
theorem w1u {α : Type} [DecidableEq α] {a b : List α} {X : Option Bool} (h : a.length = b.length → X = some (decide (a = b))) : (if decide ((a.length : Int) = (b.length : Int)) = true then X else some false) = some (decide (a = b)) := by
  by_cases hl : a.length = b.length
  · rw [if_pos (zT (by omega)), h hl]
  · rw [if_neg (by rw [zE]; omega), decide_eq_false (fun e => hl (by rw [e]))]
theorem yr2 {p : Prop} [Decidable p] : (if p then some true else some false) = some (decide p) := by by_cases h : p <;> simp [h]
theorem y1k (a b : List Int) (hs : a.length ≤ SMALL) : z38 a b = some (decide (a = b)) := by
  unfold z38
  refine w1u fun hl => ?_
  rw [yq9 a b hs hl (z31 a b zj0) (some true) (fun n => by rw [z31, if_neg (by simp)]; rfl) (fun n i x y _ _ hx hy hi ho => by
    rw [z31, if_pos (zT hi), hx, zB, hy, zB, z02 ho]; simp only [zE]), yr2]
theorem w6c (a b : List GItem) (hs : a.length ≤ SMALL) : z85 a b = some (decide (a = b)) := by
  unfold z85
  refine w1u fun hl => ?_
  rw [yq9 a b hs hl (z30 a b zi9) (some true) (fun n => by rw [z30, if_neg (by simp)]; rfl) (fun n i x y _ _ hx hy hi ho => by
    rw [z30, if_pos (zT hi), hx, zB, hy, zB, z02 ho]
    have e : ([x.task, x.who, x.did] = [y.task, y.who, y.did]) ↔ x = y := by cases x; cases y; simp
    simp only [zE, e]), yr2]
theorem w5j (a b : List GDid) (hs : a.length ≤ SMALL) : z79 a b = some (decide (a = b)) := by
  unfold z79
  refine w1u fun hl => ?_
  rw [yq9 a b hs hl (z3m a b zo7) (some true) (fun n => by rw [z3m, if_neg (by simp)]; rfl) (fun n i x y _ _ hx hy hi ho => by
    rw [z3m, if_pos (zT hi), hx, zB, hy, zB, z02 ho]
    have e : ([x.task, x.who] = [y.task, y.who]) ↔ x = y := by cases x; cases y; simp
    simp only [zE, e]), yr2]
theorem iteS {p : Prop} [Decidable p] {q : Prop} [Decidable q] : (if decide p = true then some (decide q) else some false) = some (decide (p ∧ q)) := by by_cases h : p <;> simp [h]
theorem w1t (a b : GCase) (hs : a.small) : z5v a b = some (decide (a = b)) := by
  obtain ⟨h1, h2, h3, h4⟩ := hs
  unfold z5v
  simp only [y1k _ _ h1, w6c _ _ h2, y1k _ _ h3, w5j _ _ h4, zB, iteS]
  congr 1
  refine decide_eq_decide.2 ?_
  cases a; cases b; simp
theorem gu_Ok : zg7 = some true := by
  unfold zg7
  rw [zb9 _ (by simp [SMALL])]; rfl
end Go.Am.Pl
end
section
namespace Go.Am.Pl
open Go
end Go.Am.Pl
end
section
namespace Go.Am.Pl
open Go
structure HInv (h : GHouse) : Prop where
  lens : GHouse.lens (· ≤ 1048576) h
  one : 1 ≤ h.nets.length
  net : ∀ r ∈ h.runs, 0 ≤ r.net ∧ r.net < h.nets.length
  many : h.runs.length ≤ 5
theorem HInv.small {h : GHouse} (H : HInv h) : houseSmall h := yt2 H.lens
end Go.Am.Pl
end
section
namespace Go.Am.Pl
open Go
structure LogOk' (log : List GReq) : Prop where
  len : log.length ≤ 150
  case : ∀ r ∈ log, 0 ≤ r.case
end Go.Am.Pl
end
section
namespace Go.Am.Pl
open Go
theorem w5w {α : Type} [Inhabited α] (l : List α) {v j : Int} (w : α) (hv : 0 ≤ v) (hj : 0 ≤ j) (hl : j < l.length) : atI (l.set v.toNat w) j = if v = j then w else atI l j := by
  unfold atI; rw [y47 l w hv hj hl]; split <;> rfl
theorem y42 {n : GNet} {c : GCase} : casB n c = true ↔ mrkB n c.marks = true ∧ busyB n c.busy = true ∧ datOk c.data = true ∧ (c.did.length : Int) ≤ 60 ∧ (1 ≤ c.state ∧ c.state ≤ 3) ∧ c.did.all (didB n) = true ∧ stateB c = true := by
  simp only [casB, zA, z0m, Bool.not_eq_true', decide_eq_false_iff_not, Int.not_lt]
theorem w6j {n : GNet} {m : List Int} (h1 : netB n = true) (h2 : (m.length : Int) = n.places) (h3 : okM m = true) : mrkB n m = true := by
  unfold mrkB marksB
  rw [h1, zT h2]; exact h3
structure StartF (n : GNet) (people : List Int) (c : GCase) (t who : Int) : Prop where
  cas : casB n c = true
  run : c.state = 1
  ena : enaB n c.marks c.busy t = true
  may : who ∈ mayB n people c.did c.busy t
  room : c.busy.length ≠ 6
structure WorkF (n : GNet) (c : GCase) (k v num : Int) : Prop where
  cas : casB n c = true
  run : c.state = 1
  k0 : 0 ≤ k
  k1 : k < c.busy.length
  v : -1 ≤ v ∧ v ≤ 2
  num : -99 ≤ num ∧ num ≤ 99
  room : c.did.length ≠ 60
theorem yp3 {n : GNet} {c : GCase} {k v num : Int} : (casB n c && (decide (c.state = 1) && (inB k 0 ((c.busy.length : Int) - 1) && (inB v (-1) 2 && (inB num (-99) 99 && !decide ((c.did.length : Int) = 60)))))) = true ↔ WorkF n c k v num := by
  simp only [zA, zE, z0m, Bool.not_eq_true', decide_eq_false_iff_not]
  constructor
  · rintro ⟨a, b, c, d, e, f⟩; exact ⟨a, b, c.1, by omega, d, e, by omega⟩
  · rintro ⟨a, b, c, d, e, f, g⟩; exact ⟨a, b, by omega, e, f, by omega⟩
theorem y6o {n : GNet} {c : GCase} {k v num : Int} (W : WorkF n c k v num) : workB n c k v num = doneB n c k (datB c.data v num) := by
  unfold workB; rw [yp3.2 W]; rfl
theorem yf7 {n : GNet} {c : GCase} {k v num : Int} (W : ¬ WorkF n c k v num) : workB n c k v num = (c, false) := by
  unfold workB; rw [zF.2 (fun h => W (yp3.1 h))]; rfl
theorem w64 {data : List Int} {v num : Int} (h : datOk data = true) (hn : -99 ≤ num ∧ num ≤ 99) : datOk (datB data v num) = true := by
  unfold datB
  split
  · simp only [datOk, zA, zE, zV, z0m] at h ⊢
    refine ⟨by rw [zS]; exact h.1, fun x hx => ?_⟩
    rcases List.mem_or_eq_of_mem_set hx with hx | rfl
    · exact h.2 x hx
    · exact hn
  · exact h
structure GiveF (n : GNet) (m : List Int) (t : Int) (data : List Int) : Prop where
  mrk : mrkB n m = true
  t0 : 0 ≤ t
  t1 : t < n.tasks.length
  dat : datOk data = true
  ok : okM (giveL n m (atI n.tasks t) data) = true
theorem yk3 {n : GNet} {m : List Int} {t : Int} {data : List Int} : (giveB n m t data).2 = true ↔ GiveF n m t data := by
  unfold giveB
  cases e : mrkB n m && (inB t 0 ((n.tasks.length : Int) - 1) && (datOk data && okM (giveL n m (atI n.tasks t) data)))
  · constructor
    · intro h; cases h
    · rintro ⟨a, b, c, d, f⟩
      rw [a, z0m.2 ⟨b, by omega⟩, d, f] at e; cases e
  · simp only [zA, z0m] at e
    exact ⟨fun _ => ⟨e.1, e.2.1.1, by omega, e.2.2.1, e.2.2.2⟩, fun _ => rfl⟩
theorem y0b {n : GNet} {m : List Int} {t : Int} {data : List Int} (G : GiveF n m t data) : giveB n m t data = (giveL n m (atI n.tasks t) data, true) := by
  unfold giveB; rw [G.mrk, z0m.2 (show 0 ≤ t ∧ t ≤ (n.tasks.length : Int) - 1 from ⟨G.t0, by have := G.t1; omega⟩), G.dat, G.ok]; rfl
theorem y0c (n : GNet) (m : List Int) (t : GTask) (data : List Int) : (giveL n m t data).length = m.length := by unfold giveL; rw [y49, zs0]
theorem y5c {n : GNet} {m : List Int} {t : Int} {data : List Int} (G : GiveF n m t data) : mrkB n (giveL n m (atI n.tasks t) data) = true := by
  obtain ⟨f1, f2, f3⟩ := z5k G.mrk
  exact w6j f1 (by rw [y0c]; exact f2) G.ok
theorem w1z {n : GNet} {busy : List GItem} (h : busyB n busy = true) {k : Int} (h0 : 0 ≤ k) (h1 : k < busy.length) : itemB n (atI busy k) = true := by
  simp only [busyB, zA, zV] at h
  exact h.2 _ (z4a busy h0 h1)
theorem y4q {n : GNet} {busy busy' : List GItem} (h : busyB n busy = true) (hl : busy'.length ≤ busy.length) (hm : ∀ b ∈ busy', itemB n b = true) : busyB n busy' = true := by
  simp only [busyB, zA, zE, zV] at h ⊢
  exact ⟨by omega, hm⟩
theorem w59 {n : GNet} {c : GCase} {k v num : Int} (h : casB n c = true) : casB n (workB n c k v num).1 = true := by
  by_cases W : WorkF n c k v num
  case neg => rw [yf7 W]; exact h
  rw [y6o W]
  obtain ⟨a1, a2, a3, a4, a5, a6, a7⟩ := y42.1 h
  have hd := w64 (v := v) a3 W.num
  have hit := w1z a2 W.k0 W.k1
  have hit2 := hit
  simp only [itemB, zA, z0m] at hit2
  have hst : atI c.marks 1 = 0 := by
    unfold stateB at a7; rw [W.run] at a7; simpa using a7
  have hb : ∀ b ∈ c.busy, itemB n b = true := by
    simp only [busyB, zA, zV] at a2; exact a2.2
  unfold doneB
  split
  · rename_i hlt
    refine y42.2 ⟨a1, ?_, hd, a4, a5, a6, ?_⟩
    · refine y4q a2 (by show (c.busy.set _ _).length ≤ _; simp) fun b hb' => ?_
      rcases List.mem_or_eq_of_mem_set hb' with hb' | rfl
      · exact hb b hb'
      · simp only [itD, itemB, zA, z0m]; omega
    · unfold stateB
      show (bif decide (c.state = 1) then decide (atI c.marks 1 = 0) else _) = true
      rw [W.run, hst]; rfl
  · split
    · rename_i hg
      have G := yk3.1 hg
      rw [y0b G]
      have hdl : ((c.did ++ [GDid.mk (atI c.busy k).task (atI c.busy k).who]).length : Int) ≤ 60 := by
        have := W.room; rw [zL, List.length_singleton]; omega
      have hda : (c.did ++ [GDid.mk (atI c.busy k).task (atI c.busy k).who]).all (didB n) = true := by
        rw [List.all_append, a6, Bool.true_and]
        simp only [List.all_cons, List.all_nil, Bool.and_true, didB, zA, z0m]; omega
      have hm := y5c G
      split
      · rename_i hpos
        refine y42.2 ⟨hm, ?_, hd, hdl, by show (1 : Int) ≤ 2 ∧ (2 : Int) ≤ 3; omega, hda, ?_⟩
        · exact y4q a2 (Nat.zero_le _) fun b hb' => by simp at hb'
        · unfold stateB
          show (bif decide ((2 : Int) = 1) then _ else decide ((([] : List GItem).length : Int) = 0) && (decide ((2 : Int) = 2) == decide (0 < atI _ 1))) = true
          rw [zT hpos]; rfl
      · rename_i hpos
        have h1 := zh1.1 G.ok
        have hml := (z5k a1).2.1
        have hsz := z6e (z5k a1).1
        have hat := y1c h1 (p := 1) (by omega) (by rw [y0c]; omega)
        refine y42.2 ⟨hm, ?_, hd, hdl, a5, hda, ?_⟩
        · refine y4q a2 (by show (c.busy.take _ ++ c.busy.drop _).length ≤ _; rw [zL, List.length_take, List.length_drop]; have := W.k1; have := W.k0; omega) fun b hb' => ?_
          rcases zP.1 hb' with h | h
          · exact hb b (List.mem_of_mem_take h)
          · exact hb b (List.mem_of_mem_drop h)
        · unfold stateB
          show (bif decide (c.state = 1) then decide (atI (giveL n c.marks (atI n.tasks (atI c.busy k).task) (datB c.data v num)) 1 = 0) else _) = true
          rw [W.run, zT (show atI (giveL n c.marks (atI n.tasks (atI c.busy k).task) (datB c.data v num)) 1 = 0 by have hp : ¬ 0 < atI (giveL n c.marks (atI n.tasks (atI c.busy k).task) (datB c.data v num)) 1 := hpos; omega)]; rfl
    · exact h
structure HouseF (h : GHouse) : Prop where
  nets : netsB h.nets = true
  ppl : pplB h.people = true
  tree : rdrB h.tree = true
  many : h.runs.length ≤ 5
  runs : ∀ r ∈ h.runs, runB h.nets r = true
end Go.Am.Pl
end
section
namespace Go.Am.Pl
open Go
inductive WorkR (n : GNet) (c : GCase) (k : Int) (data : List Int) : GCase → Prop where
  | more (h : (atI c.busy k).did + 1 < (atI n.tasks (atI c.busy k).task).need) : WorkR n c k data (GCase.mk c.state c.marks (c.busy.set k.toNat (itD (atI c.busy k))) data c.did)
  | ends (h : ¬ (atI c.busy k).did + 1 < (atI n.tasks (atI c.busy k).task).need) (G : GiveF n c.marks (atI c.busy k).task data) (hp : 0 < atI (giveL n c.marks (atI n.tasks (atI c.busy k).task) data) 1) :
      WorkR n c k data (GCase.mk 2 (giveL n c.marks (atI n.tasks (atI c.busy k).task) data) [] data (c.did ++ [GDid.mk (atI c.busy k).task (atI c.busy k).who]))
  | goes (h : ¬ (atI c.busy k).did + 1 < (atI n.tasks (atI c.busy k).task).need) (G : GiveF n c.marks (atI c.busy k).task data) (hp : ¬ 0 < atI (giveL n c.marks (atI n.tasks (atI c.busy k).task) data) 1) :
      WorkR n c k data (GCase.mk c.state (giveL n c.marks (atI n.tasks (atI c.busy k).task) data) (c.busy.take k.toNat ++ c.busy.drop (k + 1).toNat) data (c.did ++ [GDid.mk (atI c.busy k).task (atI c.busy k).who]))
theorem w0j {n : GNet} {c : GCase} {k v num : Int} (h : (workB n c k v num).2 = true) : WorkF n c k v num ∧ WorkR n c k (datB c.data v num) (workB n c k v num).1 := by
  by_cases W : WorkF n c k v num
  case neg => rw [yf7 W] at h; cases h
  refine ⟨W, ?_⟩
  rw [y6o W] at h ⊢
  unfold doneB at h ⊢
  split
  · exact .more (by assumption)
  · rename_i h1
    rw [if_neg h1] at h
    split
    · rename_i hg
      have G := yk3.1 hg
      rw [y0b G] at h ⊢
      split
      · exact .ends h1 G (by assumption)
      · exact .goes h1 G (by assumption)
    · rename_i hg
      rw [if_neg hg] at h; cases h
theorem yt9 {n : GNet} {c : GCase} {k v num : Int} (h : ¬ (workB n c k v num).2 = true) : workB n c k v num = (c, false) := by
  by_cases W : WorkF n c k v num
  case neg => exact yf7 W
  rw [y6o W] at h ⊢
  unfold doneB at h ⊢
  split
  · rename_i h1; rw [if_pos h1] at h; exact absurd rfl h
  · rename_i h1
    rw [if_neg h1] at h
    split
    · rename_i hg
      rw [if_pos hg] at h
      split at h <;> exact absurd rfl h
    · rfl
end Go.Am.Pl
end
