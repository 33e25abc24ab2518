/- Plain laws. Own work. -/
import Derived.Test.YtgolgnbgomhknaaGreatCaP1
set_option maxRecDepth 100000
set_option maxHeartbeats 2000000
set_option linter.unusedVariables false
set_option linter.unusedSimpArgs false
section
namespace Go.Am.Pl
open Go
structure CaseT (m : Nat) (c : GCase) : Prop where
  marks : c.marks.length ≤ 10
  busy : c.busy.length ≤ 7
  data : c.data.length ≤ 4
  did : c.did.length ≤ m
theorem CaseT.small {c : GCase} {m : Nat} (h : CaseT m c) (hm : m ≤ 62) : c.small := by
  obtain ⟨a, b, d, e⟩ := h
  exact ⟨by unfold SMALL; omega, by unfold SMALL; omega, by unfold SMALL; omega, by unfold SMALL; omega⟩
theorem CaseT.bnd {c d : GCase} {m : Nat} (h : CaseT m c) (hm : 61 ≤ m) (b : Bnd c d) : CaseT m d := by
  obtain ⟨p, q, r, s⟩ := b
  obtain ⟨t, u, v, w⟩ := h
  exact ⟨by omega, by omega, by omega, by omega⟩
theorem we1 {n : GNet} {data : List Int} (hd : data.length ≤ 4) : CaseT 61 (newC n data) := by
  unfold newC
  cases e : netB n && datOk data
  · exact ⟨Nat.zero_le _, Nat.zero_le _, Nat.zero_le _, Nat.zero_le _⟩
  · rw [zA] at e
    have h1 := z58 e.1
    exact ⟨by show ((List.replicate n.places.toNat (0 : Int)).set 0 1).length ≤ 10; simp; omega, Nat.zero_le _, hd, Nat.zero_le _⟩
theorem w96 {K : Int} {r : GRd} {n : GNet} {p : List Int} {c : GCase} (h : Rd K r) (hK : K ≤ 900000000) (hn : n.small) (hp : p.length ≤ SMALL) (hc : c.small) : Tot (z8r r n p c) (fun v => Bnd c v.1 ∧ Rd (K + 6) v.2) := by
  unfold z8r
  repeat' first
    | (refine Tot.bind2 (z0p (by assumption) (by omega)) ?_; intro a b h; dsimp only at h; obtain ⟨⟨_, _⟩, _⟩ := h; try dsimp only)
    | (refine Tot.bind2 (z0p (by assumption) (by omega)) ?_; intro a b h; dsimp only at h; obtain ⟨⟨_, _⟩, _⟩ := h; try dsimp only)
    | (refine Tot.gd (by first | omega | (constructor <;> omega) | (simp only [zL, zC, zN, zS, List.length_drop, SMALL]; omega)) ?_)
    | (refine Tot.getI (by omega) (by first | omega | (simp only [zC, zN, zS, zL]; omega)) ?_; intro x hx hg)
    | (refine Tot.iteD (fun _ => ?_) (fun _ => ?_))
    | refine Tot.bindE (w0s n c _ _ _ hn hc) ?_
    | (refine Tot.bindE (y42 n c.marks c.busy hn hc.1 hc.2.1) ?_; generalize tasksB n c.marks c.busy = ts)
    | (refine Tot.bindE (y9y n p c.did c.busy _ hn hp hc.2.2.2 hc.2.1) ?_; generalize mayB n p c.did c.busy _ = ms)
    | refine Tot.bindE (y41 n p c _ _ hn hp hc) ?_
    | exact Tot.pure ⟨w6z n c _ _ _, Rd.mono (by assumption) (by omega)⟩
    | exact Tot.pure ⟨yk6 n p c _ _, Rd.mono (by assumption) (by omega)⟩
    | exact Tot.pure ⟨Bnd.refl c, Rd.mono (by assumption) (by omega)⟩
abbrev CaseQ (K : Int) (v : GNet × List Int × GCase × GRd) : Prop := NetT v.1 ∧ v.2.1.length ≤ 5 ∧ CaseT 62 v.2.2.1 ∧ Rd K v.2.2.2
theorem w4t {K : Int} {n : Int} {x : GNet} {p : List Int} (hK : K ≤ 400000000) (hX : NetT x) (hp : p.length ≤ 5) {b : List Int} {q : Int} {k : Int} {c : GCase} (h : Rd K (GRd.mk b q)) (hc : CaseT 61 c) (k0 : 0 ≤ k) (k1 : k ≤ 16) :
    Tot (z26 p x (z4c n p x) FUEL b q c.state k c.marks c.busy c.data c.did) (CaseQ (K + 500)) := by
  have hps : p.length ≤ SMALL := by unfold SMALL; omega
  have key := Tot.loopF (Q := CaseQ (K + 500)) (fun s : List Int × Int × Int × GCase => Rd (K + 6 * (16 - s.2.2.1)) (GRd.mk s.1 s.2.1) ∧ 0 ≤ s.2.2.1 ∧ s.2.2.1 ≤ 16 ∧ CaseT 61 s.2.2.2) (fun s => s.2.2.1.toNat)
    (fun f s => z26 p x (z4c n p x) f s.1 s.2.1 s.2.2.2.state s.2.2.1 s.2.2.2.marks s.2.2.2.busy s.2.2.2.data s.2.2.2.did) (fun f s hi ih => ?_) (b, q, k, c) (by dsimp only; omega) ⟨by dsimp only; exact h.mono (by omega), k0, k1, hc⟩
  · exact key
  obtain ⟨b0, q0, i, d⟩ := s
  obtain ⟨h1, h2, h3, h4⟩ := hi
  dsimp only at h1 h2 h3 h4 ⊢
  have ih' : ∀ b q (d : GCase), Rd (K + 6 * (16 - (i - 1))) (GRd.mk b q) → 1 ≤ i → CaseT 61 d → Tot (z26 p x (z4c n p x) f b q d.state (i - 1) d.marks d.busy d.data d.did) (CaseQ (K + 500)) :=
    fun b q d g1 g2 g3 => ih (b, q, i - 1, d) ⟨g1, by dsimp only; omega, by dsimp only; omega, g3⟩ (by dsimp only; omega)
  rw [z26]
  refine Tot.iteD (fun c => ?_) (fun c => ?_)
  · refine Tot.bind2 (w96 h1 (by omega) hX.small hps (h4.small (by omega))) ?_
    intro d2 r2 hh
    dsimp only at hh
    obtain ⟨hb, hr⟩ := hh
    dsimp only
    exact Tot.gd (by constructor <;> omega) (ih' _ _ d2 (Rd.mono hr (by omega)) (by omega) (h4.bnd (by omega) hb))
  · have h5 : i = 0 := by omega
    subst h5
    obtain ⟨t1, t2, t3, t4⟩ := h4
    unfold z4c
    repeat' first
      | (refine Tot.bind2 (w3k (by assumption) (by omega)) ?_; intro a b h; dsimp only at h; obtain ⟨_, _⟩ := h; try dsimp only)
      | (refine Tot.bind2 (w5x (by assumption) (by omega) hX.pl) ?_; intro a b h; dsimp only at h; obtain ⟨_, _⟩ := h; try dsimp only)
      | (refine Tot.bind2 (w7z (by assumption) (by omega) hX.one) ?_; intro a b h; dsimp only at h; obtain ⟨_, _⟩ := h; try dsimp only)
      | (refine Tot.bind2 (w2r (by assumption) (by omega)) ?_; intro a b h; dsimp only at h; obtain ⟨_, _⟩ := h; try dsimp only)
      | (refine Tot.bind2 (yk0 (by assumption) (by omega)) ?_; intro a b h; dsimp only at h; obtain ⟨_, _⟩ := h; try dsimp only)
      | (refine Tot.bind2 (z0p (by assumption) (by omega)) ?_; intro a b h; dsimp only at h; obtain ⟨⟨_, _⟩, _⟩ := h; try dsimp only)
      | (refine Tot.gd (by first | omega | (constructor <;> omega) | (simp only [zL, zC, zN, zS, List.length_drop, SMALL]; omega)) ?_)
      | (refine Tot.getI (by omega) (by first | omega | (simp only [zC, zN, zS, zL]; omega)) ?_; intro x hx hg)
      | (refine Tot.iteD (fun _ => ?_) (fun _ => ?_))
      | exact Tot.pure ⟨hX, hp, ⟨by first | (dsimp only; omega) | (dsimp only; simp only [zL, zC, zN, zS, List.length_drop]; omega), by dsimp only; omega, by dsimp only; omega, by first | (dsimp only; omega) | (dsimp only; simp only [zL, zC, zN, zS, List.length_drop]; omega)⟩, Rd.mono (by assumption) (by omega)⟩
      | exact Tot.pure ⟨by assumption, hp, ⟨by dsimp only; omega, by dsimp only; omega, by dsimp only; omega, by dsimp only; omega⟩, Rd.mono (by assumption) (by omega)⟩
      | exact Tot.pure ⟨hX, by assumption, ⟨by dsimp only; omega, by dsimp only; omega, by dsimp only; omega, by dsimp only; omega⟩, Rd.mono (by assumption) (by omega)⟩
theorem w80 {K : Int} {r : GRd} {n : Int} (h : Rd K r) (hK : K ≤ 300000000) : Tot (z8q r n) (CaseQ (K + 1000)) := by
  unfold z8q
  refine Tot.bind2 (w5y h (by omega)) ?_
  intro x r1 hh; dsimp only at hh; obtain ⟨hx, h1⟩ := hh; dsimp only
  refine Tot.bind2 (yk0 h1 (by omega)) ?_
  intro p r2 hh; dsimp only at hh; obtain ⟨hp, h2⟩ := hh; dsimp only
  refine Tot.bind2 (w2r h2 (by omega)) ?_
  intro dt r3 hh; dsimp only at hh; obtain ⟨hd, h3⟩ := hh; dsimp only
  have hT := w9j hx
  refine Tot.bindE (w21 x dt hT.small (by unfold SMALL; omega)) ?_
  refine Tot.bind2 (z0p h3 (by omega)) ?_
  intro a r4 hh; dsimp only at hh; obtain ⟨⟨a0, a1⟩, h4⟩ := hh; dsimp only
  refine Tot.bind2 (z0p h4 (by omega)) ?_
  intro a2 r5 hh; dsimp only at hh; obtain ⟨⟨a3, a4⟩, h5⟩ := hh; dsimp only
  refine Tot.getI (by omega) (by simp only [zC, zN]; omega) ?_
  intro k hk _
  have hk : 0 ≤ k ∧ k ≤ 16 := by
    simp only [zM, List.not_mem_nil, or_false] at hk
    omega
  exact (w4t (n := n) (by omega) hT hp (Rd.eta h5) (we1 hd) hk.1 hk.2).mono fun v hv => ⟨hv.1, hv.2.1, hv.2.2.1, Rd.mono hv.2.2.2 (by omega)⟩
theorem w8s (code : List Int) (hc : ∀ y ∈ code, 0 ≤ y ∧ y ≤ 255) : Tot (z8p code) (fun r => Rd 0 r) := by
  unfold z8p
  refine Tot.iteD (fun c => Tot.gd ⟨by omega, by omega⟩ (Tot.pure ⟨fun y hy => hc y (List.mem_of_mem_take hy), by show (code.take _).length ≤ 2000; rw [List.length_take]; omega, Int.le_refl _, Int.le_refl _⟩)) (fun c => Tot.pure ⟨hc, by show code.length ≤ 2000; omega, Int.le_refl _, Int.le_refl _⟩)
end Go.Am.Pl
end
section
namespace Go.Am.Pl
open Go
theorem drawCasStart (code : List Int) (hc : ∀ y ∈ code, 0 ≤ y ∧ y ≤ 255) : Tot (z4n code) (fun v => NetT v.1 ∧ v.2.1.length ≤ 5 ∧ CaseT 62 v.2.2.1 ∧ ok64 v.2.2.2.2) := by
  unfold z4n
  refine Tot.bind (w8s code hc) fun r h => ?_
  refine Tot.bind (w80 h (by omega)) ?_
  rintro ⟨x, p, c, r1⟩ ⟨hX, hp, hc, h1⟩
  dsimp only at hX hp hc h1 ⊢
  have h6 := hX.six
  have hps : p.length ≤ SMALL := by unfold SMALL; omega
  have hcs := hc.small (by omega)
  have fin : ∀ (t k : Int), (0 ≤ k ∧ (1 ≤ (6 : Int) → k < 6)) → Tot (some (x, p, c, t, k)) (fun v : GNet × List Int × GCase × Int × Int => NetT v.1 ∧ v.2.1.length ≤ 5 ∧ CaseT 62 v.2.2.1 ∧ ok64 v.2.2.2.2) := fun t k hk => Tot.pure ⟨hX, hp, hc, by dsimp only; constructor <;> omega⟩
  refine Tot.gd (by constructor <;> omega) (Tot.bind2 (z0p h1 (by omega)) ?_)
  intro a r2 hh; dsimp only at hh; obtain ⟨⟨a0, a1⟩, g2⟩ := hh; dsimp only
  refine Tot.bind2 (z0p g2 (by omega)) ?_
  intro a2 r3 hh; dsimp only at hh; obtain ⟨⟨a3, a4⟩, g3⟩ := hh; dsimp only
  refine Tot.gd (by constructor <;> omega) (Tot.bindE (y42 x c.marks c.busy hX.small hcs.1 hcs.2.1) ?_)
  generalize tasksB x c.marks c.busy = ts
  refine Tot.iteD (fun _ => ?_) (fun _ => ?_)
  · refine Tot.bind2 (z0p g3 (by omega)) ?_
    intro a5 r4 hh; dsimp only at hh; obtain ⟨⟨a6, a7⟩, g4⟩ := hh; dsimp only
    refine Tot.iteD (fun _ => ?_) (fun _ => ?_)
    · refine Tot.bind2 (z0p g4 (by omega)) ?_
      intro a8 r5 hh; dsimp only at hh; obtain ⟨⟨a9, a10⟩, g5⟩ := hh; dsimp only
      refine Tot.getI (by omega) (by omega) (fun t _ _ => ?_)
      exact Tot.bind (z0p g5 (by omega)) fun w hw => fin _ _ hw.1
    · exact Tot.bind (z0p g4 (by omega)) fun w hw => fin _ _ hw.1
  · exact Tot.bind (z0p g3 (by omega)) fun w hw => fin _ _ hw.1
end Go.Am.Pl
end
section
namespace Go.Am.Pl
open Go
theorem w1e {α : Type} [DecidableEq α] (a b : List α) (hs : a.length ≤ SMALL) (hl : a.length = b.length) (f : Nat → Int → Option Bool) (kx : Option Bool) (h0 : ∀ n, f (n + 1) (a.length : Int) = kx)
    (h1 : ∀ n i x y, x ∈ a → y ∈ b → getI a i = some x → getI b i = some y → i < (a.length : Int) → ok64 (i + 1) → f (n + 1) i = if x = y then f n (i + 1) else some false) : f FUEL 0 = if a = b then kx else some false := by
  have := scan0 a (by unfold SMALL at hs; omega) f (fun pre suf => if suf = b.drop pre.length then kx else some false) (fun n => by rw [h0, hl, List.drop_length]; simp)
    (fun n pre x suf e g c d ih => by
      have hlt : pre.length < b.length := by rw [← hl]; omega
      have hb : getI b (pre.length : Int) = some b[pre.length] := by rw [z8h, List.getElem?_eq_getElem hlt]
      rw [h1 n _ x b[pre.length] (by rw [e]; simp) (List.getElem_mem hlt) g hb c d, ih, List.drop_eq_getElem_cons hlt]
      have hl1 : (pre ++ [x]).length = pre.length + 1 := by simp
      rw [hl1]
      by_cases h : x = b[pre.length]
      · rw [if_pos h]
        by_cases h2 : suf = b.drop (pre.length + 1)
        · rw [if_pos h2, if_pos (by rw [h2, ← h])]
        · rw [if_neg h2, if_neg (fun h3 => h2 (List.cons.inj h3).2)]
      · rw [if_neg h, if_neg (fun h3 => h (List.cons.inj h3).1)])
  rw [this]; rfl
theorem w5p {α : Type} [DecidableEq α] {a b : List α} {X : Option Bool} (h : a.length = b.length → X = some (decide (a = b))) : (if decide ((a.length : Int) = (b.length : Int)) = true then X else some false) = some (decide (a = b)) := by
  by_cases hl : a.length = b.length
  · rw [if_pos (zT (by omega)), h hl]
  · rw [if_neg (by rw [zE]; omega), decide_eq_false (fun e => hl (by rw [e]))]
theorem w1h {p : Prop} [Decidable p] : (if p then some true else some false) = some (decide p) := by by_cases h : p <;> simp [h]
theorem yp6 (a b : List Int) (hs : a.length ≤ SMALL) : z4l a b = some (decide (a = b)) := by
  unfold z4l
  refine w5p fun hl => ?_
  rw [w1e a b hs hl (z3k a b zr9) (some true) (fun n => by rw [z3k, if_neg (by simp)]; rfl) (fun n i x y _ _ hx hy hi ho => by
    rw [z3k, if_pos (zT hi), hx, zB, hy, zB, z02 ho]; simp only [zE]), w1h]
theorem w5o (a b : List GItem) (hs : a.length ≤ SMALL) : z73 a b = some (decide (a = b)) := by
  unfold z73
  refine w5p fun hl => ?_
  rw [w1e a b hs hl (z3j a b zr8) (some true) (fun n => by rw [z3j, if_neg (by simp)]; rfl) (fun n i x y _ _ hx hy hi ho => by
    rw [z3j, if_pos (zT hi), hx, zB, hy, zB, z02 ho]
    have e : ([x.task, x.who, x.did] = [y.task, y.who, y.did]) ↔ x = y := by cases x; cases y; simp
    simp only [zE, e]), w1h]
theorem w9h (a b : List GDid) (hs : a.length ≤ SMALL) : z95 a b = some (decide (a = b)) := by
  unfold z95
  refine w5p fun hl => ?_
  rw [w1e a b hs hl (z43 a b zx9) (some true) (fun n => by rw [z43, if_neg (by simp)]; rfl) (fun n i x y _ _ hx hy hi ho => by
    rw [z43, if_pos (zT hi), hx, zB, hy, zB, z02 ho]
    have e : ([x.task, x.who] = [y.task, y.who]) ↔ x = y := by cases x; cases y; simp
    simp only [zE, e]), w1h]
theorem iteS {p : Prop} [Decidable p] {q : Prop} [Decidable q] : (if decide p = true then some (decide q) else some false) = some (decide (p ∧ q)) := by by_cases h : p <;> simp [h]
theorem w1d (a b : GCase) (hs : a.small) : z2l a b = some (decide (a = b)) := by
  obtain ⟨h1, h2, h3, h4⟩ := hs
  unfold z2l
  simp only [yp6 _ _ h1, w5o _ _ h2, yp6 _ _ h3, w9h _ _ h4, zB, iteS]
  congr 1
  refine decide_eq_decide.2 ?_
  cases a; cases b; simp
theorem gu_Ok : z4m = some true := by
  unfold z4m
  rw [yj3 _ (by simp [SMALL])]; rfl
theorem wd8 (l : List Int) (n : Int) (hs : l.length ≤ SMALL) : ze6 l n = some (l.any fun x => decide (x = n)) := by
  unfold ze6
  exact scan0 l (by unfold SMALL at hs; omega) (z44 l n zy0) (fun _ suf => some (suf.any fun x => decide (x = n))) (fun f => by rw [z44, if_neg (by simp)]; rfl)
    (fun f pre x suf a b c d ih => by
      rw [z44, if_pos (zT c), b, zB, z02 d, ih, List.any_cons]
      by_cases h : x = n <;> simp [h])
end Go.Am.Pl
end
section
namespace Go.Am.Pl
open Go
end Go.Am.Pl
end
section
namespace Go.Am.Pl
open Go
structure HInv (h : GHouse) : Prop where
  lens : GHouse.lens (· ≤ 1048576) h
  one : 1 ≤ h.nets.length
  net : ∀ r ∈ h.runs, 0 ≤ r.net ∧ r.net < h.nets.length
  many : h.runs.length ≤ 5
theorem HInv.small {h : GHouse} (H : HInv h) : houseSmall h := w20 H.lens
end Go.Am.Pl
end
section
namespace Go.Am.Pl
open Go
structure LogOk' (log : List GReq) : Prop where
  len : log.length ≤ 150
  case : ∀ r ∈ log, 0 ≤ r.case
end Go.Am.Pl
end
section
namespace Go.Am.Pl
open Go
theorem w3m {α : Type} [Inhabited α] (l : List α) {v j : Int} (w : α) (hv : 0 ≤ v) (h : v ≠ j) : atI (l.set v.toNat w) j = atI l j := by
  unfold atI getI
  split
  · rw [List.getElem?_set_ne (by omega)]
  · rfl
theorem w2m {n : GNet} {c : GCase} : casB n c = true ↔ mrkB n c.marks = true ∧ busyB n c.busy = true ∧ datOk c.data = true ∧ (c.did.length : Int) ≤ 60 ∧ (1 ≤ c.state ∧ c.state ≤ 3) ∧ c.did.all (didB n) = true ∧ stateB c = true := by
  simp only [casB, zA, z19, Bool.not_eq_true', decide_eq_false_iff_not, Int.not_lt]
theorem wb2 {n : GNet} {m : List Int} (h1 : netB n = true) (h2 : (m.length : Int) = n.places) (h3 : okM m = true) : mrkB n m = true := by
  unfold mrkB marksB
  rw [h1, zT h2]; exact h3
theorem y4g (join : Int) : ∀ (ps l : List Int), (∀ p ∈ ps, 0 ≤ p ∧ p < l.length) → capM 4 l → capM 4 (takeL join ps l)
  | [], l, _, h => h
  | p :: ps, l, hp, h => by
    have h0 := hp p (by simp)
    unfold takeL
    split
    · split
      · exact yl3 h (by assumption) h0.1 h0.2
      · exact y4g join ps _ (fun q hq => by rw [yl4]; exact hp q (by simp [hq])) (yl3 h (by assumption) h0.1 h0.2)
    · exact y4g join ps l (fun q hq => hp q (by simp [hq])) h
theorem yt8 (join : Int) {q : Int} : ∀ (ps l : List Int), (∀ p ∈ ps, 0 ≤ p ∧ p ≠ q) → atI (takeL join ps l) q = atI l q
  | [], l, _ => rfl
  | p :: ps, l, hp => by
    have h0 := hp p (by simp)
    have hd : atI (dec l p) q = atI l q := w3m _ _ h0.1 h0.2
    unfold takeL
    split
    · split
      · exact hd
      · rw [yt8 join ps _ (fun q hq => hp q (by simp [hq])), hd]
    · exact yt8 join ps l (fun q hq => hp q (by simp [hq]))
theorem w8g {n : GNet} (h : netB n = true) {t : GTask} (ht : t ∈ n.tasks) : ∀ p ∈ t.in_, p ≠ 1 := by
  simp only [netB, zA, zV] at h
  have := h.2.2 t ht
  simp only [taskB, zA, Bool.not_eq_true', List.any_eq_false, zE] at this
  exact this.2.2.2.1
structure StartF (n : GNet) (people : List Int) (c : GCase) (t who : Int) : Prop where
  cas : casB n c = true
  run : c.state = 1
  ena : enaB n c.marks c.busy t = true
  may : who ∈ mayB n people c.did c.busy t
  room : c.busy.length ≠ 6
theorem ya1 {n : GNet} {people : List Int} {c : GCase} {t who : Int} : startOk n people c t who = true ↔ StartF n people c t who := by
  unfold startOk
  simp only [zA, zE, List.any_eq_true, exists_eq_right, Bool.not_eq_true', decide_eq_false_iff_not]
  constructor
  · rintro ⟨a, b, d, e, f⟩; exact ⟨a, b, d, e, by omega⟩
  · rintro ⟨a, b, d, e, f⟩; exact ⟨a, b, d, e, by omega⟩
theorem w8e {n : GNet} {people : List Int} {did : List GDid} {busy : List GItem} {t who : Int} : who ∈ mayB n people did busy t ↔ netB n = true ∧ pplB people = true ∧ (0 ≤ t ∧ t < n.tasks.length) ∧ (1 ≤ who ∧ who ≤ people.length) ∧ mayW n people did busy t who = true := by
  unfold mayB
  cases e : netB n && (pplB people && inB t 0 ((n.tasks.length : Int) - 1))
  · constructor
    · intro h; simp at h
    · rintro ⟨a, b, d, _⟩
      rw [a, b, z19.2 ⟨d.1, by omega⟩] at e; cases e
  · simp only [zA, z19] at e
    show who ∈ (idxs people.length).filter _ ↔ _
    rw [List.mem_filter, w87]
    constructor
    · rintro ⟨a, b⟩; exact ⟨e.1, e.2.1, by omega, a, b⟩
    · rintro ⟨_, _, _, a, b⟩; exact ⟨a, b⟩
theorem w7v {n : GNet} {people : List Int} {c : GCase} {t who : Int} (S : StartF n people c t who) : casB n (begun n c t who) = true := by
  obtain ⟨a1, a2, a3, a4, a5, a6, a7⟩ := w2m.1 S.cas
  obtain ⟨g1, g2, g3⟩ := y2y S.ena
  obtain ⟨f1, f2, f3⟩ := zb5 a1
  have hm := z4t n.tasks g3.1 g3.2
  have T := z4e f1 hm
  obtain ⟨_, hp, _, hw, _⟩ := w8e.1 S.may
  have hp4 := (y5c hp).1
  have hin : ∀ p ∈ (atI n.tasks t).in_, 0 ≤ p ∧ p < c.marks.length := fun p hp => by have := T.ins p hp; omega
  have F := z86 S.cas
  refine w2m.2 ⟨wb2 f1 (by show ((takeL _ _ c.marks).length : Int) = _; rw [y43]; exact f2) (zi1.2 (y4g _ _ _ hin (zi1.1 f3))), ?_, a3, a4, a5, a6, ?_⟩
  · have hb := F.busyl
    have hr := S.room
    show busyB n (c.busy ++ [GItem.mk t who 0]) = true
    simp only [busyB, zA, zE] at a2 ⊢
    refine ⟨by rw [zL, zJ]; omega, ?_⟩
    rw [List.all_append, a2.2, Bool.true_and]
    simp only [List.all_cons, List.all_nil, Bool.and_true, itemB, zA, z19]
    have := T.need
    exact ⟨by omega, by omega, by omega⟩
  · unfold stateB at a7 ⊢
    have e : (begun n c t who).state = 1 := S.run
    rw [S.run] at a7
    rw [e]
    simp only [decide_true, cond_true, zE] at a7 ⊢
    show atI (takeL _ _ c.marks) 1 = 0
    rw [yt8 _ _ _ (fun p hp => ⟨(hin p hp).1, w8g f1 hm p hp⟩)]; exact a7
structure WorkF (n : GNet) (c : GCase) (k v num : Int) : Prop where
  cas : casB n c = true
  run : c.state = 1
  k0 : 0 ≤ k
  k1 : k < c.busy.length
  v : -1 ≤ v ∧ v ≤ 2
  num : -99 ≤ num ∧ num ≤ 99
  room : c.did.length ≠ 60
structure GiveF (n : GNet) (m : List Int) (t : Int) (data : List Int) : Prop where
  mrk : mrkB n m = true
  t0 : 0 ≤ t
  t1 : t < n.tasks.length
  dat : datOk data = true
  ok : okM (giveL n m (atI n.tasks t) data) = true
structure HouseF (h : GHouse) : Prop where
  nets : netsB h.nets = true
  ppl : pplB h.people = true
  tree : rdrB h.tree = true
  many : h.runs.length ≤ 5
  runs : ∀ r ∈ h.runs, runB h.nets r = true
end Go.Am.Pl
end
section
namespace Go.Am.Pl
open Go
theorem zc9 {n : GNet} {people : List Int} {c : GCase} {t who : Int} (h : (startB n people c t who).2 = true) : StartF n people c t who ∧ (startB n people c t who).1 = begun n c t who := by
  unfold startB at h ⊢
  cases e : startOk n people c t who
  · rw [e] at h; cases h
  · exact ⟨ya1.1 e, rfl⟩
theorem y6c {n : GNet} {people : List Int} {c : GCase} {t who : Int} (h : ¬ (startB n people c t who).2 = true) : startB n people c t who = (c, false) := by
  unfold startB at h ⊢
  cases e : startOk n people c t who
  · rfl
  · rw [e] at h; exact absurd rfl h
inductive WorkR (n : GNet) (c : GCase) (k : Int) (data : List Int) : GCase → Prop where
  | more (h : (atI c.busy k).did + 1 < (atI n.tasks (atI c.busy k).task).need) : WorkR n c k data (GCase.mk c.state c.marks (c.busy.set k.toNat (itD (atI c.busy k))) data c.did)
  | ends (h : ¬ (atI c.busy k).did + 1 < (atI n.tasks (atI c.busy k).task).need) (G : GiveF n c.marks (atI c.busy k).task data) (hp : 0 < atI (giveL n c.marks (atI n.tasks (atI c.busy k).task) data) 1) :
      WorkR n c k data (GCase.mk 2 (giveL n c.marks (atI n.tasks (atI c.busy k).task) data) [] data (c.did ++ [GDid.mk (atI c.busy k).task (atI c.busy k).who]))
  | goes (h : ¬ (atI c.busy k).did + 1 < (atI n.tasks (atI c.busy k).task).need) (G : GiveF n c.marks (atI c.busy k).task data) (hp : ¬ 0 < atI (giveL n c.marks (atI n.tasks (atI c.busy k).task) data) 1) :
      WorkR n c k data (GCase.mk c.state (giveL n c.marks (atI n.tasks (atI c.busy k).task) data) (c.busy.take k.toNat ++ c.busy.drop (k + 1).toNat) data (c.did ++ [GDid.mk (atI c.busy k).task (atI c.busy k).who]))
end Go.Am.Pl
end
