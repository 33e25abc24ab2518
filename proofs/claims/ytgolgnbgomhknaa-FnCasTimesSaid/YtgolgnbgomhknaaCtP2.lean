/- Plain laws. Own work. -/
import Derived.Test.YtgolgnbgomhknaaCtP1
set_option maxRecDepth 100000
set_option maxHeartbeats 2000000
set_option linter.unusedVariables false
set_option linter.unusedSimpArgs false
section
namespace Go.Am.Pl
open Go
structure CaseT (m : Nat) (c : GCase) : Prop where
  marks : c.marks.length ≤ 10
  busy : c.busy.length ≤ 7
  data : c.data.length ≤ 4
  did : c.did.length ≤ m
theorem CaseT.small {c : GCase} {m : Nat} (h : CaseT m c) (hm : m ≤ 62) : c.small := by
  obtain ⟨a, b, d, e⟩ := h
  exact ⟨by unfold SMALL; omega, by unfold SMALL; omega, by unfold SMALL; omega, by unfold SMALL; omega⟩
theorem CaseT.bnd {c d : GCase} {m : Nat} (h : CaseT m c) (hm : 61 ≤ m) (b : Bnd c d) : CaseT m d := by
  obtain ⟨p, q, r, s⟩ := b
  obtain ⟨t, u, v, w⟩ := h
  exact ⟨by omega, by omega, by omega, by omega⟩
theorem w6k {n : GNet} {data : List Int} (hd : data.length ≤ 4) : CaseT 61 (newC n data) := by
  unfold newC
  cases e : netB n && datOk data
  · exact ⟨Nat.zero_le _, Nat.zero_le _, Nat.zero_le _, Nat.zero_le _⟩
  · rw [zA] at e
    have h1 := z7a e.1
    exact ⟨by show ((List.replicate n.places.toNat (0 : Int)).set 0 1).length ≤ 10; simp; omega, Nat.zero_le _, hd, Nat.zero_le _⟩
theorem w4n {K : Int} {r : GRd} {n : GNet} {p : List Int} {c : GCase} (h : Rd K r) (hK : K ≤ 900000000) (hn : n.small) (hp : p.length ≤ SMALL) (hc : c.small) : Tot (z73 r n p c) (fun v => Bnd c v.1 ∧ Rd (K + 6) v.2) := by
  unfold z73
  repeat' first
    | (refine Tot.bind2 (z0j (by assumption) (by omega)) ?_; intro a b h; dsimp only at h; obtain ⟨⟨_, _⟩, _⟩ := h; try dsimp only)
    | (refine Tot.bind2 (z0j (by assumption) (by omega)) ?_; intro a b h; dsimp only at h; obtain ⟨⟨_, _⟩, _⟩ := h; try dsimp only)
    | (refine Tot.gd (by first | omega | (constructor <;> omega) | (simp only [zL, zC, zN, zS, List.length_drop, SMALL]; omega)) ?_)
    | (refine Tot.getI (by omega) (by first | omega | (simp only [zC, zN, zS, zL]; omega)) ?_; intro x hx hg)
    | (refine Tot.iteD (fun _ => ?_) (fun _ => ?_))
    | refine Tot.bindE (y2q n c _ _ _ hn hc) ?_
    | (refine Tot.bindE (y0u n c.marks c.busy hn hc.1 hc.2.1) ?_; generalize tasksB n c.marks c.busy = ts)
    | (refine Tot.bindE (zz0 n p c.did c.busy _ hn hp hc.2.2.2 hc.2.1) ?_; generalize mayB n p c.did c.busy _ = ms)
    | refine Tot.bindE (y0t n p c _ _ hn hp hc) ?_
    | exact Tot.pure ⟨yn4 n c _ _ _, Rd.mono (by assumption) (by omega)⟩
    | exact Tot.pure ⟨y8y n p c _ _, Rd.mono (by assumption) (by omega)⟩
    | exact Tot.pure ⟨Bnd.refl c, Rd.mono (by assumption) (by omega)⟩
theorem w2f {K : Int} {r : GRd} {n : GNet} {p : List Int} {c : GCase} (h : Rd K r) (hK : K ≤ 900000000) (hn : n.small) (hp : p.length ≤ SMALL) (hc : c.small) : Tot (z68 r n p c) (fun v => Bnd c v.1 ∧ Rd (K + 6) v.2) := by
  unfold z68
  repeat' first
    | (refine Tot.bind2 (z0j (by assumption) (by omega)) ?_; intro a b h; dsimp only at h; obtain ⟨⟨_, _⟩, _⟩ := h; try dsimp only)
    | (refine Tot.bind2 (z0j (by assumption) (by omega)) ?_; intro a b h; dsimp only at h; obtain ⟨⟨_, _⟩, _⟩ := h; try dsimp only)
    | (refine Tot.gd (by first | omega | (constructor <;> omega) | (simp only [zL, zC, zN, zS, List.length_drop, SMALL]; omega)) ?_)
    | (refine Tot.getI (by omega) (by first | omega | (simp only [zC, zN, zS, zL]; omega)) ?_; intro x hx hg)
    | (refine Tot.iteD (fun _ => ?_) (fun _ => ?_))
    | refine Tot.bindE (y2q n c _ _ _ hn hc) ?_
    | (refine Tot.bindE (y0u n c.marks c.busy hn hc.1 hc.2.1) ?_; generalize tasksB n c.marks c.busy = ts)
    | (refine Tot.bindE (zz0 n p c.did c.busy _ hn hp hc.2.2.2 hc.2.1) ?_; generalize mayB n p c.did c.busy _ = ms)
    | refine Tot.bindE (y0t n p c _ _ hn hp hc) ?_
    | exact Tot.pure ⟨yn4 n c _ _ _, Rd.mono (by assumption) (by omega)⟩
    | exact Tot.pure ⟨y8y n p c _ _, Rd.mono (by assumption) (by omega)⟩
    | exact Tot.pure ⟨Bnd.refl c, Rd.mono (by assumption) (by omega)⟩
abbrev CaseQ (K : Int) (v : GNet × List Int × GCase × GRd) : Prop := NetT v.1 ∧ v.2.1.length ≤ 5 ∧ CaseT 62 v.2.2.1 ∧ Rd K v.2.2.2
theorem w0j {K : Int} {n : Int} {x : GNet} {p : List Int} (hK : K ≤ 400000000) (hX : NetT x) (hp : p.length ≤ 5) {b : List Int} {q : Int} {k : Int} {c : GCase} (h : Rd K (GRd.mk b q)) (hc : CaseT 61 c) (k0 : 0 ≤ k) (k1 : k ≤ 16) :
    Tot (z1w p x (z3q n p x) FUEL b q c.state k c.marks c.busy c.data c.did) (CaseQ (K + 500)) := by
  have hps : p.length ≤ SMALL := by unfold SMALL; omega
  have key := Tot.loopF (Q := CaseQ (K + 500)) (fun s : List Int × Int × Int × GCase => Rd (K + 6 * (16 - s.2.2.1)) (GRd.mk s.1 s.2.1) ∧ 0 ≤ s.2.2.1 ∧ s.2.2.1 ≤ 16 ∧ CaseT 61 s.2.2.2) (fun s => s.2.2.1.toNat)
    (fun f s => z1w p x (z3q n p x) f s.1 s.2.1 s.2.2.2.state s.2.2.1 s.2.2.2.marks s.2.2.2.busy s.2.2.2.data s.2.2.2.did) (fun f s hi ih => ?_) (b, q, k, c) (by dsimp only; omega) ⟨by dsimp only; exact h.mono (by omega), k0, k1, hc⟩
  · exact key
  obtain ⟨b0, q0, i, d⟩ := s
  obtain ⟨h1, h2, h3, h4⟩ := hi
  dsimp only at h1 h2 h3 h4 ⊢
  have ih' : ∀ b q (d : GCase), Rd (K + 6 * (16 - (i - 1))) (GRd.mk b q) → 1 ≤ i → CaseT 61 d → Tot (z1w p x (z3q n p x) f b q d.state (i - 1) d.marks d.busy d.data d.did) (CaseQ (K + 500)) :=
    fun b q d g1 g2 g3 => ih (b, q, i - 1, d) ⟨g1, by dsimp only; omega, by dsimp only; omega, g3⟩ (by dsimp only; omega)
  rw [z1w]
  refine Tot.iteD (fun c => ?_) (fun c => ?_)
  · refine Tot.bind2 (w4n h1 (by omega) hX.small hps (h4.small (by omega))) ?_
    intro d2 r2 hh
    dsimp only at hh
    obtain ⟨hb, hr⟩ := hh
    dsimp only
    exact Tot.gd (by constructor <;> omega) (ih' _ _ d2 (Rd.mono hr (by omega)) (by omega) (h4.bnd (by omega) hb))
  · have h5 : i = 0 := by omega
    subst h5
    obtain ⟨t1, t2, t3, t4⟩ := h4
    unfold z3q
    repeat' first
      | (refine Tot.bind2 (yx1 (by assumption) (by omega)) ?_; intro a b h; dsimp only at h; obtain ⟨_, _⟩ := h; try dsimp only)
      | (refine Tot.bind2 (w1m (by assumption) (by omega) hX.pl) ?_; intro a b h; dsimp only at h; obtain ⟨_, _⟩ := h; try dsimp only)
      | (refine Tot.bind2 (w3j (by assumption) (by omega) hX.one) ?_; intro a b h; dsimp only at h; obtain ⟨_, _⟩ := h; try dsimp only)
      | (refine Tot.bind2 (yt6 (by assumption) (by omega)) ?_; intro a b h; dsimp only at h; obtain ⟨_, _⟩ := h; try dsimp only)
      | (refine Tot.bind2 (y8u (by assumption) (by omega)) ?_; intro a b h; dsimp only at h; obtain ⟨_, _⟩ := h; try dsimp only)
      | (refine Tot.bind2 (z0j (by assumption) (by omega)) ?_; intro a b h; dsimp only at h; obtain ⟨⟨_, _⟩, _⟩ := h; try dsimp only)
      | (refine Tot.gd (by first | omega | (constructor <;> omega) | (simp only [zL, zC, zN, zS, List.length_drop, SMALL]; omega)) ?_)
      | (refine Tot.getI (by omega) (by first | omega | (simp only [zC, zN, zS, zL]; omega)) ?_; intro x hx hg)
      | (refine Tot.iteD (fun _ => ?_) (fun _ => ?_))
      | exact Tot.pure ⟨hX, hp, ⟨by first | (dsimp only; omega) | (dsimp only; simp only [zL, zC, zN, zS, List.length_drop]; omega), by dsimp only; omega, by dsimp only; omega, by first | (dsimp only; omega) | (dsimp only; simp only [zL, zC, zN, zS, List.length_drop]; omega)⟩, Rd.mono (by assumption) (by omega)⟩
      | exact Tot.pure ⟨by assumption, hp, ⟨by dsimp only; omega, by dsimp only; omega, by dsimp only; omega, by dsimp only; omega⟩, Rd.mono (by assumption) (by omega)⟩
      | exact Tot.pure ⟨hX, by assumption, ⟨by dsimp only; omega, by dsimp only; omega, by dsimp only; omega, by dsimp only; omega⟩, Rd.mono (by assumption) (by omega)⟩
theorem yt2 {K : Int} {r : GRd} {n : Int} (h : Rd K r) (hK : K ≤ 300000000) : Tot (z52 r n) (CaseQ (K + 1000)) := by
  unfold z52
  refine Tot.bind2 (w1n h (by omega)) ?_
  intro x r1 hh; dsimp only at hh; obtain ⟨hx, h1⟩ := hh; dsimp only
  refine Tot.bind2 (y8u h1 (by omega)) ?_
  intro p r2 hh; dsimp only at hh; obtain ⟨hp, h2⟩ := hh; dsimp only
  refine Tot.bind2 (yt6 h2 (by omega)) ?_
  intro dt r3 hh; dsimp only at hh; obtain ⟨hd, h3⟩ := hh; dsimp only
  have hT := w4z hx
  refine Tot.bindE (yr1 x dt hT.small (by unfold SMALL; omega)) ?_
  refine Tot.bind2 (z0j h3 (by omega)) ?_
  intro a r4 hh; dsimp only at hh; obtain ⟨⟨a0, a1⟩, h4⟩ := hh; dsimp only
  refine Tot.bind2 (z0j h4 (by omega)) ?_
  intro a2 r5 hh; dsimp only at hh; obtain ⟨⟨a3, a4⟩, h5⟩ := hh; dsimp only
  refine Tot.getI (by omega) (by simp only [zC, zN]; omega) ?_
  intro k hk _
  have hk : 0 ≤ k ∧ k ≤ 16 := by
    simp only [zM, List.not_mem_nil, or_false] at hk
    omega
  exact (w0j (n := n) (by omega) hT hp (Rd.eta h5) (w6k hd) hk.1 hk.2).mono fun v hv => ⟨hv.1, hv.2.1, hv.2.2.1, Rd.mono hv.2.2.2 (by omega)⟩
theorem yv0 (code : List Int) (hc : ∀ y ∈ code, 0 ≤ y ∧ y ≤ 255) : Tot (z51 code) (fun r => Rd 0 r) := by
  unfold z51
  refine Tot.iteD (fun c => Tot.gd ⟨by omega, by omega⟩ (Tot.pure ⟨fun y hy => hc y (List.mem_of_mem_take hy), by show (code.take _).length ≤ 2000; rw [List.length_take]; omega, Int.le_refl _, Int.le_refl _⟩)) (fun c => Tot.pure ⟨hc, by show code.length ≤ 2000; omega, Int.le_refl _, Int.le_refl _⟩)
theorem drawCasTimes (code : List Int) (hc : ∀ y ∈ code, 0 ≤ y ∧ y ≤ 255) : Tot (z3w code) (fun v => CaseT 62 v.1) := by
  unfold z3w
  refine Tot.bind (yv0 code hc) fun r h => ?_
  refine Tot.bind (yt2 h (by omega)) fun v hv => ?_
  refine Tot.bind2 (z0j hv.2.2.2 (by omega)) ?_
  intro a b _
  exact Tot.pure hv.2.2.1
end Go.Am.Pl
end
section
namespace Go.Am.Pl
open Go
theorem y6f {K : Int} {x : GNet} {d : GCase} {b0 : List Int} {q0 : Int} (h2 : Rd K (GRd.mk b0 q0)) (hK : K ≤ 900000000) (hX : NetT x) (h5 : CaseT 62 d) : Tot (z2c x b0 q0 d) (fun v => NetT v.1 ∧ CaseT 62 v.2.1) := by
  have h6 := h5.busy
  unfold z2c
  refine Tot.gd (by constructor <;> omega) (Tot.bind2 (z0j h2 (by omega)) ?_)
  intro a r1 hh; dsimp only at hh; obtain ⟨⟨a0, a1⟩, g1⟩ := hh; dsimp only
  refine Tot.bind2 (z0j g1 (by omega)) ?_
  intro a2 r2 hh; dsimp only at hh; obtain ⟨⟨a3, a4⟩, g2⟩ := hh; dsimp only
  have hd : Int.tdiv a2 8 = a2 / 8 := Int.tdiv_eq_ediv_of_nonneg a3
  rw [hd]
  refine Tot.gd ⟨by omega, by constructor <;> omega⟩ (Tot.gd (by constructor <;> omega) (Tot.bind2 (z0j g2 (by omega)) ?_))
  intro a5 r3 hh; dsimp only at hh; obtain ⟨⟨a6, a7⟩, g3⟩ := hh; dsimp only
  refine Tot.gd (by constructor <;> omega) (Tot.bind2 (z0j g3 (by omega)) ?_)
  intro a8 r4 hh; dsimp only at hh; obtain ⟨⟨a9, a10⟩, g4⟩ := hh; dsimp only
  refine Tot.getI (by omega) (by simp only [zC, zN]; omega) ?_
  intro y hy _
  exact Tot.pure ⟨hX, h5⟩
theorem drawCasWork (code : List Int) (hc : ∀ y ∈ code, 0 ≤ y ∧ y ≤ 255) : Tot (z45 code) (fun v => NetT v.1 ∧ CaseT 62 v.2.1) := by
  unfold z45
  refine Tot.bind (yv0 code hc) fun r h => ?_
  refine Tot.bind (yt2 h (by omega)) ?_
  rintro ⟨x, p, c, r1⟩ ⟨hX, hp, hc, h1⟩
  dsimp only at hX hp hc h1 ⊢
  have hps : p.length ≤ SMALL := by unfold SMALL; omega
  have key := Tot.loopF (Q := fun v : GNet × GCase × Int × Int × Int => NetT v.1 ∧ CaseT 62 v.2.1) (fun s : List Int × Int × Int × GCase => Rd (1000 + 6 * s.2.2.1) (GRd.mk s.1 s.2.1) ∧ 0 ≤ s.2.2.1 ∧ s.2.2.1 ≤ 3 ∧ CaseT 62 s.2.2.2) (fun s => (3 - s.2.2.1).toNat)
    (fun f s => z1c p x (z2c x) (z4e x) (z4f x) f s.1 s.2.1 s.2.2.1 s.2.2.2) (fun f s hi ih => ?_) (r1.b, r1.p, 0, c) (by dsimp only; omega) ⟨by dsimp only; exact (Rd.eta h1).mono (by omega), by dsimp only; omega, by dsimp only; omega, hc⟩
  · exact key
  obtain ⟨b0, q0, i, d⟩ := s
  obtain ⟨h2, h3, h4, h5⟩ := hi
  dsimp only at h2 h3 h4 h5 ⊢
  have ih' : ∀ b q (d : GCase), Rd (1000 + 6 * (i + 1)) (GRd.mk b q) → i + 1 ≤ 3 → CaseT 62 d → Tot (z1c p x (z2c x) (z4e x) (z4f x) f b q (i + 1) d) (fun v => NetT v.1 ∧ CaseT 62 v.2.1) :=
    fun b q d g1 g2 g3 => ih (b, q, i + 1, d) ⟨g1, by dsimp only; omega, g2, g3⟩ (by dsimp only; omega)
  have h6 := h5.busy
  rw [z1c]
  refine Tot.iteD (fun c3 => Tot.iteD (fun c2 => ?_) (fun c2 => ?_)) (fun c3 => ?_)
  · refine Tot.bindE (y1x x d hX.small (h5.small (by omega))) (Tot.ite (fun c1 => ?_) (fun c1 => ?_))
    · refine Tot.bind2 (w2f h2 (by omega) hX.small hps (h5.small (by omega))) ?_
      intro d2 r2 hh
      dsimp only at hh
      obtain ⟨hb, hr⟩ := hh
      dsimp only
      exact Tot.gd (by constructor <;> omega) (ih' _ _ d2 (Rd.mono hr (by omega)) (by omega) (h5.bnd (by omega) hb))
    · exact y6f h2 (by omega) hX h5
  · exact y6f h2 (by omega) hX h5
  · exact y6f h2 (by omega) hX h5
end Go.Am.Pl
end
section
namespace Go.Am.Pl
open Go
end Go.Am.Pl
end
section
namespace Go.Am.Pl
open Go
end Go.Am.Pl
end
section
namespace Go.Am.Pl
open Go
structure HInv (h : GHouse) : Prop where
  lens : GHouse.lens (· ≤ 1048576) h
  one : 1 ≤ h.nets.length
  net : ∀ r ∈ h.runs, 0 ≤ r.net ∧ r.net < h.nets.length
  many : h.runs.length ≤ 5
theorem HInv.small {h : GHouse} (H : HInv h) : houseSmall h := yr0 H.lens
end Go.Am.Pl
end
section
namespace Go.Am.Pl
open Go
structure LogOk' (log : List GReq) : Prop where
  len : log.length ≤ 150
  case : ∀ r ∈ log, 0 ≤ r.case
end Go.Am.Pl
end
section
namespace Go.Am.Pl
open Go
structure StartF (n : GNet) (people : List Int) (c : GCase) (t who : Int) : Prop where
  cas : casB n c = true
  run : c.state = 1
  ena : enaB n c.marks c.busy t = true
  may : who ∈ mayB n people c.did c.busy t
  room : c.busy.length ≠ 6
structure WorkF (n : GNet) (c : GCase) (k v num : Int) : Prop where
  cas : casB n c = true
  run : c.state = 1
  k0 : 0 ≤ k
  k1 : k < c.busy.length
  v : -1 ≤ v ∧ v ≤ 2
  num : -99 ≤ num ∧ num ≤ 99
  room : c.did.length ≠ 60
theorem yn5 {n : GNet} {c : GCase} {k v num : Int} : (casB n c && (decide (c.state = 1) && (inB k 0 ((c.busy.length : Int) - 1) && (inB v (-1) 2 && (inB num (-99) 99 && !decide ((c.did.length : Int) = 60)))))) = true ↔ WorkF n c k v num := by
  simp only [zA, zE, z19, Bool.not_eq_true', decide_eq_false_iff_not]
  constructor
  · rintro ⟨a, b, c, d, e, f⟩; exact ⟨a, b, c.1, by omega, d, e, by omega⟩
  · rintro ⟨a, b, c, d, e, f, g⟩; exact ⟨a, b, by omega, e, f, by omega⟩
theorem yn6 {n : GNet} {c : GCase} {k v num : Int} (W : WorkF n c k v num) : workB n c k v num = doneB n c k (datB c.data v num) := by
  unfold workB; rw [yn5.2 W]; rfl
theorem yw4 {n : GNet} {c : GCase} {k v num : Int} (W : ¬ WorkF n c k v num) : workB n c k v num = (c, false) := by
  unfold workB; rw [zF.2 (fun h => W (yn5.1 h))]; rfl
structure GiveF (n : GNet) (m : List Int) (t : Int) (data : List Int) : Prop where
  mrk : mrkB n m = true
  t0 : 0 ≤ t
  t1 : t < n.tasks.length
  dat : datOk data = true
  ok : okM (giveL n m (atI n.tasks t) data) = true
theorem w1c {n : GNet} {m : List Int} {t : Int} {data : List Int} : (giveB n m t data).2 = true ↔ GiveF n m t data := by
  unfold giveB
  cases e : mrkB n m && (inB t 0 ((n.tasks.length : Int) - 1) && (datOk data && okM (giveL n m (atI n.tasks t) data)))
  · constructor
    · intro h; cases h
    · rintro ⟨a, b, c, d, f⟩
      rw [a, z19.2 ⟨b, by omega⟩, d, f] at e; cases e
  · simp only [zA, z19] at e
    exact ⟨fun _ => ⟨e.1, e.2.1.1, by omega, e.2.2.1, e.2.2.2⟩, fun _ => rfl⟩
theorem w1d {n : GNet} {m : List Int} {t : Int} {data : List Int} (G : GiveF n m t data) : giveB n m t data = (giveL n m (atI n.tasks t) data, true) := by
  unfold giveB; rw [G.mrk, z19.2 (show 0 ≤ t ∧ t ≤ (n.tasks.length : Int) - 1 from ⟨G.t0, by have := G.t1; omega⟩), G.dat, G.ok]; rfl
structure HouseF (h : GHouse) : Prop where
  nets : netsB h.nets = true
  ppl : pplB h.people = true
  tree : rdrB h.tree = true
  many : h.runs.length ≤ 5
  runs : ∀ r ∈ h.runs, runB h.nets r = true
end Go.Am.Pl
end
section
namespace Go.Am.Pl
open Go
inductive WorkR (n : GNet) (c : GCase) (k : Int) (data : List Int) : GCase → Prop where
  | more (h : (atI c.busy k).did + 1 < (atI n.tasks (atI c.busy k).task).need) : WorkR n c k data (GCase.mk c.state c.marks (c.busy.set k.toNat (itD (atI c.busy k))) data c.did)
  | ends (h : ¬ (atI c.busy k).did + 1 < (atI n.tasks (atI c.busy k).task).need) (G : GiveF n c.marks (atI c.busy k).task data) (hp : 0 < atI (giveL n c.marks (atI n.tasks (atI c.busy k).task) data) 1) :
      WorkR n c k data (GCase.mk 2 (giveL n c.marks (atI n.tasks (atI c.busy k).task) data) [] data (c.did ++ [GDid.mk (atI c.busy k).task (atI c.busy k).who]))
  | goes (h : ¬ (atI c.busy k).did + 1 < (atI n.tasks (atI c.busy k).task).need) (G : GiveF n c.marks (atI c.busy k).task data) (hp : ¬ 0 < atI (giveL n c.marks (atI n.tasks (atI c.busy k).task) data) 1) :
      WorkR n c k data (GCase.mk c.state (giveL n c.marks (atI n.tasks (atI c.busy k).task) data) (c.busy.take k.toNat ++ c.busy.drop (k + 1).toNat) data (c.did ++ [GDid.mk (atI c.busy k).task (atI c.busy k).who]))
theorem w04 {n : GNet} {c : GCase} {k v num : Int} (h : (workB n c k v num).2 = true) : WorkF n c k v num ∧ WorkR n c k (datB c.data v num) (workB n c k v num).1 := by
  by_cases W : WorkF n c k v num
  case neg => rw [yw4 W] at h; cases h
  refine ⟨W, ?_⟩
  rw [yn6 W] at h ⊢
  unfold doneB at h ⊢
  split
  · exact .more (by assumption)
  · rename_i h1
    rw [if_neg h1] at h
    split
    · rename_i hg
      have G := w1c.1 hg
      rw [w1d G] at h ⊢
      split
      · exact .ends h1 G (by assumption)
      · exact .goes h1 G (by assumption)
    · rename_i hg
      rw [if_neg hg] at h; cases h
theorem yr7 {n : GNet} {c : GCase} {k v num : Int} (h : ¬ (workB n c k v num).2 = true) : workB n c k v num = (c, false) := by
  by_cases W : WorkF n c k v num
  case neg => exact yw4 W
  rw [yn6 W] at h ⊢
  unfold doneB at h ⊢
  split
  · rename_i h1; rw [if_pos h1] at h; exact absurd rfl h
  · rename_i h1
    rw [if_neg h1] at h
    split
    · rename_i hg
      rw [if_pos hg] at h
      split at h <;> exact absurd rfl h
    · rfl
end Go.Am.Pl
end
