/- Plain laws. Own work. -/
import Derived.Test.YtgolgnbgomhknaaGreatNxP1
set_option maxRecDepth 100000
set_option maxHeartbeats 2000000
set_option linter.unusedVariables false
set_option linter.unusedSimpArgs false
section
namespace Go.Am.Pl
open Go
structure CaseT (m : Nat) (c : GCase) : Prop where
  marks : c.marks.length ≤ 10
  busy : c.busy.length ≤ 7
  data : c.data.length ≤ 4
  did : c.did.length ≤ m
theorem CaseT.small {c : GCase} {m : Nat} (h : CaseT m c) (hm : m ≤ 62) : c.small := by
  obtain ⟨a, b, d, e⟩ := h
  exact ⟨by unfold SMALL; omega, by unfold SMALL; omega, by unfold SMALL; omega, by unfold SMALL; omega⟩
theorem CaseT.bnd {c d : GCase} {m : Nat} (h : CaseT m c) (hm : 61 ≤ m) (b : Bnd c d) : CaseT m d := by
  obtain ⟨p, q, r, s⟩ := b
  obtain ⟨t, u, v, w⟩ := h
  exact ⟨by omega, by omega, by omega, by omega⟩
theorem wp9 {n : GNet} {data : List Int} (hd : data.length ≤ 4) : CaseT 61 (newC n data) := by
  unfold newC
  cases e : netB n && datOk data
  · exact ⟨Nat.zero_le _, Nat.zero_le _, Nat.zero_le _, Nat.zero_le _⟩
  · rw [zA] at e
    have h1 := z4z e.1
    exact ⟨by show ((List.replicate n.places.toNat (0 : Int)).set 0 1).length ≤ 10; simp; omega, Nat.zero_le _, hd, Nat.zero_le _⟩
theorem wi7 {K : Int} {r : GRd} {n : GNet} {p : List Int} {c : GCase} (h : Rd K r) (hK : K ≤ 900000000) (hn : n.small) (hp : p.length ≤ SMALL) (hc : c.small) : Tot (z9v r n p c) (fun v => Bnd c v.1 ∧ Rd (K + 6) v.2) := by
  unfold z9v
  repeat' first
    | (refine Tot.bind2 (z1n (by assumption) (by omega)) ?_; intro a b h; dsimp only at h; obtain ⟨⟨_, _⟩, _⟩ := h; try dsimp only)
    | (refine Tot.bind2 (z1n (by assumption) (by omega)) ?_; intro a b h; dsimp only at h; obtain ⟨⟨_, _⟩, _⟩ := h; try dsimp only)
    | (refine Tot.gd (by first | omega | (constructor <;> omega) | (simp only [zL, zC, zN, zS, List.length_drop, SMALL]; omega)) ?_)
    | (refine Tot.getI (by omega) (by first | omega | (simp only [zC, zN, zS, zL]; omega)) ?_; intro x hx hg)
    | (refine Tot.iteD (fun _ => ?_) (fun _ => ?_))
    | refine Tot.bindE (y8o n c _ _ _ hn hc) ?_
    | (refine Tot.bindE (y6j n c.marks c.busy hn hc.1 hc.2.1) ?_; generalize tasksB n c.marks c.busy = ts)
    | (refine Tot.bindE (y54 n p c.did c.busy _ hn hp hc.2.2.2 hc.2.1) ?_; generalize mayB n p c.did c.busy _ = ms)
    | refine Tot.bindE (y6i n p c _ _ hn hp hc) ?_
    | exact Tot.pure ⟨yk6 n c _ _ _, Rd.mono (by assumption) (by omega)⟩
    | exact Tot.pure ⟨yv2 n p c _ _, Rd.mono (by assumption) (by omega)⟩
    | exact Tot.pure ⟨Bnd.refl c, Rd.mono (by assumption) (by omega)⟩
abbrev CaseQ (K : Int) (v : GNet × List Int × GCase × GRd) : Prop := NetT v.1 ∧ v.2.1.length ≤ 5 ∧ CaseT 62 v.2.2.1 ∧ Rd K v.2.2.2
theorem w84 {K : Int} {n : Int} {x : GNet} {p : List Int} (hK : K ≤ 400000000) (hX : NetT x) (hp : p.length ≤ 5) {b : List Int} {q : Int} {k : Int} {c : GCase} (h : Rd K (GRd.mk b q)) (hc : CaseT 61 c) (k0 : 0 ≤ k) (k1 : k ≤ 16) :
    Tot (z2j p x (z4x n p x) FUEL b q c.state k c.marks c.busy c.data c.did) (CaseQ (K + 500)) := by
  have hps : p.length ≤ SMALL := by unfold SMALL; omega
  have key := Tot.loopF (Q := CaseQ (K + 500)) (fun s : List Int × Int × Int × GCase => Rd (K + 6 * (16 - s.2.2.1)) (GRd.mk s.1 s.2.1) ∧ 0 ≤ s.2.2.1 ∧ s.2.2.1 ≤ 16 ∧ CaseT 61 s.2.2.2) (fun s => s.2.2.1.toNat)
    (fun f s => z2j p x (z4x n p x) f s.1 s.2.1 s.2.2.2.state s.2.2.1 s.2.2.2.marks s.2.2.2.busy s.2.2.2.data s.2.2.2.did) (fun f s hi ih => ?_) (b, q, k, c) (by dsimp only; omega) ⟨by dsimp only; exact h.mono (by omega), k0, k1, hc⟩
  · exact key
  obtain ⟨b0, q0, i, d⟩ := s
  obtain ⟨h1, h2, h3, h4⟩ := hi
  dsimp only at h1 h2 h3 h4 ⊢
  have ih' : ∀ b q (d : GCase), Rd (K + 6 * (16 - (i - 1))) (GRd.mk b q) → 1 ≤ i → CaseT 61 d → Tot (z2j p x (z4x n p x) f b q d.state (i - 1) d.marks d.busy d.data d.did) (CaseQ (K + 500)) :=
    fun b q d g1 g2 g3 => ih (b, q, i - 1, d) ⟨g1, by dsimp only; omega, by dsimp only; omega, g3⟩ (by dsimp only; omega)
  rw [z2j]
  refine Tot.iteD (fun c => ?_) (fun c => ?_)
  · refine Tot.bind2 (wi7 h1 (by omega) hX.small hps (h4.small (by omega))) ?_
    intro d2 r2 hh
    dsimp only at hh
    obtain ⟨hb, hr⟩ := hh
    dsimp only
    exact Tot.gd (by constructor <;> omega) (ih' _ _ d2 (Rd.mono hr (by omega)) (by omega) (h4.bnd (by omega) hb))
  · have h5 : i = 0 := by omega
    subst h5
    obtain ⟨t1, t2, t3, t4⟩ := h4
    unfold z4x
    repeat' first
      | (refine Tot.bind2 (w6u (by assumption) (by omega)) ?_; intro a b h; dsimp only at h; obtain ⟨_, _⟩ := h; try dsimp only)
      | (refine Tot.bind2 (w98 (by assumption) (by omega) hX.pl) ?_; intro a b h; dsimp only at h; obtain ⟨_, _⟩ := h; try dsimp only)
      | (refine Tot.bind2 (we5 (by assumption) (by omega) hX.one) ?_; intro a b h; dsimp only at h; obtain ⟨_, _⟩ := h; try dsimp only)
      | (refine Tot.bind2 (w61 (by assumption) (by omega)) ?_; intro a b h; dsimp only at h; obtain ⟨_, _⟩ := h; try dsimp only)
      | (refine Tot.bind2 (yu7 (by assumption) (by omega)) ?_; intro a b h; dsimp only at h; obtain ⟨_, _⟩ := h; try dsimp only)
      | (refine Tot.bind2 (z1n (by assumption) (by omega)) ?_; intro a b h; dsimp only at h; obtain ⟨⟨_, _⟩, _⟩ := h; try dsimp only)
      | (refine Tot.gd (by first | omega | (constructor <;> omega) | (simp only [zL, zC, zN, zS, List.length_drop, SMALL]; omega)) ?_)
      | (refine Tot.getI (by omega) (by first | omega | (simp only [zC, zN, zS, zL]; omega)) ?_; intro x hx hg)
      | (refine Tot.iteD (fun _ => ?_) (fun _ => ?_))
      | exact Tot.pure ⟨hX, hp, ⟨by first | (dsimp only; omega) | (dsimp only; simp only [zL, zC, zN, zS, List.length_drop]; omega), by dsimp only; omega, by dsimp only; omega, by first | (dsimp only; omega) | (dsimp only; simp only [zL, zC, zN, zS, List.length_drop]; omega)⟩, Rd.mono (by assumption) (by omega)⟩
      | exact Tot.pure ⟨by assumption, hp, ⟨by dsimp only; omega, by dsimp only; omega, by dsimp only; omega, by dsimp only; omega⟩, Rd.mono (by assumption) (by omega)⟩
      | exact Tot.pure ⟨hX, by assumption, ⟨by dsimp only; omega, by dsimp only; omega, by dsimp only; omega, by dsimp only; omega⟩, Rd.mono (by assumption) (by omega)⟩
theorem we8 {K : Int} {r : GRd} {n : Int} (h : Rd K r) (hK : K ≤ 300000000) : Tot (z9u r n) (CaseQ (K + 1000)) := by
  unfold z9u
  refine Tot.bind2 (w9a h (by omega)) ?_
  intro x r1 hh; dsimp only at hh; obtain ⟨hx, h1⟩ := hh; dsimp only
  refine Tot.bind2 (yu7 h1 (by omega)) ?_
  intro p r2 hh; dsimp only at hh; obtain ⟨hp, h2⟩ := hh; dsimp only
  refine Tot.bind2 (w61 h2 (by omega)) ?_
  intro dt r3 hh; dsimp only at hh; obtain ⟨hd, h3⟩ := hh; dsimp only
  have hT := wj9 hx
  refine Tot.bindE (w5d x dt hT.small (by unfold SMALL; omega)) ?_
  refine Tot.bind2 (z1n h3 (by omega)) ?_
  intro a r4 hh; dsimp only at hh; obtain ⟨⟨a0, a1⟩, h4⟩ := hh; dsimp only
  refine Tot.bind2 (z1n h4 (by omega)) ?_
  intro a2 r5 hh; dsimp only at hh; obtain ⟨⟨a3, a4⟩, h5⟩ := hh; dsimp only
  refine Tot.getI (by omega) (by simp only [zC, zN]; omega) ?_
  intro k hk _
  have hk : 0 ≤ k ∧ k ≤ 16 := by
    simp only [zM, List.not_mem_nil, or_false] at hk
    omega
  exact (w84 (n := n) (by omega) hT hp (Rd.eta h5) (wp9 hd) hk.1 hk.2).mono fun v hv => ⟨hv.1, hv.2.1, hv.2.2.1, Rd.mono hv.2.2.2 (by omega)⟩
theorem wh3 (code : List Int) (hc : ∀ y ∈ code, 0 ≤ y ∧ y ≤ 255) : Tot (z9t code) (fun r => Rd 0 r) := by
  unfold z9t
  refine Tot.iteD (fun c => Tot.gd ⟨by omega, by omega⟩ (Tot.pure ⟨fun y hy => hc y (List.mem_of_mem_take hy), by show (code.take _).length ≤ 2000; rw [List.length_take]; omega, Int.le_refl _, Int.le_refl _⟩)) (fun c => Tot.pure ⟨hc, by show code.length ≤ 2000; omega, Int.le_refl _, Int.le_refl _⟩)
theorem drawDrvNext (code : List Int) (hc : ∀ y ∈ code, 0 ≤ y ∧ y ≤ 255) : Tot (z5n code) (fun v => NetT v.1 ∧ v.2.1.length ≤ 5 ∧ CaseT 62 v.2.2) := by
  unfold z5n
  refine Tot.bind (wh3 code hc) fun r h => ?_
  refine Tot.bind (we8 h (by omega)) fun v hv => ?_
  exact Tot.pure ⟨hv.1, hv.2.1, hv.2.2.1⟩
end Go.Am.Pl
end
section
namespace Go.Am.Pl
open Go
theorem w4p {α : Type} [DecidableEq α] (a b : List α) (hs : a.length ≤ SMALL) (hl : a.length = b.length) (f : Nat → Int → Option Bool) (kx : Option Bool) (h0 : ∀ n, f (n + 1) (a.length : Int) = kx)
    (h1 : ∀ n i x y, x ∈ a → y ∈ b → getI a i = some x → getI b i = some y → i < (a.length : Int) → ok64 (i + 1) → f (n + 1) i = if x = y then f n (i + 1) else some false) : f FUEL 0 = if a = b then kx else some false := by
  have := scan0 a (by unfold SMALL at hs; omega) f (fun pre suf => if suf = b.drop pre.length then kx else some false) (fun n => by rw [h0, hl, List.drop_length]; simp)
    (fun n pre x suf e g c d ih => by
      have hlt : pre.length < b.length := by rw [← hl]; omega
      have hb : getI b (pre.length : Int) = some b[pre.length] := by rw [zd3, List.getElem?_eq_getElem hlt]
      rw [h1 n _ x b[pre.length] (by rw [e]; simp) (List.getElem_mem hlt) g hb c d, ih, List.drop_eq_getElem_cons hlt]
      have hl1 : (pre ++ [x]).length = pre.length + 1 := by simp
      rw [hl1]
      by_cases h : x = b[pre.length]
      · rw [if_pos h]
        by_cases h2 : suf = b.drop (pre.length + 1)
        · rw [if_pos h2, if_pos (by rw [h2, ← h])]
        · rw [if_neg h2, if_neg (fun h3 => h2 (List.cons.inj h3).2)]
      · rw [if_neg h, if_neg (fun h3 => h (List.cons.inj h3).1)])
  rw [this]; rfl
theorem w8z {α : Type} [DecidableEq α] {a b : List α} {X : Option Bool} (h : a.length = b.length → X = some (decide (a = b))) : (if decide ((a.length : Int) = (b.length : Int)) = true then X else some false) = some (decide (a = b)) := by
  by_cases hl : a.length = b.length
  · rw [if_pos (zT (by omega)), h hl]
  · rw [if_neg (by rw [zE]; omega), decide_eq_false (fun e => hl (by rw [e]))]
theorem w4t {p : Prop} [Decidable p] : (if p then some true else some false) = some (decide p) := by by_cases h : p <;> simp [h]
theorem w8y (a b : List Int) (hs : a.length ≤ SMALL) : z89 a b = some (decide (a = b)) := by
  unfold z89
  refine w8z fun hl => ?_
  rw [w4p a b hs hl (z3z a b zz1) (some true) (fun n => by rw [z3z, if_neg (by simp)]; rfl) (fun n i x y _ _ hx hy hi ho => by
    rw [z3z, if_pos (zT hi), hx, zB, hy, zB, z01 ho]; simp only [zE]), w4t]
theorem wm3 (a b : List GItem) (hs : a.length ≤ SMALL) : ze3 a b = some (decide (a = b)) := by
  unfold ze3
  refine w8z fun hl => ?_
  rw [w4p a b hs hl (z3y a b zz0) (some true) (fun n => by rw [z3y, if_neg (by simp)]; rfl) (fun n i x y _ _ hx hy hi ho => by
    rw [z3y, if_pos (zT hi), hx, zB, hy, zB, z01 ho]
    have e : ([x.task, x.who, x.did] = [y.task, y.who, y.did]) ↔ x = y := by cases x; cases y; simp
    simp only [zE, e]), w4t]
theorem wp5 (a b : List GDid) (hs : a.length ≤ SMALL) : zj0 a b = some (decide (a = b)) := by
  unfold zj0
  refine w8z fun hl => ?_
  rw [w4p a b hs hl (z4o a b y1m) (some true) (fun n => by rw [z4o, if_neg (by simp)]; rfl) (fun n i x y _ _ hx hy hi ho => by
    rw [z4o, if_pos (zT hi), hx, zB, hy, zB, z01 ho]
    have e : ([x.task, x.who] = [y.task, y.who]) ↔ x = y := by cases x; cases y; simp
    simp only [zE, e]), w4t]
theorem iteS {p : Prop} [Decidable p] {q : Prop} [Decidable q] : (if decide p = true then some (decide q) else some false) = some (decide (p ∧ q)) := by by_cases h : p <;> simp [h]
theorem w02 (a b : GCase) (hs : a.small) : z2y a b = some (decide (a = b)) := by
  obtain ⟨h1, h2, h3, h4⟩ := hs
  unfold z2y
  simp only [w8y _ _ h1, wm3 _ _ h2, w8y _ _ h3, wp5 _ _ h4, zB, iteS]
  congr 1
  refine decide_eq_decide.2 ?_
  cases a; cases b; simp
theorem gu_Ok : z78 = some true := by
  unfold z78
  rw [y2t _ (by simp [SMALL])]; rfl
theorem wp6 (l : List Int) (n : Int) (hs : l.length ≤ SMALL) : zj1 l n = some (l.any fun x => decide (x = n)) := by
  unfold zj1
  exact scan0 l (by unfold SMALL at hs; omega) (z4p l n y1n) (fun _ suf => some (suf.any fun x => decide (x = n))) (fun f => by rw [z4p, if_neg (by simp)]; rfl)
    (fun f pre x suf a b c d ih => by
      rw [z4p, if_pos (zT c), b, zB, z01 d, ih, List.any_cons]
      by_cases h : x = n <;> simp [h])
end Go.Am.Pl
end
section
namespace Go.Am.Pl
open Go
end Go.Am.Pl
end
section
namespace Go.Am.Pl
open Go
structure HInv (h : GHouse) : Prop where
  lens : GHouse.lens (· ≤ 1048576) h
  one : 1 ≤ h.nets.length
  net : ∀ r ∈ h.runs, 0 ≤ r.net ∧ r.net < h.nets.length
  many : h.runs.length ≤ 5
theorem HInv.small {h : GHouse} (H : HInv h) : houseSmall h := w5c H.lens
end Go.Am.Pl
end
section
namespace Go.Am.Pl
open Go
structure LogOk' (log : List GReq) : Prop where
  len : log.length ≤ 150
  case : ∀ r ∈ log, 0 ≤ r.case
end Go.Am.Pl
end
section
namespace Go.Am.Pl
open Go
structure StartF (n : GNet) (people : List Int) (c : GCase) (t who : Int) : Prop where
  cas : casB n c = true
  run : c.state = 1
  ena : enaB n c.marks c.busy t = true
  may : who ∈ mayB n people c.did c.busy t
  room : c.busy.length ≠ 6
theorem w5j {n : GNet} {people : List Int} {c : GCase} {t who : Int} : startOk n people c t who = true ↔ StartF n people c t who := by
  unfold startOk
  simp only [zA, zE, List.any_eq_true, exists_eq_right, Bool.not_eq_true', decide_eq_false_iff_not]
  constructor
  · rintro ⟨a, b, d, e, f⟩; exact ⟨a, b, d, e, by omega⟩
  · rintro ⟨a, b, d, e, f⟩; exact ⟨a, b, d, e, by omega⟩
structure WorkF (n : GNet) (c : GCase) (k v num : Int) : Prop where
  cas : casB n c = true
  run : c.state = 1
  k0 : 0 ≤ k
  k1 : k < c.busy.length
  v : -1 ≤ v ∧ v ≤ 2
  num : -99 ≤ num ∧ num ≤ 99
  room : c.did.length ≠ 60
structure GiveF (n : GNet) (m : List Int) (t : Int) (data : List Int) : Prop where
  mrk : mrkB n m = true
  t0 : 0 ≤ t
  t1 : t < n.tasks.length
  dat : datOk data = true
  ok : okM (giveL n m (atI n.tasks t) data) = true
structure HouseF (h : GHouse) : Prop where
  nets : netsB h.nets = true
  ppl : pplB h.people = true
  tree : rdrB h.tree = true
  many : h.runs.length ≤ 5
  runs : ∀ r ∈ h.runs, runB h.nets r = true
end Go.Am.Pl
end
section
namespace Go.Am.Pl
open Go
inductive WorkR (n : GNet) (c : GCase) (k : Int) (data : List Int) : GCase → Prop where
  | more (h : (atI c.busy k).did + 1 < (atI n.tasks (atI c.busy k).task).need) : WorkR n c k data (GCase.mk c.state c.marks (c.busy.set k.toNat (itD (atI c.busy k))) data c.did)
  | ends (h : ¬ (atI c.busy k).did + 1 < (atI n.tasks (atI c.busy k).task).need) (G : GiveF n c.marks (atI c.busy k).task data) (hp : 0 < atI (giveL n c.marks (atI n.tasks (atI c.busy k).task) data) 1) :
      WorkR n c k data (GCase.mk 2 (giveL n c.marks (atI n.tasks (atI c.busy k).task) data) [] data (c.did ++ [GDid.mk (atI c.busy k).task (atI c.busy k).who]))
  | goes (h : ¬ (atI c.busy k).did + 1 < (atI n.tasks (atI c.busy k).task).need) (G : GiveF n c.marks (atI c.busy k).task data) (hp : ¬ 0 < atI (giveL n c.marks (atI n.tasks (atI c.busy k).task) data) 1) :
      WorkR n c k data (GCase.mk c.state (giveL n c.marks (atI n.tasks (atI c.busy k).task) data) (c.busy.take k.toNat ++ c.busy.drop (k + 1).toNat) data (c.did ++ [GDid.mk (atI c.busy k).task (atI c.busy k).who]))
end Go.Am.Pl
end
