/- Plain laws. Own work. -/
import Derived.Test.YtgolgnbgomhknaaGreatRuP1
set_option maxRecDepth 100000
set_option maxHeartbeats 2000000
set_option linter.unusedVariables false
set_option linter.unusedSimpArgs false
section
namespace Go.Am.Pl
open Go
structure CaseT (m : Nat) (c : GCase) : Prop where
  marks : c.marks.length ≤ 10
  busy : c.busy.length ≤ 7
  data : c.data.length ≤ 4
  did : c.did.length ≤ m
theorem CaseT.small {c : GCase} {m : Nat} (h : CaseT m c) (hm : m ≤ 62) : c.small := by
  obtain ⟨a, b, d, e⟩ := h
  exact ⟨by unfold SMALL; omega, by unfold SMALL; omega, by unfold SMALL; omega, by unfold SMALL; omega⟩
theorem CaseT.bnd {c d : GCase} {m : Nat} (h : CaseT m c) (hm : 61 ≤ m) (b : Bnd c d) : CaseT m d := by
  obtain ⟨p, q, r, s⟩ := b
  obtain ⟨t, u, v, w⟩ := h
  exact ⟨by omega, by omega, by omega, by omega⟩
theorem vz9 {n : GNet} {data : List Int} (hd : data.length ≤ 4) : CaseT 61 (newC n data) := by
  unfold newC
  cases e : netB n && datOk data
  · exact ⟨Nat.zero_le _, Nat.zero_le _, Nat.zero_le _, Nat.zero_le _⟩
  · rw [zA] at e
    have h1 := z5y e.1
    exact ⟨by show ((List.replicate n.places.toNat (0 : Int)).set 0 1).length ≤ 10; simp; omega, Nat.zero_le _, hd, Nat.zero_le _⟩
theorem vq6 {K : Int} {r : GRd} {n : GNet} {p : List Int} {c : GCase} (h : Rd K r) (hK : K ≤ 900000000) (hn : n.small) (hp : p.length ≤ SMALL) (hc : c.small) : Tot (zp8 r n p c) (fun v => Bnd c v.1 ∧ Rd (K + 6) v.2) := by
  unfold zp8
  repeat' first
    | (refine Tot.bind2 (z0f (by assumption) (by omega)) ?_; intro a b h; dsimp only at h; obtain ⟨⟨_, _⟩, _⟩ := h; try dsimp only)
    | (refine Tot.bind2 (z0f (by assumption) (by omega)) ?_; intro a b h; dsimp only at h; obtain ⟨⟨_, _⟩, _⟩ := h; try dsimp only)
    | (refine Tot.gd (by first | omega | (constructor <;> omega) | (simp only [zL, zC, zN, zS, List.length_drop, SMALL]; omega)) ?_)
    | (refine Tot.getI (by omega) (by first | omega | (simp only [zC, zN, zS, zL]; omega)) ?_; intro x hx hg)
    | (refine Tot.iteD (fun _ => ?_) (fun _ => ?_))
    | refine Tot.bindE (w3g n c _ _ _ hn hc) ?_
    | (refine Tot.bindE (y61 n c.marks c.busy hn hc.1 hc.2.1) ?_; generalize tasksB n c.marks c.busy = ts)
    | (refine Tot.bindE (w99 n p c.did c.busy _ hn hp hc.2.2.2 hc.2.1) ?_; generalize mayB n p c.did c.busy _ = ms)
    | refine Tot.bindE (w0h n p c _ _ hn hp hc) ?_
    | exact Tot.pure ⟨v4g n c _ _ _, Rd.mono (by assumption) (by omega)⟩
    | exact Tot.pure ⟨wn2 n p c _ _, Rd.mono (by assumption) (by omega)⟩
    | exact Tot.pure ⟨Bnd.refl c, Rd.mono (by assumption) (by omega)⟩
abbrev CaseQ (K : Int) (v : GNet × List Int × GCase × GRd) : Prop := NetT v.1 ∧ v.2.1.length ≤ 5 ∧ CaseT 62 v.2.2.1 ∧ Rd K v.2.2.2
theorem v97 {K : Int} {n : Int} {x : GNet} {p : List Int} (hK : K ≤ 400000000) (hX : NetT x) (hp : p.length ≤ 5) {b : List Int} {q : Int} {k : Int} {c : GCase} (h : Rd K (GRd.mk b q)) (hc : CaseT 61 c) (k0 : 0 ≤ k) (k1 : k ≤ 16) :
    Tot (z3r p x (z7n n p x) FUEL b q c.state k c.marks c.busy c.data c.did) (CaseQ (K + 500)) := by
  have hps : p.length ≤ SMALL := by unfold SMALL; omega
  have key := Tot.loopF (Q := CaseQ (K + 500)) (fun s : List Int × Int × Int × GCase => Rd (K + 6 * (16 - s.2.2.1)) (GRd.mk s.1 s.2.1) ∧ 0 ≤ s.2.2.1 ∧ s.2.2.1 ≤ 16 ∧ CaseT 61 s.2.2.2) (fun s => s.2.2.1.toNat)
    (fun f s => z3r p x (z7n n p x) f s.1 s.2.1 s.2.2.2.state s.2.2.1 s.2.2.2.marks s.2.2.2.busy s.2.2.2.data s.2.2.2.did) (fun f s hi ih => ?_) (b, q, k, c) (by dsimp only; omega) ⟨by dsimp only; exact h.mono (by omega), k0, k1, hc⟩
  · exact key
  obtain ⟨b0, q0, i, d⟩ := s
  obtain ⟨h1, h2, h3, h4⟩ := hi
  dsimp only at h1 h2 h3 h4 ⊢
  have ih' : ∀ b q (d : GCase), Rd (K + 6 * (16 - (i - 1))) (GRd.mk b q) → 1 ≤ i → CaseT 61 d → Tot (z3r p x (z7n n p x) f b q d.state (i - 1) d.marks d.busy d.data d.did) (CaseQ (K + 500)) :=
    fun b q d g1 g2 g3 => ih (b, q, i - 1, d) ⟨g1, by dsimp only; omega, by dsimp only; omega, g3⟩ (by dsimp only; omega)
  rw [z3r]
  refine Tot.iteD (fun c => ?_) (fun c => ?_)
  · refine Tot.bind2 (vq6 h1 (by omega) hX.small hps (h4.small (by omega))) ?_
    intro d2 r2 hh
    dsimp only at hh
    obtain ⟨hb, hr⟩ := hh
    dsimp only
    exact Tot.gd (by constructor <;> omega) (ih' _ _ d2 (Rd.mono hr (by omega)) (by omega) (h4.bnd (by omega) hb))
  · have h5 : i = 0 := by omega
    subst h5
    obtain ⟨t1, t2, t3, t4⟩ := h4
    unfold z7n
    repeat' first
      | (refine Tot.bind2 (wk7 (by assumption) (by omega)) ?_; intro a b h; dsimp only at h; obtain ⟨_, _⟩ := h; try dsimp only)
      | (refine Tot.bind2 (vc0 (by assumption) (by omega) hX.pl) ?_; intro a b h; dsimp only at h; obtain ⟨_, _⟩ := h; try dsimp only)
      | (refine Tot.bind2 (vk8 (by assumption) (by omega) hX.one) ?_; intro a b h; dsimp only at h; obtain ⟨_, _⟩ := h; try dsimp only)
      | (refine Tot.bind2 (zv3 (by assumption) (by omega)) ?_; intro a b h; dsimp only at h; obtain ⟨_, _⟩ := h; try dsimp only)
      | (refine Tot.bind2 (yi9 (by assumption) (by omega)) ?_; intro a b h; dsimp only at h; obtain ⟨_, _⟩ := h; try dsimp only)
      | (refine Tot.bind2 (z0f (by assumption) (by omega)) ?_; intro a b h; dsimp only at h; obtain ⟨⟨_, _⟩, _⟩ := h; try dsimp only)
      | (refine Tot.gd (by first | omega | (constructor <;> omega) | (simp only [zL, zC, zN, zS, List.length_drop, SMALL]; omega)) ?_)
      | (refine Tot.getI (by omega) (by first | omega | (simp only [zC, zN, zS, zL]; omega)) ?_; intro x hx hg)
      | (refine Tot.iteD (fun _ => ?_) (fun _ => ?_))
      | exact Tot.pure ⟨hX, hp, ⟨by first | (dsimp only; omega) | (dsimp only; simp only [zL, zC, zN, zS, List.length_drop]; omega), by dsimp only; omega, by dsimp only; omega, by first | (dsimp only; omega) | (dsimp only; simp only [zL, zC, zN, zS, List.length_drop]; omega)⟩, Rd.mono (by assumption) (by omega)⟩
      | exact Tot.pure ⟨by assumption, hp, ⟨by dsimp only; omega, by dsimp only; omega, by dsimp only; omega, by dsimp only; omega⟩, Rd.mono (by assumption) (by omega)⟩
      | exact Tot.pure ⟨hX, by assumption, ⟨by dsimp only; omega, by dsimp only; omega, by dsimp only; omega, by dsimp only; omega⟩, Rd.mono (by assumption) (by omega)⟩
theorem vk9 {K : Int} {r : GRd} {n : Int} (h : Rd K r) (hK : K ≤ 300000000) : Tot (zp4 r n) (CaseQ (K + 1000)) := by
  unfold zp4
  refine Tot.bind2 (wx0 h (by omega)) ?_
  intro x r1 hh; dsimp only at hh; obtain ⟨hx, h1⟩ := hh; dsimp only
  refine Tot.bind2 (yi9 h1 (by omega)) ?_
  intro p r2 hh; dsimp only at hh; obtain ⟨hp, h2⟩ := hh; dsimp only
  refine Tot.bind2 (zv3 h2 (by omega)) ?_
  intro dt r3 hh; dsimp only at hh; obtain ⟨hd, h3⟩ := hh; dsimp only
  have hT := v72 hx
  refine Tot.bindE (yu3 x dt hT.small (by unfold SMALL; omega)) ?_
  refine Tot.bind2 (z0f h3 (by omega)) ?_
  intro a r4 hh; dsimp only at hh; obtain ⟨⟨a0, a1⟩, h4⟩ := hh; dsimp only
  refine Tot.bind2 (z0f h4 (by omega)) ?_
  intro a2 r5 hh; dsimp only at hh; obtain ⟨⟨a3, a4⟩, h5⟩ := hh; dsimp only
  refine Tot.getI (by omega) (by simp only [zC, zN]; omega) ?_
  intro k hk _
  have hk : 0 ≤ k ∧ k ≤ 16 := by
    simp only [zM, List.not_mem_nil, or_false] at hk
    omega
  exact (v97 (n := n) (by omega) hT hp (Rd.eta h5) (vz9 hd) hk.1 hk.2).mono fun v hv => ⟨hv.1, hv.2.1, hv.2.2.1, Rd.mono hv.2.2.2 (by omega)⟩
theorem vo5 (code : List Int) (hc : ∀ y ∈ code, 0 ≤ y ∧ y ≤ 255) : Tot (zp2 code) (fun r => Rd 0 r) := by
  unfold zp2
  refine Tot.iteD (fun c => Tot.gd ⟨by omega, by omega⟩ (Tot.pure ⟨fun y hy => hc y (List.mem_of_mem_take hy), by show (code.take _).length ≤ 2000; rw [List.length_take]; omega, Int.le_refl _, Int.le_refl _⟩)) (fun c => Tot.pure ⟨hc, by show code.length ≤ 2000; omega, Int.le_refl _, Int.le_refl _⟩)
end Go.Am.Pl
end
section
namespace Go.Am.Pl
open Go
theorem v9d {a b : List Int} (hl : a.length ≤ SMALL) (hab : a.length = b.length) (c : Option Bool) (f : Nat → Int → Option Bool) (h0 : ∀ n, f (n + 1) (a.length : Int) = c)
    (h1 : ∀ n i x y, getI a i = some x → getI b i = some y → i < (a.length : Int) → ok64 (i + 1) → f (n + 1) i = if decide (x = y) = true then f n (i + 1) else some false) :
    f FUEL 0 = if decide (a = b) = true then c else some false := by
  have := scan0 a (by unfold SMALL at hl; omega) f (fun pre suf => if decide (suf = b.drop pre.length) = true then c else some false)
    (fun n => by rw [h0, hab, List.drop_eq_nil_of_le (Nat.le_refl _)]; rfl)
    (fun n pre x suf ha hg hlt hok ih => by
      have hk : pre.length < b.length := by omega
      rw [h1 n _ x b[pre.length] hg (by rw [z3i]; exact List.getElem?_eq_getElem hk) hlt hok, ih, List.drop_eq_getElem_cons hk, zL, zJ]
      by_cases hx : x = b[pre.length]
      · rw [if_pos (zT hx)]
        by_cases hs : suf = b.drop (pre.length + 1)
        · rw [if_pos (zT hs), if_pos (zT (by rw [← hx, ← hs]))]
        · rw [if_neg (by simpa using hs), if_neg (by simp only [zE]; intro h; exact hs (List.cons.inj h).2)]
      · rw [if_neg (by simpa using hx), if_neg (by simp only [zE]; intro h; exact hx (List.cons.inj h).1)])
  simpa using this
theorem vt2 (a b : List Int) (hl : a.length ≤ SMALL) : yz1 a b = some (decide (a = b)) := by
  unfold yz1
  by_cases h : a.length = b.length
  · rw [if_pos (zT (by omega)), v9d hl h (some true) (zd9 a b (a.length : Int) w36) (fun n => by rw [zd9, if_neg (by simp)]; rfl)
      (fun n i x y ha hb hlt hok => by rw [zd9, if_pos (zT hlt), ha, zB, hb, zB, z00 hok])]
    cases decide (a = b) <;> rfl
  · rw [if_neg (by simp only [zE]; omega)]
    exact congrArg some (decide_eq_false fun e => h (by rw [e])).symm
theorem vr8 (a b : GAsk) : [a.op, a.var, a.k] = [b.op, b.var, b.k] ↔ a = b := by cases a; cases b; simp
theorem v67 (a b : GReq) (hl : a.data.length ≤ SMALL) : zy6 a b = some (decide (a = b)) := by
  unfold zy6
  have e : a.data.length = b.data.length → z3g a b (z53 a b) FUEL 0 = if decide (a.data = b.data) = true then z53 a b else some false := fun h =>
    v9d hl h _ (z3g a b (z53 a b)) (fun n => by rw [z3g, if_neg (by simp)])
      (fun n i x y ha hb hlt hok => by rw [z3g, if_pos (zT hlt), ha, zB, hb, zB, z00 hok])
  have e2 : (if decide ((a.data.length : Int) = (b.data.length : Int)) = true then z3g a b (z53 a b) FUEL 0 else some false) = if decide (a.data = b.data) = true then z53 a b else some false := by
    by_cases h : a.data.length = b.data.length
    · rw [if_pos (zT (by omega)), e h]
    · rw [if_neg (by simp only [zE]; omega), if_neg (by simp only [zE]; intro e; exact h (by rw [e]))]
  rw [e2]
  unfold z53
  refine (z9z (z9z (z9z (z9z (z9z (z9z (z9z (z9z rfl)))))))).trans (congrArg some (decide_eq_decide.2 ?_))
  rw [vr8]
  cases a; cases b; simp only [GReq.mk.injEq]
  constructor
  · rintro ⟨a, b, c, d, e, f, g, h, i⟩; exact ⟨b, c, d, e, f, g, a, h, i⟩
  · rintro ⟨b, c, d, e, f, g, a, h, i⟩; exact ⟨a, b, c, d, e, f, g, h, i⟩
theorem vb3 (a b : GReq) (hl : a.data.length ≤ SMALL) : z6m a b = some (decide (a = b)) := by
  unfold z6m
  rw [vt2 _ _ hl]
  refine (z9z (z9z (z9z (z9z (z9z (z9z (z9z (z9z rfl)))))))).trans (congrArg some (decide_eq_decide.2 ?_))
  rw [vr8]
  cases a; cases b; simp only [GReq.mk.injEq]
  constructor
  · rintro ⟨b, c, d, e, f, g, h, i, a⟩; exact ⟨b, c, d, e, f, g, a, h, i⟩
  · rintro ⟨b, c, d, e, f, g, a, h, i⟩; exact ⟨b, c, d, e, f, g, h, i, a⟩
theorem vm3 {n a b : Int} : inB n a b = true ↔ a ≤ n ∧ n ≤ b := by simp [inB]
def formB (r : GReq) : GReq :=
  if r.kind = 1 then GReq.mk r.kind 0 0 0 0 0 r.data (GAsk.mk 0 0 0) 0 else if r.kind = 2 then GReq.mk r.kind r.who r.case r.task 0 0 [] (GAsk.mk 0 0 0) 0
  else if r.kind = 3 then GReq.mk r.kind 0 r.case r.task r.var r.num [] (GAsk.mk 0 0 0) 0 else if r.kind = 4 then GReq.mk r.kind 0 r.case 0 0 0 [] (GAsk.mk 0 0 0) 0
  else GReq.mk r.kind 0 0 0 0 0 r.data r.if_ r.ans
theorem vf8 (r : GReq) (h : inB r.kind 1 5 = true) : zy5 r = some (formB r) := by
  have := vm3.1 h
  unfold zy5 formB
  by_cases h1 : r.kind = 1
  · simp [h1]
  by_cases h2 : r.kind = 2
  · simp [h1, h2]
  by_cases h3 : r.kind = 3
  · simp [h1, h2, h3]
  by_cases h4 : r.kind = 4
  · simp [h1, h2, h3, h4]
  · have h5 : r.kind = 5 := by omega
    simp [h5]
theorem v83 (r : GReq) : z5v r = some (formB r) := by
  unfold z5v formB
  by_cases h1 : r.kind = 1
  · simp [h1]
  by_cases h2 : r.kind = 2
  · simp [h1, h2]
  by_cases h3 : r.kind = 3
  · simp [h1, h2, h3]
  by_cases h4 : r.kind = 4
  · simp [h1, h2, h3, h4]
  · simp [h1, h2, h3, h4]
def reqB (r : GReq) : Bool :=
  inB r.kind 1 5 && (decide (r = formB r) && (inB r.who 0 4 && (inB r.case 0 4 && (inB r.task 0 5 && (inB r.var (-1) 2 && (inB r.num (-99) 99 && (expOk r.if_ && (inB r.ans 0 2 && ((decide (r.kind = 1) || decide (r.kind = 5)) == datOk r.data)))))))))
theorem zz0 (r : GReq) (hl : r.data.length ≤ SMALL) : z5x r = some (reqB r) := by
  unfold z5x reqB
  rw [z2o, zB]
  by_cases h : inB r.kind 1 5 = true
  · rw [if_pos h, h, vf8 r h, zB, v67 _ _ hl]
    simp only [z2o, y3v, z8n _ hl, zB]
    have e : (if decide (r.kind = 1) = true then some (true == datOk r.data) else some (decide (r.kind = 5) == datOk r.data)) = some ((decide (r.kind = 1) || decide (r.kind = 5)) == datOk r.data) := by
      by_cases h1 : r.kind = 1
      · simp [h1]
      · simp [h1]
    rw [e]
    simp only [iteB, Bool.true_and]
  · rw [if_neg h, zF.2 h]; rfl
theorem yy4 (r : GReq) (hl : r.data.length ≤ SMALL) : z92 r = some (reqB r) := by
  unfold z92 reqB
  simp only [z60, y10, z4l, w1n, zd6 _ hl, v83, vb3 _ _ hl, zB, iteB]
  by_cases h1 : r.kind = 1
  · rw [if_pos (zT h1)]
    simp only [h1, decide_true, Bool.true_or]
    rw [show (datOk r.data == true) = (true == datOk r.data) by cases datOk r.data <;> rfl]
    congr 1; ac_rfl
  · rw [if_neg (by simpa using h1)]
    simp only [h1, decide_false, Bool.false_or]
    rw [show (datOk r.data == decide (r.kind = 5)) = (decide (r.kind = 5) == datOk r.data) by cases datOk r.data <;> cases decide (r.kind = 5) <;> rfl]
    congr 1; ac_rfl
def logB (log : List GReq) : Bool := !decide (150 < (log.length : Int)) && log.all reqB
theorem w2e (log : List GReq) (hl : log.length ≤ SMALL) (hd : ∀ r ∈ log, r.data.length ≤ SMALL) : zr5 log = some (logB log) := by
  unfold zr5 logB
  have := scan0 log (by unfold SMALL at hl; omega) (z7j log ya9) (fun _ suf => some (suf.all reqB))
    (fun n => by rw [z7j, if_neg (by simp)]; rfl)
    (fun n pre x suf hl hg hlt hok ih => by
      rw [z7j, if_pos (zT hlt), hg, zB, zz0 x (hd x (by rw [hl]; simp)), zB, z00 hok, ih, iteB, List.all_cons])
  rw [this, iteN]
theorem v81 (log : List GReq) (hl : log.length ≤ SMALL) (hd : ∀ r ∈ log, r.data.length ≤ SMALL) : y15 log = some (logB log) := by
  unfold y15 logB
  rw [w0o log hl _ (fun r => !reqB r) (fun r hr => by unfold y2g; rw [yy4 r (hd r hr)]; rfl), zB, zm2, iteB]
  congr 2
  rw [Bool.eq_iff_iff]; simp
end Go.Am.Pl
end
section
namespace Go.Am.Pl
open Go
def noHouse : GHouse := GHouse.mk [] [] [] []
def setRun (h : GHouse) (k : Int) (r : GCase × Bool) : GHouse × Int :=
  if r.2 = true then (GHouse.mk h.nets h.people h.tree (h.runs.set k.toNat (GRun.mk (atI h.runs k).net r.1)), 1) else (h, 3)
noncomputable def turnB (h : GHouse) (r : GReq) : GCase × Bool :=
  if r.kind = 2 then startB (atI h.nets (atI h.runs r.case).net) h.people (atI h.runs r.case).case r.task r.who
  else if r.kind = 3 then workB (atI h.nets (atI h.runs r.case).net) (atI h.runs r.case).case r.task r.var r.num
  else stopB (atI h.nets (atI h.runs r.case).net) (atI h.runs r.case).case
def netOf (h : GHouse) (data : List Int) : Int := if (h.nets.length : Int) ≤ askB h.tree data then 0 else askB h.tree data
noncomputable def doB (h : GHouse) (r : GReq) : GHouse × Int :=
  if r.kind = 1 then (if (h.runs.length : Int) = 5 then (h, 4) else (GHouse.mk h.nets h.people h.tree (h.runs ++ [GRun.mk (netOf h r.data) (newC (atI h.nets (netOf h r.data)) r.data)]), 1))
  else if r.kind = 5 then (if (addB h.tree r.data r.if_ r.ans).2 = true then (GHouse.mk h.nets h.people (addB h.tree r.data r.if_ r.ans).1 h.runs, 1) else (h, 3))
  else if (h.runs.length : Int) ≤ r.case then (h, 2) else setRun h r.case (turnB h r)
structure HInv (h : GHouse) : Prop where
  lens : GHouse.lens (· ≤ 1048576) h
  one : 1 ≤ h.nets.length
  net : ∀ r ∈ h.runs, 0 ≤ r.net ∧ r.net < h.nets.length
  many : h.runs.length ≤ 5
theorem HInv.small {h : GHouse} (H : HInv h) : houseSmall h := zd5 H.lens
theorem zz3 {h : GHouse} (hb : houseB h = true) (hl : GHouse.lens (· ≤ 1048576) h) : HInv h := by
  simp only [houseB, netsB, runB, zA, zV, z0b, Bool.not_eq_true', decide_eq_false_iff_not] at hb
  obtain ⟨⟨a, b⟩, c, d, e, f⟩ := hb
  exact ⟨hl, by omega, fun r hr => by have := (f r hr).1; omega, by omega⟩
theorem ww9 {h : GHouse} (H : HInv h) (data : List Int) : 0 ≤ netOf h data ∧ netOf h data < h.nets.length := by
  have := H.one
  have := wk9 h.tree data
  unfold netOf; split <;> omega
theorem v4e {h : GHouse} (H : HInv h) {r : GReq} (h0 : 0 ≤ r.case) (h1 : r.case < h.runs.length) : (atI h.nets (atI h.runs r.case).net).small ∧ (atI h.runs r.case).case.small ∧ getI h.nets (atI h.runs r.case).net = some (atI h.nets (atI h.runs r.case).net) := by
  have hm := z2f h.runs h0 h1
  have hn := H.net _ hm
  have S := H.small
  exact ⟨S.1.2 _ (z2f h.nets hn.1 hn.2), S.2.2.2.2 _ hm, z0i h.nets hn.1 hn.2⟩
theorem vf7 {h : GHouse} (H : HInv h) (r : GReq) (h0 : 0 ≤ r.case) : zy4 h r = some (if (h.runs.length : Int) ≤ r.case then (h, 2) else setRun h r.case (turnB h r)) := by
  unfold zy4
  by_cases hc : (h.runs.length : Int) ≤ r.case
  · rw [if_pos (zT hc), if_pos hc]
  have hg := z0i h.runs h0 (show r.case < h.runs.length by omega)
  obtain ⟨sn, sc, hgn⟩ := v4e H h0 (show r.case < h.runs.length by omega)
  have hp := H.small.2.1
  rw [if_neg (by simpa using hc), if_neg hc, hg, zB, hgn, zB]
  unfold setRun turnB
  by_cases k2 : r.kind = 2
  · rw [if_pos (zT k2), if_pos k2, w0h _ _ _ _ _ sn hp sc, zB, zB]
    split <;> rfl
  rw [if_neg (by simpa using k2), if_neg k2]
  by_cases k3 : r.kind = 3
  · rw [if_pos (zT k3), if_pos k3, w3g _ _ _ _ _ sn sc, zB, zB]
    split <;> rfl
  rw [if_neg (by simpa using k3), if_neg k3, v45 _ _ sn sc, zB, zB]
  split <;> rfl
theorem v5z {h : GHouse} (H : HInv h) (r : GReq) (h0 : 0 ≤ r.case) (hd : r.data.length ≤ SMALL) : zn8 h r = some (doB h r) := by
  have S := H.small
  unfold zn8 doB
  by_cases k1 : r.kind = 1
  · rw [if_pos (zT k1), if_pos k1]
    by_cases hf : (h.runs.length : Int) = 5
    · rw [if_pos (zT hf), if_pos hf]
    rw [if_neg (by simpa using hf), if_neg hf, v64 _ _ S.2.2.1 hd, zB]
    have hn := ww9 H r.data
    have hg := z0i h.nets hn.1 hn.2
    have sn := S.1.2 _ (z2f h.nets hn.1 hn.2)
    have hl : ∀ y : GRun, h.runs.length + [y].length ≤ SMALL := fun y => by have := H.many; rw [zJ]; unfold SMALL; omega
    unfold netOf at hg sn ⊢
    by_cases hk : (h.nets.length : Int) ≤ askB h.tree r.data
    · rw [if_pos hk] at hg sn
      rw [if_pos (zT hk), if_pos hk, hg, zB, yu3 _ _ sn hd, zB, z00 (hl _)]
    · rw [if_neg hk] at hg sn
      rw [if_neg (by simpa using hk), if_neg hk, hg, zB, yu3 _ _ sn hd, zB, z00 (hl _)]
  rw [if_neg (by simpa using k1), if_neg k1]
  by_cases k5 : r.kind = 5
  · rw [if_pos (zT k5), if_pos k5, w9a _ _ _ _ S.2.2.1 hd, zB]
    split <;> rfl
  · rw [if_neg (by simpa using k5), if_neg k5, vf7 H r h0, zB]
theorem vb2 {h : GHouse} (H : HInv h) (r : GReq) (h0 : 0 ≤ r.case) (hd : r.data.length ≤ SMALL) : z4q h r = some ((doB h r).2, (doB h r).1) := by
  have S := H.small
  unfold z4q doB
  by_cases k1 : r.kind = 1
  · rw [if_pos (zT k1), if_pos k1]
    by_cases hf : (h.runs.length : Int) = 5
    · rw [if_pos (zT hf), if_pos hf]
    rw [if_neg (by simpa using hf), if_neg hf, v5a _ _ S.2.2.1 hd, zB]
    have hn := ww9 H r.data
    have hg := z0i h.nets hn.1 hn.2
    have sn := S.1.2 _ (z2f h.nets hn.1 hn.2)
    have hl : ∀ y : GRun, h.runs.length + [y].length ≤ SMALL := fun y => by have := H.many; rw [zJ]; unfold SMALL; omega
    unfold netOf at hg sn ⊢
    by_cases hk : (h.nets.length : Int) ≤ askB h.tree r.data
    · rw [if_pos hk] at hg sn
      rw [if_pos (zT hk), if_pos hk, hg, zB, w7n _ _ sn hd, zB, z00 (hl _)]
    · rw [if_neg hk] at hg sn
      rw [if_neg (by simpa using hk), if_neg hk, hg, zB, w7n _ _ sn hd, zB, z00 (hl _)]
  rw [if_neg (by simpa using k1), if_neg k1]
  by_cases k5 : r.kind = 5
  · rw [if_pos (zT k5), if_pos k5, v59 _ _ _ _ S.2.2.1 hd, zB]
    split <;> rfl
  rw [if_neg (by simpa using k5), if_neg k5]
  by_cases hc : (h.runs.length : Int) ≤ r.case
  · rw [if_pos (zT hc), if_pos hc]
  have hg := z0i h.runs h0 (show r.case < h.runs.length by omega)
  obtain ⟨sn, sc, hgn⟩ := v4e H h0 (show r.case < h.runs.length by omega)
  have hp := H.small.2.1
  rw [if_neg (by simpa using hc), if_neg hc, hg, zB, hgn, zB]
  unfold setRun turnB
  by_cases k2 : r.kind = 2
  · rw [if_pos (zT k2), if_pos k2, wv7 _ _ _ _ _ sn hp sc, zB]
    split <;> rfl
  rw [if_neg (by simpa using k2), if_neg k2]
  by_cases k3 : r.kind = 3
  · rw [if_pos (zT k3), if_pos k3, v2p _ _ _ _ _ sn sc, zB]
    split <;> rfl
  rw [if_neg (by simpa using k3), if_neg k3, v2o _ _ sn sc, zB]
  split <;> rfl
theorem vg2 (n : GNet) (c : GCase) : Bnd c (stopB n c).1 := by
  unfold stopB
  cases casB n c && decide (c.state = 1)
  · exact Bnd.refl c
  · exact ⟨Nat.le_refl _, .inl (Nat.zero_le _), Nat.le_refl _, .inl (Nat.le_refl _)⟩
theorem vg7 (h : GHouse) (r : GReq) : Bnd (atI h.runs r.case).case (turnB h r).1 := by
  unfold turnB
  split
  · exact wn2 _ _ _ _ _
  · split
    · exact v4g _ _ _ _ _
    · exact vg2 _ _
theorem vc3 (n : GNet) (data : List Int) : GCase.lens (· ≤ 1048576) (newC n data) := by
  unfold newC
  cases e : netB n && datOk data
  · exact ⟨Nat.zero_le _, Nat.zero_le _, Nat.zero_le _, Nat.zero_le _⟩
  · rw [zA] at e
    have h1 := z5y e.1
    have h2 := y2w e.2
    exact ⟨by show ((List.replicate n.places.toNat (0 : Int)).set 0 1).length ≤ 1048576; simp; omega, Nat.zero_le _, by show data.length ≤ 1048576; omega, Nat.zero_le _⟩
theorem v0s {tree : List GNode} {data : List Int} {e : GAsk} {ans : Int} (hl : tree.length ≤ 1048576) (hs : ∀ x ∈ tree, GNode.lens (· ≤ 1048576) x) : (addB tree data e ans).1.length ≤ 1048576 ∧ ∀ x ∈ (addB tree data e ans).1, GNode.lens (· ≤ 1048576) x := by
  unfold addB
  cases h : addOk tree data e ans && !takenB tree data e
  · exact ⟨hl, hs⟩
  · rw [zA] at h
    have h1 := h.1
    unfold addOk at h1
    rw [zA, zA] at h1
    have F := ze5 h1.1
    have hd := y2w h1.2.1
    have hlen := F.len
    refine ⟨?_, fun x hx => ?_⟩
    · show (putN tree data ++ [newN e ans data]).length ≤ _
      rw [zL, vo9, zJ]; omega
    · have hx : x ∈ putN tree data ++ [newN e ans data] := hx
      rw [zP, List.mem_singleton] at hx
      rcases hx with hx | rfl
      · unfold putN at hx
        split at hx
        · exact hs x hx
        · rename_i h0
          have hv := yi5 F data (by omega)
          have hst := hs _ (z2f tree hv.1 hv.2)
          split at hx <;> rcases List.mem_or_eq_of_mem_set hx with hx | rfl
          · exact hs x hx
          · exact hst
          · exact hs x hx
          · exact hst
      · show data.length ≤ 1048576; omega
theorem w14 {h : GHouse} (H : HInv h) (r : GReq) (h0 : 0 ≤ r.case) : HInv (doB h r).1 ∧ (doB h r).1.nets = h.nets ∧ (doB h r).1.people = h.people := by
  obtain ⟨⟨⟨a, b⟩, c, ⟨d, e⟩, f, g⟩, one, net, many⟩ := H
  unfold doB
  split
  · split
    · exact ⟨⟨⟨⟨a, b⟩, c, ⟨d, e⟩, f, g⟩, one, net, many⟩, rfl, rfl⟩
    · refine ⟨⟨⟨⟨a, b⟩, c, ⟨d, e⟩, ?_, ?_⟩, one, ?_, ?_⟩, rfl, rfl⟩
      · show (h.runs ++ [_]).length ≤ 1048576; rw [zL, zJ]; omega
      · intro y hy
        have hy : y ∈ h.runs ++ [_] := hy
        rw [zP, List.mem_singleton] at hy
        rcases hy with hy | rfl
        · exact g y hy
        · exact vc3 _ _
      · intro y hy
        have hy : y ∈ h.runs ++ [_] := hy
        rw [zP, List.mem_singleton] at hy
        rcases hy with hy | rfl
        · exact net y hy
        · exact ww9 ⟨⟨⟨a, b⟩, c, ⟨d, e⟩, f, g⟩, one, net, many⟩ _
      · show (h.runs ++ [_]).length ≤ 5; rw [zL, zJ]; omega
  · split
    · split
      · exact ⟨⟨⟨⟨a, b⟩, c, v0s d e, f, g⟩, one, net, many⟩, rfl, rfl⟩
      · exact ⟨⟨⟨⟨a, b⟩, c, ⟨d, e⟩, f, g⟩, one, net, many⟩, rfl, rfl⟩
    · split
      · exact ⟨⟨⟨⟨a, b⟩, c, ⟨d, e⟩, f, g⟩, one, net, many⟩, rfl, rfl⟩
      · rename_i hc
        unfold setRun
        split
        · have hm := z2f h.runs h0 (show r.case < h.runs.length by omega)
          refine ⟨⟨⟨⟨a, b⟩, c, ⟨d, e⟩, ?_, ?_⟩, one, ?_, ?_⟩, rfl, rfl⟩
          · show (h.runs.set _ _).length ≤ 1048576; rw [zS]; exact f
          · intro y hy
            rcases List.mem_or_eq_of_mem_set hy with hy | rfl
            · exact g y hy
            · exact (vg7 h r).lens (g _ hm)
          · intro y hy
            rcases List.mem_or_eq_of_mem_set hy with hy | rfl
            · exact net y hy
            · have := net _ hm; exact this
          · show (h.runs.set _ _).length ≤ 5; rw [zS]; exact many
        · exact ⟨⟨⟨⟨a, b⟩, c, ⟨d, e⟩, f, g⟩, one, net, many⟩, rfl, rfl⟩
theorem zj9 {r : GReq} (h : reqB r = true) : 0 ≤ r.case := by
  simp only [reqB, zA, z0b] at h
  exact h.2.2.2.1.1
noncomputable def engB (h : GHouse) (r : GReq) : GHouse × Int := bif houseB h && reqB r then doB h r else (noHouse, 0)
theorem v80 (h : GHouse) (r : GReq) (hl : GHouse.lens (· ≤ 1048576) h) (hd : r.data.length ≤ SMALL) : y14 h r = some (engB h r) := by
  have hs := zd5 hl
  unfold y14 engB
  rw [w1m h hs, zB]
  by_cases h1 : houseB h = true
  case neg => rw [if_neg h1, zF.2 h1]; rfl
  rw [if_pos h1, h1, yy4 r hd, zB]
  by_cases h2 : reqB r = true
  case neg => rw [if_neg h2, zF.2 h2]; rfl
  have H := zz3 h1 hl
  have H2 := (w14 H r (zj9 h2)).1
  rw [if_pos h2, h2, zg2 h hs, zB, vb2 H r (zj9 h2) hd, zB]
  show (z0w (doB h r).1).bind _ = _
  rw [zg2 _ H2.small, zB]; rfl
end Go.Am.Pl
end
section
namespace Go.Am.Pl
open Go
noncomputable def foldR : GHouse → List GReq → List GReq → GHouse × List GReq
  | h, log, [] => (h, log)
  | h, log, r :: rs => if (doB h r).2 = 1 then foldR (doB h r).1 (log ++ [r]) rs else foldR h log rs
theorem v9c {h : GHouse} {r : GReq} (hd : (doB h r).2 ≠ 1) : (doB h r).1 = h := by
  unfold doB setRun at *
  revert hd
  split
  · split
    · intro _; rfl
    · intro hd; exact absurd rfl hd
  · split
    · split
      · intro hd; exact absurd rfl hd
      · intro _; rfl
    · split
      · intro _; rfl
      · split
        · intro hd; exact absurd rfl hd
        · intro _; rfl
structure LogOk' (log : List GReq) : Prop where
  len : log.length ≤ 150
  case : ∀ r ∈ log, 0 ≤ r.case
theorem vb8 {log : List GReq} (h : logB log = true) : LogOk' log := by
  simp only [logB, zA, zV, Bool.not_eq_true', decide_eq_false_iff_not] at h
  exact ⟨by omega, fun r hr => zj9 (h.2 r hr)⟩
theorem vq3 (r : GReq) (hd : r.data.length ≤ SMALL) : zx8 r = some r := by unfold zx8; rw [z00 (by simpa using hd)]; rfl
theorem wv9 (r : GReq) (hd : r.data.length ≤ SMALL) : z7x r = some r := by unfold z7x; rw [z2g _ hd]; rfl
noncomputable def logRunB (h : GHouse) (reqs : List GReq) : GHouse × List GReq := bif houseB h && logB reqs then foldR h [] reqs else (noHouse, [])
theorem vs6 {l : List GReq} {n : Nat} (h : l.length ≤ n) (hn : n ≤ 1000) {y : GReq} : l.length + [y].length ≤ SMALL := by rw [zJ]; unfold SMALL; omega
theorem v61 (h : GHouse) (reqs : List GReq) (hl : GHouse.lens (· ≤ 1048576) h) (rl : reqs.length ≤ SMALL) (rd : ∀ r ∈ reqs, r.data.length ≤ SMALL) : zx4 h reqs = some (logRunB h reqs) := by
  have hs := zd5 hl
  unfold zx4 logRunB
  rw [wn0 h hs, zB]
  by_cases h1 : houseB h = true
  case neg => rw [if_neg h1, zF.2 h1]; rfl
  rw [if_pos h1, h1, w2e reqs rl rd, zB]
  by_cases h2 : logB reqs = true
  case neg => rw [if_neg h2, zF.2 h2]; rfl
  have L := vb8 h2
  rw [if_pos h2, h2, zq1 h hs, zB]
  exact scan reqs (by have := L.len; omega) (fun f i (s : GHouse × List GReq) => z4z reqs y6x f i s.1.people s.2 s.1.tree s.1.nets s.1.runs) (fun _ suf s => some (foldR s.1 s.2 suf)) (fun pre s => HInv s.1 ∧ s.2.length ≤ pre.length)
    (fun f s _ => by rw [z4z, if_neg (by simp)]; rfl)
    (fun f pre x suf s a b c d hi k => by
      obtain ⟨s1, s2⟩ := s
      obtain ⟨H, hl2⟩ := hi
      have hx : x ∈ reqs := by rw [a]; simp
      have hpl : pre.length ≤ 150 := by have := L.len; rw [a, zL] at this; omega
      have c0 := L.case x hx
      have D := w14 H x c0
      rw [z4z, if_pos (zT c)]
      show ((z6v s1).bind _) = _
      rw [zq1 s1 H.small, zB, b, zB, v5z H x c0 (rd x hx), zB, zB, vq3 x (rd x hx), zB, z00 (vs6 hl2 (by omega)), z00 d, z00 d, foldR]
      by_cases e : (doB s1 x).2 = 1
      · rw [if_pos (zT e), if_pos e]
        exact k ((doB s1 x).1, s2 ++ [x]) ⟨D.1, by show (s2 ++ [x]).length ≤ _; simp; exact hl2⟩
      · rw [if_neg (by simpa using e), if_neg e]
        exact k (s1, s2) ⟨H, by show s2.length ≤ _; simp; have : s2.length ≤ pre.length := hl2; omega⟩) FUEL (h, []) ⟨zz3 h1 hl, by simp⟩ (by have := z21; have := L.len; omega)
theorem v55 (h : GHouse) (reqs : List GReq) (hl : GHouse.lens (· ≤ 1048576) h) (rl : reqs.length ≤ SMALL) (rd : ∀ r ∈ reqs, r.data.length ≤ SMALL) : zw1 h reqs = some (logRunB h reqs) := by
  have hs := zd5 hl
  unfold zw1 logRunB
  rw [w1m h hs, zB]
  by_cases h1 : houseB h = true
  case neg => rw [if_neg h1, zF.2 h1]; rfl
  rw [if_pos h1, h1, v81 reqs rl rd, zB]
  by_cases h2 : logB reqs = true
  case neg => rw [if_neg h2, zF.2 h2]; rfl
  have L := vb8 h2
  rw [if_pos h2, h2, zg2 h hs, zB]
  exact scan reqs (by have := L.len; omega) (fun f i (s : GHouse × List GReq) => z4y reqs (reqs.length : Int) zs5 f i s.1.people s.1.nets s.1.tree s.1.runs s.2) (fun _ suf s => some (foldR s.1 s.2 suf)) (fun pre s => HInv s.1 ∧ s.2.length ≤ pre.length)
    (fun f s hi => by
      rw [z4y, if_neg (by simp)]; unfold zs5
      show (z0w s.1).bind _ = _
      rw [zg2 _ hi.1.small]; rfl)
    (fun f pre x suf s a b c d hi k => by
      obtain ⟨s1, s2⟩ := s
      obtain ⟨H, hl2⟩ := hi
      have hx : x ∈ reqs := by rw [a]; simp
      have hpl : pre.length ≤ 150 := by have := L.len; rw [a, zL] at this; omega
      have c0 := L.case x hx
      have D := w14 H x c0
      rw [z4y, if_pos (zT c), b, zB]
      show ((z4q s1 x).bind _) = _
      rw [vb2 H x c0 (rd x hx), zB, wv9 x (rd x hx), zB, z00 (vs6 hl2 (by omega)), z00 d, z00 d, foldR]
      by_cases e : (doB s1 x).2 = 1
      · rw [if_pos (zT e), if_pos e]
        exact k ((doB s1 x).1, s2 ++ [x]) ⟨D.1, by show (s2 ++ [x]).length ≤ _; simp; exact hl2⟩
      · rw [if_neg (by simpa using e), if_neg e, v9c e]
        exact k (s1, s2) ⟨H, by show s2.length ≤ _; simp; have : s2.length ≤ pre.length := hl2; omega⟩) FUEL (h, []) ⟨zz3 h1 hl, by simp⟩ (by have := z21; have := L.len; omega)
theorem zz5 : ∀ (rs : List GReq) (h : GHouse) (log : List GReq), foldR h log rs = ((foldR h [] rs).1, log ++ (foldR h [] rs).2)
  | [], h, log => by simp [foldR]
  | r :: rs, h, log => by
    unfold foldR
    split
    · rw [zz5 rs _ (log ++ [r]), zz5 rs _ ([] ++ [r])]; simp
    · exact zz5 rs h log
theorem w78 : ∀ (rs : List GReq) (h : GHouse), (foldR h [] rs).2.length ≤ rs.length
  | [], h => by simp [foldR]
  | r :: rs, h => by
    unfold foldR
    split
    · rw [zz5]; have := w78 rs (doB h r).1; simp; omega
    · have := w78 rs h; simp; omega
theorem w77 : ∀ (rs : List GReq) (h : GHouse), HInv h → (∀ r ∈ rs, 0 ≤ r.case) → HInv (foldR h [] rs).1 ∧ (foldR h [] rs).1.nets = h.nets ∧ (foldR h [] rs).1.people = h.people ∧ ∀ r ∈ (foldR h [] rs).2, r ∈ rs
  | [], h, H, _ => ⟨H, rfl, rfl, fun r hr => by simp [foldR] at hr⟩
  | r :: rs, h, H, c => by
    obtain ⟨D1, D2, D3⟩ := w14 H r (c r (by simp))
    unfold foldR
    split
    · rw [zz5]
      obtain ⟨a, b, d, e⟩ := w77 rs _ D1 (fun x hx => c x (by simp [hx]))
      refine ⟨a, b.trans D2, d.trans D3, fun x hx => ?_⟩
      have hx : x ∈ ([] ++ [r]) ++ (foldR (doB h r).1 [] rs).2 := hx
      rw [List.nil_append, zP, List.mem_singleton] at hx
      rcases hx with rfl | hx
      · simp
      · simp [e x hx]
    · obtain ⟨a, b, d, e⟩ := w77 rs h H (fun x hx => c x (by simp [hx]))
      exact ⟨a, b, d, fun x hx => by simp [e x hx]⟩
end Go.Am.Pl
end
section
namespace Go.Am.Pl
open Go
theorem v92 {α : Type} [Inhabited α] (l : List α) {v j : Int} (w : α) (hv : 0 ≤ v) (hj : 0 ≤ j) (hl : j < l.length) : atI (l.set v.toNat w) j = if v = j then w else atI l j := by
  unfold atI; rw [yy2 l w hv hj hl]; split <;> rfl
theorem v7t {α : Type} [Inhabited α] (l : List α) {v j : Int} (w : α) (hv : 0 ≤ v) (h : v ≠ j) : atI (l.set v.toNat w) j = atI l j := by
  unfold atI getI
  split
  · rw [List.getElem?_set_ne (by omega)]
  · rfl
theorem vk1 {α : Type} [Inhabited α] (a b : List α) {j : Int} (h1 : j < a.length) : atI (a ++ b) j = atI a j := by
  unfold atI getI
  split
  · rw [List.getElem?_append_left (by omega)]
  · rfl
theorem v91 {α : Type} [Inhabited α] (a : List α) (x : α) : atI (a ++ [x]) (a.length : Int) = x := by
  unfold atI; rw [z3i]; simp
theorem vt9 {α : Type} [Inhabited α] (N : Nat) (x : α) {j : Int} (h0 : 0 ≤ j) (h1 : j < N) : atI (List.replicate N x) j = x := by
  unfold atI getI
  rw [if_pos h0, List.getElem?_replicate, if_pos (by omega)]; rfl
theorem zv2 {n : GNet} {c : GCase} : casB n c = true ↔ mrkB n c.marks = true ∧ busyB n c.busy = true ∧ datOk c.data = true ∧ (c.did.length : Int) ≤ 60 ∧ (1 ≤ c.state ∧ c.state ≤ 3) ∧ c.did.all (didB n) = true ∧ stateB c = true := by
  simp only [casB, zA, z0b, Bool.not_eq_true', decide_eq_false_iff_not, Int.not_lt]
theorem v5i {n : GNet} {m : List Int} (h1 : netB n = true) (h2 : (m.length : Int) = n.places) (h3 : okM m = true) : mrkB n m = true := by
  unfold mrkB marksB
  rw [h1, zT h2]; exact h3
theorem w13 (join : Int) : ∀ (ps l : List Int), (∀ p ∈ ps, 0 ≤ p ∧ p < l.length) → capM 4 l → capM 4 (takeL join ps l)
  | [], l, _, h => h
  | p :: ps, l, hp, h => by
    have h0 := hp p (by simp)
    unfold takeL
    split
    · split
      · exact wn9 h (by assumption) h0.1 h0.2
      · exact w13 join ps _ (fun q hq => by rw [wo1]; exact hp q (by simp [hq])) (wn9 h (by assumption) h0.1 h0.2)
    · exact w13 join ps l (fun q hq => hp q (by simp [hq])) h
theorem v0o (join : Int) {q : Int} : ∀ (ps l : List Int), (∀ p ∈ ps, 0 ≤ p ∧ p ≠ q) → atI (takeL join ps l) q = atI l q
  | [], l, _ => rfl
  | p :: ps, l, hp => by
    have h0 := hp p (by simp)
    have hd : atI (dec l p) q = atI l q := v7t _ _ h0.1 h0.2
    unfold takeL
    split
    · split
      · exact hd
      · rw [v0o join ps _ (fun q hq => hp q (by simp [hq])), hd]
    · exact v0o join ps l (fun q hq => hp q (by simp [hq]))
theorem vn1 {n : GNet} (h : netB n = true) {t : GTask} (ht : t ∈ n.tasks) : ∀ p ∈ t.in_, p ≠ 1 := by
  simp only [netB, zA, zV] at h
  have := h.2.2 t ht
  simp only [taskB, zA, Bool.not_eq_true', List.any_eq_false, zE] at this
  exact this.2.2.2.1
structure StartF (n : GNet) (people : List Int) (c : GCase) (t who : Int) : Prop where
  cas : casB n c = true
  run : c.state = 1
  ena : enaB n c.marks c.busy t = true
  may : who ∈ mayB n people c.did c.busy t
  room : c.busy.length ≠ 6
theorem v68 {n : GNet} {people : List Int} {c : GCase} {t who : Int} : startOk n people c t who = true ↔ StartF n people c t who := by
  unfold startOk
  simp only [zA, zE, List.any_eq_true, exists_eq_right, Bool.not_eq_true', decide_eq_false_iff_not]
  constructor
  · rintro ⟨a, b, d, e, f⟩; exact ⟨a, b, d, e, by omega⟩
  · rintro ⟨a, b, d, e, f⟩; exact ⟨a, b, d, e, by omega⟩
theorem vm9 {n : GNet} {people : List Int} {did : List GDid} {busy : List GItem} {t who : Int} : who ∈ mayB n people did busy t ↔ netB n = true ∧ pplB people = true ∧ (0 ≤ t ∧ t < n.tasks.length) ∧ (1 ≤ who ∧ who ≤ people.length) ∧ mayW n people did busy t who = true := by
  unfold mayB
  cases e : netB n && (pplB people && inB t 0 ((n.tasks.length : Int) - 1))
  · constructor
    · intro h; simp at h
    · rintro ⟨a, b, d, _⟩
      rw [a, b, z0b.2 ⟨d.1, by omega⟩] at e; cases e
  · simp only [zA, z0b] at e
    show who ∈ (idxs people.length).filter _ ↔ _
    rw [List.mem_filter, vm0]
    constructor
    · rintro ⟨a, b⟩; exact ⟨e.1, e.2.1, by omega, a, b⟩
    · rintro ⟨_, _, _, a, b⟩; exact ⟨a, b⟩
theorem vk4 {n : GNet} {people : List Int} {c : GCase} {t who : Int} (S : StartF n people c t who) : casB n (begun n c t who) = true := by
  obtain ⟨a1, a2, a3, a4, a5, a6, a7⟩ := zv2.1 S.cas
  obtain ⟨g1, g2, g3⟩ := w6m S.ena
  obtain ⟨f1, f2, f3⟩ := z8m a1
  have hm := z2f n.tasks g3.1 g3.2
  have T := z6w f1 hm
  obtain ⟨_, hp, _, hw, _⟩ := vm9.1 S.may
  have hp4 := (w2c hp).1
  have hin : ∀ p ∈ (atI n.tasks t).in_, 0 ≤ p ∧ p < c.marks.length := fun p hp => by have := T.ins p hp; omega
  have F := zm5 S.cas
  refine zv2.2 ⟨v5i f1 (by show ((takeL _ _ c.marks).length : Int) = _; rw [w0k]; exact f2) (zn9.2 (w13 _ _ _ hin (zn9.1 f3))), ?_, a3, a4, a5, a6, ?_⟩
  · have hb := F.busyl
    have hr := S.room
    show busyB n (c.busy ++ [GItem.mk t who 0]) = true
    simp only [busyB, zA, zE] at a2 ⊢
    refine ⟨by rw [zL, zJ]; omega, ?_⟩
    rw [List.all_append, a2.2, Bool.true_and]
    simp only [List.all_cons, List.all_nil, Bool.and_true, itemB, zA, z0b]
    have := T.need
    exact ⟨by omega, by omega, by omega⟩
  · unfold stateB at a7 ⊢
    have e : (begun n c t who).state = 1 := S.run
    rw [S.run] at a7
    rw [e]
    simp only [decide_true, cond_true, zE] at a7 ⊢
    show atI (takeL _ _ c.marks) 1 = 0
    rw [v0o _ _ _ (fun p hp => ⟨(hin p hp).1, vn1 f1 hm p hp⟩)]; exact a7
theorem vg0 {n : GNet} {people : List Int} {c : GCase} {t who : Int} (h : casB n c = true) : casB n (startB n people c t who).1 = true := by
  unfold startB
  cases e : startOk n people c t who
  · exact h
  · exact vk4 (v68.1 e)
structure WorkF (n : GNet) (c : GCase) (k v num : Int) : Prop where
  cas : casB n c = true
  run : c.state = 1
  k0 : 0 ≤ k
  k1 : k < c.busy.length
  v : -1 ≤ v ∧ v ≤ 2
  num : -99 ≤ num ∧ num ≤ 99
  room : c.did.length ≠ 60
theorem v4h {n : GNet} {c : GCase} {k v num : Int} : (casB n c && (decide (c.state = 1) && (inB k 0 ((c.busy.length : Int) - 1) && (inB v (-1) 2 && (inB num (-99) 99 && !decide ((c.did.length : Int) = 60)))))) = true ↔ WorkF n c k v num := by
  simp only [zA, zE, z0b, Bool.not_eq_true', decide_eq_false_iff_not]
  constructor
  · rintro ⟨a, b, c, d, e, f⟩; exact ⟨a, b, c.1, by omega, d, e, by omega⟩
  · rintro ⟨a, b, c, d, e, f, g⟩; exact ⟨a, b, by omega, e, f, by omega⟩
theorem vh0 {n : GNet} {c : GCase} {k v num : Int} (W : WorkF n c k v num) : workB n c k v num = doneB n c k (datB c.data v num) := by
  unfold workB; rw [v4h.2 W]; rfl
theorem vr1 {n : GNet} {c : GCase} {k v num : Int} (W : ¬ WorkF n c k v num) : workB n c k v num = (c, false) := by
  unfold workB; rw [zF.2 (fun h => W (v4h.1 h))]; rfl
theorem vu7 {data : List Int} {v num : Int} (h : datOk data = true) (hn : -99 ≤ num ∧ num ≤ 99) : datOk (datB data v num) = true := by
  unfold datB
  split
  · simp only [datOk, zA, zE, zV, z0b] at h ⊢
    refine ⟨by rw [zS]; exact h.1, fun x hx => ?_⟩
    rcases List.mem_or_eq_of_mem_set hx with hx | rfl
    · exact h.2 x hx
    · exact hn
  · exact h
structure GiveF (n : GNet) (m : List Int) (t : Int) (data : List Int) : Prop where
  mrk : mrkB n m = true
  t0 : 0 ≤ t
  t1 : t < n.tasks.length
  dat : datOk data = true
  ok : okM (giveL n m (atI n.tasks t) data) = true
theorem va3 {n : GNet} {m : List Int} {t : Int} {data : List Int} : (giveB n m t data).2 = true ↔ GiveF n m t data := by
  unfold giveB
  cases e : mrkB n m && (inB t 0 ((n.tasks.length : Int) - 1) && (datOk data && okM (giveL n m (atI n.tasks t) data)))
  · constructor
    · intro h; cases h
    · rintro ⟨a, b, c, d, f⟩
      rw [a, z0b.2 ⟨b, by omega⟩, d, f] at e; cases e
  · simp only [zA, z0b] at e
    exact ⟨fun _ => ⟨e.1, e.2.1.1, by omega, e.2.2.1, e.2.2.2⟩, fun _ => rfl⟩
theorem va4 {n : GNet} {m : List Int} {t : Int} {data : List Int} (G : GiveF n m t data) : giveB n m t data = (giveL n m (atI n.tasks t) data, true) := by
  unfold giveB; rw [G.mrk, z0b.2 (show 0 ≤ t ∧ t ≤ (n.tasks.length : Int) - 1 from ⟨G.t0, by have := G.t1; omega⟩), G.dat, G.ok]; rfl
theorem v2k (n : GNet) (m : List Int) (t : GTask) (data : List Int) : (giveL n m t data).length = m.length := by unfold giveL; rw [w5i, yh7]
theorem va5 {n : GNet} {m : List Int} {t : Int} {data : List Int} (G : GiveF n m t data) : mrkB n (giveL n m (atI n.tasks t) data) = true := by
  obtain ⟨f1, f2, f3⟩ := z8m G.mrk
  exact v5i f1 (by rw [v2k]; exact f2) G.ok
theorem vb5 {n : GNet} {busy : List GItem} (h : busyB n busy = true) {k : Int} (h0 : 0 ≤ k) (h1 : k < busy.length) : itemB n (atI busy k) = true := by
  simp only [busyB, zA, zV] at h
  exact h.2 _ (z2f busy h0 h1)
theorem yv3 {n : GNet} {busy busy' : List GItem} (h : busyB n busy = true) (hl : busy'.length ≤ busy.length) (hm : ∀ b ∈ busy', itemB n b = true) : busyB n busy' = true := by
  simp only [busyB, zA, zE, zV] at h ⊢
  exact ⟨by omega, hm⟩
theorem vr2 {n : GNet} {c : GCase} {k v num : Int} (h : casB n c = true) : casB n (workB n c k v num).1 = true := by
  by_cases W : WorkF n c k v num
  case neg => rw [vr1 W]; exact h
  rw [vh0 W]
  obtain ⟨a1, a2, a3, a4, a5, a6, a7⟩ := zv2.1 h
  have hd := vu7 (v := v) a3 W.num
  have hit := vb5 a2 W.k0 W.k1
  have hit2 := hit
  simp only [itemB, zA, z0b] at hit2
  have hst : atI c.marks 1 = 0 := by
    unfold stateB at a7; rw [W.run] at a7; simpa using a7
  have hb : ∀ b ∈ c.busy, itemB n b = true := by
    simp only [busyB, zA, zV] at a2; exact a2.2
  unfold doneB
  split
  · rename_i hlt
    refine zv2.2 ⟨a1, ?_, hd, a4, a5, a6, ?_⟩
    · refine yv3 a2 (by show (c.busy.set _ _).length ≤ _; simp) fun b hb' => ?_
      rcases List.mem_or_eq_of_mem_set hb' with hb' | rfl
      · exact hb b hb'
      · simp only [itD, itemB, zA, z0b]; omega
    · unfold stateB
      show (bif decide (c.state = 1) then decide (atI c.marks 1 = 0) else _) = true
      rw [W.run, hst]; rfl
  · split
    · rename_i hg
      have G := va3.1 hg
      rw [va4 G]
      have hdl : ((c.did ++ [GDid.mk (atI c.busy k).task (atI c.busy k).who]).length : Int) ≤ 60 := by
        have := W.room; rw [zL, zJ]; omega
      have hda : (c.did ++ [GDid.mk (atI c.busy k).task (atI c.busy k).who]).all (didB n) = true := by
        rw [List.all_append, a6, Bool.true_and]
        simp only [List.all_cons, List.all_nil, Bool.and_true, didB, zA, z0b]; omega
      have hm := va5 G
      split
      · rename_i hpos
        refine zv2.2 ⟨hm, ?_, hd, hdl, by show (1 : Int) ≤ 2 ∧ (2 : Int) ≤ 3; omega, hda, ?_⟩
        · exact yv3 a2 (Nat.zero_le _) fun b hb' => by simp at hb'
        · unfold stateB
          show (bif decide ((2 : Int) = 1) then _ else decide ((([] : List GItem).length : Int) = 0) && (decide ((2 : Int) = 2) == decide (0 < atI _ 1))) = true
          rw [zT hpos]; rfl
      · rename_i hpos
        have h1 := zn9.1 G.ok
        have hml := (z8m a1).2.1
        have hsz := z5y (z8m a1).1
        have hat := w12 h1 (p := 1) (by omega) (by rw [v2k]; omega)
        refine zv2.2 ⟨hm, ?_, hd, hdl, a5, hda, ?_⟩
        · refine yv3 a2 (by show (c.busy.take _ ++ c.busy.drop _).length ≤ _; rw [zL, List.length_take, List.length_drop]; have := W.k1; have := W.k0; omega) fun b hb' => ?_
          rcases zP.1 hb' with h | h
          · exact hb b (List.mem_of_mem_take h)
          · exact hb b (List.mem_of_mem_drop h)
        · unfold stateB
          show (bif decide (c.state = 1) then decide (atI (giveL n c.marks (atI n.tasks (atI c.busy k).task) (datB c.data v num)) 1 = 0) else _) = true
          rw [W.run, zT (show atI (giveL n c.marks (atI n.tasks (atI c.busy k).task) (datB c.data v num)) 1 = 0 by have hp : ¬ 0 < atI (giveL n c.marks (atI n.tasks (atI c.busy k).task) (datB c.data v num)) 1 := hpos; omega)]; rfl
    · exact h
theorem vq7 {n : GNet} {c : GCase} (h : casB n c = true) : casB n (stopB n c).1 = true := by
  unfold stopB
  cases e : casB n c && decide (c.state = 1)
  · exact h
  · rw [zA, zE] at e
    obtain ⟨a1, a2, a3, a4, a5, a6, a7⟩ := zv2.1 h
    refine zv2.2 ⟨a1, yv3 a2 (Nat.zero_le _) (fun b hb => by simp at hb), a3, a4, by show (1 : Int) ≤ 3 ∧ (3 : Int) ≤ 3; omega, a6, ?_⟩
    unfold stateB at a7 ⊢
    rw [e.2] at a7
    have a7 : atI c.marks 1 = 0 := by simpa using a7
    show (bif decide ((3 : Int) = 1) then _ else decide ((([] : List GItem).length : Int) = 0) && (decide ((3 : Int) = 2) == decide (0 < atI c.marks 1))) = true
    rw [a7]; rfl
theorem vw6 {n : GNet} {data : List Int} (hn : netB n = true) (hd : datOk data = true) : casB n (newC n data) = true := by
  have hsz := z5y hn
  unfold newC
  rw [hn, hd]
  have hl : (List.replicate n.places.toNat (0 : Int)).length = n.places.toNat := by simp
  refine zv2.2 ⟨v5i hn (by show (((List.replicate n.places.toNat (0 : Int)).set 0 1).length : Int) = _; rw [zS, hl]; omega) (zn9.2 fun x hx => ?_), ?_, hd, by show ((0 : Nat) : Int) ≤ 60; omega, by show (1 : Int) ≤ 1 ∧ (1 : Int) ≤ 3; omega, rfl, ?_⟩
  · rcases List.mem_or_eq_of_mem_set hx with hx | rfl
    · have := (List.mem_replicate.1 hx).2; omega
    · omega
  · rfl
  · show decide (atI ((List.replicate n.places.toNat (0 : Int)).set (0 : Int).toNat 1) 1 = 0) = true
    rw [v92 _ _ (by omega) (by omega) (by rw [hl]; omega), if_neg (by omega), vt9 _ _ (by omega) (by omega)]; rfl
theorem v35 (len : Int) : ∀ (l : List GNode) (i : Int), (∀ j : Nat, j < l.length → nodeB len (i + j) (atI l j) = true) → nodesI len i l = true
  | [], _, _ => rfl
  | x :: l, i, h => by
    simp only [nodesI, zA]
    have h0 := h 0 (by simp)
    have e0 : atI (x :: l) ((0 : Nat) : Int) = x := rfl
    rw [e0] at h0
    refine ⟨by simpa using h0, v35 len l (i + 1) fun j hj => ?_⟩
    have := h (j + 1) (by simpa using hj)
    have e : atI (x :: l) ((j + 1 : Nat) : Int) = atI l (j : Int) := by unfold atI; rw [z3i, z3i]; rfl
    rw [e] at this
    rw [show i + 1 + (j : Int) = i + ((j + 1 : Nat) : Int) by omega]; exact this
theorem vx6 {tree : List GNode} (F : RdrFacts tree) : rdrB tree = true := by
  have h2 := w5p (fun j => cntL j tree) tree.length 0
  rw [← List.range_eq_range'] at h2
  simp only [rdrB, zA, zE]
  refine ⟨v35 _ _ _ fun j hj => ?_, ?_, by have := F.len; omega⟩
  · rw [Int.zero_add]; exact F.node j (by omega) (by omega)
  · exact h2.2 fun j h0 h1 h3 => F.ones j (by omega) (by omega)
theorem v6x {tree : List GNode} (F : RdrFacts tree) (data : List Int) : ∀ (k : Nat) (a b : Int), (0 ≤ a ∧ a < tree.length) → (tree.length : Int) - a ≤ k → nxt tree data (lastF (wayL tree data k a) b) = -1
  | 0, a, b, ha, hk => by omega
  | k + 1, a, b, ha, hk => by
    unfold wayL
    rw [if_neg (by omega)]
    show nxt tree data (lastF (wayL tree data k (nxt tree data a)) a) = -1
    have := v36 F data ha.1 ha.2
    by_cases e : nxt tree data a = -1
    · have : wayL tree data k (nxt tree data a) = [] := by rw [e]; cases k <;> simp [wayL]
      rw [this]; exact e
    · exact v6x F data k _ a (by omega) (by omega)
theorem v6o (i : Int) (x : GNode) : ∀ (l : List GNode) (k : Nat), k < l.length → cntL i (l.set k x) = cntL i l - cnt1 (atI l (k : Int)) i + cnt1 x i
  | [], k, h => by simp at h
  | y :: l, 0, h => by
    have e0 : atI (y :: l) ((0 : Nat) : Int) = y := rfl
    rw [e0]; simp only [List.set_cons_zero, cntL]; omega
  | y :: l, k + 1, h => by
    have e : atI (y :: l) ((k + 1 : Nat) : Int) = atI l (k : Int) := by unfold atI; rw [z3i, z3i]; rfl
    have := v6o i x l k (by simpa using h)
    rw [e]; simp only [List.set_cons_succ, cntL]; omega
theorem v14 (i : Int) : ∀ (l : List GNode), (∀ x ∈ l, x.yes ≠ i ∧ x.no ≠ i) → cntL i l = 0
  | [], _ => rfl
  | x :: l, h => by
    have h0 := h x (by simp)
    simp only [cntL, cnt1, v14 i l (fun y hy => h y (by simp [hy])), if_neg h0.1, if_neg h0.2]; omega
theorem vn4 {tree : List GNode} (F : RdrFacts tree) {x : GNode} (hx : x ∈ tree) : ∃ a : Int, 0 ≤ a ∧ a < tree.length ∧ nodeB tree.length a x = true := by
  obtain ⟨j, hj⟩ := List.mem_iff_getElem?.1 hx
  have hl : j < tree.length := by
    rcases Nat.lt_or_ge j tree.length with h | h
    · exact h
    · rw [List.getElem?_eq_none h] at hj; cases hj
  have := F.node j (by omega) (by omega)
  have e : atI tree (j : Int) = x := by unfold atI; rw [z3i, hj]; rfl
  rw [e] at this
  exact ⟨j, by omega, by omega, this⟩
theorem v75 {len i v : Int} (h : okN len i v = true) : okN (len + 1) i v = true := by
  simp only [okN, Bool.or_eq_true, zE, z0b] at h ⊢; omega
theorem wm3 {len i : Int} {x : GNode} (h : nodeB len i x = true) : nodeB (len + 1) i x = true := by
  simp only [nodeB, zA] at h ⊢
  exact ⟨h.1, h.2.1, v75 h.2.2.1, v75 h.2.2.2⟩
theorem vc9 {len i : Int} (h : i < len) : okN (len + 1) i len = true := by
  simp only [okN, Bool.or_eq_true, zE, z0b]; omega
theorem vc4 {len : Int} {data : List Int} {e : GAsk} {ans : Int} (he : expHolds e data = true) (ha : inB ans 0 2 = true) : nodeB (len + 1) len (newN e ans data) = true := by
  simp only [nodeB, newN, zA]
  exact ⟨he, ha, rfl, rfl⟩
theorem vn2 {e : GAsk} {ans : Int} {data : List Int} {i : Int} (h : 0 ≤ i) : cnt1 (newN e ans data) i = 0 := by
  have h1 : ¬ (-1 : Int) = i := by omega
  simp [cnt1, newN, h1]
theorem vs8 {tree : List GNode} (F : RdrFacts tree) (h12 : tree.length ≠ 12) {L : Int} (hL : 0 ≤ L ∧ L < tree.length) {x : GNode} (hx : nodeB (tree.length + 1) L x = true) (hc0 : ∀ i : Int, 0 ≤ i → i < tree.length → cnt1 x i = cnt1 (atI tree L) i) (hc1 : cnt1 x tree.length = 1)
    {e : GAsk} {ans : Int} {data : List Int} (he : expHolds e data = true) (ha : inB ans 0 2 = true) : RdrFacts (tree.set L.toNat x ++ [newN e ans data]) := by
  have hl := F.len
  have hlen : (tree.set L.toNat x ++ [newN e ans data]).length = tree.length + 1 := by simp
  have hcast : (((tree.length + 1 : Nat)) : Int) = (tree.length : Int) + 1 := by omega
  have hsl : (tree.set L.toNat x).length = tree.length := by simp
  refine ⟨by omega, fun a h0 h1 => ?_, fun j h0 h1 => ?_⟩
  · rw [hlen, hcast] at *
    by_cases e1 : a = tree.length
    · subst e1
      have : atI (tree.set L.toNat x ++ [newN e ans data]) (tree.length : Int) = newN e ans data := by
        have := v91 (tree.set L.toNat x) (newN e ans data); rw [hsl] at this; exact this
      rw [this]; exact vc4 he ha
    · rw [vk1 _ _ (by rw [hsl]; omega), v92 _ _ hL.1 h0 (by omega)]
      split
      · rename_i e2; subst e2; exact hx
      · exact wm3 (F.node a h0 (by omega))
  · rw [hlen] at h1
    rw [w6j, vn2 (by omega), v6o _ _ _ _ (by omega), show ((L.toNat : Nat) : Int) = L by omega]
    by_cases e1 : j = tree.length
    · subst e1
      have hz : cntL (tree.length : Int) tree = 0 := v14 _ _ fun y hy => by
        obtain ⟨a, g0, g1, g2⟩ := vn4 F hy
        have := yi7 g2; omega
      have hz1 : cnt1 (atI tree L) (tree.length : Int) = 0 := by
        have := yi7 (F.node L hL.1 hL.2)
        have h1 : ¬ (atI tree L).yes = tree.length := by omega
        have h2 : ¬ (atI tree L).no = tree.length := by omega
        simp only [cnt1, if_neg h1, if_neg h2]; rfl
      omega
    · have := F.ones j h0 (by omega)
      have := hc0 j (by omega) (by omega)
      omega
theorem vj4 {tree : List GNode} {data : List Int} {e : GAsk} {ans : Int} (h : (addB tree data e ans).2 = true) : rdrB tree = true ∧ datOk data = true ∧ expHolds e data = true ∧ inB ans 0 2 = true ∧ tree.length ≠ 12 ∧ (addB tree data e ans).1 = putN tree data ++ [newN e ans data] := by
  unfold addB at h ⊢
  cases hh : addOk tree data e ans && !takenB tree data e
  · rw [hh] at h; cases h
  · rw [zA] at hh
    have h1 := hh.1
    simp only [addOk, zA, Bool.not_eq_true', decide_eq_false_iff_not] at h1
    exact ⟨h1.1, h1.2.1, h1.2.2.1, h1.2.2.2.1, by omega, rfl⟩
theorem vt5 {tree : List GNode} {data : List Int} {e : GAsk} {ans : Int} (h : ¬ (addB tree data e ans).2 = true) : (addB tree data e ans).1 = tree := by
  unfold addB at h ⊢
  cases hh : addOk tree data e ans && !takenB tree data e
  · rfl
  · rw [hh] at h; exact absurd rfl h
theorem vt6 {tree : List GNode} {data : List Int} {e : GAsk} {ans : Int} (ht : rdrB tree = true) : rdrB (addB tree data e ans).1 = true := by
  by_cases h : (addB tree data e ans).2 = true
  case neg => rw [vt5 h]; exact ht
  obtain ⟨h1, h2, h3, h4, h5, h6⟩ := vj4 h
  rw [h6]
  have F := ze5 h1
  have hl := F.len
  refine vx6 ?_
  unfold putN
  split
  · rename_i h0
    have hn : tree = [] := List.length_eq_zero_iff.1 h0
    subst hn
    refine ⟨by simp, fun a g0 g1 => ?_, fun j g0 g1 => ?_⟩
    · have : a = 0 := by simp at g1; omega
      subst this
      have := vc4 (len := 0) h3 h4
      exact this
    · simp at g1; omega
  · rename_i h0
    have hv := yi5 F data (by omega)
    have hn : nxt tree data (lastB tree data) = -1 := by
      unfold lastB wayB; rw [if_neg h0]; exact v6x F data 12 0 (-1) (by omega) (by omega)
    have hN := F.node _ hv.1 hv.2
    have hNx := yi7 hN
    have hM := wm3 hN
    simp only [nodeB, zA] at hM
    unfold nxt at hn
    have hho : holdI tree data (lastB tree data) = expHolds (atI tree (lastB tree data)).if_ data := rfl
    rw [hho]
    split
    · rename_i hh
      rw [if_pos hh] at hn
      refine vs8 F h5 hv ?_ (fun i g0 g1 => ?_) ?_ h3 h4
      · simp only [nodeB, zA]; exact ⟨hM.1, hM.2.1, vc9 hv.2, hM.2.2.2⟩
      · have k1 : ¬ (tree.length : Int) = i := by omega
        have k2 : ¬ (-1 : Int) = i := by omega
        simp only [cnt1, hn, if_neg k1, if_neg k2]
      · have k2 : ¬ (atI tree (lastB tree data)).no = tree.length := by omega
        simp only [cnt1, if_true, if_neg k2]; rfl
    · rename_i hh
      rw [if_neg hh] at hn
      refine vs8 F h5 hv ?_ (fun i g0 g1 => ?_) ?_ h3 h4
      · simp only [nodeB, zA]; exact ⟨hM.1, hM.2.1, hM.2.2.1, vc9 hv.2⟩
      · have k1 : ¬ (tree.length : Int) = i := by omega
        have k2 : ¬ (-1 : Int) = i := by omega
        simp only [cnt1, hn, if_neg k1, if_neg k2]
      · have k2 : ¬ (atI tree (lastB tree data)).yes = tree.length := by omega
        simp only [cnt1, if_true, if_neg k2]; rfl
structure HouseF (h : GHouse) : Prop where
  nets : netsB h.nets = true
  ppl : pplB h.people = true
  tree : rdrB h.tree = true
  many : h.runs.length ≤ 5
  runs : ∀ r ∈ h.runs, runB h.nets r = true
theorem zz2 {h : GHouse} : houseB h = true ↔ HouseF h := by
  simp only [houseB, zA, zV, Bool.not_eq_true', decide_eq_false_iff_not]
  constructor
  · rintro ⟨a, b, c, d, e⟩; exact ⟨a, b, c, by omega, e⟩
  · rintro ⟨a, b, c, d, e⟩; exact ⟨a, b, c, by omega, e⟩
theorem vc2 {nets : List GNet} (h : netsB nets = true) {k : Int} (h0 : 0 ≤ k) (h1 : k < nets.length) : netB (atI nets k) = true := by
  simp only [netsB, zA, zV] at h
  exact h.2 _ (z2f nets h0 h1)
theorem v0h {nets : List GNet} {r : GRun} : runB nets r = true ↔ (0 ≤ r.net ∧ r.net < nets.length) ∧ casB (atI nets r.net) r.case = true := by
  simp only [runB, zA, z0b]
  constructor
  · rintro ⟨a, b⟩; exact ⟨by omega, b⟩
  · rintro ⟨a, b⟩; exact ⟨by omega, b⟩
theorem vr0 {h : GHouse} {r : GReq} (hc : casB (atI h.nets (atI h.runs r.case).net) (atI h.runs r.case).case = true) : casB (atI h.nets (atI h.runs r.case).net) (turnB h r).1 = true := by
  unfold turnB
  split
  · exact vg0 hc
  · split
    · exact vr2 hc
    · exact vq7 hc
theorem ve5 {r : GReq} (h : reqB r = true) (hk : r.kind = 1) : datOk r.data = true := by
  simp only [reqB, zA] at h
  have := h.2.2.2.2.2.2.2.2.2
  rw [hk] at this; simpa using this
theorem w6k {h : GHouse} {r : GReq} (hb : houseB h = true) (hr : reqB r = true) : houseB (doB h r).1 = true := by
  have H := zz2.1 hb
  obtain ⟨a, b, c, d, e⟩ := H
  have c0 := zj9 hr
  unfold doB
  split
  · rename_i k1
    split
    · exact hb
    · have hone : 1 ≤ h.nets.length := by simp only [netsB, zA, z0b] at a; omega
      have hn : 0 ≤ netOf h r.data ∧ netOf h r.data < h.nets.length := by
        have := wk9 h.tree r.data
        unfold netOf; split <;> omega
      refine zz2.2 ⟨a, b, c, ?_, fun y hy => ?_⟩
      · show (h.runs ++ [_]).length ≤ 5; rw [zL, zJ]; omega
      · have hy : y ∈ h.runs ++ [_] := hy
        rw [zP, List.mem_singleton] at hy
        rcases hy with hy | rfl
        · exact e y hy
        · exact v0h.2 ⟨hn, vw6 (vc2 a hn.1 hn.2) (ve5 hr k1)⟩
  · split
    · split
      · exact zz2.2 ⟨a, b, vt6 c, d, e⟩
      · exact hb
    · split
      · exact hb
      · rename_i hc
        unfold setRun
        split
        · have hm := z2f h.runs c0 (show r.case < h.runs.length by omega)
          have hr2 := v0h.1 (e _ hm)
          refine zz2.2 ⟨a, b, c, by show (h.runs.set _ _).length ≤ 5; rw [zS]; exact d, fun y hy => ?_⟩
          rcases List.mem_or_eq_of_mem_set hy with hy | rfl
          · exact e y hy
          · exact v0h.2 ⟨hr2.1, vr0 hr2.2⟩
        · exact hb
end Go.Am.Pl
end
section
namespace Go.Am.Pl
open Go
theorem v7y {data : List Int} (hd : data.length ≤ 4) (k n : Int) : Tot (z83 data k n) (fun v => v.length ≤ 4) := by
  unfold z83
  have hs : ([] : List Int).length + data.length ≤ SMALL := by simp only [zN, SMALL]; omega
  have fin : Tot (gd (([] : List Int).length + data.length ≤ SMALL) (some (([] : List Int) ++ data))) (fun v => v.length ≤ 4) := Tot.gd hs (Tot.pure (by simpa using hd))
  refine Tot.bindE (z8n data (by unfold SMALL; omega)) (Tot.ite (fun c => ?_) (fun _ => fin))
  refine Tot.bindE (z2o _ _ _) (Tot.ite (fun c1 => ?_) (fun _ => fin))
  refine Tot.bindE (z2o _ _ _) (Tot.ite (fun c2 => ?_) (fun _ => fin))
  have hl : data.length = 3 := y2w c
  rw [z0b] at c1
  exact Tot.gd hs (Tot.getI (by omega) (by rw [List.nil_append]; omega) (fun x _ _ => Tot.pure (by rw [zS, List.nil_append]; omega)))
theorem ww6 {data : List Int} {e : GAsk} (hd : data.length ≤ 4) : Tot (z8l data e) (fun v => v.length ≤ 4) := by
  unfold z8l
  refine Tot.bindE (y3v e) (Tot.ite (fun c => Tot.iteD (fun _ => Tot.pure hd) (fun c1 => ?_)) (fun _ => Tot.pure hd))
  have hb : (1 ≤ e.op ∧ e.op ≤ 3) ∧ (-99 ≤ e.k ∧ e.k ≤ 99) := by
    unfold expOk at c; rw [decide_eq_false c1] at c; simp only [cond_false, zA, z0b] at c; exact ⟨c.1.1, c.2⟩
  refine Tot.getI (by omega) (by simp only [zC, zN]; omega) (fun x hx _ => ?_)
  have hx : -1 ≤ x ∧ x ≤ 1 := by simp only [zM, List.not_mem_nil, or_false] at hx; omega
  exact Tot.gd (by constructor <;> omega) (Tot.bind (v7y hd _ _) (fun v hv => Tot.pure hv))
def TreeL (t : List GNode) : Prop := t.length ≤ 1048576 ∧ ∀ x ∈ t, GNode.lens (· ≤ 1048576) x
theorem TreeL.small {t : List GNode} (h : TreeL t) : treeSmall t := ⟨by have := h.1; unfold SMALL; omega, fun x hx => by have : x.stone.length ≤ 1048576 := h.2 x hx; unfold SMALL; omega⟩
theorem TreeL.nil : TreeL [] := ⟨Nat.zero_le _, fun x hx => by simp at hx⟩
theorem TreeL.set {t : List GNode} (h : TreeL t) {k : Nat} {x : GNode} (hx : x.stone.length ≤ 1048576) : TreeL (t.set k x) :=
  ⟨by rw [zS]; exact h.1, fun y hy => by
    rcases List.mem_or_eq_of_mem_set hy with hy | rfl
    · exact h.2 y hy
    · exact hx⟩
theorem vg6 {K : Int} {b : List Int} {p n : Int} {t : List GNode} (h : Rd K (GRd.mk b p)) (hK : K ≤ 850000000) (ht : TreeL t) : Tot (z3q n b p t) (fun v => TreeL v.1 ∧ Rd (K + 30) v.2) := by
  unfold z3q
  have hend : ∀ {r : GRd}, Rd (K + 30) r → Tot (some (t, r)) (fun v => TreeL v.1 ∧ Rd (K + 30) v.2) := fun hr => Tot.pure ⟨ht, hr⟩
  refine Tot.bind2 (z0f h (by omega)) ?_
  intro a b h; dsimp only at h; obtain ⟨⟨_, _⟩, _⟩ := h; try dsimp only
  refine Tot.iteD (fun _ => hend (Rd.mono (by assumption) (by omega))) (fun _ => Tot.iteD (fun _ => hend (Rd.mono (by assumption) (by omega))) (fun hz => ?_))
  refine Tot.bind2 (z0f (by assumption) (by omega)) ?_
  intro i b2 h; dsimp only at h; obtain ⟨⟨hi0, hi1⟩, _⟩ := h; try dsimp only
  refine Tot.bind2 (z0f (by assumption) (by omega)) ?_
  intro a b3 h; dsimp only at h; obtain ⟨⟨_, _⟩, _⟩ := h; try dsimp only
  repeat' first
    | exact Tot.pure ⟨TreeL.set ht (by dsimp only; first | assumption | omega), Rd.mono (by assumption) (by omega)⟩
    | (refine Tot.bind2 (zv3 (by assumption) (by omega)) ?_; intro a b h; dsimp only at h; obtain ⟨_, _⟩ := h; try dsimp only)
    | (refine Tot.bind2 (w6h (by assumption) (by omega)) ?_; intro a b h; dsimp only at h; try dsimp only)
    | (refine Tot.bind2 (z0f (by assumption) (by omega)) ?_; intro a b h; dsimp only at h; obtain ⟨⟨_, _⟩, _⟩ := h; try dsimp only)
    | (refine Tot.getI (l := t) (by omega) (by omega) ?_; intro x hx hg; have hst : x.stone.length ≤ 1048576 := ht.2 x hx)
    | (refine Tot.getI (by omega) (by simp only [zC, zN]; omega) ?_; intro x hx hg)
    | (refine Tot.iteD (fun _ => ?_) (fun _ => ?_))
theorem vq9 {K : Int} {r : GRd} {n : Int} (h : Rd K r) (hK : K ≤ 800000000) : Tot (zp3 r n) (fun v => TreeL v.1 ∧ Rd (K + 400) v.2) := by
  unfold zp3
  refine Tot.bind2 (z0f h (by omega)) ?_
  intro k0 r0 h1
  dsimp only at h1
  obtain ⟨⟨a0, a1⟩, hb⟩ := h1
  dsimp only
  have key := Tot.loopF (Q := fun v : List GNode × GRd => TreeL v.1 ∧ Rd (K + 400) v.2) (fun s : List Int × Int × Int × List GNode => Rd (K + 1 + 50 * (7 - s.2.2.1)) (GRd.mk s.1 s.2.1) ∧ 0 ≤ s.2.2.1 ∧ s.2.2.1 ≤ 7 ∧ TreeL s.2.2.2) (fun s => s.2.2.1.toNat)
    (fun f s => z16 (z3q n) f s.1 s.2.1 s.2.2.1 s.2.2.2) (fun f s hi ih => ?_) (r0.b, r0.p, k0, []) (by dsimp only; omega) ⟨by dsimp only; exact hb.eta.mono (by omega), by dsimp only; omega, by dsimp only; omega, TreeL.nil⟩
  · exact key
  obtain ⟨b0, p0, i, l⟩ := s
  obtain ⟨h1, h2, h3, h4⟩ := hi
  dsimp only at h1 h2 h3 h4 ⊢
  have ih' : ∀ b q l', Rd (K + 1 + 50 * (7 - (i - 1))) (GRd.mk b q) → 1 ≤ i → TreeL l' → Tot (z16 (z3q n) f b q (i - 1) l') (fun v => TreeL v.1 ∧ Rd (K + 400) v.2) :=
    fun b q l' g1 g2 g3 => ih (b, q, i - 1, l') ⟨g1, by dsimp only; omega, by dsimp only; omega, g3⟩ (by dsimp only; omega)
  rw [z16]
  refine Tot.iteD (fun c => ?_) (fun c => (vg6 h1 (by omega) h4).mono fun v hv => ⟨hv.1, hv.2.mono (by omega)⟩)
  have add : ∀ (d : List Int) (e : GAsk) (a : Int) (b : List Int) (q : Int), d.length ≤ 4 → Rd (K + 1 + 50 * (7 - (i - 1))) (GRd.mk b q) →
      Tot ((z84 l d e a).bind fun x => if x.2 = true then gd (ok64 (i - 1)) (z16 (z3q n) f b q (i - 1) x.1) else gd (ok64 (i - 1)) (z16 (z3q n) f b q (i - 1) l)) (fun v => TreeL v.1 ∧ Rd (K + 400) v.2) := fun d e a b q hd hr => by
    refine Tot.bindE (w9a l d e a h4.small (by unfold SMALL; omega)) ?_
    exact Tot.ite (fun _ => Tot.gd (by constructor <;> omega) (ih' _ _ _ hr (by omega) (v0s h4.1 h4.2))) (fun _ => Tot.gd (by constructor <;> omega) (ih' _ _ _ hr (by omega) h4))
  refine Tot.bind2 (zv3 h1 (by omega)) ?_
  intro d r1 hh; dsimp only at hh; obtain ⟨hd, hr1⟩ := hh; dsimp only
  refine Tot.bind2 (w6h hr1 (by omega)) ?_
  intro e r2 hr2; dsimp only at hr2; dsimp only
  refine Tot.bindE (z5h e d (by unfold SMALL; omega)) (Tot.ite (fun _ => ?_) (fun _ => ?_))
  · refine Tot.bind2 (z0f hr2 (by omega)) ?_
    intro a r3 hh; dsimp only at hh; obtain ⟨⟨_, _⟩, hr3⟩ := hh; dsimp only
    exact add _ _ _ _ _ hd (Rd.eta (hr3.mono (by omega)))
  · refine Tot.bind (ww6 hd) (fun d2 hd2 => ?_)
    refine Tot.bind2 (z0f hr2 (by omega)) ?_
    intro a r3 hh; dsimp only at hh; obtain ⟨⟨_, _⟩, hr3⟩ := hh; dsimp only
    exact add _ _ _ _ _ hd2 (Rd.eta (hr3.mono (by omega)))
def HG (h : GHouse) : Prop := (HInv h ∧ houseB h = true) ∨ h = noHouse
theorem vx8 {K : Int} {r : GRd} {h : GHouse} (hr : Rd K r) (hK : K ≤ 800000000) (H : HG h) : Tot (zy0 r h) (fun v => v.1.data.length ≤ 4 ∧ Rd (K + 60) v.2.1 ∧ v.2.2 = h) := by
  unfold zy0
  refine Tot.iteD (fun _ => ?_) (fun hz => ?_)
  · refine Tot.bind2 (zv3 hr (by omega)) ?_
    intro d r1 hh; dsimp only at hh; obtain ⟨hd, hr1⟩ := hh; dsimp only
    exact Tot.pure ⟨hd, ⟨hr1.mono (by omega), rfl⟩⟩
  obtain ⟨Hi, Hb⟩ : HInv h ∧ houseB h = true := H.resolve_right (fun e => hz (by rw [e]; rfl))
  have hsm := Hi.small
  repeat' first
    | (refine Tot.bind2 (z0f (by assumption) (by omega)) ?_; intro a b h; dsimp only at h; obtain ⟨⟨_, _⟩, _⟩ := h; try dsimp only)
    | (refine Tot.bind2 (zv3 (by assumption) (by omega)) ?_; intro a b h; dsimp only at h; obtain ⟨_, _⟩ := h; try dsimp only)
    | (refine Tot.bind2 (w6h (by assumption) (by omega)) ?_; intro a b h; dsimp only at h; try dsimp only)
    | (refine Tot.bind (ww6 (by assumption)) (fun d hd => ?_))
    | (refine Tot.gd (by constructor <;> omega) ?_)
    | (refine Tot.getI (l := h.runs) (by omega) (by omega) ?_; intro x hx hg; have hnet := Hi.net x hx; have hcs := hsm.2.2.2.2 x hx; have hcm := hcs.1; have hcb := hcs.2.1)
    | (refine Tot.getI (l := h.nets) (by omega) (by omega) ?_; intro x hx hg; have hns := hsm.1.2 x hx)
    | (refine Tot.bindE (y61 _ _ _ (by assumption) (by assumption) (by assumption)) ?_; generalize tasksB _ _ _ = ts)
    | (refine Tot.getI (by omega) (by omega) ?_; intro x hx hg)
    | (refine Tot.iteD (fun _ => ?_) (fun _ => ?_))
    | exact Tot.pure ⟨by first | assumption | (dsimp only; assumption) | exact Nat.zero_le _, ⟨Rd.mono (by assumption) (by omega), rfl⟩⟩
theorem vp1 {K : Int} {r : GRd} {h : GHouse} (hr : Rd K r) (hK : K ≤ 800000000) (H : HG h) : Tot (zp6 r h) (fun v => v.1.data.length ≤ 4 ∧ Rd (K + 60) v.2) := by
  unfold zp6
  refine Tot.iteD (fun _ => ?_) (fun hz => ?_)
  · refine Tot.bind2 (zv3 hr (by omega)) ?_
    intro d r1 hh; dsimp only at hh; obtain ⟨hd, hr1⟩ := hh; dsimp only
    exact Tot.pure ⟨hd, hr1.mono (by omega)⟩
  obtain ⟨Hi, Hb⟩ : HInv h ∧ houseB h = true := H.resolve_right (fun e => hz (by rw [e]; rfl))
  have hsm := Hi.small
  repeat' first
    | (refine Tot.bind2 (z0f (by assumption) (by omega)) ?_; intro a b h; dsimp only at h; obtain ⟨⟨_, _⟩, _⟩ := h; try dsimp only)
    | (refine Tot.bind2 (zv3 (by assumption) (by omega)) ?_; intro a b h; dsimp only at h; obtain ⟨_, _⟩ := h; try dsimp only)
    | (refine Tot.bind2 (w6h (by assumption) (by omega)) ?_; intro a b h; dsimp only at h; try dsimp only)
    | (refine Tot.bind (ww6 (by assumption)) (fun d hd => ?_))
    | (refine Tot.gd (by constructor <;> omega) ?_)
    | (refine Tot.getI (l := h.runs) (by omega) (by omega) ?_; intro x hx hg; have hnet := Hi.net x hx; have hcs := hsm.2.2.2.2 x hx; have hcm := hcs.1; have hcb := hcs.2.1)
    | (refine Tot.getI (l := h.nets) (by omega) (by omega) ?_; intro x hx hg; have hns := hsm.1.2 x hx)
    | (refine Tot.bindE (y61 _ _ _ (by assumption) (by assumption) (by assumption)) ?_; generalize tasksB _ _ _ = ts)
    | (refine Tot.getI (by omega) (by omega) ?_; intro x hx hg)
    | (refine Tot.iteD (fun _ => ?_) (fun _ => ?_))
    | exact Tot.pure ⟨by first | assumption | (dsimp only; assumption) | exact Nat.zero_le _, Rd.mono (by assumption) (by omega)⟩
theorem vj6 {K : Int} {r : GRd} {h : GHouse} {n : Int} (hr : Rd K r) (hK : K ≤ 700000000) (H : HG h) : Tot (z9w r h n) (fun v => v.1.data.length ≤ 4 ∧ Rd (K + 100) v.2) := by
  unfold z9w
  refine Tot.bind (vp1 hr (by omega) H) ?_
  rintro ⟨q, r1⟩ ⟨hq, hr1⟩
  dsimp only at hq hr1 ⊢
  repeat' first
    | (refine Tot.bind2 (z0f (by assumption) (by omega)) ?_; intro a b h; dsimp only at h; obtain ⟨⟨_, _⟩, _⟩ := h; try dsimp only)
    | (refine Tot.bind2 (zv3 (by assumption) (by omega)) ?_; intro a b h; dsimp only at h; obtain ⟨_, _⟩ := h; try dsimp only)
    | (refine Tot.getI (by omega) (by simp only [zC, zN]; omega) ?_; intro x hx hg)
    | (refine Tot.iteD (fun _ => ?_) (fun _ => ?_))
    | exact Tot.pure ⟨by first | assumption | (dsimp only; assumption), Rd.mono (by assumption) (by omega)⟩
theorem vc1 {n : GNet} (h : netB n = true) : GNet.lens (· ≤ 1048576) n := by
  have T := v72 h
  refine ⟨by have := T.six; show n.tasks.length ≤ 1048576; omega, fun t ht => ?_⟩
  have U := T.task t ht
  exact ⟨by have := U.in_; show t.in_.length ≤ 1048576; omega, by have := U.out; show t.out.length ≤ 1048576; omega, by have := U.clear; show t.clear.length ≤ 1048576; omega⟩
theorem NetT.lens {n : GNet} (T : NetT n) : GNet.lens (· ≤ 1048576) n := by
  refine ⟨by have := T.six; show n.tasks.length ≤ 1048576; omega, fun t ht => ?_⟩
  have U := T.task t ht
  exact ⟨by have := U.in_; show t.in_.length ≤ 1048576; omega, by have := U.out; show t.out.length ≤ 1048576; omega, by have := U.clear; show t.clear.length ≤ 1048576; omega⟩
theorem CaseT.lens {c : GCase} (T : CaseT 62 c) : GCase.lens (· ≤ 1048576) c := by
  obtain ⟨a, b, d, e⟩ := T
  exact ⟨by show c.marks.length ≤ 1048576; omega, by show c.busy.length ≤ 1048576; omega, by show c.data.length ≤ 1048576; omega, by show c.did.length ≤ 1048576; omega⟩
theorem new_G {nets : List GNet} {p : List Int} (hn : ∀ n ∈ nets, netB n = true) (hl : nets.length ≤ 3) (hp : p.length ≤ 5) : HG (newB nets p) ∧ (newB nets p).runs = [] := by
  unfold newB
  cases e : netsB nets && pplB p
  · exact ⟨.inr rfl, rfl⟩
  · rw [zA] at e
    have hb : houseB (GHouse.mk nets p [] []) = true := zz2.2 ⟨e.1, e.2, vp0, Nat.zero_le _, fun r hr => by simp at hr⟩
    refine ⟨.inl ⟨zz3 hb ⟨⟨by show nets.length ≤ 1048576; omega, fun n h => vc1 (hn n h)⟩, by show p.length ≤ 1048576; omega, ⟨Nat.zero_le _, fun x hx => by simp at hx⟩, ⟨Nat.zero_le _, fun x hx => by simp at hx⟩⟩, hb⟩, rfl⟩
theorem v10 {K : Int} {r : GRd} (h : Rd K r) (hK : K ≤ 500000000) : Tot (z9b r) (fun v => (HG v.1 ∧ v.1.runs = []) ∧ Rd (K + 900) v.2) := by
  unfold z9b
  refine Tot.bind2 (wx0 h (by omega)) ?_
  intro n0 r0 hh; dsimp only at hh; obtain ⟨hn0, hr0⟩ := hh; dsimp only
  refine Tot.bind2 (z0f hr0 (by omega)) ?_
  intro k0 r1 hh; dsimp only at hh; obtain ⟨⟨a0, a1⟩, hr1⟩ := hh; dsimp only
  have key := Tot.loopF (Q := fun v : GHouse × GRd => (HG v.1 ∧ v.1.runs = []) ∧ Rd (K + 900) v.2) (fun s : List Int × Int × Int × List GNet => Rd (K + 211 + 210 * (2 - s.2.2.1)) (GRd.mk s.1 s.2.1) ∧ 0 ≤ s.2.2.1 ∧ (s.2.2.2.length : Int) + s.2.2.1 ≤ 3 ∧ s.2.2.1 ≤ 2 ∧ ∀ n ∈ s.2.2.2, netB n = true) (fun s => s.2.2.1.toNat)
    (fun f s => z6t zi4 f s.1 s.2.1 s.2.2.1 s.2.2.2) (fun f s hi ih => ?_) (r1.b, r1.p, k0, [n0]) (by dsimp only; omega) ⟨by dsimp only; exact (Rd.eta hr1).mono (by omega), by dsimp only; omega, by dsimp only [zC, zN]; omega, by dsimp only; omega, fun n hn => by rw [List.mem_singleton.1 hn]; exact hn0⟩
  · exact key
  obtain ⟨b0, p0, i, l⟩ := s
  obtain ⟨h1, h2, h3, h4, h5⟩ := hi
  dsimp only at h1 h2 h3 h4 h5 ⊢
  rw [z6t]
  refine Tot.iteD (fun c => ?_) (fun c => ?_)
  · refine Tot.bind2 (wx0 h1 (by omega)) ?_
    intro n2 r2 hh; dsimp only at hh; obtain ⟨hn2, hr2⟩ := hh; dsimp only
    refine Tot.gd (by simp only [zC, zN, SMALL]; omega) (Tot.gd (by constructor <;> omega) (ih (r2.b, r2.p, i - 1, l ++ [n2]) ⟨(Rd.eta hr2).mono (by dsimp only; omega), by dsimp only; omega, by dsimp only; rw [zL, zJ]; omega, by dsimp only; omega, fun n hn => ?_⟩ (by dsimp only; omega)))
    rcases zP.1 hn with hn | hn
    · exact h5 n hn
    · rw [List.mem_singleton.1 hn]; exact hn2
  · unfold zi4
    refine Tot.bind2 (yi9 h1 (by omega)) ?_
    intro p r2 hh; dsimp only at hh; obtain ⟨hp, hr2⟩ := hh; dsimp only
    refine Tot.bindE (v60 l p ⟨by unfold SMALL; omega, fun n hn => (v72 (h5 n hn)).small⟩ (by unfold SMALL; omega)) (Tot.pure ⟨new_G h5 (by omega) hp, hr2.mono (by omega)⟩)
theorem do_G {h : GHouse} (Hi : HInv h) (Hb : houseB h = true) {q : GReq} (hq : reqB q = true) : HG (doB h q).1 := .inl ⟨(w14 Hi q (zj9 hq)).1, w6k Hb hq⟩
theorem va8 {K : Int} {r : GRd} (h : Rd K r) (hK : K ≤ 400000000) : Tot (zi5 r) (fun v => HG v.1 ∧ Rd (K + 4000) v.2) := by
  unfold zi5
  refine Tot.bind2 (v10 h (by omega)) ?_
  intro h0 r0 hh; dsimp only at hh; obtain ⟨⟨H0, _⟩, hr0⟩ := hh; dsimp only
  refine Tot.bind2 (z0f hr0 (by omega)) ?_
  intro k0 r1 hh; dsimp only at hh; obtain ⟨⟨a0, a1⟩, hr1⟩ := hh; dsimp only
  refine Tot.bind2 (z0f hr1 (by omega)) ?_
  intro k1 r2 hh; dsimp only at hh; obtain ⟨⟨a2, a3⟩, hr2⟩ := hh; dsimp only
  refine Tot.getI (by omega) (by simp only [zC, zN]; omega) (fun k hk _ => ?_)
  have hk : 0 ≤ k ∧ k ≤ 40 := by simp only [zM, List.not_mem_nil, or_false] at hk; omega
  have key := Tot.loopF (Q := fun v : GHouse × GRd => HG v.1 ∧ Rd (K + 4000) v.2) (fun s : List Int × Int × Int × GHouse => Rd (K + 902 + 61 * (40 - s.2.2.1)) (GRd.mk s.1 s.2.1) ∧ 0 ≤ s.2.2.1 ∧ s.2.2.1 ≤ 40 ∧ HG s.2.2.2) (fun s => s.2.2.1.toNat)
    (fun f s => z28 zi6 f s.1 s.2.1 s.2.2.1 s.2.2.2.people s.2.2.2.tree s.2.2.2.runs s.2.2.2.nets) (fun f s hi ih => ?_) (r2.b, r2.p, k, h0) (by dsimp only; omega) ⟨by dsimp only; exact (Rd.eta hr2).mono (by omega), by dsimp only; omega, by dsimp only; omega, H0⟩
  · exact key
  obtain ⟨b0, p0, i, d⟩ := s
  obtain ⟨h1, h2, h3, h4⟩ := hi
  dsimp only at h1 h2 h3 h4 ⊢
  have ih' : ∀ b q (d : GHouse), Rd (K + 902 + 61 * (40 - (i - 1))) (GRd.mk b q) → 1 ≤ i → HG d → Tot (gd (ok64 (i - 1)) (z28 zi6 f b q (i - 1) d.people d.tree d.runs d.nets)) (fun v => HG v.1 ∧ Rd (K + 4000) v.2) :=
    fun b q d g1 g2 g3 => Tot.gd (by constructor <;> omega) (ih (b, q, i - 1, d) ⟨g1, by dsimp only; omega, by dsimp only; omega, g3⟩ (by dsimp only; omega))
  rw [z28]
  refine Tot.iteD (fun c => ?_) (fun c => Tot.pure ⟨h4, h1.mono (by omega)⟩)
  refine Tot.bind (vx8 h1 (by omega) (h := d) h4) ?_
  rintro ⟨q, r3, h5⟩ ⟨hq, hr3, e⟩
  dsimp only at hq hr3 e ⊢
  subst e
  refine Tot.iteD (fun c2 => ?_) (fun c2 => ih' _ _ _ (Rd.eta (hr3.mono (by omega))) (by omega) h4)
  obtain ⟨Hi, Hb⟩ : HInv h5 ∧ houseB h5 = true := h4.resolve_right (fun e => by rw [e] at c2; exact absurd c2 (by show ¬ (0 : Int) < ((([] : List GNet).length : Nat) : Int); simp))
  refine Tot.bindE (zz0 q (by unfold SMALL; omega)) (Tot.ite (fun c3 => ?_) (fun c3 => ih' _ _ _ (Rd.eta (hr3.mono (by omega))) (by omega) h4))
  refine Tot.bindE (zq1 h5 Hi.small) (Tot.bindE (v5z Hi q (zj9 c3) (by unfold SMALL; omega)) ?_)
  exact ih' _ _ _ (Rd.eta (hr3.mono (by omega))) (by omega) (do_G Hi Hb c3)
theorem yb9 : GHouse.lens (· ≤ 1048576) noHouse := ⟨⟨by simp [noHouse], fun y h => by simp [noHouse] at h⟩, by simp [noHouse], ⟨by simp [noHouse], fun y h => by simp [noHouse] at h⟩, ⟨by simp [noHouse], fun y h => by simp [noHouse] at h⟩⟩
theorem HG.lens {h : GHouse} (H : HG h) : GHouse.lens (· ≤ 1048576) h ∧ h.nets.length ≤ 3 ∧ h.runs.length ≤ 5 := by
  rcases H with ⟨Hi, Hb⟩ | rfl
  · have F := zz2.1 Hb
    have a := F.nets
    simp only [netsB, zA, z0b] at a
    exact ⟨Hi.lens, by omega, F.many⟩
  · exact ⟨yb9, by simp [noHouse], by simp [noHouse]⟩
theorem vj5 {K : Int} {r : GRd} {n : Int} (h : Rd K r) (hK : K ≤ 200000000) : Tot (zx9 r n) (fun v => (GHouse.lens (· ≤ 1048576) v.1 ∧ v.1.runs.length ≤ 6) ∧ Rd (K + 6000) v.2) := by
  unfold zx9
  refine Tot.bind2 (va8 h (by omega)) ?_
  intro h0 r0 hh; dsimp only at hh; obtain ⟨H0, hr0⟩ := hh; dsimp only
  obtain ⟨⟨⟨l1, l2⟩, l3, ⟨l4, l5⟩, l6, l7⟩, l8, l9⟩ := H0.lens
  refine Tot.bind2 (z0f hr0 (by omega)) ?_
  intro k0 r1 hh; dsimp only at hh; obtain ⟨⟨a0, a1⟩, hr1⟩ := hh; dsimp only
  refine Tot.iteD (fun c => Tot.pure ⟨⟨⟨⟨l1, l2⟩, l3, ⟨l4, l5⟩, l6, l7⟩, by dsimp only; omega⟩, hr1.mono (by omega)⟩) (fun c => ?_)
  refine Tot.bind2 (z0f hr1 (by omega)) ?_
  intro k1 r2 hh; dsimp only at hh; obtain ⟨⟨a2, a3⟩, hr2⟩ := hh; dsimp only
  refine Tot.iteD (fun c => ?_) (fun c => Tot.iteD (fun c => ?_) (fun c => Tot.iteD (fun c => ?_) (fun c => ?_)))
  · refine Tot.bind2 (wk7 hr2 (by omega)) ?_
    intro n1 r3 hh; dsimp only at hh; obtain ⟨hn, hr3⟩ := hh; dsimp only
    refine Tot.gd (by simp only [zC, zN, SMALL]; omega) (Tot.pure ⟨⟨⟨⟨by show (h0.nets ++ [n1]).length ≤ 1048576; rw [zL, zJ]; omega, fun y hy => ?_⟩, l3, ⟨l4, l5⟩, l6, l7⟩, by dsimp only; omega⟩, hr3.mono (by omega)⟩)
    have hy : y ∈ h0.nets ++ [n1] := hy
    rcases zP.1 hy with hy | hy
    · exact l2 y hy
    · rw [List.mem_singleton.1 hy]; exact hn.lens
  · refine Tot.bind2 (yi9 hr2 (by omega)) ?_
    intro p r3 hh; dsimp only at hh; obtain ⟨hp, hr3⟩ := hh; dsimp only
    exact Tot.pure ⟨⟨⟨⟨l1, l2⟩, by show p.length ≤ 1048576; omega, ⟨l4, l5⟩, l6, l7⟩, by dsimp only; omega⟩, hr3.mono (by omega)⟩
  · refine Tot.bind2 (vq9 hr2 (by omega)) ?_
    intro t r3 hh; dsimp only at hh; obtain ⟨ht, hr3⟩ := hh; dsimp only
    exact Tot.pure ⟨⟨⟨⟨l1, l2⟩, l3, ht, l6, l7⟩, by dsimp only; omega⟩, hr3.mono (by omega)⟩
  · refine Tot.bind (vk9 hr2 (by omega)) ?_
    rintro ⟨x, p, c, r3⟩ ⟨hX, hp, hc, hr3⟩
    dsimp only at hX hp hc hr3 ⊢
    refine Tot.bind2 (z0f hr3 (by omega)) ?_
    intro k2 r4 hh; dsimp only at hh; obtain ⟨⟨a4, a5⟩, hr4⟩ := hh; dsimp only
    refine Tot.gd (by simp only [zC, zN, SMALL]; omega) (Tot.pure ⟨⟨⟨⟨l1, l2⟩, l3, ⟨l4, l5⟩, by show (h0.runs ++ [GRun.mk k2 c]).length ≤ 1048576; rw [zL, zJ]; omega, fun y hy => ?_⟩, by show (h0.runs ++ [GRun.mk k2 c]).length ≤ 6; rw [zL, zJ]; omega⟩, hr4.mono (by omega)⟩)
    have hy : y ∈ h0.runs ++ [GRun.mk k2 c] := hy
    rcases zP.1 hy with hy | hy
    · exact l7 y hy
    · rw [List.mem_singleton.1 hy]; exact hc.lens
def ReqsT (m : Int) (l : List GReq) : Prop := (l.length : Int) ≤ m ∧ ∀ q ∈ l, q.data.length ≤ 4
theorem vp2 {K : Int} {r : GRd} {h : GHouse} {n : Int} (hr : Rd K r) (hK : K ≤ 100000000) (H : HG h) (n0 : 0 ≤ n) (n1 : n ≤ 100) : Tot (zp7 r h n) (fun v => ReqsT n v.1 ∧ Rd (K + 101 * n) v.2) := by
  unfold zp7
  have key := Tot.loopF (Q := fun v : List GReq × GRd => ReqsT n v.1 ∧ Rd (K + 101 * n) v.2) (fun s : List Int × Int × Int × List GReq × GHouse => Rd (K + 101 * s.2.2.1) (GRd.mk s.1 s.2.1) ∧ 0 ≤ s.2.2.1 ∧ s.2.2.1 ≤ n ∧ ReqsT s.2.2.1 s.2.2.2.1 ∧ HG s.2.2.2.2) (fun s => (n - s.2.2.1).toNat)
    (fun f s => z3t n zn6 zn7 f s.1 s.2.1 s.2.2.1 s.2.2.2.1 s.2.2.2.2) (fun f s hi ih => ?_) (r.b, r.p, 0, [], h) (by dsimp only; omega) ⟨by dsimp only; exact (Rd.eta hr).mono (by omega), by dsimp only; omega, n0, ⟨by simp, fun q hq => by simp at hq⟩, H⟩
  · exact key
  obtain ⟨b0, p0, i, l, d⟩ := s
  obtain ⟨h1, h2, h3, h4, h5⟩ := hi
  dsimp only at h1 h2 h3 h4 h5 ⊢
  have done : Tot (some (l, GRd.mk b0 p0)) (fun v : List GReq × GRd => ReqsT n v.1 ∧ Rd (K + 101 * n) v.2) := Tot.pure ⟨⟨Int.le_trans h4.1 h3, h4.2⟩, h1.mono (by omega)⟩
  rw [z3t]
  refine Tot.iteD (fun c => Tot.iteD (fun c2 => ?_) (fun _ => done)) (fun _ => done)
  obtain ⟨Hi, Hb⟩ : HInv d ∧ houseB d = true := h5.resolve_right (fun e => by rw [e] at c2; exact absurd c2 (by show ¬ (0 : Int) < ((([] : List GNet).length : Nat) : Int); simp))
  refine Tot.bind2 (vj6 h1 (by omega) h5) ?_
  intro q r3 hh; dsimp only at hh; obtain ⟨hq, hr3⟩ := hh; dsimp only
  have h41 := h4.1
  have ih' : ∀ d : GHouse, HG d → Tot (gd (ok64 (i + 1)) (z3t n zn6 zn7 f r3.b r3.p (i + 1) (l ++ [q]) d)) (fun v => ReqsT n v.1 ∧ Rd (K + 101 * n) v.2) :=
    fun d g3 => Tot.gd (by constructor <;> omega) (ih (r3.b, r3.p, i + 1, l ++ [q], d) ⟨(Rd.eta hr3).mono (by dsimp only; omega), by dsimp only; omega, by dsimp only; omega, ⟨by dsimp only; rw [zL, zJ]; omega, fun x hx => by
      rcases zP.1 hx with hx | hx
      · exact h4.2 x hx
      · rw [List.mem_singleton.1 hx]; exact hq⟩, g3⟩ (by dsimp only; omega))
  refine Tot.gd (by simp only [zC, zN, SMALL]; omega) (Tot.bindE (zz0 q (by unfold SMALL; omega)) (Tot.ite (fun c3 => ?_) (fun c3 => ih' _ h5)))
  refine Tot.bindE (zq1 d Hi.small) (Tot.bindE (v5z Hi q (zj9 c3) (by unfold SMALL; omega)) ?_)
  exact ih' _ (do_G Hi Hb c3)
theorem vl8 (l : List GReq) (hl : l.length ≤ SMALL) (hd : ∀ q ∈ l, q.data.length ≤ SMALL) : zp5 l = some (l.filter reqB) := by
  unfold zp5
  rw [y8n l hl (fun q => if reqB q = true then [q] else []) (z3s l zn5) zn5 (fun n s => by rw [z3s, if_neg (by simp)]) (fun n pre x suf s a b c d i j => by
    rw [z3s, if_pos (zT d), b, zB, zz0 x (hd x c), zB, zB]
    by_cases h : reqB x = true
    · have hs : s.length + [x].length ≤ SMALL := by
        have h1 := yi2 (e := fun q => if reqB q = true then [q] else []) (fun q => by split <;> simp) pre
        rw [a, zL, zC] at hl
        rw [j, zJ]; omega
      rw [if_pos h, if_pos h, z00 hs, z00 i]
    · rw [if_neg h, if_neg h, z00 i, List.append_nil]), zz4]
  rfl
theorem ReqsT.small {m : Int} {l : List GReq} (h : ReqsT m l) (hm : m ≤ 1000) : l.length ≤ SMALL ∧ ∀ q ∈ l, q.data.length ≤ SMALL := ⟨by have := h.1; unfold SMALL; omega, fun q hq => by have := h.2 q hq; unfold SMALL; omega⟩
abbrev LogT (v : GHouse × List GReq) : Prop := GHouse.lens (· ≤ 1048576) v.1 ∧ ReqsT 60 v.2
theorem drawLogRun (code : List Int) (hc : ∀ y ∈ code, 0 ≤ y ∧ y ≤ 255) : Tot (z9q code) LogT := by
  unfold z9q
  refine Tot.bind (vo5 code hc) fun r h => ?_
  refine Tot.bind2 (v10 h (by omega)) ?_
  intro h0 r0 hh; dsimp only at hh; obtain ⟨⟨H0, _⟩, hr0⟩ := hh; dsimp only
  refine Tot.bind2 (z0f hr0 (by omega)) ?_
  intro k0 r1 hh; dsimp only at hh; obtain ⟨⟨a0, a1⟩, hr1⟩ := hh; dsimp only
  refine Tot.gd (by constructor <;> omega) (Tot.bind2 (vp2 hr1 (by omega) H0 (by omega) (by omega)) ?_)
  intro l r2 hh; dsimp only at hh; obtain ⟨hl, hr2⟩ := hh; dsimp only
  refine Tot.bind2 (z0f hr2 (by omega)) ?_
  intro k1 r3 hh; dsimp only at hh; obtain ⟨⟨a2, a3⟩, hr3⟩ := hh; dsimp only
  have hl1 := hl.1
  refine Tot.iteD (fun _ => ?_) (fun _ => ?_)
  · refine Tot.bind2 (vj5 hr3 (by omega)) ?_
    intro h1 r4 hh; dsimp only at hh; dsimp only
    exact Tot.pure ⟨hh.1.1, ⟨by dsimp only; omega, hl.2⟩⟩
  · have S := hl.small (by omega)
    refine Tot.bindE (vl8 l S.1 S.2) (Tot.pure ⟨H0.lens.1, ⟨?_, fun q hq => hl.2 q (List.mem_filter.1 hq).1⟩⟩)
    have := List.length_filter_le reqB l
    dsimp only; omega
end Go.Am.Pl
end
section
namespace Go.Am.Pl
open Go
theorem w1l {α : Type} [DecidableEq α] (a b : List α) (hs : a.length ≤ SMALL) (hl : a.length = b.length) (f : Nat → Int → Option Bool) (kx : Option Bool) (h0 : ∀ n, f (n + 1) (a.length : Int) = kx)
    (h1 : ∀ n i x y, x ∈ a → y ∈ b → getI a i = some x → getI b i = some y → i < (a.length : Int) → ok64 (i + 1) → f (n + 1) i = if x = y then f n (i + 1) else some false) : f FUEL 0 = if a = b then kx else some false := by
  have := scan0 a (by unfold SMALL at hs; omega) f (fun pre suf => if suf = b.drop pre.length then kx else some false) (fun n => by rw [h0, hl, List.drop_length]; simp)
    (fun n pre x suf e g c d ih => by
      have hlt : pre.length < b.length := by rw [← hl]; omega
      have hb : getI b (pre.length : Int) = some b[pre.length] := by rw [z3i, List.getElem?_eq_getElem hlt]
      rw [h1 n _ x b[pre.length] (by rw [e]; simp) (List.getElem_mem hlt) g hb c d, ih, List.drop_eq_getElem_cons hlt]
      have hl1 : (pre ++ [x]).length = pre.length + 1 := by simp
      rw [hl1]
      by_cases h : x = b[pre.length]
      · rw [if_pos h]
        by_cases h2 : suf = b.drop (pre.length + 1)
        · rw [if_pos h2, if_pos (by rw [h2, ← h])]
        · rw [if_neg h2, if_neg (fun h3 => h2 (List.cons.inj h3).2)]
      · rw [if_neg h, if_neg (fun h3 => h (List.cons.inj h3).1)])
  rw [this]; rfl
theorem v6u {α : Type} [DecidableEq α] {a b : List α} {X : Option Bool} (h : a.length = b.length → X = some (decide (a = b))) : (if decide ((a.length : Int) = (b.length : Int)) = true then X else some false) = some (decide (a = b)) := by
  by_cases hl : a.length = b.length
  · rw [if_pos (zT (by omega)), h hl]
  · rw [if_neg (by rw [zE]; omega), decide_eq_false (fun e => hl (by rw [e]))]
theorem ww1 {p : Prop} [Decidable p] : (if p then some true else some false) = some (decide p) := by by_cases h : p <;> simp [h]
theorem ys2 (a b : List Int) (hs : a.length ≤ SMALL) : z4d a b = some (decide (a = b)) := by
  unfold z4d
  refine v6u fun hl => ?_
  rw [w1l a b hs hl (z63 a b y6w) (some true) (fun n => by rw [z63, if_neg (by simp)]; rfl) (fun n i x y _ _ hx hy hi ho => by
    rw [z63, if_pos (zT hi), hx, zB, hy, zB, z00 ho]; simp only [zE]), ww1]
theorem vv5 (a b : List GItem) (hs : a.length ≤ SMALL) : zw8 a b = some (decide (a = b)) := by
  unfold zw8
  refine v6u fun hl => ?_
  rw [w1l a b hs hl (z62 a b y6v) (some true) (fun n => by rw [z62, if_neg (by simp)]; rfl) (fun n i x y _ _ hx hy hi ho => by
    rw [z62, if_pos (zT hi), hx, zB, hy, zB, z00 ho]
    have e : ([x.task, x.who, x.did] = [y.task, y.who, y.did]) ↔ x = y := by cases x; cases y; simp
    simp only [zE, e]), ww1]
theorem vz5 (a b : List GDid) (hs : a.length ≤ SMALL) : y18 a b = some (decide (a = b)) := by
  unfold y18
  refine v6u fun hl => ?_
  rw [w1l a b hs hl (z7d a b ya6) (some true) (fun n => by rw [z7d, if_neg (by simp)]; rfl) (fun n i x y _ _ hx hy hi ho => by
    rw [z7d, if_pos (zT hi), hx, zB, hy, zB, z00 ho]
    have e : ([x.task, x.who] = [y.task, y.who]) ↔ x = y := by cases x; cases y; simp
    simp only [zE, e]), ww1]
theorem iteS {p : Prop} [Decidable p] {q : Prop} [Decidable q] : (if decide p = true then some (decide q) else some false) = some (decide (p ∧ q)) := by by_cases h : p <;> simp [h]
theorem vv6 (a b : GCase) (hs : a.small) : zw9 a b = some (decide (a = b)) := by
  obtain ⟨h1, h2, h3, h4⟩ := hs
  unfold zw9
  simp only [ys2 _ _ h1, vv5 _ _ h2, ys2 _ _ h3, vz5 _ _ h4, zB, iteS]
  congr 1
  refine decide_eq_decide.2 ?_
  cases a; cases b; simp
theorem gu_Ok : zn4 = some true := by
  unfold zn4
  rw [zd6 _ (by simp [SMALL])]; rfl
end Go.Am.Pl
end
section
namespace Go.Am.Pl
open Go
theorem w5k {p q : Prop} [Decidable p] [Decidable q] {A : Option Bool} (h : p ↔ q) : (if decide p = true then A else some false) = if q then A else some false := by
  by_cases hp : p
  · rw [if_pos (zT hp), if_pos (h.1 hp)]
  · rw [if_neg (by simpa using hp), if_neg (fun x => hp (h.2 x))]
theorem wv5 {α : Type} [DecidableEq α] (a b : List α) (hs : a.length ≤ SMALL) (f : Nat → Int → Option Bool) (kx : Option Bool) (hk : kx = some true) (h0 : ∀ n, f (n + 1) (a.length : Int) = kx)
    (h1 : ∀ n i x y, x ∈ a → y ∈ b → getI a i = some x → getI b i = some y → i < (a.length : Int) → ok64 (i + 1) → f (n + 1) i = if x = y then f n (i + 1) else some false) :
    (if decide ((a.length : Int) = (b.length : Int)) = true then f FUEL 0 else some false) = some (decide (a = b)) :=
  v6u fun hl => by rw [w1l a b hs hl f kx h0 h1, hk, ww1]
theorem vv8 (a b : GTask) (hs : a.small) : zx1 a b = some (decide (a = b)) := by
  obtain ⟨h1, h2, h3⟩ := hs
  unfold zx1
  rw [wv5 a.out b.out h2 (z65 a b zs7) zs7 rfl (fun n => by rw [z65, if_neg (by simp)]) (fun n i x y _ _ hx hy hi ho => by
    rw [z65, if_pos (zT hi), hx, zB, hy, zB, z00 ho]
    refine w5k ?_
    obtain ⟨xt, xa, xb, xc⟩ := x; obtain ⟨yt, ya, yb, yc⟩ := y
    simp)]
  simp only [ys2 _ _ h1, ys2 _ _ h3, zB, iteS]
  congr 1
  refine decide_eq_decide.2 ?_
  cases a; cases b; simp only [GTask.mk.injEq]
  constructor
  · rintro ⟨c1, c2, c3, c4, c5, c6, c7, c8, c9⟩; exact ⟨c1, c2, c3, c9, c4, c5, c6, c7, c8⟩
  · rintro ⟨c1, c2, c3, c9, c4, c5, c6, c7, c8⟩; exact ⟨c1, c2, c3, c4, c5, c6, c7, c8, c9⟩
theorem vz6 (a b : GNet) (hs : a.small) : y19 a b = some (decide (a = b)) := by
  unfold y19
  rw [wv5 a.tasks b.tasks hs.1 (z7e a b y0c) y0c rfl (fun n => by rw [z7e, if_neg (by simp)]) (fun n i x y hm _ hx hy hi ho => by
    rw [z7e, if_pos (zT hi), hx, zB, hy, zB, vv8 x y (hs.2 x hm), zB, z00 ho]
    exact w5k Iff.rfl)]
  simp only [iteS]
  congr 1
  refine decide_eq_decide.2 ?_
  cases a; cases b; simp
theorem vv9 (a b : List GNode) (hs : treeSmall a) : zx2 a b = some (decide (a = b)) := by
  unfold zx2
  refine wv5 a b hs.1 (z66 a b zs8) zs8 rfl (fun n => by rw [z66, if_neg (by simp)]) (fun n i x y hm _ hx hy hi ho => ?_)
  rw [z66, if_pos (zT hi)]
  simp only [hx, hy, zB, ys2 _ _ (hs.2 x hm), z00 ho]
  obtain ⟨⟨a1, a2, a3⟩, a4, a5, a6, a7⟩ := x; obtain ⟨⟨b1, b2, b3⟩, b4, b5, b6, b7⟩ := y
  by_cases e1 : a1 = b1 <;> by_cases e2 : a2 = b2 <;> by_cases e3 : a3 = b3 <;> by_cases e4 : a4 = b4 <;> by_cases e5 : a5 = b5 <;> by_cases e6 : a6 = b6 <;> by_cases e7 : a7 = b7 <;> simp [e1, e2, e3, e4, e5, e6, e7]
theorem wv4 (a b : GHouse) (hs : houseSmall a) : z5n a b = some (decide (a = b)) := by
  obtain ⟨h1, h2, h3, h4, h5⟩ := hs
  unfold z5n
  have e1 : ∀ hl : a.runs.length = b.runs.length, zn3 a b = if a.runs = b.runs then some true else some false := fun hl => by
    unfold zn3
    refine w1l a.runs b.runs h4 hl (z5r a b y3i) (some true) (fun n => by rw [z5r, if_neg (by simp)]; rfl) (fun n i x y hm _ hx hy hi ho => ?_)
    rw [z5r, if_pos (zT hi)]
    simp only [hx, hy, zB, vv6 _ _ (h5 x hm), z00 ho]
    obtain ⟨a1, a2⟩ := x; obtain ⟨b1, b2⟩ := y
    by_cases e1 : a1 = b1 <;> by_cases e2 : a2 = b2 <;> simp [e1, e2]
  have e2 : ∀ hl : a.nets.length = b.nets.length, ∀ kx : Option Bool, z3n a b kx FUEL 0 = if a.nets = b.nets then kx else some false := fun hl kx =>
    w1l a.nets b.nets h1.1 hl (z3n a b kx) kx (fun n => by rw [z3n, if_neg (by simp)]) (fun n i x y hm _ hx hy hi ho => by
      rw [z3n, if_pos (zT hi), hx, zB, hy, zB, vz6 x y (h1.2 x hm), zB, z00 ho]
      exact w5k Iff.rfl)
  by_cases hl : a.nets.length = b.nets.length
  case neg => rw [if_neg (by rw [zE]; omega), decide_eq_false (fun e => hl (by rw [e]))]
  rw [if_pos (zT (by omega)), ys2 _ _ h2, zB, vv9 _ _ h3, zB, e2 hl]
  by_cases hp : a.people = b.people
  case neg => rw [if_neg (by simpa using hp), decide_eq_false (fun e => hp (by rw [e]))]
  rw [if_pos (zT hp)]
  by_cases ht : a.tree = b.tree
  case neg => rw [if_neg (by simpa using ht), decide_eq_false (fun e => ht (by rw [e]))]
  rw [if_pos (zT ht)]
  by_cases hr : a.runs.length = b.runs.length
  case neg => rw [if_neg (by rw [zE]; omega), decide_eq_false (fun e => hr (by rw [e]))]
  rw [if_pos (zT (by omega)), e1 hr]
  obtain ⟨a1, a2, a3, a4⟩ := a; obtain ⟨b1, b2, b3, b4⟩ := b
  dsimp only at hp ht
  by_cases c1 : a1 = b1 <;> by_cases c2 : a4 = b4 <;> simp [c1, c2, hp, ht]
theorem vs4 (a b : GReq) (hs : a.data.length ≤ SMALL) : zr3 a b = some (decide (a = b)) := by
  unfold zr3
  simp only [ys2 _ _ hs, zB, iteS]
  congr 1
  refine decide_eq_decide.2 ?_
  obtain ⟨a1, a2, a3, a4, a5, a6, a7, ⟨a8, a9, a10⟩, a11⟩ := a; obtain ⟨b1, b2, b3, b4, b5, b6, b7, ⟨b8, b9, b10⟩, b11⟩ := b
  simp
theorem vv7 (a b : List GReq) (hs : a.length ≤ SMALL) (hd : ∀ r ∈ a, r.data.length ≤ SMALL) : zx0 a b = some (decide (a = b)) := by
  unfold zx0
  refine wv5 a b hs (z64 a b zs6) zs6 rfl (fun n => by rw [z64, if_neg (by simp)]) (fun n i x y hm _ hx hy hi ho => ?_)
  rw [z64, if_pos (zT hi), hx, zB, hy, zB, vs4 x y (hd x hm), zB, z00 ho]
  exact w5k Iff.rfl
end Go.Am.Pl
end
section
namespace Go.Am.Pl
open Go
inductive WorkR (n : GNet) (c : GCase) (k : Int) (data : List Int) : GCase → Prop where
  | more (h : (atI c.busy k).did + 1 < (atI n.tasks (atI c.busy k).task).need) : WorkR n c k data (GCase.mk c.state c.marks (c.busy.set k.toNat (itD (atI c.busy k))) data c.did)
  | ends (h : ¬ (atI c.busy k).did + 1 < (atI n.tasks (atI c.busy k).task).need) (G : GiveF n c.marks (atI c.busy k).task data) (hp : 0 < atI (giveL n c.marks (atI n.tasks (atI c.busy k).task) data) 1) :
      WorkR n c k data (GCase.mk 2 (giveL n c.marks (atI n.tasks (atI c.busy k).task) data) [] data (c.did ++ [GDid.mk (atI c.busy k).task (atI c.busy k).who]))
  | goes (h : ¬ (atI c.busy k).did + 1 < (atI n.tasks (atI c.busy k).task).need) (G : GiveF n c.marks (atI c.busy k).task data) (hp : ¬ 0 < atI (giveL n c.marks (atI n.tasks (atI c.busy k).task) data) 1) :
      WorkR n c k data (GCase.mk c.state (giveL n c.marks (atI n.tasks (atI c.busy k).task) data) (c.busy.take k.toNat ++ c.busy.drop (k + 1).toNat) data (c.did ++ [GDid.mk (atI c.busy k).task (atI c.busy k).who]))
end Go.Am.Pl
end
section
namespace Go.Am.Pl
open Go
theorem wx1 : houseSmall noHouse := zd5 yb9
end Go.Am.Pl
end
section
namespace Go.Am.Pl
open Go
theorem wm1 {h : GHouse} {q : List GReq} : (logRunB h q).2.length ≤ q.length ∧ ∀ r ∈ (logRunB h q).2, r ∈ q := by
  unfold logRunB
  cases houseB h && logB q
  · exact ⟨Nat.zero_le _, fun r hr => by simp at hr⟩
  · refine ⟨w78 q h, ?_⟩
    show ∀ r ∈ (foldR h [] q).2, r ∈ q
    have key : ∀ (rs : List GReq) (h : GHouse), ∀ r ∈ (foldR h [] rs).2, r ∈ rs := by
      intro rs
      induction rs with
      | nil => intro h r hr; simp [foldR] at hr
      | cons x rs ih =>
        intro h r hr
        rw [foldR] at hr
        split at hr
        · rw [zz5] at hr
          rcases zP.1 hr with hr | hr
          · rw [List.nil_append, List.mem_singleton] at hr; rw [hr]; simp
          · simp [ih _ r hr]
        · simp [ih _ r hr]
    exact key q h
end Go.Am.Pl
end
section
namespace Go.Am.Pl
open Go
end Go.Am.Pl
end
section
namespace Go.Am.Pl
open Go
theorem wl4 {h : GHouse} {r : GReq} {rs : List GReq} : foldR h [] (r :: rs) = if (doB h r).2 = 1 then ((foldR (doB h r).1 [] rs).1, r :: (foldR (doB h r).1 [] rs).2) else foldR h [] rs := by
  rw [foldR]
  split
  · rw [zz5]; rfl
  · rfl
theorem yr7 : ∀ (rs : List GReq) {h : GHouse}, houseB h = true → (∀ r ∈ rs, reqB r = true) → houseB (foldR h [] rs).1 = true
  | [], h, hh, _ => hh
  | r :: rs, h, hh, hr => by
    rw [wl4]
    split
    · exact yr7 rs (w6k hh (hr r (by simp))) (fun x hx => hr x (by simp [hx]))
    · exact yr7 rs hh (fun x hx => hr x (by simp [hx]))
theorem v6y {log : List GReq} : logB log = true ↔ log.length ≤ 150 ∧ ∀ r ∈ log, reqB r = true := by
  simp only [logB, zA, zV, Bool.not_eq_true', decide_eq_false_iff_not]
  constructor
  · rintro ⟨a, b⟩; exact ⟨by omega, b⟩
  · rintro ⟨a, b⟩; exact ⟨by omega, b⟩
end Go.Am.Pl
end
section
namespace Go.Am.Pl
open Go
theorem vl4 {h : GHouse} {rs : List GReq} (hh : houseB h = true) (hl : GHouse.lens (· ≤ 1048576) h) (hr : ∀ r ∈ rs, reqB r = true) : GHouse.lens (· ≤ 1048576) (foldR h [] rs).1 :=
  (w77 rs h (zz3 hh hl) (fun r h => zj9 (hr r h))).1.lens
theorem v42 {h : GHouse} {rs : List GReq} : (houseB h = true ∧ logB rs = true ∧ logRunB h rs = foldR h [] rs) ∨ (logRunB h rs = (noHouse, []) ∧ ¬ (houseB h = true ∧ logB rs = true)) := by
  unfold logRunB
  cases e : houseB h && logB rs
  · refine .inr ⟨rfl, fun c => ?_⟩
    rw [c.1, c.2] at e; cases e
  · rw [zA] at e
    exact .inl ⟨e.1, e.2, rfl⟩
theorem vp5 {h : GHouse} {rs : List GReq} (hl : GHouse.lens (· ≤ 1048576) h) : GHouse.lens (· ≤ 1048576) (logRunB h rs).1 := by
  rcases v42 (h := h) (rs := rs) with ⟨a, b, e⟩ | ⟨e, _⟩
  · rw [e]; exact vl4 a hl (v6y.1 b).2
  · rw [e]; exact yb9
theorem vp6 {h : GHouse} {rs : List GReq} {m : Int} (hr : ReqsT m rs) : ReqsT m (logRunB h rs).2 :=
  ⟨by have := (wm1 (h := h) (q := rs)).1; have := hr.1; omega, fun q hq => hr.2 q ((wm1 (h := h) (q := rs)).2 q hq)⟩
end Go.Am.Pl
end
