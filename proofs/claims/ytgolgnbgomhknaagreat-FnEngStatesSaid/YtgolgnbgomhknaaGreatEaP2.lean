/- Plain laws. Own work. -/
import Derived.Test.YtgolgnbgomhknaaGreatEaP1
set_option maxRecDepth 100000
set_option maxHeartbeats 2000000
set_option linter.unusedVariables false
set_option linter.unusedSimpArgs false
section
namespace Go.Am.Pl
open Go
structure CaseT (m : Nat) (c : GCase) : Prop where
  marks : c.marks.length ≤ 10
  busy : c.busy.length ≤ 7
  data : c.data.length ≤ 4
  did : c.did.length ≤ m
theorem CaseT.small {c : GCase} {m : Nat} (h : CaseT m c) (hm : m ≤ 62) : c.small := by
  obtain ⟨a, b, d, e⟩ := h
  exact ⟨by unfold SMALL; omega, by unfold SMALL; omega, by unfold SMALL; omega, by unfold SMALL; omega⟩
theorem CaseT.bnd {c d : GCase} {m : Nat} (h : CaseT m c) (hm : 61 ≤ m) (b : Bnd c d) : CaseT m d := by
  obtain ⟨p, q, r, s⟩ := b
  obtain ⟨t, u, v, w⟩ := h
  exact ⟨by omega, by omega, by omega, by omega⟩
theorem ve8 {n : GNet} {data : List Int} (hd : data.length ≤ 4) : CaseT 61 (newC n data) := by
  unfold newC
  cases e : netB n && datOk data
  · exact ⟨Nat.zero_le _, Nat.zero_le _, Nat.zero_le _, Nat.zero_le _⟩
  · rw [zA] at e
    have h1 := z5e e.1
    exact ⟨by show ((List.replicate n.places.toNat (0 : Int)).set 0 1).length ≤ 10; simp; omega, Nat.zero_le _, hd, Nat.zero_le _⟩
theorem v8s {K : Int} {r : GRd} {n : GNet} {p : List Int} {c : GCase} (h : Rd K r) (hK : K ≤ 900000000) (hn : n.small) (hp : p.length ≤ SMALL) (hc : c.small) : Tot (zl2 r n p c) (fun v => Bnd c v.1 ∧ Rd (K + 6) v.2) := by
  unfold zl2
  repeat' first
    | (refine Tot.bind2 (z0h (by assumption) (by omega)) ?_; intro a b h; dsimp only at h; obtain ⟨⟨_, _⟩, _⟩ := h; try dsimp only)
    | (refine Tot.bind2 (z0h (by assumption) (by omega)) ?_; intro a b h; dsimp only at h; obtain ⟨⟨_, _⟩, _⟩ := h; try dsimp only)
    | (refine Tot.gd (by first | omega | (constructor <;> omega) | (simp only [zL, zC, zN, zS, List.length_drop, SMALL]; omega)) ?_)
    | (refine Tot.getI (by omega) (by first | omega | (simp only [zC, zN, zS, zL]; omega)) ?_; intro x hx hg)
    | (refine Tot.iteD (fun _ => ?_) (fun _ => ?_))
    | refine Tot.bindE (yy5 n c _ _ _ hn hc) ?_
    | (refine Tot.bindE (yp5 n c.marks c.busy hn hc.1 hc.2.1) ?_; generalize tasksB n c.marks c.busy = ts)
    | (refine Tot.bindE (w4w n p c.did c.busy _ hn hp hc.2.2.2 hc.2.1) ?_; generalize mayB n p c.did c.busy _ = ms)
    | refine Tot.bindE (yp3 n p c _ _ hn hp hc) ?_
    | exact Tot.pure ⟨wv7 n c _ _ _, Rd.mono (by assumption) (by omega)⟩
    | exact Tot.pure ⟨w8q n p c _ _, Rd.mono (by assumption) (by omega)⟩
    | exact Tot.pure ⟨Bnd.refl c, Rd.mono (by assumption) (by omega)⟩
abbrev CaseQ (K : Int) (v : GNet × List Int × GCase × GRd) : Prop := NetT v.1 ∧ v.2.1.length ≤ 5 ∧ CaseT 62 v.2.2.1 ∧ Rd K v.2.2.2
theorem v3q {K : Int} {n : Int} {x : GNet} {p : List Int} (hK : K ≤ 400000000) (hX : NetT x) (hp : p.length ≤ 5) {b : List Int} {q : Int} {k : Int} {c : GCase} (h : Rd K (GRd.mk b q)) (hc : CaseT 61 c) (k0 : 0 ≤ k) (k1 : k ≤ 16) :
    Tot (z3o p x (z6s n p x) FUEL b q c.state k c.marks c.busy c.data c.did) (CaseQ (K + 500)) := by
  have hps : p.length ≤ SMALL := by unfold SMALL; omega
  have key := Tot.loopF (Q := CaseQ (K + 500)) (fun s : List Int × Int × Int × GCase => Rd (K + 6 * (16 - s.2.2.1)) (GRd.mk s.1 s.2.1) ∧ 0 ≤ s.2.2.1 ∧ s.2.2.1 ≤ 16 ∧ CaseT 61 s.2.2.2) (fun s => s.2.2.1.toNat)
    (fun f s => z3o p x (z6s n p x) f s.1 s.2.1 s.2.2.2.state s.2.2.1 s.2.2.2.marks s.2.2.2.busy s.2.2.2.data s.2.2.2.did) (fun f s hi ih => ?_) (b, q, k, c) (by dsimp only; omega) ⟨by dsimp only; exact h.mono (by omega), k0, k1, hc⟩
  · exact key
  obtain ⟨b0, q0, i, d⟩ := s
  obtain ⟨h1, h2, h3, h4⟩ := hi
  dsimp only at h1 h2 h3 h4 ⊢
  have ih' : ∀ b q (d : GCase), Rd (K + 6 * (16 - (i - 1))) (GRd.mk b q) → 1 ≤ i → CaseT 61 d → Tot (z3o p x (z6s n p x) f b q d.state (i - 1) d.marks d.busy d.data d.did) (CaseQ (K + 500)) :=
    fun b q d g1 g2 g3 => ih (b, q, i - 1, d) ⟨g1, by dsimp only; omega, by dsimp only; omega, g3⟩ (by dsimp only; omega)
  rw [z3o]
  refine Tot.iteD (fun c => ?_) (fun c => ?_)
  · refine Tot.bind2 (v8s h1 (by omega) hX.small hps (h4.small (by omega))) ?_
    intro d2 r2 hh
    dsimp only at hh
    obtain ⟨hb, hr⟩ := hh
    dsimp only
    exact Tot.gd (by constructor <;> omega) (ih' _ _ d2 (Rd.mono hr (by omega)) (by omega) (h4.bnd (by omega) hb))
  · have h5 : i = 0 := by omega
    subst h5
    obtain ⟨t1, t2, t3, t4⟩ := h4
    unfold z6s
    repeat' first
      | (refine Tot.bind2 (w81 (by assumption) (by omega)) ?_; intro a b h; dsimp only at h; obtain ⟨_, _⟩ := h; try dsimp only)
      | (refine Tot.bind2 (v51 (by assumption) (by omega) hX.pl) ?_; intro a b h; dsimp only at h; obtain ⟨_, _⟩ := h; try dsimp only)
      | (refine Tot.bind2 (v7g (by assumption) (by omega) hX.one) ?_; intro a b h; dsimp only at h; obtain ⟨_, _⟩ := h; try dsimp only)
      | (refine Tot.bind2 (y2x (by assumption) (by omega)) ?_; intro a b h; dsimp only at h; obtain ⟨_, _⟩ := h; try dsimp only)
      | (refine Tot.bind2 (y9g (by assumption) (by omega)) ?_; intro a b h; dsimp only at h; obtain ⟨_, _⟩ := h; try dsimp only)
      | (refine Tot.bind2 (z0h (by assumption) (by omega)) ?_; intro a b h; dsimp only at h; obtain ⟨⟨_, _⟩, _⟩ := h; try dsimp only)
      | (refine Tot.gd (by first | omega | (constructor <;> omega) | (simp only [zL, zC, zN, zS, List.length_drop, SMALL]; omega)) ?_)
      | (refine Tot.getI (by omega) (by first | omega | (simp only [zC, zN, zS, zL]; omega)) ?_; intro x hx hg)
      | (refine Tot.iteD (fun _ => ?_) (fun _ => ?_))
      | exact Tot.pure ⟨hX, hp, ⟨by first | (dsimp only; omega) | (dsimp only; simp only [zL, zC, zN, zS, List.length_drop]; omega), by dsimp only; omega, by dsimp only; omega, by first | (dsimp only; omega) | (dsimp only; simp only [zL, zC, zN, zS, List.length_drop]; omega)⟩, Rd.mono (by assumption) (by omega)⟩
      | exact Tot.pure ⟨by assumption, hp, ⟨by dsimp only; omega, by dsimp only; omega, by dsimp only; omega, by dsimp only; omega⟩, Rd.mono (by assumption) (by omega)⟩
      | exact Tot.pure ⟨hX, by assumption, ⟨by dsimp only; omega, by dsimp only; omega, by dsimp only; omega, by dsimp only; omega⟩, Rd.mono (by assumption) (by omega)⟩
theorem v7h {K : Int} {r : GRd} {n : Int} (h : Rd K r) (hK : K ≤ 300000000) : Tot (zl1 r n) (CaseQ (K + 1000)) := by
  unfold zl1
  refine Tot.bind2 (we1 h (by omega)) ?_
  intro x r1 hh; dsimp only at hh; obtain ⟨hx, h1⟩ := hh; dsimp only
  refine Tot.bind2 (y9g h1 (by omega)) ?_
  intro p r2 hh; dsimp only at hh; obtain ⟨hp, h2⟩ := hh; dsimp only
  refine Tot.bind2 (y2x h2 (by omega)) ?_
  intro dt r3 hh; dsimp only at hh; obtain ⟨hd, h3⟩ := hh; dsimp only
  have hT := v1h hx
  refine Tot.bindE (yi0 x dt hT.small (by unfold SMALL; omega)) ?_
  refine Tot.bind2 (z0h h3 (by omega)) ?_
  intro a r4 hh; dsimp only at hh; obtain ⟨⟨a0, a1⟩, h4⟩ := hh; dsimp only
  refine Tot.bind2 (z0h h4 (by omega)) ?_
  intro a2 r5 hh; dsimp only at hh; obtain ⟨⟨a3, a4⟩, h5⟩ := hh; dsimp only
  refine Tot.getI (by omega) (by simp only [zC, zN]; omega) ?_
  intro k hk _
  have hk : 0 ≤ k ∧ k ≤ 16 := by
    simp only [zM, List.not_mem_nil, or_false] at hk
    omega
  exact (v3q (n := n) (by omega) hT hp (Rd.eta h5) (ve8 hd) hk.1 hk.2).mono fun v hv => ⟨hv.1, hv.2.1, hv.2.2.1, Rd.mono hv.2.2.2 (by omega)⟩
theorem v1o (code : List Int) (hc : ∀ y ∈ code, 0 ≤ y ∧ y ≤ 255) : Tot (z9c code) (fun r => Rd 0 r) := by
  unfold z9c
  refine Tot.iteD (fun c => Tot.gd ⟨by omega, by omega⟩ (Tot.pure ⟨fun y hy => hc y (List.mem_of_mem_take hy), by show (code.take _).length ≤ 2000; rw [List.length_take]; omega, Int.le_refl _, Int.le_refl _⟩)) (fun c => Tot.pure ⟨hc, by show code.length ≤ 2000; omega, Int.le_refl _, Int.le_refl _⟩)
end Go.Am.Pl
end
section
namespace Go.Am.Pl
open Go
theorem v3z {a b : List Int} (hl : a.length ≤ SMALL) (hab : a.length = b.length) (c : Option Bool) (f : Nat → Int → Option Bool) (h0 : ∀ n, f (n + 1) (a.length : Int) = c)
    (h1 : ∀ n i x y, getI a i = some x → getI b i = some y → i < (a.length : Int) → ok64 (i + 1) → f (n + 1) i = if decide (x = y) = true then f n (i + 1) else some false) :
    f FUEL 0 = if decide (a = b) = true then c else some false := by
  have := scan0 a (by unfold SMALL at hl; omega) f (fun pre suf => if decide (suf = b.drop pre.length) = true then c else some false)
    (fun n => by rw [h0, hab, List.drop_eq_nil_of_le (Nat.le_refl _)]; rfl)
    (fun n pre x suf ha hg hlt hok ih => by
      have hk : pre.length < b.length := by omega
      rw [h1 n _ x b[pre.length] hg (by rw [z2q]; exact List.getElem?_eq_getElem hk) hlt hok, ih, List.drop_eq_getElem_cons hk, zL, zJ]
      by_cases hx : x = b[pre.length]
      · rw [if_pos (zT hx)]
        by_cases hs : suf = b.drop (pre.length + 1)
        · rw [if_pos (zT hs), if_pos (zT (by rw [← hx, ← hs]))]
        · rw [if_neg (by simpa using hs), if_neg (by simp only [zE]; intro h; exact hs (List.cons.inj h).2)]
      · rw [if_neg (by simpa using hx), if_neg (by simp only [zE]; intro h; exact hx (List.cons.inj h).1)])
  simpa using this
theorem v9f (a b : List Int) (hl : a.length ≤ SMALL) : ym4 a b = some (decide (a = b)) := by
  unfold ym4
  by_cases h : a.length = b.length
  · rw [if_pos (zT (by omega)), v3z hl h (some true) (za3 a b (a.length : Int) yx6) (fun n => by rw [za3, if_neg (by simp)]; rfl)
      (fun n i x y ha hb hlt hok => by rw [za3, if_pos (zT hlt), ha, zB, hb, zB, z00 hok])]
    cases decide (a = b) <;> rfl
  · rw [if_neg (by simp only [zE]; omega)]
    exact congrArg some (decide_eq_false fun e => h (by rw [e])).symm
theorem v93 (a b : GAsk) : [a.op, a.var, a.k] = [b.op, b.var, b.k] ↔ a = b := by cases a; cases b; simp
theorem v0l (a b : GReq) (hl : a.data.length ≤ SMALL) : zt1 a b = some (decide (a = b)) := by
  unfold zt1
  have e : a.data.length = b.data.length → z3d a b (z4r a b) FUEL 0 = if decide (a.data = b.data) = true then z4r a b else some false := fun h =>
    v3z hl h _ (z3d a b (z4r a b)) (fun n => by rw [z3d, if_neg (by simp)])
      (fun n i x y ha hb hlt hok => by rw [z3d, if_pos (zT hlt), ha, zB, hb, zB, z00 hok])
  have e2 : (if decide ((a.data.length : Int) = (b.data.length : Int)) = true then z3d a b (z4r a b) FUEL 0 else some false) = if decide (a.data = b.data) = true then z4r a b else some false := by
    by_cases h : a.data.length = b.data.length
    · rw [if_pos (zT (by omega)), e h]
    · rw [if_neg (by simp only [zE]; omega), if_neg (by simp only [zE]; intro e; exact h (by rw [e]))]
  rw [e2]
  unfold z4r
  refine (z8x (z8x (z8x (z8x (z8x (z8x (z8x (z8x rfl)))))))).trans (congrArg some (decide_eq_decide.2 ?_))
  rw [v93]
  cases a; cases b; simp only [GReq.mk.injEq]
  constructor
  · rintro ⟨a, b, c, d, e, f, g, h, i⟩; exact ⟨b, c, d, e, f, g, a, h, i⟩
  · rintro ⟨b, c, d, e, f, g, a, h, i⟩; exact ⟨a, b, c, d, e, f, g, h, i⟩
theorem v4v (a b : GReq) (hl : a.data.length ≤ SMALL) : z5x a b = some (decide (a = b)) := by
  unfold z5x
  rw [v9f _ _ hl]
  refine (z8x (z8x (z8x (z8x (z8x (z8x (z8x (z8x rfl)))))))).trans (congrArg some (decide_eq_decide.2 ?_))
  rw [v93]
  cases a; cases b; simp only [GReq.mk.injEq]
  constructor
  · rintro ⟨b, c, d, e, f, g, h, i, a⟩; exact ⟨b, c, d, e, f, g, a, h, i⟩
  · rintro ⟨b, c, d, e, f, g, a, h, i⟩; exact ⟨b, c, d, e, f, g, h, i, a⟩
theorem v7s {n a b : Int} : inB n a b = true ↔ a ≤ n ∧ n ≤ b := by simp [inB]
def formB (r : GReq) : GReq :=
  if r.kind = 1 then GReq.mk r.kind 0 0 0 0 0 r.data (GAsk.mk 0 0 0) 0 else if r.kind = 2 then GReq.mk r.kind r.who r.case r.task 0 0 [] (GAsk.mk 0 0 0) 0
  else if r.kind = 3 then GReq.mk r.kind 0 r.case r.task r.var r.num [] (GAsk.mk 0 0 0) 0 else if r.kind = 4 then GReq.mk r.kind 0 r.case 0 0 0 [] (GAsk.mk 0 0 0) 0
  else GReq.mk r.kind 0 0 0 0 0 r.data r.if_ r.ans
theorem v65 (r : GReq) (h : inB r.kind 1 5 = true) : zs9 r = some (formB r) := by
  have := v7s.1 h
  unfold zs9 formB
  by_cases h1 : r.kind = 1
  · simp [h1]
  by_cases h2 : r.kind = 2
  · simp [h1, h2]
  by_cases h3 : r.kind = 3
  · simp [h1, h2, h3]
  by_cases h4 : r.kind = 4
  · simp [h1, h2, h3, h4]
  · have h5 : r.kind = 5 := by omega
    simp [h5]
theorem v2k (r : GReq) : z5b r = some (formB r) := by
  unfold z5b formB
  by_cases h1 : r.kind = 1
  · simp [h1]
  by_cases h2 : r.kind = 2
  · simp [h1, h2]
  by_cases h3 : r.kind = 3
  · simp [h1, h2, h3]
  by_cases h4 : r.kind = 4
  · simp [h1, h2, h3, h4]
  · simp [h1, h2, h3, h4]
def reqB (r : GReq) : Bool :=
  inB r.kind 1 5 && (decide (r = formB r) && (inB r.who 0 4 && (inB r.case 0 4 && (inB r.task 0 5 && (inB r.var (-1) 2 && (inB r.num (-99) 99 && (expOk r.if_ && (inB r.ans 0 2 && ((decide (r.kind = 1) || decide (r.kind = 5)) == datOk r.data)))))))))
theorem wi1 (r : GReq) (hl : r.data.length ≤ SMALL) : ze7 r = some (reqB r) := by
  unfold ze7 reqB
  rw [z2r, zB]
  by_cases h : inB r.kind 1 5 = true
  · rw [if_pos h, h, v65 r h, zB, v0l _ _ hl]
    simp only [z2r, y1z, z7q _ hl, zB]
    have e : (if decide (r.kind = 1) = true then some (true == datOk r.data) else some (decide (r.kind = 5) == datOk r.data)) = some ((decide (r.kind = 1) || decide (r.kind = 5)) == datOk r.data) := by
      by_cases h1 : r.kind = 1
      · simp [h1]
      · simp [h1]
    rw [e]
    simp only [iteB, Bool.true_and]
  · rw [if_neg h, zF.2 h]; rfl
theorem wd2 (r : GReq) (hl : r.data.length ≤ SMALL) : zd9 r = some (reqB r) := by
  unfold zd9 reqB
  simp only [z5g, zx9, z4c, ys8, z9z _ hl, v2k, v4v _ _ hl, zB, iteB]
  by_cases h1 : r.kind = 1
  · rw [if_pos (zT h1)]
    simp only [h1, decide_true, Bool.true_or]
    rw [show (datOk r.data == true) = (true == datOk r.data) by cases datOk r.data <;> rfl]
    congr 1; ac_rfl
  · rw [if_neg (by simpa using h1)]
    simp only [h1, decide_false, Bool.false_or]
    rw [show (datOk r.data == decide (r.kind = 5)) = (decide (r.kind = 5) == datOk r.data) by cases datOk r.data <;> cases decide (r.kind = 5) <;> rfl]
    congr 1; ac_rfl
end Go.Am.Pl
end
section
namespace Go.Am.Pl
open Go
def noHouse : GHouse := GHouse.mk [] [] [] []
def setRun (h : GHouse) (k : Int) (r : GCase × Bool) : GHouse × Int :=
  if r.2 = true then (GHouse.mk h.nets h.people h.tree (h.runs.set k.toNat (GRun.mk (atI h.runs k).net r.1)), 1) else (h, 3)
noncomputable def turnB (h : GHouse) (r : GReq) : GCase × Bool :=
  if r.kind = 2 then startB (atI h.nets (atI h.runs r.case).net) h.people (atI h.runs r.case).case r.task r.who
  else if r.kind = 3 then workB (atI h.nets (atI h.runs r.case).net) (atI h.runs r.case).case r.task r.var r.num
  else stopB (atI h.nets (atI h.runs r.case).net) (atI h.runs r.case).case
def netOf (h : GHouse) (data : List Int) : Int := if (h.nets.length : Int) ≤ askB h.tree data then 0 else askB h.tree data
noncomputable def doB (h : GHouse) (r : GReq) : GHouse × Int :=
  if r.kind = 1 then (if (h.runs.length : Int) = 5 then (h, 4) else (GHouse.mk h.nets h.people h.tree (h.runs ++ [GRun.mk (netOf h r.data) (newC (atI h.nets (netOf h r.data)) r.data)]), 1))
  else if r.kind = 5 then (if (addB h.tree r.data r.if_ r.ans).2 = true then (GHouse.mk h.nets h.people (addB h.tree r.data r.if_ r.ans).1 h.runs, 1) else (h, 3))
  else if (h.runs.length : Int) ≤ r.case then (h, 2) else setRun h r.case (turnB h r)
structure HInv (h : GHouse) : Prop where
  lens : GHouse.lens (· ≤ 1048576) h
  one : 1 ≤ h.nets.length
  net : ∀ r ∈ h.runs, 0 ≤ r.net ∧ r.net < h.nets.length
  many : h.runs.length ≤ 5
theorem HInv.small {h : GHouse} (H : HInv h) : houseSmall h := zv7 H.lens
theorem ys7 {h : GHouse} (hb : houseB h = true) (hl : GHouse.lens (· ≤ 1048576) h) : HInv h := by
  simp only [houseB, netsB, runB, zA, zV, z0c, Bool.not_eq_true', decide_eq_false_iff_not] at hb
  obtain ⟨⟨a, b⟩, c, d, e, f⟩ := hb
  exact ⟨hl, by omega, fun r hr => by have := (f r hr).1; omega, by omega⟩
theorem we0 {h : GHouse} (H : HInv h) (data : List Int) : 0 ≤ netOf h data ∧ netOf h data < h.nets.length := by
  have := H.one
  have := w83 h.tree data
  unfold netOf; split <;> omega
theorem wv5 {h : GHouse} (H : HInv h) {r : GReq} (h0 : 0 ≤ r.case) (h1 : r.case < h.runs.length) : (atI h.nets (atI h.runs r.case).net).small ∧ (atI h.runs r.case).case.small ∧ getI h.nets (atI h.runs r.case).net = some (atI h.nets (atI h.runs r.case).net) := by
  have hm := z2k h.runs h0 h1
  have hn := H.net _ hm
  have S := H.small
  exact ⟨S.1.2 _ (z2k h.nets hn.1 hn.2), S.2.2.2.2 _ hm, z0i h.nets hn.1 hn.2⟩
theorem v64 {h : GHouse} (H : HInv h) (r : GReq) (h0 : 0 ≤ r.case) : zs7 h r = some (if (h.runs.length : Int) ≤ r.case then (h, 2) else setRun h r.case (turnB h r)) := by
  unfold zs7
  by_cases hc : (h.runs.length : Int) ≤ r.case
  · rw [if_pos (zT hc), if_pos hc]
  have hg := z0i h.runs h0 (show r.case < h.runs.length by omega)
  obtain ⟨sn, sc, hgn⟩ := wv5 H h0 (show r.case < h.runs.length by omega)
  have hp := H.small.2.1
  rw [if_neg (by simpa using hc), if_neg hc, hg, zB, hgn, zB]
  unfold setRun turnB
  by_cases k2 : r.kind = 2
  · rw [if_pos (zT k2), if_pos k2, yp3 _ _ _ _ _ sn hp sc, zB, zB]
    split <;> rfl
  rw [if_neg (by simpa using k2), if_neg k2]
  by_cases k3 : r.kind = 3
  · rw [if_pos (zT k3), if_pos k3, yy5 _ _ _ _ _ sn sc, zB, zB]
    split <;> rfl
  rw [if_neg (by simpa using k3), if_neg k3, wu6 _ _ sn sc, zB, zB]
  split <;> rfl
theorem vd4 {h : GHouse} (H : HInv h) (r : GReq) (h0 : 0 ≤ r.case) (hd : r.data.length ≤ SMALL) : y3s h r = some (doB h r) := by
  have S := H.small
  unfold y3s doB
  by_cases k1 : r.kind = 1
  · rw [if_pos (zT k1), if_pos k1]
    by_cases hf : (h.runs.length : Int) = 5
    · rw [if_pos (zT hf), if_pos hf]
    rw [if_neg (by simpa using hf), if_neg hf, v0h _ _ S.2.2.1 hd, zB]
    have hn := we0 H r.data
    have hg := z0i h.nets hn.1 hn.2
    have sn := S.1.2 _ (z2k h.nets hn.1 hn.2)
    have hl : ∀ y : GRun, h.runs.length + [y].length ≤ SMALL := fun y => by have := H.many; rw [zJ]; unfold SMALL; omega
    unfold netOf at hg sn ⊢
    by_cases hk : (h.nets.length : Int) ≤ askB h.tree r.data
    · rw [if_pos hk] at hg sn
      rw [if_pos (zT hk), if_pos hk, hg, zB, yi0 _ _ sn hd, zB, z00 (hl _)]
    · rw [if_neg hk] at hg sn
      rw [if_neg (by simpa using hk), if_neg hk, hg, zB, yi0 _ _ sn hd, zB, z00 (hl _)]
  rw [if_neg (by simpa using k1), if_neg k1]
  by_cases k5 : r.kind = 5
  · rw [if_pos (zT k5), if_pos k5, w4x _ _ _ _ S.2.2.1 hd, zB]
    split <;> rfl
  · rw [if_neg (by simpa using k5), if_neg k5, v64 H r h0, zB]
theorem va7 {h : GHouse} (H : HInv h) (r : GReq) (h0 : 0 ≤ r.case) (hd : r.data.length ≤ SMALL) : z7u h r = some ((doB h r).2, (doB h r).1) := by
  have S := H.small
  unfold z7u doB
  by_cases k1 : r.kind = 1
  · rw [if_pos (zT k1), if_pos k1]
    by_cases hf : (h.runs.length : Int) = 5
    · rw [if_pos (zT hf), if_pos hf]
    rw [if_neg (by simpa using hf), if_neg hf, wy9 _ _ S.2.2.1 hd, zB]
    have hn := we0 H r.data
    have hg := z0i h.nets hn.1 hn.2
    have sn := S.1.2 _ (z2k h.nets hn.1 hn.2)
    have hl : ∀ y : GRun, h.runs.length + [y].length ≤ SMALL := fun y => by have := H.many; rw [zJ]; unfold SMALL; omega
    unfold netOf at hg sn ⊢
    by_cases hk : (h.nets.length : Int) ≤ askB h.tree r.data
    · rw [if_pos hk] at hg sn
      rw [if_pos (zT hk), if_pos hk, hg, zB, w3f _ _ sn hd, zB, z00 (hl _)]
    · rw [if_neg hk] at hg sn
      rw [if_neg (by simpa using hk), if_neg hk, hg, zB, w3f _ _ sn hd, zB, z00 (hl _)]
  rw [if_neg (by simpa using k1), if_neg k1]
  by_cases k5 : r.kind = 5
  · rw [if_pos (zT k5), if_pos k5, wy8 _ _ _ _ S.2.2.1 hd, zB]
    split <;> rfl
  rw [if_neg (by simpa using k5), if_neg k5]
  by_cases hc : (h.runs.length : Int) ≤ r.case
  · rw [if_pos (zT hc), if_pos hc]
  have hg := z0i h.runs h0 (show r.case < h.runs.length by omega)
  obtain ⟨sn, sc, hgn⟩ := wv5 H h0 (show r.case < h.runs.length by omega)
  have hp := H.small.2.1
  rw [if_neg (by simpa using hc), if_neg hc, hg, zB, hgn, zB]
  unfold setRun turnB
  by_cases k2 : r.kind = 2
  · rw [if_pos (zT k2), if_pos k2, wd0 _ _ _ _ _ sn hp sc, zB]
    split <;> rfl
  rw [if_neg (by simpa using k2), if_neg k2]
  by_cases k3 : r.kind = 3
  · rw [if_pos (zT k3), if_pos k3, wp7 _ _ _ _ _ sn sc, zB]
    split <;> rfl
  rw [if_neg (by simpa using k3), if_neg k3, wp6 _ _ sn sc, zB]
  split <;> rfl
theorem v69 (n : GNet) (c : GCase) : Bnd c (stopB n c).1 := by
  unfold stopB
  cases casB n c && decide (c.state = 1)
  · exact Bnd.refl c
  · exact ⟨Nat.le_refl _, .inl (Nat.zero_le _), Nat.le_refl _, .inl (Nat.le_refl _)⟩
theorem v6e (h : GHouse) (r : GReq) : Bnd (atI h.runs r.case).case (turnB h r).1 := by
  unfold turnB
  split
  · exact w8q _ _ _ _ _
  · split
    · exact wv7 _ _ _ _ _
    · exact v69 _ _
theorem v54 (n : GNet) (data : List Int) : GCase.lens (· ≤ 1048576) (newC n data) := by
  unfold newC
  cases e : netB n && datOk data
  · exact ⟨Nat.zero_le _, Nat.zero_le _, Nat.zero_le _, Nat.zero_le _⟩
  · rw [zA] at e
    have h1 := z5e e.1
    have h2 := y11 e.2
    exact ⟨by show ((List.replicate n.places.toNat (0 : Int)).set 0 1).length ≤ 1048576; simp; omega, Nat.zero_le _, by show data.length ≤ 1048576; omega, Nat.zero_le _⟩
theorem wj2 {tree : List GNode} {data : List Int} {e : GAsk} {ans : Int} (hl : tree.length ≤ 1048576) (hs : ∀ x ∈ tree, GNode.lens (· ≤ 1048576) x) : (addB tree data e ans).1.length ≤ 1048576 ∧ ∀ x ∈ (addB tree data e ans).1, GNode.lens (· ≤ 1048576) x := by
  unfold addB
  cases h : addOk tree data e ans && !takenB tree data e
  · exact ⟨hl, hs⟩
  · rw [zA] at h
    have h1 := h.1
    unfold addOk at h1
    rw [zA, zA] at h1
    have F := zb1 h1.1
    have hd := y11 h1.2.1
    have hlen := F.len
    refine ⟨?_, fun x hx => ?_⟩
    · show (putN tree data ++ [newN e ans data]).length ≤ _
      rw [zL, v8g, zJ]; omega
    · have hx : x ∈ putN tree data ++ [newN e ans data] := hx
      rw [zP, List.mem_singleton] at hx
      rcases hx with hx | rfl
      · unfold putN at hx
        split at hx
        · exact hs x hx
        · rename_i h0
          have hv := y9c F data (by omega)
          have hst := hs _ (z2k tree hv.1 hv.2)
          split at hx <;> rcases List.mem_or_eq_of_mem_set hx with hx | rfl
          · exact hs x hx
          · exact hst
          · exact hs x hx
          · exact hst
      · show data.length ≤ 1048576; omega
theorem wx3 {h : GHouse} (H : HInv h) (r : GReq) (h0 : 0 ≤ r.case) : HInv (doB h r).1 ∧ (doB h r).1.nets = h.nets ∧ (doB h r).1.people = h.people := by
  obtain ⟨⟨⟨a, b⟩, c, ⟨d, e⟩, f, g⟩, one, net, many⟩ := H
  unfold doB
  split
  · split
    · exact ⟨⟨⟨⟨a, b⟩, c, ⟨d, e⟩, f, g⟩, one, net, many⟩, rfl, rfl⟩
    · refine ⟨⟨⟨⟨a, b⟩, c, ⟨d, e⟩, ?_, ?_⟩, one, ?_, ?_⟩, rfl, rfl⟩
      · show (h.runs ++ [_]).length ≤ 1048576; rw [zL, zJ]; omega
      · intro y hy
        have hy : y ∈ h.runs ++ [_] := hy
        rw [zP, List.mem_singleton] at hy
        rcases hy with hy | rfl
        · exact g y hy
        · exact v54 _ _
      · intro y hy
        have hy : y ∈ h.runs ++ [_] := hy
        rw [zP, List.mem_singleton] at hy
        rcases hy with hy | rfl
        · exact net y hy
        · exact we0 ⟨⟨⟨a, b⟩, c, ⟨d, e⟩, f, g⟩, one, net, many⟩ _
      · show (h.runs ++ [_]).length ≤ 5; rw [zL, zJ]; omega
  · split
    · split
      · exact ⟨⟨⟨⟨a, b⟩, c, wj2 d e, f, g⟩, one, net, many⟩, rfl, rfl⟩
      · exact ⟨⟨⟨⟨a, b⟩, c, ⟨d, e⟩, f, g⟩, one, net, many⟩, rfl, rfl⟩
    · split
      · exact ⟨⟨⟨⟨a, b⟩, c, ⟨d, e⟩, f, g⟩, one, net, many⟩, rfl, rfl⟩
      · rename_i hc
        unfold setRun
        split
        · have hm := z2k h.runs h0 (show r.case < h.runs.length by omega)
          refine ⟨⟨⟨⟨a, b⟩, c, ⟨d, e⟩, ?_, ?_⟩, one, ?_, ?_⟩, rfl, rfl⟩
          · show (h.runs.set _ _).length ≤ 1048576; rw [zS]; exact f
          · intro y hy
            rcases List.mem_or_eq_of_mem_set hy with hy | rfl
            · exact g y hy
            · exact (v6e h r).lens (g _ hm)
          · intro y hy
            rcases List.mem_or_eq_of_mem_set hy with hy | rfl
            · exact net y hy
            · have := net _ hm; exact this
          · show (h.runs.set _ _).length ≤ 5; rw [zS]; exact many
        · exact ⟨⟨⟨⟨a, b⟩, c, ⟨d, e⟩, f, g⟩, one, net, many⟩, rfl, rfl⟩
theorem zv6 {r : GReq} (h : reqB r = true) : 0 ≤ r.case := by
  simp only [reqB, zA, z0c] at h
  exact h.2.2.2.1.1
noncomputable def engB (h : GHouse) (r : GReq) : GHouse × Int := bif houseB h && reqB r then doB h r else (noHouse, 0)
theorem v2h (h : GHouse) (r : GReq) (hl : GHouse.lens (· ≤ 1048576) h) (hd : r.data.length ≤ SMALL) : zy2 h r = some (engB h r) := by
  have hs := zv7 hl
  unfold zy2 engB
  rw [v2i h hs, zB]
  by_cases h1 : houseB h = true
  case neg => rw [if_neg h1, zF.2 h1]; rfl
  rw [if_pos h1, h1, wd2 r hd, zB]
  by_cases h2 : reqB r = true
  case neg => rw [if_neg h2, zF.2 h2]; rfl
  have H := ys7 h1 hl
  have H2 := (wx3 H r (zv6 h2)).1
  rw [if_pos h2, h2, y71 h hs, zB, va7 H r (zv6 h2) hd, zB]
  show (z2m (doB h r).1).bind _ = _
  rw [y71 _ H2.small, zB]; rfl
end Go.Am.Pl
end
section
namespace Go.Am.Pl
open Go
theorem wx4 {h : GHouse} {r : GReq} (hd : (doB h r).2 ≠ 1) : (doB h r).1 = h := by
  unfold doB setRun at *
  revert hd
  split
  · split
    · intro _; rfl
    · intro hd; exact absurd rfl hd
  · split
    · split
      · intro hd; exact absurd rfl hd
      · intro _; rfl
    · split
      · intro _; rfl
      · split
        · intro hd; exact absurd rfl hd
        · intro _; rfl
structure LogOk' (log : List GReq) : Prop where
  len : log.length ≤ 150
  case : ∀ r ∈ log, 0 ≤ r.case
end Go.Am.Pl
end
section
namespace Go.Am.Pl
open Go
theorem v3k {α : Type} [Inhabited α] (l : List α) {v j : Int} (w : α) (hv : 0 ≤ v) (hj : 0 ≤ j) (hl : j < l.length) : atI (l.set v.toNat w) j = if v = j then w else atI l j := by
  unfold atI; rw [yl5 l w hv hj hl]; split <;> rfl
theorem w84 {α : Type} [Inhabited α] (l : List α) {v j : Int} (w : α) (hv : 0 ≤ v) (h : v ≠ j) : atI (l.set v.toNat w) j = atI l j := by
  unfold atI getI
  split
  · rw [List.getElem?_set_ne (by omega)]
  · rfl
theorem v12 {α : Type} [Inhabited α] (a b : List α) {j : Int} (h1 : j < a.length) : atI (a ++ b) j = atI a j := by
  unfold atI getI
  split
  · rw [List.getElem?_append_left (by omega)]
  · rfl
theorem v3j {α : Type} [Inhabited α] (a : List α) (x : α) : atI (a ++ [x]) (a.length : Int) = x := by
  unfold atI; rw [z2q]; simp
theorem v9n {α : Type} [Inhabited α] (N : Nat) (x : α) {j : Int} (h0 : 0 ≤ j) (h1 : j < N) : atI (List.replicate N x) j = x := by
  unfold atI getI
  rw [if_pos h0, List.getElem?_replicate, if_pos (by omega)]; rfl
theorem zq3 {n : GNet} {c : GCase} : casB n c = true ↔ mrkB n c.marks = true ∧ busyB n c.busy = true ∧ datOk c.data = true ∧ (c.did.length : Int) ≤ 60 ∧ (1 ≤ c.state ∧ c.state ≤ 3) ∧ c.did.all (didB n) = true ∧ stateB c = true := by
  simp only [casB, zA, z0c, Bool.not_eq_true', decide_eq_false_iff_not, Int.not_lt]
theorem wz6 {n : GNet} {m : List Int} (h1 : netB n = true) (h2 : (m.length : Int) = n.places) (h3 : okM m = true) : mrkB n m = true := by
  unfold mrkB marksB
  rw [h1, zT h2]; exact h3
theorem yr4 (join : Int) : ∀ (ps l : List Int), (∀ p ∈ ps, 0 ≤ p ∧ p < l.length) → capM 4 l → capM 4 (takeL join ps l)
  | [], l, _, h => h
  | p :: ps, l, hp, h => by
    have h0 := hp p (by simp)
    unfold takeL
    split
    · split
      · exact w8y h (by assumption) h0.1 h0.2
      · exact yr4 join ps _ (fun q hq => by rw [w90]; exact hp q (by simp [hq])) (w8y h (by assumption) h0.1 h0.2)
    · exact yr4 join ps l (fun q hq => hp q (by simp [hq])) h
theorem wi8 (join : Int) {q : Int} : ∀ (ps l : List Int), (∀ p ∈ ps, 0 ≤ p ∧ p ≠ q) → atI (takeL join ps l) q = atI l q
  | [], l, _ => rfl
  | p :: ps, l, hp => by
    have h0 := hp p (by simp)
    have hd : atI (dec l p) q = atI l q := w84 _ _ h0.1 h0.2
    unfold takeL
    split
    · split
      · exact hd
      · rw [wi8 join ps _ (fun q hq => hp q (by simp [hq])), hd]
    · exact wi8 join ps l (fun q hq => hp q (by simp [hq]))
theorem v80 {n : GNet} (h : netB n = true) {t : GTask} (ht : t ∈ n.tasks) : ∀ p ∈ t.in_, p ≠ 1 := by
  simp only [netB, zA, zV] at h
  have := h.2.2 t ht
  simp only [taskB, zA, Bool.not_eq_true', List.any_eq_false, zE] at this
  exact this.2.2.2.1
structure StartF (n : GNet) (people : List Int) (c : GCase) (t who : Int) : Prop where
  cas : casB n c = true
  run : c.state = 1
  ena : enaB n c.marks c.busy t = true
  may : who ∈ mayB n people c.did c.busy t
  room : c.busy.length ≠ 6
theorem w4z {n : GNet} {people : List Int} {c : GCase} {t who : Int} : startOk n people c t who = true ↔ StartF n people c t who := by
  unfold startOk
  simp only [zA, zE, List.any_eq_true, exists_eq_right, Bool.not_eq_true', decide_eq_false_iff_not]
  constructor
  · rintro ⟨a, b, d, e, f⟩; exact ⟨a, b, d, e, by omega⟩
  · rintro ⟨a, b, d, e, f⟩; exact ⟨a, b, d, e, by omega⟩
theorem v7y {n : GNet} {people : List Int} {did : List GDid} {busy : List GItem} {t who : Int} : who ∈ mayB n people did busy t ↔ netB n = true ∧ pplB people = true ∧ (0 ≤ t ∧ t < n.tasks.length) ∧ (1 ≤ who ∧ who ≤ people.length) ∧ mayW n people did busy t who = true := by
  unfold mayB
  cases e : netB n && (pplB people && inB t 0 ((n.tasks.length : Int) - 1))
  · constructor
    · intro h; simp at h
    · rintro ⟨a, b, d, _⟩
      rw [a, b, z0c.2 ⟨d.1, by omega⟩] at e; cases e
  · simp only [zA, z0c] at e
    show who ∈ (idxs people.length).filter _ ↔ _
    rw [List.mem_filter, v7p]
    constructor
    · rintro ⟨a, b⟩; exact ⟨e.1, e.2.1, by omega, a, b⟩
    · rintro ⟨_, _, _, a, b⟩; exact ⟨a, b⟩
theorem v7c {n : GNet} {people : List Int} {c : GCase} {t who : Int} (S : StartF n people c t who) : casB n (begun n c t who) = true := by
  obtain ⟨a1, a2, a3, a4, a5, a6, a7⟩ := zq3.1 S.cas
  obtain ⟨g1, g2, g3⟩ := w2h S.ena
  obtain ⟨f1, f2, f3⟩ := z7p a1
  have hm := z2k n.tasks g3.1 g3.2
  have T := z65 f1 hm
  obtain ⟨_, hp, _, hw, _⟩ := v7y.1 S.may
  have hp4 := (yv0 hp).1
  have hin : ∀ p ∈ (atI n.tasks t).in_, 0 ≤ p ∧ p < c.marks.length := fun p hp => by have := T.ins p hp; omega
  have F := zj1 S.cas
  refine zq3.2 ⟨wz6 f1 (by show ((takeL _ _ c.marks).length : Int) = _; rw [yp7]; exact f2) (zj7.2 (yr4 _ _ _ hin (zj7.1 f3))), ?_, a3, a4, a5, a6, ?_⟩
  · have hb := F.busyl
    have hr := S.room
    show busyB n (c.busy ++ [GItem.mk t who 0]) = true
    simp only [busyB, zA, zE] at a2 ⊢
    refine ⟨by rw [zL, zJ]; omega, ?_⟩
    rw [List.all_append, a2.2, Bool.true_and]
    simp only [List.all_cons, List.all_nil, Bool.and_true, itemB, zA, z0c]
    have := T.need
    exact ⟨by omega, by omega, by omega⟩
  · unfold stateB at a7 ⊢
    have e : (begun n c t who).state = 1 := S.run
    rw [S.run] at a7
    rw [e]
    simp only [decide_true, cond_true, zE] at a7 ⊢
    show atI (takeL _ _ c.marks) 1 = 0
    rw [wi8 _ _ _ (fun p hp => ⟨(hin p hp).1, v80 f1 hm p hp⟩)]; exact a7
theorem v67 {n : GNet} {people : List Int} {c : GCase} {t who : Int} (h : casB n c = true) : casB n (startB n people c t who).1 = true := by
  unfold startB
  cases e : startOk n people c t who
  · exact h
  · exact v7c (w4z.1 e)
structure WorkF (n : GNet) (c : GCase) (k v num : Int) : Prop where
  cas : casB n c = true
  run : c.state = 1
  k0 : 0 ≤ k
  k1 : k < c.busy.length
  v : -1 ≤ v ∧ v ≤ 2
  num : -99 ≤ num ∧ num ≤ 99
  room : c.did.length ≠ 60
theorem wv8 {n : GNet} {c : GCase} {k v num : Int} : (casB n c && (decide (c.state = 1) && (inB k 0 ((c.busy.length : Int) - 1) && (inB v (-1) 2 && (inB num (-99) 99 && !decide ((c.did.length : Int) = 60)))))) = true ↔ WorkF n c k v num := by
  simp only [zA, zE, z0c, Bool.not_eq_true', decide_eq_false_iff_not]
  constructor
  · rintro ⟨a, b, c, d, e, f⟩; exact ⟨a, b, c.1, by omega, d, e, by omega⟩
  · rintro ⟨a, b, c, d, e, f, g⟩; exact ⟨a, b, by omega, e, f, by omega⟩
theorem wv9 {n : GNet} {c : GCase} {k v num : Int} (W : WorkF n c k v num) : workB n c k v num = doneB n c k (datB c.data v num) := by
  unfold workB; rw [wv8.2 W]; rfl
theorem v24 {n : GNet} {c : GCase} {k v num : Int} (W : ¬ WorkF n c k v num) : workB n c k v num = (c, false) := by
  unfold workB; rw [zF.2 (fun h => W (wv8.1 h))]; rfl
theorem v9v {data : List Int} {v num : Int} (h : datOk data = true) (hn : -99 ≤ num ∧ num ≤ 99) : datOk (datB data v num) = true := by
  unfold datB
  split
  · simp only [datOk, zA, zE, zV, z0c] at h ⊢
    refine ⟨by rw [zS]; exact h.1, fun x hx => ?_⟩
    rcases List.mem_or_eq_of_mem_set hx with hx | rfl
    · exact h.2 x hx
    · exact hn
  · exact h
structure GiveF (n : GNet) (m : List Int) (t : Int) (data : List Int) : Prop where
  mrk : mrkB n m = true
  t0 : 0 ≤ t
  t1 : t < n.tasks.length
  dat : datOk data = true
  ok : okM (giveL n m (atI n.tasks t) data) = true
theorem wo7 {n : GNet} {m : List Int} {t : Int} {data : List Int} : (giveB n m t data).2 = true ↔ GiveF n m t data := by
  unfold giveB
  cases e : mrkB n m && (inB t 0 ((n.tasks.length : Int) - 1) && (datOk data && okM (giveL n m (atI n.tasks t) data)))
  · constructor
    · intro h; cases h
    · rintro ⟨a, b, c, d, f⟩
      rw [a, z0c.2 ⟨b, by omega⟩, d, f] at e; cases e
  · simp only [zA, z0c] at e
    exact ⟨fun _ => ⟨e.1, e.2.1.1, by omega, e.2.2.1, e.2.2.2⟩, fun _ => rfl⟩
theorem wp0 {n : GNet} {m : List Int} {t : Int} {data : List Int} (G : GiveF n m t data) : giveB n m t data = (giveL n m (atI n.tasks t) data, true) := by
  unfold giveB; rw [G.mrk, z0c.2 (show 0 ≤ t ∧ t ≤ (n.tasks.length : Int) - 1 from ⟨G.t0, by have := G.t1; omega⟩), G.dat, G.ok]; rfl
theorem wp1 (n : GNet) (m : List Int) (t : GTask) (data : List Int) : (giveL n m t data).length = m.length := by unfold giveL; rw [w1m, y94]
theorem v4p {n : GNet} {m : List Int} {t : Int} {data : List Int} (G : GiveF n m t data) : mrkB n (giveL n m (atI n.tasks t) data) = true := by
  obtain ⟨f1, f2, f3⟩ := z7p G.mrk
  exact wz6 f1 (by rw [wp1]; exact f2) G.ok
theorem v4x {n : GNet} {busy : List GItem} (h : busyB n busy = true) {k : Int} (h0 : 0 ≤ k) (h1 : k < busy.length) : itemB n (atI busy k) = true := by
  simp only [busyB, zA, zV] at h
  exact h.2 _ (z2k busy h0 h1)
theorem yj1 {n : GNet} {busy busy' : List GItem} (h : busyB n busy = true) (hl : busy'.length ≤ busy.length) (hm : ∀ b ∈ busy', itemB n b = true) : busyB n busy' = true := by
  simp only [busyB, zA, zE, zV] at h ⊢
  exact ⟨by omega, hm⟩
theorem v8x {n : GNet} {c : GCase} {k v num : Int} (h : casB n c = true) : casB n (workB n c k v num).1 = true := by
  by_cases W : WorkF n c k v num
  case neg => rw [v24 W]; exact h
  rw [wv9 W]
  obtain ⟨a1, a2, a3, a4, a5, a6, a7⟩ := zq3.1 h
  have hd := v9v (v := v) a3 W.num
  have hit := v4x a2 W.k0 W.k1
  have hit2 := hit
  simp only [itemB, zA, z0c] at hit2
  have hst : atI c.marks 1 = 0 := by
    unfold stateB at a7; rw [W.run] at a7; simpa using a7
  have hb : ∀ b ∈ c.busy, itemB n b = true := by
    simp only [busyB, zA, zV] at a2; exact a2.2
  unfold doneB
  split
  · rename_i hlt
    refine zq3.2 ⟨a1, ?_, hd, a4, a5, a6, ?_⟩
    · refine yj1 a2 (by show (c.busy.set _ _).length ≤ _; simp) fun b hb' => ?_
      rcases List.mem_or_eq_of_mem_set hb' with hb' | rfl
      · exact hb b hb'
      · simp only [itD, itemB, zA, z0c]; omega
    · unfold stateB
      show (bif decide (c.state = 1) then decide (atI c.marks 1 = 0) else _) = true
      rw [W.run, hst]; rfl
  · split
    · rename_i hg
      have G := wo7.1 hg
      rw [wp0 G]
      have hdl : ((c.did ++ [GDid.mk (atI c.busy k).task (atI c.busy k).who]).length : Int) ≤ 60 := by
        have := W.room; rw [zL, zJ]; omega
      have hda : (c.did ++ [GDid.mk (atI c.busy k).task (atI c.busy k).who]).all (didB n) = true := by
        rw [List.all_append, a6, Bool.true_and]
        simp only [List.all_cons, List.all_nil, Bool.and_true, didB, zA, z0c]; omega
      have hm := v4p G
      split
      · rename_i hpos
        refine zq3.2 ⟨hm, ?_, hd, hdl, by show (1 : Int) ≤ 2 ∧ (2 : Int) ≤ 3; omega, hda, ?_⟩
        · exact yj1 a2 (Nat.zero_le _) fun b hb' => by simp at hb'
        · unfold stateB
          show (bif decide ((2 : Int) = 1) then _ else decide ((([] : List GItem).length : Int) = 0) && (decide ((2 : Int) = 2) == decide (0 < atI _ 1))) = true
          rw [zT hpos]; rfl
      · rename_i hpos
        have h1 := zj7.1 G.ok
        have hml := (z7p a1).2.1
        have hsz := z5e (z7p a1).1
        have hat := yr3 h1 (p := 1) (by omega) (by rw [wp1]; omega)
        refine zq3.2 ⟨hm, ?_, hd, hdl, a5, hda, ?_⟩
        · refine yj1 a2 (by show (c.busy.take _ ++ c.busy.drop _).length ≤ _; rw [zL, List.length_take, List.length_drop]; have := W.k1; have := W.k0; omega) fun b hb' => ?_
          rcases zP.1 hb' with h | h
          · exact hb b (List.mem_of_mem_take h)
          · exact hb b (List.mem_of_mem_drop h)
        · unfold stateB
          show (bif decide (c.state = 1) then decide (atI (giveL n c.marks (atI n.tasks (atI c.busy k).task) (datB c.data v num)) 1 = 0) else _) = true
          rw [W.run, zT (show atI (giveL n c.marks (atI n.tasks (atI c.busy k).task) (datB c.data v num)) 1 = 0 by have hp : ¬ 0 < atI (giveL n c.marks (atI n.tasks (atI c.busy k).task) (datB c.data v num)) 1 := hpos; omega)]; rfl
    · exact h
theorem v8t {n : GNet} {c : GCase} (h : casB n c = true) : casB n (stopB n c).1 = true := by
  unfold stopB
  cases e : casB n c && decide (c.state = 1)
  · exact h
  · rw [zA, zE] at e
    obtain ⟨a1, a2, a3, a4, a5, a6, a7⟩ := zq3.1 h
    refine zq3.2 ⟨a1, yj1 a2 (Nat.zero_le _) (fun b hb => by simp at hb), a3, a4, by show (1 : Int) ≤ 3 ∧ (3 : Int) ≤ 3; omega, a6, ?_⟩
    unfold stateB at a7 ⊢
    rw [e.2] at a7
    have a7 : atI c.marks 1 = 0 := by simpa using a7
    show (bif decide ((3 : Int) = 1) then _ else decide ((([] : List GItem).length : Int) = 0) && (decide ((3 : Int) = 2) == decide (0 < atI c.marks 1))) = true
    rw [a7]; rfl
theorem vb5 {n : GNet} {data : List Int} (hn : netB n = true) (hd : datOk data = true) : casB n (newC n data) = true := by
  have hsz := z5e hn
  unfold newC
  rw [hn, hd]
  have hl : (List.replicate n.places.toNat (0 : Int)).length = n.places.toNat := by simp
  refine zq3.2 ⟨wz6 hn (by show (((List.replicate n.places.toNat (0 : Int)).set 0 1).length : Int) = _; rw [zS, hl]; omega) (zj7.2 fun x hx => ?_), ?_, hd, by show ((0 : Nat) : Int) ≤ 60; omega, by show (1 : Int) ≤ 1 ∧ (1 : Int) ≤ 3; omega, rfl, ?_⟩
  · rcases List.mem_or_eq_of_mem_set hx with hx | rfl
    · have := (List.mem_replicate.1 hx).2; omega
    · omega
  · rfl
  · show decide (atI ((List.replicate n.places.toNat (0 : Int)).set (0 : Int).toNat 1) 1 = 0) = true
    rw [v3k _ _ (by omega) (by omega) (by rw [hl]; omega), if_neg (by omega), v9n _ _ (by omega) (by omega)]; rfl
theorem wr3 (len : Int) : ∀ (l : List GNode) (i : Int), (∀ j : Nat, j < l.length → nodeB len (i + j) (atI l j) = true) → nodesI len i l = true
  | [], _, _ => rfl
  | x :: l, i, h => by
    simp only [nodesI, zA]
    have h0 := h 0 (by simp)
    have e0 : atI (x :: l) ((0 : Nat) : Int) = x := rfl
    rw [e0] at h0
    refine ⟨by simpa using h0, wr3 len l (i + 1) fun j hj => ?_⟩
    have := h (j + 1) (by simpa using hj)
    have e : atI (x :: l) ((j + 1 : Nat) : Int) = atI l (j : Int) := by unfold atI; rw [z2q, z2q]; rfl
    rw [e] at this
    rw [show i + 1 + (j : Int) = i + ((j + 1 : Nat) : Int) by omega]; exact this
theorem vc5 {tree : List GNode} (F : RdrFacts tree) : rdrB tree = true := by
  have h2 := w1s (fun j => cntL j tree) tree.length 0
  rw [← List.range_eq_range'] at h2
  simp only [rdrB, zA, zE]
  refine ⟨wr3 _ _ _ fun j hj => ?_, ?_, by have := F.len; omega⟩
  · rw [Int.zero_add]; exact F.node j (by omega) (by omega)
  · exact h2.2 fun j h0 h1 h3 => F.ones j (by omega) (by omega)
theorem v1c {tree : List GNode} (F : RdrFacts tree) (data : List Int) : ∀ (k : Nat) (a b : Int), (0 ≤ a ∧ a < tree.length) → (tree.length : Int) - a ≤ k → nxt tree data (lastF (wayL tree data k a) b) = -1
  | 0, a, b, ha, hk => by omega
  | k + 1, a, b, ha, hk => by
    unfold wayL
    rw [if_neg (by omega)]
    show nxt tree data (lastF (wayL tree data k (nxt tree data a)) a) = -1
    have := wr4 F data ha.1 ha.2
    by_cases e : nxt tree data a = -1
    · have : wayL tree data k (nxt tree data a) = [] := by rw [e]; cases k <;> simp [wayL]
      rw [this]; exact e
    · exact v1c F data k _ a (by omega) (by omega)
theorem v14 (i : Int) (x : GNode) : ∀ (l : List GNode) (k : Nat), k < l.length → cntL i (l.set k x) = cntL i l - cnt1 (atI l (k : Int)) i + cnt1 x i
  | [], k, h => by simp at h
  | y :: l, 0, h => by
    have e0 : atI (y :: l) ((0 : Nat) : Int) = y := rfl
    rw [e0]; simp only [List.set_cons_zero, cntL]; omega
  | y :: l, k + 1, h => by
    have e : atI (y :: l) ((k + 1 : Nat) : Int) = atI l (k : Int) := by unfold atI; rw [z2q, z2q]; rfl
    have := v14 i x l k (by simpa using h)
    rw [e]; simp only [List.set_cons_succ, cntL]; omega
theorem wk5 (i : Int) : ∀ (l : List GNode), (∀ x ∈ l, x.yes ≠ i ∧ x.no ≠ i) → cntL i l = 0
  | [], _ => rfl
  | x :: l, h => by
    have h0 := h x (by simp)
    simp only [cntL, cnt1, wk5 i l (fun y hy => h y (by simp [hy])), if_neg h0.1, if_neg h0.2]; omega
theorem v83 {tree : List GNode} (F : RdrFacts tree) {x : GNode} (hx : x ∈ tree) : ∃ a : Int, 0 ≤ a ∧ a < tree.length ∧ nodeB tree.length a x = true := by
  obtain ⟨j, hj⟩ := List.mem_iff_getElem?.1 hx
  have hl : j < tree.length := by
    rcases Nat.lt_or_ge j tree.length with h | h
    · exact h
    · rw [List.getElem?_eq_none h] at hj; cases hj
  have := F.node j (by omega) (by omega)
  have e : atI tree (j : Int) = x := by unfold atI; rw [z2q, hj]; rfl
  rw [e] at this
  exact ⟨j, by omega, by omega, this⟩
theorem v1k {len i v : Int} (h : okN len i v = true) : okN (len + 1) i v = true := by
  simp only [okN, Bool.or_eq_true, zE, z0c] at h ⊢; omega
theorem w8g {len i : Int} {x : GNode} (h : nodeB len i x = true) : nodeB (len + 1) i x = true := by
  simp only [nodeB, zA] at h ⊢
  exact ⟨h.1, h.2.1, v1k h.2.2.1, v1k h.2.2.2⟩
theorem v5a {len i : Int} (h : i < len) : okN (len + 1) i len = true := by
  simp only [okN, Bool.or_eq_true, zE, z0c]; omega
theorem v55 {len : Int} {data : List Int} {e : GAsk} {ans : Int} (he : expHolds e data = true) (ha : inB ans 0 2 = true) : nodeB (len + 1) len (newN e ans data) = true := by
  simp only [nodeB, newN, zA]
  exact ⟨he, ha, rfl, rfl⟩
theorem v81 {e : GAsk} {ans : Int} {data : List Int} {i : Int} (h : 0 ≤ i) : cnt1 (newN e ans data) i = 0 := by
  have h1 : ¬ (-1 : Int) = i := by omega
  simp [cnt1, newN, h1]
theorem v9a {tree : List GNode} (F : RdrFacts tree) (h12 : tree.length ≠ 12) {L : Int} (hL : 0 ≤ L ∧ L < tree.length) {x : GNode} (hx : nodeB (tree.length + 1) L x = true) (hc0 : ∀ i : Int, 0 ≤ i → i < tree.length → cnt1 x i = cnt1 (atI tree L) i) (hc1 : cnt1 x tree.length = 1)
    {e : GAsk} {ans : Int} {data : List Int} (he : expHolds e data = true) (ha : inB ans 0 2 = true) : RdrFacts (tree.set L.toNat x ++ [newN e ans data]) := by
  have hl := F.len
  have hlen : (tree.set L.toNat x ++ [newN e ans data]).length = tree.length + 1 := by simp
  have hcast : (((tree.length + 1 : Nat)) : Int) = (tree.length : Int) + 1 := by omega
  have hsl : (tree.set L.toNat x).length = tree.length := by simp
  refine ⟨by omega, fun a h0 h1 => ?_, fun j h0 h1 => ?_⟩
  · rw [hlen, hcast] at *
    by_cases e1 : a = tree.length
    · subst e1
      have : atI (tree.set L.toNat x ++ [newN e ans data]) (tree.length : Int) = newN e ans data := by
        have := v3j (tree.set L.toNat x) (newN e ans data); rw [hsl] at this; exact this
      rw [this]; exact v55 he ha
    · rw [v12 _ _ (by rw [hsl]; omega), v3k _ _ hL.1 h0 (by omega)]
      split
      · rename_i e2; subst e2; exact hx
      · exact w8g (F.node a h0 (by omega))
  · rw [hlen] at h1
    rw [w2f, v81 (by omega), v14 _ _ _ _ (by omega), show ((L.toNat : Nat) : Int) = L by omega]
    by_cases e1 : j = tree.length
    · subst e1
      have hz : cntL (tree.length : Int) tree = 0 := wk5 _ _ fun y hy => by
        obtain ⟨a, g0, g1, g2⟩ := v83 F hy
        have := y9e g2; omega
      have hz1 : cnt1 (atI tree L) (tree.length : Int) = 0 := by
        have := y9e (F.node L hL.1 hL.2)
        have h1 : ¬ (atI tree L).yes = tree.length := by omega
        have h2 : ¬ (atI tree L).no = tree.length := by omega
        simp only [cnt1, if_neg h1, if_neg h2]; rfl
      omega
    · have := F.ones j h0 (by omega)
      have := hc0 j (by omega) (by omega)
      omega
theorem v75 {tree : List GNode} {data : List Int} {e : GAsk} {ans : Int} (h : (addB tree data e ans).2 = true) : rdrB tree = true ∧ datOk data = true ∧ expHolds e data = true ∧ inB ans 0 2 = true ∧ tree.length ≠ 12 ∧ (addB tree data e ans).1 = putN tree data ++ [newN e ans data] := by
  unfold addB at h ⊢
  cases hh : addOk tree data e ans && !takenB tree data e
  · rw [hh] at h; cases h
  · rw [zA] at hh
    have h1 := hh.1
    simp only [addOk, zA, Bool.not_eq_true', decide_eq_false_iff_not] at h1
    exact ⟨h1.1, h1.2.1, h1.2.2.1, h1.2.2.2.1, by omega, rfl⟩
theorem v9i {tree : List GNode} {data : List Int} {e : GAsk} {ans : Int} (h : ¬ (addB tree data e ans).2 = true) : (addB tree data e ans).1 = tree := by
  unfold addB at h ⊢
  cases hh : addOk tree data e ans && !takenB tree data e
  · rfl
  · rw [hh] at h; exact absurd rfl h
theorem v9j {tree : List GNode} {data : List Int} {e : GAsk} {ans : Int} (ht : rdrB tree = true) : rdrB (addB tree data e ans).1 = true := by
  by_cases h : (addB tree data e ans).2 = true
  case neg => rw [v9i h]; exact ht
  obtain ⟨h1, h2, h3, h4, h5, h6⟩ := v75 h
  rw [h6]
  have F := zb1 h1
  have hl := F.len
  refine vc5 ?_
  unfold putN
  split
  · rename_i h0
    have hn : tree = [] := List.length_eq_zero_iff.1 h0
    subst hn
    refine ⟨by simp, fun a g0 g1 => ?_, fun j g0 g1 => ?_⟩
    · have : a = 0 := by simp at g1; omega
      subst this
      have := v55 (len := 0) h3 h4
      exact this
    · simp at g1; omega
  · rename_i h0
    have hv := y9c F data (by omega)
    have hn : nxt tree data (lastB tree data) = -1 := by
      unfold lastB wayB; rw [if_neg h0]; exact v1c F data 12 0 (-1) (by omega) (by omega)
    have hN := F.node _ hv.1 hv.2
    have hNx := y9e hN
    have hM := w8g hN
    simp only [nodeB, zA] at hM
    unfold nxt at hn
    have hho : holdI tree data (lastB tree data) = expHolds (atI tree (lastB tree data)).if_ data := rfl
    rw [hho]
    split
    · rename_i hh
      rw [if_pos hh] at hn
      refine v9a F h5 hv ?_ (fun i g0 g1 => ?_) ?_ h3 h4
      · simp only [nodeB, zA]; exact ⟨hM.1, hM.2.1, v5a hv.2, hM.2.2.2⟩
      · have k1 : ¬ (tree.length : Int) = i := by omega
        have k2 : ¬ (-1 : Int) = i := by omega
        simp only [cnt1, hn, if_neg k1, if_neg k2]
      · have k2 : ¬ (atI tree (lastB tree data)).no = tree.length := by omega
        simp only [cnt1, if_true, if_neg k2]; rfl
    · rename_i hh
      rw [if_neg hh] at hn
      refine v9a F h5 hv ?_ (fun i g0 g1 => ?_) ?_ h3 h4
      · simp only [nodeB, zA]; exact ⟨hM.1, hM.2.1, hM.2.2.1, v5a hv.2⟩
      · have k1 : ¬ (tree.length : Int) = i := by omega
        have k2 : ¬ (-1 : Int) = i := by omega
        simp only [cnt1, hn, if_neg k1, if_neg k2]
      · have k2 : ¬ (atI tree (lastB tree data)).yes = tree.length := by omega
        simp only [cnt1, if_true, if_neg k2]; rfl
structure HouseF (h : GHouse) : Prop where
  nets : netsB h.nets = true
  ppl : pplB h.people = true
  tree : rdrB h.tree = true
  many : h.runs.length ≤ 5
  runs : ∀ r ∈ h.runs, runB h.nets r = true
theorem zt5 {h : GHouse} : houseB h = true ↔ HouseF h := by
  simp only [houseB, zA, zV, Bool.not_eq_true', decide_eq_false_iff_not]
  constructor
  · rintro ⟨a, b, c, d, e⟩; exact ⟨a, b, c, by omega, e⟩
  · rintro ⟨a, b, c, d, e⟩; exact ⟨a, b, c, by omega, e⟩
theorem v53 {nets : List GNet} (h : netsB nets = true) {k : Int} (h0 : 0 ≤ k) (h1 : k < nets.length) : netB (atI nets k) = true := by
  simp only [netsB, zA, zV] at h
  exact h.2 _ (z2k nets h0 h1)
theorem wi0 {nets : List GNet} {r : GRun} : runB nets r = true ↔ (0 ≤ r.net ∧ r.net < nets.length) ∧ casB (atI nets r.net) r.case = true := by
  simp only [runB, zA, z0c]
  constructor
  · rintro ⟨a, b⟩; exact ⟨by omega, b⟩
  · rintro ⟨a, b⟩; exact ⟨by omega, b⟩
theorem v8w {h : GHouse} {r : GReq} (hc : casB (atI h.nets (atI h.runs r.case).net) (atI h.runs r.case).case = true) : casB (atI h.nets (atI h.runs r.case).net) (turnB h r).1 = true := by
  unfold turnB
  split
  · exact v67 hc
  · split
    · exact v8x hc
    · exact v8t hc
theorem v5r {r : GReq} (h : reqB r = true) (hk : r.kind = 1) : datOk r.data = true := by
  simp only [reqB, zA] at h
  have := h.2.2.2.2.2.2.2.2.2
  rw [hk] at this; simpa using this
theorem v3v {h : GHouse} {r : GReq} (hb : houseB h = true) (hr : reqB r = true) : houseB (doB h r).1 = true := by
  have H := zt5.1 hb
  obtain ⟨a, b, c, d, e⟩ := H
  have c0 := zv6 hr
  unfold doB
  split
  · rename_i k1
    split
    · exact hb
    · have hone : 1 ≤ h.nets.length := by simp only [netsB, zA, z0c] at a; omega
      have hn : 0 ≤ netOf h r.data ∧ netOf h r.data < h.nets.length := by
        have := w83 h.tree r.data
        unfold netOf; split <;> omega
      refine zt5.2 ⟨a, b, c, ?_, fun y hy => ?_⟩
      · show (h.runs ++ [_]).length ≤ 5; rw [zL, zJ]; omega
      · have hy : y ∈ h.runs ++ [_] := hy
        rw [zP, List.mem_singleton] at hy
        rcases hy with hy | rfl
        · exact e y hy
        · exact wi0.2 ⟨hn, vb5 (v53 a hn.1 hn.2) (v5r hr k1)⟩
  · split
    · split
      · exact zt5.2 ⟨a, b, v9j c, d, e⟩
      · exact hb
    · split
      · exact hb
      · rename_i hc
        unfold setRun
        split
        · have hm := z2k h.runs c0 (show r.case < h.runs.length by omega)
          have hr2 := wi0.1 (e _ hm)
          refine zt5.2 ⟨a, b, c, by show (h.runs.set _ _).length ≤ 5; rw [zS]; exact d, fun y hy => ?_⟩
          rcases List.mem_or_eq_of_mem_set hy with hy | rfl
          · exact e y hy
          · exact wi0.2 ⟨hr2.1, v8w hr2.2⟩
        · exact hb
end Go.Am.Pl
end
section
namespace Go.Am.Pl
open Go
theorem v2f {data : List Int} (hd : data.length ≤ 4) (k n : Int) : Tot (z77 data k n) (fun v => v.length ≤ 4) := by
  unfold z77
  have hs : ([] : List Int).length + data.length ≤ SMALL := by simp only [zN, SMALL]; omega
  have fin : Tot (gd (([] : List Int).length + data.length ≤ SMALL) (some (([] : List Int) ++ data))) (fun v => v.length ≤ 4) := Tot.gd hs (Tot.pure (by simpa using hd))
  refine Tot.bindE (z7q data (by unfold SMALL; omega)) (Tot.ite (fun c => ?_) (fun _ => fin))
  refine Tot.bindE (z2r _ _ _) (Tot.ite (fun c1 => ?_) (fun _ => fin))
  refine Tot.bindE (z2r _ _ _) (Tot.ite (fun c2 => ?_) (fun _ => fin))
  have hl : data.length = 3 := y11 c
  rw [z0c] at c1
  exact Tot.gd hs (Tot.getI (by omega) (by rw [List.nil_append]; omega) (fun x _ _ => Tot.pure (by rw [zS, List.nil_append]; omega)))
theorem v1f {data : List Int} {e : GAsk} (hd : data.length ≤ 4) : Tot (z9b data e) (fun v => v.length ≤ 4) := by
  unfold z9b
  refine Tot.bindE (y1z e) (Tot.ite (fun c => Tot.iteD (fun _ => Tot.pure hd) (fun c1 => ?_)) (fun _ => Tot.pure hd))
  have hb : (1 ≤ e.op ∧ e.op ≤ 3) ∧ (-99 ≤ e.k ∧ e.k ≤ 99) := by
    unfold expOk at c; rw [decide_eq_false c1] at c; simp only [cond_false, zA, z0c] at c; exact ⟨c.1.1, c.2⟩
  refine Tot.getI (by omega) (by simp only [zC, zN]; omega) (fun x hx _ => ?_)
  have hx : -1 ≤ x ∧ x ≤ 1 := by simp only [zM, List.not_mem_nil, or_false] at hx; omega
  exact Tot.gd (by constructor <;> omega) (Tot.bind (v2f hd _ _) (fun v hv => Tot.pure hv))
def TreeL (t : List GNode) : Prop := t.length ≤ 1048576 ∧ ∀ x ∈ t, GNode.lens (· ≤ 1048576) x
theorem TreeL.small {t : List GNode} (h : TreeL t) : treeSmall t := ⟨by have := h.1; unfold SMALL; omega, fun x hx => by have : x.stone.length ≤ 1048576 := h.2 x hx; unfold SMALL; omega⟩
theorem TreeL.nil : TreeL [] := ⟨Nat.zero_le _, fun x hx => by simp at hx⟩
theorem TreeL.set {t : List GNode} (h : TreeL t) {k : Nat} {x : GNode} (hx : x.stone.length ≤ 1048576) : TreeL (t.set k x) :=
  ⟨by rw [zS]; exact h.1, fun y hy => by
    rcases List.mem_or_eq_of_mem_set hy with hy | rfl
    · exact h.2 y hy
    · exact hx⟩
theorem v6d {K : Int} {b : List Int} {p n : Int} {t : List GNode} (h : Rd K (GRd.mk b p)) (hK : K ≤ 850000000) (ht : TreeL t) : Tot (z3n n b p t) (fun v => TreeL v.1 ∧ Rd (K + 30) v.2) := by
  unfold z3n
  have hend : ∀ {r : GRd}, Rd (K + 30) r → Tot (some (t, r)) (fun v => TreeL v.1 ∧ Rd (K + 30) v.2) := fun hr => Tot.pure ⟨ht, hr⟩
  refine Tot.bind2 (z0h h (by omega)) ?_
  intro a b h; dsimp only at h; obtain ⟨⟨_, _⟩, _⟩ := h; try dsimp only
  refine Tot.iteD (fun _ => hend (Rd.mono (by assumption) (by omega))) (fun _ => Tot.iteD (fun _ => hend (Rd.mono (by assumption) (by omega))) (fun hz => ?_))
  refine Tot.bind2 (z0h (by assumption) (by omega)) ?_
  intro i b2 h; dsimp only at h; obtain ⟨⟨hi0, hi1⟩, _⟩ := h; try dsimp only
  refine Tot.bind2 (z0h (by assumption) (by omega)) ?_
  intro a b3 h; dsimp only at h; obtain ⟨⟨_, _⟩, _⟩ := h; try dsimp only
  repeat' first
    | exact Tot.pure ⟨TreeL.set ht (by dsimp only; first | assumption | omega), Rd.mono (by assumption) (by omega)⟩
    | (refine Tot.bind2 (y2x (by assumption) (by omega)) ?_; intro a b h; dsimp only at h; obtain ⟨_, _⟩ := h; try dsimp only)
    | (refine Tot.bind2 (w8u (by assumption) (by omega)) ?_; intro a b h; dsimp only at h; try dsimp only)
    | (refine Tot.bind2 (z0h (by assumption) (by omega)) ?_; intro a b h; dsimp only at h; obtain ⟨⟨_, _⟩, _⟩ := h; try dsimp only)
    | (refine Tot.getI (l := t) (by omega) (by omega) ?_; intro x hx hg; have hst : x.stone.length ≤ 1048576 := ht.2 x hx)
    | (refine Tot.getI (by omega) (by simp only [zC, zN]; omega) ?_; intro x hx hg)
    | (refine Tot.iteD (fun _ => ?_) (fun _ => ?_))
theorem v8v {K : Int} {r : GRd} {n : Int} (h : Rd K r) (hK : K ≤ 800000000) : Tot (zl0 r n) (fun v => TreeL v.1 ∧ Rd (K + 400) v.2) := by
  unfold zl0
  refine Tot.bind2 (z0h h (by omega)) ?_
  intro k0 r0 h1
  dsimp only at h1
  obtain ⟨⟨a0, a1⟩, hb⟩ := h1
  dsimp only
  have key := Tot.loopF (Q := fun v : List GNode × GRd => TreeL v.1 ∧ Rd (K + 400) v.2) (fun s : List Int × Int × Int × List GNode => Rd (K + 1 + 50 * (7 - s.2.2.1)) (GRd.mk s.1 s.2.1) ∧ 0 ≤ s.2.2.1 ∧ s.2.2.1 ≤ 7 ∧ TreeL s.2.2.2) (fun s => s.2.2.1.toNat)
    (fun f s => z13 (z3n n) f s.1 s.2.1 s.2.2.1 s.2.2.2) (fun f s hi ih => ?_) (r0.b, r0.p, k0, []) (by dsimp only; omega) ⟨by dsimp only; exact hb.eta.mono (by omega), by dsimp only; omega, by dsimp only; omega, TreeL.nil⟩
  · exact key
  obtain ⟨b0, p0, i, l⟩ := s
  obtain ⟨h1, h2, h3, h4⟩ := hi
  dsimp only at h1 h2 h3 h4 ⊢
  have ih' : ∀ b q l', Rd (K + 1 + 50 * (7 - (i - 1))) (GRd.mk b q) → 1 ≤ i → TreeL l' → Tot (z13 (z3n n) f b q (i - 1) l') (fun v => TreeL v.1 ∧ Rd (K + 400) v.2) :=
    fun b q l' g1 g2 g3 => ih (b, q, i - 1, l') ⟨g1, by dsimp only; omega, by dsimp only; omega, g3⟩ (by dsimp only; omega)
  rw [z13]
  refine Tot.iteD (fun c => ?_) (fun c => (v6d h1 (by omega) h4).mono fun v hv => ⟨hv.1, hv.2.mono (by omega)⟩)
  have add : ∀ (d : List Int) (e : GAsk) (a : Int) (b : List Int) (q : Int), d.length ≤ 4 → Rd (K + 1 + 50 * (7 - (i - 1))) (GRd.mk b q) →
      Tot ((z78 l d e a).bind fun x => if x.2 = true then gd (ok64 (i - 1)) (z13 (z3n n) f b q (i - 1) x.1) else gd (ok64 (i - 1)) (z13 (z3n n) f b q (i - 1) l)) (fun v => TreeL v.1 ∧ Rd (K + 400) v.2) := fun d e a b q hd hr => by
    refine Tot.bindE (w4x l d e a h4.small (by unfold SMALL; omega)) ?_
    exact Tot.ite (fun _ => Tot.gd (by constructor <;> omega) (ih' _ _ _ hr (by omega) (wj2 h4.1 h4.2))) (fun _ => Tot.gd (by constructor <;> omega) (ih' _ _ _ hr (by omega) h4))
  refine Tot.bind2 (y2x h1 (by omega)) ?_
  intro d r1 hh; dsimp only at hh; obtain ⟨hd, hr1⟩ := hh; dsimp only
  refine Tot.bind2 (w8u hr1 (by omega)) ?_
  intro e r2 hr2; dsimp only at hr2; dsimp only
  refine Tot.bindE (z51 e d (by unfold SMALL; omega)) (Tot.ite (fun _ => ?_) (fun _ => ?_))
  · refine Tot.bind2 (z0h hr2 (by omega)) ?_
    intro a r3 hh; dsimp only at hh; obtain ⟨⟨_, _⟩, hr3⟩ := hh; dsimp only
    exact add _ _ _ _ _ hd (Rd.eta (hr3.mono (by omega)))
  · refine Tot.bind (v1f hd) (fun d2 hd2 => ?_)
    refine Tot.bind2 (z0h hr2 (by omega)) ?_
    intro a r3 hh; dsimp only at hh; obtain ⟨⟨_, _⟩, hr3⟩ := hh; dsimp only
    exact add _ _ _ _ _ hd2 (Rd.eta (hr3.mono (by omega)))
def HG (h : GHouse) : Prop := (HInv h ∧ houseB h = true) ∨ h = noHouse
theorem v5s {K : Int} {r : GRd} {h : GHouse} (hr : Rd K r) (hK : K ≤ 800000000) (H : HG h) : Tot (zf7 r h) (fun v => v.1.data.length ≤ 4 ∧ Rd (K + 60) v.2.1 ∧ v.2.2 = h) := by
  unfold zf7
  refine Tot.iteD (fun _ => ?_) (fun hz => ?_)
  · refine Tot.bind2 (y2x hr (by omega)) ?_
    intro d r1 hh; dsimp only at hh; obtain ⟨hd, hr1⟩ := hh; dsimp only
    exact Tot.pure ⟨hd, ⟨hr1.mono (by omega), rfl⟩⟩
  obtain ⟨Hi, Hb⟩ : HInv h ∧ houseB h = true := H.resolve_right (fun e => hz (by rw [e]; rfl))
  have hsm := Hi.small
  repeat' first
    | (refine Tot.bind2 (z0h (by assumption) (by omega)) ?_; intro a b h; dsimp only at h; obtain ⟨⟨_, _⟩, _⟩ := h; try dsimp only)
    | (refine Tot.bind2 (y2x (by assumption) (by omega)) ?_; intro a b h; dsimp only at h; obtain ⟨_, _⟩ := h; try dsimp only)
    | (refine Tot.bind2 (w8u (by assumption) (by omega)) ?_; intro a b h; dsimp only at h; try dsimp only)
    | (refine Tot.bind (v1f (by assumption)) (fun d hd => ?_))
    | (refine Tot.gd (by constructor <;> omega) ?_)
    | (refine Tot.getI (l := h.runs) (by omega) (by omega) ?_; intro x hx hg; have hnet := Hi.net x hx; have hcs := hsm.2.2.2.2 x hx; have hcm := hcs.1; have hcb := hcs.2.1)
    | (refine Tot.getI (l := h.nets) (by omega) (by omega) ?_; intro x hx hg; have hns := hsm.1.2 x hx)
    | (refine Tot.bindE (yp5 _ _ _ (by assumption) (by assumption) (by assumption)) ?_; generalize tasksB _ _ _ = ts)
    | (refine Tot.getI (by omega) (by omega) ?_; intro x hx hg)
    | (refine Tot.iteD (fun _ => ?_) (fun _ => ?_))
    | exact Tot.pure ⟨by first | assumption | (dsimp only; assumption) | exact Nat.zero_le _, ⟨Rd.mono (by assumption) (by omega), rfl⟩⟩
theorem v9k {K : Int} {r : GRd} {h : GHouse} {n : Int} (hr : Rd K r) (hK : K ≤ 700000000) (H : HG h) : Tot (z9p r h n) (fun v => v.1.data.length ≤ 4 ∧ Rd (K + 100) v.2.1 ∧ v.2.2 = h) := by
  unfold z9p
  refine Tot.bind (v5s hr (by omega) H) ?_
  rintro ⟨q, r1, h1⟩ ⟨hq, hr1, e⟩
  dsimp only at hq hr1 e ⊢
  subst e
  repeat' first
    | (refine Tot.bind2 (z0h (by assumption) (by omega)) ?_; intro a b h; dsimp only at h; obtain ⟨⟨_, _⟩, _⟩ := h; try dsimp only)
    | (refine Tot.bind2 (y2x (by assumption) (by omega)) ?_; intro a b h; dsimp only at h; obtain ⟨_, _⟩ := h; try dsimp only)
    | (refine Tot.getI (by omega) (by simp only [zC, zN]; omega) ?_; intro x hx hg)
    | (refine Tot.iteD (fun _ => ?_) (fun _ => ?_))
    | exact Tot.pure ⟨by first | assumption | (dsimp only; assumption), ⟨Rd.mono (by assumption) (by omega), rfl⟩⟩
theorem v52 {n : GNet} (h : netB n = true) : GNet.lens (· ≤ 1048576) n := by
  have T := v1h h
  refine ⟨by have := T.six; show n.tasks.length ≤ 1048576; omega, fun t ht => ?_⟩
  have U := T.task t ht
  exact ⟨by have := U.in_; show t.in_.length ≤ 1048576; omega, by have := U.out; show t.out.length ≤ 1048576; omega, by have := U.clear; show t.clear.length ≤ 1048576; omega⟩
theorem NetT.lens {n : GNet} (T : NetT n) : GNet.lens (· ≤ 1048576) n := by
  refine ⟨by have := T.six; show n.tasks.length ≤ 1048576; omega, fun t ht => ?_⟩
  have U := T.task t ht
  exact ⟨by have := U.in_; show t.in_.length ≤ 1048576; omega, by have := U.out; show t.out.length ≤ 1048576; omega, by have := U.clear; show t.clear.length ≤ 1048576; omega⟩
theorem CaseT.lens {c : GCase} (T : CaseT 62 c) : GCase.lens (· ≤ 1048576) c := by
  obtain ⟨a, b, d, e⟩ := T
  exact ⟨by show c.marks.length ≤ 1048576; omega, by show c.busy.length ≤ 1048576; omega, by show c.data.length ≤ 1048576; omega, by show c.did.length ≤ 1048576; omega⟩
theorem new_G {nets : List GNet} {p : List Int} (hn : ∀ n ∈ nets, netB n = true) (hl : nets.length ≤ 3) (hp : p.length ≤ 5) : HG (newB nets p) ∧ (newB nets p).runs = [] := by
  unfold newB
  cases e : netsB nets && pplB p
  · exact ⟨.inr rfl, rfl⟩
  · rw [zA] at e
    have hb : houseB (GHouse.mk nets p [] []) = true := zt5.2 ⟨e.1, e.2, v8h, Nat.zero_le _, fun r hr => by simp at hr⟩
    refine ⟨.inl ⟨ys7 hb ⟨⟨by show nets.length ≤ 1048576; omega, fun n h => v52 (hn n h)⟩, by show p.length ≤ 1048576; omega, ⟨Nat.zero_le _, fun x hx => by simp at hx⟩, ⟨Nat.zero_le _, fun x hx => by simp at hx⟩⟩, hb⟩, rfl⟩
theorem v3l {K : Int} {r : GRd} (h : Rd K r) (hK : K ≤ 500000000) : Tot (zf4 r) (fun v => (HG v.1 ∧ v.1.runs = []) ∧ Rd (K + 900) v.2) := by
  unfold zf4
  refine Tot.bind2 (we1 h (by omega)) ?_
  intro n0 r0 hh; dsimp only at hh; obtain ⟨hn0, hr0⟩ := hh; dsimp only
  refine Tot.bind2 (z0h hr0 (by omega)) ?_
  intro k0 r1 hh; dsimp only at hh; obtain ⟨⟨a0, a1⟩, hr1⟩ := hh; dsimp only
  have key := Tot.loopF (Q := fun v : GHouse × GRd => (HG v.1 ∧ v.1.runs = []) ∧ Rd (K + 900) v.2) (fun s : List Int × Int × Int × List GNet => Rd (K + 211 + 210 * (2 - s.2.2.1)) (GRd.mk s.1 s.2.1) ∧ 0 ≤ s.2.2.1 ∧ (s.2.2.2.length : Int) + s.2.2.1 ≤ 3 ∧ s.2.2.1 ≤ 2 ∧ ∀ n ∈ s.2.2.2, netB n = true) (fun s => s.2.2.1.toNat)
    (fun f s => z63 zf5 f s.1 s.2.1 s.2.2.1 s.2.2.2) (fun f s hi ih => ?_) (r1.b, r1.p, k0, [n0]) (by dsimp only; omega) ⟨by dsimp only; exact (Rd.eta hr1).mono (by omega), by dsimp only; omega, by dsimp only [zC, zN]; omega, by dsimp only; omega, fun n hn => by rw [List.mem_singleton.1 hn]; exact hn0⟩
  · exact key
  obtain ⟨b0, p0, i, l⟩ := s
  obtain ⟨h1, h2, h3, h4, h5⟩ := hi
  dsimp only at h1 h2 h3 h4 h5 ⊢
  rw [z63]
  refine Tot.iteD (fun c => ?_) (fun c => ?_)
  · refine Tot.bind2 (we1 h1 (by omega)) ?_
    intro n2 r2 hh; dsimp only at hh; obtain ⟨hn2, hr2⟩ := hh; dsimp only
    refine Tot.gd (by simp only [zC, zN, SMALL]; omega) (Tot.gd (by constructor <;> omega) (ih (r2.b, r2.p, i - 1, l ++ [n2]) ⟨(Rd.eta hr2).mono (by dsimp only; omega), by dsimp only; omega, by dsimp only; rw [zL, zJ]; omega, by dsimp only; omega, fun n hn => ?_⟩ (by dsimp only; omega)))
    rcases zP.1 hn with hn | hn
    · exact h5 n hn
    · rw [List.mem_singleton.1 hn]; exact hn2
  · unfold zf5
    refine Tot.bind2 (y9g h1 (by omega)) ?_
    intro p r2 hh; dsimp only at hh; obtain ⟨hp, hr2⟩ := hh; dsimp only
    refine Tot.bindE (v0e l p ⟨by unfold SMALL; omega, fun n hn => (v1h (h5 n hn)).small⟩ (by unfold SMALL; omega)) (Tot.pure ⟨new_G h5 (by omega) hp, hr2.mono (by omega)⟩)
theorem do_G {h : GHouse} (Hi : HInv h) (Hb : houseB h = true) {q : GReq} (hq : reqB q = true) : HG (doB h q).1 := .inl ⟨(wx3 Hi q (zv6 hq)).1, v3v Hb hq⟩
theorem wp3 {K : Int} {r : GRd} (h : Rd K r) (hK : K ≤ 400000000) : Tot (z8c r) (fun v => HG v.1 ∧ Rd (K + 4000) v.2) := by
  unfold z8c
  refine Tot.bind2 (v3l h (by omega)) ?_
  intro h0 r0 hh; dsimp only at hh; obtain ⟨⟨H0, _⟩, hr0⟩ := hh; dsimp only
  refine Tot.bind2 (z0h hr0 (by omega)) ?_
  intro k0 r1 hh; dsimp only at hh; obtain ⟨⟨a0, a1⟩, hr1⟩ := hh; dsimp only
  refine Tot.bind2 (z0h hr1 (by omega)) ?_
  intro k1 r2 hh; dsimp only at hh; obtain ⟨⟨a2, a3⟩, hr2⟩ := hh; dsimp only
  refine Tot.getI (by omega) (by simp only [zC, zN]; omega) (fun k hk _ => ?_)
  have hk : 0 ≤ k ∧ k ≤ 40 := by simp only [zM, List.not_mem_nil, or_false] at hk; omega
  have key := Tot.loopF (Q := fun v : GHouse × GRd => HG v.1 ∧ Rd (K + 4000) v.2) (fun s : List Int × Int × Int × GHouse => Rd (K + 902 + 61 * (40 - s.2.2.1)) (GRd.mk s.1 s.2.1) ∧ 0 ≤ s.2.2.1 ∧ s.2.2.1 ≤ 40 ∧ HG s.2.2.2) (fun s => s.2.2.1.toNat)
    (fun f s => z22 zf6 f s.1 s.2.1 s.2.2.1 s.2.2.2.people s.2.2.2.tree s.2.2.2.runs s.2.2.2.nets) (fun f s hi ih => ?_) (r2.b, r2.p, k, h0) (by dsimp only; omega) ⟨by dsimp only; exact (Rd.eta hr2).mono (by omega), by dsimp only; omega, by dsimp only; omega, H0⟩
  · exact key
  obtain ⟨b0, p0, i, d⟩ := s
  obtain ⟨h1, h2, h3, h4⟩ := hi
  dsimp only at h1 h2 h3 h4 ⊢
  have ih' : ∀ b q (d : GHouse), Rd (K + 902 + 61 * (40 - (i - 1))) (GRd.mk b q) → 1 ≤ i → HG d → Tot (gd (ok64 (i - 1)) (z22 zf6 f b q (i - 1) d.people d.tree d.runs d.nets)) (fun v => HG v.1 ∧ Rd (K + 4000) v.2) :=
    fun b q d g1 g2 g3 => Tot.gd (by constructor <;> omega) (ih (b, q, i - 1, d) ⟨g1, by dsimp only; omega, by dsimp only; omega, g3⟩ (by dsimp only; omega))
  rw [z22]
  refine Tot.iteD (fun c => ?_) (fun c => Tot.pure ⟨h4, h1.mono (by omega)⟩)
  refine Tot.bind (v5s h1 (by omega) (h := d) h4) ?_
  rintro ⟨q, r3, h5⟩ ⟨hq, hr3, e⟩
  dsimp only at hq hr3 e ⊢
  subst e
  refine Tot.iteD (fun c2 => ?_) (fun c2 => ih' _ _ _ (Rd.eta (hr3.mono (by omega))) (by omega) h4)
  obtain ⟨Hi, Hb⟩ : HInv h5 ∧ houseB h5 = true := h4.resolve_right (fun e => by rw [e] at c2; exact absurd c2 (by show ¬ (0 : Int) < ((([] : List GNet).length : Nat) : Int); simp))
  refine Tot.bindE (wi1 q (by unfold SMALL; omega)) (Tot.ite (fun c3 => ?_) (fun c3 => ih' _ _ _ (Rd.eta (hr3.mono (by omega))) (by omega) h4))
  refine Tot.bindE (w7w h5 Hi.small) (Tot.bindE (vd4 Hi q (zv6 c3) (by unfold SMALL; omega)) ?_)
  exact ih' _ _ _ (Rd.eta (hr3.mono (by omega))) (by omega) (do_G Hi Hb c3)
theorem yx8 : GHouse.lens (· ≤ 1048576) noHouse := ⟨⟨by simp [noHouse], fun y h => by simp [noHouse] at h⟩, by simp [noHouse], ⟨by simp [noHouse], fun y h => by simp [noHouse] at h⟩, ⟨by simp [noHouse], fun y h => by simp [noHouse] at h⟩⟩
theorem HG.lens {h : GHouse} (H : HG h) : GHouse.lens (· ≤ 1048576) h ∧ h.nets.length ≤ 3 ∧ h.runs.length ≤ 5 := by
  rcases H with ⟨Hi, Hb⟩ | rfl
  · have F := zt5.1 Hb
    have a := F.nets
    simp only [netsB, zA, z0c] at a
    exact ⟨Hi.lens, by omega, F.many⟩
  · exact ⟨yx8, by simp [noHouse], by simp [noHouse]⟩
theorem v0y {K : Int} {r : GRd} {n : Int} (h : Rd K r) (hK : K ≤ 200000000) : Tot (zf3 r n) (fun v => (GHouse.lens (· ≤ 1048576) v.1 ∧ v.1.runs.length ≤ 6) ∧ Rd (K + 6000) v.2) := by
  unfold zf3
  refine Tot.bind2 (wp3 h (by omega)) ?_
  intro h0 r0 hh; dsimp only at hh; obtain ⟨H0, hr0⟩ := hh; dsimp only
  obtain ⟨⟨⟨l1, l2⟩, l3, ⟨l4, l5⟩, l6, l7⟩, l8, l9⟩ := H0.lens
  refine Tot.bind2 (z0h hr0 (by omega)) ?_
  intro k0 r1 hh; dsimp only at hh; obtain ⟨⟨a0, a1⟩, hr1⟩ := hh; dsimp only
  refine Tot.iteD (fun c => Tot.pure ⟨⟨⟨⟨l1, l2⟩, l3, ⟨l4, l5⟩, l6, l7⟩, by dsimp only; omega⟩, hr1.mono (by omega)⟩) (fun c => ?_)
  refine Tot.bind2 (z0h hr1 (by omega)) ?_
  intro k1 r2 hh; dsimp only at hh; obtain ⟨⟨a2, a3⟩, hr2⟩ := hh; dsimp only
  refine Tot.iteD (fun c => ?_) (fun c => Tot.iteD (fun c => ?_) (fun c => Tot.iteD (fun c => ?_) (fun c => ?_)))
  · refine Tot.bind2 (w81 hr2 (by omega)) ?_
    intro n1 r3 hh; dsimp only at hh; obtain ⟨hn, hr3⟩ := hh; dsimp only
    refine Tot.gd (by simp only [zC, zN, SMALL]; omega) (Tot.pure ⟨⟨⟨⟨by show (h0.nets ++ [n1]).length ≤ 1048576; rw [zL, zJ]; omega, fun y hy => ?_⟩, l3, ⟨l4, l5⟩, l6, l7⟩, by dsimp only; omega⟩, hr3.mono (by omega)⟩)
    have hy : y ∈ h0.nets ++ [n1] := hy
    rcases zP.1 hy with hy | hy
    · exact l2 y hy
    · rw [List.mem_singleton.1 hy]; exact hn.lens
  · refine Tot.bind2 (y9g hr2 (by omega)) ?_
    intro p r3 hh; dsimp only at hh; obtain ⟨hp, hr3⟩ := hh; dsimp only
    exact Tot.pure ⟨⟨⟨⟨l1, l2⟩, by show p.length ≤ 1048576; omega, ⟨l4, l5⟩, l6, l7⟩, by dsimp only; omega⟩, hr3.mono (by omega)⟩
  · refine Tot.bind2 (v8v hr2 (by omega)) ?_
    intro t r3 hh; dsimp only at hh; obtain ⟨ht, hr3⟩ := hh; dsimp only
    exact Tot.pure ⟨⟨⟨⟨l1, l2⟩, l3, ht, l6, l7⟩, by dsimp only; omega⟩, hr3.mono (by omega)⟩
  · refine Tot.bind (v7h hr2 (by omega)) ?_
    rintro ⟨x, p, c, r3⟩ ⟨hX, hp, hc, hr3⟩
    dsimp only at hX hp hc hr3 ⊢
    refine Tot.bind2 (z0h hr3 (by omega)) ?_
    intro k2 r4 hh; dsimp only at hh; obtain ⟨⟨a4, a5⟩, hr4⟩ := hh; dsimp only
    refine Tot.gd (by simp only [zC, zN, SMALL]; omega) (Tot.pure ⟨⟨⟨⟨l1, l2⟩, l3, ⟨l4, l5⟩, by show (h0.runs ++ [GRun.mk k2 c]).length ≤ 1048576; rw [zL, zJ]; omega, fun y hy => ?_⟩, by show (h0.runs ++ [GRun.mk k2 c]).length ≤ 6; rw [zL, zJ]; omega⟩, hr4.mono (by omega)⟩)
    have hy : y ∈ h0.runs ++ [GRun.mk k2 c] := hy
    rcases zP.1 hy with hy | hy
    · exact l7 y hy
    · rw [List.mem_singleton.1 hy]; exact hc.lens
def ReqsT (m : Int) (l : List GReq) : Prop := (l.length : Int) ≤ m ∧ ∀ q ∈ l, q.data.length ≤ 4
theorem ReqsT.small {m : Int} {l : List GReq} (h : ReqsT m l) (hm : m ≤ 1000) : l.length ≤ SMALL ∧ ∀ q ∈ l, q.data.length ≤ SMALL := ⟨by have := h.1; unfold SMALL; omega, fun q hq => by have := h.2 q hq; unfold SMALL; omega⟩
theorem drawEngStates (code : List Int) (hc : ∀ y ∈ code, 0 ≤ y ∧ y ≤ 255) : Tot (z6d code) (fun v => GHouse.lens (· ≤ 1048576) v) := by
  unfold z6d
  exact Tot.bind (v1o code hc) fun r h => Tot.bind (v0y h (by omega)) fun v hv => Tot.pure hv.1.1
theorem drawEngDo (code : List Int) (hc : ∀ y ∈ code, 0 ≤ y ∧ y ≤ 255) : Tot (z9m code) (fun v => GHouse.lens (· ≤ 1048576) v.1 ∧ v.2.data.length ≤ 4) := by
  unfold z9m
  refine Tot.bind (v1o code hc) fun r h => ?_
  refine Tot.bind2 (wp3 h (by omega)) ?_
  intro h0 r0 hh; dsimp only at hh; obtain ⟨H0, hr0⟩ := hh; dsimp only
  refine Tot.bind (v9k hr0 (by omega) H0) ?_
  rintro ⟨q, r1, h1⟩ ⟨hq, hr1, e⟩
  dsimp only at hq hr1 e ⊢
  subst e
  refine Tot.bind2 (z0h hr1 (by omega)) ?_
  intro k1 r3 hh; dsimp only at hh; obtain ⟨⟨a2, a3⟩, hr3⟩ := hh; dsimp only
  exact Tot.iteD (fun _ => Tot.bind (v0y hr3 (by omega)) fun v hv => Tot.pure ⟨hv.1.1, hq⟩) (fun _ => Tot.pure ⟨H0.lens.1, hq⟩)
end Go.Am.Pl
end
section
namespace Go.Am.Pl
open Go
theorem va6 {α : Type} [DecidableEq α] (a b : List α) (hs : a.length ≤ SMALL) (hl : a.length = b.length) (f : Nat → Int → Option Bool) (kx : Option Bool) (h0 : ∀ n, f (n + 1) (a.length : Int) = kx)
    (h1 : ∀ n i x y, x ∈ a → y ∈ b → getI a i = some x → getI b i = some y → i < (a.length : Int) → ok64 (i + 1) → f (n + 1) i = if x = y then f n (i + 1) else some false) : f FUEL 0 = if a = b then kx else some false := by
  have := scan0 a (by unfold SMALL at hs; omega) f (fun pre suf => if suf = b.drop pre.length then kx else some false) (fun n => by rw [h0, hl, List.drop_length]; simp)
    (fun n pre x suf e g c d ih => by
      have hlt : pre.length < b.length := by rw [← hl]; omega
      have hb : getI b (pre.length : Int) = some b[pre.length] := by rw [z2q, List.getElem?_eq_getElem hlt]
      rw [h1 n _ x b[pre.length] (by rw [e]; simp) (List.getElem_mem hlt) g hb c d, ih, List.drop_eq_getElem_cons hlt]
      have hl1 : (pre ++ [x]).length = pre.length + 1 := by simp
      rw [hl1]
      by_cases h : x = b[pre.length]
      · rw [if_pos h]
        by_cases h2 : suf = b.drop (pre.length + 1)
        · rw [if_pos h2, if_pos (by rw [h2, ← h])]
        · rw [if_neg h2, if_neg (fun h3 => h2 (List.cons.inj h3).2)]
      · rw [if_neg h, if_neg (fun h3 => h (List.cons.inj h3).1)])
  rw [this]; rfl
theorem ve5 {α : Type} [DecidableEq α] {a b : List α} {X : Option Bool} (h : a.length = b.length → X = some (decide (a = b))) : (if decide ((a.length : Int) = (b.length : Int)) = true then X else some false) = some (decide (a = b)) := by
  by_cases hl : a.length = b.length
  · rw [if_pos (zT (by omega)), h hl]
  · rw [if_neg (by rw [zE]; omega), decide_eq_false (fun e => hl (by rw [e]))]
theorem va9 {p : Prop} [Decidable p] : (if p then some true else some false) = some (decide p) := by by_cases h : p <;> simp [h]
theorem va5 (a b : List Int) (hs : a.length ≤ SMALL) : zr9 a b = some (decide (a = b)) := by
  unfold zr9
  refine ve5 fun hl => ?_
  rw [va6 a b hs hl (z5j a b y4r) (some true) (fun n => by rw [z5j, if_neg (by simp)]; rfl) (fun n i x y _ _ hx hy hi ho => by
    rw [z5j, if_pos (zT hi), hx, zB, hy, zB, z00 ho]; simp only [zE]), va9]
theorem gu_Ok : y3r = some true := by
  unfold y3r
  rw [z9z _ (by simp [SMALL])]; rfl
end Go.Am.Pl
end
section
namespace Go.Am.Pl
open Go
end Go.Am.Pl
end
section
namespace Go.Am.Pl
open Go
theorem v0m {n : GNet} {people : List Int} {c : GCase} {t who : Int} (h : (startB n people c t who).2 = true) : StartF n people c t who ∧ (startB n people c t who).1 = begun n c t who := by
  unfold startB at h ⊢
  cases e : startOk n people c t who
  · rw [e] at h; cases h
  · exact ⟨w4z.1 e, rfl⟩
theorem v37 {n : GNet} {c : GCase} (h : (stopB n c).2 = true) : casB n c = true ∧ c.state = 1 ∧ (stopB n c).1 = GCase.mk 3 c.marks [] c.data c.did := by
  unfold stopB at h ⊢
  cases e : casB n c && decide (c.state = 1)
  · rw [e] at h; cases h
  · rw [zA, zE] at e
    exact ⟨e.1, e.2, rfl⟩
inductive WorkR (n : GNet) (c : GCase) (k : Int) (data : List Int) : GCase → Prop where
  | more (h : (atI c.busy k).did + 1 < (atI n.tasks (atI c.busy k).task).need) : WorkR n c k data (GCase.mk c.state c.marks (c.busy.set k.toNat (itD (atI c.busy k))) data c.did)
  | ends (h : ¬ (atI c.busy k).did + 1 < (atI n.tasks (atI c.busy k).task).need) (G : GiveF n c.marks (atI c.busy k).task data) (hp : 0 < atI (giveL n c.marks (atI n.tasks (atI c.busy k).task) data) 1) :
      WorkR n c k data (GCase.mk 2 (giveL n c.marks (atI n.tasks (atI c.busy k).task) data) [] data (c.did ++ [GDid.mk (atI c.busy k).task (atI c.busy k).who]))
  | goes (h : ¬ (atI c.busy k).did + 1 < (atI n.tasks (atI c.busy k).task).need) (G : GiveF n c.marks (atI c.busy k).task data) (hp : ¬ 0 < atI (giveL n c.marks (atI n.tasks (atI c.busy k).task) data) 1) :
      WorkR n c k data (GCase.mk c.state (giveL n c.marks (atI n.tasks (atI c.busy k).task) data) (c.busy.take k.toNat ++ c.busy.drop (k + 1).toNat) data (c.did ++ [GDid.mk (atI c.busy k).task (atI c.busy k).who]))
theorem v38 {n : GNet} {c : GCase} {k v num : Int} (h : (workB n c k v num).2 = true) : WorkF n c k v num ∧ WorkR n c k (datB c.data v num) (workB n c k v num).1 := by
  by_cases W : WorkF n c k v num
  case neg => rw [v24 W] at h; cases h
  refine ⟨W, ?_⟩
  rw [wv9 W] at h ⊢
  unfold doneB at h ⊢
  split
  · exact .more (by assumption)
  · rename_i h1
    rw [if_neg h1] at h
    split
    · rename_i hg
      have G := wo7.1 hg
      rw [wp0 G] at h ⊢
      split
      · exact .ends h1 G (by assumption)
      · exact .goes h1 G (by assumption)
    · rename_i hg
      rw [if_neg hg] at h; cases h
theorem v6f {h : GHouse} {r : GReq} (ht : (turnB h r).2 = true) : (atI h.runs r.case).case.state = 1 := by
  unfold turnB at ht
  split at ht
  · exact (v0m ht).1.run
  · split at ht
    · exact (v38 ht).1.run
    · exact (v37 ht).2.1
inductive DoR (h : GHouse) (r : GReq) : GHouse → Prop where
  | begin (k : r.kind = 1) (hl : h.runs.length ≠ 5) : DoR h r (GHouse.mk h.nets h.people h.tree (h.runs ++ [GRun.mk (netOf h r.data) (newC (atI h.nets (netOf h r.data)) r.data)]))
  | rule (k : r.kind = 5) (ha : (addB h.tree r.data r.if_ r.ans).2 = true) : DoR h r (GHouse.mk h.nets h.people (addB h.tree r.data r.if_ r.ans).1 h.runs)
  | turn (k1 : r.kind ≠ 1) (k5 : r.kind ≠ 5) (hc : r.case < h.runs.length) (ht : (turnB h r).2 = true) : DoR h r (GHouse.mk h.nets h.people h.tree (h.runs.set r.case.toNat (GRun.mk (atI h.runs r.case).net (turnB h r).1)))
theorem w91 {h : GHouse} {r : GReq} (hd : (doB h r).2 = 1) : DoR h r (doB h r).1 := by
  unfold doB at hd ⊢
  split
  · rename_i k; rw [if_pos k] at hd
    split
    · rename_i k2; rw [if_pos k2] at hd; cases hd
    · rename_i k2; exact .begin k (by omega)
  · rename_i k; rw [if_neg k] at hd
    split
    · rename_i k5; rw [if_pos k5] at hd
      split
      · rename_i ha; exact .rule k5 ha
      · rename_i ha; rw [if_neg ha] at hd; cases hd
    · rename_i k5; rw [if_neg k5] at hd
      split
      · rename_i hc; rw [if_pos hc] at hd; cases hd
      · rename_i hc; rw [if_neg hc] at hd
        unfold setRun at hd ⊢
        split
        · rename_i ht; exact .turn k k5 (by omega) ht
        · rename_i ht; rw [if_neg ht] at hd; cases hd
theorem v9x (h : GHouse) (r : GReq) : 1 ≤ (doB h r).2 ∧ (doB h r).2 ≤ 4 := by
  unfold doB setRun
  repeat' split
  all_goals (dsimp only; omega)
theorem v9y {h : GHouse} {r : GReq} : (doB h r).1.runs.length = if r.kind = 1 ∧ (doB h r).2 = 1 then h.runs.length + 1 else h.runs.length := by
  by_cases hd : (doB h r).2 = 1
  case neg => rw [if_neg (fun e => hd e.2), wx4 hd]
  have R := w91 hd
  generalize (doB h r).1 = x at R
  cases R with
  | begin k hl => rw [if_pos ⟨k, hd⟩]; simp
  | rule k ha => rw [if_neg (fun e => by have := e.1; omega)]
  | turn k1 k5 hc ht => rw [if_neg (fun e => k1 e.1)]; simp
theorem ve1 {h : GHouse} {r : GReq} (h0 : 0 ≤ r.case) {i : Int} (i0 : 0 ≤ i) (i1 : i < h.runs.length) (hi : ¬ (r.kind ≠ 1 ∧ r.kind ≠ 5 ∧ i = r.case)) : atI (doB h r).1.runs i = atI h.runs i := by
  by_cases hd : (doB h r).2 = 1
  case neg => rw [wx4 hd]
  have R := w91 hd
  generalize (doB h r).1 = x at R
  cases R with
  | begin k hl => exact v12 _ _ i1
  | rule k ha => rfl
  | turn k1 k5 hc ht => exact w84 _ _ h0 (fun e => hi ⟨k1, k5, e.symm⟩)
theorem v3w {h : GHouse} {r : GReq} (h0 : 0 ≤ r.case) {i : Int} (i0 : 0 ≤ i) (i1 : i < h.runs.length) (hs : (atI (doB h r).1.runs i).case.state ≠ (atI h.runs i).case.state) : (atI h.runs i).case.state = 1 := by
  by_cases hi : r.kind ≠ 1 ∧ r.kind ≠ 5 ∧ i = r.case
  case neg => rw [ve1 h0 i0 i1 hi] at hs; exact absurd rfl hs
  obtain ⟨a, b, rfl⟩ := hi
  by_cases hd : (doB h r).2 = 1
  case neg => rw [wx4 hd] at hs; exact absurd rfl hs
  have R := w91 hd
  generalize (doB h r).1 = x at R hs
  cases R with
  | begin k hl => exact absurd k a
  | rule k ha => exact absurd k b
  | turn k1 k5 hc ht => exact v6f ht
end Go.Am.Pl
end
section
namespace Go.Am.Pl
open Go
theorem v3x {h : GHouse} {r : GReq} (hl : GHouse.lens (· ≤ 1048576) h) : GHouse.lens (· ≤ 1048576) (engB h r).1 := by
  unfold engB
  cases e : houseB h && reqB r
  · exact yx8
  · rw [zA] at e
    exact (wx3 (ys7 e.1 hl) r (zv6 e.2)).1.lens
theorem v3y {h : GHouse} {q : GReq} : (houseB h = true ∧ reqB q = true ∧ engB h q = doB h q) ∨ (engB h q = (noHouse, 0) ∧ ¬ (houseB h = true ∧ reqB q = true)) := by
  unfold engB
  cases e : houseB h && reqB q
  · refine .inr ⟨rfl, fun c => ?_⟩
    rw [c.1, c.2] at e; cases e
  · rw [zA] at e
    exact .inl ⟨e.1, e.2, rfl⟩
end Go.Am.Pl
end
section
namespace Go.Am.Pl
open Go
def stE (r : GRun) : List Int := [r.case.state]
theorem v5p {α γ : Type} {l pre suf : List α} {x : α} {s : List γ} {e : α → List γ} (hl : l.length ≤ SMALL) (a : l = pre ++ x :: suf) (he : ∀ x, (e x).length ≤ 1) (hs : s = pre.flatMap e) {y : γ} : s.length + [y].length ≤ SMALL := by
  have h1 := y99 he pre
  rw [a, zL, zC] at hl
  rw [hs, zJ]; omega
theorem w7x (h : GHouse) (hl : h.runs.length ≤ SMALL) : z9n h = some (h.runs.flatMap stE) := by
  unfold z9n
  refine y12 h.runs hl stE (z3l h z9w) z9w (fun n s => ?_) (fun n pre x suf s a b c d g i => ?_)
  · rw [z3l, if_neg (by simp)]
  · rw [z3l, if_pos (zT d), b, zB, z00 (v5p hl a (fun _ => Nat.le_refl _) i), z00 g]; rfl
theorem y0d (h : GHouse) (hl : h.runs.length ≤ SMALL) : z5i h = some (h.runs.flatMap stE) := by
  unfold z5i
  refine y12 h.runs hl stE (z3i h.runs (h.runs.length : Int) z9v) z9v (fun n s => ?_) (fun n pre x suf s a b c d g i => ?_)
  · rw [z3i, if_neg (by simp)]
  · rw [z3i, if_pos (zT d), b, zB, z00 (v5p hl a (fun _ => Nat.le_refl _) i), z00 g]; rfl
end Go.Am.Pl
end
