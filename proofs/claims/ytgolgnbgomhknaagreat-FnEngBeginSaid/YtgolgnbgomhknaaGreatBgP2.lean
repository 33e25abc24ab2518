/- Plain laws. Own work. -/
import Derived.Test.YtgolgnbgomhknaaGreatBgP1
set_option maxRecDepth 100000
set_option maxHeartbeats 2000000
set_option linter.unusedVariables false
set_option linter.unusedSimpArgs false
section
namespace Go.Am.Pl
open Go
structure CaseT (m : Nat) (c : GCase) : Prop where
  marks : c.marks.length ≤ 10
  busy : c.busy.length ≤ 7
  data : c.data.length ≤ 4
  did : c.did.length ≤ m
theorem CaseT.small {c : GCase} {m : Nat} (h : CaseT m c) (hm : m ≤ 62) : c.small := by
  obtain ⟨a, b, d, e⟩ := h
  exact ⟨by unfold SMALL; omega, by unfold SMALL; omega, by unfold SMALL; omega, by unfold SMALL; omega⟩
theorem CaseT.bnd {c d : GCase} {m : Nat} (h : CaseT m c) (hm : 61 ≤ m) (b : Bnd c d) : CaseT m d := by
  obtain ⟨p, q, r, s⟩ := b
  obtain ⟨t, u, v, w⟩ := h
  exact ⟨by omega, by omega, by omega, by omega⟩
theorem vl0 {n : GNet} {data : List Int} (hd : data.length ≤ 4) : CaseT 61 (newC n data) := by
  unfold newC
  cases e : netB n && datOk data
  · exact ⟨Nat.zero_le _, Nat.zero_le _, Nat.zero_le _, Nat.zero_le _⟩
  · rw [zA] at e
    have h1 := z5i e.1
    exact ⟨by show ((List.replicate n.places.toNat (0 : Int)).set 0 1).length ≤ 10; simp; omega, Nat.zero_le _, hd, Nat.zero_le _⟩
theorem vc1 {K : Int} {r : GRd} {n : GNet} {p : List Int} {c : GCase} (h : Rd K r) (hK : K ≤ 900000000) (hn : n.small) (hp : p.length ≤ SMALL) (hc : c.small) : Tot (zm4 r n p c) (fun v => Bnd c v.1 ∧ Rd (K + 6) v.2) := by
  unfold zm4
  repeat' first
    | (refine Tot.bind2 (z0i (by assumption) (by omega)) ?_; intro a b h; dsimp only at h; obtain ⟨⟨_, _⟩, _⟩ := h; try dsimp only)
    | (refine Tot.bind2 (z0i (by assumption) (by omega)) ?_; intro a b h; dsimp only at h; obtain ⟨⟨_, _⟩, _⟩ := h; try dsimp only)
    | (refine Tot.gd (by first | omega | (constructor <;> omega) | (simp only [zL, zC, zN, zS, List.length_drop, SMALL]; omega)) ?_)
    | (refine Tot.getI (by omega) (by first | omega | (simp only [zC, zN, zS, zL]; omega)) ?_; intro x hx hg)
    | (refine Tot.iteD (fun _ => ?_) (fun _ => ?_))
    | refine Tot.bindE (w0s n c _ _ _ hn hc) ?_
    | (refine Tot.bindE (yt3 n c.marks c.busy hn hc.1 hc.2.1) ?_; generalize tasksB n c.marks c.busy = ts)
    | (refine Tot.bindE (w6b n p c.did c.busy _ hn hp hc.2.2.2 hc.2.1) ?_; generalize mayB n p c.did c.busy _ = ms)
    | refine Tot.bindE (yt1 n p c _ _ hn hp hc) ?_
    | exact Tot.pure ⟨v0l n c _ _ _, Rd.mono (by assumption) (by omega)⟩
    | exact Tot.pure ⟨wa9 n p c _ _, Rd.mono (by assumption) (by omega)⟩
    | exact Tot.pure ⟨Bnd.refl c, Rd.mono (by assumption) (by omega)⟩
abbrev CaseQ (K : Int) (v : GNet × List Int × GCase × GRd) : Prop := NetT v.1 ∧ v.2.1.length ≤ 5 ∧ CaseT 62 v.2.2.1 ∧ Rd K v.2.2.2
theorem v5d {K : Int} {n : Int} {x : GNet} {p : List Int} (hK : K ≤ 400000000) (hX : NetT x) (hp : p.length ≤ 5) {b : List Int} {q : Int} {k : Int} {c : GCase} (h : Rd K (GRd.mk b q)) (hc : CaseT 61 c) (k0 : 0 ≤ k) (k1 : k ≤ 16) :
    Tot (z3p p x (z76 n p x) FUEL b q c.state k c.marks c.busy c.data c.did) (CaseQ (K + 500)) := by
  have hps : p.length ≤ SMALL := by unfold SMALL; omega
  have key := Tot.loopF (Q := CaseQ (K + 500)) (fun s : List Int × Int × Int × GCase => Rd (K + 6 * (16 - s.2.2.1)) (GRd.mk s.1 s.2.1) ∧ 0 ≤ s.2.2.1 ∧ s.2.2.1 ≤ 16 ∧ CaseT 61 s.2.2.2) (fun s => s.2.2.1.toNat)
    (fun f s => z3p p x (z76 n p x) f s.1 s.2.1 s.2.2.2.state s.2.2.1 s.2.2.2.marks s.2.2.2.busy s.2.2.2.data s.2.2.2.did) (fun f s hi ih => ?_) (b, q, k, c) (by dsimp only; omega) ⟨by dsimp only; exact h.mono (by omega), k0, k1, hc⟩
  · exact key
  obtain ⟨b0, q0, i, d⟩ := s
  obtain ⟨h1, h2, h3, h4⟩ := hi
  dsimp only at h1 h2 h3 h4 ⊢
  have ih' : ∀ b q (d : GCase), Rd (K + 6 * (16 - (i - 1))) (GRd.mk b q) → 1 ≤ i → CaseT 61 d → Tot (z3p p x (z76 n p x) f b q d.state (i - 1) d.marks d.busy d.data d.did) (CaseQ (K + 500)) :=
    fun b q d g1 g2 g3 => ih (b, q, i - 1, d) ⟨g1, by dsimp only; omega, by dsimp only; omega, g3⟩ (by dsimp only; omega)
  rw [z3p]
  refine Tot.iteD (fun c => ?_) (fun c => ?_)
  · refine Tot.bind2 (vc1 h1 (by omega) hX.small hps (h4.small (by omega))) ?_
    intro d2 r2 hh
    dsimp only at hh
    obtain ⟨hb, hr⟩ := hh
    dsimp only
    exact Tot.gd (by constructor <;> omega) (ih' _ _ d2 (Rd.mono hr (by omega)) (by omega) (h4.bnd (by omega) hb))
  · have h5 : i = 0 := by omega
    subst h5
    obtain ⟨t1, t2, t3, t4⟩ := h4
    unfold z76
    repeat' first
      | (refine Tot.bind2 (w9n (by assumption) (by omega)) ?_; intro a b h; dsimp only at h; obtain ⟨_, _⟩ := h; try dsimp only)
      | (refine Tot.bind2 (v6p (by assumption) (by omega) hX.pl) ?_; intro a b h; dsimp only at h; obtain ⟨_, _⟩ := h; try dsimp only)
      | (refine Tot.bind2 (v96 (by assumption) (by omega) hX.one) ?_; intro a b h; dsimp only at h; obtain ⟨_, _⟩ := h; try dsimp only)
      | (refine Tot.bind2 (y3d (by assumption) (by omega)) ?_; intro a b h; dsimp only at h; obtain ⟨_, _⟩ := h; try dsimp only)
      | (refine Tot.bind2 (yb2 (by assumption) (by omega)) ?_; intro a b h; dsimp only at h; obtain ⟨_, _⟩ := h; try dsimp only)
      | (refine Tot.bind2 (z0i (by assumption) (by omega)) ?_; intro a b h; dsimp only at h; obtain ⟨⟨_, _⟩, _⟩ := h; try dsimp only)
      | (refine Tot.gd (by first | omega | (constructor <;> omega) | (simp only [zL, zC, zN, zS, List.length_drop, SMALL]; omega)) ?_)
      | (refine Tot.getI (by omega) (by first | omega | (simp only [zC, zN, zS, zL]; omega)) ?_; intro x hx hg)
      | (refine Tot.iteD (fun _ => ?_) (fun _ => ?_))
      | exact Tot.pure ⟨hX, hp, ⟨by first | (dsimp only; omega) | (dsimp only; simp only [zL, zC, zN, zS, List.length_drop]; omega), by dsimp only; omega, by dsimp only; omega, by first | (dsimp only; omega) | (dsimp only; simp only [zL, zC, zN, zS, List.length_drop]; omega)⟩, Rd.mono (by assumption) (by omega)⟩
      | exact Tot.pure ⟨by assumption, hp, ⟨by dsimp only; omega, by dsimp only; omega, by dsimp only; omega, by dsimp only; omega⟩, Rd.mono (by assumption) (by omega)⟩
      | exact Tot.pure ⟨hX, by assumption, ⟨by dsimp only; omega, by dsimp only; omega, by dsimp only; omega, by dsimp only; omega⟩, Rd.mono (by assumption) (by omega)⟩
theorem v97 {K : Int} {r : GRd} {n : Int} (h : Rd K r) (hK : K ≤ 300000000) : Tot (zm3 r n) (CaseQ (K + 1000)) := by
  unfold zm3
  refine Tot.bind2 (wk2 h (by omega)) ?_
  intro x r1 hh; dsimp only at hh; obtain ⟨hx, h1⟩ := hh; dsimp only
  refine Tot.bind2 (yb2 h1 (by omega)) ?_
  intro p r2 hh; dsimp only at hh; obtain ⟨hp, h2⟩ := hh; dsimp only
  refine Tot.bind2 (y3d h2 (by omega)) ?_
  intro dt r3 hh; dsimp only at hh; obtain ⟨hd, h3⟩ := hh; dsimp only
  have hT := v35 hx
  refine Tot.bindE (yl5 x dt hT.small (by unfold SMALL; omega)) ?_
  refine Tot.bind2 (z0i h3 (by omega)) ?_
  intro a r4 hh; dsimp only at hh; obtain ⟨⟨a0, a1⟩, h4⟩ := hh; dsimp only
  refine Tot.bind2 (z0i h4 (by omega)) ?_
  intro a2 r5 hh; dsimp only at hh; obtain ⟨⟨a3, a4⟩, h5⟩ := hh; dsimp only
  refine Tot.getI (by omega) (by simp only [zC, zN]; omega) ?_
  intro k hk _
  have hk : 0 ≤ k ∧ k ≤ 16 := by
    simp only [zM, List.not_mem_nil, or_false] at hk
    omega
  exact (v5d (n := n) (by omega) hT hp (Rd.eta h5) (vl0 hd) hk.1 hk.2).mono fun v hv => ⟨hv.1, hv.2.1, hv.2.2.1, Rd.mono hv.2.2.2 (by omega)⟩
theorem va5 (code : List Int) (hc : ∀ y ∈ code, 0 ≤ y ∧ y ≤ 255) : Tot (zm1 code) (fun r => Rd 0 r) := by
  unfold zm1
  refine Tot.iteD (fun c => Tot.gd ⟨by omega, by omega⟩ (Tot.pure ⟨fun y hy => hc y (List.mem_of_mem_take hy), by show (code.take _).length ≤ 2000; rw [List.length_take]; omega, Int.le_refl _, Int.le_refl _⟩)) (fun c => Tot.pure ⟨hc, by show code.length ≤ 2000; omega, Int.le_refl _, Int.le_refl _⟩)
end Go.Am.Pl
end
section
namespace Go.Am.Pl
open Go
theorem v5l {a b : List Int} (hl : a.length ≤ SMALL) (hab : a.length = b.length) (c : Option Bool) (f : Nat → Int → Option Bool) (h0 : ∀ n, f (n + 1) (a.length : Int) = c)
    (h1 : ∀ n i x y, getI a i = some x → getI b i = some y → i < (a.length : Int) → ok64 (i + 1) → f (n + 1) i = if decide (x = y) = true then f n (i + 1) else some false) :
    f FUEL 0 = if decide (a = b) = true then c else some false := by
  have := scan0 a (by unfold SMALL at hl; omega) f (fun pre suf => if decide (suf = b.drop pre.length) = true then c else some false)
    (fun n => by rw [h0, hab, List.drop_eq_nil_of_le (Nat.le_refl _)]; rfl)
    (fun n pre x suf ha hg hlt hok ih => by
      have hk : pre.length < b.length := by omega
      rw [h1 n _ x b[pre.length] hg (by rw [z2u]; exact List.getElem?_eq_getElem hk) hlt hok, ih, List.drop_eq_getElem_cons hk, zL, zJ]
      by_cases hx : x = b[pre.length]
      · rw [if_pos (zT hx)]
        by_cases hs : suf = b.drop (pre.length + 1)
        · rw [if_pos (zT hs), if_pos (zT (by rw [← hx, ← hs]))]
        · rw [if_neg (by simpa using hs), if_neg (by simp only [zE]; intro h; exact hs (List.cons.inj h).2)]
      · rw [if_neg (by simpa using hx), if_neg (by simp only [zE]; intro h; exact hx (List.cons.inj h).1)])
  simpa using this
theorem ve4 (a b : List Int) (hl : a.length ≤ SMALL) : yp9 a b = some (decide (a = b)) := by
  unfold yp9
  by_cases h : a.length = b.length
  · rw [if_pos (zT (by omega)), v5l hl h (some true) (zb7 a b (a.length : Int) w0k) (fun n => by rw [zb7, if_neg (by simp)]; rfl)
      (fun n i x y ha hb hlt hok => by rw [zb7, if_pos (zT hlt), ha, zB, hb, zB, z00 hok])]
    cases decide (a = b) <;> rfl
  · rw [if_neg (by simp only [zE]; omega)]
    exact congrArg some (decide_eq_false fun e => h (by rw [e])).symm
theorem vd3 (a b : GAsk) : [a.op, a.var, a.k] = [b.op, b.var, b.k] ↔ a = b := by cases a; cases b; simp
theorem v2a (a b : GReq) (hl : a.data.length ≤ SMALL) : zu4 a b = some (decide (a = b)) := by
  unfold zu4
  have e : a.data.length = b.data.length → z3f a b (z4r a b) FUEL 0 = if decide (a.data = b.data) = true then z4r a b else some false := fun h =>
    v5l hl h _ (z3f a b (z4r a b)) (fun n => by rw [z3f, if_neg (by simp)])
      (fun n i x y ha hb hlt hok => by rw [z3f, if_pos (zT hlt), ha, zB, hb, zB, z00 hok])
  have e2 : (if decide ((a.data.length : Int) = (b.data.length : Int)) = true then z3f a b (z4r a b) FUEL 0 else some false) = if decide (a.data = b.data) = true then z4r a b else some false := by
    by_cases h : a.data.length = b.data.length
    · rw [if_pos (zT (by omega)), e h]
    · rw [if_neg (by simp only [zE]; omega), if_neg (by simp only [zE]; intro e; exact h (by rw [e]))]
  rw [e2]
  unfold z4r
  refine (z9g (z9g (z9g (z9g (z9g (z9g (z9g (z9g rfl)))))))).trans (congrArg some (decide_eq_decide.2 ?_))
  rw [vd3]
  cases a; cases b; simp only [GReq.mk.injEq]
  constructor
  · rintro ⟨a, b, c, d, e, f, g, h, i⟩; exact ⟨b, c, d, e, f, g, a, h, i⟩
  · rintro ⟨b, c, d, e, f, g, a, h, i⟩; exact ⟨a, b, c, d, e, f, g, h, i⟩
theorem v6j (a b : GReq) (hl : a.data.length ≤ SMALL) : z66 a b = some (decide (a = b)) := by
  unfold z66
  rw [ve4 _ _ hl]
  refine (z9g (z9g (z9g (z9g (z9g (z9g (z9g (z9g rfl)))))))).trans (congrArg some (decide_eq_decide.2 ?_))
  rw [vd3]
  cases a; cases b; simp only [GReq.mk.injEq]
  constructor
  · rintro ⟨b, c, d, e, f, g, h, i, a⟩; exact ⟨b, c, d, e, f, g, a, h, i⟩
  · rintro ⟨b, c, d, e, f, g, a, h, i⟩; exact ⟨b, c, d, e, f, g, h, i, a⟩
theorem v9j {n a b : Int} : inB n a b = true ↔ a ≤ n ∧ n ≤ b := by simp [inB]
def formB (r : GReq) : GReq :=
  if r.kind = 1 then GReq.mk r.kind 0 0 0 0 0 r.data (GAsk.mk 0 0 0) 0 else if r.kind = 2 then GReq.mk r.kind r.who r.case r.task 0 0 [] (GAsk.mk 0 0 0) 0
  else if r.kind = 3 then GReq.mk r.kind 0 r.case r.task r.var r.num [] (GAsk.mk 0 0 0) 0 else if r.kind = 4 then GReq.mk r.kind 0 r.case 0 0 0 [] (GAsk.mk 0 0 0) 0
  else GReq.mk r.kind 0 0 0 0 0 r.data r.if_ r.ans
theorem v7t (r : GReq) (h : inB r.kind 1 5 = true) : zu3 r = some (formB r) := by
  have := v9j.1 h
  unfold zu3 formB
  by_cases h1 : r.kind = 1
  · simp [h1]
  by_cases h2 : r.kind = 2
  · simp [h1, h2]
  by_cases h3 : r.kind = 3
  · simp [h1, h2, h3]
  by_cases h4 : r.kind = 4
  · simp [h1, h2, h3, h4]
  · have h5 : r.kind = 5 := by omega
    simp [h5]
theorem v46 (r : GReq) : z5e r = some (formB r) := by
  unfold z5e formB
  by_cases h1 : r.kind = 1
  · simp [h1]
  by_cases h2 : r.kind = 2
  · simp [h1, h2]
  by_cases h3 : r.kind = 3
  · simp [h1, h2, h3]
  by_cases h4 : r.kind = 4
  · simp [h1, h2, h3, h4]
  · simp [h1, h2, h3, h4]
def reqB (r : GReq) : Bool :=
  inB r.kind 1 5 && (decide (r = formB r) && (inB r.who 0 4 && (inB r.case 0 4 && (inB r.task 0 5 && (inB r.var (-1) 2 && (inB r.num (-99) 99 && (expOk r.if_ && (inB r.ans 0 2 && ((decide (r.kind = 1) || decide (r.kind = 5)) == datOk r.data)))))))))
theorem y4g (r : GReq) (hl : r.data.length ≤ SMALL) : z72 r = some (reqB r) := by
  unfold z72 reqB
  rw [z2l, zB]
  by_cases h : inB r.kind 1 5 = true
  · rw [if_pos h, h, v7t r h, zB, v2a _ _ hl]
    simp only [z2l, y2d, z85 _ hl, zB]
    have e : (if decide (r.kind = 1) = true then some (true == datOk r.data) else some (decide (r.kind = 5) == datOk r.data)) = some ((decide (r.kind = 1) || decide (r.kind = 5)) == datOk r.data) := by
      by_cases h1 : r.kind = 1
      · simp [h1]
      · simp [h1]
    rw [e]
    simp only [iteB, Bool.true_and]
  · rw [if_neg h, zF.2 h]; rfl
theorem wj1 (r : GReq) (hl : r.data.length ≤ SMALL) : ze9 r = some (reqB r) := by
  unfold ze9 reqB
  simp only [z5k, zz0, z4c, yw9, zb3 _ hl, v46, v6j _ _ hl, zB, iteB]
  by_cases h1 : r.kind = 1
  · rw [if_pos (zT h1)]
    simp only [h1, decide_true, Bool.true_or]
    rw [show (datOk r.data == true) = (true == datOk r.data) by cases datOk r.data <;> rfl]
    congr 1; ac_rfl
  · rw [if_neg (by simpa using h1)]
    simp only [h1, decide_false, Bool.false_or]
    rw [show (datOk r.data == decide (r.kind = 5)) = (decide (r.kind = 5) == datOk r.data) by cases datOk r.data <;> cases decide (r.kind = 5) <;> rfl]
    congr 1; ac_rfl
end Go.Am.Pl
end
section
namespace Go.Am.Pl
open Go
def noHouse : GHouse := GHouse.mk [] [] [] []
def setRun (h : GHouse) (k : Int) (r : GCase × Bool) : GHouse × Int :=
  if r.2 = true then (GHouse.mk h.nets h.people h.tree (h.runs.set k.toNat (GRun.mk (atI h.runs k).net r.1)), 1) else (h, 3)
noncomputable def turnB (h : GHouse) (r : GReq) : GCase × Bool :=
  if r.kind = 2 then startB (atI h.nets (atI h.runs r.case).net) h.people (atI h.runs r.case).case r.task r.who
  else if r.kind = 3 then workB (atI h.nets (atI h.runs r.case).net) (atI h.runs r.case).case r.task r.var r.num
  else stopB (atI h.nets (atI h.runs r.case).net) (atI h.runs r.case).case
def netOf (h : GHouse) (data : List Int) : Int := if (h.nets.length : Int) ≤ askB h.tree data then 0 else askB h.tree data
noncomputable def doB (h : GHouse) (r : GReq) : GHouse × Int :=
  if r.kind = 1 then (if (h.runs.length : Int) = 5 then (h, 4) else (GHouse.mk h.nets h.people h.tree (h.runs ++ [GRun.mk (netOf h r.data) (newC (atI h.nets (netOf h r.data)) r.data)]), 1))
  else if r.kind = 5 then (if (addB h.tree r.data r.if_ r.ans).2 = true then (GHouse.mk h.nets h.people (addB h.tree r.data r.if_ r.ans).1 h.runs, 1) else (h, 3))
  else if (h.runs.length : Int) ≤ r.case then (h, 2) else setRun h r.case (turnB h r)
structure HInv (h : GHouse) : Prop where
  lens : GHouse.lens (· ≤ 1048576) h
  one : 1 ≤ h.nets.length
  net : ∀ r ∈ h.runs, 0 ≤ r.net ∧ r.net < h.nets.length
  many : h.runs.length ≤ 5
theorem HInv.small {h : GHouse} (H : HInv h) : houseSmall h := zx3 H.lens
theorem y1v {h : GHouse} (hb : houseB h = true) (hl : GHouse.lens (· ≤ 1048576) h) : HInv h := by
  simp only [houseB, netsB, runB, zA, zV, z0b, Bool.not_eq_true', decide_eq_false_iff_not] at hb
  obtain ⟨⟨a, b⟩, c, d, e, f⟩ := hb
  exact ⟨hl, by omega, fun r hr => by have := (f r hr).1; omega, by omega⟩
theorem w2z {h : GHouse} (H : HInv h) (data : List Int) : 0 ≤ netOf h data ∧ netOf h data < h.nets.length := by
  have := H.one
  have := w9p h.tree data
  unfold netOf; split <;> omega
theorem v0j {h : GHouse} (H : HInv h) {r : GReq} (h0 : 0 ≤ r.case) (h1 : r.case < h.runs.length) : (atI h.nets (atI h.runs r.case).net).small ∧ (atI h.runs r.case).case.small ∧ getI h.nets (atI h.runs r.case).net = some (atI h.nets (atI h.runs r.case).net) := by
  have hm := z21 h.runs h0 h1
  have hn := H.net _ hm
  have S := H.small
  exact ⟨S.1.2 _ (z21 h.nets hn.1 hn.2), S.2.2.2.2 _ hm, z0f h.nets hn.1 hn.2⟩
theorem v7r {h : GHouse} (H : HInv h) (r : GReq) (h0 : 0 ≤ r.case) : zu2 h r = some (if (h.runs.length : Int) ≤ r.case then (h, 2) else setRun h r.case (turnB h r)) := by
  unfold zu2
  by_cases hc : (h.runs.length : Int) ≤ r.case
  · rw [if_pos (zT hc), if_pos hc]
  have hg := z0f h.runs h0 (show r.case < h.runs.length by omega)
  obtain ⟨sn, sc, hgn⟩ := v0j H h0 (show r.case < h.runs.length by omega)
  have hp := H.small.2.1
  rw [if_neg (by simpa using hc), if_neg hc, hg, zB, hgn, zB]
  unfold setRun turnB
  by_cases k2 : r.kind = 2
  · rw [if_pos (zT k2), if_pos k2, yt1 _ _ _ _ _ sn hp sc, zB, zB]
    split <;> rfl
  rw [if_neg (by simpa using k2), if_neg k2]
  by_cases k3 : r.kind = 3
  · rw [if_pos (zT k3), if_pos k3, w0s _ _ _ _ _ sn sc, zB, zB]
    split <;> rfl
  rw [if_neg (by simpa using k3), if_neg k3, v0a _ _ sn sc, zB, zB]
  split <;> rfl
theorem v7s {h : GHouse} (H : HInv h) (r : GReq) (h0 : 0 ≤ r.case) (hd : r.data.length ≤ SMALL) : zw7 h r = some (doB h r) := by
  have S := H.small
  unfold zw7 doB
  by_cases k1 : r.kind = 1
  · rw [if_pos (zT k1), if_pos k1]
    by_cases hf : (h.runs.length : Int) = 5
    · rw [if_pos (zT hf), if_pos hf]
    rw [if_neg (by simpa using hf), if_neg hf, v27 _ _ S.2.2.1 hd, zB]
    have hn := w2z H r.data
    have hg := z0f h.nets hn.1 hn.2
    have sn := S.1.2 _ (z21 h.nets hn.1 hn.2)
    have hl : ∀ y : GRun, h.runs.length + [y].length ≤ SMALL := fun y => by have := H.many; rw [zJ]; unfold SMALL; omega
    unfold netOf at hg sn ⊢
    by_cases hk : (h.nets.length : Int) ≤ askB h.tree r.data
    · rw [if_pos hk] at hg sn
      rw [if_pos (zT hk), if_pos hk, hg, zB, yl5 _ _ sn hd, zB, z00 (hl _)]
    · rw [if_neg hk] at hg sn
      rw [if_neg (by simpa using hk), if_neg hk, hg, zB, yl5 _ _ sn hd, zB, z00 (hl _)]
  rw [if_neg (by simpa using k1), if_neg k1]
  by_cases k5 : r.kind = 5
  · rw [if_pos (zT k5), if_pos k5, w6c _ _ _ _ S.2.2.1 hd, zB]
    split <;> rfl
  · rw [if_neg (by simpa using k5), if_neg k5, v7r H r h0, zB]
theorem vh1 {h : GHouse} (H : HInv h) (r : GReq) (h0 : 0 ≤ r.case) (hd : r.data.length ≤ SMALL) : z88 h r = some ((doB h r).2, (doB h r).1) := by
  have S := H.small
  unfold z88 doB
  by_cases k1 : r.kind = 1
  · rw [if_pos (zT k1), if_pos k1]
    by_cases hf : (h.runs.length : Int) = 5
    · rw [if_pos (zT hf), if_pos hf]
    rw [if_neg (by simpa using hf), if_neg hf, w4r _ _ S.2.2.1 hd, zB]
    have hn := w2z H r.data
    have hg := z0f h.nets hn.1 hn.2
    have sn := S.1.2 _ (z21 h.nets hn.1 hn.2)
    have hl : ∀ y : GRun, h.runs.length + [y].length ≤ SMALL := fun y => by have := H.many; rw [zJ]; unfold SMALL; omega
    unfold netOf at hg sn ⊢
    by_cases hk : (h.nets.length : Int) ≤ askB h.tree r.data
    · rw [if_pos hk] at hg sn
      rw [if_pos (zT hk), if_pos hk, hg, zB, y3m _ _ sn hd, zB, z00 (hl _)]
    · rw [if_neg hk] at hg sn
      rw [if_neg (by simpa using hk), if_neg hk, hg, zB, y3m _ _ sn hd, zB, z00 (hl _)]
  rw [if_neg (by simpa using k1), if_neg k1]
  by_cases k5 : r.kind = 5
  · rw [if_pos (zT k5), if_pos k5, v1g _ _ _ _ S.2.2.1 hd, zB]
    split <;> rfl
  rw [if_neg (by simpa using k5), if_neg k5]
  by_cases hc : (h.runs.length : Int) ≤ r.case
  · rw [if_pos (zT hc), if_pos hc]
  have hg := z0f h.runs h0 (show r.case < h.runs.length by omega)
  obtain ⟨sn, sc, hgn⟩ := v0j H h0 (show r.case < h.runs.length by omega)
  have hp := H.small.2.1
  rw [if_neg (by simpa using hc), if_neg hc, hg, zB, hgn, zB]
  unfold setRun turnB
  by_cases k2 : r.kind = 2
  · rw [if_pos (zT k2), if_pos k2, wi9 _ _ _ _ _ sn hp sc, zB]
    split <;> rfl
  rw [if_neg (by simpa using k2), if_neg k2]
  by_cases k3 : r.kind = 3
  · rw [if_pos (zT k3), if_pos k3, wv7 _ _ _ _ _ sn sc, zB]
    split <;> rfl
  rw [if_neg (by simpa using k3), if_neg k3, wv6 _ _ sn sc, zB]
  split <;> rfl
theorem v7x (n : GNet) (c : GCase) : Bnd c (stopB n c).1 := by
  unfold stopB
  cases casB n c && decide (c.state = 1)
  · exact Bnd.refl c
  · exact ⟨Nat.le_refl _, .inl (Nat.zero_le _), Nat.le_refl _, .inl (Nat.le_refl _)⟩
theorem v82 (h : GHouse) (r : GReq) : Bnd (atI h.runs r.case).case (turnB h r).1 := by
  unfold turnB
  split
  · exact wa9 _ _ _ _ _
  · split
    · exact v0l _ _ _ _ _
    · exact v7x _ _
theorem v6s (n : GNet) (data : List Int) : GCase.lens (· ≤ 1048576) (newC n data) := by
  unfold newC
  cases e : netB n && datOk data
  · exact ⟨Nat.zero_le _, Nat.zero_le _, Nat.zero_le _, Nat.zero_le _⟩
  · rw [zA] at e
    have h1 := z5i e.1
    have h2 := y1d e.2
    exact ⟨by show ((List.replicate n.places.toNat (0 : Int)).set 0 1).length ≤ 1048576; simp; omega, Nat.zero_le _, by show data.length ≤ 1048576; omega, Nat.zero_le _⟩
theorem wp1 {tree : List GNode} {data : List Int} {e : GAsk} {ans : Int} (hl : tree.length ≤ 1048576) (hs : ∀ x ∈ tree, GNode.lens (· ≤ 1048576) x) : (addB tree data e ans).1.length ≤ 1048576 ∧ ∀ x ∈ (addB tree data e ans).1, GNode.lens (· ≤ 1048576) x := by
  unfold addB
  cases h : addOk tree data e ans && !takenB tree data e
  · exact ⟨hl, hs⟩
  · rw [zA] at h
    have h1 := h.1
    unfold addOk at h1
    rw [zA, zA] at h1
    have F := zc2 h1.1
    have hd := y1d h1.2.1
    have hlen := F.len
    refine ⟨?_, fun x hx => ?_⟩
    · show (putN tree data ++ [newN e ans data]).length ≤ _
      rw [zL, va9, zJ]; omega
    · have hx : x ∈ putN tree data ++ [newN e ans data] := hx
      rw [zP, List.mem_singleton] at hx
      rcases hx with hx | rfl
      · unfold putN at hx
        split at hx
        · exact hs x hx
        · rename_i h0
          have hv := ya8 F data (by omega)
          have hst := hs _ (z21 tree hv.1 hv.2)
          split at hx <;> rcases List.mem_or_eq_of_mem_set hx with hx | rfl
          · exact hs x hx
          · exact hst
          · exact hs x hx
          · exact hst
      · show data.length ≤ 1048576; omega
theorem v10 {h : GHouse} (H : HInv h) (r : GReq) (h0 : 0 ≤ r.case) : HInv (doB h r).1 ∧ (doB h r).1.nets = h.nets ∧ (doB h r).1.people = h.people := by
  obtain ⟨⟨⟨a, b⟩, c, ⟨d, e⟩, f, g⟩, one, net, many⟩ := H
  unfold doB
  split
  · split
    · exact ⟨⟨⟨⟨a, b⟩, c, ⟨d, e⟩, f, g⟩, one, net, many⟩, rfl, rfl⟩
    · refine ⟨⟨⟨⟨a, b⟩, c, ⟨d, e⟩, ?_, ?_⟩, one, ?_, ?_⟩, rfl, rfl⟩
      · show (h.runs ++ [_]).length ≤ 1048576; rw [zL, zJ]; omega
      · intro y hy
        have hy : y ∈ h.runs ++ [_] := hy
        rw [zP, List.mem_singleton] at hy
        rcases hy with hy | rfl
        · exact g y hy
        · exact v6s _ _
      · intro y hy
        have hy : y ∈ h.runs ++ [_] := hy
        rw [zP, List.mem_singleton] at hy
        rcases hy with hy | rfl
        · exact net y hy
        · exact w2z ⟨⟨⟨a, b⟩, c, ⟨d, e⟩, f, g⟩, one, net, many⟩ _
      · show (h.runs ++ [_]).length ≤ 5; rw [zL, zJ]; omega
  · split
    · split
      · exact ⟨⟨⟨⟨a, b⟩, c, wp1 d e, f, g⟩, one, net, many⟩, rfl, rfl⟩
      · exact ⟨⟨⟨⟨a, b⟩, c, ⟨d, e⟩, f, g⟩, one, net, many⟩, rfl, rfl⟩
    · split
      · exact ⟨⟨⟨⟨a, b⟩, c, ⟨d, e⟩, f, g⟩, one, net, many⟩, rfl, rfl⟩
      · rename_i hc
        unfold setRun
        split
        · have hm := z21 h.runs h0 (show r.case < h.runs.length by omega)
          refine ⟨⟨⟨⟨a, b⟩, c, ⟨d, e⟩, ?_, ?_⟩, one, ?_, ?_⟩, rfl, rfl⟩
          · show (h.runs.set _ _).length ≤ 1048576; rw [zS]; exact f
          · intro y hy
            rcases List.mem_or_eq_of_mem_set hy with hy | rfl
            · exact g y hy
            · exact (v82 h r).lens (g _ hm)
          · intro y hy
            rcases List.mem_or_eq_of_mem_set hy with hy | rfl
            · exact net y hy
            · have := net _ hm; exact this
          · show (h.runs.set _ _).length ≤ 5; rw [zS]; exact many
        · exact ⟨⟨⟨⟨a, b⟩, c, ⟨d, e⟩, f, g⟩, one, net, many⟩, rfl, rfl⟩
theorem zx2 {r : GReq} (h : reqB r = true) : 0 ≤ r.case := by
  simp only [reqB, zA, z0b] at h
  exact h.2.2.2.1.1
noncomputable def engB (h : GHouse) (r : GReq) : GHouse × Int := bif houseB h && reqB r then doB h r else (noHouse, 0)
theorem v4q (h : GHouse) (r : GReq) (hl : GHouse.lens (· ≤ 1048576) h) (hd : r.data.length ≤ SMALL) : z8r h r = some (engB h r) := by
  have hs := zx3 hl
  unfold z8r engB
  rw [v4r h hs, zB]
  by_cases h1 : houseB h = true
  case neg => rw [if_neg h1, zF.2 h1]; rfl
  rw [if_pos h1, h1, y4g r hd, zB]
  by_cases h2 : reqB r = true
  case neg => rw [if_neg h2, zF.2 h2]; rfl
  rw [if_pos h2, h2, yg7 h hs, zB, v7s (y1v h1 hl) r (zx2 h2) hd, zB]; rfl
theorem v43 (h : GHouse) (r : GReq) (hl : GHouse.lens (· ≤ 1048576) h) (hd : r.data.length ≤ SMALL) : z8l h r = some (engB h r) := by
  have hs := zx3 hl
  unfold z8l engB
  rw [v44 h hs, zB]
  by_cases h1 : houseB h = true
  case neg => rw [if_neg h1, zF.2 h1]; rfl
  rw [if_pos h1, h1, wj1 r hd, zB]
  by_cases h2 : reqB r = true
  case neg => rw [if_neg h2, zF.2 h2]; rfl
  have H := y1v h1 hl
  have H2 := (v10 H r (zx2 h2)).1
  rw [if_pos h2, h2, y7q h hs, zB, vh1 H r (zx2 h2) hd, zB]
  show (z2n (doB h r).1).bind _ = _
  rw [y7q _ H2.small, zB]; rfl
end Go.Am.Pl
end
section
namespace Go.Am.Pl
open Go
structure LogOk' (log : List GReq) : Prop where
  len : log.length ≤ 150
  case : ∀ r ∈ log, 0 ≤ r.case
end Go.Am.Pl
end
section
namespace Go.Am.Pl
open Go
theorem v57 {α : Type} [Inhabited α] (l : List α) {v j : Int} (w : α) (hv : 0 ≤ v) (hj : 0 ≤ j) (hl : j < l.length) : atI (l.set v.toNat w) j = if v = j then w else atI l j := by
  unfold atI; rw [yp2 l w hv hj hl]; split <;> rfl
theorem v3w {α : Type} [Inhabited α] (l : List α) {v j : Int} (w : α) (hv : 0 ≤ v) (h : v ≠ j) : atI (l.set v.toNat w) j = atI l j := by
  unfold atI getI
  split
  · rw [List.getElem?_set_ne (by omega)]
  · rfl
theorem v8z {α : Type} [Inhabited α] (a b : List α) {j : Int} (h1 : j < a.length) : atI (a ++ b) j = atI a j := by
  unfold atI getI
  split
  · rw [List.getElem?_append_left (by omega)]
  · rfl
theorem v56 {α : Type} [Inhabited α] (a : List α) (x : α) : atI (a ++ [x]) (a.length : Int) = x := by
  unfold atI; rw [z2u]; simp
theorem vf2 {α : Type} [Inhabited α] (N : Nat) (x : α) {j : Int} (h0 : 0 ≤ j) (h1 : j < N) : atI (List.replicate N x) j = x := by
  unfold atI getI
  rw [if_pos h0, List.getElem?_replicate, if_pos (by omega)]; rfl
theorem zr4 {n : GNet} {c : GCase} : casB n c = true ↔ mrkB n c.marks = true ∧ busyB n c.busy = true ∧ datOk c.data = true ∧ (c.did.length : Int) ≤ 60 ∧ (1 ≤ c.state ∧ c.state ≤ 3) ∧ c.did.all (didB n) = true ∧ stateB c = true := by
  simp only [casB, zA, z0b, Bool.not_eq_true', decide_eq_false_iff_not, Int.not_lt]
theorem v1n {n : GNet} {m : List Int} (h1 : netB n = true) (h2 : (m.length : Int) = n.places) (h3 : okM m = true) : mrkB n m = true := by
  unfold mrkB marksB
  rw [h1, zT h2]; exact h3
theorem yv2 (join : Int) : ∀ (ps l : List Int), (∀ p ∈ ps, 0 ≤ p ∧ p < l.length) → capM 4 l → capM 4 (takeL join ps l)
  | [], l, _, h => h
  | p :: ps, l, hp, h => by
    have h0 := hp p (by simp)
    unfold takeL
    split
    · split
      · exact wb7 h (by assumption) h0.1 h0.2
      · exact yv2 join ps _ (fun q hq => by rw [wb9]; exact hp q (by simp [hq])) (wb7 h (by assumption) h0.1 h0.2)
    · exact yv2 join ps l (fun q hq => hp q (by simp [hq])) h
theorem wo7 (join : Int) {q : Int} : ∀ (ps l : List Int), (∀ p ∈ ps, 0 ≤ p ∧ p ≠ q) → atI (takeL join ps l) q = atI l q
  | [], l, _ => rfl
  | p :: ps, l, hp => by
    have h0 := hp p (by simp)
    have hd : atI (dec l p) q = atI l q := v3w _ _ h0.1 h0.2
    unfold takeL
    split
    · split
      · exact hd
      · rw [wo7 join ps _ (fun q hq => hp q (by simp [hq])), hd]
    · exact wo7 join ps l (fun q hq => hp q (by simp [hq]))
theorem v9r {n : GNet} (h : netB n = true) {t : GTask} (ht : t ∈ n.tasks) : ∀ p ∈ t.in_, p ≠ 1 := by
  simp only [netB, zA, zV] at h
  have := h.2.2 t ht
  simp only [taskB, zA, Bool.not_eq_true', List.any_eq_false, zE] at this
  exact this.2.2.2.1
structure StartF (n : GNet) (people : List Int) (c : GCase) (t who : Int) : Prop where
  cas : casB n c = true
  run : c.state = 1
  ena : enaB n c.marks c.busy t = true
  may : who ∈ mayB n people c.did c.busy t
  room : c.busy.length ≠ 6
theorem v2b {n : GNet} {people : List Int} {c : GCase} {t who : Int} : startOk n people c t who = true ↔ StartF n people c t who := by
  unfold startOk
  simp only [zA, zE, List.any_eq_true, exists_eq_right, Bool.not_eq_true', decide_eq_false_iff_not]
  constructor
  · rintro ⟨a, b, d, e, f⟩; exact ⟨a, b, d, e, by omega⟩
  · rintro ⟨a, b, d, e, f⟩; exact ⟨a, b, d, e, by omega⟩
theorem v9p {n : GNet} {people : List Int} {did : List GDid} {busy : List GItem} {t who : Int} : who ∈ mayB n people did busy t ↔ netB n = true ∧ pplB people = true ∧ (0 ≤ t ∧ t < n.tasks.length) ∧ (1 ≤ who ∧ who ≤ people.length) ∧ mayW n people did busy t who = true := by
  unfold mayB
  cases e : netB n && (pplB people && inB t 0 ((n.tasks.length : Int) - 1))
  · constructor
    · intro h; simp at h
    · rintro ⟨a, b, d, _⟩
      rw [a, b, z0b.2 ⟨d.1, by omega⟩] at e; cases e
  · simp only [zA, z0b] at e
    show who ∈ (idxs people.length).filter _ ↔ _
    rw [List.mem_filter, v9g]
    constructor
    · rintro ⟨a, b⟩; exact ⟨e.1, e.2.1, by omega, a, b⟩
    · rintro ⟨_, _, _, a, b⟩; exact ⟨a, b⟩
theorem v92 {n : GNet} {people : List Int} {c : GCase} {t who : Int} (S : StartF n people c t who) : casB n (begun n c t who) = true := by
  obtain ⟨a1, a2, a3, a4, a5, a6, a7⟩ := zr4.1 S.cas
  obtain ⟨g1, g2, g3⟩ := w3t S.ena
  obtain ⟨f1, f2, f3⟩ := z84 a1
  have hm := z21 n.tasks g3.1 g3.2
  have T := z6f f1 hm
  obtain ⟨_, hp, _, hw, _⟩ := v9p.1 S.may
  have hp4 := (yz2 hp).1
  have hin : ∀ p ∈ (atI n.tasks t).in_, 0 ≤ p ∧ p < c.marks.length := fun p hp => by have := T.ins p hp; omega
  have F := zk0 S.cas
  refine zr4.2 ⟨v1n f1 (by show ((takeL _ _ c.marks).length : Int) = _; rw [yt5]; exact f2) (zk8.2 (yv2 _ _ _ hin (zk8.1 f3))), ?_, a3, a4, a5, a6, ?_⟩
  · have hb := F.busyl
    have hr := S.room
    show busyB n (c.busy ++ [GItem.mk t who 0]) = true
    simp only [busyB, zA, zE] at a2 ⊢
    refine ⟨by rw [zL, zJ]; omega, ?_⟩
    rw [List.all_append, a2.2, Bool.true_and]
    simp only [List.all_cons, List.all_nil, Bool.and_true, itemB, zA, z0b]
    have := T.need
    exact ⟨by omega, by omega, by omega⟩
  · unfold stateB at a7 ⊢
    have e : (begun n c t who).state = 1 := S.run
    rw [S.run] at a7
    rw [e]
    simp only [decide_true, cond_true, zE] at a7 ⊢
    show atI (takeL _ _ c.marks) 1 = 0
    rw [wo7 _ _ _ (fun p hp => ⟨(hin p hp).1, v9r f1 hm p hp⟩)]; exact a7
theorem v7v {n : GNet} {people : List Int} {c : GCase} {t who : Int} (h : casB n c = true) : casB n (startB n people c t who).1 = true := by
  unfold startB
  cases e : startOk n people c t who
  · exact h
  · exact v92 (v2b.1 e)
structure WorkF (n : GNet) (c : GCase) (k v num : Int) : Prop where
  cas : casB n c = true
  run : c.state = 1
  k0 : 0 ≤ k
  k1 : k < c.busy.length
  v : -1 ≤ v ∧ v ≤ 2
  num : -99 ≤ num ∧ num ≤ 99
  room : c.did.length ≠ 60
theorem v0m {n : GNet} {c : GCase} {k v num : Int} : (casB n c && (decide (c.state = 1) && (inB k 0 ((c.busy.length : Int) - 1) && (inB v (-1) 2 && (inB num (-99) 99 && !decide ((c.did.length : Int) = 60)))))) = true ↔ WorkF n c k v num := by
  simp only [zA, zE, z0b, Bool.not_eq_true', decide_eq_false_iff_not]
  constructor
  · rintro ⟨a, b, c, d, e, f⟩; exact ⟨a, b, c.1, by omega, d, e, by omega⟩
  · rintro ⟨a, b, c, d, e, f, g⟩; exact ⟨a, b, by omega, e, f, by omega⟩
theorem v85 {n : GNet} {c : GCase} {k v num : Int} (W : WorkF n c k v num) : workB n c k v num = doneB n c k (datB c.data v num) := by
  unfold workB; rw [v0m.2 W]; rfl
theorem vc6 {n : GNet} {c : GCase} {k v num : Int} (W : ¬ WorkF n c k v num) : workB n c k v num = (c, false) := by
  unfold workB; rw [zF.2 (fun h => W (v0m.1 h))]; rfl
theorem vg0 {data : List Int} {v num : Int} (h : datOk data = true) (hn : -99 ≤ num ∧ num ≤ 99) : datOk (datB data v num) = true := by
  unfold datB
  split
  · simp only [datOk, zA, zE, zV, z0b] at h ⊢
    refine ⟨by rw [zS]; exact h.1, fun x hx => ?_⟩
    rcases List.mem_or_eq_of_mem_set hx with hx | rfl
    · exact h.2 x hx
    · exact hn
  · exact h
structure GiveF (n : GNet) (m : List Int) (t : Int) (data : List Int) : Prop where
  mrk : mrkB n m = true
  t0 : 0 ≤ t
  t1 : t < n.tasks.length
  dat : datOk data = true
  ok : okM (giveL n m (atI n.tasks t) data) = true
theorem v6b {n : GNet} {m : List Int} {t : Int} {data : List Int} : (giveB n m t data).2 = true ↔ GiveF n m t data := by
  unfold giveB
  cases e : mrkB n m && (inB t 0 ((n.tasks.length : Int) - 1) && (datOk data && okM (giveL n m (atI n.tasks t) data)))
  · constructor
    · intro h; cases h
    · rintro ⟨a, b, c, d, f⟩
      rw [a, z0b.2 ⟨b, by omega⟩, d, f] at e; cases e
  · simp only [zA, z0b] at e
    exact ⟨fun _ => ⟨e.1, e.2.1.1, by omega, e.2.2.1, e.2.2.2⟩, fun _ => rfl⟩
theorem v6c {n : GNet} {m : List Int} {t : Int} {data : List Int} (G : GiveF n m t data) : giveB n m t data = (giveL n m (atI n.tasks t) data, true) := by
  unfold giveB; rw [G.mrk, z0b.2 (show 0 ≤ t ∧ t ≤ (n.tasks.length : Int) - 1 from ⟨G.t0, by have := G.t1; omega⟩), G.dat, G.ok]; rfl
theorem wv1 (n : GNet) (m : List Int) (t : GTask) (data : List Int) : (giveL n m t data).length = m.length := by unfold giveL; rw [w2t, ya1]
theorem v6d {n : GNet} {m : List Int} {t : Int} {data : List Int} (G : GiveF n m t data) : mrkB n (giveL n m (atI n.tasks t) data) = true := by
  obtain ⟨f1, f2, f3⟩ := z84 G.mrk
  exact v1n f1 (by rw [wv1]; exact f2) G.ok
theorem v6l {n : GNet} {busy : List GItem} (h : busyB n busy = true) {k : Int} (h0 : 0 ≤ k) (h1 : k < busy.length) : itemB n (atI busy k) = true := by
  simp only [busyB, zA, zV] at h
  exact h.2 _ (z21 busy h0 h1)
theorem ym4 {n : GNet} {busy busy' : List GItem} (h : busyB n busy = true) (hl : busy'.length ≤ busy.length) (hm : ∀ b ∈ busy', itemB n b = true) : busyB n busy' = true := by
  simp only [busyB, zA, zE, zV] at h ⊢
  exact ⟨by omega, hm⟩
theorem vc7 {n : GNet} {c : GCase} {k v num : Int} (h : casB n c = true) : casB n (workB n c k v num).1 = true := by
  by_cases W : WorkF n c k v num
  case neg => rw [vc6 W]; exact h
  rw [v85 W]
  obtain ⟨a1, a2, a3, a4, a5, a6, a7⟩ := zr4.1 h
  have hd := vg0 (v := v) a3 W.num
  have hit := v6l a2 W.k0 W.k1
  have hit2 := hit
  simp only [itemB, zA, z0b] at hit2
  have hst : atI c.marks 1 = 0 := by
    unfold stateB at a7; rw [W.run] at a7; simpa using a7
  have hb : ∀ b ∈ c.busy, itemB n b = true := by
    simp only [busyB, zA, zV] at a2; exact a2.2
  unfold doneB
  split
  · rename_i hlt
    refine zr4.2 ⟨a1, ?_, hd, a4, a5, a6, ?_⟩
    · refine ym4 a2 (by show (c.busy.set _ _).length ≤ _; simp) fun b hb' => ?_
      rcases List.mem_or_eq_of_mem_set hb' with hb' | rfl
      · exact hb b hb'
      · simp only [itD, itemB, zA, z0b]; omega
    · unfold stateB
      show (bif decide (c.state = 1) then decide (atI c.marks 1 = 0) else _) = true
      rw [W.run, hst]; rfl
  · split
    · rename_i hg
      have G := v6b.1 hg
      rw [v6c G]
      have hdl : ((c.did ++ [GDid.mk (atI c.busy k).task (atI c.busy k).who]).length : Int) ≤ 60 := by
        have := W.room; rw [zL, zJ]; omega
      have hda : (c.did ++ [GDid.mk (atI c.busy k).task (atI c.busy k).who]).all (didB n) = true := by
        rw [List.all_append, a6, Bool.true_and]
        simp only [List.all_cons, List.all_nil, Bool.and_true, didB, zA, z0b]; omega
      have hm := v6d G
      split
      · rename_i hpos
        refine zr4.2 ⟨hm, ?_, hd, hdl, by show (1 : Int) ≤ 2 ∧ (2 : Int) ≤ 3; omega, hda, ?_⟩
        · exact ym4 a2 (Nat.zero_le _) fun b hb' => by simp at hb'
        · unfold stateB
          show (bif decide ((2 : Int) = 1) then _ else decide ((([] : List GItem).length : Int) = 0) && (decide ((2 : Int) = 2) == decide (0 < atI _ 1))) = true
          rw [zT hpos]; rfl
      · rename_i hpos
        have h1 := zk8.1 G.ok
        have hml := (z84 a1).2.1
        have hsz := z5i (z84 a1).1
        have hat := yv1 h1 (p := 1) (by omega) (by rw [wv1]; omega)
        refine zr4.2 ⟨hm, ?_, hd, hdl, a5, hda, ?_⟩
        · refine ym4 a2 (by show (c.busy.take _ ++ c.busy.drop _).length ≤ _; rw [zL, List.length_take, List.length_drop]; have := W.k1; have := W.k0; omega) fun b hb' => ?_
          rcases zP.1 hb' with h | h
          · exact hb b (List.mem_of_mem_take h)
          · exact hb b (List.mem_of_mem_drop h)
        · unfold stateB
          show (bif decide (c.state = 1) then decide (atI (giveL n c.marks (atI n.tasks (atI c.busy k).task) (datB c.data v num)) 1 = 0) else _) = true
          rw [W.run, zT (show atI (giveL n c.marks (atI n.tasks (atI c.busy k).task) (datB c.data v num)) 1 = 0 by have hp : ¬ 0 < atI (giveL n c.marks (atI n.tasks (atI c.busy k).task) (datB c.data v num)) 1 := hpos; omega)]; rfl
    · exact h
theorem vc2 {n : GNet} {c : GCase} (h : casB n c = true) : casB n (stopB n c).1 = true := by
  unfold stopB
  cases e : casB n c && decide (c.state = 1)
  · exact h
  · rw [zA, zE] at e
    obtain ⟨a1, a2, a3, a4, a5, a6, a7⟩ := zr4.1 h
    refine zr4.2 ⟨a1, ym4 a2 (Nat.zero_le _) (fun b hb => by simp at hb), a3, a4, by show (1 : Int) ≤ 3 ∧ (3 : Int) ≤ 3; omega, a6, ?_⟩
    unfold stateB at a7 ⊢
    rw [e.2] at a7
    have a7 : atI c.marks 1 = 0 := by simpa using a7
    show (bif decide ((3 : Int) = 1) then _ else decide ((([] : List GItem).length : Int) = 0) && (decide ((3 : Int) = 2) == decide (0 < atI c.marks 1))) = true
    rw [a7]; rfl
theorem vh8 {n : GNet} {data : List Int} (hn : netB n = true) (hd : datOk data = true) : casB n (newC n data) = true := by
  have hsz := z5i hn
  unfold newC
  rw [hn, hd]
  have hl : (List.replicate n.places.toNat (0 : Int)).length = n.places.toNat := by simp
  refine zr4.2 ⟨v1n hn (by show (((List.replicate n.places.toNat (0 : Int)).set 0 1).length : Int) = _; rw [zS, hl]; omega) (zk8.2 fun x hx => ?_), ?_, hd, by show ((0 : Nat) : Int) ≤ 60; omega, by show (1 : Int) ≤ 1 ∧ (1 : Int) ≤ 3; omega, rfl, ?_⟩
  · rcases List.mem_or_eq_of_mem_set hx with hx | rfl
    · have := (List.mem_replicate.1 hx).2; omega
    · omega
  · rfl
  · show decide (atI ((List.replicate n.places.toNat (0 : Int)).set (0 : Int).toNat 1) 1 = 0) = true
    rw [v57 _ _ (by omega) (by omega) (by rw [hl]; omega), if_neg (by omega), vf2 _ _ (by omega) (by omega)]; rfl
theorem wx3 (len : Int) : ∀ (l : List GNode) (i : Int), (∀ j : Nat, j < l.length → nodeB len (i + j) (atI l j) = true) → nodesI len i l = true
  | [], _, _ => rfl
  | x :: l, i, h => by
    simp only [nodesI, zA]
    have h0 := h 0 (by simp)
    have e0 : atI (x :: l) ((0 : Nat) : Int) = x := rfl
    rw [e0] at h0
    refine ⟨by simpa using h0, wx3 len l (i + 1) fun j hj => ?_⟩
    have := h (j + 1) (by simpa using hj)
    have e : atI (x :: l) ((j + 1 : Nat) : Int) = atI l (j : Int) := by unfold atI; rw [z2u, z2u]; rfl
    rw [e] at this
    rw [show i + 1 + (j : Int) = i + ((j + 1 : Nat) : Int) by omega]; exact this
theorem vi8 {tree : List GNode} (F : RdrFacts tree) : rdrB tree = true := by
  have h2 := w30 (fun j => cntL j tree) tree.length 0
  rw [← List.range_eq_range'] at h2
  simp only [rdrB, zA, zE]
  refine ⟨wx3 _ _ _ fun j hj => ?_, ?_, by have := F.len; omega⟩
  · rw [Int.zero_add]; exact F.node j (by omega) (by omega)
  · exact h2.2 fun j h0 h1 h3 => F.ones j (by omega) (by omega)
theorem v30 {tree : List GNode} (F : RdrFacts tree) (data : List Int) : ∀ (k : Nat) (a b : Int), (0 ≤ a ∧ a < tree.length) → (tree.length : Int) - a ≤ k → nxt tree data (lastF (wayL tree data k a) b) = -1
  | 0, a, b, ha, hk => by omega
  | k + 1, a, b, ha, hk => by
    unfold wayL
    rw [if_neg (by omega)]
    show nxt tree data (lastF (wayL tree data k (nxt tree data a)) a) = -1
    have := wx4 F data ha.1 ha.2
    by_cases e : nxt tree data a = -1
    · have : wayL tree data k (nxt tree data a) = [] := by rw [e]; cases k <;> simp [wayL]
      rw [this]; exact e
    · exact v30 F data k _ a (by omega) (by omega)
theorem v2r (i : Int) (x : GNode) : ∀ (l : List GNode) (k : Nat), k < l.length → cntL i (l.set k x) = cntL i l - cnt1 (atI l (k : Int)) i + cnt1 x i
  | [], k, h => by simp at h
  | y :: l, 0, h => by
    have e0 : atI (y :: l) ((0 : Nat) : Int) = y := rfl
    rw [e0]; simp only [List.set_cons_zero, cntL]; omega
  | y :: l, k + 1, h => by
    have e : atI (y :: l) ((k + 1 : Nat) : Int) = atI l (k : Int) := by unfold atI; rw [z2u, z2u]; rfl
    have := v2r i x l k (by simpa using h)
    rw [e]; simp only [List.set_cons_succ, cntL]; omega
theorem wq2 (i : Int) : ∀ (l : List GNode), (∀ x ∈ l, x.yes ≠ i ∧ x.no ≠ i) → cntL i l = 0
  | [], _ => rfl
  | x :: l, h => by
    have h0 := h x (by simp)
    simp only [cntL, cnt1, wq2 i l (fun y hy => h y (by simp [hy])), if_neg h0.1, if_neg h0.2]; omega
theorem v9u {tree : List GNode} (F : RdrFacts tree) {x : GNode} (hx : x ∈ tree) : ∃ a : Int, 0 ≤ a ∧ a < tree.length ∧ nodeB tree.length a x = true := by
  obtain ⟨j, hj⟩ := List.mem_iff_getElem?.1 hx
  have hl : j < tree.length := by
    rcases Nat.lt_or_ge j tree.length with h | h
    · exact h
    · rw [List.getElem?_eq_none h] at hj; cases hj
  have := F.node j (by omega) (by omega)
  have e : atI tree (j : Int) = x := by unfold atI; rw [z2u, hj]; rfl
  rw [e] at this
  exact ⟨j, by omega, by omega, this⟩
theorem v38 {len i v : Int} (h : okN len i v = true) : okN (len + 1) i v = true := by
  simp only [okN, Bool.or_eq_true, zE, z0b] at h ⊢; omega
theorem wa1 {len i : Int} {x : GNode} (h : nodeB len i x = true) : nodeB (len + 1) i x = true := by
  simp only [nodeB, zA] at h ⊢
  exact ⟨h.1, h.2.1, v38 h.2.2.1, v38 h.2.2.2⟩
theorem v6y {len i : Int} (h : i < len) : okN (len + 1) i len = true := by
  simp only [okN, Bool.or_eq_true, zE, z0b]; omega
theorem v6t {len : Int} {data : List Int} {e : GAsk} {ans : Int} (he : expHolds e data = true) (ha : inB ans 0 2 = true) : nodeB (len + 1) len (newN e ans data) = true := by
  simp only [nodeB, newN, zA]
  exact ⟨he, ha, rfl, rfl⟩
theorem v9s {e : GAsk} {ans : Int} {data : List Int} {i : Int} (h : 0 ≤ i) : cnt1 (newN e ans data) i = 0 := by
  have h1 : ¬ (-1 : Int) = i := by omega
  simp [cnt1, newN, h1]
theorem ve0 {tree : List GNode} (F : RdrFacts tree) (h12 : tree.length ≠ 12) {L : Int} (hL : 0 ≤ L ∧ L < tree.length) {x : GNode} (hx : nodeB (tree.length + 1) L x = true) (hc0 : ∀ i : Int, 0 ≤ i → i < tree.length → cnt1 x i = cnt1 (atI tree L) i) (hc1 : cnt1 x tree.length = 1)
    {e : GAsk} {ans : Int} {data : List Int} (he : expHolds e data = true) (ha : inB ans 0 2 = true) : RdrFacts (tree.set L.toNat x ++ [newN e ans data]) := by
  have hl := F.len
  have hlen : (tree.set L.toNat x ++ [newN e ans data]).length = tree.length + 1 := by simp
  have hcast : (((tree.length + 1 : Nat)) : Int) = (tree.length : Int) + 1 := by omega
  have hsl : (tree.set L.toNat x).length = tree.length := by simp
  refine ⟨by omega, fun a h0 h1 => ?_, fun j h0 h1 => ?_⟩
  · rw [hlen, hcast] at *
    by_cases e1 : a = tree.length
    · subst e1
      have : atI (tree.set L.toNat x ++ [newN e ans data]) (tree.length : Int) = newN e ans data := by
        have := v56 (tree.set L.toNat x) (newN e ans data); rw [hsl] at this; exact this
      rw [this]; exact v6t he ha
    · rw [v8z _ _ (by rw [hsl]; omega), v57 _ _ hL.1 h0 (by omega)]
      split
      · rename_i e2; subst e2; exact hx
      · exact wa1 (F.node a h0 (by omega))
  · rw [hlen] at h1
    rw [w3r, v9s (by omega), v2r _ _ _ _ (by omega), show ((L.toNat : Nat) : Int) = L by omega]
    by_cases e1 : j = tree.length
    · subst e1
      have hz : cntL (tree.length : Int) tree = 0 := wq2 _ _ fun y hy => by
        obtain ⟨a, g0, g1, g2⟩ := v9u F hy
        have := yb0 g2; omega
      have hz1 : cnt1 (atI tree L) (tree.length : Int) = 0 := by
        have := yb0 (F.node L hL.1 hL.2)
        have h1 : ¬ (atI tree L).yes = tree.length := by omega
        have h2 : ¬ (atI tree L).no = tree.length := by omega
        simp only [cnt1, if_neg h1, if_neg h2]; rfl
      omega
    · have := F.ones j h0 (by omega)
      have := hc0 j (by omega) (by omega)
      omega
theorem v8t {tree : List GNode} {data : List Int} {e : GAsk} {ans : Int} (h : (addB tree data e ans).2 = true) : rdrB tree = true ∧ datOk data = true ∧ expHolds e data = true ∧ inB ans 0 2 = true ∧ tree.length ≠ 12 ∧ (addB tree data e ans).1 = putN tree data ++ [newN e ans data] := by
  unfold addB at h ⊢
  cases hh : addOk tree data e ans && !takenB tree data e
  · rw [hh] at h; cases h
  · rw [zA] at hh
    have h1 := hh.1
    simp only [addOk, zA, Bool.not_eq_true', decide_eq_false_iff_not] at h1
    exact ⟨h1.1, h1.2.1, h1.2.2.1, h1.2.2.2.1, by omega, rfl⟩
theorem ve7 {tree : List GNode} {data : List Int} {e : GAsk} {ans : Int} (h : ¬ (addB tree data e ans).2 = true) : (addB tree data e ans).1 = tree := by
  unfold addB at h ⊢
  cases hh : addOk tree data e ans && !takenB tree data e
  · rfl
  · rw [hh] at h; exact absurd rfl h
theorem ve8 {tree : List GNode} {data : List Int} {e : GAsk} {ans : Int} (ht : rdrB tree = true) : rdrB (addB tree data e ans).1 = true := by
  by_cases h : (addB tree data e ans).2 = true
  case neg => rw [ve7 h]; exact ht
  obtain ⟨h1, h2, h3, h4, h5, h6⟩ := v8t h
  rw [h6]
  have F := zc2 h1
  have hl := F.len
  refine vi8 ?_
  unfold putN
  split
  · rename_i h0
    have hn : tree = [] := List.length_eq_zero_iff.1 h0
    subst hn
    refine ⟨by simp, fun a g0 g1 => ?_, fun j g0 g1 => ?_⟩
    · have : a = 0 := by simp at g1; omega
      subst this
      have := v6t (len := 0) h3 h4
      exact this
    · simp at g1; omega
  · rename_i h0
    have hv := ya8 F data (by omega)
    have hn : nxt tree data (lastB tree data) = -1 := by
      unfold lastB wayB; rw [if_neg h0]; exact v30 F data 12 0 (-1) (by omega) (by omega)
    have hN := F.node _ hv.1 hv.2
    have hNx := yb0 hN
    have hM := wa1 hN
    simp only [nodeB, zA] at hM
    unfold nxt at hn
    have hho : holdI tree data (lastB tree data) = expHolds (atI tree (lastB tree data)).if_ data := rfl
    rw [hho]
    split
    · rename_i hh
      rw [if_pos hh] at hn
      refine ve0 F h5 hv ?_ (fun i g0 g1 => ?_) ?_ h3 h4
      · simp only [nodeB, zA]; exact ⟨hM.1, hM.2.1, v6y hv.2, hM.2.2.2⟩
      · have k1 : ¬ (tree.length : Int) = i := by omega
        have k2 : ¬ (-1 : Int) = i := by omega
        simp only [cnt1, hn, if_neg k1, if_neg k2]
      · have k2 : ¬ (atI tree (lastB tree data)).no = tree.length := by omega
        simp only [cnt1, if_true, if_neg k2]; rfl
    · rename_i hh
      rw [if_neg hh] at hn
      refine ve0 F h5 hv ?_ (fun i g0 g1 => ?_) ?_ h3 h4
      · simp only [nodeB, zA]; exact ⟨hM.1, hM.2.1, hM.2.2.1, v6y hv.2⟩
      · have k1 : ¬ (tree.length : Int) = i := by omega
        have k2 : ¬ (-1 : Int) = i := by omega
        simp only [cnt1, hn, if_neg k1, if_neg k2]
      · have k2 : ¬ (atI tree (lastB tree data)).yes = tree.length := by omega
        simp only [cnt1, if_true, if_neg k2]; rfl
structure HouseF (h : GHouse) : Prop where
  nets : netsB h.nets = true
  ppl : pplB h.people = true
  tree : rdrB h.tree = true
  many : h.runs.length ≤ 5
  runs : ∀ r ∈ h.runs, runB h.nets r = true
theorem zu9 {h : GHouse} : houseB h = true ↔ HouseF h := by
  simp only [houseB, zA, zV, Bool.not_eq_true', decide_eq_false_iff_not]
  constructor
  · rintro ⟨a, b, c, d, e⟩; exact ⟨a, b, c, by omega, e⟩
  · rintro ⟨a, b, c, d, e⟩; exact ⟨a, b, c, by omega, e⟩
theorem v6r {nets : List GNet} (h : netsB nets = true) {k : Int} (h0 : 0 ≤ k) (h1 : k < nets.length) : netB (atI nets k) = true := by
  simp only [netsB, zA, zV] at h
  exact h.2 _ (z21 nets h0 h1)
theorem wo0 {nets : List GNet} {r : GRun} : runB nets r = true ↔ (0 ≤ r.net ∧ r.net < nets.length) ∧ casB (atI nets r.net) r.case = true := by
  simp only [runB, zA, z0b]
  constructor
  · rintro ⟨a, b⟩; exact ⟨by omega, b⟩
  · rintro ⟨a, b⟩; exact ⟨by omega, b⟩
theorem vc5 {h : GHouse} {r : GReq} (hc : casB (atI h.nets (atI h.runs r.case).net) (atI h.runs r.case).case = true) : casB (atI h.nets (atI h.runs r.case).net) (turnB h r).1 = true := by
  unfold turnB
  split
  · exact v7v hc
  · split
    · exact vc7 hc
    · exact vc2 hc
theorem v7e {r : GReq} (h : reqB r = true) (hk : r.kind = 1) : datOk r.data = true := by
  simp only [reqB, zA] at h
  have := h.2.2.2.2.2.2.2.2.2
  rw [hk] at this; simpa using this
theorem v5i {h : GHouse} {r : GReq} (hb : houseB h = true) (hr : reqB r = true) : houseB (doB h r).1 = true := by
  have H := zu9.1 hb
  obtain ⟨a, b, c, d, e⟩ := H
  have c0 := zx2 hr
  unfold doB
  split
  · rename_i k1
    split
    · exact hb
    · have hone : 1 ≤ h.nets.length := by simp only [netsB, zA, z0b] at a; omega
      have hn : 0 ≤ netOf h r.data ∧ netOf h r.data < h.nets.length := by
        have := w9p h.tree r.data
        unfold netOf; split <;> omega
      refine zu9.2 ⟨a, b, c, ?_, fun y hy => ?_⟩
      · show (h.runs ++ [_]).length ≤ 5; rw [zL, zJ]; omega
      · have hy : y ∈ h.runs ++ [_] := hy
        rw [zP, List.mem_singleton] at hy
        rcases hy with hy | rfl
        · exact e y hy
        · exact wo0.2 ⟨hn, vh8 (v6r a hn.1 hn.2) (v7e hr k1)⟩
  · split
    · split
      · exact zu9.2 ⟨a, b, ve8 c, d, e⟩
      · exact hb
    · split
      · exact hb
      · rename_i hc
        unfold setRun
        split
        · have hm := z21 h.runs c0 (show r.case < h.runs.length by omega)
          have hr2 := wo0.1 (e _ hm)
          refine zu9.2 ⟨a, b, c, by show (h.runs.set _ _).length ≤ 5; rw [zS]; exact d, fun y hy => ?_⟩
          rcases List.mem_or_eq_of_mem_set hy with hy | rfl
          · exact e y hy
          · exact wo0.2 ⟨hr2.1, vc5 hr2.2⟩
        · exact hb
end Go.Am.Pl
end
section
namespace Go.Am.Pl
open Go
theorem v41 {data : List Int} (hd : data.length ≤ 4) (k n : Int) : Tot (z7l data k n) (fun v => v.length ≤ 4) := by
  unfold z7l
  have hs : ([] : List Int).length + data.length ≤ SMALL := by simp only [zN, SMALL]; omega
  have fin : Tot (gd (([] : List Int).length + data.length ≤ SMALL) (some (([] : List Int) ++ data))) (fun v => v.length ≤ 4) := Tot.gd hs (Tot.pure (by simpa using hd))
  refine Tot.bindE (z85 data (by unfold SMALL; omega)) (Tot.ite (fun c => ?_) (fun _ => fin))
  refine Tot.bindE (z2l _ _ _) (Tot.ite (fun c1 => ?_) (fun _ => fin))
  refine Tot.bindE (z2l _ _ _) (Tot.ite (fun c2 => ?_) (fun _ => fin))
  have hl : data.length = 3 := y1d c
  rw [z0b] at c1
  exact Tot.gd hs (Tot.getI (by omega) (by rw [List.nil_append]; omega) (fun x _ _ => Tot.pure (by rw [zS, List.nil_append]; omega)))
theorem v33 {data : List Int} {e : GAsk} (hd : data.length ≤ 4) : Tot (z9t data e) (fun v => v.length ≤ 4) := by
  unfold z9t
  refine Tot.bindE (y2d e) (Tot.ite (fun c => Tot.iteD (fun _ => Tot.pure hd) (fun c1 => ?_)) (fun _ => Tot.pure hd))
  have hb : (1 ≤ e.op ∧ e.op ≤ 3) ∧ (-99 ≤ e.k ∧ e.k ≤ 99) := by
    unfold expOk at c; rw [decide_eq_false c1] at c; simp only [cond_false, zA, z0b] at c; exact ⟨c.1.1, c.2⟩
  refine Tot.getI (by omega) (by simp only [zC, zN]; omega) (fun x hx _ => ?_)
  have hx : -1 ≤ x ∧ x ≤ 1 := by simp only [zM, List.not_mem_nil, or_false] at hx; omega
  exact Tot.gd (by constructor <;> omega) (Tot.bind (v41 hd _ _) (fun v hv => Tot.pure hv))
def TreeL (t : List GNode) : Prop := t.length ≤ 1048576 ∧ ∀ x ∈ t, GNode.lens (· ≤ 1048576) x
theorem TreeL.small {t : List GNode} (h : TreeL t) : treeSmall t := ⟨by have := h.1; unfold SMALL; omega, fun x hx => by have : x.stone.length ≤ 1048576 := h.2 x hx; unfold SMALL; omega⟩
theorem TreeL.nil : TreeL [] := ⟨Nat.zero_le _, fun x hx => by simp at hx⟩
theorem TreeL.set {t : List GNode} (h : TreeL t) {k : Nat} {x : GNode} (hx : x.stone.length ≤ 1048576) : TreeL (t.set k x) :=
  ⟨by rw [zS]; exact h.1, fun y hy => by
    rcases List.mem_or_eq_of_mem_set hy with hy | rfl
    · exact h.2 y hy
    · exact hx⟩
theorem v81 {K : Int} {b : List Int} {p n : Int} {t : List GNode} (h : Rd K (GRd.mk b p)) (hK : K ≤ 850000000) (ht : TreeL t) : Tot (z3o n b p t) (fun v => TreeL v.1 ∧ Rd (K + 30) v.2) := by
  unfold z3o
  have hend : ∀ {r : GRd}, Rd (K + 30) r → Tot (some (t, r)) (fun v => TreeL v.1 ∧ Rd (K + 30) v.2) := fun hr => Tot.pure ⟨ht, hr⟩
  refine Tot.bind2 (z0i h (by omega)) ?_
  intro a b h; dsimp only at h; obtain ⟨⟨_, _⟩, _⟩ := h; try dsimp only
  refine Tot.iteD (fun _ => hend (Rd.mono (by assumption) (by omega))) (fun _ => Tot.iteD (fun _ => hend (Rd.mono (by assumption) (by omega))) (fun hz => ?_))
  refine Tot.bind2 (z0i (by assumption) (by omega)) ?_
  intro i b2 h; dsimp only at h; obtain ⟨⟨hi0, hi1⟩, _⟩ := h; try dsimp only
  refine Tot.bind2 (z0i (by assumption) (by omega)) ?_
  intro a b3 h; dsimp only at h; obtain ⟨⟨_, _⟩, _⟩ := h; try dsimp only
  repeat' first
    | exact Tot.pure ⟨TreeL.set ht (by dsimp only; first | assumption | omega), Rd.mono (by assumption) (by omega)⟩
    | (refine Tot.bind2 (y3d (by assumption) (by omega)) ?_; intro a b h; dsimp only at h; obtain ⟨_, _⟩ := h; try dsimp only)
    | (refine Tot.bind2 (wb3 (by assumption) (by omega)) ?_; intro a b h; dsimp only at h; try dsimp only)
    | (refine Tot.bind2 (z0i (by assumption) (by omega)) ?_; intro a b h; dsimp only at h; obtain ⟨⟨_, _⟩, _⟩ := h; try dsimp only)
    | (refine Tot.getI (l := t) (by omega) (by omega) ?_; intro x hx hg; have hst : x.stone.length ≤ 1048576 := ht.2 x hx)
    | (refine Tot.getI (by omega) (by simp only [zC, zN]; omega) ?_; intro x hx hg)
    | (refine Tot.iteD (fun _ => ?_) (fun _ => ?_))
theorem vc4 {K : Int} {r : GRd} {n : Int} (h : Rd K r) (hK : K ≤ 800000000) : Tot (zm2 r n) (fun v => TreeL v.1 ∧ Rd (K + 400) v.2) := by
  unfold zm2
  refine Tot.bind2 (z0i h (by omega)) ?_
  intro k0 r0 h1
  dsimp only at h1
  obtain ⟨⟨a0, a1⟩, hb⟩ := h1
  dsimp only
  have key := Tot.loopF (Q := fun v : List GNode × GRd => TreeL v.1 ∧ Rd (K + 400) v.2) (fun s : List Int × Int × Int × List GNode => Rd (K + 1 + 50 * (7 - s.2.2.1)) (GRd.mk s.1 s.2.1) ∧ 0 ≤ s.2.2.1 ∧ s.2.2.1 ≤ 7 ∧ TreeL s.2.2.2) (fun s => s.2.2.1.toNat)
    (fun f s => z15 (z3o n) f s.1 s.2.1 s.2.2.1 s.2.2.2) (fun f s hi ih => ?_) (r0.b, r0.p, k0, []) (by dsimp only; omega) ⟨by dsimp only; exact hb.eta.mono (by omega), by dsimp only; omega, by dsimp only; omega, TreeL.nil⟩
  · exact key
  obtain ⟨b0, p0, i, l⟩ := s
  obtain ⟨h1, h2, h3, h4⟩ := hi
  dsimp only at h1 h2 h3 h4 ⊢
  have ih' : ∀ b q l', Rd (K + 1 + 50 * (7 - (i - 1))) (GRd.mk b q) → 1 ≤ i → TreeL l' → Tot (z15 (z3o n) f b q (i - 1) l') (fun v => TreeL v.1 ∧ Rd (K + 400) v.2) :=
    fun b q l' g1 g2 g3 => ih (b, q, i - 1, l') ⟨g1, by dsimp only; omega, by dsimp only; omega, g3⟩ (by dsimp only; omega)
  rw [z15]
  refine Tot.iteD (fun c => ?_) (fun c => (v81 h1 (by omega) h4).mono fun v hv => ⟨hv.1, hv.2.mono (by omega)⟩)
  have add : ∀ (d : List Int) (e : GAsk) (a : Int) (b : List Int) (q : Int), d.length ≤ 4 → Rd (K + 1 + 50 * (7 - (i - 1))) (GRd.mk b q) →
      Tot ((z7m l d e a).bind fun x => if x.2 = true then gd (ok64 (i - 1)) (z15 (z3o n) f b q (i - 1) x.1) else gd (ok64 (i - 1)) (z15 (z3o n) f b q (i - 1) l)) (fun v => TreeL v.1 ∧ Rd (K + 400) v.2) := fun d e a b q hd hr => by
    refine Tot.bindE (w6c l d e a h4.small (by unfold SMALL; omega)) ?_
    exact Tot.ite (fun _ => Tot.gd (by constructor <;> omega) (ih' _ _ _ hr (by omega) (wp1 h4.1 h4.2))) (fun _ => Tot.gd (by constructor <;> omega) (ih' _ _ _ hr (by omega) h4))
  refine Tot.bind2 (y3d h1 (by omega)) ?_
  intro d r1 hh; dsimp only at hh; obtain ⟨hd, hr1⟩ := hh; dsimp only
  refine Tot.bind2 (wb3 hr1 (by omega)) ?_
  intro e r2 hr2; dsimp only at hr2; dsimp only
  refine Tot.bindE (z53 e d (by unfold SMALL; omega)) (Tot.ite (fun _ => ?_) (fun _ => ?_))
  · refine Tot.bind2 (z0i hr2 (by omega)) ?_
    intro a r3 hh; dsimp only at hh; obtain ⟨⟨_, _⟩, hr3⟩ := hh; dsimp only
    exact add _ _ _ _ _ hd (Rd.eta (hr3.mono (by omega)))
  · refine Tot.bind (v33 hd) (fun d2 hd2 => ?_)
    refine Tot.bind2 (z0i hr2 (by omega)) ?_
    intro a r3 hh; dsimp only at hh; obtain ⟨⟨_, _⟩, hr3⟩ := hh; dsimp only
    exact add _ _ _ _ _ hd2 (Rd.eta (hr3.mono (by omega)))
def HG (h : GHouse) : Prop := (HInv h ∧ houseB h = true) ∨ h = noHouse
theorem v7f {K : Int} {r : GRd} {h : GHouse} (hr : Rd K r) (hK : K ≤ 800000000) (H : HG h) : Tot (zg4 r h) (fun v => v.1.data.length ≤ 4 ∧ Rd (K + 60) v.2.1 ∧ v.2.2 = h) := by
  unfold zg4
  refine Tot.iteD (fun _ => ?_) (fun hz => ?_)
  · refine Tot.bind2 (y3d hr (by omega)) ?_
    intro d r1 hh; dsimp only at hh; obtain ⟨hd, hr1⟩ := hh; dsimp only
    exact Tot.pure ⟨hd, ⟨hr1.mono (by omega), rfl⟩⟩
  obtain ⟨Hi, Hb⟩ : HInv h ∧ houseB h = true := H.resolve_right (fun e => hz (by rw [e]; rfl))
  have hsm := Hi.small
  repeat' first
    | (refine Tot.bind2 (z0i (by assumption) (by omega)) ?_; intro a b h; dsimp only at h; obtain ⟨⟨_, _⟩, _⟩ := h; try dsimp only)
    | (refine Tot.bind2 (y3d (by assumption) (by omega)) ?_; intro a b h; dsimp only at h; obtain ⟨_, _⟩ := h; try dsimp only)
    | (refine Tot.bind2 (wb3 (by assumption) (by omega)) ?_; intro a b h; dsimp only at h; try dsimp only)
    | (refine Tot.bind (v33 (by assumption)) (fun d hd => ?_))
    | (refine Tot.gd (by constructor <;> omega) ?_)
    | (refine Tot.getI (l := h.runs) (by omega) (by omega) ?_; intro x hx hg; have hnet := Hi.net x hx; have hcs := hsm.2.2.2.2 x hx; have hcm := hcs.1; have hcb := hcs.2.1)
    | (refine Tot.getI (l := h.nets) (by omega) (by omega) ?_; intro x hx hg; have hns := hsm.1.2 x hx)
    | (refine Tot.bindE (yt3 _ _ _ (by assumption) (by assumption) (by assumption)) ?_; generalize tasksB _ _ _ = ts)
    | (refine Tot.getI (by omega) (by omega) ?_; intro x hx hg)
    | (refine Tot.iteD (fun _ => ?_) (fun _ => ?_))
    | exact Tot.pure ⟨by first | assumption | (dsimp only; assumption) | exact Nat.zero_le _, ⟨Rd.mono (by assumption) (by omega), rfl⟩⟩
theorem ve9 {K : Int} {r : GRd} {h : GHouse} {n : Int} (hr : Rd K r) (hK : K ≤ 700000000) (H : HG h) : Tot (za5 r h n) (fun v => v.1.data.length ≤ 4 ∧ Rd (K + 100) v.2.1 ∧ v.2.2 = h) := by
  unfold za5
  refine Tot.bind (v7f hr (by omega) H) ?_
  rintro ⟨q, r1, h1⟩ ⟨hq, hr1, e⟩
  dsimp only at hq hr1 e ⊢
  subst e
  repeat' first
    | (refine Tot.bind2 (z0i (by assumption) (by omega)) ?_; intro a b h; dsimp only at h; obtain ⟨⟨_, _⟩, _⟩ := h; try dsimp only)
    | (refine Tot.bind2 (y3d (by assumption) (by omega)) ?_; intro a b h; dsimp only at h; obtain ⟨_, _⟩ := h; try dsimp only)
    | (refine Tot.getI (by omega) (by simp only [zC, zN]; omega) ?_; intro x hx hg)
    | (refine Tot.iteD (fun _ => ?_) (fun _ => ?_))
    | exact Tot.pure ⟨by first | assumption | (dsimp only; assumption), ⟨Rd.mono (by assumption) (by omega), rfl⟩⟩
theorem v6q {n : GNet} (h : netB n = true) : GNet.lens (· ≤ 1048576) n := by
  have T := v35 h
  refine ⟨by have := T.six; show n.tasks.length ≤ 1048576; omega, fun t ht => ?_⟩
  have U := T.task t ht
  exact ⟨by have := U.in_; show t.in_.length ≤ 1048576; omega, by have := U.out; show t.out.length ≤ 1048576; omega, by have := U.clear; show t.clear.length ≤ 1048576; omega⟩
theorem NetT.lens {n : GNet} (T : NetT n) : GNet.lens (· ≤ 1048576) n := by
  refine ⟨by have := T.six; show n.tasks.length ≤ 1048576; omega, fun t ht => ?_⟩
  have U := T.task t ht
  exact ⟨by have := U.in_; show t.in_.length ≤ 1048576; omega, by have := U.out; show t.out.length ≤ 1048576; omega, by have := U.clear; show t.clear.length ≤ 1048576; omega⟩
theorem CaseT.lens {c : GCase} (T : CaseT 62 c) : GCase.lens (· ≤ 1048576) c := by
  obtain ⟨a, b, d, e⟩ := T
  exact ⟨by show c.marks.length ≤ 1048576; omega, by show c.busy.length ≤ 1048576; omega, by show c.data.length ≤ 1048576; omega, by show c.did.length ≤ 1048576; omega⟩
theorem new_G {nets : List GNet} {p : List Int} (hn : ∀ n ∈ nets, netB n = true) (hl : nets.length ≤ 3) (hp : p.length ≤ 5) : HG (newB nets p) ∧ (newB nets p).runs = [] := by
  unfold newB
  cases e : netsB nets && pplB p
  · exact ⟨.inr rfl, rfl⟩
  · rw [zA] at e
    have hb : houseB (GHouse.mk nets p [] []) = true := zu9.2 ⟨e.1, e.2, vb0, Nat.zero_le _, fun r hr => by simp at hr⟩
    refine ⟨.inl ⟨y1v hb ⟨⟨by show nets.length ≤ 1048576; omega, fun n h => v6q (hn n h)⟩, by show p.length ≤ 1048576; omega, ⟨Nat.zero_le _, fun x hx => by simp at hx⟩, ⟨Nat.zero_le _, fun x hx => by simp at hx⟩⟩, hb⟩, rfl⟩
theorem v58 {K : Int} {r : GRd} (h : Rd K r) (hK : K ≤ 500000000) : Tot (zg1 r) (fun v => (HG v.1 ∧ v.1.runs = []) ∧ Rd (K + 900) v.2) := by
  unfold zg1
  refine Tot.bind2 (wk2 h (by omega)) ?_
  intro n0 r0 hh; dsimp only at hh; obtain ⟨hn0, hr0⟩ := hh; dsimp only
  refine Tot.bind2 (z0i hr0 (by omega)) ?_
  intro k0 r1 hh; dsimp only at hh; obtain ⟨⟨a0, a1⟩, hr1⟩ := hh; dsimp only
  have key := Tot.loopF (Q := fun v : GHouse × GRd => (HG v.1 ∧ v.1.runs = []) ∧ Rd (K + 900) v.2) (fun s : List Int × Int × Int × List GNet => Rd (K + 211 + 210 * (2 - s.2.2.1)) (GRd.mk s.1 s.2.1) ∧ 0 ≤ s.2.2.1 ∧ (s.2.2.2.length : Int) + s.2.2.1 ≤ 3 ∧ s.2.2.1 ≤ 2 ∧ ∀ n ∈ s.2.2.2, netB n = true) (fun s => s.2.2.1.toNat)
    (fun f s => z6d zg2 f s.1 s.2.1 s.2.2.1 s.2.2.2) (fun f s hi ih => ?_) (r1.b, r1.p, k0, [n0]) (by dsimp only; omega) ⟨by dsimp only; exact (Rd.eta hr1).mono (by omega), by dsimp only; omega, by dsimp only [zC, zN]; omega, by dsimp only; omega, fun n hn => by rw [List.mem_singleton.1 hn]; exact hn0⟩
  · exact key
  obtain ⟨b0, p0, i, l⟩ := s
  obtain ⟨h1, h2, h3, h4, h5⟩ := hi
  dsimp only at h1 h2 h3 h4 h5 ⊢
  rw [z6d]
  refine Tot.iteD (fun c => ?_) (fun c => ?_)
  · refine Tot.bind2 (wk2 h1 (by omega)) ?_
    intro n2 r2 hh; dsimp only at hh; obtain ⟨hn2, hr2⟩ := hh; dsimp only
    refine Tot.gd (by simp only [zC, zN, SMALL]; omega) (Tot.gd (by constructor <;> omega) (ih (r2.b, r2.p, i - 1, l ++ [n2]) ⟨(Rd.eta hr2).mono (by dsimp only; omega), by dsimp only; omega, by dsimp only; rw [zL, zJ]; omega, by dsimp only; omega, fun n hn => ?_⟩ (by dsimp only; omega)))
    rcases zP.1 hn with hn | hn
    · exact h5 n hn
    · rw [List.mem_singleton.1 hn]; exact hn2
  · unfold zg2
    refine Tot.bind2 (yb2 h1 (by omega)) ?_
    intro p r2 hh; dsimp only at hh; obtain ⟨hp, hr2⟩ := hh; dsimp only
    refine Tot.bindE (v24 l p ⟨by unfold SMALL; omega, fun n hn => (v35 (h5 n hn)).small⟩ (by unfold SMALL; omega)) (Tot.pure ⟨new_G h5 (by omega) hp, hr2.mono (by omega)⟩)
theorem do_G {h : GHouse} (Hi : HInv h) (Hb : houseB h = true) {q : GReq} (hq : reqB q = true) : HG (doB h q).1 := .inl ⟨(v10 Hi q (zx2 hq)).1, v5i Hb hq⟩
theorem wv3 {K : Int} {r : GRd} (h : Rd K r) (hK : K ≤ 400000000) : Tot (z8v r) (fun v => HG v.1 ∧ Rd (K + 4000) v.2) := by
  unfold z8v
  refine Tot.bind2 (v58 h (by omega)) ?_
  intro h0 r0 hh; dsimp only at hh; obtain ⟨⟨H0, _⟩, hr0⟩ := hh; dsimp only
  refine Tot.bind2 (z0i hr0 (by omega)) ?_
  intro k0 r1 hh; dsimp only at hh; obtain ⟨⟨a0, a1⟩, hr1⟩ := hh; dsimp only
  refine Tot.bind2 (z0i hr1 (by omega)) ?_
  intro k1 r2 hh; dsimp only at hh; obtain ⟨⟨a2, a3⟩, hr2⟩ := hh; dsimp only
  refine Tot.getI (by omega) (by simp only [zC, zN]; omega) (fun k hk _ => ?_)
  have hk : 0 ≤ k ∧ k ≤ 40 := by simp only [zM, List.not_mem_nil, or_false] at hk; omega
  have key := Tot.loopF (Q := fun v : GHouse × GRd => HG v.1 ∧ Rd (K + 4000) v.2) (fun s : List Int × Int × Int × GHouse => Rd (K + 902 + 61 * (40 - s.2.2.1)) (GRd.mk s.1 s.2.1) ∧ 0 ≤ s.2.2.1 ∧ s.2.2.1 ≤ 40 ∧ HG s.2.2.2) (fun s => s.2.2.1.toNat)
    (fun f s => z23 zg3 f s.1 s.2.1 s.2.2.1 s.2.2.2.people s.2.2.2.tree s.2.2.2.runs s.2.2.2.nets) (fun f s hi ih => ?_) (r2.b, r2.p, k, h0) (by dsimp only; omega) ⟨by dsimp only; exact (Rd.eta hr2).mono (by omega), by dsimp only; omega, by dsimp only; omega, H0⟩
  · exact key
  obtain ⟨b0, p0, i, d⟩ := s
  obtain ⟨h1, h2, h3, h4⟩ := hi
  dsimp only at h1 h2 h3 h4 ⊢
  have ih' : ∀ b q (d : GHouse), Rd (K + 902 + 61 * (40 - (i - 1))) (GRd.mk b q) → 1 ≤ i → HG d → Tot (gd (ok64 (i - 1)) (z23 zg3 f b q (i - 1) d.people d.tree d.runs d.nets)) (fun v => HG v.1 ∧ Rd (K + 4000) v.2) :=
    fun b q d g1 g2 g3 => Tot.gd (by constructor <;> omega) (ih (b, q, i - 1, d) ⟨g1, by dsimp only; omega, by dsimp only; omega, g3⟩ (by dsimp only; omega))
  rw [z23]
  refine Tot.iteD (fun c => ?_) (fun c => Tot.pure ⟨h4, h1.mono (by omega)⟩)
  refine Tot.bind (v7f h1 (by omega) (h := d) h4) ?_
  rintro ⟨q, r3, h5⟩ ⟨hq, hr3, e⟩
  dsimp only at hq hr3 e ⊢
  subst e
  refine Tot.iteD (fun c2 => ?_) (fun c2 => ih' _ _ _ (Rd.eta (hr3.mono (by omega))) (by omega) h4)
  obtain ⟨Hi, Hb⟩ : HInv h5 ∧ houseB h5 = true := h4.resolve_right (fun e => by rw [e] at c2; exact absurd c2 (by show ¬ (0 : Int) < ((([] : List GNet).length : Nat) : Int); simp))
  refine Tot.bindE (y4g q (by unfold SMALL; omega)) (Tot.ite (fun c3 => ?_) (fun c3 => ih' _ _ _ (Rd.eta (hr3.mono (by omega))) (by omega) h4))
  refine Tot.bindE (yg7 h5 Hi.small) (Tot.bindE (v7s Hi q (zx2 c3) (by unfold SMALL; omega)) ?_)
  exact ih' _ _ _ (Rd.eta (hr3.mono (by omega))) (by omega) (do_G Hi Hb c3)
theorem w0m : GHouse.lens (· ≤ 1048576) noHouse := ⟨⟨by simp [noHouse], fun y h => by simp [noHouse] at h⟩, by simp [noHouse], ⟨by simp [noHouse], fun y h => by simp [noHouse] at h⟩, ⟨by simp [noHouse], fun y h => by simp [noHouse] at h⟩⟩
theorem HG.lens {h : GHouse} (H : HG h) : GHouse.lens (· ≤ 1048576) h ∧ h.nets.length ≤ 3 ∧ h.runs.length ≤ 5 := by
  rcases H with ⟨Hi, Hb⟩ | rfl
  · have F := zu9.1 Hb
    have a := F.nets
    simp only [netsB, zA, z0b] at a
    exact ⟨Hi.lens, by omega, F.many⟩
  · exact ⟨w0m, by simp [noHouse], by simp [noHouse]⟩
theorem v8u {K : Int} {r : GRd} {n : Int} (h : Rd K r) (hK : K ≤ 200000000) : Tot (zt8 r n) (fun v => (GHouse.lens (· ≤ 1048576) v.1 ∧ v.1.runs.length ≤ 6) ∧ Rd (K + 6000) v.2) := by
  unfold zt8
  refine Tot.bind2 (wv3 h (by omega)) ?_
  intro h0 r0 hh; dsimp only at hh; obtain ⟨H0, hr0⟩ := hh; dsimp only
  obtain ⟨⟨⟨l1, l2⟩, l3, ⟨l4, l5⟩, l6, l7⟩, l8, l9⟩ := H0.lens
  refine Tot.bind2 (z0i hr0 (by omega)) ?_
  intro k0 r1 hh; dsimp only at hh; obtain ⟨⟨a0, a1⟩, hr1⟩ := hh; dsimp only
  refine Tot.iteD (fun c => Tot.pure ⟨⟨⟨⟨l1, l2⟩, l3, ⟨l4, l5⟩, l6, l7⟩, by dsimp only; omega⟩, hr1.mono (by omega)⟩) (fun c => ?_)
  refine Tot.bind2 (z0i hr1 (by omega)) ?_
  intro k1 r2 hh; dsimp only at hh; obtain ⟨⟨a2, a3⟩, hr2⟩ := hh; dsimp only
  refine Tot.iteD (fun c => ?_) (fun c => Tot.iteD (fun c => ?_) (fun c => Tot.iteD (fun c => ?_) (fun c => ?_)))
  · refine Tot.bind2 (w9n hr2 (by omega)) ?_
    intro n1 r3 hh; dsimp only at hh; obtain ⟨hn, hr3⟩ := hh; dsimp only
    refine Tot.gd (by simp only [zC, zN, SMALL]; omega) (Tot.pure ⟨⟨⟨⟨by show (h0.nets ++ [n1]).length ≤ 1048576; rw [zL, zJ]; omega, fun y hy => ?_⟩, l3, ⟨l4, l5⟩, l6, l7⟩, by dsimp only; omega⟩, hr3.mono (by omega)⟩)
    have hy : y ∈ h0.nets ++ [n1] := hy
    rcases zP.1 hy with hy | hy
    · exact l2 y hy
    · rw [List.mem_singleton.1 hy]; exact hn.lens
  · refine Tot.bind2 (yb2 hr2 (by omega)) ?_
    intro p r3 hh; dsimp only at hh; obtain ⟨hp, hr3⟩ := hh; dsimp only
    exact Tot.pure ⟨⟨⟨⟨l1, l2⟩, by show p.length ≤ 1048576; omega, ⟨l4, l5⟩, l6, l7⟩, by dsimp only; omega⟩, hr3.mono (by omega)⟩
  · refine Tot.bind2 (vc4 hr2 (by omega)) ?_
    intro t r3 hh; dsimp only at hh; obtain ⟨ht, hr3⟩ := hh; dsimp only
    exact Tot.pure ⟨⟨⟨⟨l1, l2⟩, l3, ht, l6, l7⟩, by dsimp only; omega⟩, hr3.mono (by omega)⟩
  · refine Tot.bind (v97 hr2 (by omega)) ?_
    rintro ⟨x, p, c, r3⟩ ⟨hX, hp, hc, hr3⟩
    dsimp only at hX hp hc hr3 ⊢
    refine Tot.bind2 (z0i hr3 (by omega)) ?_
    intro k2 r4 hh; dsimp only at hh; obtain ⟨⟨a4, a5⟩, hr4⟩ := hh; dsimp only
    refine Tot.gd (by simp only [zC, zN, SMALL]; omega) (Tot.pure ⟨⟨⟨⟨l1, l2⟩, l3, ⟨l4, l5⟩, by show (h0.runs ++ [GRun.mk k2 c]).length ≤ 1048576; rw [zL, zJ]; omega, fun y hy => ?_⟩, by show (h0.runs ++ [GRun.mk k2 c]).length ≤ 6; rw [zL, zJ]; omega⟩, hr4.mono (by omega)⟩)
    have hy : y ∈ h0.runs ++ [GRun.mk k2 c] := hy
    rcases zP.1 hy with hy | hy
    · exact l7 y hy
    · rw [List.mem_singleton.1 hy]; exact hc.lens
def ReqsT (m : Int) (l : List GReq) : Prop := (l.length : Int) ≤ m ∧ ∀ q ∈ l, q.data.length ≤ 4
theorem ReqsT.small {m : Int} {l : List GReq} (h : ReqsT m l) (hm : m ≤ 1000) : l.length ≤ SMALL ∧ ∀ q ∈ l, q.data.length ≤ SMALL := ⟨by have := h.1; unfold SMALL; omega, fun q hq => by have := h.2 q hq; unfold SMALL; omega⟩
theorem drawEngDo (code : List Int) (hc : ∀ y ∈ code, 0 ≤ y ∧ y ≤ 255) : Tot (za3 code) (fun v => GHouse.lens (· ≤ 1048576) v.1 ∧ v.2.data.length ≤ 4) := by
  unfold za3
  refine Tot.bind (va5 code hc) fun r h => ?_
  refine Tot.bind2 (wv3 h (by omega)) ?_
  intro h0 r0 hh; dsimp only at hh; obtain ⟨H0, hr0⟩ := hh; dsimp only
  refine Tot.bind (ve9 hr0 (by omega) H0) ?_
  rintro ⟨q, r1, h1⟩ ⟨hq, hr1, e⟩
  dsimp only at hq hr1 e ⊢
  subst e
  refine Tot.bind2 (z0i hr1 (by omega)) ?_
  intro k1 r3 hh; dsimp only at hh; obtain ⟨⟨a2, a3⟩, hr3⟩ := hh; dsimp only
  exact Tot.iteD (fun _ => Tot.bind (v8u hr3 (by omega)) fun v hv => Tot.pure ⟨hv.1.1, hq⟩) (fun _ => Tot.pure ⟨H0.lens.1, hq⟩)
end Go.Am.Pl
end
section
namespace Go.Am.Pl
open Go
theorem yw8 {α : Type} [DecidableEq α] (a b : List α) (hs : a.length ≤ SMALL) (hl : a.length = b.length) (f : Nat → Int → Option Bool) (kx : Option Bool) (h0 : ∀ n, f (n + 1) (a.length : Int) = kx)
    (h1 : ∀ n i x y, x ∈ a → y ∈ b → getI a i = some x → getI b i = some y → i < (a.length : Int) → ok64 (i + 1) → f (n + 1) i = if x = y then f n (i + 1) else some false) : f FUEL 0 = if a = b then kx else some false := by
  have := scan0 a (by unfold SMALL at hs; omega) f (fun pre suf => if suf = b.drop pre.length then kx else some false) (fun n => by rw [h0, hl, List.drop_length]; simp)
    (fun n pre x suf e g c d ih => by
      have hlt : pre.length < b.length := by rw [← hl]; omega
      have hb : getI b (pre.length : Int) = some b[pre.length] := by rw [z2u, List.getElem?_eq_getElem hlt]
      rw [h1 n _ x b[pre.length] (by rw [e]; simp) (List.getElem_mem hlt) g hb c d, ih, List.drop_eq_getElem_cons hlt]
      have hl1 : (pre ++ [x]).length = pre.length + 1 := by simp
      rw [hl1]
      by_cases h : x = b[pre.length]
      · rw [if_pos h]
        by_cases h2 : suf = b.drop (pre.length + 1)
        · rw [if_pos h2, if_pos (by rw [h2, ← h])]
        · rw [if_neg h2, if_neg (fun h3 => h2 (List.cons.inj h3).2)]
      · rw [if_neg h, if_neg (fun h3 => h (List.cons.inj h3).1)])
  rw [this]; rfl
theorem v2x {α : Type} [DecidableEq α] {a b : List α} {X : Option Bool} (h : a.length = b.length → X = some (decide (a = b))) : (if decide ((a.length : Int) = (b.length : Int)) = true then X else some false) = some (decide (a = b)) := by
  by_cases hl : a.length = b.length
  · rw [if_pos (zT (by omega)), h hl]
  · rw [if_neg (by rw [zE]; omega), decide_eq_false (fun e => hl (by rw [e]))]
theorem wj3 {p : Prop} [Decidable p] : (if p then some true else some false) = some (decide p) := by by_cases h : p <;> simp [h]
theorem yw7 (a b : List Int) (hs : a.length ≤ SMALL) : z52 a b = some (decide (a = b)) := by
  unfold z52
  refine v2x fun hl => ?_
  rw [yw8 a b hs hl (z5n a b y58) (some true) (fun n => by rw [z5n, if_neg (by simp)]; rfl) (fun n i x y _ _ hx hy hi ho => by
    rw [z5n, if_pos (zT hi), hx, zB, hy, zB, z00 ho]; simp only [zE]), wj3]
theorem vg8 (a b : List GItem) (hs : a.length ≤ SMALL) : zt1 a b = some (decide (a = b)) := by
  unfold zt1
  refine v2x fun hl => ?_
  rw [yw8 a b hs hl (z5m a b y57) (some true) (fun n => by rw [z5m, if_neg (by simp)]; rfl) (fun n i x y _ _ hx hy hi ho => by
    rw [z5m, if_pos (zT hi), hx, zB, hy, zB, z00 ho]
    have e : ([x.task, x.who, x.did] = [y.task, y.who, y.did]) ↔ x = y := by cases x; cases y; simp
    simp only [zE, e]), wj3]
theorem vk6 (a b : List GDid) (hs : a.length ≤ SMALL) : zz5 a b = some (decide (a = b)) := by
  unfold zz5
  refine v2x fun hl => ?_
  rw [yw8 a b hs hl (z6w a b y88) (some true) (fun n => by rw [z6w, if_neg (by simp)]; rfl) (fun n i x y _ _ hx hy hi ho => by
    rw [z6w, if_pos (zT hi), hx, zB, hy, zB, z00 ho]
    have e : ([x.task, x.who] = [y.task, y.who]) ↔ x = y := by cases x; cases y; simp
    simp only [zE, e]), wj3]
theorem iteS {p : Prop} [Decidable p] {q : Prop} [Decidable q] : (if decide p = true then some (decide q) else some false) = some (decide (p ∧ q)) := by by_cases h : p <;> simp [h]
theorem v1a (a b : GCase) (hs : a.small) : z2h a b = some (decide (a = b)) := by
  obtain ⟨h1, h2, h3, h4⟩ := hs
  unfold z2h
  simp only [yw7 _ _ h1, vg8 _ _ h2, yw7 _ _ h3, vk6 _ _ h4, zB, iteS]
  congr 1
  refine decide_eq_decide.2 ?_
  cases a; cases b; simp
theorem gu_Ok : z5g = some true := by
  unfold z5g
  rw [zb3 _ (by simp [SMALL])]; rfl
end Go.Am.Pl
end
section
namespace Go.Am.Pl
open Go
theorem wj4 {p q : Prop} [Decidable p] [Decidable q] {A : Option Bool} (h : p ↔ q) : (if decide p = true then A else some false) = if q then A else some false := by
  by_cases hp : p
  · rw [if_pos (zT hp), if_pos (h.1 hp)]
  · rw [if_neg (by simpa using hp), if_neg (fun x => hp (h.2 x))]
theorem v1b {α : Type} [DecidableEq α] (a b : List α) (hs : a.length ≤ SMALL) (f : Nat → Int → Option Bool) (kx : Option Bool) (hk : kx = some true) (h0 : ∀ n, f (n + 1) (a.length : Int) = kx)
    (h1 : ∀ n i x y, x ∈ a → y ∈ b → getI a i = some x → getI b i = some y → i < (a.length : Int) → ok64 (i + 1) → f (n + 1) i = if x = y then f n (i + 1) else some false) :
    (if decide ((a.length : Int) = (b.length : Int)) = true then f FUEL 0 else some false) = some (decide (a = b)) :=
  v2x fun hl => by rw [yw8 a b hs hl f kx h0 h1, hk, wj3]
theorem vg9 (a b : GTask) (hs : a.small) : zt2 a b = some (decide (a = b)) := by
  obtain ⟨h1, h2, h3⟩ := hs
  unfold zt2
  rw [v1b a.out b.out h2 (z5o a b zo9) zo9 rfl (fun n => by rw [z5o, if_neg (by simp)]) (fun n i x y _ _ hx hy hi ho => by
    rw [z5o, if_pos (zT hi), hx, zB, hy, zB, z00 ho]
    refine wj4 ?_
    obtain ⟨xt, xa, xb, xc⟩ := x; obtain ⟨yt, ya, yb, yc⟩ := y
    simp)]
  simp only [yw7 _ _ h1, yw7 _ _ h3, zB, iteS]
  congr 1
  refine decide_eq_decide.2 ?_
  cases a; cases b; simp only [GTask.mk.injEq]
  constructor
  · rintro ⟨c1, c2, c3, c4, c5, c6, c7, c8, c9⟩; exact ⟨c1, c2, c3, c9, c4, c5, c6, c7, c8⟩
  · rintro ⟨c1, c2, c3, c9, c4, c5, c6, c7, c8⟩; exact ⟨c1, c2, c3, c4, c5, c6, c7, c8, c9⟩
theorem vk7 (a b : GNet) (hs : a.small) : zz6 a b = some (decide (a = b)) := by
  unfold zz6
  rw [v1b a.tasks b.tasks hs.1 (z6x a b zw5) zw5 rfl (fun n => by rw [z6x, if_neg (by simp)]) (fun n i x y hm _ hx hy hi ho => by
    rw [z6x, if_pos (zT hi), hx, zB, hy, zB, vg9 x y (hs.2 x hm), zB, z00 ho]
    exact wj4 Iff.rfl)]
  simp only [iteS]
  congr 1
  refine decide_eq_decide.2 ?_
  cases a; cases b; simp
theorem vh0 (a b : List GNode) (hs : treeSmall a) : zt3 a b = some (decide (a = b)) := by
  unfold zt3
  refine v1b a b hs.1 (z5p a b zp0) zp0 rfl (fun n => by rw [z5p, if_neg (by simp)]) (fun n i x y hm _ hx hy hi ho => ?_)
  rw [z5p, if_pos (zT hi)]
  simp only [hx, hy, zB, yw7 _ _ (hs.2 x hm), z00 ho]
  obtain ⟨⟨a1, a2, a3⟩, a4, a5, a6, a7⟩ := x; obtain ⟨⟨b1, b2, b3⟩, b4, b5, b6, b7⟩ := y
  by_cases e1 : a1 = b1 <;> by_cases e2 : a2 = b2 <;> by_cases e3 : a3 = b3 <;> by_cases e4 : a4 = b4 <;> by_cases e5 : a5 = b5 <;> by_cases e6 : a6 = b6 <;> by_cases e7 : a7 = b7 <;> simp [e1, e2, e3, e4, e5, e6, e7]
theorem v9e (a b : GHouse) (hs : houseSmall a) : z6j a b = some (decide (a = b)) := by
  obtain ⟨h1, h2, h3, h4, h5⟩ := hs
  unfold z6j
  have e1 : ∀ hl : a.runs.length = b.runs.length, zk7 a b = if a.runs = b.runs then some true else some false := fun hl => by
    unfold zk7
    refine yw8 a.runs b.runs h4 hl (z5a a b y20) (some true) (fun n => by rw [z5a, if_neg (by simp)]; rfl) (fun n i x y hm _ hx hy hi ho => ?_)
    rw [z5a, if_pos (zT hi)]
    simp only [hx, hy, zB, v1a _ _ (h5 x hm), z00 ho]
    obtain ⟨a1, a2⟩ := x; obtain ⟨b1, b2⟩ := y
    by_cases e1 : a1 = b1 <;> by_cases e2 : a2 = b2 <;> simp [e1, e2]
  have e2 : ∀ hl : a.nets.length = b.nets.length, ∀ kx : Option Bool, z3l a b kx FUEL 0 = if a.nets = b.nets then kx else some false := fun hl kx =>
    yw8 a.nets b.nets h1.1 hl (z3l a b kx) kx (fun n => by rw [z3l, if_neg (by simp)]) (fun n i x y hm _ hx hy hi ho => by
      rw [z3l, if_pos (zT hi), hx, zB, hy, zB, vk7 x y (h1.2 x hm), zB, z00 ho]
      exact wj4 Iff.rfl)
  by_cases hl : a.nets.length = b.nets.length
  case neg => rw [if_neg (by rw [zE]; omega), decide_eq_false (fun e => hl (by rw [e]))]
  rw [if_pos (zT (by omega)), yw7 _ _ h2, zB, vh0 _ _ h3, zB, e2 hl]
  by_cases hp : a.people = b.people
  case neg => rw [if_neg (by simpa using hp), decide_eq_false (fun e => hp (by rw [e]))]
  rw [if_pos (zT hp)]
  by_cases ht : a.tree = b.tree
  case neg => rw [if_neg (by simpa using ht), decide_eq_false (fun e => ht (by rw [e]))]
  rw [if_pos (zT ht)]
  by_cases hr : a.runs.length = b.runs.length
  case neg => rw [if_neg (by rw [zE]; omega), decide_eq_false (fun e => hr (by rw [e]))]
  rw [if_pos (zT (by omega)), e1 hr]
  obtain ⟨a1, a2, a3, a4⟩ := a; obtain ⟨b1, b2, b3, b4⟩ := b
  dsimp only at hp ht
  by_cases c1 : a1 = b1 <;> by_cases c2 : a4 = b4 <;> simp [c1, c2, hp, ht]
end Go.Am.Pl
end
section
namespace Go.Am.Pl
open Go
inductive WorkR (n : GNet) (c : GCase) (k : Int) (data : List Int) : GCase → Prop where
  | more (h : (atI c.busy k).did + 1 < (atI n.tasks (atI c.busy k).task).need) : WorkR n c k data (GCase.mk c.state c.marks (c.busy.set k.toNat (itD (atI c.busy k))) data c.did)
  | ends (h : ¬ (atI c.busy k).did + 1 < (atI n.tasks (atI c.busy k).task).need) (G : GiveF n c.marks (atI c.busy k).task data) (hp : 0 < atI (giveL n c.marks (atI n.tasks (atI c.busy k).task) data) 1) :
      WorkR n c k data (GCase.mk 2 (giveL n c.marks (atI n.tasks (atI c.busy k).task) data) [] data (c.did ++ [GDid.mk (atI c.busy k).task (atI c.busy k).who]))
  | goes (h : ¬ (atI c.busy k).did + 1 < (atI n.tasks (atI c.busy k).task).need) (G : GiveF n c.marks (atI c.busy k).task data) (hp : ¬ 0 < atI (giveL n c.marks (atI n.tasks (atI c.busy k).task) data) 1) :
      WorkR n c k data (GCase.mk c.state (giveL n c.marks (atI n.tasks (atI c.busy k).task) data) (c.busy.take k.toNat ++ c.busy.drop (k + 1).toNat) data (c.did ++ [GDid.mk (atI c.busy k).task (atI c.busy k).who]))
end Go.Am.Pl
end
section
namespace Go.Am.Pl
open Go
theorem v5j {h : GHouse} {r : GReq} (hl : GHouse.lens (· ≤ 1048576) h) : GHouse.lens (· ≤ 1048576) (engB h r).1 := by
  unfold engB
  cases e : houseB h && reqB r
  · exact w0m
  · rw [zA] at e
    exact (v10 (y1v e.1 hl) r (zx2 e.2)).1.lens
theorem v5k {h : GHouse} {q : GReq} : (houseB h = true ∧ reqB q = true ∧ engB h q = doB h q) ∨ (engB h q = (noHouse, 0) ∧ ¬ (houseB h = true ∧ reqB q = true)) := by
  unfold engB
  cases e : houseB h && reqB q
  · refine .inr ⟨rfl, fun c => ?_⟩
    rw [c.1, c.2] at e; cases e
  · rw [zA] at e
    exact .inl ⟨e.1, e.2, rfl⟩
end Go.Am.Pl
end
