/- Plain laws. Own work. -/
import Derived.Test.YtgolgnbgomhknaaLoP1
set_option maxRecDepth 100000
set_option maxHeartbeats 2000000
set_option linter.unusedVariables false
set_option linter.unusedSimpArgs false
section
namespace Go.Am.Pl
open Go
structure CaseT (m : Nat) (c : GCase) : Prop where
  marks : c.marks.length ≤ 10
  busy : c.busy.length ≤ 7
  data : c.data.length ≤ 4
  did : c.did.length ≤ m
theorem CaseT.small {c : GCase} {m : Nat} (h : CaseT m c) (hm : m ≤ 62) : c.small := by
  obtain ⟨a, b, d, e⟩ := h
  exact ⟨by unfold SMALL; omega, by unfold SMALL; omega, by unfold SMALL; omega, by unfold SMALL; omega⟩
theorem CaseT.bnd {c d : GCase} {m : Nat} (h : CaseT m c) (hm : 61 ≤ m) (b : Bnd c d) : CaseT m d := by
  obtain ⟨p, q, r, s⟩ := b
  obtain ⟨t, u, v, w⟩ := h
  exact ⟨by omega, by omega, by omega, by omega⟩
theorem w5h (code : List Int) (hc : ∀ y ∈ code, 0 ≤ y ∧ y ≤ 255) : Tot (z6j code) (fun r => Rd 0 r) := by
  unfold z6j
  refine Tot.iteD (fun c => Tot.gd ⟨by omega, by omega⟩ (Tot.pure ⟨fun y hy => hc y (List.mem_of_mem_take hy), by show (code.take _).length ≤ 2000; rw [List.length_take]; omega, Int.le_refl _, Int.le_refl _⟩)) (fun c => Tot.pure ⟨hc, by show code.length ≤ 2000; omega, Int.le_refl _, Int.le_refl _⟩)
end Go.Am.Pl
end
section
namespace Go.Am.Pl
open Go
theorem w0y {a b : List Int} (hl : a.length ≤ SMALL) (hab : a.length = b.length) (c : Option Bool) (f : Nat → Int → Option Bool) (h0 : ∀ n, f (n + 1) (a.length : Int) = c)
    (h1 : ∀ n i x y, getI a i = some x → getI b i = some y → i < (a.length : Int) → ok64 (i + 1) → f (n + 1) i = if decide (x = y) = true then f n (i + 1) else some false) :
    f FUEL 0 = if decide (a = b) = true then c else some false := by
  have := scan0 a (by unfold SMALL at hl; omega) f (fun pre suf => if decide (suf = b.drop pre.length) = true then c else some false)
    (fun n => by rw [h0, hab, List.drop_eq_nil_of_le (Nat.le_refl _)]; rfl)
    (fun n pre x suf ha hg hlt hok ih => by
      have hk : pre.length < b.length := by omega
      rw [h1 n _ x b[pre.length] hg (by rw [z34]; exact List.getElem?_eq_getElem hk) hlt hok, ih, List.drop_eq_getElem_cons hk, zL, zJ]
      by_cases hx : x = b[pre.length]
      · rw [if_pos (zT hx)]
        by_cases hs : suf = b.drop (pre.length + 1)
        · rw [if_pos (zT hs), if_pos (zT (by rw [← hx, ← hs]))]
        · rw [if_neg (by simpa using hs), if_neg (by simp only [zE]; intro h; exact hs (List.cons.inj h).2)]
      · rw [if_neg (by simpa using hx), if_neg (by simp only [zE]; intro h; exact hx (List.cons.inj h).1)])
  simpa using this
theorem w6k (a b : List Int) (hl : a.length ≤ SMALL) : y00 a b = some (decide (a = b)) := by
  unfold y00
  by_cases h : a.length = b.length
  · rw [if_pos (zT (by omega)), w0y hl h (some true) (z53 a b (a.length : Int) y20) (fun n => by rw [z53, if_neg (by simp)]; rfl)
      (fun n i x y ha hb hlt hok => by rw [z53, if_pos (zT hlt), ha, zB, hb, zB, z02 hok])]
    cases decide (a = b) <;> rfl
  · rw [if_neg (by simp only [zE]; omega)]
    exact congrArg some (decide_eq_false fun e => h (by rw [e])).symm
theorem w68 (a b : GAsk) : [a.op, a.var, a.k] = [b.op, b.var, b.k] ↔ a = b := by cases a; cases b; simp
theorem yr7 (a b : GReq) (hl : a.data.length ≤ SMALL) : z7s a b = some (decide (a = b)) := by
  unfold z7s
  have e : a.data.length = b.data.length → z1n a b (z2e a b) FUEL 0 = if decide (a.data = b.data) = true then z2e a b else some false := fun h =>
    w0y hl h _ (z1n a b (z2e a b)) (fun n => by rw [z1n, if_neg (by simp)])
      (fun n i x y ha hb hlt hok => by rw [z1n, if_pos (zT hlt), ha, zB, hb, zB, z02 hok])
  have e2 : (if decide ((a.data.length : Int) = (b.data.length : Int)) = true then z1n a b (z2e a b) FUEL 0 else some false) = if decide (a.data = b.data) = true then z2e a b else some false := by
    by_cases h : a.data.length = b.data.length
    · rw [if_pos (zT (by omega)), e h]
    · rw [if_neg (by simp only [zE]; omega), if_neg (by simp only [zE]; intro e; exact h (by rw [e]))]
  rw [e2]
  unfold z2e
  refine (z4i (z4i (z4i (z4i (z4i (z4i (z4i (z4i rfl)))))))).trans (congrArg some (decide_eq_decide.2 ?_))
  rw [w68]
  cases a; cases b; simp only [GReq.mk.injEq]
  constructor
  · rintro ⟨a, b, c, d, e, f, g, h, i⟩; exact ⟨b, c, d, e, f, g, a, h, i⟩
  · rintro ⟨b, c, d, e, f, g, a, h, i⟩; exact ⟨a, b, c, d, e, f, g, h, i⟩
theorem w1x (a b : GReq) (hl : a.data.length ≤ SMALL) : z37 a b = some (decide (a = b)) := by
  unfold z37
  rw [w6k _ _ hl]
  refine (z4i (z4i (z4i (z4i (z4i (z4i (z4i (z4i rfl)))))))).trans (congrArg some (decide_eq_decide.2 ?_))
  rw [w68]
  cases a; cases b; simp only [GReq.mk.injEq]
  constructor
  · rintro ⟨b, c, d, e, f, g, h, i, a⟩; exact ⟨b, c, d, e, f, g, a, h, i⟩
  · rintro ⟨b, c, d, e, f, g, a, h, i⟩; exact ⟨b, c, d, e, f, g, h, i, a⟩
theorem w4t {n a b : Int} : inB n a b = true ↔ a ≤ n ∧ n ≤ b := by simp [inB]
def formB (r : GReq) : GReq :=
  if r.kind = 1 then GReq.mk r.kind 0 0 0 0 0 r.data (GAsk.mk 0 0 0) 0 else if r.kind = 2 then GReq.mk r.kind r.who r.case r.task 0 0 [] (GAsk.mk 0 0 0) 0
  else if r.kind = 3 then GReq.mk r.kind 0 r.case r.task r.var r.num [] (GAsk.mk 0 0 0) 0 else if r.kind = 4 then GReq.mk r.kind 0 r.case 0 0 0 [] (GAsk.mk 0 0 0) 0
  else GReq.mk r.kind 0 0 0 0 0 r.data r.if_ r.ans
theorem w35 (r : GReq) (h : inB r.kind 1 5 = true) : z7q r = some (formB r) := by
  have := w4t.1 h
  unfold z7q formB
  by_cases h1 : r.kind = 1
  · simp [h1]
  by_cases h2 : r.kind = 2
  · simp [h1, h2]
  by_cases h3 : r.kind = 3
  · simp [h1, h2, h3]
  by_cases h4 : r.kind = 4
  · simp [h1, h2, h3, h4]
  · have h5 : r.kind = 5 := by omega
    simp [h5]
theorem yy7 (r : GReq) : z2r r = some (formB r) := by
  unfold z2r formB
  by_cases h1 : r.kind = 1
  · simp [h1]
  by_cases h2 : r.kind = 2
  · simp [h1, h2]
  by_cases h3 : r.kind = 3
  · simp [h1, h2, h3]
  by_cases h4 : r.kind = 4
  · simp [h1, h2, h3, h4]
  · simp [h1, h2, h3, h4]
def reqB (r : GReq) : Bool :=
  inB r.kind 1 5 && (decide (r = formB r) && (inB r.who 0 4 && (inB r.case 0 4 && (inB r.task 0 5 && (inB r.var (-1) 2 && (inB r.num (-99) 99 && (expOk r.if_ && (inB r.ans 0 2 && ((decide (r.kind = 1) || decide (r.kind = 5)) == datOk r.data)))))))))
theorem y0k (r : GReq) (hl : r.data.length ≤ SMALL) : z48 r = some (reqB r) := by
  unfold z48 reqB
  rw [z19, zB]
  by_cases h : inB r.kind 1 5 = true
  · rw [if_pos h, h, w35 r h, zB, yr7 _ _ hl]
    simp only [z19, zb4, z3x _ hl, zB]
    have e : (if decide (r.kind = 1) = true then some (true == datOk r.data) else some (decide (r.kind = 5) == datOk r.data)) = some ((decide (r.kind = 1) || decide (r.kind = 5)) == datOk r.data) := by
      by_cases h1 : r.kind = 1
      · simp [h1]
      · simp [h1]
    rw [e]
    simp only [iteB, Bool.true_and]
  · rw [if_neg h, zF.2 h]; rfl
theorem zz3 (r : GReq) (hl : r.data.length ≤ SMALL) : z46 r = some (reqB r) := by
  unfold z46 reqB
  simp only [yo5, zm0, z5g, yy6, yy5 _ hl, yy7, w1x _ _ hl, zB, iteB]
  by_cases h1 : r.kind = 1
  · rw [if_pos (zT h1)]
    simp only [h1, decide_true, Bool.true_or]
    rw [show (datOk r.data == true) = (true == datOk r.data) by cases datOk r.data <;> rfl]
    congr 1; ac_rfl
  · rw [if_neg (by simpa using h1)]
    simp only [h1, decide_false, Bool.false_or]
    rw [show (datOk r.data == decide (r.kind = 5)) = (decide (r.kind = 5) == datOk r.data) by cases datOk r.data <;> cases decide (r.kind = 5) <;> rfl]
    congr 1; ac_rfl
def logB (log : List GReq) : Bool := !decide (150 < (log.length : Int)) && log.all reqB
theorem w07 (log : List GReq) (hl : log.length ≤ SMALL) (hd : ∀ r ∈ log, r.data.length ≤ SMALL) : z8l log = some (logB log) := by
  unfold z8l logB
  have := scan0 log (by unfold SMALL at hl; omega) (z3k log zn0) (fun _ suf => some (suf.all reqB))
    (fun n => by rw [z3k, if_neg (by simp)]; rfl)
    (fun n pre x suf hl hg hlt hok ih => by
      rw [z3k, if_pos (zT hlt), hg, zB, y0k x (hd x (by rw [hl]; simp)), zB, z02 hok, ih, iteB, List.all_cons])
  rw [this, iteN]
theorem y16 (log : List GReq) (hl : log.length ≤ SMALL) (hd : ∀ r ∈ log, r.data.length ≤ SMALL) : z38 log = some (logB log) := by
  unfold z38 logB
  rw [y0q log hl _ (fun r => !reqB r) (fun r hr => by unfold z9d; rw [zz3 r (hd r hr)]; rfl), zB, y42, iteB]
  congr 2
  rw [Bool.eq_iff_iff]; simp
end Go.Am.Pl
end
section
namespace Go.Am.Pl
open Go
def noHouse : GHouse := GHouse.mk [] [] [] []
def setRun (h : GHouse) (k : Int) (r : GCase × Bool) : GHouse × Int :=
  if r.2 = true then (GHouse.mk h.nets h.people h.tree (h.runs.set k.toNat (GRun.mk (atI h.runs k).net r.1)), 1) else (h, 3)
noncomputable def turnB (h : GHouse) (r : GReq) : GCase × Bool :=
  if r.kind = 2 then startB (atI h.nets (atI h.runs r.case).net) h.people (atI h.runs r.case).case r.task r.who
  else if r.kind = 3 then workB (atI h.nets (atI h.runs r.case).net) (atI h.runs r.case).case r.task r.var r.num
  else stopB (atI h.nets (atI h.runs r.case).net) (atI h.runs r.case).case
def netOf (h : GHouse) (data : List Int) : Int := if (h.nets.length : Int) ≤ askB h.tree data then 0 else askB h.tree data
noncomputable def doB (h : GHouse) (r : GReq) : GHouse × Int :=
  if r.kind = 1 then (if (h.runs.length : Int) = 5 then (h, 4) else (GHouse.mk h.nets h.people h.tree (h.runs ++ [GRun.mk (netOf h r.data) (newC (atI h.nets (netOf h r.data)) r.data)]), 1))
  else if r.kind = 5 then (if (addB h.tree r.data r.if_ r.ans).2 = true then (GHouse.mk h.nets h.people (addB h.tree r.data r.if_ r.ans).1 h.runs, 1) else (h, 3))
  else if (h.runs.length : Int) ≤ r.case then (h, 2) else setRun h r.case (turnB h r)
structure HInv (h : GHouse) : Prop where
  lens : GHouse.lens (· ≤ 1048576) h
  one : 1 ≤ h.nets.length
  net : ∀ r ∈ h.runs, 0 ≤ r.net ∧ r.net < h.nets.length
  many : h.runs.length ≤ 5
theorem HInv.small {h : GHouse} (H : HInv h) : houseSmall h := yq6 H.lens
theorem yy4 {h : GHouse} (hb : houseB h = true) (hl : GHouse.lens (· ≤ 1048576) h) : HInv h := by
  simp only [houseB, netsB, runB, zA, zV, z0a, Bool.not_eq_true', decide_eq_false_iff_not] at hb
  obtain ⟨⟨a, b⟩, c, d, e, f⟩ := hb
  exact ⟨hl, by omega, fun r hr => by have := (f r hr).1; omega, by omega⟩
theorem yv0 {h : GHouse} (H : HInv h) (data : List Int) : 0 ≤ netOf h data ∧ netOf h data < h.nets.length := by
  have := H.one
  have := y7y h.tree data
  unfold netOf; split <;> omega
theorem w3f {h : GHouse} (H : HInv h) {r : GReq} (h0 : 0 ≤ r.case) (h1 : r.case < h.runs.length) : (atI h.nets (atI h.runs r.case).net).small ∧ (atI h.runs r.case).case.small ∧ getI h.nets (atI h.runs r.case).net = some (atI h.nets (atI h.runs r.case).net) := by
  have hm := z3q h.runs h0 h1
  have hn := H.net _ hm
  have S := H.small
  exact ⟨S.1.2 _ (z3q h.nets hn.1 hn.2), S.2.2.2.2 _ hm, z1p h.nets hn.1 hn.2⟩
theorem w34 {h : GHouse} (H : HInv h) (r : GReq) (h0 : 0 ≤ r.case) : z7o h r = some (if (h.runs.length : Int) ≤ r.case then (h, 2) else setRun h r.case (turnB h r)) := by
  unfold z7o
  by_cases hc : (h.runs.length : Int) ≤ r.case
  · rw [if_pos (zT hc), if_pos hc]
  have hg := z1p h.runs h0 (show r.case < h.runs.length by omega)
  obtain ⟨sn, sc, hgn⟩ := w3f H h0 (show r.case < h.runs.length by omega)
  have hp := H.small.2.1
  rw [if_neg (by simpa using hc), if_neg hc, hg, zB, hgn, zB]
  unfold setRun turnB
  by_cases k2 : r.kind = 2
  · rw [if_pos (zT k2), if_pos k2, yc6 _ _ _ _ _ sn hp sc, zB, zB]
    split <;> rfl
  rw [if_neg (by simpa using k2), if_neg k2]
  by_cases k3 : r.kind = 3
  · rw [if_pos (zT k3), if_pos k3, ym1 _ _ _ _ _ sn sc, zB, zB]
    split <;> rfl
  rw [if_neg (by simpa using k3), if_neg k3, ym0 _ _ sn sc, zB, zB]
  split <;> rfl
theorem w7x {h : GHouse} (H : HInv h) (r : GReq) (h0 : 0 ≤ r.case) (hd : r.data.length ≤ SMALL) : ze4 h r = some (doB h r) := by
  have S := H.small
  unfold ze4 doB
  by_cases k1 : r.kind = 1
  · rw [if_pos (zT k1), if_pos k1]
    by_cases hf : (h.runs.length : Int) = 5
    · rw [if_pos (zT hf), if_pos hf]
    rw [if_neg (by simpa using hf), if_neg hf, yr3 _ _ S.2.2.1 hd, zB]
    have hn := yv0 H r.data
    have hg := z1p h.nets hn.1 hn.2
    have sn := S.1.2 _ (z3q h.nets hn.1 hn.2)
    have hl : ∀ y : GRun, h.runs.length + [y].length ≤ SMALL := fun y => by have := H.many; rw [zJ]; unfold SMALL; omega
    unfold netOf at hg sn ⊢
    by_cases hk : (h.nets.length : Int) ≤ askB h.tree r.data
    · rw [if_pos hk] at hg sn
      rw [if_pos (zT hk), if_pos hk, hg, zB, y5y _ _ sn hd, zB, z02 (hl _)]
    · rw [if_neg hk] at hg sn
      rw [if_neg (by simpa using hk), if_neg hk, hg, zB, y5y _ _ sn hd, zB, z02 (hl _)]
  rw [if_neg (by simpa using k1), if_neg k1]
  by_cases k5 : r.kind = 5
  · rw [if_pos (zT k5), if_pos k5, yr2 _ _ _ _ S.2.2.1 hd, zB]
    split <;> rfl
  · rw [if_neg (by simpa using k5), if_neg k5, w34 H r h0, zB]
theorem w39 (n : GNet) (c : GCase) : Bnd c (stopB n c).1 := by
  unfold stopB
  cases casB n c && decide (c.state = 1)
  · exact Bnd.refl c
  · exact ⟨Nat.le_refl _, .inl (Nat.zero_le _), Nat.le_refl _, .inl (Nat.le_refl _)⟩
theorem w3e (h : GHouse) (r : GReq) : Bnd (atI h.runs r.case).case (turnB h r).1 := by
  unfold turnB
  split
  · exact w0c _ _ _ _ _
  · split
    · exact w3i _ _ _ _ _
    · exact w39 _ _
theorem w27 (n : GNet) (data : List Int) : GCase.lens (· ≤ 1048576) (newC n data) := by
  unfold newC
  cases e : netB n && datOk data
  · exact ⟨Nat.zero_le _, Nat.zero_le _, Nat.zero_le _, Nat.zero_le _⟩
  · rw [zA] at e
    have h1 := z62 e.1
    have h2 := zk1 e.2
    exact ⟨by show ((List.replicate n.places.toNat (0 : Int)).set 0 1).length ≤ 1048576; simp; omega, Nat.zero_le _, by show data.length ≤ 1048576; omega, Nat.zero_le _⟩
theorem w0i {tree : List GNode} {data : List Int} {e : GAsk} {ans : Int} (hl : tree.length ≤ 1048576) (hs : ∀ x ∈ tree, GNode.lens (· ≤ 1048576) x) : (addB tree data e ans).1.length ≤ 1048576 ∧ ∀ x ∈ (addB tree data e ans).1, GNode.lens (· ≤ 1048576) x := by
  unfold addB
  cases h : addOk tree data e ans && !takenB tree data e
  · exact ⟨hl, hs⟩
  · rw [zA] at h
    have h1 := h.1
    unfold addOk at h1
    rw [zA, zA] at h1
    have F := zb2 h1.1
    have hd := zk1 h1.2.1
    have hlen := F.len
    refine ⟨?_, fun x hx => ?_⟩
    · show (putN tree data ++ [newN e ans data]).length ≤ _
      rw [zL, w5l, zJ]; omega
    · have hx : x ∈ putN tree data ++ [newN e ans data] := hx
      rw [zP, List.mem_singleton] at hx
      rcases hx with hx | rfl
      · unfold putN at hx
        split at hx
        · exact hs x hx
        · rename_i h0
          have hv := y3h F data (by omega)
          have hst := hs _ (z3q tree hv.1 hv.2)
          split at hx <;> rcases List.mem_or_eq_of_mem_set hx with hx | rfl
          · exact hs x hx
          · exact hst
          · exact hs x hx
          · exact hst
      · show data.length ≤ 1048576; omega
theorem w72 {h : GHouse} (H : HInv h) (r : GReq) (h0 : 0 ≤ r.case) : HInv (doB h r).1 ∧ (doB h r).1.nets = h.nets ∧ (doB h r).1.people = h.people := by
  obtain ⟨⟨⟨a, b⟩, c, ⟨d, e⟩, f, g⟩, one, net, many⟩ := H
  unfold doB
  split
  · split
    · exact ⟨⟨⟨⟨a, b⟩, c, ⟨d, e⟩, f, g⟩, one, net, many⟩, rfl, rfl⟩
    · refine ⟨⟨⟨⟨a, b⟩, c, ⟨d, e⟩, ?_, ?_⟩, one, ?_, ?_⟩, rfl, rfl⟩
      · show (h.runs ++ [_]).length ≤ 1048576; rw [zL, zJ]; omega
      · intro y hy
        have hy : y ∈ h.runs ++ [_] := hy
        rw [zP, List.mem_singleton] at hy
        rcases hy with hy | rfl
        · exact g y hy
        · exact w27 _ _
      · intro y hy
        have hy : y ∈ h.runs ++ [_] := hy
        rw [zP, List.mem_singleton] at hy
        rcases hy with hy | rfl
        · exact net y hy
        · exact yv0 ⟨⟨⟨a, b⟩, c, ⟨d, e⟩, f, g⟩, one, net, many⟩ _
      · show (h.runs ++ [_]).length ≤ 5; rw [zL, zJ]; omega
  · split
    · split
      · exact ⟨⟨⟨⟨a, b⟩, c, w0i d e, f, g⟩, one, net, many⟩, rfl, rfl⟩
      · exact ⟨⟨⟨⟨a, b⟩, c, ⟨d, e⟩, f, g⟩, one, net, many⟩, rfl, rfl⟩
    · split
      · exact ⟨⟨⟨⟨a, b⟩, c, ⟨d, e⟩, f, g⟩, one, net, many⟩, rfl, rfl⟩
      · rename_i hc
        unfold setRun
        split
        · have hm := z3q h.runs h0 (show r.case < h.runs.length by omega)
          refine ⟨⟨⟨⟨a, b⟩, c, ⟨d, e⟩, ?_, ?_⟩, one, ?_, ?_⟩, rfl, rfl⟩
          · show (h.runs.set _ _).length ≤ 1048576; rw [zS]; exact f
          · intro y hy
            rcases List.mem_or_eq_of_mem_set hy with hy | rfl
            · exact g y hy
            · exact (w3e h r).lens (g _ hm)
          · intro y hy
            rcases List.mem_or_eq_of_mem_set hy with hy | rfl
            · exact net y hy
            · have := net _ hm; exact this
          · show (h.runs.set _ _).length ≤ 5; rw [zS]; exact many
        · exact ⟨⟨⟨⟨a, b⟩, c, ⟨d, e⟩, f, g⟩, one, net, many⟩, rfl, rfl⟩
theorem y5p {r : GReq} (h : reqB r = true) : 0 ≤ r.case := by
  simp only [reqB, zA, z0a] at h
  exact h.2.2.2.1.1
end Go.Am.Pl
end
section
namespace Go.Am.Pl
open Go
structure LogOk' (log : List GReq) : Prop where
  len : log.length ≤ 150
  case : ∀ r ∈ log, 0 ≤ r.case
end Go.Am.Pl
end
section
namespace Go.Am.Pl
open Go
theorem w0p {α : Type} [Inhabited α] (l : List α) {v j : Int} (w : α) (hv : 0 ≤ v) (hj : 0 ≤ j) (hl : j < l.length) : atI (l.set v.toNat w) j = if v = j then w else atI l j := by
  unfold atI; rw [y3e l w hv hj hl]; split <;> rfl
theorem yx7 {α : Type} [Inhabited α] (l : List α) {v j : Int} (w : α) (hv : 0 ≤ v) (h : v ≠ j) : atI (l.set v.toNat w) j = atI l j := by
  unfold atI getI
  split
  · rw [List.getElem?_set_ne (by omega)]
  · rfl
theorem w4f {α : Type} [Inhabited α] (a b : List α) {j : Int} (h1 : j < a.length) : atI (a ++ b) j = atI a j := by
  unfold atI getI
  split
  · rw [List.getElem?_append_left (by omega)]
  · rfl
theorem w0o {α : Type} [Inhabited α] (a : List α) (x : α) : atI (a ++ [x]) (a.length : Int) = x := by
  unfold atI; rw [z34]; simp
theorem w6s {α : Type} [Inhabited α] (N : Nat) (x : α) {j : Int} (h0 : 0 ≤ j) (h1 : j < N) : atI (List.replicate N x) j = x := by
  unfold atI getI
  rw [if_pos h0, List.getElem?_replicate, if_pos (by omega)]; rfl
theorem z7a {n : GNet} {c : GCase} : casB n c = true ↔ mrkB n c.marks = true ∧ busyB n c.busy = true ∧ datOk c.data = true ∧ (c.did.length : Int) ≤ 60 ∧ (1 ≤ c.state ∧ c.state ≤ 3) ∧ c.did.all (didB n) = true ∧ stateB c = true := by
  simp only [casB, zA, z0a, Bool.not_eq_true', decide_eq_false_iff_not, Int.not_lt]
theorem yp0 {n : GNet} {m : List Int} (h1 : netB n = true) (h2 : (m.length : Int) = n.places) (h3 : okM m = true) : mrkB n m = true := by
  unfold mrkB marksB
  rw [h1, zT h2]; exact h3
theorem y0z (join : Int) : ∀ (ps l : List Int), (∀ p ∈ ps, 0 ≤ p ∧ p < l.length) → capM 4 l → capM 4 (takeL join ps l)
  | [], l, _, h => h
  | p :: ps, l, hp, h => by
    have h0 := hp p (by simp)
    unfold takeL
    split
    · split
      · exact y8i h (by assumption) h0.1 h0.2
      · exact y0z join ps _ (fun q hq => by rw [y8k]; exact hp q (by simp [hq])) (y8i h (by assumption) h0.1 h0.2)
    · exact y0z join ps l (fun q hq => hp q (by simp [hq])) h
theorem yd4 (join : Int) {q : Int} : ∀ (ps l : List Int), (∀ p ∈ ps, 0 ≤ p ∧ p ≠ q) → atI (takeL join ps l) q = atI l q
  | [], l, _ => rfl
  | p :: ps, l, hp => by
    have h0 := hp p (by simp)
    have hd : atI (dec l p) q = atI l q := yx7 _ _ h0.1 h0.2
    unfold takeL
    split
    · split
      · exact hd
      · rw [yd4 join ps _ (fun q hq => hp q (by simp [hq])), hd]
    · exact yd4 join ps l (fun q hq => hp q (by simp [hq]))
theorem w53 {n : GNet} (h : netB n = true) {t : GTask} (ht : t ∈ n.tasks) : ∀ p ∈ t.in_, p ≠ 1 := by
  simp only [netB, zA, zV] at h
  have := h.2.2 t ht
  simp only [taskB, zA, Bool.not_eq_true', List.any_eq_false, zE] at this
  exact this.2.2.2.1
structure StartF (n : GNet) (people : List Int) (c : GCase) (t who : Int) : Prop where
  cas : casB n c = true
  run : c.state = 1
  ena : enaB n c.marks c.busy t = true
  may : who ∈ mayB n people c.did c.busy t
  room : c.busy.length ≠ 6
theorem yr8 {n : GNet} {people : List Int} {c : GCase} {t who : Int} : startOk n people c t who = true ↔ StartF n people c t who := by
  unfold startOk
  simp only [zA, zE, List.any_eq_true, exists_eq_right, Bool.not_eq_true', decide_eq_false_iff_not]
  constructor
  · rintro ⟨a, b, d, e, f⟩; exact ⟨a, b, d, e, by omega⟩
  · rintro ⟨a, b, d, e, f⟩; exact ⟨a, b, d, e, by omega⟩
theorem w4z {n : GNet} {people : List Int} {did : List GDid} {busy : List GItem} {t who : Int} : who ∈ mayB n people did busy t ↔ netB n = true ∧ pplB people = true ∧ (0 ≤ t ∧ t < n.tasks.length) ∧ (1 ≤ who ∧ who ≤ people.length) ∧ mayW n people did busy t who = true := by
  unfold mayB
  cases e : netB n && (pplB people && inB t 0 ((n.tasks.length : Int) - 1))
  · constructor
    · intro h; simp at h
    · rintro ⟨a, b, d, _⟩
      rw [a, b, z0a.2 ⟨d.1, by omega⟩] at e; cases e
  · simp only [zA, z0a] at e
    show who ∈ (idxs people.length).filter _ ↔ _
    rw [List.mem_filter, w4s]
    constructor
    · rintro ⟨a, b⟩; exact ⟨e.1, e.2.1, by omega, a, b⟩
    · rintro ⟨_, _, _, a, b⟩; exact ⟨a, b⟩
theorem w4i {n : GNet} {people : List Int} {c : GCase} {t who : Int} (S : StartF n people c t who) : casB n (begun n c t who) = true := by
  obtain ⟨a1, a2, a3, a4, a5, a6, a7⟩ := z7a.1 S.cas
  obtain ⟨g1, g2, g3⟩ := yf0 S.ena
  obtain ⟨f1, f2, f3⟩ := z58 a1
  have hm := z3q n.tasks g3.1 g3.2
  have T := z6q f1 hm
  obtain ⟨_, hp, _, hw, _⟩ := w4z.1 S.may
  have hp4 := (y8c hp).1
  have hin : ∀ p ∈ (atI n.tasks t).in_, 0 ≤ p ∧ p < c.marks.length := fun p hp => by have := T.ins p hp; omega
  have F := z9m S.cas
  refine z7a.2 ⟨yp0 f1 (by show ((takeL _ _ c.marks).length : Int) = _; rw [y0m]; exact f2) (z85.2 (y0z _ _ _ hin (z85.1 f3))), ?_, a3, a4, a5, a6, ?_⟩
  · have hb := F.busyl
    have hr := S.room
    show busyB n (c.busy ++ [GItem.mk t who 0]) = true
    simp only [busyB, zA, zE] at a2 ⊢
    refine ⟨by rw [zL, zJ]; omega, ?_⟩
    rw [List.all_append, a2.2, Bool.true_and]
    simp only [List.all_cons, List.all_nil, Bool.and_true, itemB, zA, z0a]
    have := T.need
    exact ⟨by omega, by omega, by omega⟩
  · unfold stateB at a7 ⊢
    have e : (begun n c t who).state = 1 := S.run
    rw [S.run] at a7
    rw [e]
    simp only [decide_true, cond_true, zE] at a7 ⊢
    show atI (takeL _ _ c.marks) 1 = 0
    rw [yd4 _ _ _ (fun p hp => ⟨(hin p hp).1, w53 f1 hm p hp⟩)]; exact a7
theorem w37 {n : GNet} {people : List Int} {c : GCase} {t who : Int} (h : casB n c = true) : casB n (startB n people c t who).1 = true := by
  unfold startB
  cases e : startOk n people c t who
  · exact h
  · exact w4i (yr8.1 e)
structure WorkF (n : GNet) (c : GCase) (k v num : Int) : Prop where
  cas : casB n c = true
  run : c.state = 1
  k0 : 0 ≤ k
  k1 : k < c.busy.length
  v : -1 ≤ v ∧ v ≤ 2
  num : -99 ≤ num ∧ num ≤ 99
  room : c.did.length ≠ 60
theorem yn0 {n : GNet} {c : GCase} {k v num : Int} : (casB n c && (decide (c.state = 1) && (inB k 0 ((c.busy.length : Int) - 1) && (inB v (-1) 2 && (inB num (-99) 99 && !decide ((c.did.length : Int) = 60)))))) = true ↔ WorkF n c k v num := by
  simp only [zA, zE, z0a, Bool.not_eq_true', decide_eq_false_iff_not]
  constructor
  · rintro ⟨a, b, c, d, e, f⟩; exact ⟨a, b, c.1, by omega, d, e, by omega⟩
  · rintro ⟨a, b, c, d, e, f, g⟩; exact ⟨a, b, by omega, e, f, by omega⟩
theorem w3j {n : GNet} {c : GCase} {k v num : Int} (W : WorkF n c k v num) : workB n c k v num = doneB n c k (datB c.data v num) := by
  unfold workB; rw [yn0.2 W]; rfl
theorem w61 {n : GNet} {c : GCase} {k v num : Int} (W : ¬ WorkF n c k v num) : workB n c k v num = (c, false) := by
  unfold workB; rw [zF.2 (fun h => W (yn0.1 h))]; rfl
theorem w71 {data : List Int} {v num : Int} (h : datOk data = true) (hn : -99 ≤ num ∧ num ≤ 99) : datOk (datB data v num) = true := by
  unfold datB
  split
  · simp only [datOk, zA, zE, zV, z0a] at h ⊢
    refine ⟨by rw [zS]; exact h.1, fun x hx => ?_⟩
    rcases List.mem_or_eq_of_mem_set hx with hx | rfl
    · exact h.2 x hx
    · exact hn
  · exact h
structure GiveF (n : GNet) (m : List Int) (t : Int) (data : List Int) : Prop where
  mrk : mrkB n m = true
  t0 : 0 ≤ t
  t1 : t < n.tasks.length
  dat : datOk data = true
  ok : okM (giveL n m (atI n.tasks t) data) = true
theorem w1o {n : GNet} {m : List Int} {t : Int} {data : List Int} : (giveB n m t data).2 = true ↔ GiveF n m t data := by
  unfold giveB
  cases e : mrkB n m && (inB t 0 ((n.tasks.length : Int) - 1) && (datOk data && okM (giveL n m (atI n.tasks t) data)))
  · constructor
    · intro h; cases h
    · rintro ⟨a, b, c, d, f⟩
      rw [a, z0a.2 ⟨b, by omega⟩, d, f] at e; cases e
  · simp only [zA, z0a] at e
    exact ⟨fun _ => ⟨e.1, e.2.1.1, by omega, e.2.2.1, e.2.2.2⟩, fun _ => rfl⟩
theorem w1r {n : GNet} {m : List Int} {t : Int} {data : List Int} (G : GiveF n m t data) : giveB n m t data = (giveL n m (atI n.tasks t) data, true) := by
  unfold giveB; rw [G.mrk, z0a.2 (show 0 ≤ t ∧ t ≤ (n.tasks.length : Int) - 1 from ⟨G.t0, by have := G.t1; omega⟩), G.dat, G.ok]; rfl
theorem yh6 (n : GNet) (m : List Int) (t : GTask) (data : List Int) : (giveL n m t data).length = m.length := by unfold giveL; rw [y9p, y0p]
theorem w1s {n : GNet} {m : List Int} {t : Int} {data : List Int} (G : GiveF n m t data) : mrkB n (giveL n m (atI n.tasks t) data) = true := by
  obtain ⟨f1, f2, f3⟩ := z58 G.mrk
  exact yp0 f1 (by rw [yh6]; exact f2) G.ok
theorem w1y {n : GNet} {busy : List GItem} (h : busyB n busy = true) {k : Int} (h0 : 0 ≤ k) (h1 : k < busy.length) : itemB n (atI busy k) = true := by
  simp only [busyB, zA, zV] at h
  exact h.2 _ (z3q busy h0 h1)
theorem zx3 {n : GNet} {busy busy' : List GItem} (h : busyB n busy = true) (hl : busy'.length ≤ busy.length) (hm : ∀ b ∈ busy', itemB n b = true) : busyB n busy' = true := by
  simp only [busyB, zA, zE, zV] at h ⊢
  exact ⟨by omega, hm⟩
theorem w62 {n : GNet} {c : GCase} {k v num : Int} (h : casB n c = true) : casB n (workB n c k v num).1 = true := by
  by_cases W : WorkF n c k v num
  case neg => rw [w61 W]; exact h
  rw [w3j W]
  obtain ⟨a1, a2, a3, a4, a5, a6, a7⟩ := z7a.1 h
  have hd := w71 (v := v) a3 W.num
  have hit := w1y a2 W.k0 W.k1
  have hit2 := hit
  simp only [itemB, zA, z0a] at hit2
  have hst : atI c.marks 1 = 0 := by
    unfold stateB at a7; rw [W.run] at a7; simpa using a7
  have hb : ∀ b ∈ c.busy, itemB n b = true := by
    simp only [busyB, zA, zV] at a2; exact a2.2
  unfold doneB
  split
  · rename_i hlt
    refine z7a.2 ⟨a1, ?_, hd, a4, a5, a6, ?_⟩
    · refine zx3 a2 (by show (c.busy.set _ _).length ≤ _; simp) fun b hb' => ?_
      rcases List.mem_or_eq_of_mem_set hb' with hb' | rfl
      · exact hb b hb'
      · simp only [itD, itemB, zA, z0a]; omega
    · unfold stateB
      show (bif decide (c.state = 1) then decide (atI c.marks 1 = 0) else _) = true
      rw [W.run, hst]; rfl
  · split
    · rename_i hg
      have G := w1o.1 hg
      rw [w1r G]
      have hdl : ((c.did ++ [GDid.mk (atI c.busy k).task (atI c.busy k).who]).length : Int) ≤ 60 := by
        have := W.room; rw [zL, zJ]; omega
      have hda : (c.did ++ [GDid.mk (atI c.busy k).task (atI c.busy k).who]).all (didB n) = true := by
        rw [List.all_append, a6, Bool.true_and]
        simp only [List.all_cons, List.all_nil, Bool.and_true, didB, zA, z0a]; omega
      have hm := w1s G
      split
      · rename_i hpos
        refine z7a.2 ⟨hm, ?_, hd, hdl, by show (1 : Int) ≤ 2 ∧ (2 : Int) ≤ 3; omega, hda, ?_⟩
        · exact zx3 a2 (Nat.zero_le _) fun b hb' => by simp at hb'
        · unfold stateB
          show (bif decide ((2 : Int) = 1) then _ else decide ((([] : List GItem).length : Int) = 0) && (decide ((2 : Int) = 2) == decide (0 < atI _ 1))) = true
          rw [zT hpos]; rfl
      · rename_i hpos
        have h1 := z85.1 G.ok
        have hml := (z58 a1).2.1
        have hsz := z62 (z58 a1).1
        have hat := y43 h1 (p := 1) (by omega) (by rw [yh6]; omega)
        refine z7a.2 ⟨hm, ?_, hd, hdl, a5, hda, ?_⟩
        · refine zx3 a2 (by show (c.busy.take _ ++ c.busy.drop _).length ≤ _; rw [zL, List.length_take, List.length_drop]; have := W.k1; have := W.k0; omega) fun b hb' => ?_
          rcases zP.1 hb' with h | h
          · exact hb b (List.mem_of_mem_take h)
          · exact hb b (List.mem_of_mem_drop h)
        · unfold stateB
          show (bif decide (c.state = 1) then decide (atI (giveL n c.marks (atI n.tasks (atI c.busy k).task) (datB c.data v num)) 1 = 0) else _) = true
          rw [W.run, zT (show atI (giveL n c.marks (atI n.tasks (atI c.busy k).task) (datB c.data v num)) 1 = 0 by have hp : ¬ 0 < atI (giveL n c.marks (atI n.tasks (atI c.busy k).task) (datB c.data v num)) 1 := hpos; omega)]; rfl
    · exact h
theorem w5y {n : GNet} {c : GCase} (h : casB n c = true) : casB n (stopB n c).1 = true := by
  unfold stopB
  cases e : casB n c && decide (c.state = 1)
  · exact h
  · rw [zA, zE] at e
    obtain ⟨a1, a2, a3, a4, a5, a6, a7⟩ := z7a.1 h
    refine z7a.2 ⟨a1, zx3 a2 (Nat.zero_le _) (fun b hb => by simp at hb), a3, a4, by show (1 : Int) ≤ 3 ∧ (3 : Int) ≤ 3; omega, a6, ?_⟩
    unfold stateB at a7 ⊢
    rw [e.2] at a7
    have a7 : atI c.marks 1 = 0 := by simpa using a7
    show (bif decide ((3 : Int) = 1) then _ else decide ((([] : List GItem).length : Int) = 0) && (decide ((3 : Int) = 2) == decide (0 < atI c.marks 1))) = true
    rw [a7]; rfl
theorem w7f {n : GNet} {data : List Int} (hn : netB n = true) (hd : datOk data = true) : casB n (newC n data) = true := by
  have hsz := z62 hn
  unfold newC
  rw [hn, hd]
  have hl : (List.replicate n.places.toNat (0 : Int)).length = n.places.toNat := by simp
  refine z7a.2 ⟨yp0 hn (by show (((List.replicate n.places.toNat (0 : Int)).set 0 1).length : Int) = _; rw [zS, hl]; omega) (z85.2 fun x hx => ?_), ?_, hd, by show ((0 : Nat) : Int) ≤ 60; omega, by show (1 : Int) ≤ 1 ∧ (1 : Int) ≤ 3; omega, rfl, ?_⟩
  · rcases List.mem_or_eq_of_mem_set hx with hx | rfl
    · have := (List.mem_replicate.1 hx).2; omega
    · omega
  · rfl
  · show decide (atI ((List.replicate n.places.toNat (0 : Int)).set (0 : Int).toNat 1) 1 = 0) = true
    rw [w0p _ _ (by omega) (by omega) (by rw [hl]; omega), if_neg (by omega), w6s _ _ (by omega) (by omega)]; rfl
theorem yj0 (len : Int) : ∀ (l : List GNode) (i : Int), (∀ j : Nat, j < l.length → nodeB len (i + j) (atI l j) = true) → nodesI len i l = true
  | [], _, _ => rfl
  | x :: l, i, h => by
    simp only [nodesI, zA]
    have h0 := h 0 (by simp)
    have e0 : atI (x :: l) ((0 : Nat) : Int) = x := rfl
    rw [e0] at h0
    refine ⟨by simpa using h0, yj0 len l (i + 1) fun j hj => ?_⟩
    have := h (j + 1) (by simpa using hj)
    have e : atI (x :: l) ((j + 1 : Nat) : Int) = atI l (j : Int) := by unfold atI; rw [z34, z34]; rfl
    rw [e] at this
    rw [show i + 1 + (j : Int) = i + ((j + 1 : Nat) : Int) by omega]; exact this
theorem w7p {tree : List GNode} (F : RdrFacts tree) : rdrB tree = true := by
  have h2 := y3j (fun j => cntL j tree) tree.length 0
  rw [← List.range_eq_range'] at h2
  simp only [rdrB, zA, zE]
  refine ⟨yj0 _ _ _ fun j hj => ?_, ?_, by have := F.len; omega⟩
  · rw [Int.zero_add]; exact F.node j (by omega) (by omega)
  · exact h2.2 fun j h0 h1 h3 => F.ones j (by omega) (by omega)
theorem yu5 {tree : List GNode} (F : RdrFacts tree) (data : List Int) : ∀ (k : Nat) (a b : Int), (0 ≤ a ∧ a < tree.length) → (tree.length : Int) - a ≤ k → nxt tree data (lastF (wayL tree data k a) b) = -1
  | 0, a, b, ha, hk => by omega
  | k + 1, a, b, ha, hk => by
    unfold wayL
    rw [if_neg (by omega)]
    show nxt tree data (lastF (wayL tree data k (nxt tree data a)) a) = -1
    have := w29 F data ha.1 ha.2
    by_cases e : nxt tree data a = -1
    · have : wayL tree data k (nxt tree data a) = [] := by rw [e]; cases k <;> simp [wayL]
      rw [this]; exact e
    · exact yu5 F data k _ a (by omega) (by omega)
theorem yt5 (i : Int) (x : GNode) : ∀ (l : List GNode) (k : Nat), k < l.length → cntL i (l.set k x) = cntL i l - cnt1 (atI l (k : Int)) i + cnt1 x i
  | [], k, h => by simp at h
  | y :: l, 0, h => by
    have e0 : atI (y :: l) ((0 : Nat) : Int) = y := rfl
    rw [e0]; simp only [List.set_cons_zero, cntL]; omega
  | y :: l, k + 1, h => by
    have e : atI (y :: l) ((k + 1 : Nat) : Int) = atI l (k : Int) := by unfold atI; rw [z34, z34]; rfl
    have := yt5 i x l k (by simpa using h)
    rw [e]; simp only [List.set_cons_succ, cntL]; omega
theorem ye6 (i : Int) : ∀ (l : List GNode), (∀ x ∈ l, x.yes ≠ i ∧ x.no ≠ i) → cntL i l = 0
  | [], _ => rfl
  | x :: l, h => by
    have h0 := h x (by simp)
    simp only [cntL, cnt1, ye6 i l (fun y hy => h y (by simp [hy])), if_neg h0.1, if_neg h0.2]; omega
theorem w56 {tree : List GNode} (F : RdrFacts tree) {x : GNode} (hx : x ∈ tree) : ∃ a : Int, 0 ≤ a ∧ a < tree.length ∧ nodeB tree.length a x = true := by
  obtain ⟨j, hj⟩ := List.mem_iff_getElem?.1 hx
  have hl : j < tree.length := by
    rcases Nat.lt_or_ge j tree.length with h | h
    · exact h
    · rw [List.getElem?_eq_none h] at hj; cases hj
  have := F.node j (by omega) (by omega)
  have e : atI tree (j : Int) = x := by unfold atI; rw [z34, hj]; rfl
  rw [e] at this
  exact ⟨j, by omega, by omega, this⟩
theorem yv3 {len i v : Int} (h : okN len i v = true) : okN (len + 1) i v = true := by
  simp only [okN, Bool.or_eq_true, zE, z0a] at h ⊢; omega
theorem y88 {len i : Int} {x : GNode} (h : nodeB len i x = true) : nodeB (len + 1) i x = true := by
  simp only [nodeB, zA] at h ⊢
  exact ⟨h.1, h.2.1, yv3 h.2.2.1, yv3 h.2.2.2⟩
theorem w2d {len i : Int} (h : i < len) : okN (len + 1) i len = true := by
  simp only [okN, Bool.or_eq_true, zE, z0a]; omega
theorem w28 {len : Int} {data : List Int} {e : GAsk} {ans : Int} (he : expHolds e data = true) (ha : inB ans 0 2 = true) : nodeB (len + 1) len (newN e ans data) = true := by
  simp only [nodeB, newN, zA]
  exact ⟨he, ha, rfl, rfl⟩
theorem w54 {e : GAsk} {ans : Int} {data : List Int} {i : Int} (h : 0 ≤ i) : cnt1 (newN e ans data) i = 0 := by
  have h1 : ¬ (-1 : Int) = i := by omega
  simp [cnt1, newN, h1]
theorem w6g {tree : List GNode} (F : RdrFacts tree) (h12 : tree.length ≠ 12) {L : Int} (hL : 0 ≤ L ∧ L < tree.length) {x : GNode} (hx : nodeB (tree.length + 1) L x = true) (hc0 : ∀ i : Int, 0 ≤ i → i < tree.length → cnt1 x i = cnt1 (atI tree L) i) (hc1 : cnt1 x tree.length = 1)
    {e : GAsk} {ans : Int} {data : List Int} (he : expHolds e data = true) (ha : inB ans 0 2 = true) : RdrFacts (tree.set L.toNat x ++ [newN e ans data]) := by
  have hl := F.len
  have hlen : (tree.set L.toNat x ++ [newN e ans data]).length = tree.length + 1 := by simp
  have hcast : (((tree.length + 1 : Nat)) : Int) = (tree.length : Int) + 1 := by omega
  have hsl : (tree.set L.toNat x).length = tree.length := by simp
  refine ⟨by omega, fun a h0 h1 => ?_, fun j h0 h1 => ?_⟩
  · rw [hlen, hcast] at *
    by_cases e1 : a = tree.length
    · subst e1
      have : atI (tree.set L.toNat x ++ [newN e ans data]) (tree.length : Int) = newN e ans data := by
        have := w0o (tree.set L.toNat x) (newN e ans data); rw [hsl] at this; exact this
      rw [this]; exact w28 he ha
    · rw [w4f _ _ (by rw [hsl]; omega), w0p _ _ hL.1 h0 (by omega)]
      split
      · rename_i e2; subst e2; exact hx
      · exact y88 (F.node a h0 (by omega))
  · rw [hlen] at h1
    rw [ye7, w54 (by omega), yt5 _ _ _ _ (by omega), show ((L.toNat : Nat) : Int) = L by omega]
    by_cases e1 : j = tree.length
    · subst e1
      have hz : cntL (tree.length : Int) tree = 0 := ye6 _ _ fun y hy => by
        obtain ⟨a, g0, g1, g2⟩ := w56 F hy
        have := zr5 g2; omega
      have hz1 : cnt1 (atI tree L) (tree.length : Int) = 0 := by
        have := zr5 (F.node L hL.1 hL.2)
        have h1 : ¬ (atI tree L).yes = tree.length := by omega
        have h2 : ¬ (atI tree L).no = tree.length := by omega
        simp only [cnt1, if_neg h1, if_neg h2]; rfl
      omega
    · have := F.ones j h0 (by omega)
      have := hc0 j (by omega) (by omega)
      omega
theorem w49 {tree : List GNode} {data : List Int} {e : GAsk} {ans : Int} (h : (addB tree data e ans).2 = true) : rdrB tree = true ∧ datOk data = true ∧ expHolds e data = true ∧ inB ans 0 2 = true ∧ tree.length ≠ 12 ∧ (addB tree data e ans).1 = putN tree data ++ [newN e ans data] := by
  unfold addB at h ⊢
  cases hh : addOk tree data e ans && !takenB tree data e
  · rw [hh] at h; cases h
  · rw [zA] at hh
    have h1 := hh.1
    simp only [addOk, zA, Bool.not_eq_true', decide_eq_false_iff_not] at h1
    exact ⟨h1.1, h1.2.1, h1.2.2.1, h1.2.2.2.1, by omega, rfl⟩
theorem w6m {tree : List GNode} {data : List Int} {e : GAsk} {ans : Int} (h : ¬ (addB tree data e ans).2 = true) : (addB tree data e ans).1 = tree := by
  unfold addB at h ⊢
  cases hh : addOk tree data e ans && !takenB tree data e
  · rfl
  · rw [hh] at h; exact absurd rfl h
theorem w6n {tree : List GNode} {data : List Int} {e : GAsk} {ans : Int} (ht : rdrB tree = true) : rdrB (addB tree data e ans).1 = true := by
  by_cases h : (addB tree data e ans).2 = true
  case neg => rw [w6m h]; exact ht
  obtain ⟨h1, h2, h3, h4, h5, h6⟩ := w49 h
  rw [h6]
  have F := zb2 h1
  have hl := F.len
  refine w7p ?_
  unfold putN
  split
  · rename_i h0
    have hn : tree = [] := List.length_eq_zero_iff.1 h0
    subst hn
    refine ⟨by simp, fun a g0 g1 => ?_, fun j g0 g1 => ?_⟩
    · have : a = 0 := by simp at g1; omega
      subst this
      have := w28 (len := 0) h3 h4
      exact this
    · simp at g1; omega
  · rename_i h0
    have hv := y3h F data (by omega)
    have hn : nxt tree data (lastB tree data) = -1 := by
      unfold lastB wayB; rw [if_neg h0]; exact yu5 F data 12 0 (-1) (by omega) (by omega)
    have hN := F.node _ hv.1 hv.2
    have hNx := zr5 hN
    have hM := y88 hN
    simp only [nodeB, zA] at hM
    unfold nxt at hn
    have hho : holdI tree data (lastB tree data) = expHolds (atI tree (lastB tree data)).if_ data := rfl
    rw [hho]
    split
    · rename_i hh
      rw [if_pos hh] at hn
      refine w6g F h5 hv ?_ (fun i g0 g1 => ?_) ?_ h3 h4
      · simp only [nodeB, zA]; exact ⟨hM.1, hM.2.1, w2d hv.2, hM.2.2.2⟩
      · have k1 : ¬ (tree.length : Int) = i := by omega
        have k2 : ¬ (-1 : Int) = i := by omega
        simp only [cnt1, hn, if_neg k1, if_neg k2]
      · have k2 : ¬ (atI tree (lastB tree data)).no = tree.length := by omega
        simp only [cnt1, if_true, if_neg k2]; rfl
    · rename_i hh
      rw [if_neg hh] at hn
      refine w6g F h5 hv ?_ (fun i g0 g1 => ?_) ?_ h3 h4
      · simp only [nodeB, zA]; exact ⟨hM.1, hM.2.1, hM.2.2.1, w2d hv.2⟩
      · have k1 : ¬ (tree.length : Int) = i := by omega
        have k2 : ¬ (-1 : Int) = i := by omega
        simp only [cnt1, hn, if_neg k1, if_neg k2]
      · have k2 : ¬ (atI tree (lastB tree data)).yes = tree.length := by omega
        simp only [cnt1, if_true, if_neg k2]; rfl
structure HouseF (h : GHouse) : Prop where
  nets : netsB h.nets = true
  ppl : pplB h.people = true
  tree : rdrB h.tree = true
  many : h.runs.length ≤ 5
  runs : ∀ r ∈ h.runs, runB h.nets r = true
theorem z7w {h : GHouse} : houseB h = true ↔ HouseF h := by
  simp only [houseB, zA, zV, Bool.not_eq_true', decide_eq_false_iff_not]
  constructor
  · rintro ⟨a, b, c, d, e⟩; exact ⟨a, b, c, by omega, e⟩
  · rintro ⟨a, b, c, d, e⟩; exact ⟨a, b, c, by omega, e⟩
theorem w26 {nets : List GNet} (h : netsB nets = true) {k : Int} (h0 : 0 ≤ k) (h1 : k < nets.length) : netB (atI nets k) = true := by
  simp only [netsB, zA, zV] at h
  exact h.2 _ (z3q nets h0 h1)
theorem yc5 {nets : List GNet} {r : GRun} : runB nets r = true ↔ (0 ≤ r.net ∧ r.net < nets.length) ∧ casB (atI nets r.net) r.case = true := by
  simp only [runB, zA, z0a]
  constructor
  · rintro ⟨a, b⟩; exact ⟨by omega, b⟩
  · rintro ⟨a, b⟩; exact ⟨by omega, b⟩
theorem w60 {h : GHouse} {r : GReq} (hc : casB (atI h.nets (atI h.runs r.case).net) (atI h.runs r.case).case = true) : casB (atI h.nets (atI h.runs r.case).net) (turnB h r).1 = true := by
  unfold turnB
  split
  · exact w37 hc
  · split
    · exact w62 hc
    · exact w5y hc
theorem w2s {r : GReq} (h : reqB r = true) (hk : r.kind = 1) : datOk r.data = true := by
  simp only [reqB, zA] at h
  have := h.2.2.2.2.2.2.2.2.2
  rw [hk] at this; simpa using this
theorem w0x {h : GHouse} {r : GReq} (hb : houseB h = true) (hr : reqB r = true) : houseB (doB h r).1 = true := by
  have H := z7w.1 hb
  obtain ⟨a, b, c, d, e⟩ := H
  have c0 := y5p hr
  unfold doB
  split
  · rename_i k1
    split
    · exact hb
    · have hone : 1 ≤ h.nets.length := by simp only [netsB, zA, z0a] at a; omega
      have hn : 0 ≤ netOf h r.data ∧ netOf h r.data < h.nets.length := by
        have := y7y h.tree r.data
        unfold netOf; split <;> omega
      refine z7w.2 ⟨a, b, c, ?_, fun y hy => ?_⟩
      · show (h.runs ++ [_]).length ≤ 5; rw [zL, zJ]; omega
      · have hy : y ∈ h.runs ++ [_] := hy
        rw [zP, List.mem_singleton] at hy
        rcases hy with hy | rfl
        · exact e y hy
        · exact yc5.2 ⟨hn, w7f (w26 a hn.1 hn.2) (w2s hr k1)⟩
  · split
    · split
      · exact z7w.2 ⟨a, b, w6n c, d, e⟩
      · exact hb
    · split
      · exact hb
      · rename_i hc
        unfold setRun
        split
        · have hm := z3q h.runs c0 (show r.case < h.runs.length by omega)
          have hr2 := yc5.1 (e _ hm)
          refine z7w.2 ⟨a, b, c, by show (h.runs.set _ _).length ≤ 5; rw [zS]; exact d, fun y hy => ?_⟩
          rcases List.mem_or_eq_of_mem_set hy with hy | rfl
          · exact e y hy
          · exact yc5.2 ⟨hr2.1, w60 hr2.2⟩
        · exact hb
end Go.Am.Pl
end
section
namespace Go.Am.Pl
open Go
theorem yy3 {data : List Int} (hd : data.length ≤ 4) (k n : Int) : Tot (z3s data k n) (fun v => v.length ≤ 4) := by
  unfold z3s
  have hs : ([] : List Int).length + data.length ≤ SMALL := by simp only [zN, SMALL]; omega
  have fin : Tot (gd (([] : List Int).length + data.length ≤ SMALL) (some (([] : List Int) ++ data))) (fun v => v.length ≤ 4) := Tot.gd hs (Tot.pure (by simpa using hd))
  refine Tot.bindE (z3x data (by unfold SMALL; omega)) (Tot.ite (fun c => ?_) (fun _ => fin))
  refine Tot.bindE (z19 _ _ _) (Tot.ite (fun c1 => ?_) (fun _ => fin))
  refine Tot.bindE (z19 _ _ _) (Tot.ite (fun c2 => ?_) (fun _ => fin))
  have hl : data.length = 3 := zk1 c
  rw [z0a] at c1
  exact Tot.gd hs (Tot.getI (by omega) (by rw [List.nil_append]; omega) (fun x _ _ => Tot.pure (by rw [zS, List.nil_append]; omega)))
theorem w50 {data : List Int} {e : GAsk} (hd : data.length ≤ 4) : Tot (z6i data e) (fun v => v.length ≤ 4) := by
  unfold z6i
  refine Tot.bindE (zb4 e) (Tot.ite (fun c => Tot.iteD (fun _ => Tot.pure hd) (fun c1 => ?_)) (fun _ => Tot.pure hd))
  have hb : (1 ≤ e.op ∧ e.op ≤ 3) ∧ (-99 ≤ e.k ∧ e.k ≤ 99) := by
    unfold expOk at c; rw [decide_eq_false c1] at c; simp only [cond_false, zA, z0a] at c; exact ⟨c.1.1, c.2⟩
  refine Tot.getI (by omega) (by simp only [zC, zN]; omega) (fun x hx _ => ?_)
  have hx : -1 ≤ x ∧ x ≤ 1 := by simp only [zM, List.not_mem_nil, or_false] at hx; omega
  exact Tot.gd (by constructor <;> omega) (Tot.bind (yy3 hd _ _) (fun v hv => Tot.pure hv))
def TreeL (t : List GNode) : Prop := t.length ≤ 1048576 ∧ ∀ x ∈ t, GNode.lens (· ≤ 1048576) x
theorem TreeL.small {t : List GNode} (h : TreeL t) : treeSmall t := ⟨by have := h.1; unfold SMALL; omega, fun x hx => by have : x.stone.length ≤ 1048576 := h.2 x hx; unfold SMALL; omega⟩
theorem TreeL.nil : TreeL [] := ⟨Nat.zero_le _, fun x hx => by simp at hx⟩
theorem TreeL.set {t : List GNode} (h : TreeL t) {k : Nat} {x : GNode} (hx : x.stone.length ≤ 1048576) : TreeL (t.set k x) :=
  ⟨by rw [zS]; exact h.1, fun y hy => by
    rcases List.mem_or_eq_of_mem_set hy with hy | rfl
    · exact h.2 y hy
    · exact hx⟩
def HG (h : GHouse) : Prop := (HInv h ∧ houseB h = true) ∨ h = noHouse
theorem w5n {K : Int} {r : GRd} {h : GHouse} (hr : Rd K r) (hK : K ≤ 800000000) (H : HG h) : Tot (z6k r h) (fun v => v.1.data.length ≤ 4 ∧ Rd (K + 60) v.2) := by
  unfold z6k
  refine Tot.iteD (fun _ => ?_) (fun hz => ?_)
  · refine Tot.bind2 (y8j hr (by omega)) ?_
    intro d r1 hh; dsimp only at hh; obtain ⟨hd, hr1⟩ := hh; dsimp only
    exact Tot.pure ⟨hd, hr1.mono (by omega)⟩
  obtain ⟨Hi, Hb⟩ : HInv h ∧ houseB h = true := H.resolve_right (fun e => hz (by rw [e]; rfl))
  have hsm := Hi.small
  repeat' first
    | (refine Tot.bind2 (z3h (by assumption) (by omega)) ?_; intro a b h; dsimp only at h; obtain ⟨⟨_, _⟩, _⟩ := h; try dsimp only)
    | (refine Tot.bind2 (y8j (by assumption) (by omega)) ?_; intro a b h; dsimp only at h; obtain ⟨_, _⟩ := h; try dsimp only)
    | (refine Tot.bind2 (w6q (by assumption) (by omega)) ?_; intro a b h; dsimp only at h; try dsimp only)
    | (refine Tot.bind (w50 (by assumption)) (fun d hd => ?_))
    | (refine Tot.gd (by constructor <;> omega) ?_)
    | (refine Tot.getI (l := h.runs) (by omega) (by omega) ?_; intro x hx hg; have hnet := Hi.net x hx; have hcs := hsm.2.2.2.2 x hx; have hcm := hcs.1; have hcb := hcs.2.1)
    | (refine Tot.getI (l := h.nets) (by omega) (by omega) ?_; intro x hx hg; have hns := hsm.1.2 x hx)
    | (refine Tot.bindE (yc7 _ _ _ (by assumption) (by assumption) (by assumption)) ?_; generalize tasksB _ _ _ = ts)
    | (refine Tot.getI (by omega) (by omega) ?_; intro x hx hg)
    | (refine Tot.iteD (fun _ => ?_) (fun _ => ?_))
    | exact Tot.pure ⟨by first | assumption | (dsimp only; assumption) | exact Nat.zero_le _, Rd.mono (by assumption) (by omega)⟩
theorem w4a {K : Int} {r : GRd} {h : GHouse} {n : Int} (hr : Rd K r) (hK : K ≤ 700000000) (H : HG h) : Tot (z4h r h n) (fun v => v.1.data.length ≤ 4 ∧ Rd (K + 100) v.2) := by
  unfold z4h
  refine Tot.bind (w5n hr (by omega) H) ?_
  rintro ⟨q, r1⟩ ⟨hq, hr1⟩
  dsimp only at hq hr1 ⊢
  repeat' first
    | (refine Tot.bind2 (z3h (by assumption) (by omega)) ?_; intro a b h; dsimp only at h; obtain ⟨⟨_, _⟩, _⟩ := h; try dsimp only)
    | (refine Tot.bind2 (y8j (by assumption) (by omega)) ?_; intro a b h; dsimp only at h; obtain ⟨_, _⟩ := h; try dsimp only)
    | (refine Tot.getI (by omega) (by simp only [zC, zN]; omega) ?_; intro x hx hg)
    | (refine Tot.iteD (fun _ => ?_) (fun _ => ?_))
    | exact Tot.pure ⟨by first | assumption | (dsimp only; assumption), Rd.mono (by assumption) (by omega)⟩
theorem w23 {n : GNet} (h : netB n = true) : GNet.lens (· ≤ 1048576) n := by
  have T := w6e h
  refine ⟨by have := T.six; show n.tasks.length ≤ 1048576; omega, fun t ht => ?_⟩
  have U := T.task t ht
  exact ⟨by have := U.in_; show t.in_.length ≤ 1048576; omega, by have := U.out; show t.out.length ≤ 1048576; omega, by have := U.clear; show t.clear.length ≤ 1048576; omega⟩
theorem NetT.lens {n : GNet} (T : NetT n) : GNet.lens (· ≤ 1048576) n := by
  refine ⟨by have := T.six; show n.tasks.length ≤ 1048576; omega, fun t ht => ?_⟩
  have U := T.task t ht
  exact ⟨by have := U.in_; show t.in_.length ≤ 1048576; omega, by have := U.out; show t.out.length ≤ 1048576; omega, by have := U.clear; show t.clear.length ≤ 1048576; omega⟩
theorem CaseT.lens {c : GCase} (T : CaseT 62 c) : GCase.lens (· ≤ 1048576) c := by
  obtain ⟨a, b, d, e⟩ := T
  exact ⟨by show c.marks.length ≤ 1048576; omega, by show c.busy.length ≤ 1048576; omega, by show c.data.length ≤ 1048576; omega, by show c.did.length ≤ 1048576; omega⟩
theorem new_G {nets : List GNet} {p : List Int} (hn : ∀ n ∈ nets, netB n = true) (hl : nets.length ≤ 3) (hp : p.length ≤ 5) : HG (newB nets p) ∧ (newB nets p).runs = [] := by
  unfold newB
  cases e : netsB nets && pplB p
  · exact ⟨.inr rfl, rfl⟩
  · rw [zA] at e
    have hb : houseB (GHouse.mk nets p [] []) = true := z7w.2 ⟨e.1, e.2, w5m, Nat.zero_le _, fun r hr => by simp at hr⟩
    refine ⟨.inl ⟨yy4 hb ⟨⟨by show nets.length ≤ 1048576; omega, fun n h => w23 (hn n h)⟩, by show p.length ≤ 1048576; omega, ⟨Nat.zero_le _, fun x hx => by simp at hx⟩, ⟨Nat.zero_le _, fun x hx => by simp at hx⟩⟩, hb⟩, rfl⟩
theorem do_G {h : GHouse} (Hi : HInv h) (Hb : houseB h = true) {q : GReq} (hq : reqB q = true) : HG (doB h q).1 := .inl ⟨(w72 Hi q (y5p hq)).1, w0x Hb hq⟩
theorem yi8 : GHouse.lens (· ≤ 1048576) noHouse := ⟨⟨by simp [noHouse], fun y h => by simp [noHouse] at h⟩, by simp [noHouse], ⟨by simp [noHouse], fun y h => by simp [noHouse] at h⟩, ⟨by simp [noHouse], fun y h => by simp [noHouse] at h⟩⟩
theorem HG.lens {h : GHouse} (H : HG h) : GHouse.lens (· ≤ 1048576) h ∧ h.nets.length ≤ 3 ∧ h.runs.length ≤ 5 := by
  rcases H with ⟨Hi, Hb⟩ | rfl
  · have F := z7w.1 Hb
    have a := F.nets
    simp only [netsB, zA, z0a] at a
    exact ⟨Hi.lens, by omega, F.many⟩
  · exact ⟨yi8, by simp [noHouse], by simp [noHouse]⟩
def ReqsT (m : Int) (l : List GReq) : Prop := (l.length : Int) ≤ m ∧ ∀ q ∈ l, q.data.length ≤ 4
theorem ReqsT.small {m : Int} {l : List GReq} (h : ReqsT m l) (hm : m ≤ 1000) : l.length ≤ SMALL ∧ ∀ q ∈ l, q.data.length ≤ SMALL := ⟨by have := h.1; unfold SMALL; omega, fun q hq => by have := h.2 q hq; unfold SMALL; omega⟩
end Go.Am.Pl
end
section
namespace Go.Am.Pl
open Go
theorem yx8 {K : Int} {r : GRd} (h : Rd K r) (hK : K ≤ 500000000) : Tot (z4u r) (fun v => (HG v.1 ∧ v.1.runs = []) ∧ Rd (K + 900) v.2) := by
  unfold z4u
  refine Tot.bind2 (w25 h (by omega)) ?_
  intro n0 r0 hh; dsimp only at hh; obtain ⟨hn0, hr0⟩ := hh; dsimp only
  refine Tot.bind2 (z3h hr0 (by omega)) ?_
  intro k0 r1 hh; dsimp only at hh; obtain ⟨⟨a0, a1⟩, hr1⟩ := hh; dsimp only
  have key := Tot.loopF (Q := fun v : GHouse × GRd => (HG v.1 ∧ v.1.runs = []) ∧ Rd (K + 900) v.2) (fun s : List Int × Int × Int × List GNet => Rd (K + 211 + 210 * (2 - s.2.2.1)) (GRd.mk s.1 s.2.1) ∧ 0 ≤ s.2.2.1 ∧ (s.2.2.2.length : Int) + s.2.2.1 ≤ 3 ∧ s.2.2.1 ≤ 2 ∧ ∀ n ∈ s.2.2.2, netB n = true) (fun s => s.2.2.1.toNat)
    (fun f s => z2t z50 f s.1 s.2.1 s.2.2.1 s.2.2.2) (fun f s hi ih => ?_) (r1.b, r1.p, k0, [n0]) (by dsimp only; omega) ⟨by dsimp only; exact (Rd.eta hr1).mono (by omega), by dsimp only; omega, by dsimp only [zC, zN]; omega, by dsimp only; omega, fun n hn => by rw [List.mem_singleton.1 hn]; exact hn0⟩
  · exact key
  obtain ⟨b0, p0, i, l⟩ := s
  obtain ⟨h1, h2, h3, h4, h5⟩ := hi
  dsimp only at h1 h2 h3 h4 h5 ⊢
  rw [z2t]
  refine Tot.iteD (fun c => ?_) (fun c => ?_)
  · refine Tot.bind2 (w25 h1 (by omega)) ?_
    intro n2 r2 hh; dsimp only at hh; obtain ⟨hn2, hr2⟩ := hh; dsimp only
    refine Tot.gd (by simp only [zC, zN, SMALL]; omega) (Tot.gd (by constructor <;> omega) (ih (r2.b, r2.p, i - 1, l ++ [n2]) ⟨(Rd.eta hr2).mono (by dsimp only; omega), by dsimp only; omega, by dsimp only; rw [zL, zJ]; omega, by dsimp only; omega, fun n hn => ?_⟩ (by dsimp only; omega)))
    rcases zP.1 hn with hn | hn
    · exact h5 n hn
    · rw [List.mem_singleton.1 hn]; exact hn2
  · unfold z50
    refine Tot.bind2 (yz7 h1 (by omega)) ?_
    intro p r2 hh; dsimp only at hh; obtain ⟨hp, hr2⟩ := hh; dsimp only
    refine Tot.bindE (yq8 l p ⟨by unfold SMALL; omega, fun n hn => (w6e (h5 n hn)).small⟩ (by unfold SMALL; omega)) (Tot.pure ⟨new_G h5 (by omega) hp, hr2.mono (by omega)⟩)
theorem w2t {K : Int} {r : GRd} {h : GHouse} {n : Int} (hr : Rd K r) (hK : K ≤ 100000000) (H : HG h) (n0 : 0 ≤ n) (n1 : n ≤ 100) : Tot (z5r r h n) (fun v => ReqsT n v.1 ∧ Rd (K + 101 * n) v.2) := by
  unfold z5r
  have key := Tot.loopF (Q := fun v : List GReq × GRd => ReqsT n v.1 ∧ Rd (K + 101 * n) v.2) (fun s : List Int × Int × Int × List GReq × GHouse => Rd (K + 101 * s.2.2.1) (GRd.mk s.1 s.2.1) ∧ 0 ≤ s.2.2.1 ∧ s.2.2.1 ≤ n ∧ ReqsT s.2.2.1 s.2.2.2.1 ∧ HG s.2.2.2.2) (fun s => (n - s.2.2.1).toNat)
    (fun f s => z1i n z5s z5t f s.1 s.2.1 s.2.2.1 s.2.2.2.1 s.2.2.2.2) (fun f s hi ih => ?_) (r.b, r.p, 0, [], h) (by dsimp only; omega) ⟨by dsimp only; exact (Rd.eta hr).mono (by omega), by dsimp only; omega, n0, ⟨by simp, fun q hq => by simp at hq⟩, H⟩
  · exact key
  obtain ⟨b0, p0, i, l, d⟩ := s
  obtain ⟨h1, h2, h3, h4, h5⟩ := hi
  dsimp only at h1 h2 h3 h4 h5 ⊢
  have done : Tot (some (l, GRd.mk b0 p0)) (fun v : List GReq × GRd => ReqsT n v.1 ∧ Rd (K + 101 * n) v.2) := Tot.pure ⟨⟨Int.le_trans h4.1 h3, h4.2⟩, h1.mono (by omega)⟩
  rw [z1i]
  refine Tot.iteD (fun c => Tot.iteD (fun c2 => ?_) (fun _ => done)) (fun _ => done)
  obtain ⟨Hi, Hb⟩ : HInv d ∧ houseB d = true := h5.resolve_right (fun e => by rw [e] at c2; exact absurd c2 (by show ¬ (0 : Int) < ((([] : List GNet).length : Nat) : Int); simp))
  refine Tot.bind2 (w4a h1 (by omega) h5) ?_
  intro q r3 hh; dsimp only at hh; obtain ⟨hq, hr3⟩ := hh; dsimp only
  have h41 := h4.1
  have ih' : ∀ d : GHouse, HG d → Tot (gd (ok64 (i + 1)) (z1i n z5s z5t f r3.b r3.p (i + 1) (l ++ [q]) d)) (fun v => ReqsT n v.1 ∧ Rd (K + 101 * n) v.2) :=
    fun d g3 => Tot.gd (by constructor <;> omega) (ih (r3.b, r3.p, i + 1, l ++ [q], d) ⟨(Rd.eta hr3).mono (by dsimp only; omega), by dsimp only; omega, by dsimp only; omega, ⟨by dsimp only; rw [zL, zJ]; omega, fun x hx => by
      rcases zP.1 hx with hx | hx
      · exact h4.2 x hx
      · rw [List.mem_singleton.1 hx]; exact hq⟩, g3⟩ (by dsimp only; omega))
  refine Tot.gd (by simp only [zC, zN, SMALL]; omega) (Tot.bindE (y0k q (by unfold SMALL; omega)) (Tot.ite (fun c3 => ?_) (fun c3 => ih' _ h5)))
  refine Tot.bindE (y7t d Hi.small) (Tot.bindE (w7x Hi q (y5p c3) (by unfold SMALL; omega)) ?_)
  exact ih' _ (do_G Hi Hb c3)
theorem drawLogOk (code : List Int) (hc : ∀ y ∈ code, 0 ≤ y ∧ y ≤ 255) : Tot (z4r code) (fun v => ReqsT 151 v) := by
  unfold z4r
  refine Tot.bind (w5h code hc) fun r h => ?_
  refine Tot.bind2 (yx8 h (by omega)) ?_
  intro h0 r0 hh; dsimp only at hh; obtain ⟨⟨H0, _⟩, hr0⟩ := hh; dsimp only
  refine Tot.bind2 (z3h hr0 (by omega)) ?_
  intro k0 r1 hh; dsimp only at hh; obtain ⟨⟨a0, a1⟩, hr1⟩ := hh; dsimp only
  refine Tot.bind2 (w2t hr1 (by omega) H0 (by omega) (by omega)) ?_
  intro l r2 hh; dsimp only at hh; obtain ⟨hl, hr2⟩ := hh; dsimp only
  refine Tot.bind2 (z3h hr2 (by omega)) ?_
  intro k1 r3 hh; dsimp only at hh; obtain ⟨⟨a2, a3⟩, hr3⟩ := hh; dsimp only
  have hl1 := hl.1
  refine Tot.iteD (fun _ => ?_) (fun _ => Tot.pure ⟨by omega, hl.2⟩)
  have key := Tot.loopF (Q := fun v : List GReq => ReqsT 151 v) (fun s : List GReq => ReqsT 151 s) (fun s => 151 - s.length)
    (fun f s => z2s z83 f s) (fun f s hi ih => ?_) l (by omega) ⟨by omega, hl.2⟩
  · exact key
  have h1 := hi.1
  rw [z2s]
  refine Tot.iteD (fun c => Tot.gd (by simp only [zC, zN, SMALL]; omega) (ih _ ⟨by rw [zL, zJ]; omega, fun q hq => ?_⟩ (by rw [zL, zJ]; omega))) (fun c => Tot.pure hi)
  rcases zP.1 hq with hq | hq
  · exact hi.2 q hq
  · rw [List.mem_singleton.1 hq]; exact Nat.zero_le _
end Go.Am.Pl
end
section
namespace Go.Am.Pl
open Go
inductive WorkR (n : GNet) (c : GCase) (k : Int) (data : List Int) : GCase → Prop where
  | more (h : (atI c.busy k).did + 1 < (atI n.tasks (atI c.busy k).task).need) : WorkR n c k data (GCase.mk c.state c.marks (c.busy.set k.toNat (itD (atI c.busy k))) data c.did)
  | ends (h : ¬ (atI c.busy k).did + 1 < (atI n.tasks (atI c.busy k).task).need) (G : GiveF n c.marks (atI c.busy k).task data) (hp : 0 < atI (giveL n c.marks (atI n.tasks (atI c.busy k).task) data) 1) :
      WorkR n c k data (GCase.mk 2 (giveL n c.marks (atI n.tasks (atI c.busy k).task) data) [] data (c.did ++ [GDid.mk (atI c.busy k).task (atI c.busy k).who]))
  | goes (h : ¬ (atI c.busy k).did + 1 < (atI n.tasks (atI c.busy k).task).need) (G : GiveF n c.marks (atI c.busy k).task data) (hp : ¬ 0 < atI (giveL n c.marks (atI n.tasks (atI c.busy k).task) data) 1) :
      WorkR n c k data (GCase.mk c.state (giveL n c.marks (atI n.tasks (atI c.busy k).task) data) (c.busy.take k.toNat ++ c.busy.drop (k + 1).toNat) data (c.did ++ [GDid.mk (atI c.busy k).task (atI c.busy k).who]))
end Go.Am.Pl
end
section
namespace Go.Am.Pl
open Go
end Go.Am.Pl
end
section
namespace Go.Am.Pl
open Go
theorem yu6 {log : List GReq} : logB log = true ↔ log.length ≤ 150 ∧ ∀ r ∈ log, reqB r = true := by
  simp only [logB, zA, zV, Bool.not_eq_true', decide_eq_false_iff_not]
  constructor
  · rintro ⟨a, b⟩; exact ⟨by omega, b⟩
  · rintro ⟨a, b⟩; exact ⟨by omega, b⟩
theorem w21 {log : List GReq} {k : Nat} (h : logB log = true) : logB (log.take k) = true := by
  obtain ⟨a, b⟩ := yu6.1 h
  exact yu6.2 ⟨by rw [List.length_take]; omega, fun r hr => b r (List.mem_of_mem_take hr)⟩
end Go.Am.Pl
end
