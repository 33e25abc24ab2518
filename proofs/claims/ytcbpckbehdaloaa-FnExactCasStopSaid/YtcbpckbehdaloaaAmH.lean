/- Operations that write: stores. Own work; generic. -/
import Derived.Test.YtcbpckbehdaloaaAmG
set_option linter.unusedSimpArgs false
set_option linter.unusedVariables false
namespace Go.Am
open Go

section
variable {P : Program} {ops : Array Oper} {n : Nat}
variable {pn : Nat → Option Value} {w0 : World} {A0 F0 : Blks} {hv hv' : Nat → Value} {T T' : Nat → Blks} {st st' : St} {a : Act} {w w' : World} {D : Nat → Prop}

theorem run_storeCells {b : Nat} {e : TypeId} {off : Nat} : ∀ (vs : List Value) (i : Nat) (w : World) (c : Array Value), w.heap[b]? = some (.cells c e (0, 0)) → off + i + vs.length ≤ c.size →
    (∀ v ∈ vs, v.oneCell' = true) → ∃ w' c', (storeCells ⟨b, off, none⟩ vs i).run P w = .ok () w' ∧ w'.heap[b]? = some (.cells c' e (0, 0)) ∧ c'.size = c.size ∧
      (∀ k, c'[k]? = if off + i ≤ k ∧ k < off + i + vs.length then vs[k - (off + i)]? else c[k]?) ∧ (∀ b', b' ≠ b → w'.heap[b']? = w.heap[b']?) ∧ w'.heap.size = w.heap.size ∧ w'.os = w.os ∧ w'.output = w.output
  | [], i, w, c, hb, _, _ => ⟨w, c, rfl, hb, rfl, fun k => by rw [if_neg (by simp)], fun _ _ => rfl, rfl, rfl, rfl⟩
  | v :: vs, i, w, c, hb, hl, h1 => by
    simp only [List.length_cons] at hl
    have hc : w.cell? ⟨b, off + i, none⟩ = some (c[off + i]'(by omega)) := by
      have hlt : off + i < c.size := by omega
      simp [World.cell?, hb, hlt]
    have hfz : w.frozen? ⟨b, off + i, none⟩ = false := by simp [World.frozen?, hb]
    have hs : (store ⟨b, off + i, none⟩ v).run P w = .ok () (w.setCell ⟨b, off + i, none⟩ v) := by
      rw [run_store P w _ v _ (h1 v (by simp)), hc]; simp [hfz]
    have hb' : (w.setCell ⟨b, off + i, none⟩ v).heap[b]? = some (.cells (c.setIfInBounds (off + i) v) e (0, 0)) := by
      simp [World.setCell, Array.getElem?_modify, hb]
    obtain ⟨w', c', r1, r2, r3, r4, r5, r6, r7, r8⟩ := run_storeCells (off := off) vs (i + 1) (w.setCell ⟨b, off + i, none⟩ v) (c.setIfInBounds (off + i) v) hb' (by simp; omega) (fun x hx => h1 x (by simp [hx]))
    refine ⟨w', c', ?_, r2, by simpa using r3, fun k => ?_, fun b' hne => ?_, by simpa using r6, r7, r8⟩
    · simp only [storeCells, Addr.add_lit, Sem.run_bind, hs, Result.andThen_ok]; exact r1
    · rw [r4 k]
      by_cases hk : off + i = k
      · subst hk
        rw [if_neg (by omega), if_pos ⟨Nat.le_refl _, by simp⟩]
        simp [show off + i < c.size by omega]
      · by_cases hin : off + (i + 1) ≤ k ∧ k < off + (i + 1) + vs.length
        · rw [if_pos hin, if_pos ⟨by omega, by simp; omega⟩]
          have : k - (off + i) = (k - (off + (i + 1))) + 1 := by omega
          rw [this, List.getElem?_cons_succ]
        · rw [if_neg hin, if_neg (by simp; omega)]
          rw [Array.getElem?_setIfInBounds_ne hk]
    · rw [r5 b' hne]; simp [World.setCell, Array.getElem?_modify, Ne.symm hne]

/-- One cell's worth. -/
def AV.one : AV → Bool
  | .c (.lit (.agg _)) => false
  | .c (.lit (.tuple _)) => false
  | .c _ => true
  | .ref _ _ => true
  | .ptr _ _ _ _ _ => true
  | .bx _ _ => true
  | .pts _ => true
  | .fn _ _ => true
  | _ => false

theorem StSim.one (hS : StSim n pn w0 A0 F0 hv T st a w) {av : AV} {v : Value} (h : AVSim w (Sh A0 F0 w0 T st.obj w) hv st.obj av v) (ho : av.one = true) : v.oneCell' = true := by
  cases h with
  | dead => cases ho
  | c hx =>
    cases hx with
    | lit => cases v <;> first | rfl | cases ho
    | nil => rfl
    | emp => rfl
    | shr => rfl
    | arr hb hk hs hcap hF => rfl
    | bx => rfl
  | row => cases ho
  | ref h1 hg hh =>
    obtain ⟨F', _, hown⟩ := Own.path (hS.heap _ _ h1) hg hh
    obtain ⟨b, c, rfl⟩ := own_slice hown
    rfl
  | ptr => rfl
  | bx => rfl
  | pts => rfl
  | mp h1 hh => obtain ⟨b, es, clock, he, _⟩ := hS.heap _ _ h1; rw [← hh, he]; rfl
  | agg => cases ho
  | tup => cases ho
  | fn => rfl

/-- Where only boxes turn, every value stays what it is. -/
theorem Trade.keepBox {obj obj' : Nat → Option Obj} (h : Trade w0 A0 F0 hv hv' T T' obj obj' D w w')
    (hdis : ∀ i j, i ≠ j → (obj i).isSome = true → (obj j).isSome = true → ∀ b, T i b → ¬ T j b)
    (hown : ∀ id, (obj id).isSome = true → ∀ b, T id b → b < w.heap.size)
    (hheap : ∀ id k rows, obj id = some (.arr k rows) → Own w (Sh A0 F0 w0 T obj w) (T id) (.sl true k rows) (hv id))
    (hD : ∀ d, D d → hv' d = hv d ∧ ∃ xs xs', obj d = some (.box xs) ∧ obj' d = some (.box xs')) {av : AV} {v : Value}
    (ha : AVSim w (Sh A0 F0 w0 T obj w) hv obj av v) : AVSim w' (Sh A0 F0 w0 T' obj' w') hv' obj' av v := by
  have hblk : ∀ id, (obj id).isSome = true → ¬ D id → ∀ b, Sh A0 F0 w0 T obj w b ∨ T id b → w'.heap[b]? = w.heap[b]? := by
    intro id hs hnd b hb
    rcases hb with hb | hb
    · exact h.same hb
    · refine h.frame.heap b (hown id hs b hb) ?_
      rintro ⟨d, hd, hT⟩
      by_cases e : d = id
      · subst e; exact hnd hd
      · exact hdis d id e (h.here d hd) hs b hT hb
  have harr : ∀ id k rows, obj id = some (.arr k rows) → ¬ D id := by
    intro id k rows ho hd
    obtain ⟨_, xs, xs', h1, _⟩ := hD id hd
    rw [ho] at h1; cases h1
  induction ha with
  | dead v => exact .dead v
  | c ho => exact .c (h.own ho)
  | row hs hh => exact .row hs fun i x v h1 h2 => h.own (hh i x v h1 h2)
  | @ref id p k k' o rows rows' v ho hg hh =>
    have hnd := harr id k rows ho
    obtain ⟨e1, e2, _⟩ := h.old id (by simp [ho]) hnd
    refine .ref (by rw [e1]; exact ho) hg ?_
    rw [e2]
    exact Hdr.frame (hheap id k rows ho) (hblk id (by simp [ho]) hnd) hh
  | @ptr id p k i j k0 rows o rows' b off n cap ho hg hh =>
    have hnd := harr id k0 rows ho
    obtain ⟨e1, e2, _⟩ := h.old id (by simp [ho]) hnd
    refine .ptr (n := n) (cap := cap) (by rw [e1]; exact ho) hg ?_
    rw [e2]
    exact Hdr.frame (hheap id k0 rows ho) (hblk id (by simp [ho]) hnd) hh
  | @bx id j b xs ho hh =>
    by_cases hd : D id
    · obtain ⟨e2, ys, ys', _, e1⟩ := hD id hd
      exact .bx e1 (by rw [e2]; exact hh)
    · obtain ⟨e1, e2, _⟩ := h.old id (by simp [ho]) hd
      exact .bx (by rw [e1]; exact ho) (by rw [e2]; exact hh)
  | @pts xs b off c e fr hb hA hs hh =>
    exact .pts (by rw [h.same hA]; exact hb) (h.sh hA) hs fun i x v h1 h2 => h.own (hh i x v h1 h2)
  | @mp id ks v ho hh =>
    have hnd : ¬ D id := by
      intro hd
      obtain ⟨_, xs, xs', h1, _⟩ := hD id hd
      rw [ho] at h1; cases h1
    obtain ⟨e1, e2, _⟩ := h.old id (by simp [ho]) hnd
    exact .mp (by rw [e1]; exact ho) (by rw [e2]; exact hh)
  | agg hs hh ih => exact .agg hs fun i x v h1 h2 => ih i x v h1 h2
  | tup hs hh ih => exact .tup hs fun i x v h1 h2 => ih i x v h1 h2
  | fn hs hh ih => exact .fn hs fun i x v h1 h2 => ih i x v h1 h2

section
variable {ty : TypeId} {pos : String} {after : Array Edge} {g : Option (Nat × Bool)}

theorem run_store_op {t : TypeId} {x y : Operand} {m b off : Nat} {c : Array Value} {e : TypeId} (hz : ∀ w, (Go.sizeOf t).run P w = .ok m w) (hx : a.eval x = .pointer (some ⟨b, off, none⟩))
    (hb : w.heap[b]? = some (.cells c e (0, 0))) (hm : (a.eval y).cells.size = m) (hl : off + m ≤ c.size) (h1 : ∀ v ∈ (a.eval y).cells.toList, v.oneCell' = true) :
    ∃ w' c', (execOp a.eval ⟨none, .store t x y, ty, pos, after, g⟩).run P w = .ok .skip w' ∧ w'.heap[b]? = some (.cells c' e (0, 0)) ∧ c'.size = c.size ∧
      (∀ k, c'[k]? = if off ≤ k ∧ k < off + m then (a.eval y).cells[k - off]? else c[k]?) ∧ (∀ b', b' ≠ b → w'.heap[b']? = w.heap[b']?) ∧ w'.heap.size = w.heap.size ∧ w'.os = w.os ∧ w'.output = w.output := by
  obtain ⟨w', c', r1, r2, r3, r4, r5, r6, r7, r8⟩ := run_storeCells (P := P) (off := off) (a.eval y).cells.toList 0 w c hb (by simp; omega) h1
  refine ⟨w', c', ?_, r2, r3, fun k => ?_, r5, r6, r7, r8⟩
  · simp only [execOp, Instr.storeAt, hx, Instr.sureAddr, storeVar, Sem.run_bind, Sem.run_pure, Result.andThen_ok, hz w, hm]
    simp only [ne_eq, not_true_eq_false, if_false]
    rw [r1]; rfl
  · rw [r4 k]; simp [hm]

/-- A box's cells put anew. -/
theorem op_store_bx {t : TypeId} {x y : Operand} {id j m : Nat} {xs ys : List AV} {av : AV} (hz : ∀ w, (Go.sizeOf t).run P w = .ok m w) (hc : av.cells? = some ys) (ho : ys.all AV.one = true)
    (hm : ys.length = m) (hl : j + m ≤ xs.length) :
    OpL0 P n ⟨none, .store t x y, ty, pos, after, g⟩ (.opd x (.bx id j) :: .opd y av :: .obj id (.box xs) :: lives av.ids) [.put id (.box (splice xs j ys))] := by
  intro pn w0 A0 F0 st a w hB hS hs K Q hK
  obtain ⟨hv, T, hT⟩ := hS
  have h0 : opIs st x (.bx id j) := at0 hs
  have h1 : opIs st y av := at1 hs
  have hobj : st.obj id = some (.box xs) := at2 hs
  have hlive : ∀ i ∈ av.ids, (st.obj i).isSome = true := live_of (at_tail (at_tail (at_tail hs)))
  have hx := hT.eval h0 (fun i hi => by simp [AV.ids] at hi; subst hi; simp [hobj])
  obtain ⟨b, hb, he⟩ := hx.bx_inv hobj
  obtain ⟨b', c, e, g1, g2, g3, g4, g5⟩ := hT.heap id _ hobj
  rw [hb] at g1; cases g1
  have hy := hT.eval h1 hlive
  obtain ⟨h2, h3⟩ := hT.cells hy hc
  have hcell : ∀ (i : Nat) u, (a.eval y).cells[i]? = some u → ∃ z, ys[i]? = some z ∧ AVSim w (Sh A0 F0 w0 T st.obj w) hv st.obj z u := by
    intro i u hu
    have hi : i < ys.length := by have := (Array.getElem?_eq_some_iff.1 hu).1; omega
    exact ⟨ys[i], by simp [hi], h3 i _ u (by simp [hi]) hu⟩
  obtain ⟨w', c', r1, r2, r3, r4, r5, r6, r7, r8⟩ := run_store_op (P := P) (ty := ty) (pos := pos) (after := after) (g := g) (t := t) (x := x) (y := y) hz he g2 (by omega) (by omega) (by
    intro v hv'
    obtain ⟨i, hi, rfl⟩ := List.mem_iff_getElem.1 hv'
    obtain ⟨z, hz1, hz2⟩ := hcell i _ (by rw [← Array.getElem?_toList]; exact List.getElem?_eq_getElem hi)
    exact hT.one hz2 (List.all_eq_true.1 ho z (List.mem_of_getElem? hz1)))
  unfold Oper.wp
  rw [r1]
  refine hK _ _ ⟨hv, T, ?_⟩
  have hfr : Frame (fun b => ∃ d, d = id ∧ T d b) w w' :=
    ⟨fun b2 hlt hno => r5 b2 (fun e2 => hno ⟨id, rfl, by subst e2; exact g4⟩), by omega, r7, r8⟩
  have tr : Trade w0 A0 F0 hv hv T T st.obj (upd st.obj id (some (.box (splice xs j ys)))) (fun d => d = id) w w' := by
    refine ⟨fun d hd => by subst hd; simp [hobj], hfr, fun i hi hne => ⟨upd_ne _ _ (Ne.symm hne), rfl, rfl⟩, fun i hi hor b2 hb2 => ?_⟩
    rcases hor with rfl | hno
    · exact .inl ⟨i, rfl, hb2⟩
    · by_cases e2 : id = i
      · subst e2; rw [hobj] at hno; cases hno
      · rw [upd_ne _ _ e2, hno] at hi; cases hi
  have keep := fun {av : AV} {v : Value} (ha : AVSim w (Sh A0 F0 w0 T st.obj w) hv st.obj av v) => Trade.keepBox tr hT.dis (fun i hs b hb => (hT.own i hs b hb).2) (fun i _ _ ho => hT.heap i _ ho)
    (fun d hd => by subst hd; exact ⟨rfl, xs, _, hobj, upd_same _ _ _⟩) ha
  have liveB : ∀ av, Live (upd st.obj id (some (.box (splice xs j ys)))) av → Live st.obj av := by
    intro av hl i hi
    have := hl i hi
    by_cases e2 : id = i
    · subst e2; simp [hobj]
    · rwa [upd_ne _ _ e2] at this
  have hlen : (splice xs j ys).length = xs.length := splice_length (by omega)
  refine StSim.trade (st' := (Upd.put id (.box (splice xs j ys))).app st) hT tr hT.size hT.defers ?_ ?_ hT.slt ?_ ?_ ?_ ?_ ?_ ?_
  · intro i i2 hne hi hi2
    have : ∀ i, ((upd st.obj id (some (.box (splice xs j ys)))) i).isSome = true ∧ (i = id ∨ st.obj i = none) → i = id := by
      rintro i ⟨hi, hor⟩
      rcases hor with rfl | hno
      · rfl
      · by_cases e2 : id = i
        · exact e2.symm
        · rw [upd_ne _ _ e2, hno] at hi; cases hi
    exact absurd ((this i hi).trans (this i2 hi2).symm) hne
  · intro i o' hor ho'
    have hi : i = id := by
      rcases hor with rfl | hno
      · rfl
      · by_cases e2 : id = i
        · exact e2.symm
        · simp only [Upd.app] at ho'; rw [upd_ne _ _ e2, hno] at ho'; cases ho'
    subst hi
    simp only [Upd.app] at ho' ⊢
    rw [upd_same] at ho'; cases ho'
    refine ⟨b, c', e, hb, r2, by omega, g4, fun i2 z u hz1 hu hl => ?_⟩
    rw [splice_get (by omega)] at hz1
    rw [r4 i2] at hu
    by_cases hin : j ≤ i2 ∧ i2 < j + ys.length
    · rw [if_pos hin] at hz1
      rw [if_pos (by omega)] at hu
      exact keep (h3 _ z u hz1 hu)
    · rw [if_neg hin] at hz1
      rw [if_neg (by omega)] at hu
      exact keep (g5 i2 z u hz1 hu (liveB z hl))
  · intro x2 av2 hx2 i hi; exact addU_true.2 (.inl (hT.uenv x2 av2 hx2 i hi))
  · intro i hi
    refine addU_true.2 ?_
    by_cases e2 : id = i
    · exact .inr (by simp [e2])
    · simp only [Upd.app] at hi; rw [upd_ne _ _ e2] at hi; exact .inl (hT.uobj i hi)
  · intro i v' hp
    obtain ⟨p1, p2⟩ := hT.pin i v' hp
    refine ⟨addU_true.2 (.inl p1), fun hi => p2 ?_⟩
    by_cases e2 : id = i
    · subst e2; simp [hobj]
    · simp only [Upd.app] at hi; rwa [upd_ne _ _ e2] at hi
  · intro i zs hz1 k hk
    refine addU_true.2 ?_
    by_cases e2 : id = i
    · subst e2
      simp only [Upd.app] at hz1; rw [upd_same] at hz1; cases hz1
      exact .inr (by simp [Obj.ids, hk])
    · simp only [Upd.app] at hz1; rw [upd_ne _ _ e2] at hz1; exact .inl (hT.ubox i zs hz1 k hk)
  · intro i zs hz1 hne av2 hav hl
    exact ⟨liveB av2 hl, fun v ha => keep ha⟩
  · intro x2 av2 hx2 hl
    obtain ⟨v, q1, q2⟩ := hT.env x2 av2 hx2 (liveB av2 hl)
    exact ⟨v, q1, keep q2⟩
end
end
end Go.Am
