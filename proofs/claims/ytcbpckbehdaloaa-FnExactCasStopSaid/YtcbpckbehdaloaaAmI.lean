/- Slices made, appended to. Own work; generic. -/
import Derived.Test.YtcbpckbehdaloaaAmH
import Derived.Laws.MakeOwn
set_option linter.unusedSimpArgs false
set_option linter.unusedVariables false
namespace Go.Am
open Go

section
variable {P : Program} {ops : Array Oper} {n : Nat}
variable {pn : Nat → Option Value} {w0 : World} {A0 F0 : Blks} {hv hv' : Nat → Value} {T T' : Nat → Blks} {st st' : St} {a : Act} {w w' : World} {D : Nat → Prop}

/-- What goes into a slice: plain cells, and whole owned slices (which go with it). -/
inductive Absorb : List AV → List Cell → List (Nat × Nat × List (List Cell)) → Prop
  | nil : Absorb [] [] []
  | c {x : Cell} {ys : List AV} {cs : List Cell} {os : List (Nat × Nat × List (List Cell))} (hp : x.plain = true) (t : Absorb ys cs os) : Absorb (.c x :: ys) (x :: cs) os
  | nilc {o : Bool} {k : Nat} {ys : List AV} {cs : List Cell} {os : List (Nat × Nat × List (List Cell))} (t : Absorb ys cs os) : Absorb (.c (.lit (.slice none 0 0)) :: ys) (.sl o k [] :: cs) os
  | ref {id k : Nat} {rows : List (List Cell)} {ys : List AV} {cs : List Cell} {os : List (Nat × Nat × List (List Cell))} (hn : (os.any fun p => Nat.beq p.1 id) = false) (t : Absorb ys cs os) :
      Absorb (.ref id [] :: ys) (.sl true k rows :: cs) ((id, k, rows) :: os)

theorem Absorb.length {ys : List AV} {cs : List Cell} {os : List (Nat × Nat × List (List Cell))} (h : Absorb ys cs os) : cs.length = ys.length := by
  induction h <;> simp [*]

theorem any_ids {os : List (Nat × Nat × List (List Cell))} {id : Nat} (h : (os.any fun p => Nat.beq p.1 id) = false) : ∀ p ∈ os, p.1 ≠ id := by
  intro p hp e
  have : (os.any fun p => Nat.beq p.1 id) = true := List.any_eq_true.2 ⟨p, hp, by simp [e]⟩
  rw [h] at this; cases this

theorem absorb_own (hT : StSim n pn w0 A0 F0 hv T st a w) {ys : List AV} {cs : List Cell} {os : List (Nat × Nat × List (List Cell))} (h : Absorb ys cs os)
    (hobj : ∀ p ∈ os, st.obj p.1 = some (.arr p.2.1 p.2.2)) : ∀ {us : List Value}, us.length = ys.length → (∀ (i : Nat) y u, ys[i]? = some y → us[i]? = some u → AVSim w (Sh A0 F0 w0 T st.obj w) hv st.obj y u) →
    ∃ G : Nat → Blks, (∀ i b, G i b → ∃ p ∈ os, T p.1 b) ∧ (∀ i j b, i ≠ j → G i b → ¬ G j b) ∧ ∀ (i : Nat) x u, cs[i]? = some x → us[i]? = some u → Own w (Sh A0 F0 w0 T st.obj w) (G i) x u := by
  induction h with
  | nil => exact fun _ _ => ⟨fun _ => noBlk, fun _ _ f => f.elim, fun _ _ _ _ f => f.elim, fun i x u h => by simp at h⟩
  | @c x ys cs os hp t ih =>
    intro us hl hs
    cases us with
    | nil => simp at hl
    | cons u us =>
      obtain ⟨G, g1, g2, g3⟩ := ih hobj (by simpa using hl) (fun i y u h1 h2 => hs (i + 1) y u (by simpa using h1) (by simpa using h2))
      refine ⟨fun i => match i with | 0 => noBlk | i + 1 => G i, ?_, ?_, ?_⟩
      · intro i b hb; cases i with | zero => exact hb.elim | succ i => exact g1 i b hb
      · intro i j b hij hi hj
        cases i with
        | zero => exact hi.elim
        | succ i => cases j with | zero => exact hj.elim | succ j => exact g2 i j b (fun e => hij (by rw [e])) hi hj
      · intro i x' u' h1 h2
        cases i with
        | zero =>
          simp at h1 h2; subst h1 h2
          have := hs 0 (.c x) u rfl rfl
          cases this with | c ho => exact ho
        | succ i => exact g3 i x' u' (by simpa using h1) (by simpa using h2)
  | @nilc o k ys cs os t ih =>
    intro us hl hs
    cases us with
    | nil => simp at hl
    | cons u us =>
      obtain ⟨G, g1, g2, g3⟩ := ih hobj (by simpa using hl) (fun i y u h1 h2 => hs (i + 1) y u (by simpa using h1) (by simpa using h2))
      refine ⟨fun i => match i with | 0 => noBlk | i + 1 => G i, ?_, ?_, ?_⟩
      · intro i b hb; cases i with | zero => exact hb.elim | succ i => exact g1 i b hb
      · intro i j b hij hi hj
        cases i with
        | zero => exact hi.elim
        | succ i => cases j with | zero => exact hj.elim | succ j => exact g2 i j b (fun e => hij (by rw [e])) hi hj
      · intro i x' u' h1 h2
        cases i with
        | zero =>
          simp at h1 h2; subst h1 h2
          have := hs 0 _ u rfl rfl
          cases this with | c ho => cases ho; exact .nil _ _
        | succ i => exact g3 i x' u' (by simpa using h1) (by simpa using h2)
  | @ref id k rows ys cs os hn t ih =>
    intro us hl hs
    cases us with
    | nil => simp at hl
    | cons u us =>
      obtain ⟨G, g1, g2, g3⟩ := ih (fun p hp => hobj p (by simp [hp])) (by simpa using hl) (fun i y u h1 h2 => hs (i + 1) y u (by simpa using h1) (by simpa using h2))
      have hid : st.obj id = some (.arr k rows) := hobj (id, k, rows) (by simp)
      have hne := any_ids hn
      have sep : ∀ i b, G i b → ¬ T id b := by
        intro i b hb hTb
        obtain ⟨p, hp, hTp⟩ := g1 i b hb
        exact hT.dis p.1 id (hne p hp) (by simp [hobj p (by simp [hp])]) (by simp [hid]) b hTp hTb
      refine ⟨fun i => match i with | 0 => T id | i + 1 => G i, ?_, ?_, ?_⟩
      · intro i b hb
        cases i with
        | zero => exact ⟨(id, k, rows), by simp, hb⟩
        | succ i => obtain ⟨p, hp, h⟩ := g1 i b hb; exact ⟨p, by simp [hp], h⟩
      · intro i j b hij hi hj
        cases i with
        | zero => cases j with | zero => exact hij rfl | succ j => exact sep j b hj hi
        | succ i => cases j with | zero => exact sep i b hi hj | succ j => exact g2 i j b (fun e => hij (by rw [e])) hi hj
      · intro i x' u' h1 h2
        cases i with
        | zero =>
          simp at h1 h2; subst h1 h2
          have := hs 0 (.ref id []) u rfl rfl
          cases this with
          | ref ho hg hh => simp only [Hdr] at hh; subst hh; exact hT.heap id _ hid
        | succ i => exact g3 i x' u' (by simpa using h1) (by simpa using h2)

/-- Names struck. -/
def dels (ids : List Nat) : List Upd := ids.map .del
theorem dels_obj : ∀ (ids : List Nat) (st : St) (i : Nat), (apps (dels ids) st).obj i = if i ∈ ids then none else st.obj i
  | [], st, i => by simp [dels, apps]
  | d :: ids, st, i => by
    have : (apps (dels (d :: ids)) st).obj i = (apps (dels ids) ((Upd.del d).app st)).obj i := rfl
    rw [this, dels_obj ids]
    by_cases h1 : i ∈ ids
    · simp [h1]
    · by_cases h2 : d = i
      · subst h2; simp [h1, Upd.app, upd_same]
      · simp [h1, Ne.symm h2, Upd.app, upd_ne _ _ h2]
theorem dels_env : ∀ (ids : List Nat) (st : St), (apps (dels ids) st).env = st.env
  | [], _ => rfl
  | d :: ids, st => by
    have : (apps (dels (d :: ids)) st).env = (apps (dels ids) ((Upd.del d).app st)).env := rfl
    rw [this, dels_env ids]; rfl
theorem dels_used : ∀ (ids : List Nat) (st : St), (apps (dels ids) st).used = st.used
  | [], _ => rfl
  | d :: ids, st => by
    have : (apps (dels (d :: ids)) st).used = (apps (dels ids) ((Upd.del d).app st)).used := rfl
    rw [this, dels_used ids]; rfl

/-- Some objects go; a new slice comes, made of theirs and of new memory. -/
theorem StSim.produce (h : StSim n pn w0 A0 F0 hv T st a w) {ids : List Nat} {d k : Nat} {rows : List (List Cell)} {v : Value} {S : Blks} (hD : ∀ i ∈ ids, (st.obj i).isSome = true) (hd : st.used d = false)
    (hfr : Frame (fun b => ∃ i, i ∈ ids ∧ T i b) w w') (hS : ∀ b, S b → (∃ i, i ∈ ids ∧ T i b) ∨ (w.heap.size ≤ b ∧ b < w'.heap.size))
    (ho : ∀ A, (∀ b, Sh A0 F0 w0 T st.obj w b → A b) → Own w' A S (.sl true k rows) v) (hn : d < n) :
    Sim n pn w0 A0 F0 (apps (dels ids ++ [.put d (.arr k rows), .set d (.ref d [])]) st) (a.put (some d) v) w' := by
  have hdn : st.obj d = none := by
    cases ho : st.obj d with
    | none => rfl
    | some o => rw [h.uobj d (by simp [ho])] at hd; cases hd
  have hdi : d ∉ ids := fun hm => by have := hD d hm; rw [hdn] at this; cases this
  rw [apps_append]
  generalize hs1 : apps (dels ids) st = st1
  have e1 : ∀ i, st1.obj i = if i ∈ ids then none else st.obj i := fun i => by rw [← hs1]; exact dels_obj ids st i
  have e2 : st1.env = st.env := by rw [← hs1]; exact dels_env ids st
  have e3 : st1.used = st.used := by rw [← hs1]; exact dels_used ids st
  have hobj : ∀ i, (upd st1.obj d (some (Obj.arr k rows))) i = if d = i then some (.arr k rows) else if i ∈ ids then none else st.obj i := by
    intro i; rw [upd_apply, e1]
  have tr : Trade w0 A0 F0 hv (upd hv d v) T (upd T d S) st.obj (upd st1.obj d (some (.arr k rows))) (fun i => i ∈ ids) w w' := by
    refine ⟨hD, hfr, fun i hi hni => ?_, fun i hi hor b hb => ?_⟩
    · have hne : d ≠ i := fun e => by subst e; rw [hdn] at hi; cases hi
      refine ⟨?_, upd_ne _ _ hne, upd_ne _ _ hne⟩
      rw [hobj, if_neg hne, if_neg hni]
    · by_cases e : d = i
      · subst e; rw [upd_same] at hb; exact hS b hb
      · rw [hobj, if_neg e] at hi
        by_cases hm : i ∈ ids
        · rw [if_pos hm] at hi; cases hi
        · rw [if_neg hm] at hi
          rcases hor with f | hno
          · exact absurd f hm
          · rw [hno] at hi; cases hi
  have live : ∀ av, (∀ i ∈ av.ids, st.used i = true) → Live (upd st1.obj d (some (.arr k rows))) av → Live st.obj av ∧ ∀ i ∈ av.ids, i ∉ ids := by
    intro av hu hl
    have key : ∀ i ∈ av.ids, (st.obj i).isSome = true ∧ i ∉ ids := by
      intro i hi
      have := hl i hi
      have hne : d ≠ i := fun e => by subst e; rw [hu _ hi] at hd; cases hd
      rw [hobj, if_neg hne] at this
      by_cases hm : i ∈ ids
      · rw [if_pos hm] at this; cases this
      · rw [if_neg hm] at this; exact ⟨this, hm⟩
    exact ⟨fun i hi => (key i hi).1, fun i hi => (key i hi).2⟩
  have hnewid : ∀ i, (upd st1.obj d (some (Obj.arr k rows)) i).isSome = true → (i ∈ ids ∨ st.obj i = none) → i = d := by
    intro i hi hor
    by_cases e : d = i
    · exact e.symm
    · rw [hobj, if_neg e] at hi
      by_cases hm : i ∈ ids
      · rw [if_pos hm] at hi; cases hi
      · rw [if_neg hm] at hi
        rcases hor with f | hno
        · exact absurd f hm
        · rw [hno] at hi; cases hi
  have key : StSim n pn w0 A0 F0 (upd hv d v) (upd T d S) ((Upd.put d (.arr k rows)).app st1) a w' := by
    refine StSim.trade (st' := (Upd.put d (.arr k rows)).app st1) h tr h.size h.defers ?_ ?_ (fun x av hx => h.slt x av (by simp only [Upd.app] at hx; rw [e2] at hx; exact hx)) ?_ ?_ ?_ ?_ ?_ ?_
    · intro i j hij hi hj
      exact absurd ((hnewid i hi.1 hi.2).trans (hnewid j hj.1 hj.2).symm) hij
    · intro i o' hor ho'
      have hi := hnewid i (by simp only [Upd.app] at ho'; rw [ho']; rfl) hor
      subst hi
      simp only [Upd.app] at ho' ⊢
      rw [upd_same] at ho'; cases ho'
      simp only [ObjSim]
      rw [upd_same, upd_same]
      exact ho _ fun b hb => tr.sh hb
    · intro x av hx i hi
      refine addU_true.2 (.inl ?_)
      rw [e3]; simp only [Upd.app] at hx; rw [e2] at hx; exact h.uenv x av hx i hi
    · intro i hi
      refine addU_true.2 ?_
      simp only [Upd.app] at hi
      by_cases e : d = i
      · exact .inr (by simp [e])
      · rw [hobj, if_neg e] at hi
        by_cases hm : i ∈ ids
        · rw [if_pos hm] at hi; cases hi
        · rw [if_neg hm] at hi; rw [e3]; exact .inl (h.uobj i hi)
    · intro i v' hp
      obtain ⟨p1, p2⟩ := h.pin i v' hp
      have hne : d ≠ i := fun e => by subst e; rw [p1] at hd; cases hd
      refine ⟨addU_true.2 (.inl (by rw [e3]; exact p1)), fun hi => ?_⟩
      simp only [Upd.app] at hi
      rw [hobj, if_neg hne] at hi
      rw [upd_ne _ _ hne]
      by_cases hm : i ∈ ids
      · rw [if_pos hm] at hi; cases hi
      · rw [if_neg hm] at hi; exact p2 hi
    · intro i xs hx j hj
      refine addU_true.2 (.inl ?_)
      simp only [Upd.app] at hx
      rw [hobj] at hx
      by_cases e : d = i
      · rw [if_pos e] at hx; cases hx
      · rw [if_neg e] at hx
        by_cases hm : i ∈ ids
        · rw [if_pos hm] at hx; cases hx
        · rw [if_neg hm] at hx; rw [e3]; exact h.ubox i xs hx j hj
    · intro i xs hx hni av hav hl
      have hu : ∀ j ∈ av.ids, st.used j = true := by
        intro j hj
        obtain ⟨l, hlt, rfl⟩ := List.mem_iff_getElem.1 hav
        exact h.ubox i xs hx j (mem_idsL (List.getElem?_eq_getElem hlt) hj)
      obtain ⟨l1, l2⟩ := live av hu hl
      exact ⟨l1, fun v hv => h.keepAV (st' := (Upd.put d (.arr k rows)).app st1) tr hv l2⟩
    · intro x av hx hl
      simp only [Upd.app] at hx; rw [e2] at hx
      obtain ⟨l1, l2⟩ := live av (h.uenv x av hx) hl
      obtain ⟨v', h1, h2⟩ := h.env x av hx l1
      exact ⟨v', h1, h.keepAV (st' := (Upd.put d (.arr k rows)).app st1) tr h2 l2⟩
  have hob : ((Upd.put d (.arr k rows)).app st1).obj d = some (.arr k rows) := upd_same _ _ _
  exact ⟨_, _, key.set hn fun _ => .ref hob (p := []) rfl (by simp only [Hdr]; rw [upd_same])⟩

theorem sh_disj {b : Nat} (hb : Sh A0 F0 w0 T st.obj w b) {i : Nat} (hi : (st.obj i).isSome = true) : ¬ T i b := hb.2.2 i hi

/-- The types of a slice's elements. -/
structure ElemTy (P : Program) (t e : TypeId) (k : Nat) (bytes : Nat) : Prop where
  und : P.underlying t = some (.slice e)
  info : ∃ i z, P.info? e = some i ∧ i.size = k ∧ i.zero = some z ∧ z.cells.size = k ∧ i.bytes = bytes
  pos : 0 < k

section
variable {d : Nat} {ty : TypeId} {pos : String} {after : Array Edge} {g : Option (Nat × Bool)}

/-- A slice literal. -/
theorem op_buildSlice {t e : TypeId} {k bytes len : Nat} {parts : List (Nat × Operand)} {avs : List AV} {yss : List (List AV)} {rows : List (List Cell)} {os : List (Nat × Nat × List (List Cell))}
    (hty : ElemTy P t e k bytes) (hd : parts.map (·.1) = List.range len) (hl : parts.length = avs.length) (hc : avs.map AV.cells? = yss.map some) (hyk : ∀ ys ∈ yss, ys.length = k)
    (habs : Absorb yss.flatten rows.flatten os) (hrk : ∀ r ∈ rows, r.length = k) (hlen : rows.length = len) (h0 : 0 < len) (hbig : len * k ≤ 16777216) (hn : d < n) :
    OpL0 P n ⟨some d, .buildSlice t len parts.toArray, ty, pos, after, g⟩ (opds (parts.map (·.2)) avs ++ (.fresh d :: (os.map fun p => .obj p.1 (.arr p.2.1 p.2.2)) ++ lives (idsL avs)))
      (dels (os.map (·.1)) ++ [.put d (.arr k rows), .set d (.ref d [])]) := by
  intro pn w0 A0 F0 st a w hB hS hs K Q hK
  obtain ⟨hv, T, hT⟩ := hS
  obtain ⟨ho, hrest⟩ := opds_of (by simpa using hl) hs
  have hf : st.used d = false := hrest (.fresh d) (by simp)
  have hobj : ∀ p ∈ os, st.obj p.1 = some (.arr p.2.1 p.2.2) := fun p hp => hrest (.obj p.1 (.arr p.2.1 p.2.2)) (by simp only [List.cons_append, List.mem_cons, List.mem_append, List.mem_map]; exact .inr (.inl ⟨p, hp, rfl⟩))
  have hlive : ∀ i ∈ idsL avs, (st.obj i).isSome = true := live_of fun r hr => hrest r (by simp only [List.cons_append, List.mem_cons, List.mem_append]; exact .inr (.inr hr))
  obtain ⟨ie, z, hie, hsz, hz, hzc, hbytes⟩ := hty.info
  have hkpos := hty.pos
  have hlen2 : avs.length = len := by have := congrArg List.length hd; simp at this; omega
  -- the values
  let vs := parts.map fun p => a.eval p.2
  have hvs : ∀ (i : Nat) av v, avs[i]? = some av → vs[i]? = some v → AVSim w (Sh A0 F0 w0 T st.obj w) hv st.obj av v := by
    intro i av v h1 h2
    simp only [vs, List.getElem?_map] at h2
    obtain ⟨p, hp, rfl⟩ := Option.map_eq_some_iff.1 h2
    exact hT.eval (ho.get (by rw [List.getElem?_map, hp]; rfl) h1) fun id hid => hlive id (mem_idsL h1 hid)
  have hcell : ∀ (i : Nat) v, vs[i]? = some v → ∃ ys, yss[i]? = some ys ∧ v.cells.size = ys.length ∧ ∀ (j : Nat) y u, ys[j]? = some y → v.cells[j]? = some u → AVSim w (Sh A0 F0 w0 T st.obj w) hv st.obj y u := by
    intro i v hv'
    have hi : i < avs.length := by have := (List.getElem?_eq_some_iff.1 hv').1; simp [vs] at this; omega
    have hav : avs[i]? = some avs[i] := by simp [hi]
    have hci : (avs.map AV.cells?)[i]? = some (avs[i].cells?) := by rw [List.getElem?_map, hav]; rfl
    rw [hc, List.getElem?_map] at hci
    obtain ⟨ys, hys, e2⟩ := Option.map_eq_some_iff.1 hci
    obtain ⟨c1, c2⟩ := hT.cells (hvs i _ v hav hv') e2.symm
    exact ⟨ys, hys, c1, c2⟩
  have hvk : ∀ v ∈ vs, v.cells.size = k := by
    intro v hv'
    obtain ⟨i, hi, rfl⟩ := List.mem_iff_getElem.1 hv'
    obtain ⟨ys, h1, h2, _⟩ := hcell i _ (List.getElem?_eq_getElem hi)
    rw [h2]; exact hyk ys (List.mem_of_getElem? h1)
  have hvl : vs.length = len := by simp [vs]; omega
  have hyl : yss.length = len := by have := congrArg List.length hc; simp at this; omega
  obtain ⟨r, f1, f2, f3⟩ := Great.fill_dense hkpos vs 0 ((Array.range (len * k)).map (z.cells[· % z.cells.size]!)) hvk (by simp [hvl])
  have hzip : (vs.zipIdx 0).map (fun x => (x.2, x.1)) = parts.map fun p => (p.1, a.eval p.2) := by
    apply List.ext_getElem?
    intro i
    simp only [List.getElem?_map, List.getElem?_zipIdx, vs]
    cases hp : parts[i]? with
    | none => simp
    | some p =>
      have : (parts.map (·.1))[i]? = some p.1 := by rw [List.getElem?_map, hp]; rfl
      rw [hd] at this
      have hpi : p.1 = i := by
        have := (List.getElem?_eq_some_iff.1 this).2
        simpa using this.symm
      simp [hpi]
  have hrun : (execOp a.eval ⟨some d, .buildSlice t len parts.toArray, ty, pos, after, g⟩).run P w = .ok (.value (.slice (some ⟨w.heap.size, 0, none⟩) len len)) (w.alloc (.cells r e)) := by
    have := run_buildSlice (P := P) w t e len (parts.map fun p => (p.1, a.eval p.2)).toArray r ie z hty.und hie hz (by rw [hsz]; omega) (by rw [hsz]; exact fun h => by rcases Nat.mul_eq_zero.1 h with h | h <;> omega)
      (by rw [hsz, ← hzip]; exact f1)
    simp only [execOp, Sem.run_bind]
    have e : (parts.toArray.map fun (x : Nat × Operand) => match x with | (i, x) => (i, a.eval x)) = (parts.map fun p => (p.1, a.eval p.2)).toArray := by simp
    rw [e, this]; rfl
  unfold Oper.wp
  rw [hrun]
  have hrs : r.size = len * k := by rw [f2]; simp
  have hflat : yss.flatten.length = len * k := by rw [flatten_length_const hyk, hyl]
  have hsim : ∀ (i : Nat) y u, yss.flatten[i]? = some y → r.toList[i]? = some u → AVSim w (Sh A0 F0 w0 T st.obj w) hv st.obj y u := by
    intro i y u hy hu
    have hil : i < len * k := by have := (List.getElem?_eq_some_iff.1 hy).1; omega
    rw [Array.getElem?_toList, f3 i, if_pos ⟨by omega, by rw [Nat.zero_add, hvl]; exact hil⟩] at hu
    simp only [Nat.sub_zero] at hu
    cases hv1 : vs[i / k]? with
    | none => rw [hv1] at hu; cases hu
    | some v =>
      rw [hv1] at hu
      obtain ⟨ys, h1, h2, h3⟩ := hcell _ v hv1
      have hmod : i % k < k := Nat.mod_lt _ hkpos
      have hdm : i = i / k * k + i % k := by rw [Nat.mul_comm]; exact (Nat.div_add_mod i k).symm
      rw [hdm, List.flatten_getElem?_of_const hyk _ _ hmod, h1] at hy
      exact h3 _ y u hy hu
  obtain ⟨G, g1, g2, g3⟩ := absorb_own hT habs hobj (us := r.toList) (by simp [hflat, hrs]) hsim
  have hfr := frame_alloc w (.cells r e)
  have hids : ∀ i ∈ os.map (·.1), (st.obj i).isSome = true := by
    intro i hi
    obtain ⟨p, hp, rfl⟩ := List.mem_map.1 hi
    simp [hobj p hp]
  have hGlt : ∀ i b, G i b → b < w.heap.size := by
    intro i b hb
    obtain ⟨p, hp, hTb⟩ := g1 i b hb
    exact (hT.own p.1 (by simp [hobj p hp]) b hTb).2
  refine hK _ _ (hT.produce (S := fun b => b = w.heap.size ∨ ∃ i, G i b) hids hf (hfr.mono fun _ f => f.elim) ?_ ?_ hn)
  · rintro b (rfl | ⟨i, hb⟩)
    · exact .inr ⟨Nat.le_refl _, by show _ < (w.heap.push _).size; simp⟩
    · obtain ⟨p, hp, hTb⟩ := g1 i b hb
      exact .inl ⟨p.1, List.mem_map.2 ⟨p, hp, rfl⟩, hTb⟩
  · intro A hA
    have := Own.arr (w := w.alloc (.cells r e)) (A := A) (F := fun b => b = w.heap.size ∨ ∃ i, G i b) (k := k) (rows := rows) (b := w.heap.size) (cap := len) (c := r) (e := e) (G := G) (alloc_new _ _) hrk hrs (by omega)
      (.inl rfl) (fun i b hb => .inr ⟨i, hb⟩) (fun i hb => Nat.lt_irrefl _ (hGlt i _ hb)) (fun i j b hij hi => g2 i j b hij hi)
      (fun i x v h1 h2 => ((g3 i x v h1 (by simpa using h2)).frame (fun b hb => hfr.heap b (hb.elim (fun h => h.2.1) (hGlt i b)) (fun f => f))).mono hA (fun _ h => h))
    rw [hlen] at this
    exact this

/-- An empty slice literal. -/
theorem op_buildSlice0 {t e : TypeId} {k bytes : Nat} (hty : ElemTy P t e k bytes) (hn : d < n) :
    OpL0 P n ⟨some d, .buildSlice t 0 #[], ty, pos, after, g⟩ [.fresh d] [.put d (.arr k []), .set d (.ref d [])] := by
  intro pn w0 A0 F0 st a w hB hS hs K Q hK
  obtain ⟨hv, T, hT⟩ := hS
  have hf : st.used d = false := at0 hs
  obtain ⟨ie, z, hie, hsz, hz, hzc, hbytes⟩ := hty.info
  have hrun : (execOp a.eval ⟨some d, .buildSlice t 0 #[], ty, pos, after, g⟩).run P w = .ok (.value (.slice (some ⟨w.heap.size, 0, none⟩) 0 0)) (w.alloc (.cells #[] e)) := by
    simp [execOp, Instr.buildSlice, run_underlying hty.und, sizeOf, typeInfo, hie, Instr.fill, newRow, Array.range_zero']
  unfold Oper.wp
  rw [hrun]
  have hfr := frame_alloc w (.cells #[] e)
  have := hT.produce (ids := []) (S := fun b => b = w.heap.size) (k := k) (rows := []) (v := .slice (some ⟨w.heap.size, 0, none⟩) 0 0) (w' := w.alloc (.cells #[] e)) (fun i hi => by simp at hi) hf (hfr.mono fun _ f => f.elim)
    (fun b hb => .inr ⟨by omega, by subst hb; show _ < (w.heap.push _).size; simp⟩)
    (fun A hA => Own.arr (G := fun _ => noBlk) (cap := 0) (alloc_new _ _) (by simp) (by simp) (by simp) rfl (fun _ _ f => f.elim) (fun _ f => f.elim) (fun _ _ _ _ f => f.elim) (fun i x v h => by simp at h)) hn
  exact hK _ _ this

/-- Cells at zero: a nil slice may be taken as a slice of any rows. -/
inductive Zeros : List Value → List Cell → Prop
  | nil : Zeros [] []
  | lit {v : Value} {vs : List Value} {cs : List Cell} (t : Zeros vs cs) : Zeros (v :: vs) (.lit v :: cs)
  | sl {o : Bool} {k : Nat} {vs : List Value} {cs : List Cell} (t : Zeros vs cs) : Zeros (.slice none 0 0 :: vs) (.sl o k [] :: cs)
theorem Zeros.length {vs : List Value} {cs : List Cell} (h : Zeros vs cs) : cs.length = vs.length := by
  induction h <;> simp [*]
theorem Zeros.own {vs : List Value} {cs : List Cell} (h : Zeros vs cs) {i : Nat} {x : Cell} {v : Value} {w : World} {A F : Blks} (h1 : cs[i]? = some x) (h2 : vs[i]? = some v) : Own w A F x v := by
  induction h generalizing i with
  | nil => simp at h1
  | lit t ih =>
    cases i with
    | zero => simp at h1 h2; subst h1 h2; exact .lit _
    | succ i => exact ih (by simpa using h1) (by simpa using h2)
  | sl t ih =>
    cases i with
    | zero => simp at h1 h2; subst h1 h2; exact .nil _ _
    | succ i => exact ih (by simpa using h1) (by simpa using h2)

/-- make([]T, n). -/
theorem op_makeSlice {t e : TypeId} {k bytes : Nat} {x y : Operand} {m : Int} {zr : List Cell} {zs : List Value} (hty : ElemTy P t e k bytes) (hz : ∀ i z, P.info? e = some i → i.zero = some z → z.cells.toList = zs)
    (hzr : Zeros zs zr) (h0 : 0 ≤ m) (hb : (bytes : Int) * m ≤ 281474976710656) (hm : m ≤ 9223372036854775807) (hn : d < n) :
    OpL0 P n ⟨some d, .makeSlice t x y, ty, pos, after, g⟩ [.opd x (aInt m), .opd y (aInt m), .fresh d] [.put d (.arr k (List.replicate m.toNat zr)), .set d (.ref d [])] := by
  intro pn w0 A0 F0 st a w hB hS hs K Q hK
  obtain ⟨hv, T, hT⟩ := hS
  have hx := hT.lit (at0 hs)
  have hy := hT.lit (at1 hs)
  have hf : st.used d = false := at2 hs
  obtain ⟨ie, z, hie, hsz, hz', hzc, hbytes⟩ := hty.info
  have hzl := hz ie z hie hz'
  have hrun : (execOp a.eval ⟨some d, .makeSlice t x y, ty, pos, after, g⟩).run P w = .ok (.value (.slice (some ⟨w.heap.size, 0, none⟩) m.toNat m.toNat)) (w.alloc (.cells (madeCells z.cells (m.toNat * ie.size)) e)) := by
    simp only [execOp, hx, hy, Sem.run_bind]
    rw [run_make w t e ie z hty.und hie hz' .i64 .i64 m m h0 (Int.le_refl _) (by rw [hbytes]; exact hb) hm]; rfl
  unfold Oper.wp
  rw [hrun]
  have hfr := frame_alloc w (.cells (madeCells z.cells (m.toNat * ie.size)) e)
  have hzrl : zr.length = k := by rw [hzr.length, ← hzl]; simpa using hzc
  have hkpos := hty.pos
  have hown : ∀ A : Blks, Own (w.alloc (.cells (madeCells z.cells (m.toNat * ie.size)) e)) A (fun b => b = w.heap.size) (.sl true k (List.replicate m.toNat zr)) (.slice (some ⟨w.heap.size, 0, none⟩) m.toNat m.toNat) := by
    intro A
    have hk : ∀ r ∈ List.replicate m.toNat zr, r.length = k := fun r hr => by rw [(List.mem_replicate.1 hr).2]; exact hzrl
    have := Own.arr (w := w.alloc (.cells (madeCells z.cells (m.toNat * ie.size)) e)) (A := A) (F := fun b => b = w.heap.size) (k := k) (rows := List.replicate m.toNat zr) (b := w.heap.size) (cap := m.toNat)
      (e := e) (G := fun _ => noBlk) (alloc_new _ _) hk (by rw [size_madeCells, hsz]) (by simp) rfl (fun _ _ f => f.elim) (fun _ f => f.elim) (fun _ _ _ _ f => f.elim)
      (fun i x v h1 h2 => by
        have hmem := mem_flatten_of_getElem? h1
        obtain ⟨r, hr, hxr⟩ := hmem
        have hi : i < m.toNat * k := by
          have := (List.getElem?_eq_some_iff.1 h1).1
          rw [flatten_length_const hk] at this
          simpa using this
        have hdm : i = i / k * k + i % k := by rw [Nat.mul_comm]; exact (Nat.div_add_mod i k).symm
        have hmod : i % k < k := Nat.mod_lt _ hkpos
        rw [hdm, List.flatten_getElem?_of_const hk _ _ hmod] at h1
        have hdiv : i / k < m.toNat := Nat.div_lt_of_lt_mul (by rw [Nat.mul_comm]; exact hi)
        rw [List.getElem?_replicate, if_pos hdiv, Option.bind_some] at h1
        have hlt : i % k < zs.length := by have := hzr.length; omega
        obtain ⟨u, hu⟩ : ∃ u, zs[i % k]? = some u := ⟨_, List.getElem?_eq_getElem hlt⟩
        have hv' : v = u := by
          unfold madeCells at h2
          rw [Array.getElem?_map, hsz] at h2
          have : (Array.range (m.toNat * k))[i]? = some i := by simp [hi]
          rw [this] at h2
          simp only [Option.map_some, Option.some.injEq] at h2
          rw [hzc] at h2
          have hmz : i % k < z.cells.size := by omega
          rw [getElem!_pos z.cells (i % k) hmz] at h2
          have hu2 := hu
          rw [← hzl, Array.getElem?_toList, Array.getElem?_eq_getElem hmz] at hu2
          rw [← h2]
          exact Option.some.inj hu2
        rw [hv']
        exact hzr.own h1 hu)
    simpa using this
  have := hT.produce (ids := []) (S := fun b => b = w.heap.size) (k := k) (rows := List.replicate m.toNat zr) (v := .slice (some ⟨w.heap.size, 0, none⟩) m.toNat m.toNat) (w' := w.alloc (.cells (madeCells z.cells (m.toNat * ie.size)) e))
    (fun i hi => by simp at hi) hf (hfr.mono fun _ f => f.elim) (fun b hb => .inr ⟨by omega, by subst hb; show _ < (w.heap.push _).size; simp⟩) (fun A _ => hown A) hn
  exact hK _ _ this
end
end
end Go.Am
