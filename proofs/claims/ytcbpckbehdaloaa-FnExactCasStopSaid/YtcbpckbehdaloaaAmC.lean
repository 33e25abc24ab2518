/- How the abstract state follows a change of the world. Own work; generic. -/
import Derived.Test.YtcbpckbehdaloaaAmB
set_option linter.unusedSimpArgs false
set_option linter.unusedVariables false
namespace Go.Am
open Go

theorem mem_idsL {xs : List AV} {i : Nat} {x : AV} {id : Nat} (h : xs[i]? = some x) (hx : id ∈ x.ids) : id ∈ idsL xs := by
  induction xs generalizing i with
  | nil => simp at h
  | cons y ys ih =>
    cases i with
    | zero => simp at h; subst h; simp [idsL, hx]
    | succ i =>
      simp only [List.getElem?_cons_succ] at h
      simp only [idsL, List.mem_append]
      exact .inr (ih h)

section
variable {pn : Nat → Option Value} {w0 : World} {A0 F0 : Blks} {hv hv' : Nat → Value} {T T' : Nat → Blks} {obj obj' : Nat → Option Obj} {w w' : World} {D : Nat → Prop}

/-- What is traded: the objects D go, or turn; all others stay. -/
structure Trade (w0 : World) (A0 F0 : Blks) (hv hv' : Nat → Value) (T T' : Nat → Blks) (obj obj' : Nat → Option Obj) (D : Nat → Prop) (w w' : World) : Prop where
  here : ∀ id, D id → (obj id).isSome = true
  frame : Frame (fun b => ∃ d, D d ∧ T d b) w w'
  old : ∀ id, (obj id).isSome = true → ¬ D id → obj' id = obj id ∧ hv' id = hv id ∧ T' id = T id
  new : ∀ id, (obj' id).isSome = true → (D id ∨ obj id = none) → ∀ b, T' id b → (∃ d, D d ∧ T d b) ∨ (w.heap.size ≤ b ∧ b < w'.heap.size)

theorem Trade.sh (h : Trade w0 A0 F0 hv hv' T T' obj obj' D w w') {b : Nat} (hb : Sh A0 F0 w0 T obj w b) : Sh A0 F0 w0 T' obj' w' b := by
  obtain ⟨h1, h2, h3⟩ := hb
  refine ⟨h1, Nat.lt_of_lt_of_le h2 h.frame.size, fun id hid hT => ?_⟩
  by_cases hn : D id ∨ obj id = none
  · rcases h.new id hid hn b hT with ⟨d, hd, hTd⟩ | ⟨hl, _⟩
    · exact h3 d (h.here d hd) hTd
    · omega
  · have hs : (obj id).isSome = true := by
      cases ho : obj id with
      | none => exact absurd (.inr ho) hn
      | some _ => rfl
    have hnd : ¬ D id := fun hd => hn (.inl hd)
    obtain ⟨_, _, e⟩ := h.old id hs hnd
    rw [e] at hT
    exact h3 id hs hT

theorem Trade.same (h : Trade w0 A0 F0 hv hv' T T' obj obj' D w w') {b : Nat} (hb : Sh A0 F0 w0 T obj w b) : w'.heap[b]? = w.heap[b]? :=
  h.frame.heap b hb.2.1 fun ⟨d, hd, hT⟩ => hb.2.2 d (h.here d hd) hT

theorem Trade.own (h : Trade w0 A0 F0 hv hv' T T' obj obj' D w w') {c : Cell} {v : Value} (ho : Own w (Sh A0 F0 w0 T obj w) noBlk c v) :
    Own w' (Sh A0 F0 w0 T' obj' w') noBlk c v :=
  (ho.frame fun _ hb => hb.elim h.same (fun f => f.elim)).mono (fun _ hb => h.sh hb) (fun _ f => f)

/-- What names untouched objects alone stays as it is. -/
theorem Trade.keep (h : Trade w0 A0 F0 hv hv' T T' obj obj' D w w')
    (hdis : ∀ i j, i ≠ j → (obj i).isSome = true → (obj j).isSome = true → ∀ b, T i b → ¬ T j b)
    (hown : ∀ id, (obj id).isSome = true → ∀ b, T id b → b < w.heap.size)
    (hheap : ∀ id k rows, obj id = some (.arr k rows) → Own w (Sh A0 F0 w0 T obj w) (T id) (.sl true k rows) (hv id)) {av : AV} {v : Value}
    (ha : AVSim w (Sh A0 F0 w0 T obj w) hv obj av v) : (∀ id ∈ av.ids, ¬ D id) → AVSim w' (Sh A0 F0 w0 T' obj' w') hv' obj' av v := by
  have hblk : ∀ id, (obj id).isSome = true → ¬ D id → ∀ b, Sh A0 F0 w0 T obj w b ∨ T id b → w'.heap[b]? = w.heap[b]? := by
    intro id hs hnd b hb
    rcases hb with hb | hb
    · exact h.same hb
    · refine h.frame.heap b (hown id hs b hb) ?_
      rintro ⟨d, hd, hT⟩
      by_cases e : d = id
      · subst e; exact hnd hd
      · exact hdis d id e (h.here d hd) hs b hT hb
  induction ha with
  | dead v => exact fun _ => .dead v
  | c ho => exact fun _ => .c (h.own ho)
  | row hs hh => exact fun _ => .row hs fun i x v h1 h2 => h.own (hh i x v h1 h2)
  | @ref id p k k' o rows rows' v ho hg hh =>
    intro hid
    have hnd : ¬ D id := hid id (by simp [AV.ids])
    obtain ⟨e1, e2, _⟩ := h.old id (by simp [ho]) hnd
    refine .ref (by rw [e1]; exact ho) hg ?_
    rw [e2]
    exact Hdr.frame (hheap id k rows ho) (hblk id (by simp [ho]) hnd) hh
  | @ptr id p k i j k0 rows o rows' b off n cap ho hg hh =>
    intro hid
    have hnd : ¬ D id := hid id (by simp [AV.ids])
    obtain ⟨e1, e2, _⟩ := h.old id (by simp [ho]) hnd
    refine .ptr (n := n) (cap := cap) (by rw [e1]; exact ho) hg ?_
    rw [e2]
    exact Hdr.frame (hheap id k0 rows ho) (hblk id (by simp [ho]) hnd) hh
  | @bx id j b xs ho hh =>
    intro hid
    have hnd : ¬ D id := hid id (by simp [AV.ids])
    obtain ⟨e1, e2, _⟩ := h.old id (by simp [ho]) hnd
    exact .bx (by rw [e1]; exact ho) (by rw [e2]; exact hh)
  | @pts xs b off c e fr hb hA hs hh =>
    intro _
    exact .pts (by rw [h.same hA]; exact hb) (h.sh hA) hs fun i x v h1 h2 => h.own (hh i x v h1 h2)
  | @mp id ks v ho hh =>
    intro hid
    have hnd : ¬ D id := hid id (by simp [AV.ids])
    obtain ⟨e1, e2, _⟩ := h.old id (by simp [ho]) hnd
    exact .mp (by rw [e1]; exact ho) (by rw [e2]; exact hh)
  | @agg xs vs hs hh ih =>
    intro hid
    refine .agg hs fun i x v h1 h2 => ih i x v h1 h2 fun id hx => hid id ?_
    simp only [AV.ids]
    exact mem_idsL h1 hx
  | @tup xs vs hs hh ih =>
    intro hid
    refine .tup hs fun i x v h1 h2 => ih i x v h1 h2 fun id hx => hid id ?_
    simp only [AV.ids]
    exact mem_idsL h1 hx
  | @fn f xs vs hs hh ih =>
    intro hid
    refine .fn hs fun i x v h1 h2 => ih i x v h1 h2 fun id hx => hid id ?_
    simp only [AV.ids]
    exact mem_idsL h1 hx
end

section
variable {n : Nat} {pn : Nat → Option Value} {w0 : World} {A0 F0 : Blks} {hv hv' : Nat → Value} {T T' : Nat → Blks} {st st' : St} {a a' : Act} {w w' : World} {D : Nat → Prop}

/-- THE ONE STEP: what is traded must be shown; what is not named stays. -/
theorem StSim.trade (h : StSim n pn w0 A0 F0 hv T st a w) (t : Trade w0 A0 F0 hv hv' T T' st.obj st'.obj D w w')
    (hsz : a'.tmps.size = n) (hdf : a'.defers = [])
    (hdis : ∀ i j, i ≠ j → ((st'.obj i).isSome = true ∧ (D i ∨ st.obj i = none)) → ((st'.obj j).isSome = true ∧ (D j ∨ st.obj j = none)) → ∀ b, T' i b → ¬ T' j b)
    (hnew : ∀ id o, (D id ∨ st.obj id = none) → st'.obj id = some o → ObjSim w' (Sh A0 F0 w0 T' st'.obj w') hv' st'.obj (T' id) id o)
    (hsl : ∀ x av, st'.env x = some av → x < n) (hue : ∀ x av, st'.env x = some av → ∀ id ∈ av.ids, st'.used id = true) (huo : ∀ id, (st'.obj id).isSome = true → st'.used id = true)
    (hpn : ∀ id v, pn id = some v → st'.used id = true ∧ ((st'.obj id).isSome = true → hv' id = v))
    (hub : ∀ id xs, st'.obj id = some (.box xs) → ∀ j ∈ idsL xs, st'.used j = true)
    (hbox : ∀ id xs, st.obj id = some (.box xs) → ¬ D id → ∀ av ∈ xs, Live st'.obj av → Live st.obj av ∧ ∀ v, AVSim w (Sh A0 F0 w0 T st.obj w) hv st.obj av v → AVSim w' (Sh A0 F0 w0 T' st'.obj w') hv' st'.obj av v)
    (henv : ∀ x av, st'.env x = some av → Live st'.obj av → ∃ v, a'.tmps[x]? = some v ∧ AVSim w' (Sh A0 F0 w0 T' st'.obj w') hv' st'.obj av v) :
    StSim n pn w0 A0 F0 hv' T' st' a' w' := by
  have hown' : ∀ id, (st.obj id).isSome = true → ∀ b, T id b → b < w.heap.size := fun id hs b hb => (h.own id hs b hb).2
  have isnew : ∀ id, (st'.obj id).isSome = true → ¬ (D id ∨ st.obj id = none) → (st.obj id).isSome = true ∧ ¬ D id := by
    intro id _ hn
    refine ⟨?_, fun hd => hn (.inl hd)⟩
    cases ho : st.obj id with
    | none => exact absurd (.inr ho) hn
    | some _ => rfl
  refine ⟨hsz, hdf, ?_, henv, ?_, ?_, ?_, hsl, hue, huo, hpn, hub, h.pbig⟩
  · refine h.frame.trans t.frame ?_
    rintro b ⟨d, hd, hT⟩
    exact (h.own d (t.here d hd) b hT).1
  · intro id o ho
    by_cases hn : D id ∨ st.obj id = none
    · exact hnew id o hn ho
    · obtain ⟨hs, hnd⟩ := isnew id (by simp [ho]) hn
      obtain ⟨e1, e2, e3⟩ := t.old id hs hnd
      rw [e1] at ho
      have hold := h.heap id o ho
      rw [e3]
      have hb : ∀ b, Sh A0 F0 w0 T st.obj w b ∨ T id b → w'.heap[b]? = w.heap[b]? := by
        intro b hb
        rcases hb with hb | hb
        · exact t.same hb
        · refine t.frame.heap b (hown' id hs b hb) ?_
          rintro ⟨d, hd, hT⟩
          by_cases e : d = id
          · subst e; exact hnd hd
          · exact h.dis d id e (t.here d hd) hs b hT hb
      cases o with
      | arr k rows =>
        simp only [ObjSim] at hold ⊢
        rw [e2]
        exact (hold.frame hb).mono (fun _ hx => t.sh hx) (fun _ hx => hx)
      | box xs =>
        simp only [ObjSim] at hold ⊢
        obtain ⟨b, c, e, h1, h2, h3, h4, h5⟩ := hold
        refine ⟨b, c, e, by rw [e2]; exact h1, by rw [hb b (.inr h4)]; exact h2, h3, h4, ?_⟩
        intro i x v hx hc hl
        have hm := hbox id xs ho hnd x (List.mem_of_getElem? hx) hl
        exact hm.2 v (h5 i x v hx hc hm.1)
      | mp keys =>
        simp only [ObjSim] at hold ⊢
        obtain ⟨b, es, clock, h1, h2, h3, h4⟩ := hold
        exact ⟨b, es, clock, by rw [e2]; exact h1, by rw [hb b (.inr h3)]; exact h2, h3, h4⟩
  · intro id hs b hb
    by_cases hn : D id ∨ st.obj id = none
    · rcases t.new id hs hn b hb with ⟨d, hd, hT⟩ | ⟨h1, h2⟩
      · have := h.own d (t.here d hd) b hT
        exact ⟨this.1, Nat.lt_of_lt_of_le this.2 t.frame.size⟩
      · exact ⟨.inr (Nat.le_trans h.frame.size h1), h2⟩
    · obtain ⟨hs', hnd⟩ := isnew id hs hn
      obtain ⟨_, _, e3⟩ := t.old id hs' hnd
      rw [e3] at hb
      have := h.own id hs' b hb
      exact ⟨this.1, Nat.lt_of_lt_of_le this.2 t.frame.size⟩
  · intro i j hij hi hj b hTi hTj
    by_cases hni : D i ∨ st.obj i = none
    · by_cases hnj : D j ∨ st.obj j = none
      · exact hdis i j hij ⟨hi, hni⟩ ⟨hj, hnj⟩ b hTi hTj
      · obtain ⟨hs, hnd⟩ := isnew j hj hnj
        obtain ⟨_, _, e3⟩ := t.old j hs hnd
        rw [e3] at hTj
        rcases t.new i hi hni b hTi with ⟨d, hd, hT⟩ | ⟨h1, h2⟩
        · have : d ≠ j := fun e => hnd (e ▸ hd)
          exact h.dis d j this (t.here d hd) hs b hT hTj
        · have := (h.own j hs b hTj).2; omega
    · obtain ⟨hs, hnd⟩ := isnew i hi hni
      obtain ⟨_, _, e3⟩ := t.old i hs hnd
      rw [e3] at hTi
      by_cases hnj : D j ∨ st.obj j = none
      · rcases t.new j hj hnj b hTj with ⟨d, hd, hT⟩ | ⟨h1, h2⟩
        · have : d ≠ i := fun e => hnd (e ▸ hd)
          exact h.dis d i this (t.here d hd) hs b hT hTi
        · have := (h.own i hs b hTi).2; omega
      · obtain ⟨hs', hnd'⟩ := isnew j hj hnj
        obtain ⟨_, _, e3'⟩ := t.old j hs' hnd'
        rw [e3'] at hTj
        exact h.dis i j hij hs hs' b hTi hTj

/-- The kept entries, by the trade. -/
theorem StSim.keepAV (h : StSim n pn w0 A0 F0 hv T st a w) (t : Trade w0 A0 F0 hv hv' T T' st.obj st'.obj D w w') {av : AV} {v : Value}
    (ha : AVSim w (Sh A0 F0 w0 T st.obj w) hv st.obj av v) (hid : ∀ id ∈ av.ids, ¬ D id) : AVSim w' (Sh A0 F0 w0 T' st'.obj w') hv' st'.obj av v :=
  Trade.keep t h.dis (fun id hs b hb => (h.own id hs b hb).2) (fun id _ _ ho => h.heap id _ ho) ha hid
end
end Go.Am
