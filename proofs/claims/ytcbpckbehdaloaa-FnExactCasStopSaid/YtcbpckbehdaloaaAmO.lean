/- Calls: results opened; the call itself. Own work; generic. -/
import Derived.Test.YtcbpckbehdaloaaAmN
set_option linter.unusedSimpArgs false
set_option linter.unusedVariables false
namespace Go.Am
open Go

/-- A new object, with its header and its blocks. -/
structure New where
  id : Nat
  k : Nat
  rows : List (List Cell)
  v : Value
  S : Blks
def New.obj (m : New) : Nat × Nat × List (List Cell) := (m.id, m.k, m.rows)
def puts (os : Objs) : List Upd := os.map fun p => .put p.1 (.arr p.2.1 p.2.2)

theorem puts_noKill (os : Objs) : (puts os).all Upd.noKill = true := by
  induction os with
  | nil => rfl
  | cons p os ih => exact ih
theorem puts_slots (os : Objs) : (puts os).flatMap Upd.slots = [] := by
  induction os with
  | nil => rfl
  | cons p os ih => simpa [puts, Upd.slots] using ih
theorem puts_objs (os : Objs) : (puts os).flatMap Upd.objs = os.map (·.1) := by
  induction os with
  | nil => rfl
  | cons p os ih => simpa [puts, Upd.objs] using ih
theorem puts_ments (os : Objs) : (puts os).flatMap Upd.ments = os.map (·.1) := by
  induction os with
  | nil => rfl
  | cons p os ih => simpa [puts, Upd.ments, Obj.ids] using ih
theorem puts_env (os : Objs) (st : St) : (apps (puts os) st).env = st.env := by
  funext x; exact apps_env (puts_noKill os) (by rw [puts_slots]; simp)
theorem puts_old {os : Objs} {st : St} {i : Nat} (h : i ∉ os.map (·.1)) : (apps (puts os) st).obj i = st.obj i := apps_obj (puts_noKill os) (by rw [puts_objs]; exact h)
theorem puts_new : ∀ {os : Objs} {st : St}, (os.map (·.1)).Nodup → ∀ p ∈ os, (apps (puts os) st).obj p.1 = some (.arr p.2.1 p.2.2)
  | q :: os, st, hnd, p, hp => by
    simp only [List.map_cons, List.nodup_cons] at hnd
    show (apps (puts os) ((Upd.put q.1 (.arr q.2.1 q.2.2)).app st)).obj p.1 = _
    rcases List.mem_cons.1 hp with rfl | hp
    · rw [puts_old hnd.1]; exact upd_same _ _ _
    · exact puts_new hnd.2 p hp

section
variable {P : Program} {n : Nat}
variable {pn : Nat → Option Value} {w0 : World} {A0 F0 : Blks} {hv : Nat → Value} {T : Nat → Blks} {st st' : St} {a : Act} {w w' : World}

def newAt {α : Type} (f : New → α) (old : Nat → α) : List New → Nat → α
  | [], i => old i
  | m :: ms, i => if m.id = i then f m else newAt f old ms i
theorem newAt_old {α : Type} {f : New → α} {old : Nat → α} : ∀ {ns : List New} {i : Nat}, i ∉ ns.map New.id → newAt f old ns i = old i
  | [], _, _ => rfl
  | m :: ms, i, h => by
    simp only [List.map_cons, List.mem_cons, not_or] at h
    rw [newAt, if_neg (fun e => h.1 e.symm)]; exact newAt_old h.2
theorem newAt_new {α : Type} {f : New → α} {old : Nat → α} : ∀ {ns : List New}, (ns.map New.id).Nodup → ∀ m ∈ ns, newAt f old ns m.id = f m
  | m :: ms, hnd, q, hq => by
    simp only [List.map_cons, List.nodup_cons] at hnd
    rcases List.mem_cons.1 hq with rfl | hq
    · rw [newAt, if_pos rfl]
    · rw [newAt, if_neg (fun e => hnd.1 (List.mem_map.2 ⟨q, hq, e.symm⟩))]; exact newAt_new hnd.2 q hq

theorem StSim.grow (h : StSim n pn w0 A0 F0 hv T st a w) (hfr : Frame noBlk w w') (ns : List New) (hid : ∀ m ∈ ns, st.used m.id = false) (hnd : (ns.map New.id).Nodup)
    (hS : ∀ m ∈ ns, ∀ b, m.S b → w.heap.size ≤ b ∧ b < w'.heap.size) (hdis : ∀ p ∈ ns, ∀ q ∈ ns, p.id ≠ q.id → ∀ b, p.S b → ¬ q.S b) (B : Blks)
    (hB : ∀ b, B b → Sh A0 F0 w0 T st.obj w b ∨ (w.heap.size ≤ b ∧ b < w'.heap.size ∧ ∀ m ∈ ns, ¬ m.S b)) (hown : ∀ m ∈ ns, Own w' B m.S (.sl true m.k m.rows) m.v) :
    ∃ hv' T', StSim n pn w0 A0 F0 hv' T' (apps (puts (ns.map New.obj)) st) a w' ∧ (∀ m ∈ ns, hv' m.id = m.v ∧ (apps (puts (ns.map New.obj)) st).obj m.id = some (.arr m.k m.rows)) ∧
      (∀ b, B b → Sh A0 F0 w0 T' (apps (puts (ns.map New.obj)) st).obj w' b) := by
  have hids : (ns.map New.obj).map (·.1) = ns.map New.id := by simp [New.obj, Function.comp_def]
  have hold : ∀ i, i ∉ ns.map New.id → (apps (puts (ns.map New.obj)) st).obj i = st.obj i := fun i hi => puts_old (by rw [hids]; exact hi)
  have hnew : ∀ m ∈ ns, (apps (puts (ns.map New.obj)) st).obj m.id = some (.arr m.k m.rows) := fun m hm => puts_new (by rw [hids]; exact hnd) m.obj (List.mem_map.2 ⟨m, hm, rfl⟩)
  have henv : (apps (puts (ns.map New.obj)) st).env = st.env := puts_env _ _
  have hused : ∀ i, (apps (puts (ns.map New.obj)) st).used i = true ↔ st.used i = true ∨ i ∈ ns.map New.id := by
    intro i; rw [apps_used, puts_ments, hids]
  have hnone : ∀ m ∈ ns, st.obj m.id = none := by
    intro m hm
    cases ho : st.obj m.id with
    | none => rfl
    | some o => have := h.uobj m.id (by simp [ho]); rw [hid m hm] at this; cases this
  generalize hst' : apps (puts (ns.map New.obj)) st = st' at *
  let hv' := newAt New.v hv ns
  let T' := newAt New.S T ns
  have isnew : ∀ i, (st'.obj i).isSome = true → (False ∨ st.obj i = none) → ∃ m ∈ ns, m.id = i := by
    intro i hi hno
    by_cases hm : i ∈ ns.map New.id
    · obtain ⟨m, hm', rfl⟩ := List.mem_map.1 hm; exact ⟨m, hm', rfl⟩
    · rw [hold i hm, hno.resolve_left (fun f => f)] at hi; cases hi
  have notnew : ∀ i, (st.obj i).isSome = true → i ∉ ns.map New.id := by
    intro i hi hm
    obtain ⟨m, hm', rfl⟩ := List.mem_map.1 hm
    rw [hnone m hm'] at hi; cases hi
  have tr : Trade w0 A0 F0 hv hv' T T' st.obj st'.obj (fun _ => False) w w' := by
    refine ⟨fun _ f => f.elim, hfr.mono fun b f => f.elim, fun j hj _ => ?_, fun j hj hno b hb => ?_⟩
    · have := notnew j hj
      exact ⟨hold j this, newAt_old this, newAt_old this⟩
    · obtain ⟨m, hm, rfl⟩ := isnew j hj hno
      have e : T' m.id = m.S := newAt_new hnd m hm
      rw [e] at hb
      exact .inr (hS m hm b hb)
  have live : ∀ av : AV, (∀ i ∈ av.ids, st.used i = true) → Live st'.obj av → Live st.obj av := by
    intro av hu hl i hi
    have := hl i hi
    by_cases hm : i ∈ ns.map New.id
    · obtain ⟨m, hm', rfl⟩ := List.mem_map.1 hm
      have := hu _ hi; rw [hid m hm'] at this; cases this
    · rwa [hold i hm] at this
  have hBs : ∀ b, B b → Sh A0 F0 w0 T' st'.obj w' b := by
    intro b hb
    rcases hB b hb with hb | ⟨h1, h2, h3⟩
    · exact tr.sh hb
    · refine ⟨.inr (.inr (Nat.le_trans h.frame.size h1)), h2, fun i hi hT => ?_⟩
      by_cases hm : i ∈ ns.map New.id
      · obtain ⟨m, hm', rfl⟩ := List.mem_map.1 hm
        have e : T' m.id = m.S := newAt_new hnd m hm'
        rw [e] at hT; exact h3 m hm' hT
      · rw [hold i hm] at hi
        have e : T' i = T i := newAt_old hm
        rw [e] at hT
        have := (h.own i hi b hT).2; omega
  refine ⟨hv', T', ?_, fun m hm => ⟨newAt_new hnd m hm, hnew m hm⟩, hBs⟩
  refine h.trade tr h.size h.defers ?_ ?_ (fun x av hx => h.slt x av (by rw [henv] at hx; exact hx)) (fun x av hx i hi => (hused i).2 (.inl (h.uenv x av (by rw [henv] at hx; exact hx) i hi))) ?_ ?_ ?_ ?_ ?_
  · intro i j hij hi hj b h1 h2
    obtain ⟨p, hp, rfl⟩ := isnew i hi.1 hi.2
    obtain ⟨q, hq, rfl⟩ := isnew j hj.1 hj.2
    have e1 : T' p.id = p.S := newAt_new hnd p hp
    have e2 : T' q.id = q.S := newAt_new hnd q hq
    rw [e1] at h1; rw [e2] at h2
    exact hdis p hp q hq hij b h1 h2
  · intro i o hno ho
    obtain ⟨m, hm, rfl⟩ := isnew i (by rw [ho]; rfl) hno
    rw [hnew m hm] at ho; cases ho
    have e1 : T' m.id = m.S := newAt_new hnd m hm
    have e2 : hv' m.id = m.v := newAt_new hnd m hm
    simp only [ObjSim]
    rw [e1, e2]
    exact (hown m hm).mono hBs (fun _ h => h)
  · intro i hi
    refine (hused i).2 ?_
    by_cases hm : i ∈ ns.map New.id
    · exact .inr hm
    · rw [hold i hm] at hi; exact .inl (h.uobj i hi)
  · intro i v hp
    obtain ⟨p1, p2⟩ := h.pin i v hp
    have hm : i ∉ ns.map New.id := by
      intro hm
      obtain ⟨m, hm', rfl⟩ := List.mem_map.1 hm
      rw [hid m hm'] at p1; cases p1
    refine ⟨(hused i).2 (.inl p1), fun hi => ?_⟩
    have e2 : hv' i = hv i := newAt_old hm
    rw [hold i hm] at hi
    rw [e2]; exact p2 hi
  · intro i xs hx j hj
    refine (hused j).2 (.inl ?_)
    by_cases hm : i ∈ ns.map New.id
    · obtain ⟨m, hm', rfl⟩ := List.mem_map.1 hm
      rw [hnew m hm'] at hx; cases hx
    · rw [hold i hm] at hx; exact h.ubox i xs hx j hj
  · intro i xs hx _ av hav hl
    have hu : ∀ k ∈ av.ids, st.used k = true := by
      intro k hk
      obtain ⟨l, hlt, rfl⟩ := List.mem_iff_getElem.1 hav
      exact h.ubox i xs hx k (mem_idsL (List.getElem?_eq_getElem hlt) hk)
    exact ⟨live av hu hl, fun v ha => h.keepAV tr ha fun _ _ f => f⟩
  · intro x av hx hl
    rw [henv] at hx
    obtain ⟨v', h1, h2⟩ := h.env x av hx (live av (h.uenv x av hx) hl)
    exact ⟨v', h1, h.keepAV tr h2 fun _ _ f => f⟩

theorem AVSim.mono {A A' : Blks} {obj : Nat → Option Obj} {av : AV} {v : Value} (h : AVSim w A hv obj av v) (hA : ∀ b, A b → A' b) : AVSim w A' hv obj av v := by
  induction h with
  | dead v => exact .dead v
  | c ho => exact .c (ho.mono hA (fun _ h => h))
  | row hs hh => exact .row hs fun i x v h1 h2 => (hh i x v h1 h2).mono hA (fun _ h => h)
  | ref ho hg hh => exact .ref ho hg hh
  | ptr ho hg hh => exact .ptr ho hg hh
  | bx ho hh => exact .bx ho hh
  | pts hb hA1 hs hh => exact .pts hb (hA _ hA1) hs fun i x v h1 h2 => (hh i x v h1 h2).mono hA (fun _ h => h)
  | mp ho hh => exact .mp ho hh
  | agg hs _ ih => exact .agg hs ih
  | tup hs _ ih => exact .tup hs ih
  | fn hs _ ih => exact .fn hs ih

/-! ### Results, opened -/

def openCell (i : Nat) : Cell → AV × Objs
  | .sl true k rows => (.ref i [], [(i, k, rows)])
  | .bx _ => (.dead, [])
  | .lit v => (.c (.lit v), [])
  | .sl false k rows => (.c (.sl false k rows), [])
def openRow (i : Nat) : List Cell → List AV × Objs
  | [] => ([], [])
  | c :: cs => ((openCell i c).1 :: (openRow (i + 10000) cs).1, (openCell i c).2 ++ (openRow (i + 10000) cs).2)
def openArg (i : Nat) : Arg → AV × Objs
  | .c x => openCell i x
  | .row xs => bif xs.all Cell.plain then (.row xs, []) else (.agg (openRow i xs).1, (openRow i xs).2)
  | .fn _ _ => (.dead, [])
  | .pts _ => (.dead, [])
def openArgs (i : Nat) : List Arg → List AV × Objs
  | [] => ([], [])
  | x :: xs => ((openArg i x).1 :: (openArgs (i + 110000) xs).1, (openArg i x).2 ++ (openArgs (i + 110000) xs).2)
def openRes (d : Nat) : List Arg → AV × Objs
  | [] => (.tup [], [])
  | [x] => openArg d x
  | x :: y :: xs => (.tup (openArgs d (x :: y :: xs)).1, (openArgs d (x :: y :: xs)).2)

/-- What is known of the new objects. -/
structure NewOk (w : World) (A F : Blks) (os : Objs) (ns : List New) : Prop where
  eq : ns.map New.obj = os
  own : ∀ m ∈ ns, Own w A m.S (.sl true m.k m.rows) m.v ∧ ∀ b, m.S b → F b
  dis : ns.Pairwise fun p q => ∀ b, p.S b → ¬ q.S b
theorem NewOk.nil {A F : Blks} : NewOk w A F [] [] := ⟨rfl, fun _ h => by simp at h, .nil⟩
theorem NewOk.append {A F F1 F2 : Blks} {os1 os2 : Objs} {ns1 ns2 : List New} (h1 : NewOk w A F1 os1 ns1) (h2 : NewOk w A F2 os2 ns2) (hd : ∀ b, F1 b → ¬ F2 b) (g1 : ∀ b, F1 b → F b) (g2 : ∀ b, F2 b → F b) :
    NewOk w A F (os1 ++ os2) (ns1 ++ ns2) := by
  refine ⟨by rw [List.map_append, h1.eq, h2.eq], fun m hm => ?_, List.pairwise_append.2 ⟨h1.dis, h2.dis, fun p hp q hq b hb hb' => hd b ((h1.own p hp).2 b hb) ((h2.own q hq).2 b hb')⟩⟩
  rcases List.mem_append.1 hm with h | h
  · exact ⟨(h1.own m h).1, fun b hb => g1 b ((h1.own m h).2 b hb)⟩
  · exact ⟨(h2.own m h).1, fun b hb => g2 b ((h2.own m h).2 b hb)⟩
def At (hv : Nat → Value) (obj : Nat → Option Obj) (ns : List New) : Prop := ∀ m ∈ ns, hv m.id = m.v ∧ obj m.id = some (.arr m.k m.rows)
theorem At.left {hv : Nat → Value} {obj : Nat → Option Obj} {ns1 ns2 : List New} (h : At hv obj (ns1 ++ ns2)) : At hv obj ns1 := fun m hm => h m (by simp [hm])
theorem At.right {hv : Nat → Value} {obj : Nat → Option Obj} {ns1 ns2 : List New} (h : At hv obj (ns1 ++ ns2)) : At hv obj ns2 := fun m hm => h m (by simp [hm])

theorem open_cell {A F : Blks} {c : Cell} {v : Value} (i : Nat) (h : Own w A F c v) : ∃ ns, NewOk w A F (openCell i c).2 ns ∧ ∀ hv obj, At hv obj ns → AVSim w A hv obj (openCell i c).1 v := by
  cases c with
  | lit u => exact ⟨[], .nil, fun hv obj _ => .c (h.of_plain rfl)⟩
  | bx => exact ⟨[], .nil, fun hv obj _ => .dead _⟩
  | sl o k rows =>
    cases o with
    | false => exact ⟨[], .nil, fun hv obj _ => .c (h.of_plain rfl)⟩
    | true => exact ⟨[⟨i, k, rows, v, F⟩], ⟨rfl, fun m hm => by simp at hm; subst hm; exact ⟨h, fun _ h => h⟩, by simp⟩, fun hv obj ha => by
        obtain ⟨e1, e2⟩ := ha ⟨i, k, rows, v, F⟩ (by simp)
        exact .ref e2 (p := []) rfl e1.symm⟩

theorem openRow_length : ∀ (i : Nat) (xs : List Cell), (openRow i xs).1.length = xs.length
  | _, [] => rfl
  | i, c :: cs => by simp [openRow, openRow_length]

theorem open_row {A : Blks} : ∀ (xs : List Cell) (i : Nat) (us : List Value) (G : Nat → Blks), us.length = xs.length → (∀ i j b, i ≠ j → G i b → ¬ G j b) →
    (∀ (i : Nat) x v, xs[i]? = some x → us[i]? = some v → Own w A (G i) x v) →
    ∃ ns, NewOk w A (fun b => ∃ j, G j b) (openRow i xs).2 ns ∧ ∀ hv obj, At hv obj ns → ∀ (j : Nat) y u, (openRow i xs).1[j]? = some y → us[j]? = some u → AVSim w A hv obj y u
  | [], _, _, _, _, _, _ => ⟨[], .nil, fun _ _ _ j y u h => by simp [openRow] at h⟩
  | x :: xs, i, [], _, hl, _, _ => by simp at hl
  | x :: xs, i, u :: us, G, hl, hd, h => by
    obtain ⟨n1, a1, a2⟩ := open_cell i (h 0 x u rfl rfl)
    obtain ⟨n2, b1, b2⟩ := open_row xs (i + 10000) us (fun j => G (j + 1)) (by simpa using hl) (fun i j b hij => hd _ _ b (by omega)) (fun i x v h1 h2 => h (i + 1) x v (by simpa using h1) (by simpa using h2))
    refine ⟨n1 ++ n2, a1.append b1 (fun b h1 ⟨j, h2⟩ => hd 0 (j + 1) b (by omega) h1 h2) (fun b hb => ⟨0, hb⟩) (fun b ⟨j, hb⟩ => ⟨j + 1, hb⟩), fun hv obj ha j y t h1 h2 => ?_⟩
    cases j with
    | zero => simp [openRow] at h1 h2; subst h1 h2; exact a2 hv obj ha.left
    | succ j => exact b2 hv obj ha.right j y t (by simpa [openRow] using h1) (by simpa using h2)

theorem open_arg {A F : Blks} {x : Arg} {v : Value} (i : Nat) (h : ArgSim w A F x v) : ∃ ns, NewOk w A F (openArg i x).2 ns ∧ ∀ hv obj, At hv obj ns → AVSim w A hv obj (openArg i x).1 v := by
  cases h with
  | c ho => exact open_cell i ho
  | @row _ xs vs G hs hG hd hh =>
    simp only [openArg]
    cases hp : xs.all Cell.plain with
    | true => exact ⟨[], .nil, fun hv obj _ => .row hs fun i x v h1 h2 => (hh i x v h1 h2).of_plain (List.all_eq_true.1 hp x (List.mem_of_getElem? h1))⟩
    | false =>
      obtain ⟨ns, g1, g2⟩ := open_row xs i vs.toList G (by simpa using hs) hd (fun i x v h1 h2 => hh i x v h1 (by simpa using h2))
      refine ⟨ns, ⟨g1.eq, fun m hm => ⟨(g1.own m hm).1, fun b hb => ?_⟩, g1.dis⟩, fun hv obj ha => .agg (by rw [openRow_length]; exact hs) fun j y u h1 h2 => g2 hv obj ha j y u h1 (by simpa using h2)⟩
      obtain ⟨j, hj⟩ := (g1.own m hm).2 b hb
      exact hG j b hj
  | fn => exact ⟨[], .nil, fun hv obj _ => .dead _⟩
  | pts => exact ⟨[], .nil, fun hv obj _ => .dead _⟩

theorem openArgs_length : ∀ (i : Nat) (xs : List Arg), (openArgs i xs).1.length = xs.length
  | _, [] => rfl
  | i, c :: cs => by simp [openArgs, openArgs_length]

theorem open_args {A : Blks} : ∀ (xs : List Arg) (i : Nat) (us : List Value) (G : Nat → Blks), us.length = xs.length → (∀ i j b, i ≠ j → G i b → ¬ G j b) →
    (∀ (i : Nat) x v, xs[i]? = some x → us[i]? = some v → ArgSim w A (G i) x v) →
    ∃ ns, NewOk w A (fun b => ∃ j, G j b) (openArgs i xs).2 ns ∧ ∀ hv obj, At hv obj ns → ∀ (j : Nat) y u, (openArgs i xs).1[j]? = some y → us[j]? = some u → AVSim w A hv obj y u
  | [], _, _, _, _, _, _ => ⟨[], .nil, fun _ _ _ j y u h => by simp [openArgs] at h⟩
  | x :: xs, i, [], _, hl, _, _ => by simp at hl
  | x :: xs, i, u :: us, G, hl, hd, h => by
    obtain ⟨n1, a1, a2⟩ := open_arg i (h 0 x u rfl rfl)
    obtain ⟨n2, b1, b2⟩ := open_args xs (i + 110000) us (fun j => G (j + 1)) (by simpa using hl) (fun i j b hij => hd _ _ b (by omega)) (fun i x v h1 h2 => h (i + 1) x v (by simpa using h1) (by simpa using h2))
    refine ⟨n1 ++ n2, a1.append b1 (fun b h1 ⟨j, h2⟩ => hd 0 (j + 1) b (by omega) h1 h2) (fun b hb => ⟨0, hb⟩) (fun b ⟨j, hb⟩ => ⟨j + 1, hb⟩), fun hv obj ha j y t h1 h2 => ?_⟩
    cases j with
    | zero => simp [openArgs] at h1 h2; subst h1 h2; exact a2 hv obj ha.left
    | succ j => exact b2 hv obj ha.right j y t (by simpa [openArgs] using h1) (by simpa using h2)

theorem open_res {A F : Blks} {xs : List Arg} {us : List Value} (d : Nat) (h : ArgsSim w A F xs us) : ∃ ns, NewOk w A F (openRes d xs).2 ns ∧ ∀ hv obj, At hv obj ns → AVSim w A hv obj (openRes d xs).1 (retVal us) := by
  obtain ⟨G, h1, h2, h3, h4⟩ := h
  match xs, us, h1 with
  | [], [], _ => exact ⟨[], .nil, fun hv obj _ => .tup rfl fun i x v h => by simp at h⟩
  | [x], [u], _ =>
    obtain ⟨ns, g1, g2⟩ := open_arg d (h4 0 x u rfl rfl)
    exact ⟨ns, ⟨g1.eq, fun m hm => ⟨(g1.own m hm).1, fun b hb => h2 0 b ((g1.own m hm).2 b hb)⟩, g1.dis⟩, g2⟩
  | x :: y :: xs, u :: t :: us, hl =>
    obtain ⟨ns, g1, g2⟩ := open_args (x :: y :: xs) d (u :: t :: us) G hl h3 h4
    refine ⟨ns, ⟨g1.eq, fun m hm => ⟨(g1.own m hm).1, fun b hb => ?_⟩, g1.dis⟩, fun hv obj ha => .tup ?_ fun j y u h1 h2 => g2 hv obj ha j y u h1 (by simpa using h2)⟩
    · obtain ⟨j, hj⟩ := (g1.own m hm).2 b hb; exact h2 j b hj
    · rw [openArgs_length]; simpa using hl

section
variable {d : Nat} {ty : TypeId} {pos : String} {after : Array Edge} {g : Option (Nat × Bool)} {tys : Array TypeId}

def needs (os : Objs) : List Req := os.map fun p => .obj p.1 (.arr p.2.1 p.2.2)
def freshes (os : Objs) : List Req := os.map fun p => .fresh p.1

theorem run_enter {f : FuncId} {fn : Func} {c : Code} (hf : P.funcs[f]? = some fn) (hname : (fn.name == "runtime.NumGoroutine") = false) (hb : fn.body = some c) (args : Array Value) (w : World) :
    (callFunc f args).run P w = .ok (.enter f args) w := by
  have h1 : fn.name ≠ "runtime.NumGoroutine" := by simpa using hname
  simp [callFunc, hf, h1, hb]

/-- A CALL, all its arguments only read. -/
theorem op_call {f : FuncId} {fn : Func} {c : Code} {xs : List Operand} {avs : List AV} {args res : List Arg} {os : Objs} (hf : P.funcs[f]? = some fn) (hname : (fn.name == "runtime.NumGoroutine") = false) (hb : fn.body = some c)
    (hF : FnP P f args res) (hsh : SharesL avs args os) (hl : xs.length = avs.length) (hsol : os = [] ∨ ∀ x ∈ res, x.solid = true) (hnd : nodupB ((openRes d res).2.map (·.1)) = true) (hn : d < n) :
    OpL0 P n ⟨some d, .call ⟨.value (.func f), xs.toArray, tys⟩, ty, pos, after, g⟩ (opds xs avs ++ (freshes (openRes d res).2 ++ (needs os ++ lives (idsL avs)))) (puts (openRes d res).2 ++ [.set d (openRes d res).1]) := by
  intro pn w0 A0 F0 st a w hB hS hs K Q hK
  obtain ⟨hv, T, hT⟩ := hS
  obtain ⟨ho, hrest⟩ := opds_of hl hs
  have hfr : ∀ p ∈ (openRes d res).2, st.used p.1 = false := fun p hp => hrest (.fresh p.1) (List.mem_append_left _ (List.mem_map.2 ⟨p, hp, rfl⟩))
  have hobj : ∀ p ∈ os, st.obj p.1 = some (.arr p.2.1 p.2.2) := fun p hp => hrest (.obj p.1 (.arr p.2.1 p.2.2)) (List.mem_append_right _ (List.mem_append_left _ (List.mem_map.2 ⟨p, hp, rfl⟩)))
  have hlive : ∀ i ∈ idsL avs, (st.obj i).isSome = true := live_of fun r hr => hrest r (List.mem_append_right _ (List.mem_append_right _ hr))
  have hargs := sharesL_sim hT hsh (vs := xs.map a.eval) hobj (by simpa using hl) (by
    intro i av v h1 h2
    rw [List.getElem?_map] at h2
    obtain ⟨x, hx, rfl⟩ := Option.map_eq_some_iff.1 h2
    exact hT.eval (ho.get hx h1) fun id hid => hlive id (mem_idsL h1 hid))
  have hBase : Base w (fun b => Sh A0 F0 w0 T st.obj w b ∨ leant T os b) noBlk := ⟨fun b hb => hb.elim (fun h => h.2.1) (fun ⟨p, hp, h⟩ => (hT.own p.1 (by simp [hobj p hp]) b h).2), fun b f => f.elim, fun b _ f => f⟩
  have hcall := hF w _ _ _ hBase hargs
  have hrun : (execOp a.eval ⟨some d, .call ⟨.value (.func f), xs.toArray, tys⟩, ty, pos, after, g⟩).run P w = .ok (.enter f (xs.map a.eval).toArray) w := by
    have := run_enter hf hname hb (xs.map a.eval).toArray w
    simp only [execOp, resolve, Act.eval, Deferred.ofValue, invoke, Sem.run_bind]
    simpa [Act.eval] using this
  unfold Oper.wp
  rw [hrun, Oper.upon_enter]
  refine hcall.mono ?_
  rintro e w' ⟨res', rvs, back, F', rfl, ⟨rfl, rfl⟩, hframe, hF', _, hrl, hsim⟩
  simp only [List.map_nil, List.append_nil] at hsim
  -- what may be shared behind
  have key : ∃ B : Blks, ArgsSim w' B F' res' rvs ∧ ∀ b, B b → Sh A0 F0 w0 T st.obj w b ∨ (w.heap.size ≤ b ∧ b < w'.heap.size ∧ ¬ F' b) := by
    rcases hsol with rfl | hsol
    · refine ⟨_, hsim, fun b hb => ?_⟩
      obtain ⟨h1, h2, h3⟩ := hb
      rcases h1 with (h1 | ⟨p, hp, _⟩) | f | h1
      · exact .inl h1
      · simp at hp
      · exact f.elim
      · exact .inr ⟨h1, h2, h3⟩
    · obtain ⟨G, g1, g2, g3, g4⟩ := hsim
      exact ⟨noBlk, ⟨G, g1, g2, g3, fun i x v h1 h2 => (g4 i x v h1 h2).solid (hsol x (List.mem_of_getElem? h1)) _⟩, fun b f => f.elim⟩
  obtain ⟨B, k1, k2⟩ := key
  obtain ⟨ns, n1, n2⟩ := open_res d k1
  have hids : ns.map New.id = (openRes d res').2.map (·.1) := by rw [← n1.eq]; simp [New.obj, Function.comp_def]
  have hndp : (ns.map New.id).Nodup := by rw [hids]; exact nodupB_spec hnd
  have hSF : ∀ m ∈ ns, ∀ b, m.S b → w.heap.size ≤ b ∧ b < w'.heap.size := fun m hm b hb => by
    obtain ⟨h1, h2⟩ := hF' b ((n1.own m hm).2 b hb)
    exact ⟨h1.resolve_left (fun f => f), h2⟩
  obtain ⟨hv', T', g1, g2, g3⟩ := hT.grow (hframe.mono fun b f => f.elim) ns (fun m hm => hfr m.obj (by rw [← n1.eq]; exact List.mem_map.2 ⟨m, hm, rfl⟩)) hndp hSF (by
      intro p hp q hq hne b h1 h2
      have hpw := n1.dis
      have sym : ∀ (l : List New), (l.Pairwise fun p q => ∀ b, p.S b → ¬ q.S b) → ∀ p ∈ l, ∀ q ∈ l, p.id ≠ q.id → p.S b → ¬ q.S b := by
        intro l
        induction l with
        | nil => intro _ p hp; simp at hp
        | cons x l ih =>
          intro hl p hp q hq hne h1 h2
          obtain ⟨c1, c2⟩ := List.pairwise_cons.1 hl
          rcases List.mem_cons.1 hp with rfl | hp'
          · rcases List.mem_cons.1 hq with rfl | hq'
            · exact hne rfl
            · exact c1 q hq' b h1 h2
          · rcases List.mem_cons.1 hq with rfl | hq'
            · exact c1 p hp' b h2 h1
            · exact ih c2 p hp' q hq' hne h1 h2
      exact sym ns hpw p hp q hq hne h1 h2) B (fun b hb => (k2 b hb).imp id fun ⟨h1, h2, h3⟩ => ⟨h1, h2, fun m hm hS => h3 ((n1.own m hm).2 b hS)⟩) (fun m hm => (n1.own m hm).1)
  rw [n1.eq] at g1 g2 g3
  refine hK _ _ ?_
  rw [apps_append]
  refine ⟨hv', T', g1.set hn fun _ => ?_⟩
  have := n2 hv' _ g2
  exact AVSim.mono this g3
end
end
end Go.Am
