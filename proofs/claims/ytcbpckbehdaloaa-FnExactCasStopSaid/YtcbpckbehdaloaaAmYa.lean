/- Objects go, come back turned, and come new: one step. Own work; generic. -/
import Derived.Test.YtcbpckbehdaloaaAmO
set_option linter.unusedSimpArgs false
set_option linter.unusedVariables false
namespace Go.Am
open Go

/-- A new object, or one that comes back. -/
structure NewO where
  id : Nat
  o : Obj
  v : Value
  S : Blks
def NewO.at (m : NewO) : Nat × Obj := (m.id, m.o)
abbrev Obs := List (Nat × Obj)
def putsO (ps : Obs) : List Upd := ps.map fun p => .put p.1 p.2
def killsU (ks : List Nat) : List Upd := ks.map .kill

def killAll : List Nat → AV → AV
  | [], av => av
  | k :: ks, av => killAll ks (killAV k av)
theorem killAll_dead : ∀ (ks : List Nat), killAll ks .dead = .dead
  | [] => rfl
  | k :: ks => by rw [killAll]; exact killAll_dead ks
theorem killAll_or : ∀ (ks : List Nat) (av : AV), killAll ks av = .dead ∨ (killAll ks av = av ∧ ∀ k ∈ ks, av.hasPath k = false)
  | [], av => .inr ⟨rfl, fun k hk => by simp at hk⟩
  | k :: ks, av => by
    rw [killAll]
    cases hp : av.hasPath k with
    | true => left; simp only [killAV, hp, cond_true]; exact killAll_dead ks
    | false =>
      simp only [killAV, hp, cond_false]
      rcases killAll_or ks av with h | ⟨h1, h2⟩
      · exact .inl h
      · refine .inr ⟨h1, fun q hq => ?_⟩
        rcases List.mem_cons.1 hq with rfl | hq
        · exact hp
        · exact h2 q hq
def Obj.killAll (ks : List Nat) : Obj → Obj
  | .box xs => .box (xs.map (Am.killAll ks))
  | o => o
theorem kills_env : ∀ (ks : List Nat) (st : St) (x : Nat), (apps (killsU ks) st).env x = (st.env x).map (killAll ks)
  | [], st, x => by
    show st.env x = _
    cases st.env x <;> rfl
  | k :: ks, st, x => by
    have : (apps (killsU (k :: ks)) st).env x = (apps (killsU ks) ((Upd.kill k).app st)).env x := rfl
    rw [this, kills_env ks]
    show ((st.env x).map (killAV k)).map (killAll ks) = _
    cases st.env x <;> rfl
theorem kills_obj : ∀ (ks : List Nat) (st : St) (i : Nat), (apps (killsU ks) st).obj i = (st.obj i).map (Obj.killAll ks)
  | [], st, i => by
    show st.obj i = _
    cases h : st.obj i with
    | none => rfl
    | some o => cases o <;> simp [Obj.killAll, killAll]
  | k :: ks, st, i => by
    have : (apps (killsU (k :: ks)) st).obj i = (apps (killsU ks) ((Upd.kill k).app st)).obj i := rfl
    rw [this, kills_obj ks]
    show ((st.obj i).map (Obj.killp k)).map (Obj.killAll ks) = _
    cases st.obj i with
    | none => rfl
    | some o => cases o <;> simp [Obj.killAll, Obj.killp, killAll]
theorem kills_used : ∀ (ks : List Nat) (st : St), (apps (killsU ks) st).used = st.used
  | [], _ => rfl
  | k :: ks, st => by
    have : (apps (killsU (k :: ks)) st).used = (apps (killsU ks) ((Upd.kill k).app st)).used := rfl
    rw [this, kills_used ks]; rfl

theorem putsO_env : ∀ (ps : Obs) (st : St), (apps (putsO ps) st).env = st.env
  | [], _ => rfl
  | p :: ps, st => by
    have : (apps (putsO (p :: ps)) st).env = (apps (putsO ps) ((Upd.put p.1 p.2).app st)).env := rfl
    rw [this, putsO_env ps]; rfl
theorem putsO_old : ∀ {ps : Obs} {st : St} {i : Nat}, i ∉ ps.map (·.1) → (apps (putsO ps) st).obj i = st.obj i
  | [], _, _, _ => rfl
  | p :: ps, st, i, h => by
    simp only [List.map_cons, List.mem_cons, not_or] at h
    have : (apps (putsO (p :: ps)) st).obj i = (apps (putsO ps) ((Upd.put p.1 p.2).app st)).obj i := rfl
    rw [this, putsO_old h.2]; exact upd_ne _ _ (fun e => h.1 e.symm)
theorem putsO_new : ∀ {ps : Obs} {st : St}, (ps.map (·.1)).Nodup → ∀ p ∈ ps, (apps (putsO ps) st).obj p.1 = some p.2
  | q :: ps, st, hnd, p, hp => by
    simp only [List.map_cons, List.nodup_cons] at hnd
    have : (apps (putsO (q :: ps)) st).obj p.1 = (apps (putsO ps) ((Upd.put q.1 q.2).app st)).obj p.1 := rfl
    rw [this]
    rcases List.mem_cons.1 hp with rfl | hp
    · rw [putsO_old hnd.1]; exact upd_same _ _ _
    · exact putsO_new hnd.2 p hp
theorem putsO_used : ∀ (ps : Obs) (st : St) (i : Nat), (apps (putsO ps) st).used i = true ↔ st.used i = true ∨ ∃ p ∈ ps, i = p.1 ∨ i ∈ p.2.ids
  | [], st, i => by simp [putsO, apps]
  | p :: ps, st, i => by
    have : (apps (putsO (p :: ps)) st).used i = (apps (putsO ps) ((Upd.put p.1 p.2).app st)).used i := rfl
    rw [this, putsO_used ps, show ((Upd.put p.1 p.2).app st).used = addU st.used (p.1 :: p.2.ids) from rfl, addU_true]
    simp only [List.mem_cons, exists_eq_or_imp, or_assoc]

section
variable {P : Program} {n : Nat}
variable {pn : Nat → Option Value} {w0 : World} {A0 F0 : Blks} {hv hv' : Nat → Value} {T T' : Nat → Blks} {st st' : St} {a : Act} {w w' : World}

/-- What comes back is of the same kind. -/
def Alike (o o' : Obj) : Prop := (∃ k rows rows', o = .arr k rows ∧ o' = .arr k rows') ∨ ∃ xs xs', o = .box xs ∧ o' = .box xs'

theorem keepAll {obj' : Nat → Option Obj} {D : Nat → Prop} (hT : StSim n pn w0 A0 F0 hv T st a w) (tr : Trade w0 A0 F0 hv hv' T T' st.obj obj' D w w')
    (hren : ∀ i o o', D i → st.obj i = some o → obj' i = some o' → hv' i = hv i ∧ Alike o o') {av : AV} {v : Value}
    (ha : AVSim w (Sh A0 F0 w0 T st.obj w) hv st.obj av v) :
    (∀ i, D i → (∃ k rows, st.obj i = some (.arr k rows)) → (obj' i).isSome = true → av.hasPath i = false) → Live obj' av → AVSim w' (Sh A0 F0 w0 T' obj' w') hv' obj' av v := by
  have hblk : ∀ i, (st.obj i).isSome = true → ¬ D i → ∀ b, Sh A0 F0 w0 T st.obj w b ∨ T i b → w'.heap[b]? = w.heap[b]? := by
    intro i hs hnd b hb
    rcases hb with hb | hb
    · exact tr.same hb
    · refine tr.frame.heap b (hT.own i hs b hb).2 ?_
      rintro ⟨d, hd, hTd⟩
      by_cases e : d = i
      · subst e; exact hnd hd
      · exact hT.dis d i e (tr.here d hd) hs b hTd hb
  have alive : ∀ {i : Nat} {av : AV}, Live obj' av → i ∈ av.ids → ∃ o', obj' i = some o' := by
    intro i av hl hi
    have := hl i hi
    cases h : obj' i with
    | none => rw [h] at this; cases this
    | some o => exact ⟨o, rfl⟩
  induction ha with
  | dead v => exact fun _ _ => .dead v
  | c ho => exact fun _ _ => .c (tr.own ho)
  | row hs hh => exact fun _ _ => .row hs fun i x v h1 h2 => tr.own (hh i x v h1 h2)
  | @ref i p k1 k2 o rw1 rw2 v ho hg hh =>
    intro hp hl
    by_cases hd : D i
    · obtain ⟨o', ho'⟩ := alive hl (i := i) (by simp [AV.ids])
      obtain ⟨e, ⟨k, r, r', h1, rfl⟩ | ⟨xs, xs', h1, _⟩⟩ := hren i _ _ hd ho ho'
      · cases h1
        have hp' := hp i hd ⟨_, _, ho⟩ (by simp [ho'])
        cases p with
        | nil => simp only [Hdr] at hh; subst hh; exact .ref ho' (p := []) rfl (by simp only [Hdr]; exact e.symm)
        | cons => simp [AV.hasPath] at hp'
      · cases h1
    · obtain ⟨e1, e2, _⟩ := tr.old i (by simp [ho]) hd
      exact .ref (by rw [e1]; exact ho) hg (by rw [e2]; exact Hdr.frame (hT.heap i _ ho) (hblk i (by simp [ho]) hd) hh)
  | @ptr i p k1 i1 j1 k0 rw1 o rw2 b off len cap ho hg hh =>
    intro hp hl
    by_cases hd : D i
    · obtain ⟨o', ho'⟩ := alive hl (i := i) (by simp [AV.ids])
      obtain ⟨e, ⟨k, r, r', h1, rfl⟩ | ⟨xs, xs', h1, _⟩⟩ := hren i _ _ hd ho ho'
      · cases h1
        have hp' := hp i hd ⟨_, _, ho⟩ (by simp [ho'])
        cases p with
        | nil =>
          simp only [Cell.get, Option.some.injEq, Cell.sl.injEq] at hg
          obtain ⟨_, rfl, _⟩ := hg
          exact .ptr (n := len) (cap := cap) ho' (p := []) rfl (by simp only [Hdr] at hh ⊢; rw [e]; exact hh)
        | cons => simp [AV.hasPath] at hp'
      · cases h1
    · obtain ⟨e1, e2, _⟩ := tr.old i (by simp [ho]) hd
      exact .ptr (n := len) (cap := cap) (by rw [e1]; exact ho) hg (by rw [e2]; exact Hdr.frame (hT.heap i _ ho) (hblk i (by simp [ho]) hd) hh)
  | @bx i j b xs ho hh =>
    intro _ hl
    by_cases hd : D i
    · obtain ⟨o', ho'⟩ := alive hl (i := i) (by simp [AV.ids])
      obtain ⟨e, ⟨k, r, r', h1, _⟩ | ⟨xs1, xs', h1, rfl⟩⟩ := hren i _ _ hd ho ho'
      · cases h1
      · exact .bx ho' (by rw [e]; exact hh)
    · obtain ⟨e1, e2, _⟩ := tr.old i (by simp [ho]) hd
      exact .bx (by rw [e1]; exact ho) (by rw [e2]; exact hh)
  | @pts xs b off c e fr hb hA hs hh =>
    intro _ _
    exact .pts (by rw [tr.same hA]; exact hb) (tr.sh hA) hs fun i x v h1 h2 => tr.own (hh i x v h1 h2)
  | @mp i ks v ho hh =>
    intro _ hl
    by_cases hd : D i
    · obtain ⟨o', ho'⟩ := alive hl (i := i) (by simp [AV.ids])
      obtain ⟨e, ⟨k, r, r', h1, _⟩ | ⟨xs1, xs', h1, rfl⟩⟩ := hren i _ _ hd ho ho' <;> cases h1
    · obtain ⟨e1, e2, _⟩ := tr.old i (by simp [ho]) hd
      exact .mp (by rw [e1]; exact ho) (by rw [e2]; exact hh)
  | @agg xs vs hs hh ih =>
    intro hp hl
    exact .agg hs fun i x v h1 h2 => ih i x v h1 h2 (fun j hd ha hs => keepRoot.hasPathL_get (hp j hd ha hs) h1) fun j hj => hl j (by simp only [AV.ids]; exact mem_idsL h1 hj)
  | @tup xs vs hs hh ih =>
    intro hp hl
    exact .tup hs fun i x v h1 h2 => ih i x v h1 h2 (fun j hd ha hs => keepRoot.hasPathL_get (hp j hd ha hs) h1) fun j hj => hl j (by simp only [AV.ids]; exact mem_idsL h1 hj)
  | @fn f xs vs hs hh ih =>
    intro hp hl
    exact .fn hs fun i x v h1 h2 => ih i x v h1 h2 (fun j hd ha hs => keepRoot.hasPathL_get (hp j hd ha hs) h1) fun j hj => hl j (by simp only [AV.ids]; exact mem_idsL h1 hj)

def newAtO {α : Type} (f : NewO → α) (old : Nat → α) : List NewO → Nat → α
  | [], i => old i
  | m :: ms, i => if m.id = i then f m else newAtO f old ms i
theorem newAtO_old {α : Type} {f : NewO → α} {old : Nat → α} : ∀ {ns : List NewO} {i : Nat}, i ∉ ns.map NewO.id → newAtO f old ns i = old i
  | [], _, _ => rfl
  | m :: ms, i, h => by
    simp only [List.map_cons, List.mem_cons, not_or] at h
    rw [newAtO, if_neg (fun e => h.1 e.symm)]; exact newAtO_old h.2
theorem newAtO_new {α : Type} {f : NewO → α} {old : Nat → α} : ∀ {ns : List NewO}, (ns.map NewO.id).Nodup → ∀ m ∈ ns, newAtO f old ns m.id = f m
  | m :: ms, hnd, q, hq => by
    simp only [List.map_cons, List.nodup_cons] at hnd
    rcases List.mem_cons.1 hq with rfl | hq
    · rw [newAtO, if_pos rfl]
    · rw [newAtO, if_neg (fun e => hnd.1 (List.mem_map.2 ⟨q, hq, e.symm⟩))]; exact newAtO_new hnd.2 q hq

def AtO (hv : Nat → Value) (obj : Nat → Option Obj) (ns : List NewO) : Prop := ∀ m ∈ ns, hv m.id = m.v ∧ obj m.id = some m.o

/-- What a new object is in memory, whatever else is there. -/
def ObjOk (w : World) (B : Blks) (ns : List NewO) (m : NewO) : Prop :=
  match m.o with
  | .arr k rows => Own w B m.S (.sl true k rows) m.v
  | .box xs => ∃ b c e, m.v = .pointer (some ⟨b, 0, none⟩) ∧ w.heap[b]? = some (.cells c e (0, 0)) ∧ c.size = xs.length ∧ m.S b ∧
      ∀ (i : Nat) x v, xs[i]? = some x → c[i]? = some v → ∀ hv obj, AtO hv obj ns → AVSim w B hv obj x v
  | .mp _ => False

/-- Some objects go (some of these come back turned), and new ones come. -/
theorem StSim.swap (h : StSim n pn w0 A0 F0 hv T st a w) {ds ks : List Nat} (hds : ∀ d ∈ ds, (st.obj d).isSome = true) (hfr : Frame (fun b => ∃ d, d ∈ ds ∧ T d b) w w') (ns : List NewO) (hnd : (ns.map NewO.id).Nodup)
    (hid : ∀ m ∈ ns, st.used m.id = false ∨ (m.id ∈ ds ∧ m.v = hv m.id ∧ ∃ o, st.obj m.id = some o ∧ Alike o m.o ∧ ((∃ k rows, o = .arr k rows) → m.id ∈ ks)))
    (hS : ∀ m ∈ ns, ∀ b, m.S b → (∃ d, d ∈ ds ∧ T d b) ∨ (w.heap.size ≤ b ∧ b < w'.heap.size)) (hdis : ∀ p ∈ ns, ∀ q ∈ ns, p.id ≠ q.id → ∀ b, p.S b → ¬ q.S b) (B : Blks)
    (hB : ∀ b, B b → Sh A0 F0 w0 T st.obj w b ∨ (((∃ d, d ∈ ds ∧ T d b) ∨ (w.heap.size ≤ b ∧ b < w'.heap.size)) ∧ ∀ m ∈ ns, ¬ m.S b)) (hobj : ∀ m ∈ ns, ObjOk w' B ns m)
    (hbx : ∀ m ∈ ns, ∀ j ∈ m.o.ids, st.used j = true ∨ j ∈ ns.map NewO.id) :
    ∃ hv' T', StSim n pn w0 A0 F0 hv' T' (apps (dels ds ++ (killsU ks ++ putsO (ns.map NewO.at))) st) a w' ∧ AtO hv' (apps (dels ds ++ (killsU ks ++ putsO (ns.map NewO.at))) st).obj ns ∧
      (∀ b, B b → Sh A0 F0 w0 T' (apps (dels ds ++ (killsU ks ++ putsO (ns.map NewO.at))) st).obj w' b) := by
  have hids : (ns.map NewO.at).map (·.1) = ns.map NewO.id := by simp [NewO.at, Function.comp_def]
  rw [apps_append, apps_append]
  have hold : ∀ i, i ∉ ns.map NewO.id → (apps (putsO (ns.map NewO.at)) (apps (killsU ks) (apps (dels ds) st))).obj i = if i ∈ ds then none else (st.obj i).map (Obj.killAll ks) := by
    intro i hi
    rw [putsO_old (by rw [hids]; exact hi), kills_obj, dels_obj]
    split <;> rfl
  have hnew : ∀ m ∈ ns, (apps (putsO (ns.map NewO.at)) (apps (killsU ks) (apps (dels ds) st))).obj m.id = some m.o := fun m hm =>
    putsO_new (by rw [hids]; exact hnd) m.at (List.mem_map.2 ⟨m, hm, rfl⟩)
  have henv : ∀ x, (apps (putsO (ns.map NewO.at)) (apps (killsU ks) (apps (dels ds) st))).env x = (st.env x).map (killAll ks) := by
    intro x; rw [putsO_env, kills_env, dels_env]
  have hused : ∀ i, (apps (putsO (ns.map NewO.at)) (apps (killsU ks) (apps (dels ds) st))).used i = true ↔ st.used i = true ∨ ∃ m ∈ ns, i = m.id ∨ i ∈ m.o.ids := by
    intro i
    rw [putsO_used, kills_used, dels_used]
    constructor
    · rintro (h | ⟨p, hp, h⟩)
      · exact .inl h
      · obtain ⟨m, hm, rfl⟩ := List.mem_map.1 hp; exact .inr ⟨m, hm, h⟩
    · rintro (h | ⟨m, hm, h⟩)
      · exact .inl h
      · exact .inr ⟨m.at, List.mem_map.2 ⟨m, hm, rfl⟩, h⟩
  generalize hst' : apps (putsO (ns.map NewO.at)) (apps (killsU ks) (apps (dels ds) st)) = st' at *
  let hv' := newAtO NewO.v hv ns
  let T' := newAtO NewO.S T ns
  let D : Nat → Prop := fun d => d ∈ ds ∨ ∃ xs, st.obj d = some (.box xs)
  have hvn : ∀ m ∈ ns, hv' m.id = m.v := newAtO_new hnd
  have hTn : ∀ m ∈ ns, T' m.id = m.S := newAtO_new hnd
  have hvo : ∀ i, i ∉ ns.map NewO.id → hv' i = hv i := fun i hi => newAtO_old hi
  have hTo : ∀ i, i ∉ ns.map NewO.id → T' i = T i := fun i hi => newAtO_old hi
  have ninds : ∀ i, (st.obj i).isSome = true → i ∉ ds → i ∉ ns.map NewO.id := by
    intro i hi hnd hm
    obtain ⟨m, hm', rfl⟩ := List.mem_map.1 hm
    rcases hid m hm' with hu | ⟨hd, _⟩
    · have := h.uobj m.id hi; rw [hu] at this; cases this
    · exact hnd hd
  -- a live one that is no new one was there, and is not struck
  have isold : ∀ i, (st'.obj i).isSome = true → i ∉ ns.map NewO.id → (st.obj i).isSome = true ∧ i ∉ ds := by
    intro i hi hn
    rw [hold i hn] at hi
    by_cases hd : i ∈ ds
    · rw [if_pos hd] at hi; cases hi
    · rw [if_neg hd, Option.isSome_map] at hi; exact ⟨hi, hd⟩
  have tr : Trade w0 A0 F0 hv hv' T T' st.obj st'.obj D w w' := by
    refine ⟨fun i hi => ?_, hfr.mono fun b ⟨d, hd, hb⟩ => ⟨d, .inl hd, hb⟩, fun i hi hnd => ?_, fun i hi hor b hb => ?_⟩
    · rcases hi with hi | ⟨xs, hi⟩
      · exact hds i hi
      · simp [hi]
    · have hnds : i ∉ ds := fun hd => hnd (.inl hd)
      have hnn := ninds i hi hnds
      refine ⟨?_, hvo i hnn, hTo i hnn⟩
      rw [hold i hnn, if_neg hnds]
      cases ho : st.obj i with
      | none => rfl
      | some o => cases o with
        | box xs => exact absurd (.inr ⟨xs, ho⟩) hnd
        | arr => rfl
        | mp => rfl
    · by_cases hm : i ∈ ns.map NewO.id
      · obtain ⟨m, hm', rfl⟩ := List.mem_map.1 hm
        rw [hTn m hm'] at hb
        exact (hS m hm' b hb).imp (fun ⟨d, hd, h⟩ => ⟨d, .inl hd, h⟩) (fun h => h)
      · obtain ⟨h1, h2⟩ := isold i hi hm
        rw [hTo i hm] at hb
        rcases hor with hd | hno
        · exact .inl ⟨i, hd, hb⟩
        · rw [hno] at h1; cases h1
  have hren : ∀ i o o', D i → st.obj i = some o → st'.obj i = some o' → hv' i = hv i ∧ Alike o o' := by
    intro i o o' hD ho ho'
    by_cases hm : i ∈ ns.map NewO.id
    · obtain ⟨m, hm', rfl⟩ := List.mem_map.1 hm
      rw [hnew m hm'] at ho'; cases ho'
      rcases hid m hm' with hu | ⟨_, hv2, o2, ho2, hal, _⟩
      · have := h.uobj m.id (by simp [ho]); rw [hu] at this; cases this
      · rw [ho] at ho2; cases ho2
        exact ⟨(hvn m hm').trans hv2, hal⟩
    · refine ⟨hvo i hm, ?_⟩
      obtain ⟨_, h2⟩ := isold i (by simp [ho']) hm
      rw [hold i hm, if_neg h2, ho] at ho'
      rcases hD with hD | ⟨xs, hx⟩
      · exact absurd hD h2
      · rw [ho] at hx; cases hx
        simp only [Option.map_some, Obj.killAll, Option.some.injEq] at ho'
        subst ho'
        exact .inr ⟨_, _, rfl, rfl⟩
  have hks : ∀ i, D i → (∃ k rows, st.obj i = some (.arr k rows)) → (st'.obj i).isSome = true → i ∈ ks := by
    rintro i hD ⟨k, rows, ho⟩ hl
    by_cases hm : i ∈ ns.map NewO.id
    · obtain ⟨m, hm', rfl⟩ := List.mem_map.1 hm
      rcases hid m hm' with hu | ⟨_, _, o2, ho2, _, hk⟩
      · have := h.uobj m.id (by simp [ho]); rw [hu] at this; cases this
      · rw [ho] at ho2; cases ho2; exact hk ⟨k, rows, rfl⟩
    · obtain ⟨_, h2⟩ := isold i hl hm
      rcases hD with hD | ⟨xs, hx⟩
      · exact absurd hD h2
      · rw [ho] at hx; cases hx
  have liveOld : ∀ av : AV, (∀ i ∈ av.ids, st.used i = true) → Live st'.obj av → Live st.obj av := by
    intro av hu hl i hi
    have hl' := hl i hi
    by_cases hm : i ∈ ns.map NewO.id
    · obtain ⟨m, hm', rfl⟩ := List.mem_map.1 hm
      rcases hid m hm' with h0 | ⟨hd, _⟩
      · have := hu _ hi; rw [h0] at this; cases this
      · exact hds _ hd
    · exact (isold i hl' hm).1
  -- a value that is not struck stays what it is
  have keep : ∀ av v, (∀ i ∈ av.ids, st.used i = true) → Live st'.obj (killAll ks av) → (Live st.obj av → AVSim w (Sh A0 F0 w0 T st.obj w) hv st.obj av v) →
      AVSim w' (Sh A0 F0 w0 T' st'.obj w') hv' st'.obj (killAll ks av) v := by
    intro av v hu hl ha
    rcases killAll_or ks av with e | ⟨e, hp⟩
    · rw [e]; exact .dead v
    · rw [e] at hl ⊢
      exact keepAll h tr hren (ha (liveOld av hu hl)) (fun i hD harr hlv => hp i (hks i hD harr hlv)) hl
  have hBs : ∀ b, B b → Sh A0 F0 w0 T' st'.obj w' b := by
    intro b hb
    rcases hB b hb with hb | ⟨h1, h2⟩
    · exact tr.sh hb
    · refine ⟨?_, ?_, fun i hi hT => ?_⟩
      · rcases h1 with ⟨d, hd, hTd⟩ | ⟨h1, _⟩
        · exact (h.own d (hds d hd) b hTd).1.elim (fun h => .inr (.inl h)) (fun h => .inr (.inr h))
        · exact .inr (.inr (Nat.le_trans h.frame.size h1))
      · rcases h1 with ⟨d, hd, hTd⟩ | ⟨_, h1⟩
        · exact Nat.lt_of_lt_of_le (h.own d (hds d hd) b hTd).2 hfr.size
        · exact h1
      · by_cases hm : i ∈ ns.map NewO.id
        · obtain ⟨m, hm', rfl⟩ := List.mem_map.1 hm
          rw [hTn m hm'] at hT; exact h2 m hm' hT
        · obtain ⟨g1, g2⟩ := isold i hi hm
          rw [hTo i hm] at hT
          rcases h1 with ⟨d, hd, hTd⟩ | ⟨h1, _⟩
          · exact h.dis d i (fun e => g2 (e ▸ hd)) (hds d hd) g1 b hTd hT
          · have := (h.own i g1 b hT).2; omega
  have atO : AtO hv' st'.obj ns := fun m hm => ⟨hvn m hm, hnew m hm⟩
  refine ⟨hv', T', ?_, atO, hBs⟩
  -- who is new, or turned
  have kinds : ∀ i, (st'.obj i).isSome = true → (D i ∨ st.obj i = none) → i ∈ ns.map NewO.id ∨ (i ∉ ns.map NewO.id ∧ i ∉ ds ∧ ∃ xs, st.obj i = some (.box xs)) := by
    intro i hi hor
    by_cases hm : i ∈ ns.map NewO.id
    · exact .inl hm
    · obtain ⟨h1, h2⟩ := isold i hi hm
      rcases hor with (hd | hx) | hno
      · exact absurd hd h2
      · exact .inr ⟨hm, h2, hx⟩
      · rw [hno] at h1; cases h1
  refine h.trade tr h.size h.defers ?_ ?_ ?_ ?_ ?_ ?_ ?_ ?_ ?_
  · intro i j hij hi hj b h1 h2
    have sepN : ∀ m ∈ ns, ∀ q, q ∉ ds → (st.obj q).isSome = true → ∀ b, m.S b → ¬ T q b := by
      intro m hm q hq hql b hb hTq
      rcases hS m hm b hb with ⟨d, hd, hTd⟩ | ⟨hlt, _⟩
      · exact h.dis d q (fun e => hq (e ▸ hd)) (hds d hd) hql b hTd hTq
      · have := (h.own q hql b hTq).2; omega
    rcases kinds i hi.1 hi.2 with hmi | ⟨hni, hdi, xs, hxi⟩
    · obtain ⟨p, hp, rfl⟩ := List.mem_map.1 hmi
      rw [hTn p hp] at h1
      rcases kinds j hj.1 hj.2 with hmj | ⟨hnj, hdj, ys, hxj⟩
      · obtain ⟨q, hq, rfl⟩ := List.mem_map.1 hmj
        rw [hTn q hq] at h2
        exact hdis p hp q hq hij b h1 h2
      · rw [hTo j hnj] at h2
        exact sepN p hp j hdj (by simp [hxj]) b h1 h2
    · rw [hTo i hni] at h1
      rcases kinds j hj.1 hj.2 with hmj | ⟨hnj, hdj, ys, hxj⟩
      · obtain ⟨q, hq, rfl⟩ := List.mem_map.1 hmj
        rw [hTn q hq] at h2
        exact sepN q hq i hdi (by simp [hxi]) b h2 h1
      · rw [hTo j hnj] at h2
        exact h.dis i j hij (by simp [hxi]) (by simp [hxj]) b h1 h2
  · intro i o hor ho
    rcases kinds i (by simp [ho]) hor with hmi | ⟨hni, hdi, xs, hxi⟩
    · obtain ⟨m, hm, rfl⟩ := List.mem_map.1 hmi
      rw [hnew m hm] at ho; cases ho
      rw [hTn m hm]
      have hk := hobj m hm
      unfold ObjOk at hk
      cases hmo : m.o with
      | arr k rows =>
        simp only [hmo] at hk
        simp only [ObjSim]
        rw [hvn m hm]
        exact hk.mono hBs (fun _ h => h)
      | box xs =>
        simp only [hmo] at hk
        obtain ⟨b, c, e, k1, k2, k3, k4, k5⟩ := hk
        simp only [ObjSim]
        rw [hvn m hm]
        exact ⟨b, c, e, k1, k2, k3, k4, fun i x v h1 h2 _ => (k5 i x v h1 h2 _ _ atO).mono hBs⟩
      | mp => simp only [hmo] at hk
    · rw [hold i hni, if_neg hdi, hxi] at ho
      simp only [Option.map_some, Obj.killAll, Option.some.injEq] at ho
      subst ho
      obtain ⟨b, c, e, k1, k2, k3, k4, k5⟩ := h.heap i _ hxi
      simp only [ObjSim]
      rw [hTo i hni, hvo i hni]
      refine ⟨b, c, e, k1, ?_, by simpa using k3, k4, ?_⟩
      · rw [hfr.heap b (h.own i (by simp [hxi]) b k4).2 (fun ⟨d, hd, hTd⟩ => h.dis d i (fun e => hdi (e ▸ hd)) (hds d hd) (by simp [hxi]) b hTd k4)]; exact k2
      · intro j x v hx hc hl
        rw [List.getElem?_map] at hx
        obtain ⟨y, hy, rfl⟩ := Option.map_eq_some_iff.1 hx
        exact keep y v (fun q hq => h.ubox i xs hxi q (mem_idsL hy hq)) hl (fun hly => k5 j y v hy hc hly)
  · intro x av hx
    rw [henv] at hx
    obtain ⟨y, hy, rfl⟩ := Option.map_eq_some_iff.1 hx
    exact h.slt x y hy
  · intro x av hx i hi
    rw [henv] at hx
    obtain ⟨y, hy, rfl⟩ := Option.map_eq_some_iff.1 hx
    refine (hused i).2 (.inl ?_)
    rcases killAll_or ks y with e | ⟨e, _⟩
    · rw [e] at hi; simp [AV.ids] at hi
    · rw [e] at hi; exact h.uenv x y hy i hi
  · intro i hi
    refine (hused i).2 ?_
    by_cases hm : i ∈ ns.map NewO.id
    · obtain ⟨m, hm', rfl⟩ := List.mem_map.1 hm; exact .inr ⟨m, hm', .inl rfl⟩
    · exact .inl (h.uobj i (isold i hi hm).1)
  · intro i v hp
    obtain ⟨p1, p2⟩ := h.pin i v hp
    refine ⟨(hused i).2 (.inl p1), fun hi => ?_⟩
    by_cases hm : i ∈ ns.map NewO.id
    · obtain ⟨m, hm', rfl⟩ := List.mem_map.1 hm
      rw [hvn m hm']
      rcases hid m hm' with h0 | ⟨hd, hv2, _⟩
      · rw [h0] at p1; cases p1
      · rw [hv2]; exact p2 (hds _ hd)
    · rw [hvo i hm]; exact p2 (isold i hi hm).1
  · intro i xs hx j hj
    by_cases hm : i ∈ ns.map NewO.id
    · obtain ⟨m, hm', rfl⟩ := List.mem_map.1 hm
      rw [hnew m hm'] at hx
      simp only [Option.some.injEq] at hx
      rcases hbx m hm' j (by rw [hx]; exact hj) with h1 | h1
      · exact (hused j).2 (.inl h1)
      · obtain ⟨q, hq, rfl⟩ := List.mem_map.1 h1; exact (hused _).2 (.inr ⟨q, hq, .inl rfl⟩)
    · obtain ⟨h1, h2⟩ := isold i (by simp [hx]) hm
      rw [hold i hm, if_neg h2] at hx
      obtain ⟨o, ho, he⟩ := Option.map_eq_some_iff.1 hx
      cases o with
      | arr => cases he
      | mp => cases he
      | box ys =>
        simp only [Obj.killAll, Obj.box.injEq] at he
        subst he
        refine (hused j).2 (.inl (h.ubox i ys ho j ?_))
        have : ∀ (l : List AV), j ∈ idsL (l.map (killAll ks)) → j ∈ idsL l := by
          intro l
          induction l with
          | nil => intro h; exact h
          | cons y l ih =>
            intro h
            simp only [List.map_cons, idsL, List.mem_append] at h ⊢
            rcases h with h | h
            · rcases killAll_or ks y with e | ⟨e, _⟩
              · rw [e] at h; simp [AV.ids] at h
              · rw [e] at h; exact .inl h
            · exact .inr (ih h)
        exact this ys hj
  · intro i xs hx hnd
    exact absurd (.inr ⟨xs, hx⟩) hnd
  · intro x av hx hl
    rw [henv] at hx
    obtain ⟨y, hy, rfl⟩ := Option.map_eq_some_iff.1 hx
    rcases killAll_or ks y with e | ⟨e, hp⟩
    · have hsz := h.slt x y hy
      have : x < a.tmps.size := by rw [h.size]; exact hsz
      rw [e]
      exact ⟨a.tmps[x], by simp [this], .dead _⟩
    · have hl2 := hl
      rw [e] at hl2
      obtain ⟨v', h1, h2⟩ := h.env x y hy (liveOld y (h.uenv x y hy) hl2)
      exact ⟨v', h1, keep y v' (h.uenv x y hy) hl (fun _ => h2)⟩
end
end Go.Am
