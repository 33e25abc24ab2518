/- Weakenings: what is owned becomes shared; nothing becomes an empty slice of one's own. Own work; generic. -/
import Derived.Test.YtcbpckbehdaloaaAmYd
set_option linter.unusedSimpArgs false
set_option linter.unusedVariables false
namespace Go.Am
open Go

mutual
def fzAV (id : Nat) (c : Cell) : AV → AV
  | .ref i [] => bif Nat.beq i id then .c c else .ref i []
  | .ref i (x :: p) => bif Nat.beq i id then .dead else .ref i (x :: p)
  | .ptr i p k a b => bif Nat.beq i id then .dead else .ptr i p k a b
  | .agg xs => .agg (fzL id c xs)
  | .tup xs => .tup (fzL id c xs)
  | .fn f xs => .fn f (fzL id c xs)
  | .dead => .dead
  | .c x => .c x
  | .row x => .row x
  | .pts x => .pts x
  | .bx i j => .bx i j
def fzL (id : Nat) (c : Cell) : List AV → List AV
  | [] => []
  | x :: r => fzAV id c x :: fzL id c r
end
theorem fzL_get (id : Nat) (c : Cell) : ∀ (l : List AV) (i : Nat), (fzL id c l)[i]? = (l[i]?).map (fzAV id c)
  | [], i => by simp [fzL]
  | a :: l, 0 => by simp [fzL]
  | a :: l, i + 1 => by simp [fzL, fzL_get id c l i]
theorem fzL_length (id : Nat) (c : Cell) : ∀ (l : List AV), (fzL id c l).length = l.length
  | [] => rfl
  | a :: l => by simp [fzL, fzL_length id c l]
mutual
theorem fz_ids (id : Nat) (c : Cell) : ∀ (av : AV), ∀ j ∈ av.ids, j = id ∨ j ∈ (fzAV id c av).ids
  | .ref i [], j, hj => by
    simp [AV.ids] at hj; subst hj
    by_cases e : j = id
    · exact .inl e
    · right; simp [fzAV, show Nat.beq j id = false from by cases h : Nat.beq j id with | false => rfl | true => exact absurd (Nat.eq_of_beq_eq_true h) e, AV.ids]
  | .ref i (x :: p), j, hj => by
    simp [AV.ids] at hj; subst hj
    by_cases e : j = id
    · exact .inl e
    · right; simp [fzAV, show Nat.beq j id = false from by cases h : Nat.beq j id with | false => rfl | true => exact absurd (Nat.eq_of_beq_eq_true h) e, AV.ids]
  | .ptr i p k a b, j, hj => by
    simp [AV.ids] at hj; subst hj
    by_cases e : j = id
    · exact .inl e
    · right; simp [fzAV, show Nat.beq j id = false from by cases h : Nat.beq j id with | false => rfl | true => exact absurd (Nat.eq_of_beq_eq_true h) e, AV.ids]
  | .agg xs, j, hj => by simp only [fzAV, AV.ids] at hj ⊢; exact fzL_ids id c xs j hj
  | .tup xs, j, hj => by simp only [fzAV, AV.ids] at hj ⊢; exact fzL_ids id c xs j hj
  | .fn f xs, j, hj => by simp only [fzAV, AV.ids] at hj ⊢; exact fzL_ids id c xs j hj
  | .dead, j, hj => .inr hj
  | .c x, j, hj => .inr hj
  | .row x, j, hj => .inr hj
  | .pts x, j, hj => .inr hj
  | .bx i k, j, hj => .inr hj
theorem fzL_ids (id : Nat) (c : Cell) : ∀ (l : List AV), ∀ j ∈ idsL l, j = id ∨ j ∈ idsL (fzL id c l)
  | [], j, hj => by simp [idsL] at hj
  | x :: l, j, hj => by
    simp only [idsL, List.mem_append] at hj
    simp only [fzL, idsL, List.mem_append]
    rcases hj with h | h
    · exact (fz_ids id c x j h).imp (fun h => h) .inl
    · exact (fzL_ids id c l j h).imp (fun h => h) .inr
end
mutual
theorem fz_ids2 (id : Nat) (c : Cell) : ∀ (av : AV), ∀ j ∈ (fzAV id c av).ids, j ∈ av.ids
  | .ref i [], j, hj => by
    simp only [fzAV] at hj
    cases h : Nat.beq i id with
    | true => simp [h, AV.ids] at hj
    | false => simpa [h, AV.ids] using hj
  | .ref i (x :: p), j, hj => by
    simp only [fzAV] at hj
    cases h : Nat.beq i id with
    | true => simp [h, AV.ids] at hj
    | false => simpa [h, AV.ids] using hj
  | .ptr i p k a b, j, hj => by
    simp only [fzAV] at hj
    cases h : Nat.beq i id with
    | true => simp [h, AV.ids] at hj
    | false => simpa [h, AV.ids] using hj
  | .agg xs, j, hj => by simp only [fzAV, AV.ids] at hj ⊢; exact fzL_ids2 id c xs j hj
  | .tup xs, j, hj => by simp only [fzAV, AV.ids] at hj ⊢; exact fzL_ids2 id c xs j hj
  | .fn f xs, j, hj => by simp only [fzAV, AV.ids] at hj ⊢; exact fzL_ids2 id c xs j hj
  | .dead, j, hj => hj
  | .c x, j, hj => hj
  | .row x, j, hj => hj
  | .pts x, j, hj => hj
  | .bx i k, j, hj => hj
theorem fzL_ids2 (id : Nat) (c : Cell) : ∀ (l : List AV), ∀ j ∈ idsL (fzL id c l), j ∈ idsL l
  | [], j, hj => hj
  | x :: l, j, hj => by
    simp only [fzL, idsL, List.mem_append] at hj
    simp only [idsL, List.mem_append]
    rcases hj with h | h
    · exact .inl (fz_ids2 id c x j h)
    · exact .inr (fzL_ids2 id c l j h)
end
def Obj.fz (id : Nat) (c : Cell) : Obj → Obj
  | .box xs => .box (fzL id c xs)
  | o => o
/-- The slice is no more owned; it may be read for ever. -/
def fzSt (id : Nat) (c : Cell) (st : St) : St := ⟨fun x => (st.env x).map (fzAV id c), fun i => bif Nat.beq i id then none else (st.obj i).map (Obj.fz id c), st.used⟩

section
variable {P : Program} {n : Nat}
variable {pn : Nat → Option Value} {w0 : World} {A0 F0 : Blks} {hv : Nat → Value} {T : Nat → Blks} {st st' : St} {a : Act} {w w' : World}

theorem beq_ne {a b : Nat} (h : a ≠ b) : Nat.beq a b = false := by
  cases hb : Nat.beq a b with
  | false => rfl
  | true => exact absurd (Nat.eq_of_beq_eq_true hb) h

theorem le_freeze {id k : Nat} {rows rs : List (List Cell)} (hid : st.obj id = some (.arr k rows)) (hnb : ∀ r ∈ rows, ∀ c ∈ r, NoBox c) (hs : shareRows rows = rs) : Le n st (fzSt id (.sl false k rs) st) := by
  rintro pn w0 A0 F0 a w ⟨hv, T, hT⟩
  let c : Cell := .sl false k rs
  have hobj : ∀ i, (fzSt id c st).obj i = if i = id then none else (st.obj i).map (Obj.fz id c) := by
    intro i
    by_cases e : i = id
    · subst e; simp [fzSt]
    · simp only [fzSt, beq_ne e, cond_false, if_neg e]
  let D : Nat → Prop := fun d => d = id ∨ ∃ xs, st.obj d = some (.box xs)
  have live' : ∀ i, ((fzSt id c st).obj i).isSome = true → i ≠ id ∧ (st.obj i).isSome = true := by
    intro i hi
    rw [hobj] at hi
    by_cases e : i = id
    · rw [if_pos e] at hi; cases hi
    · rw [if_neg e, Option.isSome_map] at hi; exact ⟨e, hi⟩
  have tr : Trade w0 A0 F0 hv hv T T st.obj (fzSt id c st).obj D w w := by
    refine ⟨fun d hd => ?_, ⟨fun _ _ _ => rfl, Nat.le_refl _, rfl, rfl⟩, fun i hi hnd => ?_, fun i hi hor b hb => ?_⟩
    · rcases hd with rfl | ⟨xs, hd⟩
      · simp [hid]
      · simp [hd]
    · refine ⟨?_, rfl, rfl⟩
      rw [hobj, if_neg (fun e => hnd (.inl e))]
      cases ho : st.obj i with
      | none => rfl
      | some o => cases o with
        | box xs => exact absurd (.inr ⟨xs, ho⟩) hnd
        | arr => rfl
        | mp => rfl
    · rcases hor with hd | hno
      · exact .inl ⟨i, hd, hb⟩
      · have := (live' i hi).2; rw [hno] at this; cases this
  have shId : ∀ b, Sh A0 F0 w0 T st.obj w b ∨ T id b → Sh A0 F0 w0 T (fzSt id c st).obj w b := by
    rintro b (hb | hb)
    · exact tr.sh hb
    · have h1 := hT.own id (by simp [hid]) b hb
      refine ⟨.inr h1.1, h1.2, fun j hj hTj => ?_⟩
      obtain ⟨g1, g2⟩ := live' j hj
      exact hT.dis j id g1 g2 (by simp [hid]) b hTj hb
  have key : ∀ {av : AV} {v : Value}, AVSim w (Sh A0 F0 w0 T st.obj w) hv st.obj av v → AVSim w (Sh A0 F0 w0 T (fzSt id c st).obj w) hv (fzSt id c st).obj (fzAV id c av) v := by
    intro av v ha
    have objArr : ∀ {i k rows}, i ≠ id → st.obj i = some (.arr k rows) → (fzSt id c st).obj i = some (.arr k rows) := by
      intro i k rows e h; rw [hobj, if_neg e, h]; rfl
    induction ha with
    | dead v => exact .dead v
    | c ho => exact .c (tr.own ho)
    | row hs hh => exact .row hs fun i x v h1 h2 => tr.own (hh i x v h1 h2)
    | @ref i p k1 k2 o rw1 rw2 v ho hg hh =>
      by_cases e : i = id
      · subst e
        cases p with
        | nil =>
          simp only [Hdr] at hh; subst hh
          simp only [fzAV, show Nat.beq i i = true from by simp, cond_true]
          have := (hT.heap i _ hid)
          simp only [ObjSim] at this
          have h2 := this.share (.sl true k hnb) (A' := Sh A0 F0 w0 T (fzSt i c st).obj w) (F' := noBlk) shId
          rw [Cell.share, hs] at h2
          exact .c h2
        | cons => simp only [fzAV, show Nat.beq i i = true from by simp, cond_true]; exact .dead _
      · cases p <;> simp only [fzAV, beq_ne e, cond_false] <;> exact .ref (objArr e ho) hg hh
    | @ptr i p k1 i1 j1 k0 rw1 o rw2 b off len cap ho hg hh =>
      by_cases e : i = id
      · subst e; simp only [fzAV, show Nat.beq i i = true from by simp, cond_true]; exact .dead _
      · simp only [fzAV, beq_ne e, cond_false]; exact .ptr (n := len) (cap := cap) (objArr e ho) hg hh
    | @bx i j b xs ho hh =>
      have e : i ≠ id := fun e => by subst e; rw [hid] at ho; cases ho
      exact .bx (by rw [hobj, if_neg e, ho]; rfl) hh
    | @pts xs b off c e fr hb hA hs hh => exact .pts hb (tr.sh hA) hs fun i x v h1 h2 => tr.own (hh i x v h1 h2)
    | @mp i ks v ho hh =>
      have e : i ≠ id := fun e => by subst e; rw [hid] at ho; cases ho
      exact .mp (by rw [hobj, if_neg e, ho]; rfl) hh
    | @agg xs vs hs hh ih =>
      refine .agg (by rw [fzL_length]; exact hs) fun i x v h1 h2 => ?_
      rw [fzL_get] at h1
      obtain ⟨y, hy, rfl⟩ := Option.map_eq_some_iff.1 h1
      exact ih i y v hy h2
    | @tup xs vs hs hh ih =>
      refine .tup (by rw [fzL_length]; exact hs) fun i x v h1 h2 => ?_
      rw [fzL_get] at h1
      obtain ⟨y, hy, rfl⟩ := Option.map_eq_some_iff.1 h1
      exact ih i y v hy h2
    | @fn f xs vs hs hh ih =>
      refine .fn (by rw [fzL_length]; exact hs) fun i x v h1 h2 => ?_
      rw [fzL_get] at h1
      obtain ⟨y, hy, rfl⟩ := Option.map_eq_some_iff.1 h1
      exact ih i y v hy h2
  have liveB : ∀ av, Live (fzSt id c st).obj (fzAV id c av) → Live st.obj av := by
    intro av hl j hj
    rcases fz_ids id c av j hj with rfl | h
    · simp [hid]
    · exact (live' j (hl j h)).2
  refine ⟨hv, T, hT.trade tr hT.size hT.defers ?_ ?_ ?_ ?_ ?_ ?_ ?_ ?_ ?_⟩
  · intro i j hij hi hj b h1 h2
    exact hT.dis i j hij (live' i hi.1).2 (live' j hj.1).2 b h1 h2
  · intro i o hor ho
    obtain ⟨g1, g2⟩ := live' i (Option.isSome_iff_exists.2 ⟨_, ho⟩)
    rw [hobj, if_neg g1] at ho
    obtain ⟨o0, ho0, rfl⟩ := Option.map_eq_some_iff.1 ho
    rcases hor with (e | ⟨xs, hx⟩) | hno
    · exact absurd e g1
    · rw [hx] at ho0; cases ho0
      obtain ⟨b, cc, e, k1, k2, k3, k4, k5⟩ := hT.heap i _ hx
      refine ⟨b, cc, e, k1, k2, by rw [fzL_length]; exact k3, k4, fun j x v h1 h2 hl => ?_⟩
      rw [fzL_get] at h1
      obtain ⟨y, hy, rfl⟩ := Option.map_eq_some_iff.1 h1
      exact key (k5 j y v hy h2 (liveB y hl))
    · rw [hno] at g2; cases g2
  · intro x av hx
    obtain ⟨y, hy, rfl⟩ := Option.map_eq_some_iff.1 hx
    exact hT.slt x y hy
  · intro x av hx i hi
    obtain ⟨y, hy, rfl⟩ := Option.map_eq_some_iff.1 hx
    exact hT.uenv x y hy i (fz_ids2 id c y i hi)
  · intro i hi; exact hT.uobj i (live' i hi).2
  · intro i v hp
    obtain ⟨p1, p2⟩ := hT.pin i v hp
    exact ⟨p1, fun hi => p2 (live' i hi).2⟩
  · intro i xs hx j hj
    obtain ⟨g1, g2⟩ := live' i (Option.isSome_iff_exists.2 ⟨_, hx⟩)
    rw [hobj, if_neg g1] at hx
    obtain ⟨o0, ho0, he⟩ := Option.map_eq_some_iff.1 hx
    cases o0 with
    | arr => cases he
    | mp => cases he
    | box ys =>
      simp only [Obj.fz, Obj.box.injEq] at he
      subst he
      exact hT.ubox i ys ho0 j (fzL_ids2 id c ys j hj)
  · intro i xs hx hnd; exact absurd (.inr ⟨xs, hx⟩) hnd
  · intro x av hx hl
    obtain ⟨y, hy, rfl⟩ := Option.map_eq_some_iff.1 hx
    obtain ⟨v, h1, h2⟩ := hT.env x y hy (liveB y hl)
    exact ⟨v, h1, key h2⟩

/-- What lies within an owned slice is no more owned. -/
theorem le_share {id k : Nat} {rows rs : List (List Cell)} (hid : st.obj id = some (.arr k rows)) (hnb : ∀ r ∈ rows, ∀ c ∈ r, NoBox c) (hs : shareRows rows = rs) :
    Le n st (apps (dels [id] ++ (killsU [id] ++ putsO [(id, .arr k rs)])) st) := by
  rintro pn w0 A0 F0 a w ⟨hv, T, hT⟩
  have hown := hT.heap id _ hid
  simp only [ObjSim] at hown
  have key : ∃ S : Blks, (∀ b, S b → T id b) ∧ ∀ B : Blks, (∀ b, Sh A0 F0 w0 T st.obj w b ∨ (T id b ∧ ¬ S b) → B b) → Own w B S (.sl true k rs) (hv id) := by
    generalize hv id = v at hown
    cases hown with
    | nil => exact ⟨noBlk, fun _ f => f.elim, fun B _ => by rw [← hs]; exact .nil _ _⟩
    | @arr _ _ _ b cap c e G hb hk hsz hcap hF hG hGb hd h =>
      refine ⟨fun x => x = b, fun x hx => hx ▸ hF, fun B hB => ?_⟩
      have hl : rs.length = rows.length := by rw [← hs, shareRows_eq, List.length_map]
      have := Own.arr (w := w) (A := B) (F := fun x => x = b) (k := k) (rows := rs) (b := b) (cap := cap) (c := c) (e := e) (G := fun _ => noBlk) hb
        (by rw [← hs, shareRows_eq]; intro r hr; obtain ⟨r', h1, rfl⟩ := List.mem_map.1 hr; simpa using hk r' h1) hsz (by omega) rfl (fun _ _ f => f.elim) (fun _ f => f) (fun _ _ _ _ f => f.elim)
        (by
          intro i x v h1 h2
          rw [← hs, shareRows_eq, ← List.map_flatten, List.getElem?_map] at h1
          obtain ⟨y, h3, rfl⟩ := Option.map_eq_some_iff.1 h1
          obtain ⟨r, hr, hy⟩ := mem_flatten_of_getElem? h3
          exact (h i y v h3 h2).share (hnb r hr y hy) (A' := B) (F' := noBlk) (fun b' hb' => hB b' (hb'.imp (fun h => h) (fun h => ⟨hG i b' h, fun e => hGb i (e ▸ h)⟩))))
      rw [hl] at this
      exact this
  obtain ⟨S, k1, k2⟩ := key
  obtain ⟨hv', T', g1, _, _⟩ := hT.swap (ds := [id]) (ks := [id]) (w' := w) (fun d hd => by simp at hd; subst hd; simp [hid]) ⟨fun _ _ _ => rfl, Nat.le_refl _, rfl, rfl⟩ [⟨id, .arr k rs, hv id, S⟩] (by simp)
    (fun m hm => by simp at hm; subst hm; exact .inr ⟨by simp, rfl, _, hid, .inl ⟨_, _, _, rfl, rfl⟩, fun _ => by simp⟩) (fun m hm b hb => by simp at hm; subst hm; exact .inl ⟨id, by simp, k1 b hb⟩)
    (fun p hp q hq hne => by simp at hp hq; subst hp hq; exact absurd rfl hne) (fun b => Sh A0 F0 w0 T st.obj w b ∨ (T id b ∧ ¬ S b))
    (fun b hb => hb.imp (fun h => h) fun ⟨h1, h2⟩ => ⟨.inl ⟨id, by simp, h1⟩, fun m hm => by simp at hm; subst hm; exact h2⟩)
    (fun m hm => by simp at hm; subst hm; exact k2 _ (fun b h => h)) (fun m hm j hj => by simp at hm; subst hm; simp [Obj.ids] at hj)
  exact ⟨hv', T', g1⟩

/-- A slot is looked at in another way. -/
theorem StSim.reEnv (h : StSim n pn w0 A0 F0 hv T st a w) {x : Nat} {av' : AV} (hx : x < n) (hu : ∀ i ∈ av'.ids, st.used i = true) (hav : ∀ v, a.tmps[x]? = some v → AVSim w (Sh A0 F0 w0 T st.obj w) hv st.obj av' v) :
    StSim n pn w0 A0 F0 hv T ((Upd.set x av').app st) a w where
  size := h.size
  defers := h.defers
  frame := h.frame
  env := by
    intro y av hy hl
    replace hy : upd st.env x (some av') y = some av := hy
    rw [upd_apply] at hy
    split at hy
    · rename_i e; subst e; cases hy
      have : x < a.tmps.size := by rw [h.size]; exact hx
      exact ⟨a.tmps[x], by simp [this], hav _ (by simp [this])⟩
    · exact h.env y av hy hl
  heap := h.heap
  own := h.own
  dis := h.dis
  slt := by
    intro y av hy
    replace hy : upd st.env x (some av') y = some av := hy
    rw [upd_apply] at hy
    split at hy
    · rename_i e; subst e; exact hx
    · exact h.slt y av hy
  uenv := by
    intro y av hy i hi
    refine addU_true.2 (.inl ?_)
    replace hy : upd st.env x (some av') y = some av := hy
    rw [upd_apply] at hy
    split at hy
    · cases hy; exact hu i hi
    · exact h.uenv y av hy i hi
  uobj := fun i hi => addU_true.2 (.inl (h.uobj i hi))
  pin := fun i v hp => ⟨addU_true.2 (.inl (h.pin i v hp).1), (h.pin i v hp).2⟩
  ubox := fun i xs hx j hj => addU_true.2 (.inl (h.ubox i xs hx j hj))
  pbig := h.pbig

theorem swap_nil (hT : StSim n pn w0 A0 F0 hv T st a w) {id k : Nat} (hid : st.used id = false) :
    ∃ hv' T', StSim n pn w0 A0 F0 hv' T' (apps [.put id (.arr k [])] st) a w ∧ hv' id = .slice none 0 0 ∧ (apps [.put id (.arr k [])] st).obj id = some (.arr k []) := by
  obtain ⟨hv', T', g1, g2, _⟩ := hT.swap (ds := []) (ks := []) (w' := w) (fun d hd => by simp at hd) ⟨fun _ _ _ => rfl, Nat.le_refl _, rfl, rfl⟩ [⟨id, .arr k [], .slice none 0 0, noBlk⟩] (by simp)
    (fun m hm => by simp at hm; subst hm; exact .inl hid) (fun m hm b hb => by simp at hm; subst hm; exact hb.elim) (fun p hp q hq hne => by simp at hp hq; subst hp hq; exact absurd rfl hne) noBlk (fun b f => f.elim)
    (fun m hm => by simp at hm; subst hm; exact .nil _ _) (fun m hm j hj => by simp at hm; subst hm; simp [Obj.ids] at hj)
  exact ⟨hv', T', g1, (g2 _ (List.mem_cons_self ..)).1, upd_same _ _ _⟩

/-- No slice is an empty one of one's own. -/
theorem le_nilE {x id k : Nat} (hx : st.env x = some (.c (.lit (.slice none 0 0)))) (hid : st.used id = false) : Le n st (apps [.put id (.arr k []), .set x (.ref id [])] st) := by
  rintro pn w0 A0 F0 a w ⟨hv, T, hT⟩
  obtain ⟨v, h1, h2⟩ := hT.env x _ hx (live_c _ _)
  have hxn := hT.slt x _ hx
  obtain ⟨hv', T', g1, g2, g3⟩ := swap_nil hT (k := k) hid
  refine ⟨hv', T', g1.reEnv hxn (fun i hi => ?_) fun u hu => ?_⟩
  · simp [AV.ids] at hi; subst hi; exact g1.uobj i (by simp [g3])
  · rw [h1] at hu; cases hu
    have : v = .slice none 0 0 := by cases h2 with | c h => cases h; rfl
    subst this
    exact .ref g3 (p := []) rfl (by simp only [Hdr]; exact g2.symm)

/-- A cell of a box is looked at in another way. -/
theorem StSim.reBox (h : StSim n pn w0 A0 F0 hv T st a w) {b j : Nat} {xs : List AV} {av av' : AV} (hb : st.obj b = some (.box xs)) (hj : xs[j]? = some av) (hu : ∀ i ∈ av'.ids, st.used i = true) (hlv : Live st.obj av)
    (hav : ∀ v, AVSim w (Sh A0 F0 w0 T st.obj w) hv st.obj av v → AVSim w (Sh A0 F0 w0 T st.obj w) hv st.obj av' v) :
    StSim n pn w0 A0 F0 hv T ((Upd.put b (.box (xs.set j av'))).app st) a w := by
  have hobj : ∀ i, ((Upd.put b (.box (xs.set j av'))).app st).obj i = if b = i then some (.box (xs.set j av')) else st.obj i := fun i => upd_apply _ _ _ _
  have live' : ∀ i, (((Upd.put b (.box (xs.set j av'))).app st).obj i).isSome = true ↔ (st.obj i).isSome = true := by
    intro i; rw [hobj]; split
    · rename_i e; subst e; simp [hb]
    · rfl
  have hsh : ∀ y, Sh A0 F0 w0 T st.obj w y → Sh A0 F0 w0 T ((Upd.put b (.box (xs.set j av'))).app st).obj w y := fun y hy => ⟨hy.1, hy.2.1, fun i hi => hy.2.2 i ((live' i).1 hi)⟩
  have key : ∀ {av : AV} {v : Value}, AVSim w (Sh A0 F0 w0 T st.obj w) hv st.obj av v → AVSim w (Sh A0 F0 w0 T ((Upd.put b (.box (xs.set j av'))).app st).obj w) hv ((Upd.put b (.box (xs.set j av'))).app st).obj av v := by
    intro av v ha
    have ne : ∀ {i k rows}, st.obj i = some (.arr k rows) → ((Upd.put b (.box (xs.set j av'))).app st).obj i = some (.arr k rows) := by
      intro i k rows h1; rw [hobj, if_neg (fun e => by subst e; rw [hb] at h1; cases h1)]; exact h1
    induction ha with
    | dead v => exact .dead v
    | c ho => exact .c (ho.mono hsh (fun _ f => f))
    | row hs hh => exact .row hs fun i x v h1 h2 => (hh i x v h1 h2).mono hsh (fun _ f => f)
    | ref ho hg hh => exact .ref (ne ho) hg hh
    | @ptr i p k1 i1 j1 k0 rw1 o rw2 b off len cap ho hg hh => exact .ptr (n := len) (cap := cap) (ne ho) hg hh
    | @bx i j2 b2 ys ho hh =>
      by_cases e : b = i
      · subst e; exact .bx (by rw [hobj, if_pos rfl]) hh
      · exact .bx (by rw [hobj, if_neg e]; exact ho) hh
    | pts hb hA hs hh => exact .pts hb (hsh _ hA) hs fun i x v h1 h2 => (hh i x v h1 h2).mono hsh (fun _ f => f)
    | @mp i ks v ho hh => exact .mp (by rw [hobj, if_neg (fun e => by subst e; rw [hb] at ho; cases ho)]; exact ho) hh
    | agg hs _ ih => exact .agg hs ih
    | tup hs _ ih => exact .tup hs ih
    | fn hs _ ih => exact .fn hs ih
  have lv : ∀ {av : AV}, Live ((Upd.put b (.box (xs.set j av'))).app st).obj av → Live st.obj av := fun hl i hi => (live' i).1 (hl i hi)
  refine ⟨h.size, h.defers, h.frame, ?_, ?_, ?_, ?_, h.slt, ?_, ?_, ?_, ?_, h.pbig⟩
  · intro y av2 hy hl
    obtain ⟨v, h1, h2⟩ := h.env y av2 hy (lv hl)
    exact ⟨v, h1, key h2⟩
  · intro i o ho
    rw [hobj] at ho
    split at ho
    · rename_i e; subst e; cases ho
      obtain ⟨b', c, e, k1, k2, k3, k4, k5⟩ := h.heap b _ hb
      refine ⟨b', c, e, k1, k2, by simpa using k3, k4, fun i x v hx hc hl => ?_⟩
      by_cases hij : j = i
      · subst hij
        rw [List.getElem?_set_self (List.getElem?_eq_some_iff.1 hj).1] at hx
        cases hx
        exact key (hav v (k5 j av v hj hc hlv))
      · rw [List.getElem?_set_ne hij] at hx
        exact key (k5 i x v hx hc (lv hl))
    · have hold := h.heap i o ho
      cases o with
      | arr k rows => simp only [ObjSim] at hold ⊢; exact hold.mono hsh (fun _ h => h)
      | box ys =>
        obtain ⟨b', c, e, k1, k2, k3, k4, k5⟩ := hold
        exact ⟨b', c, e, k1, k2, k3, k4, fun i x v hx hc hl => key (k5 i x v hx hc (lv hl))⟩
      | mp => exact hold
  · intro i hi y hy; exact h.own i ((live' i).1 hi) y hy
  · intro i j hij hi hj y h1 h2; exact h.dis i j hij ((live' i).1 hi) ((live' j).1 hj) y h1 h2
  · intro y av2 hy i hi; exact addU_true.2 (.inl (h.uenv y av2 hy i hi))
  · intro i hi; exact addU_true.2 (.inl (h.uobj i ((live' i).1 hi)))
  · intro i v hp; exact ⟨addU_true.2 (.inl (h.pin i v hp).1), fun hi => (h.pin i v hp).2 ((live' i).1 hi)⟩
  · intro i ys hx q hq
    refine addU_true.2 (.inl ?_)
    rw [hobj] at hx
    split at hx
    · cases hx
      have : ∀ (l : List AV) (j : Nat), q ∈ idsL (l.set j av') → q ∈ idsL l ∨ q ∈ av'.ids := by
        intro l
        induction l with
        | nil => intro j h; exact .inl h
        | cons x l ih =>
          intro j h
          cases j with
          | zero => simp only [List.set_cons_zero, idsL, List.mem_append] at h ⊢; exact h.elim .inr (fun h => .inl (.inr h))
          | succ j =>
            simp only [List.set_cons_succ, idsL, List.mem_append] at h ⊢
            rcases h with h | h
            · exact .inl (.inl h)
            · exact (ih j h).imp .inr (fun h => h)
      rcases this xs j hq with h1 | h1
      · exact h.ubox b xs hb q h1
      · exact hu q h1
    · exact h.ubox i ys hx q hq

theorem le_nilB {b j id k : Nat} {xs : List AV} (hb : st.obj b = some (.box xs)) (hj : xs[j]? = some (.c (.lit (.slice none 0 0)))) (hid : st.used id = false) :
    Le n st (apps [.put id (.arr k []), .put b (.box (xs.set j (.ref id [])))] st) := by
  rintro pn w0 A0 F0 a w ⟨hv, T, hT⟩
  have hne : id ≠ b := fun e => by subst e; have := hT.uobj id (by simp [hb]); rw [hid] at this; cases this
  obtain ⟨hv', T', g1, g2, g3⟩ := swap_nil hT (k := k) hid
  have hb' : (apps [.put id (.arr k [])] st).obj b = some (.box xs) := (upd_ne _ _ hne).trans hb
  refine ⟨hv', T', g1.reBox (av' := .ref id []) hb' hj (fun i hi => ?_) (live_c _ _) fun u hu => ?_⟩
  · simp [AV.ids] at hi; subst hi; exact g1.uobj i (by simp [g3])
  · have : u = .slice none 0 0 := by cases hu with | c h => cases h; rfl
    subst this
    exact .ref g3 (p := []) rfl (by simp only [Hdr]; exact g2.symm)
end
end Go.Am
