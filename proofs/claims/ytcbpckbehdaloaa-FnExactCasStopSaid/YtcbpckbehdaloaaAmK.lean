/- append and stores into slices, as operations. Own work; generic. -/
import Derived.Test.YtcbpckbehdaloaaAmJ
set_option linter.unusedSimpArgs false
set_option linter.unusedVariables false
namespace Go.Am
open Go

section
variable {P : Program} {ops : Array Oper} {n : Nat}
variable {pn : Nat → Option Value} {w0 : World} {A0 F0 : Blks} {hv hv' : Nat → Value} {T T' : Nat → Blks} {st st' : St} {a : Act} {w w' : World} {D : Nat → Prop}
variable {d : Nat} {ty : TypeId} {pos : String} {after : Array Edge} {g : Option (Nat × Bool)}

abbrev Objs := List (Nat × Nat × List (List Cell))
def objReqs (os : Objs) : List Req := os.map fun p => .obj p.1 (.arr p.2.1 p.2.2)
theorem sats_objs_nil {st : St} {rs : List Req} (k : ∀ r ∈ rs, r.sat st) : ∀ r ∈ objReqs [] ++ rs, r.sat st := k
theorem sats_objs_cons {st : St} {id k : Nat} {rows : List (List Cell)} {os : Objs} {rs : List Req} (h : st.obj id = some (.arr k rows)) (t : ∀ r ∈ objReqs os ++ rs, r.sat st) :
    ∀ r ∈ objReqs ((id, k, rows) :: os) ++ rs, r.sat st := sats_cons h t
theorem objs_of {st : St} {os : Objs} {rs : List Req} (h : ∀ r ∈ objReqs os ++ rs, r.sat st) : (∀ p ∈ os, st.obj p.1 = some (.arr p.2.1 p.2.2)) ∧ ∀ r ∈ rs, r.sat st :=
  ⟨fun p hp => h (.obj p.1 (.arr p.2.1 p.2.2)) (List.mem_append_left _ (List.mem_map.2 ⟨p, hp, rfl⟩)), fun r hr => h r (List.mem_append_right _ hr)⟩

/-- A slice, whole: owned, shared, or nil. -/
inductive SlOf : AV → Bool → Nat → List (List Cell) → Objs → Prop
  | ref {id k : Nat} {rows : List (List Cell)} : SlOf (.ref id []) true k rows [(id, k, rows)]
  | sh {k : Nat} {rows : List (List Cell)} : SlOf (.c (.sl false k rows)) false k rows []
  | nil {o : Bool} {k : Nat} : SlOf (.c (.lit (.slice none 0 0))) o k [] []

theorem slOf_own (hT : StSim n pn w0 A0 F0 hv T st a w) {av : AV} {o : Bool} {k : Nat} {rows : List (List Cell)} {os : Objs} {v : Value} (h : SlOf av o k rows os)
    (hobj : ∀ p ∈ os, st.obj p.1 = some (.arr p.2.1 p.2.2)) (hs : AVSim w (Sh A0 F0 w0 T st.obj w) hv st.obj av v) :
    Own w (Sh A0 F0 w0 T st.obj w) (fun b => ∃ p ∈ os, T p.1 b) (.sl o k rows) v := by
  cases h with
  | @ref id k rows =>
    have ho := hobj (id, k, rows) (by simp)
    cases hs with
    | ref _ hg hh =>
      simp only [Hdr] at hh; subst hh
      exact Own.mono (hT.heap id _ ho) (fun _ h => h) (fun b hb => ⟨(id, k, rows), by simp, hb⟩)
  | sh => cases hs with | c ho => exact ho.mono (fun _ h => h) (fun _ f => f.elim)
  | nil => cases hs with | c ho => cases ho; exact .nil _ _
theorem slOf_live {av : AV} {o : Bool} {k : Nat} {rows : List (List Cell)} {os : Objs} (h : SlOf av o k rows os) (hobj : ∀ p ∈ os, st.obj p.1 = some (.arr p.2.1 p.2.2)) : Live st.obj av := by
  cases h with
  | @ref id' k rows =>
    intro i hi
    simp [AV.ids] at hi; subst hi
    have := hobj (i, k, rows) (by simp)
    simp at this; simp [this]
  | sh => exact live_c _ _
  | nil => exact live_c _ _

theorem op_append {t tx e e' ty : TypeId} {k bytes : Nat} {x y : Operand} {ax ay : AV} {ob : Bool} {rowsA rowsB : List (List Cell)} {osA osB : Objs} (hty : ElemTy P t e k bytes) (htx : P.underlying tx = some (.slice e'))
    (hA : SlOf ax true k rowsA osA) (hB : SlOf ay ob k rowsB osB) (hdis : (osA.all fun p => osB.all fun q => !Nat.beq p.1 q.1) = true) (hok : (rowsB.all fun r => r.all Cell.ok) = true)
    (hbig : (2 * (rowsA.length + rowsB.length) + 1024) * bytes ≤ 281474976710656) (h63 : rowsA.length + rowsB.length ≤ 4611686018427387904) (hn : d < n) :
    OpL0 P n ⟨some d, .call ⟨.builtin .append, #[x, y], #[t, tx]⟩, ty, pos, after, g⟩ (.opd x ax :: .opd y ay :: .fresh d :: (objReqs (osA ++ osB) ++ []))
      (dels ((osA ++ osB).map (·.1)) ++ [.put d (.arr k (rowsA ++ rowsB)), .set d (.ref d [])]) := by
  intro pn w0 A0 F0 st a w hB0 hS hs K Q hK
  obtain ⟨hv, T, hT⟩ := hS
  have h0 : opIs st x ax := at0 hs
  have h1 : opIs st y ay := at1 hs
  have hf : st.used d = false := at2 hs
  obtain ⟨hobj, _⟩ := objs_of (at_tail (at_tail (at_tail hs)))
  have hoA : ∀ p ∈ osA, st.obj p.1 = some (.arr p.2.1 p.2.2) := fun p hp => hobj p (by simp [hp])
  have hoB : ∀ p ∈ osB, st.obj p.1 = some (.arr p.2.1 p.2.2) := fun p hp => hobj p (by simp [hp])
  have o1 := slOf_own hT hA hoA (hT.eval h0 (slOf_live hA hoA))
  have o2 := slOf_own hT hB hoB (hT.eval h1 (slOf_live hB hoB))
  have lt : ∀ {os : Objs}, (∀ p ∈ os, st.obj p.1 = some (.arr p.2.1 p.2.2)) → ∀ b, (∃ p ∈ os, T p.1 b) → b < w.heap.size := by
    rintro os ho b ⟨p, hp, hb⟩
    exact (hT.own p.1 (by simp [ho p hp]) b hb).2
  obtain ⟨v, w', S, r1, r2, r3, r4⟩ := append_world (P := P) (ty := ty) hty htx o1 o2 (fun b hb ⟨p, hp, hTb⟩ => sh_disj hb (by simp [hoA p hp]) hTb) (fun b hb => hb.2.1) (lt hoA) (lt hoB)
    (fun b ⟨p, hp, h1⟩ ⟨q, hq, h2⟩ => by
      have hne : p.1 ≠ q.1 := by
        have := List.all_eq_true.1 (List.all_eq_true.1 hdis p hp) q hq
        intro e
        simp [e] at this
      exact hT.dis p.1 q.1 hne (by simp [hoA p hp]) (by simp [hoB q hq]) b h1 h2)
    (fun r hr c hc => List.all_eq_true.1 (List.all_eq_true.1 hok r hr) c hc) hbig h63
  have hrun : (execOp a.eval ⟨some d, .call ⟨.builtin .append, #[x, y], #[t, tx]⟩, ty, pos, after, g⟩).run P w = .ok (.value v) w' := by
    simp [execOp, resolve, invoke, builtin, r1]
  unfold Oper.wp
  rw [hrun]
  have mem : ∀ {b : Nat}, (∃ p ∈ osA, T p.1 b) ∨ (∃ p ∈ osB, T p.1 b) → ∃ i, i ∈ (osA ++ osB).map (·.1) ∧ T i b := by
    rintro b (⟨p, hp, h⟩ | ⟨p, hp, h⟩)
    · exact ⟨p.1, List.mem_map.2 ⟨p, by simp [hp], rfl⟩, h⟩
    · exact ⟨p.1, List.mem_map.2 ⟨p, by simp [hp], rfl⟩, h⟩
  refine hK _ _ (hT.produce (S := S) (fun i hi => ?_) hf (r3.mono fun b h => mem (.inl h)) (fun b hb => ?_) (fun A hA => r2.mono hA (fun _ h => h)) hn)
  · obtain ⟨p, hp, rfl⟩ := List.mem_map.1 hi
    simp [hobj p hp]
  · rcases r4 b hb with h | h | h
    · exact .inl (mem (.inl h))
    · exact .inl (mem (.inr h))
    · exact .inr h

/-- A slice's header stays; what it holds turns. -/
theorem keepRoot {id : Nat} {k : Nat} {rows rows' : List (List Cell)} {obj' : Nat → Option Obj} {D : Nat → Prop} (hT : StSim n pn w0 A0 F0 hv T st a w)
    (tr : Trade w0 A0 F0 hv hv T T' st.obj obj' D w w') (hid : st.obj id = some (.arr k rows)) (hid' : obj' id = some (.arr k rows')) {av : AV} {v : Value}
    (ha : AVSim w (Sh A0 F0 w0 T st.obj w) hv st.obj av v) : av.hasPath id = false → (∀ i ∈ av.ids, D i → i = id ∨ ∃ xs xs', st.obj i = some (.box xs) ∧ obj' i = some (.box xs')) → AVSim w' (Sh A0 F0 w0 T' obj' w') hv obj' av v := by
  have hblk : ∀ i, (st.obj i).isSome = true → ¬ D i → ∀ b, Sh A0 F0 w0 T st.obj w b ∨ T i b → w'.heap[b]? = w.heap[b]? := by
    intro i hs hnd b hb
    rcases hb with hb | hb
    · exact tr.same hb
    · refine tr.frame.heap b (hT.own i hs b hb).2 ?_
      rintro ⟨d, hd, hTd⟩
      by_cases e : d = i
      · subst e; exact hnd hd
      · exact hT.dis d i e (tr.here d hd) hs b hTd hb
  induction ha with
  | dead v => exact fun _ _ => .dead v
  | c ho => exact fun _ _ => .c (tr.own ho)
  | row hs hh => exact fun _ _ => .row hs fun i x v h1 h2 => tr.own (hh i x v h1 h2)
  | @ref i p k1 k2 o rw1 rw2 v ho hg hh =>
    intro hp hD
    by_cases e : i = id
    · subst e
      rw [hid] at ho; cases ho
      cases p with
      | nil =>
        simp only [Hdr] at hh; subst hh
        exact .ref hid' (p := []) rfl (by simp only [Hdr])
      | cons => simp [AV.hasPath] at hp
    · have hnd : ¬ D i := fun hd => by
        rcases hD i (by simp [AV.ids]) hd with h | ⟨xs, xs', h, _⟩
        · exact e h
        · rw [ho] at h; cases h
      obtain ⟨e1, e2, _⟩ := tr.old i (by simp [ho]) hnd
      exact .ref (by rw [e1]; exact ho) hg (Hdr.frame (hT.heap i _ ho) (hblk i (by simp [ho]) hnd) hh)
  | @ptr i p k1 i1 j1 k0 rw1 o rw2 b off len cap ho hg hh =>
    intro hp hD
    by_cases e : i = id
    · subst e
      rw [hid] at ho; cases ho
      cases p with
      | nil =>
        simp only [Cell.get, Option.some.injEq, Cell.sl.injEq] at hg
        obtain ⟨_, rfl, _⟩ := hg
        exact .ptr (n := len) (cap := cap) hid' (p := []) rfl (by simp only [Hdr] at hh ⊢; exact hh)
      | cons => simp [AV.hasPath] at hp
    · have hnd : ¬ D i := fun hd => by
        rcases hD i (by simp [AV.ids]) hd with h | ⟨xs, xs', h, _⟩
        · exact e h
        · rw [ho] at h; cases h
      obtain ⟨e1, e2, _⟩ := tr.old i (by simp [ho]) hnd
      exact .ptr (n := len) (cap := cap) (by rw [e1]; exact ho) hg (Hdr.frame (hT.heap i _ ho) (hblk i (by simp [ho]) hnd) hh)
  | @bx i j b xs ho hh =>
    intro _ hD
    by_cases hd : D i
    · rcases hD i (by simp [AV.ids]) hd with h | ⟨ys, ys', _, h⟩
      · subst h; rw [hid] at ho; cases ho
      · exact .bx h hh
    · obtain ⟨e1, e2, _⟩ := tr.old i (by simp [ho]) hd
      exact .bx (by rw [e1]; exact ho) hh
  | @pts xs b off c e fr hb hA hs hh =>
    intro _ _
    exact .pts (by rw [tr.same hA]; exact hb) (tr.sh hA) hs fun i x v h1 h2 => tr.own (hh i x v h1 h2)
  | @mp i ks v ho hh =>
    intro _ hD
    have hnd : ¬ D i := fun hd => by
      rcases hD i (by simp [AV.ids]) hd with h | ⟨xs, xs', h, _⟩
      · subst h; rw [hid] at ho; cases ho
      · rw [ho] at h; cases h
    obtain ⟨e1, e2, _⟩ := tr.old i (by simp [ho]) hnd
    exact .mp (by rw [e1]; exact ho) hh
  | @agg xs vs hs hh ih =>
    intro hp hD
    exact .agg hs fun i x v h1 h2 => ih i x v h1 h2 (hasPathL_get hp h1) fun j hj hd => hD j (by simp only [AV.ids]; exact mem_idsL h1 hj) hd
  | @tup xs vs hs hh ih =>
    intro hp hD
    exact .tup hs fun i x v h1 h2 => ih i x v h1 h2 (hasPathL_get hp h1) fun j hj hd => hD j (by simp only [AV.ids]; exact mem_idsL h1 hj) hd
  | @fn f xs vs hs hh ih =>
    intro hp hD
    exact .fn hs fun i x v h1 h2 => ih i x v h1 h2 (hasPathL_get hp h1) fun j hj hd => hD j (by simp only [AV.ids]; exact mem_idsL h1 hj) hd
where
  hasPathL_get {id : Nat} : ∀ {xs : List AV} {i : Nat} {x : AV}, hasPathL id xs = false → xs[i]? = some x → x.hasPath id = false
    | [], _, _, _, h => by simp at h
    | y :: ys, 0, x, hp, h => by simp at h; subst h; simp only [hasPathL, Bool.or_eq_false_iff] at hp; exact hp.1
    | y :: ys, i + 1, x, hp, h => by simp only [hasPathL, Bool.or_eq_false_iff] at hp; exact hasPathL_get hp.2 (by simpa using h)

/-- A store into an owned slice's row; owned slices may go in. -/
theorem op_store_arr {t : TypeId} {x y : Operand} {id k i j m : Nat} {rows : List (List Cell)} {row : List Cell} {av : AV} {ys : List AV} {cs : List Cell} {os : Objs} (hz : ∀ w, (Go.sizeOf t).run P w = .ok m w)
    (hr : rows[i]? = some row) (hc : av.cells? = some ys) (habs : Absorb ys cs os) (hne : (os.any fun p => Nat.beq p.1 id) = false) (hone : ys.all AV.one = true) (hm : ys.length = m) (hl : j + m ≤ k) :
    OpL0 P n ⟨none, .store t x y, ty, pos, after, g⟩ (.opd x (.ptr id [] k i j) :: .opd y av :: .obj id (.arr k rows) :: (objReqs os ++ lives av.ids))
      (dels (os.map (·.1)) ++ [.kill id, .put id (.arr k (rows.set i (splice row j cs)))]) := by
  intro pn w0 A0 F0 st a w hB0 hS hs K Q hK
  obtain ⟨hv, T, hT⟩ := hS
  have h0 : opIs st x (.ptr id [] k i j) := at0 hs
  have h1 : opIs st y av := at1 hs
  have hid : st.obj id = some (.arr k rows) := at2 hs
  obtain ⟨hobj, hrest⟩ := objs_of (at_tail (at_tail (at_tail hs)))
  have hlive : Live st.obj av := live_of hrest
  have hown := hT.heap id _ hid
  simp only [ObjSim] at hown
  have hx := hT.eval h0 (fun i hi => by simp [AV.ids] at hi; subst hi; simp [hid])
  have hy := hT.eval h1 hlive
  obtain ⟨h2, h3⟩ := hT.cells hy hc
  have hcl := habs.length
  -- the slice
  generalize hvx : a.eval x = vx at hx
  cases hx with
  | @ptr _ _ _ _ _ _ _ _ _ b off len cap ho' hg hh =>
  rw [hid] at ho'; cases ho'
  simp only [Hdr] at hh
  have hh2 := hh.symm
  generalize hhv : hv id = hvid at hown hh2
  cases hown with
  | nil => cases hh2
  | @arr _ _ _ _ _ c e G hb hk hs2 hcap hF hG hGb hd hsub =>
  cases hh2
  have hrk : row.length = k := hk row (List.mem_of_getElem? hr)
  have hil : i < rows.length := (List.getElem?_eq_some_iff.1 hr).1
  have hmul : (i + 1) * k ≤ cap * k := Nat.mul_le_mul_right _ (by omega)
  rw [Nat.add_mul, Nat.one_mul] at hmul
  obtain ⟨w', c', r1, r2, r3, r4, r5, r6, r7, r8⟩ := run_store_op (P := P) (ty := ty) (pos := pos) (after := after) (g := g) (t := t) (x := x) (y := y) hz hvx hb (by omega) (by omega) (by
    intro v hv'
    obtain ⟨l, hl2, rfl⟩ := List.mem_iff_getElem.1 hv'
    have hl3 : l < ys.length := by simp at hl2; omega
    exact hT.one (h3 l ys[l] _ (by simp [hl3]) (by rw [← Array.getElem?_toList]; exact List.getElem?_eq_getElem hl2)) (List.all_eq_true.1 hone _ (List.getElem_mem hl3)))
  obtain ⟨GA, g1, g2, g3⟩ := absorb_own hT habs hobj (us := (a.eval y).cells.toList) (by simpa using h2) (fun i y u h1 h2 => h3 i y u h1 (by simpa using h2))
  have hids : ∀ q ∈ os.map (·.1), (st.obj q).isSome = true := by
    intro q hq
    obtain ⟨p, hp, rfl⟩ := List.mem_map.1 hq
    simp [hobj p hp]
  have hnot : id ∉ os.map (·.1) := by
    intro hm'
    obtain ⟨p, hp, e⟩ := List.mem_map.1 hm'
    exact any_ids hne p hp e
  have gsep : ∀ l b, GA l b → ¬ T id b := by
    intro l b hb' hTb
    obtain ⟨p, hp, hTp⟩ := g1 l b hb'
    exact hT.dis p.1 id (any_ids hne p hp) (by simp [hobj p hp]) (by simp [hid]) b hTp hTb
  -- the new state
  let rows' := rows.set i (splice row j cs)
  let S : Blks := fun b => T id b ∨ ∃ q, q ∈ os.map (·.1) ∧ T q b
  let obj1 : Nat → Option Obj := fun q => if q ∈ os.map (·.1) then none else (st.obj q).map (Obj.killp id)
  let obj' : Nat → Option Obj := upd obj1 id (some (.arr k rows'))
  have hobj' : ∀ q, obj' q = if id = q then some (.arr k rows') else if q ∈ os.map (·.1) then none else (st.obj q).map (Obj.killp id) := fun q => upd_apply _ _ _ _
  let D : Nat → Prop := fun d => d = id ∨ d ∈ os.map (·.1) ∨ ∃ xs, st.obj d = some (.box xs)
  have hfr : Frame (fun b => ∃ d, D d ∧ T d b) w w' :=
    ⟨fun b2 hlt hno => r5 b2 (fun e2 => hno ⟨id, .inl rfl, by subst e2; exact hF⟩), by omega, r7, r8⟩
  have hbxne : ∀ q xs, st.obj q = some (.box xs) → id ≠ q ∧ q ∉ os.map (·.1) := by
    intro q xs hq
    refine ⟨fun e => (by subst e; rw [hid] at hq; cases hq), fun hm => ?_⟩
    obtain ⟨p, hp, rfl⟩ := List.mem_map.1 hm
    rw [hobj p hp] at hq; cases hq
  have tr : Trade w0 A0 F0 hv hv T (upd T id S) st.obj obj' D w w' := by
    refine ⟨fun d hd => ?_, hfr, fun q hq hnq => ?_, fun q hq hor b2 hb2 => ?_⟩
    · rcases hd with rfl | hd | ⟨xs, hd⟩
      · simp [hid]
      · exact hids d hd
      · simp [hd]
    · have hne' : id ≠ q := fun e => hnq (.inl e.symm)
      refine ⟨?_, rfl, upd_ne _ _ hne'⟩
      rw [hobj', if_neg hne', if_neg (fun hm => hnq (.inr (.inl hm)))]
      cases ho : st.obj q with
      | none => rfl
      | some o => cases o with
        | box xs => exact absurd (.inr (.inr ⟨xs, ho⟩)) hnq
        | arr => rfl
        | mp => rfl
    · by_cases e2 : id = q
      · subst e2
        rw [upd_same] at hb2
        rcases hb2 with h | ⟨q, hq, h⟩
        · exact .inl ⟨id, .inl rfl, h⟩
        · exact .inl ⟨q, .inr (.inl hq), h⟩
      · rw [upd_ne _ _ e2] at hb2
        rw [hobj', if_neg e2] at hq
        by_cases hm' : q ∈ os.map (·.1)
        · rw [if_pos hm'] at hq; cases hq
        · rw [if_neg hm'] at hq
          rcases hor with h | h
          · exact .inl ⟨q, h, hb2⟩
          · rw [h] at hq; cases hq
  have hflat : ∀ (q : Nat) z, rows'.flatten[q]? = some z → (i * k + j ≤ q ∧ q < i * k + j + m ∧ cs[q - (i * k + j)]? = some z) ∨ (¬ (i * k + j ≤ q ∧ q < i * k + j + m) ∧ rows.flatten[q]? = some z) := by
    intro q z hq
    have hsl : (splice row j cs).length = k := by rw [splice_length (by omega)]; exact hrk
    have hk' : ∀ r ∈ rows', r.length = k := by
      intro r hr'
      rcases List.mem_or_eq_of_mem_set hr' with h | h
      · exact hk r h
      · rw [h]; exact hsl
    have hqlt : q < rows.length * k := by
      have := (List.getElem?_eq_some_iff.1 hq).1
      rw [flatten_length_const hk'] at this
      simpa [rows'] using this
    have hkp : 0 < k := by rcases Nat.eq_zero_or_pos k with h | h; (subst h; simp at hqlt); exact h
    have hdm : q = q / k * k + q % k := by rw [Nat.mul_comm]; exact (Nat.div_add_mod q k).symm
    have hmod : q % k < k := Nat.mod_lt _ hkp
    rw [hdm, List.flatten_getElem?_of_const hk' _ _ hmod] at hq
    simp only [rows'] at hq
    by_cases hqi : i = q / k
    · rw [← hqi, List.getElem?_set_self hil, Option.bind_some, splice_get (by omega)] at hq
      rw [← hqi] at hdm
      by_cases hin : j ≤ q % k ∧ q % k < j + cs.length
      · rw [if_pos hin] at hq
        refine .inl ⟨by omega, by omega, ?_⟩
        rw [← hq]; congr 1; omega
      · rw [if_neg hin] at hq
        refine .inr ⟨by omega, ?_⟩
        rw [hdm, List.flatten_getElem?_of_const hk _ _ hmod, hr]; exact hq
    · rw [List.getElem?_set_ne hqi] at hq
      refine .inr ⟨?_, by rw [hdm, List.flatten_getElem?_of_const hk _ _ hmod]; exact hq⟩
      rintro ⟨hx1, hx2⟩
      apply hqi
      have h1 : i * k ≤ q := by omega
      have h2 : q < (i + 1) * k := by rw [Nat.add_mul]; omega
      have h3 : i ≤ q / k := (Nat.le_div_iff_mul_le hkp).2 h1
      have h4 : q / k < i + 1 := (Nat.div_lt_iff_lt_mul hkp).2 h2
      omega
  have hnewOwn : Own w' (Sh A0 F0 w0 (upd T id S) obj' w') S (.sl true k rows') (hv id) := by
    let G' : Nat → Blks := fun q => if i * k + j ≤ q ∧ q < i * k + j + m then GA (q - (i * k + j)) else G q
    have hG'S : ∀ q b, G' q b → S b := by
      intro q b hb'
      simp only [G'] at hb'
      split at hb'
      · obtain ⟨p, hp, h⟩ := g1 _ b hb'
        exact .inr ⟨p.1, List.mem_map.2 ⟨p, hp, rfl⟩, h⟩
      · exact .inl (hG q b hb')
    have hG'b : ∀ q, ¬ G' q b := by
      intro q hb'
      simp only [G'] at hb'
      split at hb'
      · exact gsep _ b hb' hF
      · exact hGb q hb'
    have := Own.arr (w := w') (A := Sh A0 F0 w0 (upd T id S) obj' w') (F := S) (k := k) (rows := rows') (b := b) (cap := cap) (c := c') (e := e) (G := G') r2 (by
        intro r hr'
        rcases List.mem_or_eq_of_mem_set hr' with h | h
        · exact hk r h
        · rw [h, splice_length (by omega)]; exact hrk) (by omega) (by simpa [rows'] using hcap) (.inl hF) hG'S hG'b (by
        intro q1 q2 b' hq h1 h2
        simp only [G'] at h1 h2
        split at h1
        · split at h2
          · exact g2 _ _ b' (by omega) h1 h2
          · exact gsep _ b' h1 (hG _ b' h2)
        · split at h2
          · exact gsep _ b' h2 (hG _ b' h1)
          · exact hd q1 q2 b' hq h1 h2) (by
        intro q z u hz1 hu
        rw [r4 q] at hu
        have frm : ∀ {c0 : Cell} {u0 : Value} {F1 : Blks}, (∀ b', F1 b' → S b' ∧ b' ≠ b) → Own w (Sh A0 F0 w0 T st.obj w) F1 c0 u0 → Own w' (Sh A0 F0 w0 (upd T id S) obj' w') F1 c0 u0 := by
          intro c0 u0 F1 hF1 ho
          exact (ho.frame fun b' hb' => by
            rcases hb' with hb' | hb'
            · exact tr.same hb'
            · exact r5 b' (hF1 b' hb').2).mono (fun _ h => tr.sh h) (fun _ h => h)
        rcases hflat q z hz1 with ⟨q1, q2, q3⟩ | ⟨q1, q2⟩
        · rw [if_pos (by omega)] at hu
          have hG : G' q = GA (q - (i * k + j)) := by simp only [G']; rw [if_pos ⟨q1, q2⟩]
          rw [hG]
          refine frm (fun b' hb' => ⟨hG'S q b' (by rw [hG]; exact hb'), fun e2 => by subst e2; exact gsep _ b' hb' hF⟩) (g3 _ z u q3 ?_)
          simpa using hu
        · rw [if_neg (by omega)] at hu
          have hG : G' q = G q := by simp only [G']; rw [if_neg q1]
          rw [hG]
          exact frm (fun b' hb' => ⟨hG'S q b' (by rw [hG]; exact hb'), fun e2 => by subst e2; exact hGb q hb'⟩) (hsub q z u q2 hu))
    rw [hhv]
    have hlen' : rows'.length = rows.length := by simp [rows']
    rw [hlen'] at this
    exact this
  unfold Oper.wp
  rw [r1]
  refine hK _ _ ⟨hv, upd T id S, ?_⟩
  rw [apps_append]
  generalize hs1 : apps (dels (os.map (·.1))) st = st1
  have e1 : ∀ q, st1.obj q = if q ∈ os.map (·.1) then none else st.obj q := fun q => by rw [← hs1]; exact dels_obj _ st q
  have e2 : st1.env = st.env := by rw [← hs1]; exact dels_env _ st
  have e3 : st1.used = st.used := by rw [← hs1]; exact dels_used _ st
  have eobj : ((Upd.put id (.arr k rows')).app ((Upd.kill id).app st1)).obj = obj' := by
    funext q
    show upd (fun i => (st1.obj i).map (Obj.killp id)) id (some (.arr k rows')) q = obj' q
    rw [upd_apply, e1, hobj']
    by_cases e4 : id = q
    · rw [if_pos e4, if_pos e4]
    · rw [if_neg e4, if_neg e4]
      by_cases hm' : q ∈ os.map (·.1)
      · rw [if_pos hm', if_pos hm']; rfl
      · rw [if_neg hm', if_neg hm']
  have liveB : ∀ av, Live obj' av → Live st.obj av ∧ ∀ q ∈ av.ids, D q → q = id ∨ ∃ xs xs', st.obj q = some (.box xs) ∧ obj' q = some (.box xs') := by
    intro av hl
    have key : ∀ q ∈ av.ids, (st.obj q).isSome = true ∧ (D q → q = id ∨ ∃ xs xs', st.obj q = some (.box xs) ∧ obj' q = some (.box xs')) := by
      intro q hq
      have := hl q hq
      rw [hobj'] at this
      by_cases e4 : id = q
      · subst e4; exact ⟨by simp [hid], fun _ => .inl rfl⟩
      · rw [if_neg e4] at this
        by_cases hm' : q ∈ os.map (·.1)
        · rw [if_pos hm'] at this; cases this
        · rw [if_neg hm'] at this
          refine ⟨by simpa using this, fun h => ?_⟩
          rcases h with h | h | ⟨xs, h⟩
          · exact .inl h
          · exact absurd h hm'
          · refine .inr ⟨xs, xs.map (killAV id), h, ?_⟩
            rw [hobj', if_neg e4, if_neg hm', h]; rfl
    exact ⟨fun q hq => (key q hq).1, fun q hq => (key q hq).2⟩
  have killLive : ∀ av, Live obj' (killAV id av) → killAV id av = .dead ∨ (killAV id av = av ∧ av.hasPath id = false ∧ Live obj' av) := by
    intro av hl
    unfold killAV at hl ⊢
    cases hp : av.hasPath id with
    | true => exact .inl rfl
    | false => rw [hp] at hl; exact .inr ⟨rfl, rfl, hl⟩
  have kids : ∀ av, ∀ q ∈ (killAV id av).ids, q ∈ av.ids := by
    intro av q hq
    unfold killAV at hq
    cases hp : av.hasPath id with
    | true => rw [hp] at hq; simp [AV.ids] at hq
    | false => rw [hp] at hq; exact hq
  have hnewid : ∀ q, (obj' q).isSome = true ∧ (D q ∨ st.obj q = none) → q = id ∨ ∃ xs, st.obj q = some (.box xs) := by
    rintro q ⟨hq, hor⟩
    by_cases e4 : id = q
    · exact .inl e4.symm
    · rw [hobj', if_neg e4] at hq
      by_cases hm' : q ∈ os.map (·.1)
      · rw [if_pos hm'] at hq; cases hq
      · rw [if_neg hm'] at hq
        rcases hor with (h | h | h) | h
        · exact .inl h
        · exact absurd h hm'
        · exact .inr h
        · rw [h] at hq; cases hq
  have hrid : obj' id = some (.arr k rows') := by rw [hobj', if_pos rfl]
  have hUbox : ∀ q xs, obj' q = some (.box xs) → ∃ ys, st.obj q = some (.box ys) ∧ xs = ys.map (killAV id) := by
    intro q xs hq
    rw [hobj'] at hq
    by_cases e4 : id = q
    · rw [if_pos e4] at hq; cases hq
    · rw [if_neg e4] at hq
      by_cases hm' : q ∈ os.map (·.1)
      · rw [if_pos hm'] at hq; cases hq
      · rw [if_neg hm'] at hq
        cases ho : st.obj q with
        | none => rw [ho] at hq; cases hq
        | some o =>
          rw [ho] at hq
          cases o <;> simp only [Option.map_some, Obj.killp, Option.some.injEq] at hq <;> first | (cases hq; done) | (cases hq; exact ⟨_, rfl, rfl⟩)
  refine StSim.trade (st' := (Upd.put id (.arr k rows')).app ((Upd.kill id).app st1)) hT (by rw [eobj]; exact tr) hT.size hT.defers ?_ ?_ ?_ ?_ ?_ ?_ ?_ ?_ ?_
  · intro q1 q2 hne' h1 h2 b' hb1 hb2
    rw [eobj] at h1 h2
    have cl : ∀ q, (obj' q).isSome = true ∧ (D q ∨ st.obj q = none) → ∀ b', upd T id S q b' → (q = id ∧ S b') ∨ (q ≠ id ∧ (∃ xs, st.obj q = some (.box xs)) ∧ T q b') := by
      intro q hq b' hb'
      by_cases e4 : id = q
      · subst e4; rw [upd_same] at hb'; exact .inl ⟨rfl, hb'⟩
      · rw [upd_ne _ _ e4] at hb'
        rcases hnewid q hq with h | h
        · exact absurd h.symm e4
        · exact .inr ⟨Ne.symm e4, h, hb'⟩
    have sS : ∀ q xs, st.obj q = some (.box xs) → T q b' → ¬ S b' := by
      rintro q xs hq hTq (h | ⟨p, hp, h⟩)
      · exact hT.dis q id (Ne.symm (hbxne q xs hq).1) (by simp [hq]) (by simp [hid]) b' hTq h
      · exact hT.dis q p (fun e => (hbxne q xs hq).2 (e ▸ hp)) (by simp [hq]) (hids p hp) b' hTq h
    rcases cl q1 h1 b' hb1 with ⟨e1', s1⟩ | ⟨n1, ⟨xs1, o1⟩, t1⟩
    · rcases cl q2 h2 b' hb2 with ⟨e2', s2⟩ | ⟨n2, ⟨xs2, o2⟩, t2⟩
      · exact hne' (e1'.trans e2'.symm)
      · exact sS q2 xs2 o2 t2 s1
    · rcases cl q2 h2 b' hb2 with ⟨e2', s2⟩ | ⟨n2, ⟨xs2, o2⟩, t2⟩
      · exact sS q1 xs1 o1 t1 s2
      · exact hT.dis q1 q2 hne' (by simp [o1]) (by simp [o2]) b' t1 t2
  · intro q o' hor ho'
    rw [eobj] at ho' ⊢
    rcases hnewid q ⟨by rw [ho']; rfl, hor⟩ with rfl | ⟨xs, hxs⟩
    · rw [hrid] at ho'; cases ho'
      simp only [ObjSim]
      rw [upd_same]
      exact hnewOwn
    · obtain ⟨hn1, hn2⟩ := hbxne q xs hxs
      rw [hobj', if_neg hn1, if_neg hn2, hxs] at ho'
      simp only [Option.map_some, Obj.killp, Option.some.injEq] at ho'
      subst ho'
      rw [upd_ne _ _ hn1]
      obtain ⟨b3, c3, e3', q1, q2, q3, q4, q5⟩ := hT.heap q _ hxs
      have hb3 : b3 ≠ b := fun e => hT.dis q id (Ne.symm hn1) (by simp [hxs]) (by simp [hid]) b3 q4 (by subst e; exact hF)
      refine ⟨b3, c3, e3', q1, by rw [r5 b3 hb3]; exact q2, by simpa using q3, q4, fun l z u hz1 hu hl => ?_⟩
      rw [List.getElem?_map] at hz1
      obtain ⟨z0, hz0, rfl⟩ := Option.map_eq_some_iff.1 hz1
      rcases killLive z0 hl with h | ⟨h, hp, hl2⟩
      · rw [h]; exact .dead _
      · rw [h]
        obtain ⟨l1, l2⟩ := liveB z0 hl2
        exact keepRoot hT tr hid hrid (q5 l z0 u hz0 hu l1) hp l2
  · intro x2 av2 hx2
    have hx3 : (st1.env x2).map (killAV id) = some av2 := hx2
    rw [e2] at hx3
    obtain ⟨av0, h4, rfl⟩ := Option.map_eq_some_iff.1 hx3
    exact hT.slt x2 av0 h4
  · intro x2 av2 hx2 q hq
    refine addU_true.2 (.inl ?_)
    have hx3 : (st1.env x2).map (killAV id) = some av2 := hx2
    rw [e2] at hx3
    obtain ⟨av0, h4, rfl⟩ := Option.map_eq_some_iff.1 hx3
    show st1.used q = true
    rw [e3]
    exact hT.uenv x2 av0 h4 q (kids av0 q hq)
  · intro q hq
    rw [eobj] at hq
    refine addU_true.2 ?_
    by_cases e4 : id = q
    · exact .inr (by simp [e4])
    · left
      show st1.used q = true
      rw [e3]
      rw [hobj', if_neg e4] at hq
      by_cases hm' : q ∈ os.map (·.1)
      · rw [if_pos hm'] at hq; cases hq
      · rw [if_neg hm'] at hq
        exact hT.uobj q (by simpa using hq)
  · intro q v' hp
    obtain ⟨p1, p2⟩ := hT.pin q v' hp
    refine ⟨addU_true.2 (.inl (by show st1.used q = true; rw [e3]; exact p1)), fun hq => p2 ?_⟩
    rw [eobj, hobj'] at hq
    by_cases e4 : id = q
    · subst e4; simp [hid]
    · rw [if_neg e4] at hq
      by_cases hm' : q ∈ os.map (·.1)
      · rw [if_pos hm'] at hq; cases hq
      · rw [if_neg hm'] at hq; simpa using hq
  · intro q xs hq l hl2
    rw [eobj] at hq
    refine addU_true.2 (.inl ?_)
    show st1.used l = true
    rw [e3]
    obtain ⟨ys', h4, rfl⟩ := hUbox q xs hq
    have : ∀ (l1 : List AV) (l : Nat), l ∈ idsL (l1.map (killAV id)) → l ∈ idsL l1 := by
      intro l1
      induction l1 with
      | nil => intro l h; simp [idsL] at h
      | cons z l1 ih =>
        intro l h
        simp only [List.map_cons, idsL, List.mem_append] at h ⊢
        exact h.imp (kids z l) (ih l)
    exact hT.ubox q ys' h4 l (this ys' l hl2)
  · intro q xs hq hnq
    exact absurd (.inr (.inr ⟨xs, hq⟩)) hnq
  · intro x2 av2 hx2 hl
    rw [eobj] at hl ⊢
    have hx3 : (st1.env x2).map (killAV id) = some av2 := hx2
    rw [e2] at hx3
    obtain ⟨av0, h4, rfl⟩ := Option.map_eq_some_iff.1 hx3
    rcases killLive av0 hl with h | ⟨h, hp, hl2⟩
    · rw [h]
      have hlt : ∃ v, a.tmps[x2]? = some v := by
        have h6 : x2 < a.tmps.size := by rw [hT.size]; exact hT.slt x2 av0 h4
        exact ⟨a.tmps[x2], by simp [h6]⟩
      obtain ⟨v, hv⟩ := hlt
      exact ⟨v, hv, .dead _⟩
    · rw [h]
      obtain ⟨l1, l2⟩ := liveB av0 hl2
      obtain ⟨v, q1, q2⟩ := hT.env x2 av0 h4 l1
      exact ⟨v, q1, keepRoot hT tr hid hrid q2 hp l2⟩
end
end Go.Am
