/- More helpers for scripts. Own work; generic. -/
import Derived.Test.YtcbpckbehdaloaaAmP
set_option linter.unusedSimpArgs false
set_option linter.unusedVariables false
namespace Go.Am
open Go

section
variable {P : Program} {n : Nat} {st : St} {Q : Exit → St → Prop}

theorem sats_app {a b : List Req} (h1 : ∀ r ∈ a, r.sat st) (h2 : ∀ r ∈ b, r.sat st) : ∀ r ∈ a ++ b, r.sat st := fun r hr => (List.mem_append.1 hr).elim (h1 r) (h2 r)
theorem sats_fresh_all {os : Objs} (h : os.all (fun p => !(st.used p.1)) = true) : ∀ r ∈ freshes os, r.sat st := by
  intro r hr
  obtain ⟨p, hp, rfl⟩ := List.mem_map.1 hr
  have := List.all_eq_true.1 h p hp
  show st.used p.1 = false
  simpa using this
theorem sats_needs {os : Objs} (h : ∀ p ∈ os, st.obj p.1 = some (.arr p.2.1 p.2.2)) : ∀ r ∈ needs os, r.sat st := by
  intro r hr
  obtain ⟨p, hp, rfl⟩ := List.mem_map.1 hr
  exact h p hp
theorem sats_objs {os : Objs} {rs : List Req} (h : ∀ p ∈ os, st.obj p.1 = some (.arr p.2.1 p.2.2)) (k : ∀ r ∈ rs, r.sat st) : ∀ r ∈ objReqs os ++ rs, r.sat st := by
  intro r hr
  rcases List.mem_append.1 hr with hr | hr
  · obtain ⟨p, hp, rfl⟩ := List.mem_map.1 hr
    exact h p hp
  · exact k r hr
theorem all_nil : ∀ p ∈ ([] : Objs), st.obj p.1 = some (.arr p.2.1 p.2.2) := fun p hp => by simp at hp
theorem all_cons {q : Nat × Nat × List (List Cell)} {os : Objs} (h : st.obj q.1 = some (.arr q.2.1 q.2.2)) (t : ∀ p ∈ os, st.obj p.1 = some (.arr p.2.1 p.2.2)) : ∀ p ∈ q :: os, st.obj p.1 = some (.arr p.2.1 p.2.2) := by
  intro p hp
  rcases List.mem_cons.1 hp with rfl | hp
  · exact h
  · exact t p hp
theorem lives_all {l : List Nat} (h : l.all (fun i => (st.obj i).isSome) = true) : ∀ i ∈ l, (st.obj i).isSome = true := fun i hi => List.all_eq_true.1 h i hi
theorem lb {a b : Nat} (h : Nat.ble a b = true) : a ≤ b := Nat.le_of_ble_eq_true h
theorem st1 {ops : Array Oper} {md : Bool} {i : Nat} {acc : List Item} {o : Oper} {rest : List Oper} {rs : List Req} {us : List Upd} (hg : o.guard = none)
    (h : OpL0 P n o rs us) (hs : ∀ r ∈ rs, r.sat st) (k : RG P ops n Q md (i + 1) (apps us st) (bif md then ⟨i, rs, us⟩ :: acc else []) rest) : RG P ops n Q md i st acc (o :: rest) := rg_step (opl_plain hg h) hs k
theorem so {x : Operand} {av : AV} {rs : List Req} (h : opIs st x av) (k : ∀ r ∈ rs, r.sat st) : ∀ r' ∈ Req.opd x av :: rs, r'.sat st := sats_opd h k
theorem sb {id : Nat} {o : Obj} {rs : List Req} (h : st.obj id = some o) (k : ∀ r ∈ rs, r.sat st) : ∀ r' ∈ Req.obj id o :: rs, r'.sat st := sats_obj h k
theorem sf {id : Nat} {rs : List Req} (h : st.used id = false) (k : ∀ r ∈ rs, r.sat st) : ∀ r' ∈ Req.fresh id :: rs, r'.sat st := sats_fresh h k
theorem sn : ∀ r ∈ ([] : List Req), r.sat st := sats_nil
theorem sol_nil : ∀ x ∈ ([] : List Arg), x.solid = true := fun x h => by simp at h
theorem sol_cons {a : Arg} {as : List Arg} (h : a.solid = true) (t : ∀ x ∈ as, x.solid = true) : ∀ x ∈ a :: as, x.solid = true := by
  intro x hx
  rcases List.mem_cons.1 hx with rfl | hx
  · exact h
  · exact t x hx
theorem row_get {α : Type} {f : α → List Cell} {l : List α} {i : Nat} (h : i < l.length) : (l.map f)[i]? = some (f l[i]) := by simp [h]

/-- splice, cell by cell. -/
def spl {α : Type} : List α → Nat → List α → List α
  | [], _, _ => []
  | x :: xs, 0, [] => x :: xs
  | _ :: xs, 0, y :: ys => y :: spl xs 0 ys
  | x :: xs, n + 1, ys => x :: spl xs n ys
theorem spl_eq {α : Type} : ∀ (xs : List α) (off : Nat) (ys : List α), off + ys.length ≤ xs.length → spl xs off ys = splice xs off ys
  | [], off, ys, h => by
    have h1 : off = 0 := by simp only [List.length_nil] at h; omega
    have h2 : ys = [] := List.length_eq_zero_iff.1 (by simp only [List.length_nil] at h; omega)
    subst h1 h2; rfl
  | x :: xs, 0, [], _ => by simp [spl, splice]
  | x :: xs, 0, y :: ys, h => by
    have := spl_eq xs 0 ys (by simp at h; omega)
    simp only [spl, this, splice, List.take_zero, List.nil_append, List.length_cons, Nat.zero_add, List.cons_append, List.drop_succ_cons]
  | x :: xs, n + 1, ys, h => by
    have := spl_eq xs n ys (by simp at h; omega)
    have e : n + 1 + ys.length = (n + ys.length) + 1 := by omega
    simp only [spl, this, splice, List.take_succ_cons, List.cons_append, e, List.drop_succ_cons]

section
variable {d : Nat} {ty : TypeId} {pos : String} {after : Array Edge} {g : Option (Nat × Bool)}
theorem op_store_bxS {t : TypeId} {x y : Operand} {id j m : Nat} {xs ys : List AV} {av : AV} (hz : ∀ w, (Go.sizeOf t).run P w = .ok m w) (hc : av.cells? = some ys) (ho : ys.all AV.one = true)
    (hm : ys.length = m) (hl : Nat.ble (j + m) xs.length = true) :
    OpL0 P n ⟨none, .store t x y, ty, pos, after, g⟩ (.opd x (.bx id j) :: .opd y av :: .obj id (.box xs) :: lives av.ids) [.put id (.box (spl xs j ys))] := by
  have hl := Nat.le_of_ble_eq_true hl
  rw [spl_eq xs j ys (by omega)]
  exact op_store_bx hz hc ho hm hl
theorem op_store_arrS {t : TypeId} {x y : Operand} {id k i j m : Nat} {rows : List (List Cell)} {row : List Cell} {av : AV} {ys : List AV} {cs : List Cell} {os : Objs} (hz : ∀ w, (Go.sizeOf t).run P w = .ok m w)
    (hr : rows[i]? = some row) (hc : av.cells? = some ys) (habs : Absorb ys cs os) (hne : (os.any fun p => Nat.beq p.1 id) = false) (hone : ys.all AV.one = true) (hm : ys.length = m) (hl : Nat.ble (j + m) k = true) (hk : row.length = k) :
    OpL0 P n ⟨none, .store t x y, ty, pos, after, g⟩ (.opd x (.ptr id [] k i j) :: .opd y av :: .obj id (.arr k rows) :: (objReqs os ++ lives av.ids))
      (dels (os.map (·.1)) ++ [.kill id, .put id (.arr k (rows.set i (spl row j cs)))]) := by
  have hl := Nat.le_of_ble_eq_true hl
  rw [spl_eq row j cs (by rw [habs.length]; omega)]
  exact op_store_arr hz hr hc habs hne hone hm hl
end

/-- Absorbed, as the state has it. -/
inductive Abs (st : St) : List AV → List Cell → Objs → Prop
  | nil : Abs st [] [] []
  | c {x : Cell} {ys : List AV} {cs : List Cell} {os : Objs} (hp : x.plain = true) (t : Abs st ys cs os) : Abs st (.c x :: ys) (x :: cs) os
  | nilc {o : Bool} {k : Nat} {ys : List AV} {cs : List Cell} {os : Objs} (t : Abs st ys cs os) : Abs st (.c (.lit (.slice none 0 0)) :: ys) (.sl o k [] :: cs) os
  | ref {id k : Nat} {rows : List (List Cell)} {ys : List AV} {cs : List Cell} {os : Objs} (h : st.obj id = some (.arr k rows)) (t : Abs st ys cs os) : Abs st (.ref id [] :: ys) (.sl true k rows :: cs) ((id, k, rows) :: os)
theorem Abs.obj {ys : List AV} {cs : List Cell} {os : Objs} (h : Abs st ys cs os) : ∀ p ∈ os, st.obj p.1 = some (.arr p.2.1 p.2.2) := by
  induction h with
  | nil => intro p hp; simp at hp
  | c _ _ ih => exact ih
  | nilc _ ih => exact ih
  | ref h _ ih => exact all_cons h ih
theorem Abs.absorb {ys : List AV} {cs : List Cell} {os : Objs} (h : Abs st ys cs os) : nodupB (os.map (·.1)) = true → Absorb ys cs os := by
  induction h with
  | nil => exact fun _ => .nil
  | c hp _ ih => exact fun hd => .c hp (ih hd)
  | nilc _ ih => exact fun hd => .nilc (ih hd)
  | @ref id k rows ys cs os h t ih =>
    intro hd
    simp only [List.map_cons, nodupB, Bool.and_eq_true, Bool.not_eq_true'] at hd
    refine .ref ?_ (ih hd.2)
    cases ha : os.any fun p => Nat.beq p.1 id with
    | false => rfl
    | true =>
      obtain ⟨p, hp, he⟩ := List.any_eq_true.1 ha
      have : ((os.map (·.1)).any (Nat.beq id)) = true := List.any_eq_true.2 ⟨p.1, List.mem_map.2 ⟨p, hp, rfl⟩, by rw [Nat.eq_of_beq_eq_true he]; simp⟩
      rw [hd.1] at this; cases this
theorem Abs.ids {ys : List AV} {cs : List Cell} {os : Objs} (h : Abs st ys cs os) : ∀ i ∈ idsL ys, (st.obj i).isSome = true := by
  induction h with
  | nil => intro i hi; simp [idsL] at hi
  | c hp t ih => intro i hi; simp only [idsL, AV.ids, List.nil_append] at hi; exact ih i hi
  | nilc t ih => intro i hi; simp only [idsL, AV.ids, List.nil_append] at hi; exact ih i hi
  | ref h t ih =>
    intro i hi
    simp only [idsL, AV.ids, List.cons_append, List.nil_append, List.mem_cons] at hi
    rcases hi with rfl | hi
    · rw [h]; rfl
    · exact ih i hi

/-- One result. -/
inductive Res1 (P : Program) (st : St) : ResultVar → Arg → Objs → Prop
  | c {t : Nat} {x : Cell} (h : st.env t = some (.c x)) : Res1 P st (.tmp t) (.c x) []
  | nilc {t : Nat} {o : Bool} {k : Nat} (h : st.env t = some (.c (.lit (.slice none 0 0)))) : Res1 P st (.tmp t) (.c (.sl o k [])) []
  | ref {t id k : Nat} {rows : List (List Cell)} (h : st.env t = some (.ref id [])) (ho : st.obj id = some (.arr k rows)) : Res1 P st (.tmp t) (.c (.sl true k rows)) [(id, k, rows)]
  | agg {t : Nat} {ty : TypeId} {id m : Nat} {xs : List AV} {cs : List Cell} {os : Objs} (h : st.env t = some (.bx id 0)) (ho : st.obj id = some (.box xs)) (ha : ∀ w, (isAgg ty).run P w = .ok true w)
      (hz : ∀ w, (Go.sizeOf ty).run P w = .ok m w) (hm : xs.length = m) (habs : Abs st xs cs os) (hd : nodupB (os.map (·.1)) = true) : Res1 P st (.cell t ty) (.row cs) os
inductive ResL (P : Program) (st : St) : List ResultVar → List Arg → Objs → Prop
  | nil : ResL P st [] [] []
  | cons {rv : ResultVar} {x : Arg} {os : Objs} {rvs : List ResultVar} {xs : List Arg} {os' : Objs} (h : Res1 P st rv x os) (t : ResL P st rvs xs os') : ResL P st (rv :: rvs) (x :: xs) (os ++ os')
theorem ResL.closes {rvs : List ResultVar} {xs : List Arg} {os : Objs} (h : ResL P st rvs xs os) : nodupB (os.map (·.1)) = true → Closes P st rvs xs os := by
  induction h with
  | nil => exact fun _ => .nil
  | @cons rv x os rvs xs os' h t ih =>
    intro hd
    have hd2 := nodupB_spec hd
    rw [List.map_append, List.nodup_append] at hd2
    obtain ⟨d1, d2, d3⟩ := hd2
    have hdd : ∀ p ∈ os, ∀ q ∈ os', p.1 ≠ q.1 := fun p hp q hq => d3 p.1 (List.mem_map.2 ⟨p, hp, rfl⟩) q.1 (List.mem_map.2 ⟨q, hq, rfl⟩)
    have back : ∀ l : List Nat, l.Nodup → nodupB l = true := by
      intro l
      induction l with
      | nil => intro _; rfl
      | cons y l ih =>
        intro h
        obtain ⟨h1, h2⟩ := List.nodup_cons.1 h
        simp only [nodupB, Bool.and_eq_true, Bool.not_eq_true']
        refine ⟨?_, ih h2⟩
        cases ha : l.any (Nat.beq y) with
        | false => rfl
        | true =>
          obtain ⟨z, hz, he⟩ := List.any_eq_true.1 ha
          rw [← Nat.eq_of_beq_eq_true he] at hz; exact absurd hz h1
    have ht := ih (back _ d2)
    cases h with
    | c h => exact .cons (.tmp h) (fun i hi => by simp [AV.ids] at hi) .c all_nil hdd ht
    | nilc h => exact .cons (.tmp h) (fun i hi => by simp [AV.ids] at hi) .nilc all_nil hdd ht
    | ref h ho => exact .cons (.tmp h) (fun i hi => by simp [AV.ids] at hi; subst hi; simp [ho]) .ref (all_cons ho all_nil) hdd ht
    | agg h ho ha hz hm habs hnd => exact .cons (.cell h ho ha hz hm) (fun i hi => habs.ids i (by simpa [AV.ids] using hi)) (.agg (habs.absorb hnd)) habs.obj hdd ht
theorem fin_retL {rvs : List ResultVar} {R : List Arg → Prop} {res : List Arg} {os : Objs} (h : ResL P st rvs res os) (hd : nodupB (os.map (·.1)) = true) (hR : R res) : Fin P rvs R .ret st := fin_ret (h.closes hd) hR
theorem fin_normalL {rvs : List ResultVar} {R : List Arg → Prop} {res : List Arg} {os : Objs} (h : ResL P st rvs res os) (hd : nodupB (os.map (·.1)) = true) (hR : R res) : Fin P rvs R .normal st := fin_normal (h.closes hd) hR

section
variable {d : Nat} {ty : TypeId} {pos : String} {after : Array Edge} {g : Option (Nat × Bool)} {t : TypeId} {x : Operand} {m : Nat} {α : Type} {f : α → List Cell} {l : List α} {id k i j : Nat}

theorem field_of {fs : Array Field} {fi ft off : Nat} (h : (fs[fi]?).map (fun z => (z.type, z.offset)) = some (ft, off)) : ∃ fld, fs[fi]? = some fld ∧ fld.type = ft ∧ fld.offset = off := by
  obtain ⟨fld, h1, h2⟩ := Option.map_eq_some_iff.1 h
  cases h2
  exact ⟨fld, h1, rfl, rfl⟩
section
variable {s : TypeId} {fs : Array Field} {fi ft off j' : Nat}
theorem op_field_pts {xs ys : List Cell} (hu : P.underlying s = some (.struct fs)) (hz : ∀ w, (Go.sizeOf ft).run P w = .ok m w) (hm : Nat.beq m 0 = false) (h : (fs[fi]?).map (fun z => (z.type, z.offset)) = some (ft, off))
    (hl : Nat.ble off xs.length = true) (hy : xs.drop off = ys) (hn : d < n) : OpL0 P n ⟨some d, .fieldAddr s x fi, ty, pos, after, g⟩ [.opd x (.pts xs)] [.set d (.pts ys)] := by
  obtain ⟨fld, h1, rfl, rfl⟩ := field_of h
  exact op_fieldAddr_pts hu h1 hz (fun e => by subst e; cases hm) (Nat.le_of_ble_eq_true hl) hy hn
theorem op_field_bx {xs : List AV} (hu : P.underlying s = some (.struct fs)) (hz : ∀ w, (Go.sizeOf ft).run P w = .ok m w) (hm : Nat.beq m 0 = false) (h : (fs[fi]?).map (fun z => (z.type, z.offset)) = some (ft, off))
    (hj : j + off = j') (hn : d < n) : OpL0 P n ⟨some d, .fieldAddr s x fi, ty, pos, after, g⟩ [.opd x (.bx id j), .obj id (.box xs)] [.set d (.bx id j')] := by
  obtain ⟨fld, h1, rfl, rfl⟩ := field_of h
  exact op_fieldAddr_bx hu h1 hz (fun e => by subst e; cases hm) hj hn
theorem op_field_ptr {k0 : Nat} {p : Path} {rows : List (List Cell)} (hu : P.underlying s = some (.struct fs)) (hz : ∀ w, (Go.sizeOf ft).run P w = .ok m w) (hm : Nat.beq m 0 = false) (h : (fs[fi]?).map (fun z => (z.type, z.offset)) = some (ft, off))
    (hj : j + off = j') (hn : d < n) : OpL0 P n ⟨some d, .fieldAddr s x fi, ty, pos, after, g⟩ [.opd x (.ptr id p k i j), .obj id (.arr k0 rows)] [.set d (.ptr id p k i j')] := by
  obtain ⟨fld, h1, rfl, rfl⟩ := field_of h
  exact op_fieldAddr_ptr hu h1 hz (fun e => by subst e; cases hm) hj hn
end
theorem op_load_pts_all {xs : List Cell} (ha : ∀ w, (isAgg t).run P w = .ok true w) (hz : ∀ w, (Go.sizeOf t).run P w = .ok m w) (hl : xs.length = m) (hn : d < n) :
    OpL0 P n ⟨some d, .load t x, ty, pos, after, g⟩ [.opd x (.pts xs)] [.set d (.row xs)] := op_load_pts_row ha hz (by rw [← hl, List.take_length]) hl hn
theorem op_load_bx_all {xs : List Cell} (ha : ∀ w, (isAgg t).run P w = .ok true w) (hz : ∀ w, (Go.sizeOf t).run P w = .ok m w) (hl : xs.length = m) (hn : d < n) :
    OpL0 P n ⟨some d, .load t x, ty, pos, after, g⟩ [.opd x (.bx id 0), .obj id (.box (xs.map AV.c))] [.set d (.row xs)] := op_load_bx_row ha hz (by rw [← hl, List.drop_zero, List.take_length]) hl hn
theorem op_load_ptrN {y : Cell} (ha : ∀ w, (isAgg t).run P w = .ok false w) (h : i < l.length) (hy : (f l[i])[j]? = some y) (hp : y.plain = true) (hn : d < n) :
    OpL0 P n ⟨some d, .load t x, ty, pos, after, g⟩ [.opd x (.ptr id [] k i j), .obj id (.arr k (l.map f))] [.set d (.c y)] := op_load_ptr ha rfl (row_get h) hy hp hn
theorem op_load_ptr_refN {o2 : Bool} {k2 : Nat} {rows2 : List (List Cell)} (ha : ∀ w, (isAgg t).run P w = .ok false w) (h : i < l.length) (hy : (f l[i])[j]? = some (.sl o2 k2 rows2)) (hn : d < n) :
    OpL0 P n ⟨some d, .load t x, ty, pos, after, g⟩ [.opd x (.ptr id [] k i j), .obj id (.arr k (l.map f))] [.set d (.ref id [(i, j)])] := op_load_ptr_ref ha rfl (row_get h) hy hn
theorem op_load_ptr_rowN {ys : List Cell} (ha : ∀ w, (isAgg t).run P w = .ok true w) (hz : ∀ w, (Go.sizeOf t).run P w = .ok m w) (h : i < l.length) (hy : ((f l[i]).drop j).take m = ys) (hl : ys.length = m) (hp : ys.all Cell.plain = true) (hn : d < n) :
    OpL0 P n ⟨some d, .load t x, ty, pos, after, g⟩ [.opd x (.ptr id [] k i j), .obj id (.arr k (l.map f))] [.set d (.row ys)] := op_load_ptr_row ha hz rfl (row_get h) hy hl hp hn
theorem op_load_ptr_aggN {ys : List Cell} (ha : ∀ w, (isAgg t).run P w = .ok true w) (hz : ∀ w, (Go.sizeOf t).run P w = .ok m w) (h : i < l.length) (hy : ((f l[i]).drop j).take m = ys) (hl : ys.length = m) (hn : d < n) :
    OpL0 P n ⟨some d, .load t x, ty, pos, after, g⟩ [.opd x (.ptr id [] k i j), .obj id (.arr k (l.map f))] [.set d (.agg (peeks id [] i j ys))] := op_load_ptr_agg ha hz rfl (row_get h) hy hl hn
end
end
end Go.Am
