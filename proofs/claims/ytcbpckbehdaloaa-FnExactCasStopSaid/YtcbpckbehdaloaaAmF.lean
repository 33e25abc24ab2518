/- Operations that look into memory: addresses, loads. Own work; generic. -/
import Derived.Test.YtcbpckbehdaloaaAmE
set_option linter.unusedSimpArgs false
set_option linter.unusedVariables false
namespace Go.Am
open Go

section
variable {P : Program} {ops : Array Oper} {n : Nat}
variable {d : Nat} {ty : TypeId} {pos : String} {after : Array Edge} {g : Option (Nat × Bool)}

theorem run_execOp_load {t : TypeId} {x : Operand} {ρ : Operand → Value} {w : World} :
    (execOp ρ ⟨some d, .load t x, ty, pos, after, g⟩).run P w = (do pure (.value (← Instr.loadAt t (ρ x))) : Sem Next).run P w := rfl

theorem run_fieldAt {s : TypeId} {fs : Array Field} {f m : Nat} {fld : Field} {b off : Nat} {w : World} (hu : P.underlying s = some (.struct fs)) (hf : fs[f]? = some fld)
    (hz : ∀ w, (Go.sizeOf fld.type).run P w = .ok m w) (hm : m ≠ 0) : (Instr.fieldAt s (.pointer (some ⟨b, off, none⟩)) f).run P w = .ok (.pointer (some ⟨b, off + fld.offset, none⟩)) w := by
  simp only [Instr.fieldAt, underlying, Sem.run_bind, run_program, Result.andThen_ok, hu, Sem.run_pure, hf, Instr.sureAddr, fieldPlace, hz w, if_neg hm, Addr.add_lit]

theorem AVSim.bx_inv {w : World} {A : Blks} {hv : Nat → Value} {obj : Nat → Option Obj} {id j : Nat} {v : Value} {xs : List AV} (h : AVSim w A hv obj (.bx id j) v)
    (ho : obj id = some (.box xs)) : ∃ b, hv id = .pointer (some ⟨b, 0, none⟩) ∧ v = .pointer (some ⟨b, j, none⟩) := by
  cases h with
  | bx _ hh => exact ⟨_, hh, rfl⟩
  | mp ho' _ => rw [ho] at ho'; cases ho'

section fieldAddr
variable {s : TypeId} {fs : Array Field} {f m : Nat} {fld : Field} {x : Operand}
theorem run_field (hu : P.underlying s = some (.struct fs)) (hf : fs[f]? = some fld)
    (hz : ∀ w, (Go.sizeOf fld.type).run P w = .ok m w) (hm : m ≠ 0) {a : Act} {w : World} {b off : Nat} (he : a.eval x = .pointer (some ⟨b, off, none⟩)) :
    (execOp a.eval ⟨some d, .fieldAddr s x f, ty, pos, after, g⟩).run P w = .ok (.value (.pointer (some ⟨b, off + fld.offset, none⟩))) w := by
  simp only [execOp, he, Sem.run_bind, run_fieldAt hu hf hz hm, Result.andThen_ok, Sem.run_pure]

theorem op_fieldAddr_bx {id j j' : Nat} {xs : List AV} (hu : P.underlying s = some (.struct fs)) (hf : fs[f]? = some fld)
    (hz : ∀ w, (Go.sizeOf fld.type).run P w = .ok m w) (hm : m ≠ 0) (hj : j + fld.offset = j') (hn : d < n) :
    OpL0 P n ⟨some d, .fieldAddr s x f, ty, pos, after, g⟩ [.opd x (.bx id j), .obj id (.box xs)] [.set d (.bx id j')] :=
  op_value rfl hn fun _ _ _ _ _ _ st a w _ hT hs => by
    have h0 : opIs st x (.bx id j) := at0 hs
    have ho : st.obj id = some (.box xs) := at1 hs
    have h1 := hT.eval h0 (fun i hi => by simp [AV.ids] at hi; subst hi; simp [ho])
    obtain ⟨b, hb, he⟩ := h1.bx_inv ho
    exact ⟨_, run_field hu hf hz hm he, fun _ => hj ▸ .bx ho hb⟩
theorem op_fieldAddr_pts {xs ys : List Cell} (hu : P.underlying s = some (.struct fs)) (hf : fs[f]? = some fld)
    (hz : ∀ w, (Go.sizeOf fld.type).run P w = .ok m w) (hm : m ≠ 0) (hl : fld.offset ≤ xs.length) (hy : xs.drop fld.offset = ys) (hn : d < n) :
    OpL0 P n ⟨some d, .fieldAddr s x f, ty, pos, after, g⟩ [.opd x (.pts xs)] [.set d (.pts ys)] :=
  op_value rfl hn fun _ _ _ _ _ _ st a w _ hT hs => by
    have h0 : opIs st x (.pts xs) := at0 hs
    have h1 := hT.eval h0 (live_pts _ _)
    generalize hv : a.eval x = v at h1
    cases h1 with
    | @pts _ b off c e fr hb hA hsz hh =>
      refine ⟨_, run_field hu hf hz hm hv, fun _ => ?_⟩
      subst hy
      refine .pts hb hA (by simp; omega) fun i x v h1 h2 => ?_
      rw [List.getElem?_drop] at h1
      exact hh _ x v h1 (by rw [← Nat.add_assoc]; exact h2)
theorem op_fieldAddr_ptr {id k k0 i j j' : Nat} {p : Path} {rows : List (List Cell)} (hu : P.underlying s = some (.struct fs)) (hf : fs[f]? = some fld)
    (hz : ∀ w, (Go.sizeOf fld.type).run P w = .ok m w) (hm : m ≠ 0) (hj : j + fld.offset = j') (hn : d < n) :
    OpL0 P n ⟨some d, .fieldAddr s x f, ty, pos, after, g⟩ [.opd x (.ptr id p k i j), .obj id (.arr k0 rows)] [.set d (.ptr id p k i j')] :=
  op_value rfl hn fun _ _ _ _ _ _ st a w _ hT hs => by
    have h0 : opIs st x (.ptr id p k i j) := at0 hs
    have ho : st.obj id = some (.arr k0 rows) := at1 hs
    have h1 := hT.eval h0 (fun i hi => by simp [AV.ids] at hi; subst hi; simp [ho])
    generalize hv : a.eval x = v at h1
    cases h1 with
    | ptr ho' hg hh =>
      refine ⟨_, run_field hu hf hz hm hv, fun _ => ?_⟩
      subst hj
      rw [Nat.add_assoc, Nat.add_assoc]
      exact .ptr ho' hg hh
end fieldAddr

section indexAddr
variable {t e : TypeId} {x y : Operand} {k : Nat}
theorem run_index (hu : P.underlying t = some (.slice e)) (hz : ∀ w, (Go.sizeOf e).run P w = .ok k w) {a : Act} {w : World} {b off len cap : Nat} {kk : IntKind} {i : Int}
    (he : a.eval x = .slice (some ⟨b, off, none⟩) len cap) (hi : a.eval y = .int kk i) (h0 : 0 ≤ i) (h1 : i < len) :
    (execOp a.eval ⟨some d, .indexAddr t x y, ty, pos, after, g⟩).run P w = .ok (.value (.pointer (some ⟨b, off + i.toNat * k, none⟩))) w := by
  simp only [execOp, he, hi, Instr.indexAt, asIntOf, underlying, Sem.run_bind, run_program, Result.andThen_ok, hu, Sem.run_pure]
  have hc : 0 ≤ i ∧ i < (len : Int) := ⟨h0, h1⟩
  by_cases hl : len ≤ 1 <;> simp [hc, hu, hz w, Addr.add_lit]

theorem op_index_sh {rows : List (List Cell)} {row : List Cell} {i : Int} (hu : P.underlying t = some (.slice e)) (hz : ∀ w, (Go.sizeOf e).run P w = .ok k w) (hn : d < n)
    (h0 : 0 ≤ i) (hr : rows[i.toNat]? = some row) :
    OpL0 P n ⟨some d, .indexAddr t x y, ty, pos, after, g⟩ [.opd x (.c (.sl false k rows)), .opd y (aInt i)] [.set d (.pts row)] :=
  op_value rfl hn fun _ _ _ _ _ _ st a w _ hT hs => by
    have hx : opIs st x (.c (.sl false k rows)) := at0 hs
    have hi := hT.lit (at1 hs)
    have h1 := hT.eval hx (live_c _ _)
    have hlt := (List.getElem?_eq_some_iff.1 hr).1
    generalize hv : a.eval x = v at h1
    cases h1 with
    | c ho =>
      cases ho with
      | nil => simp at hr
      | emp => simp at hr
      | @shr _ _ _ b off cap c e' fr hb hA hk hsz hcap hh =>
        refine ⟨_, run_index hu hz hv hi h0 (by omega), fun _ => ?_⟩
        have hrk : row.length = k := hk row (List.mem_of_getElem? hr)
        have hmul : (i.toNat + 1) * k ≤ rows.length * k := Nat.mul_le_mul_right _ (by omega)
        rw [Nat.add_mul] at hmul
        refine .pts hb hA (by omega) fun j x v h1 h2 => ?_
        have hj : j < k := by have := (List.getElem?_eq_some_iff.1 h1).1; omega
        refine hh (i.toNat * k + j) x v ?_ (by rw [← Nat.add_assoc]; exact h2)
        rw [List.flatten_getElem?_of_const hk _ _ hj, hr]; exact h1

theorem op_index_ref {id k0 : Nat} {p : Path} {o : Bool} {rows rows' : List (List Cell)} {i : Int} (hu : P.underlying t = some (.slice e)) (hz : ∀ w, (Go.sizeOf e).run P w = .ok k w) (hn : d < n)
    (hg : (Cell.sl true k0 rows).get p = some (.sl o k rows')) (h0 : 0 ≤ i) (hi : i < rows'.length) :
    OpL0 P n ⟨some d, .indexAddr t x y, ty, pos, after, g⟩ [.opd x (.ref id p), .opd y (aInt i), .obj id (.arr k0 rows)] [.set d (.ptr id p k i.toNat 0)] :=
  op_value rfl hn fun _ _ _ _ _ _ st a w _ hT hs => by
    have hx : opIs st x (.ref id p) := at0 hs
    have hi' := hT.lit (at1 hs)
    have ho : st.obj id = some (.arr k0 rows) := at2 hs
    have h1 := hT.eval hx (fun i hi => by simp [AV.ids] at hi; subst hi; simp [ho])
    generalize hv : a.eval x = v at h1
    cases h1 with
    | ref ho' hg' hh =>
      rw [ho] at ho'; cases ho'
      obtain ⟨F', _, hown⟩ := Own.path (hT.heap id _ ho) hg hh
      cases hown with
      | nil => simp at hi; omega
      | emp => simp at hi; omega
      | shr =>
        refine ⟨_, run_index hu hz hv hi' h0 hi, fun _ => ?_⟩
        exact .ptr ho hg hh
      | arr =>
        refine ⟨_, run_index hu hz hv hi' h0 hi, fun _ => ?_⟩
        exact .ptr ho hg hh
end indexAddr

section load
variable {t : TypeId} {x : Operand} {m : Nat}
theorem run_load_one (ha : ∀ w, (isAgg t).run P w = .ok false w) {a : Act} {w : World} {b off : Nat} {v : Value} {c : Array Value} {e : TypeId} {fr : Nat × Nat}
    (he : a.eval x = .pointer (some ⟨b, off, none⟩)) (hb : w.heap[b]? = some (.cells c e fr)) (hv : c[off]? = some v) :
    (execOp a.eval ⟨some d, .load t x, ty, pos, after, g⟩).run P w = .ok (.value v) w := by
  have hc : w.cell? ⟨b, off, none⟩ = some v := by simp [World.cell?, hb, hv]
  simp only [execOp, he, Instr.loadAt, Instr.sureAddr, loadVar, Sem.run_bind, Sem.run_pure, Result.andThen_ok, ha w, Bool.false_eq_true, if_false, run_load, hc]

theorem run_load_agg (ha : ∀ w, (isAgg t).run P w = .ok true w) (hz : ∀ w, (Go.sizeOf t).run P w = .ok m w) {a : Act} {w : World} {b off : Nat} {cs : List Value} {c : Array Value} {e : TypeId} {fr : Nat × Nat}
    (he : a.eval x = .pointer (some ⟨b, off, none⟩)) (hb : w.heap[b]? = some (.cells c e fr)) (hm : cs.length = m) (hv : ∀ j v, cs[j]? = some v → c[off + j]? = some v) :
    (execOp a.eval ⟨some d, .load t x, ty, pos, after, g⟩).run P w = .ok (.value (.agg cs.toArray)) w := by
  have hc : ∀ j v, cs[j]? = some v → w.cell? (Addr.add ⟨b, off, none⟩ j) = some v := fun j v h => by
    rw [Addr.add_lit]; simp [World.cell?, hb, hv j v h]
  have hl := run_loadCells_list (P := P) w ⟨b, off, none⟩ cs hc
  rw [hm] at hl
  simp only [execOp, he, Instr.loadAt, Instr.sureAddr, loadVar, Sem.run_bind, Sem.run_pure, Result.andThen_ok, ha w, if_true, hz w, hl]

/-- The values at off .. off + m - 1. -/
theorem window {c : Array Value} {off m : Nat} (h : off + m ≤ c.size) : ((c.toList.drop off).take m).length = m ∧ ∀ (j : Nat) v, ((c.toList.drop off).take m)[j]? = some v → c[off + j]? = some v := by
  refine ⟨by simp; omega, fun j v hj => ?_⟩
  rw [List.getElem?_take] at hj
  split at hj
  · rw [List.getElem?_drop] at hj; simpa using hj
  · cases hj
theorem window' {c : Array Value} {off m j : Nat} {v : Value} (hj : j < m) (h : c[off + j]? = some v) : ((c.toList.drop off).take m)[j]? = some v := by
  rw [List.getElem?_take, if_pos hj, List.getElem?_drop]; simpa using h

theorem op_load_bx {id j : Nat} {xs : List AV} {av : AV} (ha : ∀ w, (isAgg t).run P w = .ok false w) (hx : xs[j]? = some av) (hn : d < n) :
    OpL0 P n ⟨some d, .load t x, ty, pos, after, g⟩ [.opd x (.bx id j), .obj id (.box xs)] [.set d av] :=
  op_value rfl hn fun _ _ _ _ _ _ st a w _ hT hs => by
    have h0 : opIs st x (.bx id j) := at0 hs
    have ho : st.obj id = some (.box xs) := at1 hs
    have h1 := hT.eval h0 (fun i hi => by simp [AV.ids] at hi; subst hi; simp [ho])
    obtain ⟨b, hb, he⟩ := h1.bx_inv ho
    have hbox := hT.heap id _ ho
    simp only [ObjSim] at hbox
    obtain ⟨b', c, e, h2, h3, h4, h5, h6⟩ := hbox
    rw [hb] at h2; cases h2
    have hlt := (List.getElem?_eq_some_iff.1 hx).1
    have hv : c[j]? = some (c[j]'(by omega)) := by simp [show j < c.size by omega]
    exact ⟨_, run_load_one ha he h3 hv, fun hl => h6 j av _ hx hv hl⟩

theorem op_load_bx_agg {id j : Nat} {xs ys : List AV} (ha : ∀ w, (isAgg t).run P w = .ok true w) (hz : ∀ w, (Go.sizeOf t).run P w = .ok m w) (hx : (xs.drop j).take m = ys) (hl : ys.length = m) (hn : d < n) :
    OpL0 P n ⟨some d, .load t x, ty, pos, after, g⟩ [.opd x (.bx id j), .obj id (.box xs)] [.set d (.agg ys)] :=
  op_value rfl hn fun _ _ _ _ _ _ st a w _ hT hs => by
    have h0 : opIs st x (.bx id j) := at0 hs
    have ho : st.obj id = some (.box xs) := at1 hs
    have h1 := hT.eval h0 (fun i hi => by simp [AV.ids] at hi; subst hi; simp [ho])
    obtain ⟨b, hb, he⟩ := h1.bx_inv ho
    have hbox := hT.heap id _ ho
    simp only [ObjSim] at hbox
    obtain ⟨b', c, e, h2, h3, h4, h5, h6⟩ := hbox
    rw [hb] at h2; cases h2
    have hlen : m ≤ xs.length - j := by subst hx; simp at hl; omega
    by_cases hm0 : m = 0
    · subst hm0
      have : ys = [] := List.length_eq_zero_iff.1 hl
      subst this
      exact ⟨_, run_load_agg (cs := []) ha hz he h3 rfl (fun j v hj => by simp at hj), fun _ => .agg rfl (fun i x v h => by simp at h)⟩
    · obtain ⟨hw1, hw2⟩ := window (c := c) (off := j) (m := m) (by omega)
      refine ⟨_, run_load_agg ha hz he h3 hw1 hw2, fun hlive => .agg (by simp; omega) fun i y v hy hv => ?_⟩
      have him : i < m := by have := (List.getElem?_eq_some_iff.1 hy).1; omega
      have hy' : xs[j + i]? = some y := by
        rw [← hx, List.getElem?_take, if_pos him, List.getElem?_drop] at hy; exact hy
      have hv' : c[j + i]? = some v := hw2 i v (by simpa using hv)
      exact h6 _ y v hy' hv' (fun id hid => hlive id (mem_idsL hy hid))

/-- A whole box of shared cells. -/
theorem op_load_bx_row {id j : Nat} {xs : List Cell} {ys : List Cell} (ha : ∀ w, (isAgg t).run P w = .ok true w) (hz : ∀ w, (Go.sizeOf t).run P w = .ok m w) (hx : (xs.drop j).take m = ys) (hl : ys.length = m) (hn : d < n) :
    OpL0 P n ⟨some d, .load t x, ty, pos, after, g⟩ [.opd x (.bx id j), .obj id (.box (xs.map AV.c))] [.set d (.row ys)] :=
  op_value rfl hn fun _ _ _ _ _ _ st a w _ hT hs => by
    have h0 : opIs st x (.bx id j) := at0 hs
    have ho : st.obj id = some (.box (xs.map AV.c)) := at1 hs
    have h1 := hT.eval h0 (fun i hi => by simp [AV.ids] at hi; subst hi; simp [ho])
    obtain ⟨b, hb, he⟩ := h1.bx_inv ho
    have hbox := hT.heap id _ ho
    simp only [ObjSim] at hbox
    obtain ⟨b', c, e, h2, h3, h4, h5, h6⟩ := hbox
    rw [hb] at h2; cases h2
    simp only [List.length_map] at h4
    have hlen : m ≤ xs.length - j := by subst hx; simp at hl; omega
    by_cases hm0 : m = 0
    · subst hm0
      have : ys = [] := List.length_eq_zero_iff.1 hl
      subst this
      exact ⟨_, run_load_agg (cs := []) ha hz he h3 rfl (fun j v hj => by simp at hj), fun _ => .row rfl (fun i x v h => by simp at h)⟩
    · obtain ⟨hw1, hw2⟩ := window (c := c) (off := j) (m := m) (by omega)
      refine ⟨_, run_load_agg ha hz he h3 hw1 hw2, fun hlive => .row (by simp; omega) fun i y v hy hv => ?_⟩
      have him : i < m := by have := (List.getElem?_eq_some_iff.1 hy).1; omega
      have hy' : xs[j + i]? = some y := by
        rw [← hx, List.getElem?_take, if_pos him, List.getElem?_drop] at hy; exact hy
      have hv' : c[j + i]? = some v := hw2 i v (by simpa using hv)
      have := h6 (j + i) (.c y) v (by rw [List.getElem?_map, hy']; rfl) hv' (live_c _ _)
      cases this with
      | c ho => exact ho

theorem op_load_pts {xs : List Cell} {y : Cell} (ha : ∀ w, (isAgg t).run P w = .ok false w) (hx : xs[0]? = some y) (hn : d < n) :
    OpL0 P n ⟨some d, .load t x, ty, pos, after, g⟩ [.opd x (.pts xs)] [.set d (.c y)] :=
  op_value rfl hn fun _ _ _ _ _ _ st a w _ hT hs => by
    have h0 : opIs st x (.pts xs) := at0 hs
    have h1 := hT.eval h0 (live_pts _ _)
    generalize hv : a.eval x = v at h1
    cases h1 with
    | @pts _ b off c e fr hb hA hsz hh =>
      have hlt := (List.getElem?_eq_some_iff.1 hx).1
      have hv' : c[off]? = some (c[off]'(by omega)) := by simp [show off < c.size by omega]
      exact ⟨_, run_load_one ha hv hb hv', fun _ => .c (hh 0 y _ hx (by rw [Nat.add_zero]; exact hv'))⟩

theorem op_load_pts_row {xs ys : List Cell} (ha : ∀ w, (isAgg t).run P w = .ok true w) (hz : ∀ w, (Go.sizeOf t).run P w = .ok m w) (hx : xs.take m = ys) (hl : ys.length = m) (hn : d < n) :
    OpL0 P n ⟨some d, .load t x, ty, pos, after, g⟩ [.opd x (.pts xs)] [.set d (.row ys)] :=
  op_value rfl hn fun _ _ _ _ _ _ st a w _ hT hs => by
    have h0 : opIs st x (.pts xs) := at0 hs
    have h1 := hT.eval h0 (live_pts _ _)
    generalize hv : a.eval x = v at h1
    cases h1 with
    | @pts _ b off c e fr hb hA hsz hh =>
      have hlen : m ≤ xs.length := by subst hx; simp at hl; omega
      obtain ⟨hw1, hw2⟩ := window (c := c) (off := off) (m := m) (by omega)
      refine ⟨_, run_load_agg ha hz hv hb hw1 hw2, fun _ => .row (by simp; omega) fun i y v hy hv => ?_⟩
      have him : i < m := by have := (List.getElem?_eq_some_iff.1 hy).1; omega
      have hy' : xs[i]? = some y := by rw [← hx, List.getElem?_take, if_pos him] at hy; exact hy
      exact hh i y v hy' (hw2 i v (by simpa using hv))

/-- A cell that owns nothing. -/
def Cell.plain : Cell → Bool
  | .lit _ => true
  | .sl o _ _ => !o
  | .bx _ => false

/-- Where a pointer into an owned slice leads. -/
theorem ptr_inv {pn : Nat → Option Value} {w0 : World} {A0 F0 : Blks} {hv : Nat → Value} {T : Nat → Blks} {st : St} {a : Act} {w : World} (hT : StSim n pn w0 A0 F0 hv T st a w) {id k k0 i j : Nat} {p : Path} {o : Bool}
    {rows rows' : List (List Cell)} {row : List Cell} (hx : opIs st x (.ptr id p k i j)) (ho : st.obj id = some (.arr k0 rows)) (hg : (Cell.sl true k0 rows).get p = some (.sl o k rows')) (hr : rows'[i]? = some row) :
    ∃ b off len cap c e fr, a.eval x = .pointer (some ⟨b, off + (i * k + j), none⟩) ∧ w.heap[b]? = some (.cells c e fr) ∧ row.length = k ∧ off + (i * k + k) ≤ c.size ∧
      Hdr w (.sl true k0 rows) (hv id) p (.slice (some ⟨b, off, none⟩) len cap) ∧
      ∀ (l : Nat) y v, row[l]? = some y → c[off + (i * k + l)]? = some v → ∃ F, Own w (Sh A0 F0 w0 T st.obj w) F y v ∧ ∀ b, F b → T id b := by
  have h1 := hT.eval hx (fun i hi => by simp [AV.ids] at hi; subst hi; simp [ho])
  generalize he : a.eval x = v at h1
  cases h1 with
  | @ptr _ _ _ _ _ _ _ _ _ b off len cap ho' hg' hh =>
    rw [ho] at ho'; cases ho'
    obtain ⟨F', hF', hown⟩ := Own.path (hT.heap id _ ho) hg hh
    have hlt := (List.getElem?_eq_some_iff.1 hr).1
    have hmul : (i + 1) * k ≤ rows'.length * k := Nat.mul_le_mul_right _ (by omega)
    rw [Nat.add_mul, Nat.one_mul] at hmul
    cases hown with
    | emp => simp at hr
    | @shr _ _ _ _ _ _ c e fr hb hA hk hsz hcap hsub =>
      refine ⟨b, off, _, _, c, e, fr, rfl, hb, hk row (List.mem_of_getElem? hr), by omega, hh, fun l y v h1 h2 => ?_⟩
      have hl : l < k := by have := (List.getElem?_eq_some_iff.1 h1).1; have := hk row (List.mem_of_getElem? hr); omega
      exact ⟨noBlk, hsub (i * k + l) y v (by rw [List.flatten_getElem?_of_const hk _ _ hl, hr]; exact h1) h2, fun _ f => f.elim⟩
    | @arr _ _ _ _ _ c e G hb hk hsz hcap hF hG hGb hd hsub =>
      have hm2 : rows'.length * k ≤ cap * k := Nat.mul_le_mul_right _ hcap
      refine ⟨b, 0, _, _, c, e, (0, 0), rfl, hb, hk row (List.mem_of_getElem? hr), by omega, hh, fun l y v h1 h2 => ?_⟩
      have hl : l < k := by have := (List.getElem?_eq_some_iff.1 h1).1; have := hk row (List.mem_of_getElem? hr); omega
      exact ⟨G (i * k + l), hsub (i * k + l) y v (by rw [List.flatten_getElem?_of_const hk _ _ hl, hr]; exact h1) (by simpa using h2), fun b hb => hF' b (hG _ b hb)⟩

/-- A plain cell owns nothing. -/
theorem Own.of_plain {w : World} {A F : Blks} {c : Cell} {v : Value} (h : Own w A F c v) (hp : c.plain = true) : Own w A noBlk c v := by
  cases h with
  | lit => exact .lit _
  | nil => exact .nil _ _
  | emp => exact .emp _ _
  | shr hb hA hk hs hcap hh => exact .shr hb hA hk hs hcap hh
  | arr => cases hp
  | bx => cases hp

theorem op_load_ptr {id k k0 i j : Nat} {p : Path} {o : Bool} {rows rows' : List (List Cell)} {row : List Cell} {y : Cell} (ha : ∀ w, (isAgg t).run P w = .ok false w)
    (hg : (Cell.sl true k0 rows).get p = some (.sl o k rows')) (hr : rows'[i]? = some row) (hy : row[j]? = some y) (hp : y.plain = true) (hn : d < n) :
    OpL0 P n ⟨some d, .load t x, ty, pos, after, g⟩ [.opd x (.ptr id p k i j), .obj id (.arr k0 rows)] [.set d (.c y)] :=
  op_value rfl hn fun _ _ _ _ _ _ st a w _ hT hs => by
    have h0 : opIs st x (.ptr id p k i j) := at0 hs
    have ho : st.obj id = some (.arr k0 rows) := at1 hs
    obtain ⟨b, off, len, cap, c, e, fr, he, hb, hrk, hsz, _, hsub⟩ := ptr_inv hT h0 ho hg hr
    have hlt := (List.getElem?_eq_some_iff.1 hy).1
    have hv' : c[off + (i * k + j)]? = some (c[off + (i * k + j)]'(by omega)) := by simp [show off + (i * k + j) < c.size by omega]
    obtain ⟨F, hown, _⟩ := hsub j y _ hy hv'
    exact ⟨_, run_load_one ha he hb hv', fun _ => .c (hown.of_plain hp)⟩

theorem Cell.get_append {c c' : Cell} {p q : Path} (h : c.get p = some c') : c.get (p ++ q) = c'.get q := by
  induction p generalizing c with
  | nil => cases h; rfl
  | cons ij p ih =>
    obtain ⟨i, j⟩ := ij
    cases c with
    | lit => cases h
    | bx => cases h
    | sl o k rows =>
      simp only [Cell.get, List.cons_append] at h ⊢
      cases hx : (rows[i]?).bind (·[j]?) with
      | none => rw [hx] at h; cases h
      | some x => rw [hx] at h; simp only [Option.bind_some] at h ⊢; exact ih h
theorem Hdr.append {w : World} {c c' : Cell} {v v' v2 : Value} {p q : Path} (hg : c.get p = some c') (h : Hdr w c v p v') (h2 : Hdr w c' v' q v2) : Hdr w c v (p ++ q) v2 := by
  induction p generalizing c v with
  | nil => cases hg; simp only [Hdr] at h; subst h; exact h2
  | cons ij p ih =>
    obtain ⟨i, j⟩ := ij
    cases c with
    | lit => cases hg
    | bx => cases hg
    | sl o k rows =>
      simp only [Hdr, List.cons_append] at h ⊢
      obtain ⟨b, off, m, cap, cs, e, fr, u, x, h1, h3, h4, h5, h6, h7⟩ := h
      refine ⟨b, off, m, cap, cs, e, fr, u, x, h1, h3, h4, h5, h6, ?_⟩
      simp only [Cell.get, h5, Option.bind_some] at hg
      exact ih hg h7

theorem op_load_ptr_ref {id k k0 i j k2 : Nat} {p : Path} {o o2 : Bool} {rows rows' rows2 : List (List Cell)} {row : List Cell} (ha : ∀ w, (isAgg t).run P w = .ok false w)
    (hg : (Cell.sl true k0 rows).get p = some (.sl o k rows')) (hr : rows'[i]? = some row) (hy : row[j]? = some (.sl o2 k2 rows2)) (hn : d < n) :
    OpL0 P n ⟨some d, .load t x, ty, pos, after, g⟩ [.opd x (.ptr id p k i j), .obj id (.arr k0 rows)] [.set d (.ref id (p ++ [(i, j)]))] :=
  op_value rfl hn fun _ _ _ _ _ _ st a w _ hT hs => by
    have h0 : opIs st x (.ptr id p k i j) := at0 hs
    have ho : st.obj id = some (.arr k0 rows) := at1 hs
    obtain ⟨b, off, len, cap, c, e, fr, he, hb, hrk, hsz, hh, hsub⟩ := ptr_inv hT h0 ho hg hr
    have hlt := (List.getElem?_eq_some_iff.1 hy).1
    have hv' : c[off + (i * k + j)]? = some (c[off + (i * k + j)]'(by omega)) := by simp [show off + (i * k + j) < c.size by omega]
    refine ⟨_, run_load_one ha he hb hv', fun _ => .ref ho (k' := k2) (o := o2) (rows' := rows2) ?_ (Hdr.append hg hh ?_)⟩
    · rw [Cell.get_append hg]; simp [Cell.get, hr, hy]
    · exact ⟨b, off, len, cap, c, e, fr, _, _, rfl, hb, hv', by rw [hr]; exact hy, by omega, rfl⟩

theorem op_load_ptr_row {id k k0 i j : Nat} {p : Path} {o : Bool} {rows rows' : List (List Cell)} {row ys : List Cell} (ha : ∀ w, (isAgg t).run P w = .ok true w) (hz : ∀ w, (Go.sizeOf t).run P w = .ok m w)
    (hg : (Cell.sl true k0 rows).get p = some (.sl o k rows')) (hr : rows'[i]? = some row) (hy : (row.drop j).take m = ys) (hl : ys.length = m) (hp : ys.all Cell.plain = true) (hn : d < n) :
    OpL0 P n ⟨some d, .load t x, ty, pos, after, g⟩ [.opd x (.ptr id p k i j), .obj id (.arr k0 rows)] [.set d (.row ys)] :=
  op_value rfl hn fun _ _ _ _ _ _ st a w _ hT hs => by
    have h0 : opIs st x (.ptr id p k i j) := at0 hs
    have ho : st.obj id = some (.arr k0 rows) := at1 hs
    obtain ⟨b, off, len, cap, c, e, fr, he, hb, hrk, hsz, hh, hsub⟩ := ptr_inv hT h0 ho hg hr
    have hlen : m ≤ row.length - j := by subst hy; simp at hl; omega
    by_cases hm0 : m = 0
    · subst hm0
      have : ys = [] := List.length_eq_zero_iff.1 hl
      subst this
      exact ⟨_, run_load_agg (cs := []) ha hz he hb rfl (fun j v hj => by simp at hj), fun _ => .row rfl (fun i x v h => by simp at h)⟩
    · obtain ⟨hw1, hw2⟩ := window (c := c) (off := off + (i * k + j)) (m := m) (by omega)
      refine ⟨_, run_load_agg ha hz he hb hw1 hw2, fun _ => .row (by simp; omega) fun l y v hy' hv => ?_⟩
      have hlm : l < m := by have := (List.getElem?_eq_some_iff.1 hy').1; omega
      have hy2 : row[j + l]? = some y := by rw [← hy, List.getElem?_take, if_pos hlm, List.getElem?_drop] at hy'; exact hy'
      have hv2 := hw2 l v (by simpa using hv)
      obtain ⟨F, hown, _⟩ := hsub (j + l) y v hy2 (by rw [← hv2]; congr 1; omega)
      exact hown.of_plain (List.all_eq_true.1 hp y (List.mem_of_getElem? hy'))

/-- What a cell of an owned row is, taken out of it: a slice stays where it is. -/
def peek (id : Nat) (p : Path) (i j : Nat) : Cell → AV
  | .sl true _ _ => .ref id (p ++ [(i, j)])
  | .bx _ => .dead
  | c => .c c
def peeks (id : Nat) (p : Path) (i : Nat) : Nat → List Cell → List AV
  | _, [] => []
  | j, c :: cs => peek id p i j c :: peeks id p i (j + 1) cs
theorem peeks_length (id : Nat) (p : Path) (i : Nat) : ∀ (j : Nat) (cs : List Cell), (peeks id p i j cs).length = cs.length
  | _, [] => rfl
  | j, c :: cs => by simp [peeks, peeks_length id p i (j + 1) cs]
theorem peeks_get (id : Nat) (p : Path) (i : Nat) : ∀ (j : Nat) (cs : List Cell) (l : Nat), (peeks id p i j cs)[l]? = (cs[l]?).map (peek id p i (j + l))
  | _, [], l => by simp [peeks]
  | j, c :: cs, 0 => by simp [peeks]
  | j, c :: cs, l + 1 => by simp [peeks, peeks_get id p i (j + 1) cs l]; congr 1; congr 1; omega

theorem op_load_ptr_agg {id k k0 i j : Nat} {p : Path} {o : Bool} {rows rows' : List (List Cell)} {row ys : List Cell} (ha : ∀ w, (isAgg t).run P w = .ok true w) (hz : ∀ w, (Go.sizeOf t).run P w = .ok m w)
    (hg : (Cell.sl true k0 rows).get p = some (.sl o k rows')) (hr : rows'[i]? = some row) (hy : (row.drop j).take m = ys) (hl : ys.length = m) (hn : d < n) :
    OpL0 P n ⟨some d, .load t x, ty, pos, after, g⟩ [.opd x (.ptr id p k i j), .obj id (.arr k0 rows)] [.set d (.agg (peeks id p i j ys))] :=
  op_value rfl hn fun _ _ _ _ _ _ st a w _ hT hs => by
    have h0 : opIs st x (.ptr id p k i j) := at0 hs
    have ho : st.obj id = some (.arr k0 rows) := at1 hs
    obtain ⟨b, off, len, cap, c, e, fr, he, hb, hrk, hsz, hh, hsub⟩ := ptr_inv hT h0 ho hg hr
    have hlen : m ≤ row.length - j := by subst hy; simp at hl; omega
    by_cases hm0 : m = 0
    · subst hm0
      have : ys = [] := List.length_eq_zero_iff.1 hl
      subst this
      exact ⟨_, run_load_agg (cs := []) ha hz he hb rfl (fun j v hj => by simp at hj), fun _ => .agg rfl (fun i x v h => by simp [peeks] at h)⟩
    · obtain ⟨hw1, hw2⟩ := window (c := c) (off := off + (i * k + j)) (m := m) (by omega)
      refine ⟨_, run_load_agg ha hz he hb hw1 hw2, fun _ => .agg (by simp [peeks_length]; omega) fun l y v hy' hv => ?_⟩
      rw [peeks_get] at hy'
      cases hyl : ys[l]? with
      | none => rw [hyl] at hy'; cases hy'
      | some z =>
        rw [hyl] at hy'
        simp only [Option.map_some, Option.some.injEq] at hy'
        subst hy'
        have hlm : l < m := by have := (List.getElem?_eq_some_iff.1 hyl).1; omega
        have hy2 : row[j + l]? = some z := by rw [← hy, List.getElem?_take, if_pos hlm, List.getElem?_drop] at hyl; exact hyl
        have hv2 := hw2 l v (by simpa using hv)
        have hv3 : c[off + (i * k + (j + l))]? = some v := by rw [← hv2]; congr 1; omega
        obtain ⟨F, hown, _⟩ := hsub (j + l) z v hy2 hv3
        cases z with
        | lit u => exact .c (hown.of_plain rfl)
        | bx => exact .dead _
        | sl o2 k2 rows2 =>
          cases o2 with
          | false => exact .c (hown.of_plain rfl)
          | true =>
            refine .ref ho (k' := k2) (o := true) (rows' := rows2) ?_ (Hdr.append hg hh ?_)
            · rw [Cell.get_append hg]; simp [Cell.get, hr, hy2]
            · exact ⟨b, off, len, cap, c, e, fr, _, _, rfl, hb, hv3, by rw [hr]; exact hy2, by have := (List.getElem?_eq_some_iff.1 hy2).1; omega, rfl⟩
end load

section small
variable {x : Operand}
theorem op_nilCheck_bx {id j : Nat} {xs : List AV} (hn : d < n) : OpL0 P n ⟨some d, .nilCheck x, ty, pos, after, g⟩ [.opd x (.bx id j), .obj id (.box xs)] [.set d (.bx id j)] :=
  op_value rfl hn fun _ _ _ _ _ _ st a w _ hT hs => by
    have h0 : opIs st x (.bx id j) := at0 hs
    have ho : st.obj id = some (.box xs) := at1 hs
    have h1 := hT.eval h0 (fun i hi => by simp [AV.ids] at hi; subst hi; simp [ho])
    obtain ⟨b, hb, he⟩ := h1.bx_inv ho
    refine ⟨a.eval x, ?_, fun _ => h1⟩
    simp only [execOp, he, Sem.run_pure]
theorem op_nilCheck_pts {xs : List Cell} (hn : d < n) : OpL0 P n ⟨some d, .nilCheck x, ty, pos, after, g⟩ [.opd x (.pts xs)] [.set d (.pts xs)] :=
  op_value rfl hn fun _ _ _ _ _ _ st a w _ hT hs => by
    have h0 : opIs st x (.pts xs) := at0 hs
    have h1 := hT.eval h0 (live_pts _ _)
    refine ⟨a.eval x, ?_, fun _ => h1⟩
    generalize hv : a.eval x = v at h1
    cases h1
    simp only [execOp, hv, Sem.run_pure]
theorem op_nilCheck_ptr {id k i j k0 : Nat} {p : Path} {rows : List (List Cell)} (hn : d < n) :
    OpL0 P n ⟨some d, .nilCheck x, ty, pos, after, g⟩ [.opd x (.ptr id p k i j), .obj id (.arr k0 rows)] [.set d (.ptr id p k i j)] :=
  op_value rfl hn fun _ _ _ _ _ _ st a w _ hT hs => by
    have h0 : opIs st x (.ptr id p k i j) := at0 hs
    have ho : st.obj id = some (.arr k0 rows) := at1 hs
    have h1 := hT.eval h0 (fun i hi => by simp [AV.ids] at hi; subst hi; simp [ho])
    refine ⟨a.eval x, ?_, fun _ => h1⟩
    generalize hv : a.eval x = v at h1
    cases h1
    simp only [execOp, hv, Sem.run_pure]

theorem op_extract {xs : List AV} {i : Nat} {av : AV} (hx : xs[i]? = some av) (hn : d < n) :
    OpL0 P n ⟨some d, .extract x i, ty, pos, after, g⟩ (.opd x (.tup xs) :: lives (idsL xs)) [.set d av] :=
  op_value rfl hn fun _ _ _ _ _ _ st a w _ hT hs => by
    have h0 : opIs st x (.tup xs) := at0 hs
    have h1 := hT.eval h0 (live_of (at_tail hs))
    generalize hv : a.eval x = v at h1
    cases h1 with
    | @tup _ vs hsz hh =>
      have hlt := (List.getElem?_eq_some_iff.1 hx).1
      have hv' : vs[i]? = some (vs[i]'(by omega)) := by simp [show i < vs.size by omega]
      refine ⟨vs[i]'(by omega), ?_, fun _ => hh i av _ hx hv'⟩
      simp only [execOp, hv, Instr.extract, hv', Sem.run_bind, Sem.run_pure, Result.andThen_ok]

theorem run_makeFunc {f : FuncId} {caps : Array Operand} {ρ : Operand → Value} {w : World} :
    (execOp ρ ⟨some d, .makeFunc (.func f) #[] caps, ty, pos, after, g⟩).run P w = .ok (.value (.func (.func f) #[] (caps.map ρ))) w := by
  simp [execOp, Instr.makeFunc]
end small
end
end Go.Am
