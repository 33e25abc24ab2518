/- Operations that leave the world alone. Own work; generic. -/
import Derived.Test.YtcbpckbehdaloaaAmD
import Derived.Laws.Sem
import Derived.Laws.Cells
import Derived.Laws.Entries
import Derived.Laws.StructEq
set_option linter.unusedSimpArgs false
set_option linter.unusedVariables false
namespace Go.Am
open Go

section
variable {P : Program} {ops : Array Oper} {n : Nat}

theorem sats_nil {st : St} : ∀ r ∈ ([] : List Req), r.sat st := fun _ h => (by cases h)
theorem sats_cons {st : St} {r : Req} {rs : List Req} (h : r.sat st) (k : ∀ r ∈ rs, r.sat st) : ∀ r' ∈ r :: rs, r'.sat st := by
  intro r' hr
  rcases List.mem_cons.1 hr with rfl | hr
  · exact h
  · exact k r' hr
theorem at0 {st : St} {r : Req} {rs : List Req} (h : ∀ r' ∈ r :: rs, r'.sat st) : r.sat st := h r (List.mem_cons_self ..)
theorem at1 {st : St} {r r1 : Req} {rs : List Req} (h : ∀ r' ∈ r :: r1 :: rs, r'.sat st) : r1.sat st := h r1 (List.mem_cons_of_mem _ (List.mem_cons_self ..))
theorem at2 {st : St} {r r1 r2 : Req} {rs : List Req} (h : ∀ r' ∈ r :: r1 :: r2 :: rs, r'.sat st) : r2.sat st := h r2 (List.mem_cons_of_mem _ (List.mem_cons_of_mem _ (List.mem_cons_self ..)))
theorem at3 {st : St} {r r1 r2 r3 : Req} {rs : List Req} (h : ∀ r' ∈ r :: r1 :: r2 :: r3 :: rs, r'.sat st) : r3.sat st :=
  h r3 (List.mem_cons_of_mem _ (List.mem_cons_of_mem _ (List.mem_cons_of_mem _ (List.mem_cons_self ..))))
theorem sats_opd {st : St} {x : Operand} {av : AV} {rs : List Req} (h : opIs st x av) (k : ∀ r ∈ rs, r.sat st) : ∀ r' ∈ Req.opd x av :: rs, r'.sat st := sats_cons h k
theorem sats_obj {st : St} {id : Nat} {o : Obj} {rs : List Req} (h : st.obj id = some o) (k : ∀ r ∈ rs, r.sat st) : ∀ r' ∈ Req.obj id o :: rs, r'.sat st := sats_cons h k
theorem sats_fresh {st : St} {id : Nat} {rs : List Req} (h : st.used id = false) (k : ∀ r ∈ rs, r.sat st) : ∀ r' ∈ Req.fresh id :: rs, r'.sat st := sats_cons h k

def lives (l : List Nat) : List Req := l.map .live
theorem sats_lives {st : St} {l : List Nat} (h : l.all (fun i => (st.obj i).isSome) = true) : ∀ r ∈ lives l, r.sat st := by
  intro r hr
  obtain ⟨i, hi, rfl⟩ := List.mem_map.1 hr
  exact List.all_eq_true.1 h i hi
theorem live_of {st : St} {l : List Nat} (h : ∀ r ∈ lives l, r.sat st) : ∀ id ∈ l, (st.obj id).isSome = true := fun id hid => h (.live id) (List.mem_map.2 ⟨id, hid, rfl⟩)
theorem at_tail {st : St} {r : Req} {rs : List Req} (h : ∀ r' ∈ r :: rs, r'.sat st) : ∀ r' ∈ rs, r'.sat st := fun r' hr => h r' (List.mem_cons_of_mem _ hr)

/-- The operation itself, its guard apart. -/
def OpL0 (P : Program) (n : Nat) (o : Oper) (rs : List Req) (us : List Upd) : Prop :=
  ∀ (pn : Nat → Option Value) (w0 : World) (A0 F0 : Blks) (st : St) (a : Act) (w : World), Base w0 A0 F0 → Sim n pn w0 A0 F0 st a w → (∀ r ∈ rs, r.sat st) →
    ∀ (K : Act → World → Prop) (Q : Exit → Act → World → Prop), (∀ a' w', Sim n pn w0 A0 F0 (apps us st) a' w' → K a' w') → o.wp P a w K Q

theorem opl_plain {o : Oper} {rs : List Req} {us : List Upd} (hg : o.guard = none) (h : OpL0 P n o rs us) : OpL P ops n o rs us := by
  intro pn w0 A0 F0 st a w hB hS hs K Q hK
  have : Region.wanted o (yielded ops a.tmps) = true := by unfold Region.wanted; rw [hg]
  rw [if_pos this]
  exact h pn w0 A0 F0 st a w hB hS hs K Q hK

theorem StSim.eval {pn : Nat → Option Value} {w0 : World} {A0 F0 : Blks} {hv : Nat → Value} {T : Nat → Blks} {st : St} {a : Act} {w : World} (h : StSim n pn w0 A0 F0 hv T st a w) {x : Operand} {av : AV}
    (hx : opIs st x av) (hl : Live st.obj av) : AVSim w (Sh A0 F0 w0 T st.obj w) hv st.obj av (a.eval x) := by
  cases x with
  | tmp t =>
    obtain ⟨v, h1, h2⟩ := h.env t av hx hl
    have : a.eval (.tmp t) = v := by simp [Act.eval, h1]
    rw [this]; exact h2
  | const v =>
    obtain rfl := hx
    cases v <;> first
      | exact .c (.lit _)
      | (refine .row (by simp) fun i x v h1 h2 => ?_
         simp only [List.getElem?_map, Array.getElem?_toList] at h1
         rw [h2] at h1
         cases h1
         exact .lit _)
  | func f =>
    obtain rfl := hx
    exact .fn (by simp) fun i x v h1 _ => by simp at h1
  | global g => exact hx.elim

theorem yielded_of {pn : Nat → Option Value} {w0 : World} {A0 F0 : Blks} {hv : Nat → Value} {T : Nat → Blks} {st : St} {a : Act} {w : World} (h : StSim n pn w0 A0 F0 hv T st a w) {g dg : Nat} {b : Bool}
    (hg : (ops[g]?).bind (·.dst) = some dg) (hb : st.env dg = some (.c (.lit (.bool b)))) : yielded ops a.tmps g = some b := by
  obtain ⟨v, h1, h2⟩ := h.env dg _ hb (fun id hid => by simp [AV.ids] at hid)
  have hv : v = .bool b := by
    cases h2 with
    | c ho => cases ho; rfl
  unfold yielded
  rw [hg, Option.bind_some, h1, hv]

theorem opl_on {o : Oper} {rs : List Req} {us : List Upd} {g dg : Nat} {want b : Bool} (hg : o.guard = some (g, want)) (hd : (ops[g]?).bind (·.dst) = some dg) (hb : b = want)
    (h : OpL0 P n o rs us) : OpL P ops n o (.opd (.tmp dg) (.c (.lit (.bool b))) :: rs) us := by
  intro pn w0 A0 F0 st a w hB hS hs K Q hK
  have h1 : st.env dg = some (.c (.lit (.bool b))) := at0 hs
  obtain ⟨hv, T, hT⟩ := hS
  have : Region.wanted o (yielded ops a.tmps) = true := by
    unfold Region.wanted; rw [hg]; simp [yielded_of hT hd h1, hb]
  rw [if_pos this]
  exact h pn w0 A0 F0 st a w hB ⟨hv, T, hT⟩ (fun r hr => hs r (by simp [hr])) K Q hK

theorem StSim.set {pn : Nat → Option Value} {w0 : World} {A0 F0 : Blks} {hv : Nat → Value} {T : Nat → Blks} {st : St} {a : Act} {w : World} (h : StSim n pn w0 A0 F0 hv T st a w) {d : Nat} {av : AV} {v : Value}
    (hd : d < n) (hav : Live st.obj av → AVSim w (Sh A0 F0 w0 T st.obj w) hv st.obj av v) : StSim n pn w0 A0 F0 hv T ((Upd.set d av).app st) (a.put (some d) v) w := by
  refine ⟨by simp [Act.put, h.size], h.defers, h.frame, ?_, h.heap, h.own, h.dis, ?_, ?_, ?_, ?_, ?_, h.pbig⟩
  · intro x av' hx hl
    simp only [Upd.app, upd_apply] at hx
    by_cases e : d = x
    · subst e
      rw [if_pos rfl] at hx
      cases hx
      exact ⟨v, by simp [Act.put, h.size, hd], hav hl⟩
    · rw [if_neg e] at hx
      obtain ⟨v', h1, h2⟩ := h.env x av' hx hl
      exact ⟨v', by simp [Act.put, Array.getElem?_setIfInBounds_ne e, h1], h2⟩
  · intro x av' hx
    simp only [Upd.app, upd_apply] at hx
    by_cases e : d = x
    · omega
    · rw [if_neg e] at hx; exact h.slt x av' hx
  · intro x av' hx id hid
    refine addU_true.2 ?_
    simp only [Upd.app, upd_apply] at hx
    by_cases e : d = x
    · rw [if_pos e] at hx; cases hx; exact .inr hid
    · rw [if_neg e] at hx; exact .inl (h.uenv x av' hx id hid)
  · intro id hid; exact addU_true.2 (.inl (h.uobj id hid))
  · intro id v hp; exact ⟨addU_true.2 (.inl (h.pin id v hp).1), (h.pin id v hp).2⟩
  · intro id xs ho j hj; exact addU_true.2 (.inl (h.ubox id xs ho j hj))

theorem opl_off {o : Oper} {g dg d : Nat} {want b : Bool} (hg : o.guard = some (g, want)) (hdst : o.dst = some d) (hn : d < n) (hd : (ops[g]?).bind (·.dst) = some dg) (hb : b = !want) :
    OpL P ops n o [.opd (.tmp dg) (.c (.lit (.bool b)))] [.set d .dead] := by
  intro pn w0 A0 F0 st a w hB hS hs K Q hK
  have h1 : st.env dg = some (.c (.lit (.bool b))) := at0 hs
  obtain ⟨hv, T, hT⟩ := hS
  have : Region.wanted o (yielded ops a.tmps) = false := by
    unfold Region.wanted; rw [hg]; subst hb; simp [yielded_of hT hd h1]
  rw [if_neg (by rw [this]; simp)]
  refine hK _ _ ⟨hv, T, ?_⟩
  rw [hdst]
  exact hT.set hn (fun _ => .dead _)

/-- An operation that yields a value and leaves the world alone. -/
theorem op_value {o : Oper} {d : Nat} {rs : List Req} {av : AV} (hd : o.dst = some d) (hn : d < n)
    (h : ∀ (pn : Nat → Option Value) (w0 : World) (A0 F0 : Blks) (hv : Nat → Value) (T : Nat → Blks) (st : St) (a : Act) (w : World), Base w0 A0 F0 → StSim n pn w0 A0 F0 hv T st a w → (∀ r ∈ rs, r.sat st) →
      ∃ v, (execOp a.eval o).run P w = .ok (.value v) w ∧ (Live st.obj av → AVSim w (Sh A0 F0 w0 T st.obj w) hv st.obj av v)) : OpL0 P n o rs [.set d av] := by
  intro pn w0 A0 F0 st a w hB hS hs K Q hK
  obtain ⟨hv, T, hT⟩ := hS
  obtain ⟨v, h1, h2⟩ := h pn w0 A0 F0 hv T st a w hB hT hs
  unfold Oper.wp
  rw [h1]
  show K (a.put o.dst v) w
  rw [hd]
  exact hK _ _ ⟨hv, T, hT.set hn h2⟩

section
variable {d : Nat} {ty : TypeId} {pos : String} {after : Array Edge} {g : Option (Nat × Bool)}

theorem op_move {x : Operand} {av : AV} (hn : d < n) : OpL0 P n ⟨some d, .move x, ty, pos, after, g⟩ [.opd x av] [.set d av] :=
  op_value rfl hn fun _ _ _ _ _ _ st a _ _ hT hs => by
    have h0 : opIs st x av := at0 hs
    exact ⟨a.eval x, rfl, fun hl => hT.eval h0 hl⟩
theorem op_assign {x : Operand} {av : AV} (hn : d < n) : OpL0 P n ⟨some d, .assign x, ty, pos, after, g⟩ [.opd x av] [.set d av] :=
  op_value rfl hn fun _ _ _ _ _ _ st a _ _ hT hs => by
    have h0 : opIs st x av := at0 hs
    exact ⟨a.eval x, rfl, fun hl => hT.eval h0 hl⟩

abbrev aInt (k : Int) : AV := .c (.lit (.int .i64 k))
abbrev aBool (b : Bool) : AV := .c (.lit (.bool b))

theorem live_c (obj : Nat → Option Obj) (x : Cell) : Live obj (.c x) := fun id hid => by simp [AV.ids] at hid
theorem live_row (obj : Nat → Option Obj) (x : List Cell) : Live obj (.row x) := fun id hid => by simp [AV.ids] at hid
theorem live_pts (obj : Nat → Option Obj) (x : List Cell) : Live obj (.pts x) := fun id hid => by simp [AV.ids] at hid

theorem StSim.lit {pn : Nat → Option Value} {w0 : World} {A0 F0 : Blks} {hv : Nat → Value} {T : Nat → Blks} {st : St} {a : Act} {w : World} (h : StSim n pn w0 A0 F0 hv T st a w) {x : Operand} {v : Value}
    (hx : Req.sat st (.opd x (.c (.lit v)))) : a.eval x = v := by
  have hx' : opIs st x (.c (.lit v)) := hx
  have := h.eval hx' (live_c _ _)
  cases this with
  | c ho => cases ho; rfl

theorem op_pick_true {c x y : Operand} {b : Bool} {av : AV} (hn : d < n) (hb : b = true) : OpL0 P n ⟨some d, .pick c x y, ty, pos, after, g⟩ [.opd c (aBool b), .opd x av] [.set d av] :=
  op_value rfl hn fun _ _ _ _ _ _ st a _ _ hT hs => by
    have h1 : opIs st x av := at1 hs
    have hc := hT.lit (at0 hs)
    refine ⟨a.eval x, ?_, fun hl => hT.eval h1 hl⟩
    simp only [execOp, hc, hb, asBool, Sem.run_bind, Sem.run_pure, Result.andThen_ok, if_true]
theorem op_pick_false {c x y : Operand} {b : Bool} {av : AV} (hn : d < n) (hb : b = false) : OpL0 P n ⟨some d, .pick c x y, ty, pos, after, g⟩ [.opd c (aBool b), .opd y av] [.set d av] :=
  op_value rfl hn fun _ _ _ _ _ _ st a _ _ hT hs => by
    have h1 : opIs st y av := at1 hs
    have hc := hT.lit (at0 hs)
    refine ⟨a.eval y, ?_, fun hl => hT.eval h1 hl⟩
    simp only [execOp, hc, hb, asBool, Sem.run_bind, Sem.run_pure, Result.andThen_ok, Bool.false_eq_true, if_false]

/-- An operation of two literals. -/
theorem op_bin {b : BinOp} {t t' : TypeId} {x y : Operand} {u v r : Value} (hn : d < n)
    (h : ∀ w : World, (do eqGuard b t x y u v; binOp b t u v : Sem Value).run P w = .ok r w) :
    OpL0 P n ⟨some d, .binOp b t x y t', ty, pos, after, g⟩ [.opd x (.c (.lit u)), .opd y (.c (.lit v))] [.set d (.c (.lit r))] :=
  op_value rfl hn fun _ _ _ _ _ _ _ a w _ hT hs => by
    have h1 := hT.lit (at0 hs)
    have h2 := hT.lit (at1 hs)
    refine ⟨r, ?_, fun _ => .c (.lit _)⟩
    simp only [execOp, h1, h2]
    rw [Sem.run_bind, h w]
    rfl

theorem wrap_in {k : Int} (h : -9223372036854775808 ≤ k ∧ k ≤ 9223372036854775807) : IntKind.i64.wrap k = k := by
  unfold IntKind.wrap
  simp only [IntKind.bits, IntKind.signed, Bool.true_and, decide_eq_true_eq, ge_iff_le]
  have : (2:Int) ^ 64 = 18446744073709551616 := by decide
  have h2 : (2:Int) ^ (64 - 1) = 9223372036854775808 := by decide
  rw [this, h2]
  split <;> omega

theorem op_add {t t' : TypeId} {x y : Operand} {i j : Int} (hn : d < n) (h : -9223372036854775808 ≤ i + j ∧ i + j ≤ 9223372036854775807) :
    OpL0 P n ⟨some d, .binOp .add t x y t', ty, pos, after, g⟩ [.opd x (aInt i), .opd y (aInt j)] [.set d (aInt (i + j))] :=
  op_bin hn fun w => by simp [eqGuard_add, binOp_add, Op.intArith, wrap_in h]
theorem op_sub {t t' : TypeId} {x y : Operand} {i j : Int} (hn : d < n) (h : -9223372036854775808 ≤ i - j ∧ i - j ≤ 9223372036854775807) :
    OpL0 P n ⟨some d, .binOp .sub t x y t', ty, pos, after, g⟩ [.opd x (aInt i), .opd y (aInt j)] [.set d (aInt (i - j))] :=
  op_bin hn fun w => by simp [eqGuard_sub, binOp_sub, Op.intArith, wrap_in h]
theorem op_mul {t t' : TypeId} {x y : Operand} {i j : Int} (hn : d < n) (h : -9223372036854775808 ≤ i * j ∧ i * j ≤ 9223372036854775807) :
    OpL0 P n ⟨some d, .binOp .mul t x y t', ty, pos, after, g⟩ [.opd x (aInt i), .opd y (aInt j)] [.set d (aInt (i * j))] :=
  op_bin hn fun w => by simp [eqGuard_mul, binOp_mul, Op.intArith, wrap_in h]
theorem op_lss {t t' : TypeId} {x y : Operand} {i j : Int} (hn : d < n) :
    OpL0 P n ⟨some d, .binOp .lss t x y t', ty, pos, after, g⟩ [.opd x (aInt i), .opd y (aInt j)] [.set d (aBool (decide (i < j)))] :=
  op_bin hn fun w => by simp [eqGuard_lss, binOp_lss]
theorem op_leq {t t' : TypeId} {x y : Operand} {i j : Int} (hn : d < n) :
    OpL0 P n ⟨some d, .binOp .leq t x y t', ty, pos, after, g⟩ [.opd x (aInt i), .opd y (aInt j)] [.set d (aBool (decide (i ≤ j)))] :=
  op_bin hn fun w => by simp [eqGuard_leq, binOp_leq]
theorem op_gtr {t t' : TypeId} {x y : Operand} {i j : Int} (hn : d < n) :
    OpL0 P n ⟨some d, .binOp .gtr t x y t', ty, pos, after, g⟩ [.opd x (aInt i), .opd y (aInt j)] [.set d (aBool (decide (j < i)))] :=
  op_bin hn fun w => by simp [eqGuard_gtr, binOp_gtr]
theorem op_geq {t t' : TypeId} {x y : Operand} {i j : Int} (hn : d < n) :
    OpL0 P n ⟨some d, .binOp .geq t x y t', ty, pos, after, g⟩ [.opd x (aInt i), .opd y (aInt j)] [.set d (aBool (decide (j ≤ i)))] :=
  op_bin hn fun w => by simp [eqGuard_geq, binOp_geq]
theorem beq_dec (i j : Int) : (i == j) = decide (i = j) := by
  by_cases h : i = j
  · simp [h]
  · simp [h]
theorem op_eql {t t' : TypeId} {x y : Operand} {i j : Int} (hn : d < n) :
    OpL0 P n ⟨some d, .binOp .eql t x y t', ty, pos, after, g⟩ [.opd x (aInt i), .opd y (aInt j)] [.set d (aBool (decide (i = j)))] :=
  op_bin hn fun w => by simp [eqGuard_at_int, binOp_eql, beq_dec]
theorem op_neq {t t' : TypeId} {x y : Operand} {i j : Int} (hn : d < n) :
    OpL0 P n ⟨some d, .binOp .neq t x y t', ty, pos, after, g⟩ [.opd x (aInt i), .opd y (aInt j)] [.set d (aBool (!decide (i = j)))] :=
  op_bin hn fun w => by simp [eqGuard_at_int, binOp_neq, bne, beq_dec]
theorem run_eqb {t : TypeId} {p q : Bool} (ht : P.underlying t = some .bool) (w : World) : (Op.equal t (.bool p) (.bool q)).run P w = .ok (p == q) w :=
  run_equalIn_bool' w 9999 t p q ht
theorem op_eqlb {t t' : TypeId} {x y : Operand} {p q : Bool} (ht : P.underlying t = some .bool) (hn : d < n) :
    OpL0 P n ⟨some d, .binOp .eql t x y t', ty, pos, after, g⟩ [.opd x (aBool p), .opd y (aBool q)] [.set d (aBool (p == q))] :=
  op_bin hn fun w => by
    have : binOp .eql t (.bool p) (.bool q) = (do pure (.bool (← Op.equal t (.bool p) (.bool q)))) := rfl
    rw [eqGuard_at_bool, this, Sem.run_bind, Sem.run_pure, Result.andThen_ok, Sem.run_bind, run_eqb ht, Result.andThen_ok, Sem.run_pure]
theorem op_neqb {t t' : TypeId} {x y : Operand} {p q : Bool} (ht : P.underlying t = some .bool) (hn : d < n) :
    OpL0 P n ⟨some d, .binOp .neq t x y t', ty, pos, after, g⟩ [.opd x (aBool p), .opd y (aBool q)] [.set d (aBool (!(p == q)))] :=
  op_bin hn fun w => by
    have : binOp .neq t (.bool p) (.bool q) = (do pure (.bool (!(← Op.equal t (.bool p) (.bool q))))) := rfl
    rw [eqGuard_at_bool, this, Sem.run_bind, Sem.run_pure, Result.andThen_ok, Sem.run_bind, run_eqb ht, Result.andThen_ok, Sem.run_pure]
theorem op_rem {t t' : TypeId} {x y : Operand} {i j : Int} (hn : d < n) (h : j ≠ 0) :
    OpL0 P n ⟨some d, .binOp .rem t x y t', ty, pos, after, g⟩ [.opd x (aInt i), .opd y (aInt j)] [.set d (aInt (i.tmod j))] :=
  op_bin hn fun w => by simp [eqGuard_rem, binOp_rem, Op.intDiv, h]
theorem op_quo {t t' : TypeId} {x y : Operand} {i j : Int} (hn : d < n) (h : j ≠ 0) (h' : -9223372036854775808 ≤ i.tdiv j ∧ i.tdiv j ≤ 9223372036854775807) :
    OpL0 P n ⟨some d, .binOp .quo t x y t', ty, pos, after, g⟩ [.opd x (aInt i), .opd y (aInt j)] [.set d (aInt (i.tdiv j))] :=
  op_bin hn fun w => by simp [eqGuard_quo, binOp_quo, Op.intDiv, h, wrap_in h']

/-- One literal. -/
theorem op_un {b : UnOp} {t : TypeId} {x : Operand} {u r : Value} (hn : d < n) (h : ∀ w : World, (Op.unary b u).run P w = .ok r w) :
    OpL0 P n ⟨some d, .unOp b t x, ty, pos, after, g⟩ [.opd x (.c (.lit u))] [.set d (.c (.lit r))] :=
  op_value rfl hn fun _ _ _ _ _ _ _ a w _ hT hs => by
    have h1 := hT.lit (at0 hs)
    refine ⟨r, ?_, fun _ => .c (.lit _)⟩
    simp only [execOp, h1, Sem.run_bind, h w, Result.andThen_ok, Sem.run_pure]
theorem op_not {t : TypeId} {x : Operand} {p : Bool} (hn : d < n) : OpL0 P n ⟨some d, .unOp .not t x, ty, pos, after, g⟩ [.opd x (aBool p)] [.set d (aBool (!p))] :=
  op_un hn fun _ => rfl
theorem op_neg {t : TypeId} {x : Operand} {i : Int} (hn : d < n) (h : -9223372036854775808 ≤ 0 - i ∧ 0 - i ≤ 9223372036854775807) :
    OpL0 P n ⟨some d, .unOp .neg t x, ty, pos, after, g⟩ [.opd x (aInt i)] [.set d (aInt (0 - i))] :=
  op_un hn fun w => by simp only [Op.unary, Op.intArith, wrap_in h]; rfl

theorem own_slice {w : World} {A F : Blks} {o : Bool} {k : Nat} {rows : List (List Cell)} {v : Value} (h : Own w A F (.sl o k rows) v) : ∃ b c, v = .slice b rows.length c := by
  cases h <;> exact ⟨_, _, rfl⟩

theorem run_len {x : Operand} {t e : TypeId} {b : Option Addr} {m c : Nat} (ht : P.underlying t = some (.slice e)) {a : Act} {w : World} (he : a.eval x = .slice b m c) :
    (execOp a.eval ⟨some d, .call ⟨.builtin .len, #[x], #[t]⟩, ty, pos, after, g⟩).run P w = .ok (.value (.int .i64 m)) w := by
  simp [execOp, resolve, invoke, builtin, Builtin.len_, he, underlying, ht, goInt]

/-- len of a slice that is shared. -/
theorem op_len {x : Operand} {t e : TypeId} {o : Bool} {k : Nat} {rows : List (List Cell)} (ht : P.underlying t = some (.slice e)) (hn : d < n) :
    OpL0 P n ⟨some d, .call ⟨.builtin .len, #[x], #[t]⟩, ty, pos, after, g⟩ [.opd x (.c (.sl o k rows))] [.set d (aInt rows.length)] :=
  op_value rfl hn fun _ _ _ _ _ _ st a w _ hT hs => by
    have h0 : opIs st x (.c (.sl o k rows)) := at0 hs
    have h1 := hT.eval h0 (live_c _ _)
    refine ⟨.int .i64 rows.length, ?_, fun _ => .c (.lit _)⟩
    cases h1 with
    | c ho =>
      obtain ⟨b, c, he⟩ := own_slice ho
      exact run_len ht he
/-- len of a nil slice. -/
theorem op_len_nil {x : Operand} {t e : TypeId} (ht : P.underlying t = some (.slice e)) (hn : d < n) :
    OpL0 P n ⟨some d, .call ⟨.builtin .len, #[x], #[t]⟩, ty, pos, after, g⟩ [.opd x (.c (.lit (.slice none 0 0)))] [.set d (aInt 0)] :=
  op_value rfl hn fun _ _ _ _ _ _ st a w _ hT hs => ⟨.int .i64 0, run_len ht (hT.lit (at0 hs)), fun _ => .c (.lit _)⟩

/-- Through memory to what lies at a path. -/
theorem Own.path {w : World} {A F : Blks} {c : Cell} {v : Value} (h : Own w A F c v) : ∀ {p : Path} {c' : Cell} {v' : Value}, c.get p = some c' → Hdr w c v p v' →
    ∃ F', (∀ b, F' b → F b) ∧ Own w A F' c' v' := by
  induction h with
  | @lit F v =>
    intro p c' v' hg hh
    cases p with
    | nil => cases hg; cases hh; exact ⟨F, fun _ h => h, .lit v⟩
    | cons => cases hg
  | @nil F o k =>
    intro p c' v' hg hh
    cases p with
    | nil => cases hg; cases hh; exact ⟨F, fun _ h => h, .nil o k⟩
    | cons ij p => obtain ⟨i, j⟩ := ij; simp [Cell.get] at hg
  | @emp F k a =>
    intro p c' v' hg hh
    cases p with
    | nil => cases hg; cases hh; exact ⟨F, fun _ h => h, .emp k a⟩
    | cons ij p => obtain ⟨i, j⟩ := ij; simp [Cell.get] at hg
  | @shr F k rows b off cap c e fr hb hA hk hs hcap hsub ih =>
    intro p c' v' hg hh
    cases p with
    | nil => cases hg; cases hh; exact ⟨F, fun _ h => h, .shr hb hA hk hs hcap hsub⟩
    | cons ij p =>
      obtain ⟨i, j⟩ := ij
      simp only [Hdr] at hh
      obtain ⟨b', off', n', cap', cs, e', fr', u, x, hv, hb', hu, hx, hj, hrest⟩ := hh
      cases hv
      have hcs : cs = c := by rw [hb] at hb'; cases hb'; rfl
      subst hcs
      simp only [Cell.get, hx, Option.bind_some] at hg
      have hflat : rows.flatten[i * k + j]? = some x := by rw [List.flatten_getElem?_of_const hk i j hj]; exact hx
      obtain ⟨F', hF', ho⟩ := ih _ x u hflat hu hg hrest
      exact ⟨F', fun b hb => (hF' b hb).elim, ho⟩
  | @arr F k rows b cap c e G hb hk hs hcap hF hG hGb hd hsub ih =>
    intro p c' v' hg hh
    cases p with
    | nil => cases hg; cases hh; exact ⟨F, fun _ h => h, .arr hb hk hs hcap hF hG hGb hd hsub⟩
    | cons ij p =>
      obtain ⟨i, j⟩ := ij
      simp only [Hdr] at hh
      obtain ⟨b', off', n', cap', cs, e', fr', u, x, hv, hb', hu, hx, hj, hrest⟩ := hh
      cases hv
      have hcs : cs = c := by rw [hb] at hb'; cases hb'; rfl
      subst hcs
      simp only [Cell.get, hx, Option.bind_some] at hg
      have hflat : rows.flatten[i * k + j]? = some x := by rw [List.flatten_getElem?_of_const hk i j hj]; exact hx
      obtain ⟨F', hF', ho⟩ := ih _ x u hflat (by simpa using hu) hg hrest
      exact ⟨F', fun b hb => hG _ b (hF' b hb), ho⟩
  | @bx F row b c e G hb hs hF hG hGb hd hsub ih =>
    intro p c' v' hg hh
    cases p with
    | nil => cases hg; cases hh; exact ⟨F, fun _ h => h, .bx hb hs hF hG hGb hd hsub⟩
    | cons => cases hg

theorem getD_cell {st : St} {id k : Nat} {rows : List (List Cell)} {p : Path} (ho : st.obj id = some (.arr k rows)) : st.cell id p = (Cell.sl true k rows).get p := by
  simp [St.cell, ho, Obj.root]

/-- len of an owned slice. -/
theorem op_len_ref {x : Operand} {t e : TypeId} {id k k' : Nat} {p : Path} {o : Bool} {rows rows' : List (List Cell)} (ht : P.underlying t = some (.slice e)) (hn : d < n)
    (hg : (Cell.sl true k rows).get p = some (.sl o k' rows')) :
    OpL0 P n ⟨some d, .call ⟨.builtin .len, #[x], #[t]⟩, ty, pos, after, g⟩ [.opd x (.ref id p), .obj id (.arr k rows)] [.set d (aInt rows'.length)] :=
  op_value rfl hn fun _ _ _ _ _ _ st a w _ hT hs => by
    have h0 : opIs st x (.ref id p) := at0 hs
    have ho : st.obj id = some (.arr k rows) := at1 hs
    have h1 := hT.eval h0 (fun i hi => by simp [AV.ids] at hi; subst hi; simp [ho])
    refine ⟨.int .i64 rows'.length, ?_, fun _ => .c (.lit _)⟩
    generalize hv : a.eval x = v at h1
    cases h1 with
    | ref ho' hg' hh =>
      rw [ho] at ho'; cases ho'
      obtain ⟨F', _, hown⟩ := Own.path (hT.heap id _ ho) hg hh
      obtain ⟨b, c, he⟩ := own_slice hown
      exact run_len ht (hv.trans he)
end
end
end Go.Am
