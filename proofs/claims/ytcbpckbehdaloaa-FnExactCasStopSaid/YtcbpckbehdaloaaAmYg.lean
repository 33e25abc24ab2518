/- Parts of slices; structs compared; shifts. Own work; generic. -/
import Derived.Test.YtcbpckbehdaloaaAmYf
import Derived.Laws.StructEq
set_option linter.unusedSimpArgs false
set_option linter.unusedVariables false
namespace Go.Am
open Go

section
variable {P : Program} {n : Nat}
variable {d : Nat} {ty : TypeId} {pos : String} {after : Array Edge} {g : Option (Nat × Bool)} {t e : TypeId} {x y z : Operand} {k : Nat}

theorem run_bound {v : Int} {m : Nat} {code : BoundsCode} {w : World} (h0 : 0 ≤ v) (h : v ≤ m) : (Instr.sliceBound (.int .i64 v) m code).run P w = .ok v.toNat w := by
  have : 0 ≤ v ∧ v ≤ (m : Int) := ⟨h0, h⟩
  simp [Instr.sliceBound, asIntOf, this]

/-- The rows of a part. -/
theorem part_flat {rows : List (List Cell)} (hk : ∀ r ∈ rows, r.length = k) {lo hi i : Nat} {c : Cell} (h : ((rows.take hi).drop lo).flatten[i]? = some c) : rows.flatten[lo * k + i]? = some c := by
  have hk2 : ∀ r ∈ (rows.take hi).drop lo, r.length = k := fun r hr => hk r (List.mem_of_mem_take (List.mem_of_mem_drop hr))
  have hlt := (List.getElem?_eq_some_iff.1 h).1
  rw [flatten_length_const hk2] at hlt
  have hkp : 0 < k := by rcases Nat.eq_zero_or_pos k with h | h; (subst h; simp at hlt); exact h
  have hmod : i % k < k := Nat.mod_lt _ hkp
  have hdm : i = i / k * k + i % k := by rw [Nat.mul_comm]; exact (Nat.div_add_mod i k).symm
  rw [hdm, List.flatten_getElem?_of_const hk2 _ _ hmod, List.getElem?_drop] at h
  have e2 : lo * k + i = (lo + i / k) * k + i % k := by rw [Nat.add_mul]; omega
  rw [e2, List.flatten_getElem?_of_const hk _ _ hmod]
  cases hr : (rows.take hi)[lo + i / k]? with
  | none => rw [hr] at h; cases h
  | some r =>
    rw [hr] at h
    have : rows[lo + i / k]? = some r := by
      rw [List.getElem?_take] at hr; split at hr
      · exact hr
      · cases hr
    rw [this]; exact h

theorem own_part {w : World} {A F : Blks} {rows : List (List Cell)} {v : Value} (h : Own w A F (.sl false k rows) v) {lo hi : Nat} (h1 : lo ≤ hi) (h2 : hi ≤ rows.length) :
    ∃ a len cap, v = .slice a len cap ∧ len = rows.length ∧ rows.length ≤ cap ∧ Own w A F (.sl false k ((rows.take hi).drop lo)) (.slice (if cap = lo then a else a.map (·.add (lo * k))) (hi - lo) (cap - lo)) := by
  cases h with
  | nil => 
    simp at h2; subst h2
    obtain rfl : lo = 0 := by omega
    exact ⟨none, 0, 0, rfl, rfl, by simp, by simpa using Own.nil false k⟩
  | emp _ a =>
    simp at h2; subst h2
    obtain rfl : lo = 0 := by omega
    exact ⟨some a, 0, 0, rfl, rfl, by simp, by simpa using Own.emp k a⟩
  | @shr _ _ _ b off cap c e fr hb hA hk hs hcap hh =>
    refine ⟨_, _, _, rfl, rfl, hcap, ?_⟩
    have hl : ((rows.take hi).drop lo).length = hi - lo := by simp; omega
    by_cases hc : cap = lo
    · rw [if_pos hc]
      have e1 : hi - lo = 0 := by omega
      have e2 : (rows.take hi).drop lo = [] := List.length_eq_zero_iff.1 (by omega)
      rw [e1, e2, show cap - lo = 0 by omega]
      exact .emp k _
    · rw [if_neg hc]
      have ha : (Option.map (fun x : Addr => x.add (lo * k)) (some (⟨b, off, none⟩ : Addr))) = some ⟨b, off + lo * k, none⟩ := by
        simp only [Option.map_some, Option.some.injEq, Addr.add]
        split
        · rename_i h; simp [h]
        · rfl
      rw [ha, ← hl]
      have hm : lo * k + ((rows.take hi).drop lo).length * k ≤ rows.length * k := by rw [hl, ← Nat.add_mul]; exact Nat.mul_le_mul_right _ (by omega)
      refine .shr hb hA (fun r hr => hk r (List.mem_of_mem_take (List.mem_of_mem_drop hr))) (by omega) (by omega) fun i x v g1 g2 => ?_
      exact hh (lo * k + i) x v (part_flat hk g1) (by rw [← Nat.add_assoc]; exact g2)

/-- What a bound is. -/
def bndIs (st : St) : Option Operand → Int → Int → Prop
  | none, dflt, v => v = dflt
  | some x, _, v => opIs st x (aInt v)

theorem run_slice {rows : List (List Cell)} {a0 : Option Addr} {cap : Nat} {lo hi : Option Value} {l h : Int} {w : World} (hu : P.underlying t = some (.slice e)) (hz : ∀ w, (Go.sizeOf e).run P w = .ok k w)
    (hlo : lo = some (.int .i64 l) ∨ (lo = none ∧ l = 0)) (hhi : hi = some (.int .i64 h) ∨ (hi = none ∧ h = rows.length)) (hb : 0 ≤ l ∧ l ≤ h ∧ h ≤ rows.length) (hc : rows.length ≤ cap) :
    (Instr.slice t (.slice a0 rows.length cap) lo hi none).run P w = .ok (.slice (if cap = l.toNat then a0 else a0.map (·.add (l.toNat * k))) (h.toNat - l.toNat) (cap - l.toNat)) w := by
  have e1 : ∀ code, (Instr.sliceBound (.int .i64 h) cap code).run P w = .ok h.toNat w := fun code => run_bound (by omega) (by omega)
  have e2 : ∀ code, (Instr.sliceBound (.int .i64 l) h.toNat code).run P w = .ok l.toNat w := fun code => run_bound (by omega) (by omega)
  rcases hlo with rfl | ⟨rfl, rfl⟩ <;> rcases hhi with rfl | ⟨rfl, hh⟩
  · simp [Instr.slice, Instr.sliceBounds, run_underlying hu, e1, e2, hz w]
  · subst hh
    have e2' : ∀ code, (Instr.sliceBound (.int .i64 l) rows.length code).run P w = .ok l.toNat w := fun code => run_bound (by omega) (by omega)
    simp [Instr.slice, Instr.sliceBounds, run_underlying hu, e2', hz w]
  · simp [Instr.slice, Instr.sliceBounds, run_underlying hu, e1, hz w]
  · subst hh; simp [Instr.slice, Instr.sliceBounds, run_underlying hu, hz w]

theorem op_sliceG {rows : List (List Cell)} {lo hi : Operand} {l h : Int} (hu : P.underlying t = some (.slice e)) (hz : ∀ w, (Go.sizeOf e).run P w = .ok k w) (hb : 0 ≤ l ∧ l ≤ h ∧ h ≤ rows.length) (hn : d < n) :
    OpL0 P n ⟨some d, .slice t x (some lo) (some hi) none, ty, pos, after, g⟩ [.opd x (.c (.sl false k rows)), .opd lo (aInt l), .opd hi (aInt h)] [.set d (.c (.sl false k ((rows.take h.toNat).drop l.toNat)))] :=
  op_value rfl hn fun _ _ _ _ _ _ st a w _ hT hs => by
    have h0 := hT.eval (at0 hs) (live_c _ _)
    have h1 := hT.lit (at1 hs)
    have h2 := hT.lit (at2 hs)
    cases h0 with | c h0 =>
    obtain ⟨a0, len, cap, he, rfl, hc, ho⟩ := own_part h0 (lo := l.toNat) (hi := h.toNat) (by omega) (by omega)
    refine ⟨_, ?_, fun _ => .c ho⟩
    have := run_slice (P := P) (t := t) (rows := rows) (a0 := a0) (cap := cap) (w := w) hu hz (.inl rfl) (.inl rfl) hb hc
    simp [execOp, he, h1, h2, this, Instr.sliceAt, run_underlying hu]
theorem op_sliceG_hi {rows : List (List Cell)} {hi : Operand} {h : Int} (hu : P.underlying t = some (.slice e)) (hz : ∀ w, (Go.sizeOf e).run P w = .ok k w) (hb : 0 ≤ h ∧ h ≤ rows.length) (hn : d < n) :
    OpL0 P n ⟨some d, .slice t x none (some hi) none, ty, pos, after, g⟩ [.opd x (.c (.sl false k rows)), .opd hi (aInt h)] [.set d (.c (.sl false k (rows.take h.toNat)))] :=
  op_value rfl hn fun _ _ _ _ _ _ st a w _ hT hs => by
    have h0 := hT.eval (at0 hs) (live_c _ _)
    have h2 := hT.lit (at1 hs)
    cases h0 with | c h0 =>
    obtain ⟨a0, len, cap, he, rfl, hc, ho⟩ := own_part h0 (lo := 0) (hi := h.toNat) (by omega) (by omega)
    refine ⟨_, ?_, fun _ => .c (by simpa using ho)⟩
    have := run_slice (P := P) (t := t) (rows := rows) (a0 := a0) (cap := cap) (w := w) (l := 0) hu hz (.inr ⟨rfl, rfl⟩) (.inl rfl) ⟨by omega, hb⟩ hc
    simp [execOp, he, h2, this, Instr.sliceAt, run_underlying hu]
theorem op_sliceG_lo {rows : List (List Cell)} {lo : Operand} {l : Int} (hu : P.underlying t = some (.slice e)) (hz : ∀ w, (Go.sizeOf e).run P w = .ok k w) (hb : 0 ≤ l ∧ l ≤ rows.length) (hn : d < n) :
    OpL0 P n ⟨some d, .slice t x (some lo) none none, ty, pos, after, g⟩ [.opd x (.c (.sl false k rows)), .opd lo (aInt l)] [.set d (.c (.sl false k (rows.drop l.toNat)))] :=
  op_value rfl hn fun _ _ _ _ _ _ st a w _ hT hs => by
    have h0 := hT.eval (at0 hs) (live_c _ _)
    have h1 := hT.lit (at1 hs)
    cases h0 with | c h0 =>
    obtain ⟨a0, len, cap, he, rfl, hc, ho⟩ := own_part h0 (lo := l.toNat) (hi := rows.length) (by omega) (Nat.le_refl _)
    refine ⟨_, ?_, fun _ => .c (by simpa using ho)⟩
    have := run_slice (P := P) (t := t) (rows := rows) (a0 := a0) (cap := cap) (w := w) (h := rows.length) hu hz (.inl rfl) (.inr ⟨rfl, rfl⟩) ⟨hb.1, by omega, by omega⟩ hc
    simp [execOp, he, h1, this, Instr.sliceAt, run_underlying hu]

/-- Shifts to the right, and bits. -/
theorem op_shr {t' : TypeId} {i j : Int} (hn : d < n) (h : 0 ≤ j ∧ j ≤ 63) :
    OpL0 P n ⟨some d, .binOp .shr t x y t', ty, pos, after, g⟩ [.opd x (aInt i), .opd y (aInt j)] [.set d (aInt (i.fdiv (2 ^ j.toNat)))] :=
  op_bin hn fun w => by
    have h1 : ¬ j < 0 := by omega
    have h2 : min j.toNat 64 = j.toNat := by omega
    have : binOp .shr t (.int .i64 i) (.int .i64 j) = Op.shift .shr .i64 i .i64 j := rfl
    have hg : eqGuard .shr t x y (.int .i64 i) (.int .i64 j) = pure () := rfl
    rw [hg, this]
    simp [Op.shift, h1, IntKind.bits, h2]
theorem op_and {t' : TypeId} {i j : Int} (hn : d < n) :
    OpL0 P n ⟨some d, .binOp .and t x y t', ty, pos, after, g⟩ [.opd x (aInt i), .opd y (aInt j)] [.set d (aInt (IntKind.i64.wrap (BitVec.ofInt 64 i &&& BitVec.ofInt 64 j).toNat))] :=
  op_bin hn fun w => by
    have : binOp .and t (.int .i64 i) (.int .i64 j) = Op.intBits .and .i64 i j := rfl
    have hg : eqGuard .and t x y (.int .i64 i) (.int .i64 j) = pure () := rfl
    rw [hg, this]; rfl
theorem op_xor {t' : TypeId} {i j : Int} (hn : d < n) :
    OpL0 P n ⟨some d, .binOp .xor t x y t', ty, pos, after, g⟩ [.opd x (aInt i), .opd y (aInt j)] [.set d (aInt (IntKind.i64.wrap (BitVec.ofInt 64 i ^^^ BitVec.ofInt 64 j).toNat))] :=
  op_bin hn fun w => by
    have : binOp .xor t (.int .i64 i) (.int .i64 j) = Op.intBits .xor .i64 i j := rfl
    have hg : eqGuard .xor t x y (.int .i64 i) (.int .i64 j) = pure () := rfl
    rw [hg, this]; rfl

/-! ### Structs of ints, compared -/
def flatF (P : Program) (ti : TypeId) : List Field → Nat → Bool
  | [], _ => true
  | f :: fs, off => Nat.beq f.type ti && (Nat.beq f.offset off && (!(f.name == "_") && flatF P ti fs (off + 1)))
theorem run_eqF {ti : TypeId} {w : World} {dp : Nat} (ht : P.underlying ti = some (.int .i64)) (ha : ∀ w, (isAgg ti).run P w = .ok false w) : ∀ (fs : List Field) (off : Nat) (us vs : List Int), flatF P ti fs off = true → us.length = off + fs.length → vs.length = off + fs.length →
    (Op.eqFields (dp + 1) (us.map fun i => Value.int .i64 i).toArray (vs.map fun i => Value.int .i64 i).toArray fs).run P w = .ok (decide (us.drop off = vs.drop off)) w
  | [], off, us, vs, _, h1, h2 => by
    rw [List.drop_eq_nil_of_le (by simp at h1; omega), List.drop_eq_nil_of_le (by simp at h2; omega)]; simp [Op.eqFields]
  | f :: fs, off, us, vs, hf, h1, h2 => by
    simp only [flatF, Bool.and_eq_true, Bool.not_eq_true'] at hf
    obtain ⟨g1, g2, g3, g4⟩ := hf
    have e1 := Nat.eq_of_beq_eq_true g1
    have e2 := Nat.eq_of_beq_eq_true g2
    have hn : f.name ≠ "_" := by simpa using g3
    have l1 : off < us.length := by simp at h1; omega
    have l2 : off < vs.length := by simp at h2; omega
    have p1 : ∀ (l : List Int) (h : off < l.length) (w : World), (part f.type (l.map fun i => Value.int .i64 i).toArray f.offset).run P w = .ok (.int .i64 l[off]) w := by
      intro l h w
      rw [e1, e2]
      simp [part, ha, h]
    have ih := run_eqF (w := w) (dp := dp) ht ha fs (off + 1) us vs g4 (by simp at h1; omega) (by simp at h2; omega)
    have p2 : (Op.equalIn (dp + 1) f.type (.int .i64 us[off]) (.int .i64 vs[off])).run P w = .ok (us[off] == vs[off]) w := by rw [e1]; exact run_equalIn_int w dp ti .i64 .i64 _ _ ht
    simp only [Op.eqFields, hn, ne_eq, not_false_eq_true, if_true, Sem.run_bind, p1 us l1, p1 vs l2, Result.andThen_ok, p2]
    rw [List.drop_eq_getElem_cons l1, List.drop_eq_getElem_cons l2]
    by_cases e : us[off] = vs[off]
    · simp only [e, BEq.rfl, Bool.not_true, Bool.false_eq_true, if_false, ih, List.cons.injEq, true_and]
    · have : (us[off] == vs[off]) = false := by simp [e]
      simp only [this, Bool.not_false, if_true, Sem.run_pure, List.cons.injEq, e, false_and, decide_false]

inductive RowI : List Cell → List Int → Prop
  | nil : RowI [] []
  | cons {i : Int} {cs : List Cell} {l : List Int} (t : RowI cs l) : RowI (.lit (.int .i64 i) :: cs) (i :: l)
inductive AggI : List AV → List Int → Prop
  | nil : AggI [] []
  | cons {i : Int} {cs : List AV} {l : List Int} (t : AggI cs l) : AggI (aInt i :: cs) (i :: l)
inductive IntsOf : AV → List Int → Prop
  | row {cs : List Cell} {l : List Int} (h : RowI cs l) : IntsOf (.row cs) l
  | agg {cs : List AV} {l : List Int} (h : AggI cs l) : IntsOf (.agg cs) l
theorem RowI.eq {cs : List Cell} {l : List Int} (h : RowI cs l) : cs = l.map fun i => .lit (.int .i64 i) := by induction h <;> simp [*]
theorem AggI.eq {cs : List AV} {l : List Int} (h : AggI cs l) : cs = l.map fun i => aInt i := by induction h <;> simp [*]

theorem intsOf_val {pn : Nat → Option Value} {w0 w : World} {A0 F0 : Blks} {hv : Nat → Value} {T : Nat → Blks} {st : St} {a : Act} (hT : StSim n pn w0 A0 F0 hv T st a w) {x : Operand} {av : AV} {l : List Int} (h : IntsOf av l) (hx : opIs st x av) :
    a.eval x = .agg (l.map fun i => Value.int .i64 i).toArray := by
  have hl : Live st.obj av := by
    cases h with
    | row h => exact live_row _ _
    | agg h =>
      rw [h.eq]
      intro id hid
      exfalso
      have : ∀ l : List Int, idsL (l.map fun i => aInt i) = [] := fun l => by induction l with | nil => rfl | cons i l ih => simp [idsL, AV.ids, ih]
      simp [AV.ids, this] at hid
  have h0 := hT.eval hx hl
  generalize hv : a.eval x = v at h0
  have fin : ∀ (vs : Array Value), vs.size = l.length → (∀ i (h : i < l.length), vs[i]? = some (.int .i64 l[i])) → Value.agg vs = .agg (l.map fun i => Value.int .i64 i).toArray := by
    intro vs h1 h2
    congr 1
    refine Array.ext (by simpa using h1) fun i hi hi2 => ?_
    have := h2 i (by omega)
    rw [Array.getElem?_eq_getElem hi] at this
    simpa using Option.some.inj this
  cases h with
  | row h =>
    cases h0 with
    | @row _ vs hs hh =>
      have e := h.eq
      refine fin vs (by rw [hs, e]; simp) fun i hi => ?_
      have hi2 : i < vs.size := by rw [hs, e]; simpa using hi
      have := hh i (.lit (.int .i64 l[i])) vs[i] (by rw [e]; simp [hi]) (by simp [hi2])
      rw [Array.getElem?_eq_getElem hi2]
      generalize vs[i] = u at this
      cases this; rfl
  | agg h =>
    cases h0 with
    | @agg _ vs hs hh =>
      have e := h.eq
      refine fin vs (by rw [hs, e]; simp) fun i hi => ?_
      have hi2 : i < vs.size := by rw [hs, e]; simpa using hi
      have := hh i (aInt l[i]) vs[i] (by rw [e]; simp [hi]) (by simp [hi2])
      rw [Array.getElem?_eq_getElem hi2]
      generalize vs[i] = u at this
      cases this with
      | c ho => cases ho; rfl

theorem op_eql_flat {t' ti : TypeId} {ax ay : AV} {us vs : List Int} (hu : P.underlying t = some (.struct (P.fieldsOf t))) (hp : P.stoodInHeld t = false) (hm : P.eqGuardType P.depth t = false)
    (ht : P.underlying ti = some (.int .i64)) (ha : ∀ w, (isAgg ti).run P w = .ok false w) (hf : flatF P ti (P.fieldsOf t).toList 0 = true) (h1 : IntsOf ax us) (h2 : IntsOf ay vs)
    (l1 : Nat.beq us.length (P.fieldsOf t).toList.length = true) (l2 : Nat.beq vs.length (P.fieldsOf t).toList.length = true) (hn : d < n) :
    OpL0 P n ⟨some d, .binOp .eql t x y t', ty, pos, after, g⟩ [.opd x ax, .opd y ay] [.set d (aBool (decide (us = vs)))] :=
  op_value rfl hn fun _ _ _ _ _ _ st a w _ hT hs => by
    have e1 := intsOf_val hT h1 (at0 hs)
    have e2 := intsOf_val hT h2 (at1 hs)
    refine ⟨.bool (decide (us = vs)), ?_, fun _ => .c (.lit _)⟩
    have r := run_eqF (w := w) (dp := 9998) ht ha (P.fieldsOf t).toList 0 us vs hf (by have := Nat.eq_of_beq_eq_true l1; omega) (by have := Nat.eq_of_beq_eq_true l2; omega)
    simp only [List.drop_zero] at r
    have r2 := run_equalIn_agg w 9999 t (us.map fun i => Value.int .i64 i).toArray (vs.map fun i => Value.int .i64 i).toArray hu hp
    rw [show (9999 + 1 : Nat) = 10000 from rfl] at r2
    simp only [execOp, e1, e2, Sem.run_bind, run_eqGuard_agg w _ _ _ _ _ _ hm, Result.andThen_ok, run_eql_struct, r2, r, Sem.run_pure]
theorem op_neq_flat {t' ti : TypeId} {ax ay : AV} {us vs : List Int} (hu : P.underlying t = some (.struct (P.fieldsOf t))) (hp : P.stoodInHeld t = false) (hm : P.eqGuardType P.depth t = false)
    (ht : P.underlying ti = some (.int .i64)) (ha : ∀ w, (isAgg ti).run P w = .ok false w) (hf : flatF P ti (P.fieldsOf t).toList 0 = true) (h1 : IntsOf ax us) (h2 : IntsOf ay vs)
    (l1 : Nat.beq us.length (P.fieldsOf t).toList.length = true) (l2 : Nat.beq vs.length (P.fieldsOf t).toList.length = true) (hn : d < n) :
    OpL0 P n ⟨some d, .binOp .neq t x y t', ty, pos, after, g⟩ [.opd x ax, .opd y ay] [.set d (aBool (!decide (us = vs)))] :=
  op_value rfl hn fun _ _ _ _ _ _ st a w _ hT hs => by
    have e1 := intsOf_val hT h1 (at0 hs)
    have e2 := intsOf_val hT h2 (at1 hs)
    refine ⟨.bool (!decide (us = vs)), ?_, fun _ => .c (.lit _)⟩
    have r := run_eqF (w := w) (dp := 9998) ht ha (P.fieldsOf t).toList 0 us vs hf (by have := Nat.eq_of_beq_eq_true l1; omega) (by have := Nat.eq_of_beq_eq_true l2; omega)
    simp only [List.drop_zero] at r
    have r2 := run_equalIn_agg w 9999 t (us.map fun i => Value.int .i64 i).toArray (vs.map fun i => Value.int .i64 i).toArray hu hp
    rw [show (9999 + 1 : Nat) = 10000 from rfl] at r2
    simp only [execOp, e1, e2, Sem.run_bind, run_eqGuard_agg w _ _ _ _ _ _ hm, Result.andThen_ok, run_neq_struct, r2, r, Sem.run_pure]
end
end Go.Am
