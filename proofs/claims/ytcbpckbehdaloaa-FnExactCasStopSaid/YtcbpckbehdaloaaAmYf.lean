/- Operations, as the printed walks use them: what may go wrong stands in the mirror. Own work; generic. -/
import Derived.Test.YtcbpckbehdaloaaAmYe
set_option linter.unusedSimpArgs false
set_option linter.unusedVariables false
namespace Go.Am
open Go

/-! ### The mirrors' words -/
def gd (p : Prop) [Decidable p] {α : Type} (x : Option α) : Option α := if p then x else none
theorem gd_some {p : Prop} [Decidable p] {α : Type} {x : Option α} {r : α} (h : gd p x = some r) : p ∧ x = some r := by
  unfold gd at h; split at h
  · exact ⟨‹p›, h⟩
  · cases h
theorem gd_pos {p : Prop} [Decidable p] {α : Type} {x : Option α} (h : p) : gd p x = x := by unfold gd; rw [if_pos h]
abbrev ok64 (v : Int) : Prop := -9223372036854775808 ≤ v ∧ v ≤ 9223372036854775807
def getI {α : Type} (l : List α) (i : Int) : Option α := if 0 ≤ i then l[i.toNat]? else none
theorem getI_some {α : Type} {l : List α} {i : Int} {x : α} (h : getI l i = some x) : 0 ≤ i ∧ i.toNat < l.length ∧ l[i.toNat]? = some x := by
  unfold getI at h; split at h
  · exact ⟨‹_›, (List.getElem?_eq_some_iff.1 h).1, h⟩
  · cases h
theorem getI_nat {α : Type} (l : List α) (i : Nat) : getI l (i : Int) = l[i]? := by
  unfold getI; rw [if_pos (Int.natCast_nonneg i), Int.toNat_natCast]
theorem bnd {α β : Type} {x : Option α} {f : α → Option β} {r : β} (h : x.bind f = some r) : ∃ a, x = some a ∧ f a = some r := Option.bind_eq_some_iff.1 h
theorem ite_t {c : Prop} [Decidable c] {α : Type} {a b : Option α} {r : α} (h : (if c then a else b) = some r) (hc : c) : a = some r := by rwa [if_pos hc] at h
theorem ite_f {e : Bool} {α : Type} {a b : Option α} {r : α} (h : (if e = true then a else b) = some r) (hc : e = false) : b = some r := by rwa [if_neg (by rw [hc]; decide)] at h
def FUEL : Nat := 4611686018427387904
def setI {α : Type} (l : List α) (i : Int) (x : α) : List α := l.set i.toNat x
def SMALL : Nat := 1000000000

section
variable {α : Type} {f : α → List Cell} {l m : List α} {x : α} {i : Nat}
theorem mapG (h : l[i]? = some x) : (l.map f)[i]? = some (f x) := by simp [h]
theorem getP1 {k : Nat} {o : Bool} {rows : List (List Cell)} {i j : Nat} {row : List Cell} {c : Cell} (h : rows[i]? = some row) (hc : row[j]? = some c) : (Cell.sl o k rows).get [(i, j)] = some c := by
  simp only [Cell.get, h, Option.bind_some, hc]
theorem setG {j : Nat} {cs : List Cell} {x' : α} (h : spl (f x) j cs = f x') : (l.map f).set i (spl (f x) j cs) = (l.set i x').map f := by rw [h, List.map_set]
theorem appG : l.map f ++ m.map f = (l ++ m).map f := List.map_append.symm
theorem repG {n : Nat} {z : α} : List.replicate n (f z) = (List.replicate n z).map f := List.map_replicate.symm
end
theorem okAll {rows : List (List Cell)} (h : ∀ r ∈ rows, ∀ c ∈ r, c.ok = true) : (rows.all fun r => r.all Cell.ok) = true :=
  List.all_eq_true.2 fun r hr => List.all_eq_true.2 fun c hc => h r hr c hc

section
variable {P : Program} {n : Nat}

/-- A state looked at in another way, within a region. -/
theorem rg_split {ops : Array Oper} {Q : Exit → St → Prop} {md : Bool} {i : Nat} {st : St} {acc : List Item} {rest : List Oper} {b : Bool} (ht : b = true → RG P ops n Q md i st acc rest) (hf : b = false → RG P ops n Q md i st acc rest) :
    RG P ops n Q md i st acc rest := by cases b; exact hf rfl; exact ht rfl

section
variable {ops : Array Oper} {md : Bool} {i : Nat} {acc : List Item} {o : Oper} {rest : List Oper} {rs : List Req} {us : List Upd} {Q : Exit → St → Prop} {st : St}
/-- A guarded operation that runs. -/
theorem st1on {g dg : Nat} {want b : Bool} (hg : o.guard = some (g, want)) (hd : (ops[g]?).bind (·.dst) = some dg) (hs0 : st.env dg = some (aBool b)) (hb : b = want) (h : OpL0 P n o rs us) (hs : ∀ r ∈ rs, r.sat st)
    (k : RG P ops n Q md (i + 1) (apps us st) (bif md then ⟨i, .opd (.tmp dg) (aBool b) :: rs, us⟩ :: acc else []) rest) : RG P ops n Q md i st acc (o :: rest) :=
  rg_step (opl_on hg hd hb h) (sats_cons hs0 hs) k
/-- One that does not. -/
theorem opl_offU {g dg d : Nat} {want : Bool} {v : Value} (hg : o.guard = some (g, want)) (hdst : o.dst = some d) (hn : d < n) (hd : (ops[g]?).bind (·.dst) = some dg) (hb : v = .bool (!want) ∨ v = undef) :
    OpL P ops n o [.opd (.tmp dg) (.c (.lit v))] [.set d (.c (.lit undef))] := by
  intro pn w0 A0 F0 st a w hB hS hs K Q hK
  have h1 : st.env dg = some (.c (.lit v)) := at0 hs
  obtain ⟨hv, T, hT⟩ := hS
  have : Region.wanted o (yielded ops a.tmps) = false := by
    unfold Region.wanted; rw [hg]
    rcases hb with rfl | rfl
    · simp [yielded_of hT hd h1]
    · obtain ⟨u, g1, g2⟩ := hT.env dg _ h1 (fun id hid => by simp [AV.ids] at hid)
      have hu : u = undef := by cases g2 with | c ho => cases ho; rfl
      have : yielded ops a.tmps g = none := by unfold yielded; rw [hd, Option.bind_some, g1, hu]; rfl
      simp [this]
  rw [if_neg (by rw [this]; simp)]
  refine hK _ _ ⟨hv, T, ?_⟩
  rw [hdst]
  exact hT.set hn (fun _ => .c (.lit _))
theorem st1off {g dg d : Nat} {want b : Bool} (hg : o.guard = some (g, want)) (hdst : o.dst = some d) (hn : d < n) (hd : (ops[g]?).bind (·.dst) = some dg) (hs0 : st.env dg = some (aBool b)) (hb : b = !want)
    (k : RG P ops n Q md (i + 1) (apps [.set d (.c (.lit undef))] st) (bif md then ⟨i, [.opd (.tmp dg) (aBool b)], [.set d (.c (.lit undef))]⟩ :: acc else []) rest) : RG P ops n Q md i st acc (o :: rest) :=
  rg_step (opl_offU hg hdst hn hd (.inl (by rw [hb]))) (sats_cons hs0 sats_nil) k
theorem st1und {g dg d : Nat} {want : Bool} (hg : o.guard = some (g, want)) (hdst : o.dst = some d) (hn : d < n) (hd : (ops[g]?).bind (·.dst) = some dg) (hs0 : st.env dg = some (.c (.lit undef)))
    (k : RG P ops n Q md (i + 1) (apps [.set d (.c (.lit undef))] st) (bif md then ⟨i, [.opd (.tmp dg) (.c (.lit undef))], [.set d (.c (.lit undef))]⟩ :: acc else []) rest) : RG P ops n Q md i st acc (o :: rest) :=
  rg_step (opl_offU hg hdst hn hd (.inr rfl)) (sats_cons hs0 sats_nil) k
end

section
variable {d : Nat} {ty : TypeId} {pos : String} {after : Array Edge} {g : Option (Nat × Bool)} {t e : TypeId} {x y : Operand} {k : Nat} {α : Type} {f : α → List Cell} {l : List α} {i : Int} {v : α}

theorem op_index_shG (hu : P.underlying t = some (.slice e)) (hz : ∀ w, (Go.sizeOf e).run P w = .ok k w) (hn : d < n) (h : getI l i = some v) :
    OpL0 P n ⟨some d, .indexAddr t x y, ty, pos, after, g⟩ [.opd x (.c (.sl false k (l.map f))), .opd y (aInt i)] [.set d (.pts (f v))] := by
  obtain ⟨h1, h2, h3⟩ := getI_some h
  exact op_index_sh hu hz hn h1 (mapG h3)
theorem op_index_refG {id k0 : Nat} {p : Path} {o : Bool} {rows : List (List Cell)} (hu : P.underlying t = some (.slice e)) (hz : ∀ w, (Go.sizeOf e).run P w = .ok k w) (hn : d < n)
    (hg : (Cell.sl true k0 rows).get p = some (.sl o k (l.map f))) (h : getI l i = some v) :
    OpL0 P n ⟨some d, .indexAddr t x y, ty, pos, after, g⟩ [.opd x (.ref id p), .opd y (aInt i), .obj id (.arr k0 rows)] [.set d (.ptr id p k i.toNat 0)] := by
  obtain ⟨h1, h2, _⟩ := getI_some h
  exact op_index_ref hu hz hn hg h1 (by simp; omega)
theorem op_lenG_ref {id k0 : Nat} {p : Path} {o : Bool} {rows : List (List Cell)} (ht : P.underlying t = some (.slice e)) (hn : d < n) (hg : (Cell.sl true k0 rows).get p = some (.sl o k (l.map f))) :
    OpL0 P n ⟨some d, .call ⟨.builtin .len, #[x], #[t]⟩, ty, pos, after, g⟩ [.opd x (.ref id p), .obj id (.arr k0 rows)] [.set d (aInt (l.length : Int))] := by
  have := op_len_ref (P := P) (n := n) (d := d) (ty := ty) (pos := pos) (after := after) (g := g) (x := x) (id := id) (k := k0) (rows := rows) (p := p) ht hn hg
  simpa using this
/-- A store into an owned slice's row. -/
theorem op_store_arrG {id i j m : Nat} {row : List Cell} {av : AV} {ys : List AV} {cs : List Cell} {os : Objs} {rows rows' : List (List Cell)} (hz : ∀ w, (Go.sizeOf t).run P w = .ok m w)
    (hr : rows[i]? = some row) (hc : av.cells? = some ys) (habs : Absorb ys cs os) (hne : (os.any fun p => Nat.beq p.1 id) = false) (hone : ys.all AV.one = true) (hm : ys.length = m) (hl : Nat.ble (j + m) k = true) (hk : row.length = k)
    (hN : rows.set i (spl row j cs) = rows') :
    OpL0 P n ⟨none, .store t x y, ty, pos, after, g⟩ (.opd x (.ptr id [] k i j) :: .opd y av :: .obj id (.arr k rows) :: (objReqs os ++ lives av.ids))
      (dels (os.map (·.1)) ++ [.kill id, .put id (.arr k rows')]) := by
  rw [← hN]; exact op_store_arrS hz hr hc habs hne hone hm hl hk
theorem op_appendG {tx e' : TypeId} {bytes : Nat} {ax ay : AV} {ob : Bool} {rowsA rowsB rows : List (List Cell)} {osA osB : Objs} (hty : ElemTy P t e k bytes) (htx : P.underlying tx = some (.slice e'))
    (hA : SlOf ax true k rowsA osA) (hB : SlOf ay ob k rowsB osB) (hdis : (osA.all fun p => osB.all fun q => !Nat.beq p.1 q.1) = true) (hok : (rowsB.all fun r => r.all Cell.ok) = true)
    (hby : Nat.ble bytes 100000 = true) (hlen : rowsA.length + rowsB.length ≤ SMALL) (hn : d < n) (hN : rowsA ++ rowsB = rows) :
    OpL0 P n ⟨some d, .call ⟨.builtin .append, #[x, y], #[t, tx]⟩, ty, pos, after, g⟩ (.opd x ax :: .opd y ay :: .fresh d :: (objReqs (osA ++ osB) ++ []))
      (dels ((osA ++ osB).map (·.1)) ++ [.put d (.arr k rows), .set d (.ref d [])]) := by
  rw [← hN]
  have hb := Nat.le_of_ble_eq_true hby
  unfold SMALL at hlen
  have h1 : (2 * (rowsA.length + rowsB.length) + 1024) * bytes ≤ (2 * 1000000000 + 1024) * 100000 := Nat.mul_le_mul (by omega) hb
  exact op_append hty htx hA hB hdis hok (Nat.le_trans h1 (by decide)) (by omega) hn
theorem lenG {f2 : α → List Cell} {l m : List α} (h : l.length + m.length ≤ SMALL) : (l.map f).length + (m.map f2).length ≤ SMALL := by simpa using h
theorem op_makeSliceG {bytes : Nat} {m : Int} {zr : List Cell} {zs : List Value} {rows : List (List Cell)} (hty : ElemTy P t e k bytes) (hz : ∀ i z, P.info? e = some i → i.zero = some z → z.cells.toList = zs)
    (hzr : Zeros zs zr) (h : 0 ≤ m ∧ m ≤ 1000000000) (hby : Nat.ble bytes 100000 = true) (hn : d < n) (hN : List.replicate m.toNat zr = rows) :
    OpL0 P n ⟨some d, .makeSlice t x y, ty, pos, after, g⟩ [.opd x (aInt m), .opd y (aInt m), .fresh d] [.put d (.arr k rows), .set d (.ref d [])] := by
  rw [← hN]
  have hb := Nat.le_of_ble_eq_true hby
  refine op_makeSlice hty hz hzr h.1 ?_ (by omega) hn
  have h1 : (bytes : Int) * m ≤ 100000 * 1000000000 := Int.mul_le_mul (by omega) h.2 h.1 (by decide)
  omega
theorem op_makeFunc {fid : FuncId} {cs : List Operand} {avs : List AV} (hl : cs.length = avs.length) (hn : d < n) :
    OpL0 P n ⟨some d, .makeFunc (.func fid) #[] cs.toArray, ty, pos, after, g⟩ (opds cs avs ++ lives (idsL avs)) [.set d (.fn fid avs)] :=
  op_value rfl hn fun _ _ _ _ _ _ st a w _ hT hs => by
    obtain ⟨ho, hrest⟩ := opds_of hl hs
    have hlv := live_of hrest
    refine ⟨.func (.func fid) #[] (cs.map a.eval).toArray, ?_, fun _ => .fn (by simpa using hl) fun i av v h1 h2 => ?_⟩
    · have := run_makeFunc (P := P) (f := fid) (caps := cs.toArray) (ρ := a.eval) (w := w) (d := d) (ty := ty) (pos := pos) (after := after) (g := g)
      simpa using this
    · simp only [List.getElem?_toArray, List.getElem?_map] at h2
      obtain ⟨x, hx, rfl⟩ := Option.map_eq_some_iff.1 h2
      exact hT.eval (ho.get hx h1) fun id hid => hlv id (mem_idsL h1 hid)
end
end
end Go.Am
