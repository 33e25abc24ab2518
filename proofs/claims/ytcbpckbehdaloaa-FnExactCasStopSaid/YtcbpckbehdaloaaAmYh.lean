/- What the printed walks cite. Own work; generic. -/
import Derived.Test.YtcbpckbehdaloaaAmYg
import Derived.Test.YtcbpckbehdaloaaAmT
import Derived.Laws.Tables
set_option linter.unusedSimpArgs false
set_option linter.unusedVariables false
namespace Go.Am
open Go

theorem built_of {P : Program} {t : TypeId} {it : TypeInfo} {z : Value} {fields : Array Field} {places : List (Nat × Nat)} {zc : Array Value} (h1 : P.info? t = some it) (h2 : P.underlying t = some (.struct fields)) (h3 : it.zero = some z)
    (h4 : fields.toList.mapM (fun f => (P.info? f.type).map fun i => (f.offset, i.size)) = some places) (h5 : z.cells = zc) : ∀ ps, P.built t ps = Instr.fill (fun i => places.toArray[i]?) zc ps := by
  intro ps
  unfold Program.built
  rw [h1, h2]
  simp only [h3, h4, h5]
theorem not_t {e : Bool} (h : e = true) : (!e) = false := by rw [h]; rfl
theorem not_f {e : Bool} (h : e = false) : (!e) = true := by rw [h]; rfl
theorem getI_set {α : Type} {l : List α} {i : Int} {v v2 : α} (h : getI l i = some v) : getI (l.set i.toNat v2) i = some v2 := by
  obtain ⟨h1, h2, _⟩ := getI_some h
  unfold getI; rw [if_pos h1]; simp [h2]
def shrI (i j : Int) : Int := i.fdiv (2 ^ j.toNat)
def andI (i j : Int) : Int := IntKind.i64.wrap (BitVec.ofInt 64 i &&& BitVec.ofInt 64 j).toNat
def xorI (i j : Int) : Int := IntKind.i64.wrap (BitVec.ofInt 64 i ^^^ BitVec.ofInt 64 j).toNat

theorem rowB : RowOk 1 (fun _ b => [cB b]) where
  len := fun _ _ => rfl
  share := fun _ _ => rfl
  nobox := fun _ x c hc => by simp at hc; subst hc; exact .lit _
  solid := fun _ => rfl
  plain := fun _ => rfl
  ok := fun _ x c hc => by simp at hc; subst hc; rfl
theorem rowIs : RowOk 1 (fun o l => [cIs o l]) where
  len := fun _ _ => rfl
  share := fun o l => by simp only [shareRow, cIs_share]
  nobox := fun o x c hc => by simp at hc; subst hc; exact cIs_nobox _ _
  solid := fun l => by simp [solidRow, cIs_solid]
  plain := fun l => rfl
  ok := fun o x c hc => by simp at hc; subst hc; rfl

section
variable {P : Program} {n : Nat} {Q : Exit → St → Prop} {st : St}
theorem acode_split {c : Code} {b : Bool} (ht : b = true → ACode P n c st Q) (hf : b = false → ACode P n c st Q) : ACode P n c st Q := by cases b; exact hf rfl; exact ht rfl

theorem fin2_ret {rvs : List ResultVar} {pars : List AV} {res : List Arg} {os : Objs} {bk : List (Nat × Arg)} {ob : Obs} {R1 : List Arg} {B1 : List (Nat × Arg)} (h : Closes P st rvs res os) (hb : BkEL st pars bk ob) (hs : noCommon (asObs os) ob = true)
    (e1 : res = R1) (e2 : bk = B1) : Fin2 P rvs pars (fun r b => r = R1 ∧ b = B1) .ret st := ⟨res, os, bk, ob, h, hb, hs, e1, e2⟩
theorem fin2_retL {rvs : List ResultVar} {pars : List AV} {res : List Arg} {os : Objs} {bk : List (Nat × Arg)} {ob : Obs} {R1 : List Arg} {B1 : List (Nat × Arg)} (h : ResL P st rvs res os) (hd : nodupB (os.map (·.1)) = true) (hb : BkEL st pars bk ob)
    (hs : noCommon (asObs os) ob = true) (e1 : res = R1) (e2 : bk = B1) : Fin2 P rvs pars (fun r b => r = R1 ∧ b = B1) .ret st := fin2_ret (h.closes hd) hb hs e1 e2
theorem fin2_normalL {rvs : List ResultVar} {pars : List AV} {res : List Arg} {os : Objs} {bk : List (Nat × Arg)} {ob : Obs} {R1 : List Arg} {B1 : List (Nat × Arg)} (h : ResL P st rvs res os) (hd : nodupB (os.map (·.1)) = true) (hb : BkEL st pars bk ob)
    (hs : noCommon (asObs os) ob = true) (e1 : res = R1) (e2 : bk = B1) : Fin2 P rvs pars (fun r b => r = R1 ∧ b = B1) .normal st := ⟨res, os, bk, ob, h.closes hd, hb, hs, e1, e2⟩

variable {d : Nat} {ty : TypeId} {pos : String} {after : Array Edge} {g : Option (Nat × Bool)} {t e : TypeId} {x y : Operand} {k : Nat}

theorem op_shrG {t' : TypeId} {i j : Int} (hn : d < n) (h : 0 ≤ j ∧ j ≤ 63) : OpL0 P n ⟨some d, .binOp .shr t x y t', ty, pos, after, g⟩ [.opd x (aInt i), .opd y (aInt j)] [.set d (aInt (shrI i j))] := op_shr hn h
theorem op_andG {t' : TypeId} {i j : Int} (hn : d < n) : OpL0 P n ⟨some d, .binOp .and t x y t', ty, pos, after, g⟩ [.opd x (aInt i), .opd y (aInt j)] [.set d (aInt (andI i j))] := op_and hn
theorem op_xorG {t' : TypeId} {i j : Int} (hn : d < n) : OpL0 P n ⟨some d, .binOp .xor t x y t', ty, pos, after, g⟩ [.opd x (aInt i), .opd y (aInt j)] [.set d (aInt (xorI i j))] := op_xor hn

section
variable {α : Type} {f : α → List Cell} {ls : List α}
theorem op_sliceGN {lo hi : Operand} {l h : Int} (hu : P.underlying t = some (.slice e)) (hz : ∀ w, (Go.sizeOf e).run P w = .ok k w) (hb : 0 ≤ l ∧ l ≤ h ∧ h ≤ (ls.length : Int)) (hn : d < n) :
    OpL0 P n ⟨some d, .slice t x (some lo) (some hi) none, ty, pos, after, g⟩ [.opd x (.c (.sl false k (ls.map f))), .opd lo (aInt l), .opd hi (aInt h)] [.set d (.c (.sl false k (((ls.take h.toNat).drop l.toNat).map f)))] := by
  have := op_sliceG (P := P) (n := n) (d := d) (ty := ty) (pos := pos) (after := after) (g := g) (x := x) (lo := lo) (hi := hi) (rows := ls.map f) hu hz (by simpa using hb) hn
  simpa only [List.map_take, List.map_drop] using this
theorem op_sliceG_hiN {hi : Operand} {h : Int} (hu : P.underlying t = some (.slice e)) (hz : ∀ w, (Go.sizeOf e).run P w = .ok k w) (hb : 0 ≤ h ∧ h ≤ (ls.length : Int)) (hn : d < n) :
    OpL0 P n ⟨some d, .slice t x none (some hi) none, ty, pos, after, g⟩ [.opd x (.c (.sl false k (ls.map f))), .opd hi (aInt h)] [.set d (.c (.sl false k ((ls.take h.toNat).map f)))] := by
  have := op_sliceG_hi (P := P) (n := n) (d := d) (ty := ty) (pos := pos) (after := after) (g := g) (x := x) (hi := hi) (rows := ls.map f) hu hz (by simpa using hb) hn
  simpa only [List.map_take, List.map_drop] using this
theorem op_sliceG_loN {lo : Operand} {l : Int} (hu : P.underlying t = some (.slice e)) (hz : ∀ w, (Go.sizeOf e).run P w = .ok k w) (hb : 0 ≤ l ∧ l ≤ (ls.length : Int)) (hn : d < n) :
    OpL0 P n ⟨some d, .slice t x (some lo) none none, ty, pos, after, g⟩ [.opd x (.c (.sl false k (ls.map f))), .opd lo (aInt l)] [.set d (.c (.sl false k ((ls.drop l.toNat).map f)))] := by
  have := op_sliceG_lo (P := P) (n := n) (d := d) (ty := ty) (pos := pos) (after := after) (g := g) (x := x) (lo := lo) (rows := ls.map f) hu hz (by simpa using hb) hn
  simpa only [List.map_take, List.map_drop] using this
end

/-! ### A literal slice -/
theorem Absorb.append {ys zs : List AV} {cs ds : List Cell} {os os' : Objs} (h : Absorb ys cs os) (h2 : Absorb zs ds os') (hd : (os.all fun p => os'.all fun q => !Nat.beq q.1 p.1) = true) : Absorb (ys ++ zs) (cs ++ ds) (os ++ os') := by
  induction h with
  | nil => exact h2
  | c hp t ih => exact .c hp (ih hd)
  | nilc t ih => exact .nilc (ih hd)
  | @ref id k rows ys cs os hn t ih =>
    simp only [List.all_cons, Bool.and_eq_true] at hd
    refine .ref ?_ (ih hd.2)
    show ((os ++ os').any fun p => Nat.beq p.1 id) = false
    rw [List.any_append, hn, Bool.false_or]
    rw [List.any_eq_false]
    intro q hq
    have := List.all_eq_true.1 hd.1 q hq
    intro e
    rw [e] at this; cases this
inductive AbsorbL (k : Nat) : List AV → List (List Cell) → Objs → List (List AV) → Prop
  | nil : AbsorbL k [] [] [] []
  | cons {av : AV} {avs : List AV} {row : List Cell} {rows : List (List Cell)} {os os' : Objs} {ys : List AV} {yss : List (List AV)} (hc : av.cells? = some ys) (h1 : Nat.beq ys.length k = true) (h2 : Nat.beq row.length k = true) (h : Absorb ys row os) (t : AbsorbL k avs rows os' yss)
      (hd : (os.all fun p => os'.all fun q => !Nat.beq q.1 p.1) = true) : AbsorbL k (av :: avs) (row :: rows) (os ++ os') (ys :: yss)
theorem AbsorbL.flat {avs : List AV} {rows : List (List Cell)} {os : Objs} {yss : List (List AV)} (h : AbsorbL k avs rows os yss) :
    avs.map AV.cells? = yss.map some ∧ (∀ ys ∈ yss, ys.length = k) ∧ Absorb yss.flatten rows.flatten os ∧ (∀ r ∈ rows, r.length = k) := by
  induction h with
  | nil => exact ⟨rfl, by simp, .nil, by simp⟩
  | cons hc h1 h2 h t hd ih =>
    obtain ⟨i1, i2, i3, i4⟩ := ih
    refine ⟨by simp [hc, i1], ?_, by simpa using h.append i3 hd, ?_⟩
    · intro ys hys
      rcases List.mem_cons.1 hys with rfl | hys
      · exact Nat.eq_of_beq_eq_true h1
      · exact i2 ys hys
    · intro r hr
      rcases List.mem_cons.1 hr with rfl | hr
      · exact Nat.eq_of_beq_eq_true h2
      · exact i4 r hr
theorem op_buildSliceG {bytes len : Nat} {parts : List (Nat × Operand)} {avs : List AV} {yss : List (List AV)} {rows : List (List Cell)} {os : Objs}
    (hty : ElemTy P t e k bytes) (hd : parts.map (·.1) = List.range len) (hl : parts.length = avs.length) (hab : AbsorbL k avs rows os yss) (hlen : rows.length = len) (h0 : Nat.blt 0 len = true) (hbig : Nat.ble (len * k) 16777216 = true) (hn : d < n) :
    OpL0 P n ⟨some d, .buildSlice t len parts.toArray, ty, pos, after, g⟩ (opds (parts.map (·.2)) avs ++ (.fresh d :: (objReqs os ++ lives (idsL avs))))
      (dels (os.map (·.1)) ++ [.put d (.arr k rows), .set d (.ref d [])]) := by
  obtain ⟨h1, h2, h3, h4⟩ := hab.flat
  have := op_buildSlice (P := P) (n := n) (d := d) (ty := ty) (pos := pos) (after := after) (g := g) hty hd hl h1 h2 h3 h4 hlen (Nat.lt_of_succ_le (Nat.le_of_ble_eq_true h0)) (Nat.le_of_ble_eq_true hbig) hn
  exact this
end
end Go.Am
