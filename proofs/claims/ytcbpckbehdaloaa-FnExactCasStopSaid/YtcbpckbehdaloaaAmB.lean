/- The abstract state and what it says of an activation and a world. Own work; generic. -/
import Derived.Test.YtcbpckbehdaloaaAmA
set_option linter.unusedSimpArgs false
set_option linter.unusedVariables false
namespace Go.Am
open Go

abbrev Path := List (Nat × Nat)

/-- Abstract values of slots. -/
inductive AV where
  | dead
  | c (x : Cell)
  | row (xs : List Cell)
  | ref (id : Nat) (p : Path)
  | ptr (id : Nat) (p : Path) (k i j : Nat)
  | bx (id : Nat) (j : Nat)
  | pts (xs : List Cell)
  | agg (xs : List AV)
  | tup (xs : List AV)
  | fn (f : FuncId) (caps : List AV)
  deriving Inhabited

/-- What is owned: the rows of a slice; a box of cells; a set of ints as a map[int]bool. -/
inductive Obj where
  | arr (k : Nat) (rows : List (List Cell))
  | box (xs : List AV)
  | mp (keys : List Int)

mutual
def AV.ids : AV → List Nat
  | .ref id _ => [id]
  | .ptr id _ _ _ _ => [id]
  | .bx id _ => [id]
  | .agg xs => idsL xs
  | .tup xs => idsL xs
  | .fn _ xs => idsL xs
  | .dead => []
  | .c _ => []
  | .row _ => []
  | .pts _ => []
def idsL : List AV → List Nat
  | [] => []
  | x :: r => x.ids ++ idsL r
end

/-- A function turned at one place. -/
def upd {α : Type} (f : Nat → α) (x : Nat) (v : α) : Nat → α := fun y => bif Nat.beq x y then v else f y

theorem upd_apply {α : Type} (f : Nat → α) (x : Nat) (v : α) (y : Nat) : upd f x v y = if x = y then v else f y := by
  show (bif Nat.beq x y then v else f y) = _
  by_cases h : x = y
  · subst h; simp
  · have h' : Nat.beq x y = false := by
      cases hb : Nat.beq x y with
      | false => rfl
      | true => exact absurd (Nat.eq_of_beq_eq_true hb) h
    rw [h', if_neg h]; rfl
theorem upd_same {α : Type} (f : Nat → α) (x : Nat) (v : α) : upd f x v x = v := by rw [upd_apply, if_pos rfl]
theorem upd_ne {α : Type} (f : Nat → α) {x y : Nat} (v : α) (h : x ≠ y) : upd f x v y = f y := by rw [upd_apply, if_neg h]
theorem upd_comm {α : Type} (f : Nat → α) {x y : Nat} (v u : α) (h : x ≠ y) : upd (upd f x v) y u = upd (upd f y u) x v := by
  funext z
  simp only [upd_apply]
  by_cases h1 : y = z <;> by_cases h2 : x = z <;> simp [h1, h2]
  exact absurd (h2.trans h1.symm) h

/-- What is known: the slots, the owned objects, and which names of objects have been used. -/
structure St where
  env : Nat → Option AV
  obj : Nat → Option Obj
  used : Nat → Bool

def Cell.get : Cell → Path → Option Cell
  | c, [] => some c
  | .sl _ _ rows, (i, j) :: p => ((rows[i]?).bind (·[j]?)).bind (·.get p)
  | _, _ :: _ => none

/-- Along a path from header to header, through memory. -/
def Hdr (w : World) : Cell → Value → Path → Value → Prop
  | _, v, [], v' => v' = v
  | .sl _ k rows, v, (i, j) :: p, v' =>
    ∃ b off n cap cs e fr u x, v = .slice (some ⟨b, off, none⟩) n cap ∧ w.heap[b]? = some (.cells cs e fr) ∧ cs[off + (i * k + j)]? = some u ∧
      (rows[i]?).bind (·[j]?) = some x ∧ j < k ∧ Hdr w x u p v'
  | _, _, _ :: _, _ => False

/-- The root of an object, as a cell. -/
def Obj.root : Obj → Option Cell
  | .arr k rows => some (.sl true k rows)
  | _ => none
def St.cell (st : St) (id : Nat) (p : Path) : Option Cell := ((st.obj id).bind Obj.root).bind (·.get p)

/-- Zipped: the rows are as long, and go together. -/
def Pair {α β : Type} (R : α → β → Prop) (xs : List α) (vs : Array β) : Prop := vs.size = xs.length ∧ ∀ (i : Nat) x v, xs[i]? = some x → vs[i]? = some v → R x v

inductive AVSim (w : World) (A : Blks) (hv : Nat → Value) (obj : Nat → Option Obj) : AV → Value → Prop
  | dead (v : Value) : AVSim w A hv obj .dead v
  | c {x : Cell} {v : Value} (h : Own w A noBlk x v) : AVSim w A hv obj (.c x) v
  | row {xs : List Cell} {vs : Array Value} (hs : vs.size = xs.length) (h : ∀ (i : Nat) x v, xs[i]? = some x → vs[i]? = some v → Own w A noBlk x v) : AVSim w A hv obj (.row xs) (.agg vs)
  | ref {id : Nat} {p : Path} {k k' : Nat} {o : Bool} {rows rows' : List (List Cell)} {v : Value} (ho : obj id = some (.arr k rows))
      (hg : (Cell.sl true k rows).get p = some (.sl o k' rows')) (hh : Hdr w (.sl true k rows) (hv id) p v) : AVSim w A hv obj (.ref id p) v
  | ptr {id : Nat} {p : Path} {k i j k0 : Nat} {rows : List (List Cell)} {o : Bool} {rows' : List (List Cell)} {b off n cap : Nat} (ho : obj id = some (.arr k0 rows))
      (hg : (Cell.sl true k0 rows).get p = some (.sl o k rows'))
      (hh : Hdr w (.sl true k0 rows) (hv id) p (.slice (some ⟨b, off, none⟩) n cap)) : AVSim w A hv obj (.ptr id p k i j) (.pointer (some ⟨b, off + (i * k + j), none⟩))
  | bx {id j b : Nat} {xs : List AV} (ho : obj id = some (.box xs)) (hh : hv id = .pointer (some ⟨b, 0, none⟩)) : AVSim w A hv obj (.bx id j) (.pointer (some ⟨b, j, none⟩))
  | pts {xs : List Cell} {b off : Nat} {c : Array Value} {e : TypeId} {fr : Nat × Nat} (hb : w.heap[b]? = some (.cells c e fr)) (hA : A b) (hs : off + xs.length ≤ c.size)
      (h : ∀ (i : Nat) x v, xs[i]? = some x → c[off + i]? = some v → Own w A noBlk x v) : AVSim w A hv obj (.pts xs) (.pointer (some ⟨b, off, none⟩))
  | mp {id : Nat} {ks : List Int} {v : Value} (ho : obj id = some (.mp ks)) (hh : hv id = v) : AVSim w A hv obj (.bx id 0) v
  | agg {xs : List AV} {vs : Array Value} (hs : vs.size = xs.length) (h : ∀ (i : Nat) x v, xs[i]? = some x → vs[i]? = some v → AVSim w A hv obj x v) : AVSim w A hv obj (.agg xs) (.agg vs)
  | tup {xs : List AV} {vs : Array Value} (hs : vs.size = xs.length) (h : ∀ (i : Nat) x v, xs[i]? = some x → vs[i]? = some v → AVSim w A hv obj x v) : AVSim w A hv obj (.tup xs) (.tuple vs)
  | fn {f : FuncId} {xs : List AV} {vs : Array Value} (hs : vs.size = xs.length) (h : ∀ (i : Nat) x v, xs[i]? = some x → vs[i]? = some v → AVSim w A hv obj x v) :
      AVSim w A hv obj (.fn f xs) (.func (.func f) #[] vs)

/-- All objects that it names are there. -/
def Live (obj : Nat → Option Obj) (av : AV) : Prop := ∀ id ∈ av.ids, (obj id).isSome = true

/-- The map's entries: each key once, its value true. -/
def MapIs (keys : List Int) (es : Array MapEntry) : Prop := es.toList.map (fun e => (e.key, e.val)) = keys.map fun n => (Value.int .i64 n, Value.bool true)

def ObjSim (w : World) (A : Blks) (hv : Nat → Value) (obj : Nat → Option Obj) (T : Blks) (id : Nat) : Obj → Prop
  | .arr k rows => Own w A T (.sl true k rows) (hv id)
  | .box xs => ∃ b c e, hv id = .pointer (some ⟨b, 0, none⟩) ∧ w.heap[b]? = some (.cells c e (0, 0)) ∧ c.size = xs.length ∧ T b ∧
      ∀ (i : Nat) x v, xs[i]? = some x → c[i]? = some v → Live obj x → AVSim w A hv obj x v
  | .mp keys => ∃ b es clock, hv id = .map (some b) ∧ w.heap[b]? = some (.map es clock) ∧ T b ∧ keys.Nodup ∧ MapIs keys es

/-- Nothing but blocks of F has been turned; blocks may have come behind. -/
structure Frame (F : Blks) (w w' : World) : Prop where
  heap : ∀ b, b < w.heap.size → ¬ F b → w'.heap[b]? = w.heap[b]?
  size : w.heap.size ≤ w'.heap.size
  os : w'.os = w.os
  output : w'.output = w.output

theorem Frame.refl (F : Blks) (w : World) : Frame F w w := ⟨fun _ _ _ => rfl, Nat.le_refl _, rfl, rfl⟩
theorem Frame.trans {F G : Blks} {w w1 w2 : World} (h : Frame F w w1) (h' : Frame G w1 w2) (hG : ∀ b, G b → F b ∨ w.heap.size ≤ b) : Frame F w w2 :=
  ⟨fun b hb hf => (h'.heap b (Nat.lt_of_lt_of_le hb h.size) (fun hg => (hG b hg).elim hf (fun hl => absurd hb (by omega)))).trans (h.heap b hb hf),
   Nat.le_trans h.size h'.size, h'.os.trans h.os, h'.output.trans h.output⟩
theorem Frame.mono {F G : Blks} {w w' : World} (h : Frame F w w') (hG : ∀ b, F b → G b) : Frame G w w' :=
  ⟨fun b hb hg => h.heap b hb (fun hf => hg (hG b hf)), h.size, h.os, h.output⟩

/-- The blocks that may be read as shared. -/
def Sh (A0 F0 : Blks) (w0 : World) (T : Nat → Blks) (obj : Nat → Option Obj) (w : World) : Blks := fun b =>
  (A0 b ∨ F0 b ∨ w0.heap.size ≤ b) ∧ b < w.heap.size ∧ ∀ id, (obj id).isSome = true → ¬ T id b

structure StSim (n : Nat) (pn : Nat → Option Value) (w0 : World) (A0 F0 : Blks) (hv : Nat → Value) (T : Nat → Blks) (st : St) (a : Act) (w : World) : Prop where
  size : a.tmps.size = n
  defers : a.defers = []
  frame : Frame F0 w0 w
  env : ∀ x av, st.env x = some av → Live st.obj av → ∃ v, a.tmps[x]? = some v ∧ AVSim w (Sh A0 F0 w0 T st.obj w) hv st.obj av v
  heap : ∀ id o, st.obj id = some o → ObjSim w (Sh A0 F0 w0 T st.obj w) hv st.obj (T id) id o
  own : ∀ id, (st.obj id).isSome = true → ∀ b, T id b → (F0 b ∨ w0.heap.size ≤ b) ∧ b < w.heap.size
  dis : ∀ i j, i ≠ j → (st.obj i).isSome = true → (st.obj j).isSome = true → ∀ b, T i b → ¬ T j b
  slt : ∀ x av, st.env x = some av → x < n
  uenv : ∀ x av, st.env x = some av → ∀ id ∈ av.ids, st.used id = true
  uobj : ∀ id, (st.obj id).isSome = true → st.used id = true
  pin : ∀ id v, pn id = some v → st.used id = true ∧ ((st.obj id).isSome = true → hv id = v)
  ubox : ∀ id xs, st.obj id = some (.box xs) → ∀ j ∈ idsL xs, st.used j = true
  pbig : ∀ id v, pn id = some v → 1000000 ≤ id

def Sim (n : Nat) (pn : Nat → Option Value) (w0 : World) (A0 F0 : Blks) (st : St) (a : Act) (w : World) : Prop := ∃ hv T, StSim n pn w0 A0 F0 hv T st a w

/-- The blocks of A0 are there, and none of F0's. -/
structure Base (w0 : World) (A0 F0 : Blks) : Prop where
  a : ∀ b, A0 b → b < w0.heap.size
  f : ∀ b, F0 b → b < w0.heap.size
  af : ∀ b, A0 b → ¬ F0 b

theorem Hdr.frame {w w' : World} {A F : Blks} {c : Cell} {v : Value} (h : Own w A F c v) (hw : ∀ b, A b ∨ F b → w'.heap[b]? = w.heap[b]?) :
    ∀ {p : Path} {v' : Value}, Hdr w c v p v' → Hdr w' c v p v' := by
  induction h with
  | lit v => intro p v' hh; cases p <;> simp only [Hdr] at hh ⊢ <;> exact hh
  | nil o k => intro p v' hh; cases p <;> simp only [Hdr] at hh ⊢ <;> first | exact hh | (obtain ⟨_, _, _, _, _, _, _, _, _, hv, _⟩ := hh; cases hv)
  | emp k a =>
    intro p v' hh
    cases p with
    | nil => exact hh
    | cons ij p =>
      obtain ⟨i, j⟩ := ij
      simp only [Hdr] at hh
      obtain ⟨b, off, n, cap, cs, e, fr, u, x, hv, hb, hu, hx, _⟩ := hh
      simp at hx
  | @shr F k rows b off cap c e fr hb hA hk hs hcap hsub ih =>
    intro p v' hh
    cases p with
    | nil => exact hh
    | cons ij p =>
      obtain ⟨i, j⟩ := ij
      simp only [Hdr] at hh ⊢
      obtain ⟨b', off', n', cap', cs, e', fr', u, x, hv, hb', hu, hx, hj, hrest⟩ := hh
      cases hv
      have heq : w'.heap[b]? = w.heap[b]? := hw _ (.inl hA)
      refine ⟨b, off, _, _, cs, e', fr', u, x, rfl, by rw [heq]; exact hb', hu, hx, hj, ?_⟩
      have hcs : cs = c := by rw [hb] at hb'; cases hb'; rfl
      subst hcs
      have hflat : rows.flatten[i * k + j]? = some x := by
        cases hr : rows[i]? with
        | none => rw [hr] at hx; cases hx
        | some r =>
          rw [hr] at hx
          have hi := (List.getElem?_eq_some_iff.1 hr).1
          have := List.flatten_getElem?_of_const (k := k) (rows := rows) hk i j hj
          rw [this, hr]; exact hx
      exact ih _ x u hflat hu (fun b hb => hw b (hb.imp id (fun f => f.elim))) hrest
  | @arr F k rows b cap c e G hb hk hs hcap hF hG hGb hd hsub ih =>
    intro p v' hh
    cases p with
    | nil => exact hh
    | cons ij p =>
      obtain ⟨i, j⟩ := ij
      simp only [Hdr] at hh ⊢
      obtain ⟨b', off', n', cap', cs, e', fr', u, x, hv, hb', hu, hx, hj, hrest⟩ := hh
      cases hv
      have heq : w'.heap[b]? = w.heap[b]? := hw _ (.inr hF)
      refine ⟨b, 0, _, _, cs, e', fr', u, x, rfl, by rw [heq]; exact hb', hu, hx, hj, ?_⟩
      have hcs : cs = c := by rw [hb] at hb'; cases hb'; rfl
      subst hcs
      have hflat : rows.flatten[i * k + j]? = some x := by
        cases hr : rows[i]? with
        | none => rw [hr] at hx; cases hx
        | some r =>
          rw [hr] at hx
          have := List.flatten_getElem?_of_const (k := k) (rows := rows) hk i j hj
          rw [this, hr]; exact hx
      exact ih _ x u hflat (by simpa using hu) (fun b hb => hw b (hb.imp id (hG _ b))) hrest
  | bx => intro p v' hh; cases p <;> simp only [Hdr] at hh ⊢ <;> exact hh
end Go.Am
