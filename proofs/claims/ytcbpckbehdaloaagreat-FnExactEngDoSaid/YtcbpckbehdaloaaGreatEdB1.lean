/- The base: lemmas about the machine, the executor. Own work. -/
import Derived.Deep.Quiet
import Derived.Laws.Sem
import Derived.Laws.Cells
import Derived.Laws.Entries
import Derived.Laws.StructEq
import Derived.Laws.Tables
import Derived.Great.BuildSlice
import Derived.Laws.MakeOwn
set_option linter.unusedSimpArgs false
set_option linter.unusedVariables false
section
namespace Go.Am
open Go
inductive Cell where
  | lit (v : Value)
  | sl (o : Bool) (k : Nat) (rows : List (List Cell))
  | bx (row : List Cell)
  deriving Inhabited
abbrev Blks := Nat → Prop
def noBlk : Blks := fun _ => False
inductive Own (w : World) (A : Blks) : Blks → Cell → Value → Prop
  | lit {F : Blks} (v : Value) : Own w A F (.lit v) v
  | nil {F : Blks} (o : Bool) (k : Nat) : Own w A F (.sl o k []) (.slice none 0 0)
  | emp {F : Blks} (k : Nat) (a : Addr) : Own w A F (.sl false k []) (.slice (some a) 0 0)
  | shr {F : Blks} {k : Nat} {rows : List (List Cell)} {b off cap : Nat} {c : Array Value} {e : TypeId} {fr : Nat × Nat}
      (hb : w.heap[b]? = some (.cells c e fr)) (hA : A b) (hk : ∀ r ∈ rows, r.length = k)
      (hs : off + rows.length * k ≤ c.size) (hcap : rows.length ≤ cap)
      (h : ∀ i x v, rows.flatten[i]? = some x → c[off + i]? = some v → Own w A noBlk x v) :
      Own w A F (.sl false k rows) (.slice (some ⟨b, off, none⟩) rows.length cap)
  | arr {F : Blks} {k : Nat} {rows : List (List Cell)} {b cap : Nat} {c : Array Value} {e : TypeId} {G : Nat → Blks}
      (hb : w.heap[b]? = some (.cells c e (0, 0))) (hk : ∀ r ∈ rows, r.length = k)
      (hs : c.size = cap * k) (hcap : rows.length ≤ cap) (hF : F b) (hG : ∀ i x, G i x → F x) (hGb : ∀ i, ¬ G i b)
      (hd : ∀ i j x, i ≠ j → G i x → ¬ G j x)
      (h : ∀ i x v, rows.flatten[i]? = some x → c[i]? = some v → Own w A (G i) x v) :
      Own w A F (.sl true k rows) (.slice (some ⟨b, 0, none⟩) rows.length cap)
  | bx {F : Blks} {row : List Cell} {b : Nat} {c : Array Value} {e : TypeId} {G : Nat → Blks} (hb : w.heap[b]? = some (.cells c e (0, 0)))
      (hs : c.size = row.length) (hF : F b) (hG : ∀ i x, G i x → F x) (hGb : ∀ i, ¬ G i b) (hd : ∀ i j x, i ≠ j → G i x → ¬ G j x)
      (h : ∀ i x v, row[i]? = some x → c[i]? = some v → Own w A (G i) x v) :
      Own w A F (.bx row) (.pointer (some ⟨b, 0, none⟩))
theorem Own.frame {w w' : World} {A F : Blks} {c : Cell} {v : Value} (h : Own w A F c v)
    (hw : ∀ b, A b ∨ F b → w'.heap[b]? = w.heap[b]?) : Own w' A F c v := by
  induction h with
  | lit v => exact .lit v
  | nil o k => exact .nil o k
  | emp k a => exact .emp k a
  | shr hb hA hk hs hcap _ ih =>
    exact .shr (by rw [hw _ (.inl hA)]; exact hb) hA hk hs hcap fun i x v h1 h2 => ih i x v h1 h2 fun b hb => hw b (hb.imp id (fun f => f.elim))
  | arr hb hk hs hcap hF hG hGb hd _ ih =>
    exact .arr (by rw [hw _ (.inr hF)]; exact hb) hk hs hcap hF hG hGb hd fun i x v h1 h2 => ih i x v h1 h2 fun b hb => hw b (hb.imp id (hG i b))
  | bx hb hs hF hG hGb hd _ ih =>
    exact .bx (by rw [hw _ (.inr hF)]; exact hb) hs hF hG hGb hd fun i x v h1 h2 => ih i x v h1 h2 fun b hb => hw b (hb.imp id (hG i b))
theorem Own.mono {w : World} {A F : Blks} {c : Cell} {v : Value} (h : Own w A F c v) :
    ∀ {A' F' : Blks}, (∀ b, A b → A' b) → (∀ b, F b → F' b) → Own w A' F' c v := by
  induction h with
  | lit v => exact fun _ _ => .lit v
  | nil o k => exact fun _ _ => .nil o k
  | emp k a => exact fun _ _ => .emp k a
  | shr hb hA hk hs hcap _ ih => exact fun hA' _ => .shr hb (hA' _ hA) hk hs hcap fun i x v h1 h2 => ih i x v h1 h2 hA' (fun _ f => f)
  | arr hb hk hs hcap hF hG hGb hd _ ih =>
    exact fun hA' hF' => .arr hb hk hs hcap (hF' _ hF) (fun i x hx => hF' _ (hG i x hx)) hGb hd fun i x v h1 h2 => ih i x v h1 h2 hA' (fun _ f => f)
  | bx hb hs hF hG hGb hd _ ih =>
    exact fun hA' hF' => .bx hb hs (hF' _ hF) (fun i x hx => hF' _ (hG i x hx)) hGb hd fun i x v h1 h2 => ih i x v h1 h2 hA' (fun _ f => f)
mutual
def Cell.share : Cell → Cell
  | .lit v => .lit v
  | .sl _ k rows => .sl false k (shareRows rows)
  | .bx row => .bx row
def shareRows : List (List Cell) → List (List Cell)
  | [] => []
  | r :: rs => shareRow r :: shareRows rs
def shareRow : List Cell → List Cell
  | [] => []
  | c :: cs => c.share :: shareRow cs
end
theorem z1ao (r : List Cell) : shareRow r = r.map Cell.share := by
  induction r with
  | nil => rfl
  | cons c r ih => simp only [shareRow, List.map_cons, ih]
theorem z059 (r : List (List Cell)) : shareRows r = r.map (·.map Cell.share) := by
  induction r with
  | nil => rfl
  | cons c r ih => simp only [shareRows, List.map_cons, ih, z1ao]
inductive NoBox : Cell → Prop
  | lit (v : Value) : NoBox (.lit v)
  | sl (o : Bool) (k : Nat) {rows : List (List Cell)} (h : ∀ r ∈ rows, ∀ c ∈ r, NoBox c) : NoBox (.sl o k rows)
theorem List.flatten_getElem?_of_const {α : Type} {k : Nat} {rows : List (List α)} (hk : ∀ r ∈ rows, r.length = k) :
    ∀ (i j : Nat), j < k → rows.flatten[i * k + j]? = (rows[i]?).bind (·[j]?) := by
  induction rows with
  | nil => intro i j _; simp
  | cons r rows ih =>
    intro i j hj
    have hr : r.length = k := hk r (by simp)
    cases i with
    | zero => simp only [Nat.zero_mul, Nat.zero_add, List.flatten_cons, List.getElem?_cons_zero, Option.bind_some]; rw [List.getElem?_append_left (by omega)]
    | succ i =>
      have : (i + 1) * k + j = r.length + (i * k + j) := by rw [hr, Nat.add_mul]; omega
      rw [this, List.flatten_cons, List.getElem?_append_right (by omega), Nat.add_sub_cancel_left, List.getElem?_cons_succ]
      exact ih (fun r hr => hk r (by simp [hr])) i j hj
theorem z01s {α : Type} {k : Nat} {rows : List (List α)} (hk : ∀ r ∈ rows, r.length = k) : rows.flatten.length = rows.length * k := by
  induction rows with
  | nil => simp
  | cons r rows ih =>
    have hr : r.length = k := hk r (by simp)
    simp only [List.flatten_cons, List.length_append, List.length_cons]
    rw [ih (fun r hr => hk r (by simp [hr])), hr, Nat.add_mul]; omega
theorem mem_flatten_of_getElem? {α : Type} {rows : List (List α)} {i : Nat} {x : α} (h : rows.flatten[i]? = some x) : ∃ r ∈ rows, x ∈ r := by
  have := List.mem_of_getElem? h
  simpa using this
theorem Own.share {w : World} {A F : Blks} {c : Cell} {v : Value} (h : Own w A F c v) :
    NoBox c → ∀ {A' F' : Blks}, (∀ b, A b ∨ F b → A' b) → Own w A' F' c.share v := by
  induction h with
  | lit v => exact fun _ _ _ _ => .lit v
  | nil o k => exact fun _ _ _ _ => .nil false k
  | emp k a => exact fun _ _ _ _ => .emp k a
  | bx => intro hnb; cases hnb
  | @shr F k rows b off cap c e fr hb hA hk hs hcap _ ih =>
    intro hnb A' F' hA'
    have hnb' : ∀ r ∈ rows, ∀ c ∈ r, NoBox c := by cases hnb; assumption
    have hl : (shareRows rows).length = rows.length := by simp [z059]
    have := Own.shr (w := w) (A := A') (F := F') (k := k) (rows := shareRows rows) (b := b) (off := off) (cap := cap) hb (hA' _ (.inl hA))
      (by rw [z059]; intro r hr; obtain ⟨r', h1, rfl⟩ := List.mem_map.1 hr; simpa using hk r' h1) (by rw [hl]; exact hs) (by rw [hl]; exact hcap)
      (by
        intro i x v h1 h2
        rw [z059, ← List.map_flatten, List.getElem?_map] at h1
        cases h3 : rows.flatten[i]? with
        | none => rw [h3] at h1; cases h1
        | some y =>
          rw [h3] at h1; cases h1
          obtain ⟨r, hr, hy⟩ := mem_flatten_of_getElem? h3
          exact ih i y v h3 h2 (hnb' r hr y hy) (fun b hb => hA' b (hb.imp id (fun f => f.elim))))
    rw [hl] at this
    exact this
  | @arr F k rows b cap c e G hb hk hs hcap hF hG hGb hd _ ih =>
    intro hnb A' F' hA'
    have hnb' : ∀ r ∈ rows, ∀ c ∈ r, NoBox c := by cases hnb; assumption
    have hl : (shareRows rows).length = rows.length := by simp [z059]
    have hm : rows.length * k ≤ cap * k := Nat.mul_le_mul_right _ hcap
    have := Own.shr (w := w) (A := A') (F := F') (k := k) (rows := shareRows rows) (b := b) (off := 0) (cap := cap) hb (hA' _ (.inr hF))
      (by rw [z059]; intro r hr; obtain ⟨r', h1, rfl⟩ := List.mem_map.1 hr; simpa using hk r' h1) (by rw [hl]; omega) (by rw [hl]; exact hcap)
      (by
        intro i x v h1 h2
        rw [z059, ← List.map_flatten, List.getElem?_map] at h1
        cases h3 : rows.flatten[i]? with
        | none => rw [h3] at h1; cases h1
        | some y =>
          rw [h3] at h1; cases h1
          obtain ⟨r, hr, hy⟩ := mem_flatten_of_getElem? h3
          exact ih i y v h3 (by simpa using h2) (hnb' r hr y hy) (fun b hb => hA' b (hb.imp id (hG i b))))
    rw [hl] at this
    exact this
end Go.Am
end
section
namespace Go.Am
open Go
abbrev Path := List (Nat × Nat)
inductive AV where
  | dead
  | c (x : Cell)
  | row (xs : List Cell)
  | ref (id : Nat) (p : Path)
  | ptr (id : Nat) (p : Path) (k i j : Nat)
  | bx (id : Nat) (j : Nat)
  | pts (xs : List Cell)
  | agg (xs : List AV)
  | tup (xs : List AV)
  | fn (f : FuncId) (caps : List AV)
  deriving Inhabited
inductive Obj where
  | arr (k : Nat) (rows : List (List Cell))
  | box (xs : List AV)
  | mp (keys : List Int)
mutual
def AV.ids : AV → List Nat
  | .ref id _ => [id]
  | .ptr id _ _ _ _ => [id]
  | .bx id _ => [id]
  | .agg xs => idsL xs
  | .tup xs => idsL xs
  | .fn _ xs => idsL xs
  | .dead => []
  | .c _ => []
  | .row _ => []
  | .pts _ => []
def idsL : List AV → List Nat
  | [] => []
  | x :: r => x.ids ++ idsL r
end
def upd {α : Type} (f : Nat → α) (x : Nat) (v : α) : Nat → α := fun y => bif Nat.beq x y then v else f y
theorem z07i {α : Type} (f : Nat → α) (x : Nat) (v : α) (y : Nat) : upd f x v y = if x = y then v else f y := by
  show (bif Nat.beq x y then v else f y) = _
  by_cases h : x = y
  · subst h; simp
  · have h' : Nat.beq x y = false := by
      cases hb : Nat.beq x y with
      | false => rfl
      | true => exact absurd (Nat.eq_of_beq_eq_true hb) h
    rw [h', if_neg h]; rfl
theorem z02d {α : Type} (f : Nat → α) (x : Nat) (v : α) : upd f x v x = v := by rw [z07i, if_pos rfl]
theorem z07d {α : Type} (f : Nat → α) {x y : Nat} (v : α) (h : x ≠ y) : upd f x v y = f y := by rw [z07i, if_neg h]
theorem z16w {α : Type} (f : Nat → α) {x y : Nat} (v u : α) (h : x ≠ y) : upd (upd f x v) y u = upd (upd f y u) x v := by
  funext z
  simp only [z07i]
  by_cases h1 : y = z <;> by_cases h2 : x = z <;> simp [h1, h2]
  exact absurd (h2.trans h1.symm) h
structure St where
  env : Nat → Option AV
  obj : Nat → Option Obj
  used : Nat → Bool
def Cell.get : Cell → Path → Option Cell
  | c, [] => some c
  | .sl _ _ rows, (i, j) :: p => ((rows[i]?).bind (·[j]?)).bind (·.get p)
  | _, _ :: _ => none
def Hdr (w : World) : Cell → Value → Path → Value → Prop
  | _, v, [], v' => v' = v
  | .sl _ k rows, v, (i, j) :: p, v' =>
    ∃ b off n cap cs e fr u x, v = .slice (some ⟨b, off, none⟩) n cap ∧ w.heap[b]? = some (.cells cs e fr) ∧ cs[off + (i * k + j)]? = some u ∧
      (rows[i]?).bind (·[j]?) = some x ∧ j < k ∧ Hdr w x u p v'
  | _, _, _ :: _, _ => False
def Obj.root : Obj → Option Cell
  | .arr k rows => some (.sl true k rows)
  | _ => none
def St.cell (st : St) (id : Nat) (p : Path) : Option Cell := ((st.obj id).bind Obj.root).bind (·.get p)
inductive AVSim (w : World) (A : Blks) (hv : Nat → Value) (obj : Nat → Option Obj) : AV → Value → Prop
  | dead (v : Value) : AVSim w A hv obj .dead v
  | c {x : Cell} {v : Value} (h : Own w A noBlk x v) : AVSim w A hv obj (.c x) v
  | row {xs : List Cell} {vs : Array Value} (hs : vs.size = xs.length) (h : ∀ (i : Nat) x v, xs[i]? = some x → vs[i]? = some v → Own w A noBlk x v) : AVSim w A hv obj (.row xs) (.agg vs)
  | ref {id : Nat} {p : Path} {k k' : Nat} {o : Bool} {rows rows' : List (List Cell)} {v : Value} (ho : obj id = some (.arr k rows))
      (hg : (Cell.sl true k rows).get p = some (.sl o k' rows')) (hh : Hdr w (.sl true k rows) (hv id) p v) : AVSim w A hv obj (.ref id p) v
  | ptr {id : Nat} {p : Path} {k i j k0 : Nat} {rows : List (List Cell)} {o : Bool} {rows' : List (List Cell)} {b off n cap : Nat} (ho : obj id = some (.arr k0 rows))
      (hg : (Cell.sl true k0 rows).get p = some (.sl o k rows'))
      (hh : Hdr w (.sl true k0 rows) (hv id) p (.slice (some ⟨b, off, none⟩) n cap)) : AVSim w A hv obj (.ptr id p k i j) (.pointer (some ⟨b, off + (i * k + j), none⟩))
  | bx {id j b : Nat} {xs : List AV} (ho : obj id = some (.box xs)) (hh : hv id = .pointer (some ⟨b, 0, none⟩)) : AVSim w A hv obj (.bx id j) (.pointer (some ⟨b, j, none⟩))
  | pts {xs : List Cell} {b off : Nat} {c : Array Value} {e : TypeId} {fr : Nat × Nat} (hb : w.heap[b]? = some (.cells c e fr)) (hA : A b) (hs : off + xs.length ≤ c.size)
      (h : ∀ (i : Nat) x v, xs[i]? = some x → c[off + i]? = some v → Own w A noBlk x v) : AVSim w A hv obj (.pts xs) (.pointer (some ⟨b, off, none⟩))
  | mp {id : Nat} {ks : List Int} {v : Value} (ho : obj id = some (.mp ks)) (hh : hv id = v) : AVSim w A hv obj (.bx id 0) v
  | agg {xs : List AV} {vs : Array Value} (hs : vs.size = xs.length) (h : ∀ (i : Nat) x v, xs[i]? = some x → vs[i]? = some v → AVSim w A hv obj x v) : AVSim w A hv obj (.agg xs) (.agg vs)
  | tup {xs : List AV} {vs : Array Value} (hs : vs.size = xs.length) (h : ∀ (i : Nat) x v, xs[i]? = some x → vs[i]? = some v → AVSim w A hv obj x v) : AVSim w A hv obj (.tup xs) (.tuple vs)
  | fn {f : FuncId} {xs : List AV} {vs : Array Value} (hs : vs.size = xs.length) (h : ∀ (i : Nat) x v, xs[i]? = some x → vs[i]? = some v → AVSim w A hv obj x v) :
      AVSim w A hv obj (.fn f xs) (.func (.func f) #[] vs)
def Live (obj : Nat → Option Obj) (av : AV) : Prop := ∀ id ∈ av.ids, (obj id).isSome = true
def MapIs (keys : List Int) (es : Array MapEntry) : Prop := es.toList.map (fun e => (e.key, e.val)) = keys.map fun n => (Value.int .i64 n, Value.bool true)
def ObjSim (w : World) (A : Blks) (hv : Nat → Value) (obj : Nat → Option Obj) (T : Blks) (id : Nat) : Obj → Prop
  | .arr k rows => Own w A T (.sl true k rows) (hv id)
  | .box xs => ∃ b c e, hv id = .pointer (some ⟨b, 0, none⟩) ∧ w.heap[b]? = some (.cells c e (0, 0)) ∧ c.size = xs.length ∧ T b ∧
      ∀ (i : Nat) x v, xs[i]? = some x → c[i]? = some v → Live obj x → AVSim w A hv obj x v
  | .mp keys => ∃ b es clock, hv id = .map (some b) ∧ w.heap[b]? = some (.map es clock) ∧ T b ∧ keys.Nodup ∧ MapIs keys es
structure Frame (F : Blks) (w w' : World) : Prop where
  heap : ∀ b, b < w.heap.size → ¬ F b → w'.heap[b]? = w.heap[b]?
  size : w.heap.size ≤ w'.heap.size
  os : w'.os = w.os
  output : w'.output = w.output
theorem Frame.refl (F : Blks) (w : World) : Frame F w w := ⟨fun _ _ _ => rfl, Nat.le_refl _, rfl, rfl⟩
theorem Frame.trans {F G : Blks} {w w1 w2 : World} (h : Frame F w w1) (h' : Frame G w1 w2) (hG : ∀ b, G b → F b ∨ w.heap.size ≤ b) : Frame F w w2 :=
  ⟨fun b hb hf => (h'.heap b (Nat.lt_of_lt_of_le hb h.size) (fun hg => (hG b hg).elim hf (fun hl => absurd hb (by omega)))).trans (h.heap b hb hf),
   Nat.le_trans h.size h'.size, h'.os.trans h.os, h'.output.trans h.output⟩
theorem Frame.mono {F G : Blks} {w w' : World} (h : Frame F w w') (hG : ∀ b, F b → G b) : Frame G w w' :=
  ⟨fun b hb hg => h.heap b hb (fun hf => hg (hG b hf)), h.size, h.os, h.output⟩
def Sh (A0 F0 : Blks) (w0 : World) (T : Nat → Blks) (obj : Nat → Option Obj) (w : World) : Blks := fun b =>
  (A0 b ∨ F0 b ∨ w0.heap.size ≤ b) ∧ b < w.heap.size ∧ ∀ id, (obj id).isSome = true → ¬ T id b
structure StSim (n : Nat) (pn : Nat → Option Value) (w0 : World) (A0 F0 : Blks) (hv : Nat → Value) (T : Nat → Blks) (st : St) (a : Act) (w : World) : Prop where
  size : a.tmps.size = n
  defers : a.defers = []
  frame : Frame F0 w0 w
  env : ∀ x av, st.env x = some av → Live st.obj av → ∃ v, a.tmps[x]? = some v ∧ AVSim w (Sh A0 F0 w0 T st.obj w) hv st.obj av v
  heap : ∀ id o, st.obj id = some o → ObjSim w (Sh A0 F0 w0 T st.obj w) hv st.obj (T id) id o
  own : ∀ id, (st.obj id).isSome = true → ∀ b, T id b → (F0 b ∨ w0.heap.size ≤ b) ∧ b < w.heap.size
  dis : ∀ i j, i ≠ j → (st.obj i).isSome = true → (st.obj j).isSome = true → ∀ b, T i b → ¬ T j b
  slt : ∀ x av, st.env x = some av → x < n
  uenv : ∀ x av, st.env x = some av → ∀ id ∈ av.ids, st.used id = true
  uobj : ∀ id, (st.obj id).isSome = true → st.used id = true
  pin : ∀ id v, pn id = some v → st.used id = true ∧ ((st.obj id).isSome = true → hv id = v)
  ubox : ∀ id xs, st.obj id = some (.box xs) → ∀ j ∈ idsL xs, st.used j = true
  pbig : ∀ id v, pn id = some v → 1000000 ≤ id
def Sim (n : Nat) (pn : Nat → Option Value) (w0 : World) (A0 F0 : Blks) (st : St) (a : Act) (w : World) : Prop := ∃ hv T, StSim n pn w0 A0 F0 hv T st a w
structure Base (w0 : World) (A0 F0 : Blks) : Prop where
  a : ∀ b, A0 b → b < w0.heap.size
  f : ∀ b, F0 b → b < w0.heap.size
  af : ∀ b, A0 b → ¬ F0 b
theorem Hdr.frame {w w' : World} {A F : Blks} {c : Cell} {v : Value} (h : Own w A F c v) (hw : ∀ b, A b ∨ F b → w'.heap[b]? = w.heap[b]?) :
    ∀ {p : Path} {v' : Value}, Hdr w c v p v' → Hdr w' c v p v' := by
  induction h with
  | lit v => intro p v' hh; cases p <;> simp only [Hdr] at hh ⊢ <;> exact hh
  | nil o k => intro p v' hh; cases p <;> simp only [Hdr] at hh ⊢ <;> first | exact hh | (obtain ⟨_, _, _, _, _, _, _, _, _, hv, _⟩ := hh; cases hv)
  | emp k a =>
    intro p v' hh
    cases p with
    | nil => exact hh
    | cons ij p =>
      obtain ⟨i, j⟩ := ij
      simp only [Hdr] at hh
      obtain ⟨b, off, n, cap, cs, e, fr, u, x, hv, hb, hu, hx, _⟩ := hh
      simp at hx
  | @shr F k rows b off cap c e fr hb hA hk hs hcap hsub ih =>
    intro p v' hh
    cases p with
    | nil => exact hh
    | cons ij p =>
      obtain ⟨i, j⟩ := ij
      simp only [Hdr] at hh ⊢
      obtain ⟨b', off', n', cap', cs, e', fr', u, x, hv, hb', hu, hx, hj, hrest⟩ := hh
      cases hv
      have heq : w'.heap[b]? = w.heap[b]? := hw _ (.inl hA)
      refine ⟨b, off, _, _, cs, e', fr', u, x, rfl, by rw [heq]; exact hb', hu, hx, hj, ?_⟩
      have hcs : cs = c := by rw [hb] at hb'; cases hb'; rfl
      subst hcs
      have hflat : rows.flatten[i * k + j]? = some x := by
        cases hr : rows[i]? with
        | none => rw [hr] at hx; cases hx
        | some r =>
          rw [hr] at hx
          have hi := (List.getElem?_eq_some_iff.1 hr).1
          have := List.flatten_getElem?_of_const (k := k) (rows := rows) hk i j hj
          rw [this, hr]; exact hx
      exact ih _ x u hflat hu (fun b hb => hw b (hb.imp id (fun f => f.elim))) hrest
  | @arr F k rows b cap c e G hb hk hs hcap hF hG hGb hd hsub ih =>
    intro p v' hh
    cases p with
    | nil => exact hh
    | cons ij p =>
      obtain ⟨i, j⟩ := ij
      simp only [Hdr] at hh ⊢
      obtain ⟨b', off', n', cap', cs, e', fr', u, x, hv, hb', hu, hx, hj, hrest⟩ := hh
      cases hv
      have heq : w'.heap[b]? = w.heap[b]? := hw _ (.inr hF)
      refine ⟨b, 0, _, _, cs, e', fr', u, x, rfl, by rw [heq]; exact hb', hu, hx, hj, ?_⟩
      have hcs : cs = c := by rw [hb] at hb'; cases hb'; rfl
      subst hcs
      have hflat : rows.flatten[i * k + j]? = some x := by
        cases hr : rows[i]? with
        | none => rw [hr] at hx; cases hx
        | some r =>
          rw [hr] at hx
          have := List.flatten_getElem?_of_const (k := k) (rows := rows) hk i j hj
          rw [this, hr]; exact hx
      exact ih _ x u hflat (by simpa using hu) (fun b hb => hw b (hb.imp id (hG _ b))) hrest
  | bx => intro p v' hh; cases p <;> simp only [Hdr] at hh ⊢ <;> exact hh
end Go.Am
end
section
namespace Go.Am
open Go
theorem z02o {xs : List AV} {i : Nat} {x : AV} {id : Nat} (h : xs[i]? = some x) (hx : id ∈ x.ids) : id ∈ idsL xs := by
  induction xs generalizing i with
  | nil => simp at h
  | cons y ys ih =>
    cases i with
    | zero => simp at h; subst h; simp [idsL, hx]
    | succ i =>
      simp only [List.getElem?_cons_succ] at h
      simp only [idsL, List.mem_append]
      exact .inr (ih h)
section
variable {pn : Nat → Option Value} {w0 : World} {A0 F0 : Blks} {hv hv' : Nat → Value} {T T' : Nat → Blks} {obj obj' : Nat → Option Obj} {w w' : World} {D : Nat → Prop}
structure Trade (w0 : World) (A0 F0 : Blks) (hv hv' : Nat → Value) (T T' : Nat → Blks) (obj obj' : Nat → Option Obj) (D : Nat → Prop) (w w' : World) : Prop where
  here : ∀ id, D id → (obj id).isSome = true
  frame : Frame (fun b => ∃ d, D d ∧ T d b) w w'
  old : ∀ id, (obj id).isSome = true → ¬ D id → obj' id = obj id ∧ hv' id = hv id ∧ T' id = T id
  new : ∀ id, (obj' id).isSome = true → (D id ∨ obj id = none) → ∀ b, T' id b → (∃ d, D d ∧ T d b) ∨ (w.heap.size ≤ b ∧ b < w'.heap.size)
theorem Trade.sh (h : Trade w0 A0 F0 hv hv' T T' obj obj' D w w') {b : Nat} (hb : Sh A0 F0 w0 T obj w b) : Sh A0 F0 w0 T' obj' w' b := by
  obtain ⟨h1, h2, h3⟩ := hb
  refine ⟨h1, Nat.lt_of_lt_of_le h2 h.frame.size, fun id hid hT => ?_⟩
  by_cases hn : D id ∨ obj id = none
  · rcases h.new id hid hn b hT with ⟨d, hd, hTd⟩ | ⟨hl, _⟩
    · exact h3 d (h.here d hd) hTd
    · omega
  · have hs : (obj id).isSome = true := by
      cases ho : obj id with
      | none => exact absurd (.inr ho) hn
      | some _ => rfl
    have hnd : ¬ D id := fun hd => hn (.inl hd)
    obtain ⟨_, _, e⟩ := h.old id hs hnd
    rw [e] at hT
    exact h3 id hs hT
theorem Trade.same (h : Trade w0 A0 F0 hv hv' T T' obj obj' D w w') {b : Nat} (hb : Sh A0 F0 w0 T obj w b) : w'.heap[b]? = w.heap[b]? :=
  h.frame.heap b hb.2.1 fun ⟨d, hd, hT⟩ => hb.2.2 d (h.here d hd) hT
theorem Trade.own (h : Trade w0 A0 F0 hv hv' T T' obj obj' D w w') {c : Cell} {v : Value} (ho : Own w (Sh A0 F0 w0 T obj w) noBlk c v) :
    Own w' (Sh A0 F0 w0 T' obj' w') noBlk c v :=
  (ho.frame fun _ hb => hb.elim h.same (fun f => f.elim)).mono (fun _ hb => h.sh hb) (fun _ f => f)
theorem Trade.keep (h : Trade w0 A0 F0 hv hv' T T' obj obj' D w w')
    (hdis : ∀ i j, i ≠ j → (obj i).isSome = true → (obj j).isSome = true → ∀ b, T i b → ¬ T j b)
    (hown : ∀ id, (obj id).isSome = true → ∀ b, T id b → b < w.heap.size)
    (hheap : ∀ id k rows, obj id = some (.arr k rows) → Own w (Sh A0 F0 w0 T obj w) (T id) (.sl true k rows) (hv id)) {av : AV} {v : Value}
    (ha : AVSim w (Sh A0 F0 w0 T obj w) hv obj av v) : (∀ id ∈ av.ids, ¬ D id) → AVSim w' (Sh A0 F0 w0 T' obj' w') hv' obj' av v := by
  have hblk : ∀ id, (obj id).isSome = true → ¬ D id → ∀ b, Sh A0 F0 w0 T obj w b ∨ T id b → w'.heap[b]? = w.heap[b]? := by
    intro id hs hnd b hb
    rcases hb with hb | hb
    · exact h.same hb
    · refine h.frame.heap b (hown id hs b hb) ?_
      rintro ⟨d, hd, hT⟩
      by_cases e : d = id
      · subst e; exact hnd hd
      · exact hdis d id e (h.here d hd) hs b hT hb
  induction ha with
  | dead v => exact fun _ => .dead v
  | c ho => exact fun _ => .c (h.own ho)
  | row hs hh => exact fun _ => .row hs fun i x v h1 h2 => h.own (hh i x v h1 h2)
  | @ref id p k k' o rows rows' v ho hg hh =>
    intro hid
    have hnd : ¬ D id := hid id (by simp [AV.ids])
    obtain ⟨e1, e2, _⟩ := h.old id (by simp [ho]) hnd
    refine .ref (by rw [e1]; exact ho) hg ?_
    rw [e2]
    exact Hdr.frame (hheap id k rows ho) (hblk id (by simp [ho]) hnd) hh
  | @ptr id p k i j k0 rows o rows' b off n cap ho hg hh =>
    intro hid
    have hnd : ¬ D id := hid id (by simp [AV.ids])
    obtain ⟨e1, e2, _⟩ := h.old id (by simp [ho]) hnd
    refine .ptr (n := n) (cap := cap) (by rw [e1]; exact ho) hg ?_
    rw [e2]
    exact Hdr.frame (hheap id k0 rows ho) (hblk id (by simp [ho]) hnd) hh
  | @bx id j b xs ho hh =>
    intro hid
    have hnd : ¬ D id := hid id (by simp [AV.ids])
    obtain ⟨e1, e2, _⟩ := h.old id (by simp [ho]) hnd
    exact .bx (by rw [e1]; exact ho) (by rw [e2]; exact hh)
  | @pts xs b off c e fr hb hA hs hh =>
    intro _
    exact .pts (by rw [h.same hA]; exact hb) (h.sh hA) hs fun i x v h1 h2 => h.own (hh i x v h1 h2)
  | @mp id ks v ho hh =>
    intro hid
    have hnd : ¬ D id := hid id (by simp [AV.ids])
    obtain ⟨e1, e2, _⟩ := h.old id (by simp [ho]) hnd
    exact .mp (by rw [e1]; exact ho) (by rw [e2]; exact hh)
  | @agg xs vs hs hh ih =>
    intro hid
    refine .agg hs fun i x v h1 h2 => ih i x v h1 h2 fun id hx => hid id ?_
    simp only [AV.ids]
    exact z02o h1 hx
  | @tup xs vs hs hh ih =>
    intro hid
    refine .tup hs fun i x v h1 h2 => ih i x v h1 h2 fun id hx => hid id ?_
    simp only [AV.ids]
    exact z02o h1 hx
  | @fn f xs vs hs hh ih =>
    intro hid
    refine .fn hs fun i x v h1 h2 => ih i x v h1 h2 fun id hx => hid id ?_
    simp only [AV.ids]
    exact z02o h1 hx
end
section
variable {n : Nat} {pn : Nat → Option Value} {w0 : World} {A0 F0 : Blks} {hv hv' : Nat → Value} {T T' : Nat → Blks} {st st' : St} {a a' : Act} {w w' : World} {D : Nat → Prop}
theorem StSim.trade (h : StSim n pn w0 A0 F0 hv T st a w) (t : Trade w0 A0 F0 hv hv' T T' st.obj st'.obj D w w')
    (hsz : a'.tmps.size = n) (hdf : a'.defers = [])
    (hdis : ∀ i j, i ≠ j → ((st'.obj i).isSome = true ∧ (D i ∨ st.obj i = none)) → ((st'.obj j).isSome = true ∧ (D j ∨ st.obj j = none)) → ∀ b, T' i b → ¬ T' j b)
    (hnew : ∀ id o, (D id ∨ st.obj id = none) → st'.obj id = some o → ObjSim w' (Sh A0 F0 w0 T' st'.obj w') hv' st'.obj (T' id) id o)
    (hsl : ∀ x av, st'.env x = some av → x < n) (hue : ∀ x av, st'.env x = some av → ∀ id ∈ av.ids, st'.used id = true) (huo : ∀ id, (st'.obj id).isSome = true → st'.used id = true)
    (hpn : ∀ id v, pn id = some v → st'.used id = true ∧ ((st'.obj id).isSome = true → hv' id = v))
    (hub : ∀ id xs, st'.obj id = some (.box xs) → ∀ j ∈ idsL xs, st'.used j = true)
    (hbox : ∀ id xs, st.obj id = some (.box xs) → ¬ D id → ∀ av ∈ xs, Live st'.obj av → Live st.obj av ∧ ∀ v, AVSim w (Sh A0 F0 w0 T st.obj w) hv st.obj av v → AVSim w' (Sh A0 F0 w0 T' st'.obj w') hv' st'.obj av v)
    (henv : ∀ x av, st'.env x = some av → Live st'.obj av → ∃ v, a'.tmps[x]? = some v ∧ AVSim w' (Sh A0 F0 w0 T' st'.obj w') hv' st'.obj av v) :
    StSim n pn w0 A0 F0 hv' T' st' a' w' := by
  have hown' : ∀ id, (st.obj id).isSome = true → ∀ b, T id b → b < w.heap.size := fun id hs b hb => (h.own id hs b hb).2
  have isnew : ∀ id, (st'.obj id).isSome = true → ¬ (D id ∨ st.obj id = none) → (st.obj id).isSome = true ∧ ¬ D id := by
    intro id _ hn
    refine ⟨?_, fun hd => hn (.inl hd)⟩
    cases ho : st.obj id with
    | none => exact absurd (.inr ho) hn
    | some _ => rfl
  refine ⟨hsz, hdf, ?_, henv, ?_, ?_, ?_, hsl, hue, huo, hpn, hub, h.pbig⟩
  · refine h.frame.trans t.frame ?_
    rintro b ⟨d, hd, hT⟩
    exact (h.own d (t.here d hd) b hT).1
  · intro id o ho
    by_cases hn : D id ∨ st.obj id = none
    · exact hnew id o hn ho
    · obtain ⟨hs, hnd⟩ := isnew id (by simp [ho]) hn
      obtain ⟨e1, e2, e3⟩ := t.old id hs hnd
      rw [e1] at ho
      have hold := h.heap id o ho
      rw [e3]
      have hb : ∀ b, Sh A0 F0 w0 T st.obj w b ∨ T id b → w'.heap[b]? = w.heap[b]? := by
        intro b hb
        rcases hb with hb | hb
        · exact t.same hb
        · refine t.frame.heap b (hown' id hs b hb) ?_
          rintro ⟨d, hd, hT⟩
          by_cases e : d = id
          · subst e; exact hnd hd
          · exact h.dis d id e (t.here d hd) hs b hT hb
      cases o with
      | arr k rows =>
        simp only [ObjSim] at hold ⊢
        rw [e2]
        exact (hold.frame hb).mono (fun _ hx => t.sh hx) (fun _ hx => hx)
      | box xs =>
        simp only [ObjSim] at hold ⊢
        obtain ⟨b, c, e, h1, h2, h3, h4, h5⟩ := hold
        refine ⟨b, c, e, by rw [e2]; exact h1, by rw [hb b (.inr h4)]; exact h2, h3, h4, ?_⟩
        intro i x v hx hc hl
        have hm := hbox id xs ho hnd x (List.mem_of_getElem? hx) hl
        exact hm.2 v (h5 i x v hx hc hm.1)
      | mp keys =>
        simp only [ObjSim] at hold ⊢
        obtain ⟨b, es, clock, h1, h2, h3, h4⟩ := hold
        exact ⟨b, es, clock, by rw [e2]; exact h1, by rw [hb b (.inr h3)]; exact h2, h3, h4⟩
  · intro id hs b hb
    by_cases hn : D id ∨ st.obj id = none
    · rcases t.new id hs hn b hb with ⟨d, hd, hT⟩ | ⟨h1, h2⟩
      · have := h.own d (t.here d hd) b hT
        exact ⟨this.1, Nat.lt_of_lt_of_le this.2 t.frame.size⟩
      · exact ⟨.inr (Nat.le_trans h.frame.size h1), h2⟩
    · obtain ⟨hs', hnd⟩ := isnew id hs hn
      obtain ⟨_, _, e3⟩ := t.old id hs' hnd
      rw [e3] at hb
      have := h.own id hs' b hb
      exact ⟨this.1, Nat.lt_of_lt_of_le this.2 t.frame.size⟩
  · intro i j hij hi hj b hTi hTj
    by_cases hni : D i ∨ st.obj i = none
    · by_cases hnj : D j ∨ st.obj j = none
      · exact hdis i j hij ⟨hi, hni⟩ ⟨hj, hnj⟩ b hTi hTj
      · obtain ⟨hs, hnd⟩ := isnew j hj hnj
        obtain ⟨_, _, e3⟩ := t.old j hs hnd
        rw [e3] at hTj
        rcases t.new i hi hni b hTi with ⟨d, hd, hT⟩ | ⟨h1, h2⟩
        · have : d ≠ j := fun e => hnd (e ▸ hd)
          exact h.dis d j this (t.here d hd) hs b hT hTj
        · have := (h.own j hs b hTj).2; omega
    · obtain ⟨hs, hnd⟩ := isnew i hi hni
      obtain ⟨_, _, e3⟩ := t.old i hs hnd
      rw [e3] at hTi
      by_cases hnj : D j ∨ st.obj j = none
      · rcases t.new j hj hnj b hTj with ⟨d, hd, hT⟩ | ⟨h1, h2⟩
        · have : d ≠ i := fun e => hnd (e ▸ hd)
          exact h.dis d i this (t.here d hd) hs b hT hTi
        · have := (h.own i hs b hTi).2; omega
      · obtain ⟨hs', hnd'⟩ := isnew j hj hnj
        obtain ⟨_, _, e3'⟩ := t.old j hs' hnd'
        rw [e3'] at hTj
        exact h.dis i j hij hs hs' b hTi hTj
theorem StSim.keepAV (h : StSim n pn w0 A0 F0 hv T st a w) (t : Trade w0 A0 F0 hv hv' T T' st.obj st'.obj D w w') {av : AV} {v : Value}
    (ha : AVSim w (Sh A0 F0 w0 T st.obj w) hv st.obj av v) (hid : ∀ id ∈ av.ids, ¬ D id) : AVSim w' (Sh A0 F0 w0 T' st'.obj w') hv' st'.obj av v :=
  Trade.keep t h.dis (fun id hs b hb => (h.own id hs b hb).2) (fun id _ _ ho => h.heap id _ ho) ha hid
end
end Go.Am
end
section
namespace Go.Am
open Go
mutual
def AV.hasPath (id : Nat) : AV → Bool
  | .ref i (_ :: _) => Nat.beq i id
  | .ptr i (_ :: _) _ _ _ => Nat.beq i id
  | .agg xs => hasPathL id xs
  | .tup xs => hasPathL id xs
  | .fn _ xs => hasPathL id xs
  | .dead => false
  | .c _ => false
  | .row _ => false
  | .pts _ => false
  | .bx _ _ => false
  | .ref _ [] => false
  | .ptr _ [] _ _ _ => false
def hasPathL (id : Nat) : List AV → Bool
  | [] => false
  | x :: r => x.hasPath id || hasPathL id r
end
def Obj.ids : Obj → List Nat
  | .box xs => idsL xs
  | _ => []
def addU (u : Nat → Bool) (l : List Nat) : Nat → Bool := fun i => u i || l.any (Nat.beq · i)
theorem z00g {u : Nat → Bool} {l : List Nat} {i : Nat} : addU u l i = true ↔ u i = true ∨ i ∈ l := by
  unfold addU
  simp only [Bool.or_eq_true, List.any_eq_true]
  constructor
  · rintro (h | ⟨x, hx, he⟩)
    · exact .inl h
    · exact .inr (Nat.eq_of_beq_eq_true he ▸ hx)
  · rintro (h | h)
    · exact .inl h
    · exact .inr ⟨i, h, by simp⟩
inductive Upd where
  | set (x : Nat) (av : AV)
  | put (id : Nat) (o : Obj)
  | del (id : Nat)
  | kill (id : Nat)
def killAV (id : Nat) (av : AV) : AV := bif av.hasPath id then .dead else av
def Obj.killp (id : Nat) : Obj → Obj
  | .box xs => .box (xs.map (killAV id))
  | o => o
def Upd.app (st : St) : Upd → St
  | .set x av => ⟨upd st.env x (some av), st.obj, addU st.used av.ids⟩
  | .put id o => ⟨st.env, upd st.obj id (some o), addU st.used (id :: o.ids)⟩
  | .del id => ⟨st.env, upd st.obj id none, st.used⟩
  | .kill id => ⟨fun x => (st.env x).map (killAV id), fun i => (st.obj i).map (Obj.killp id), st.used⟩
def apps : List Upd → St → St
  | [], st => st
  | u :: us, st => apps us (u.app st)
def constAV : Value → AV
  | .agg vs => .row (vs.toList.map .lit)
  | v => .c (.lit v)
def opIs (st : St) : Operand → AV → Prop
  | .tmp t, av => st.env t = some av
  | .const v, av => av = constAV v
  | .func f, av => av = .fn f []
  | .global _, _ => False
inductive Req where
  | opd (x : Operand) (av : AV)
  | obj (id : Nat) (o : Obj)
  | fresh (id : Nat)
  | live (id : Nat)
def Req.sat (st : St) : Req → Prop
  | .opd x av => opIs st x av
  | .obj id o => st.obj id = some o
  | .fresh id => st.used id = false
  | .live id => (st.obj id).isSome = true
def Upd.slots : Upd → List Nat
  | .set x _ => [x]
  | _ => []
def Upd.objs : Upd → List Nat
  | .put id _ => [id]
  | .del id => [id]
  | _ => []
def Upd.ments : Upd → List Nat
  | .set _ av => av.ids
  | .put id o => id :: o.ids
  | _ => []
def Upd.noKill : Upd → Bool
  | .kill _ => false
  | _ => true
def Req.slots : Req → List Nat
  | .opd (.tmp x) _ => [x]
  | _ => []
def Req.objs : Req → List Nat
  | .obj id _ => [id]
  | .live id => [id]
  | _ => []
def Req.freshs : Req → List Nat
  | .fresh id => [id]
  | _ => []
structure Item where
  i : Nat
  rs : List Req
  us : List Upd
def apartL (l m : List Nat) : Bool := l.all fun x => m.all fun y => !Nat.beq x y
theorem z0ap {l m : List Nat} (h : apartL l m = true) {x : Nat} (hx : x ∈ l) : x ∉ m := by
  intro hy
  have := (List.all_eq_true.1 ((List.all_eq_true.1 h) x hx)) x hy
  simp at this
def compat (x y : Item) : Bool :=
  x.us.all Upd.noKill && y.us.all Upd.noKill &&
  apartL (x.us.flatMap Upd.slots) (y.rs.flatMap Req.slots) && apartL (x.us.flatMap Upd.slots) (y.us.flatMap Upd.slots) &&
  apartL (y.us.flatMap Upd.slots) (x.rs.flatMap Req.slots) &&
  apartL (x.us.flatMap Upd.objs) (y.rs.flatMap Req.objs) && apartL (x.us.flatMap Upd.objs) (y.us.flatMap Upd.objs) &&
  apartL (y.us.flatMap Upd.objs) (x.rs.flatMap Req.objs) && apartL (x.rs.flatMap Req.freshs) (y.us.flatMap Upd.ments)
theorem apps_append (us vs : List Upd) (st : St) : apps (us ++ vs) st = apps vs (apps us st) := by
  induction us generalizing st with
  | nil => rfl
  | cons u us ih => exact ih _
theorem z258 {u : Upd} (hk : u.noKill = true) {st : St} {x : Nat} (hx : x ∉ u.slots) : (u.app st).env x = st.env x := by
  cases u with
  | set y av => exact z07d _ _ (fun e => hx (by simp [Upd.slots, e]))
  | kill => cases hk
  | _ => rfl
theorem z259 {u : Upd} (hk : u.noKill = true) {st : St} {x : Nat} (hx : x ∉ u.objs) : (u.app st).obj x = st.obj x := by
  cases u with
  | kill => cases hk
  | put y o => exact z07d _ _ (fun e => hx (by simp [Upd.objs, e]))
  | del y => exact z07d _ _ (fun e => hx (by simp [Upd.objs, e]))
  | _ => rfl
theorem z239 {u : Upd} {st : St} {i : Nat} : (u.app st).used i = true ↔ st.used i = true ∨ i ∈ u.ments := by
  cases u with
  | set y av => exact z00g
  | put y o => exact z00g
  | _ => simp [Upd.app, Upd.ments]
theorem z1wi {us : List Upd} (hk : us.all Upd.noKill = true) {st : St} {x : Nat} (hx : x ∉ us.flatMap Upd.slots) : (apps us st).env x = st.env x := by
  induction us generalizing st with
  | nil => rfl
  | cons u us ih =>
    simp only [List.all_cons, Bool.and_eq_true] at hk
    simp only [List.flatMap_cons, List.mem_append, not_or] at hx
    exact (ih hk.2 hx.2).trans (z258 hk.1 hx.1)
theorem z1ba {us : List Upd} (hk : us.all Upd.noKill = true) {st : St} {x : Nat} (hx : x ∉ us.flatMap Upd.objs) : (apps us st).obj x = st.obj x := by
  induction us generalizing st with
  | nil => rfl
  | cons u us ih =>
    simp only [List.all_cons, Bool.and_eq_true] at hk
    simp only [List.flatMap_cons, List.mem_append, not_or] at hx
    exact (ih hk.2 hx.2).trans (z259 hk.1 hx.1)
theorem z1ra {us : List Upd} {st : St} {i : Nat} : (apps us st).used i = true ↔ st.used i = true ∨ i ∈ us.flatMap Upd.ments := by
  induction us generalizing st with
  | nil => simp [apps]
  | cons u us ih =>
    show (apps us (u.app st)).used i = true ↔ _
    rw [ih, z239]
    simp [List.flatMap_cons, or_assoc]
theorem z238 {u v : Upd} (hu : u.noKill = true) (hv : v.noKill = true) (hs : ∀ x ∈ u.slots, x ∉ v.slots) (ho : ∀ x ∈ u.objs, x ∉ v.objs) (st : St) :
    v.app (u.app st) = u.app (v.app st) := by
  have hus : ∀ (f : Nat → Bool) (l m : List Nat), addU (addU f l) m = addU (addU f m) l := by
    intro f l m; funext i; unfold addU
    cases f i <;> cases l.any (Nat.beq · i) <;> cases m.any (Nat.beq · i) <;> rfl
  cases u with
  | kill => cases hu
  | set x a =>
    cases v with
    | kill => cases hv
    | set y b =>
      have hne : x ≠ y := fun e => hs x (by simp [Upd.slots]) (by simp [Upd.slots, e])
      simp only [Upd.app]; rw [z16w _ _ _ hne, hus]
    | put y b => simp only [Upd.app]; rw [hus]
    | del y => rfl
  | put x a =>
    cases v with
    | kill => cases hv
    | set y b => simp only [Upd.app]; rw [hus]
    | put y b =>
      have hne : x ≠ y := fun e => ho x (by simp [Upd.objs]) (by simp [Upd.objs, e])
      simp only [Upd.app]; rw [z16w _ _ _ hne, hus]
    | del y =>
      have hne : x ≠ y := fun e => ho x (by simp [Upd.objs]) (by simp [Upd.objs, e])
      simp only [Upd.app]; rw [z16w _ _ _ hne]
  | del x =>
    cases v with
    | kill => cases hv
    | set y b => rfl
    | put y b =>
      have hne : x ≠ y := fun e => ho x (by simp [Upd.objs]) (by simp [Upd.objs, e])
      simp only [Upd.app]; rw [z16w _ _ _ hne]
    | del y =>
      have hne : x ≠ y := fun e => ho x (by simp [Upd.objs]) (by simp [Upd.objs, e])
      simp only [Upd.app]; rw [z16w _ _ _ hne]
theorem z0ya {u : Upd} (hu : u.noKill = true) : ∀ {vs : List Upd}, vs.all Upd.noKill = true → (∀ x ∈ u.slots, x ∉ vs.flatMap Upd.slots) → (∀ x ∈ u.objs, x ∉ vs.flatMap Upd.objs) →
    ∀ st, apps vs (u.app st) = u.app (apps vs st)
  | [], _, _, _, _ => rfl
  | v :: vs, hv, hs, ho, st => by
    simp only [List.all_cons, Bool.and_eq_true] at hv
    simp only [List.flatMap_cons, List.mem_append, not_or] at hs ho
    show apps vs (v.app (u.app st)) = u.app (apps vs (v.app st))
    rw [z238 hu hv.1 (fun x hx => (hs x hx).1) (fun x hx => (ho x hx).1)]
    exact z0ya hu hv.2 (fun x hx => (hs x hx).2) (fun x hx => (ho x hx).2) _
theorem z1r9 : ∀ {us vs : List Upd}, us.all Upd.noKill = true → vs.all Upd.noKill = true → (∀ x ∈ us.flatMap Upd.slots, x ∉ vs.flatMap Upd.slots) →
    (∀ x ∈ us.flatMap Upd.objs, x ∉ vs.flatMap Upd.objs) → ∀ st, apps vs (apps us st) = apps us (apps vs st)
  | [], _, _, _, _, _, _ => rfl
  | u :: us, vs, hu, hv, hs, ho, st => by
    simp only [List.all_cons, Bool.and_eq_true] at hu
    simp only [List.flatMap_cons, List.mem_append] at hs ho
    show apps vs (apps us (u.app st)) = apps us (u.app (apps vs st))
    rw [z1r9 hu.2 hv (fun x hx => hs x (.inr hx)) (fun x hx => ho x (.inr hx)), z0ya hu.1 hv (fun x hx => hs x (.inl hx)) (fun x hx => ho x (.inl hx))]
section
variable {P : Program} {ops : Array Oper} {n : Nat}
def OpL (P : Program) (ops : Array Oper) (n : Nat) (o : Oper) (rs : List Req) (us : List Upd) : Prop :=
  ∀ (pn : Nat → Option Value) (w0 : World) (A0 F0 : Blks) (st : St) (a : Act) (w : World), Base w0 A0 F0 → Sim n pn w0 A0 F0 st a w → (∀ r ∈ rs, r.sat st) →
    ∀ (K : Act → World → Prop) (Q : Exit → Act → World → Prop), (∀ a' w', Sim n pn w0 A0 F0 (apps us st) a' w' → K a' w') →
      if Region.wanted o (yielded ops a.tmps) then o.wp P a w K Q else K (a.put o.dst undef) w
def ChainI (P : Program) (ops : Array Oper) (n : Nat) : St → List Item → St → Prop
  | st, [], fin => st = fin
  | st, it :: rest, fin => (∃ o, ops[it.i]? = some o ∧ OpL P ops n o it.rs it.us) ∧ (∀ r ∈ it.rs, r.sat st) ∧ ChainI P ops n (apps it.us st) rest fin
theorem z1vt {us : List Upd} (hk : us.all Upd.noKill = true) {st : St} {r : Req} (hs : ∀ x ∈ us.flatMap Upd.slots, x ∉ r.slots) (ho : ∀ x ∈ us.flatMap Upd.objs, x ∉ r.objs)
    (h : r.sat (apps us st)) : r.sat st := by
  cases r with
  | opd x av =>
    cases x with
    | tmp x => exact (z1wi (st := st) hk (fun hx => hs x hx (by simp [Req.slots]))).symm.trans h
    | const v => exact h
    | func f => exact h
    | global g => exact h
  | obj id o => exact (z1ba (st := st) hk (fun hx => ho id hx (by simp [Req.objs]))).symm.trans h
  | live id =>
    have e := z1ba (st := st) (x := id) (us := us) hk (fun hx => ho id hx (by simp [Req.objs]))
    simp only [Req.sat] at h ⊢
    rw [e] at h; exact h
  | fresh id =>
    simp only [Req.sat] at h ⊢
    cases hu : st.used id with
    | false => rfl
    | true => rw [z1ra.2 (.inl hu)] at h; cases h
theorem z24p {us : List Upd} (hk : us.all Upd.noKill = true) {st : St} {r : Req} (hs : ∀ x ∈ us.flatMap Upd.slots, x ∉ r.slots) (ho : ∀ x ∈ us.flatMap Upd.objs, x ∉ r.objs)
    (hf : ∀ x ∈ r.freshs, x ∉ us.flatMap Upd.ments) (h : r.sat st) : r.sat (apps us st) := by
  cases r with
  | opd x av =>
    cases x with
    | tmp x => exact (z1wi hk (fun hx => hs x hx (by simp [Req.slots]))).trans h
    | const v => exact h
    | func f => exact h
    | global g => exact h
  | obj id o => exact (z1ba hk (fun hx => ho id hx (by simp [Req.objs]))).trans h
  | live id =>
    have e := z1ba (st := st) (x := id) (us := us) hk (fun hx => ho id hx (by simp [Req.objs]))
    simp only [Req.sat] at h ⊢
    rw [e]; exact h
  | fresh id =>
    simp only [Req.sat] at h ⊢
    cases hu : (apps us st).used id with
    | false => rfl
    | true =>
      rcases z1ra.1 hu with h' | h'
      · rw [h] at h'; cases h'
      · exact absurd h' (hf id (by simp [Req.freshs]))
theorem z1x4 {st fin : St} {x y : Item} {rest : List Item} (hc : compat x y = true) (h : ChainI P ops n st (x :: y :: rest) fin) : ChainI P ops n st (y :: x :: rest) fin := by
  obtain ⟨hx, hsx, hy, hsy, hr⟩ := h
  simp only [compat, Bool.and_eq_true] at hc
  obtain ⟨⟨⟨⟨⟨⟨⟨⟨h1, h2⟩, h3⟩, h4⟩, h5⟩, h6⟩, h7⟩, h8⟩, h9⟩ := hc
  have mem : ∀ {f : Req → List Nat} {rs : List Req} {r : Req} {z : Nat}, r ∈ rs → z ∈ f r → z ∈ rs.flatMap f := fun hr hz => List.mem_flatMap.2 ⟨_, hr, hz⟩
  refine ⟨hy, fun r hr => ?_, hx, fun r hr => ?_, ?_⟩
  · exact z1vt h1 (fun z hz hz' => z0ap h3 hz (mem hr hz')) (fun z hz hz' => z0ap h6 hz (mem hr hz')) (hsy r hr)
  · exact z24p h2 (fun z hz hz' => z0ap h5 hz (mem hr hz')) (fun z hz hz' => z0ap h8 hz (mem hr hz')) (fun z hz => z0ap h9 (mem hr hz)) (hsx r hr)
  · rw [← z1r9 h1 h2 (fun z hz => z0ap h4 hz) (fun z hz => z0ap h7 hz)]
    exact hr
theorem z19r {y : Item} {post : List Item} {fin : St} : ∀ {pre : List Item} {st : St}, (∀ x ∈ pre, compat x y = true) → ChainI P ops n st (pre ++ y :: post) fin → ChainI P ops n st (y :: (pre ++ post)) fin
  | [], _, _, h => h
  | x :: pre, st, hc, h => by
    obtain ⟨hx, hsx, hr⟩ := h
    have := z19r (fun z hz => hc z (by simp [hz])) hr
    exact z1x4 (hc x (by simp)) ⟨hx, hsx, this⟩
def predsB (ops : Array Oper) : Nat → Nat → Nat → Bool
  | 0, _, _ => false
  | fuel + 1, y, x => match ops[y]? with
    | some o => o.after.toList.any fun e => Region.binds .any e && (Nat.beq e.on x || predsB ops fuel e.on x)
    | none => false
def indepB (ops : Array Oper) : List Item → Bool
  | [] => true
  | x :: rest => rest.all (fun y => predsB ops ops.size y.i x.i || compat x y) && indepB ops rest
theorem z101 {listed : Array Bool} (hcl : ∀ i o, ops[i]? = some o → listed.getD i false = true → ∀ e ∈ o.after, Region.binds .any e = true → listed.getD e.on false = true) :
    ∀ (fuel y x : Nat) (o : Oper), ops[y]? = some o → (∀ e ∈ o.after, Region.binds .any e = true → listed.getD e.on false = true) → predsB ops fuel y x = true → listed.getD x false = true
  | 0, _, _, _, _, _, h => by cases h
  | fuel + 1, y, x, o, ho, hd, h => by
    simp only [predsB, ho] at h
    obtain ⟨e, hm, he⟩ := List.any_eq_true.1 h
    simp only [Bool.and_eq_true, Bool.or_eq_true] at he
    obtain ⟨hb, he⟩ := he
    have hl := hd e (Array.mem_toList_iff.1 hm) hb
    rcases he with he | he
    · rw [← Nat.eq_of_beq_eq_true he]; exact hl
    · cases ho' : ops[e.on]? with
      | none => cases fuel <;> simp [predsB, ho'] at he
      | some o' => exact z101 hcl fuel _ x o' ho' (hcl _ o' ho' hl) he
def RG (P : Program) (ops : Array Oper) (n : Nat) (Q : Exit → St → Prop) (md : Bool) (i : Nat) (st : St) (acc : List Item) (rest : List Oper) : Prop :=
  match md with
  | false => rest = ops.toList.drop i → ∀ pn w0 A0 F0 a w, Base w0 A0 F0 → Sim n pn w0 A0 F0 st a w →
      wpOps P ops (fun e a w => ∃ st', Q e st' ∧ Sim n pn w0 A0 F0 st' a w) (List.range' i rest.length) a w
  | true => rest = ops.toList.drop i → ∃ more fin, more.map Item.i = List.range' i rest.length ∧ ChainI P ops n st more fin ∧ indepB ops (acc.reverse ++ more) = true ∧ Q .normal fin
theorem z1bf {o : Oper} {rest : List Oper} {i : Nat} (h : o :: rest = ops.toList.drop i) : ops[i]? = some o ∧ rest = ops.toList.drop (i + 1) := by
  have h1 : ops.toList[i]? = some o := by
    have := congrArg (fun l : List Oper => l[0]?) h
    simpa using this.symm
  refine ⟨by simpa using h1, ?_⟩
  have := congrArg List.tail h
  simpa [List.tail_drop] using this
theorem z22w {Q : Exit → St → Prop} {md : Bool} {i : Nat} {st : St} {acc : List Item} {o : Oper} {rest : List Oper} {rs : List Req} {us : List Upd}
    (h : OpL P ops n o rs us) (hs : ∀ r ∈ rs, r.sat st) (k : RG P ops n Q md (i + 1) (apps us st) (bif md then ⟨i, rs, us⟩ :: acc else []) rest) : RG P ops n Q md i st acc (o :: rest) := by
  cases md with
  | false =>
    intro hd pn w0 A0 F0 a w hB hS
    obtain ⟨ho, hr⟩ := z1bf hd
    simp only [List.length_cons, List.range'_succ]
    rw [wpOps_cons]
    unfold wpOp
    rw [ho]
    have := h pn w0 A0 F0 st a w hB hS hs (wpOps P ops (fun e a w => ∃ st', Q e st' ∧ Sim n pn w0 A0 F0 st' a w) (List.range' (i + 1) rest.length))
      (fun e a w => ∃ st', Q e st' ∧ Sim n pn w0 A0 F0 st' a w) (fun a' w' h' => k hr pn w0 A0 F0 a' w' hB h')
    dsimp only
    split
    · rename_i hw; rw [if_pos hw] at this; exact .inl this
    · rename_i hw; rw [if_neg hw] at this; exact this
  | true =>
    intro hd
    obtain ⟨ho, hr⟩ := z1bf hd
    obtain ⟨more, fin, h1, h2, h3, h4⟩ := k hr
    refine ⟨⟨i, rs, us⟩ :: more, fin, ?_, ⟨⟨o, ho, h⟩, hs, h2⟩, ?_, h4⟩
    · simp only [List.map_cons, List.length_cons, List.range'_succ, h1]
    · simpa using h3
theorem z1yu {Q : Exit → St → Prop} {i : Nat} {st : St} {acc : List Item} (h : Q .normal st) : RG P ops n Q false i st acc [] := by
  intro _ pn w0 A0 F0 a w hB hS
  exact ⟨st, h, hS⟩
def Lift (n : Nat) (pn : Nat → Option Value) (w0 : World) (A0 F0 : Blks) (Q : Exit → St → Prop) : Exit → Act → World → Prop := fun e a w => ∃ st', Q e st' ∧ Sim n pn w0 A0 F0 st' a w
def ACode (P : Program) (n : Nat) (c : Code) (st : St) (Q : Exit → St → Prop) : Prop :=
  ∀ pn w0 A0 F0 a w, Base w0 A0 F0 → Sim n pn w0 A0 F0 st a w → c.wp P (Lift n pn w0 A0 F0 Q) a w
theorem z1ly {id : Nat} {l : List Oper} {st : St} {Q : Exit → St → Prop} (h : RG P l.toArray n Q false 0 st [] l) : ACode P n (.region id l.toArray false) st Q := by
  intro pn w0 A0 F0 a w hB hS
  have := h (by simp) pn w0 A0 F0 a w hB hS
  refine wp_region ?_
  rw [List.range_eq_range']
  simp only [List.size_toArray]
  exact this
theorem Sim.drew {pn : Nat → Option Value} {w0 : World} {A0 F0 : Blks} {st : St} {a : Act} {w : World} (h : Sim n pn w0 A0 F0 st a w) : Sim n pn w0 A0 F0 st a { w with drawn := w.drawn + 1 } := by
  obtain ⟨hv, T, h⟩ := h
  have fr : Frame F0 w { w with drawn := w.drawn + 1 } := ⟨fun _ _ _ => rfl, Nat.le_refl _, rfl, rfl⟩
  have own : ∀ {A F : Blks} {c : Cell} {v : Value}, Own w A F c v → Own { w with drawn := w.drawn + 1 } A F c v := fun ho => ho.frame fun _ _ => rfl
  have tr : Trade w0 A0 F0 hv hv T T st.obj st.obj (fun _ => False) w { w with drawn := w.drawn + 1 } :=
    ⟨fun _ hf => hf.elim, ⟨fun _ _ _ => rfl, Nat.le_refl _, rfl, rfl⟩, fun _ _ _ => ⟨rfl, rfl, rfl⟩, fun id hs hn => (hn.elim (fun f => f.elim) (fun e => by rw [e] at hs; cases hs))⟩
  refine ⟨hv, T, h.trade tr h.size h.defers ?_ ?_ h.slt h.uenv h.uobj h.pin h.ubox ?_ ?_⟩
  · intro i j _ hi; obtain ⟨hs, hn⟩ := hi; exact (hn.elim (fun f => f.elim) (fun e => by rw [e] at hs; cases hs))
  · intro id o hn ho; exact (hn.elim (fun f => f.elim) (fun e => by rw [e] at ho; cases ho))
  · intro id xs _ _ av _ hl; exact ⟨hl, fun v hav => h.keepAV tr hav fun _ _ f => f⟩
  · intro x av hx hl
    obtain ⟨v, h1, h2⟩ := h.env x av hx hl
    exact ⟨v, h1, h.keepAV tr h2 fun _ _ f => f⟩
end
end Go.Am
end
section
namespace Go.Am
open Go
section
variable {P : Program} {ops : Array Oper} {n : Nat}
theorem z24q {st : St} : ∀ r ∈ ([] : List Req), r.sat st := fun _ h => (by cases h)
theorem z1fg {st : St} {r : Req} {rs : List Req} (h : r.sat st) (k : ∀ r ∈ rs, r.sat st) : ∀ r' ∈ r :: rs, r'.sat st := by
  intro r' hr
  rcases List.mem_cons.1 hr with rfl | hr
  · exact h
  · exact k r' hr
theorem at0 {st : St} {r : Req} {rs : List Req} (h : ∀ r' ∈ r :: rs, r'.sat st) : r.sat st := h r (List.mem_cons_self ..)
theorem at1 {st : St} {r r1 : Req} {rs : List Req} (h : ∀ r' ∈ r :: r1 :: rs, r'.sat st) : r1.sat st := h r1 (List.mem_cons_of_mem _ (List.mem_cons_self ..))
theorem at2 {st : St} {r r1 r2 : Req} {rs : List Req} (h : ∀ r' ∈ r :: r1 :: r2 :: rs, r'.sat st) : r2.sat st := h r2 (List.mem_cons_of_mem _ (List.mem_cons_of_mem _ (List.mem_cons_self ..)))
theorem at3 {st : St} {r r1 r2 r3 : Req} {rs : List Req} (h : ∀ r' ∈ r :: r1 :: r2 :: r3 :: rs, r'.sat st) : r3.sat st :=
  h r3 (List.mem_cons_of_mem _ (List.mem_cons_of_mem _ (List.mem_cons_of_mem _ (List.mem_cons_self ..))))
theorem z24s {st : St} {x : Operand} {av : AV} {rs : List Req} (h : opIs st x av) (k : ∀ r ∈ rs, r.sat st) : ∀ r' ∈ Req.opd x av :: rs, r'.sat st := z1fg h k
theorem z24r {st : St} {id : Nat} {o : Obj} {rs : List Req} (h : st.obj id = some o) (k : ∀ r ∈ rs, r.sat st) : ∀ r' ∈ Req.obj id o :: rs, r'.sat st := z1fg h k
theorem z1zg {st : St} {id : Nat} {rs : List Req} (h : st.used id = false) (k : ∀ r ∈ rs, r.sat st) : ∀ r' ∈ Req.fresh id :: rs, r'.sat st := z1fg h k
def lives (l : List Nat) : List Req := l.map .live
theorem z1zh {st : St} {l : List Nat} (h : l.all (fun i => (st.obj i).isSome) = true) : ∀ r ∈ lives l, r.sat st := by
  intro r hr
  obtain ⟨i, hi, rfl⟩ := List.mem_map.1 hr
  exact List.all_eq_true.1 h i hi
theorem z159 {st : St} {l : List Nat} (h : ∀ r ∈ lives l, r.sat st) : ∀ id ∈ l, (st.obj id).isSome = true := fun id hid => h (.live id) (List.mem_map.2 ⟨id, hid, rfl⟩)
theorem z0g3 {st : St} {r : Req} {rs : List Req} (h : ∀ r' ∈ r :: rs, r'.sat st) : ∀ r' ∈ rs, r'.sat st := fun r' hr => h r' (List.mem_cons_of_mem _ hr)
def OpL0 (P : Program) (n : Nat) (o : Oper) (rs : List Req) (us : List Upd) : Prop :=
  ∀ (pn : Nat → Option Value) (w0 : World) (A0 F0 : Blks) (st : St) (a : Act) (w : World), Base w0 A0 F0 → Sim n pn w0 A0 F0 st a w → (∀ r ∈ rs, r.sat st) →
    ∀ (K : Act → World → Prop) (Q : Exit → Act → World → Prop), (∀ a' w', Sim n pn w0 A0 F0 (apps us st) a' w' → K a' w') → o.wp P a w K Q
theorem z1sf {o : Oper} {rs : List Req} {us : List Upd} (hg : o.guard = none) (h : OpL0 P n o rs us) : OpL P ops n o rs us := by
  intro pn w0 A0 F0 st a w hB hS hs K Q hK
  have : Region.wanted o (yielded ops a.tmps) = true := by unfold Region.wanted; rw [hg]
  rw [if_pos this]
  exact h pn w0 A0 F0 st a w hB hS hs K Q hK
theorem StSim.eval {pn : Nat → Option Value} {w0 : World} {A0 F0 : Blks} {hv : Nat → Value} {T : Nat → Blks} {st : St} {a : Act} {w : World} (h : StSim n pn w0 A0 F0 hv T st a w) {x : Operand} {av : AV}
    (hx : opIs st x av) (hl : Live st.obj av) : AVSim w (Sh A0 F0 w0 T st.obj w) hv st.obj av (a.eval x) := by
  cases x with
  | tmp t =>
    obtain ⟨v, h1, h2⟩ := h.env t av hx hl
    have : a.eval (.tmp t) = v := by simp [Act.eval, h1]
    rw [this]; exact h2
  | const v =>
    obtain rfl := hx
    cases v <;> first
      | exact .c (.lit _)
      | (refine .row (by simp) fun i x v h1 h2 => ?_
         simp only [List.getElem?_map, Array.getElem?_toList] at h1
         rw [h2] at h1
         cases h1
         exact .lit _)
  | func f =>
    obtain rfl := hx
    exact .fn (by simp) fun i x v h1 _ => by simp at h1
  | global g => exact hx.elim
theorem z1ls {pn : Nat → Option Value} {w0 : World} {A0 F0 : Blks} {hv : Nat → Value} {T : Nat → Blks} {st : St} {a : Act} {w : World} (h : StSim n pn w0 A0 F0 hv T st a w) {g dg : Nat} {b : Bool}
    (hg : (ops[g]?).bind (·.dst) = some dg) (hb : st.env dg = some (.c (.lit (.bool b)))) : yielded ops a.tmps g = some b := by
  obtain ⟨v, h1, h2⟩ := h.env dg _ hb (fun id hid => by simp [AV.ids] at hid)
  have hv : v = .bool b := by
    cases h2 with
    | c ho => cases ho; rfl
  unfold yielded
  rw [hg, Option.bind_some, h1, hv]
theorem z27e {o : Oper} {rs : List Req} {us : List Upd} {g dg : Nat} {want b : Bool} (hg : o.guard = some (g, want)) (hd : (ops[g]?).bind (·.dst) = some dg) (hb : b = want)
    (h : OpL0 P n o rs us) : OpL P ops n o (.opd (.tmp dg) (.c (.lit (.bool b))) :: rs) us := by
  intro pn w0 A0 F0 st a w hB hS hs K Q hK
  have h1 : st.env dg = some (.c (.lit (.bool b))) := at0 hs
  obtain ⟨hv, T, hT⟩ := hS
  have : Region.wanted o (yielded ops a.tmps) = true := by
    unfold Region.wanted; rw [hg]; simp [z1ls hT hd h1, hb]
  rw [if_pos this]
  exact h pn w0 A0 F0 st a w hB ⟨hv, T, hT⟩ (fun r hr => hs r (by simp [hr])) K Q hK
theorem StSim.set {pn : Nat → Option Value} {w0 : World} {A0 F0 : Blks} {hv : Nat → Value} {T : Nat → Blks} {st : St} {a : Act} {w : World} (h : StSim n pn w0 A0 F0 hv T st a w) {d : Nat} {av : AV} {v : Value}
    (hd : d < n) (hav : Live st.obj av → AVSim w (Sh A0 F0 w0 T st.obj w) hv st.obj av v) : StSim n pn w0 A0 F0 hv T ((Upd.set d av).app st) (a.put (some d) v) w := by
  refine ⟨by simp [Act.put, h.size], h.defers, h.frame, ?_, h.heap, h.own, h.dis, ?_, ?_, ?_, ?_, ?_, h.pbig⟩
  · intro x av' hx hl
    simp only [Upd.app, z07i] at hx
    by_cases e : d = x
    · subst e
      rw [if_pos rfl] at hx
      cases hx
      exact ⟨v, by simp [Act.put, h.size, hd], hav hl⟩
    · rw [if_neg e] at hx
      obtain ⟨v', h1, h2⟩ := h.env x av' hx hl
      exact ⟨v', by simp [Act.put, Array.getElem?_setIfInBounds_ne e, h1], h2⟩
  · intro x av' hx
    simp only [Upd.app, z07i] at hx
    by_cases e : d = x
    · omega
    · rw [if_neg e] at hx; exact h.slt x av' hx
  · intro x av' hx id hid
    refine z00g.2 ?_
    simp only [Upd.app, z07i] at hx
    by_cases e : d = x
    · rw [if_pos e] at hx; cases hx; exact .inr hid
    · rw [if_neg e] at hx; exact .inl (h.uenv x av' hx id hid)
  · intro id hid; exact z00g.2 (.inl (h.uobj id hid))
  · intro id v hp; exact ⟨z00g.2 (.inl (h.pin id v hp).1), (h.pin id v hp).2⟩
  · intro id xs ho j hj; exact z00g.2 (.inl (h.ubox id xs ho j hj))
theorem z01g {o : Oper} {d : Nat} {rs : List Req} {av : AV} (hd : o.dst = some d) (hn : d < n)
    (h : ∀ (pn : Nat → Option Value) (w0 : World) (A0 F0 : Blks) (hv : Nat → Value) (T : Nat → Blks) (st : St) (a : Act) (w : World), Base w0 A0 F0 → StSim n pn w0 A0 F0 hv T st a w → (∀ r ∈ rs, r.sat st) →
      ∃ v, (execOp a.eval o).run P w = .ok (.value v) w ∧ (Live st.obj av → AVSim w (Sh A0 F0 w0 T st.obj w) hv st.obj av v)) : OpL0 P n o rs [.set d av] := by
  intro pn w0 A0 F0 st a w hB hS hs K Q hK
  obtain ⟨hv, T, hT⟩ := hS
  obtain ⟨v, h1, h2⟩ := h pn w0 A0 F0 hv T st a w hB hT hs
  unfold Oper.wp
  rw [h1]
  show K (a.put o.dst v) w
  rw [hd]
  exact hK _ _ ⟨hv, T, hT.set hn h2⟩
section
variable {d : Nat} {ty : TypeId} {pos : String} {after : Array Edge} {g : Option (Nat × Bool)}
theorem z265 {x : Operand} {av : AV} (hn : d < n) : OpL0 P n ⟨some d, .move x, ty, pos, after, g⟩ [.opd x av] [.set d av] :=
  z01g rfl hn fun _ _ _ _ _ _ st a _ _ hT hs => by
    have h0 : opIs st x av := at0 hs
    exact ⟨a.eval x, rfl, fun hl => hT.eval h0 hl⟩
theorem z210 {x : Operand} {av : AV} (hn : d < n) : OpL0 P n ⟨some d, .assign x, ty, pos, after, g⟩ [.opd x av] [.set d av] :=
  z01g rfl hn fun _ _ _ _ _ _ st a _ _ hT hs => by
    have h0 : opIs st x av := at0 hs
    exact ⟨a.eval x, rfl, fun hl => hT.eval h0 hl⟩
abbrev aInt (k : Int) : AV := .c (.lit (.int .i64 k))
abbrev aBool (b : Bool) : AV := .c (.lit (.bool b))
theorem z199 (obj : Nat → Option Obj) (x : Cell) : Live obj (.c x) := fun id hid => by simp [AV.ids] at hid
theorem z243 (obj : Nat → Option Obj) (x : List Cell) : Live obj (.row x) := fun id hid => by simp [AV.ids] at hid
theorem z1du (obj : Nat → Option Obj) (x : List Cell) : Live obj (.pts x) := fun id hid => by simp [AV.ids] at hid
theorem StSim.lit {pn : Nat → Option Value} {w0 : World} {A0 F0 : Blks} {hv : Nat → Value} {T : Nat → Blks} {st : St} {a : Act} {w : World} (h : StSim n pn w0 A0 F0 hv T st a w) {x : Operand} {v : Value}
    (hx : Req.sat st (.opd x (.c (.lit v)))) : a.eval x = v := by
  have hx' : opIs st x (.c (.lit v)) := hx
  have := h.eval hx' (z199 _ _)
  cases this with
  | c ho => cases ho; rfl
theorem z1q5 {c x y : Operand} {b : Bool} {av : AV} (hn : d < n) (hb : b = true) : OpL0 P n ⟨some d, .pick c x y, ty, pos, after, g⟩ [.opd c (aBool b), .opd x av] [.set d av] :=
  z01g rfl hn fun _ _ _ _ _ _ st a _ _ hT hs => by
    have h1 : opIs st x av := at1 hs
    have hc := hT.lit (at0 hs)
    refine ⟨a.eval x, ?_, fun hl => hT.eval h1 hl⟩
    simp only [execOp, hc, hb, asBool, Sem.run_bind, Sem.run_pure, Result.andThen_ok, if_true]
theorem z1l8 {c x y : Operand} {b : Bool} {av : AV} (hn : d < n) (hb : b = false) : OpL0 P n ⟨some d, .pick c x y, ty, pos, after, g⟩ [.opd c (aBool b), .opd y av] [.set d av] :=
  z01g rfl hn fun _ _ _ _ _ _ st a _ _ hT hs => by
    have h1 : opIs st y av := at1 hs
    have hc := hT.lit (at0 hs)
    refine ⟨a.eval y, ?_, fun hl => hT.eval h1 hl⟩
    simp only [execOp, hc, hb, asBool, Sem.run_bind, Sem.run_pure, Result.andThen_ok, Bool.false_eq_true, if_false]
theorem z0pa {b : BinOp} {t t' : TypeId} {x y : Operand} {u v r : Value} (hn : d < n)
    (h : ∀ w : World, (do eqGuard b t x y u v; binOp b t u v : Sem Value).run P w = .ok r w) :
    OpL0 P n ⟨some d, .binOp b t x y t', ty, pos, after, g⟩ [.opd x (.c (.lit u)), .opd y (.c (.lit v))] [.set d (.c (.lit r))] :=
  z01g rfl hn fun _ _ _ _ _ _ _ a w _ hT hs => by
    have h1 := hT.lit (at0 hs)
    have h2 := hT.lit (at1 hs)
    refine ⟨r, ?_, fun _ => .c (.lit _)⟩
    simp only [execOp, h1, h2]
    rw [Sem.run_bind, h w]
    rfl
theorem z1lq {k : Int} (h : -9223372036854775808 ≤ k ∧ k ≤ 9223372036854775807) : IntKind.i64.wrap k = k := by
  unfold IntKind.wrap
  simp only [IntKind.bits, IntKind.signed, Bool.true_and, decide_eq_true_eq, ge_iff_le]
  have : (2:Int) ^ 64 = 18446744073709551616 := by decide
  have h2 : (2:Int) ^ (64 - 1) = 9223372036854775808 := by decide
  rw [this, h2]
  split <;> omega
theorem z26x {t t' : TypeId} {x y : Operand} {i j : Int} (hn : d < n) (h : -9223372036854775808 ≤ i + j ∧ i + j ≤ 9223372036854775807) :
    OpL0 P n ⟨some d, .binOp .add t x y t', ty, pos, after, g⟩ [.opd x (aInt i), .opd y (aInt j)] [.set d (aInt (i + j))] :=
  z0pa hn fun w => by simp [eqGuard_add, binOp_add, Op.intArith, z1lq h]
theorem z27c {t t' : TypeId} {x y : Operand} {i j : Int} (hn : d < n) (h : -9223372036854775808 ≤ i - j ∧ i - j ≤ 9223372036854775807) :
    OpL0 P n ⟨some d, .binOp .sub t x y t', ty, pos, after, g⟩ [.opd x (aInt i), .opd y (aInt j)] [.set d (aInt (i - j))] :=
  z0pa hn fun w => by simp [eqGuard_sub, binOp_sub, Op.intArith, z1lq h]
theorem z276 {t t' : TypeId} {x y : Operand} {i j : Int} (hn : d < n) (h : -9223372036854775808 ≤ i * j ∧ i * j ≤ 9223372036854775807) :
    OpL0 P n ⟨some d, .binOp .mul t x y t', ty, pos, after, g⟩ [.opd x (aInt i), .opd y (aInt j)] [.set d (aInt (i * j))] :=
  z0pa hn fun w => by simp [eqGuard_mul, binOp_mul, Op.intArith, z1lq h]
theorem z275 {t t' : TypeId} {x y : Operand} {i j : Int} (hn : d < n) :
    OpL0 P n ⟨some d, .binOp .lss t x y t', ty, pos, after, g⟩ [.opd x (aInt i), .opd y (aInt j)] [.set d (aBool (decide (i < j)))] :=
  z0pa hn fun w => by simp [eqGuard_lss, binOp_lss]
theorem z274 {t t' : TypeId} {x y : Operand} {i j : Int} (hn : d < n) :
    OpL0 P n ⟨some d, .binOp .leq t x y t', ty, pos, after, g⟩ [.opd x (aInt i), .opd y (aInt j)] [.set d (aBool (decide (i ≤ j)))] :=
  z0pa hn fun w => by simp [eqGuard_leq, binOp_leq]
theorem z272 {t t' : TypeId} {x y : Operand} {i j : Int} (hn : d < n) :
    OpL0 P n ⟨some d, .binOp .gtr t x y t', ty, pos, after, g⟩ [.opd x (aInt i), .opd y (aInt j)] [.set d (aBool (decide (j < i)))] :=
  z0pa hn fun w => by simp [eqGuard_gtr, binOp_gtr]
theorem z271 {t t' : TypeId} {x y : Operand} {i j : Int} (hn : d < n) :
    OpL0 P n ⟨some d, .binOp .geq t x y t', ty, pos, after, g⟩ [.opd x (aInt i), .opd y (aInt j)] [.set d (aBool (decide (j ≤ i)))] :=
  z0pa hn fun w => by simp [eqGuard_geq, binOp_geq]
theorem z226 (i j : Int) : (i == j) = decide (i = j) := by
  by_cases h : i = j
  · simp [h]
  · simp [h]
theorem z270 {t t' : TypeId} {x y : Operand} {i j : Int} (hn : d < n) :
    OpL0 P n ⟨some d, .binOp .eql t x y t', ty, pos, after, g⟩ [.opd x (aInt i), .opd y (aInt j)] [.set d (aBool (decide (i = j)))] :=
  z0pa hn fun w => by simp [eqGuard_at_int, binOp_eql, z226]
theorem z278 {t t' : TypeId} {x y : Operand} {i j : Int} (hn : d < n) :
    OpL0 P n ⟨some d, .binOp .neq t x y t', ty, pos, after, g⟩ [.opd x (aInt i), .opd y (aInt j)] [.set d (aBool (!decide (i = j)))] :=
  z0pa hn fun w => by simp [eqGuard_at_int, binOp_neq, bne, z226]
theorem z22y {t : TypeId} {p q : Bool} (ht : P.underlying t = some .bool) (w : World) : (Op.equal t (.bool p) (.bool q)).run P w = .ok (p == q) w :=
  run_equalIn_bool' w 9999 t p q ht
theorem z264 {t t' : TypeId} {x y : Operand} {p q : Bool} (ht : P.underlying t = some .bool) (hn : d < n) :
    OpL0 P n ⟨some d, .binOp .eql t x y t', ty, pos, after, g⟩ [.opd x (aBool p), .opd y (aBool q)] [.set d (aBool (p == q))] :=
  z0pa hn fun w => by
    have : binOp .eql t (.bool p) (.bool q) = (do pure (.bool (← Op.equal t (.bool p) (.bool q)))) := rfl
    rw [eqGuard_at_bool, this, Sem.run_bind, Sem.run_pure, Result.andThen_ok, Sem.run_bind, z22y ht, Result.andThen_ok, Sem.run_pure]
theorem z266 {t t' : TypeId} {x y : Operand} {p q : Bool} (ht : P.underlying t = some .bool) (hn : d < n) :
    OpL0 P n ⟨some d, .binOp .neq t x y t', ty, pos, after, g⟩ [.opd x (aBool p), .opd y (aBool q)] [.set d (aBool (!(p == q)))] :=
  z0pa hn fun w => by
    have : binOp .neq t (.bool p) (.bool q) = (do pure (.bool (!(← Op.equal t (.bool p) (.bool q))))) := rfl
    rw [eqGuard_at_bool, this, Sem.run_bind, Sem.run_pure, Result.andThen_ok, Sem.run_bind, z22y ht, Result.andThen_ok, Sem.run_pure]
theorem z27a {t t' : TypeId} {x y : Operand} {i j : Int} (hn : d < n) (h : j ≠ 0) :
    OpL0 P n ⟨some d, .binOp .rem t x y t', ty, pos, after, g⟩ [.opd x (aInt i), .opd y (aInt j)] [.set d (aInt (i.tmod j))] :=
  z0pa hn fun w => by simp [eqGuard_rem, binOp_rem, Op.intDiv, h]
theorem z279 {t t' : TypeId} {x y : Operand} {i j : Int} (hn : d < n) (h : j ≠ 0) (h' : -9223372036854775808 ≤ i.tdiv j ∧ i.tdiv j ≤ 9223372036854775807) :
    OpL0 P n ⟨some d, .binOp .quo t x y t', ty, pos, after, g⟩ [.opd x (aInt i), .opd y (aInt j)] [.set d (aInt (i.tdiv j))] :=
  z0pa hn fun w => by simp [eqGuard_quo, binOp_quo, Op.intDiv, h, z1lq h']
theorem op_un {b : UnOp} {t : TypeId} {x : Operand} {u r : Value} (hn : d < n) (h : ∀ w : World, (Op.unary b u).run P w = .ok r w) :
    OpL0 P n ⟨some d, .unOp b t x, ty, pos, after, g⟩ [.opd x (.c (.lit u))] [.set d (.c (.lit r))] :=
  z01g rfl hn fun _ _ _ _ _ _ _ a w _ hT hs => by
    have h1 := hT.lit (at0 hs)
    refine ⟨r, ?_, fun _ => .c (.lit _)⟩
    simp only [execOp, h1, Sem.run_bind, h w, Result.andThen_ok, Sem.run_pure]
theorem z267 {t : TypeId} {x : Operand} {p : Bool} (hn : d < n) : OpL0 P n ⟨some d, .unOp .not t x, ty, pos, after, g⟩ [.opd x (aBool p)] [.set d (aBool (!p))] :=
  op_un hn fun _ => rfl
theorem z277 {t : TypeId} {x : Operand} {i : Int} (hn : d < n) (h : -9223372036854775808 ≤ 0 - i ∧ 0 - i ≤ 9223372036854775807) :
    OpL0 P n ⟨some d, .unOp .neg t x, ty, pos, after, g⟩ [.opd x (aInt i)] [.set d (aInt (0 - i))] :=
  op_un hn fun w => by simp only [Op.unary, Op.intArith, z1lq h]; rfl
theorem z0op {w : World} {A F : Blks} {o : Bool} {k : Nat} {rows : List (List Cell)} {v : Value} (h : Own w A F (.sl o k rows) v) : ∃ b c, v = .slice b rows.length c := by
  cases h <;> exact ⟨_, _, rfl⟩
theorem z1z0 {x : Operand} {t e : TypeId} {b : Option Addr} {m c : Nat} (ht : P.underlying t = some (.slice e)) {a : Act} {w : World} (he : a.eval x = .slice b m c) :
    (execOp a.eval ⟨some d, .call ⟨.builtin .len, #[x], #[t]⟩, ty, pos, after, g⟩).run P w = .ok (.value (.int .i64 m)) w := by
  simp [execOp, resolve, invoke, builtin, Builtin.len_, he, underlying, ht, goInt]
theorem z273 {x : Operand} {t e : TypeId} {o : Bool} {k : Nat} {rows : List (List Cell)} (ht : P.underlying t = some (.slice e)) (hn : d < n) :
    OpL0 P n ⟨some d, .call ⟨.builtin .len, #[x], #[t]⟩, ty, pos, after, g⟩ [.opd x (.c (.sl o k rows))] [.set d (aInt rows.length)] :=
  z01g rfl hn fun _ _ _ _ _ _ st a w _ hT hs => by
    have h0 : opIs st x (.c (.sl o k rows)) := at0 hs
    have h1 := hT.eval h0 (z199 _ _)
    refine ⟨.int .i64 rows.length, ?_, fun _ => .c (.lit _)⟩
    cases h1 with
    | c ho =>
      obtain ⟨b, c, he⟩ := z0op ho
      exact z1z0 ht he
theorem z1yh {x : Operand} {t e : TypeId} (ht : P.underlying t = some (.slice e)) (hn : d < n) :
    OpL0 P n ⟨some d, .call ⟨.builtin .len, #[x], #[t]⟩, ty, pos, after, g⟩ [.opd x (.c (.lit (.slice none 0 0)))] [.set d (aInt 0)] :=
  z01g rfl hn fun _ _ _ _ _ _ st a w _ hT hs => ⟨.int .i64 0, z1z0 ht (hT.lit (at0 hs)), fun _ => .c (.lit _)⟩
theorem Own.path {w : World} {A F : Blks} {c : Cell} {v : Value} (h : Own w A F c v) : ∀ {p : Path} {c' : Cell} {v' : Value}, c.get p = some c' → Hdr w c v p v' →
    ∃ F', (∀ b, F' b → F b) ∧ Own w A F' c' v' := by
  induction h with
  | @lit F v =>
    intro p c' v' hg hh
    cases p with
    | nil => cases hg; cases hh; exact ⟨F, fun _ h => h, .lit v⟩
    | cons => cases hg
  | @nil F o k =>
    intro p c' v' hg hh
    cases p with
    | nil => cases hg; cases hh; exact ⟨F, fun _ h => h, .nil o k⟩
    | cons ij p => obtain ⟨i, j⟩ := ij; simp [Cell.get] at hg
  | @emp F k a =>
    intro p c' v' hg hh
    cases p with
    | nil => cases hg; cases hh; exact ⟨F, fun _ h => h, .emp k a⟩
    | cons ij p => obtain ⟨i, j⟩ := ij; simp [Cell.get] at hg
  | @shr F k rows b off cap c e fr hb hA hk hs hcap hsub ih =>
    intro p c' v' hg hh
    cases p with
    | nil => cases hg; cases hh; exact ⟨F, fun _ h => h, .shr hb hA hk hs hcap hsub⟩
    | cons ij p =>
      obtain ⟨i, j⟩ := ij
      simp only [Hdr] at hh
      obtain ⟨b', off', n', cap', cs, e', fr', u, x, hv, hb', hu, hx, hj, hrest⟩ := hh
      cases hv
      have hcs : cs = c := by rw [hb] at hb'; cases hb'; rfl
      subst hcs
      simp only [Cell.get, hx, Option.bind_some] at hg
      have hflat : rows.flatten[i * k + j]? = some x := by rw [List.flatten_getElem?_of_const hk i j hj]; exact hx
      obtain ⟨F', hF', ho⟩ := ih _ x u hflat hu hg hrest
      exact ⟨F', fun b hb => (hF' b hb).elim, ho⟩
  | @arr F k rows b cap c e G hb hk hs hcap hF hG hGb hd hsub ih =>
    intro p c' v' hg hh
    cases p with
    | nil => cases hg; cases hh; exact ⟨F, fun _ h => h, .arr hb hk hs hcap hF hG hGb hd hsub⟩
    | cons ij p =>
      obtain ⟨i, j⟩ := ij
      simp only [Hdr] at hh
      obtain ⟨b', off', n', cap', cs, e', fr', u, x, hv, hb', hu, hx, hj, hrest⟩ := hh
      cases hv
      have hcs : cs = c := by rw [hb] at hb'; cases hb'; rfl
      subst hcs
      simp only [Cell.get, hx, Option.bind_some] at hg
      have hflat : rows.flatten[i * k + j]? = some x := by rw [List.flatten_getElem?_of_const hk i j hj]; exact hx
      obtain ⟨F', hF', ho⟩ := ih _ x u hflat (by simpa using hu) hg hrest
      exact ⟨F', fun b hb => hG _ b (hF' b hb), ho⟩
  | @bx F row b c e G hb hs hF hG hGb hd hsub ih =>
    intro p c' v' hg hh
    cases p with
    | nil => cases hg; cases hh; exact ⟨F, fun _ h => h, .bx hb hs hF hG hGb hd hsub⟩
    | cons => cases hg
theorem z1yi {x : Operand} {t e : TypeId} {id k k' : Nat} {p : Path} {o : Bool} {rows rows' : List (List Cell)} (ht : P.underlying t = some (.slice e)) (hn : d < n)
    (hg : (Cell.sl true k rows).get p = some (.sl o k' rows')) :
    OpL0 P n ⟨some d, .call ⟨.builtin .len, #[x], #[t]⟩, ty, pos, after, g⟩ [.opd x (.ref id p), .obj id (.arr k rows)] [.set d (aInt rows'.length)] :=
  z01g rfl hn fun _ _ _ _ _ _ st a w _ hT hs => by
    have h0 : opIs st x (.ref id p) := at0 hs
    have ho : st.obj id = some (.arr k rows) := at1 hs
    have h1 := hT.eval h0 (fun i hi => by simp [AV.ids] at hi; subst hi; simp [ho])
    refine ⟨.int .i64 rows'.length, ?_, fun _ => .c (.lit _)⟩
    generalize hv : a.eval x = v at h1
    cases h1 with
    | ref ho' hg' hh =>
      rw [ho] at ho'; cases ho'
      obtain ⟨F', _, hown⟩ := Own.path (hT.heap id _ ho) hg hh
      obtain ⟨b, c, he⟩ := z0op hown
      exact z1z0 ht (hv.trans he)
end
end
end Go.Am
end
section
namespace Go.Am
open Go
section
variable {P : Program} {ops : Array Oper} {n : Nat}
variable {d : Nat} {ty : TypeId} {pos : String} {after : Array Edge} {g : Option (Nat × Bool)}
theorem z1v6 {s : TypeId} {fs : Array Field} {f m : Nat} {fld : Field} {b off : Nat} {w : World} (hu : P.underlying s = some (.struct fs)) (hf : fs[f]? = some fld)
    (hz : ∀ w, (Go.sizeOf fld.type).run P w = .ok m w) (hm : m ≠ 0) : (Instr.fieldAt s (.pointer (some ⟨b, off, none⟩)) f).run P w = .ok (.pointer (some ⟨b, off + fld.offset, none⟩)) w := by
  simp only [Instr.fieldAt, underlying, Sem.run_bind, run_program, Result.andThen_ok, hu, Sem.run_pure, hf, Instr.sureAddr, fieldPlace, hz w, if_neg hm, Addr.add_lit]
theorem AVSim.bx_inv {w : World} {A : Blks} {hv : Nat → Value} {obj : Nat → Option Obj} {id j : Nat} {v : Value} {xs : List AV} (h : AVSim w A hv obj (.bx id j) v)
    (ho : obj id = some (.box xs)) : ∃ b, hv id = .pointer (some ⟨b, 0, none⟩) ∧ v = .pointer (some ⟨b, j, none⟩) := by
  cases h with
  | bx _ hh => exact ⟨_, hh, rfl⟩
  | mp ho' _ => rw [ho] at ho'; cases ho'
section fieldAddr
variable {s : TypeId} {fs : Array Field} {f m : Nat} {fld : Field} {x : Operand}
theorem z1fd (hu : P.underlying s = some (.struct fs)) (hf : fs[f]? = some fld)
    (hz : ∀ w, (Go.sizeOf fld.type).run P w = .ok m w) (hm : m ≠ 0) {a : Act} {w : World} {b off : Nat} (he : a.eval x = .pointer (some ⟨b, off, none⟩)) :
    (execOp a.eval ⟨some d, .fieldAddr s x f, ty, pos, after, g⟩).run P w = .ok (.value (.pointer (some ⟨b, off + fld.offset, none⟩))) w := by
  simp only [execOp, he, Sem.run_bind, z1v6 hu hf hz hm, Result.andThen_ok, Sem.run_pure]
theorem z19j {id j j' : Nat} {xs : List AV} (hu : P.underlying s = some (.struct fs)) (hf : fs[f]? = some fld)
    (hz : ∀ w, (Go.sizeOf fld.type).run P w = .ok m w) (hm : m ≠ 0) (hj : j + fld.offset = j') (hn : d < n) :
    OpL0 P n ⟨some d, .fieldAddr s x f, ty, pos, after, g⟩ [.opd x (.bx id j), .obj id (.box xs)] [.set d (.bx id j')] :=
  z01g rfl hn fun _ _ _ _ _ _ st a w _ hT hs => by
    have h0 : opIs st x (.bx id j) := at0 hs
    have ho : st.obj id = some (.box xs) := at1 hs
    have h1 := hT.eval h0 (fun i hi => by simp [AV.ids] at hi; subst hi; simp [ho])
    obtain ⟨b, hb, he⟩ := h1.bx_inv ho
    exact ⟨_, z1fd hu hf hz hm he, fun _ => hj ▸ .bx ho hb⟩
theorem z16a {xs ys : List Cell} (hu : P.underlying s = some (.struct fs)) (hf : fs[f]? = some fld)
    (hz : ∀ w, (Go.sizeOf fld.type).run P w = .ok m w) (hm : m ≠ 0) (hl : fld.offset ≤ xs.length) (hy : xs.drop fld.offset = ys) (hn : d < n) :
    OpL0 P n ⟨some d, .fieldAddr s x f, ty, pos, after, g⟩ [.opd x (.pts xs)] [.set d (.pts ys)] :=
  z01g rfl hn fun _ _ _ _ _ _ st a w _ hT hs => by
    have h0 : opIs st x (.pts xs) := at0 hs
    have h1 := hT.eval h0 (z1du _ _)
    generalize hv : a.eval x = v at h1
    cases h1 with
    | @pts _ b off c e fr hb hA hsz hh =>
      refine ⟨_, z1fd hu hf hz hm hv, fun _ => ?_⟩
      subst hy
      refine .pts hb hA (by simp; omega) fun i x v h1 h2 => ?_
      rw [List.getElem?_drop] at h1
      exact hh _ x v h1 (by rw [← Nat.add_assoc]; exact h2)
theorem z169 {id k k0 i j j' : Nat} {p : Path} {rows : List (List Cell)} (hu : P.underlying s = some (.struct fs)) (hf : fs[f]? = some fld)
    (hz : ∀ w, (Go.sizeOf fld.type).run P w = .ok m w) (hm : m ≠ 0) (hj : j + fld.offset = j') (hn : d < n) :
    OpL0 P n ⟨some d, .fieldAddr s x f, ty, pos, after, g⟩ [.opd x (.ptr id p k i j), .obj id (.arr k0 rows)] [.set d (.ptr id p k i j')] :=
  z01g rfl hn fun _ _ _ _ _ _ st a w _ hT hs => by
    have h0 : opIs st x (.ptr id p k i j) := at0 hs
    have ho : st.obj id = some (.arr k0 rows) := at1 hs
    have h1 := hT.eval h0 (fun i hi => by simp [AV.ids] at hi; subst hi; simp [ho])
    generalize hv : a.eval x = v at h1
    cases h1 with
    | ptr ho' hg hh =>
      refine ⟨_, z1fd hu hf hz hm hv, fun _ => ?_⟩
      subst hj
      rw [Nat.add_assoc, Nat.add_assoc]
      exact .ptr ho' hg hh
end fieldAddr
section indexAddr
variable {t e : TypeId} {x y : Operand} {k : Nat}
theorem z1fe (hu : P.underlying t = some (.slice e)) (hz : ∀ w, (Go.sizeOf e).run P w = .ok k w) {a : Act} {w : World} {b off len cap : Nat} {kk : IntKind} {i : Int}
    (he : a.eval x = .slice (some ⟨b, off, none⟩) len cap) (hi : a.eval y = .int kk i) (h0 : 0 ≤ i) (h1 : i < len) :
    (execOp a.eval ⟨some d, .indexAddr t x y, ty, pos, after, g⟩).run P w = .ok (.value (.pointer (some ⟨b, off + i.toNat * k, none⟩))) w := by
  simp only [execOp, he, hi, Instr.indexAt, asIntOf, underlying, Sem.run_bind, run_program, Result.andThen_ok, hu, Sem.run_pure]
  have hc : 0 ≤ i ∧ i < (len : Int) := ⟨h0, h1⟩
  by_cases hl : len ≤ 1 <;> simp [hc, hu, hz w, Addr.add_lit]
theorem z1uy {rows : List (List Cell)} {row : List Cell} {i : Int} (hu : P.underlying t = some (.slice e)) (hz : ∀ w, (Go.sizeOf e).run P w = .ok k w) (hn : d < n)
    (h0 : 0 ≤ i) (hr : rows[i.toNat]? = some row) :
    OpL0 P n ⟨some d, .indexAddr t x y, ty, pos, after, g⟩ [.opd x (.c (.sl false k rows)), .opd y (aInt i)] [.set d (.pts row)] :=
  z01g rfl hn fun _ _ _ _ _ _ st a w _ hT hs => by
    have hx : opIs st x (.c (.sl false k rows)) := at0 hs
    have hi := hT.lit (at1 hs)
    have h1 := hT.eval hx (z199 _ _)
    have hlt := (List.getElem?_eq_some_iff.1 hr).1
    generalize hv : a.eval x = v at h1
    cases h1 with
    | c ho =>
      cases ho with
      | nil => simp at hr
      | emp => simp at hr
      | @shr _ _ _ b off cap c e' fr hb hA hk hsz hcap hh =>
        refine ⟨_, z1fe hu hz hv hi h0 (by omega), fun _ => ?_⟩
        have hrk : row.length = k := hk row (List.mem_of_getElem? hr)
        have hmul : (i.toNat + 1) * k ≤ rows.length * k := Nat.mul_le_mul_right _ (by omega)
        rw [Nat.add_mul] at hmul
        refine .pts hb hA (by omega) fun j x v h1 h2 => ?_
        have hj : j < k := by have := (List.getElem?_eq_some_iff.1 h1).1; omega
        refine hh (i.toNat * k + j) x v ?_ (by rw [← Nat.add_assoc]; exact h2)
        rw [List.flatten_getElem?_of_const hk _ _ hj, hr]; exact h1
theorem z1q2 {id k0 : Nat} {p : Path} {o : Bool} {rows rows' : List (List Cell)} {i : Int} (hu : P.underlying t = some (.slice e)) (hz : ∀ w, (Go.sizeOf e).run P w = .ok k w) (hn : d < n)
    (hg : (Cell.sl true k0 rows).get p = some (.sl o k rows')) (h0 : 0 ≤ i) (hi : i < rows'.length) :
    OpL0 P n ⟨some d, .indexAddr t x y, ty, pos, after, g⟩ [.opd x (.ref id p), .opd y (aInt i), .obj id (.arr k0 rows)] [.set d (.ptr id p k i.toNat 0)] :=
  z01g rfl hn fun _ _ _ _ _ _ st a w _ hT hs => by
    have hx : opIs st x (.ref id p) := at0 hs
    have hi' := hT.lit (at1 hs)
    have ho : st.obj id = some (.arr k0 rows) := at2 hs
    have h1 := hT.eval hx (fun i hi => by simp [AV.ids] at hi; subst hi; simp [ho])
    generalize hv : a.eval x = v at h1
    cases h1 with
    | ref ho' hg' hh =>
      rw [ho] at ho'; cases ho'
      obtain ⟨F', _, hown⟩ := Own.path (hT.heap id _ ho) hg hh
      cases hown with
      | nil => simp at hi; omega
      | emp => simp at hi; omega
      | shr =>
        refine ⟨_, z1fe hu hz hv hi' h0 hi, fun _ => ?_⟩
        exact .ptr ho hg hh
      | arr =>
        refine ⟨_, z1fe hu hz hv hi' h0 hi, fun _ => ?_⟩
        exact .ptr ho hg hh
end indexAddr
section load
variable {t : TypeId} {x : Operand} {m : Nat}
theorem z0i1 (ha : ∀ w, (isAgg t).run P w = .ok false w) {a : Act} {w : World} {b off : Nat} {v : Value} {c : Array Value} {e : TypeId} {fr : Nat × Nat}
    (he : a.eval x = .pointer (some ⟨b, off, none⟩)) (hb : w.heap[b]? = some (.cells c e fr)) (hv : c[off]? = some v) :
    (execOp a.eval ⟨some d, .load t x, ty, pos, after, g⟩).run P w = .ok (.value v) w := by
  have hc : w.cell? ⟨b, off, none⟩ = some v := by simp [World.cell?, hb, hv]
  simp only [execOp, he, Instr.loadAt, Instr.sureAddr, loadVar, Sem.run_bind, Sem.run_pure, Result.andThen_ok, ha w, Bool.false_eq_true, if_false, run_load, hc]
theorem z095 (ha : ∀ w, (isAgg t).run P w = .ok true w) (hz : ∀ w, (Go.sizeOf t).run P w = .ok m w) {a : Act} {w : World} {b off : Nat} {cs : List Value} {c : Array Value} {e : TypeId} {fr : Nat × Nat}
    (he : a.eval x = .pointer (some ⟨b, off, none⟩)) (hb : w.heap[b]? = some (.cells c e fr)) (hm : cs.length = m) (hv : ∀ j v, cs[j]? = some v → c[off + j]? = some v) :
    (execOp a.eval ⟨some d, .load t x, ty, pos, after, g⟩).run P w = .ok (.value (.agg cs.toArray)) w := by
  have hc : ∀ j v, cs[j]? = some v → w.cell? (Addr.add ⟨b, off, none⟩ j) = some v := fun j v h => by
    rw [Addr.add_lit]; simp [World.cell?, hb, hv j v h]
  have hl := run_loadCells_list (P := P) w ⟨b, off, none⟩ cs hc
  rw [hm] at hl
  simp only [execOp, he, Instr.loadAt, Instr.sureAddr, loadVar, Sem.run_bind, Sem.run_pure, Result.andThen_ok, ha w, if_true, hz w, hl]
theorem window {c : Array Value} {off m : Nat} (h : off + m ≤ c.size) : ((c.toList.drop off).take m).length = m ∧ ∀ (j : Nat) v, ((c.toList.drop off).take m)[j]? = some v → c[off + j]? = some v := by
  refine ⟨by simp; omega, fun j v hj => ?_⟩
  rw [List.getElem?_take] at hj
  split at hj
  · rw [List.getElem?_drop] at hj; simpa using hj
  · cases hj
theorem window' {c : Array Value} {off m j : Nat} {v : Value} (hj : j < m) (h : c[off + j]? = some v) : ((c.toList.drop off).take m)[j]? = some v := by
  rw [List.getElem?_take, if_pos hj, List.getElem?_drop]; simpa using h
theorem z1yj {id j : Nat} {xs : List AV} {av : AV} (ha : ∀ w, (isAgg t).run P w = .ok false w) (hx : xs[j]? = some av) (hn : d < n) :
    OpL0 P n ⟨some d, .load t x, ty, pos, after, g⟩ [.opd x (.bx id j), .obj id (.box xs)] [.set d av] :=
  z01g rfl hn fun _ _ _ _ _ _ st a w _ hT hs => by
    have h0 : opIs st x (.bx id j) := at0 hs
    have ho : st.obj id = some (.box xs) := at1 hs
    have h1 := hT.eval h0 (fun i hi => by simp [AV.ids] at hi; subst hi; simp [ho])
    obtain ⟨b, hb, he⟩ := h1.bx_inv ho
    have hbox := hT.heap id _ ho
    simp only [ObjSim] at hbox
    obtain ⟨b', c, e, h2, h3, h4, h5, h6⟩ := hbox
    rw [hb] at h2; cases h2
    have hlt := (List.getElem?_eq_some_iff.1 hx).1
    have hv : c[j]? = some (c[j]'(by omega)) := by simp [show j < c.size by omega]
    exact ⟨_, z0i1 ha he h3 hv, fun hl => h6 j av _ hx hv hl⟩
theorem z1f8 {id j : Nat} {xs ys : List AV} (ha : ∀ w, (isAgg t).run P w = .ok true w) (hz : ∀ w, (Go.sizeOf t).run P w = .ok m w) (hx : (xs.drop j).take m = ys) (hl : ys.length = m) (hn : d < n) :
    OpL0 P n ⟨some d, .load t x, ty, pos, after, g⟩ [.opd x (.bx id j), .obj id (.box xs)] [.set d (.agg ys)] :=
  z01g rfl hn fun _ _ _ _ _ _ st a w _ hT hs => by
    have h0 : opIs st x (.bx id j) := at0 hs
    have ho : st.obj id = some (.box xs) := at1 hs
    have h1 := hT.eval h0 (fun i hi => by simp [AV.ids] at hi; subst hi; simp [ho])
    obtain ⟨b, hb, he⟩ := h1.bx_inv ho
    have hbox := hT.heap id _ ho
    simp only [ObjSim] at hbox
    obtain ⟨b', c, e, h2, h3, h4, h5, h6⟩ := hbox
    rw [hb] at h2; cases h2
    have hlen : m ≤ xs.length - j := by subst hx; simp at hl; omega
    by_cases hm0 : m = 0
    · subst hm0
      have : ys = [] := List.length_eq_zero_iff.1 hl
      subst this
      exact ⟨_, z095 (cs := []) ha hz he h3 rfl (fun j v hj => by simp at hj), fun _ => .agg rfl (fun i x v h => by simp at h)⟩
    · obtain ⟨hw1, hw2⟩ := window (c := c) (off := j) (m := m) (by omega)
      refine ⟨_, z095 ha hz he h3 hw1 hw2, fun hlive => .agg (by simp; omega) fun i y v hy hv => ?_⟩
      have him : i < m := by have := (List.getElem?_eq_some_iff.1 hy).1; omega
      have hy' : xs[j + i]? = some y := by
        rw [← hx, List.getElem?_take, if_pos him, List.getElem?_drop] at hy; exact hy
      have hv' : c[j + i]? = some v := hw2 i v (by simpa using hv)
      exact h6 _ y v hy' hv' (fun id hid => hlive id (z02o hy hid))
theorem z1v1 {xs : List Cell} {y : Cell} (ha : ∀ w, (isAgg t).run P w = .ok false w) (hx : xs[0]? = some y) (hn : d < n) :
    OpL0 P n ⟨some d, .load t x, ty, pos, after, g⟩ [.opd x (.pts xs)] [.set d (.c y)] :=
  z01g rfl hn fun _ _ _ _ _ _ st a w _ hT hs => by
    have h0 : opIs st x (.pts xs) := at0 hs
    have h1 := hT.eval h0 (z1du _ _)
    generalize hv : a.eval x = v at h1
    cases h1 with
    | @pts _ b off c e fr hb hA hsz hh =>
      have hlt := (List.getElem?_eq_some_iff.1 hx).1
      have hv' : c[off]? = some (c[off]'(by omega)) := by simp [show off < c.size by omega]
      exact ⟨_, z0i1 ha hv hb hv', fun _ => .c (hh 0 y _ hx (by rw [Nat.add_zero]; exact hv'))⟩
theorem z19n {xs ys : List Cell} (ha : ∀ w, (isAgg t).run P w = .ok true w) (hz : ∀ w, (Go.sizeOf t).run P w = .ok m w) (hx : xs.take m = ys) (hl : ys.length = m) (hn : d < n) :
    OpL0 P n ⟨some d, .load t x, ty, pos, after, g⟩ [.opd x (.pts xs)] [.set d (.row ys)] :=
  z01g rfl hn fun _ _ _ _ _ _ st a w _ hT hs => by
    have h0 : opIs st x (.pts xs) := at0 hs
    have h1 := hT.eval h0 (z1du _ _)
    generalize hv : a.eval x = v at h1
    cases h1 with
    | @pts _ b off c e fr hb hA hsz hh =>
      have hlen : m ≤ xs.length := by subst hx; simp at hl; omega
      obtain ⟨hw1, hw2⟩ := window (c := c) (off := off) (m := m) (by omega)
      refine ⟨_, z095 ha hz hv hb hw1 hw2, fun _ => .row (by simp; omega) fun i y v hy hv => ?_⟩
      have him : i < m := by have := (List.getElem?_eq_some_iff.1 hy).1; omega
      have hy' : xs[i]? = some y := by rw [← hx, List.getElem?_take, if_pos him] at hy; exact hy
      exact hh i y v hy' (hw2 i v (by simpa using hv))
def Cell.plain : Cell → Bool
  | .lit _ => true
  | .sl o _ _ => !o
  | .bx _ => false
theorem z1sj {pn : Nat → Option Value} {w0 : World} {A0 F0 : Blks} {hv : Nat → Value} {T : Nat → Blks} {st : St} {a : Act} {w : World} (hT : StSim n pn w0 A0 F0 hv T st a w) {id k k0 i j : Nat} {p : Path} {o : Bool}
    {rows rows' : List (List Cell)} {row : List Cell} (hx : opIs st x (.ptr id p k i j)) (ho : st.obj id = some (.arr k0 rows)) (hg : (Cell.sl true k0 rows).get p = some (.sl o k rows')) (hr : rows'[i]? = some row) :
    ∃ b off len cap c e fr, a.eval x = .pointer (some ⟨b, off + (i * k + j), none⟩) ∧ w.heap[b]? = some (.cells c e fr) ∧ row.length = k ∧ off + (i * k + k) ≤ c.size ∧
      Hdr w (.sl true k0 rows) (hv id) p (.slice (some ⟨b, off, none⟩) len cap) ∧
      ∀ (l : Nat) y v, row[l]? = some y → c[off + (i * k + l)]? = some v → ∃ F, Own w (Sh A0 F0 w0 T st.obj w) F y v ∧ ∀ b, F b → T id b := by
  have h1 := hT.eval hx (fun i hi => by simp [AV.ids] at hi; subst hi; simp [ho])
  generalize he : a.eval x = v at h1
  cases h1 with
  | @ptr _ _ _ _ _ _ _ _ _ b off len cap ho' hg' hh =>
    rw [ho] at ho'; cases ho'
    obtain ⟨F', hF', hown⟩ := Own.path (hT.heap id _ ho) hg hh
    have hlt := (List.getElem?_eq_some_iff.1 hr).1
    have hmul : (i + 1) * k ≤ rows'.length * k := Nat.mul_le_mul_right _ (by omega)
    rw [Nat.add_mul, Nat.one_mul] at hmul
    cases hown with
    | emp => simp at hr
    | @shr _ _ _ _ _ _ c e fr hb hA hk hsz hcap hsub =>
      refine ⟨b, off, _, _, c, e, fr, rfl, hb, hk row (List.mem_of_getElem? hr), by omega, hh, fun l y v h1 h2 => ?_⟩
      have hl : l < k := by have := (List.getElem?_eq_some_iff.1 h1).1; have := hk row (List.mem_of_getElem? hr); omega
      exact ⟨noBlk, hsub (i * k + l) y v (by rw [List.flatten_getElem?_of_const hk _ _ hl, hr]; exact h1) h2, fun _ f => f.elim⟩
    | @arr _ _ _ _ _ c e G hb hk hsz hcap hF hG hGb hd hsub =>
      have hm2 : rows'.length * k ≤ cap * k := Nat.mul_le_mul_right _ hcap
      refine ⟨b, 0, _, _, c, e, (0, 0), rfl, hb, hk row (List.mem_of_getElem? hr), by omega, hh, fun l y v h1 h2 => ?_⟩
      have hl : l < k := by have := (List.getElem?_eq_some_iff.1 h1).1; have := hk row (List.mem_of_getElem? hr); omega
      exact ⟨G (i * k + l), hsub (i * k + l) y v (by rw [List.flatten_getElem?_of_const hk _ _ hl, hr]; exact h1) (by simpa using h2), fun b hb => hF' b (hG _ b hb)⟩
theorem Own.of_plain {w : World} {A F : Blks} {c : Cell} {v : Value} (h : Own w A F c v) (hp : c.plain = true) : Own w A noBlk c v := by
  cases h with
  | lit => exact .lit _
  | nil => exact .nil _ _
  | emp => exact .emp _ _
  | shr hb hA hk hs hcap hh => exact .shr hb hA hk hs hcap hh
  | arr => cases hp
  | bx => cases hp
theorem z1v0 {id k k0 i j : Nat} {p : Path} {o : Bool} {rows rows' : List (List Cell)} {row : List Cell} {y : Cell} (ha : ∀ w, (isAgg t).run P w = .ok false w)
    (hg : (Cell.sl true k0 rows).get p = some (.sl o k rows')) (hr : rows'[i]? = some row) (hy : row[j]? = some y) (hp : y.plain = true) (hn : d < n) :
    OpL0 P n ⟨some d, .load t x, ty, pos, after, g⟩ [.opd x (.ptr id p k i j), .obj id (.arr k0 rows)] [.set d (.c y)] :=
  z01g rfl hn fun _ _ _ _ _ _ st a w _ hT hs => by
    have h0 : opIs st x (.ptr id p k i j) := at0 hs
    have ho : st.obj id = some (.arr k0 rows) := at1 hs
    obtain ⟨b, off, len, cap, c, e, fr, he, hb, hrk, hsz, _, hsub⟩ := z1sj hT h0 ho hg hr
    have hlt := (List.getElem?_eq_some_iff.1 hy).1
    have hv' : c[off + (i * k + j)]? = some (c[off + (i * k + j)]'(by omega)) := by simp [show off + (i * k + j) < c.size by omega]
    obtain ⟨F, hown, _⟩ := hsub j y _ hy hv'
    exact ⟨_, z0i1 ha he hb hv', fun _ => .c (hown.of_plain hp)⟩
theorem Cell.get_append {c c' : Cell} {p q : Path} (h : c.get p = some c') : c.get (p ++ q) = c'.get q := by
  induction p generalizing c with
  | nil => cases h; rfl
  | cons ij p ih =>
    obtain ⟨i, j⟩ := ij
    cases c with
    | lit => cases h
    | bx => cases h
    | sl o k rows =>
      simp only [Cell.get, List.cons_append] at h ⊢
      cases hx : (rows[i]?).bind (·[j]?) with
      | none => rw [hx] at h; cases h
      | some x => rw [hx] at h; simp only [Option.bind_some] at h ⊢; exact ih h
theorem Hdr.append {w : World} {c c' : Cell} {v v' v2 : Value} {p q : Path} (hg : c.get p = some c') (h : Hdr w c v p v') (h2 : Hdr w c' v' q v2) : Hdr w c v (p ++ q) v2 := by
  induction p generalizing c v with
  | nil => cases hg; simp only [Hdr] at h; subst h; exact h2
  | cons ij p ih =>
    obtain ⟨i, j⟩ := ij
    cases c with
    | lit => cases hg
    | bx => cases hg
    | sl o k rows =>
      simp only [Hdr, List.cons_append] at h ⊢
      obtain ⟨b, off, m, cap, cs, e, fr, u, x, h1, h3, h4, h5, h6, h7⟩ := h
      refine ⟨b, off, m, cap, cs, e, fr, u, x, h1, h3, h4, h5, h6, ?_⟩
      simp only [Cell.get, h5, Option.bind_some] at hg
      exact ih hg h7
theorem z19l {id k k0 i j k2 : Nat} {p : Path} {o o2 : Bool} {rows rows' rows2 : List (List Cell)} {row : List Cell} (ha : ∀ w, (isAgg t).run P w = .ok false w)
    (hg : (Cell.sl true k0 rows).get p = some (.sl o k rows')) (hr : rows'[i]? = some row) (hy : row[j]? = some (.sl o2 k2 rows2)) (hn : d < n) :
    OpL0 P n ⟨some d, .load t x, ty, pos, after, g⟩ [.opd x (.ptr id p k i j), .obj id (.arr k0 rows)] [.set d (.ref id (p ++ [(i, j)]))] :=
  z01g rfl hn fun _ _ _ _ _ _ st a w _ hT hs => by
    have h0 : opIs st x (.ptr id p k i j) := at0 hs
    have ho : st.obj id = some (.arr k0 rows) := at1 hs
    obtain ⟨b, off, len, cap, c, e, fr, he, hb, hrk, hsz, hh, hsub⟩ := z1sj hT h0 ho hg hr
    have hlt := (List.getElem?_eq_some_iff.1 hy).1
    have hv' : c[off + (i * k + j)]? = some (c[off + (i * k + j)]'(by omega)) := by simp [show off + (i * k + j) < c.size by omega]
    refine ⟨_, z0i1 ha he hb hv', fun _ => .ref ho (k' := k2) (o := o2) (rows' := rows2) ?_ (Hdr.append hg hh ?_)⟩
    · rw [Cell.get_append hg]; simp [Cell.get, hr, hy]
    · exact ⟨b, off, len, cap, c, e, fr, _, _, rfl, hb, hv', by rw [hr]; exact hy, by omega, rfl⟩
theorem z19m {id k k0 i j : Nat} {p : Path} {o : Bool} {rows rows' : List (List Cell)} {row ys : List Cell} (ha : ∀ w, (isAgg t).run P w = .ok true w) (hz : ∀ w, (Go.sizeOf t).run P w = .ok m w)
    (hg : (Cell.sl true k0 rows).get p = some (.sl o k rows')) (hr : rows'[i]? = some row) (hy : (row.drop j).take m = ys) (hl : ys.length = m) (hp : ys.all Cell.plain = true) (hn : d < n) :
    OpL0 P n ⟨some d, .load t x, ty, pos, after, g⟩ [.opd x (.ptr id p k i j), .obj id (.arr k0 rows)] [.set d (.row ys)] :=
  z01g rfl hn fun _ _ _ _ _ _ st a w _ hT hs => by
    have h0 : opIs st x (.ptr id p k i j) := at0 hs
    have ho : st.obj id = some (.arr k0 rows) := at1 hs
    obtain ⟨b, off, len, cap, c, e, fr, he, hb, hrk, hsz, hh, hsub⟩ := z1sj hT h0 ho hg hr
    have hlen : m ≤ row.length - j := by subst hy; simp at hl; omega
    by_cases hm0 : m = 0
    · subst hm0
      have : ys = [] := List.length_eq_zero_iff.1 hl
      subst this
      exact ⟨_, z095 (cs := []) ha hz he hb rfl (fun j v hj => by simp at hj), fun _ => .row rfl (fun i x v h => by simp at h)⟩
    · obtain ⟨hw1, hw2⟩ := window (c := c) (off := off + (i * k + j)) (m := m) (by omega)
      refine ⟨_, z095 ha hz he hb hw1 hw2, fun _ => .row (by simp; omega) fun l y v hy' hv => ?_⟩
      have hlm : l < m := by have := (List.getElem?_eq_some_iff.1 hy').1; omega
      have hy2 : row[j + l]? = some y := by rw [← hy, List.getElem?_take, if_pos hlm, List.getElem?_drop] at hy'; exact hy'
      have hv2 := hw2 l v (by simpa using hv)
      obtain ⟨F, hown, _⟩ := hsub (j + l) y v hy2 (by rw [← hv2]; congr 1; omega)
      exact hown.of_plain (List.all_eq_true.1 hp y (List.mem_of_getElem? hy'))
def peek (id : Nat) (p : Path) (i j : Nat) : Cell → AV
  | .sl true _ _ => .ref id (p ++ [(i, j)])
  | .bx _ => .dead
  | c => .c c
def peeks (id : Nat) (p : Path) (i : Nat) : Nat → List Cell → List AV
  | _, [] => []
  | j, c :: cs => peek id p i j c :: peeks id p i (j + 1) cs
theorem z16d (id : Nat) (p : Path) (i : Nat) : ∀ (j : Nat) (cs : List Cell), (peeks id p i j cs).length = cs.length
  | _, [] => rfl
  | j, c :: cs => by simp [peeks, z16d id p i (j + 1) cs]
theorem z1sh (id : Nat) (p : Path) (i : Nat) : ∀ (j : Nat) (cs : List Cell) (l : Nat), (peeks id p i j cs)[l]? = (cs[l]?).map (peek id p i (j + l))
  | _, [], l => by simp [peeks]
  | j, c :: cs, 0 => by simp [peeks]
  | j, c :: cs, l + 1 => by simp [peeks, z1sh id p i (j + 1) cs l]; congr 1; congr 1; omega
theorem z19k {id k k0 i j : Nat} {p : Path} {o : Bool} {rows rows' : List (List Cell)} {row ys : List Cell} (ha : ∀ w, (isAgg t).run P w = .ok true w) (hz : ∀ w, (Go.sizeOf t).run P w = .ok m w)
    (hg : (Cell.sl true k0 rows).get p = some (.sl o k rows')) (hr : rows'[i]? = some row) (hy : (row.drop j).take m = ys) (hl : ys.length = m) (hn : d < n) :
    OpL0 P n ⟨some d, .load t x, ty, pos, after, g⟩ [.opd x (.ptr id p k i j), .obj id (.arr k0 rows)] [.set d (.agg (peeks id p i j ys))] :=
  z01g rfl hn fun _ _ _ _ _ _ st a w _ hT hs => by
    have h0 : opIs st x (.ptr id p k i j) := at0 hs
    have ho : st.obj id = some (.arr k0 rows) := at1 hs
    obtain ⟨b, off, len, cap, c, e, fr, he, hb, hrk, hsz, hh, hsub⟩ := z1sj hT h0 ho hg hr
    have hlen : m ≤ row.length - j := by subst hy; simp at hl; omega
    by_cases hm0 : m = 0
    · subst hm0
      have : ys = [] := List.length_eq_zero_iff.1 hl
      subst this
      exact ⟨_, z095 (cs := []) ha hz he hb rfl (fun j v hj => by simp at hj), fun _ => .agg rfl (fun i x v h => by simp [peeks] at h)⟩
    · obtain ⟨hw1, hw2⟩ := window (c := c) (off := off + (i * k + j)) (m := m) (by omega)
      refine ⟨_, z095 ha hz he hb hw1 hw2, fun _ => .agg (by simp [z16d]; omega) fun l y v hy' hv => ?_⟩
      rw [z1sh] at hy'
      cases hyl : ys[l]? with
      | none => rw [hyl] at hy'; cases hy'
      | some z =>
        rw [hyl] at hy'
        simp only [Option.map_some, Option.some.injEq] at hy'
        subst hy'
        have hlm : l < m := by have := (List.getElem?_eq_some_iff.1 hyl).1; omega
        have hy2 : row[j + l]? = some z := by rw [← hy, List.getElem?_take, if_pos hlm, List.getElem?_drop] at hyl; exact hyl
        have hv2 := hw2 l v (by simpa using hv)
        have hv3 : c[off + (i * k + (j + l))]? = some v := by rw [← hv2]; congr 1; omega
        obtain ⟨F, hown, _⟩ := hsub (j + l) z v hy2 hv3
        cases z with
        | lit u => exact .c (hown.of_plain rfl)
        | bx => exact .dead _
        | sl o2 k2 rows2 =>
          cases o2 with
          | false => exact .c (hown.of_plain rfl)
          | true =>
            refine .ref ho (k' := k2) (o := true) (rows' := rows2) ?_ (Hdr.append hg hh ?_)
            · rw [Cell.get_append hg]; simp [Cell.get, hr, hy2]
            · exact ⟨b, off, len, cap, c, e, fr, _, _, rfl, hb, hv3, by rw [hr]; exact hy2, by have := (List.getElem?_eq_some_iff.1 hy2).1; omega, rfl⟩
end load
section small
variable {x : Operand}
theorem z1f9 {id j : Nat} {xs : List AV} (hn : d < n) : OpL0 P n ⟨some d, .nilCheck x, ty, pos, after, g⟩ [.opd x (.bx id j), .obj id (.box xs)] [.set d (.bx id j)] :=
  z01g rfl hn fun _ _ _ _ _ _ st a w _ hT hs => by
    have h0 : opIs st x (.bx id j) := at0 hs
    have ho : st.obj id = some (.box xs) := at1 hs
    have h1 := hT.eval h0 (fun i hi => by simp [AV.ids] at hi; subst hi; simp [ho])
    obtain ⟨b, hb, he⟩ := h1.bx_inv ho
    refine ⟨a.eval x, ?_, fun _ => h1⟩
    simp only [execOp, he, Sem.run_pure]
theorem z19p {xs : List Cell} (hn : d < n) : OpL0 P n ⟨some d, .nilCheck x, ty, pos, after, g⟩ [.opd x (.pts xs)] [.set d (.pts xs)] :=
  z01g rfl hn fun _ _ _ _ _ _ st a w _ hT hs => by
    have h0 : opIs st x (.pts xs) := at0 hs
    have h1 := hT.eval h0 (z1du _ _)
    refine ⟨a.eval x, ?_, fun _ => h1⟩
    generalize hv : a.eval x = v at h1
    cases h1
    simp only [execOp, hv, Sem.run_pure]
theorem z19o {id k i j k0 : Nat} {p : Path} {rows : List (List Cell)} (hn : d < n) :
    OpL0 P n ⟨some d, .nilCheck x, ty, pos, after, g⟩ [.opd x (.ptr id p k i j), .obj id (.arr k0 rows)] [.set d (.ptr id p k i j)] :=
  z01g rfl hn fun _ _ _ _ _ _ st a w _ hT hs => by
    have h0 : opIs st x (.ptr id p k i j) := at0 hs
    have ho : st.obj id = some (.arr k0 rows) := at1 hs
    have h1 := hT.eval h0 (fun i hi => by simp [AV.ids] at hi; subst hi; simp [ho])
    refine ⟨a.eval x, ?_, fun _ => h1⟩
    generalize hv : a.eval x = v at h1
    cases h1
    simp only [execOp, hv, Sem.run_pure]
theorem z1yg {xs : List AV} {i : Nat} {av : AV} (hx : xs[i]? = some av) (hn : d < n) :
    OpL0 P n ⟨some d, .extract x i, ty, pos, after, g⟩ (.opd x (.tup xs) :: lives (idsL xs)) [.set d av] :=
  z01g rfl hn fun _ _ _ _ _ _ st a w _ hT hs => by
    have h0 : opIs st x (.tup xs) := at0 hs
    have h1 := hT.eval h0 (z159 (z0g3 hs))
    generalize hv : a.eval x = v at h1
    cases h1 with
    | @tup _ vs hsz hh =>
      have hlt := (List.getElem?_eq_some_iff.1 hx).1
      have hv' : vs[i]? = some (vs[i]'(by omega)) := by simp [show i < vs.size by omega]
      refine ⟨vs[i]'(by omega), ?_, fun _ => hh i av _ hx hv'⟩
      simp only [execOp, hv, Instr.extract, hv', Sem.run_bind, Sem.run_pure, Result.andThen_ok]
theorem z1qg {f : FuncId} {caps : Array Operand} {ρ : Operand → Value} {w : World} :
    (execOp ρ ⟨some d, .makeFunc (.func f) #[] caps, ty, pos, after, g⟩).run P w = .ok (.value (.func (.func f) #[] (caps.map ρ))) w := by
  simp [execOp, Instr.makeFunc]
end small
end
end Go.Am
end
section
namespace Go.Am
open Go
section
variable {P : Program} {ops : Array Oper} {n : Nat}
variable {pn : Nat → Option Value} {w0 : World} {A0 F0 : Blks} {hv : Nat → Value} {T : Nat → Blks} {st : St} {a : Act} {w w' : World}
theorem z23v (h : StSim n pn w0 A0 F0 hv T st a w) {x : Operand} {av : AV} (hx : opIs st x av) : ∀ id ∈ av.ids, st.used id = true := by
  cases x with
  | tmp t => exact h.uenv t av hx
  | const v => obtain rfl := hx; cases v <;> intro id hid <;> simp [constAV, AV.ids] at hid
  | func f => obtain rfl := hx; intro id hid; simp [AV.ids, idsL] at hid
  | global => exact hx.elim
theorem z16v (h : StSim n pn w0 A0 F0 hv T st a w) (hfr : Frame noBlk w w') {id : Nat} (hid : st.used id = false) (v : Value) {S : Blks} (hS : ∀ b, S b → w.heap.size ≤ b ∧ b < w'.heap.size) (o : Obj) :
    Trade w0 A0 F0 hv (upd hv id v) T (upd T id S) st.obj (upd st.obj id (some o)) (fun _ => False) w w' := by
  have hn : st.obj id = none := by
    cases ho : st.obj id with
    | none => rfl
    | some o => rw [h.uobj id (by simp [ho])] at hid; cases hid
  refine ⟨fun _ f => f.elim, hfr.mono fun b f => f.elim, fun j hj _ => ?_, fun j hj hno b hb => ?_⟩
  · have hne : id ≠ j := fun e => by subst e; rw [hn] at hj; cases hj
    exact ⟨z07d _ _ hne, z07d _ _ hne, z07d _ _ hne⟩
  · by_cases e : id = j
    · subst e; rw [z02d] at hb; exact .inr (hS b hb)
    · rw [z07d _ _ e] at hj
      rcases hno with f | hno
      · exact f.elim
      · rw [hno] at hj; cases hj
theorem z0xj (h : StSim n pn w0 A0 F0 hv T st a w) {id : Nat} (hid : st.used id = false) {o : Obj} {av : AV} (hu : ∀ i ∈ av.ids, st.used i = true) (hl : Live (upd st.obj id (some o)) av) : Live st.obj av := by
  intro i hi
  have := hl i hi
  have hne : id ≠ i := fun e => by subst e; rw [hu _ hi] at hid; cases hid
  rwa [z07d _ _ hne] at this
theorem StSim.create (h : StSim n pn w0 A0 F0 hv T st a w) (hfr : Frame noBlk w w') {id : Nat} (hid : st.used id = false) {v : Value} {S : Blks} (hS : ∀ b, S b → w.heap.size ≤ b ∧ b < w'.heap.size) {o : Obj}
    (hu : ∀ j ∈ o.ids, st.used j = true) (ho : ObjSim w' (Sh A0 F0 w0 (upd T id S) (upd st.obj id (some o)) w') (upd hv id v) (upd st.obj id (some o)) S id o) :
    StSim n pn w0 A0 F0 (upd hv id v) (upd T id S) ((Upd.put id o).app st) a w' := by
  have tr := z16v h hfr hid v hS o
  have hn : st.obj id = none := by
    cases ho : st.obj id with
    | none => rfl
    | some o => rw [h.uobj id (by simp [ho])] at hid; cases hid
  refine StSim.trade (st' := (Upd.put id o).app st) h tr h.size h.defers ?_ ?_ h.slt ?_ ?_ ?_ ?_ ?_ ?_
  · intro i j hij hi hj
    have hi' : i = id := by
      rcases hi.2 with f | e
      · exact f.elim
      · by_cases hh : id = i
        · exact hh.symm
        · have := hi.1; simp only [Upd.app] at this; rw [z07d _ _ hh, e] at this; cases this
    have hj' : j = id := by
      rcases hj.2 with f | e
      · exact f.elim
      · by_cases hh : id = j
        · exact hh.symm
        · have := hj.1; simp only [Upd.app] at this; rw [z07d _ _ hh, e] at this; cases this
    exact absurd (hi'.trans hj'.symm) hij
  · intro i o' hno ho'
    by_cases hh : id = i
    · subst hh
      simp only [Upd.app] at ho' ⊢
      rw [z02d] at ho'; cases ho'
      rw [z02d]
      exact ho
    · rcases hno with f | e
      · exact f.elim
      · simp only [Upd.app] at ho'; rw [z07d _ _ hh, e] at ho'; cases ho'
  · intro x av hx i hi
    exact z00g.2 (.inl (h.uenv x av hx i hi))
  · intro i hi
    refine z00g.2 ?_
    by_cases hh : id = i
    · exact .inr (by simp [hh])
    · simp only [Upd.app] at hi; rw [z07d _ _ hh] at hi; exact .inl (h.uobj i hi)
  · intro i v' hp
    obtain ⟨p1, p2⟩ := h.pin i v' hp
    have hne : id ≠ i := fun e => by subst e; rw [p1] at hid; cases hid
    refine ⟨z00g.2 (.inl p1), fun hi => ?_⟩
    simp only [Upd.app] at hi
    rw [z07d _ _ hne] at hi ⊢
    exact p2 hi
  · intro i xs hx j hj
    refine z00g.2 ?_
    by_cases hh : id = i
    · subst hh; simp only [Upd.app] at hx; rw [z02d] at hx; cases hx; exact .inl (hu j hj)
    · simp only [Upd.app] at hx; rw [z07d _ _ hh] at hx; exact .inl (h.ubox i xs hx j hj)
  · intro i xs hx _ av hav hl
    have huse : ∀ k ∈ av.ids, st.used k = true := by
      intro k hk
      obtain ⟨l, hlt, rfl⟩ := List.mem_iff_getElem.1 hav
      exact h.ubox i xs hx k (z02o (List.getElem?_eq_getElem hlt) hk)
    exact ⟨z0xj h hid huse hl, fun v ha => h.keepAV tr ha fun _ _ f => f⟩
  · intro x av hx hl
    have hl' := z0xj h hid (h.uenv x av hx) hl
    obtain ⟨v', h1, h2⟩ := h.env x av hx hl'
    exact ⟨v', h1, h.keepAV tr h2 fun _ _ f => f⟩
def AV.cells? : AV → Option (List AV)
  | .row xs => some (xs.map .c)
  | .agg xs => some xs
  | .c (.lit (.agg _)) => none
  | .c (.lit (.tuple _)) => none
  | .tup _ => none
  | .dead => none
  | .c x => some [.c x]
  | .ref id p => some [.ref id p]
  | .ptr id p k i j => some [.ptr id p k i j]
  | .bx id j => some [.bx id j]
  | .pts xs => some [.pts xs]
  | .fn f xs => some [.fn f xs]
theorem z20c {av : AV} {ys : List AV} (h : av.cells? = some ys) : ∀ y ∈ ys, ∀ id ∈ y.ids, id ∈ av.ids := by
  intro y hy id hid
  cases av <;> simp only [AV.cells?] at h
  case row xs => cases h; obtain ⟨c, _, rfl⟩ := List.mem_map.1 hy; simp [AV.ids] at hid
  case agg xs =>
    cases h
    obtain ⟨l, hlt, rfl⟩ := List.mem_iff_getElem.1 hy
    exact z02o (List.getElem?_eq_getElem hlt) hid
  case c x => split at h <;> first | (cases h; done) | (cases h; simp at hy; subst hy; exact hid) | (simp_all; done) | (simp_all [AV.ids]; done)
  all_goals first
    | (cases h; simp at hy; subst hy; exact hid)
    | (cases h; done)
theorem StSim.cells (hS : StSim n pn w0 A0 F0 hv T st a w) {av : AV} {v : Value} {ys : List AV} (h : AVSim w (Sh A0 F0 w0 T st.obj w) hv st.obj av v) (hc : av.cells? = some ys) :
    v.cells.size = ys.length ∧ ∀ (i : Nat) y u, ys[i]? = some y → v.cells[i]? = some u → AVSim w (Sh A0 F0 w0 T st.obj w) hv st.obj y u := by
  have one : ∀ {y : AV} {u : Value}, AVSim w (Sh A0 F0 w0 T st.obj w) hv st.obj y u → u.cells = #[u] → u.cells.size = [y].length ∧ ∀ (i : Nat) z t, [y][i]? = some z → u.cells[i]? = some t → AVSim w (Sh A0 F0 w0 T st.obj w) hv st.obj z t := by
    intro y u hs he
    rw [he]
    refine ⟨rfl, fun i z t h1 h2 => ?_⟩
    cases i with
    | zero => simp at h1 h2; subst h1 h2; exact hs
    | succ i => simp at h1
  cases h with
  | dead => cases hc
  | @c x _ ho =>
    cases ho with
    | lit =>
      cases v <;> simp only [AV.cells?] at hc <;> first | (cases hc; done) | (cases hc; exact one (.c (.lit _)) rfl)
    | nil => simp only [AV.cells?] at hc; cases hc; exact one (.c (.nil _ _)) rfl
    | emp => simp only [AV.cells?] at hc; cases hc; exact one (.c (.emp _ _)) rfl
    | shr hb hA hk hs hcap hh => simp only [AV.cells?] at hc; cases hc; exact one (.c (.shr hb hA hk hs hcap hh)) rfl
    | arr hb hk hs hcap hF hG hGb hd hh => exact hF.elim
    | bx hb hs hF hG hGb hd hh => exact hF.elim
  | row hs hh =>
    simp only [AV.cells?] at hc; cases hc
    refine ⟨by simpa [Value.cells] using hs, fun i y u h1 h2 => ?_⟩
    rw [List.getElem?_map] at h1
    obtain ⟨c, h3, rfl⟩ := Option.map_eq_some_iff.1 h1
    exact .c (hh i c u h3 h2)
  | ref ho hg hh =>
    simp only [AV.cells?] at hc; cases hc
    refine one (.ref ho hg hh) ?_
    obtain ⟨F', _, hown⟩ := Own.path (hS.heap _ _ ho) hg hh
    obtain ⟨b, c, rfl⟩ := z0op hown
    rfl
  | ptr ho hg hh => simp only [AV.cells?] at hc; cases hc; exact one (.ptr ho hg hh) rfl
  | bx ho hh => simp only [AV.cells?] at hc; cases hc; exact one (.bx ho hh) rfl
  | pts hb hA hs hh => simp only [AV.cells?] at hc; cases hc; exact one (.pts hb hA hs hh) rfl
  | mp ho hh =>
    simp only [AV.cells?] at hc; cases hc
    refine one (.mp ho hh) ?_
    obtain ⟨b, es, clock, he, _⟩ := hS.heap _ _ ho
    rw [← hh, he]; rfl
  | agg hs hh => simp only [AV.cells?] at hc; cases hc; exact ⟨by simpa [Value.cells] using hs, fun i y u h1 h2 => hh i y u h1 h2⟩
  | tup => cases hc
  | fn hs hh => simp only [AV.cells?] at hc; cases hc; exact one (.fn hs hh) rfl
section
variable {d : Nat} {ty : TypeId} {pos : String} {after : Array Edge} {g : Option (Nat × Bool)}
theorem z0d8 (w : World) (o : Go.Obj) : Frame noBlk w (w.alloc o) :=
  ⟨fun b hb _ => by show (w.heap.push o)[b]? = w.heap[b]?; rw [Array.getElem?_push, if_neg (by omega)], by show w.heap.size ≤ (w.heap.push o).size; simp, rfl, rfl⟩
theorem z0on (w : World) (o : Go.Obj) : (w.alloc o).heap[w.heap.size]? = some o := by show (w.heap.push o)[w.heap.size]? = some o; simp
theorem StSim.newBox (h : StSim n pn w0 A0 F0 hv T st a w) (hid : st.used d = false) (hn : d < n) {cs : Array Value} {e : TypeId} {ys : List AV} (hs : cs.size = ys.length)
    (hu : ∀ y ∈ ys, ∀ id ∈ y.ids, st.used id = true) (hsim : ∀ (i : Nat) y u, ys[i]? = some y → cs[i]? = some u → Live st.obj y → AVSim w (Sh A0 F0 w0 T st.obj w) hv st.obj y u) :
    Sim n pn w0 A0 F0 (apps [.put d (.box ys), .set d (.bx d 0)] st) (a.put (some d) (.pointer (some ⟨w.heap.size, 0, none⟩))) (w.alloc (.cells cs e)) := by
  have hfr := z0d8 w (.cells cs e)
  have hS : ∀ b, (fun b => b = w.heap.size) b → w.heap.size ≤ b ∧ b < (w.alloc (.cells cs e)).heap.size := by
    intro b hb; subst hb; exact ⟨Nat.le_refl _, by show w.heap.size < (w.heap.push _).size; simp⟩
  have tr := z16v h hfr hid (.pointer (some ⟨w.heap.size, 0, none⟩)) hS (.box ys)
  have huo : ∀ j ∈ (Obj.box ys).ids, st.used j = true := by
    intro j hj
    simp only [Obj.ids] at hj
    have : ∀ (l : List AV), (∀ y ∈ l, ∀ id ∈ y.ids, st.used id = true) → ∀ j ∈ idsL l, st.used j = true := by
      intro l
      induction l with
      | nil => intro _ j hj; simp [idsL] at hj
      | cons y l ih =>
        intro hl j hj
        simp only [idsL, List.mem_append] at hj
        rcases hj with hj | hj
        · exact hl y (by simp) j hj
        · exact ih (fun z hz => hl z (by simp [hz])) j hj
    exact this ys hu j hj
  have h1 := h.create hfr hid (v := .pointer (some ⟨w.heap.size, 0, none⟩)) hS huo (by
    refine ⟨w.heap.size, cs, e, z02d _ _ _, z0on _ _, hs, rfl, fun i y u hy hu' hl => ?_⟩
    have hl' := z0xj h hid (hu y (List.mem_of_getElem? hy)) hl
    exact h.keepAV (st' := (Upd.put d (.box ys)).app st) tr (hsim i y u hy hu' hl') fun _ _ f => f)
  exact ⟨_, _, h1.set hn fun _ => .bx (by simp [Upd.app, z02d]; rfl) (by rw [z02d])⟩
theorem z26z {x : Operand} {t : TypeId} {av : AV} {ys : List AV} (hc : av.cells? = some ys) (hn : d < n) :
    OpL0 P n ⟨some d, .box t x, ty, pos, after, g⟩ (.opd x av :: .fresh d :: lives av.ids) [.put d (.box ys), .set d (.bx d 0)] := by
  intro pn w0 A0 F0 st a w hB hS hs K Q hK
  obtain ⟨hv, T, hT⟩ := hS
  have h0 : opIs st x av := at0 hs
  have hf : st.used d = false := at1 hs
  have h1 := hT.eval h0 (z159 (z0g3 (z0g3 hs)))
  obtain ⟨h2, h3⟩ := hT.cells h1 hc
  have hu := z23v hT h0
  have hrun : (execOp a.eval ⟨some d, .box t x, ty, pos, after, g⟩).run P w = .ok (.value (.pointer (some ⟨w.heap.size, 0, none⟩))) (w.alloc (.cells (a.eval x).cells t)) := by
    simp [execOp, Instr.box, newVar, newRow]
  unfold Oper.wp
  rw [hrun]
  exact hK _ _ (hT.newBox hf hn h2 (fun y hy id hid => hu id (z20c hc y hy id hid)) fun i y u hy hu' _ => h3 i y u hy hu')
theorem z248 {t : TypeId} {z : Value} {zs : List Value} (hz : ∀ w, (zeroValue t).run P w = .ok z w) (hc : z.cells.toList = zs) (hn : d < n) :
    OpL0 P n ⟨some d, .alloc t, ty, pos, after, g⟩ [.fresh d] [.put d (.box (zs.map fun v => .c (.lit v))), .set d (.bx d 0)] := by
  intro pn w0 A0 F0 st a w hB hS hs K Q hK
  obtain ⟨hv, T, hT⟩ := hS
  have hf : st.used d = false := at0 hs
  have hrun : (execOp a.eval ⟨some d, .alloc t, ty, pos, after, g⟩).run P w = .ok (.value (.pointer (some ⟨w.heap.size, 0, none⟩))) (w.alloc (.cells z.cells t)) := by
    simp [execOp, Instr.alloc, newVar, newRow, hz w]
  unfold Oper.wp
  rw [hrun]
  refine hK _ _ (hT.newBox hf hn (by subst hc; simp) ?_ ?_)
  · intro y hy id hid
    obtain ⟨v, _, rfl⟩ := List.mem_map.1 hy
    simp [AV.ids] at hid
  · intro i y u hy hu' _
    rw [List.getElem?_map] at hy
    obtain ⟨v, h1, rfl⟩ := Option.map_eq_some_iff.1 hy
    subst hc
    rw [Array.getElem?_toList, hu'] at h1
    cases h1
    exact .c (.lit _)
inductive Opds (st : St) : List Operand → List AV → Prop
  | nil : Opds st [] []
  | cons {x : Operand} {av : AV} {xs : List Operand} {avs : List AV} (h : opIs st x av) (t : Opds st xs avs) : Opds st (x :: xs) (av :: avs)
def opds (xs : List Operand) (avs : List AV) : List Req := List.zipWith Req.opd xs avs
theorem Opds.length {xs : List Operand} {avs : List AV} (h : Opds st xs avs) : xs.length = avs.length := by
  induction h with
  | nil => rfl
  | cons _ _ ih => simp [ih]
theorem Opds.get {xs : List Operand} {avs : List AV} (h : Opds st xs avs) {i : Nat} {x : Operand} {av : AV} (hx : xs[i]? = some x) (ha : avs[i]? = some av) : opIs st x av := by
  induction h generalizing i with
  | nil => simp at hx
  | cons h0 _ ih =>
    cases i with
    | zero => simp at hx ha; subst hx ha; exact h0
    | succ i => exact ih (by simpa using hx) (by simpa using ha)
theorem z0wd {xs : List Operand} {avs : List AV} {rs : List Req} (h : Opds st xs avs) (k : ∀ r ∈ rs, r.sat st) : ∀ r ∈ opds xs avs ++ rs, r.sat st := by
  induction h with
  | nil => simpa [opds] using k
  | cons h0 _ ih =>
    intro r hr
    simp only [opds, List.zipWith_cons_cons, List.cons_append, List.mem_cons] at hr
    rcases hr with rfl | hr
    · exact h0
    · exact ih r hr
theorem z1le {xs : List Operand} {avs : List AV} {rs : List Req} (hl : xs.length = avs.length) (h : ∀ r ∈ opds xs avs ++ rs, r.sat st) : Opds st xs avs ∧ ∀ r ∈ rs, r.sat st := by
  induction xs generalizing avs with
  | nil =>
    cases avs with
    | nil => exact ⟨.nil, by simpa [opds] using h⟩
    | cons => simp at hl
  | cons x xs ih =>
    cases avs with
    | nil => simp at hl
    | cons av avs =>
      have h0 := h (.opd x av) (by simp [opds])
      obtain ⟨h1, h2⟩ := ih (by simpa using hl) (fun r hr => h r (by simp only [opds, List.zipWith_cons_cons, List.cons_append, List.mem_cons]; exact .inr hr))
      exact ⟨.cons h0 h1, h2⟩
def splice {α : Type} (xs : List α) (off : Nat) (ys : List α) : List α := xs.take off ++ ys ++ xs.drop (off + ys.length)
theorem z16m {α : Type} {xs ys : List α} {off : Nat} (h : off + ys.length ≤ xs.length) (i : Nat) :
    (splice xs off ys)[i]? = if off ≤ i ∧ i < off + ys.length then ys[i - off]? else xs[i]? := by
  unfold splice
  by_cases h1 : i < off
  · rw [List.append_assoc, List.getElem?_append_left (by simp; omega), List.getElem?_take, if_pos h1, if_neg (by omega)]
  · by_cases h2 : i < off + ys.length
    · rw [List.append_assoc, List.getElem?_append_right (by simp; omega), List.getElem?_append_left (by simp; omega), if_pos (by omega)]
      congr 1; simp; omega
    · rw [List.getElem?_append_right (by simp; omega), List.getElem?_drop, if_neg (by omega)]
      congr 1; simp; omega
theorem z0ff {α : Type} {xs ys : List α} {off : Nat} (h : off + ys.length ≤ xs.length) : (splice xs off ys).length = xs.length := by
  unfold splice; simp; omega
def fillA (places : List (Nat × Nat)) : List AV → List (Nat × AV) → Option (List AV)
  | cells, [] => some cells
  | cells, (i, av) :: rest =>
    match places[i]?, av.cells? with
    | some (off, size), some ys => bif Nat.beq ys.length size && Nat.ble (off + ys.length) cells.length then fillA places (splice cells off ys) rest else none
    | _, _ => none
theorem z1xh (hS : StSim n pn w0 A0 F0 hv T st a w) {places : List (Nat × Nat)} :
    ∀ {pa : List (Nat × AV)} {pv : List (Nat × Value)} {ca ra : List AV} {cv : Array Value}, pa.length = pv.length →
      (∀ (i : Nat) k av k' v, pa[i]? = some (k, av) → pv[i]? = some (k', v) → k = k' ∧ AVSim w (Sh A0 F0 w0 T st.obj w) hv st.obj av v) →
      cv.size = ca.length → (∀ (i : Nat) y u, ca[i]? = some y → cv[i]? = some u → AVSim w (Sh A0 F0 w0 T st.obj w) hv st.obj y u) → fillA places ca pa = some ra →
      ∃ rv, Instr.fill (fun i => places.toArray[i]?) cv pv = some rv ∧ rv.size = ra.length ∧ ∀ (i : Nat) y u, ra[i]? = some y → rv[i]? = some u → AVSim w (Sh A0 F0 w0 T st.obj w) hv st.obj y u
  | [], pv, ca, ra, cv, hl, _, hs, hc, hf => by
    cases pv with
    | nil => simp only [fillA, Option.some.injEq] at hf; subst hf; exact ⟨cv, rfl, hs, hc⟩
    | cons => simp at hl
  | (k, av) :: pa, pv, ca, ra, cv, hl, hp, hs, hc, hf => by
    cases pv with
    | nil => simp at hl
    | cons kv pv =>
      obtain ⟨k', v⟩ := kv
      obtain ⟨rfl, hav⟩ := hp 0 k av k' v rfl rfl
      simp only [fillA] at hf
      cases hpl : places[k]? with
      | none => rw [hpl] at hf; cases hf
      | some os =>
        obtain ⟨off, size⟩ := os
        rw [hpl] at hf
        cases hcl : av.cells? with
        | none => rw [hcl] at hf; cases hf
        | some ys =>
          rw [hcl] at hf
          dsimp only at hf
          cases hcond : Nat.beq ys.length size && Nat.ble (off + ys.length) ca.length with
          | false => rw [hcond] at hf; cases hf
          | true =>
            rw [hcond] at hf
            simp only [cond_true] at hf
            simp only [Bool.and_eq_true] at hcond
            have hsz : ys.length = size := Nat.eq_of_beq_eq_true hcond.1
            have hle : off + ys.length ≤ ca.length := Nat.le_of_ble_eq_true hcond.2
            obtain ⟨h2, h3⟩ := hS.cells hav hcl
            obtain ⟨g1, g2⟩ := Great.foldl_set off v.cells.toList 0 cv
            have hzi : (v.cells.zipIdx.foldl (fun cs (x : Value × Nat) => cs.setIfInBounds (off + x.2) x.1) cv) = ((v.cells.toList.zipIdx 0).foldl (fun cs (x : Value × Nat) => cs.setIfInBounds (off + x.2) x.1) cv) := by
              rw [← Array.foldl_toList]; simp
            have := z1xh hS (places := places) (pa := pa) (pv := pv) (ca := splice ca off ys) (ra := ra) (cv := (v.cells.zipIdx.foldl (fun cs (x : Value × Nat) => cs.setIfInBounds (off + x.2) x.1) cv)) (by simpa using hl)
              (fun i k av k' v h1 h2 => hp (i + 1) k av k' v (by simpa using h1) (by simpa using h2)) (by rw [hzi, g1, z0ff hle]; exact hs) (by
                intro i y u hy hu
                rw [hzi, g2 i] at hu
                rw [z16m hle] at hy
                have hvl : v.cells.toList.length = ys.length := by simpa using h2
                by_cases hin : off ≤ i ∧ i < off + ys.length
                · rw [if_pos hin] at hy
                  rw [if_pos ⟨by omega, by omega, by omega⟩] at hu
                  exact h3 (i - off) y u hy (by simpa using hu)
                · rw [if_neg hin] at hy
                  rw [if_neg (by omega)] at hu
                  exact hc i y u hy hu) hf
            obtain ⟨rv, r1, r2, r3⟩ := this
            refine ⟨rv, ?_, r2, r3⟩
            simp only [Instr.fill]
            have hpl' : places.toArray[k]? = some (off, size) := by simpa using hpl
            rw [hpl']
            have c1 : ¬ (v.cells.size ≠ size ∨ off + v.cells.size > cv.size) := by omega
            simp only [ne_eq, Bool.or_eq_true, decide_eq_true_eq] at c1 ⊢
            rw [if_neg (by simpa using c1)]
            exact r1
theorem z249 {t : TypeId} {parts : List (Nat × Operand)} {avs ys : List AV} {places : List (Nat × Nat)} {zc : Array Value} (hb : ∀ ps, P.built t ps = Instr.fill (fun i => places.toArray[i]?) zc ps)
    (hl : parts.length = avs.length) (hf : fillA places (zc.toList.map fun v => .c (.lit v)) (List.zipWith (fun p av => (p.1, av)) parts avs) = some ys) (hn : d < n) :
    OpL0 P n ⟨some d, .build t parts.toArray, ty, pos, after, g⟩ (opds (parts.map (·.2)) avs ++ lives (idsL avs)) [.set d (.agg ys)] :=
  z01g rfl hn fun pn w0 A0 F0 hv T st a w _ hT hs => by
    obtain ⟨ho, hlv⟩ := z1le (by simpa using hl) hs
    have hlive := z159 hlv
    obtain ⟨rv, h1, h2, h3⟩ := z1xh hT (places := places) (pa := List.zipWith (fun p av => (p.1, av)) parts avs) (pv := parts.map fun p => (p.1, a.eval p.2)) (ca := zc.toList.map fun v => .c (.lit v)) (ra := ys) (cv := zc)
      (by simp; omega) (by
        intro i k av k' v h1 h2
        rw [List.getElem?_zipWith] at h1
        rw [List.getElem?_map] at h2
        cases hp : parts[i]? with
        | none => rw [hp] at h2; cases h2
        | some p =>
          rw [hp] at h1 h2
          cases hav : avs[i]? with
          | none => rw [hav] at h1; cases h1
          | some av' =>
            rw [hav] at h1
            cases h1; cases h2
            have hop : opIs st p.2 av := ho.get (by rw [List.getElem?_map, hp]; rfl) hav
            exact ⟨rfl, hT.eval hop fun id hid => hlive id (z02o hav hid)⟩) (by simp) (by
        intro i y u hy hu
        rw [List.getElem?_map] at hy
        obtain ⟨v, h1, rfl⟩ := Option.map_eq_some_iff.1 hy
        rw [Array.getElem?_toList, hu] at h1; cases h1
        exact .c (.lit _)) hf
    refine ⟨.agg rv, ?_, fun _ => .agg h2 h3⟩
    have hrun := run_build (P := P) w t (parts.map fun p => (p.1, a.eval p.2)).toArray rv (by rw [hb]; simpa using h1)
    simp only [execOp, Sem.run_bind]
    have e : (parts.toArray.map fun (x : Nat × Operand) => match x with | (i, x) => (i, a.eval x)) = (parts.map fun p => (p.1, a.eval p.2)).toArray := by
      simp
    rw [e, hrun]; rfl
end
end
end Go.Am
end
section
namespace Go.Am
open Go
section
variable {P : Program} {ops : Array Oper} {n : Nat}
variable {pn : Nat → Option Value} {w0 : World} {A0 F0 : Blks} {hv hv' : Nat → Value} {T T' : Nat → Blks} {st st' : St} {a : Act} {w w' : World} {D : Nat → Prop}
theorem z0i2 {b : Nat} {e : TypeId} {off : Nat} : ∀ (vs : List Value) (i : Nat) (w : World) (c : Array Value), w.heap[b]? = some (.cells c e (0, 0)) → off + i + vs.length ≤ c.size →
    (∀ v ∈ vs, v.oneCell' = true) → ∃ w' c', (storeCells ⟨b, off, none⟩ vs i).run P w = .ok () w' ∧ w'.heap[b]? = some (.cells c' e (0, 0)) ∧ c'.size = c.size ∧
      (∀ k, c'[k]? = if off + i ≤ k ∧ k < off + i + vs.length then vs[k - (off + i)]? else c[k]?) ∧ (∀ b', b' ≠ b → w'.heap[b']? = w.heap[b']?) ∧ w'.heap.size = w.heap.size ∧ w'.os = w.os ∧ w'.output = w.output
  | [], i, w, c, hb, _, _ => ⟨w, c, rfl, hb, rfl, fun k => by rw [if_neg (by simp)], fun _ _ => rfl, rfl, rfl, rfl⟩
  | v :: vs, i, w, c, hb, hl, h1 => by
    simp only [List.length_cons] at hl
    have hc : w.cell? ⟨b, off + i, none⟩ = some (c[off + i]'(by omega)) := by
      have hlt : off + i < c.size := by omega
      simp [World.cell?, hb, hlt]
    have hfz : w.frozen? ⟨b, off + i, none⟩ = false := by simp [World.frozen?, hb]
    have hs : (store ⟨b, off + i, none⟩ v).run P w = .ok () (w.setCell ⟨b, off + i, none⟩ v) := by
      rw [run_store P w _ v _ (h1 v (by simp)), hc]; simp [hfz]
    have hb' : (w.setCell ⟨b, off + i, none⟩ v).heap[b]? = some (.cells (c.setIfInBounds (off + i) v) e (0, 0)) := by
      simp [World.setCell, Array.getElem?_modify, hb]
    obtain ⟨w', c', r1, r2, r3, r4, r5, r6, r7, r8⟩ := z0i2 (off := off) vs (i + 1) (w.setCell ⟨b, off + i, none⟩ v) (c.setIfInBounds (off + i) v) hb' (by simp; omega) (fun x hx => h1 x (by simp [hx]))
    refine ⟨w', c', ?_, r2, by simpa using r3, fun k => ?_, fun b' hne => ?_, by simpa using r6, r7, r8⟩
    · simp only [storeCells, Addr.add_lit, Sem.run_bind, hs, Result.andThen_ok]; exact r1
    · rw [r4 k]
      by_cases hk : off + i = k
      · subst hk
        rw [if_neg (by omega), if_pos ⟨Nat.le_refl _, by simp⟩]
        simp [show off + i < c.size by omega]
      · by_cases hin : off + (i + 1) ≤ k ∧ k < off + (i + 1) + vs.length
        · rw [if_pos hin, if_pos ⟨by omega, by simp; omega⟩]
          have : k - (off + i) = (k - (off + (i + 1))) + 1 := by omega
          rw [this, List.getElem?_cons_succ]
        · rw [if_neg hin, if_neg (by simp; omega)]
          rw [Array.getElem?_setIfInBounds_ne hk]
    · rw [r5 b' hne]; simp [World.setCell, Array.getElem?_modify, Ne.symm hne]
def AV.one : AV → Bool
  | .c (.lit (.agg _)) => false
  | .c (.lit (.tuple _)) => false
  | .c _ => true
  | .ref _ _ => true
  | .ptr _ _ _ _ _ => true
  | .bx _ _ => true
  | .pts _ => true
  | .fn _ _ => true
  | _ => false
theorem StSim.one (hS : StSim n pn w0 A0 F0 hv T st a w) {av : AV} {v : Value} (h : AVSim w (Sh A0 F0 w0 T st.obj w) hv st.obj av v) (ho : av.one = true) : v.oneCell' = true := by
  cases h with
  | dead => cases ho
  | c hx =>
    cases hx with
    | lit => cases v <;> first | rfl | cases ho
    | nil => rfl
    | emp => rfl
    | shr => rfl
    | arr hb hk hs hcap hF => rfl
    | bx => rfl
  | row => cases ho
  | ref h1 hg hh =>
    obtain ⟨F', _, hown⟩ := Own.path (hS.heap _ _ h1) hg hh
    obtain ⟨b, c, rfl⟩ := z0op hown
    rfl
  | ptr => rfl
  | bx => rfl
  | pts => rfl
  | mp h1 hh => obtain ⟨b, es, clock, he, _⟩ := hS.heap _ _ h1; rw [← hh, he]; rfl
  | agg => cases ho
  | tup => cases ho
  | fn => rfl
theorem Trade.keepBox {obj obj' : Nat → Option Obj} (h : Trade w0 A0 F0 hv hv' T T' obj obj' D w w')
    (hdis : ∀ i j, i ≠ j → (obj i).isSome = true → (obj j).isSome = true → ∀ b, T i b → ¬ T j b)
    (hown : ∀ id, (obj id).isSome = true → ∀ b, T id b → b < w.heap.size)
    (hheap : ∀ id k rows, obj id = some (.arr k rows) → Own w (Sh A0 F0 w0 T obj w) (T id) (.sl true k rows) (hv id))
    (hD : ∀ d, D d → hv' d = hv d ∧ ∃ xs xs', obj d = some (.box xs) ∧ obj' d = some (.box xs')) {av : AV} {v : Value}
    (ha : AVSim w (Sh A0 F0 w0 T obj w) hv obj av v) : AVSim w' (Sh A0 F0 w0 T' obj' w') hv' obj' av v := by
  have hblk : ∀ id, (obj id).isSome = true → ¬ D id → ∀ b, Sh A0 F0 w0 T obj w b ∨ T id b → w'.heap[b]? = w.heap[b]? := by
    intro id hs hnd b hb
    rcases hb with hb | hb
    · exact h.same hb
    · refine h.frame.heap b (hown id hs b hb) ?_
      rintro ⟨d, hd, hT⟩
      by_cases e : d = id
      · subst e; exact hnd hd
      · exact hdis d id e (h.here d hd) hs b hT hb
  have harr : ∀ id k rows, obj id = some (.arr k rows) → ¬ D id := by
    intro id k rows ho hd
    obtain ⟨_, xs, xs', h1, _⟩ := hD id hd
    rw [ho] at h1; cases h1
  induction ha with
  | dead v => exact .dead v
  | c ho => exact .c (h.own ho)
  | row hs hh => exact .row hs fun i x v h1 h2 => h.own (hh i x v h1 h2)
  | @ref id p k k' o rows rows' v ho hg hh =>
    have hnd := harr id k rows ho
    obtain ⟨e1, e2, _⟩ := h.old id (by simp [ho]) hnd
    refine .ref (by rw [e1]; exact ho) hg ?_
    rw [e2]
    exact Hdr.frame (hheap id k rows ho) (hblk id (by simp [ho]) hnd) hh
  | @ptr id p k i j k0 rows o rows' b off n cap ho hg hh =>
    have hnd := harr id k0 rows ho
    obtain ⟨e1, e2, _⟩ := h.old id (by simp [ho]) hnd
    refine .ptr (n := n) (cap := cap) (by rw [e1]; exact ho) hg ?_
    rw [e2]
    exact Hdr.frame (hheap id k0 rows ho) (hblk id (by simp [ho]) hnd) hh
  | @bx id j b xs ho hh =>
    by_cases hd : D id
    · obtain ⟨e2, ys, ys', _, e1⟩ := hD id hd
      exact .bx e1 (by rw [e2]; exact hh)
    · obtain ⟨e1, e2, _⟩ := h.old id (by simp [ho]) hd
      exact .bx (by rw [e1]; exact ho) (by rw [e2]; exact hh)
  | @pts xs b off c e fr hb hA hs hh =>
    exact .pts (by rw [h.same hA]; exact hb) (h.sh hA) hs fun i x v h1 h2 => h.own (hh i x v h1 h2)
  | @mp id ks v ho hh =>
    have hnd : ¬ D id := by
      intro hd
      obtain ⟨_, xs, xs', h1, _⟩ := hD id hd
      rw [ho] at h1; cases h1
    obtain ⟨e1, e2, _⟩ := h.old id (by simp [ho]) hnd
    exact .mp (by rw [e1]; exact ho) (by rw [e2]; exact hh)
  | agg hs hh ih => exact .agg hs fun i x v h1 h2 => ih i x v h1 h2
  | tup hs hh ih => exact .tup hs fun i x v h1 h2 => ih i x v h1 h2
  | fn hs hh ih => exact .fn hs fun i x v h1 h2 => ih i x v h1 h2
section
variable {ty : TypeId} {pos : String} {after : Array Edge} {g : Option (Nat × Bool)}
theorem z16g {t : TypeId} {x y : Operand} {m b off : Nat} {c : Array Value} {e : TypeId} (hz : ∀ w, (Go.sizeOf t).run P w = .ok m w) (hx : a.eval x = .pointer (some ⟨b, off, none⟩))
    (hb : w.heap[b]? = some (.cells c e (0, 0))) (hm : (a.eval y).cells.size = m) (hl : off + m ≤ c.size) (h1 : ∀ v ∈ (a.eval y).cells.toList, v.oneCell' = true) :
    ∃ w' c', (execOp a.eval ⟨none, .store t x y, ty, pos, after, g⟩).run P w = .ok .skip w' ∧ w'.heap[b]? = some (.cells c' e (0, 0)) ∧ c'.size = c.size ∧
      (∀ k, c'[k]? = if off ≤ k ∧ k < off + m then (a.eval y).cells[k - off]? else c[k]?) ∧ (∀ b', b' ≠ b → w'.heap[b']? = w.heap[b']?) ∧ w'.heap.size = w.heap.size ∧ w'.os = w.os ∧ w'.output = w.output := by
  obtain ⟨w', c', r1, r2, r3, r4, r5, r6, r7, r8⟩ := z0i2 (P := P) (off := off) (a.eval y).cells.toList 0 w c hb (by simp; omega) h1
  refine ⟨w', c', ?_, r2, r3, fun k => ?_, r5, r6, r7, r8⟩
  · simp only [execOp, Instr.storeAt, hx, Instr.sureAddr, storeVar, Sem.run_bind, Sem.run_pure, Result.andThen_ok, hz w, hm]
    simp only [ne_eq, not_true_eq_false, if_false]
    rw [r1]; rfl
  · rw [r4 k]; simp [hm]
theorem z1v4 {t : TypeId} {x y : Operand} {id j m : Nat} {xs ys : List AV} {av : AV} (hz : ∀ w, (Go.sizeOf t).run P w = .ok m w) (hc : av.cells? = some ys) (ho : ys.all AV.one = true)
    (hm : ys.length = m) (hl : j + m ≤ xs.length) :
    OpL0 P n ⟨none, .store t x y, ty, pos, after, g⟩ (.opd x (.bx id j) :: .opd y av :: .obj id (.box xs) :: lives av.ids) [.put id (.box (splice xs j ys))] := by
  intro pn w0 A0 F0 st a w hB hS hs K Q hK
  obtain ⟨hv, T, hT⟩ := hS
  have h0 : opIs st x (.bx id j) := at0 hs
  have h1 : opIs st y av := at1 hs
  have hobj : st.obj id = some (.box xs) := at2 hs
  have hlive : ∀ i ∈ av.ids, (st.obj i).isSome = true := z159 (z0g3 (z0g3 (z0g3 hs)))
  have hx := hT.eval h0 (fun i hi => by simp [AV.ids] at hi; subst hi; simp [hobj])
  obtain ⟨b, hb, he⟩ := hx.bx_inv hobj
  obtain ⟨b', c, e, g1, g2, g3, g4, g5⟩ := hT.heap id _ hobj
  rw [hb] at g1; cases g1
  have hy := hT.eval h1 hlive
  obtain ⟨h2, h3⟩ := hT.cells hy hc
  have hcell : ∀ (i : Nat) u, (a.eval y).cells[i]? = some u → ∃ z, ys[i]? = some z ∧ AVSim w (Sh A0 F0 w0 T st.obj w) hv st.obj z u := by
    intro i u hu
    have hi : i < ys.length := by have := (Array.getElem?_eq_some_iff.1 hu).1; omega
    exact ⟨ys[i], by simp [hi], h3 i _ u (by simp [hi]) hu⟩
  obtain ⟨w', c', r1, r2, r3, r4, r5, r6, r7, r8⟩ := z16g (P := P) (ty := ty) (pos := pos) (after := after) (g := g) (t := t) (x := x) (y := y) hz he g2 (by omega) (by omega) (by
    intro v hv'
    obtain ⟨i, hi, rfl⟩ := List.mem_iff_getElem.1 hv'
    obtain ⟨z, hz1, hz2⟩ := hcell i _ (by rw [← Array.getElem?_toList]; exact List.getElem?_eq_getElem hi)
    exact hT.one hz2 (List.all_eq_true.1 ho z (List.mem_of_getElem? hz1)))
  unfold Oper.wp
  rw [r1]
  refine hK _ _ ⟨hv, T, ?_⟩
  have hfr : Frame (fun b => ∃ d, d = id ∧ T d b) w w' :=
    ⟨fun b2 hlt hno => r5 b2 (fun e2 => hno ⟨id, rfl, by subst e2; exact g4⟩), by omega, r7, r8⟩
  have tr : Trade w0 A0 F0 hv hv T T st.obj (upd st.obj id (some (.box (splice xs j ys)))) (fun d => d = id) w w' := by
    refine ⟨fun d hd => by subst hd; simp [hobj], hfr, fun i hi hne => ⟨z07d _ _ (Ne.symm hne), rfl, rfl⟩, fun i hi hor b2 hb2 => ?_⟩
    rcases hor with rfl | hno
    · exact .inl ⟨i, rfl, hb2⟩
    · by_cases e2 : id = i
      · subst e2; rw [hobj] at hno; cases hno
      · rw [z07d _ _ e2, hno] at hi; cases hi
  have keep := fun {av : AV} {v : Value} (ha : AVSim w (Sh A0 F0 w0 T st.obj w) hv st.obj av v) => Trade.keepBox tr hT.dis (fun i hs b hb => (hT.own i hs b hb).2) (fun i _ _ ho => hT.heap i _ ho)
    (fun d hd => by subst hd; exact ⟨rfl, xs, _, hobj, z02d _ _ _⟩) ha
  have liveB : ∀ av, Live (upd st.obj id (some (.box (splice xs j ys)))) av → Live st.obj av := by
    intro av hl i hi
    have := hl i hi
    by_cases e2 : id = i
    · subst e2; simp [hobj]
    · rwa [z07d _ _ e2] at this
  have hlen : (splice xs j ys).length = xs.length := z0ff (by omega)
  refine StSim.trade (st' := (Upd.put id (.box (splice xs j ys))).app st) hT tr hT.size hT.defers ?_ ?_ hT.slt ?_ ?_ ?_ ?_ ?_ ?_
  · intro i i2 hne hi hi2
    have : ∀ i, ((upd st.obj id (some (.box (splice xs j ys)))) i).isSome = true ∧ (i = id ∨ st.obj i = none) → i = id := by
      rintro i ⟨hi, hor⟩
      rcases hor with rfl | hno
      · rfl
      · by_cases e2 : id = i
        · exact e2.symm
        · rw [z07d _ _ e2, hno] at hi; cases hi
    exact absurd ((this i hi).trans (this i2 hi2).symm) hne
  · intro i o' hor ho'
    have hi : i = id := by
      rcases hor with rfl | hno
      · rfl
      · by_cases e2 : id = i
        · exact e2.symm
        · simp only [Upd.app] at ho'; rw [z07d _ _ e2, hno] at ho'; cases ho'
    subst hi
    simp only [Upd.app] at ho' ⊢
    rw [z02d] at ho'; cases ho'
    refine ⟨b, c', e, hb, r2, by omega, g4, fun i2 z u hz1 hu hl => ?_⟩
    rw [z16m (by omega)] at hz1
    rw [r4 i2] at hu
    by_cases hin : j ≤ i2 ∧ i2 < j + ys.length
    · rw [if_pos hin] at hz1
      rw [if_pos (by omega)] at hu
      exact keep (h3 _ z u hz1 hu)
    · rw [if_neg hin] at hz1
      rw [if_neg (by omega)] at hu
      exact keep (g5 i2 z u hz1 hu (liveB z hl))
  · intro x2 av2 hx2 i hi; exact z00g.2 (.inl (hT.uenv x2 av2 hx2 i hi))
  · intro i hi
    refine z00g.2 ?_
    by_cases e2 : id = i
    · exact .inr (by simp [e2])
    · simp only [Upd.app] at hi; rw [z07d _ _ e2] at hi; exact .inl (hT.uobj i hi)
  · intro i v' hp
    obtain ⟨p1, p2⟩ := hT.pin i v' hp
    refine ⟨z00g.2 (.inl p1), fun hi => p2 ?_⟩
    by_cases e2 : id = i
    · subst e2; simp [hobj]
    · simp only [Upd.app] at hi; rwa [z07d _ _ e2] at hi
  · intro i zs hz1 k hk
    refine z00g.2 ?_
    by_cases e2 : id = i
    · subst e2
      simp only [Upd.app] at hz1; rw [z02d] at hz1; cases hz1
      exact .inr (by simp [Obj.ids, hk])
    · simp only [Upd.app] at hz1; rw [z07d _ _ e2] at hz1; exact .inl (hT.ubox i zs hz1 k hk)
  · intro i zs hz1 hne av2 hav hl
    exact ⟨liveB av2 hl, fun v ha => keep ha⟩
  · intro x2 av2 hx2 hl
    obtain ⟨v, q1, q2⟩ := hT.env x2 av2 hx2 (liveB av2 hl)
    exact ⟨v, q1, keep q2⟩
end
end
end Go.Am
end
section
namespace Go.Am
open Go
section
variable {P : Program} {ops : Array Oper} {n : Nat}
variable {pn : Nat → Option Value} {w0 : World} {A0 F0 : Blks} {hv hv' : Nat → Value} {T T' : Nat → Blks} {st st' : St} {a : Act} {w w' : World} {D : Nat → Prop}
inductive Absorb : List AV → List Cell → List (Nat × Nat × List (List Cell)) → Prop
  | nil : Absorb [] [] []
  | c {x : Cell} {ys : List AV} {cs : List Cell} {os : List (Nat × Nat × List (List Cell))} (hp : x.plain = true) (t : Absorb ys cs os) : Absorb (.c x :: ys) (x :: cs) os
  | nilc {o : Bool} {k : Nat} {ys : List AV} {cs : List Cell} {os : List (Nat × Nat × List (List Cell))} (t : Absorb ys cs os) : Absorb (.c (.lit (.slice none 0 0)) :: ys) (.sl o k [] :: cs) os
  | ref {id k : Nat} {rows : List (List Cell)} {ys : List AV} {cs : List Cell} {os : List (Nat × Nat × List (List Cell))} (hn : (os.any fun p => Nat.beq p.1 id) = false) (t : Absorb ys cs os) :
      Absorb (.ref id [] :: ys) (.sl true k rows :: cs) ((id, k, rows) :: os)
theorem Absorb.length {ys : List AV} {cs : List Cell} {os : List (Nat × Nat × List (List Cell))} (h : Absorb ys cs os) : cs.length = ys.length := by
  induction h <;> simp [*]
theorem z1wh {os : List (Nat × Nat × List (List Cell))} {id : Nat} (h : (os.any fun p => Nat.beq p.1 id) = false) : ∀ p ∈ os, p.1 ≠ id := by
  intro p hp e
  have : (os.any fun p => Nat.beq p.1 id) = true := List.any_eq_true.2 ⟨p, hp, by simp [e]⟩
  rw [h] at this; cases this
theorem z0ts (hT : StSim n pn w0 A0 F0 hv T st a w) {ys : List AV} {cs : List Cell} {os : List (Nat × Nat × List (List Cell))} (h : Absorb ys cs os)
    (hobj : ∀ p ∈ os, st.obj p.1 = some (.arr p.2.1 p.2.2)) : ∀ {us : List Value}, us.length = ys.length → (∀ (i : Nat) y u, ys[i]? = some y → us[i]? = some u → AVSim w (Sh A0 F0 w0 T st.obj w) hv st.obj y u) →
    ∃ G : Nat → Blks, (∀ i b, G i b → ∃ p ∈ os, T p.1 b) ∧ (∀ i j b, i ≠ j → G i b → ¬ G j b) ∧ ∀ (i : Nat) x u, cs[i]? = some x → us[i]? = some u → Own w (Sh A0 F0 w0 T st.obj w) (G i) x u := by
  induction h with
  | nil => exact fun _ _ => ⟨fun _ => noBlk, fun _ _ f => f.elim, fun _ _ _ _ f => f.elim, fun i x u h => by simp at h⟩
  | @c x ys cs os hp t ih =>
    intro us hl hs
    cases us with
    | nil => simp at hl
    | cons u us =>
      obtain ⟨G, g1, g2, g3⟩ := ih hobj (by simpa using hl) (fun i y u h1 h2 => hs (i + 1) y u (by simpa using h1) (by simpa using h2))
      refine ⟨fun i => match i with | 0 => noBlk | i + 1 => G i, ?_, ?_, ?_⟩
      · intro i b hb; cases i with | zero => exact hb.elim | succ i => exact g1 i b hb
      · intro i j b hij hi hj
        cases i with
        | zero => exact hi.elim
        | succ i => cases j with | zero => exact hj.elim | succ j => exact g2 i j b (fun e => hij (by rw [e])) hi hj
      · intro i x' u' h1 h2
        cases i with
        | zero =>
          simp at h1 h2; subst h1 h2
          have := hs 0 (.c x) u rfl rfl
          cases this with | c ho => exact ho
        | succ i => exact g3 i x' u' (by simpa using h1) (by simpa using h2)
  | @nilc o k ys cs os t ih =>
    intro us hl hs
    cases us with
    | nil => simp at hl
    | cons u us =>
      obtain ⟨G, g1, g2, g3⟩ := ih hobj (by simpa using hl) (fun i y u h1 h2 => hs (i + 1) y u (by simpa using h1) (by simpa using h2))
      refine ⟨fun i => match i with | 0 => noBlk | i + 1 => G i, ?_, ?_, ?_⟩
      · intro i b hb; cases i with | zero => exact hb.elim | succ i => exact g1 i b hb
      · intro i j b hij hi hj
        cases i with
        | zero => exact hi.elim
        | succ i => cases j with | zero => exact hj.elim | succ j => exact g2 i j b (fun e => hij (by rw [e])) hi hj
      · intro i x' u' h1 h2
        cases i with
        | zero =>
          simp at h1 h2; subst h1 h2
          have := hs 0 _ u rfl rfl
          cases this with | c ho => cases ho; exact .nil _ _
        | succ i => exact g3 i x' u' (by simpa using h1) (by simpa using h2)
  | @ref id k rows ys cs os hn t ih =>
    intro us hl hs
    cases us with
    | nil => simp at hl
    | cons u us =>
      obtain ⟨G, g1, g2, g3⟩ := ih (fun p hp => hobj p (by simp [hp])) (by simpa using hl) (fun i y u h1 h2 => hs (i + 1) y u (by simpa using h1) (by simpa using h2))
      have hid : st.obj id = some (.arr k rows) := hobj (id, k, rows) (by simp)
      have hne := z1wh hn
      have sep : ∀ i b, G i b → ¬ T id b := by
        intro i b hb hTb
        obtain ⟨p, hp, hTp⟩ := g1 i b hb
        exact hT.dis p.1 id (hne p hp) (by simp [hobj p (by simp [hp])]) (by simp [hid]) b hTp hTb
      refine ⟨fun i => match i with | 0 => T id | i + 1 => G i, ?_, ?_, ?_⟩
      · intro i b hb
        cases i with
        | zero => exact ⟨(id, k, rows), by simp, hb⟩
        | succ i => obtain ⟨p, hp, h⟩ := g1 i b hb; exact ⟨p, by simp [hp], h⟩
      · intro i j b hij hi hj
        cases i with
        | zero => cases j with | zero => exact hij rfl | succ j => exact sep j b hj hi
        | succ i => cases j with | zero => exact sep i b hi hj | succ j => exact g2 i j b (fun e => hij (by rw [e])) hi hj
      · intro i x' u' h1 h2
        cases i with
        | zero =>
          simp at h1 h2; subst h1 h2
          have := hs 0 (.ref id []) u rfl rfl
          cases this with
          | ref ho hg hh => simp only [Hdr] at hh; subst hh; exact hT.heap id _ hid
        | succ i => exact g3 i x' u' (by simpa using h1) (by simpa using h2)
def dels (ids : List Nat) : List Upd := ids.map .del
theorem z1be : ∀ (ids : List Nat) (st : St) (i : Nat), (apps (dels ids) st).obj i = if i ∈ ids then none else st.obj i
  | [], st, i => by simp [dels, apps]
  | d :: ids, st, i => by
    have : (apps (dels (d :: ids)) st).obj i = (apps (dels ids) ((Upd.del d).app st)).obj i := rfl
    rw [this, z1be ids]
    by_cases h1 : i ∈ ids
    · simp [h1]
    · by_cases h2 : d = i
      · subst h2; simp [h1, Upd.app, z02d]
      · simp [h1, Ne.symm h2, Upd.app, z07d _ _ h2]
theorem z1bd : ∀ (ids : List Nat) (st : St), (apps (dels ids) st).env = st.env
  | [], _ => rfl
  | d :: ids, st => by
    have : (apps (dels (d :: ids)) st).env = (apps (dels ids) ((Upd.del d).app st)).env := rfl
    rw [this, z1bd ids]; rfl
theorem z116 : ∀ (ids : List Nat) (st : St), (apps (dels ids) st).used = st.used
  | [], _ => rfl
  | d :: ids, st => by
    have : (apps (dels (d :: ids)) st).used = (apps (dels ids) ((Upd.del d).app st)).used := rfl
    rw [this, z116 ids]; rfl
theorem StSim.produce (h : StSim n pn w0 A0 F0 hv T st a w) {ids : List Nat} {d k : Nat} {rows : List (List Cell)} {v : Value} {S : Blks} (hD : ∀ i ∈ ids, (st.obj i).isSome = true) (hd : st.used d = false)
    (hfr : Frame (fun b => ∃ i, i ∈ ids ∧ T i b) w w') (hS : ∀ b, S b → (∃ i, i ∈ ids ∧ T i b) ∨ (w.heap.size ≤ b ∧ b < w'.heap.size))
    (ho : ∀ A, (∀ b, Sh A0 F0 w0 T st.obj w b → A b) → Own w' A S (.sl true k rows) v) (hn : d < n) :
    Sim n pn w0 A0 F0 (apps (dels ids ++ [.put d (.arr k rows), .set d (.ref d [])]) st) (a.put (some d) v) w' := by
  have hdn : st.obj d = none := by
    cases ho : st.obj d with
    | none => rfl
    | some o => rw [h.uobj d (by simp [ho])] at hd; cases hd
  have hdi : d ∉ ids := fun hm => by have := hD d hm; rw [hdn] at this; cases this
  rw [apps_append]
  generalize hs1 : apps (dels ids) st = st1
  have e1 : ∀ i, st1.obj i = if i ∈ ids then none else st.obj i := fun i => by rw [← hs1]; exact z1be ids st i
  have e2 : st1.env = st.env := by rw [← hs1]; exact z1bd ids st
  have e3 : st1.used = st.used := by rw [← hs1]; exact z116 ids st
  have hobj : ∀ i, (upd st1.obj d (some (Obj.arr k rows))) i = if d = i then some (.arr k rows) else if i ∈ ids then none else st.obj i := by
    intro i; rw [z07i, e1]
  have tr : Trade w0 A0 F0 hv (upd hv d v) T (upd T d S) st.obj (upd st1.obj d (some (.arr k rows))) (fun i => i ∈ ids) w w' := by
    refine ⟨hD, hfr, fun i hi hni => ?_, fun i hi hor b hb => ?_⟩
    · have hne : d ≠ i := fun e => by subst e; rw [hdn] at hi; cases hi
      refine ⟨?_, z07d _ _ hne, z07d _ _ hne⟩
      rw [hobj, if_neg hne, if_neg hni]
    · by_cases e : d = i
      · subst e; rw [z02d] at hb; exact hS b hb
      · rw [hobj, if_neg e] at hi
        by_cases hm : i ∈ ids
        · rw [if_pos hm] at hi; cases hi
        · rw [if_neg hm] at hi
          rcases hor with f | hno
          · exact absurd f hm
          · rw [hno] at hi; cases hi
  have live : ∀ av, (∀ i ∈ av.ids, st.used i = true) → Live (upd st1.obj d (some (.arr k rows))) av → Live st.obj av ∧ ∀ i ∈ av.ids, i ∉ ids := by
    intro av hu hl
    have key : ∀ i ∈ av.ids, (st.obj i).isSome = true ∧ i ∉ ids := by
      intro i hi
      have := hl i hi
      have hne : d ≠ i := fun e => by subst e; rw [hu _ hi] at hd; cases hd
      rw [hobj, if_neg hne] at this
      by_cases hm : i ∈ ids
      · rw [if_pos hm] at this; cases this
      · rw [if_neg hm] at this; exact ⟨this, hm⟩
    exact ⟨fun i hi => (key i hi).1, fun i hi => (key i hi).2⟩
  have hnewid : ∀ i, (upd st1.obj d (some (Obj.arr k rows)) i).isSome = true → (i ∈ ids ∨ st.obj i = none) → i = d := by
    intro i hi hor
    by_cases e : d = i
    · exact e.symm
    · rw [hobj, if_neg e] at hi
      by_cases hm : i ∈ ids
      · rw [if_pos hm] at hi; cases hi
      · rw [if_neg hm] at hi
        rcases hor with f | hno
        · exact absurd f hm
        · rw [hno] at hi; cases hi
  have key : StSim n pn w0 A0 F0 (upd hv d v) (upd T d S) ((Upd.put d (.arr k rows)).app st1) a w' := by
    refine StSim.trade (st' := (Upd.put d (.arr k rows)).app st1) h tr h.size h.defers ?_ ?_ (fun x av hx => h.slt x av (by simp only [Upd.app] at hx; rw [e2] at hx; exact hx)) ?_ ?_ ?_ ?_ ?_ ?_
    · intro i j hij hi hj
      exact absurd ((hnewid i hi.1 hi.2).trans (hnewid j hj.1 hj.2).symm) hij
    · intro i o' hor ho'
      have hi := hnewid i (by simp only [Upd.app] at ho'; rw [ho']; rfl) hor
      subst hi
      simp only [Upd.app] at ho' ⊢
      rw [z02d] at ho'; cases ho'
      simp only [ObjSim]
      rw [z02d, z02d]
      exact ho _ fun b hb => tr.sh hb
    · intro x av hx i hi
      refine z00g.2 (.inl ?_)
      rw [e3]; simp only [Upd.app] at hx; rw [e2] at hx; exact h.uenv x av hx i hi
    · intro i hi
      refine z00g.2 ?_
      simp only [Upd.app] at hi
      by_cases e : d = i
      · exact .inr (by simp [e])
      · rw [hobj, if_neg e] at hi
        by_cases hm : i ∈ ids
        · rw [if_pos hm] at hi; cases hi
        · rw [if_neg hm] at hi; rw [e3]; exact .inl (h.uobj i hi)
    · intro i v' hp
      obtain ⟨p1, p2⟩ := h.pin i v' hp
      have hne : d ≠ i := fun e => by subst e; rw [p1] at hd; cases hd
      refine ⟨z00g.2 (.inl (by rw [e3]; exact p1)), fun hi => ?_⟩
      simp only [Upd.app] at hi
      rw [hobj, if_neg hne] at hi
      rw [z07d _ _ hne]
      by_cases hm : i ∈ ids
      · rw [if_pos hm] at hi; cases hi
      · rw [if_neg hm] at hi; exact p2 hi
    · intro i xs hx j hj
      refine z00g.2 (.inl ?_)
      simp only [Upd.app] at hx
      rw [hobj] at hx
      by_cases e : d = i
      · rw [if_pos e] at hx; cases hx
      · rw [if_neg e] at hx
        by_cases hm : i ∈ ids
        · rw [if_pos hm] at hx; cases hx
        · rw [if_neg hm] at hx; rw [e3]; exact h.ubox i xs hx j hj
    · intro i xs hx hni av hav hl
      have hu : ∀ j ∈ av.ids, st.used j = true := by
        intro j hj
        obtain ⟨l, hlt, rfl⟩ := List.mem_iff_getElem.1 hav
        exact h.ubox i xs hx j (z02o (List.getElem?_eq_getElem hlt) hj)
      obtain ⟨l1, l2⟩ := live av hu hl
      exact ⟨l1, fun v hv => h.keepAV (st' := (Upd.put d (.arr k rows)).app st1) tr hv l2⟩
    · intro x av hx hl
      simp only [Upd.app] at hx; rw [e2] at hx
      obtain ⟨l1, l2⟩ := live av (h.uenv x av hx) hl
      obtain ⟨v', h1, h2⟩ := h.env x av hx l1
      exact ⟨v', h1, h.keepAV (st' := (Upd.put d (.arr k rows)).app st1) tr h2 l2⟩
  have hob : ((Upd.put d (.arr k rows)).app st1).obj d = some (.arr k rows) := z02d _ _ _
  exact ⟨_, _, key.set hn fun _ => .ref hob (p := []) rfl (by simp only [Hdr]; rw [z02d])⟩
theorem z26i {b : Nat} (hb : Sh A0 F0 w0 T st.obj w b) {i : Nat} (hi : (st.obj i).isSome = true) : ¬ T i b := hb.2.2 i hi
structure ElemTy (P : Program) (t e : TypeId) (k : Nat) (bytes : Nat) : Prop where
  und : P.underlying t = some (.slice e)
  info : ∃ i z, P.info? e = some i ∧ i.size = k ∧ i.zero = some z ∧ z.cells.size = k ∧ i.bytes = bytes
  pos : 0 < k
section
variable {d : Nat} {ty : TypeId} {pos : String} {after : Array Edge} {g : Option (Nat × Bool)}
theorem z1l5 {t e : TypeId} {k bytes len : Nat} {parts : List (Nat × Operand)} {avs : List AV} {yss : List (List AV)} {rows : List (List Cell)} {os : List (Nat × Nat × List (List Cell))}
    (hty : ElemTy P t e k bytes) (hd : parts.map (·.1) = List.range len) (hl : parts.length = avs.length) (hc : avs.map AV.cells? = yss.map some) (hyk : ∀ ys ∈ yss, ys.length = k)
    (habs : Absorb yss.flatten rows.flatten os) (hrk : ∀ r ∈ rows, r.length = k) (hlen : rows.length = len) (h0 : 0 < len) (hbig : len * k ≤ 16777216) (hn : d < n) :
    OpL0 P n ⟨some d, .buildSlice t len parts.toArray, ty, pos, after, g⟩ (opds (parts.map (·.2)) avs ++ (.fresh d :: (os.map fun p => .obj p.1 (.arr p.2.1 p.2.2)) ++ lives (idsL avs)))
      (dels (os.map (·.1)) ++ [.put d (.arr k rows), .set d (.ref d [])]) := by
  intro pn w0 A0 F0 st a w hB hS hs K Q hK
  obtain ⟨hv, T, hT⟩ := hS
  obtain ⟨ho, hrest⟩ := z1le (by simpa using hl) hs
  have hf : st.used d = false := hrest (.fresh d) (by simp)
  have hobj : ∀ p ∈ os, st.obj p.1 = some (.arr p.2.1 p.2.2) := fun p hp => hrest (.obj p.1 (.arr p.2.1 p.2.2)) (by simp only [List.cons_append, List.mem_cons, List.mem_append, List.mem_map]; exact .inr (.inl ⟨p, hp, rfl⟩))
  have hlive : ∀ i ∈ idsL avs, (st.obj i).isSome = true := z159 fun r hr => hrest r (by simp only [List.cons_append, List.mem_cons, List.mem_append]; exact .inr (.inr hr))
  obtain ⟨ie, z, hie, hsz, hz, hzc, hbytes⟩ := hty.info
  have hkpos := hty.pos
  have hlen2 : avs.length = len := by have := congrArg List.length hd; simp at this; omega
  let vs := parts.map fun p => a.eval p.2
  have hvs : ∀ (i : Nat) av v, avs[i]? = some av → vs[i]? = some v → AVSim w (Sh A0 F0 w0 T st.obj w) hv st.obj av v := by
    intro i av v h1 h2
    simp only [vs, List.getElem?_map] at h2
    obtain ⟨p, hp, rfl⟩ := Option.map_eq_some_iff.1 h2
    exact hT.eval (ho.get (by rw [List.getElem?_map, hp]; rfl) h1) fun id hid => hlive id (z02o h1 hid)
  have hcell : ∀ (i : Nat) v, vs[i]? = some v → ∃ ys, yss[i]? = some ys ∧ v.cells.size = ys.length ∧ ∀ (j : Nat) y u, ys[j]? = some y → v.cells[j]? = some u → AVSim w (Sh A0 F0 w0 T st.obj w) hv st.obj y u := by
    intro i v hv'
    have hi : i < avs.length := by have := (List.getElem?_eq_some_iff.1 hv').1; simp [vs] at this; omega
    have hav : avs[i]? = some avs[i] := by simp [hi]
    have hci : (avs.map AV.cells?)[i]? = some (avs[i].cells?) := by rw [List.getElem?_map, hav]; rfl
    rw [hc, List.getElem?_map] at hci
    obtain ⟨ys, hys, e2⟩ := Option.map_eq_some_iff.1 hci
    obtain ⟨c1, c2⟩ := hT.cells (hvs i _ v hav hv') e2.symm
    exact ⟨ys, hys, c1, c2⟩
  have hvk : ∀ v ∈ vs, v.cells.size = k := by
    intro v hv'
    obtain ⟨i, hi, rfl⟩ := List.mem_iff_getElem.1 hv'
    obtain ⟨ys, h1, h2, _⟩ := hcell i _ (List.getElem?_eq_getElem hi)
    rw [h2]; exact hyk ys (List.mem_of_getElem? h1)
  have hvl : vs.length = len := by simp [vs]; omega
  have hyl : yss.length = len := by have := congrArg List.length hc; simp at this; omega
  obtain ⟨r, f1, f2, f3⟩ := Great.fill_dense hkpos vs 0 ((Array.range (len * k)).map (z.cells[· % z.cells.size]!)) hvk (by simp [hvl])
  have hzip : (vs.zipIdx 0).map (fun x => (x.2, x.1)) = parts.map fun p => (p.1, a.eval p.2) := by
    apply List.ext_getElem?
    intro i
    simp only [List.getElem?_map, List.getElem?_zipIdx, vs]
    cases hp : parts[i]? with
    | none => simp
    | some p =>
      have : (parts.map (·.1))[i]? = some p.1 := by rw [List.getElem?_map, hp]; rfl
      rw [hd] at this
      have hpi : p.1 = i := by
        have := (List.getElem?_eq_some_iff.1 this).2
        simpa using this.symm
      simp [hpi]
  have hrun : (execOp a.eval ⟨some d, .buildSlice t len parts.toArray, ty, pos, after, g⟩).run P w = .ok (.value (.slice (some ⟨w.heap.size, 0, none⟩) len len)) (w.alloc (.cells r e)) := by
    have := run_buildSlice (P := P) w t e len (parts.map fun p => (p.1, a.eval p.2)).toArray r ie z hty.und hie hz (by rw [hsz]; omega) (by rw [hsz]; exact fun h => by rcases Nat.mul_eq_zero.1 h with h | h <;> omega)
      (by rw [hsz, ← hzip]; exact f1)
    simp only [execOp, Sem.run_bind]
    have e : (parts.toArray.map fun (x : Nat × Operand) => match x with | (i, x) => (i, a.eval x)) = (parts.map fun p => (p.1, a.eval p.2)).toArray := by simp
    rw [e, this]; rfl
  unfold Oper.wp
  rw [hrun]
  have hrs : r.size = len * k := by rw [f2]; simp
  have hflat : yss.flatten.length = len * k := by rw [z01s hyk, hyl]
  have hsim : ∀ (i : Nat) y u, yss.flatten[i]? = some y → r.toList[i]? = some u → AVSim w (Sh A0 F0 w0 T st.obj w) hv st.obj y u := by
    intro i y u hy hu
    have hil : i < len * k := by have := (List.getElem?_eq_some_iff.1 hy).1; omega
    rw [Array.getElem?_toList, f3 i, if_pos ⟨by omega, by rw [Nat.zero_add, hvl]; exact hil⟩] at hu
    simp only [Nat.sub_zero] at hu
    cases hv1 : vs[i / k]? with
    | none => rw [hv1] at hu; cases hu
    | some v =>
      rw [hv1] at hu
      obtain ⟨ys, h1, h2, h3⟩ := hcell _ v hv1
      have hmod : i % k < k := Nat.mod_lt _ hkpos
      have hdm : i = i / k * k + i % k := by rw [Nat.mul_comm]; exact (Nat.div_add_mod i k).symm
      rw [hdm, List.flatten_getElem?_of_const hyk _ _ hmod, h1] at hy
      exact h3 _ y u hy hu
  obtain ⟨G, g1, g2, g3⟩ := z0ts hT habs hobj (us := r.toList) (by simp [hflat, hrs]) hsim
  have hfr := z0d8 w (.cells r e)
  have hids : ∀ i ∈ os.map (·.1), (st.obj i).isSome = true := by
    intro i hi
    obtain ⟨p, hp, rfl⟩ := List.mem_map.1 hi
    simp [hobj p hp]
  have hGlt : ∀ i b, G i b → b < w.heap.size := by
    intro i b hb
    obtain ⟨p, hp, hTb⟩ := g1 i b hb
    exact (hT.own p.1 (by simp [hobj p hp]) b hTb).2
  refine hK _ _ (hT.produce (S := fun b => b = w.heap.size ∨ ∃ i, G i b) hids hf (hfr.mono fun _ f => f.elim) ?_ ?_ hn)
  · rintro b (rfl | ⟨i, hb⟩)
    · exact .inr ⟨Nat.le_refl _, by show _ < (w.heap.push _).size; simp⟩
    · obtain ⟨p, hp, hTb⟩ := g1 i b hb
      exact .inl ⟨p.1, List.mem_map.2 ⟨p, hp, rfl⟩, hTb⟩
  · intro A hA
    have := Own.arr (w := w.alloc (.cells r e)) (A := A) (F := fun b => b = w.heap.size ∨ ∃ i, G i b) (k := k) (rows := rows) (b := w.heap.size) (cap := len) (c := r) (e := e) (G := G) (z0on _ _) hrk hrs (by omega)
      (.inl rfl) (fun i b hb => .inr ⟨i, hb⟩) (fun i hb => Nat.lt_irrefl _ (hGlt i _ hb)) (fun i j b hij hi => g2 i j b hij hi)
      (fun i x v h1 h2 => ((g3 i x v h1 (by simpa using h2)).frame (fun b hb => hfr.heap b (hb.elim (fun h => h.2.1) (hGlt i b)) (fun f => f))).mono hA (fun _ h => h))
    rw [hlen] at this
    exact this
theorem z1f6 {t e : TypeId} {k bytes : Nat} (hty : ElemTy P t e k bytes) (hn : d < n) :
    OpL0 P n ⟨some d, .buildSlice t 0 #[], ty, pos, after, g⟩ [.fresh d] [.put d (.arr k []), .set d (.ref d [])] := by
  intro pn w0 A0 F0 st a w hB hS hs K Q hK
  obtain ⟨hv, T, hT⟩ := hS
  have hf : st.used d = false := at0 hs
  obtain ⟨ie, z, hie, hsz, hz, hzc, hbytes⟩ := hty.info
  have hrun : (execOp a.eval ⟨some d, .buildSlice t 0 #[], ty, pos, after, g⟩).run P w = .ok (.value (.slice (some ⟨w.heap.size, 0, none⟩) 0 0)) (w.alloc (.cells #[] e)) := by
    simp [execOp, Instr.buildSlice, run_underlying hty.und, sizeOf, typeInfo, hie, Instr.fill, newRow, Array.range_zero']
  unfold Oper.wp
  rw [hrun]
  have hfr := z0d8 w (.cells #[] e)
  have := hT.produce (ids := []) (S := fun b => b = w.heap.size) (k := k) (rows := []) (v := .slice (some ⟨w.heap.size, 0, none⟩) 0 0) (w' := w.alloc (.cells #[] e)) (fun i hi => by simp at hi) hf (hfr.mono fun _ f => f.elim)
    (fun b hb => .inr ⟨by omega, by subst hb; show _ < (w.heap.push _).size; simp⟩)
    (fun A hA => Own.arr (G := fun _ => noBlk) (cap := 0) (z0on _ _) (by simp) (by simp) (by simp) rfl (fun _ _ f => f.elim) (fun _ f => f.elim) (fun _ _ _ _ f => f.elim) (fun i x v h => by simp at h)) hn
  exact hK _ _ this
inductive Zeros : List Value → List Cell → Prop
  | nil : Zeros [] []
  | lit {v : Value} {vs : List Value} {cs : List Cell} (t : Zeros vs cs) : Zeros (v :: vs) (.lit v :: cs)
  | sl {o : Bool} {k : Nat} {vs : List Value} {cs : List Cell} (t : Zeros vs cs) : Zeros (.slice none 0 0 :: vs) (.sl o k [] :: cs)
theorem Zeros.length {vs : List Value} {cs : List Cell} (h : Zeros vs cs) : cs.length = vs.length := by
  induction h <;> simp [*]
theorem Zeros.own {vs : List Value} {cs : List Cell} (h : Zeros vs cs) {i : Nat} {x : Cell} {v : Value} {w : World} {A F : Blks} (h1 : cs[i]? = some x) (h2 : vs[i]? = some v) : Own w A F x v := by
  induction h generalizing i with
  | nil => simp at h1
  | lit t ih =>
    cases i with
    | zero => simp at h1 h2; subst h1 h2; exact .lit _
    | succ i => exact ih (by simpa using h1) (by simpa using h2)
  | sl t ih =>
    cases i with
    | zero => simp at h1 h2; subst h1 h2; exact .nil _ _
    | succ i => exact ih (by simpa using h1) (by simpa using h2)
theorem z1q4 {t e : TypeId} {k bytes : Nat} {x y : Operand} {m : Int} {zr : List Cell} {zs : List Value} (hty : ElemTy P t e k bytes) (hz : ∀ i z, P.info? e = some i → i.zero = some z → z.cells.toList = zs)
    (hzr : Zeros zs zr) (h0 : 0 ≤ m) (hb : (bytes : Int) * m ≤ 281474976710656) (hm : m ≤ 9223372036854775807) (hn : d < n) :
    OpL0 P n ⟨some d, .makeSlice t x y, ty, pos, after, g⟩ [.opd x (aInt m), .opd y (aInt m), .fresh d] [.put d (.arr k (List.replicate m.toNat zr)), .set d (.ref d [])] := by
  intro pn w0 A0 F0 st a w hB hS hs K Q hK
  obtain ⟨hv, T, hT⟩ := hS
  have hx := hT.lit (at0 hs)
  have hy := hT.lit (at1 hs)
  have hf : st.used d = false := at2 hs
  obtain ⟨ie, z, hie, hsz, hz', hzc, hbytes⟩ := hty.info
  have hzl := hz ie z hie hz'
  have hrun : (execOp a.eval ⟨some d, .makeSlice t x y, ty, pos, after, g⟩).run P w = .ok (.value (.slice (some ⟨w.heap.size, 0, none⟩) m.toNat m.toNat)) (w.alloc (.cells (madeCells z.cells (m.toNat * ie.size)) e)) := by
    simp only [execOp, hx, hy, Sem.run_bind]
    rw [run_make w t e ie z hty.und hie hz' .i64 .i64 m m h0 (Int.le_refl _) (by rw [hbytes]; exact hb) hm]; rfl
  unfold Oper.wp
  rw [hrun]
  have hfr := z0d8 w (.cells (madeCells z.cells (m.toNat * ie.size)) e)
  have hzrl : zr.length = k := by rw [hzr.length, ← hzl]; simpa using hzc
  have hkpos := hty.pos
  have hown : ∀ A : Blks, Own (w.alloc (.cells (madeCells z.cells (m.toNat * ie.size)) e)) A (fun b => b = w.heap.size) (.sl true k (List.replicate m.toNat zr)) (.slice (some ⟨w.heap.size, 0, none⟩) m.toNat m.toNat) := by
    intro A
    have hk : ∀ r ∈ List.replicate m.toNat zr, r.length = k := fun r hr => by rw [(List.mem_replicate.1 hr).2]; exact hzrl
    have := Own.arr (w := w.alloc (.cells (madeCells z.cells (m.toNat * ie.size)) e)) (A := A) (F := fun b => b = w.heap.size) (k := k) (rows := List.replicate m.toNat zr) (b := w.heap.size) (cap := m.toNat)
      (e := e) (G := fun _ => noBlk) (z0on _ _) hk (by rw [size_madeCells, hsz]) (by simp) rfl (fun _ _ f => f.elim) (fun _ f => f.elim) (fun _ _ _ _ f => f.elim)
      (fun i x v h1 h2 => by
        have hmem := mem_flatten_of_getElem? h1
        obtain ⟨r, hr, hxr⟩ := hmem
        have hi : i < m.toNat * k := by
          have := (List.getElem?_eq_some_iff.1 h1).1
          rw [z01s hk] at this
          simpa using this
        have hdm : i = i / k * k + i % k := by rw [Nat.mul_comm]; exact (Nat.div_add_mod i k).symm
        have hmod : i % k < k := Nat.mod_lt _ hkpos
        rw [hdm, List.flatten_getElem?_of_const hk _ _ hmod] at h1
        have hdiv : i / k < m.toNat := Nat.div_lt_of_lt_mul (by rw [Nat.mul_comm]; exact hi)
        rw [List.getElem?_replicate, if_pos hdiv, Option.bind_some] at h1
        have hlt : i % k < zs.length := by have := hzr.length; omega
        obtain ⟨u, hu⟩ : ∃ u, zs[i % k]? = some u := ⟨_, List.getElem?_eq_getElem hlt⟩
        have hv' : v = u := by
          unfold madeCells at h2
          rw [Array.getElem?_map, hsz] at h2
          have : (Array.range (m.toNat * k))[i]? = some i := by simp [hi]
          rw [this] at h2
          simp only [Option.map_some, Option.some.injEq] at h2
          rw [hzc] at h2
          have hmz : i % k < z.cells.size := by omega
          rw [getElem!_pos z.cells (i % k) hmz] at h2
          have hu2 := hu
          rw [← hzl, Array.getElem?_toList, Array.getElem?_eq_getElem hmz] at hu2
          rw [← h2]
          exact Option.some.inj hu2
        rw [hv']
        exact hzr.own h1 hu)
    simpa using this
  have := hT.produce (ids := []) (S := fun b => b = w.heap.size) (k := k) (rows := List.replicate m.toNat zr) (v := .slice (some ⟨w.heap.size, 0, none⟩) m.toNat m.toNat) (w' := w.alloc (.cells (madeCells z.cells (m.toNat * ie.size)) e))
    (fun i hi => by simp at hi) hf (hfr.mono fun _ f => f.elim) (fun b hb => .inr ⟨by omega, by subst hb; show _ < (w.heap.push _).size; simp⟩) (fun A _ => hown A) hn
  exact hK _ _ this
end
end
end Go.Am
end
section
namespace Go.Am
open Go
section
variable {P : Program} {ops : Array Oper} {n : Nat}
variable {pn : Nat → Option Value} {w0 : World} {A0 F0 : Blks} {hv hv' : Nat → Value} {T T' : Nat → Blks} {st st' : St} {a : Act} {w w' : World} {D : Nat → Prop}
theorem z0wa {A F : Blks} {o : Bool} {k : Nat} {rows : List (List Cell)} {v : Value} (h : Own w A F (.sl o k rows) v) :
    ∃ (vs : List Value) (G : Nat → Blks), vs.length = rows.length * k ∧ (∀ r ∈ rows, r.length = k) ∧ (∀ i b, G i b → F b) ∧ (∀ i j b, i ≠ j → G i b → ¬ G j b) ∧
      (∀ (i : Nat) x u, rows.flatten[i]? = some x → vs[i]? = some u → Own w A (G i) x u) ∧
      (∀ P : Program, (Builtin.firstCells k rows.length v).run P w = .ok vs.toArray w) ∧
      ((∃ b off cap c e fr, v = .slice (some ⟨b, off, none⟩) rows.length cap ∧ w.heap[b]? = some (.cells c e fr) ∧ vs = (c.toList.drop off).take (rows.length * k) ∧ off + rows.length * k ≤ c.size ∧ rows.length ≤ cap ∧
          (∀ i, ¬ G i b) ∧ (o = true → off = 0 ∧ fr = (0, 0) ∧ c.size = cap * k ∧ F b)) ∨ (rows = [] ∧ (o = true → v = .slice none 0 0))) := by
  have cells : ∀ {b off : Nat} {c : Array Value} {e : TypeId} {fr : Nat × Nat} {m : Nat}, w.heap[b]? = some (.cells c e fr) → off + m ≤ c.size →
      ∀ P : Program, (loadCells ⟨b, off, none⟩ m).run P w = .ok ((c.toList.drop off).take m).toArray w := by
    intro b off c e fr m hb hm P
    obtain ⟨h1, h2⟩ := window (c := c) (off := off) (m := m) hm
    have := run_loadCells_list (P := P) w ⟨b, off, none⟩ ((c.toList.drop off).take m) (fun j u hj => by rw [Addr.add_lit]; simp [World.cell?, hb, h2 j u hj])
    rw [h1] at this; exact this
  cases h with
  | nil => exact ⟨[], fun _ => noBlk, by simp, by simp, fun _ _ f => f.elim, fun _ _ _ _ f => f.elim, fun i x u h => by simp at h, fun P => by simp [Builtin.firstCells], .inr ⟨rfl, fun _ => rfl⟩⟩
  | emp => exact ⟨[], fun _ => noBlk, by simp, by simp, fun _ _ f => f.elim, fun _ _ _ _ f => f.elim, fun i x u h => by simp at h, fun P => by simp [Builtin.firstCells, loadCells, loadCellsFrom], .inr ⟨rfl, fun h => by cases h⟩⟩
  | @shr _ _ _ b off cap c e fr hb hA hk hs hcap hh =>
    refine ⟨(c.toList.drop off).take (rows.length * k), fun _ => noBlk, (window hs).1, hk, fun _ _ f => f.elim, fun _ _ _ _ f => f.elim, fun i x u h1 h2 => hh i x u h1 ((window hs).2 i u h2), fun P => ?_,
      .inl ⟨b, off, cap, c, e, fr, rfl, hb, rfl, hs, hcap, fun _ f => f, fun h => by cases h⟩⟩
    simp only [Builtin.firstCells]; exact cells hb hs P
  | @arr _ _ _ b cap c e G hb hk hs hcap hF hG hGb hd hh =>
    have hm : rows.length * k ≤ cap * k := Nat.mul_le_mul_right _ hcap
    have hs' : 0 + rows.length * k ≤ c.size := by omega
    refine ⟨(c.toList.drop 0).take (rows.length * k), G, (window hs').1, hk, hG, fun i j b hij => hd i j b hij, fun i x u h1 h2 => hh i x u h1 (by have := (window hs').2 i u h2; simpa using this), fun P => ?_,
      .inl ⟨b, 0, cap, c, e, (0, 0), rfl, hb, rfl, hs', hcap, hGb, fun _ => ⟨rfl, rfl, hs, hF⟩⟩⟩
    simp only [Builtin.firstCells]; exact cells hb hs' P
theorem z1f5 {A F : Blks} {c : Cell} {v : Value} (h : Own w A F c v) (hl : ∀ u, c = .lit u → u.oneCell' = true) : v.oneCell' = true := by
  cases h with
  | lit => exact hl _ rfl
  | nil => rfl
  | emp => rfl
  | shr => rfl
  | arr => rfl
  | bx => rfl
def Cell.ok : Cell → Bool
  | .lit (.agg _) => false
  | .lit (.tuple _) => false
  | _ => true
theorem Cell.ok_lit {c : Cell} (h : c.ok = true) : ∀ u, c = .lit u → u.oneCell' = true := by
  rintro u rfl
  cases u <;> first | rfl | cases h
theorem z19a (m c : Nat) (h : c < m) : Builtin.nextslicecap m c ≤ 2 * m + 1024 := by
  have g : ∀ r c, c < 2 * m + 512 → Builtin.growBy m r c ≤ 2 * m + 1024 := by
    intro r
    induction r with
    | zero => intro c hc; simp only [Builtin.growBy]; omega
    | succ r ih =>
      intro c hc
      simp only [Builtin.growBy]
      split
      · omega
      · exact ih _ (by omega)
  unfold Builtin.nextslicecap
  split
  · omega
  · split
    · omega
    · exact g 4 c (by omega)
theorem z1lz {t tx ty e e' : TypeId} {k bytes : Nat} {A FA FB : Blks} {ob : Bool} {rowsA rowsB : List (List Cell)} {sv xv : Value} (hty : ElemTy P t e k bytes) (htx : P.underlying tx = some (.slice e'))
    (hA : Own w A FA (.sl true k rowsA) sv) (hB : Own w A FB (.sl ob k rowsB) xv) (hAA : ∀ b, A b → ¬ FA b) (hAlt : ∀ b, A b → b < w.heap.size) (hFlt : ∀ b, FA b → b < w.heap.size) (hFB : ∀ b, FB b → b < w.heap.size)
    (hAB : ∀ b, FA b → ¬ FB b) (hok : ∀ r ∈ rowsB, ∀ c ∈ r, c.ok = true) (hbig : (2 * (rowsA.length + rowsB.length) + 1024) * bytes ≤ 281474976710656) (h63 : rowsA.length + rowsB.length ≤ 4611686018427387904) :
    ∃ v w' S, (Builtin.append_ #[t, tx] ty #[sv, xv]).run P w = .ok v w' ∧ Own w' A S (.sl true k (rowsA ++ rowsB)) v ∧ Frame FA w w' ∧ (∀ b, S b → FA b ∨ FB b ∨ (w.heap.size ≤ b ∧ b < w'.heap.size)) := by
  obtain ⟨ie, z, hie, hsz, hz, hzc, hbytes⟩ := hty.info
  have hkpos := hty.pos
  obtain ⟨va, GA, a1, a2, a3, a4, a5, a6, a7⟩ := z0wa hA
  obtain ⟨vb, GB, b1, b2, b3, b4, b5, b6, b7⟩ := z0wa hB
  have hxv : ∃ b c, xv = .slice b rowsB.length c := z0op hB
  obtain ⟨bx, cx, rfl⟩ := hxv
  have hsv : ∃ b c, sv = .slice b rowsA.length c := z0op hA
  obtain ⟨bs, cs, rfl⟩ := hsv
  have hk : ∀ r ∈ rowsA ++ rowsB, r.length = k := by
    intro r hr
    rcases List.mem_append.1 hr with h | h
    · exact a2 r h
    · exact b2 r h
  have hflA : rowsA.flatten.length = rowsA.length * k := z01s a2
  have hflB : rowsB.flatten.length = rowsB.length * k := z01s b2
  let G : Nat → Blks := fun i => if i < rowsA.length * k then GA i else if i < rowsA.length * k + rowsB.length * k then GB (i - rowsA.length * k) else noBlk
  have hGF : ∀ i b, G i b → FA b ∨ FB b := by
    intro i b hb
    simp only [G] at hb
    split at hb
    · exact .inl (a3 i b hb)
    · split at hb
      · exact .inr (b3 _ b hb)
      · exact hb.elim
  have hGd : ∀ i j b, i ≠ j → G i b → ¬ G j b := by
    intro i j b hij hi hj
    simp only [G] at hi hj
    split at hi
    · split at hj
      · exact a4 i j b hij hi hj
      · split at hj
        · exact hAB b (a3 i b hi) (b3 _ b hj)
        · exact hj
    · split at hi
      · split at hj
        · exact hAB b (a3 j b hj) (b3 _ b hi)
        · split at hj
          · exact b4 _ _ b (by omega) hi hj
          · exact hj
      · exact hi
  by_cases hroom : rowsA.length + rowsB.length ≤ cs
  · -- in place
    rcases a7 with ⟨b, off, cap, c, e2, fr, he, hb, hva, hoff, hcap, hGb, htrue⟩ | ⟨hnil, he⟩
    · cases he
      obtain ⟨rfl, rfl, hcs, hFb⟩ := htrue rfl
      have hmul : rowsA.length * k + rowsB.length * k ≤ cs * k := by rw [← Nat.add_mul]; exact Nat.mul_le_mul_right _ hroom
      obtain ⟨w', c', r1, r2, r3, r4, r5, r6, r7, r8⟩ := z0i2 (P := P) (off := rowsA.length * k) vb 0 w c hb (by omega) (by
        intro v hv1
        obtain ⟨i, hi, rfl⟩ := List.mem_iff_getElem.1 hv1
        have hi2 : i < rowsB.flatten.length := by omega
        have hx : rowsB.flatten[i]? = some rowsB.flatten[i] := by simp [hi2]
        obtain ⟨r, hr, hm⟩ := mem_flatten_of_getElem? hx
        exact z1f5 (b5 i _ _ hx (List.getElem?_eq_getElem hi)) (Cell.ok_lit (hok r hr _ hm)))
      refine ⟨.slice (some ⟨b, 0, none⟩) (rowsA.length + rowsB.length) cs, w', fun x => x = b ∨ ∃ i, G i x, ?_, ?_, ⟨fun b2 hlt hno => r5 b2 (fun e => hno (by subst e; exact hFb)), by omega, r7, r8⟩, ?_⟩
      · simp only [Builtin.append_]
        simp [run_underlying hty.und, run_underlying htx, sizeOf, typeInfo, hie, hsz, Builtin.lenOf, hroom, b6 P, Addr.add_lit, r1]
      · have hdisj : ∀ i x, G i x → x ≠ b := by
          intro i x hx e
          subst e
          simp only [G] at hx
          split at hx
          · exact hGb i hx
          · split at hx
            · exact hAB x hFb (b3 _ x hx)
            · exact hx
        have fr' : ∀ {c0 : Cell} {u : Value} {i : Nat}, Own w A (G i) c0 u → Own w' A (G i) c0 u := fun ho => ho.frame fun x hx =>
          r5 x (hx.elim (fun h e => hAA x h (by subst e; exact hFb)) (fun h => hdisj _ x h))
        have := Own.arr (w := w') (A := A) (F := fun x => x = b ∨ ∃ i, G i x) (k := k) (rows := rowsA ++ rowsB) (b := b) (cap := cs) (c := c') (e := e2) (G := G) r2 hk (by omega) (by simp; omega)
          (.inl rfl) (fun i x hx => .inr ⟨i, hx⟩) (fun i hx => hdisj i b hx rfl) hGd (fun i x u h1 h2 => by
            rw [List.flatten_append] at h1
            rw [r4 i] at h2
            by_cases hi : i < rowsA.length * k
            · rw [List.getElem?_append_left (by omega)] at h1
              rw [if_neg (by omega)] at h2
              have hG : G i = GA i := by simp only [G]; rw [if_pos hi]
              refine fr' (i := i) ?_
              rw [hG]
              refine a5 i x u h1 ?_
              rw [hva]
              exact window' hi (by simpa using h2)
            · rw [List.getElem?_append_right (by omega)] at h1
              have hi2 : i - rowsA.flatten.length < rowsB.flatten.length := (List.getElem?_eq_some_iff.1 h1).1
              rw [if_pos (by omega)] at h2
              have hG : G i = GB (i - rowsA.length * k) := by simp only [G]; rw [if_neg hi, if_pos (by omega)]
              refine fr' (i := i) ?_
              rw [hG]
              refine b5 _ x u (by rw [hflA] at h1; exact h1) ?_
              simpa using h2)
        simpa using this
      · rintro x (rfl | ⟨i, hx⟩)
        · exact .inl hFb
        · rcases hGF i x hx with h | h
          · exact .inl h
          · exact .inr (.inl h)
    · have he := he rfl
      have hcs0 : cs = 0 := by injection he
      have hbs0 : bs = none := by injection he
      subst hnil hcs0 hbs0
      have hB0 : rowsB.length = 0 := by simp only [List.length_nil] at hroom; omega
      have hB0' : rowsB = [] := List.length_eq_zero_iff.1 hB0
      subst hB0'
      refine ⟨.slice none 0 0, w, noBlk, ?_, by simpa using Own.nil true k, .refl _ _, fun b f => f.elim⟩
      simp only [Builtin.append_]
      have hvb : vb = [] := by simpa using b1
      subst hvb
      have hb6 := b6 P
      simp only [List.length_nil] at hb6
      simp [run_underlying hty.und, run_underlying htx, sizeOf, typeInfo, hie, hsz, Builtin.lenOf, hb6]
  · -- elsewhere
    have hneed : cs < rowsA.length + rowsB.length := by omega
    have hcap := z19a (rowsA.length + rowsB.length) cs hneed
    have hcb : Builtin.nextslicecap (rowsA.length + rowsB.length) cs * bytes ≤ 281474976710656 := Nat.le_trans (Nat.mul_le_mul_right _ hcap) hbig
    let nc := rowsA.length + rowsB.length + w.tape w.drawn (.appendCap (rowsA.length + rowsB.length) cs e) % (2 ^ 63 - (rowsA.length + rowsB.length))
    let w1 : World := { w with drawn := w.drawn + 1 }
    let cells := va.toArray ++ vb.toArray ++ Builtin.zeroCells z.cells (nc - (rowsA.length + rowsB.length))
    have hq : (Question.appendCap (rowsA.length + rowsB.length) cs e).forced = false := rfl
    have a6' : (Builtin.firstCells k rowsA.length (.slice bs rowsA.length cs)).run P w1 = .ok va.toArray w1 := by
      have h2 : Own w1 A FA (.sl true k rowsA) (.slice bs rowsA.length cs) := hA.frame fun _ _ => rfl
      obtain ⟨va', _, c1, _, _, _, _, c6, c7⟩ := z0wa h2
      have : va' = va := by
        rcases c7 with ⟨b, off, cap, c, e2, fr, he, hb, hva, _⟩ | ⟨hn, he⟩
        · rcases a7 with ⟨b', off', cap', c', e2', fr', he', hb', hva', _⟩ | ⟨hn', he'⟩
          · rw [he] at he'; cases he'
            have hb2 : w.heap[b]? = some (.cells c e2 fr) := hb
            rw [hb'] at hb2; cases hb2
            rw [hva, hva']
          · subst hn'; simp at c1 a1 b1; first | rw [c1, a1] | rw [c1, b1]
        · subst hn; simp at c1 a1; rw [c1, a1]
      rw [← this]; exact c6 P
    have b6' : (Builtin.firstCells k rowsB.length (.slice bx rowsB.length cx)).run P w1 = .ok vb.toArray w1 := by
      have h2 : Own w1 A FB (.sl ob k rowsB) (.slice bx rowsB.length cx) := hB.frame fun _ _ => rfl
      obtain ⟨va', _, c1, _, _, _, _, c6, c7⟩ := z0wa h2
      have : va' = vb := by
        rcases c7 with ⟨b, off, cap, c, e2, fr, he, hb, hva, _⟩ | ⟨hn, he⟩
        · rcases b7 with ⟨b', off', cap', c', e2', fr', he', hb', hva', _⟩ | ⟨hn', he'⟩
          · rw [he] at he'; cases he'
            have hb2 : w.heap[b]? = some (.cells c e2 fr) := hb
            rw [hb'] at hb2; cases hb2
            rw [hva, hva']
          · subst hn'; simp at c1 a1 b1; first | rw [c1, a1] | rw [c1, b1]
        · subst hn; simp at c1 b1; rw [c1, b1]
      rw [← this]; exact c6 P
    have hrun : (Builtin.append_ #[t, tx] ty #[.slice bs rowsA.length cs, .slice bx rowsB.length cx]).run P w = .ok (.slice (some ⟨w.heap.size, 0, none⟩) (rowsA.length + rowsB.length) nc) (w1.alloc (.cells cells e)) := by
      have n1 : ¬ (9223372036854775807 < ((rowsA.length : Int) + (rowsB.length : Int))) := by omega
      have n2 : ¬ (281474976710656 < Builtin.nextslicecap (rowsA.length + rowsB.length) cs * bytes) := by omega
      simp only [Builtin.append_]
      simp [run_underlying hty.und, run_underlying htx, sizeOf, typeInfo, hie, hsz, hbytes, Builtin.lenOf, hroom, n1, n2, hq, Question.cut, zeroValue, hz, newRow]
      have e1 : (Builtin.firstCells k rowsA.length (.slice bs rowsA.length cs)).run P w.drew = .ok va.toArray w.drew := a6'
      have e2 : (Builtin.firstCells k rowsB.length (.slice bx rowsB.length cx)).run P w.drew = .ok vb.toArray w.drew := b6'
      rw [e1, Result.andThen_ok, e2, Result.andThen_ok]
      have hncs : nc - (rowsA.length + rowsB.length) = w.tape w.drawn (.appendCap (rowsA.length + rowsB.length) cs e) % (9223372036854775808 - (rowsA.length + rowsB.length)) := Nat.add_sub_cancel_left _ _
      simp only [cells, hncs, Array.append_assoc]
      rfl
    have hnc : rowsA.length + rowsB.length ≤ nc := Nat.le_add_right _ _
    have hcsz : cells.size = nc * k := by
      simp only [cells, Array.size_append, List.size_toArray, a1, b1, Builtin.zeroCells, Array.size_map, Array.size_range, hzc]
      rw [← Nat.add_mul, ← Nat.add_mul]
      congr 1; omega
    have hGlt : ∀ i x, G i x → x < w.heap.size := fun i x hx => (hGF i x hx).elim (hFlt x) (hFB x)
    have hal : ∀ b, b < w.heap.size → (w1.alloc (.cells cells e)).heap[b]? = w.heap[b]? := fun b hb => (z0d8 w1 (.cells cells e)).heap b hb (fun f => f)
    refine ⟨_, w1.alloc (.cells cells e), fun x => x = w.heap.size ∨ ∃ i, G i x, hrun, ?_, ⟨fun b hlt _ => hal b hlt, by show w.heap.size ≤ (w.heap.push _).size; simp, rfl, rfl⟩, ?_⟩
    · have := Own.arr (w := w1.alloc (.cells cells e)) (A := A) (F := fun x => x = w.heap.size ∨ ∃ i, G i x) (k := k) (rows := rowsA ++ rowsB) (b := w.heap.size) (cap := nc) (c := cells) (e := e) (G := G) (z0on w1 _) hk hcsz (by simpa using hnc)
        (.inl rfl) (fun i x hx => .inr ⟨i, hx⟩) (fun i hx => Nat.lt_irrefl _ (hGlt i _ hx)) hGd (fun i x u h1 h2 => by
          have fr' : ∀ {c0 : Cell} {u : Value}, Own w A (G i) c0 u → Own (w1.alloc (.cells cells e)) A (G i) c0 u := fun ho => ho.frame fun x hx => hal x (hx.elim (hAlt x) (hGlt _ x))
          rw [List.flatten_append] at h1
          have hi0 : i < rowsA.length * k + rowsB.length * k := by have := (List.getElem?_eq_some_iff.1 h1).1; simp only [List.length_append] at this; omega
          simp only [cells] at h2
          rw [Array.getElem?_append_left (by simp [a1, b1]; omega)] at h2
          by_cases hi : i < rowsA.length * k
          · rw [List.getElem?_append_left (by omega)] at h1
            rw [Array.getElem?_append_left (by simp [a1]; exact hi)] at h2
            have hG : G i = GA i := by simp only [G]; rw [if_pos hi]
            refine fr' ?_
            rw [hG]
            exact a5 i x u h1 (by simpa using h2)
          · rw [List.getElem?_append_right (by omega)] at h1
            rw [Array.getElem?_append_right (by simp [a1]; omega)] at h2
            have hG : G i = GB (i - rowsA.length * k) := by simp only [G]; rw [if_neg hi, if_pos (by omega)]
            refine fr' ?_
            rw [hG]
            exact b5 _ x u (by rw [hflA] at h1; exact h1) (by simpa [a1] using h2))
      simpa using this
    · rintro x (rfl | ⟨i, hx⟩)
      · exact .inr (.inr ⟨Nat.le_refl _, by show _ < (w.heap.push _).size; simp⟩)
      · rcases hGF i x hx with h | h
        · exact .inl h
        · exact .inr (.inl h)
end
end Go.Am
end
section
namespace Go.Am
open Go
section
variable {P : Program} {ops : Array Oper} {n : Nat}
variable {pn : Nat → Option Value} {w0 : World} {A0 F0 : Blks} {hv hv' : Nat → Value} {T T' : Nat → Blks} {st st' : St} {a : Act} {w w' : World} {D : Nat → Prop}
variable {d : Nat} {ty : TypeId} {pos : String} {after : Array Edge} {g : Option (Nat × Bool)}
abbrev Objs := List (Nat × Nat × List (List Cell))
def objReqs (os : Objs) : List Req := os.map fun p => .obj p.1 (.arr p.2.1 p.2.2)
theorem z22s {st : St} {os : Objs} {rs : List Req} (h : ∀ r ∈ objReqs os ++ rs, r.sat st) : (∀ p ∈ os, st.obj p.1 = some (.arr p.2.1 p.2.2)) ∧ ∀ r ∈ rs, r.sat st :=
  ⟨fun p hp => h (.obj p.1 (.arr p.2.1 p.2.2)) (List.mem_append_left _ (List.mem_map.2 ⟨p, hp, rfl⟩)), fun r hr => h r (List.mem_append_right _ hr)⟩
inductive SlOf : AV → Bool → Nat → List (List Cell) → Objs → Prop
  | ref {id k : Nat} {rows : List (List Cell)} : SlOf (.ref id []) true k rows [(id, k, rows)]
  | sh {k : Nat} {rows : List (List Cell)} : SlOf (.c (.sl false k rows)) false k rows []
  | nil {o : Bool} {k : Nat} : SlOf (.c (.lit (.slice none 0 0))) o k [] []
theorem z1zi (hT : StSim n pn w0 A0 F0 hv T st a w) {av : AV} {o : Bool} {k : Nat} {rows : List (List Cell)} {os : Objs} {v : Value} (h : SlOf av o k rows os)
    (hobj : ∀ p ∈ os, st.obj p.1 = some (.arr p.2.1 p.2.2)) (hs : AVSim w (Sh A0 F0 w0 T st.obj w) hv st.obj av v) :
    Own w (Sh A0 F0 w0 T st.obj w) (fun b => ∃ p ∈ os, T p.1 b) (.sl o k rows) v := by
  cases h with
  | @ref id k rows =>
    have ho := hobj (id, k, rows) (by simp)
    cases hs with
    | ref _ hg hh =>
      simp only [Hdr] at hh; subst hh
      exact Own.mono (hT.heap id _ ho) (fun _ h => h) (fun b hb => ⟨(id, k, rows), by simp, hb⟩)
  | sh => cases hs with | c ho => exact ho.mono (fun _ h => h) (fun _ f => f.elim)
  | nil => cases hs with | c ho => cases ho; exact .nil _ _
theorem z1sn {av : AV} {o : Bool} {k : Nat} {rows : List (List Cell)} {os : Objs} (h : SlOf av o k rows os) (hobj : ∀ p ∈ os, st.obj p.1 = some (.arr p.2.1 p.2.2)) : Live st.obj av := by
  cases h with
  | @ref id' k rows =>
    intro i hi
    simp [AV.ids] at hi; subst hi
    have := hobj (i, k, rows) (by simp)
    simp at this; simp [this]
  | sh => exact z199 _ _
  | nil => exact z199 _ _
theorem z20z {t tx e e' ty : TypeId} {k bytes : Nat} {x y : Operand} {ax ay : AV} {ob : Bool} {rowsA rowsB : List (List Cell)} {osA osB : Objs} (hty : ElemTy P t e k bytes) (htx : P.underlying tx = some (.slice e'))
    (hA : SlOf ax true k rowsA osA) (hB : SlOf ay ob k rowsB osB) (hdis : (osA.all fun p => osB.all fun q => !Nat.beq p.1 q.1) = true) (hok : (rowsB.all fun r => r.all Cell.ok) = true)
    (hbig : (2 * (rowsA.length + rowsB.length) + 1024) * bytes ≤ 281474976710656) (h63 : rowsA.length + rowsB.length ≤ 4611686018427387904) (hn : d < n) :
    OpL0 P n ⟨some d, .call ⟨.builtin .append, #[x, y], #[t, tx]⟩, ty, pos, after, g⟩ (.opd x ax :: .opd y ay :: .fresh d :: (objReqs (osA ++ osB) ++ []))
      (dels ((osA ++ osB).map (·.1)) ++ [.put d (.arr k (rowsA ++ rowsB)), .set d (.ref d [])]) := by
  intro pn w0 A0 F0 st a w hB0 hS hs K Q hK
  obtain ⟨hv, T, hT⟩ := hS
  have h0 : opIs st x ax := at0 hs
  have h1 : opIs st y ay := at1 hs
  have hf : st.used d = false := at2 hs
  obtain ⟨hobj, _⟩ := z22s (z0g3 (z0g3 (z0g3 hs)))
  have hoA : ∀ p ∈ osA, st.obj p.1 = some (.arr p.2.1 p.2.2) := fun p hp => hobj p (by simp [hp])
  have hoB : ∀ p ∈ osB, st.obj p.1 = some (.arr p.2.1 p.2.2) := fun p hp => hobj p (by simp [hp])
  have o1 := z1zi hT hA hoA (hT.eval h0 (z1sn hA hoA))
  have o2 := z1zi hT hB hoB (hT.eval h1 (z1sn hB hoB))
  have lt : ∀ {os : Objs}, (∀ p ∈ os, st.obj p.1 = some (.arr p.2.1 p.2.2)) → ∀ b, (∃ p ∈ os, T p.1 b) → b < w.heap.size := by
    rintro os ho b ⟨p, hp, hb⟩
    exact (hT.own p.1 (by simp [ho p hp]) b hb).2
  obtain ⟨v, w', S, r1, r2, r3, r4⟩ := z1lz (P := P) (ty := ty) hty htx o1 o2 (fun b hb ⟨p, hp, hTb⟩ => z26i hb (by simp [hoA p hp]) hTb) (fun b hb => hb.2.1) (lt hoA) (lt hoB)
    (fun b ⟨p, hp, h1⟩ ⟨q, hq, h2⟩ => by
      have hne : p.1 ≠ q.1 := by
        have := List.all_eq_true.1 (List.all_eq_true.1 hdis p hp) q hq
        intro e
        simp [e] at this
      exact hT.dis p.1 q.1 hne (by simp [hoA p hp]) (by simp [hoB q hq]) b h1 h2)
    (fun r hr c hc => List.all_eq_true.1 (List.all_eq_true.1 hok r hr) c hc) hbig h63
  have hrun : (execOp a.eval ⟨some d, .call ⟨.builtin .append, #[x, y], #[t, tx]⟩, ty, pos, after, g⟩).run P w = .ok (.value v) w' := by
    simp [execOp, resolve, invoke, builtin, r1]
  unfold Oper.wp
  rw [hrun]
  have mem : ∀ {b : Nat}, (∃ p ∈ osA, T p.1 b) ∨ (∃ p ∈ osB, T p.1 b) → ∃ i, i ∈ (osA ++ osB).map (·.1) ∧ T i b := by
    rintro b (⟨p, hp, h⟩ | ⟨p, hp, h⟩)
    · exact ⟨p.1, List.mem_map.2 ⟨p, by simp [hp], rfl⟩, h⟩
    · exact ⟨p.1, List.mem_map.2 ⟨p, by simp [hp], rfl⟩, h⟩
  refine hK _ _ (hT.produce (S := S) (fun i hi => ?_) hf (r3.mono fun b h => mem (.inl h)) (fun b hb => ?_) (fun A hA => r2.mono hA (fun _ h => h)) hn)
  · obtain ⟨p, hp, rfl⟩ := List.mem_map.1 hi
    simp [hobj p hp]
  · rcases r4 b hb with h | h | h
    · exact .inl (mem (.inl h))
    · exact .inl (mem (.inr h))
    · exact .inr h
theorem keepRoot {id : Nat} {k : Nat} {rows rows' : List (List Cell)} {obj' : Nat → Option Obj} {D : Nat → Prop} (hT : StSim n pn w0 A0 F0 hv T st a w)
    (tr : Trade w0 A0 F0 hv hv T T' st.obj obj' D w w') (hid : st.obj id = some (.arr k rows)) (hid' : obj' id = some (.arr k rows')) {av : AV} {v : Value}
    (ha : AVSim w (Sh A0 F0 w0 T st.obj w) hv st.obj av v) : av.hasPath id = false → (∀ i ∈ av.ids, D i → i = id ∨ ∃ xs xs', st.obj i = some (.box xs) ∧ obj' i = some (.box xs')) → AVSim w' (Sh A0 F0 w0 T' obj' w') hv obj' av v := by
  have hblk : ∀ i, (st.obj i).isSome = true → ¬ D i → ∀ b, Sh A0 F0 w0 T st.obj w b ∨ T i b → w'.heap[b]? = w.heap[b]? := by
    intro i hs hnd b hb
    rcases hb with hb | hb
    · exact tr.same hb
    · refine tr.frame.heap b (hT.own i hs b hb).2 ?_
      rintro ⟨d, hd, hTd⟩
      by_cases e : d = i
      · subst e; exact hnd hd
      · exact hT.dis d i e (tr.here d hd) hs b hTd hb
  induction ha with
  | dead v => exact fun _ _ => .dead v
  | c ho => exact fun _ _ => .c (tr.own ho)
  | row hs hh => exact fun _ _ => .row hs fun i x v h1 h2 => tr.own (hh i x v h1 h2)
  | @ref i p k1 k2 o rw1 rw2 v ho hg hh =>
    intro hp hD
    by_cases e : i = id
    · subst e
      rw [hid] at ho; cases ho
      cases p with
      | nil =>
        simp only [Hdr] at hh; subst hh
        exact .ref hid' (p := []) rfl (by simp only [Hdr])
      | cons => simp [AV.hasPath] at hp
    · have hnd : ¬ D i := fun hd => by
        rcases hD i (by simp [AV.ids]) hd with h | ⟨xs, xs', h, _⟩
        · exact e h
        · rw [ho] at h; cases h
      obtain ⟨e1, e2, _⟩ := tr.old i (by simp [ho]) hnd
      exact .ref (by rw [e1]; exact ho) hg (Hdr.frame (hT.heap i _ ho) (hblk i (by simp [ho]) hnd) hh)
  | @ptr i p k1 i1 j1 k0 rw1 o rw2 b off len cap ho hg hh =>
    intro hp hD
    by_cases e : i = id
    · subst e
      rw [hid] at ho; cases ho
      cases p with
      | nil =>
        simp only [Cell.get, Option.some.injEq, Cell.sl.injEq] at hg
        obtain ⟨_, rfl, _⟩ := hg
        exact .ptr (n := len) (cap := cap) hid' (p := []) rfl (by simp only [Hdr] at hh ⊢; exact hh)
      | cons => simp [AV.hasPath] at hp
    · have hnd : ¬ D i := fun hd => by
        rcases hD i (by simp [AV.ids]) hd with h | ⟨xs, xs', h, _⟩
        · exact e h
        · rw [ho] at h; cases h
      obtain ⟨e1, e2, _⟩ := tr.old i (by simp [ho]) hnd
      exact .ptr (n := len) (cap := cap) (by rw [e1]; exact ho) hg (Hdr.frame (hT.heap i _ ho) (hblk i (by simp [ho]) hnd) hh)
  | @bx i j b xs ho hh =>
    intro _ hD
    by_cases hd : D i
    · rcases hD i (by simp [AV.ids]) hd with h | ⟨ys, ys', _, h⟩
      · subst h; rw [hid] at ho; cases ho
      · exact .bx h hh
    · obtain ⟨e1, e2, _⟩ := tr.old i (by simp [ho]) hd
      exact .bx (by rw [e1]; exact ho) hh
  | @pts xs b off c e fr hb hA hs hh =>
    intro _ _
    exact .pts (by rw [tr.same hA]; exact hb) (tr.sh hA) hs fun i x v h1 h2 => tr.own (hh i x v h1 h2)
  | @mp i ks v ho hh =>
    intro _ hD
    have hnd : ¬ D i := fun hd => by
      rcases hD i (by simp [AV.ids]) hd with h | ⟨xs, xs', h, _⟩
      · subst h; rw [hid] at ho; cases ho
      · rw [ho] at h; cases h
    obtain ⟨e1, e2, _⟩ := tr.old i (by simp [ho]) hnd
    exact .mp (by rw [e1]; exact ho) hh
  | @agg xs vs hs hh ih =>
    intro hp hD
    exact .agg hs fun i x v h1 h2 => ih i x v h1 h2 (hasPathL_get hp h1) fun j hj hd => hD j (by simp only [AV.ids]; exact z02o h1 hj) hd
  | @tup xs vs hs hh ih =>
    intro hp hD
    exact .tup hs fun i x v h1 h2 => ih i x v h1 h2 (hasPathL_get hp h1) fun j hj hd => hD j (by simp only [AV.ids]; exact z02o h1 hj) hd
  | @fn f xs vs hs hh ih =>
    intro hp hD
    exact .fn hs fun i x v h1 h2 => ih i x v h1 h2 (hasPathL_get hp h1) fun j hj hd => hD j (by simp only [AV.ids]; exact z02o h1 hj) hd
where
  hasPathL_get {id : Nat} : ∀ {xs : List AV} {i : Nat} {x : AV}, hasPathL id xs = false → xs[i]? = some x → x.hasPath id = false
    | [], _, _, _, h => by simp at h
    | y :: ys, 0, x, hp, h => by simp at h; subst h; simp only [hasPathL, Bool.or_eq_false_iff] at hp; exact hp.1
    | y :: ys, i + 1, x, hp, h => by simp only [hasPathL, Bool.or_eq_false_iff] at hp; exact hasPathL_get hp.2 (by simpa using h)
theorem z1q8 {t : TypeId} {x y : Operand} {id k i j m : Nat} {rows : List (List Cell)} {row : List Cell} {av : AV} {ys : List AV} {cs : List Cell} {os : Objs} (hz : ∀ w, (Go.sizeOf t).run P w = .ok m w)
    (hr : rows[i]? = some row) (hc : av.cells? = some ys) (habs : Absorb ys cs os) (hne : (os.any fun p => Nat.beq p.1 id) = false) (hone : ys.all AV.one = true) (hm : ys.length = m) (hl : j + m ≤ k) :
    OpL0 P n ⟨none, .store t x y, ty, pos, after, g⟩ (.opd x (.ptr id [] k i j) :: .opd y av :: .obj id (.arr k rows) :: (objReqs os ++ lives av.ids))
      (dels (os.map (·.1)) ++ [.kill id, .put id (.arr k (rows.set i (splice row j cs)))]) := by
  intro pn w0 A0 F0 st a w hB0 hS hs K Q hK
  obtain ⟨hv, T, hT⟩ := hS
  have h0 : opIs st x (.ptr id [] k i j) := at0 hs
  have h1 : opIs st y av := at1 hs
  have hid : st.obj id = some (.arr k rows) := at2 hs
  obtain ⟨hobj, hrest⟩ := z22s (z0g3 (z0g3 (z0g3 hs)))
  have hlive : Live st.obj av := z159 hrest
  have hown := hT.heap id _ hid
  simp only [ObjSim] at hown
  have hx := hT.eval h0 (fun i hi => by simp [AV.ids] at hi; subst hi; simp [hid])
  have hy := hT.eval h1 hlive
  obtain ⟨h2, h3⟩ := hT.cells hy hc
  have hcl := habs.length
  generalize hvx : a.eval x = vx at hx
  cases hx with
  | @ptr _ _ _ _ _ _ _ _ _ b off len cap ho' hg hh =>
  rw [hid] at ho'; cases ho'
  simp only [Hdr] at hh
  have hh2 := hh.symm
  generalize hhv : hv id = hvid at hown hh2
  cases hown with
  | nil => cases hh2
  | @arr _ _ _ _ _ c e G hb hk hs2 hcap hF hG hGb hd hsub =>
  cases hh2
  have hrk : row.length = k := hk row (List.mem_of_getElem? hr)
  have hil : i < rows.length := (List.getElem?_eq_some_iff.1 hr).1
  have hmul : (i + 1) * k ≤ cap * k := Nat.mul_le_mul_right _ (by omega)
  rw [Nat.add_mul, Nat.one_mul] at hmul
  obtain ⟨w', c', r1, r2, r3, r4, r5, r6, r7, r8⟩ := z16g (P := P) (ty := ty) (pos := pos) (after := after) (g := g) (t := t) (x := x) (y := y) hz hvx hb (by omega) (by omega) (by
    intro v hv'
    obtain ⟨l, hl2, rfl⟩ := List.mem_iff_getElem.1 hv'
    have hl3 : l < ys.length := by simp at hl2; omega
    exact hT.one (h3 l ys[l] _ (by simp [hl3]) (by rw [← Array.getElem?_toList]; exact List.getElem?_eq_getElem hl2)) (List.all_eq_true.1 hone _ (List.getElem_mem hl3)))
  obtain ⟨GA, g1, g2, g3⟩ := z0ts hT habs hobj (us := (a.eval y).cells.toList) (by simpa using h2) (fun i y u h1 h2 => h3 i y u h1 (by simpa using h2))
  have hids : ∀ q ∈ os.map (·.1), (st.obj q).isSome = true := by
    intro q hq
    obtain ⟨p, hp, rfl⟩ := List.mem_map.1 hq
    simp [hobj p hp]
  have hnot : id ∉ os.map (·.1) := by
    intro hm'
    obtain ⟨p, hp, e⟩ := List.mem_map.1 hm'
    exact z1wh hne p hp e
  have gsep : ∀ l b, GA l b → ¬ T id b := by
    intro l b hb' hTb
    obtain ⟨p, hp, hTp⟩ := g1 l b hb'
    exact hT.dis p.1 id (z1wh hne p hp) (by simp [hobj p hp]) (by simp [hid]) b hTp hTb
  let rows' := rows.set i (splice row j cs)
  let S : Blks := fun b => T id b ∨ ∃ q, q ∈ os.map (·.1) ∧ T q b
  let obj1 : Nat → Option Obj := fun q => if q ∈ os.map (·.1) then none else (st.obj q).map (Obj.killp id)
  let obj' : Nat → Option Obj := upd obj1 id (some (.arr k rows'))
  have hobj' : ∀ q, obj' q = if id = q then some (.arr k rows') else if q ∈ os.map (·.1) then none else (st.obj q).map (Obj.killp id) := fun q => z07i _ _ _ _
  let D : Nat → Prop := fun d => d = id ∨ d ∈ os.map (·.1) ∨ ∃ xs, st.obj d = some (.box xs)
  have hfr : Frame (fun b => ∃ d, D d ∧ T d b) w w' :=
    ⟨fun b2 hlt hno => r5 b2 (fun e2 => hno ⟨id, .inl rfl, by subst e2; exact hF⟩), by omega, r7, r8⟩
  have hbxne : ∀ q xs, st.obj q = some (.box xs) → id ≠ q ∧ q ∉ os.map (·.1) := by
    intro q xs hq
    refine ⟨fun e => (by subst e; rw [hid] at hq; cases hq), fun hm => ?_⟩
    obtain ⟨p, hp, rfl⟩ := List.mem_map.1 hm
    rw [hobj p hp] at hq; cases hq
  have tr : Trade w0 A0 F0 hv hv T (upd T id S) st.obj obj' D w w' := by
    refine ⟨fun d hd => ?_, hfr, fun q hq hnq => ?_, fun q hq hor b2 hb2 => ?_⟩
    · rcases hd with rfl | hd | ⟨xs, hd⟩
      · simp [hid]
      · exact hids d hd
      · simp [hd]
    · have hne' : id ≠ q := fun e => hnq (.inl e.symm)
      refine ⟨?_, rfl, z07d _ _ hne'⟩
      rw [hobj', if_neg hne', if_neg (fun hm => hnq (.inr (.inl hm)))]
      cases ho : st.obj q with
      | none => rfl
      | some o => cases o with
        | box xs => exact absurd (.inr (.inr ⟨xs, ho⟩)) hnq
        | arr => rfl
        | mp => rfl
    · by_cases e2 : id = q
      · subst e2
        rw [z02d] at hb2
        rcases hb2 with h | ⟨q, hq, h⟩
        · exact .inl ⟨id, .inl rfl, h⟩
        · exact .inl ⟨q, .inr (.inl hq), h⟩
      · rw [z07d _ _ e2] at hb2
        rw [hobj', if_neg e2] at hq
        by_cases hm' : q ∈ os.map (·.1)
        · rw [if_pos hm'] at hq; cases hq
        · rw [if_neg hm'] at hq
          rcases hor with h | h
          · exact .inl ⟨q, h, hb2⟩
          · rw [h] at hq; cases hq
  have hflat : ∀ (q : Nat) z, rows'.flatten[q]? = some z → (i * k + j ≤ q ∧ q < i * k + j + m ∧ cs[q - (i * k + j)]? = some z) ∨ (¬ (i * k + j ≤ q ∧ q < i * k + j + m) ∧ rows.flatten[q]? = some z) := by
    intro q z hq
    have hsl : (splice row j cs).length = k := by rw [z0ff (by omega)]; exact hrk
    have hk' : ∀ r ∈ rows', r.length = k := by
      intro r hr'
      rcases List.mem_or_eq_of_mem_set hr' with h | h
      · exact hk r h
      · rw [h]; exact hsl
    have hqlt : q < rows.length * k := by
      have := (List.getElem?_eq_some_iff.1 hq).1
      rw [z01s hk'] at this
      simpa [rows'] using this
    have hkp : 0 < k := by rcases Nat.eq_zero_or_pos k with h | h; (subst h; simp at hqlt); exact h
    have hdm : q = q / k * k + q % k := by rw [Nat.mul_comm]; exact (Nat.div_add_mod q k).symm
    have hmod : q % k < k := Nat.mod_lt _ hkp
    rw [hdm, List.flatten_getElem?_of_const hk' _ _ hmod] at hq
    simp only [rows'] at hq
    by_cases hqi : i = q / k
    · rw [← hqi, List.getElem?_set_self hil, Option.bind_some, z16m (by omega)] at hq
      rw [← hqi] at hdm
      by_cases hin : j ≤ q % k ∧ q % k < j + cs.length
      · rw [if_pos hin] at hq
        refine .inl ⟨by omega, by omega, ?_⟩
        rw [← hq]; congr 1; omega
      · rw [if_neg hin] at hq
        refine .inr ⟨by omega, ?_⟩
        rw [hdm, List.flatten_getElem?_of_const hk _ _ hmod, hr]; exact hq
    · rw [List.getElem?_set_ne hqi] at hq
      refine .inr ⟨?_, by rw [hdm, List.flatten_getElem?_of_const hk _ _ hmod]; exact hq⟩
      rintro ⟨hx1, hx2⟩
      apply hqi
      have h1 : i * k ≤ q := by omega
      have h2 : q < (i + 1) * k := by rw [Nat.add_mul]; omega
      have h3 : i ≤ q / k := (Nat.le_div_iff_mul_le hkp).2 h1
      have h4 : q / k < i + 1 := (Nat.div_lt_iff_lt_mul hkp).2 h2
      omega
  have hnewOwn : Own w' (Sh A0 F0 w0 (upd T id S) obj' w') S (.sl true k rows') (hv id) := by
    let G' : Nat → Blks := fun q => if i * k + j ≤ q ∧ q < i * k + j + m then GA (q - (i * k + j)) else G q
    have hG'S : ∀ q b, G' q b → S b := by
      intro q b hb'
      simp only [G'] at hb'
      split at hb'
      · obtain ⟨p, hp, h⟩ := g1 _ b hb'
        exact .inr ⟨p.1, List.mem_map.2 ⟨p, hp, rfl⟩, h⟩
      · exact .inl (hG q b hb')
    have hG'b : ∀ q, ¬ G' q b := by
      intro q hb'
      simp only [G'] at hb'
      split at hb'
      · exact gsep _ b hb' hF
      · exact hGb q hb'
    have := Own.arr (w := w') (A := Sh A0 F0 w0 (upd T id S) obj' w') (F := S) (k := k) (rows := rows') (b := b) (cap := cap) (c := c') (e := e) (G := G') r2 (by
        intro r hr'
        rcases List.mem_or_eq_of_mem_set hr' with h | h
        · exact hk r h
        · rw [h, z0ff (by omega)]; exact hrk) (by omega) (by simpa [rows'] using hcap) (.inl hF) hG'S hG'b (by
        intro q1 q2 b' hq h1 h2
        simp only [G'] at h1 h2
        split at h1
        · split at h2
          · exact g2 _ _ b' (by omega) h1 h2
          · exact gsep _ b' h1 (hG _ b' h2)
        · split at h2
          · exact gsep _ b' h2 (hG _ b' h1)
          · exact hd q1 q2 b' hq h1 h2) (by
        intro q z u hz1 hu
        rw [r4 q] at hu
        have frm : ∀ {c0 : Cell} {u0 : Value} {F1 : Blks}, (∀ b', F1 b' → S b' ∧ b' ≠ b) → Own w (Sh A0 F0 w0 T st.obj w) F1 c0 u0 → Own w' (Sh A0 F0 w0 (upd T id S) obj' w') F1 c0 u0 := by
          intro c0 u0 F1 hF1 ho
          exact (ho.frame fun b' hb' => by
            rcases hb' with hb' | hb'
            · exact tr.same hb'
            · exact r5 b' (hF1 b' hb').2).mono (fun _ h => tr.sh h) (fun _ h => h)
        rcases hflat q z hz1 with ⟨q1, q2, q3⟩ | ⟨q1, q2⟩
        · rw [if_pos (by omega)] at hu
          have hG : G' q = GA (q - (i * k + j)) := by simp only [G']; rw [if_pos ⟨q1, q2⟩]
          rw [hG]
          refine frm (fun b' hb' => ⟨hG'S q b' (by rw [hG]; exact hb'), fun e2 => by subst e2; exact gsep _ b' hb' hF⟩) (g3 _ z u q3 ?_)
          simpa using hu
        · rw [if_neg (by omega)] at hu
          have hG : G' q = G q := by simp only [G']; rw [if_neg q1]
          rw [hG]
          exact frm (fun b' hb' => ⟨hG'S q b' (by rw [hG]; exact hb'), fun e2 => by subst e2; exact hGb q hb'⟩) (hsub q z u q2 hu))
    rw [hhv]
    have hlen' : rows'.length = rows.length := by simp [rows']
    rw [hlen'] at this
    exact this
  unfold Oper.wp
  rw [r1]
  refine hK _ _ ⟨hv, upd T id S, ?_⟩
  rw [apps_append]
  generalize hs1 : apps (dels (os.map (·.1))) st = st1
  have e1 : ∀ q, st1.obj q = if q ∈ os.map (·.1) then none else st.obj q := fun q => by rw [← hs1]; exact z1be _ st q
  have e2 : st1.env = st.env := by rw [← hs1]; exact z1bd _ st
  have e3 : st1.used = st.used := by rw [← hs1]; exact z116 _ st
  have eobj : ((Upd.put id (.arr k rows')).app ((Upd.kill id).app st1)).obj = obj' := by
    funext q
    show upd (fun i => (st1.obj i).map (Obj.killp id)) id (some (.arr k rows')) q = obj' q
    rw [z07i, e1, hobj']
    by_cases e4 : id = q
    · rw [if_pos e4, if_pos e4]
    · rw [if_neg e4, if_neg e4]
      by_cases hm' : q ∈ os.map (·.1)
      · rw [if_pos hm', if_pos hm']; rfl
      · rw [if_neg hm', if_neg hm']
  have liveB : ∀ av, Live obj' av → Live st.obj av ∧ ∀ q ∈ av.ids, D q → q = id ∨ ∃ xs xs', st.obj q = some (.box xs) ∧ obj' q = some (.box xs') := by
    intro av hl
    have key : ∀ q ∈ av.ids, (st.obj q).isSome = true ∧ (D q → q = id ∨ ∃ xs xs', st.obj q = some (.box xs) ∧ obj' q = some (.box xs')) := by
      intro q hq
      have := hl q hq
      rw [hobj'] at this
      by_cases e4 : id = q
      · subst e4; exact ⟨by simp [hid], fun _ => .inl rfl⟩
      · rw [if_neg e4] at this
        by_cases hm' : q ∈ os.map (·.1)
        · rw [if_pos hm'] at this; cases this
        · rw [if_neg hm'] at this
          refine ⟨by simpa using this, fun h => ?_⟩
          rcases h with h | h | ⟨xs, h⟩
          · exact .inl h
          · exact absurd h hm'
          · refine .inr ⟨xs, xs.map (killAV id), h, ?_⟩
            rw [hobj', if_neg e4, if_neg hm', h]; rfl
    exact ⟨fun q hq => (key q hq).1, fun q hq => (key q hq).2⟩
  have killLive : ∀ av, Live obj' (killAV id av) → killAV id av = .dead ∨ (killAV id av = av ∧ av.hasPath id = false ∧ Live obj' av) := by
    intro av hl
    unfold killAV at hl ⊢
    cases hp : av.hasPath id with
    | true => exact .inl rfl
    | false => rw [hp] at hl; exact .inr ⟨rfl, rfl, hl⟩
  have kids : ∀ av, ∀ q ∈ (killAV id av).ids, q ∈ av.ids := by
    intro av q hq
    unfold killAV at hq
    cases hp : av.hasPath id with
    | true => rw [hp] at hq; simp [AV.ids] at hq
    | false => rw [hp] at hq; exact hq
  have hnewid : ∀ q, (obj' q).isSome = true ∧ (D q ∨ st.obj q = none) → q = id ∨ ∃ xs, st.obj q = some (.box xs) := by
    rintro q ⟨hq, hor⟩
    by_cases e4 : id = q
    · exact .inl e4.symm
    · rw [hobj', if_neg e4] at hq
      by_cases hm' : q ∈ os.map (·.1)
      · rw [if_pos hm'] at hq; cases hq
      · rw [if_neg hm'] at hq
        rcases hor with (h | h | h) | h
        · exact .inl h
        · exact absurd h hm'
        · exact .inr h
        · rw [h] at hq; cases hq
  have hrid : obj' id = some (.arr k rows') := by rw [hobj', if_pos rfl]
  have hUbox : ∀ q xs, obj' q = some (.box xs) → ∃ ys, st.obj q = some (.box ys) ∧ xs = ys.map (killAV id) := by
    intro q xs hq
    rw [hobj'] at hq
    by_cases e4 : id = q
    · rw [if_pos e4] at hq; cases hq
    · rw [if_neg e4] at hq
      by_cases hm' : q ∈ os.map (·.1)
      · rw [if_pos hm'] at hq; cases hq
      · rw [if_neg hm'] at hq
        cases ho : st.obj q with
        | none => rw [ho] at hq; cases hq
        | some o =>
          rw [ho] at hq
          cases o <;> simp only [Option.map_some, Obj.killp, Option.some.injEq] at hq <;> first | (cases hq; done) | (cases hq; exact ⟨_, rfl, rfl⟩)
  refine StSim.trade (st' := (Upd.put id (.arr k rows')).app ((Upd.kill id).app st1)) hT (by rw [eobj]; exact tr) hT.size hT.defers ?_ ?_ ?_ ?_ ?_ ?_ ?_ ?_ ?_
  · intro q1 q2 hne' h1 h2 b' hb1 hb2
    rw [eobj] at h1 h2
    have cl : ∀ q, (obj' q).isSome = true ∧ (D q ∨ st.obj q = none) → ∀ b', upd T id S q b' → (q = id ∧ S b') ∨ (q ≠ id ∧ (∃ xs, st.obj q = some (.box xs)) ∧ T q b') := by
      intro q hq b' hb'
      by_cases e4 : id = q
      · subst e4; rw [z02d] at hb'; exact .inl ⟨rfl, hb'⟩
      · rw [z07d _ _ e4] at hb'
        rcases hnewid q hq with h | h
        · exact absurd h.symm e4
        · exact .inr ⟨Ne.symm e4, h, hb'⟩
    have sS : ∀ q xs, st.obj q = some (.box xs) → T q b' → ¬ S b' := by
      rintro q xs hq hTq (h | ⟨p, hp, h⟩)
      · exact hT.dis q id (Ne.symm (hbxne q xs hq).1) (by simp [hq]) (by simp [hid]) b' hTq h
      · exact hT.dis q p (fun e => (hbxne q xs hq).2 (e ▸ hp)) (by simp [hq]) (hids p hp) b' hTq h
    rcases cl q1 h1 b' hb1 with ⟨e1', s1⟩ | ⟨n1, ⟨xs1, o1⟩, t1⟩
    · rcases cl q2 h2 b' hb2 with ⟨e2', s2⟩ | ⟨n2, ⟨xs2, o2⟩, t2⟩
      · exact hne' (e1'.trans e2'.symm)
      · exact sS q2 xs2 o2 t2 s1
    · rcases cl q2 h2 b' hb2 with ⟨e2', s2⟩ | ⟨n2, ⟨xs2, o2⟩, t2⟩
      · exact sS q1 xs1 o1 t1 s2
      · exact hT.dis q1 q2 hne' (by simp [o1]) (by simp [o2]) b' t1 t2
  · intro q o' hor ho'
    rw [eobj] at ho' ⊢
    rcases hnewid q ⟨by rw [ho']; rfl, hor⟩ with rfl | ⟨xs, hxs⟩
    · rw [hrid] at ho'; cases ho'
      simp only [ObjSim]
      rw [z02d]
      exact hnewOwn
    · obtain ⟨hn1, hn2⟩ := hbxne q xs hxs
      rw [hobj', if_neg hn1, if_neg hn2, hxs] at ho'
      simp only [Option.map_some, Obj.killp, Option.some.injEq] at ho'
      subst ho'
      rw [z07d _ _ hn1]
      obtain ⟨b3, c3, e3', q1, q2, q3, q4, q5⟩ := hT.heap q _ hxs
      have hb3 : b3 ≠ b := fun e => hT.dis q id (Ne.symm hn1) (by simp [hxs]) (by simp [hid]) b3 q4 (by subst e; exact hF)
      refine ⟨b3, c3, e3', q1, by rw [r5 b3 hb3]; exact q2, by simpa using q3, q4, fun l z u hz1 hu hl => ?_⟩
      rw [List.getElem?_map] at hz1
      obtain ⟨z0, hz0, rfl⟩ := Option.map_eq_some_iff.1 hz1
      rcases killLive z0 hl with h | ⟨h, hp, hl2⟩
      · rw [h]; exact .dead _
      · rw [h]
        obtain ⟨l1, l2⟩ := liveB z0 hl2
        exact keepRoot hT tr hid hrid (q5 l z0 u hz0 hu l1) hp l2
  · intro x2 av2 hx2
    have hx3 : (st1.env x2).map (killAV id) = some av2 := hx2
    rw [e2] at hx3
    obtain ⟨av0, h4, rfl⟩ := Option.map_eq_some_iff.1 hx3
    exact hT.slt x2 av0 h4
  · intro x2 av2 hx2 q hq
    refine z00g.2 (.inl ?_)
    have hx3 : (st1.env x2).map (killAV id) = some av2 := hx2
    rw [e2] at hx3
    obtain ⟨av0, h4, rfl⟩ := Option.map_eq_some_iff.1 hx3
    show st1.used q = true
    rw [e3]
    exact hT.uenv x2 av0 h4 q (kids av0 q hq)
  · intro q hq
    rw [eobj] at hq
    refine z00g.2 ?_
    by_cases e4 : id = q
    · exact .inr (by simp [e4])
    · left
      show st1.used q = true
      rw [e3]
      rw [hobj', if_neg e4] at hq
      by_cases hm' : q ∈ os.map (·.1)
      · rw [if_pos hm'] at hq; cases hq
      · rw [if_neg hm'] at hq
        exact hT.uobj q (by simpa using hq)
  · intro q v' hp
    obtain ⟨p1, p2⟩ := hT.pin q v' hp
    refine ⟨z00g.2 (.inl (by show st1.used q = true; rw [e3]; exact p1)), fun hq => p2 ?_⟩
    rw [eobj, hobj'] at hq
    by_cases e4 : id = q
    · subst e4; simp [hid]
    · rw [if_neg e4] at hq
      by_cases hm' : q ∈ os.map (·.1)
      · rw [if_pos hm'] at hq; cases hq
      · rw [if_neg hm'] at hq; simpa using hq
  · intro q xs hq l hl2
    rw [eobj] at hq
    refine z00g.2 (.inl ?_)
    show st1.used l = true
    rw [e3]
    obtain ⟨ys', h4, rfl⟩ := hUbox q xs hq
    have : ∀ (l1 : List AV) (l : Nat), l ∈ idsL (l1.map (killAV id)) → l ∈ idsL l1 := by
      intro l1
      induction l1 with
      | nil => intro l h; simp [idsL] at h
      | cons z l1 ih =>
        intro l h
        simp only [List.map_cons, idsL, List.mem_append] at h ⊢
        exact h.imp (kids z l) (ih l)
    exact hT.ubox q ys' h4 l (this ys' l hl2)
  · intro q xs hq hnq
    exact absurd (.inr (.inr ⟨xs, hq⟩)) hnq
  · intro x2 av2 hx2 hl
    rw [eobj] at hl ⊢
    have hx3 : (st1.env x2).map (killAV id) = some av2 := hx2
    rw [e2] at hx3
    obtain ⟨av0, h4, rfl⟩ := Option.map_eq_some_iff.1 hx3
    rcases killLive av0 hl with h | ⟨h, hp, hl2⟩
    · rw [h]
      have hlt : ∃ v, a.tmps[x2]? = some v := by
        have h6 : x2 < a.tmps.size := by rw [hT.size]; exact hT.slt x2 av0 h4
        exact ⟨a.tmps[x2], by simp [h6]⟩
      obtain ⟨v, hv⟩ := hlt
      exact ⟨v, hv, .dead _⟩
    · rw [h]
      obtain ⟨l1, l2⟩ := liveB av0 hl2
      obtain ⟨v, q1, q2⟩ := hT.env x2 av0 h4 l1
      exact ⟨v, q1, keepRoot hT tr hid hrid q2 hp l2⟩
end
end Go.Am
end
