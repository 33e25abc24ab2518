/- Cells, ownership: what a value in memory reads as, which blocks it owns. Own work; generic. -/
import Derived.Deep.Quiet
set_option linter.unusedSimpArgs false
set_option linter.unusedVariables false
namespace Go.Am
open Go

/-- One machine cell as pure data: a literal value, or a slice of rows of k cells each (owned, or shared). -/
inductive Cell where
  | lit (v : Value)
  | sl (o : Bool) (k : Nat) (rows : List (List Cell))
  | bx (row : List Cell)
  deriving Inhabited

abbrev Blks := Nat → Prop
def noBlk : Blks := fun _ => False

/-- In the world w the value v reads as the cell; what it owns lies in F, what it shares in A. -/
inductive Own (w : World) (A : Blks) : Blks → Cell → Value → Prop
  | lit {F : Blks} (v : Value) : Own w A F (.lit v) v
  | nil {F : Blks} (o : Bool) (k : Nat) : Own w A F (.sl o k []) (.slice none 0 0)
  | emp {F : Blks} (k : Nat) (a : Addr) : Own w A F (.sl false k []) (.slice (some a) 0 0)
  | shr {F : Blks} {k : Nat} {rows : List (List Cell)} {b off cap : Nat} {c : Array Value} {e : TypeId} {fr : Nat × Nat}
      (hb : w.heap[b]? = some (.cells c e fr)) (hA : A b) (hk : ∀ r ∈ rows, r.length = k)
      (hs : off + rows.length * k ≤ c.size) (hcap : rows.length ≤ cap)
      (h : ∀ i x v, rows.flatten[i]? = some x → c[off + i]? = some v → Own w A noBlk x v) :
      Own w A F (.sl false k rows) (.slice (some ⟨b, off, none⟩) rows.length cap)
  | arr {F : Blks} {k : Nat} {rows : List (List Cell)} {b cap : Nat} {c : Array Value} {e : TypeId} {G : Nat → Blks}
      (hb : w.heap[b]? = some (.cells c e (0, 0))) (hk : ∀ r ∈ rows, r.length = k)
      (hs : c.size = cap * k) (hcap : rows.length ≤ cap) (hF : F b) (hG : ∀ i x, G i x → F x) (hGb : ∀ i, ¬ G i b)
      (hd : ∀ i j x, i ≠ j → G i x → ¬ G j x)
      (h : ∀ i x v, rows.flatten[i]? = some x → c[i]? = some v → Own w A (G i) x v) :
      Own w A F (.sl true k rows) (.slice (some ⟨b, 0, none⟩) rows.length cap)
  | bx {F : Blks} {row : List Cell} {b : Nat} {c : Array Value} {e : TypeId} {G : Nat → Blks} (hb : w.heap[b]? = some (.cells c e (0, 0)))
      (hs : c.size = row.length) (hF : F b) (hG : ∀ i x, G i x → F x) (hGb : ∀ i, ¬ G i b) (hd : ∀ i j x, i ≠ j → G i x → ¬ G j x)
      (h : ∀ i x v, row[i]? = some x → c[i]? = some v → Own w A (G i) x v) :
      Own w A F (.bx row) (.pointer (some ⟨b, 0, none⟩))

theorem Own.frame {w w' : World} {A F : Blks} {c : Cell} {v : Value} (h : Own w A F c v)
    (hw : ∀ b, A b ∨ F b → w'.heap[b]? = w.heap[b]?) : Own w' A F c v := by
  induction h with
  | lit v => exact .lit v
  | nil o k => exact .nil o k
  | emp k a => exact .emp k a
  | shr hb hA hk hs hcap _ ih =>
    exact .shr (by rw [hw _ (.inl hA)]; exact hb) hA hk hs hcap fun i x v h1 h2 => ih i x v h1 h2 fun b hb => hw b (hb.imp id (fun f => f.elim))
  | arr hb hk hs hcap hF hG hGb hd _ ih =>
    exact .arr (by rw [hw _ (.inr hF)]; exact hb) hk hs hcap hF hG hGb hd fun i x v h1 h2 => ih i x v h1 h2 fun b hb => hw b (hb.imp id (hG i b))
  | bx hb hs hF hG hGb hd _ ih =>
    exact .bx (by rw [hw _ (.inr hF)]; exact hb) hs hF hG hGb hd fun i x v h1 h2 => ih i x v h1 h2 fun b hb => hw b (hb.imp id (hG i b))

theorem Own.mono {w : World} {A F : Blks} {c : Cell} {v : Value} (h : Own w A F c v) :
    ∀ {A' F' : Blks}, (∀ b, A b → A' b) → (∀ b, F b → F' b) → Own w A' F' c v := by
  induction h with
  | lit v => exact fun _ _ => .lit v
  | nil o k => exact fun _ _ => .nil o k
  | emp k a => exact fun _ _ => .emp k a
  | shr hb hA hk hs hcap _ ih => exact fun hA' _ => .shr hb (hA' _ hA) hk hs hcap fun i x v h1 h2 => ih i x v h1 h2 hA' (fun _ f => f)
  | arr hb hk hs hcap hF hG hGb hd _ ih =>
    exact fun hA' hF' => .arr hb hk hs hcap (hF' _ hF) (fun i x hx => hF' _ (hG i x hx)) hGb hd fun i x v h1 h2 => ih i x v h1 h2 hA' (fun _ f => f)
  | bx hb hs hF hG hGb hd _ ih =>
    exact fun hA' hF' => .bx hb hs (hF' _ hF) (fun i x hx => hF' _ (hG i x hx)) hGb hd fun i x v h1 h2 => ih i x v h1 h2 hA' (fun _ f => f)

mutual
/-- The same data, read only. -/
def Cell.share : Cell → Cell
  | .lit v => .lit v
  | .sl _ k rows => .sl false k (shareRows rows)
  | .bx row => .bx row
def shareRows : List (List Cell) → List (List Cell)
  | [] => []
  | r :: rs => shareRow r :: shareRows rs
def shareRow : List Cell → List Cell
  | [] => []
  | c :: cs => c.share :: shareRow cs
end

theorem shareRow_eq (r : List Cell) : shareRow r = r.map Cell.share := by
  induction r with
  | nil => rfl
  | cons c r ih => simp only [shareRow, List.map_cons, ih]
theorem shareRows_eq (r : List (List Cell)) : shareRows r = r.map (·.map Cell.share) := by
  induction r with
  | nil => rfl
  | cons c r ih => simp only [shareRows, List.map_cons, ih, shareRow_eq]

/-- No box within. -/
inductive NoBox : Cell → Prop
  | lit (v : Value) : NoBox (.lit v)
  | sl (o : Bool) (k : Nat) {rows : List (List Cell)} (h : ∀ r ∈ rows, ∀ c ∈ r, NoBox c) : NoBox (.sl o k rows)

theorem List.flatten_getElem?_of_const {α : Type} {k : Nat} {rows : List (List α)} (hk : ∀ r ∈ rows, r.length = k) :
    ∀ (i j : Nat), j < k → rows.flatten[i * k + j]? = (rows[i]?).bind (·[j]?) := by
  induction rows with
  | nil => intro i j _; simp
  | cons r rows ih =>
    intro i j hj
    have hr : r.length = k := hk r (by simp)
    cases i with
    | zero => simp only [Nat.zero_mul, Nat.zero_add, List.flatten_cons, List.getElem?_cons_zero, Option.bind_some]; rw [List.getElem?_append_left (by omega)]
    | succ i =>
      have : (i + 1) * k + j = r.length + (i * k + j) := by rw [hr, Nat.add_mul]; omega
      rw [this, List.flatten_cons, List.getElem?_append_right (by omega), Nat.add_sub_cancel_left, List.getElem?_cons_succ]
      exact ih (fun r hr => hk r (by simp [hr])) i j hj

theorem flatten_length_const {α : Type} {k : Nat} {rows : List (List α)} (hk : ∀ r ∈ rows, r.length = k) : rows.flatten.length = rows.length * k := by
  induction rows with
  | nil => simp
  | cons r rows ih =>
    have hr : r.length = k := hk r (by simp)
    simp only [List.flatten_cons, List.length_append, List.length_cons]
    rw [ih (fun r hr => hk r (by simp [hr])), hr, Nat.add_mul]; omega

theorem mem_flatten_of_getElem? {α : Type} {rows : List (List α)} {i : Nat} {x : α} (h : rows.flatten[i]? = some x) : ∃ r ∈ rows, x ∈ r := by
  have := List.mem_of_getElem? h
  simpa using this

theorem Own.share {w : World} {A F : Blks} {c : Cell} {v : Value} (h : Own w A F c v) :
    NoBox c → ∀ {A' F' : Blks}, (∀ b, A b ∨ F b → A' b) → Own w A' F' c.share v := by
  induction h with
  | lit v => exact fun _ _ _ _ => .lit v
  | nil o k => exact fun _ _ _ _ => .nil false k
  | emp k a => exact fun _ _ _ _ => .emp k a
  | bx => intro hnb; cases hnb
  | @shr F k rows b off cap c e fr hb hA hk hs hcap _ ih =>
    intro hnb A' F' hA'
    have hnb' : ∀ r ∈ rows, ∀ c ∈ r, NoBox c := by cases hnb; assumption
    have hl : (shareRows rows).length = rows.length := by simp [shareRows_eq]
    have := Own.shr (w := w) (A := A') (F := F') (k := k) (rows := shareRows rows) (b := b) (off := off) (cap := cap) hb (hA' _ (.inl hA))
      (by rw [shareRows_eq]; intro r hr; obtain ⟨r', h1, rfl⟩ := List.mem_map.1 hr; simpa using hk r' h1) (by rw [hl]; exact hs) (by rw [hl]; exact hcap)
      (by
        intro i x v h1 h2
        rw [shareRows_eq, ← List.map_flatten, List.getElem?_map] at h1
        cases h3 : rows.flatten[i]? with
        | none => rw [h3] at h1; cases h1
        | some y =>
          rw [h3] at h1; cases h1
          obtain ⟨r, hr, hy⟩ := mem_flatten_of_getElem? h3
          exact ih i y v h3 h2 (hnb' r hr y hy) (fun b hb => hA' b (hb.imp id (fun f => f.elim))))
    rw [hl] at this
    exact this
  | @arr F k rows b cap c e G hb hk hs hcap hF hG hGb hd _ ih =>
    intro hnb A' F' hA'
    have hnb' : ∀ r ∈ rows, ∀ c ∈ r, NoBox c := by cases hnb; assumption
    have hl : (shareRows rows).length = rows.length := by simp [shareRows_eq]
    have hm : rows.length * k ≤ cap * k := Nat.mul_le_mul_right _ hcap
    have := Own.shr (w := w) (A := A') (F := F') (k := k) (rows := shareRows rows) (b := b) (off := 0) (cap := cap) hb (hA' _ (.inr hF))
      (by rw [shareRows_eq]; intro r hr; obtain ⟨r', h1, rfl⟩ := List.mem_map.1 hr; simpa using hk r' h1) (by rw [hl]; omega) (by rw [hl]; exact hcap)
      (by
        intro i x v h1 h2
        rw [shareRows_eq, ← List.map_flatten, List.getElem?_map] at h1
        cases h3 : rows.flatten[i]? with
        | none => rw [h3] at h1; cases h1
        | some y =>
          rw [h3] at h1; cases h1
          obtain ⟨r, hr, hy⟩ := mem_flatten_of_getElem? h3
          exact ih i y v h3 (by simpa using h2) (hnb' r hr y hy) (fun b hb => hA' b (hb.imp id (hG i b))))
    rw [hl] at this
    exact this
end Go.Am
