/- Arguments that are read as data: what they are in memory. Own work; generic. -/
import Derived.Test.YtcbpckbehdaloaaAmV
import Derived.Deep.Slices
set_option linter.unusedSimpArgs false
set_option linter.unusedVariables false
namespace Go.Am
open Go Go.Deep

/-- All blocks that are there. -/
def Here (w : World) : Blks := fun b => b < w.heap.size

/-- What reads as a value of a type is such data in memory. -/
def OpensAs (P : Program) (w : World) (t : TypeId) (k : Nat) {α : Type} (f : α → List Cell) (ok : α → Prop) : Prop :=
  ∀ (H : Type) (enc : TypeId × Value → H) (fuel : Nat) (cs : List Value) (x : DataW H × List MemPlace), DataW.trod enc P w 0 (fun _ => true) true fuel t cs = some x →
    cs.length = k ∧ ∃ a : α, ok a ∧ (f a).length = k ∧ ∀ (i : Nat) c v, (f a)[i]? = some c → cs[i]? = some v → Own w (Here w) noBlk c v

section
variable {P : Program} {w : World} {t e : TypeId}

def i64 (n : Int) : Prop := -9223372036854775808 ≤ n ∧ n ≤ 9223372036854775807

theorem opens_int (ht : P.underlying t = some (.int .i64)) : OpensAs P w t 1 (fun n : Int => [cI n]) i64 := by
  intro H enc fuel cs x h
  obtain ⟨n, rfl, _, hw⟩ := DataW.trod_int ht h
  refine ⟨rfl, n, ?_, rfl, fun i c v h1 h2 => ?_⟩
  · simpa [Lit.wf, IntKind.min, IntKind.max, IntKind.signed, IntKind.bits, i64] using hw
  · cases i with
    | zero => simp at h1 h2; subst h1 h2; exact .lit _
    | succ i => simp at h1

theorem opens_slice {α : Type} [Inhabited α] {k : Nat} {f : α → List Cell} {ok : α → Prop} (ht : P.underlying t = some (.slice e)) (hc : P.cellsOf e = k) (hk : 0 < k) (E : OpensAs P w e k f ok) :
    OpensAs P w t 1 (fun l : List α => [.sl false k (l.map f)]) (fun l => l.length ≤ 9223372036854775807 ∧ ∀ y ∈ l, ok y) := by
  intro H enc fuel cs x h
  have one : ∀ {l : List α} {u : Value}, Own w (Here w) noBlk (.sl false k (l.map f)) u → ∀ (i : Nat) c v, ([Cell.sl false k (l.map f)])[i]? = some c → [u][i]? = some v → Own w (Here w) noBlk c v := by
    intro l u ho i c v h1 h2
    cases i with
    | zero => simp at h1 h2; subst h1 h2; exact ho
    | succ i => simp at h1
  rcases open_slice ht h with ⟨rfl, rfl⟩ | ⟨a, len, cap, m, n, D, Pl, rfl, _, hl, hmax, hm, _, hx⟩
  · exact ⟨rfl, [], ⟨by simp, by simp⟩, rfl, one (.nil _ _)⟩
  · have hm' : m = cap := by simpa using hm
    subst hm'
    have hmax' : m ≤ 9223372036854775807 := hmax
    refine ⟨rfl, ?_⟩
    by_cases h0 : m = 0
    · have hlen : len = 0 := by omega
      subst h0 hlen
      exact ⟨[], ⟨by simp, by simp⟩, rfl, one (.emp _ _)⟩
    · rw [hc] at hx
      have cell : ∀ i, i < m → ∀ cs', w.cells? 0 (a.add (i * k)) k = some cs' → ∀ j, j < k → w.cell? ((a.add (i * k)).add j) = cs'[j]? := fun i _ cs' h j hj => (World.cells?_some h).2.2 j hj
      have blk : ∃ c0 e0 fr, a.spot = none ∧ w.heap[a.block]? = some (.cells c0 e0 fr) := by
        obtain ⟨cs0, h1, _⟩ := hx 0 (by omega)
        have h2 := cell 0 (by omega) cs0 h1 0 hk
        have h3 : cs0.length = k := (World.cells?_some h1).2.1
        have h4 : cs0[0]? = some (cs0[0]'(by omega)) := by simp [show 0 < cs0.length by omega]
        rw [h4] at h2
        simp only [Nat.zero_mul, Addr.add, if_true, World.cell?] at h2
        cases hb : w.heap[a.block]? with
        | none => rw [hb] at h2; cases h2
        | some o =>
          rw [hb] at h2
          cases o with
          | cells c0 e0 fr =>
            simp only at h2
            cases hs : a.spot with
            | none => exact ⟨c0, e0, fr, rfl, rfl⟩
            | some s => rw [hs] at h2; simp at h2
          | _ => simp at h2
      obtain ⟨c0, e0, fr, hspot, hb⟩ := blk
      have hblt : a.block < w.heap.size := (Array.getElem?_eq_some_iff.1 hb).1
      have at_ : ∀ i j, w.cell? ((a.add (i * k)).add j) = c0[a.off + (i * k + j)]? := by
        intro i j
        rw [Go.Deep.add_add]
        have : a.add (i * k + j) = ⟨a.block, a.off + (i * k + j), none⟩ := by
          unfold Addr.add
          split
          · rename_i h; rw [h, ← hspot]; cases a; rfl
          · rfl
        rw [this]
        simp [World.cell?, hb]
      obtain ⟨A, hA⟩ := choose_lt (α := α) (n := m) (p := fun i y => ok y ∧ (f y).length = k ∧ a.off + (i * k + k) ≤ c0.size ∧ ∀ (j : Nat) c v, (f y)[j]? = some c → c0[a.off + (i * k + j)]? = some v → Own w (Here w) noBlk c v) (fun i hi => by
        obtain ⟨cs', h1, h2⟩ := hx i hi
        obtain ⟨e1, y, e2, e3, e4⟩ := E H enc n cs' _ h2
        have key : ∀ j, j < k → c0[a.off + (i * k + j)]? = cs'[j]? := fun j hj => by rw [← at_]; exact cell i hi cs' h1 j hj
        refine ⟨y, e2, e3, ?_, fun j c v h3 h4 => ?_⟩
        · have h5 := key (k - 1) (by omega)
          have h6 : cs'[k - 1]? = some (cs'[k - 1]'(by omega)) := by simp [show k - 1 < cs'.length by omega]
          rw [h6] at h5
          have := (Array.getElem?_eq_some_iff.1 h5).1
          omega
        · have hj : j < k := by have := (List.getElem?_eq_some_iff.1 h3).1; omega
          rw [key j hj] at h4
          exact e4 j c v h3 h4)
      let l := (List.range len).map A
      have hll : l.length = len := by simp [l]
      have hmem : ∀ y ∈ l, ∃ i, i < m ∧ A i = y := by
        intro y hy
        obtain ⟨i, hi, rfl⟩ := List.mem_map.1 hy
        exact ⟨i, by have := List.mem_range.1 hi; omega, rfl⟩
      refine ⟨l, ⟨by rw [hll]; omega, fun y hy => by obtain ⟨i, hi, rfl⟩ := hmem y hy; exact (hA i hi).1⟩, rfl, one ?_⟩
      have hrk : ∀ r ∈ l.map f, r.length = k := by
        intro r hr
        obtain ⟨y, hy, rfl⟩ := List.mem_map.1 hr
        obtain ⟨i, hi, rfl⟩ := hmem y hy
        exact (hA i hi).2.1
      have hsz : a.off + m * k ≤ c0.size := by
        have := (hA (m - 1) (by omega)).2.2.1
        have e : (m - 1) * k + k = m * k := by rw [← Nat.succ_mul]; congr 1; omega
        omega
      have hmul : len * k ≤ m * k := Nat.mul_le_mul_right _ hl
      have := Own.shr (w := w) (A := Here w) (F := noBlk) (k := k) (rows := l.map f) (b := a.block) (off := a.off) (cap := m) (c := c0) (e := e0) (fr := fr) hb hblt hrk (by simp [hll]; omega) (by simp [hll]; omega) (by
        intro i c v h1 h2
        have hi : i < len * k := by
          have := (List.getElem?_eq_some_iff.1 h1).1
          rw [flatten_length_const hrk] at this
          simpa [hll] using this
        have hdm : i = i / k * k + i % k := by rw [Nat.mul_comm]; exact (Nat.div_add_mod i k).symm
        have hmod : i % k < k := Nat.mod_lt _ hk
        have hdiv : i / k < len := Nat.div_lt_of_lt_mul (by rw [Nat.mul_comm]; exact hi)
        rw [hdm, List.flatten_getElem?_of_const hrk _ _ hmod] at h1
        have hrow : (l.map f)[i / k]? = some (f (A (i / k))) := by simp [l, hdiv]
        rw [hrow, Option.bind_some] at h1
        rw [hdm] at h2
        exact (hA (i / k) (by omega)).2.2.2 _ c v h1 h2)
      have ev : a = ⟨a.block, a.off, none⟩ := by rw [← hspot]
      rw [ev]
      simpa [hll] using this
end
end Go.Am
