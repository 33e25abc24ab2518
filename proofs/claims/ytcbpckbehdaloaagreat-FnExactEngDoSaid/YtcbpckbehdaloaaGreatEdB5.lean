/- The base: lemmas about the machine, the executor. Own work. -/
import Derived.Test.YtcbpckbehdaloaaGreatEdB4
import Derived.Deep.Slices
import Derived.ProofKit
import Derived.WalkKit
set_option linter.unusedSimpArgs false
set_option linter.unusedVariables false
section
namespace Go.Am
open Go
def sumW {α : Type} (f : α → Nat) (l : List α) : Nat := (l.map f).sum
theorem z21j {α : Type} {f : α → Nat} {l : List α} {k : Nat} (h : k < l.length) : sumW f (l.drop k) = f l[k] + sumW f (l.drop (k + 1)) := by
  rw [List.drop_eq_getElem_cons h]; simp only [sumW, List.map_cons, List.sum_cons]
theorem z24y {α : Type} {f : α → Nat} {l : List α} {k : Nat} (h : l.length ≤ k) : sumW f (l.drop k) = 0 := by
  rw [List.drop_eq_nil_of_le h]; rfl
theorem z1fk {α : Type} {f : α → Nat} {l : List α} {x : α} (h : x ∈ l) : f x ≤ sumW f l := by
  induction l with
  | nil => simp at h
  | cons y l ih =>
    simp only [sumW, List.map_cons, List.sum_cons] at ih ⊢
    rcases List.mem_cons.1 h with rfl | h
    · omega
    · have := ih h; omega
def szR (left : Int) (w : Nat) : Int := if (w : Int) ≤ left then left - w else -1
theorem z0wi {left : Int} {w : Nat} (h : (w : Int) ≤ left) : szR left w = left - w := if_pos h
theorem z0qn {left : Int} {w : Nat} (h : left < w) : szR left w = -1 := if_neg (by omega)
theorem z26l {left : Int} {w : Nat} (h : szR left w < 0) : left < w := by
  unfold szR at h; split at h <;> omega
theorem z21k {left : Int} {w : Nat} (h : ¬ szR left w < 0) : (w : Int) ≤ left ∧ szR left w = left - w := by
  unfold szR at h ⊢; split at h
  · rename_i h1; exact ⟨h1, if_pos h1⟩
  · omega
def half {α : Type} (z : α) (l : List α) (k : Nat) : List α := l.take k ++ List.replicate (l.length - k) z
theorem z1tx {α : Type} {z : α} {l : List α} {k : Nat} (h : k ≤ l.length) : (half z l k).length = l.length := by simp [half]; omega
theorem z20q {α : Type} {z : α} {l : List α} : half z l 0 = List.replicate l.length z := by simp [half]
theorem z23s {α : Type} {z : α} {l : List α} {k : Nat} (h : l.length ≤ k) : half z l k = l := by
  have : l.length - k = 0 := by omega
  simp [half, this, List.take_of_length_le h]
theorem z23t {α : Type} {z : α} {l : List α} {k : Nat} (h : k < l.length) : (half z l k).set k l[k] = half z l (k + 1) := by
  unfold half
  have e1 : l.length - k = (l.length - (k + 1)) + 1 := by omega
  rw [List.set_append_right _ _ (by simp; omega), e1, List.replicate_succ]
  have e2 : k - (l.take k).length = 0 := by simp; omega
  rw [e2, List.set_cons_zero, List.take_succ_eq_append_getElem h, List.append_assoc]
  rfl
def GAsk.zero : GAsk := ⟨0, 0, 0⟩
def GFlow.zero : GFlow := ⟨0, ⟨0, 0, 0⟩⟩
def GTask.zero : GTask := ⟨0, 0, [], [], [], 0, 0, 0, 0⟩
def GTask.W (x : GTask) : Nat := x.in_.length + x.out.length + x.clear.length
def GTask.lens (p : Nat → Prop) (x : GTask) : Prop := p x.in_.length ∧ p x.out.length ∧ p x.clear.length
theorem GTask.lens_of {x : GTask} {m : Nat} (h : GTask.W x ≤ m) : GTask.lens (· ≤ m) x := ⟨by simp only [GTask.W] at h; show (_ : Nat) ≤ m; omega, by simp only [GTask.W] at h; show (_ : Nat) ≤ m; omega, by simp only [GTask.W] at h; show (_ : Nat) ≤ m; omega⟩
def GNet.zero : GNet := ⟨0, []⟩
def GNet.W (x : GNet) : Nat := (x.tasks.length + sumW GTask.W x.tasks)
def GNet.lens (p : Nat → Prop) (x : GNet) : Prop := (p x.tasks.length ∧ ∀ y ∈ x.tasks, GTask.lens p y)
theorem GNet.lens_of {x : GNet} {m : Nat} (h : GNet.W x ≤ m) : GNet.lens (· ≤ m) x := ⟨by simp only [GNet.W] at h; omega, fun y hy => GTask.lens_of (by have := z1fk (f := GTask.W) hy; simp only [GNet.W] at h; omega)⟩
def GItem.zero : GItem := ⟨0, 0, 0⟩
def GDid.zero : GDid := ⟨0, 0⟩
def GCase.zero : GCase := ⟨0, [], [], [], []⟩
def GCase.W (x : GCase) : Nat := x.marks.length + x.busy.length + x.data.length + x.did.length
def GCase.lens (p : Nat → Prop) (x : GCase) : Prop := p x.marks.length ∧ p x.busy.length ∧ p x.data.length ∧ p x.did.length
theorem GCase.lens_of {x : GCase} {m : Nat} (h : GCase.W x ≤ m) : GCase.lens (· ≤ m) x := ⟨by simp only [GCase.W] at h; show (_ : Nat) ≤ m; omega, by simp only [GCase.W] at h; show (_ : Nat) ≤ m; omega, by simp only [GCase.W] at h; show (_ : Nat) ≤ m; omega, by simp only [GCase.W] at h; show (_ : Nat) ≤ m; omega⟩
def GNode.zero : GNode := ⟨⟨0, 0, 0⟩, 0, 0, 0, []⟩
def GNode.W (x : GNode) : Nat := x.stone.length
def GNode.lens (p : Nat → Prop) (x : GNode) : Prop := p x.stone.length
theorem GNode.lens_of {x : GNode} {m : Nat} (h : GNode.W x ≤ m) : GNode.lens (· ≤ m) x := by simp only [GNode.W] at h; show (_ : Nat) ≤ m; omega
def GRun.zero : GRun := ⟨0, ⟨0, [], [], [], []⟩⟩
def GRun.W (x : GRun) : Nat := GCase.W x.case
def GRun.lens (p : Nat → Prop) (x : GRun) : Prop := GCase.lens p x.case
theorem GRun.lens_of {x : GRun} {m : Nat} (h : GRun.W x ≤ m) : GRun.lens (· ≤ m) x := GCase.lens_of (by simp only [GRun.W] at h; omega)
def GHouse.zero : GHouse := ⟨[], [], [], []⟩
def GHouse.W (x : GHouse) : Nat := (x.nets.length + sumW GNet.W x.nets) + x.people.length + (x.tree.length + sumW GNode.W x.tree) + (x.runs.length + sumW GRun.W x.runs)
def GHouse.lens (p : Nat → Prop) (x : GHouse) : Prop := (p x.nets.length ∧ ∀ y ∈ x.nets, GNet.lens p y) ∧ p x.people.length ∧ (p x.tree.length ∧ ∀ y ∈ x.tree, GNode.lens p y) ∧ (p x.runs.length ∧ ∀ y ∈ x.runs, GRun.lens p y)
theorem GHouse.lens_of {x : GHouse} {m : Nat} (h : GHouse.W x ≤ m) : GHouse.lens (· ≤ m) x := ⟨⟨by simp only [GHouse.W] at h; omega, fun y hy => GNet.lens_of (by have := z1fk (f := GNet.W) hy; simp only [GHouse.W] at h; omega)⟩, by simp only [GHouse.W] at h; show (_ : Nat) ≤ m; omega, ⟨by simp only [GHouse.W] at h; omega, fun y hy => GNode.lens_of (by have := z1fk (f := GNode.W) hy; simp only [GHouse.W] at h; omega)⟩, ⟨by simp only [GHouse.W] at h; omega, fun y hy => GRun.lens_of (by have := z1fk (f := GRun.W) hy; simp only [GHouse.W] at h; omega)⟩⟩
def GReq.zero : GReq := ⟨0, 0, 0, 0, 0, 0, [], ⟨0, 0, 0⟩, 0⟩
def GReq.W (x : GReq) : Nat := x.data.length
def GReq.lens (p : Nat → Prop) (x : GReq) : Prop := p x.data.length
theorem GReq.lens_of {x : GReq} {m : Nat} (h : GReq.W x ≤ m) : GReq.lens (· ≤ m) x := by simp only [GReq.W] at h; show (_ : Nat) ≤ m; omega
end Go.Am
end
section
namespace Go.Am
open Go
theorem z00q {P : Program} {f : FuncId} {ps : List PT} {rs : List (Ty × Bool)} {bs : List (Nat × PT)} {M M' : HP ps → Option (HR (rs.map (·.1) ++ bs.map (·.2.ty)))} (h : (Con.mk f ps rs bs M).Ok P) (hm : ∀ x z, M' x = some z → M x = some z) :
    (Con.mk f ps rs bs M').Ok P := ⟨h.1, fun x xs z ha hz => h.2 x xs z ha (hm x z hz)⟩
theorem gdC {p : Prop} {α : Type} {x : α} (h : p) : @gd p (Classical.propDecidable _) α (some x) = some x := if_pos h
theorem z00a {p : Prop} {α : Type} {x r : α} (h : @gd p (Classical.propDecidable _) α (some x) = some r) : p ∧ x = r := by
  obtain ⟨h1, h2⟩ := @gd_some p (Classical.propDecidable _) _ _ _ h
  exact ⟨h1, Option.some.inj h2⟩
theorem z02e {α : Type} {l : List α} {i : Nat} (h : i < l.length) : getI l (i : Int) = some l[i] := by rw [z08t]; exact List.getElem?_eq_getElem h
theorem z1lo {α : Type} {l : List α} {z : α} {f : Nat → Int → List α → Option (List α)} (hl : l.length ≤ 1000000000)
    (h1 : ∀ (n i : Nat) (acc : List α) (hi : i < l.length), acc.length = l.length → f (n + 1) (i : Int) acc = f n ((i + 1 : Nat) : Int) (acc.set i l[i])) (h2 : ∀ (n : Nat) (acc : List α), f (n + 1) (l.length : Int) acc = some acc) :
    f FUEL 0 (List.replicate (l.length : Int).toNat z) = some l := by
  have key : ∀ (m k n : Nat), l.length - k = m → k ≤ l.length → m < n → f n (k : Int) (half z l k) = some l := by
    intro m
    induction m with
    | zero =>
      intro k n hm hk hn
      have e : k = l.length := by omega
      subst e
      cases n with
      | zero => omega
      | succ n => rw [h2, z23s (Nat.le_refl _)]
    | succ m ih =>
      intro k n hm hk hn
      cases n with
      | zero => omega
      | succ n =>
        have hk' : k < l.length := by omega
        rw [h1 n k _ hk' (z1tx hk), z23t hk']
        exact ih (k + 1) n (by omega) (by omega) (by omega)
  have := key l.length 0 FUEL (by omega) (by omega) (by have := z02j; omega)
  rw [z20q] at this
  simpa using this
theorem z1fu {α : Type} [DecidableEq α] {a b : List α} {f : Nat → Int → Option Bool} (hl : a.length ≤ 1000000000) (hab : a.length = b.length)
    (h1 : ∀ (n i : Nat) (hi : i < a.length) (hj : i < b.length), f (n + 1) (i : Int) = if decide (a[i] = b[i]) = true then f n ((i + 1 : Nat) : Int) else some false) (h2 : ∀ (n : Nat), f (n + 1) (a.length : Int) = some true) :
    f FUEL 0 = some (decide (a = b)) := by
  have key : ∀ (m k n : Nat), a.length - k = m → k ≤ a.length → m < n → f n (k : Int) = some (decide (a.drop k = b.drop k)) := by
    intro m
    induction m with
    | zero =>
      intro k n hm hk hn
      have e : k = a.length := by omega
      subst e
      cases n with
      | zero => omega
      | succ n => rw [h2, List.drop_eq_nil_of_le (Nat.le_refl _), List.drop_eq_nil_of_le (by omega)]; rfl
    | succ m ih =>
      intro k n hm hk hn
      cases n with
      | zero => omega
      | succ n =>
        have hk1 : k < a.length := by omega
        have hk2 : k < b.length := by omega
        rw [h1 n k hk1 hk2, List.drop_eq_getElem_cons hk1, List.drop_eq_getElem_cons hk2, ih (k + 1) n (by omega) (by omega) (by omega)]
        by_cases he : a[k] = b[k]
        · rw [if_pos (decide_eq_true he)]
          exact congrArg some (decide_eq_decide.2 ⟨fun h => by rw [he, h], fun h => (List.cons.inj h).2⟩)
        · rw [if_neg (fun hh => he (of_decide_eq_true hh))]
          exact congrArg some (decide_eq_false fun h => he (List.cons.inj h).1).symm
  have := key a.length 0 FUEL (by omega) (by omega) (by have := z02j; omega)
  simpa using this
theorem z27i {α : Type} {W : α → Nat} {l : List α} {f : Nat → Int → Int → Option Int} (hl : l.length ≤ 1000000000)
    (h1 : ∀ (n i : Nat) (left : Int) (hi : i < l.length), 0 ≤ left → left ≤ 1048576 → f (n + 1) left (i : Int) = if decide (szR left (W l[i]) < 0) = true then some (-1) else f n (szR left (W l[i])) ((i + 1 : Nat) : Int))
    (h2 : ∀ (n : Nat) (left : Int), f (n + 1) left (l.length : Int) = some left) {left : Int} (g1 : 0 ≤ left) (g2 : left ≤ 1048576) : f FUEL left 0 = some (szR left (sumW W l)) := by
  have key : ∀ (m k n : Nat) (left : Int), l.length - k = m → k ≤ l.length → m < n → 0 ≤ left → left ≤ 1048576 → f n left (k : Int) = some (szR left (sumW W (l.drop k))) := by
    intro m
    induction m with
    | zero =>
      intro k n left hm hk hn g1 g2
      have e : k = l.length := by omega
      subst e
      cases n with
      | zero => omega
      | succ n => rw [h2, z24y (Nat.le_refl _), z0wi (by omega)]; simp
    | succ m ih =>
      intro k n left hm hk hn g1 g2
      cases n with
      | zero => omega
      | succ n =>
        have hk1 : k < l.length := by omega
        rw [h1 n k left hk1 g1 g2, z21j hk1]
        by_cases hc : szR left (W l[k]) < 0
        · rw [if_pos (by simpa using hc)]
          have := z26l hc
          rw [z0qn (by omega)]
        · rw [if_neg (by simpa using hc)]
          obtain ⟨e1, e2⟩ := z21k hc
          rw [ih (k + 1) n _ (by omega) (by omega) (by omega) (by omega) (by omega), e2]
          by_cases h3 : (sumW W (l.drop (k + 1)) : Int) ≤ left - W l[k]
          · rw [z0wi h3, z0wi (by omega)]; congr 1; omega
          · rw [z0qn (by omega), z0qn (by omega)]
  have := key l.length 0 FUEL left (by omega) (by omega) (by have := z02j; omega) g1 g2
  simpa using this
theorem z0tk {m : Int} (h : 0 ≤ m) : some m = some (szR m 0) := by rw [z0wi (by omega)]; simp
theorem z0dx {left : Int} {w w' : Nat} {F : Int → Option Int} (g1 : 0 ≤ left) (g2 : left ≤ 1048576) (h : ∀ m, 0 ≤ m → m ≤ 1048576 → F m = some (szR m w')) :
    ((some (szR left w)).bind fun x => if decide (x < 0) = true then some (-1) else F x) = some (szR left (w + w')) := by
  rw [Option.bind_some]
  by_cases hc : szR left w < 0
  · have := z26l hc
    rw [if_pos (decide_eq_true hc), z0qn (by omega)]
  · obtain ⟨e1, e2⟩ := z21k hc
    rw [if_neg (by simpa using hc), h _ (by omega) (by omega), e2]
    by_cases h3 : (w' : Int) ≤ left - w
    · rw [z0wi h3, z0wi (by omega)]; congr 1; omega
    · rw [z0qn (by omega), z0qn (by omega)]
theorem z1sq {left : Int} {n : Nat} (g1 : 0 ≤ left) (g2 : left ≤ 1048576) (g3 : n ≤ 9223372036854775807) :
    gd (ok64 (left - (n : Int))) (if decide (left - (n : Int) < 0) = true then some (-1) else some (left - (n : Int))) = some (szR left n) := by
  rw [z001 (show ok64 _ from ⟨by omega, by omega⟩)]
  by_cases hc : left - (n : Int) < 0
  · rw [if_pos (decide_eq_true hc), z0qn (by omega)]
  · rw [if_neg (by simpa using hc), z0wi (by omega)]
theorem z1sr {α : Type} {W : α → Nat} {l : List α} {f : Nat → Int → Int → Option Int} {left : Int} (g1 : 0 ≤ left) (g2 : left ≤ 1048576) (g3 : l.length ≤ 9223372036854775807)
    (h1 : ∀ (n i : Nat) (left : Int) (hi : i < l.length), l.length ≤ 1048576 → 0 ≤ left → left ≤ 1048576 → f (n + 1) left (i : Int) = if decide (szR left (W l[i]) < 0) = true then some (-1) else f n (szR left (W l[i])) ((i + 1 : Nat) : Int))
    (h2 : ∀ (n : Nat) (left : Int), f (n + 1) left (l.length : Int) = some left) :
    gd (ok64 (left - (l.length : Int))) (if decide (left - (l.length : Int) < 0) = true then some (-1) else f FUEL (left - (l.length : Int)) 0) = some (szR left (l.length + sumW W l)) := by
  rw [z001 (show ok64 _ from ⟨by omega, by omega⟩)]
  by_cases hc : left - (l.length : Int) < 0
  · rw [if_pos (decide_eq_true hc), z0qn (by omega)]
  · rw [if_neg (by simpa using hc), z27i (by omega) (fun n i m hi => h1 n i m hi (by omega)) h2 (by omega) (by omega)]
    by_cases h3 : (sumW W l : Int) ≤ left - l.length
    · rw [z0wi h3, z0wi (by omega)]; congr 1; omega
    · rw [z0qn (by omega), z0qn (by omega)]
theorem z00h {p q : Prop} [Decidable p] [Decidable q] {F : Option Bool} (h : F = some (decide q)) : (if decide p = true then F else some false) = some (decide (p ∧ q)) := by
  by_cases hp : p
  · rw [if_pos (decide_eq_true hp), h]; exact congrArg some (decide_eq_decide.2 ⟨fun hq => ⟨hp, hq⟩, fun hq => hq.2⟩)
  · rw [if_neg (by simpa using hp)]; exact congrArg some (decide_eq_false fun hq => hp hq.1).symm
theorem z12i : some true = some (decide True) := rfl
theorem z1fv {α : Type} [DecidableEq α] {a b : List α} {F : Option Bool} (h : a.length = b.length → F = some (decide (a = b))) : (if decide ((a.length : Int) = (b.length : Int)) = true then F else some false) = some (decide (a = b)) := by
  by_cases hab : a.length = b.length
  · rw [if_pos (decide_eq_true (congrArg _ hab)), h hab]
  · rw [if_neg (by simpa using fun e => hab (by omega))]; exact congrArg some (decide_eq_false fun e => hab (by rw [e])).symm
theorem toOk {n : Nat} (h : n ≤ 1048576) : (0 : Int) ≤ (n : Int) ∧ (n : Int) ≤ (1000000000 : Int) := ⟨by omega, by omega⟩
theorem ok64i {i n : Nat} (h : i < n) (hn : n ≤ 1048576) : ok64 ((i : Int) + 1) := ⟨by omega, by omega⟩
end Go.Am
end
section
namespace Go.Am
open Go Go.Deep
def Here (w : World) : Blks := fun b => b < w.heap.size
def OpensAs (P : Program) (w : World) (t : TypeId) (k : Nat) {α : Type} (f : α → List Cell) (ok : α → Prop) : Prop :=
  ∀ (H : Type) (enc : TypeId × Value → H) (fuel : Nat) (cs : List Value) (x : DataW H × List MemPlace), DataW.trod enc P w 0 (fun _ => true) true fuel t cs = some x →
    cs.length = k ∧ ∃ a : α, ok a ∧ (f a).length = k ∧ ∀ (i : Nat) c v, (f a)[i]? = some c → cs[i]? = some v → Own w (Here w) noBlk c v
section
variable {P : Program} {w : World} {t e : TypeId}
def i64 (n : Int) : Prop := -9223372036854775808 ≤ n ∧ n ≤ 9223372036854775807
theorem z216 (ht : P.underlying t = some (.int .i64)) : OpensAs P w t 1 (fun n : Int => [cI n]) i64 := by
  intro H enc fuel cs x h
  obtain ⟨n, rfl, _, hw⟩ := DataW.trod_int ht h
  refine ⟨rfl, n, ?_, rfl, fun i c v h1 h2 => ?_⟩
  · simpa [Lit.wf, IntKind.min, IntKind.max, IntKind.signed, IntKind.bits, i64] using hw
  · cases i with
    | zero => simp at h1 h2; subst h1 h2; exact .lit _
    | succ i => simp at h1
theorem z04e {α : Type} [Inhabited α] {k : Nat} {f : α → List Cell} {ok : α → Prop} (ht : P.underlying t = some (.slice e)) (hc : P.cellsOf e = k) (hk : 0 < k) (E : OpensAs P w e k f ok) :
    OpensAs P w t 1 (fun l : List α => [.sl false k (l.map f)]) (fun l => l.length ≤ 9223372036854775807 ∧ ∀ y ∈ l, ok y) := by
  intro H enc fuel cs x h
  have one : ∀ {l : List α} {u : Value}, Own w (Here w) noBlk (.sl false k (l.map f)) u → ∀ (i : Nat) c v, ([Cell.sl false k (l.map f)])[i]? = some c → [u][i]? = some v → Own w (Here w) noBlk c v := by
    intro l u ho i c v h1 h2
    cases i with
    | zero => simp at h1 h2; subst h1 h2; exact ho
    | succ i => simp at h1
  rcases open_slice ht h with ⟨rfl, rfl⟩ | ⟨a, len, cap, m, n, D, Pl, rfl, _, hl, hmax, hm, _, hx⟩
  · exact ⟨rfl, [], ⟨by simp, by simp⟩, rfl, one (.nil _ _)⟩
  · have hm' : m = cap := by simpa using hm
    subst hm'
    have hmax' : m ≤ 9223372036854775807 := hmax
    refine ⟨rfl, ?_⟩
    by_cases h0 : m = 0
    · have hlen : len = 0 := by omega
      subst h0 hlen
      exact ⟨[], ⟨by simp, by simp⟩, rfl, one (.emp _ _)⟩
    · rw [hc] at hx
      have cell : ∀ i, i < m → ∀ cs', w.cells? 0 (a.add (i * k)) k = some cs' → ∀ j, j < k → w.cell? ((a.add (i * k)).add j) = cs'[j]? := fun i _ cs' h j hj => (World.cells?_some h).2.2 j hj
      have blk : ∃ c0 e0 fr, a.spot = none ∧ w.heap[a.block]? = some (.cells c0 e0 fr) := by
        obtain ⟨cs0, h1, _⟩ := hx 0 (by omega)
        have h2 := cell 0 (by omega) cs0 h1 0 hk
        have h3 : cs0.length = k := (World.cells?_some h1).2.1
        have h4 : cs0[0]? = some (cs0[0]'(by omega)) := by simp [show 0 < cs0.length by omega]
        rw [h4] at h2
        simp only [Nat.zero_mul, Addr.add, if_true, World.cell?] at h2
        cases hb : w.heap[a.block]? with
        | none => rw [hb] at h2; cases h2
        | some o =>
          rw [hb] at h2
          cases o with
          | cells c0 e0 fr =>
            simp only at h2
            cases hs : a.spot with
            | none => exact ⟨c0, e0, fr, rfl, rfl⟩
            | some s => rw [hs] at h2; simp at h2
          | _ => simp at h2
      obtain ⟨c0, e0, fr, hspot, hb⟩ := blk
      have hblt : a.block < w.heap.size := (Array.getElem?_eq_some_iff.1 hb).1
      have at_ : ∀ i j, w.cell? ((a.add (i * k)).add j) = c0[a.off + (i * k + j)]? := by
        intro i j
        rw [Go.Deep.add_add]
        have : a.add (i * k + j) = ⟨a.block, a.off + (i * k + j), none⟩ := by
          unfold Addr.add
          split
          · rename_i h; rw [h, ← hspot]; cases a; rfl
          · rfl
        rw [this]
        simp [World.cell?, hb]
      obtain ⟨A, hA⟩ := choose_lt (α := α) (n := m) (p := fun i y => ok y ∧ (f y).length = k ∧ a.off + (i * k + k) ≤ c0.size ∧ ∀ (j : Nat) c v, (f y)[j]? = some c → c0[a.off + (i * k + j)]? = some v → Own w (Here w) noBlk c v) (fun i hi => by
        obtain ⟨cs', h1, h2⟩ := hx i hi
        obtain ⟨e1, y, e2, e3, e4⟩ := E H enc n cs' _ h2
        have key : ∀ j, j < k → c0[a.off + (i * k + j)]? = cs'[j]? := fun j hj => by rw [← at_]; exact cell i hi cs' h1 j hj
        refine ⟨y, e2, e3, ?_, fun j c v h3 h4 => ?_⟩
        · have h5 := key (k - 1) (by omega)
          have h6 : cs'[k - 1]? = some (cs'[k - 1]'(by omega)) := by simp [show k - 1 < cs'.length by omega]
          rw [h6] at h5
          have := (Array.getElem?_eq_some_iff.1 h5).1
          omega
        · have hj : j < k := by have := (List.getElem?_eq_some_iff.1 h3).1; omega
          rw [key j hj] at h4
          exact e4 j c v h3 h4)
      let l := (List.range len).map A
      have hll : l.length = len := by simp [l]
      have hmem : ∀ y ∈ l, ∃ i, i < m ∧ A i = y := by
        intro y hy
        obtain ⟨i, hi, rfl⟩ := List.mem_map.1 hy
        exact ⟨i, by have := List.mem_range.1 hi; omega, rfl⟩
      refine ⟨l, ⟨by rw [hll]; omega, fun y hy => by obtain ⟨i, hi, rfl⟩ := hmem y hy; exact (hA i hi).1⟩, rfl, one ?_⟩
      have hrk : ∀ r ∈ l.map f, r.length = k := by
        intro r hr
        obtain ⟨y, hy, rfl⟩ := List.mem_map.1 hr
        obtain ⟨i, hi, rfl⟩ := hmem y hy
        exact (hA i hi).2.1
      have hsz : a.off + m * k ≤ c0.size := by
        have := (hA (m - 1) (by omega)).2.2.1
        have e : (m - 1) * k + k = m * k := by rw [← Nat.succ_mul]; congr 1; omega
        omega
      have hmul : len * k ≤ m * k := Nat.mul_le_mul_right _ hl
      have := Own.shr (w := w) (A := Here w) (F := noBlk) (k := k) (rows := l.map f) (b := a.block) (off := a.off) (cap := m) (c := c0) (e := e0) (fr := fr) hb hblt hrk (by simp [hll]; omega) (by simp [hll]; omega) (by
        intro i c v h1 h2
        have hi : i < len * k := by
          have := (List.getElem?_eq_some_iff.1 h1).1
          rw [z01s hrk] at this
          simpa [hll] using this
        have hdm : i = i / k * k + i % k := by rw [Nat.mul_comm]; exact (Nat.div_add_mod i k).symm
        have hmod : i % k < k := Nat.mod_lt _ hk
        have hdiv : i / k < len := Nat.div_lt_of_lt_mul (by rw [Nat.mul_comm]; exact hi)
        rw [hdm, List.flatten_getElem?_of_const hrk _ _ hmod] at h1
        have hrow : (l.map f)[i / k]? = some (f (A (i / k))) := by simp [l, hdiv]
        rw [hrow, Option.bind_some] at h1
        rw [hdm] at h2
        exact (hA (i / k) (by omega)).2.2.2 _ c v h1 h2)
      have ev : a = ⟨a.block, a.off, none⟩ := by rw [← hspot]
      rw [ev]
      simpa [hll] using this
end
end Go.Am
end
section
namespace Go.Am
open Go Go.ChangeShapes Go.WideShapes Go.RowKit
section
variable {H : Type} {enc : TypeId × Value → H} {P : Program} {W W' : World}
theorem Frame.sameAt (h : Frame noBlk W W') : ∀ p : MemPlace, p.block < W.heap.size → W.sameAt W' p
  | .cell b off, hb => by
    have := h.heap b hb (fun f => f)
    show W'.cell? _ = W.cell? _
    simp only [World.cell?, this]
  | .map b, hb => h.heap b hb (fun f => f)
theorem Frame.keptBut (h : Frame noBlk W W') (may : MemPlace → Prop) : W.keptBut W' may := by
  refine ⟨h.os, h.output, fun i hi => ?_⟩
  have := (World.keptBut_refl W may).2.2 i hi
  rw [h.heap i hi (fun f => f)]
  exact this
theorem z105 (hl : laidOutB P = true) (hF : Frame noBlk W W') : ∀ {ts : List TypeId} {vs : List Value} {ds : List (DataW H)} {ps : List MemPlace},
    DataW.TrodAll enc P W 0 (fun _ => true) true ts vs ds ps → (∀ t ∈ ts, P.readableRec t = true ∧ t < P.types.size) → (∀ p ∈ ps, p.block < W.heap.size) →
    DataW.TrodAll enc P W' 0 (fun b => decide (b < W.heap.size)) true ts vs ds ps
  | [], vs, ds, ps, h, _, _ => by
    cases vs <;> cases ds <;> simp [DataW.TrodAll] at h ⊢
    exact h
  | t :: ts, vs, ds, ps, h, hr, hp => by
    obtain ⟨v, vs', d, ds', p, q, rfl, rfl, rfl, h1, h2⟩ := trodAll_cons h
    refine ⟨p, q, ?_, z105 hl hF h2 (fun t ht => hr t (by simp [ht])) (fun x hx => hp x (by simp [hx])), rfl⟩
    exact WideElems.Trod_stays hl (hr t (by simp)).1 (hr t (by simp)).2 h1 (fun x hx => hF.sameAt x (hp x (by simp [hx]))) (fun x hx => by simpa using hp x (by simp [hx]))
theorem z241 {f : Func} {s : ChangeSpec} {args : Array Value} {ds gs : List (DataW H)} {before : List MemPlace} {tb : TypeId} (hW : DataW.Whole enc P f.params.toList s.vars false W args.toList ds gs before) (hv : s.vars = [])
    (hF : Frame noBlk W W') (hr : f.resultTypes = #[tb]) (hb : P.underlying tb = some .bool) (hl : laidOutB P = true) (hrd : ∀ t ∈ f.params.toList, P.readableRec t = true ∧ t < P.types.size)
    (hs : s.fn H ds = { results := [.lit (.bool true)], args := ds }) : s.post enc P f false true false false W args (.bool true) W' := by
  have hlt := hW.lt
  have hW2 := hW
  obtain ⟨p, q, hA, hV, hp, _, _⟩ := hW
  rw [hv] at hV
  have hgq : gs = [] ∧ q = [] := by cases gs <;> simp [DataW.TrodVars] at hV ⊢; exact hV
  obtain ⟨rfl, rfl⟩ := hgq
  have hpb : before = p := by simpa using hp
  subst hpb
  refine ⟨ds, [], before, [], before, [], hW2, ?_, ?_, ?_, hF.keptBut _, fun h => by cases h⟩
  · rw [hr, List.append_nil, hs]
    exact trodAll_mk1 (shut_bool hb _)
  · rw [List.append_nil, hs]
    exact z105 hl hF hA hrd hlt
  · rw [List.append_nil, hs, hv]
    rfl
theorem z20u {fid : FuncId} {xs : List Arg} {vs : List Value} (hF : FnP P fid xs [.c (cB true)]) (ha : ArgsSim W (Here W) noBlk xs vs) : Calls P fid vs.toArray W fun e W' => e = .returned (.bool true) ∧ Frame noBlk W W' := by
  have := hF W (Here W) noBlk vs ⟨fun _ h => h, fun _ f => f.elim, fun _ _ f => f⟩ ha
  refine this.mono ?_
  rintro e W' ⟨res, rvs, back, F', rfl, ⟨rfl, rfl⟩, hfr, _, _, hlen, G, g1, g2, g3, g4⟩
  refine ⟨?_, hfr⟩
  match rvs, hlen with
  | [v], _ =>
    have := g4 0 (.c (cB true)) v rfl rfl
    cases this with
    | c ho => cases ho; rfl
theorem z1wk {xs : List Arg} {vs : List Value} (hl : vs.length = xs.length) (h : ∀ (i : Nat) x v, xs[i]? = some x → vs[i]? = some v → ArgSim W (Here W) noBlk x v) : ArgsSim W (Here W) noBlk xs vs :=
  ⟨fun _ => noBlk, hl, fun _ _ f => f, fun _ _ _ _ f => f.elim, h⟩
theorem z23a : ArgsSim W (Here W) noBlk [] [] := z1wk rfl fun i x v h => by simp at h
theorem z1rd {x : Arg} {xs : List Arg} {v : Value} {vs : List Value} (h : ArgSim W (Here W) noBlk x v) (t : ArgsSim W (Here W) noBlk xs vs) : ArgsSim W (Here W) noBlk (x :: xs) (v :: vs) := by
  obtain ⟨G, h1, h2, h3, h4⟩ := t
  refine z1wk (by simp [h1]) fun i y u g1 g2 => ?_
  cases i with
  | zero => simp at g1 g2; subst g1 g2; exact h
  | succ i => exact (h4 i y u (by simpa using g1) (by simpa using g2)).mono (fun _ h => h) (h2 i)
theorem z1sa {base : Nat} {t : TypeId} {fs : Array Field} {v : Value} (ht : P.underlying t = some (.struct fs)) (h : Value.okWide P W .any base t v) : ∃ cs, v = .agg cs := by
  unfold Value.okWide at h
  simp only [ht] at h
  obtain ⟨cs, rfl, _⟩ := h
  exact ⟨cs, rfl⟩
theorem OpensAs.row {α : Type} {k : Nat} {t : TypeId} {f : α → List Cell} {ok : α → Prop} (h : OpensAs P W t k f ok) {cs : Array Value} {d : DataW H} {ps : List MemPlace}
    (hd : DataW.Trod enc P W 0 (fun _ => true) true t (.agg cs) d ps) : ∃ a, ok a ∧ ArgSim W (Here W) noBlk (.row (f a)) (.agg cs) := by
  obtain ⟨fuel, hx⟩ := hd
  obtain ⟨h0, a, h1, h2, h3⟩ := h H enc fuel _ _ hx
  exact ⟨a, h1, .row (G := fun _ => noBlk) (by rw [h2, ← h0]; simp [Value.cells]) (fun _ _ f => f) (fun _ _ _ _ f => f.elim) fun i c v g1 g2 => h3 i c v g1 (by simpa [Value.cells] using g2)⟩
theorem OpensAs.cell {α : Type} {t : TypeId} {f : α → Cell} {ok : α → Prop} (h : OpensAs P W t 1 (fun a => [f a]) ok) {v : Value} {d : DataW H} {ps : List MemPlace} (hv : v.cells = #[v])
    (hd : DataW.Trod enc P W 0 (fun _ => true) true t v d ps) : ∃ a, ok a ∧ ArgSim W (Here W) noBlk (.c (f a)) v := by
  obtain ⟨fuel, hx⟩ := hd
  rw [hv] at hx
  obtain ⟨_, a, h1, _, h2⟩ := h H enc fuel _ _ hx
  exact ⟨a, h1, .c (h2 0 _ _ rfl rfl)⟩
end
end Go.Am
end
section
set_option maxRecDepth 100000
namespace Go.Am
open Go Go.Proofs
section
variable {w : World}
def CellsAt (w : World) (cs : List Value) (off : Nat) (xs : List Cell) : Prop := ∀ (j : Nat) c v, xs[j]? = some c → cs[off + j]? = some v → Own w (Here w) noBlk c v
theorem CellsAt.nil {cs : List Value} {off : Nat} : CellsAt w cs off [] := fun j c v h => by simp at h
theorem CellsAt.append {cs : List Value} {off off' : Nat} {xs ys : List Cell} (h1 : CellsAt w cs off xs) (he : off + xs.length = off') (h2 : CellsAt w cs off' ys) : CellsAt w cs off (xs ++ ys) := by
  intro j c v h3 h4
  by_cases hj : j < xs.length
  · rw [List.getElem?_append_left hj] at h3; exact h1 j c v h3 h4
  · rw [List.getElem?_append_right (by omega)] at h3
    refine h2 (j - xs.length) c v h3 ?_
    rw [← he, ← h4]; congr 1; omega
theorem CellsAt.fin {cs : List Value} {xs : List Cell} (h : CellsAt w cs 0 xs) : ∀ (i : Nat) c v, xs[i]? = some c → cs[i]? = some v → Own w (Here w) noBlk c v := fun i c v h1 h2 => h i c v h1 (by simpa using h2)
theorem z004 {P : Program} {H : Type} {enc : TypeId × Value → H} {α : Type} {f : α → List Cell} {ok : α → Prop} {fs : Array Field} {xs : List (DataW H × List MemPlace)} {n : Nat} {cs : List Value} {i ft off m : Nat}
    (hxs : xs.length = fs.size) (hf : ∀ (i : Nat) (f : Field), fs[i]? = some f → DataW.trod enc P w 0 (fun _ => true) true n f.type ((cs.drop f.offset).take (P.cellsOf f.type)) = xs[i]?)
    (h : (fs[i]?).map (fun z => (z.type, z.offset)) = some (ft, off)) (hm : P.cellsOf ft = m) (E : OpensAs P w ft m f ok) : ∃ a, ok a ∧ (f a).length = m ∧ CellsAt w cs off (f a) := by
  obtain ⟨fld, h1, rfl, rfl⟩ := z1cp h
  have h2 := hf i fld h1
  have hlt : i < xs.length := by rw [hxs]; exact (Array.getElem?_eq_some_iff.1 h1).1
  rw [List.getElem?_eq_getElem hlt, hm] at h2
  obtain ⟨e1, a, e2, e3, e4⟩ := E H enc n _ _ h2
  refine ⟨a, e2, e3, fun j c v g1 g2 => e4 j c v g1 ?_⟩
  have hj : j < m := by have := (List.getElem?_eq_some_iff.1 g1).1; omega
  rw [List.getElem?_take, if_pos hj, List.getElem?_drop]; exact g2
end
theorem o_int (w : World) : OpensAs Tryz.prog w 3 1 (fun n : Int => [cI n]) i64 := z216 Tryz.underlying3
theorem z1ph (w : World) : OpensAs Tryz.prog w 23 1 (fun l : List Int => [cIs false l]) (fun l => l.length ≤ 9223372036854775807 ∧ ∀ y ∈ l, i64 y) := z04e (f := fun n : Int => [cI n]) Tryz.underlying23 (by kernel_rfl) (by decide) (o_int w)
def GAsk.ok (x : GAsk) : Prop := i64 x.op ∧ i64 x.var ∧ i64 x.k
instance : Inhabited GAsk := ⟨GAsk.zero⟩
def GFlow.ok (x : GFlow) : Prop := i64 x.to ∧ GAsk.ok x.if_
instance : Inhabited GFlow := ⟨GFlow.zero⟩
def GTask.ok (x : GTask) : Prop := i64 x.join ∧ i64 x.split ∧ (x.in_.length ≤ 9223372036854775807 ∧ ∀ y ∈ x.in_, i64 y) ∧ (x.out.length ≤ 9223372036854775807 ∧ ∀ y ∈ x.out, GFlow.ok y) ∧ (x.clear.length ≤ 9223372036854775807 ∧ ∀ y ∈ x.clear, i64 y) ∧ i64 x.role ∧ i64 x.apart ∧ i64 x.all ∧ i64 x.need
instance : Inhabited GTask := ⟨GTask.zero⟩
def GNet.ok (x : GNet) : Prop := i64 x.places ∧ (x.tasks.length ≤ 9223372036854775807 ∧ ∀ y ∈ x.tasks, GTask.ok y)
instance : Inhabited GNet := ⟨GNet.zero⟩
def GItem.ok (x : GItem) : Prop := i64 x.task ∧ i64 x.who ∧ i64 x.did
instance : Inhabited GItem := ⟨GItem.zero⟩
def GDid.ok (x : GDid) : Prop := i64 x.task ∧ i64 x.who
instance : Inhabited GDid := ⟨GDid.zero⟩
def GCase.ok (x : GCase) : Prop := i64 x.state ∧ (x.marks.length ≤ 9223372036854775807 ∧ ∀ y ∈ x.marks, i64 y) ∧ (x.busy.length ≤ 9223372036854775807 ∧ ∀ y ∈ x.busy, GItem.ok y) ∧ (x.data.length ≤ 9223372036854775807 ∧ ∀ y ∈ x.data, i64 y) ∧ (x.did.length ≤ 9223372036854775807 ∧ ∀ y ∈ x.did, GDid.ok y)
instance : Inhabited GCase := ⟨GCase.zero⟩
def GNode.ok (x : GNode) : Prop := GAsk.ok x.if_ ∧ i64 x.yes ∧ i64 x.no ∧ i64 x.ans ∧ (x.stone.length ≤ 9223372036854775807 ∧ ∀ y ∈ x.stone, i64 y)
instance : Inhabited GNode := ⟨GNode.zero⟩
def GRun.ok (x : GRun) : Prop := i64 x.net ∧ GCase.ok x.case
instance : Inhabited GRun := ⟨GRun.zero⟩
def GHouse.ok (x : GHouse) : Prop := (x.nets.length ≤ 9223372036854775807 ∧ ∀ y ∈ x.nets, GNet.ok y) ∧ (x.people.length ≤ 9223372036854775807 ∧ ∀ y ∈ x.people, i64 y) ∧ (x.tree.length ≤ 9223372036854775807 ∧ ∀ y ∈ x.tree, GNode.ok y) ∧ (x.runs.length ≤ 9223372036854775807 ∧ ∀ y ∈ x.runs, GRun.ok y)
instance : Inhabited GHouse := ⟨GHouse.zero⟩
def GReq.ok (x : GReq) : Prop := i64 x.kind ∧ i64 x.who ∧ i64 x.case ∧ i64 x.task ∧ i64 x.var ∧ i64 x.num ∧ (x.data.length ≤ 9223372036854775807 ∧ ∀ y ∈ x.data, i64 y) ∧ GAsk.ok x.if_ ∧ i64 x.ans
instance : Inhabited GReq := ⟨GReq.zero⟩
theorem o_GAsk (w : World) : OpensAs Tryz.prog w 29 3 (GAsk.cells false) GAsk.ok := by intro H enc fuel cs x h; obtain ⟨xs, n, _, _, hl, hxs, hf⟩ := DataW.trod_struct Tryz.underlying29 h; obtain ⟨a0, k0, l0, c0⟩ := z004 (i := 0) (ft := 3) (off := 0) hxs hf rfl (by kernel_rfl) (o_int w); obtain ⟨a1, k1, l1, c1⟩ := z004 (i := 1) (ft := 3) (off := 1) hxs hf rfl (by kernel_rfl) (o_int w); obtain ⟨a2, k2, l2, c2⟩ := z004 (i := 2) (ft := 3) (off := 2) hxs hf rfl (by kernel_rfl) (o_int w); exact ⟨(by rw [hl]; kernel_rfl), ⟨a0, a1, a2⟩, ⟨k0, k1, k2⟩, rfl, CellsAt.fin (CellsAt.append c0 (by rw [l0]) (CellsAt.append c1 (by rw [l1]) (CellsAt.append c2 (by rw [l2]) CellsAt.nil)))⟩
theorem o_GFlow (w : World) : OpensAs Tryz.prog w 244 4 (GFlow.cells false) GFlow.ok := by intro H enc fuel cs x h; obtain ⟨xs, n, _, _, hl, hxs, hf⟩ := DataW.trod_struct Tryz.underlying244 h; obtain ⟨a0, k0, l0, c0⟩ := z004 (i := 0) (ft := 3) (off := 0) hxs hf rfl (by kernel_rfl) (o_int w); obtain ⟨a1, k1, l1, c1⟩ := z004 (i := 1) (ft := 29) (off := 1) hxs hf rfl (by kernel_rfl) (o_GAsk w); exact ⟨(by rw [hl]; kernel_rfl), ⟨a0, a1⟩, ⟨k0, k1⟩, rfl, CellsAt.fin (CellsAt.append c0 (by rw [l0]) (CellsAt.append c1 (by rw [l1]) CellsAt.nil))⟩
theorem o_GFlowS (w : World) : OpensAs Tryz.prog w 192 1 (fun l : List GFlow => [.sl false 4 (l.map (GFlow.cells false))]) (fun l => l.length ≤ 9223372036854775807 ∧ ∀ y ∈ l, GFlow.ok y) := z04e Tryz.underlying192 (by kernel_rfl) (by decide) (o_GFlow w)
theorem o_GTask (w : World) : OpensAs Tryz.prog w 194 9 (GTask.cells false) GTask.ok := by intro H enc fuel cs x h; obtain ⟨xs, n, _, _, hl, hxs, hf⟩ := DataW.trod_struct Tryz.underlying194 h; obtain ⟨a0, k0, l0, c0⟩ := z004 (i := 0) (ft := 3) (off := 0) hxs hf rfl (by kernel_rfl) (o_int w); obtain ⟨a1, k1, l1, c1⟩ := z004 (i := 1) (ft := 3) (off := 1) hxs hf rfl (by kernel_rfl) (o_int w); obtain ⟨a2, k2, l2, c2⟩ := z004 (i := 2) (ft := 23) (off := 2) hxs hf rfl (by kernel_rfl) (z1ph w); obtain ⟨a3, k3, l3, c3⟩ := z004 (i := 3) (ft := 192) (off := 3) hxs hf rfl (by kernel_rfl) (o_GFlowS w); obtain ⟨a4, k4, l4, c4⟩ := z004 (i := 4) (ft := 23) (off := 4) hxs hf rfl (by kernel_rfl) (z1ph w); obtain ⟨a5, k5, l5, c5⟩ := z004 (i := 5) (ft := 3) (off := 5) hxs hf rfl (by kernel_rfl) (o_int w); obtain ⟨a6, k6, l6, c6⟩ := z004 (i := 6) (ft := 3) (off := 6) hxs hf rfl (by kernel_rfl) (o_int w); obtain ⟨a7, k7, l7, c7⟩ := z004 (i := 7) (ft := 3) (off := 7) hxs hf rfl (by kernel_rfl) (o_int w); obtain ⟨a8, k8, l8, c8⟩ := z004 (i := 8) (ft := 3) (off := 8) hxs hf rfl (by kernel_rfl) (o_int w); exact ⟨(by rw [hl]; kernel_rfl), ⟨a0, a1, a2, a3, a4, a5, a6, a7, a8⟩, ⟨k0, k1, k2, k3, k4, k5, k6, k7, k8⟩, rfl, CellsAt.fin (CellsAt.append c0 (by rw [l0]) (CellsAt.append c1 (by rw [l1]) (CellsAt.append c2 (by rw [l2]) (CellsAt.append c3 (by rw [l3]) (CellsAt.append c4 (by rw [l4]) (CellsAt.append c5 (by rw [l5]) (CellsAt.append c6 (by rw [l6]) (CellsAt.append c7 (by rw [l7]) (CellsAt.append c8 (by rw [l8]) CellsAt.nil)))))))))⟩
theorem o_GTaskS (w : World) : OpensAs Tryz.prog w 64 1 (fun l : List GTask => [.sl false 9 (l.map (GTask.cells false))]) (fun l => l.length ≤ 9223372036854775807 ∧ ∀ y ∈ l, GTask.ok y) := z04e Tryz.underlying64 (by kernel_rfl) (by decide) (o_GTask w)
theorem o_GNet (w : World) : OpensAs Tryz.prog w 66 2 (GNet.cells false) GNet.ok := by intro H enc fuel cs x h; obtain ⟨xs, n, _, _, hl, hxs, hf⟩ := DataW.trod_struct Tryz.underlying66 h; obtain ⟨a0, k0, l0, c0⟩ := z004 (i := 0) (ft := 3) (off := 0) hxs hf rfl (by kernel_rfl) (o_int w); obtain ⟨a1, k1, l1, c1⟩ := z004 (i := 1) (ft := 64) (off := 1) hxs hf rfl (by kernel_rfl) (o_GTaskS w); exact ⟨(by rw [hl]; kernel_rfl), ⟨a0, a1⟩, ⟨k0, k1⟩, rfl, CellsAt.fin (CellsAt.append c0 (by rw [l0]) (CellsAt.append c1 (by rw [l1]) CellsAt.nil))⟩
theorem o_GNetS (w : World) : OpensAs Tryz.prog w 22 1 (fun l : List GNet => [.sl false 2 (l.map (GNet.cells false))]) (fun l => l.length ≤ 9223372036854775807 ∧ ∀ y ∈ l, GNet.ok y) := z04e Tryz.underlying22 (by kernel_rfl) (by decide) (o_GNet w)
theorem o_GItem (w : World) : OpensAs Tryz.prog w 199 3 (GItem.cells false) GItem.ok := by intro H enc fuel cs x h; obtain ⟨xs, n, _, _, hl, hxs, hf⟩ := DataW.trod_struct Tryz.underlying199 h; obtain ⟨a0, k0, l0, c0⟩ := z004 (i := 0) (ft := 3) (off := 0) hxs hf rfl (by kernel_rfl) (o_int w); obtain ⟨a1, k1, l1, c1⟩ := z004 (i := 1) (ft := 3) (off := 1) hxs hf rfl (by kernel_rfl) (o_int w); obtain ⟨a2, k2, l2, c2⟩ := z004 (i := 2) (ft := 3) (off := 2) hxs hf rfl (by kernel_rfl) (o_int w); exact ⟨(by rw [hl]; kernel_rfl), ⟨a0, a1, a2⟩, ⟨k0, k1, k2⟩, rfl, CellsAt.fin (CellsAt.append c0 (by rw [l0]) (CellsAt.append c1 (by rw [l1]) (CellsAt.append c2 (by rw [l2]) CellsAt.nil)))⟩
theorem o_GItemS (w : World) : OpensAs Tryz.prog w 67 1 (fun l : List GItem => [.sl false 3 (l.map (GItem.cells false))]) (fun l => l.length ≤ 9223372036854775807 ∧ ∀ y ∈ l, GItem.ok y) := z04e Tryz.underlying67 (by kernel_rfl) (by decide) (o_GItem w)
theorem o_GDid (w : World) : OpensAs Tryz.prog w 201 2 (GDid.cells false) GDid.ok := by intro H enc fuel cs x h; obtain ⟨xs, n, _, _, hl, hxs, hf⟩ := DataW.trod_struct Tryz.underlying201 h; obtain ⟨a0, k0, l0, c0⟩ := z004 (i := 0) (ft := 3) (off := 0) hxs hf rfl (by kernel_rfl) (o_int w); obtain ⟨a1, k1, l1, c1⟩ := z004 (i := 1) (ft := 3) (off := 1) hxs hf rfl (by kernel_rfl) (o_int w); exact ⟨(by rw [hl]; kernel_rfl), ⟨a0, a1⟩, ⟨k0, k1⟩, rfl, CellsAt.fin (CellsAt.append c0 (by rw [l0]) (CellsAt.append c1 (by rw [l1]) CellsAt.nil))⟩
theorem o_GDidS (w : World) : OpensAs Tryz.prog w 68 1 (fun l : List GDid => [.sl false 2 (l.map (GDid.cells false))]) (fun l => l.length ≤ 9223372036854775807 ∧ ∀ y ∈ l, GDid.ok y) := z04e Tryz.underlying68 (by kernel_rfl) (by decide) (o_GDid w)
theorem o_GCase (w : World) : OpensAs Tryz.prog w 70 5 (GCase.cells false) GCase.ok := by intro H enc fuel cs x h; obtain ⟨xs, n, _, _, hl, hxs, hf⟩ := DataW.trod_struct Tryz.underlying70 h; obtain ⟨a0, k0, l0, c0⟩ := z004 (i := 0) (ft := 3) (off := 0) hxs hf rfl (by kernel_rfl) (o_int w); obtain ⟨a1, k1, l1, c1⟩ := z004 (i := 1) (ft := 23) (off := 1) hxs hf rfl (by kernel_rfl) (z1ph w); obtain ⟨a2, k2, l2, c2⟩ := z004 (i := 2) (ft := 67) (off := 2) hxs hf rfl (by kernel_rfl) (o_GItemS w); obtain ⟨a3, k3, l3, c3⟩ := z004 (i := 3) (ft := 23) (off := 3) hxs hf rfl (by kernel_rfl) (z1ph w); obtain ⟨a4, k4, l4, c4⟩ := z004 (i := 4) (ft := 68) (off := 4) hxs hf rfl (by kernel_rfl) (o_GDidS w); exact ⟨(by rw [hl]; kernel_rfl), ⟨a0, a1, a2, a3, a4⟩, ⟨k0, k1, k2, k3, k4⟩, rfl, CellsAt.fin (CellsAt.append c0 (by rw [l0]) (CellsAt.append c1 (by rw [l1]) (CellsAt.append c2 (by rw [l2]) (CellsAt.append c3 (by rw [l3]) (CellsAt.append c4 (by rw [l4]) CellsAt.nil)))))⟩
theorem o_GNode (w : World) : OpensAs Tryz.prog w 157 7 (GNode.cells false) GNode.ok := by intro H enc fuel cs x h; obtain ⟨xs, n, _, _, hl, hxs, hf⟩ := DataW.trod_struct Tryz.underlying157 h; obtain ⟨a0, k0, l0, c0⟩ := z004 (i := 0) (ft := 29) (off := 0) hxs hf rfl (by kernel_rfl) (o_GAsk w); obtain ⟨a1, k1, l1, c1⟩ := z004 (i := 1) (ft := 3) (off := 3) hxs hf rfl (by kernel_rfl) (o_int w); obtain ⟨a2, k2, l2, c2⟩ := z004 (i := 2) (ft := 3) (off := 4) hxs hf rfl (by kernel_rfl) (o_int w); obtain ⟨a3, k3, l3, c3⟩ := z004 (i := 3) (ft := 3) (off := 5) hxs hf rfl (by kernel_rfl) (o_int w); obtain ⟨a4, k4, l4, c4⟩ := z004 (i := 4) (ft := 23) (off := 6) hxs hf rfl (by kernel_rfl) (z1ph w); exact ⟨(by rw [hl]; kernel_rfl), ⟨a0, a1, a2, a3, a4⟩, ⟨k0, k1, k2, k3, k4⟩, rfl, CellsAt.fin (CellsAt.append c0 (by rw [l0]) (CellsAt.append c1 (by rw [l1]) (CellsAt.append c2 (by rw [l2]) (CellsAt.append c3 (by rw [l3]) (CellsAt.append c4 (by rw [l4]) CellsAt.nil)))))⟩
theorem o_GNodeS (w : World) : OpensAs Tryz.prog w 24 1 (fun l : List GNode => [.sl false 7 (l.map (GNode.cells false))]) (fun l => l.length ≤ 9223372036854775807 ∧ ∀ y ∈ l, GNode.ok y) := z04e Tryz.underlying24 (by kernel_rfl) (by decide) (o_GNode w)
theorem o_GRun (w : World) : OpensAs Tryz.prog w 160 6 (GRun.cells false) GRun.ok := by intro H enc fuel cs x h; obtain ⟨xs, n, _, _, hl, hxs, hf⟩ := DataW.trod_struct Tryz.underlying160 h; obtain ⟨a0, k0, l0, c0⟩ := z004 (i := 0) (ft := 3) (off := 0) hxs hf rfl (by kernel_rfl) (o_int w); obtain ⟨a1, k1, l1, c1⟩ := z004 (i := 1) (ft := 70) (off := 1) hxs hf rfl (by kernel_rfl) (o_GCase w); exact ⟨(by rw [hl]; kernel_rfl), ⟨a0, a1⟩, ⟨k0, k1⟩, rfl, CellsAt.fin (CellsAt.append c0 (by rw [l0]) (CellsAt.append c1 (by rw [l1]) CellsAt.nil))⟩
theorem o_GRunS (w : World) : OpensAs Tryz.prog w 25 1 (fun l : List GRun => [.sl false 6 (l.map (GRun.cells false))]) (fun l => l.length ≤ 9223372036854775807 ∧ ∀ y ∈ l, GRun.ok y) := z04e Tryz.underlying25 (by kernel_rfl) (by decide) (o_GRun w)
theorem o_GHouse (w : World) : OpensAs Tryz.prog w 27 4 (GHouse.cells false) GHouse.ok := by intro H enc fuel cs x h; obtain ⟨xs, n, _, _, hl, hxs, hf⟩ := DataW.trod_struct Tryz.underlying27 h; obtain ⟨a0, k0, l0, c0⟩ := z004 (i := 0) (ft := 22) (off := 0) hxs hf rfl (by kernel_rfl) (o_GNetS w); obtain ⟨a1, k1, l1, c1⟩ := z004 (i := 1) (ft := 23) (off := 1) hxs hf rfl (by kernel_rfl) (z1ph w); obtain ⟨a2, k2, l2, c2⟩ := z004 (i := 2) (ft := 24) (off := 2) hxs hf rfl (by kernel_rfl) (o_GNodeS w); obtain ⟨a3, k3, l3, c3⟩ := z004 (i := 3) (ft := 25) (off := 3) hxs hf rfl (by kernel_rfl) (o_GRunS w); exact ⟨(by rw [hl]; kernel_rfl), ⟨a0, a1, a2, a3⟩, ⟨k0, k1, k2, k3⟩, rfl, CellsAt.fin (CellsAt.append c0 (by rw [l0]) (CellsAt.append c1 (by rw [l1]) (CellsAt.append c2 (by rw [l2]) (CellsAt.append c3 (by rw [l3]) CellsAt.nil))))⟩
theorem o_GReq (w : World) : OpensAs Tryz.prog w 31 11 (GReq.cells false) GReq.ok := by intro H enc fuel cs x h; obtain ⟨xs, n, _, _, hl, hxs, hf⟩ := DataW.trod_struct Tryz.underlying31 h; obtain ⟨a0, k0, l0, c0⟩ := z004 (i := 0) (ft := 3) (off := 0) hxs hf rfl (by kernel_rfl) (o_int w); obtain ⟨a1, k1, l1, c1⟩ := z004 (i := 1) (ft := 3) (off := 1) hxs hf rfl (by kernel_rfl) (o_int w); obtain ⟨a2, k2, l2, c2⟩ := z004 (i := 2) (ft := 3) (off := 2) hxs hf rfl (by kernel_rfl) (o_int w); obtain ⟨a3, k3, l3, c3⟩ := z004 (i := 3) (ft := 3) (off := 3) hxs hf rfl (by kernel_rfl) (o_int w); obtain ⟨a4, k4, l4, c4⟩ := z004 (i := 4) (ft := 3) (off := 4) hxs hf rfl (by kernel_rfl) (o_int w); obtain ⟨a5, k5, l5, c5⟩ := z004 (i := 5) (ft := 3) (off := 5) hxs hf rfl (by kernel_rfl) (o_int w); obtain ⟨a6, k6, l6, c6⟩ := z004 (i := 6) (ft := 23) (off := 6) hxs hf rfl (by kernel_rfl) (z1ph w); obtain ⟨a7, k7, l7, c7⟩ := z004 (i := 7) (ft := 29) (off := 7) hxs hf rfl (by kernel_rfl) (o_GAsk w); obtain ⟨a8, k8, l8, c8⟩ := z004 (i := 8) (ft := 3) (off := 10) hxs hf rfl (by kernel_rfl) (o_int w); exact ⟨(by rw [hl]; kernel_rfl), ⟨a0, a1, a2, a3, a4, a5, a6, a7, a8⟩, ⟨k0, k1, k2, k3, k4, k5, k6, k7, k8⟩, rfl, CellsAt.fin (CellsAt.append c0 (by rw [l0]) (CellsAt.append c1 (by rw [l1]) (CellsAt.append c2 (by rw [l2]) (CellsAt.append c3 (by rw [l3]) (CellsAt.append c4 (by rw [l4]) (CellsAt.append c5 (by rw [l5]) (CellsAt.append c6 (by rw [l6]) (CellsAt.append c7 (by rw [l7]) (CellsAt.append c8 (by rw [l8]) CellsAt.nil)))))))))⟩
theorem o_GReqS (w : World) : OpensAs Tryz.prog w 51 1 (fun l : List GReq => [.sl false 11 (l.map (GReq.cells false))]) (fun l => l.length ≤ 9223372036854775807 ∧ ∀ y ∈ l, GReq.ok y) := z04e Tryz.underlying51 (by kernel_rfl) (by decide) (o_GReq w)
theorem GTask.ok_lens {x : GTask} (h : GTask.ok x) : GTask.lens (· ≤ 9223372036854775807) x := ⟨h.2.2.1.1, h.2.2.2.1.1, h.2.2.2.2.1.1⟩
theorem GNet.ok_lens {x : GNet} (h : GNet.ok x) : GNet.lens (· ≤ 9223372036854775807) x := ⟨h.2.1, fun y hy => GTask.ok_lens (h.2.2 y hy)⟩
theorem GCase.ok_lens {x : GCase} (h : GCase.ok x) : GCase.lens (· ≤ 9223372036854775807) x := ⟨h.2.1.1, h.2.2.1.1, h.2.2.2.1.1, h.2.2.2.2.1⟩
theorem GNode.ok_lens {x : GNode} (h : GNode.ok x) : GNode.lens (· ≤ 9223372036854775807) x := h.2.2.2.2.1
theorem GRun.ok_lens {x : GRun} (h : GRun.ok x) : GRun.lens (· ≤ 9223372036854775807) x := GCase.ok_lens h.2
theorem GHouse.ok_lens {x : GHouse} (h : GHouse.ok x) : GHouse.lens (· ≤ 9223372036854775807) x := ⟨⟨h.1.1, fun y hy => GNet.ok_lens (h.1.2 y hy)⟩, h.2.1.1, ⟨h.2.2.1.1, fun y hy => GNode.ok_lens (h.2.2.1.2 y hy)⟩, ⟨h.2.2.2.1, fun y hy => GRun.ok_lens (h.2.2.2.2 y hy)⟩⟩
theorem GReq.ok_lens {x : GReq} (h : GReq.ok x) : GReq.lens (· ≤ 9223372036854775807) x := h.2.2.2.2.2.2.1.1
end Go.Am
end
