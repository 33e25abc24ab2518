/- Weights, bounds, zeros of the data. Printed by measure.py. Own work. -/
import Derived.Test.YtcbpckbehdaloaaAmQ
set_option linter.unusedSimpArgs false
set_option linter.unusedVariables false
namespace Go.Am
open Go

def sumW {α : Type} (f : α → Nat) (l : List α) : Nat := (l.map f).sum
theorem sumW_drop {α : Type} {f : α → Nat} {l : List α} {k : Nat} (h : k < l.length) : sumW f (l.drop k) = f l[k] + sumW f (l.drop (k + 1)) := by
  rw [List.drop_eq_getElem_cons h]; simp only [sumW, List.map_cons, List.sum_cons]
theorem sumW_end {α : Type} {f : α → Nat} {l : List α} {k : Nat} (h : l.length ≤ k) : sumW f (l.drop k) = 0 := by
  rw [List.drop_eq_nil_of_le h]; rfl
theorem sumW_mem {α : Type} {f : α → Nat} {l : List α} {x : α} (h : x ∈ l) : f x ≤ sumW f l := by
  induction l with
  | nil => simp at h
  | cons y l ih =>
    simp only [sumW, List.map_cons, List.sum_cons] at ih ⊢
    rcases List.mem_cons.1 h with rfl | h
    · omega
    · have := ih h; omega

/-- What is left of a bound. -/
def szR (left : Int) (w : Nat) : Int := if (w : Int) ≤ left then left - w else -1
theorem szR_pos {left : Int} {w : Nat} (h : (w : Int) ≤ left) : szR left w = left - w := if_pos h
theorem szR_neg {left : Int} {w : Nat} (h : left < w) : szR left w = -1 := if_neg (by omega)
theorem szR_lt {left : Int} {w : Nat} (h : szR left w < 0) : left < w := by
  unfold szR at h; split at h <;> omega
theorem szR_ge {left : Int} {w : Nat} (h : ¬ szR left w < 0) : (w : Int) ≤ left ∧ szR left w = left - w := by
  unfold szR at h ⊢; split at h
  · rename_i h1; exact ⟨h1, if_pos h1⟩
  · omega

theorem resI {a b : Int} (h : a = b) : [Arg.c (.lit (.int .i64 a))] = [Arg.c (cI b)] := by rw [h]; rfl
theorem resB {a b : Bool} (h : a = b) : [Arg.c (.lit (.bool a))] = [Arg.c (cB b)] := by rw [h]; rfl

theorem makeB {bytes : Nat} {m : Int} (h : bytes ≤ 1024) (h0 : 0 ≤ m) (h1 : m ≤ 1048576) : (bytes : Int) * m ≤ 281474976710656 := by
  have h2 : (bytes : Int) * m ≤ 1024 * m := Int.mul_le_mul_of_nonneg_right (by omega) h0
  omega

/-- A slice half filled. -/
def half {α : Type} (z : α) (l : List α) (k : Nat) : List α := l.take k ++ List.replicate (l.length - k) z
theorem half_length {α : Type} {z : α} {l : List α} {k : Nat} (h : k ≤ l.length) : (half z l k).length = l.length := by simp [half]; omega
theorem half_zero {α : Type} {z : α} {l : List α} : half z l 0 = List.replicate l.length z := by simp [half]
theorem half_end {α : Type} {z : α} {l : List α} {k : Nat} (h : l.length ≤ k) : half z l k = l := by
  have : l.length - k = 0 := by omega
  simp [half, this, List.take_of_length_le h]
theorem half_set {α : Type} {z : α} {l : List α} {k : Nat} (h : k < l.length) : (half z l k).set k l[k] = half z l (k + 1) := by
  unfold half
  have e1 : l.length - k = (l.length - (k + 1)) + 1 := by omega
  rw [List.set_append_right _ _ (by simp; omega), e1, List.replicate_succ]
  have e2 : k - (l.take k).length = 0 := by simp; omega
  rw [e2, List.set_cons_zero, List.take_succ_eq_append_getElem h, List.append_assoc]
  rfl
theorem half_store {α : Type} {f : α → List Cell} {z : α} {l : List α} {k : Nat} (h : k < l.length) {row : List Cell} (hr : row = f l[k]) : ((half z l k).map f).set k row = (half z l (k + 1)).map f := by
  rw [hr, ← half_set h, List.map_set]
theorem half_make {α : Type} {f : α → List Cell} {z : α} {l : List α} : List.replicate ((l.length : Int)).toNat (f z) = (half z l 0).map f := by
  rw [half_zero, List.map_replicate]; rfl

def GAsk.zero : GAsk := ⟨0, 0, 0⟩

def GFlow.zero : GFlow := ⟨0, ⟨0, 0, 0⟩⟩

def GTask.zero : GTask := ⟨0, 0, [], [], [], 0, 0, 0, 0⟩
def GTask.W (x : GTask) : Nat := x.in_.length + x.out.length + x.clear.length
def GTask.lens (p : Nat → Prop) (x : GTask) : Prop := p x.in_.length ∧ p x.out.length ∧ p x.clear.length
theorem GTask.lens_of {x : GTask} {m : Nat} (h : GTask.W x ≤ m) : GTask.lens (· ≤ m) x := ⟨by simp only [GTask.W] at h; show (_ : Nat) ≤ m; omega, by simp only [GTask.W] at h; show (_ : Nat) ≤ m; omega, by simp only [GTask.W] at h; show (_ : Nat) ≤ m; omega⟩

def GNet.zero : GNet := ⟨0, []⟩
def GNet.W (x : GNet) : Nat := (x.tasks.length + sumW GTask.W x.tasks)
def GNet.lens (p : Nat → Prop) (x : GNet) : Prop := (p x.tasks.length ∧ ∀ y ∈ x.tasks, GTask.lens p y)
theorem GNet.lens_of {x : GNet} {m : Nat} (h : GNet.W x ≤ m) : GNet.lens (· ≤ m) x := ⟨by simp only [GNet.W] at h; omega, fun y hy => GTask.lens_of (by have := sumW_mem (f := GTask.W) hy; simp only [GNet.W] at h; omega)⟩

def GItem.zero : GItem := ⟨0, 0, 0⟩

def GDid.zero : GDid := ⟨0, 0⟩

def GCase.zero : GCase := ⟨0, [], [], [], []⟩
def GCase.W (x : GCase) : Nat := x.marks.length + x.busy.length + x.data.length + x.did.length
def GCase.lens (p : Nat → Prop) (x : GCase) : Prop := p x.marks.length ∧ p x.busy.length ∧ p x.data.length ∧ p x.did.length
theorem GCase.lens_of {x : GCase} {m : Nat} (h : GCase.W x ≤ m) : GCase.lens (· ≤ m) x := ⟨by simp only [GCase.W] at h; show (_ : Nat) ≤ m; omega, by simp only [GCase.W] at h; show (_ : Nat) ≤ m; omega, by simp only [GCase.W] at h; show (_ : Nat) ≤ m; omega, by simp only [GCase.W] at h; show (_ : Nat) ≤ m; omega⟩

def GNode.zero : GNode := ⟨⟨0, 0, 0⟩, 0, 0, 0, []⟩
def GNode.W (x : GNode) : Nat := x.stone.length
def GNode.lens (p : Nat → Prop) (x : GNode) : Prop := p x.stone.length
theorem GNode.lens_of {x : GNode} {m : Nat} (h : GNode.W x ≤ m) : GNode.lens (· ≤ m) x := by simp only [GNode.W] at h; show (_ : Nat) ≤ m; omega

def GRun.zero : GRun := ⟨0, ⟨0, [], [], [], []⟩⟩
def GRun.W (x : GRun) : Nat := GCase.W x.case
def GRun.lens (p : Nat → Prop) (x : GRun) : Prop := GCase.lens p x.case
theorem GRun.lens_of {x : GRun} {m : Nat} (h : GRun.W x ≤ m) : GRun.lens (· ≤ m) x := GCase.lens_of (by simp only [GRun.W] at h; omega)

def GHouse.zero : GHouse := ⟨[], [], [], []⟩
def GHouse.W (x : GHouse) : Nat := (x.nets.length + sumW GNet.W x.nets) + x.people.length + (x.tree.length + sumW GNode.W x.tree) + (x.runs.length + sumW GRun.W x.runs)
def GHouse.lens (p : Nat → Prop) (x : GHouse) : Prop := (p x.nets.length ∧ ∀ y ∈ x.nets, GNet.lens p y) ∧ p x.people.length ∧ (p x.tree.length ∧ ∀ y ∈ x.tree, GNode.lens p y) ∧ (p x.runs.length ∧ ∀ y ∈ x.runs, GRun.lens p y)
theorem GHouse.lens_of {x : GHouse} {m : Nat} (h : GHouse.W x ≤ m) : GHouse.lens (· ≤ m) x := ⟨⟨by simp only [GHouse.W] at h; omega, fun y hy => GNet.lens_of (by have := sumW_mem (f := GNet.W) hy; simp only [GHouse.W] at h; omega)⟩, by simp only [GHouse.W] at h; show (_ : Nat) ≤ m; omega, ⟨by simp only [GHouse.W] at h; omega, fun y hy => GNode.lens_of (by have := sumW_mem (f := GNode.W) hy; simp only [GHouse.W] at h; omega)⟩, ⟨by simp only [GHouse.W] at h; omega, fun y hy => GRun.lens_of (by have := sumW_mem (f := GRun.W) hy; simp only [GHouse.W] at h; omega)⟩⟩

def GReq.zero : GReq := ⟨0, 0, 0, 0, 0, 0, [], ⟨0, 0, 0⟩, 0⟩
def GReq.W (x : GReq) : Nat := x.data.length
def GReq.lens (p : Nat → Prop) (x : GReq) : Prop := p x.data.length
theorem GReq.lens_of {x : GReq} {m : Nat} (h : GReq.W x ≤ m) : GReq.lens (· ≤ m) x := by simp only [GReq.W] at h; show (_ : Nat) ≤ m; omega
end Go.Am
