/- Plain laws: marks of what is handed over by value. Own work. -/
import Derived.Test.YtcbpckbehdaloaaCsPN
set_option maxRecDepth 100000
set_option maxHeartbeats 2000000
set_option linter.unusedVariables false
set_option linter.unusedSimpArgs false
namespace Go.Am.Pl
open Go

def vGNet (x : GNet) : Nat := cntS cGTask x.tasks
def wGNet (x : GNet) (k : Int) : GNet := GNet.mk x.places (numS cGTask nGTask x.tasks k)
theorem mark_NetNet (x : GNet) (k : Int) (ho : okGNet x) (hk : 0 ≤ k) (hb : k + vGNet x ≤ BIG) : m_markNetNet x k = some (k + vGNet x, wGNet x k) := by
  unfold m_markNetNet
  rw [mark_NetTaskS x.tasks k ho.2 ho.1 hk hb]; rfl
def okGCase (x : GCase) : Prop := x.marks.length ≤ SMALL ∧ x.busy.length ≤ SMALL ∧ x.data.length ≤ SMALL ∧ x.did.length ≤ SMALL
def vGCase (x : GCase) : Nat := cntS cI1 x.marks + cntS cGItem x.busy + cntS cI1 x.data + cntS cGDid x.did
def wGCase (x : GCase) (k : Int) : GCase := GCase.mk x.state (numS cI1 nI1 x.marks k) (numS cGItem nGItem x.busy (k + (cntS cI1 x.marks : Nat))) (numS cI1 nI1 x.data (k + (cntS cI1 x.marks : Nat) + (cntS cGItem x.busy : Nat)))
  (numS cGDid nGDid x.did (k + (cntS cI1 x.marks : Nat) + (cntS cGItem x.busy : Nat) + (cntS cI1 x.data : Nat)))
theorem vGCase_eq (x : GCase) (k : Int) : k + (vGCase x : Int) = k + (cntS cI1 x.marks : Nat) + (cntS cGItem x.busy : Nat) + (cntS cI1 x.data : Nat) + (cntS cGDid x.did : Nat) := by unfold vGCase; omega
theorem mark_CasCase (x : GCase) (k : Int) (ho : okGCase x) (hk : 0 ≤ k) (hb : k + vGCase x ≤ BIG) : m_markCasCase x k = some (k + vGCase x, wGCase x k) := by
  obtain ⟨h1, h2, h3, h4⟩ := ho
  rw [vGCase_eq] at hb ⊢
  unfold m_markCasCase
  rw [mark_IntS x.marks k h1 hk (by omega), Option.bind_some, mark_CasItemS x.busy _ h2 (by omega) (by omega), Option.bind_some, mark_IntS x.data _ h3 (by omega) (by omega), Option.bind_some, mark_CasDidS x.did _ h4 (by omega) (by omega)]
  rfl
theorem held_CasCase (x : GCase) (k : Int) (ho : okGCase x) (hk : 0 ≤ k) (hb : k + vGCase x ≤ BIG) : m_heldCasCase (wGCase x k) k = some (k + vGCase x) := by
  obtain ⟨h1, h2, h3, h4⟩ := ho
  rw [vGCase_eq] at hb ⊢
  unfold m_heldCasCase wGCase
  simp only []
  rw [held_IntS x.marks k h1 hk (by omega), Option.bind_some, ng_ok (by omega), held_CasItemS x.busy _ h2 (by omega) (by omega), Option.bind_some, ng_ok (by omega), held_IntS x.data _ h3 (by omega) (by omega), Option.bind_some, ng_ok (by omega),
    held_CasDidS x.did _ h4 (by omega) (by omega), Option.bind_some, ng_ok (by omega)]

def okGHouse (x : GHouse) : Prop := (x.nets.length ≤ SMALL ∧ ∀ y ∈ x.nets, okGNet y) ∧ x.people.length ≤ SMALL ∧ (x.tree.length ≤ SMALL ∧ ∀ y ∈ x.tree, okGNode y) ∧ (x.runs.length ≤ SMALL ∧ ∀ y ∈ x.runs, okGRun y)
def vGHouse (x : GHouse) : Nat := cntS cGNet x.nets + cntS cI1 x.people + cntS cGNode x.tree + cntS cGRun x.runs
def wGHouse (x : GHouse) (k : Int) : GHouse := GHouse.mk (numS cGNet nGNet x.nets k) (numS cI1 nI1 x.people (k + (cntS cGNet x.nets : Nat))) (numS cGNode nGNode x.tree (k + (cntS cGNet x.nets : Nat) + (cntS cI1 x.people : Nat)))
  (numS cGRun nGRun x.runs (k + (cntS cGNet x.nets : Nat) + (cntS cI1 x.people : Nat) + (cntS cGNode x.tree : Nat)))
theorem vGHouse_eq (x : GHouse) (k : Int) : k + (vGHouse x : Int) = k + (cntS cGNet x.nets : Nat) + (cntS cI1 x.people : Nat) + (cntS cGNode x.tree : Nat) + (cntS cGRun x.runs : Nat) := by unfold vGHouse; omega
theorem mark_EngHouse (x : GHouse) (k : Int) (ho : okGHouse x) (hk : 0 ≤ k) (hb : k + vGHouse x ≤ BIG) : m_markEngHouse x k = some (k + vGHouse x, wGHouse x k) := by
  obtain ⟨h1, h2, h3, h4⟩ := ho
  rw [vGHouse_eq] at hb ⊢
  unfold m_markEngHouse
  rw [mark_NetNetS x.nets k h1.2 h1.1 hk (by omega), Option.bind_some, mark_IntS x.people _ h2 (by omega) (by omega), Option.bind_some, mark_RdrNodeS x.tree _ h3.2 h3.1 (by omega) (by omega), Option.bind_some, mark_EngRunS x.runs _ h4.2 h4.1 (by omega) (by omega)]
  rfl
theorem held_EngHouse (x : GHouse) (k : Int) (ho : okGHouse x) (hk : 0 ≤ k) (hb : k + vGHouse x ≤ BIG) : m_heldEngHouse (wGHouse x k) k = some (k + vGHouse x) := by
  obtain ⟨h1, h2, h3, h4⟩ := ho
  rw [vGHouse_eq] at hb ⊢
  unfold m_heldEngHouse wGHouse
  simp only []
  rw [held_NetNetS x.nets k h1.2 h1.1 hk (by omega), Option.bind_some, ng_ok (by omega), held_IntS x.people _ h2 (by omega) (by omega), Option.bind_some, ng_ok (by omega), held_RdrNodeS x.tree _ h3.2 h3.1 (by omega) (by omega), Option.bind_some, ng_ok (by omega),
    held_EngRunS x.runs _ h4.2 h4.1 (by omega) (by omega), Option.bind_some, ng_ok (by omega)]
theorem mark_EngReq (x : GReq) (k : Int) (ho : x.data.length ≤ SMALL) (hk : 0 ≤ k) (hb : k + cntS cI1 x.data ≤ BIG) : m_markEngReq x k = some (k + cntS cI1 x.data, GReq.mk x.kind x.who x.case x.task x.var x.num (numS cI1 nI1 x.data k) x.if_ x.ans) := by
  unfold m_markEngReq
  rw [mark_IntS x.data k ho hk hb]; rfl

end Go.Am.Pl
