/- Plain laws: marks of the struct types. Printed by marks.py. Own work. -/
import Derived.Test.YtcbpckbehdaloaaCsPM
set_option maxRecDepth 100000
set_option maxHeartbeats 2000000
set_option linter.unusedVariables false
set_option linter.unusedSimpArgs false
namespace Go.Am.Pl
open Go
theorem gd_ok {v : Int} {α : Type} {x : Option α} (h0 : 0 ≤ v) (h1 : v ≤ BIG) : gd (ok64 v) x = x := gd_pos (ok_big h0 h1)
theorem ng_ok {v : Int} {α : Type} {x y : Option α} (h0 : 0 ≤ v) : (if decide (v < 0) = true then x else y) = y := if_neg (by simp; omega)

def okGItem (x : GItem) : Prop := True
def cGItem (x : GItem) : Nat := 1 + 1 + 1
def nGItem (x : GItem) (k : Int) : GItem := (GItem.mk (k) (k + 1) (k + 1 + 1))
theorem cGItem_eq (x : GItem) (k : Int) : k + (cGItem x : Int) = k + 1 + 1 + 1 := by unfold cGItem; omega
theorem mark_CasItemS (a : List GItem) (k : Int) (hl : a.length ≤ SMALL) (hk : 0 ≤ k) (hb : k + cntS cGItem a ≤ BIG) : m_markCasItemS a k = some (k + cntS cGItem a, numS cGItem nGItem a k) := by
  unfold m_markCasItemS
  refine mark_scan cGItem nGItem _ okGItem (fun n k l => ?_) (fun n k pre x suf ho h0 h1 h2 => ?_) a k (fun _ _ => True.intro) hl hk hb
  · rw [m_markCasItemS_l0, if_neg (by simp)]; rfl
  · rw [cGItem_eq] at h1 ⊢
    (try unfold okGItem at ho)
    have hB : BIG = 4000000000000000000 := rfl
    rw [m_markCasItemS_l0, if_pos (by simp; omega)]
    simp (maxSteps := 3000000) (disch := first | omega | exact ho | exact ho.1 | exact ho.2 | exact ho.2.1 | exact ho.2.2 | exact ho.2.2.1 | exact ho.2.2.2 | exact ho.2.2.2.1 | exact ho.2.2.2.2 | exact ho.2.2.2.2.1 | exact ho.2.2.2.2.2 | (intro y hy; exact True.intro)) only [getI_mid, Option.bind_some, set_mid, gd_pos h2, gd_ok]
    rfl
theorem held_CasItemS (a : List GItem) (k : Int) (hl : a.length ≤ SMALL) (hk : 0 ≤ k) (hb : k + cntS cGItem a ≤ BIG) : m_heldCasItemS (numS cGItem nGItem a k) k = some (k + cntS cGItem a) := by
  unfold m_heldCasItemS
  refine held_scan cGItem nGItem a k _ (fun n k => ?_) (fun n k i x hg hm hi h0 h1 h2 => ?_) hl hk hb
  · rw [m_heldCasItemS_l0, if_neg (by simp)]; rfl
  · have ho : okGItem x := True.intro
    rw [cGItem_eq] at h1 ⊢
    unfold okGItem at ho
    have hB : BIG = 4000000000000000000 := rfl
    rw [m_heldCasItemS_l0, if_pos (decide_eq_true hi)]
    simp (maxSteps := 3000000) (disch := first | omega | exact ho | exact ho.1 | exact ho.2 | exact ho.2.1 | exact ho.2.2 | exact ho.2.2.1 | exact ho.2.2.2 | exact ho.2.2.2.1 | exact ho.2.2.2.2 | exact ho.2.2.2.2.1 | exact ho.2.2.2.2.2 | (intro y hy; exact True.intro)) only [hg, nGItem, Option.bind_some, gd_pos h2, gd_ok, ng_ok, decide_true, if_true]

def okGDid (x : GDid) : Prop := True
def cGDid (x : GDid) : Nat := 1 + 1
def nGDid (x : GDid) (k : Int) : GDid := (GDid.mk (k) (k + 1))
theorem cGDid_eq (x : GDid) (k : Int) : k + (cGDid x : Int) = k + 1 + 1 := by unfold cGDid; omega
theorem mark_CasDidS (a : List GDid) (k : Int) (hl : a.length ≤ SMALL) (hk : 0 ≤ k) (hb : k + cntS cGDid a ≤ BIG) : m_markCasDidS a k = some (k + cntS cGDid a, numS cGDid nGDid a k) := by
  unfold m_markCasDidS
  refine mark_scan cGDid nGDid _ okGDid (fun n k l => ?_) (fun n k pre x suf ho h0 h1 h2 => ?_) a k (fun _ _ => True.intro) hl hk hb
  · rw [m_markCasDidS_l0, if_neg (by simp)]; rfl
  · rw [cGDid_eq] at h1 ⊢
    (try unfold okGDid at ho)
    have hB : BIG = 4000000000000000000 := rfl
    rw [m_markCasDidS_l0, if_pos (by simp; omega)]
    simp (maxSteps := 3000000) (disch := first | omega | exact ho | exact ho.1 | exact ho.2 | exact ho.2.1 | exact ho.2.2 | exact ho.2.2.1 | exact ho.2.2.2 | exact ho.2.2.2.1 | exact ho.2.2.2.2 | exact ho.2.2.2.2.1 | exact ho.2.2.2.2.2 | (intro y hy; exact True.intro)) only [getI_mid, Option.bind_some, set_mid, gd_pos h2, gd_ok]
    rfl
theorem held_CasDidS (a : List GDid) (k : Int) (hl : a.length ≤ SMALL) (hk : 0 ≤ k) (hb : k + cntS cGDid a ≤ BIG) : m_heldCasDidS (numS cGDid nGDid a k) k = some (k + cntS cGDid a) := by
  unfold m_heldCasDidS
  refine held_scan cGDid nGDid a k _ (fun n k => ?_) (fun n k i x hg hm hi h0 h1 h2 => ?_) hl hk hb
  · rw [m_heldCasDidS_l0, if_neg (by simp)]; rfl
  · have ho : okGDid x := True.intro
    rw [cGDid_eq] at h1 ⊢
    unfold okGDid at ho
    have hB : BIG = 4000000000000000000 := rfl
    rw [m_heldCasDidS_l0, if_pos (decide_eq_true hi)]
    simp (maxSteps := 3000000) (disch := first | omega | exact ho | exact ho.1 | exact ho.2 | exact ho.2.1 | exact ho.2.2 | exact ho.2.2.1 | exact ho.2.2.2 | exact ho.2.2.2.1 | exact ho.2.2.2.2 | exact ho.2.2.2.2.1 | exact ho.2.2.2.2.2 | (intro y hy; exact True.intro)) only [hg, nGDid, Option.bind_some, gd_pos h2, gd_ok, ng_ok, decide_true, if_true]

def okGFlow (x : GFlow) : Prop := True
def cGFlow (x : GFlow) : Nat := 1 + 1 + 1 + 1
def nGFlow (x : GFlow) (k : Int) : GFlow := (GFlow.mk (k) (GAsk.mk (k + 1) (k + 1 + 1) (k + 1 + 1 + 1)))
theorem cGFlow_eq (x : GFlow) (k : Int) : k + (cGFlow x : Int) = k + 1 + 1 + 1 + 1 := by unfold cGFlow; omega
theorem mark_NetFlowS (a : List GFlow) (k : Int) (hl : a.length ≤ SMALL) (hk : 0 ≤ k) (hb : k + cntS cGFlow a ≤ BIG) : m_markNetFlowS a k = some (k + cntS cGFlow a, numS cGFlow nGFlow a k) := by
  unfold m_markNetFlowS
  refine mark_scan cGFlow nGFlow _ okGFlow (fun n k l => ?_) (fun n k pre x suf ho h0 h1 h2 => ?_) a k (fun _ _ => True.intro) hl hk hb
  · rw [m_markNetFlowS_l0, if_neg (by simp)]; rfl
  · rw [cGFlow_eq] at h1 ⊢
    (try unfold okGFlow at ho)
    have hB : BIG = 4000000000000000000 := rfl
    rw [m_markNetFlowS_l0, if_pos (by simp; omega)]
    simp (maxSteps := 3000000) (disch := first | omega | exact ho | exact ho.1 | exact ho.2 | exact ho.2.1 | exact ho.2.2 | exact ho.2.2.1 | exact ho.2.2.2 | exact ho.2.2.2.1 | exact ho.2.2.2.2 | exact ho.2.2.2.2.1 | exact ho.2.2.2.2.2 | (intro y hy; exact True.intro)) only [getI_mid, Option.bind_some, set_mid, gd_pos h2, gd_ok]
    rfl
theorem held_NetFlowS (a : List GFlow) (k : Int) (hl : a.length ≤ SMALL) (hk : 0 ≤ k) (hb : k + cntS cGFlow a ≤ BIG) : m_heldNetFlowS (numS cGFlow nGFlow a k) k = some (k + cntS cGFlow a) := by
  unfold m_heldNetFlowS
  refine held_scan cGFlow nGFlow a k _ (fun n k => ?_) (fun n k i x hg hm hi h0 h1 h2 => ?_) hl hk hb
  · rw [m_heldNetFlowS_l0, if_neg (by simp)]; rfl
  · have ho : okGFlow x := True.intro
    rw [cGFlow_eq] at h1 ⊢
    unfold okGFlow at ho
    have hB : BIG = 4000000000000000000 := rfl
    rw [m_heldNetFlowS_l0, if_pos (decide_eq_true hi)]
    simp (maxSteps := 3000000) (disch := first | omega | exact ho | exact ho.1 | exact ho.2 | exact ho.2.1 | exact ho.2.2 | exact ho.2.2.1 | exact ho.2.2.2 | exact ho.2.2.2.1 | exact ho.2.2.2.2 | exact ho.2.2.2.2.1 | exact ho.2.2.2.2.2 | (intro y hy; exact True.intro)) only [hg, nGFlow, Option.bind_some, gd_pos h2, gd_ok, ng_ok, decide_true, if_true]

def okGTask (x : GTask) : Prop := x.in_.length ≤ SMALL ∧ x.out.length ≤ SMALL ∧ x.clear.length ≤ SMALL
def cGTask (x : GTask) : Nat := 1 + 1 + cntS cI1 x.in_ + cntS cGFlow x.out + cntS cI1 x.clear + 1 + 1 + 1 + 1
def nGTask (x : GTask) (k : Int) : GTask := (GTask.mk (k) (k + 1) (numS cI1 nI1 x.in_ (k + 1 + 1)) (numS cGFlow nGFlow x.out (k + 1 + 1 + ((cntS cI1 x.in_ : Nat) : Int))) (numS cI1 nI1 x.clear (k + 1 + 1 + ((cntS cI1 x.in_ : Nat) : Int) + ((cntS cGFlow x.out : Nat) : Int))) (k + 1 + 1 + ((cntS cI1 x.in_ : Nat) : Int) + ((cntS cGFlow x.out : Nat) : Int) + ((cntS cI1 x.clear : Nat) : Int)) (k + 1 + 1 + ((cntS cI1 x.in_ : Nat) : Int) + ((cntS cGFlow x.out : Nat) : Int) + ((cntS cI1 x.clear : Nat) : Int) + 1) (k + 1 + 1 + ((cntS cI1 x.in_ : Nat) : Int) + ((cntS cGFlow x.out : Nat) : Int) + ((cntS cI1 x.clear : Nat) : Int) + 1 + 1) (k + 1 + 1 + ((cntS cI1 x.in_ : Nat) : Int) + ((cntS cGFlow x.out : Nat) : Int) + ((cntS cI1 x.clear : Nat) : Int) + 1 + 1 + 1))
theorem cGTask_eq (x : GTask) (k : Int) : k + (cGTask x : Int) = k + 1 + 1 + ((cntS cI1 x.in_ : Nat) : Int) + ((cntS cGFlow x.out : Nat) : Int) + ((cntS cI1 x.clear : Nat) : Int) + 1 + 1 + 1 + 1 := by unfold cGTask; omega
theorem mark_NetTaskS (a : List GTask) (k : Int) (hok : ∀ x ∈ a, okGTask x) (hl : a.length ≤ SMALL) (hk : 0 ≤ k) (hb : k + cntS cGTask a ≤ BIG) : m_markNetTaskS a k = some (k + cntS cGTask a, numS cGTask nGTask a k) := by
  unfold m_markNetTaskS
  refine mark_scan cGTask nGTask _ okGTask (fun n k l => ?_) (fun n k pre x suf ho h0 h1 h2 => ?_) a k hok hl hk hb
  · rw [m_markNetTaskS_l0, if_neg (by simp)]; rfl
  · rw [cGTask_eq] at h1 ⊢
    (try unfold okGTask at ho)
    have hB : BIG = 4000000000000000000 := rfl
    rw [m_markNetTaskS_l0, if_pos (by simp; omega)]
    simp (maxSteps := 3000000) (disch := first | omega | exact ho | exact ho.1 | exact ho.2 | exact ho.2.1 | exact ho.2.2 | exact ho.2.2.1 | exact ho.2.2.2 | exact ho.2.2.2.1 | exact ho.2.2.2.2 | exact ho.2.2.2.2.1 | exact ho.2.2.2.2.2 | (intro y hy; exact True.intro)) only [getI_mid, Option.bind_some, set_mid, gd_pos h2, gd_ok, mark_IntS, mark_NetFlowS]
    rfl
theorem held_NetTaskS (a : List GTask) (k : Int) (hok : ∀ x ∈ a, okGTask x) (hl : a.length ≤ SMALL) (hk : 0 ≤ k) (hb : k + cntS cGTask a ≤ BIG) : m_heldNetTaskS (numS cGTask nGTask a k) k = some (k + cntS cGTask a) := by
  unfold m_heldNetTaskS
  refine held_scan cGTask nGTask a k _ (fun n k => ?_) (fun n k i x hg hm hi h0 h1 h2 => ?_) hl hk hb
  · rw [m_heldNetTaskS_l0, if_neg (by simp)]; rfl
  · have ho : okGTask x := hok x hm
    rw [cGTask_eq] at h1 ⊢
    unfold okGTask at ho
    have hB : BIG = 4000000000000000000 := rfl
    rw [m_heldNetTaskS_l0, if_pos (decide_eq_true hi)]
    simp (maxSteps := 3000000) (disch := first | omega | exact ho | exact ho.1 | exact ho.2 | exact ho.2.1 | exact ho.2.2 | exact ho.2.2.1 | exact ho.2.2.2 | exact ho.2.2.2.1 | exact ho.2.2.2.2 | exact ho.2.2.2.2.1 | exact ho.2.2.2.2.2 | (intro y hy; exact True.intro)) only [hg, nGTask, Option.bind_some, gd_pos h2, gd_ok, ng_ok, decide_true, if_true, held_IntS, held_NetFlowS]

def okGNet (x : GNet) : Prop := x.tasks.length ≤ SMALL ∧ ∀ y ∈ x.tasks, okGTask y
def cGNet (x : GNet) : Nat := 1 + cntS cGTask x.tasks
def nGNet (x : GNet) (k : Int) : GNet := (GNet.mk (k) (numS cGTask nGTask x.tasks (k + 1)))
theorem cGNet_eq (x : GNet) (k : Int) : k + (cGNet x : Int) = k + 1 + ((cntS cGTask x.tasks : Nat) : Int) := by unfold cGNet; omega
theorem mark_NetNetS (a : List GNet) (k : Int) (hok : ∀ x ∈ a, okGNet x) (hl : a.length ≤ SMALL) (hk : 0 ≤ k) (hb : k + cntS cGNet a ≤ BIG) : m_markNetNetS a k = some (k + cntS cGNet a, numS cGNet nGNet a k) := by
  unfold m_markNetNetS
  refine mark_scan cGNet nGNet _ okGNet (fun n k l => ?_) (fun n k pre x suf ho h0 h1 h2 => ?_) a k hok hl hk hb
  · rw [m_markNetNetS_l0, if_neg (by simp)]; rfl
  · rw [cGNet_eq] at h1 ⊢
    (try unfold okGNet at ho)
    have hB : BIG = 4000000000000000000 := rfl
    rw [m_markNetNetS_l0, if_pos (by simp; omega)]
    simp (maxSteps := 3000000) (disch := first | omega | exact ho | exact ho.1 | exact ho.2 | exact ho.2.1 | exact ho.2.2 | exact ho.2.2.1 | exact ho.2.2.2 | exact ho.2.2.2.1 | exact ho.2.2.2.2 | exact ho.2.2.2.2.1 | exact ho.2.2.2.2.2 | (intro y hy; exact True.intro)) only [getI_mid, Option.bind_some, set_mid, gd_pos h2, gd_ok, mark_NetTaskS]
    rfl
theorem held_NetNetS (a : List GNet) (k : Int) (hok : ∀ x ∈ a, okGNet x) (hl : a.length ≤ SMALL) (hk : 0 ≤ k) (hb : k + cntS cGNet a ≤ BIG) : m_heldNetNetS (numS cGNet nGNet a k) k = some (k + cntS cGNet a) := by
  unfold m_heldNetNetS
  refine held_scan cGNet nGNet a k _ (fun n k => ?_) (fun n k i x hg hm hi h0 h1 h2 => ?_) hl hk hb
  · rw [m_heldNetNetS_l0, if_neg (by simp)]; rfl
  · have ho : okGNet x := hok x hm
    rw [cGNet_eq] at h1 ⊢
    unfold okGNet at ho
    have hB : BIG = 4000000000000000000 := rfl
    rw [m_heldNetNetS_l0, if_pos (decide_eq_true hi)]
    simp (maxSteps := 3000000) (disch := first | omega | exact ho | exact ho.1 | exact ho.2 | exact ho.2.1 | exact ho.2.2 | exact ho.2.2.1 | exact ho.2.2.2 | exact ho.2.2.2.1 | exact ho.2.2.2.2 | exact ho.2.2.2.2.1 | exact ho.2.2.2.2.2 | (intro y hy; exact True.intro)) only [hg, nGNet, Option.bind_some, gd_pos h2, gd_ok, ng_ok, decide_true, if_true, held_NetTaskS]

def okGNode (x : GNode) : Prop := x.stone.length ≤ SMALL
def cGNode (x : GNode) : Nat := 1 + 1 + 1 + 1 + 1 + 1 + cntS cI1 x.stone
def nGNode (x : GNode) (k : Int) : GNode := (GNode.mk (GAsk.mk (k) (k + 1) (k + 1 + 1)) (k + 1 + 1 + 1) (k + 1 + 1 + 1 + 1) (k + 1 + 1 + 1 + 1 + 1) (numS cI1 nI1 x.stone (k + 1 + 1 + 1 + 1 + 1 + 1)))
theorem cGNode_eq (x : GNode) (k : Int) : k + (cGNode x : Int) = k + 1 + 1 + 1 + 1 + 1 + 1 + ((cntS cI1 x.stone : Nat) : Int) := by unfold cGNode; omega
theorem mark_RdrNodeS (a : List GNode) (k : Int) (hok : ∀ x ∈ a, okGNode x) (hl : a.length ≤ SMALL) (hk : 0 ≤ k) (hb : k + cntS cGNode a ≤ BIG) : m_markRdrNodeS a k = some (k + cntS cGNode a, numS cGNode nGNode a k) := by
  unfold m_markRdrNodeS
  refine mark_scan cGNode nGNode _ okGNode (fun n k l => ?_) (fun n k pre x suf ho h0 h1 h2 => ?_) a k hok hl hk hb
  · rw [m_markRdrNodeS_l0, if_neg (by simp)]; rfl
  · rw [cGNode_eq] at h1 ⊢
    (try unfold okGNode at ho)
    have hB : BIG = 4000000000000000000 := rfl
    rw [m_markRdrNodeS_l0, if_pos (by simp; omega)]
    simp (maxSteps := 3000000) (disch := first | omega | exact ho | exact ho.1 | exact ho.2 | exact ho.2.1 | exact ho.2.2 | exact ho.2.2.1 | exact ho.2.2.2 | exact ho.2.2.2.1 | exact ho.2.2.2.2 | exact ho.2.2.2.2.1 | exact ho.2.2.2.2.2 | (intro y hy; exact True.intro)) only [getI_mid, Option.bind_some, set_mid, gd_pos h2, gd_ok, mark_IntS]
    rfl
theorem held_RdrNodeS (a : List GNode) (k : Int) (hok : ∀ x ∈ a, okGNode x) (hl : a.length ≤ SMALL) (hk : 0 ≤ k) (hb : k + cntS cGNode a ≤ BIG) : m_heldRdrNodeS (numS cGNode nGNode a k) k = some (k + cntS cGNode a) := by
  unfold m_heldRdrNodeS
  refine held_scan cGNode nGNode a k _ (fun n k => ?_) (fun n k i x hg hm hi h0 h1 h2 => ?_) hl hk hb
  · rw [m_heldRdrNodeS_l0, if_neg (by simp)]; rfl
  · have ho : okGNode x := hok x hm
    rw [cGNode_eq] at h1 ⊢
    unfold okGNode at ho
    have hB : BIG = 4000000000000000000 := rfl
    rw [m_heldRdrNodeS_l0, if_pos (decide_eq_true hi)]
    simp (maxSteps := 3000000) (disch := first | omega | exact ho | exact ho.1 | exact ho.2 | exact ho.2.1 | exact ho.2.2 | exact ho.2.2.1 | exact ho.2.2.2 | exact ho.2.2.2.1 | exact ho.2.2.2.2 | exact ho.2.2.2.2.1 | exact ho.2.2.2.2.2 | (intro y hy; exact True.intro)) only [hg, nGNode, Option.bind_some, gd_pos h2, gd_ok, ng_ok, decide_true, if_true, held_IntS]

def okGRun (x : GRun) : Prop := x.case.marks.length ≤ SMALL ∧ x.case.busy.length ≤ SMALL ∧ x.case.data.length ≤ SMALL ∧ x.case.did.length ≤ SMALL
def cGRun (x : GRun) : Nat := 1 + 1 + cntS cI1 x.case.marks + cntS cGItem x.case.busy + cntS cI1 x.case.data + cntS cGDid x.case.did
def nGRun (x : GRun) (k : Int) : GRun := (GRun.mk (k) (GCase.mk (k + 1) (numS cI1 nI1 x.case.marks (k + 1 + 1)) (numS cGItem nGItem x.case.busy (k + 1 + 1 + ((cntS cI1 x.case.marks : Nat) : Int))) (numS cI1 nI1 x.case.data (k + 1 + 1 + ((cntS cI1 x.case.marks : Nat) : Int) + ((cntS cGItem x.case.busy : Nat) : Int))) (numS cGDid nGDid x.case.did (k + 1 + 1 + ((cntS cI1 x.case.marks : Nat) : Int) + ((cntS cGItem x.case.busy : Nat) : Int) + ((cntS cI1 x.case.data : Nat) : Int)))))
theorem cGRun_eq (x : GRun) (k : Int) : k + (cGRun x : Int) = k + 1 + 1 + ((cntS cI1 x.case.marks : Nat) : Int) + ((cntS cGItem x.case.busy : Nat) : Int) + ((cntS cI1 x.case.data : Nat) : Int) + ((cntS cGDid x.case.did : Nat) : Int) := by unfold cGRun; omega
theorem mark_EngRunS (a : List GRun) (k : Int) (hok : ∀ x ∈ a, okGRun x) (hl : a.length ≤ SMALL) (hk : 0 ≤ k) (hb : k + cntS cGRun a ≤ BIG) : m_markEngRunS a k = some (k + cntS cGRun a, numS cGRun nGRun a k) := by
  unfold m_markEngRunS
  refine mark_scan cGRun nGRun _ okGRun (fun n k l => ?_) (fun n k pre x suf ho h0 h1 h2 => ?_) a k hok hl hk hb
  · rw [m_markEngRunS_l0, if_neg (by simp)]; rfl
  · rw [cGRun_eq] at h1 ⊢
    (try unfold okGRun at ho)
    have hB : BIG = 4000000000000000000 := rfl
    rw [m_markEngRunS_l0, if_pos (by simp; omega)]
    simp (maxSteps := 3000000) (disch := first | omega | exact ho | exact ho.1 | exact ho.2 | exact ho.2.1 | exact ho.2.2 | exact ho.2.2.1 | exact ho.2.2.2 | exact ho.2.2.2.1 | exact ho.2.2.2.2 | exact ho.2.2.2.2.1 | exact ho.2.2.2.2.2 | (intro y hy; exact True.intro)) only [getI_mid, Option.bind_some, set_mid, gd_pos h2, gd_ok, mark_IntS, mark_CasItemS, mark_CasDidS]
    rfl
theorem held_EngRunS (a : List GRun) (k : Int) (hok : ∀ x ∈ a, okGRun x) (hl : a.length ≤ SMALL) (hk : 0 ≤ k) (hb : k + cntS cGRun a ≤ BIG) : m_heldEngRunS (numS cGRun nGRun a k) k = some (k + cntS cGRun a) := by
  unfold m_heldEngRunS
  refine held_scan cGRun nGRun a k _ (fun n k => ?_) (fun n k i x hg hm hi h0 h1 h2 => ?_) hl hk hb
  · rw [m_heldEngRunS_l0, if_neg (by simp)]; rfl
  · have ho : okGRun x := hok x hm
    rw [cGRun_eq] at h1 ⊢
    unfold okGRun at ho
    have hB : BIG = 4000000000000000000 := rfl
    rw [m_heldEngRunS_l0, if_pos (decide_eq_true hi)]
    simp (maxSteps := 3000000) (disch := first | omega | exact ho | exact ho.1 | exact ho.2 | exact ho.2.1 | exact ho.2.2 | exact ho.2.2.1 | exact ho.2.2.2 | exact ho.2.2.2.1 | exact ho.2.2.2.2 | exact ho.2.2.2.2.1 | exact ho.2.2.2.2.2 | (intro y hy; exact True.intro)) only [hg, nGRun, Option.bind_some, gd_pos h2, gd_ok, ng_ok, decide_true, if_true, held_IntS, held_CasItemS, held_CasDidS]

def okGReq (x : GReq) : Prop := x.data.length ≤ SMALL
def cGReq (x : GReq) : Nat := 1 + 1 + 1 + 1 + 1 + 1 + cntS cI1 x.data + 1 + 1 + 1 + 1
def nGReq (x : GReq) (k : Int) : GReq := (GReq.mk (k) (k + 1) (k + 1 + 1) (k + 1 + 1 + 1) (k + 1 + 1 + 1 + 1) (k + 1 + 1 + 1 + 1 + 1) (numS cI1 nI1 x.data (k + 1 + 1 + 1 + 1 + 1 + 1)) (GAsk.mk (k + 1 + 1 + 1 + 1 + 1 + 1 + ((cntS cI1 x.data : Nat) : Int)) (k + 1 + 1 + 1 + 1 + 1 + 1 + ((cntS cI1 x.data : Nat) : Int) + 1) (k + 1 + 1 + 1 + 1 + 1 + 1 + ((cntS cI1 x.data : Nat) : Int) + 1 + 1)) (k + 1 + 1 + 1 + 1 + 1 + 1 + ((cntS cI1 x.data : Nat) : Int) + 1 + 1 + 1))
theorem cGReq_eq (x : GReq) (k : Int) : k + (cGReq x : Int) = k + 1 + 1 + 1 + 1 + 1 + 1 + ((cntS cI1 x.data : Nat) : Int) + 1 + 1 + 1 + 1 := by unfold cGReq; omega
theorem mark_EngReqS (a : List GReq) (k : Int) (hok : ∀ x ∈ a, okGReq x) (hl : a.length ≤ SMALL) (hk : 0 ≤ k) (hb : k + cntS cGReq a ≤ BIG) : m_markEngReqS a k = some (k + cntS cGReq a, numS cGReq nGReq a k) := by
  unfold m_markEngReqS
  refine mark_scan cGReq nGReq _ okGReq (fun n k l => ?_) (fun n k pre x suf ho h0 h1 h2 => ?_) a k hok hl hk hb
  · rw [m_markEngReqS_l0, if_neg (by simp)]; rfl
  · rw [cGReq_eq] at h1 ⊢
    (try unfold okGReq at ho)
    have hB : BIG = 4000000000000000000 := rfl
    rw [m_markEngReqS_l0, if_pos (by simp; omega)]
    simp (maxSteps := 3000000) (disch := first | omega | exact ho | exact ho.1 | exact ho.2 | exact ho.2.1 | exact ho.2.2 | exact ho.2.2.1 | exact ho.2.2.2 | exact ho.2.2.2.1 | exact ho.2.2.2.2 | exact ho.2.2.2.2.1 | exact ho.2.2.2.2.2 | (intro y hy; exact True.intro)) only [getI_mid, Option.bind_some, set_mid, gd_pos h2, gd_ok, mark_IntS]
    rfl
theorem held_EngReqS (a : List GReq) (k : Int) (hok : ∀ x ∈ a, okGReq x) (hl : a.length ≤ SMALL) (hk : 0 ≤ k) (hb : k + cntS cGReq a ≤ BIG) : m_heldEngReqS (numS cGReq nGReq a k) k = some (k + cntS cGReq a) := by
  unfold m_heldEngReqS
  refine held_scan cGReq nGReq a k _ (fun n k => ?_) (fun n k i x hg hm hi h0 h1 h2 => ?_) hl hk hb
  · rw [m_heldEngReqS_l0, if_neg (by simp)]; rfl
  · have ho : okGReq x := hok x hm
    rw [cGReq_eq] at h1 ⊢
    unfold okGReq at ho
    have hB : BIG = 4000000000000000000 := rfl
    rw [m_heldEngReqS_l0, if_pos (decide_eq_true hi)]
    simp (maxSteps := 3000000) (disch := first | omega | exact ho | exact ho.1 | exact ho.2 | exact ho.2.1 | exact ho.2.2 | exact ho.2.2.1 | exact ho.2.2.2 | exact ho.2.2.2.1 | exact ho.2.2.2.2 | exact ho.2.2.2.2.1 | exact ho.2.2.2.2.2 | (intro y hy; exact True.intro)) only [hg, nGReq, Option.bind_some, gd_pos h2, gd_ok, ng_ok, decide_true, if_true, held_IntS]

end Go.Am.Pl
