/- The program's data as plain structures, and their cells. Printed by types.py. Own work. -/
import Derived.Test.YtcbpckbehdaloaaAmO
set_option linter.unusedSimpArgs false
set_option linter.unusedVariables false
namespace Go.Am
open Go

def cI (n : Int) : Cell := .lit (.int .i64 n)
def cB (b : Bool) : Cell := .lit (.bool b)
def cIs (o : Bool) (l : List Int) : Cell := .sl o 1 (l.map fun n => [cI n])

structure GAsk where
  op : Int
  var : Int
  k : Int
  deriving DecidableEq
def GAsk.cells (o : Bool) (x : GAsk) : List Cell := [cI x.op, cI x.var, cI x.k]

structure GFlow where
  to : Int
  if_ : GAsk
  deriving DecidableEq
def GFlow.cells (o : Bool) (x : GFlow) : List Cell := [cI x.to, cI x.if_.op, cI x.if_.var, cI x.if_.k]

structure GTask where
  join : Int
  split : Int
  in_ : List Int
  out : List GFlow
  clear : List Int
  role : Int
  apart : Int
  all : Int
  need : Int
  deriving DecidableEq
def GTask.cells (o : Bool) (x : GTask) : List Cell := [cI x.join, cI x.split, cIs o x.in_, .sl o 4 (x.out.map (·.cells o)), cIs o x.clear, cI x.role, cI x.apart, cI x.all, cI x.need]

structure GNet where
  places : Int
  tasks : List GTask
  deriving DecidableEq
def GNet.cells (o : Bool) (x : GNet) : List Cell := [cI x.places, .sl o 9 (x.tasks.map (·.cells o))]

structure GItem where
  task : Int
  who : Int
  did : Int
  deriving DecidableEq
def GItem.cells (o : Bool) (x : GItem) : List Cell := [cI x.task, cI x.who, cI x.did]

structure GDid where
  task : Int
  who : Int
  deriving DecidableEq
def GDid.cells (o : Bool) (x : GDid) : List Cell := [cI x.task, cI x.who]

structure GCase where
  state : Int
  marks : List Int
  busy : List GItem
  data : List Int
  did : List GDid
  deriving DecidableEq
def GCase.cells (o : Bool) (x : GCase) : List Cell := [cI x.state, cIs o x.marks, .sl o 3 (x.busy.map (·.cells o)), cIs o x.data, .sl o 2 (x.did.map (·.cells o))]

structure GNode where
  if_ : GAsk
  yes : Int
  no : Int
  ans : Int
  stone : List Int
  deriving DecidableEq
def GNode.cells (o : Bool) (x : GNode) : List Cell := [cI x.if_.op, cI x.if_.var, cI x.if_.k, cI x.yes, cI x.no, cI x.ans, cIs o x.stone]

structure GRun where
  net : Int
  case : GCase
  deriving DecidableEq
def GRun.cells (o : Bool) (x : GRun) : List Cell := [cI x.net, cI x.case.state, cIs o x.case.marks, .sl o 3 (x.case.busy.map (·.cells o)), cIs o x.case.data, .sl o 2 (x.case.did.map (·.cells o))]

structure GHouse where
  nets : List GNet
  people : List Int
  tree : List GNode
  runs : List GRun
  deriving DecidableEq
def GHouse.cells (o : Bool) (x : GHouse) : List Cell := [.sl o 2 (x.nets.map (·.cells o)), cIs o x.people, .sl o 7 (x.tree.map (·.cells o)), .sl o 6 (x.runs.map (·.cells o))]

structure GReq where
  kind : Int
  who : Int
  case : Int
  task : Int
  var : Int
  num : Int
  data : List Int
  if_ : GAsk
  ans : Int
  deriving DecidableEq
def GReq.cells (o : Bool) (x : GReq) : List Cell := [cI x.kind, cI x.who, cI x.case, cI x.task, cI x.var, cI x.num, cIs o x.data, cI x.if_.op, cI x.if_.var, cI x.if_.k, cI x.ans]

/-- What holds of the cells of a row, and of rows. -/
structure RowOk (k : Nat) {α : Type} (f : Bool → α → List Cell) : Prop where
  len : ∀ o x, (f o x).length = k
  share : ∀ o x, shareRow (f o x) = f false x
  nobox : ∀ o x, ∀ c ∈ f o x, NoBox c
  solid : ∀ x, solidRow (f true x) = true
  plain : ∀ x, (f false x).all Cell.plain = true
  ok : ∀ o x, ∀ c ∈ f o x, c.ok = true

section
variable {α : Type} {k : Nat} {f : Bool → α → List Cell}
theorem RowOk.rlen (h : RowOk k f) (o : Bool) (l : List α) : ∀ r ∈ l.map (f o), r.length = k := by
  intro r hr; obtain ⟨x, _, rfl⟩ := List.mem_map.1 hr; exact h.len o x
theorem RowOk.rshare (h : RowOk k f) (o : Bool) (l : List α) : shareRows (l.map (f o)) = l.map (f false) := by
  rw [shareRows_eq, List.map_map]
  refine List.map_congr_left fun x _ => ?_
  rw [Function.comp, ← shareRow_eq]; exact h.share o x
theorem RowOk.rnobox (h : RowOk k f) (o : Bool) (l : List α) : ∀ r ∈ l.map (f o), ∀ c ∈ r, NoBox c := by
  intro r hr; obtain ⟨x, _, rfl⟩ := List.mem_map.1 hr; exact h.nobox o x
theorem RowOk.rsolid (h : RowOk k f) (l : List α) : solidRows (l.map (f true)) = true := by
  refine solidRows_all.2 fun r hr => ?_
  obtain ⟨x, _, rfl⟩ := List.mem_map.1 hr; exact h.solid x
theorem RowOk.rok (h : RowOk k f) (o : Bool) (l : List α) : ∀ r ∈ l.map (f o), ∀ c ∈ r, c.ok = true := by
  intro r hr; obtain ⟨x, _, rfl⟩ := List.mem_map.1 hr; exact h.ok o x
end

theorem rowI : RowOk 1 (fun _ n => [cI n]) where
  len := fun _ _ => rfl
  share := fun _ _ => rfl
  nobox := fun _ x c hc => by simp at hc; subst hc; exact .lit _
  solid := fun _ => rfl
  plain := fun _ => rfl
  ok := fun _ x c hc => by simp at hc; subst hc; rfl
theorem cIs_share (o : Bool) (l : List Int) : (cIs o l).share = cIs false l := by
  unfold cIs; rw [Cell.share]; exact congrArg _ (rowI.rshare o l)
theorem cIs_nobox (o : Bool) (l : List Int) : NoBox (cIs o l) := .sl o 1 (rowI.rnobox o l)
theorem cIs_solid (l : List Int) : (cIs true l).solid = true := by
  unfold cIs; rw [Cell.solid, Bool.true_and]; exact rowI.rsolid l
theorem cIs_plain (l : List Int) : (cIs false l).plain = true := rfl
theorem cI_solid (n : Int) : (cI n).solid = true := rfl
theorem cI_share (n : Int) : (cI n).share = cI n := rfl
theorem sl_share {α : Type} {k : Nat} {f : Bool → α → List Cell} (h : RowOk k f) (o : Bool) (l : List α) : (Cell.sl o k (l.map (f o))).share = .sl false k (l.map (f false)) := by
  rw [Cell.share]; exact congrArg _ (h.rshare o l)
theorem sl_nobox {α : Type} {k : Nat} {f : Bool → α → List Cell} (h : RowOk k f) (o : Bool) (l : List α) : NoBox (Cell.sl o k (l.map (f o))) := .sl o k (h.rnobox o l)
theorem sl_solid {α : Type} {k : Nat} {f : Bool → α → List Cell} (h : RowOk k f) (l : List α) : (Cell.sl true k (l.map (f true))).solid = true := by
  rw [Cell.solid, Bool.true_and]; exact h.rsolid l

theorem rowGAsk : RowOk 3 GAsk.cells where
  len := fun _ _ => rfl
  share := fun o x => by simp only [GAsk.cells, shareRow, cI_share, cIs_share]
  nobox := fun o x => by simp only [GAsk.cells, List.forall_mem_cons]; exact ⟨.lit _, .lit _, .lit _, by simp⟩
  solid := fun x => by simp only [GAsk.cells, solidRow, cI_solid, cIs_solid, Bool.and_true, Bool.true_and]
  plain := fun x => rfl
  ok := fun o x => by simp only [GAsk.cells, List.forall_mem_cons]; exact ⟨rfl, rfl, rfl, by simp⟩
theorem GAsk.slsolid (l : List GAsk) : (Cell.sl true 3 (l.map (·.cells true))).solid = true := sl_solid rowGAsk l

theorem rowGFlow : RowOk 4 GFlow.cells where
  len := fun _ _ => rfl
  share := fun o x => by simp only [GFlow.cells, shareRow, cI_share, cIs_share]
  nobox := fun o x => by simp only [GFlow.cells, List.forall_mem_cons]; exact ⟨.lit _, .lit _, .lit _, .lit _, by simp⟩
  solid := fun x => by simp only [GFlow.cells, solidRow, cI_solid, cIs_solid, Bool.and_true, Bool.true_and]
  plain := fun x => rfl
  ok := fun o x => by simp only [GFlow.cells, List.forall_mem_cons]; exact ⟨rfl, rfl, rfl, rfl, by simp⟩
theorem GFlow.slsolid (l : List GFlow) : (Cell.sl true 4 (l.map (·.cells true))).solid = true := sl_solid rowGFlow l

theorem rowGTask : RowOk 9 GTask.cells where
  len := fun _ _ => rfl
  share := fun o x => by simp only [GTask.cells, shareRow, cI_share, cIs_share, sl_share rowGFlow]
  nobox := fun o x => by simp only [GTask.cells, List.forall_mem_cons]; exact ⟨.lit _, .lit _, cIs_nobox _ _, sl_nobox rowGFlow _ _, cIs_nobox _ _, .lit _, .lit _, .lit _, .lit _, by simp⟩
  solid := fun x => by simp only [GTask.cells, solidRow, cI_solid, cIs_solid, Bool.and_true, Bool.true_and, GFlow.slsolid]
  plain := fun x => rfl
  ok := fun o x => by simp only [GTask.cells, List.forall_mem_cons]; exact ⟨rfl, rfl, rfl, rfl, rfl, rfl, rfl, rfl, rfl, by simp⟩
theorem GTask.slsolid (l : List GTask) : (Cell.sl true 9 (l.map (·.cells true))).solid = true := sl_solid rowGTask l

theorem rowGNet : RowOk 2 GNet.cells where
  len := fun _ _ => rfl
  share := fun o x => by simp only [GNet.cells, shareRow, cI_share, cIs_share, sl_share rowGTask]
  nobox := fun o x => by simp only [GNet.cells, List.forall_mem_cons]; exact ⟨.lit _, sl_nobox rowGTask _ _, by simp⟩
  solid := fun x => by simp only [GNet.cells, solidRow, cI_solid, cIs_solid, Bool.and_true, Bool.true_and, GTask.slsolid]
  plain := fun x => rfl
  ok := fun o x => by simp only [GNet.cells, List.forall_mem_cons]; exact ⟨rfl, rfl, by simp⟩
theorem GNet.slsolid (l : List GNet) : (Cell.sl true 2 (l.map (·.cells true))).solid = true := sl_solid rowGNet l

theorem rowGItem : RowOk 3 GItem.cells where
  len := fun _ _ => rfl
  share := fun o x => by simp only [GItem.cells, shareRow, cI_share, cIs_share]
  nobox := fun o x => by simp only [GItem.cells, List.forall_mem_cons]; exact ⟨.lit _, .lit _, .lit _, by simp⟩
  solid := fun x => by simp only [GItem.cells, solidRow, cI_solid, cIs_solid, Bool.and_true, Bool.true_and]
  plain := fun x => rfl
  ok := fun o x => by simp only [GItem.cells, List.forall_mem_cons]; exact ⟨rfl, rfl, rfl, by simp⟩
theorem GItem.slsolid (l : List GItem) : (Cell.sl true 3 (l.map (·.cells true))).solid = true := sl_solid rowGItem l

theorem rowGDid : RowOk 2 GDid.cells where
  len := fun _ _ => rfl
  share := fun o x => by simp only [GDid.cells, shareRow, cI_share, cIs_share]
  nobox := fun o x => by simp only [GDid.cells, List.forall_mem_cons]; exact ⟨.lit _, .lit _, by simp⟩
  solid := fun x => by simp only [GDid.cells, solidRow, cI_solid, cIs_solid, Bool.and_true, Bool.true_and]
  plain := fun x => rfl
  ok := fun o x => by simp only [GDid.cells, List.forall_mem_cons]; exact ⟨rfl, rfl, by simp⟩
theorem GDid.slsolid (l : List GDid) : (Cell.sl true 2 (l.map (·.cells true))).solid = true := sl_solid rowGDid l

theorem rowGCase : RowOk 5 GCase.cells where
  len := fun _ _ => rfl
  share := fun o x => by simp only [GCase.cells, shareRow, cI_share, cIs_share, sl_share rowGItem, sl_share rowGDid]
  nobox := fun o x => by simp only [GCase.cells, List.forall_mem_cons]; exact ⟨.lit _, cIs_nobox _ _, sl_nobox rowGItem _ _, cIs_nobox _ _, sl_nobox rowGDid _ _, by simp⟩
  solid := fun x => by simp only [GCase.cells, solidRow, cI_solid, cIs_solid, Bool.and_true, Bool.true_and, GItem.slsolid, GDid.slsolid]
  plain := fun x => rfl
  ok := fun o x => by simp only [GCase.cells, List.forall_mem_cons]; exact ⟨rfl, rfl, rfl, rfl, rfl, by simp⟩
theorem GCase.slsolid (l : List GCase) : (Cell.sl true 5 (l.map (·.cells true))).solid = true := sl_solid rowGCase l

theorem rowGNode : RowOk 7 GNode.cells where
  len := fun _ _ => rfl
  share := fun o x => by simp only [GNode.cells, shareRow, cI_share, cIs_share]
  nobox := fun o x => by simp only [GNode.cells, List.forall_mem_cons]; exact ⟨.lit _, .lit _, .lit _, .lit _, .lit _, .lit _, cIs_nobox _ _, by simp⟩
  solid := fun x => by simp only [GNode.cells, solidRow, cI_solid, cIs_solid, Bool.and_true, Bool.true_and]
  plain := fun x => rfl
  ok := fun o x => by simp only [GNode.cells, List.forall_mem_cons]; exact ⟨rfl, rfl, rfl, rfl, rfl, rfl, rfl, by simp⟩
theorem GNode.slsolid (l : List GNode) : (Cell.sl true 7 (l.map (·.cells true))).solid = true := sl_solid rowGNode l

theorem rowGRun : RowOk 6 GRun.cells where
  len := fun _ _ => rfl
  share := fun o x => by simp only [GRun.cells, shareRow, cI_share, cIs_share, sl_share rowGItem, sl_share rowGDid]
  nobox := fun o x => by simp only [GRun.cells, List.forall_mem_cons]; exact ⟨.lit _, .lit _, cIs_nobox _ _, sl_nobox rowGItem _ _, cIs_nobox _ _, sl_nobox rowGDid _ _, by simp⟩
  solid := fun x => by simp only [GRun.cells, solidRow, cI_solid, cIs_solid, Bool.and_true, Bool.true_and, GItem.slsolid, GDid.slsolid]
  plain := fun x => rfl
  ok := fun o x => by simp only [GRun.cells, List.forall_mem_cons]; exact ⟨rfl, rfl, rfl, rfl, rfl, rfl, by simp⟩
theorem GRun.slsolid (l : List GRun) : (Cell.sl true 6 (l.map (·.cells true))).solid = true := sl_solid rowGRun l

theorem rowGHouse : RowOk 4 GHouse.cells where
  len := fun _ _ => rfl
  share := fun o x => by simp only [GHouse.cells, shareRow, cI_share, cIs_share, sl_share rowGNet, sl_share rowGNode, sl_share rowGRun]
  nobox := fun o x => by simp only [GHouse.cells, List.forall_mem_cons]; exact ⟨sl_nobox rowGNet _ _, cIs_nobox _ _, sl_nobox rowGNode _ _, sl_nobox rowGRun _ _, by simp⟩
  solid := fun x => by simp only [GHouse.cells, solidRow, cI_solid, cIs_solid, Bool.and_true, Bool.true_and, GNet.slsolid, GNode.slsolid, GRun.slsolid]
  plain := fun x => rfl
  ok := fun o x => by simp only [GHouse.cells, List.forall_mem_cons]; exact ⟨rfl, rfl, rfl, rfl, by simp⟩
theorem GHouse.slsolid (l : List GHouse) : (Cell.sl true 4 (l.map (·.cells true))).solid = true := sl_solid rowGHouse l

theorem rowGReq : RowOk 11 GReq.cells where
  len := fun _ _ => rfl
  share := fun o x => by simp only [GReq.cells, shareRow, cI_share, cIs_share]
  nobox := fun o x => by simp only [GReq.cells, List.forall_mem_cons]; exact ⟨.lit _, .lit _, .lit _, .lit _, .lit _, .lit _, cIs_nobox _ _, .lit _, .lit _, .lit _, .lit _, by simp⟩
  solid := fun x => by simp only [GReq.cells, solidRow, cI_solid, cIs_solid, Bool.and_true, Bool.true_and]
  plain := fun x => rfl
  ok := fun o x => by simp only [GReq.cells, List.forall_mem_cons]; exact ⟨rfl, rfl, rfl, rfl, rfl, rfl, rfl, rfl, rfl, rfl, rfl, by simp⟩
theorem GReq.slsolid (l : List GReq) : (Cell.sl true 11 (l.map (·.cells true))).solid = true := sl_solid rowGReq l
end Go.Am
