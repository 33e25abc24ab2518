/- What the laws own types are in memory, where they read as data. Printed by opens.py. Own work. -/
import Derived.Test.YtcbpckbehdaloaaAmX
import Derived.Test.YtcbpckbehdaloaaAmS
set_option linter.unusedSimpArgs false
set_option linter.unusedVariables false
set_option maxRecDepth 100000
namespace Go.Am
open Go Go.Proofs

section
variable {w : World}
def CellsAt (w : World) (cs : List Value) (off : Nat) (xs : List Cell) : Prop := ∀ (j : Nat) c v, xs[j]? = some c → cs[off + j]? = some v → Own w (Here w) noBlk c v
theorem CellsAt.nil {cs : List Value} {off : Nat} : CellsAt w cs off [] := fun j c v h => by simp at h
theorem CellsAt.append {cs : List Value} {off off' : Nat} {xs ys : List Cell} (h1 : CellsAt w cs off xs) (he : off + xs.length = off') (h2 : CellsAt w cs off' ys) : CellsAt w cs off (xs ++ ys) := by
  intro j c v h3 h4
  by_cases hj : j < xs.length
  · rw [List.getElem?_append_left hj] at h3; exact h1 j c v h3 h4
  · rw [List.getElem?_append_right (by omega)] at h3
    refine h2 (j - xs.length) c v h3 ?_
    rw [← he, ← h4]; congr 1; omega
theorem CellsAt.fin {cs : List Value} {xs : List Cell} (h : CellsAt w cs 0 xs) : ∀ (i : Nat) c v, xs[i]? = some c → cs[i]? = some v → Own w (Here w) noBlk c v := fun i c v h1 h2 => h i c v h1 (by simpa using h2)
theorem field_opens {P : Program} {H : Type} {enc : TypeId × Value → H} {α : Type} {f : α → List Cell} {ok : α → Prop} {fs : Array Field} {xs : List (DataW H × List MemPlace)} {n : Nat} {cs : List Value} {i ft off m : Nat}
    (hxs : xs.length = fs.size) (hf : ∀ (i : Nat) (f : Field), fs[i]? = some f → DataW.trod enc P w 0 (fun _ => true) true n f.type ((cs.drop f.offset).take (P.cellsOf f.type)) = xs[i]?)
    (h : (fs[i]?).map (fun z => (z.type, z.offset)) = some (ft, off)) (hm : P.cellsOf ft = m) (E : OpensAs P w ft m f ok) : ∃ a, ok a ∧ (f a).length = m ∧ CellsAt w cs off (f a) := by
  obtain ⟨fld, h1, rfl, rfl⟩ := field_of h
  have h2 := hf i fld h1
  have hlt : i < xs.length := by rw [hxs]; exact (Array.getElem?_eq_some_iff.1 h1).1
  rw [List.getElem?_eq_getElem hlt, hm] at h2
  obtain ⟨e1, a, e2, e3, e4⟩ := E H enc n _ _ h2
  refine ⟨a, e2, e3, fun j c v g1 g2 => e4 j c v g1 ?_⟩
  have hj : j < m := by have := (List.getElem?_eq_some_iff.1 g1).1; omega
  rw [List.getElem?_take, if_pos hj, List.getElem?_drop]; exact g2
end

theorem o_int (w : World) : OpensAs Try.prog w 3 1 (fun n : Int => [cI n]) i64 := opens_int Try.underlying3
theorem o_ints (w : World) : OpensAs Try.prog w 34 1 (fun l : List Int => [cIs false l]) (fun l => l.length ≤ 9223372036854775807 ∧ ∀ y ∈ l, i64 y) := opens_slice (f := fun n : Int => [cI n]) Try.underlying34 (by kernel_rfl) (by decide) (o_int w)

def GAsk.ok (x : GAsk) : Prop := i64 x.op ∧ i64 x.var ∧ i64 x.k
instance : Inhabited GAsk := ⟨GAsk.zero⟩

def GFlow.ok (x : GFlow) : Prop := i64 x.to ∧ GAsk.ok x.if_
instance : Inhabited GFlow := ⟨GFlow.zero⟩

def GTask.ok (x : GTask) : Prop := i64 x.join ∧ i64 x.split ∧ (x.in_.length ≤ 9223372036854775807 ∧ ∀ y ∈ x.in_, i64 y) ∧ (x.out.length ≤ 9223372036854775807 ∧ ∀ y ∈ x.out, GFlow.ok y) ∧ (x.clear.length ≤ 9223372036854775807 ∧ ∀ y ∈ x.clear, i64 y) ∧ i64 x.role ∧ i64 x.apart ∧ i64 x.all ∧ i64 x.need
instance : Inhabited GTask := ⟨GTask.zero⟩

def GNet.ok (x : GNet) : Prop := i64 x.places ∧ (x.tasks.length ≤ 9223372036854775807 ∧ ∀ y ∈ x.tasks, GTask.ok y)
instance : Inhabited GNet := ⟨GNet.zero⟩

def GItem.ok (x : GItem) : Prop := i64 x.task ∧ i64 x.who ∧ i64 x.did
instance : Inhabited GItem := ⟨GItem.zero⟩

def GDid.ok (x : GDid) : Prop := i64 x.task ∧ i64 x.who
instance : Inhabited GDid := ⟨GDid.zero⟩

def GCase.ok (x : GCase) : Prop := i64 x.state ∧ (x.marks.length ≤ 9223372036854775807 ∧ ∀ y ∈ x.marks, i64 y) ∧ (x.busy.length ≤ 9223372036854775807 ∧ ∀ y ∈ x.busy, GItem.ok y) ∧ (x.data.length ≤ 9223372036854775807 ∧ ∀ y ∈ x.data, i64 y) ∧ (x.did.length ≤ 9223372036854775807 ∧ ∀ y ∈ x.did, GDid.ok y)
instance : Inhabited GCase := ⟨GCase.zero⟩

def GNode.ok (x : GNode) : Prop := GAsk.ok x.if_ ∧ i64 x.yes ∧ i64 x.no ∧ i64 x.ans ∧ (x.stone.length ≤ 9223372036854775807 ∧ ∀ y ∈ x.stone, i64 y)
instance : Inhabited GNode := ⟨GNode.zero⟩

def GRun.ok (x : GRun) : Prop := i64 x.net ∧ GCase.ok x.case
instance : Inhabited GRun := ⟨GRun.zero⟩

def GHouse.ok (x : GHouse) : Prop := (x.nets.length ≤ 9223372036854775807 ∧ ∀ y ∈ x.nets, GNet.ok y) ∧ (x.people.length ≤ 9223372036854775807 ∧ ∀ y ∈ x.people, i64 y) ∧ (x.tree.length ≤ 9223372036854775807 ∧ ∀ y ∈ x.tree, GNode.ok y) ∧ (x.runs.length ≤ 9223372036854775807 ∧ ∀ y ∈ x.runs, GRun.ok y)
instance : Inhabited GHouse := ⟨GHouse.zero⟩

def GReq.ok (x : GReq) : Prop := i64 x.kind ∧ i64 x.who ∧ i64 x.case ∧ i64 x.task ∧ i64 x.var ∧ i64 x.num ∧ (x.data.length ≤ 9223372036854775807 ∧ ∀ y ∈ x.data, i64 y) ∧ GAsk.ok x.if_ ∧ i64 x.ans
instance : Inhabited GReq := ⟨GReq.zero⟩
theorem o_GAsk (w : World) : OpensAs Try.prog w 85 3 (GAsk.cells false) GAsk.ok := by intro H enc fuel cs x h; obtain ⟨xs, n, _, _, hl, hxs, hf⟩ := DataW.trod_struct Try.underlying85 h; obtain ⟨a0, k0, l0, c0⟩ := field_opens (i := 0) (ft := 3) (off := 0) hxs hf rfl (by kernel_rfl) (o_int w); obtain ⟨a1, k1, l1, c1⟩ := field_opens (i := 1) (ft := 3) (off := 1) hxs hf rfl (by kernel_rfl) (o_int w); obtain ⟨a2, k2, l2, c2⟩ := field_opens (i := 2) (ft := 3) (off := 2) hxs hf rfl (by kernel_rfl) (o_int w); exact ⟨(by rw [hl]; kernel_rfl), ⟨a0, a1, a2⟩, ⟨k0, k1, k2⟩, rfl, CellsAt.fin (CellsAt.append c0 (by rw [l0]) (CellsAt.append c1 (by rw [l1]) (CellsAt.append c2 (by rw [l2]) CellsAt.nil)))⟩
theorem o_GFlow (w : World) : OpensAs Try.prog w 186 4 (GFlow.cells false) GFlow.ok := by intro H enc fuel cs x h; obtain ⟨xs, n, _, _, hl, hxs, hf⟩ := DataW.trod_struct Try.underlying186 h; obtain ⟨a0, k0, l0, c0⟩ := field_opens (i := 0) (ft := 3) (off := 0) hxs hf rfl (by kernel_rfl) (o_int w); obtain ⟨a1, k1, l1, c1⟩ := field_opens (i := 1) (ft := 85) (off := 1) hxs hf rfl (by kernel_rfl) (o_GAsk w); exact ⟨(by rw [hl]; kernel_rfl), ⟨a0, a1⟩, ⟨k0, k1⟩, rfl, CellsAt.fin (CellsAt.append c0 (by rw [l0]) (CellsAt.append c1 (by rw [l1]) CellsAt.nil))⟩
theorem o_GFlowS (w : World) : OpensAs Try.prog w 158 1 (fun l : List GFlow => [.sl false 4 (l.map (GFlow.cells false))]) (fun l => l.length ≤ 9223372036854775807 ∧ ∀ y ∈ l, GFlow.ok y) := opens_slice Try.underlying158 (by kernel_rfl) (by decide) (o_GFlow w)
theorem o_GTask (w : World) : OpensAs Try.prog w 160 9 (GTask.cells false) GTask.ok := by intro H enc fuel cs x h; obtain ⟨xs, n, _, _, hl, hxs, hf⟩ := DataW.trod_struct Try.underlying160 h; obtain ⟨a0, k0, l0, c0⟩ := field_opens (i := 0) (ft := 3) (off := 0) hxs hf rfl (by kernel_rfl) (o_int w); obtain ⟨a1, k1, l1, c1⟩ := field_opens (i := 1) (ft := 3) (off := 1) hxs hf rfl (by kernel_rfl) (o_int w); obtain ⟨a2, k2, l2, c2⟩ := field_opens (i := 2) (ft := 34) (off := 2) hxs hf rfl (by kernel_rfl) (o_ints w); obtain ⟨a3, k3, l3, c3⟩ := field_opens (i := 3) (ft := 158) (off := 3) hxs hf rfl (by kernel_rfl) (o_GFlowS w); obtain ⟨a4, k4, l4, c4⟩ := field_opens (i := 4) (ft := 34) (off := 4) hxs hf rfl (by kernel_rfl) (o_ints w); obtain ⟨a5, k5, l5, c5⟩ := field_opens (i := 5) (ft := 3) (off := 5) hxs hf rfl (by kernel_rfl) (o_int w); obtain ⟨a6, k6, l6, c6⟩ := field_opens (i := 6) (ft := 3) (off := 6) hxs hf rfl (by kernel_rfl) (o_int w); obtain ⟨a7, k7, l7, c7⟩ := field_opens (i := 7) (ft := 3) (off := 7) hxs hf rfl (by kernel_rfl) (o_int w); obtain ⟨a8, k8, l8, c8⟩ := field_opens (i := 8) (ft := 3) (off := 8) hxs hf rfl (by kernel_rfl) (o_int w); exact ⟨(by rw [hl]; kernel_rfl), ⟨a0, a1, a2, a3, a4, a5, a6, a7, a8⟩, ⟨k0, k1, k2, k3, k4, k5, k6, k7, k8⟩, rfl, CellsAt.fin (CellsAt.append c0 (by rw [l0]) (CellsAt.append c1 (by rw [l1]) (CellsAt.append c2 (by rw [l2]) (CellsAt.append c3 (by rw [l3]) (CellsAt.append c4 (by rw [l4]) (CellsAt.append c5 (by rw [l5]) (CellsAt.append c6 (by rw [l6]) (CellsAt.append c7 (by rw [l7]) (CellsAt.append c8 (by rw [l8]) CellsAt.nil)))))))))⟩
theorem o_GTaskS (w : World) : OpensAs Try.prog w 52 1 (fun l : List GTask => [.sl false 9 (l.map (GTask.cells false))]) (fun l => l.length ≤ 9223372036854775807 ∧ ∀ y ∈ l, GTask.ok y) := opens_slice Try.underlying52 (by kernel_rfl) (by decide) (o_GTask w)
theorem o_GNet (w : World) : OpensAs Try.prog w 54 2 (GNet.cells false) GNet.ok := by intro H enc fuel cs x h; obtain ⟨xs, n, _, _, hl, hxs, hf⟩ := DataW.trod_struct Try.underlying54 h; obtain ⟨a0, k0, l0, c0⟩ := field_opens (i := 0) (ft := 3) (off := 0) hxs hf rfl (by kernel_rfl) (o_int w); obtain ⟨a1, k1, l1, c1⟩ := field_opens (i := 1) (ft := 52) (off := 1) hxs hf rfl (by kernel_rfl) (o_GTaskS w); exact ⟨(by rw [hl]; kernel_rfl), ⟨a0, a1⟩, ⟨k0, k1⟩, rfl, CellsAt.fin (CellsAt.append c0 (by rw [l0]) (CellsAt.append c1 (by rw [l1]) CellsAt.nil))⟩
theorem o_GNetS (w : World) : OpensAs Try.prog w 33 1 (fun l : List GNet => [.sl false 2 (l.map (GNet.cells false))]) (fun l => l.length ≤ 9223372036854775807 ∧ ∀ y ∈ l, GNet.ok y) := opens_slice Try.underlying33 (by kernel_rfl) (by decide) (o_GNet w)
theorem o_GItem (w : World) : OpensAs Try.prog w 165 3 (GItem.cells false) GItem.ok := by intro H enc fuel cs x h; obtain ⟨xs, n, _, _, hl, hxs, hf⟩ := DataW.trod_struct Try.underlying165 h; obtain ⟨a0, k0, l0, c0⟩ := field_opens (i := 0) (ft := 3) (off := 0) hxs hf rfl (by kernel_rfl) (o_int w); obtain ⟨a1, k1, l1, c1⟩ := field_opens (i := 1) (ft := 3) (off := 1) hxs hf rfl (by kernel_rfl) (o_int w); obtain ⟨a2, k2, l2, c2⟩ := field_opens (i := 2) (ft := 3) (off := 2) hxs hf rfl (by kernel_rfl) (o_int w); exact ⟨(by rw [hl]; kernel_rfl), ⟨a0, a1, a2⟩, ⟨k0, k1, k2⟩, rfl, CellsAt.fin (CellsAt.append c0 (by rw [l0]) (CellsAt.append c1 (by rw [l1]) (CellsAt.append c2 (by rw [l2]) CellsAt.nil)))⟩
theorem o_GItemS (w : World) : OpensAs Try.prog w 55 1 (fun l : List GItem => [.sl false 3 (l.map (GItem.cells false))]) (fun l => l.length ≤ 9223372036854775807 ∧ ∀ y ∈ l, GItem.ok y) := opens_slice Try.underlying55 (by kernel_rfl) (by decide) (o_GItem w)
theorem o_GDid (w : World) : OpensAs Try.prog w 167 2 (GDid.cells false) GDid.ok := by intro H enc fuel cs x h; obtain ⟨xs, n, _, _, hl, hxs, hf⟩ := DataW.trod_struct Try.underlying167 h; obtain ⟨a0, k0, l0, c0⟩ := field_opens (i := 0) (ft := 3) (off := 0) hxs hf rfl (by kernel_rfl) (o_int w); obtain ⟨a1, k1, l1, c1⟩ := field_opens (i := 1) (ft := 3) (off := 1) hxs hf rfl (by kernel_rfl) (o_int w); exact ⟨(by rw [hl]; kernel_rfl), ⟨a0, a1⟩, ⟨k0, k1⟩, rfl, CellsAt.fin (CellsAt.append c0 (by rw [l0]) (CellsAt.append c1 (by rw [l1]) CellsAt.nil))⟩
theorem o_GDidS (w : World) : OpensAs Try.prog w 56 1 (fun l : List GDid => [.sl false 2 (l.map (GDid.cells false))]) (fun l => l.length ≤ 9223372036854775807 ∧ ∀ y ∈ l, GDid.ok y) := opens_slice Try.underlying56 (by kernel_rfl) (by decide) (o_GDid w)
theorem o_GCase (w : World) : OpensAs Try.prog w 58 5 (GCase.cells false) GCase.ok := by intro H enc fuel cs x h; obtain ⟨xs, n, _, _, hl, hxs, hf⟩ := DataW.trod_struct Try.underlying58 h; obtain ⟨a0, k0, l0, c0⟩ := field_opens (i := 0) (ft := 3) (off := 0) hxs hf rfl (by kernel_rfl) (o_int w); obtain ⟨a1, k1, l1, c1⟩ := field_opens (i := 1) (ft := 34) (off := 1) hxs hf rfl (by kernel_rfl) (o_ints w); obtain ⟨a2, k2, l2, c2⟩ := field_opens (i := 2) (ft := 55) (off := 2) hxs hf rfl (by kernel_rfl) (o_GItemS w); obtain ⟨a3, k3, l3, c3⟩ := field_opens (i := 3) (ft := 34) (off := 3) hxs hf rfl (by kernel_rfl) (o_ints w); obtain ⟨a4, k4, l4, c4⟩ := field_opens (i := 4) (ft := 56) (off := 4) hxs hf rfl (by kernel_rfl) (o_GDidS w); exact ⟨(by rw [hl]; kernel_rfl), ⟨a0, a1, a2, a3, a4⟩, ⟨k0, k1, k2, k3, k4⟩, rfl, CellsAt.fin (CellsAt.append c0 (by rw [l0]) (CellsAt.append c1 (by rw [l1]) (CellsAt.append c2 (by rw [l2]) (CellsAt.append c3 (by rw [l3]) (CellsAt.append c4 (by rw [l4]) CellsAt.nil)))))⟩
theorem o_GNode (w : World) : OpensAs Try.prog w 147 7 (GNode.cells false) GNode.ok := by intro H enc fuel cs x h; obtain ⟨xs, n, _, _, hl, hxs, hf⟩ := DataW.trod_struct Try.underlying147 h; obtain ⟨a0, k0, l0, c0⟩ := field_opens (i := 0) (ft := 85) (off := 0) hxs hf rfl (by kernel_rfl) (o_GAsk w); obtain ⟨a1, k1, l1, c1⟩ := field_opens (i := 1) (ft := 3) (off := 3) hxs hf rfl (by kernel_rfl) (o_int w); obtain ⟨a2, k2, l2, c2⟩ := field_opens (i := 2) (ft := 3) (off := 4) hxs hf rfl (by kernel_rfl) (o_int w); obtain ⟨a3, k3, l3, c3⟩ := field_opens (i := 3) (ft := 3) (off := 5) hxs hf rfl (by kernel_rfl) (o_int w); obtain ⟨a4, k4, l4, c4⟩ := field_opens (i := 4) (ft := 34) (off := 6) hxs hf rfl (by kernel_rfl) (o_ints w); exact ⟨(by rw [hl]; kernel_rfl), ⟨a0, a1, a2, a3, a4⟩, ⟨k0, k1, k2, k3, k4⟩, rfl, CellsAt.fin (CellsAt.append c0 (by rw [l0]) (CellsAt.append c1 (by rw [l1]) (CellsAt.append c2 (by rw [l2]) (CellsAt.append c3 (by rw [l3]) (CellsAt.append c4 (by rw [l4]) CellsAt.nil)))))⟩
theorem o_GNodeS (w : World) : OpensAs Try.prog w 35 1 (fun l : List GNode => [.sl false 7 (l.map (GNode.cells false))]) (fun l => l.length ≤ 9223372036854775807 ∧ ∀ y ∈ l, GNode.ok y) := opens_slice Try.underlying35 (by kernel_rfl) (by decide) (o_GNode w)
theorem o_GRun (w : World) : OpensAs Try.prog w 150 6 (GRun.cells false) GRun.ok := by intro H enc fuel cs x h; obtain ⟨xs, n, _, _, hl, hxs, hf⟩ := DataW.trod_struct Try.underlying150 h; obtain ⟨a0, k0, l0, c0⟩ := field_opens (i := 0) (ft := 3) (off := 0) hxs hf rfl (by kernel_rfl) (o_int w); obtain ⟨a1, k1, l1, c1⟩ := field_opens (i := 1) (ft := 58) (off := 1) hxs hf rfl (by kernel_rfl) (o_GCase w); exact ⟨(by rw [hl]; kernel_rfl), ⟨a0, a1⟩, ⟨k0, k1⟩, rfl, CellsAt.fin (CellsAt.append c0 (by rw [l0]) (CellsAt.append c1 (by rw [l1]) CellsAt.nil))⟩
theorem o_GRunS (w : World) : OpensAs Try.prog w 36 1 (fun l : List GRun => [.sl false 6 (l.map (GRun.cells false))]) (fun l => l.length ≤ 9223372036854775807 ∧ ∀ y ∈ l, GRun.ok y) := opens_slice Try.underlying36 (by kernel_rfl) (by decide) (o_GRun w)
theorem o_GHouse (w : World) : OpensAs Try.prog w 38 4 (GHouse.cells false) GHouse.ok := by intro H enc fuel cs x h; obtain ⟨xs, n, _, _, hl, hxs, hf⟩ := DataW.trod_struct Try.underlying38 h; obtain ⟨a0, k0, l0, c0⟩ := field_opens (i := 0) (ft := 33) (off := 0) hxs hf rfl (by kernel_rfl) (o_GNetS w); obtain ⟨a1, k1, l1, c1⟩ := field_opens (i := 1) (ft := 34) (off := 1) hxs hf rfl (by kernel_rfl) (o_ints w); obtain ⟨a2, k2, l2, c2⟩ := field_opens (i := 2) (ft := 35) (off := 2) hxs hf rfl (by kernel_rfl) (o_GNodeS w); obtain ⟨a3, k3, l3, c3⟩ := field_opens (i := 3) (ft := 36) (off := 3) hxs hf rfl (by kernel_rfl) (o_GRunS w); exact ⟨(by rw [hl]; kernel_rfl), ⟨a0, a1, a2, a3⟩, ⟨k0, k1, k2, k3⟩, rfl, CellsAt.fin (CellsAt.append c0 (by rw [l0]) (CellsAt.append c1 (by rw [l1]) (CellsAt.append c2 (by rw [l2]) (CellsAt.append c3 (by rw [l3]) CellsAt.nil))))⟩
theorem o_GReq (w : World) : OpensAs Try.prog w 87 11 (GReq.cells false) GReq.ok := by intro H enc fuel cs x h; obtain ⟨xs, n, _, _, hl, hxs, hf⟩ := DataW.trod_struct Try.underlying87 h; obtain ⟨a0, k0, l0, c0⟩ := field_opens (i := 0) (ft := 3) (off := 0) hxs hf rfl (by kernel_rfl) (o_int w); obtain ⟨a1, k1, l1, c1⟩ := field_opens (i := 1) (ft := 3) (off := 1) hxs hf rfl (by kernel_rfl) (o_int w); obtain ⟨a2, k2, l2, c2⟩ := field_opens (i := 2) (ft := 3) (off := 2) hxs hf rfl (by kernel_rfl) (o_int w); obtain ⟨a3, k3, l3, c3⟩ := field_opens (i := 3) (ft := 3) (off := 3) hxs hf rfl (by kernel_rfl) (o_int w); obtain ⟨a4, k4, l4, c4⟩ := field_opens (i := 4) (ft := 3) (off := 4) hxs hf rfl (by kernel_rfl) (o_int w); obtain ⟨a5, k5, l5, c5⟩ := field_opens (i := 5) (ft := 3) (off := 5) hxs hf rfl (by kernel_rfl) (o_int w); obtain ⟨a6, k6, l6, c6⟩ := field_opens (i := 6) (ft := 34) (off := 6) hxs hf rfl (by kernel_rfl) (o_ints w); obtain ⟨a7, k7, l7, c7⟩ := field_opens (i := 7) (ft := 85) (off := 7) hxs hf rfl (by kernel_rfl) (o_GAsk w); obtain ⟨a8, k8, l8, c8⟩ := field_opens (i := 8) (ft := 3) (off := 10) hxs hf rfl (by kernel_rfl) (o_int w); exact ⟨(by rw [hl]; kernel_rfl), ⟨a0, a1, a2, a3, a4, a5, a6, a7, a8⟩, ⟨k0, k1, k2, k3, k4, k5, k6, k7, k8⟩, rfl, CellsAt.fin (CellsAt.append c0 (by rw [l0]) (CellsAt.append c1 (by rw [l1]) (CellsAt.append c2 (by rw [l2]) (CellsAt.append c3 (by rw [l3]) (CellsAt.append c4 (by rw [l4]) (CellsAt.append c5 (by rw [l5]) (CellsAt.append c6 (by rw [l6]) (CellsAt.append c7 (by rw [l7]) (CellsAt.append c8 (by rw [l8]) CellsAt.nil)))))))))⟩
theorem o_GReqS (w : World) : OpensAs Try.prog w 22 1 (fun l : List GReq => [.sl false 11 (l.map (GReq.cells false))]) (fun l => l.length ≤ 9223372036854775807 ∧ ∀ y ∈ l, GReq.ok y) := opens_slice Try.underlying22 (by kernel_rfl) (by decide) (o_GReq w)
theorem GTask.ok_lens {x : GTask} (h : GTask.ok x) : GTask.lens (· ≤ 9223372036854775807) x := ⟨h.2.2.1.1, h.2.2.2.1.1, h.2.2.2.2.1.1⟩
theorem GNet.ok_lens {x : GNet} (h : GNet.ok x) : GNet.lens (· ≤ 9223372036854775807) x := ⟨h.2.1, fun y hy => GTask.ok_lens (h.2.2 y hy)⟩
theorem GCase.ok_lens {x : GCase} (h : GCase.ok x) : GCase.lens (· ≤ 9223372036854775807) x := ⟨h.2.1.1, h.2.2.1.1, h.2.2.2.1.1, h.2.2.2.2.1⟩
theorem GNode.ok_lens {x : GNode} (h : GNode.ok x) : GNode.lens (· ≤ 9223372036854775807) x := h.2.2.2.2.1
theorem GRun.ok_lens {x : GRun} (h : GRun.ok x) : GRun.lens (· ≤ 9223372036854775807) x := GCase.ok_lens h.2
theorem GHouse.ok_lens {x : GHouse} (h : GHouse.ok x) : GHouse.lens (· ≤ 9223372036854775807) x := ⟨⟨h.1.1, fun y hy => GNet.ok_lens (h.1.2 y hy)⟩, h.2.1.1, ⟨h.2.2.1.1, fun y hy => GNode.ok_lens (h.2.2.1.2 y hy)⟩, ⟨h.2.2.2.1, fun y hy => GRun.ok_lens (h.2.2.2.2 y hy)⟩⟩
theorem GReq.ok_lens {x : GReq} (h : GReq.ok x) : GReq.lens (· ≤ 9223372036854775807) x := h.2.2.2.2.2.2.1.1
end Go.Am
