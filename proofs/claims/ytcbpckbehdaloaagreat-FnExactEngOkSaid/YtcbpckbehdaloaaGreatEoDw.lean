/- The laws' own functions, with mirrors. Printed by wrap.py. Own work. -/
import Derived.Test.YtcbpckbehdaloaaGreatEoD1
import Derived.Test.YtcbpckbehdaloaaGreatEoD2
import Derived.Test.YtcbpckbehdaloaaGreatEoD3
import Derived.Test.YtcbpckbehdaloaaGreatAmYl
set_option linter.unusedSimpArgs false
set_option linter.unusedVariables false
set_option maxRecDepth 100000
namespace Go.Am
open Go Go.Proofs
theorem fnb_of {P : Program} {f : FuncId} {args res : List Arg} (h : FnP P f args res) : FnB P f args res [] := h
noncomputable def m_szIntS (l : List Int) (left : Int) : Option Int := @gd ((0 ≤ left) ∧ (left ≤ 1048576) ∧ (l.length ≤ 9223372036854775807)) (Classical.propDecidable _) _ (some (szR left l.length))
theorem cw_szIntS (l : List Int) (left : Int) (rz : Int) (hm : m_szIntS l left = some rz) : FnB Tryz.prog 57 [.c (.sl false 1 (l.map (fun n : Int => [cI n]))), .c (cI left)] [.c (cI rz)] [] := by
  obtain ⟨h, hm⟩ := @gd_some _ (Classical.propDecidable _) _ _ _ hm
  obtain rfl := Option.some.inj hm
  exact fnb_of (c_szIntS l left (h.1) (h.2.1) (h.2.2))
noncomputable def m_szNetFlowS (l : List GFlow) (left : Int) : Option Int := @gd ((0 ≤ left) ∧ (left ≤ 1048576) ∧ (l.length ≤ 9223372036854775807)) (Classical.propDecidable _) _ (some (szR left l.length))
theorem cw_szNetFlowS (l : List GFlow) (left : Int) (rz : Int) (hm : m_szNetFlowS l left = some rz) : FnB Tryz.prog 213 [.c (.sl false 4 (l.map (GFlow.cells false))), .c (cI left)] [.c (cI rz)] [] := by
  obtain ⟨h, hm⟩ := @gd_some _ (Classical.propDecidable _) _ _ _ hm
  obtain rfl := Option.some.inj hm
  exact fnb_of (c_szNetFlowS l left (h.1) (h.2.1) (h.2.2))
noncomputable def m_szNetTaskS (l : List GTask) (left : Int) : Option Int := @gd ((0 ≤ left) ∧ (left ≤ 1048576) ∧ (l.length ≤ 9223372036854775807) ∧ (∀ y ∈ l, GTask.lens (· ≤ 9223372036854775807) y)) (Classical.propDecidable _) _ (some (szR left (l.length + sumW GTask.W l)))
theorem cw_szNetTaskS (l : List GTask) (left : Int) (rz : Int) (hm : m_szNetTaskS l left = some rz) : FnB Tryz.prog 94 [.c (.sl false 9 (l.map (GTask.cells false))), .c (cI left)] [.c (cI rz)] [] := by
  obtain ⟨h, hm⟩ := @gd_some _ (Classical.propDecidable _) _ _ _ hm
  obtain rfl := Option.some.inj hm
  exact fnb_of (c_szNetTaskS l left (h.1) (h.2.1) (h.2.2.1) (h.2.2.2))
noncomputable def m_szNetNetS (l : List GNet) (left : Int) : Option Int := @gd ((0 ≤ left) ∧ (left ≤ 1048576) ∧ (l.length ≤ 9223372036854775807) ∧ (∀ y ∈ l, GNet.lens (· ≤ 9223372036854775807) y)) (Classical.propDecidable _) _ (some (szR left (l.length + sumW GNet.W l)))
theorem cw_szNetNetS (l : List GNet) (left : Int) (rz : Int) (hm : m_szNetNetS l left = some rz) : FnB Tryz.prog 47 [.c (.sl false 2 (l.map (GNet.cells false))), .c (cI left)] [.c (cI rz)] [] := by
  obtain ⟨h, hm⟩ := @gd_some _ (Classical.propDecidable _) _ _ _ hm
  obtain rfl := Option.some.inj hm
  exact fnb_of (c_szNetNetS l left (h.1) (h.2.1) (h.2.2.1) (h.2.2.2))
noncomputable def m_szCasItemS (l : List GItem) (left : Int) : Option Int := @gd ((0 ≤ left) ∧ (left ≤ 1048576) ∧ (l.length ≤ 9223372036854775807)) (Classical.propDecidable _) _ (some (szR left l.length))
theorem cw_szCasItemS (l : List GItem) (left : Int) (rz : Int) (hm : m_szCasItemS l left = some rz) : FnB Tryz.prog 95 [.c (.sl false 3 (l.map (GItem.cells false))), .c (cI left)] [.c (cI rz)] [] := by
  obtain ⟨h, hm⟩ := @gd_some _ (Classical.propDecidable _) _ _ _ hm
  obtain rfl := Option.some.inj hm
  exact fnb_of (c_szCasItemS l left (h.1) (h.2.1) (h.2.2))
noncomputable def m_szCasDidS (l : List GDid) (left : Int) : Option Int := @gd ((0 ≤ left) ∧ (left ≤ 1048576) ∧ (l.length ≤ 9223372036854775807)) (Classical.propDecidable _) _ (some (szR left l.length))
theorem cw_szCasDidS (l : List GDid) (left : Int) (rz : Int) (hm : m_szCasDidS l left = some rz) : FnB Tryz.prog 96 [.c (.sl false 2 (l.map (GDid.cells false))), .c (cI left)] [.c (cI rz)] [] := by
  obtain ⟨h, hm⟩ := @gd_some _ (Classical.propDecidable _) _ _ _ hm
  obtain rfl := Option.some.inj hm
  exact fnb_of (c_szCasDidS l left (h.1) (h.2.1) (h.2.2))
noncomputable def m_szRdrNodeS (l : List GNode) (left : Int) : Option Int := @gd ((0 ≤ left) ∧ (left ≤ 1048576) ∧ (l.length ≤ 9223372036854775807) ∧ (∀ y ∈ l, GNode.lens (· ≤ 9223372036854775807) y)) (Classical.propDecidable _) _ (some (szR left (l.length + sumW GNode.W l)))
theorem cw_szRdrNodeS (l : List GNode) (left : Int) (rz : Int) (hm : m_szRdrNodeS l left = some rz) : FnB Tryz.prog 58 [.c (.sl false 7 (l.map (GNode.cells false))), .c (cI left)] [.c (cI rz)] [] := by
  obtain ⟨h, hm⟩ := @gd_some _ (Classical.propDecidable _) _ _ _ hm
  obtain rfl := Option.some.inj hm
  exact fnb_of (c_szRdrNodeS l left (h.1) (h.2.1) (h.2.2.1) (h.2.2.2))
noncomputable def m_szEngRunS (l : List GRun) (left : Int) : Option Int := @gd ((0 ≤ left) ∧ (left ≤ 1048576) ∧ (l.length ≤ 9223372036854775807) ∧ (∀ y ∈ l, GRun.lens (· ≤ 9223372036854775807) y)) (Classical.propDecidable _) _ (some (szR left (l.length + sumW GRun.W l)))
theorem cw_szEngRunS (l : List GRun) (left : Int) (rz : Int) (hm : m_szEngRunS l left = some rz) : FnB Tryz.prog 59 [.c (.sl false 6 (l.map (GRun.cells false))), .c (cI left)] [.c (cI rz)] [] := by
  obtain ⟨h, hm⟩ := @gd_some _ (Classical.propDecidable _) _ _ _ hm
  obtain rfl := Option.some.inj hm
  exact fnb_of (c_szEngRunS l left (h.1) (h.2.1) (h.2.2.1) (h.2.2.2))
noncomputable def m_szNetTask (x : GTask) (left : Int) : Option Int := @gd ((0 ≤ left) ∧ (left ≤ 1048576) ∧ (GTask.lens (· ≤ 9223372036854775807) x)) (Classical.propDecidable _) _ (some (szR left (GTask.W x)))
theorem cw_szNetTask (x : GTask) (left : Int) (rz : Int) (hm : m_szNetTask x left = some rz) : FnB Tryz.prog 171 [.row (GTask.cells false x), .c (cI left)] [.c (cI rz)] [] := by
  obtain ⟨h, hm⟩ := @gd_some _ (Classical.propDecidable _) _ _ _ hm
  obtain rfl := Option.some.inj hm
  exact fnb_of (c_szNetTask x left (h.1) (h.2.1) (h.2.2))
noncomputable def m_szNetNet (x : GNet) (left : Int) : Option Int := @gd ((0 ≤ left) ∧ (left ≤ 1048576) ∧ (GNet.lens (· ≤ 9223372036854775807) x)) (Classical.propDecidable _) _ (some (szR left (GNet.W x)))
theorem cw_szNetNet (x : GNet) (left : Int) (rz : Int) (hm : m_szNetNet x left = some rz) : FnB Tryz.prog 33 [.row (GNet.cells false x), .c (cI left)] [.c (cI rz)] [] := by
  obtain ⟨h, hm⟩ := @gd_some _ (Classical.propDecidable _) _ _ _ hm
  obtain rfl := Option.some.inj hm
  exact fnb_of (c_szNetNet x left (h.1) (h.2.1) (h.2.2))
noncomputable def m_szCasCase (x : GCase) (left : Int) : Option Int := @gd ((0 ≤ left) ∧ (left ≤ 1048576) ∧ (GCase.lens (· ≤ 9223372036854775807) x)) (Classical.propDecidable _) _ (some (szR left (GCase.W x)))
theorem cw_szCasCase (x : GCase) (left : Int) (rz : Int) (hm : m_szCasCase x left = some rz) : FnB Tryz.prog 34 [.row (GCase.cells false x), .c (cI left)] [.c (cI rz)] [] := by
  obtain ⟨h, hm⟩ := @gd_some _ (Classical.propDecidable _) _ _ _ hm
  obtain rfl := Option.some.inj hm
  exact fnb_of (c_szCasCase x left (h.1) (h.2.1) (h.2.2))
noncomputable def m_szRdrNode (x : GNode) (left : Int) : Option Int := @gd ((0 ≤ left) ∧ (left ≤ 1048576) ∧ (GNode.lens (· ≤ 9223372036854775807) x)) (Classical.propDecidable _) _ (some (szR left (GNode.W x)))
theorem cw_szRdrNode (x : GNode) (left : Int) (rz : Int) (hm : m_szRdrNode x left = some rz) : FnB Tryz.prog 124 [.row (GNode.cells false x), .c (cI left)] [.c (cI rz)] [] := by
  obtain ⟨h, hm⟩ := @gd_some _ (Classical.propDecidable _) _ _ _ hm
  obtain rfl := Option.some.inj hm
  exact fnb_of (c_szRdrNode x left (h.1) (h.2.1) (h.2.2))
noncomputable def m_szEngRun (x : GRun) (left : Int) : Option Int := @gd ((0 ≤ left) ∧ (left ≤ 1048576) ∧ (GRun.lens (· ≤ 9223372036854775807) x)) (Classical.propDecidable _) _ (some (szR left (GRun.W x)))
theorem cw_szEngRun (x : GRun) (left : Int) (rz : Int) (hm : m_szEngRun x left = some rz) : FnB Tryz.prog 125 [.row (GRun.cells false x), .c (cI left)] [.c (cI rz)] [] := by
  obtain ⟨h, hm⟩ := @gd_some _ (Classical.propDecidable _) _ _ _ hm
  obtain rfl := Option.some.inj hm
  exact fnb_of (c_szEngRun x left (h.1) (h.2.1) (h.2.2))
noncomputable def m_szEngHouse (x : GHouse) (left : Int) : Option Int := @gd ((0 ≤ left) ∧ (left ≤ 1048576) ∧ (GHouse.lens (· ≤ 9223372036854775807) x)) (Classical.propDecidable _) _ (some (szR left (GHouse.W x)))
theorem cw_szEngHouse (x : GHouse) (left : Int) (rz : Int) (hm : m_szEngHouse x left = some rz) : FnB Tryz.prog 11 [.row (GHouse.cells false x), .c (cI left)] [.c (cI rz)] [] := by
  obtain ⟨h, hm⟩ := @gd_some _ (Classical.propDecidable _) _ _ _ hm
  obtain rfl := Option.some.inj hm
  exact fnb_of (c_szEngHouse x left (h.1) (h.2.1) (h.2.2))
noncomputable def m_toIntS (l : List Int) : Option (List Int) := @gd ((l.length ≤ 1048576)) (Classical.propDecidable _) _ (some l)
theorem cw_toIntS (l : List Int) (rz : List Int) (hm : m_toIntS l = some rz) : FnB Tryz.prog 37 [.c (.sl false 1 (l.map (fun n : Int => [cI n])))] [.c (.sl true 1 (rz.map (fun n : Int => [cI n])))] [] := by
  obtain ⟨h, hm⟩ := @gd_some _ (Classical.propDecidable _) _ _ _ hm
  obtain rfl := Option.some.inj hm
  exact fnb_of (c_toIntS l (h))
noncomputable def m_toNetFlowS (l : List GFlow) : Option (List GFlow) := @gd ((l.length ≤ 1048576)) (Classical.propDecidable _) _ (some l)
theorem cw_toNetFlowS (l : List GFlow) (rz : List GFlow) (hm : m_toNetFlowS l = some rz) : FnB Tryz.prog 216 [.c (.sl false 4 (l.map (GFlow.cells false)))] [.c (.sl true 4 (rz.map (GFlow.cells true)))] [] := by
  obtain ⟨h, hm⟩ := @gd_some _ (Classical.propDecidable _) _ _ _ hm
  obtain rfl := Option.some.inj hm
  exact fnb_of (c_toNetFlowS l (h))
noncomputable def m_toNetTaskS (l : List GTask) : Option (List GTask) := @gd ((l.length ≤ 1048576) ∧ (∀ y ∈ l, GTask.lens (· ≤ 1048576) y)) (Classical.propDecidable _) _ (some l)
theorem cw_toNetTaskS (l : List GTask) (rz : List GTask) (hm : m_toNetTaskS l = some rz) : FnB Tryz.prog 102 [.c (.sl false 9 (l.map (GTask.cells false)))] [.c (.sl true 9 (rz.map (GTask.cells true)))] [] := by
  obtain ⟨h, hm⟩ := @gd_some _ (Classical.propDecidable _) _ _ _ hm
  obtain rfl := Option.some.inj hm
  exact fnb_of (c_toNetTaskS l (h.1) (h.2))
noncomputable def m_toNetNetS (l : List GNet) : Option (List GNet) := @gd ((l.length ≤ 1048576) ∧ (∀ y ∈ l, GNet.lens (· ≤ 1048576) y)) (Classical.propDecidable _) _ (some l)
theorem cw_toNetNetS (l : List GNet) (rz : List GNet) (hm : m_toNetNetS l = some rz) : FnB Tryz.prog 49 [.c (.sl false 2 (l.map (GNet.cells false)))] [.c (.sl true 2 (rz.map (GNet.cells true)))] [] := by
  obtain ⟨h, hm⟩ := @gd_some _ (Classical.propDecidable _) _ _ _ hm
  obtain rfl := Option.some.inj hm
  exact fnb_of (c_toNetNetS l (h.1) (h.2))
noncomputable def m_toCasItemS (l : List GItem) : Option (List GItem) := @gd ((l.length ≤ 1048576)) (Classical.propDecidable _) _ (some l)
theorem cw_toCasItemS (l : List GItem) (rz : List GItem) (hm : m_toCasItemS l = some rz) : FnB Tryz.prog 103 [.c (.sl false 3 (l.map (GItem.cells false)))] [.c (.sl true 3 (rz.map (GItem.cells true)))] [] := by
  obtain ⟨h, hm⟩ := @gd_some _ (Classical.propDecidable _) _ _ _ hm
  obtain rfl := Option.some.inj hm
  exact fnb_of (c_toCasItemS l (h))
noncomputable def m_toCasDidS (l : List GDid) : Option (List GDid) := @gd ((l.length ≤ 1048576)) (Classical.propDecidable _) _ (some l)
theorem cw_toCasDidS (l : List GDid) (rz : List GDid) (hm : m_toCasDidS l = some rz) : FnB Tryz.prog 104 [.c (.sl false 2 (l.map (GDid.cells false)))] [.c (.sl true 2 (rz.map (GDid.cells true)))] [] := by
  obtain ⟨h, hm⟩ := @gd_some _ (Classical.propDecidable _) _ _ _ hm
  obtain rfl := Option.some.inj hm
  exact fnb_of (c_toCasDidS l (h))
noncomputable def m_toRdrNodeS (l : List GNode) : Option (List GNode) := @gd ((l.length ≤ 1048576) ∧ (∀ y ∈ l, GNode.lens (· ≤ 1048576) y)) (Classical.propDecidable _) _ (some l)
theorem cw_toRdrNodeS (l : List GNode) (rz : List GNode) (hm : m_toRdrNodeS l = some rz) : FnB Tryz.prog 63 [.c (.sl false 7 (l.map (GNode.cells false)))] [.c (.sl true 7 (rz.map (GNode.cells true)))] [] := by
  obtain ⟨h, hm⟩ := @gd_some _ (Classical.propDecidable _) _ _ _ hm
  obtain rfl := Option.some.inj hm
  exact fnb_of (c_toRdrNodeS l (h.1) (h.2))
noncomputable def m_toEngRunS (l : List GRun) : Option (List GRun) := @gd ((l.length ≤ 1048576) ∧ (∀ y ∈ l, GRun.lens (· ≤ 1048576) y)) (Classical.propDecidable _) _ (some l)
theorem cw_toEngRunS (l : List GRun) (rz : List GRun) (hm : m_toEngRunS l = some rz) : FnB Tryz.prog 64 [.c (.sl false 6 (l.map (GRun.cells false)))] [.c (.sl true 6 (rz.map (GRun.cells true)))] [] := by
  obtain ⟨h, hm⟩ := @gd_some _ (Classical.propDecidable _) _ _ _ hm
  obtain rfl := Option.some.inj hm
  exact fnb_of (c_toEngRunS l (h.1) (h.2))
noncomputable def m_toExpAsk (x : GAsk) : Option GAsk := @gd (True) (Classical.propDecidable _) _ (some x)
theorem cw_toExpAsk (x : GAsk) (rz : GAsk) (hm : m_toExpAsk x = some rz) : FnB Tryz.prog 65 [.row (GAsk.cells false x)] [.row (GAsk.cells true rz)] [] := by
  obtain ⟨h, hm⟩ := @gd_some _ (Classical.propDecidable _) _ _ _ hm
  obtain rfl := Option.some.inj hm
  exact fnb_of (c_toExpAsk x)
noncomputable def m_toNetFlow (x : GFlow) : Option GFlow := @gd (True) (Classical.propDecidable _) _ (some x)
theorem cw_toNetFlow (x : GFlow) (rz : GFlow) (hm : m_toNetFlow x = some rz) : FnB Tryz.prog 229 [.row (GFlow.cells false x)] [.row (GFlow.cells true rz)] [] := by
  obtain ⟨h, hm⟩ := @gd_some _ (Classical.propDecidable _) _ _ _ hm
  obtain rfl := Option.some.inj hm
  exact fnb_of (c_toNetFlow x)
noncomputable def m_toNetTask (x : GTask) : Option GTask := @gd ((GTask.lens (· ≤ 1048576) x)) (Classical.propDecidable _) _ (some x)
theorem cw_toNetTask (x : GTask) (rz : GTask) (hm : m_toNetTask x = some rz) : FnB Tryz.prog 175 [.row (GTask.cells false x)] [.row (GTask.cells true rz)] [] := by
  obtain ⟨h, hm⟩ := @gd_some _ (Classical.propDecidable _) _ _ _ hm
  obtain rfl := Option.some.inj hm
  exact fnb_of (c_toNetTask x (h))
noncomputable def m_toNetNet (x : GNet) : Option GNet := @gd ((GNet.lens (· ≤ 1048576) x)) (Classical.propDecidable _) _ (some x)
theorem cw_toNetNet (x : GNet) (rz : GNet) (hm : m_toNetNet x = some rz) : FnB Tryz.prog 36 [.row (GNet.cells false x)] [.row (GNet.cells true rz)] [] := by
  obtain ⟨h, hm⟩ := @gd_some _ (Classical.propDecidable _) _ _ _ hm
  obtain rfl := Option.some.inj hm
  exact fnb_of (c_toNetNet x (h))
noncomputable def m_toCasItem (x : GItem) : Option GItem := @gd (True) (Classical.propDecidable _) _ (some x)
theorem cw_toCasItem (x : GItem) (rz : GItem) (hm : m_toCasItem x = some rz) : FnB Tryz.prog 176 [.row (GItem.cells false x)] [.row (GItem.cells true rz)] [] := by
  obtain ⟨h, hm⟩ := @gd_some _ (Classical.propDecidable _) _ _ _ hm
  obtain rfl := Option.some.inj hm
  exact fnb_of (c_toCasItem x)
noncomputable def m_toCasDid (x : GDid) : Option GDid := @gd (True) (Classical.propDecidable _) _ (some x)
theorem cw_toCasDid (x : GDid) (rz : GDid) (hm : m_toCasDid x = some rz) : FnB Tryz.prog 177 [.row (GDid.cells false x)] [.row (GDid.cells true rz)] [] := by
  obtain ⟨h, hm⟩ := @gd_some _ (Classical.propDecidable _) _ _ _ hm
  obtain rfl := Option.some.inj hm
  exact fnb_of (c_toCasDid x)
noncomputable def m_toCasCase (x : GCase) : Option GCase := @gd ((GCase.lens (· ≤ 1048576) x)) (Classical.propDecidable _) _ (some x)
theorem cw_toCasCase (x : GCase) (rz : GCase) (hm : m_toCasCase x = some rz) : FnB Tryz.prog 38 [.row (GCase.cells false x)] [.row (GCase.cells true rz)] [] := by
  obtain ⟨h, hm⟩ := @gd_some _ (Classical.propDecidable _) _ _ _ hm
  obtain rfl := Option.some.inj hm
  exact fnb_of (c_toCasCase x (h))
noncomputable def m_toRdrNode (x : GNode) : Option GNode := @gd ((GNode.lens (· ≤ 1048576) x)) (Classical.propDecidable _) _ (some x)
theorem cw_toRdrNode (x : GNode) (rz : GNode) (hm : m_toRdrNode x = some rz) : FnB Tryz.prog 135 [.row (GNode.cells false x)] [.row (GNode.cells true rz)] [] := by
  obtain ⟨h, hm⟩ := @gd_some _ (Classical.propDecidable _) _ _ _ hm
  obtain rfl := Option.some.inj hm
  exact fnb_of (c_toRdrNode x (h))
noncomputable def m_toEngRun (x : GRun) : Option GRun := @gd ((GRun.lens (· ≤ 1048576) x)) (Classical.propDecidable _) _ (some x)
theorem cw_toEngRun (x : GRun) (rz : GRun) (hm : m_toEngRun x = some rz) : FnB Tryz.prog 136 [.row (GRun.cells false x)] [.row (GRun.cells true rz)] [] := by
  obtain ⟨h, hm⟩ := @gd_some _ (Classical.propDecidable _) _ _ _ hm
  obtain rfl := Option.some.inj hm
  exact fnb_of (c_toEngRun x (h))
noncomputable def m_toEngHouse (x : GHouse) : Option GHouse := @gd ((GHouse.lens (· ≤ 1048576) x)) (Classical.propDecidable _) _ (some x)
theorem cw_toEngHouse (x : GHouse) (rz : GHouse) (hm : m_toEngHouse x = some rz) : FnB Tryz.prog 14 [.row (GHouse.cells false x)] [.row (GHouse.cells true rz)] [] := by
  obtain ⟨h, hm⟩ := @gd_some _ (Classical.propDecidable _) _ _ _ hm
  obtain rfl := Option.some.inj hm
  exact fnb_of (c_toEngHouse x (h))
noncomputable def m_eqIntS (a : List Int) (b : List Int) : Option Bool := @gd ((a.length ≤ 1048576)) (Classical.propDecidable _) _ (some (decide (a = b)))
theorem cw_eqIntS (a : List Int) (b : List Int) (rz : Bool) (hm : m_eqIntS a b = some rz) : FnB Tryz.prog 42 [.c (.sl false 1 (a.map (fun n : Int => [cI n]))), .c (.sl false 1 (b.map (fun n : Int => [cI n])))] [.c (cB rz)] [] := by
  obtain ⟨h, hm⟩ := @gd_some _ (Classical.propDecidable _) _ _ _ hm
  obtain rfl := Option.some.inj hm
  exact fnb_of (c_eqIntS a b (h))
noncomputable def m_eqNetFlowS (a : List GFlow) (b : List GFlow) : Option Bool := @gd ((a.length ≤ 1048576)) (Classical.propDecidable _) _ (some (decide (a = b)))
theorem cw_eqNetFlowS (a : List GFlow) (b : List GFlow) (rz : Bool) (hm : m_eqNetFlowS a b = some rz) : FnB Tryz.prog 220 [.c (.sl false 4 (a.map (GFlow.cells false))), .c (.sl false 4 (b.map (GFlow.cells false)))] [.c (cB rz)] [] := by
  obtain ⟨h, hm⟩ := @gd_some _ (Classical.propDecidable _) _ _ _ hm
  obtain rfl := Option.some.inj hm
  exact fnb_of (c_eqNetFlowS a b (h))
noncomputable def m_eqNetTaskS (a : List GTask) (b : List GTask) : Option Bool := @gd ((a.length ≤ 1048576) ∧ (∀ y ∈ a, GTask.lens (· ≤ 1048576) y) ∧ (∀ y ∈ b, GTask.lens (· ≤ 1048576) y)) (Classical.propDecidable _) _ (some (decide (a = b)))
theorem cw_eqNetTaskS (a : List GTask) (b : List GTask) (rz : Bool) (hm : m_eqNetTaskS a b = some rz) : FnB Tryz.prog 113 [.c (.sl false 9 (a.map (GTask.cells false))), .c (.sl false 9 (b.map (GTask.cells false)))] [.c (cB rz)] [] := by
  obtain ⟨h, hm⟩ := @gd_some _ (Classical.propDecidable _) _ _ _ hm
  obtain rfl := Option.some.inj hm
  exact fnb_of (c_eqNetTaskS a b (h.1) (h.2.1) (h.2.2))
noncomputable def m_eqNetNetS (a : List GNet) (b : List GNet) : Option Bool := @gd ((a.length ≤ 1048576) ∧ (∀ y ∈ a, GNet.lens (· ≤ 1048576) y) ∧ (∀ y ∈ b, GNet.lens (· ≤ 1048576) y)) (Classical.propDecidable _) _ (some (decide (a = b)))
theorem cw_eqNetNetS (a : List GNet) (b : List GNet) (rz : Bool) (hm : m_eqNetNetS a b = some rz) : FnB Tryz.prog 51 [.c (.sl false 2 (a.map (GNet.cells false))), .c (.sl false 2 (b.map (GNet.cells false)))] [.c (cB rz)] [] := by
  obtain ⟨h, hm⟩ := @gd_some _ (Classical.propDecidable _) _ _ _ hm
  obtain rfl := Option.some.inj hm
  exact fnb_of (c_eqNetNetS a b (h.1) (h.2.1) (h.2.2))
noncomputable def m_eqCasItemS (a : List GItem) (b : List GItem) : Option Bool := @gd ((a.length ≤ 1048576)) (Classical.propDecidable _) _ (some (decide (a = b)))
theorem cw_eqCasItemS (a : List GItem) (b : List GItem) (rz : Bool) (hm : m_eqCasItemS a b = some rz) : FnB Tryz.prog 111 [.c (.sl false 3 (a.map (GItem.cells false))), .c (.sl false 3 (b.map (GItem.cells false)))] [.c (cB rz)] [] := by
  obtain ⟨h, hm⟩ := @gd_some _ (Classical.propDecidable _) _ _ _ hm
  obtain rfl := Option.some.inj hm
  exact fnb_of (c_eqCasItemS a b (h))
noncomputable def m_eqCasDidS (a : List GDid) (b : List GDid) : Option Bool := @gd ((a.length ≤ 1048576)) (Classical.propDecidable _) _ (some (decide (a = b)))
theorem cw_eqCasDidS (a : List GDid) (b : List GDid) (rz : Bool) (hm : m_eqCasDidS a b = some rz) : FnB Tryz.prog 112 [.c (.sl false 2 (a.map (GDid.cells false))), .c (.sl false 2 (b.map (GDid.cells false)))] [.c (cB rz)] [] := by
  obtain ⟨h, hm⟩ := @gd_some _ (Classical.propDecidable _) _ _ _ hm
  obtain rfl := Option.some.inj hm
  exact fnb_of (c_eqCasDidS a b (h))
noncomputable def m_eqRdrNodeS (a : List GNode) (b : List GNode) : Option Bool := @gd ((a.length ≤ 1048576) ∧ (∀ y ∈ a, GNode.lens (· ≤ 1048576) y) ∧ (∀ y ∈ b, GNode.lens (· ≤ 1048576) y)) (Classical.propDecidable _) _ (some (decide (a = b)))
theorem cw_eqRdrNodeS (a : List GNode) (b : List GNode) (rz : Bool) (hm : m_eqRdrNodeS a b = some rz) : FnB Tryz.prog 69 [.c (.sl false 7 (a.map (GNode.cells false))), .c (.sl false 7 (b.map (GNode.cells false)))] [.c (cB rz)] [] := by
  obtain ⟨h, hm⟩ := @gd_some _ (Classical.propDecidable _) _ _ _ hm
  obtain rfl := Option.some.inj hm
  exact fnb_of (c_eqRdrNodeS a b (h.1) (h.2.1) (h.2.2))
noncomputable def m_eqEngRunS (a : List GRun) (b : List GRun) : Option Bool := @gd ((a.length ≤ 1048576) ∧ (∀ y ∈ a, GRun.lens (· ≤ 1048576) y) ∧ (∀ y ∈ b, GRun.lens (· ≤ 1048576) y)) (Classical.propDecidable _) _ (some (decide (a = b)))
theorem cw_eqEngRunS (a : List GRun) (b : List GRun) (rz : Bool) (hm : m_eqEngRunS a b = some rz) : FnB Tryz.prog 70 [.c (.sl false 6 (a.map (GRun.cells false))), .c (.sl false 6 (b.map (GRun.cells false)))] [.c (cB rz)] [] := by
  obtain ⟨h, hm⟩ := @gd_some _ (Classical.propDecidable _) _ _ _ hm
  obtain rfl := Option.some.inj hm
  exact fnb_of (c_eqEngRunS a b (h.1) (h.2.1) (h.2.2))
noncomputable def m_eqExpAsk (x : GAsk) (y : GAsk) : Option Bool := @gd (True) (Classical.propDecidable _) _ (some (decide (x = y)))
theorem cw_eqExpAsk (x : GAsk) (y : GAsk) (rz : Bool) (hm : m_eqExpAsk x y = some rz) : FnB Tryz.prog 71 [.row (GAsk.cells false x), .row (GAsk.cells false y)] [.c (cB rz)] [] := by
  obtain ⟨h, hm⟩ := @gd_some _ (Classical.propDecidable _) _ _ _ hm
  obtain rfl := Option.some.inj hm
  exact fnb_of (c_eqExpAsk x y)
noncomputable def m_eqNetFlow (x : GFlow) (y : GFlow) : Option Bool := @gd (True) (Classical.propDecidable _) _ (some (decide (x = y)))
theorem cw_eqNetFlow (x : GFlow) (y : GFlow) (rz : Bool) (hm : m_eqNetFlow x y = some rz) : FnB Tryz.prog 233 [.row (GFlow.cells false x), .row (GFlow.cells false y)] [.c (cB rz)] [] := by
  obtain ⟨h, hm⟩ := @gd_some _ (Classical.propDecidable _) _ _ _ hm
  obtain rfl := Option.some.inj hm
  exact fnb_of (c_eqNetFlow x y)
noncomputable def m_eqNetTask (x : GTask) (y : GTask) : Option Bool := @gd ((GTask.lens (· ≤ 1048576) x) ∧ (GTask.lens (· ≤ 1048576) y)) (Classical.propDecidable _) _ (some (decide (x = y)))
theorem cw_eqNetTask (x : GTask) (y : GTask) (rz : Bool) (hm : m_eqNetTask x y = some rz) : FnB Tryz.prog 188 [.row (GTask.cells false x), .row (GTask.cells false y)] [.c (cB rz)] [] := by
  obtain ⟨h, hm⟩ := @gd_some _ (Classical.propDecidable _) _ _ _ hm
  obtain rfl := Option.some.inj hm
  exact fnb_of (c_eqNetTask x y (h.1) (h.2))
noncomputable def m_eqNetNet (x : GNet) (y : GNet) : Option Bool := @gd ((GNet.lens (· ≤ 1048576) x) ∧ (GNet.lens (· ≤ 1048576) y)) (Classical.propDecidable _) _ (some (decide (x = y)))
theorem cw_eqNetNet (x : GNet) (y : GNet) (rz : Bool) (hm : m_eqNetNet x y = some rz) : FnB Tryz.prog 41 [.row (GNet.cells false x), .row (GNet.cells false y)] [.c (cB rz)] [] := by
  obtain ⟨h, hm⟩ := @gd_some _ (Classical.propDecidable _) _ _ _ hm
  obtain rfl := Option.some.inj hm
  exact fnb_of (c_eqNetNet x y (h.1) (h.2))
noncomputable def m_eqCasItem (x : GItem) (y : GItem) : Option Bool := @gd (True) (Classical.propDecidable _) _ (some (decide (x = y)))
theorem cw_eqCasItem (x : GItem) (y : GItem) (rz : Bool) (hm : m_eqCasItem x y = some rz) : FnB Tryz.prog 186 [.row (GItem.cells false x), .row (GItem.cells false y)] [.c (cB rz)] [] := by
  obtain ⟨h, hm⟩ := @gd_some _ (Classical.propDecidable _) _ _ _ hm
  obtain rfl := Option.some.inj hm
  exact fnb_of (c_eqCasItem x y)
noncomputable def m_eqCasDid (x : GDid) (y : GDid) : Option Bool := @gd (True) (Classical.propDecidable _) _ (some (decide (x = y)))
theorem cw_eqCasDid (x : GDid) (y : GDid) (rz : Bool) (hm : m_eqCasDid x y = some rz) : FnB Tryz.prog 187 [.row (GDid.cells false x), .row (GDid.cells false y)] [.c (cB rz)] [] := by
  obtain ⟨h, hm⟩ := @gd_some _ (Classical.propDecidable _) _ _ _ hm
  obtain rfl := Option.some.inj hm
  exact fnb_of (c_eqCasDid x y)
noncomputable def m_eqCasCase (x : GCase) (y : GCase) : Option Bool := @gd ((GCase.lens (· ≤ 1048576) x) ∧ (GCase.lens (· ≤ 1048576) y)) (Classical.propDecidable _) _ (some (decide (x = y)))
theorem cw_eqCasCase (x : GCase) (y : GCase) (rz : Bool) (hm : m_eqCasCase x y = some rz) : FnB Tryz.prog 40 [.row (GCase.cells false x), .row (GCase.cells false y)] [.c (cB rz)] [] := by
  obtain ⟨h, hm⟩ := @gd_some _ (Classical.propDecidable _) _ _ _ hm
  obtain rfl := Option.some.inj hm
  exact fnb_of (c_eqCasCase x y (h.1) (h.2))
noncomputable def m_eqRdrNode (x : GNode) (y : GNode) : Option Bool := @gd ((GNode.lens (· ≤ 1048576) x) ∧ (GNode.lens (· ≤ 1048576) y)) (Classical.propDecidable _) _ (some (decide (x = y)))
theorem cw_eqRdrNode (x : GNode) (y : GNode) (rz : Bool) (hm : m_eqRdrNode x y = some rz) : FnB Tryz.prog 150 [.row (GNode.cells false x), .row (GNode.cells false y)] [.c (cB rz)] [] := by
  obtain ⟨h, hm⟩ := @gd_some _ (Classical.propDecidable _) _ _ _ hm
  obtain rfl := Option.some.inj hm
  exact fnb_of (c_eqRdrNode x y (h.1) (h.2))
noncomputable def m_eqEngRun (x : GRun) (y : GRun) : Option Bool := @gd ((GRun.lens (· ≤ 1048576) x) ∧ (GRun.lens (· ≤ 1048576) y)) (Classical.propDecidable _) _ (some (decide (x = y)))
theorem cw_eqEngRun (x : GRun) (y : GRun) (rz : Bool) (hm : m_eqEngRun x y = some rz) : FnB Tryz.prog 151 [.row (GRun.cells false x), .row (GRun.cells false y)] [.c (cB rz)] [] := by
  obtain ⟨h, hm⟩ := @gd_some _ (Classical.propDecidable _) _ _ _ hm
  obtain rfl := Option.some.inj hm
  exact fnb_of (c_eqEngRun x y (h.1) (h.2))
noncomputable def m_eqEngHouse (x : GHouse) (y : GHouse) : Option Bool := @gd ((GHouse.lens (· ≤ 1048576) x) ∧ (GHouse.lens (· ≤ 1048576) y)) (Classical.propDecidable _) _ (some (decide (x = y)))
theorem cw_eqEngHouse (x : GHouse) (y : GHouse) (rz : Bool) (hm : m_eqEngHouse x y = some rz) : FnB Tryz.prog 17 [.row (GHouse.cells false x), .row (GHouse.cells false y)] [.c (cB rz)] [] := by
  obtain ⟨h, hm⟩ := @gd_some _ (Classical.propDecidable _) _ _ _ hm
  obtain rfl := Option.some.inj hm
  exact fnb_of (c_eqEngHouse x y (h.1) (h.2))
end Go.Am
