/- The laws' own functions, with mirrors. Printed by wrap.py. Own work. -/
import Derived.Test.YtcbpckbehdaloaaCsD1
import Derived.Test.YtcbpckbehdaloaaCsD2
import Derived.Test.YtcbpckbehdaloaaCsD3
import Derived.Test.YtcbpckbehdaloaaAmYl
set_option linter.unusedSimpArgs false
set_option linter.unusedVariables false
set_option maxRecDepth 100000
namespace Go.Am
open Go Go.Proofs
theorem fnb_of {P : Program} {f : FuncId} {args res : List Arg} (h : FnP P f args res) : FnB P f args res [] := h
noncomputable def m_szIntS (l : List Int) (left : Int) : Option Int := @gd ((0 ≤ left) ∧ (left ≤ 1048576) ∧ (l.length ≤ 9223372036854775807)) (Classical.propDecidable _) _ (some (szR left l.length))
theorem cw_szIntS (l : List Int) (left : Int) (rz : Int) (hm : m_szIntS l left = some rz) : FnB Try.prog 59 [.c (.sl false 1 (l.map (fun n : Int => [cI n]))), .c (cI left)] [.c (cI rz)] [] := by
  obtain ⟨h, hm⟩ := @gd_some _ (Classical.propDecidable _) _ _ _ hm
  obtain rfl := Option.some.inj hm
  exact fnb_of (c_szIntS l left (h.1) (h.2.1) (h.2.2))
noncomputable def m_szNetFlowS (l : List GFlow) (left : Int) : Option Int := @gd ((0 ≤ left) ∧ (left ≤ 1048576) ∧ (l.length ≤ 9223372036854775807)) (Classical.propDecidable _) _ (some (szR left l.length))
theorem cw_szNetFlowS (l : List GFlow) (left : Int) (rz : Int) (hm : m_szNetFlowS l left = some rz) : FnB Try.prog 137 [.c (.sl false 4 (l.map (GFlow.cells false))), .c (cI left)] [.c (cI rz)] [] := by
  obtain ⟨h, hm⟩ := @gd_some _ (Classical.propDecidable _) _ _ _ hm
  obtain rfl := Option.some.inj hm
  exact fnb_of (c_szNetFlowS l left (h.1) (h.2.1) (h.2.2))
noncomputable def m_szNetTaskS (l : List GTask) (left : Int) : Option Int := @gd ((0 ≤ left) ∧ (left ≤ 1048576) ∧ (l.length ≤ 9223372036854775807) ∧ (∀ y ∈ l, GTask.lens (· ≤ 9223372036854775807) y)) (Classical.propDecidable _) _ (some (szR left (l.length + sumW GTask.W l)))
theorem cw_szNetTaskS (l : List GTask) (left : Int) (rz : Int) (hm : m_szNetTaskS l left = some rz) : FnB Try.prog 72 [.c (.sl false 9 (l.map (GTask.cells false))), .c (cI left)] [.c (cI rz)] [] := by
  obtain ⟨h, hm⟩ := @gd_some _ (Classical.propDecidable _) _ _ _ hm
  obtain rfl := Option.some.inj hm
  exact fnb_of (c_szNetTaskS l left (h.1) (h.2.1) (h.2.2.1) (h.2.2.2))
noncomputable def m_szCasItemS (l : List GItem) (left : Int) : Option Int := @gd ((0 ≤ left) ∧ (left ≤ 1048576) ∧ (l.length ≤ 9223372036854775807)) (Classical.propDecidable _) _ (some (szR left l.length))
theorem cw_szCasItemS (l : List GItem) (left : Int) (rz : Int) (hm : m_szCasItemS l left = some rz) : FnB Try.prog 73 [.c (.sl false 3 (l.map (GItem.cells false))), .c (cI left)] [.c (cI rz)] [] := by
  obtain ⟨h, hm⟩ := @gd_some _ (Classical.propDecidable _) _ _ _ hm
  obtain rfl := Option.some.inj hm
  exact fnb_of (c_szCasItemS l left (h.1) (h.2.1) (h.2.2))
noncomputable def m_szCasDidS (l : List GDid) (left : Int) : Option Int := @gd ((0 ≤ left) ∧ (left ≤ 1048576) ∧ (l.length ≤ 9223372036854775807)) (Classical.propDecidable _) _ (some (szR left l.length))
theorem cw_szCasDidS (l : List GDid) (left : Int) (rz : Int) (hm : m_szCasDidS l left = some rz) : FnB Try.prog 74 [.c (.sl false 2 (l.map (GDid.cells false))), .c (cI left)] [.c (cI rz)] [] := by
  obtain ⟨h, hm⟩ := @gd_some _ (Classical.propDecidable _) _ _ _ hm
  obtain rfl := Option.some.inj hm
  exact fnb_of (c_szCasDidS l left (h.1) (h.2.1) (h.2.2))
noncomputable def m_szNetTask (x : GTask) (left : Int) : Option Int := @gd ((0 ≤ left) ∧ (left ≤ 1048576) ∧ (GTask.lens (· ≤ 9223372036854775807) x)) (Classical.propDecidable _) _ (some (szR left (GTask.W x)))
theorem cw_szNetTask (x : GTask) (left : Int) (rz : Int) (hm : m_szNetTask x left = some rz) : FnB Try.prog 117 [.row (GTask.cells false x), .c (cI left)] [.c (cI rz)] [] := by
  obtain ⟨h, hm⟩ := @gd_some _ (Classical.propDecidable _) _ _ _ hm
  obtain rfl := Option.some.inj hm
  exact fnb_of (c_szNetTask x left (h.1) (h.2.1) (h.2.2))
noncomputable def m_szNetNet (x : GNet) (left : Int) : Option Int := @gd ((0 ≤ left) ∧ (left ≤ 1048576) ∧ (GNet.lens (· ≤ 9223372036854775807) x)) (Classical.propDecidable _) _ (some (szR left (GNet.W x)))
theorem cw_szNetNet (x : GNet) (left : Int) (rz : Int) (hm : m_szNetNet x left = some rz) : FnB Try.prog 31 [.row (GNet.cells false x), .c (cI left)] [.c (cI rz)] [] := by
  obtain ⟨h, hm⟩ := @gd_some _ (Classical.propDecidable _) _ _ _ hm
  obtain rfl := Option.some.inj hm
  exact fnb_of (c_szNetNet x left (h.1) (h.2.1) (h.2.2))
noncomputable def m_szCasCase (x : GCase) (left : Int) : Option Int := @gd ((0 ≤ left) ∧ (left ≤ 1048576) ∧ (GCase.lens (· ≤ 9223372036854775807) x)) (Classical.propDecidable _) _ (some (szR left (GCase.W x)))
theorem cw_szCasCase (x : GCase) (left : Int) (rz : Int) (hm : m_szCasCase x left = some rz) : FnB Try.prog 32 [.row (GCase.cells false x), .c (cI left)] [.c (cI rz)] [] := by
  obtain ⟨h, hm⟩ := @gd_some _ (Classical.propDecidable _) _ _ _ hm
  obtain rfl := Option.some.inj hm
  exact fnb_of (c_szCasCase x left (h.1) (h.2.1) (h.2.2))
noncomputable def m_toIntS (l : List Int) : Option (List Int) := @gd ((l.length ≤ 1048576)) (Classical.propDecidable _) _ (some l)
theorem cw_toIntS (l : List Int) (rz : List Int) (hm : m_toIntS l = some rz) : FnB Try.prog 63 [.c (.sl false 1 (l.map (fun n : Int => [cI n])))] [.c (.sl true 1 (rz.map (fun n : Int => [cI n])))] [] := by
  obtain ⟨h, hm⟩ := @gd_some _ (Classical.propDecidable _) _ _ _ hm
  obtain rfl := Option.some.inj hm
  exact fnb_of (c_toIntS l (h))
noncomputable def m_toNetFlowS (l : List GFlow) : Option (List GFlow) := @gd ((l.length ≤ 1048576)) (Classical.propDecidable _) _ (some l)
theorem cw_toNetFlowS (l : List GFlow) (rz : List GFlow) (hm : m_toNetFlowS l = some rz) : FnB Try.prog 139 [.c (.sl false 4 (l.map (GFlow.cells false)))] [.c (.sl true 4 (rz.map (GFlow.cells true)))] [] := by
  obtain ⟨h, hm⟩ := @gd_some _ (Classical.propDecidable _) _ _ _ hm
  obtain rfl := Option.some.inj hm
  exact fnb_of (c_toNetFlowS l (h))
noncomputable def m_toNetTaskS (l : List GTask) : Option (List GTask) := @gd ((l.length ≤ 1048576) ∧ (∀ y ∈ l, GTask.lens (· ≤ 1048576) y)) (Classical.propDecidable _) _ (some l)
theorem cw_toNetTaskS (l : List GTask) (rz : List GTask) (hm : m_toNetTaskS l = some rz) : FnB Try.prog 76 [.c (.sl false 9 (l.map (GTask.cells false)))] [.c (.sl true 9 (rz.map (GTask.cells true)))] [] := by
  obtain ⟨h, hm⟩ := @gd_some _ (Classical.propDecidable _) _ _ _ hm
  obtain rfl := Option.some.inj hm
  exact fnb_of (c_toNetTaskS l (h.1) (h.2))
noncomputable def m_toCasItemS (l : List GItem) : Option (List GItem) := @gd ((l.length ≤ 1048576)) (Classical.propDecidable _) _ (some l)
theorem cw_toCasItemS (l : List GItem) (rz : List GItem) (hm : m_toCasItemS l = some rz) : FnB Try.prog 77 [.c (.sl false 3 (l.map (GItem.cells false)))] [.c (.sl true 3 (rz.map (GItem.cells true)))] [] := by
  obtain ⟨h, hm⟩ := @gd_some _ (Classical.propDecidable _) _ _ _ hm
  obtain rfl := Option.some.inj hm
  exact fnb_of (c_toCasItemS l (h))
noncomputable def m_toCasDidS (l : List GDid) : Option (List GDid) := @gd ((l.length ≤ 1048576)) (Classical.propDecidable _) _ (some l)
theorem cw_toCasDidS (l : List GDid) (rz : List GDid) (hm : m_toCasDidS l = some rz) : FnB Try.prog 78 [.c (.sl false 2 (l.map (GDid.cells false)))] [.c (.sl true 2 (rz.map (GDid.cells true)))] [] := by
  obtain ⟨h, hm⟩ := @gd_some _ (Classical.propDecidable _) _ _ _ hm
  obtain rfl := Option.some.inj hm
  exact fnb_of (c_toCasDidS l (h))
noncomputable def m_toExpAsk (x : GAsk) : Option GAsk := @gd (True) (Classical.propDecidable _) _ (some x)
theorem cw_toExpAsk (x : GAsk) (rz : GAsk) (hm : m_toExpAsk x = some rz) : FnB Try.prog 99 [.row (GAsk.cells false x)] [.row (GAsk.cells true rz)] [] := by
  obtain ⟨h, hm⟩ := @gd_some _ (Classical.propDecidable _) _ _ _ hm
  obtain rfl := Option.some.inj hm
  exact fnb_of (c_toExpAsk x)
noncomputable def m_toNetFlow (x : GFlow) : Option GFlow := @gd (True) (Classical.propDecidable _) _ (some x)
theorem cw_toNetFlow (x : GFlow) (rz : GFlow) (hm : m_toNetFlow x = some rz) : FnB Try.prog 146 [.row (GFlow.cells false x)] [.row (GFlow.cells true rz)] [] := by
  obtain ⟨h, hm⟩ := @gd_some _ (Classical.propDecidable _) _ _ _ hm
  obtain rfl := Option.some.inj hm
  exact fnb_of (c_toNetFlow x)
noncomputable def m_toNetTask (x : GTask) : Option GTask := @gd ((GTask.lens (· ≤ 1048576) x)) (Classical.propDecidable _) _ (some x)
theorem cw_toNetTask (x : GTask) (rz : GTask) (hm : m_toNetTask x = some rz) : FnB Try.prog 120 [.row (GTask.cells false x)] [.row (GTask.cells true rz)] [] := by
  obtain ⟨h, hm⟩ := @gd_some _ (Classical.propDecidable _) _ _ _ hm
  obtain rfl := Option.some.inj hm
  exact fnb_of (c_toNetTask x (h))
noncomputable def m_toNetNet (x : GNet) : Option GNet := @gd ((GNet.lens (· ≤ 1048576) x)) (Classical.propDecidable _) _ (some x)
theorem cw_toNetNet (x : GNet) (rz : GNet) (hm : m_toNetNet x = some rz) : FnB Try.prog 34 [.row (GNet.cells false x)] [.row (GNet.cells true rz)] [] := by
  obtain ⟨h, hm⟩ := @gd_some _ (Classical.propDecidable _) _ _ _ hm
  obtain rfl := Option.some.inj hm
  exact fnb_of (c_toNetNet x (h))
noncomputable def m_toCasItem (x : GItem) : Option GItem := @gd (True) (Classical.propDecidable _) _ (some x)
theorem cw_toCasItem (x : GItem) (rz : GItem) (hm : m_toCasItem x = some rz) : FnB Try.prog 121 [.row (GItem.cells false x)] [.row (GItem.cells true rz)] [] := by
  obtain ⟨h, hm⟩ := @gd_some _ (Classical.propDecidable _) _ _ _ hm
  obtain rfl := Option.some.inj hm
  exact fnb_of (c_toCasItem x)
noncomputable def m_toCasDid (x : GDid) : Option GDid := @gd (True) (Classical.propDecidable _) _ (some x)
theorem cw_toCasDid (x : GDid) (rz : GDid) (hm : m_toCasDid x = some rz) : FnB Try.prog 122 [.row (GDid.cells false x)] [.row (GDid.cells true rz)] [] := by
  obtain ⟨h, hm⟩ := @gd_some _ (Classical.propDecidable _) _ _ _ hm
  obtain rfl := Option.some.inj hm
  exact fnb_of (c_toCasDid x)
noncomputable def m_toCasCase (x : GCase) : Option GCase := @gd ((GCase.lens (· ≤ 1048576) x)) (Classical.propDecidable _) _ (some x)
theorem cw_toCasCase (x : GCase) (rz : GCase) (hm : m_toCasCase x = some rz) : FnB Try.prog 35 [.row (GCase.cells false x)] [.row (GCase.cells true rz)] [] := by
  obtain ⟨h, hm⟩ := @gd_some _ (Classical.propDecidable _) _ _ _ hm
  obtain rfl := Option.some.inj hm
  exact fnb_of (c_toCasCase x (h))
noncomputable def m_eqIntS (a : List Int) (b : List Int) : Option Bool := @gd ((a.length ≤ 1048576)) (Classical.propDecidable _) _ (some (decide (a = b)))
theorem cw_eqIntS (a : List Int) (b : List Int) (rz : Bool) (hm : m_eqIntS a b = some rz) : FnB Try.prog 26 [.c (.sl false 1 (a.map (fun n : Int => [cI n]))), .c (.sl false 1 (b.map (fun n : Int => [cI n])))] [.c (cB rz)] [] := by
  obtain ⟨h, hm⟩ := @gd_some _ (Classical.propDecidable _) _ _ _ hm
  obtain rfl := Option.some.inj hm
  exact fnb_of (c_eqIntS a b (h))
noncomputable def m_eqNetFlowS (a : List GFlow) (b : List GFlow) : Option Bool := @gd ((a.length ≤ 1048576)) (Classical.propDecidable _) _ (some (decide (a = b)))
theorem cw_eqNetFlowS (a : List GFlow) (b : List GFlow) (rz : Bool) (hm : m_eqNetFlowS a b = some rz) : FnB Try.prog 142 [.c (.sl false 4 (a.map (GFlow.cells false))), .c (.sl false 4 (b.map (GFlow.cells false)))] [.c (cB rz)] [] := by
  obtain ⟨h, hm⟩ := @gd_some _ (Classical.propDecidable _) _ _ _ hm
  obtain rfl := Option.some.inj hm
  exact fnb_of (c_eqNetFlowS a b (h))
noncomputable def m_eqNetTaskS (a : List GTask) (b : List GTask) : Option Bool := @gd ((a.length ≤ 1048576) ∧ (∀ y ∈ a, GTask.lens (· ≤ 1048576) y) ∧ (∀ y ∈ b, GTask.lens (· ≤ 1048576) y)) (Classical.propDecidable _) _ (some (decide (a = b)))
theorem cw_eqNetTaskS (a : List GTask) (b : List GTask) (rz : Bool) (hm : m_eqNetTaskS a b = some rz) : FnB Try.prog 82 [.c (.sl false 9 (a.map (GTask.cells false))), .c (.sl false 9 (b.map (GTask.cells false)))] [.c (cB rz)] [] := by
  obtain ⟨h, hm⟩ := @gd_some _ (Classical.propDecidable _) _ _ _ hm
  obtain rfl := Option.some.inj hm
  exact fnb_of (c_eqNetTaskS a b (h.1) (h.2.1) (h.2.2))
noncomputable def m_eqCasItemS (a : List GItem) (b : List GItem) : Option Bool := @gd ((a.length ≤ 1048576)) (Classical.propDecidable _) _ (some (decide (a = b)))
theorem cw_eqCasItemS (a : List GItem) (b : List GItem) (rz : Bool) (hm : m_eqCasItemS a b = some rz) : FnB Try.prog 83 [.c (.sl false 3 (a.map (GItem.cells false))), .c (.sl false 3 (b.map (GItem.cells false)))] [.c (cB rz)] [] := by
  obtain ⟨h, hm⟩ := @gd_some _ (Classical.propDecidable _) _ _ _ hm
  obtain rfl := Option.some.inj hm
  exact fnb_of (c_eqCasItemS a b (h))
noncomputable def m_eqCasDidS (a : List GDid) (b : List GDid) : Option Bool := @gd ((a.length ≤ 1048576)) (Classical.propDecidable _) _ (some (decide (a = b)))
theorem cw_eqCasDidS (a : List GDid) (b : List GDid) (rz : Bool) (hm : m_eqCasDidS a b = some rz) : FnB Try.prog 84 [.c (.sl false 2 (a.map (GDid.cells false))), .c (.sl false 2 (b.map (GDid.cells false)))] [.c (cB rz)] [] := by
  obtain ⟨h, hm⟩ := @gd_some _ (Classical.propDecidable _) _ _ _ hm
  obtain rfl := Option.some.inj hm
  exact fnb_of (c_eqCasDidS a b (h))
noncomputable def m_eqExpAsk (x : GAsk) (y : GAsk) : Option Bool := @gd (True) (Classical.propDecidable _) _ (some (decide (x = y)))
theorem cw_eqExpAsk (x : GAsk) (y : GAsk) (rz : Bool) (hm : m_eqExpAsk x y = some rz) : FnB Try.prog 100 [.row (GAsk.cells false x), .row (GAsk.cells false y)] [.c (cB rz)] [] := by
  obtain ⟨h, hm⟩ := @gd_some _ (Classical.propDecidable _) _ _ _ hm
  obtain rfl := Option.some.inj hm
  exact fnb_of (c_eqExpAsk x y)
noncomputable def m_eqNetFlow (x : GFlow) (y : GFlow) : Option Bool := @gd (True) (Classical.propDecidable _) _ (some (decide (x = y)))
theorem cw_eqNetFlow (x : GFlow) (y : GFlow) (rz : Bool) (hm : m_eqNetFlow x y = some rz) : FnB Try.prog 151 [.row (GFlow.cells false x), .row (GFlow.cells false y)] [.c (cB rz)] [] := by
  obtain ⟨h, hm⟩ := @gd_some _ (Classical.propDecidable _) _ _ _ hm
  obtain rfl := Option.some.inj hm
  exact fnb_of (c_eqNetFlow x y)
noncomputable def m_eqNetTask (x : GTask) (y : GTask) : Option Bool := @gd ((GTask.lens (· ≤ 1048576) x) ∧ (GTask.lens (· ≤ 1048576) y)) (Classical.propDecidable _) _ (some (decide (x = y)))
theorem cw_eqNetTask (x : GTask) (y : GTask) (rz : Bool) (hm : m_eqNetTask x y = some rz) : FnB Try.prog 129 [.row (GTask.cells false x), .row (GTask.cells false y)] [.c (cB rz)] [] := by
  obtain ⟨h, hm⟩ := @gd_some _ (Classical.propDecidable _) _ _ _ hm
  obtain rfl := Option.some.inj hm
  exact fnb_of (c_eqNetTask x y (h.1) (h.2))
noncomputable def m_eqNetNet (x : GNet) (y : GNet) : Option Bool := @gd ((GNet.lens (· ≤ 1048576) x) ∧ (GNet.lens (· ≤ 1048576) y)) (Classical.propDecidable _) _ (some (decide (x = y)))
theorem cw_eqNetNet (x : GNet) (y : GNet) (rz : Bool) (hm : m_eqNetNet x y = some rz) : FnB Try.prog 37 [.row (GNet.cells false x), .row (GNet.cells false y)] [.c (cB rz)] [] := by
  obtain ⟨h, hm⟩ := @gd_some _ (Classical.propDecidable _) _ _ _ hm
  obtain rfl := Option.some.inj hm
  exact fnb_of (c_eqNetNet x y (h.1) (h.2))
noncomputable def m_eqCasItem (x : GItem) (y : GItem) : Option Bool := @gd (True) (Classical.propDecidable _) _ (some (decide (x = y)))
theorem cw_eqCasItem (x : GItem) (y : GItem) (rz : Bool) (hm : m_eqCasItem x y = some rz) : FnB Try.prog 130 [.row (GItem.cells false x), .row (GItem.cells false y)] [.c (cB rz)] [] := by
  obtain ⟨h, hm⟩ := @gd_some _ (Classical.propDecidable _) _ _ _ hm
  obtain rfl := Option.some.inj hm
  exact fnb_of (c_eqCasItem x y)
noncomputable def m_eqCasDid (x : GDid) (y : GDid) : Option Bool := @gd (True) (Classical.propDecidable _) _ (some (decide (x = y)))
theorem cw_eqCasDid (x : GDid) (y : GDid) (rz : Bool) (hm : m_eqCasDid x y = some rz) : FnB Try.prog 131 [.row (GDid.cells false x), .row (GDid.cells false y)] [.c (cB rz)] [] := by
  obtain ⟨h, hm⟩ := @gd_some _ (Classical.propDecidable _) _ _ _ hm
  obtain rfl := Option.some.inj hm
  exact fnb_of (c_eqCasDid x y)
noncomputable def m_eqCasCase (x : GCase) (y : GCase) : Option Bool := @gd ((GCase.lens (· ≤ 1048576) x) ∧ (GCase.lens (· ≤ 1048576) y)) (Classical.propDecidable _) _ (some (decide (x = y)))
theorem cw_eqCasCase (x : GCase) (y : GCase) (rz : Bool) (hm : m_eqCasCase x y = some rz) : FnB Try.prog 38 [.row (GCase.cells false x), .row (GCase.cells false y)] [.c (cB rz)] [] := by
  obtain ⟨h, hm⟩ := @gd_some _ (Classical.propDecidable _) _ _ _ hm
  obtain rfl := Option.some.inj hm
  exact fnb_of (c_eqCasCase x y (h.1) (h.2))
end Go.Am
