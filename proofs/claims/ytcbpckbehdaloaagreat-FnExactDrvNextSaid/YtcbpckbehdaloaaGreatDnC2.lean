/- Mirrors and contracts, printed. Own work. -/
import Derived.Test.YtcbpckbehdaloaaGreatDnC1
set_option linter.unusedSimpArgs false
set_option maxRecDepth 100000
set_option maxHeartbeats 4000000
set_option linter.unusedVariables false
namespace Go.Am
noncomputable section
open Go Go.Proofs
def m_impl_PplHas (people : List Int) (who : Int) (role : Int) : Option Bool := (m_impl_PplOk people).bind fun x1 => (if x1 = true then ((m_impl_in who 1 (people.length : Int)).bind fun x3 => (if x3 = true then ((m_impl_isRole role).bind fun x5 => (if x5 = true then (gd (ok64 (who - 1)) ((getI people (who - 1)).bind fun x8 => (gd (ok64 (role - 1)) (gd ((0 : Int) ≤ (role - 1) ∧ (role - 1) ≤ (63 : Int)) (some (decide ((andI (shrI x8 (role - 1)) 1) = 1))))))) else (some false))) else (some false))) else (some false))
def k_impl_PplHas : Con := ⟨184, [.v (.sl .I) false, .v .I false, .v .I false], [(.B, true)], [], fun x => m_impl_PplHas x.1 x.2.1 x.2.2.1⟩
def f_impl_PplHas : Fs := ⟨[k_impl_PplOk, k_impl_in, k_impl_isRole], []⟩
theorem g_impl_PplHas : f_impl_PplHas.Ok Tryz.prog := (fsK o_impl_PplOk (fsK o_impl_in (fsK o_impl_isRole fs0)))
theorem o_impl_PplHas : k_impl_PplHas.Ok Tryz.prog := fn_ok (k := k_impl_PplHas) (fn := Tryz.f184) (W := []) (H := []) Tryz.func184 g_impl_PplHas trivial rfl rfl (fun av x => by kernel_rfl)

def m_impl_PplDid (did : List GDid) (who : Int) (task : Int) : Option Bool := (m_Contains_GDid did (GDid.mk task who)).bind fun x1 => (some x1)
def k_impl_PplDid : Con := ⟨185, [.v (.sl (.s .did)) false, .v .I false, .v .I false], [(.B, true)], [], fun x => m_impl_PplDid x.1 x.2.1 x.2.2.1⟩
def f_impl_PplDid : Fs := ⟨[k_Contains_GDid], []⟩
theorem g_impl_PplDid : f_impl_PplDid.Ok Tryz.prog := (fsK o_Contains_GDid fs0)
theorem o_impl_PplDid : k_impl_PplDid.Ok Tryz.prog := fn_ok (k := k_impl_PplDid) (fn := Tryz.f185) (W := []) (H := []) Tryz.func185 g_impl_PplDid trivial rfl rfl (fun av x => by kernel_rfl)

def m_impl_persons_k1 (l0_1 : List Int) : Option (List Int) := some l0_1
def m_impl_persons_l0 (p : Int → Option Bool) (p0_0 : Int) (kx0_0 : List Int → Option (List Int)) : Nat → Int → List Int → Option (List Int)
  | 0, _, _ => none
  | n0 + 1, s0_0, l0_1 => if decide (s0_0 < p0_0) = true then (gd (ok64 (s0_0 + 1)) ((p (s0_0 + 1)).bind fun x5 => (if x5 = true then (gd (ok64 (s0_0 + 1)) (gd (l0_1.length + [(s0_0 + 1)].length ≤ SMALL) (gd (ok64 (s0_0 + 1)) ((m_impl_persons_l0 p p0_0 kx0_0 n0) (s0_0 + 1) (l0_1 ++ [(s0_0 + 1)]))))) else (gd (ok64 (s0_0 + 1)) ((m_impl_persons_l0 p p0_0 kx0_0 n0) (s0_0 + 1) l0_1))))) else (kx0_0 l0_1)
def m_impl_persons (people : List Int) (p : Int → Option Bool) : Option (List Int) := (m_impl_PplOk people).bind fun x1 => (if x1 = true then (m_impl_persons_l0 p (people.length : Int) m_impl_persons_k1 FUEL 0 ([] : List Int)) else (some []))
def k_impl_persons : Con := ⟨180, [.v (.sl .I) false, .fn .I], [((.sl .I), true)], [], fun x => m_impl_persons x.1 x.2.1⟩
def f_impl_persons : Fs := ⟨[k_impl_PplOk], []⟩
theorem g_impl_persons : f_impl_persons.Ok Tryz.prog := (fsK o_impl_PplOk fs0)
def t_impl_persons_0 : Tmpl := ⟨[(1, .c .fp), (5, .c (.ref 500005)), (11, .c .i), (12, .c .i)], [(500005, .arr .I true)]⟩
def x0_impl_persons_0 : Tmpl := ⟨[(5, .c (.ref 500005))], [(500005, .arr .I true)]⟩
def L_impl_persons_0 (av : AV) (x : HP k_impl_persons.ps) (n : Nat) (v : t_impl_persons_0.den) (K : Ks (CR k_impl_persons)) : Option (CR k_impl_persons) := m_impl_persons_l0 x.2.1 v.1.2.2.1 (fun l0_1 => x0_impl_persons_0.at (fpOf k_impl_persons.ps x av) (((), ()), (l0_1, ())) (K (.exit 0))) n v.1.2.2.2.1 v.2.1
def h_impl_persons_0 (av : AV) (x : HP k_impl_persons.ps) : Hdl (CR k_impl_persons) := hnd [.e 5 500005 .I] t_impl_persons_0 (L_impl_persons_0 av x)
theorem l_impl_persons_0 : LP k_impl_persons Tryz.f180 [0] h_impl_persons_0 := lp_ok (W := []) (H := []) (xs := [x0_impl_persons_0]) g_impl_persons trivial rfl (fun av x v K => by kernel_rfl) (fun av x n v K => by kernel_rfl)
theorem o_impl_persons : k_impl_persons.Ok Tryz.prog := fn_ok (k := k_impl_persons) (fn := Tryz.f180) (W := []) (H := [h_impl_persons_0]) Tryz.func180 g_impl_persons ⟨l_impl_persons_0, trivial⟩ rfl rfl (fun av x => by kernel_rfl)

def m_impl_PplMay_1_1 (b : GItem) (task : GTask) (who : Int) : Option Bool := if decide (b.task = task.apart) = true then (some (decide (b.who = who))) else (some false)
def q_impl_PplMay_1_1 : FCon := ⟨183, (.s .item), [(.s .task), .I], fun z c => m_impl_PplMay_1_1 z c.1 c.2.1⟩
def f_impl_PplMay_1_1 : Fs := ⟨[], []⟩
theorem g_impl_PplMay_1_1 : f_impl_PplMay_1_1.Ok Tryz.prog := fs0
theorem o_impl_PplMay_1_1 : q_impl_PplMay_1_1.Ok Tryz.prog := FCon.ok (fn_ok (k := q_impl_PplMay_1_1.con) (fn := Tryz.f183) (W := []) (H := []) Tryz.func183 g_impl_PplMay_1_1 trivial rfl rfl (fun av x => by kernel_rfl))

def m_impl_PplMay_1 (who : Int) (busy : List GItem) (task : GTask) (people : List Int) (did : List GDid) : Option Bool := (m_ContainsFunc_GItem busy (fun z => m_impl_PplMay_1_1 z task who)).bind fun x1 => ((m_impl_PplHas people who task.role).bind fun x2 => (if x2 = true then (if x1 = true then (some false) else ((m_impl_PplDid did who task.apart).bind fun x5 => (some (!x5)))) else (some false)))
def q_impl_PplMay_1 : FCon := ⟨181, .I, [(.sl (.s .item)), (.s .task), (.sl .I), (.sl (.s .did))], fun z c => m_impl_PplMay_1 z c.1 c.2.1 c.2.2.1 c.2.2.2.1⟩
def f_impl_PplMay_1 : Fs := ⟨[k_ContainsFunc_GItem, k_impl_PplHas, k_impl_PplDid], [q_impl_PplMay_1_1]⟩
theorem g_impl_PplMay_1 : f_impl_PplMay_1.Ok Tryz.prog := (fsK o_ContainsFunc_GItem (fsK o_impl_PplHas (fsK o_impl_PplDid (fsF o_impl_PplMay_1_1 fs0))))
theorem o_impl_PplMay_1 : q_impl_PplMay_1.Ok Tryz.prog := FCon.ok (fn_ok (k := q_impl_PplMay_1.con) (fn := Tryz.f181) (W := []) (H := []) Tryz.func181 g_impl_PplMay_1 trivial rfl rfl (fun av x => by kernel_rfl))

def m_impl_PplMay (n : GNet) (people : List Int) (did : List GDid) (busy : List GItem) (t : Int) : Option (List Int) := (m_impl_NetOk n).bind fun x1 => (if x1 = true then ((m_impl_NetNet_hasTask n t).bind fun x3 => (if x3 = true then ((getI n.tasks t).bind fun x5 => ((m_impl_persons people (fun z => m_impl_PplMay_1 z busy x5 people did)).bind fun x6 => (some x6))) else (some []))) else (some []))
def k_impl_PplMay : Con := ⟨109, [.v (.s .net) false, .v (.sl .I) false, .v (.sl (.s .did)) false, .v (.sl (.s .item)) false, .v .I false], [((.sl .I), true)], [], fun x => m_impl_PplMay x.1 x.2.1 x.2.2.1 x.2.2.2.1 x.2.2.2.2.1⟩
def f_impl_PplMay : Fs := ⟨[k_impl_NetOk, k_impl_NetNet_hasTask, k_impl_persons], [q_impl_PplMay_1]⟩
theorem g_impl_PplMay : f_impl_PplMay.Ok Tryz.prog := (fsK o_impl_NetOk (fsK o_impl_NetNet_hasTask (fsK o_impl_persons (fsF o_impl_PplMay_1 fs0))))
theorem o_impl_PplMay : k_impl_PplMay.Ok Tryz.prog := fn_ok (k := k_impl_PplMay) (fn := Tryz.f109) (W := []) (H := []) Tryz.func109 g_impl_PplMay trivial rfl rfl (fun av x => by kernel_rfl)

def m_impl_CasOk_k1 (c : GCase) : Option Bool := if decide (c.state = 1) = true then ((getI c.marks 1).bind fun x16 => (some (decide (x16 = 0)))) else (if decide (c.state = 2) = true then (if decide ((c.busy.length : Int) = 0) = true then ((getI c.marks 1).bind fun x19 => (some ((decide (c.state = 2)) == (decide (0 < x19))))) else (some false)) else (if decide (c.state = 3) = true then (if decide ((c.busy.length : Int) = 0) = true then ((getI c.marks 1).bind fun x22 => (some ((decide (c.state = 2)) == (decide (0 < x22))))) else (some false)) else (some false)))
def m_impl_CasOk_l0 (n : GNet) (p0_0 : List GDid) (p0_1 : Int) (kx0_0 : Option Bool) : Nat → Int → Option Bool
  | 0, _ => none
  | n0 + 1, s0_0 => if decide (s0_0 < p0_1) = true then ((getI p0_0 s0_0).bind fun x9 => ((m_impl_NetNet_hasTask n x9.task).bind fun x10 => (if x10 = true then ((m_impl_isPerson x9.who).bind fun x12 => (if x12 = true then (gd (ok64 (s0_0 + 1)) ((m_impl_CasOk_l0 n p0_0 p0_1 kx0_0 n0) (s0_0 + 1))) else (some false))) else (some false)))) else (kx0_0)
def m_impl_CasOk (n : GNet) (c : GCase) : Option Bool := (m_impl_MrkOk n c.marks).bind fun x1 => (if x1 = true then ((m_impl_NetNet_busyOk n c.busy).bind fun x3 => (if x3 = true then ((m_impl_DatOk c.data).bind fun x5 => (if x5 = true then (if decide (60 < (c.did.length : Int)) = true then (some false) else (m_impl_CasOk_l0 n c.did (c.did.length : Int) (m_impl_CasOk_k1 c) FUEL 0)) else (some false))) else (some false))) else (some false))
def k_impl_CasOk : Con := ⟨93, [.v (.s .net) false, .v (.s .kase) false], [(.B, true)], [], fun x => m_impl_CasOk x.1 x.2.1⟩
def f_impl_CasOk : Fs := ⟨[k_impl_MrkOk, k_impl_NetNet_busyOk, k_impl_DatOk, k_impl_NetNet_hasTask, k_impl_isPerson], []⟩
theorem g_impl_CasOk : f_impl_CasOk.Ok Tryz.prog := (fsK o_impl_MrkOk (fsK o_impl_NetNet_busyOk (fsK o_impl_DatOk (fsK o_impl_NetNet_hasTask (fsK o_impl_isPerson fs0)))))
def t_impl_CasOk_0 : Tmpl := ⟨[(2, .c (.bx 2 0)), (3, .c (.bx 3 0)), (32, .c (.s (.s .did))), (33, .c .i), (34, .c .i)], [(2, .boxT (.s .net)), (3, .boxT (.s .kase))]⟩
def x0_impl_CasOk_0 : Tmpl := ⟨[(3, .c (.bx 3 0))], [(3, .boxT (.s .kase))]⟩
def L_impl_CasOk_0 (av : AV) (x : HP k_impl_CasOk.ps) (n : Nat) (v : t_impl_CasOk_0.den) (K : Ks (CR k_impl_CasOk)) : Option (CR k_impl_CasOk) := m_impl_CasOk_l0 v.2.1 v.1.2.2.1 v.1.2.2.2.1 (x0_impl_CasOk_0.at none (((), ()), (v.2.2.1, ())) (K (.exit 0))) n v.1.2.2.2.2.1
def h_impl_CasOk_0 (av : AV) (x : HP k_impl_CasOk.ps) : Hdl (CR k_impl_CasOk) := hnd [] t_impl_CasOk_0 (L_impl_CasOk_0 av x)
theorem l_impl_CasOk_0 : LP k_impl_CasOk Tryz.f93 [0] h_impl_CasOk_0 := lp_ok (W := []) (H := []) (xs := [x0_impl_CasOk_0]) g_impl_CasOk trivial rfl (fun av x v K => by kernel_rfl) (fun av x n v K => by kernel_rfl)
theorem o_impl_CasOk : k_impl_CasOk.Ok Tryz.prog := fn_ok (k := k_impl_CasOk) (fn := Tryz.f93) (W := []) (H := [h_impl_CasOk_0]) Tryz.func93 g_impl_CasOk ⟨l_impl_CasOk_0, trivial⟩ rfl rfl (fun av x => by kernel_rfl)

def m_impl_running (n : GNet) (c : GCase) : Option Bool := (m_impl_CasOk n c).bind fun x1 => (if x1 = true then (some (decide (c.state = 1))) else (some false))
def k_impl_running : Con := ⟨106, [.v (.s .net) false, .v (.s .kase) false], [(.B, true)], [], fun x => m_impl_running x.1 x.2.1⟩
def f_impl_running : Fs := ⟨[k_impl_CasOk], []⟩
theorem g_impl_running : f_impl_running.Ok Tryz.prog := (fsK o_impl_CasOk fs0)
theorem o_impl_running : k_impl_running.Ok Tryz.prog := fn_ok (k := k_impl_running) (fn := Tryz.f106) (W := []) (H := []) Tryz.func106 g_impl_running trivial rfl rfl (fun av x => by kernel_rfl)

def m_impl_CasStart (n : GNet) (people : List Int) (c : GCase) (t : Int) (who : Int) : Option (GCase × Bool) := (m_impl_CasCase_clone c).bind fun x1 => ((m_impl_running n c).bind fun x2 => (if x2 = true then (if decide ((c.busy.length : Int) = 6) = true then (some (x1, false)) else ((m_impl_EnaCan n c.marks c.busy t).bind fun x5 => (if x5 = true then ((m_impl_PplMay n people c.did c.busy t).bind fun x7 => ((m_Contains_I x7 who).bind fun x8 => (if x8 = true then ((m_impl_NetNet_take n c.marks t).bind fun x10 => (gd (x1.busy.length + [(GItem.mk t who 0)].length ≤ SMALL) ((m_impl_CasCase_clone (GCase.mk x1.state x10 (x1.busy ++ [(GItem.mk t who 0)]) x1.data x1.did)).bind fun x12 => (some (x12, true))))) else (some (x1, false))))) else (some (x1, false))))) else (some (x1, false))))
def k_impl_CasStart : Con := ⟨39, [.v (.s .net) false, .v (.sl .I) false, .v (.s .kase) false, .v .I false, .v .I false], [((.s .kase), true), (.B, true)], [], fun x => m_impl_CasStart x.1 x.2.1 x.2.2.1 x.2.2.2.1 x.2.2.2.2.1⟩
def f_impl_CasStart : Fs := ⟨[k_impl_CasCase_clone, k_impl_running, k_impl_EnaCan, k_impl_PplMay, k_Contains_I, k_impl_NetNet_take], []⟩
theorem g_impl_CasStart : f_impl_CasStart.Ok Tryz.prog := (fsK o_impl_CasCase_clone (fsK o_impl_running (fsK o_impl_EnaCan (fsK o_impl_PplMay (fsK o_Contains_I (fsK o_impl_NetNet_take fs0))))))
theorem o_impl_CasStart : k_impl_CasStart.Ok Tryz.prog := fn_ok (k := k_impl_CasStart) (fn := Tryz.f39) (W := []) (H := []) Tryz.func39 g_impl_CasStart trivial rfl rfl (fun av x => by kernel_rfl)

def m_impl_CasWork (n : GNet) (c : GCase) (k : Int) (v : Int) (num : Int) : Option (GCase × Bool) := (m_impl_CasCase_clone c).bind fun x1 => ((m_impl_running n c).bind fun x2 => (if x2 = true then (gd (ok64 ((c.busy.length : Int) - 1)) ((m_impl_in k 0 ((c.busy.length : Int) - 1)).bind fun x5 => (if x5 = true then ((m_impl_in v (-1) 2).bind fun x7 => (if x7 = true then ((m_impl_isDatum num).bind fun x9 => (if x9 = true then (if decide ((c.did.length : Int) = 60) = true then (some (x1, false)) else (if decide (0 ≤ v) = true then ((getI x1.data v).bind fun x13 => ((getI x1.busy k).bind fun x14 => (gd (ok64 (x14.did + 1)) ((getI n.tasks ((GItem.mk x14.task x14.who (x14.did + 1)).task)).bind fun x16 => (if decide ((GItem.mk x14.task x14.who (x14.did + 1)).did < x16.need) = true then (some ((GCase.mk x1.state x1.marks (x1.busy.set k.toNat (GItem.mk x14.task x14.who (x14.did + 1))) (x1.data.set v.toNat num) x1.did), true)) else ((m_impl_FirGive n c.marks ((GItem.mk x14.task x14.who (x14.did + 1)).task) (x1.data.set v.toNat num)).bind fun x18 => (if x18.2 = true then (gd (x1.did.length + [(GDid.mk ((GItem.mk x14.task x14.who (x14.did + 1)).task) ((GItem.mk x14.task x14.who (x14.did + 1)).who))].length ≤ SMALL) (gd (ok64 (k + 1)) ((m_Delete_GItem (x1.busy.set k.toNat (GItem.mk x14.task x14.who (x14.did + 1))) k (k + 1)).bind fun x22 => ((getI x18.1 1).bind fun x23 => (if decide (0 < x23) = true then ((m_impl_CasCase_clone (GCase.mk 2 x18.1 [] (x1.data.set v.toNat num) (x1.did ++ [(GDid.mk ((GItem.mk x14.task x14.who (x14.did + 1)).task) ((GItem.mk x14.task x14.who (x14.did + 1)).who))]))).bind fun x25 => (some (x25, true))) else ((m_impl_CasCase_clone (GCase.mk x1.state x18.1 x22 (x1.data.set v.toNat num) (x1.did ++ [(GDid.mk ((GItem.mk x14.task x14.who (x14.did + 1)).task) ((GItem.mk x14.task x14.who (x14.did + 1)).who))]))).bind fun x26 => (some (x26, true)))))))) else ((m_impl_CasCase_clone c).bind fun x27 => (some (x27, false)))))))))) else ((getI x1.busy k).bind fun x28 => (gd (ok64 (x28.did + 1)) ((getI n.tasks ((GItem.mk x28.task x28.who (x28.did + 1)).task)).bind fun x30 => (if decide ((GItem.mk x28.task x28.who (x28.did + 1)).did < x30.need) = true then (some ((GCase.mk x1.state x1.marks (x1.busy.set k.toNat (GItem.mk x28.task x28.who (x28.did + 1))) x1.data x1.did), true)) else ((m_impl_FirGive n c.marks ((GItem.mk x28.task x28.who (x28.did + 1)).task) x1.data).bind fun x32 => (if x32.2 = true then (gd (x1.did.length + [(GDid.mk ((GItem.mk x28.task x28.who (x28.did + 1)).task) ((GItem.mk x28.task x28.who (x28.did + 1)).who))].length ≤ SMALL) (gd (ok64 (k + 1)) ((m_Delete_GItem (x1.busy.set k.toNat (GItem.mk x28.task x28.who (x28.did + 1))) k (k + 1)).bind fun x36 => ((getI x32.1 1).bind fun x37 => (if decide (0 < x37) = true then ((m_impl_CasCase_clone (GCase.mk 2 x32.1 [] x1.data (x1.did ++ [(GDid.mk ((GItem.mk x28.task x28.who (x28.did + 1)).task) ((GItem.mk x28.task x28.who (x28.did + 1)).who))]))).bind fun x39 => (some (x39, true))) else ((m_impl_CasCase_clone (GCase.mk x1.state x32.1 x36 x1.data (x1.did ++ [(GDid.mk ((GItem.mk x28.task x28.who (x28.did + 1)).task) ((GItem.mk x28.task x28.who (x28.did + 1)).who))]))).bind fun x40 => (some (x40, true)))))))) else ((m_impl_CasCase_clone c).bind fun x41 => (some (x41, false))))))))))) else (some (x1, false)))) else (some (x1, false)))) else (some (x1, false))))) else (some (x1, false))))
def k_impl_CasWork : Con := ⟨122, [.v (.s .net) false, .v (.s .kase) false, .v .I false, .v .I false, .v .I false], [((.s .kase), true), (.B, true)], [], fun x => m_impl_CasWork x.1 x.2.1 x.2.2.1 x.2.2.2.1 x.2.2.2.2.1⟩
def f_impl_CasWork : Fs := ⟨[k_impl_CasCase_clone, k_impl_running, k_impl_in, k_impl_isDatum, k_impl_FirGive, k_Delete_GItem], []⟩
theorem g_impl_CasWork : f_impl_CasWork.Ok Tryz.prog := (fsK o_impl_CasCase_clone (fsK o_impl_running (fsK o_impl_in (fsK o_impl_isDatum (fsK o_impl_FirGive (fsK o_Delete_GItem fs0))))))
theorem o_impl_CasWork : k_impl_CasWork.Ok Tryz.prog := fn_ok (k := k_impl_CasWork) (fn := Tryz.f122) (W := []) (H := []) Tryz.func122 g_impl_CasWork trivial rfl rfl (fun av x => by kernel_rfl)

def m_impl_CasCan_k1 (s0_0 : Int) (s0_1 : Int) (bk0 : Int → Int → List GDid → Option (List GDid)) (l1_1 : List GDid) : Option (List GDid) := gd (ok64 (s0_1 + 1)) (bk0 s0_0 (s0_1 + 1) l1_1)
def m_impl_CasCan_l1 (x6 : Int) (x7 : (List Int)) (p1_0 : Int) (kx1_0 : List GDid → Option (List GDid)) : Nat → Int → List GDid → Option (List GDid)
  | 0, _, _ => none
  | n1 + 1, s1_0, l1_1 => if decide (s1_0 < p1_0) = true then ((getI x7 s1_0).bind fun x9 => (gd (l1_1.length + [(GDid.mk x6 x9)].length ≤ SMALL) (gd (ok64 (s1_0 + 1)) ((m_impl_CasCan_l1 x6 x7 p1_0 kx1_0 n1) (s1_0 + 1) (l1_1 ++ [(GDid.mk x6 x9)]))))) else (kx1_0 l1_1)
def m_impl_CasCan_k2 (l0_2 : List GDid) : Option (List GDid) := some l0_2
def m_impl_CasCan_l0 (n : GNet) (people : List Int) (c : GCase) (x4 : (List Int)) (kx0_0 : List GDid → Option (List GDid)) : Nat → Int → Int → List GDid → Option (List GDid)
  | 0, _, _, _ => none
  | n0 + 1, s0_0, s0_1, l0_2 => if decide (s0_1 < s0_0) = true then ((getI x4 s0_1).bind fun x6 => ((m_impl_PplMay n people c.did c.busy x6).bind fun x7 => (m_impl_CasCan_l1 x6 x7 (x7.length : Int) (m_impl_CasCan_k1 s0_0 s0_1 (m_impl_CasCan_l0 n people c x4 kx0_0 n0)) FUEL 0 l0_2))) else (kx0_0 l0_2)
def m_impl_CasCan (n : GNet) (people : List Int) (c : GCase) : Option (List GDid) := (m_impl_running n c).bind fun x1 => (if x1 = true then (if decide ((c.busy.length : Int) = 6) = true then (some []) else ((m_impl_EnaTasks n c.marks c.busy).bind fun x4 => (m_impl_CasCan_l0 n people c x4 m_impl_CasCan_k2 FUEL (x4.length : Int) 0 ([] : List GDid)))) else (some []))
def k_impl_CasCan : Con := ⟨123, [.v (.s .net) false, .v (.sl .I) false, .v (.s .kase) false], [((.sl (.s .did)), true)], [], fun x => m_impl_CasCan x.1 x.2.1 x.2.2.1⟩
def f_impl_CasCan : Fs := ⟨[k_impl_running, k_impl_EnaTasks, k_impl_PplMay], []⟩
theorem g_impl_CasCan : f_impl_CasCan.Ok Tryz.prog := (fsK o_impl_running (fsK o_impl_EnaTasks (fsK o_impl_PplMay fs0)))
def t_impl_CasCan_0_0 : Tmpl := ⟨[(1, .c (.s .I)), (3, .c (.bx 3 0)), (5, .c (.bx 5 0)), (7, .c (.ref 500007)), (9, .c .i), (27, .c (.ref 27)), (28, .c .i), (29, .c .i), (40, .c (.ref 40)), (41, .c .i), (42, .c .i)], [(3, .boxT (.s .net)), (5, .boxT (.s .kase)), (500007, .arr (.s .did) true), (27, .arr .I true), (40, .arr .I true)]⟩
def x0_impl_CasCan_0_0 : Tmpl := ⟨[(1, .c (.s .I)), (3, .c (.bx 3 0)), (5, .c (.bx 5 0)), (7, .c (.ref 500007)), (27, .c (.ref 27)), (28, .c .i), (29, .c .i)], [(3, .boxT (.s .net)), (5, .boxT (.s .kase)), (500007, .arr (.s .did) true), (27, .arr .I true)]⟩
def L_impl_CasCan_0_0 (av : AV) (x : HP k_impl_CasCan.ps) (n : Nat) (v : t_impl_CasCan_0_0.den) (K : Ks (CR k_impl_CasCan)) : Option (CR k_impl_CasCan) := m_impl_CasCan_l1 v.1.2.2.2.2.1 v.2.2.2.2.2.1 v.1.2.2.2.2.2.2.2.2.2.1 (fun l1_1 => x0_impl_CasCan_0_0.at none ((v.1.1, (), (), (), (), v.1.2.2.2.2.2.2.1, v.1.2.2.2.2.2.2.2.1, ()), (v.2.1, v.2.2.1, l1_1, v.2.2.2.2.1, ())) (K (.exit 2))) n v.1.2.2.2.2.2.2.2.2.2.2.1 v.2.2.2.1
def h_impl_CasCan_0_0 (av : AV) (x : HP k_impl_CasCan.ps) : Hdl (CR k_impl_CasCan) := hnd [] t_impl_CasCan_0_0 (L_impl_CasCan_0_0 av x)
theorem l_impl_CasCan_0_0 : LP k_impl_CasCan Tryz.f123 [0, 0] h_impl_CasCan_0_0 := lp_ok (W := []) (H := []) (xs := [x0_impl_CasCan_0_0]) g_impl_CasCan trivial rfl (fun av x v K => by kernel_rfl) (fun av x n v K => by kernel_rfl)
def t_impl_CasCan_0 : Tmpl := ⟨[(1, .c (.s .I)), (3, .c (.bx 3 0)), (5, .c (.bx 5 0)), (7, .c (.ref 500007)), (27, .c (.ref 27)), (28, .c .i), (29, .c .i)], [(3, .boxT (.s .net)), (5, .boxT (.s .kase)), (500007, .arr (.s .did) true), (27, .arr .I true)]⟩
def x0_impl_CasCan_0 : Tmpl := ⟨[(7, .c (.ref 500007))], [(500007, .arr (.s .did) true)]⟩
def L_impl_CasCan_0 (av : AV) (x : HP k_impl_CasCan.ps) (n : Nat) (v : t_impl_CasCan_0.den) (K : Ks (CR k_impl_CasCan)) : Option (CR k_impl_CasCan) := m_impl_CasCan_l0 v.2.1 v.1.1 v.2.2.1 v.2.2.2.2.1 (fun l0_2 => x0_impl_CasCan_0.at none (((), ()), (l0_2, ())) (K (.exit 0))) n v.1.2.2.2.2.2.1 v.1.2.2.2.2.2.2.1 v.2.2.2.1
def h_impl_CasCan_0 (av : AV) (x : HP k_impl_CasCan.ps) : Hdl (CR k_impl_CasCan) := hnd [.e 7 500007 (.s .did)] t_impl_CasCan_0 (L_impl_CasCan_0 av x)
theorem l_impl_CasCan_0 : LP k_impl_CasCan Tryz.f123 [0] h_impl_CasCan_0 := lp_ok (W := []) (H := [h_impl_CasCan_0_0]) (xs := [x0_impl_CasCan_0]) g_impl_CasCan ⟨l_impl_CasCan_0_0, trivial⟩ rfl (fun av x v K => by kernel_rfl) (fun av x n v K => by kernel_rfl)
theorem o_impl_CasCan : k_impl_CasCan.Ok Tryz.prog := fn_ok (k := k_impl_CasCan) (fn := Tryz.f123) (W := []) (H := [h_impl_CasCan_0]) Tryz.func123 g_impl_CasCan ⟨l_impl_CasCan_0, trivial⟩ rfl rfl (fun av x => by kernel_rfl)

def m_impl_DrvNext_k1 (c : GCase) : Option (GCase × Bool) := (m_impl_CasCase_clone c).bind fun x11 => (some (x11, false))
def m_impl_DrvNext_l0 (n : GNet) (people : List Int) (c : GCase) (x7 : (List GDid)) (p0_0 : Int) (p0_1 : Int) (kx0_0 : Option (GCase × Bool)) : Nat → Option (GCase × Bool)
  | 0 => none
  | n0 + 1 => if decide (p0_1 < p0_0) = true then ((getI x7 p0_1).bind fun x9 => ((m_impl_CasStart n people c x9.task x9.who).bind fun x10 => (some (x10.1, x10.2)))) else (kx0_0)
def m_impl_DrvNext (n : GNet) (people : List Int) (c : GCase) : Option (GCase × Bool) := (m_impl_running n c).bind fun x1 => (if x1 = true then ((m_impl_PplOk people).bind fun x3 => (if x3 = true then (if decide (0 < (c.busy.length : Int)) = true then ((m_impl_CasWork n c 0 (-1) 0).bind fun x6 => (some (x6.1, x6.2))) else ((m_impl_CasCan n people c).bind fun x7 => (m_impl_DrvNext_l0 n people c x7 (x7.length : Int) 0 (m_impl_DrvNext_k1 c) FUEL ))) else ((m_impl_CasCase_clone c).bind fun x12 => (some (x12, false))))) else ((m_impl_CasCase_clone c).bind fun x13 => (some (x13, false))))
def k_impl_DrvNext : Con := ⟨54, [.v (.s .net) false, .v (.sl .I) false, .v (.s .kase) false], [((.s .kase), true), (.B, true)], [], fun x => m_impl_DrvNext x.1 x.2.1 x.2.2.1⟩
def f_impl_DrvNext : Fs := ⟨[k_impl_running, k_impl_PplOk, k_impl_CasWork, k_impl_CasCan, k_impl_CasStart, k_impl_CasCase_clone], []⟩
theorem g_impl_DrvNext : f_impl_DrvNext.Ok Tryz.prog := (fsK o_impl_running (fsK o_impl_PplOk (fsK o_impl_CasWork (fsK o_impl_CasCan (fsK o_impl_CasStart (fsK o_impl_CasCase_clone fs0))))))
def t_impl_DrvNext_0 : Tmpl := ⟨[(1, .c (.s .I)), (3, .c (.bx 3 0)), (5, .c (.bx 5 0)), (6, .c (.bx 6 0)), (33, .c (.ref 33)), (34, .c .i), (35, .c .i)], [(3, .boxT (.s .net)), (5, .boxT (.s .kase)), (6, .box [.i, .nl, .nl, .nl, .nl]), (33, .arr (.s .did) true)]⟩
def x0_impl_DrvNext_0 : Tmpl := ⟨[(5, .c (.bx 5 0)), (6, .c (.bx 6 0))], [(5, .boxT (.s .kase)), (6, .box [.i, .nl, .nl, .nl, .nl])]⟩
def L_impl_DrvNext_0 (av : AV) (x : HP k_impl_DrvNext.ps) (n : Nat) (v : t_impl_DrvNext_0.den) (K : Ks (CR k_impl_DrvNext)) : Option (CR k_impl_DrvNext) := m_impl_DrvNext_l0 v.2.1 v.1.1 v.2.2.1 v.2.2.2.2.1 v.1.2.2.2.2.2.1 v.1.2.2.2.2.2.2.1 (x0_impl_DrvNext_0.at none (((), (), ()), (v.2.2.1, (v.2.2.2.1.1, (), (), (), (), ()), ())) (K (.exit 0))) n 
def h_impl_DrvNext_0 (av : AV) (x : HP k_impl_DrvNext.ps) : Hdl (CR k_impl_DrvNext) := hnd [] t_impl_DrvNext_0 (L_impl_DrvNext_0 av x)
theorem l_impl_DrvNext_0 : LP k_impl_DrvNext Tryz.f54 [0] h_impl_DrvNext_0 := lp_ok (W := []) (H := []) (xs := [x0_impl_DrvNext_0]) g_impl_DrvNext trivial rfl (fun av x v K => by kernel_rfl) (fun av x n v K => by kernel_rfl)
theorem o_impl_DrvNext : k_impl_DrvNext.Ok Tryz.prog := fn_ok (k := k_impl_DrvNext) (fn := Tryz.f54) (W := []) (H := [h_impl_DrvNext_0]) Tryz.func54 g_impl_DrvNext ⟨l_impl_DrvNext_0, trivial⟩ rfl rfl (fun av x => by kernel_rfl)

def m_markIntS_k1 (s0_0 : Int) (l0_2 : List Int) : Option (Int × (List Int)) := some (s0_0, l0_2)
def m_markIntS_l0 (kx0_0 : Int → List Int → Option (Int × (List Int))) : Nat → Int → Int → List Int → Option (Int × (List Int))
  | 0, _, _, _ => none
  | n0 + 1, s0_0, s0_1, l0_2 => if decide (s0_1 < (l0_2.length : Int)) = true then ((getI l0_2 s0_1).bind fun x2 => (gd (ok64 (s0_0 + 1)) (gd (ok64 (s0_1 + 1)) ((m_markIntS_l0 kx0_0 n0) (s0_0 + 1) (s0_1 + 1) (l0_2.set s0_1.toNat s0_0))))) else (kx0_0 s0_0 l0_2)
def m_markIntS (a : List Int) (k : Int) : Option (Int × (List Int)) := m_markIntS_l0 m_markIntS_k1 FUEL k 0 a
def k_markIntS : Con := ⟨44, [.v (.sl .I) true, .v .I false], [(.I, true)], [(0, .v (.sl .I) true)], fun x => m_markIntS x.1 x.2.1⟩
def f_markIntS : Fs := ⟨[], []⟩
theorem g_markIntS : f_markIntS.Ok Tryz.prog := fs0
def t_markIntS_0 : Tmpl := ⟨[(0, .c (.ref 1000000)), (1, .c .i), (5, .c .i)], [(1000000, .arr .I true)]⟩
def x0_markIntS_0 : Tmpl := ⟨[(1, .c .i)], [(1000000, .arr .I true)]⟩
def L_markIntS_0 (av : AV) (x : HP k_markIntS.ps) (n : Nat) (v : t_markIntS_0.den) (K : Ks (CR k_markIntS)) : Option (CR k_markIntS) := m_markIntS_l0 (fun s0_0 l0_2 => x0_markIntS_0.at none ((s0_0, ()), (l0_2, ())) (K (.exit 0))) n v.1.2.1 v.1.2.2.1 v.2.1
def h_markIntS_0 (av : AV) (x : HP k_markIntS.ps) : Hdl (CR k_markIntS) := hnd [] t_markIntS_0 (L_markIntS_0 av x)
theorem l_markIntS_0 : LP k_markIntS Tryz.f44 [0] h_markIntS_0 := lp_ok (W := []) (H := []) (xs := [x0_markIntS_0]) g_markIntS trivial rfl (fun av x v K => by kernel_rfl) (fun av x n v K => by kernel_rfl)
theorem o_markIntS : k_markIntS.Ok Tryz.prog := fn_ok (k := k_markIntS) (fn := Tryz.f44) (W := []) (H := [h_markIntS_0]) Tryz.func44 g_markIntS ⟨l_markIntS_0, trivial⟩ rfl rfl (fun av x => by kernel_rfl)

def m_heldIntS_k1 (s0_0 : Int) : Option Int := some s0_0
def m_heldIntS_l0 (a : List Int) (kx0_0 : Int → Option Int) : Nat → Int → Int → Option Int
  | 0, _, _ => none
  | n0 + 1, s0_0, s0_1 => if decide (s0_1 < (a.length : Int)) = true then ((getI a s0_1).bind fun x2 => (if decide (x2 = s0_0) = true then (gd (ok64 (s0_0 + 1)) (gd (ok64 (s0_1 + 1)) ((m_heldIntS_l0 a kx0_0 n0) (s0_0 + 1) (s0_1 + 1)))) else (some (-1)))) else (kx0_0 s0_0)
def m_heldIntS (a : List Int) (k : Int) : Option Int := m_heldIntS_l0 a m_heldIntS_k1 FUEL k 0
def k_heldIntS : Con := ⟨75, [.v (.sl .I) false, .v .I false], [(.I, true)], [], fun x => m_heldIntS x.1 x.2.1⟩
def f_heldIntS : Fs := ⟨[], []⟩
theorem g_heldIntS : f_heldIntS.Ok Tryz.prog := fs0
def t_heldIntS_0 : Tmpl := ⟨[(0, .c (.s .I)), (1, .c .i), (5, .c .i)], []⟩
def x0_heldIntS_0 : Tmpl := ⟨[(1, .c .i)], []⟩
def L_heldIntS_0 (av : AV) (x : HP k_heldIntS.ps) (n : Nat) (v : t_heldIntS_0.den) (K : Ks (CR k_heldIntS)) : Option (CR k_heldIntS) := m_heldIntS_l0 v.1.1 (fun s0_0 => x0_heldIntS_0.at none ((s0_0, ()), ()) (K (.exit 0))) n v.1.2.1 v.1.2.2.1
def h_heldIntS_0 (av : AV) (x : HP k_heldIntS.ps) : Hdl (CR k_heldIntS) := hnd [] t_heldIntS_0 (L_heldIntS_0 av x)
theorem l_heldIntS_0 : LP k_heldIntS Tryz.f75 [0] h_heldIntS_0 := lp_ok (W := []) (H := []) (xs := [x0_heldIntS_0]) g_heldIntS trivial rfl (fun av x v K => by kernel_rfl) (fun av x n v K => by kernel_rfl)
theorem o_heldIntS : k_heldIntS.Ok Tryz.prog := fn_ok (k := k_heldIntS) (fn := Tryz.f75) (W := []) (H := [h_heldIntS_0]) Tryz.func75 g_heldIntS ⟨l_heldIntS_0, trivial⟩ rfl rfl (fun av x => by kernel_rfl)

def m_markNetFlowS_k1 (s0_0 : Int) (l0_2 : List GFlow) : Option (Int × (List GFlow)) := some (s0_0, l0_2)
def m_markNetFlowS_l0 (kx0_0 : Int → List GFlow → Option (Int × (List GFlow))) : Nat → Int → Int → List GFlow → Option (Int × (List GFlow))
  | 0, _, _, _ => none
  | n0 + 1, s0_0, s0_1, l0_2 => if decide (s0_1 < (l0_2.length : Int)) = true then ((getI l0_2 s0_1).bind fun x2 => (gd (ok64 (s0_0 + 1)) ((getI (l0_2.set s0_1.toNat (GFlow.mk s0_0 x2.if_)) s0_1).bind fun x4 => (gd (ok64 ((s0_0 + 1) + 1)) ((getI ((l0_2.set s0_1.toNat (GFlow.mk s0_0 x2.if_)).set s0_1.toNat (GFlow.mk x4.to (GAsk.mk (s0_0 + 1) x4.if_.var x4.if_.k))) s0_1).bind fun x6 => (gd (ok64 (((s0_0 + 1) + 1) + 1)) ((getI (((l0_2.set s0_1.toNat (GFlow.mk s0_0 x2.if_)).set s0_1.toNat (GFlow.mk x4.to (GAsk.mk (s0_0 + 1) x4.if_.var x4.if_.k))).set s0_1.toNat (GFlow.mk x6.to (GAsk.mk x6.if_.op ((s0_0 + 1) + 1) x6.if_.k))) s0_1).bind fun x8 => (gd (ok64 ((((s0_0 + 1) + 1) + 1) + 1)) (gd (ok64 (s0_1 + 1)) ((m_markNetFlowS_l0 kx0_0 n0) ((((s0_0 + 1) + 1) + 1) + 1) (s0_1 + 1) ((((l0_2.set s0_1.toNat (GFlow.mk s0_0 x2.if_)).set s0_1.toNat (GFlow.mk x4.to (GAsk.mk (s0_0 + 1) x4.if_.var x4.if_.k))).set s0_1.toNat (GFlow.mk x6.to (GAsk.mk x6.if_.op ((s0_0 + 1) + 1) x6.if_.k))).set s0_1.toNat (GFlow.mk x8.to (GAsk.mk x8.if_.op x8.if_.var (((s0_0 + 1) + 1) + 1)))))))))))))) else (kx0_0 s0_0 l0_2)
def m_markNetFlowS (a : List GFlow) (k : Int) : Option (Int × (List GFlow)) := m_markNetFlowS_l0 m_markNetFlowS_k1 FUEL k 0 a
def k_markNetFlowS : Con := ⟨189, [.v (.sl (.s .flow)) true, .v .I false], [(.I, true)], [(0, .v (.sl (.s .flow)) true)], fun x => m_markNetFlowS x.1 x.2.1⟩
def f_markNetFlowS : Fs := ⟨[], []⟩
theorem g_markNetFlowS : f_markNetFlowS.Ok Tryz.prog := fs0
def t_markNetFlowS_0 : Tmpl := ⟨[(0, .c (.ref 1000000)), (1, .c .i), (5, .c .i)], [(1000000, .arr (.s .flow) true)]⟩
def x0_markNetFlowS_0 : Tmpl := ⟨[(1, .c .i)], [(1000000, .arr (.s .flow) true)]⟩
def L_markNetFlowS_0 (av : AV) (x : HP k_markNetFlowS.ps) (n : Nat) (v : t_markNetFlowS_0.den) (K : Ks (CR k_markNetFlowS)) : Option (CR k_markNetFlowS) := m_markNetFlowS_l0 (fun s0_0 l0_2 => x0_markNetFlowS_0.at none ((s0_0, ()), (l0_2, ())) (K (.exit 0))) n v.1.2.1 v.1.2.2.1 v.2.1
def h_markNetFlowS_0 (av : AV) (x : HP k_markNetFlowS.ps) : Hdl (CR k_markNetFlowS) := hnd [] t_markNetFlowS_0 (L_markNetFlowS_0 av x)
theorem l_markNetFlowS_0 : LP k_markNetFlowS Tryz.f189 [0] h_markNetFlowS_0 := lp_ok (W := []) (H := []) (xs := [x0_markNetFlowS_0]) g_markNetFlowS trivial rfl (fun av x v K => by kernel_rfl) (fun av x n v K => by kernel_rfl)
theorem o_markNetFlowS : k_markNetFlowS.Ok Tryz.prog := fn_ok (k := k_markNetFlowS) (fn := Tryz.f189) (W := []) (H := [h_markNetFlowS_0]) Tryz.func189 g_markNetFlowS ⟨l_markNetFlowS_0, trivial⟩ rfl rfl (fun av x => by kernel_rfl)

def m_markNetTaskS_k1 (s0_0 : Int) (l0_2 : List GTask) : Option (Int × (List GTask)) := some (s0_0, l0_2)
def m_markNetTaskS_l0 (kx0_0 : Int → List GTask → Option (Int × (List GTask))) : Nat → Int → Int → List GTask → Option (Int × (List GTask))
  | 0, _, _, _ => none
  | n0 + 1, s0_0, s0_1, l0_2 => if decide (s0_1 < (l0_2.length : Int)) = true then ((getI l0_2 s0_1).bind fun x2 => (gd (ok64 (s0_0 + 1)) ((getI (l0_2.set s0_1.toNat (GTask.mk s0_0 x2.split x2.in_ x2.out x2.clear x2.role x2.apart x2.all x2.need)) s0_1).bind fun x4 => (gd (ok64 ((s0_0 + 1) + 1)) ((getI ((l0_2.set s0_1.toNat (GTask.mk s0_0 x2.split x2.in_ x2.out x2.clear x2.role x2.apart x2.all x2.need)).set s0_1.toNat (GTask.mk x4.join (s0_0 + 1) x4.in_ x4.out x4.clear x4.role x4.apart x4.all x4.need)) s0_1).bind fun x6 => ((m_markIntS x6.in_ ((s0_0 + 1) + 1)).bind fun x7 => ((getI (((l0_2.set s0_1.toNat (GTask.mk s0_0 x2.split x2.in_ x2.out x2.clear x2.role x2.apart x2.all x2.need)).set s0_1.toNat (GTask.mk x4.join (s0_0 + 1) x4.in_ x4.out x4.clear x4.role x4.apart x4.all x4.need)).set s0_1.toNat (GTask.mk x6.join x6.split x7.2 x6.out x6.clear x6.role x6.apart x6.all x6.need)) s0_1).bind fun x8 => ((m_markNetFlowS x8.out x7.1).bind fun x9 => ((getI ((((l0_2.set s0_1.toNat (GTask.mk s0_0 x2.split x2.in_ x2.out x2.clear x2.role x2.apart x2.all x2.need)).set s0_1.toNat (GTask.mk x4.join (s0_0 + 1) x4.in_ x4.out x4.clear x4.role x4.apart x4.all x4.need)).set s0_1.toNat (GTask.mk x6.join x6.split x7.2 x6.out x6.clear x6.role x6.apart x6.all x6.need)).set s0_1.toNat (GTask.mk x8.join x8.split x8.in_ x9.2 x8.clear x8.role x8.apart x8.all x8.need)) s0_1).bind fun x10 => ((m_markIntS x10.clear x9.1).bind fun x11 => ((getI (((((l0_2.set s0_1.toNat (GTask.mk s0_0 x2.split x2.in_ x2.out x2.clear x2.role x2.apart x2.all x2.need)).set s0_1.toNat (GTask.mk x4.join (s0_0 + 1) x4.in_ x4.out x4.clear x4.role x4.apart x4.all x4.need)).set s0_1.toNat (GTask.mk x6.join x6.split x7.2 x6.out x6.clear x6.role x6.apart x6.all x6.need)).set s0_1.toNat (GTask.mk x8.join x8.split x8.in_ x9.2 x8.clear x8.role x8.apart x8.all x8.need)).set s0_1.toNat (GTask.mk x10.join x10.split x10.in_ x10.out x11.2 x10.role x10.apart x10.all x10.need)) s0_1).bind fun x12 => (gd (ok64 (x11.1 + 1)) ((getI ((((((l0_2.set s0_1.toNat (GTask.mk s0_0 x2.split x2.in_ x2.out x2.clear x2.role x2.apart x2.all x2.need)).set s0_1.toNat (GTask.mk x4.join (s0_0 + 1) x4.in_ x4.out x4.clear x4.role x4.apart x4.all x4.need)).set s0_1.toNat (GTask.mk x6.join x6.split x7.2 x6.out x6.clear x6.role x6.apart x6.all x6.need)).set s0_1.toNat (GTask.mk x8.join x8.split x8.in_ x9.2 x8.clear x8.role x8.apart x8.all x8.need)).set s0_1.toNat (GTask.mk x10.join x10.split x10.in_ x10.out x11.2 x10.role x10.apart x10.all x10.need)).set s0_1.toNat (GTask.mk x12.join x12.split x12.in_ x12.out x12.clear x11.1 x12.apart x12.all x12.need)) s0_1).bind fun x14 => (gd (ok64 ((x11.1 + 1) + 1)) ((getI (((((((l0_2.set s0_1.toNat (GTask.mk s0_0 x2.split x2.in_ x2.out x2.clear x2.role x2.apart x2.all x2.need)).set s0_1.toNat (GTask.mk x4.join (s0_0 + 1) x4.in_ x4.out x4.clear x4.role x4.apart x4.all x4.need)).set s0_1.toNat (GTask.mk x6.join x6.split x7.2 x6.out x6.clear x6.role x6.apart x6.all x6.need)).set s0_1.toNat (GTask.mk x8.join x8.split x8.in_ x9.2 x8.clear x8.role x8.apart x8.all x8.need)).set s0_1.toNat (GTask.mk x10.join x10.split x10.in_ x10.out x11.2 x10.role x10.apart x10.all x10.need)).set s0_1.toNat (GTask.mk x12.join x12.split x12.in_ x12.out x12.clear x11.1 x12.apart x12.all x12.need)).set s0_1.toNat (GTask.mk x14.join x14.split x14.in_ x14.out x14.clear x14.role (x11.1 + 1) x14.all x14.need)) s0_1).bind fun x16 => (gd (ok64 (((x11.1 + 1) + 1) + 1)) ((getI ((((((((l0_2.set s0_1.toNat (GTask.mk s0_0 x2.split x2.in_ x2.out x2.clear x2.role x2.apart x2.all x2.need)).set s0_1.toNat (GTask.mk x4.join (s0_0 + 1) x4.in_ x4.out x4.clear x4.role x4.apart x4.all x4.need)).set s0_1.toNat (GTask.mk x6.join x6.split x7.2 x6.out x6.clear x6.role x6.apart x6.all x6.need)).set s0_1.toNat (GTask.mk x8.join x8.split x8.in_ x9.2 x8.clear x8.role x8.apart x8.all x8.need)).set s0_1.toNat (GTask.mk x10.join x10.split x10.in_ x10.out x11.2 x10.role x10.apart x10.all x10.need)).set s0_1.toNat (GTask.mk x12.join x12.split x12.in_ x12.out x12.clear x11.1 x12.apart x12.all x12.need)).set s0_1.toNat (GTask.mk x14.join x14.split x14.in_ x14.out x14.clear x14.role (x11.1 + 1) x14.all x14.need)).set s0_1.toNat (GTask.mk x16.join x16.split x16.in_ x16.out x16.clear x16.role x16.apart ((x11.1 + 1) + 1) x16.need)) s0_1).bind fun x18 => (gd (ok64 ((((x11.1 + 1) + 1) + 1) + 1)) (gd (ok64 (s0_1 + 1)) ((m_markNetTaskS_l0 kx0_0 n0) ((((x11.1 + 1) + 1) + 1) + 1) (s0_1 + 1) (((((((((l0_2.set s0_1.toNat (GTask.mk s0_0 x2.split x2.in_ x2.out x2.clear x2.role x2.apart x2.all x2.need)).set s0_1.toNat (GTask.mk x4.join (s0_0 + 1) x4.in_ x4.out x4.clear x4.role x4.apart x4.all x4.need)).set s0_1.toNat (GTask.mk x6.join x6.split x7.2 x6.out x6.clear x6.role x6.apart x6.all x6.need)).set s0_1.toNat (GTask.mk x8.join x8.split x8.in_ x9.2 x8.clear x8.role x8.apart x8.all x8.need)).set s0_1.toNat (GTask.mk x10.join x10.split x10.in_ x10.out x11.2 x10.role x10.apart x10.all x10.need)).set s0_1.toNat (GTask.mk x12.join x12.split x12.in_ x12.out x12.clear x11.1 x12.apart x12.all x12.need)).set s0_1.toNat (GTask.mk x14.join x14.split x14.in_ x14.out x14.clear x14.role (x11.1 + 1) x14.all x14.need)).set s0_1.toNat (GTask.mk x16.join x16.split x16.in_ x16.out x16.clear x16.role x16.apart ((x11.1 + 1) + 1) x16.need)).set s0_1.toNat (GTask.mk x18.join x18.split x18.in_ x18.out x18.clear x18.role x18.apart x18.all (((x11.1 + 1) + 1) + 1))))))))))))))))))))))) else (kx0_0 s0_0 l0_2)
def m_markNetTaskS (a : List GTask) (k : Int) : Option (Int × (List GTask)) := m_markNetTaskS_l0 m_markNetTaskS_k1 FUEL k 0 a
def k_markNetTaskS : Con := ⟨114, [.v (.sl (.s .task)) true, .v .I false], [(.I, true)], [(0, .v (.sl (.s .task)) true)], fun x => m_markNetTaskS x.1 x.2.1⟩
def f_markNetTaskS : Fs := ⟨[k_markIntS, k_markNetFlowS], []⟩
theorem g_markNetTaskS : f_markNetTaskS.Ok Tryz.prog := (fsK o_markIntS (fsK o_markNetFlowS fs0))
def t_markNetTaskS_0 : Tmpl := ⟨[(0, .c (.ref 1000000)), (1, .c .i), (5, .c .i)], [(1000000, .arr (.s .task) true)]⟩
def x0_markNetTaskS_0 : Tmpl := ⟨[(1, .c .i)], [(1000000, .arr (.s .task) true)]⟩
def L_markNetTaskS_0 (av : AV) (x : HP k_markNetTaskS.ps) (n : Nat) (v : t_markNetTaskS_0.den) (K : Ks (CR k_markNetTaskS)) : Option (CR k_markNetTaskS) := m_markNetTaskS_l0 (fun s0_0 l0_2 => x0_markNetTaskS_0.at none ((s0_0, ()), (l0_2, ())) (K (.exit 0))) n v.1.2.1 v.1.2.2.1 v.2.1
def h_markNetTaskS_0 (av : AV) (x : HP k_markNetTaskS.ps) : Hdl (CR k_markNetTaskS) := hnd [] t_markNetTaskS_0 (L_markNetTaskS_0 av x)
theorem l_markNetTaskS_0 : LP k_markNetTaskS Tryz.f114 [0] h_markNetTaskS_0 := lp_ok (W := []) (H := []) (xs := [x0_markNetTaskS_0]) g_markNetTaskS trivial rfl (fun av x v K => by kernel_rfl) (fun av x n v K => by kernel_rfl)
theorem o_markNetTaskS : k_markNetTaskS.Ok Tryz.prog := fn_ok (k := k_markNetTaskS) (fn := Tryz.f114) (W := []) (H := [h_markNetTaskS_0]) Tryz.func114 g_markNetTaskS ⟨l_markNetTaskS_0, trivial⟩ rfl rfl (fun av x => by kernel_rfl)

def m_markCasItemS_k1 (s0_0 : Int) (l0_2 : List GItem) : Option (Int × (List GItem)) := some (s0_0, l0_2)
def m_markCasItemS_l0 (kx0_0 : Int → List GItem → Option (Int × (List GItem))) : Nat → Int → Int → List GItem → Option (Int × (List GItem))
  | 0, _, _, _ => none
  | n0 + 1, s0_0, s0_1, l0_2 => if decide (s0_1 < (l0_2.length : Int)) = true then ((getI l0_2 s0_1).bind fun x2 => (gd (ok64 (s0_0 + 1)) ((getI (l0_2.set s0_1.toNat (GItem.mk s0_0 x2.who x2.did)) s0_1).bind fun x4 => (gd (ok64 ((s0_0 + 1) + 1)) ((getI ((l0_2.set s0_1.toNat (GItem.mk s0_0 x2.who x2.did)).set s0_1.toNat (GItem.mk x4.task (s0_0 + 1) x4.did)) s0_1).bind fun x6 => (gd (ok64 (((s0_0 + 1) + 1) + 1)) (gd (ok64 (s0_1 + 1)) ((m_markCasItemS_l0 kx0_0 n0) (((s0_0 + 1) + 1) + 1) (s0_1 + 1) (((l0_2.set s0_1.toNat (GItem.mk s0_0 x2.who x2.did)).set s0_1.toNat (GItem.mk x4.task (s0_0 + 1) x4.did)).set s0_1.toNat (GItem.mk x6.task x6.who ((s0_0 + 1) + 1))))))))))) else (kx0_0 s0_0 l0_2)
def m_markCasItemS (a : List GItem) (k : Int) : Option (Int × (List GItem)) := m_markCasItemS_l0 m_markCasItemS_k1 FUEL k 0 a
def k_markCasItemS : Con := ⟨115, [.v (.sl (.s .item)) true, .v .I false], [(.I, true)], [(0, .v (.sl (.s .item)) true)], fun x => m_markCasItemS x.1 x.2.1⟩
def f_markCasItemS : Fs := ⟨[], []⟩
theorem g_markCasItemS : f_markCasItemS.Ok Tryz.prog := fs0
def t_markCasItemS_0 : Tmpl := ⟨[(0, .c (.ref 1000000)), (1, .c .i), (5, .c .i)], [(1000000, .arr (.s .item) true)]⟩
def x0_markCasItemS_0 : Tmpl := ⟨[(1, .c .i)], [(1000000, .arr (.s .item) true)]⟩
def L_markCasItemS_0 (av : AV) (x : HP k_markCasItemS.ps) (n : Nat) (v : t_markCasItemS_0.den) (K : Ks (CR k_markCasItemS)) : Option (CR k_markCasItemS) := m_markCasItemS_l0 (fun s0_0 l0_2 => x0_markCasItemS_0.at none ((s0_0, ()), (l0_2, ())) (K (.exit 0))) n v.1.2.1 v.1.2.2.1 v.2.1
def h_markCasItemS_0 (av : AV) (x : HP k_markCasItemS.ps) : Hdl (CR k_markCasItemS) := hnd [] t_markCasItemS_0 (L_markCasItemS_0 av x)
theorem l_markCasItemS_0 : LP k_markCasItemS Tryz.f115 [0] h_markCasItemS_0 := lp_ok (W := []) (H := []) (xs := [x0_markCasItemS_0]) g_markCasItemS trivial rfl (fun av x v K => by kernel_rfl) (fun av x n v K => by kernel_rfl)
theorem o_markCasItemS : k_markCasItemS.Ok Tryz.prog := fn_ok (k := k_markCasItemS) (fn := Tryz.f115) (W := []) (H := [h_markCasItemS_0]) Tryz.func115 g_markCasItemS ⟨l_markCasItemS_0, trivial⟩ rfl rfl (fun av x => by kernel_rfl)

def m_heldCasItemS_k1 (s0_0 : Int) : Option Int := some s0_0
def m_heldCasItemS_l0 (a : List GItem) (kx0_0 : Int → Option Int) : Nat → Int → Int → Option Int
  | 0, _, _ => none
  | n0 + 1, s0_0, s0_1 => if decide (s0_1 < (a.length : Int)) = true then ((getI a s0_1).bind fun x2 => (if decide (x2.task = s0_0) = true then (gd (ok64 (s0_0 + 1)) ((getI a s0_1).bind fun x5 => (if decide (x5.who = (s0_0 + 1)) = true then (gd (ok64 ((s0_0 + 1) + 1)) ((getI a s0_1).bind fun x8 => (if decide (x8.did = ((s0_0 + 1) + 1)) = true then (gd (ok64 (((s0_0 + 1) + 1) + 1)) (gd (ok64 (s0_1 + 1)) ((m_heldCasItemS_l0 a kx0_0 n0) (((s0_0 + 1) + 1) + 1) (s0_1 + 1)))) else (some (-1))))) else (some (-1))))) else (some (-1)))) else (kx0_0 s0_0)
def m_heldCasItemS (a : List GItem) (k : Int) : Option Int := m_heldCasItemS_l0 a m_heldCasItemS_k1 FUEL k 0
def k_heldCasItemS : Con := ⟨117, [.v (.sl (.s .item)) false, .v .I false], [(.I, true)], [], fun x => m_heldCasItemS x.1 x.2.1⟩
def f_heldCasItemS : Fs := ⟨[], []⟩
theorem g_heldCasItemS : f_heldCasItemS.Ok Tryz.prog := fs0
def t_heldCasItemS_0 : Tmpl := ⟨[(0, .c (.s (.s .item))), (1, .c .i), (5, .c .i)], []⟩
def x0_heldCasItemS_0 : Tmpl := ⟨[(1, .c .i)], []⟩
def L_heldCasItemS_0 (av : AV) (x : HP k_heldCasItemS.ps) (n : Nat) (v : t_heldCasItemS_0.den) (K : Ks (CR k_heldCasItemS)) : Option (CR k_heldCasItemS) := m_heldCasItemS_l0 v.1.1 (fun s0_0 => x0_heldCasItemS_0.at none ((s0_0, ()), ()) (K (.exit 0))) n v.1.2.1 v.1.2.2.1
def h_heldCasItemS_0 (av : AV) (x : HP k_heldCasItemS.ps) : Hdl (CR k_heldCasItemS) := hnd [] t_heldCasItemS_0 (L_heldCasItemS_0 av x)
theorem l_heldCasItemS_0 : LP k_heldCasItemS Tryz.f117 [0] h_heldCasItemS_0 := lp_ok (W := []) (H := []) (xs := [x0_heldCasItemS_0]) g_heldCasItemS trivial rfl (fun av x v K => by kernel_rfl) (fun av x n v K => by kernel_rfl)
theorem o_heldCasItemS : k_heldCasItemS.Ok Tryz.prog := fn_ok (k := k_heldCasItemS) (fn := Tryz.f117) (W := []) (H := [h_heldCasItemS_0]) Tryz.func117 g_heldCasItemS ⟨l_heldCasItemS_0, trivial⟩ rfl rfl (fun av x => by kernel_rfl)

def m_markCasDidS_k1 (s0_0 : Int) (l0_2 : List GDid) : Option (Int × (List GDid)) := some (s0_0, l0_2)
def m_markCasDidS_l0 (kx0_0 : Int → List GDid → Option (Int × (List GDid))) : Nat → Int → Int → List GDid → Option (Int × (List GDid))
  | 0, _, _, _ => none
  | n0 + 1, s0_0, s0_1, l0_2 => if decide (s0_1 < (l0_2.length : Int)) = true then ((getI l0_2 s0_1).bind fun x2 => (gd (ok64 (s0_0 + 1)) ((getI (l0_2.set s0_1.toNat (GDid.mk s0_0 x2.who)) s0_1).bind fun x4 => (gd (ok64 ((s0_0 + 1) + 1)) (gd (ok64 (s0_1 + 1)) ((m_markCasDidS_l0 kx0_0 n0) ((s0_0 + 1) + 1) (s0_1 + 1) ((l0_2.set s0_1.toNat (GDid.mk s0_0 x2.who)).set s0_1.toNat (GDid.mk x4.task (s0_0 + 1))))))))) else (kx0_0 s0_0 l0_2)
def m_markCasDidS (a : List GDid) (k : Int) : Option (Int × (List GDid)) := m_markCasDidS_l0 m_markCasDidS_k1 FUEL k 0 a
def k_markCasDidS : Con := ⟨116, [.v (.sl (.s .did)) true, .v .I false], [(.I, true)], [(0, .v (.sl (.s .did)) true)], fun x => m_markCasDidS x.1 x.2.1⟩
def f_markCasDidS : Fs := ⟨[], []⟩
theorem g_markCasDidS : f_markCasDidS.Ok Tryz.prog := fs0
def t_markCasDidS_0 : Tmpl := ⟨[(0, .c (.ref 1000000)), (1, .c .i), (5, .c .i)], [(1000000, .arr (.s .did) true)]⟩
def x0_markCasDidS_0 : Tmpl := ⟨[(1, .c .i)], [(1000000, .arr (.s .did) true)]⟩
def L_markCasDidS_0 (av : AV) (x : HP k_markCasDidS.ps) (n : Nat) (v : t_markCasDidS_0.den) (K : Ks (CR k_markCasDidS)) : Option (CR k_markCasDidS) := m_markCasDidS_l0 (fun s0_0 l0_2 => x0_markCasDidS_0.at none ((s0_0, ()), (l0_2, ())) (K (.exit 0))) n v.1.2.1 v.1.2.2.1 v.2.1
def h_markCasDidS_0 (av : AV) (x : HP k_markCasDidS.ps) : Hdl (CR k_markCasDidS) := hnd [] t_markCasDidS_0 (L_markCasDidS_0 av x)
theorem l_markCasDidS_0 : LP k_markCasDidS Tryz.f116 [0] h_markCasDidS_0 := lp_ok (W := []) (H := []) (xs := [x0_markCasDidS_0]) g_markCasDidS trivial rfl (fun av x v K => by kernel_rfl) (fun av x n v K => by kernel_rfl)
theorem o_markCasDidS : k_markCasDidS.Ok Tryz.prog := fn_ok (k := k_markCasDidS) (fn := Tryz.f116) (W := []) (H := [h_markCasDidS_0]) Tryz.func116 g_markCasDidS ⟨l_markCasDidS_0, trivial⟩ rfl rfl (fun av x => by kernel_rfl)

def m_heldCasDidS_k1 (s0_0 : Int) : Option Int := some s0_0
def m_heldCasDidS_l0 (a : List GDid) (kx0_0 : Int → Option Int) : Nat → Int → Int → Option Int
  | 0, _, _ => none
  | n0 + 1, s0_0, s0_1 => if decide (s0_1 < (a.length : Int)) = true then ((getI a s0_1).bind fun x2 => (if decide (x2.task = s0_0) = true then (gd (ok64 (s0_0 + 1)) ((getI a s0_1).bind fun x5 => (if decide (x5.who = (s0_0 + 1)) = true then (gd (ok64 ((s0_0 + 1) + 1)) (gd (ok64 (s0_1 + 1)) ((m_heldCasDidS_l0 a kx0_0 n0) ((s0_0 + 1) + 1) (s0_1 + 1)))) else (some (-1))))) else (some (-1)))) else (kx0_0 s0_0)
def m_heldCasDidS (a : List GDid) (k : Int) : Option Int := m_heldCasDidS_l0 a m_heldCasDidS_k1 FUEL k 0
def k_heldCasDidS : Con := ⟨118, [.v (.sl (.s .did)) false, .v .I false], [(.I, true)], [], fun x => m_heldCasDidS x.1 x.2.1⟩
def f_heldCasDidS : Fs := ⟨[], []⟩
theorem g_heldCasDidS : f_heldCasDidS.Ok Tryz.prog := fs0
def t_heldCasDidS_0 : Tmpl := ⟨[(0, .c (.s (.s .did))), (1, .c .i), (5, .c .i)], []⟩
def x0_heldCasDidS_0 : Tmpl := ⟨[(1, .c .i)], []⟩
def L_heldCasDidS_0 (av : AV) (x : HP k_heldCasDidS.ps) (n : Nat) (v : t_heldCasDidS_0.den) (K : Ks (CR k_heldCasDidS)) : Option (CR k_heldCasDidS) := m_heldCasDidS_l0 v.1.1 (fun s0_0 => x0_heldCasDidS_0.at none ((s0_0, ()), ()) (K (.exit 0))) n v.1.2.1 v.1.2.2.1
def h_heldCasDidS_0 (av : AV) (x : HP k_heldCasDidS.ps) : Hdl (CR k_heldCasDidS) := hnd [] t_heldCasDidS_0 (L_heldCasDidS_0 av x)
theorem l_heldCasDidS_0 : LP k_heldCasDidS Tryz.f118 [0] h_heldCasDidS_0 := lp_ok (W := []) (H := []) (xs := [x0_heldCasDidS_0]) g_heldCasDidS trivial rfl (fun av x v K => by kernel_rfl) (fun av x n v K => by kernel_rfl)
theorem o_heldCasDidS : k_heldCasDidS.Ok Tryz.prog := fn_ok (k := k_heldCasDidS) (fn := Tryz.f118) (W := []) (H := [h_heldCasDidS_0]) Tryz.func118 g_heldCasDidS ⟨l_heldCasDidS_0, trivial⟩ rfl rfl (fun av x => by kernel_rfl)

def m_markNetNet (a : GNet) (k : Int) : Option (Int × GNet) := (m_markNetTaskS a.tasks k).bind fun x1 => (some (x1.1, (GNet.mk a.places x1.2)))
def k_markNetNet : Con := ⟨43, [.v (.s .net) true, .v .I false], [(.I, true)], [(0, .v (.s .net) true)], fun x => m_markNetNet x.1 x.2.1⟩
def f_markNetNet : Fs := ⟨[k_markNetTaskS], []⟩
theorem g_markNetNet : f_markNetNet.Ok Tryz.prog := (fsK o_markNetTaskS fs0)
theorem o_markNetNet : k_markNetNet.Ok Tryz.prog := fn_ok (k := k_markNetNet) (fn := Tryz.f43) (W := []) (H := []) Tryz.func43 g_markNetNet trivial rfl rfl (fun av x => by kernel_rfl)

def m_markCasCase (a : GCase) (k : Int) : Option (Int × GCase) := (m_markIntS a.marks k).bind fun x1 => ((m_markCasItemS a.busy x1.1).bind fun x2 => ((m_markIntS a.data x2.1).bind fun x3 => ((m_markCasDidS a.did x3.1).bind fun x4 => (some (x4.1, (GCase.mk a.state x1.2 x2.2 x3.2 x4.2))))))
def k_markCasCase : Con := ⟨45, [.v (.s .kase) true, .v .I false], [(.I, true)], [(0, .v (.s .kase) true)], fun x => m_markCasCase x.1 x.2.1⟩
def f_markCasCase : Fs := ⟨[k_markIntS, k_markCasItemS, k_markCasDidS], []⟩
theorem g_markCasCase : f_markCasCase.Ok Tryz.prog := (fsK o_markIntS (fsK o_markCasItemS (fsK o_markCasDidS fs0)))
theorem o_markCasCase : k_markCasCase.Ok Tryz.prog := fn_ok (k := k_markCasCase) (fn := Tryz.f45) (W := []) (H := []) Tryz.func45 g_markCasCase trivial rfl rfl (fun av x => by kernel_rfl)

def m_heldCasCase (a : GCase) (k : Int) : Option Int := (m_heldIntS a.marks k).bind fun x1 => (if decide (x1 < 0) = true then (some (-1)) else ((m_heldCasItemS a.busy x1).bind fun x3 => (if decide (x3 < 0) = true then (some (-1)) else ((m_heldIntS a.data x3).bind fun x5 => (if decide (x5 < 0) = true then (some (-1)) else ((m_heldCasDidS a.did x5).bind fun x7 => (if decide (x7 < 0) = true then (some (-1)) else (some x7))))))))
def k_heldCasCase : Con := ⟨46, [.v (.s .kase) false, .v .I false], [(.I, true)], [], fun x => m_heldCasCase x.1 x.2.1⟩
def f_heldCasCase : Fs := ⟨[k_heldIntS, k_heldCasItemS, k_heldCasDidS], []⟩
theorem g_heldCasCase : f_heldCasCase.Ok Tryz.prog := (fsK o_heldIntS (fsK o_heldCasItemS (fsK o_heldCasDidS fs0)))
theorem o_heldCasCase : k_heldCasCase.Ok Tryz.prog := fn_ok (k := k_heldCasCase) (fn := Tryz.f46) (W := []) (H := []) Tryz.func46 g_heldCasCase trivial rfl rfl (fun av x => by kernel_rfl)

def m_laws_FnExactDrvNext (aN : GNet) (aPeople : List Int) (aC : GCase) : Option Bool := if decide (1048576 < (aPeople.length : Int)) = true then (some true) else ((m_szNetNet aN 1048576).bind fun x2 => (if decide (x2 < 0) = true then (some true) else ((m_szCasCase aC x2).bind fun x4 => (if decide (x4 < 0) = true then (some true) else ((m_toNetNet aN).bind fun x6 => ((m_toIntS aPeople).bind fun x7 => ((m_toCasCase aC).bind fun x8 => ((m_spec_DrvNext x6 x7 x8).bind fun x9 => ((m_toNetNet aN).bind fun x10 => ((m_toIntS aPeople).bind fun x11 => ((m_toCasCase aC).bind fun x12 => ((m_impl_DrvNext x10 x11 x12).bind fun x13 => ((m_eqCasCase x13.1 x9.1).bind fun x14 => (if x14 = true then (if (x13.2 == x9.2) = true then ((m_toNetNet aN).bind fun x17 => ((m_eqNetNet x10 x17).bind fun x18 => (if x18 = true then ((m_toIntS aPeople).bind fun x20 => ((m_eqIntS x11 x20).bind fun x21 => (if x21 = true then ((m_toCasCase aC).bind fun x23 => ((m_eqCasCase x12 x23).bind fun x24 => (if x24 = true then ((m_markNetNet x10 1).bind fun x26 => ((m_markIntS x11 x26.1).bind fun x27 => ((m_markCasCase x12 x27.1).bind fun x28 => (if decide (x28.1 < 0) = true then (some false) else ((m_eqCasCase x13.1 x9.1).bind fun x30 => (if x30 = true then (if (x13.2 == x9.2) = true then ((m_markCasCase x13.1 1).bind fun x33 => ((m_heldCasCase (GCase.mk x13.1.state x33.2.marks x33.2.busy x33.2.data x33.2.did) 1).bind fun x34 => (if decide (x34 < 0) = true then (some false) else (if decide (x34 = x33.1) = true then ((m_toNetNet aN).bind fun x37 => ((m_toIntS aPeople).bind fun x38 => ((m_toCasCase aC).bind fun x39 => ((m_impl_DrvNext x37 x38 x39).bind fun x40 => ((m_eqCasCase x40.1 x9.1).bind fun x41 => (if x41 = true then (if (x40.2 == x9.2) = true then ((m_heldCasCase (GCase.mk x13.1.state x33.2.marks x33.2.busy x33.2.data x33.2.did) 1).bind fun x44 => (if decide (x44 < 0) = true then (some false) else (if decide (x44 = x33.1) = true then (some true) else (some false)))) else (some false)) else (some false))))))) else (some false))))) else (some false)) else (some false))))))) else (some false)))) else (some false)))) else (some false)))) else (some false)) else (some false)))))))))))))))
def k_laws_FnExactDrvNext : Con := ⟨9, [.v (.s .net) false, .v (.sl .I) false, .v (.s .kase) false], [(.B, true)], [], fun x => m_laws_FnExactDrvNext x.1 x.2.1 x.2.2.1⟩
def f_laws_FnExactDrvNext : Fs := ⟨[k_szNetNet, k_szCasCase, k_toNetNet, k_toIntS, k_toCasCase, k_spec_DrvNext, k_impl_DrvNext, k_eqCasCase, k_eqNetNet, k_eqIntS, k_markNetNet, k_markIntS, k_markCasCase, k_heldCasCase], []⟩
theorem g_laws_FnExactDrvNext : f_laws_FnExactDrvNext.Ok Tryz.prog := (fsK o_szNetNet (fsK o_szCasCase (fsK o_toNetNet (fsK o_toIntS (fsK o_toCasCase (fsK o_spec_DrvNext (fsK o_impl_DrvNext (fsK o_eqCasCase (fsK o_eqNetNet (fsK o_eqIntS (fsK o_markNetNet (fsK o_markIntS (fsK o_markCasCase (fsK o_heldCasCase fs0))))))))))))))
theorem o_laws_FnExactDrvNext : k_laws_FnExactDrvNext.Ok Tryz.prog := fn_ok (k := k_laws_FnExactDrvNext) (fn := Tryz.f9) (W := []) (H := []) Tryz.func9 g_laws_FnExactDrvNext trivial rfl rfl (fun av x => by kernel_rfl)

end
end Go.Am
