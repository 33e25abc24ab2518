/- Mirrors and contracts, printed. Own work. -/
import Derived.Test.YtcbpckbehdaloaaGreatLfC1
set_option linter.unusedSimpArgs false
set_option maxRecDepth 100000
set_option maxHeartbeats 4000000
set_option linter.unusedVariables false
namespace Go.Am
noncomputable section
open Go Go.Proofs
def z0ek (l0_1 : List GNode) : Option (List GNode) := some l0_1
def z064 (tree : List GNode) (kx0_0 : List GNode → Option (List GNode)) : Nat → Int → List GNode → Option (List GNode)
  | 0, _, _ => none
  | n0 + 1, s0_0, l0_1 => if decide (s0_0 < (tree.length : Int)) = true then ((getI tree s0_0).bind fun x2 => (gd (([] : List Int).length + x2.stone.length ≤ SMALL) (gd (l0_1.length + [(GNode.mk x2.if_ x2.yes x2.no x2.ans (([] : List Int) ++ x2.stone))].length ≤ SMALL) (gd (ok64 (s0_0 + 1)) ((z064 tree kx0_0 n0) (s0_0 + 1) (l0_1 ++ [(GNode.mk x2.if_ x2.yes x2.no x2.ans (([] : List Int) ++ x2.stone))])))))) else (kx0_0 l0_1)
def z0cm (tree : List GNode) : Option (List GNode) := z064 tree z0ek FUEL 0 ([] : List GNode)
def z03o : Con := ⟨134, [.v (.sl (.s .node)) false], [((.sl (.s .node)), true)], [], fun x => z0cm x.1⟩
def z1kn : Fs := ⟨[], []⟩
theorem z112 : z1kn.Ok Tryz.prog := fs0
def z0sz : Tmpl := ⟨[(0, .c (.s (.s .node))), (3, .c (.ref 6)), (4, .c .i)], [(6, .arr (.s .node) true)]⟩
def z0ps : Tmpl := ⟨[(3, .c (.ref 6))], [(6, .arr (.s .node) true)]⟩
def z1a9 (av : AV) (x : HP z03o.ps) (n : Nat) (v : z0sz.den) (K : Ks (CR z03o)) : Option (CR z03o) := z064 v.1.1 (fun l0_1 => z0ps.at none (((), ()), (l0_1, ())) (K (.exit 0))) n v.1.2.2.1 v.2.1
def z0rg (av : AV) (x : HP z03o.ps) : Hdl (CR z03o) := hnd [] z0sz (z1a9 av x)
theorem z1bu : LP z03o Tryz.f134 [0] z0rg := lp_ok (W := []) (H := []) (xs := [z0ps]) z112 trivial rfl (fun av x v K => by kernel_rfl) (fun av x n v K => by kernel_rfl)
theorem z127 : z03o.Ok Tryz.prog := fn_ok (k := z03o) (fn := Tryz.f134) (W := []) (H := [z0rg]) Tryz.func134 z112 ⟨z1bu, trivial⟩ rfl rfl (fun av x => by kernel_rfl)
def z0ag (tree : List GNode) (data : List Int) (e : GAsk) (ans : Int) (x1 : (List GNode)) : Option ((List GNode) × Bool) := (z08f tree data).bind fun x20 => (if decide (x20.2 = (-1)) = true then (gd (([] : List Int).length + data.length ≤ SMALL) (gd (x1.length + [(GNode.mk e (-1) (-1) ans (([] : List Int) ++ data))].length ≤ SMALL) (some ((x1 ++ [(GNode.mk e (-1) (-1) ans (([] : List Int) ++ data))]), true)))) else ((getI tree x20.2).bind fun x24 => ((z01o x24.if_ data).bind fun x25 => (if x25 = true then ((getI x1 x20.2).bind fun x27 => (gd (([] : List Int).length + data.length ≤ SMALL) (gd ((x1.set x20.2.toNat (GNode.mk x27.if_ (tree.length : Int) x27.no x27.ans x27.stone)).length + [(GNode.mk e (-1) (-1) ans (([] : List Int) ++ data))].length ≤ SMALL) (some (((x1.set x20.2.toNat (GNode.mk x27.if_ (tree.length : Int) x27.no x27.ans x27.stone)) ++ [(GNode.mk e (-1) (-1) ans (([] : List Int) ++ data))]), true))))) else ((getI x1 x20.2).bind fun x30 => (gd (([] : List Int).length + data.length ≤ SMALL) (gd ((x1.set x20.2.toNat (GNode.mk x30.if_ x30.yes (tree.length : Int) x30.ans x30.stone)).length + [(GNode.mk e (-1) (-1) ans (([] : List Int) ++ data))].length ≤ SMALL) (some (((x1.set x20.2.toNat (GNode.mk x30.if_ x30.yes (tree.length : Int) x30.ans x30.stone)) ++ [(GNode.mk e (-1) (-1) ans (([] : List Int) ++ data))]), true)))))))))
def z040 (tree : List GNode) (data : List Int) (e : GAsk) (x1 : (List GNode)) (kx0_0 : Option ((List GNode) × Bool)) : Nat → Int → Option ((List GNode) × Bool)
  | 0, _ => none
  | n0 + 1, s0_0 => if decide (s0_0 < (tree.length : Int)) = true then ((getI tree s0_0).bind fun x12 => ((z0g2 tree x12.stone data).bind fun x13 => (if x13 = true then ((getI tree s0_0).bind fun x15 => ((z01o e x15.stone).bind fun x16 => (if x16 = true then (some (x1, false)) else (gd (ok64 (s0_0 + 1)) ((z040 tree data e x1 kx0_0 n0) (s0_0 + 1)))))) else (gd (ok64 (s0_0 + 1)) ((z040 tree data e x1 kx0_0 n0) (s0_0 + 1)))))) else (kx0_0)
def z0fy (tree : List GNode) (data : List Int) (e : GAsk) (ans : Int) : Option ((List GNode) × Bool) := (z0cm tree).bind fun x1 => ((z09m tree).bind fun x2 => (if x2 = true then ((z02g data).bind fun x4 => (if x4 = true then ((z01o e data).bind fun x6 => (if x6 = true then ((z002 ans 0 2).bind fun x8 => (if x8 = true then (if decide ((tree.length : Int) = 12) = true then (some (x1, false)) else (z040 tree data e x1 (z0ag tree data e ans x1) FUEL 0)) else (some (x1, false)))) else (some (x1, false)))) else (some (x1, false)))) else (some (x1, false))))
def z055 : Con := ⟨132, [.v (.sl (.s .node)) false, .v (.sl .I) false, .v (.s .ask) false, .v .I false], [((.sl (.s .node)), true), (.B, true)], [], fun x => z0fy x.1 x.2.1 x.2.2.1 x.2.2.2.1⟩
def z1kh : Fs := ⟨[z03o, z016, z014, z05f, z00o, z0mv, z02m], []⟩
theorem z10z : z1kh.Ok Tryz.prog := (fsK z127 (fsK z0v4 (fsK z071 (fsK z08x (fsK z00t (fsK z1ok (fsK z0o4 fs0)))))))
def z0sw : Tmpl := ⟨[(0, .c (.s (.s .node))), (1, .c (.s .I)), (3, .c .i), (6, .c (.bx 6 0)), (10, .c (.ref 15)), (11, .c .i)], [(6, .boxT (.s .ask)), (15, .arr (.s .node) true)]⟩
def z0pp : Tmpl := ⟨[(0, .c (.s (.s .node))), (1, .c (.s .I)), (3, .c .i), (6, .c (.bx 6 0)), (10, .c (.ref 15))], [(6, .boxT (.s .ask)), (15, .arr (.s .node) true)]⟩
def z1a6 (av : AV) (x : HP z055.ps) (n : Nat) (v : z0sw.den) (K : Ks (CR z055)) : Option (CR z055) := z040 v.1.1 v.1.2.1 v.2.1 v.2.2.1 (z0pp.at none ((v.1.1, v.1.2.1, v.1.2.2.1, (), (), ()), (v.2.1, v.2.2.1, ())) (K (.exit 0))) n v.1.2.2.2.2.2.1
def z0rd (av : AV) (x : HP z055.ps) : Hdl (CR z055) := hnd [] z0sw (z1a6 av x)
theorem z1br : LP z055 Tryz.f132 [0] z0rd := lp_ok (W := []) (H := []) (xs := [z0pp]) z10z trivial rfl (fun av x v K => by kernel_rfl) (fun av x n v K => by kernel_rfl)
theorem z1og : z055.Ok Tryz.prog := fn_ok (k := z055) (fn := Tryz.f132) (W := []) (H := [z0rd]) Tryz.func132 z10z ⟨z1br, trivial⟩ rfl rfl (fun av x => by kernel_rfl)
def z03p (ans : Int) : Option Bool := (z00b ans 0 2).bind fun x1 => (some x1)
def z08s : Con := ⟨139, [.v .I false], [(.B, true)], [], fun x => z03p x.1⟩
def z1al : Fs := ⟨[z029], []⟩
theorem z1ax : z1al.Ok Tryz.prog := (fsK z02u fs0)
theorem z0gt : z08s.Ok Tryz.prog := fn_ok (k := z08s) (fn := Tryz.f139) (W := []) (H := []) Tryz.func139 z1ax trivial rfl rfl (fun av x => by kernel_rfl)
def z09i (l0_1 : List GNode) : Option (List GNode) := some l0_1
def z02f (tree : List GNode) (p0_0 : Int) (kx0_0 : List GNode → Option (List GNode)) : Nat → Int → List GNode → Option (List GNode)
  | 0, _, _ => none
  | n0 + 1, s0_0, l0_1 => if decide (s0_0 < p0_0) = true then ((getI tree s0_0).bind fun x2 => ((z00c x2.stone).bind fun x3 => (gd (l0_1.length + [(GNode.mk x2.if_ x2.yes x2.no x2.ans x3)].length ≤ SMALL) (gd (ok64 (s0_0 + 1)) ((z02f tree p0_0 kx0_0 n0) (s0_0 + 1) (l0_1 ++ [(GNode.mk x2.if_ x2.yes x2.no x2.ans x3)])))))) else (kx0_0 l0_1)
def z077 (tree : List GNode) : Option (List GNode) := z02f tree (tree.length : Int) z09i FUEL 0 ([] : List GNode)
def z01a : Con := ⟨144, [.v (.sl (.s .node)) false], [((.sl (.s .node)), true)], [], fun x => z077 x.1⟩
def z12t : Fs := ⟨[z013], []⟩
theorem z0j5 : z12t.Ok Tryz.prog := (fsK z025 fs0)
def z0ge : Tmpl := ⟨[(3, .c (.ref 500003)), (6, .c (.s (.s .node))), (7, .c .i), (8, .c .i)], [(500003, .arr (.s .node) true)]⟩
def z0ex : Tmpl := ⟨[(3, .c (.ref 500003))], [(500003, .arr (.s .node) true)]⟩
def z0vc (av : AV) (x : HP z01a.ps) (n : Nat) (v : z0ge.den) (K : Ks (CR z01a)) : Option (CR z01a) := z02f v.1.2.1 v.1.2.2.1 (fun l0_1 => z0ex.at none (((), ()), (l0_1, ())) (K (.exit 0))) n v.1.2.2.2.1 v.2.1
def z0f6 (av : AV) (x : HP z01a.ps) : Hdl (CR z01a) := hnd [.e 3 500003 (.s .node)] z0ge (z0vc av x)
theorem z0xd : LP z01a Tryz.f144 [0] z0f6 := lp_ok (W := []) (H := []) (xs := [z0ex]) z0j5 trivial rfl (fun av x v K => by kernel_rfl) (fun av x n v K => by kernel_rfl)
theorem z0jt : z01a.Ok Tryz.prog := fn_ok (k := z01a) (fn := Tryz.f144) (W := []) (H := [z0f6]) Tryz.func144 z0j5 ⟨z0xd, trivial⟩ rfl rfl (fun av x => by kernel_rfl)
def z0o0  : Option Bool := some true
def z067 (nets : List GNet) (kx0_0 : Option Bool) : Nat → Int → Option Bool
  | 0, _ => none
  | n0 + 1, s0_0 => if decide (s0_0 < (nets.length : Int)) = true then ((getI nets s0_0).bind fun x4 => ((z09l x4).bind fun x5 => (if x5 = true then (gd (ok64 (s0_0 + 1)) ((z067 nets kx0_0 n0) (s0_0 + 1))) else (some false)))) else (kx0_0)
def z0g5 (nets : List GNet) : Option Bool := (z002 (nets.length : Int) 1 3).bind fun x1 => (if x1 = true then (z067 nets z0o0 FUEL 0) else (some false))
def z057 : Con := ⟨82, [.v (.sl (.s .net)) false], [(.B, true)], [], fun x => z0g5 x.1⟩
def z1kt : Fs := ⟨[z00o, z02x], []⟩
theorem z114 : z1kt.Ok Tryz.prog := (fsK z00t (fsK z0is fs0))
def z0t3 : Tmpl := ⟨[(0, .c (.s (.s .net))), (3, .c .i)], []⟩
def z0pv : Tmpl := ⟨[], []⟩
def z1ad (av : AV) (x : HP z057.ps) (n : Nat) (v : z0t3.den) (K : Ks (CR z057)) : Option (CR z057) := z067 v.1.1 (z0pv.at none ((), ()) (K (.exit 0))) n v.1.2.1
def z0rk (av : AV) (x : HP z057.ps) : Hdl (CR z057) := hnd [] z0t3 (z1ad av x)
theorem z1by : LP z057 Tryz.f82 [0] z0rk := lp_ok (W := []) (H := []) (xs := [z0pv]) z114 trivial rfl (fun av x v K => by kernel_rfl) (fun av x n v K => by kernel_rfl)
theorem z1oo : z057.Ok Tryz.prog := fn_ok (k := z057) (fn := Tryz.f82) (W := []) (H := [z0rk]) Tryz.func82 z114 ⟨z1by, trivial⟩ rfl rfl (fun av x => by kernel_rfl)
def z0ak (p0_1 : Int) (l0_1 : List GTask) : Option GNet := some (GNet.mk p0_1 l0_1)
def z02t (n : GNet) (kx0_0 : List GTask → Option GNet) : Nat → Int → List GTask → Option GNet
  | 0, _, _ => none
  | n0 + 1, s0_0, l0_1 => if decide (s0_0 < (n.tasks.length : Int)) = true then ((getI n.tasks s0_0).bind fun x2 => (gd (([] : List Int).length + x2.in_.length ≤ SMALL) (gd (([] : List GFlow).length + x2.out.length ≤ SMALL) (gd (([] : List Int).length + x2.clear.length ≤ SMALL) (gd (l0_1.length + [(GTask.mk x2.join x2.split (([] : List Int) ++ x2.in_) (([] : List GFlow) ++ x2.out) (([] : List Int) ++ x2.clear) x2.role x2.apart x2.all x2.need)].length ≤ SMALL) (gd (ok64 (s0_0 + 1)) ((z02t n kx0_0 n0) (s0_0 + 1) (l0_1 ++ [(GTask.mk x2.join x2.split (([] : List Int) ++ x2.in_) (([] : List GFlow) ++ x2.out) (([] : List Int) ++ x2.clear) x2.role x2.apart x2.all x2.need)])))))))) else (kx0_0 l0_1)
def z0aj (n : GNet) : Option GNet := z02t n (z0ak n.places) FUEL 0 ([] : List GTask)
def z022 : Con := ⟨119, [.v (.s .net) false], [((.s .net), true)], [], fun x => z0aj x.1⟩
def z14v : Fs := ⟨[], []⟩
theorem z0lm : z14v.Ok Tryz.prog := fs0
def z0hg : Tmpl := ⟨[(1, .c (.bx 1 0)), (2, .c (.bx 2 0)), (3, .c (.bx 3 0)), (4, .c .i)], [(1, .boxT (.s .net)), (2, .box [.i, .nl]), (3, .box [.i, .ref 510301]), (510301, .arr (.s .task) true)]⟩
def z0gk : Tmpl := ⟨[(2, .c (.bx 2 0)), (3, .c (.bx 3 0))], [(2, .box [.i, .nl]), (3, .box [.i, .ref 510301]), (510301, .arr (.s .task) true)]⟩
def z0yy (av : AV) (x : HP z022.ps) (n : Nat) (v : z0hg.den) (K : Ks (CR z022)) : Option (CR z022) := z02t v.2.1 (fun l0_1 => z0gk.at none (((), (), ()), ((v.2.2.1.1, (), ()), (v.2.2.2.1.1, (), ()), l0_1, ())) (K (.exit 0))) n v.1.2.2.2.1 v.2.2.2.2.1
def z0h4 (av : AV) (x : HP z022.ps) : Hdl (CR z022) := hnd [.b 3 1 510301 (.s .task)] z0hg (z0yy av x)
theorem z0zg : LP z022 Tryz.f119 [0] z0h4 := lp_ok (W := []) (H := []) (xs := [z0gk]) z0lm trivial rfl (fun av x v K => by kernel_rfl) (fun av x n v K => by kernel_rfl)
theorem z18k : z022.Ok Tryz.prog := fn_ok (k := z022) (fn := Tryz.f119) (W := []) (H := [z0h4]) Tryz.func119 z0lm ⟨z0zg, trivial⟩ rfl rfl (fun av x => by kernel_rfl)
def z0rt  : Option Bool := some true
def z07i (h : GHouse) (kx0_0 : Option Bool) : Nat → Int → Option Bool
  | 0, _ => none
  | n0 + 1, s0_0 => if decide (s0_0 < (h.runs.length : Int)) = true then ((getI h.runs s0_0).bind fun x9 => (gd (ok64 ((h.nets.length : Int) - 1)) ((z002 x9.net 0 ((h.nets.length : Int) - 1)).bind fun x11 => (if x11 = true then ((getI h.runs s0_0).bind fun x13 => ((getI h.nets x13.net).bind fun x14 => ((getI h.runs s0_0).bind fun x15 => ((z09j x14 x15.case).bind fun x16 => (if x16 = true then (gd (ok64 (s0_0 + 1)) ((z07i h kx0_0 n0) (s0_0 + 1))) else (some false)))))) else (some false))))) else (kx0_0)
def z0ih (h : GHouse) : Option Bool := (z0g5 h.nets).bind fun x1 => (if x1 = true then ((z0bo h.people).bind fun x3 => (if x3 = true then ((z09m h.tree).bind fun x5 => (if x5 = true then (if decide (5 < (h.runs.length : Int)) = true then (some false) else (z07i h z0rt FUEL 0)) else (some false))) else (some false))) else (some false))
def z06q : Con := ⟨31, [.v (.s .house) false], [(.B, true)], [], fun x => z0ih x.1⟩
def z1qv : Fs := ⟨[z057, z03u, z016, z00o, z02v], []⟩
theorem z156 : z1qv.Ok Tryz.prog := (fsK z1oo (fsK z0v3 (fsK z0v4 (fsK z00t (fsK z0ip fs0)))))
def z0yl : Tmpl := ⟨[(1, .c (.bx 1 0)), (3, .c .i)], [(1, .boxT (.s .house))]⟩
def z0te : Tmpl := ⟨[], []⟩
def z1dy (av : AV) (x : HP z06q.ps) (n : Nat) (v : z0yl.den) (K : Ks (CR z06q)) : Option (CR z06q) := z07i v.2.1 (z0te.at none ((), ()) (K (.exit 0))) n v.1.2.1
def z0wq (av : AV) (x : HP z06q.ps) : Hdl (CR z06q) := hnd [] z0yl (z1dy av x)
theorem z1gs : LP z06q Tryz.f31 [0] z0wq := lp_ok (W := []) (H := []) (xs := [z0te]) z156 trivial rfl (fun av x v K => by kernel_rfl) (fun av x n v K => by kernel_rfl)
theorem z1t1 : z06q.Ok Tryz.prog := fn_ok (k := z06q) (fn := Tryz.f31) (W := []) (H := [z0wq]) Tryz.func31 z156 ⟨z1gs, trivial⟩ rfl rfl (fun av x => by kernel_rfl)
def z0el (x2 : (List GNode)) (p0_0 : List Int) (l0_1 : List GNet) (l1_1 : List GRun) : Option GHouse := some (GHouse.mk l0_1 p0_0 x2 l1_1)
def z066 (h : GHouse) (kx1_0 : List GRun → Option GHouse) : Nat → Int → List GRun → Option GHouse
  | 0, _, _ => none
  | n1 + 1, s1_0, l1_1 => if decide (s1_0 < (h.runs.length : Int)) = true then ((getI h.runs s1_0).bind fun x9 => ((getI h.runs s1_0).bind fun x10 => ((z06l x10.case).bind fun x11 => (gd (l1_1.length + [(GRun.mk x9.net x11)].length ≤ SMALL) (gd (ok64 (s1_0 + 1)) ((z066 h kx1_0 n1) (s1_0 + 1) (l1_1 ++ [(GRun.mk x9.net x11)]))))))) else (kx1_0 l1_1)
def z0al (h : GHouse) (x2 : (List GNode)) (p0_0 : List Int) (l0_1 : List GNet) : Option GHouse := z066 h (z0el x2 p0_0 l0_1) FUEL 0 ([] : List GRun)
def z065 (h : GHouse) (kx0_0 : List GNet → Option GHouse) : Nat → Int → List GNet → Option GHouse
  | 0, _, _ => none
  | n0 + 1, s0_0, l0_1 => if decide (s0_0 < (h.nets.length : Int)) = true then ((getI h.nets s0_0).bind fun x4 => ((z0aj x4).bind fun x5 => (gd (l0_1.length + [x5].length ≤ SMALL) (gd (ok64 (s0_0 + 1)) ((z065 h kx0_0 n0) (s0_0 + 1) (l0_1 ++ [x5])))))) else (kx0_0 l0_1)
def z09x (h : GHouse) : Option GHouse := gd (([] : List Int).length + h.people.length ≤ SMALL) ((z0cm h.tree).bind fun x2 => (z065 h (z0al h x2 (([] : List Int) ++ h.people)) FUEL 0 ([] : List GNet)))
def z017 : Con := ⟨62, [.v (.s .house) false], [((.s .house), true)], [], fun x => z09x x.1⟩
def z1kr : Fs := ⟨[z03o, z022, z09s], []⟩
theorem z0ll : z1kr.Ok Tryz.prog := (fsK z127 (fsK z18k (fsK z0g7 fs0)))
def z0t1 : Tmpl := ⟨[(1, .c (.bx 1 0)), (2, .c (.bx 2 0)), (3, .c (.bx 3 0)), (4, .c .i)], [(1, .boxT (.s .house)), (2, .box [.nl, .nl, .nl, .nl]), (3, .box [.ref 510300, .ref 9, .ref 12, .nl]), (510300, .arr (.s .net) true), (9, .arr .I true), (12, .arr (.s .node) true)]⟩
def z0pt : Tmpl := ⟨[(1, .c (.bx 1 0)), (2, .c (.bx 2 0)), (3, .c (.bx 3 0))], [(1, .boxT (.s .house)), (2, .box [.nl, .nl, .nl, .nl]), (3, .box [.ref 510300, .ref 9, .ref 12, .nl]), (510300, .arr (.s .net) true), (9, .arr .I true), (12, .arr (.s .node) true)]⟩
def z1ab (av : AV) (x : HP z017.ps) (n : Nat) (v : z0t1.den) (K : Ks (CR z017)) : Option (CR z017) := z065 v.2.1 (fun l0_1 => z0pt.at none (((), (), (), ()), (v.2.1, ((), (), (), (), ()), ((), (), (), (), ()), l0_1, v.2.2.2.2.2.1, v.2.2.2.2.2.2.1, ())) (K (.exit 0))) n v.1.2.2.2.1 v.2.2.2.2.1
def z0ri (av : AV) (x : HP z017.ps) : Hdl (CR z017) := hnd [.b 3 0 510300 (.s .net)] z0t1 (z1ab av x)
theorem z1bw : LP z017 Tryz.f62 [0] z0ri := lp_ok (W := []) (H := []) (xs := [z0pt]) z0ll trivial rfl (fun av x v K => by kernel_rfl) (fun av x n v K => by kernel_rfl)
def z0t2 : Tmpl := ⟨[(1, .c (.bx 1 0)), (2, .c (.bx 2 0)), (3, .c (.bx 3 0)), (5, .c .i)], [(1, .boxT (.s .house)), (2, .box [.nl, .nl, .nl, .nl]), (3, .box [.ref 510300, .ref 9, .ref 12, .ref 510303]), (510300, .arr (.s .net) true), (9, .arr .I true), (12, .arr (.s .node) true), (510303, .arr (.s .run) true)]⟩
def z0pu : Tmpl := ⟨[(2, .c (.bx 2 0)), (3, .c (.bx 3 0))], [(2, .box [.nl, .nl, .nl, .nl]), (3, .box [.ref 510300, .ref 9, .ref 12, .ref 510303]), (510300, .arr (.s .net) true), (9, .arr .I true), (12, .arr (.s .node) true), (510303, .arr (.s .run) true)]⟩
def z1ac (av : AV) (x : HP z017.ps) (n : Nat) (v : z0t2.den) (K : Ks (CR z017)) : Option (CR z017) := z066 v.2.1 (fun l1_1 => z0pu.at none (((), (), ()), (((), (), (), (), ()), ((), (), (), (), ()), v.2.2.2.2.1, v.2.2.2.2.2.1, v.2.2.2.2.2.2.1, l1_1, ())) (K (.exit 2))) n v.1.2.2.2.1 v.2.2.2.2.2.2.2.1
def z0rj (av : AV) (x : HP z017.ps) : Hdl (CR z017) := hnd [.b 3 3 510303 (.s .run)] z0t2 (z1ac av x)
theorem z1bx : LP z017 Tryz.f62 [1] z0rj := lp_ok (W := []) (H := []) (xs := [z0pu]) z0ll trivial rfl (fun av x v K => by kernel_rfl) (fun av x n v K => by kernel_rfl)
theorem z1om : z017.Ok Tryz.prog := fn_ok (k := z017) (fn := Tryz.f62) (W := []) (H := [z0ri, z0rj]) Tryz.func62 z0ll ⟨z1bw, z1bx, trivial⟩ rfl rfl (fun av x => by kernel_rfl)
def z0g4 (r : GReq) : Option GReq := if decide (r.kind = 1) = true then (some (GReq.mk r.kind 0 0 0 0 0 r.data (GAsk.mk 0 0 0) 0)) else (if decide (r.kind = 2) = true then (some (GReq.mk r.kind r.who r.case r.task 0 0 [] (GAsk.mk 0 0 0) 0)) else (if decide (r.kind = 3) = true then (some (GReq.mk r.kind 0 r.case r.task r.var r.num [] (GAsk.mk 0 0 0) 0)) else (if decide (r.kind = 4) = true then (some (GReq.mk r.kind 0 r.case 0 0 0 [] (GAsk.mk 0 0 0) 0)) else (if decide (r.kind = 5) = true then (some (GReq.mk r.kind 0 0 0 0 0 r.data r.if_ r.ans)) else (some (GReq.mk r.kind 0 0 0 0 0 [] (GAsk.mk 0 0 0) 0))))))
def z0mx : Con := ⟨127, [.v (.s .req) false], [((.s .req), false)], [], fun x => z0g4 x.1⟩
def z1ks : Fs := ⟨[], []⟩
theorem z1lv : z1ks.Ok Tryz.prog := fs0
theorem z1on : z0mx.Ok Tryz.prog := fn_ok (k := z0mx) (fn := Tryz.f127) (W := []) (H := []) Tryz.func127 z1lv trivial rfl rfl (fun av x => by kernel_rfl)
def z041 (a : GReq) (b : GReq) : Option Bool := if decide (a.kind = b.kind) = true then (if decide (a.who = b.who) = true then (if decide (a.case = b.case) = true then (if decide (a.task = b.task) = true then (if decide (a.var = b.var) = true then (if decide (a.num = b.num) = true then (if decide ([a.if_.op, a.if_.var, a.if_.k] = [b.if_.op, b.if_.var, b.if_.k]) = true then (some (decide (a.ans = b.ans))) else (some false)) else (some false)) else (some false)) else (some false)) else (some false)) else (some false)) else (some false)
def z02p (a : GReq) (b : GReq) (kx0_0 : Option Bool) : Nat → Int → Option Bool
  | 0, _ => none
  | n0 + 1, s0_0 => if decide (s0_0 < (a.data.length : Int)) = true then ((getI a.data s0_0).bind fun x3 => ((getI b.data s0_0).bind fun x4 => (if decide (x3 = x4) = true then (gd (ok64 (s0_0 + 1)) ((z02p a b kx0_0 n0) (s0_0 + 1))) else (some false)))) else (kx0_0)
def z0g6 (a : GReq) (b : GReq) : Option Bool := if decide ((a.data.length : Int) = (b.data.length : Int)) = true then (z02p a b (z041 a b) FUEL 0) else (some false)
def z058 : Con := ⟨126, [.v (.s .req) false, .v (.s .req) false], [(.B, true)], [], fun x => z0g6 x.1 x.2.1⟩
def z1ku : Fs := ⟨[], []⟩
theorem z115 : z1ku.Ok Tryz.prog := fs0
def z0t4 : Tmpl := ⟨[(2, .c (.bx 2 0)), (3, .c (.bx 3 0)), (5, .c .i)], [(2, .boxT (.s .req)), (3, .boxT (.s .req))]⟩
def z0pw : Tmpl := ⟨[(2, .c (.bx 2 0)), (3, .c (.bx 3 0))], [(2, .boxT (.s .req)), (3, .boxT (.s .req))]⟩
def z1ae (av : AV) (x : HP z058.ps) (n : Nat) (v : z0t4.den) (K : Ks (CR z058)) : Option (CR z058) := z02p v.2.1 v.2.2.1 (z0pw.at none (((), (), ()), (v.2.1, v.2.2.1, ())) (K (.exit 0))) n v.1.2.2.1
def z0rl (av : AV) (x : HP z058.ps) : Hdl (CR z058) := hnd [] z0t4 (z1ae av x)
theorem z1bz : LP z058 Tryz.f126 [0] z0rl := lp_ok (W := []) (H := []) (xs := [z0pw]) z115 trivial rfl (fun av x v K => by kernel_rfl) (fun av x n v K => by kernel_rfl)
theorem z1op : z058.Ok Tryz.prog := fn_ok (k := z058) (fn := Tryz.f126) (W := []) (H := [z0rl]) Tryz.func126 z115 ⟨z1bz, trivial⟩ rfl rfl (fun av x => by kernel_rfl)
def z0c5 (r : GReq) : Option Bool := (z002 r.kind 1 5).bind fun x1 => (if x1 = true then ((z0g4 r).bind fun x3 => ((z0g6 r x3).bind fun x4 => (if x4 = true then ((z002 r.who 0 4).bind fun x6 => (if x6 = true then ((z002 r.case 0 4).bind fun x8 => (if x8 = true then ((z002 r.task 0 5).bind fun x10 => (if x10 = true then ((z002 r.var (-1) 2).bind fun x12 => (if x12 = true then ((z002 r.num (-99) 99).bind fun x14 => (if x14 = true then ((z08e r.if_).bind fun x16 => (if x16 = true then ((z002 r.ans 0 2).bind fun x18 => (if x18 = true then (if decide (r.kind = 1) = true then ((z02g r.data).bind fun x21 => (some (true == x21))) else ((z02g r.data).bind fun x22 => (some ((decide (r.kind = 5)) == x22)))) else (some false))) else (some false))) else (some false))) else (some false))) else (some false))) else (some false))) else (some false))) else (some false)))) else (some false))
def z0gq : Con := ⟨60, [.v (.s .req) false], [(.B, true)], [], fun x => z0c5 x.1⟩
def z1ao : Fs := ⟨[z00o, z0mx, z058, z0bh, z014], []⟩
theorem z1b0 : z1ao.Ok Tryz.prog := (fsK z00t (fsK z1on (fsK z1op (fsK z0iq (fsK z071 fs0)))))
theorem z1c7 : z0gq.Ok Tryz.prog := fn_ok (k := z0gq) (fn := Tryz.f60) (W := []) (H := []) Tryz.func60 z1b0 trivial rfl rfl (fun av x => by kernel_rfl)
def z0g3 (h : GHouse) (r : GReq) : Option (GHouse × Int) := if decide ((h.runs.length : Int) ≤ r.case) = true then (some (h, 2)) else ((getI h.runs r.case).bind fun x2 => ((getI h.nets x2.net).bind fun x3 => (if decide (r.kind = 2) = true then ((z0c4 x3 h.people x2.case r.task r.who).bind fun x5 => (if x5.2 = true then ((getI h.runs r.case).bind fun x7 => (some ((GHouse.mk h.nets h.people h.tree (h.runs.set r.case.toNat (GRun.mk x7.net x5.1))), 1))) else (some (h, 3)))) else (if decide (r.kind = 3) = true then ((z0dr x3 x2.case r.task r.var r.num).bind fun x9 => (if x9.2 = true then ((getI h.runs r.case).bind fun x11 => (some ((GHouse.mk h.nets h.people h.tree (h.runs.set r.case.toNat (GRun.mk x11.net x9.1))), 1))) else (some (h, 3)))) else ((z0dq x3 x2.case).bind fun x12 => (if x12.2 = true then ((getI h.runs r.case).bind fun x14 => (some ((GHouse.mk h.nets h.people h.tree (h.runs.set r.case.toNat (GRun.mk x14.net x12.1))), 1))) else (some (h, 3))))))))
def z0mw : Con := ⟨133, [.v (.s .house) true, .v (.s .req) false], [((.s .house), true), (.I, true)], [], fun x => z0g3 x.1 x.2.1⟩
def z1kq : Fs := ⟨[z0gp, z0i3, z0i2], []⟩
theorem z1lu : z1kq.Ok Tryz.prog := (fsK z1c6 (fsK z1i7 (fsK z1i6 fs0)))
theorem z1ol : z0mw.Ok Tryz.prog := fn_ok (k := z0mw) (fn := Tryz.f133) (W := []) (H := []) Tryz.func133 z1lu trivial rfl rfl (fun av x => by kernel_rfl)
def z0pz (h : GHouse) (r : GReq) : Option (GHouse × Int) := if decide (r.kind = 1) = true then (if decide ((h.runs.length : Int) = 5) = true then (some (h, 4)) else ((z0fz h.tree r.data).bind fun x3 => (if decide ((h.nets.length : Int) ≤ x3) = true then ((getI h.nets 0).bind fun x5 => ((z0ck x5 r.data).bind fun x6 => (gd (h.runs.length + [(GRun.mk 0 x6)].length ≤ SMALL) (some ((GHouse.mk h.nets h.people h.tree (h.runs ++ [(GRun.mk 0 x6)])), 1))))) else ((getI h.nets x3).bind fun x8 => ((z0ck x8 r.data).bind fun x9 => (gd (h.runs.length + [(GRun.mk x3 x9)].length ≤ SMALL) (some ((GHouse.mk h.nets h.people h.tree (h.runs ++ [(GRun.mk x3 x9)])), 1)))))))) else (if decide (r.kind = 5) = true then ((z0fy h.tree r.data r.if_ r.ans).bind fun x12 => (if x12.2 = true then (some ((GHouse.mk h.nets h.people x12.1 h.runs), 1)) else (some (h, 3)))) else ((z0g3 h r).bind fun x14 => (some (x14.1, x14.2))))
def z0za : Con := ⟨61, [.v (.s .house) true, .v (.s .req) false], [((.s .house), true), (.I, true)], [], fun x => z0pz x.1 x.2.1⟩
def z1xd : Fs := ⟨[z0mt, z0mq, z055, z0mw], []⟩
theorem z1xg : z1xd.Ok Tryz.prog := (fsK z1oh (fsK z1oa (fsK z1og (fsK z1ol fs0))))
theorem z1y2 : z0za.Ok Tryz.prog := fn_ok (k := z0za) (fn := Tryz.f61) (W := []) (H := []) Tryz.func61 z1xg trivial rfl rfl (fun av x => by kernel_rfl)
def z07y (r : GReq) : Option GReq := (z00c r.data).bind fun x1 => (some (GReq.mk r.kind r.who r.case r.task r.var r.num x1 r.if_ r.ans))
def z0a4 : Con := ⟨81, [.v (.s .req) false], [((.s .req), true)], [], fun x => z07y x.1⟩
def z0vm : Fs := ⟨[z013], []⟩
theorem z0w6 : z0vm.Ok Tryz.prog := (fsK z025 fs0)
theorem z0xw : z0a4.Ok Tryz.prog := fn_ok (k := z0a4) (fn := Tryz.f81) (W := []) (H := []) Tryz.func81 z0w6 trivial rfl rfl (fun av x => by kernel_rfl)
def z06w (x1 : (List Int)) (x2 : (List GNode)) (l0_1 : List GNet) (l1_1 : List GRun) : Option GHouse := some (GHouse.mk l0_1 x1 x2 l1_1)
def z01d (p1_0 : List GRun) (p1_1 : Int) (kx1_0 : List GRun → Option GHouse) : Nat → Int → List GRun → Option GHouse
  | 0, _, _ => none
  | n1 + 1, s1_0, l1_1 => if decide (s1_0 < p1_1) = true then ((getI p1_0 s1_0).bind fun x9 => ((z007 x9.case).bind fun x10 => (gd (l1_1.length + [(GRun.mk x9.net x10)].length ≤ SMALL) (gd (ok64 (s1_0 + 1)) ((z01d p1_0 p1_1 kx1_0 n1) (s1_0 + 1) (l1_1 ++ [(GRun.mk x9.net x10)])))))) else (kx1_0 l1_1)
def z03i (h : GHouse) (x1 : (List Int)) (x2 : (List GNode)) (l0_1 : List GNet) : Option GHouse := z01d h.runs (h.runs.length : Int) (z06w x1 x2 l0_1) FUEL 0 ([] : List GRun)
def z01c (p0_0 : List GNet) (p0_1 : Int) (kx0_0 : List GNet → Option GHouse) : Nat → Int → List GNet → Option GHouse
  | 0, _, _ => none
  | n0 + 1, s0_0, l0_1 => if decide (s0_0 < p0_1) = true then ((getI p0_0 s0_0).bind fun x4 => ((z07z x4).bind fun x5 => (gd (l0_1.length + [x5].length ≤ SMALL) (gd (ok64 (s0_0 + 1)) ((z01c p0_0 p0_1 kx0_0 n0) (s0_0 + 1) (l0_1 ++ [x5])))))) else (kx0_0 l0_1)
def z026 (h : GHouse) : Option GHouse := (z00c h.people).bind fun x1 => ((z077 h.tree).bind fun x2 => (z01c h.nets (h.nets.length : Int) (z03i h x1 x2) FUEL 0 ([] : List GNet)))
def z008 : Con := ⟨67, [.v (.s .house) false], [((.s .house), true)], [], fun x => z026 x.1⟩
def z0q6 : Fs := ⟨[z013, z01a, z012, z02b], []⟩
theorem z08m : z0q6.Ok Tryz.prog := (fsK z025 (fsK z0jt (fsK z0xy (fsK z070 fs0))))
def z0b4 : Tmpl := ⟨[(1, .c (.bx 1 0)), (2, .c (.bx 2 0)), (3, .c (.bx 3 0)), (16, .c (.s (.s .net))), (17, .c .i), (18, .c .i)], [(1, .boxT (.s .house)), (2, .box [.nl, .nl, .nl, .nl]), (3, .box [.ref 510300, .ref 10, .ref 13, .nl]), (510300, .arr (.s .net) true), (10, .arr .I true), (13, .arr (.s .node) true)]⟩
def z0ar : Tmpl := ⟨[(1, .c (.bx 1 0)), (2, .c (.bx 2 0)), (3, .c (.bx 3 0))], [(1, .boxT (.s .house)), (2, .box [.nl, .nl, .nl, .nl]), (3, .box [.ref 510300, .ref 10, .ref 13, .nl]), (510300, .arr (.s .net) true), (10, .arr .I true), (13, .arr (.s .node) true)]⟩
def z0kt (av : AV) (x : HP z008.ps) (n : Nat) (v : z0b4.den) (K : Ks (CR z008)) : Option (CR z008) := z01c v.1.2.2.2.1 v.1.2.2.2.2.1 (fun l0_1 => z0ar.at none (((), (), (), ()), (v.2.1, ((), (), (), (), ()), ((), (), (), (), ()), l0_1, v.2.2.2.2.2.1, v.2.2.2.2.2.2.1, ())) (K (.exit 0))) n v.1.2.2.2.2.2.1 v.2.2.2.2.1
def z0ax (av : AV) (x : HP z008.ps) : Hdl (CR z008) := hnd [.b 3 0 510300 (.s .net)] z0b4 (z0kt av x)
theorem z0l3 : LP z008 Tryz.f67 [0] z0ax := lp_ok (W := []) (H := []) (xs := [z0ar]) z08m trivial rfl (fun av x v K => by kernel_rfl) (fun av x n v K => by kernel_rfl)
def z0b5 : Tmpl := ⟨[(2, .c (.bx 2 0)), (3, .c (.bx 3 0)), (31, .c (.s (.s .run))), (32, .c .i), (33, .c .i)], [(2, .box [.nl, .nl, .nl, .nl]), (3, .box [.ref 510300, .ref 10, .ref 13, .ref 510303]), (510300, .arr (.s .net) true), (10, .arr .I true), (13, .arr (.s .node) true), (510303, .arr (.s .run) true)]⟩
def z0as : Tmpl := ⟨[(2, .c (.bx 2 0)), (3, .c (.bx 3 0))], [(2, .box [.nl, .nl, .nl, .nl]), (3, .box [.ref 510300, .ref 10, .ref 13, .ref 510303]), (510300, .arr (.s .net) true), (10, .arr .I true), (13, .arr (.s .node) true), (510303, .arr (.s .run) true)]⟩
def z0ku (av : AV) (x : HP z008.ps) (n : Nat) (v : z0b5.den) (K : Ks (CR z008)) : Option (CR z008) := z01d v.1.2.2.1 v.1.2.2.2.1 (fun l1_1 => z0as.at none (((), (), ()), (((), (), (), (), ()), ((), (), (), (), ()), v.2.2.2.1, v.2.2.2.2.1, v.2.2.2.2.2.1, l1_1, ())) (K (.exit 2))) n v.1.2.2.2.2.1 v.2.2.2.2.2.2.1
def z0ay (av : AV) (x : HP z008.ps) : Hdl (CR z008) := hnd [.b 3 3 510303 (.s .run)] z0b5 (z0ku av x)
theorem z0l4 : LP z008 Tryz.f67 [1] z0ay := lp_ok (W := []) (H := []) (xs := [z0as]) z08m trivial rfl (fun av x v K => by kernel_rfl) (fun av x n v K => by kernel_rfl)
theorem z0qk : z008.Ok Tryz.prog := fn_ok (k := z008) (fn := Tryz.f67) (W := []) (H := [z0ax, z0ay]) Tryz.func67 z08m ⟨z0l3, z0l4, trivial⟩ rfl rfl (fun av x => by kernel_rfl)
def z0ru  : Option Bool := some true
def z07j (log : List GReq) (kx0_0 : Option Bool) : Nat → Int → Option Bool
  | 0, _ => none
  | n0 + 1, s0_0 => if decide (s0_0 < (log.length : Int)) = true then ((getI log s0_0).bind fun x3 => ((z0c5 x3).bind fun x4 => (if x4 = true then (gd (ok64 (s0_0 + 1)) ((z07j log kx0_0 n0) (s0_0 + 1))) else (some false)))) else (kx0_0)
def z0ii (log : List GReq) : Option Bool := if decide (150 < (log.length : Int)) = true then (some false) else (z07j log z0ru FUEL 0)
def z06r : Con := ⟨78, [.v (.sl (.s .req)) false], [(.B, true)], [], fun x => z0ii x.1⟩
def z1qx : Fs := ⟨[z0gq], []⟩
theorem z157 : z1qx.Ok Tryz.prog := (fsK z1c7 fs0)
def z0ym : Tmpl := ⟨[(0, .c (.s (.s .req))), (3, .c .i)], []⟩
def z0tf : Tmpl := ⟨[], []⟩
def z1dz (av : AV) (x : HP z06r.ps) (n : Nat) (v : z0ym.den) (K : Ks (CR z06r)) : Option (CR z06r) := z07j v.1.1 (z0tf.at none ((), ()) (K (.exit 0))) n v.1.2.1
def z0wr (av : AV) (x : HP z06r.ps) : Hdl (CR z06r) := hnd [] z0ym (z1dz av x)
theorem z1gt : LP z06r Tryz.f78 [0] z0wr := lp_ok (W := []) (H := []) (xs := [z0tf]) z157 trivial rfl (fun av x v K => by kernel_rfl) (fun av x n v K => by kernel_rfl)
theorem z1t2 : z06r.Ok Tryz.prog := fn_ok (k := z06r) (fn := Tryz.f78) (W := []) (H := [z0wr]) Tryz.func78 z157 ⟨z1gt, trivial⟩ rfl rfl (fun av x => by kernel_rfl)
def z0jo (l0_1 : List Int) (l0_2 : List GNet) (l0_3 : List GNode) (l0_4 : List GRun) : Option (GHouse × Bool) := some ((GHouse.mk l0_2 l0_1 l0_3 l0_4), true)
def z04i (log : List GReq) (kx0_0 : List Int → List GNet → List GNode → List GRun → Option (GHouse × Bool)) : Nat → Int → List Int → List GNet → List GNode → List GRun → Option (GHouse × Bool)
  | 0, _, _, _, _, _ => none
  | n0 + 1, s0_0, l0_1, l0_2, l0_3, l0_4 => if decide (s0_0 < (log.length : Int)) = true then ((z09x (GHouse.mk l0_2 l0_1 l0_3 l0_4)).bind fun x7 => ((getI log s0_0).bind fun x8 => ((z0pz x7 x8).bind fun x9 => (if decide (x9.2 = 1) = true then (gd (ok64 (s0_0 + 1)) ((z04i log kx0_0 n0) (s0_0 + 1) x9.1.people x9.1.nets x9.1.tree x9.1.runs)) else (some ((GHouse.mk [] [] [] []), false)))))) else (kx0_0 l0_1 l0_2 l0_3 l0_4)
def z0du (h : GHouse) (log : List GReq) : Option (GHouse × Bool) := (z0ih h).bind fun x1 => (if x1 = true then ((z0ii log).bind fun x3 => (if x3 = true then ((z09x h).bind fun x5 => (z04i log z0jo FUEL 0 x5.people x5.nets x5.tree x5.runs)) else (some ((GHouse.mk [] [] [] []), false)))) else (some ((GHouse.mk [] [] [] []), false)))
def z03g : Con := ⟨23, [.v (.s .house) false, .v (.sl (.s .req)) false], [((.s .house), true), (.B, true)], [], fun x => z0du x.1 x.2.1⟩
def z1fn : Fs := ⟨[z06q, z06r, z017, z0za], []⟩
theorem z0wg : z1fn.Ok Tryz.prog := (fsK z1t1 (fsK z1t2 (fsK z1om (fsK z1y2 fs0))))
def z0ow : Tmpl := ⟨[(1, .c (.s (.s .req))), (4, .c (.bx 4 0)), (6, .c (.bx 6 0)), (7, .c .i)], [(4, .box [.nl, .nl, .nl, .nl]), (6, .box [.ref 20, .ref 10020, .ref 20020, .ref 30020]), (20, .arr (.s .net) true), (10020, .arr .I true), (20020, .arr (.s .node) true), (30020, .arr (.s .run) true)]⟩
def z0kp : Tmpl := ⟨[(4, .c (.bx 4 0)), (6, .c (.bx 6 0))], [(4, .box [.nl, .nl, .nl, .nl]), (6, .box [.ref 20, .ref 10020, .ref 20020, .ref 30020]), (20, .arr (.s .net) true), (10020, .arr .I true), (20020, .arr (.s .node) true), (30020, .arr (.s .run) true)]⟩
def z14g (av : AV) (x : HP z03g.ps) (n : Nat) (v : z0ow.den) (K : Ks (CR z03g)) : Option (CR z03g) := z04i v.1.1 (fun l0_1 l0_2 l0_3 l0_4 => z0kp.at none (((), (), ()), (((), (), (), (), ()), ((), (), (), (), ()), l0_2, l0_1, l0_3, l0_4, ())) (K (.exit 0))) n v.1.2.2.2.1 v.2.2.2.2.1 v.2.2.2.1 v.2.2.2.2.2.1 v.2.2.2.2.2.2.1
def z0me (av : AV) (x : HP z03g.ps) : Hdl (CR z03g) := hnd [] z0ow (z14g av x)
theorem z17f : LP z03g Tryz.f23 [0] z0me := lp_ok (W := []) (H := []) (xs := [z0kp]) z0wg trivial rfl (fun av x v K => by kernel_rfl) (fun av x n v K => by kernel_rfl)
theorem z1ia : z03g.Ok Tryz.prog := fn_ok (k := z03g) (fn := Tryz.f23) (W := []) (H := [z0me]) Tryz.func23 z0wg ⟨z17f, trivial⟩ rfl rfl (fun av x => by kernel_rfl)
def z0n1  : Option Int := some (-1)
def z05o (s : List Int) (p : Int → Option Bool) (p0_0 : Int) (kx0_0 : Option Int) : Nat → Int → Option Int
  | 0, _ => none
  | n0 + 1, s0_0 => if decide (s0_0 < p0_0) = true then ((getI s s0_0).bind fun x2 => ((p x2).bind fun x3 => (if x3 = true then (some s0_0) else (gd (ok64 (s0_0 + 1)) ((z05o s p p0_0 kx0_0 n0) (s0_0 + 1)))))) else (kx0_0)
def z0fd (s : List Int) (p : Int → Option Bool) : Option Int := z05o s p (s.length : Int) z0n1 FUEL 0
def z03l : Con := ⟨211, [.v (.sl .I) false, .fn .I], [(.I, true)], [], fun x => z0fd x.1 x.2.1⟩
def z1j3 : Fs := ⟨[], []⟩
theorem z10c : z1j3.Ok Tryz.prog := fs0
def z0s8 : Tmpl := ⟨[(0, .c (.s .I)), (1, .c .fp), (7, .c .i), (8, .c .i)], []⟩
def z0p0 : Tmpl := ⟨[], []⟩
def z19i (av : AV) (x : HP z03l.ps) (n : Nat) (v : z0s8.den) (K : Ks (CR z03l)) : Option (CR z03l) := z05o v.1.1 x.2.1 v.1.2.2.1 (z0p0.at (fpOf z03l.ps x av) ((), ()) (K (.exit 0))) n v.1.2.2.2.1
def z0qp (av : AV) (x : HP z03l.ps) : Hdl (CR z03l) := hnd [] z0s8 (z19i av x)
theorem z1b3 : LP z03l Tryz.f211 [0] z0qp := lp_ok (W := []) (H := []) (xs := [z0p0]) z10c trivial rfl (fun av x v K => by kernel_rfl) (fun av x n v K => by kernel_rfl)
theorem z1n2 : z03l.Ok Tryz.prog := fn_ok (k := z03l) (fn := Tryz.f211) (W := []) (H := [z0qp]) Tryz.func211 z10c ⟨z1b3, trivial⟩ rfl rfl (fun av x => by kernel_rfl)
def z023 (s : List Int) (p : Int → Option Bool) : Option Bool := (z0fd s p).bind fun x1 => (some (decide (0 ≤ x1)))
def z03t : Con := ⟨164, [.v (.sl .I) false, .fn .I], [(.B, true)], [], fun x => z023 x.1 x.2.1⟩
def z14r : Fs := ⟨[z03l], []⟩
theorem z14y : z14r.Ok Tryz.prog := (fsK z1n2 fs0)
theorem z08g : z03t.Ok Tryz.prog := fn_ok (k := z03t) (fn := Tryz.f164) (W := []) (H := []) Tryz.func164 z14y trivial rfl rfl (fun av x => by kernel_rfl)
def z0fc  : Option Int := some (-1)
def z02s (s : List GReq) (p : GReq → Option Bool) (p0_0 : Int) (kx0_0 : Option Int) : Nat → Int → Option Int
  | 0, _ => none
  | n0 + 1, s0_0 => if decide (s0_0 < p0_0) = true then ((getI s s0_0).bind fun x2 => ((p x2).bind fun x3 => (if x3 = true then (some s0_0) else (gd (ok64 (s0_0 + 1)) ((z02s s p p0_0 kx0_0 n0) (s0_0 + 1)))))) else (kx0_0)
def z0a8 (s : List GReq) (p : GReq → Option Bool) : Option Int := z02s s p (s.length : Int) z0fc FUEL 0
def z01n : Con := ⟨204, [.v (.sl (.s .req)) false, .fn (.s .req)], [(.I, true)], [], fun x => z0a8 x.1 x.2.1⟩
def z14t : Fs := ⟨[], []⟩
theorem z0lj : z14t.Ok Tryz.prog := fs0
def z0he : Tmpl := ⟨[(0, .c (.s (.s .req))), (1, .c .fp), (7, .c .i), (8, .c .i)], []⟩
def z0gi : Tmpl := ⟨[], []⟩
def z0yw (av : AV) (x : HP z01n.ps) (n : Nat) (v : z0he.den) (K : Ks (CR z01n)) : Option (CR z01n) := z02s v.1.1 x.2.1 v.1.2.2.1 (z0gi.at (fpOf z01n.ps x av) ((), ()) (K (.exit 0))) n v.1.2.2.2.1
def z0h2 (av : AV) (x : HP z01n.ps) : Hdl (CR z01n) := hnd [] z0he (z0yw av x)
theorem z0ze : LP z01n Tryz.f204 [0] z0h2 := lp_ok (W := []) (H := []) (xs := [z0gi]) z0lj trivial rfl (fun av x v K => by kernel_rfl) (fun av x n v K => by kernel_rfl)
theorem z18e : z01n.Ok Tryz.prog := fn_ok (k := z01n) (fn := Tryz.f204) (W := []) (H := [z0h2]) Tryz.func204 z0lj ⟨z0ze, trivial⟩ rfl rfl (fun av x => by kernel_rfl)
def z07x (s : List GReq) (p : GReq → Option Bool) : Option Bool := (z0a8 s p).bind fun x1 => (some (decide (0 ≤ x1)))
def z0a3 : Con := ⟨153, [.v (.sl (.s .req)) false, .fn (.s .req)], [(.B, true)], [], fun x => z07x x.1 x.2.1⟩
def z0vl : Fs := ⟨[z01n], []⟩
theorem z0vr : z0vl.Ok Tryz.prog := (fsK z18e fs0)
theorem z0xu : z0a3.Ok Tryz.prog := fn_ok (k := z0a3) (fn := Tryz.f153) (W := []) (H := []) Tryz.func153 z0vr trivial rfl rfl (fun av x => by kernel_rfl)
def z0ee  : Option Int := some (-1)
def z02d (s : List GTask) (p : GTask → Option Bool) (p0_0 : Int) (kx0_0 : Option Int) : Nat → Int → Option Int
  | 0, _ => none
  | n0 + 1, s0_0 => if decide (s0_0 < p0_0) = true then ((getI s s0_0).bind fun x2 => ((p x2).bind fun x3 => (if x3 = true then (some s0_0) else (gd (ok64 (s0_0 + 1)) ((z02d s p p0_0 kx0_0 n0) (s0_0 + 1)))))) else (kx0_0)
def z094 (s : List GTask) (p : GTask → Option Bool) : Option Int := z02d s p (s.length : Int) z0ee FUEL 0
def z019 : Con := ⟨206, [.v (.sl (.s .task)) false, .fn (.s .task)], [(.I, true)], [], fun x => z094 x.1 x.2.1⟩
def z12p : Fs := ⟨[], []⟩
theorem z0j3 : z12p.Ok Tryz.prog := fs0
def z0gc : Tmpl := ⟨[(0, .c (.s (.s .task))), (1, .c .fp), (7, .c .i), (8, .c .i)], []⟩
def z0ev : Tmpl := ⟨[], []⟩
def z0va (av : AV) (x : HP z019.ps) (n : Nat) (v : z0gc.den) (K : Ks (CR z019)) : Option (CR z019) := z02d v.1.1 x.2.1 v.1.2.2.1 (z0ev.at (fpOf z019.ps x av) ((), ()) (K (.exit 0))) n v.1.2.2.2.1
def z0f4 (av : AV) (x : HP z019.ps) : Hdl (CR z019) := hnd [] z0gc (z0va av x)
theorem z0xb : LP z019 Tryz.f206 [0] z0f4 := lp_ok (W := []) (H := []) (xs := [z0ev]) z0j3 trivial rfl (fun av x v K => by kernel_rfl) (fun av x n v K => by kernel_rfl)
theorem z13a : z019.Ok Tryz.prog := fn_ok (k := z019) (fn := Tryz.f206) (W := []) (H := [z0f4]) Tryz.func206 z0j3 ⟨z0xb, trivial⟩ rfl rfl (fun av x => by kernel_rfl)
def z06u (s : List GTask) (p : GTask → Option Bool) : Option Bool := (z094 s p).bind fun x1 => (some (decide (0 ≤ x1)))
def z09e : Con := ⟨161, [.v (.sl (.s .task)) false, .fn (.s .task)], [(.B, true)], [], fun x => z06u x.1 x.2.1⟩
def z0tq : Fs := ⟨[z019], []⟩
theorem z0tw : z0tq.Ok Tryz.prog := (fsK z13a fs0)
theorem z0uv : z09e.Ok Tryz.prog := fn_ok (k := z09e) (fn := Tryz.f161) (W := []) (H := []) Tryz.func161 z0tw trivial rfl rfl (fun av x => by kernel_rfl)
def z0fb  : Option Int := some (-1)
def z02r (s : List GNet) (p : GNet → Option Bool) (p0_0 : Int) (kx0_0 : Option Int) : Nat → Int → Option Int
  | 0, _ => none
  | n0 + 1, s0_0 => if decide (s0_0 < p0_0) = true then ((getI s s0_0).bind fun x2 => ((p x2).bind fun x3 => (if x3 = true then (some s0_0) else (gd (ok64 (s0_0 + 1)) ((z02r s p p0_0 kx0_0 n0) (s0_0 + 1)))))) else (kx0_0)
def z0a7 (s : List GNet) (p : GNet → Option Bool) : Option Int := z02r s p (s.length : Int) z0fb FUEL 0
def z01m : Con := ⟨159, [.v (.sl (.s .net)) false, .fn (.s .net)], [(.I, true)], [], fun x => z0a7 x.1 x.2.1⟩
def z14s : Fs := ⟨[], []⟩
theorem z0li : z14s.Ok Tryz.prog := fs0
def z0hd : Tmpl := ⟨[(0, .c (.s (.s .net))), (1, .c .fp), (7, .c .i), (8, .c .i)], []⟩
def z0gh : Tmpl := ⟨[], []⟩
def z0yv (av : AV) (x : HP z01m.ps) (n : Nat) (v : z0hd.den) (K : Ks (CR z01m)) : Option (CR z01m) := z02r v.1.1 x.2.1 v.1.2.2.1 (z0gh.at (fpOf z01m.ps x av) ((), ()) (K (.exit 0))) n v.1.2.2.2.1
def z0h1 (av : AV) (x : HP z01m.ps) : Hdl (CR z01m) := hnd [] z0hd (z0yv av x)
theorem z0zd : LP z01m Tryz.f159 [0] z0h1 := lp_ok (W := []) (H := []) (xs := [z0gh]) z0li trivial rfl (fun av x v K => by kernel_rfl) (fun av x n v K => by kernel_rfl)
theorem z18d : z01m.Ok Tryz.prog := fn_ok (k := z01m) (fn := Tryz.f159) (W := []) (H := [z0h1]) Tryz.func159 z0li ⟨z0zd, trivial⟩ rfl rfl (fun av x => by kernel_rfl)
def z07w (s : List GNet) (p : GNet → Option Bool) : Option Bool := (z0a7 s p).bind fun x1 => (some (decide (0 ≤ x1)))
def z0a2 : Con := ⟨88, [.v (.sl (.s .net)) false, .fn (.s .net)], [(.B, true)], [], fun x => z07w x.1 x.2.1⟩
def z0vk : Fs := ⟨[z01m], []⟩
theorem z0vq : z0vk.Ok Tryz.prog := (fsK z18d fs0)
theorem z0xt : z0a2.Ok Tryz.prog := fn_ok (k := z0a2) (fn := Tryz.f88) (W := []) (H := []) Tryz.func88 z0vq trivial rfl rfl (fun av x => by kernel_rfl)
def z0ed  : Option Int := some (-1)
def z02c (s : List GItem) (p : GItem → Option Bool) (p0_0 : Int) (kx0_0 : Option Int) : Nat → Int → Option Int
  | 0, _ => none
  | n0 + 1, s0_0 => if decide (s0_0 < p0_0) = true then ((getI s s0_0).bind fun x2 => ((p x2).bind fun x3 => (if x3 = true then (some s0_0) else (gd (ok64 (s0_0 + 1)) ((z02c s p p0_0 kx0_0 n0) (s0_0 + 1)))))) else (kx0_0)
def z093 (s : List GItem) (p : GItem → Option Bool) : Option Int := z02c s p (s.length : Int) z0ed FUEL 0
def z018 : Con := ⟨218, [.v (.sl (.s .item)) false, .fn (.s .item)], [(.I, true)], [], fun x => z093 x.1 x.2.1⟩
def z12o : Fs := ⟨[], []⟩
theorem z0j2 : z12o.Ok Tryz.prog := fs0
def z0gb : Tmpl := ⟨[(0, .c (.s (.s .item))), (1, .c .fp), (7, .c .i), (8, .c .i)], []⟩
def z0eu : Tmpl := ⟨[], []⟩
def z0v9 (av : AV) (x : HP z018.ps) (n : Nat) (v : z0gb.den) (K : Ks (CR z018)) : Option (CR z018) := z02c v.1.1 x.2.1 v.1.2.2.1 (z0eu.at (fpOf z018.ps x av) ((), ()) (K (.exit 0))) n v.1.2.2.2.1
def z0f3 (av : AV) (x : HP z018.ps) : Hdl (CR z018) := hnd [] z0gb (z0v9 av x)
theorem z0xa : LP z018 Tryz.f218 [0] z0f3 := lp_ok (W := []) (H := []) (xs := [z0eu]) z0j2 trivial rfl (fun av x v K => by kernel_rfl) (fun av x n v K => by kernel_rfl)
theorem z139 : z018.Ok Tryz.prog := fn_ok (k := z018) (fn := Tryz.f218) (W := []) (H := [z0f3]) Tryz.func218 z0j2 ⟨z0xa, trivial⟩ rfl rfl (fun av x => by kernel_rfl)
def z06t (s : List GItem) (p : GItem → Option Bool) : Option Bool := (z093 s p).bind fun x1 => (some (decide (0 ≤ x1)))
def z09d : Con := ⟨182, [.v (.sl (.s .item)) false, .fn (.s .item)], [(.B, true)], [], fun x => z06t x.1 x.2.1⟩
def z0tp : Fs := ⟨[z018], []⟩
theorem z0tv : z0tp.Ok Tryz.prog := (fsK z139 fs0)
theorem z0uu : z09d.Ok Tryz.prog := fn_ok (k := z09d) (fn := Tryz.f182) (W := []) (H := []) Tryz.func182 z0tv trivial rfl rfl (fun av x => by kernel_rfl)
def z17q  : Option Int := some (-1)
def z0bk (s : List Int) (v : Int) (p0_0 : Int) (kx0_0 : Option Int) : Nat → Int → Option Int
  | 0, _ => none
  | n0 + 1, s0_0 => if decide (s0_0 < p0_0) = true then ((getI s s0_0).bind fun x2 => (if decide (v = x2) = true then (some s0_0) else (gd (ok64 (s0_0 + 1)) ((z0bk s v p0_0 kx0_0 n0) (s0_0 + 1))))) else (kx0_0)
def z13i (s : List Int) (v : Int) : Option Int := z0bk s v (s.length : Int) z17q FUEL 0
def z0de : Con := ⟨179, [.v (.sl .I) false, .v .I false], [(.I, true)], [], fun x => z13i x.1 x.2.1⟩
def z249 : Fs := ⟨[], []⟩
theorem z1vd : z249.Ok Tryz.prog := fs0
def z1dm : Tmpl := ⟨[(0, .c (.s .I)), (1, .c .i), (7, .c .i), (8, .c .i)], []⟩
def z19f : Tmpl := ⟨[], []⟩
def z1wi (av : AV) (x : HP z0de.ps) (n : Nat) (v : z1dm.den) (K : Ks (CR z0de)) : Option (CR z0de) := z0bk v.1.1 v.1.2.1 v.1.2.2.1 (z19f.at none ((), ()) (K (.exit 0))) n v.1.2.2.2.1
def z1cl (av : AV) (x : HP z0de.ps) : Hdl (CR z0de) := hnd [] z1dm (z1wi av x)
theorem z1xr : LP z0de Tryz.f179 [0] z1cl := lp_ok (W := []) (H := []) (xs := [z19f]) z1vd trivial rfl (fun av x v K => by kernel_rfl) (fun av x n v K => by kernel_rfl)
theorem z24q : z0de.Ok Tryz.prog := fn_ok (k := z0de) (fn := Tryz.f179) (W := []) (H := [z1cl]) Tryz.func179 z1vd ⟨z1xr, trivial⟩ rfl rfl (fun av x => by kernel_rfl)
def z0bi (s : List Int) (v : Int) : Option Bool := (z13i s v).bind fun x1 => (some (decide (0 ≤ x1)))
def z0e9 : Con := ⟨108, [.v (.sl .I) false, .v .I false], [(.B, true)], [], fun x => z0bi x.1 x.2.1⟩
def z1q4 : Fs := ⟨[z0de], []⟩
theorem z1r5 : z1q4.Ok Tryz.prog := (fsK z24q fs0)
theorem z0uw : z0e9.Ok Tryz.prog := fn_ok (k := z0e9) (fn := Tryz.f108) (W := []) (H := []) Tryz.func108 z1r5 trivial rfl rfl (fun av x => by kernel_rfl)
def z0rn  : Option Int := some (-1)
def z07c (s : List GDid) (v : GDid) (p0_0 : Int) (kx0_0 : Option Int) : Nat → Int → Option Int
  | 0, _ => none
  | n0 + 1, s0_0 => if decide (s0_0 < p0_0) = true then ((getI s s0_0).bind fun x2 => (if decide ([v.task, v.who] = [x2.task, x2.who]) = true then (some s0_0) else (gd (ok64 (s0_0 + 1)) ((z07c s v p0_0 kx0_0 n0) (s0_0 + 1))))) else (kx0_0)
def z0i4 (s : List GDid) (v : GDid) : Option Int := z07c s v (s.length : Int) z0rn FUEL 0
def z06n : Con := ⟨232, [.v (.sl (.s .did)) false, .v (.s .did) false], [(.I, true)], [], fun x => z0i4 x.1 x.2.1⟩
def z1q5 : Fs := ⟨[], []⟩
theorem z14z : z1q5.Ok Tryz.prog := fs0
def z0yd : Tmpl := ⟨[(0, .c (.s (.s .did))), (3, .c (.bx 3 0)), (7, .c .i), (8, .c .i)], [(3, .boxT (.s .did))]⟩
def z0t6 : Tmpl := ⟨[], []⟩
def z1dq (av : AV) (x : HP z06n.ps) (n : Nat) (v : z0yd.den) (K : Ks (CR z06n)) : Option (CR z06n) := z07c v.1.1 v.2.1 v.1.2.2.1 (z0t6.at none ((), ()) (K (.exit 0))) n v.1.2.2.2.1
def z0wi (av : AV) (x : HP z06n.ps) : Hdl (CR z06n) := hnd [] z0yd (z1dq av x)
theorem z1gk : LP z06n Tryz.f232 [0] z0wi := lp_ok (W := []) (H := []) (xs := [z0t6]) z14z trivial rfl (fun av x v K => by kernel_rfl) (fun av x n v K => by kernel_rfl)
theorem z1sg : z06n.Ok Tryz.prog := fn_ok (k := z06n) (fn := Tryz.f232) (W := []) (H := [z0wi]) Tryz.func232 z14z ⟨z1gk, trivial⟩ rfl rfl (fun av x => by kernel_rfl)
def z0gr (s : List GDid) (v : GDid) : Option Bool := (z0i4 s v).bind fun x1 => (some (decide (0 ≤ x1)))
def z0gm : Con := ⟨219, [.v (.sl (.s .did)) false, .v (.s .did) false], [(.B, true)], [], fun x => z0gr x.1 x.2.1⟩
def z1ag : Fs := ⟨[z06n], []⟩
theorem z1as : z1ag.Ok Tryz.prog := (fsK z1sg fs0)
theorem z1c2 : z0gm.Ok Tryz.prog := fn_ok (k := z0gm) (fn := Tryz.f219) (W := []) (H := []) Tryz.func219 z1as trivial rfl rfl (fun av x => by kernel_rfl)
def z17p  : Option Bool := some true
def z0bj (s1 : List Int) (s2 : List Int) (p0_0 : Int) (kx0_0 : Option Bool) : Nat → Int → Option Bool
  | 0, _ => none
  | n0 + 1, s0_0 => if decide (s0_0 < p0_0) = true then ((getI s1 s0_0).bind fun x3 => ((getI s2 s0_0).bind fun x4 => (if decide (x3 = x4) = true then (gd (ok64 (s0_0 + 1)) ((z0bj s1 s2 p0_0 kx0_0 n0) (s0_0 + 1))) else (some false)))) else (kx0_0)
def z13h (s1 : List Int) (s2 : List Int) : Option Bool := if decide ((s1.length : Int) = (s2.length : Int)) = true then (z0bj s1 s2 (s1.length : Int) z17p FUEL 0) else (some false)
def z0dd : Con := ⟨199, [.v (.sl .I) false, .v (.sl .I) false], [(.B, true)], [], fun x => z13h x.1 x.2.1⟩
def z248 : Fs := ⟨[], []⟩
theorem z1vc : z248.Ok Tryz.prog := fs0
def z1dl : Tmpl := ⟨[(0, .c (.s .I)), (1, .c (.s .I)), (12, .c .i), (13, .c .i)], []⟩
def z19e : Tmpl := ⟨[], []⟩
def z1wh (av : AV) (x : HP z0dd.ps) (n : Nat) (v : z1dl.den) (K : Ks (CR z0dd)) : Option (CR z0dd) := z0bj v.1.1 v.1.2.1 v.1.2.2.1 (z19e.at none ((), ()) (K (.exit 0))) n v.1.2.2.2.1
def z1ck (av : AV) (x : HP z0dd.ps) : Hdl (CR z0dd) := hnd [] z1dl (z1wh av x)
theorem z1xq : LP z0dd Tryz.f199 [0] z1ck := lp_ok (W := []) (H := []) (xs := [z19e]) z1vc trivial rfl (fun av x v K => by kernel_rfl) (fun av x n v K => by kernel_rfl)
theorem z24p : z0dd.Ok Tryz.prog := fn_ok (k := z0dd) (fn := Tryz.f199) (W := []) (H := [z1ck]) Tryz.func199 z1vc ⟨z1xq, trivial⟩ rfl rfl (fun av x => by kernel_rfl)
def z0i9 (n : Int) : Option Bool := (z05a n).bind fun x1 => (some (!x1))
def z0it : FCon := ⟨198, .I, [], fun z c => z0i9 z ⟩
def z1f1 : Fs := ⟨[z08h], []⟩
theorem z1g3 : z1f1.Ok Tryz.prog := (fsK z0dx fs0)
theorem z1hq : z0it.Ok Tryz.prog := FCon.ok (fn_ok (k := z0it.con) (fn := Tryz.f198) (W := []) (H := []) Tryz.func198 z1g3 trivial rfl rfl (fun av x => by kernel_rfl))
def z03w (data : List Int) : Option Bool := if decide ((data.length : Int) = 3) = true then ((z023 data (fun z => z0i9 z )).bind fun x2 => (some (!x2))) else (some false)
def z06o : Con := ⟨140, [.v (.sl .I) false], [(.B, true)], [], fun x => z03w x.1⟩
def z1qk : Fs := ⟨[z03t], [z0it]⟩
theorem z1rj : z1qk.Ok Tryz.prog := (fsK z08g (fsF z1hq fs0))
theorem z09n : z06o.Ok Tryz.prog := fn_ok (k := z06o) (fn := Tryz.f140) (W := []) (H := []) Tryz.func140 z1rj trivial rfl rfl (fun av x => by kernel_rfl)
def z020 (e : GAsk) (data : List Int) : Option Bool := (z087 e).bind fun x1 => (if x1 = true then ((z03w data).bind fun x3 => (if x3 = true then (if decide (e.op = 1) = true then ((getI data e.var).bind fun x6 => (some (decide (x6 < e.k)))) else (if decide (e.op = 2) = true then ((getI data e.var).bind fun x8 => (some (decide (x8 = e.k)))) else (if decide (e.op = 3) = true then ((getI data e.var).bind fun x10 => (some (decide (e.k < x10)))) else (some true)))) else (some false))) else (some false))
def z03m : Con := ⟨166, [.v (.s .ask) false, .v (.sl .I) false], [(.B, true)], [], fun x => z020 x.1 x.2.1⟩
def z1aj : Fs := ⟨[z0ea, z06o], []⟩
theorem z1av : z1aj.Ok Tryz.prog := (fsK z0ux (fsK z09n fs0))
theorem z07o : z03m.Ok Tryz.prog := fn_ok (k := z03m) (fn := Tryz.f166) (W := []) (H := []) Tryz.func166 z1av trivial rfl rfl (fun av x => by kernel_rfl)
def z0jl  : Option Bool := some true
def z04f (list : List Int) (places : Int) (without : List Int) (p0_0 : Int) (kx0_0 : Option Bool) : Nat → Int → Int → Option Bool
  | 0, _, _ => none
  | n0 + 1, s0_0, s0_1 => if decide (s0_0 < p0_0) = true then ((getI list s0_0).bind fun x2 => (gd (ok64 (s0_1 + 1)) (gd (ok64 (places - 1)) ((z00b x2 (s0_1 + 1) (places - 1)).bind fun x5 => (if x5 = true then ((z0bi without x2).bind fun x7 => (if x7 = true then (some false) else (gd (ok64 (s0_0 + 1)) ((z04f list places without p0_0 kx0_0 n0) (s0_0 + 1) x2)))) else (some false)))))) else (kx0_0)
def z0ad (list : List Int) (places : Int) (without : List Int) : Option Bool := z04f list places without (list.length : Int) z0jl FUEL 0 (-1)
def z03a : Con := ⟨208, [.v (.sl .I) false, .v .I false, .v (.sl .I) false], [(.B, true)], [], fun x => z0ad x.1 x.2.1 x.2.2.1⟩
def z1f9 : Fs := ⟨[z029, z0e9], []⟩
theorem z0w9 : z1f9.Ok Tryz.prog := (fsK z02u (fsK z0uw fs0))
def z0on : Tmpl := ⟨[(1, .c .i), (2, .c (.s .I)), (7, .c .i), (10, .c (.s .I)), (11, .c .i), (12, .c .i)], []⟩
def z0kh : Tmpl := ⟨[], []⟩
def z147 (av : AV) (x : HP z03a.ps) (n : Nat) (v : z0on.den) (K : Ks (CR z03a)) : Option (CR z03a) := z04f v.1.2.2.2.1 v.1.1 v.1.2.1 v.1.2.2.2.2.1 (z0kh.at none ((), ()) (K (.exit 0))) n v.1.2.2.2.2.2.1 v.1.2.2.1
def z0m5 (av : AV) (x : HP z03a.ps) : Hdl (CR z03a) := hnd [] z0on (z147 av x)
theorem z176 : LP z03a Tryz.f208 [0] z0m5 := lp_ok (W := []) (H := []) (xs := [z0kh]) z0w9 trivial rfl (fun av x v K => by kernel_rfl) (fun av x n v K => by kernel_rfl)
theorem z1hy : z03a.Ok Tryz.prog := fn_ok (k := z03a) (fn := Tryz.f208) (W := []) (H := [z0m5]) Tryz.func208 z0w9 ⟨z176, trivial⟩ rfl rfl (fun av x => by kernel_rfl)
def z07r (t : GTask) : Option Bool := (z00b (t.out.length : Int) 1 3).bind fun x21 => (some x21)
def z011 (t : GTask) (places : Int) (p0_0 : List GFlow) (p0_1 : Int) (kx0_0 : Option Bool) : Nat → Int → List Int → Option Bool
  | 0, _, _ => none
  | n0 + 1, s0_0, m0_1 => if decide (s0_0 < p0_1) = true then ((getI p0_0 s0_0).bind fun x2 => (if decide (t.split = 1) = true then (gd (ok64 (places - 1)) ((z00b x2.to 0 (places - 1)).bind fun x5 => (if x5 = true then (if decide (x2.to ∈ m0_1) = true then (some false) else ((z087 x2.if_).bind fun x8 => (if x8 = true then (if ((decide (x2.if_.op = 0)) == true) = true then (gd (ok64 (s0_0 + 1)) ((z011 t places p0_0 p0_1 kx0_0 n0) (s0_0 + 1) (insKey m0_1 x2.to))) else (some false)) else (some false)))) else (some false)))) else (gd (ok64 ((t.out.length : Int) - 1)) (gd (ok64 (places - 1)) ((z00b x2.to 0 (places - 1)).bind fun x14 => (if x14 = true then (if decide (x2.to ∈ m0_1) = true then (some false) else ((z087 x2.if_).bind fun x17 => (if x17 = true then (if ((decide (x2.if_.op = 0)) == (decide (s0_0 = ((t.out.length : Int) - 1)))) = true then (gd (ok64 (s0_0 + 1)) ((z011 t places p0_0 p0_1 kx0_0 n0) (s0_0 + 1) (insKey m0_1 x2.to))) else (some false)) else (some false)))) else (some false))))))) else (kx0_0)
def z06z (t : GTask) (places : Int) : Option Bool := z011 t places t.out (t.out.length : Int) (z07r t) FUEL 0 (insKey ([] : List Int) 0)
def z00v : Con := ⟨209, [.v (.s .task) false, .v .I false], [(.B, true)], [], fun x => z06z x.1 x.2.1⟩
def z0tu : Fs := ⟨[z029, z0ea], []⟩
theorem z0e6 : z0tu.Ok Tryz.prog := (fsK z02u (fsK z0ux fs0))
def z0co : Tmpl := ⟨[(1, .c .i), (2, .c (.bx 2 0)), (5, .c (.bx 9 0)), (12, .c (.s (.s .flow))), (13, .c .i), (14, .c .i)], [(2, .boxT (.s .task)), (9, .mp)]⟩
def z0bb : Tmpl := ⟨[(2, .c (.bx 2 0))], [(2, .boxT (.s .task))]⟩
def z0ld (av : AV) (x : HP z00v.ps) (n : Nat) (v : z0co.den) (K : Ks (CR z00v)) : Option (CR z00v) := z011 v.2.1 v.1.1 v.1.2.2.2.1 v.1.2.2.2.2.1 (z0bb.at none (((), ()), (v.2.1, ())) (K (.exit 0))) n v.1.2.2.2.2.2.1 v.2.2.1
def z0cd (av : AV) (x : HP z00v.ps) : Hdl (CR z00v) := hnd [] z0co (z0ld av x)
theorem z0n0 : LP z00v Tryz.f209 [0] z0cd := lp_ok (W := []) (H := []) (xs := [z0bb]) z0e6 trivial rfl (fun av x v K => by kernel_rfl) (fun av x n v K => by kernel_rfl)
theorem z0v0 : z00v.Ok Tryz.prog := fn_ok (k := z00v) (fn := Tryz.f209) (W := []) (H := [z0cd]) Tryz.func209 z0e6 ⟨z0n0, trivial⟩ rfl rfl (fun av x => by kernel_rfl)
def z098 (t : GTask) (places : Int) (tasks : Int) : Option Bool := (z0fo t.join).bind fun x1 => (if x1 = true then ((z0fo t.split).bind fun x3 => (if x3 = true then ((z00b (t.in_.length : Int) 1 3).bind fun x5 => (if x5 = true then ((z0ad t.in_ places [1]).bind fun x7 => (if x7 = true then ((z06z t places).bind fun x9 => (if x9 = true then ((z0ad t.clear places [0, 1]).bind fun x11 => (if x11 = true then ((z0cj t.role).bind fun x13 => (if x13 = true then (gd (ok64 (tasks - 1)) ((z00b t.apart (-1) (tasks - 1)).bind fun x16 => (if x16 = true then ((z00b t.all 1 3).bind fun x18 => (if x18 = true then ((z00b t.need 1 t.all).bind fun x20 => (some x20)) else (some false))) else (some false)))) else (some false))) else (some false))) else (some false))) else (some false))) else (some false))) else (some false))) else (some false))
def z0cu : Con := ⟨163, [.v (.s .task) false, .v .I false, .v .I false], [(.B, true)], [], fun x => z098 x.1 x.2.1 x.2.2.1⟩
def z12r : Fs := ⟨[z0mp, z029, z03a, z00v, z0fa], []⟩
theorem z12u : z12r.Ok Tryz.prog := (fsK z1o4 (fsK z02u (fsK z1hy (fsK z0v0 (fsK z125 fs0)))))
theorem z13c : z0cu.Ok Tryz.prog := fn_ok (k := z0cu) (fn := Tryz.f163) (W := []) (H := []) Tryz.func163 z12u trivial rfl rfl (fun av x => by kernel_rfl)
def z0ic (t : GTask) (n : GNet) : Option Bool := (z098 t n.places (n.tasks.length : Int)).bind fun x1 => (some (!x1))
def z0iw : FCon := ⟨162, (.s .task), [(.s .net)], fun z c => z0ic z c.1⟩
def z1f6 : Fs := ⟨[z0cu], []⟩
theorem z1g7 : z1f6.Ok Tryz.prog := (fsK z13c fs0)
theorem z1hv : z0iw.Ok Tryz.prog := FCon.ok (fn_ok (k := z0iw.con) (fn := Tryz.f162) (W := []) (H := []) Tryz.func162 z1g7 trivial rfl rfl (fun av x => by kernel_rfl))
def z09g (n : GNet) : Option Bool := (z0ig n.places (n.tasks.length : Int)).bind fun x1 => (if x1 = true then ((z06u n.tasks (fun z => z0ic z n)).bind fun x3 => (some (!x3))) else (some false))
def z0bg : Con := ⟨90, [.v (.s .net) false], [(.B, true)], [], fun x => z09g x.1⟩
def z1qp : Fs := ⟨[z0i0, z09e], [z0iw]⟩
theorem z1rn : z1qp.Ok Tryz.prog := (fsK z1i0 (fsK z0uv (fsF z1hv fs0)))
theorem z0in : z0bg.Ok Tryz.prog := fn_ok (k := z0bg) (fn := Tryz.f90) (W := []) (H := []) Tryz.func90 z1rn trivial rfl rfl (fun av x => by kernel_rfl)
def z05l (p : Int) (out : List Bool) : Option Bool := (getI out p).bind fun x1 => (some x1)
def z08o : FCon := ⟨234, .I, [(.sl .B)], fun z c => z05l z c.1⟩
def z0qa : Fs := ⟨[], []⟩
theorem z0qe : z0qa.Ok Tryz.prog := fs0
theorem z0qm : z08o.Ok Tryz.prog := FCon.ok (fn_ok (k := z08o.con) (fn := Tryz.f234) (W := []) (H := []) Tryz.func234 z0qe trivial rfl rfl (fun av x => by kernel_rfl))
def z0ch (s1_0 : List GTask) (s1_1 : Int) (s1_2 : Int) (bk1 : List GTask → Int → Int → Bool → List Bool → Option (List Bool)) (s2_1 : Bool) (l2_2 : List Bool) : Option (List Bool) := gd (ok64 (s1_2 + 1)) (bk1 s1_0 s1_1 (s1_2 + 1) s2_1 l2_2)
def z00d (p2_0 : List GFlow) (p2_1 : Int) (kx2_0 : Bool → List Bool → Option (List Bool)) : Nat → Int → Bool → List Bool → Option (List Bool)
  | 0, _, _, _ => none
  | n2 + 1, s2_0, s2_1, l2_2 => if decide (s2_0 < p2_1) = true then ((getI p2_0 s2_0).bind fun x11 => (if s2_1 = true then ((getI l2_2 x11.to).bind fun x13 => (gd (ok64 (s2_0 + 1)) ((z00d p2_0 p2_1 kx2_0 n2) (s2_0 + 1) true (l2_2.set x11.to.toNat true)))) else ((getI l2_2 x11.to).bind fun x15 => ((getI l2_2 x11.to).bind fun x16 => (gd (ok64 (s2_0 + 1)) ((z00d p2_0 p2_1 kx2_0 n2) (s2_0 + 1) (!x15) (l2_2.set x11.to.toNat true))))))) else (kx2_0 s2_1 l2_2)
def z089 (bk0 : Bool → List Bool → Option (List Bool)) (s1_3 : Bool) (l1_4 : List Bool) : Option (List Bool) := bk0 s1_3 l1_4
def z009 (but : Int) (kx1_0 : Bool → List Bool → Option (List Bool)) : Nat → List GTask → Int → Int → Bool → List Bool → Option (List Bool)
  | 0, _, _, _, _, _ => none
  | n1 + 1, s1_0, s1_1, s1_2, s1_3, l1_4 => if decide (s1_2 < s1_1) = true then ((getI s1_0 s1_2).bind fun x5 => (if decide (s1_2 = but) = true then (gd (ok64 (s1_2 + 1)) ((z009 but kx1_0 n1) s1_0 s1_1 (s1_2 + 1) s1_3 l1_4)) else ((z023 x5.in_ (fun z => z05l z l1_4)).bind fun x8 => (if x8 = true then (z00d x5.out (x5.out.length : Int) (z0ch s1_0 s1_1 s1_2 (z009 but kx1_0 n1)) FUEL 0 s1_3 l1_4) else (gd (ok64 (s1_2 + 1)) ((z009 but kx1_0 n1) s1_0 s1_1 (s1_2 + 1) s1_3 l1_4)))))) else (kx1_0 s1_3 l1_4)
def z0ci (l0_1 : List Bool) : Option (List Bool) := some l0_1
def z00s (n : GNet) (but : Int) (kx0_0 : List Bool → Option (List Bool)) : Nat → Bool → List Bool → Option (List Bool)
  | 0, _, _ => none
  | n0 + 1, s0_0, l0_1 => if s0_0 = true then (z009 but (z089 (z00s n but kx0_0 n0)) FUEL n.tasks (n.tasks.length : Int) 0 false l0_1) else (kx0_0 l0_1)
def z080 (n : GNet) (place : Int) (but : Int) : Option (List Bool) := gd ((0 : Int) ≤ n.places ∧ n.places ≤ (1000000000 : Int)) ((getI (List.replicate n.places.toNat false) place).bind fun x2 => (z00s n but z0ci FUEL true ((List.replicate n.places.toNat false).set place.toNat true)))
def z003 : Con := ⟨230, [.v (.s .net) false, .v .I false, .v .I false], [((.sl .B), true)], [], fun x => z080 x.1 x.2.1 x.2.2.1⟩
def z0vp : Fs := ⟨[z03t], [z08o]⟩
theorem z07v : z0vp.Ok Tryz.prog := (fsK z08g (fsF z0qm fs0))
def z09z : Tmpl := ⟨[(2, .c .i), (3, .c (.bx 3 0)), (7, .c (.bx 7 0)), (8, .c .b), (21, .c (.s (.s .task))), (22, .c .i), (23, .c .i), (39, .c (.s (.s .flow))), (40, .c .i), (41, .c .i)], [(3, .boxT (.s .net)), (7, .box [.ref 15]), (15, .arr .B true)]⟩
def z08z : Tmpl := ⟨[(2, .c .i), (3, .c (.bx 3 0)), (7, .c (.bx 7 0)), (8, .c .b), (21, .c (.s (.s .task))), (22, .c .i), (23, .c .i)], [(3, .boxT (.s .net)), (7, .box [.ref 15]), (15, .arr .B true)]⟩
def z0gx (av : AV) (x : HP z003.ps) (n : Nat) (v : z09z.den) (K : Ks (CR z003)) : Option (CR z003) := z00d v.1.2.2.2.2.2.2.2.1 v.1.2.2.2.2.2.2.2.2.1 (fun s2_1 l2_2 => z08z.at none ((v.1.1, (), (), s2_1, v.1.2.2.2.2.1, v.1.2.2.2.2.2.1, v.1.2.2.2.2.2.2.1, ()), (v.2.1, ((), ()), l2_2, ())) (K (.exit 4))) n v.1.2.2.2.2.2.2.2.2.2.1 v.1.2.2.2.1 v.2.2.2.1
def z09q (av : AV) (x : HP z003.ps) : Hdl (CR z003) := hnd [] z09z (z0gx av x)
theorem z0h6 : LP z003 Tryz.f230 [0, 0, 0] z09q := lp_ok (W := []) (H := []) (xs := [z08z]) z07v trivial rfl (fun av x v K => by kernel_rfl) (fun av x n v K => by kernel_rfl)
def z0b9 : Tmpl := ⟨[(2, .c .i), (3, .c (.bx 3 0)), (7, .c (.bx 7 0)), (8, .c .b), (21, .c (.s (.s .task))), (22, .c .i), (23, .c .i)], [(3, .boxT (.s .net)), (7, .box [.ref 15]), (15, .arr .B true)]⟩
def z0aw : Tmpl := ⟨[(2, .c .i), (3, .c (.bx 3 0)), (7, .c (.bx 7 0)), (8, .c .b)], [(3, .boxT (.s .net)), (7, .box [.ref 15]), (15, .arr .B true)]⟩
def z0ky (av : AV) (x : HP z003.ps) (n : Nat) (v : z0b9.den) (K : Ks (CR z003)) : Option (CR z003) := z009 v.1.1 (fun s1_3 l1_4 => z0aw.at none ((v.1.1, (), (), s1_3, ()), (v.2.1, ((), ()), l1_4, ())) (K (.exit 2))) n v.1.2.2.2.2.1 v.1.2.2.2.2.2.1 v.1.2.2.2.2.2.2.1 v.1.2.2.2.1 v.2.2.2.1
def z0b2 (av : AV) (x : HP z003.ps) : Hdl (CR z003) := hnd [] z0b9 (z0ky av x)
theorem z0l8 : LP z003 Tryz.f230 [0, 0] z0b2 := lp_ok (W := []) (H := [z09q]) (xs := [z0aw]) z07v ⟨z0h6, trivial⟩ rfl (fun av x v K => by kernel_rfl) (fun av x n v K => by kernel_rfl)
def z0da : Tmpl := ⟨[(2, .c .i), (3, .c (.bx 3 0)), (7, .c (.bx 7 0)), (8, .c .b)], [(3, .boxT (.s .net)), (7, .box [.ref 15]), (15, .arr .B true)]⟩
def z0cq : Tmpl := ⟨[(7, .c (.bx 7 0))], [(7, .box [.ref 15]), (15, .arr .B true)]⟩
def z0q3 (av : AV) (x : HP z003.ps) (n : Nat) (v : z0da.den) (K : Ks (CR z003)) : Option (CR z003) := z00s v.2.1 v.1.1 (fun l0_1 => z0cq.at none (((), ()), (((), ()), l0_1, ())) (K (.exit 0))) n v.1.2.2.2.1 v.2.2.2.1
def z0d1 (av : AV) (x : HP z003.ps) : Hdl (CR z003) := hnd [] z0da (z0q3 av x)
theorem z0qh : LP z003 Tryz.f230 [0] z0d1 := lp_ok (W := []) (H := [z0b2]) (xs := [z0cq]) z07v ⟨z0l8, trivial⟩ rfl (fun av x v K => by kernel_rfl) (fun av x n v K => by kernel_rfl)
theorem z0xz : z003.Ok Tryz.prog := fn_ok (k := z003) (fn := Tryz.f230) (W := []) (H := [z0d1]) Tryz.func230 z07v ⟨z0qh, trivial⟩ rfl rfl (fun av x => by kernel_rfl)
def z07q (m : Int) : Option Bool := (z00b m 0 4).bind fun x1 => (some (!x1))
def z07t : FCon := ⟨227, .I, [], fun z c => z07q z ⟩
def z0l0 : Fs := ⟨[z029], []⟩
theorem z0l2 : z0l0.Ok Tryz.prog := (fsK z02u fs0)
theorem z0la : z07t.Ok Tryz.prog := FCon.ok (fn_ok (k := z07t.con) (fn := Tryz.f227) (W := []) (H := []) Tryz.func227 z0l2 trivial rfl rfl (fun av x => by kernel_rfl))
def z033 (n : GNet) (marks : List Int) : Option Bool := if decide ((marks.length : Int) = n.places) = true then ((z023 marks (fun z => z07q z )).bind fun x2 => (some (!x2))) else (some false)
def z05j : Con := ⟨212, [.v (.s .net) false, .v (.sl .I) false], [(.B, true)], [], fun x => z033 x.1 x.2.1⟩
def z0q9 : Fs := ⟨[z03t], [z07t]⟩
theorem z0qd : z0q9.Ok Tryz.prog := (fsK z08g (fsF z0la fs0))
theorem z0d8 : z05j.Ok Tryz.prog := fn_ok (k := z05j) (fn := Tryz.f212) (W := []) (H := []) Tryz.func212 z0qd trivial rfl rfl (fun av x => by kernel_rfl)
def z0bm (n : GNet) (marks : List Int) : Option Bool := (z09g n).bind fun x1 => (if x1 = true then ((z033 n marks).bind fun x3 => (some x3)) else (some false))
def z0eb : Con := ⟨167, [.v (.s .net) false, .v (.sl .I) false], [(.B, true)], [], fun x => z0bm x.1 x.2.1⟩
def z1qo : Fs := ⟨[z0bg, z05j], []⟩
theorem z1rm : z1qo.Ok Tryz.prog := (fsK z0in (fsK z0d8 fs0))
theorem z0uy : z0eb.Ok Tryz.prog := fn_ok (k := z0eb) (fn := Tryz.f167) (W := []) (H := []) Tryz.func167 z1rm trivial rfl rfl (fun av x => by kernel_rfl)
def z0b3 (busy : List GItem) : Option Bool := some (decide ((busy.length : Int) ≤ 6))
def z01k (n : GNet) (p0_0 : List GItem) (p0_1 : Int) (kx0_0 : Option Bool) : Nat → Int → Option Bool
  | 0, _ => none
  | n0 + 1, s0_0 => if decide (s0_0 < p0_1) = true then ((getI p0_0 s0_0).bind fun x2 => ((z00i n x2.task).bind fun x3 => (if x3 = true then ((z08v x2.who).bind fun x5 => (if x5 = true then ((getI n.tasks x2.task).bind fun x7 => (gd (ok64 (x7.need - 1)) ((z00b x2.did 0 (x7.need - 1)).bind fun x9 => (if x9 = true then (gd (ok64 (s0_0 + 1)) ((z01k n p0_0 p0_1 kx0_0 n0) (s0_0 + 1))) else (some false))))) else (some false))) else (some false)))) else (kx0_0)
def z03y (n : GNet) (busy : List GItem) : Option Bool := z01k n busy (busy.length : Int) (z0b3 busy) FUEL 0
def z00l : Con := ⟨168, [.v (.s .net) false, .v (.sl (.s .item)) false], [(.B, true)], [], fun x => z03y x.1 x.2.1⟩
def z0ts : Fs := ⟨[z01i, z0bx, z029], []⟩
theorem z0e5 : z0ts.Ok Tryz.prog := (fsK z034 (fsK z0s4 (fsK z02u fs0)))
def z0cn : Tmpl := ⟨[(1, .c (.s (.s .item))), (2, .c (.bx 2 0)), (7, .c (.s (.s .item))), (8, .c .i), (9, .c .i)], [(2, .boxT (.s .net))]⟩
def z0ba : Tmpl := ⟨[(1, .c (.s (.s .item)))], []⟩
def z0lc (av : AV) (x : HP z00l.ps) (n : Nat) (v : z0cn.den) (K : Ks (CR z00l)) : Option (CR z00l) := z01k v.2.1 v.1.2.2.1 v.1.2.2.2.1 (z0ba.at none ((v.1.1, ()), ()) (K (.exit 0))) n v.1.2.2.2.2.1
def z0cc (av : AV) (x : HP z00l.ps) : Hdl (CR z00l) := hnd [] z0cn (z0lc av x)
theorem z0mz : LP z00l Tryz.f168 [0] z0cc := lp_ok (W := []) (H := []) (xs := [z0ba]) z0e5 trivial rfl (fun av x v K => by kernel_rfl) (fun av x n v K => by kernel_rfl)
theorem z0em : z00l.Ok Tryz.prog := fn_ok (k := z00l) (fn := Tryz.f168) (W := []) (H := [z0cc]) Tryz.func168 z0e5 ⟨z0mz, trivial⟩ rfl rfl (fun av x => by kernel_rfl)
def z07p (q : Int) (marks : List Int) (reach : List Bool) : Option Bool := (getI marks q).bind fun x1 => (if decide (x1 = 0) = true then ((getI reach q).bind fun x3 => (some x3)) else (some false))
def z07s : FCon := ⟨231, .I, [(.sl .I), (.sl .B)], fun z c => z07p z c.1 c.2.1⟩
def z0kz : Fs := ⟨[], []⟩
theorem z0l1 : z0kz.Ok Tryz.prog := fs0
theorem z0l9 : z07s.Ok Tryz.prog := FCon.ok (fn_ok (k := z07s.con) (fn := Tryz.f231) (W := []) (H := []) Tryz.func231 z0l1 trivial rfl rfl (fun av x => by kernel_rfl))
def z03k (s1_0 : Int) (s1_1 : Int) (bk1 : Int → Int → List Int → Option Bool) (l2_1 : List Int) : Option Bool := gd (ok64 (s1_1 + 1)) (bk1 s1_0 (s1_1 + 1) l2_1)
def z01f (p2_0 : List GFlow) (p2_1 : Int) (kx2_0 : List Int → Option Bool) : Nat → Int → List Int → Option Bool
  | 0, _, _ => none
  | n2 + 1, s2_0, l2_1 => if decide (s2_0 < p2_1) = true then ((getI p2_0 s2_0).bind fun x15 => (gd (l2_1.length + [x15.to].length ≤ SMALL) (gd (ok64 (s2_0 + 1)) ((z01f p2_0 p2_1 kx2_0 n2) (s2_0 + 1) (l2_1 ++ [x15.to]))))) else (kx2_0 l2_1)
def z06x  : Option Bool := some false
def z00y (n : GNet) (t : Int) (p0_0 : List Int) (p0_2 : List Int) (l1_2 : List Int) (p3_0 : Int) (kx3_0 : Option Bool) : Nat → Int → Option Bool
  | 0, _ => none
  | n3 + 1, s3_0 => if decide (s3_0 < p3_0) = true then ((getI l1_2 s3_0).bind fun x20 => ((z080 n x20 t).bind fun x21 => ((z023 p0_0 (fun z => z07p z p0_2 x21)).bind fun x22 => (if x22 = true then (some true) else (gd (ok64 (s3_0 + 1)) ((z00y n t p0_0 p0_2 l1_2 p3_0 kx3_0 n3) (s3_0 + 1))))))) else (kx3_0)
def z01e (n : GNet) (t : Int) (p0_0 : List Int) (p0_2 : List Int) (l1_2 : List Int) : Option Bool := z00y n t p0_0 p0_2 l1_2 (l1_2.length : Int) z06x FUEL 0
def z00k (n : GNet) (busy : List GItem) (kx1_0 : List Int → Option Bool) : Nat → Int → Int → List Int → Option Bool
  | 0, _, _, _ => none
  | n1 + 1, s1_0, s1_1, l1_2 => if decide (s1_1 < s1_0) = true then ((getI busy s1_1).bind fun x12 => ((getI n.tasks x12.task).bind fun x13 => (z01f x13.out (x13.out.length : Int) (z03k s1_0 s1_1 (z00k n busy kx1_0 n1)) FUEL 0 l1_2))) else (kx1_0 l1_2)
def z03j (n : GNet) (busy : List GItem) (t : Int) (p0_0 : List Int) (p0_2 : List Int) (l0_1 : List Int) : Option Bool := z00k n busy (z01e n t p0_0 p0_2) FUEL (busy.length : Int) 0 l0_1
def z00j (marks : List Int) (p0_0 : List Int) (p0_1 : Int) (kx0_0 : List Int → Option Bool) : Nat → Int → List Int → Option Bool
  | 0, _, _ => none
  | n0 + 1, s0_0, l0_1 => if decide (s0_0 < p0_1) = true then ((getI marks s0_0).bind fun x3 => (if decide (0 < x3) = true then ((z0bi p0_0 s0_0).bind fun x5 => (if x5 = true then (gd (ok64 (s0_0 + 1)) ((z00j marks p0_0 p0_1 kx0_0 n0) (s0_0 + 1) l0_1)) else (gd (l0_1.length + [s0_0].length ≤ SMALL) (gd (ok64 (s0_0 + 1)) ((z00j marks p0_0 p0_1 kx0_0 n0) (s0_0 + 1) (l0_1 ++ [s0_0])))))) else (gd (ok64 (s0_0 + 1)) ((z00j marks p0_0 p0_1 kx0_0 n0) (s0_0 + 1) l0_1)))) else (kx0_0 l0_1)
def z05k (n : GNet) (marks : List Int) (busy : List GItem) (t : Int) : Option Bool := (getI n.tasks t).bind fun x1 => (z00j marks x1.in_ (marks.length : Int) (z03j n busy t x1.in_ marks) FUEL 0 ([] : List Int))
def z001 : Con := ⟨217, [.v (.s .net) false, .v (.sl .I) false, .v (.sl (.s .item)) false, .v .I false], [(.B, true)], [], fun x => z05k x.1 x.2.1 x.2.2.1 x.2.2.2.1⟩
def z0q7 : Fs := ⟨[z0e9, z003, z03t], [z07s]⟩
theorem z032 : z0q7.Ok Tryz.prog := (fsK z0uw (fsK z0xz (fsK z08g (fsF z0l9 fs0))))
def z09y : Tmpl := ⟨[(3, .c .i), (4, .c (.bx 4 0)), (5, .c (.bx 5 0)), (9, .c (.s .I)), (10, .c (.ref 500010)), (46, .c (.s (.s .item))), (47, .c .i), (48, .c .i), (58, .c (.s (.s .flow))), (59, .c .i), (60, .c .i)], [(4, .boxT (.s .net)), (5, .box [.s .I]), (500010, .arr .I true)]⟩
def z08y : Tmpl := ⟨[(3, .c .i), (4, .c (.bx 4 0)), (5, .c (.bx 5 0)), (9, .c (.s .I)), (10, .c (.ref 500010)), (46, .c (.s (.s .item))), (47, .c .i), (48, .c .i)], [(4, .boxT (.s .net)), (5, .box [.s .I]), (500010, .arr .I true)]⟩
def z0gw (av : AV) (x : HP z001.ps) (n : Nat) (v : z09y.den) (K : Ks (CR z001)) : Option (CR z001) := z01f v.1.2.2.2.2.2.2.2.2.1 v.1.2.2.2.2.2.2.2.2.2.1 (fun l2_1 => z08y.at none ((v.1.1, (), (), v.1.2.2.2.1, (), v.1.2.2.2.2.2.1, v.1.2.2.2.2.2.2.1, v.1.2.2.2.2.2.2.2.1, ()), (v.2.1, (v.2.2.1.1, ()), l2_1, ())) (K (.exit 4))) n v.1.2.2.2.2.2.2.2.2.2.2.1 v.2.2.2.1
def z09p (av : AV) (x : HP z001.ps) : Hdl (CR z001) := hnd [] z09y (z0gw av x)
theorem z0h5 : LP z001 Tryz.f217 [1, 0] z09p := lp_ok (W := []) (H := []) (xs := [z08y]) z032 trivial rfl (fun av x v K => by kernel_rfl) (fun av x n v K => by kernel_rfl)
def z0b6 : Tmpl := ⟨[(2, .c (.s (.s .item))), (3, .c .i), (4, .c (.bx 4 0)), (5, .c (.bx 5 0)), (9, .c (.s .I)), (10, .c (.ref 500010)), (26, .c (.s .I)), (27, .c .i), (28, .c .i)], [(4, .boxT (.s .net)), (5, .box [.s .I]), (500010, .arr .I true)]⟩
def z0at : Tmpl := ⟨[(2, .c (.s (.s .item))), (3, .c .i), (4, .c (.bx 4 0)), (5, .c (.bx 5 0)), (9, .c (.s .I)), (10, .c (.ref 500010))], [(4, .boxT (.s .net)), (5, .box [.s .I]), (500010, .arr .I true)]⟩
def z0kv (av : AV) (x : HP z001.ps) (n : Nat) (v : z0b6.den) (K : Ks (CR z001)) : Option (CR z001) := z00j v.1.2.2.2.2.2.2.1 v.1.2.2.2.2.1 v.1.2.2.2.2.2.2.2.1 (fun l0_1 => z0at.at none ((v.1.1, v.1.2.1, (), (), v.1.2.2.2.2.1, (), ()), (v.2.1, (v.2.2.1.1, ()), l0_1, ())) (K (.exit 0))) n v.1.2.2.2.2.2.2.2.2.1 v.2.2.2.1
def z0az (av : AV) (x : HP z001.ps) : Hdl (CR z001) := hnd [.e 10 500010 .I] z0b6 (z0kv av x)
theorem z0l5 : LP z001 Tryz.f217 [0] z0az := lp_ok (W := []) (H := []) (xs := [z0at]) z032 trivial rfl (fun av x v K => by kernel_rfl) (fun av x n v K => by kernel_rfl)
def z0b7 : Tmpl := ⟨[(3, .c .i), (4, .c (.bx 4 0)), (5, .c (.bx 5 0)), (9, .c (.s .I)), (10, .c (.ref 500010)), (46, .c (.s (.s .item))), (47, .c .i), (48, .c .i)], [(4, .boxT (.s .net)), (5, .box [.s .I]), (500010, .arr .I true)]⟩
def z0au : Tmpl := ⟨[(3, .c .i), (4, .c (.bx 4 0)), (5, .c (.bx 5 0)), (9, .c (.s .I)), (10, .c (.ref 500010))], [(4, .boxT (.s .net)), (5, .box [.s .I]), (500010, .arr .I true)]⟩
def z0kw (av : AV) (x : HP z001.ps) (n : Nat) (v : z0b7.den) (K : Ks (CR z001)) : Option (CR z001) := z00k v.2.1 v.1.2.2.2.2.2.1 (fun l1_2 => z0au.at none ((v.1.1, (), (), v.1.2.2.2.1, (), ()), (v.2.1, (v.2.2.1.1, ()), l1_2, ())) (K (.exit 2))) n v.1.2.2.2.2.2.2.1 v.1.2.2.2.2.2.2.2.1 v.2.2.2.1
def z0b0 (av : AV) (x : HP z001.ps) : Hdl (CR z001) := hnd [] z0b7 (z0kw av x)
theorem z0l6 : LP z001 Tryz.f217 [1] z0b0 := lp_ok (W := []) (H := [z09p]) (xs := [z0au]) z032 ⟨z0h5, trivial⟩ rfl (fun av x v K => by kernel_rfl) (fun av x n v K => by kernel_rfl)
def z0b8 : Tmpl := ⟨[(3, .c .i), (4, .c (.bx 4 0)), (5, .c (.bx 5 0)), (9, .c (.s .I)), (71, .c (.ref 500010)), (72, .c .i), (73, .c .i)], [(4, .boxT (.s .net)), (5, .box [.s .I]), (500010, .arr .I true)]⟩
def z0av : Tmpl := ⟨[], []⟩
def z0kx (av : AV) (x : HP z001.ps) (n : Nat) (v : z0b8.den) (K : Ks (CR z001)) : Option (CR z001) := z00y v.2.1 v.1.1 v.1.2.2.2.1 v.2.2.1.1 v.2.2.2.1 v.1.2.2.2.2.2.1 (z0av.at none ((), ()) (K (.exit 6))) n v.1.2.2.2.2.2.2.1
def z0b1 (av : AV) (x : HP z001.ps) : Hdl (CR z001) := hnd [] z0b8 (z0kx av x)
theorem z0l7 : LP z001 Tryz.f217 [2] z0b1 := lp_ok (W := []) (H := []) (xs := [z0av]) z032 trivial rfl (fun av x v K => by kernel_rfl) (fun av x n v K => by kernel_rfl)
theorem z0ql : z001.Ok Tryz.prog := fn_ok (k := z001) (fn := Tryz.f217) (W := []) (H := [z0az, z0b0, z0b1]) Tryz.func217 z032 ⟨z0l5, z0l6, z0l7, trivial⟩ rfl rfl (fun av x => by kernel_rfl)
def z02e (n : GNet) (marks : List Int) (busy : List GItem) (t : Int) (s0_0 : Bool) (s0_2 : Bool) : Option Bool := (getI n.tasks t).bind fun x14 => (if decide (x14.join = 1) = true then (some s0_0) else (if decide (x14.join = 2) = true then (some s0_2) else (if s0_2 = true then (if s0_0 = true then (some true) else ((z05k n marks busy t).bind fun x19 => (some (!x19)))) else (some false))))
def z00m (marks : List Int) (p0_0 : List Int) (p0_1 : Int) (kx0_0 : Bool → Bool → Option Bool) : Nat → Bool → Int → Bool → Option Bool
  | 0, _, _, _ => none
  | n0 + 1, s0_0, s0_1, s0_2 => if decide (s0_1 < p0_1) = true then ((getI p0_0 s0_1).bind fun x3 => (if s0_2 = true then (if s0_0 = true then ((getI marks x3).bind fun x6 => (gd (ok64 (s0_1 + 1)) ((z00m marks p0_0 p0_1 kx0_0 n0) (decide (0 < x6)) (s0_1 + 1) true))) else (gd (ok64 (s0_1 + 1)) ((z00m marks p0_0 p0_1 kx0_0 n0) false (s0_1 + 1) true))) else ((getI marks x3).bind fun x9 => (if s0_0 = true then ((getI marks x3).bind fun x11 => (gd (ok64 (s0_1 + 1)) ((z00m marks p0_0 p0_1 kx0_0 n0) (decide (0 < x11)) (s0_1 + 1) (decide (0 < x9))))) else (gd (ok64 (s0_1 + 1)) ((z00m marks p0_0 p0_1 kx0_0 n0) false (s0_1 + 1) (decide (0 < x9)))))))) else (kx0_0 s0_0 s0_2)
def z097 (n : GNet) (marks : List Int) (busy : List GItem) (t : Int) : Option Bool := (getI n.tasks t).bind fun x1 => (z00m marks x1.in_ (x1.in_.length : Int) (z02e n marks busy t) FUEL true 0 false)
def z01r : Con := ⟨178, [.v (.s .net) false, .v (.sl .I) false, .v (.sl (.s .item)) false, .v .I false], [(.B, true)], [], fun x => z097 x.1 x.2.1 x.2.2.1 x.2.2.2.1⟩
def z12q : Fs := ⟨[z001], []⟩
theorem z0j4 : z12q.Ok Tryz.prog := (fsK z0ql fs0)
def z0gd : Tmpl := ⟨[(1, .c (.s .I)), (2, .c (.s (.s .item))), (3, .c .i), (4, .c (.bx 4 0)), (9, .c .b), (10, .c .b), (18, .c (.s .I)), (19, .c .i), (20, .c .i)], [(4, .boxT (.s .net))]⟩
def z0ew : Tmpl := ⟨[(1, .c (.s .I)), (2, .c (.s (.s .item))), (3, .c .i), (4, .c (.bx 4 0)), (9, .c .b), (10, .c .b)], [(4, .boxT (.s .net))]⟩
def z0vb (av : AV) (x : HP z01r.ps) (n : Nat) (v : z0gd.den) (K : Ks (CR z01r)) : Option (CR z01r) := z00m v.1.1 v.1.2.2.2.2.2.2.1 v.1.2.2.2.2.2.2.2.1 (fun s0_0 s0_2 => z0ew.at none ((v.1.1, v.1.2.1, v.1.2.2.1, (), s0_2, s0_0, ()), (v.2.1, ())) (K (.exit 0))) n v.1.2.2.2.2.2.1 v.1.2.2.2.2.2.2.2.2.1 v.1.2.2.2.2.1
def z0f5 (av : AV) (x : HP z01r.ps) : Hdl (CR z01r) := hnd [] z0gd (z0vb av x)
theorem z0xc : LP z01r Tryz.f178 [0] z0f5 := lp_ok (W := []) (H := []) (xs := [z0ew]) z0j4 trivial rfl (fun av x v K => by kernel_rfl) (fun av x n v K => by kernel_rfl)
theorem z13b : z01r.Ok Tryz.prog := fn_ok (k := z01r) (fn := Tryz.f178) (W := []) (H := [z0f5]) Tryz.func178 z0j4 ⟨z0xc, trivial⟩ rfl rfl (fun av x => by kernel_rfl)
def z0fh (n : GNet) (marks : List Int) (busy : List GItem) (t : Int) : Option Bool := (z0bm n marks).bind fun x1 => (if x1 = true then ((z03y n busy).bind fun x3 => (if x3 = true then ((z00i n t).bind fun x5 => (if x5 = true then ((z097 n marks busy t).bind fun x7 => (some x7)) else (some false))) else (some false))) else (some false))
def z0mj : Con := ⟨107, [.v (.s .net) false, .v (.sl .I) false, .v (.sl (.s .item)) false, .v .I false], [(.B, true)], [], fun x => z0fh x.1 x.2.1 x.2.2.1 x.2.2.2.1⟩
def z1jx : Fs := ⟨[z0eb, z00l, z01i, z01r], []⟩
theorem z1ld : z1jx.Ok Tryz.prog := (fsK z0uy (fsK z0em (fsK z034 (fsK z13b fs0))))
theorem z1nw : z0mj.Ok Tryz.prog := fn_ok (k := z0mj) (fn := Tryz.f107) (W := []) (H := []) Tryz.func107 z1ld trivial rfl rfl (fun av x => by kernel_rfl)
def z0d6 (l0_1 : List Int) (x4 : Int) (x7 : Int) : Option (List Int) := some (l0_1.set x4.toNat (x7 - 1))
def z0d7 (l0_1 : List Int) : Option (List Int) := some l0_1
def z01j (n : GNet) (t : Int) (p0_0 : List Int) (p0_1 : Int) (kx0_0 : List Int → Int → Int → Option (List Int)) (kx0_1 : List Int → Option (List Int)) : Nat → Int → List Int → Option (List Int)
  | 0, _, _ => none
  | n0 + 1, s0_0, l0_1 => if decide (s0_0 < p0_1) = true then ((getI p0_0 s0_0).bind fun x4 => ((getI l0_1 x4).bind fun x5 => (if decide (0 < x5) = true then ((getI l0_1 x4).bind fun x7 => (gd (ok64 (x7 - 1)) ((getI l0_1 x4).bind fun x9 => ((getI n.tasks t).bind fun x10 => (if decide (x10.join = 2) = true then (kx0_0 l0_1 x4 x7) else (gd (ok64 (s0_0 + 1)) ((z01j n t p0_0 p0_1 kx0_0 kx0_1 n0) (s0_0 + 1) (l0_1.set x4.toNat (x7 - 1))))))))) else (gd (ok64 (s0_0 + 1)) ((z01j n t p0_0 p0_1 kx0_0 kx0_1 n0) (s0_0 + 1) l0_1))))) else (kx0_1 l0_1)
def z08j (n : GNet) (marks : List Int) (t : Int) : Option (List Int) := (z00c marks).bind fun x1 => ((getI n.tasks t).bind fun x2 => (z01j n t x2.in_ (x2.in_.length : Int) z0d6 z0d7 FUEL 0 x1))
def z01b : Con := ⟨110, [.v (.s .net) false, .v (.sl .I) false, .v .I false], [((.sl .I), true)], [], fun x => z08j x.1 x.2.1 x.2.2.1⟩
def z0z3 : Fs := ⟨[z013], []⟩
theorem z0h0 : z0z3.Ok Tryz.prog := (fsK z025 fs0)
def z0et : Tmpl := ⟨[(2, .c .i), (3, .c (.bx 3 0)), (7, .c (.ref 11)), (17, .c (.s .I)), (18, .c .i), (19, .c .i)], [(3, .boxT (.s .net)), (11, .arr .I true)]⟩
def z08p : Tmpl := ⟨[(7, .c (.ref 11))], [(11, .arr .I true)]⟩
def z0tl (av : AV) (x : HP z01b.ps) (n : Nat) (v : z0et.den) (K : Ks (CR z01b)) : Option (CR z01b) := z01j v.2.1 v.1.1 v.1.2.2.2.1 v.1.2.2.2.2.1 (fun l0_1 x4 x7 => z08p.at none (((), ()), ((l0_1.set x4.toNat (x7 - 1)), ())) (K (.exit 0))) (fun l0_1 => z08p.at none (((), ()), (l0_1, ())) (K (.exit 0))) n v.1.2.2.2.2.2.1 v.2.2.1
def z0e7 (av : AV) (x : HP z01b.ps) : Hdl (CR z01b) := hnd [] z0et (z0tl av x)
theorem z0u5 : LP z01b Tryz.f110 [0] z0e7 := lp_ok (W := []) (H := []) (xs := [z08p]) z0h0 trivial rfl (fun av x v K => by kernel_rfl) (fun av x n v K => by kernel_rfl)
theorem z108 : z01b.Ok Tryz.prog := fn_ok (k := z01b) (fn := Tryz.f110) (W := []) (H := [z0e7]) Tryz.func110 z0h0 ⟨z0u5, trivial⟩ rfl rfl (fun av x => by kernel_rfl)
def z0rr (l0_1 : List Int) : Option (List Int) := some l0_1
def z00n (t : GTask) (data : List Int) (p0_0 : List GFlow) (p0_1 : Int) (kx0_0 : List Int → Option (List Int)) : Nat → Int → List Int → Option (List Int)
  | 0, _, _ => none
  | n0 + 1, s0_0, l0_1 => if decide (s0_0 < p0_1) = true then ((getI p0_0 s0_0).bind fun x2 => ((z020 x2.if_ data).bind fun x3 => (if x3 = true then (if decide (t.split = 2) = true then (if decide (0 < (l0_1.length : Int)) = true then (gd (ok64 (s0_0 + 1)) ((z00n t data p0_0 p0_1 kx0_0 n0) (s0_0 + 1) l0_1)) else (if decide (t.split = 3) = true then (gd (ok64 ((t.out.length : Int) - 1)) (if decide (s0_0 = ((t.out.length : Int) - 1)) = true then (if decide (0 < (l0_1.length : Int)) = true then (gd (ok64 (s0_0 + 1)) ((z00n t data p0_0 p0_1 kx0_0 n0) (s0_0 + 1) l0_1)) else (gd (l0_1.length + [x2.to].length ≤ SMALL) (gd (ok64 (s0_0 + 1)) ((z00n t data p0_0 p0_1 kx0_0 n0) (s0_0 + 1) (l0_1 ++ [x2.to]))))) else (gd (l0_1.length + [x2.to].length ≤ SMALL) (gd (ok64 (s0_0 + 1)) ((z00n t data p0_0 p0_1 kx0_0 n0) (s0_0 + 1) (l0_1 ++ [x2.to])))))) else (gd (l0_1.length + [x2.to].length ≤ SMALL) (gd (ok64 (s0_0 + 1)) ((z00n t data p0_0 p0_1 kx0_0 n0) (s0_0 + 1) (l0_1 ++ [x2.to])))))) else (if decide (t.split = 3) = true then (gd (ok64 ((t.out.length : Int) - 1)) (if decide (s0_0 = ((t.out.length : Int) - 1)) = true then (if decide (0 < (l0_1.length : Int)) = true then (gd (ok64 (s0_0 + 1)) ((z00n t data p0_0 p0_1 kx0_0 n0) (s0_0 + 1) l0_1)) else (gd (l0_1.length + [x2.to].length ≤ SMALL) (gd (ok64 (s0_0 + 1)) ((z00n t data p0_0 p0_1 kx0_0 n0) (s0_0 + 1) (l0_1 ++ [x2.to]))))) else (gd (l0_1.length + [x2.to].length ≤ SMALL) (gd (ok64 (s0_0 + 1)) ((z00n t data p0_0 p0_1 kx0_0 n0) (s0_0 + 1) (l0_1 ++ [x2.to])))))) else (gd (l0_1.length + [x2.to].length ≤ SMALL) (gd (ok64 (s0_0 + 1)) ((z00n t data p0_0 p0_1 kx0_0 n0) (s0_0 + 1) (l0_1 ++ [x2.to])))))) else (gd (ok64 (s0_0 + 1)) ((z00n t data p0_0 p0_1 kx0_0 n0) (s0_0 + 1) l0_1))))) else (kx0_0 l0_1)
def z0ie (t : GTask) (data : List Int) : Option (List Int) := z00n t data t.out (t.out.length : Int) z0rr FUEL 0 ([] : List Int)
def z06p : Con := ⟨222, [.v (.s .task) false, .v (.sl .I) false], [((.sl .I), true)], [], fun x => z0ie x.1 x.2.1⟩
def z1qs : Fs := ⟨[z03m], []⟩
theorem z152 : z1qs.Ok Tryz.prog := (fsK z07o fs0)
def z0yi : Tmpl := ⟨[(1, .c (.s .I)), (2, .c (.bx 2 0)), (5, .c (.ref 500005)), (9, .c (.s (.s .flow))), (10, .c .i), (11, .c .i)], [(2, .boxT (.s .task)), (500005, .arr .I true)]⟩
def z0tb : Tmpl := ⟨[(5, .c (.ref 500005))], [(500005, .arr .I true)]⟩
def z1dv (av : AV) (x : HP z06p.ps) (n : Nat) (v : z0yi.den) (K : Ks (CR z06p)) : Option (CR z06p) := z00n v.2.1 v.1.1 v.1.2.2.2.1 v.1.2.2.2.2.1 (fun l0_1 => z0tb.at none (((), ()), (l0_1, ())) (K (.exit 0))) n v.1.2.2.2.2.2.1 v.2.2.1
def z0wn (av : AV) (x : HP z06p.ps) : Hdl (CR z06p) := hnd [.e 5 500005 .I] z0yi (z1dv av x)
theorem z1gp : LP z06p Tryz.f222 [0] z0wn := lp_ok (W := []) (H := []) (xs := [z0tb]) z152 trivial rfl (fun av x v K => by kernel_rfl) (fun av x n v K => by kernel_rfl)
theorem z1sz : z06p.Ok Tryz.prog := fn_ok (k := z06p) (fn := Tryz.f222) (W := []) (H := [z0wn]) Tryz.func222 z152 ⟨z1gp, trivial⟩ rfl rfl (fun av x => by kernel_rfl)
def z096 (n : GNet) (l1_1 : List Int) : Option ((List Int) × Bool) := (z033 n l1_1).bind fun x21 => (if x21 = true then (some (l1_1, true)) else (some ([], false)))
def z04e (x14 : (List Int)) (p1_0 : Int) (kx1_0 : List Int → Option ((List Int) × Bool)) : Nat → Int → List Int → Option ((List Int) × Bool)
  | 0, _, _ => none
  | n1 + 1, s1_0, l1_1 => if decide (s1_0 < p1_0) = true then ((getI x14 s1_0).bind fun x16 => ((getI l1_1 x16).bind fun x17 => (gd (ok64 (x17 + 1)) ((getI l1_1 x16).bind fun x19 => (gd (ok64 (s1_0 + 1)) ((z04e x14 p1_0 kx1_0 n1) (s1_0 + 1) (l1_1.set x16.toNat (x17 + 1)))))))) else (kx1_0 l1_1)
def z095 (n : GNet) (t : Int) (data : List Int) (l0_1 : List Int) : Option ((List Int) × Bool) := (getI n.tasks t).bind fun x13 => ((z0ie x13 data).bind fun x14 => (z04e x14 (x14.length : Int) (z096 n) FUEL 0 l0_1))
def z04d (p0_0 : List Int) (p0_1 : Int) (kx0_0 : List Int → Option ((List Int) × Bool)) : Nat → Int → List Int → Option ((List Int) × Bool)
  | 0, _, _ => none
  | n0 + 1, s0_0, l0_1 => if decide (s0_0 < p0_1) = true then ((getI p0_0 s0_0).bind fun x10 => ((getI l0_1 x10).bind fun x11 => (gd (ok64 (s0_0 + 1)) ((z04d p0_0 p0_1 kx0_0 n0) (s0_0 + 1) (l0_1.set x10.toNat 0))))) else (kx0_0 l0_1)
def z08i (n : GNet) (marks : List Int) (t : Int) (data : List Int) : Option ((List Int) × Bool) := (z0bm n marks).bind fun x1 => (if x1 = true then ((z00i n t).bind fun x3 => (if x3 = true then ((z03w data).bind fun x5 => (if x5 = true then ((z00c marks).bind fun x7 => ((getI n.tasks t).bind fun x8 => (z04d x8.clear (x8.clear.length : Int) (z095 n t data) FUEL 0 x7))) else (some ([], false)))) else (some ([], false)))) else (some ([], false)))
def z00u : Con := ⟨192, [.v (.s .net) false, .v (.sl .I) false, .v .I false, .v (.sl .I) false], [((.sl .I), true), (.B, true)], [], fun x => z08i x.1 x.2.1 x.2.2.1 x.2.2.2.1⟩
def z1f3 : Fs := ⟨[z0eb, z01i, z06o, z013, z06p, z05j], []⟩
theorem z0hn : z1f3.Ok Tryz.prog := (fsK z0uy (fsK z034 (fsK z09n (fsK z025 (fsK z1sz (fsK z0d8 fs0))))))
def z0oj : Tmpl := ⟨[(2, .c .i), (3, .c (.s .I)), (4, .c (.bx 4 0)), (10, .c (.ref 31)), (37, .c (.s .I)), (38, .c .i), (39, .c .i)], [(4, .boxT (.s .net)), (31, .arr .I true)]⟩
def z0kd : Tmpl := ⟨[(2, .c .i), (3, .c (.s .I)), (4, .c (.bx 4 0)), (10, .c (.ref 31))], [(4, .boxT (.s .net)), (31, .arr .I true)]⟩
def z143 (av : AV) (x : HP z00u.ps) (n : Nat) (v : z0oj.den) (K : Ks (CR z00u)) : Option (CR z00u) := z04d v.1.2.2.2.2.1 v.1.2.2.2.2.2.1 (fun l0_1 => z0kd.at none ((v.1.1, v.1.2.1, (), (), ()), (v.2.1, l0_1, ())) (K (.exit 0))) n v.1.2.2.2.2.2.2.1 v.2.2.1
def z0m1 (av : AV) (x : HP z00u.ps) : Hdl (CR z00u) := hnd [] z0oj (z143 av x)
theorem z172 : LP z00u Tryz.f192 [0] z0m1 := lp_ok (W := []) (H := []) (xs := [z0kd]) z0hn trivial rfl (fun av x v K => by kernel_rfl) (fun av x n v K => by kernel_rfl)
def z0ok : Tmpl := ⟨[(4, .c (.bx 4 0)), (10, .c (.ref 31)), (53, .c (.ref 53)), (54, .c .i), (55, .c .i)], [(4, .boxT (.s .net)), (31, .arr .I true), (53, .arr .I true)]⟩
def z0ke : Tmpl := ⟨[(4, .c (.bx 4 0)), (10, .c (.ref 31))], [(4, .boxT (.s .net)), (31, .arr .I true)]⟩
def z144 (av : AV) (x : HP z00u.ps) (n : Nat) (v : z0ok.den) (K : Ks (CR z00u)) : Option (CR z00u) := z04e v.2.2.2.1 v.1.2.2.2.1 (fun l1_1 => z0ke.at none (((), (), ()), (v.2.1, l1_1, ())) (K (.exit 2))) n v.1.2.2.2.2.1 v.2.2.1
def z0m2 (av : AV) (x : HP z00u.ps) : Hdl (CR z00u) := hnd [] z0ok (z144 av x)
theorem z173 : LP z00u Tryz.f192 [1] z0m2 := lp_ok (W := []) (H := []) (xs := [z0ke]) z0hn trivial rfl (fun av x v K => by kernel_rfl) (fun av x n v K => by kernel_rfl)
theorem z1hs : z00u.Ok Tryz.prog := fn_ok (k := z00u) (fn := Tryz.f192) (W := []) (H := [z0m1, z0m2]) Tryz.func192 z0hn ⟨z172, z173, trivial⟩ rfl rfl (fun av x => by kernel_rfl)
def z0id (n : Int) : Option Bool := (z00b n 0 7).bind fun x1 => (some (!x1))
def z0ix : FCon := ⟨165, .I, [], fun z c => z0id z ⟩
def z1f7 : Fs := ⟨[z029], []⟩
theorem z1g8 : z1f7.Ok Tryz.prog := (fsK z02u fs0)
theorem z1hw : z0ix.Ok Tryz.prog := FCon.ok (fn_ok (k := z0ix.con) (fn := Tryz.f165) (W := []) (H := []) Tryz.func165 z1g8 trivial rfl rfl (fun av x => by kernel_rfl))
def z0bn (people : List Int) : Option Bool := (z00b (people.length : Int) 1 4).bind fun x1 => (if x1 = true then ((z023 people (fun z => z0id z )).bind fun x3 => (some (!x3))) else (some false))
def z0ec : Con := ⟨91, [.v (.sl .I) false], [(.B, true)], [], fun x => z0bn x.1⟩
def z1qq : Fs := ⟨[z029, z03t], [z0ix]⟩
theorem z1ro : z1qq.Ok Tryz.prog := (fsK z02u (fsK z08g (fsF z1hw fs0)))
theorem z0v1 : z0ec.Ok Tryz.prog := fn_ok (k := z0ec) (fn := Tryz.f91) (W := []) (H := []) Tryz.func91 z1ro trivial rfl rfl (fun av x => by kernel_rfl)
def z0fk (people : List Int) (who : Int) (role : Int) : Option Bool := (z0bn people).bind fun x1 => (if x1 = true then ((z00b who 1 (people.length : Int)).bind fun x3 => (if x3 = true then ((z0cj role).bind fun x5 => (if x5 = true then (gd (ok64 (who - 1)) ((getI people (who - 1)).bind fun x8 => (gd (ok64 (role - 1)) (gd ((0 : Int) ≤ (role - 1) ∧ (role - 1) ≤ (63 : Int)) (some (decide ((andI (shrI x8 (role - 1)) 1) = 1))))))) else (some false))) else (some false))) else (some false))
def z0ml : Con := ⟨184, [.v (.sl .I) false, .v .I false, .v .I false], [(.B, true)], [], fun x => z0fk x.1 x.2.1 x.2.2.1⟩
def z1k0 : Fs := ⟨[z0ec, z029, z0fa], []⟩
theorem z1lf : z1k0.Ok Tryz.prog := (fsK z0v1 (fsK z02u (fsK z125 fs0)))
theorem z1nz : z0ml.Ok Tryz.prog := fn_ok (k := z0ml) (fn := Tryz.f184) (W := []) (H := []) Tryz.func184 z1lf trivial rfl rfl (fun av x => by kernel_rfl)
def z0fj (did : List GDid) (who : Int) (task : Int) : Option Bool := (z0gr did (GDid.mk task who)).bind fun x1 => (some x1)
def z0mk : Con := ⟨185, [.v (.sl (.s .did)) false, .v .I false, .v .I false], [(.B, true)], [], fun x => z0fj x.1 x.2.1 x.2.2.1⟩
def z1jz : Fs := ⟨[z0gm], []⟩
theorem z1le : z1jz.Ok Tryz.prog := (fsK z1c2 fs0)
theorem z1ny : z0mk.Ok Tryz.prog := fn_ok (k := z0mk) (fn := Tryz.f185) (W := []) (H := []) Tryz.func185 z1le trivial rfl rfl (fun av x => by kernel_rfl)
def z0cx (l0_1 : List Int) : Option (List Int) := some l0_1
def z02y (p : Int → Option Bool) (p0_0 : Int) (kx0_0 : List Int → Option (List Int)) : Nat → Int → List Int → Option (List Int)
  | 0, _, _ => none
  | n0 + 1, s0_0, l0_1 => if decide (s0_0 < p0_0) = true then (gd (ok64 (s0_0 + 1)) ((p (s0_0 + 1)).bind fun x5 => (if x5 = true then (gd (ok64 (s0_0 + 1)) (gd (l0_1.length + [(s0_0 + 1)].length ≤ SMALL) (gd (ok64 (s0_0 + 1)) ((z02y p p0_0 kx0_0 n0) (s0_0 + 1) (l0_1 ++ [(s0_0 + 1)]))))) else (gd (ok64 (s0_0 + 1)) ((z02y p p0_0 kx0_0 n0) (s0_0 + 1) l0_1))))) else (kx0_0 l0_1)
def z0if (people : List Int) (p : Int → Option Bool) : Option (List Int) := (z0bn people).bind fun x1 => (if x1 = true then (z02y p (people.length : Int) z0cx FUEL 0 ([] : List Int)) else (some []))
def z02j : Con := ⟨180, [.v (.sl .I) false, .fn .I], [((.sl .I), true)], [], fun x => z0if x.1 x.2.1⟩
def z1fb : Fs := ⟨[z0ec], []⟩
theorem z0wa : z1fb.Ok Tryz.prog := (fsK z0v1 fs0)
def z0oo : Tmpl := ⟨[(1, .c .fp), (5, .c (.ref 500005)), (11, .c .i), (12, .c .i)], [(500005, .arr .I true)]⟩
def z0ki : Tmpl := ⟨[(5, .c (.ref 500005))], [(500005, .arr .I true)]⟩
def z148 (av : AV) (x : HP z02j.ps) (n : Nat) (v : z0oo.den) (K : Ks (CR z02j)) : Option (CR z02j) := z02y x.2.1 v.1.2.2.1 (fun l0_1 => z0ki.at (fpOf z02j.ps x av) (((), ()), (l0_1, ())) (K (.exit 0))) n v.1.2.2.2.1 v.2.1
def z0m6 (av : AV) (x : HP z02j.ps) : Hdl (CR z02j) := hnd [.e 5 500005 .I] z0oo (z148 av x)
theorem z177 : LP z02j Tryz.f180 [0] z0m6 := lp_ok (W := []) (H := []) (xs := [z0ki]) z0wa trivial rfl (fun av x v K => by kernel_rfl) (fun av x n v K => by kernel_rfl)
theorem z1hz : z02j.Ok Tryz.prog := fn_ok (k := z02j) (fn := Tryz.f180) (W := []) (H := [z0m6]) Tryz.func180 z0wa ⟨z177, trivial⟩ rfl rfl (fun av x => by kernel_rfl)
def z0cv (b : GItem) (task : GTask) (who : Int) : Option Bool := if decide (b.task = task.apart) = true then (some (decide (b.who = who))) else (some false)
def z0cy : FCon := ⟨183, (.s .item), [(.s .task), .I], fun z c => z0cv z c.1 c.2.1⟩
def z12s : Fs := ⟨[], []⟩
theorem z12v : z12s.Ok Tryz.prog := fs0
theorem z13d : z0cy.Ok Tryz.prog := FCon.ok (fn_ok (k := z0cy.con) (fn := Tryz.f183) (W := []) (H := []) Tryz.func183 z12v trivial rfl rfl (fun av x => by kernel_rfl))
def z08u (who : Int) (busy : List GItem) (task : GTask) (people : List Int) (did : List GDid) : Option Bool := (z06t busy (fun z => z0cv z task who)).bind fun x1 => ((z0fk people who task.role).bind fun x2 => (if x2 = true then (if x1 = true then (some false) else ((z0fj did who task.apart).bind fun x5 => (some (!x5)))) else (some false)))
def z0gv : FCon := ⟨181, .I, [(.sl (.s .item)), (.s .task), (.sl .I), (.sl (.s .did))], fun z c => z08u z c.1 c.2.1 c.2.2.1 c.2.2.2.1⟩
def z1ak : Fs := ⟨[z09d, z0ml, z0mk], [z0cy]⟩
theorem z1aw : z1ak.Ok Tryz.prog := (fsK z0uu (fsK z1nz (fsK z1ny (fsF z13d fs0))))
theorem z1c5 : z0gv.Ok Tryz.prog := FCon.ok (fn_ok (k := z0gv.con) (fn := Tryz.f181) (W := []) (H := []) Tryz.func181 z1aw trivial rfl rfl (fun av x => by kernel_rfl))
def z0fl (n : GNet) (people : List Int) (did : List GDid) (busy : List GItem) (t : Int) : Option (List Int) := (z09g n).bind fun x1 => (if x1 = true then ((z00i n t).bind fun x3 => (if x3 = true then ((getI n.tasks t).bind fun x5 => ((z0if people (fun z => z08u z busy x5 people did)).bind fun x6 => (some x6))) else (some []))) else (some []))
def z0mm : Con := ⟨109, [.v (.s .net) false, .v (.sl .I) false, .v (.sl (.s .did)) false, .v (.sl (.s .item)) false, .v .I false], [((.sl .I), true)], [], fun x => z0fl x.1 x.2.1 x.2.2.1 x.2.2.2.1 x.2.2.2.2.1⟩
def z1k1 : Fs := ⟨[z0bg, z01i, z02j], [z0gv]⟩
theorem z1lg : z1k1.Ok Tryz.prog := (fsK z0in (fsK z034 (fsK z1hz (fsF z1c5 fs0))))
theorem z1o0 : z0mm.Ok Tryz.prog := fn_ok (k := z0mm) (fn := Tryz.f109) (W := []) (H := []) Tryz.func109 z1lg trivial rfl rfl (fun av x => by kernel_rfl)
def z0cg (n : GNet) (data : List Int) : Option GCase := (z09g n).bind fun x1 => (if x1 = true then ((z03w data).bind fun x3 => (if x3 = true then (gd ((0 : Int) ≤ n.places ∧ n.places ≤ (1000000000 : Int)) ((z00c data).bind fun x6 => ((getI (List.replicate n.places.toNat (0 : Int)) 0).bind fun x7 => (some (GCase.mk 1 ((List.replicate n.places.toNat (0 : Int)).set (0 : Int).toNat 1) [] x6 []))))) else (some (GCase.mk 0 [] [] [] [])))) else (some (GCase.mk 0 [] [] [] [])))
def z0mi : Con := ⟨147, [.v (.s .net) false, .v (.sl .I) false], [((.s .kase), true)], [], fun x => z0cg x.1 x.2.1⟩
def z1jw : Fs := ⟨[z0bg, z06o, z013], []⟩
theorem z1lc : z1jw.Ok Tryz.prog := (fsK z0in (fsK z09n (fsK z025 fs0)))
theorem z1nv : z0mi.Ok Tryz.prog := fn_ok (k := z0mi) (fn := Tryz.f147) (W := []) (H := []) Tryz.func147 z1lc trivial rfl rfl (fun av x => by kernel_rfl)
def z0bz (c : GCase) : Option Bool := if decide (c.state = 1) = true then ((getI c.marks 1).bind fun x16 => (some (decide (x16 = 0)))) else (if decide (c.state = 2) = true then (if decide ((c.busy.length : Int) = 0) = true then ((getI c.marks 1).bind fun x19 => (some ((decide (c.state = 2)) == (decide (0 < x19))))) else (some false)) else (if decide (c.state = 3) = true then (if decide ((c.busy.length : Int) = 0) = true then ((getI c.marks 1).bind fun x22 => (some ((decide (c.state = 2)) == (decide (0 < x22))))) else (some false)) else (some false)))
def z07d (n : GNet) (p0_0 : List GDid) (p0_1 : Int) (kx0_0 : Option Bool) : Nat → Int → Option Bool
  | 0, _ => none
  | n0 + 1, s0_0 => if decide (s0_0 < p0_1) = true then ((getI p0_0 s0_0).bind fun x9 => ((z00i n x9.task).bind fun x10 => (if x10 = true then ((z08v x9.who).bind fun x12 => (if x12 = true then (gd (ok64 (s0_0 + 1)) ((z07d n p0_0 p0_1 kx0_0 n0) (s0_0 + 1))) else (some false))) else (some false)))) else (kx0_0)
def z0ef (n : GNet) (c : GCase) : Option Bool := (z0bm n c.marks).bind fun x1 => (if x1 = true then ((z03y n c.busy).bind fun x3 => (if x3 = true then ((z03w c.data).bind fun x5 => (if x5 = true then (if decide (60 < (c.did.length : Int)) = true then (some false) else (z07d n c.did (c.did.length : Int) (z0bz c) FUEL 0)) else (some false))) else (some false))) else (some false))
def z05d : Con := ⟨93, [.v (.s .net) false, .v (.s .kase) false], [(.B, true)], [], fun x => z0ef x.1 x.2.1⟩
def z1qj : Fs := ⟨[z0eb, z00l, z06o, z01i, z0bx], []⟩
theorem z150 : z1qj.Ok Tryz.prog := (fsK z0uy (fsK z0em (fsK z09n (fsK z034 (fsK z0s4 fs0)))))
def z0ye : Tmpl := ⟨[(2, .c (.bx 2 0)), (3, .c (.bx 3 0)), (32, .c (.s (.s .did))), (33, .c .i), (34, .c .i)], [(2, .boxT (.s .net)), (3, .boxT (.s .kase))]⟩
def z0t7 : Tmpl := ⟨[(3, .c (.bx 3 0))], [(3, .boxT (.s .kase))]⟩
def z1dr (av : AV) (x : HP z05d.ps) (n : Nat) (v : z0ye.den) (K : Ks (CR z05d)) : Option (CR z05d) := z07d v.2.1 v.1.2.2.1 v.1.2.2.2.1 (z0t7.at none (((), ()), (v.2.2.1, ())) (K (.exit 0))) n v.1.2.2.2.2.1
def z0wj (av : AV) (x : HP z05d.ps) : Hdl (CR z05d) := hnd [] z0ye (z1dr av x)
theorem z1gl : LP z05d Tryz.f93 [0] z0wj := lp_ok (W := []) (H := []) (xs := [z0t7]) z150 trivial rfl (fun av x v K => by kernel_rfl) (fun av x n v K => by kernel_rfl)
theorem z18h : z05d.Ok Tryz.prog := fn_ok (k := z05d) (fn := Tryz.f93) (W := []) (H := [z0wj]) Tryz.func93 z150 ⟨z1gl, trivial⟩ rfl rfl (fun av x => by kernel_rfl)
def z08k (n : GNet) (c : GCase) : Option Bool := (z0ef n c).bind fun x1 => (if x1 = true then (some (decide (c.state = 1))) else (some false))
def z0a6 : Con := ⟨106, [.v (.s .net) false, .v (.s .kase) false], [(.B, true)], [], fun x => z08k x.1 x.2.1⟩
def z1fc : Fs := ⟨[z05d], []⟩
theorem z1ga : z1fc.Ok Tryz.prog := (fsK z18h fs0)
theorem z0io : z0a6.Ok Tryz.prog := fn_ok (k := z0a6) (fn := Tryz.f106) (W := []) (H := []) Tryz.func106 z1ga trivial rfl rfl (fun av x => by kernel_rfl)
def z0c0 (n : GNet) (people : List Int) (c : GCase) (t : Int) (who : Int) : Option (GCase × Bool) := (z007 c).bind fun x1 => ((z08k n c).bind fun x2 => (if x2 = true then (if decide ((c.busy.length : Int) = 6) = true then (some (x1, false)) else ((z0fh n c.marks c.busy t).bind fun x5 => (if x5 = true then ((z0fl n people c.did c.busy t).bind fun x7 => ((z0bi x7 who).bind fun x8 => (if x8 = true then ((z08j n c.marks t).bind fun x10 => (gd (x1.busy.length + [(GItem.mk t who 0)].length ≤ SMALL) ((z007 (GCase.mk x1.state x10 (x1.busy ++ [(GItem.mk t who 0)]) x1.data x1.did)).bind fun x12 => (some (x12, true))))) else (some (x1, false))))) else (some (x1, false))))) else (some (x1, false))))
def z0gn : Con := ⟨39, [.v (.s .net) false, .v (.sl .I) false, .v (.s .kase) false, .v .I false, .v .I false], [((.s .kase), true), (.B, true)], [], fun x => z0c0 x.1 x.2.1 x.2.2.1 x.2.2.2.1 x.2.2.2.2.1⟩
def z1ah : Fs := ⟨[z02b, z0a6, z0mj, z0mm, z0e9, z01b], []⟩
theorem z1at : z1ah.Ok Tryz.prog := (fsK z070 (fsK z0io (fsK z1nw (fsK z1o0 (fsK z0uw (fsK z108 fs0))))))
theorem z1c3 : z0gn.Ok Tryz.prog := fn_ok (k := z0gn) (fn := Tryz.f39) (W := []) (H := []) Tryz.func39 z1at trivial rfl rfl (fun av x => by kernel_rfl)
def z0dk (n : GNet) (c : GCase) (k : Int) (v : Int) (num : Int) : Option (GCase × Bool) := (z007 c).bind fun x1 => ((z08k n c).bind fun x2 => (if x2 = true then (gd (ok64 ((c.busy.length : Int) - 1)) ((z00b k 0 ((c.busy.length : Int) - 1)).bind fun x5 => (if x5 = true then ((z00b v (-1) 2).bind fun x7 => (if x7 = true then ((z05a num).bind fun x9 => (if x9 = true then (if decide ((c.did.length : Int) = 60) = true then (some (x1, false)) else (if decide (0 ≤ v) = true then ((getI x1.data v).bind fun x13 => ((getI x1.busy k).bind fun x14 => (gd (ok64 (x14.did + 1)) ((getI n.tasks ((GItem.mk x14.task x14.who (x14.did + 1)).task)).bind fun x16 => (if decide ((GItem.mk x14.task x14.who (x14.did + 1)).did < x16.need) = true then (some ((GCase.mk x1.state x1.marks (x1.busy.set k.toNat (GItem.mk x14.task x14.who (x14.did + 1))) (x1.data.set v.toNat num) x1.did), true)) else ((z08i n c.marks ((GItem.mk x14.task x14.who (x14.did + 1)).task) (x1.data.set v.toNat num)).bind fun x18 => (if x18.2 = true then (gd (x1.did.length + [(GDid.mk ((GItem.mk x14.task x14.who (x14.did + 1)).task) ((GItem.mk x14.task x14.who (x14.did + 1)).who))].length ≤ SMALL) (gd (ok64 (k + 1)) ((z06v (x1.busy.set k.toNat (GItem.mk x14.task x14.who (x14.did + 1))) k (k + 1)).bind fun x22 => ((getI x18.1 1).bind fun x23 => (if decide (0 < x23) = true then ((z007 (GCase.mk 2 x18.1 [] (x1.data.set v.toNat num) (x1.did ++ [(GDid.mk ((GItem.mk x14.task x14.who (x14.did + 1)).task) ((GItem.mk x14.task x14.who (x14.did + 1)).who))]))).bind fun x25 => (some (x25, true))) else ((z007 (GCase.mk x1.state x18.1 x22 (x1.data.set v.toNat num) (x1.did ++ [(GDid.mk ((GItem.mk x14.task x14.who (x14.did + 1)).task) ((GItem.mk x14.task x14.who (x14.did + 1)).who))]))).bind fun x26 => (some (x26, true)))))))) else ((z007 c).bind fun x27 => (some (x27, false)))))))))) else ((getI x1.busy k).bind fun x28 => (gd (ok64 (x28.did + 1)) ((getI n.tasks ((GItem.mk x28.task x28.who (x28.did + 1)).task)).bind fun x30 => (if decide ((GItem.mk x28.task x28.who (x28.did + 1)).did < x30.need) = true then (some ((GCase.mk x1.state x1.marks (x1.busy.set k.toNat (GItem.mk x28.task x28.who (x28.did + 1))) x1.data x1.did), true)) else ((z08i n c.marks ((GItem.mk x28.task x28.who (x28.did + 1)).task) x1.data).bind fun x32 => (if x32.2 = true then (gd (x1.did.length + [(GDid.mk ((GItem.mk x28.task x28.who (x28.did + 1)).task) ((GItem.mk x28.task x28.who (x28.did + 1)).who))].length ≤ SMALL) (gd (ok64 (k + 1)) ((z06v (x1.busy.set k.toNat (GItem.mk x28.task x28.who (x28.did + 1))) k (k + 1)).bind fun x36 => ((getI x32.1 1).bind fun x37 => (if decide (0 < x37) = true then ((z007 (GCase.mk 2 x32.1 [] x1.data (x1.did ++ [(GDid.mk ((GItem.mk x28.task x28.who (x28.did + 1)).task) ((GItem.mk x28.task x28.who (x28.did + 1)).who))]))).bind fun x39 => (some (x39, true))) else ((z007 (GCase.mk x1.state x32.1 x36 x1.data (x1.did ++ [(GDid.mk ((GItem.mk x28.task x28.who (x28.did + 1)).task) ((GItem.mk x28.task x28.who (x28.did + 1)).who))]))).bind fun x40 => (some (x40, true)))))))) else ((z007 c).bind fun x41 => (some (x41, false))))))))))) else (some (x1, false)))) else (some (x1, false)))) else (some (x1, false))))) else (some (x1, false))))
def z0hx : Con := ⟨122, [.v (.s .net) false, .v (.s .kase) false, .v .I false, .v .I false, .v .I false], [((.s .kase), true), (.B, true)], [], fun x => z0dk x.1 x.2.1 x.2.2.1 x.2.2.2.1 x.2.2.2.2.1⟩
def z1f0 : Fs := ⟨[z02b, z0a6, z029, z08h, z00u, z0x1], []⟩
theorem z1g2 : z1f0.Ok Tryz.prog := (fsK z070 (fsK z0io (fsK z02u (fsK z0dx (fsK z1hs (fsK z1h3 fs0))))))
theorem z1hp : z0hx.Ok Tryz.prog := fn_ok (k := z0hx) (fn := Tryz.f122) (W := []) (H := []) Tryz.func122 z1g2 trivial rfl rfl (fun av x => by kernel_rfl)
def z0dj (n : GNet) (c : GCase) : Option (GCase × Bool) := (z007 c).bind fun x1 => ((z08k n c).bind fun x2 => (if x2 = true then (some ((GCase.mk 3 x1.marks [] x1.data x1.did), true)) else (some (x1, false))))
def z0hw : Con := ⟨149, [.v (.s .net) false, .v (.s .kase) false], [((.s .kase), true), (.B, true)], [], fun x => z0dj x.1 x.2.1⟩
def z1ez : Fs := ⟨[z02b, z0a6], []⟩
theorem z1g1 : z1ez.Ok Tryz.prog := (fsK z070 (fsK z0io fs0))
theorem z1ho : z0hw.Ok Tryz.prog := fn_ok (k := z0hw) (fn := Tryz.f149) (W := []) (H := []) Tryz.func149 z1g1 trivial rfl rfl (fun av x => by kernel_rfl)
def z0rp (s0_0 : List GNode) (s0_1 : Int) (bk0 : List GNode → Int → Int → List Int → Option Bool) (p1_0 : Int) (l1_1 : List Int) : Option Bool := gd (ok64 (p1_0 + 1)) (bk0 s0_0 s0_1 (p1_0 + 1) l1_1)
def z02k (tree : List GNode) (s0_2 : Int) (p1_1 : Int) (p1_2 : List Int) (kx1_0 : List Int → Option Bool) : Nat → Int → List Int → Option Bool
  | 0, _, _ => none
  | n1 + 1, s1_0, l1_1 => if decide (s1_0 < p1_1) = true then ((getI p1_2 s1_0).bind fun x9 => (if decide (x9 = (-1)) = true then (gd (ok64 (s1_0 + 1)) ((z02k tree s0_2 p1_1 p1_2 kx1_0 n1) (s1_0 + 1) l1_1)) else (gd (ok64 (s0_2 + 1)) (gd (ok64 ((tree.length : Int) - 1)) ((z00b x9 (s0_2 + 1) ((tree.length : Int) - 1)).bind fun x14 => (if x14 = true then ((getI l1_1 x9).bind fun x16 => (gd (ok64 (x16 + 1)) ((getI l1_1 x9).bind fun x18 => (gd (ok64 (s1_0 + 1)) ((z02k tree s0_2 p1_1 p1_2 kx1_0 n1) (s1_0 + 1) (l1_1.set x9.toNat (x16 + 1))))))) else (some false))))))) else (kx1_0 l1_1)
def z0rq (tree : List GNode) : Option Bool := some (decide ((tree.length : Int) ≤ 12))
def z05g (l0_3 : List Int) (p2_0 : Int) (kx2_0 : Option Bool) : Nat → Int → Option Bool
  | 0, _ => none
  | n2 + 1, s2_0 => if decide (s2_0 < p2_0) = true then ((getI l0_3 s2_0).bind fun x22 => (if decide (0 < s2_0) = true then (if decide (x22 = 1) = true then (gd (ok64 (s2_0 + 1)) ((z05g l0_3 p2_0 kx2_0 n2) (s2_0 + 1))) else (some false)) else (gd (ok64 (s2_0 + 1)) ((z05g l0_3 p2_0 kx2_0 n2) (s2_0 + 1))))) else (kx2_0)
def z0c2 (tree : List GNode) (l0_3 : List Int) : Option Bool := z05g l0_3 (l0_3.length : Int) (z0rq tree) FUEL 0
def z07f (tree : List GNode) (kx0_0 : List Int → Option Bool) : Nat → List GNode → Int → Int → List Int → Option Bool
  | 0, _, _, _, _ => none
  | n0 + 1, s0_0, s0_1, s0_2, l0_3 => if decide (s0_2 < s0_1) = true then ((getI s0_0 s0_2).bind fun x3 => ((z020 x3.if_ x3.stone).bind fun x4 => (if x4 = true then ((z03p x3.ans).bind fun x6 => (if x6 = true then (z02k tree s0_2 ([x3.yes, x3.no].length : Int) [x3.yes, x3.no] (z0rp s0_0 s0_1 (z07f tree kx0_0 n0) s0_2) FUEL 0 l0_3) else (some false))) else (some false)))) else (kx0_0 l0_3)
def z09h (tree : List GNode) : Option Bool := gd ((0 : Int) ≤ (tree.length : Int) ∧ (tree.length : Int) ≤ (1000000000 : Int)) (z07f tree (z0c2 tree) FUEL tree (tree.length : Int) 0 (List.replicate (tree.length : Int).toNat (0 : Int)))
def z00f : Con := ⟨92, [.v (.sl (.s .node)) false], [(.B, true)], [], fun x => z09h x.1⟩
def z1qr : Fs := ⟨[z03m, z08s, z029], []⟩
theorem z0ho : z1qr.Ok Tryz.prog := (fsK z07o (fsK z0gt (fsK z02u fs0)))
def z0om : Tmpl := ⟨[(0, .c (.s (.s .node))), (3, .c (.ref 12)), (4, .c .i), (13, .c (.s (.s .node))), (14, .c .i), (15, .c .i), (36, .c (.ref 36)), (37, .c .i), (38, .c .i)], [(12, .arr .I true), (36, .arr .I true)]⟩
def z0kg : Tmpl := ⟨[(0, .c (.s (.s .node))), (3, .c (.ref 12)), (13, .c (.s (.s .node))), (14, .c .i), (15, .c .i)], [(12, .arr .I true)]⟩
def z146 (av : AV) (x : HP z00f.ps) (n : Nat) (v : z0om.den) (K : Ks (CR z00f)) : Option (CR z00f) := z02k v.1.1 v.1.2.2.1 v.1.2.2.2.2.2.2.2.1 v.2.2.1 (fun l1_1 => z0kg.at none ((v.1.1, (), v.1.2.2.2.1, v.1.2.2.2.2.1, v.1.2.2.2.2.2.1, ()), (l1_1, ())) (K (.exit 2))) n v.1.2.2.2.2.2.2.2.2.1 v.2.1
def z0m4 (av : AV) (x : HP z00f.ps) : Hdl (CR z00f) := hnd [] z0om (z146 av x)
theorem z175 : LP z00f Tryz.f92 [0, 0] z0m4 := lp_ok (W := []) (H := []) (xs := [z0kg]) z0ho trivial rfl (fun av x v K => by kernel_rfl) (fun av x n v K => by kernel_rfl)
def z0yg : Tmpl := ⟨[(0, .c (.s (.s .node))), (3, .c (.ref 12)), (13, .c (.s (.s .node))), (14, .c .i), (15, .c .i)], [(12, .arr .I true)]⟩
def z0t9 : Tmpl := ⟨[(0, .c (.s (.s .node))), (3, .c (.ref 12))], [(12, .arr .I true)]⟩
def z1dt (av : AV) (x : HP z00f.ps) (n : Nat) (v : z0yg.den) (K : Ks (CR z00f)) : Option (CR z00f) := z07f v.1.1 (fun l0_3 => z0t9.at none ((v.1.1, (), ()), (l0_3, ())) (K (.exit 0))) n v.1.2.2.1 v.1.2.2.2.1 v.1.2.2.2.2.1 v.2.1
def z0wl (av : AV) (x : HP z00f.ps) : Hdl (CR z00f) := hnd [] z0yg (z1dt av x)
theorem z1gn : LP z00f Tryz.f92 [0] z0wl := lp_ok (W := []) (H := [z0m4]) (xs := [z0t9]) z0ho ⟨z175, trivial⟩ rfl (fun av x v K => by kernel_rfl) (fun av x n v K => by kernel_rfl)
def z0yh : Tmpl := ⟨[(0, .c (.s (.s .node))), (60, .c (.ref 12)), (61, .c .i), (62, .c .i)], [(12, .arr .I true)]⟩
def z0ta : Tmpl := ⟨[(0, .c (.s (.s .node)))], []⟩
def z1du (av : AV) (x : HP z00f.ps) (n : Nat) (v : z0yh.den) (K : Ks (CR z00f)) : Option (CR z00f) := z05g v.2.1 v.1.2.2.1 (z0ta.at none ((v.1.1, ()), ()) (K (.exit 4))) n v.1.2.2.2.1
def z0wm (av : AV) (x : HP z00f.ps) : Hdl (CR z00f) := hnd [] z0yh (z1du av x)
theorem z1go : LP z00f Tryz.f92 [1] z0wm := lp_ok (W := []) (H := []) (xs := [z0ta]) z0ho trivial rfl (fun av x v K => by kernel_rfl) (fun av x n v K => by kernel_rfl)
theorem z0v2 : z00f.Ok Tryz.prog := fn_ok (k := z00f) (fn := Tryz.f92) (W := []) (H := [z0wl, z0wm]) Tryz.func92 z0ho ⟨z1gn, z1go, trivial⟩ rfl rfl (fun av x => by kernel_rfl)
def z06k (l0_1 : List Int) : Option (List Int) := some l0_1
def z121 (l0_1 : List Int) : Option (List Int) := some l0_1
def z027 (tree : List GNode) (data : List Int) (kx0_0 : List Int → Option (List Int)) (kx0_1 : List Int → Option (List Int)) : Nat → Int → List Int → Option (List Int)
  | 0, _, _ => none
  | n0 + 1, s0_0, l0_1 => if decide (0 < (tree.length : Int)) = true then (if decide (s0_0 = (-1)) = true then (kx0_0 l0_1) else (gd (l0_1.length + [s0_0].length ≤ SMALL) ((getI tree s0_0).bind fun x4 => ((z020 x4.if_ data).bind fun x5 => (if x5 = true then ((getI tree s0_0).bind fun x7 => ((z027 tree data kx0_0 kx0_1 n0) x7.yes (l0_1 ++ [s0_0]))) else ((getI tree s0_0).bind fun x8 => ((z027 tree data kx0_0 kx0_1 n0) x8.no (l0_1 ++ [s0_0])))))))) else (kx0_1 l0_1)
def z0nr (tree : List GNode) (data : List Int) : Option (List Int) := z027 tree data z06k z121 FUEL 0 ([] : List Int)
def z08t : Con := ⟨224, [.v (.sl (.s .node)) false, .v (.sl .I) false], [((.sl .I), true)], [], fun x => z0nr x.1 x.2.1⟩
def z216 : Fs := ⟨[z03m], []⟩
theorem z1ll : z216.Ok Tryz.prog := (fsK z07o fs0)
def z19a : Tmpl := ⟨[(0, .c (.s (.s .node))), (1, .c (.s .I)), (5, .c (.ref 500005)), (6, .c .i)], [(500005, .arr .I true)]⟩
def z0ph : Tmpl := ⟨[(5, .c (.ref 500005))], [(500005, .arr .I true)]⟩
def z1ph (av : AV) (x : HP z08t.ps) (n : Nat) (v : z19a.den) (K : Ks (CR z08t)) : Option (CR z08t) := z027 v.1.1 v.1.2.1 (fun l0_1 => z0ph.at none (((), ()), (l0_1, ())) (K (.exit 0))) (fun l0_1 => z0ph.at none (((), ()), (l0_1, ())) (K (.exit 0))) n v.1.2.2.2.1 v.2.1
def z15i (av : AV) (x : HP z08t.ps) : Hdl (CR z08t) := hnd [.e 5 500005 .I] z19a (z1ph av x)
theorem z1s8 : LP z08t Tryz.f224 [0] z15i := lp_ok (W := []) (H := []) (xs := [z0ph]) z1ll trivial rfl (fun av x v K => by kernel_rfl) (fun av x n v K => by kernel_rfl)
theorem z1o5 : z08t.Ok Tryz.prog := fn_ok (k := z08t) (fn := Tryz.f224) (W := []) (H := [z15i]) Tryz.func224 z1ll ⟨z1s8, trivial⟩ rfl rfl (fun av x => by kernel_rfl)
def z0nq (tree : List GNode) (data : List Int) : Option (List Int) := (z09h tree).bind fun x1 => (if x1 = true then ((z03w data).bind fun x3 => (if x3 = true then ((z0nr tree data).bind fun x5 => (some x5)) else (some []))) else (some []))
def z0mo : Con := ⟨223, [.v (.sl (.s .node)) false, .v (.sl .I) false], [((.sl .I), true)], [], fun x => z0nq x.1 x.2.1⟩
def z1k4 : Fs := ⟨[z00f, z06o, z08t], []⟩
theorem z1li : z1k4.Ok Tryz.prog := (fsK z0v2 (fsK z09n (fsK z1o5 fs0)))
theorem z1o3 : z0mo.Ok Tryz.prog := fn_ok (k := z0mo) (fn := Tryz.f223) (W := []) (H := []) Tryz.func223 z1li trivial rfl rfl (fun av x => by kernel_rfl)
def z0cw (s0_1 : Int) : Option Int := some s0_1
def z01s (tree : List GNode) (data : List Int) (x1 : (List Int)) (p0_0 : Int) (kx0_0 : Int → Option Int) : Nat → Int → Int → Option Int
  | 0, _, _ => none
  | n0 + 1, s0_0, s0_1 => if decide (s0_0 < p0_0) = true then ((getI x1 s0_0).bind fun x3 => ((getI tree x3).bind fun x4 => ((z020 x4.if_ data).bind fun x5 => (if x5 = true then (gd (ok64 (s0_0 + 1)) ((z01s tree data x1 p0_0 kx0_0 n0) (s0_0 + 1) x3)) else (gd (ok64 (s0_0 + 1)) ((z01s tree data x1 p0_0 kx0_0 n0) (s0_0 + 1) s0_1)))))) else (kx0_0 s0_1)
def z0dl (tree : List GNode) (data : List Int) : Option Int := (z0nq tree data).bind fun x1 => (z01s tree data x1 (x1.length : Int) z0cw FUEL 0 (-1))
def z039 : Con := ⟨201, [.v (.sl (.s .node)) false, .v (.sl .I) false], [(.I, true)], [], fun x => z0dl x.1 x.2.1⟩
def z1f8 : Fs := ⟨[z0mo, z03m], []⟩
theorem z0w8 : z1f8.Ok Tryz.prog := (fsK z1o3 (fsK z07o fs0))
def z0ol : Tmpl := ⟨[(0, .c (.s (.s .node))), (1, .c (.s .I)), (5, .c .i), (10, .c (.ref 10)), (11, .c .i), (12, .c .i)], [(10, .arr .I true)]⟩
def z0kf : Tmpl := ⟨[(5, .c .i)], []⟩
def z145 (av : AV) (x : HP z039.ps) (n : Nat) (v : z0ol.den) (K : Ks (CR z039)) : Option (CR z039) := z01s v.1.1 v.1.2.1 v.2.1 v.1.2.2.2.2.1 (fun s0_1 => z0kf.at none ((s0_1, ()), ()) (K (.exit 0))) n v.1.2.2.2.2.2.1 v.1.2.2.1
def z0m3 (av : AV) (x : HP z039.ps) : Hdl (CR z039) := hnd [] z0ol (z145 av x)
theorem z174 : LP z039 Tryz.f201 [0] z0m3 := lp_ok (W := []) (H := []) (xs := [z0kf]) z0w8 trivial rfl (fun av x v K => by kernel_rfl) (fun av x n v K => by kernel_rfl)
theorem z1hx : z039.Ok Tryz.prog := fn_ok (k := z039) (fn := Tryz.f201) (W := []) (H := [z0m3]) Tryz.func201 z0w8 ⟨z174, trivial⟩ rfl rfl (fun av x => by kernel_rfl)
def z0fn (tree : List GNode) (data : List Int) : Option Int := (z0dl tree data).bind fun x1 => (if decide (x1 = (-1)) = true then (some 0) else ((getI tree x1).bind fun x3 => (some x3.ans)))
def z0mn : Con := ⟨146, [.v (.sl (.s .node)) false, .v (.sl .I) false], [(.I, true)], [], fun x => z0fn x.1 x.2.1⟩
def z1k3 : Fs := ⟨[z039], []⟩
theorem z1lh : z1k3.Ok Tryz.prog := (fsK z1hx fs0)
theorem z1o2 : z0mn.Ok Tryz.prog := fn_ok (k := z0mn) (fn := Tryz.f146) (W := []) (H := []) Tryz.func146 z1lh trivial rfl rfl (fun av x => by kernel_rfl)
def z0h7 (tree : List GNode) (data : List Int) : Option (Int × Bool) := (z0nr tree data).bind fun x1 => (gd (ok64 ((x1.length : Int) - 1)) ((getI x1 ((x1.length : Int) - 1)).bind fun x3 => ((getI tree x3).bind fun x4 => ((z020 x4.if_ data).bind fun x5 => (some (x3, x5))))))
def z0z9 : Con := ⟨202, [.v (.sl (.s .node)) false, .v (.sl .I) false], [(.I, true), (.B, true)], [], fun x => z0h7 x.1 x.2.1⟩
def z1xb : Fs := ⟨[z08t, z03m], []⟩
theorem z1xe : z1xb.Ok Tryz.prog := (fsK z1o5 (fsK z07o fs0))
theorem z1y1 : z0z9.Ok Tryz.prog := fn_ok (k := z0z9) (fn := Tryz.f202) (W := []) (H := []) Tryz.func202 z1xe trivial rfl rfl (fun av x => by kernel_rfl)
def z0ac (tree : List GNode) (data : List Int) (e : GAsk) (ans : Int) (x1 : (List GNode)) (p0_0 : Int) (p0_1 : Bool) : Option ((List GNode) × Bool) := if p0_1 = true then ((getI x1 p0_0).bind fun x24 => ((z00c data).bind fun x25 => (gd ((x1.set p0_0.toNat (GNode.mk x24.if_ (tree.length : Int) x24.no x24.ans x24.stone)).length + [(GNode.mk e (-1) (-1) ans x25)].length ≤ SMALL) (some (((x1.set p0_0.toNat (GNode.mk x24.if_ (tree.length : Int) x24.no x24.ans x24.stone)) ++ [(GNode.mk e (-1) (-1) ans x25)]), true))))) else ((getI x1 p0_0).bind fun x27 => ((z00c data).bind fun x28 => (gd ((x1.set p0_0.toNat (GNode.mk x27.if_ x27.yes (tree.length : Int) x27.ans x27.stone)).length + [(GNode.mk e (-1) (-1) ans x28)].length ≤ SMALL) (some (((x1.set p0_0.toNat (GNode.mk x27.if_ x27.yes (tree.length : Int) x27.ans x27.stone)) ++ [(GNode.mk e (-1) (-1) ans x28)]), true)))))
def z02n (tree : List GNode) (e : GAsk) (x1 : (List GNode)) (p0_0 : Int) (p0_1 : Bool) (p0_2 : List GNode) (p0_3 : Int) (kx0_0 : Option ((List GNode) × Bool)) : Nat → Int → Option ((List GNode) × Bool)
  | 0, _ => none
  | n0 + 1, s0_0 => if decide (s0_0 < p0_3) = true then ((getI p0_2 s0_0).bind fun x14 => ((z0h7 tree x14.stone).bind fun x15 => (if decide (x15.1 = p0_0) = true then (if (x15.2 == p0_1) = true then ((z020 e x14.stone).bind fun x18 => (if x18 = true then (some (x1, false)) else (gd (ok64 (s0_0 + 1)) ((z02n tree e x1 p0_0 p0_1 p0_2 p0_3 kx0_0 n0) (s0_0 + 1))))) else (gd (ok64 (s0_0 + 1)) ((z02n tree e x1 p0_0 p0_1 p0_2 p0_3 kx0_0 n0) (s0_0 + 1)))) else (gd (ok64 (s0_0 + 1)) ((z02n tree e x1 p0_0 p0_1 p0_2 p0_3 kx0_0 n0) (s0_0 + 1)))))) else (kx0_0)
def z0fm (tree : List GNode) (data : List Int) (e : GAsk) (ans : Int) : Option ((List GNode) × Bool) := (z077 tree).bind fun x1 => ((z09h tree).bind fun x2 => (if x2 = true then ((z03w data).bind fun x4 => (if x4 = true then ((z03p ans).bind fun x6 => (if x6 = true then ((z020 e data).bind fun x8 => (if x8 = true then (if decide ((tree.length : Int) = 12) = true then (some (x1, false)) else (if decide (0 < (tree.length : Int)) = true then ((z0h7 tree data).bind fun x12 => (z02n tree e x1 x12.1 x12.2 tree (tree.length : Int) (z0ac tree data e ans x1 x12.1 x12.2) FUEL 0)) else ((z00c data).bind fun x30 => (gd (x1.length + [(GNode.mk e (-1) (-1) ans x30)].length ≤ SMALL) (some ((x1 ++ [(GNode.mk e (-1) (-1) ans x30)]), true)))))) else (some (x1, false)))) else (some (x1, false)))) else (some (x1, false)))) else (some (x1, false))))
def z04y : Con := ⟨148, [.v (.sl (.s .node)) false, .v (.sl .I) false, .v (.s .ask) false, .v .I false], [((.sl (.s .node)), true), (.B, true)], [], fun x => z0fm x.1 x.2.1 x.2.2.1 x.2.2.2.1⟩
def z1k2 : Fs := ⟨[z01a, z00f, z06o, z08s, z03m, z0z9, z013], []⟩
theorem z10s : z1k2.Ok Tryz.prog := (fsK z0jt (fsK z0v2 (fsK z09n (fsK z0gt (fsK z07o (fsK z1y1 (fsK z025 fs0)))))))
def z0so : Tmpl := ⟨[(0, .c (.s (.s .node))), (1, .c (.s .I)), (3, .c .i), (6, .c (.bx 6 0)), (10, .c (.ref 18)), (11, .c .i), (12, .c .b), (53, .c (.s (.s .node))), (54, .c .i), (55, .c .i)], [(6, .boxT (.s .ask)), (18, .arr (.s .node) true)]⟩
def z0pg : Tmpl := ⟨[(0, .c (.s (.s .node))), (1, .c (.s .I)), (3, .c .i), (6, .c (.bx 6 0)), (10, .c (.ref 18)), (11, .c .i), (12, .c .b)], [(6, .boxT (.s .ask)), (18, .arr (.s .node) true)]⟩
def z19y (av : AV) (x : HP z04y.ps) (n : Nat) (v : z0so.den) (K : Ks (CR z04y)) : Option (CR z04y) := z02n v.1.1 v.2.1 v.2.2.1 v.1.2.2.2.2.2.1 v.1.2.2.2.2.2.2.1 v.1.2.2.2.2.2.2.2.1 v.1.2.2.2.2.2.2.2.2.1 (z0pg.at none ((v.1.1, v.1.2.1, v.1.2.2.1, (), (), v.1.2.2.2.2.2.1, v.1.2.2.2.2.2.2.1, ()), (v.2.1, v.2.2.1, ())) (K (.exit 0))) n v.1.2.2.2.2.2.2.2.2.2.1
def z0r5 (av : AV) (x : HP z04y.ps) : Hdl (CR z04y) := hnd [] z0so (z19y av x)
theorem z1bj : LP z04y Tryz.f148 [0] z0r5 := lp_ok (W := []) (H := []) (xs := [z0pg]) z10s trivial rfl (fun av x v K => by kernel_rfl) (fun av x n v K => by kernel_rfl)
theorem z1o1 : z04y.Ok Tryz.prog := fn_ok (k := z04y) (fn := Tryz.f148) (W := []) (H := [z0r5]) Tryz.func148 z10s ⟨z1bj, trivial⟩ rfl rfl (fun av x => by kernel_rfl)
def z0ia (n : GNet) : Option Bool := (z09g n).bind fun x1 => (some (!x1))
def z0iu : FCon := ⟨89, (.s .net), [], fun z c => z0ia z ⟩
def z1f2 : Fs := ⟨[z0bg], []⟩
theorem z1g4 : z1f2.Ok Tryz.prog := (fsK z0in fs0)
theorem z1hr : z0iu.Ok Tryz.prog := FCon.ok (fn_ok (k := z0iu.con) (fn := Tryz.f89) (W := []) (H := []) Tryz.func89 z1g4 trivial rfl rfl (fun av x => by kernel_rfl))
def z0ro  : Option Bool := some true
def z07e (h : GHouse) (p0_0 : List GRun) (p0_1 : Int) (kx0_0 : Option Bool) : Nat → Int → Option Bool
  | 0, _ => none
  | n0 + 1, s0_0 => if decide (s0_0 < p0_1) = true then ((getI p0_0 s0_0).bind fun x11 => (gd (ok64 ((h.nets.length : Int) - 1)) ((z00b x11.net 0 ((h.nets.length : Int) - 1)).bind fun x13 => (if x13 = true then ((getI h.nets x11.net).bind fun x15 => ((z0ef x15 x11.case).bind fun x16 => (if x16 = true then (gd (ok64 (s0_0 + 1)) ((z07e h p0_0 p0_1 kx0_0 n0) (s0_0 + 1))) else (some false)))) else (some false))))) else (kx0_0)
def z0eg (h : GHouse) : Option Bool := (z00b (h.nets.length : Int) 1 3).bind fun x1 => (if x1 = true then ((z07w h.nets (fun z => z0ia z )).bind fun x3 => (if x3 = true then (some false) else ((z0bn h.people).bind fun x5 => (if x5 = true then ((z09h h.tree).bind fun x7 => (if x7 = true then (if decide (5 < (h.runs.length : Int)) = true then (some false) else (z07e h h.runs (h.runs.length : Int) z0ro FUEL 0)) else (some false))) else (some false))))) else (some false))
def z05e : Con := ⟨32, [.v (.s .house) false], [(.B, true)], [], fun x => z0eg x.1⟩
def z1ql : Fs := ⟨[z029, z0a2, z0ec, z00f, z05d], [z0iu]⟩
theorem z151 : z1ql.Ok Tryz.prog := (fsK z02u (fsK z0xt (fsK z0v1 (fsK z0v2 (fsK z18h (fsF z1hr fs0))))))
def z0yf : Tmpl := ⟨[(1, .c (.bx 1 0)), (34, .c (.s (.s .run))), (35, .c .i), (36, .c .i)], [(1, .boxT (.s .house))]⟩
def z0t8 : Tmpl := ⟨[], []⟩
def z1ds (av : AV) (x : HP z05e.ps) (n : Nat) (v : z0yf.den) (K : Ks (CR z05e)) : Option (CR z05e) := z07e v.2.1 v.1.2.1 v.1.2.2.1 (z0t8.at none ((), ()) (K (.exit 0))) n v.1.2.2.2.1
def z0wk (av : AV) (x : HP z05e.ps) : Hdl (CR z05e) := hnd [] z0yf (z1ds av x)
theorem z1gm : LP z05e Tryz.f32 [0] z0wk := lp_ok (W := []) (H := []) (xs := [z0t8]) z151 trivial rfl (fun av x v K => by kernel_rfl) (fun av x n v K => by kernel_rfl)
theorem z18i : z05e.Ok Tryz.prog := fn_ok (k := z05e) (fn := Tryz.f32) (W := []) (H := [z0wk]) Tryz.func32 z151 ⟨z1gm, trivial⟩ rfl rfl (fun av x => by kernel_rfl)
def z061 (r : GReq) (s : GReq) : Option Bool := if decide (r.kind = s.kind) = true then (if decide (r.who = s.who) = true then (if decide (r.case = s.case) = true then (if decide (r.task = s.task) = true then (if decide (r.var = s.var) = true then (if decide (r.num = s.num) = true then (if decide ([r.if_.op, r.if_.var, r.if_.k] = [s.if_.op, s.if_.var, s.if_.k]) = true then (if decide (r.ans = s.ans) = true then ((z13h r.data s.data).bind fun x9 => (some x9)) else (some false)) else (some false)) else (some false)) else (some false)) else (some false)) else (some false)) else (some false)) else (some false)
def z0bf : Con := ⟨141, [.v (.s .req) false, .v (.s .req) false], [(.B, true)], [], fun x => z061 x.1 x.2.1⟩
def z0z2 : Fs := ⟨[z0dd], []⟩
theorem z0z7 : z0z2.Ok Tryz.prog := (fsK z24p fs0)
theorem z107 : z0bf.Ok Tryz.prog := fn_ok (k := z0bf) (fn := Tryz.f141) (W := []) (H := []) Tryz.func141 z0z7 trivial rfl rfl (fun av x => by kernel_rfl)
def z059 (r : GReq) : Option GReq := if decide (r.kind = 1) = true then (some (GReq.mk r.kind 0 0 0 0 0 r.data (GAsk.mk 0 0 0) 0)) else (if decide (r.kind = 2) = true then (some (GReq.mk r.kind r.who r.case r.task 0 0 [] (GAsk.mk 0 0 0) 0)) else (if decide (r.kind = 3) = true then (some (GReq.mk r.kind 0 r.case r.task r.var r.num [] (GAsk.mk 0 0 0) 0)) else (if decide (r.kind = 4) = true then (some (GReq.mk r.kind 0 r.case 0 0 0 [] (GAsk.mk 0 0 0) 0)) else (some (GReq.mk r.kind 0 0 0 0 0 r.data r.if_ r.ans)))))
def z0a5 : Con := ⟨142, [.v (.s .req) false], [((.s .req), false)], [], fun x => z059 x.1⟩
def z0vn : Fs := ⟨[], []⟩
theorem z0w7 : z0vn.Ok Tryz.prog := fs0
theorem z0xx : z0a5.Ok Tryz.prog := fn_ok (k := z0a5) (fn := Tryz.f142) (W := []) (H := []) Tryz.func142 z0w7 trivial rfl rfl (fun av x => by kernel_rfl)
def z0c1 (r : GReq) : Option Bool := if decide (r.kind = 1) = true then ((z00b r.kind 1 5).bind fun x2 => (if x2 = true then ((z00b r.who 0 4).bind fun x4 => (if x4 = true then ((z00b r.case 0 4).bind fun x6 => (if x6 = true then ((z00b r.task 0 5).bind fun x8 => (if x8 = true then ((z00b r.var (-1) 2).bind fun x10 => (if x10 = true then ((z05a r.num).bind fun x12 => (if x12 = true then ((z087 r.if_).bind fun x14 => (if x14 = true then ((z03p r.ans).bind fun x16 => (if x16 = true then ((z03w r.data).bind fun x18 => (if (x18 == true) = true then ((z059 r).bind fun x20 => ((z061 r x20).bind fun x21 => (some x21))) else (some false))) else (some false))) else (some false))) else (some false))) else (some false))) else (some false))) else (some false))) else (some false))) else (some false))) else ((z00b r.kind 1 5).bind fun x22 => (if x22 = true then ((z00b r.who 0 4).bind fun x24 => (if x24 = true then ((z00b r.case 0 4).bind fun x26 => (if x26 = true then ((z00b r.task 0 5).bind fun x28 => (if x28 = true then ((z00b r.var (-1) 2).bind fun x30 => (if x30 = true then ((z05a r.num).bind fun x32 => (if x32 = true then ((z087 r.if_).bind fun x34 => (if x34 = true then ((z03p r.ans).bind fun x36 => (if x36 = true then ((z03w r.data).bind fun x38 => (if (x38 == (decide (r.kind = 5))) = true then ((z059 r).bind fun x40 => ((z061 r x40).bind fun x41 => (some x41))) else (some false))) else (some false))) else (some false))) else (some false))) else (some false))) else (some false))) else (some false))) else (some false))) else (some false)))
def z0go : Con := ⟨66, [.v (.s .req) false], [(.B, true)], [], fun x => z0c1 x.1⟩
def z1ai : Fs := ⟨[z029, z08h, z0ea, z08s, z06o, z0a5, z0bf], []⟩
theorem z1au : z1ai.Ok Tryz.prog := (fsK z02u (fsK z0dx (fsK z0ux (fsK z0gt (fsK z09n (fsK z0xx (fsK z107 fs0)))))))
theorem z1c4 : z0go.Ok Tryz.prog := fn_ok (k := z0go) (fn := Tryz.f66) (W := []) (H := []) Tryz.func66 z1au trivial rfl rfl (fun av x => by kernel_rfl)
def z060 (h : GHouse) (r : GReq) : Option (Int × GHouse) := if decide (r.kind = 1) = true then (if decide ((h.runs.length : Int) = 5) = true then (some (4, h)) else ((z0fn h.tree r.data).bind fun x3 => (if decide ((h.nets.length : Int) ≤ x3) = true then ((getI h.nets 0).bind fun x5 => ((z0cg x5 r.data).bind fun x6 => (gd (h.runs.length + [(GRun.mk 0 x6)].length ≤ SMALL) (some (1, (GHouse.mk h.nets h.people h.tree (h.runs ++ [(GRun.mk 0 x6)]))))))) else ((getI h.nets x3).bind fun x8 => ((z0cg x8 r.data).bind fun x9 => (gd (h.runs.length + [(GRun.mk x3 x9)].length ≤ SMALL) (some (1, (GHouse.mk h.nets h.people h.tree (h.runs ++ [(GRun.mk x3 x9)])))))))))) else (if decide (r.kind = 5) = true then ((z0fm h.tree r.data r.if_ r.ans).bind fun x12 => (if x12.2 = true then (some (1, (GHouse.mk h.nets h.people x12.1 h.runs))) else (some (3, h)))) else (if decide ((h.runs.length : Int) ≤ r.case) = true then (some (2, h)) else ((getI h.runs r.case).bind fun x15 => ((getI h.nets x15.net).bind fun x16 => (if decide (r.kind = 2) = true then ((z0c0 x16 h.people x15.case r.task r.who).bind fun x18 => (if x18.2 = true then (some (1, (GHouse.mk h.nets h.people h.tree (h.runs.set r.case.toNat (GRun.mk x15.net x18.1))))) else (some (3, h)))) else (if decide (r.kind = 3) = true then ((z0dk x16 x15.case r.task r.var r.num).bind fun x21 => (if x21.2 = true then (some (1, (GHouse.mk h.nets h.people h.tree (h.runs.set r.case.toNat (GRun.mk x15.net x21.1))))) else (some (3, h)))) else ((z0dj x16 x15.case).bind fun x23 => (if x23.2 = true then (some (1, (GHouse.mk h.nets h.people h.tree (h.runs.set r.case.toNat (GRun.mk x15.net x23.1))))) else (some (3, h))))))))))
def z0be : Con := ⟨68, [.ptr (.s .house) true, .v (.s .req) false], [(.I, true)], [(0, .ptr (.s .house) true)], fun x => z060 x.1 x.2.1⟩
def z0z1 : Fs := ⟨[z0mn, z0mi, z04y, z0gn, z0hx, z0hw], []⟩
theorem z0z6 : z0z1.Ok Tryz.prog := (fsK z1o2 (fsK z1nv (fsK z1o1 (fsK z1c3 (fsK z1hp (fsK z1ho fs0))))))
theorem z106 : z0be.Ok Tryz.prog := fn_ok (k := z0be) (fn := Tryz.f68) (W := []) (H := []) Tryz.func68 z0z6 trivial rfl rfl (fun av x => by kernel_rfl)
def z0ib (r : GReq) : Option Bool := (z0c1 r).bind fun x1 => (some (!x1))
def z0iv : FCon := ⟨154, (.s .req), [], fun z c => z0ib z ⟩
def z1f5 : Fs := ⟨[z0go], []⟩
theorem z1g6 : z1f5.Ok Tryz.prog := (fsK z1c4 fs0)
theorem z1hu : z0iv.Ok Tryz.prog := FCon.ok (fn_ok (k := z0iv.con) (fn := Tryz.f154) (W := []) (H := []) Tryz.func154 z1g6 trivial rfl rfl (fun av x => by kernel_rfl))
def z0eh (log : List GReq) : Option Bool := if decide ((log.length : Int) ≤ 150) = true then ((z07x log (fun z => z0ib z )).bind fun x2 => (some (!x2))) else (some false)
def z0hz : Con := ⟨79, [.v (.sl (.s .req)) false], [(.B, true)], [], fun x => z0eh x.1⟩
def z1qn : Fs := ⟨[z0a3], [z0iv]⟩
theorem z1rl : z1qn.Ok Tryz.prog := (fsK z0xu (fsF z1hu fs0))
theorem z18j : z0hz.Ok Tryz.prog := fn_ok (k := z0hz) (fn := Tryz.f79) (W := []) (H := []) Tryz.func79 z1rl trivial rfl rfl (fun av x => by kernel_rfl)
def z0ei (l0_1 : List Int) (l0_2 : List GNet) (l0_3 : List GNode) (l0_4 : List GRun) (l0_5 : List GReq) : Option (GHouse × (List GReq)) := (z026 (GHouse.mk l0_2 l0_1 l0_3 l0_4)).bind fun x14 => (some (x14, l0_5))
def z03x (reqs : List GReq) (p0_0 : Int) (kx0_0 : List Int → List GNet → List GNode → List GRun → List GReq → Option (GHouse × (List GReq))) : Nat → Int → List Int → List GNet → List GNode → List GRun → List GReq → Option (GHouse × (List GReq))
  | 0, _, _, _, _, _, _ => none
  | n0 + 1, s0_0, l0_1, l0_2, l0_3, l0_4, l0_5 => if decide (s0_0 < p0_0) = true then ((getI reqs s0_0).bind fun x7 => ((z060 (GHouse.mk l0_2 l0_1 l0_3 l0_4) x7).bind fun x8 => (if decide (x8.1 = 1) = true then ((z07y x7).bind fun x10 => (gd (l0_5.length + [x10].length ≤ SMALL) (gd (ok64 (s0_0 + 1)) ((z03x reqs p0_0 kx0_0 n0) (s0_0 + 1) x8.2.people x8.2.nets x8.2.tree x8.2.runs (l0_5 ++ [x10]))))) else (gd (ok64 (s0_0 + 1)) ((z03x reqs p0_0 kx0_0 n0) (s0_0 + 1) x8.2.people x8.2.nets x8.2.tree x8.2.runs l0_5))))) else (kx0_0 l0_1 l0_2 l0_3 l0_4 l0_5)
def z0fi (h : GHouse) (reqs : List GReq) : Option (GHouse × (List GReq)) := (z0eg h).bind fun x1 => (if x1 = true then ((z0eh reqs).bind fun x3 => (if x3 = true then ((z026 h).bind fun x5 => (z03x reqs (reqs.length : Int) z0ei FUEL 0 x5.people x5.nets x5.tree x5.runs ([] : List GReq))) else (some ((GHouse.mk [] [] [] []), [])))) else (some ((GHouse.mk [] [] [] []), [])))
def z04x : Con := ⟨29, [.v (.s .house) false, .v (.sl (.s .req)) false], [((.s .house), true), ((.sl (.s .req)), true)], [], fun x => z0fi x.1 x.2.1⟩
def z1jy : Fs := ⟨[z05e, z0hz, z008, z0be, z0a4], []⟩
theorem z10r : z1jy.Ok Tryz.prog := (fsK z18i (fsK z18j (fsK z0qk (fsK z106 (fsK z0xw fs0)))))
def z0sn : Tmpl := ⟨[(4, .c (.bx 4 0)), (6, .c (.bx 6 0)), (7, .c (.ref 500007)), (21, .c (.s (.s .req))), (22, .c .i), (23, .c .i)], [(4, .box [.nl, .nl, .nl, .nl]), (6, .box [.ref 20, .ref 10020, .ref 20020, .ref 30020]), (20, .arr (.s .net) true), (10020, .arr .I true), (20020, .arr (.s .node) true), (30020, .arr (.s .run) true), (500007, .arr (.s .req) true)]⟩
def z0pf : Tmpl := ⟨[(4, .c (.bx 4 0)), (6, .c (.bx 6 0)), (7, .c (.ref 500007))], [(4, .box [.nl, .nl, .nl, .nl]), (6, .box [.ref 20, .ref 10020, .ref 20020, .ref 30020]), (20, .arr (.s .net) true), (10020, .arr .I true), (20020, .arr (.s .node) true), (30020, .arr (.s .run) true), (500007, .arr (.s .req) true)]⟩
def z19x (av : AV) (x : HP z04x.ps) (n : Nat) (v : z0sn.den) (K : Ks (CR z04x)) : Option (CR z04x) := z03x v.1.2.2.2.1 v.1.2.2.2.2.1 (fun l0_1 l0_2 l0_3 l0_4 l0_5 => z0pf.at none (((), (), (), ()), (((), (), (), (), ()), ((), (), (), (), ()), l0_2, l0_1, l0_3, l0_4, l0_5, ())) (K (.exit 0))) n v.1.2.2.2.2.2.1 v.2.2.2.2.1 v.2.2.2.1 v.2.2.2.2.2.1 v.2.2.2.2.2.2.1 v.2.2.2.2.2.2.2.1
def z0r4 (av : AV) (x : HP z04x.ps) : Hdl (CR z04x) := hnd [.e 7 500007 (.s .req)] z0sn (z19x av x)
theorem z1bi : LP z04x Tryz.f29 [0] z0r4 := lp_ok (W := []) (H := []) (xs := [z0pf]) z10r trivial rfl (fun av x v K => by kernel_rfl) (fun av x n v K => by kernel_rfl)
theorem z1nx : z04x.Ok Tryz.prog := fn_ok (k := z04x) (fn := Tryz.f29) (W := []) (H := [z0r4]) Tryz.func29 z10r ⟨z1bi, trivial⟩ rfl rfl (fun av x => by kernel_rfl)
def z0ab (h : GHouse) (log : List GReq) : Option (GHouse × Bool) := (z0fi h log).bind fun x1 => ((z0eg h).bind fun x2 => (if x2 = true then ((z0eh log).bind fun x4 => (if x4 = true then (if decide ((x1.2.length : Int) < (log.length : Int)) = true then (some ((GHouse.mk [] [] [] []), false)) else (some (x1.1, true))) else (some ((GHouse.mk [] [] [] []), false)))) else (some ((GHouse.mk [] [] [] []), false))))
def z0hy : Con := ⟨25, [.v (.s .house) false, .v (.sl (.s .req)) false], [((.s .house), true), (.B, true)], [], fun x => z0ab x.1 x.2.1⟩
def z1f4 : Fs := ⟨[z04x, z05e, z0hz], []⟩
theorem z1g5 : z1f4.Ok Tryz.prog := (fsK z1nx (fsK z18i (fsK z18j fs0)))
theorem z1ht : z0hy.Ok Tryz.prog := fn_ok (k := z0hy) (fn := Tryz.f25) (W := []) (H := []) Tryz.func25 z1g5 trivial rfl rfl (fun av x => by kernel_rfl)
def z122 (s0_0 : Int) (l0_2 : List Int) : Option (Int × (List Int)) := some (s0_0, l0_2)
def z09w (kx0_0 : Int → List Int → Option (Int × (List Int))) : Nat → Int → Int → List Int → Option (Int × (List Int))
  | 0, _, _, _ => none
  | n0 + 1, s0_0, s0_1, l0_2 => if decide (s0_1 < (l0_2.length : Int)) = true then ((getI l0_2 s0_1).bind fun x2 => (gd (ok64 (s0_0 + 1)) (gd (ok64 (s0_1 + 1)) ((z09w kx0_0 n0) (s0_0 + 1) (s0_1 + 1) (l0_2.set s0_1.toNat s0_0))))) else (kx0_0 s0_0 l0_2)
def z08w (a : List Int) (k : Int) : Option (Int × (List Int)) := z09w z122 FUEL k 0 a
def z05n : Con := ⟨44, [.v (.sl .I) true, .v .I false], [(.I, true)], [(0, .v (.sl .I) true)], fun x => z08w x.1 x.2.1⟩
def z217 : Fs := ⟨[], []⟩
theorem z1lm : z217.Ok Tryz.prog := fs0
def z19b : Tmpl := ⟨[(0, .c (.ref 1000000)), (1, .c .i), (5, .c .i)], [(1000000, .arr .I true)]⟩
def z12g : Tmpl := ⟨[(1, .c .i)], [(1000000, .arr .I true)]⟩
def z1pi (av : AV) (x : HP z05n.ps) (n : Nat) (v : z19b.den) (K : Ks (CR z05n)) : Option (CR z05n) := z09w (fun s0_0 l0_2 => z12g.at none ((s0_0, ()), (l0_2, ())) (K (.exit 0))) n v.1.2.1 v.1.2.2.1 v.2.1
def z15j (av : AV) (x : HP z05n.ps) : Hdl (CR z05n) := hnd [] z19b (z1pi av x)
theorem z1s9 : LP z05n Tryz.f44 [0] z15j := lp_ok (W := []) (H := []) (xs := [z12g]) z1lm trivial rfl (fun av x v K => by kernel_rfl) (fun av x n v K => by kernel_rfl)
theorem z0o3 : z05n.Ok Tryz.prog := fn_ok (k := z05n) (fn := Tryz.f44) (W := []) (H := [z15j]) Tryz.func44 z1lm ⟨z1s9, trivial⟩ rfl rfl (fun av x => by kernel_rfl)
def z120 (s0_0 : Int) : Option Int := some s0_0
def z09v (a : List Int) (kx0_0 : Int → Option Int) : Nat → Int → Int → Option Int
  | 0, _, _ => none
  | n0 + 1, s0_0, s0_1 => if decide (s0_1 < (a.length : Int)) = true then ((getI a s0_1).bind fun x2 => (if decide (x2 = s0_0) = true then (gd (ok64 (s0_0 + 1)) (gd (ok64 (s0_1 + 1)) ((z09v a kx0_0 n0) (s0_0 + 1) (s0_1 + 1)))) else (some (-1)))) else (kx0_0 s0_0)
def z0aa (a : List Int) (k : Int) : Option Int := z09v a z120 FUEL k 0
def z072 : Con := ⟨75, [.v (.sl .I) false, .v .I false], [(.I, true)], [], fun x => z0aa x.1 x.2.1⟩
def z215 : Fs := ⟨[], []⟩
theorem z1lb : z215.Ok Tryz.prog := fs0
def z199 : Tmpl := ⟨[(0, .c (.s .I)), (1, .c .i), (5, .c .i)], []⟩
def z12f : Tmpl := ⟨[(1, .c .i)], []⟩
def z1pg (av : AV) (x : HP z072.ps) (n : Nat) (v : z199.den) (K : Ks (CR z072)) : Option (CR z072) := z09v v.1.1 (fun s0_0 => z12f.at none ((s0_0, ()), ()) (K (.exit 0))) n v.1.2.1 v.1.2.2.1
def z15h (av : AV) (x : HP z072.ps) : Hdl (CR z072) := hnd [] z199 (z1pg av x)
theorem z1s7 : LP z072 Tryz.f75 [0] z15h := lp_ok (W := []) (H := []) (xs := [z12f]) z1lb trivial rfl (fun av x v K => by kernel_rfl) (fun av x n v K => by kernel_rfl)
theorem z0xv : z072.Ok Tryz.prog := fn_ok (k := z072) (fn := Tryz.f75) (W := []) (H := [z15h]) Tryz.func75 z1lb ⟨z1s7, trivial⟩ rfl rfl (fun av x => by kernel_rfl)
def z136 (s0_0 : Int) (l0_2 : List GFlow) : Option (Int × (List GFlow)) := some (s0_0, l0_2)
def z079 (kx0_0 : Int → List GFlow → Option (Int × (List GFlow))) : Nat → Int → Int → List GFlow → Option (Int × (List GFlow))
  | 0, _, _, _ => none
  | n0 + 1, s0_0, s0_1, l0_2 => if decide (s0_1 < (l0_2.length : Int)) = true then ((getI l0_2 s0_1).bind fun x2 => (gd (ok64 (s0_0 + 1)) ((getI (l0_2.set s0_1.toNat (GFlow.mk s0_0 x2.if_)) s0_1).bind fun x4 => (gd (ok64 ((s0_0 + 1) + 1)) ((getI ((l0_2.set s0_1.toNat (GFlow.mk s0_0 x2.if_)).set s0_1.toNat (GFlow.mk x4.to (GAsk.mk (s0_0 + 1) x4.if_.var x4.if_.k))) s0_1).bind fun x6 => (gd (ok64 (((s0_0 + 1) + 1) + 1)) ((getI (((l0_2.set s0_1.toNat (GFlow.mk s0_0 x2.if_)).set s0_1.toNat (GFlow.mk x4.to (GAsk.mk (s0_0 + 1) x4.if_.var x4.if_.k))).set s0_1.toNat (GFlow.mk x6.to (GAsk.mk x6.if_.op ((s0_0 + 1) + 1) x6.if_.k))) s0_1).bind fun x8 => (gd (ok64 ((((s0_0 + 1) + 1) + 1) + 1)) (gd (ok64 (s0_1 + 1)) ((z079 kx0_0 n0) ((((s0_0 + 1) + 1) + 1) + 1) (s0_1 + 1) ((((l0_2.set s0_1.toNat (GFlow.mk s0_0 x2.if_)).set s0_1.toNat (GFlow.mk x4.to (GAsk.mk (s0_0 + 1) x4.if_.var x4.if_.k))).set s0_1.toNat (GFlow.mk x6.to (GAsk.mk x6.if_.op ((s0_0 + 1) + 1) x6.if_.k))).set s0_1.toNat (GFlow.mk x8.to (GAsk.mk x8.if_.op x8.if_.var (((s0_0 + 1) + 1) + 1)))))))))))))) else (kx0_0 s0_0 l0_2)
def z0dn (a : List GFlow) (k : Int) : Option (Int × (List GFlow)) := z079 z136 FUEL k 0 a
def z03c : Con := ⟨189, [.v (.sl (.s .flow)) true, .v .I false], [(.I, true)], [(0, .v (.sl (.s .flow)) true)], fun x => z0dn x.1 x.2.1⟩
def z1fg : Fs := ⟨[], []⟩
theorem z0wc : z1fg.Ok Tryz.prog := fs0
def z0oq : Tmpl := ⟨[(0, .c (.ref 1000000)), (1, .c .i), (5, .c .i)], [(1000000, .arr (.s .flow) true)]⟩
def z0kk : Tmpl := ⟨[(1, .c .i)], [(1000000, .arr (.s .flow) true)]⟩
def z14a (av : AV) (x : HP z03c.ps) (n : Nat) (v : z0oq.den) (K : Ks (CR z03c)) : Option (CR z03c) := z079 (fun s0_0 l0_2 => z0kk.at none ((s0_0, ()), (l0_2, ())) (K (.exit 0))) n v.1.2.1 v.1.2.2.1 v.2.1
def z0m8 (av : AV) (x : HP z03c.ps) : Hdl (CR z03c) := hnd [] z0oq (z14a av x)
theorem z179 : LP z03c Tryz.f189 [0] z0m8 := lp_ok (W := []) (H := []) (xs := [z0kk]) z0wc trivial rfl (fun av x v K => by kernel_rfl) (fun av x n v K => by kernel_rfl)
theorem z1i3 : z03c.Ok Tryz.prog := fn_ok (k := z03c) (fn := Tryz.f189) (W := []) (H := [z0m8]) Tryz.func189 z0wc ⟨z179, trivial⟩ rfl rfl (fun av x => by kernel_rfl)
def z132 (s0_0 : Int) : Option Int := some s0_0
def z074 (a : List GFlow) (kx0_0 : Int → Option Int) : Nat → Int → Int → Option Int
  | 0, _, _ => none
  | n0 + 1, s0_0, s0_1 => if decide (s0_1 < (a.length : Int)) = true then ((getI a s0_1).bind fun x2 => (if decide (x2.to = s0_0) = true then (gd (ok64 (s0_0 + 1)) ((getI a s0_1).bind fun x5 => (if decide (x5.if_.op = (s0_0 + 1)) = true then (gd (ok64 ((s0_0 + 1) + 1)) ((getI a s0_1).bind fun x8 => (if decide (x8.if_.var = ((s0_0 + 1) + 1)) = true then (gd (ok64 (((s0_0 + 1) + 1) + 1)) ((getI a s0_1).bind fun x11 => (if decide (x11.if_.k = (((s0_0 + 1) + 1) + 1)) = true then (gd (ok64 ((((s0_0 + 1) + 1) + 1) + 1)) (gd (ok64 (s0_1 + 1)) ((z074 a kx0_0 n0) ((((s0_0 + 1) + 1) + 1) + 1) (s0_1 + 1)))) else (some (-1))))) else (some (-1))))) else (some (-1))))) else (some (-1)))) else (kx0_0 s0_0)
def z0dg (a : List GFlow) (k : Int) : Option Int := z074 a z132 FUEL k 0
def z036 : Con := ⟨203, [.v (.sl (.s .flow)) false, .v .I false], [(.I, true)], [], fun x => z0dg x.1 x.2.1⟩
def z1ew : Fs := ⟨[], []⟩
theorem z0w3 : z1ew.Ok Tryz.prog := fs0
def z0og : Tmpl := ⟨[(0, .c (.s (.s .flow))), (1, .c .i), (5, .c .i)], []⟩
def z0ka : Tmpl := ⟨[(1, .c .i)], []⟩
def z140 (av : AV) (x : HP z036.ps) (n : Nat) (v : z0og.den) (K : Ks (CR z036)) : Option (CR z036) := z074 v.1.1 (fun s0_0 => z0ka.at none ((s0_0, ()), ()) (K (.exit 0))) n v.1.2.1 v.1.2.2.1
def z0ly (av : AV) (x : HP z036.ps) : Hdl (CR z036) := hnd [] z0og (z140 av x)
theorem z16z : LP z036 Tryz.f203 [0] z0ly := lp_ok (W := []) (H := []) (xs := [z0ka]) z0w3 trivial rfl (fun av x v K => by kernel_rfl) (fun av x n v K => by kernel_rfl)
theorem z1hl : z036.Ok Tryz.prog := fn_ok (k := z036) (fn := Tryz.f203) (W := []) (H := [z0ly]) Tryz.func203 z0w3 ⟨z16z, trivial⟩ rfl rfl (fun av x => by kernel_rfl)
def z137 (s0_0 : Int) (l0_2 : List GTask) : Option (Int × (List GTask)) := some (s0_0, l0_2)
def z07a (kx0_0 : Int → List GTask → Option (Int × (List GTask))) : Nat → Int → Int → List GTask → Option (Int × (List GTask))
  | 0, _, _, _ => none
  | n0 + 1, s0_0, s0_1, l0_2 => if decide (s0_1 < (l0_2.length : Int)) = true then ((getI l0_2 s0_1).bind fun x2 => (gd (ok64 (s0_0 + 1)) ((getI (l0_2.set s0_1.toNat (GTask.mk s0_0 x2.split x2.in_ x2.out x2.clear x2.role x2.apart x2.all x2.need)) s0_1).bind fun x4 => (gd (ok64 ((s0_0 + 1) + 1)) ((getI ((l0_2.set s0_1.toNat (GTask.mk s0_0 x2.split x2.in_ x2.out x2.clear x2.role x2.apart x2.all x2.need)).set s0_1.toNat (GTask.mk x4.join (s0_0 + 1) x4.in_ x4.out x4.clear x4.role x4.apart x4.all x4.need)) s0_1).bind fun x6 => ((z08w x6.in_ ((s0_0 + 1) + 1)).bind fun x7 => ((getI (((l0_2.set s0_1.toNat (GTask.mk s0_0 x2.split x2.in_ x2.out x2.clear x2.role x2.apart x2.all x2.need)).set s0_1.toNat (GTask.mk x4.join (s0_0 + 1) x4.in_ x4.out x4.clear x4.role x4.apart x4.all x4.need)).set s0_1.toNat (GTask.mk x6.join x6.split x7.2 x6.out x6.clear x6.role x6.apart x6.all x6.need)) s0_1).bind fun x8 => ((z0dn x8.out x7.1).bind fun x9 => ((getI ((((l0_2.set s0_1.toNat (GTask.mk s0_0 x2.split x2.in_ x2.out x2.clear x2.role x2.apart x2.all x2.need)).set s0_1.toNat (GTask.mk x4.join (s0_0 + 1) x4.in_ x4.out x4.clear x4.role x4.apart x4.all x4.need)).set s0_1.toNat (GTask.mk x6.join x6.split x7.2 x6.out x6.clear x6.role x6.apart x6.all x6.need)).set s0_1.toNat (GTask.mk x8.join x8.split x8.in_ x9.2 x8.clear x8.role x8.apart x8.all x8.need)) s0_1).bind fun x10 => ((z08w x10.clear x9.1).bind fun x11 => ((getI (((((l0_2.set s0_1.toNat (GTask.mk s0_0 x2.split x2.in_ x2.out x2.clear x2.role x2.apart x2.all x2.need)).set s0_1.toNat (GTask.mk x4.join (s0_0 + 1) x4.in_ x4.out x4.clear x4.role x4.apart x4.all x4.need)).set s0_1.toNat (GTask.mk x6.join x6.split x7.2 x6.out x6.clear x6.role x6.apart x6.all x6.need)).set s0_1.toNat (GTask.mk x8.join x8.split x8.in_ x9.2 x8.clear x8.role x8.apart x8.all x8.need)).set s0_1.toNat (GTask.mk x10.join x10.split x10.in_ x10.out x11.2 x10.role x10.apart x10.all x10.need)) s0_1).bind fun x12 => (gd (ok64 (x11.1 + 1)) ((getI ((((((l0_2.set s0_1.toNat (GTask.mk s0_0 x2.split x2.in_ x2.out x2.clear x2.role x2.apart x2.all x2.need)).set s0_1.toNat (GTask.mk x4.join (s0_0 + 1) x4.in_ x4.out x4.clear x4.role x4.apart x4.all x4.need)).set s0_1.toNat (GTask.mk x6.join x6.split x7.2 x6.out x6.clear x6.role x6.apart x6.all x6.need)).set s0_1.toNat (GTask.mk x8.join x8.split x8.in_ x9.2 x8.clear x8.role x8.apart x8.all x8.need)).set s0_1.toNat (GTask.mk x10.join x10.split x10.in_ x10.out x11.2 x10.role x10.apart x10.all x10.need)).set s0_1.toNat (GTask.mk x12.join x12.split x12.in_ x12.out x12.clear x11.1 x12.apart x12.all x12.need)) s0_1).bind fun x14 => (gd (ok64 ((x11.1 + 1) + 1)) ((getI (((((((l0_2.set s0_1.toNat (GTask.mk s0_0 x2.split x2.in_ x2.out x2.clear x2.role x2.apart x2.all x2.need)).set s0_1.toNat (GTask.mk x4.join (s0_0 + 1) x4.in_ x4.out x4.clear x4.role x4.apart x4.all x4.need)).set s0_1.toNat (GTask.mk x6.join x6.split x7.2 x6.out x6.clear x6.role x6.apart x6.all x6.need)).set s0_1.toNat (GTask.mk x8.join x8.split x8.in_ x9.2 x8.clear x8.role x8.apart x8.all x8.need)).set s0_1.toNat (GTask.mk x10.join x10.split x10.in_ x10.out x11.2 x10.role x10.apart x10.all x10.need)).set s0_1.toNat (GTask.mk x12.join x12.split x12.in_ x12.out x12.clear x11.1 x12.apart x12.all x12.need)).set s0_1.toNat (GTask.mk x14.join x14.split x14.in_ x14.out x14.clear x14.role (x11.1 + 1) x14.all x14.need)) s0_1).bind fun x16 => (gd (ok64 (((x11.1 + 1) + 1) + 1)) ((getI ((((((((l0_2.set s0_1.toNat (GTask.mk s0_0 x2.split x2.in_ x2.out x2.clear x2.role x2.apart x2.all x2.need)).set s0_1.toNat (GTask.mk x4.join (s0_0 + 1) x4.in_ x4.out x4.clear x4.role x4.apart x4.all x4.need)).set s0_1.toNat (GTask.mk x6.join x6.split x7.2 x6.out x6.clear x6.role x6.apart x6.all x6.need)).set s0_1.toNat (GTask.mk x8.join x8.split x8.in_ x9.2 x8.clear x8.role x8.apart x8.all x8.need)).set s0_1.toNat (GTask.mk x10.join x10.split x10.in_ x10.out x11.2 x10.role x10.apart x10.all x10.need)).set s0_1.toNat (GTask.mk x12.join x12.split x12.in_ x12.out x12.clear x11.1 x12.apart x12.all x12.need)).set s0_1.toNat (GTask.mk x14.join x14.split x14.in_ x14.out x14.clear x14.role (x11.1 + 1) x14.all x14.need)).set s0_1.toNat (GTask.mk x16.join x16.split x16.in_ x16.out x16.clear x16.role x16.apart ((x11.1 + 1) + 1) x16.need)) s0_1).bind fun x18 => (gd (ok64 ((((x11.1 + 1) + 1) + 1) + 1)) (gd (ok64 (s0_1 + 1)) ((z07a kx0_0 n0) ((((x11.1 + 1) + 1) + 1) + 1) (s0_1 + 1) (((((((((l0_2.set s0_1.toNat (GTask.mk s0_0 x2.split x2.in_ x2.out x2.clear x2.role x2.apart x2.all x2.need)).set s0_1.toNat (GTask.mk x4.join (s0_0 + 1) x4.in_ x4.out x4.clear x4.role x4.apart x4.all x4.need)).set s0_1.toNat (GTask.mk x6.join x6.split x7.2 x6.out x6.clear x6.role x6.apart x6.all x6.need)).set s0_1.toNat (GTask.mk x8.join x8.split x8.in_ x9.2 x8.clear x8.role x8.apart x8.all x8.need)).set s0_1.toNat (GTask.mk x10.join x10.split x10.in_ x10.out x11.2 x10.role x10.apart x10.all x10.need)).set s0_1.toNat (GTask.mk x12.join x12.split x12.in_ x12.out x12.clear x11.1 x12.apart x12.all x12.need)).set s0_1.toNat (GTask.mk x14.join x14.split x14.in_ x14.out x14.clear x14.role (x11.1 + 1) x14.all x14.need)).set s0_1.toNat (GTask.mk x16.join x16.split x16.in_ x16.out x16.clear x16.role x16.apart ((x11.1 + 1) + 1) x16.need)).set s0_1.toNat (GTask.mk x18.join x18.split x18.in_ x18.out x18.clear x18.role x18.apart x18.all (((x11.1 + 1) + 1) + 1))))))))))))))))))))))) else (kx0_0 s0_0 l0_2)
def z0do (a : List GTask) (k : Int) : Option (Int × (List GTask)) := z07a z137 FUEL k 0 a
def z03d : Con := ⟨114, [.v (.sl (.s .task)) true, .v .I false], [(.I, true)], [(0, .v (.sl (.s .task)) true)], fun x => z0do x.1 x.2.1⟩
def z1fh : Fs := ⟨[z05n, z03c], []⟩
theorem z0wd : z1fh.Ok Tryz.prog := (fsK z0o3 (fsK z1i3 fs0))
def z0or : Tmpl := ⟨[(0, .c (.ref 1000000)), (1, .c .i), (5, .c .i)], [(1000000, .arr (.s .task) true)]⟩
def z0kl : Tmpl := ⟨[(1, .c .i)], [(1000000, .arr (.s .task) true)]⟩
def z14b (av : AV) (x : HP z03d.ps) (n : Nat) (v : z0or.den) (K : Ks (CR z03d)) : Option (CR z03d) := z07a (fun s0_0 l0_2 => z0kl.at none ((s0_0, ()), (l0_2, ())) (K (.exit 0))) n v.1.2.1 v.1.2.2.1 v.2.1
def z0m9 (av : AV) (x : HP z03d.ps) : Hdl (CR z03d) := hnd [] z0or (z14b av x)
theorem z17a : LP z03d Tryz.f114 [0] z0m9 := lp_ok (W := []) (H := []) (xs := [z0kl]) z0wd trivial rfl (fun av x v K => by kernel_rfl) (fun av x n v K => by kernel_rfl)
theorem z1i4 : z03d.Ok Tryz.prog := fn_ok (k := z03d) (fn := Tryz.f114) (W := []) (H := [z0m9]) Tryz.func114 z0wd ⟨z17a, trivial⟩ rfl rfl (fun av x => by kernel_rfl)
def z133 (s0_0 : Int) : Option Int := some s0_0
def z075 (a : List GTask) (kx0_0 : Int → Option Int) : Nat → Int → Int → Option Int
  | 0, _, _ => none
  | n0 + 1, s0_0, s0_1 => if decide (s0_1 < (a.length : Int)) = true then ((getI a s0_1).bind fun x2 => (if decide (x2.join = s0_0) = true then (gd (ok64 (s0_0 + 1)) ((getI a s0_1).bind fun x5 => (if decide (x5.split = (s0_0 + 1)) = true then (gd (ok64 ((s0_0 + 1) + 1)) ((getI a s0_1).bind fun x8 => ((z0aa x8.in_ ((s0_0 + 1) + 1)).bind fun x9 => (if decide (x9 < 0) = true then (some (-1)) else ((getI a s0_1).bind fun x11 => ((z0dg x11.out x9).bind fun x12 => (if decide (x12 < 0) = true then (some (-1)) else ((getI a s0_1).bind fun x14 => ((z0aa x14.clear x12).bind fun x15 => (if decide (x15 < 0) = true then (some (-1)) else ((getI a s0_1).bind fun x17 => (if decide (x17.role = x15) = true then (gd (ok64 (x15 + 1)) ((getI a s0_1).bind fun x20 => (if decide (x20.apart = (x15 + 1)) = true then (gd (ok64 ((x15 + 1) + 1)) ((getI a s0_1).bind fun x23 => (if decide (x23.all = ((x15 + 1) + 1)) = true then (gd (ok64 (((x15 + 1) + 1) + 1)) ((getI a s0_1).bind fun x26 => (if decide (x26.need = (((x15 + 1) + 1) + 1)) = true then (gd (ok64 ((((x15 + 1) + 1) + 1) + 1)) (gd (ok64 (s0_1 + 1)) ((z075 a kx0_0 n0) ((((x15 + 1) + 1) + 1) + 1) (s0_1 + 1)))) else (some (-1))))) else (some (-1))))) else (some (-1))))) else (some (-1)))))))))))))) else (some (-1))))) else (some (-1)))) else (kx0_0 s0_0)
def z0dh (a : List GTask) (k : Int) : Option Int := z075 a z133 FUEL k 0
def z037 : Con := ⟨152, [.v (.sl (.s .task)) false, .v .I false], [(.I, true)], [], fun x => z0dh x.1 x.2.1⟩
def z1ex : Fs := ⟨[z072, z036], []⟩
theorem z0w4 : z1ex.Ok Tryz.prog := (fsK z0xv (fsK z1hl fs0))
def z0oh : Tmpl := ⟨[(0, .c (.s (.s .task))), (1, .c .i), (5, .c .i)], []⟩
def z0kb : Tmpl := ⟨[(1, .c .i)], []⟩
def z141 (av : AV) (x : HP z037.ps) (n : Nat) (v : z0oh.den) (K : Ks (CR z037)) : Option (CR z037) := z075 v.1.1 (fun s0_0 => z0kb.at none ((s0_0, ()), ()) (K (.exit 0))) n v.1.2.1 v.1.2.2.1
def z0lz (av : AV) (x : HP z037.ps) : Hdl (CR z037) := hnd [] z0oh (z141 av x)
theorem z170 : LP z037 Tryz.f152 [0] z0lz := lp_ok (W := []) (H := []) (xs := [z0kb]) z0w4 trivial rfl (fun av x v K => by kernel_rfl) (fun av x n v K => by kernel_rfl)
theorem z1hm : z037.Ok Tryz.prog := fn_ok (k := z037) (fn := Tryz.f152) (W := []) (H := [z0lz]) Tryz.func152 z0w4 ⟨z170, trivial⟩ rfl rfl (fun av x => by kernel_rfl)
def z183 (s0_0 : Int) (l0_2 : List GNet) : Option (Int × (List GNet)) := some (s0_0, l0_2)
def z08d (kx0_0 : Int → List GNet → Option (Int × (List GNet))) : Nat → Int → Int → List GNet → Option (Int × (List GNet))
  | 0, _, _, _ => none
  | n0 + 1, s0_0, s0_1, l0_2 => if decide (s0_1 < (l0_2.length : Int)) = true then ((getI l0_2 s0_1).bind fun x2 => (gd (ok64 (s0_0 + 1)) ((getI (l0_2.set s0_1.toNat (GNet.mk s0_0 x2.tasks)) s0_1).bind fun x4 => ((z0do x4.tasks (s0_0 + 1)).bind fun x5 => (gd (ok64 (s0_1 + 1)) ((z08d kx0_0 n0) x5.1 (s0_1 + 1) ((l0_2.set s0_1.toNat (GNet.mk s0_0 x2.tasks)).set s0_1.toNat (GNet.mk x4.places x5.2)))))))) else (kx0_0 s0_0 l0_2)
def z0fs (a : List GNet) (k : Int) : Option (Int × (List GNet)) := z08d z183 FUEL k 0 a
def z052 : Con := ⟨52, [.v (.sl (.s .net)) true, .v .I false], [(.I, true)], [(0, .v (.sl (.s .net)) true)], fun x => z0fs x.1 x.2.1⟩
def z1ka : Fs := ⟨[z03d], []⟩
theorem z10w : z1ka.Ok Tryz.prog := (fsK z1i4 fs0)
def z0ss : Tmpl := ⟨[(0, .c (.ref 1000000)), (1, .c .i), (5, .c .i)], [(1000000, .arr (.s .net) true)]⟩
def z0pl : Tmpl := ⟨[(1, .c .i)], [(1000000, .arr (.s .net) true)]⟩
def z1a2 (av : AV) (x : HP z052.ps) (n : Nat) (v : z0ss.den) (K : Ks (CR z052)) : Option (CR z052) := z08d (fun s0_0 l0_2 => z0pl.at none ((s0_0, ()), (l0_2, ())) (K (.exit 0))) n v.1.2.1 v.1.2.2.1 v.2.1
def z0r9 (av : AV) (x : HP z052.ps) : Hdl (CR z052) := hnd [] z0ss (z1a2 av x)
theorem z1bn : LP z052 Tryz.f52 [0] z0r9 := lp_ok (W := []) (H := []) (xs := [z0pl]) z10w trivial rfl (fun av x v K => by kernel_rfl) (fun av x n v K => by kernel_rfl)
theorem z1o9 : z052.Ok Tryz.prog := fn_ok (k := z052) (fn := Tryz.f52) (W := []) (H := [z0r9]) Tryz.func52 z10w ⟨z1bn, trivial⟩ rfl rfl (fun av x => by kernel_rfl)
def z17z (s0_0 : Int) : Option Int := some s0_0
def z086 (a : List GNet) (kx0_0 : Int → Option Int) : Nat → Int → Int → Option Int
  | 0, _, _ => none
  | n0 + 1, s0_0, s0_1 => if decide (s0_1 < (a.length : Int)) = true then ((getI a s0_1).bind fun x2 => (if decide (x2.places = s0_0) = true then (gd (ok64 (s0_0 + 1)) ((getI a s0_1).bind fun x5 => ((z0dh x5.tasks (s0_0 + 1)).bind fun x6 => (if decide (x6 < 0) = true then (some (-1)) else (gd (ok64 (s0_1 + 1)) ((z086 a kx0_0 n0) x6 (s0_1 + 1))))))) else (some (-1)))) else (kx0_0 s0_0)
def z0fg (a : List GNet) (k : Int) : Option Int := z086 a z17z FUEL k 0
def z04w : Con := ⟨74, [.v (.sl (.s .net)) false, .v .I false], [(.I, true)], [], fun x => z0fg x.1 x.2.1⟩
def z1jv : Fs := ⟨[z037], []⟩
theorem z10q : z1jv.Ok Tryz.prog := (fsK z1hm fs0)
def z0sm : Tmpl := ⟨[(0, .c (.s (.s .net))), (1, .c .i), (5, .c .i)], []⟩
def z0pe : Tmpl := ⟨[(1, .c .i)], []⟩
def z19w (av : AV) (x : HP z04w.ps) (n : Nat) (v : z0sm.den) (K : Ks (CR z04w)) : Option (CR z04w) := z086 v.1.1 (fun s0_0 => z0pe.at none ((s0_0, ()), ()) (K (.exit 0))) n v.1.2.1 v.1.2.2.1
def z0r3 (av : AV) (x : HP z04w.ps) : Hdl (CR z04w) := hnd [] z0sm (z19w av x)
theorem z1bh : LP z04w Tryz.f74 [0] z0r3 := lp_ok (W := []) (H := []) (xs := [z0pe]) z10q trivial rfl (fun av x v K => by kernel_rfl) (fun av x n v K => by kernel_rfl)
theorem z1nu : z04w.Ok Tryz.prog := fn_ok (k := z04w) (fn := Tryz.f74) (W := []) (H := [z0r3]) Tryz.func74 z10q ⟨z1bh, trivial⟩ rfl rfl (fun av x => by kernel_rfl)
def z138 (s0_0 : Int) (l0_2 : List GNode) : Option (Int × (List GNode)) := some (s0_0, l0_2)
def z07b (kx0_0 : Int → List GNode → Option (Int × (List GNode))) : Nat → Int → Int → List GNode → Option (Int × (List GNode))
  | 0, _, _, _ => none
  | n0 + 1, s0_0, s0_1, l0_2 => if decide (s0_1 < (l0_2.length : Int)) = true then ((getI l0_2 s0_1).bind fun x2 => (gd (ok64 (s0_0 + 1)) ((getI (l0_2.set s0_1.toNat (GNode.mk (GAsk.mk s0_0 x2.if_.var x2.if_.k) x2.yes x2.no x2.ans x2.stone)) s0_1).bind fun x4 => (gd (ok64 ((s0_0 + 1) + 1)) ((getI ((l0_2.set s0_1.toNat (GNode.mk (GAsk.mk s0_0 x2.if_.var x2.if_.k) x2.yes x2.no x2.ans x2.stone)).set s0_1.toNat (GNode.mk (GAsk.mk x4.if_.op (s0_0 + 1) x4.if_.k) x4.yes x4.no x4.ans x4.stone)) s0_1).bind fun x6 => (gd (ok64 (((s0_0 + 1) + 1) + 1)) ((getI (((l0_2.set s0_1.toNat (GNode.mk (GAsk.mk s0_0 x2.if_.var x2.if_.k) x2.yes x2.no x2.ans x2.stone)).set s0_1.toNat (GNode.mk (GAsk.mk x4.if_.op (s0_0 + 1) x4.if_.k) x4.yes x4.no x4.ans x4.stone)).set s0_1.toNat (GNode.mk (GAsk.mk x6.if_.op x6.if_.var ((s0_0 + 1) + 1)) x6.yes x6.no x6.ans x6.stone)) s0_1).bind fun x8 => (gd (ok64 ((((s0_0 + 1) + 1) + 1) + 1)) ((getI ((((l0_2.set s0_1.toNat (GNode.mk (GAsk.mk s0_0 x2.if_.var x2.if_.k) x2.yes x2.no x2.ans x2.stone)).set s0_1.toNat (GNode.mk (GAsk.mk x4.if_.op (s0_0 + 1) x4.if_.k) x4.yes x4.no x4.ans x4.stone)).set s0_1.toNat (GNode.mk (GAsk.mk x6.if_.op x6.if_.var ((s0_0 + 1) + 1)) x6.yes x6.no x6.ans x6.stone)).set s0_1.toNat (GNode.mk x8.if_ (((s0_0 + 1) + 1) + 1) x8.no x8.ans x8.stone)) s0_1).bind fun x10 => (gd (ok64 (((((s0_0 + 1) + 1) + 1) + 1) + 1)) ((getI (((((l0_2.set s0_1.toNat (GNode.mk (GAsk.mk s0_0 x2.if_.var x2.if_.k) x2.yes x2.no x2.ans x2.stone)).set s0_1.toNat (GNode.mk (GAsk.mk x4.if_.op (s0_0 + 1) x4.if_.k) x4.yes x4.no x4.ans x4.stone)).set s0_1.toNat (GNode.mk (GAsk.mk x6.if_.op x6.if_.var ((s0_0 + 1) + 1)) x6.yes x6.no x6.ans x6.stone)).set s0_1.toNat (GNode.mk x8.if_ (((s0_0 + 1) + 1) + 1) x8.no x8.ans x8.stone)).set s0_1.toNat (GNode.mk x10.if_ x10.yes ((((s0_0 + 1) + 1) + 1) + 1) x10.ans x10.stone)) s0_1).bind fun x12 => (gd (ok64 ((((((s0_0 + 1) + 1) + 1) + 1) + 1) + 1)) ((getI ((((((l0_2.set s0_1.toNat (GNode.mk (GAsk.mk s0_0 x2.if_.var x2.if_.k) x2.yes x2.no x2.ans x2.stone)).set s0_1.toNat (GNode.mk (GAsk.mk x4.if_.op (s0_0 + 1) x4.if_.k) x4.yes x4.no x4.ans x4.stone)).set s0_1.toNat (GNode.mk (GAsk.mk x6.if_.op x6.if_.var ((s0_0 + 1) + 1)) x6.yes x6.no x6.ans x6.stone)).set s0_1.toNat (GNode.mk x8.if_ (((s0_0 + 1) + 1) + 1) x8.no x8.ans x8.stone)).set s0_1.toNat (GNode.mk x10.if_ x10.yes ((((s0_0 + 1) + 1) + 1) + 1) x10.ans x10.stone)).set s0_1.toNat (GNode.mk x12.if_ x12.yes x12.no (((((s0_0 + 1) + 1) + 1) + 1) + 1) x12.stone)) s0_1).bind fun x14 => ((z08w x14.stone ((((((s0_0 + 1) + 1) + 1) + 1) + 1) + 1)).bind fun x15 => (gd (ok64 (s0_1 + 1)) ((z07b kx0_0 n0) x15.1 (s0_1 + 1) (((((((l0_2.set s0_1.toNat (GNode.mk (GAsk.mk s0_0 x2.if_.var x2.if_.k) x2.yes x2.no x2.ans x2.stone)).set s0_1.toNat (GNode.mk (GAsk.mk x4.if_.op (s0_0 + 1) x4.if_.k) x4.yes x4.no x4.ans x4.stone)).set s0_1.toNat (GNode.mk (GAsk.mk x6.if_.op x6.if_.var ((s0_0 + 1) + 1)) x6.yes x6.no x6.ans x6.stone)).set s0_1.toNat (GNode.mk x8.if_ (((s0_0 + 1) + 1) + 1) x8.no x8.ans x8.stone)).set s0_1.toNat (GNode.mk x10.if_ x10.yes ((((s0_0 + 1) + 1) + 1) + 1) x10.ans x10.stone)).set s0_1.toNat (GNode.mk x12.if_ x12.yes x12.no (((((s0_0 + 1) + 1) + 1) + 1) + 1) x12.stone)).set s0_1.toNat (GNode.mk x14.if_ x14.yes x14.no x14.ans x15.2)))))))))))))))))) else (kx0_0 s0_0 l0_2)
def z0dp (a : List GNode) (k : Int) : Option (Int × (List GNode)) := z07b z138 FUEL k 0 a
def z03e : Con := ⟨72, [.v (.sl (.s .node)) true, .v .I false], [(.I, true)], [(0, .v (.sl (.s .node)) true)], fun x => z0dp x.1 x.2.1⟩
def z1fi : Fs := ⟨[z05n], []⟩
theorem z0we : z1fi.Ok Tryz.prog := (fsK z0o3 fs0)
def z0os : Tmpl := ⟨[(0, .c (.ref 1000000)), (1, .c .i), (5, .c .i)], [(1000000, .arr (.s .node) true)]⟩
def z0km : Tmpl := ⟨[(1, .c .i)], [(1000000, .arr (.s .node) true)]⟩
def z14c (av : AV) (x : HP z03e.ps) (n : Nat) (v : z0os.den) (K : Ks (CR z03e)) : Option (CR z03e) := z07b (fun s0_0 l0_2 => z0km.at none ((s0_0, ()), (l0_2, ())) (K (.exit 0))) n v.1.2.1 v.1.2.2.1 v.2.1
def z0ma (av : AV) (x : HP z03e.ps) : Hdl (CR z03e) := hnd [] z0os (z14c av x)
theorem z17b : LP z03e Tryz.f72 [0] z0ma := lp_ok (W := []) (H := []) (xs := [z0km]) z0we trivial rfl (fun av x v K => by kernel_rfl) (fun av x n v K => by kernel_rfl)
theorem z1i5 : z03e.Ok Tryz.prog := fn_ok (k := z03e) (fn := Tryz.f72) (W := []) (H := [z0ma]) Tryz.func72 z0we ⟨z17b, trivial⟩ rfl rfl (fun av x => by kernel_rfl)
def z134 (s0_0 : Int) : Option Int := some s0_0
def z076 (a : List GNode) (kx0_0 : Int → Option Int) : Nat → Int → Int → Option Int
  | 0, _, _ => none
  | n0 + 1, s0_0, s0_1 => if decide (s0_1 < (a.length : Int)) = true then ((getI a s0_1).bind fun x2 => (if decide (x2.if_.op = s0_0) = true then (gd (ok64 (s0_0 + 1)) ((getI a s0_1).bind fun x5 => (if decide (x5.if_.var = (s0_0 + 1)) = true then (gd (ok64 ((s0_0 + 1) + 1)) ((getI a s0_1).bind fun x8 => (if decide (x8.if_.k = ((s0_0 + 1) + 1)) = true then (gd (ok64 (((s0_0 + 1) + 1) + 1)) ((getI a s0_1).bind fun x11 => (if decide (x11.yes = (((s0_0 + 1) + 1) + 1)) = true then (gd (ok64 ((((s0_0 + 1) + 1) + 1) + 1)) ((getI a s0_1).bind fun x14 => (if decide (x14.no = ((((s0_0 + 1) + 1) + 1) + 1)) = true then (gd (ok64 (((((s0_0 + 1) + 1) + 1) + 1) + 1)) ((getI a s0_1).bind fun x17 => (if decide (x17.ans = (((((s0_0 + 1) + 1) + 1) + 1) + 1)) = true then (gd (ok64 ((((((s0_0 + 1) + 1) + 1) + 1) + 1) + 1)) ((getI a s0_1).bind fun x20 => ((z0aa x20.stone ((((((s0_0 + 1) + 1) + 1) + 1) + 1) + 1)).bind fun x21 => (if decide (x21 < 0) = true then (some (-1)) else (gd (ok64 (s0_1 + 1)) ((z076 a kx0_0 n0) x21 (s0_1 + 1))))))) else (some (-1))))) else (some (-1))))) else (some (-1))))) else (some (-1))))) else (some (-1))))) else (some (-1)))) else (kx0_0 s0_0)
def z0di (a : List GNode) (k : Int) : Option Int := z076 a z134 FUEL k 0
def z038 : Con := ⟨76, [.v (.sl (.s .node)) false, .v .I false], [(.I, true)], [], fun x => z0di x.1 x.2.1⟩
def z1ey : Fs := ⟨[z072], []⟩
theorem z0w5 : z1ey.Ok Tryz.prog := (fsK z0xv fs0)
def z0oi : Tmpl := ⟨[(0, .c (.s (.s .node))), (1, .c .i), (5, .c .i)], []⟩
def z0kc : Tmpl := ⟨[(1, .c .i)], []⟩
def z142 (av : AV) (x : HP z038.ps) (n : Nat) (v : z0oi.den) (K : Ks (CR z038)) : Option (CR z038) := z076 v.1.1 (fun s0_0 => z0kc.at none ((s0_0, ()), ()) (K (.exit 0))) n v.1.2.1 v.1.2.2.1
def z0m0 (av : AV) (x : HP z038.ps) : Hdl (CR z038) := hnd [] z0oi (z142 av x)
theorem z171 : LP z038 Tryz.f76 [0] z0m0 := lp_ok (W := []) (H := []) (xs := [z0kc]) z0w5 trivial rfl (fun av x v K => by kernel_rfl) (fun av x n v K => by kernel_rfl)
theorem z1hn : z038.Ok Tryz.prog := fn_ok (k := z038) (fn := Tryz.f76) (W := []) (H := [z0m0]) Tryz.func76 z0w5 ⟨z171, trivial⟩ rfl rfl (fun av x => by kernel_rfl)
def z135 (s0_0 : Int) (l0_2 : List GItem) : Option (Int × (List GItem)) := some (s0_0, l0_2)
def z078 (kx0_0 : Int → List GItem → Option (Int × (List GItem))) : Nat → Int → Int → List GItem → Option (Int × (List GItem))
  | 0, _, _, _ => none
  | n0 + 1, s0_0, s0_1, l0_2 => if decide (s0_1 < (l0_2.length : Int)) = true then ((getI l0_2 s0_1).bind fun x2 => (gd (ok64 (s0_0 + 1)) ((getI (l0_2.set s0_1.toNat (GItem.mk s0_0 x2.who x2.did)) s0_1).bind fun x4 => (gd (ok64 ((s0_0 + 1) + 1)) ((getI ((l0_2.set s0_1.toNat (GItem.mk s0_0 x2.who x2.did)).set s0_1.toNat (GItem.mk x4.task (s0_0 + 1) x4.did)) s0_1).bind fun x6 => (gd (ok64 (((s0_0 + 1) + 1) + 1)) (gd (ok64 (s0_1 + 1)) ((z078 kx0_0 n0) (((s0_0 + 1) + 1) + 1) (s0_1 + 1) (((l0_2.set s0_1.toNat (GItem.mk s0_0 x2.who x2.did)).set s0_1.toNat (GItem.mk x4.task (s0_0 + 1) x4.did)).set s0_1.toNat (GItem.mk x6.task x6.who ((s0_0 + 1) + 1))))))))))) else (kx0_0 s0_0 l0_2)
def z0dm (a : List GItem) (k : Int) : Option (Int × (List GItem)) := z078 z135 FUEL k 0 a
def z03b : Con := ⟨115, [.v (.sl (.s .item)) true, .v .I false], [(.I, true)], [(0, .v (.sl (.s .item)) true)], fun x => z0dm x.1 x.2.1⟩
def z1fe : Fs := ⟨[], []⟩
theorem z0wb : z1fe.Ok Tryz.prog := fs0
def z0op : Tmpl := ⟨[(0, .c (.ref 1000000)), (1, .c .i), (5, .c .i)], [(1000000, .arr (.s .item) true)]⟩
def z0kj : Tmpl := ⟨[(1, .c .i)], [(1000000, .arr (.s .item) true)]⟩
def z149 (av : AV) (x : HP z03b.ps) (n : Nat) (v : z0op.den) (K : Ks (CR z03b)) : Option (CR z03b) := z078 (fun s0_0 l0_2 => z0kj.at none ((s0_0, ()), (l0_2, ())) (K (.exit 0))) n v.1.2.1 v.1.2.2.1 v.2.1
def z0m7 (av : AV) (x : HP z03b.ps) : Hdl (CR z03b) := hnd [] z0op (z149 av x)
theorem z178 : LP z03b Tryz.f115 [0] z0m7 := lp_ok (W := []) (H := []) (xs := [z0kj]) z0wb trivial rfl (fun av x v K => by kernel_rfl) (fun av x n v K => by kernel_rfl)
theorem z1i1 : z03b.Ok Tryz.prog := fn_ok (k := z03b) (fn := Tryz.f115) (W := []) (H := [z0m7]) Tryz.func115 z0wb ⟨z178, trivial⟩ rfl rfl (fun av x => by kernel_rfl)
def z131 (s0_0 : Int) : Option Int := some s0_0
def z073 (a : List GItem) (kx0_0 : Int → Option Int) : Nat → Int → Int → Option Int
  | 0, _, _ => none
  | n0 + 1, s0_0, s0_1 => if decide (s0_1 < (a.length : Int)) = true then ((getI a s0_1).bind fun x2 => (if decide (x2.task = s0_0) = true then (gd (ok64 (s0_0 + 1)) ((getI a s0_1).bind fun x5 => (if decide (x5.who = (s0_0 + 1)) = true then (gd (ok64 ((s0_0 + 1) + 1)) ((getI a s0_1).bind fun x8 => (if decide (x8.did = ((s0_0 + 1) + 1)) = true then (gd (ok64 (((s0_0 + 1) + 1) + 1)) (gd (ok64 (s0_1 + 1)) ((z073 a kx0_0 n0) (((s0_0 + 1) + 1) + 1) (s0_1 + 1)))) else (some (-1))))) else (some (-1))))) else (some (-1)))) else (kx0_0 s0_0)
def z0df (a : List GItem) (k : Int) : Option Int := z073 a z131 FUEL k 0
def z035 : Con := ⟨117, [.v (.sl (.s .item)) false, .v .I false], [(.I, true)], [], fun x => z0df x.1 x.2.1⟩
def z1eu : Fs := ⟨[], []⟩
theorem z0w2 : z1eu.Ok Tryz.prog := fs0
def z0of : Tmpl := ⟨[(0, .c (.s (.s .item))), (1, .c .i), (5, .c .i)], []⟩
def z0k9 : Tmpl := ⟨[(1, .c .i)], []⟩
def z13z (av : AV) (x : HP z035.ps) (n : Nat) (v : z0of.den) (K : Ks (CR z035)) : Option (CR z035) := z073 v.1.1 (fun s0_0 => z0k9.at none ((s0_0, ()), ()) (K (.exit 0))) n v.1.2.1 v.1.2.2.1
def z0lx (av : AV) (x : HP z035.ps) : Hdl (CR z035) := hnd [] z0of (z13z av x)
theorem z16y : LP z035 Tryz.f117 [0] z0lx := lp_ok (W := []) (H := []) (xs := [z0k9]) z0w2 trivial rfl (fun av x v K => by kernel_rfl) (fun av x n v K => by kernel_rfl)
theorem z1hj : z035.Ok Tryz.prog := fn_ok (k := z035) (fn := Tryz.f117) (W := []) (H := [z0lx]) Tryz.func117 z0w2 ⟨z16y, trivial⟩ rfl rfl (fun av x => by kernel_rfl)
def z180 (s0_0 : Int) (l0_2 : List GDid) : Option (Int × (List GDid)) := some (s0_0, l0_2)
def z08a (kx0_0 : Int → List GDid → Option (Int × (List GDid))) : Nat → Int → Int → List GDid → Option (Int × (List GDid))
  | 0, _, _, _ => none
  | n0 + 1, s0_0, s0_1, l0_2 => if decide (s0_1 < (l0_2.length : Int)) = true then ((getI l0_2 s0_1).bind fun x2 => (gd (ok64 (s0_0 + 1)) ((getI (l0_2.set s0_1.toNat (GDid.mk s0_0 x2.who)) s0_1).bind fun x4 => (gd (ok64 ((s0_0 + 1) + 1)) (gd (ok64 (s0_1 + 1)) ((z08a kx0_0 n0) ((s0_0 + 1) + 1) (s0_1 + 1) ((l0_2.set s0_1.toNat (GDid.mk s0_0 x2.who)).set s0_1.toNat (GDid.mk x4.task (s0_0 + 1))))))))) else (kx0_0 s0_0 l0_2)
def z0fp (a : List GDid) (k : Int) : Option (Int × (List GDid)) := z08a z180 FUEL k 0 a
def z04z : Con := ⟨116, [.v (.sl (.s .did)) true, .v .I false], [(.I, true)], [(0, .v (.sl (.s .did)) true)], fun x => z0fp x.1 x.2.1⟩
def z1k7 : Fs := ⟨[], []⟩
theorem z10t : z1k7.Ok Tryz.prog := fs0
def z0sp : Tmpl := ⟨[(0, .c (.ref 1000000)), (1, .c .i), (5, .c .i)], [(1000000, .arr (.s .did) true)]⟩
def z0pi : Tmpl := ⟨[(1, .c .i)], [(1000000, .arr (.s .did) true)]⟩
def z19z (av : AV) (x : HP z04z.ps) (n : Nat) (v : z0sp.den) (K : Ks (CR z04z)) : Option (CR z04z) := z08a (fun s0_0 l0_2 => z0pi.at none ((s0_0, ()), (l0_2, ())) (K (.exit 0))) n v.1.2.1 v.1.2.2.1 v.2.1
def z0r6 (av : AV) (x : HP z04z.ps) : Hdl (CR z04z) := hnd [] z0sp (z19z av x)
theorem z1bk : LP z04z Tryz.f116 [0] z0r6 := lp_ok (W := []) (H := []) (xs := [z0pi]) z10t trivial rfl (fun av x v K => by kernel_rfl) (fun av x n v K => by kernel_rfl)
theorem z1o6 : z04z.Ok Tryz.prog := fn_ok (k := z04z) (fn := Tryz.f116) (W := []) (H := [z0r6]) Tryz.func116 z10t ⟨z1bk, trivial⟩ rfl rfl (fun av x => by kernel_rfl)
def z17x (s0_0 : Int) : Option Int := some s0_0
def z084 (a : List GDid) (kx0_0 : Int → Option Int) : Nat → Int → Int → Option Int
  | 0, _, _ => none
  | n0 + 1, s0_0, s0_1 => if decide (s0_1 < (a.length : Int)) = true then ((getI a s0_1).bind fun x2 => (if decide (x2.task = s0_0) = true then (gd (ok64 (s0_0 + 1)) ((getI a s0_1).bind fun x5 => (if decide (x5.who = (s0_0 + 1)) = true then (gd (ok64 ((s0_0 + 1) + 1)) (gd (ok64 (s0_1 + 1)) ((z084 a kx0_0 n0) ((s0_0 + 1) + 1) (s0_1 + 1)))) else (some (-1))))) else (some (-1)))) else (kx0_0 s0_0)
def z0fe (a : List GDid) (k : Int) : Option Int := z084 a z17x FUEL k 0
def z04u : Con := ⟨118, [.v (.sl (.s .did)) false, .v .I false], [(.I, true)], [], fun x => z0fe x.1 x.2.1⟩
def z1jt : Fs := ⟨[], []⟩
theorem z10o : z1jt.Ok Tryz.prog := fs0
def z0sk : Tmpl := ⟨[(0, .c (.s (.s .did))), (1, .c .i), (5, .c .i)], []⟩
def z0pc : Tmpl := ⟨[(1, .c .i)], []⟩
def z19u (av : AV) (x : HP z04u.ps) (n : Nat) (v : z0sk.den) (K : Ks (CR z04u)) : Option (CR z04u) := z084 v.1.1 (fun s0_0 => z0pc.at none ((s0_0, ()), ()) (K (.exit 0))) n v.1.2.1 v.1.2.2.1
def z0r1 (av : AV) (x : HP z04u.ps) : Hdl (CR z04u) := hnd [] z0sk (z19u av x)
theorem z1bf : LP z04u Tryz.f118 [0] z0r1 := lp_ok (W := []) (H := []) (xs := [z0pc]) z10o trivial rfl (fun av x v K => by kernel_rfl) (fun av x n v K => by kernel_rfl)
theorem z1ns : z04u.Ok Tryz.prog := fn_ok (k := z04u) (fn := Tryz.f118) (W := []) (H := [z0r1]) Tryz.func118 z10o ⟨z1bf, trivial⟩ rfl rfl (fun av x => by kernel_rfl)
def z182 (s0_0 : Int) (l0_2 : List GRun) : Option (Int × (List GRun)) := some (s0_0, l0_2)
def z08c (kx0_0 : Int → List GRun → Option (Int × (List GRun))) : Nat → Int → Int → List GRun → Option (Int × (List GRun))
  | 0, _, _, _ => none
  | n0 + 1, s0_0, s0_1, l0_2 => if decide (s0_1 < (l0_2.length : Int)) = true then ((getI l0_2 s0_1).bind fun x2 => (gd (ok64 (s0_0 + 1)) ((getI (l0_2.set s0_1.toNat (GRun.mk s0_0 x2.case)) s0_1).bind fun x4 => (gd (ok64 ((s0_0 + 1) + 1)) ((getI ((l0_2.set s0_1.toNat (GRun.mk s0_0 x2.case)).set s0_1.toNat (GRun.mk x4.net (GCase.mk (s0_0 + 1) x4.case.marks x4.case.busy x4.case.data x4.case.did))) s0_1).bind fun x6 => ((z08w x6.case.marks ((s0_0 + 1) + 1)).bind fun x7 => ((getI (((l0_2.set s0_1.toNat (GRun.mk s0_0 x2.case)).set s0_1.toNat (GRun.mk x4.net (GCase.mk (s0_0 + 1) x4.case.marks x4.case.busy x4.case.data x4.case.did))).set s0_1.toNat (GRun.mk x6.net (GCase.mk x6.case.state x7.2 x6.case.busy x6.case.data x6.case.did))) s0_1).bind fun x8 => ((z0dm x8.case.busy x7.1).bind fun x9 => ((getI ((((l0_2.set s0_1.toNat (GRun.mk s0_0 x2.case)).set s0_1.toNat (GRun.mk x4.net (GCase.mk (s0_0 + 1) x4.case.marks x4.case.busy x4.case.data x4.case.did))).set s0_1.toNat (GRun.mk x6.net (GCase.mk x6.case.state x7.2 x6.case.busy x6.case.data x6.case.did))).set s0_1.toNat (GRun.mk x8.net (GCase.mk x8.case.state x8.case.marks x9.2 x8.case.data x8.case.did))) s0_1).bind fun x10 => ((z08w x10.case.data x9.1).bind fun x11 => ((getI (((((l0_2.set s0_1.toNat (GRun.mk s0_0 x2.case)).set s0_1.toNat (GRun.mk x4.net (GCase.mk (s0_0 + 1) x4.case.marks x4.case.busy x4.case.data x4.case.did))).set s0_1.toNat (GRun.mk x6.net (GCase.mk x6.case.state x7.2 x6.case.busy x6.case.data x6.case.did))).set s0_1.toNat (GRun.mk x8.net (GCase.mk x8.case.state x8.case.marks x9.2 x8.case.data x8.case.did))).set s0_1.toNat (GRun.mk x10.net (GCase.mk x10.case.state x10.case.marks x10.case.busy x11.2 x10.case.did))) s0_1).bind fun x12 => ((z0fp x12.case.did x11.1).bind fun x13 => (gd (ok64 (s0_1 + 1)) ((z08c kx0_0 n0) x13.1 (s0_1 + 1) ((((((l0_2.set s0_1.toNat (GRun.mk s0_0 x2.case)).set s0_1.toNat (GRun.mk x4.net (GCase.mk (s0_0 + 1) x4.case.marks x4.case.busy x4.case.data x4.case.did))).set s0_1.toNat (GRun.mk x6.net (GCase.mk x6.case.state x7.2 x6.case.busy x6.case.data x6.case.did))).set s0_1.toNat (GRun.mk x8.net (GCase.mk x8.case.state x8.case.marks x9.2 x8.case.data x8.case.did))).set s0_1.toNat (GRun.mk x10.net (GCase.mk x10.case.state x10.case.marks x10.case.busy x11.2 x10.case.did))).set s0_1.toNat (GRun.mk x12.net (GCase.mk x12.case.state x12.case.marks x12.case.busy x12.case.data x13.2))))))))))))))))) else (kx0_0 s0_0 l0_2)
def z0fr (a : List GRun) (k : Int) : Option (Int × (List GRun)) := z08c z182 FUEL k 0 a
def z051 : Con := ⟨73, [.v (.sl (.s .run)) true, .v .I false], [(.I, true)], [(0, .v (.sl (.s .run)) true)], fun x => z0fr x.1 x.2.1⟩
def z1k9 : Fs := ⟨[z05n, z03b, z04z], []⟩
theorem z10v : z1k9.Ok Tryz.prog := (fsK z0o3 (fsK z1i1 (fsK z1o6 fs0)))
def z0sr : Tmpl := ⟨[(0, .c (.ref 1000000)), (1, .c .i), (5, .c .i)], [(1000000, .arr (.s .run) true)]⟩
def z0pk : Tmpl := ⟨[(1, .c .i)], [(1000000, .arr (.s .run) true)]⟩
def z1a1 (av : AV) (x : HP z051.ps) (n : Nat) (v : z0sr.den) (K : Ks (CR z051)) : Option (CR z051) := z08c (fun s0_0 l0_2 => z0pk.at none ((s0_0, ()), (l0_2, ())) (K (.exit 0))) n v.1.2.1 v.1.2.2.1 v.2.1
def z0r8 (av : AV) (x : HP z051.ps) : Hdl (CR z051) := hnd [] z0sr (z1a1 av x)
theorem z1bm : LP z051 Tryz.f73 [0] z0r8 := lp_ok (W := []) (H := []) (xs := [z0pk]) z10v trivial rfl (fun av x v K => by kernel_rfl) (fun av x n v K => by kernel_rfl)
theorem z1o8 : z051.Ok Tryz.prog := fn_ok (k := z051) (fn := Tryz.f73) (W := []) (H := [z0r8]) Tryz.func73 z10v ⟨z1bm, trivial⟩ rfl rfl (fun av x => by kernel_rfl)
def z17y (s0_0 : Int) : Option Int := some s0_0
def z085 (a : List GRun) (kx0_0 : Int → Option Int) : Nat → Int → Int → Option Int
  | 0, _, _ => none
  | n0 + 1, s0_0, s0_1 => if decide (s0_1 < (a.length : Int)) = true then ((getI a s0_1).bind fun x2 => (if decide (x2.net = s0_0) = true then (gd (ok64 (s0_0 + 1)) ((getI a s0_1).bind fun x5 => (if decide (x5.case.state = (s0_0 + 1)) = true then (gd (ok64 ((s0_0 + 1) + 1)) ((getI a s0_1).bind fun x8 => ((z0aa x8.case.marks ((s0_0 + 1) + 1)).bind fun x9 => (if decide (x9 < 0) = true then (some (-1)) else ((getI a s0_1).bind fun x11 => ((z0df x11.case.busy x9).bind fun x12 => (if decide (x12 < 0) = true then (some (-1)) else ((getI a s0_1).bind fun x14 => ((z0aa x14.case.data x12).bind fun x15 => (if decide (x15 < 0) = true then (some (-1)) else ((getI a s0_1).bind fun x17 => ((z0fe x17.case.did x15).bind fun x18 => (if decide (x18 < 0) = true then (some (-1)) else (gd (ok64 (s0_1 + 1)) ((z085 a kx0_0 n0) x18 (s0_1 + 1)))))))))))))))) else (some (-1))))) else (some (-1)))) else (kx0_0 s0_0)
def z0ff (a : List GRun) (k : Int) : Option Int := z085 a z17y FUEL k 0
def z04v : Con := ⟨77, [.v (.sl (.s .run)) false, .v .I false], [(.I, true)], [], fun x => z0ff x.1 x.2.1⟩
def z1ju : Fs := ⟨[z072, z035, z04u], []⟩
theorem z10p : z1ju.Ok Tryz.prog := (fsK z0xv (fsK z1hj (fsK z1ns fs0)))
def z0sl : Tmpl := ⟨[(0, .c (.s (.s .run))), (1, .c .i), (5, .c .i)], []⟩
def z0pd : Tmpl := ⟨[(1, .c .i)], []⟩
def z19v (av : AV) (x : HP z04v.ps) (n : Nat) (v : z0sl.den) (K : Ks (CR z04v)) : Option (CR z04v) := z085 v.1.1 (fun s0_0 => z0pd.at none ((s0_0, ()), ()) (K (.exit 0))) n v.1.2.1 v.1.2.2.1
def z0r2 (av : AV) (x : HP z04v.ps) : Hdl (CR z04v) := hnd [] z0sl (z19v av x)
theorem z1bg : LP z04v Tryz.f77 [0] z0r2 := lp_ok (W := []) (H := []) (xs := [z0pd]) z10p trivial rfl (fun av x v K => by kernel_rfl) (fun av x n v K => by kernel_rfl)
theorem z1nt : z04v.Ok Tryz.prog := fn_ok (k := z04v) (fn := Tryz.f77) (W := []) (H := [z0r2]) Tryz.func77 z10p ⟨z1bg, trivial⟩ rfl rfl (fun av x => by kernel_rfl)
end
end Go.Am
