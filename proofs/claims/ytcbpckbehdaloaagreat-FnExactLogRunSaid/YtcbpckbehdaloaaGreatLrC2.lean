/- Mirrors and contracts, printed. Own work. -/
import Derived.Test.YtcbpckbehdaloaaGreatLrC1
set_option linter.unusedSimpArgs false
set_option maxRecDepth 100000
set_option maxHeartbeats 4000000
set_option linter.unusedVariables false
namespace Go.Am
noncomputable section
open Go Go.Proofs
def z0ew (l0_1 : List GNode) : Option (List GNode) := some l0_1
def z060 (tree : List GNode) (kx0_0 : List GNode → Option (List GNode)) : Nat → Int → List GNode → Option (List GNode)
  | 0, _, _ => none
  | n0 + 1, s0_0, l0_1 => if decide (s0_0 < (tree.length : Int)) = true then ((getI tree s0_0).bind fun x2 => (gd (([] : List Int).length + x2.stone.length ≤ SMALL) (gd (l0_1.length + [(GNode.mk x2.if_ x2.yes x2.no x2.ans (([] : List Int) ++ x2.stone))].length ≤ SMALL) (gd (ok64 (s0_0 + 1)) ((z060 tree kx0_0 n0) (s0_0 + 1) (l0_1 ++ [(GNode.mk x2.if_ x2.yes x2.no x2.ans (([] : List Int) ++ x2.stone))])))))) else (kx0_0 l0_1)
def z0ch (tree : List GNode) : Option (List GNode) := z060 tree z0ew FUEL 0 ([] : List GNode)
def z03o : Con := ⟨134, [.v (.sl (.s .node)) false], [((.sl (.s .node)), true)], [], fun x => z0ch x.1⟩
def z1pi : Fs := ⟨[], []⟩
theorem z10y : z1pi.Ok Tryz.prog := fs0
def z0t2 : Tmpl := ⟨[(0, .c (.s (.s .node))), (3, .c (.ref 6)), (4, .c .i)], [(6, .arr (.s .node) true)]⟩
def z0mv : Tmpl := ⟨[(3, .c (.ref 6))], [(6, .arr (.s .node) true)]⟩
def z1cg (av : AV) (x : HP z03o.ps) (n : Nat) (v : z0t2.den) (K : Ks (CR z03o)) : Option (CR z03o) := z060 v.1.1 (fun l0_1 => z0mv.at none (((), ()), (l0_1, ())) (K (.exit 0))) n v.1.2.2.1 v.2.1
def z0ry (av : AV) (x : HP z03o.ps) : Hdl (CR z03o) := hnd [] z0t2 (z1cg av x)
theorem z1aw : LP z03o Tryz.f134 [0] z0ry := lp_ok (W := []) (H := []) (xs := [z0mv]) z10y trivial rfl (fun av x v K => by kernel_rfl) (fun av x n v K => by kernel_rfl)
theorem z128 : z03o.Ok Tryz.prog := fn_ok (k := z03o) (fn := Tryz.f134) (W := []) (H := [z0ry]) Tryz.func134 z10y ⟨z1aw, trivial⟩ rfl rfl (fun av x => by kernel_rfl)
def z0a3 (tree : List GNode) (data : List Int) (e : GAsk) (ans : Int) (x1 : (List GNode)) : Option ((List GNode) × Bool) := (z08e tree data).bind fun x20 => (if decide (x20.2 = (-1)) = true then (gd (([] : List Int).length + data.length ≤ SMALL) (gd (x1.length + [(GNode.mk e (-1) (-1) ans (([] : List Int) ++ data))].length ≤ SMALL) (some ((x1 ++ [(GNode.mk e (-1) (-1) ans (([] : List Int) ++ data))]), true)))) else ((getI tree x20.2).bind fun x24 => ((z01q x24.if_ data).bind fun x25 => (if x25 = true then ((getI x1 x20.2).bind fun x27 => (gd (([] : List Int).length + data.length ≤ SMALL) (gd ((x1.set x20.2.toNat (GNode.mk x27.if_ (tree.length : Int) x27.no x27.ans x27.stone)).length + [(GNode.mk e (-1) (-1) ans (([] : List Int) ++ data))].length ≤ SMALL) (some (((x1.set x20.2.toNat (GNode.mk x27.if_ (tree.length : Int) x27.no x27.ans x27.stone)) ++ [(GNode.mk e (-1) (-1) ans (([] : List Int) ++ data))]), true))))) else ((getI x1 x20.2).bind fun x30 => (gd (([] : List Int).length + data.length ≤ SMALL) (gd ((x1.set x20.2.toNat (GNode.mk x30.if_ x30.yes (tree.length : Int) x30.ans x30.stone)).length + [(GNode.mk e (-1) (-1) ans (([] : List Int) ++ data))].length ≤ SMALL) (some (((x1.set x20.2.toNat (GNode.mk x30.if_ x30.yes (tree.length : Int) x30.ans x30.stone)) ++ [(GNode.mk e (-1) (-1) ans (([] : List Int) ++ data))]), true)))))))))
def z03t (tree : List GNode) (data : List Int) (e : GAsk) (x1 : (List GNode)) (kx0_0 : Option ((List GNode) × Bool)) : Nat → Int → Option ((List GNode) × Bool)
  | 0, _ => none
  | n0 + 1, s0_0 => if decide (s0_0 < (tree.length : Int)) = true then ((getI tree s0_0).bind fun x12 => ((z0ft tree x12.stone data).bind fun x13 => (if x13 = true then ((getI tree s0_0).bind fun x15 => ((z01q e x15.stone).bind fun x16 => (if x16 = true then (some (x1, false)) else (gd (ok64 (s0_0 + 1)) ((z03t tree data e x1 kx0_0 n0) (s0_0 + 1)))))) else (gd (ok64 (s0_0 + 1)) ((z03t tree data e x1 kx0_0 n0) (s0_0 + 1)))))) else (kx0_0)
def z0g9 (tree : List GNode) (data : List Int) (e : GAsk) (ans : Int) : Option ((List GNode) × Bool) := (z0ch tree).bind fun x1 => ((z09l tree).bind fun x2 => (if x2 = true then ((z02c data).bind fun x4 => (if x4 = true then ((z01q e data).bind fun x6 => (if x6 = true then ((z002 ans 0 2).bind fun x8 => (if x8 = true then (if decide ((tree.length : Int) = 12) = true then (some (x1, false)) else (z03t tree data e x1 (z0a3 tree data e ans x1) FUEL 0)) else (some (x1, false)))) else (some (x1, false)))) else (some (x1, false)))) else (some (x1, false))))
def z04m : Con := ⟨132, [.v (.sl (.s .node)) false, .v (.sl .I) false, .v (.s .ask) false, .v .I false], [((.sl (.s .node)), true), (.B, true)], [], fun x => z0g9 x.1 x.2.1 x.2.2.1 x.2.2.2.1⟩
def z1or : Fs := ⟨[z03o, z017, z014, z05f, z00o, z0or, z02m], []⟩
theorem z11d : z1or.Ok Tryz.prog := (fsK z128 (fsK z0tz (fsK z072 (fsK z08s (fsK z00t (fsK z1oa (fsK z0na fs0)))))))
def z0s0 : Tmpl := ⟨[(0, .c (.s (.s .node))), (1, .c (.s .I)), (3, .c .i), (6, .c (.bx 6 0)), (10, .c (.ref 15)), (11, .c .i)], [(6, .boxT (.s .ask)), (15, .arr (.s .node) true)]⟩
def z0oi : Tmpl := ⟨[(0, .c (.s (.s .node))), (1, .c (.s .I)), (3, .c .i), (6, .c (.bx 6 0)), (10, .c (.ref 15))], [(6, .boxT (.s .ask)), (15, .arr (.s .node) true)]⟩
def z1ab (av : AV) (x : HP z04m.ps) (n : Nat) (v : z0s0.den) (K : Ks (CR z04m)) : Option (CR z04m) := z03t v.1.1 v.1.2.1 v.2.1 v.2.2.1 (z0oi.at none ((v.1.1, v.1.2.1, v.1.2.2.1, (), (), ()), (v.2.1, v.2.2.1, ())) (K (.exit 0))) n v.1.2.2.2.2.2.1
def z0qs (av : AV) (x : HP z04m.ps) : Hdl (CR z04m) := hnd [] z0s0 (z1ab av x)
theorem z1ad : LP z04m Tryz.f132 [0] z0qs := lp_ok (W := []) (H := []) (xs := [z0oi]) z11d trivial rfl (fun av x v K => by kernel_rfl) (fun av x n v K => by kernel_rfl)
theorem z1oq : z04m.Ok Tryz.prog := fn_ok (k := z04m) (fn := Tryz.f132) (W := []) (H := [z0qs]) Tryz.func132 z11d ⟨z1ad, trivial⟩ rfl rfl (fun av x => by kernel_rfl)
def z03l (ans : Int) : Option Bool := (z00b ans 0 2).bind fun x1 => (some x1)
def z08v : Con := ⟨139, [.v .I false], [(.B, true)], [], fun x => z03l x.1⟩
def z19l : Fs := ⟨[z029], []⟩
theorem z19t : z19l.Ok Tryz.prog := (fsK z02t fs0)
theorem z0gr : z08v.Ok Tryz.prog := fn_ok (k := z08v) (fn := Tryz.f139) (W := []) (H := []) Tryz.func139 z19t trivial rfl rfl (fun av x => by kernel_rfl)
def z09k (l0_1 : List GNode) : Option (List GNode) := some l0_1
def z02f (tree : List GNode) (p0_0 : Int) (kx0_0 : List GNode → Option (List GNode)) : Nat → Int → List GNode → Option (List GNode)
  | 0, _, _ => none
  | n0 + 1, s0_0, l0_1 => if decide (s0_0 < p0_0) = true then ((getI tree s0_0).bind fun x2 => ((z00c x2.stone).bind fun x3 => (gd (l0_1.length + [(GNode.mk x2.if_ x2.yes x2.no x2.ans x3)].length ≤ SMALL) (gd (ok64 (s0_0 + 1)) ((z02f tree p0_0 kx0_0 n0) (s0_0 + 1) (l0_1 ++ [(GNode.mk x2.if_ x2.yes x2.no x2.ans x3)])))))) else (kx0_0 l0_1)
def z07c (tree : List GNode) : Option (List GNode) := z02f tree (tree.length : Int) z09k FUEL 0 ([] : List GNode)
def z018 : Con := ⟨144, [.v (.sl (.s .node)) false], [((.sl (.s .node)), true)], [], fun x => z07c x.1⟩
def z131 : Fs := ⟨[z013], []⟩
theorem z0kh : z131.Ok Tryz.prog := (fsK z023 fs0)
def z0gj : Tmpl := ⟨[(3, .c (.ref 500003)), (6, .c (.s (.s .node))), (7, .c .i), (8, .c .i)], [(500003, .arr (.s .node) true)]⟩
def z0en : Tmpl := ⟨[(3, .c (.ref 500003))], [(500003, .arr (.s .node) true)]⟩
def z0wl (av : AV) (x : HP z018.ps) (n : Nat) (v : z0gj.den) (K : Ks (CR z018)) : Option (CR z018) := z02f v.1.2.1 v.1.2.2.1 (fun l0_1 => z0en.at none (((), ()), (l0_1, ())) (K (.exit 0))) n v.1.2.2.2.1 v.2.1
def z0gb (av : AV) (x : HP z018.ps) : Hdl (CR z018) := hnd [.e 3 500003 (.s .node)] z0gj (z0wl av x)
theorem z0yr : LP z018 Tryz.f144 [0] z0gb := lp_ok (W := []) (H := []) (xs := [z0en]) z0kh trivial rfl (fun av x v K => by kernel_rfl) (fun av x n v K => by kernel_rfl)
theorem z0jy : z018.Ok Tryz.prog := fn_ok (k := z018) (fn := Tryz.f144) (W := []) (H := [z0gb]) Tryz.func144 z0kh ⟨z0yr, trivial⟩ rfl rfl (fun av x => by kernel_rfl)
def z0o1  : Option Bool := some true
def z05s (nets : List GNet) (kx0_0 : Option Bool) : Nat → Int → Option Bool
  | 0, _ => none
  | n0 + 1, s0_0 => if decide (s0_0 < (nets.length : Int)) = true then ((getI nets s0_0).bind fun x4 => ((z09j x4).bind fun x5 => (if x5 = true then (gd (ok64 (s0_0 + 1)) ((z05s nets kx0_0 n0) (s0_0 + 1))) else (some false)))) else (kx0_0)
def z0fo (nets : List GNet) : Option Bool := (z002 (nets.length : Int) 1 3).bind fun x1 => (if x1 = true then (z05s nets z0o1 FUEL 0) else (some false))
def z052 : Con := ⟨82, [.v (.sl (.s .net)) false], [(.B, true)], [], fun x => z0fo x.1⟩
def z1nu : Fs := ⟨[z00o, z031], []⟩
theorem z11p : z1nu.Ok Tryz.prog := (fsK z00t (fsK z0if fs0))
def z0tl : Tmpl := ⟨[(0, .c (.s (.s .net))), (3, .c .i)], []⟩
def z0pg : Tmpl := ⟨[], []⟩
def z1b0 (av : AV) (x : HP z052.ps) (n : Nat) (v : z0tl.den) (K : Ks (CR z052)) : Option (CR z052) := z05s v.1.1 (z0pg.at none ((), ()) (K (.exit 0))) n v.1.2.1
def z0r2 (av : AV) (x : HP z052.ps) : Hdl (CR z052) := hnd [] z0tl (z1b0 av x)
theorem z1c6 : LP z052 Tryz.f82 [0] z0r2 := lp_ok (W := []) (H := []) (xs := [z0pg]) z11p trivial rfl (fun av x v K => by kernel_rfl) (fun av x n v K => by kernel_rfl)
theorem z1k8 : z052.Ok Tryz.prog := fn_ok (k := z052) (fn := Tryz.f82) (W := []) (H := [z0r2]) Tryz.func82 z11p ⟨z1c6, trivial⟩ rfl rfl (fun av x => by kernel_rfl)
def z0at (p0_1 : Int) (l0_1 : List GTask) : Option GNet := some (GNet.mk p0_1 l0_1)
def z02u (n : GNet) (kx0_0 : List GTask → Option GNet) : Nat → Int → List GTask → Option GNet
  | 0, _, _ => none
  | n0 + 1, s0_0, l0_1 => if decide (s0_0 < (n.tasks.length : Int)) = true then ((getI n.tasks s0_0).bind fun x2 => (gd (([] : List Int).length + x2.in_.length ≤ SMALL) (gd (([] : List GFlow).length + x2.out.length ≤ SMALL) (gd (([] : List Int).length + x2.clear.length ≤ SMALL) (gd (l0_1.length + [(GTask.mk x2.join x2.split (([] : List Int) ++ x2.in_) (([] : List GFlow) ++ x2.out) (([] : List Int) ++ x2.clear) x2.role x2.apart x2.all x2.need)].length ≤ SMALL) (gd (ok64 (s0_0 + 1)) ((z02u n kx0_0 n0) (s0_0 + 1) (l0_1 ++ [(GTask.mk x2.join x2.split (([] : List Int) ++ x2.in_) (([] : List GFlow) ++ x2.out) (([] : List Int) ++ x2.clear) x2.role x2.apart x2.all x2.need)])))))))) else (kx0_0 l0_1)
def z0au (n : GNet) : Option GNet := z02u n (z0at n.places) FUEL 0 ([] : List GTask)
def z024 : Con := ⟨119, [.v (.s .net) false], [((.s .net), true)], [], fun x => z0au x.1⟩
def z13y : Fs := ⟨[], []⟩
theorem z0oy : z13y.Ok Tryz.prog := fs0
def z0h6 : Tmpl := ⟨[(1, .c (.bx 1 0)), (2, .c (.bx 2 0)), (3, .c (.bx 3 0)), (4, .c .i)], [(1, .boxT (.s .net)), (2, .box [.i, .nl]), (3, .box [.i, .ref 510301]), (510301, .arr (.s .task) true)]⟩
def z0f9 : Tmpl := ⟨[(2, .c (.bx 2 0)), (3, .c (.bx 3 0))], [(2, .box [.i, .nl]), (3, .box [.i, .ref 510301]), (510301, .arr (.s .task) true)]⟩
def z0zq (av : AV) (x : HP z024.ps) (n : Nat) (v : z0h6.den) (K : Ks (CR z024)) : Option (CR z024) := z02u v.2.1 (fun l0_1 => z0f9.at none (((), (), ()), ((v.2.2.1.1, (), ()), (v.2.2.2.1.1, (), ()), l0_1, ())) (K (.exit 0))) n v.1.2.2.2.1 v.2.2.2.2.1
def z0h9 (av : AV) (x : HP z024.ps) : Hdl (CR z024) := hnd [.b 3 1 510301 (.s .task)] z0h6 (z0zq av x)
theorem z0zc : LP z024 Tryz.f119 [0] z0h9 := lp_ok (W := []) (H := []) (xs := [z0f9]) z0oy trivial rfl (fun av x v K => by kernel_rfl) (fun av x n v K => by kernel_rfl)
theorem z16k : z024.Ok Tryz.prog := fn_ok (k := z024) (fn := Tryz.f119) (W := []) (H := [z0h9]) Tryz.func119 z0oy ⟨z0zc, trivial⟩ rfl rfl (fun av x => by kernel_rfl)
def z0tm  : Option Bool := some true
def z07j (h : GHouse) (kx0_0 : Option Bool) : Nat → Int → Option Bool
  | 0, _ => none
  | n0 + 1, s0_0 => if decide (s0_0 < (h.runs.length : Int)) = true then ((getI h.runs s0_0).bind fun x9 => (gd (ok64 ((h.nets.length : Int) - 1)) ((z002 x9.net 0 ((h.nets.length : Int) - 1)).bind fun x11 => (if x11 = true then ((getI h.runs s0_0).bind fun x13 => ((getI h.nets x13.net).bind fun x14 => ((getI h.runs s0_0).bind fun x15 => ((z09e x14 x15.case).bind fun x16 => (if x16 = true then (gd (ok64 (s0_0 + 1)) ((z07j h kx0_0 n0) (s0_0 + 1))) else (some false)))))) else (some false))))) else (kx0_0)
def z0i3 (h : GHouse) : Option Bool := (z0fo h.nets).bind fun x1 => (if x1 = true then ((z0bu h.people).bind fun x3 => (if x3 = true then ((z09l h.tree).bind fun x5 => (if x5 = true then (if decide (5 < (h.runs.length : Int)) = true then (some false) else (z07j h z0tm FUEL 0)) else (some false))) else (some false))) else (some false))
def z06w : Con := ⟨31, [.v (.s .house) false], [(.B, true)], [], fun x => z0i3 x.1⟩
def z1uy : Fs := ⟨[z052, z041, z017, z00o, z02x], []⟩
theorem z172 : z1uy.Ok Tryz.prog := (fsK z1k8 (fsK z0u2 (fsK z0tz (fsK z00t (fsK z0ij fs0)))))
def z0vl : Tmpl := ⟨[(1, .c (.bx 1 0)), (3, .c .i)], [(1, .boxT (.s .house))]⟩
def z0qy : Tmpl := ⟨[], []⟩
def z1fo (av : AV) (x : HP z06w.ps) (n : Nat) (v : z0vl.den) (K : Ks (CR z06w)) : Option (CR z06w) := z07j v.2.1 (z0qy.at none ((), ()) (K (.exit 0))) n v.1.2.1
def z0w3 (av : AV) (x : HP z06w.ps) : Hdl (CR z06w) := hnd [] z0vl (z1fo av x)
theorem z1g5 : LP z06w Tryz.f31 [0] z0w3 := lp_ok (W := []) (H := []) (xs := [z0qy]) z172 trivial rfl (fun av x v K => by kernel_rfl) (fun av x n v K => by kernel_rfl)
theorem z1tp : z06w.Ok Tryz.prog := fn_ok (k := z06w) (fn := Tryz.f31) (W := []) (H := [z0w3]) Tryz.func31 z172 ⟨z1g5, trivial⟩ rfl rfl (fun av x => by kernel_rfl)
def z0ef (x2 : (List GNode)) (p0_0 : List Int) (l0_1 : List GNet) (l1_1 : List GRun) : Option GHouse := some (GHouse.mk l0_1 p0_0 x2 l1_1)
def z05n (h : GHouse) (kx1_0 : List GRun → Option GHouse) : Nat → Int → List GRun → Option GHouse
  | 0, _, _ => none
  | n1 + 1, s1_0, l1_1 => if decide (s1_0 < (h.runs.length : Int)) = true then ((getI h.runs s1_0).bind fun x9 => ((getI h.runs s1_0).bind fun x10 => ((z06c x10.case).bind fun x11 => (gd (l1_1.length + [(GRun.mk x9.net x11)].length ≤ SMALL) (gd (ok64 (s1_0 + 1)) ((z05n h kx1_0 n1) (s1_0 + 1) (l1_1 ++ [(GRun.mk x9.net x11)]))))))) else (kx1_0 l1_1)
def z0ar (h : GHouse) (x2 : (List GNode)) (p0_0 : List Int) (l0_1 : List GNet) : Option GHouse := z05n h (z0ef x2 p0_0 l0_1) FUEL 0 ([] : List GRun)
def z064 (h : GHouse) (kx0_0 : List GNet → Option GHouse) : Nat → Int → List GNet → Option GHouse
  | 0, _, _ => none
  | n0 + 1, s0_0, l0_1 => if decide (s0_0 < (h.nets.length : Int)) = true then ((getI h.nets s0_0).bind fun x4 => ((z0au x4).bind fun x5 => (gd (l0_1.length + [x5].length ≤ SMALL) (gd (ok64 (s0_0 + 1)) ((z064 h kx0_0 n0) (s0_0 + 1) (l0_1 ++ [x5])))))) else (kx0_0 l0_1)
def z0a0 (h : GHouse) : Option GHouse := gd (([] : List Int).length + h.people.length ≤ SMALL) ((z0ch h.tree).bind fun x2 => (z064 h (z0ar h x2 (([] : List Int) ++ h.people)) FUEL 0 ([] : List GNet)))
def z016 : Con := ⟨62, [.v (.s .house) false], [((.s .house), true)], [], fun x => z0a0 x.1⟩
def z1kq : Fs := ⟨[z03o, z024, z09t], []⟩
theorem z0pw : z1kq.Ok Tryz.prog := (fsK z128 (fsK z16k (fsK z0ga fs0)))
def z0sb : Tmpl := ⟨[(1, .c (.bx 1 0)), (2, .c (.bx 2 0)), (3, .c (.bx 3 0)), (4, .c .i)], [(1, .boxT (.s .house)), (2, .box [.nl, .nl, .nl, .nl]), (3, .box [.ref 510300, .ref 9, .ref 12, .nl]), (510300, .arr (.s .net) true), (9, .arr .I true), (12, .arr (.s .node) true)]⟩
def z0p4 : Tmpl := ⟨[(1, .c (.bx 1 0)), (2, .c (.bx 2 0)), (3, .c (.bx 3 0))], [(1, .boxT (.s .house)), (2, .box [.nl, .nl, .nl, .nl]), (3, .box [.ref 510300, .ref 9, .ref 12, .nl]), (510300, .arr (.s .net) true), (9, .arr .I true), (12, .arr (.s .node) true)]⟩
def z19v (av : AV) (x : HP z016.ps) (n : Nat) (v : z0sb.den) (K : Ks (CR z016)) : Option (CR z016) := z064 v.2.1 (fun l0_1 => z0p4.at none (((), (), (), ()), (v.2.1, ((), (), (), (), ()), ((), (), (), (), ()), l0_1, v.2.2.2.2.2.1, v.2.2.2.2.2.2.1, ())) (K (.exit 0))) n v.1.2.2.2.1 v.2.2.2.2.1
def z0r6 (av : AV) (x : HP z016.ps) : Hdl (CR z016) := hnd [.b 3 0 510300 (.s .net)] z0sb (z19v av x)
theorem z1cm : LP z016 Tryz.f62 [0] z0r6 := lp_ok (W := []) (H := []) (xs := [z0p4]) z0pw trivial rfl (fun av x v K => by kernel_rfl) (fun av x n v K => by kernel_rfl)
def z0qr : Tmpl := ⟨[(1, .c (.bx 1 0)), (2, .c (.bx 2 0)), (3, .c (.bx 3 0)), (5, .c .i)], [(1, .boxT (.s .house)), (2, .box [.nl, .nl, .nl, .nl]), (3, .box [.ref 510300, .ref 9, .ref 12, .ref 510303]), (510300, .arr (.s .net) true), (9, .arr .I true), (12, .arr (.s .node) true), (510303, .arr (.s .run) true)]⟩
def z0lc : Tmpl := ⟨[(2, .c (.bx 2 0)), (3, .c (.bx 3 0))], [(2, .box [.nl, .nl, .nl, .nl]), (3, .box [.ref 510300, .ref 9, .ref 12, .ref 510303]), (510300, .arr (.s .net) true), (9, .arr .I true), (12, .arr (.s .node) true), (510303, .arr (.s .run) true)]⟩
def z1cd (av : AV) (x : HP z016.ps) (n : Nat) (v : z0qr.den) (K : Ks (CR z016)) : Option (CR z016) := z05n v.2.1 (fun l1_1 => z0lc.at none (((), (), ()), (((), (), (), (), ()), ((), (), (), (), ()), v.2.2.2.2.1, v.2.2.2.2.2.1, v.2.2.2.2.2.2.1, l1_1, ())) (K (.exit 2))) n v.1.2.2.2.1 v.2.2.2.2.2.2.2.1
def z0r8 (av : AV) (x : HP z016.ps) : Hdl (CR z016) := hnd [.b 3 3 510303 (.s .run)] z0qr (z1cd av x)
theorem z1a8 : LP z016 Tryz.f62 [1] z0r8 := lp_ok (W := []) (H := []) (xs := [z0lc]) z0pw trivial rfl (fun av x v K => by kernel_rfl) (fun av x n v K => by kernel_rfl)
theorem z1os : z016.Ok Tryz.prog := fn_ok (k := z016) (fn := Tryz.f62) (W := []) (H := [z0r6, z0r8]) Tryz.func62 z0pw ⟨z1cm, z1a8, trivial⟩ rfl rfl (fun av x => by kernel_rfl)
def z0fq (r : GReq) : Option GReq := if decide (r.kind = 1) = true then (some (GReq.mk r.kind 0 0 0 0 0 r.data (GAsk.mk 0 0 0) 0)) else (if decide (r.kind = 2) = true then (some (GReq.mk r.kind r.who r.case r.task 0 0 [] (GAsk.mk 0 0 0) 0)) else (if decide (r.kind = 3) = true then (some (GReq.mk r.kind 0 r.case r.task r.var r.num [] (GAsk.mk 0 0 0) 0)) else (if decide (r.kind = 4) = true then (some (GReq.mk r.kind 0 r.case 0 0 0 [] (GAsk.mk 0 0 0) 0)) else (if decide (r.kind = 5) = true then (some (GReq.mk r.kind 0 0 0 0 0 r.data r.if_ r.ans)) else (some (GReq.mk r.kind 0 0 0 0 0 [] (GAsk.mk 0 0 0) 0))))))
def z0nn : Con := ⟨127, [.v (.s .req) false], [((.s .req), false)], [], fun x => z0fq x.1⟩
def z1oi : Fs := ⟨[], []⟩
theorem z1ll : z1oi.Ok Tryz.prog := fs0
theorem z1j7 : z0nn.Ok Tryz.prog := fn_ok (k := z0nn) (fn := Tryz.f127) (W := []) (H := []) Tryz.func127 z1ll trivial rfl rfl (fun av x => by kernel_rfl)
def z03s (a : GReq) (b : GReq) : Option Bool := if decide (a.kind = b.kind) = true then (if decide (a.who = b.who) = true then (if decide (a.case = b.case) = true then (if decide (a.task = b.task) = true then (if decide (a.var = b.var) = true then (if decide (a.num = b.num) = true then (if decide ([a.if_.op, a.if_.var, a.if_.k] = [b.if_.op, b.if_.var, b.if_.k]) = true then (some (decide (a.ans = b.ans))) else (some false)) else (some false)) else (some false)) else (some false)) else (some false)) else (some false)) else (some false)
def z02n (a : GReq) (b : GReq) (kx0_0 : Option Bool) : Nat → Int → Option Bool
  | 0, _ => none
  | n0 + 1, s0_0 => if decide (s0_0 < (a.data.length : Int)) = true then ((getI a.data s0_0).bind fun x3 => ((getI b.data s0_0).bind fun x4 => (if decide (x3 = x4) = true then (gd (ok64 (s0_0 + 1)) ((z02n a b kx0_0 n0) (s0_0 + 1))) else (some false)))) else (kx0_0)
def z0fk (a : GReq) (b : GReq) : Option Bool := if decide ((a.data.length : Int) = (b.data.length : Int)) = true then (z02n a b (z03s a b) FUEL 0) else (some false)
def z056 : Con := ⟨126, [.v (.s .req) false, .v (.s .req) false], [(.B, true)], [], fun x => z0fk x.1 x.2.1⟩
def z1pc : Fs := ⟨[], []⟩
theorem z113 : z1pc.Ok Tryz.prog := fs0
def z0t1 : Tmpl := ⟨[(2, .c (.bx 2 0)), (3, .c (.bx 3 0)), (5, .c .i)], [(2, .boxT (.s .req)), (3, .boxT (.s .req))]⟩
def z0li : Tmpl := ⟨[(2, .c (.bx 2 0)), (3, .c (.bx 3 0))], [(2, .boxT (.s .req)), (3, .boxT (.s .req))]⟩
def z1as (av : AV) (x : HP z056.ps) (n : Nat) (v : z0t1.den) (K : Ks (CR z056)) : Option (CR z056) := z02n v.2.1 v.2.2.1 (z0li.at none (((), (), ()), (v.2.1, v.2.2.1, ())) (K (.exit 0))) n v.1.2.2.1
def z0r5 (av : AV) (x : HP z056.ps) : Hdl (CR z056) := hnd [] z0t1 (z1as av x)
theorem z1bk : LP z056 Tryz.f126 [0] z0r5 := lp_ok (W := []) (H := []) (xs := [z0li]) z113 trivial rfl (fun av x v K => by kernel_rfl) (fun av x n v K => by kernel_rfl)
theorem z1lj : z056.Ok Tryz.prog := fn_ok (k := z056) (fn := Tryz.f126) (W := []) (H := [z0r5]) Tryz.func126 z113 ⟨z1bk, trivial⟩ rfl rfl (fun av x => by kernel_rfl)
def z0bz (r : GReq) : Option Bool := (z002 r.kind 1 5).bind fun x1 => (if x1 = true then ((z0fq r).bind fun x3 => ((z0fk r x3).bind fun x4 => (if x4 = true then ((z002 r.who 0 4).bind fun x6 => (if x6 = true then ((z002 r.case 0 4).bind fun x8 => (if x8 = true then ((z002 r.task 0 5).bind fun x10 => (if x10 = true then ((z002 r.var (-1) 2).bind fun x12 => (if x12 = true then ((z002 r.num (-99) 99).bind fun x14 => (if x14 = true then ((z086 r.if_).bind fun x16 => (if x16 = true then ((z002 r.ans 0 2).bind fun x18 => (if x18 = true then (if decide (r.kind = 1) = true then ((z02c r.data).bind fun x21 => (some (true == x21))) else ((z02c r.data).bind fun x22 => (some ((decide (r.kind = 5)) == x22)))) else (some false))) else (some false))) else (some false))) else (some false))) else (some false))) else (some false))) else (some false))) else (some false)))) else (some false))
def z0gw : Con := ⟨60, [.v (.s .req) false], [(.B, true)], [], fun x => z0bz x.1⟩
def z1cj : Fs := ⟨[z00o, z0nn, z056, z0be, z014], []⟩
theorem z1a6 : z1cj.Ok Tryz.prog := (fsK z00t (fsK z1j7 (fsK z1lj (fsK z0ir (fsK z072 fs0)))))
theorem z1bi : z0gw.Ok Tryz.prog := fn_ok (k := z0gw) (fn := Tryz.f60) (W := []) (H := []) Tryz.func60 z1a6 trivial rfl rfl (fun av x => by kernel_rfl)
def z0g6 (h : GHouse) (r : GReq) : Option (GHouse × Int) := if decide ((h.runs.length : Int) ≤ r.case) = true then (some (h, 2)) else ((getI h.runs r.case).bind fun x2 => ((getI h.nets x2.net).bind fun x3 => (if decide (r.kind = 2) = true then ((z0cb x3 h.people x2.case r.task r.who).bind fun x5 => (if x5.2 = true then ((getI h.runs r.case).bind fun x7 => (some ((GHouse.mk h.nets h.people h.tree (h.runs.set r.case.toNat (GRun.mk x7.net x5.1))), 1))) else (some (h, 3)))) else (if decide (r.kind = 3) = true then ((z0dr x3 x2.case r.task r.var r.num).bind fun x9 => (if x9.2 = true then ((getI h.runs r.case).bind fun x11 => (some ((GHouse.mk h.nets h.people h.tree (h.runs.set r.case.toNat (GRun.mk x11.net x9.1))), 1))) else (some (h, 3)))) else ((z0dw x3 x2.case).bind fun x12 => (if x12.2 = true then ((getI h.runs r.case).bind fun x14 => (some ((GHouse.mk h.nets h.people h.tree (h.runs.set r.case.toNat (GRun.mk x14.net x12.1))), 1))) else (some (h, 3))))))))
def z0od : Con := ⟨133, [.v (.s .house) true, .v (.s .req) false], [((.s .house), true), (.I, true)], [], fun x => z0g6 x.1 x.2.1⟩
def z1o0 : Fs := ⟨[z0gt, z0hp, z0iv], []⟩
theorem z1l6 : z1o0.Ok Tryz.prog := (fsK z1a7 (fsK z1fq (fsK z1he fs0)))
theorem z1oo : z0od.Ok Tryz.prog := fn_ok (k := z0od) (fn := Tryz.f133) (W := []) (H := []) Tryz.func133 z1l6 trivial rfl rfl (fun av x => by kernel_rfl)
def z0q1 (h : GHouse) (r : GReq) : Option (GHouse × Int) := if decide (r.kind = 1) = true then (if decide ((h.runs.length : Int) = 5) = true then (some (h, 4)) else ((z0g7 h.tree r.data).bind fun x3 => (if decide ((h.nets.length : Int) ≤ x3) = true then ((getI h.nets 0).bind fun x5 => ((z0ck x5 r.data).bind fun x6 => (gd (h.runs.length + [(GRun.mk 0 x6)].length ≤ SMALL) (some ((GHouse.mk h.nets h.people h.tree (h.runs ++ [(GRun.mk 0 x6)])), 1))))) else ((getI h.nets x3).bind fun x8 => ((z0ck x8 r.data).bind fun x9 => (gd (h.runs.length + [(GRun.mk x3 x9)].length ≤ SMALL) (some ((GHouse.mk h.nets h.people h.tree (h.runs ++ [(GRun.mk x3 x9)])), 1)))))))) else (if decide (r.kind = 5) = true then ((z0g9 h.tree r.data r.if_ r.ans).bind fun x12 => (if x12.2 = true then (some ((GHouse.mk h.nets h.people x12.1 h.runs), 1)) else (some (h, 3)))) else ((z0g6 h r).bind fun x14 => (some (x14.1, x14.2))))
def z107 : Con := ⟨61, [.v (.s .house) true, .v (.s .req) false], [((.s .house), true), (.I, true)], [], fun x => z0q1 x.1 x.2.1⟩
def z1wr : Fs := ⟨[z0pt, z0pz, z04m, z0od], []⟩
theorem z1xu : z1wr.Ok Tryz.prog := (fsK z1l1 (fsK z1kv (fsK z1oq (fsK z1oo fs0))))
theorem z1wx : z107.Ok Tryz.prog := fn_ok (k := z107) (fn := Tryz.f61) (W := []) (H := []) Tryz.func61 z1xu trivial rfl rfl (fun av x => by kernel_rfl)
def z083 (r : GReq) : Option GReq := (z00c r.data).bind fun x1 => (some (GReq.mk r.kind r.who r.case r.task r.var r.num x1 r.if_ r.ans))
def z0ax : Con := ⟨81, [.v (.s .req) false], [((.s .req), true)], [], fun x => z083 x.1⟩
def z0xt : Fs := ⟨[z013], []⟩
theorem z0vz : z0xt.Ok Tryz.prog := (fsK z023 fs0)
theorem z0w2 : z0ax.Ok Tryz.prog := fn_ok (k := z0ax) (fn := Tryz.f81) (W := []) (H := []) Tryz.func81 z0vz trivial rfl rfl (fun av x => by kernel_rfl)
def z06u (x1 : (List Int)) (x2 : (List GNode)) (l0_1 : List GNet) (l1_1 : List GRun) : Option GHouse := some (GHouse.mk l0_1 x1 x2 l1_1)
def z01h (p1_0 : List GRun) (p1_1 : Int) (kx1_0 : List GRun → Option GHouse) : Nat → Int → List GRun → Option GHouse
  | 0, _, _ => none
  | n1 + 1, s1_0, l1_1 => if decide (s1_0 < p1_1) = true then ((getI p1_0 s1_0).bind fun x9 => ((z007 x9.case).bind fun x10 => (gd (l1_1.length + [(GRun.mk x9.net x10)].length ≤ SMALL) (gd (ok64 (s1_0 + 1)) ((z01h p1_0 p1_1 kx1_0 n1) (s1_0 + 1) (l1_1 ++ [(GRun.mk x9.net x10)])))))) else (kx1_0 l1_1)
def z03f (h : GHouse) (x1 : (List Int)) (x2 : (List GNode)) (l0_1 : List GNet) : Option GHouse := z01h h.runs (h.runs.length : Int) (z06u x1 x2 l0_1) FUEL 0 ([] : List GRun)
def z01g (p0_0 : List GNet) (p0_1 : Int) (kx0_0 : List GNet → Option GHouse) : Nat → Int → List GNet → Option GHouse
  | 0, _, _ => none
  | n0 + 1, s0_0, l0_1 => if decide (s0_0 < p0_1) = true then ((getI p0_0 s0_0).bind fun x4 => ((z07x x4).bind fun x5 => (gd (l0_1.length + [x5].length ≤ SMALL) (gd (ok64 (s0_0 + 1)) ((z01g p0_0 p0_1 kx0_0 n0) (s0_0 + 1) (l0_1 ++ [x5])))))) else (kx0_0 l0_1)
def z026 (h : GHouse) : Option GHouse := (z00c h.people).bind fun x1 => ((z07c h.tree).bind fun x2 => (z01g h.nets (h.nets.length : Int) (z03f h x1 x2) FUEL 0 ([] : List GNet)))
def z008 : Con := ⟨67, [.v (.s .house) false], [((.s .house), true)], [], fun x => z026 x.1⟩
def z0qj : Fs := ⟨[z013, z018, z012, z02g], []⟩
theorem z08o : z0qj.Ok Tryz.prog := (fsK z023 (fsK z0jy (fsK z0w5 (fsK z06s fs0))))
def z0b2 : Tmpl := ⟨[(1, .c (.bx 1 0)), (2, .c (.bx 2 0)), (3, .c (.bx 3 0)), (16, .c (.s (.s .net))), (17, .c .i), (18, .c .i)], [(1, .boxT (.s .house)), (2, .box [.nl, .nl, .nl, .nl]), (3, .box [.ref 510300, .ref 10, .ref 13, .nl]), (510300, .arr (.s .net) true), (10, .arr .I true), (13, .arr (.s .node) true)]⟩
def z0ap : Tmpl := ⟨[(1, .c (.bx 1 0)), (2, .c (.bx 2 0)), (3, .c (.bx 3 0))], [(1, .boxT (.s .house)), (2, .box [.nl, .nl, .nl, .nl]), (3, .box [.ref 510300, .ref 10, .ref 13, .nl]), (510300, .arr (.s .net) true), (10, .arr .I true), (13, .arr (.s .node) true)]⟩
def z0kv (av : AV) (x : HP z008.ps) (n : Nat) (v : z0b2.den) (K : Ks (CR z008)) : Option (CR z008) := z01g v.1.2.2.2.1 v.1.2.2.2.2.1 (fun l0_1 => z0ap.at none (((), (), (), ()), (v.2.1, ((), (), (), (), ()), ((), (), (), (), ()), l0_1, v.2.2.2.2.2.1, v.2.2.2.2.2.2.1, ())) (K (.exit 0))) n v.1.2.2.2.2.2.1 v.2.2.2.2.1
def z0b0 (av : AV) (x : HP z008.ps) : Hdl (CR z008) := hnd [.b 3 0 510300 (.s .net)] z0b2 (z0kv av x)
theorem z0ky : LP z008 Tryz.f67 [0] z0b0 := lp_ok (W := []) (H := []) (xs := [z0ap]) z08o trivial rfl (fun av x v K => by kernel_rfl) (fun av x n v K => by kernel_rfl)
def z0b7 : Tmpl := ⟨[(2, .c (.bx 2 0)), (3, .c (.bx 3 0)), (31, .c (.s (.s .run))), (32, .c .i), (33, .c .i)], [(2, .box [.nl, .nl, .nl, .nl]), (3, .box [.ref 510300, .ref 10, .ref 13, .ref 510303]), (510300, .arr (.s .net) true), (10, .arr .I true), (13, .arr (.s .node) true), (510303, .arr (.s .run) true)]⟩
def z0as : Tmpl := ⟨[(2, .c (.bx 2 0)), (3, .c (.bx 3 0))], [(2, .box [.nl, .nl, .nl, .nl]), (3, .box [.ref 510300, .ref 10, .ref 13, .ref 510303]), (510300, .arr (.s .net) true), (10, .arr .I true), (13, .arr (.s .node) true), (510303, .arr (.s .run) true)]⟩
def z0l5 (av : AV) (x : HP z008.ps) (n : Nat) (v : z0b7.den) (K : Ks (CR z008)) : Option (CR z008) := z01h v.1.2.2.1 v.1.2.2.2.1 (fun l1_1 => z0as.at none (((), (), ()), (((), (), (), (), ()), ((), (), (), (), ()), v.2.2.2.1, v.2.2.2.2.1, v.2.2.2.2.2.1, l1_1, ())) (K (.exit 2))) n v.1.2.2.2.2.1 v.2.2.2.2.2.2.1
def z0ba (av : AV) (x : HP z008.ps) : Hdl (CR z008) := hnd [.b 3 3 510303 (.s .run)] z0b7 (z0l5 av x)
theorem z0kt : LP z008 Tryz.f67 [1] z0ba := lp_ok (W := []) (H := []) (xs := [z0as]) z08o trivial rfl (fun av x v K => by kernel_rfl) (fun av x n v K => by kernel_rfl)
theorem z0q5 : z008.Ok Tryz.prog := fn_ok (k := z008) (fn := Tryz.f67) (W := []) (H := [z0b0, z0ba]) Tryz.func67 z08o ⟨z0ky, z0kt, trivial⟩ rfl rfl (fun av x => by kernel_rfl)
def z0rl  : Option Bool := some true
def z07o (log : List GReq) (kx0_0 : Option Bool) : Nat → Int → Option Bool
  | 0, _ => none
  | n0 + 1, s0_0 => if decide (s0_0 < (log.length : Int)) = true then ((getI log s0_0).bind fun x3 => ((z0bz x3).bind fun x4 => (if x4 = true then (gd (ok64 (s0_0 + 1)) ((z07o log kx0_0 n0) (s0_0 + 1))) else (some false)))) else (kx0_0)
def z0hr (log : List GReq) : Option Bool := if decide (150 < (log.length : Int)) = true then (some false) else (z07o log z0rl FUEL 0)
def z06v : Con := ⟨78, [.v (.sl (.s .req)) false], [(.B, true)], [], fun x => z0hr x.1⟩
def z1ps : Fs := ⟨[z0gw], []⟩
theorem z16h : z1ps.Ok Tryz.prog := (fsK z1bi fs0)
def z0yp : Tmpl := ⟨[(0, .c (.s (.s .req))), (3, .c .i)], []⟩
def z0st : Tmpl := ⟨[], []⟩
def z1hk (av : AV) (x : HP z06v.ps) (n : Nat) (v : z0yp.den) (K : Ks (CR z06v)) : Option (CR z06v) := z07o v.1.1 (z0st.at none ((), ()) (K (.exit 0))) n v.1.2.1
def z0y5 (av : AV) (x : HP z06v.ps) : Hdl (CR z06v) := hnd [] z0yp (z1hk av x)
theorem z1ew : LP z06v Tryz.f78 [0] z0y5 := lp_ok (W := []) (H := []) (xs := [z0st]) z16h trivial rfl (fun av x v K => by kernel_rfl) (fun av x n v K => by kernel_rfl)
theorem z1q8 : z06v.Ok Tryz.prog := fn_ok (k := z06v) (fn := Tryz.f78) (W := []) (H := [z0y5]) Tryz.func78 z16h ⟨z1ew, trivial⟩ rfl rfl (fun av x => by kernel_rfl)
def z0gl (r : GReq) : Option GReq := gd (([] : List Int).length + r.data.length ≤ SMALL) (some (GReq.mk r.kind r.who r.case r.task r.var r.num (([] : List Int) ++ r.data) r.if_ r.ans))
def z0oa : Con := ⟨80, [.v (.s .req) false], [((.s .req), true)], [], fun x => z0gl x.1⟩
def z1o8 : Fs := ⟨[], []⟩
theorem z1n8 : z1o8.Ok Tryz.prog := fs0
theorem z1n5 : z0oa.Ok Tryz.prog := fn_ok (k := z0oa) (fn := Tryz.f80) (W := []) (H := []) Tryz.func80 z1n8 trivial rfl rfl (fun av x => by kernel_rfl)
def z0lx (l0_1 : List Int) (l0_2 : List GReq) (l0_3 : List GNode) (l0_4 : List GNet) (l0_5 : List GRun) : Option (GHouse × (List GReq)) := some ((GHouse.mk l0_4 l0_1 l0_3 l0_5), l0_2)
def z03v (reqs : List GReq) (kx0_0 : List Int → List GReq → List GNode → List GNet → List GRun → Option (GHouse × (List GReq))) : Nat → Int → List Int → List GReq → List GNode → List GNet → List GRun → Option (GHouse × (List GReq))
  | 0, _, _, _, _, _, _ => none
  | n0 + 1, s0_0, l0_1, l0_2, l0_3, l0_4, l0_5 => if decide (s0_0 < (reqs.length : Int)) = true then ((z0a0 (GHouse.mk l0_4 l0_1 l0_3 l0_5)).bind fun x7 => ((getI reqs s0_0).bind fun x8 => ((z0q1 x7 x8).bind fun x9 => (if decide (x9.2 = 1) = true then ((getI reqs s0_0).bind fun x11 => ((z0gl x11).bind fun x12 => (gd (l0_2.length + [x12].length ≤ SMALL) (gd (ok64 (s0_0 + 1)) ((z03v reqs kx0_0 n0) (s0_0 + 1) x9.1.people (l0_2 ++ [x12]) x9.1.tree x9.1.nets x9.1.runs))))) else (gd (ok64 (s0_0 + 1)) ((z03v reqs kx0_0 n0) (s0_0 + 1) l0_1 l0_2 l0_3 l0_4 l0_5)))))) else (kx0_0 l0_1 l0_2 l0_3 l0_4 l0_5)
def z0fd (h : GHouse) (reqs : List GReq) : Option (GHouse × (List GReq)) := (z0i3 h).bind fun x1 => (if x1 = true then ((z0hr reqs).bind fun x3 => (if x3 = true then ((z0a0 h).bind fun x5 => (z03v reqs z0lx FUEL 0 x5.people ([] : List GReq) x5.tree x5.nets x5.runs)) else (some ((GHouse.mk [] [] [] []), ([] : List GReq))))) else (some ((GHouse.mk [] [] [] []), ([] : List GReq))))
def z04w : Con := ⟨28, [.v (.s .house) false, .v (.sl (.s .req)) false], [((.s .house), true), ((.sl (.s .req)), true)], [], fun x => z0fd x.1 x.2.1⟩
def z1nj : Fs := ⟨[z06w, z06v, z016, z107, z0oa], []⟩
theorem z10m : z1nj.Ok Tryz.prog := (fsK z1tp (fsK z1q8 (fsK z1os (fsK z1wx (fsK z1n5 fs0)))))
def z0rz : Tmpl := ⟨[(1, .c (.s (.s .req))), (4, .c (.bx 4 0)), (6, .c (.ref 11)), (7, .c (.bx 7 0)), (8, .c .i)], [(4, .box [.nl, .nl, .nl, .nl]), (7, .box [.ref 23, .ref 10023, .ref 20023, .ref 30023]), (11, .arr (.s .req) true), (23, .arr (.s .net) true), (10023, .arr .I true), (20023, .arr (.s .node) true), (30023, .arr (.s .run) true)]⟩
def z0ln : Tmpl := ⟨[(4, .c (.bx 4 0)), (6, .c (.ref 11)), (7, .c (.bx 7 0))], [(4, .box [.nl, .nl, .nl, .nl]), (7, .box [.ref 23, .ref 10023, .ref 20023, .ref 30023]), (11, .arr (.s .req) true), (23, .arr (.s .net) true), (10023, .arr .I true), (20023, .arr (.s .node) true), (30023, .arr (.s .run) true)]⟩
def z1b7 (av : AV) (x : HP z04w.ps) (n : Nat) (v : z0rz.den) (K : Ks (CR z04w)) : Option (CR z04w) := z03v v.1.1 (fun l0_1 l0_2 l0_3 l0_4 l0_5 => z0ln.at none (((), (), (), ()), (((), (), (), (), ()), ((), (), (), (), ()), l0_2, l0_4, l0_1, l0_3, l0_5, ())) (K (.exit 0))) n v.1.2.2.2.2.1 v.2.2.2.2.2.1 v.2.2.2.1 v.2.2.2.2.2.2.1 v.2.2.2.2.1 v.2.2.2.2.2.2.2.1
def z0sl (av : AV) (x : HP z04w.ps) : Hdl (CR z04w) := hnd [] z0rz (z1b7 av x)
theorem z1bp : LP z04w Tryz.f28 [0] z0sl := lp_ok (W := []) (H := []) (xs := [z0ln]) z10m trivial rfl (fun av x v K => by kernel_rfl) (fun av x n v K => by kernel_rfl)
theorem z1ns : z04w.Ok Tryz.prog := fn_ok (k := z04w) (fn := Tryz.f28) (W := []) (H := [z0sl]) Tryz.func28 z10m ⟨z1bp, trivial⟩ rfl rfl (fun av x => by kernel_rfl)
def z0mt  : Option Int := some (-1)
def z05y (s : List Int) (p : Int → Option Bool) (p0_0 : Int) (kx0_0 : Option Int) : Nat → Int → Option Int
  | 0, _ => none
  | n0 + 1, s0_0 => if decide (s0_0 < p0_0) = true then ((getI s s0_0).bind fun x2 => ((p x2).bind fun x3 => (if x3 = true then (some s0_0) else (gd (ok64 (s0_0 + 1)) ((z05y s p p0_0 kx0_0 n0) (s0_0 + 1)))))) else (kx0_0)
def z0fl (s : List Int) (p : Int → Option Bool) : Option Int := z05y s p (s.length : Int) z0mt FUEL 0
def z03k : Con := ⟨211, [.v (.sl .I) false, .fn .I], [(.I, true)], [], fun x => z0fl x.1 x.2.1⟩
def z1oc : Fs := ⟨[], []⟩
theorem z10p : z1oc.Ok Tryz.prog := fs0
def z0rw : Tmpl := ⟨[(0, .c (.s .I)), (1, .c .fp), (7, .c .i), (8, .c .i)], []⟩
def z0mc : Tmpl := ⟨[], []⟩
def z1co (av : AV) (x : HP z03k.ps) (n : Nat) (v : z0rw.den) (K : Ks (CR z03k)) : Option (CR z03k) := z05y v.1.1 x.2.1 v.1.2.2.1 (z0mc.at (fpOf z03k.ps x av) ((), ()) (K (.exit 0))) n v.1.2.2.2.1
def z0t9 (av : AV) (x : HP z03k.ps) : Hdl (CR z03k) := hnd [] z0rw (z1co av x)
theorem z1br : LP z03k Tryz.f211 [0] z0t9 := lp_ok (W := []) (H := []) (xs := [z0mc]) z10p trivial rfl (fun av x v K => by kernel_rfl) (fun av x n v K => by kernel_rfl)
theorem z1m4 : z03k.Ok Tryz.prog := fn_ok (k := z03k) (fn := Tryz.f211) (W := []) (H := [z0t9]) Tryz.func211 z10p ⟨z1br, trivial⟩ rfl rfl (fun av x => by kernel_rfl)
def z025 (s : List Int) (p : Int → Option Bool) : Option Bool := (z0fl s p).bind fun x1 => (some (decide (0 ≤ x1)))
def z03z : Con := ⟨164, [.v (.sl .I) false, .fn .I], [(.B, true)], [], fun x => z025 x.1 x.2.1⟩
def z19a : Fs := ⟨[z03k], []⟩
theorem z186 : z19a.Ok Tryz.prog := (fsK z1m4 fs0)
theorem z08a : z03z.Ok Tryz.prog := fn_ok (k := z03z) (fn := Tryz.f164) (W := []) (H := []) Tryz.func164 z186 trivial rfl rfl (fun av x => by kernel_rfl)
def z0fa  : Option Int := some (-1)
def z02s (s : List GReq) (p : GReq → Option Bool) (p0_0 : Int) (kx0_0 : Option Int) : Nat → Int → Option Int
  | 0, _ => none
  | n0 + 1, s0_0 => if decide (s0_0 < p0_0) = true then ((getI s s0_0).bind fun x2 => ((p x2).bind fun x3 => (if x3 = true then (some s0_0) else (gd (ok64 (s0_0 + 1)) ((z02s s p p0_0 kx0_0 n0) (s0_0 + 1)))))) else (kx0_0)
def z0ao (s : List GReq) (p : GReq → Option Bool) : Option Int := z02s s p (s.length : Int) z0fa FUEL 0
def z01m : Con := ⟨204, [.v (.sl (.s .req)) false, .fn (.s .req)], [(.I, true)], [], fun x => z0ao x.1 x.2.1⟩
def z166 : Fs := ⟨[], []⟩
theorem z0pd : z166.Ok Tryz.prog := fs0
def z0h7 : Tmpl := ⟨[(0, .c (.s (.s .req))), (1, .c .fp), (7, .c .i), (8, .c .i)], []⟩
def z0ff : Tmpl := ⟨[], []⟩
def z103 (av : AV) (x : HP z01m.ps) (n : Nat) (v : z0h7.den) (K : Ks (CR z01m)) : Option (CR z01m) := z02s v.1.1 x.2.1 v.1.2.2.1 (z0ff.at (fpOf z01m.ps x av) ((), ()) (K (.exit 0))) n v.1.2.2.2.1
def z0hl (av : AV) (x : HP z01m.ps) : Hdl (CR z01m) := hnd [] z0h7 (z103 av x)
theorem z10b : LP z01m Tryz.f204 [0] z0hl := lp_ok (W := []) (H := []) (xs := [z0ff]) z0pd trivial rfl (fun av x v K => by kernel_rfl) (fun av x n v K => by kernel_rfl)
theorem z16y : z01m.Ok Tryz.prog := fn_ok (k := z01m) (fn := Tryz.f204) (W := []) (H := [z0hl]) Tryz.func204 z0pd ⟨z10b, trivial⟩ rfl rfl (fun av x => by kernel_rfl)
def z07z (s : List GReq) (p : GReq → Option Bool) : Option Bool := (z0ao s p).bind fun x1 => (some (decide (0 ≤ x1)))
def z0a8 : Con := ⟨153, [.v (.sl (.s .req)) false, .fn (.s .req)], [(.B, true)], [], fun x => z07z x.1 x.2.1⟩
def z0x8 : Fs := ⟨[z01m], []⟩
theorem z0ys : z0x8.Ok Tryz.prog := (fsK z16y fs0)
theorem z0xv : z0a8.Ok Tryz.prog := fn_ok (k := z0a8) (fn := Tryz.f153) (W := []) (H := []) Tryz.func153 z0ys trivial rfl rfl (fun av x => by kernel_rfl)
def z0ev  : Option Int := some (-1)
def z02b (s : List GTask) (p : GTask → Option Bool) (p0_0 : Int) (kx0_0 : Option Int) : Nat → Int → Option Int
  | 0, _ => none
  | n0 + 1, s0_0 => if decide (s0_0 < p0_0) = true then ((getI s s0_0).bind fun x2 => ((p x2).bind fun x3 => (if x3 = true then (some s0_0) else (gd (ok64 (s0_0 + 1)) ((z02b s p p0_0 kx0_0 n0) (s0_0 + 1)))))) else (kx0_0)
def z098 (s : List GTask) (p : GTask → Option Bool) : Option Int := z02b s p (s.length : Int) z0ev FUEL 0
def z01a : Con := ⟨206, [.v (.sl (.s .task)) false, .fn (.s .task)], [(.I, true)], [], fun x => z098 x.1 x.2.1⟩
def z12v : Fs := ⟨[], []⟩
theorem z0jg : z12v.Ok Tryz.prog := fs0
def z0f5 : Tmpl := ⟨[(0, .c (.s (.s .task))), (1, .c .fp), (7, .c .i), (8, .c .i)], []⟩
def z0es : Tmpl := ⟨[], []⟩
def z0yu (av : AV) (x : HP z01a.ps) (n : Nat) (v : z0f5.den) (K : Ks (CR z01a)) : Option (CR z01a) := z02b v.1.1 x.2.1 v.1.2.2.1 (z0es.at (fpOf z01a.ps x av) ((), ()) (K (.exit 0))) n v.1.2.2.2.1
def z0ge (av : AV) (x : HP z01a.ps) : Hdl (CR z01a) := hnd [] z0f5 (z0yu av x)
theorem z0w7 : LP z01a Tryz.f206 [0] z0ge := lp_ok (W := []) (H := []) (xs := [z0es]) z0jg trivial rfl (fun av x v K => by kernel_rfl) (fun av x n v K => by kernel_rfl)
theorem z138 : z01a.Ok Tryz.prog := fn_ok (k := z01a) (fn := Tryz.f206) (W := []) (H := [z0ge]) Tryz.func206 z0jg ⟨z0w7, trivial⟩ rfl rfl (fun av x => by kernel_rfl)
def z06x (s : List GTask) (p : GTask → Option Bool) : Option Bool := (z098 s p).bind fun x1 => (some (decide (0 ≤ x1)))
def z09h : Con := ⟨161, [.v (.sl (.s .task)) false, .fn (.s .task)], [(.B, true)], [], fun x => z06x x.1 x.2.1⟩
def z0uo : Fs := ⟨[z01a], []⟩
theorem z0tt : z0uo.Ok Tryz.prog := (fsK z138 fs0)
theorem z0uk : z09h.Ok Tryz.prog := fn_ok (k := z09h) (fn := Tryz.f161) (W := []) (H := []) Tryz.func161 z0tt trivial rfl rfl (fun av x => by kernel_rfl)
def z0fe  : Option Int := some (-1)
def z02r (s : List GNet) (p : GNet → Option Bool) (p0_0 : Int) (kx0_0 : Option Int) : Nat → Int → Option Int
  | 0, _ => none
  | n0 + 1, s0_0 => if decide (s0_0 < p0_0) = true then ((getI s s0_0).bind fun x2 => ((p x2).bind fun x3 => (if x3 = true then (some s0_0) else (gd (ok64 (s0_0 + 1)) ((z02r s p p0_0 kx0_0 n0) (s0_0 + 1)))))) else (kx0_0)
def z0a5 (s : List GNet) (p : GNet → Option Bool) : Option Int := z02r s p (s.length : Int) z0fe FUEL 0
def z01o : Con := ⟨159, [.v (.sl (.s .net)) false, .fn (.s .net)], [(.I, true)], [], fun x => z0a5 x.1 x.2.1⟩
def z192 : Fs := ⟨[], []⟩
theorem z0nk : z192.Ok Tryz.prog := fs0
def z0hi : Tmpl := ⟨[(0, .c (.s (.s .net))), (1, .c .fp), (7, .c .i), (8, .c .i)], []⟩
def z0f8 : Tmpl := ⟨[], []⟩
def z109 (av : AV) (x : HP z01o.ps) (n : Nat) (v : z0hi.den) (K : Ks (CR z01o)) : Option (CR z01o) := z02r v.1.1 x.2.1 v.1.2.2.1 (z0f8.at (fpOf z01o.ps x av) ((), ()) (K (.exit 0))) n v.1.2.2.2.1
def z0h8 (av : AV) (x : HP z01o.ps) : Hdl (CR z01o) := hnd [] z0hi (z109 av x)
theorem z0zf : LP z01o Tryz.f159 [0] z0h8 := lp_ok (W := []) (H := []) (xs := [z0f8]) z0nk trivial rfl (fun av x v K => by kernel_rfl) (fun av x n v K => by kernel_rfl)
theorem z15u : z01o.Ok Tryz.prog := fn_ok (k := z01o) (fn := Tryz.f159) (W := []) (H := [z0h8]) Tryz.func159 z0nk ⟨z0zf, trivial⟩ rfl rfl (fun av x => by kernel_rfl)
def z07w (s : List GNet) (p : GNet → Option Bool) : Option Bool := (z0a5 s p).bind fun x1 => (some (decide (0 ≤ x1)))
def z0ak : Con := ⟨88, [.v (.sl (.s .net)) false, .fn (.s .net)], [(.B, true)], [], fun x => z07w x.1 x.2.1⟩
def z0xi : Fs := ⟨[z01o], []⟩
theorem z0x7 : z0xi.Ok Tryz.prog := (fsK z15u fs0)
theorem z0w9 : z0ak.Ok Tryz.prog := fn_ok (k := z0ak) (fn := Tryz.f88) (W := []) (H := []) Tryz.func88 z0x7 trivial rfl rfl (fun av x => by kernel_rfl)
def z0eq  : Option Int := some (-1)
def z02h (s : List GItem) (p : GItem → Option Bool) (p0_0 : Int) (kx0_0 : Option Int) : Nat → Int → Option Int
  | 0, _ => none
  | n0 + 1, s0_0 => if decide (s0_0 < p0_0) = true then ((getI s s0_0).bind fun x2 => ((p x2).bind fun x3 => (if x3 = true then (some s0_0) else (gd (ok64 (s0_0 + 1)) ((z02h s p p0_0 kx0_0 n0) (s0_0 + 1)))))) else (kx0_0)
def z094 (s : List GItem) (p : GItem → Option Bool) : Option Int := z02h s p (s.length : Int) z0eq FUEL 0
def z019 : Con := ⟨218, [.v (.sl (.s .item)) false, .fn (.s .item)], [(.I, true)], [], fun x => z094 x.1 x.2.1⟩
def z13j : Fs := ⟨[], []⟩
theorem z0j6 : z13j.Ok Tryz.prog := fs0
def z0gk : Tmpl := ⟨[(0, .c (.s (.s .item))), (1, .c .fp), (7, .c .i), (8, .c .i)], []⟩
def z0ei : Tmpl := ⟨[], []⟩
def z0w0 (av : AV) (x : HP z019.ps) (n : Nat) (v : z0gk.den) (K : Ks (CR z019)) : Option (CR z019) := z02h v.1.1 x.2.1 v.1.2.2.1 (z0ei.at (fpOf z019.ps x av) ((), ()) (K (.exit 0))) n v.1.2.2.2.1
def z0gi (av : AV) (x : HP z019.ps) : Hdl (CR z019) := hnd [] z0gk (z0w0 av x)
theorem z0wk : LP z019 Tryz.f218 [0] z0gi := lp_ok (W := []) (H := []) (xs := [z0ei]) z0j6 trivial rfl (fun av x v K => by kernel_rfl) (fun av x n v K => by kernel_rfl)
theorem z12x : z019.Ok Tryz.prog := fn_ok (k := z019) (fn := Tryz.f218) (W := []) (H := [z0gi]) Tryz.func218 z0j6 ⟨z0wk, trivial⟩ rfl rfl (fun av x => by kernel_rfl)
def z073 (s : List GItem) (p : GItem → Option Bool) : Option Bool := (z094 s p).bind fun x1 => (some (decide (0 ≤ x1)))
def z09p : Con := ⟨182, [.v (.sl (.s .item)) false, .fn (.s .item)], [(.B, true)], [], fun x => z073 x.1 x.2.1⟩
def z0us : Fs := ⟨[z019], []⟩
theorem z0to : z0us.Ok Tryz.prog := (fsK z12x fs0)
theorem z0u5 : z09p.Ok Tryz.prog := fn_ok (k := z09p) (fn := Tryz.f182) (W := []) (H := []) Tryz.func182 z0to trivial rfl rfl (fun av x => by kernel_rfl)
def z195  : Option Int := some (-1)
def z0bf (s : List Int) (v : Int) (p0_0 : Int) (kx0_0 : Option Int) : Nat → Int → Option Int
  | 0, _ => none
  | n0 + 1, s0_0 => if decide (s0_0 < p0_0) = true then ((getI s s0_0).bind fun x2 => (if decide (v = x2) = true then (some s0_0) else (gd (ok64 (s0_0 + 1)) ((z0bf s v p0_0 kx0_0 n0) (s0_0 + 1))))) else (kx0_0)
def z13o (s : List Int) (v : Int) : Option Int := z0bf s v (s.length : Int) z195 FUEL 0
def z0du : Con := ⟨179, [.v (.sl .I) false, .v .I false], [(.I, true)], [], fun x => z13o x.1 x.2.1⟩
def z252 : Fs := ⟨[], []⟩
theorem z1v7 : z252.Ok Tryz.prog := fs0
def z1dl : Tmpl := ⟨[(0, .c (.s .I)), (1, .c .i), (7, .c .i), (8, .c .i)], []⟩
def z13x : Tmpl := ⟨[], []⟩
def z203 (av : AV) (x : HP z0du.ps) (n : Nat) (v : z1dl.den) (K : Ks (CR z0du)) : Option (CR z0du) := z0bf v.1.1 v.1.2.1 v.1.2.2.1 (z13x.at none ((), ()) (K (.exit 0))) n v.1.2.2.2.1
def z1cq (av : AV) (x : HP z0du.ps) : Hdl (CR z0du) := hnd [] z1dl (z203 av x)
theorem z1xy : LP z0du Tryz.f179 [0] z1cq := lp_ok (W := []) (H := []) (xs := [z13x]) z1v7 trivial rfl (fun av x v K => by kernel_rfl) (fun av x n v K => by kernel_rfl)
theorem z24l : z0du.Ok Tryz.prog := fn_ok (k := z0du) (fn := Tryz.f179) (W := []) (H := [z1cq]) Tryz.func179 z1v7 ⟨z1xy, trivial⟩ rfl rfl (fun av x => by kernel_rfl)
def z0bn (s : List Int) (v : Int) : Option Bool := (z13o s v).bind fun x1 => (some (decide (0 ≤ x1)))
def z0ep : Con := ⟨108, [.v (.sl .I) false, .v .I false], [(.B, true)], [], fun x => z0bn x.1 x.2.1⟩
def z1u0 : Fs := ⟨[z0du], []⟩
theorem z1qv : z1u0.Ok Tryz.prog := (fsK z24l fs0)
theorem z0v0 : z0ep.Ok Tryz.prog := fn_ok (k := z0ep) (fn := Tryz.f108) (W := []) (H := []) Tryz.func108 z1qv trivial rfl rfl (fun av x => by kernel_rfl)
def z0rd  : Option Int := some (-1)
def z07h (s : List GDid) (v : GDid) (p0_0 : Int) (kx0_0 : Option Int) : Nat → Int → Option Int
  | 0, _ => none
  | n0 + 1, s0_0 => if decide (s0_0 < p0_0) = true then ((getI s s0_0).bind fun x2 => (if decide ([v.task, v.who] = [x2.task, x2.who]) = true then (some s0_0) else (gd (ok64 (s0_0 + 1)) ((z07h s v p0_0 kx0_0 n0) (s0_0 + 1))))) else (kx0_0)
def z0j0 (s : List GDid) (v : GDid) : Option Int := z07h s v (s.length : Int) z0rd FUEL 0
def z06y : Con := ⟨232, [.v (.sl (.s .did)) false, .v (.s .did) false], [(.I, true)], [], fun x => z0j0 x.1 x.2.1⟩
def z1uo : Fs := ⟨[], []⟩
theorem z18y : z1uo.Ok Tryz.prog := fs0
def z0yk : Tmpl := ⟨[(0, .c (.s (.s .did))), (3, .c (.bx 3 0)), (7, .c .i), (8, .c .i)], [(3, .boxT (.s .did))]⟩
def z0r0 : Tmpl := ⟨[], []⟩
def z1gd (av : AV) (x : HP z06y.ps) (n : Nat) (v : z0yk.den) (K : Ks (CR z06y)) : Option (CR z06y) := z07h v.1.1 v.2.1 v.1.2.2.1 (z0r0.at none ((), ()) (K (.exit 0))) n v.1.2.2.2.1
def z0vt (av : AV) (x : HP z06y.ps) : Hdl (CR z06y) := hnd [] z0yk (z1gd av x)
theorem z1gh : LP z06y Tryz.f232 [0] z0vt := lp_ok (W := []) (H := []) (xs := [z0r0]) z18y trivial rfl (fun av x v K => by kernel_rfl) (fun av x n v K => by kernel_rfl)
theorem z1q6 : z06y.Ok Tryz.prog := fn_ok (k := z06y) (fn := Tryz.f232) (W := []) (H := [z0vt]) Tryz.func232 z18y ⟨z1gh, trivial⟩ rfl rfl (fun av x => by kernel_rfl)
def z0go (s : List GDid) (v : GDid) : Option Bool := (z0j0 s v).bind fun x1 => (some (decide (0 ≤ x1)))
def z0gu : Con := ⟨219, [.v (.sl (.s .did)) false, .v (.s .did) false], [(.B, true)], [], fun x => z0go x.1 x.2.1⟩
def z1b4 : Fs := ⟨[z06y], []⟩
theorem z1aa : z1b4.Ok Tryz.prog := (fsK z1q6 fs0)
theorem z1au : z0gu.Ok Tryz.prog := fn_ok (k := z0gu) (fn := Tryz.f219) (W := []) (H := []) Tryz.func219 z1aa trivial rfl rfl (fun av x => by kernel_rfl)
def z14a  : Option Bool := some true
def z0br (s1 : List Int) (s2 : List Int) (p0_0 : Int) (kx0_0 : Option Bool) : Nat → Int → Option Bool
  | 0, _ => none
  | n0 + 1, s0_0 => if decide (s0_0 < p0_0) = true then ((getI s1 s0_0).bind fun x3 => ((getI s2 s0_0).bind fun x4 => (if decide (x3 = x4) = true then (gd (ok64 (s0_0 + 1)) ((z0br s1 s2 p0_0 kx0_0 n0) (s0_0 + 1))) else (some false)))) else (kx0_0)
def z13m (s1 : List Int) (s2 : List Int) : Option Bool := if decide ((s1.length : Int) = (s2.length : Int)) = true then (z0br s1 s2 (s1.length : Int) z14a FUEL 0) else (some false)
def z0dz : Con := ⟨199, [.v (.sl .I) false, .v (.sl .I) false], [(.B, true)], [], fun x => z13m x.1 x.2.1⟩
def z24h : Fs := ⟨[], []⟩
theorem z1v3 : z24h.Ok Tryz.prog := fs0
def z1di : Tmpl := ⟨[(0, .c (.s .I)), (1, .c (.s .I)), (12, .c .i), (13, .c .i)], []⟩
def z196 : Tmpl := ⟨[], []⟩
def z1y1 (av : AV) (x : HP z0dz.ps) (n : Nat) (v : z1di.den) (K : Ks (CR z0dz)) : Option (CR z0dz) := z0br v.1.1 v.1.2.1 v.1.2.2.1 (z196.at none ((), ()) (K (.exit 0))) n v.1.2.2.2.1
def z1d0 (av : AV) (x : HP z0dz.ps) : Hdl (CR z0dz) := hnd [] z1di (z1y1 av x)
theorem z1y8 : LP z0dz Tryz.f199 [0] z1d0 := lp_ok (W := []) (H := []) (xs := [z196]) z1v3 trivial rfl (fun av x v K => by kernel_rfl) (fun av x n v K => by kernel_rfl)
theorem z24j : z0dz.Ok Tryz.prog := fn_ok (k := z0dz) (fn := Tryz.f199) (W := []) (H := [z1d0]) Tryz.func199 z1v3 ⟨z1y8, trivial⟩ rfl rfl (fun av x => by kernel_rfl)
def z0hz (n : Int) : Option Bool := (z05d n).bind fun x1 => (some (!x1))
def z0hu : FCon := ⟨198, .I, [], fun z c => z0hz z ⟩
def z1ey : Fs := ⟨[z08l], []⟩
theorem z1fh : z1ey.Ok Tryz.prog := (fsK z0do fs0)
theorem z1f8 : z0hu.Ok Tryz.prog := FCon.ok (fn_ok (k := z0hu.con) (fn := Tryz.f198) (W := []) (H := []) Tryz.func198 z1fh trivial rfl rfl (fun av x => by kernel_rfl))
def z03u (data : List Int) : Option Bool := if decide ((data.length : Int) = 3) = true then ((z025 data (fun z => z0hz z )).bind fun x2 => (some (!x2))) else (some false)
def z06t : Con := ⟨140, [.v (.sl .I) false], [(.B, true)], [], fun x => z03u x.1⟩
def z1rn : Fs := ⟨[z03z], [z0hu]⟩
theorem z1qy : z1rn.Ok Tryz.prog := (fsK z08a (fsF z1f8 fs0))
theorem z09o : z06t.Ok Tryz.prog := fn_ok (k := z06t) (fn := Tryz.f140) (W := []) (H := []) Tryz.func140 z1qy trivial rfl rfl (fun av x => by kernel_rfl)
def z020 (e : GAsk) (data : List Int) : Option Bool := (z085 e).bind fun x1 => (if x1 = true then ((z03u data).bind fun x3 => (if x3 = true then (if decide (e.op = 1) = true then ((getI data e.var).bind fun x6 => (some (decide (x6 < e.k)))) else (if decide (e.op = 2) = true then ((getI data e.var).bind fun x8 => (some (decide (x8 = e.k)))) else (if decide (e.op = 3) = true then ((getI data e.var).bind fun x10 => (some (decide (e.k < x10)))) else (some true)))) else (some false))) else (some false))
def z03n : Con := ⟨166, [.v (.s .ask) false, .v (.sl .I) false], [(.B, true)], [], fun x => z020 x.1 x.2.1⟩
def z19z : Fs := ⟨[z0ea, z06t], []⟩
theorem z1by : z19z.Ok Tryz.prog := (fsK z0up (fsK z09o fs0))
theorem z07n : z03n.Ok Tryz.prog := fn_ok (k := z03n) (fn := Tryz.f166) (W := []) (H := []) Tryz.func166 z1by trivial rfl rfl (fun av x => by kernel_rfl)
def z0ko  : Option Bool := some true
def z046 (list : List Int) (places : Int) (without : List Int) (p0_0 : Int) (kx0_0 : Option Bool) : Nat → Int → Int → Option Bool
  | 0, _, _ => none
  | n0 + 1, s0_0, s0_1 => if decide (s0_0 < p0_0) = true then ((getI list s0_0).bind fun x2 => (gd (ok64 (s0_1 + 1)) (gd (ok64 (places - 1)) ((z00b x2 (s0_1 + 1) (places - 1)).bind fun x5 => (if x5 = true then ((z0bn without x2).bind fun x7 => (if x7 = true then (some false) else (gd (ok64 (s0_0 + 1)) ((z046 list places without p0_0 kx0_0 n0) (s0_0 + 1) x2)))) else (some false)))))) else (kx0_0)
def z0ac (list : List Int) (places : Int) (without : List Int) : Option Bool := z046 list places without (list.length : Int) z0ko FUEL 0 (-1)
def z035 : Con := ⟨208, [.v (.sl .I) false, .v .I false, .v (.sl .I) false], [(.B, true)], [], fun x => z0ac x.1 x.2.1 x.2.2.1⟩
def z1iu : Fs := ⟨[z029, z0ep], []⟩
theorem z0yx : z1iu.Ok Tryz.prog := (fsK z02t (fsK z0v0 fs0))
def z0ng : Tmpl := ⟨[(1, .c .i), (2, .c (.s .I)), (7, .c .i), (10, .c (.s .I)), (11, .c .i), (12, .c .i)], []⟩
def z0k8 : Tmpl := ⟨[], []⟩
def z148 (av : AV) (x : HP z035.ps) (n : Nat) (v : z0ng.den) (K : Ks (CR z035)) : Option (CR z035) := z046 v.1.2.2.2.1 v.1.1 v.1.2.1 v.1.2.2.2.2.1 (z0k8.at none ((), ()) (K (.exit 0))) n v.1.2.2.2.2.2.1 v.1.2.2.1
def z0lk (av : AV) (x : HP z035.ps) : Hdl (CR z035) := hnd [] z0ng (z148 av x)
theorem z18e : LP z035 Tryz.f208 [0] z0lk := lp_ok (W := []) (H := []) (xs := [z0k8]) z0yx trivial rfl (fun av x v K => by kernel_rfl) (fun av x n v K => by kernel_rfl)
theorem z1hr : z035.Ok Tryz.prog := fn_ok (k := z035) (fn := Tryz.f208) (W := []) (H := [z0lk]) Tryz.func208 z0yx ⟨z18e, trivial⟩ rfl rfl (fun av x => by kernel_rfl)
def z07s (t : GTask) : Option Bool := (z00b (t.out.length : Int) 1 3).bind fun x21 => (some x21)
def z011 (t : GTask) (places : Int) (p0_0 : List GFlow) (p0_1 : Int) (kx0_0 : Option Bool) : Nat → Int → List Int → Option Bool
  | 0, _, _ => none
  | n0 + 1, s0_0, m0_1 => if decide (s0_0 < p0_1) = true then ((getI p0_0 s0_0).bind fun x2 => (if decide (t.split = 1) = true then (gd (ok64 (places - 1)) ((z00b x2.to 0 (places - 1)).bind fun x5 => (if x5 = true then (if decide (x2.to ∈ m0_1) = true then (some false) else ((z085 x2.if_).bind fun x8 => (if x8 = true then (if ((decide (x2.if_.op = 0)) == true) = true then (gd (ok64 (s0_0 + 1)) ((z011 t places p0_0 p0_1 kx0_0 n0) (s0_0 + 1) (insKey m0_1 x2.to))) else (some false)) else (some false)))) else (some false)))) else (gd (ok64 ((t.out.length : Int) - 1)) (gd (ok64 (places - 1)) ((z00b x2.to 0 (places - 1)).bind fun x14 => (if x14 = true then (if decide (x2.to ∈ m0_1) = true then (some false) else ((z085 x2.if_).bind fun x17 => (if x17 = true then (if ((decide (x2.if_.op = 0)) == (decide (s0_0 = ((t.out.length : Int) - 1)))) = true then (gd (ok64 (s0_0 + 1)) ((z011 t places p0_0 p0_1 kx0_0 n0) (s0_0 + 1) (insKey m0_1 x2.to))) else (some false)) else (some false)))) else (some false))))))) else (kx0_0)
def z070 (t : GTask) (places : Int) : Option Bool := z011 t places t.out (t.out.length : Int) (z07s t) FUEL 0 (insKey ([] : List Int) 0)
def z00x : Con := ⟨209, [.v (.s .task) false, .v .I false], [(.B, true)], [], fun x => z070 x.1 x.2.1⟩
def z0va : Fs := ⟨[z029, z0ea], []⟩
theorem z0er : z0va.Ok Tryz.prog := (fsK z02t (fsK z0up fs0))
def z0cm : Tmpl := ⟨[(1, .c .i), (2, .c (.bx 2 0)), (5, .c (.bx 9 0)), (12, .c (.s (.s .flow))), (13, .c .i), (14, .c .i)], [(2, .boxT (.s .task)), (9, .mp)]⟩
def z0b3 : Tmpl := ⟨[(2, .c (.bx 2 0))], [(2, .boxT (.s .task))]⟩
def z0n5 (av : AV) (x : HP z00x.ps) (n : Nat) (v : z0cm.den) (K : Ks (CR z00x)) : Option (CR z00x) := z011 v.2.1 v.1.1 v.1.2.2.2.1 v.1.2.2.2.2.1 (z0b3.at none (((), ()), (v.2.1, ())) (K (.exit 0))) n v.1.2.2.2.2.2.1 v.2.2.1
def z0cu (av : AV) (x : HP z00x.ps) : Hdl (CR z00x) := hnd [] z0cm (z0n5 av x)
theorem z0lw : LP z00x Tryz.f209 [0] z0cu := lp_ok (W := []) (H := []) (xs := [z0b3]) z0er trivial rfl (fun av x v K => by kernel_rfl) (fun av x n v K => by kernel_rfl)
theorem z0uw : z00x.Ok Tryz.prog := fn_ok (k := z00x) (fn := Tryz.f209) (W := []) (H := [z0cu]) Tryz.func209 z0er ⟨z0lw, trivial⟩ rfl rfl (fun av x => by kernel_rfl)
def z09d (t : GTask) (places : Int) (tasks : Int) : Option Bool := (z0g5 t.join).bind fun x1 => (if x1 = true then ((z0g5 t.split).bind fun x3 => (if x3 = true then ((z00b (t.in_.length : Int) 1 3).bind fun x5 => (if x5 = true then ((z0ac t.in_ places [1]).bind fun x7 => (if x7 = true then ((z070 t places).bind fun x9 => (if x9 = true then ((z0ac t.clear places [0, 1]).bind fun x11 => (if x11 = true then ((z0ct t.role).bind fun x13 => (if x13 = true then (gd (ok64 (tasks - 1)) ((z00b t.apart (-1) (tasks - 1)).bind fun x16 => (if x16 = true then ((z00b t.all 1 3).bind fun x18 => (if x18 = true then ((z00b t.need 1 t.all).bind fun x20 => (some x20)) else (some false))) else (some false)))) else (some false))) else (some false))) else (some false))) else (some false))) else (some false))) else (some false))) else (some false))
def z0cy : Con := ⟨163, [.v (.s .task) false, .v .I false, .v .I false], [(.B, true)], [], fun x => z09d x.1 x.2.1 x.2.2.1⟩
def z133 : Fs := ⟨[z0ml, z029, z035, z00x, z0g2], []⟩
theorem z13c : z133.Ok Tryz.prog := (fsK z1j9 (fsK z02t (fsK z1hr (fsK z0uw (fsK z10f fs0)))))
theorem z13b : z0cy.Ok Tryz.prog := fn_ok (k := z0cy) (fn := Tryz.f163) (W := []) (H := []) Tryz.func163 z13c trivial rfl rfl (fun av x => by kernel_rfl)
def z0id (t : GTask) (n : GNet) : Option Bool := (z09d t n.places (n.tasks.length : Int)).bind fun x1 => (some (!x1))
def z0iu : FCon := ⟨162, (.s .task), [(.s .net)], fun z c => z0id z c.1⟩
def z1hj : Fs := ⟨[z0cy], []⟩
theorem z1ez : z1hj.Ok Tryz.prog := (fsK z13b fs0)
theorem z1i0 : z0iu.Ok Tryz.prog := FCon.ok (fn_ok (k := z0iu.con) (fn := Tryz.f162) (W := []) (H := []) Tryz.func162 z1ez trivial rfl rfl (fun av x => by kernel_rfl))
def z09r (n : GNet) : Option Bool := (z0iy n.places (n.tasks.length : Int)).bind fun x1 => (if x1 = true then ((z06x n.tasks (fun z => z0id z n)).bind fun x3 => (some (!x3))) else (some false))
def z0bd : Con := ⟨90, [.v (.s .net) false], [(.B, true)], [], fun x => z09r x.1⟩
def z1q1 : Fs := ⟨[z0ie, z09h], [z0iu]⟩
theorem z1t1 : z1q1.Ok Tryz.prog := (fsK z1ga (fsK z0uk (fsF z1i0 fs0)))
theorem z0ib : z0bd.Ok Tryz.prog := fn_ok (k := z0bd) (fn := Tryz.f90) (W := []) (H := []) Tryz.func90 z1t1 trivial rfl rfl (fun av x => by kernel_rfl)
def z05j (p : Int) (out : List Bool) : Option Bool := (getI out p).bind fun x1 => (some x1)
def z08p : FCon := ⟨234, .I, [(.sl .B)], fun z c => z05j z c.1⟩
def z0qm : Fs := ⟨[], []⟩
theorem z0qd : z0qm.Ok Tryz.prog := fs0
theorem z0ql : z08p.Ok Tryz.prog := FCon.ok (fn_ok (k := z08p.con) (fn := Tryz.f234) (W := []) (H := []) Tryz.func234 z0qd trivial rfl rfl (fun av x => by kernel_rfl))
def z0ce (s1_0 : List GTask) (s1_1 : Int) (s1_2 : Int) (bk1 : List GTask → Int → Int → Bool → List Bool → Option (List Bool)) (s2_1 : Bool) (l2_2 : List Bool) : Option (List Bool) := gd (ok64 (s1_2 + 1)) (bk1 s1_0 s1_1 (s1_2 + 1) s2_1 l2_2)
def z00d (p2_0 : List GFlow) (p2_1 : Int) (kx2_0 : Bool → List Bool → Option (List Bool)) : Nat → Int → Bool → List Bool → Option (List Bool)
  | 0, _, _, _ => none
  | n2 + 1, s2_0, s2_1, l2_2 => if decide (s2_0 < p2_1) = true then ((getI p2_0 s2_0).bind fun x11 => (if s2_1 = true then ((getI l2_2 x11.to).bind fun x13 => (gd (ok64 (s2_0 + 1)) ((z00d p2_0 p2_1 kx2_0 n2) (s2_0 + 1) true (l2_2.set x11.to.toNat true)))) else ((getI l2_2 x11.to).bind fun x15 => ((getI l2_2 x11.to).bind fun x16 => (gd (ok64 (s2_0 + 1)) ((z00d p2_0 p2_1 kx2_0 n2) (s2_0 + 1) (!x15) (l2_2.set x11.to.toNat true))))))) else (kx2_0 s2_1 l2_2)
def z08c (bk0 : Bool → List Bool → Option (List Bool)) (s1_3 : Bool) (l1_4 : List Bool) : Option (List Bool) := bk0 s1_3 l1_4
def z009 (but : Int) (kx1_0 : Bool → List Bool → Option (List Bool)) : Nat → List GTask → Int → Int → Bool → List Bool → Option (List Bool)
  | 0, _, _, _, _, _ => none
  | n1 + 1, s1_0, s1_1, s1_2, s1_3, l1_4 => if decide (s1_2 < s1_1) = true then ((getI s1_0 s1_2).bind fun x5 => (if decide (s1_2 = but) = true then (gd (ok64 (s1_2 + 1)) ((z009 but kx1_0 n1) s1_0 s1_1 (s1_2 + 1) s1_3 l1_4)) else ((z025 x5.in_ (fun z => z05j z l1_4)).bind fun x8 => (if x8 = true then (z00d x5.out (x5.out.length : Int) (z0ce s1_0 s1_1 s1_2 (z009 but kx1_0 n1)) FUEL 0 s1_3 l1_4) else (gd (ok64 (s1_2 + 1)) ((z009 but kx1_0 n1) s1_0 s1_1 (s1_2 + 1) s1_3 l1_4)))))) else (kx1_0 s1_3 l1_4)
def z0cv (l0_1 : List Bool) : Option (List Bool) := some l0_1
def z00r (n : GNet) (but : Int) (kx0_0 : List Bool → Option (List Bool)) : Nat → Bool → List Bool → Option (List Bool)
  | 0, _, _ => none
  | n0 + 1, s0_0, l0_1 => if s0_0 = true then (z009 but (z08c (z00r n but kx0_0 n0)) FUEL n.tasks (n.tasks.length : Int) 0 false l0_1) else (kx0_0 l0_1)
def z080 (n : GNet) (place : Int) (but : Int) : Option (List Bool) := gd ((0 : Int) ≤ n.places ∧ n.places ≤ (1000000000 : Int)) ((getI (List.replicate n.places.toNat false) place).bind fun x2 => (z00r n but z0cv FUEL true ((List.replicate n.places.toNat false).set place.toNat true)))
def z003 : Con := ⟨230, [.v (.s .net) false, .v .I false, .v .I false], [((.sl .B), true)], [], fun x => z080 x.1 x.2.1 x.2.2.1⟩
def z0yg : Fs := ⟨[z03z], [z08p]⟩
theorem z081 : z0yg.Ok Tryz.prog := (fsK z08a (fsF z0ql fs0))
def z0a2 : Tmpl := ⟨[(2, .c .i), (3, .c (.bx 3 0)), (7, .c (.bx 7 0)), (8, .c .b), (21, .c (.s (.s .task))), (22, .c .i), (23, .c .i), (39, .c (.s (.s .flow))), (40, .c .i), (41, .c .i)], [(3, .boxT (.s .net)), (7, .box [.ref 15]), (15, .arr .B true)]⟩
def z090 : Tmpl := ⟨[(2, .c .i), (3, .c (.bx 3 0)), (7, .c (.bx 7 0)), (8, .c .b), (21, .c (.s (.s .task))), (22, .c .i), (23, .c .i)], [(3, .boxT (.s .net)), (7, .box [.ref 15]), (15, .arr .B true)]⟩
def z0gx (av : AV) (x : HP z003.ps) (n : Nat) (v : z0a2.den) (K : Ks (CR z003)) : Option (CR z003) := z00d v.1.2.2.2.2.2.2.2.1 v.1.2.2.2.2.2.2.2.2.1 (fun s2_1 l2_2 => z090.at none ((v.1.1, (), (), s2_1, v.1.2.2.2.2.1, v.1.2.2.2.2.2.1, v.1.2.2.2.2.2.2.1, ()), (v.2.1, ((), ()), l2_2, ())) (K (.exit 4))) n v.1.2.2.2.2.2.2.2.2.2.1 v.1.2.2.2.1 v.2.2.2.1
def z09v (av : AV) (x : HP z003.ps) : Hdl (CR z003) := hnd [] z0a2 (z0gx av x)
theorem z0he : LP z003 Tryz.f230 [0, 0, 0] z09v := lp_ok (W := []) (H := []) (xs := [z090]) z081 trivial rfl (fun av x v K => by kernel_rfl) (fun av x n v K => by kernel_rfl)
def z0bb : Tmpl := ⟨[(2, .c .i), (3, .c (.bx 3 0)), (7, .c (.bx 7 0)), (8, .c .b), (21, .c (.s (.s .task))), (22, .c .i), (23, .c .i)], [(3, .boxT (.s .net)), (7, .box [.ref 15]), (15, .arr .B true)]⟩
def z0al : Tmpl := ⟨[(2, .c .i), (3, .c (.bx 3 0)), (7, .c (.bx 7 0)), (8, .c .b)], [(3, .boxT (.s .net)), (7, .box [.ref 15]), (15, .arr .B true)]⟩
def z0lb (av : AV) (x : HP z003.ps) (n : Nat) (v : z0bb.den) (K : Ks (CR z003)) : Option (CR z003) := z009 v.1.1 (fun s1_3 l1_4 => z0al.at none ((v.1.1, (), (), s1_3, ()), (v.2.1, ((), ()), l1_4, ())) (K (.exit 2))) n v.1.2.2.2.2.1 v.1.2.2.2.2.2.1 v.1.2.2.2.2.2.2.1 v.1.2.2.2.1 v.2.2.2.1
def z0bc (av : AV) (x : HP z003.ps) : Hdl (CR z003) := hnd [] z0bb (z0lb av x)
theorem z0l4 : LP z003 Tryz.f230 [0, 0] z0bc := lp_ok (W := []) (H := [z09v]) (xs := [z0al]) z081 ⟨z0he, trivial⟩ rfl (fun av x v K => by kernel_rfl) (fun av x n v K => by kernel_rfl)
def z0dc : Tmpl := ⟨[(2, .c .i), (3, .c (.bx 3 0)), (7, .c (.bx 7 0)), (8, .c .b)], [(3, .boxT (.s .net)), (7, .box [.ref 15]), (15, .arr .B true)]⟩
def z0cp : Tmpl := ⟨[(7, .c (.bx 7 0))], [(7, .box [.ref 15]), (15, .arr .B true)]⟩
def z0qn (av : AV) (x : HP z003.ps) (n : Nat) (v : z0dc.den) (K : Ks (CR z003)) : Option (CR z003) := z00r v.2.1 v.1.1 (fun l0_1 => z0cp.at none (((), ()), (((), ()), l0_1, ())) (K (.exit 0))) n v.1.2.2.2.1 v.2.2.2.1
def z0d4 (av : AV) (x : HP z003.ps) : Hdl (CR z003) := hnd [] z0dc (z0qn av x)
theorem z0qb : LP z003 Tryz.f230 [0] z0d4 := lp_ok (W := []) (H := [z0bc]) (xs := [z0cp]) z081 ⟨z0l4, trivial⟩ rfl (fun av x v K => by kernel_rfl) (fun av x n v K => by kernel_rfl)
theorem z0xo : z003.Ok Tryz.prog := fn_ok (k := z003) (fn := Tryz.f230) (W := []) (H := [z0d4]) Tryz.func230 z081 ⟨z0qb, trivial⟩ rfl rfl (fun av x => by kernel_rfl)
def z07r (m : Int) : Option Bool := (z00b m 0 4).bind fun x1 => (some (!x1))
def z07v : FCon := ⟨227, .I, [], fun z c => z07r z ⟩
def z0kw : Fs := ⟨[z029], []⟩
theorem z0l0 : z0kw.Ok Tryz.prog := (fsK z02t fs0)
theorem z0l3 : z07v.Ok Tryz.prog := FCon.ok (fn_ok (k := z07v.con) (fn := Tryz.f227) (W := []) (H := []) Tryz.func227 z0l0 trivial rfl rfl (fun av x => by kernel_rfl))
def z034 (n : GNet) (marks : List Int) : Option Bool := if decide ((marks.length : Int) = n.places) = true then ((z025 marks (fun z => z07r z )).bind fun x2 => (some (!x2))) else (some false)
def z05l : Con := ⟨212, [.v (.s .net) false, .v (.sl .I) false], [(.B, true)], [], fun x => z034 x.1 x.2.1⟩
def z0qe : Fs := ⟨[z03z], [z07v]⟩
theorem z0qg : z0qe.Ok Tryz.prog := (fsK z08a (fsF z0l3 fs0))
theorem z0dd : z05l.Ok Tryz.prog := fn_ok (k := z05l) (fn := Tryz.f212) (W := []) (H := []) Tryz.func212 z0qg trivial rfl rfl (fun av x => by kernel_rfl)
def z0bh (n : GNet) (marks : List Int) : Option Bool := (z09r n).bind fun x1 => (if x1 = true then ((z034 n marks).bind fun x3 => (some x3)) else (some false))
def z0eg : Con := ⟨167, [.v (.s .net) false, .v (.sl .I) false], [(.B, true)], [], fun x => z0bh x.1 x.2.1⟩
def z1sj : Fs := ⟨[z0bd, z05l], []⟩
theorem z1ro : z1sj.Ok Tryz.prog := (fsK z0ib (fsK z0dd fs0))
theorem z0ul : z0eg.Ok Tryz.prog := fn_ok (k := z0eg) (fn := Tryz.f167) (W := []) (H := []) Tryz.func167 z1ro trivial rfl rfl (fun av x => by kernel_rfl)
def z0b6 (busy : List GItem) : Option Bool := some (decide ((busy.length : Int) ≤ 6))
def z01k (n : GNet) (p0_0 : List GItem) (p0_1 : Int) (kx0_0 : Option Bool) : Nat → Int → Option Bool
  | 0, _ => none
  | n0 + 1, s0_0 => if decide (s0_0 < p0_1) = true then ((getI p0_0 s0_0).bind fun x2 => ((z00i n x2.task).bind fun x3 => (if x3 = true then ((z08u x2.who).bind fun x5 => (if x5 = true then ((getI n.tasks x2.task).bind fun x7 => (gd (ok64 (x7.need - 1)) ((z00b x2.did 0 (x7.need - 1)).bind fun x9 => (if x9 = true then (gd (ok64 (s0_0 + 1)) ((z01k n p0_0 p0_1 kx0_0 n0) (s0_0 + 1))) else (some false))))) else (some false))) else (some false)))) else (kx0_0)
def z03y (n : GNet) (busy : List GItem) : Option Bool := z01k n busy (busy.length : Int) (z0b6 busy) FUEL 0
def z00n : Con := ⟨168, [.v (.s .net) false, .v (.sl (.s .item)) false], [(.B, true)], [], fun x => z03y x.1 x.2.1⟩
def z0uy : Fs := ⟨[z01i, z0by, z029], []⟩
theorem z0el : z0uy.Ok Tryz.prog := (fsK z032 (fsK z0qo (fsK z02t fs0)))
def z0ci : Tmpl := ⟨[(1, .c (.s (.s .item))), (2, .c (.bx 2 0)), (7, .c (.s (.s .item))), (8, .c .i), (9, .c .i)], [(2, .boxT (.s .net))]⟩
def z0az : Tmpl := ⟨[(1, .c (.s (.s .item)))], []⟩
def z0oq (av : AV) (x : HP z00n.ps) (n : Nat) (v : z0ci.den) (K : Ks (CR z00n)) : Option (CR z00n) := z01k v.2.1 v.1.2.2.1 v.1.2.2.2.1 (z0az.at none ((v.1.1, ()), ()) (K (.exit 0))) n v.1.2.2.2.2.1
def z0cq (av : AV) (x : HP z00n.ps) : Hdl (CR z00n) := hnd [] z0ci (z0oq av x)
theorem z0mf : LP z00n Tryz.f168 [0] z0cq := lp_ok (W := []) (H := []) (xs := [z0az]) z0el trivial rfl (fun av x v K => by kernel_rfl) (fun av x n v K => by kernel_rfl)
theorem z0eu : z00n.Ok Tryz.prog := fn_ok (k := z00n) (fn := Tryz.f168) (W := []) (H := [z0cq]) Tryz.func168 z0el ⟨z0mf, trivial⟩ rfl rfl (fun av x => by kernel_rfl)
def z07u (q : Int) (marks : List Int) (reach : List Bool) : Option Bool := (getI marks q).bind fun x1 => (if decide (x1 = 0) = true then ((getI reach q).bind fun x3 => (some x3)) else (some false))
def z07q : FCon := ⟨231, .I, [(.sl .I), (.sl .B)], fun z c => z07u z c.1 c.2.1⟩
def z0l6 : Fs := ⟨[], []⟩
theorem z0l1 : z0l6.Ok Tryz.prog := fs0
theorem z0kz : z07q.Ok Tryz.prog := FCon.ok (fn_ok (k := z07q.con) (fn := Tryz.f231) (W := []) (H := []) Tryz.func231 z0l1 trivial rfl rfl (fun av x => by kernel_rfl))
def z03h (s1_0 : Int) (s1_1 : Int) (bk1 : Int → Int → List Int → Option Bool) (l2_1 : List Int) : Option Bool := gd (ok64 (s1_1 + 1)) (bk1 s1_0 (s1_1 + 1) l2_1)
def z01d (p2_0 : List GFlow) (p2_1 : Int) (kx2_0 : List Int → Option Bool) : Nat → Int → List Int → Option Bool
  | 0, _, _ => none
  | n2 + 1, s2_0, l2_1 => if decide (s2_0 < p2_1) = true then ((getI p2_0 s2_0).bind fun x15 => (gd (l2_1.length + [x15.to].length ≤ SMALL) (gd (ok64 (s2_0 + 1)) ((z01d p2_0 p2_1 kx2_0 n2) (s2_0 + 1) (l2_1 ++ [x15.to]))))) else (kx2_0 l2_1)
def z06q  : Option Bool := some false
def z00w (n : GNet) (t : Int) (p0_0 : List Int) (p0_2 : List Int) (l1_2 : List Int) (p3_0 : Int) (kx3_0 : Option Bool) : Nat → Int → Option Bool
  | 0, _ => none
  | n3 + 1, s3_0 => if decide (s3_0 < p3_0) = true then ((getI l1_2 s3_0).bind fun x20 => ((z080 n x20 t).bind fun x21 => ((z025 p0_0 (fun z => z07u z p0_2 x21)).bind fun x22 => (if x22 = true then (some true) else (gd (ok64 (s3_0 + 1)) ((z00w n t p0_0 p0_2 l1_2 p3_0 kx3_0 n3) (s3_0 + 1))))))) else (kx3_0)
def z01c (n : GNet) (t : Int) (p0_0 : List Int) (p0_2 : List Int) (l1_2 : List Int) : Option Bool := z00w n t p0_0 p0_2 l1_2 (l1_2.length : Int) z06q FUEL 0
def z00j (n : GNet) (busy : List GItem) (kx1_0 : List Int → Option Bool) : Nat → Int → Int → List Int → Option Bool
  | 0, _, _, _ => none
  | n1 + 1, s1_0, s1_1, l1_2 => if decide (s1_1 < s1_0) = true then ((getI busy s1_1).bind fun x12 => ((getI n.tasks x12.task).bind fun x13 => (z01d x13.out (x13.out.length : Int) (z03h s1_0 s1_1 (z00j n busy kx1_0 n1)) FUEL 0 l1_2))) else (kx1_0 l1_2)
def z03e (n : GNet) (busy : List GItem) (t : Int) (p0_0 : List Int) (p0_2 : List Int) (l0_1 : List Int) : Option Bool := z00j n busy (z01c n t p0_0 p0_2) FUEL (busy.length : Int) 0 l0_1
def z00k (marks : List Int) (p0_0 : List Int) (p0_1 : Int) (kx0_0 : List Int → Option Bool) : Nat → Int → List Int → Option Bool
  | 0, _, _ => none
  | n0 + 1, s0_0, l0_1 => if decide (s0_0 < p0_1) = true then ((getI marks s0_0).bind fun x3 => (if decide (0 < x3) = true then ((z0bn p0_0 s0_0).bind fun x5 => (if x5 = true then (gd (ok64 (s0_0 + 1)) ((z00k marks p0_0 p0_1 kx0_0 n0) (s0_0 + 1) l0_1)) else (gd (l0_1.length + [s0_0].length ≤ SMALL) (gd (ok64 (s0_0 + 1)) ((z00k marks p0_0 p0_1 kx0_0 n0) (s0_0 + 1) (l0_1 ++ [s0_0])))))) else (gd (ok64 (s0_0 + 1)) ((z00k marks p0_0 p0_1 kx0_0 n0) (s0_0 + 1) l0_1)))) else (kx0_0 l0_1)
def z05k (n : GNet) (marks : List Int) (busy : List GItem) (t : Int) : Option Bool := (getI n.tasks t).bind fun x1 => (z00k marks x1.in_ (marks.length : Int) (z03e n busy t x1.in_ marks) FUEL 0 ([] : List Int))
def z001 : Con := ⟨217, [.v (.s .net) false, .v (.sl .I) false, .v (.sl (.s .item)) false, .v .I false], [(.B, true)], [], fun x => z05k x.1 x.2.1 x.2.2.1 x.2.2.2.1⟩
def z0qi : Fs := ⟨[z0ep, z003, z03z], [z07q]⟩
theorem z033 : z0qi.Ok Tryz.prog := (fsK z0v0 (fsK z0xo (fsK z08a (fsF z0kz fs0))))
def z09s : Tmpl := ⟨[(3, .c .i), (4, .c (.bx 4 0)), (5, .c (.bx 5 0)), (9, .c (.s .I)), (10, .c (.ref 500010)), (46, .c (.s (.s .item))), (47, .c .i), (48, .c .i), (58, .c (.s (.s .flow))), (59, .c .i), (60, .c .i)], [(4, .boxT (.s .net)), (5, .box [.s .I]), (500010, .arr .I true)]⟩
def z08x : Tmpl := ⟨[(3, .c .i), (4, .c (.bx 4 0)), (5, .c (.bx 5 0)), (9, .c (.s .I)), (10, .c (.ref 500010)), (46, .c (.s (.s .item))), (47, .c .i), (48, .c .i)], [(4, .boxT (.s .net)), (5, .box [.s .I]), (500010, .arr .I true)]⟩
def z0h5 (av : AV) (x : HP z001.ps) (n : Nat) (v : z09s.den) (K : Ks (CR z001)) : Option (CR z001) := z01d v.1.2.2.2.2.2.2.2.2.1 v.1.2.2.2.2.2.2.2.2.2.1 (fun l2_1 => z08x.at none ((v.1.1, (), (), v.1.2.2.2.1, (), v.1.2.2.2.2.2.1, v.1.2.2.2.2.2.2.1, v.1.2.2.2.2.2.2.2.1, ()), (v.2.1, (v.2.2.1.1, ()), l2_1, ())) (K (.exit 4))) n v.1.2.2.2.2.2.2.2.2.2.2.1 v.2.2.2.1
def z09u (av : AV) (x : HP z001.ps) : Hdl (CR z001) := hnd [] z09s (z0h5 av x)
theorem z0hc : LP z001 Tryz.f217 [1, 0] z09u := lp_ok (W := []) (H := []) (xs := [z08x]) z033 trivial rfl (fun av x v K => by kernel_rfl) (fun av x n v K => by kernel_rfl)
def z0b4 : Tmpl := ⟨[(2, .c (.s (.s .item))), (3, .c .i), (4, .c (.bx 4 0)), (5, .c (.bx 5 0)), (9, .c (.s .I)), (10, .c (.ref 500010)), (26, .c (.s .I)), (27, .c .i), (28, .c .i)], [(4, .boxT (.s .net)), (5, .box [.s .I]), (500010, .arr .I true)]⟩
def z0ai : Tmpl := ⟨[(2, .c (.s (.s .item))), (3, .c .i), (4, .c (.bx 4 0)), (5, .c (.bx 5 0)), (9, .c (.s .I)), (10, .c (.ref 500010))], [(4, .boxT (.s .net)), (5, .box [.s .I]), (500010, .arr .I true)]⟩
def z0la (av : AV) (x : HP z001.ps) (n : Nat) (v : z0b4.den) (K : Ks (CR z001)) : Option (CR z001) := z00k v.1.2.2.2.2.2.2.1 v.1.2.2.2.2.1 v.1.2.2.2.2.2.2.2.1 (fun l0_1 => z0ai.at none ((v.1.1, v.1.2.1, (), (), v.1.2.2.2.2.1, (), ()), (v.2.1, (v.2.2.1.1, ()), l0_1, ())) (K (.exit 0))) n v.1.2.2.2.2.2.2.2.2.1 v.2.2.2.1
def z0ay (av : AV) (x : HP z001.ps) : Hdl (CR z001) := hnd [.e 10 500010 .I] z0b4 (z0la av x)
theorem z0ku : LP z001 Tryz.f217 [0] z0ay := lp_ok (W := []) (H := []) (xs := [z0ai]) z033 trivial rfl (fun av x v K => by kernel_rfl) (fun av x n v K => by kernel_rfl)
def z0b8 : Tmpl := ⟨[(3, .c .i), (4, .c (.bx 4 0)), (5, .c (.bx 5 0)), (9, .c (.s .I)), (10, .c (.ref 500010)), (46, .c (.s (.s .item))), (47, .c .i), (48, .c .i)], [(4, .boxT (.s .net)), (5, .box [.s .I]), (500010, .arr .I true)]⟩
def z0a7 : Tmpl := ⟨[(3, .c .i), (4, .c (.bx 4 0)), (5, .c (.bx 5 0)), (9, .c (.s .I)), (10, .c (.ref 500010))], [(4, .boxT (.s .net)), (5, .box [.s .I]), (500010, .arr .I true)]⟩
def z0l2 (av : AV) (x : HP z001.ps) (n : Nat) (v : z0b8.den) (K : Ks (CR z001)) : Option (CR z001) := z00j v.2.1 v.1.2.2.2.2.2.1 (fun l1_2 => z0a7.at none ((v.1.1, (), (), v.1.2.2.2.1, (), ()), (v.2.1, (v.2.2.1.1, ()), l1_2, ())) (K (.exit 2))) n v.1.2.2.2.2.2.2.1 v.1.2.2.2.2.2.2.2.1 v.2.2.2.1
def z0b9 (av : AV) (x : HP z001.ps) : Hdl (CR z001) := hnd [] z0b8 (z0l2 av x)
theorem z0l8 : LP z001 Tryz.f217 [1] z0b9 := lp_ok (W := []) (H := [z09u]) (xs := [z0a7]) z033 ⟨z0hc, trivial⟩ rfl (fun av x v K => by kernel_rfl) (fun av x n v K => by kernel_rfl)
def z0b1 : Tmpl := ⟨[(3, .c .i), (4, .c (.bx 4 0)), (5, .c (.bx 5 0)), (9, .c (.s .I)), (71, .c (.ref 500010)), (72, .c .i), (73, .c .i)], [(4, .boxT (.s .net)), (5, .box [.s .I]), (500010, .arr .I true)]⟩
def z0ah : Tmpl := ⟨[], []⟩
def z0l7 (av : AV) (x : HP z001.ps) (n : Nat) (v : z0b1.den) (K : Ks (CR z001)) : Option (CR z001) := z00w v.2.1 v.1.1 v.1.2.2.2.1 v.2.2.1.1 v.2.2.2.1 v.1.2.2.2.2.2.1 (z0ah.at none ((), ()) (K (.exit 6))) n v.1.2.2.2.2.2.2.1
def z0b5 (av : AV) (x : HP z001.ps) : Hdl (CR z001) := hnd [] z0b1 (z0l7 av x)
theorem z0l9 : LP z001 Tryz.f217 [2] z0b5 := lp_ok (W := []) (H := []) (xs := [z0ah]) z033 trivial rfl (fun av x v K => by kernel_rfl) (fun av x n v K => by kernel_rfl)
theorem z0qc : z001.Ok Tryz.prog := fn_ok (k := z001) (fn := Tryz.f217) (W := []) (H := [z0ay, z0b9, z0b5]) Tryz.func217 z033 ⟨z0ku, z0l8, z0l9, trivial⟩ rfl rfl (fun av x => by kernel_rfl)
def z02d (n : GNet) (marks : List Int) (busy : List GItem) (t : Int) (s0_0 : Bool) (s0_2 : Bool) : Option Bool := (getI n.tasks t).bind fun x14 => (if decide (x14.join = 1) = true then (some s0_0) else (if decide (x14.join = 2) = true then (some s0_2) else (if s0_2 = true then (if s0_0 = true then (some true) else ((z05k n marks busy t).bind fun x19 => (some (!x19)))) else (some false))))
def z00m (marks : List Int) (p0_0 : List Int) (p0_1 : Int) (kx0_0 : Bool → Bool → Option Bool) : Nat → Bool → Int → Bool → Option Bool
  | 0, _, _, _ => none
  | n0 + 1, s0_0, s0_1, s0_2 => if decide (s0_1 < p0_1) = true then ((getI p0_0 s0_1).bind fun x3 => (if s0_2 = true then (if s0_0 = true then ((getI marks x3).bind fun x6 => (gd (ok64 (s0_1 + 1)) ((z00m marks p0_0 p0_1 kx0_0 n0) (decide (0 < x6)) (s0_1 + 1) true))) else (gd (ok64 (s0_1 + 1)) ((z00m marks p0_0 p0_1 kx0_0 n0) false (s0_1 + 1) true))) else ((getI marks x3).bind fun x9 => (if s0_0 = true then ((getI marks x3).bind fun x11 => (gd (ok64 (s0_1 + 1)) ((z00m marks p0_0 p0_1 kx0_0 n0) (decide (0 < x11)) (s0_1 + 1) (decide (0 < x9))))) else (gd (ok64 (s0_1 + 1)) ((z00m marks p0_0 p0_1 kx0_0 n0) false (s0_1 + 1) (decide (0 < x9)))))))) else (kx0_0 s0_0 s0_2)
def z097 (n : GNet) (marks : List Int) (busy : List GItem) (t : Int) : Option Bool := (getI n.tasks t).bind fun x1 => (z00m marks x1.in_ (x1.in_.length : Int) (z02d n marks busy t) FUEL true 0 false)
def z01s : Con := ⟨178, [.v (.s .net) false, .v (.sl .I) false, .v (.sl (.s .item)) false, .v .I false], [(.B, true)], [], fun x => z097 x.1 x.2.1 x.2.2.1 x.2.2.2.1⟩
def z12s : Fs := ⟨[z001], []⟩
theorem z0jh : z12s.Ok Tryz.prog := (fsK z0qc fs0)
def z0fj : Tmpl := ⟨[(1, .c (.s .I)), (2, .c (.s (.s .item))), (3, .c .i), (4, .c (.bx 4 0)), (9, .c .b), (10, .c .b), (18, .c (.s .I)), (19, .c .i), (20, .c .i)], [(4, .boxT (.s .net))]⟩
def z0e9 : Tmpl := ⟨[(1, .c (.s .I)), (2, .c (.s (.s .item))), (3, .c .i), (4, .c (.bx 4 0)), (9, .c .b), (10, .c .b)], [(4, .boxT (.s .net))]⟩
def z0wn (av : AV) (x : HP z01s.ps) (n : Nat) (v : z0fj.den) (K : Ks (CR z01s)) : Option (CR z01s) := z00m v.1.1 v.1.2.2.2.2.2.2.1 v.1.2.2.2.2.2.2.2.1 (fun s0_0 s0_2 => z0e9.at none ((v.1.1, v.1.2.1, v.1.2.2.1, (), s0_2, s0_0, ()), (v.2.1, ())) (K (.exit 0))) n v.1.2.2.2.2.2.1 v.1.2.2.2.2.2.2.2.2.1 v.1.2.2.2.2.1
def z0fg (av : AV) (x : HP z01s.ps) : Hdl (CR z01s) := hnd [] z0fj (z0wn av x)
theorem z0vv : LP z01s Tryz.f178 [0] z0fg := lp_ok (W := []) (H := []) (xs := [z0e9]) z0jh trivial rfl (fun av x v K => by kernel_rfl) (fun av x n v K => by kernel_rfl)
theorem z12t : z01s.Ok Tryz.prog := fn_ok (k := z01s) (fn := Tryz.f178) (W := []) (H := [z0fg]) Tryz.func178 z0jh ⟨z0vv, trivial⟩ rfl rfl (fun av x => by kernel_rfl)
def z0fr (n : GNet) (marks : List Int) (busy : List GItem) (t : Int) : Option Bool := (z0bh n marks).bind fun x1 => (if x1 = true then ((z03y n busy).bind fun x3 => (if x3 = true then ((z00i n t).bind fun x5 => (if x5 = true then ((z097 n marks busy t).bind fun x7 => (some x7)) else (some false))) else (some false))) else (some false))
def z0n3 : Con := ⟨107, [.v (.s .net) false, .v (.sl .I) false, .v (.sl (.s .item)) false, .v .I false], [(.B, true)], [], fun x => z0fr x.1 x.2.1 x.2.2.1 x.2.2.2.1⟩
def z1p4 : Fs := ⟨[z0eg, z00n, z01i, z01s], []⟩
theorem z1jb : z1p4.Ok Tryz.prog := (fsK z0ul (fsK z0eu (fsK z032 (fsK z12t fs0))))
theorem z1jn : z0n3.Ok Tryz.prog := fn_ok (k := z0n3) (fn := Tryz.f107) (W := []) (H := []) Tryz.func107 z1jb trivial rfl rfl (fun av x => by kernel_rfl)
def z0df (l0_1 : List Int) (x4 : Int) (x7 : Int) : Option (List Int) := some (l0_1.set x4.toNat (x7 - 1))
def z0de (l0_1 : List Int) : Option (List Int) := some l0_1
def z01j (n : GNet) (t : Int) (p0_0 : List Int) (p0_1 : Int) (kx0_0 : List Int → Int → Int → Option (List Int)) (kx0_1 : List Int → Option (List Int)) : Nat → Int → List Int → Option (List Int)
  | 0, _, _ => none
  | n0 + 1, s0_0, l0_1 => if decide (s0_0 < p0_1) = true then ((getI p0_0 s0_0).bind fun x4 => ((getI l0_1 x4).bind fun x5 => (if decide (0 < x5) = true then ((getI l0_1 x4).bind fun x7 => (gd (ok64 (x7 - 1)) ((getI l0_1 x4).bind fun x9 => ((getI n.tasks t).bind fun x10 => (if decide (x10.join = 2) = true then (kx0_0 l0_1 x4 x7) else (gd (ok64 (s0_0 + 1)) ((z01j n t p0_0 p0_1 kx0_0 kx0_1 n0) (s0_0 + 1) (l0_1.set x4.toNat (x7 - 1))))))))) else (gd (ok64 (s0_0 + 1)) ((z01j n t p0_0 p0_1 kx0_0 kx0_1 n0) (s0_0 + 1) l0_1))))) else (kx0_1 l0_1)
def z08m (n : GNet) (marks : List Int) (t : Int) : Option (List Int) := (z00c marks).bind fun x1 => ((getI n.tasks t).bind fun x2 => (z01j n t x2.in_ (x2.in_.length : Int) z0df z0de FUEL 0 x1))
def z01b : Con := ⟨110, [.v (.s .net) false, .v (.sl .I) false, .v .I false], [((.sl .I), true)], [], fun x => z08m x.1 x.2.1 x.2.2.1⟩
def z0zr : Fs := ⟨[z013], []⟩
theorem z0h3 : z0zr.Ok Tryz.prog := (fsK z023 fs0)
def z0e7 : Tmpl := ⟨[(2, .c .i), (3, .c (.bx 3 0)), (7, .c (.ref 11)), (17, .c (.s .I)), (18, .c .i), (19, .c .i)], [(3, .boxT (.s .net)), (11, .arr .I true)]⟩
def z08q : Tmpl := ⟨[(7, .c (.ref 11))], [(11, .arr .I true)]⟩
def z0uv (av : AV) (x : HP z01b.ps) (n : Nat) (v : z0e7.den) (K : Ks (CR z01b)) : Option (CR z01b) := z01j v.2.1 v.1.1 v.1.2.2.2.1 v.1.2.2.2.2.1 (fun l0_1 x4 x7 => z08q.at none (((), ()), ((l0_1.set x4.toNat (x7 - 1)), ())) (K (.exit 0))) (fun l0_1 => z08q.at none (((), ()), (l0_1, ())) (K (.exit 0))) n v.1.2.2.2.2.2.1 v.2.2.1
def z0eh (av : AV) (x : HP z01b.ps) : Hdl (CR z01b) := hnd [] z0e7 (z0uv av x)
theorem z0tw : LP z01b Tryz.f110 [0] z0eh := lp_ok (W := []) (H := []) (xs := [z08q]) z0h3 trivial rfl (fun av x v K => by kernel_rfl) (fun av x n v K => by kernel_rfl)
theorem z101 : z01b.Ok Tryz.prog := fn_ok (k := z01b) (fn := Tryz.f110) (W := []) (H := [z0eh]) Tryz.func110 z0h3 ⟨z0tw, trivial⟩ rfl rfl (fun av x => by kernel_rfl)
def z0t8 (l0_1 : List Int) : Option (List Int) := some l0_1
def z00l (t : GTask) (data : List Int) (p0_0 : List GFlow) (p0_1 : Int) (kx0_0 : List Int → Option (List Int)) : Nat → Int → List Int → Option (List Int)
  | 0, _, _ => none
  | n0 + 1, s0_0, l0_1 => if decide (s0_0 < p0_1) = true then ((getI p0_0 s0_0).bind fun x2 => ((z020 x2.if_ data).bind fun x3 => (if x3 = true then (if decide (t.split = 2) = true then (if decide (0 < (l0_1.length : Int)) = true then (gd (ok64 (s0_0 + 1)) ((z00l t data p0_0 p0_1 kx0_0 n0) (s0_0 + 1) l0_1)) else (if decide (t.split = 3) = true then (gd (ok64 ((t.out.length : Int) - 1)) (if decide (s0_0 = ((t.out.length : Int) - 1)) = true then (if decide (0 < (l0_1.length : Int)) = true then (gd (ok64 (s0_0 + 1)) ((z00l t data p0_0 p0_1 kx0_0 n0) (s0_0 + 1) l0_1)) else (gd (l0_1.length + [x2.to].length ≤ SMALL) (gd (ok64 (s0_0 + 1)) ((z00l t data p0_0 p0_1 kx0_0 n0) (s0_0 + 1) (l0_1 ++ [x2.to]))))) else (gd (l0_1.length + [x2.to].length ≤ SMALL) (gd (ok64 (s0_0 + 1)) ((z00l t data p0_0 p0_1 kx0_0 n0) (s0_0 + 1) (l0_1 ++ [x2.to])))))) else (gd (l0_1.length + [x2.to].length ≤ SMALL) (gd (ok64 (s0_0 + 1)) ((z00l t data p0_0 p0_1 kx0_0 n0) (s0_0 + 1) (l0_1 ++ [x2.to])))))) else (if decide (t.split = 3) = true then (gd (ok64 ((t.out.length : Int) - 1)) (if decide (s0_0 = ((t.out.length : Int) - 1)) = true then (if decide (0 < (l0_1.length : Int)) = true then (gd (ok64 (s0_0 + 1)) ((z00l t data p0_0 p0_1 kx0_0 n0) (s0_0 + 1) l0_1)) else (gd (l0_1.length + [x2.to].length ≤ SMALL) (gd (ok64 (s0_0 + 1)) ((z00l t data p0_0 p0_1 kx0_0 n0) (s0_0 + 1) (l0_1 ++ [x2.to]))))) else (gd (l0_1.length + [x2.to].length ≤ SMALL) (gd (ok64 (s0_0 + 1)) ((z00l t data p0_0 p0_1 kx0_0 n0) (s0_0 + 1) (l0_1 ++ [x2.to])))))) else (gd (l0_1.length + [x2.to].length ≤ SMALL) (gd (ok64 (s0_0 + 1)) ((z00l t data p0_0 p0_1 kx0_0 n0) (s0_0 + 1) (l0_1 ++ [x2.to])))))) else (gd (ok64 (s0_0 + 1)) ((z00l t data p0_0 p0_1 kx0_0 n0) (s0_0 + 1) l0_1))))) else (kx0_0 l0_1)
def z0il (t : GTask) (data : List Int) : Option (List Int) := z00l t data t.out (t.out.length : Int) z0t8 FUEL 0 ([] : List Int)
def z06p : Con := ⟨222, [.v (.s .task) false, .v (.sl .I) false], [((.sl .I), true)], [], fun x => z0il x.1 x.2.1⟩
def z1qw : Fs := ⟨[z03n], []⟩
theorem z16a : z1qw.Ok Tryz.prog := (fsK z07n fs0)
def z0yj : Tmpl := ⟨[(1, .c (.s .I)), (2, .c (.bx 2 0)), (5, .c (.ref 500005)), (9, .c (.s (.s .flow))), (10, .c .i), (11, .c .i)], [(2, .boxT (.s .task)), (500005, .arr .I true)]⟩
def z0s7 : Tmpl := ⟨[(5, .c (.ref 500005))], [(500005, .arr .I true)]⟩
def z1gn (av : AV) (x : HP z06p.ps) (n : Nat) (v : z0yj.den) (K : Ks (CR z06p)) : Option (CR z06p) := z00l v.2.1 v.1.1 v.1.2.2.2.1 v.1.2.2.2.2.1 (fun l0_1 => z0s7.at none (((), ()), (l0_1, ())) (K (.exit 0))) n v.1.2.2.2.2.2.1 v.2.2.1
def z0wf (av : AV) (x : HP z06p.ps) : Hdl (CR z06p) := hnd [.e 5 500005 .I] z0yj (z1gn av x)
theorem z1fr : LP z06p Tryz.f222 [0] z0wf := lp_ok (W := []) (H := []) (xs := [z0s7]) z16a trivial rfl (fun av x v K => by kernel_rfl) (fun av x n v K => by kernel_rfl)
theorem z1sq : z06p.Ok Tryz.prog := fn_ok (k := z06p) (fn := Tryz.f222) (W := []) (H := [z0wf]) Tryz.func222 z16a ⟨z1fr, trivial⟩ rfl rfl (fun av x => by kernel_rfl)
def z095 (n : GNet) (l1_1 : List Int) : Option ((List Int) × Bool) := (z034 n l1_1).bind fun x21 => (if x21 = true then (some (l1_1, true)) else (some ([], false)))
def z04h (x14 : (List Int)) (p1_0 : Int) (kx1_0 : List Int → Option ((List Int) × Bool)) : Nat → Int → List Int → Option ((List Int) × Bool)
  | 0, _, _ => none
  | n1 + 1, s1_0, l1_1 => if decide (s1_0 < p1_0) = true then ((getI x14 s1_0).bind fun x16 => ((getI l1_1 x16).bind fun x17 => (gd (ok64 (x17 + 1)) ((getI l1_1 x16).bind fun x19 => (gd (ok64 (s1_0 + 1)) ((z04h x14 p1_0 kx1_0 n1) (s1_0 + 1) (l1_1.set x16.toNat (x17 + 1)))))))) else (kx1_0 l1_1)
def z093 (n : GNet) (t : Int) (data : List Int) (l0_1 : List Int) : Option ((List Int) × Bool) := (getI n.tasks t).bind fun x13 => ((z0il x13 data).bind fun x14 => (z04h x14 (x14.length : Int) (z095 n) FUEL 0 l0_1))
def z04i (p0_0 : List Int) (p0_1 : Int) (kx0_0 : List Int → Option ((List Int) × Bool)) : Nat → Int → List Int → Option ((List Int) × Bool)
  | 0, _, _ => none
  | n0 + 1, s0_0, l0_1 => if decide (s0_0 < p0_1) = true then ((getI p0_0 s0_0).bind fun x10 => ((getI l0_1 x10).bind fun x11 => (gd (ok64 (s0_0 + 1)) ((z04i p0_0 p0_1 kx0_0 n0) (s0_0 + 1) (l0_1.set x10.toNat 0))))) else (kx0_0 l0_1)
def z08j (n : GNet) (marks : List Int) (t : Int) (data : List Int) : Option ((List Int) × Bool) := (z0bh n marks).bind fun x1 => (if x1 = true then ((z00i n t).bind fun x3 => (if x3 = true then ((z03u data).bind fun x5 => (if x5 = true then ((z00c marks).bind fun x7 => ((getI n.tasks t).bind fun x8 => (z04i x8.clear (x8.clear.length : Int) (z093 n t data) FUEL 0 x7))) else (some ([], false)))) else (some ([], false)))) else (some ([], false)))
def z00y : Con := ⟨192, [.v (.s .net) false, .v (.sl .I) false, .v .I false, .v (.sl .I) false], [((.sl .I), true), (.B, true)], [], fun x => z08j x.1 x.2.1 x.2.2.1 x.2.2.2.1⟩
def z1gk : Fs := ⟨[z0eg, z01i, z06t, z013, z06p, z05l], []⟩
theorem z0j2 : z1gk.Ok Tryz.prog := (fsK z0ul (fsK z032 (fsK z09o (fsK z023 (fsK z1sq (fsK z0dd fs0))))))
def z0m5 : Tmpl := ⟨[(2, .c .i), (3, .c (.s .I)), (4, .c (.bx 4 0)), (10, .c (.ref 31)), (37, .c (.s .I)), (38, .c .i), (39, .c .i)], [(4, .boxT (.s .net)), (31, .arr .I true)]⟩
def z0ke : Tmpl := ⟨[(2, .c .i), (3, .c (.s .I)), (4, .c (.bx 4 0)), (10, .c (.ref 31))], [(4, .boxT (.s .net)), (31, .arr .I true)]⟩
def z167 (av : AV) (x : HP z00y.ps) (n : Nat) (v : z0m5.den) (K : Ks (CR z00y)) : Option (CR z00y) := z04i v.1.2.2.2.2.1 v.1.2.2.2.2.2.1 (fun l0_1 => z0ke.at none ((v.1.1, v.1.2.1, (), (), ()), (v.2.1, l0_1, ())) (K (.exit 0))) n v.1.2.2.2.2.2.2.1 v.2.2.1
def z0o7 (av : AV) (x : HP z00y.ps) : Hdl (CR z00y) := hnd [] z0m5 (z167 av x)
theorem z194 : LP z00y Tryz.f192 [0] z0o7 := lp_ok (W := []) (H := []) (xs := [z0ke]) z0j2 trivial rfl (fun av x v K => by kernel_rfl) (fun av x n v K => by kernel_rfl)
def z0po : Tmpl := ⟨[(4, .c (.bx 4 0)), (10, .c (.ref 31)), (53, .c (.ref 53)), (54, .c .i), (55, .c .i)], [(4, .boxT (.s .net)), (31, .arr .I true), (53, .arr .I true)]⟩
def z0kj : Tmpl := ⟨[(4, .c (.bx 4 0)), (10, .c (.ref 31))], [(4, .boxT (.s .net)), (31, .arr .I true)]⟩
def z145 (av : AV) (x : HP z00y.ps) (n : Nat) (v : z0po.den) (K : Ks (CR z00y)) : Option (CR z00y) := z04h v.2.2.2.1 v.1.2.2.2.1 (fun l1_1 => z0kj.at none (((), (), ()), (v.2.1, l1_1, ())) (K (.exit 2))) n v.1.2.2.2.2.1 v.2.2.1
def z0pc (av : AV) (x : HP z00y.ps) : Hdl (CR z00y) := hnd [] z0po (z145 av x)
theorem z19d : LP z00y Tryz.f192 [1] z0pc := lp_ok (W := []) (H := []) (xs := [z0kj]) z0j2 trivial rfl (fun av x v K => by kernel_rfl) (fun av x n v K => by kernel_rfl)
theorem z1gv : z00y.Ok Tryz.prog := fn_ok (k := z00y) (fn := Tryz.f192) (W := []) (H := [z0o7, z0pc]) Tryz.func192 z0j2 ⟨z194, z19d, trivial⟩ rfl rfl (fun av x => by kernel_rfl)
def z0i2 (n : Int) : Option Bool := (z00b n 0 7).bind fun x1 => (some (!x1))
def z0j3 : FCon := ⟨165, .I, [], fun z c => z0i2 z ⟩
def z1gr : Fs := ⟨[z029], []⟩
theorem z1fx : z1gr.Ok Tryz.prog := (fsK z02t fs0)
theorem z1ii : z0j3.Ok Tryz.prog := FCon.ok (fn_ok (k := z0j3.con) (fn := Tryz.f165) (W := []) (H := []) Tryz.func165 z1fx trivial rfl rfl (fun av x => by kernel_rfl))
def z0bv (people : List Int) : Option Bool := (z00b (people.length : Int) 1 4).bind fun x1 => (if x1 = true then ((z025 people (fun z => z0i2 z )).bind fun x3 => (some (!x3))) else (some false))
def z0eb : Con := ⟨91, [.v (.sl .I) false], [(.B, true)], [], fun x => z0bv x.1⟩
def z1t0 : Fs := ⟨[z029, z03z], [z0j3]⟩
theorem z1r1 : z1t0.Ok Tryz.prog := (fsK z02t (fsK z08a (fsF z1ii fs0)))
theorem z0v2 : z0eb.Ok Tryz.prog := fn_ok (k := z0eb) (fn := Tryz.f91) (W := []) (H := []) Tryz.func91 z1r1 trivial rfl rfl (fun av x => by kernel_rfl)
def z0fu (people : List Int) (who : Int) (role : Int) : Option Bool := (z0bv people).bind fun x1 => (if x1 = true then ((z00b who 1 (people.length : Int)).bind fun x3 => (if x3 = true then ((z0ct role).bind fun x5 => (if x5 = true then (gd (ok64 (who - 1)) ((getI people (who - 1)).bind fun x8 => (gd (ok64 (role - 1)) (gd ((0 : Int) ≤ (role - 1) ∧ (role - 1) ≤ (63 : Int)) (some (decide ((andI (shrI x8 (role - 1)) 1) = 1))))))) else (some false))) else (some false))) else (some false))
def z0mg : Con := ⟨184, [.v (.sl .I) false, .v .I false, .v .I false], [(.B, true)], [], fun x => z0fu x.1 x.2.1 x.2.2.1⟩
def z1jx : Fs := ⟨[z0eb, z029, z0g2], []⟩
theorem z1kz : z1jx.Ok Tryz.prog := (fsK z0v2 (fsK z02t (fsK z10f fs0)))
theorem z1op : z0mg.Ok Tryz.prog := fn_ok (k := z0mg) (fn := Tryz.f184) (W := []) (H := []) Tryz.func184 z1kz trivial rfl rfl (fun av x => by kernel_rfl)
def z0fw (did : List GDid) (who : Int) (task : Int) : Option Bool := (z0go did (GDid.mk task who)).bind fun x1 => (some x1)
def z0ni : Con := ⟨185, [.v (.sl (.s .did)) false, .v .I false, .v .I false], [(.B, true)], [], fun x => z0fw x.1 x.2.1 x.2.2.1⟩
def z1mp : Fs := ⟨[z0gu], []⟩
theorem z1mh : z1mp.Ok Tryz.prog := (fsK z1au fs0)
theorem z1pl : z0ni.Ok Tryz.prog := fn_ok (k := z0ni) (fn := Tryz.f185) (W := []) (H := []) Tryz.func185 z1mh trivial rfl rfl (fun av x => by kernel_rfl)
def z0d3 (l0_1 : List Int) : Option (List Int) := some l0_1
def z02y (p : Int → Option Bool) (p0_0 : Int) (kx0_0 : List Int → Option (List Int)) : Nat → Int → List Int → Option (List Int)
  | 0, _, _ => none
  | n0 + 1, s0_0, l0_1 => if decide (s0_0 < p0_0) = true then (gd (ok64 (s0_0 + 1)) ((p (s0_0 + 1)).bind fun x5 => (if x5 = true then (gd (ok64 (s0_0 + 1)) (gd (l0_1.length + [(s0_0 + 1)].length ≤ SMALL) (gd (ok64 (s0_0 + 1)) ((z02y p p0_0 kx0_0 n0) (s0_0 + 1) (l0_1 ++ [(s0_0 + 1)]))))) else (gd (ok64 (s0_0 + 1)) ((z02y p p0_0 kx0_0 n0) (s0_0 + 1) l0_1))))) else (kx0_0 l0_1)
def z0hq (people : List Int) (p : Int → Option Bool) : Option (List Int) := (z0bv people).bind fun x1 => (if x1 = true then (z02y p (people.length : Int) z0d3 FUEL 0 ([] : List Int)) else (some []))
def z02k : Con := ⟨180, [.v (.sl .I) false, .fn .I], [((.sl .I), true)], [], fun x => z0hq x.1 x.2.1⟩
def z1hh : Fs := ⟨[z0eb], []⟩
theorem z0w6 : z1hh.Ok Tryz.prog := (fsK z0v2 fs0)
def z0mz : Tmpl := ⟨[(1, .c .fp), (5, .c (.ref 500005)), (11, .c .i), (12, .c .i)], [(500005, .arr .I true)]⟩
def z0jn : Tmpl := ⟨[(5, .c (.ref 500005))], [(500005, .arr .I true)]⟩
def z149 (av : AV) (x : HP z02k.ps) (n : Nat) (v : z0mz.den) (K : Ks (CR z02k)) : Option (CR z02k) := z02y x.2.1 v.1.2.2.1 (fun l0_1 => z0jn.at (fpOf z02k.ps x av) (((), ()), (l0_1, ())) (K (.exit 0))) n v.1.2.2.2.1 v.2.1
def z0pb (av : AV) (x : HP z02k.ps) : Hdl (CR z02k) := hnd [.e 5 500005 .I] z0mz (z149 av x)
theorem z144 : LP z02k Tryz.f180 [0] z0pb := lp_ok (W := []) (H := []) (xs := [z0jn]) z0w6 trivial rfl (fun av x v K => by kernel_rfl) (fun av x n v K => by kernel_rfl)
theorem z1fe : z02k.Ok Tryz.prog := fn_ok (k := z02k) (fn := Tryz.f180) (W := []) (H := [z0pb]) Tryz.func180 z0w6 ⟨z144, trivial⟩ rfl rfl (fun av x => by kernel_rfl)
def z0d0 (b : GItem) (task : GTask) (who : Int) : Option Bool := if decide (b.task = task.apart) = true then (some (decide (b.who = who))) else (some false)
def z0cx : FCon := ⟨183, (.s .item), [(.s .task), .I], fun z c => z0d0 z c.1 c.2.1⟩
def z12o : Fs := ⟨[], []⟩
theorem z12w : z12o.Ok Tryz.prog := fs0
theorem z12r : z0cx.Ok Tryz.prog := FCon.ok (fn_ok (k := z0cx.con) (fn := Tryz.f183) (W := []) (H := []) Tryz.func183 z12w trivial rfl rfl (fun av x => by kernel_rfl))
def z08t (who : Int) (busy : List GItem) (task : GTask) (people : List Int) (did : List GDid) : Option Bool := (z073 busy (fun z => z0d0 z task who)).bind fun x1 => ((z0fu people who task.role).bind fun x2 => (if x2 = true then (if x1 = true then (some false) else ((z0fw did who task.apart).bind fun x5 => (some (!x5)))) else (some false)))
def z0gq : FCon := ⟨181, .I, [(.sl (.s .item)), (.s .task), (.sl .I), (.sl (.s .did))], fun z c => z08t z c.1 c.2.1 c.2.2.1 c.2.2.2.1⟩
def z1bg : Fs := ⟨[z09p, z0mg, z0ni], [z0cx]⟩
theorem z1bm : z1bg.Ok Tryz.prog := (fsK z0u5 (fsK z1op (fsK z1pl (fsF z12r fs0))))
theorem z1a4 : z0gq.Ok Tryz.prog := FCon.ok (fn_ok (k := z0gq.con) (fn := Tryz.f181) (W := []) (H := []) Tryz.func181 z1bm trivial rfl rfl (fun av x => by kernel_rfl))
def z0fm (n : GNet) (people : List Int) (did : List GDid) (busy : List GItem) (t : Int) : Option (List Int) := (z09r n).bind fun x1 => (if x1 = true then ((z00i n t).bind fun x3 => (if x3 = true then ((getI n.tasks t).bind fun x5 => ((z0hq people (fun z => z08t z busy x5 people did)).bind fun x6 => (some x6))) else (some []))) else (some []))
def z0md : Con := ⟨109, [.v (.s .net) false, .v (.sl .I) false, .v (.sl (.s .did)) false, .v (.sl (.s .item)) false, .v .I false], [((.sl .I), true)], [], fun x => z0fm x.1 x.2.1 x.2.2.1 x.2.2.2.1 x.2.2.2.2.1⟩
def z1jh : Fs := ⟨[z0bd, z01i, z02k], [z0gq]⟩
theorem z1lc : z1jh.Ok Tryz.prog := (fsK z0ib (fsK z032 (fsK z1fe (fsF z1a4 fs0))))
theorem z1nw : z0md.Ok Tryz.prog := fn_ok (k := z0md) (fn := Tryz.f109) (W := []) (H := []) Tryz.func109 z1lc trivial rfl rfl (fun av x => by kernel_rfl)
def z0cj (n : GNet) (data : List Int) : Option GCase := (z09r n).bind fun x1 => (if x1 = true then ((z03u data).bind fun x3 => (if x3 = true then (gd ((0 : Int) ≤ n.places ∧ n.places ≤ (1000000000 : Int)) ((z00c data).bind fun x6 => ((getI (List.replicate n.places.toNat (0 : Int)) 0).bind fun x7 => (some (GCase.mk 1 ((List.replicate n.places.toNat (0 : Int)).set (0 : Int).toNat 1) [] x6 []))))) else (some (GCase.mk 0 [] [] [] [])))) else (some (GCase.mk 0 [] [] [] [])))
def z0m9 : Con := ⟨147, [.v (.s .net) false, .v (.sl .I) false], [((.s .kase), true)], [], fun x => z0cj x.1 x.2.1⟩
def z1o5 : Fs := ⟨[z0bd, z06t, z013], []⟩
theorem z1je : z1o5.Ok Tryz.prog := (fsK z0ib (fsK z09o (fsK z023 fs0)))
theorem z1ml : z0m9.Ok Tryz.prog := fn_ok (k := z0m9) (fn := Tryz.f147) (W := []) (H := []) Tryz.func147 z1je trivial rfl rfl (fun av x => by kernel_rfl)
def z0c7 (c : GCase) : Option Bool := if decide (c.state = 1) = true then ((getI c.marks 1).bind fun x16 => (some (decide (x16 = 0)))) else (if decide (c.state = 2) = true then (if decide ((c.busy.length : Int) = 0) = true then ((getI c.marks 1).bind fun x19 => (some ((decide (c.state = 2)) == (decide (0 < x19))))) else (some false)) else (if decide (c.state = 3) = true then (if decide ((c.busy.length : Int) = 0) = true then ((getI c.marks 1).bind fun x22 => (some ((decide (c.state = 2)) == (decide (0 < x22))))) else (some false)) else (some false)))
def z07m (n : GNet) (p0_0 : List GDid) (p0_1 : Int) (kx0_0 : Option Bool) : Nat → Int → Option Bool
  | 0, _ => none
  | n0 + 1, s0_0 => if decide (s0_0 < p0_1) = true then ((getI p0_0 s0_0).bind fun x9 => ((z00i n x9.task).bind fun x10 => (if x10 = true then ((z08u x9.who).bind fun x12 => (if x12 = true then (gd (ok64 (s0_0 + 1)) ((z07m n p0_0 p0_1 kx0_0 n0) (s0_0 + 1))) else (some false))) else (some false)))) else (kx0_0)
def z0ex (n : GNet) (c : GCase) : Option Bool := (z0bh n c.marks).bind fun x1 => (if x1 = true then ((z03y n c.busy).bind fun x3 => (if x3 = true then ((z03u c.data).bind fun x5 => (if x5 = true then (if decide (60 < (c.did.length : Int)) = true then (some false) else (z07m n c.did (c.did.length : Int) (z0c7 c) FUEL 0)) else (some false))) else (some false))) else (some false))
def z05e : Con := ⟨93, [.v (.s .net) false, .v (.s .kase) false], [(.B, true)], [], fun x => z0ex x.1 x.2.1⟩
def z1qh : Fs := ⟨[z0eg, z00n, z06t, z01i, z0by], []⟩
theorem z198 : z1qh.Ok Tryz.prog := (fsK z0ul (fsK z0eu (fsK z09o (fsK z032 (fsK z0qo fs0)))))
def z0y1 : Tmpl := ⟨[(2, .c (.bx 2 0)), (3, .c (.bx 3 0)), (32, .c (.s (.s .did))), (33, .c .i), (34, .c .i)], [(2, .boxT (.s .net)), (3, .boxT (.s .kase))]⟩
def z0ri : Tmpl := ⟨[(3, .c (.bx 3 0))], [(3, .boxT (.s .kase))]⟩
def z1fg (av : AV) (x : HP z05e.ps) (n : Nat) (v : z0y1.den) (K : Ks (CR z05e)) : Option (CR z05e) := z07m v.2.1 v.1.2.2.1 v.1.2.2.2.1 (z0ri.at none (((), ()), (v.2.2.1, ())) (K (.exit 0))) n v.1.2.2.2.2.1
def z0y9 (av : AV) (x : HP z05e.ps) : Hdl (CR z05e) := hnd [] z0y1 (z1fg av x)
theorem z1e1 : LP z05e Tryz.f93 [0] z0y9 := lp_ok (W := []) (H := []) (xs := [z0ri]) z198 trivial rfl (fun av x v K => by kernel_rfl) (fun av x n v K => by kernel_rfl)
theorem z14w : z05e.Ok Tryz.prog := fn_ok (k := z05e) (fn := Tryz.f93) (W := []) (H := [z0y9]) Tryz.func93 z198 ⟨z1e1, trivial⟩ rfl rfl (fun av x => by kernel_rfl)
def z08k (n : GNet) (c : GCase) : Option Bool := (z0ex n c).bind fun x1 => (if x1 = true then (some (decide (c.state = 1))) else (some false))
def z0aq : Con := ⟨106, [.v (.s .net) false, .v (.s .kase) false], [(.B, true)], [], fun x => z08k x.1 x.2.1⟩
def z1if : Fs := ⟨[z05e], []⟩
theorem z1is : z1if.Ok Tryz.prog := (fsK z14w fs0)
theorem z0ig : z0aq.Ok Tryz.prog := fn_ok (k := z0aq) (fn := Tryz.f106) (W := []) (H := []) Tryz.func106 z1is trivial rfl rfl (fun av x => by kernel_rfl)
def z0c5 (n : GNet) (people : List Int) (c : GCase) (t : Int) (who : Int) : Option (GCase × Bool) := (z007 c).bind fun x1 => ((z08k n c).bind fun x2 => (if x2 = true then (if decide ((c.busy.length : Int) = 6) = true then (some (x1, false)) else ((z0fr n c.marks c.busy t).bind fun x5 => (if x5 = true then ((z0fm n people c.did c.busy t).bind fun x7 => ((z0bn x7 who).bind fun x8 => (if x8 = true then ((z08m n c.marks t).bind fun x10 => (gd (x1.busy.length + [(GItem.mk t who 0)].length ≤ SMALL) ((z007 (GCase.mk x1.state x10 (x1.busy ++ [(GItem.mk t who 0)]) x1.data x1.did)).bind fun x12 => (some (x12, true))))) else (some (x1, false))))) else (some (x1, false))))) else (some (x1, false))))
def z0gv : Con := ⟨39, [.v (.s .net) false, .v (.sl .I) false, .v (.s .kase) false, .v .I false, .v .I false], [((.s .kase), true), (.B, true)], [], fun x => z0c5 x.1 x.2.1 x.2.2.1 x.2.2.2.1 x.2.2.2.2.1⟩
def z1aj : Fs := ⟨[z02g, z0aq, z0n3, z0md, z0ep, z01b], []⟩
theorem z1ck : z1aj.Ok Tryz.prog := (fsK z06s (fsK z0ig (fsK z1jn (fsK z1nw (fsK z0v0 (fsK z101 fs0))))))
theorem z1a2 : z0gv.Ok Tryz.prog := fn_ok (k := z0gv) (fn := Tryz.f39) (W := []) (H := []) Tryz.func39 z1ck trivial rfl rfl (fun av x => by kernel_rfl)
def z0dg (n : GNet) (c : GCase) (k : Int) (v : Int) (num : Int) : Option (GCase × Bool) := (z007 c).bind fun x1 => ((z08k n c).bind fun x2 => (if x2 = true then (gd (ok64 ((c.busy.length : Int) - 1)) ((z00b k 0 ((c.busy.length : Int) - 1)).bind fun x5 => (if x5 = true then ((z00b v (-1) 2).bind fun x7 => (if x7 = true then ((z05d num).bind fun x9 => (if x9 = true then (if decide ((c.did.length : Int) = 60) = true then (some (x1, false)) else (if decide (0 ≤ v) = true then ((getI x1.data v).bind fun x13 => ((getI x1.busy k).bind fun x14 => (gd (ok64 (x14.did + 1)) ((getI n.tasks ((GItem.mk x14.task x14.who (x14.did + 1)).task)).bind fun x16 => (if decide ((GItem.mk x14.task x14.who (x14.did + 1)).did < x16.need) = true then (some ((GCase.mk x1.state x1.marks (x1.busy.set k.toNat (GItem.mk x14.task x14.who (x14.did + 1))) (x1.data.set v.toNat num) x1.did), true)) else ((z08j n c.marks ((GItem.mk x14.task x14.who (x14.did + 1)).task) (x1.data.set v.toNat num)).bind fun x18 => (if x18.2 = true then (gd (x1.did.length + [(GDid.mk ((GItem.mk x14.task x14.who (x14.did + 1)).task) ((GItem.mk x14.task x14.who (x14.did + 1)).who))].length ≤ SMALL) (gd (ok64 (k + 1)) ((z06r (x1.busy.set k.toNat (GItem.mk x14.task x14.who (x14.did + 1))) k (k + 1)).bind fun x22 => ((getI x18.1 1).bind fun x23 => (if decide (0 < x23) = true then ((z007 (GCase.mk 2 x18.1 [] (x1.data.set v.toNat num) (x1.did ++ [(GDid.mk ((GItem.mk x14.task x14.who (x14.did + 1)).task) ((GItem.mk x14.task x14.who (x14.did + 1)).who))]))).bind fun x25 => (some (x25, true))) else ((z007 (GCase.mk x1.state x18.1 x22 (x1.data.set v.toNat num) (x1.did ++ [(GDid.mk ((GItem.mk x14.task x14.who (x14.did + 1)).task) ((GItem.mk x14.task x14.who (x14.did + 1)).who))]))).bind fun x26 => (some (x26, true)))))))) else ((z007 c).bind fun x27 => (some (x27, false)))))))))) else ((getI x1.busy k).bind fun x28 => (gd (ok64 (x28.did + 1)) ((getI n.tasks ((GItem.mk x28.task x28.who (x28.did + 1)).task)).bind fun x30 => (if decide ((GItem.mk x28.task x28.who (x28.did + 1)).did < x30.need) = true then (some ((GCase.mk x1.state x1.marks (x1.busy.set k.toNat (GItem.mk x28.task x28.who (x28.did + 1))) x1.data x1.did), true)) else ((z08j n c.marks ((GItem.mk x28.task x28.who (x28.did + 1)).task) x1.data).bind fun x32 => (if x32.2 = true then (gd (x1.did.length + [(GDid.mk ((GItem.mk x28.task x28.who (x28.did + 1)).task) ((GItem.mk x28.task x28.who (x28.did + 1)).who))].length ≤ SMALL) (gd (ok64 (k + 1)) ((z06r (x1.busy.set k.toNat (GItem.mk x28.task x28.who (x28.did + 1))) k (k + 1)).bind fun x36 => ((getI x32.1 1).bind fun x37 => (if decide (0 < x37) = true then ((z007 (GCase.mk 2 x32.1 [] x1.data (x1.did ++ [(GDid.mk ((GItem.mk x28.task x28.who (x28.did + 1)).task) ((GItem.mk x28.task x28.who (x28.did + 1)).who))]))).bind fun x39 => (some (x39, true))) else ((z007 (GCase.mk x1.state x32.1 x36 x1.data (x1.did ++ [(GDid.mk ((GItem.mk x28.task x28.who (x28.did + 1)).task) ((GItem.mk x28.task x28.who (x28.did + 1)).who))]))).bind fun x40 => (some (x40, true)))))))) else ((z007 c).bind fun x41 => (some (x41, false))))))))))) else (some (x1, false)))) else (some (x1, false)))) else (some (x1, false))))) else (some (x1, false))))
def z0iw : Con := ⟨122, [.v (.s .net) false, .v (.s .kase) false, .v .I false, .v .I false, .v .I false], [((.s .kase), true), (.B, true)], [], fun x => z0dg x.1 x.2.1 x.2.2.1 x.2.2.2.1 x.2.2.2.2.1⟩
def z1id : Fs := ⟨[z02g, z0aq, z029, z08l, z00y, z0yq], []⟩
theorem z1iw : z1id.Ok Tryz.prog := (fsK z06s (fsK z0ig (fsK z02t (fsK z0do (fsK z1gv (fsK z1fv fs0))))))
theorem z1e7 : z0iw.Ok Tryz.prog := fn_ok (k := z0iw) (fn := Tryz.f122) (W := []) (H := []) Tryz.func122 z1iw trivial rfl rfl (fun av x => by kernel_rfl)
def z0dh (n : GNet) (c : GCase) : Option (GCase × Bool) := (z007 c).bind fun x1 => ((z08k n c).bind fun x2 => (if x2 = true then (some ((GCase.mk 3 x1.marks [] x1.data x1.did), true)) else (some (x1, false))))
def z0i8 : Con := ⟨149, [.v (.s .net) false, .v (.s .kase) false], [((.s .kase), true), (.B, true)], [], fun x => z0dh x.1 x.2.1⟩
def z1hy : Fs := ⟨[z02g, z0aq], []⟩
theorem z1ht : z1hy.Ok Tryz.prog := (fsK z06s (fsK z0ig fs0))
theorem z1i1 : z0i8.Ok Tryz.prog := fn_ok (k := z0i8) (fn := Tryz.f149) (W := []) (H := []) Tryz.func149 z1ht trivial rfl rfl (fun av x => by kernel_rfl)
def z0sx (s0_0 : List GNode) (s0_1 : Int) (bk0 : List GNode → Int → Int → List Int → Option Bool) (p1_0 : Int) (l1_1 : List Int) : Option Bool := gd (ok64 (p1_0 + 1)) (bk0 s0_0 s0_1 (p1_0 + 1) l1_1)
def z02l (tree : List GNode) (s0_2 : Int) (p1_1 : Int) (p1_2 : List Int) (kx1_0 : List Int → Option Bool) : Nat → Int → List Int → Option Bool
  | 0, _, _ => none
  | n1 + 1, s1_0, l1_1 => if decide (s1_0 < p1_1) = true then ((getI p1_2 s1_0).bind fun x9 => (if decide (x9 = (-1)) = true then (gd (ok64 (s1_0 + 1)) ((z02l tree s0_2 p1_1 p1_2 kx1_0 n1) (s1_0 + 1) l1_1)) else (gd (ok64 (s0_2 + 1)) (gd (ok64 ((tree.length : Int) - 1)) ((z00b x9 (s0_2 + 1) ((tree.length : Int) - 1)).bind fun x14 => (if x14 = true then ((getI l1_1 x9).bind fun x16 => (gd (ok64 (x16 + 1)) ((getI l1_1 x9).bind fun x18 => (gd (ok64 (s1_0 + 1)) ((z02l tree s0_2 p1_1 p1_2 kx1_0 n1) (s1_0 + 1) (l1_1.set x9.toNat (x16 + 1))))))) else (some false))))))) else (kx1_0 l1_1)
def z0qp (tree : List GNode) : Option Bool := some (decide ((tree.length : Int) ≤ 12))
def z05g (l0_3 : List Int) (p2_0 : Int) (kx2_0 : Option Bool) : Nat → Int → Option Bool
  | 0, _ => none
  | n2 + 1, s2_0 => if decide (s2_0 < p2_0) = true then ((getI l0_3 s2_0).bind fun x22 => (if decide (0 < s2_0) = true then (if decide (x22 = 1) = true then (gd (ok64 (s2_0 + 1)) ((z05g l0_3 p2_0 kx2_0 n2) (s2_0 + 1))) else (some false)) else (gd (ok64 (s2_0 + 1)) ((z05g l0_3 p2_0 kx2_0 n2) (s2_0 + 1))))) else (kx2_0)
def z0bx (tree : List GNode) (l0_3 : List Int) : Option Bool := z05g l0_3 (l0_3.length : Int) (z0qp tree) FUEL 0
def z07f (tree : List GNode) (kx0_0 : List Int → Option Bool) : Nat → List GNode → Int → Int → List Int → Option Bool
  | 0, _, _, _, _ => none
  | n0 + 1, s0_0, s0_1, s0_2, l0_3 => if decide (s0_2 < s0_1) = true then ((getI s0_0 s0_2).bind fun x3 => ((z020 x3.if_ x3.stone).bind fun x4 => (if x4 = true then ((z03l x3.ans).bind fun x6 => (if x6 = true then (z02l tree s0_2 ([x3.yes, x3.no].length : Int) [x3.yes, x3.no] (z0sx s0_0 s0_1 (z07f tree kx0_0 n0) s0_2) FUEL 0 l0_3) else (some false))) else (some false)))) else (kx0_0 l0_3)
def z09q (tree : List GNode) : Option Bool := gd ((0 : Int) ≤ (tree.length : Int) ∧ (tree.length : Int) ≤ (1000000000 : Int)) (z07f tree (z0bx tree) FUEL tree (tree.length : Int) 0 (List.replicate (tree.length : Int).toNat (0 : Int)))
def z00f : Con := ⟨92, [.v (.sl (.s .node)) false], [(.B, true)], [], fun x => z09q x.1⟩
def z1ta : Fs := ⟨[z03n, z08v, z029], []⟩
theorem z0hv : z1ta.Ok Tryz.prog := (fsK z07n (fsK z0gr (fsK z02t fs0)))
def z0oc : Tmpl := ⟨[(0, .c (.s (.s .node))), (3, .c (.ref 12)), (4, .c .i), (13, .c (.s (.s .node))), (14, .c .i), (15, .c .i), (36, .c (.ref 36)), (37, .c .i), (38, .c .i)], [(12, .arr .I true), (36, .arr .I true)]⟩
def z0ja : Tmpl := ⟨[(0, .c (.s (.s .node))), (3, .c (.ref 12)), (13, .c (.s (.s .node))), (14, .c .i), (15, .c .i)], [(12, .arr .I true)]⟩
def z16j (av : AV) (x : HP z00f.ps) (n : Nat) (v : z0oc.den) (K : Ks (CR z00f)) : Option (CR z00f) := z02l v.1.1 v.1.2.2.1 v.1.2.2.2.2.2.2.2.1 v.2.2.1 (fun l1_1 => z0ja.at none ((v.1.1, (), v.1.2.2.2.1, v.1.2.2.2.2.1, v.1.2.2.2.2.2.1, ()), (l1_1, ())) (K (.exit 2))) n v.1.2.2.2.2.2.2.2.2.1 v.2.1
def z0o0 (av : AV) (x : HP z00f.ps) : Hdl (CR z00f) := hnd [] z0oc (z16j av x)
theorem z183 : LP z00f Tryz.f92 [0, 0] z0o0 := lp_ok (W := []) (H := []) (xs := [z0ja]) z0hv trivial rfl (fun av x v K => by kernel_rfl) (fun av x n v K => by kernel_rfl)
def z0wy : Tmpl := ⟨[(0, .c (.s (.s .node))), (3, .c (.ref 12)), (13, .c (.s (.s .node))), (14, .c .i), (15, .c .i)], [(12, .arr .I true)]⟩
def z0qq : Tmpl := ⟨[(0, .c (.s (.s .node))), (3, .c (.ref 12))], [(12, .arr .I true)]⟩
def z1es (av : AV) (x : HP z00f.ps) (n : Nat) (v : z0wy.den) (K : Ks (CR z00f)) : Option (CR z00f) := z07f v.1.1 (fun l0_3 => z0qq.at none ((v.1.1, (), ()), (l0_3, ())) (K (.exit 0))) n v.1.2.2.1 v.1.2.2.2.1 v.1.2.2.2.2.1 v.2.1
def z0vp (av : AV) (x : HP z00f.ps) : Hdl (CR z00f) := hnd [] z0wy (z1es av x)
theorem z1gf : LP z00f Tryz.f92 [0] z0vp := lp_ok (W := []) (H := [z0o0]) (xs := [z0qq]) z0hv ⟨z183, trivial⟩ rfl (fun av x v K => by kernel_rfl) (fun av x n v K => by kernel_rfl)
def z0yn : Tmpl := ⟨[(0, .c (.s (.s .node))), (60, .c (.ref 12)), (61, .c .i), (62, .c .i)], [(12, .arr .I true)]⟩
def z0t4 : Tmpl := ⟨[(0, .c (.s (.s .node)))], []⟩
def z1ij (av : AV) (x : HP z00f.ps) (n : Nat) (v : z0yn.den) (K : Ks (CR z00f)) : Option (CR z00f) := z05g v.2.1 v.1.2.2.1 (z0t4.at none ((v.1.1, ()), ()) (K (.exit 4))) n v.1.2.2.2.1
def z0xl (av : AV) (x : HP z00f.ps) : Hdl (CR z00f) := hnd [] z0yn (z1ij av x)
theorem z1f0 : LP z00f Tryz.f92 [1] z0xl := lp_ok (W := []) (H := []) (xs := [z0t4]) z0hv trivial rfl (fun av x v K => by kernel_rfl) (fun av x n v K => by kernel_rfl)
theorem z0v3 : z00f.Ok Tryz.prog := fn_ok (k := z00f) (fn := Tryz.f92) (W := []) (H := [z0vp, z0xl]) Tryz.func92 z0hv ⟨z1gf, z1f0, trivial⟩ rfl rfl (fun av x => by kernel_rfl)
def z06e (l0_1 : List Int) : Option (List Int) := some l0_1
def z118 (l0_1 : List Int) : Option (List Int) := some l0_1
def z028 (tree : List GNode) (data : List Int) (kx0_0 : List Int → Option (List Int)) (kx0_1 : List Int → Option (List Int)) : Nat → Int → List Int → Option (List Int)
  | 0, _, _ => none
  | n0 + 1, s0_0, l0_1 => if decide (0 < (tree.length : Int)) = true then (if decide (s0_0 = (-1)) = true then (kx0_0 l0_1) else (gd (l0_1.length + [s0_0].length ≤ SMALL) ((getI tree s0_0).bind fun x4 => ((z020 x4.if_ data).bind fun x5 => (if x5 = true then ((getI tree s0_0).bind fun x7 => ((z028 tree data kx0_0 kx0_1 n0) x7.yes (l0_1 ++ [s0_0]))) else ((getI tree s0_0).bind fun x8 => ((z028 tree data kx0_0 kx0_1 n0) x8.no (l0_1 ++ [s0_0])))))))) else (kx0_1 l0_1)
def z0nl (tree : List GNode) (data : List Int) : Option (List Int) := z028 tree data z06e z118 FUEL 0 ([] : List Int)
def z08y : Con := ⟨224, [.v (.sl (.s .node)) false, .v (.sl .I) false], [((.sl .I), true)], [], fun x => z0nl x.1 x.2.1⟩
def z237 : Fs := ⟨[z03n], []⟩
theorem z1of : z237.Ok Tryz.prog := (fsK z07n fs0)
def z17g : Tmpl := ⟨[(0, .c (.s (.s .node))), (1, .c (.s .I)), (5, .c (.ref 500005)), (6, .c .i)], [(500005, .arr .I true)]⟩
def z0ps : Tmpl := ⟨[(5, .c (.ref 500005))], [(500005, .arr .I true)]⟩
def z1u3 (av : AV) (x : HP z08y.ps) (n : Nat) (v : z17g.den) (K : Ks (CR z08y)) : Option (CR z08y) := z028 v.1.1 v.1.2.1 (fun l0_1 => z0ps.at none (((), ()), (l0_1, ())) (K (.exit 0))) (fun l0_1 => z0ps.at none (((), ()), (l0_1, ())) (K (.exit 0))) n v.1.2.2.2.1 v.2.1
def z163 (av : AV) (x : HP z08y.ps) : Hdl (CR z08y) := hnd [.e 5 500005 .I] z17g (z1u3 av x)
theorem z1px : LP z08y Tryz.f224 [0] z163 := lp_ok (W := []) (H := []) (xs := [z0ps]) z1of trivial rfl (fun av x v K => by kernel_rfl) (fun av x n v K => by kernel_rfl)
theorem z1ng : z08y.Ok Tryz.prog := fn_ok (k := z08y) (fn := Tryz.f224) (W := []) (H := [z163]) Tryz.func224 z1of ⟨z1px, trivial⟩ rfl rfl (fun av x => by kernel_rfl)
def z0nz (tree : List GNode) (data : List Int) : Option (List Int) := (z09q tree).bind fun x1 => (if x1 = true then ((z03u data).bind fun x3 => (if x3 = true then ((z0nl tree data).bind fun x5 => (some x5)) else (some []))) else (some []))
def z0nv : Con := ⟨223, [.v (.sl (.s .node)) false, .v (.sl .I) false], [((.sl .I), true)], [], fun x => z0nz x.1 x.2.1⟩
def z1jt : Fs := ⟨[z00f, z06t, z08y], []⟩
theorem z1lz : z1jt.Ok Tryz.prog := (fsK z0v3 (fsK z09o (fsK z1ng fs0)))
theorem z1kw : z0nv.Ok Tryz.prog := fn_ok (k := z0nv) (fn := Tryz.f223) (W := []) (H := []) Tryz.func223 z1lz trivial rfl rfl (fun av x => by kernel_rfl)
def z0cw (s0_1 : Int) : Option Int := some s0_1
def z01r (tree : List GNode) (data : List Int) (x1 : (List Int)) (p0_0 : Int) (kx0_0 : Int → Option Int) : Nat → Int → Int → Option Int
  | 0, _, _ => none
  | n0 + 1, s0_0, s0_1 => if decide (s0_0 < p0_0) = true then ((getI x1 s0_0).bind fun x3 => ((getI tree x3).bind fun x4 => ((z020 x4.if_ data).bind fun x5 => (if x5 = true then (gd (ok64 (s0_0 + 1)) ((z01r tree data x1 p0_0 kx0_0 n0) (s0_0 + 1) x3)) else (gd (ok64 (s0_0 + 1)) ((z01r tree data x1 p0_0 kx0_0 n0) (s0_0 + 1) s0_1)))))) else (kx0_0 s0_1)
def z0dm (tree : List GNode) (data : List Int) : Option Int := (z0nz tree data).bind fun x1 => (z01r tree data x1 (x1.length : Int) z0cw FUEL 0 (-1))
def z03a : Con := ⟨201, [.v (.sl (.s .node)) false, .v (.sl .I) false], [(.I, true)], [], fun x => z0dm x.1 x.2.1⟩
def z1fd : Fs := ⟨[z0nv, z03n], []⟩
theorem z0xy : z1fd.Ok Tryz.prog := (fsK z1kw (fsK z07n fs0))
def z0mj : Tmpl := ⟨[(0, .c (.s (.s .node))), (1, .c (.s .I)), (5, .c .i), (10, .c (.ref 10)), (11, .c .i), (12, .c .i)], [(10, .arr .I true)]⟩
def z0jx : Tmpl := ⟨[(5, .c .i)], []⟩
def z16w (av : AV) (x : HP z03a.ps) (n : Nat) (v : z0mj.den) (K : Ks (CR z03a)) : Option (CR z03a) := z01r v.1.1 v.1.2.1 v.2.1 v.1.2.2.2.2.1 (fun s0_1 => z0jx.at none ((s0_1, ()), ()) (K (.exit 0))) n v.1.2.2.2.2.2.1 v.1.2.2.1
def z0ox (av : AV) (x : HP z03a.ps) : Hdl (CR z03a) := hnd [] z0mj (z16w av x)
theorem z14b : LP z03a Tryz.f201 [0] z0ox := lp_ok (W := []) (H := []) (xs := [z0jx]) z0xy trivial rfl (fun av x v K => by kernel_rfl) (fun av x n v K => by kernel_rfl)
theorem z1iq : z03a.Ok Tryz.prog := fn_ok (k := z03a) (fn := Tryz.f201) (W := []) (H := [z0ox]) Tryz.func201 z0xy ⟨z14b, trivial⟩ rfl rfl (fun av x => by kernel_rfl)
def z0g0 (tree : List GNode) (data : List Int) : Option Int := (z0dm tree data).bind fun x1 => (if decide (x1 = (-1)) = true then (some 0) else ((getI tree x1).bind fun x3 => (some x3.ans)))
def z0lr : Con := ⟨146, [.v (.sl (.s .node)) false, .v (.sl .I) false], [(.I, true)], [], fun x => z0g0 x.1 x.2.1⟩
def z1kg : Fs := ⟨[z03a], []⟩
theorem z1mr : z1kg.Ok Tryz.prog := (fsK z1iq fs0)
theorem z1lf : z0lr.Ok Tryz.prog := fn_ok (k := z0lr) (fn := Tryz.f146) (W := []) (H := []) Tryz.func146 z1mr trivial rfl rfl (fun av x => by kernel_rfl)
def z0ha (tree : List GNode) (data : List Int) : Option (Int × Bool) := (z0nl tree data).bind fun x1 => (gd (ok64 ((x1.length : Int) - 1)) ((getI x1 ((x1.length : Int) - 1)).bind fun x3 => ((getI tree x3).bind fun x4 => ((z020 x4.if_ data).bind fun x5 => (some (x3, x5))))))
def z10a : Con := ⟨202, [.v (.sl (.s .node)) false, .v (.sl .I) false], [(.I, true), (.B, true)], [], fun x => z0ha x.1 x.2.1⟩
def z1yj : Fs := ⟨[z08y, z03n], []⟩
theorem z1zg : z1yj.Ok Tryz.prog := (fsK z1ng (fsK z07n fs0))
theorem z1zk : z10a.Ok Tryz.prog := fn_ok (k := z10a) (fn := Tryz.f202) (W := []) (H := []) Tryz.func202 z1zg trivial rfl rfl (fun av x => by kernel_rfl)
def z0af (tree : List GNode) (data : List Int) (e : GAsk) (ans : Int) (x1 : (List GNode)) (p0_0 : Int) (p0_1 : Bool) : Option ((List GNode) × Bool) := if p0_1 = true then ((getI x1 p0_0).bind fun x24 => ((z00c data).bind fun x25 => (gd ((x1.set p0_0.toNat (GNode.mk x24.if_ (tree.length : Int) x24.no x24.ans x24.stone)).length + [(GNode.mk e (-1) (-1) ans x25)].length ≤ SMALL) (some (((x1.set p0_0.toNat (GNode.mk x24.if_ (tree.length : Int) x24.no x24.ans x24.stone)) ++ [(GNode.mk e (-1) (-1) ans x25)]), true))))) else ((getI x1 p0_0).bind fun x27 => ((z00c data).bind fun x28 => (gd ((x1.set p0_0.toNat (GNode.mk x27.if_ x27.yes (tree.length : Int) x27.ans x27.stone)).length + [(GNode.mk e (-1) (-1) ans x28)].length ≤ SMALL) (some (((x1.set p0_0.toNat (GNode.mk x27.if_ x27.yes (tree.length : Int) x27.ans x27.stone)) ++ [(GNode.mk e (-1) (-1) ans x28)]), true)))))
def z02p (tree : List GNode) (e : GAsk) (x1 : (List GNode)) (p0_0 : Int) (p0_1 : Bool) (p0_2 : List GNode) (p0_3 : Int) (kx0_0 : Option ((List GNode) × Bool)) : Nat → Int → Option ((List GNode) × Bool)
  | 0, _ => none
  | n0 + 1, s0_0 => if decide (s0_0 < p0_3) = true then ((getI p0_2 s0_0).bind fun x14 => ((z0ha tree x14.stone).bind fun x15 => (if decide (x15.1 = p0_0) = true then (if (x15.2 == p0_1) = true then ((z020 e x14.stone).bind fun x18 => (if x18 = true then (some (x1, false)) else (gd (ok64 (s0_0 + 1)) ((z02p tree e x1 p0_0 p0_1 p0_2 p0_3 kx0_0 n0) (s0_0 + 1))))) else (gd (ok64 (s0_0 + 1)) ((z02p tree e x1 p0_0 p0_1 p0_2 p0_3 kx0_0 n0) (s0_0 + 1)))) else (gd (ok64 (s0_0 + 1)) ((z02p tree e x1 p0_0 p0_1 p0_2 p0_3 kx0_0 n0) (s0_0 + 1)))))) else (kx0_0)
def z0fi (tree : List GNode) (data : List Int) (e : GAsk) (ans : Int) : Option ((List GNode) × Bool) := (z07c tree).bind fun x1 => ((z09q tree).bind fun x2 => (if x2 = true then ((z03u data).bind fun x4 => (if x4 = true then ((z03l ans).bind fun x6 => (if x6 = true then ((z020 e data).bind fun x8 => (if x8 = true then (if decide ((tree.length : Int) = 12) = true then (some (x1, false)) else (if decide (0 < (tree.length : Int)) = true then ((z0ha tree data).bind fun x12 => (z02p tree e x1 x12.1 x12.2 tree (tree.length : Int) (z0af tree data e ans x1 x12.1 x12.2) FUEL 0)) else ((z00c data).bind fun x30 => (gd (x1.length + [(GNode.mk e (-1) (-1) ans x30)].length ≤ SMALL) (some ((x1 ++ [(GNode.mk e (-1) (-1) ans x30)]), true)))))) else (some (x1, false)))) else (some (x1, false)))) else (some (x1, false)))) else (some (x1, false))))
def z04q : Con := ⟨148, [.v (.sl (.s .node)) false, .v (.sl .I) false, .v (.s .ask) false, .v .I false], [((.sl (.s .node)), true), (.B, true)], [], fun x => z0fi x.1 x.2.1 x.2.2.1 x.2.2.2.1⟩
def z1o9 : Fs := ⟨[z018, z00f, z06t, z08v, z03n, z10a, z013], []⟩
theorem z11r : z1o9.Ok Tryz.prog := (fsK z0jy (fsK z0v3 (fsK z09o (fsK z0gr (fsK z07n (fsK z1zk (fsK z023 fs0)))))))
def z0tc : Tmpl := ⟨[(0, .c (.s (.s .node))), (1, .c (.s .I)), (3, .c .i), (6, .c (.bx 6 0)), (10, .c (.ref 18)), (11, .c .i), (12, .c .b), (53, .c (.s (.s .node))), (54, .c .i), (55, .c .i)], [(6, .boxT (.s .ask)), (18, .arr (.s .node) true)]⟩
def z0ot : Tmpl := ⟨[(0, .c (.s (.s .node))), (1, .c (.s .I)), (3, .c .i), (6, .c (.bx 6 0)), (10, .c (.ref 18)), (11, .c .i), (12, .c .b)], [(6, .boxT (.s .ask)), (18, .arr (.s .node) true)]⟩
def z1a5 (av : AV) (x : HP z04q.ps) (n : Nat) (v : z0tc.den) (K : Ks (CR z04q)) : Option (CR z04q) := z02p v.1.1 v.2.1 v.2.2.1 v.1.2.2.2.2.2.1 v.1.2.2.2.2.2.2.1 v.1.2.2.2.2.2.2.2.1 v.1.2.2.2.2.2.2.2.2.1 (z0ot.at none ((v.1.1, v.1.2.1, v.1.2.2.1, (), (), v.1.2.2.2.2.2.1, v.1.2.2.2.2.2.2.1, ()), (v.2.1, v.2.2.1, ())) (K (.exit 0))) n v.1.2.2.2.2.2.2.2.2.2.1
def z0s3 (av : AV) (x : HP z04q.ps) : Hdl (CR z04q) := hnd [] z0tc (z1a5 av x)
theorem z1a9 : LP z04q Tryz.f148 [0] z0s3 := lp_ok (W := []) (H := []) (xs := [z0ot]) z11r trivial rfl (fun av x v K => by kernel_rfl) (fun av x n v K => by kernel_rfl)
theorem z1nd : z04q.Ok Tryz.prog := fn_ok (k := z04q) (fn := Tryz.f148) (W := []) (H := [z0s3]) Tryz.func148 z11r ⟨z1a9, trivial⟩ rfl rfl (fun av x => by kernel_rfl)
def z0ht (n : GNet) : Option Bool := (z09r n).bind fun x1 => (some (!x1))
def z0is : FCon := ⟨89, (.s .net), [], fun z c => z0ht z ⟩
def z1ej : Fs := ⟨[z0bd], []⟩
theorem z1ed : z1ej.Ok Tryz.prog := (fsK z0ib fs0)
theorem z1e2 : z0is.Ok Tryz.prog := FCon.ok (fn_ok (k := z0is.con) (fn := Tryz.f89) (W := []) (H := []) Tryz.func89 z1ed trivial rfl rfl (fun av x => by kernel_rfl))
def z0sp  : Option Bool := some true
def z07d (h : GHouse) (p0_0 : List GRun) (p0_1 : Int) (kx0_0 : Option Bool) : Nat → Int → Option Bool
  | 0, _ => none
  | n0 + 1, s0_0 => if decide (s0_0 < p0_1) = true then ((getI p0_0 s0_0).bind fun x11 => (gd (ok64 ((h.nets.length : Int) - 1)) ((z00b x11.net 0 ((h.nets.length : Int) - 1)).bind fun x13 => (if x13 = true then ((getI h.nets x11.net).bind fun x15 => ((z0ex x15 x11.case).bind fun x16 => (if x16 = true then (gd (ok64 (s0_0 + 1)) ((z07d h p0_0 p0_1 kx0_0 n0) (s0_0 + 1))) else (some false)))) else (some false))))) else (kx0_0)
def z0hs (h : GHouse) : Option Bool := (z00b (h.nets.length : Int) 1 3).bind fun x1 => (if x1 = true then ((z07w h.nets (fun z => z0ht z )).bind fun x3 => (if x3 = true then (some false) else ((z0bv h.people).bind fun x5 => (if x5 = true then ((z09q h.tree).bind fun x7 => (if x7 = true then (if decide (5 < (h.runs.length : Int)) = true then (some false) else (z07d h h.runs (h.runs.length : Int) z0sp FUEL 0)) else (some false))) else (some false))))) else (some false))
def z06z : Con := ⟨32, [.v (.s .house) false], [(.B, true)], [], fun x => z0hs x.1⟩
def z1r2 : Fs := ⟨[z029, z0ak, z0eb, z00f, z05e], [z0is]⟩
theorem z17s : z1r2.Ok Tryz.prog := (fsK z02t (fsK z0w9 (fsK z0v2 (fsK z0v3 (fsK z14w (fsF z1e2 fs0))))))
def z0wj : Tmpl := ⟨[(1, .c (.bx 1 0)), (34, .c (.s (.s .run))), (35, .c .i), (36, .c .i)], [(1, .boxT (.s .house))]⟩
def z0tj : Tmpl := ⟨[], []⟩
def z1i7 (av : AV) (x : HP z06z.ps) (n : Nat) (v : z0wj.den) (K : Ks (CR z06z)) : Option (CR z06z) := z07d v.2.1 v.1.2.1 v.1.2.2.1 (z0tj.at none ((), ()) (K (.exit 0))) n v.1.2.2.2.1
def z0w4 (av : AV) (x : HP z06z.ps) : Hdl (CR z06z) := hnd [] z0wj (z1i7 av x)
theorem z1gc : LP z06z Tryz.f32 [0] z0w4 := lp_ok (W := []) (H := []) (xs := [z0tj]) z17s trivial rfl (fun av x v K => by kernel_rfl) (fun av x n v K => by kernel_rfl)
theorem z1q9 : z06z.Ok Tryz.prog := fn_ok (k := z06z) (fn := Tryz.f32) (W := []) (H := [z0w4]) Tryz.func32 z17s ⟨z1gc, trivial⟩ rfl rfl (fun av x => by kernel_rfl)
def z05v (r : GReq) (s : GReq) : Option Bool := if decide (r.kind = s.kind) = true then (if decide (r.who = s.who) = true then (if decide (r.case = s.case) = true then (if decide (r.task = s.task) = true then (if decide (r.var = s.var) = true then (if decide (r.num = s.num) = true then (if decide ([r.if_.op, r.if_.var, r.if_.k] = [s.if_.op, s.if_.var, s.if_.k]) = true then (if decide (r.ans = s.ans) = true then ((z13m r.data s.data).bind fun x9 => (some x9)) else (some false)) else (some false)) else (some false)) else (some false)) else (some false)) else (some false)) else (some false)) else (some false)
def z0bq : Con := ⟨141, [.v (.s .req) false, .v (.s .req) false], [(.B, true)], [], fun x => z05v x.1 x.2.1⟩
def z0zz : Fs := ⟨[z0dz], []⟩
theorem z0ze : z0zz.Ok Tryz.prog := (fsK z24j fs0)
theorem z0zk : z0bq.Ok Tryz.prog := fn_ok (k := z0bq) (fn := Tryz.f141) (W := []) (H := []) Tryz.func141 z0ze trivial rfl rfl (fun av x => by kernel_rfl)
def z04j (r : GReq) : Option GReq := if decide (r.kind = 1) = true then (some (GReq.mk r.kind 0 0 0 0 0 r.data (GAsk.mk 0 0 0) 0)) else (if decide (r.kind = 2) = true then (some (GReq.mk r.kind r.who r.case r.task 0 0 [] (GAsk.mk 0 0 0) 0)) else (if decide (r.kind = 3) = true then (some (GReq.mk r.kind 0 r.case r.task r.var r.num [] (GAsk.mk 0 0 0) 0)) else (if decide (r.kind = 4) = true then (some (GReq.mk r.kind 0 r.case 0 0 0 [] (GAsk.mk 0 0 0) 0)) else (some (GReq.mk r.kind 0 0 0 0 0 r.data r.if_ r.ans)))))
def z0ab : Con := ⟨142, [.v (.s .req) false], [((.s .req), false)], [], fun x => z04j x.1⟩
def z0vk : Fs := ⟨[], []⟩
theorem z0vj : z0vk.Ok Tryz.prog := fs0
theorem z0vx : z0ab.Ok Tryz.prog := fn_ok (k := z0ab) (fn := Tryz.f142) (W := []) (H := []) Tryz.func142 z0vj trivial rfl rfl (fun av x => by kernel_rfl)
def z0c8 (r : GReq) : Option Bool := if decide (r.kind = 1) = true then ((z00b r.kind 1 5).bind fun x2 => (if x2 = true then ((z00b r.who 0 4).bind fun x4 => (if x4 = true then ((z00b r.case 0 4).bind fun x6 => (if x6 = true then ((z00b r.task 0 5).bind fun x8 => (if x8 = true then ((z00b r.var (-1) 2).bind fun x10 => (if x10 = true then ((z05d r.num).bind fun x12 => (if x12 = true then ((z085 r.if_).bind fun x14 => (if x14 = true then ((z03l r.ans).bind fun x16 => (if x16 = true then ((z03u r.data).bind fun x18 => (if (x18 == true) = true then ((z04j r).bind fun x20 => ((z05v r x20).bind fun x21 => (some x21))) else (some false))) else (some false))) else (some false))) else (some false))) else (some false))) else (some false))) else (some false))) else (some false))) else (some false))) else ((z00b r.kind 1 5).bind fun x22 => (if x22 = true then ((z00b r.who 0 4).bind fun x24 => (if x24 = true then ((z00b r.case 0 4).bind fun x26 => (if x26 = true then ((z00b r.task 0 5).bind fun x28 => (if x28 = true then ((z00b r.var (-1) 2).bind fun x30 => (if x30 = true then ((z05d r.num).bind fun x32 => (if x32 = true then ((z085 r.if_).bind fun x34 => (if x34 = true then ((z03l r.ans).bind fun x36 => (if x36 = true then ((z03u r.data).bind fun x38 => (if (x38 == (decide (r.kind = 5))) = true then ((z04j r).bind fun x40 => ((z05v r x40).bind fun x41 => (some x41))) else (some false))) else (some false))) else (some false))) else (some false))) else (some false))) else (some false))) else (some false))) else (some false))) else (some false)))
def z0gm : Con := ⟨66, [.v (.s .req) false], [(.B, true)], [], fun x => z0c8 x.1⟩
def z19x : Fs := ⟨[z029, z08l, z0ea, z08v, z06t, z0ab, z0bq], []⟩
theorem z1bt : z19x.Ok Tryz.prog := (fsK z02t (fsK z0do (fsK z0up (fsK z0gr (fsK z09o (fsK z0vx (fsK z0zk fs0)))))))
theorem z1bb : z0gm.Ok Tryz.prog := fn_ok (k := z0gm) (fn := Tryz.f66) (W := []) (H := []) Tryz.func66 z1bt trivial rfl rfl (fun av x => by kernel_rfl)
def z05x (h : GHouse) (r : GReq) : Option (Int × GHouse) := if decide (r.kind = 1) = true then (if decide ((h.runs.length : Int) = 5) = true then (some (4, h)) else ((z0g0 h.tree r.data).bind fun x3 => (if decide ((h.nets.length : Int) ≤ x3) = true then ((getI h.nets 0).bind fun x5 => ((z0cj x5 r.data).bind fun x6 => (gd (h.runs.length + [(GRun.mk 0 x6)].length ≤ SMALL) (some (1, (GHouse.mk h.nets h.people h.tree (h.runs ++ [(GRun.mk 0 x6)]))))))) else ((getI h.nets x3).bind fun x8 => ((z0cj x8 r.data).bind fun x9 => (gd (h.runs.length + [(GRun.mk x3 x9)].length ≤ SMALL) (some (1, (GHouse.mk h.nets h.people h.tree (h.runs ++ [(GRun.mk x3 x9)])))))))))) else (if decide (r.kind = 5) = true then ((z0fi h.tree r.data r.if_ r.ans).bind fun x12 => (if x12.2 = true then (some (1, (GHouse.mk h.nets h.people x12.1 h.runs))) else (some (3, h)))) else (if decide ((h.runs.length : Int) ≤ r.case) = true then (some (2, h)) else ((getI h.runs r.case).bind fun x15 => ((getI h.nets x15.net).bind fun x16 => (if decide (r.kind = 2) = true then ((z0c5 x16 h.people x15.case r.task r.who).bind fun x18 => (if x18.2 = true then (some (1, (GHouse.mk h.nets h.people h.tree (h.runs.set r.case.toNat (GRun.mk x15.net x18.1))))) else (some (3, h)))) else (if decide (r.kind = 3) = true then ((z0dg x16 x15.case r.task r.var r.num).bind fun x21 => (if x21.2 = true then (some (1, (GHouse.mk h.nets h.people h.tree (h.runs.set r.case.toNat (GRun.mk x15.net x21.1))))) else (some (3, h)))) else ((z0dh x16 x15.case).bind fun x23 => (if x23.2 = true then (some (1, (GHouse.mk h.nets h.people h.tree (h.runs.set r.case.toNat (GRun.mk x15.net x23.1))))) else (some (3, h))))))))))
def z0bt : Con := ⟨68, [.ptr (.s .house) true, .v (.s .req) false], [(.I, true)], [(0, .ptr (.s .house) true)], fun x => z05x x.1 x.2.1⟩
def z0zj : Fs := ⟨[z0lr, z0m9, z04q, z0gv, z0iw, z0i8], []⟩
theorem z0z9 : z0zj.Ok Tryz.prog := (fsK z1lf (fsK z1ml (fsK z1nd (fsK z1a2 (fsK z1e7 (fsK z1i1 fs0))))))
theorem z0zm : z0bt.Ok Tryz.prog := fn_ok (k := z0bt) (fn := Tryz.f68) (W := []) (H := []) Tryz.func68 z0z9 trivial rfl rfl (fun av x => by kernel_rfl)
def z0iz (r : GReq) : Option Bool := (z0c8 r).bind fun x1 => (some (!x1))
def z0ia : FCon := ⟨154, (.s .req), [], fun z c => z0iz z ⟩
def z1hx : Fs := ⟨[z0gm], []⟩
theorem z1hu : z1hx.Ok Tryz.prog := (fsK z1bb fs0)
theorem z1hf : z0ia.Ok Tryz.prog := FCon.ok (fn_ok (k := z0ia.con) (fn := Tryz.f154) (W := []) (H := []) Tryz.func154 z1hu trivial rfl rfl (fun av x => by kernel_rfl))
def z0io (log : List GReq) : Option Bool := if decide ((log.length : Int) ≤ 150) = true then ((z07z log (fun z => z0iz z )).bind fun x2 => (some (!x2))) else (some false)
def z0ui : Con := ⟨79, [.v (.sl (.s .req)) false], [(.B, true)], [], fun x => z0io x.1⟩
def z1sw : Fs := ⟨[z0a8], [z0ia]⟩
theorem z1s1 : z1sw.Ok Tryz.prog := (fsK z0xv (fsF z1hf fs0))
theorem z1qc : z0ui.Ok Tryz.prog := fn_ok (k := z0ui) (fn := Tryz.f79) (W := []) (H := []) Tryz.func79 z1s1 trivial rfl rfl (fun av x => by kernel_rfl)
def z0f1 (l0_1 : List Int) (l0_2 : List GNet) (l0_3 : List GNode) (l0_4 : List GRun) (l0_5 : List GReq) : Option (GHouse × (List GReq)) := (z026 (GHouse.mk l0_2 l0_1 l0_3 l0_4)).bind fun x14 => (some (x14, l0_5))
def z040 (reqs : List GReq) (p0_0 : Int) (kx0_0 : List Int → List GNet → List GNode → List GRun → List GReq → Option (GHouse × (List GReq))) : Nat → Int → List Int → List GNet → List GNode → List GRun → List GReq → Option (GHouse × (List GReq))
  | 0, _, _, _, _, _, _ => none
  | n0 + 1, s0_0, l0_1, l0_2, l0_3, l0_4, l0_5 => if decide (s0_0 < p0_0) = true then ((getI reqs s0_0).bind fun x7 => ((z05x (GHouse.mk l0_2 l0_1 l0_3 l0_4) x7).bind fun x8 => (if decide (x8.1 = 1) = true then ((z083 x7).bind fun x10 => (gd (l0_5.length + [x10].length ≤ SMALL) (gd (ok64 (s0_0 + 1)) ((z040 reqs p0_0 kx0_0 n0) (s0_0 + 1) x8.2.people x8.2.nets x8.2.tree x8.2.runs (l0_5 ++ [x10]))))) else (gd (ok64 (s0_0 + 1)) ((z040 reqs p0_0 kx0_0 n0) (s0_0 + 1) x8.2.people x8.2.nets x8.2.tree x8.2.runs l0_5))))) else (kx0_0 l0_1 l0_2 l0_3 l0_4 l0_5)
def z0cn (h : GHouse) (reqs : List GReq) : Option (GHouse × (List GReq)) := (z0hs h).bind fun x1 => (if x1 = true then ((z0io reqs).bind fun x3 => (if x3 = true then ((z026 h).bind fun x5 => (z040 reqs (reqs.length : Int) z0f1 FUEL 0 x5.people x5.nets x5.tree x5.runs ([] : List GReq))) else (some ((GHouse.mk [] [] [] []), [])))) else (some ((GHouse.mk [] [] [] []), [])))
def z051 : Con := ⟨29, [.v (.s .house) false, .v (.sl (.s .req)) false], [((.s .house), true), ((.sl (.s .req)), true)], [], fun x => z0cn x.1 x.2.1⟩
def z1ni : Fs := ⟨[z06z, z0ui, z008, z0bt, z0ax], []⟩
theorem z123 : z1ni.Ok Tryz.prog := (fsK z1q9 (fsK z1qc (fsK z0q5 (fsK z0zm (fsK z0w2 fs0)))))
def z0qw : Tmpl := ⟨[(4, .c (.bx 4 0)), (6, .c (.bx 6 0)), (7, .c (.ref 500007)), (21, .c (.s (.s .req))), (22, .c .i), (23, .c .i)], [(4, .box [.nl, .nl, .nl, .nl]), (6, .box [.ref 20, .ref 10020, .ref 20020, .ref 30020]), (20, .arr (.s .net) true), (10020, .arr .I true), (20020, .arr (.s .node) true), (30020, .arr (.s .run) true), (500007, .arr (.s .req) true)]⟩
def z0nc : Tmpl := ⟨[(4, .c (.bx 4 0)), (6, .c (.bx 6 0)), (7, .c (.ref 500007))], [(4, .box [.nl, .nl, .nl, .nl]), (6, .box [.ref 20, .ref 10020, .ref 20020, .ref 30020]), (20, .arr (.s .net) true), (10020, .arr .I true), (20020, .arr (.s .node) true), (30020, .arr (.s .run) true), (500007, .arr (.s .req) true)]⟩
def z1a1 (av : AV) (x : HP z051.ps) (n : Nat) (v : z0qw.den) (K : Ks (CR z051)) : Option (CR z051) := z040 v.1.2.2.2.1 v.1.2.2.2.2.1 (fun l0_1 l0_2 l0_3 l0_4 l0_5 => z0nc.at none (((), (), (), ()), (((), (), (), (), ()), ((), (), (), (), ()), l0_2, l0_1, l0_3, l0_4, l0_5, ())) (K (.exit 0))) n v.1.2.2.2.2.2.1 v.2.2.2.2.1 v.2.2.2.1 v.2.2.2.2.2.1 v.2.2.2.2.2.2.1 v.2.2.2.2.2.2.2.1
def z0tg (av : AV) (x : HP z051.ps) : Hdl (CR z051) := hnd [.e 7 500007 (.s .req)] z0qw (z1a1 av x)
theorem z19y : LP z051 Tryz.f29 [0] z0tg := lp_ok (W := []) (H := []) (xs := [z0nc]) z123 trivial rfl (fun av x v K => by kernel_rfl) (fun av x n v K => by kernel_rfl)
theorem z1jf : z051.Ok Tryz.prog := fn_ok (k := z051) (fn := Tryz.f29) (W := []) (H := [z0tg]) Tryz.func29 z123 ⟨z19y, trivial⟩ rfl rfl (fun av x => by kernel_rfl)
def z10t (s0_0 : Int) (l0_2 : List Int) : Option (Int × (List Int)) := some (s0_0, l0_2)
def z0a1 (kx0_0 : Int → List Int → Option (Int × (List Int))) : Nat → Int → Int → List Int → Option (Int × (List Int))
  | 0, _, _, _ => none
  | n0 + 1, s0_0, s0_1, l0_2 => if decide (s0_1 < (l0_2.length : Int)) = true then ((getI l0_2 s0_1).bind fun x2 => (gd (ok64 (s0_0 + 1)) (gd (ok64 (s0_1 + 1)) ((z0a1 kx0_0 n0) (s0_0 + 1) (s0_1 + 1) (l0_2.set s0_1.toNat s0_0))))) else (kx0_0 s0_0 l0_2)
def z08z (a : List Int) (k : Int) : Option (Int × (List Int)) := z0a1 z10t FUEL k 0 a
def z05q : Con := ⟨44, [.v (.sl .I) true, .v .I false], [(.I, true)], [(0, .v (.sl .I) true)], fun x => z08z x.1 x.2.1⟩
def z21k : Fs := ⟨[], []⟩
theorem z1ow : z21k.Ok Tryz.prog := fs0
def z14y : Tmpl := ⟨[(0, .c (.ref 1000000)), (1, .c .i), (5, .c .i)], [(1000000, .arr .I true)]⟩
def z11i : Tmpl := ⟨[(1, .c .i)], [(1000000, .arr .I true)]⟩
def z1uh (av : AV) (x : HP z05q.ps) (n : Nat) (v : z14y.den) (K : Ks (CR z05q)) : Option (CR z05q) := z0a1 (fun s0_0 l0_2 => z11i.at none ((s0_0, ()), (l0_2, ())) (K (.exit 0))) n v.1.2.1 v.1.2.2.1 v.2.1
def z17k (av : AV) (x : HP z05q.ps) : Hdl (CR z05q) := hnd [] z14y (z1uh av x)
theorem z1rl : LP z05q Tryz.f44 [0] z17k := lp_ok (W := []) (H := []) (xs := [z11i]) z1ow trivial rfl (fun av x v K => by kernel_rfl) (fun av x n v K => by kernel_rfl)
theorem z0mb : z05q.Ok Tryz.prog := fn_ok (k := z05q) (fn := Tryz.f44) (W := []) (H := [z17k]) Tryz.func44 z1ow ⟨z1rl, trivial⟩ rfl rfl (fun av x => by kernel_rfl)
def z11v (s0_0 : Int) : Option Int := some s0_0
def z09x (a : List Int) (kx0_0 : Int → Option Int) : Nat → Int → Int → Option Int
  | 0, _, _ => none
  | n0 + 1, s0_0, s0_1 => if decide (s0_1 < (a.length : Int)) = true then ((getI a s0_1).bind fun x2 => (if decide (x2 = s0_0) = true then (gd (ok64 (s0_0 + 1)) (gd (ok64 (s0_1 + 1)) ((z09x a kx0_0 n0) (s0_0 + 1) (s0_1 + 1)))) else (some (-1)))) else (kx0_0 s0_0)
def z08r (a : List Int) (k : Int) : Option Int := z09x a z11v FUEL k 0
def z05o : Con := ⟨75, [.v (.sl .I) false, .v .I false], [(.I, true)], [], fun x => z08r x.1 x.2.1⟩
def z23e : Fs := ⟨[], []⟩
theorem z1k3 : z23e.Ok Tryz.prog := fs0
def z17m : Tmpl := ⟨[(0, .c (.s .I)), (1, .c .i), (5, .c .i)], []⟩
def z10x : Tmpl := ⟨[(1, .c .i)], []⟩
def z1v0 (av : AV) (x : HP z05o.ps) (n : Nat) (v : z17m.den) (K : Ks (CR z05o)) : Option (CR z05o) := z09x v.1.1 (fun s0_0 => z10x.at none ((s0_0, ()), ()) (K (.exit 0))) n v.1.2.1 v.1.2.2.1
def z191 (av : AV) (x : HP z05o.ps) : Hdl (CR z05o) := hnd [] z17m (z1v0 av x)
theorem z1u8 : LP z05o Tryz.f75 [0] z191 := lp_ok (W := []) (H := []) (xs := [z10x]) z1k3 trivial rfl (fun av x v K => by kernel_rfl) (fun av x n v K => by kernel_rfl)
theorem z0nu : z05o.Ok Tryz.prog := fn_ok (k := z05o) (fn := Tryz.f75) (W := []) (H := [z191]) Tryz.func75 z1k3 ⟨z1u8, trivial⟩ rfl rfl (fun av x => by kernel_rfl)
def z13e (s0_0 : Int) (l0_2 : List GFlow) : Option (Int × (List GFlow)) := some (s0_0, l0_2)
def z07a (kx0_0 : Int → List GFlow → Option (Int × (List GFlow))) : Nat → Int → Int → List GFlow → Option (Int × (List GFlow))
  | 0, _, _, _ => none
  | n0 + 1, s0_0, s0_1, l0_2 => if decide (s0_1 < (l0_2.length : Int)) = true then ((getI l0_2 s0_1).bind fun x2 => (gd (ok64 (s0_0 + 1)) ((getI (l0_2.set s0_1.toNat (GFlow.mk s0_0 x2.if_)) s0_1).bind fun x4 => (gd (ok64 ((s0_0 + 1) + 1)) ((getI ((l0_2.set s0_1.toNat (GFlow.mk s0_0 x2.if_)).set s0_1.toNat (GFlow.mk x4.to (GAsk.mk (s0_0 + 1) x4.if_.var x4.if_.k))) s0_1).bind fun x6 => (gd (ok64 (((s0_0 + 1) + 1) + 1)) ((getI (((l0_2.set s0_1.toNat (GFlow.mk s0_0 x2.if_)).set s0_1.toNat (GFlow.mk x4.to (GAsk.mk (s0_0 + 1) x4.if_.var x4.if_.k))).set s0_1.toNat (GFlow.mk x6.to (GAsk.mk x6.if_.op ((s0_0 + 1) + 1) x6.if_.k))) s0_1).bind fun x8 => (gd (ok64 ((((s0_0 + 1) + 1) + 1) + 1)) (gd (ok64 (s0_1 + 1)) ((z07a kx0_0 n0) ((((s0_0 + 1) + 1) + 1) + 1) (s0_1 + 1) ((((l0_2.set s0_1.toNat (GFlow.mk s0_0 x2.if_)).set s0_1.toNat (GFlow.mk x4.to (GAsk.mk (s0_0 + 1) x4.if_.var x4.if_.k))).set s0_1.toNat (GFlow.mk x6.to (GAsk.mk x6.if_.op ((s0_0 + 1) + 1) x6.if_.k))).set s0_1.toNat (GFlow.mk x8.to (GAsk.mk x8.if_.op x8.if_.var (((s0_0 + 1) + 1) + 1)))))))))))))) else (kx0_0 s0_0 l0_2)
def z0ds (a : List GFlow) (k : Int) : Option (Int × (List GFlow)) := z07a z13e FUEL k 0 a
def z039 : Con := ⟨189, [.v (.sl (.s .flow)) true, .v .I false], [(.I, true)], [(0, .v (.sl (.s .flow)) true)], fun x => z0ds x.1 x.2.1⟩
def z1fw : Fs := ⟨[], []⟩
theorem z0ye : z1fw.Ok Tryz.prog := fs0
def z0lu : Tmpl := ⟨[(0, .c (.ref 1000000)), (1, .c .i), (5, .c .i)], [(1000000, .arr (.s .flow) true)]⟩
def z0jq : Tmpl := ⟨[(1, .c .i)], [(1000000, .arr (.s .flow) true)]⟩
def z18a (av : AV) (x : HP z039.ps) (n : Nat) (v : z0lu.den) (K : Ks (CR z039)) : Option (CR z039) := z07a (fun s0_0 l0_2 => z0jq.at none ((s0_0, ()), (l0_2, ())) (K (.exit 0))) n v.1.2.1 v.1.2.2.1 v.2.1
def z0nf (av : AV) (x : HP z039.ps) : Hdl (CR z039) := hnd [] z0lu (z18a av x)
theorem z17v : LP z039 Tryz.f189 [0] z0nf := lp_ok (W := []) (H := []) (xs := [z0jq]) z0ye trivial rfl (fun av x v K => by kernel_rfl) (fun av x n v K => by kernel_rfl)
theorem z1eh : z039.Ok Tryz.prog := fn_ok (k := z039) (fn := Tryz.f189) (W := []) (H := [z0nf]) Tryz.func189 z0ye ⟨z17v, trivial⟩ rfl rfl (fun av x => by kernel_rfl)
def z132 (s0_0 : Int) : Option Int := some s0_0
def z07b (a : List GFlow) (kx0_0 : Int → Option Int) : Nat → Int → Int → Option Int
  | 0, _, _ => none
  | n0 + 1, s0_0, s0_1 => if decide (s0_1 < (a.length : Int)) = true then ((getI a s0_1).bind fun x2 => (if decide (x2.to = s0_0) = true then (gd (ok64 (s0_0 + 1)) ((getI a s0_1).bind fun x5 => (if decide (x5.if_.op = (s0_0 + 1)) = true then (gd (ok64 ((s0_0 + 1) + 1)) ((getI a s0_1).bind fun x8 => (if decide (x8.if_.var = ((s0_0 + 1) + 1)) = true then (gd (ok64 (((s0_0 + 1) + 1) + 1)) ((getI a s0_1).bind fun x11 => (if decide (x11.if_.k = (((s0_0 + 1) + 1) + 1)) = true then (gd (ok64 ((((s0_0 + 1) + 1) + 1) + 1)) (gd (ok64 (s0_1 + 1)) ((z07b a kx0_0 n0) ((((s0_0 + 1) + 1) + 1) + 1) (s0_1 + 1)))) else (some (-1))))) else (some (-1))))) else (some (-1))))) else (some (-1)))) else (kx0_0 s0_0)
def z0dy (a : List GFlow) (k : Int) : Option Int := z07b a z132 FUEL k 0
def z03j : Con := ⟨203, [.v (.sl (.s .flow)) false, .v .I false], [(.I, true)], [], fun x => z0dy x.1 x.2.1⟩
def z1fy : Fs := ⟨[], []⟩
theorem z0xm : z1fy.Ok Tryz.prog := fs0
def z0mk : Tmpl := ⟨[(0, .c (.s (.s .flow))), (1, .c .i), (5, .c .i)], []⟩
def z0ks : Tmpl := ⟨[(1, .c .i)], []⟩
def z14l (av : AV) (x : HP z03j.ps) (n : Nat) (v : z0mk.den) (K : Ks (CR z03j)) : Option (CR z03j) := z07b v.1.1 (fun s0_0 => z0ks.at none ((s0_0, ()), ()) (K (.exit 0))) n v.1.2.1 v.1.2.2.1
def z0oj (av : AV) (x : HP z03j.ps) : Hdl (CR z03j) := hnd [] z0mk (z14l av x)
theorem z18p : LP z03j Tryz.f203 [0] z0oj := lp_ok (W := []) (H := []) (xs := [z0ks]) z0xm trivial rfl (fun av x v K => by kernel_rfl) (fun av x n v K => by kernel_rfl)
theorem z1fp : z03j.Ok Tryz.prog := fn_ok (k := z03j) (fn := Tryz.f203) (W := []) (H := [z0oj]) Tryz.func203 z0xm ⟨z18p, trivial⟩ rfl rfl (fun av x => by kernel_rfl)
def z13k (s0_0 : Int) (l0_2 : List GTask) : Option (Int × (List GTask)) := some (s0_0, l0_2)
def z077 (kx0_0 : Int → List GTask → Option (Int × (List GTask))) : Nat → Int → Int → List GTask → Option (Int × (List GTask))
  | 0, _, _, _ => none
  | n0 + 1, s0_0, s0_1, l0_2 => if decide (s0_1 < (l0_2.length : Int)) = true then ((getI l0_2 s0_1).bind fun x2 => (gd (ok64 (s0_0 + 1)) ((getI (l0_2.set s0_1.toNat (GTask.mk s0_0 x2.split x2.in_ x2.out x2.clear x2.role x2.apart x2.all x2.need)) s0_1).bind fun x4 => (gd (ok64 ((s0_0 + 1) + 1)) ((getI ((l0_2.set s0_1.toNat (GTask.mk s0_0 x2.split x2.in_ x2.out x2.clear x2.role x2.apart x2.all x2.need)).set s0_1.toNat (GTask.mk x4.join (s0_0 + 1) x4.in_ x4.out x4.clear x4.role x4.apart x4.all x4.need)) s0_1).bind fun x6 => ((z08z x6.in_ ((s0_0 + 1) + 1)).bind fun x7 => ((getI (((l0_2.set s0_1.toNat (GTask.mk s0_0 x2.split x2.in_ x2.out x2.clear x2.role x2.apart x2.all x2.need)).set s0_1.toNat (GTask.mk x4.join (s0_0 + 1) x4.in_ x4.out x4.clear x4.role x4.apart x4.all x4.need)).set s0_1.toNat (GTask.mk x6.join x6.split x7.2 x6.out x6.clear x6.role x6.apart x6.all x6.need)) s0_1).bind fun x8 => ((z0ds x8.out x7.1).bind fun x9 => ((getI ((((l0_2.set s0_1.toNat (GTask.mk s0_0 x2.split x2.in_ x2.out x2.clear x2.role x2.apart x2.all x2.need)).set s0_1.toNat (GTask.mk x4.join (s0_0 + 1) x4.in_ x4.out x4.clear x4.role x4.apart x4.all x4.need)).set s0_1.toNat (GTask.mk x6.join x6.split x7.2 x6.out x6.clear x6.role x6.apart x6.all x6.need)).set s0_1.toNat (GTask.mk x8.join x8.split x8.in_ x9.2 x8.clear x8.role x8.apart x8.all x8.need)) s0_1).bind fun x10 => ((z08z x10.clear x9.1).bind fun x11 => ((getI (((((l0_2.set s0_1.toNat (GTask.mk s0_0 x2.split x2.in_ x2.out x2.clear x2.role x2.apart x2.all x2.need)).set s0_1.toNat (GTask.mk x4.join (s0_0 + 1) x4.in_ x4.out x4.clear x4.role x4.apart x4.all x4.need)).set s0_1.toNat (GTask.mk x6.join x6.split x7.2 x6.out x6.clear x6.role x6.apart x6.all x6.need)).set s0_1.toNat (GTask.mk x8.join x8.split x8.in_ x9.2 x8.clear x8.role x8.apart x8.all x8.need)).set s0_1.toNat (GTask.mk x10.join x10.split x10.in_ x10.out x11.2 x10.role x10.apart x10.all x10.need)) s0_1).bind fun x12 => (gd (ok64 (x11.1 + 1)) ((getI ((((((l0_2.set s0_1.toNat (GTask.mk s0_0 x2.split x2.in_ x2.out x2.clear x2.role x2.apart x2.all x2.need)).set s0_1.toNat (GTask.mk x4.join (s0_0 + 1) x4.in_ x4.out x4.clear x4.role x4.apart x4.all x4.need)).set s0_1.toNat (GTask.mk x6.join x6.split x7.2 x6.out x6.clear x6.role x6.apart x6.all x6.need)).set s0_1.toNat (GTask.mk x8.join x8.split x8.in_ x9.2 x8.clear x8.role x8.apart x8.all x8.need)).set s0_1.toNat (GTask.mk x10.join x10.split x10.in_ x10.out x11.2 x10.role x10.apart x10.all x10.need)).set s0_1.toNat (GTask.mk x12.join x12.split x12.in_ x12.out x12.clear x11.1 x12.apart x12.all x12.need)) s0_1).bind fun x14 => (gd (ok64 ((x11.1 + 1) + 1)) ((getI (((((((l0_2.set s0_1.toNat (GTask.mk s0_0 x2.split x2.in_ x2.out x2.clear x2.role x2.apart x2.all x2.need)).set s0_1.toNat (GTask.mk x4.join (s0_0 + 1) x4.in_ x4.out x4.clear x4.role x4.apart x4.all x4.need)).set s0_1.toNat (GTask.mk x6.join x6.split x7.2 x6.out x6.clear x6.role x6.apart x6.all x6.need)).set s0_1.toNat (GTask.mk x8.join x8.split x8.in_ x9.2 x8.clear x8.role x8.apart x8.all x8.need)).set s0_1.toNat (GTask.mk x10.join x10.split x10.in_ x10.out x11.2 x10.role x10.apart x10.all x10.need)).set s0_1.toNat (GTask.mk x12.join x12.split x12.in_ x12.out x12.clear x11.1 x12.apart x12.all x12.need)).set s0_1.toNat (GTask.mk x14.join x14.split x14.in_ x14.out x14.clear x14.role (x11.1 + 1) x14.all x14.need)) s0_1).bind fun x16 => (gd (ok64 (((x11.1 + 1) + 1) + 1)) ((getI ((((((((l0_2.set s0_1.toNat (GTask.mk s0_0 x2.split x2.in_ x2.out x2.clear x2.role x2.apart x2.all x2.need)).set s0_1.toNat (GTask.mk x4.join (s0_0 + 1) x4.in_ x4.out x4.clear x4.role x4.apart x4.all x4.need)).set s0_1.toNat (GTask.mk x6.join x6.split x7.2 x6.out x6.clear x6.role x6.apart x6.all x6.need)).set s0_1.toNat (GTask.mk x8.join x8.split x8.in_ x9.2 x8.clear x8.role x8.apart x8.all x8.need)).set s0_1.toNat (GTask.mk x10.join x10.split x10.in_ x10.out x11.2 x10.role x10.apart x10.all x10.need)).set s0_1.toNat (GTask.mk x12.join x12.split x12.in_ x12.out x12.clear x11.1 x12.apart x12.all x12.need)).set s0_1.toNat (GTask.mk x14.join x14.split x14.in_ x14.out x14.clear x14.role (x11.1 + 1) x14.all x14.need)).set s0_1.toNat (GTask.mk x16.join x16.split x16.in_ x16.out x16.clear x16.role x16.apart ((x11.1 + 1) + 1) x16.need)) s0_1).bind fun x18 => (gd (ok64 ((((x11.1 + 1) + 1) + 1) + 1)) (gd (ok64 (s0_1 + 1)) ((z077 kx0_0 n0) ((((x11.1 + 1) + 1) + 1) + 1) (s0_1 + 1) (((((((((l0_2.set s0_1.toNat (GTask.mk s0_0 x2.split x2.in_ x2.out x2.clear x2.role x2.apart x2.all x2.need)).set s0_1.toNat (GTask.mk x4.join (s0_0 + 1) x4.in_ x4.out x4.clear x4.role x4.apart x4.all x4.need)).set s0_1.toNat (GTask.mk x6.join x6.split x7.2 x6.out x6.clear x6.role x6.apart x6.all x6.need)).set s0_1.toNat (GTask.mk x8.join x8.split x8.in_ x9.2 x8.clear x8.role x8.apart x8.all x8.need)).set s0_1.toNat (GTask.mk x10.join x10.split x10.in_ x10.out x11.2 x10.role x10.apart x10.all x10.need)).set s0_1.toNat (GTask.mk x12.join x12.split x12.in_ x12.out x12.clear x11.1 x12.apart x12.all x12.need)).set s0_1.toNat (GTask.mk x14.join x14.split x14.in_ x14.out x14.clear x14.role (x11.1 + 1) x14.all x14.need)).set s0_1.toNat (GTask.mk x16.join x16.split x16.in_ x16.out x16.clear x16.role x16.apart ((x11.1 + 1) + 1) x16.need)).set s0_1.toNat (GTask.mk x18.join x18.split x18.in_ x18.out x18.clear x18.role x18.apart x18.all (((x11.1 + 1) + 1) + 1))))))))))))))))))))))) else (kx0_0 s0_0 l0_2)
def z0dk (a : List GTask) (k : Int) : Option (Int × (List GTask)) := z077 z13k FUEL k 0 a
def z03b : Con := ⟨114, [.v (.sl (.s .task)) true, .v .I false], [(.I, true)], [(0, .v (.sl (.s .task)) true)], fun x => z0dk x.1 x.2.1⟩
def z1hb : Fs := ⟨[z05q, z039], []⟩
theorem z0vn : z1hb.Ok Tryz.prog := (fsK z0mb (fsK z1eh fs0))
def z0lo : Tmpl := ⟨[(0, .c (.ref 1000000)), (1, .c .i), (5, .c .i)], [(1000000, .arr (.s .task) true)]⟩
def z0kp : Tmpl := ⟨[(1, .c .i)], [(1000000, .arr (.s .task) true)]⟩
def z16q (av : AV) (x : HP z03b.ps) (n : Nat) (v : z0lo.den) (K : Ks (CR z03b)) : Option (CR z03b) := z077 (fun s0_0 l0_2 => z0kp.at none ((s0_0, ()), (l0_2, ())) (K (.exit 0))) n v.1.2.1 v.1.2.2.1 v.2.1
def z0pj (av : AV) (x : HP z03b.ps) : Hdl (CR z03b) := hnd [] z0lo (z16q av x)
theorem z18g : LP z03b Tryz.f114 [0] z0pj := lp_ok (W := []) (H := []) (xs := [z0kp]) z0vn trivial rfl (fun av x v K => by kernel_rfl) (fun av x n v K => by kernel_rfl)
theorem z1em : z03b.Ok Tryz.prog := fn_ok (k := z03b) (fn := Tryz.f114) (W := []) (H := [z0pj]) Tryz.func114 z0vn ⟨z18g, trivial⟩ rfl rfl (fun av x => by kernel_rfl)
def z137 (s0_0 : Int) : Option Int := some s0_0
def z079 (a : List GTask) (kx0_0 : Int → Option Int) : Nat → Int → Int → Option Int
  | 0, _, _ => none
  | n0 + 1, s0_0, s0_1 => if decide (s0_1 < (a.length : Int)) = true then ((getI a s0_1).bind fun x2 => (if decide (x2.join = s0_0) = true then (gd (ok64 (s0_0 + 1)) ((getI a s0_1).bind fun x5 => (if decide (x5.split = (s0_0 + 1)) = true then (gd (ok64 ((s0_0 + 1) + 1)) ((getI a s0_1).bind fun x8 => ((z08r x8.in_ ((s0_0 + 1) + 1)).bind fun x9 => (if decide (x9 < 0) = true then (some (-1)) else ((getI a s0_1).bind fun x11 => ((z0dy x11.out x9).bind fun x12 => (if decide (x12 < 0) = true then (some (-1)) else ((getI a s0_1).bind fun x14 => ((z08r x14.clear x12).bind fun x15 => (if decide (x15 < 0) = true then (some (-1)) else ((getI a s0_1).bind fun x17 => (if decide (x17.role = x15) = true then (gd (ok64 (x15 + 1)) ((getI a s0_1).bind fun x20 => (if decide (x20.apart = (x15 + 1)) = true then (gd (ok64 ((x15 + 1) + 1)) ((getI a s0_1).bind fun x23 => (if decide (x23.all = ((x15 + 1) + 1)) = true then (gd (ok64 (((x15 + 1) + 1) + 1)) ((getI a s0_1).bind fun x26 => (if decide (x26.need = (((x15 + 1) + 1) + 1)) = true then (gd (ok64 ((((x15 + 1) + 1) + 1) + 1)) (gd (ok64 (s0_1 + 1)) ((z079 a kx0_0 n0) ((((x15 + 1) + 1) + 1) + 1) (s0_1 + 1)))) else (some (-1))))) else (some (-1))))) else (some (-1))))) else (some (-1)))))))))))))) else (some (-1))))) else (some (-1)))) else (kx0_0 s0_0)
def z0dt (a : List GTask) (k : Int) : Option Int := z079 a z137 FUEL k 0
def z03c : Con := ⟨152, [.v (.sl (.s .task)) false, .v .I false], [(.I, true)], [], fun x => z0dt x.1 x.2.1⟩
def z1gq : Fs := ⟨[z05o, z03j], []⟩
theorem z0y6 : z1gq.Ok Tryz.prog := (fsK z0nu (fsK z1fp fs0))
def z0lt : Tmpl := ⟨[(0, .c (.s (.s .task))), (1, .c .i), (5, .c .i)], []⟩
def z0k5 : Tmpl := ⟨[(1, .c .i)], []⟩
def z18o (av : AV) (x : HP z03c.ps) (n : Nat) (v : z0lt.den) (K : Ks (CR z03c)) : Option (CR z03c) := z079 v.1.1 (fun s0_0 => z0k5.at none ((s0_0, ()), ()) (K (.exit 0))) n v.1.2.1 v.1.2.2.1
def z0p6 (av : AV) (x : HP z03c.ps) : Hdl (CR z03c) := hnd [] z0lt (z18o av x)
theorem z14i : LP z03c Tryz.f152 [0] z0p6 := lp_ok (W := []) (H := []) (xs := [z0k5]) z0y6 trivial rfl (fun av x v K => by kernel_rfl) (fun av x n v K => by kernel_rfl)
theorem z1h4 : z03c.Ok Tryz.prog := fn_ok (k := z03c) (fn := Tryz.f152) (W := []) (H := [z0p6]) Tryz.func152 z0y6 ⟨z14i, trivial⟩ rfl rfl (fun av x => by kernel_rfl)
def z14x (s0_0 : Int) (l0_2 : List GNet) : Option (Int × (List GNet)) := some (s0_0, l0_2)
def z08b (kx0_0 : Int → List GNet → Option (Int × (List GNet))) : Nat → Int → Int → List GNet → Option (Int × (List GNet))
  | 0, _, _, _ => none
  | n0 + 1, s0_0, s0_1, l0_2 => if decide (s0_1 < (l0_2.length : Int)) = true then ((getI l0_2 s0_1).bind fun x2 => (gd (ok64 (s0_0 + 1)) ((getI (l0_2.set s0_1.toNat (GNet.mk s0_0 x2.tasks)) s0_1).bind fun x4 => ((z0dk x4.tasks (s0_0 + 1)).bind fun x5 => (gd (ok64 (s0_1 + 1)) ((z08b kx0_0 n0) x5.1 (s0_1 + 1) ((l0_2.set s0_1.toNat (GNet.mk s0_0 x2.tasks)).set s0_1.toNat (GNet.mk x4.places x5.2)))))))) else (kx0_0 s0_0 l0_2)
def z0fv (a : List GNet) (k : Int) : Option (Int × (List GNet)) := z08b z14x FUEL k 0 a
def z05a : Con := ⟨52, [.v (.sl (.s .net)) true, .v .I false], [(.I, true)], [(0, .v (.sl (.s .net)) true)], fun x => z0fv x.1 x.2.1⟩
def z1ov : Fs := ⟨[z03b], []⟩
theorem z12g : z1ov.Ok Tryz.prog := (fsK z1em fs0)
def z0sn : Tmpl := ⟨[(0, .c (.ref 1000000)), (1, .c .i), (5, .c .i)], [(1000000, .arr (.s .net) true)]⟩
def z0mu : Tmpl := ⟨[(1, .c .i)], [(1000000, .arr (.s .net) true)]⟩
def z1bh (av : AV) (x : HP z05a.ps) (n : Nat) (v : z0sn.den) (K : Ks (CR z05a)) : Option (CR z05a) := z08b (fun s0_0 l0_2 => z0mu.at none ((s0_0, ()), (l0_2, ())) (K (.exit 0))) n v.1.2.1 v.1.2.2.1 v.2.1
def z0sh (av : AV) (x : HP z05a.ps) : Hdl (CR z05a) := hnd [] z0sn (z1bh av x)
theorem z1al : LP z05a Tryz.f52 [0] z0sh := lp_ok (W := []) (H := []) (xs := [z0mu]) z12g trivial rfl (fun av x v K => by kernel_rfl) (fun av x n v K => by kernel_rfl)
theorem z1jg : z05a.Ok Tryz.prog := fn_ok (k := z05a) (fn := Tryz.f52) (W := []) (H := [z0sh]) Tryz.func52 z12g ⟨z1al, trivial⟩ rfl rfl (fun av x => by kernel_rfl)
def z154 (s0_0 : Int) : Option Int := some s0_0
def z08i (a : List GNet) (kx0_0 : Int → Option Int) : Nat → Int → Int → Option Int
  | 0, _, _ => none
  | n0 + 1, s0_0, s0_1 => if decide (s0_1 < (a.length : Int)) = true then ((getI a s0_1).bind fun x2 => (if decide (x2.places = s0_0) = true then (gd (ok64 (s0_0 + 1)) ((getI a s0_1).bind fun x5 => ((z0dt x5.tasks (s0_0 + 1)).bind fun x6 => (if decide (x6 < 0) = true then (some (-1)) else (gd (ok64 (s0_1 + 1)) ((z08i a kx0_0 n0) x6 (s0_1 + 1))))))) else (some (-1)))) else (kx0_0 s0_0)
def z0fb (a : List GNet) (k : Int) : Option Int := z08i a z154 FUEL k 0
def z053 : Con := ⟨74, [.v (.sl (.s .net)) false, .v .I false], [(.I, true)], [], fun x => z0fb x.1 x.2.1⟩
def z1kb : Fs := ⟨[z03c], []⟩
theorem z11q : z1kb.Ok Tryz.prog := (fsK z1h4 fs0)
def z0t0 : Tmpl := ⟨[(0, .c (.s (.s .net))), (1, .c .i), (5, .c .i)], []⟩
def z0oz : Tmpl := ⟨[(1, .c .i)], []⟩
def z1ae (av : AV) (x : HP z053.ps) (n : Nat) (v : z0t0.den) (K : Ks (CR z053)) : Option (CR z053) := z08i v.1.1 (fun s0_0 => z0oz.at none ((s0_0, ()), ()) (K (.exit 0))) n v.1.2.1 v.1.2.2.1
def z0rs (av : AV) (x : HP z053.ps) : Hdl (CR z053) := hnd [] z0t0 (z1ae av x)
theorem z1ce : LP z053 Tryz.f74 [0] z0rs := lp_ok (W := []) (H := []) (xs := [z0oz]) z11q trivial rfl (fun av x v K => by kernel_rfl) (fun av x n v K => by kernel_rfl)
theorem z1pb : z053.Ok Tryz.prog := fn_ok (k := z053) (fn := Tryz.f74) (W := []) (H := [z0rs]) Tryz.func74 z11q ⟨z1ce, trivial⟩ rfl rfl (fun av x => by kernel_rfl)
def z134 (s0_0 : Int) (l0_2 : List GNode) : Option (Int × (List GNode)) := some (s0_0, l0_2)
def z078 (kx0_0 : Int → List GNode → Option (Int × (List GNode))) : Nat → Int → Int → List GNode → Option (Int × (List GNode))
  | 0, _, _, _ => none
  | n0 + 1, s0_0, s0_1, l0_2 => if decide (s0_1 < (l0_2.length : Int)) = true then ((getI l0_2 s0_1).bind fun x2 => (gd (ok64 (s0_0 + 1)) ((getI (l0_2.set s0_1.toNat (GNode.mk (GAsk.mk s0_0 x2.if_.var x2.if_.k) x2.yes x2.no x2.ans x2.stone)) s0_1).bind fun x4 => (gd (ok64 ((s0_0 + 1) + 1)) ((getI ((l0_2.set s0_1.toNat (GNode.mk (GAsk.mk s0_0 x2.if_.var x2.if_.k) x2.yes x2.no x2.ans x2.stone)).set s0_1.toNat (GNode.mk (GAsk.mk x4.if_.op (s0_0 + 1) x4.if_.k) x4.yes x4.no x4.ans x4.stone)) s0_1).bind fun x6 => (gd (ok64 (((s0_0 + 1) + 1) + 1)) ((getI (((l0_2.set s0_1.toNat (GNode.mk (GAsk.mk s0_0 x2.if_.var x2.if_.k) x2.yes x2.no x2.ans x2.stone)).set s0_1.toNat (GNode.mk (GAsk.mk x4.if_.op (s0_0 + 1) x4.if_.k) x4.yes x4.no x4.ans x4.stone)).set s0_1.toNat (GNode.mk (GAsk.mk x6.if_.op x6.if_.var ((s0_0 + 1) + 1)) x6.yes x6.no x6.ans x6.stone)) s0_1).bind fun x8 => (gd (ok64 ((((s0_0 + 1) + 1) + 1) + 1)) ((getI ((((l0_2.set s0_1.toNat (GNode.mk (GAsk.mk s0_0 x2.if_.var x2.if_.k) x2.yes x2.no x2.ans x2.stone)).set s0_1.toNat (GNode.mk (GAsk.mk x4.if_.op (s0_0 + 1) x4.if_.k) x4.yes x4.no x4.ans x4.stone)).set s0_1.toNat (GNode.mk (GAsk.mk x6.if_.op x6.if_.var ((s0_0 + 1) + 1)) x6.yes x6.no x6.ans x6.stone)).set s0_1.toNat (GNode.mk x8.if_ (((s0_0 + 1) + 1) + 1) x8.no x8.ans x8.stone)) s0_1).bind fun x10 => (gd (ok64 (((((s0_0 + 1) + 1) + 1) + 1) + 1)) ((getI (((((l0_2.set s0_1.toNat (GNode.mk (GAsk.mk s0_0 x2.if_.var x2.if_.k) x2.yes x2.no x2.ans x2.stone)).set s0_1.toNat (GNode.mk (GAsk.mk x4.if_.op (s0_0 + 1) x4.if_.k) x4.yes x4.no x4.ans x4.stone)).set s0_1.toNat (GNode.mk (GAsk.mk x6.if_.op x6.if_.var ((s0_0 + 1) + 1)) x6.yes x6.no x6.ans x6.stone)).set s0_1.toNat (GNode.mk x8.if_ (((s0_0 + 1) + 1) + 1) x8.no x8.ans x8.stone)).set s0_1.toNat (GNode.mk x10.if_ x10.yes ((((s0_0 + 1) + 1) + 1) + 1) x10.ans x10.stone)) s0_1).bind fun x12 => (gd (ok64 ((((((s0_0 + 1) + 1) + 1) + 1) + 1) + 1)) ((getI ((((((l0_2.set s0_1.toNat (GNode.mk (GAsk.mk s0_0 x2.if_.var x2.if_.k) x2.yes x2.no x2.ans x2.stone)).set s0_1.toNat (GNode.mk (GAsk.mk x4.if_.op (s0_0 + 1) x4.if_.k) x4.yes x4.no x4.ans x4.stone)).set s0_1.toNat (GNode.mk (GAsk.mk x6.if_.op x6.if_.var ((s0_0 + 1) + 1)) x6.yes x6.no x6.ans x6.stone)).set s0_1.toNat (GNode.mk x8.if_ (((s0_0 + 1) + 1) + 1) x8.no x8.ans x8.stone)).set s0_1.toNat (GNode.mk x10.if_ x10.yes ((((s0_0 + 1) + 1) + 1) + 1) x10.ans x10.stone)).set s0_1.toNat (GNode.mk x12.if_ x12.yes x12.no (((((s0_0 + 1) + 1) + 1) + 1) + 1) x12.stone)) s0_1).bind fun x14 => ((z08z x14.stone ((((((s0_0 + 1) + 1) + 1) + 1) + 1) + 1)).bind fun x15 => (gd (ok64 (s0_1 + 1)) ((z078 kx0_0 n0) x15.1 (s0_1 + 1) (((((((l0_2.set s0_1.toNat (GNode.mk (GAsk.mk s0_0 x2.if_.var x2.if_.k) x2.yes x2.no x2.ans x2.stone)).set s0_1.toNat (GNode.mk (GAsk.mk x4.if_.op (s0_0 + 1) x4.if_.k) x4.yes x4.no x4.ans x4.stone)).set s0_1.toNat (GNode.mk (GAsk.mk x6.if_.op x6.if_.var ((s0_0 + 1) + 1)) x6.yes x6.no x6.ans x6.stone)).set s0_1.toNat (GNode.mk x8.if_ (((s0_0 + 1) + 1) + 1) x8.no x8.ans x8.stone)).set s0_1.toNat (GNode.mk x10.if_ x10.yes ((((s0_0 + 1) + 1) + 1) + 1) x10.ans x10.stone)).set s0_1.toNat (GNode.mk x12.if_ x12.yes x12.no (((((s0_0 + 1) + 1) + 1) + 1) + 1) x12.stone)).set s0_1.toNat (GNode.mk x14.if_ x14.yes x14.no x14.ans x15.2)))))))))))))))))) else (kx0_0 s0_0 l0_2)
def z0dj (a : List GNode) (k : Int) : Option (Int × (List GNode)) := z078 z134 FUEL k 0 a
def z03i : Con := ⟨72, [.v (.sl (.s .node)) true, .v .I false], [(.I, true)], [(0, .v (.sl (.s .node)) true)], fun x => z0dj x.1 x.2.1⟩
def z1io : Fs := ⟨[z05q], []⟩
theorem z0x5 : z1io.Ok Tryz.prog := (fsK z0mb fs0)
def z0ov : Tmpl := ⟨[(0, .c (.ref 1000000)), (1, .c .i), (5, .c .i)], [(1000000, .arr (.s .node) true)]⟩
def z0kg : Tmpl := ⟨[(1, .c .i)], [(1000000, .arr (.s .node) true)]⟩
def z14k (av : AV) (x : HP z03i.ps) (n : Nat) (v : z0ov.den) (K : Ks (CR z03i)) : Option (CR z03i) := z078 (fun s0_0 l0_2 => z0kg.at none ((s0_0, ()), (l0_2, ())) (K (.exit 0))) n v.1.2.1 v.1.2.2.1 v.2.1
def z0nr (av : AV) (x : HP z03i.ps) : Hdl (CR z03i) := hnd [] z0ov (z14k av x)
theorem z16g : LP z03i Tryz.f72 [0] z0nr := lp_ok (W := []) (H := []) (xs := [z0kg]) z0x5 trivial rfl (fun av x v K => by kernel_rfl) (fun av x n v K => by kernel_rfl)
theorem z1f3 : z03i.Ok Tryz.prog := fn_ok (k := z03i) (fn := Tryz.f72) (W := []) (H := [z0nr]) Tryz.func72 z0x5 ⟨z16g, trivial⟩ rfl rfl (fun av x => by kernel_rfl)
def z139 (s0_0 : Int) : Option Int := some s0_0
def z075 (a : List GNode) (kx0_0 : Int → Option Int) : Nat → Int → Int → Option Int
  | 0, _, _ => none
  | n0 + 1, s0_0, s0_1 => if decide (s0_1 < (a.length : Int)) = true then ((getI a s0_1).bind fun x2 => (if decide (x2.if_.op = s0_0) = true then (gd (ok64 (s0_0 + 1)) ((getI a s0_1).bind fun x5 => (if decide (x5.if_.var = (s0_0 + 1)) = true then (gd (ok64 ((s0_0 + 1) + 1)) ((getI a s0_1).bind fun x8 => (if decide (x8.if_.k = ((s0_0 + 1) + 1)) = true then (gd (ok64 (((s0_0 + 1) + 1) + 1)) ((getI a s0_1).bind fun x11 => (if decide (x11.yes = (((s0_0 + 1) + 1) + 1)) = true then (gd (ok64 ((((s0_0 + 1) + 1) + 1) + 1)) ((getI a s0_1).bind fun x14 => (if decide (x14.no = ((((s0_0 + 1) + 1) + 1) + 1)) = true then (gd (ok64 (((((s0_0 + 1) + 1) + 1) + 1) + 1)) ((getI a s0_1).bind fun x17 => (if decide (x17.ans = (((((s0_0 + 1) + 1) + 1) + 1) + 1)) = true then (gd (ok64 ((((((s0_0 + 1) + 1) + 1) + 1) + 1) + 1)) ((getI a s0_1).bind fun x20 => ((z08r x20.stone ((((((s0_0 + 1) + 1) + 1) + 1) + 1) + 1)).bind fun x21 => (if decide (x21 < 0) = true then (some (-1)) else (gd (ok64 (s0_1 + 1)) ((z075 a kx0_0 n0) x21 (s0_1 + 1))))))) else (some (-1))))) else (some (-1))))) else (some (-1))))) else (some (-1))))) else (some (-1))))) else (some (-1)))) else (kx0_0 s0_0)
def z0dv (a : List GNode) (k : Int) : Option Int := z075 a z139 FUEL k 0
def z03g : Con := ⟨76, [.v (.sl (.s .node)) false, .v .I false], [(.I, true)], [], fun x => z0dv x.1 x.2.1⟩
def z1f2 : Fs := ⟨[z05o], []⟩
theorem z0yc : z1f2.Ok Tryz.prog := (fsK z0nu fs0)
def z0ou : Tmpl := ⟨[(0, .c (.s (.s .node))), (1, .c .i), (5, .c .i)], []⟩
def z0jr : Tmpl := ⟨[(1, .c .i)], []⟩
def z180 (av : AV) (x : HP z03g.ps) (n : Nat) (v : z0ou.den) (K : Ks (CR z03g)) : Option (CR z03g) := z075 v.1.1 (fun s0_0 => z0jr.at none ((s0_0, ()), ()) (K (.exit 0))) n v.1.2.1 v.1.2.2.1
def z0p5 (av : AV) (x : HP z03g.ps) : Hdl (CR z03g) := hnd [] z0ou (z180 av x)
theorem z16u : LP z03g Tryz.f76 [0] z0p5 := lp_ok (W := []) (H := []) (xs := [z0jr]) z0yc trivial rfl (fun av x v K => by kernel_rfl) (fun av x n v K => by kernel_rfl)
theorem z1e0 : z03g.Ok Tryz.prog := fn_ok (k := z03g) (fn := Tryz.f76) (W := []) (H := [z0p5]) Tryz.func76 z0yc ⟨z16u, trivial⟩ rfl rfl (fun av x => by kernel_rfl)
def z12u (s0_0 : Int) (l0_2 : List GItem) : Option (Int × (List GItem)) := some (s0_0, l0_2)
def z076 (kx0_0 : Int → List GItem → Option (Int × (List GItem))) : Nat → Int → Int → List GItem → Option (Int × (List GItem))
  | 0, _, _, _ => none
  | n0 + 1, s0_0, s0_1, l0_2 => if decide (s0_1 < (l0_2.length : Int)) = true then ((getI l0_2 s0_1).bind fun x2 => (gd (ok64 (s0_0 + 1)) ((getI (l0_2.set s0_1.toNat (GItem.mk s0_0 x2.who x2.did)) s0_1).bind fun x4 => (gd (ok64 ((s0_0 + 1) + 1)) ((getI ((l0_2.set s0_1.toNat (GItem.mk s0_0 x2.who x2.did)).set s0_1.toNat (GItem.mk x4.task (s0_0 + 1) x4.did)) s0_1).bind fun x6 => (gd (ok64 (((s0_0 + 1) + 1) + 1)) (gd (ok64 (s0_1 + 1)) ((z076 kx0_0 n0) (((s0_0 + 1) + 1) + 1) (s0_1 + 1) (((l0_2.set s0_1.toNat (GItem.mk s0_0 x2.who x2.did)).set s0_1.toNat (GItem.mk x4.task (s0_0 + 1) x4.did)).set s0_1.toNat (GItem.mk x6.task x6.who ((s0_0 + 1) + 1))))))))))) else (kx0_0 s0_0 l0_2)
def z0dl (a : List GItem) (k : Int) : Option (Int × (List GItem)) := z076 z12u FUEL k 0 a
def z038 : Con := ⟨115, [.v (.sl (.s .item)) true, .v .I false], [(.I, true)], [(0, .v (.sl (.s .item)) true)], fun x => z0dl x.1 x.2.1⟩
def z1e3 : Fs := ⟨[], []⟩
theorem z0wq : z1e3.Ok Tryz.prog := fs0
def z0of : Tmpl := ⟨[(0, .c (.ref 1000000)), (1, .c .i), (5, .c .i)], [(1000000, .arr (.s .item) true)]⟩
def z0k3 : Tmpl := ⟨[(1, .c .i)], [(1000000, .arr (.s .item) true)]⟩
def z18v (av : AV) (x : HP z038.ps) (n : Nat) (v : z0of.den) (K : Ks (CR z038)) : Option (CR z038) := z076 (fun s0_0 l0_2 => z0k3.at none ((s0_0, ()), (l0_2, ())) (K (.exit 0))) n v.1.2.1 v.1.2.2.1 v.2.1
def z0m7 (av : AV) (x : HP z038.ps) : Hdl (CR z038) := hnd [] z0of (z18v av x)
theorem z16x : LP z038 Tryz.f115 [0] z0m7 := lp_ok (W := []) (H := []) (xs := [z0k3]) z0wq trivial rfl (fun av x v K => by kernel_rfl) (fun av x n v K => by kernel_rfl)
theorem z1i6 : z038.Ok Tryz.prog := fn_ok (k := z038) (fn := Tryz.f115) (W := []) (H := [z0m7]) Tryz.func115 z0wq ⟨z16x, trivial⟩ rfl rfl (fun av x => by kernel_rfl)
def z13g (s0_0 : Int) : Option Int := some s0_0
def z074 (a : List GItem) (kx0_0 : Int → Option Int) : Nat → Int → Int → Option Int
  | 0, _, _ => none
  | n0 + 1, s0_0, s0_1 => if decide (s0_1 < (a.length : Int)) = true then ((getI a s0_1).bind fun x2 => (if decide (x2.task = s0_0) = true then (gd (ok64 (s0_0 + 1)) ((getI a s0_1).bind fun x5 => (if decide (x5.who = (s0_0 + 1)) = true then (gd (ok64 ((s0_0 + 1) + 1)) ((getI a s0_1).bind fun x8 => (if decide (x8.did = ((s0_0 + 1) + 1)) = true then (gd (ok64 (((s0_0 + 1) + 1) + 1)) (gd (ok64 (s0_1 + 1)) ((z074 a kx0_0 n0) (((s0_0 + 1) + 1) + 1) (s0_1 + 1)))) else (some (-1))))) else (some (-1))))) else (some (-1)))) else (kx0_0 s0_0)
def z0e0 (a : List GItem) (k : Int) : Option Int := z074 a z13g FUEL k 0
def z03d : Con := ⟨117, [.v (.sl (.s .item)) false, .v .I false], [(.I, true)], [], fun x => z0e0 x.1 x.2.1⟩
def z1ff : Fs := ⟨[], []⟩
theorem z0wg : z1ff.Ok Tryz.prog := fs0
def z0o6 : Tmpl := ⟨[(0, .c (.s (.s .item))), (1, .c .i), (5, .c .i)], []⟩
def z0jl : Tmpl := ⟨[(1, .c .i)], []⟩
def z176 (av : AV) (x : HP z03d.ps) (n : Nat) (v : z0o6.den) (K : Ks (CR z03d)) : Option (CR z03d) := z074 v.1.1 (fun s0_0 => z0jl.at none ((s0_0, ()), ()) (K (.exit 0))) n v.1.2.1 v.1.2.2.1
def z0lh (av : AV) (x : HP z03d.ps) : Hdl (CR z03d) := hnd [] z0o6 (z176 av x)
theorem z15j : LP z03d Tryz.f117 [0] z0lh := lp_ok (W := []) (H := []) (xs := [z0jl]) z0wg trivial rfl (fun av x v K => by kernel_rfl) (fun av x n v K => by kernel_rfl)
theorem z1h7 : z03d.Ok Tryz.prog := fn_ok (k := z03d) (fn := Tryz.f117) (W := []) (H := [z0lh]) Tryz.func117 z0wg ⟨z15j, trivial⟩ rfl rfl (fun av x => by kernel_rfl)
def z147 (s0_0 : Int) (l0_2 : List GDid) : Option (Int × (List GDid)) := some (s0_0, l0_2)
def z08g (kx0_0 : Int → List GDid → Option (Int × (List GDid))) : Nat → Int → Int → List GDid → Option (Int × (List GDid))
  | 0, _, _, _ => none
  | n0 + 1, s0_0, s0_1, l0_2 => if decide (s0_1 < (l0_2.length : Int)) = true then ((getI l0_2 s0_1).bind fun x2 => (gd (ok64 (s0_0 + 1)) ((getI (l0_2.set s0_1.toNat (GDid.mk s0_0 x2.who)) s0_1).bind fun x4 => (gd (ok64 ((s0_0 + 1) + 1)) (gd (ok64 (s0_1 + 1)) ((z08g kx0_0 n0) ((s0_0 + 1) + 1) (s0_1 + 1) ((l0_2.set s0_1.toNat (GDid.mk s0_0 x2.who)).set s0_1.toNat (GDid.mk x4.task (s0_0 + 1))))))))) else (kx0_0 s0_0 l0_2)
def z0f7 (a : List GDid) (k : Int) : Option (Int × (List GDid)) := z08g z147 FUEL k 0 a
def z04x : Con := ⟨116, [.v (.sl (.s .did)) true, .v .I false], [(.I, true)], [(0, .v (.sl (.s .did)) true)], fun x => z0f7 x.1 x.2.1⟩
def z1pf : Fs := ⟨[], []⟩
theorem z11h : z1pf.Ok Tryz.prog := fs0
def z0rg : Tmpl := ⟨[(0, .c (.ref 1000000)), (1, .c .i), (5, .c .i)], [(1000000, .arr (.s .did) true)]⟩
def z0np : Tmpl := ⟨[(1, .c .i)], [(1000000, .arr (.s .did) true)]⟩
def z1ci (av : AV) (x : HP z04x.ps) (n : Nat) (v : z0rg.den) (K : Ks (CR z04x)) : Option (CR z04x) := z08g (fun s0_0 l0_2 => z0np.at none ((s0_0, ()), (l0_2, ())) (K (.exit 0))) n v.1.2.1 v.1.2.2.1 v.2.1
def z0rf (av : AV) (x : HP z04x.ps) : Hdl (CR z04x) := hnd [] z0rg (z1ci av x)
theorem z1b2 : LP z04x Tryz.f116 [0] z0rf := lp_ok (W := []) (H := []) (xs := [z0np]) z11h trivial rfl (fun av x v K => by kernel_rfl) (fun av x n v K => by kernel_rfl)
theorem z1l4 : z04x.Ok Tryz.prog := fn_ok (k := z04x) (fn := Tryz.f116) (W := []) (H := [z0rf]) Tryz.func116 z11h ⟨z1b2, trivial⟩ rfl rfl (fun av x => by kernel_rfl)
def z14d (s0_0 : Int) : Option Int := some s0_0
def z087 (a : List GDid) (kx0_0 : Int → Option Int) : Nat → Int → Int → Option Int
  | 0, _, _ => none
  | n0 + 1, s0_0, s0_1 => if decide (s0_1 < (a.length : Int)) = true then ((getI a s0_1).bind fun x2 => (if decide (x2.task = s0_0) = true then (gd (ok64 (s0_0 + 1)) ((getI a s0_1).bind fun x5 => (if decide (x5.who = (s0_0 + 1)) = true then (gd (ok64 ((s0_0 + 1) + 1)) (gd (ok64 (s0_1 + 1)) ((z087 a kx0_0 n0) ((s0_0 + 1) + 1) (s0_1 + 1)))) else (some (-1))))) else (some (-1)))) else (kx0_0 s0_0)
def z0fc (a : List GDid) (k : Int) : Option Int := z087 a z14d FUEL k 0
def z050 : Con := ⟨118, [.v (.sl (.s .did)) false, .v .I false], [(.I, true)], [], fun x => z0fc x.1 x.2.1⟩
def z1lq : Fs := ⟨[], []⟩
theorem z11l : z1lq.Ok Tryz.prog := fs0
def z0rq : Tmpl := ⟨[(0, .c (.s (.s .did))), (1, .c .i), (5, .c .i)], []⟩
def z0o8 : Tmpl := ⟨[(1, .c .i)], []⟩
def z1ai (av : AV) (x : HP z050.ps) (n : Nat) (v : z0rq.den) (K : Ks (CR z050)) : Option (CR z050) := z087 v.1.1 (fun s0_0 => z0o8.at none ((s0_0, ()), ()) (K (.exit 0))) n v.1.2.1 v.1.2.2.1
def z0qx (av : AV) (x : HP z050.ps) : Hdl (CR z050) := hnd [] z0rq (z1ai av x)
theorem z1b6 : LP z050 Tryz.f118 [0] z0qx := lp_ok (W := []) (H := []) (xs := [z0o8]) z11l trivial rfl (fun av x v K => by kernel_rfl) (fun av x n v K => by kernel_rfl)
theorem z1k2 : z050.Ok Tryz.prog := fn_ok (k := z050) (fn := Tryz.f118) (W := []) (H := [z0qx]) Tryz.func118 z11l ⟨z1b6, trivial⟩ rfl rfl (fun av x => by kernel_rfl)
def z17d (s0_0 : Int) (l0_2 : List GRun) : Option (Int × (List GRun)) := some (s0_0, l0_2)
def z088 (kx0_0 : Int → List GRun → Option (Int × (List GRun))) : Nat → Int → Int → List GRun → Option (Int × (List GRun))
  | 0, _, _, _ => none
  | n0 + 1, s0_0, s0_1, l0_2 => if decide (s0_1 < (l0_2.length : Int)) = true then ((getI l0_2 s0_1).bind fun x2 => (gd (ok64 (s0_0 + 1)) ((getI (l0_2.set s0_1.toNat (GRun.mk s0_0 x2.case)) s0_1).bind fun x4 => (gd (ok64 ((s0_0 + 1) + 1)) ((getI ((l0_2.set s0_1.toNat (GRun.mk s0_0 x2.case)).set s0_1.toNat (GRun.mk x4.net (GCase.mk (s0_0 + 1) x4.case.marks x4.case.busy x4.case.data x4.case.did))) s0_1).bind fun x6 => ((z08z x6.case.marks ((s0_0 + 1) + 1)).bind fun x7 => ((getI (((l0_2.set s0_1.toNat (GRun.mk s0_0 x2.case)).set s0_1.toNat (GRun.mk x4.net (GCase.mk (s0_0 + 1) x4.case.marks x4.case.busy x4.case.data x4.case.did))).set s0_1.toNat (GRun.mk x6.net (GCase.mk x6.case.state x7.2 x6.case.busy x6.case.data x6.case.did))) s0_1).bind fun x8 => ((z0dl x8.case.busy x7.1).bind fun x9 => ((getI ((((l0_2.set s0_1.toNat (GRun.mk s0_0 x2.case)).set s0_1.toNat (GRun.mk x4.net (GCase.mk (s0_0 + 1) x4.case.marks x4.case.busy x4.case.data x4.case.did))).set s0_1.toNat (GRun.mk x6.net (GCase.mk x6.case.state x7.2 x6.case.busy x6.case.data x6.case.did))).set s0_1.toNat (GRun.mk x8.net (GCase.mk x8.case.state x8.case.marks x9.2 x8.case.data x8.case.did))) s0_1).bind fun x10 => ((z08z x10.case.data x9.1).bind fun x11 => ((getI (((((l0_2.set s0_1.toNat (GRun.mk s0_0 x2.case)).set s0_1.toNat (GRun.mk x4.net (GCase.mk (s0_0 + 1) x4.case.marks x4.case.busy x4.case.data x4.case.did))).set s0_1.toNat (GRun.mk x6.net (GCase.mk x6.case.state x7.2 x6.case.busy x6.case.data x6.case.did))).set s0_1.toNat (GRun.mk x8.net (GCase.mk x8.case.state x8.case.marks x9.2 x8.case.data x8.case.did))).set s0_1.toNat (GRun.mk x10.net (GCase.mk x10.case.state x10.case.marks x10.case.busy x11.2 x10.case.did))) s0_1).bind fun x12 => ((z0f7 x12.case.did x11.1).bind fun x13 => (gd (ok64 (s0_1 + 1)) ((z088 kx0_0 n0) x13.1 (s0_1 + 1) ((((((l0_2.set s0_1.toNat (GRun.mk s0_0 x2.case)).set s0_1.toNat (GRun.mk x4.net (GCase.mk (s0_0 + 1) x4.case.marks x4.case.busy x4.case.data x4.case.did))).set s0_1.toNat (GRun.mk x6.net (GCase.mk x6.case.state x7.2 x6.case.busy x6.case.data x6.case.did))).set s0_1.toNat (GRun.mk x8.net (GCase.mk x8.case.state x8.case.marks x9.2 x8.case.data x8.case.did))).set s0_1.toNat (GRun.mk x10.net (GCase.mk x10.case.state x10.case.marks x10.case.busy x11.2 x10.case.did))).set s0_1.toNat (GRun.mk x12.net (GCase.mk x12.case.state x12.case.marks x12.case.busy x12.case.data x13.2))))))))))))))))) else (kx0_0 s0_0 l0_2)
def z0g1 (a : List GRun) (k : Int) : Option (Int × (List GRun)) := z088 z17d FUEL k 0 a
def z04s : Con := ⟨73, [.v (.sl (.s .run)) true, .v .I false], [(.I, true)], [(0, .v (.sl (.s .run)) true)], fun x => z0g1 x.1 x.2.1⟩
def z1n3 : Fs := ⟨[z05q, z038, z04x], []⟩
theorem z11s : z1n3.Ok Tryz.prog := (fsK z0mb (fsK z1i6 (fsK z1l4 fs0)))
def z0se : Tmpl := ⟨[(0, .c (.ref 1000000)), (1, .c .i), (5, .c .i)], [(1000000, .arr (.s .run) true)]⟩
def z0n9 : Tmpl := ⟨[(1, .c .i)], [(1000000, .arr (.s .run) true)]⟩
def z1cl (av : AV) (x : HP z04s.ps) (n : Nat) (v : z0se.den) (K : Ks (CR z04s)) : Option (CR z04s) := z088 (fun s0_0 l0_2 => z0n9.at none ((s0_0, ()), (l0_2, ())) (K (.exit 0))) n v.1.2.1 v.1.2.2.1 v.2.1
def z0s1 (av : AV) (x : HP z04s.ps) : Hdl (CR z04s) := hnd [] z0se (z1cl av x)
theorem z1bx : LP z04s Tryz.f73 [0] z0s1 := lp_ok (W := []) (H := []) (xs := [z0n9]) z11s trivial rfl (fun av x v K => by kernel_rfl) (fun av x n v K => by kernel_rfl)
theorem z1ob : z04s.Ok Tryz.prog := fn_ok (k := z04s) (fn := Tryz.f73) (W := []) (H := [z0s1]) Tryz.func73 z11s ⟨z1bx, trivial⟩ rfl rfl (fun av x => by kernel_rfl)
def z14m (s0_0 : Int) : Option Int := some s0_0
def z089 (a : List GRun) (kx0_0 : Int → Option Int) : Nat → Int → Int → Option Int
  | 0, _, _ => none
  | n0 + 1, s0_0, s0_1 => if decide (s0_1 < (a.length : Int)) = true then ((getI a s0_1).bind fun x2 => (if decide (x2.net = s0_0) = true then (gd (ok64 (s0_0 + 1)) ((getI a s0_1).bind fun x5 => (if decide (x5.case.state = (s0_0 + 1)) = true then (gd (ok64 ((s0_0 + 1) + 1)) ((getI a s0_1).bind fun x8 => ((z08r x8.case.marks ((s0_0 + 1) + 1)).bind fun x9 => (if decide (x9 < 0) = true then (some (-1)) else ((getI a s0_1).bind fun x11 => ((z0e0 x11.case.busy x9).bind fun x12 => (if decide (x12 < 0) = true then (some (-1)) else ((getI a s0_1).bind fun x14 => ((z08r x14.case.data x12).bind fun x15 => (if decide (x15 < 0) = true then (some (-1)) else ((getI a s0_1).bind fun x17 => ((z0fc x17.case.did x15).bind fun x18 => (if decide (x18 < 0) = true then (some (-1)) else (gd (ok64 (s0_1 + 1)) ((z089 a kx0_0 n0) x18 (s0_1 + 1)))))))))))))))) else (some (-1))))) else (some (-1)))) else (kx0_0 s0_0)
def z0fy (a : List GRun) (k : Int) : Option Int := z089 a z14m FUEL k 0
def z059 : Con := ⟨77, [.v (.sl (.s .run)) false, .v .I false], [(.I, true)], [], fun x => z0fy x.1 x.2.1⟩
def z1m6 : Fs := ⟨[z05o, z03d, z050], []⟩
theorem z11n : z1m6.Ok Tryz.prog := (fsK z0nu (fsK z1h7 (fsK z1k2 fs0)))
def z0td : Tmpl := ⟨[(0, .c (.s (.s .run))), (1, .c .i), (5, .c .i)], []⟩
def z0pq : Tmpl := ⟨[(1, .c .i)], []⟩
def z19r (av : AV) (x : HP z059.ps) (n : Nat) (v : z0td.den) (K : Ks (CR z059)) : Option (CR z059) := z089 v.1.1 (fun s0_0 => z0pq.at none ((s0_0, ()), ()) (K (.exit 0))) n v.1.2.1 v.1.2.2.1
def z0qu (av : AV) (x : HP z059.ps) : Hdl (CR z059) := hnd [] z0td (z19r av x)
theorem z1c0 : LP z059 Tryz.f77 [0] z0qu := lp_ok (W := []) (H := []) (xs := [z0pq]) z11n trivial rfl (fun av x v K => by kernel_rfl) (fun av x n v K => by kernel_rfl)
theorem z1mt : z059.Ok Tryz.prog := fn_ok (k := z059) (fn := Tryz.f77) (W := []) (H := [z0qu]) Tryz.func77 z11n ⟨z1c0, trivial⟩ rfl rfl (fun av x => by kernel_rfl)
end
end Go.Am
