/- Mirrors and contracts, printed. Own work. -/
import Derived.Test.YtgolgnbgomhknaaCtD1
set_option maxRecDepth 100000
set_option maxHeartbeats 4000000
set_option linter.unusedVariables false
set_option linter.unusedSimpArgs false
namespace Go.Am
noncomputable section
open Go Go.Proofs
def z05 (n : Int) (low : Int) (high : Int) : Option Bool := if decide (low ≤ n) = true then (some (decide (n ≤ high))) else (some false)
def z0m : Con := ⟨56, [.v .I false, .v .I false, .v .I false], [(.B, true)], [], fun x => z05 x.1 x.2.1 x.2.2.1⟩
def yo9 : Fs := ⟨[], [], []⟩
theorem yp0 : yo9.Ok Try.prog := fs0
theorem z0x : z0m.Ok Try.prog := fn_ok (k := z0m) (fn := Try.f56) (W := []) (H := []) Try.func56 yp0 trivial rfl rfl (fun av x => by kernel_rfl)
def zo8  : Option Bool := some true
def z3m (data : List Int) (kx0_0 : Option Bool) : Nat → Int → Option Bool
  | 0, _ => none
  | n0 + 1, s0_0 => if decide (s0_0 < (data.length : Int)) = true then ((getI data s0_0).bind fun x3 => ((z05 x3 (-99) 99).bind fun x4 => (if x4 = true then (gd (ok64 (s0_0 + 1)) ((z3m data kx0_0 n0) (s0_0 + 1))) else (some false)))) else (kx0_0)
def z3t (data : List Int) : Option Bool := if decide ((data.length : Int) = 3) = true then (z3m data zo8 FUEL 0) else (some false)
def z1b : Con := ⟨55, [.v (.sl .I) false], [(.B, true)], [], fun x => z3t x.1⟩
def yg3 : Fs := ⟨[z0m], [], []⟩
theorem y28 : yg3.Ok Try.prog := (fsK z0x fs0)
def zw6 : Tmpl := ⟨[(0, .c (.s .I)), (3, .c .i)], []⟩
def zr3 : Tmpl := ⟨[], []⟩
def y6j (av : AV) (x : HP z1b.ps) (n : Nat) (v : zw6.den) (K : Ks (CR z1b)) : Option (CR z1b) := z3m v.1.1 (zr3.at none ((), ()) (K (.exit 0))) n v.1.2.1
def zv0 (av : AV) (x : HP z1b.ps) : Hdl (CR z1b) := hnd [] zw6 (y6j av x)
theorem y7l : LP z1b Try.f55 [0] zv0 := lp_ok (W := []) (H := []) (xs := [zr3]) y28 trivial rfl (fun av x v K => by kernel_rfl) (fun av x n v K => by kernel_rfl)
theorem z7c : z1b.Ok Try.prog := fn_ok (k := z1b) (fn := Try.f55) (W := []) (H := [zv0]) Try.func55 y28 ⟨y7l, trivial⟩ rfl rfl (fun av x => by kernel_rfl)
def z86 (data : List Int) (k : Int) (n : Int) : Option (List Int) := (z3t data).bind fun x1 => (if x1 = true then ((z05 k 0 2).bind fun x3 => (if x3 = true then ((z05 n (-99) 99).bind fun x5 => (if x5 = true then (gd (([] : List Int).length + data.length ≤ SMALL) ((getI (([] : List Int) ++ data) k).bind fun x8 => (some ((([] : List Int) ++ data).set k.toNat n)))) else (gd (([] : List Int).length + data.length ≤ SMALL) (some (([] : List Int) ++ data))))) else (gd (([] : List Int).length + data.length ≤ SMALL) (some (([] : List Int) ++ data))))) else (gd (([] : List Int).length + data.length ≤ SMALL) (some (([] : List Int) ++ data))))
def zg8 : Con := ⟨70, [.v (.sl .I) false, .v .I false, .v .I false], [((.sl .I), true)], [], fun x => z86 x.1 x.2.1 x.2.2.1⟩
def y98 : Fs := ⟨[z1b, z0m], [], []⟩
theorem y9o : y98.Ok Try.prog := (fsK z7c (fsK z0x fs0))
theorem ya9 : zg8.Ok Try.prog := fn_ok (k := zg8) (fn := Try.f70) (W := []) (H := []) Try.func70 y9o trivial rfl rfl (fun av x => by kernel_rfl)
def z5j (e : GAsk) : Option Bool := if decide (e.op = 0) = true then (some (decide ([e.op, e.var, e.k] = [0, 0, 0]))) else ((z05 e.op 1 3).bind fun x2 => (if x2 = true then ((z05 e.var 0 2).bind fun x4 => (if x4 = true then ((z05 e.k (-99) 99).bind fun x6 => (some x6)) else (some false))) else (some false)))
def z92 : Con := ⟨133, [.v (.s .ask) false], [(.B, true)], [], fun x => z5j x.1⟩
def yg4 : Fs := ⟨[z0m], [], []⟩
theorem yh9 : yg4.Ok Try.prog := (fsK z0x fs0)
theorem y2l : z92.Ok Try.prog := fn_ok (k := z92) (fn := Try.f133) (W := []) (H := []) Try.func133 yh9 trivial rfl rfl (fun av x => by kernel_rfl)
def z61 (e : GAsk) (data : List Int) : Option Bool := (z5j e).bind fun x1 => (if x1 = true then ((z3t data).bind fun x3 => (if x3 = true then (if decide (e.op = 1) = true then ((getI data e.var).bind fun x6 => (some (decide (x6 < e.k)))) else (if decide (e.op = 2) = true then ((getI data e.var).bind fun x8 => (some (decide (x8 = e.k)))) else (if decide (e.op = 3) = true then ((getI data e.var).bind fun x10 => (some (decide (e.k < x10)))) else (some true)))) else (some false))) else (some false))
def z8k : Con := ⟨136, [.v (.s .ask) false, .v (.sl .I) false], [(.B, true)], [], fun x => z61 x.1 x.2.1⟩
def y4q : Fs := ⟨[z92, z1b], [], []⟩
theorem y53 : y4q.Ok Try.prog := (fsK y2l (fsK z7c fs0))
theorem y5j : z8k.Ok Try.prog := fn_ok (k := z8k) (fn := Try.f136) (W := []) (H := []) Try.func136 y53 trivial rfl rfl (fun av x => by kernel_rfl)
def z0s (n : Int) (low : Int) (high : Int) : Option Bool := if decide (low ≤ n) = true then (some (decide (n ≤ high))) else (some false)
def z2w : Con := ⟨67, [.v .I false, .v .I false, .v .I false], [(.B, true)], [], fun x => z0s x.1 x.2.1 x.2.2.1⟩
def w0p : Fs := ⟨[], [], []⟩
theorem w10 : w0p.Ok Try.prog := fs0
theorem z3s : z2w.Ok Try.prog := fn_ok (k := z2w) (fn := Try.f67) (W := []) (H := []) Try.func67 w10 trivial rfl rfl (fun av x => by kernel_rfl)
def z44 (n : Int) : Option Bool := (z0s n (-99) 99).bind fun x1 => (some x1)
def z4x : Con := ⟨64, [.v .I false], [(.B, true)], [], fun x => z44 x.1⟩
def y6v : Fs := ⟨[z2w], [], []⟩
theorem y7c : y6v.Ok Try.prog := (fsK z3s fs0)
theorem za3 : z4x.Ok Try.prog := fn_ok (k := z4x) (fn := Try.f64) (W := []) (H := []) Try.func64 y7c trivial rfl rfl (fun av x => by kernel_rfl)
def z33 (list : List Int) : Option (List Int) := gd (([] : List Int).length + list.length ≤ SMALL) (some (([] : List Int) ++ list))
def z58 : Con := ⟨72, [.v (.sl .I) false], [((.sl .I), true)], [], fun x => z33 x.1⟩
def y38 : Fs := ⟨[], [], []⟩
theorem y3c : y38.Ok Try.prog := fs0
theorem zj7 : z58.Ok Try.prog := fn_ok (k := z58) (fn := Try.f72) (W := []) (H := []) Try.func72 y3c trivial rfl rfl (fun av x => by kernel_rfl)
def z5h (e : GAsk) : Option Bool := if decide (e.op = 0) = true then (if decide (e.var = 0) = true then (some (decide (e.k = 0))) else (some false)) else ((z0s e.op 1 3).bind fun x3 => (if x3 = true then ((z0s e.var 0 2).bind fun x5 => (if x5 = true then ((z44 e.k).bind fun x7 => (some x7)) else (some false))) else (some false)))
def z90 : Con := ⟨83, [.v (.s .ask) false], [(.B, true)], [], fun x => z5h x.1⟩
def yf8 : Fs := ⟨[z2w, z4x], [], []⟩
theorem yh6 : yf8.Ok Try.prog := (fsK z3s (fsK za3 fs0))
theorem y2j : z90.Ok Try.prog := fn_ok (k := z90) (fn := Try.f83) (W := []) (H := []) Try.func83 yh6 trivial rfl rfl (fun av x => by kernel_rfl)
def zd5  : Option Bool := some true
def z1y (list : List Int) (low : Int) (high : Int) (kx0_0 : Option Bool) : Nat → Int → Option Bool
  | 0, _ => none
  | n0 + 1, s0_0 => if decide (s0_0 < (list.length : Int)) = true then ((getI list s0_0).bind fun x4 => ((z05 x4 low high).bind fun x5 => (if x5 = true then (if decide (0 < s0_0) = true then (gd (ok64 (s0_0 - 1)) ((getI list (s0_0 - 1)).bind fun x9 => ((getI list s0_0).bind fun x10 => (if decide (x10 ≤ x9) = true then (some false) else (gd (ok64 (s0_0 + 1)) ((z1y list low high kx0_0 n0) (s0_0 + 1))))))) else (gd (ok64 (s0_0 + 1)) ((z1y list low high kx0_0 n0) (s0_0 + 1)))) else (some false)))) else (kx0_0)
def z53 (list : List Int) (least : Int) (most : Int) (low : Int) (high : Int) : Option Bool := (z05 (list.length : Int) least most).bind fun x1 => (if x1 = true then (z1y list low high zd5 FUEL 0) else (some false))
def z26 : Con := ⟨161, [.v (.sl .I) false, .v .I false, .v .I false, .v .I false, .v .I false], [(.B, true)], [], fun x => z53 x.1 x.2.1 x.2.2.1 x.2.2.2.1 x.2.2.2.2.1⟩
def y78 : Fs := ⟨[z0m], [], []⟩
theorem zu6 : y78.Ok Try.prog := (fsK z0x fs0)
def zk9 : Tmpl := ⟨[(0, .c (.s .I)), (3, .c .i), (4, .c .i), (11, .c .i)], []⟩
def zg1 : Tmpl := ⟨[], []⟩
def y35 (av : AV) (x : HP z26.ps) (n : Nat) (v : zk9.den) (K : Ks (CR z26)) : Option (CR z26) := z1y v.1.1 v.1.2.1 v.1.2.2.1 (zg1.at none ((), ()) (K (.exit 0))) n v.1.2.2.2.1
def zj1 (av : AV) (x : HP z26.ps) : Hdl (CR z26) := hnd [] zk9 (y35 av x)
theorem y3q : LP z26 Try.f161 [0] zj1 := lp_ok (W := []) (H := []) (xs := [zg1]) zu6 trivial rfl (fun av x v K => by kernel_rfl) (fun av x n v K => by kernel_rfl)
theorem y86 : z26.Ok Try.prog := fn_ok (k := z26) (fn := Try.f161) (W := []) (H := [zj1]) Try.func161 zu6 ⟨y3q, trivial⟩ rfl rfl (fun av x => by kernel_rfl)
def zp2  : Option Bool := some false
def z3r (list : List Int) (n : Int) (kx0_0 : Option Bool) : Nat → Int → Option Bool
  | 0, _ => none
  | n0 + 1, s0_0 => if decide (s0_0 < (list.length : Int)) = true then ((getI list s0_0).bind fun x2 => (if decide (x2 = n) = true then (some true) else (gd (ok64 (s0_0 + 1)) ((z3r list n kx0_0 n0) (s0_0 + 1))))) else (kx0_0)
def z5k (list : List Int) (n : Int) : Option Bool := z3r list n zp2 FUEL 0
def z2a : Con := ⟨146, [.v (.sl .I) false, .v .I false], [(.B, true)], [], fun x => z5k x.1 x.2.1⟩
def yg9 : Fs := ⟨[], [], []⟩
theorem y2d : yg9.Ok Try.prog := fs0
def zx1 : Tmpl := ⟨[(0, .c (.s .I)), (1, .c .i), (5, .c .i)], []⟩
def zr7 : Tmpl := ⟨[], []⟩
def y6o (av : AV) (x : HP z2a.ps) (n : Nat) (v : zx1.den) (K : Ks (CR z2a)) : Option (CR z2a) := z3r v.1.1 v.1.2.1 (zr7.at none ((), ()) (K (.exit 0))) n v.1.2.2.1
def zv5 (av : AV) (x : HP z2a.ps) : Hdl (CR z2a) := hnd [] zx1 (y6o av x)
theorem y7q : LP z2a Try.f146 [0] zv5 := lp_ok (W := []) (H := []) (xs := [zr7]) y2d trivial rfl (fun av x v K => by kernel_rfl) (fun av x n v K => by kernel_rfl)
theorem zp8 : z2a.Ok Try.prog := fn_ok (k := z2a) (fn := Try.f146) (W := []) (H := [zv5]) Try.func146 y2d ⟨y7q, trivial⟩ rfl rfl (fun av x => by kernel_rfl)
def zd2 (s0_0 : Int) (bk0 : Int → Option Bool) : Option Bool := gd (ok64 (s0_0 + 1)) (bk0 (s0_0 + 1))
def z1d (t : GTask) (s0_0 : Int) (x4 : GFlow) (kx1_0 : Option Bool) : Nat → Int → Option Bool
  | 0, _ => none
  | n1 + 1, s1_0 => if decide (s1_0 < s0_0) = true then ((getI t.out s1_0).bind fun x14 => (if decide (x14.to = x4.to) = true then (some false) else (gd (ok64 (s1_0 + 1)) ((z1d t s0_0 x4 kx1_0 n1) (s1_0 + 1))))) else (kx1_0)
def zd3 (s0_0 : Int) (bk0 : Int → Option Bool) : Option Bool := gd (ok64 (s0_0 + 1)) (bk0 (s0_0 + 1))
def zd4  : Option Bool := some true
def z1x (t : GTask) (places : Int) (kx0_0 : Option Bool) : Nat → Int → Option Bool
  | 0, _ => none
  | n0 + 1, s0_0 => if decide (s0_0 < (t.out.length : Int)) = true then ((getI t.out s0_0).bind fun x4 => (gd (ok64 ((t.out.length : Int) - 1)) (if decide (s0_0 = ((t.out.length : Int) - 1)) = true then (gd (ok64 (places - 1)) ((z05 x4.to 1 (places - 1)).bind fun x8 => (if x8 = true then ((z5j x4.if_).bind fun x10 => (if x10 = true then (if (true == (decide (x4.if_.op = 0))) = true then (z1d t s0_0 x4 (zd2 s0_0 (z1x t places kx0_0 n0)) FUEL 0) else (some false)) else (some false))) else (some false)))) else (gd (ok64 (places - 1)) ((z05 x4.to 1 (places - 1)).bind fun x19 => (if x19 = true then ((z5j x4.if_).bind fun x21 => (if x21 = true then (if ((decide (t.split = 1)) == (decide (x4.if_.op = 0))) = true then (z1d t s0_0 x4 (zd3 s0_0 (z1x t places kx0_0 n0)) FUEL 0) else (some false)) else (some false))) else (some false))))))) else (kx0_0)
def z74 (t : GTask) (places : Int) : Option Bool := (z05 (t.out.length : Int) 1 3).bind fun x1 => (if x1 = true then (z1x t places zd4 FUEL 0) else (some false))
def z0g : Con := ⟨162, [.v (.s .task) false, .v .I false], [(.B, true)], [], fun x => z74 x.1 x.2.1⟩
def y77 : Fs := ⟨[z0m, z92], [], []⟩
theorem z9u : y77.Ok Try.prog := (fsK z0x (fsK y2l fs0))
def z9h : Tmpl := ⟨[(1, .c .i), (2, .c (.bx 2 0)), (5, .c .i), (6, .c (.bx 6 0)), (8, .c .i)], [(2, .boxT (.s .task)), (6, .boxT (.s .flow))]⟩
def z8t : Tmpl := ⟨[(1, .c .i), (2, .c (.bx 2 0)), (5, .c .i)], [(2, .boxT (.s .task))]⟩
def zz3 (av : AV) (x : HP z0g.ps) (n : Nat) (v : z9h.den) (K : Ks (CR z0g)) : Option (CR z0g) := z1d v.2.1 v.1.2.2.1 v.2.2.1 (z8t.at none ((v.1.1, (), v.1.2.2.1, ()), (v.2.1, ())) (K (.exit 2))) n v.1.2.2.2.2.1
def z8y (av : AV) (x : HP z0g.ps) : Hdl (CR z0g) := hnd [] z9h (zz3 av x)
theorem y09 : LP z0g Try.f162 [0, 0] z8y := lp_ok (W := []) (H := []) (xs := [z8t]) z9u trivial rfl (fun av x v K => by kernel_rfl) (fun av x n v K => by kernel_rfl)
def zk8 : Tmpl := ⟨[(1, .c .i), (2, .c (.bx 2 0)), (5, .c .i)], [(2, .boxT (.s .task))]⟩
def zg0 : Tmpl := ⟨[], []⟩
def y34 (av : AV) (x : HP z0g.ps) (n : Nat) (v : zk8.den) (K : Ks (CR z0g)) : Option (CR z0g) := z1x v.2.1 v.1.1 (zg0.at none ((), ()) (K (.exit 0))) n v.1.2.2.1
def zj0 (av : AV) (x : HP z0g.ps) : Hdl (CR z0g) := hnd [] zk8 (y34 av x)
theorem y3p : LP z0g Try.f162 [0] zj0 := lp_ok (W := []) (H := [z8y]) (xs := [zg0]) z9u ⟨y09, trivial⟩ rfl (fun av x v K => by kernel_rfl) (fun av x n v K => by kernel_rfl)
theorem y85 : z0g.Ok Try.prog := fn_ok (k := z0g) (fn := Try.f162) (W := []) (H := [zj0]) Try.func162 z9u ⟨y3p, trivial⟩ rfl rfl (fun av x => by kernel_rfl)
def z8a (t : GTask) (places : Int) (tasks : Int) : Option Bool := (z05 t.join 1 3).bind fun x1 => (if x1 = true then ((z05 t.split 1 3).bind fun x3 => (if x3 = true then (gd (ok64 (places - 1)) ((z53 t.in_ 1 3 0 (places - 1)).bind fun x6 => (if x6 = true then ((z5k t.in_ 1).bind fun x8 => (if x8 = true then (some false) else ((z74 t places).bind fun x10 => (if x10 = true then (gd (ok64 (places - 1)) ((z53 t.clear 0 places 2 (places - 1)).bind fun x13 => (if x13 = true then ((z05 t.role 1 3).bind fun x15 => (if x15 = true then (gd (ok64 (tasks - 1)) ((z05 t.apart (-1) (tasks - 1)).bind fun x18 => (if x18 = true then ((z05 t.all 1 3).bind fun x20 => (if x20 = true then ((z05 t.need 1 t.all).bind fun x22 => (some x22)) else (some false))) else (some false)))) else (some false))) else (some false)))) else (some false))))) else (some false)))) else (some false))) else (some false))
def zh0 : Con := ⟨140, [.v (.s .task) false, .v .I false, .v .I false], [(.B, true)], [], fun x => z8a x.1 x.2.1 x.2.2.1⟩
def y9f : Fs := ⟨[z0m, z26, z2a, z0g], [], []⟩
theorem y9s : y9f.Ok Try.prog := (fsK z0x (fsK y86 (fsK zp8 (fsK y85 fs0))))
theorem yb3 : zh0.Ok Try.prog := fn_ok (k := zh0) (fn := Try.f140) (W := []) (H := []) Try.func140 y9s trivial rfl rfl (fun av x => by kernel_rfl)
def zp0  : Option Bool := some true
def z3o (n : GNet) (kx0_0 : Option Bool) : Nat → Int → Option Bool
  | 0, _ => none
  | n0 + 1, s0_0 => if decide (s0_0 < (n.tasks.length : Int)) = true then ((getI n.tasks s0_0).bind fun x6 => ((z8a x6 n.places (n.tasks.length : Int)).bind fun x7 => (if x7 = true then (gd (ok64 (s0_0 + 1)) ((z3o n kx0_0 n0) (s0_0 + 1))) else (some false)))) else (kx0_0)
def z2d (n : GNet) : Option Bool := (z05 n.places 2 8).bind fun x1 => (if x1 = true then ((z05 (n.tasks.length : Int) 1 6).bind fun x3 => (if x3 = true then (z3o n zp0 FUEL 0) else (some false))) else (some false))
def z1r : Con := ⟨105, [.v (.s .net) false], [(.B, true)], [], fun x => z2d x.1⟩
def yg6 : Fs := ⟨[z0m, zh0], [], []⟩
theorem y2a : yg6.Ok Try.prog := (fsK z0x (fsK yb3 fs0))
def zw8 : Tmpl := ⟨[(1, .c (.bx 1 0)), (3, .c .i)], [(1, .boxT (.s .net))]⟩
def zr5 : Tmpl := ⟨[], []⟩
def y6l (av : AV) (x : HP z1r.ps) (n : Nat) (v : zw8.den) (K : Ks (CR z1r)) : Option (CR z1r) := z3o v.2.1 (zr5.at none ((), ()) (K (.exit 0))) n v.1.2.1
def zv2 (av : AV) (x : HP z1r.ps) : Hdl (CR z1r) := hnd [] zw8 (y6l av x)
theorem y7n : LP z1r Try.f105 [0] zv2 := lp_ok (W := []) (H := []) (xs := [zr5]) y2a trivial rfl (fun av x v K => by kernel_rfl) (fun av x n v K => by kernel_rfl)
theorem z9e : z1r.Ok Try.prog := fn_ok (k := z1r) (fn := Try.f105) (W := []) (H := [zv2]) Try.func105 y2a ⟨y7n, trivial⟩ rfl rfl (fun av x => by kernel_rfl)
def z6a (s1_0 : Int) (bk1 : Int → List Bool → Option (List Bool)) (l3_1 : List Bool) : Option (List Bool) := gd (ok64 (s1_0 + 1)) (bk1 (s1_0 + 1) l3_1)
def z6b (s1_0 : Int) (bk1 : Int → List Bool → Option (List Bool)) (l3_1 : List Bool) : Option (List Bool) := gd (ok64 (s1_0 + 1)) (bk1 (s1_0 + 1) l3_1)
def z6c (s1_0 : Int) (bk1 : Int → List Bool → Option (List Bool)) (l3_1 : List Bool) : Option (List Bool) := gd (ok64 (s1_0 + 1)) (bk1 (s1_0 + 1) l3_1)
def z0u (n : GNet) (but : Int) (s1_0 : Int) (s2_0 : Bool) (kx3_0 : List Bool → Option (List Bool)) (kx3_1 : List Bool → Option (List Bool)) (kx3_2 : List Bool → Option (List Bool)) : Nat → Int → List Bool → Option (List Bool)
  | 0, _, _ => none
  | n3 + 1, s3_0, l3_1 => (getI n.tasks s1_0).bind fun x12 => (if decide (s3_0 < (x12.out.length : Int)) = true then (if s2_0 = true then (if decide (s1_0 = but) = true then (kx3_0 l3_1) else ((getI n.tasks s1_0).bind fun x17 => ((getI x17.out s3_0).bind fun x18 => ((getI l3_1 x18.to).bind fun x19 => (gd (ok64 (s3_0 + 1)) ((z0u n but s1_0 s2_0 kx3_0 kx3_1 kx3_2 n3) (s3_0 + 1) (l3_1.set x18.to.toNat true))))))) else (kx3_1 l3_1)) else (kx3_2 l3_1))
def z98 (n : GNet) (but : Int) (s1_0 : Int) (l1_1 : List Bool) (bk1 : Int → List Bool → Option (List Bool)) (s2_0 : Bool) : Option (List Bool) := z0u n but s1_0 s2_0 (z6a s1_0 bk1) (z6b s1_0 bk1) (z6c s1_0 bk1) FUEL 0 l1_1
def z11 (n : GNet) (s1_0 : Int) (l1_1 : List Bool) (kx2_0 : Bool → Option (List Bool)) : Nat → Bool → Int → Option (List Bool)
  | 0, _, _ => none
  | n2 + 1, s2_0, s2_1 => (getI n.tasks s1_0).bind fun x4 => (if decide (s2_1 < (x4.in_.length : Int)) = true then (if s2_0 = true then (gd (ok64 (s2_1 + 1)) ((z11 n s1_0 l1_1 kx2_0 n2) true (s2_1 + 1))) else ((getI n.tasks s1_0).bind fun x8 => ((getI x8.in_ s2_1).bind fun x9 => ((getI l1_1 x9).bind fun x10 => (gd (ok64 (s2_1 + 1)) ((z11 n s1_0 l1_1 kx2_0 n2) x10 (s2_1 + 1))))))) else (kx2_0 s2_0))
def z99 (s0_0 : Int) (bk0 : Int → List Bool → Option (List Bool)) (l1_1 : List Bool) : Option (List Bool) := gd (ok64 (s0_0 + 1)) (bk0 (s0_0 + 1) l1_1)
def z0a (n : GNet) (but : Int) (kx1_0 : List Bool → Option (List Bool)) : Nat → Int → List Bool → Option (List Bool)
  | 0, _, _ => none
  | n1 + 1, s1_0, l1_1 => if decide (s1_0 < (n.tasks.length : Int)) = true then (z11 n s1_0 l1_1 (z98 n but s1_0 l1_1 (z0a n but kx1_0 n1)) FUEL false 0) else (kx1_0 l1_1)
def z9a (l0_1 : List Bool) : Option (List Bool) := some l0_1
def z2h (n : GNet) (but : Int) (kx0_0 : List Bool → Option (List Bool)) : Nat → Int → List Bool → Option (List Bool)
  | 0, _, _ => none
  | n0 + 1, s0_0, l0_1 => if decide (s0_0 < n.places) = true then (z0a n but (z99 s0_0 (z2h n but kx0_0 n0)) FUEL 0 l0_1) else (kx0_0 l0_1)
def z69 (n : GNet) (marked : List Bool) (but : Int) : Option (List Bool) := gd (([] : List Bool).length + marked.length ≤ SMALL) (z2h n but z9a FUEL 0 (([] : List Bool) ++ marked))
def z03 : Con := ⟨173, [.v (.s .net) false, .v (.sl .B) false, .v .I false], [((.sl .B), true)], [], fun x => z69 x.1 x.2.1 x.2.2.1⟩
def y4u : Fs := ⟨[], [], []⟩
theorem z49 : y4u.Ok Try.prog := fs0
def z7e : Tmpl := ⟨[(2, .c .i), (3, .c (.bx 3 0)), (7, .c (.ref 15)), (8, .c .i), (9, .c .i), (10, .c .b), (11, .c .i)], [(3, .boxT (.s .net)), (15, .arr .B true)]⟩
def z6q : Tmpl := ⟨[(2, .c .i), (3, .c (.bx 3 0)), (7, .c (.ref 15)), (8, .c .i), (9, .c .i), (10, .c .b)], [(3, .boxT (.s .net)), (15, .arr .B true)]⟩
def zm0 (av : AV) (x : HP z03.ps) (n : Nat) (v : z7e.den) (K : Ks (CR z03)) : Option (CR z03) := z11 v.2.1 v.1.2.2.2.2.1 v.2.2.1 (fun s2_0 => z6q.at none ((v.1.1, (), (), v.1.2.2.2.1, v.1.2.2.2.2.1, s2_0, ()), (v.2.1, v.2.2.1, ())) (K (.exit 4))) n v.1.2.2.2.2.2.1 v.1.2.2.2.2.2.2.1
def z75 (av : AV) (x : HP z03.ps) : Hdl (CR z03) := hnd [] z7e (zm0 av x)
theorem zo4 : LP z03 Try.f173 [0, 0, 0] z75 := lp_ok (W := []) (H := []) (xs := [z6q]) z49 trivial rfl (fun av x v K => by kernel_rfl) (fun av x n v K => by kernel_rfl)
def z7f : Tmpl := ⟨[(2, .c .i), (3, .c (.bx 3 0)), (7, .c (.ref 15)), (8, .c .i), (9, .c .i), (10, .c .b), (12, .c .i)], [(3, .boxT (.s .net)), (15, .arr .B true)]⟩
def z31 : Tmpl := ⟨[(2, .c .i), (3, .c (.bx 3 0)), (7, .c (.ref 15)), (8, .c .i), (9, .c .i)], [(3, .boxT (.s .net)), (15, .arr .B true)]⟩
def zm1 (av : AV) (x : HP z03.ps) (n : Nat) (v : z7f.den) (K : Ks (CR z03)) : Option (CR z03) := z0u v.2.1 v.1.1 v.1.2.2.2.2.1 v.1.2.2.2.2.2.1 (fun l3_1 => z31.at none ((v.1.1, (), (), v.1.2.2.2.1, v.1.2.2.2.2.1, ()), (v.2.1, l3_1, ())) (K (.exit 6))) (fun l3_1 => z31.at none ((v.1.1, (), (), v.1.2.2.2.1, v.1.2.2.2.2.1, ()), (v.2.1, l3_1, ())) (K (.exit 6))) (fun l3_1 => z31.at none ((v.1.1, (), (), v.1.2.2.2.1, v.1.2.2.2.2.1, ()), (v.2.1, l3_1, ())) (K (.exit 6))) n v.1.2.2.2.2.2.2.1 v.2.2.1
def z76 (av : AV) (x : HP z03.ps) : Hdl (CR z03) := hnd [] z7f (zm1 av x)
theorem zo5 : LP z03 Try.f173 [0, 0, 1] z76 := lp_ok (W := []) (H := []) (xs := [z31]) z49 trivial rfl (fun av x v K => by kernel_rfl) (fun av x n v K => by kernel_rfl)
def z8r : Tmpl := ⟨[(2, .c .i), (3, .c (.bx 3 0)), (7, .c (.ref 15)), (8, .c .i), (9, .c .i)], [(3, .boxT (.s .net)), (15, .arr .B true)]⟩
def z7u : Tmpl := ⟨[(2, .c .i), (3, .c (.bx 3 0)), (7, .c (.ref 15)), (8, .c .i)], [(3, .boxT (.s .net)), (15, .arr .B true)]⟩
def zx4 (av : AV) (x : HP z03.ps) (n : Nat) (v : z8r.den) (K : Ks (CR z03)) : Option (CR z03) := z0a v.2.1 v.1.1 (fun l1_1 => z7u.at none ((v.1.1, (), (), v.1.2.2.2.1, ()), (v.2.1, l1_1, ())) (K (.exit 2))) n v.1.2.2.2.2.1 v.2.2.1
def z8h (av : AV) (x : HP z03.ps) : Hdl (CR z03) := hnd [] z8r (zx4 av x)
theorem zy4 : LP z03 Try.f173 [0, 0] z8h := lp_ok (W := []) (H := [z75, z76]) (xs := [z7u]) z49 ⟨zo4, zo5, trivial⟩ rfl (fun av x v K => by kernel_rfl) (fun av x n v K => by kernel_rfl)
def ze7 : Tmpl := ⟨[(2, .c .i), (3, .c (.bx 3 0)), (7, .c (.ref 15)), (8, .c .i)], [(3, .boxT (.s .net)), (15, .arr .B true)]⟩
def z9o : Tmpl := ⟨[(7, .c (.ref 15))], [(15, .arr .B true)]⟩
def y14 (av : AV) (x : HP z03.ps) (n : Nat) (v : ze7.den) (K : Ks (CR z03)) : Option (CR z03) := z2h v.2.1 v.1.1 (fun l0_1 => z9o.at none (((), ()), (l0_1, ())) (K (.exit 0))) n v.1.2.2.2.1 v.2.2.1
def zc2 (av : AV) (x : HP z03.ps) : Hdl (CR z03) := hnd [] ze7 (y14 av x)
theorem y1n : LP z03 Try.f173 [0] zc2 := lp_ok (W := []) (H := [z8h]) (xs := [z9o]) z49 ⟨zy4, trivial⟩ rfl (fun av x v K => by kernel_rfl) (fun av x n v K => by kernel_rfl)
theorem y5n : z03.Ok Try.prog := fn_ok (k := z03) (fn := Try.f173) (W := []) (H := [zc2]) Try.func173 z49 ⟨y1n, trivial⟩ rfl rfl (fun av x => by kernel_rfl)
def z84 (kind : Int) : Option Bool := (z0s kind 1 3).bind fun x1 => (some x1)
def zg5 : Con := ⟨142, [.v .I false], [(.B, true)], [], fun x => z84 x.1⟩
def y95 : Fs := ⟨[z2w], [], []⟩
theorem y9l : y95.Ok Try.prog := (fsK z3s fs0)
theorem ya6 : zg5.Ok Try.prog := fn_ok (k := zg5) (fn := Try.f142) (W := []) (H := []) Try.func142 y9l trivial rfl rfl (fun av x => by kernel_rfl)
def zh2 (role : Int) : Option Bool := (z0s role 1 3).bind fun x1 => (some x1)
def zg6 : Con := ⟨145, [.v .I false], [(.B, true)], [], fun x => zh2 x.1⟩
def y96 : Fs := ⟨[z2w], [], []⟩
theorem y9m : y96.Ok Try.prog := (fsK z3s fs0)
theorem ya7 : zg6.Ok Try.prog := fn_ok (k := zg6) (fn := Try.f145) (W := []) (H := []) Try.func145 y9m trivial rfl rfl (fun av x => by kernel_rfl)
def za2 (places : Int) (tasks : Int) : Option Bool := (z0s places 2 8).bind fun x1 => (if x1 = true then ((z0s tasks 1 6).bind fun x3 => (some x3)) else (some false))
def z9x : Con := ⟨106, [.v .I false, .v .I false], [(.B, true)], [], fun x => za2 x.1 x.2.1⟩
def y6x : Fs := ⟨[z2w], [], []⟩
theorem y7e : y6x.Ok Try.prog := (fsK z3s fs0)
theorem y7y : z9x.Ok Try.prog := fn_ok (k := z9x) (fn := Try.f106) (W := []) (H := []) Try.func106 y7e trivial rfl rfl (fun av x => by kernel_rfl)
def z0l (n : GNet) (t : Int) : Option Bool := gd (ok64 ((n.tasks.length : Int) - 1)) ((z0s t 0 ((n.tasks.length : Int) - 1)).bind fun x2 => (some x2))
def z28 : Con := ⟨51, [.v (.s .net) false, .v .I false], [(.B, true)], [], fun x => z0l x.1 x.2.1⟩
def zm3 : Fs := ⟨[z2w], [], []⟩
theorem zm6 : zm3.Ok Try.prog := (fsK z3s fs0)
theorem z4h : z28.Ok Try.prog := fn_ok (k := z28) (fn := Try.f51) (W := []) (H := []) Try.func51 zm6 trivial rfl rfl (fun av x => by kernel_rfl)
def zo9  : Option Bool := some true
def z3n (marks : List Int) (kx0_0 : Option Bool) : Nat → Int → Option Bool
  | 0, _ => none
  | n0 + 1, s0_0 => if decide (s0_0 < (marks.length : Int)) = true then ((getI marks s0_0).bind fun x5 => ((z05 x5 0 4).bind fun x6 => (if x6 = true then (gd (ok64 (s0_0 + 1)) ((z3n marks kx0_0 n0) (s0_0 + 1))) else (some false)))) else (kx0_0)
def z4g (n : GNet) (marks : List Int) : Option Bool := (z2d n).bind fun x1 => (if x1 = true then (if decide ((marks.length : Int) = n.places) = true then (z3n marks zo9 FUEL 0) else (some false)) else (some false))
def z1q : Con := ⟨53, [.v (.s .net) false, .v (.sl .I) false], [(.B, true)], [], fun x => z4g x.1 x.2.1⟩
def yg5 : Fs := ⟨[z1r, z0m], [], []⟩
theorem y29 : yg5.Ok Try.prog := (fsK z9e (fsK z0x fs0))
def zw7 : Tmpl := ⟨[(1, .c (.s .I)), (5, .c .i)], []⟩
def zr4 : Tmpl := ⟨[], []⟩
def y6k (av : AV) (x : HP z1q.ps) (n : Nat) (v : zw7.den) (K : Ks (CR z1q)) : Option (CR z1q) := z3n v.1.1 (zr4.at none ((), ()) (K (.exit 0))) n v.1.2.1
def zv1 (av : AV) (x : HP z1q.ps) : Hdl (CR z1q) := hnd [] zw7 (y6k av x)
theorem y7m : LP z1q Try.f53 [0] zv1 := lp_ok (W := []) (H := []) (xs := [zr4]) y29 trivial rfl (fun av x v K => by kernel_rfl) (fun av x n v K => by kernel_rfl)
theorem z9d : z1q.Ok Try.prog := fn_ok (k := z1q) (fn := Try.f53) (W := []) (H := [zv1]) Try.func53 y29 ⟨y7m, trivial⟩ rfl rfl (fun av x => by kernel_rfl)
def z5a (s0_0 : Bool) (s0_1 : Bool) : Option (Bool × Bool) := some (s0_0, s0_1)
def z0y (marks : List Int) (list : List Int) (kx0_0 : Bool → Bool → Option (Bool × Bool)) : Nat → Bool → Bool → Int → Option (Bool × Bool)
  | 0, _, _, _ => none
  | n0 + 1, s0_0, s0_1, s0_2 => if decide (s0_2 < (list.length : Int)) = true then (if s0_0 = true then (if s0_1 = true then ((getI list s0_2).bind fun x4 => ((getI marks x4).bind fun x5 => (gd (ok64 (s0_2 + 1)) ((z0y marks list kx0_0 n0) true (decide (0 < x5)) (s0_2 + 1))))) else (gd (ok64 (s0_2 + 1)) ((z0y marks list kx0_0 n0) true false (s0_2 + 1)))) else ((getI list s0_2).bind fun x8 => ((getI marks x8).bind fun x9 => (if s0_1 = true then ((getI list s0_2).bind fun x11 => ((getI marks x11).bind fun x12 => (gd (ok64 (s0_2 + 1)) ((z0y marks list kx0_0 n0) (decide (0 < x9)) (decide (0 < x12)) (s0_2 + 1))))) else (gd (ok64 (s0_2 + 1)) ((z0y marks list kx0_0 n0) (decide (0 < x9)) false (s0_2 + 1))))))) else (kx0_0 s0_0 s0_1)
def z8b (marks : List Int) (list : List Int) : Option (Bool × Bool) := z0y marks list z5a FUEL false true 0
def z2n : Con := ⟨167, [.v (.sl .I) false, .v (.sl .I) false], [(.B, true), (.B, true)], [], fun x => z8b x.1 x.2.1⟩
def y9h : Fs := ⟨[], [], []⟩
theorem y04 : y9h.Ok Try.prog := fs0
def zq9 : Tmpl := ⟨[(0, .c (.s .I)), (1, .c (.s .I)), (6, .c .b), (7, .c .b), (8, .c .i)], []⟩
def zl5 : Tmpl := ⟨[(6, .c .b), (7, .c .b)], []⟩
def y4d (av : AV) (x : HP z2n.ps) (n : Nat) (v : zq9.den) (K : Ks (CR z2n)) : Option (CR z2n) := z0y v.1.1 v.1.2.1 (fun s0_0 s0_1 => zl5.at none ((s0_0, s0_1, ()), ()) (K (.exit 0))) n v.1.2.2.1 v.1.2.2.2.1 v.1.2.2.2.2.1
def zn7 (av : AV) (x : HP z2n.ps) : Hdl (CR z2n) := hnd [] zq9 (y4d av x)
theorem y5d : LP z2n Try.f167 [0] zn7 := lp_ok (W := []) (H := []) (xs := [zl5]) y04 trivial rfl (fun av x v K => by kernel_rfl) (fun av x n v K => by kernel_rfl)
theorem yb4 : z2n.Ok Try.prog := fn_ok (k := z2n) (fn := Try.f167) (W := []) (H := [zn7]) Try.func167 y04 ⟨y5d, trivial⟩ rfl rfl (fun av x => by kernel_rfl)
def z2j (s1_0 : Int) (bk1 : Int → List Bool → Option Bool) (l2_1 : List Bool) : Option Bool := gd (ok64 (s1_0 + 1)) (bk1 (s1_0 + 1) l2_1)
def z1o (p2_0 : List GFlow) (kx2_0 : List Bool → Option Bool) : Nat → Int → List Bool → Option Bool
  | 0, _, _ => none
  | n2 + 1, s2_0, l2_1 => if decide (s2_0 < (p2_0.length : Int)) = true then ((getI p2_0 s2_0).bind fun x15 => ((getI l2_1 x15.to).bind fun x16 => (gd (ok64 (s2_0 + 1)) ((z1o p2_0 kx2_0 n2) (s2_0 + 1) (l2_1.set x15.to.toNat true))))) else (kx2_0 l2_1)
def z6f  : Option Bool := some false
def z14 (n : GNet) (marks : List Int) (t : Int) (x19 : (List Bool)) (kx3_0 : Option Bool) : Nat → Int → Option Bool
  | 0, _ => none
  | n3 + 1, s3_0 => (getI n.tasks t).bind fun x20 => (if decide (s3_0 < (x20.in_.length : Int)) = true then ((getI n.tasks t).bind fun x22 => ((getI x22.in_ s3_0).bind fun x23 => ((getI marks x23).bind fun x24 => (if decide (x24 = 0) = true then ((getI n.tasks t).bind fun x26 => ((getI x26.in_ s3_0).bind fun x27 => ((getI x19 x27).bind fun x28 => (if x28 = true then (some true) else (gd (ok64 (s3_0 + 1)) ((z14 n marks t x19 kx3_0 n3) (s3_0 + 1))))))) else (gd (ok64 (s3_0 + 1)) ((z14 n marks t x19 kx3_0 n3) (s3_0 + 1))))))) else (kx3_0))
def z12 (n : GNet) (marks : List Int) (t : Int) (l1_1 : List Bool) : Option Bool := (z69 n l1_1 t).bind fun x19 => (z14 n marks t x19 z6f FUEL 0)
def z0k (n : GNet) (busy : List GItem) (kx1_0 : List Bool → Option Bool) : Nat → Int → List Bool → Option Bool
  | 0, _, _ => none
  | n1 + 1, s1_0, l1_1 => if decide (s1_0 < (busy.length : Int)) = true then ((getI busy s1_0).bind fun x12 => ((getI n.tasks x12.task).bind fun x13 => (z1o x13.out (z2j s1_0 (z0k n busy kx1_0 n1)) FUEL 0 l1_1))) else (kx1_0 l1_1)
def z2i (n : GNet) (marks : List Int) (busy : List GItem) (t : Int) (l0_1 : List Bool) : Option Bool := z0k n busy (z12 n marks t) FUEL 0 l0_1
def z13 (n : GNet) (marks : List Int) (t : Int) (kx0_0 : List Bool → Option Bool) : Nat → Int → List Bool → Option Bool
  | 0, _, _ => none
  | n0 + 1, s0_0, l0_1 => if decide (s0_0 < n.places) = true then ((getI marks s0_0).bind fun x3 => (if decide (0 < x3) = true then ((getI n.tasks t).bind fun x5 => ((z5k x5.in_ s0_0).bind fun x6 => ((getI l0_1 s0_0).bind fun x7 => (gd (ok64 (s0_0 + 1)) ((z13 n marks t kx0_0 n0) (s0_0 + 1) (l0_1.set s0_0.toNat (!x6))))))) else ((getI l0_1 s0_0).bind fun x9 => (gd (ok64 (s0_0 + 1)) ((z13 n marks t kx0_0 n0) (s0_0 + 1) (l0_1.set s0_0.toNat false)))))) else (kx0_0 l0_1)
def z6e (n : GNet) (marks : List Int) (busy : List GItem) (t : Int) : Option Bool := gd ((0 : Int) ≤ n.places ∧ n.places ≤ (1000000000 : Int)) (z13 n marks t (z2i n marks busy t) FUEL 0 (List.replicate n.places.toNat false))
def z04 : Con := ⟨168, [.v (.s .net) false, .v (.sl .I) false, .v (.sl (.s .item)) false, .v .I false], [(.B, true)], [], fun x => z6e x.1 x.2.1 x.2.2.1 x.2.2.2.1⟩
def y4v : Fs := ⟨[z2a, z03], [], []⟩
theorem z4a : y4v.Ok Try.prog := (fsK zp8 (fsK y5n fs0))
def z8s : Tmpl := ⟨[(1, .c (.s .I)), (2, .c (.s (.s .item))), (3, .c .i), (4, .c (.bx 4 0)), (9, .c (.ref 18)), (11, .c .i), (12, .c (.s (.s .flow))), (13, .c .i)], [(4, .boxT (.s .net)), (18, .arr .B true)]⟩
def z7v : Tmpl := ⟨[(1, .c (.s .I)), (2, .c (.s (.s .item))), (3, .c .i), (4, .c (.bx 4 0)), (9, .c (.ref 18)), (11, .c .i)], [(4, .boxT (.s .net)), (18, .arr .B true)]⟩
def zx5 (av : AV) (x : HP z04.ps) (n : Nat) (v : z8s.den) (K : Ks (CR z04)) : Option (CR z04) := z1o v.1.2.2.2.2.2.2.1 (fun l2_1 => z7v.at none ((v.1.1, v.1.2.1, v.1.2.2.1, (), (), v.1.2.2.2.2.2.1, ()), (v.2.1, l2_1, ())) (K (.exit 4))) n v.1.2.2.2.2.2.2.2.1 v.2.2.1
def z8i (av : AV) (x : HP z04.ps) : Hdl (CR z04) := hnd [] z8s (zx5 av x)
theorem zy5 : LP z04 Try.f168 [1, 0] z8i := lp_ok (W := []) (H := []) (xs := [z7v]) z4a trivial rfl (fun av x v K => by kernel_rfl) (fun av x n v K => by kernel_rfl)
def ze8 : Tmpl := ⟨[(1, .c (.s .I)), (2, .c (.s (.s .item))), (3, .c .i), (4, .c (.bx 4 0)), (9, .c (.ref 18)), (10, .c .i)], [(4, .boxT (.s .net)), (18, .arr .B true)]⟩
def z9p : Tmpl := ⟨[(1, .c (.s .I)), (2, .c (.s (.s .item))), (3, .c .i), (4, .c (.bx 4 0)), (9, .c (.ref 18))], [(4, .boxT (.s .net)), (18, .arr .B true)]⟩
def y15 (av : AV) (x : HP z04.ps) (n : Nat) (v : ze8.den) (K : Ks (CR z04)) : Option (CR z04) := z13 v.2.1 v.1.1 v.1.2.2.1 (fun l0_1 => z9p.at none ((v.1.1, v.1.2.1, v.1.2.2.1, (), (), ()), (v.2.1, l0_1, ())) (K (.exit 0))) n v.1.2.2.2.2.2.1 v.2.2.1
def zc3 (av : AV) (x : HP z04.ps) : Hdl (CR z04) := hnd [] ze8 (y15 av x)
theorem y1o : LP z04 Try.f168 [0] zc3 := lp_ok (W := []) (H := []) (xs := [z9p]) z4a trivial rfl (fun av x v K => by kernel_rfl) (fun av x n v K => by kernel_rfl)
def ze9 : Tmpl := ⟨[(1, .c (.s .I)), (2, .c (.s (.s .item))), (3, .c .i), (4, .c (.bx 4 0)), (9, .c (.ref 18)), (11, .c .i)], [(4, .boxT (.s .net)), (18, .arr .B true)]⟩
def z9q : Tmpl := ⟨[(1, .c (.s .I)), (3, .c .i), (4, .c (.bx 4 0)), (9, .c (.ref 18))], [(4, .boxT (.s .net)), (18, .arr .B true)]⟩
def y16 (av : AV) (x : HP z04.ps) (n : Nat) (v : ze9.den) (K : Ks (CR z04)) : Option (CR z04) := z0k v.2.1 v.1.2.1 (fun l1_1 => z9q.at none ((v.1.1, v.1.2.2.1, (), (), ()), (v.2.1, l1_1, ())) (K (.exit 2))) n v.1.2.2.2.2.2.1 v.2.2.1
def zc4 (av : AV) (x : HP z04.ps) : Hdl (CR z04) := hnd [] ze9 (y16 av x)
theorem y1p : LP z04 Try.f168 [1] zc4 := lp_ok (W := []) (H := [z8i]) (xs := [z9q]) z4a ⟨zy5, trivial⟩ rfl (fun av x v K => by kernel_rfl) (fun av x n v K => by kernel_rfl)
def zf0 : Tmpl := ⟨[(1, .c (.s .I)), (3, .c .i), (4, .c (.bx 4 0)), (14, .c (.ref 76)), (15, .c .i)], [(4, .boxT (.s .net)), (76, .arr .B true)]⟩
def z9r : Tmpl := ⟨[], []⟩
def y17 (av : AV) (x : HP z04.ps) (n : Nat) (v : zf0.den) (K : Ks (CR z04)) : Option (CR z04) := z14 v.2.1 v.1.1 v.1.2.1 v.2.2.1 (z9r.at none ((), ()) (K (.exit 6))) n v.1.2.2.2.2.1
def zc5 (av : AV) (x : HP z04.ps) : Hdl (CR z04) := hnd [] zf0 (y17 av x)
theorem y1q : LP z04 Try.f168 [2] zc5 := lp_ok (W := []) (H := []) (xs := [z9r]) z4a trivial rfl (fun av x v K => by kernel_rfl) (fun av x n v K => by kernel_rfl)
theorem y5o : z04.Ok Try.prog := fn_ok (k := z04) (fn := Try.f168) (W := []) (H := [zc3, zc4, zc5]) Try.func168 z4a ⟨y1o, y1p, y1q, trivial⟩ rfl rfl (fun av x => by kernel_rfl)
def z9b (n : GNet) (marks : List Int) (busy : List GItem) (t : Int) : Option Bool := (getI n.tasks t).bind fun x1 => ((z8b marks x1.in_).bind fun x2 => ((getI n.tasks t).bind fun x3 => (if decide (x3.join = 1) = true then (some x2.2) else (if decide (x3.join = 2) = true then (some x2.1) else (if x2.1 = true then (if x2.2 = true then (some true) else ((z6e n marks busy t).bind fun x8 => (some (!x8)))) else (some false))))))
def zo2 : Con := ⟨152, [.v (.s .net) false, .v (.sl .I) false, .v (.sl (.s .item)) false, .v .I false], [(.B, true)], [], fun x => z9b x.1 x.2.1 x.2.2.1 x.2.2.2.1⟩
def yh0 : Fs := ⟨[z2n, z04], [], []⟩
theorem yi0 : yh0.Ok Try.prog := (fsK yb4 (fsK y5o fs0))
theorem yk3 : zo2.Ok Try.prog := fn_ok (k := zo2) (fn := Try.f152) (W := []) (H := []) Try.func152 yi0 trivial rfl rfl (fun av x => by kernel_rfl)
def zj5  : Option Bool := some true
def z36 (n : GNet) (busy : List GItem) (kx0_0 : Option Bool) : Nat → Int → Option Bool
  | 0, _ => none
  | n0 + 1, s0_0 => if decide (s0_0 < (busy.length : Int)) = true then ((getI busy s0_0).bind fun x3 => (gd (ok64 ((n.tasks.length : Int) - 1)) ((z05 x3.task 0 ((n.tasks.length : Int) - 1)).bind fun x5 => (if x5 = true then ((getI busy s0_0).bind fun x7 => ((z05 x7.who 1 4).bind fun x8 => (if x8 = true then ((getI busy s0_0).bind fun x10 => ((getI busy s0_0).bind fun x11 => ((getI n.tasks x11.task).bind fun x12 => (gd (ok64 (x12.need - 1)) ((z05 x10.did 0 (x12.need - 1)).bind fun x14 => (if x14 = true then (gd (ok64 (s0_0 + 1)) ((z36 n busy kx0_0 n0) (s0_0 + 1))) else (some false))))))) else (some false)))) else (some false))))) else (kx0_0)
def z6d (n : GNet) (busy : List GItem) : Option Bool := if decide (6 < (busy.length : Int)) = true then (some false) else (z36 n busy zj5 FUEL 0)
def z27 : Con := ⟨54, [.v (.s .net) false, .v (.sl (.s .item)) false], [(.B, true)], [], fun x => z6d x.1 x.2.1⟩
def y9g : Fs := ⟨[z0m], [], []⟩
theorem y03 : y9g.Ok Try.prog := (fsK z0x fs0)
def zq8 : Tmpl := ⟨[(1, .c (.s (.s .item))), (2, .c (.bx 2 0)), (5, .c .i)], [(2, .boxT (.s .net))]⟩
def zl4 : Tmpl := ⟨[], []⟩
def y4c (av : AV) (x : HP z27.ps) (n : Nat) (v : zq8.den) (K : Ks (CR z27)) : Option (CR z27) := z36 v.2.1 v.1.1 (zl4.at none ((), ()) (K (.exit 0))) n v.1.2.2.1
def zn6 (av : AV) (x : HP z27.ps) : Hdl (CR z27) := hnd [] zq8 (y4c av x)
theorem y5c : LP z27 Try.f54 [0] zn6 := lp_ok (W := []) (H := []) (xs := [zl4]) y03 trivial rfl (fun av x v K => by kernel_rfl) (fun av x n v K => by kernel_rfl)
theorem y0g : z27.Ok Try.prog := fn_ok (k := z27) (fn := Try.f54) (W := []) (H := [zn6]) Try.func54 y03 ⟨y5c, trivial⟩ rfl rfl (fun av x => by kernel_rfl)
def z5z (n : GNet) (marks : List Int) (busy : List GItem) (t : Int) : Option Bool := (z4g n marks).bind fun x1 => (if x1 = true then ((z6d n busy).bind fun x3 => (if x3 = true then (gd (ok64 ((n.tasks.length : Int) - 1)) ((z05 t 0 ((n.tasks.length : Int) - 1)).bind fun x6 => (if x6 = true then ((z9b n marks busy t).bind fun x8 => (some x8)) else (some false)))) else (some false))) else (some false))
def z80 : Con := ⟨121, [.v (.s .net) false, .v (.sl .I) false, .v (.sl (.s .item)) false, .v .I false], [(.B, true)], [], fun x => z5z x.1 x.2.1 x.2.2.1 x.2.2.2.1⟩
def y99 : Fs := ⟨[z1q, z27, z0m, zo2], [], []⟩
theorem y9p : y99.Ok Try.prog := (fsK z9d (fsK y0g (fsK z0x (fsK yk3 fs0))))
theorem y0e : z80.Ok Try.prog := fn_ok (k := z80) (fn := Try.f121) (W := []) (H := []) Try.func121 y9p trivial rfl rfl (fun av x => by kernel_rfl)
def z60 (l0_1 : List Int) : Option (List Int) := some l0_1
def z1n (n : GNet) (marks : List Int) (busy : List GItem) (kx0_0 : List Int → Option (List Int)) : Nat → Int → List Int → Option (List Int)
  | 0, _, _ => none
  | n0 + 1, s0_0, l0_1 => if decide (s0_0 < (n.tasks.length : Int)) = true then ((z5z n marks busy s0_0).bind fun x2 => (if x2 = true then (gd (l0_1.length + [s0_0].length ≤ SMALL) (gd (ok64 (s0_0 + 1)) ((z1n n marks busy kx0_0 n0) (s0_0 + 1) (l0_1 ++ [s0_0])))) else (gd (ok64 (s0_0 + 1)) ((z1n n marks busy kx0_0 n0) (s0_0 + 1) l0_1)))) else (kx0_0 l0_1)
def z2z (n : GNet) (marks : List Int) (busy : List GItem) : Option (List Int) := z1n n marks busy z60 FUEL 0 ([] : List Int)
def z16 : Con := ⟨76, [.v (.s .net) false, .v (.sl .I) false, .v (.sl (.s .item)) false], [((.sl .I), true)], [], fun x => z2z x.1 x.2.1 x.2.2.1⟩
def y4p : Fs := ⟨[z80], [], []⟩
theorem zm9 : y4p.Ok Try.prog := (fsK y0e fs0)
def ze3 : Tmpl := ⟨[(1, .c (.s .I)), (2, .c (.s (.s .item))), (3, .c (.bx 3 0)), (7, .c (.ref 9)), (8, .c .i)], [(3, .boxT (.s .net)), (9, .arr .I true)]⟩
def z9k : Tmpl := ⟨[(7, .c (.ref 9))], [(9, .arr .I true)]⟩
def y10 (av : AV) (x : HP z16.ps) (n : Nat) (v : ze3.den) (K : Ks (CR z16)) : Option (CR z16) := z1n v.2.1 v.1.1 v.1.2.1 (fun l0_1 => z9k.at none (((), ()), (l0_1, ())) (K (.exit 0))) n v.1.2.2.2.2.1 v.2.2.1
def zb8 (av : AV) (x : HP z16.ps) : Hdl (CR z16) := hnd [] ze3 (y10 av x)
theorem y1j : LP z16 Try.f76 [0] zb8 := lp_ok (W := []) (H := []) (xs := [z9k]) zm9 trivial rfl (fun av x v K => by kernel_rfl) (fun av x n v K => by kernel_rfl)
theorem zp7 : z16.Ok Try.prog := fn_ok (k := z16) (fn := Try.f76) (W := []) (H := [zb8]) Try.func76 zm9 ⟨y1j, trivial⟩ rfl rfl (fun av x => by kernel_rfl)
def zc8 (l0_1 : List Int) (x10 : Int) (x13 : Int) : Option (List Int) := some (l0_1.set x10.toNat (x13 - 1))
def zc9 (l0_1 : List Int) : Option (List Int) := some l0_1
def z1u (n : GNet) (t : Int) (kx0_0 : List Int → Int → Int → Option (List Int)) (kx0_1 : List Int → Option (List Int)) : Nat → Int → List Int → Option (List Int)
  | 0, _, _ => none
  | n0 + 1, s0_0, l0_1 => (getI n.tasks t).bind fun x7 => (if decide (s0_0 < (x7.in_.length : Int)) = true then ((getI n.tasks t).bind fun x9 => ((getI x9.in_ s0_0).bind fun x10 => ((getI l0_1 x10).bind fun x11 => (if decide (0 < x11) = true then ((getI l0_1 x10).bind fun x13 => (gd (ok64 (x13 - 1)) ((getI l0_1 x10).bind fun x15 => ((getI n.tasks t).bind fun x16 => (if decide (x16.join = 2) = true then (kx0_0 l0_1 x10 x13) else (gd (ok64 (s0_0 + 1)) ((z1u n t kx0_0 kx0_1 n0) (s0_0 + 1) (l0_1.set x10.toNat (x13 - 1))))))))) else (gd (ok64 (s0_0 + 1)) ((z1u n t kx0_0 kx0_1 n0) (s0_0 + 1) l0_1)))))) else (kx0_1 l0_1))
def z70 (n : GNet) (marks : List Int) (t : Int) : Option (List Int) := (z4g n marks).bind fun x1 => (if x1 = true then (gd (ok64 ((n.tasks.length : Int) - 1)) ((z05 t 0 ((n.tasks.length : Int) - 1)).bind fun x4 => (if x4 = true then (gd (([] : List Int).length + marks.length ≤ SMALL) (z1u n t zc8 zc9 FUEL 0 (([] : List Int) ++ marks))) else (some ([] : List Int))))) else (some ([] : List Int)))
def z22 : Con := ⟨147, [.v (.s .net) false, .v (.sl .I) false, .v .I false], [((.sl .I), true)], [], fun x => z70 x.1 x.2.1 x.2.2.1⟩
def y6z : Fs := ⟨[z1q, z0m], [], []⟩
theorem zu1 : y6z.Ok Try.prog := (fsK z9d (fsK z0x fs0))
def zk1 : Tmpl := ⟨[(2, .c .i), (3, .c (.bx 3 0)), (7, .c (.ref 26)), (8, .c .i)], [(3, .boxT (.s .net)), (26, .arr .I true)]⟩
def z6w : Tmpl := ⟨[(7, .c (.ref 26))], [(26, .arr .I true)]⟩
def y2x (av : AV) (x : HP z22.ps) (n : Nat) (v : zk1.den) (K : Ks (CR z22)) : Option (CR z22) := z1u v.2.1 v.1.1 (fun l0_1 x10 x13 => z6w.at none (((), ()), ((l0_1.set x10.toNat (x13 - 1)), ())) (K (.exit 0))) (fun l0_1 => z6w.at none (((), ()), (l0_1, ())) (K (.exit 0))) n v.1.2.2.2.1 v.2.2.1
def zi3 (av : AV) (x : HP z22.ps) : Hdl (CR z22) := hnd [] zk1 (y2x av x)
theorem y3i : LP z22 Try.f147 [0] zi3 := lp_ok (W := []) (H := []) (xs := [z6w]) zu1 trivial rfl (fun av x v K => by kernel_rfl) (fun av x n v K => by kernel_rfl)
theorem y7z : z22.Ok Try.prog := fn_ok (k := z22) (fn := Try.f147) (W := []) (H := [zi3]) Try.func147 zu1 ⟨y3i, trivial⟩ rfl rfl (fun av x => by kernel_rfl)
def z4d (who : Int) : Option Bool := (z0s who 1 4).bind fun x1 => (some x1)
def z5q : Con := ⟨52, [.v .I false], [(.B, true)], [], fun x => z4d x.1⟩
def y4m : Fs := ⟨[z2w], [], []⟩
theorem y51 : y4m.Ok Try.prog := (fsK z3s fs0)
theorem zp4 : z5q.Ok Try.prog := fn_ok (k := z5q) (fn := Try.f52) (W := []) (H := []) Try.func52 y51 trivial rfl rfl (fun av x => by kernel_rfl)
def z62 (l0_1 : List Int) (x8 : GFlow) : Option (List Int) := some (l0_1 ++ [x8.to])
def z63 (l0_1 : List Int) (x13 : GFlow) : Option (List Int) := some (l0_1 ++ [x13.to])
def z64 (l0_1 : List Int) (x18 : GFlow) : Option (List Int) := some (l0_1 ++ [x18.to])
def z8m (l0_1 : List Int) : Option (List Int) := some l0_1
def z0w (t : GTask) (data : List Int) (kx0_0 : List Int → GFlow → Option (List Int)) (kx0_1 : List Int → GFlow → Option (List Int)) (kx0_2 : List Int → GFlow → Option (List Int)) (kx0_3 : List Int → Option (List Int)) : Nat → Int → List Int → Option (List Int)
  | 0, _, _ => none
  | n0 + 1, s0_0, l0_1 => if decide (s0_0 < (t.out.length : Int)) = true then ((getI t.out s0_0).bind fun x2 => ((z61 x2.if_ data).bind fun x3 => (if x3 = true then (if decide (t.split = 3) = true then (gd (ok64 ((t.out.length : Int) - 1)) (if decide (s0_0 < ((t.out.length : Int) - 1)) = true then ((getI t.out s0_0).bind fun x8 => (gd (l0_1.length + [x8.to].length ≤ SMALL) (if decide (t.split = 2) = true then (kx0_0 l0_1 x8) else (gd (ok64 (s0_0 + 1)) ((z0w t data kx0_0 kx0_1 kx0_2 kx0_3 n0) (s0_0 + 1) (l0_1 ++ [x8.to])))))) else (if decide ((l0_1.length : Int) = 0) = true then ((getI t.out s0_0).bind fun x13 => (gd (l0_1.length + [x13.to].length ≤ SMALL) (if decide (t.split = 2) = true then (kx0_1 l0_1 x13) else (gd (ok64 (s0_0 + 1)) ((z0w t data kx0_0 kx0_1 kx0_2 kx0_3 n0) (s0_0 + 1) (l0_1 ++ [x13.to])))))) else (gd (ok64 (s0_0 + 1)) ((z0w t data kx0_0 kx0_1 kx0_2 kx0_3 n0) (s0_0 + 1) l0_1))))) else ((getI t.out s0_0).bind fun x18 => (gd (l0_1.length + [x18.to].length ≤ SMALL) (if decide (t.split = 2) = true then (kx0_2 l0_1 x18) else (gd (ok64 (s0_0 + 1)) ((z0w t data kx0_0 kx0_1 kx0_2 kx0_3 n0) (s0_0 + 1) (l0_1 ++ [x18.to]))))))) else (gd (ok64 (s0_0 + 1)) ((z0w t data kx0_0 kx0_1 kx0_2 kx0_3 n0) (s0_0 + 1) l0_1))))) else (kx0_3 l0_1)
def z97 (t : GTask) (data : List Int) : Option (List Int) := z0w t data z62 z63 z64 z8m FUEL 0 ([] : List Int)
def z3a : Con := ⟨113, [.v (.s .task) false, .v (.sl .I) false], [((.sl .I), true)], [], fun x => z97 x.1 x.2.1⟩
def yg8 : Fs := ⟨[z8k], [], []⟩
theorem y2c : yg8.Ok Try.prog := (fsK y5j fs0)
def zx0 : Tmpl := ⟨[(1, .c (.s .I)), (2, .c (.bx 2 0)), (5, .c (.ref 7)), (6, .c .i)], [(2, .boxT (.s .task)), (7, .arr .I true)]⟩
def z4j : Tmpl := ⟨[(5, .c (.ref 49))], [(49, .arr .I true)]⟩
def y6n (av : AV) (x : HP z3a.ps) (n : Nat) (v : zx0.den) (K : Ks (CR z3a)) : Option (CR z3a) := z0w v.2.1 v.1.1 (fun l0_1 x8 => z4j.at none (((), ()), ((l0_1 ++ [x8.to]), ())) (K (.exit 0))) (fun l0_1 x13 => z4j.at none (((), ()), ((l0_1 ++ [x13.to]), ())) (K (.exit 0))) (fun l0_1 x18 => z4j.at none (((), ()), ((l0_1 ++ [x18.to]), ())) (K (.exit 0))) (fun l0_1 => z4j.at none (((), ()), (l0_1, ())) (K (.exit 0))) n v.1.2.2.2.1 v.2.2.1
def zv4 (av : AV) (x : HP z3a.ps) : Hdl (CR z3a) := hnd [] zx0 (y6n av x)
theorem y7p : LP z3a Try.f113 [0] zv4 := lp_ok (W := []) (H := []) (xs := [z4j]) y2c trivial rfl (fun av x v K => by kernel_rfl) (fun av x n v K => by kernel_rfl)
theorem yk2 : z3a.Ok Try.prog := fn_ok (k := z3a) (fn := Try.f113) (W := []) (H := [zv4]) Try.func113 y2c ⟨y7p, trivial⟩ rfl rfl (fun av x => by kernel_rfl)
def z4p (l1_1 : List Int) : Option ((List Int) × Bool) := some (l1_1, true)
def z2t (x16 : (List Int)) (kx1_0 : List Int → Option ((List Int) × Bool)) : Nat → Int → List Int → Option ((List Int) × Bool)
  | 0, _, _ => none
  | n1 + 1, s1_0, l1_1 => if decide (s1_0 < (x16.length : Int)) = true then ((getI x16 s1_0).bind fun x18 => ((getI l1_1 x18).bind fun x19 => (if decide (x19 = 4) = true then (some (([] : List Int), false)) else ((getI x16 s1_0).bind fun x21 => ((getI x16 s1_0).bind fun x22 => ((getI l1_1 x22).bind fun x23 => (gd (ok64 (x23 + 1)) ((getI l1_1 x21).bind fun x25 => (gd (ok64 (s1_0 + 1)) ((z2t x16 kx1_0 n1) (s1_0 + 1) (l1_1.set x21.toNat (x23 + 1)))))))))))) else (kx1_0 l1_1)
def z4o (n : GNet) (t : Int) (data : List Int) (l0_1 : List Int) : Option ((List Int) × Bool) := (getI n.tasks t).bind fun x15 => ((z97 x15 data).bind fun x16 => (z2t x16 z4p FUEL 0 l0_1))
def z2s (n : GNet) (t : Int) (kx0_0 : List Int → Option ((List Int) × Bool)) : Nat → Int → List Int → Option ((List Int) × Bool)
  | 0, _, _ => none
  | n0 + 1, s0_0, l0_1 => (getI n.tasks t).bind fun x9 => (if decide (s0_0 < (x9.clear.length : Int)) = true then ((getI n.tasks t).bind fun x11 => ((getI x11.clear s0_0).bind fun x12 => ((getI l0_1 x12).bind fun x13 => (gd (ok64 (s0_0 + 1)) ((z2s n t kx0_0 n0) (s0_0 + 1) (l0_1.set x12.toNat 0)))))) else (kx0_0 l0_1))
def z71 (n : GNet) (marks : List Int) (t : Int) (data : List Int) : Option ((List Int) × Bool) := (z4g n marks).bind fun x1 => (if x1 = true then (gd (ok64 ((n.tasks.length : Int) - 1)) ((z05 t 0 ((n.tasks.length : Int) - 1)).bind fun x4 => (if x4 = true then ((z3t data).bind fun x6 => (if x6 = true then (gd (([] : List Int).length + marks.length ≤ SMALL) (z2s n t (z4o n t data) FUEL 0 (([] : List Int) ++ marks))) else (some (([] : List Int), false)))) else (some (([] : List Int), false))))) else (some (([] : List Int), false)))
def z0f : Con := ⟨71, [.v (.s .net) false, .v (.sl .I) false, .v .I false, .v (.sl .I) false], [((.sl .I), true), (.B, true)], [], fun x => z71 x.1 x.2.1 x.2.2.1 x.2.2.2.1⟩
def y70 : Fs := ⟨[z1q, z0m, z1b, z3a], [], []⟩
theorem z9t : y70.Ok Try.prog := (fsK z9d (fsK z0x (fsK z7c (fsK yk2 fs0))))
def zk2 : Tmpl := ⟨[(2, .c .i), (3, .c (.s .I)), (4, .c (.bx 4 0)), (10, .c (.ref 35)), (11, .c .i)], [(4, .boxT (.s .net)), (35, .arr .I true)]⟩
def zf4 : Tmpl := ⟨[(2, .c .i), (3, .c (.s .I)), (4, .c (.bx 4 0)), (10, .c (.ref 35))], [(4, .boxT (.s .net)), (35, .arr .I true)]⟩
def y2y (av : AV) (x : HP z0f.ps) (n : Nat) (v : zk2.den) (K : Ks (CR z0f)) : Option (CR z0f) := z2s v.2.1 v.1.1 (fun l0_1 => zf4.at none ((v.1.1, v.1.2.1, (), (), ()), (v.2.1, l0_1, ())) (K (.exit 0))) n v.1.2.2.2.2.1 v.2.2.1
def zi4 (av : AV) (x : HP z0f.ps) : Hdl (CR z0f) := hnd [] zk2 (y2y av x)
theorem y3j : LP z0f Try.f71 [0] zi4 := lp_ok (W := []) (H := []) (xs := [zf4]) z9t trivial rfl (fun av x v K => by kernel_rfl) (fun av x n v K => by kernel_rfl)
def zk3 : Tmpl := ⟨[(10, .c (.ref 35)), (12, .c (.ref 64)), (13, .c .i)], [(35, .arr .I true), (64, .arr .I true)]⟩
def zf5 : Tmpl := ⟨[(10, .c (.ref 35))], [(35, .arr .I true)]⟩
def y2z (av : AV) (x : HP z0f.ps) (n : Nat) (v : zk3.den) (K : Ks (CR z0f)) : Option (CR z0f) := z2t v.2.2.1 (fun l1_1 => zf5.at none (((), ()), (l1_1, ())) (K (.exit 2))) n v.1.2.2.1 v.2.1
def zi5 (av : AV) (x : HP z0f.ps) : Hdl (CR z0f) := hnd [] zk3 (y2z av x)
theorem y3k : LP z0f Try.f71 [1] zi5 := lp_ok (W := []) (H := []) (xs := [zf5]) z9t trivial rfl (fun av x v K => by kernel_rfl) (fun av x n v K => by kernel_rfl)
theorem y80 : z0f.Ok Try.prog := fn_ok (k := z0f) (fn := Try.f71) (W := []) (H := [zi4, zi5]) Try.func71 z9t ⟨y3j, y3k, trivial⟩ rfl rfl (fun av x => by kernel_rfl)
def zp1  : Option Bool := some true
def z3p (people : List Int) (kx0_0 : Option Bool) : Nat → Int → Option Bool
  | 0, _ => none
  | n0 + 1, s0_0 => if decide (s0_0 < (people.length : Int)) = true then ((getI people s0_0).bind fun x4 => ((z05 x4 0 7).bind fun x5 => (if x5 = true then (gd (ok64 (s0_0 + 1)) ((z3p people kx0_0 n0) (s0_0 + 1))) else (some false)))) else (kx0_0)
def z79 (people : List Int) : Option Bool := (z05 (people.length : Int) 1 4).bind fun x1 => (if x1 = true then (z3p people zp1 FUEL 0) else (some false))
def z2o : Con := ⟨92, [.v (.sl .I) false], [(.B, true)], [], fun x => z79 x.1⟩
def yg7 : Fs := ⟨[z0m], [], []⟩
theorem y2b : yg7.Ok Try.prog := (fsK z0x fs0)
def zw9 : Tmpl := ⟨[(0, .c (.s .I)), (3, .c .i)], []⟩
def zr6 : Tmpl := ⟨[], []⟩
def y6m (av : AV) (x : HP z2o.ps) (n : Nat) (v : zw9.den) (K : Ks (CR z2o)) : Option (CR z2o) := z3p v.1.1 (zr6.at none ((), ()) (K (.exit 0))) n v.1.2.1
def zv3 (av : AV) (x : HP z2o.ps) : Hdl (CR z2o) := hnd [] zw9 (y6m av x)
theorem y7o : LP z2o Try.f92 [0] zv3 := lp_ok (W := []) (H := []) (xs := [zr6]) y2b trivial rfl (fun av x v K => by kernel_rfl) (fun av x n v K => by kernel_rfl)
theorem y2m : z2o.Ok Try.prog := fn_ok (k := z2o) (fn := Try.f92) (W := []) (H := [zv3]) Try.func92 y2b ⟨y7o, trivial⟩ rfl rfl (fun av x => by kernel_rfl)
def z34 (s0_0 : Int) : Option Bool := gd ((2 : Int) ≠ 0) (some (decide ((Int.tmod s0_0 2) = 1)))
def z17 (role : Int) (kx0_0 : Int → Option Bool) : Nat → Int → Int → Option Bool
  | 0, _, _ => none
  | n0 + 1, s0_0, s0_1 => if decide (s0_1 < role) = true then (gd ((2 : Int) ≠ 0 ∧ ok64 (Int.tdiv s0_0 2)) (gd (ok64 (s0_1 + 1)) ((z17 role kx0_0 n0) (Int.tdiv s0_0 2) (s0_1 + 1)))) else (kx0_0 s0_0)
def z88 (people : List Int) (who : Int) (role : Int) : Option Bool := (z79 people).bind fun x1 => (if x1 = true then ((z05 who 1 (people.length : Int)).bind fun x3 => (if x3 = true then ((z05 role 1 3).bind fun x5 => (if x5 = true then (gd (ok64 (who - 1)) ((getI people (who - 1)).bind fun x8 => (z17 role z34 FUEL x8 1))) else (some false))) else (some false))) else (some false))
def z2m : Con := ⟨122, [.v (.sl .I) false, .v .I false, .v .I false], [(.B, true)], [], fun x => z88 x.1 x.2.1 x.2.2.1⟩
def y9b : Fs := ⟨[z2o, z0m], [], []⟩
theorem y02 : y9b.Ok Try.prog := (fsK y2m (fsK z0x fs0))
def zq6 : Tmpl := ⟨[(2, .c .i), (7, .c .i), (8, .c .i)], []⟩
def zl2 : Tmpl := ⟨[(7, .c .i)], []⟩
def y4a (av : AV) (x : HP z2m.ps) (n : Nat) (v : zq6.den) (K : Ks (CR z2m)) : Option (CR z2m) := z17 v.1.1 (fun s0_0 => zl2.at none ((s0_0, ()), ()) (K (.exit 0))) n v.1.2.1 v.1.2.2.1
def zn4 (av : AV) (x : HP z2m.ps) : Hdl (CR z2m) := hnd [] zq6 (y4a av x)
theorem y5a : LP z2m Try.f122 [0] zn4 := lp_ok (W := []) (H := []) (xs := [zl2]) y02 trivial rfl (fun av x v K => by kernel_rfl) (fun av x n v K => by kernel_rfl)
theorem yb1 : z2m.Ok Try.prog := fn_ok (k := z2m) (fn := Try.f122) (W := []) (H := [zn4]) Try.func122 y02 ⟨y5a, trivial⟩ rfl rfl (fun av x => by kernel_rfl)
def zj3  : Option Bool := some false
def z2k (did : List GDid) (who : Int) (task : Int) (kx0_0 : Option Bool) : Nat → Int → Option Bool
  | 0, _ => none
  | n0 + 1, s0_0 => if decide (s0_0 < (did.length : Int)) = true then ((getI did s0_0).bind fun x2 => (if decide (x2.who = who) = true then ((getI did s0_0).bind fun x4 => (if decide (x4.task = task) = true then (some true) else (gd (ok64 (s0_0 + 1)) ((z2k did who task kx0_0 n0) (s0_0 + 1))))) else (gd (ok64 (s0_0 + 1)) ((z2k did who task kx0_0 n0) (s0_0 + 1))))) else (kx0_0)
def z87 (did : List GDid) (who : Int) (task : Int) : Option Bool := z2k did who task zj3 FUEL 0
def z2l : Con := ⟨123, [.v (.sl (.s .did)) false, .v .I false, .v .I false], [(.B, true)], [], fun x => z87 x.1 x.2.1 x.2.2.1⟩
def y9a : Fs := ⟨[], [], []⟩
theorem y01 : y9a.Ok Try.prog := fs0
def zq5 : Tmpl := ⟨[(0, .c (.s (.s .did))), (1, .c .i), (2, .c .i), (7, .c .i)], []⟩
def zl1 : Tmpl := ⟨[], []⟩
def y49 (av : AV) (x : HP z2l.ps) (n : Nat) (v : zq5.den) (K : Ks (CR z2l)) : Option (CR z2l) := z2k v.1.1 v.1.2.1 v.1.2.2.1 (zl1.at none ((), ()) (K (.exit 0))) n v.1.2.2.2.1
def zn3 (av : AV) (x : HP z2l.ps) : Hdl (CR z2l) := hnd [] zq5 (y49 av x)
theorem y59 : LP z2l Try.f123 [0] zn3 := lp_ok (W := []) (H := []) (xs := [zl1]) y01 trivial rfl (fun av x v K => by kernel_rfl) (fun av x n v K => by kernel_rfl)
theorem yb0 : z2l.Ok Try.prog := fn_ok (k := z2l) (fn := Try.f123) (W := []) (H := [zn3]) Try.func123 y01 ⟨y59, trivial⟩ rfl rfl (fun av x => by kernel_rfl)
def zj4 (n : GNet) (people : List Int) (did : List GDid) (t : Int) (s0_0 : Int) (l0_1 : List Int) (bk0 : Int → List Int → Option (List Int)) (s1_0 : Bool) : Option (List Int) := (getI n.tasks t).bind fun x18 => ((z88 people s0_0 x18.role).bind fun x19 => (if x19 = true then (if s1_0 = true then (gd (ok64 (s0_0 + 1)) (bk0 (s0_0 + 1) l0_1)) else ((getI n.tasks t).bind fun x23 => ((z87 did s0_0 x23.apart).bind fun x24 => (if x24 = true then (gd (ok64 (s0_0 + 1)) (bk0 (s0_0 + 1) l0_1)) else (gd (l0_1.length + [s0_0].length ≤ SMALL) (gd (ok64 (s0_0 + 1)) (bk0 (s0_0 + 1) (l0_1 ++ [s0_0])))))))) else (gd (ok64 (s0_0 + 1)) (bk0 (s0_0 + 1) l0_1))))
def z18 (n : GNet) (busy : List GItem) (t : Int) (s0_0 : Int) (kx1_0 : Bool → Option (List Int)) : Nat → Bool → Int → Option (List Int)
  | 0, _, _ => none
  | n1 + 1, s1_0, s1_1 => if decide (s1_1 < (busy.length : Int)) = true then (if s1_0 = true then (gd (ok64 (s1_1 + 1)) ((z18 n busy t s0_0 kx1_0 n1) true (s1_1 + 1))) else ((getI busy s1_1).bind fun x12 => (if decide (x12.who = s0_0) = true then ((getI busy s1_1).bind fun x14 => ((getI n.tasks t).bind fun x15 => (gd (ok64 (s1_1 + 1)) ((z18 n busy t s0_0 kx1_0 n1) (decide (x14.task = x15.apart)) (s1_1 + 1))))) else (gd (ok64 (s1_1 + 1)) ((z18 n busy t s0_0 kx1_0 n1) false (s1_1 + 1)))))) else (kx1_0 s1_0)
def z7j (l0_1 : List Int) : Option (List Int) := some l0_1
def z35 (n : GNet) (people : List Int) (did : List GDid) (busy : List GItem) (t : Int) (kx0_0 : List Int → Option (List Int)) : Nat → Int → List Int → Option (List Int)
  | 0, _, _ => none
  | n0 + 1, s0_0, l0_1 => if decide (s0_0 ≤ (people.length : Int)) = true then (z18 n busy t s0_0 (zj4 n people did t s0_0 l0_1 (z35 n people did busy t kx0_0 n0)) FUEL false 0) else (kx0_0 l0_1)
def z3b (n : GNet) (people : List Int) (did : List GDid) (busy : List GItem) (t : Int) : Option (List Int) := (z2d n).bind fun x1 => (if x1 = true then ((z79 people).bind fun x3 => (if x3 = true then (gd (ok64 ((n.tasks.length : Int) - 1)) ((z05 t 0 ((n.tasks.length : Int) - 1)).bind fun x6 => (if x6 = true then (z35 n people did busy t z7j FUEL 1 ([] : List Int)) else (some ([] : List Int))))) else (some ([] : List Int)))) else (some ([] : List Int)))
def z0d : Con := ⟨77, [.v (.s .net) false, .v (.sl .I) false, .v (.sl (.s .did)) false, .v (.sl (.s .item)) false, .v .I false], [((.sl .I), true)], [], fun x => z3b x.1 x.2.1 x.2.2.1 x.2.2.2.1 x.2.2.2.2.1⟩
def y9c : Fs := ⟨[z1r, z2o, z0m, z2m, z2l], [], []⟩
theorem zg4 : y9c.Ok Try.prog := (fsK z9e (fsK y2m (fsK z0x (fsK yb1 (fsK yb0 fs0)))))
def ze4 : Tmpl := ⟨[(1, .c (.s .I)), (2, .c (.s (.s .did))), (3, .c (.s (.s .item))), (4, .c .i), (5, .c (.bx 5 0)), (11, .c (.ref 15)), (12, .c .i), (13, .c .b), (14, .c .i)], [(5, .boxT (.s .net)), (15, .arr .I true)]⟩
def z9l : Tmpl := ⟨[(1, .c (.s .I)), (2, .c (.s (.s .did))), (3, .c (.s (.s .item))), (4, .c .i), (5, .c (.bx 5 0)), (11, .c (.ref 15)), (12, .c .i), (13, .c .b)], [(5, .boxT (.s .net)), (15, .arr .I true)]⟩
def y11 (av : AV) (x : HP z0d.ps) (n : Nat) (v : ze4.den) (K : Ks (CR z0d)) : Option (CR z0d) := z18 v.2.1 v.1.2.2.1 v.1.2.2.2.1 v.1.2.2.2.2.2.2.1 (fun s1_0 => z9l.at none ((v.1.1, v.1.2.1, v.1.2.2.1, v.1.2.2.2.1, (), (), v.1.2.2.2.2.2.2.1, s1_0, ()), (v.2.1, v.2.2.1, ())) (K (.exit 2))) n v.1.2.2.2.2.2.2.2.1 v.1.2.2.2.2.2.2.2.2.1
def zb9 (av : AV) (x : HP z0d.ps) : Hdl (CR z0d) := hnd [] ze4 (y11 av x)
theorem y1k : LP z0d Try.f77 [0, 0] zb9 := lp_ok (W := []) (H := []) (xs := [z9l]) zg4 trivial rfl (fun av x v K => by kernel_rfl) (fun av x n v K => by kernel_rfl)
def zq7 : Tmpl := ⟨[(1, .c (.s .I)), (2, .c (.s (.s .did))), (3, .c (.s (.s .item))), (4, .c .i), (5, .c (.bx 5 0)), (11, .c (.ref 15)), (12, .c .i)], [(5, .boxT (.s .net)), (15, .arr .I true)]⟩
def zl3 : Tmpl := ⟨[(11, .c (.ref 15))], [(15, .arr .I true)]⟩
def y4b (av : AV) (x : HP z0d.ps) (n : Nat) (v : zq7.den) (K : Ks (CR z0d)) : Option (CR z0d) := z35 v.2.1 v.1.1 v.1.2.1 v.1.2.2.1 v.1.2.2.2.1 (fun l0_1 => zl3.at none (((), ()), (l0_1, ())) (K (.exit 0))) n v.1.2.2.2.2.2.2.1 v.2.2.1
def zn5 (av : AV) (x : HP z0d.ps) : Hdl (CR z0d) := hnd [] zq7 (y4b av x)
theorem y5b : LP z0d Try.f77 [0] zn5 := lp_ok (W := []) (H := [zb9]) (xs := [zl3]) zg4 ⟨y1k, trivial⟩ rfl (fun av x v K => by kernel_rfl) (fun av x n v K => by kernel_rfl)
theorem zh5 : z0d.Ok Try.prog := fn_ok (k := z0d) (fn := Try.f77) (W := []) (H := [zn5]) Try.func77 zg4 ⟨y5b, trivial⟩ rfl rfl (fun av x => by kernel_rfl)
def z85 (n : GNet) (data : List Int) : Option GCase := (z2d n).bind fun x1 => (if x1 = true then ((z3t data).bind fun x3 => (if x3 = true then (gd ((0 : Int) ≤ n.places ∧ n.places ≤ (1000000000 : Int)) (gd (([] : List Int).length + data.length ≤ SMALL) ((getI (List.replicate n.places.toNat (0 : Int)) 0).bind fun x7 => (some (GCase.mk 1 ((List.replicate n.places.toNat (0 : Int)).set (0 : Int).toNat 1) [] (([] : List Int) ++ data) []))))) else (some (GCase.mk 0 [] [] [] [])))) else (some (GCase.mk 0 [] [] [] [])))
def zg7 : Con := ⟨100, [.v (.s .net) false, .v (.sl .I) false], [((.s .kase), true)], [], fun x => z85 x.1 x.2.1⟩
def y97 : Fs := ⟨[z1r, z1b], [], []⟩
theorem y9n : y97.Ok Try.prog := (fsK z9e (fsK z7c fs0))
theorem ya8 : zg7.Ok Try.prog := fn_ok (k := zg7) (fn := Try.f100) (W := []) (H := []) Try.func100 y9n trivial rfl rfl (fun av x => by kernel_rfl)
def z5w (c : GCase) : Option Bool := if decide (c.state = 1) = true then ((getI c.marks 1).bind fun x20 => (some (decide (x20 = 0)))) else (if decide ((c.busy.length : Int) = 0) = true then ((getI c.marks 1).bind fun x22 => (some ((decide (c.state = 2)) == (decide (0 < x22))))) else (some false))
def z3l (n : GNet) (c : GCase) (kx0_0 : Option Bool) : Nat → Int → Option Bool
  | 0, _ => none
  | n0 + 1, s0_0 => if decide (s0_0 < (c.did.length : Int)) = true then ((getI c.did s0_0).bind fun x11 => (gd (ok64 ((n.tasks.length : Int) - 1)) ((z05 x11.task 0 ((n.tasks.length : Int) - 1)).bind fun x13 => (if x13 = true then ((getI c.did s0_0).bind fun x15 => ((z05 x15.who 1 4).bind fun x16 => (if x16 = true then (gd (ok64 (s0_0 + 1)) ((z3l n c kx0_0 n0) (s0_0 + 1))) else (some false)))) else (some false))))) else (kx0_0)
def z5i (n : GNet) (c : GCase) : Option Bool := (z4g n c.marks).bind fun x1 => (if x1 = true then ((z6d n c.busy).bind fun x3 => (if x3 = true then ((z3t c.data).bind fun x5 => (if x5 = true then (if decide (60 < (c.did.length : Int)) = true then (some false) else ((z05 c.state 1 3).bind fun x8 => (if x8 = true then (z3l n c (z5w c) FUEL 0) else (some false)))) else (some false))) else (some false))) else (some false))
def z29 : Con := ⟨14, [.v (.s .net) false, .v (.s .kase) false], [(.B, true)], [], fun x => z5i x.1 x.2.1⟩
def yg2 : Fs := ⟨[z1q, z27, z1b, z0m], [], []⟩
theorem y27 : yg2.Ok Try.prog := (fsK z9d (fsK y0g (fsK z7c (fsK z0x fs0))))
def zw5 : Tmpl := ⟨[(2, .c (.bx 2 0)), (3, .c (.bx 3 0)), (5, .c .i)], [(2, .boxT (.s .net)), (3, .boxT (.s .kase))]⟩
def zr2 : Tmpl := ⟨[(3, .c (.bx 3 0))], [(3, .boxT (.s .kase))]⟩
def y6i (av : AV) (x : HP z29.ps) (n : Nat) (v : zw5.den) (K : Ks (CR z29)) : Option (CR z29) := z3l v.2.1 v.2.2.1 (zr2.at none (((), ()), (v.2.2.1, ())) (K (.exit 0))) n v.1.2.2.1
def zu9 (av : AV) (x : HP z29.ps) : Hdl (CR z29) := hnd [] zw5 (y6i av x)
theorem y7k : LP z29 Try.f14 [0] zu9 := lp_ok (W := []) (H := []) (xs := [zr2]) y27 trivial rfl (fun av x v K => by kernel_rfl) (fun av x n v K => by kernel_rfl)
theorem zp5 : z29.Ok Try.prog := fn_ok (k := z29) (fn := Try.f14) (W := []) (H := [zu9]) Try.func14 y27 ⟨y7k, trivial⟩ rfl rfl (fun av x => by kernel_rfl)
def z4s (c : GCase) : Option GCase := gd (([] : List Int).length + c.marks.length ≤ SMALL) (gd (([] : List GItem).length + c.busy.length ≤ SMALL) (gd (([] : List Int).length + c.data.length ≤ SMALL) (gd (([] : List GDid).length + c.did.length ≤ SMALL) (some (GCase.mk c.state (([] : List Int) ++ c.marks) (([] : List GItem) ++ c.busy) (([] : List Int) ++ c.data) (([] : List GDid) ++ c.did))))))
def z82 : Con := ⟨69, [.v (.s .kase) false], [((.s .kase), true)], [], fun x => z4s x.1⟩
def y9i : Fs := ⟨[], [], []⟩
theorem y9t : y9i.Ok Try.prog := fs0
theorem y0h : z82.Ok Try.prog := fn_ok (k := z82) (fn := Try.f69) (W := []) (H := []) Try.func69 y9t trivial rfl rfl (fun av x => by kernel_rfl)
def z2y (n : GNet) (people : List Int) (c : GCase) (t : Int) (who : Int) : Option (GCase × Bool) := (z4s c).bind fun x1 => ((z5i n c).bind fun x2 => (if x2 = true then (if decide (c.state = 1) = true then ((z5z n c.marks c.busy t).bind fun x5 => (if x5 = true then ((z3b n people c.did c.busy t).bind fun x7 => ((z5k x7 who).bind fun x8 => (if x8 = true then (if decide ((c.busy.length : Int) = 6) = true then (some (x1, false)) else ((z70 n c.marks t).bind fun x11 => (gd (x1.busy.length + [(GItem.mk t who 0)].length ≤ SMALL) (some ((GCase.mk x1.state x11 (x1.busy ++ [(GItem.mk t who 0)]) x1.data x1.did), true))))) else (some (x1, false))))) else (some (x1, false)))) else (some (x1, false))) else (some (x1, false))))
def z5r : Con := ⟨112, [.v (.s .net) false, .v (.sl .I) false, .v (.s .kase) false, .v .I false, .v .I false], [((.s .kase), true), (.B, true)], [], fun x => z2y x.1 x.2.1 x.2.2.1 x.2.2.2.1 x.2.2.2.2.1⟩
def y4n : Fs := ⟨[z82, z29, z80, z0d, z2a, z22], [], []⟩
theorem y52 : y4n.Ok Try.prog := (fsK y0h (fsK zp5 (fsK y0e (fsK zh5 (fsK zp8 (fsK y7z fs0))))))
theorem zp6 : z5r.Ok Try.prog := fn_ok (k := z5r) (fn := Try.f112) (W := []) (H := []) Try.func112 y52 trivial rfl rfl (fun av x => by kernel_rfl)
def z4z (n : GNet) (c : GCase) (k : Int) (v : Int) (num : Int) : Option (GCase × Bool) := (z4s c).bind fun x1 => ((z5i n c).bind fun x2 => (if x2 = true then (if decide (c.state = 1) = true then (gd (ok64 ((c.busy.length : Int) - 1)) ((z05 k 0 ((c.busy.length : Int) - 1)).bind fun x6 => (if x6 = true then ((z05 v (-1) 2).bind fun x8 => (if x8 = true then ((z05 num (-99) 99).bind fun x10 => (if x10 = true then (if decide ((c.did.length : Int) = 60) = true then (some (x1, false)) else ((getI c.busy k).bind fun x13 => ((z86 c.data v num).bind fun x14 => (gd (ok64 (x13.did + 1)) ((getI x1.busy k).bind fun x16 => (gd (ok64 (x13.did + 1)) ((getI n.tasks x13.task).bind fun x18 => (if decide ((x13.did + 1) < x18.need) = true then (some ((GCase.mk x1.state x1.marks (x1.busy.set k.toNat (GItem.mk x16.task x16.who (x13.did + 1))) x14 x1.did), true)) else ((z71 n c.marks x13.task x14).bind fun x20 => (if x20.2 = true then (gd ((0 : Int) ≤ k ∧ k ≤ (c.busy.length : Int)) (gd (([] : List GItem).length + (c.busy.take k.toNat).length ≤ SMALL) (gd (ok64 (k + 1)) (gd ((0 : Int) ≤ (k + 1) ∧ (k + 1) ≤ (c.busy.length : Int)) (gd ((([] : List GItem) ++ (c.busy.take k.toNat)).length + (c.busy.drop (k + 1).toNat).length ≤ SMALL) (gd (x1.did.length + [(GDid.mk x13.task x13.who)].length ≤ SMALL) ((getI x20.1 1).bind fun x28 => (if decide (0 < x28) = true then (some ((GCase.mk 2 x20.1 ([] : List GItem) x14 (x1.did ++ [(GDid.mk x13.task x13.who)])), true)) else (some ((GCase.mk x1.state x20.1 ((([] : List GItem) ++ (c.busy.take k.toNat)) ++ (c.busy.drop (k + 1).toNat)) x14 (x1.did ++ [(GDid.mk x13.task x13.who)])), true)))))))))) else ((z4s c).bind fun x30 => (some (x30, false))))))))))))) else (some (x1, false)))) else (some (x1, false)))) else (some (x1, false))))) else (some (x1, false))) else (some (x1, false))))
def z6x : Con := ⟨25, [.v (.s .net) false, .v (.s .kase) false, .v .I false, .v .I false, .v .I false], [((.s .kase), true), (.B, true)], [], fun x => z4z x.1 x.2.1 x.2.2.1 x.2.2.2.1 x.2.2.2.2.1⟩
def y6y : Fs := ⟨[z82, z29, z0m, zg8, z0f], [], []⟩
theorem y7f : y6y.Ok Try.prog := (fsK y0h (fsK zp5 (fsK z0x (fsK ya9 (fsK y80 fs0)))))
theorem zv9 : z6x.Ok Try.prog := fn_ok (k := z6x) (fn := Try.f25) (W := []) (H := []) Try.func25 y7f trivial rfl rfl (fun av x => by kernel_rfl)
def z07 (c : GCase) : Option GCase := (z33 c.marks).bind fun x1 => (gd (([] : List GItem).length + c.busy.length ≤ SMALL) ((z33 c.data).bind fun x3 => (gd (([] : List GDid).length + c.did.length ≤ SMALL) (some (GCase.mk c.state x1 (([] : List GItem) ++ c.busy) x3 (([] : List GDid) ++ c.did))))))
def z4v : Con := ⟨57, [.v (.s .kase) false], [((.s .kase), true)], [], fun x => z07 x.1⟩
def zs9 : Fs := ⟨[z58], [], []⟩
theorem zt3 : zs9.Ok Try.prog := (fsK zj7 fs0)
theorem zt6 : z4v.Ok Try.prog := fn_ok (k := z4v) (fn := Try.f57) (W := []) (H := []) Try.func57 zt3 trivial rfl rfl (fun av x => by kernel_rfl)
def zj2  : Option Int := some (-1)
def z32 (s : List Int) (p : Int → Option Bool) (p0_0 : Int) (kx0_0 : Option Int) : Nat → Int → Option Int
  | 0, _ => none
  | n0 + 1, s0_0 => if decide (s0_0 < p0_0) = true then ((getI s s0_0).bind fun x2 => ((p x2).bind fun x3 => (if x3 = true then (some s0_0) else (gd (ok64 (s0_0 + 1)) ((z32 s p p0_0 kx0_0 n0) (s0_0 + 1)))))) else (kx0_0)
def z83 (s : List Int) (p : Int → Option Bool) : Option Int := z32 s p (s.length : Int) zj2 FUEL 0
def z20 : Con := ⟨111, [.v (.sl .I) false, .fn .I], [(.I, true)], [], fun x => z83 x.1 x.2.1⟩
def y94 : Fs := ⟨[], [], []⟩
theorem y00 : y94.Ok Try.prog := fs0
def zq4 : Tmpl := ⟨[(0, .c (.s .I)), (1, .c .fp), (7, .c .i), (8, .c .i)], []⟩
def zl0 : Tmpl := ⟨[], []⟩
def y48 (av : AV) (x : HP z20.ps) (n : Nat) (v : zq4.den) (K : Ks (CR z20)) : Option (CR z20) := z32 v.1.1 x.2.1 v.1.2.2.1 (zl0.at (fpOf z20.ps x av) ((), ()) (K (.exit 0))) n v.1.2.2.2.1
def zn2 (av : AV) (x : HP z20.ps) : Hdl (CR z20) := hnd [] zq4 (y48 av x)
theorem y58 : LP z20 Try.f111 [0] zn2 := lp_ok (W := []) (H := []) (xs := [zl0]) y00 trivial rfl (fun av x v K => by kernel_rfl) (fun av x n v K => by kernel_rfl)
theorem ya5 : z20.Ok Try.prog := fn_ok (k := z20) (fn := Try.f111) (W := []) (H := [zn2]) Try.func111 y00 ⟨y58, trivial⟩ rfl rfl (fun av x => by kernel_rfl)
def z40 (s : List Int) (p : Int → Option Bool) : Option Bool := (z83 s p).bind fun x1 => (some (decide (0 ≤ x1)))
def z57 : Con := ⟨62, [.v (.sl .I) false, .fn .I], [(.B, true)], [], fun x => z40 x.1 x.2.1⟩
def y37 : Fs := ⟨[z20], [], []⟩
theorem y3b : y37.Ok Try.prog := (fsK ya5 fs0)
theorem zj6 : z57.Ok Try.prog := fn_ok (k := z57) (fn := Try.f62) (W := []) (H := []) Try.func62 y3b trivial rfl rfl (fun av x => by kernel_rfl)
def z7p  : Option Int := some (-1)
def z1p (s : List GTask) (p : GTask → Option Bool) (p0_0 : Int) (kx0_0 : Option Int) : Nat → Int → Option Int
  | 0, _ => none
  | n0 + 1, s0_0 => if decide (s0_0 < p0_0) = true then ((getI s s0_0).bind fun x2 => ((p x2).bind fun x3 => (if x3 = true then (some s0_0) else (gd (ok64 (s0_0 + 1)) ((z1p s p p0_0 kx0_0 n0) (s0_0 + 1)))))) else (kx0_0)
def z4k (s : List GTask) (p : GTask → Option Bool) : Option Int := z1p s p (s.length : Int) z7p FUEL 0
def z0o : Con := ⟨141, [.v (.sl (.s .task)) false, .fn (.s .task)], [(.I, true)], [], fun x => z4k x.1 x.2.1⟩
def y18 : Fs := ⟨[], [], []⟩
theorem zb4 : y18.Ok Try.prog := fs0
def z8p : Tmpl := ⟨[(0, .c (.s (.s .task))), (1, .c .fp), (7, .c .i), (8, .c .i)], []⟩
def z7s : Tmpl := ⟨[], []⟩
def zx2 (av : AV) (x : HP z0o.ps) (n : Nat) (v : z8p.den) (K : Ks (CR z0o)) : Option (CR z0o) := z1p v.1.1 x.2.1 v.1.2.2.1 (z7s.at (fpOf z0o.ps x av) ((), ()) (K (.exit 0))) n v.1.2.2.2.1
def z8f (av : AV) (x : HP z0o.ps) : Hdl (CR z0o) := hnd [] z8p (zx2 av x)
theorem zy2 : LP z0o Try.f141 [0] z8f := lp_ok (W := []) (H := []) (xs := [z7s]) zb4 trivial rfl (fun av x v K => by kernel_rfl) (fun av x n v K => by kernel_rfl)
theorem y1s : z0o.Ok Try.prog := fn_ok (k := z0o) (fn := Try.f141) (W := []) (H := [z8f]) Try.func141 zb4 ⟨zy2, trivial⟩ rfl rfl (fun av x => by kernel_rfl)
def z3g (s : List GTask) (p : GTask → Option Bool) : Option Bool := (z4k s p).bind fun x1 => (some (decide (0 ≤ x1)))
def z4u : Con := ⟨107, [.v (.sl (.s .task)) false, .fn (.s .task)], [(.B, true)], [], fun x => z3g x.1 x.2.1⟩
def zs8 : Fs := ⟨[z0o], [], []⟩
theorem zt2 : zs8.Ok Try.prog := (fsK y1s fs0)
theorem zt5 : z4u.Ok Try.prog := fn_ok (k := z4u) (fn := Try.f107) (W := []) (H := []) Try.func107 zt2 trivial rfl rfl (fun av x => by kernel_rfl)
def y2i  : Option Int := some (-1)
def z5f (s : List Int) (v : Int) (p0_0 : Int) (kx0_0 : Option Int) : Nat → Int → Option Int
  | 0, _ => none
  | n0 + 1, s0_0 => if decide (s0_0 < p0_0) = true then ((getI s s0_0).bind fun x2 => (if decide (v = x2) = true then (some s0_0) else (gd (ok64 (s0_0 + 1)) ((z5f s v p0_0 kx0_0 n0) (s0_0 + 1))))) else (kx0_0)
def y0b (s : List Int) (v : Int) : Option Int := z5f s v (s.length : Int) y2i FUEL 0
def z5p : Con := ⟨124, [.v (.sl .I) false, .v .I false], [(.I, true)], [], fun x => y0b x.1 x.2.1⟩
def w0o : Fs := ⟨[], [], []⟩
theorem yh4 : w0o.Ok Try.prog := fs0
def y6b : Tmpl := ⟨[(0, .c (.s .I)), (1, .c .i), (7, .c .i), (8, .c .i)], []⟩
def y2t : Tmpl := ⟨[], []⟩
def yo1 (av : AV) (x : HP z5p.ps) (n : Nat) (v : y6b.den) (K : Ks (CR z5p)) : Option (CR z5p) := z5f v.1.1 v.1.2.1 v.1.2.2.1 (y2t.at none ((), ()) (K (.exit 0))) n v.1.2.2.2.1
def y55 (av : AV) (x : HP z5p.ps) : Hdl (CR z5p) := hnd [] y6b (yo1 av x)
theorem yp3 : LP z5p Try.f124 [0] y55 := lp_ok (W := []) (H := []) (xs := [y2t]) yh4 trivial rfl (fun av x v K => by kernel_rfl) (fun av x n v K => by kernel_rfl)
theorem w1o : z5p.Ok Try.prog := fn_ok (k := z5p) (fn := Try.f124) (W := []) (H := [y55]) Try.func124 yh4 ⟨yp3, trivial⟩ rfl rfl (fun av x => by kernel_rfl)
def z93 (s : List Int) (v : Int) : Option Bool := (y0b s v).bind fun x1 => (some (decide (0 ≤ x1)))
def zo0 : Con := ⟨79, [.v (.sl .I) false, .v .I false], [(.B, true)], [], fun x => z93 x.1 x.2.1⟩
def yf5 : Fs := ⟨[z5p], [], []⟩
theorem yh3 : yf5.Ok Try.prog := (fsK w1o fs0)
theorem yj8 : zo0.Ok Try.prog := fn_ok (k := zo0) (fn := Try.f79) (W := []) (H := []) Try.func79 yh3 trivial rfl rfl (fun av x => by kernel_rfl)
def za0 (n : Int) : Option Bool := (z44 n).bind fun x1 => (some (!x1))
def za4 : FCon := ⟨63, .I, [], fun z c => za0 z ⟩
def y6r : Fs := ⟨[z4x], [], []⟩
theorem y7a : y6r.Ok Try.prog := (fsK za3 fs0)
theorem y7t : za4.Ok Try.prog := FCon.ok (fn_ok (k := za4.con) (fn := Try.f63) (W := []) (H := []) Try.func63 y7a trivial rfl rfl (fun av x => by kernel_rfl))
def z5g (data : List Int) : Option Bool := if decide ((data.length : Int) = 3) = true then ((z40 data (fun z => za0 z )).bind fun x2 => (some (!x2))) else (some false)
def z77 : Con := ⟨19, [.v (.sl .I) false], [(.B, true)], [], fun x => z5g x.1⟩
def yf7 : Fs := ⟨[z57], [za4], []⟩
theorem yh5 : yf7.Ok Try.prog := (fsK zj6 (fsF y7t fs0))
theorem zp3 : z77.Ok Try.prog := fn_ok (k := z77) (fn := Try.f19) (W := []) (H := []) Try.func19 yh5 trivial rfl rfl (fun av x => by kernel_rfl)
def z5u (e : GAsk) (data : List Int) : Option Bool := (z5h e).bind fun x1 => (if x1 = true then ((z5g data).bind fun x3 => (if x3 = true then (if decide (e.op = 1) = true then ((getI data e.var).bind fun x6 => (some (decide (x6 < e.k)))) else (if decide (e.op = 2) = true then ((getI data e.var).bind fun x8 => (some (decide (x8 = e.k)))) else (if decide (e.op = 3) = true then ((getI data e.var).bind fun x10 => (some (decide (e.k < x10)))) else (some true)))) else (some false))) else (some false))
def z8j : Con := ⟨73, [.v (.s .ask) false, .v (.sl .I) false], [(.B, true)], [], fun x => z5u x.1 x.2.1⟩
def y4l : Fs := ⟨[z90, z77], [], []⟩
theorem y50 : y4l.Ok Try.prog := (fsK y2j (fsK zp3 fs0))
theorem y5g : z8j.Ok Try.prog := fn_ok (k := z8j) (fn := Try.f73) (W := []) (H := []) Try.func73 y50 trivial rfl rfl (fun av x => by kernel_rfl)
def zc7  : Option Bool := some true
def z2r (list : List Int) (places : Int) (without : List Int) (p0_0 : Int) (kx0_0 : Option Bool) : Nat → Int → Int → Option Bool
  | 0, _, _ => none
  | n0 + 1, s0_0, s0_1 => if decide (s0_0 < p0_0) = true then ((getI list s0_0).bind fun x2 => (gd (ok64 (s0_1 + 1)) (gd (ok64 (places - 1)) ((z0s x2 (s0_1 + 1) (places - 1)).bind fun x5 => (if x5 = true then ((z93 without x2).bind fun x7 => (if x7 = true then (some false) else (gd (ok64 (s0_0 + 1)) ((z2r list places without p0_0 kx0_0 n0) (s0_0 + 1) x2)))) else (some false)))))) else (kx0_0)
def z4y (list : List Int) (places : Int) (without : List Int) : Option Bool := z2r list places without (list.length : Int) zc7 FUEL 0 (-1)
def z21 : Con := ⟨143, [.v (.sl .I) false, .v .I false, .v (.sl .I) false], [(.B, true)], [], fun x => z4y x.1 x.2.1 x.2.2.1⟩
def y6u : Fs := ⟨[z2w, zo0], [], []⟩
theorem zu0 : y6u.Ok Try.prog := (fsK z3s (fsK yj8 fs0))
def zk0 : Tmpl := ⟨[(1, .c .i), (2, .c (.s .I)), (7, .c .i), (10, .c (.s .I)), (11, .c .i), (12, .c .i)], []⟩
def zf3 : Tmpl := ⟨[], []⟩
def y2w (av : AV) (x : HP z21.ps) (n : Nat) (v : zk0.den) (K : Ks (CR z21)) : Option (CR z21) := z2r v.1.2.2.2.1 v.1.1 v.1.2.1 v.1.2.2.2.2.1 (zf3.at none ((), ()) (K (.exit 0))) n v.1.2.2.2.2.2.1 v.1.2.2.1
def zi2 (av : AV) (x : HP z21.ps) : Hdl (CR z21) := hnd [] zk0 (y2w av x)
theorem y3h : LP z21 Try.f143 [0] zi2 := lp_ok (W := []) (H := []) (xs := [zf3]) zu0 trivial rfl (fun av x v K => by kernel_rfl) (fun av x n v K => by kernel_rfl)
theorem y7w : z21.Ok Try.prog := fn_ok (k := z21) (fn := Try.f143) (W := []) (H := [zi2]) Try.func143 zu0 ⟨y3h, trivial⟩ rfl rfl (fun av x => by kernel_rfl)
def z3v (t : GTask) : Option Bool := (z0s (t.out.length : Int) 1 3).bind fun x21 => (some x21)
def z0n (t : GTask) (places : Int) (p0_0 : List GFlow) (p0_1 : Int) (kx0_0 : Option Bool) : Nat → Int → List Int → Option Bool
  | 0, _, _ => none
  | n0 + 1, s0_0, m0_1 => if decide (s0_0 < p0_1) = true then ((getI p0_0 s0_0).bind fun x2 => (if decide (t.split = 1) = true then (gd (ok64 (places - 1)) ((z0s x2.to 0 (places - 1)).bind fun x5 => (if x5 = true then (if decide (x2.to ∈ m0_1) = true then (some false) else ((z5h x2.if_).bind fun x8 => (if x8 = true then (if ((decide (x2.if_.op = 0)) == true) = true then (gd (ok64 (s0_0 + 1)) ((z0n t places p0_0 p0_1 kx0_0 n0) (s0_0 + 1) (insKey m0_1 x2.to))) else (some false)) else (some false)))) else (some false)))) else (gd (ok64 ((t.out.length : Int) - 1)) (gd (ok64 (places - 1)) ((z0s x2.to 0 (places - 1)).bind fun x14 => (if x14 = true then (if decide (x2.to ∈ m0_1) = true then (some false) else ((z5h x2.if_).bind fun x17 => (if x17 = true then (if ((decide (x2.if_.op = 0)) == (decide (s0_0 = ((t.out.length : Int) - 1)))) = true then (gd (ok64 (s0_0 + 1)) ((z0n t places p0_0 p0_1 kx0_0 n0) (s0_0 + 1) (insKey m0_1 x2.to))) else (some false)) else (some false)))) else (some false))))))) else (kx0_0)
def z3i (t : GTask) (places : Int) : Option Bool := z0n t places t.out (t.out.length : Int) (z3v t) FUEL 0 (insKey ([] : List Int) 0)
def z0i : Con := ⟨144, [.v (.s .task) false, .v .I false], [(.B, true)], [], fun x => z3i x.1 x.2.1⟩
def zt1 : Fs := ⟨[z2w, z90], [], []⟩
theorem z7m : zt1.Ok Try.prog := (fsK z3s (fsK y2j fs0))
def z6p : Tmpl := ⟨[(1, .c .i), (2, .c (.bx 2 0)), (5, .c (.bx 9 0)), (12, .c (.s (.s .flow))), (13, .c .i), (14, .c .i)], [(2, .boxT (.s .task)), (9, .mp)]⟩
def z6k : Tmpl := ⟨[(2, .c (.bx 2 0))], [(2, .boxT (.s .task))]⟩
def zl7 (av : AV) (x : HP z0i.ps) (n : Nat) (v : z6p.den) (K : Ks (CR z0i)) : Option (CR z0i) := z0n v.2.1 v.1.1 v.1.2.2.2.1 v.1.2.2.2.2.1 (z6k.at none (((), ()), (v.2.1, ())) (K (.exit 0))) n v.1.2.2.2.2.2.1 v.2.2.1
def z6m (av : AV) (x : HP z0i.ps) : Hdl (CR z0i) := hnd [] z6p (zl7 av x)
theorem zl9 : LP z0i Try.f144 [0] z6m := lp_ok (W := []) (H := []) (xs := [z6k]) z7m trivial rfl (fun av x v K => by kernel_rfl) (fun av x n v K => by kernel_rfl)
theorem zt8 : z0i.Ok Try.prog := fn_ok (k := z0i) (fn := Try.f144) (W := []) (H := [z6m]) Try.func144 z7m ⟨zl9, trivial⟩ rfl rfl (fun av x => by kernel_rfl)
def z4n (t : GTask) (places : Int) (tasks : Int) : Option Bool := (z84 t.join).bind fun x1 => (if x1 = true then ((z84 t.split).bind fun x3 => (if x3 = true then ((z0s (t.in_.length : Int) 1 3).bind fun x5 => (if x5 = true then ((z4y t.in_ places [1]).bind fun x7 => (if x7 = true then ((z3i t places).bind fun x9 => (if x9 = true then ((z4y t.clear places [0, 1]).bind fun x11 => (if x11 = true then ((zh2 t.role).bind fun x13 => (if x13 = true then (gd (ok64 (tasks - 1)) ((z0s t.apart (-1) (tasks - 1)).bind fun x16 => (if x16 = true then ((z0s t.all 1 3).bind fun x18 => (if x18 = true then ((z0s t.need 1 t.all).bind fun x20 => (some x20)) else (some false))) else (some false)))) else (some false))) else (some false))) else (some false))) else (some false))) else (some false))) else (some false))) else (some false))
def z6u : Con := ⟨109, [.v (.s .task) false, .v .I false, .v .I false], [(.B, true)], [], fun x => z4n x.1 x.2.1 x.2.2.1⟩
def y19 : Fs := ⟨[zg5, z2w, z21, z0i, zg6], [], []⟩
theorem y1e : y19.Ok Try.prog := (fsK ya6 (fsK z3s (fsK y7w (fsK zt8 (fsK ya7 fs0)))))
theorem y1t : z6u.Ok Try.prog := fn_ok (k := z6u) (fn := Try.f109) (W := []) (H := []) Try.func109 y1e trivial rfl rfl (fun av x => by kernel_rfl)
def za1 (t : GTask) (n : GNet) : Option Bool := (z4n t n.places (n.tasks.length : Int)).bind fun x1 => (some (!x1))
def za5 : FCon := ⟨108, (.s .task), [(.s .net)], fun z c => za1 z c.1⟩
def y6t : Fs := ⟨[z6u], [], []⟩
theorem y7b : y6t.Ok Try.prog := (fsK y1t fs0)
theorem y7v : za5.Ok Try.prog := FCon.ok (fn_ok (k := za5.con) (fn := Try.f108) (W := []) (H := []) Try.func108 y7b trivial rfl rfl (fun av x => by kernel_rfl))
def z95 (n : GNet) : Option Bool := (za2 n.places (n.tasks.length : Int)).bind fun x1 => (if x1 = true then ((z3g n.tasks (fun z => za1 z n)).bind fun x3 => (some (!x3))) else (some false))
def zo1 : Con := ⟨60, [.v (.s .net) false], [(.B, true)], [], fun x => z95 x.1⟩
def yg0 : Fs := ⟨[z9x, z4u], [za5], []⟩
theorem yh8 : yg0.Ok Try.prog := (fsK y7y (fsK zt5 (fsF y7v fs0)))
theorem yk0 : zo1.Ok Try.prog := fn_ok (k := zo1) (fn := Try.f60) (W := []) (H := []) Try.func60 yh8 trivial rfl rfl (fun av x => by kernel_rfl)
def z3u (m : Int) : Option Bool := (z0s m 0 4).bind fun x1 => (some (!x1))
def z3x : FCon := ⟨110, .I, [], fun z c => z3u z ⟩
def zg2 : Fs := ⟨[z2w], [], []⟩
theorem zg3 : zg2.Ok Try.prog := (fsK z3s fs0)
theorem zh4 : z3x.Ok Try.prog := FCon.ok (fn_ok (k := z3x.con) (fn := Try.f110) (W := []) (H := []) Try.func110 zg3 trivial rfl rfl (fun av x => by kernel_rfl))
def z2b (n : GNet) (marks : List Int) : Option Bool := if decide ((marks.length : Int) = n.places) = true then ((z40 marks (fun z => z3u z )).bind fun x2 => (some (!x2))) else (some false)
def z38 : Con := ⟨61, [.v (.s .net) false, .v (.sl .I) false], [(.B, true)], [], fun x => z2b x.1 x.2.1⟩
def zm4 : Fs := ⟨[z57], [z3x], []⟩
theorem zm7 : zm4.Ok Try.prog := (fsK zj6 (fsF zh4 fs0))
theorem z7b : z38.Ok Try.prog := fn_ok (k := z38) (fn := Try.f61) (W := []) (H := []) Try.func61 zm7 trivial rfl rfl (fun av x => by kernel_rfl)
def z78 (n : GNet) (marks : List Int) : Option Bool := (z95 n).bind fun x1 => (if x1 = true then ((z2b n marks).bind fun x3 => (some x3)) else (some false))
def z91 : Con := ⟨18, [.v (.s .net) false, .v (.sl .I) false], [(.B, true)], [], fun x => z78 x.1 x.2.1⟩
def yf9 : Fs := ⟨[zo1, z38], [], []⟩
theorem yh7 : yf9.Ok Try.prog := (fsK yk0 (fsK z7b fs0))
theorem y2k : z91.Ok Try.prog := fn_ok (k := z91) (fn := Try.f18) (W := []) (H := []) Try.func18 yh7 trivial rfl rfl (fun av x => by kernel_rfl)
def z5v (busy : List GItem) : Option Bool := some (decide ((busy.length : Int) ≤ 6))
def z0z (n : GNet) (p0_0 : List GItem) (p0_1 : Int) (kx0_0 : Option Bool) : Nat → Int → Option Bool
  | 0, _ => none
  | n0 + 1, s0_0 => if decide (s0_0 < p0_1) = true then ((getI p0_0 s0_0).bind fun x2 => ((z0l n x2.task).bind fun x3 => (if x3 = true then ((z4d x2.who).bind fun x5 => (if x5 = true then ((getI n.tasks x2.task).bind fun x7 => (gd (ok64 (x7.need - 1)) ((z0s x2.did 0 (x7.need - 1)).bind fun x9 => (if x9 = true then (gd (ok64 (s0_0 + 1)) ((z0z n p0_0 p0_1 kx0_0 n0) (s0_0 + 1))) else (some false))))) else (some false))) else (some false)))) else (kx0_0)
def z3h (n : GNet) (busy : List GItem) : Option Bool := z0z n busy (busy.length : Int) (z5v busy) FUEL 0
def z0h : Con := ⟨50, [.v (.s .net) false, .v (.sl (.s .item)) false], [(.B, true)], [], fun x => z3h x.1 x.2.1⟩
def zt0 : Fs := ⟨[z28, z5q, z2w], [], []⟩
theorem z7l : zt0.Ok Try.prog := (fsK z4h (fsK zp4 (fsK z3s fs0)))
def z6o : Tmpl := ⟨[(1, .c (.s (.s .item))), (2, .c (.bx 2 0)), (7, .c (.s (.s .item))), (8, .c .i), (9, .c .i)], [(2, .boxT (.s .net))]⟩
def z6j : Tmpl := ⟨[(1, .c (.s (.s .item)))], []⟩
def zl6 (av : AV) (x : HP z0h.ps) (n : Nat) (v : z6o.den) (K : Ks (CR z0h)) : Option (CR z0h) := z0z v.2.1 v.1.2.2.1 v.1.2.2.2.1 (z6j.at none ((v.1.1, ()), ()) (K (.exit 0))) n v.1.2.2.2.2.1
def z6l (av : AV) (x : HP z0h.ps) : Hdl (CR z0h) := hnd [] z6o (zl6 av x)
theorem zl8 : LP z0h Try.f50 [0] z6l := lp_ok (W := []) (H := []) (xs := [z6j]) z7l trivial rfl (fun av x v K => by kernel_rfl) (fun av x n v K => by kernel_rfl)
theorem zt7 : z0h.Ok Try.prog := fn_ok (k := z0h) (fn := Try.f50) (W := []) (H := [z6l]) Try.func50 z7l ⟨zl8, trivial⟩ rfl rfl (fun av x => by kernel_rfl)
def zo7 (l0_1 : List Int) : Option (List Int) := some l0_1
def z0b (t : GTask) (data : List Int) (p0_0 : List GFlow) (p0_1 : Int) (kx0_0 : List Int → Option (List Int)) : Nat → Int → List Int → Option (List Int)
  | 0, _, _ => none
  | n0 + 1, s0_0, l0_1 => if decide (s0_0 < p0_1) = true then ((getI p0_0 s0_0).bind fun x2 => ((z5u x2.if_ data).bind fun x3 => (if x3 = true then (if decide (t.split = 2) = true then (if decide (0 < (l0_1.length : Int)) = true then (gd (ok64 (s0_0 + 1)) ((z0b t data p0_0 p0_1 kx0_0 n0) (s0_0 + 1) l0_1)) else (if decide (t.split = 3) = true then (gd (ok64 ((t.out.length : Int) - 1)) (if decide (s0_0 = ((t.out.length : Int) - 1)) = true then (if decide (0 < (l0_1.length : Int)) = true then (gd (ok64 (s0_0 + 1)) ((z0b t data p0_0 p0_1 kx0_0 n0) (s0_0 + 1) l0_1)) else (gd (l0_1.length + [x2.to].length ≤ SMALL) (gd (ok64 (s0_0 + 1)) ((z0b t data p0_0 p0_1 kx0_0 n0) (s0_0 + 1) (l0_1 ++ [x2.to]))))) else (gd (l0_1.length + [x2.to].length ≤ SMALL) (gd (ok64 (s0_0 + 1)) ((z0b t data p0_0 p0_1 kx0_0 n0) (s0_0 + 1) (l0_1 ++ [x2.to])))))) else (gd (l0_1.length + [x2.to].length ≤ SMALL) (gd (ok64 (s0_0 + 1)) ((z0b t data p0_0 p0_1 kx0_0 n0) (s0_0 + 1) (l0_1 ++ [x2.to])))))) else (if decide (t.split = 3) = true then (gd (ok64 ((t.out.length : Int) - 1)) (if decide (s0_0 = ((t.out.length : Int) - 1)) = true then (if decide (0 < (l0_1.length : Int)) = true then (gd (ok64 (s0_0 + 1)) ((z0b t data p0_0 p0_1 kx0_0 n0) (s0_0 + 1) l0_1)) else (gd (l0_1.length + [x2.to].length ≤ SMALL) (gd (ok64 (s0_0 + 1)) ((z0b t data p0_0 p0_1 kx0_0 n0) (s0_0 + 1) (l0_1 ++ [x2.to]))))) else (gd (l0_1.length + [x2.to].length ≤ SMALL) (gd (ok64 (s0_0 + 1)) ((z0b t data p0_0 p0_1 kx0_0 n0) (s0_0 + 1) (l0_1 ++ [x2.to])))))) else (gd (l0_1.length + [x2.to].length ≤ SMALL) (gd (ok64 (s0_0 + 1)) ((z0b t data p0_0 p0_1 kx0_0 n0) (s0_0 + 1) (l0_1 ++ [x2.to])))))) else (gd (ok64 (s0_0 + 1)) ((z0b t data p0_0 p0_1 kx0_0 n0) (s0_0 + 1) l0_1))))) else (kx0_0 l0_1)
def z96 (t : GTask) (data : List Int) : Option (List Int) := z0b t data t.out (t.out.length : Int) zo7 FUEL 0 ([] : List Int)
def z39 : Con := ⟨30, [.v (.s .task) false, .v (.sl .I) false], [((.sl .I), true)], [], fun x => z96 x.1 x.2.1⟩
def yg1 : Fs := ⟨[z8j], [], []⟩
theorem y26 : yg1.Ok Try.prog := (fsK y5g fs0)
def zw4 : Tmpl := ⟨[(1, .c (.s .I)), (2, .c (.bx 2 0)), (5, .c (.ref 500005)), (9, .c (.s (.s .flow))), (10, .c .i), (11, .c .i)], [(2, .boxT (.s .task)), (500005, .arr .I true)]⟩
def zr1 : Tmpl := ⟨[(5, .c (.ref 500005))], [(500005, .arr .I true)]⟩
def y6h (av : AV) (x : HP z39.ps) (n : Nat) (v : zw4.den) (K : Ks (CR z39)) : Option (CR z39) := z0b v.2.1 v.1.1 v.1.2.2.2.1 v.1.2.2.2.2.1 (fun l0_1 => zr1.at none (((), ()), (l0_1, ())) (K (.exit 0))) n v.1.2.2.2.2.2.1 v.2.2.1
def zu8 (av : AV) (x : HP z39.ps) : Hdl (CR z39) := hnd [.e 5 500005 .I] zw4 (y6h av x)
theorem y7j : LP z39 Try.f30 [0] zu8 := lp_ok (W := []) (H := []) (xs := [zr1]) y26 trivial rfl (fun av x v K => by kernel_rfl) (fun av x n v K => by kernel_rfl)
theorem yk1 : z39.Ok Try.prog := fn_ok (k := z39) (fn := Try.f30) (W := []) (H := [zu8]) Try.func30 y26 ⟨y7j, trivial⟩ rfl rfl (fun av x => by kernel_rfl)
def z4m (n : GNet) (l1_1 : List Int) : Option ((List Int) × Bool) := (z2b n l1_1).bind fun x21 => (if x21 = true then (some (l1_1, true)) else (some ([], false)))
def z2q (x14 : (List Int)) (p1_0 : Int) (kx1_0 : List Int → Option ((List Int) × Bool)) : Nat → Int → List Int → Option ((List Int) × Bool)
  | 0, _, _ => none
  | n1 + 1, s1_0, l1_1 => if decide (s1_0 < p1_0) = true then ((getI x14 s1_0).bind fun x16 => ((getI l1_1 x16).bind fun x17 => (gd (ok64 (x17 + 1)) ((getI l1_1 x16).bind fun x19 => (gd (ok64 (s1_0 + 1)) ((z2q x14 p1_0 kx1_0 n1) (s1_0 + 1) (l1_1.set x16.toNat (x17 + 1)))))))) else (kx1_0 l1_1)
def z4l (n : GNet) (t : Int) (data : List Int) (l0_1 : List Int) : Option ((List Int) × Bool) := (getI n.tasks t).bind fun x13 => ((z96 x13 data).bind fun x14 => (z2q x14 (x14.length : Int) (z4m n) FUEL 0 l0_1))
def z2p (p0_0 : List Int) (p0_1 : Int) (kx0_0 : List Int → Option ((List Int) × Bool)) : Nat → Int → List Int → Option ((List Int) × Bool)
  | 0, _, _ => none
  | n0 + 1, s0_0, l0_1 => if decide (s0_0 < p0_1) = true then ((getI p0_0 s0_0).bind fun x10 => ((getI l0_1 x10).bind fun x11 => (gd (ok64 (s0_0 + 1)) ((z2p p0_0 p0_1 kx0_0 n0) (s0_0 + 1) (l0_1.set x10.toNat 0))))) else (kx0_0 l0_1)
def z43 (n : GNet) (marks : List Int) (t : Int) (data : List Int) : Option ((List Int) × Bool) := (z78 n marks).bind fun x1 => (if x1 = true then ((z0l n t).bind fun x3 => (if x3 = true then ((z5g data).bind fun x5 => (if x5 = true then ((z33 marks).bind fun x7 => ((getI n.tasks t).bind fun x8 => (z2p x8.clear (x8.clear.length : Int) (z4l n t data) FUEL 0 x7))) else (some ([], false)))) else (some ([], false)))) else (some ([], false)))
def z0e : Con := ⟨29, [.v (.s .net) false, .v (.sl .I) false, .v .I false, .v (.sl .I) false], [((.sl .I), true), (.B, true)], [], fun x => z43 x.1 x.2.1 x.2.2.1 x.2.2.2.1⟩
def y6s : Fs := ⟨[z91, z28, z77, z58, z39, z38], [], []⟩
theorem z9s : y6s.Ok Try.prog := (fsK y2k (fsK z4h (fsK zp3 (fsK zj7 (fsK yk1 (fsK z7b fs0))))))
def zj8 : Tmpl := ⟨[(2, .c .i), (3, .c (.s .I)), (4, .c (.bx 4 0)), (10, .c (.ref 31)), (37, .c (.s .I)), (38, .c .i), (39, .c .i)], [(4, .boxT (.s .net)), (31, .arr .I true)]⟩
def zf1 : Tmpl := ⟨[(2, .c .i), (3, .c (.s .I)), (4, .c (.bx 4 0)), (10, .c (.ref 31))], [(4, .boxT (.s .net)), (31, .arr .I true)]⟩
def y2u (av : AV) (x : HP z0e.ps) (n : Nat) (v : zj8.den) (K : Ks (CR z0e)) : Option (CR z0e) := z2p v.1.2.2.2.2.1 v.1.2.2.2.2.2.1 (fun l0_1 => zf1.at none ((v.1.1, v.1.2.1, (), (), ()), (v.2.1, l0_1, ())) (K (.exit 0))) n v.1.2.2.2.2.2.2.1 v.2.2.1
def zi0 (av : AV) (x : HP z0e.ps) : Hdl (CR z0e) := hnd [] zj8 (y2u av x)
theorem y3f : LP z0e Try.f29 [0] zi0 := lp_ok (W := []) (H := []) (xs := [zf1]) z9s trivial rfl (fun av x v K => by kernel_rfl) (fun av x n v K => by kernel_rfl)
def zj9 : Tmpl := ⟨[(4, .c (.bx 4 0)), (10, .c (.ref 31)), (53, .c (.ref 53)), (54, .c .i), (55, .c .i)], [(4, .boxT (.s .net)), (31, .arr .I true), (53, .arr .I true)]⟩
def zf2 : Tmpl := ⟨[(4, .c (.bx 4 0)), (10, .c (.ref 31))], [(4, .boxT (.s .net)), (31, .arr .I true)]⟩
def y2v (av : AV) (x : HP z0e.ps) (n : Nat) (v : zj9.den) (K : Ks (CR z0e)) : Option (CR z0e) := z2q v.2.2.2.1 v.1.2.2.2.1 (fun l1_1 => zf2.at none (((), (), ()), (v.2.1, l1_1, ())) (K (.exit 2))) n v.1.2.2.2.2.1 v.2.2.1
def zi1 (av : AV) (x : HP z0e.ps) : Hdl (CR z0e) := hnd [] zj9 (y2v av x)
theorem y3g : LP z0e Try.f29 [1] zi1 := lp_ok (W := []) (H := []) (xs := [zf2]) z9s trivial rfl (fun av x v K => by kernel_rfl) (fun av x n v K => by kernel_rfl)
theorem y7u : z0e.Ok Try.prog := fn_ok (k := z0e) (fn := Try.f29) (W := []) (H := [zi0, zi1]) Try.func29 z9s ⟨y3f, y3g, trivial⟩ rfl rfl (fun av x => by kernel_rfl)
def z5s (c : GCase) : Option Bool := if decide (c.state = 1) = true then ((getI c.marks 1).bind fun x16 => (some (decide (x16 = 0)))) else (if decide (c.state = 2) = true then (if decide ((c.busy.length : Int) = 0) = true then ((getI c.marks 1).bind fun x19 => (some ((decide (c.state = 2)) == (decide (0 < x19))))) else (some false)) else (if decide (c.state = 3) = true then (if decide ((c.busy.length : Int) = 0) = true then ((getI c.marks 1).bind fun x22 => (some ((decide (c.state = 2)) == (decide (0 < x22))))) else (some false)) else (some false)))
def z3k (n : GNet) (p0_0 : List GDid) (p0_1 : Int) (kx0_0 : Option Bool) : Nat → Int → Option Bool
  | 0, _ => none
  | n0 + 1, s0_0 => if decide (s0_0 < p0_1) = true then ((getI p0_0 s0_0).bind fun x9 => ((z0l n x9.task).bind fun x10 => (if x10 = true then ((z4d x9.who).bind fun x12 => (if x12 = true then (gd (ok64 (s0_0 + 1)) ((z3k n p0_0 p0_1 kx0_0 n0) (s0_0 + 1))) else (some false))) else (some false)))) else (kx0_0)
def z94 (n : GNet) (c : GCase) : Option Bool := (z78 n c.marks).bind fun x1 => (if x1 = true then ((z3h n c.busy).bind fun x3 => (if x3 = true then ((z5g c.data).bind fun x5 => (if x5 = true then (if decide (60 < (c.did.length : Int)) = true then (some false) else (z3k n c.did (c.did.length : Int) (z5s c) FUEL 0)) else (some false))) else (some false))) else (some false))
def z37 : Con := ⟨13, [.v (.s .net) false, .v (.s .kase) false], [(.B, true)], [], fun x => z94 x.1 x.2.1⟩
def yf6 : Fs := ⟨[z91, z0h, z77, z28, z5q], [], []⟩
theorem y25 : yf6.Ok Try.prog := (fsK y2k (fsK zt7 (fsK zp3 (fsK z4h (fsK zp4 fs0)))))
def zw3 : Tmpl := ⟨[(2, .c (.bx 2 0)), (3, .c (.bx 3 0)), (32, .c (.s (.s .did))), (33, .c .i), (34, .c .i)], [(2, .boxT (.s .net)), (3, .boxT (.s .kase))]⟩
def zr0 : Tmpl := ⟨[(3, .c (.bx 3 0))], [(3, .boxT (.s .kase))]⟩
def y6g (av : AV) (x : HP z37.ps) (n : Nat) (v : zw3.den) (K : Ks (CR z37)) : Option (CR z37) := z3k v.2.1 v.1.2.2.1 v.1.2.2.2.1 (zr0.at none (((), ()), (v.2.2.1, ())) (K (.exit 0))) n v.1.2.2.2.2.1
def zu7 (av : AV) (x : HP z37.ps) : Hdl (CR z37) := hnd [] zw3 (y6g av x)
theorem y7i : LP z37 Try.f13 [0] zu7 := lp_ok (W := []) (H := []) (xs := [zr0]) y25 trivial rfl (fun av x v K => by kernel_rfl) (fun av x n v K => by kernel_rfl)
theorem yj9 : z37.Ok Try.prog := fn_ok (k := z37) (fn := Try.f13) (W := []) (H := [zu7]) Try.func13 y25 ⟨y7i, trivial⟩ rfl rfl (fun av x => by kernel_rfl)
def z6z (n : GNet) (c : GCase) : Option Bool := (z94 n c).bind fun x1 => (if x1 = true then (some (decide (c.state = 1))) else (some false))
def z9w : Con := ⟨58, [.v (.s .net) false, .v (.s .kase) false], [(.B, true)], [], fun x => z6z x.1 x.2.1⟩
def y6w : Fs := ⟨[z37], [], []⟩
theorem y7d : y6w.Ok Try.prog := (fsK yj9 fs0)
theorem y7x : z9w.Ok Try.prog := fn_ok (k := z9w) (fn := Try.f58) (W := []) (H := []) Try.func58 y7d trivial rfl rfl (fun av x => by kernel_rfl)
def z6y (n : GNet) (c : GCase) (k : Int) (v : Int) (num : Int) : Option (GCase × Bool) := (z07 c).bind fun x1 => ((z6z n c).bind fun x2 => (if x2 = true then (gd (ok64 ((c.busy.length : Int) - 1)) ((z0s k 0 ((c.busy.length : Int) - 1)).bind fun x5 => (if x5 = true then ((z0s v (-1) 2).bind fun x7 => (if x7 = true then ((z44 num).bind fun x9 => (if x9 = true then (if decide ((c.did.length : Int) = 60) = true then (some (x1, false)) else (if decide (0 ≤ v) = true then ((getI x1.data v).bind fun x13 => ((getI x1.busy k).bind fun x14 => (gd (ok64 (x14.did + 1)) ((getI n.tasks ((GItem.mk x14.task x14.who (x14.did + 1)).task)).bind fun x16 => (if decide ((GItem.mk x14.task x14.who (x14.did + 1)).did < x16.need) = true then (some ((GCase.mk x1.state x1.marks (x1.busy.set k.toNat (GItem.mk x14.task x14.who (x14.did + 1))) (x1.data.set v.toNat num) x1.did), true)) else ((z43 n c.marks ((GItem.mk x14.task x14.who (x14.did + 1)).task) (x1.data.set v.toNat num)).bind fun x18 => (if x18.2 = true then (gd (x1.did.length + [(GDid.mk ((GItem.mk x14.task x14.who (x14.did + 1)).task) ((GItem.mk x14.task x14.who (x14.did + 1)).who))].length ≤ SMALL) (gd (ok64 (k + 1)) ((z3f (x1.busy.set k.toNat (GItem.mk x14.task x14.who (x14.did + 1))) k (k + 1)).bind fun x22 => ((getI x18.1 1).bind fun x23 => (if decide (0 < x23) = true then ((z07 (GCase.mk 2 x18.1 [] (x1.data.set v.toNat num) (x1.did ++ [(GDid.mk ((GItem.mk x14.task x14.who (x14.did + 1)).task) ((GItem.mk x14.task x14.who (x14.did + 1)).who))]))).bind fun x25 => (some (x25, true))) else ((z07 (GCase.mk x1.state x18.1 x22 (x1.data.set v.toNat num) (x1.did ++ [(GDid.mk ((GItem.mk x14.task x14.who (x14.did + 1)).task) ((GItem.mk x14.task x14.who (x14.did + 1)).who))]))).bind fun x26 => (some (x26, true)))))))) else ((z07 c).bind fun x27 => (some (x27, false)))))))))) else ((getI x1.busy k).bind fun x28 => (gd (ok64 (x28.did + 1)) ((getI n.tasks ((GItem.mk x28.task x28.who (x28.did + 1)).task)).bind fun x30 => (if decide ((GItem.mk x28.task x28.who (x28.did + 1)).did < x30.need) = true then (some ((GCase.mk x1.state x1.marks (x1.busy.set k.toNat (GItem.mk x28.task x28.who (x28.did + 1))) x1.data x1.did), true)) else ((z43 n c.marks ((GItem.mk x28.task x28.who (x28.did + 1)).task) x1.data).bind fun x32 => (if x32.2 = true then (gd (x1.did.length + [(GDid.mk ((GItem.mk x28.task x28.who (x28.did + 1)).task) ((GItem.mk x28.task x28.who (x28.did + 1)).who))].length ≤ SMALL) (gd (ok64 (k + 1)) ((z3f (x1.busy.set k.toNat (GItem.mk x28.task x28.who (x28.did + 1))) k (k + 1)).bind fun x36 => ((getI x32.1 1).bind fun x37 => (if decide (0 < x37) = true then ((z07 (GCase.mk 2 x32.1 [] x1.data (x1.did ++ [(GDid.mk ((GItem.mk x28.task x28.who (x28.did + 1)).task) ((GItem.mk x28.task x28.who (x28.did + 1)).who))]))).bind fun x39 => (some (x39, true))) else ((z07 (GCase.mk x1.state x32.1 x36 x1.data (x1.did ++ [(GDid.mk ((GItem.mk x28.task x28.who (x28.did + 1)).task) ((GItem.mk x28.task x28.who (x28.did + 1)).who))]))).bind fun x40 => (some (x40, true)))))))) else ((z07 c).bind fun x41 => (some (x41, false))))))))))) else (some (x1, false)))) else (some (x1, false)))) else (some (x1, false))))) else (some (x1, false))))
def z9v : Con := ⟨24, [.v (.s .net) false, .v (.s .kase) false, .v .I false, .v .I false, .v .I false], [((.s .kase), true), (.B, true)], [], fun x => z6y x.1 x.2.1 x.2.2.1 x.2.2.2.1 x.2.2.2.2.1⟩
def y6q : Fs := ⟨[z4v, z9w, z2w, z4x, z0e, zv7], [], []⟩
theorem y79 : y6q.Ok Try.prog := (fsK zt6 (fsK y7x (fsK z3s (fsK za3 (fsK y7u (fsK y7r fs0))))))
theorem y7s : z9v.Ok Try.prog := fn_ok (k := z9v) (fn := Try.f24) (W := []) (H := []) Try.func24 y79 trivial rfl rfl (fun av x => by kernel_rfl)
def z5y (s0_0 : Int) : Option Int := some s0_0
def z1m (c : GCase) (t : Int) (kx0_0 : Int → Option Int) : Nat → Int → Int → Option Int
  | 0, _, _ => none
  | n0 + 1, s0_0, s0_1 => if decide (s0_1 < (c.did.length : Int)) = true then ((getI c.did s0_1).bind fun x2 => (if decide (x2.task = t) = true then (gd (ok64 (s0_0 + 1)) (gd (ok64 (s0_1 + 1)) ((z1m c t kx0_0 n0) (s0_0 + 1) (s0_1 + 1)))) else (gd (ok64 (s0_1 + 1)) ((z1m c t kx0_0 n0) s0_0 (s0_1 + 1))))) else (kx0_0 s0_0)
def z5x (c : GCase) (t : Int) : Option Int := z1m c t z5y FUEL 0 0
def z1i : Con := ⟨22, [.v (.s .kase) false, .v .I false], [(.I, true)], [], fun x => z5x x.1 x.2.1⟩
def y4o : Fs := ⟨[], [], []⟩
theorem zm8 : y4o.Ok Try.prog := fs0
def ze2 : Tmpl := ⟨[(1, .c .i), (2, .c (.bx 2 0)), (5, .c .i), (6, .c .i)], [(2, .boxT (.s .kase))]⟩
def z9j : Tmpl := ⟨[(5, .c .i)], []⟩
def y0z (av : AV) (x : HP z1i.ps) (n : Nat) (v : ze2.den) (K : Ks (CR z1i)) : Option (CR z1i) := z1m v.2.1 v.1.1 (fun s0_0 => z9j.at none ((s0_0, ()), ()) (K (.exit 0))) n v.1.2.2.1 v.1.2.2.2.1
def zb7 (av : AV) (x : HP z1i.ps) : Hdl (CR z1i) := hnd [] ze2 (y0z av x)
theorem y1i : LP z1i Try.f22 [0] zb7 := lp_ok (W := []) (H := []) (xs := [z9j]) zm8 trivial rfl (fun av x v K => by kernel_rfl) (fun av x n v K => by kernel_rfl)
theorem y5i : z1i.Ok Try.prog := fn_ok (k := z1i) (fn := Try.f22) (W := []) (H := [zb7]) Try.func22 zm8 ⟨y1i, trivial⟩ rfl rfl (fun av x => by kernel_rfl)
def z5t (s0_1 : Int) : Option Int := some s0_1
def z1l (t : Int) (p0_0 : List GDid) (p0_1 : Int) (kx0_0 : Int → Option Int) : Nat → Int → Int → Option Int
  | 0, _, _ => none
  | n0 + 1, s0_0, s0_1 => if decide (s0_0 < p0_1) = true then ((getI p0_0 s0_0).bind fun x2 => (if decide (x2.task = t) = true then (gd (ok64 (s0_1 + 1)) (gd (ok64 (s0_0 + 1)) ((z1l t p0_0 p0_1 kx0_0 n0) (s0_0 + 1) (s0_1 + 1)))) else (gd (ok64 (s0_0 + 1)) ((z1l t p0_0 p0_1 kx0_0 n0) (s0_0 + 1) s0_1)))) else (kx0_0 s0_1)
def z2x (c : GCase) (t : Int) : Option Int := z1l t c.did (c.did.length : Int) z5t FUEL 0 0
def z1h : Con := ⟨21, [.v (.s .kase) false, .v .I false], [(.I, true)], [], fun x => z2x x.1 x.2.1⟩
def y4k : Fs := ⟨[], [], []⟩
theorem zm5 : y4k.Ok Try.prog := fs0
def ze1 : Tmpl := ⟨[(1, .c .i), (5, .c .i), (9, .c (.s (.s .did))), (10, .c .i), (11, .c .i)], []⟩
def z9i : Tmpl := ⟨[(5, .c .i)], []⟩
def y0y (av : AV) (x : HP z1h.ps) (n : Nat) (v : ze1.den) (K : Ks (CR z1h)) : Option (CR z1h) := z1l v.1.1 v.1.2.2.1 v.1.2.2.2.1 (fun s0_1 => z9i.at none ((s0_1, ()), ()) (K (.exit 0))) n v.1.2.2.2.2.1 v.1.2.1
def zb6 (av : AV) (x : HP z1h.ps) : Hdl (CR z1h) := hnd [] ze1 (y0y av x)
theorem y1h : LP z1h Try.f21 [0] zb6 := lp_ok (W := []) (H := []) (xs := [z9i]) zm5 trivial rfl (fun av x v K => by kernel_rfl) (fun av x n v K => by kernel_rfl)
theorem y5f : z1h.Ok Try.prog := fn_ok (k := z1h) (fn := Try.f21) (W := []) (H := [zb6]) Try.func21 zm5 ⟨y1h, trivial⟩ rfl rfl (fun av x => by kernel_rfl)
def z51 (code : List Int) : Option GRd := if decide (2000 < (code.length : Int)) = true then (gd ((0 : Int) ≤ 2000 ∧ 2000 ≤ (code.length : Int)) (some (GRd.mk (code.take (2000 : Int).toNat) 0))) else (some (GRd.mk code 0))
def z9y : BCon := ⟨49, fun x => z51 x⟩
def y73 : Fs := ⟨[], [], []⟩
theorem y7g : y73.Ok Try.prog := fs0
theorem zw0 : z9y.Ok Try.prog := w5a (fn := Try.f49) Try.func49 y7g rfl rfl rfl rfl rfl (fun l => by kernel_rfl)
def z00 (r : GRd) (n : Int) : Option (Int × GRd) := gd (ok64 (r.p + 1)) (if decide (n < 1) = true then (some (0, (GRd.mk r.b (r.p + 1)))) else (if decide ((r.b.length : Int) = 0) = true then (some (0, (GRd.mk r.b (r.p + 1)))) else (gd (ok64 ((r.p + 1) - 1)) (if decide (((r.p + 1) - 1) < (r.b.length : Int)) = true then ((getI r.b ((r.p + 1) - 1)).bind fun x6 => (gd (ok64 x6) (gd ((n : Int) ≠ 0) (some ((Int.tmod x6 n), (GRd.mk r.b (r.p + 1))))))) else (gd (((r.b.length : Int) : Int) ≠ 0) ((getI r.b (Int.tmod ((r.p + 1) - 1) (r.b.length : Int))).bind fun x10 => (gd (ok64 x10) (gd (ok64 (x10 * 131)) (gd (ok64 (((r.p + 1) - 1) * 7)) (gd (ok64 ((((r.p + 1) - 1) * 7) + 3)) (gd (((r.b.length : Int) : Int) ≠ 0) ((getI r.b (Int.tmod ((((r.p + 1) - 1) * 7) + 3) (r.b.length : Int))).bind fun x16 => (gd (ok64 x16) (gd (ok64 (x16 * 1117)) (gd (ok64 ((x10 * 131) + (x16 * 1117))) (gd (ok64 (((r.p + 1) - 1) * 29)) (gd (ok64 (((x10 * 131) + (x16 * 1117)) + (((r.p + 1) - 1) * 29))) (gd (((r.b.length : Int) : Int) ≠ 0 ∧ ok64 (Int.tdiv ((r.p + 1) - 1) (r.b.length : Int))) (gd (ok64 ((Int.tdiv ((r.p + 1) - 1) (r.b.length : Int)) * 53)) (gd (ok64 ((((x10 * 131) + (x16 * 1117)) + (((r.p + 1) - 1) * 29)) + ((Int.tdiv ((r.p + 1) - 1) (r.b.length : Int)) * 53))) (gd ((64 : Int) ≠ 0 ∧ ok64 (Int.tdiv ((((x10 * 131) + (x16 * 1117)) + (((r.p + 1) - 1) * 29)) + ((Int.tdiv ((r.p + 1) - 1) (r.b.length : Int)) * 53)) 64)) (gd ((n : Int) ≠ 0) (some ((Int.tmod (xorI ((((x10 * 131) + (x16 * 1117)) + (((r.p + 1) - 1) * 29)) + ((Int.tdiv ((r.p + 1) - 1) (r.b.length : Int)) * 53)) (Int.tdiv ((((x10 * 131) + (x16 * 1117)) + (((r.p + 1) - 1) * 29)) + ((Int.tdiv ((r.p + 1) - 1) (r.b.length : Int)) * 53)) 64)) n), (GRd.mk r.b (r.p + 1))))))))))))))))))))))))))
def z7o : Con := ⟨65, [.ptr (.s .rd) false, .v .I false], [(.I, true)], [(0, .ptr (.s .rd) false)], fun x => z00 x.1 x.2.1⟩
def w6f : Fs := ⟨[], [], []⟩
theorem w6g : w6f.Ok Try.prog := fs0
theorem z9c : z7o.Ok Try.prog := fn_ok (k := z7o) (fn := Try.f65) (W := []) (H := []) Try.func65 w6g trivial rfl rfl (fun av x => by kernel_rfl)
def z4r (n : Int) (s0_0 : List Int) (s0_1 : Int) (l0_3 : List Int) : Option ((List Int) × GRd) := (z00 (GRd.mk s0_0 s0_1) n).bind fun x7 => (if decide (x7.1 = 0) = true then ((z00 x7.2 3).bind fun x9 => (if decide (x9.1 = 0) = true then ((z00 x9.2 3).bind fun x11 => ((z00 x11.2 4).bind fun x12 => ((getI [100, (-100), 9223372036854775807, (-9223372036854775808)] x12.1).bind fun x13 => ((getI l0_3 x11.1).bind fun x14 => (some ((l0_3.set x11.1.toNat x13), x12.2)))))) else (if decide (x9.1 = 1) = true then (gd ((0 : Int) ≤ 1 ∧ 1 ≤ (l0_3.length : Int)) (some ((l0_3.drop (1 : Int).toNat), x9.2))) else (gd (l0_3.length + [0].length ≤ SMALL) (some ((l0_3 ++ [0]), x9.2)))))) else (some (l0_3, x7.2)))
def z2u (kx0_0 : List Int → Int → List Int → Option ((List Int) × GRd)) : Nat → List Int → Int → Int → List Int → Option ((List Int) × GRd)
  | 0, _, _, _, _ => none
  | n0 + 1, s0_0, s0_1, s0_2, l0_3 => if decide (s0_2 < 3) = true then ((z00 (GRd.mk s0_0 s0_1) 9).bind fun x2 => ((z00 x2.2 7).bind fun x3 => ((getI [0, 1, (-1), 5, 99, (-99), x2.1] x3.1).bind fun x4 => (gd (l0_3.length + [x4].length ≤ SMALL) (gd (ok64 (s0_2 + 1)) ((z2u kx0_0 n0) x3.2.b x3.2.p (s0_2 + 1) (l0_3 ++ [x4]))))))) else (kx0_0 s0_0 s0_1 l0_3)
def z50 (r : GRd) (n : Int) : Option ((List Int) × GRd) := z2u (z4r n) FUEL r.b r.p 0 ([] : List Int)
def z24 : Con := ⟨101, [.ptr (.s .rd) false, .v .I false], [((.sl .I), false)], [(0, .ptr (.s .rd) false)], fun x => z50 x.1 x.2.1⟩
def y72 : Fs := ⟨[z7o], [], []⟩
theorem zu3 : y72.Ok Try.prog := (fsK z9c fs0)
def zk5 : Tmpl := ⟨[(0, .c (.bx 1000000 0)), (1, .c .i), (5, .c (.ref 7)), (6, .c .i)], [(1000000, .box [.s .Y, .i]), (7, .arr .I true)]⟩
def zf7 : Tmpl := ⟨[(0, .c (.bx 1000000 0)), (1, .c .i), (5, .c (.ref 7))], [(1000000, .box [.s .Y, .i]), (7, .arr .I true)]⟩
def y31 (av : AV) (x : HP z24.ps) (n : Nat) (v : zk5.den) (K : Ks (CR z24)) : Option (CR z24) := z2u (fun s0_0 s0_1 l0_3 => zf7.at none (((), v.1.2.1, (), ()), ((s0_0, s0_1, ()), l0_3, ())) (K (.exit 0))) n v.2.1.1 v.2.1.2.1 v.1.2.2.2.1 v.2.2.1
def zi7 (av : AV) (x : HP z24.ps) : Hdl (CR z24) := hnd [] zk5 (y31 av x)
theorem y3m : LP z24 Try.f101 [0] zi7 := lp_ok (W := [(12, [.froz 7])]) (H := []) (xs := [zf7]) zu3 trivial rfl (fun av x v K => by kernel_rfl) (fun av x n v K => by kernel_rfl)
theorem y82 : z24.Ok Try.prog := fn_ok (k := z24) (fn := Try.f101) (W := [(12, [.froz 7])]) (H := [zi7]) Try.func101 zu3 ⟨y3m, trivial⟩ rfl rfl (fun av x => by kernel_rfl)
def z89 (r : GRd) (n : Int) : Option (GAsk × GRd) := (z00 r 3).bind fun x1 => (gd (ok64 (1 + x1.1)) ((z00 x1.2 3).bind fun x3 => ((z00 x3.2 9).bind fun x4 => ((z00 x4.2 6).bind fun x5 => ((getI [0, 1, 2, 5, (-1), x4.1] x5.1).bind fun x6 => ((z00 x5.2 6).bind fun x7 => (if decide (x7.1 = 0) = true then ((z00 x7.2 n).bind fun x9 => (if decide (x9.1 = 0) = true then ((z00 x9.2 3).bind fun x11 => (if decide (x11.1 = 0) = true then ((z00 x11.2 3).bind fun x13 => ((getI [0, 4, (-1)] x13.1).bind fun x14 => (some ((GAsk.mk x14 0 0), x13.2)))) else (if decide (x11.1 = 1) = true then ((z00 x11.2 3).bind fun x16 => ((getI [3, (-1), 1] x16.1).bind fun x17 => (some ((GAsk.mk 0 x17 0), x16.2)))) else ((z00 x11.2 3).bind fun x18 => ((getI [99, 100, (-99)] x18.1).bind fun x19 => (some ((GAsk.mk 0 0 x19), x18.2))))))) else (some ((GAsk.mk 0 0 0), x9.2)))) else ((z00 x7.2 n).bind fun x20 => (if decide (x20.1 = 0) = true then ((z00 x20.2 3).bind fun x22 => (if decide (x22.1 = 0) = true then ((z00 x22.2 3).bind fun x24 => ((getI [0, 4, (-1)] x24.1).bind fun x25 => (some ((GAsk.mk x25 x3.1 x6), x24.2)))) else (if decide (x22.1 = 1) = true then ((z00 x22.2 3).bind fun x27 => ((getI [3, (-1), 1] x27.1).bind fun x28 => (some ((GAsk.mk (1 + x1.1) x28 x6), x27.2)))) else ((z00 x22.2 3).bind fun x29 => ((getI [99, 100, (-99)] x29.1).bind fun x30 => (some ((GAsk.mk (1 + x1.1) x3.1 x30), x29.2))))))) else (some ((GAsk.mk (1 + x1.1) x3.1 x6), x20.2)))))))))))
def zg9 : Con := ⟨139, [.ptr (.s .rd) false, .v .I false], [((.s .ask), true)], [(0, .ptr (.s .rd) false)], fun x => z89 x.1 x.2.1⟩
def y9d : Fs := ⟨[z7o], [], []⟩
theorem y9q : y9d.Ok Try.prog := (fsK z9c fs0)
theorem yb2 : zg9.Ok Try.prog := fn_ok (k := zg9) (fn := Try.f139) (W := []) (H := []) Try.func139 y9q trivial rfl rfl (fun av x => by kernel_rfl)
def zd0 (join : Int) (in_ : List Int) (p0_6 : Int) (p0_7 : Int) (p0_8 : Int) (p0_9 : Int) (p0_10 : Int) (s0_0 : List Int) (s0_1 : Int) (l0_3 : List GFlow) : Option (GTask × GRd) := some ((GTask.mk join p0_6 in_ l0_3 [] p0_7 p0_8 p0_9 p0_10), (GRd.mk s0_0 s0_1))
def z0p (split : Int) (to : List Int) (kx0_0 : List Int → Int → List GFlow → Option (GTask × GRd)) : Nat → List Int → Int → Int → List GFlow → Option (GTask × GRd)
  | 0, _, _, _, _ => none
  | n0 + 1, s0_0, s0_1, s0_2, l0_3 => if decide (s0_2 < (to.length : Int)) = true then ((getI to s0_2).bind fun x11 => (if decide (split = 1) = true then (gd (l0_3.length + [(GFlow.mk x11 (GAsk.mk 0 0 0))].length ≤ SMALL) (gd (ok64 (s0_2 + 1)) ((z0p split to kx0_0 n0) s0_0 s0_1 (s0_2 + 1) (l0_3 ++ [(GFlow.mk x11 (GAsk.mk 0 0 0))])))) else (gd (ok64 ((to.length : Int) - 1)) (if decide (s0_2 < ((to.length : Int) - 1)) = true then ((z00 (GRd.mk s0_0 s0_1) 3).bind fun x17 => (gd (ok64 (1 + x17.1)) ((z00 x17.2 3).bind fun x19 => ((z00 x19.2 5).bind fun x20 => (gd (ok64 (x20.1 - 1)) (gd (l0_3.length + [(GFlow.mk x11 (GAsk.mk (1 + x17.1) x19.1 (x20.1 - 1)))].length ≤ SMALL) (gd (ok64 (s0_2 + 1)) ((z0p split to kx0_0 n0) x20.2.b x20.2.p (s0_2 + 1) (l0_3 ++ [(GFlow.mk x11 (GAsk.mk (1 + x17.1) x19.1 (x20.1 - 1)))]))))))))) else (gd (l0_3.length + [(GFlow.mk x11 (GAsk.mk 0 0 0))].length ≤ SMALL) (gd (ok64 (s0_2 + 1)) ((z0p split to kx0_0 n0) s0_0 s0_1 (s0_2 + 1) (l0_3 ++ [(GFlow.mk x11 (GAsk.mk 0 0 0))])))))))) else (kx0_0 s0_0 s0_1 l0_3)
def zd1 (join : Int) (in_ : List Int) (p1_6 : Int) (p1_7 : Int) (p1_8 : Int) (p1_9 : Int) (p1_10 : Int) (s1_0 : List Int) (s1_1 : Int) (l1_3 : List GFlow) : Option (GTask × GRd) := some ((GTask.mk join p1_6 in_ l1_3 [] p1_7 p1_8 p1_9 p1_10), (GRd.mk s1_0 s1_1))
def z06 (r : GRd) (join : Int) (split : Int) (in_ : List Int) (to : List Int) (tasks : Int) : Option (GTask × GRd) := (z00 r 3).bind fun x1 => (gd (ok64 (1 + x1.1)) ((z00 x1.2 3).bind fun x3 => (gd (ok64 (1 + x3.1)) ((z00 x3.2 (1 + x3.1)).bind fun x5 => (gd (ok64 (1 + x5.1)) ((z00 x5.2 3).bind fun x7 => (if decide (x7.1 = 0) = true then ((z00 x7.2 tasks).bind fun x9 => (z0p split to (zd0 join in_ split (1 + x1.1) x9.1 (1 + x3.1) (1 + x5.1)) FUEL x9.2.b x9.2.p 0 ([] : List GFlow))) else (z0p split to (zd1 join in_ split (1 + x1.1) (-1) (1 + x3.1) (1 + x5.1)) FUEL x7.2.b x7.2.p 0 ([] : List GFlow)))))))))
def z25 : Con := ⟨160, [.ptr (.s .rd) false, .v .I false, .v .I false, .v (.sl .I) true, .v (.sl .I) true, .v .I false], [((.s .task), true)], [(0, .ptr (.s .rd) false)], fun x => z06 x.1 x.2.1 x.2.2.1 x.2.2.2.1 x.2.2.2.2.1 x.2.2.2.2.2.1⟩
def y74 : Fs := ⟨[z7o], [], []⟩
theorem zu4 : y74.Ok Try.prog := (fsK z9c fs0)
def zk6 : Tmpl := ⟨[(0, .c (.bx 1000000 0)), (2, .c .i), (4, .c (.ref 1480000)), (12, .c (.bx 12 0)), (13, .c (.bx 13 0)), (14, .c .i)], [(1000000, .box [.s .Y, .i]), (12, .box [.i, .i, .nl, .nl, .nl, .i, .i, .i, .i]), (13, .box [.i, .i, .ref 1360000, .ref 511303, .nl, .i, .i, .i, .i]), (1480000, .arr .I true), (1360000, .arr .I true), (511303, .arr (.s .flow) true)]⟩
def zf8 : Tmpl := ⟨[(12, .c (.bx 12 0)), (13, .c (.bx 13 0))], [(12, .box [.i, .i, .nl, .nl, .nl, .i, .i, .i, .i]), (13, .box [.i, .i, .ref 1360000, .ref 511303, .nl, .i, .i, .i, .i]), (1000000, .box [.s .Y, .i]), (1360000, .arr .I true), (511303, .arr (.s .flow) true)]⟩
def y32 (av : AV) (x : HP z25.ps) (n : Nat) (v : zk6.den) (K : Ks (CR z25)) : Option (CR z25) := z0p v.1.2.1 v.2.2.2.2.1 (fun s0_0 s0_1 l0_3 => zf8.at none (((), (), ()), ((v.2.2.1.1, v.2.2.1.2.1, (), (), (), v.2.2.1.2.2.2.2.2.1, v.2.2.1.2.2.2.2.2.2.1, v.2.2.1.2.2.2.2.2.2.2.1, v.2.2.1.2.2.2.2.2.2.2.2.1, ()), (v.2.2.2.1.1, v.2.2.2.1.2.1, (), (), (), v.2.2.2.1.2.2.2.2.2.1, v.2.2.2.1.2.2.2.2.2.2.1, v.2.2.2.1.2.2.2.2.2.2.2.1, v.2.2.2.1.2.2.2.2.2.2.2.2.1, ()), (s0_0, s0_1, ()), v.2.2.2.2.2.1, l0_3, ())) (K (.exit 0))) n v.2.1.1 v.2.1.2.1 v.1.2.2.2.2.2.1 v.2.2.2.2.2.2.1
def zi8 (av : AV) (x : HP z25.ps) : Hdl (CR z25) := hnd [.b 13 3 511303 (.s .flow)] zk6 (y32 av x)
theorem y3n : LP z25 Try.f160 [0] zi8 := lp_ok (W := []) (H := []) (xs := [zf8]) zu4 trivial rfl (fun av x v K => by kernel_rfl) (fun av x n v K => by kernel_rfl)
theorem y83 : z25.Ok Try.prog := fn_ok (k := z25) (fn := Try.f160) (W := []) (H := [zi8]) Try.func160 zu4 ⟨y3n, trivial⟩ rfl rfl (fun av x => by kernel_rfl)
def z3c (p0_2 : Int) (s0_0 : List Int) (s0_1 : Int) (l0_3 : List GTask) : Option (GNet × GRd) := some ((GNet.mk p0_2 l0_3), (GRd.mk s0_0 s0_1))
def z0t (p0_0 : Int) (p0_2 : Int) (kx0_0 : List Int → Int → List GTask → Option (GNet × GRd)) : Nat → List Int → Int → Int → List GTask → Option (GNet × GRd)
  | 0, _, _, _, _ => none
  | n0 + 1, s0_0, s0_1, s0_2, l0_3 => if decide (s0_2 < p0_0) = true then (gd (ok64 (p0_2 - 2)) ((z00 (GRd.mk s0_0 s0_1) (p0_2 - 2)).bind fun x39 => (gd (ok64 (2 + x39.1)) ((z00 x39.2 4).bind fun x41 => ((getI [0, 2, 2, (2 + x39.1)] x41.1).bind fun x42 => (gd (ok64 (p0_2 - 1)) ((z00 x41.2 (p0_2 - 1)).bind fun x44 => (gd (ok64 (1 + x44.1)) ((z00 x44.2 2).bind fun x46 => (if decide (x46.1 = 0) = true then ((getI [(1 + x44.1)] 0).bind fun x48 => (if decide (x48 = 2) = true then ((z00 x46.2 3).bind fun x50 => (gd (ok64 (1 + x50.1)) ((z00 x50.2 3).bind fun x52 => (gd (ok64 (1 + x52.1)) ((z06 x52.2 (1 + x50.1) (1 + x52.1) [x42] [(1 + x44.1)] p0_0).bind fun x54 => (gd (l0_3.length + [x54.1].length ≤ SMALL) (gd (ok64 (s0_2 + 1)) ((z0t p0_0 p0_2 kx0_0 n0) x54.2.b x54.2.p (s0_2 + 1) (l0_3 ++ [x54.1]))))))))) else (gd ([(1 + x44.1)].length + [2].length ≤ SMALL) ((z00 x46.2 3).bind fun x58 => (gd (ok64 (1 + x58.1)) ((z00 x58.2 3).bind fun x60 => (gd (ok64 (1 + x60.1)) ((z06 x60.2 (1 + x58.1) (1 + x60.1) [x42] ([(1 + x44.1)] ++ [2]) p0_0).bind fun x62 => (gd (l0_3.length + [x62.1].length ≤ SMALL) (gd (ok64 (s0_2 + 1)) ((z0t p0_0 p0_2 kx0_0 n0) x62.2.b x62.2.p (s0_2 + 1) (l0_3 ++ [x62.1])))))))))))) else ((z00 x46.2 3).bind fun x65 => (gd (ok64 (1 + x65.1)) ((z00 x65.2 3).bind fun x67 => (gd (ok64 (1 + x67.1)) ((z06 x67.2 (1 + x65.1) (1 + x67.1) [x42] [(1 + x44.1)] p0_0).bind fun x69 => (gd (l0_3.length + [x69.1].length ≤ SMALL) (gd (ok64 (s0_2 + 1)) ((z0t p0_0 p0_2 kx0_0 n0) x69.2.b x69.2.p (s0_2 + 1) (l0_3 ++ [x69.1]))))))))))))))))))) else (kx0_0 s0_0 s0_1 l0_3)
def z67 (r : GRd) : Option (GNet × GRd) := (z00 r 3).bind fun x1 => (gd (ok64 (1 + x1.1)) ((z00 x1.2 3).bind fun x3 => (gd (ok64 (1 + x3.1)) ((z00 x3.2 4).bind fun x5 => ((getI [(1 + x1.1), (1 + x1.1), (1 + x1.1), (1 + x3.1)] x5.1).bind fun x6 => ((z00 x5.2 6).bind fun x7 => (if decide (x7.1 = 0) = true then ((z06 x7.2 (1 + x1.1) 1 [0] [2] 2).bind fun x9 => ((z06 x9.2 x6 2 [2] [1] 2).bind fun x10 => (some ((GNet.mk 3 [x9.1, x10.1]), x10.2)))) else (if decide (x7.1 = 1) = true then ((z06 x7.2 1 (1 + x1.1) [0] [2, 3] 4).bind fun x12 => ((z06 x12.2 1 1 [2] [4] 4).bind fun x13 => ((z06 x13.2 2 1 [3] [5] 4).bind fun x14 => ((z06 x14.2 x6 2 [4, 5] [1] 4).bind fun x15 => (some ((GNet.mk 6 [x12.1, x13.1, x14.1, x15.1]), x15.2)))))) else (if decide (x7.1 = 2) = true then ((z06 x7.2 2 1 [0] [2] 3).bind fun x17 => ((z00 x17.2 2).bind fun x18 => (gd (ok64 (2 + x18.1)) ((z06 x18.2 1 2 [2] [(2 + x18.1), 1] 3).bind fun x20 => ((z06 x20.2 2 1 [3] [2] 3).bind fun x21 => (some ((GNet.mk 4 [x17.1, x20.1, x21.1]), x21.2))))))) else (if decide (x7.1 = 3) = true then ((z06 x7.2 1 (1 + x1.1) [0] [2, 3, 4] 4).bind fun x23 => ((z06 x23.2 1 1 [2] [5] 4).bind fun x24 => ((z06 x24.2 x6 1 [3, 4] [6] 4).bind fun x25 => ((z00 x25.2 3).bind fun x26 => (gd (ok64 (1 + x26.1)) ((z06 x26.2 (1 + x26.1) 1 [5, 6] [1] 4).bind fun x28 => (some ((GNet.mk 7 [x23.1, x24.1, x25.1, x28.1]), x28.2)))))))) else (if decide (x7.1 = 4) = true then ((z06 x7.2 1 1 [0] [2, 3] 3).bind fun x30 => ((z06 x30.2 1 2 [2] [4, 1] 3).bind fun x31 => ((z06 x31.2 (1 + x1.1) 1 [3, 4] [1] 3).bind fun x32 => (some ((GNet.mk 5 [x30.1, x31.1, x32.1]), x32.2))))) else ((z00 x7.2 4).bind fun x33 => (gd (ok64 (3 + x33.1)) ((z00 x33.2 4).bind fun x35 => (gd (ok64 (1 + x35.1)) (z0t (1 + x35.1) (3 + x33.1) (z3c (3 + x33.1)) FUEL x35.2.b x35.2.p 0 ([] : List GTask)))))))))))))))))
def z1k : Con := ⟨138, [.ptr (.s .rd) false], [((.s .net), true)], [(0, .ptr (.s .rd) false)], fun x => z67 x.1⟩
def y4s : Fs := ⟨[z7o, z25], [], []⟩
theorem zn1 : y4s.Ok Try.prog := (fsK z9c (fsK y83 fs0))
def ze6 : Tmpl := ⟨[(0, .c (.bx 1000000 0)), (2, .c (.bx 2 0)), (5, .c (.bx 5 0)), (6, .c .i), (7, .c .i)], [(1000000, .box [.s .Y, .i]), (2, .box [.i, .nl]), (5, .box [.i, .ref 510501]), (510501, .arr (.s .task) true)]⟩
def z9n : Tmpl := ⟨[(2, .c (.bx 2 0)), (5, .c (.bx 5 0))], [(2, .box [.i, .nl]), (5, .box [.i, .ref 510501]), (1000000, .box [.s .Y, .i]), (510501, .arr (.s .task) true)]⟩
def y13 (av : AV) (x : HP z1k.ps) (n : Nat) (v : ze6.den) (K : Ks (CR z1k)) : Option (CR z1k) := z0t v.1.2.2.2.1 v.2.2.2.1.1 (fun s0_0 s0_1 l0_3 => z9n.at none (((), (), ()), ((v.2.2.1.1, (), ()), (v.2.2.2.1.1, (), ()), (s0_0, s0_1, ()), l0_3, ())) (K (.exit 1))) n v.2.1.1 v.2.1.2.1 v.1.2.2.2.2.1 v.2.2.2.2.1
def zc1 (av : AV) (x : HP z1k.ps) : Hdl (CR z1k) := hnd [.b 5 1 510501 (.s .task)] ze6 (y13 av x)
theorem y1m : LP z1k Try.f138 [0] zc1 := lp_ok (W := []) (H := []) (xs := [z9n]) zn1 trivial rfl (fun av x v K => by kernel_rfl) (fun av x n v K => by kernel_rfl)
theorem y5l : z1k.Ok Try.prog := fn_ok (k := z1k) (fn := Try.f138) (W := []) (H := [zc1]) Try.func138 zn1 ⟨y1m, trivial⟩ rfl rfl (fun av x => by kernel_rfl)
def z66 (r : GRd) : Option (GNet × GRd) := (z67 r).bind fun x1 => ((z00 x1.2 3).bind fun x2 => (if decide (x2.1 = 0) = true then (if decide (3 < x1.1.places) = true then (if decide (0 < (x1.1.tasks.length : Int)) = true then ((z00 x2.2 (x1.1.tasks.length : Int)).bind fun x6 => ((getI x1.1.tasks x6.1).bind fun x7 => ((z2d (GNet.mk x1.1.places (x1.1.tasks.set x6.1.toNat (GTask.mk x7.join x7.split x7.in_ x7.out [2, 3] x7.role x7.apart x7.all x7.need)))).bind fun x8 => (if x8 = true then (some ((GNet.mk x1.1.places (x1.1.tasks.set x6.1.toNat (GTask.mk x7.join x7.split x7.in_ x7.out [2, 3] x7.role x7.apart x7.all x7.need))), x6.2)) else (some ((GNet.mk 2 [(GTask.mk 1 1 [0] [(GFlow.mk 1 (GAsk.mk 0 0 0))] [] 1 (-1) 1 1)]), x6.2)))))) else ((z2d x1.1).bind fun x10 => (if x10 = true then (some (x1.1, x2.2)) else (some ((GNet.mk 2 [(GTask.mk 1 1 [0] [(GFlow.mk 1 (GAsk.mk 0 0 0))] [] 1 (-1) 1 1)]), x2.2))))) else ((z2d x1.1).bind fun x12 => (if x12 = true then (some (x1.1, x2.2)) else (some ((GNet.mk 2 [(GTask.mk 1 1 [0] [(GFlow.mk 1 (GAsk.mk 0 0 0))] [] 1 (-1) 1 1)]), x2.2))))) else ((z2d x1.1).bind fun x14 => (if x14 = true then (some (x1.1, x2.2)) else (some ((GNet.mk 2 [(GTask.mk 1 1 [0] [(GFlow.mk 1 (GAsk.mk 0 0 0))] [] 1 (-1) 1 1)]), x2.2))))))
def z81 : Con := ⟨98, [.ptr (.s .rd) false], [((.s .net), true)], [(0, .ptr (.s .rd) false)], fun x => z66 x.1⟩
def y9e : Fs := ⟨[z1k, z7o, z1r], [], []⟩
theorem y9r : y9e.Ok Try.prog := (fsK y5l (fsK z9c (fsK z9e fs0)))
theorem y0f : z81.Ok Try.prog := fn_ok (k := z81) (fn := Try.f98) (W := []) (H := []) Try.func98 y9r trivial rfl rfl (fun av x => by kernel_rfl)
def z59 (r : GRd) (n : Int) : Option (GNet × GRd) := (z66 r).bind fun x1 => ((z00 x1.2 n).bind fun x2 => (if decide (0 < x2.1) = true then (some (x1.1, x2.2)) else ((z00 x2.2 6).bind fun x4 => (if decide (x4.1 = 0) = true then ((z00 x4.2 3).bind fun x6 => ((getI [1, 2, 9] x6.1).bind fun x7 => (some ((GNet.mk x7 x1.1.tasks), x6.2)))) else ((z00 x4.2 (x1.1.tasks.length : Int)).bind fun x8 => ((getI x1.1.tasks x8.1).bind fun x9 => ((z00 x8.2 9).bind fun x10 => (if decide (x10.1 = 0) = true then ((z00 x10.2 2).bind fun x12 => ((getI [0, 4] x12.1).bind fun x13 => ((getI x1.1.tasks x8.1).bind fun x14 => (some ((GNet.mk x1.1.places (x1.1.tasks.set x8.1.toNat (GTask.mk x13 x9.split x9.in_ x9.out x9.clear x9.role x9.apart x9.all x9.need))), x12.2))))) else (if decide (x10.1 = 1) = true then ((z00 x10.2 4).bind fun x16 => ((getI [0, 4, 1, 2] x16.1).bind fun x17 => ((getI x1.1.tasks x8.1).bind fun x18 => (some ((GNet.mk x1.1.places (x1.1.tasks.set x8.1.toNat (GTask.mk x9.join x17 x9.in_ x9.out x9.clear x9.role x9.apart x9.all x9.need))), x16.2))))) else (if decide (x10.1 = 2) = true then (gd (([] : List Int).length + x9.in_.length ≤ SMALL) ((z00 x10.2 4).bind fun x21 => ((getI [1, 0, 7, 3] x21.1).bind fun x22 => (gd ((([] : List Int) ++ x9.in_).length + [x22].length ≤ SMALL) ((getI x1.1.tasks x8.1).bind fun x24 => (some ((GNet.mk x1.1.places (x1.1.tasks.set x8.1.toNat (GTask.mk x9.join x9.split ((([] : List Int) ++ x9.in_) ++ [x22]) x9.out x9.clear x9.role x9.apart x9.all x9.need))), x21.2))))))) else (if decide (x10.1 = 3) = true then (gd (([] : List GFlow).length + x9.out.length ≤ SMALL) ((z00 x10.2 4).bind fun x27 => ((z89 x27.2 2).bind fun x28 => (gd ((([] : List GFlow) ++ x9.out).length + [(GFlow.mk x27.1 x28.1)].length ≤ SMALL) ((getI x1.1.tasks x8.1).bind fun x30 => (some ((GNet.mk x1.1.places (x1.1.tasks.set x8.1.toNat (GTask.mk x9.join x9.split x9.in_ ((([] : List GFlow) ++ x9.out) ++ [(GFlow.mk x27.1 x28.1)]) x9.clear x9.role x9.apart x9.all x9.need))), x28.2))))))) else (if decide (x10.1 = 4) = true then (gd (([] : List Int).length + x9.clear.length ≤ SMALL) ((z00 x10.2 4).bind fun x33 => ((getI [0, 1, 2, 9] x33.1).bind fun x34 => (gd ((([] : List Int) ++ x9.clear).length + [x34].length ≤ SMALL) ((getI x1.1.tasks x8.1).bind fun x36 => (some ((GNet.mk x1.1.places (x1.1.tasks.set x8.1.toNat (GTask.mk x9.join x9.split x9.in_ x9.out ((([] : List Int) ++ x9.clear) ++ [x34]) x9.role x9.apart x9.all x9.need))), x33.2))))))) else (if decide (x10.1 = 5) = true then ((z00 x10.2 2).bind fun x38 => ((getI [0, 4] x38.1).bind fun x39 => ((getI x1.1.tasks x8.1).bind fun x40 => (some ((GNet.mk x1.1.places (x1.1.tasks.set x8.1.toNat (GTask.mk x9.join x9.split x9.in_ x9.out x9.clear x39 x9.apart x9.all x9.need))), x38.2))))) else (if decide (x10.1 = 6) = true then ((z00 x10.2 2).bind fun x42 => ((getI [(-2), 6] x42.1).bind fun x43 => ((getI x1.1.tasks x8.1).bind fun x44 => (some ((GNet.mk x1.1.places (x1.1.tasks.set x8.1.toNat (GTask.mk x9.join x9.split x9.in_ x9.out x9.clear x9.role x43 x9.all x9.need))), x42.2))))) else (if decide (x10.1 = 7) = true then (gd (ok64 (x9.all + 1)) ((z00 x10.2 2).bind fun x47 => ((getI [0, (x9.all + 1)] x47.1).bind fun x48 => ((getI x1.1.tasks x8.1).bind fun x49 => (some ((GNet.mk x1.1.places (x1.1.tasks.set x8.1.toNat (GTask.mk x9.join x9.split x9.in_ x9.out x9.clear x9.role x9.apart x9.all x48))), x47.2)))))) else ((z00 x10.2 3).bind fun x50 => ((getI [0, 4, 1] x50.1).bind fun x51 => ((getI x1.1.tasks x8.1).bind fun x52 => (some ((GNet.mk x1.1.places (x1.1.tasks.set x8.1.toNat (GTask.mk x9.join x9.split x9.in_ x9.out x9.clear x9.role x9.apart x51 x9.need))), x50.2))))))))))))))))))))
def z7h : Con := ⟨102, [.ptr (.s .rd) false, .v .I false], [((.s .net), false)], [(0, .ptr (.s .rd) false)], fun x => z59 x.1 x.2.1⟩
def y39 : Fs := ⟨[z81, z7o, zg9], [], []⟩
theorem y3d : y39.Ok Try.prog := (fsK y0f (fsK z9c (fsK yb2 fs0)))
theorem y3r : z7h.Ok Try.prog := fn_ok (k := z7h) (fn := Try.f102) (W := [(8, [.share 10009])]) (H := []) Try.func102 y3d trivial rfl rfl (fun av x => by kernel_rfl)
def z46 (p : Int) (n : Int) (s0_0 : List Int) (s0_1 : Int) (l0_3 : List Int) : Option ((List Int) × GRd) := if decide (1 < p) = true then ((z00 (GRd.mk s0_0 s0_1) 4).bind fun x7 => (if decide (0 < x7.1) = true then ((getI l0_3 1).bind fun x9 => ((z00 x7.2 n).bind fun x10 => (if decide (x10.1 = 0) = true then ((z00 x10.2 2).bind fun x12 => (if decide (x12.1 = 0) = true then (if decide (0 < p) = true then ((z00 x12.2 p).bind fun x15 => ((z00 x15.2 2).bind fun x16 => ((getI [(-1), 5] x16.1).bind fun x17 => ((getI (l0_3.set (1 : Int).toNat 0) x15.1).bind fun x18 => (some (((l0_3.set (1 : Int).toNat 0).set x15.1.toNat x17), x16.2)))))) else (gd ((l0_3.set (1 : Int).toNat 0).length + [0].length ≤ SMALL) (some (((l0_3.set (1 : Int).toNat 0) ++ [0]), x12.2)))) else (gd ((l0_3.set (1 : Int).toNat 0).length + [0].length ≤ SMALL) (some (((l0_3.set (1 : Int).toNat 0) ++ [0]), x12.2))))) else (some ((l0_3.set (1 : Int).toNat 0), x10.2))))) else ((z00 x7.2 n).bind fun x21 => (if decide (x21.1 = 0) = true then ((z00 x21.2 2).bind fun x23 => (if decide (x23.1 = 0) = true then (if decide (0 < p) = true then ((z00 x23.2 p).bind fun x26 => ((z00 x26.2 2).bind fun x27 => ((getI [(-1), 5] x27.1).bind fun x28 => ((getI l0_3 x26.1).bind fun x29 => (some ((l0_3.set x26.1.toNat x28), x27.2)))))) else (gd (l0_3.length + [0].length ≤ SMALL) (some ((l0_3 ++ [0]), x23.2)))) else (gd (l0_3.length + [0].length ≤ SMALL) (some ((l0_3 ++ [0]), x23.2))))) else (some (l0_3, x21.2)))))) else ((z00 (GRd.mk s0_0 s0_1) n).bind fun x32 => (if decide (x32.1 = 0) = true then ((z00 x32.2 2).bind fun x34 => (if decide (x34.1 = 0) = true then (if decide (0 < p) = true then ((z00 x34.2 p).bind fun x37 => ((z00 x37.2 2).bind fun x38 => ((getI [(-1), 5] x38.1).bind fun x39 => ((getI l0_3 x37.1).bind fun x40 => (some ((l0_3.set x37.1.toNat x39), x38.2)))))) else (gd (l0_3.length + [0].length ≤ SMALL) (some ((l0_3 ++ [0]), x34.2)))) else (gd (l0_3.length + [0].length ≤ SMALL) (some ((l0_3 ++ [0]), x34.2))))) else (some (l0_3, x32.2))))
def z2g (p : Int) (kx0_0 : List Int → Int → List Int → Option ((List Int) × GRd)) : Nat → List Int → Int → Int → List Int → Option ((List Int) × GRd)
  | 0, _, _, _, _ => none
  | n0 + 1, s0_0, s0_1, s0_2, l0_3 => if decide (s0_2 < p) = true then ((z00 (GRd.mk s0_0 s0_1) 6).bind fun x2 => ((getI [0, 0, 1, 1, 2, 4] x2.1).bind fun x3 => (gd (l0_3.length + [x3].length ≤ SMALL) (gd (ok64 (s0_2 + 1)) ((z2g p kx0_0 n0) x2.2.b x2.2.p (s0_2 + 1) (l0_3 ++ [x3])))))) else (kx0_0 s0_0 s0_1 l0_3)
def z65 (r : GRd) (p : Int) (n : Int) : Option ((List Int) × GRd) := z2g p (z46 p n) FUEL r.b r.p 0 ([] : List Int)
def z1j : Con := ⟨103, [.ptr (.s .rd) false, .v .I false, .v .I false], [((.sl .I), true)], [(0, .ptr (.s .rd) false)], fun x => z65 x.1 x.2.1 x.2.2.1⟩
def y4r : Fs := ⟨[z7o], [], []⟩
theorem zn0 : y4r.Ok Try.prog := (fsK z9c fs0)
def ze5 : Tmpl := ⟨[(0, .c (.bx 1000000 0)), (1, .c .i), (2, .c .i), (7, .c (.ref 9)), (8, .c .i)], [(1000000, .box [.s .Y, .i]), (9, .arr .I true)]⟩
def z9m : Tmpl := ⟨[(0, .c (.bx 1000000 0)), (1, .c .i), (2, .c .i), (7, .c (.ref 9))], [(1000000, .box [.s .Y, .i]), (9, .arr .I true)]⟩
def y12 (av : AV) (x : HP z1j.ps) (n : Nat) (v : ze5.den) (K : Ks (CR z1j)) : Option (CR z1j) := z2g v.1.2.1 (fun s0_0 s0_1 l0_3 => z9m.at none (((), v.1.2.1, v.1.2.2.1, (), ()), ((s0_0, s0_1, ()), l0_3, ())) (K (.exit 0))) n v.2.1.1 v.2.1.2.1 v.1.2.2.2.2.1 v.2.2.1
def zc0 (av : AV) (x : HP z1j.ps) : Hdl (CR z1j) := hnd [] ze5 (y12 av x)
theorem y1l : LP z1j Try.f103 [0] zc0 := lp_ok (W := []) (H := []) (xs := [z9m]) zn0 trivial rfl (fun av x v K => by kernel_rfl) (fun av x n v K => by kernel_rfl)
theorem y5k : z1j.Ok Try.prog := fn_ok (k := z1j) (fn := Try.f103) (W := []) (H := [zc0]) Try.func103 zn0 ⟨y1l, trivial⟩ rfl rfl (fun av x => by kernel_rfl)
def z4q (k : Int) (s0_0 : List Int) (s0_1 : Int) (l0_3 : List GItem) : Option ((List GItem) × GRd) := (z00 (GRd.mk s0_0 s0_1) k).bind fun x14 => (if decide (x14.1 = 0) = true then ((z00 x14.2 3).bind fun x16 => ((getI [(-1), 6, 0] x16.1).bind fun x17 => ((z00 x16.2 3).bind fun x18 => ((getI [0, 5, 1] x18.1).bind fun x19 => ((z00 x18.2 3).bind fun x20 => ((getI [(-1), 3, 0] x20.1).bind fun x21 => (gd (l0_3.length + [(GItem.mk x17 x19 x21)].length ≤ SMALL) (some ((l0_3 ++ [(GItem.mk x17 x19 x21)]), x20.2))))))))) else (some (l0_3, x14.2)))
def z1v (n : GNet) (kx0_0 : List Int → Int → List GItem → Option ((List GItem) × GRd)) : Nat → List Int → Int → Int → List GItem → Option ((List GItem) × GRd)
  | 0, _, _, _, _ => none
  | n0 + 1, s0_0, s0_1, s0_2, l0_3 => if decide (0 < s0_2) = true then ((z00 (GRd.mk s0_0 s0_1) (n.tasks.length : Int)).bind fun x3 => ((z00 x3.2 4).bind fun x4 => (gd (ok64 (1 + x4.1)) ((getI n.tasks x3.1).bind fun x6 => (if decide (1 < x6.need) = true then ((getI n.tasks x3.1).bind fun x8 => ((z00 x4.2 x8.need).bind fun x9 => (gd (l0_3.length + [(GItem.mk x3.1 (1 + x4.1) x9.1)].length ≤ SMALL) (gd (ok64 (s0_2 - 1)) ((z1v n kx0_0 n0) x9.2.b x9.2.p (s0_2 - 1) (l0_3 ++ [(GItem.mk x3.1 (1 + x4.1) x9.1)])))))) else (gd (l0_3.length + [(GItem.mk x3.1 (1 + x4.1) 0)].length ≤ SMALL) (gd (ok64 (s0_2 - 1)) ((z1v n kx0_0 n0) x4.2.b x4.2.p (s0_2 - 1) (l0_3 ++ [(GItem.mk x3.1 (1 + x4.1) 0)]))))))))) else (kx0_0 s0_0 s0_1 l0_3)
def z72 (r : GRd) (n : GNet) (k : Int) : Option ((List GItem) × GRd) := (z00 r 3).bind fun x1 => (z1v n (z4q k) FUEL x1.2.b x1.2.p x1.1 ([] : List GItem))
def z23 : Con := ⟨104, [.ptr (.s .rd) false, .v (.s .net) false, .v .I false], [((.sl (.s .item)), true)], [(0, .ptr (.s .rd) false)], fun x => z72 x.1 x.2.1 x.2.2.1⟩
def y71 : Fs := ⟨[z7o], [], []⟩
theorem zu2 : y71.Ok Try.prog := (fsK z9c fs0)
def zk4 : Tmpl := ⟨[(0, .c (.bx 1000000 0)), (2, .c .i), (4, .c (.bx 4 0)), (7, .c (.ref 11)), (8, .c .i)], [(1000000, .box [.s .Y, .i]), (4, .boxT (.s .net)), (11, .arr (.s .item) true)]⟩
def zf6 : Tmpl := ⟨[(0, .c (.bx 1000000 0)), (2, .c .i), (7, .c (.ref 11))], [(1000000, .box [.s .Y, .i]), (11, .arr (.s .item) true)]⟩
def y30 (av : AV) (x : HP z23.ps) (n : Nat) (v : zk4.den) (K : Ks (CR z23)) : Option (CR z23) := z1v v.2.2.1 (fun s0_0 s0_1 l0_3 => zf6.at none (((), v.1.2.1, (), ()), ((s0_0, s0_1, ()), l0_3, ())) (K (.exit 0))) n v.2.1.1 v.2.1.2.1 v.1.2.2.2.2.1 v.2.2.2.1
def zi6 (av : AV) (x : HP z23.ps) : Hdl (CR z23) := hnd [] zk4 (y30 av x)
theorem y3l : LP z23 Try.f104 [0] zi6 := lp_ok (W := []) (H := []) (xs := [zf6]) zu2 trivial rfl (fun av x v K => by kernel_rfl) (fun av x n v K => by kernel_rfl)
theorem y81 : z23.Ok Try.prog := fn_ok (k := z23) (fn := Try.f104) (W := []) (H := [zi6]) Try.func104 zu2 ⟨y3l, trivial⟩ rfl rfl (fun av x => by kernel_rfl)
def z41 (r : GRd) (n : Int) : Option ((List Int) × GRd) := (z00 r 5).bind fun x1 => ((getI [[7], [7, 7], [1, 2, 4], [3, 5, 6, 7], [7, 3, 4]] x1.1).bind fun x2 => (gd (([] : List Int).length + x2.length ≤ SMALL) ((z00 x1.2 n).bind fun x4 => (if decide (x4.1 = 0) = true then ((z00 x4.2 3).bind fun x6 => (if decide (x6.1 = 0) = true then (some (([] : List Int), x6.2)) else (if decide (x6.1 = 1) = true then ((z00 x6.2 3).bind fun x9 => ((getI [(-1), 8, 0] x9.1).bind fun x10 => ((getI (([] : List Int) ++ x2) 0).bind fun x11 => (some (((([] : List Int) ++ x2).set (0 : Int).toNat x10), x9.2))))) else (some ([1, 1, 1, 1, 1], x6.2))))) else (some ((([] : List Int) ++ x2), x4.2))))))
def z7i : Con := ⟨99, [.ptr (.s .rd) false, .v .I false], [((.sl .I), true)], [(0, .ptr (.s .rd) false)], fun x => z41 x.1 x.2.1⟩
def y3a : Fs := ⟨[z7o], [], []⟩
theorem y3e : y3a.Ok Try.prog := (fsK z9c fs0)
theorem y3s : z7i.Ok Try.prog := fn_ok (k := z7i) (fn := Try.f99) (W := []) (H := []) Try.func99 y3e trivial rfl rfl (fun av x => by kernel_rfl)
def z73 (r : GRd) (n : GNet) (p : List Int) (c : GCase) : Option (GCase × GRd) := if decide (0 < (c.busy.length : Int)) = true then ((z00 r 3).bind fun x2 => (if decide (0 < x2.1) = true then ((z00 x2.2 (c.busy.length : Int)).bind fun x4 => ((z00 x4.2 4).bind fun x5 => (gd (ok64 (x5.1 - 1)) ((z00 x5.2 7).bind fun x7 => (gd (ok64 (x7.1 - 2)) ((z4z n c x4.1 (x5.1 - 1) (x7.1 - 2)).bind fun x9 => (some (x9.1, x7.2)))))))) else ((z2z n c.marks c.busy).bind fun x10 => (if decide ((x10.length : Int) = 0) = true then (some (c, x2.2)) else ((z00 x2.2 (x10.length : Int)).bind fun x12 => ((getI x10 x12.1).bind fun x13 => ((z3b n p c.did c.busy x13).bind fun x14 => (if decide ((x14.length : Int) = 0) = true then (some (c, x12.2)) else ((z00 x12.2 (x14.length : Int)).bind fun x16 => ((getI x14 x16.1).bind fun x17 => ((z2y n p c x13 x17).bind fun x18 => (some (x18.1, x16.2))))))))))))) else ((z2z n c.marks c.busy).bind fun x19 => (if decide ((x19.length : Int) = 0) = true then (some (c, r)) else ((z00 r (x19.length : Int)).bind fun x21 => ((getI x19 x21.1).bind fun x22 => ((z3b n p c.did c.busy x22).bind fun x23 => (if decide ((x23.length : Int) = 0) = true then (some (c, x21.2)) else ((z00 x21.2 (x23.length : Int)).bind fun x25 => ((getI x23 x25.1).bind fun x26 => ((z2y n p c x22 x26).bind fun x27 => (some (x27.1, x25.2)))))))))))
def z9z : Con := ⟨66, [.ptr (.s .rd) false, .v (.s .net) false, .v (.sl .I) false, .v (.s .kase) true], [((.s .kase), true)], [(0, .ptr (.s .rd) false)], fun x => z73 x.1 x.2.1 x.2.2.1 x.2.2.2.1⟩
def y76 : Fs := ⟨[z7o, z6x, z16, z0d, z5r], [], []⟩
theorem y7h : y76.Ok Try.prog := (fsK z9c (fsK zv9 (fsK zp7 (fsK zh5 (fsK zp6 fs0)))))
theorem y84 : z9z.Ok Try.prog := fn_ok (k := z9z) (fn := Try.f66) (W := []) (H := []) Try.func66 y7h trivial rfl rfl (fun av x => by kernel_rfl)
end
end Go.Am
