/- Mirrors and contracts, printed. Own work. -/
import Derived.Test.YtgolgnbgomhknaaGreatCaB5
set_option maxRecDepth 100000
set_option maxHeartbeats 4000000
set_option linter.unusedVariables false
set_option linter.unusedSimpArgs false
namespace Go.Am
noncomputable section
open Go Go.Proofs
def z07 (n : Int) (low : Int) (high : Int) : Option Bool := if decide (low ≤ n) = true then (some (decide (n ≤ high))) else (some false)
def z0t : Con := ⟨90, [.v .I false, .v .I false, .v .I false], [(.B, true)], [], fun x => z07 x.1 x.2.1 x.2.2.1⟩
def w1a : Fs := ⟨[], [], []⟩
theorem w1c : w1a.Ok Tryz.prog := fs0
theorem z17 : z0t.Ok Tryz.prog := fn_ok (k := z0t) (fn := Tryz.f90) (W := []) (H := []) Tryz.func90 w1c trivial rfl rfl (fun av x => by kernel_rfl)
def zy1  : Option Bool := some true
def z47 (data : List Int) (kx0_0 : Option Bool) : Nat → Int → Option Bool
  | 0, _ => none
  | n0 + 1, s0_0 => if decide (s0_0 < (data.length : Int)) = true then ((getI data s0_0).bind fun x3 => ((z07 x3 (-99) 99).bind fun x4 => (if x4 = true then (gd (ok64 (s0_0 + 1)) ((z47 data kx0_0 n0) (s0_0 + 1))) else (some false)))) else (kx0_0)
def z4f (data : List Int) : Option Bool := if decide ((data.length : Int) = 3) = true then (z47 data zy1 FUEL 0) else (some false)
def z1m : Con := ⟨89, [.v (.sl .I) false], [(.B, true)], [], fun x => z4f x.1⟩
def yw6 : Fs := ⟨[z0t], [], []⟩
theorem y5q : yw6.Ok Tryz.prog := (fsK z17 fs0)
def y1y : Tmpl := ⟨[(0, .c (.s .I)), (3, .c .i)], []⟩
def y0d : Tmpl := ⟨[], []⟩
def yb0 (av : AV) (x : HP z1m.ps) (n : Nat) (v : y1y.den) (K : Ks (CR z1m)) : Option (CR z1m) := z47 v.1.1 (y0d.at none ((), ()) (K (.exit 0))) n v.1.2.1
def y1i (av : AV) (x : HP z1m.ps) : Hdl (CR z1m) := hnd [] y1y (yb0 av x)
theorem yf1 : LP z1m Tryz.f89 [0] y1i := lp_ok (W := []) (H := []) (xs := [y0d]) y5q trivial rfl (fun av x v K => by kernel_rfl) (fun av x n v K => by kernel_rfl)
theorem z97 : z1m.Ok Tryz.prog := fn_ok (k := z1m) (fn := Tryz.f89) (W := []) (H := [y1i]) Tryz.func89 y5q ⟨yf1, trivial⟩ rfl rfl (fun av x => by kernel_rfl)
def za7 (data : List Int) (k : Int) (n : Int) : Option (List Int) := (z4f data).bind fun x1 => (if x1 = true then ((z07 k 0 2).bind fun x3 => (if x3 = true then ((z07 n (-99) 99).bind fun x5 => (if x5 = true then (gd (([] : List Int).length + data.length ≤ SMALL) ((getI (([] : List Int) ++ data) k).bind fun x8 => (some ((([] : List Int) ++ data).set k.toNat n)))) else (gd (([] : List Int).length + data.length ≤ SMALL) (some (([] : List Int) ++ data))))) else (gd (([] : List Int).length + data.length ≤ SMALL) (some (([] : List Int) ++ data))))) else (gd (([] : List Int).length + data.length ≤ SMALL) (some (([] : List Int) ++ data))))
def zp2 : Con := ⟨171, [.v (.sl .I) false, .v .I false, .v .I false], [((.sl .I), true)], [], fun x => za7 x.1 x.2.1 x.2.2.1⟩
def ym6 : Fs := ⟨[z1m, z0t], [], []⟩
theorem yo6 : ym6.Ok Tryz.prog := (fsK z97 (fsK z17 fs0))
theorem yr0 : zp2.Ok Tryz.prog := fn_ok (k := zp2) (fn := Tryz.f171) (W := []) (H := []) Tryz.func171 yo6 trivial rfl rfl (fun av x => by kernel_rfl)
def z6h (e : GAsk) : Option Bool := if decide (e.op = 0) = true then (some (decide ([e.op, e.var, e.k] = [0, 0, 0]))) else ((z07 e.op 1 3).bind fun x2 => (if x2 = true then ((z07 e.var 0 2).bind fun x4 => (if x4 = true then ((z07 e.k (-99) 99).bind fun x6 => (some x6)) else (some false))) else (some false)))
def ze4 : Con := ⟨138, [.v (.s .ask) false], [(.B, true)], [], fun x => z6h x.1⟩
def yw7 : Fs := ⟨[z0t], [], []⟩
theorem yy3 : yw7.Ok Tryz.prog := (fsK z17 fs0)
theorem y66 : ze4.Ok Tryz.prog := fn_ok (k := ze4) (fn := Tryz.f138) (W := []) (H := []) Tryz.func138 yy3 trivial rfl rfl (fun av x => by kernel_rfl)
def z77 (e : GAsk) (data : List Int) : Option Bool := (z6h e).bind fun x1 => (if x1 = true then ((z4f data).bind fun x3 => (if x3 = true then (if decide (e.op = 1) = true then ((getI data e.var).bind fun x6 => (some (decide (x6 < e.k)))) else (if decide (e.op = 2) = true then ((getI data e.var).bind fun x8 => (some (decide (x8 = e.k)))) else (if decide (e.op = 3) = true then ((getI data e.var).bind fun x10 => (some (decide (e.k < x10)))) else (some true)))) else (some false))) else (some false))
def zc4 : Con := ⟨181, [.v (.s .ask) false, .v (.sl .I) false], [(.B, true)], [], fun x => z77 x.1 x.2.1⟩
def y8c : Fs := ⟨[ze4, z1m], [], []⟩
theorem y8q : y8c.Ok Tryz.prog := (fsK y66 (fsK z97 fs0))
theorem y99 : zc4.Ok Tryz.prog := fn_ok (k := zc4) (fn := Tryz.f181) (W := []) (H := []) Tryz.func181 y8q trivial rfl rfl (fun av x => by kernel_rfl)
def z0v (n : Int) (low : Int) (high : Int) : Option Bool := if decide (low ≤ n) = true then (some (decide (n ≤ high))) else (some false)
def z2n : Con := ⟨113, [.v .I false, .v .I false, .v .I false], [(.B, true)], [], fun x => z0v x.1 x.2.1 x.2.2.1⟩
def w4z : Fs := ⟨[], [], []⟩
theorem w5a : w4z.Ok Tryz.prog := fs0
theorem z3d : z2n.Ok Tryz.prog := fn_ok (k := z2n) (fn := Tryz.f113) (W := []) (H := []) Tryz.func113 w5a trivial rfl rfl (fun av x => by kernel_rfl)
def z5y (n : Int) : Option Bool := (z0v n (-99) 99).bind fun x1 => (some x1)
def z8i : Con := ⟨114, [.v .I false], [(.B, true)], [], fun x => z5y x.1⟩
def yc1 : Fs := ⟨[z2n], [], []⟩
theorem ye0 : yc1.Ok Tryz.prog := (fsK z3d fs0)
theorem y1r : z8i.Ok Tryz.prog := fn_ok (k := z8i) (fn := Tryz.f114) (W := []) (H := []) Tryz.func114 ye0 trivial rfl rfl (fun av x => by kernel_rfl)
def z3i (list : List Int) : Option (List Int) := gd (([] : List Int).length + list.length ≤ SMALL) (some (([] : List Int) ++ list))
def z66 : Con := ⟨140, [.v (.sl .I) false], [((.sl .I), true)], [], fun x => z3i x.1⟩
def y6t : Fs := ⟨[], [], []⟩
theorem y6x : y6t.Ok Tryz.prog := fs0
theorem zs3 : z66.Ok Tryz.prog := fn_ok (k := z66) (fn := Tryz.f140) (W := []) (H := []) Tryz.func140 y6x trivial rfl rfl (fun av x => by kernel_rfl)
def z90 (e : GAsk) : Option Bool := if decide (e.op = 0) = true then (if decide (e.var = 0) = true then (some (decide (e.k = 0))) else (some false)) else ((z0v e.op 1 3).bind fun x3 => (if x3 = true then ((z0v e.var 0 2).bind fun x5 => (if x5 = true then ((z5y e.k).bind fun x7 => (some x7)) else (some false))) else (some false)))
def zx1 : Con := ⟨141, [.v (.s .ask) false], [(.B, true)], [], fun x => z90 x.1⟩
def yv9 : Fs := ⟨[z2n, z8i], [], []⟩
theorem yx9 : yv9.Ok Tryz.prog := (fsK z3d (fsK y1r fs0))
theorem w00 : zx1.Ok Tryz.prog := fn_ok (k := zx1) (fn := Tryz.f141) (W := []) (H := []) Tryz.func141 yx9 trivial rfl rfl (fun av x => by kernel_rfl)
def zl2  : Option Bool := some true
def z28 (list : List Int) (low : Int) (high : Int) (kx0_0 : Option Bool) : Nat → Int → Option Bool
  | 0, _ => none
  | n0 + 1, s0_0 => if decide (s0_0 < (list.length : Int)) = true then ((getI list s0_0).bind fun x4 => ((z07 x4 low high).bind fun x5 => (if x5 = true then (if decide (0 < s0_0) = true then (gd (ok64 (s0_0 - 1)) ((getI list (s0_0 - 1)).bind fun x9 => ((getI list s0_0).bind fun x10 => (if decide (x10 ≤ x9) = true then (some false) else (gd (ok64 (s0_0 + 1)) ((z28 list low high kx0_0 n0) (s0_0 + 1))))))) else (gd (ok64 (s0_0 + 1)) ((z28 list low high kx0_0 n0) (s0_0 + 1)))) else (some false)))) else (kx0_0)
def z60 (list : List Int) (least : Int) (most : Int) (low : Int) (high : Int) : Option Bool := (z07 (list.length : Int) least most).bind fun x1 => (if x1 = true then (z28 list low high zl2 FUEL 0) else (some false))
def z2j : Con := ⟨214, [.v (.sl .I) false, .v .I false, .v .I false, .v .I false, .v .I false], [(.B, true)], [], fun x => z60 x.1 x.2.1 x.2.2.1 x.2.2.2.1 x.2.2.2.2.1⟩
def yd5 : Fs := ⟨[z0t], [], []⟩
theorem y1c : yd5.Ok Tryz.prog := (fsK z17 fs0)
def zt5 : Tmpl := ⟨[(0, .c (.s .I)), (3, .c .i), (4, .c .i), (11, .c .i)], []⟩
def zn4 : Tmpl := ⟨[], []⟩
def y6q (av : AV) (x : HP z2j.ps) (n : Nat) (v : zt5.den) (K : Ks (CR z2j)) : Option (CR z2j) := z28 v.1.1 v.1.2.1 v.1.2.2.1 (zn4.at none ((), ()) (K (.exit 0))) n v.1.2.2.2.1
def zr6 (av : AV) (x : HP z2j.ps) : Hdl (CR z2j) := hnd [] zt5 (y6q av x)
theorem y7a : LP z2j Tryz.f214 [0] zr6 := lp_ok (W := []) (H := []) (xs := [zn4]) y1c trivial rfl (fun av x v K => by kernel_rfl) (fun av x n v K => by kernel_rfl)
theorem yh5 : z2j.Ok Tryz.prog := fn_ok (k := z2j) (fn := Tryz.f214) (W := []) (H := [zr6]) Tryz.func214 y1c ⟨y7a, trivial⟩ rfl rfl (fun av x => by kernel_rfl)
def zy5  : Option Bool := some false
def z4d (list : List Int) (n : Int) (kx0_0 : Option Bool) : Nat → Int → Option Bool
  | 0, _ => none
  | n0 + 1, s0_0 => if decide (s0_0 < (list.length : Int)) = true then ((getI list s0_0).bind fun x2 => (if decide (x2 = n) = true then (some true) else (gd (ok64 (s0_0 + 1)) ((z4d list n kx0_0 n0) (s0_0 + 1))))) else (kx0_0)
def z6i (list : List Int) (n : Int) : Option Bool := z4d list n zy5 FUEL 0
def z2p : Con := ⟨101, [.v (.sl .I) false, .v .I false], [(.B, true)], [], fun x => z6i x.1 x.2.1⟩
def yx2 : Fs := ⟨[], [], []⟩
theorem y5v : yx2.Ok Tryz.prog := fs0
def y23 : Tmpl := ⟨[(0, .c (.s .I)), (1, .c .i), (5, .c .i)], []⟩
def y0h : Tmpl := ⟨[], []⟩
def yb5 (av : AV) (x : HP z2p.ps) (n : Nat) (v : y23.den) (K : Ks (CR z2p)) : Option (CR z2p) := z4d v.1.1 v.1.2.1 (y0h.at none ((), ()) (K (.exit 0))) n v.1.2.2.1
def y1n (av : AV) (x : HP z2p.ps) : Hdl (CR z2p) := hnd [] y23 (yb5 av x)
theorem yf6 : LP z2p Tryz.f101 [0] y1n := lp_ok (W := []) (H := []) (xs := [y0h]) y5v trivial rfl (fun av x v K => by kernel_rfl) (fun av x n v K => by kernel_rfl)
theorem zz5 : z2p.Ok Tryz.prog := fn_ok (k := z2p) (fn := Tryz.f101) (W := []) (H := [y1n]) Tryz.func101 y5v ⟨yf6, trivial⟩ rfl rfl (fun av x => by kernel_rfl)
def zk9 (s0_0 : Int) (bk0 : Int → Option Bool) : Option Bool := gd (ok64 (s0_0 + 1)) (bk0 (s0_0 + 1))
def z1n (t : GTask) (s0_0 : Int) (x4 : GFlow) (kx1_0 : Option Bool) : Nat → Int → Option Bool
  | 0, _ => none
  | n1 + 1, s1_0 => if decide (s1_0 < s0_0) = true then ((getI t.out s1_0).bind fun x14 => (if decide (x14.to = x4.to) = true then (some false) else (gd (ok64 (s1_0 + 1)) ((z1n t s0_0 x4 kx1_0 n1) (s1_0 + 1))))) else (kx1_0)
def zl0 (s0_0 : Int) (bk0 : Int → Option Bool) : Option Bool := gd (ok64 (s0_0 + 1)) (bk0 (s0_0 + 1))
def zl1  : Option Bool := some true
def z27 (t : GTask) (places : Int) (kx0_0 : Option Bool) : Nat → Int → Option Bool
  | 0, _ => none
  | n0 + 1, s0_0 => if decide (s0_0 < (t.out.length : Int)) = true then ((getI t.out s0_0).bind fun x4 => (gd (ok64 ((t.out.length : Int) - 1)) (if decide (s0_0 = ((t.out.length : Int) - 1)) = true then (gd (ok64 (places - 1)) ((z07 x4.to 1 (places - 1)).bind fun x8 => (if x8 = true then ((z6h x4.if_).bind fun x10 => (if x10 = true then (if (true == (decide (x4.if_.op = 0))) = true then (z1n t s0_0 x4 (zk9 s0_0 (z27 t places kx0_0 n0)) FUEL 0) else (some false)) else (some false))) else (some false)))) else (gd (ok64 (places - 1)) ((z07 x4.to 1 (places - 1)).bind fun x19 => (if x19 = true then ((z6h x4.if_).bind fun x21 => (if x21 = true then (if ((decide (t.split = 1)) == (decide (x4.if_.op = 0))) = true then (z1n t s0_0 x4 (zl0 s0_0 (z27 t places kx0_0 n0)) FUEL 0) else (some false)) else (some false))) else (some false))))))) else (kx0_0)
def z8s (t : GTask) (places : Int) : Option Bool := (z07 (t.out.length : Int) 1 3).bind fun x1 => (if x1 = true then (z27 t places zl1 FUEL 0) else (some false))
def z0l : Con := ⟨215, [.v (.s .task) false, .v .I false], [(.B, true)], [], fun x => z8s x.1 x.2.1⟩
def yd4 : Fs := ⟨[z0t, ze4], [], []⟩
theorem zg8 : yd4.Ok Tryz.prog := (fsK z17 (fsK y66 fs0))
def zf6 : Tmpl := ⟨[(1, .c .i), (2, .c (.bx 2 0)), (5, .c .i), (6, .c (.bx 6 0)), (8, .c .i)], [(2, .boxT (.s .task)), (6, .boxT (.s .flow))]⟩
def zd5 : Tmpl := ⟨[(1, .c .i), (2, .c (.bx 2 0)), (5, .c .i)], [(2, .boxT (.s .task))]⟩
def y2t (av : AV) (x : HP z0l.ps) (n : Nat) (v : zf6.den) (K : Ks (CR z0l)) : Option (CR z0l) := z1n v.2.1 v.1.2.2.1 v.2.2.1 (zd5.at none ((v.1.1, (), v.1.2.2.1, ()), (v.2.1, ())) (K (.exit 2))) n v.1.2.2.2.2.1
def zd9 (av : AV) (x : HP z0l.ps) : Hdl (CR z0l) := hnd [] zf6 (y2t av x)
theorem y3c : LP z0l Tryz.f215 [0, 0] zd9 := lp_ok (W := []) (H := []) (xs := [zd5]) zg8 trivial rfl (fun av x v K => by kernel_rfl) (fun av x n v K => by kernel_rfl)
def zt4 : Tmpl := ⟨[(1, .c .i), (2, .c (.bx 2 0)), (5, .c .i)], [(2, .boxT (.s .task))]⟩
def zn3 : Tmpl := ⟨[], []⟩
def y6p (av : AV) (x : HP z0l.ps) (n : Nat) (v : zt4.den) (K : Ks (CR z0l)) : Option (CR z0l) := z27 v.2.1 v.1.1 (zn3.at none ((), ()) (K (.exit 0))) n v.1.2.2.1
def zr5 (av : AV) (x : HP z0l.ps) : Hdl (CR z0l) := hnd [] zt4 (y6p av x)
theorem y79 : LP z0l Tryz.f215 [0] zr5 := lp_ok (W := []) (H := [zd9]) (xs := [zn3]) zg8 ⟨y3c, trivial⟩ rfl (fun av x v K => by kernel_rfl) (fun av x n v K => by kernel_rfl)
theorem yh4 : z0l.Ok Tryz.prog := fn_ok (k := z0l) (fn := Tryz.f215) (W := []) (H := [zr5]) Tryz.func215 zg8 ⟨y79, trivial⟩ rfl rfl (fun av x => by kernel_rfl)
def zb1 (t : GTask) (places : Int) (tasks : Int) : Option Bool := (z07 t.join 1 3).bind fun x1 => (if x1 = true then ((z07 t.split 1 3).bind fun x3 => (if x3 = true then (gd (ok64 (places - 1)) ((z60 t.in_ 1 3 0 (places - 1)).bind fun x6 => (if x6 = true then ((z6i t.in_ 1).bind fun x8 => (if x8 = true then (some false) else ((z8s t places).bind fun x10 => (if x10 = true then (gd (ok64 (places - 1)) ((z60 t.clear 0 places 2 (places - 1)).bind fun x13 => (if x13 = true then ((z07 t.role 1 3).bind fun x15 => (if x15 = true then (gd (ok64 (tasks - 1)) ((z07 t.apart (-1) (tasks - 1)).bind fun x18 => (if x18 = true then ((z07 t.all 1 3).bind fun x20 => (if x20 = true then ((z07 t.need 1 t.all).bind fun x22 => (some x22)) else (some false))) else (some false)))) else (some false))) else (some false)))) else (some false))))) else (some false)))) else (some false))) else (some false))
def zp4 : Con := ⟨198, [.v (.s .task) false, .v .I false, .v .I false], [(.B, true)], [], fun x => zb1 x.1 x.2.1 x.2.2.1⟩
def yn3 : Fs := ⟨[z0t, z2j, z2p, z0l], [], []⟩
theorem yp0 : yn3.Ok Tryz.prog := (fsK z17 (fsK yh5 (fsK zz5 (fsK yh4 fs0))))
theorem yr4 : zp4.Ok Tryz.prog := fn_ok (k := zp4) (fn := Tryz.f198) (W := []) (H := []) Tryz.func198 yp0 trivial rfl rfl (fun av x => by kernel_rfl)
def zy3  : Option Bool := some true
def z4a (n : GNet) (kx0_0 : Option Bool) : Nat → Int → Option Bool
  | 0, _ => none
  | n0 + 1, s0_0 => if decide (s0_0 < (n.tasks.length : Int)) = true then ((getI n.tasks s0_0).bind fun x6 => ((zb1 x6 n.places (n.tasks.length : Int)).bind fun x7 => (if x7 = true then (gd (ok64 (s0_0 + 1)) ((z4a n kx0_0 n0) (s0_0 + 1))) else (some false)))) else (kx0_0)
def z2q (n : GNet) : Option Bool := (z07 n.places 2 8).bind fun x1 => (if x1 = true then ((z07 (n.tasks.length : Int) 1 6).bind fun x3 => (if x3 = true then (z4a n zy3 FUEL 0) else (some false))) else (some false))
def z20 : Con := ⟨161, [.v (.s .net) false], [(.B, true)], [], fun x => z2q x.1⟩
def yw9 : Fs := ⟨[z0t, zp4], [], []⟩
theorem y5s : yw9.Ok Tryz.prog := (fsK z17 (fsK yr4 fs0))
def y20 : Tmpl := ⟨[(1, .c (.bx 1 0)), (3, .c .i)], [(1, .boxT (.s .net))]⟩
def y0f : Tmpl := ⟨[], []⟩
def yb2 (av : AV) (x : HP z20.ps) (n : Nat) (v : y20.den) (K : Ks (CR z20)) : Option (CR z20) := z4a v.2.1 (y0f.at none ((), ()) (K (.exit 0))) n v.1.2.1
def y1k (av : AV) (x : HP z20.ps) : Hdl (CR z20) := hnd [] y20 (yb2 av x)
theorem yf3 : LP z20 Tryz.f161 [0] y1k := lp_ok (W := []) (H := []) (xs := [y0f]) y5s trivial rfl (fun av x v K => by kernel_rfl) (fun av x n v K => by kernel_rfl)
theorem zf4 : z20.Ok Tryz.prog := fn_ok (k := z20) (fn := Tryz.f161) (W := []) (H := [y1k]) Tryz.func161 y5s ⟨yf3, trivial⟩ rfl rfl (fun av x => by kernel_rfl)
def z7f (s1_0 : Int) (bk1 : Int → List Bool → Option (List Bool)) (l3_1 : List Bool) : Option (List Bool) := gd (ok64 (s1_0 + 1)) (bk1 (s1_0 + 1) l3_1)
def z7g (s1_0 : Int) (bk1 : Int → List Bool → Option (List Bool)) (l3_1 : List Bool) : Option (List Bool) := gd (ok64 (s1_0 + 1)) (bk1 (s1_0 + 1) l3_1)
def z7h (s1_0 : Int) (bk1 : Int → List Bool → Option (List Bool)) (l3_1 : List Bool) : Option (List Bool) := gd (ok64 (s1_0 + 1)) (bk1 (s1_0 + 1) l3_1)
def z10 (n : GNet) (but : Int) (s1_0 : Int) (s2_0 : Bool) (kx3_0 : List Bool → Option (List Bool)) (kx3_1 : List Bool → Option (List Bool)) (kx3_2 : List Bool → Option (List Bool)) : Nat → Int → List Bool → Option (List Bool)
  | 0, _, _ => none
  | n3 + 1, s3_0, l3_1 => (getI n.tasks s1_0).bind fun x12 => (if decide (s3_0 < (x12.out.length : Int)) = true then (if s2_0 = true then (if decide (s1_0 = but) = true then (kx3_0 l3_1) else ((getI n.tasks s1_0).bind fun x17 => ((getI x17.out s3_0).bind fun x18 => ((getI l3_1 x18.to).bind fun x19 => (gd (ok64 (s3_0 + 1)) ((z10 n but s1_0 s2_0 kx3_0 kx3_1 kx3_2 n3) (s3_0 + 1) (l3_1.set x18.to.toNat true))))))) else (kx3_1 l3_1)) else (kx3_2 l3_1))
def ze8 (n : GNet) (but : Int) (s1_0 : Int) (l1_1 : List Bool) (bk1 : Int → List Bool → Option (List Bool)) (s2_0 : Bool) : Option (List Bool) := z10 n but s1_0 s2_0 (z7f s1_0 bk1) (z7g s1_0 bk1) (z7h s1_0 bk1) FUEL 0 l1_1
def z1d (n : GNet) (s1_0 : Int) (l1_1 : List Bool) (kx2_0 : Bool → Option (List Bool)) : Nat → Bool → Int → Option (List Bool)
  | 0, _, _ => none
  | n2 + 1, s2_0, s2_1 => (getI n.tasks s1_0).bind fun x4 => (if decide (s2_1 < (x4.in_.length : Int)) = true then (if s2_0 = true then (gd (ok64 (s2_1 + 1)) ((z1d n s1_0 l1_1 kx2_0 n2) true (s2_1 + 1))) else ((getI n.tasks s1_0).bind fun x8 => ((getI x8.in_ s2_1).bind fun x9 => ((getI l1_1 x9).bind fun x10 => (gd (ok64 (s2_1 + 1)) ((z1d n s1_0 l1_1 kx2_0 n2) x10 (s2_1 + 1))))))) else (kx2_0 s2_0))
def ze9 (s0_0 : Int) (bk0 : Int → List Bool → Option (List Bool)) (l1_1 : List Bool) : Option (List Bool) := gd (ok64 (s0_0 + 1)) (bk0 (s0_0 + 1) l1_1)
def z0c (n : GNet) (but : Int) (kx1_0 : List Bool → Option (List Bool)) : Nat → Int → List Bool → Option (List Bool)
  | 0, _, _ => none
  | n1 + 1, s1_0, l1_1 => if decide (s1_0 < (n.tasks.length : Int)) = true then (z1d n s1_0 l1_1 (ze8 n but s1_0 l1_1 (z0c n but kx1_0 n1)) FUEL false 0) else (kx1_0 l1_1)
def zf0 (l0_1 : List Bool) : Option (List Bool) := some l0_1
def z2x (n : GNet) (but : Int) (kx0_0 : List Bool → Option (List Bool)) : Nat → Int → List Bool → Option (List Bool)
  | 0, _, _ => none
  | n0 + 1, s0_0, l0_1 => if decide (s0_0 < n.places) = true then (z0c n but (ze9 s0_0 (z2x n but kx0_0 n0)) FUEL 0 l0_1) else (kx0_0 l0_1)
def z7e (n : GNet) (marked : List Bool) (but : Int) : Option (List Bool) := gd (([] : List Bool).length + marked.length ≤ SMALL) (z2x n but zf0 FUEL 0 (([] : List Bool) ++ marked))
def z05 : Con := ⟨216, [.v (.s .net) false, .v (.sl .B) false, .v .I false], [((.sl .B), true)], [], fun x => z7e x.1 x.2.1 x.2.2.1⟩
def y8f : Fs := ⟨[], [], []⟩
theorem z50 : y8f.Ok Tryz.prog := fs0
def z9a : Tmpl := ⟨[(2, .c .i), (3, .c (.bx 3 0)), (7, .c (.ref 15)), (8, .c .i), (9, .c .i), (10, .c .b), (11, .c .i)], [(3, .boxT (.s .net)), (15, .arr .B true)]⟩
def z83 : Tmpl := ⟨[(2, .c .i), (3, .c (.bx 3 0)), (7, .c (.ref 15)), (8, .c .i), (9, .c .i), (10, .c .b)], [(3, .boxT (.s .net)), (15, .arr .B true)]⟩
def zu9 (av : AV) (x : HP z05.ps) (n : Nat) (v : z9a.den) (K : Ks (CR z05)) : Option (CR z05) := z1d v.2.1 v.1.2.2.2.2.1 v.2.2.1 (fun s2_0 => z83.at none ((v.1.1, (), (), v.1.2.2.2.1, v.1.2.2.2.2.1, s2_0, ()), (v.2.1, v.2.2.1, ())) (K (.exit 4))) n v.1.2.2.2.2.2.1 v.1.2.2.2.2.2.2.1
def z8u (av : AV) (x : HP z05.ps) : Hdl (CR z05) := hnd [] z9a (zu9 av x)
theorem zx5 : LP z05 Tryz.f216 [0, 0, 0] z8u := lp_ok (W := []) (H := []) (xs := [z83]) z50 trivial rfl (fun av x v K => by kernel_rfl) (fun av x n v K => by kernel_rfl)
def z9b : Tmpl := ⟨[(2, .c .i), (3, .c (.bx 3 0)), (7, .c (.ref 15)), (8, .c .i), (9, .c .i), (10, .c .b), (12, .c .i)], [(3, .boxT (.s .net)), (15, .arr .B true)]⟩
def z3f : Tmpl := ⟨[(2, .c .i), (3, .c (.bx 3 0)), (7, .c (.ref 15)), (8, .c .i), (9, .c .i)], [(3, .boxT (.s .net)), (15, .arr .B true)]⟩
def zv0 (av : AV) (x : HP z05.ps) (n : Nat) (v : z9b.den) (K : Ks (CR z05)) : Option (CR z05) := z10 v.2.1 v.1.1 v.1.2.2.2.2.1 v.1.2.2.2.2.2.1 (fun l3_1 => z3f.at none ((v.1.1, (), (), v.1.2.2.2.1, v.1.2.2.2.2.1, ()), (v.2.1, l3_1, ())) (K (.exit 6))) (fun l3_1 => z3f.at none ((v.1.1, (), (), v.1.2.2.2.1, v.1.2.2.2.2.1, ()), (v.2.1, l3_1, ())) (K (.exit 6))) (fun l3_1 => z3f.at none ((v.1.1, (), (), v.1.2.2.2.1, v.1.2.2.2.2.1, ()), (v.2.1, l3_1, ())) (K (.exit 6))) n v.1.2.2.2.2.2.2.1 v.2.2.1
def z8v (av : AV) (x : HP z05.ps) : Hdl (CR z05) := hnd [] z9b (zv0 av x)
theorem zx6 : LP z05 Tryz.f216 [0, 0, 1] z8v := lp_ok (W := []) (H := []) (xs := [z3f]) z50 trivial rfl (fun av x v K => by kernel_rfl) (fun av x n v K => by kernel_rfl)
def zd3 : Tmpl := ⟨[(2, .c .i), (3, .c (.bx 3 0)), (7, .c (.ref 15)), (8, .c .i), (9, .c .i)], [(3, .boxT (.s .net)), (15, .arr .B true)]⟩
def z9r : Tmpl := ⟨[(2, .c .i), (3, .c (.bx 3 0)), (7, .c (.ref 15)), (8, .c .i)], [(3, .boxT (.s .net)), (15, .arr .B true)]⟩
def y27 (av : AV) (x : HP z05.ps) (n : Nat) (v : zd3.den) (K : Ks (CR z05)) : Option (CR z05) := z0c v.2.1 v.1.1 (fun l1_1 => z9r.at none ((v.1.1, (), (), v.1.2.2.2.1, ()), (v.2.1, l1_1, ())) (K (.exit 2))) n v.1.2.2.2.2.1 v.2.2.1
def zc0 (av : AV) (x : HP z05.ps) : Hdl (CR z05) := hnd [] zd3 (y27 av x)
theorem y2i : LP z05 Tryz.f216 [0, 0] zc0 := lp_ok (W := []) (H := [z8u, z8v]) (xs := [z9r]) z50 ⟨zx5, zx6, trivial⟩ rfl (fun av x v K => by kernel_rfl) (fun av x n v K => by kernel_rfl)
def zm1 : Tmpl := ⟨[(2, .c .i), (3, .c (.bx 3 0)), (7, .c (.ref 15)), (8, .c .i)], [(3, .boxT (.s .net)), (15, .arr .B true)]⟩
def zg1 : Tmpl := ⟨[(7, .c (.ref 15))], [(15, .arr .B true)]⟩
def y4b (av : AV) (x : HP z05.ps) (n : Nat) (v : zm1.den) (K : Ks (CR z05)) : Option (CR z05) := z2x v.2.1 v.1.1 (fun l0_1 => zg1.at none (((), ()), (l0_1, ())) (K (.exit 0))) n v.1.2.2.2.1 v.2.2.1
def zj8 (av : AV) (x : HP z05.ps) : Hdl (CR z05) := hnd [] zm1 (y4b av x)
theorem y50 : LP z05 Tryz.f216 [0] zj8 := lp_ok (W := []) (H := [zc0]) (xs := [zg1]) z50 ⟨y2i, trivial⟩ rfl (fun av x v K => by kernel_rfl) (fun av x n v K => by kernel_rfl)
theorem y9c : z05.Ok Tryz.prog := fn_ok (k := z05) (fn := Tryz.f216) (W := []) (H := [zj8]) Tryz.func216 z50 ⟨y50, trivial⟩ rfl rfl (fun av x => by kernel_rfl)
def za5 (kind : Int) : Option Bool := (z0v kind 1 3).bind fun x1 => (some x1)
def zo9 : Con := ⟨177, [.v .I false], [(.B, true)], [], fun x => za5 x.1⟩
def ym0 : Fs := ⟨[z2n], [], []⟩
theorem yo2 : ym0.Ok Tryz.prog := (fsK z3d fs0)
theorem yq7 : zo9.Ok Tryz.prog := fn_ok (k := zo9) (fn := Tryz.f177) (W := []) (H := []) Tryz.func177 yo2 trivial rfl rfl (fun av x => by kernel_rfl)
def z72 (role : Int) : Option Bool := (z0v role 1 3).bind fun x1 => (some x1)
def z9y : Con := ⟨151, [.v .I false], [(.B, true)], [], fun x => z72 x.1⟩
def ym1 : Fs := ⟨[z2n], [], []⟩
theorem yo3 : ym1.Ok Tryz.prog := (fsK z3d fs0)
theorem y3i : z9y.Ok Tryz.prog := fn_ok (k := z9y) (fn := Tryz.f151) (W := []) (H := []) Tryz.func151 yo3 trivial rfl rfl (fun av x => by kernel_rfl)
def zi0 (places : Int) (tasks : Int) : Option Bool := (z0v places 2 8).bind fun x1 => (if x1 = true then ((z0v tasks 1 6).bind fun x3 => (some x3)) else (some false))
def zh1 : Con := ⟨122, [.v .I false, .v .I false], [(.B, true)], [], fun x => zi0 x.1 x.2.1⟩
def yc4 : Fs := ⟨[z2n], [], []⟩
theorem ye2 : yc4.Ok Tryz.prog := (fsK z3d fs0)
theorem yg4 : zh1.Ok Tryz.prog := fn_ok (k := zh1) (fn := Tryz.f122) (W := []) (H := []) Tryz.func122 ye2 trivial rfl rfl (fun av x => by kernel_rfl)
def z0e (n : GNet) (t : Int) : Option Bool := gd (ok64 ((n.tasks.length : Int) - 1)) ((z0v t 0 ((n.tasks.length : Int) - 1)).bind fun x2 => (some x2))
def z14 : Con := ⟨96, [.v (.s .net) false, .v .I false], [(.B, true)], [], fun x => z0e x.1 x.2.1⟩
def zv3 : Fs := ⟨[z2n], [], []⟩
theorem zv6 : zv3.Ok Tryz.prog := (fsK z3d fs0)
theorem z2r : z14.Ok Tryz.prog := fn_ok (k := z14) (fn := Tryz.f96) (W := []) (H := []) Tryz.func96 zv6 trivial rfl rfl (fun av x => by kernel_rfl)
def zy2  : Option Bool := some true
def z49 (marks : List Int) (kx0_0 : Option Bool) : Nat → Int → Option Bool
  | 0, _ => none
  | n0 + 1, s0_0 => if decide (s0_0 < (marks.length : Int)) = true then ((getI marks s0_0).bind fun x5 => ((z07 x5 0 4).bind fun x6 => (if x6 = true then (gd (ok64 (s0_0 + 1)) ((z49 marks kx0_0 n0) (s0_0 + 1))) else (some false)))) else (kx0_0)
def z57 (n : GNet) (marks : List Int) : Option Bool := (z2q n).bind fun x1 => (if x1 = true then (if decide ((marks.length : Int) = n.places) = true then (z49 marks zy2 FUEL 0) else (some false)) else (some false))
def z1z : Con := ⟨87, [.v (.s .net) false, .v (.sl .I) false], [(.B, true)], [], fun x => z57 x.1 x.2.1⟩
def yw8 : Fs := ⟨[z20, z0t], [], []⟩
theorem y5r : yw8.Ok Tryz.prog := (fsK zf4 (fsK z17 fs0))
def y1z : Tmpl := ⟨[(1, .c (.s .I)), (5, .c .i)], []⟩
def y0e : Tmpl := ⟨[], []⟩
def yb1 (av : AV) (x : HP z1z.ps) (n : Nat) (v : y1z.den) (K : Ks (CR z1z)) : Option (CR z1z) := z49 v.1.1 (y0e.at none ((), ()) (K (.exit 0))) n v.1.2.1
def y1j (av : AV) (x : HP z1z.ps) : Hdl (CR z1z) := hnd [] y1z (yb1 av x)
theorem yf2 : LP z1z Tryz.f87 [0] y1j := lp_ok (W := []) (H := []) (xs := [y0e]) y5r trivial rfl (fun av x v K => by kernel_rfl) (fun av x n v K => by kernel_rfl)
theorem zf3 : z1z.Ok Tryz.prog := fn_ok (k := z1z) (fn := Tryz.f87) (W := []) (H := [y1j]) Tryz.func87 y5r ⟨yf2, trivial⟩ rfl rfl (fun av x => by kernel_rfl)
def z68 (s0_0 : Bool) (s0_1 : Bool) : Option (Bool × Bool) := some (s0_0, s0_1)
def z18 (marks : List Int) (list : List Int) (kx0_0 : Bool → Bool → Option (Bool × Bool)) : Nat → Bool → Bool → Int → Option (Bool × Bool)
  | 0, _, _, _ => none
  | n0 + 1, s0_0, s0_1, s0_2 => if decide (s0_2 < (list.length : Int)) = true then (if s0_0 = true then (if s0_1 = true then ((getI list s0_2).bind fun x4 => ((getI marks x4).bind fun x5 => (gd (ok64 (s0_2 + 1)) ((z18 marks list kx0_0 n0) true (decide (0 < x5)) (s0_2 + 1))))) else (gd (ok64 (s0_2 + 1)) ((z18 marks list kx0_0 n0) true false (s0_2 + 1)))) else ((getI list s0_2).bind fun x8 => ((getI marks x8).bind fun x9 => (if s0_1 = true then ((getI list s0_2).bind fun x11 => ((getI marks x11).bind fun x12 => (gd (ok64 (s0_2 + 1)) ((z18 marks list kx0_0 n0) (decide (0 < x9)) (decide (0 < x12)) (s0_2 + 1))))) else (gd (ok64 (s0_2 + 1)) ((z18 marks list kx0_0 n0) (decide (0 < x9)) false (s0_2 + 1))))))) else (kx0_0 s0_0 s0_1)
def zb2 (marks : List Int) (list : List Int) : Option (Bool × Bool) := z18 marks list z68 FUEL false true 0
def z35 : Con := ⟨200, [.v (.sl .I) false, .v (.sl .I) false], [(.B, true), (.B, true)], [], fun x => zb2 x.1 x.2.1⟩
def yn5 : Fs := ⟨[], [], []⟩
theorem y37 : yn5.Ok Tryz.prog := fs0
def y07 : Tmpl := ⟨[(0, .c (.s .I)), (1, .c (.s .I)), (6, .c .b), (7, .c .b), (8, .c .i)], []⟩
def zu3 : Tmpl := ⟨[(6, .c .b), (7, .c .b)], []⟩
def y80 (av : AV) (x : HP z35.ps) (n : Nat) (v : y07.den) (K : Ks (CR z35)) : Option (CR z35) := z18 v.1.1 v.1.2.1 (fun s0_0 s0_1 => zu3.at none ((s0_0, s0_1, ()), ()) (K (.exit 0))) n v.1.2.2.1 v.1.2.2.2.1 v.1.2.2.2.2.1
def zw9 (av : AV) (x : HP z35.ps) : Hdl (CR z35) := hnd [] y07 (y80 av x)
theorem y93 : LP z35 Tryz.f200 [0] zw9 := lp_ok (W := []) (H := []) (xs := [zu3]) y37 trivial rfl (fun av x v K => by kernel_rfl) (fun av x n v K => by kernel_rfl)
theorem yr5 : z35.Ok Tryz.prog := fn_ok (k := z35) (fn := Tryz.f200) (W := []) (H := [zw9]) Tryz.func200 y37 ⟨y93, trivial⟩ rfl rfl (fun av x => by kernel_rfl)
def z2z (s1_0 : Int) (bk1 : Int → List Bool → Option Bool) (l2_1 : List Bool) : Option Bool := gd (ok64 (s1_0 + 1)) (bk1 (s1_0 + 1) l2_1)
def z1u (p2_0 : List GFlow) (kx2_0 : List Bool → Option Bool) : Nat → Int → List Bool → Option Bool
  | 0, _, _ => none
  | n2 + 1, s2_0, l2_1 => if decide (s2_0 < (p2_0.length : Int)) = true then ((getI p2_0 s2_0).bind fun x15 => ((getI l2_1 x15.to).bind fun x16 => (gd (ok64 (s2_0 + 1)) ((z1u p2_0 kx2_0 n2) (s2_0 + 1) (l2_1.set x15.to.toNat true))))) else (kx2_0 l2_1)
def z7k  : Option Bool := some false
def z1g (n : GNet) (marks : List Int) (t : Int) (x19 : (List Bool)) (kx3_0 : Option Bool) : Nat → Int → Option Bool
  | 0, _ => none
  | n3 + 1, s3_0 => (getI n.tasks t).bind fun x20 => (if decide (s3_0 < (x20.in_.length : Int)) = true then ((getI n.tasks t).bind fun x22 => ((getI x22.in_ s3_0).bind fun x23 => ((getI marks x23).bind fun x24 => (if decide (x24 = 0) = true then ((getI n.tasks t).bind fun x26 => ((getI x26.in_ s3_0).bind fun x27 => ((getI x19 x27).bind fun x28 => (if x28 = true then (some true) else (gd (ok64 (s3_0 + 1)) ((z1g n marks t x19 kx3_0 n3) (s3_0 + 1))))))) else (gd (ok64 (s3_0 + 1)) ((z1g n marks t x19 kx3_0 n3) (s3_0 + 1))))))) else (kx3_0))
def z1e (n : GNet) (marks : List Int) (t : Int) (l1_1 : List Bool) : Option Bool := (z7e n l1_1 t).bind fun x19 => (z1g n marks t x19 z7k FUEL 0)
def z0s (n : GNet) (busy : List GItem) (kx1_0 : List Bool → Option Bool) : Nat → Int → List Bool → Option Bool
  | 0, _, _ => none
  | n1 + 1, s1_0, l1_1 => if decide (s1_0 < (busy.length : Int)) = true then ((getI busy s1_0).bind fun x12 => ((getI n.tasks x12.task).bind fun x13 => (z1u x13.out (z2z s1_0 (z0s n busy kx1_0 n1)) FUEL 0 l1_1))) else (kx1_0 l1_1)
def z2y (n : GNet) (marks : List Int) (busy : List GItem) (t : Int) (l0_1 : List Bool) : Option Bool := z0s n busy (z1e n marks t) FUEL 0 l0_1
def z1f (n : GNet) (marks : List Int) (t : Int) (kx0_0 : List Bool → Option Bool) : Nat → Int → List Bool → Option Bool
  | 0, _, _ => none
  | n0 + 1, s0_0, l0_1 => if decide (s0_0 < n.places) = true then ((getI marks s0_0).bind fun x3 => (if decide (0 < x3) = true then ((getI n.tasks t).bind fun x5 => ((z6i x5.in_ s0_0).bind fun x6 => ((getI l0_1 s0_0).bind fun x7 => (gd (ok64 (s0_0 + 1)) ((z1f n marks t kx0_0 n0) (s0_0 + 1) (l0_1.set s0_0.toNat (!x6))))))) else ((getI l0_1 s0_0).bind fun x9 => (gd (ok64 (s0_0 + 1)) ((z1f n marks t kx0_0 n0) (s0_0 + 1) (l0_1.set s0_0.toNat false)))))) else (kx0_0 l0_1)
def z7j (n : GNet) (marks : List Int) (busy : List GItem) (t : Int) : Option Bool := gd ((0 : Int) ≤ n.places ∧ n.places ≤ (1000000000 : Int)) (z1f n marks t (z2y n marks busy t) FUEL 0 (List.replicate n.places.toNat false))
def z06 : Con := ⟨201, [.v (.s .net) false, .v (.sl .I) false, .v (.sl (.s .item)) false, .v .I false], [(.B, true)], [], fun x => z7j x.1 x.2.1 x.2.2.1 x.2.2.2.1⟩
def y8g : Fs := ⟨[z2p, z05], [], []⟩
theorem z51 : y8g.Ok Tryz.prog := (fsK zz5 (fsK y9c fs0))
def zd4 : Tmpl := ⟨[(1, .c (.s .I)), (2, .c (.s (.s .item))), (3, .c .i), (4, .c (.bx 4 0)), (9, .c (.ref 18)), (11, .c .i), (12, .c (.s (.s .flow))), (13, .c .i)], [(4, .boxT (.s .net)), (18, .arr .B true)]⟩
def z9s : Tmpl := ⟨[(1, .c (.s .I)), (2, .c (.s (.s .item))), (3, .c .i), (4, .c (.bx 4 0)), (9, .c (.ref 18)), (11, .c .i)], [(4, .boxT (.s .net)), (18, .arr .B true)]⟩
def y28 (av : AV) (x : HP z06.ps) (n : Nat) (v : zd4.den) (K : Ks (CR z06)) : Option (CR z06) := z1u v.1.2.2.2.2.2.2.1 (fun l2_1 => z9s.at none ((v.1.1, v.1.2.1, v.1.2.2.1, (), (), v.1.2.2.2.2.2.1, ()), (v.2.1, l2_1, ())) (K (.exit 4))) n v.1.2.2.2.2.2.2.2.1 v.2.2.1
def zc1 (av : AV) (x : HP z06.ps) : Hdl (CR z06) := hnd [] zd4 (y28 av x)
theorem y2j : LP z06 Tryz.f201 [1, 0] zc1 := lp_ok (W := []) (H := []) (xs := [z9s]) z51 trivial rfl (fun av x v K => by kernel_rfl) (fun av x n v K => by kernel_rfl)
def zm2 : Tmpl := ⟨[(1, .c (.s .I)), (2, .c (.s (.s .item))), (3, .c .i), (4, .c (.bx 4 0)), (9, .c (.ref 18)), (10, .c .i)], [(4, .boxT (.s .net)), (18, .arr .B true)]⟩
def zg2 : Tmpl := ⟨[(1, .c (.s .I)), (2, .c (.s (.s .item))), (3, .c .i), (4, .c (.bx 4 0)), (9, .c (.ref 18))], [(4, .boxT (.s .net)), (18, .arr .B true)]⟩
def y4c (av : AV) (x : HP z06.ps) (n : Nat) (v : zm2.den) (K : Ks (CR z06)) : Option (CR z06) := z1f v.2.1 v.1.1 v.1.2.2.1 (fun l0_1 => zg2.at none ((v.1.1, v.1.2.1, v.1.2.2.1, (), (), ()), (v.2.1, l0_1, ())) (K (.exit 0))) n v.1.2.2.2.2.2.1 v.2.2.1
def zj9 (av : AV) (x : HP z06.ps) : Hdl (CR z06) := hnd [] zm2 (y4c av x)
theorem y51 : LP z06 Tryz.f201 [0] zj9 := lp_ok (W := []) (H := []) (xs := [zg2]) z51 trivial rfl (fun av x v K => by kernel_rfl) (fun av x n v K => by kernel_rfl)
def zm3 : Tmpl := ⟨[(1, .c (.s .I)), (2, .c (.s (.s .item))), (3, .c .i), (4, .c (.bx 4 0)), (9, .c (.ref 18)), (11, .c .i)], [(4, .boxT (.s .net)), (18, .arr .B true)]⟩
def zg3 : Tmpl := ⟨[(1, .c (.s .I)), (3, .c .i), (4, .c (.bx 4 0)), (9, .c (.ref 18))], [(4, .boxT (.s .net)), (18, .arr .B true)]⟩
def y4d (av : AV) (x : HP z06.ps) (n : Nat) (v : zm3.den) (K : Ks (CR z06)) : Option (CR z06) := z0s v.2.1 v.1.2.1 (fun l1_1 => zg3.at none ((v.1.1, v.1.2.2.1, (), (), ()), (v.2.1, l1_1, ())) (K (.exit 2))) n v.1.2.2.2.2.2.1 v.2.2.1
def zk0 (av : AV) (x : HP z06.ps) : Hdl (CR z06) := hnd [] zm3 (y4d av x)
theorem y52 : LP z06 Tryz.f201 [1] zk0 := lp_ok (W := []) (H := [zc1]) (xs := [zg3]) z51 ⟨y2j, trivial⟩ rfl (fun av x v K => by kernel_rfl) (fun av x n v K => by kernel_rfl)
def zm4 : Tmpl := ⟨[(1, .c (.s .I)), (3, .c .i), (4, .c (.bx 4 0)), (14, .c (.ref 76)), (15, .c .i)], [(4, .boxT (.s .net)), (76, .arr .B true)]⟩
def zg4 : Tmpl := ⟨[], []⟩
def y4e (av : AV) (x : HP z06.ps) (n : Nat) (v : zm4.den) (K : Ks (CR z06)) : Option (CR z06) := z1g v.2.1 v.1.1 v.1.2.1 v.2.2.1 (zg4.at none ((), ()) (K (.exit 6))) n v.1.2.2.2.2.1
def zk1 (av : AV) (x : HP z06.ps) : Hdl (CR z06) := hnd [] zm4 (y4e av x)
theorem y53 : LP z06 Tryz.f201 [2] zk1 := lp_ok (W := []) (H := []) (xs := [zg4]) z51 trivial rfl (fun av x v K => by kernel_rfl) (fun av x n v K => by kernel_rfl)
theorem y9d : z06.Ok Tryz.prog := fn_ok (k := z06) (fn := Tryz.f201) (W := []) (H := [zj9, zk0, zk1]) Tryz.func201 z51 ⟨y51, y52, y53, trivial⟩ rfl rfl (fun av x => by kernel_rfl)
def zf1 (n : GNet) (marks : List Int) (busy : List GItem) (t : Int) : Option Bool := (getI n.tasks t).bind fun x1 => ((zb2 marks x1.in_).bind fun x2 => ((getI n.tasks t).bind fun x3 => (if decide (x3.join = 1) = true then (some x2.2) else (if decide (x3.join = 2) = true then (some x2.1) else (if x2.1 = true then (if x2.2 = true then (some true) else ((z7j n marks busy t).bind fun x8 => (some (!x8)))) else (some false))))))
def zx2 : Con := ⟨165, [.v (.s .net) false, .v (.sl .I) false, .v (.sl (.s .item)) false, .v .I false], [(.B, true)], [], fun x => zf1 x.1 x.2.1 x.2.2.1 x.2.2.2.1⟩
def yx3 : Fs := ⟨[z35, z06], [], []⟩
theorem yy4 : yx3.Ok Tryz.prog := (fsK yr5 (fsK y9d fs0))
theorem w03 : zx2.Ok Tryz.prog := fn_ok (k := zx2) (fn := Tryz.f165) (W := []) (H := []) Tryz.func165 yy4 trivial rfl rfl (fun av x => by kernel_rfl)
def zs2  : Option Bool := some true
def z3n (n : GNet) (busy : List GItem) (kx0_0 : Option Bool) : Nat → Int → Option Bool
  | 0, _ => none
  | n0 + 1, s0_0 => if decide (s0_0 < (busy.length : Int)) = true then ((getI busy s0_0).bind fun x3 => (gd (ok64 ((n.tasks.length : Int) - 1)) ((z07 x3.task 0 ((n.tasks.length : Int) - 1)).bind fun x5 => (if x5 = true then ((getI busy s0_0).bind fun x7 => ((z07 x7.who 1 4).bind fun x8 => (if x8 = true then ((getI busy s0_0).bind fun x10 => ((getI busy s0_0).bind fun x11 => ((getI n.tasks x11.task).bind fun x12 => (gd (ok64 (x12.need - 1)) ((z07 x10.did 0 (x12.need - 1)).bind fun x14 => (if x14 = true then (gd (ok64 (s0_0 + 1)) ((z3n n busy kx0_0 n0) (s0_0 + 1))) else (some false))))))) else (some false)))) else (some false))))) else (kx0_0)
def z7i (n : GNet) (busy : List GItem) : Option Bool := if decide (6 < (busy.length : Int)) = true then (some false) else (z3n n busy zs2 FUEL 0)
def z2k : Con := ⟨88, [.v (.s .net) false, .v (.sl (.s .item)) false], [(.B, true)], [], fun x => z7i x.1 x.2.1⟩
def yn4 : Fs := ⟨[z0t], [], []⟩
theorem y36 : yn4.Ok Tryz.prog := (fsK z17 fs0)
def y06 : Tmpl := ⟨[(1, .c (.s (.s .item))), (2, .c (.bx 2 0)), (5, .c .i)], [(2, .boxT (.s .net))]⟩
def zu2 : Tmpl := ⟨[], []⟩
def y7z (av : AV) (x : HP z2k.ps) (n : Nat) (v : y06.den) (K : Ks (CR z2k)) : Option (CR z2k) := z3n v.2.1 v.1.1 (zu2.at none ((), ()) (K (.exit 0))) n v.1.2.2.1
def zw8 (av : AV) (x : HP z2k.ps) : Hdl (CR z2k) := hnd [] y06 (y7z av x)
theorem y92 : LP z2k Tryz.f88 [0] zw8 := lp_ok (W := []) (H := []) (xs := [zu2]) y36 trivial rfl (fun av x v K => by kernel_rfl) (fun av x n v K => by kernel_rfl)
theorem y3o : z2k.Ok Tryz.prog := fn_ok (k := z2k) (fn := Tryz.f88) (W := []) (H := [zw8]) Tryz.func88 y36 ⟨y92, trivial⟩ rfl rfl (fun av x => by kernel_rfl)
def z75 (n : GNet) (marks : List Int) (busy : List GItem) (t : Int) : Option Bool := (z57 n marks).bind fun x1 => (if x1 = true then ((z7i n busy).bind fun x3 => (if x3 = true then (gd (ok64 ((n.tasks.length : Int) - 1)) ((z07 t 0 ((n.tasks.length : Int) - 1)).bind fun x6 => (if x6 = true then ((zf1 n marks busy t).bind fun x8 => (some x8)) else (some false)))) else (some false))) else (some false))
def z9z : Con := ⟨100, [.v (.s .net) false, .v (.sl .I) false, .v (.sl (.s .item)) false, .v .I false], [(.B, true)], [], fun x => z75 x.1 x.2.1 x.2.2.1 x.2.2.2.1⟩
def ym7 : Fs := ⟨[z1z, z2k, z0t, zx2], [], []⟩
theorem yo7 : ym7.Ok Tryz.prog := (fsK zf3 (fsK y3o (fsK z17 (fsK w03 fs0))))
theorem y3l : z9z.Ok Tryz.prog := fn_ok (k := z9z) (fn := Tryz.f100) (W := []) (H := []) Tryz.func100 yo7 trivial rfl rfl (fun av x => by kernel_rfl)
def z76 (l0_1 : List Int) : Option (List Int) := some l0_1
def z1t (n : GNet) (marks : List Int) (busy : List GItem) (kx0_0 : List Int → Option (List Int)) : Nat → Int → List Int → Option (List Int)
  | 0, _, _ => none
  | n0 + 1, s0_0, l0_1 => if decide (s0_0 < (n.tasks.length : Int)) = true then ((z75 n marks busy s0_0).bind fun x2 => (if x2 = true then (gd (l0_1.length + [s0_0].length ≤ SMALL) (gd (ok64 (s0_0 + 1)) ((z1t n marks busy kx0_0 n0) (s0_0 + 1) (l0_1 ++ [s0_0])))) else (gd (ok64 (s0_0 + 1)) ((z1t n marks busy kx0_0 n0) (s0_0 + 1) l0_1)))) else (kx0_0 l0_1)
def z48 (n : GNet) (marks : List Int) (busy : List GItem) : Option (List Int) := z1t n marks busy z76 FUEL 0 ([] : List Int)
def z1i : Con := ⟨99, [.v (.s .net) false, .v (.sl .I) false, .v (.sl (.s .item)) false], [((.sl .I), true)], [], fun x => z48 x.1 x.2.1 x.2.2.1⟩
def y8b : Fs := ⟨[z9z], [], []⟩
theorem zv9 : y8b.Ok Tryz.prog := (fsK y3l fs0)
def zl7 : Tmpl := ⟨[(1, .c (.s .I)), (2, .c (.s (.s .item))), (3, .c (.bx 3 0)), (7, .c (.ref 9)), (8, .c .i)], [(3, .boxT (.s .net)), (9, .arr .I true)]⟩
def zf7 : Tmpl := ⟨[(7, .c (.ref 9))], [(9, .arr .I true)]⟩
def y47 (av : AV) (x : HP z1i.ps) (n : Nat) (v : zl7.den) (K : Ks (CR z1i)) : Option (CR z1i) := z1t v.2.1 v.1.1 v.1.2.1 (fun l0_1 => zf7.at none (((), ()), (l0_1, ())) (K (.exit 0))) n v.1.2.2.2.2.1 v.2.2.1
def zj4 (av : AV) (x : HP z1i.ps) : Hdl (CR z1i) := hnd [] zl7 (y47 av x)
theorem y4w : LP z1i Tryz.f99 [0] zj4 := lp_ok (W := []) (H := []) (xs := [zf7]) zv9 trivial rfl (fun av x v K => by kernel_rfl) (fun av x n v K => by kernel_rfl)
theorem zz4 : z1i.Ok Tryz.prog := fn_ok (k := z1i) (fn := Tryz.f99) (W := []) (H := [zj4]) Tryz.func99 zv9 ⟨y4w, trivial⟩ rfl rfl (fun av x => by kernel_rfl)
def zk5 (l0_1 : List Int) (x10 : Int) (x13 : Int) : Option (List Int) := some (l0_1.set x10.toNat (x13 - 1))
def zk6 (l0_1 : List Int) : Option (List Int) := some l0_1
def z24 (n : GNet) (t : Int) (kx0_0 : List Int → Int → Int → Option (List Int)) (kx0_1 : List Int → Option (List Int)) : Nat → Int → List Int → Option (List Int)
  | 0, _, _ => none
  | n0 + 1, s0_0, l0_1 => (getI n.tasks t).bind fun x7 => (if decide (s0_0 < (x7.in_.length : Int)) = true then ((getI n.tasks t).bind fun x9 => ((getI x9.in_ s0_0).bind fun x10 => ((getI l0_1 x10).bind fun x11 => (if decide (0 < x11) = true then ((getI l0_1 x10).bind fun x13 => (gd (ok64 (x13 - 1)) ((getI l0_1 x10).bind fun x15 => ((getI n.tasks t).bind fun x16 => (if decide (x16.join = 2) = true then (kx0_0 l0_1 x10 x13) else (gd (ok64 (s0_0 + 1)) ((z24 n t kx0_0 kx0_1 n0) (s0_0 + 1) (l0_1.set x10.toNat (x13 - 1))))))))) else (gd (ok64 (s0_0 + 1)) ((z24 n t kx0_0 kx0_1 n0) (s0_0 + 1) l0_1)))))) else (kx0_1 l0_1))
def z8m (n : GNet) (marks : List Int) (t : Int) : Option (List Int) := (z57 n marks).bind fun x1 => (if x1 = true then (gd (ok64 ((n.tasks.length : Int) - 1)) ((z07 t 0 ((n.tasks.length : Int) - 1)).bind fun x4 => (if x4 = true then (gd (([] : List Int).length + marks.length ≤ SMALL) (z24 n t zk5 zk6 FUEL 0 (([] : List Int) ++ marks))) else (some ([] : List Int))))) else (some ([] : List Int)))
def z2e : Con := ⟨103, [.v (.s .net) false, .v (.sl .I) false, .v .I false], [((.sl .I), true)], [], fun x => z8m x.1 x.2.1 x.2.2.1⟩
def yc6 : Fs := ⟨[z1z, z0t], [], []⟩
theorem y17 : yc6.Ok Tryz.prog := (fsK zf3 (fsK z17 fs0))
def zs7 : Tmpl := ⟨[(2, .c .i), (3, .c (.bx 3 0)), (7, .c (.ref 26)), (8, .c .i)], [(3, .boxT (.s .net)), (26, .arr .I true)]⟩
def z8g : Tmpl := ⟨[(7, .c (.ref 26))], [(26, .arr .I true)]⟩
def y6i (av : AV) (x : HP z2e.ps) (n : Nat) (v : zs7.den) (K : Ks (CR z2e)) : Option (CR z2e) := z24 v.2.1 v.1.1 (fun l0_1 x10 x13 => z8g.at none (((), ()), ((l0_1.set x10.toNat (x13 - 1)), ())) (K (.exit 0))) (fun l0_1 => z8g.at none (((), ()), (l0_1, ())) (K (.exit 0))) n v.1.2.2.2.1 v.2.2.1
def zq8 (av : AV) (x : HP z2e.ps) : Hdl (CR z2e) := hnd [] zs7 (y6i av x)
theorem y72 : LP z2e Tryz.f103 [0] zq8 := lp_ok (W := []) (H := []) (xs := [z8g]) y17 trivial rfl (fun av x v K => by kernel_rfl) (fun av x n v K => by kernel_rfl)
theorem yg6 : z2e.Ok Tryz.prog := fn_ok (k := z2e) (fn := Tryz.f103) (W := []) (H := [zq8]) Tryz.func103 y17 ⟨y72, trivial⟩ rfl rfl (fun av x => by kernel_rfl)
def z56 (who : Int) : Option Bool := (z0v who 1 4).bind fun x1 => (some x1)
def z6v : Con := ⟨97, [.v .I false], [(.B, true)], [], fun x => z56 x.1⟩
def y89 : Fs := ⟨[z2n], [], []⟩
theorem y8o : y89.Ok Tryz.prog := (fsK z3d fs0)
theorem zz1 : z6v.Ok Tryz.prog := fn_ok (k := z6v) (fn := Tryz.f97) (W := []) (H := []) Tryz.func97 y8o trivial rfl rfl (fun av x => by kernel_rfl)
def z78 (l0_1 : List Int) (x8 : GFlow) : Option (List Int) := some (l0_1 ++ [x8.to])
def z79 (l0_1 : List Int) (x13 : GFlow) : Option (List Int) := some (l0_1 ++ [x13.to])
def z7a (l0_1 : List Int) (x18 : GFlow) : Option (List Int) := some (l0_1 ++ [x18.to])
def zc6 (l0_1 : List Int) : Option (List Int) := some l0_1
def z16 (t : GTask) (data : List Int) (kx0_0 : List Int → GFlow → Option (List Int)) (kx0_1 : List Int → GFlow → Option (List Int)) (kx0_2 : List Int → GFlow → Option (List Int)) (kx0_3 : List Int → Option (List Int)) : Nat → Int → List Int → Option (List Int)
  | 0, _, _ => none
  | n0 + 1, s0_0, l0_1 => if decide (s0_0 < (t.out.length : Int)) = true then ((getI t.out s0_0).bind fun x2 => ((z77 x2.if_ data).bind fun x3 => (if x3 = true then (if decide (t.split = 3) = true then (gd (ok64 ((t.out.length : Int) - 1)) (if decide (s0_0 < ((t.out.length : Int) - 1)) = true then ((getI t.out s0_0).bind fun x8 => (gd (l0_1.length + [x8.to].length ≤ SMALL) (if decide (t.split = 2) = true then (kx0_0 l0_1 x8) else (gd (ok64 (s0_0 + 1)) ((z16 t data kx0_0 kx0_1 kx0_2 kx0_3 n0) (s0_0 + 1) (l0_1 ++ [x8.to])))))) else (if decide ((l0_1.length : Int) = 0) = true then ((getI t.out s0_0).bind fun x13 => (gd (l0_1.length + [x13.to].length ≤ SMALL) (if decide (t.split = 2) = true then (kx0_1 l0_1 x13) else (gd (ok64 (s0_0 + 1)) ((z16 t data kx0_0 kx0_1 kx0_2 kx0_3 n0) (s0_0 + 1) (l0_1 ++ [x13.to])))))) else (gd (ok64 (s0_0 + 1)) ((z16 t data kx0_0 kx0_1 kx0_2 kx0_3 n0) (s0_0 + 1) l0_1))))) else ((getI t.out s0_0).bind fun x18 => (gd (l0_1.length + [x18.to].length ≤ SMALL) (if decide (t.split = 2) = true then (kx0_2 l0_1 x18) else (gd (ok64 (s0_0 + 1)) ((z16 t data kx0_0 kx0_1 kx0_2 kx0_3 n0) (s0_0 + 1) (l0_1 ++ [x18.to]))))))) else (gd (ok64 (s0_0 + 1)) ((z16 t data kx0_0 kx0_1 kx0_2 kx0_3 n0) (s0_0 + 1) l0_1))))) else (kx0_3 l0_1)
def ze7 (t : GTask) (data : List Int) : Option (List Int) := z16 t data z78 z79 z7a zc6 FUEL 0 ([] : List Int)
def z3q : Con := ⟨205, [.v (.s .task) false, .v (.sl .I) false], [((.sl .I), true)], [], fun x => ze7 x.1 x.2.1⟩
def yx1 : Fs := ⟨[zc4], [], []⟩
theorem y5u : yx1.Ok Tryz.prog := (fsK y99 fs0)
def y22 : Tmpl := ⟨[(1, .c (.s .I)), (2, .c (.bx 2 0)), (5, .c (.ref 7)), (6, .c .i)], [(2, .boxT (.s .task)), (7, .arr .I true)]⟩
def z5c : Tmpl := ⟨[(5, .c (.ref 49))], [(49, .arr .I true)]⟩
def yb4 (av : AV) (x : HP z3q.ps) (n : Nat) (v : y22.den) (K : Ks (CR z3q)) : Option (CR z3q) := z16 v.2.1 v.1.1 (fun l0_1 x8 => z5c.at none (((), ()), ((l0_1 ++ [x8.to]), ())) (K (.exit 0))) (fun l0_1 x13 => z5c.at none (((), ()), ((l0_1 ++ [x13.to]), ())) (K (.exit 0))) (fun l0_1 x18 => z5c.at none (((), ()), ((l0_1 ++ [x18.to]), ())) (K (.exit 0))) (fun l0_1 => z5c.at none (((), ()), (l0_1, ())) (K (.exit 0))) n v.1.2.2.2.1 v.2.2.1
def y1m (av : AV) (x : HP z3q.ps) : Hdl (CR z3q) := hnd [] y22 (yb4 av x)
theorem yf5 : LP z3q Tryz.f205 [0] y1m := lp_ok (W := []) (H := []) (xs := [z5c]) y5u trivial rfl (fun av x v K => by kernel_rfl) (fun av x n v K => by kernel_rfl)
theorem w02 : z3q.Ok Tryz.prog := fn_ok (k := z3q) (fn := Tryz.f205) (W := []) (H := [y1m]) Tryz.func205 y5u ⟨yf5, trivial⟩ rfl rfl (fun av x => by kernel_rfl)
def z5j (l1_1 : List Int) : Option ((List Int) × Bool) := some (l1_1, true)
def z3b (x16 : (List Int)) (kx1_0 : List Int → Option ((List Int) × Bool)) : Nat → Int → List Int → Option ((List Int) × Bool)
  | 0, _, _ => none
  | n1 + 1, s1_0, l1_1 => if decide (s1_0 < (x16.length : Int)) = true then ((getI x16 s1_0).bind fun x18 => ((getI l1_1 x18).bind fun x19 => (if decide (x19 = 4) = true then (some (([] : List Int), false)) else ((getI x16 s1_0).bind fun x21 => ((getI x16 s1_0).bind fun x22 => ((getI l1_1 x22).bind fun x23 => (gd (ok64 (x23 + 1)) ((getI l1_1 x21).bind fun x25 => (gd (ok64 (s1_0 + 1)) ((z3b x16 kx1_0 n1) (s1_0 + 1) (l1_1.set x21.toNat (x23 + 1)))))))))))) else (kx1_0 l1_1)
def z5i (n : GNet) (t : Int) (data : List Int) (l0_1 : List Int) : Option ((List Int) × Bool) := (getI n.tasks t).bind fun x15 => ((ze7 x15 data).bind fun x16 => (z3b x16 z5j FUEL 0 l0_1))
def z3a (n : GNet) (t : Int) (kx0_0 : List Int → Option ((List Int) × Bool)) : Nat → Int → List Int → Option ((List Int) × Bool)
  | 0, _, _ => none
  | n0 + 1, s0_0, l0_1 => (getI n.tasks t).bind fun x9 => (if decide (s0_0 < (x9.clear.length : Int)) = true then ((getI n.tasks t).bind fun x11 => ((getI x11.clear s0_0).bind fun x12 => ((getI l0_1 x12).bind fun x13 => (gd (ok64 (s0_0 + 1)) ((z3a n t kx0_0 n0) (s0_0 + 1) (l0_1.set x12.toNat 0)))))) else (kx0_0 l0_1))
def z8n (n : GNet) (marks : List Int) (t : Int) (data : List Int) : Option ((List Int) × Bool) := (z57 n marks).bind fun x1 => (if x1 = true then (gd (ok64 ((n.tasks.length : Int) - 1)) ((z07 t 0 ((n.tasks.length : Int) - 1)).bind fun x4 => (if x4 = true then ((z4f data).bind fun x6 => (if x6 = true then (gd (([] : List Int).length + marks.length ≤ SMALL) (z3a n t (z5i n t data) FUEL 0 (([] : List Int) ++ marks))) else (some (([] : List Int), false)))) else (some (([] : List Int), false))))) else (some (([] : List Int), false)))
def z0k : Con := ⟨172, [.v (.s .net) false, .v (.sl .I) false, .v .I false, .v (.sl .I) false], [((.sl .I), true), (.B, true)], [], fun x => z8n x.1 x.2.1 x.2.2.1 x.2.2.2.1⟩
def yc7 : Fs := ⟨[z1z, z0t, z1m, z3q], [], []⟩
theorem zg7 : yc7.Ok Tryz.prog := (fsK zf3 (fsK z17 (fsK z97 (fsK w02 fs0))))
def zs8 : Tmpl := ⟨[(2, .c .i), (3, .c (.s .I)), (4, .c (.bx 4 0)), (10, .c (.ref 35)), (11, .c .i)], [(4, .boxT (.s .net)), (35, .arr .I true)]⟩
def zm7 : Tmpl := ⟨[(2, .c .i), (3, .c (.s .I)), (4, .c (.bx 4 0)), (10, .c (.ref 35))], [(4, .boxT (.s .net)), (35, .arr .I true)]⟩
def y6j (av : AV) (x : HP z0k.ps) (n : Nat) (v : zs8.den) (K : Ks (CR z0k)) : Option (CR z0k) := z3a v.2.1 v.1.1 (fun l0_1 => zm7.at none ((v.1.1, v.1.2.1, (), (), ()), (v.2.1, l0_1, ())) (K (.exit 0))) n v.1.2.2.2.2.1 v.2.2.1
def zq9 (av : AV) (x : HP z0k.ps) : Hdl (CR z0k) := hnd [] zs8 (y6j av x)
theorem y73 : LP z0k Tryz.f172 [0] zq9 := lp_ok (W := []) (H := []) (xs := [zm7]) zg7 trivial rfl (fun av x v K => by kernel_rfl) (fun av x n v K => by kernel_rfl)
def zs9 : Tmpl := ⟨[(10, .c (.ref 35)), (12, .c (.ref 64)), (13, .c .i)], [(35, .arr .I true), (64, .arr .I true)]⟩
def zm8 : Tmpl := ⟨[(10, .c (.ref 35))], [(35, .arr .I true)]⟩
def y6k (av : AV) (x : HP z0k.ps) (n : Nat) (v : zs9.den) (K : Ks (CR z0k)) : Option (CR z0k) := z3b v.2.2.1 (fun l1_1 => zm8.at none (((), ()), (l1_1, ())) (K (.exit 2))) n v.1.2.2.1 v.2.1
def zr0 (av : AV) (x : HP z0k.ps) : Hdl (CR z0k) := hnd [] zs9 (y6k av x)
theorem y74 : LP z0k Tryz.f172 [1] zr0 := lp_ok (W := []) (H := []) (xs := [zm8]) zg7 trivial rfl (fun av x v K => by kernel_rfl) (fun av x n v K => by kernel_rfl)
theorem yg7 : z0k.Ok Tryz.prog := fn_ok (k := z0k) (fn := Tryz.f172) (W := []) (H := [zq9, zr0]) Tryz.func172 zg7 ⟨y73, y74, trivial⟩ rfl rfl (fun av x => by kernel_rfl)
def zy4  : Option Bool := some true
def z4b (people : List Int) (kx0_0 : Option Bool) : Nat → Int → Option Bool
  | 0, _ => none
  | n0 + 1, s0_0 => if decide (s0_0 < (people.length : Int)) = true then ((getI people s0_0).bind fun x4 => ((z07 x4 0 7).bind fun x5 => (if x5 = true then (gd (ok64 (s0_0 + 1)) ((z4b people kx0_0 n0) (s0_0 + 1))) else (some false)))) else (kx0_0)
def z96 (people : List Int) : Option Bool := (z07 (people.length : Int) 1 4).bind fun x1 => (if x1 = true then (z4b people zy4 FUEL 0) else (some false))
def z38 : Con := ⟨44, [.v (.sl .I) false], [(.B, true)], [], fun x => z96 x.1⟩
def yx0 : Fs := ⟨[z0t], [], []⟩
theorem y5t : yx0.Ok Tryz.prog := (fsK z17 fs0)
def y21 : Tmpl := ⟨[(0, .c (.s .I)), (3, .c .i)], []⟩
def y0g : Tmpl := ⟨[], []⟩
def yb3 (av : AV) (x : HP z38.ps) (n : Nat) (v : y21.den) (K : Ks (CR z38)) : Option (CR z38) := z4b v.1.1 (y0g.at none ((), ()) (K (.exit 0))) n v.1.2.1
def y1l (av : AV) (x : HP z38.ps) : Hdl (CR z38) := hnd [] y21 (yb3 av x)
theorem yf4 : LP z38 Tryz.f44 [0] y1l := lp_ok (W := []) (H := []) (xs := [y0g]) y5t trivial rfl (fun av x v K => by kernel_rfl) (fun av x n v K => by kernel_rfl)
theorem y67 : z38.Ok Tryz.prog := fn_ok (k := z38) (fn := Tryz.f44) (W := []) (H := [y1l]) Tryz.func44 y5t ⟨yf4, trivial⟩ rfl rfl (fun av x => by kernel_rfl)
def z3l (s0_0 : Int) : Option Bool := gd ((2 : Int) ≠ 0) (some (decide ((Int.tmod s0_0 2) = 1)))
def z1k (role : Int) (kx0_0 : Int → Option Bool) : Nat → Int → Int → Option Bool
  | 0, _, _ => none
  | n0 + 1, s0_0, s0_1 => if decide (s0_1 < role) = true then (gd ((2 : Int) ≠ 0 ∧ ok64 (Int.tdiv s0_0 2)) (gd (ok64 (s0_1 + 1)) ((z1k role kx0_0 n0) (Int.tdiv s0_0 2) (s0_1 + 1)))) else (kx0_0 s0_0)
def za9 (people : List Int) (who : Int) (role : Int) : Option Bool := (z96 people).bind fun x1 => (if x1 = true then ((z07 who 1 (people.length : Int)).bind fun x3 => (if x3 = true then ((z07 role 1 3).bind fun x5 => (if x5 = true then (gd (ok64 (who - 1)) ((getI people (who - 1)).bind fun x8 => (z1k role z3l FUEL x8 1))) else (some false))) else (some false))) else (some false))
def z34 : Con := ⟨166, [.v (.sl .I) false, .v .I false, .v .I false], [(.B, true)], [], fun x => za9 x.1 x.2.1 x.2.2.1⟩
def ym9 : Fs := ⟨[z38, z0t], [], []⟩
theorem y35 : ym9.Ok Tryz.prog := (fsK y67 (fsK z17 fs0))
def y04 : Tmpl := ⟨[(2, .c .i), (7, .c .i), (8, .c .i)], []⟩
def zu0 : Tmpl := ⟨[(7, .c .i)], []⟩
def y7x (av : AV) (x : HP z34.ps) (n : Nat) (v : y04.den) (K : Ks (CR z34)) : Option (CR z34) := z1k v.1.1 (fun s0_0 => zu0.at none ((s0_0, ()), ()) (K (.exit 0))) n v.1.2.1 v.1.2.2.1
def zw6 (av : AV) (x : HP z34.ps) : Hdl (CR z34) := hnd [] y04 (y7x av x)
theorem y90 : LP z34 Tryz.f166 [0] zw6 := lp_ok (W := []) (H := []) (xs := [zu0]) y35 trivial rfl (fun av x v K => by kernel_rfl) (fun av x n v K => by kernel_rfl)
theorem yr2 : z34.Ok Tryz.prog := fn_ok (k := z34) (fn := Tryz.f166) (W := []) (H := [zw6]) Tryz.func166 y35 ⟨y90, trivial⟩ rfl rfl (fun av x => by kernel_rfl)
def zs0  : Option Bool := some false
def z31 (did : List GDid) (who : Int) (task : Int) (kx0_0 : Option Bool) : Nat → Int → Option Bool
  | 0, _ => none
  | n0 + 1, s0_0 => if decide (s0_0 < (did.length : Int)) = true then ((getI did s0_0).bind fun x2 => (if decide (x2.who = who) = true then ((getI did s0_0).bind fun x4 => (if decide (x4.task = task) = true then (some true) else (gd (ok64 (s0_0 + 1)) ((z31 did who task kx0_0 n0) (s0_0 + 1))))) else (gd (ok64 (s0_0 + 1)) ((z31 did who task kx0_0 n0) (s0_0 + 1))))) else (kx0_0)
def za8 (did : List GDid) (who : Int) (task : Int) : Option Bool := z31 did who task zs0 FUEL 0
def z33 : Con := ⟨167, [.v (.sl (.s .did)) false, .v .I false, .v .I false], [(.B, true)], [], fun x => za8 x.1 x.2.1 x.2.2.1⟩
def ym8 : Fs := ⟨[], [], []⟩
theorem y34 : ym8.Ok Tryz.prog := fs0
def y03 : Tmpl := ⟨[(0, .c (.s (.s .did))), (1, .c .i), (2, .c .i), (7, .c .i)], []⟩
def zt9 : Tmpl := ⟨[], []⟩
def y7w (av : AV) (x : HP z33.ps) (n : Nat) (v : y03.den) (K : Ks (CR z33)) : Option (CR z33) := z31 v.1.1 v.1.2.1 v.1.2.2.1 (zt9.at none ((), ()) (K (.exit 0))) n v.1.2.2.2.1
def zw5 (av : AV) (x : HP z33.ps) : Hdl (CR z33) := hnd [] y03 (y7w av x)
theorem y8z : LP z33 Tryz.f167 [0] zw5 := lp_ok (W := []) (H := []) (xs := [zt9]) y34 trivial rfl (fun av x v K => by kernel_rfl) (fun av x n v K => by kernel_rfl)
theorem yr1 : z33.Ok Tryz.prog := fn_ok (k := z33) (fn := Tryz.f167) (W := []) (H := [zw5]) Tryz.func167 y34 ⟨y8z, trivial⟩ rfl rfl (fun av x => by kernel_rfl)
def zs1 (n : GNet) (people : List Int) (did : List GDid) (t : Int) (s0_0 : Int) (l0_1 : List Int) (bk0 : Int → List Int → Option (List Int)) (s1_0 : Bool) : Option (List Int) := (getI n.tasks t).bind fun x18 => ((za9 people s0_0 x18.role).bind fun x19 => (if x19 = true then (if s1_0 = true then (gd (ok64 (s0_0 + 1)) (bk0 (s0_0 + 1) l0_1)) else ((getI n.tasks t).bind fun x23 => ((za8 did s0_0 x23.apart).bind fun x24 => (if x24 = true then (gd (ok64 (s0_0 + 1)) (bk0 (s0_0 + 1) l0_1)) else (gd (l0_1.length + [s0_0].length ≤ SMALL) (gd (ok64 (s0_0 + 1)) (bk0 (s0_0 + 1) (l0_1 ++ [s0_0])))))))) else (gd (ok64 (s0_0 + 1)) (bk0 (s0_0 + 1) l0_1))))
def z1l (n : GNet) (busy : List GItem) (t : Int) (s0_0 : Int) (kx1_0 : Bool → Option (List Int)) : Nat → Bool → Int → Option (List Int)
  | 0, _, _ => none
  | n1 + 1, s1_0, s1_1 => if decide (s1_1 < (busy.length : Int)) = true then (if s1_0 = true then (gd (ok64 (s1_1 + 1)) ((z1l n busy t s0_0 kx1_0 n1) true (s1_1 + 1))) else ((getI busy s1_1).bind fun x12 => (if decide (x12.who = s0_0) = true then ((getI busy s1_1).bind fun x14 => ((getI n.tasks t).bind fun x15 => (gd (ok64 (s1_1 + 1)) ((z1l n busy t s0_0 kx1_0 n1) (decide (x14.task = x15.apart)) (s1_1 + 1))))) else (gd (ok64 (s1_1 + 1)) ((z1l n busy t s0_0 kx1_0 n1) false (s1_1 + 1)))))) else (kx1_0 s1_0)
def z9e (l0_1 : List Int) : Option (List Int) := some l0_1
def z3m (n : GNet) (people : List Int) (did : List GDid) (busy : List GItem) (t : Int) (kx0_0 : List Int → Option (List Int)) : Nat → Int → List Int → Option (List Int)
  | 0, _, _ => none
  | n0 + 1, s0_0, l0_1 => if decide (s0_0 ≤ (people.length : Int)) = true then (z1l n busy t s0_0 (zs1 n people did t s0_0 l0_1 (z3m n people did busy t kx0_0 n0)) FUEL false 0) else (kx0_0 l0_1)
def z5k (n : GNet) (people : List Int) (did : List GDid) (busy : List GItem) (t : Int) : Option (List Int) := (z2q n).bind fun x1 => (if x1 = true then ((z96 people).bind fun x3 => (if x3 = true then (gd (ok64 ((n.tasks.length : Int) - 1)) ((z07 t 0 ((n.tasks.length : Int) - 1)).bind fun x6 => (if x6 = true then (z3m n people did busy t z9e FUEL 1 ([] : List Int)) else (some ([] : List Int))))) else (some ([] : List Int)))) else (some ([] : List Int)))
def z0o : Con := ⟨102, [.v (.s .net) false, .v (.sl .I) false, .v (.sl (.s .did)) false, .v (.sl (.s .item)) false, .v .I false], [((.sl .I), true)], [], fun x => z5k x.1 x.2.1 x.2.2.1 x.2.2.2.1 x.2.2.2.2.1⟩
def yn0 : Fs := ⟨[z20, z38, z0t, z34, z33], [], []⟩
theorem zo5 : yn0.Ok Tryz.prog := (fsK zf4 (fsK y67 (fsK z17 (fsK yr2 (fsK yr1 fs0)))))
def zl8 : Tmpl := ⟨[(1, .c (.s .I)), (2, .c (.s (.s .did))), (3, .c (.s (.s .item))), (4, .c .i), (5, .c (.bx 5 0)), (11, .c (.ref 15)), (12, .c .i), (13, .c .b), (14, .c .i)], [(5, .boxT (.s .net)), (15, .arr .I true)]⟩
def zf8 : Tmpl := ⟨[(1, .c (.s .I)), (2, .c (.s (.s .did))), (3, .c (.s (.s .item))), (4, .c .i), (5, .c (.bx 5 0)), (11, .c (.ref 15)), (12, .c .i), (13, .c .b)], [(5, .boxT (.s .net)), (15, .arr .I true)]⟩
def y48 (av : AV) (x : HP z0o.ps) (n : Nat) (v : zl8.den) (K : Ks (CR z0o)) : Option (CR z0o) := z1l v.2.1 v.1.2.2.1 v.1.2.2.2.1 v.1.2.2.2.2.2.2.1 (fun s1_0 => zf8.at none ((v.1.1, v.1.2.1, v.1.2.2.1, v.1.2.2.2.1, (), (), v.1.2.2.2.2.2.2.1, s1_0, ()), (v.2.1, v.2.2.1, ())) (K (.exit 2))) n v.1.2.2.2.2.2.2.2.1 v.1.2.2.2.2.2.2.2.2.1
def zj5 (av : AV) (x : HP z0o.ps) : Hdl (CR z0o) := hnd [] zl8 (y48 av x)
theorem y4x : LP z0o Tryz.f102 [0, 0] zj5 := lp_ok (W := []) (H := []) (xs := [zf8]) zo5 trivial rfl (fun av x v K => by kernel_rfl) (fun av x n v K => by kernel_rfl)
def y05 : Tmpl := ⟨[(1, .c (.s .I)), (2, .c (.s (.s .did))), (3, .c (.s (.s .item))), (4, .c .i), (5, .c (.bx 5 0)), (11, .c (.ref 15)), (12, .c .i)], [(5, .boxT (.s .net)), (15, .arr .I true)]⟩
def zu1 : Tmpl := ⟨[(11, .c (.ref 15))], [(15, .arr .I true)]⟩
def y7y (av : AV) (x : HP z0o.ps) (n : Nat) (v : y05.den) (K : Ks (CR z0o)) : Option (CR z0o) := z3m v.2.1 v.1.1 v.1.2.1 v.1.2.2.1 v.1.2.2.2.1 (fun l0_1 => zu1.at none (((), ()), (l0_1, ())) (K (.exit 0))) n v.1.2.2.2.2.2.2.1 v.2.2.1
def zw7 (av : AV) (x : HP z0o.ps) : Hdl (CR z0o) := hnd [] y05 (y7y av x)
theorem y91 : LP z0o Tryz.f102 [0] zw7 := lp_ok (W := []) (H := [zj5]) (xs := [zu1]) zo5 ⟨y4x, trivial⟩ rfl (fun av x v K => by kernel_rfl) (fun av x n v K => by kernel_rfl)
theorem y3m : z0o.Ok Tryz.prog := fn_ok (k := z0o) (fn := Tryz.f102) (W := []) (H := [zw7]) Tryz.func102 zo5 ⟨y91, trivial⟩ rfl rfl (fun av x => by kernel_rfl)
def za6 (n : GNet) (data : List Int) : Option GCase := (z2q n).bind fun x1 => (if x1 = true then ((z4f data).bind fun x3 => (if x3 = true then (gd ((0 : Int) ≤ n.places ∧ n.places ≤ (1000000000 : Int)) (gd (([] : List Int).length + data.length ≤ SMALL) ((getI (List.replicate n.places.toNat (0 : Int)) 0).bind fun x7 => (some (GCase.mk 1 ((List.replicate n.places.toNat (0 : Int)).set (0 : Int).toNat 1) [] (([] : List Int) ++ data) []))))) else (some (GCase.mk 0 [] [] [] [])))) else (some (GCase.mk 0 [] [] [] [])))
def zp1 : Con := ⟨155, [.v (.s .net) false, .v (.sl .I) false], [((.s .kase), true)], [], fun x => za6 x.1 x.2.1⟩
def ym5 : Fs := ⟨[z20, z1m], [], []⟩
theorem yo5 : ym5.Ok Tryz.prog := (fsK zf4 (fsK z97 fs0))
theorem yq9 : zp1.Ok Tryz.prog := fn_ok (k := zp1) (fn := Tryz.f155) (W := []) (H := []) Tryz.func155 yo5 trivial rfl rfl (fun av x => by kernel_rfl)
def z74 (c : GCase) : Option Bool := if decide (c.state = 1) = true then ((getI c.marks 1).bind fun x20 => (some (decide (x20 = 0)))) else (if decide ((c.busy.length : Int) = 0) = true then ((getI c.marks 1).bind fun x22 => (some ((decide (c.state = 2)) == (decide (0 < x22))))) else (some false))
def z45 (n : GNet) (c : GCase) (kx0_0 : Option Bool) : Nat → Int → Option Bool
  | 0, _ => none
  | n0 + 1, s0_0 => if decide (s0_0 < (c.did.length : Int)) = true then ((getI c.did s0_0).bind fun x11 => (gd (ok64 ((n.tasks.length : Int) - 1)) ((z07 x11.task 0 ((n.tasks.length : Int) - 1)).bind fun x13 => (if x13 = true then ((getI c.did s0_0).bind fun x15 => ((z07 x15.who 1 4).bind fun x16 => (if x16 = true then (gd (ok64 (s0_0 + 1)) ((z45 n c kx0_0 n0) (s0_0 + 1))) else (some false)))) else (some false))))) else (kx0_0)
def z6g (n : GNet) (c : GCase) : Option Bool := (z57 n c.marks).bind fun x1 => (if x1 = true then ((z7i n c.busy).bind fun x3 => (if x3 = true then ((z4f c.data).bind fun x5 => (if x5 = true then (if decide (60 < (c.did.length : Int)) = true then (some false) else ((z07 c.state 1 3).bind fun x8 => (if x8 = true then (z45 n c (z74 c) FUEL 0) else (some false)))) else (some false))) else (some false))) else (some false))
def z2o : Con := ⟨25, [.v (.s .net) false, .v (.s .kase) false], [(.B, true)], [], fun x => z6g x.1 x.2.1⟩
def yw5 : Fs := ⟨[z1z, z2k, z1m, z0t], [], []⟩
theorem y5p : yw5.Ok Tryz.prog := (fsK zf3 (fsK y3o (fsK z97 (fsK z17 fs0))))
def y1x : Tmpl := ⟨[(2, .c (.bx 2 0)), (3, .c (.bx 3 0)), (5, .c .i)], [(2, .boxT (.s .net)), (3, .boxT (.s .kase))]⟩
def y0c : Tmpl := ⟨[(3, .c (.bx 3 0))], [(3, .boxT (.s .kase))]⟩
def ya9 (av : AV) (x : HP z2o.ps) (n : Nat) (v : y1x.den) (K : Ks (CR z2o)) : Option (CR z2o) := z45 v.2.1 v.2.2.1 (y0c.at none (((), ()), (v.2.2.1, ())) (K (.exit 0))) n v.1.2.2.1
def y1h (av : AV) (x : HP z2o.ps) : Hdl (CR z2o) := hnd [] y1x (ya9 av x)
theorem yf0 : LP z2o Tryz.f25 [0] y1h := lp_ok (W := []) (H := []) (xs := [y0c]) y5p trivial rfl (fun av x v K => by kernel_rfl) (fun av x n v K => by kernel_rfl)
theorem zz2 : z2o.Ok Tryz.prog := fn_ok (k := z2o) (fn := Tryz.f25) (W := []) (H := [y1h]) Tryz.func25 y5p ⟨yf0, trivial⟩ rfl rfl (fun av x => by kernel_rfl)
def z5n (c : GCase) : Option GCase := gd (([] : List Int).length + c.marks.length ≤ SMALL) (gd (([] : List GItem).length + c.busy.length ≤ SMALL) (gd (([] : List Int).length + c.data.length ≤ SMALL) (gd (([] : List GDid).length + c.did.length ≤ SMALL) (some (GCase.mk c.state (([] : List Int) ++ c.marks) (([] : List GItem) ++ c.busy) (([] : List Int) ++ c.data) (([] : List GDid) ++ c.did))))))
def za1 : Con := ⟨86, [.v (.s .kase) false], [((.s .kase), true)], [], fun x => z5n x.1⟩
def yn6 : Fs := ⟨[], [], []⟩
theorem yp1 : yn6.Ok Tryz.prog := fs0
theorem y3p : za1.Ok Tryz.prog := fn_ok (k := za1) (fn := Tryz.f86) (W := []) (H := []) Tryz.func86 yp1 trivial rfl rfl (fun av x => by kernel_rfl)
def z46 (n : GNet) (people : List Int) (c : GCase) (t : Int) (who : Int) : Option (GCase × Bool) := (z5n c).bind fun x1 => ((z6g n c).bind fun x2 => (if x2 = true then (if decide (c.state = 1) = true then ((z75 n c.marks c.busy t).bind fun x5 => (if x5 = true then ((z5k n people c.did c.busy t).bind fun x7 => ((z6i x7 who).bind fun x8 => (if x8 = true then (if decide ((c.busy.length : Int) = 6) = true then (some (x1, false)) else ((z8m n c.marks t).bind fun x11 => (gd (x1.busy.length + [(GItem.mk t who 0)].length ≤ SMALL) (some ((GCase.mk x1.state x11 (x1.busy ++ [(GItem.mk t who 0)]) x1.data x1.did), true))))) else (some (x1, false))))) else (some (x1, false)))) else (some (x1, false))) else (some (x1, false))))
def z6w : Con := ⟨32, [.v (.s .net) false, .v (.sl .I) false, .v (.s .kase) false, .v .I false, .v .I false], [((.s .kase), true), (.B, true)], [], fun x => z46 x.1 x.2.1 x.2.2.1 x.2.2.2.1 x.2.2.2.2.1⟩
def y8a : Fs := ⟨[za1, z2o, z9z, z0o, z2p, z2e], [], []⟩
theorem y8p : y8a.Ok Tryz.prog := (fsK y3p (fsK zz2 (fsK y3l (fsK y3m (fsK zz5 (fsK yg6 fs0))))))
theorem zz3 : z6w.Ok Tryz.prog := fn_ok (k := z6w) (fn := Tryz.f32) (W := []) (H := []) Tryz.func32 y8p trivial rfl rfl (fun av x => by kernel_rfl)
def z8l (n : GNet) (c : GCase) (k : Int) (v : Int) (num : Int) : Option (GCase × Bool) := (z5n c).bind fun x1 => ((z6g n c).bind fun x2 => (if x2 = true then (if decide (c.state = 1) = true then (gd (ok64 ((c.busy.length : Int) - 1)) ((z07 k 0 ((c.busy.length : Int) - 1)).bind fun x6 => (if x6 = true then ((z07 v (-1) 2).bind fun x8 => (if x8 = true then ((z07 num (-99) 99).bind fun x10 => (if x10 = true then (if decide ((c.did.length : Int) = 60) = true then (some (x1, false)) else ((getI c.busy k).bind fun x13 => ((za7 c.data v num).bind fun x14 => (gd (ok64 (x13.did + 1)) ((getI x1.busy k).bind fun x16 => (gd (ok64 (x13.did + 1)) ((getI n.tasks x13.task).bind fun x18 => (if decide ((x13.did + 1) < x18.need) = true then (some ((GCase.mk x1.state x1.marks (x1.busy.set k.toNat (GItem.mk x16.task x16.who (x13.did + 1))) x14 x1.did), true)) else ((z8n n c.marks x13.task x14).bind fun x20 => (if x20.2 = true then (gd ((0 : Int) ≤ k ∧ k ≤ (c.busy.length : Int)) (gd (([] : List GItem).length + (c.busy.take k.toNat).length ≤ SMALL) (gd (ok64 (k + 1)) (gd ((0 : Int) ≤ (k + 1) ∧ (k + 1) ≤ (c.busy.length : Int)) (gd ((([] : List GItem) ++ (c.busy.take k.toNat)).length + (c.busy.drop (k + 1).toNat).length ≤ SMALL) (gd (x1.did.length + [(GDid.mk x13.task x13.who)].length ≤ SMALL) ((getI x20.1 1).bind fun x28 => (if decide (0 < x28) = true then (some ((GCase.mk 2 x20.1 ([] : List GItem) x14 (x1.did ++ [(GDid.mk x13.task x13.who)])), true)) else (some ((GCase.mk x1.state x20.1 ((([] : List GItem) ++ (c.busy.take k.toNat)) ++ (c.busy.drop (k + 1).toNat)) x14 (x1.did ++ [(GDid.mk x13.task x13.who)])), true)))))))))) else ((z5n c).bind fun x30 => (some (x30, false))))))))))))) else (some (x1, false)))) else (some (x1, false)))) else (some (x1, false))))) else (some (x1, false))) else (some (x1, false))))
def zh2 : Con := ⟨112, [.v (.s .net) false, .v (.s .kase) false, .v .I false, .v .I false, .v .I false], [((.s .kase), true), (.B, true)], [], fun x => z8l x.1 x.2.1 x.2.2.1 x.2.2.2.1 x.2.2.2.2.1⟩
def yc5 : Fs := ⟨[za1, z2o, z0t, zp2, z0k], [], []⟩
theorem ye3 : yc5.Ok Tryz.prog := (fsK y3p (fsK zz2 (fsK z17 (fsK yr0 (fsK yg7 fs0)))))
theorem yg5 : zh2.Ok Tryz.prog := fn_ok (k := zh2) (fn := Tryz.f112) (W := []) (H := []) Tryz.func112 ye3 trivial rfl rfl (fun av x => by kernel_rfl)
def z1x (c : GCase) : Option GCase := (z3i c.marks).bind fun x1 => (gd (([] : List GItem).length + c.busy.length ≤ SMALL) ((z3i c.data).bind fun x3 => (gd (([] : List GDid).length + c.did.length ≤ SMALL) (some (GCase.mk c.state x1 (([] : List GItem) ++ c.busy) x3 (([] : List GDid) ++ c.did))))))
def z5t : Con := ⟨84, [.v (.s .kase) false], [((.s .kase), true)], [], fun x => z1x x.1⟩
def y0u : Fs := ⟨[z66], [], []⟩
theorem y0z : y0u.Ok Tryz.prog := (fsK zs3 fs0)
theorem y13 : z5t.Ok Tryz.prog := fn_ok (k := z5t) (fn := Tryz.f84) (W := []) (H := []) Tryz.func84 y0z trivial rfl rfl (fun av x => by kernel_rfl)
def zr7  : Option Int := some (-1)
def z3h (s : List Int) (p : Int → Option Bool) (p0_0 : Int) (kx0_0 : Option Int) : Nat → Int → Option Int
  | 0, _ => none
  | n0 + 1, s0_0 => if decide (s0_0 < p0_0) = true then ((getI s s0_0).bind fun x2 => ((p x2).bind fun x3 => (if x3 = true then (some s0_0) else (gd (ok64 (s0_0 + 1)) ((z3h s p p0_0 kx0_0 n0) (s0_0 + 1)))))) else (kx0_0)
def za2 (s : List Int) (p : Int → Option Bool) : Option Int := z3h s p (s.length : Int) zr7 FUEL 0
def z2a : Con := ⟨175, [.v (.sl .I) false, .fn .I], [(.I, true)], [], fun x => za2 x.1 x.2.1⟩
def yl5 : Fs := ⟨[], [], []⟩
theorem y31 : yl5.Ok Tryz.prog := fs0
def y00 : Tmpl := ⟨[(0, .c (.s .I)), (1, .c .fp), (7, .c .i), (8, .c .i)], []⟩
def zt6 : Tmpl := ⟨[], []⟩
def y7t (av : AV) (x : HP z2a.ps) (n : Nat) (v : y00.den) (K : Ks (CR z2a)) : Option (CR z2a) := z3h v.1.1 x.2.1 v.1.2.2.1 (zt6.at (fpOf z2a.ps x av) ((), ()) (K (.exit 0))) n v.1.2.2.2.1
def zw2 (av : AV) (x : HP z2a.ps) : Hdl (CR z2a) := hnd [] y00 (y7t av x)
theorem y8w : LP z2a Tryz.f175 [0] zw2 := lp_ok (W := []) (H := []) (xs := [zt6]) y31 trivial rfl (fun av x v K => by kernel_rfl) (fun av x n v K => by kernel_rfl)
theorem yq4 : z2a.Ok Tryz.prog := fn_ok (k := z2a) (fn := Tryz.f175) (W := []) (H := [zw2]) Tryz.func175 y31 ⟨y8w, trivial⟩ rfl rfl (fun av x => by kernel_rfl)
def z1j (s : List Int) (p : Int → Option Bool) : Option Bool := (za2 s p).bind fun x1 => (some (decide (0 ≤ x1)))
def z30 : Con := ⟨118, [.v (.sl .I) false, .fn .I], [(.B, true)], [], fun x => z1j x.1 x.2.1⟩
def y6s : Fs := ⟨[z2a], [], []⟩
theorem y6w : y6s.Ok Tryz.prog := (fsK yq4 fs0)
theorem z4r : z30.Ok Tryz.prog := fn_ok (k := z30) (fn := Tryz.f118) (W := []) (H := []) Tryz.func118 y6w trivial rfl rfl (fun av x => by kernel_rfl)
def z9k  : Option Int := some (-1)
def z1w (s : List GTask) (p : GTask → Option Bool) (p0_0 : Int) (kx0_0 : Option Int) : Nat → Int → Option Int
  | 0, _ => none
  | n0 + 1, s0_0 => if decide (s0_0 < p0_0) = true then ((getI s s0_0).bind fun x2 => ((p x2).bind fun x3 => (if x3 = true then (some s0_0) else (gd (ok64 (s0_0 + 1)) ((z1w s p p0_0 kx0_0 n0) (s0_0 + 1)))))) else (kx0_0)
def z5f (s : List GTask) (p : GTask → Option Bool) : Option Int := z1w s p (s.length : Int) z9k FUEL 0
def z0x : Con := ⟨176, [.v (.sl (.s .task)) false, .fn (.s .task)], [(.I, true)], [], fun x => z5f x.1 x.2.1⟩
def y4i : Fs := ⟨[], [], []⟩
theorem zj2 : y4i.Ok Tryz.prog := fs0
def zd1 : Tmpl := ⟨[(0, .c (.s (.s .task))), (1, .c .fp), (7, .c .i), (8, .c .i)], []⟩
def z9p : Tmpl := ⟨[], []⟩
def y25 (av : AV) (x : HP z0x.ps) (n : Nat) (v : zd1.den) (K : Ks (CR z0x)) : Option (CR z0x) := z1w v.1.1 x.2.1 v.1.2.2.1 (z9p.at (fpOf z0x.ps x av) ((), ()) (K (.exit 0))) n v.1.2.2.2.1
def zb8 (av : AV) (x : HP z0x.ps) : Hdl (CR z0x) := hnd [] zd1 (y25 av x)
theorem y2g : LP z0x Tryz.f176 [0] zb8 := lp_ok (W := []) (H := []) (xs := [z9p]) zj2 trivial rfl (fun av x v K => by kernel_rfl) (fun av x n v K => by kernel_rfl)
theorem y56 : z0x.Ok Tryz.prog := fn_ok (k := z0x) (fn := Tryz.f176) (W := []) (H := [zb8]) Tryz.func176 zj2 ⟨y2g, trivial⟩ rfl rfl (fun av x => by kernel_rfl)
def z3y (s : List GTask) (p : GTask → Option Bool) : Option Bool := (z5f s p).bind fun x1 => (some (decide (0 ≤ x1)))
def z5s : Con := ⟨123, [.v (.sl (.s .task)) false, .fn (.s .task)], [(.B, true)], [], fun x => z3y x.1 x.2.1⟩
def y0t : Fs := ⟨[z0x], [], []⟩
theorem y0y : y0t.Ok Tryz.prog := (fsK y56 fs0)
theorem y12 : z5s.Ok Tryz.prog := fn_ok (k := z5s) (fn := Tryz.f123) (W := []) (H := []) Tryz.func123 y0y trivial rfl rfl (fun av x => by kernel_rfl)
def z9j  : Option Int := some (-1)
def z1v (s : List GItem) (p : GItem → Option Bool) (p0_0 : Int) (kx0_0 : Option Int) : Nat → Int → Option Int
  | 0, _ => none
  | n0 + 1, s0_0 => if decide (s0_0 < p0_0) = true then ((getI s s0_0).bind fun x2 => ((p x2).bind fun x3 => (if x3 = true then (some s0_0) else (gd (ok64 (s0_0 + 1)) ((z1v s p p0_0 kx0_0 n0) (s0_0 + 1)))))) else (kx0_0)
def z5e (s : List GItem) (p : GItem → Option Bool) : Option Int := z1v s p (s.length : Int) z9j FUEL 0
def z0w : Con := ⟨169, [.v (.sl (.s .item)) false, .fn (.s .item)], [(.I, true)], [], fun x => z5e x.1 x.2.1⟩
def y4h : Fs := ⟨[], [], []⟩
theorem zj1 : y4h.Ok Tryz.prog := fs0
def zd0 : Tmpl := ⟨[(0, .c (.s (.s .item))), (1, .c .fp), (7, .c .i), (8, .c .i)], []⟩
def z9o : Tmpl := ⟨[], []⟩
def y24 (av : AV) (x : HP z0w.ps) (n : Nat) (v : zd0.den) (K : Ks (CR z0w)) : Option (CR z0w) := z1v v.1.1 x.2.1 v.1.2.2.1 (z9o.at (fpOf z0w.ps x av) ((), ()) (K (.exit 0))) n v.1.2.2.2.1
def zb7 (av : AV) (x : HP z0w.ps) : Hdl (CR z0w) := hnd [] zd0 (y24 av x)
theorem y2f : LP z0w Tryz.f169 [0] zb7 := lp_ok (W := []) (H := []) (xs := [z9o]) zj1 trivial rfl (fun av x v K => by kernel_rfl) (fun av x n v K => by kernel_rfl)
theorem y55 : z0w.Ok Tryz.prog := fn_ok (k := z0w) (fn := Tryz.f169) (W := []) (H := [zb7]) Tryz.func169 zj1 ⟨y2f, trivial⟩ rfl rfl (fun av x => by kernel_rfl)
def z3x (s : List GItem) (p : GItem → Option Bool) : Option Bool := (z5e s p).bind fun x1 => (some (decide (0 ≤ x1)))
def z5r : Con := ⟨107, [.v (.sl (.s .item)) false, .fn (.s .item)], [(.B, true)], [], fun x => z3x x.1 x.2.1⟩
def y0s : Fs := ⟨[z0w], [], []⟩
theorem y0x : y0s.Ok Tryz.prog := (fsK y55 fs0)
theorem y11 : z5r.Ok Tryz.prog := fn_ok (k := z5r) (fn := Tryz.f107) (W := []) (H := []) Tryz.func107 y0x trivial rfl rfl (fun av x => by kernel_rfl)
def y60  : Option Int := some (-1)
def z6e (s : List Int) (v : Int) (p0_0 : Int) (kx0_0 : Option Int) : Nat → Int → Option Int
  | 0, _ => none
  | n0 + 1, s0_0 => if decide (s0_0 < p0_0) = true then ((getI s s0_0).bind fun x2 => (if decide (v = x2) = true then (some s0_0) else (gd (ok64 (s0_0 + 1)) ((z6e s v p0_0 kx0_0 n0) (s0_0 + 1))))) else (kx0_0)
def y3e (s : List Int) (v : Int) : Option Int := z6e s v (s.length : Int) y60 FUEL 0
def z6u : Con := ⟨163, [.v (.sl .I) false, .v .I false], [(.I, true)], [], fun x => y3e x.1 x.2.1⟩
def w4y : Fs := ⟨[], [], []⟩
theorem yx7 : w4y.Ok Tryz.prog := fs0
def ya2 : Tmpl := ⟨[(0, .c (.s .I)), (1, .c .i), (7, .c .i), (8, .c .i)], []⟩
def y6f : Tmpl := ⟨[], []⟩
def w13 (av : AV) (x : HP z6u.ps) (n : Nat) (v : ya2.den) (K : Ks (CR z6u)) : Option (CR z6u) := z6e v.1.1 v.1.2.1 v.1.2.2.1 (y6f.at none ((), ()) (K (.exit 0))) n v.1.2.2.2.1
def y8r (av : AV) (x : HP z6u.ps) : Hdl (CR z6u) := hnd [] ya2 (w13 av x)
theorem w1j : LP z6u Tryz.f163 [0] y8r := lp_ok (W := []) (H := []) (xs := [y6f]) yx7 trivial rfl (fun av x v K => by kernel_rfl) (fun av x n v K => by kernel_rfl)
theorem w5z : z6u.Ok Tryz.prog := fn_ok (k := z6u) (fn := Tryz.f163) (W := []) (H := [y8r]) Tryz.func163 yx7 ⟨w1j, trivial⟩ rfl rfl (fun av x => by kernel_rfl)
def z6d (s : List Int) (v : Int) : Option Bool := (y3e s v).bind fun x1 => (some (decide (0 ≤ x1)))
def z8w : Con := ⟨92, [.v (.sl .I) false, .v .I false], [(.B, true)], [], fun x => z6d x.1 x.2.1⟩
def yv5 : Fs := ⟨[z6u], [], []⟩
theorem yx6 : yv5.Ok Tryz.prog := (fsK w5z fs0)
theorem zy6 : z8w.Ok Tryz.prog := fn_ok (k := z8w) (fn := Tryz.f92) (W := []) (H := []) Tryz.func92 yx6 trivial rfl rfl (fun av x => by kernel_rfl)
def zx8  : Option Int := some (-1)
def z40 (s : List GDid) (v : GDid) (p0_0 : Int) (kx0_0 : Option Int) : Nat → Int → Option Int
  | 0, _ => none
  | n0 + 1, s0_0 => if decide (s0_0 < p0_0) = true then ((getI s s0_0).bind fun x2 => (if decide ([v.task, v.who] = [x2.task, x2.who]) = true then (some s0_0) else (gd (ok64 (s0_0 + 1)) ((z40 s v p0_0 kx0_0 n0) (s0_0 + 1))))) else (kx0_0)
def ze5 (s : List GDid) (v : GDid) : Option Int := z40 s v (s.length : Int) zx8 FUEL 0
def z3o : Con := ⟨204, [.v (.sl (.s .did)) false, .v (.s .did) false], [(.I, true)], [], fun x => ze5 x.1 x.2.1⟩
def yv6 : Fs := ⟨[], [], []⟩
theorem y5l : yv6.Ok Tryz.prog := fs0
def y1t : Tmpl := ⟨[(0, .c (.s (.s .did))), (3, .c (.bx 3 0)), (7, .c .i), (8, .c .i)], [(3, .boxT (.s .did))]⟩
def y08 : Tmpl := ⟨[], []⟩
def ya5 (av : AV) (x : HP z3o.ps) (n : Nat) (v : y1t.den) (K : Ks (CR z3o)) : Option (CR z3o) := z40 v.1.1 v.2.1 v.1.2.2.1 (y08.at none ((), ()) (K (.exit 0))) n v.1.2.2.2.1
def y1d (av : AV) (x : HP z3o.ps) : Hdl (CR z3o) := hnd [] y1t (ya5 av x)
theorem ye6 : LP z3o Tryz.f204 [0] y1d := lp_ok (W := []) (H := []) (xs := [y08]) y5l trivial rfl (fun av x v K => by kernel_rfl) (fun av x n v K => by kernel_rfl)
theorem yz9 : z3o.Ok Tryz.prog := fn_ok (k := z3o) (fn := Tryz.f204) (W := []) (H := [y1d]) Tryz.func204 y5l ⟨ye6, trivial⟩ rfl rfl (fun av x => by kernel_rfl)
def zc5 (s : List GDid) (v : GDid) : Option Bool := (ze5 s v).bind fun x1 => (some (decide (0 ≤ x1)))
def zc2 : Con := ⟨170, [.v (.sl (.s .did)) false, .v (.s .did) false], [(.B, true)], [], fun x => zc5 x.1 x.2.1⟩
def y86 : Fs := ⟨[z3o], [], []⟩
theorem y8l : y86.Ok Tryz.prog := (fsK yz9 fs0)
theorem y95 : zc2.Ok Tryz.prog := fn_ok (k := zc2) (fn := Tryz.f170) (W := []) (H := []) Tryz.func170 y8l trivial rfl rfl (fun av x => by kernel_rfl)
def zh6 (n : Int) : Option Bool := (z5y n).bind fun x1 => (some (!x1))
def zi2 : FCon := ⟨162, .I, [], fun z c => zh6 z ⟩
def yb6 : Fs := ⟨[z8i], [], []⟩
theorem yd6 : yb6.Ok Tryz.prog := (fsK y1r fs0)
theorem yf7 : zi2.Ok Tryz.prog := FCon.ok (fn_ok (k := zi2.con) (fn := Tryz.f162) (W := []) (H := []) Tryz.func162 yd6 trivial rfl rfl (fun av x => by kernel_rfl))
def z8z (data : List Int) : Option Bool := if decide ((data.length : Int) = 3) = true then ((z1j data (fun z => zh6 z )).bind fun x2 => (some (!x2))) else (some false)
def ze0 : Con := ⟨91, [.v (.sl .I) false], [(.B, true)], [], fun x => z8z x.1⟩
def yv8 : Fs := ⟨[z30], [zi2], []⟩
theorem yx8 : yv8.Ok Tryz.prog := (fsK z4r (fsF yf7 fs0))
theorem y62 : ze0.Ok Tryz.prog := fn_ok (k := ze0) (fn := Tryz.f91) (W := []) (H := []) Tryz.func91 yx8 trivial rfl rfl (fun av x => by kernel_rfl)
def zk4  : Option Bool := some true
def z39 (list : List Int) (places : Int) (without : List Int) (p0_0 : Int) (kx0_0 : Option Bool) : Nat → Int → Int → Option Bool
  | 0, _, _ => none
  | n0 + 1, s0_0, s0_1 => if decide (s0_0 < p0_0) = true then ((getI list s0_0).bind fun x2 => (gd (ok64 (s0_1 + 1)) (gd (ok64 (places - 1)) ((z0v x2 (s0_1 + 1) (places - 1)).bind fun x5 => (if x5 = true then ((z6d without x2).bind fun x7 => (if x7 = true then (some false) else (gd (ok64 (s0_0 + 1)) ((z39 list places without p0_0 kx0_0 n0) (s0_0 + 1) x2)))) else (some false)))))) else (kx0_0)
def z5x (list : List Int) (places : Int) (without : List Int) : Option Bool := z39 list places without (list.length : Int) zk4 FUEL 0 (-1)
def z2b : Con := ⟨178, [.v (.sl .I) false, .v .I false, .v (.sl .I) false], [(.B, true)], [], fun x => z5x x.1 x.2.1 x.2.2.1⟩
def yc0 : Fs := ⟨[z2n, z8w], [], []⟩
theorem y15 : yc0.Ok Tryz.prog := (fsK z3d (fsK zy6 fs0))
def zs5 : Tmpl := ⟨[(1, .c .i), (2, .c (.s .I)), (7, .c .i), (10, .c (.s .I)), (11, .c .i), (12, .c .i)], []⟩
def zm5 : Tmpl := ⟨[], []⟩
def y6g (av : AV) (x : HP z2b.ps) (n : Nat) (v : zs5.den) (K : Ks (CR z2b)) : Option (CR z2b) := z39 v.1.2.2.2.1 v.1.1 v.1.2.1 v.1.2.2.2.2.1 (zm5.at none ((), ()) (K (.exit 0))) n v.1.2.2.2.2.2.1 v.1.2.2.1
def zq6 (av : AV) (x : HP z2b.ps) : Hdl (CR z2b) := hnd [] zs5 (y6g av x)
theorem y70 : LP z2b Tryz.f178 [0] zq6 := lp_ok (W := []) (H := []) (xs := [zm5]) y15 trivial rfl (fun av x v K => by kernel_rfl) (fun av x n v K => by kernel_rfl)
theorem yg1 : z2b.Ok Tryz.prog := fn_ok (k := z2b) (fn := Tryz.f178) (W := []) (H := [zq6]) Tryz.func178 y15 ⟨y70, trivial⟩ rfl rfl (fun av x => by kernel_rfl)
def z4k (t : GTask) : Option Bool := (z0v (t.out.length : Int) 1 3).bind fun x21 => (some x21)
def z0u (t : GTask) (places : Int) (p0_0 : List GFlow) (p0_1 : Int) (kx0_0 : Option Bool) : Nat → Int → List Int → Option Bool
  | 0, _, _ => none
  | n0 + 1, s0_0, m0_1 => if decide (s0_0 < p0_1) = true then ((getI p0_0 s0_0).bind fun x2 => (if decide (t.split = 1) = true then (gd (ok64 (places - 1)) ((z0v x2.to 0 (places - 1)).bind fun x5 => (if x5 = true then (if decide (x2.to ∈ m0_1) = true then (some false) else ((z90 x2.if_).bind fun x8 => (if x8 = true then (if ((decide (x2.if_.op = 0)) == true) = true then (gd (ok64 (s0_0 + 1)) ((z0u t places p0_0 p0_1 kx0_0 n0) (s0_0 + 1) (insKey m0_1 x2.to))) else (some false)) else (some false)))) else (some false)))) else (gd (ok64 ((t.out.length : Int) - 1)) (gd (ok64 (places - 1)) ((z0v x2.to 0 (places - 1)).bind fun x14 => (if x14 = true then (if decide (x2.to ∈ m0_1) = true then (some false) else ((z90 x2.if_).bind fun x17 => (if x17 = true then (if ((decide (x2.if_.op = 0)) == (decide (s0_0 = ((t.out.length : Int) - 1)))) = true then (gd (ok64 (s0_0 + 1)) ((z0u t places p0_0 p0_1 kx0_0 n0) (s0_0 + 1) (insKey m0_1 x2.to))) else (some false)) else (some false)))) else (some false))))))) else (kx0_0)
def z3z (t : GTask) (places : Int) : Option Bool := z0u t places t.out (t.out.length : Int) (z4k t) FUEL 0 (insKey ([] : List Int) 0)
def z0n : Con := ⟨179, [.v (.s .task) false, .v .I false], [(.B, true)], [], fun x => z3z x.1 x.2.1⟩
def y0w : Fs := ⟨[z2n, zx1], [], []⟩
theorem z9h : y0w.Ok Tryz.prog := (fsK z3d (fsK w00 fs0))
def z81 : Tmpl := ⟨[(1, .c .i), (2, .c (.bx 2 0)), (5, .c (.bx 9 0)), (12, .c (.s (.s .flow))), (13, .c .i), (14, .c .i)], [(2, .boxT (.s .task)), (9, .mp)]⟩
def z7u : Tmpl := ⟨[(2, .c (.bx 2 0))], [(2, .boxT (.s .task))]⟩
def zu5 (av : AV) (x : HP z0n.ps) (n : Nat) (v : z81.den) (K : Ks (CR z0n)) : Option (CR z0n) := z0u v.2.1 v.1.1 v.1.2.2.2.1 v.1.2.2.2.2.1 (z7u.at none (((), ()), (v.2.1, ())) (K (.exit 0))) n v.1.2.2.2.2.2.1 v.2.2.1
def z7w (av : AV) (x : HP z0n.ps) : Hdl (CR z0n) := hnd [] z81 (zu5 av x)
theorem zu7 : LP z0n Tryz.f179 [0] z7w := lp_ok (W := []) (H := []) (xs := [z7u]) z9h trivial rfl (fun av x v K => by kernel_rfl) (fun av x n v K => by kernel_rfl)
theorem y14 : z0n.Ok Tryz.prog := fn_ok (k := z0n) (fn := Tryz.f179) (W := []) (H := [z7w]) Tryz.func179 z9h ⟨zu7, trivial⟩ rfl rfl (fun av x => by kernel_rfl)
def z5h (t : GTask) (places : Int) (tasks : Int) : Option Bool := (za5 t.join).bind fun x1 => (if x1 = true then ((za5 t.split).bind fun x3 => (if x3 = true then ((z0v (t.in_.length : Int) 1 3).bind fun x5 => (if x5 = true then ((z5x t.in_ places [1]).bind fun x7 => (if x7 = true then ((z3z t places).bind fun x9 => (if x9 = true then ((z5x t.clear places [0, 1]).bind fun x11 => (if x11 = true then ((z72 t.role).bind fun x13 => (if x13 = true then (gd (ok64 (tasks - 1)) ((z0v t.apart (-1) (tasks - 1)).bind fun x16 => (if x16 = true then ((z0v t.all 1 3).bind fun x18 => (if x18 = true then ((z0v t.need 1 t.all).bind fun x20 => (some x20)) else (some false))) else (some false)))) else (some false))) else (some false))) else (some false))) else (some false))) else (some false))) else (some false))) else (some false))
def z89 : Con := ⟨125, [.v (.s .task) false, .v .I false, .v .I false], [(.B, true)], [], fun x => z5h x.1 x.2.1 x.2.2.1⟩
def y4k : Fs := ⟨[zo9, z2n, z2b, z0n, z9y], [], []⟩
theorem y4q : y4k.Ok Tryz.prog := (fsK yq7 (fsK z3d (fsK yg1 (fsK y14 (fsK y3i fs0)))))
theorem y58 : z89.Ok Tryz.prog := fn_ok (k := z89) (fn := Tryz.f125) (W := []) (H := []) Tryz.func125 y4q trivial rfl rfl (fun av x => by kernel_rfl)
def zh7 (t : GTask) (n : GNet) : Option Bool := (z5h t n.places (n.tasks.length : Int)).bind fun x1 => (some (!x1))
def zi3 : FCon := ⟨124, (.s .task), [(.s .net)], fun z c => zh7 z c.1⟩
def yb8 : Fs := ⟨[z89], [], []⟩
theorem yd8 : yb8.Ok Tryz.prog := (fsK y58 fs0)
theorem yf9 : zi3.Ok Tryz.prog := FCon.ok (fn_ok (k := zi3.con) (fn := Tryz.f124) (W := []) (H := []) Tryz.func124 yd8 trivial rfl rfl (fun av x => by kernel_rfl))
def z93 (n : GNet) : Option Bool := (zi0 n.places (n.tasks.length : Int)).bind fun x1 => (if x1 = true then ((z3y n.tasks (fun z => zh7 z n)).bind fun x3 => (some (!x3))) else (some false))
def ze1 : Con := ⟨52, [.v (.s .net) false], [(.B, true)], [], fun x => z93 x.1⟩
def yw1 : Fs := ⟨[zh1, z5s], [zi3], []⟩
theorem yy1 : yw1.Ok Tryz.prog := (fsK yg4 (fsK y12 (fsF yf9 fs0)))
theorem y63 : ze1.Ok Tryz.prog := fn_ok (k := ze1) (fn := Tryz.f52) (W := []) (H := []) Tryz.func52 yy1 trivial rfl rfl (fun av x => by kernel_rfl)
def z3t (p : Int) (out : List Bool) : Option Bool := (getI out p).bind fun x1 => (some x1)
def z59 : FCon := ⟨217, .I, [(.sl .B)], fun z c => z3t z c.1⟩
def zv5 : Fs := ⟨[], [], []⟩
theorem zv8 : zv5.Ok Tryz.prog := fs0
theorem zz0 : z59.Ok Tryz.prog := FCon.ok (fn_ok (k := z59.con) (fn := Tryz.f217) (W := []) (H := []) Tryz.func217 zv8 trivial rfl rfl (fun av x => by kernel_rfl))
def z7x (s1_0 : List GTask) (s1_1 : Int) (s1_2 : Int) (bk1 : List GTask → Int → Int → Bool → List Bool → Option (List Bool)) (s2_1 : Bool) (l2_2 : List Bool) : Option (List Bool) := gd (ok64 (s1_2 + 1)) (bk1 s1_0 s1_1 (s1_2 + 1) s2_1 l2_2)
def z0d (p2_0 : List GFlow) (p2_1 : Int) (kx2_0 : Bool → List Bool → Option (List Bool)) : Nat → Int → Bool → List Bool → Option (List Bool)
  | 0, _, _, _ => none
  | n2 + 1, s2_0, s2_1, l2_2 => if decide (s2_0 < p2_1) = true then ((getI p2_0 s2_0).bind fun x11 => (if s2_1 = true then ((getI l2_2 x11.to).bind fun x13 => (gd (ok64 (s2_0 + 1)) ((z0d p2_0 p2_1 kx2_0 n2) (s2_0 + 1) true (l2_2.set x11.to.toNat true)))) else ((getI l2_2 x11.to).bind fun x15 => ((getI l2_2 x11.to).bind fun x16 => (gd (ok64 (s2_0 + 1)) ((z0d p2_0 p2_1 kx2_0 n2) (s2_0 + 1) (!x15) (l2_2.set x11.to.toNat true))))))) else (kx2_0 s2_1 l2_2)
def z4u (bk0 : Bool → List Bool → Option (List Bool)) (s1_3 : Bool) (l1_4 : List Bool) : Option (List Bool) := bk0 s1_3 l1_4
def z09 (but : Int) (kx1_0 : Bool → List Bool → Option (List Bool)) : Nat → List GTask → Int → Int → Bool → List Bool → Option (List Bool)
  | 0, _, _, _, _, _ => none
  | n1 + 1, s1_0, s1_1, s1_2, s1_3, l1_4 => if decide (s1_2 < s1_1) = true then ((getI s1_0 s1_2).bind fun x5 => (if decide (s1_2 = but) = true then (gd (ok64 (s1_2 + 1)) ((z09 but kx1_0 n1) s1_0 s1_1 (s1_2 + 1) s1_3 l1_4)) else ((z1j x5.in_ (fun z => z3t z l1_4)).bind fun x8 => (if x8 = true then (z0d x5.out (x5.out.length : Int) (z7x s1_0 s1_1 s1_2 (z09 but kx1_0 n1)) FUEL 0 s1_3 l1_4) else (gd (ok64 (s1_2 + 1)) ((z09 but kx1_0 n1) s1_0 s1_1 (s1_2 + 1) s1_3 l1_4)))))) else (kx1_0 s1_3 l1_4)
def z7y (l0_1 : List Bool) : Option (List Bool) := some l0_1
def z0m (n : GNet) (but : Int) (kx0_0 : List Bool → Option (List Bool)) : Nat → Bool → List Bool → Option (List Bool)
  | 0, _, _ => none
  | n0 + 1, s0_0, l0_1 => if s0_0 = true then (z09 but (z4u (z0m n but kx0_0 n0)) FUEL n.tasks (n.tasks.length : Int) 0 false l0_1) else (kx0_0 l0_1)
def z4j (n : GNet) (place : Int) (but : Int) : Option (List Bool) := gd ((0 : Int) ≤ n.places ∧ n.places ≤ (1000000000 : Int)) ((getI (List.replicate n.places.toNat false) place).bind fun x2 => (z0m n but z7y FUEL true ((List.replicate n.places.toNat false).set place.toNat true)))
def z03 : Con := ⟨202, [.v (.s .net) false, .v .I false, .v .I false], [((.sl .B), true)], [], fun x => z4j x.1 x.2.1 x.2.2.1⟩
def y2a : Fs := ⟨[z30], [z59], []⟩
theorem z4g : y2a.Ok Tryz.prog := (fsK z4r (fsF zz0 fs0))
def z63 : Tmpl := ⟨[(2, .c .i), (3, .c (.bx 3 0)), (7, .c (.bx 7 0)), (8, .c .b), (21, .c (.s (.s .task))), (22, .c .i), (23, .c .i), (39, .c (.s (.s .flow))), (40, .c .i), (41, .c .i)], [(3, .boxT (.s .net)), (7, .box [.ref 15]), (15, .arr .B true)]⟩
def z5p : Tmpl := ⟨[(2, .c .i), (3, .c (.bx 3 0)), (7, .c (.bx 7 0)), (8, .c .b), (21, .c (.s (.s .task))), (22, .c .i), (23, .c .i)], [(3, .boxT (.s .net)), (7, .box [.ref 15]), (15, .arr .B true)]⟩
def zg6 (av : AV) (x : HP z03.ps) (n : Nat) (v : z63.den) (K : Ks (CR z03)) : Option (CR z03) := z0d v.1.2.2.2.2.2.2.2.1 v.1.2.2.2.2.2.2.2.2.1 (fun s2_1 l2_2 => z5p.at none ((v.1.1, (), (), s2_1, v.1.2.2.2.2.1, v.1.2.2.2.2.2.1, v.1.2.2.2.2.2.2.1, ()), (v.2.1, ((), ()), l2_2, ())) (K (.exit 4))) n v.1.2.2.2.2.2.2.2.2.2.1 v.1.2.2.2.1 v.2.2.2.1
def z5w (av : AV) (x : HP z03.ps) : Hdl (CR z03) := hnd [] z63 (zg6 av x)
theorem zh5 : LP z03 Tryz.f202 [0, 0, 0] z5w := lp_ok (W := []) (H := []) (xs := [z5p]) z4g trivial rfl (fun av x v K => by kernel_rfl) (fun av x n v K => by kernel_rfl)
def z7s : Tmpl := ⟨[(2, .c .i), (3, .c (.bx 3 0)), (7, .c (.bx 7 0)), (8, .c .b), (21, .c (.s (.s .task))), (22, .c .i), (23, .c .i)], [(3, .boxT (.s .net)), (7, .box [.ref 15]), (15, .arr .B true)]⟩
def z6m : Tmpl := ⟨[(2, .c .i), (3, .c (.bx 3 0)), (7, .c (.bx 7 0)), (8, .c .b)], [(3, .boxT (.s .net)), (7, .box [.ref 15]), (15, .arr .B true)]⟩
def zn8 (av : AV) (x : HP z03.ps) (n : Nat) (v : z7s.den) (K : Ks (CR z03)) : Option (CR z03) := z09 v.1.1 (fun s1_3 l1_4 => z6m.at none ((v.1.1, (), (), s1_3, ()), (v.2.1, ((), ()), l1_4, ())) (K (.exit 2))) n v.1.2.2.2.2.1 v.1.2.2.2.2.2.1 v.1.2.2.2.2.2.2.1 v.1.2.2.2.1 v.2.2.2.1
def z6s (av : AV) (x : HP z03.ps) : Hdl (CR z03) := hnd [] z7s (zn8 av x)
theorem zp8 : LP z03 Tryz.f202 [0, 0] z6s := lp_ok (W := []) (H := [z5w]) (xs := [z6m]) z4g ⟨zh5, trivial⟩ rfl (fun av x v K => by kernel_rfl) (fun av x n v K => by kernel_rfl)
def z99 : Tmpl := ⟨[(2, .c .i), (3, .c (.bx 3 0)), (7, .c (.bx 7 0)), (8, .c .b)], [(3, .boxT (.s .net)), (7, .box [.ref 15]), (15, .arr .B true)]⟩
def z82 : Tmpl := ⟨[(7, .c (.bx 7 0))], [(7, .box [.ref 15]), (15, .arr .B true)]⟩
def zu8 (av : AV) (x : HP z03.ps) (n : Nat) (v : z99.den) (K : Ks (CR z03)) : Option (CR z03) := z0m v.2.1 v.1.1 (fun l0_1 => z82.at none (((), ()), (((), ()), l0_1, ())) (K (.exit 0))) n v.1.2.2.2.1 v.2.2.2.1
def z8t (av : AV) (x : HP z03.ps) : Hdl (CR z03) := hnd [] z99 (zu8 av x)
theorem zx4 : LP z03 Tryz.f202 [0] z8t := lp_ok (W := []) (H := [z6s]) (xs := [z82]) z4g ⟨zp8, trivial⟩ rfl (fun av x v K => by kernel_rfl) (fun av x n v K => by kernel_rfl)
theorem y2n : z03.Ok Tryz.prog := fn_ok (k := z03) (fn := Tryz.f202) (W := []) (H := [z8t]) Tryz.func202 z4g ⟨zx4, trivial⟩ rfl rfl (fun av x => by kernel_rfl)
def z4i (m : Int) : Option Bool := (z0v m 0 4).bind fun x1 => (some (!x1))
def z4p : FCon := ⟨199, .I, [], fun z c => z4i z ⟩
def zo1 : Fs := ⟨[z2n], [], []⟩
theorem zo4 : zo1.Ok Tryz.prog := (fsK z3d fs0)
theorem zq1 : z4p.Ok Tryz.prog := FCon.ok (fn_ok (k := z4p.con) (fn := Tryz.f199) (W := []) (H := []) Tryz.func199 zo4 trivial rfl rfl (fun av x => by kernel_rfl))
def z3s (n : GNet) (marks : List Int) : Option Bool := if decide ((marks.length : Int) = n.places) = true then ((z1j marks (fun z => z4i z )).bind fun x2 => (some (!x2))) else (some false)
def z53 : Con := ⟨164, [.v (.s .net) false, .v (.sl .I) false], [(.B, true)], [], fun x => z3s x.1 x.2.1⟩
def zv4 : Fs := ⟨[z30], [z4p], []⟩
theorem zv7 : zv4.Ok Tryz.prog := (fsK z4r (fsF zq1 fs0))
theorem zy9 : z53.Ok Tryz.prog := fn_ok (k := z53) (fn := Tryz.f164) (W := []) (H := []) Tryz.func164 zv7 trivial rfl rfl (fun av x => by kernel_rfl)
def z6f (n : GNet) (marks : List Int) : Option Bool := (z93 n).bind fun x1 => (if x1 = true then ((z3s n marks).bind fun x3 => (some x3)) else (some false))
def z8x : Con := ⟨94, [.v (.s .net) false, .v (.sl .I) false], [(.B, true)], [], fun x => z6f x.1 x.2.1⟩
def yw0 : Fs := ⟨[ze1, z53], [], []⟩
theorem yy0 : yw0.Ok Tryz.prog := (fsK y63 (fsK zy9 fs0))
theorem zy7 : z8x.Ok Tryz.prog := fn_ok (k := z8x) (fn := Tryz.f94) (W := []) (H := []) Tryz.func94 yy0 trivial rfl rfl (fun av x => by kernel_rfl)
def z70 (busy : List GItem) : Option Bool := some (decide ((busy.length : Int) ≤ 6))
def z1b (n : GNet) (p0_0 : List GItem) (p0_1 : Int) (kx0_0 : Option Bool) : Nat → Int → Option Bool
  | 0, _ => none
  | n0 + 1, s0_0 => if decide (s0_0 < p0_1) = true then ((getI p0_0 s0_0).bind fun x2 => ((z0e n x2.task).bind fun x3 => (if x3 = true then ((z56 x2.who).bind fun x5 => (if x5 = true then ((getI n.tasks x2.task).bind fun x7 => (gd (ok64 (x7.need - 1)) ((z0v x2.did 0 (x7.need - 1)).bind fun x9 => (if x9 = true then (gd (ok64 (s0_0 + 1)) ((z1b n p0_0 p0_1 kx0_0 n0) (s0_0 + 1))) else (some false))))) else (some false))) else (some false)))) else (kx0_0)
def z32 (n : GNet) (busy : List GItem) : Option Bool := z1b n busy (busy.length : Int) (z70 busy) FUEL 0
def z0h : Con := ⟨95, [.v (.s .net) false, .v (.sl (.s .item)) false], [(.B, true)], [], fun x => z32 x.1 x.2.1⟩
def y0v : Fs := ⟨[z14, z6v, z2n], [], []⟩
theorem z9g : y0v.Ok Tryz.prog := (fsK z2r (fsK zz1 (fsK z3d fs0)))
def z80 : Tmpl := ⟨[(1, .c (.s (.s .item))), (2, .c (.bx 2 0)), (7, .c (.s (.s .item))), (8, .c .i), (9, .c .i)], [(2, .boxT (.s .net))]⟩
def z7t : Tmpl := ⟨[(1, .c (.s (.s .item)))], []⟩
def zu4 (av : AV) (x : HP z0h.ps) (n : Nat) (v : z80.den) (K : Ks (CR z0h)) : Option (CR z0h) := z1b v.2.1 v.1.2.2.1 v.1.2.2.2.1 (z7t.at none ((v.1.1, ()), ()) (K (.exit 0))) n v.1.2.2.2.2.1
def z7v (av : AV) (x : HP z0h.ps) : Hdl (CR z0h) := hnd [] z80 (zu4 av x)
theorem zu6 : LP z0h Tryz.f95 [0] z7v := lp_ok (W := []) (H := []) (xs := [z7t]) z9g trivial rfl (fun av x v K => by kernel_rfl) (fun av x n v K => by kernel_rfl)
theorem z9l : z0h.Ok Tryz.prog := fn_ok (k := z0h) (fn := Tryz.f95) (W := []) (H := [z7v]) Tryz.func95 z9g ⟨zu6, trivial⟩ rfl rfl (fun av x => by kernel_rfl)
def z4h (q : Int) (marks : List Int) (reach : List Bool) : Option Bool := (getI marks q).bind fun x1 => (if decide (x1 = 0) = true then ((getI reach q).bind fun x3 => (some x3)) else (some false))
def z4o : FCon := ⟨203, .I, [(.sl .I), (.sl .B)], fun z c => z4h z c.1 c.2.1⟩
def zo0 : Fs := ⟨[], [], []⟩
theorem zo3 : zo0.Ok Tryz.prog := fs0
theorem zq0 : z4o.Ok Tryz.prog := FCon.ok (fn_ok (k := z4o.con) (fn := Tryz.f203) (W := []) (H := []) Tryz.func203 zo3 trivial rfl rfl (fun av x => by kernel_rfl))
def z2v (s1_0 : Int) (s1_1 : Int) (bk1 : Int → Int → List Int → Option Bool) (l2_1 : List Int) : Option Bool := gd (ok64 (s1_1 + 1)) (bk1 s1_0 (s1_1 + 1) l2_1)
def z13 (p2_0 : List GFlow) (p2_1 : Int) (kx2_0 : List Int → Option Bool) : Nat → Int → List Int → Option Bool
  | 0, _, _ => none
  | n2 + 1, s2_0, l2_1 => if decide (s2_0 < p2_1) = true then ((getI p2_0 s2_0).bind fun x15 => (gd (l2_1.length + [x15.to].length ≤ SMALL) (gd (ok64 (s2_0 + 1)) ((z13 p2_0 p2_1 kx2_0 n2) (s2_0 + 1) (l2_1 ++ [x15.to]))))) else (kx2_0 l2_1)
def z42  : Option Bool := some false
def z0q (n : GNet) (t : Int) (p0_0 : List Int) (p0_2 : List Int) (l1_2 : List Int) (p3_0 : Int) (kx3_0 : Option Bool) : Nat → Int → Option Bool
  | 0, _ => none
  | n3 + 1, s3_0 => if decide (s3_0 < p3_0) = true then ((getI l1_2 s3_0).bind fun x20 => ((z4j n x20 t).bind fun x21 => ((z1j p0_0 (fun z => z4h z p0_2 x21)).bind fun x22 => (if x22 = true then (some true) else (gd (ok64 (s3_0 + 1)) ((z0q n t p0_0 p0_2 l1_2 p3_0 kx3_0 n3) (s3_0 + 1))))))) else (kx3_0)
def z12 (n : GNet) (t : Int) (p0_0 : List Int) (p0_2 : List Int) (l1_2 : List Int) : Option Bool := z0q n t p0_0 p0_2 l1_2 (l1_2.length : Int) z42 FUEL 0
def z0g (n : GNet) (busy : List GItem) (kx1_0 : List Int → Option Bool) : Nat → Int → Int → List Int → Option Bool
  | 0, _, _, _ => none
  | n1 + 1, s1_0, s1_1, l1_2 => if decide (s1_1 < s1_0) = true then ((getI busy s1_1).bind fun x12 => ((getI n.tasks x12.task).bind fun x13 => (z13 x13.out (x13.out.length : Int) (z2v s1_0 s1_1 (z0g n busy kx1_0 n1)) FUEL 0 l1_2))) else (kx1_0 l1_2)
def z2u (n : GNet) (busy : List GItem) (t : Int) (p0_0 : List Int) (p0_2 : List Int) (l0_1 : List Int) : Option Bool := z0g n busy (z12 n t p0_0 p0_2) FUEL (busy.length : Int) 0 l0_1
def z0f (marks : List Int) (p0_0 : List Int) (p0_1 : Int) (kx0_0 : List Int → Option Bool) : Nat → Int → List Int → Option Bool
  | 0, _, _ => none
  | n0 + 1, s0_0, l0_1 => if decide (s0_0 < p0_1) = true then ((getI marks s0_0).bind fun x3 => (if decide (0 < x3) = true then ((z6d p0_0 s0_0).bind fun x5 => (if x5 = true then (gd (ok64 (s0_0 + 1)) ((z0f marks p0_0 p0_1 kx0_0 n0) (s0_0 + 1) l0_1)) else (gd (l0_1.length + [s0_0].length ≤ SMALL) (gd (ok64 (s0_0 + 1)) ((z0f marks p0_0 p0_1 kx0_0 n0) (s0_0 + 1) (l0_1 ++ [s0_0])))))) else (gd (ok64 (s0_0 + 1)) ((z0f marks p0_0 p0_1 kx0_0 n0) (s0_0 + 1) l0_1)))) else (kx0_0 l0_1)
def z3r (n : GNet) (marks : List Int) (busy : List GItem) (t : Int) : Option Bool := (getI n.tasks t).bind fun x1 => (z0f marks x1.in_ (marks.length : Int) (z2u n busy t x1.in_ marks) FUEL 0 ([] : List Int))
def z00 : Con := ⟨168, [.v (.s .net) false, .v (.sl .I) false, .v (.sl (.s .item)) false, .v .I false], [(.B, true)], [], fun x => z3r x.1 x.2.1 x.2.2.1 x.2.2.2.1⟩
def zv2 : Fs := ⟨[z8w, z03, z30], [z4o], []⟩
theorem z2m : zv2.Ok Tryz.prog := (fsK zy6 (fsK y2n (fsK z4r (fsF zq0 fs0))))
def z62 : Tmpl := ⟨[(3, .c .i), (4, .c (.bx 4 0)), (5, .c (.bx 5 0)), (9, .c (.s .I)), (10, .c (.ref 500010)), (46, .c (.s (.s .item))), (47, .c .i), (48, .c .i), (58, .c (.s (.s .flow))), (59, .c .i), (60, .c .i)], [(4, .boxT (.s .net)), (5, .box [.s .I]), (500010, .arr .I true)]⟩
def z5o : Tmpl := ⟨[(3, .c .i), (4, .c (.bx 4 0)), (5, .c (.bx 5 0)), (9, .c (.s .I)), (10, .c (.ref 500010)), (46, .c (.s (.s .item))), (47, .c .i), (48, .c .i)], [(4, .boxT (.s .net)), (5, .box [.s .I]), (500010, .arr .I true)]⟩
def zg5 (av : AV) (x : HP z00.ps) (n : Nat) (v : z62.den) (K : Ks (CR z00)) : Option (CR z00) := z13 v.1.2.2.2.2.2.2.2.2.1 v.1.2.2.2.2.2.2.2.2.2.1 (fun l2_1 => z5o.at none ((v.1.1, (), (), v.1.2.2.2.1, (), v.1.2.2.2.2.2.1, v.1.2.2.2.2.2.2.1, v.1.2.2.2.2.2.2.2.1, ()), (v.2.1, (v.2.2.1.1, ()), l2_1, ())) (K (.exit 4))) n v.1.2.2.2.2.2.2.2.2.2.2.1 v.2.2.2.1
def z5v (av : AV) (x : HP z00.ps) : Hdl (CR z00) := hnd [] z62 (zg5 av x)
theorem zh4 : LP z00 Tryz.f168 [1, 0] z5v := lp_ok (W := []) (H := []) (xs := [z5o]) z2m trivial rfl (fun av x v K => by kernel_rfl) (fun av x n v K => by kernel_rfl)
def z7p : Tmpl := ⟨[(2, .c (.s (.s .item))), (3, .c .i), (4, .c (.bx 4 0)), (5, .c (.bx 5 0)), (9, .c (.s .I)), (10, .c (.ref 500010)), (26, .c (.s .I)), (27, .c .i), (28, .c .i)], [(4, .boxT (.s .net)), (5, .box [.s .I]), (500010, .arr .I true)]⟩
def z6j : Tmpl := ⟨[(2, .c (.s (.s .item))), (3, .c .i), (4, .c (.bx 4 0)), (5, .c (.bx 5 0)), (9, .c (.s .I)), (10, .c (.ref 500010))], [(4, .boxT (.s .net)), (5, .box [.s .I]), (500010, .arr .I true)]⟩
def zn5 (av : AV) (x : HP z00.ps) (n : Nat) (v : z7p.den) (K : Ks (CR z00)) : Option (CR z00) := z0f v.1.2.2.2.2.2.2.1 v.1.2.2.2.2.1 v.1.2.2.2.2.2.2.2.1 (fun l0_1 => z6j.at none ((v.1.1, v.1.2.1, (), (), v.1.2.2.2.2.1, (), ()), (v.2.1, (v.2.2.1.1, ()), l0_1, ())) (K (.exit 0))) n v.1.2.2.2.2.2.2.2.2.1 v.2.2.2.1
def z6p (av : AV) (x : HP z00.ps) : Hdl (CR z00) := hnd [.e 10 500010 .I] z7p (zn5 av x)
theorem zp5 : LP z00 Tryz.f168 [0] z6p := lp_ok (W := []) (H := []) (xs := [z6j]) z2m trivial rfl (fun av x v K => by kernel_rfl) (fun av x n v K => by kernel_rfl)
def z7q : Tmpl := ⟨[(3, .c .i), (4, .c (.bx 4 0)), (5, .c (.bx 5 0)), (9, .c (.s .I)), (10, .c (.ref 500010)), (46, .c (.s (.s .item))), (47, .c .i), (48, .c .i)], [(4, .boxT (.s .net)), (5, .box [.s .I]), (500010, .arr .I true)]⟩
def z6k : Tmpl := ⟨[(3, .c .i), (4, .c (.bx 4 0)), (5, .c (.bx 5 0)), (9, .c (.s .I)), (10, .c (.ref 500010))], [(4, .boxT (.s .net)), (5, .box [.s .I]), (500010, .arr .I true)]⟩
def zn6 (av : AV) (x : HP z00.ps) (n : Nat) (v : z7q.den) (K : Ks (CR z00)) : Option (CR z00) := z0g v.2.1 v.1.2.2.2.2.2.1 (fun l1_2 => z6k.at none ((v.1.1, (), (), v.1.2.2.2.1, (), ()), (v.2.1, (v.2.2.1.1, ()), l1_2, ())) (K (.exit 2))) n v.1.2.2.2.2.2.2.1 v.1.2.2.2.2.2.2.2.1 v.2.2.2.1
def z6q (av : AV) (x : HP z00.ps) : Hdl (CR z00) := hnd [] z7q (zn6 av x)
theorem zp6 : LP z00 Tryz.f168 [1] z6q := lp_ok (W := []) (H := [z5v]) (xs := [z6k]) z2m ⟨zh4, trivial⟩ rfl (fun av x v K => by kernel_rfl) (fun av x n v K => by kernel_rfl)
def z7r : Tmpl := ⟨[(3, .c .i), (4, .c (.bx 4 0)), (5, .c (.bx 5 0)), (9, .c (.s .I)), (71, .c (.ref 500010)), (72, .c .i), (73, .c .i)], [(4, .boxT (.s .net)), (5, .box [.s .I]), (500010, .arr .I true)]⟩
def z6l : Tmpl := ⟨[], []⟩
def zn7 (av : AV) (x : HP z00.ps) (n : Nat) (v : z7r.den) (K : Ks (CR z00)) : Option (CR z00) := z0q v.2.1 v.1.1 v.1.2.2.2.1 v.2.2.1.1 v.2.2.2.1 v.1.2.2.2.2.2.1 (z6l.at none ((), ()) (K (.exit 6))) n v.1.2.2.2.2.2.2.1
def z6r (av : AV) (x : HP z00.ps) : Hdl (CR z00) := hnd [] z7r (zn7 av x)
theorem zp7 : LP z00 Tryz.f168 [2] z6r := lp_ok (W := []) (H := []) (xs := [z6l]) z2m trivial rfl (fun av x v K => by kernel_rfl) (fun av x n v K => by kernel_rfl)
theorem zy8 : z00.Ok Tryz.prog := fn_ok (k := z00) (fn := Tryz.f168) (W := []) (H := [z6p, z6q, z6r]) Tryz.func168 z2m ⟨zp5, zp6, zp7, trivial⟩ rfl rfl (fun av x => by kernel_rfl)
def z1y (n : GNet) (marks : List Int) (busy : List GItem) (t : Int) (s0_0 : Bool) (s0_2 : Bool) : Option Bool := (getI n.tasks t).bind fun x14 => (if decide (x14.join = 1) = true then (some s0_0) else (if decide (x14.join = 2) = true then (some s0_2) else (if s0_2 = true then (if s0_0 = true then (some true) else ((z3r n marks busy t).bind fun x19 => (some (!x19)))) else (some false))))
def z0i (marks : List Int) (p0_0 : List Int) (p0_1 : Int) (kx0_0 : Bool → Bool → Option Bool) : Nat → Bool → Int → Bool → Option Bool
  | 0, _, _, _ => none
  | n0 + 1, s0_0, s0_1, s0_2 => if decide (s0_1 < p0_1) = true then ((getI p0_0 s0_1).bind fun x3 => (if s0_2 = true then (if s0_0 = true then ((getI marks x3).bind fun x6 => (gd (ok64 (s0_1 + 1)) ((z0i marks p0_0 p0_1 kx0_0 n0) (decide (0 < x6)) (s0_1 + 1) true))) else (gd (ok64 (s0_1 + 1)) ((z0i marks p0_0 p0_1 kx0_0 n0) false (s0_1 + 1) true))) else ((getI marks x3).bind fun x9 => (if s0_0 = true then ((getI marks x3).bind fun x11 => (gd (ok64 (s0_1 + 1)) ((z0i marks p0_0 p0_1 kx0_0 n0) (decide (0 < x11)) (s0_1 + 1) (decide (0 < x9))))) else (gd (ok64 (s0_1 + 1)) ((z0i marks p0_0 p0_1 kx0_0 n0) false (s0_1 + 1) (decide (0 < x9)))))))) else (kx0_0 s0_0 s0_2)
def z5g (n : GNet) (marks : List Int) (busy : List GItem) (t : Int) : Option Bool := (getI n.tasks t).bind fun x1 => (z0i marks x1.in_ (x1.in_.length : Int) (z1y n marks busy t) FUEL true 0 false)
def z1a : Con := ⟨104, [.v (.s .net) false, .v (.sl .I) false, .v (.sl (.s .item)) false, .v .I false], [(.B, true)], [], fun x => z5g x.1 x.2.1 x.2.2.1 x.2.2.2.1⟩
def y4j : Fs := ⟨[z00], [], []⟩
theorem zj3 : y4j.Ok Tryz.prog := (fsK zy8 fs0)
def zd2 : Tmpl := ⟨[(1, .c (.s .I)), (2, .c (.s (.s .item))), (3, .c .i), (4, .c (.bx 4 0)), (9, .c .b), (10, .c .b), (18, .c (.s .I)), (19, .c .i), (20, .c .i)], [(4, .boxT (.s .net))]⟩
def z9q : Tmpl := ⟨[(1, .c (.s .I)), (2, .c (.s (.s .item))), (3, .c .i), (4, .c (.bx 4 0)), (9, .c .b), (10, .c .b)], [(4, .boxT (.s .net))]⟩
def y26 (av : AV) (x : HP z1a.ps) (n : Nat) (v : zd2.den) (K : Ks (CR z1a)) : Option (CR z1a) := z0i v.1.1 v.1.2.2.2.2.2.2.1 v.1.2.2.2.2.2.2.2.1 (fun s0_0 s0_2 => z9q.at none ((v.1.1, v.1.2.1, v.1.2.2.1, (), s0_2, s0_0, ()), (v.2.1, ())) (K (.exit 0))) n v.1.2.2.2.2.2.1 v.1.2.2.2.2.2.2.2.2.1 v.1.2.2.2.2.1
def zb9 (av : AV) (x : HP z1a.ps) : Hdl (CR z1a) := hnd [] zd2 (y26 av x)
theorem y2h : LP z1a Tryz.f104 [0] zb9 := lp_ok (W := []) (H := []) (xs := [z9q]) zj3 trivial rfl (fun av x v K => by kernel_rfl) (fun av x n v K => by kernel_rfl)
theorem y57 : z1a.Ok Tryz.prog := fn_ok (k := z1a) (fn := Tryz.f104) (W := []) (H := [zb9]) Tryz.func104 zj3 ⟨y2h, trivial⟩ rfl rfl (fun av x => by kernel_rfl)
def z6z (n : GNet) (marks : List Int) (busy : List GItem) (t : Int) : Option Bool := (z6f n marks).bind fun x1 => (if x1 = true then ((z32 n busy).bind fun x3 => (if x3 = true then ((z0e n t).bind fun x5 => (if x5 = true then ((z5g n marks busy t).bind fun x7 => (some x7)) else (some false))) else (some false))) else (some false))
def z9w : Con := ⟨33, [.v (.s .net) false, .v (.sl .I) false, .v (.sl (.s .item)) false, .v .I false], [(.B, true)], [], fun x => z6z x.1 x.2.1 x.2.2.1 x.2.2.2.1⟩
def yl6 : Fs := ⟨[z8x, z0h, z14, z1a], [], []⟩
theorem yn8 : yl6.Ok Tryz.prog := (fsK zy7 (fsK z9l (fsK z2r (fsK y57 fs0))))
theorem y3g : z9w.Ok Tryz.prog := fn_ok (k := z9w) (fn := Tryz.f33) (W := []) (H := []) Tryz.func33 yn8 trivial rfl rfl (fun av x => by kernel_rfl)
def z91 (l0_1 : List Int) (x4 : Int) (x7 : Int) : Option (List Int) := some (l0_1.set x4.toNat (x7 - 1))
def z92 (l0_1 : List Int) : Option (List Int) := some l0_1
def z15 (n : GNet) (t : Int) (p0_0 : List Int) (p0_1 : Int) (kx0_0 : List Int → Int → Int → Option (List Int)) (kx0_1 : List Int → Option (List Int)) : Nat → Int → List Int → Option (List Int)
  | 0, _, _ => none
  | n0 + 1, s0_0, l0_1 => if decide (s0_0 < p0_1) = true then ((getI p0_0 s0_0).bind fun x4 => ((getI l0_1 x4).bind fun x5 => (if decide (0 < x5) = true then ((getI l0_1 x4).bind fun x7 => (gd (ok64 (x7 - 1)) ((getI l0_1 x4).bind fun x9 => ((getI n.tasks t).bind fun x10 => (if decide (x10.join = 2) = true then (kx0_0 l0_1 x4 x7) else (gd (ok64 (s0_0 + 1)) ((z15 n t p0_0 p0_1 kx0_0 kx0_1 n0) (s0_0 + 1) (l0_1.set x4.toNat (x7 - 1))))))))) else (gd (ok64 (s0_0 + 1)) ((z15 n t p0_0 p0_1 kx0_0 kx0_1 n0) (s0_0 + 1) l0_1))))) else (kx0_1 l0_1)
def z3u (n : GNet) (marks : List Int) (t : Int) : Option (List Int) := (z3i marks).bind fun x1 => ((getI n.tasks t).bind fun x2 => (z15 n t x2.in_ (x2.in_.length : Int) z91 z92 FUEL 0 x1))
def z0r : Con := ⟨93, [.v (.s .net) false, .v (.sl .I) false, .v .I false], [((.sl .I), true)], [], fun x => z3u x.1 x.2.1 x.2.2.1⟩
def y2z : Fs := ⟨[z66], [], []⟩
theorem zd8 : y2z.Ok Tryz.prog := (fsK zs3 fs0)
def z9n : Tmpl := ⟨[(2, .c .i), (3, .c (.bx 3 0)), (7, .c (.ref 11)), (17, .c (.s .I)), (18, .c .i), (19, .c .i)], [(3, .boxT (.s .net)), (11, .arr .I true)]⟩
def z5b : Tmpl := ⟨[(7, .c (.ref 11))], [(11, .arr .I true)]⟩
def y0r (av : AV) (x : HP z0r.ps) (n : Nat) (v : z9n.den) (K : Ks (CR z0r)) : Option (CR z0r) := z15 v.2.1 v.1.1 v.1.2.2.2.1 v.1.2.2.2.2.1 (fun l0_1 x4 x7 => z5b.at none (((), ()), ((l0_1.set x4.toNat (x7 - 1)), ())) (K (.exit 0))) (fun l0_1 => z5b.at none (((), ()), (l0_1, ())) (K (.exit 0))) n v.1.2.2.2.2.2.1 v.2.2.1
def z9i (av : AV) (x : HP z0r.ps) : Hdl (CR z0r) := hnd [] z9n (y0r av x)
theorem y10 : LP z0r Tryz.f93 [0] z9i := lp_ok (W := []) (H := []) (xs := [z5b]) zd8 trivial rfl (fun av x v K => by kernel_rfl) (fun av x n v K => by kernel_rfl)
theorem zf2 : z0r.Ok Tryz.prog := fn_ok (k := z0r) (fn := Tryz.f93) (W := []) (H := [z9i]) Tryz.func93 zd8 ⟨y10, trivial⟩ rfl rfl (fun av x => by kernel_rfl)
def zh8 (n : Int) : Option Bool := (z0v n 0 7).bind fun x1 => (some (!x1))
def zi4 : FCon := ⟨119, .I, [], fun z c => zh8 z ⟩
def yb9 : Fs := ⟨[z2n], [], []⟩
theorem yd9 : yb9.Ok Tryz.prog := (fsK z3d fs0)
theorem yg0 : zi4.Ok Tryz.prog := FCon.ok (fn_ok (k := zi4.con) (fn := Tryz.f119) (W := []) (H := []) Tryz.func119 yd9 trivial rfl rfl (fun av x => by kernel_rfl))
def z94 (people : List Int) : Option Bool := (z0v (people.length : Int) 1 4).bind fun x1 => (if x1 = true then ((z1j people (fun z => zh8 z )).bind fun x3 => (some (!x3))) else (some false))
def ze2 : Con := ⟨50, [.v (.sl .I) false], [(.B, true)], [], fun x => z94 x.1⟩
def yw2 : Fs := ⟨[z2n, z30], [zi4], []⟩
theorem yy2 : yw2.Ok Tryz.prog := (fsK z3d (fsK z4r (fsF yg0 fs0)))
theorem y64 : ze2.Ok Tryz.prog := fn_ok (k := ze2) (fn := Tryz.f50) (W := []) (H := []) Tryz.func50 yy2 trivial rfl rfl (fun av x => by kernel_rfl)
def za4 (people : List Int) (who : Int) (role : Int) : Option Bool := (z94 people).bind fun x1 => (if x1 = true then ((z0v who 1 (people.length : Int)).bind fun x3 => (if x3 = true then ((z72 role).bind fun x5 => (if x5 = true then (gd (ok64 (who - 1)) ((getI people (who - 1)).bind fun x8 => (gd (ok64 (role - 1)) (gd ((0 : Int) ≤ (role - 1) ∧ (role - 1) ≤ (63 : Int)) (some (decide ((andI (shrI x8 (role - 1)) 1) = 1))))))) else (some false))) else (some false))) else (some false))
def zo8 : Con := ⟨80, [.v (.sl .I) false, .v .I false, .v .I false], [(.B, true)], [], fun x => za4 x.1 x.2.1 x.2.2.1⟩
def yl8 : Fs := ⟨[ze2, z2n, z9y], [], []⟩
theorem yo0 : yl8.Ok Tryz.prog := (fsK y64 (fsK z3d (fsK y3i fs0)))
theorem yq6 : zo8.Ok Tryz.prog := fn_ok (k := zo8) (fn := Tryz.f80) (W := []) (H := []) Tryz.func80 yo0 trivial rfl rfl (fun av x => by kernel_rfl)
def za3 (did : List GDid) (who : Int) (task : Int) : Option Bool := (zc5 did (GDid.mk task who)).bind fun x1 => (some x1)
def zo7 : Con := ⟨109, [.v (.sl (.s .did)) false, .v .I false, .v .I false], [(.B, true)], [], fun x => za3 x.1 x.2.1 x.2.2.1⟩
def yl7 : Fs := ⟨[zc2], [], []⟩
theorem yn9 : yl7.Ok Tryz.prog := (fsK y95 fs0)
theorem yq5 : zo7.Ok Tryz.prog := fn_ok (k := zo7) (fn := Tryz.f109) (W := []) (H := []) Tryz.func109 yn9 trivial rfl rfl (fun av x => by kernel_rfl)
def z8b (l0_1 : List Int) : Option (List Int) := some l0_1
def z23 (p : Int → Option Bool) (p0_0 : Int) (kx0_0 : List Int → Option (List Int)) : Nat → Int → List Int → Option (List Int)
  | 0, _, _ => none
  | n0 + 1, s0_0, l0_1 => if decide (s0_0 < p0_0) = true then (gd (ok64 (s0_0 + 1)) ((p (s0_0 + 1)).bind fun x5 => (if x5 = true then (gd (ok64 (s0_0 + 1)) (gd (l0_1.length + [(s0_0 + 1)].length ≤ SMALL) (gd (ok64 (s0_0 + 1)) ((z23 p p0_0 kx0_0 n0) (s0_0 + 1) (l0_1 ++ [(s0_0 + 1)]))))) else (gd (ok64 (s0_0 + 1)) ((z23 p p0_0 kx0_0 n0) (s0_0 + 1) l0_1))))) else (kx0_0 l0_1)
def zh9 (people : List Int) (p : Int → Option Bool) : Option (List Int) := (z94 people).bind fun x1 => (if x1 = true then (z23 p (people.length : Int) z8b FUEL 0 ([] : List Int)) else (some []))
def z1o : Con := ⟨105, [.v (.sl .I) false, .fn .I], [((.sl .I), true)], [], fun x => zh9 x.1 x.2.1⟩
def yc2 : Fs := ⟨[ze2], [], []⟩
theorem y16 : yc2.Ok Tryz.prog := (fsK y64 fs0)
def zs6 : Tmpl := ⟨[(1, .c .fp), (5, .c (.ref 500005)), (11, .c .i), (12, .c .i)], [(500005, .arr .I true)]⟩
def zm6 : Tmpl := ⟨[(5, .c (.ref 500005))], [(500005, .arr .I true)]⟩
def y6h (av : AV) (x : HP z1o.ps) (n : Nat) (v : zs6.den) (K : Ks (CR z1o)) : Option (CR z1o) := z23 x.2.1 v.1.2.2.1 (fun l0_1 => zm6.at (fpOf z1o.ps x av) (((), ()), (l0_1, ())) (K (.exit 0))) n v.1.2.2.2.1 v.2.1
def zq7 (av : AV) (x : HP z1o.ps) : Hdl (CR z1o) := hnd [.e 5 500005 .I] zs6 (y6h av x)
theorem y71 : LP z1o Tryz.f105 [0] zq7 := lp_ok (W := []) (H := []) (xs := [zm6]) y16 trivial rfl (fun av x v K => by kernel_rfl) (fun av x n v K => by kernel_rfl)
theorem yg2 : z1o.Ok Tryz.prog := fn_ok (k := z1o) (fn := Tryz.f105) (W := []) (H := [zq7]) Tryz.func105 y16 ⟨y71, trivial⟩ rfl rfl (fun av x => by kernel_rfl)
def z8a (b : GItem) (task : GTask) (who : Int) : Option Bool := if decide (b.task = task.apart) = true then (some (decide (b.who = who))) else (some false)
def z8e : FCon := ⟨108, (.s .item), [(.s .task), .I], fun z c => z8a z c.1 c.2.1⟩
def y4l : Fs := ⟨[], [], []⟩
theorem y4r : y4l.Ok Tryz.prog := fs0
theorem y59 : z8e.Ok Tryz.prog := FCon.ok (fn_ok (k := z8e.con) (fn := Tryz.f108) (W := []) (H := []) Tryz.func108 y4r trivial rfl rfl (fun av x => by kernel_rfl))
def z55 (who : Int) (busy : List GItem) (task : GTask) (people : List Int) (did : List GDid) : Option Bool := (z3x busy (fun z => z8a z task who)).bind fun x1 => ((za4 people who task.role).bind fun x2 => (if x2 = true then (if x1 = true then (some false) else ((za3 did who task.apart).bind fun x5 => (some (!x5)))) else (some false)))
def zc8 : FCon := ⟨106, .I, [(.sl (.s .item)), (.s .task), (.sl .I), (.sl (.s .did))], fun z c => z55 z c.1 c.2.1 c.2.2.1 c.2.2.2.1⟩
def y88 : Fs := ⟨[z5r, zo8, zo7], [z8e], []⟩
theorem y8n : y88.Ok Tryz.prog := (fsK y11 (fsK yq6 (fsK yq5 (fsF y59 fs0))))
theorem y97 : zc8.Ok Tryz.prog := FCon.ok (fn_ok (k := zc8.con) (fn := Tryz.f106) (W := []) (H := []) Tryz.func106 y8n trivial rfl rfl (fun av x => by kernel_rfl))
def z71 (n : GNet) (people : List Int) (did : List GDid) (busy : List GItem) (t : Int) : Option (List Int) := (z93 n).bind fun x1 => (if x1 = true then ((z0e n t).bind fun x3 => (if x3 = true then ((getI n.tasks t).bind fun x5 => ((zh9 people (fun z => z55 z busy x5 people did)).bind fun x6 => (some x6))) else (some []))) else (some []))
def z9x : Con := ⟨35, [.v (.s .net) false, .v (.sl .I) false, .v (.sl (.s .did)) false, .v (.sl (.s .item)) false, .v .I false], [((.sl .I), true)], [], fun x => z71 x.1 x.2.1 x.2.2.1 x.2.2.2.1 x.2.2.2.2.1⟩
def yl9 : Fs := ⟨[ze1, z14, z1o], [zc8], []⟩
theorem yo1 : yl9.Ok Tryz.prog := (fsK y63 (fsK z2r (fsK yg2 (fsF y97 fs0))))
theorem y3h : z9x.Ok Tryz.prog := fn_ok (k := z9x) (fn := Tryz.f35) (W := []) (H := []) Tryz.func35 yo1 trivial rfl rfl (fun av x => by kernel_rfl)
def z6x (c : GCase) : Option Bool := if decide (c.state = 1) = true then ((getI c.marks 1).bind fun x16 => (some (decide (x16 = 0)))) else (if decide (c.state = 2) = true then (if decide ((c.busy.length : Int) = 0) = true then ((getI c.marks 1).bind fun x19 => (some ((decide (c.state = 2)) == (decide (0 < x19))))) else (some false)) else (if decide (c.state = 3) = true then (if decide ((c.busy.length : Int) = 0) = true then ((getI c.marks 1).bind fun x22 => (some ((decide (c.state = 2)) == (decide (0 < x22))))) else (some false)) else (some false)))
def z41 (n : GNet) (p0_0 : List GDid) (p0_1 : Int) (kx0_0 : Option Bool) : Nat → Int → Option Bool
  | 0, _ => none
  | n0 + 1, s0_0 => if decide (s0_0 < p0_1) = true then ((getI p0_0 s0_0).bind fun x9 => ((z0e n x9.task).bind fun x10 => (if x10 = true then ((z56 x9.who).bind fun x12 => (if x12 = true then (gd (ok64 (s0_0 + 1)) ((z41 n p0_0 p0_1 kx0_0 n0) (s0_0 + 1))) else (some false))) else (some false)))) else (kx0_0)
def z8y (n : GNet) (c : GCase) : Option Bool := (z6f n c.marks).bind fun x1 => (if x1 = true then ((z32 n c.busy).bind fun x3 => (if x3 = true then ((z8z c.data).bind fun x5 => (if x5 = true then (if decide (60 < (c.did.length : Int)) = true then (some false) else (z41 n c.did (c.did.length : Int) (z6x c) FUEL 0)) else (some false))) else (some false))) else (some false))
def z36 : Con := ⟨30, [.v (.s .net) false, .v (.s .kase) false], [(.B, true)], [], fun x => z8y x.1 x.2.1⟩
def yv7 : Fs := ⟨[z8x, z0h, ze0, z14, z6v], [], []⟩
theorem y5m : yv7.Ok Tryz.prog := (fsK zy7 (fsK z9l (fsK y62 (fsK z2r (fsK zz1 fs0)))))
def y1u : Tmpl := ⟨[(2, .c (.bx 2 0)), (3, .c (.bx 3 0)), (32, .c (.s (.s .did))), (33, .c .i), (34, .c .i)], [(2, .boxT (.s .net)), (3, .boxT (.s .kase))]⟩
def y09 : Tmpl := ⟨[(3, .c (.bx 3 0))], [(3, .boxT (.s .kase))]⟩
def ya6 (av : AV) (x : HP z36.ps) (n : Nat) (v : y1u.den) (K : Ks (CR z36)) : Option (CR z36) := z41 v.2.1 v.1.2.2.1 v.1.2.2.2.1 (y09.at none (((), ()), (v.2.2.1, ())) (K (.exit 0))) n v.1.2.2.2.2.1
def y1e (av : AV) (x : HP z36.ps) : Hdl (CR z36) := hnd [] y1u (ya6 av x)
theorem ye7 : LP z36 Tryz.f30 [0] y1e := lp_ok (W := []) (H := []) (xs := [y09]) y5m trivial rfl (fun av x v K => by kernel_rfl) (fun av x n v K => by kernel_rfl)
theorem y61 : z36.Ok Tryz.prog := fn_ok (k := z36) (fn := Tryz.f30) (W := []) (H := [y1e]) Tryz.func30 y5m ⟨ye7, trivial⟩ rfl rfl (fun av x => by kernel_rfl)
def z8k (n : GNet) (c : GCase) : Option Bool := (z8y n c).bind fun x1 => (if x1 = true then (some (decide (c.state = 1))) else (some false))
def zh0 : Con := ⟨85, [.v (.s .net) false, .v (.s .kase) false], [(.B, true)], [], fun x => z8k x.1 x.2.1⟩
def yc3 : Fs := ⟨[z36], [], []⟩
theorem ye1 : yc3.Ok Tryz.prog := (fsK y61 fs0)
theorem yg3 : zh0.Ok Tryz.prog := fn_ok (k := zh0) (fn := Tryz.f85) (W := []) (H := []) Tryz.func85 ye1 trivial rfl rfl (fun av x => by kernel_rfl)
def z6y (n : GNet) (people : List Int) (c : GCase) (t : Int) (who : Int) : Option (GCase × Bool) := (z1x c).bind fun x1 => ((z8k n c).bind fun x2 => (if x2 = true then (if decide ((c.busy.length : Int) = 6) = true then (some (x1, false)) else ((z6z n c.marks c.busy t).bind fun x5 => (if x5 = true then ((z71 n people c.did c.busy t).bind fun x7 => ((z6d x7 who).bind fun x8 => (if x8 = true then ((z3u n c.marks t).bind fun x10 => (gd (x1.busy.length + [(GItem.mk t who 0)].length ≤ SMALL) ((z1x (GCase.mk x1.state x10 (x1.busy ++ [(GItem.mk t who 0)]) x1.data x1.did)).bind fun x12 => (some (x12, true))))) else (some (x1, false))))) else (some (x1, false))))) else (some (x1, false))))
def zc3 : Con := ⟨27, [.v (.s .net) false, .v (.sl .I) false, .v (.s .kase) false, .v .I false, .v .I false], [((.s .kase), true), (.B, true)], [], fun x => z6y x.1 x.2.1 x.2.2.1 x.2.2.2.1 x.2.2.2.2.1⟩
def y87 : Fs := ⟨[z5t, zh0, z9w, z9x, z8w, z0r], [], []⟩
theorem y8m : y87.Ok Tryz.prog := (fsK y13 (fsK yg3 (fsK y3g (fsK y3h (fsK zy6 (fsK zf2 fs0))))))
theorem y96 : zc3.Ok Tryz.prog := fn_ok (k := zc3) (fn := Tryz.f27) (W := []) (H := []) Tryz.func27 y8m trivial rfl rfl (fun av x => by kernel_rfl)
def z8j (n : GNet) (marks : List Int) (t : Int) : Option (List Int) := (z6f n marks).bind fun x1 => (if x1 = true then ((z0e n t).bind fun x3 => (if x3 = true then ((z3u n marks t).bind fun x5 => (some x5)) else (some []))) else (some []))
def zg9 : Con := ⟨36, [.v (.s .net) false, .v (.sl .I) false, .v .I false], [((.sl .I), true)], [], fun x => z8j x.1 x.2.1 x.2.2.1⟩
def yb7 : Fs := ⟨[z8x, z14, z0r], [], []⟩
theorem yd7 : yb7.Ok Tryz.prog := (fsK zy7 (fsK z2r (fsK zf2 fs0)))
theorem yf8 : zg9.Ok Tryz.prog := fn_ok (k := zg9) (fn := Tryz.f36) (W := []) (H := []) Tryz.func36 yd7 trivial rfl rfl (fun av x => by kernel_rfl)
def z8p (code : List Int) : Option GRd := if decide (2000 < (code.length : Int)) = true then (gd ((0 : Int) ≤ 2000 ∧ 2000 ≤ (code.length : Int)) (some (GRd.mk (code.take (2000 : Int).toNat) 0))) else (some (GRd.mk code 0))
def y1p : BCon := ⟨83, fun x => z8p x⟩
def yd0 : Fs := ⟨[], [], []⟩
theorem ye4 : yd0.Ok Tryz.prog := fs0
theorem yh0 : y1p.Ok Tryz.prog := w9t (fn := Tryz.f83) Tryz.func83 ye4 rfl rfl rfl rfl rfl (fun l => by kernel_rfl)
def z04 (r : GRd) (n : Int) : Option (Int × GRd) := gd (ok64 (r.p + 1)) (if decide (n < 1) = true then (some (0, (GRd.mk r.b (r.p + 1)))) else (if decide ((r.b.length : Int) = 0) = true then (some (0, (GRd.mk r.b (r.p + 1)))) else (gd (ok64 ((r.p + 1) - 1)) (if decide (((r.p + 1) - 1) < (r.b.length : Int)) = true then ((getI r.b ((r.p + 1) - 1)).bind fun x6 => (gd (ok64 x6) (gd ((n : Int) ≠ 0) (some ((Int.tmod x6 n), (GRd.mk r.b (r.p + 1))))))) else (gd (((r.b.length : Int) : Int) ≠ 0) ((getI r.b (Int.tmod ((r.p + 1) - 1) (r.b.length : Int))).bind fun x10 => (gd (ok64 x10) (gd (ok64 (x10 * 131)) (gd (ok64 (((r.p + 1) - 1) * 7)) (gd (ok64 ((((r.p + 1) - 1) * 7) + 3)) (gd (((r.b.length : Int) : Int) ≠ 0) ((getI r.b (Int.tmod ((((r.p + 1) - 1) * 7) + 3) (r.b.length : Int))).bind fun x16 => (gd (ok64 x16) (gd (ok64 (x16 * 1117)) (gd (ok64 ((x10 * 131) + (x16 * 1117))) (gd (ok64 (((r.p + 1) - 1) * 29)) (gd (ok64 (((x10 * 131) + (x16 * 1117)) + (((r.p + 1) - 1) * 29))) (gd (((r.b.length : Int) : Int) ≠ 0 ∧ ok64 (Int.tdiv ((r.p + 1) - 1) (r.b.length : Int))) (gd (ok64 ((Int.tdiv ((r.p + 1) - 1) (r.b.length : Int)) * 53)) (gd (ok64 ((((x10 * 131) + (x16 * 1117)) + (((r.p + 1) - 1) * 29)) + ((Int.tdiv ((r.p + 1) - 1) (r.b.length : Int)) * 53))) (gd ((64 : Int) ≠ 0 ∧ ok64 (Int.tdiv ((((x10 * 131) + (x16 * 1117)) + (((r.p + 1) - 1) * 29)) + ((Int.tdiv ((r.p + 1) - 1) (r.b.length : Int)) * 53)) 64)) (gd ((n : Int) ≠ 0) (some ((Int.tmod (xorI ((((x10 * 131) + (x16 * 1117)) + (((r.p + 1) - 1) * 29)) + ((Int.tdiv ((r.p + 1) - 1) (r.b.length : Int)) * 53)) (Int.tdiv ((((x10 * 131) + (x16 * 1117)) + (((r.p + 1) - 1) * 29)) + ((Int.tdiv ((r.p + 1) - 1) (r.b.length : Int)) * 53)) 64)) n), (GRd.mk r.b (r.p + 1))))))))))))))))))))))))))
def ze3 : Con := ⟨98, [.ptr (.s .rd) false, .v .I false], [(.I, true)], [(0, .ptr (.s .rd) false)], fun x => z04 x.1 x.2.1⟩
def wd5 : Fs := ⟨[], [], []⟩
theorem wd6 : wd5.Ok Tryz.prog := fs0
theorem zs4 : ze3.Ok Tryz.prog := fn_ok (k := ze3) (fn := Tryz.f98) (W := []) (H := []) Tryz.func98 wd6 trivial rfl rfl (fun av x => by kernel_rfl)
def z5m (n : Int) (s0_0 : List Int) (s0_1 : Int) (l0_3 : List Int) : Option ((List Int) × GRd) := (z04 (GRd.mk s0_0 s0_1) n).bind fun x7 => (if decide (x7.1 = 0) = true then ((z04 x7.2 3).bind fun x9 => (if decide (x9.1 = 0) = true then ((z04 x9.2 3).bind fun x11 => ((z04 x11.2 4).bind fun x12 => ((getI [100, (-100), 9223372036854775807, (-9223372036854775808)] x12.1).bind fun x13 => ((getI l0_3 x11.1).bind fun x14 => (some ((l0_3.set x11.1.toNat x13), x12.2)))))) else (if decide (x9.1 = 1) = true then (gd ((0 : Int) ≤ 1 ∧ 1 ≤ (l0_3.length : Int)) (some ((l0_3.drop (1 : Int).toNat), x9.2))) else (gd (l0_3.length + [0].length ≤ SMALL) (some ((l0_3 ++ [0]), x9.2)))))) else (some (l0_3, x7.2)))
def z3c (kx0_0 : List Int → Int → List Int → Option ((List Int) × GRd)) : Nat → List Int → Int → Int → List Int → Option ((List Int) × GRd)
  | 0, _, _, _, _ => none
  | n0 + 1, s0_0, s0_1, s0_2, l0_3 => if decide (s0_2 < 3) = true then ((z04 (GRd.mk s0_0 s0_1) 9).bind fun x2 => ((z04 x2.2 7).bind fun x3 => ((getI [0, 1, (-1), 5, 99, (-99), x2.1] x3.1).bind fun x4 => (gd (l0_3.length + [x4].length ≤ SMALL) (gd (ok64 (s0_2 + 1)) ((z3c kx0_0 n0) x3.2.b x3.2.p (s0_2 + 1) (l0_3 ++ [x4]))))))) else (kx0_0 s0_0 s0_1 l0_3)
def z5z (r : GRd) (n : Int) : Option ((List Int) × GRd) := z3c (z5m n) FUEL r.b r.p 0 ([] : List Int)
def z2g : Con := ⟨156, [.ptr (.s .rd) false, .v .I false], [((.sl .I), false)], [(0, .ptr (.s .rd) false)], fun x => z5z x.1 x.2.1⟩
def yc9 : Fs := ⟨[ze3], [], []⟩
theorem y19 : yc9.Ok Tryz.prog := (fsK zs4 fs0)
def zt1 : Tmpl := ⟨[(0, .c (.bx 1000000 0)), (1, .c .i), (5, .c (.ref 7)), (6, .c .i)], [(1000000, .box [.s .Y, .i]), (7, .arr .I true)]⟩
def zn0 : Tmpl := ⟨[(0, .c (.bx 1000000 0)), (1, .c .i), (5, .c (.ref 7))], [(1000000, .box [.s .Y, .i]), (7, .arr .I true)]⟩
def y6m (av : AV) (x : HP z2g.ps) (n : Nat) (v : zt1.den) (K : Ks (CR z2g)) : Option (CR z2g) := z3c (fun s0_0 s0_1 l0_3 => zn0.at none (((), v.1.2.1, (), ()), ((s0_0, s0_1, ()), l0_3, ())) (K (.exit 0))) n v.2.1.1 v.2.1.2.1 v.1.2.2.2.1 v.2.2.1
def zr2 (av : AV) (x : HP z2g.ps) : Hdl (CR z2g) := hnd [] zt1 (y6m av x)
theorem y76 : LP z2g Tryz.f156 [0] zr2 := lp_ok (W := [(12, [.froz 7])]) (H := []) (xs := [zn0]) y19 trivial rfl (fun av x v K => by kernel_rfl) (fun av x n v K => by kernel_rfl)
theorem yg9 : z2g.Ok Tryz.prog := fn_ok (k := z2g) (fn := Tryz.f156) (W := [(12, [.froz 7])]) (H := [zr2]) Tryz.func156 y19 ⟨y76, trivial⟩ rfl rfl (fun av x => by kernel_rfl)
def zb0 (r : GRd) (n : Int) : Option (GAsk × GRd) := (z04 r 3).bind fun x1 => (gd (ok64 (1 + x1.1)) ((z04 x1.2 3).bind fun x3 => ((z04 x3.2 9).bind fun x4 => ((z04 x4.2 6).bind fun x5 => ((getI [0, 1, 2, 5, (-1), x4.1] x5.1).bind fun x6 => ((z04 x5.2 6).bind fun x7 => (if decide (x7.1 = 0) = true then ((z04 x7.2 n).bind fun x9 => (if decide (x9.1 = 0) = true then ((z04 x9.2 3).bind fun x11 => (if decide (x11.1 = 0) = true then ((z04 x11.2 3).bind fun x13 => ((getI [0, 4, (-1)] x13.1).bind fun x14 => (some ((GAsk.mk x14 0 0), x13.2)))) else (if decide (x11.1 = 1) = true then ((z04 x11.2 3).bind fun x16 => ((getI [3, (-1), 1] x16.1).bind fun x17 => (some ((GAsk.mk 0 x17 0), x16.2)))) else ((z04 x11.2 3).bind fun x18 => ((getI [99, 100, (-99)] x18.1).bind fun x19 => (some ((GAsk.mk 0 0 x19), x18.2))))))) else (some ((GAsk.mk 0 0 0), x9.2)))) else ((z04 x7.2 n).bind fun x20 => (if decide (x20.1 = 0) = true then ((z04 x20.2 3).bind fun x22 => (if decide (x22.1 = 0) = true then ((z04 x22.2 3).bind fun x24 => ((getI [0, 4, (-1)] x24.1).bind fun x25 => (some ((GAsk.mk x25 x3.1 x6), x24.2)))) else (if decide (x22.1 = 1) = true then ((z04 x22.2 3).bind fun x27 => ((getI [3, (-1), 1] x27.1).bind fun x28 => (some ((GAsk.mk (1 + x1.1) x28 x6), x27.2)))) else ((z04 x22.2 3).bind fun x29 => ((getI [99, 100, (-99)] x29.1).bind fun x30 => (some ((GAsk.mk (1 + x1.1) x3.1 x30), x29.2))))))) else (some ((GAsk.mk (1 + x1.1) x3.1 x6), x20.2)))))))))))
def zp3 : Con := ⟨197, [.ptr (.s .rd) false, .v .I false], [((.s .ask), true)], [(0, .ptr (.s .rd) false)], fun x => zb0 x.1 x.2.1⟩
def yn1 : Fs := ⟨[ze3], [], []⟩
theorem yo8 : yn1.Ok Tryz.prog := (fsK zs4 fs0)
theorem yr3 : zp3.Ok Tryz.prog := fn_ok (k := zp3) (fn := Tryz.f197) (W := []) (H := []) Tryz.func197 yo8 trivial rfl rfl (fun av x => by kernel_rfl)
def zk7 (join : Int) (in_ : List Int) (p0_6 : Int) (p0_7 : Int) (p0_8 : Int) (p0_9 : Int) (p0_10 : Int) (s0_0 : List Int) (s0_1 : Int) (l0_3 : List GFlow) : Option (GTask × GRd) := some ((GTask.mk join p0_6 in_ l0_3 [] p0_7 p0_8 p0_9 p0_10), (GRd.mk s0_0 s0_1))
def z0y (split : Int) (to : List Int) (kx0_0 : List Int → Int → List GFlow → Option (GTask × GRd)) : Nat → List Int → Int → Int → List GFlow → Option (GTask × GRd)
  | 0, _, _, _, _ => none
  | n0 + 1, s0_0, s0_1, s0_2, l0_3 => if decide (s0_2 < (to.length : Int)) = true then ((getI to s0_2).bind fun x11 => (if decide (split = 1) = true then (gd (l0_3.length + [(GFlow.mk x11 (GAsk.mk 0 0 0))].length ≤ SMALL) (gd (ok64 (s0_2 + 1)) ((z0y split to kx0_0 n0) s0_0 s0_1 (s0_2 + 1) (l0_3 ++ [(GFlow.mk x11 (GAsk.mk 0 0 0))])))) else (gd (ok64 ((to.length : Int) - 1)) (if decide (s0_2 < ((to.length : Int) - 1)) = true then ((z04 (GRd.mk s0_0 s0_1) 3).bind fun x17 => (gd (ok64 (1 + x17.1)) ((z04 x17.2 3).bind fun x19 => ((z04 x19.2 5).bind fun x20 => (gd (ok64 (x20.1 - 1)) (gd (l0_3.length + [(GFlow.mk x11 (GAsk.mk (1 + x17.1) x19.1 (x20.1 - 1)))].length ≤ SMALL) (gd (ok64 (s0_2 + 1)) ((z0y split to kx0_0 n0) x20.2.b x20.2.p (s0_2 + 1) (l0_3 ++ [(GFlow.mk x11 (GAsk.mk (1 + x17.1) x19.1 (x20.1 - 1)))]))))))))) else (gd (l0_3.length + [(GFlow.mk x11 (GAsk.mk 0 0 0))].length ≤ SMALL) (gd (ok64 (s0_2 + 1)) ((z0y split to kx0_0 n0) s0_0 s0_1 (s0_2 + 1) (l0_3 ++ [(GFlow.mk x11 (GAsk.mk 0 0 0))])))))))) else (kx0_0 s0_0 s0_1 l0_3)
def zk8 (join : Int) (in_ : List Int) (p1_6 : Int) (p1_7 : Int) (p1_8 : Int) (p1_9 : Int) (p1_10 : Int) (s1_0 : List Int) (s1_1 : Int) (l1_3 : List GFlow) : Option (GTask × GRd) := some ((GTask.mk join p1_6 in_ l1_3 [] p1_7 p1_8 p1_9 p1_10), (GRd.mk s1_0 s1_1))
def z08 (r : GRd) (join : Int) (split : Int) (in_ : List Int) (to : List Int) (tasks : Int) : Option (GTask × GRd) := (z04 r 3).bind fun x1 => (gd (ok64 (1 + x1.1)) ((z04 x1.2 3).bind fun x3 => (gd (ok64 (1 + x3.1)) ((z04 x3.2 (1 + x3.1)).bind fun x5 => (gd (ok64 (1 + x5.1)) ((z04 x5.2 3).bind fun x7 => (if decide (x7.1 = 0) = true then ((z04 x7.2 tasks).bind fun x9 => (z0y split to (zk7 join in_ split (1 + x1.1) x9.1 (1 + x3.1) (1 + x5.1)) FUEL x9.2.b x9.2.p 0 ([] : List GFlow))) else (z0y split to (zk8 join in_ split (1 + x1.1) (-1) (1 + x3.1) (1 + x5.1)) FUEL x7.2.b x7.2.p 0 ([] : List GFlow)))))))))
def z2h : Con := ⟨213, [.ptr (.s .rd) false, .v .I false, .v .I false, .v (.sl .I) true, .v (.sl .I) true, .v .I false], [((.s .task), true)], [(0, .ptr (.s .rd) false)], fun x => z08 x.1 x.2.1 x.2.2.1 x.2.2.2.1 x.2.2.2.2.1 x.2.2.2.2.2.1⟩
def yd1 : Fs := ⟨[ze3], [], []⟩
theorem y1a : yd1.Ok Tryz.prog := (fsK zs4 fs0)
def zt2 : Tmpl := ⟨[(0, .c (.bx 1000000 0)), (2, .c .i), (4, .c (.ref 1480000)), (12, .c (.bx 12 0)), (13, .c (.bx 13 0)), (14, .c .i)], [(1000000, .box [.s .Y, .i]), (12, .box [.i, .i, .nl, .nl, .nl, .i, .i, .i, .i]), (13, .box [.i, .i, .ref 1360000, .ref 511303, .nl, .i, .i, .i, .i]), (1480000, .arr .I true), (1360000, .arr .I true), (511303, .arr (.s .flow) true)]⟩
def zn1 : Tmpl := ⟨[(12, .c (.bx 12 0)), (13, .c (.bx 13 0))], [(12, .box [.i, .i, .nl, .nl, .nl, .i, .i, .i, .i]), (13, .box [.i, .i, .ref 1360000, .ref 511303, .nl, .i, .i, .i, .i]), (1000000, .box [.s .Y, .i]), (1360000, .arr .I true), (511303, .arr (.s .flow) true)]⟩
def y6n (av : AV) (x : HP z2h.ps) (n : Nat) (v : zt2.den) (K : Ks (CR z2h)) : Option (CR z2h) := z0y v.1.2.1 v.2.2.2.2.1 (fun s0_0 s0_1 l0_3 => zn1.at none (((), (), ()), ((v.2.2.1.1, v.2.2.1.2.1, (), (), (), v.2.2.1.2.2.2.2.2.1, v.2.2.1.2.2.2.2.2.2.1, v.2.2.1.2.2.2.2.2.2.2.1, v.2.2.1.2.2.2.2.2.2.2.2.1, ()), (v.2.2.2.1.1, v.2.2.2.1.2.1, (), (), (), v.2.2.2.1.2.2.2.2.2.1, v.2.2.2.1.2.2.2.2.2.2.1, v.2.2.2.1.2.2.2.2.2.2.2.1, v.2.2.2.1.2.2.2.2.2.2.2.2.1, ()), (s0_0, s0_1, ()), v.2.2.2.2.2.1, l0_3, ())) (K (.exit 0))) n v.2.1.1 v.2.1.2.1 v.1.2.2.2.2.2.1 v.2.2.2.2.2.2.1
def zr3 (av : AV) (x : HP z2h.ps) : Hdl (CR z2h) := hnd [.b 13 3 511303 (.s .flow)] zt2 (y6n av x)
theorem y77 : LP z2h Tryz.f213 [0] zr3 := lp_ok (W := []) (H := []) (xs := [zn1]) y1a trivial rfl (fun av x v K => by kernel_rfl) (fun av x n v K => by kernel_rfl)
theorem yh1 : z2h.Ok Tryz.prog := fn_ok (k := z2h) (fn := Tryz.f213) (W := []) (H := [zr3]) Tryz.func213 y1a ⟨y77, trivial⟩ rfl rfl (fun av x => by kernel_rfl)
end
end Go.Am
