/- Mirrors and contracts, printed. Own work. -/
import Derived.Test.YtgolgnbgomhknaaGreatRuD1
set_option maxRecDepth 100000
set_option maxHeartbeats 4000000
set_option linter.unusedVariables false
set_option linter.unusedSimpArgs false
namespace Go.Am
noncomputable section
open Go Go.Proofs
def z03 (n : Int) (low : Int) (high : Int) : Option Bool := if decide (low ≤ n) = true then (some (decide (n ≤ high))) else (some false)
def z0m : Con := ⟨90, [.v .I false, .v .I false, .v .I false], [(.B, true)], [], fun x => z03 x.1 x.2.1 x.2.2.1⟩
def v4y : Fs := ⟨[], [], []⟩
theorem v52 : v4y.Ok Tryz.prog := fs0
theorem z0u : z0m.Ok Tryz.prog := fn_ok (k := z0m) (fn := Tryz.f90) (W := []) (H := []) Tryz.func90 v52 trivial rfl rfl (fun av x => by kernel_rfl)
def ya7  : Option Bool := some true
def z7h (data : List Int) (kx0_0 : Option Bool) : Nat → Int → Option Bool
  | 0, _ => none
  | n0 + 1, s0_0 => if decide (s0_0 < (data.length : Int)) = true then ((getI data s0_0).bind fun x3 => ((z03 x3 (-99) 99).bind fun x4 => (if x4 = true then (gd (ok64 (s0_0 + 1)) ((z7h data kx0_0 n0) (s0_0 + 1))) else (some false)))) else (kx0_0)
def z2q (data : List Int) : Option Bool := if decide ((data.length : Int) = 3) = true then (z7h data ya7 FUEL 0) else (some false)
def z1a : Con := ⟨89, [.v (.sl .I) false], [(.B, true)], [], fun x => z2q x.1⟩
def v1r : Fs := ⟨[z0m], [], []⟩
theorem w2t : v1r.Ok Tryz.prog := (fsK z0u fs0)
def yp5 : Tmpl := ⟨[(0, .c (.s .I)), (3, .c .i)], []⟩
def yg9 : Tmpl := ⟨[], []⟩
def w9s (av : AV) (x : HP z1a.ps) (n : Nat) (v : yp5.den) (K : Ks (CR z1a)) : Option (CR z1a) := z7h v.1.1 (yg9.at none ((), ()) (K (.exit 0))) n v.1.2.1
def yn1 (av : AV) (x : HP z1a.ps) : Hdl (CR z1a) := hnd [] yp5 (w9s av x)
theorem wg0 : LP z1a Tryz.f89 [0] yn1 := lp_ok (W := []) (H := []) (xs := [yg9]) w2t trivial rfl (fun av x v K => by kernel_rfl) (fun av x n v K => by kernel_rfl)
theorem z6x : z1a.Ok Tryz.prog := fn_ok (k := z1a) (fn := Tryz.f89) (W := []) (H := [yn1]) Tryz.func89 w2t ⟨wg0, trivial⟩ rfl rfl (fun av x => by kernel_rfl)
def z83 (data : List Int) (k : Int) (n : Int) : Option (List Int) := (z2q data).bind fun x1 => (if x1 = true then ((z03 k 0 2).bind fun x3 => (if x3 = true then ((z03 n (-99) 99).bind fun x5 => (if x5 = true then (gd (([] : List Int).length + data.length ≤ SMALL) ((getI (([] : List Int) ++ data) k).bind fun x8 => (some ((([] : List Int) ++ data).set k.toNat n)))) else (gd (([] : List Int).length + data.length ≤ SMALL) (some (([] : List Int) ++ data))))) else (gd (([] : List Int).length + data.length ≤ SMALL) (some (([] : List Int) ++ data))))) else (gd (([] : List Int).length + data.length ≤ SMALL) (some (([] : List Int) ++ data))))
def zv7 : Con := ⟨171, [.v (.sl .I) false, .v .I false, .v .I false], [((.sl .I), true)], [], fun x => z83 x.1 x.2.1 x.2.2.1⟩
def wq1 : Fs := ⟨[z1a, z0m], [], []⟩
theorem wt9 : wq1.Ok Tryz.prog := (fsK z6x (fsK z0u fs0))
theorem yz9 : zv7.Ok Tryz.prog := fn_ok (k := zv7) (fn := Tryz.f171) (W := []) (H := []) Tryz.func171 wt9 trivial rfl rfl (fun av x => by kernel_rfl)
def z6q (e : GAsk) : Option Bool := if decide (e.op = 0) = true then (some (decide ([e.op, e.var, e.k] = [0, 0, 0]))) else ((z03 e.op 1 3).bind fun x2 => (if x2 = true then ((z03 e.var 0 2).bind fun x4 => (if x4 = true then ((z03 e.k (-99) 99).bind fun x6 => (some x6)) else (some false))) else (some false)))
def z90 : Con := ⟨138, [.v (.s .ask) false], [(.B, true)], [], fun x => z6q x.1⟩
def v1t : Fs := ⟨[z0m], [], []⟩
theorem v2f : v1t.Ok Tryz.prog := (fsK z0u fs0)
theorem zr8 : z90.Ok Tryz.prog := fn_ok (k := z90) (fn := Tryz.f138) (W := []) (H := []) Tryz.func138 v2f trivial rfl rfl (fun av x => by kernel_rfl)
def z1f (e : GAsk) (data : List Int) : Option Bool := (z6q e).bind fun x1 => (if x1 = true then ((z2q data).bind fun x3 => (if x3 = true then (if decide (e.op = 1) = true then ((getI data e.var).bind fun x6 => (some (decide (x6 < e.k)))) else (if decide (e.op = 2) = true then ((getI data e.var).bind fun x8 => (some (decide (x8 = e.k)))) else (if decide (e.op = 3) = true then ((getI data e.var).bind fun x10 => (some (decide (e.k < x10)))) else (some true)))) else (some false))) else (some false))
def z4i : Con := ⟨181, [.v (.s .ask) false, .v (.sl .I) false], [(.B, true)], [], fun x => z1f x.1 x.2.1⟩
def w6y : Fs := ⟨[z90, z1a], [], []⟩
theorem w7k : w6y.Ok Tryz.prog := (fsK zr8 (fsK z6x fs0))
theorem z7q : z4i.Ok Tryz.prog := fn_ok (k := z4i) (fn := Tryz.f181) (W := []) (H := []) Tryz.func181 w7k trivial rfl rfl (fun av x => by kernel_rfl)
def z0c (n : Int) (low : Int) (high : Int) : Option Bool := if decide (low ≤ n) = true then (some (decide (n ≤ high))) else (some false)
def z26 : Con := ⟨113, [.v .I false, .v .I false, .v .I false], [(.B, true)], [], fun x => z0c x.1 x.2.1 x.2.2.1⟩
def v9g : Fs := ⟨[], [], []⟩
theorem v9r : v9g.Ok Tryz.prog := fs0
theorem z2s : z26.Ok Tryz.prog := fn_ok (k := z26) (fn := Tryz.f113) (W := []) (H := []) Tryz.func113 v9r trivial rfl rfl (fun av x => by kernel_rfl)
def z5m (n : Int) : Option Bool := (z0c n (-99) 99).bind fun x1 => (some x1)
def z8h : Con := ⟨114, [.v .I false], [(.B, true)], [], fun x => z5m x.1⟩
def wb2 : Fs := ⟨[z26], [], []⟩
theorem we1 : wb2.Ok Tryz.prog := (fsK z2s fs0)
theorem zq0 : z8h.Ok Tryz.prog := fn_ok (k := z8h) (fn := Tryz.f114) (W := []) (H := []) Tryz.func114 we1 trivial rfl rfl (fun av x => by kernel_rfl)
def z0g (list : List Int) : Option (List Int) := gd (([] : List Int).length + list.length ≤ SMALL) (some (([] : List Int) ++ list))
def z1e : Con := ⟨140, [.v (.sl .I) false], [((.sl .I), true)], [], fun x => z0g x.1⟩
def w4d : Fs := ⟨[], [], []⟩
theorem w4i : w4d.Ok Tryz.prog := fs0
theorem z2n : z1e.Ok Tryz.prog := fn_ok (k := z1e) (fn := Tryz.f140) (W := []) (H := []) Tryz.func140 w4i trivial rfl rfl (fun av x => by kernel_rfl)
def z7r (e : GAsk) : Option Bool := if decide (e.op = 0) = true then (if decide (e.var = 0) = true then (some (decide (e.k = 0))) else (some false)) else ((z0c e.op 1 3).bind fun x3 => (if x3 = true then ((z0c e.var 0 2).bind fun x5 => (if x5 = true then ((z5m e.k).bind fun x7 => (some x7)) else (some false))) else (some false)))
def zq7 : Con := ⟨141, [.v (.s .ask) false], [(.B, true)], [], fun x => z7r x.1⟩
def v1g : Fs := ⟨[z26, z8h], [], []⟩
theorem v29 : v1g.Ok Tryz.prog := (fsK z2s (fsK zq0 fs0))
theorem yc3 : zq7.Ok Tryz.prog := fn_ok (k := zq7) (fn := Tryz.f141) (W := []) (H := []) Tryz.func141 v29 trivial rfl rfl (fun av x => by kernel_rfl)
def y3q  : Option Bool := some true
def z3v (list : List Int) (low : Int) (high : Int) (kx0_0 : Option Bool) : Nat → Int → Option Bool
  | 0, _ => none
  | n0 + 1, s0_0 => if decide (s0_0 < (list.length : Int)) = true then ((getI list s0_0).bind fun x4 => ((z03 x4 low high).bind fun x5 => (if x5 = true then (if decide (0 < s0_0) = true then (gd (ok64 (s0_0 - 1)) ((getI list (s0_0 - 1)).bind fun x9 => ((getI list s0_0).bind fun x10 => (if decide (x10 ≤ x9) = true then (some false) else (gd (ok64 (s0_0 + 1)) ((z3v list low high kx0_0 n0) (s0_0 + 1))))))) else (gd (ok64 (s0_0 + 1)) ((z3v list low high kx0_0 n0) (s0_0 + 1)))) else (some false)))) else (kx0_0)
def zb4 (list : List Int) (least : Int) (most : Int) (low : Int) (high : Int) : Option Bool := (z03 (list.length : Int) least most).bind fun x1 => (if x1 = true then (z3v list low high y3q FUEL 0) else (some false))
def z49 : Con := ⟨214, [.v (.sl .I) false, .v .I false, .v .I false, .v .I false, .v .I false], [(.B, true)], [], fun x => zb4 x.1 x.2.1 x.2.2.1 x.2.2.2.1 x.2.2.2.2.1⟩
def wd3 : Fs := ⟨[z0m], [], []⟩
theorem ym1 : wd3.Ok Tryz.prog := (fsK z0u fs0)
def y7s : Tmpl := ⟨[(0, .c (.s .I)), (3, .c .i), (4, .c .i), (11, .c .i)], []⟩
def y4q : Tmpl := ⟨[], []⟩
def w48 (av : AV) (x : HP z49.ps) (n : Nat) (v : y7s.den) (K : Ks (CR z49)) : Option (CR z49) := z3v v.1.1 v.1.2.1 v.1.2.2.1 (y4q.at none ((), ()) (K (.exit 0))) n v.1.2.2.2.1
def y6t (av : AV) (x : HP z49.ps) : Hdl (CR z49) := hnd [] y7s (w48 av x)
theorem w55 : LP z49 Tryz.f214 [0] y6t := lp_ok (W := []) (H := []) (xs := [y4q]) ym1 trivial rfl (fun av x v K => by kernel_rfl) (fun av x n v K => by kernel_rfl)
theorem wj6 : z49.Ok Tryz.prog := fn_ok (k := z49) (fn := Tryz.f214) (W := []) (H := [y6t]) Tryz.func214 ym1 ⟨w55, trivial⟩ rfl rfl (fun av x => by kernel_rfl)
def yb8  : Option Bool := some false
def z7o (list : List Int) (n : Int) (kx0_0 : Option Bool) : Nat → Int → Option Bool
  | 0, _ => none
  | n0 + 1, s0_0 => if decide (s0_0 < (list.length : Int)) = true then ((getI list s0_0).bind fun x2 => (if decide (x2 = n) = true then (some true) else (gd (ok64 (s0_0 + 1)) ((z7o list n kx0_0 n0) (s0_0 + 1))))) else (kx0_0)
def ze4 (list : List Int) (n : Int) : Option Bool := z7o list n yb8 FUEL 0
def z4j : Con := ⟨101, [.v (.sl .I) false, .v .I false], [(.B, true)], [], fun x => ze4 x.1 x.2.1⟩
def v20 : Fs := ⟨[], [], []⟩
theorem w30 : v20.Ok Tryz.prog := fs0
def yq3 : Tmpl := ⟨[(0, .c (.s .I)), (1, .c .i), (5, .c .i)], []⟩
def yh6 : Tmpl := ⟨[], []⟩
def wa0 (av : AV) (x : HP z4j.ps) (n : Nat) (v : yq3.den) (K : Ks (CR z4j)) : Option (CR z4j) := z7o v.1.1 v.1.2.1 (yh6.at none ((), ()) (K (.exit 0))) n v.1.2.2.1
def yn9 (av : AV) (x : HP z4j.ps) : Hdl (CR z4j) := hnd [] yq3 (wa0 av x)
theorem wg8 : LP z4j Tryz.f101 [0] yn9 := lp_ok (W := []) (H := []) (xs := [yh6]) w30 trivial rfl (fun av x v K => by kernel_rfl) (fun av x n v K => by kernel_rfl)
theorem yd3 : z4j.Ok Tryz.prog := fn_ok (k := z4j) (fn := Tryz.f101) (W := []) (H := [yn9]) Tryz.func101 w30 ⟨wg8, trivial⟩ rfl rfl (fun av x => by kernel_rfl)
def y3n (s0_0 : Int) (bk0 : Int → Option Bool) : Option Bool := gd (ok64 (s0_0 + 1)) (bk0 (s0_0 + 1))
def z2r (t : GTask) (s0_0 : Int) (x4 : GFlow) (kx1_0 : Option Bool) : Nat → Int → Option Bool
  | 0, _ => none
  | n1 + 1, s1_0 => if decide (s1_0 < s0_0) = true then ((getI t.out s1_0).bind fun x14 => (if decide (x14.to = x4.to) = true then (some false) else (gd (ok64 (s1_0 + 1)) ((z2r t s0_0 x4 kx1_0 n1) (s1_0 + 1))))) else (kx1_0)
def y3o (s0_0 : Int) (bk0 : Int → Option Bool) : Option Bool := gd (ok64 (s0_0 + 1)) (bk0 (s0_0 + 1))
def y3p  : Option Bool := some true
def z3u (t : GTask) (places : Int) (kx0_0 : Option Bool) : Nat → Int → Option Bool
  | 0, _ => none
  | n0 + 1, s0_0 => if decide (s0_0 < (t.out.length : Int)) = true then ((getI t.out s0_0).bind fun x4 => (gd (ok64 ((t.out.length : Int) - 1)) (if decide (s0_0 = ((t.out.length : Int) - 1)) = true then (gd (ok64 (places - 1)) ((z03 x4.to 1 (places - 1)).bind fun x8 => (if x8 = true then ((z6q x4.if_).bind fun x10 => (if x10 = true then (if (true == (decide (x4.if_.op = 0))) = true then (z2r t s0_0 x4 (y3n s0_0 (z3u t places kx0_0 n0)) FUEL 0) else (some false)) else (some false))) else (some false)))) else (gd (ok64 (places - 1)) ((z03 x4.to 1 (places - 1)).bind fun x19 => (if x19 = true then ((z6q x4.if_).bind fun x21 => (if x21 = true then (if ((decide (t.split = 1)) == (decide (x4.if_.op = 0))) = true then (z2r t s0_0 x4 (y3o s0_0 (z3u t places kx0_0 n0)) FUEL 0) else (some false)) else (some false))) else (some false))))))) else (kx0_0)
def zp9 (t : GTask) (places : Int) : Option Bool := (z03 (t.out.length : Int) 1 3).bind fun x1 => (if x1 = true then (z3u t places y3p FUEL 0) else (some false))
def z10 : Con := ⟨215, [.v (.s .task) false, .v .I false], [(.B, true)], [], fun x => zp9 x.1 x.2.1⟩
def wd2 : Fs := ⟨[z0m, z90], [], []⟩
theorem y25 : wd2.Ok Tryz.prog := (fsK z0u (fsK zr8 fs0))
def y1n : Tmpl := ⟨[(1, .c .i), (2, .c (.bx 2 0)), (5, .c .i), (6, .c (.bx 6 0)), (8, .c .i)], [(2, .boxT (.s .task)), (6, .boxT (.s .flow))]⟩
def y0q : Tmpl := ⟨[(1, .c .i), (2, .c (.bx 2 0)), (5, .c .i)], [(2, .boxT (.s .task))]⟩
def yu9 (av : AV) (x : HP z10.ps) (n : Nat) (v : y1n.den) (K : Ks (CR z10)) : Option (CR z10) := z2r v.2.1 v.1.2.2.1 v.2.2.1 (y0q.at none ((v.1.1, (), v.1.2.2.1, ()), (v.2.1, ())) (K (.exit 2))) n v.1.2.2.2.2.1
def y0y (av : AV) (x : HP z10.ps) : Hdl (CR z10) := hnd [] y1n (yu9 av x)
theorem yy8 : LP z10 Tryz.f215 [0, 0] y0y := lp_ok (W := []) (H := []) (xs := [y0q]) y25 trivial rfl (fun av x v K => by kernel_rfl) (fun av x n v K => by kernel_rfl)
def y7r : Tmpl := ⟨[(1, .c .i), (2, .c (.bx 2 0)), (5, .c .i)], [(2, .boxT (.s .task))]⟩
def y4p : Tmpl := ⟨[], []⟩
def w47 (av : AV) (x : HP z10.ps) (n : Nat) (v : y7r.den) (K : Ks (CR z10)) : Option (CR z10) := z3u v.2.1 v.1.1 (y4p.at none ((), ()) (K (.exit 0))) n v.1.2.2.1
def y6s (av : AV) (x : HP z10.ps) : Hdl (CR z10) := hnd [] y7r (w47 av x)
theorem w54 : LP z10 Tryz.f215 [0] y6s := lp_ok (W := []) (H := [y0y]) (xs := [y4p]) y25 ⟨yy8, trivial⟩ rfl (fun av x v K => by kernel_rfl) (fun av x n v K => by kernel_rfl)
theorem wj5 : z10.Ok Tryz.prog := fn_ok (k := z10) (fn := Tryz.f215) (W := []) (H := [y6s]) Tryz.func215 y25 ⟨w54, trivial⟩ rfl rfl (fun av x => by kernel_rfl)
def zy1 (t : GTask) (places : Int) (tasks : Int) : Option Bool := (z03 t.join 1 3).bind fun x1 => (if x1 = true then ((z03 t.split 1 3).bind fun x3 => (if x3 = true then (gd (ok64 (places - 1)) ((zb4 t.in_ 1 3 0 (places - 1)).bind fun x6 => (if x6 = true then ((ze4 t.in_ 1).bind fun x8 => (if x8 = true then (some false) else ((zp9 t places).bind fun x10 => (if x10 = true then (gd (ok64 (places - 1)) ((zb4 t.clear 0 places 2 (places - 1)).bind fun x13 => (if x13 = true then ((z03 t.role 1 3).bind fun x15 => (if x15 = true then (gd (ok64 (tasks - 1)) ((z03 t.apart (-1) (tasks - 1)).bind fun x18 => (if x18 = true then ((z03 t.all 1 3).bind fun x20 => (if x20 = true then ((z03 t.need 1 t.all).bind fun x22 => (some x22)) else (some false))) else (some false)))) else (some false))) else (some false)))) else (some false))))) else (some false)))) else (some false))) else (some false))
def y5h : Con := ⟨198, [.v (.s .task) false, .v .I false, .v .I false], [(.B, true)], [], fun x => zy1 x.1 x.2.1 x.2.2.1⟩
def wr5 : Fs := ⟨[z0m, z49, z4j, z10], [], []⟩
theorem wu7 : wr5.Ok Tryz.prog := (fsK z0u (fsK wj6 (fsK yd3 (fsK wj5 fs0))))
theorem wz6 : y5h.Ok Tryz.prog := fn_ok (k := y5h) (fn := Tryz.f198) (W := []) (H := []) Tryz.func198 wu7 trivial rfl rfl (fun av x => by kernel_rfl)
def yb1  : Option Bool := some true
def z7l (n : GNet) (kx0_0 : Option Bool) : Nat → Int → Option Bool
  | 0, _ => none
  | n0 + 1, s0_0 => if decide (s0_0 < (n.tasks.length : Int)) = true then ((getI n.tasks s0_0).bind fun x6 => ((zy1 x6 n.places (n.tasks.length : Int)).bind fun x7 => (if x7 = true then (gd (ok64 (s0_0 + 1)) ((z7l n kx0_0 n0) (s0_0 + 1))) else (some false)))) else (kx0_0)
def z3e (n : GNet) : Option Bool := (z03 n.places 2 8).bind fun x1 => (if x1 = true then ((z03 (n.tasks.length : Int) 1 6).bind fun x3 => (if x3 = true then (z7l n yb1 FUEL 0) else (some false))) else (some false))
def z2p : Con := ⟨161, [.v (.s .net) false], [(.B, true)], [], fun x => z3e x.1⟩
def v1w : Fs := ⟨[z0m, y5h], [], []⟩
theorem w2x : v1w.Ok Tryz.prog := (fsK z0u (fsK wz6 fs0))
def yp9 : Tmpl := ⟨[(1, .c (.bx 1 0)), (3, .c .i)], [(1, .boxT (.s .net))]⟩
def yh3 : Tmpl := ⟨[], []⟩
def w9w (av : AV) (x : HP z2p.ps) (n : Nat) (v : yp9.den) (K : Ks (CR z2p)) : Option (CR z2p) := z7l v.2.1 (yh3.at none ((), ()) (K (.exit 0))) n v.1.2.1
def yn5 (av : AV) (x : HP z2p.ps) : Hdl (CR z2p) := hnd [] yp9 (w9w av x)
theorem wg4 : LP z2p Tryz.f161 [0] yn5 := lp_ok (W := []) (H := []) (xs := [yh3]) w2x trivial rfl (fun av x v K => by kernel_rfl) (fun av x n v K => by kernel_rfl)
theorem zr9 : z2p.Ok Tryz.prog := fn_ok (k := z2p) (fn := Tryz.f161) (W := []) (H := [yn5]) Tryz.func161 w2x ⟨wg4, trivial⟩ rfl rfl (fun av x => by kernel_rfl)
def zi8 (s1_0 : Int) (bk1 : Int → List Bool → Option (List Bool)) (l3_1 : List Bool) : Option (List Bool) := gd (ok64 (s1_0 + 1)) (bk1 (s1_0 + 1) l3_1)
def zi9 (s1_0 : Int) (bk1 : Int → List Bool → Option (List Bool)) (l3_1 : List Bool) : Option (List Bool) := gd (ok64 (s1_0 + 1)) (bk1 (s1_0 + 1) l3_1)
def zj0 (s1_0 : Int) (bk1 : Int → List Bool → Option (List Bool)) (l3_1 : List Bool) : Option (List Bool) := gd (ok64 (s1_0 + 1)) (bk1 (s1_0 + 1) l3_1)
def z1n (n : GNet) (but : Int) (s1_0 : Int) (s2_0 : Bool) (kx3_0 : List Bool → Option (List Bool)) (kx3_1 : List Bool → Option (List Bool)) (kx3_2 : List Bool → Option (List Bool)) : Nat → Int → List Bool → Option (List Bool)
  | 0, _, _ => none
  | n3 + 1, s3_0, l3_1 => (getI n.tasks s1_0).bind fun x12 => (if decide (s3_0 < (x12.out.length : Int)) = true then (if s2_0 = true then (if decide (s1_0 = but) = true then (kx3_0 l3_1) else ((getI n.tasks s1_0).bind fun x17 => ((getI x17.out s3_0).bind fun x18 => ((getI l3_1 x18.to).bind fun x19 => (gd (ok64 (s3_0 + 1)) ((z1n n but s1_0 s2_0 kx3_0 kx3_1 kx3_2 n3) (s3_0 + 1) (l3_1.set x18.to.toNat true))))))) else (kx3_1 l3_1)) else (kx3_2 l3_1))
def y1b (n : GNet) (but : Int) (s1_0 : Int) (l1_1 : List Bool) (bk1 : Int → List Bool → Option (List Bool)) (s2_0 : Bool) : Option (List Bool) := z1n n but s1_0 s2_0 (zi8 s1_0 bk1) (zi9 s1_0 bk1) (zj0 s1_0 bk1) FUEL 0 l1_1
def z29 (n : GNet) (s1_0 : Int) (l1_1 : List Bool) (kx2_0 : Bool → Option (List Bool)) : Nat → Bool → Int → Option (List Bool)
  | 0, _, _ => none
  | n2 + 1, s2_0, s2_1 => (getI n.tasks s1_0).bind fun x4 => (if decide (s2_1 < (x4.in_.length : Int)) = true then (if s2_0 = true then (gd (ok64 (s2_1 + 1)) ((z29 n s1_0 l1_1 kx2_0 n2) true (s2_1 + 1))) else ((getI n.tasks s1_0).bind fun x8 => ((getI x8.in_ s2_1).bind fun x9 => ((getI l1_1 x9).bind fun x10 => (gd (ok64 (s2_1 + 1)) ((z29 n s1_0 l1_1 kx2_0 n2) x10 (s2_1 + 1))))))) else (kx2_0 s2_0))
def y1c (s0_0 : Int) (bk0 : Int → List Bool → Option (List Bool)) (l1_1 : List Bool) : Option (List Bool) := gd (ok64 (s0_0 + 1)) (bk0 (s0_0 + 1) l1_1)
def z0k (n : GNet) (but : Int) (kx1_0 : List Bool → Option (List Bool)) : Nat → Int → List Bool → Option (List Bool)
  | 0, _, _ => none
  | n1 + 1, s1_0, l1_1 => if decide (s1_0 < (n.tasks.length : Int)) = true then (z29 n s1_0 l1_1 (y1b n but s1_0 l1_1 (z0k n but kx1_0 n1)) FUEL false 0) else (kx1_0 l1_1)
def y1d (l0_1 : List Bool) : Option (List Bool) := some l0_1
def z4u (n : GNet) (but : Int) (kx0_0 : List Bool → Option (List Bool)) : Nat → Int → List Bool → Option (List Bool)
  | 0, _, _ => none
  | n0 + 1, s0_0, l0_1 => if decide (s0_0 < n.places) = true then (z0k n but (y1c s0_0 (z4u n but kx0_0 n0)) FUEL 0 l0_1) else (kx0_0 l0_1)
def zi7 (n : GNet) (marked : List Bool) (but : Int) : Option (List Bool) := gd (([] : List Bool).length + marked.length ≤ SMALL) (z4u n but y1d FUEL 0 (([] : List Bool) ++ marked))
def z06 : Con := ⟨216, [.v (.s .net) false, .v (.sl .B) false, .v .I false], [((.sl .B), true)], [], fun x => zi7 x.1 x.2.1 x.2.2.1⟩
def w73 : Fs := ⟨[], [], []⟩
theorem z8w : w73.Ok Tryz.prog := fs0
def zs3 : Tmpl := ⟨[(2, .c .i), (3, .c (.bx 3 0)), (7, .c (.ref 15)), (8, .c .i), (9, .c .i), (10, .c .b), (11, .c .i)], [(3, .boxT (.s .net)), (15, .arr .B true)]⟩
def zm1 : Tmpl := ⟨[(2, .c .i), (3, .c (.bx 3 0)), (7, .c (.ref 15)), (8, .c .i), (9, .c .i), (10, .c .b)], [(3, .boxT (.s .net)), (15, .arr .B true)]⟩
def y8k (av : AV) (x : HP z06.ps) (n : Nat) (v : zs3.den) (K : Ks (CR z06)) : Option (CR z06) := z29 v.2.1 v.1.2.2.2.2.1 v.2.2.1 (fun s2_0 => zm1.at none ((v.1.1, (), (), v.1.2.2.2.1, v.1.2.2.2.2.1, s2_0, ()), (v.2.1, v.2.2.1, ())) (K (.exit 4))) n v.1.2.2.2.2.2.1 v.1.2.2.2.2.2.2.1
def zq4 (av : AV) (x : HP z06.ps) : Hdl (CR z06) := hnd [] zs3 (y8k av x)
theorem y9y : LP z06 Tryz.f216 [0, 0, 0] zq4 := lp_ok (W := []) (H := []) (xs := [zm1]) z8w trivial rfl (fun av x v K => by kernel_rfl) (fun av x n v K => by kernel_rfl)
def zs4 : Tmpl := ⟨[(2, .c .i), (3, .c (.bx 3 0)), (7, .c (.ref 15)), (8, .c .i), (9, .c .i), (10, .c .b), (12, .c .i)], [(3, .boxT (.s .net)), (15, .arr .B true)]⟩
def z5z : Tmpl := ⟨[(2, .c .i), (3, .c (.bx 3 0)), (7, .c (.ref 15)), (8, .c .i), (9, .c .i)], [(3, .boxT (.s .net)), (15, .arr .B true)]⟩
def y8l (av : AV) (x : HP z06.ps) (n : Nat) (v : zs4.den) (K : Ks (CR z06)) : Option (CR z06) := z1n v.2.1 v.1.1 v.1.2.2.2.2.1 v.1.2.2.2.2.2.1 (fun l3_1 => z5z.at none ((v.1.1, (), (), v.1.2.2.2.1, v.1.2.2.2.2.1, ()), (v.2.1, l3_1, ())) (K (.exit 6))) (fun l3_1 => z5z.at none ((v.1.1, (), (), v.1.2.2.2.1, v.1.2.2.2.2.1, ()), (v.2.1, l3_1, ())) (K (.exit 6))) (fun l3_1 => z5z.at none ((v.1.1, (), (), v.1.2.2.2.1, v.1.2.2.2.2.1, ()), (v.2.1, l3_1, ())) (K (.exit 6))) n v.1.2.2.2.2.2.2.1 v.2.2.1
def zq5 (av : AV) (x : HP z06.ps) : Hdl (CR z06) := hnd [] zs4 (y8l av x)
theorem y9z : LP z06 Tryz.f216 [0, 0, 1] zq5 := lp_ok (W := []) (H := []) (xs := [z5z]) z8w trivial rfl (fun av x v K => by kernel_rfl) (fun av x n v K => by kernel_rfl)
def y0m : Tmpl := ⟨[(2, .c .i), (3, .c (.bx 3 0)), (7, .c (.ref 15)), (8, .c .i), (9, .c .i)], [(3, .boxT (.s .net)), (15, .arr .B true)]⟩
def zu8 : Tmpl := ⟨[(2, .c .i), (3, .c (.bx 3 0)), (7, .c (.ref 15)), (8, .c .i)], [(3, .boxT (.s .net)), (15, .arr .B true)]⟩
def yq8 (av : AV) (x : HP z06.ps) (n : Nat) (v : y0m.den) (K : Ks (CR z06)) : Option (CR z06) := z0k v.2.1 v.1.1 (fun l1_1 => zu8.at none ((v.1.1, (), (), v.1.2.2.2.1, ()), (v.2.1, l1_1, ())) (K (.exit 2))) n v.1.2.2.2.2.1 v.2.2.1
def y02 (av : AV) (x : HP z06.ps) : Hdl (CR z06) := hnd [] y0m (yq8 av x)
theorem yt0 : LP z06 Tryz.f216 [0, 0] y02 := lp_ok (W := []) (H := [zq4, zq5]) (xs := [zu8]) z8w ⟨y9y, y9z, trivial⟩ rfl (fun av x v K => by kernel_rfl) (fun av x n v K => by kernel_rfl)
def y44 : Tmpl := ⟨[(2, .c .i), (3, .c (.bx 3 0)), (7, .c (.ref 15)), (8, .c .i)], [(3, .boxT (.s .net)), (15, .arr .B true)]⟩
def y1w : Tmpl := ⟨[(7, .c (.ref 15))], [(15, .arr .B true)]⟩
def w0x (av : AV) (x : HP z06.ps) (n : Nat) (v : y44.den) (K : Ks (CR z06)) : Option (CR z06) := z4u v.2.1 v.1.1 (fun l0_1 => y1w.at none (((), ()), (l0_1, ())) (K (.exit 0))) n v.1.2.2.2.1 v.2.2.1
def y3b (av : AV) (x : HP z06.ps) : Hdl (CR z06) := hnd [] y44 (w0x av x)
theorem w1z : LP z06 Tryz.f216 [0] y3b := lp_ok (W := []) (H := [y02]) (xs := [y1w]) z8w ⟨yt0, trivial⟩ rfl (fun av x v K => by kernel_rfl) (fun av x n v K => by kernel_rfl)
theorem w8n : z06.Ok Tryz.prog := fn_ok (k := z06) (fn := Tryz.f216) (W := []) (H := [y3b]) Tryz.func216 z8w ⟨w1z, trivial⟩ rfl rfl (fun av x => by kernel_rfl)
def zw7 (kind : Int) : Option Bool := (z0c kind 1 3).bind fun x1 => (some x1)
def y5b : Con := ⟨177, [.v .I false], [(.B, true)], [], fun x => zw7 x.1⟩
def wp2 : Fs := ⟨[z26], [], []⟩
theorem wt5 : wp2.Ok Tryz.prog := (fsK z2s fs0)
theorem wy2 : y5b.Ok Tryz.prog := fn_ok (k := y5b) (fn := Tryz.f177) (W := []) (H := []) Tryz.func177 wt5 trivial rfl rfl (fun av x => by kernel_rfl)
def zh5 (role : Int) : Option Bool := (z0c role 1 3).bind fun x1 => (some x1)
def zv5 : Con := ⟨151, [.v .I false], [(.B, true)], [], fun x => zh5 x.1⟩
def wp3 : Fs := ⟨[z26], [], []⟩
theorem wt6 : wp3.Ok Tryz.prog := (fsK z2s fs0)
theorem yz7 : zv5.Ok Tryz.prog := fn_ok (k := zv5) (fn := Tryz.f151) (W := []) (H := []) Tryz.func151 wt6 trivial rfl rfl (fun av x => by kernel_rfl)
def y2k (places : Int) (tasks : Int) : Option Bool := (z0c places 2 8).bind fun x1 => (if x1 = true then ((z0c tasks 1 6).bind fun x3 => (some x3)) else (some false))
def y28 : Con := ⟨122, [.v .I false, .v .I false], [(.B, true)], [], fun x => y2k x.1 x.2.1⟩
def wb5 : Fs := ⟨[z26], [], []⟩
theorem we3 : wb5.Ok Tryz.prog := (fsK z2s fs0)
theorem wi1 : y28.Ok Tryz.prog := fn_ok (k := y28) (fn := Tryz.f122) (W := []) (H := []) Tryz.func122 we3 trivial rfl rfl (fun av x => by kernel_rfl)
def z0n (n : GNet) (t : Int) : Option Bool := gd (ok64 ((n.tasks.length : Int) - 1)) ((z0c t 0 ((n.tasks.length : Int) - 1)).bind fun x2 => (some x2))
def z1t : Con := ⟨96, [.v (.s .net) false, .v .I false], [(.B, true)], [], fun x => z0n x.1 x.2.1⟩
def y8q : Fs := ⟨[z26], [], []⟩
theorem y8t : y8q.Ok Tryz.prog := (fsK z2s fs0)
theorem z4m : z1t.Ok Tryz.prog := fn_ok (k := z1t) (fn := Tryz.f96) (W := []) (H := []) Tryz.func96 y8t trivial rfl rfl (fun av x => by kernel_rfl)
def z72 (t : GTask) : Option GTask := (z0g t.in_).bind fun x1 => (gd (([] : List GFlow).length + t.out.length ≤ SMALL) ((z0g t.clear).bind fun x3 => (some (GTask.mk t.join t.split x1 (([] : List GFlow) ++ t.out) x3 t.role t.apart t.all t.need))))
def za3 : Con := ⟨207, [.v (.s .task) false], [((.s .task), true)], [], fun x => z72 x.1⟩
def yj9 : Fs := ⟨[z1e], [], []⟩
theorem yk4 : yj9.Ok Tryz.prog := (fsK z2n fs0)
theorem yk8 : za3.Ok Tryz.prog := fn_ok (k := za3) (fn := Tryz.f207) (W := []) (H := []) Tryz.func207 yk4 trivial rfl rfl (fun av x => by kernel_rfl)
def z8o (p0_3 : Int) (l0_1 : List GTask) : Option GNet := some (GNet.mk p0_3 l0_1)
def z2e (p0_0 : List GTask) (p0_1 : Int) (kx0_0 : List GTask → Option GNet) : Nat → Int → List GTask → Option GNet
  | 0, _, _ => none
  | n0 + 1, s0_0, l0_1 => if decide (s0_0 < p0_1) = true then ((getI p0_0 s0_0).bind fun x2 => ((z72 x2).bind fun x3 => (gd (l0_1.length + [x3].length ≤ SMALL) (gd (ok64 (s0_0 + 1)) ((z2e p0_0 p0_1 kx0_0 n0) (s0_0 + 1) (l0_1 ++ [x3])))))) else (kx0_0 l0_1)
def z7z (n : GNet) : Option GNet := z2e n.tasks (n.tasks.length : Int) (z8o n.places) FUEL 0 ([] : List GTask)
def z1c : Con := ⟨184, [.v (.s .net) false], [((.s .net), true)], [], fun x => z7z x.1⟩
def yr5 : Fs := ⟨[za3], [], []⟩
theorem zz6 : yr5.Ok Tryz.prog := (fsK yk8 fs0)
def zs1 : Tmpl := ⟨[(2, .c (.bx 2 0)), (3, .c (.bx 3 0)), (10, .c (.s (.s .task))), (11, .c .i), (12, .c .i)], [(2, .box [.i, .nl]), (3, .box [.i, .ref 510301]), (510301, .arr (.s .task) true)]⟩
def zl9 : Tmpl := ⟨[(2, .c (.bx 2 0)), (3, .c (.bx 3 0))], [(2, .box [.i, .nl]), (3, .box [.i, .ref 510301]), (510301, .arr (.s .task) true)]⟩
def y8i (av : AV) (x : HP z1c.ps) (n : Nat) (v : zs1.den) (K : Ks (CR z1c)) : Option (CR z1c) := z2e v.1.2.2.1 v.1.2.2.2.1 (fun l0_1 => zl9.at none (((), (), ()), ((v.2.1.1, (), ()), (v.2.2.1.1, (), ()), l0_1, ())) (K (.exit 0))) n v.1.2.2.2.2.1 v.2.2.2.1
def zq2 (av : AV) (x : HP z1c.ps) : Hdl (CR z1c) := hnd [.b 3 1 510301 (.s .task)] zs1 (y8i av x)
theorem y9w : LP z1c Tryz.f184 [0] zq2 := lp_ok (W := []) (H := []) (xs := [zl9]) zz6 trivial rfl (fun av x v K => by kernel_rfl) (fun av x n v K => by kernel_rfl)
theorem yt9 : z1c.Ok Tryz.prog := fn_ok (k := z1c) (fn := Tryz.f184) (W := []) (H := [zq2]) Tryz.func184 zz6 ⟨y9w, trivial⟩ rfl rfl (fun av x => by kernel_rfl)
def yb0  : Option Bool := some true
def z7k (marks : List Int) (kx0_0 : Option Bool) : Nat → Int → Option Bool
  | 0, _ => none
  | n0 + 1, s0_0 => if decide (s0_0 < (marks.length : Int)) = true then ((getI marks s0_0).bind fun x5 => ((z03 x5 0 4).bind fun x6 => (if x6 = true then (gd (ok64 (s0_0 + 1)) ((z7k marks kx0_0 n0) (s0_0 + 1))) else (some false)))) else (kx0_0)
def z98 (n : GNet) (marks : List Int) : Option Bool := (z3e n).bind fun x1 => (if x1 = true then (if decide ((marks.length : Int) = n.places) = true then (z7k marks yb0 FUEL 0) else (some false)) else (some false))
def z3a : Con := ⟨87, [.v (.s .net) false, .v (.sl .I) false], [(.B, true)], [], fun x => z98 x.1 x.2.1⟩
def v1v : Fs := ⟨[z2p, z0m], [], []⟩
theorem w2w : v1v.Ok Tryz.prog := (fsK zr9 (fsK z0u fs0))
def yp8 : Tmpl := ⟨[(1, .c (.s .I)), (5, .c .i)], []⟩
def yh2 : Tmpl := ⟨[], []⟩
def w9v (av : AV) (x : HP z3a.ps) (n : Nat) (v : yp8.den) (K : Ks (CR z3a)) : Option (CR z3a) := z7k v.1.1 (yh2.at none ((), ()) (K (.exit 0))) n v.1.2.1
def yn4 (av : AV) (x : HP z3a.ps) : Hdl (CR z3a) := hnd [] yp8 (w9v av x)
theorem wg3 : LP z3a Tryz.f87 [0] yn4 := lp_ok (W := []) (H := []) (xs := [yh2]) w2w trivial rfl (fun av x v K => by kernel_rfl) (fun av x n v K => by kernel_rfl)
theorem y1i : z3a.Ok Tryz.prog := fn_ok (k := z3a) (fn := Tryz.f87) (W := []) (H := [yn4]) Tryz.func87 w2w ⟨wg3, trivial⟩ rfl rfl (fun av x => by kernel_rfl)
def zc6 (s0_0 : Bool) (s0_1 : Bool) : Option (Bool × Bool) := some (s0_0, s0_1)
def z20 (marks : List Int) (list : List Int) (kx0_0 : Bool → Bool → Option (Bool × Bool)) : Nat → Bool → Bool → Int → Option (Bool × Bool)
  | 0, _, _, _ => none
  | n0 + 1, s0_0, s0_1, s0_2 => if decide (s0_2 < (list.length : Int)) = true then (if s0_0 = true then (if s0_1 = true then ((getI list s0_2).bind fun x4 => ((getI marks x4).bind fun x5 => (gd (ok64 (s0_2 + 1)) ((z20 marks list kx0_0 n0) true (decide (0 < x5)) (s0_2 + 1))))) else (gd (ok64 (s0_2 + 1)) ((z20 marks list kx0_0 n0) true false (s0_2 + 1)))) else ((getI list s0_2).bind fun x8 => ((getI marks x8).bind fun x9 => (if s0_1 = true then ((getI list s0_2).bind fun x11 => ((getI marks x11).bind fun x12 => (gd (ok64 (s0_2 + 1)) ((z20 marks list kx0_0 n0) (decide (0 < x9)) (decide (0 < x12)) (s0_2 + 1))))) else (gd (ok64 (s0_2 + 1)) ((z20 marks list kx0_0 n0) (decide (0 < x9)) false (s0_2 + 1))))))) else (kx0_0 s0_0 s0_1)
def zy2 (marks : List Int) (list : List Int) : Option (Bool × Bool) := z20 marks list zc6 FUEL false true 0
def z5f : Con := ⟨200, [.v (.sl .I) false, .v (.sl .I) false], [(.B, true), (.B, true)], [], fun x => zy2 x.1 x.2.1⟩
def wr7 : Fs := ⟨[], [], []⟩
theorem yx6 : wr7.Ok Tryz.prog := fs0
def yf3 : Tmpl := ⟨[(0, .c (.s .I)), (1, .c (.s .I)), (6, .c .b), (7, .c .b), (8, .c .i)], []⟩
def y88 : Tmpl := ⟨[(6, .c .b), (7, .c .b)], []⟩
def w68 (av : AV) (x : HP z5f.ps) (n : Nat) (v : yf3.den) (K : Ks (CR z5f)) : Option (CR z5f) := z20 v.1.1 v.1.2.1 (fun s0_0 s0_1 => y88.at none ((s0_0, s0_1, ()), ()) (K (.exit 0))) n v.1.2.2.1 v.1.2.2.2.1 v.1.2.2.2.2.1
def y9i (av : AV) (x : HP z5f.ps) : Hdl (CR z5f) := hnd [] yf3 (w68 av x)
theorem w87 : LP z5f Tryz.f200 [0] y9i := lp_ok (W := []) (H := []) (xs := [y88]) yx6 trivial rfl (fun av x v K => by kernel_rfl) (fun av x n v K => by kernel_rfl)
theorem wz7 : z5f.Ok Tryz.prog := fn_ok (k := z5f) (fn := Tryz.f200) (W := []) (H := [y9i]) Tryz.func200 yx6 ⟨w87, trivial⟩ rfl rfl (fun av x => by kernel_rfl)
def z4w (s1_0 : Int) (bk1 : Int → List Bool → Option Bool) (l2_1 : List Bool) : Option Bool := gd (ok64 (s1_0 + 1)) (bk1 (s1_0 + 1) l2_1)
def z33 (p2_0 : List GFlow) (kx2_0 : List Bool → Option Bool) : Nat → Int → List Bool → Option Bool
  | 0, _, _ => none
  | n2 + 1, s2_0, l2_1 => if decide (s2_0 < (p2_0.length : Int)) = true then ((getI p2_0 s2_0).bind fun x15 => ((getI l2_1 x15.to).bind fun x16 => (gd (ok64 (s2_0 + 1)) ((z33 p2_0 kx2_0 n2) (s2_0 + 1) (l2_1.set x15.to.toNat true))))) else (kx2_0 l2_1)
def zj3  : Option Bool := some false
def z2c (n : GNet) (marks : List Int) (t : Int) (x19 : (List Bool)) (kx3_0 : Option Bool) : Nat → Int → Option Bool
  | 0, _ => none
  | n3 + 1, s3_0 => (getI n.tasks t).bind fun x20 => (if decide (s3_0 < (x20.in_.length : Int)) = true then ((getI n.tasks t).bind fun x22 => ((getI x22.in_ s3_0).bind fun x23 => ((getI marks x23).bind fun x24 => (if decide (x24 = 0) = true then ((getI n.tasks t).bind fun x26 => ((getI x26.in_ s3_0).bind fun x27 => ((getI x19 x27).bind fun x28 => (if x28 = true then (some true) else (gd (ok64 (s3_0 + 1)) ((z2c n marks t x19 kx3_0 n3) (s3_0 + 1))))))) else (gd (ok64 (s3_0 + 1)) ((z2c n marks t x19 kx3_0 n3) (s3_0 + 1))))))) else (kx3_0))
def z2a (n : GNet) (marks : List Int) (t : Int) (l1_1 : List Bool) : Option Bool := (zi7 n l1_1 t).bind fun x19 => (z2c n marks t x19 zj3 FUEL 0)
def z19 (n : GNet) (busy : List GItem) (kx1_0 : List Bool → Option Bool) : Nat → Int → List Bool → Option Bool
  | 0, _, _ => none
  | n1 + 1, s1_0, l1_1 => if decide (s1_0 < (busy.length : Int)) = true then ((getI busy s1_0).bind fun x12 => ((getI n.tasks x12.task).bind fun x13 => (z33 x13.out (z4w s1_0 (z19 n busy kx1_0 n1)) FUEL 0 l1_1))) else (kx1_0 l1_1)
def z4v (n : GNet) (marks : List Int) (busy : List GItem) (t : Int) (l0_1 : List Bool) : Option Bool := z19 n busy (z2a n marks t) FUEL 0 l0_1
def z2b (n : GNet) (marks : List Int) (t : Int) (kx0_0 : List Bool → Option Bool) : Nat → Int → List Bool → Option Bool
  | 0, _, _ => none
  | n0 + 1, s0_0, l0_1 => if decide (s0_0 < n.places) = true then ((getI marks s0_0).bind fun x3 => (if decide (0 < x3) = true then ((getI n.tasks t).bind fun x5 => ((ze4 x5.in_ s0_0).bind fun x6 => ((getI l0_1 s0_0).bind fun x7 => (gd (ok64 (s0_0 + 1)) ((z2b n marks t kx0_0 n0) (s0_0 + 1) (l0_1.set s0_0.toNat (!x6))))))) else ((getI l0_1 s0_0).bind fun x9 => (gd (ok64 (s0_0 + 1)) ((z2b n marks t kx0_0 n0) (s0_0 + 1) (l0_1.set s0_0.toNat false)))))) else (kx0_0 l0_1)
def zj2 (n : GNet) (marks : List Int) (busy : List GItem) (t : Int) : Option Bool := gd ((0 : Int) ≤ n.places ∧ n.places ≤ (1000000000 : Int)) (z2b n marks t (z4v n marks busy t) FUEL 0 (List.replicate n.places.toNat false))
def z07 : Con := ⟨201, [.v (.s .net) false, .v (.sl .I) false, .v (.sl (.s .item)) false, .v .I false], [(.B, true)], [], fun x => zj2 x.1 x.2.1 x.2.2.1 x.2.2.2.1⟩
def w74 : Fs := ⟨[z4j, z06], [], []⟩
theorem z8x : w74.Ok Tryz.prog := (fsK yd3 (fsK w8n fs0))
def y0n : Tmpl := ⟨[(1, .c (.s .I)), (2, .c (.s (.s .item))), (3, .c .i), (4, .c (.bx 4 0)), (9, .c (.ref 18)), (11, .c .i), (12, .c (.s (.s .flow))), (13, .c .i)], [(4, .boxT (.s .net)), (18, .arr .B true)]⟩
def zu9 : Tmpl := ⟨[(1, .c (.s .I)), (2, .c (.s (.s .item))), (3, .c .i), (4, .c (.bx 4 0)), (9, .c (.ref 18)), (11, .c .i)], [(4, .boxT (.s .net)), (18, .arr .B true)]⟩
def yq9 (av : AV) (x : HP z07.ps) (n : Nat) (v : y0n.den) (K : Ks (CR z07)) : Option (CR z07) := z33 v.1.2.2.2.2.2.2.1 (fun l2_1 => zu9.at none ((v.1.1, v.1.2.1, v.1.2.2.1, (), (), v.1.2.2.2.2.2.1, ()), (v.2.1, l2_1, ())) (K (.exit 4))) n v.1.2.2.2.2.2.2.2.1 v.2.2.1
def y03 (av : AV) (x : HP z07.ps) : Hdl (CR z07) := hnd [] y0n (yq9 av x)
theorem yt1 : LP z07 Tryz.f201 [1, 0] y03 := lp_ok (W := []) (H := []) (xs := [zu9]) z8x trivial rfl (fun av x v K => by kernel_rfl) (fun av x n v K => by kernel_rfl)
def y45 : Tmpl := ⟨[(1, .c (.s .I)), (2, .c (.s (.s .item))), (3, .c .i), (4, .c (.bx 4 0)), (9, .c (.ref 18)), (10, .c .i)], [(4, .boxT (.s .net)), (18, .arr .B true)]⟩
def y1x : Tmpl := ⟨[(1, .c (.s .I)), (2, .c (.s (.s .item))), (3, .c .i), (4, .c (.bx 4 0)), (9, .c (.ref 18))], [(4, .boxT (.s .net)), (18, .arr .B true)]⟩
def w0y (av : AV) (x : HP z07.ps) (n : Nat) (v : y45.den) (K : Ks (CR z07)) : Option (CR z07) := z2b v.2.1 v.1.1 v.1.2.2.1 (fun l0_1 => y1x.at none ((v.1.1, v.1.2.1, v.1.2.2.1, (), (), ()), (v.2.1, l0_1, ())) (K (.exit 0))) n v.1.2.2.2.2.2.1 v.2.2.1
def y3c (av : AV) (x : HP z07.ps) : Hdl (CR z07) := hnd [] y45 (w0y av x)
theorem w20 : LP z07 Tryz.f201 [0] y3c := lp_ok (W := []) (H := []) (xs := [y1x]) z8x trivial rfl (fun av x v K => by kernel_rfl) (fun av x n v K => by kernel_rfl)
def y46 : Tmpl := ⟨[(1, .c (.s .I)), (2, .c (.s (.s .item))), (3, .c .i), (4, .c (.bx 4 0)), (9, .c (.ref 18)), (11, .c .i)], [(4, .boxT (.s .net)), (18, .arr .B true)]⟩
def y1y : Tmpl := ⟨[(1, .c (.s .I)), (3, .c .i), (4, .c (.bx 4 0)), (9, .c (.ref 18))], [(4, .boxT (.s .net)), (18, .arr .B true)]⟩
def w0z (av : AV) (x : HP z07.ps) (n : Nat) (v : y46.den) (K : Ks (CR z07)) : Option (CR z07) := z19 v.2.1 v.1.2.1 (fun l1_1 => y1y.at none ((v.1.1, v.1.2.2.1, (), (), ()), (v.2.1, l1_1, ())) (K (.exit 2))) n v.1.2.2.2.2.2.1 v.2.2.1
def y3d (av : AV) (x : HP z07.ps) : Hdl (CR z07) := hnd [] y46 (w0z av x)
theorem w21 : LP z07 Tryz.f201 [1] y3d := lp_ok (W := []) (H := [y03]) (xs := [y1y]) z8x ⟨yt1, trivial⟩ rfl (fun av x v K => by kernel_rfl) (fun av x n v K => by kernel_rfl)
def y47 : Tmpl := ⟨[(1, .c (.s .I)), (3, .c .i), (4, .c (.bx 4 0)), (14, .c (.ref 76)), (15, .c .i)], [(4, .boxT (.s .net)), (76, .arr .B true)]⟩
def y1z : Tmpl := ⟨[], []⟩
def w10 (av : AV) (x : HP z07.ps) (n : Nat) (v : y47.den) (K : Ks (CR z07)) : Option (CR z07) := z2c v.2.1 v.1.1 v.1.2.1 v.2.2.1 (y1z.at none ((), ()) (K (.exit 6))) n v.1.2.2.2.2.1
def y3e (av : AV) (x : HP z07.ps) : Hdl (CR z07) := hnd [] y47 (w10 av x)
theorem w22 : LP z07 Tryz.f201 [2] y3e := lp_ok (W := []) (H := []) (xs := [y1z]) z8x trivial rfl (fun av x v K => by kernel_rfl) (fun av x n v K => by kernel_rfl)
theorem w8o : z07.Ok Tryz.prog := fn_ok (k := z07) (fn := Tryz.f201) (W := []) (H := [y3c, y3d, y3e]) Tryz.func201 z8x ⟨w20, w21, w22, trivial⟩ rfl rfl (fun av x => by kernel_rfl)
def y1e (n : GNet) (marks : List Int) (busy : List GItem) (t : Int) : Option Bool := (getI n.tasks t).bind fun x1 => ((zy2 marks x1.in_).bind fun x2 => ((getI n.tasks t).bind fun x3 => (if decide (x3.join = 1) = true then (some x2.2) else (if decide (x3.join = 2) = true then (some x2.1) else (if x2.1 = true then (if x2.2 = true then (some true) else ((zj2 n marks busy t).bind fun x8 => (some (!x8)))) else (some false))))))
def y9u : Con := ⟨165, [.v (.s .net) false, .v (.sl .I) false, .v (.sl (.s .item)) false, .v .I false], [(.B, true)], [], fun x => y1e x.1 x.2.1 x.2.2.1 x.2.2.2.1⟩
def v21 : Fs := ⟨[z5f, z07], [], []⟩
theorem v2g : v21.Ok Tryz.prog := (fsK wz7 (fsK w8o fs0))
theorem v3e : y9u.Ok Tryz.prog := fn_ok (k := y9u) (fn := Tryz.f165) (W := []) (H := []) Tryz.func165 v2g trivial rfl rfl (fun av x => by kernel_rfl)
def y70  : Option Bool := some true
def z6a (n : GNet) (busy : List GItem) (kx0_0 : Option Bool) : Nat → Int → Option Bool
  | 0, _ => none
  | n0 + 1, s0_0 => if decide (s0_0 < (busy.length : Int)) = true then ((getI busy s0_0).bind fun x3 => (gd (ok64 ((n.tasks.length : Int) - 1)) ((z03 x3.task 0 ((n.tasks.length : Int) - 1)).bind fun x5 => (if x5 = true then ((getI busy s0_0).bind fun x7 => ((z03 x7.who 1 4).bind fun x8 => (if x8 = true then ((getI busy s0_0).bind fun x10 => ((getI busy s0_0).bind fun x11 => ((getI n.tasks x11.task).bind fun x12 => (gd (ok64 (x12.need - 1)) ((z03 x10.did 0 (x12.need - 1)).bind fun x14 => (if x14 = true then (gd (ok64 (s0_0 + 1)) ((z6a n busy kx0_0 n0) (s0_0 + 1))) else (some false))))))) else (some false)))) else (some false))))) else (kx0_0)
def zj1 (n : GNet) (busy : List GItem) : Option Bool := if decide (6 < (busy.length : Int)) = true then (some false) else (z6a n busy y70 FUEL 0)
def z4a : Con := ⟨88, [.v (.s .net) false, .v (.sl (.s .item)) false], [(.B, true)], [], fun x => zj1 x.1 x.2.1⟩
def wr6 : Fs := ⟨[z0m], [], []⟩
theorem yx5 : wr6.Ok Tryz.prog := (fsK z0u fs0)
def yf2 : Tmpl := ⟨[(1, .c (.s (.s .item))), (2, .c (.bx 2 0)), (5, .c .i)], [(2, .boxT (.s .net))]⟩
def y87 : Tmpl := ⟨[], []⟩
def w67 (av : AV) (x : HP z4a.ps) (n : Nat) (v : yf2.den) (K : Ks (CR z4a)) : Option (CR z4a) := z6a v.2.1 v.1.1 (y87.at none ((), ()) (K (.exit 0))) n v.1.2.2.1
def y9h (av : AV) (x : HP z4a.ps) : Hdl (CR z4a) := hnd [] yf2 (w67 av x)
theorem w86 : LP z4a Tryz.f88 [0] y9h := lp_ok (W := []) (H := []) (xs := [y87]) yx5 trivial rfl (fun av x v K => by kernel_rfl) (fun av x n v K => by kernel_rfl)
theorem w03 : z4a.Ok Tryz.prog := fn_ok (k := z4a) (fn := Tryz.f88) (W := []) (H := [y9h]) Tryz.func88 yx5 ⟨w86, trivial⟩ rfl rfl (fun av x => by kernel_rfl)
def zh7 (n : GNet) (marks : List Int) (busy : List GItem) (t : Int) : Option Bool := (z98 n marks).bind fun x1 => (if x1 = true then ((zj1 n busy).bind fun x3 => (if x3 = true then (gd (ok64 ((n.tasks.length : Int) - 1)) ((z03 t 0 ((n.tasks.length : Int) - 1)).bind fun x6 => (if x6 = true then ((y1e n marks busy t).bind fun x8 => (some x8)) else (some false)))) else (some false))) else (some false))
def zv8 : Con := ⟨100, [.v (.s .net) false, .v (.sl .I) false, .v (.sl (.s .item)) false, .v .I false], [(.B, true)], [], fun x => zh7 x.1 x.2.1 x.2.2.1 x.2.2.2.1⟩
def wq2 : Fs := ⟨[z3a, z4a, z0m, y9u], [], []⟩
theorem wu0 : wq2.Ok Tryz.prog := (fsK y1i (fsK w03 (fsK z0u (fsK v3e fs0))))
theorem w00 : zv8.Ok Tryz.prog := fn_ok (k := zv8) (fn := Tryz.f100) (W := []) (H := []) Tryz.func100 wu0 trivial rfl rfl (fun av x => by kernel_rfl)
def zh8 (l0_1 : List Int) : Option (List Int) := some l0_1
def z31 (n : GNet) (marks : List Int) (busy : List GItem) (kx0_0 : List Int → Option (List Int)) : Nat → Int → List Int → Option (List Int)
  | 0, _, _ => none
  | n0 + 1, s0_0, l0_1 => if decide (s0_0 < (n.tasks.length : Int)) = true then ((zh7 n marks busy s0_0).bind fun x2 => (if x2 = true then (gd (l0_1.length + [s0_0].length ≤ SMALL) (gd (ok64 (s0_0 + 1)) ((z31 n marks busy kx0_0 n0) (s0_0 + 1) (l0_1 ++ [s0_0])))) else (gd (ok64 (s0_0 + 1)) ((z31 n marks busy kx0_0 n0) (s0_0 + 1) l0_1)))) else (kx0_0 l0_1)
def z30 (n : GNet) (marks : List Int) (busy : List GItem) : Option (List Int) := z31 n marks busy zh8 FUEL 0 ([] : List Int)
def z1u : Con := ⟨99, [.v (.s .net) false, .v (.sl .I) false, .v (.sl (.s .item)) false], [((.sl .I), true)], [], fun x => z30 x.1 x.2.1 x.2.2.1⟩
def w6w : Fs := ⟨[zv8], [], []⟩
theorem y8x : w6w.Ok Tryz.prog := (fsK w00 fs0)
def y3y : Tmpl := ⟨[(1, .c (.s .I)), (2, .c (.s (.s .item))), (3, .c (.bx 3 0)), (7, .c (.ref 9)), (8, .c .i)], [(3, .boxT (.s .net)), (9, .arr .I true)]⟩
def y1q : Tmpl := ⟨[(7, .c (.ref 9))], [(9, .arr .I true)]⟩
def w0r (av : AV) (x : HP z1u.ps) (n : Nat) (v : y3y.den) (K : Ks (CR z1u)) : Option (CR z1u) := z31 v.2.1 v.1.1 v.1.2.1 (fun l0_1 => y1q.at none (((), ()), (l0_1, ())) (K (.exit 0))) n v.1.2.2.2.2.1 v.2.2.1
def y35 (av : AV) (x : HP z1u.ps) : Hdl (CR z1u) := hnd [] y3y (w0r av x)
theorem w1t : LP z1u Tryz.f99 [0] y35 := lp_ok (W := []) (H := []) (xs := [y1q]) y8x trivial rfl (fun av x v K => by kernel_rfl) (fun av x n v K => by kernel_rfl)
theorem y0f : z1u.Ok Tryz.prog := fn_ok (k := z1u) (fn := Tryz.f99) (W := []) (H := [y35]) Tryz.func99 y8x ⟨w1t, trivial⟩ rfl rfl (fun av x => by kernel_rfl)
def y3j (l0_1 : List Int) (x10 : Int) (x13 : Int) : Option (List Int) := some (l0_1.set x10.toNat (x13 - 1))
def y3k (l0_1 : List Int) : Option (List Int) := some l0_1
def z3o (n : GNet) (t : Int) (kx0_0 : List Int → Int → Int → Option (List Int)) (kx0_1 : List Int → Option (List Int)) : Nat → Int → List Int → Option (List Int)
  | 0, _, _ => none
  | n0 + 1, s0_0, l0_1 => (getI n.tasks t).bind fun x7 => (if decide (s0_0 < (x7.in_.length : Int)) = true then ((getI n.tasks t).bind fun x9 => ((getI x9.in_ s0_0).bind fun x10 => ((getI l0_1 x10).bind fun x11 => (if decide (0 < x11) = true then ((getI l0_1 x10).bind fun x13 => (gd (ok64 (x13 - 1)) ((getI l0_1 x10).bind fun x15 => ((getI n.tasks t).bind fun x16 => (if decide (x16.join = 2) = true then (kx0_0 l0_1 x10 x13) else (gd (ok64 (s0_0 + 1)) ((z3o n t kx0_0 kx0_1 n0) (s0_0 + 1) (l0_1.set x10.toNat (x13 - 1))))))))) else (gd (ok64 (s0_0 + 1)) ((z3o n t kx0_0 kx0_1 n0) (s0_0 + 1) l0_1)))))) else (kx0_1 l0_1))
def zo9 (n : GNet) (marks : List Int) (t : Int) : Option (List Int) := (z98 n marks).bind fun x1 => (if x1 = true then (gd (ok64 ((n.tasks.length : Int) - 1)) ((z03 t 0 ((n.tasks.length : Int) - 1)).bind fun x4 => (if x4 = true then (gd (([] : List Int).length + marks.length ≤ SMALL) (z3o n t y3j y3k FUEL 0 (([] : List Int) ++ marks))) else (some ([] : List Int))))) else (some ([] : List Int)))
def z41 : Con := ⟨103, [.v (.s .net) false, .v (.sl .I) false, .v .I false], [((.sl .I), true)], [], fun x => zo9 x.1 x.2.1 x.2.2.1⟩
def wb9 : Fs := ⟨[z3a, z0m], [], []⟩
theorem yl3 : wb9.Ok Tryz.prog := (fsK y1i (fsK z0u fs0))
def y7g : Tmpl := ⟨[(2, .c .i), (3, .c (.bx 3 0)), (7, .c (.ref 26)), (8, .c .i)], [(3, .boxT (.s .net)), (26, .arr .I true)]⟩
def zo2 : Tmpl := ⟨[(7, .c (.ref 26))], [(26, .arr .I true)]⟩
def w3w (av : AV) (x : HP z41.ps) (n : Nat) (v : y7g.den) (K : Ks (CR z41)) : Option (CR z41) := z3o v.2.1 v.1.1 (fun l0_1 x10 x13 => zo2.at none (((), ()), ((l0_1.set x10.toNat (x13 - 1)), ())) (K (.exit 0))) (fun l0_1 => zo2.at none (((), ()), (l0_1, ())) (K (.exit 0))) n v.1.2.2.2.1 v.2.2.1
def y6h (av : AV) (x : HP z41.ps) : Hdl (CR z41) := hnd [] y7g (w3w av x)
theorem w4t : LP z41 Tryz.f103 [0] y6h := lp_ok (W := []) (H := []) (xs := [zo2]) yl3 trivial rfl (fun av x v K => by kernel_rfl) (fun av x n v K => by kernel_rfl)
theorem wi4 : z41.Ok Tryz.prog := fn_ok (k := z41) (fn := Tryz.f103) (W := []) (H := [y6h]) Tryz.func103 yl3 ⟨w4t, trivial⟩ rfl rfl (fun av x => by kernel_rfl)
def z96 (who : Int) : Option Bool := (z0c who 1 4).bind fun x1 => (some x1)
def zg7 : Con := ⟨97, [.v .I false], [(.B, true)], [], fun x => z96 x.1⟩
def w6t : Fs := ⟨[z26], [], []⟩
theorem w7h : w6t.Ok Tryz.prog := (fsK z2s fs0)
theorem yc9 : zg7.Ok Tryz.prog := fn_ok (k := zg7) (fn := Tryz.f97) (W := []) (H := []) Tryz.func97 w7h trivial rfl rfl (fun av x => by kernel_rfl)
def zh9 (l0_1 : List Int) (x8 : GFlow) : Option (List Int) := some (l0_1 ++ [x8.to])
def zi0 (l0_1 : List Int) (x13 : GFlow) : Option (List Int) := some (l0_1 ++ [x13.to])
def zi1 (l0_1 : List Int) (x18 : GFlow) : Option (List Int) := some (l0_1 ++ [x18.to])
def y0d (l0_1 : List Int) : Option (List Int) := some l0_1
def z1w (t : GTask) (data : List Int) (kx0_0 : List Int → GFlow → Option (List Int)) (kx0_1 : List Int → GFlow → Option (List Int)) (kx0_2 : List Int → GFlow → Option (List Int)) (kx0_3 : List Int → Option (List Int)) : Nat → Int → List Int → Option (List Int)
  | 0, _, _ => none
  | n0 + 1, s0_0, l0_1 => if decide (s0_0 < (t.out.length : Int)) = true then ((getI t.out s0_0).bind fun x2 => ((z1f x2.if_ data).bind fun x3 => (if x3 = true then (if decide (t.split = 3) = true then (gd (ok64 ((t.out.length : Int) - 1)) (if decide (s0_0 < ((t.out.length : Int) - 1)) = true then ((getI t.out s0_0).bind fun x8 => (gd (l0_1.length + [x8.to].length ≤ SMALL) (if decide (t.split = 2) = true then (kx0_0 l0_1 x8) else (gd (ok64 (s0_0 + 1)) ((z1w t data kx0_0 kx0_1 kx0_2 kx0_3 n0) (s0_0 + 1) (l0_1 ++ [x8.to])))))) else (if decide ((l0_1.length : Int) = 0) = true then ((getI t.out s0_0).bind fun x13 => (gd (l0_1.length + [x13.to].length ≤ SMALL) (if decide (t.split = 2) = true then (kx0_1 l0_1 x13) else (gd (ok64 (s0_0 + 1)) ((z1w t data kx0_0 kx0_1 kx0_2 kx0_3 n0) (s0_0 + 1) (l0_1 ++ [x13.to])))))) else (gd (ok64 (s0_0 + 1)) ((z1w t data kx0_0 kx0_1 kx0_2 kx0_3 n0) (s0_0 + 1) l0_1))))) else ((getI t.out s0_0).bind fun x18 => (gd (l0_1.length + [x18.to].length ≤ SMALL) (if decide (t.split = 2) = true then (kx0_2 l0_1 x18) else (gd (ok64 (s0_0 + 1)) ((z1w t data kx0_0 kx0_1 kx0_2 kx0_3 n0) (s0_0 + 1) (l0_1 ++ [x18.to]))))))) else (gd (ok64 (s0_0 + 1)) ((z1w t data kx0_0 kx0_1 kx0_2 kx0_3 n0) (s0_0 + 1) l0_1))))) else (kx0_3 l0_1)
def y1a (t : GTask) (data : List Int) : Option (List Int) := z1w t data zh9 zi0 zi1 y0d FUEL 0 ([] : List Int)
def z6l : Con := ⟨205, [.v (.s .task) false, .v (.sl .I) false], [((.sl .I), true)], [], fun x => y1a x.1 x.2.1⟩
def v1z : Fs := ⟨[z4i], [], []⟩
theorem w2z : v1z.Ok Tryz.prog := (fsK z7q fs0)
def yq2 : Tmpl := ⟨[(1, .c (.s .I)), (2, .c (.bx 2 0)), (5, .c (.ref 7)), (6, .c .i)], [(2, .boxT (.s .task)), (7, .arr .I true)]⟩
def z9f : Tmpl := ⟨[(5, .c (.ref 49))], [(49, .arr .I true)]⟩
def w9z (av : AV) (x : HP z6l.ps) (n : Nat) (v : yq2.den) (K : Ks (CR z6l)) : Option (CR z6l) := z1w v.2.1 v.1.1 (fun l0_1 x8 => z9f.at none (((), ()), ((l0_1 ++ [x8.to]), ())) (K (.exit 0))) (fun l0_1 x13 => z9f.at none (((), ()), ((l0_1 ++ [x13.to]), ())) (K (.exit 0))) (fun l0_1 x18 => z9f.at none (((), ()), ((l0_1 ++ [x18.to]), ())) (K (.exit 0))) (fun l0_1 => z9f.at none (((), ()), (l0_1, ())) (K (.exit 0))) n v.1.2.2.2.1 v.2.2.1
def yn8 (av : AV) (x : HP z6l.ps) : Hdl (CR z6l) := hnd [] yq2 (w9z av x)
theorem wg7 : LP z6l Tryz.f205 [0] yn8 := lp_ok (W := []) (H := []) (xs := [z9f]) w2z trivial rfl (fun av x v K => by kernel_rfl) (fun av x n v K => by kernel_rfl)
theorem v3d : z6l.Ok Tryz.prog := fn_ok (k := z6l) (fn := Tryz.f205) (W := []) (H := [yn8]) Tryz.func205 w2z ⟨wg7, trivial⟩ rfl rfl (fun av x => by kernel_rfl)
def z9s (l1_1 : List Int) : Option ((List Int) × Bool) := some (l1_1, true)
def z5t (x16 : (List Int)) (kx1_0 : List Int → Option ((List Int) × Bool)) : Nat → Int → List Int → Option ((List Int) × Bool)
  | 0, _, _ => none
  | n1 + 1, s1_0, l1_1 => if decide (s1_0 < (x16.length : Int)) = true then ((getI x16 s1_0).bind fun x18 => ((getI l1_1 x18).bind fun x19 => (if decide (x19 = 4) = true then (some (([] : List Int), false)) else ((getI x16 s1_0).bind fun x21 => ((getI x16 s1_0).bind fun x22 => ((getI l1_1 x22).bind fun x23 => (gd (ok64 (x23 + 1)) ((getI l1_1 x21).bind fun x25 => (gd (ok64 (s1_0 + 1)) ((z5t x16 kx1_0 n1) (s1_0 + 1) (l1_1.set x21.toNat (x23 + 1)))))))))))) else (kx1_0 l1_1)
def z9r (n : GNet) (t : Int) (data : List Int) (l0_1 : List Int) : Option ((List Int) × Bool) := (getI n.tasks t).bind fun x15 => ((y1a x15 data).bind fun x16 => (z5t x16 z9s FUEL 0 l0_1))
def z5s (n : GNet) (t : Int) (kx0_0 : List Int → Option ((List Int) × Bool)) : Nat → Int → List Int → Option ((List Int) × Bool)
  | 0, _, _ => none
  | n0 + 1, s0_0, l0_1 => (getI n.tasks t).bind fun x9 => (if decide (s0_0 < (x9.clear.length : Int)) = true then ((getI n.tasks t).bind fun x11 => ((getI x11.clear s0_0).bind fun x12 => ((getI l0_1 x12).bind fun x13 => (gd (ok64 (s0_0 + 1)) ((z5s n t kx0_0 n0) (s0_0 + 1) (l0_1.set x12.toNat 0)))))) else (kx0_0 l0_1))
def zp0 (n : GNet) (marks : List Int) (t : Int) (data : List Int) : Option ((List Int) × Bool) := (z98 n marks).bind fun x1 => (if x1 = true then (gd (ok64 ((n.tasks.length : Int) - 1)) ((z03 t 0 ((n.tasks.length : Int) - 1)).bind fun x4 => (if x4 = true then ((z2q data).bind fun x6 => (if x6 = true then (gd (([] : List Int).length + marks.length ≤ SMALL) (z5s n t (z9r n t data) FUEL 0 (([] : List Int) ++ marks))) else (some (([] : List Int), false)))) else (some (([] : List Int), false))))) else (some (([] : List Int), false)))
def z0z : Con := ⟨172, [.v (.s .net) false, .v (.sl .I) false, .v .I false, .v (.sl .I) false], [((.sl .I), true), (.B, true)], [], fun x => zp0 x.1 x.2.1 x.2.2.1 x.2.2.2.1⟩
def wc0 : Fs := ⟨[z3a, z0m, z1a, z6l], [], []⟩
theorem y24 : wc0.Ok Tryz.prog := (fsK y1i (fsK z0u (fsK z6x (fsK v3d fs0))))
def y7h : Tmpl := ⟨[(2, .c .i), (3, .c (.s .I)), (4, .c (.bx 4 0)), (10, .c (.ref 35)), (11, .c .i)], [(4, .boxT (.s .net)), (35, .arr .I true)]⟩
def y4g : Tmpl := ⟨[(2, .c .i), (3, .c (.s .I)), (4, .c (.bx 4 0)), (10, .c (.ref 35))], [(4, .boxT (.s .net)), (35, .arr .I true)]⟩
def w3x (av : AV) (x : HP z0z.ps) (n : Nat) (v : y7h.den) (K : Ks (CR z0z)) : Option (CR z0z) := z5s v.2.1 v.1.1 (fun l0_1 => y4g.at none ((v.1.1, v.1.2.1, (), (), ()), (v.2.1, l0_1, ())) (K (.exit 0))) n v.1.2.2.2.2.1 v.2.2.1
def y6i (av : AV) (x : HP z0z.ps) : Hdl (CR z0z) := hnd [] y7h (w3x av x)
theorem w4u : LP z0z Tryz.f172 [0] y6i := lp_ok (W := []) (H := []) (xs := [y4g]) y24 trivial rfl (fun av x v K => by kernel_rfl) (fun av x n v K => by kernel_rfl)
def y7i : Tmpl := ⟨[(10, .c (.ref 35)), (12, .c (.ref 64)), (13, .c .i)], [(35, .arr .I true), (64, .arr .I true)]⟩
def y4h : Tmpl := ⟨[(10, .c (.ref 35))], [(35, .arr .I true)]⟩
def w3y (av : AV) (x : HP z0z.ps) (n : Nat) (v : y7i.den) (K : Ks (CR z0z)) : Option (CR z0z) := z5t v.2.2.1 (fun l1_1 => y4h.at none (((), ()), (l1_1, ())) (K (.exit 2))) n v.1.2.2.1 v.2.1
def y6j (av : AV) (x : HP z0z.ps) : Hdl (CR z0z) := hnd [] y7i (w3y av x)
theorem w4v : LP z0z Tryz.f172 [1] y6j := lp_ok (W := []) (H := []) (xs := [y4h]) y24 trivial rfl (fun av x v K => by kernel_rfl) (fun av x n v K => by kernel_rfl)
theorem wi5 : z0z.Ok Tryz.prog := fn_ok (k := z0z) (fn := Tryz.f172) (W := []) (H := [y6i, y6j]) Tryz.func172 y24 ⟨w4u, w4v, trivial⟩ rfl rfl (fun av x => by kernel_rfl)
def yb2  : Option Bool := some true
def z7m (people : List Int) (kx0_0 : Option Bool) : Nat → Int → Option Bool
  | 0, _ => none
  | n0 + 1, s0_0 => if decide (s0_0 < (people.length : Int)) = true then ((getI people s0_0).bind fun x4 => ((z03 x4 0 7).bind fun x5 => (if x5 = true then (gd (ok64 (s0_0 + 1)) ((z7m people kx0_0 n0) (s0_0 + 1))) else (some false)))) else (kx0_0)
def z99 (people : List Int) : Option Bool := (z03 (people.length : Int) 1 4).bind fun x1 => (if x1 = true then (z7m people yb2 FUEL 0) else (some false))
def z3b : Con := ⟨44, [.v (.sl .I) false], [(.B, true)], [], fun x => z99 x.1⟩
def v1x : Fs := ⟨[z0m], [], []⟩
theorem w2y : v1x.Ok Tryz.prog := (fsK z0u fs0)
def yq0 : Tmpl := ⟨[(0, .c (.s .I)), (3, .c .i)], []⟩
def yh4 : Tmpl := ⟨[], []⟩
def w9x (av : AV) (x : HP z3b.ps) (n : Nat) (v : yq0.den) (K : Ks (CR z3b)) : Option (CR z3b) := z7m v.1.1 (yh4.at none ((), ()) (K (.exit 0))) n v.1.2.1
def yn6 (av : AV) (x : HP z3b.ps) : Hdl (CR z3b) := hnd [] yq0 (w9x av x)
theorem wg5 : LP z3b Tryz.f44 [0] yn6 := lp_ok (W := []) (H := []) (xs := [yh4]) w2y trivial rfl (fun av x v K => by kernel_rfl) (fun av x n v K => by kernel_rfl)
theorem y1j : z3b.Ok Tryz.prog := fn_ok (k := z3b) (fn := Tryz.f44) (W := []) (H := [yn6]) Tryz.func44 w2y ⟨wg5, trivial⟩ rfl rfl (fun av x => by kernel_rfl)
def z68 (s0_0 : Int) : Option Bool := gd ((2 : Int) ≠ 0) (some (decide ((Int.tmod s0_0 2) = 1)))
def z2l (role : Int) (kx0_0 : Int → Option Bool) : Nat → Int → Int → Option Bool
  | 0, _, _ => none
  | n0 + 1, s0_0, s0_1 => if decide (s0_1 < role) = true then (gd ((2 : Int) ≠ 0 ∧ ok64 (Int.tdiv s0_0 2)) (gd (ok64 (s0_1 + 1)) ((z2l role kx0_0 n0) (Int.tdiv s0_0 2) (s0_1 + 1)))) else (kx0_0 s0_0)
def zx6 (people : List Int) (who : Int) (role : Int) : Option Bool := (z99 people).bind fun x1 => (if x1 = true then ((z03 who 1 (people.length : Int)).bind fun x3 => (if x3 = true then ((z03 role 1 3).bind fun x5 => (if x5 = true then (gd (ok64 (who - 1)) ((getI people (who - 1)).bind fun x8 => (z2l role z68 FUEL x8 1))) else (some false))) else (some false))) else (some false))
def z5e : Con := ⟨166, [.v (.sl .I) false, .v .I false, .v .I false], [(.B, true)], [], fun x => zx6 x.1 x.2.1 x.2.2.1⟩
def wq6 : Fs := ⟨[z3b, z0m], [], []⟩
theorem yx3 : wq6.Ok Tryz.prog := (fsK y1j (fsK z0u fs0))
def ye9 : Tmpl := ⟨[(2, .c .i), (7, .c .i), (8, .c .i)], []⟩
def y84 : Tmpl := ⟨[(7, .c .i)], []⟩
def w64 (av : AV) (x : HP z5e.ps) (n : Nat) (v : ye9.den) (K : Ks (CR z5e)) : Option (CR z5e) := z2l v.1.1 (fun s0_0 => y84.at none ((s0_0, ()), ()) (K (.exit 0))) n v.1.2.1 v.1.2.2.1
def y9e (av : AV) (x : HP z5e.ps) : Hdl (CR z5e) := hnd [] ye9 (w64 av x)
theorem w83 : LP z5e Tryz.f166 [0] y9e := lp_ok (W := []) (H := []) (xs := [y84]) yx3 trivial rfl (fun av x v K => by kernel_rfl) (fun av x n v K => by kernel_rfl)
theorem wz1 : z5e.Ok Tryz.prog := fn_ok (k := z5e) (fn := Tryz.f166) (W := []) (H := [y9e]) Tryz.func166 yx3 ⟨w83, trivial⟩ rfl rfl (fun av x => by kernel_rfl)
def y6y  : Option Bool := some false
def z50 (did : List GDid) (who : Int) (task : Int) (kx0_0 : Option Bool) : Nat → Int → Option Bool
  | 0, _ => none
  | n0 + 1, s0_0 => if decide (s0_0 < (did.length : Int)) = true then ((getI did s0_0).bind fun x2 => (if decide (x2.who = who) = true then ((getI did s0_0).bind fun x4 => (if decide (x4.task = task) = true then (some true) else (gd (ok64 (s0_0 + 1)) ((z50 did who task kx0_0 n0) (s0_0 + 1))))) else (gd (ok64 (s0_0 + 1)) ((z50 did who task kx0_0 n0) (s0_0 + 1))))) else (kx0_0)
def zx5 (did : List GDid) (who : Int) (task : Int) : Option Bool := z50 did who task y6y FUEL 0
def z5d : Con := ⟨167, [.v (.sl (.s .did)) false, .v .I false, .v .I false], [(.B, true)], [], fun x => zx5 x.1 x.2.1 x.2.2.1⟩
def wq5 : Fs := ⟨[], [], []⟩
theorem yx2 : wq5.Ok Tryz.prog := fs0
def ye8 : Tmpl := ⟨[(0, .c (.s (.s .did))), (1, .c .i), (2, .c .i), (7, .c .i)], []⟩
def y83 : Tmpl := ⟨[], []⟩
def w63 (av : AV) (x : HP z5d.ps) (n : Nat) (v : ye8.den) (K : Ks (CR z5d)) : Option (CR z5d) := z50 v.1.1 v.1.2.1 v.1.2.2.1 (y83.at none ((), ()) (K (.exit 0))) n v.1.2.2.2.1
def y9d (av : AV) (x : HP z5d.ps) : Hdl (CR z5d) := hnd [] ye8 (w63 av x)
theorem w82 : LP z5d Tryz.f167 [0] y9d := lp_ok (W := []) (H := []) (xs := [y83]) yx2 trivial rfl (fun av x v K => by kernel_rfl) (fun av x n v K => by kernel_rfl)
theorem wz0 : z5d.Ok Tryz.prog := fn_ok (k := z5d) (fn := Tryz.f167) (W := []) (H := [y9d]) Tryz.func167 yx2 ⟨w82, trivial⟩ rfl rfl (fun av x => by kernel_rfl)
def y6z (n : GNet) (people : List Int) (did : List GDid) (t : Int) (s0_0 : Int) (l0_1 : List Int) (bk0 : Int → List Int → Option (List Int)) (s1_0 : Bool) : Option (List Int) := (getI n.tasks t).bind fun x18 => ((zx6 people s0_0 x18.role).bind fun x19 => (if x19 = true then (if s1_0 = true then (gd (ok64 (s0_0 + 1)) (bk0 (s0_0 + 1) l0_1)) else ((getI n.tasks t).bind fun x23 => ((zx5 did s0_0 x23.apart).bind fun x24 => (if x24 = true then (gd (ok64 (s0_0 + 1)) (bk0 (s0_0 + 1) l0_1)) else (gd (l0_1.length + [s0_0].length ≤ SMALL) (gd (ok64 (s0_0 + 1)) (bk0 (s0_0 + 1) (l0_1 ++ [s0_0])))))))) else (gd (ok64 (s0_0 + 1)) (bk0 (s0_0 + 1) l0_1))))
def z2m (n : GNet) (busy : List GItem) (t : Int) (s0_0 : Int) (kx1_0 : Bool → Option (List Int)) : Nat → Bool → Int → Option (List Int)
  | 0, _, _ => none
  | n1 + 1, s1_0, s1_1 => if decide (s1_1 < (busy.length : Int)) = true then (if s1_0 = true then (gd (ok64 (s1_1 + 1)) ((z2m n busy t s0_0 kx1_0 n1) true (s1_1 + 1))) else ((getI busy s1_1).bind fun x12 => (if decide (x12.who = s0_0) = true then ((getI busy s1_1).bind fun x14 => ((getI n.tasks t).bind fun x15 => (gd (ok64 (s1_1 + 1)) ((z2m n busy t s0_0 kx1_0 n1) (decide (x14.task = x15.apart)) (s1_1 + 1))))) else (gd (ok64 (s1_1 + 1)) ((z2m n busy t s0_0 kx1_0 n1) false (s1_1 + 1)))))) else (kx1_0 s1_0)
def zt0 (l0_1 : List Int) : Option (List Int) := some l0_1
def z69 (n : GNet) (people : List Int) (did : List GDid) (busy : List GItem) (t : Int) (kx0_0 : List Int → Option (List Int)) : Nat → Int → List Int → Option (List Int)
  | 0, _, _ => none
  | n0 + 1, s0_0, l0_1 => if decide (s0_0 ≤ (people.length : Int)) = true then (z2m n busy t s0_0 (y6z n people did t s0_0 l0_1 (z69 n people did busy t kx0_0 n0)) FUEL false 0) else (kx0_0 l0_1)
def z9t (n : GNet) (people : List Int) (did : List GDid) (busy : List GItem) (t : Int) : Option (List Int) := (z3e n).bind fun x1 => (if x1 = true then ((z99 people).bind fun x3 => (if x3 = true then (gd (ok64 ((n.tasks.length : Int) - 1)) ((z03 t 0 ((n.tasks.length : Int) - 1)).bind fun x6 => (if x6 = true then (z69 n people did busy t zt0 FUEL 1 ([] : List Int)) else (some ([] : List Int))))) else (some ([] : List Int)))) else (some ([] : List Int)))
def z13 : Con := ⟨102, [.v (.s .net) false, .v (.sl .I) false, .v (.sl (.s .did)) false, .v (.sl (.s .item)) false, .v .I false], [((.sl .I), true)], [], fun x => z9t x.1 x.2.1 x.2.2.1 x.2.2.2.1 x.2.2.2.2.1⟩
def wq7 : Fs := ⟨[z2p, z3b, z0m, z5e, z5d], [], []⟩
theorem y51 : wq7.Ok Tryz.prog := (fsK zr9 (fsK y1j (fsK z0u (fsK wz1 (fsK wz0 fs0)))))
def y3z : Tmpl := ⟨[(1, .c (.s .I)), (2, .c (.s (.s .did))), (3, .c (.s (.s .item))), (4, .c .i), (5, .c (.bx 5 0)), (11, .c (.ref 15)), (12, .c .i), (13, .c .b), (14, .c .i)], [(5, .boxT (.s .net)), (15, .arr .I true)]⟩
def y1r : Tmpl := ⟨[(1, .c (.s .I)), (2, .c (.s (.s .did))), (3, .c (.s (.s .item))), (4, .c .i), (5, .c (.bx 5 0)), (11, .c (.ref 15)), (12, .c .i), (13, .c .b)], [(5, .boxT (.s .net)), (15, .arr .I true)]⟩
def w0s (av : AV) (x : HP z13.ps) (n : Nat) (v : y3z.den) (K : Ks (CR z13)) : Option (CR z13) := z2m v.2.1 v.1.2.2.1 v.1.2.2.2.1 v.1.2.2.2.2.2.2.1 (fun s1_0 => y1r.at none ((v.1.1, v.1.2.1, v.1.2.2.1, v.1.2.2.2.1, (), (), v.1.2.2.2.2.2.2.1, s1_0, ()), (v.2.1, v.2.2.1, ())) (K (.exit 2))) n v.1.2.2.2.2.2.2.2.1 v.1.2.2.2.2.2.2.2.2.1
def y36 (av : AV) (x : HP z13.ps) : Hdl (CR z13) := hnd [] y3z (w0s av x)
theorem w1u : LP z13 Tryz.f102 [0, 0] y36 := lp_ok (W := []) (H := []) (xs := [y1r]) y51 trivial rfl (fun av x v K => by kernel_rfl) (fun av x n v K => by kernel_rfl)
def yf0 : Tmpl := ⟨[(1, .c (.s .I)), (2, .c (.s (.s .did))), (3, .c (.s (.s .item))), (4, .c .i), (5, .c (.bx 5 0)), (11, .c (.ref 15)), (12, .c .i)], [(5, .boxT (.s .net)), (15, .arr .I true)]⟩
def y85 : Tmpl := ⟨[(11, .c (.ref 15))], [(15, .arr .I true)]⟩
def w65 (av : AV) (x : HP z13.ps) (n : Nat) (v : yf0.den) (K : Ks (CR z13)) : Option (CR z13) := z69 v.2.1 v.1.1 v.1.2.1 v.1.2.2.1 v.1.2.2.2.1 (fun l0_1 => y85.at none (((), ()), (l0_1, ())) (K (.exit 0))) n v.1.2.2.2.2.2.2.1 v.2.2.1
def y9f (av : AV) (x : HP z13.ps) : Hdl (CR z13) := hnd [] yf0 (w65 av x)
theorem w84 : LP z13 Tryz.f102 [0] y9f := lp_ok (W := []) (H := [y36]) (xs := [y85]) y51 ⟨w1u, trivial⟩ rfl (fun av x v K => by kernel_rfl) (fun av x n v K => by kernel_rfl)
theorem w01 : z13.Ok Tryz.prog := fn_ok (k := z13) (fn := Tryz.f102) (W := []) (H := [y9f]) Tryz.func102 y51 ⟨w84, trivial⟩ rfl rfl (fun av x => by kernel_rfl)
def z9p (n : GNet) (data : List Int) : Option GCase := (z3e n).bind fun x1 => (if x1 = true then ((z2q data).bind fun x3 => (if x3 = true then (gd ((0 : Int) ≤ n.places ∧ n.places ≤ (1000000000 : Int)) (gd (([] : List Int).length + data.length ≤ SMALL) ((getI (List.replicate n.places.toNat (0 : Int)) 0).bind fun x7 => (some (GCase.mk 1 ((List.replicate n.places.toNat (0 : Int)).set (0 : Int).toNat 1) [] (([] : List Int) ++ data) []))))) else (some (GCase.mk 0 [] [] [] [])))) else (some (GCase.mk 0 [] [] [] [])))
def zv6 : Con := ⟨155, [.v (.s .net) false, .v (.sl .I) false], [((.s .kase), true)], [], fun x => z9p x.1 x.2.1⟩
def wq0 : Fs := ⟨[z2p, z1a], [], []⟩
theorem wt8 : wq0.Ok Tryz.prog := (fsK zr9 (fsK z6x fs0))
theorem yz8 : zv6.Ok Tryz.prog := fn_ok (k := zv6) (fn := Tryz.f155) (W := []) (H := []) Tryz.func155 wt8 trivial rfl rfl (fun av x => by kernel_rfl)
def zh6 (c : GCase) : Option Bool := if decide (c.state = 1) = true then ((getI c.marks 1).bind fun x20 => (some (decide (x20 = 0)))) else (if decide ((c.busy.length : Int) = 0) = true then ((getI c.marks 1).bind fun x22 => (some ((decide (c.state = 2)) == (decide (0 < x22))))) else (some false))
def z7f (n : GNet) (c : GCase) (kx0_0 : Option Bool) : Nat → Int → Option Bool
  | 0, _ => none
  | n0 + 1, s0_0 => if decide (s0_0 < (c.did.length : Int)) = true then ((getI c.did s0_0).bind fun x11 => (gd (ok64 ((n.tasks.length : Int) - 1)) ((z03 x11.task 0 ((n.tasks.length : Int) - 1)).bind fun x13 => (if x13 = true then ((getI c.did s0_0).bind fun x15 => ((z03 x15.who 1 4).bind fun x16 => (if x16 = true then (gd (ok64 (s0_0 + 1)) ((z7f n c kx0_0 n0) (s0_0 + 1))) else (some false)))) else (some false))))) else (kx0_0)
def z97 (n : GNet) (c : GCase) : Option Bool := (z98 n c.marks).bind fun x1 => (if x1 = true then ((zj1 n c.busy).bind fun x3 => (if x3 = true then ((z2q c.data).bind fun x5 => (if x5 = true then (if decide (60 < (c.did.length : Int)) = true then (some false) else ((z03 c.state 1 3).bind fun x8 => (if x8 = true then (z7f n c (zh6 c) FUEL 0) else (some false)))) else (some false))) else (some false))) else (some false))
def z39 : Con := ⟨25, [.v (.s .net) false, .v (.s .kase) false], [(.B, true)], [], fun x => z97 x.1 x.2.1⟩
def v1q : Fs := ⟨[z3a, z4a, z1a, z0m], [], []⟩
theorem w2s : v1q.Ok Tryz.prog := (fsK y1i (fsK w03 (fsK z6x (fsK z0u fs0))))
def yp4 : Tmpl := ⟨[(2, .c (.bx 2 0)), (3, .c (.bx 3 0)), (5, .c .i)], [(2, .boxT (.s .net)), (3, .boxT (.s .kase))]⟩
def yg8 : Tmpl := ⟨[(3, .c (.bx 3 0))], [(3, .boxT (.s .kase))]⟩
def w9r (av : AV) (x : HP z39.ps) (n : Nat) (v : yp4.den) (K : Ks (CR z39)) : Option (CR z39) := z7f v.2.1 v.2.2.1 (yg8.at none (((), ()), (v.2.2.1, ())) (K (.exit 0))) n v.1.2.2.1
def yn0 (av : AV) (x : HP z39.ps) : Hdl (CR z39) := hnd [] yp4 (w9r av x)
theorem wf9 : LP z39 Tryz.f25 [0] yn0 := lp_ok (W := []) (H := []) (xs := [yg8]) w2s trivial rfl (fun av x v K => by kernel_rfl) (fun av x n v K => by kernel_rfl)
theorem y1h : z39.Ok Tryz.prog := fn_ok (k := z39) (fn := Tryz.f25) (W := []) (H := [yn0]) Tryz.func25 w2s ⟨wf9, trivial⟩ rfl rfl (fun av x => by kernel_rfl)
def z6u (c : GCase) : Option GCase := gd (([] : List Int).length + c.marks.length ≤ SMALL) (gd (([] : List GItem).length + c.busy.length ≤ SMALL) (gd (([] : List Int).length + c.data.length ≤ SMALL) (gd (([] : List GDid).length + c.did.length ≤ SMALL) (some (GCase.mk c.state (([] : List Int) ++ c.marks) (([] : List GItem) ++ c.busy) (([] : List Int) ++ c.data) (([] : List GDid) ++ c.did))))))
def z9i : Con := ⟨86, [.v (.s .kase) false], [((.s .kase), true)], [], fun x => z6u x.1⟩
def wr8 : Fs := ⟨[], [], []⟩
theorem wu8 : wr8.Ok Tryz.prog := fs0
theorem zy8 : z9i.Ok Tryz.prog := fn_ok (k := z9i) (fn := Tryz.f86) (W := []) (H := []) Tryz.func86 wu8 trivial rfl rfl (fun av x => by kernel_rfl)
def z7g (n : GNet) (people : List Int) (c : GCase) (t : Int) (who : Int) : Option (GCase × Bool) := (z6u c).bind fun x1 => ((z97 n c).bind fun x2 => (if x2 = true then (if decide (c.state = 1) = true then ((zh7 n c.marks c.busy t).bind fun x5 => (if x5 = true then ((z9t n people c.did c.busy t).bind fun x7 => ((ze4 x7 who).bind fun x8 => (if x8 = true then (if decide ((c.busy.length : Int) = 6) = true then (some (x1, false)) else ((zo9 n c.marks t).bind fun x11 => (gd (x1.busy.length + [(GItem.mk t who 0)].length ≤ SMALL) (some ((GCase.mk x1.state x11 (x1.busy ++ [(GItem.mk t who 0)]) x1.data x1.did), true))))) else (some (x1, false))))) else (some (x1, false)))) else (some (x1, false))) else (some (x1, false))))
def zg8 : Con := ⟨32, [.v (.s .net) false, .v (.sl .I) false, .v (.s .kase) false, .v .I false, .v .I false], [((.s .kase), true), (.B, true)], [], fun x => z7g x.1 x.2.1 x.2.2.1 x.2.2.2.1 x.2.2.2.2.1⟩
def w6v : Fs := ⟨[z9i, z39, zv8, z13, z4j, z41], [], []⟩
theorem w7i : w6v.Ok Tryz.prog := (fsK zy8 (fsK y1h (fsK w00 (fsK w01 (fsK yd3 (fsK wi4 fs0))))))
theorem yd0 : zg8.Ok Tryz.prog := fn_ok (k := zg8) (fn := Tryz.f32) (W := []) (H := []) Tryz.func32 w7i trivial rfl rfl (fun av x => by kernel_rfl)
def zb3 (n : GNet) (c : GCase) (k : Int) (v : Int) (num : Int) : Option (GCase × Bool) := (z6u c).bind fun x1 => ((z97 n c).bind fun x2 => (if x2 = true then (if decide (c.state = 1) = true then (gd (ok64 ((c.busy.length : Int) - 1)) ((z03 k 0 ((c.busy.length : Int) - 1)).bind fun x6 => (if x6 = true then ((z03 v (-1) 2).bind fun x8 => (if x8 = true then ((z03 num (-99) 99).bind fun x10 => (if x10 = true then (if decide ((c.did.length : Int) = 60) = true then (some (x1, false)) else ((getI c.busy k).bind fun x13 => ((z83 c.data v num).bind fun x14 => (gd (ok64 (x13.did + 1)) ((getI x1.busy k).bind fun x16 => (gd (ok64 (x13.did + 1)) ((getI n.tasks x13.task).bind fun x18 => (if decide ((x13.did + 1) < x18.need) = true then (some ((GCase.mk x1.state x1.marks (x1.busy.set k.toNat (GItem.mk x16.task x16.who (x13.did + 1))) x14 x1.did), true)) else ((zp0 n c.marks x13.task x14).bind fun x20 => (if x20.2 = true then (gd ((0 : Int) ≤ k ∧ k ≤ (c.busy.length : Int)) (gd (([] : List GItem).length + (c.busy.take k.toNat).length ≤ SMALL) (gd (ok64 (k + 1)) (gd ((0 : Int) ≤ (k + 1) ∧ (k + 1) ≤ (c.busy.length : Int)) (gd ((([] : List GItem) ++ (c.busy.take k.toNat)).length + (c.busy.drop (k + 1).toNat).length ≤ SMALL) (gd (x1.did.length + [(GDid.mk x13.task x13.who)].length ≤ SMALL) ((getI x20.1 1).bind fun x28 => (if decide (0 < x28) = true then (some ((GCase.mk 2 x20.1 ([] : List GItem) x14 (x1.did ++ [(GDid.mk x13.task x13.who)])), true)) else (some ((GCase.mk x1.state x20.1 ((([] : List GItem) ++ (c.busy.take k.toNat)) ++ (c.busy.drop (k + 1).toNat)) x14 (x1.did ++ [(GDid.mk x13.task x13.who)])), true)))))))))) else ((z6u c).bind fun x30 => (some (x30, false))))))))))))) else (some (x1, false)))) else (some (x1, false)))) else (some (x1, false))))) else (some (x1, false))) else (some (x1, false))))
def zo4 : Con := ⟨112, [.v (.s .net) false, .v (.s .kase) false, .v .I false, .v .I false, .v .I false], [((.s .kase), true), (.B, true)], [], fun x => zb3 x.1 x.2.1 x.2.2.1 x.2.2.2.1 x.2.2.2.2.1⟩
def wb8 : Fs := ⟨[z9i, z39, z0m, zv7, z0z], [], []⟩
theorem we5 : wb8.Ok Tryz.prog := (fsK zy8 (fsK y1h (fsK z0u (fsK yz9 (fsK wi5 fs0)))))
theorem yo4 : zo4.Ok Tryz.prog := fn_ok (k := zo4) (fn := Tryz.f112) (W := []) (H := []) Tryz.func112 we5 trivial rfl rfl (fun av x => by kernel_rfl)
def zo8 (n : GNet) (c : GCase) : Option (GCase × Bool) := (z6u c).bind fun x1 => ((z97 n c).bind fun x2 => (if x2 = true then (if decide (c.state = 1) = true then (some ((GCase.mk 3 x1.marks ([] : List GItem) x1.data x1.did), true)) else (some (x1, false))) else (some (x1, false))))
def y29 : Con := ⟨23, [.v (.s .net) false, .v (.s .kase) false], [((.s .kase), true), (.B, true)], [], fun x => zo8 x.1 x.2.1⟩
def wb7 : Fs := ⟨[z9i, z39], [], []⟩
theorem we4 : wb7.Ok Tryz.prog := (fsK zy8 (fsK y1h fs0))
theorem wi3 : y29.Ok Tryz.prog := fn_ok (k := y29) (fn := Tryz.f23) (W := []) (H := []) Tryz.func23 we4 trivial rfl rfl (fun av x => by kernel_rfl)
def z08 (c : GCase) : Option GCase := (z0g c.marks).bind fun x1 => (gd (([] : List GItem).length + c.busy.length ≤ SMALL) ((z0g c.data).bind fun x3 => (gd (([] : List GDid).length + c.did.length ≤ SMALL) (some (GCase.mk c.state x1 (([] : List GItem) ++ c.busy) x3 (([] : List GDid) ++ c.did))))))
def z34 : Con := ⟨84, [.v (.s .kase) false], [((.s .kase), true)], [], fun x => z08 x.1⟩
def yj7 : Fs := ⟨[z1e], [], []⟩
theorem yk3 : yj7.Ok Tryz.prog := (fsK z2n fs0)
theorem z74 : z34.Ok Tryz.prog := fn_ok (k := z34) (fn := Tryz.f84) (W := []) (H := []) Tryz.func84 yk3 trivial rfl rfl (fun av x => by kernel_rfl)
def yb3 (s0_0 : Int) (bk0 : Int → Option Bool) (s1_0 : Int) : Option Bool := if ((decide (s0_0 = 0)) == (decide (s1_0 = 0))) = true then (if decide (1 < s1_0) = true then (some false) else (gd (ok64 (s0_0 + 1)) (bk0 (s0_0 + 1)))) else (some false)
def z15 (tree : List GNode) (s0_0 : Int) (kx1_0 : Int → Option Bool) : Nat → Int → Int → Option Bool
  | 0, _, _ => none
  | n1 + 1, s1_0, s1_1 => if decide (s1_1 < (tree.length : Int)) = true then ((getI tree s1_1).bind fun x15 => (if decide (x15.yes = s0_0) = true then (gd (ok64 (s1_0 + 1)) ((getI tree s1_1).bind fun x18 => (if decide (x18.no = s0_0) = true then (gd (ok64 ((s1_0 + 1) + 1)) (gd (ok64 (s1_1 + 1)) ((z15 tree s0_0 kx1_0 n1) ((s1_0 + 1) + 1) (s1_1 + 1)))) else (gd (ok64 (s1_1 + 1)) ((z15 tree s0_0 kx1_0 n1) (s1_0 + 1) (s1_1 + 1)))))) else ((getI tree s1_1).bind fun x23 => (if decide (x23.no = s0_0) = true then (gd (ok64 (s1_0 + 1)) (gd (ok64 (s1_1 + 1)) ((z15 tree s0_0 kx1_0 n1) (s1_0 + 1) (s1_1 + 1)))) else (gd (ok64 (s1_1 + 1)) ((z15 tree s0_0 kx1_0 n1) s1_0 (s1_1 + 1))))))) else (kx1_0 s1_0)
def yb4 (s0_0 : Int) (bk0 : Int → Option Bool) (s2_0 : Int) : Option Bool := if ((decide (s0_0 = 0)) == (decide (s2_0 = 0))) = true then (if decide (1 < s2_0) = true then (some false) else (gd (ok64 (s0_0 + 1)) (bk0 (s0_0 + 1)))) else (some false)
def yb5 (s0_0 : Int) (bk0 : Int → Option Bool) (s3_0 : Int) : Option Bool := if ((decide (s0_0 = 0)) == (decide (s3_0 = 0))) = true then (if decide (1 < s3_0) = true then (some false) else (gd (ok64 (s0_0 + 1)) (bk0 (s0_0 + 1)))) else (some false)
def yb6 (s0_0 : Int) (bk0 : Int → Option Bool) (s4_0 : Int) : Option Bool := if ((decide (s0_0 = 0)) == (decide (s4_0 = 0))) = true then (if decide (1 < s4_0) = true then (some false) else (gd (ok64 (s0_0 + 1)) (bk0 (s0_0 + 1)))) else (some false)
def yb7  : Option Bool := some true
def z32 (tree : List GNode) (kx0_0 : Option Bool) : Nat → Int → Option Bool
  | 0, _ => none
  | n0 + 1, s0_0 => if decide (s0_0 < (tree.length : Int)) = true then ((getI tree s0_0).bind fun x3 => ((z6q x3.if_).bind fun x4 => (if x4 = true then ((z03 x3.ans 0 2).bind fun x6 => (if x6 = true then ((z2q x3.stone).bind fun x8 => (if x8 = true then ((z1f x3.if_ x3.stone).bind fun x10 => (if x10 = true then (if decide (x3.yes = (-1)) = true then (if decide (x3.no = (-1)) = true then (z15 tree s0_0 (yb3 s0_0 (z32 tree kx0_0 n0)) FUEL 0 0) else (gd (ok64 (s0_0 + 1)) (gd (ok64 ((tree.length : Int) - 1)) ((z03 x3.no (s0_0 + 1) ((tree.length : Int) - 1)).bind fun x33 => (if x33 = true then (z15 tree s0_0 (yb4 s0_0 (z32 tree kx0_0 n0)) FUEL 0 0) else (some false)))))) else (gd (ok64 (s0_0 + 1)) (gd (ok64 ((tree.length : Int) - 1)) ((z03 x3.yes (s0_0 + 1) ((tree.length : Int) - 1)).bind fun x54 => (if x54 = true then (if decide (x3.no = (-1)) = true then (z15 tree s0_0 (yb5 s0_0 (z32 tree kx0_0 n0)) FUEL 0 0) else (gd (ok64 (s0_0 + 1)) (gd (ok64 ((tree.length : Int) - 1)) ((z03 x3.no (s0_0 + 1) ((tree.length : Int) - 1)).bind fun x76 => (if x76 = true then (z15 tree s0_0 (yb6 s0_0 (z32 tree kx0_0 n0)) FUEL 0 0) else (some false)))))) else (some false)))))) else (some false))) else (some false))) else (some false))) else (some false)))) else (kx0_0)
def z9a (tree : List GNode) : Option Bool := if decide (12 < (tree.length : Int)) = true then (some false) else (z32 tree yb7 FUEL 0)
def z1b : Con := ⟨129, [.v (.sl (.s .node)) false], [(.B, true)], [], fun x => z9a x.1⟩
def v1y : Fs := ⟨[z90, z0m, z1a, z4i], [], []⟩
theorem y8y : v1y.Ok Tryz.prog := (fsK zr8 (fsK z0u (fsK z6x (fsK z7q fs0))))
def y7j : Tmpl := ⟨[(0, .c (.s (.s .node))), (3, .c .i), (5, .c .i), (6, .c .i)], []⟩
def y4i : Tmpl := ⟨[(0, .c (.s (.s .node))), (3, .c .i), (5, .c .i)], []⟩
def w3z (av : AV) (x : HP z1b.ps) (n : Nat) (v : y7j.den) (K : Ks (CR z1b)) : Option (CR z1b) := z15 v.1.1 v.1.2.1 (fun s1_0 => y4i.at none ((v.1.1, v.1.2.1, s1_0, ()), ()) (K (.exit 2))) n v.1.2.2.1 v.1.2.2.2.1
def y6k (av : AV) (x : HP z1b.ps) : Hdl (CR z1b) := hnd [] y7j (w3z av x)
theorem w4w : LP z1b Tryz.f129 [0, 0] y6k := lp_ok (W := []) (H := []) (xs := [y4i]) y8y trivial rfl (fun av x v K => by kernel_rfl) (fun av x n v K => by kernel_rfl)
def yq1 : Tmpl := ⟨[(0, .c (.s (.s .node))), (3, .c .i)], []⟩
def yh5 : Tmpl := ⟨[], []⟩
def w9y (av : AV) (x : HP z1b.ps) (n : Nat) (v : yq1.den) (K : Ks (CR z1b)) : Option (CR z1b) := z32 v.1.1 (yh5.at none ((), ()) (K (.exit 0))) n v.1.2.1
def yn7 (av : AV) (x : HP z1b.ps) : Hdl (CR z1b) := hnd [] yq1 (w9y av x)
theorem wg6 : LP z1b Tryz.f129 [0] yn7 := lp_ok (W := []) (H := [y6k]) (xs := [yh5]) y8y ⟨w4w, trivial⟩ rfl (fun av x v K => by kernel_rfl) (fun av x n v K => by kernel_rfl)
theorem yd1 : z1b.Ok Tryz.prog := fn_ok (k := z1b) (fn := Tryz.f129) (W := []) (H := [yn7]) Tryz.func129 y8y ⟨wg6, trivial⟩ rfl rfl (fun av x => by kernel_rfl)
def y71 (s0_0 : Int) (s0_1 : Int) : Option (Int × Int) := some (s0_0, s0_1)
def y72 (s0_0 : Int) (s0_1 : Int) : Option (Int × Int) := some (s0_0, s0_1)
def z3f (tree : List GNode) (data : List Int) (kx0_0 : Int → Int → Option (Int × Int)) (kx0_1 : Int → Int → Option (Int × Int)) : Nat → Int → Int → Int → Int → Option (Int × Int)
  | 0, _, _, _, _ => none
  | n0 + 1, s0_0, s0_1, s0_2, s0_3 => if decide (s0_3 < 12) = true then (if decide (s0_2 = (-1)) = true then (kx0_0 s0_0 s0_1) else ((getI tree s0_2).bind fun x4 => ((z1f x4.if_ data).bind fun x5 => (if x5 = true then ((getI tree s0_2).bind fun x7 => (gd (ok64 (s0_3 + 1)) ((z3f tree data kx0_0 kx0_1 n0) s0_2 s0_2 x7.yes (s0_3 + 1)))) else ((getI tree s0_2).bind fun x9 => (gd (ok64 (s0_3 + 1)) ((z3f tree data kx0_0 kx0_1 n0) s0_0 s0_2 x9.no (s0_3 + 1)))))))) else (kx0_1 s0_0 s0_1)
def y73 (s1_0 : Int) (s1_1 : Int) : Option (Int × Int) := some (s1_0, s1_1)
def y74 (s1_0 : Int) (s1_1 : Int) : Option (Int × Int) := some (s1_0, s1_1)
def z86 (tree : List GNode) (data : List Int) : Option (Int × Int) := if decide ((tree.length : Int) = 0) = true then (z3f tree data y71 y72 FUEL (-1) (-1) (-1) 0) else (z3f tree data y73 y74 FUEL (-1) (-1) 0 0)
def z2y : Con := ⟨209, [.v (.sl (.s .node)) false, .v (.sl .I) false], [(.I, true), (.I, true)], [], fun x => z86 x.1 x.2.1⟩
def ws1 : Fs := ⟨[z4i], [], []⟩
theorem yx8 : ws1.Ok Tryz.prog := (fsK z7q fs0)
def yf5 : Tmpl := ⟨[(0, .c (.s (.s .node))), (1, .c (.s .I)), (6, .c .i), (7, .c .i), (8, .c .i), (9, .c .i)], []⟩
def zt5 : Tmpl := ⟨[(6, .c .i), (7, .c .i)], []⟩
def w6a (av : AV) (x : HP z2y.ps) (n : Nat) (v : yf5.den) (K : Ks (CR z2y)) : Option (CR z2y) := z3f v.1.1 v.1.2.1 (fun s0_0 s0_1 => zt5.at none ((s0_0, s0_1, ()), ()) (K (.exit 0))) (fun s0_0 s0_1 => zt5.at none ((s0_0, s0_1, ()), ()) (K (.exit 0))) n v.1.2.2.1 v.1.2.2.2.1 v.1.2.2.2.2.1 v.1.2.2.2.2.2.1
def y9k (av : AV) (x : HP z2y.ps) : Hdl (CR z2y) := hnd [] yf5 (w6a av x)
theorem w89 : LP z2y Tryz.f209 [0] y9k := lp_ok (W := []) (H := []) (xs := [zt5]) yx8 trivial rfl (fun av x v K => by kernel_rfl) (fun av x n v K => by kernel_rfl)
theorem y5w : z2y.Ok Tryz.prog := fn_ok (k := z2y) (fn := Tryz.f209) (W := []) (H := [y9k]) Tryz.func209 yx8 ⟨w89, trivial⟩ rfl rfl (fun av x => by kernel_rfl)
def zx7 (tree : List GNode) (data : List Int) : Option Int := (z9a tree).bind fun x1 => (if x1 = true then ((z2q data).bind fun x3 => (if x3 = true then ((z86 tree data).bind fun x5 => (if decide (x5.1 = (-1)) = true then (some 0) else ((getI tree x5.1).bind fun x7 => (some x7.ans)))) else (some 0))) else (some 0))
def y5d : Con := ⟨186, [.v (.sl (.s .node)) false, .v (.sl .I) false], [(.I, true)], [], fun x => zx7 x.1 x.2.1⟩
def wq9 : Fs := ⟨[z1b, z1a, z2y], [], []⟩
theorem wu1 : wq9.Ok Tryz.prog := (fsK yd1 (fsK z6x (fsK y5w fs0)))
theorem wz2 : y5d.Ok Tryz.prog := fn_ok (k := y5d) (fn := Tryz.f186) (W := []) (H := []) Tryz.func186 wu1 trivial rfl rfl (fun av x => by kernel_rfl)
def zy3 (tree : List GNode) (a : List Int) (b : List Int) : Option Bool := (z86 tree a).bind fun x1 => ((z86 tree b).bind fun x2 => (if decide (x1.2 = x2.2) = true then (if decide (x1.2 = (-1)) = true then (some true) else ((getI tree x1.2).bind fun x5 => ((z1f x5.if_ a).bind fun x6 => ((getI tree x1.2).bind fun x7 => ((z1f x7.if_ b).bind fun x8 => (some (x6 == x8))))))) else (some false)))
def y5i : Con := ⟨210, [.v (.sl (.s .node)) false, .v (.sl .I) false, .v (.sl .I) false], [(.B, true)], [], fun x => zy3 x.1 x.2.1 x.2.2.1⟩
def ws0 : Fs := ⟨[z2y, z4i], [], []⟩
theorem wu9 : ws0.Ok Tryz.prog := (fsK y5w (fsK z7q fs0))
theorem wz8 : y5i.Ok Tryz.prog := fn_ok (k := y5i) (fn := Tryz.f210) (W := []) (H := []) Tryz.func210 wu9 trivial rfl rfl (fun av x => by kernel_rfl)
def zt1 (l0_1 : List GNode) : Option (List GNode) := some l0_1
def z6b (tree : List GNode) (kx0_0 : List GNode → Option (List GNode)) : Nat → Int → List GNode → Option (List GNode)
  | 0, _, _ => none
  | n0 + 1, s0_0, l0_1 => if decide (s0_0 < (tree.length : Int)) = true then ((getI tree s0_0).bind fun x2 => (gd (([] : List Int).length + x2.stone.length ≤ SMALL) (gd (l0_1.length + [(GNode.mk x2.if_ x2.yes x2.no x2.ans (([] : List Int) ++ x2.stone))].length ≤ SMALL) (gd (ok64 (s0_0 + 1)) ((z6b tree kx0_0 n0) (s0_0 + 1) (l0_1 ++ [(GNode.mk x2.if_ x2.yes x2.no x2.ans (([] : List Int) ++ x2.stone))])))))) else (kx0_0 l0_1)
def zj4 (tree : List GNode) : Option (List GNode) := z6b tree zt1 FUEL 0 ([] : List GNode)
def z4b : Con := ⟨189, [.v (.sl (.s .node)) false], [((.sl (.s .node)), true)], [], fun x => zj4 x.1⟩
def wr9 : Fs := ⟨[], [], []⟩
theorem yx7 : wr9.Ok Tryz.prog := fs0
def yf4 : Tmpl := ⟨[(0, .c (.s (.s .node))), (3, .c (.ref 6)), (4, .c .i)], [(6, .arr (.s .node) true)]⟩
def y89 : Tmpl := ⟨[(3, .c (.ref 6))], [(6, .arr (.s .node) true)]⟩
def w69 (av : AV) (x : HP z4b.ps) (n : Nat) (v : yf4.den) (K : Ks (CR z4b)) : Option (CR z4b) := z6b v.1.1 (fun l0_1 => y89.at none (((), ()), (l0_1, ())) (K (.exit 0))) n v.1.2.2.1 v.2.1
def y9j (av : AV) (x : HP z4b.ps) : Hdl (CR z4b) := hnd [] yf4 (w69 av x)
theorem w88 : LP z4b Tryz.f189 [0] y9j := lp_ok (W := []) (H := []) (xs := [y89]) yx7 trivial rfl (fun av x v K => by kernel_rfl) (fun av x n v K => by kernel_rfl)
theorem w04 : z4b.Ok Tryz.prog := fn_ok (k := z4b) (fn := Tryz.f189) (W := []) (H := [y9j]) Tryz.func189 yx7 ⟨w88, trivial⟩ rfl rfl (fun av x => by kernel_rfl)
def zc5 (tree : List GNode) (data : List Int) (e : GAsk) (ans : Int) (x1 : (List GNode)) : Option ((List GNode) × Bool) := (z86 tree data).bind fun x20 => (if decide (x20.2 = (-1)) = true then (gd (([] : List Int).length + data.length ≤ SMALL) (gd (x1.length + [(GNode.mk e (-1) (-1) ans (([] : List Int) ++ data))].length ≤ SMALL) (some ((x1 ++ [(GNode.mk e (-1) (-1) ans (([] : List Int) ++ data))]), true)))) else ((getI tree x20.2).bind fun x24 => ((z1f x24.if_ data).bind fun x25 => (if x25 = true then ((getI x1 x20.2).bind fun x27 => (gd (([] : List Int).length + data.length ≤ SMALL) (gd ((x1.set x20.2.toNat (GNode.mk x27.if_ (tree.length : Int) x27.no x27.ans x27.stone)).length + [(GNode.mk e (-1) (-1) ans (([] : List Int) ++ data))].length ≤ SMALL) (some (((x1.set x20.2.toNat (GNode.mk x27.if_ (tree.length : Int) x27.no x27.ans x27.stone)) ++ [(GNode.mk e (-1) (-1) ans (([] : List Int) ++ data))]), true))))) else ((getI x1 x20.2).bind fun x30 => (gd (([] : List Int).length + data.length ≤ SMALL) (gd ((x1.set x20.2.toNat (GNode.mk x30.if_ x30.yes (tree.length : Int) x30.ans x30.stone)).length + [(GNode.mk e (-1) (-1) ans (([] : List Int) ++ data))].length ≤ SMALL) (some (((x1.set x20.2.toNat (GNode.mk x30.if_ x30.yes (tree.length : Int) x30.ans x30.stone)) ++ [(GNode.mk e (-1) (-1) ans (([] : List Int) ++ data))]), true)))))))))
def z51 (tree : List GNode) (data : List Int) (e : GAsk) (x1 : (List GNode)) (kx0_0 : Option ((List GNode) × Bool)) : Nat → Int → Option ((List GNode) × Bool)
  | 0, _ => none
  | n0 + 1, s0_0 => if decide (s0_0 < (tree.length : Int)) = true then ((getI tree s0_0).bind fun x12 => ((zy3 tree x12.stone data).bind fun x13 => (if x13 = true then ((getI tree s0_0).bind fun x15 => ((z1f e x15.stone).bind fun x16 => (if x16 = true then (some (x1, false)) else (gd (ok64 (s0_0 + 1)) ((z51 tree data e x1 kx0_0 n0) (s0_0 + 1)))))) else (gd (ok64 (s0_0 + 1)) ((z51 tree data e x1 kx0_0 n0) (s0_0 + 1)))))) else (kx0_0)
def z84 (tree : List GNode) (data : List Int) (e : GAsk) (ans : Int) : Option ((List GNode) × Bool) := (zj4 tree).bind fun x1 => ((z9a tree).bind fun x2 => (if x2 = true then ((z2q data).bind fun x4 => (if x4 = true then ((z1f e data).bind fun x6 => (if x6 = true then ((z03 ans 0 2).bind fun x8 => (if x8 = true then (if decide ((tree.length : Int) = 12) = true then (some (x1, false)) else (z51 tree data e x1 (zc5 tree data e ans x1) FUEL 0)) else (some (x1, false)))) else (some (x1, false)))) else (some (x1, false)))) else (some (x1, false))))
def z42 : Con := ⟨187, [.v (.sl (.s .node)) false, .v (.sl .I) false, .v (.s .ask) false, .v .I false], [((.sl (.s .node)), true), (.B, true)], [], fun x => z84 x.1 x.2.1 x.2.2.1 x.2.2.2.1⟩
def wq8 : Fs := ⟨[z4b, z1b, z1a, z4i, z0m, y5i, z2y], [], []⟩
theorem yx4 : wq8.Ok Tryz.prog := (fsK w04 (fsK yd1 (fsK z6x (fsK z7q (fsK z0u (fsK wz8 (fsK y5w fs0)))))))
def yf1 : Tmpl := ⟨[(0, .c (.s (.s .node))), (1, .c (.s .I)), (3, .c .i), (6, .c (.bx 6 0)), (10, .c (.ref 15)), (11, .c .i)], [(6, .boxT (.s .ask)), (15, .arr (.s .node) true)]⟩
def y86 : Tmpl := ⟨[(0, .c (.s (.s .node))), (1, .c (.s .I)), (3, .c .i), (6, .c (.bx 6 0)), (10, .c (.ref 15))], [(6, .boxT (.s .ask)), (15, .arr (.s .node) true)]⟩
def w66 (av : AV) (x : HP z42.ps) (n : Nat) (v : yf1.den) (K : Ks (CR z42)) : Option (CR z42) := z51 v.1.1 v.1.2.1 v.2.1 v.2.2.1 (y86.at none ((v.1.1, v.1.2.1, v.1.2.2.1, (), (), ()), (v.2.1, v.2.2.1, ())) (K (.exit 0))) n v.1.2.2.2.2.2.1
def y9g (av : AV) (x : HP z42.ps) : Hdl (CR z42) := hnd [] yf1 (w66 av x)
theorem w85 : LP z42 Tryz.f187 [0] y9g := lp_ok (W := []) (H := []) (xs := [y86]) yx4 trivial rfl (fun av x v K => by kernel_rfl) (fun av x n v K => by kernel_rfl)
theorem w02 : z42.Ok Tryz.prog := fn_ok (k := z42) (fn := Tryz.f187) (W := []) (H := [y9g]) Tryz.func187 yx4 ⟨w85, trivial⟩ rfl rfl (fun av x => by kernel_rfl)
def z4l (ans : Int) : Option Bool := (z0c ans 0 2).bind fun x1 => (some x1)
def z8z : Con := ⟨121, [.v .I false], [(.B, true)], [], fun x => z4l x.1⟩
def w6s : Fs := ⟨[z26], [], []⟩
theorem w7g : w6s.Ok Tryz.prog := (fsK z2s fs0)
theorem y0e : z8z.Ok Tryz.prog := fn_ok (k := z8z) (fn := Tryz.f121) (W := []) (H := []) Tryz.func121 w7g trivial rfl rfl (fun av x => by kernel_rfl)
def za4 (l0_1 : List GNode) : Option (List GNode) := some l0_1
def z38 (tree : List GNode) (p0_0 : Int) (kx0_0 : List GNode → Option (List GNode)) : Nat → Int → List GNode → Option (List GNode)
  | 0, _, _ => none
  | n0 + 1, s0_0, l0_1 => if decide (s0_0 < p0_0) = true then ((getI tree s0_0).bind fun x2 => ((z0g x2.stone).bind fun x3 => (gd (l0_1.length + [(GNode.mk x2.if_ x2.yes x2.no x2.ans x3)].length ≤ SMALL) (gd (ok64 (s0_0 + 1)) ((z38 tree p0_0 kx0_0 n0) (s0_0 + 1) (l0_1 ++ [(GNode.mk x2.if_ x2.yes x2.no x2.ans x3)])))))) else (kx0_0 l0_1)
def z7c (tree : List GNode) : Option (List GNode) := z38 tree (tree.length : Int) za4 FUEL 0 ([] : List GNode)
def z1i : Con := ⟨183, [.v (.sl (.s .node)) false], [((.sl (.s .node)), true)], [], fun x => z7c x.1⟩
def w1a : Fs := ⟨[z1e], [], []⟩
theorem y33 : w1a.Ok Tryz.prog := (fsK z2n fs0)
def y0l : Tmpl := ⟨[(3, .c (.ref 500003)), (6, .c (.s (.s .node))), (7, .c .i), (8, .c .i)], [(500003, .arr (.s .node) true)]⟩
def zu7 : Tmpl := ⟨[(3, .c (.ref 500003))], [(500003, .arr (.s .node) true)]⟩
def yq7 (av : AV) (x : HP z1i.ps) (n : Nat) (v : y0l.den) (K : Ks (CR z1i)) : Option (CR z1i) := z38 v.1.2.1 v.1.2.2.1 (fun l0_1 => zu7.at none (((), ()), (l0_1, ())) (K (.exit 0))) n v.1.2.2.2.1 v.2.1
def y01 (av : AV) (x : HP z1i.ps) : Hdl (CR z1i) := hnd [.e 3 500003 (.s .node)] y0l (yq7 av x)
theorem ys9 : LP z1i Tryz.f183 [0] y01 := lp_ok (W := []) (H := []) (xs := [zu7]) y33 trivial rfl (fun av x v K => by kernel_rfl) (fun av x n v K => by kernel_rfl)
theorem y3s : z1i.Ok Tryz.prog := fn_ok (k := z1i) (fn := Tryz.f183) (W := []) (H := [y01]) Tryz.func183 y33 ⟨ys9, trivial⟩ rfl rfl (fun av x => by kernel_rfl)
def y75  : Option Bool := some true
def z6e (nets : List GNet) (kx0_0 : Option Bool) : Nat → Int → Option Bool
  | 0, _ => none
  | n0 + 1, s0_0 => if decide (s0_0 < (nets.length : Int)) = true then ((getI nets s0_0).bind fun x4 => ((z3e x4).bind fun x5 => (if x5 = true then (gd (ok64 (s0_0 + 1)) ((z6e nets kx0_0 n0) (s0_0 + 1))) else (some false)))) else (kx0_0)
def zj5 (nets : List GNet) : Option Bool := (z03 (nets.length : Int) 1 3).bind fun x1 => (if x1 = true then (z6e nets y75 FUEL 0) else (some false))
def z4c : Con := ⟨128, [.v (.sl (.s .net)) false], [(.B, true)], [], fun x => zj5 x.1⟩
def ws5 : Fs := ⟨[z0m, z2p], [], []⟩
theorem yx9 : ws5.Ok Tryz.prog := (fsK z0u (fsK zr9 fs0))
def yf8 : Tmpl := ⟨[(0, .c (.s (.s .net))), (3, .c .i)], []⟩
def y8c : Tmpl := ⟨[], []⟩
def w6d (av : AV) (x : HP z4c.ps) (n : Nat) (v : yf8.den) (K : Ks (CR z4c)) : Option (CR z4c) := z6e v.1.1 (y8c.at none ((), ()) (K (.exit 0))) n v.1.2.1
def y9n (av : AV) (x : HP z4c.ps) : Hdl (CR z4c) := hnd [] yf8 (w6d av x)
theorem w8c : LP z4c Tryz.f128 [0] y9n := lp_ok (W := []) (H := []) (xs := [y8c]) yx9 trivial rfl (fun av x v K => by kernel_rfl) (fun av x n v K => by kernel_rfl)
theorem w05 : z4c.Ok Tryz.prog := fn_ok (k := z4c) (fn := Tryz.f128) (W := []) (H := [y9n]) Tryz.func128 yx9 ⟨w8c, trivial⟩ rfl rfl (fun av x => by kernel_rfl)
def zd3 (p0_1 : Int) (l0_1 : List GTask) : Option GNet := some (GNet.mk p0_1 l0_1)
def z3w (n : GNet) (kx0_0 : List GTask → Option GNet) : Nat → Int → List GTask → Option GNet
  | 0, _, _ => none
  | n0 + 1, s0_0, l0_1 => if decide (s0_0 < (n.tasks.length : Int)) = true then ((getI n.tasks s0_0).bind fun x2 => (gd (([] : List Int).length + x2.in_.length ≤ SMALL) (gd (([] : List GFlow).length + x2.out.length ≤ SMALL) (gd (([] : List Int).length + x2.clear.length ≤ SMALL) (gd (l0_1.length + [(GTask.mk x2.join x2.split (([] : List Int) ++ x2.in_) (([] : List GFlow) ++ x2.out) (([] : List Int) ++ x2.clear) x2.role x2.apart x2.all x2.need)].length ≤ SMALL) (gd (ok64 (s0_0 + 1)) ((z3w n kx0_0 n0) (s0_0 + 1) (l0_1 ++ [(GTask.mk x2.join x2.split (([] : List Int) ++ x2.in_) (([] : List GFlow) ++ x2.out) (([] : List Int) ++ x2.clear) x2.role x2.apart x2.all x2.need)])))))))) else (kx0_0 l0_1)
def z8e (n : GNet) : Option GNet := z3w n (zd3 n.places) FUEL 0 ([] : List GTask)
def z1z : Con := ⟨190, [.v (.s .net) false], [((.s .net), true)], [], fun x => z8e x.1⟩
def w4g : Fs := ⟨[], [], []⟩
theorem y68 : w4g.Ok Tryz.prog := fs0
def y1o : Tmpl := ⟨[(1, .c (.bx 1 0)), (2, .c (.bx 2 0)), (3, .c (.bx 3 0)), (4, .c .i)], [(1, .boxT (.s .net)), (2, .box [.i, .nl]), (3, .box [.i, .ref 510301]), (510301, .arr (.s .task) true)]⟩
def y0r : Tmpl := ⟨[(2, .c (.bx 2 0)), (3, .c (.bx 3 0))], [(2, .box [.i, .nl]), (3, .box [.i, .ref 510301]), (510301, .arr (.s .task) true)]⟩
def yv0 (av : AV) (x : HP z1z.ps) (n : Nat) (v : y1o.den) (K : Ks (CR z1z)) : Option (CR z1z) := z3w v.2.1 (fun l0_1 => y0r.at none (((), (), ()), ((v.2.2.1.1, (), ()), (v.2.2.2.1.1, (), ()), l0_1, ())) (K (.exit 0))) n v.1.2.2.2.1 v.2.2.2.2.1
def y0z (av : AV) (x : HP z1z.ps) : Hdl (CR z1z) := hnd [.b 3 1 510301 (.s .task)] y1o (yv0 av x)
theorem yy9 : LP z1z Tryz.f190 [0] y0z := lp_ok (W := []) (H := []) (xs := [y0r]) y68 trivial rfl (fun av x v K => by kernel_rfl) (fun av x n v K => by kernel_rfl)
theorem y77 : z1z.Ok Tryz.prog := fn_ok (k := z1z) (fn := Tryz.f190) (W := []) (H := [y0z]) Tryz.func190 y68 ⟨yy9, trivial⟩ rfl rfl (fun av x => by kernel_rfl)
def zs9 (p0_0 : List Int) (l0_1 : List GNet) : Option GHouse := some (GHouse.mk l0_1 p0_0 [] [])
def z67 (nets : List GNet) (kx0_0 : List GNet → Option GHouse) : Nat → Int → List GNet → Option GHouse
  | 0, _, _ => none
  | n0 + 1, s0_0, l0_1 => if decide (s0_0 < (nets.length : Int)) = true then ((getI nets s0_0).bind fun x7 => ((z8e x7).bind fun x8 => (gd (l0_1.length + [x8].length ≤ SMALL) (gd (ok64 (s0_0 + 1)) ((z67 nets kx0_0 n0) (s0_0 + 1) (l0_1 ++ [x8])))))) else (kx0_0 l0_1)
def zx3 (nets : List GNet) (people : List Int) : Option GHouse := (zj5 nets).bind fun x1 => (if x1 = true then ((z99 people).bind fun x3 => (if x3 = true then (gd (([] : List Int).length + people.length ≤ SMALL) (z67 nets (zs9 (([] : List Int) ++ people)) FUEL 0 ([] : List GNet))) else (some (GHouse.mk [] [] [] [])))) else (some (GHouse.mk [] [] [] [])))
def z5b : Con := ⟨195, [.v (.sl (.s .net)) false, .v (.sl .I) false], [((.s .house), true)], [], fun x => zx3 x.1 x.2.1⟩
def wq3 : Fs := ⟨[z4c, z3b, z1z], [], []⟩
theorem yx0 : wq3.Ok Tryz.prog := (fsK w05 (fsK y1j (fsK y77 fs0)))
def ye6 : Tmpl := ⟨[(0, .c (.s (.s .net))), (4, .c (.bx 4 0)), (5, .c (.bx 5 0)), (6, .c .i)], [(4, .box [.nl, .nl, .nl, .nl]), (5, .box [.ref 510500, .ref 18, .nl, .nl]), (510500, .arr (.s .net) true), (18, .arr .I true)]⟩
def y81 : Tmpl := ⟨[(4, .c (.bx 4 0)), (5, .c (.bx 5 0))], [(4, .box [.nl, .nl, .nl, .nl]), (5, .box [.ref 510500, .ref 18, .nl, .nl]), (510500, .arr (.s .net) true), (18, .arr .I true)]⟩
def w61 (av : AV) (x : HP z5b.ps) (n : Nat) (v : ye6.den) (K : Ks (CR z5b)) : Option (CR z5b) := z67 v.1.1 (fun l0_1 => y81.at none (((), (), ()), (((), (), (), (), ()), ((), (), (), (), ()), l0_1, v.2.2.2.2.1, ())) (K (.exit 0))) n v.1.2.2.2.1 v.2.2.2.1
def y9b (av : AV) (x : HP z5b.ps) : Hdl (CR z5b) := hnd [.b 5 0 510500 (.s .net)] ye6 (w61 av x)
theorem w80 : LP z5b Tryz.f195 [0] y9b := lp_ok (W := []) (H := []) (xs := [y81]) yx0 trivial rfl (fun av x v K => by kernel_rfl) (fun av x n v K => by kernel_rfl)
theorem wy8 : z5b.Ok Tryz.prog := fn_ok (k := z5b) (fn := Tryz.f195) (W := []) (H := [y9b]) Tryz.func195 yx0 ⟨w80, trivial⟩ rfl rfl (fun av x => by kernel_rfl)
def ya8  : Option Bool := some true
def z7i (h : GHouse) (kx0_0 : Option Bool) : Nat → Int → Option Bool
  | 0, _ => none
  | n0 + 1, s0_0 => if decide (s0_0 < (h.runs.length : Int)) = true then ((getI h.runs s0_0).bind fun x9 => (gd (ok64 ((h.nets.length : Int) - 1)) ((z03 x9.net 0 ((h.nets.length : Int) - 1)).bind fun x11 => (if x11 = true then ((getI h.runs s0_0).bind fun x13 => ((getI h.nets x13.net).bind fun x14 => ((getI h.runs s0_0).bind fun x15 => ((z97 x14 x15.case).bind fun x16 => (if x16 = true then (gd (ok64 (s0_0 + 1)) ((z7i h kx0_0 n0) (s0_0 + 1))) else (some false)))))) else (some false))))) else (kx0_0)
def zr4 (h : GHouse) : Option Bool := (zj5 h.nets).bind fun x1 => (if x1 = true then ((z99 h.people).bind fun x3 => (if x3 = true then ((z9a h.tree).bind fun x5 => (if x5 = true then (if decide (5 < (h.runs.length : Int)) = true then (some false) else (z7i h ya8 FUEL 0)) else (some false))) else (some false))) else (some false))
def z5k : Con := ⟨54, [.v (.s .house) false], [(.B, true)], [], fun x => zr4 x.1⟩
def v1s : Fs := ⟨[z4c, z3b, z1b, z0m, z39], [], []⟩
theorem w2u : v1s.Ok Tryz.prog := (fsK w05 (fsK y1j (fsK yd1 (fsK z0u (fsK y1h fs0)))))
def yp6 : Tmpl := ⟨[(1, .c (.bx 1 0)), (3, .c .i)], [(1, .boxT (.s .house))]⟩
def yh0 : Tmpl := ⟨[], []⟩
def w9t (av : AV) (x : HP z5k.ps) (n : Nat) (v : yp6.den) (K : Ks (CR z5k)) : Option (CR z5k) := z7i v.2.1 (yh0.at none ((), ()) (K (.exit 0))) n v.1.2.1
def yn2 (av : AV) (x : HP z5k.ps) : Hdl (CR z5k) := hnd [] yp6 (w9t av x)
theorem wg1 : LP z5k Tryz.f54 [0] yn2 := lp_ok (W := []) (H := []) (xs := [yh0]) w2u trivial rfl (fun av x v K => by kernel_rfl) (fun av x n v K => by kernel_rfl)
theorem w3b : z5k.Ok Tryz.prog := fn_ok (k := z5k) (fn := Tryz.f54) (W := []) (H := [yn2]) Tryz.func54 w2u ⟨wg1, trivial⟩ rfl rfl (fun av x => by kernel_rfl)
def zt2 (x2 : (List GNode)) (p0_0 : List Int) (l0_1 : List GNet) (l1_1 : List GRun) : Option GHouse := some (GHouse.mk l0_1 p0_0 x2 l1_1)
def z6d (h : GHouse) (kx1_0 : List GRun → Option GHouse) : Nat → Int → List GRun → Option GHouse
  | 0, _, _ => none
  | n1 + 1, s1_0, l1_1 => if decide (s1_0 < (h.runs.length : Int)) = true then ((getI h.runs s1_0).bind fun x9 => ((getI h.runs s1_0).bind fun x10 => ((z6u x10.case).bind fun x11 => (gd (l1_1.length + [(GRun.mk x9.net x11)].length ≤ SMALL) (gd (ok64 (s1_0 + 1)) ((z6d h kx1_0 n1) (s1_0 + 1) (l1_1 ++ [(GRun.mk x9.net x11)]))))))) else (kx1_0 l1_1)
def zc7 (h : GHouse) (x2 : (List GNode)) (p0_0 : List Int) (l0_1 : List GNet) : Option GHouse := z6d h (zt2 x2 p0_0 l0_1) FUEL 0 ([] : List GRun)
def z6c (h : GHouse) (kx0_0 : List GNet → Option GHouse) : Nat → Int → List GNet → Option GHouse
  | 0, _, _ => none
  | n0 + 1, s0_0, l0_1 => if decide (s0_0 < (h.nets.length : Int)) = true then ((getI h.nets s0_0).bind fun x4 => ((z8e x4).bind fun x5 => (gd (l0_1.length + [x5].length ≤ SMALL) (gd (ok64 (s0_0 + 1)) ((z6c h kx0_0 n0) (s0_0 + 1) (l0_1 ++ [x5])))))) else (kx0_0 l0_1)
def z6v (h : GHouse) : Option GHouse := gd (([] : List Int).length + h.people.length ≤ SMALL) ((zj4 h.tree).bind fun x2 => (z6c h (zc7 h x2 (([] : List Int) ++ h.people)) FUEL 0 ([] : List GNet)))
def z0v : Con := ⟨135, [.v (.s .house) false], [((.s .house), true)], [], fun x => z6v x.1⟩
def ws3 : Fs := ⟨[z4b, z1z, z9i], [], []⟩
theorem y52 : ws3.Ok Tryz.prog := (fsK w04 (fsK y77 (fsK zy8 fs0)))
def yf6 : Tmpl := ⟨[(1, .c (.bx 1 0)), (2, .c (.bx 2 0)), (3, .c (.bx 3 0)), (4, .c .i)], [(1, .boxT (.s .house)), (2, .box [.nl, .nl, .nl, .nl]), (3, .box [.ref 510300, .ref 9, .ref 12, .nl]), (510300, .arr (.s .net) true), (9, .arr .I true), (12, .arr (.s .node) true)]⟩
def y8a : Tmpl := ⟨[(1, .c (.bx 1 0)), (2, .c (.bx 2 0)), (3, .c (.bx 3 0))], [(1, .boxT (.s .house)), (2, .box [.nl, .nl, .nl, .nl]), (3, .box [.ref 510300, .ref 9, .ref 12, .nl]), (510300, .arr (.s .net) true), (9, .arr .I true), (12, .arr (.s .node) true)]⟩
def w6b (av : AV) (x : HP z0v.ps) (n : Nat) (v : yf6.den) (K : Ks (CR z0v)) : Option (CR z0v) := z6c v.2.1 (fun l0_1 => y8a.at none (((), (), (), ()), (v.2.1, ((), (), (), (), ()), ((), (), (), (), ()), l0_1, v.2.2.2.2.2.1, v.2.2.2.2.2.2.1, ())) (K (.exit 0))) n v.1.2.2.2.1 v.2.2.2.2.1
def y9l (av : AV) (x : HP z0v.ps) : Hdl (CR z0v) := hnd [.b 3 0 510300 (.s .net)] yf6 (w6b av x)
theorem w8a : LP z0v Tryz.f135 [0] y9l := lp_ok (W := []) (H := []) (xs := [y8a]) y52 trivial rfl (fun av x v K => by kernel_rfl) (fun av x n v K => by kernel_rfl)
def yf7 : Tmpl := ⟨[(1, .c (.bx 1 0)), (2, .c (.bx 2 0)), (3, .c (.bx 3 0)), (5, .c .i)], [(1, .boxT (.s .house)), (2, .box [.nl, .nl, .nl, .nl]), (3, .box [.ref 510300, .ref 9, .ref 12, .ref 510303]), (510300, .arr (.s .net) true), (9, .arr .I true), (12, .arr (.s .node) true), (510303, .arr (.s .run) true)]⟩
def y8b : Tmpl := ⟨[(2, .c (.bx 2 0)), (3, .c (.bx 3 0))], [(2, .box [.nl, .nl, .nl, .nl]), (3, .box [.ref 510300, .ref 9, .ref 12, .ref 510303]), (510300, .arr (.s .net) true), (9, .arr .I true), (12, .arr (.s .node) true), (510303, .arr (.s .run) true)]⟩
def w6c (av : AV) (x : HP z0v.ps) (n : Nat) (v : yf7.den) (K : Ks (CR z0v)) : Option (CR z0v) := z6d v.2.1 (fun l1_1 => y8b.at none (((), (), ()), (((), (), (), (), ()), ((), (), (), (), ()), v.2.2.2.2.1, v.2.2.2.2.2.1, v.2.2.2.2.2.2.1, l1_1, ())) (K (.exit 2))) n v.1.2.2.2.1 v.2.2.2.2.2.2.2.1
def y9m (av : AV) (x : HP z0v.ps) : Hdl (CR z0v) := hnd [.b 3 3 510303 (.s .run)] yf7 (w6c av x)
theorem w8b : LP z0v Tryz.f135 [1] y9m := lp_ok (W := []) (H := []) (xs := [y8b]) y52 trivial rfl (fun av x v K => by kernel_rfl) (fun av x n v K => by kernel_rfl)
theorem y5x : z0v.Ok Tryz.prog := fn_ok (k := z0v) (fn := Tryz.f135) (W := []) (H := [y9l, y9m]) Tryz.func135 y52 ⟨w8a, w8b, trivial⟩ rfl rfl (fun av x => by kernel_rfl)
def zy5 (r : GReq) : Option GReq := if decide (r.kind = 1) = true then (some (GReq.mk r.kind 0 0 0 0 0 r.data (GAsk.mk 0 0 0) 0)) else (if decide (r.kind = 2) = true then (some (GReq.mk r.kind r.who r.case r.task 0 0 [] (GAsk.mk 0 0 0) 0)) else (if decide (r.kind = 3) = true then (some (GReq.mk r.kind 0 r.case r.task r.var r.num [] (GAsk.mk 0 0 0) 0)) else (if decide (r.kind = 4) = true then (some (GReq.mk r.kind 0 r.case 0 0 0 [] (GAsk.mk 0 0 0) 0)) else (if decide (r.kind = 5) = true then (some (GReq.mk r.kind 0 0 0 0 0 r.data r.if_ r.ans)) else (some (GReq.mk r.kind 0 0 0 0 0 [] (GAsk.mk 0 0 0) 0))))))
def y5k : Con := ⟨137, [.v (.s .req) false], [((.s .req), false)], [], fun x => zy5 x.1⟩
def ws4 : Fs := ⟨[], [], []⟩
theorem wv1 : ws4.Ok Tryz.prog := fs0
theorem v00 : y5k.Ok Tryz.prog := fn_ok (k := y5k) (fn := Tryz.f137) (W := []) (H := []) Tryz.func137 wv1 trivial rfl rfl (fun av x => by kernel_rfl)
def z53 (a : GReq) (b : GReq) : Option Bool := if decide (a.kind = b.kind) = true then (if decide (a.who = b.who) = true then (if decide (a.case = b.case) = true then (if decide (a.task = b.task) = true then (if decide (a.var = b.var) = true then (if decide (a.num = b.num) = true then (if decide ([a.if_.op, a.if_.var, a.if_.k] = [b.if_.op, b.if_.var, b.if_.k]) = true then (some (decide (a.ans = b.ans))) else (some false)) else (some false)) else (some false)) else (some false)) else (some false)) else (some false)) else (some false)
def z3g (a : GReq) (b : GReq) (kx0_0 : Option Bool) : Nat → Int → Option Bool
  | 0, _ => none
  | n0 + 1, s0_0 => if decide (s0_0 < (a.data.length : Int)) = true then ((getI a.data s0_0).bind fun x3 => ((getI b.data s0_0).bind fun x4 => (if decide (x3 = x4) = true then (gd (ok64 (s0_0 + 1)) ((z3g a b kx0_0 n0) (s0_0 + 1))) else (some false)))) else (kx0_0)
def zy6 (a : GReq) (b : GReq) : Option Bool := if decide ((a.data.length : Int) = (b.data.length : Int)) = true then (z3g a b (z53 a b) FUEL 0) else (some false)
def z5g : Con := ⟨136, [.v (.s .req) false, .v (.s .req) false], [(.B, true)], [], fun x => zy6 x.1 x.2.1⟩
def ws6 : Fs := ⟨[], [], []⟩
theorem yy0 : ws6.Ok Tryz.prog := fs0
def yf9 : Tmpl := ⟨[(2, .c (.bx 2 0)), (3, .c (.bx 3 0)), (5, .c .i)], [(2, .boxT (.s .req)), (3, .boxT (.s .req))]⟩
def y8d : Tmpl := ⟨[(2, .c (.bx 2 0)), (3, .c (.bx 3 0))], [(2, .boxT (.s .req)), (3, .boxT (.s .req))]⟩
def w6e (av : AV) (x : HP z5g.ps) (n : Nat) (v : yf9.den) (K : Ks (CR z5g)) : Option (CR z5g) := z3g v.2.1 v.2.2.1 (y8d.at none (((), (), ()), (v.2.1, v.2.2.1, ())) (K (.exit 0))) n v.1.2.2.1
def y9o (av : AV) (x : HP z5g.ps) : Hdl (CR z5g) := hnd [] yf9 (w6e av x)
theorem w8d : LP z5g Tryz.f136 [0] y9o := lp_ok (W := []) (H := []) (xs := [y8d]) yy0 trivial rfl (fun av x v K => by kernel_rfl) (fun av x n v K => by kernel_rfl)
theorem v01 : z5g.Ok Tryz.prog := fn_ok (k := z5g) (fn := Tryz.f136) (W := []) (H := [y9o]) Tryz.func136 yy0 ⟨w8d, trivial⟩ rfl rfl (fun av x => by kernel_rfl)
def z5x (r : GReq) : Option Bool := (z03 r.kind 1 5).bind fun x1 => (if x1 = true then ((zy5 r).bind fun x3 => ((zy6 r x3).bind fun x4 => (if x4 = true then ((z03 r.who 0 4).bind fun x6 => (if x6 = true then ((z03 r.case 0 4).bind fun x8 => (if x8 = true then ((z03 r.task 0 5).bind fun x10 => (if x10 = true then ((z03 r.var (-1) 2).bind fun x12 => (if x12 = true then ((z03 r.num (-99) 99).bind fun x14 => (if x14 = true then ((z6q r.if_).bind fun x16 => (if x16 = true then ((z03 r.ans 0 2).bind fun x18 => (if x18 = true then (if decide (r.kind = 1) = true then ((z2q r.data).bind fun x21 => (some (true == x21))) else ((z2q r.data).bind fun x22 => (some ((decide (r.kind = 5)) == x22)))) else (some false))) else (some false))) else (some false))) else (some false))) else (some false))) else (some false))) else (some false))) else (some false)))) else (some false))
def z75 : Con := ⟨63, [.v (.s .req) false], [(.B, true)], [], fun x => z5x x.1⟩
def w6x : Fs := ⟨[z0m, y5k, z5g, z90, z1a], [], []⟩
theorem w7j : w6x.Ok Tryz.prog := (fsK z0u (fsK v00 (fsK v01 (fsK zr8 (fsK z6x fs0)))))
theorem zj8 : z75.Ok Tryz.prog := fn_ok (k := z75) (fn := Tryz.f63) (W := []) (H := []) Tryz.func63 w7j trivial rfl rfl (fun av x => by kernel_rfl)
def zy4 (h : GHouse) (r : GReq) : Option (GHouse × Int) := if decide ((h.runs.length : Int) ≤ r.case) = true then (some (h, 2)) else ((getI h.runs r.case).bind fun x2 => ((getI h.nets x2.net).bind fun x3 => (if decide (r.kind = 2) = true then ((z7g x3 h.people x2.case r.task r.who).bind fun x5 => (if x5.2 = true then ((getI h.runs r.case).bind fun x7 => (some ((GHouse.mk h.nets h.people h.tree (h.runs.set r.case.toNat (GRun.mk x7.net x5.1))), 1))) else (some (h, 3)))) else (if decide (r.kind = 3) = true then ((zb3 x3 x2.case r.task r.var r.num).bind fun x9 => (if x9.2 = true then ((getI h.runs r.case).bind fun x11 => (some ((GHouse.mk h.nets h.people h.tree (h.runs.set r.case.toNat (GRun.mk x11.net x9.1))), 1))) else (some (h, 3)))) else ((zo8 x3 x2.case).bind fun x12 => (if x12.2 = true then ((getI h.runs r.case).bind fun x14 => (some ((GHouse.mk h.nets h.people h.tree (h.runs.set r.case.toNat (GRun.mk x14.net x12.1))), 1))) else (some (h, 3))))))))
def y5j : Con := ⟨188, [.v (.s .house) true, .v (.s .req) false], [((.s .house), true), (.I, true)], [], fun x => zy4 x.1 x.2.1⟩
def ws2 : Fs := ⟨[zg8, zo4, y29], [], []⟩
theorem wv0 : ws2.Ok Tryz.prog := (fsK yd0 (fsK yo4 (fsK wi3 fs0)))
theorem wz9 : y5j.Ok Tryz.prog := fn_ok (k := y5j) (fn := Tryz.f188) (W := []) (H := []) Tryz.func188 wv0 trivial rfl rfl (fun av x => by kernel_rfl)
def zn8 (h : GHouse) (r : GReq) : Option (GHouse × Int) := if decide (r.kind = 1) = true then (if decide ((h.runs.length : Int) = 5) = true then (some (h, 4)) else ((zx7 h.tree r.data).bind fun x3 => (if decide ((h.nets.length : Int) ≤ x3) = true then ((getI h.nets 0).bind fun x5 => ((z9p x5 r.data).bind fun x6 => (gd (h.runs.length + [(GRun.mk 0 x6)].length ≤ SMALL) (some ((GHouse.mk h.nets h.people h.tree (h.runs ++ [(GRun.mk 0 x6)])), 1))))) else ((getI h.nets x3).bind fun x8 => ((z9p x8 r.data).bind fun x9 => (gd (h.runs.length + [(GRun.mk x3 x9)].length ≤ SMALL) (some ((GHouse.mk h.nets h.people h.tree (h.runs ++ [(GRun.mk x3 x9)])), 1)))))))) else (if decide (r.kind = 5) = true then ((z84 h.tree r.data r.if_ r.ans).bind fun x12 => (if x12.2 = true then (some ((GHouse.mk h.nets h.people x12.1 h.runs), 1)) else (some (h, 3)))) else ((zy4 h r).bind fun x14 => (some (x14.1, x14.2))))
def y06 : Con := ⟨134, [.v (.s .house) true, .v (.s .req) false], [((.s .house), true), (.I, true)], [], fun x => zn8 x.1 x.2.1⟩
def v4z : Fs := ⟨[y5d, zv6, z42, y5j], [], []⟩
theorem v53 : v4z.Ok Tryz.prog := (fsK wz2 (fsK yz8 (fsK w02 (fsK wz9 fs0))))
theorem yu1 : y06.Ok Tryz.prog := fn_ok (k := y06) (fn := Tryz.f134) (W := []) (H := []) Tryz.func134 v53 trivial rfl rfl (fun av x => by kernel_rfl)
def z7x (r : GReq) : Option GReq := (z0g r.data).bind fun x1 => (some (GReq.mk r.kind r.who r.case r.task r.var r.num x1 r.if_ r.ans))
def zd1 : Con := ⟨149, [.v (.s .req) false], [((.s .req), true)], [], fun x => z7x x.1⟩
def yr3 : Fs := ⟨[z1e], [], []⟩
theorem ys0 : yr3.Ok Tryz.prog := (fsK z2n fs0)
theorem yt7 : zd1.Ok Tryz.prog := fn_ok (k := zd1) (fn := Tryz.f149) (W := []) (H := []) Tryz.func149 ys0 trivial rfl rfl (fun av x => by kernel_rfl)
def z78 (x1 : (List Int)) (x2 : (List GNode)) (l0_1 : List GNet) (l1_1 : List GRun) : Option GHouse := some (GHouse.mk l0_1 x1 x2 l1_1)
def z1q (p1_0 : List GRun) (p1_1 : Int) (kx1_0 : List GRun → Option GHouse) : Nat → Int → List GRun → Option GHouse
  | 0, _, _ => none
  | n1 + 1, s1_0, l1_1 => if decide (s1_0 < p1_1) = true then ((getI p1_0 s1_0).bind fun x9 => ((z08 x9.case).bind fun x10 => (gd (l1_1.length + [(GRun.mk x9.net x10)].length ≤ SMALL) (gd (ok64 (s1_0 + 1)) ((z1q p1_0 p1_1 kx1_0 n1) (s1_0 + 1) (l1_1 ++ [(GRun.mk x9.net x10)])))))) else (kx1_0 l1_1)
def z4p (h : GHouse) (x1 : (List Int)) (x2 : (List GNode)) (l0_1 : List GNet) : Option GHouse := z1q h.runs (h.runs.length : Int) (z78 x1 x2 l0_1) FUEL 0 ([] : List GRun)
def z1p (p0_0 : List GNet) (p0_1 : Int) (kx0_0 : List GNet → Option GHouse) : Nat → Int → List GNet → Option GHouse
  | 0, _, _ => none
  | n0 + 1, s0_0, l0_1 => if decide (s0_0 < p0_1) = true then ((getI p0_0 s0_0).bind fun x4 => ((z7z x4).bind fun x5 => (gd (l0_1.length + [x5].length ≤ SMALL) (gd (ok64 (s0_0 + 1)) ((z1p p0_0 p0_1 kx0_0 n0) (s0_0 + 1) (l0_1 ++ [x5])))))) else (kx0_0 l0_1)
def z0w (h : GHouse) : Option GHouse := (z0g h.people).bind fun x1 => ((z7c h.tree).bind fun x2 => (z1p h.nets (h.nets.length : Int) (z4p h x1 x2) FUEL 0 ([] : List GNet)))
def z09 : Con := ⟨132, [.v (.s .house) false], [((.s .house), true)], [], fun x => z0w x.1⟩
def y8o : Fs := ⟨[z1e, z1i, z1c, z34], [], []⟩
theorem z8v : y8o.Ok Tryz.prog := (fsK z2n (fsK y3s (fsK yt9 (fsK z74 fs0))))
def zk4 : Tmpl := ⟨[(1, .c (.bx 1 0)), (2, .c (.bx 2 0)), (3, .c (.bx 3 0)), (16, .c (.s (.s .net))), (17, .c .i), (18, .c .i)], [(1, .boxT (.s .house)), (2, .box [.nl, .nl, .nl, .nl]), (3, .box [.ref 510300, .ref 10, .ref 13, .nl]), (510300, .arr (.s .net) true), (10, .arr .I true), (13, .arr (.s .node) true)]⟩
def ze6 : Tmpl := ⟨[(1, .c (.bx 1 0)), (2, .c (.bx 2 0)), (3, .c (.bx 3 0))], [(1, .boxT (.s .house)), (2, .box [.nl, .nl, .nl, .nl]), (3, .box [.ref 510300, .ref 10, .ref 13, .nl]), (510300, .arr (.s .net) true), (10, .arr .I true), (13, .arr (.s .node) true)]⟩
def y4r (av : AV) (x : HP z09.ps) (n : Nat) (v : zk4.den) (K : Ks (CR z09)) : Option (CR z09) := z1p v.1.2.2.2.1 v.1.2.2.2.2.1 (fun l0_1 => ze6.at none (((), (), (), ()), (v.2.1, ((), (), (), (), ()), ((), (), (), (), ()), l0_1, v.2.2.2.2.2.1, v.2.2.2.2.2.2.1, ())) (K (.exit 0))) n v.1.2.2.2.2.2.1 v.2.2.2.2.1
def zf5 (av : AV) (x : HP z09.ps) : Hdl (CR z09) := hnd [.b 3 0 510300 (.s .net)] zk4 (y4r av x)
theorem y5l : LP z09 Tryz.f132 [0] zf5 := lp_ok (W := []) (H := []) (xs := [ze6]) z8v trivial rfl (fun av x v K => by kernel_rfl) (fun av x n v K => by kernel_rfl)
def zk5 : Tmpl := ⟨[(2, .c (.bx 2 0)), (3, .c (.bx 3 0)), (31, .c (.s (.s .run))), (32, .c .i), (33, .c .i)], [(2, .box [.nl, .nl, .nl, .nl]), (3, .box [.ref 510300, .ref 10, .ref 13, .ref 510303]), (510300, .arr (.s .net) true), (10, .arr .I true), (13, .arr (.s .node) true), (510303, .arr (.s .run) true)]⟩
def ze7 : Tmpl := ⟨[(2, .c (.bx 2 0)), (3, .c (.bx 3 0))], [(2, .box [.nl, .nl, .nl, .nl]), (3, .box [.ref 510300, .ref 10, .ref 13, .ref 510303]), (510300, .arr (.s .net) true), (10, .arr .I true), (13, .arr (.s .node) true), (510303, .arr (.s .run) true)]⟩
def y4s (av : AV) (x : HP z09.ps) (n : Nat) (v : zk5.den) (K : Ks (CR z09)) : Option (CR z09) := z1q v.1.2.2.1 v.1.2.2.2.1 (fun l1_1 => ze7.at none (((), (), ()), (((), (), (), (), ()), ((), (), (), (), ()), v.2.2.2.1, v.2.2.2.2.1, v.2.2.2.2.2.1, l1_1, ())) (K (.exit 2))) n v.1.2.2.2.2.1 v.2.2.2.2.2.2.1
def zf6 (av : AV) (x : HP z09.ps) : Hdl (CR z09) := hnd [.b 3 3 510303 (.s .run)] zk5 (y4s av x)
theorem y5m : LP z09 Tryz.f132 [1] zf6 := lp_ok (W := []) (H := []) (xs := [ze7]) z8v trivial rfl (fun av x v K => by kernel_rfl) (fun av x n v K => by kernel_rfl)
theorem zr6 : z09.Ok Tryz.prog := fn_ok (k := z09) (fn := Tryz.f132) (W := []) (H := [zf5, zf6]) Tryz.func132 z8v ⟨y5l, y5m, trivial⟩ rfl rfl (fun av x => by kernel_rfl)
def ya9  : Option Bool := some true
def z7j (log : List GReq) (kx0_0 : Option Bool) : Nat → Int → Option Bool
  | 0, _ => none
  | n0 + 1, s0_0 => if decide (s0_0 < (log.length : Int)) = true then ((getI log s0_0).bind fun x3 => ((z5x x3).bind fun x4 => (if x4 = true then (gd (ok64 (s0_0 + 1)) ((z7j log kx0_0 n0) (s0_0 + 1))) else (some false)))) else (kx0_0)
def zr5 (log : List GReq) : Option Bool := if decide (150 < (log.length : Int)) = true then (some false) else (z7j log ya9 FUEL 0)
def z5l : Con := ⟨77, [.v (.sl (.s .req)) false], [(.B, true)], [], fun x => zr5 x.1⟩
def v1u : Fs := ⟨[z75], [], []⟩
theorem w2v : v1u.Ok Tryz.prog := (fsK zj8 fs0)
def yp7 : Tmpl := ⟨[(0, .c (.s (.s .req))), (3, .c .i)], []⟩
def yh1 : Tmpl := ⟨[], []⟩
def w9u (av : AV) (x : HP z5l.ps) (n : Nat) (v : yp7.den) (K : Ks (CR z5l)) : Option (CR z5l) := z7j v.1.1 (yh1.at none ((), ()) (K (.exit 0))) n v.1.2.1
def yn3 (av : AV) (x : HP z5l.ps) : Hdl (CR z5l) := hnd [] yp7 (w9u av x)
theorem wg2 : LP z5l Tryz.f77 [0] yn3 := lp_ok (W := []) (H := []) (xs := [yh1]) w2v trivial rfl (fun av x v K => by kernel_rfl) (fun av x n v K => by kernel_rfl)
theorem w3c : z5l.Ok Tryz.prog := fn_ok (k := z5l) (fn := Tryz.f77) (W := []) (H := [yn3]) Tryz.func77 w2v ⟨wg2, trivial⟩ rfl rfl (fun av x => by kernel_rfl)
def zx8 (r : GReq) : Option GReq := gd (([] : List Int).length + r.data.length ≤ SMALL) (some (GReq.mk r.kind r.who r.case r.task r.var r.num (([] : List Int) ++ r.data) r.if_ r.ans))
def y5e : Con := ⟨150, [.v (.s .req) false], [((.s .req), true)], [], fun x => zx8 x.1⟩
def wr0 : Fs := ⟨[], [], []⟩
theorem wu2 : wr0.Ok Tryz.prog := fs0
theorem wz3 : y5e.Ok Tryz.prog := fn_ok (k := y5e) (fn := Tryz.f150) (W := []) (H := []) Tryz.func150 wu2 trivial rfl rfl (fun av x => by kernel_rfl)
def y6x (l0_1 : List Int) (l0_2 : List GReq) (l0_3 : List GNode) (l0_4 : List GNet) (l0_5 : List GRun) : Option (GHouse × (List GReq)) := some ((GHouse.mk l0_4 l0_1 l0_3 l0_5), l0_2)
def z4z (reqs : List GReq) (kx0_0 : List Int → List GReq → List GNode → List GNet → List GRun → Option (GHouse × (List GReq))) : Nat → Int → List Int → List GReq → List GNode → List GNet → List GRun → Option (GHouse × (List GReq))
  | 0, _, _, _, _, _, _ => none
  | n0 + 1, s0_0, l0_1, l0_2, l0_3, l0_4, l0_5 => if decide (s0_0 < (reqs.length : Int)) = true then ((z6v (GHouse.mk l0_4 l0_1 l0_3 l0_5)).bind fun x7 => ((getI reqs s0_0).bind fun x8 => ((zn8 x7 x8).bind fun x9 => (if decide (x9.2 = 1) = true then ((getI reqs s0_0).bind fun x11 => ((zx8 x11).bind fun x12 => (gd (l0_2.length + [x12].length ≤ SMALL) (gd (ok64 (s0_0 + 1)) ((z4z reqs kx0_0 n0) (s0_0 + 1) x9.1.people (l0_2 ++ [x12]) x9.1.tree x9.1.nets x9.1.runs))))) else (gd (ok64 (s0_0 + 1)) ((z4z reqs kx0_0 n0) (s0_0 + 1) l0_1 l0_2 l0_3 l0_4 l0_5)))))) else (kx0_0 l0_1 l0_2 l0_3 l0_4 l0_5)
def zx4 (h : GHouse) (reqs : List GReq) : Option (GHouse × (List GReq)) := (zr4 h).bind fun x1 => (if x1 = true then ((zr5 reqs).bind fun x3 => (if x3 = true then ((z6v h).bind fun x5 => (z4z reqs y6x FUEL 0 x5.people ([] : List GReq) x5.tree x5.nets x5.runs)) else (some ((GHouse.mk [] [] [] []), ([] : List GReq))))) else (some ((GHouse.mk [] [] [] []), ([] : List GReq))))
def z5c : Con := ⟨75, [.v (.s .house) false, .v (.sl (.s .req)) false], [((.s .house), true), ((.sl (.s .req)), true)], [], fun x => zx4 x.1 x.2.1⟩
def wq4 : Fs := ⟨[z5k, z5l, z0v, y06, y5e], [], []⟩
theorem yx1 : wq4.Ok Tryz.prog := (fsK w3b (fsK w3c (fsK y5x (fsK yu1 (fsK wz3 fs0)))))
def ye7 : Tmpl := ⟨[(1, .c (.s (.s .req))), (4, .c (.bx 4 0)), (6, .c (.ref 11)), (7, .c (.bx 7 0)), (8, .c .i)], [(4, .box [.nl, .nl, .nl, .nl]), (7, .box [.ref 23, .ref 10023, .ref 20023, .ref 30023]), (11, .arr (.s .req) true), (23, .arr (.s .net) true), (10023, .arr .I true), (20023, .arr (.s .node) true), (30023, .arr (.s .run) true)]⟩
def y82 : Tmpl := ⟨[(4, .c (.bx 4 0)), (6, .c (.ref 11)), (7, .c (.bx 7 0))], [(4, .box [.nl, .nl, .nl, .nl]), (7, .box [.ref 23, .ref 10023, .ref 20023, .ref 30023]), (11, .arr (.s .req) true), (23, .arr (.s .net) true), (10023, .arr .I true), (20023, .arr (.s .node) true), (30023, .arr (.s .run) true)]⟩
def w62 (av : AV) (x : HP z5c.ps) (n : Nat) (v : ye7.den) (K : Ks (CR z5c)) : Option (CR z5c) := z4z v.1.1 (fun l0_1 l0_2 l0_3 l0_4 l0_5 => y82.at none (((), (), (), ()), (((), (), (), (), ()), ((), (), (), (), ()), l0_2, l0_4, l0_1, l0_3, l0_5, ())) (K (.exit 0))) n v.1.2.2.2.2.1 v.2.2.2.2.2.1 v.2.2.2.1 v.2.2.2.2.2.2.1 v.2.2.2.2.1 v.2.2.2.2.2.2.2.1
def y9c (av : AV) (x : HP z5c.ps) : Hdl (CR z5c) := hnd [] ye7 (w62 av x)
theorem w81 : LP z5c Tryz.f75 [0] y9c := lp_ok (W := []) (H := []) (xs := [y82]) yx1 trivial rfl (fun av x v K => by kernel_rfl) (fun av x n v K => by kernel_rfl)
theorem wy9 : z5c.Ok Tryz.prog := fn_ok (k := z5c) (fn := Tryz.f75) (W := []) (H := [y9c]) Tryz.func75 yx1 ⟨w81, trivial⟩ rfl rfl (fun av x => by kernel_rfl)
def y6u  : Option Int := some (-1)
def z61 (s : List Int) (p : Int → Option Bool) (p0_0 : Int) (kx0_0 : Option Int) : Nat → Int → Option Int
  | 0, _ => none
  | n0 + 1, s0_0 => if decide (s0_0 < p0_0) = true then ((getI s s0_0).bind fun x2 => ((p x2).bind fun x3 => (if x3 = true then (some s0_0) else (gd (ok64 (s0_0 + 1)) ((z61 s p p0_0 kx0_0 n0) (s0_0 + 1)))))) else (kx0_0)
def zv9 (s : List Int) (p : Int → Option Bool) : Option Int := z61 s p (s.length : Int) y6u FUEL 0
def z3y : Con := ⟨175, [.v (.sl .I) false, .fn .I], [(.I, true)], [], fun x => zv9 x.1 x.2.1⟩
def wo2 : Fs := ⟨[], [], []⟩
theorem yw0 : wo2.Ok Tryz.prog := fs0
def yd8 : Tmpl := ⟨[(0, .c (.s .I)), (1, .c .fp), (7, .c .i), (8, .c .i)], []⟩
def y7t : Tmpl := ⟨[], []⟩
def w5t (av : AV) (x : HP z3y.ps) (n : Nat) (v : yd8.den) (K : Ks (CR z3y)) : Option (CR z3y) := z61 v.1.1 x.2.1 v.1.2.2.1 (y7t.at (fpOf z3y.ps x av) ((), ()) (K (.exit 0))) n v.1.2.2.2.1
def y93 (av : AV) (x : HP z3y.ps) : Hdl (CR z3y) := hnd [] yd8 (w5t av x)
theorem w7s : LP z3y Tryz.f175 [0] y93 := lp_ok (W := []) (H := []) (xs := [y7t]) yw0 trivial rfl (fun av x v K => by kernel_rfl) (fun av x n v K => by kernel_rfl)
theorem wx2 : z3y.Ok Tryz.prog := fn_ok (k := z3y) (fn := Tryz.f175) (W := []) (H := [y93]) Tryz.func175 yw0 ⟨w7s, trivial⟩ rfl rfl (fun av x => by kernel_rfl)
def z2j (s : List Int) (p : Int → Option Bool) : Option Bool := (zv9 s p).bind fun x1 => (some (decide (0 ≤ x1)))
def z4x : Con := ⟨118, [.v (.sl .I) false, .fn .I], [(.B, true)], [], fun x => z2j x.1 x.2.1⟩
def w4a : Fs := ⟨[z3y], [], []⟩
theorem w4h : w4a.Ok Tryz.prog := (fsK wx2 fs0)
theorem z8f : z4x.Ok Tryz.prog := fn_ok (k := z4x) (fn := Tryz.f118) (W := []) (H := []) Tryz.func118 w4h trivial rfl rfl (fun av x => by kernel_rfl)
def y09  : Option Int := some (-1)
def z3l (s : List GReq) (p : GReq → Option Bool) (p0_0 : Int) (kx0_0 : Option Int) : Nat → Int → Option Int
  | 0, _ => none
  | n0 + 1, s0_0 => if decide (s0_0 < p0_0) = true then ((getI s s0_0).bind fun x2 => ((p x2).bind fun x3 => (if x3 = true then (some s0_0) else (gd (ok64 (s0_0 + 1)) ((z3l s p p0_0 kx0_0 n0) (s0_0 + 1)))))) else (kx0_0)
def zc3 (s : List GReq) (p : GReq → Option Bool) : Option Int := z3l s p (s.length : Int) y09 FUEL 0
def z1y : Con := ⟨212, [.v (.sl (.s .req)) false, .fn (.s .req)], [(.I, true)], [], fun x => zc3 x.1 x.2.1⟩
def w4c : Fs := ⟨[], [], []⟩
theorem y67 : w4c.Ok Tryz.prog := fs0
def y1m : Tmpl := ⟨[(0, .c (.s (.s .req))), (1, .c .fp), (7, .c .i), (8, .c .i)], []⟩
def y0p : Tmpl := ⟨[], []⟩
def yu8 (av : AV) (x : HP z1y.ps) (n : Nat) (v : y1m.den) (K : Ks (CR z1y)) : Option (CR z1y) := z3l v.1.1 x.2.1 v.1.2.2.1 (y0p.at (fpOf z1y.ps x av) ((), ()) (K (.exit 0))) n v.1.2.2.2.1
def y0x (av : AV) (x : HP z1y.ps) : Hdl (CR z1y) := hnd [] y1m (yu8 av x)
theorem yy7 : LP z1y Tryz.f212 [0] y0x := lp_ok (W := []) (H := []) (xs := [y0p]) y67 trivial rfl (fun av x v K => by kernel_rfl) (fun av x n v K => by kernel_rfl)
theorem w57 : z1y.Ok Tryz.prog := fn_ok (k := z1y) (fn := Tryz.f212) (W := []) (H := [y0x]) Tryz.func212 y67 ⟨yy7, trivial⟩ rfl rfl (fun av x => by kernel_rfl)
def z7w (s : List GReq) (p : GReq → Option Bool) : Option Bool := (zc3 s p).bind fun x1 => (some (decide (0 ≤ x1)))
def zd0 : Con := ⟨193, [.v (.sl (.s .req)) false, .fn (.s .req)], [(.B, true)], [], fun x => z7w x.1 x.2.1⟩
def yr2 : Fs := ⟨[z1y], [], []⟩
theorem yr9 : yr2.Ok Tryz.prog := (fsK w57 fs0)
theorem yt6 : zd0.Ok Tryz.prog := fn_ok (k := zd0) (fn := Tryz.f193) (W := []) (H := []) Tryz.func193 yr9 trivial rfl rfl (fun av x => by kernel_rfl)
def zu0  : Option Int := some (-1)
def z36 (s : List GTask) (p : GTask → Option Bool) (p0_0 : Int) (kx0_0 : Option Int) : Nat → Int → Option Int
  | 0, _ => none
  | n0 + 1, s0_0 => if decide (s0_0 < p0_0) = true then ((getI s s0_0).bind fun x2 => ((p x2).bind fun x3 => (if x3 = true then (some s0_0) else (gd (ok64 (s0_0 + 1)) ((z36 s p p0_0 kx0_0 n0) (s0_0 + 1)))))) else (kx0_0)
def z9k (s : List GTask) (p : GTask → Option Bool) : Option Int := z36 s p (s.length : Int) zu0 FUEL 0
def z1h : Con := ⟨176, [.v (.sl (.s .task)) false, .fn (.s .task)], [(.I, true)], [], fun x => z9k x.1 x.2.1⟩
def w16 : Fs := ⟨[], [], []⟩
theorem y31 : w16.Ok Tryz.prog := fs0
def y0j : Tmpl := ⟨[(0, .c (.s (.s .task))), (1, .c .fp), (7, .c .i), (8, .c .i)], []⟩
def zu5 : Tmpl := ⟨[], []⟩
def yq5 (av : AV) (x : HP z1h.ps) (n : Nat) (v : y0j.den) (K : Ks (CR z1h)) : Option (CR z1h) := z36 v.1.1 x.2.1 v.1.2.2.1 (zu5.at (fpOf z1h.ps x av) ((), ()) (K (.exit 0))) n v.1.2.2.2.1
def zz9 (av : AV) (x : HP z1h.ps) : Hdl (CR z1h) := hnd [] y0j (yq5 av x)
theorem ys7 : LP z1h Tryz.f176 [0] zz9 := lp_ok (W := []) (H := []) (xs := [zu5]) y31 trivial rfl (fun av x v K => by kernel_rfl) (fun av x n v K => by kernel_rfl)
theorem w25 : z1h.Ok Tryz.prog := fn_ok (k := z1h) (fn := Tryz.f176) (W := []) (H := [zz9]) Tryz.func176 y31 ⟨ys7, trivial⟩ rfl rfl (fun av x => by kernel_rfl)
def z71 (s : List GTask) (p : GTask → Option Bool) : Option Bool := (z9k s p).bind fun x1 => (some (decide (0 ≤ x1)))
def za2 : Con := ⟨123, [.v (.sl (.s .task)) false, .fn (.s .task)], [(.B, true)], [], fun x => z71 x.1 x.2.1⟩
def yj6 : Fs := ⟨[z1h], [], []⟩
theorem yk2 : yj6.Ok Tryz.prog := (fsK w25 fs0)
theorem yk7 : za2.Ok Tryz.prog := fn_ok (k := za2) (fn := Tryz.f123) (W := []) (H := []) Tryz.func123 yk2 trivial rfl rfl (fun av x => by kernel_rfl)
def y08  : Option Int := some (-1)
def z3k (s : List GNet) (p : GNet → Option Bool) (p0_0 : Int) (kx0_0 : Option Int) : Nat → Int → Option Int
  | 0, _ => none
  | n0 + 1, s0_0 => if decide (s0_0 < p0_0) = true then ((getI s s0_0).bind fun x2 => ((p x2).bind fun x3 => (if x3 = true then (some s0_0) else (gd (ok64 (s0_0 + 1)) ((z3k s p p0_0 kx0_0 n0) (s0_0 + 1)))))) else (kx0_0)
def zc2 (s : List GNet) (p : GNet → Option Bool) : Option Int := z3k s p (s.length : Int) y08 FUEL 0
def z1x : Con := ⟨180, [.v (.sl (.s .net)) false, .fn (.s .net)], [(.I, true)], [], fun x => zc2 x.1 x.2.1⟩
def w4b : Fs := ⟨[], [], []⟩
theorem y66 : w4b.Ok Tryz.prog := fs0
def y1l : Tmpl := ⟨[(0, .c (.s (.s .net))), (1, .c .fp), (7, .c .i), (8, .c .i)], []⟩
def y0o : Tmpl := ⟨[], []⟩
def yu7 (av : AV) (x : HP z1x.ps) (n : Nat) (v : y1l.den) (K : Ks (CR z1x)) : Option (CR z1x) := z3k v.1.1 x.2.1 v.1.2.2.1 (y0o.at (fpOf z1x.ps x av) ((), ()) (K (.exit 0))) n v.1.2.2.2.1
def y0w (av : AV) (x : HP z1x.ps) : Hdl (CR z1x) := hnd [] y1l (yu7 av x)
theorem yy6 : LP z1x Tryz.f180 [0] y0w := lp_ok (W := []) (H := []) (xs := [y0o]) y66 trivial rfl (fun av x v K => by kernel_rfl) (fun av x n v K => by kernel_rfl)
theorem w56 : z1x.Ok Tryz.prog := fn_ok (k := z1x) (fn := Tryz.f180) (W := []) (H := [y0w]) Tryz.func180 y66 ⟨yy6, trivial⟩ rfl rfl (fun av x => by kernel_rfl)
def z7v (s : List GNet) (p : GNet → Option Bool) : Option Bool := (zc2 s p).bind fun x1 => (some (decide (0 ≤ x1)))
def zc9 : Con := ⟨126, [.v (.sl (.s .net)) false, .fn (.s .net)], [(.B, true)], [], fun x => z7v x.1 x.2.1⟩
def yr1 : Fs := ⟨[z1x], [], []⟩
theorem yr8 : yr1.Ok Tryz.prog := (fsK w56 fs0)
theorem yt5 : zc9.Ok Tryz.prog := fn_ok (k := zc9) (fn := Tryz.f126) (W := []) (H := []) Tryz.func126 yr8 trivial rfl rfl (fun av x => by kernel_rfl)
def zt9  : Option Int := some (-1)
def z35 (s : List GItem) (p : GItem → Option Bool) (p0_0 : Int) (kx0_0 : Option Int) : Nat → Int → Option Int
  | 0, _ => none
  | n0 + 1, s0_0 => if decide (s0_0 < p0_0) = true then ((getI s s0_0).bind fun x2 => ((p x2).bind fun x3 => (if x3 = true then (some s0_0) else (gd (ok64 (s0_0 + 1)) ((z35 s p p0_0 kx0_0 n0) (s0_0 + 1)))))) else (kx0_0)
def z9j (s : List GItem) (p : GItem → Option Bool) : Option Int := z35 s p (s.length : Int) zt9 FUEL 0
def z1g : Con := ⟨169, [.v (.sl (.s .item)) false, .fn (.s .item)], [(.I, true)], [], fun x => z9j x.1 x.2.1⟩
def w15 : Fs := ⟨[], [], []⟩
theorem y30 : w15.Ok Tryz.prog := fs0
def y0i : Tmpl := ⟨[(0, .c (.s (.s .item))), (1, .c .fp), (7, .c .i), (8, .c .i)], []⟩
def zu4 : Tmpl := ⟨[], []⟩
def yq4 (av : AV) (x : HP z1g.ps) (n : Nat) (v : y0i.den) (K : Ks (CR z1g)) : Option (CR z1g) := z35 v.1.1 x.2.1 v.1.2.2.1 (zu4.at (fpOf z1g.ps x av) ((), ()) (K (.exit 0))) n v.1.2.2.2.1
def zz8 (av : AV) (x : HP z1g.ps) : Hdl (CR z1g) := hnd [] y0i (yq4 av x)
theorem ys6 : LP z1g Tryz.f169 [0] zz8 := lp_ok (W := []) (H := []) (xs := [zu4]) y30 trivial rfl (fun av x v K => by kernel_rfl) (fun av x n v K => by kernel_rfl)
theorem w24 : z1g.Ok Tryz.prog := fn_ok (k := z1g) (fn := Tryz.f169) (W := []) (H := [zz8]) Tryz.func169 y30 ⟨ys6, trivial⟩ rfl rfl (fun av x => by kernel_rfl)
def z70 (s : List GItem) (p : GItem → Option Bool) : Option Bool := (z9j s p).bind fun x1 => (some (decide (0 ≤ x1)))
def za1 : Con := ⟨107, [.v (.sl (.s .item)) false, .fn (.s .item)], [(.B, true)], [], fun x => z70 x.1 x.2.1⟩
def yj5 : Fs := ⟨[z1g], [], []⟩
theorem yk1 : yj5.Ok Tryz.prog := (fsK w24 fs0)
theorem yk6 : za1.Ok Tryz.prog := fn_ok (k := za1) (fn := Tryz.f107) (W := []) (H := []) Tryz.func107 yk1 trivial rfl rfl (fun av x => by kernel_rfl)
def w37  : Option Int := some (-1)
def ze0 (s : List Int) (v : Int) (p0_0 : Int) (kx0_0 : Option Int) : Nat → Int → Option Int
  | 0, _ => none
  | n0 + 1, s0_0 => if decide (s0_0 < p0_0) = true then ((getI s s0_0).bind fun x2 => (if decide (v = x2) = true then (some s0_0) else (gd (ok64 (s0_0 + 1)) ((ze0 s v p0_0 kx0_0 n0) (s0_0 + 1))))) else (kx0_0)
def yz2 (s : List Int) (v : Int) : Option Int := ze0 s v (s.length : Int) w37 FUEL 0
def zg4 : Con := ⟨163, [.v (.sl .I) false, .v .I false], [(.I, true)], [], fun x => yz2 x.1 x.2.1⟩
def v9f : Fs := ⟨[], [], []⟩
theorem v26 : v9f.Ok Tryz.prog := fs0
def w9e : Tmpl := ⟨[(0, .c (.s .I)), (1, .c .i), (7, .c .i), (8, .c .i)], []⟩
def w3n : Tmpl := ⟨[], []⟩
def v4o (av : AV) (x : HP zg4.ps) (n : Nat) (v : w9e.den) (K : Ks (CR zg4)) : Option (CR zg4) := ze0 v.1.1 v.1.2.1 v.1.2.2.1 (w3n.at none ((), ()) (K (.exit 0))) n v.1.2.2.2.1
def w7m (av : AV) (x : HP zg4.ps) : Hdl (CR zg4) := hnd [] w9e (v4o av x)
theorem v5e : LP zg4 Tryz.f163 [0] w7m := lp_ok (W := []) (H := []) (xs := [w3n]) v26 trivial rfl (fun av x v K => by kernel_rfl) (fun av x n v K => by kernel_rfl)
theorem vc6 : zg4.Ok Tryz.prog := fn_ok (k := zg4) (fn := Tryz.f163) (W := []) (H := [w7m]) Tryz.func163 v26 ⟨v5e, trivial⟩ rfl rfl (fun av x => by kernel_rfl)
def zd8 (s : List Int) (v : Int) : Option Bool := (yz2 s v).bind fun x1 => (some (decide (0 ≤ x1)))
def zq6 : Con := ⟨92, [.v (.sl .I) false, .v .I false], [(.B, true)], [], fun x => zd8 x.1 x.2.1⟩
def v1a : Fs := ⟨[zg4], [], []⟩
theorem v24 : v1a.Ok Tryz.prog := (fsK vc6 fs0)
theorem yc0 : zq6.Ok Tryz.prog := fn_ok (k := zq6) (fn := Tryz.f92) (W := []) (H := []) Tryz.func92 v24 trivial rfl rfl (fun av x => by kernel_rfl)
def ya1  : Option Int := some (-1)
def z76 (s : List GDid) (v : GDid) (p0_0 : Int) (kx0_0 : Option Int) : Nat → Int → Option Int
  | 0, _ => none
  | n0 + 1, s0_0 => if decide (s0_0 < p0_0) = true then ((getI s s0_0).bind fun x2 => (if decide ([v.task, v.who] = [x2.task, x2.who]) = true then (some s0_0) else (gd (ok64 (s0_0 + 1)) ((z76 s v p0_0 kx0_0 n0) (s0_0 + 1))))) else (kx0_0)
def y13 (s : List GDid) (v : GDid) : Option Int := z76 s v (s.length : Int) ya1 FUEL 0
def z6g : Con := ⟨204, [.v (.sl (.s .did)) false, .v (.s .did) false], [(.I, true)], [], fun x => y13 x.1 x.2.1⟩
def v1b : Fs := ⟨[], [], []⟩
theorem w2m : v1b.Ok Tryz.prog := fs0
def yo6 : Tmpl := ⟨[(0, .c (.s (.s .did))), (3, .c (.bx 3 0)), (7, .c .i), (8, .c .i)], [(3, .boxT (.s .did))]⟩
def yg0 : Tmpl := ⟨[], []⟩
def w9j (av : AV) (x : HP z6g.ps) (n : Nat) (v : yo6.den) (K : Ks (CR z6g)) : Option (CR z6g) := z76 v.1.1 v.2.1 v.1.2.2.1 (yg0.at none ((), ()) (K (.exit 0))) n v.1.2.2.2.1
def ym2 (av : AV) (x : HP z6g.ps) : Hdl (CR z6g) := hnd [] yo6 (w9j av x)
theorem wf1 : LP z6g Tryz.f204 [0] ym2 := lp_ok (W := []) (H := []) (xs := [yg0]) w2m trivial rfl (fun av x v K => by kernel_rfl) (fun av x n v K => by kernel_rfl)
theorem v37 : z6g.Ok Tryz.prog := fn_ok (k := z6g) (fn := Tryz.f204) (W := []) (H := [ym2]) Tryz.func204 w2m ⟨wf1, trivial⟩ rfl rfl (fun av x => by kernel_rfl)
def y07 (s : List GDid) (v : GDid) : Option Bool := (y13 s v).bind fun x1 => (some (decide (0 ≤ x1)))
def y04 : Con := ⟨170, [.v (.sl (.s .did)) false, .v (.s .did) false], [(.B, true)], [], fun x => y07 x.1 x.2.1⟩
def w6n : Fs := ⟨[z6g], [], []⟩
theorem w7b : w6n.Ok Tryz.prog := (fsK v37 fs0)
theorem w8f : y04.Ok Tryz.prog := fn_ok (k := y04) (fn := Tryz.f170) (W := []) (H := []) Tryz.func170 w7b trivial rfl rfl (fun av x => by kernel_rfl)
def w36  : Option Bool := some true
def zd9 (s1 : List Int) (s2 : List Int) (p0_0 : Int) (kx0_0 : Option Bool) : Nat → Int → Option Bool
  | 0, _ => none
  | n0 + 1, s0_0 => if decide (s0_0 < p0_0) = true then ((getI s1 s0_0).bind fun x3 => ((getI s2 s0_0).bind fun x4 => (if decide (x3 = x4) = true then (gd (ok64 (s0_0 + 1)) ((zd9 s1 s2 p0_0 kx0_0 n0) (s0_0 + 1))) else (some false)))) else (kx0_0)
def yz1 (s1 : List Int) (s2 : List Int) : Option Bool := if decide ((s1.length : Int) = (s2.length : Int)) = true then (zd9 s1 s2 (s1.length : Int) w36 FUEL 0) else (some false)
def zg3 : Con := ⟨192, [.v (.sl .I) false, .v (.sl .I) false], [(.B, true)], [], fun x => yz1 x.1 x.2.1⟩
def v9e : Fs := ⟨[], [], []⟩
theorem v25 : v9e.Ok Tryz.prog := fs0
def w9d : Tmpl := ⟨[(0, .c (.s .I)), (1, .c (.s .I)), (12, .c .i), (13, .c .i)], []⟩
def w3m : Tmpl := ⟨[], []⟩
def v4n (av : AV) (x : HP zg3.ps) (n : Nat) (v : w9d.den) (K : Ks (CR zg3)) : Option (CR zg3) := zd9 v.1.1 v.1.2.1 v.1.2.2.1 (w3m.at none ((), ()) (K (.exit 0))) n v.1.2.2.2.1
def w7l (av : AV) (x : HP zg3.ps) : Hdl (CR zg3) := hnd [] w9d (v4n av x)
theorem v5d : LP zg3 Tryz.f192 [0] w7l := lp_ok (W := []) (H := []) (xs := [w3m]) v25 trivial rfl (fun av x v K => by kernel_rfl) (fun av x n v K => by kernel_rfl)
theorem vc5 : zg3.Ok Tryz.prog := fn_ok (k := zg3) (fn := Tryz.f192) (W := []) (H := [w7l]) Tryz.func192 v25 ⟨v5d, trivial⟩ rfl rfl (fun av x => by kernel_rfl)
def y2e (n : Int) : Option Bool := (z5m n).bind fun x1 => (some (!x1))
def y2n : FCon := ⟨162, .I, [], fun z c => y2e z ⟩
def wa4 : Fs := ⟨[z8h], [], []⟩
theorem wd6 : wa4.Ok Tryz.prog := (fsK zq0 fs0)
theorem wh2 : y2n.Ok Tryz.prog := FCon.ok (fn_ok (k := y2n.con) (fn := Tryz.f162) (W := []) (H := []) Tryz.func162 wd6 trivial rfl rfl (fun av x => by kernel_rfl))
def z3c (data : List Int) : Option Bool := if decide ((data.length : Int) = 3) = true then ((z2j data (fun z => y2e z )).bind fun x2 => (some (!x2))) else (some false)
def z5j : Con := ⟨91, [.v (.sl .I) false], [(.B, true)], [], fun x => z3c x.1⟩
def v1d : Fs := ⟨[z4x], [y2n], []⟩
theorem v27 : v1d.Ok Tryz.prog := (fsK z8f (fsF wh2 fs0))
theorem z7s : z5j.Ok Tryz.prog := fn_ok (k := z5j) (fn := Tryz.f91) (W := []) (H := []) Tryz.func91 v27 trivial rfl rfl (fun av x => by kernel_rfl)
def z2i (e : GAsk) (data : List Int) : Option Bool := (z7r e).bind fun x1 => (if x1 = true then ((z3c data).bind fun x3 => (if x3 = true then (if decide (e.op = 1) = true then ((getI data e.var).bind fun x6 => (some (decide (x6 < e.k)))) else (if decide (e.op = 2) = true then ((getI data e.var).bind fun x8 => (some (decide (x8 = e.k)))) else (if decide (e.op = 3) = true then ((getI data e.var).bind fun x10 => (some (decide (e.k < x10)))) else (some true)))) else (some false))) else (some false))
def z4g : Con := ⟨120, [.v (.s .ask) false, .v (.sl .I) false], [(.B, true)], [], fun x => z2i x.1 x.2.1⟩
def w6q : Fs := ⟨[zq7, z5j], [], []⟩
theorem w7e : w6q.Ok Tryz.prog := (fsK yc3 (fsK z7s fs0))
theorem z7p : z4g.Ok Tryz.prog := fn_ok (k := z4g) (fn := Tryz.f120) (W := []) (H := []) Tryz.func120 w7e trivial rfl rfl (fun av x => by kernel_rfl)
def y3g  : Option Bool := some true
def z5q (list : List Int) (places : Int) (without : List Int) (p0_0 : Int) (kx0_0 : Option Bool) : Nat → Int → Int → Option Bool
  | 0, _, _ => none
  | n0 + 1, s0_0, s0_1 => if decide (s0_0 < p0_0) = true then ((getI list s0_0).bind fun x2 => (gd (ok64 (s0_1 + 1)) (gd (ok64 (places - 1)) ((z0c x2 (s0_1 + 1) (places - 1)).bind fun x5 => (if x5 = true then ((zd8 without x2).bind fun x7 => (if x7 = true then (some false) else (gd (ok64 (s0_0 + 1)) ((z5q list places without p0_0 kx0_0 n0) (s0_0 + 1) x2)))) else (some false)))))) else (kx0_0)
def zb2 (list : List Int) (places : Int) (without : List Int) : Option Bool := z5q list places without (list.length : Int) y3g FUEL 0 (-1)
def z40 : Con := ⟨178, [.v (.sl .I) false, .v .I false, .v (.sl .I) false], [(.B, true)], [], fun x => zb2 x.1 x.2.1 x.2.2.1⟩
def wb1 : Fs := ⟨[z26, zq6], [], []⟩
theorem yl1 : wb1.Ok Tryz.prog := (fsK z2s (fsK yc0 fs0))
def y7c : Tmpl := ⟨[(1, .c .i), (2, .c (.s .I)), (7, .c .i), (10, .c (.s .I)), (11, .c .i), (12, .c .i)], []⟩
def y4c : Tmpl := ⟨[], []⟩
def w3s (av : AV) (x : HP z40.ps) (n : Nat) (v : y7c.den) (K : Ks (CR z40)) : Option (CR z40) := z5q v.1.2.2.2.1 v.1.1 v.1.2.1 v.1.2.2.2.2.1 (y4c.at none ((), ()) (K (.exit 0))) n v.1.2.2.2.2.2.1 v.1.2.2.1
def y6d (av : AV) (x : HP z40.ps) : Hdl (CR z40) := hnd [] y7c (w3s av x)
theorem w4p : LP z40 Tryz.f178 [0] y6d := lp_ok (W := []) (H := []) (xs := [y4c]) yl1 trivial rfl (fun av x v K => by kernel_rfl) (fun av x n v K => by kernel_rfl)
theorem wh9 : z40.Ok Tryz.prog := fn_ok (k := z40) (fn := Tryz.f178) (W := []) (H := [y6d]) Tryz.func178 yl1 ⟨w4p, trivial⟩ rfl rfl (fun av x => by kernel_rfl)
def z82 (t : GTask) : Option Bool := (z0c (t.out.length : Int) 1 3).bind fun x21 => (some x21)
def z1d (t : GTask) (places : Int) (p0_0 : List GFlow) (p0_1 : Int) (kx0_0 : Option Bool) : Nat → Int → List Int → Option Bool
  | 0, _, _ => none
  | n0 + 1, s0_0, m0_1 => if decide (s0_0 < p0_1) = true then ((getI p0_0 s0_0).bind fun x2 => (if decide (t.split = 1) = true then (gd (ok64 (places - 1)) ((z0c x2.to 0 (places - 1)).bind fun x5 => (if x5 = true then (if decide (x2.to ∈ m0_1) = true then (some false) else ((z7r x2.if_).bind fun x8 => (if x8 = true then (if ((decide (x2.if_.op = 0)) == true) = true then (gd (ok64 (s0_0 + 1)) ((z1d t places p0_0 p0_1 kx0_0 n0) (s0_0 + 1) (insKey m0_1 x2.to))) else (some false)) else (some false)))) else (some false)))) else (gd (ok64 ((t.out.length : Int) - 1)) (gd (ok64 (places - 1)) ((z0c x2.to 0 (places - 1)).bind fun x14 => (if x14 = true then (if decide (x2.to ∈ m0_1) = true then (some false) else ((z7r x2.if_).bind fun x17 => (if x17 = true then (if ((decide (x2.if_.op = 0)) == (decide (s0_0 = ((t.out.length : Int) - 1)))) = true then (gd (ok64 (s0_0 + 1)) ((z1d t places p0_0 p0_1 kx0_0 n0) (s0_0 + 1) (insKey m0_1 x2.to))) else (some false)) else (some false)))) else (some false))))))) else (kx0_0)
def z73 (t : GTask) (places : Int) : Option Bool := z1d t places t.out (t.out.length : Int) (z82 t) FUEL 0 (insKey ([] : List Int) 0)
def z12 : Con := ⟨179, [.v (.s .task) false, .v .I false], [(.B, true)], [], fun x => z73 x.1 x.2.1⟩
def yk0 : Fs := ⟨[z26, zq7], [], []⟩
theorem zt7 : yk0.Ok Tryz.prog := (fsK z2s (fsK yc3 fs0))
def zl8 : Tmpl := ⟨[(1, .c .i), (2, .c (.bx 2 0)), (5, .c (.bx 9 0)), (12, .c (.s (.s .flow))), (13, .c .i), (14, .c .i)], [(2, .boxT (.s .task)), (9, .mp)]⟩
def zl1 : Tmpl := ⟨[(2, .c (.bx 2 0))], [(2, .boxT (.s .task))]⟩
def y8f (av : AV) (x : HP z12.ps) (n : Nat) (v : zl8.den) (K : Ks (CR z12)) : Option (CR z12) := z1d v.2.1 v.1.1 v.1.2.2.2.1 v.1.2.2.2.2.1 (zl1.at none (((), ()), (v.2.1, ())) (K (.exit 0))) n v.1.2.2.2.2.2.1 v.2.2.1
def zl3 (av : AV) (x : HP z12.ps) : Hdl (CR z12) := hnd [] zl8 (y8f av x)
theorem y8h : LP z12 Tryz.f179 [0] zl3 := lp_ok (W := []) (H := []) (xs := [zl1]) zt7 trivial rfl (fun av x v K => by kernel_rfl) (fun av x n v K => by kernel_rfl)
theorem yk9 : z12.Ok Tryz.prog := fn_ok (k := z12) (fn := Tryz.f179) (W := []) (H := [zl3]) Tryz.func179 zt7 ⟨y8h, trivial⟩ rfl rfl (fun av x => by kernel_rfl)
def z9o (t : GTask) (places : Int) (tasks : Int) : Option Bool := (zw7 t.join).bind fun x1 => (if x1 = true then ((zw7 t.split).bind fun x3 => (if x3 = true then ((z0c (t.in_.length : Int) 1 3).bind fun x5 => (if x5 = true then ((zb2 t.in_ places [1]).bind fun x7 => (if x7 = true then ((z73 t places).bind fun x9 => (if x9 = true then ((zb2 t.clear places [0, 1]).bind fun x11 => (if x11 = true then ((zh5 t.role).bind fun x13 => (if x13 = true then (gd (ok64 (tasks - 1)) ((z0c t.apart (-1) (tasks - 1)).bind fun x16 => (if x16 = true then ((z0c t.all 1 3).bind fun x18 => (if x18 = true then ((z0c t.need 1 t.all).bind fun x20 => (some x20)) else (some false))) else (some false)))) else (some false))) else (some false))) else (some false))) else (some false))) else (some false))) else (some false))) else (some false))
def zm7 : Con := ⟨125, [.v (.s .task) false, .v .I false, .v .I false], [(.B, true)], [], fun x => z9o x.1 x.2.1 x.2.2.1⟩
def w18 : Fs := ⟨[y5b, z26, z40, z12, zv5], [], []⟩
theorem w1g : w18.Ok Tryz.prog := (fsK wy2 (fsK z2s (fsK wh9 (fsK yk9 (fsK yz7 fs0)))))
theorem w27 : zm7.Ok Tryz.prog := fn_ok (k := zm7) (fn := Tryz.f125) (W := []) (H := []) Tryz.func125 w1g trivial rfl rfl (fun av x => by kernel_rfl)
def y2h (t : GTask) (n : GNet) : Option Bool := (z9o t n.places (n.tasks.length : Int)).bind fun x1 => (some (!x1))
def y2q : FCon := ⟨124, (.s .task), [(.s .net)], fun z c => y2h z c.1⟩
def wa8 : Fs := ⟨[zm7], [], []⟩
theorem wd9 : wa8.Ok Tryz.prog := (fsK w27 fs0)
theorem wh6 : y2q.Ok Tryz.prog := FCon.ok (fn_ok (k := y2q.con) (fn := Tryz.f124) (W := []) (H := []) Tryz.func124 wd9 trivial rfl rfl (fun av x => by kernel_rfl))
def z93 (n : GNet) : Option Bool := (y2k n.places (n.tasks.length : Int)).bind fun x1 => (if x1 = true then ((z71 n.tasks (fun z => y2h z n)).bind fun x3 => (some (!x3))) else (some false))
def zd7 : Con := ⟨52, [.v (.s .net) false], [(.B, true)], [], fun x => z93 x.1⟩
def v1j : Fs := ⟨[y28, za2], [y2q], []⟩
theorem v2c : v1j.Ok Tryz.prog := (fsK wi1 (fsK yk7 (fsF wh6 fs0)))
theorem y1g : zd7.Ok Tryz.prog := fn_ok (k := zd7) (fn := Tryz.f52) (W := []) (H := []) Tryz.func52 v2c trivial rfl rfl (fun av x => by kernel_rfl)
def z6o (p : Int) (out : List Bool) : Option Bool := (getI out p).bind fun x1 => (some x1)
def z9c : FCon := ⟨217, .I, [(.sl .B)], fun z c => z6o z c.1⟩
def y8s : Fs := ⟨[], [], []⟩
theorem y8v : y8s.Ok Tryz.prog := fs0
theorem yc6 : z9c.Ok Tryz.prog := FCon.ok (fn_ok (k := z9c.con) (fn := Tryz.f217) (W := []) (H := []) Tryz.func217 y8v trivial rfl rfl (fun av x => by kernel_rfl))
def zl4 (s1_0 : List GTask) (s1_1 : Int) (s1_2 : Int) (bk1 : List GTask → Int → Int → Bool → List Bool → Option (List Bool)) (s2_1 : Bool) (l2_2 : List Bool) : Option (List Bool) := gd (ok64 (s1_2 + 1)) (bk1 s1_0 s1_1 (s1_2 + 1) s2_1 l2_2)
def z0l (p2_0 : List GFlow) (p2_1 : Int) (kx2_0 : Bool → List Bool → Option (List Bool)) : Nat → Int → Bool → List Bool → Option (List Bool)
  | 0, _, _, _ => none
  | n2 + 1, s2_0, s2_1, l2_2 => if decide (s2_0 < p2_1) = true then ((getI p2_0 s2_0).bind fun x11 => (if s2_1 = true then ((getI l2_2 x11.to).bind fun x13 => (gd (ok64 (s2_0 + 1)) ((z0l p2_0 p2_1 kx2_0 n2) (s2_0 + 1) true (l2_2.set x11.to.toNat true)))) else ((getI l2_2 x11.to).bind fun x15 => ((getI l2_2 x11.to).bind fun x16 => (gd (ok64 (s2_0 + 1)) ((z0l p2_0 p2_1 kx2_0 n2) (s2_0 + 1) (!x15) (l2_2.set x11.to.toNat true))))))) else (kx2_0 s2_1 l2_2)
def z8p (bk0 : Bool → List Bool → Option (List Bool)) (s1_3 : Bool) (l1_4 : List Bool) : Option (List Bool) := bk0 s1_3 l1_4
def z0d (but : Int) (kx1_0 : Bool → List Bool → Option (List Bool)) : Nat → List GTask → Int → Int → Bool → List Bool → Option (List Bool)
  | 0, _, _, _, _, _ => none
  | n1 + 1, s1_0, s1_1, s1_2, s1_3, l1_4 => if decide (s1_2 < s1_1) = true then ((getI s1_0 s1_2).bind fun x5 => (if decide (s1_2 = but) = true then (gd (ok64 (s1_2 + 1)) ((z0d but kx1_0 n1) s1_0 s1_1 (s1_2 + 1) s1_3 l1_4)) else ((z2j x5.in_ (fun z => z6o z l1_4)).bind fun x8 => (if x8 = true then (z0l x5.out (x5.out.length : Int) (zl4 s1_0 s1_1 s1_2 (z0d but kx1_0 n1)) FUEL 0 s1_3 l1_4) else (gd (ok64 (s1_2 + 1)) ((z0d but kx1_0 n1) s1_0 s1_1 (s1_2 + 1) s1_3 l1_4)))))) else (kx1_0 s1_3 l1_4)
def zl5 (l0_1 : List Bool) : Option (List Bool) := some l0_1
def z11 (n : GNet) (but : Int) (kx0_0 : List Bool → Option (List Bool)) : Nat → Bool → List Bool → Option (List Bool)
  | 0, _, _ => none
  | n0 + 1, s0_0, l0_1 => if s0_0 = true then (z0d but (z8p (z11 n but kx0_0 n0)) FUEL n.tasks (n.tasks.length : Int) 0 false l0_1) else (kx0_0 l0_1)
def z81 (n : GNet) (place : Int) (but : Int) : Option (List Bool) := gd ((0 : Int) ≤ n.places ∧ n.places ≤ (1000000000 : Int)) ((getI (List.replicate n.places.toNat false) place).bind fun x2 => (z11 n but zl5 FUEL true ((List.replicate n.places.toNat false).set place.toNat true)))
def z05 : Con := ⟨202, [.v (.s .net) false, .v .I false, .v .I false], [((.sl .B), true)], [], fun x => z81 x.1 x.2.1 x.2.2.1⟩
def yr6 : Fs := ⟨[z4x], [z9c], []⟩
theorem z7t : yr6.Ok Tryz.prog := (fsK z8f (fsF yc6 fs0))
def zb8 : Tmpl := ⟨[(2, .c .i), (3, .c (.bx 3 0)), (7, .c (.bx 7 0)), (8, .c .b), (21, .c (.s (.s .task))), (22, .c .i), (23, .c .i), (39, .c (.s (.s .flow))), (40, .c .i), (41, .c .i)], [(3, .boxT (.s .net)), (7, .box [.ref 15]), (15, .arr .B true)]⟩
def z9y : Tmpl := ⟨[(2, .c .i), (3, .c (.bx 3 0)), (7, .c (.bx 7 0)), (8, .c .b), (21, .c (.s (.s .task))), (22, .c .i), (23, .c .i)], [(3, .boxT (.s .net)), (7, .box [.ref 15]), (15, .arr .B true)]⟩
def y21 (av : AV) (x : HP z05.ps) (n : Nat) (v : zb8.den) (K : Ks (CR z05)) : Option (CR z05) := z0l v.1.2.2.2.2.2.2.2.1 v.1.2.2.2.2.2.2.2.2.1 (fun s2_1 l2_2 => z9y.at none ((v.1.1, (), (), s2_1, v.1.2.2.2.2.1, v.1.2.2.2.2.2.1, v.1.2.2.2.2.2.2.1, ()), (v.2.1, ((), ()), l2_2, ())) (K (.exit 4))) n v.1.2.2.2.2.2.2.2.2.2.1 v.1.2.2.2.1 v.2.2.2.1
def za8 (av : AV) (x : HP z05.ps) : Hdl (CR z05) := hnd [] zb8 (y21 av x)
theorem y2d : LP z05 Tryz.f202 [0, 0, 0] za8 := lp_ok (W := []) (H := []) (xs := [z9y]) z7t trivial rfl (fun av x v K => by kernel_rfl) (fun av x n v K => by kernel_rfl)
def zk9 : Tmpl := ⟨[(2, .c .i), (3, .c (.bx 3 0)), (7, .c (.bx 7 0)), (8, .c .b), (21, .c (.s (.s .task))), (22, .c .i), (23, .c .i)], [(3, .boxT (.s .net)), (7, .box [.ref 15]), (15, .arr .B true)]⟩
def zf1 : Tmpl := ⟨[(2, .c .i), (3, .c (.bx 3 0)), (7, .c (.bx 7 0)), (8, .c .b)], [(3, .boxT (.s .net)), (7, .box [.ref 15]), (15, .arr .B true)]⟩
def y4w (av : AV) (x : HP z05.ps) (n : Nat) (v : zk9.den) (K : Ks (CR z05)) : Option (CR z05) := z0d v.1.1 (fun s1_3 l1_4 => zf1.at none ((v.1.1, (), (), s1_3, ()), (v.2.1, ((), ()), l1_4, ())) (K (.exit 2))) n v.1.2.2.2.2.1 v.1.2.2.2.2.2.1 v.1.2.2.2.2.2.2.1 v.1.2.2.2.1 v.2.2.2.1
def zg0 (av : AV) (x : HP z05.ps) : Hdl (CR z05) := hnd [] zk9 (y4w av x)
theorem y5q : LP z05 Tryz.f202 [0, 0] zg0 := lp_ok (W := []) (H := [za8]) (xs := [zf1]) z7t ⟨y2d, trivial⟩ rfl (fun av x v K => by kernel_rfl) (fun av x n v K => by kernel_rfl)
def zs2 : Tmpl := ⟨[(2, .c .i), (3, .c (.bx 3 0)), (7, .c (.bx 7 0)), (8, .c .b)], [(3, .boxT (.s .net)), (7, .box [.ref 15]), (15, .arr .B true)]⟩
def zm0 : Tmpl := ⟨[(7, .c (.bx 7 0))], [(7, .box [.ref 15]), (15, .arr .B true)]⟩
def y8j (av : AV) (x : HP z05.ps) (n : Nat) (v : zs2.den) (K : Ks (CR z05)) : Option (CR z05) := z11 v.2.1 v.1.1 (fun l0_1 => zm0.at none (((), ()), (((), ()), l0_1, ())) (K (.exit 0))) n v.1.2.2.2.1 v.2.2.2.1
def zq3 (av : AV) (x : HP z05.ps) : Hdl (CR z05) := hnd [] zs2 (y8j av x)
theorem y9x : LP z05 Tryz.f202 [0] zq3 := lp_ok (W := []) (H := [zg0]) (xs := [zm0]) z7t ⟨y5q, trivial⟩ rfl (fun av x v K => by kernel_rfl) (fun av x n v K => by kernel_rfl)
theorem yu0 : z05.Ok Tryz.prog := fn_ok (k := z05) (fn := Tryz.f202) (W := []) (H := [zq3]) Tryz.func202 z7t ⟨y9x, trivial⟩ rfl rfl (fun av x => by kernel_rfl)
def z80 (m : Int) : Option Bool := (z0c m 0 4).bind fun x1 => (some (!x1))
def z89 : FCon := ⟨199, .I, [], fun z c => z80 z ⟩
def y4y : Fs := ⟨[z26], [], []⟩
theorem y50 : y4y.Ok Tryz.prog := (fsK z2s fs0)
theorem y5u : z89.Ok Tryz.prog := FCon.ok (fn_ok (k := z89.con) (fn := Tryz.f199) (W := []) (H := []) Tryz.func199 y50 trivial rfl rfl (fun av x => by kernel_rfl))
def z4k (n : GNet) (marks : List Int) : Option Bool := if decide ((marks.length : Int) = n.places) = true then ((z2j marks (fun z => z80 z )).bind fun x2 => (some (!x2))) else (some false)
def z6h : Con := ⟨164, [.v (.s .net) false, .v (.sl .I) false], [(.B, true)], [], fun x => z4k x.1 x.2.1⟩
def y8r : Fs := ⟨[z4x], [z89], []⟩
theorem y8u : y8r.Ok Tryz.prog := (fsK z8f (fsF y5u fs0))
theorem zr7 : z6h.Ok Tryz.prog := fn_ok (k := z6h) (fn := Tryz.f164) (W := []) (H := []) Tryz.func164 y8u trivial rfl rfl (fun av x => by kernel_rfl)
def ze2 (n : GNet) (marks : List Int) : Option Bool := (z93 n).bind fun x1 => (if x1 = true then ((z4k n marks).bind fun x3 => (some x3)) else (some false))
def zq8 : Con := ⟨94, [.v (.s .net) false, .v (.sl .I) false], [(.B, true)], [], fun x => ze2 x.1 x.2.1⟩
def v1i : Fs := ⟨[zd7, z6h], [], []⟩
theorem v2b : v1i.Ok Tryz.prog := (fsK y1g (fsK zr7 fs0))
theorem yc4 : zq8.Ok Tryz.prog := fn_ok (k := zq8) (fn := Tryz.f94) (W := []) (H := []) Tryz.func94 v2b trivial rfl rfl (fun av x => by kernel_rfl)
def zh3 (busy : List GItem) : Option Bool := some (decide ((busy.length : Int) ≤ 6))
def z24 (n : GNet) (p0_0 : List GItem) (p0_1 : Int) (kx0_0 : Option Bool) : Nat → Int → Option Bool
  | 0, _ => none
  | n0 + 1, s0_0 => if decide (s0_0 < p0_1) = true then ((getI p0_0 s0_0).bind fun x2 => ((z0n n x2.task).bind fun x3 => (if x3 = true then ((z96 x2.who).bind fun x5 => (if x5 = true then ((getI n.tasks x2.task).bind fun x7 => (gd (ok64 (x7.need - 1)) ((z0c x2.did 0 (x7.need - 1)).bind fun x9 => (if x9 = true then (gd (ok64 (s0_0 + 1)) ((z24 n p0_0 p0_1 kx0_0 n0) (s0_0 + 1))) else (some false))))) else (some false))) else (some false)))) else (kx0_0)
def z54 (n : GNet) (busy : List GItem) : Option Bool := z24 n busy (busy.length : Int) (zh3 busy) FUEL 0
def z0r : Con := ⟨95, [.v (.s .net) false, .v (.sl (.s .item)) false], [(.B, true)], [], fun x => z54 x.1 x.2.1⟩
def yj8 : Fs := ⟨[z1t, zg7, z26], [], []⟩
theorem zt6 : yj8.Ok Tryz.prog := (fsK z4m (fsK yc9 (fsK z2s fs0)))
def zl7 : Tmpl := ⟨[(1, .c (.s (.s .item))), (2, .c (.bx 2 0)), (7, .c (.s (.s .item))), (8, .c .i), (9, .c .i)], [(2, .boxT (.s .net))]⟩
def zl0 : Tmpl := ⟨[(1, .c (.s (.s .item)))], []⟩
def y8e (av : AV) (x : HP z0r.ps) (n : Nat) (v : zl7.den) (K : Ks (CR z0r)) : Option (CR z0r) := z24 v.2.1 v.1.2.2.1 v.1.2.2.2.1 (zl0.at none ((v.1.1, ()), ()) (K (.exit 0))) n v.1.2.2.2.2.1
def zl2 (av : AV) (x : HP z0r.ps) : Hdl (CR z0r) := hnd [] zl7 (y8e av x)
theorem y8g : LP z0r Tryz.f95 [0] zl2 := lp_ok (W := []) (H := []) (xs := [zl0]) zt6 trivial rfl (fun av x v K => by kernel_rfl) (fun av x n v K => by kernel_rfl)
theorem zu1 : z0r.Ok Tryz.prog := fn_ok (k := z0r) (fn := Tryz.f95) (W := []) (H := [zl2]) Tryz.func95 zt6 ⟨y8g, trivial⟩ rfl rfl (fun av x => by kernel_rfl)
def z7y (q : Int) (marks : List Int) (reach : List Bool) : Option Bool := (getI marks q).bind fun x1 => (if decide (x1 = 0) = true then ((getI reach q).bind fun x3 => (some x3)) else (some false))
def z88 : FCon := ⟨203, .I, [(.sl .I), (.sl .B)], fun z c => z7y z c.1 c.2.1⟩
def y4x : Fs := ⟨[], [], []⟩
theorem y4z : y4x.Ok Tryz.prog := fs0
theorem y5t : z88.Ok Tryz.prog := FCon.ok (fn_ok (k := z88.con) (fn := Tryz.f203) (W := []) (H := []) Tryz.func203 y4z trivial rfl rfl (fun av x => by kernel_rfl))
def z4s (s1_0 : Int) (s1_1 : Int) (bk1 : Int → Int → List Int → Option Bool) (l2_1 : List Int) : Option Bool := gd (ok64 (s1_1 + 1)) (bk1 s1_0 (s1_1 + 1) l2_1)
def z1s (p2_0 : List GFlow) (p2_1 : Int) (kx2_0 : List Int → Option Bool) : Nat → Int → List Int → Option Bool
  | 0, _, _ => none
  | n2 + 1, s2_0, l2_1 => if decide (s2_0 < p2_1) = true then ((getI p2_0 s2_0).bind fun x15 => (gd (l2_1.length + [x15.to].length ≤ SMALL) (gd (ok64 (s2_0 + 1)) ((z1s p2_0 p2_1 kx2_0 n2) (s2_0 + 1) (l2_1 ++ [x15.to]))))) else (kx2_0 l2_1)
def z7a  : Option Bool := some false
def z14 (n : GNet) (t : Int) (p0_0 : List Int) (p0_2 : List Int) (l1_2 : List Int) (p3_0 : Int) (kx3_0 : Option Bool) : Nat → Int → Option Bool
  | 0, _ => none
  | n3 + 1, s3_0 => if decide (s3_0 < p3_0) = true then ((getI l1_2 s3_0).bind fun x20 => ((z81 n x20 t).bind fun x21 => ((z2j p0_0 (fun z => z7y z p0_2 x21)).bind fun x22 => (if x22 = true then (some true) else (gd (ok64 (s3_0 + 1)) ((z14 n t p0_0 p0_2 l1_2 p3_0 kx3_0 n3) (s3_0 + 1))))))) else (kx3_0)
def z1r (n : GNet) (t : Int) (p0_0 : List Int) (p0_2 : List Int) (l1_2 : List Int) : Option Bool := z14 n t p0_0 p0_2 l1_2 (l1_2.length : Int) z7a FUEL 0
def z0q (n : GNet) (busy : List GItem) (kx1_0 : List Int → Option Bool) : Nat → Int → Int → List Int → Option Bool
  | 0, _, _, _ => none
  | n1 + 1, s1_0, s1_1, l1_2 => if decide (s1_1 < s1_0) = true then ((getI busy s1_1).bind fun x12 => ((getI n.tasks x12.task).bind fun x13 => (z1s x13.out (x13.out.length : Int) (z4s s1_0 s1_1 (z0q n busy kx1_0 n1)) FUEL 0 l1_2))) else (kx1_0 l1_2)
def z4r (n : GNet) (busy : List GItem) (t : Int) (p0_0 : List Int) (p0_2 : List Int) (l0_1 : List Int) : Option Bool := z0q n busy (z1r n t p0_0 p0_2) FUEL (busy.length : Int) 0 l0_1
def z0p (marks : List Int) (p0_0 : List Int) (p0_1 : Int) (kx0_0 : List Int → Option Bool) : Nat → Int → List Int → Option Bool
  | 0, _, _ => none
  | n0 + 1, s0_0, l0_1 => if decide (s0_0 < p0_1) = true then ((getI marks s0_0).bind fun x3 => (if decide (0 < x3) = true then ((zd8 p0_0 s0_0).bind fun x5 => (if x5 = true then (gd (ok64 (s0_0 + 1)) ((z0p marks p0_0 p0_1 kx0_0 n0) (s0_0 + 1) l0_1)) else (gd (l0_1.length + [s0_0].length ≤ SMALL) (gd (ok64 (s0_0 + 1)) ((z0p marks p0_0 p0_1 kx0_0 n0) (s0_0 + 1) (l0_1 ++ [s0_0])))))) else (gd (ok64 (s0_0 + 1)) ((z0p marks p0_0 p0_1 kx0_0 n0) (s0_0 + 1) l0_1)))) else (kx0_0 l0_1)
def z6n (n : GNet) (marks : List Int) (busy : List GItem) (t : Int) : Option Bool := (getI n.tasks t).bind fun x1 => (z0p marks x1.in_ (marks.length : Int) (z4r n busy t x1.in_ marks) FUEL 0 ([] : List Int))
def z02 : Con := ⟨168, [.v (.s .net) false, .v (.sl .I) false, .v (.sl (.s .item)) false, .v .I false], [(.B, true)], [], fun x => z6n x.1 x.2.1 x.2.2.1 x.2.2.2.1⟩
def y8p : Fs := ⟨[zq6, z05, z4x], [z88], []⟩
theorem z4e : y8p.Ok Tryz.prog := (fsK yc0 (fsK yu0 (fsK z8f (fsF y5t fs0))))
def zb7 : Tmpl := ⟨[(3, .c .i), (4, .c (.bx 4 0)), (5, .c (.bx 5 0)), (9, .c (.s .I)), (10, .c (.ref 500010)), (46, .c (.s (.s .item))), (47, .c .i), (48, .c .i), (58, .c (.s (.s .flow))), (59, .c .i), (60, .c .i)], [(4, .boxT (.s .net)), (5, .box [.s .I]), (500010, .arr .I true)]⟩
def z9x : Tmpl := ⟨[(3, .c .i), (4, .c (.bx 4 0)), (5, .c (.bx 5 0)), (9, .c (.s .I)), (10, .c (.ref 500010)), (46, .c (.s (.s .item))), (47, .c .i), (48, .c .i)], [(4, .boxT (.s .net)), (5, .box [.s .I]), (500010, .arr .I true)]⟩
def y20 (av : AV) (x : HP z02.ps) (n : Nat) (v : zb7.den) (K : Ks (CR z02)) : Option (CR z02) := z1s v.1.2.2.2.2.2.2.2.2.1 v.1.2.2.2.2.2.2.2.2.2.1 (fun l2_1 => z9x.at none ((v.1.1, (), (), v.1.2.2.2.1, (), v.1.2.2.2.2.2.1, v.1.2.2.2.2.2.2.1, v.1.2.2.2.2.2.2.2.1, ()), (v.2.1, (v.2.2.1.1, ()), l2_1, ())) (K (.exit 4))) n v.1.2.2.2.2.2.2.2.2.2.2.1 v.2.2.2.1
def za7 (av : AV) (x : HP z02.ps) : Hdl (CR z02) := hnd [] zb7 (y20 av x)
theorem y2c : LP z02 Tryz.f168 [1, 0] za7 := lp_ok (W := []) (H := []) (xs := [z9x]) z4e trivial rfl (fun av x v K => by kernel_rfl) (fun av x n v K => by kernel_rfl)
def zk6 : Tmpl := ⟨[(2, .c (.s (.s .item))), (3, .c .i), (4, .c (.bx 4 0)), (5, .c (.bx 5 0)), (9, .c (.s .I)), (10, .c (.ref 500010)), (26, .c (.s .I)), (27, .c .i), (28, .c .i)], [(4, .boxT (.s .net)), (5, .box [.s .I]), (500010, .arr .I true)]⟩
def ze8 : Tmpl := ⟨[(2, .c (.s (.s .item))), (3, .c .i), (4, .c (.bx 4 0)), (5, .c (.bx 5 0)), (9, .c (.s .I)), (10, .c (.ref 500010))], [(4, .boxT (.s .net)), (5, .box [.s .I]), (500010, .arr .I true)]⟩
def y4t (av : AV) (x : HP z02.ps) (n : Nat) (v : zk6.den) (K : Ks (CR z02)) : Option (CR z02) := z0p v.1.2.2.2.2.2.2.1 v.1.2.2.2.2.1 v.1.2.2.2.2.2.2.2.1 (fun l0_1 => ze8.at none ((v.1.1, v.1.2.1, (), (), v.1.2.2.2.2.1, (), ()), (v.2.1, (v.2.2.1.1, ()), l0_1, ())) (K (.exit 0))) n v.1.2.2.2.2.2.2.2.2.1 v.2.2.2.1
def zf7 (av : AV) (x : HP z02.ps) : Hdl (CR z02) := hnd [.e 10 500010 .I] zk6 (y4t av x)
theorem y5n : LP z02 Tryz.f168 [0] zf7 := lp_ok (W := []) (H := []) (xs := [ze8]) z4e trivial rfl (fun av x v K => by kernel_rfl) (fun av x n v K => by kernel_rfl)
def zk7 : Tmpl := ⟨[(3, .c .i), (4, .c (.bx 4 0)), (5, .c (.bx 5 0)), (9, .c (.s .I)), (10, .c (.ref 500010)), (46, .c (.s (.s .item))), (47, .c .i), (48, .c .i)], [(4, .boxT (.s .net)), (5, .box [.s .I]), (500010, .arr .I true)]⟩
def ze9 : Tmpl := ⟨[(3, .c .i), (4, .c (.bx 4 0)), (5, .c (.bx 5 0)), (9, .c (.s .I)), (10, .c (.ref 500010))], [(4, .boxT (.s .net)), (5, .box [.s .I]), (500010, .arr .I true)]⟩
def y4u (av : AV) (x : HP z02.ps) (n : Nat) (v : zk7.den) (K : Ks (CR z02)) : Option (CR z02) := z0q v.2.1 v.1.2.2.2.2.2.1 (fun l1_2 => ze9.at none ((v.1.1, (), (), v.1.2.2.2.1, (), ()), (v.2.1, (v.2.2.1.1, ()), l1_2, ())) (K (.exit 2))) n v.1.2.2.2.2.2.2.1 v.1.2.2.2.2.2.2.2.1 v.2.2.2.1
def zf8 (av : AV) (x : HP z02.ps) : Hdl (CR z02) := hnd [] zk7 (y4u av x)
theorem y5o : LP z02 Tryz.f168 [1] zf8 := lp_ok (W := []) (H := [za7]) (xs := [ze9]) z4e ⟨y2c, trivial⟩ rfl (fun av x v K => by kernel_rfl) (fun av x n v K => by kernel_rfl)
def zk8 : Tmpl := ⟨[(3, .c .i), (4, .c (.bx 4 0)), (5, .c (.bx 5 0)), (9, .c (.s .I)), (71, .c (.ref 500010)), (72, .c .i), (73, .c .i)], [(4, .boxT (.s .net)), (5, .box [.s .I]), (500010, .arr .I true)]⟩
def zf0 : Tmpl := ⟨[], []⟩
def y4v (av : AV) (x : HP z02.ps) (n : Nat) (v : zk8.den) (K : Ks (CR z02)) : Option (CR z02) := z14 v.2.1 v.1.1 v.1.2.2.2.1 v.2.2.1.1 v.2.2.2.1 v.1.2.2.2.2.2.1 (zf0.at none ((), ()) (K (.exit 6))) n v.1.2.2.2.2.2.2.1
def zf9 (av : AV) (x : HP z02.ps) : Hdl (CR z02) := hnd [] zk8 (y4v av x)
theorem y5p : LP z02 Tryz.f168 [2] zf9 := lp_ok (W := []) (H := []) (xs := [zf0]) z4e trivial rfl (fun av x v K => by kernel_rfl) (fun av x n v K => by kernel_rfl)
theorem yc5 : z02.Ok Tryz.prog := fn_ok (k := z02) (fn := Tryz.f168) (W := []) (H := [zf7, zf8, zf9]) Tryz.func168 z4e ⟨y5n, y5o, y5p, trivial⟩ rfl rfl (fun av x => by kernel_rfl)
def z37 (n : GNet) (marks : List Int) (busy : List GItem) (t : Int) (s0_0 : Bool) (s0_2 : Bool) : Option Bool := (getI n.tasks t).bind fun x14 => (if decide (x14.join = 1) = true then (some s0_0) else (if decide (x14.join = 2) = true then (some s0_2) else (if s0_2 = true then (if s0_0 = true then (some true) else ((z6n n marks busy t).bind fun x19 => (some (!x19)))) else (some false))))
def z0s (marks : List Int) (p0_0 : List Int) (p0_1 : Int) (kx0_0 : Bool → Bool → Option Bool) : Nat → Bool → Int → Bool → Option Bool
  | 0, _, _, _ => none
  | n0 + 1, s0_0, s0_1, s0_2 => if decide (s0_1 < p0_1) = true then ((getI p0_0 s0_1).bind fun x3 => (if s0_2 = true then (if s0_0 = true then ((getI marks x3).bind fun x6 => (gd (ok64 (s0_1 + 1)) ((z0s marks p0_0 p0_1 kx0_0 n0) (decide (0 < x6)) (s0_1 + 1) true))) else (gd (ok64 (s0_1 + 1)) ((z0s marks p0_0 p0_1 kx0_0 n0) false (s0_1 + 1) true))) else ((getI marks x3).bind fun x9 => (if s0_0 = true then ((getI marks x3).bind fun x11 => (gd (ok64 (s0_1 + 1)) ((z0s marks p0_0 p0_1 kx0_0 n0) (decide (0 < x11)) (s0_1 + 1) (decide (0 < x9))))) else (gd (ok64 (s0_1 + 1)) ((z0s marks p0_0 p0_1 kx0_0 n0) false (s0_1 + 1) (decide (0 < x9)))))))) else (kx0_0 s0_0 s0_2)
def z9n (n : GNet) (marks : List Int) (busy : List GItem) (t : Int) : Option Bool := (getI n.tasks t).bind fun x1 => (z0s marks x1.in_ (x1.in_.length : Int) (z37 n marks busy t) FUEL true 0 false)
def z22 : Con := ⟨104, [.v (.s .net) false, .v (.sl .I) false, .v (.sl (.s .item)) false, .v .I false], [(.B, true)], [], fun x => z9n x.1 x.2.1 x.2.2.1 x.2.2.2.1⟩
def w17 : Fs := ⟨[z02], [], []⟩
theorem y32 : w17.Ok Tryz.prog := (fsK yc5 fs0)
def y0k : Tmpl := ⟨[(1, .c (.s .I)), (2, .c (.s (.s .item))), (3, .c .i), (4, .c (.bx 4 0)), (9, .c .b), (10, .c .b), (18, .c (.s .I)), (19, .c .i), (20, .c .i)], [(4, .boxT (.s .net))]⟩
def zu6 : Tmpl := ⟨[(1, .c (.s .I)), (2, .c (.s (.s .item))), (3, .c .i), (4, .c (.bx 4 0)), (9, .c .b), (10, .c .b)], [(4, .boxT (.s .net))]⟩
def yq6 (av : AV) (x : HP z22.ps) (n : Nat) (v : y0k.den) (K : Ks (CR z22)) : Option (CR z22) := z0s v.1.1 v.1.2.2.2.2.2.2.1 v.1.2.2.2.2.2.2.2.1 (fun s0_0 s0_2 => zu6.at none ((v.1.1, v.1.2.1, v.1.2.2.1, (), s0_2, s0_0, ()), (v.2.1, ())) (K (.exit 0))) n v.1.2.2.2.2.2.1 v.1.2.2.2.2.2.2.2.2.1 v.1.2.2.2.2.1
def y00 (av : AV) (x : HP z22.ps) : Hdl (CR z22) := hnd [] y0k (yq6 av x)
theorem ys8 : LP z22 Tryz.f104 [0] y00 := lp_ok (W := []) (H := []) (xs := [zu6]) y32 trivial rfl (fun av x v K => by kernel_rfl) (fun av x n v K => by kernel_rfl)
theorem w26 : z22.Ok Tryz.prog := fn_ok (k := z22) (fn := Tryz.f104) (W := []) (H := [y00]) Tryz.func104 y32 ⟨ys8, trivial⟩ rfl rfl (fun av x => by kernel_rfl)
def zw0 (n : GNet) (marks : List Int) (busy : List GItem) (t : Int) : Option Bool := (ze2 n marks).bind fun x1 => (if x1 = true then ((z54 n busy).bind fun x3 => (if x3 = true then ((z0n n t).bind fun x5 => (if x5 = true then ((z9n n marks busy t).bind fun x7 => (some x7)) else (some false))) else (some false))) else (some false))
def y55 : Con := ⟨33, [.v (.s .net) false, .v (.sl .I) false, .v (.sl (.s .item)) false, .v .I false], [(.B, true)], [], fun x => zw0 x.1 x.2.1 x.2.2.1 x.2.2.2.1⟩
def wo4 : Fs := ⟨[zq8, z0r, z1t, z22], [], []⟩
theorem ws9 : wo4.Ok Tryz.prog := (fsK yc4 (fsK zu1 (fsK z4m (fsK w26 fs0))))
theorem wx4 : y55.Ok Tryz.prog := fn_ok (k := y55) (fn := Tryz.f33) (W := []) (H := []) Tryz.func33 ws9 trivial rfl rfl (fun av x => by kernel_rfl)
def zr1 (l0_1 : List Int) (x4 : Int) (x7 : Int) : Option (List Int) := some (l0_1.set x4.toNat (x7 - 1))
def zr2 (l0_1 : List Int) : Option (List Int) := some l0_1
def z1v (n : GNet) (t : Int) (p0_0 : List Int) (p0_1 : Int) (kx0_0 : List Int → Int → Int → Option (List Int)) (kx0_1 : List Int → Option (List Int)) : Nat → Int → List Int → Option (List Int)
  | 0, _, _ => none
  | n0 + 1, s0_0, l0_1 => if decide (s0_0 < p0_1) = true then ((getI p0_0 s0_0).bind fun x4 => ((getI l0_1 x4).bind fun x5 => (if decide (0 < x5) = true then ((getI l0_1 x4).bind fun x7 => (gd (ok64 (x7 - 1)) ((getI l0_1 x4).bind fun x9 => ((getI n.tasks t).bind fun x10 => (if decide (x10.join = 2) = true then (kx0_0 l0_1 x4 x7) else (gd (ok64 (s0_0 + 1)) ((z1v n t p0_0 p0_1 kx0_0 kx0_1 n0) (s0_0 + 1) (l0_1.set x4.toNat (x7 - 1))))))))) else (gd (ok64 (s0_0 + 1)) ((z1v n t p0_0 p0_1 kx0_0 kx0_1 n0) (s0_0 + 1) l0_1))))) else (kx0_1 l0_1)
def z8r (n : GNet) (marks : List Int) (t : Int) : Option (List Int) := (z0g marks).bind fun x1 => ((getI n.tasks t).bind fun x2 => (z1v n t x2.in_ (x2.in_.length : Int) zr1 zr2 FUEL 0 x1))
def z1l : Con := ⟨93, [.v (.s .net) false, .v (.sl .I) false, .v .I false], [((.sl .I), true)], [], fun x => z8r x.1 x.2.1 x.2.2.1⟩
def yv8 : Fs := ⟨[z1e], [], []⟩
theorem y0u : yv8.Ok Tryz.prog := (fsK z2n fs0)
def zu3 : Tmpl := ⟨[(2, .c .i), (3, .c (.bx 3 0)), (7, .c (.ref 11)), (17, .c (.s .I)), (18, .c .i), (19, .c .i)], [(3, .boxT (.s .net)), (11, .arr .I true)]⟩
def z9e : Tmpl := ⟨[(7, .c (.ref 11))], [(11, .arr .I true)]⟩
def yj4 (av : AV) (x : HP z1l.ps) (n : Nat) (v : zu3.den) (K : Ks (CR z1l)) : Option (CR z1l) := z1v v.2.1 v.1.1 v.1.2.2.2.1 v.1.2.2.2.2.1 (fun l0_1 x4 x7 => z9e.at none (((), ()), ((l0_1.set x4.toNat (x7 - 1)), ())) (K (.exit 0))) (fun l0_1 => z9e.at none (((), ()), (l0_1, ())) (K (.exit 0))) n v.1.2.2.2.2.2.1 v.2.2.1
def zt8 (av : AV) (x : HP z1l.ps) : Hdl (CR z1l) := hnd [] zu3 (yj4 av x)
theorem yk5 : LP z1l Tryz.f93 [0] zt8 := lp_ok (W := []) (H := []) (xs := [z9e]) y0u trivial rfl (fun av x v K => by kernel_rfl) (fun av x n v K => by kernel_rfl)
theorem yz6 : z1l.Ok Tryz.prog := fn_ok (k := z1l) (fn := Tryz.f93) (W := []) (H := [zt8]) Tryz.func93 y0u ⟨yk5, trivial⟩ rfl rfl (fun av x => by kernel_rfl)
def ya5 (l0_1 : List Int) : Option (List Int) := some l0_1
def z0o (t : GTask) (data : List Int) (p0_0 : List GFlow) (p0_1 : Int) (kx0_0 : List Int → Option (List Int)) : Nat → Int → List Int → Option (List Int)
  | 0, _, _ => none
  | n0 + 1, s0_0, l0_1 => if decide (s0_0 < p0_1) = true then ((getI p0_0 s0_0).bind fun x2 => ((z2i x2.if_ data).bind fun x3 => (if x3 = true then (if decide (t.split = 2) = true then (if decide (0 < (l0_1.length : Int)) = true then (gd (ok64 (s0_0 + 1)) ((z0o t data p0_0 p0_1 kx0_0 n0) (s0_0 + 1) l0_1)) else (if decide (t.split = 3) = true then (gd (ok64 ((t.out.length : Int) - 1)) (if decide (s0_0 = ((t.out.length : Int) - 1)) = true then (if decide (0 < (l0_1.length : Int)) = true then (gd (ok64 (s0_0 + 1)) ((z0o t data p0_0 p0_1 kx0_0 n0) (s0_0 + 1) l0_1)) else (gd (l0_1.length + [x2.to].length ≤ SMALL) (gd (ok64 (s0_0 + 1)) ((z0o t data p0_0 p0_1 kx0_0 n0) (s0_0 + 1) (l0_1 ++ [x2.to]))))) else (gd (l0_1.length + [x2.to].length ≤ SMALL) (gd (ok64 (s0_0 + 1)) ((z0o t data p0_0 p0_1 kx0_0 n0) (s0_0 + 1) (l0_1 ++ [x2.to])))))) else (gd (l0_1.length + [x2.to].length ≤ SMALL) (gd (ok64 (s0_0 + 1)) ((z0o t data p0_0 p0_1 kx0_0 n0) (s0_0 + 1) (l0_1 ++ [x2.to])))))) else (if decide (t.split = 3) = true then (gd (ok64 ((t.out.length : Int) - 1)) (if decide (s0_0 = ((t.out.length : Int) - 1)) = true then (if decide (0 < (l0_1.length : Int)) = true then (gd (ok64 (s0_0 + 1)) ((z0o t data p0_0 p0_1 kx0_0 n0) (s0_0 + 1) l0_1)) else (gd (l0_1.length + [x2.to].length ≤ SMALL) (gd (ok64 (s0_0 + 1)) ((z0o t data p0_0 p0_1 kx0_0 n0) (s0_0 + 1) (l0_1 ++ [x2.to]))))) else (gd (l0_1.length + [x2.to].length ≤ SMALL) (gd (ok64 (s0_0 + 1)) ((z0o t data p0_0 p0_1 kx0_0 n0) (s0_0 + 1) (l0_1 ++ [x2.to])))))) else (gd (l0_1.length + [x2.to].length ≤ SMALL) (gd (ok64 (s0_0 + 1)) ((z0o t data p0_0 p0_1 kx0_0 n0) (s0_0 + 1) (l0_1 ++ [x2.to])))))) else (gd (ok64 (s0_0 + 1)) ((z0o t data p0_0 p0_1 kx0_0 n0) (s0_0 + 1) l0_1))))) else (kx0_0 l0_1)
def y16 (t : GTask) (data : List Int) : Option (List Int) := z0o t data t.out (t.out.length : Int) ya5 FUEL 0 ([] : List Int)
def z6i : Con := ⟨173, [.v (.s .task) false, .v (.sl .I) false], [((.sl .I), true)], [], fun x => y16 x.1 x.2.1⟩
def v1m : Fs := ⟨[z4g], [], []⟩
theorem w2p : v1m.Ok Tryz.prog := (fsK z7p fs0)
def yp1 : Tmpl := ⟨[(1, .c (.s .I)), (2, .c (.bx 2 0)), (5, .c (.ref 500005)), (9, .c (.s (.s .flow))), (10, .c .i), (11, .c .i)], [(2, .boxT (.s .task)), (500005, .arr .I true)]⟩
def yg5 : Tmpl := ⟨[(5, .c (.ref 500005))], [(500005, .arr .I true)]⟩
def w9o (av : AV) (x : HP z6i.ps) (n : Nat) (v : yp1.den) (K : Ks (CR z6i)) : Option (CR z6i) := z0o v.2.1 v.1.1 v.1.2.2.2.1 v.1.2.2.2.2.1 (fun l0_1 => yg5.at none (((), ()), (l0_1, ())) (K (.exit 0))) n v.1.2.2.2.2.2.1 v.2.2.1
def ym7 (av : AV) (x : HP z6i.ps) : Hdl (CR z6i) := hnd [.e 5 500005 .I] yp1 (w9o av x)
theorem wf6 : LP z6i Tryz.f173 [0] ym7 := lp_ok (W := []) (H := []) (xs := [yg5]) w2p trivial rfl (fun av x v K => by kernel_rfl) (fun av x n v K => by kernel_rfl)
theorem v3a : z6i.Ok Tryz.prog := fn_ok (k := z6i) (fn := Tryz.f173) (W := []) (H := [ym7]) Tryz.func173 w2p ⟨wf6, trivial⟩ rfl rfl (fun av x => by kernel_rfl)
def z9m (n : GNet) (l1_1 : List Int) : Option ((List Int) × Bool) := (z4k n l1_1).bind fun x21 => (if x21 = true then (some (l1_1, true)) else (some ([], false)))
def z5p (x14 : (List Int)) (p1_0 : Int) (kx1_0 : List Int → Option ((List Int) × Bool)) : Nat → Int → List Int → Option ((List Int) × Bool)
  | 0, _, _ => none
  | n1 + 1, s1_0, l1_1 => if decide (s1_0 < p1_0) = true then ((getI x14 s1_0).bind fun x16 => ((getI l1_1 x16).bind fun x17 => (gd (ok64 (x17 + 1)) ((getI l1_1 x16).bind fun x19 => (gd (ok64 (s1_0 + 1)) ((z5p x14 p1_0 kx1_0 n1) (s1_0 + 1) (l1_1.set x16.toNat (x17 + 1)))))))) else (kx1_0 l1_1)
def z9l (n : GNet) (t : Int) (data : List Int) (l0_1 : List Int) : Option ((List Int) × Bool) := (getI n.tasks t).bind fun x13 => ((y16 x13 data).bind fun x14 => (z5p x14 (x14.length : Int) (z9m n) FUEL 0 l0_1))
def z5o (p0_0 : List Int) (p0_1 : Int) (kx0_0 : List Int → Option ((List Int) × Bool)) : Nat → Int → List Int → Option ((List Int) × Bool)
  | 0, _, _ => none
  | n0 + 1, s0_0, l0_1 => if decide (s0_0 < p0_1) = true then ((getI p0_0 s0_0).bind fun x10 => ((getI l0_1 x10).bind fun x11 => (gd (ok64 (s0_0 + 1)) ((z5o p0_0 p0_1 kx0_0 n0) (s0_0 + 1) (l0_1.set x10.toNat 0))))) else (kx0_0 l0_1)
def z8j (n : GNet) (marks : List Int) (t : Int) (data : List Int) : Option ((List Int) × Bool) := (ze2 n marks).bind fun x1 => (if x1 = true then ((z0n n t).bind fun x3 => (if x3 = true then ((z3c data).bind fun x5 => (if x5 = true then ((z0g marks).bind fun x7 => ((getI n.tasks t).bind fun x8 => (z5o x8.clear (x8.clear.length : Int) (z9l n t data) FUEL 0 x7))) else (some ([], false)))) else (some ([], false)))) else (some ([], false)))
def z0x : Con := ⟨115, [.v (.s .net) false, .v (.sl .I) false, .v .I false, .v (.sl .I) false], [((.sl .I), true), (.B, true)], [], fun x => z8j x.1 x.2.1 x.2.2.1 x.2.2.2.1⟩
def wa6 : Fs := ⟨[zq8, z1t, z5j, z1e, z6i, z6h], [], []⟩
theorem y22 : wa6.Ok Tryz.prog := (fsK yc4 (fsK z4m (fsK z7s (fsK z2n (fsK v3a (fsK zr7 fs0))))))
def y78 : Tmpl := ⟨[(2, .c .i), (3, .c (.s .I)), (4, .c (.bx 4 0)), (10, .c (.ref 31)), (37, .c (.s .I)), (38, .c .i), (39, .c .i)], [(4, .boxT (.s .net)), (31, .arr .I true)]⟩
def y48 : Tmpl := ⟨[(2, .c .i), (3, .c (.s .I)), (4, .c (.bx 4 0)), (10, .c (.ref 31))], [(4, .boxT (.s .net)), (31, .arr .I true)]⟩
def w3o (av : AV) (x : HP z0x.ps) (n : Nat) (v : y78.den) (K : Ks (CR z0x)) : Option (CR z0x) := z5o v.1.2.2.2.2.1 v.1.2.2.2.2.2.1 (fun l0_1 => y48.at none ((v.1.1, v.1.2.1, (), (), ()), (v.2.1, l0_1, ())) (K (.exit 0))) n v.1.2.2.2.2.2.2.1 v.2.2.1
def y69 (av : AV) (x : HP z0x.ps) : Hdl (CR z0x) := hnd [] y78 (w3o av x)
theorem w4l : LP z0x Tryz.f115 [0] y69 := lp_ok (W := []) (H := []) (xs := [y48]) y22 trivial rfl (fun av x v K => by kernel_rfl) (fun av x n v K => by kernel_rfl)
def y79 : Tmpl := ⟨[(4, .c (.bx 4 0)), (10, .c (.ref 31)), (53, .c (.ref 53)), (54, .c .i), (55, .c .i)], [(4, .boxT (.s .net)), (31, .arr .I true), (53, .arr .I true)]⟩
def y49 : Tmpl := ⟨[(4, .c (.bx 4 0)), (10, .c (.ref 31))], [(4, .boxT (.s .net)), (31, .arr .I true)]⟩
def w3p (av : AV) (x : HP z0x.ps) (n : Nat) (v : y79.den) (K : Ks (CR z0x)) : Option (CR z0x) := z5p v.2.2.2.1 v.1.2.2.2.1 (fun l1_1 => y49.at none (((), (), ()), (v.2.1, l1_1, ())) (K (.exit 2))) n v.1.2.2.2.2.1 v.2.2.1
def y6a (av : AV) (x : HP z0x.ps) : Hdl (CR z0x) := hnd [] y79 (w3p av x)
theorem w4m : LP z0x Tryz.f115 [1] y6a := lp_ok (W := []) (H := []) (xs := [y49]) y22 trivial rfl (fun av x v K => by kernel_rfl) (fun av x n v K => by kernel_rfl)
theorem wh4 : z0x.Ok Tryz.prog := fn_ok (k := z0x) (fn := Tryz.f115) (W := []) (H := [y69, y6a]) Tryz.func115 y22 ⟨w4l, w4m, trivial⟩ rfl rfl (fun av x => by kernel_rfl)
def y2i (n : Int) : Option Bool := (z0c n 0 7).bind fun x1 => (some (!x1))
def y2r : FCon := ⟨119, .I, [], fun z c => y2i z ⟩
def wa9 : Fs := ⟨[z26], [], []⟩
theorem we0 : wa9.Ok Tryz.prog := (fsK z2s fs0)
theorem wh7 : y2r.Ok Tryz.prog := FCon.ok (fn_ok (k := y2r.con) (fn := Tryz.f119) (W := []) (H := []) Tryz.func119 we0 trivial rfl rfl (fun av x => by kernel_rfl))
def ze3 (people : List Int) : Option Bool := (z0c (people.length : Int) 1 4).bind fun x1 => (if x1 = true then ((z2j people (fun z => y2i z )).bind fun x3 => (some (!x3))) else (some false))
def zq9 : Con := ⟨50, [.v (.sl .I) false], [(.B, true)], [], fun x => ze3 x.1⟩
def v1k : Fs := ⟨[z26, z4x], [y2r], []⟩
theorem v2d : v1k.Ok Tryz.prog := (fsK z2s (fsK z8f (fsF wh7 fs0)))
theorem yc7 : zq9.Ok Tryz.prog := fn_ok (k := zq9) (fn := Tryz.f50) (W := []) (H := []) Tryz.func50 v2d trivial rfl rfl (fun av x => by kernel_rfl)
def zw3 (people : List Int) (who : Int) (role : Int) : Option Bool := (ze3 people).bind fun x1 => (if x1 = true then ((z0c who 1 (people.length : Int)).bind fun x3 => (if x3 = true then ((zh5 role).bind fun x5 => (if x5 = true then (gd (ok64 (who - 1)) ((getI people (who - 1)).bind fun x8 => (gd (ok64 (role - 1)) (gd ((0 : Int) ≤ (role - 1) ∧ (role - 1) ≤ (63 : Int)) (some (decide ((andI (shrI x8 (role - 1)) 1) = 1))))))) else (some false))) else (some false))) else (some false))
def y57 : Con := ⟨80, [.v (.sl .I) false, .v .I false, .v .I false], [(.B, true)], [], fun x => zw3 x.1 x.2.1 x.2.2.1⟩
def wo7 : Fs := ⟨[zq9, z26, zv5], [], []⟩
theorem wt1 : wo7.Ok Tryz.prog := (fsK yc7 (fsK z2s (fsK yz7 fs0)))
theorem wx7 : y57.Ok Tryz.prog := fn_ok (k := y57) (fn := Tryz.f80) (W := []) (H := []) Tryz.func80 wt1 trivial rfl rfl (fun av x => by kernel_rfl)
def zw2 (did : List GDid) (who : Int) (task : Int) : Option Bool := (y07 did (GDid.mk task who)).bind fun x1 => (some x1)
def y56 : Con := ⟨109, [.v (.sl (.s .did)) false, .v .I false, .v .I false], [(.B, true)], [], fun x => zw2 x.1 x.2.1 x.2.2.1⟩
def wo6 : Fs := ⟨[y04], [], []⟩
theorem wt0 : wo6.Ok Tryz.prog := (fsK w8f fs0)
theorem wx6 : y56.Ok Tryz.prog := fn_ok (k := y56) (fn := Tryz.f109) (W := []) (H := []) Tryz.func109 wt0 trivial rfl rfl (fun av x => by kernel_rfl)
def zn2 (l0_1 : List Int) : Option (List Int) := some l0_1
def z3m (p : Int → Option Bool) (p0_0 : Int) (kx0_0 : List Int → Option (List Int)) : Nat → Int → List Int → Option (List Int)
  | 0, _, _ => none
  | n0 + 1, s0_0, l0_1 => if decide (s0_0 < p0_0) = true then (gd (ok64 (s0_0 + 1)) ((p (s0_0 + 1)).bind fun x5 => (if x5 = true then (gd (ok64 (s0_0 + 1)) (gd (l0_1.length + [(s0_0 + 1)].length ≤ SMALL) (gd (ok64 (s0_0 + 1)) ((z3m p p0_0 kx0_0 n0) (s0_0 + 1) (l0_1 ++ [(s0_0 + 1)]))))) else (gd (ok64 (s0_0 + 1)) ((z3m p p0_0 kx0_0 n0) (s0_0 + 1) l0_1))))) else (kx0_0 l0_1)
def y2j (people : List Int) (p : Int → Option Bool) : Option (List Int) := (ze3 people).bind fun x1 => (if x1 = true then (z3m p (people.length : Int) zn2 FUEL 0 ([] : List Int)) else (some []))
def z2t : Con := ⟨105, [.v (.sl .I) false, .fn .I], [((.sl .I), true)], [], fun x => y2j x.1 x.2.1⟩
def wb3 : Fs := ⟨[zq9], [], []⟩
theorem yl2 : wb3.Ok Tryz.prog := (fsK yc7 fs0)
def y7d : Tmpl := ⟨[(1, .c .fp), (5, .c (.ref 500005)), (11, .c .i), (12, .c .i)], [(500005, .arr .I true)]⟩
def y4d : Tmpl := ⟨[(5, .c (.ref 500005))], [(500005, .arr .I true)]⟩
def w3t (av : AV) (x : HP z2t.ps) (n : Nat) (v : y7d.den) (K : Ks (CR z2t)) : Option (CR z2t) := z3m x.2.1 v.1.2.2.1 (fun l0_1 => y4d.at (fpOf z2t.ps x av) (((), ()), (l0_1, ())) (K (.exit 0))) n v.1.2.2.2.1 v.2.1
def y6e (av : AV) (x : HP z2t.ps) : Hdl (CR z2t) := hnd [.e 5 500005 .I] y7d (w3t av x)
theorem w4q : LP z2t Tryz.f105 [0] y6e := lp_ok (W := []) (H := []) (xs := [y4d]) yl2 trivial rfl (fun av x v K => by kernel_rfl) (fun av x n v K => by kernel_rfl)
theorem wi0 : z2t.Ok Tryz.prog := fn_ok (k := z2t) (fn := Tryz.f105) (W := []) (H := [y6e]) Tryz.func105 yl2 ⟨w4q, trivial⟩ rfl rfl (fun av x => by kernel_rfl)
def zn0 (b : GItem) (task : GTask) (who : Int) : Option Bool := if decide (b.task = task.apart) = true then (some (decide (b.who = who))) else (some false)
def zo0 : FCon := ⟨108, (.s .item), [(.s .task), .I], fun z c => zn0 z c.1 c.2.1⟩
def w19 : Fs := ⟨[], [], []⟩
theorem w1h : w19.Ok Tryz.prog := fs0
theorem w28 : zo0.Ok Tryz.prog := FCon.ok (fn_ok (k := zo0.con) (fn := Tryz.f108) (W := []) (H := []) Tryz.func108 w1h trivial rfl rfl (fun av x => by kernel_rfl))
def z94 (who : Int) (busy : List GItem) (task : GTask) (people : List Int) (did : List GDid) : Option Bool := (z70 busy (fun z => zn0 z task who)).bind fun x1 => ((zw3 people who task.role).bind fun x2 => (if x2 = true then (if x1 = true then (some false) else ((zw2 did who task.apart).bind fun x5 => (some (!x5)))) else (some false)))
def y0h : FCon := ⟨106, .I, [(.sl (.s .item)), (.s .task), (.sl .I), (.sl (.s .did))], fun z c => z94 z c.1 c.2.1 c.2.2.1 c.2.2.2.1⟩
def w6r : Fs := ⟨[za1, y57, y56], [zo0], []⟩
theorem w7f : w6r.Ok Tryz.prog := (fsK yk6 (fsK wx7 (fsK wx6 (fsF w28 fs0))))
theorem w8h : y0h.Ok Tryz.prog := FCon.ok (fn_ok (k := y0h.con) (fn := Tryz.f106) (W := []) (H := []) Tryz.func106 w7f trivial rfl rfl (fun av x => by kernel_rfl))
def zw4 (n : GNet) (people : List Int) (did : List GDid) (busy : List GItem) (t : Int) : Option (List Int) := (z93 n).bind fun x1 => (if x1 = true then ((z0n n t).bind fun x3 => (if x3 = true then ((getI n.tasks t).bind fun x5 => ((y2j people (fun z => z94 z busy x5 people did)).bind fun x6 => (some x6))) else (some []))) else (some []))
def y58 : Con := ⟨35, [.v (.s .net) false, .v (.sl .I) false, .v (.sl (.s .did)) false, .v (.sl (.s .item)) false, .v .I false], [((.sl .I), true)], [], fun x => zw4 x.1 x.2.1 x.2.2.1 x.2.2.2.1 x.2.2.2.2.1⟩
def wo8 : Fs := ⟨[zd7, z1t, z2t], [y0h], []⟩
theorem wt2 : wo8.Ok Tryz.prog := (fsK y1g (fsK z4m (fsK wi0 (fsF w8h fs0))))
theorem wx8 : y58.Ok Tryz.prog := fn_ok (k := y58) (fn := Tryz.f35) (W := []) (H := []) Tryz.func35 wt2 trivial rfl rfl (fun av x => by kernel_rfl)
def zh0 (n : GNet) (data : List Int) : Option GCase := (z93 n).bind fun x1 => (if x1 = true then ((z3c data).bind fun x3 => (if x3 = true then (gd ((0 : Int) ≤ n.places ∧ n.places ≤ (1000000000 : Int)) ((z0g data).bind fun x6 => ((getI (List.replicate n.places.toNat (0 : Int)) 0).bind fun x7 => (some (GCase.mk 1 ((List.replicate n.places.toNat (0 : Int)).set (0 : Int).toNat 1) [] x6 []))))) else (some (GCase.mk 0 [] [] [] [])))) else (some (GCase.mk 0 [] [] [] [])))
def y54 : Con := ⟨65, [.v (.s .net) false, .v (.sl .I) false], [((.s .kase), true)], [], fun x => zh0 x.1 x.2.1⟩
def wo3 : Fs := ⟨[zd7, z5j, z1e], [], []⟩
theorem ws8 : wo3.Ok Tryz.prog := (fsK y1g (fsK z7s (fsK z2n fs0)))
theorem wx3 : y54.Ok Tryz.prog := fn_ok (k := y54) (fn := Tryz.f65) (W := []) (H := []) Tryz.func65 ws8 trivial rfl rfl (fun av x => by kernel_rfl)
end
end Go.Am
