/- Mirrors and contracts, printed. Own work. -/
import Derived.Test.YtgolgnbgomhknaaGreatEyD1
set_option maxRecDepth 100000
set_option maxHeartbeats 4000000
set_option linter.unusedVariables false
set_option linter.unusedSimpArgs false
namespace Go.Am
noncomputable section
open Go Go.Proofs
def z03 (n : Int) (low : Int) (high : Int) : Option Bool := if decide (low ≤ n) = true then (some (decide (n ≤ high))) else (some false)
def z0p : Con := ⟨90, [.v .I false, .v .I false, .v .I false], [(.B, true)], [], fun x => z03 x.1 x.2.1 x.2.2.1⟩
def v61 : Fs := ⟨[], [], []⟩
theorem v65 : v61.Ok Tryz.prog := fs0
theorem z0x : z0p.Ok Tryz.prog := fn_ok (k := z0p) (fn := Tryz.f90) (W := []) (H := []) Tryz.func90 v65 trivial rfl rfl (fun av x => by kernel_rfl)
def yc9  : Option Bool := some true
def z7p (data : List Int) (kx0_0 : Option Bool) : Nat → Int → Option Bool
  | 0, _ => none
  | n0 + 1, s0_0 => if decide (s0_0 < (data.length : Int)) = true then ((getI data s0_0).bind fun x3 => ((z03 x3 (-99) 99).bind fun x4 => (if x4 = true then (gd (ok64 (s0_0 + 1)) ((z7p data kx0_0 n0) (s0_0 + 1))) else (some false)))) else (kx0_0)
def z2y (data : List Int) : Option Bool := if decide ((data.length : Int) = 3) = true then (z7p data yc9 FUEL 0) else (some false)
def z1d : Con := ⟨89, [.v (.sl .I) false], [(.B, true)], [], fun x => z2y x.1⟩
def v2m : Fs := ⟨[z0p], [], []⟩
theorem w3g : v2m.Ok Tryz.prog := (fsK z0x fs0)
def ys0 : Tmpl := ⟨[(0, .c (.s .I)), (3, .c .i)], []⟩
def yj0 : Tmpl := ⟨[], []⟩
def wc0 (av : AV) (x : HP z1d.ps) (n : Nat) (v : ys0.den) (K : Ks (CR z1d)) : Option (CR z1d) := z7p v.1.1 (yj0.at none ((), ()) (K (.exit 0))) n v.1.2.1
def yp6 (av : AV) (x : HP z1d.ps) : Hdl (CR z1d) := hnd [] ys0 (wc0 av x)
theorem wi9 : LP z1d Tryz.f89 [0] yp6 := lp_ok (W := []) (H := []) (xs := [yj0]) w3g trivial rfl (fun av x v K => by kernel_rfl) (fun av x n v K => by kernel_rfl)
theorem z75 : z1d.Ok Tryz.prog := fn_ok (k := z1d) (fn := Tryz.f89) (W := []) (H := [yp6]) Tryz.func89 w3g ⟨wi9, trivial⟩ rfl rfl (fun av x => by kernel_rfl)
def z8b (data : List Int) (k : Int) (n : Int) : Option (List Int) := (z2y data).bind fun x1 => (if x1 = true then ((z03 k 0 2).bind fun x3 => (if x3 = true then ((z03 n (-99) 99).bind fun x5 => (if x5 = true then (gd (([] : List Int).length + data.length ≤ SMALL) ((getI (([] : List Int) ++ data) k).bind fun x8 => (some ((([] : List Int) ++ data).set k.toNat n)))) else (gd (([] : List Int).length + data.length ≤ SMALL) (some (([] : List Int) ++ data))))) else (gd (([] : List Int).length + data.length ≤ SMALL) (some (([] : List Int) ++ data))))) else (gd (([] : List Int).length + data.length ≤ SMALL) (some (([] : List Int) ++ data))))
def zw7 : Con := ⟨171, [.v (.sl .I) false, .v .I false, .v .I false], [((.sl .I), true)], [], fun x => z8b x.1 x.2.1 x.2.2.1⟩
def wt2 : Fs := ⟨[z1d, z0p], [], []⟩
theorem wx0 : wt2.Ok Tryz.prog := (fsK z75 (fsK z0x fs0))
theorem w0r : zw7.Ok Tryz.prog := fn_ok (k := zw7) (fn := Tryz.f171) (W := []) (H := []) Tryz.func171 wx0 trivial rfl rfl (fun av x => by kernel_rfl)
def z6y (e : GAsk) : Option Bool := if decide (e.op = 0) = true then (some (decide ([e.op, e.var, e.k] = [0, 0, 0]))) else ((z03 e.op 1 3).bind fun x2 => (if x2 = true then ((z03 e.var 0 2).bind fun x4 => (if x4 = true then ((z03 e.k (-99) 99).bind fun x6 => (some x6)) else (some false))) else (some false)))
def z97 : Con := ⟨138, [.v (.s .ask) false], [(.B, true)], [], fun x => z6y x.1⟩
def v2o : Fs := ⟨[z0p], [], []⟩
theorem v39 : v2o.Ok Tryz.prog := (fsK z0x fs0)
theorem zs4 : z97.Ok Tryz.prog := fn_ok (k := z97) (fn := Tryz.f138) (W := []) (H := []) Tryz.func138 v39 trivial rfl rfl (fun av x => by kernel_rfl)
def z1i (e : GAsk) (data : List Int) : Option Bool := (z6y e).bind fun x1 => (if x1 = true then ((z2y data).bind fun x3 => (if x3 = true then (if decide (e.op = 1) = true then ((getI data e.var).bind fun x6 => (some (decide (x6 < e.k)))) else (if decide (e.op = 2) = true then ((getI data e.var).bind fun x8 => (some (decide (x8 = e.k)))) else (if decide (e.op = 3) = true then ((getI data e.var).bind fun x10 => (some (decide (e.k < x10)))) else (some true)))) else (some false))) else (some false))
def z4o : Con := ⟨181, [.v (.s .ask) false, .v (.sl .I) false], [(.B, true)], [], fun x => z1i x.1 x.2.1⟩
def w7n : Fs := ⟨[z97, z1d], [], []⟩
theorem w89 : w7n.Ok Tryz.prog := (fsK zs4 (fsK z75 fs0))
theorem z7y : z4o.Ok Tryz.prog := fn_ok (k := z4o) (fn := Tryz.f181) (W := []) (H := []) Tryz.func181 w89 trivial rfl rfl (fun av x => by kernel_rfl)
def z0c (n : Int) (low : Int) (high : Int) : Option Bool := if decide (low ≤ n) = true then (some (decide (n ≤ high))) else (some false)
def z1y : Con := ⟨113, [.v .I false, .v .I false, .v .I false], [(.B, true)], [], fun x => z0c x.1 x.2.1 x.2.2.1⟩
def vc7 : Fs := ⟨[], [], []⟩
theorem vd8 : vc7.Ok Tryz.prog := fs0
theorem z2m : z1y.Ok Tryz.prog := fn_ok (k := z1y) (fn := Tryz.f113) (W := []) (H := []) Tryz.func113 vd8 trivial rfl rfl (fun av x => by kernel_rfl)
def z5q (n : Int) : Option Bool := (z0c n (-99) 99).bind fun x1 => (some x1)
def z8p : Con := ⟨114, [.v .I false], [(.B, true)], [], fun x => z5q x.1⟩
def we1 : Fs := ⟨[z1y], [], []⟩
theorem wh0 : we1.Ok Tryz.prog := (fsK z2m fs0)
theorem zr0 : z8p.Ok Tryz.prog := fn_ok (k := z8p) (fn := Tryz.f114) (W := []) (H := []) Tryz.func114 wh0 trivial rfl rfl (fun av x => by kernel_rfl)
def z0h (list : List Int) : Option (List Int) := gd (([] : List Int).length + list.length ≤ SMALL) (some (([] : List Int) ++ list))
def z1h : Con := ⟨140, [.v (.sl .I) false], [((.sl .I), true)], [], fun x => z0h x.1⟩
def w4z : Fs := ⟨[], [], []⟩
theorem w55 : w4z.Ok Tryz.prog := fs0
theorem z2r : z1h.Ok Tryz.prog := fn_ok (k := z1h) (fn := Tryz.f140) (W := []) (H := []) Tryz.func140 w55 trivial rfl rfl (fun av x => by kernel_rfl)
def z7z (e : GAsk) : Option Bool := if decide (e.op = 0) = true then (if decide (e.var = 0) = true then (some (decide (e.k = 0))) else (some false)) else ((z0c e.op 1 3).bind fun x3 => (if x3 = true then ((z0c e.var 0 2).bind fun x5 => (if x5 = true then ((z5q e.k).bind fun x7 => (some x7)) else (some false))) else (some false)))
def zr7 : Con := ⟨141, [.v (.s .ask) false], [(.B, true)], [], fun x => z7z x.1⟩
def v2b : Fs := ⟨[z1y, z8p], [], []⟩
theorem v33 : v2b.Ok Tryz.prog := (fsK z2m (fsK zr0 fs0))
theorem ye3 : zr7.Ok Tryz.prog := fn_ok (k := zr7) (fn := Tryz.f141) (W := []) (H := []) Tryz.func141 v33 trivial rfl rfl (fun av x => by kernel_rfl)
def y46  : Option Bool := some true
def z42 (list : List Int) (low : Int) (high : Int) (kx0_0 : Option Bool) : Nat → Int → Option Bool
  | 0, _ => none
  | n0 + 1, s0_0 => if decide (s0_0 < (list.length : Int)) = true then ((getI list s0_0).bind fun x4 => ((z03 x4 low high).bind fun x5 => (if x5 = true then (if decide (0 < s0_0) = true then (gd (ok64 (s0_0 - 1)) ((getI list (s0_0 - 1)).bind fun x9 => ((getI list s0_0).bind fun x10 => (if decide (x10 ≤ x9) = true then (some false) else (gd (ok64 (s0_0 + 1)) ((z42 list low high kx0_0 n0) (s0_0 + 1))))))) else (gd (ok64 (s0_0 + 1)) ((z42 list low high kx0_0 n0) (s0_0 + 1)))) else (some false)))) else (kx0_0)
def zc0 (list : List Int) (least : Int) (most : Int) (low : Int) (high : Int) : Option Bool := (z03 (list.length : Int) least most).bind fun x1 => (if x1 = true then (z42 list low high y46 FUEL 0) else (some false))
def z4h : Con := ⟨214, [.v (.sl .I) false, .v .I false, .v .I false, .v .I false, .v .I false], [(.B, true)], [], fun x => zc0 x.1 x.2.1 x.2.2.1 x.2.2.2.1 x.2.2.2.2.1⟩
def wg2 : Fs := ⟨[z0p], [], []⟩
theorem yo6 : wg2.Ok Tryz.prog := (fsK z0x fs0)
def y8b : Tmpl := ⟨[(0, .c (.s .I)), (3, .c .i), (4, .c .i), (11, .c .i)], []⟩
def y56 : Tmpl := ⟨[], []⟩
def w4u (av : AV) (x : HP z4h.ps) (n : Nat) (v : y8b.den) (K : Ks (CR z4h)) : Option (CR z4h) := z42 v.1.1 v.1.2.1 v.1.2.2.1 (y56.at none ((), ()) (K (.exit 0))) n v.1.2.2.2.1
def y7b (av : AV) (x : HP z4h.ps) : Hdl (CR z4h) := hnd [] y8b (w4u av x)
theorem w5t : LP z4h Tryz.f214 [0] y7b := lp_ok (W := []) (H := []) (xs := [y56]) yo6 trivial rfl (fun av x v K => by kernel_rfl) (fun av x n v K => by kernel_rfl)
theorem wm7 : z4h.Ok Tryz.prog := fn_ok (k := z4h) (fn := Tryz.f214) (W := []) (H := [y7b]) Tryz.func214 yo6 ⟨w5t, trivial⟩ rfl rfl (fun av x => by kernel_rfl)
def ye0  : Option Bool := some false
def z7w (list : List Int) (n : Int) (kx0_0 : Option Bool) : Nat → Int → Option Bool
  | 0, _ => none
  | n0 + 1, s0_0 => if decide (s0_0 < (list.length : Int)) = true then ((getI list s0_0).bind fun x2 => (if decide (x2 = n) = true then (some true) else (gd (ok64 (s0_0 + 1)) ((z7w list n kx0_0 n0) (s0_0 + 1))))) else (kx0_0)
def ze8 (list : List Int) (n : Int) : Option Bool := z7w list n ye0 FUEL 0
def z4p : Con := ⟨101, [.v (.sl .I) false, .v .I false], [(.B, true)], [], fun x => ze8 x.1 x.2.1⟩
def v2v : Fs := ⟨[], [], []⟩
theorem w3n : v2v.Ok Tryz.prog := fs0
def ys8 : Tmpl := ⟨[(0, .c (.s .I)), (1, .c .i), (5, .c .i)], []⟩
def yj7 : Tmpl := ⟨[], []⟩
def wc8 (av : AV) (x : HP z4p.ps) (n : Nat) (v : ys8.den) (K : Ks (CR z4p)) : Option (CR z4p) := z7w v.1.1 v.1.2.1 (yj7.at none ((), ()) (K (.exit 0))) n v.1.2.2.1
def yq4 (av : AV) (x : HP z4p.ps) : Hdl (CR z4p) := hnd [] ys8 (wc8 av x)
theorem wj7 : LP z4p Tryz.f101 [0] yq4 := lp_ok (W := []) (H := []) (xs := [yj7]) w3n trivial rfl (fun av x v K => by kernel_rfl) (fun av x n v K => by kernel_rfl)
theorem yf3 : z4p.Ok Tryz.prog := fn_ok (k := z4p) (fn := Tryz.f101) (W := []) (H := [yq4]) Tryz.func101 w3n ⟨wj7, trivial⟩ rfl rfl (fun av x => by kernel_rfl)
def y43 (s0_0 : Int) (bk0 : Int → Option Bool) : Option Bool := gd (ok64 (s0_0 + 1)) (bk0 (s0_0 + 1))
def z2z (t : GTask) (s0_0 : Int) (x4 : GFlow) (kx1_0 : Option Bool) : Nat → Int → Option Bool
  | 0, _ => none
  | n1 + 1, s1_0 => if decide (s1_0 < s0_0) = true then ((getI t.out s1_0).bind fun x14 => (if decide (x14.to = x4.to) = true then (some false) else (gd (ok64 (s1_0 + 1)) ((z2z t s0_0 x4 kx1_0 n1) (s1_0 + 1))))) else (kx1_0)
def y44 (s0_0 : Int) (bk0 : Int → Option Bool) : Option Bool := gd (ok64 (s0_0 + 1)) (bk0 (s0_0 + 1))
def y45  : Option Bool := some true
def z41 (t : GTask) (places : Int) (kx0_0 : Option Bool) : Nat → Int → Option Bool
  | 0, _ => none
  | n0 + 1, s0_0 => if decide (s0_0 < (t.out.length : Int)) = true then ((getI t.out s0_0).bind fun x4 => (gd (ok64 ((t.out.length : Int) - 1)) (if decide (s0_0 = ((t.out.length : Int) - 1)) = true then (gd (ok64 (places - 1)) ((z03 x4.to 1 (places - 1)).bind fun x8 => (if x8 = true then ((z6y x4.if_).bind fun x10 => (if x10 = true then (if (true == (decide (x4.if_.op = 0))) = true then (z2z t s0_0 x4 (y43 s0_0 (z41 t places kx0_0 n0)) FUEL 0) else (some false)) else (some false))) else (some false)))) else (gd (ok64 (places - 1)) ((z03 x4.to 1 (places - 1)).bind fun x19 => (if x19 = true then ((z6y x4.if_).bind fun x21 => (if x21 = true then (if ((decide (t.split = 1)) == (decide (x4.if_.op = 0))) = true then (z2z t s0_0 x4 (y44 s0_0 (z41 t places kx0_0 n0)) FUEL 0) else (some false)) else (some false))) else (some false))))))) else (kx0_0)
def zq9 (t : GTask) (places : Int) : Option Bool := (z03 (t.out.length : Int) 1 3).bind fun x1 => (if x1 = true then (z41 t places y45 FUEL 0) else (some false))
def z12 : Con := ⟨215, [.v (.s .task) false, .v .I false], [(.B, true)], [], fun x => zq9 x.1 x.2.1⟩
def wg1 : Fs := ⟨[z0p, z97], [], []⟩
theorem y2k : wg1.Ok Tryz.prog := (fsK z0x (fsK zs4 fs0))
def y23 : Tmpl := ⟨[(1, .c .i), (2, .c (.bx 2 0)), (5, .c .i), (6, .c (.bx 6 0)), (8, .c .i)], [(2, .boxT (.s .task)), (6, .boxT (.s .flow))]⟩
def y14 : Tmpl := ⟨[(1, .c .i), (2, .c (.bx 2 0)), (5, .c .i)], [(2, .boxT (.s .task))]⟩
def yx4 (av : AV) (x : HP z12.ps) (n : Nat) (v : y23.den) (K : Ks (CR z12)) : Option (CR z12) := z2z v.2.1 v.1.2.2.1 v.2.2.1 (y14.at none ((v.1.1, (), v.1.2.2.1, ()), (v.2.1, ())) (K (.exit 2))) n v.1.2.2.2.2.1
def y1d (av : AV) (x : HP z12.ps) : Hdl (CR z12) := hnd [] y23 (yx4 av x)
theorem w0e : LP z12 Tryz.f215 [0, 0] y1d := lp_ok (W := []) (H := []) (xs := [y14]) y2k trivial rfl (fun av x v K => by kernel_rfl) (fun av x n v K => by kernel_rfl)
def y8a : Tmpl := ⟨[(1, .c .i), (2, .c (.bx 2 0)), (5, .c .i)], [(2, .boxT (.s .task))]⟩
def y55 : Tmpl := ⟨[], []⟩
def w4t (av : AV) (x : HP z12.ps) (n : Nat) (v : y8a.den) (K : Ks (CR z12)) : Option (CR z12) := z41 v.2.1 v.1.1 (y55.at none ((), ()) (K (.exit 0))) n v.1.2.2.1
def y7a (av : AV) (x : HP z12.ps) : Hdl (CR z12) := hnd [] y8a (w4t av x)
theorem w5s : LP z12 Tryz.f215 [0] y7a := lp_ok (W := []) (H := [y1d]) (xs := [y55]) y2k ⟨w0e, trivial⟩ rfl (fun av x v K => by kernel_rfl) (fun av x n v K => by kernel_rfl)
theorem wm6 : z12.Ok Tryz.prog := fn_ok (k := z12) (fn := Tryz.f215) (W := []) (H := [y7a]) Tryz.func215 y2k ⟨w5s, trivial⟩ rfl rfl (fun av x => by kernel_rfl)
def zz1 (t : GTask) (places : Int) (tasks : Int) : Option Bool := (z03 t.join 1 3).bind fun x1 => (if x1 = true then ((z03 t.split 1 3).bind fun x3 => (if x3 = true then (gd (ok64 (places - 1)) ((zc0 t.in_ 1 3 0 (places - 1)).bind fun x6 => (if x6 = true then ((ze8 t.in_ 1).bind fun x8 => (if x8 = true then (some false) else ((zq9 t places).bind fun x10 => (if x10 = true then (gd (ok64 (places - 1)) ((zc0 t.clear 0 places 2 (places - 1)).bind fun x13 => (if x13 = true then ((z03 t.role 1 3).bind fun x15 => (if x15 = true then (gd (ok64 (tasks - 1)) ((z03 t.apart (-1) (tasks - 1)).bind fun x18 => (if x18 = true then ((z03 t.all 1 3).bind fun x20 => (if x20 = true then ((z03 t.need 1 t.all).bind fun x22 => (some x22)) else (some false))) else (some false)))) else (some false))) else (some false)))) else (some false))))) else (some false)))) else (some false))) else (some false))
def y5x : Con := ⟨198, [.v (.s .task) false, .v .I false, .v .I false], [(.B, true)], [], fun x => zz1 x.1 x.2.1 x.2.2.1⟩
def wu6 : Fs := ⟨[z0p, z4h, z4p, z12], [], []⟩
theorem wx8 : wu6.Ok Tryz.prog := (fsK z0x (fsK wm7 (fsK yf3 (fsK wm6 fs0))))
theorem v0r : y5x.Ok Tryz.prog := fn_ok (k := y5x) (fn := Tryz.f198) (W := []) (H := []) Tryz.func198 wx8 trivial rfl rfl (fun av x => by kernel_rfl)
def yd3  : Option Bool := some true
def z7t (n : GNet) (kx0_0 : Option Bool) : Nat → Int → Option Bool
  | 0, _ => none
  | n0 + 1, s0_0 => if decide (s0_0 < (n.tasks.length : Int)) = true then ((getI n.tasks s0_0).bind fun x6 => ((zz1 x6 n.places (n.tasks.length : Int)).bind fun x7 => (if x7 = true then (gd (ok64 (s0_0 + 1)) ((z7t n kx0_0 n0) (s0_0 + 1))) else (some false)))) else (kx0_0)
def z3m (n : GNet) : Option Bool := (z03 n.places 2 8).bind fun x1 => (if x1 = true then ((z03 (n.tasks.length : Int) 1 6).bind fun x3 => (if x3 = true then (z7t n yd3 FUEL 0) else (some false))) else (some false))
def z2v : Con := ⟨161, [.v (.s .net) false], [(.B, true)], [], fun x => z3m x.1⟩
def v2r : Fs := ⟨[z0p, y5x], [], []⟩
theorem w3k : v2r.Ok Tryz.prog := (fsK z0x (fsK v0r fs0))
def ys4 : Tmpl := ⟨[(1, .c (.bx 1 0)), (3, .c .i)], [(1, .boxT (.s .net))]⟩
def yj4 : Tmpl := ⟨[], []⟩
def wc4 (av : AV) (x : HP z2v.ps) (n : Nat) (v : ys4.den) (K : Ks (CR z2v)) : Option (CR z2v) := z7t v.2.1 (yj4.at none ((), ()) (K (.exit 0))) n v.1.2.1
def yq0 (av : AV) (x : HP z2v.ps) : Hdl (CR z2v) := hnd [] ys4 (wc4 av x)
theorem wj3 : LP z2v Tryz.f161 [0] yq0 := lp_ok (W := []) (H := []) (xs := [yj4]) w3k trivial rfl (fun av x v K => by kernel_rfl) (fun av x n v K => by kernel_rfl)
theorem zs5 : z2v.Ok Tryz.prog := fn_ok (k := z2v) (fn := Tryz.f161) (W := []) (H := [yq0]) Tryz.func161 w3k ⟨wj3, trivial⟩ rfl rfl (fun av x => by kernel_rfl)
def zj3 (s1_0 : Int) (bk1 : Int → List Bool → Option (List Bool)) (l3_1 : List Bool) : Option (List Bool) := gd (ok64 (s1_0 + 1)) (bk1 (s1_0 + 1) l3_1)
def zj4 (s1_0 : Int) (bk1 : Int → List Bool → Option (List Bool)) (l3_1 : List Bool) : Option (List Bool) := gd (ok64 (s1_0 + 1)) (bk1 (s1_0 + 1) l3_1)
def zj5 (s1_0 : Int) (bk1 : Int → List Bool → Option (List Bool)) (l3_1 : List Bool) : Option (List Bool) := gd (ok64 (s1_0 + 1)) (bk1 (s1_0 + 1) l3_1)
def z1q (n : GNet) (but : Int) (s1_0 : Int) (s2_0 : Bool) (kx3_0 : List Bool → Option (List Bool)) (kx3_1 : List Bool → Option (List Bool)) (kx3_2 : List Bool → Option (List Bool)) : Nat → Int → List Bool → Option (List Bool)
  | 0, _, _ => none
  | n3 + 1, s3_0, l3_1 => (getI n.tasks s1_0).bind fun x12 => (if decide (s3_0 < (x12.out.length : Int)) = true then (if s2_0 = true then (if decide (s1_0 = but) = true then (kx3_0 l3_1) else ((getI n.tasks s1_0).bind fun x17 => ((getI x17.out s3_0).bind fun x18 => ((getI l3_1 x18.to).bind fun x19 => (gd (ok64 (s3_0 + 1)) ((z1q n but s1_0 s2_0 kx3_0 kx3_1 kx3_2 n3) (s3_0 + 1) (l3_1.set x18.to.toNat true))))))) else (kx3_1 l3_1)) else (kx3_2 l3_1))
def y1r (n : GNet) (but : Int) (s1_0 : Int) (l1_1 : List Bool) (bk1 : Int → List Bool → Option (List Bool)) (s2_0 : Bool) : Option (List Bool) := z1q n but s1_0 s2_0 (zj3 s1_0 bk1) (zj4 s1_0 bk1) (zj5 s1_0 bk1) FUEL 0 l1_1
def z2d (n : GNet) (s1_0 : Int) (l1_1 : List Bool) (kx2_0 : Bool → Option (List Bool)) : Nat → Bool → Int → Option (List Bool)
  | 0, _, _ => none
  | n2 + 1, s2_0, s2_1 => (getI n.tasks s1_0).bind fun x4 => (if decide (s2_1 < (x4.in_.length : Int)) = true then (if s2_0 = true then (gd (ok64 (s2_1 + 1)) ((z2d n s1_0 l1_1 kx2_0 n2) true (s2_1 + 1))) else ((getI n.tasks s1_0).bind fun x8 => ((getI x8.in_ s2_1).bind fun x9 => ((getI l1_1 x9).bind fun x10 => (gd (ok64 (s2_1 + 1)) ((z2d n s1_0 l1_1 kx2_0 n2) x10 (s2_1 + 1))))))) else (kx2_0 s2_0))
def y1s (s0_0 : Int) (bk0 : Int → List Bool → Option (List Bool)) (l1_1 : List Bool) : Option (List Bool) := gd (ok64 (s0_0 + 1)) (bk0 (s0_0 + 1) l1_1)
def z0n (n : GNet) (but : Int) (kx1_0 : List Bool → Option (List Bool)) : Nat → Int → List Bool → Option (List Bool)
  | 0, _, _ => none
  | n1 + 1, s1_0, l1_1 => if decide (s1_0 < (n.tasks.length : Int)) = true then (z2d n s1_0 l1_1 (y1r n but s1_0 l1_1 (z0n n but kx1_0 n1)) FUEL false 0) else (kx1_0 l1_1)
def y1t (l0_1 : List Bool) : Option (List Bool) := some l0_1
def z4z (n : GNet) (but : Int) (kx0_0 : List Bool → Option (List Bool)) : Nat → Int → List Bool → Option (List Bool)
  | 0, _, _ => none
  | n0 + 1, s0_0, l0_1 => if decide (s0_0 < n.places) = true then (z0n n but (y1s s0_0 (z4z n but kx0_0 n0)) FUEL 0 l0_1) else (kx0_0 l0_1)
def zj2 (n : GNet) (marked : List Bool) (but : Int) : Option (List Bool) := gd (([] : List Bool).length + marked.length ≤ SMALL) (z4z n but y1t FUEL 0 (([] : List Bool) ++ marked))
def z07 : Con := ⟨216, [.v (.s .net) false, .v (.sl .B) false, .v .I false], [((.sl .B), true)], [], fun x => zj2 x.1 x.2.1 x.2.2.1⟩
def w7s : Fs := ⟨[], [], []⟩
theorem z93 : w7s.Ok Tryz.prog := fs0
def zs9 : Tmpl := ⟨[(2, .c .i), (3, .c (.bx 3 0)), (7, .c (.ref 15)), (8, .c .i), (9, .c .i), (10, .c .b), (11, .c .i)], [(3, .boxT (.s .net)), (15, .arr .B true)]⟩
def zm8 : Tmpl := ⟨[(2, .c .i), (3, .c (.bx 3 0)), (7, .c (.ref 15)), (8, .c .i), (9, .c .i), (10, .c .b)], [(3, .boxT (.s .net)), (15, .arr .B true)]⟩
def y96 (av : AV) (x : HP z07.ps) (n : Nat) (v : zs9.den) (K : Ks (CR z07)) : Option (CR z07) := z2d v.2.1 v.1.2.2.2.2.1 v.2.2.1 (fun s2_0 => zm8.at none ((v.1.1, (), (), v.1.2.2.2.1, v.1.2.2.2.2.1, s2_0, ()), (v.2.1, v.2.2.1, ())) (K (.exit 4))) n v.1.2.2.2.2.2.1 v.1.2.2.2.2.2.2.1
def zr4 (av : AV) (x : HP z07.ps) : Hdl (CR z07) := hnd [] zs9 (y96 av x)
theorem yc0 : LP z07 Tryz.f216 [0, 0, 0] zr4 := lp_ok (W := []) (H := []) (xs := [zm8]) z93 trivial rfl (fun av x v K => by kernel_rfl) (fun av x n v K => by kernel_rfl)
def zt0 : Tmpl := ⟨[(2, .c .i), (3, .c (.bx 3 0)), (7, .c (.ref 15)), (8, .c .i), (9, .c .i), (10, .c .b), (12, .c .i)], [(3, .boxT (.s .net)), (15, .arr .B true)]⟩
def z62 : Tmpl := ⟨[(2, .c .i), (3, .c (.bx 3 0)), (7, .c (.ref 15)), (8, .c .i), (9, .c .i)], [(3, .boxT (.s .net)), (15, .arr .B true)]⟩
def y97 (av : AV) (x : HP z07.ps) (n : Nat) (v : zt0.den) (K : Ks (CR z07)) : Option (CR z07) := z1q v.2.1 v.1.1 v.1.2.2.2.2.1 v.1.2.2.2.2.2.1 (fun l3_1 => z62.at none ((v.1.1, (), (), v.1.2.2.2.1, v.1.2.2.2.2.1, ()), (v.2.1, l3_1, ())) (K (.exit 6))) (fun l3_1 => z62.at none ((v.1.1, (), (), v.1.2.2.2.1, v.1.2.2.2.2.1, ()), (v.2.1, l3_1, ())) (K (.exit 6))) (fun l3_1 => z62.at none ((v.1.1, (), (), v.1.2.2.2.1, v.1.2.2.2.2.1, ()), (v.2.1, l3_1, ())) (K (.exit 6))) n v.1.2.2.2.2.2.2.1 v.2.2.1
def zr5 (av : AV) (x : HP z07.ps) : Hdl (CR z07) := hnd [] zt0 (y97 av x)
theorem yc1 : LP z07 Tryz.f216 [0, 0, 1] zr5 := lp_ok (W := []) (H := []) (xs := [z62]) z93 trivial rfl (fun av x v K => by kernel_rfl) (fun av x n v K => by kernel_rfl)
def y0z : Tmpl := ⟨[(2, .c .i), (3, .c (.bx 3 0)), (7, .c (.ref 15)), (8, .c .i), (9, .c .i)], [(3, .boxT (.s .net)), (15, .arr .B true)]⟩
def zv8 : Tmpl := ⟨[(2, .c .i), (3, .c (.bx 3 0)), (7, .c (.ref 15)), (8, .c .i)], [(3, .boxT (.s .net)), (15, .arr .B true)]⟩
def yt3 (av : AV) (x : HP z07.ps) (n : Nat) (v : y0z.den) (K : Ks (CR z07)) : Option (CR z07) := z0n v.2.1 v.1.1 (fun l1_1 => zv8.at none ((v.1.1, (), (), v.1.2.2.2.1, ()), (v.2.1, l1_1, ())) (K (.exit 2))) n v.1.2.2.2.2.1 v.2.2.1
def y0a (av : AV) (x : HP z07.ps) : Hdl (CR z07) := hnd [] y0z (yt3 av x)
theorem yv5 : LP z07 Tryz.f216 [0, 0] y0a := lp_ok (W := []) (H := [zr4, zr5]) (xs := [zv8]) z93 ⟨yc0, yc1, trivial⟩ rfl (fun av x v K => by kernel_rfl) (fun av x n v K => by kernel_rfl)
def y4j : Tmpl := ⟨[(2, .c .i), (3, .c (.bx 3 0)), (7, .c (.ref 15)), (8, .c .i)], [(3, .boxT (.s .net)), (15, .arr .B true)]⟩
def y2b : Tmpl := ⟨[(7, .c (.ref 15))], [(15, .arr .B true)]⟩
def w1o (av : AV) (x : HP z07.ps) (n : Nat) (v : y4j.den) (K : Ks (CR z07)) : Option (CR z07) := z4z v.2.1 v.1.1 (fun l0_1 => y2b.at none (((), ()), (l0_1, ())) (K (.exit 0))) n v.1.2.2.2.1 v.2.2.1
def y3q (av : AV) (x : HP z07.ps) : Hdl (CR z07) := hnd [] y4j (w1o av x)
theorem w2n : LP z07 Tryz.f216 [0] y3q := lp_ok (W := []) (H := [y0a]) (xs := [y2b]) z93 ⟨yv5, trivial⟩ rfl (fun av x v K => by kernel_rfl) (fun av x n v K => by kernel_rfl)
theorem w9e : z07.Ok Tryz.prog := fn_ok (k := z07) (fn := Tryz.f216) (W := []) (H := [y3q]) Tryz.func216 z93 ⟨w2n, trivial⟩ rfl rfl (fun av x => by kernel_rfl)
def zx6 (kind : Int) : Option Bool := (z0c kind 1 3).bind fun x1 => (some x1)
def y5r : Con := ⟨177, [.v .I false], [(.B, true)], [], fun x => zx6 x.1⟩
def ws2 : Fs := ⟨[z1y], [], []⟩
theorem ww6 : ws2.Ok Tryz.prog := (fsK z2m fs0)
theorem v0c : y5r.Ok Tryz.prog := fn_ok (k := y5r) (fn := Tryz.f177) (W := []) (H := []) Tryz.func177 ww6 trivial rfl rfl (fun av x => by kernel_rfl)
def zi0 (role : Int) : Option Bool := (z0c role 1 3).bind fun x1 => (some x1)
def zw5 : Con := ⟨151, [.v .I false], [(.B, true)], [], fun x => zi0 x.1⟩
def ws3 : Fs := ⟨[z1y], [], []⟩
theorem ww7 : ws3.Ok Tryz.prog := (fsK z2m fs0)
theorem w0p : zw5.Ok Tryz.prog := fn_ok (k := zw5) (fn := Tryz.f151) (W := []) (H := []) Tryz.func151 ww7 trivial rfl rfl (fun av x => by kernel_rfl)
def y2z (places : Int) (tasks : Int) : Option Bool := (z0c places 2 8).bind fun x1 => (if x1 = true then ((z0c tasks 1 6).bind fun x3 => (some x3)) else (some false))
def y2n : Con := ⟨122, [.v .I false, .v .I false], [(.B, true)], [], fun x => y2z x.1 x.2.1⟩
def we4 : Fs := ⟨[z1y], [], []⟩
theorem wh2 : we4.Ok Tryz.prog := (fsK z2m fs0)
theorem wl2 : y2n.Ok Tryz.prog := fn_ok (k := y2n) (fn := Tryz.f122) (W := []) (H := []) Tryz.func122 wh2 trivial rfl rfl (fun av x => by kernel_rfl)
def z0q (n : GNet) (t : Int) : Option Bool := gd (ok64 ((n.tasks.length : Int) - 1)) ((z0c t 0 ((n.tasks.length : Int) - 1)).bind fun x2 => (some x2))
def z1x : Con := ⟨96, [.v (.s .net) false, .v .I false], [(.B, true)], [], fun x => z0q x.1 x.2.1⟩
def y9b : Fs := ⟨[z1y], [], []⟩
theorem y9e : y9b.Ok Tryz.prog := (fsK z2m fs0)
theorem z4s : z1x.Ok Tryz.prog := fn_ok (k := z1x) (fn := Tryz.f96) (W := []) (H := []) Tryz.func96 y9e trivial rfl rfl (fun av x => by kernel_rfl)
def z7a (t : GTask) : Option GTask := (z0h t.in_).bind fun x1 => (gd (([] : List GFlow).length + t.out.length ≤ SMALL) ((z0h t.clear).bind fun x3 => (some (GTask.mk t.join t.split x1 (([] : List GFlow) ++ t.out) x3 t.role t.apart t.all t.need))))
def za9 : Con := ⟨207, [.v (.s .task) false], [((.s .task), true)], [], fun x => z7a x.1⟩
def ym2 : Fs := ⟨[z1h], [], []⟩
theorem ym7 : ym2.Ok Tryz.prog := (fsK z2r fs0)
theorem yn2 : za9.Ok Tryz.prog := fn_ok (k := za9) (fn := Tryz.f207) (W := []) (H := []) Tryz.func207 ym7 trivial rfl rfl (fun av x => by kernel_rfl)
def z8w (p0_3 : Int) (l0_1 : List GTask) : Option GNet := some (GNet.mk p0_3 l0_1)
def z2i (p0_0 : List GTask) (p0_1 : Int) (kx0_0 : List GTask → Option GNet) : Nat → Int → List GTask → Option GNet
  | 0, _, _ => none
  | n0 + 1, s0_0, l0_1 => if decide (s0_0 < p0_1) = true then ((getI p0_0 s0_0).bind fun x2 => ((z7a x2).bind fun x3 => (gd (l0_1.length + [x3].length ≤ SMALL) (gd (ok64 (s0_0 + 1)) ((z2i p0_0 p0_1 kx0_0 n0) (s0_0 + 1) (l0_1 ++ [x3])))))) else (kx0_0 l0_1)
def z87 (n : GNet) : Option GNet := z2i n.tasks (n.tasks.length : Int) (z8w n.places) FUEL 0 ([] : List GTask)
def z1f : Con := ⟨184, [.v (.s .net) false], [((.s .net), true)], [], fun x => z87 x.1⟩
def yu0 : Fs := ⟨[za9], [], []⟩
theorem y04 : yu0.Ok Tryz.prog := (fsK yn2 fs0)
def zs7 : Tmpl := ⟨[(2, .c (.bx 2 0)), (3, .c (.bx 3 0)), (10, .c (.s (.s .task))), (11, .c .i), (12, .c .i)], [(2, .box [.i, .nl]), (3, .box [.i, .ref 510301]), (510301, .arr (.s .task) true)]⟩
def zm6 : Tmpl := ⟨[(2, .c (.bx 2 0)), (3, .c (.bx 3 0))], [(2, .box [.i, .nl]), (3, .box [.i, .ref 510301]), (510301, .arr (.s .task) true)]⟩
def y94 (av : AV) (x : HP z1f.ps) (n : Nat) (v : zs7.den) (K : Ks (CR z1f)) : Option (CR z1f) := z2i v.1.2.2.1 v.1.2.2.2.1 (fun l0_1 => zm6.at none (((), (), ()), ((v.2.1.1, (), ()), (v.2.2.1.1, (), ()), l0_1, ())) (K (.exit 0))) n v.1.2.2.2.2.1 v.2.2.2.1
def zr2 (av : AV) (x : HP z1f.ps) : Hdl (CR z1f) := hnd [.b 3 1 510301 (.s .task)] zs7 (y94 av x)
theorem yb8 : LP z1f Tryz.f184 [0] zr2 := lp_ok (W := []) (H := []) (xs := [zm6]) y04 trivial rfl (fun av x v K => by kernel_rfl) (fun av x n v K => by kernel_rfl)
theorem yw3 : z1f.Ok Tryz.prog := fn_ok (k := z1f) (fn := Tryz.f184) (W := []) (H := [zr2]) Tryz.func184 y04 ⟨yb8, trivial⟩ rfl rfl (fun av x => by kernel_rfl)
def yd2  : Option Bool := some true
def z7s (marks : List Int) (kx0_0 : Option Bool) : Nat → Int → Option Bool
  | 0, _ => none
  | n0 + 1, s0_0 => if decide (s0_0 < (marks.length : Int)) = true then ((getI marks s0_0).bind fun x5 => ((z03 x5 0 4).bind fun x6 => (if x6 = true then (gd (ok64 (s0_0 + 1)) ((z7s marks kx0_0 n0) (s0_0 + 1))) else (some false)))) else (kx0_0)
def z9e (n : GNet) (marks : List Int) : Option Bool := (z3m n).bind fun x1 => (if x1 = true then (if decide ((marks.length : Int) = n.places) = true then (z7s marks yd2 FUEL 0) else (some false)) else (some false))
def z3i : Con := ⟨87, [.v (.s .net) false, .v (.sl .I) false], [(.B, true)], [], fun x => z9e x.1 x.2.1⟩
def v2q : Fs := ⟨[z2v, z0p], [], []⟩
theorem w3j : v2q.Ok Tryz.prog := (fsK zs5 (fsK z0x fs0))
def ys3 : Tmpl := ⟨[(1, .c (.s .I)), (5, .c .i)], []⟩
def yj3 : Tmpl := ⟨[], []⟩
def wc3 (av : AV) (x : HP z3i.ps) (n : Nat) (v : ys3.den) (K : Ks (CR z3i)) : Option (CR z3i) := z7s v.1.1 (yj3.at none ((), ()) (K (.exit 0))) n v.1.2.1
def yp9 (av : AV) (x : HP z3i.ps) : Hdl (CR z3i) := hnd [] ys3 (wc3 av x)
theorem wj2 : LP z3i Tryz.f87 [0] yp9 := lp_ok (W := []) (H := []) (xs := [yj3]) w3j trivial rfl (fun av x v K => by kernel_rfl) (fun av x n v K => by kernel_rfl)
theorem y1x : z3i.Ok Tryz.prog := fn_ok (k := z3i) (fn := Tryz.f87) (W := []) (H := [yp9]) Tryz.func87 w3j ⟨wj2, trivial⟩ rfl rfl (fun av x => by kernel_rfl)
def zd3 (s0_0 : Bool) (s0_1 : Bool) : Option (Bool × Bool) := some (s0_0, s0_1)
def z25 (marks : List Int) (list : List Int) (kx0_0 : Bool → Bool → Option (Bool × Bool)) : Nat → Bool → Bool → Int → Option (Bool × Bool)
  | 0, _, _, _ => none
  | n0 + 1, s0_0, s0_1, s0_2 => if decide (s0_2 < (list.length : Int)) = true then (if s0_0 = true then (if s0_1 = true then ((getI list s0_2).bind fun x4 => ((getI marks x4).bind fun x5 => (gd (ok64 (s0_2 + 1)) ((z25 marks list kx0_0 n0) true (decide (0 < x5)) (s0_2 + 1))))) else (gd (ok64 (s0_2 + 1)) ((z25 marks list kx0_0 n0) true false (s0_2 + 1)))) else ((getI list s0_2).bind fun x8 => ((getI marks x8).bind fun x9 => (if s0_1 = true then ((getI list s0_2).bind fun x11 => ((getI marks x11).bind fun x12 => (gd (ok64 (s0_2 + 1)) ((z25 marks list kx0_0 n0) (decide (0 < x9)) (decide (0 < x12)) (s0_2 + 1))))) else (gd (ok64 (s0_2 + 1)) ((z25 marks list kx0_0 n0) (decide (0 < x9)) false (s0_2 + 1))))))) else (kx0_0 s0_0 s0_1)
def zz2 (marks : List Int) (list : List Int) : Option (Bool × Bool) := z25 marks list zd3 FUEL false true 0
def z5l : Con := ⟨200, [.v (.sl .I) false, .v (.sl .I) false], [(.B, true), (.B, true)], [], fun x => zz2 x.1 x.2.1⟩
def wu8 : Fs := ⟨[], [], []⟩
theorem w02 : wu8.Ok Tryz.prog := fs0
def yh4 : Tmpl := ⟨[(0, .c (.s .I)), (1, .c (.s .I)), (6, .c .b), (7, .c .b), (8, .c .i)], []⟩
def y8s : Tmpl := ⟨[(6, .c .b), (7, .c .b)], []⟩
def w6y (av : AV) (x : HP z5l.ps) (n : Nat) (v : yh4.den) (K : Ks (CR z5l)) : Option (CR z5l) := z25 v.1.1 v.1.2.1 (fun s0_0 s0_1 => y8s.at none ((s0_0, s0_1, ()), ()) (K (.exit 0))) n v.1.2.2.1 v.1.2.2.2.1 v.1.2.2.2.2.1
def ya3 (av : AV) (x : HP z5l.ps) : Hdl (CR z5l) := hnd [] yh4 (w6y av x)
theorem w8y : LP z5l Tryz.f200 [0] ya3 := lp_ok (W := []) (H := []) (xs := [y8s]) w02 trivial rfl (fun av x v K => by kernel_rfl) (fun av x n v K => by kernel_rfl)
theorem v0s : z5l.Ok Tryz.prog := fn_ok (k := z5l) (fn := Tryz.f200) (W := []) (H := [ya3]) Tryz.func200 w02 ⟨w8y, trivial⟩ rfl rfl (fun av x => by kernel_rfl)
def z51 (s1_0 : Int) (bk1 : Int → List Bool → Option Bool) (l2_1 : List Bool) : Option Bool := gd (ok64 (s1_0 + 1)) (bk1 (s1_0 + 1) l2_1)
def z3b (p2_0 : List GFlow) (kx2_0 : List Bool → Option Bool) : Nat → Int → List Bool → Option Bool
  | 0, _, _ => none
  | n2 + 1, s2_0, l2_1 => if decide (s2_0 < (p2_0.length : Int)) = true then ((getI p2_0 s2_0).bind fun x15 => ((getI l2_1 x15.to).bind fun x16 => (gd (ok64 (s2_0 + 1)) ((z3b p2_0 kx2_0 n2) (s2_0 + 1) (l2_1.set x15.to.toNat true))))) else (kx2_0 l2_1)
def zj8  : Option Bool := some false
def z2g (n : GNet) (marks : List Int) (t : Int) (x19 : (List Bool)) (kx3_0 : Option Bool) : Nat → Int → Option Bool
  | 0, _ => none
  | n3 + 1, s3_0 => (getI n.tasks t).bind fun x20 => (if decide (s3_0 < (x20.in_.length : Int)) = true then ((getI n.tasks t).bind fun x22 => ((getI x22.in_ s3_0).bind fun x23 => ((getI marks x23).bind fun x24 => (if decide (x24 = 0) = true then ((getI n.tasks t).bind fun x26 => ((getI x26.in_ s3_0).bind fun x27 => ((getI x19 x27).bind fun x28 => (if x28 = true then (some true) else (gd (ok64 (s3_0 + 1)) ((z2g n marks t x19 kx3_0 n3) (s3_0 + 1))))))) else (gd (ok64 (s3_0 + 1)) ((z2g n marks t x19 kx3_0 n3) (s3_0 + 1))))))) else (kx3_0))
def z2e (n : GNet) (marks : List Int) (t : Int) (l1_1 : List Bool) : Option Bool := (zj2 n l1_1 t).bind fun x19 => (z2g n marks t x19 zj8 FUEL 0)
def z1c (n : GNet) (busy : List GItem) (kx1_0 : List Bool → Option Bool) : Nat → Int → List Bool → Option Bool
  | 0, _, _ => none
  | n1 + 1, s1_0, l1_1 => if decide (s1_0 < (busy.length : Int)) = true then ((getI busy s1_0).bind fun x12 => ((getI n.tasks x12.task).bind fun x13 => (z3b x13.out (z51 s1_0 (z1c n busy kx1_0 n1)) FUEL 0 l1_1))) else (kx1_0 l1_1)
def z50 (n : GNet) (marks : List Int) (busy : List GItem) (t : Int) (l0_1 : List Bool) : Option Bool := z1c n busy (z2e n marks t) FUEL 0 l0_1
def z2f (n : GNet) (marks : List Int) (t : Int) (kx0_0 : List Bool → Option Bool) : Nat → Int → List Bool → Option Bool
  | 0, _, _ => none
  | n0 + 1, s0_0, l0_1 => if decide (s0_0 < n.places) = true then ((getI marks s0_0).bind fun x3 => (if decide (0 < x3) = true then ((getI n.tasks t).bind fun x5 => ((ze8 x5.in_ s0_0).bind fun x6 => ((getI l0_1 s0_0).bind fun x7 => (gd (ok64 (s0_0 + 1)) ((z2f n marks t kx0_0 n0) (s0_0 + 1) (l0_1.set s0_0.toNat (!x6))))))) else ((getI l0_1 s0_0).bind fun x9 => (gd (ok64 (s0_0 + 1)) ((z2f n marks t kx0_0 n0) (s0_0 + 1) (l0_1.set s0_0.toNat false)))))) else (kx0_0 l0_1)
def zj7 (n : GNet) (marks : List Int) (busy : List GItem) (t : Int) : Option Bool := gd ((0 : Int) ≤ n.places ∧ n.places ≤ (1000000000 : Int)) (z2f n marks t (z50 n marks busy t) FUEL 0 (List.replicate n.places.toNat false))
def z08 : Con := ⟨201, [.v (.s .net) false, .v (.sl .I) false, .v (.sl (.s .item)) false, .v .I false], [(.B, true)], [], fun x => zj7 x.1 x.2.1 x.2.2.1 x.2.2.2.1⟩
def w7t : Fs := ⟨[z4p, z07], [], []⟩
theorem z94 : w7t.Ok Tryz.prog := (fsK yf3 (fsK w9e fs0))
def y10 : Tmpl := ⟨[(1, .c (.s .I)), (2, .c (.s (.s .item))), (3, .c .i), (4, .c (.bx 4 0)), (9, .c (.ref 18)), (11, .c .i), (12, .c (.s (.s .flow))), (13, .c .i)], [(4, .boxT (.s .net)), (18, .arr .B true)]⟩
def zv9 : Tmpl := ⟨[(1, .c (.s .I)), (2, .c (.s (.s .item))), (3, .c .i), (4, .c (.bx 4 0)), (9, .c (.ref 18)), (11, .c .i)], [(4, .boxT (.s .net)), (18, .arr .B true)]⟩
def yt4 (av : AV) (x : HP z08.ps) (n : Nat) (v : y10.den) (K : Ks (CR z08)) : Option (CR z08) := z3b v.1.2.2.2.2.2.2.1 (fun l2_1 => zv9.at none ((v.1.1, v.1.2.1, v.1.2.2.1, (), (), v.1.2.2.2.2.2.1, ()), (v.2.1, l2_1, ())) (K (.exit 4))) n v.1.2.2.2.2.2.2.2.1 v.2.2.1
def y0b (av : AV) (x : HP z08.ps) : Hdl (CR z08) := hnd [] y10 (yt4 av x)
theorem yv6 : LP z08 Tryz.f201 [1, 0] y0b := lp_ok (W := []) (H := []) (xs := [zv9]) z94 trivial rfl (fun av x v K => by kernel_rfl) (fun av x n v K => by kernel_rfl)
def y4k : Tmpl := ⟨[(1, .c (.s .I)), (2, .c (.s (.s .item))), (3, .c .i), (4, .c (.bx 4 0)), (9, .c (.ref 18)), (10, .c .i)], [(4, .boxT (.s .net)), (18, .arr .B true)]⟩
def y2c : Tmpl := ⟨[(1, .c (.s .I)), (2, .c (.s (.s .item))), (3, .c .i), (4, .c (.bx 4 0)), (9, .c (.ref 18))], [(4, .boxT (.s .net)), (18, .arr .B true)]⟩
def w1p (av : AV) (x : HP z08.ps) (n : Nat) (v : y4k.den) (K : Ks (CR z08)) : Option (CR z08) := z2f v.2.1 v.1.1 v.1.2.2.1 (fun l0_1 => y2c.at none ((v.1.1, v.1.2.1, v.1.2.2.1, (), (), ()), (v.2.1, l0_1, ())) (K (.exit 0))) n v.1.2.2.2.2.2.1 v.2.2.1
def y3r (av : AV) (x : HP z08.ps) : Hdl (CR z08) := hnd [] y4k (w1p av x)
theorem w2o : LP z08 Tryz.f201 [0] y3r := lp_ok (W := []) (H := []) (xs := [y2c]) z94 trivial rfl (fun av x v K => by kernel_rfl) (fun av x n v K => by kernel_rfl)
def y4l : Tmpl := ⟨[(1, .c (.s .I)), (2, .c (.s (.s .item))), (3, .c .i), (4, .c (.bx 4 0)), (9, .c (.ref 18)), (11, .c .i)], [(4, .boxT (.s .net)), (18, .arr .B true)]⟩
def y2d : Tmpl := ⟨[(1, .c (.s .I)), (3, .c .i), (4, .c (.bx 4 0)), (9, .c (.ref 18))], [(4, .boxT (.s .net)), (18, .arr .B true)]⟩
def w1q (av : AV) (x : HP z08.ps) (n : Nat) (v : y4l.den) (K : Ks (CR z08)) : Option (CR z08) := z1c v.2.1 v.1.2.1 (fun l1_1 => y2d.at none ((v.1.1, v.1.2.2.1, (), (), ()), (v.2.1, l1_1, ())) (K (.exit 2))) n v.1.2.2.2.2.2.1 v.2.2.1
def y3s (av : AV) (x : HP z08.ps) : Hdl (CR z08) := hnd [] y4l (w1q av x)
theorem w2p : LP z08 Tryz.f201 [1] y3s := lp_ok (W := []) (H := [y0b]) (xs := [y2d]) z94 ⟨yv6, trivial⟩ rfl (fun av x v K => by kernel_rfl) (fun av x n v K => by kernel_rfl)
def y4m : Tmpl := ⟨[(1, .c (.s .I)), (3, .c .i), (4, .c (.bx 4 0)), (14, .c (.ref 76)), (15, .c .i)], [(4, .boxT (.s .net)), (76, .arr .B true)]⟩
def y2e : Tmpl := ⟨[], []⟩
def w1r (av : AV) (x : HP z08.ps) (n : Nat) (v : y4m.den) (K : Ks (CR z08)) : Option (CR z08) := z2g v.2.1 v.1.1 v.1.2.1 v.2.2.1 (y2e.at none ((), ()) (K (.exit 6))) n v.1.2.2.2.2.1
def y3t (av : AV) (x : HP z08.ps) : Hdl (CR z08) := hnd [] y4m (w1r av x)
theorem w2q : LP z08 Tryz.f201 [2] y3t := lp_ok (W := []) (H := []) (xs := [y2e]) z94 trivial rfl (fun av x v K => by kernel_rfl) (fun av x n v K => by kernel_rfl)
theorem w9f : z08.Ok Tryz.prog := fn_ok (k := z08) (fn := Tryz.f201) (W := []) (H := [y3r, y3s, y3t]) Tryz.func201 z94 ⟨w2o, w2p, w2q, trivial⟩ rfl rfl (fun av x => by kernel_rfl)
def y1u (n : GNet) (marks : List Int) (busy : List GItem) (t : Int) : Option Bool := (getI n.tasks t).bind fun x1 => ((zz2 marks x1.in_).bind fun x2 => ((getI n.tasks t).bind fun x3 => (if decide (x3.join = 1) = true then (some x2.2) else (if decide (x3.join = 2) = true then (some x2.1) else (if x2.1 = true then (if x2.2 = true then (some true) else ((zj7 n marks busy t).bind fun x8 => (some (!x8)))) else (some false))))))
def yb6 : Con := ⟨165, [.v (.s .net) false, .v (.sl .I) false, .v (.sl (.s .item)) false, .v .I false], [(.B, true)], [], fun x => y1u x.1 x.2.1 x.2.2.1 x.2.2.2.1⟩
def v2w : Fs := ⟨[z5l, z08], [], []⟩
theorem v3a : v2w.Ok Tryz.prog := (fsK v0s (fsK w9f fs0))
theorem v4e : yb6.Ok Tryz.prog := fn_ok (k := yb6) (fn := Tryz.f165) (W := []) (H := []) Tryz.func165 v3a trivial rfl rfl (fun av x => by kernel_rfl)
def y7i  : Option Bool := some true
def z6e (n : GNet) (busy : List GItem) (kx0_0 : Option Bool) : Nat → Int → Option Bool
  | 0, _ => none
  | n0 + 1, s0_0 => if decide (s0_0 < (busy.length : Int)) = true then ((getI busy s0_0).bind fun x3 => (gd (ok64 ((n.tasks.length : Int) - 1)) ((z03 x3.task 0 ((n.tasks.length : Int) - 1)).bind fun x5 => (if x5 = true then ((getI busy s0_0).bind fun x7 => ((z03 x7.who 1 4).bind fun x8 => (if x8 = true then ((getI busy s0_0).bind fun x10 => ((getI busy s0_0).bind fun x11 => ((getI n.tasks x11.task).bind fun x12 => (gd (ok64 (x12.need - 1)) ((z03 x10.did 0 (x12.need - 1)).bind fun x14 => (if x14 = true then (gd (ok64 (s0_0 + 1)) ((z6e n busy kx0_0 n0) (s0_0 + 1))) else (some false))))))) else (some false)))) else (some false))))) else (kx0_0)
def zj6 (n : GNet) (busy : List GItem) : Option Bool := if decide (6 < (busy.length : Int)) = true then (some false) else (z6e n busy y7i FUEL 0)
def z4i : Con := ⟨88, [.v (.s .net) false, .v (.sl (.s .item)) false], [(.B, true)], [], fun x => zj6 x.1 x.2.1⟩
def wu7 : Fs := ⟨[z0p], [], []⟩
theorem w01 : wu7.Ok Tryz.prog := (fsK z0x fs0)
def yh3 : Tmpl := ⟨[(1, .c (.s (.s .item))), (2, .c (.bx 2 0)), (5, .c .i)], [(2, .boxT (.s .net))]⟩
def y8r : Tmpl := ⟨[], []⟩
def w6x (av : AV) (x : HP z4i.ps) (n : Nat) (v : yh3.den) (K : Ks (CR z4i)) : Option (CR z4i) := z6e v.2.1 v.1.1 (y8r.at none ((), ()) (K (.exit 0))) n v.1.2.2.1
def ya2 (av : AV) (x : HP z4i.ps) : Hdl (CR z4i) := hnd [] yh3 (w6x av x)
theorem w8x : LP z4i Tryz.f88 [0] ya2 := lp_ok (W := []) (H := []) (xs := [y8r]) w01 trivial rfl (fun av x v K => by kernel_rfl) (fun av x n v K => by kernel_rfl)
theorem w0v : z4i.Ok Tryz.prog := fn_ok (k := z4i) (fn := Tryz.f88) (W := []) (H := [ya2]) Tryz.func88 w01 ⟨w8x, trivial⟩ rfl rfl (fun av x => by kernel_rfl)
def zi2 (n : GNet) (marks : List Int) (busy : List GItem) (t : Int) : Option Bool := (z9e n marks).bind fun x1 => (if x1 = true then ((zj6 n busy).bind fun x3 => (if x3 = true then (gd (ok64 ((n.tasks.length : Int) - 1)) ((z03 t 0 ((n.tasks.length : Int) - 1)).bind fun x6 => (if x6 = true then ((y1u n marks busy t).bind fun x8 => (some x8)) else (some false)))) else (some false))) else (some false))
def zw8 : Con := ⟨100, [.v (.s .net) false, .v (.sl .I) false, .v (.sl (.s .item)) false, .v .I false], [(.B, true)], [], fun x => zi2 x.1 x.2.1 x.2.2.1 x.2.2.2.1⟩
def wt3 : Fs := ⟨[z3i, z4i, z0p, yb6], [], []⟩
theorem wx1 : wt3.Ok Tryz.prog := (fsK y1x (fsK w0v (fsK z0x (fsK v4e fs0))))
theorem w0s : zw8.Ok Tryz.prog := fn_ok (k := zw8) (fn := Tryz.f100) (W := []) (H := []) Tryz.func100 wx1 trivial rfl rfl (fun av x => by kernel_rfl)
def zi3 (l0_1 : List Int) : Option (List Int) := some l0_1
def z39 (n : GNet) (marks : List Int) (busy : List GItem) (kx0_0 : List Int → Option (List Int)) : Nat → Int → List Int → Option (List Int)
  | 0, _, _ => none
  | n0 + 1, s0_0, l0_1 => if decide (s0_0 < (n.tasks.length : Int)) = true then ((zi2 n marks busy s0_0).bind fun x2 => (if x2 = true then (gd (l0_1.length + [s0_0].length ≤ SMALL) (gd (ok64 (s0_0 + 1)) ((z39 n marks busy kx0_0 n0) (s0_0 + 1) (l0_1 ++ [s0_0])))) else (gd (ok64 (s0_0 + 1)) ((z39 n marks busy kx0_0 n0) (s0_0 + 1) l0_1)))) else (kx0_0 l0_1)
def z38 (n : GNet) (marks : List Int) (busy : List GItem) : Option (List Int) := z39 n marks busy zi3 FUEL 0 ([] : List Int)
def z1z : Con := ⟨99, [.v (.s .net) false, .v (.sl .I) false, .v (.sl (.s .item)) false], [((.sl .I), true)], [], fun x => z38 x.1 x.2.1 x.2.2.1⟩
def w7l : Fs := ⟨[zw8], [], []⟩
theorem y9h : w7l.Ok Tryz.prog := (fsK w0s fs0)
def y4d : Tmpl := ⟨[(1, .c (.s .I)), (2, .c (.s (.s .item))), (3, .c (.bx 3 0)), (7, .c (.ref 9)), (8, .c .i)], [(3, .boxT (.s .net)), (9, .arr .I true)]⟩
def y25 : Tmpl := ⟨[(7, .c (.ref 9))], [(9, .arr .I true)]⟩
def w1i (av : AV) (x : HP z1z.ps) (n : Nat) (v : y4d.den) (K : Ks (CR z1z)) : Option (CR z1z) := z39 v.2.1 v.1.1 v.1.2.1 (fun l0_1 => y25.at none (((), ()), (l0_1, ())) (K (.exit 0))) n v.1.2.2.2.2.1 v.2.2.1
def y3k (av : AV) (x : HP z1z.ps) : Hdl (CR z1z) := hnd [] y4d (w1i av x)
theorem w2h : LP z1z Tryz.f99 [0] y3k := lp_ok (W := []) (H := []) (xs := [y25]) y9h trivial rfl (fun av x v K => by kernel_rfl) (fun av x n v K => by kernel_rfl)
theorem y0r : z1z.Ok Tryz.prog := fn_ok (k := z1z) (fn := Tryz.f99) (W := []) (H := [y3k]) Tryz.func99 y9h ⟨w2h, trivial⟩ rfl rfl (fun av x => by kernel_rfl)
def y3z (l0_1 : List Int) (x10 : Int) (x13 : Int) : Option (List Int) := some (l0_1.set x10.toNat (x13 - 1))
def y40 (l0_1 : List Int) : Option (List Int) := some l0_1
def z3v (n : GNet) (t : Int) (kx0_0 : List Int → Int → Int → Option (List Int)) (kx0_1 : List Int → Option (List Int)) : Nat → Int → List Int → Option (List Int)
  | 0, _, _ => none
  | n0 + 1, s0_0, l0_1 => (getI n.tasks t).bind fun x7 => (if decide (s0_0 < (x7.in_.length : Int)) = true then ((getI n.tasks t).bind fun x9 => ((getI x9.in_ s0_0).bind fun x10 => ((getI l0_1 x10).bind fun x11 => (if decide (0 < x11) = true then ((getI l0_1 x10).bind fun x13 => (gd (ok64 (x13 - 1)) ((getI l0_1 x10).bind fun x15 => ((getI n.tasks t).bind fun x16 => (if decide (x16.join = 2) = true then (kx0_0 l0_1 x10 x13) else (gd (ok64 (s0_0 + 1)) ((z3v n t kx0_0 kx0_1 n0) (s0_0 + 1) (l0_1.set x10.toNat (x13 - 1))))))))) else (gd (ok64 (s0_0 + 1)) ((z3v n t kx0_0 kx0_1 n0) (s0_0 + 1) l0_1)))))) else (kx0_1 l0_1))
def zp9 (n : GNet) (marks : List Int) (t : Int) : Option (List Int) := (z9e n marks).bind fun x1 => (if x1 = true then (gd (ok64 ((n.tasks.length : Int) - 1)) ((z03 t 0 ((n.tasks.length : Int) - 1)).bind fun x4 => (if x4 = true then (gd (([] : List Int).length + marks.length ≤ SMALL) (z3v n t y3z y40 FUEL 0 (([] : List Int) ++ marks))) else (some ([] : List Int))))) else (some ([] : List Int)))
def z49 : Con := ⟨103, [.v (.s .net) false, .v (.sl .I) false, .v .I false], [((.sl .I), true)], [], fun x => zp9 x.1 x.2.1 x.2.2.1⟩
def we8 : Fs := ⟨[z3i, z0p], [], []⟩
theorem yn8 : we8.Ok Tryz.prog := (fsK y1x (fsK z0x fs0))
def y7z : Tmpl := ⟨[(2, .c .i), (3, .c (.bx 3 0)), (7, .c (.ref 26)), (8, .c .i)], [(3, .boxT (.s .net)), (26, .arr .I true)]⟩
def zo9 : Tmpl := ⟨[(7, .c (.ref 26))], [(26, .arr .I true)]⟩
def w4i (av : AV) (x : HP z49.ps) (n : Nat) (v : y7z.den) (K : Ks (CR z49)) : Option (CR z49) := z3v v.2.1 v.1.1 (fun l0_1 x10 x13 => zo9.at none (((), ()), ((l0_1.set x10.toNat (x13 - 1)), ())) (K (.exit 0))) (fun l0_1 => zo9.at none (((), ()), (l0_1, ())) (K (.exit 0))) n v.1.2.2.2.1 v.2.2.1
def y6z (av : AV) (x : HP z49.ps) : Hdl (CR z49) := hnd [] y7z (w4i av x)
theorem w5h : LP z49 Tryz.f103 [0] y6z := lp_ok (W := []) (H := []) (xs := [zo9]) yn8 trivial rfl (fun av x v K => by kernel_rfl) (fun av x n v K => by kernel_rfl)
theorem wl5 : z49.Ok Tryz.prog := fn_ok (k := z49) (fn := Tryz.f103) (W := []) (H := [y6z]) Tryz.func103 yn8 ⟨w5h, trivial⟩ rfl rfl (fun av x => by kernel_rfl)
def z9c (who : Int) : Option Bool := (z0c who 1 4).bind fun x1 => (some x1)
def zh0 : Con := ⟨97, [.v .I false], [(.B, true)], [], fun x => z9c x.1⟩
def w7j : Fs := ⟨[z1y], [], []⟩
theorem w86 : w7j.Ok Tryz.prog := (fsK z2m fs0)
theorem ye9 : zh0.Ok Tryz.prog := fn_ok (k := zh0) (fn := Tryz.f97) (W := []) (H := []) Tryz.func97 w86 trivial rfl rfl (fun av x => by kernel_rfl)
def zi4 (l0_1 : List Int) (x8 : GFlow) : Option (List Int) := some (l0_1 ++ [x8.to])
def zi5 (l0_1 : List Int) (x13 : GFlow) : Option (List Int) := some (l0_1 ++ [x13.to])
def zi6 (l0_1 : List Int) (x18 : GFlow) : Option (List Int) := some (l0_1 ++ [x18.to])
def y0o (l0_1 : List Int) : Option (List Int) := some l0_1
def z21 (t : GTask) (data : List Int) (kx0_0 : List Int → GFlow → Option (List Int)) (kx0_1 : List Int → GFlow → Option (List Int)) (kx0_2 : List Int → GFlow → Option (List Int)) (kx0_3 : List Int → Option (List Int)) : Nat → Int → List Int → Option (List Int)
  | 0, _, _ => none
  | n0 + 1, s0_0, l0_1 => if decide (s0_0 < (t.out.length : Int)) = true then ((getI t.out s0_0).bind fun x2 => ((z1i x2.if_ data).bind fun x3 => (if x3 = true then (if decide (t.split = 3) = true then (gd (ok64 ((t.out.length : Int) - 1)) (if decide (s0_0 < ((t.out.length : Int) - 1)) = true then ((getI t.out s0_0).bind fun x8 => (gd (l0_1.length + [x8.to].length ≤ SMALL) (if decide (t.split = 2) = true then (kx0_0 l0_1 x8) else (gd (ok64 (s0_0 + 1)) ((z21 t data kx0_0 kx0_1 kx0_2 kx0_3 n0) (s0_0 + 1) (l0_1 ++ [x8.to])))))) else (if decide ((l0_1.length : Int) = 0) = true then ((getI t.out s0_0).bind fun x13 => (gd (l0_1.length + [x13.to].length ≤ SMALL) (if decide (t.split = 2) = true then (kx0_1 l0_1 x13) else (gd (ok64 (s0_0 + 1)) ((z21 t data kx0_0 kx0_1 kx0_2 kx0_3 n0) (s0_0 + 1) (l0_1 ++ [x13.to])))))) else (gd (ok64 (s0_0 + 1)) ((z21 t data kx0_0 kx0_1 kx0_2 kx0_3 n0) (s0_0 + 1) l0_1))))) else ((getI t.out s0_0).bind fun x18 => (gd (l0_1.length + [x18.to].length ≤ SMALL) (if decide (t.split = 2) = true then (kx0_2 l0_1 x18) else (gd (ok64 (s0_0 + 1)) ((z21 t data kx0_0 kx0_1 kx0_2 kx0_3 n0) (s0_0 + 1) (l0_1 ++ [x18.to]))))))) else (gd (ok64 (s0_0 + 1)) ((z21 t data kx0_0 kx0_1 kx0_2 kx0_3 n0) (s0_0 + 1) l0_1))))) else (kx0_3 l0_1)
def y1q (t : GTask) (data : List Int) : Option (List Int) := z21 t data zi4 zi5 zi6 y0o FUEL 0 ([] : List Int)
def z6s : Con := ⟨205, [.v (.s .task) false, .v (.sl .I) false], [((.sl .I), true)], [], fun x => y1q x.1 x.2.1⟩
def v2u : Fs := ⟨[z4o], [], []⟩
theorem w3m : v2u.Ok Tryz.prog := (fsK z7y fs0)
def ys7 : Tmpl := ⟨[(1, .c (.s .I)), (2, .c (.bx 2 0)), (5, .c (.ref 7)), (6, .c .i)], [(2, .boxT (.s .task)), (7, .arr .I true)]⟩
def z9l : Tmpl := ⟨[(5, .c (.ref 49))], [(49, .arr .I true)]⟩
def wc7 (av : AV) (x : HP z6s.ps) (n : Nat) (v : ys7.den) (K : Ks (CR z6s)) : Option (CR z6s) := z21 v.2.1 v.1.1 (fun l0_1 x8 => z9l.at none (((), ()), ((l0_1 ++ [x8.to]), ())) (K (.exit 0))) (fun l0_1 x13 => z9l.at none (((), ()), ((l0_1 ++ [x13.to]), ())) (K (.exit 0))) (fun l0_1 x18 => z9l.at none (((), ()), ((l0_1 ++ [x18.to]), ())) (K (.exit 0))) (fun l0_1 => z9l.at none (((), ()), (l0_1, ())) (K (.exit 0))) n v.1.2.2.2.1 v.2.2.1
def yq3 (av : AV) (x : HP z6s.ps) : Hdl (CR z6s) := hnd [] ys7 (wc7 av x)
theorem wj6 : LP z6s Tryz.f205 [0] yq3 := lp_ok (W := []) (H := []) (xs := [z9l]) w3m trivial rfl (fun av x v K => by kernel_rfl) (fun av x n v K => by kernel_rfl)
theorem v4d : z6s.Ok Tryz.prog := fn_ok (k := z6s) (fn := Tryz.f205) (W := []) (H := [yq3]) Tryz.func205 w3m ⟨wj6, trivial⟩ rfl rfl (fun av x => by kernel_rfl)
def z9y (l1_1 : List Int) : Option ((List Int) × Bool) := some (l1_1, true)
def z5w (x16 : (List Int)) (kx1_0 : List Int → Option ((List Int) × Bool)) : Nat → Int → List Int → Option ((List Int) × Bool)
  | 0, _, _ => none
  | n1 + 1, s1_0, l1_1 => if decide (s1_0 < (x16.length : Int)) = true then ((getI x16 s1_0).bind fun x18 => ((getI l1_1 x18).bind fun x19 => (if decide (x19 = 4) = true then (some (([] : List Int), false)) else ((getI x16 s1_0).bind fun x21 => ((getI x16 s1_0).bind fun x22 => ((getI l1_1 x22).bind fun x23 => (gd (ok64 (x23 + 1)) ((getI l1_1 x21).bind fun x25 => (gd (ok64 (s1_0 + 1)) ((z5w x16 kx1_0 n1) (s1_0 + 1) (l1_1.set x21.toNat (x23 + 1)))))))))))) else (kx1_0 l1_1)
def z9x (n : GNet) (t : Int) (data : List Int) (l0_1 : List Int) : Option ((List Int) × Bool) := (getI n.tasks t).bind fun x15 => ((y1q x15 data).bind fun x16 => (z5w x16 z9y FUEL 0 l0_1))
def z5v (n : GNet) (t : Int) (kx0_0 : List Int → Option ((List Int) × Bool)) : Nat → Int → List Int → Option ((List Int) × Bool)
  | 0, _, _ => none
  | n0 + 1, s0_0, l0_1 => (getI n.tasks t).bind fun x9 => (if decide (s0_0 < (x9.clear.length : Int)) = true then ((getI n.tasks t).bind fun x11 => ((getI x11.clear s0_0).bind fun x12 => ((getI l0_1 x12).bind fun x13 => (gd (ok64 (s0_0 + 1)) ((z5v n t kx0_0 n0) (s0_0 + 1) (l0_1.set x12.toNat 0)))))) else (kx0_0 l0_1))
def zq0 (n : GNet) (marks : List Int) (t : Int) (data : List Int) : Option ((List Int) × Bool) := (z9e n marks).bind fun x1 => (if x1 = true then (gd (ok64 ((n.tasks.length : Int) - 1)) ((z03 t 0 ((n.tasks.length : Int) - 1)).bind fun x4 => (if x4 = true then ((z2y data).bind fun x6 => (if x6 = true then (gd (([] : List Int).length + marks.length ≤ SMALL) (z5v n t (z9x n t data) FUEL 0 (([] : List Int) ++ marks))) else (some (([] : List Int), false)))) else (some (([] : List Int), false))))) else (some (([] : List Int), false)))
def z11 : Con := ⟨172, [.v (.s .net) false, .v (.sl .I) false, .v .I false, .v (.sl .I) false], [((.sl .I), true), (.B, true)], [], fun x => zq0 x.1 x.2.1 x.2.2.1 x.2.2.2.1⟩
def we9 : Fs := ⟨[z3i, z0p, z1d, z6s], [], []⟩
theorem y2j : we9.Ok Tryz.prog := (fsK y1x (fsK z0x (fsK z75 (fsK v4d fs0))))
def y80 : Tmpl := ⟨[(2, .c .i), (3, .c (.s .I)), (4, .c (.bx 4 0)), (10, .c (.ref 35)), (11, .c .i)], [(4, .boxT (.s .net)), (35, .arr .I true)]⟩
def y4w : Tmpl := ⟨[(2, .c .i), (3, .c (.s .I)), (4, .c (.bx 4 0)), (10, .c (.ref 35))], [(4, .boxT (.s .net)), (35, .arr .I true)]⟩
def w4j (av : AV) (x : HP z11.ps) (n : Nat) (v : y80.den) (K : Ks (CR z11)) : Option (CR z11) := z5v v.2.1 v.1.1 (fun l0_1 => y4w.at none ((v.1.1, v.1.2.1, (), (), ()), (v.2.1, l0_1, ())) (K (.exit 0))) n v.1.2.2.2.2.1 v.2.2.1
def y70 (av : AV) (x : HP z11.ps) : Hdl (CR z11) := hnd [] y80 (w4j av x)
theorem w5i : LP z11 Tryz.f172 [0] y70 := lp_ok (W := []) (H := []) (xs := [y4w]) y2j trivial rfl (fun av x v K => by kernel_rfl) (fun av x n v K => by kernel_rfl)
def y81 : Tmpl := ⟨[(10, .c (.ref 35)), (12, .c (.ref 64)), (13, .c .i)], [(35, .arr .I true), (64, .arr .I true)]⟩
def y4x : Tmpl := ⟨[(10, .c (.ref 35))], [(35, .arr .I true)]⟩
def w4k (av : AV) (x : HP z11.ps) (n : Nat) (v : y81.den) (K : Ks (CR z11)) : Option (CR z11) := z5w v.2.2.1 (fun l1_1 => y4x.at none (((), ()), (l1_1, ())) (K (.exit 2))) n v.1.2.2.1 v.2.1
def y71 (av : AV) (x : HP z11.ps) : Hdl (CR z11) := hnd [] y81 (w4k av x)
theorem w5j : LP z11 Tryz.f172 [1] y71 := lp_ok (W := []) (H := []) (xs := [y4x]) y2j trivial rfl (fun av x v K => by kernel_rfl) (fun av x n v K => by kernel_rfl)
theorem wl6 : z11.Ok Tryz.prog := fn_ok (k := z11) (fn := Tryz.f172) (W := []) (H := [y70, y71]) Tryz.func172 y2j ⟨w5i, w5j, trivial⟩ rfl rfl (fun av x => by kernel_rfl)
def yd4  : Option Bool := some true
def z7u (people : List Int) (kx0_0 : Option Bool) : Nat → Int → Option Bool
  | 0, _ => none
  | n0 + 1, s0_0 => if decide (s0_0 < (people.length : Int)) = true then ((getI people s0_0).bind fun x4 => ((z03 x4 0 7).bind fun x5 => (if x5 = true then (gd (ok64 (s0_0 + 1)) ((z7u people kx0_0 n0) (s0_0 + 1))) else (some false)))) else (kx0_0)
def z9f (people : List Int) : Option Bool := (z03 (people.length : Int) 1 4).bind fun x1 => (if x1 = true then (z7u people yd4 FUEL 0) else (some false))
def z3j : Con := ⟨44, [.v (.sl .I) false], [(.B, true)], [], fun x => z9f x.1⟩
def v2s : Fs := ⟨[z0p], [], []⟩
theorem w3l : v2s.Ok Tryz.prog := (fsK z0x fs0)
def ys5 : Tmpl := ⟨[(0, .c (.s .I)), (3, .c .i)], []⟩
def yj5 : Tmpl := ⟨[], []⟩
def wc5 (av : AV) (x : HP z3j.ps) (n : Nat) (v : ys5.den) (K : Ks (CR z3j)) : Option (CR z3j) := z7u v.1.1 (yj5.at none ((), ()) (K (.exit 0))) n v.1.2.1
def yq1 (av : AV) (x : HP z3j.ps) : Hdl (CR z3j) := hnd [] ys5 (wc5 av x)
theorem wj4 : LP z3j Tryz.f44 [0] yq1 := lp_ok (W := []) (H := []) (xs := [yj5]) w3l trivial rfl (fun av x v K => by kernel_rfl) (fun av x n v K => by kernel_rfl)
theorem y1y : z3j.Ok Tryz.prog := fn_ok (k := z3j) (fn := Tryz.f44) (W := []) (H := [yq1]) Tryz.func44 w3l ⟨wj4, trivial⟩ rfl rfl (fun av x => by kernel_rfl)
def z6c (s0_0 : Int) : Option Bool := gd ((2 : Int) ≠ 0) (some (decide ((Int.tmod s0_0 2) = 1)))
def z2p (role : Int) (kx0_0 : Int → Option Bool) : Nat → Int → Int → Option Bool
  | 0, _, _ => none
  | n0 + 1, s0_0, s0_1 => if decide (s0_1 < role) = true then (gd ((2 : Int) ≠ 0 ∧ ok64 (Int.tdiv s0_0 2)) (gd (ok64 (s0_1 + 1)) ((z2p role kx0_0 n0) (Int.tdiv s0_0 2) (s0_1 + 1)))) else (kx0_0 s0_0)
def zy6 (people : List Int) (who : Int) (role : Int) : Option Bool := (z9f people).bind fun x1 => (if x1 = true then ((z03 who 1 (people.length : Int)).bind fun x3 => (if x3 = true then ((z03 role 1 3).bind fun x5 => (if x5 = true then (gd (ok64 (who - 1)) ((getI people (who - 1)).bind fun x8 => (z2p role z6c FUEL x8 1))) else (some false))) else (some false))) else (some false))
def z5k : Con := ⟨166, [.v (.sl .I) false, .v .I false, .v .I false], [(.B, true)], [], fun x => zy6 x.1 x.2.1 x.2.2.1⟩
def wt7 : Fs := ⟨[z3j, z0p], [], []⟩
theorem yz9 : wt7.Ok Tryz.prog := (fsK y1y (fsK z0x fs0))
def yh0 : Tmpl := ⟨[(2, .c .i), (7, .c .i), (8, .c .i)], []⟩
def y8o : Tmpl := ⟨[(7, .c .i)], []⟩
def w6u (av : AV) (x : HP z5k.ps) (n : Nat) (v : yh0.den) (K : Ks (CR z5k)) : Option (CR z5k) := z2p v.1.1 (fun s0_0 => y8o.at none ((s0_0, ()), ()) (K (.exit 0))) n v.1.2.1 v.1.2.2.1
def y9z (av : AV) (x : HP z5k.ps) : Hdl (CR z5k) := hnd [] yh0 (w6u av x)
theorem w8u : LP z5k Tryz.f166 [0] y9z := lp_ok (W := []) (H := []) (xs := [y8o]) yz9 trivial rfl (fun av x v K => by kernel_rfl) (fun av x n v K => by kernel_rfl)
theorem v0m : z5k.Ok Tryz.prog := fn_ok (k := z5k) (fn := Tryz.f166) (W := []) (H := [y9z]) Tryz.func166 yz9 ⟨w8u, trivial⟩ rfl rfl (fun av x => by kernel_rfl)
def y7g  : Option Bool := some false
def z55 (did : List GDid) (who : Int) (task : Int) (kx0_0 : Option Bool) : Nat → Int → Option Bool
  | 0, _ => none
  | n0 + 1, s0_0 => if decide (s0_0 < (did.length : Int)) = true then ((getI did s0_0).bind fun x2 => (if decide (x2.who = who) = true then ((getI did s0_0).bind fun x4 => (if decide (x4.task = task) = true then (some true) else (gd (ok64 (s0_0 + 1)) ((z55 did who task kx0_0 n0) (s0_0 + 1))))) else (gd (ok64 (s0_0 + 1)) ((z55 did who task kx0_0 n0) (s0_0 + 1))))) else (kx0_0)
def zy5 (did : List GDid) (who : Int) (task : Int) : Option Bool := z55 did who task y7g FUEL 0
def z5j : Con := ⟨167, [.v (.sl (.s .did)) false, .v .I false, .v .I false], [(.B, true)], [], fun x => zy5 x.1 x.2.1 x.2.2.1⟩
def wt6 : Fs := ⟨[], [], []⟩
theorem yz8 : wt6.Ok Tryz.prog := fs0
def yg9 : Tmpl := ⟨[(0, .c (.s (.s .did))), (1, .c .i), (2, .c .i), (7, .c .i)], []⟩
def y8n : Tmpl := ⟨[], []⟩
def w6t (av : AV) (x : HP z5j.ps) (n : Nat) (v : yg9.den) (K : Ks (CR z5j)) : Option (CR z5j) := z55 v.1.1 v.1.2.1 v.1.2.2.1 (y8n.at none ((), ()) (K (.exit 0))) n v.1.2.2.2.1
def y9y (av : AV) (x : HP z5j.ps) : Hdl (CR z5j) := hnd [] yg9 (w6t av x)
theorem w8t : LP z5j Tryz.f167 [0] y9y := lp_ok (W := []) (H := []) (xs := [y8n]) yz8 trivial rfl (fun av x v K => by kernel_rfl) (fun av x n v K => by kernel_rfl)
theorem v0l : z5j.Ok Tryz.prog := fn_ok (k := z5j) (fn := Tryz.f167) (W := []) (H := [y9y]) Tryz.func167 yz8 ⟨w8t, trivial⟩ rfl rfl (fun av x => by kernel_rfl)
def y7h (n : GNet) (people : List Int) (did : List GDid) (t : Int) (s0_0 : Int) (l0_1 : List Int) (bk0 : Int → List Int → Option (List Int)) (s1_0 : Bool) : Option (List Int) := (getI n.tasks t).bind fun x18 => ((zy6 people s0_0 x18.role).bind fun x19 => (if x19 = true then (if s1_0 = true then (gd (ok64 (s0_0 + 1)) (bk0 (s0_0 + 1) l0_1)) else ((getI n.tasks t).bind fun x23 => ((zy5 did s0_0 x23.apart).bind fun x24 => (if x24 = true then (gd (ok64 (s0_0 + 1)) (bk0 (s0_0 + 1) l0_1)) else (gd (l0_1.length + [s0_0].length ≤ SMALL) (gd (ok64 (s0_0 + 1)) (bk0 (s0_0 + 1) (l0_1 ++ [s0_0])))))))) else (gd (ok64 (s0_0 + 1)) (bk0 (s0_0 + 1) l0_1))))
def z2q (n : GNet) (busy : List GItem) (t : Int) (s0_0 : Int) (kx1_0 : Bool → Option (List Int)) : Nat → Bool → Int → Option (List Int)
  | 0, _, _ => none
  | n1 + 1, s1_0, s1_1 => if decide (s1_1 < (busy.length : Int)) = true then (if s1_0 = true then (gd (ok64 (s1_1 + 1)) ((z2q n busy t s0_0 kx1_0 n1) true (s1_1 + 1))) else ((getI busy s1_1).bind fun x12 => (if decide (x12.who = s0_0) = true then ((getI busy s1_1).bind fun x14 => ((getI n.tasks t).bind fun x15 => (gd (ok64 (s1_1 + 1)) ((z2q n busy t s0_0 kx1_0 n1) (decide (x14.task = x15.apart)) (s1_1 + 1))))) else (gd (ok64 (s1_1 + 1)) ((z2q n busy t s0_0 kx1_0 n1) false (s1_1 + 1)))))) else (kx1_0 s1_0)
def zt8 (l0_1 : List Int) : Option (List Int) := some l0_1
def z6d (n : GNet) (people : List Int) (did : List GDid) (busy : List GItem) (t : Int) (kx0_0 : List Int → Option (List Int)) : Nat → Int → List Int → Option (List Int)
  | 0, _, _ => none
  | n0 + 1, s0_0, l0_1 => if decide (s0_0 ≤ (people.length : Int)) = true then (z2q n busy t s0_0 (y7h n people did t s0_0 l0_1 (z6d n people did busy t kx0_0 n0)) FUEL false 0) else (kx0_0 l0_1)
def z9z (n : GNet) (people : List Int) (did : List GDid) (busy : List GItem) (t : Int) : Option (List Int) := (z3m n).bind fun x1 => (if x1 = true then ((z9f people).bind fun x3 => (if x3 = true then (gd (ok64 ((n.tasks.length : Int) - 1)) ((z03 t 0 ((n.tasks.length : Int) - 1)).bind fun x6 => (if x6 = true then (z6d n people did busy t zt8 FUEL 1 ([] : List Int)) else (some ([] : List Int))))) else (some ([] : List Int)))) else (some ([] : List Int)))
def z17 : Con := ⟨102, [.v (.s .net) false, .v (.sl .I) false, .v (.sl (.s .did)) false, .v (.sl (.s .item)) false, .v .I false], [((.sl .I), true)], [], fun x => z9z x.1 x.2.1 x.2.2.1 x.2.2.2.1 x.2.2.2.2.1⟩
def wt8 : Fs := ⟨[z2v, z3j, z0p, z5k, z5j], [], []⟩
theorem y5i : wt8.Ok Tryz.prog := (fsK zs5 (fsK y1y (fsK z0x (fsK v0m (fsK v0l fs0)))))
def y4e : Tmpl := ⟨[(1, .c (.s .I)), (2, .c (.s (.s .did))), (3, .c (.s (.s .item))), (4, .c .i), (5, .c (.bx 5 0)), (11, .c (.ref 15)), (12, .c .i), (13, .c .b), (14, .c .i)], [(5, .boxT (.s .net)), (15, .arr .I true)]⟩
def y26 : Tmpl := ⟨[(1, .c (.s .I)), (2, .c (.s (.s .did))), (3, .c (.s (.s .item))), (4, .c .i), (5, .c (.bx 5 0)), (11, .c (.ref 15)), (12, .c .i), (13, .c .b)], [(5, .boxT (.s .net)), (15, .arr .I true)]⟩
def w1j (av : AV) (x : HP z17.ps) (n : Nat) (v : y4e.den) (K : Ks (CR z17)) : Option (CR z17) := z2q v.2.1 v.1.2.2.1 v.1.2.2.2.1 v.1.2.2.2.2.2.2.1 (fun s1_0 => y26.at none ((v.1.1, v.1.2.1, v.1.2.2.1, v.1.2.2.2.1, (), (), v.1.2.2.2.2.2.2.1, s1_0, ()), (v.2.1, v.2.2.1, ())) (K (.exit 2))) n v.1.2.2.2.2.2.2.2.1 v.1.2.2.2.2.2.2.2.2.1
def y3l (av : AV) (x : HP z17.ps) : Hdl (CR z17) := hnd [] y4e (w1j av x)
theorem w2i : LP z17 Tryz.f102 [0, 0] y3l := lp_ok (W := []) (H := []) (xs := [y26]) y5i trivial rfl (fun av x v K => by kernel_rfl) (fun av x n v K => by kernel_rfl)
def yh1 : Tmpl := ⟨[(1, .c (.s .I)), (2, .c (.s (.s .did))), (3, .c (.s (.s .item))), (4, .c .i), (5, .c (.bx 5 0)), (11, .c (.ref 15)), (12, .c .i)], [(5, .boxT (.s .net)), (15, .arr .I true)]⟩
def y8p : Tmpl := ⟨[(11, .c (.ref 15))], [(15, .arr .I true)]⟩
def w6v (av : AV) (x : HP z17.ps) (n : Nat) (v : yh1.den) (K : Ks (CR z17)) : Option (CR z17) := z6d v.2.1 v.1.1 v.1.2.1 v.1.2.2.1 v.1.2.2.2.1 (fun l0_1 => y8p.at none (((), ()), (l0_1, ())) (K (.exit 0))) n v.1.2.2.2.2.2.2.1 v.2.2.1
def ya0 (av : AV) (x : HP z17.ps) : Hdl (CR z17) := hnd [] yh1 (w6v av x)
theorem w8v : LP z17 Tryz.f102 [0] ya0 := lp_ok (W := []) (H := [y3l]) (xs := [y8p]) y5i ⟨w2i, trivial⟩ rfl (fun av x v K => by kernel_rfl) (fun av x n v K => by kernel_rfl)
theorem w0t : z17.Ok Tryz.prog := fn_ok (k := z17) (fn := Tryz.f102) (W := []) (H := [ya0]) Tryz.func102 y5i ⟨w8v, trivial⟩ rfl rfl (fun av x => by kernel_rfl)
def z9v (n : GNet) (data : List Int) : Option GCase := (z3m n).bind fun x1 => (if x1 = true then ((z2y data).bind fun x3 => (if x3 = true then (gd ((0 : Int) ≤ n.places ∧ n.places ≤ (1000000000 : Int)) (gd (([] : List Int).length + data.length ≤ SMALL) ((getI (List.replicate n.places.toNat (0 : Int)) 0).bind fun x7 => (some (GCase.mk 1 ((List.replicate n.places.toNat (0 : Int)).set (0 : Int).toNat 1) [] (([] : List Int) ++ data) []))))) else (some (GCase.mk 0 [] [] [] [])))) else (some (GCase.mk 0 [] [] [] [])))
def zw6 : Con := ⟨155, [.v (.s .net) false, .v (.sl .I) false], [((.s .kase), true)], [], fun x => z9v x.1 x.2.1⟩
def wt1 : Fs := ⟨[z2v, z1d], [], []⟩
theorem ww9 : wt1.Ok Tryz.prog := (fsK zs5 (fsK z75 fs0))
theorem w0q : zw6.Ok Tryz.prog := fn_ok (k := zw6) (fn := Tryz.f155) (W := []) (H := []) Tryz.func155 ww9 trivial rfl rfl (fun av x => by kernel_rfl)
def zi1 (c : GCase) : Option Bool := if decide (c.state = 1) = true then ((getI c.marks 1).bind fun x20 => (some (decide (x20 = 0)))) else (if decide ((c.busy.length : Int) = 0) = true then ((getI c.marks 1).bind fun x22 => (some ((decide (c.state = 2)) == (decide (0 < x22))))) else (some false))
def z7n (n : GNet) (c : GCase) (kx0_0 : Option Bool) : Nat → Int → Option Bool
  | 0, _ => none
  | n0 + 1, s0_0 => if decide (s0_0 < (c.did.length : Int)) = true then ((getI c.did s0_0).bind fun x11 => (gd (ok64 ((n.tasks.length : Int) - 1)) ((z03 x11.task 0 ((n.tasks.length : Int) - 1)).bind fun x13 => (if x13 = true then ((getI c.did s0_0).bind fun x15 => ((z03 x15.who 1 4).bind fun x16 => (if x16 = true then (gd (ok64 (s0_0 + 1)) ((z7n n c kx0_0 n0) (s0_0 + 1))) else (some false)))) else (some false))))) else (kx0_0)
def z9d (n : GNet) (c : GCase) : Option Bool := (z9e n c.marks).bind fun x1 => (if x1 = true then ((zj6 n c.busy).bind fun x3 => (if x3 = true then ((z2y c.data).bind fun x5 => (if x5 = true then (if decide (60 < (c.did.length : Int)) = true then (some false) else ((z03 c.state 1 3).bind fun x8 => (if x8 = true then (z7n n c (zi1 c) FUEL 0) else (some false)))) else (some false))) else (some false))) else (some false))
def z3h : Con := ⟨25, [.v (.s .net) false, .v (.s .kase) false], [(.B, true)], [], fun x => z9d x.1 x.2.1⟩
def v2l : Fs := ⟨[z3i, z4i, z1d, z0p], [], []⟩
theorem w3f : v2l.Ok Tryz.prog := (fsK y1x (fsK w0v (fsK z75 (fsK z0x fs0))))
def yr9 : Tmpl := ⟨[(2, .c (.bx 2 0)), (3, .c (.bx 3 0)), (5, .c .i)], [(2, .boxT (.s .net)), (3, .boxT (.s .kase))]⟩
def yi9 : Tmpl := ⟨[(3, .c (.bx 3 0))], [(3, .boxT (.s .kase))]⟩
def wb9 (av : AV) (x : HP z3h.ps) (n : Nat) (v : yr9.den) (K : Ks (CR z3h)) : Option (CR z3h) := z7n v.2.1 v.2.2.1 (yi9.at none (((), ()), (v.2.2.1, ())) (K (.exit 0))) n v.1.2.2.1
def yp5 (av : AV) (x : HP z3h.ps) : Hdl (CR z3h) := hnd [] yr9 (wb9 av x)
theorem wi8 : LP z3h Tryz.f25 [0] yp5 := lp_ok (W := []) (H := []) (xs := [yi9]) w3f trivial rfl (fun av x v K => by kernel_rfl) (fun av x n v K => by kernel_rfl)
theorem y1w : z3h.Ok Tryz.prog := fn_ok (k := z3h) (fn := Tryz.f25) (W := []) (H := [yp5]) Tryz.func25 w3f ⟨wi8, trivial⟩ rfl rfl (fun av x => by kernel_rfl)
def z72 (c : GCase) : Option GCase := gd (([] : List Int).length + c.marks.length ≤ SMALL) (gd (([] : List GItem).length + c.busy.length ≤ SMALL) (gd (([] : List Int).length + c.data.length ≤ SMALL) (gd (([] : List GDid).length + c.did.length ≤ SMALL) (some (GCase.mk c.state (([] : List Int) ++ c.marks) (([] : List GItem) ++ c.busy) (([] : List Int) ++ c.data) (([] : List GDid) ++ c.did))))))
def z9o : Con := ⟨86, [.v (.s .kase) false], [((.s .kase), true)], [], fun x => z72 x.1⟩
def wu9 : Fs := ⟨[], [], []⟩
theorem wx9 : wu9.Ok Tryz.prog := fs0
theorem zz8 : z9o.Ok Tryz.prog := fn_ok (k := z9o) (fn := Tryz.f86) (W := []) (H := []) Tryz.func86 wx9 trivial rfl rfl (fun av x => by kernel_rfl)
def z7o (n : GNet) (people : List Int) (c : GCase) (t : Int) (who : Int) : Option (GCase × Bool) := (z72 c).bind fun x1 => ((z9d n c).bind fun x2 => (if x2 = true then (if decide (c.state = 1) = true then ((zi2 n c.marks c.busy t).bind fun x5 => (if x5 = true then ((z9z n people c.did c.busy t).bind fun x7 => ((ze8 x7 who).bind fun x8 => (if x8 = true then (if decide ((c.busy.length : Int) = 6) = true then (some (x1, false)) else ((zp9 n c.marks t).bind fun x11 => (gd (x1.busy.length + [(GItem.mk t who 0)].length ≤ SMALL) (some ((GCase.mk x1.state x11 (x1.busy ++ [(GItem.mk t who 0)]) x1.data x1.did), true))))) else (some (x1, false))))) else (some (x1, false)))) else (some (x1, false))) else (some (x1, false))))
def zh1 : Con := ⟨32, [.v (.s .net) false, .v (.sl .I) false, .v (.s .kase) false, .v .I false, .v .I false], [((.s .kase), true), (.B, true)], [], fun x => z7o x.1 x.2.1 x.2.2.1 x.2.2.2.1 x.2.2.2.2.1⟩
def w7k : Fs := ⟨[z9o, z3h, zw8, z17, z4p, z49], [], []⟩
theorem w87 : w7k.Ok Tryz.prog := (fsK zz8 (fsK y1w (fsK w0s (fsK w0t (fsK yf3 (fsK wl5 fs0))))))
theorem yf0 : zh1.Ok Tryz.prog := fn_ok (k := zh1) (fn := Tryz.f32) (W := []) (H := []) Tryz.func32 w87 trivial rfl rfl (fun av x => by kernel_rfl)
def zb9 (n : GNet) (c : GCase) (k : Int) (v : Int) (num : Int) : Option (GCase × Bool) := (z72 c).bind fun x1 => ((z9d n c).bind fun x2 => (if x2 = true then (if decide (c.state = 1) = true then (gd (ok64 ((c.busy.length : Int) - 1)) ((z03 k 0 ((c.busy.length : Int) - 1)).bind fun x6 => (if x6 = true then ((z03 v (-1) 2).bind fun x8 => (if x8 = true then ((z03 num (-99) 99).bind fun x10 => (if x10 = true then (if decide ((c.did.length : Int) = 60) = true then (some (x1, false)) else ((getI c.busy k).bind fun x13 => ((z8b c.data v num).bind fun x14 => (gd (ok64 (x13.did + 1)) ((getI x1.busy k).bind fun x16 => (gd (ok64 (x13.did + 1)) ((getI n.tasks x13.task).bind fun x18 => (if decide ((x13.did + 1) < x18.need) = true then (some ((GCase.mk x1.state x1.marks (x1.busy.set k.toNat (GItem.mk x16.task x16.who (x13.did + 1))) x14 x1.did), true)) else ((zq0 n c.marks x13.task x14).bind fun x20 => (if x20.2 = true then (gd ((0 : Int) ≤ k ∧ k ≤ (c.busy.length : Int)) (gd (([] : List GItem).length + (c.busy.take k.toNat).length ≤ SMALL) (gd (ok64 (k + 1)) (gd ((0 : Int) ≤ (k + 1) ∧ (k + 1) ≤ (c.busy.length : Int)) (gd ((([] : List GItem) ++ (c.busy.take k.toNat)).length + (c.busy.drop (k + 1).toNat).length ≤ SMALL) (gd (x1.did.length + [(GDid.mk x13.task x13.who)].length ≤ SMALL) ((getI x20.1 1).bind fun x28 => (if decide (0 < x28) = true then (some ((GCase.mk 2 x20.1 ([] : List GItem) x14 (x1.did ++ [(GDid.mk x13.task x13.who)])), true)) else (some ((GCase.mk x1.state x20.1 ((([] : List GItem) ++ (c.busy.take k.toNat)) ++ (c.busy.drop (k + 1).toNat)) x14 (x1.did ++ [(GDid.mk x13.task x13.who)])), true)))))))))) else ((z72 c).bind fun x30 => (some (x30, false))))))))))))) else (some (x1, false)))) else (some (x1, false)))) else (some (x1, false))))) else (some (x1, false))) else (some (x1, false))))
def zp2 : Con := ⟨112, [.v (.s .net) false, .v (.s .kase) false, .v .I false, .v .I false, .v .I false], [((.s .kase), true), (.B, true)], [], fun x => zb9 x.1 x.2.1 x.2.2.1 x.2.2.2.1 x.2.2.2.2.1⟩
def we7 : Fs := ⟨[z9o, z3h, z0p, zw7, z11], [], []⟩
theorem wh4 : we7.Ok Tryz.prog := (fsK zz8 (fsK y1w (fsK z0x (fsK w0r (fsK wl6 fs0)))))
theorem yq9 : zp2.Ok Tryz.prog := fn_ok (k := zp2) (fn := Tryz.f112) (W := []) (H := []) Tryz.func112 wh4 trivial rfl rfl (fun av x => by kernel_rfl)
def zp8 (n : GNet) (c : GCase) : Option (GCase × Bool) := (z72 c).bind fun x1 => ((z9d n c).bind fun x2 => (if x2 = true then (if decide (c.state = 1) = true then (some ((GCase.mk 3 x1.marks ([] : List GItem) x1.data x1.did), true)) else (some (x1, false))) else (some (x1, false))))
def y2o : Con := ⟨23, [.v (.s .net) false, .v (.s .kase) false], [((.s .kase), true), (.B, true)], [], fun x => zp8 x.1 x.2.1⟩
def we6 : Fs := ⟨[z9o, z3h], [], []⟩
theorem wh3 : we6.Ok Tryz.prog := (fsK zz8 (fsK y1w fs0))
theorem wl4 : y2o.Ok Tryz.prog := fn_ok (k := y2o) (fn := Tryz.f23) (W := []) (H := []) Tryz.func23 wh3 trivial rfl rfl (fun av x => by kernel_rfl)
def z09 (c : GCase) : Option GCase := (z0h c.marks).bind fun x1 => (gd (([] : List GItem).length + c.busy.length ≤ SMALL) ((z0h c.data).bind fun x3 => (gd (([] : List GDid).length + c.did.length ≤ SMALL) (some (GCase.mk c.state x1 (([] : List GItem) ++ c.busy) x3 (([] : List GDid) ++ c.did))))))
def z3c : Con := ⟨84, [.v (.s .kase) false], [((.s .kase), true)], [], fun x => z09 x.1⟩
def ym0 : Fs := ⟨[z1h], [], []⟩
theorem ym6 : ym0.Ok Tryz.prog := (fsK z2r fs0)
theorem z7c : z3c.Ok Tryz.prog := fn_ok (k := z3c) (fn := Tryz.f84) (W := []) (H := []) Tryz.func84 ym6 trivial rfl rfl (fun av x => by kernel_rfl)
def yd5 (s0_0 : Int) (bk0 : Int → Option Bool) (s1_0 : Int) : Option Bool := if ((decide (s0_0 = 0)) == (decide (s1_0 = 0))) = true then (if decide (1 < s1_0) = true then (some false) else (gd (ok64 (s0_0 + 1)) (bk0 (s0_0 + 1)))) else (some false)
def z19 (tree : List GNode) (s0_0 : Int) (kx1_0 : Int → Option Bool) : Nat → Int → Int → Option Bool
  | 0, _, _ => none
  | n1 + 1, s1_0, s1_1 => if decide (s1_1 < (tree.length : Int)) = true then ((getI tree s1_1).bind fun x15 => (if decide (x15.yes = s0_0) = true then (gd (ok64 (s1_0 + 1)) ((getI tree s1_1).bind fun x18 => (if decide (x18.no = s0_0) = true then (gd (ok64 ((s1_0 + 1) + 1)) (gd (ok64 (s1_1 + 1)) ((z19 tree s0_0 kx1_0 n1) ((s1_0 + 1) + 1) (s1_1 + 1)))) else (gd (ok64 (s1_1 + 1)) ((z19 tree s0_0 kx1_0 n1) (s1_0 + 1) (s1_1 + 1)))))) else ((getI tree s1_1).bind fun x23 => (if decide (x23.no = s0_0) = true then (gd (ok64 (s1_0 + 1)) (gd (ok64 (s1_1 + 1)) ((z19 tree s0_0 kx1_0 n1) (s1_0 + 1) (s1_1 + 1)))) else (gd (ok64 (s1_1 + 1)) ((z19 tree s0_0 kx1_0 n1) s1_0 (s1_1 + 1))))))) else (kx1_0 s1_0)
def yd6 (s0_0 : Int) (bk0 : Int → Option Bool) (s2_0 : Int) : Option Bool := if ((decide (s0_0 = 0)) == (decide (s2_0 = 0))) = true then (if decide (1 < s2_0) = true then (some false) else (gd (ok64 (s0_0 + 1)) (bk0 (s0_0 + 1)))) else (some false)
def yd7 (s0_0 : Int) (bk0 : Int → Option Bool) (s3_0 : Int) : Option Bool := if ((decide (s0_0 = 0)) == (decide (s3_0 = 0))) = true then (if decide (1 < s3_0) = true then (some false) else (gd (ok64 (s0_0 + 1)) (bk0 (s0_0 + 1)))) else (some false)
def yd8 (s0_0 : Int) (bk0 : Int → Option Bool) (s4_0 : Int) : Option Bool := if ((decide (s0_0 = 0)) == (decide (s4_0 = 0))) = true then (if decide (1 < s4_0) = true then (some false) else (gd (ok64 (s0_0 + 1)) (bk0 (s0_0 + 1)))) else (some false)
def yd9  : Option Bool := some true
def z3a (tree : List GNode) (kx0_0 : Option Bool) : Nat → Int → Option Bool
  | 0, _ => none
  | n0 + 1, s0_0 => if decide (s0_0 < (tree.length : Int)) = true then ((getI tree s0_0).bind fun x3 => ((z6y x3.if_).bind fun x4 => (if x4 = true then ((z03 x3.ans 0 2).bind fun x6 => (if x6 = true then ((z2y x3.stone).bind fun x8 => (if x8 = true then ((z1i x3.if_ x3.stone).bind fun x10 => (if x10 = true then (if decide (x3.yes = (-1)) = true then (if decide (x3.no = (-1)) = true then (z19 tree s0_0 (yd5 s0_0 (z3a tree kx0_0 n0)) FUEL 0 0) else (gd (ok64 (s0_0 + 1)) (gd (ok64 ((tree.length : Int) - 1)) ((z03 x3.no (s0_0 + 1) ((tree.length : Int) - 1)).bind fun x33 => (if x33 = true then (z19 tree s0_0 (yd6 s0_0 (z3a tree kx0_0 n0)) FUEL 0 0) else (some false)))))) else (gd (ok64 (s0_0 + 1)) (gd (ok64 ((tree.length : Int) - 1)) ((z03 x3.yes (s0_0 + 1) ((tree.length : Int) - 1)).bind fun x54 => (if x54 = true then (if decide (x3.no = (-1)) = true then (z19 tree s0_0 (yd7 s0_0 (z3a tree kx0_0 n0)) FUEL 0 0) else (gd (ok64 (s0_0 + 1)) (gd (ok64 ((tree.length : Int) - 1)) ((z03 x3.no (s0_0 + 1) ((tree.length : Int) - 1)).bind fun x76 => (if x76 = true then (z19 tree s0_0 (yd8 s0_0 (z3a tree kx0_0 n0)) FUEL 0 0) else (some false)))))) else (some false)))))) else (some false))) else (some false))) else (some false))) else (some false)))) else (kx0_0)
def z9g (tree : List GNode) : Option Bool := if decide (12 < (tree.length : Int)) = true then (some false) else (z3a tree yd9 FUEL 0)
def z1e : Con := ⟨129, [.v (.sl (.s .node)) false], [(.B, true)], [], fun x => z9g x.1⟩
def v2t : Fs := ⟨[z97, z0p, z1d, z4o], [], []⟩
theorem y9i : v2t.Ok Tryz.prog := (fsK zs4 (fsK z0x (fsK z75 (fsK z7y fs0))))
def y82 : Tmpl := ⟨[(0, .c (.s (.s .node))), (3, .c .i), (5, .c .i), (6, .c .i)], []⟩
def y4y : Tmpl := ⟨[(0, .c (.s (.s .node))), (3, .c .i), (5, .c .i)], []⟩
def w4l (av : AV) (x : HP z1e.ps) (n : Nat) (v : y82.den) (K : Ks (CR z1e)) : Option (CR z1e) := z19 v.1.1 v.1.2.1 (fun s1_0 => y4y.at none ((v.1.1, v.1.2.1, s1_0, ()), ()) (K (.exit 2))) n v.1.2.2.1 v.1.2.2.2.1
def y72 (av : AV) (x : HP z1e.ps) : Hdl (CR z1e) := hnd [] y82 (w4l av x)
theorem w5k : LP z1e Tryz.f129 [0, 0] y72 := lp_ok (W := []) (H := []) (xs := [y4y]) y9i trivial rfl (fun av x v K => by kernel_rfl) (fun av x n v K => by kernel_rfl)
def ys6 : Tmpl := ⟨[(0, .c (.s (.s .node))), (3, .c .i)], []⟩
def yj6 : Tmpl := ⟨[], []⟩
def wc6 (av : AV) (x : HP z1e.ps) (n : Nat) (v : ys6.den) (K : Ks (CR z1e)) : Option (CR z1e) := z3a v.1.1 (yj6.at none ((), ()) (K (.exit 0))) n v.1.2.1
def yq2 (av : AV) (x : HP z1e.ps) : Hdl (CR z1e) := hnd [] ys6 (wc6 av x)
theorem wj5 : LP z1e Tryz.f129 [0] yq2 := lp_ok (W := []) (H := [y72]) (xs := [yj6]) y9i ⟨w5k, trivial⟩ rfl (fun av x v K => by kernel_rfl) (fun av x n v K => by kernel_rfl)
theorem yf1 : z1e.Ok Tryz.prog := fn_ok (k := z1e) (fn := Tryz.f129) (W := []) (H := [yq2]) Tryz.func129 y9i ⟨wj5, trivial⟩ rfl rfl (fun av x => by kernel_rfl)
def y7j (s0_0 : Int) (s0_1 : Int) : Option (Int × Int) := some (s0_0, s0_1)
def y7k (s0_0 : Int) (s0_1 : Int) : Option (Int × Int) := some (s0_0, s0_1)
def z3n (tree : List GNode) (data : List Int) (kx0_0 : Int → Int → Option (Int × Int)) (kx0_1 : Int → Int → Option (Int × Int)) : Nat → Int → Int → Int → Int → Option (Int × Int)
  | 0, _, _, _, _ => none
  | n0 + 1, s0_0, s0_1, s0_2, s0_3 => if decide (s0_3 < 12) = true then (if decide (s0_2 = (-1)) = true then (kx0_0 s0_0 s0_1) else ((getI tree s0_2).bind fun x4 => ((z1i x4.if_ data).bind fun x5 => (if x5 = true then ((getI tree s0_2).bind fun x7 => (gd (ok64 (s0_3 + 1)) ((z3n tree data kx0_0 kx0_1 n0) s0_2 s0_2 x7.yes (s0_3 + 1)))) else ((getI tree s0_2).bind fun x9 => (gd (ok64 (s0_3 + 1)) ((z3n tree data kx0_0 kx0_1 n0) s0_0 s0_2 x9.no (s0_3 + 1)))))))) else (kx0_1 s0_0 s0_1)
def y7l (s1_0 : Int) (s1_1 : Int) : Option (Int × Int) := some (s1_0, s1_1)
def y7m (s1_0 : Int) (s1_1 : Int) : Option (Int × Int) := some (s1_0, s1_1)
def z8e (tree : List GNode) (data : List Int) : Option (Int × Int) := if decide ((tree.length : Int) = 0) = true then (z3n tree data y7j y7k FUEL (-1) (-1) (-1) 0) else (z3n tree data y7l y7m FUEL (-1) (-1) 0 0)
def z36 : Con := ⟨209, [.v (.sl (.s .node)) false, .v (.sl .I) false], [(.I, true), (.I, true)], [], fun x => z8e x.1 x.2.1⟩
def wv2 : Fs := ⟨[z4o], [], []⟩
theorem w04 : wv2.Ok Tryz.prog := (fsK z7y fs0)
def yh6 : Tmpl := ⟨[(0, .c (.s (.s .node))), (1, .c (.s .I)), (6, .c .i), (7, .c .i), (8, .c .i), (9, .c .i)], []⟩
def zu3 : Tmpl := ⟨[(6, .c .i), (7, .c .i)], []⟩
def w70 (av : AV) (x : HP z36.ps) (n : Nat) (v : yh6.den) (K : Ks (CR z36)) : Option (CR z36) := z3n v.1.1 v.1.2.1 (fun s0_0 s0_1 => zu3.at none ((s0_0, s0_1, ()), ()) (K (.exit 0))) (fun s0_0 s0_1 => zu3.at none ((s0_0, s0_1, ()), ()) (K (.exit 0))) n v.1.2.2.1 v.1.2.2.2.1 v.1.2.2.2.2.1 v.1.2.2.2.2.2.1
def ya5 (av : AV) (x : HP z36.ps) : Hdl (CR z36) := hnd [] yh6 (w70 av x)
theorem w90 : LP z36 Tryz.f209 [0] ya5 := lp_ok (W := []) (H := []) (xs := [zu3]) w04 trivial rfl (fun av x v K => by kernel_rfl) (fun av x n v K => by kernel_rfl)
theorem y6c : z36.Ok Tryz.prog := fn_ok (k := z36) (fn := Tryz.f209) (W := []) (H := [ya5]) Tryz.func209 w04 ⟨w90, trivial⟩ rfl rfl (fun av x => by kernel_rfl)
def zy7 (tree : List GNode) (data : List Int) : Option Int := (z9g tree).bind fun x1 => (if x1 = true then ((z2y data).bind fun x3 => (if x3 = true then ((z8e tree data).bind fun x5 => (if decide (x5.1 = (-1)) = true then (some 0) else ((getI tree x5.1).bind fun x7 => (some x7.ans)))) else (some 0))) else (some 0))
def y5t : Con := ⟨186, [.v (.sl (.s .node)) false, .v (.sl .I) false], [(.I, true)], [], fun x => zy7 x.1 x.2.1⟩
def wu0 : Fs := ⟨[z1e, z1d, z36], [], []⟩
theorem wx2 : wu0.Ok Tryz.prog := (fsK yf1 (fsK z75 (fsK y6c fs0)))
theorem v0n : y5t.Ok Tryz.prog := fn_ok (k := y5t) (fn := Tryz.f186) (W := []) (H := []) Tryz.func186 wx2 trivial rfl rfl (fun av x => by kernel_rfl)
def zz3 (tree : List GNode) (a : List Int) (b : List Int) : Option Bool := (z8e tree a).bind fun x1 => ((z8e tree b).bind fun x2 => (if decide (x1.2 = x2.2) = true then (if decide (x1.2 = (-1)) = true then (some true) else ((getI tree x1.2).bind fun x5 => ((z1i x5.if_ a).bind fun x6 => ((getI tree x1.2).bind fun x7 => ((z1i x7.if_ b).bind fun x8 => (some (x6 == x8))))))) else (some false)))
def y5y : Con := ⟨210, [.v (.sl (.s .node)) false, .v (.sl .I) false, .v (.sl .I) false], [(.B, true)], [], fun x => zz3 x.1 x.2.1 x.2.2.1⟩
def wv1 : Fs := ⟨[z36, z4o], [], []⟩
theorem wy0 : wv1.Ok Tryz.prog := (fsK y6c (fsK z7y fs0))
theorem v0t : y5y.Ok Tryz.prog := fn_ok (k := y5y) (fn := Tryz.f210) (W := []) (H := []) Tryz.func210 wy0 trivial rfl rfl (fun av x => by kernel_rfl)
def zt9 (l0_1 : List GNode) : Option (List GNode) := some l0_1
def z6f (tree : List GNode) (kx0_0 : List GNode → Option (List GNode)) : Nat → Int → List GNode → Option (List GNode)
  | 0, _, _ => none
  | n0 + 1, s0_0, l0_1 => if decide (s0_0 < (tree.length : Int)) = true then ((getI tree s0_0).bind fun x2 => (gd (([] : List Int).length + x2.stone.length ≤ SMALL) (gd (l0_1.length + [(GNode.mk x2.if_ x2.yes x2.no x2.ans (([] : List Int) ++ x2.stone))].length ≤ SMALL) (gd (ok64 (s0_0 + 1)) ((z6f tree kx0_0 n0) (s0_0 + 1) (l0_1 ++ [(GNode.mk x2.if_ x2.yes x2.no x2.ans (([] : List Int) ++ x2.stone))])))))) else (kx0_0 l0_1)
def zj9 (tree : List GNode) : Option (List GNode) := z6f tree zt9 FUEL 0 ([] : List GNode)
def z4j : Con := ⟨189, [.v (.sl (.s .node)) false], [((.sl (.s .node)), true)], [], fun x => zj9 x.1⟩
def wv0 : Fs := ⟨[], [], []⟩
theorem w03 : wv0.Ok Tryz.prog := fs0
def yh5 : Tmpl := ⟨[(0, .c (.s (.s .node))), (3, .c (.ref 6)), (4, .c .i)], [(6, .arr (.s .node) true)]⟩
def y8t : Tmpl := ⟨[(3, .c (.ref 6))], [(6, .arr (.s .node) true)]⟩
def w6z (av : AV) (x : HP z4j.ps) (n : Nat) (v : yh5.den) (K : Ks (CR z4j)) : Option (CR z4j) := z6f v.1.1 (fun l0_1 => y8t.at none (((), ()), (l0_1, ())) (K (.exit 0))) n v.1.2.2.1 v.2.1
def ya4 (av : AV) (x : HP z4j.ps) : Hdl (CR z4j) := hnd [] yh5 (w6z av x)
theorem w8z : LP z4j Tryz.f189 [0] ya4 := lp_ok (W := []) (H := []) (xs := [y8t]) w03 trivial rfl (fun av x v K => by kernel_rfl) (fun av x n v K => by kernel_rfl)
theorem w0w : z4j.Ok Tryz.prog := fn_ok (k := z4j) (fn := Tryz.f189) (W := []) (H := [ya4]) Tryz.func189 w03 ⟨w8z, trivial⟩ rfl rfl (fun av x => by kernel_rfl)
def zd2 (tree : List GNode) (data : List Int) (e : GAsk) (ans : Int) (x1 : (List GNode)) : Option ((List GNode) × Bool) := (z8e tree data).bind fun x20 => (if decide (x20.2 = (-1)) = true then (gd (([] : List Int).length + data.length ≤ SMALL) (gd (x1.length + [(GNode.mk e (-1) (-1) ans (([] : List Int) ++ data))].length ≤ SMALL) (some ((x1 ++ [(GNode.mk e (-1) (-1) ans (([] : List Int) ++ data))]), true)))) else ((getI tree x20.2).bind fun x24 => ((z1i x24.if_ data).bind fun x25 => (if x25 = true then ((getI x1 x20.2).bind fun x27 => (gd (([] : List Int).length + data.length ≤ SMALL) (gd ((x1.set x20.2.toNat (GNode.mk x27.if_ (tree.length : Int) x27.no x27.ans x27.stone)).length + [(GNode.mk e (-1) (-1) ans (([] : List Int) ++ data))].length ≤ SMALL) (some (((x1.set x20.2.toNat (GNode.mk x27.if_ (tree.length : Int) x27.no x27.ans x27.stone)) ++ [(GNode.mk e (-1) (-1) ans (([] : List Int) ++ data))]), true))))) else ((getI x1 x20.2).bind fun x30 => (gd (([] : List Int).length + data.length ≤ SMALL) (gd ((x1.set x20.2.toNat (GNode.mk x30.if_ x30.yes (tree.length : Int) x30.ans x30.stone)).length + [(GNode.mk e (-1) (-1) ans (([] : List Int) ++ data))].length ≤ SMALL) (some (((x1.set x20.2.toNat (GNode.mk x30.if_ x30.yes (tree.length : Int) x30.ans x30.stone)) ++ [(GNode.mk e (-1) (-1) ans (([] : List Int) ++ data))]), true)))))))))
def z56 (tree : List GNode) (data : List Int) (e : GAsk) (x1 : (List GNode)) (kx0_0 : Option ((List GNode) × Bool)) : Nat → Int → Option ((List GNode) × Bool)
  | 0, _ => none
  | n0 + 1, s0_0 => if decide (s0_0 < (tree.length : Int)) = true then ((getI tree s0_0).bind fun x12 => ((zz3 tree x12.stone data).bind fun x13 => (if x13 = true then ((getI tree s0_0).bind fun x15 => ((z1i e x15.stone).bind fun x16 => (if x16 = true then (some (x1, false)) else (gd (ok64 (s0_0 + 1)) ((z56 tree data e x1 kx0_0 n0) (s0_0 + 1)))))) else (gd (ok64 (s0_0 + 1)) ((z56 tree data e x1 kx0_0 n0) (s0_0 + 1)))))) else (kx0_0)
def z8c (tree : List GNode) (data : List Int) (e : GAsk) (ans : Int) : Option ((List GNode) × Bool) := (zj9 tree).bind fun x1 => ((z9g tree).bind fun x2 => (if x2 = true then ((z2y data).bind fun x4 => (if x4 = true then ((z1i e data).bind fun x6 => (if x6 = true then ((z03 ans 0 2).bind fun x8 => (if x8 = true then (if decide ((tree.length : Int) = 12) = true then (some (x1, false)) else (z56 tree data e x1 (zd2 tree data e ans x1) FUEL 0)) else (some (x1, false)))) else (some (x1, false)))) else (some (x1, false)))) else (some (x1, false))))
def z4a : Con := ⟨187, [.v (.sl (.s .node)) false, .v (.sl .I) false, .v (.s .ask) false, .v .I false], [((.sl (.s .node)), true), (.B, true)], [], fun x => z8c x.1 x.2.1 x.2.2.1 x.2.2.2.1⟩
def wt9 : Fs := ⟨[z4j, z1e, z1d, z4o, z0p, y5y, z36], [], []⟩
theorem w00 : wt9.Ok Tryz.prog := (fsK w0w (fsK yf1 (fsK z75 (fsK z7y (fsK z0x (fsK v0t (fsK y6c fs0)))))))
def yh2 : Tmpl := ⟨[(0, .c (.s (.s .node))), (1, .c (.s .I)), (3, .c .i), (6, .c (.bx 6 0)), (10, .c (.ref 15)), (11, .c .i)], [(6, .boxT (.s .ask)), (15, .arr (.s .node) true)]⟩
def y8q : Tmpl := ⟨[(0, .c (.s (.s .node))), (1, .c (.s .I)), (3, .c .i), (6, .c (.bx 6 0)), (10, .c (.ref 15))], [(6, .boxT (.s .ask)), (15, .arr (.s .node) true)]⟩
def w6w (av : AV) (x : HP z4a.ps) (n : Nat) (v : yh2.den) (K : Ks (CR z4a)) : Option (CR z4a) := z56 v.1.1 v.1.2.1 v.2.1 v.2.2.1 (y8q.at none ((v.1.1, v.1.2.1, v.1.2.2.1, (), (), ()), (v.2.1, v.2.2.1, ())) (K (.exit 0))) n v.1.2.2.2.2.2.1
def ya1 (av : AV) (x : HP z4a.ps) : Hdl (CR z4a) := hnd [] yh2 (w6w av x)
theorem w8w : LP z4a Tryz.f187 [0] ya1 := lp_ok (W := []) (H := []) (xs := [y8q]) w00 trivial rfl (fun av x v K => by kernel_rfl) (fun av x n v K => by kernel_rfl)
theorem w0u : z4a.Ok Tryz.prog := fn_ok (k := z4a) (fn := Tryz.f187) (W := []) (H := [ya1]) Tryz.func187 w00 ⟨w8w, trivial⟩ rfl rfl (fun av x => by kernel_rfl)
def z4r (ans : Int) : Option Bool := (z0c ans 0 2).bind fun x1 => (some x1)
def z96 : Con := ⟨121, [.v .I false], [(.B, true)], [], fun x => z4r x.1⟩
def w7i : Fs := ⟨[z1y], [], []⟩
theorem w85 : w7i.Ok Tryz.prog := (fsK z2m fs0)
theorem y0q : z96.Ok Tryz.prog := fn_ok (k := z96) (fn := Tryz.f121) (W := []) (H := []) Tryz.func121 w85 trivial rfl rfl (fun av x => by kernel_rfl)
def zb0 (l0_1 : List GNode) : Option (List GNode) := some l0_1
def z3g (tree : List GNode) (p0_0 : Int) (kx0_0 : List GNode → Option (List GNode)) : Nat → Int → List GNode → Option (List GNode)
  | 0, _, _ => none
  | n0 + 1, s0_0, l0_1 => if decide (s0_0 < p0_0) = true then ((getI tree s0_0).bind fun x2 => ((z0h x2.stone).bind fun x3 => (gd (l0_1.length + [(GNode.mk x2.if_ x2.yes x2.no x2.ans x3)].length ≤ SMALL) (gd (ok64 (s0_0 + 1)) ((z3g tree p0_0 kx0_0 n0) (s0_0 + 1) (l0_1 ++ [(GNode.mk x2.if_ x2.yes x2.no x2.ans x3)])))))) else (kx0_0 l0_1)
def z7k (tree : List GNode) : Option (List GNode) := z3g tree (tree.length : Int) zb0 FUEL 0 ([] : List GNode)
def z1l : Con := ⟨183, [.v (.sl (.s .node)) false], [((.sl (.s .node)), true)], [], fun x => z7k x.1⟩
def w20 : Fs := ⟨[z1h], [], []⟩
theorem y3j : w20.Ok Tryz.prog := (fsK z2r fs0)
def y0y : Tmpl := ⟨[(3, .c (.ref 500003)), (6, .c (.s (.s .node))), (7, .c .i), (8, .c .i)], [(500003, .arr (.s .node) true)]⟩
def zv7 : Tmpl := ⟨[(3, .c (.ref 500003))], [(500003, .arr (.s .node) true)]⟩
def yt2 (av : AV) (x : HP z1l.ps) (n : Nat) (v : y0y.den) (K : Ks (CR z1l)) : Option (CR z1l) := z3g v.1.2.1 v.1.2.2.1 (fun l0_1 => zv7.at none (((), ()), (l0_1, ())) (K (.exit 0))) n v.1.2.2.2.1 v.2.1
def y09 (av : AV) (x : HP z1l.ps) : Hdl (CR z1l) := hnd [.e 3 500003 (.s .node)] y0y (yt2 av x)
theorem yv4 : LP z1l Tryz.f183 [0] y09 := lp_ok (W := []) (H := []) (xs := [zv7]) y3j trivial rfl (fun av x v K => by kernel_rfl) (fun av x n v K => by kernel_rfl)
theorem y48 : z1l.Ok Tryz.prog := fn_ok (k := z1l) (fn := Tryz.f183) (W := []) (H := [y09]) Tryz.func183 y3j ⟨yv4, trivial⟩ rfl rfl (fun av x => by kernel_rfl)
def y7n  : Option Bool := some true
def z6i (nets : List GNet) (kx0_0 : Option Bool) : Nat → Int → Option Bool
  | 0, _ => none
  | n0 + 1, s0_0 => if decide (s0_0 < (nets.length : Int)) = true then ((getI nets s0_0).bind fun x4 => ((z3m x4).bind fun x5 => (if x5 = true then (gd (ok64 (s0_0 + 1)) ((z6i nets kx0_0 n0) (s0_0 + 1))) else (some false)))) else (kx0_0)
def zk0 (nets : List GNet) : Option Bool := (z03 (nets.length : Int) 1 3).bind fun x1 => (if x1 = true then (z6i nets y7n FUEL 0) else (some false))
def z4k : Con := ⟨128, [.v (.sl (.s .net)) false], [(.B, true)], [], fun x => zk0 x.1⟩
def wv6 : Fs := ⟨[z0p, z2v], [], []⟩
theorem w05 : wv6.Ok Tryz.prog := (fsK z0x (fsK zs5 fs0))
def yh9 : Tmpl := ⟨[(0, .c (.s (.s .net))), (3, .c .i)], []⟩
def y8w : Tmpl := ⟨[], []⟩
def w73 (av : AV) (x : HP z4k.ps) (n : Nat) (v : yh9.den) (K : Ks (CR z4k)) : Option (CR z4k) := z6i v.1.1 (y8w.at none ((), ()) (K (.exit 0))) n v.1.2.1
def ya8 (av : AV) (x : HP z4k.ps) : Hdl (CR z4k) := hnd [] yh9 (w73 av x)
theorem w93 : LP z4k Tryz.f128 [0] ya8 := lp_ok (W := []) (H := []) (xs := [y8w]) w05 trivial rfl (fun av x v K => by kernel_rfl) (fun av x n v K => by kernel_rfl)
theorem w0x : z4k.Ok Tryz.prog := fn_ok (k := z4k) (fn := Tryz.f128) (W := []) (H := [ya8]) Tryz.func128 w05 ⟨w93, trivial⟩ rfl rfl (fun av x => by kernel_rfl)
def zd9 (p0_1 : Int) (l0_1 : List GTask) : Option GNet := some (GNet.mk p0_1 l0_1)
def z43 (n : GNet) (kx0_0 : List GTask → Option GNet) : Nat → Int → List GTask → Option GNet
  | 0, _, _ => none
  | n0 + 1, s0_0, l0_1 => if decide (s0_0 < (n.tasks.length : Int)) = true then ((getI n.tasks s0_0).bind fun x2 => (gd (([] : List Int).length + x2.in_.length ≤ SMALL) (gd (([] : List GFlow).length + x2.out.length ≤ SMALL) (gd (([] : List Int).length + x2.clear.length ≤ SMALL) (gd (l0_1.length + [(GTask.mk x2.join x2.split (([] : List Int) ++ x2.in_) (([] : List GFlow) ++ x2.out) (([] : List Int) ++ x2.clear) x2.role x2.apart x2.all x2.need)].length ≤ SMALL) (gd (ok64 (s0_0 + 1)) ((z43 n kx0_0 n0) (s0_0 + 1) (l0_1 ++ [(GTask.mk x2.join x2.split (([] : List Int) ++ x2.in_) (([] : List GFlow) ++ x2.out) (([] : List Int) ++ x2.clear) x2.role x2.apart x2.all x2.need)])))))))) else (kx0_0 l0_1)
def z8m (n : GNet) : Option GNet := z43 n (zd9 n.places) FUEL 0 ([] : List GTask)
def z24 : Con := ⟨190, [.v (.s .net) false], [((.s .net), true)], [], fun x => z8m x.1⟩
def w53 : Fs := ⟨[], [], []⟩
theorem y6p : w53.Ok Tryz.prog := fs0
def y24 : Tmpl := ⟨[(1, .c (.bx 1 0)), (2, .c (.bx 2 0)), (3, .c (.bx 3 0)), (4, .c .i)], [(1, .boxT (.s .net)), (2, .box [.i, .nl]), (3, .box [.i, .ref 510301]), (510301, .arr (.s .task) true)]⟩
def y15 : Tmpl := ⟨[(2, .c (.bx 2 0)), (3, .c (.bx 3 0))], [(2, .box [.i, .nl]), (3, .box [.i, .ref 510301]), (510301, .arr (.s .task) true)]⟩
def yx5 (av : AV) (x : HP z24.ps) (n : Nat) (v : y24.den) (K : Ks (CR z24)) : Option (CR z24) := z43 v.2.1 (fun l0_1 => y15.at none (((), (), ()), ((v.2.2.1.1, (), ()), (v.2.2.2.1.1, (), ()), l0_1, ())) (K (.exit 0))) n v.1.2.2.2.1 v.2.2.2.2.1
def y1e (av : AV) (x : HP z24.ps) : Hdl (CR z24) := hnd [.b 3 1 510301 (.s .task)] y24 (yx5 av x)
theorem w0f : LP z24 Tryz.f190 [0] y1e := lp_ok (W := []) (H := []) (xs := [y15]) y6p trivial rfl (fun av x v K => by kernel_rfl) (fun av x n v K => by kernel_rfl)
theorem y7p : z24.Ok Tryz.prog := fn_ok (k := z24) (fn := Tryz.f190) (W := []) (H := [y1e]) Tryz.func190 y6p ⟨w0f, trivial⟩ rfl rfl (fun av x => by kernel_rfl)
def zt7 (p0_0 : List Int) (l0_1 : List GNet) : Option GHouse := some (GHouse.mk l0_1 p0_0 [] [])
def z6b (nets : List GNet) (kx0_0 : List GNet → Option GHouse) : Nat → Int → List GNet → Option GHouse
  | 0, _, _ => none
  | n0 + 1, s0_0, l0_1 => if decide (s0_0 < (nets.length : Int)) = true then ((getI nets s0_0).bind fun x7 => ((z8m x7).bind fun x8 => (gd (l0_1.length + [x8].length ≤ SMALL) (gd (ok64 (s0_0 + 1)) ((z6b nets kx0_0 n0) (s0_0 + 1) (l0_1 ++ [x8])))))) else (kx0_0 l0_1)
def zy3 (nets : List GNet) (people : List Int) : Option GHouse := (zk0 nets).bind fun x1 => (if x1 = true then ((z9f people).bind fun x3 => (if x3 = true then (gd (([] : List Int).length + people.length ≤ SMALL) (z6b nets (zt7 (([] : List Int) ++ people)) FUEL 0 ([] : List GNet))) else (some (GHouse.mk [] [] [] [])))) else (some (GHouse.mk [] [] [] [])))
def z5h : Con := ⟨195, [.v (.sl (.s .net)) false, .v (.sl .I) false], [((.s .house), true)], [], fun x => zy3 x.1 x.2.1⟩
def wt4 : Fs := ⟨[z4k, z3j, z24], [], []⟩
theorem yz6 : wt4.Ok Tryz.prog := (fsK w0x (fsK y1y (fsK y7p fs0)))
def yg7 : Tmpl := ⟨[(0, .c (.s (.s .net))), (4, .c (.bx 4 0)), (5, .c (.bx 5 0)), (6, .c .i)], [(4, .box [.nl, .nl, .nl, .nl]), (5, .box [.ref 510500, .ref 18, .nl, .nl]), (510500, .arr (.s .net) true), (18, .arr .I true)]⟩
def y8l : Tmpl := ⟨[(4, .c (.bx 4 0)), (5, .c (.bx 5 0))], [(4, .box [.nl, .nl, .nl, .nl]), (5, .box [.ref 510500, .ref 18, .nl, .nl]), (510500, .arr (.s .net) true), (18, .arr .I true)]⟩
def w6r (av : AV) (x : HP z5h.ps) (n : Nat) (v : yg7.den) (K : Ks (CR z5h)) : Option (CR z5h) := z6b v.1.1 (fun l0_1 => y8l.at none (((), (), ()), (((), (), (), (), ()), ((), (), (), (), ()), l0_1, v.2.2.2.2.1, ())) (K (.exit 0))) n v.1.2.2.2.1 v.2.2.2.1
def y9w (av : AV) (x : HP z5h.ps) : Hdl (CR z5h) := hnd [.b 5 0 510500 (.s .net)] yg7 (w6r av x)
theorem w8r : LP z5h Tryz.f195 [0] y9w := lp_ok (W := []) (H := []) (xs := [y8l]) yz6 trivial rfl (fun av x v K => by kernel_rfl) (fun av x n v K => by kernel_rfl)
theorem v0j : z5h.Ok Tryz.prog := fn_ok (k := z5h) (fn := Tryz.f195) (W := []) (H := [y9w]) Tryz.func195 yz6 ⟨w8r, trivial⟩ rfl rfl (fun av x => by kernel_rfl)
def yd0  : Option Bool := some true
def z7q (h : GHouse) (kx0_0 : Option Bool) : Nat → Int → Option Bool
  | 0, _ => none
  | n0 + 1, s0_0 => if decide (s0_0 < (h.runs.length : Int)) = true then ((getI h.runs s0_0).bind fun x9 => (gd (ok64 ((h.nets.length : Int) - 1)) ((z03 x9.net 0 ((h.nets.length : Int) - 1)).bind fun x11 => (if x11 = true then ((getI h.runs s0_0).bind fun x13 => ((getI h.nets x13.net).bind fun x14 => ((getI h.runs s0_0).bind fun x15 => ((z9d x14 x15.case).bind fun x16 => (if x16 = true then (gd (ok64 (s0_0 + 1)) ((z7q h kx0_0 n0) (s0_0 + 1))) else (some false)))))) else (some false))))) else (kx0_0)
def y1o (h : GHouse) : Option Bool := (zk0 h.nets).bind fun x1 => (if x1 = true then ((z9f h.people).bind fun x3 => (if x3 = true then ((z9g h.tree).bind fun x5 => (if x5 = true then (if decide (5 < (h.runs.length : Int)) = true then (some false) else (z7q h yd0 FUEL 0)) else (some false))) else (some false))) else (some false))
def z6q : Con := ⟨54, [.v (.s .house) false], [(.B, true)], [], fun x => y1o x.1⟩
def v2n : Fs := ⟨[z4k, z3j, z1e, z0p, z3h], [], []⟩
theorem w3h : v2n.Ok Tryz.prog := (fsK w0x (fsK y1y (fsK yf1 (fsK z0x (fsK y1w fs0)))))
def ys1 : Tmpl := ⟨[(1, .c (.bx 1 0)), (3, .c .i)], [(1, .boxT (.s .house))]⟩
def yj1 : Tmpl := ⟨[], []⟩
def wc1 (av : AV) (x : HP z6q.ps) (n : Nat) (v : ys1.den) (K : Ks (CR z6q)) : Option (CR z6q) := z7q v.2.1 (yj1.at none ((), ()) (K (.exit 0))) n v.1.2.1
def yp7 (av : AV) (x : HP z6q.ps) : Hdl (CR z6q) := hnd [] ys1 (wc1 av x)
theorem wj0 : LP z6q Tryz.f54 [0] yp7 := lp_ok (W := []) (H := []) (xs := [yj1]) w3h trivial rfl (fun av x v K => by kernel_rfl) (fun av x n v K => by kernel_rfl)
theorem v4b : z6q.Ok Tryz.prog := fn_ok (k := z6q) (fn := Tryz.f54) (W := []) (H := [yp7]) Tryz.func54 w3h ⟨wj0, trivial⟩ rfl rfl (fun av x => by kernel_rfl)
def zu0 (x2 : (List GNode)) (p0_0 : List Int) (l0_1 : List GNet) (l1_1 : List GRun) : Option GHouse := some (GHouse.mk l0_1 p0_0 x2 l1_1)
def z6h (h : GHouse) (kx1_0 : List GRun → Option GHouse) : Nat → Int → List GRun → Option GHouse
  | 0, _, _ => none
  | n1 + 1, s1_0, l1_1 => if decide (s1_0 < (h.runs.length : Int)) = true then ((getI h.runs s1_0).bind fun x9 => ((getI h.runs s1_0).bind fun x10 => ((z72 x10.case).bind fun x11 => (gd (l1_1.length + [(GRun.mk x9.net x11)].length ≤ SMALL) (gd (ok64 (s1_0 + 1)) ((z6h h kx1_0 n1) (s1_0 + 1) (l1_1 ++ [(GRun.mk x9.net x11)]))))))) else (kx1_0 l1_1)
def zd4 (h : GHouse) (x2 : (List GNode)) (p0_0 : List Int) (l0_1 : List GNet) : Option GHouse := z6h h (zu0 x2 p0_0 l0_1) FUEL 0 ([] : List GRun)
def z6g (h : GHouse) (kx0_0 : List GNet → Option GHouse) : Nat → Int → List GNet → Option GHouse
  | 0, _, _ => none
  | n0 + 1, s0_0, l0_1 => if decide (s0_0 < (h.nets.length : Int)) = true then ((getI h.nets s0_0).bind fun x4 => ((z8m x4).bind fun x5 => (gd (l0_1.length + [x5].length ≤ SMALL) (gd (ok64 (s0_0 + 1)) ((z6g h kx0_0 n0) (s0_0 + 1) (l0_1 ++ [x5])))))) else (kx0_0 l0_1)
def z73 (h : GHouse) : Option GHouse := gd (([] : List Int).length + h.people.length ≤ SMALL) ((zj9 h.tree).bind fun x2 => (z6g h (zd4 h x2 (([] : List Int) ++ h.people)) FUEL 0 ([] : List GNet)))
def z0y : Con := ⟨135, [.v (.s .house) false], [((.s .house), true)], [], fun x => z73 x.1⟩
def wv4 : Fs := ⟨[z4j, z24, z9o], [], []⟩
theorem y5j : wv4.Ok Tryz.prog := (fsK w0w (fsK y7p (fsK zz8 fs0)))
def yh7 : Tmpl := ⟨[(1, .c (.bx 1 0)), (2, .c (.bx 2 0)), (3, .c (.bx 3 0)), (4, .c .i)], [(1, .boxT (.s .house)), (2, .box [.nl, .nl, .nl, .nl]), (3, .box [.ref 510300, .ref 9, .ref 12, .nl]), (510300, .arr (.s .net) true), (9, .arr .I true), (12, .arr (.s .node) true)]⟩
def y8u : Tmpl := ⟨[(1, .c (.bx 1 0)), (2, .c (.bx 2 0)), (3, .c (.bx 3 0))], [(1, .boxT (.s .house)), (2, .box [.nl, .nl, .nl, .nl]), (3, .box [.ref 510300, .ref 9, .ref 12, .nl]), (510300, .arr (.s .net) true), (9, .arr .I true), (12, .arr (.s .node) true)]⟩
def w71 (av : AV) (x : HP z0y.ps) (n : Nat) (v : yh7.den) (K : Ks (CR z0y)) : Option (CR z0y) := z6g v.2.1 (fun l0_1 => y8u.at none (((), (), (), ()), (v.2.1, ((), (), (), (), ()), ((), (), (), (), ()), l0_1, v.2.2.2.2.2.1, v.2.2.2.2.2.2.1, ())) (K (.exit 0))) n v.1.2.2.2.1 v.2.2.2.2.1
def ya6 (av : AV) (x : HP z0y.ps) : Hdl (CR z0y) := hnd [.b 3 0 510300 (.s .net)] yh7 (w71 av x)
theorem w91 : LP z0y Tryz.f135 [0] ya6 := lp_ok (W := []) (H := []) (xs := [y8u]) y5j trivial rfl (fun av x v K => by kernel_rfl) (fun av x n v K => by kernel_rfl)
def yh8 : Tmpl := ⟨[(1, .c (.bx 1 0)), (2, .c (.bx 2 0)), (3, .c (.bx 3 0)), (5, .c .i)], [(1, .boxT (.s .house)), (2, .box [.nl, .nl, .nl, .nl]), (3, .box [.ref 510300, .ref 9, .ref 12, .ref 510303]), (510300, .arr (.s .net) true), (9, .arr .I true), (12, .arr (.s .node) true), (510303, .arr (.s .run) true)]⟩
def y8v : Tmpl := ⟨[(2, .c (.bx 2 0)), (3, .c (.bx 3 0))], [(2, .box [.nl, .nl, .nl, .nl]), (3, .box [.ref 510300, .ref 9, .ref 12, .ref 510303]), (510300, .arr (.s .net) true), (9, .arr .I true), (12, .arr (.s .node) true), (510303, .arr (.s .run) true)]⟩
def w72 (av : AV) (x : HP z0y.ps) (n : Nat) (v : yh8.den) (K : Ks (CR z0y)) : Option (CR z0y) := z6h v.2.1 (fun l1_1 => y8v.at none (((), (), ()), (((), (), (), (), ()), ((), (), (), (), ()), v.2.2.2.2.1, v.2.2.2.2.2.1, v.2.2.2.2.2.2.1, l1_1, ())) (K (.exit 2))) n v.1.2.2.2.1 v.2.2.2.2.2.2.2.1
def ya7 (av : AV) (x : HP z0y.ps) : Hdl (CR z0y) := hnd [.b 3 3 510303 (.s .run)] yh8 (w72 av x)
theorem w92 : LP z0y Tryz.f135 [1] ya7 := lp_ok (W := []) (H := []) (xs := [y8v]) y5j trivial rfl (fun av x v K => by kernel_rfl) (fun av x n v K => by kernel_rfl)
theorem y6d : z0y.Ok Tryz.prog := fn_ok (k := z0y) (fn := Tryz.f135) (W := []) (H := [ya6, ya7]) Tryz.func135 y5j ⟨w91, w92, trivial⟩ rfl rfl (fun av x => by kernel_rfl)
def zz5 (r : GReq) : Option GReq := if decide (r.kind = 1) = true then (some (GReq.mk r.kind 0 0 0 0 0 r.data (GAsk.mk 0 0 0) 0)) else (if decide (r.kind = 2) = true then (some (GReq.mk r.kind r.who r.case r.task 0 0 [] (GAsk.mk 0 0 0) 0)) else (if decide (r.kind = 3) = true then (some (GReq.mk r.kind 0 r.case r.task r.var r.num [] (GAsk.mk 0 0 0) 0)) else (if decide (r.kind = 4) = true then (some (GReq.mk r.kind 0 r.case 0 0 0 [] (GAsk.mk 0 0 0) 0)) else (if decide (r.kind = 5) = true then (some (GReq.mk r.kind 0 0 0 0 0 r.data r.if_ r.ans)) else (some (GReq.mk r.kind 0 0 0 0 0 [] (GAsk.mk 0 0 0) 0))))))
def y60 : Con := ⟨137, [.v (.s .req) false], [((.s .req), false)], [], fun x => zz5 x.1⟩
def wv5 : Fs := ⟨[], [], []⟩
theorem wy2 : wv5.Ok Tryz.prog := fs0
theorem v0v : y60.Ok Tryz.prog := fn_ok (k := y60) (fn := Tryz.f137) (W := []) (H := []) Tryz.func137 wy2 trivial rfl rfl (fun av x => by kernel_rfl)
def z58 (a : GReq) (b : GReq) : Option Bool := if decide (a.kind = b.kind) = true then (if decide (a.who = b.who) = true then (if decide (a.case = b.case) = true then (if decide (a.task = b.task) = true then (if decide (a.var = b.var) = true then (if decide (a.num = b.num) = true then (if decide ([a.if_.op, a.if_.var, a.if_.k] = [b.if_.op, b.if_.var, b.if_.k]) = true then (some (decide (a.ans = b.ans))) else (some false)) else (some false)) else (some false)) else (some false)) else (some false)) else (some false)) else (some false)
def z3o (a : GReq) (b : GReq) (kx0_0 : Option Bool) : Nat → Int → Option Bool
  | 0, _ => none
  | n0 + 1, s0_0 => if decide (s0_0 < (a.data.length : Int)) = true then ((getI a.data s0_0).bind fun x3 => ((getI b.data s0_0).bind fun x4 => (if decide (x3 = x4) = true then (gd (ok64 (s0_0 + 1)) ((z3o a b kx0_0 n0) (s0_0 + 1))) else (some false)))) else (kx0_0)
def zz6 (a : GReq) (b : GReq) : Option Bool := if decide ((a.data.length : Int) = (b.data.length : Int)) = true then (z3o a b (z58 a b) FUEL 0) else (some false)
def z5m : Con := ⟨136, [.v (.s .req) false, .v (.s .req) false], [(.B, true)], [], fun x => zz6 x.1 x.2.1⟩
def wv7 : Fs := ⟨[], [], []⟩
theorem w06 : wv7.Ok Tryz.prog := fs0
def yi0 : Tmpl := ⟨[(2, .c (.bx 2 0)), (3, .c (.bx 3 0)), (5, .c .i)], [(2, .boxT (.s .req)), (3, .boxT (.s .req))]⟩
def y8x : Tmpl := ⟨[(2, .c (.bx 2 0)), (3, .c (.bx 3 0))], [(2, .boxT (.s .req)), (3, .boxT (.s .req))]⟩
def w74 (av : AV) (x : HP z5m.ps) (n : Nat) (v : yi0.den) (K : Ks (CR z5m)) : Option (CR z5m) := z3o v.2.1 v.2.2.1 (y8x.at none (((), (), ()), (v.2.1, v.2.2.1, ())) (K (.exit 0))) n v.1.2.2.1
def ya9 (av : AV) (x : HP z5m.ps) : Hdl (CR z5m) := hnd [] yi0 (w74 av x)
theorem w94 : LP z5m Tryz.f136 [0] ya9 := lp_ok (W := []) (H := []) (xs := [y8x]) w06 trivial rfl (fun av x v K => by kernel_rfl) (fun av x n v K => by kernel_rfl)
theorem v0w : z5m.Ok Tryz.prog := fn_ok (k := z5m) (fn := Tryz.f136) (W := []) (H := [ya9]) Tryz.func136 w06 ⟨w94, trivial⟩ rfl rfl (fun av x => by kernel_rfl)
def z60 (r : GReq) : Option Bool := (z03 r.kind 1 5).bind fun x1 => (if x1 = true then ((zz5 r).bind fun x3 => ((zz6 r x3).bind fun x4 => (if x4 = true then ((z03 r.who 0 4).bind fun x6 => (if x6 = true then ((z03 r.case 0 4).bind fun x8 => (if x8 = true then ((z03 r.task 0 5).bind fun x10 => (if x10 = true then ((z03 r.var (-1) 2).bind fun x12 => (if x12 = true then ((z03 r.num (-99) 99).bind fun x14 => (if x14 = true then ((z6y r.if_).bind fun x16 => (if x16 = true then ((z03 r.ans 0 2).bind fun x18 => (if x18 = true then (if decide (r.kind = 1) = true then ((z2y r.data).bind fun x21 => (some (true == x21))) else ((z2y r.data).bind fun x22 => (some ((decide (r.kind = 5)) == x22)))) else (some false))) else (some false))) else (some false))) else (some false))) else (some false))) else (some false))) else (some false))) else (some false)))) else (some false))
def z7d : Con := ⟨63, [.v (.s .req) false], [(.B, true)], [], fun x => z60 x.1⟩
def w7m : Fs := ⟨[z0p, y60, z5m, z97, z1d], [], []⟩
theorem w88 : w7m.Ok Tryz.prog := (fsK z0x (fsK v0v (fsK v0w (fsK zs4 (fsK z75 fs0)))))
theorem zk3 : z7d.Ok Tryz.prog := fn_ok (k := z7d) (fn := Tryz.f63) (W := []) (H := []) Tryz.func63 w88 trivial rfl rfl (fun av x => by kernel_rfl)
def zz4 (h : GHouse) (r : GReq) : Option (GHouse × Int) := if decide ((h.runs.length : Int) ≤ r.case) = true then (some (h, 2)) else ((getI h.runs r.case).bind fun x2 => ((getI h.nets x2.net).bind fun x3 => (if decide (r.kind = 2) = true then ((z7o x3 h.people x2.case r.task r.who).bind fun x5 => (if x5.2 = true then ((getI h.runs r.case).bind fun x7 => (some ((GHouse.mk h.nets h.people h.tree (h.runs.set r.case.toNat (GRun.mk x7.net x5.1))), 1))) else (some (h, 3)))) else (if decide (r.kind = 3) = true then ((zb9 x3 x2.case r.task r.var r.num).bind fun x9 => (if x9.2 = true then ((getI h.runs r.case).bind fun x11 => (some ((GHouse.mk h.nets h.people h.tree (h.runs.set r.case.toNat (GRun.mk x11.net x9.1))), 1))) else (some (h, 3)))) else ((zp8 x3 x2.case).bind fun x12 => (if x12.2 = true then ((getI h.runs r.case).bind fun x14 => (some ((GHouse.mk h.nets h.people h.tree (h.runs.set r.case.toNat (GRun.mk x14.net x12.1))), 1))) else (some (h, 3))))))))
def y5z : Con := ⟨188, [.v (.s .house) true, .v (.s .req) false], [((.s .house), true), (.I, true)], [], fun x => zz4 x.1 x.2.1⟩
def wv3 : Fs := ⟨[zh1, zp2, y2o], [], []⟩
theorem wy1 : wv3.Ok Tryz.prog := (fsK yf0 (fsK yq9 (fsK wl4 fs0)))
theorem v0u : y5z.Ok Tryz.prog := fn_ok (k := y5z) (fn := Tryz.f188) (W := []) (H := []) Tryz.func188 wy1 trivial rfl rfl (fun av x => by kernel_rfl)
def zo5 (h : GHouse) (r : GReq) : Option (GHouse × Int) := if decide (r.kind = 1) = true then (if decide ((h.runs.length : Int) = 5) = true then (some (h, 4)) else ((zy7 h.tree r.data).bind fun x3 => (if decide ((h.nets.length : Int) ≤ x3) = true then ((getI h.nets 0).bind fun x5 => ((z9v x5 r.data).bind fun x6 => (gd (h.runs.length + [(GRun.mk 0 x6)].length ≤ SMALL) (some ((GHouse.mk h.nets h.people h.tree (h.runs ++ [(GRun.mk 0 x6)])), 1))))) else ((getI h.nets x3).bind fun x8 => ((z9v x8 r.data).bind fun x9 => (gd (h.runs.length + [(GRun.mk x3 x9)].length ≤ SMALL) (some ((GHouse.mk h.nets h.people h.tree (h.runs ++ [(GRun.mk x3 x9)])), 1)))))))) else (if decide (r.kind = 5) = true then ((z8c h.tree r.data r.if_ r.ans).bind fun x12 => (if x12.2 = true then (some ((GHouse.mk h.nets h.people x12.1 h.runs), 1)) else (some (h, 3)))) else ((zz4 h r).bind fun x14 => (some (x14.1, x14.2))))
def y0f : Con := ⟨134, [.v (.s .house) true, .v (.s .req) false], [((.s .house), true), (.I, true)], [], fun x => zo5 x.1 x.2.1⟩
def v62 : Fs := ⟨[y5t, zw6, z4a, y5z], [], []⟩
theorem v66 : v62.Ok Tryz.prog := (fsK v0n (fsK w0q (fsK w0u (fsK v0u fs0))))
theorem yw5 : y0f.Ok Tryz.prog := fn_ok (k := y0f) (fn := Tryz.f134) (W := []) (H := []) Tryz.func134 v66 trivial rfl rfl (fun av x => by kernel_rfl)
def z2s (r : GReq) : Option GReq := (z0h r.data).bind fun x1 => (some (GReq.mk r.kind r.who r.case r.task r.var r.num x1 r.if_ r.ans))
def z83 : Con := ⟨149, [.v (.s .req) false], [((.s .req), true)], [], fun x => z2s x.1⟩
def yt8 : Fs := ⟨[z1h], [], []⟩
theorem yu5 : yt8.Ok Tryz.prog := (fsK z2r fs0)
theorem y0p : z83.Ok Tryz.prog := fn_ok (k := z83) (fn := Tryz.f149) (W := []) (H := []) Tryz.func149 yu5 trivial rfl rfl (fun av x => by kernel_rfl)
def z7g (x1 : (List Int)) (x2 : (List GNode)) (l0_1 : List GNet) (l1_1 : List GRun) : Option GHouse := some (GHouse.mk l0_1 x1 x2 l1_1)
def z1t (p1_0 : List GRun) (p1_1 : Int) (kx1_0 : List GRun → Option GHouse) : Nat → Int → List GRun → Option GHouse
  | 0, _, _ => none
  | n1 + 1, s1_0, l1_1 => if decide (s1_0 < p1_1) = true then ((getI p1_0 s1_0).bind fun x9 => ((z09 x9.case).bind fun x10 => (gd (l1_1.length + [(GRun.mk x9.net x10)].length ≤ SMALL) (gd (ok64 (s1_0 + 1)) ((z1t p1_0 p1_1 kx1_0 n1) (s1_0 + 1) (l1_1 ++ [(GRun.mk x9.net x10)])))))) else (kx1_0 l1_1)
def z4v (h : GHouse) (x1 : (List Int)) (x2 : (List GNode)) (l0_1 : List GNet) : Option GHouse := z1t h.runs (h.runs.length : Int) (z7g x1 x2 l0_1) FUEL 0 ([] : List GRun)
def z1s (p0_0 : List GNet) (p0_1 : Int) (kx0_0 : List GNet → Option GHouse) : Nat → Int → List GNet → Option GHouse
  | 0, _, _ => none
  | n0 + 1, s0_0, l0_1 => if decide (s0_0 < p0_1) = true then ((getI p0_0 s0_0).bind fun x4 => ((z87 x4).bind fun x5 => (gd (l0_1.length + [x5].length ≤ SMALL) (gd (ok64 (s0_0 + 1)) ((z1s p0_0 p0_1 kx0_0 n0) (s0_0 + 1) (l0_1 ++ [x5])))))) else (kx0_0 l0_1)
def z2w (h : GHouse) : Option GHouse := (z0h h.people).bind fun x1 => ((z7k h.tree).bind fun x2 => (z1s h.nets (h.nets.length : Int) (z4v h x1 x2) FUEL 0 ([] : List GNet)))
def z0a : Con := ⟨132, [.v (.s .house) false], [((.s .house), true)], [], fun x => z2w x.1⟩
def y99 : Fs := ⟨[z1h, z1l, z1f, z3c], [], []⟩
theorem z92 : y99.Ok Tryz.prog := (fsK z2r (fsK y48 (fsK yw3 (fsK z7c fs0))))
def zk8 : Tmpl := ⟨[(1, .c (.bx 1 0)), (2, .c (.bx 2 0)), (3, .c (.bx 3 0)), (16, .c (.s (.s .net))), (17, .c .i), (18, .c .i)], [(1, .boxT (.s .house)), (2, .box [.nl, .nl, .nl, .nl]), (3, .box [.ref 510300, .ref 10, .ref 13, .nl]), (510300, .arr (.s .net) true), (10, .arr .I true), (13, .arr (.s .node) true)]⟩
def zf0 : Tmpl := ⟨[(1, .c (.bx 1 0)), (2, .c (.bx 2 0)), (3, .c (.bx 3 0))], [(1, .boxT (.s .house)), (2, .box [.nl, .nl, .nl, .nl]), (3, .box [.ref 510300, .ref 10, .ref 13, .nl]), (510300, .arr (.s .net) true), (10, .arr .I true), (13, .arr (.s .node) true)]⟩
def y57 (av : AV) (x : HP z0a.ps) (n : Nat) (v : zk8.den) (K : Ks (CR z0a)) : Option (CR z0a) := z1s v.1.2.2.2.1 v.1.2.2.2.2.1 (fun l0_1 => zf0.at none (((), (), (), ()), (v.2.1, ((), (), (), (), ()), ((), (), (), (), ()), l0_1, v.2.2.2.2.2.1, v.2.2.2.2.2.2.1, ())) (K (.exit 0))) n v.1.2.2.2.2.2.1 v.2.2.2.2.1
def zf9 (av : AV) (x : HP z0a.ps) : Hdl (CR z0a) := hnd [.b 3 0 510300 (.s .net)] zk8 (y57 av x)
theorem y61 : LP z0a Tryz.f132 [0] zf9 := lp_ok (W := []) (H := []) (xs := [zf0]) z92 trivial rfl (fun av x v K => by kernel_rfl) (fun av x n v K => by kernel_rfl)
def zk9 : Tmpl := ⟨[(2, .c (.bx 2 0)), (3, .c (.bx 3 0)), (31, .c (.s (.s .run))), (32, .c .i), (33, .c .i)], [(2, .box [.nl, .nl, .nl, .nl]), (3, .box [.ref 510300, .ref 10, .ref 13, .ref 510303]), (510300, .arr (.s .net) true), (10, .arr .I true), (13, .arr (.s .node) true), (510303, .arr (.s .run) true)]⟩
def zf1 : Tmpl := ⟨[(2, .c (.bx 2 0)), (3, .c (.bx 3 0))], [(2, .box [.nl, .nl, .nl, .nl]), (3, .box [.ref 510300, .ref 10, .ref 13, .ref 510303]), (510300, .arr (.s .net) true), (10, .arr .I true), (13, .arr (.s .node) true), (510303, .arr (.s .run) true)]⟩
def y58 (av : AV) (x : HP z0a.ps) (n : Nat) (v : zk9.den) (K : Ks (CR z0a)) : Option (CR z0a) := z1t v.1.2.2.1 v.1.2.2.2.1 (fun l1_1 => zf1.at none (((), (), ()), (((), (), (), (), ()), ((), (), (), (), ()), v.2.2.2.1, v.2.2.2.2.1, v.2.2.2.2.2.1, l1_1, ())) (K (.exit 2))) n v.1.2.2.2.2.1 v.2.2.2.2.2.2.1
def zg0 (av : AV) (x : HP z0a.ps) : Hdl (CR z0a) := hnd [.b 3 3 510303 (.s .run)] zk9 (y58 av x)
theorem y62 : LP z0a Tryz.f132 [1] zg0 := lp_ok (W := []) (H := []) (xs := [zf1]) z92 trivial rfl (fun av x v K => by kernel_rfl) (fun av x n v K => by kernel_rfl)
theorem ye2 : z0a.Ok Tryz.prog := fn_ok (k := z0a) (fn := Tryz.f132) (W := []) (H := [zf9, zg0]) Tryz.func132 z92 ⟨y61, y62, trivial⟩ rfl rfl (fun av x => by kernel_rfl)
def yd1  : Option Bool := some true
def z7r (log : List GReq) (kx0_0 : Option Bool) : Nat → Int → Option Bool
  | 0, _ => none
  | n0 + 1, s0_0 => if decide (s0_0 < (log.length : Int)) = true then ((getI log s0_0).bind fun x3 => ((z60 x3).bind fun x4 => (if x4 = true then (gd (ok64 (s0_0 + 1)) ((z7r log kx0_0 n0) (s0_0 + 1))) else (some false)))) else (kx0_0)
def y1p (log : List GReq) : Option Bool := if decide (150 < (log.length : Int)) = true then (some false) else (z7r log yd1 FUEL 0)
def z6r : Con := ⟨77, [.v (.sl (.s .req)) false], [(.B, true)], [], fun x => y1p x.1⟩
def v2p : Fs := ⟨[z7d], [], []⟩
theorem w3i : v2p.Ok Tryz.prog := (fsK zk3 fs0)
def ys2 : Tmpl := ⟨[(0, .c (.s (.s .req))), (3, .c .i)], []⟩
def yj2 : Tmpl := ⟨[], []⟩
def wc2 (av : AV) (x : HP z6r.ps) (n : Nat) (v : ys2.den) (K : Ks (CR z6r)) : Option (CR z6r) := z7r v.1.1 (yj2.at none ((), ()) (K (.exit 0))) n v.1.2.1
def yp8 (av : AV) (x : HP z6r.ps) : Hdl (CR z6r) := hnd [] ys2 (wc2 av x)
theorem wj1 : LP z6r Tryz.f77 [0] yp8 := lp_ok (W := []) (H := []) (xs := [yj2]) w3i trivial rfl (fun av x v K => by kernel_rfl) (fun av x n v K => by kernel_rfl)
theorem v4c : z6r.Ok Tryz.prog := fn_ok (k := z6r) (fn := Tryz.f77) (W := []) (H := [yp8]) Tryz.func77 w3i ⟨wj1, trivial⟩ rfl rfl (fun av x => by kernel_rfl)
def zy8 (r : GReq) : Option GReq := gd (([] : List Int).length + r.data.length ≤ SMALL) (some (GReq.mk r.kind r.who r.case r.task r.var r.num (([] : List Int) ++ r.data) r.if_ r.ans))
def y5u : Con := ⟨150, [.v (.s .req) false], [((.s .req), true)], [], fun x => zy8 x.1⟩
def wu1 : Fs := ⟨[], [], []⟩
theorem wx3 : wu1.Ok Tryz.prog := fs0
theorem v0o : y5u.Ok Tryz.prog := fn_ok (k := y5u) (fn := Tryz.f150) (W := []) (H := []) Tryz.func150 wx3 trivial rfl rfl (fun av x => by kernel_rfl)
def y7f (l0_1 : List Int) (l0_2 : List GReq) (l0_3 : List GNode) (l0_4 : List GNet) (l0_5 : List GRun) : Option (GHouse × (List GReq)) := some ((GHouse.mk l0_4 l0_1 l0_3 l0_5), l0_2)
def z54 (reqs : List GReq) (kx0_0 : List Int → List GReq → List GNode → List GNet → List GRun → Option (GHouse × (List GReq))) : Nat → Int → List Int → List GReq → List GNode → List GNet → List GRun → Option (GHouse × (List GReq))
  | 0, _, _, _, _, _, _ => none
  | n0 + 1, s0_0, l0_1, l0_2, l0_3, l0_4, l0_5 => if decide (s0_0 < (reqs.length : Int)) = true then ((z73 (GHouse.mk l0_4 l0_1 l0_3 l0_5)).bind fun x7 => ((getI reqs s0_0).bind fun x8 => ((zo5 x7 x8).bind fun x9 => (if decide (x9.2 = 1) = true then ((getI reqs s0_0).bind fun x11 => ((zy8 x11).bind fun x12 => (gd (l0_2.length + [x12].length ≤ SMALL) (gd (ok64 (s0_0 + 1)) ((z54 reqs kx0_0 n0) (s0_0 + 1) x9.1.people (l0_2 ++ [x12]) x9.1.tree x9.1.nets x9.1.runs))))) else (gd (ok64 (s0_0 + 1)) ((z54 reqs kx0_0 n0) (s0_0 + 1) l0_1 l0_2 l0_3 l0_4 l0_5)))))) else (kx0_0 l0_1 l0_2 l0_3 l0_4 l0_5)
def zy4 (h : GHouse) (reqs : List GReq) : Option (GHouse × (List GReq)) := (y1o h).bind fun x1 => (if x1 = true then ((y1p reqs).bind fun x3 => (if x3 = true then ((z73 h).bind fun x5 => (z54 reqs y7f FUEL 0 x5.people ([] : List GReq) x5.tree x5.nets x5.runs)) else (some ((GHouse.mk [] [] [] []), ([] : List GReq))))) else (some ((GHouse.mk [] [] [] []), ([] : List GReq))))
def z5i : Con := ⟨75, [.v (.s .house) false, .v (.sl (.s .req)) false], [((.s .house), true), ((.sl (.s .req)), true)], [], fun x => zy4 x.1 x.2.1⟩
def wt5 : Fs := ⟨[z6q, z6r, z0y, y0f, y5u], [], []⟩
theorem yz7 : wt5.Ok Tryz.prog := (fsK v4b (fsK v4c (fsK y6d (fsK yw5 (fsK v0o fs0)))))
def yg8 : Tmpl := ⟨[(1, .c (.s (.s .req))), (4, .c (.bx 4 0)), (6, .c (.ref 11)), (7, .c (.bx 7 0)), (8, .c .i)], [(4, .box [.nl, .nl, .nl, .nl]), (7, .box [.ref 23, .ref 10023, .ref 20023, .ref 30023]), (11, .arr (.s .req) true), (23, .arr (.s .net) true), (10023, .arr .I true), (20023, .arr (.s .node) true), (30023, .arr (.s .run) true)]⟩
def y8m : Tmpl := ⟨[(4, .c (.bx 4 0)), (6, .c (.ref 11)), (7, .c (.bx 7 0))], [(4, .box [.nl, .nl, .nl, .nl]), (7, .box [.ref 23, .ref 10023, .ref 20023, .ref 30023]), (11, .arr (.s .req) true), (23, .arr (.s .net) true), (10023, .arr .I true), (20023, .arr (.s .node) true), (30023, .arr (.s .run) true)]⟩
def w6s (av : AV) (x : HP z5i.ps) (n : Nat) (v : yg8.den) (K : Ks (CR z5i)) : Option (CR z5i) := z54 v.1.1 (fun l0_1 l0_2 l0_3 l0_4 l0_5 => y8m.at none (((), (), (), ()), (((), (), (), (), ()), ((), (), (), (), ()), l0_2, l0_4, l0_1, l0_3, l0_5, ())) (K (.exit 0))) n v.1.2.2.2.2.1 v.2.2.2.2.2.1 v.2.2.2.1 v.2.2.2.2.2.2.1 v.2.2.2.2.1 v.2.2.2.2.2.2.2.1
def y9x (av : AV) (x : HP z5i.ps) : Hdl (CR z5i) := hnd [] yg8 (w6s av x)
theorem w8s : LP z5i Tryz.f75 [0] y9x := lp_ok (W := []) (H := []) (xs := [y8m]) yz7 trivial rfl (fun av x v K => by kernel_rfl) (fun av x n v K => by kernel_rfl)
theorem v0k : z5i.Ok Tryz.prog := fn_ok (k := z5i) (fn := Tryz.f75) (W := []) (H := [y9x]) Tryz.func75 yz7 ⟨w8s, trivial⟩ rfl rfl (fun av x => by kernel_rfl)
def y7c  : Option Int := some (-1)
def z64 (s : List Int) (p : Int → Option Bool) (p0_0 : Int) (kx0_0 : Option Int) : Nat → Int → Option Int
  | 0, _ => none
  | n0 + 1, s0_0 => if decide (s0_0 < p0_0) = true then ((getI s s0_0).bind fun x2 => ((p x2).bind fun x3 => (if x3 = true then (some s0_0) else (gd (ok64 (s0_0 + 1)) ((z64 s p p0_0 kx0_0 n0) (s0_0 + 1)))))) else (kx0_0)
def zw9 (s : List Int) (p : Int → Option Bool) : Option Int := z64 s p (s.length : Int) y7c FUEL 0
def z45 : Con := ⟨175, [.v (.sl .I) false, .fn .I], [(.I, true)], [], fun x => zw9 x.1 x.2.1⟩
def wr2 : Fs := ⟨[], [], []⟩
theorem yy5 : wr2.Ok Tryz.prog := fs0
def yf8 : Tmpl := ⟨[(0, .c (.s .I)), (1, .c .fp), (7, .c .i), (8, .c .i)], []⟩
def y8c : Tmpl := ⟨[], []⟩
def w6i (av : AV) (x : HP z45.ps) (n : Nat) (v : yf8.den) (K : Ks (CR z45)) : Option (CR z45) := z64 v.1.1 x.2.1 v.1.2.2.1 (y8c.at (fpOf z45.ps x av) ((), ()) (K (.exit 0))) n v.1.2.2.2.1
def y9n (av : AV) (x : HP z45.ps) : Hdl (CR z45) := hnd [] yf8 (w6i av x)
theorem w8i : LP z45 Tryz.f175 [0] y9n := lp_ok (W := []) (H := []) (xs := [y8c]) yy5 trivial rfl (fun av x v K => by kernel_rfl) (fun av x n v K => by kernel_rfl)
theorem v03 : z45.Ok Tryz.prog := fn_ok (k := z45) (fn := Tryz.f175) (W := []) (H := [y9n]) Tryz.func175 yy5 ⟨w8i, trivial⟩ rfl rfl (fun av x => by kernel_rfl)
def z2n (s : List Int) (p : Int → Option Bool) : Option Bool := (zw9 s p).bind fun x1 => (some (decide (0 ≤ x1)))
def z52 : Con := ⟨118, [.v (.sl .I) false, .fn .I], [(.B, true)], [], fun x => z2n x.1 x.2.1⟩
def w4w : Fs := ⟨[z45], [], []⟩
theorem w54 : w4w.Ok Tryz.prog := (fsK v03 fs0)
theorem z8n : z52.Ok Tryz.prog := fn_ok (k := z52) (fn := Tryz.f118) (W := []) (H := []) Tryz.func118 w54 trivial rfl rfl (fun av x => by kernel_rfl)
def y0i  : Option Int := some (-1)
def z3s (s : List GReq) (p : GReq → Option Bool) (p0_0 : Int) (kx0_0 : Option Int) : Nat → Int → Option Int
  | 0, _ => none
  | n0 + 1, s0_0 => if decide (s0_0 < p0_0) = true then ((getI s s0_0).bind fun x2 => ((p x2).bind fun x3 => (if x3 = true then (some s0_0) else (gd (ok64 (s0_0 + 1)) ((z3s s p p0_0 kx0_0 n0) (s0_0 + 1)))))) else (kx0_0)
def zd0 (s : List GReq) (p : GReq → Option Bool) : Option Int := z3s s p (s.length : Int) y0i FUEL 0
def z23 : Con := ⟨212, [.v (.sl (.s .req)) false, .fn (.s .req)], [(.I, true)], [], fun x => zd0 x.1 x.2.1⟩
def w4y : Fs := ⟨[], [], []⟩
theorem y6o : w4y.Ok Tryz.prog := fs0
def y21 : Tmpl := ⟨[(0, .c (.s (.s .req))), (1, .c .fp), (7, .c .i), (8, .c .i)], []⟩
def y12 : Tmpl := ⟨[], []⟩
def yx2 (av : AV) (x : HP z23.ps) (n : Nat) (v : y21.den) (K : Ks (CR z23)) : Option (CR z23) := z3s v.1.1 x.2.1 v.1.2.2.1 (y12.at (fpOf z23.ps x av) ((), ()) (K (.exit 0))) n v.1.2.2.2.1
def y1b (av : AV) (x : HP z23.ps) : Hdl (CR z23) := hnd [] y21 (yx2 av x)
theorem w0c : LP z23 Tryz.f212 [0] y1b := lp_ok (W := []) (H := []) (xs := [y12]) y6o trivial rfl (fun av x v K => by kernel_rfl) (fun av x n v K => by kernel_rfl)
theorem w5v : z23.Ok Tryz.prog := fn_ok (k := z23) (fn := Tryz.f212) (W := []) (H := [y1b]) Tryz.func212 y6o ⟨w0c, trivial⟩ rfl rfl (fun av x => by kernel_rfl)
def z85 (s : List GReq) (p : GReq → Option Bool) : Option Bool := (zd0 s p).bind fun x1 => (some (decide (0 ≤ x1)))
def zd7 : Con := ⟨193, [.v (.sl (.s .req)) false, .fn (.s .req)], [(.B, true)], [], fun x => z85 x.1 x.2.1⟩
def yt7 : Fs := ⟨[z23], [], []⟩
theorem yu4 : yt7.Ok Tryz.prog := (fsK w5v fs0)
theorem yw1 : zd7.Ok Tryz.prog := fn_ok (k := zd7) (fn := Tryz.f193) (W := []) (H := []) Tryz.func193 yu4 trivial rfl rfl (fun av x => by kernel_rfl)
def zu9  : Option Int := some (-1)
def z3e (s : List GTask) (p : GTask → Option Bool) (p0_0 : Int) (kx0_0 : Option Int) : Nat → Int → Option Int
  | 0, _ => none
  | n0 + 1, s0_0 => if decide (s0_0 < p0_0) = true then ((getI s s0_0).bind fun x2 => ((p x2).bind fun x3 => (if x3 = true then (some s0_0) else (gd (ok64 (s0_0 + 1)) ((z3e s p p0_0 kx0_0 n0) (s0_0 + 1)))))) else (kx0_0)
def z9q (s : List GTask) (p : GTask → Option Bool) : Option Int := z3e s p (s.length : Int) zu9 FUEL 0
def z1k : Con := ⟨176, [.v (.sl (.s .task)) false, .fn (.s .task)], [(.I, true)], [], fun x => z9q x.1 x.2.1⟩
def w1w : Fs := ⟨[], [], []⟩
theorem y3h : w1w.Ok Tryz.prog := fs0
def y0w : Tmpl := ⟨[(0, .c (.s (.s .task))), (1, .c .fp), (7, .c .i), (8, .c .i)], []⟩
def zv5 : Tmpl := ⟨[], []⟩
def yt0 (av : AV) (x : HP z1k.ps) (n : Nat) (v : y0w.den) (K : Ks (CR z1k)) : Option (CR z1k) := z3e v.1.1 x.2.1 v.1.2.2.1 (zv5.at (fpOf z1k.ps x av) ((), ()) (K (.exit 0))) n v.1.2.2.2.1
def y07 (av : AV) (x : HP z1k.ps) : Hdl (CR z1k) := hnd [] y0w (yt0 av x)
theorem yv2 : LP z1k Tryz.f176 [0] y07 := lp_ok (W := []) (H := []) (xs := [zv5]) y3h trivial rfl (fun av x v K => by kernel_rfl) (fun av x n v K => by kernel_rfl)
theorem w2t : z1k.Ok Tryz.prog := fn_ok (k := z1k) (fn := Tryz.f176) (W := []) (H := [y07]) Tryz.func176 y3h ⟨yv2, trivial⟩ rfl rfl (fun av x => by kernel_rfl)
def z79 (s : List GTask) (p : GTask → Option Bool) : Option Bool := (z9q s p).bind fun x1 => (some (decide (0 ≤ x1)))
def za8 : Con := ⟨123, [.v (.sl (.s .task)) false, .fn (.s .task)], [(.B, true)], [], fun x => z79 x.1 x.2.1⟩
def yl9 : Fs := ⟨[z1k], [], []⟩
theorem ym5 : yl9.Ok Tryz.prog := (fsK w2t fs0)
theorem yn1 : za8.Ok Tryz.prog := fn_ok (k := za8) (fn := Tryz.f123) (W := []) (H := []) Tryz.func123 ym5 trivial rfl rfl (fun av x => by kernel_rfl)
def y0h  : Option Int := some (-1)
def z3r (s : List GNet) (p : GNet → Option Bool) (p0_0 : Int) (kx0_0 : Option Int) : Nat → Int → Option Int
  | 0, _ => none
  | n0 + 1, s0_0 => if decide (s0_0 < p0_0) = true then ((getI s s0_0).bind fun x2 => ((p x2).bind fun x3 => (if x3 = true then (some s0_0) else (gd (ok64 (s0_0 + 1)) ((z3r s p p0_0 kx0_0 n0) (s0_0 + 1)))))) else (kx0_0)
def zc9 (s : List GNet) (p : GNet → Option Bool) : Option Int := z3r s p (s.length : Int) y0h FUEL 0
def z22 : Con := ⟨180, [.v (.sl (.s .net)) false, .fn (.s .net)], [(.I, true)], [], fun x => zc9 x.1 x.2.1⟩
def w4x : Fs := ⟨[], [], []⟩
theorem y6n : w4x.Ok Tryz.prog := fs0
def y20 : Tmpl := ⟨[(0, .c (.s (.s .net))), (1, .c .fp), (7, .c .i), (8, .c .i)], []⟩
def y11 : Tmpl := ⟨[], []⟩
def yx1 (av : AV) (x : HP z22.ps) (n : Nat) (v : y20.den) (K : Ks (CR z22)) : Option (CR z22) := z3r v.1.1 x.2.1 v.1.2.2.1 (y11.at (fpOf z22.ps x av) ((), ()) (K (.exit 0))) n v.1.2.2.2.1
def y1a (av : AV) (x : HP z22.ps) : Hdl (CR z22) := hnd [] y20 (yx1 av x)
theorem w0b : LP z22 Tryz.f180 [0] y1a := lp_ok (W := []) (H := []) (xs := [y11]) y6n trivial rfl (fun av x v K => by kernel_rfl) (fun av x n v K => by kernel_rfl)
theorem w5u : z22.Ok Tryz.prog := fn_ok (k := z22) (fn := Tryz.f180) (W := []) (H := [y1a]) Tryz.func180 y6n ⟨w0b, trivial⟩ rfl rfl (fun av x => by kernel_rfl)
def z84 (s : List GNet) (p : GNet → Option Bool) : Option Bool := (zc9 s p).bind fun x1 => (some (decide (0 ≤ x1)))
def zd6 : Con := ⟨126, [.v (.sl (.s .net)) false, .fn (.s .net)], [(.B, true)], [], fun x => z84 x.1 x.2.1⟩
def yt6 : Fs := ⟨[z22], [], []⟩
theorem yu3 : yt6.Ok Tryz.prog := (fsK w5u fs0)
theorem yw0 : zd6.Ok Tryz.prog := fn_ok (k := zd6) (fn := Tryz.f126) (W := []) (H := []) Tryz.func126 yu3 trivial rfl rfl (fun av x => by kernel_rfl)
def zu8  : Option Int := some (-1)
def z3d (s : List GItem) (p : GItem → Option Bool) (p0_0 : Int) (kx0_0 : Option Int) : Nat → Int → Option Int
  | 0, _ => none
  | n0 + 1, s0_0 => if decide (s0_0 < p0_0) = true then ((getI s s0_0).bind fun x2 => ((p x2).bind fun x3 => (if x3 = true then (some s0_0) else (gd (ok64 (s0_0 + 1)) ((z3d s p p0_0 kx0_0 n0) (s0_0 + 1)))))) else (kx0_0)
def z9p (s : List GItem) (p : GItem → Option Bool) : Option Int := z3d s p (s.length : Int) zu8 FUEL 0
def z1j : Con := ⟨169, [.v (.sl (.s .item)) false, .fn (.s .item)], [(.I, true)], [], fun x => z9p x.1 x.2.1⟩
def w1v : Fs := ⟨[], [], []⟩
theorem y3g : w1v.Ok Tryz.prog := fs0
def y0v : Tmpl := ⟨[(0, .c (.s (.s .item))), (1, .c .fp), (7, .c .i), (8, .c .i)], []⟩
def zv4 : Tmpl := ⟨[], []⟩
def ys9 (av : AV) (x : HP z1j.ps) (n : Nat) (v : y0v.den) (K : Ks (CR z1j)) : Option (CR z1j) := z3d v.1.1 x.2.1 v.1.2.2.1 (zv4.at (fpOf z1j.ps x av) ((), ()) (K (.exit 0))) n v.1.2.2.2.1
def y06 (av : AV) (x : HP z1j.ps) : Hdl (CR z1j) := hnd [] y0v (ys9 av x)
theorem yv1 : LP z1j Tryz.f169 [0] y06 := lp_ok (W := []) (H := []) (xs := [zv4]) y3g trivial rfl (fun av x v K => by kernel_rfl) (fun av x n v K => by kernel_rfl)
theorem w2s : z1j.Ok Tryz.prog := fn_ok (k := z1j) (fn := Tryz.f169) (W := []) (H := [y06]) Tryz.func169 y3g ⟨yv1, trivial⟩ rfl rfl (fun av x => by kernel_rfl)
def z78 (s : List GItem) (p : GItem → Option Bool) : Option Bool := (z9p s p).bind fun x1 => (some (decide (0 ≤ x1)))
def za7 : Con := ⟨107, [.v (.sl (.s .item)) false, .fn (.s .item)], [(.B, true)], [], fun x => z78 x.1 x.2.1⟩
def yl8 : Fs := ⟨[z1j], [], []⟩
theorem ym4 : yl8.Ok Tryz.prog := (fsK w2s fs0)
theorem yn0 : za7.Ok Tryz.prog := fn_ok (k := za7) (fn := Tryz.f107) (W := []) (H := []) Tryz.func107 ym4 trivial rfl rfl (fun av x => by kernel_rfl)
def w3u  : Option Int := some (-1)
def ze5 (s : List Int) (v : Int) (p0_0 : Int) (kx0_0 : Option Int) : Nat → Int → Option Int
  | 0, _ => none
  | n0 + 1, s0_0 => if decide (s0_0 < p0_0) = true then ((getI s s0_0).bind fun x2 => (if decide (v = x2) = true then (some s0_0) else (gd (ok64 (s0_0 + 1)) ((ze5 s v p0_0 kx0_0 n0) (s0_0 + 1))))) else (kx0_0)
def w0i (s : List Int) (v : Int) : Option Int := ze5 s v (s.length : Int) w3u FUEL 0
def zg7 : Con := ⟨163, [.v (.sl .I) false, .v .I false], [(.I, true)], [], fun x => w0i x.1 x.2.1⟩
def vc6 : Fs := ⟨[], [], []⟩
theorem v31 : vc6.Ok Tryz.prog := fs0
def wa6 : Tmpl := ⟨[(0, .c (.s .I)), (1, .c .i), (7, .c .i), (8, .c .i)], []⟩
def w48 : Tmpl := ⟨[], []⟩
def v5p (av : AV) (x : HP zg7.ps) (n : Nat) (v : wa6.den) (K : Ks (CR zg7)) : Option (CR zg7) := ze5 v.1.1 v.1.2.1 v.1.2.2.1 (w48.at none ((), ()) (K (.exit 0))) n v.1.2.2.2.1
def w8b (av : AV) (x : HP zg7.ps) : Hdl (CR zg7) := hnd [] wa6 (v5p av x)
theorem v6g : LP zg7 Tryz.f163 [0] w8b := lp_ok (W := []) (H := []) (xs := [w48]) v31 trivial rfl (fun av x v K => by kernel_rfl) (fun av x n v K => by kernel_rfl)
theorem vh0 : zg7.Ok Tryz.prog := fn_ok (k := zg7) (fn := Tryz.f163) (W := []) (H := [w8b]) Tryz.func163 v31 ⟨v6g, trivial⟩ rfl rfl (fun av x => by kernel_rfl)
def ze3 (s : List Int) (v : Int) : Option Bool := (w0i s v).bind fun x1 => (some (decide (0 ≤ x1)))
def zr6 : Con := ⟨92, [.v (.sl .I) false, .v .I false], [(.B, true)], [], fun x => ze3 x.1 x.2.1⟩
def v26 : Fs := ⟨[zg7], [], []⟩
theorem v2z : v26.Ok Tryz.prog := (fsK vh0 fs0)
theorem ye1 : zr6.Ok Tryz.prog := fn_ok (k := zr6) (fn := Tryz.f92) (W := []) (H := []) Tryz.func92 v2z trivial rfl rfl (fun av x => by kernel_rfl)
def yc3  : Option Int := some (-1)
def z7e (s : List GDid) (v : GDid) (p0_0 : Int) (kx0_0 : Option Int) : Nat → Int → Option Int
  | 0, _ => none
  | n0 + 1, s0_0 => if decide (s0_0 < p0_0) = true then ((getI s s0_0).bind fun x2 => (if decide ([v.task, v.who] = [x2.task, x2.who]) = true then (some s0_0) else (gd (ok64 (s0_0 + 1)) ((z7e s v p0_0 kx0_0 n0) (s0_0 + 1))))) else (kx0_0)
def y1h (s : List GDid) (v : GDid) : Option Int := z7e s v (s.length : Int) yc3 FUEL 0
def z6k : Con := ⟨204, [.v (.sl (.s .did)) false, .v (.s .did) false], [(.I, true)], [], fun x => y1h x.1 x.2.1⟩
def v27 : Fs := ⟨[], [], []⟩
theorem w39 : v27.Ok Tryz.prog := fs0
def yr1 : Tmpl := ⟨[(0, .c (.s (.s .did))), (3, .c (.bx 3 0)), (7, .c .i), (8, .c .i)], [(3, .boxT (.s .did))]⟩
def yi1 : Tmpl := ⟨[], []⟩
def wb1 (av : AV) (x : HP z6k.ps) (n : Nat) (v : yr1.den) (K : Ks (CR z6k)) : Option (CR z6k) := z7e v.1.1 v.2.1 v.1.2.2.1 (yi1.at none ((), ()) (K (.exit 0))) n v.1.2.2.2.1
def yo7 (av : AV) (x : HP z6k.ps) : Hdl (CR z6k) := hnd [] yr1 (wb1 av x)
theorem wi0 : LP z6k Tryz.f204 [0] yo7 := lp_ok (W := []) (H := []) (xs := [yi1]) w39 trivial rfl (fun av x v K => by kernel_rfl) (fun av x n v K => by kernel_rfl)
theorem v44 : z6k.Ok Tryz.prog := fn_ok (k := z6k) (fn := Tryz.f204) (W := []) (H := [yo7]) Tryz.func204 w39 ⟨wi0, trivial⟩ rfl rfl (fun av x => by kernel_rfl)
def y0g (s : List GDid) (v : GDid) : Option Bool := (y1h s v).bind fun x1 => (some (decide (0 ≤ x1)))
def y0c : Con := ⟨170, [.v (.sl (.s .did)) false, .v (.s .did) false], [(.B, true)], [], fun x => y0g x.1 x.2.1⟩
def w7d : Fs := ⟨[z6k], [], []⟩
theorem w80 : w7d.Ok Tryz.prog := (fsK v44 fs0)
theorem w96 : y0c.Ok Tryz.prog := fn_ok (k := y0c) (fn := Tryz.f170) (W := []) (H := []) Tryz.func170 w80 trivial rfl rfl (fun av x => by kernel_rfl)
def w3t  : Option Bool := some true
def ze4 (s1 : List Int) (s2 : List Int) (p0_0 : Int) (kx0_0 : Option Bool) : Nat → Int → Option Bool
  | 0, _ => none
  | n0 + 1, s0_0 => if decide (s0_0 < p0_0) = true then ((getI s1 s0_0).bind fun x3 => ((getI s2 s0_0).bind fun x4 => (if decide (x3 = x4) = true then (gd (ok64 (s0_0 + 1)) ((ze4 s1 s2 p0_0 kx0_0 n0) (s0_0 + 1))) else (some false)))) else (kx0_0)
def w0h (s1 : List Int) (s2 : List Int) : Option Bool := if decide ((s1.length : Int) = (s2.length : Int)) = true then (ze4 s1 s2 (s1.length : Int) w3t FUEL 0) else (some false)
def zg6 : Con := ⟨192, [.v (.sl .I) false, .v (.sl .I) false], [(.B, true)], [], fun x => w0h x.1 x.2.1⟩
def vc5 : Fs := ⟨[], [], []⟩
theorem v30 : vc5.Ok Tryz.prog := fs0
def wa5 : Tmpl := ⟨[(0, .c (.s .I)), (1, .c (.s .I)), (12, .c .i), (13, .c .i)], []⟩
def w47 : Tmpl := ⟨[], []⟩
def v5o (av : AV) (x : HP zg6.ps) (n : Nat) (v : wa5.den) (K : Ks (CR zg6)) : Option (CR zg6) := ze4 v.1.1 v.1.2.1 v.1.2.2.1 (w47.at none ((), ()) (K (.exit 0))) n v.1.2.2.2.1
def w8a (av : AV) (x : HP zg6.ps) : Hdl (CR zg6) := hnd [] wa5 (v5o av x)
theorem v6f : LP zg6 Tryz.f192 [0] w8a := lp_ok (W := []) (H := []) (xs := [w47]) v30 trivial rfl (fun av x v K => by kernel_rfl) (fun av x n v K => by kernel_rfl)
theorem vg9 : zg6.Ok Tryz.prog := fn_ok (k := zg6) (fn := Tryz.f192) (W := []) (H := [w8a]) Tryz.func192 v30 ⟨v6f, trivial⟩ rfl rfl (fun av x => by kernel_rfl)
def y2t (n : Int) : Option Bool := (z5q n).bind fun x1 => (some (!x1))
def y32 : FCon := ⟨162, .I, [], fun z c => y2t z ⟩
def wd2 : Fs := ⟨[z8p], [], []⟩
theorem wg5 : wd2.Ok Tryz.prog := (fsK zr0 fs0)
theorem wk2 : y32.Ok Tryz.prog := FCon.ok (fn_ok (k := y32.con) (fn := Tryz.f162) (W := []) (H := []) Tryz.func162 wg5 trivial rfl rfl (fun av x => by kernel_rfl))
def z3k (data : List Int) : Option Bool := if decide ((data.length : Int) = 3) = true then ((z2n data (fun z => y2t z )).bind fun x2 => (some (!x2))) else (some false)
def z5p : Con := ⟨91, [.v (.sl .I) false], [(.B, true)], [], fun x => z3k x.1⟩
def v29 : Fs := ⟨[z52], [y32], []⟩
theorem v32 : v29.Ok Tryz.prog := (fsK z8n (fsF wk2 fs0))
theorem z80 : z5p.Ok Tryz.prog := fn_ok (k := z5p) (fn := Tryz.f91) (W := []) (H := []) Tryz.func91 v32 trivial rfl rfl (fun av x => by kernel_rfl)
def z2l (e : GAsk) (data : List Int) : Option Bool := (z7z e).bind fun x1 => (if x1 = true then ((z3k data).bind fun x3 => (if x3 = true then (if decide (e.op = 1) = true then ((getI data e.var).bind fun x6 => (some (decide (x6 < e.k)))) else (if decide (e.op = 2) = true then ((getI data e.var).bind fun x8 => (some (decide (x8 = e.k)))) else (if decide (e.op = 3) = true then ((getI data e.var).bind fun x10 => (some (decide (e.k < x10)))) else (some true)))) else (some false))) else (some false))
def z4n : Con := ⟨120, [.v (.s .ask) false, .v (.sl .I) false], [(.B, true)], [], fun x => z2l x.1 x.2.1⟩
def w7g : Fs := ⟨[zr7, z5p], [], []⟩
theorem w83 : w7g.Ok Tryz.prog := (fsK ye3 (fsK z80 fs0))
theorem z7x : z4n.Ok Tryz.prog := fn_ok (k := z4n) (fn := Tryz.f120) (W := []) (H := []) Tryz.func120 w83 trivial rfl rfl (fun av x => by kernel_rfl)
def y3w  : Option Bool := some true
def z5t (list : List Int) (places : Int) (without : List Int) (p0_0 : Int) (kx0_0 : Option Bool) : Nat → Int → Int → Option Bool
  | 0, _, _ => none
  | n0 + 1, s0_0, s0_1 => if decide (s0_0 < p0_0) = true then ((getI list s0_0).bind fun x2 => (gd (ok64 (s0_1 + 1)) (gd (ok64 (places - 1)) ((z0c x2 (s0_1 + 1) (places - 1)).bind fun x5 => (if x5 = true then ((ze3 without x2).bind fun x7 => (if x7 = true then (some false) else (gd (ok64 (s0_0 + 1)) ((z5t list places without p0_0 kx0_0 n0) (s0_0 + 1) x2)))) else (some false)))))) else (kx0_0)
def zb8 (list : List Int) (places : Int) (without : List Int) : Option Bool := z5t list places without (list.length : Int) y3w FUEL 0 (-1)
def z48 : Con := ⟨178, [.v (.sl .I) false, .v .I false, .v (.sl .I) false], [(.B, true)], [], fun x => zb8 x.1 x.2.1 x.2.2.1⟩
def we0 : Fs := ⟨[z1y, zr6], [], []⟩
theorem yn6 : we0.Ok Tryz.prog := (fsK z2m (fsK ye1 fs0))
def y7v : Tmpl := ⟨[(1, .c .i), (2, .c (.s .I)), (7, .c .i), (10, .c (.s .I)), (11, .c .i), (12, .c .i)], []⟩
def y4s : Tmpl := ⟨[], []⟩
def w4e (av : AV) (x : HP z48.ps) (n : Nat) (v : y7v.den) (K : Ks (CR z48)) : Option (CR z48) := z5t v.1.2.2.2.1 v.1.1 v.1.2.1 v.1.2.2.2.2.1 (y4s.at none ((), ()) (K (.exit 0))) n v.1.2.2.2.2.2.1 v.1.2.2.1
def y6v (av : AV) (x : HP z48.ps) : Hdl (CR z48) := hnd [] y7v (w4e av x)
theorem w5d : LP z48 Tryz.f178 [0] y6v := lp_ok (W := []) (H := []) (xs := [y4s]) yn6 trivial rfl (fun av x v K => by kernel_rfl) (fun av x n v K => by kernel_rfl)
theorem wl0 : z48.Ok Tryz.prog := fn_ok (k := z48) (fn := Tryz.f178) (W := []) (H := [y6v]) Tryz.func178 yn6 ⟨w5d, trivial⟩ rfl rfl (fun av x => by kernel_rfl)
def z8a (t : GTask) : Option Bool := (z0c (t.out.length : Int) 1 3).bind fun x21 => (some x21)
def z1g (t : GTask) (places : Int) (p0_0 : List GFlow) (p0_1 : Int) (kx0_0 : Option Bool) : Nat → Int → List Int → Option Bool
  | 0, _, _ => none
  | n0 + 1, s0_0, m0_1 => if decide (s0_0 < p0_1) = true then ((getI p0_0 s0_0).bind fun x2 => (if decide (t.split = 1) = true then (gd (ok64 (places - 1)) ((z0c x2.to 0 (places - 1)).bind fun x5 => (if x5 = true then (if decide (x2.to ∈ m0_1) = true then (some false) else ((z7z x2.if_).bind fun x8 => (if x8 = true then (if ((decide (x2.if_.op = 0)) == true) = true then (gd (ok64 (s0_0 + 1)) ((z1g t places p0_0 p0_1 kx0_0 n0) (s0_0 + 1) (insKey m0_1 x2.to))) else (some false)) else (some false)))) else (some false)))) else (gd (ok64 ((t.out.length : Int) - 1)) (gd (ok64 (places - 1)) ((z0c x2.to 0 (places - 1)).bind fun x14 => (if x14 = true then (if decide (x2.to ∈ m0_1) = true then (some false) else ((z7z x2.if_).bind fun x17 => (if x17 = true then (if ((decide (x2.if_.op = 0)) == (decide (s0_0 = ((t.out.length : Int) - 1)))) = true then (gd (ok64 (s0_0 + 1)) ((z1g t places p0_0 p0_1 kx0_0 n0) (s0_0 + 1) (insKey m0_1 x2.to))) else (some false)) else (some false)))) else (some false))))))) else (kx0_0)
def z7b (t : GTask) (places : Int) : Option Bool := z1g t places t.out (t.out.length : Int) (z8a t) FUEL 0 (insKey ([] : List Int) 0)
def z16 : Con := ⟨179, [.v (.s .task) false, .v .I false], [(.B, true)], [], fun x => z7b x.1 x.2.1⟩
def ym3 : Fs := ⟨[z1y, zr7], [], []⟩
theorem zu5 : ym3.Ok Tryz.prog := (fsK z2m (fsK ye3 fs0))
def zm4 : Tmpl := ⟨[(1, .c .i), (2, .c (.bx 2 0)), (5, .c (.bx 9 0)), (12, .c (.s (.s .flow))), (13, .c .i), (14, .c .i)], [(2, .boxT (.s .task)), (9, .mp)]⟩
def zl5 : Tmpl := ⟨[(2, .c (.bx 2 0))], [(2, .boxT (.s .task))]⟩
def y8z (av : AV) (x : HP z16.ps) (n : Nat) (v : zm4.den) (K : Ks (CR z16)) : Option (CR z16) := z1g v.2.1 v.1.1 v.1.2.2.2.1 v.1.2.2.2.2.1 (zl5.at none (((), ()), (v.2.1, ())) (K (.exit 0))) n v.1.2.2.2.2.2.1 v.2.2.1
def zl8 (av : AV) (x : HP z16.ps) : Hdl (CR z16) := hnd [] zm4 (y8z av x)
theorem y92 : LP z16 Tryz.f179 [0] zl8 := lp_ok (W := []) (H := []) (xs := [zl5]) zu5 trivial rfl (fun av x v K => by kernel_rfl) (fun av x n v K => by kernel_rfl)
theorem yn3 : z16.Ok Tryz.prog := fn_ok (k := z16) (fn := Tryz.f179) (W := []) (H := [zl8]) Tryz.func179 zu5 ⟨y92, trivial⟩ rfl rfl (fun av x => by kernel_rfl)
def z9u (t : GTask) (places : Int) (tasks : Int) : Option Bool := (zx6 t.join).bind fun x1 => (if x1 = true then ((zx6 t.split).bind fun x3 => (if x3 = true then ((z0c (t.in_.length : Int) 1 3).bind fun x5 => (if x5 = true then ((zb8 t.in_ places [1]).bind fun x7 => (if x7 = true then ((z7b t places).bind fun x9 => (if x9 = true then ((zb8 t.clear places [0, 1]).bind fun x11 => (if x11 = true then ((zi0 t.role).bind fun x13 => (if x13 = true then (gd (ok64 (tasks - 1)) ((z0c t.apart (-1) (tasks - 1)).bind fun x16 => (if x16 = true then ((z0c t.all 1 3).bind fun x18 => (if x18 = true then ((z0c t.need 1 t.all).bind fun x20 => (some x20)) else (some false))) else (some false)))) else (some false))) else (some false))) else (some false))) else (some false))) else (some false))) else (some false))) else (some false))
def zn5 : Con := ⟨125, [.v (.s .task) false, .v .I false, .v .I false], [(.B, true)], [], fun x => z9u x.1 x.2.1 x.2.2.1⟩
def w1y : Fs := ⟨[y5r, z1y, z48, z16, zw5], [], []⟩
theorem w26 : w1y.Ok Tryz.prog := (fsK v0c (fsK z2m (fsK wl0 (fsK yn3 (fsK w0p fs0)))))
theorem w2v : zn5.Ok Tryz.prog := fn_ok (k := zn5) (fn := Tryz.f125) (W := []) (H := []) Tryz.func125 w26 trivial rfl rfl (fun av x => by kernel_rfl)
def y2w (t : GTask) (n : GNet) : Option Bool := (z9u t n.places (n.tasks.length : Int)).bind fun x1 => (some (!x1))
def y35 : FCon := ⟨124, (.s .task), [(.s .net)], fun z c => y2w z c.1⟩
def wd7 : Fs := ⟨[zn5], [], []⟩
theorem wg8 : wd7.Ok Tryz.prog := (fsK w2v fs0)
theorem wk7 : y35.Ok Tryz.prog := FCon.ok (fn_ok (k := y35.con) (fn := Tryz.f124) (W := []) (H := []) Tryz.func124 wg8 trivial rfl rfl (fun av x => by kernel_rfl))
def z99 (n : GNet) : Option Bool := (y2z n.places (n.tasks.length : Int)).bind fun x1 => (if x1 = true then ((z79 n.tasks (fun z => y2w z n)).bind fun x3 => (some (!x3))) else (some false))
def ze2 : Con := ⟨52, [.v (.s .net) false], [(.B, true)], [], fun x => z99 x.1⟩
def v2e : Fs := ⟨[y2n, za8], [y35], []⟩
theorem v36 : v2e.Ok Tryz.prog := (fsK wl2 (fsK yn1 (fsF wk7 fs0)))
theorem y1v : ze2.Ok Tryz.prog := fn_ok (k := ze2) (fn := Tryz.f52) (W := []) (H := []) Tryz.func52 v36 trivial rfl rfl (fun av x => by kernel_rfl)
def z6w (p : Int) (out : List Bool) : Option Bool := (getI out p).bind fun x1 => (some x1)
def z9i : FCon := ⟨217, .I, [(.sl .B)], fun z c => z6w z c.1⟩
def y9d : Fs := ⟨[], [], []⟩
theorem y9g : y9d.Ok Tryz.prog := fs0
theorem ye6 : z9i.Ok Tryz.prog := FCon.ok (fn_ok (k := z9i.con) (fn := Tryz.f217) (W := []) (H := []) Tryz.func217 y9g trivial rfl rfl (fun av x => by kernel_rfl))
def zm0 (s1_0 : List GTask) (s1_1 : Int) (s1_2 : Int) (bk1 : List GTask → Int → Int → Bool → List Bool → Option (List Bool)) (s2_1 : Bool) (l2_2 : List Bool) : Option (List Bool) := gd (ok64 (s1_2 + 1)) (bk1 s1_0 s1_1 (s1_2 + 1) s2_1 l2_2)
def z0o (p2_0 : List GFlow) (p2_1 : Int) (kx2_0 : Bool → List Bool → Option (List Bool)) : Nat → Int → Bool → List Bool → Option (List Bool)
  | 0, _, _, _ => none
  | n2 + 1, s2_0, s2_1, l2_2 => if decide (s2_0 < p2_1) = true then ((getI p2_0 s2_0).bind fun x11 => (if s2_1 = true then ((getI l2_2 x11.to).bind fun x13 => (gd (ok64 (s2_0 + 1)) ((z0o p2_0 p2_1 kx2_0 n2) (s2_0 + 1) true (l2_2.set x11.to.toNat true)))) else ((getI l2_2 x11.to).bind fun x15 => ((getI l2_2 x11.to).bind fun x16 => (gd (ok64 (s2_0 + 1)) ((z0o p2_0 p2_1 kx2_0 n2) (s2_0 + 1) (!x15) (l2_2.set x11.to.toNat true))))))) else (kx2_0 s2_1 l2_2)
def z8x (bk0 : Bool → List Bool → Option (List Bool)) (s1_3 : Bool) (l1_4 : List Bool) : Option (List Bool) := bk0 s1_3 l1_4
def z0f (but : Int) (kx1_0 : Bool → List Bool → Option (List Bool)) : Nat → List GTask → Int → Int → Bool → List Bool → Option (List Bool)
  | 0, _, _, _, _, _ => none
  | n1 + 1, s1_0, s1_1, s1_2, s1_3, l1_4 => if decide (s1_2 < s1_1) = true then ((getI s1_0 s1_2).bind fun x5 => (if decide (s1_2 = but) = true then (gd (ok64 (s1_2 + 1)) ((z0f but kx1_0 n1) s1_0 s1_1 (s1_2 + 1) s1_3 l1_4)) else ((z2n x5.in_ (fun z => z6w z l1_4)).bind fun x8 => (if x8 = true then (z0o x5.out (x5.out.length : Int) (zm0 s1_0 s1_1 s1_2 (z0f but kx1_0 n1)) FUEL 0 s1_3 l1_4) else (gd (ok64 (s1_2 + 1)) ((z0f but kx1_0 n1) s1_0 s1_1 (s1_2 + 1) s1_3 l1_4)))))) else (kx1_0 s1_3 l1_4)
def zm1 (l0_1 : List Bool) : Option (List Bool) := some l0_1
def z15 (n : GNet) (but : Int) (kx0_0 : List Bool → Option (List Bool)) : Nat → Bool → List Bool → Option (List Bool)
  | 0, _, _ => none
  | n0 + 1, s0_0, l0_1 => if s0_0 = true then (z0f but (z8x (z15 n but kx0_0 n0)) FUEL n.tasks (n.tasks.length : Int) 0 false l0_1) else (kx0_0 l0_1)
def z89 (n : GNet) (place : Int) (but : Int) : Option (List Bool) := gd ((0 : Int) ≤ n.places ∧ n.places ≤ (1000000000 : Int)) ((getI (List.replicate n.places.toNat false) place).bind fun x2 => (z15 n but zm1 FUEL true ((List.replicate n.places.toNat false).set place.toNat true)))
def z06 : Con := ⟨202, [.v (.s .net) false, .v .I false, .v .I false], [((.sl .B), true)], [], fun x => z89 x.1 x.2.1 x.2.2.1⟩
def yu1 : Fs := ⟨[z52], [z9i], []⟩
theorem z81 : yu1.Ok Tryz.prog := (fsK z8n (fsF ye6 fs0))
def zc4 : Tmpl := ⟨[(2, .c .i), (3, .c (.bx 3 0)), (7, .c (.bx 7 0)), (8, .c .b), (21, .c (.s (.s .task))), (22, .c .i), (23, .c .i), (39, .c (.s (.s .flow))), (40, .c .i), (41, .c .i)], [(3, .boxT (.s .net)), (7, .box [.ref 15]), (15, .arr .B true)]⟩
def za4 : Tmpl := ⟨[(2, .c .i), (3, .c (.bx 3 0)), (7, .c (.bx 7 0)), (8, .c .b), (21, .c (.s (.s .task))), (22, .c .i), (23, .c .i)], [(3, .boxT (.s .net)), (7, .box [.ref 15]), (15, .arr .B true)]⟩
def y2g (av : AV) (x : HP z06.ps) (n : Nat) (v : zc4.den) (K : Ks (CR z06)) : Option (CR z06) := z0o v.1.2.2.2.2.2.2.2.1 v.1.2.2.2.2.2.2.2.2.1 (fun s2_1 l2_2 => za4.at none ((v.1.1, (), (), s2_1, v.1.2.2.2.2.1, v.1.2.2.2.2.2.1, v.1.2.2.2.2.2.2.1, ()), (v.2.1, ((), ()), l2_2, ())) (K (.exit 4))) n v.1.2.2.2.2.2.2.2.2.2.1 v.1.2.2.2.1 v.2.2.2.1
def zb4 (av : AV) (x : HP z06.ps) : Hdl (CR z06) := hnd [] zc4 (y2g av x)
theorem y2s : LP z06 Tryz.f202 [0, 0, 0] zb4 := lp_ok (W := []) (H := []) (xs := [za4]) z81 trivial rfl (fun av x v K => by kernel_rfl) (fun av x n v K => by kernel_rfl)
def zl3 : Tmpl := ⟨[(2, .c .i), (3, .c (.bx 3 0)), (7, .c (.bx 7 0)), (8, .c .b), (21, .c (.s (.s .task))), (22, .c .i), (23, .c .i)], [(3, .boxT (.s .net)), (7, .box [.ref 15]), (15, .arr .B true)]⟩
def zf5 : Tmpl := ⟨[(2, .c .i), (3, .c (.bx 3 0)), (7, .c (.bx 7 0)), (8, .c .b)], [(3, .boxT (.s .net)), (7, .box [.ref 15]), (15, .arr .B true)]⟩
def y5c (av : AV) (x : HP z06.ps) (n : Nat) (v : zl3.den) (K : Ks (CR z06)) : Option (CR z06) := z0f v.1.1 (fun s1_3 l1_4 => zf5.at none ((v.1.1, (), (), s1_3, ()), (v.2.1, ((), ()), l1_4, ())) (K (.exit 2))) n v.1.2.2.2.2.1 v.1.2.2.2.2.2.1 v.1.2.2.2.2.2.2.1 v.1.2.2.2.1 v.2.2.2.1
def zg4 (av : AV) (x : HP z06.ps) : Hdl (CR z06) := hnd [] zl3 (y5c av x)
theorem y66 : LP z06 Tryz.f202 [0, 0] zg4 := lp_ok (W := []) (H := [zb4]) (xs := [zf5]) z81 ⟨y2s, trivial⟩ rfl (fun av x v K => by kernel_rfl) (fun av x n v K => by kernel_rfl)
def zs8 : Tmpl := ⟨[(2, .c .i), (3, .c (.bx 3 0)), (7, .c (.bx 7 0)), (8, .c .b)], [(3, .boxT (.s .net)), (7, .box [.ref 15]), (15, .arr .B true)]⟩
def zm7 : Tmpl := ⟨[(7, .c (.bx 7 0))], [(7, .box [.ref 15]), (15, .arr .B true)]⟩
def y95 (av : AV) (x : HP z06.ps) (n : Nat) (v : zs8.den) (K : Ks (CR z06)) : Option (CR z06) := z15 v.2.1 v.1.1 (fun l0_1 => zm7.at none (((), ()), (((), ()), l0_1, ())) (K (.exit 0))) n v.1.2.2.2.1 v.2.2.2.1
def zr3 (av : AV) (x : HP z06.ps) : Hdl (CR z06) := hnd [] zs8 (y95 av x)
theorem yb9 : LP z06 Tryz.f202 [0] zr3 := lp_ok (W := []) (H := [zg4]) (xs := [zm7]) z81 ⟨y66, trivial⟩ rfl (fun av x v K => by kernel_rfl) (fun av x n v K => by kernel_rfl)
theorem yw4 : z06.Ok Tryz.prog := fn_ok (k := z06) (fn := Tryz.f202) (W := []) (H := [zr3]) Tryz.func202 z81 ⟨yb9, trivial⟩ rfl rfl (fun av x => by kernel_rfl)
def z88 (m : Int) : Option Bool := (z0c m 0 4).bind fun x1 => (some (!x1))
def z8h : FCon := ⟨199, .I, [], fun z c => z88 z ⟩
def y5e : Fs := ⟨[z1y], [], []⟩
theorem y5h : y5e.Ok Tryz.prog := (fsK z2m fs0)
theorem y6a : z8h.Ok Tryz.prog := FCon.ok (fn_ok (k := z8h.con) (fn := Tryz.f199) (W := []) (H := []) Tryz.func199 y5h trivial rfl rfl (fun av x => by kernel_rfl))
def z4q (n : GNet) (marks : List Int) : Option Bool := if decide ((marks.length : Int) = n.places) = true then ((z2n marks (fun z => z88 z )).bind fun x2 => (some (!x2))) else (some false)
def z6m : Con := ⟨164, [.v (.s .net) false, .v (.sl .I) false], [(.B, true)], [], fun x => z4q x.1 x.2.1⟩
def y9c : Fs := ⟨[z52], [z8h], []⟩
theorem y9f : y9c.Ok Tryz.prog := (fsK z8n (fsF y6a fs0))
theorem zs3 : z6m.Ok Tryz.prog := fn_ok (k := z6m) (fn := Tryz.f164) (W := []) (H := []) Tryz.func164 y9f trivial rfl rfl (fun av x => by kernel_rfl)
def ze6 (n : GNet) (marks : List Int) : Option Bool := (z99 n).bind fun x1 => (if x1 = true then ((z4q n marks).bind fun x3 => (some x3)) else (some false))
def zr8 : Con := ⟨94, [.v (.s .net) false, .v (.sl .I) false], [(.B, true)], [], fun x => ze6 x.1 x.2.1⟩
def v2d : Fs := ⟨[ze2, z6m], [], []⟩
theorem v35 : v2d.Ok Tryz.prog := (fsK y1v (fsK zs3 fs0))
theorem ye4 : zr8.Ok Tryz.prog := fn_ok (k := zr8) (fn := Tryz.f94) (W := []) (H := []) Tryz.func94 v35 trivial rfl rfl (fun av x => by kernel_rfl)
def zh7 (busy : List GItem) : Option Bool := some (decide ((busy.length : Int) ≤ 6))
def z28 (n : GNet) (p0_0 : List GItem) (p0_1 : Int) (kx0_0 : Option Bool) : Nat → Int → Option Bool
  | 0, _ => none
  | n0 + 1, s0_0 => if decide (s0_0 < p0_1) = true then ((getI p0_0 s0_0).bind fun x2 => ((z0q n x2.task).bind fun x3 => (if x3 = true then ((z9c x2.who).bind fun x5 => (if x5 = true then ((getI n.tasks x2.task).bind fun x7 => (gd (ok64 (x7.need - 1)) ((z0c x2.did 0 (x7.need - 1)).bind fun x9 => (if x9 = true then (gd (ok64 (s0_0 + 1)) ((z28 n p0_0 p0_1 kx0_0 n0) (s0_0 + 1))) else (some false))))) else (some false))) else (some false)))) else (kx0_0)
def z59 (n : GNet) (busy : List GItem) : Option Bool := z28 n busy (busy.length : Int) (zh7 busy) FUEL 0
def z0u : Con := ⟨95, [.v (.s .net) false, .v (.sl (.s .item)) false], [(.B, true)], [], fun x => z59 x.1 x.2.1⟩
def ym1 : Fs := ⟨[z1x, zh0, z1y], [], []⟩
theorem zu4 : ym1.Ok Tryz.prog := (fsK z4s (fsK ye9 (fsK z2m fs0)))
def zm3 : Tmpl := ⟨[(1, .c (.s (.s .item))), (2, .c (.bx 2 0)), (7, .c (.s (.s .item))), (8, .c .i), (9, .c .i)], [(2, .boxT (.s .net))]⟩
def zl4 : Tmpl := ⟨[(1, .c (.s (.s .item)))], []⟩
def y8y (av : AV) (x : HP z0u.ps) (n : Nat) (v : zm3.den) (K : Ks (CR z0u)) : Option (CR z0u) := z28 v.2.1 v.1.2.2.1 v.1.2.2.2.1 (zl4.at none ((v.1.1, ()), ()) (K (.exit 0))) n v.1.2.2.2.2.1
def zl7 (av : AV) (x : HP z0u.ps) : Hdl (CR z0u) := hnd [] zm3 (y8y av x)
theorem y91 : LP z0u Tryz.f95 [0] zl7 := lp_ok (W := []) (H := []) (xs := [zl4]) zu4 trivial rfl (fun av x v K => by kernel_rfl) (fun av x n v K => by kernel_rfl)
theorem zv0 : z0u.Ok Tryz.prog := fn_ok (k := z0u) (fn := Tryz.f95) (W := []) (H := [zl7]) Tryz.func95 zu4 ⟨y91, trivial⟩ rfl rfl (fun av x => by kernel_rfl)
def z86 (q : Int) (marks : List Int) (reach : List Bool) : Option Bool := (getI marks q).bind fun x1 => (if decide (x1 = 0) = true then ((getI reach q).bind fun x3 => (some x3)) else (some false))
def z8g : FCon := ⟨203, .I, [(.sl .I), (.sl .B)], fun z c => z86 z c.1 c.2.1⟩
def y5d : Fs := ⟨[], [], []⟩
theorem y5g : y5d.Ok Tryz.prog := fs0
theorem y69 : z8g.Ok Tryz.prog := FCon.ok (fn_ok (k := z8g.con) (fn := Tryz.f203) (W := []) (H := []) Tryz.func203 y5g trivial rfl rfl (fun av x => by kernel_rfl))
def z4x (s1_0 : Int) (s1_1 : Int) (bk1 : Int → Int → List Int → Option Bool) (l2_1 : List Int) : Option Bool := gd (ok64 (s1_1 + 1)) (bk1 s1_0 (s1_1 + 1) l2_1)
def z1v (p2_0 : List GFlow) (p2_1 : Int) (kx2_0 : List Int → Option Bool) : Nat → Int → List Int → Option Bool
  | 0, _, _ => none
  | n2 + 1, s2_0, l2_1 => if decide (s2_0 < p2_1) = true then ((getI p2_0 s2_0).bind fun x15 => (gd (l2_1.length + [x15.to].length ≤ SMALL) (gd (ok64 (s2_0 + 1)) ((z1v p2_0 p2_1 kx2_0 n2) (s2_0 + 1) (l2_1 ++ [x15.to]))))) else (kx2_0 l2_1)
def z7i  : Option Bool := some false
def z18 (n : GNet) (t : Int) (p0_0 : List Int) (p0_2 : List Int) (l1_2 : List Int) (p3_0 : Int) (kx3_0 : Option Bool) : Nat → Int → Option Bool
  | 0, _ => none
  | n3 + 1, s3_0 => if decide (s3_0 < p3_0) = true then ((getI l1_2 s3_0).bind fun x20 => ((z89 n x20 t).bind fun x21 => ((z2n p0_0 (fun z => z86 z p0_2 x21)).bind fun x22 => (if x22 = true then (some true) else (gd (ok64 (s3_0 + 1)) ((z18 n t p0_0 p0_2 l1_2 p3_0 kx3_0 n3) (s3_0 + 1))))))) else (kx3_0)
def z1u (n : GNet) (t : Int) (p0_0 : List Int) (p0_2 : List Int) (l1_2 : List Int) : Option Bool := z18 n t p0_0 p0_2 l1_2 (l1_2.length : Int) z7i FUEL 0
def z0t (n : GNet) (busy : List GItem) (kx1_0 : List Int → Option Bool) : Nat → Int → Int → List Int → Option Bool
  | 0, _, _, _ => none
  | n1 + 1, s1_0, s1_1, l1_2 => if decide (s1_1 < s1_0) = true then ((getI busy s1_1).bind fun x12 => ((getI n.tasks x12.task).bind fun x13 => (z1v x13.out (x13.out.length : Int) (z4x s1_0 s1_1 (z0t n busy kx1_0 n1)) FUEL 0 l1_2))) else (kx1_0 l1_2)
def z4w (n : GNet) (busy : List GItem) (t : Int) (p0_0 : List Int) (p0_2 : List Int) (l0_1 : List Int) : Option Bool := z0t n busy (z1u n t p0_0 p0_2) FUEL (busy.length : Int) 0 l0_1
def z0s (marks : List Int) (p0_0 : List Int) (p0_1 : Int) (kx0_0 : List Int → Option Bool) : Nat → Int → List Int → Option Bool
  | 0, _, _ => none
  | n0 + 1, s0_0, l0_1 => if decide (s0_0 < p0_1) = true then ((getI marks s0_0).bind fun x3 => (if decide (0 < x3) = true then ((ze3 p0_0 s0_0).bind fun x5 => (if x5 = true then (gd (ok64 (s0_0 + 1)) ((z0s marks p0_0 p0_1 kx0_0 n0) (s0_0 + 1) l0_1)) else (gd (l0_1.length + [s0_0].length ≤ SMALL) (gd (ok64 (s0_0 + 1)) ((z0s marks p0_0 p0_1 kx0_0 n0) (s0_0 + 1) (l0_1 ++ [s0_0])))))) else (gd (ok64 (s0_0 + 1)) ((z0s marks p0_0 p0_1 kx0_0 n0) (s0_0 + 1) l0_1)))) else (kx0_0 l0_1)
def z6v (n : GNet) (marks : List Int) (busy : List GItem) (t : Int) : Option Bool := (getI n.tasks t).bind fun x1 => (z0s marks x1.in_ (marks.length : Int) (z4w n busy t x1.in_ marks) FUEL 0 ([] : List Int))
def z02 : Con := ⟨168, [.v (.s .net) false, .v (.sl .I) false, .v (.sl (.s .item)) false, .v .I false], [(.B, true)], [], fun x => z6v x.1 x.2.1 x.2.2.1 x.2.2.2.1⟩
def y9a : Fs := ⟨[zr6, z06, z52], [z8g], []⟩
theorem z4m : y9a.Ok Tryz.prog := (fsK ye1 (fsK yw4 (fsK z8n (fsF y69 fs0))))
def zc3 : Tmpl := ⟨[(3, .c .i), (4, .c (.bx 4 0)), (5, .c (.bx 5 0)), (9, .c (.s .I)), (10, .c (.ref 500010)), (46, .c (.s (.s .item))), (47, .c .i), (48, .c .i), (58, .c (.s (.s .flow))), (59, .c .i), (60, .c .i)], [(4, .boxT (.s .net)), (5, .box [.s .I]), (500010, .arr .I true)]⟩
def za3 : Tmpl := ⟨[(3, .c .i), (4, .c (.bx 4 0)), (5, .c (.bx 5 0)), (9, .c (.s .I)), (10, .c (.ref 500010)), (46, .c (.s (.s .item))), (47, .c .i), (48, .c .i)], [(4, .boxT (.s .net)), (5, .box [.s .I]), (500010, .arr .I true)]⟩
def y2f (av : AV) (x : HP z02.ps) (n : Nat) (v : zc3.den) (K : Ks (CR z02)) : Option (CR z02) := z1v v.1.2.2.2.2.2.2.2.2.1 v.1.2.2.2.2.2.2.2.2.2.1 (fun l2_1 => za3.at none ((v.1.1, (), (), v.1.2.2.2.1, (), v.1.2.2.2.2.2.1, v.1.2.2.2.2.2.2.1, v.1.2.2.2.2.2.2.2.1, ()), (v.2.1, (v.2.2.1.1, ()), l2_1, ())) (K (.exit 4))) n v.1.2.2.2.2.2.2.2.2.2.2.1 v.2.2.2.1
def zb3 (av : AV) (x : HP z02.ps) : Hdl (CR z02) := hnd [] zc3 (y2f av x)
theorem y2r : LP z02 Tryz.f168 [1, 0] zb3 := lp_ok (W := []) (H := []) (xs := [za3]) z4m trivial rfl (fun av x v K => by kernel_rfl) (fun av x n v K => by kernel_rfl)
def zl0 : Tmpl := ⟨[(2, .c (.s (.s .item))), (3, .c .i), (4, .c (.bx 4 0)), (5, .c (.bx 5 0)), (9, .c (.s .I)), (10, .c (.ref 500010)), (26, .c (.s .I)), (27, .c .i), (28, .c .i)], [(4, .boxT (.s .net)), (5, .box [.s .I]), (500010, .arr .I true)]⟩
def zf2 : Tmpl := ⟨[(2, .c (.s (.s .item))), (3, .c .i), (4, .c (.bx 4 0)), (5, .c (.bx 5 0)), (9, .c (.s .I)), (10, .c (.ref 500010))], [(4, .boxT (.s .net)), (5, .box [.s .I]), (500010, .arr .I true)]⟩
def y59 (av : AV) (x : HP z02.ps) (n : Nat) (v : zl0.den) (K : Ks (CR z02)) : Option (CR z02) := z0s v.1.2.2.2.2.2.2.1 v.1.2.2.2.2.1 v.1.2.2.2.2.2.2.2.1 (fun l0_1 => zf2.at none ((v.1.1, v.1.2.1, (), (), v.1.2.2.2.2.1, (), ()), (v.2.1, (v.2.2.1.1, ()), l0_1, ())) (K (.exit 0))) n v.1.2.2.2.2.2.2.2.2.1 v.2.2.2.1
def zg1 (av : AV) (x : HP z02.ps) : Hdl (CR z02) := hnd [.e 10 500010 .I] zl0 (y59 av x)
theorem y63 : LP z02 Tryz.f168 [0] zg1 := lp_ok (W := []) (H := []) (xs := [zf2]) z4m trivial rfl (fun av x v K => by kernel_rfl) (fun av x n v K => by kernel_rfl)
def zl1 : Tmpl := ⟨[(3, .c .i), (4, .c (.bx 4 0)), (5, .c (.bx 5 0)), (9, .c (.s .I)), (10, .c (.ref 500010)), (46, .c (.s (.s .item))), (47, .c .i), (48, .c .i)], [(4, .boxT (.s .net)), (5, .box [.s .I]), (500010, .arr .I true)]⟩
def zf3 : Tmpl := ⟨[(3, .c .i), (4, .c (.bx 4 0)), (5, .c (.bx 5 0)), (9, .c (.s .I)), (10, .c (.ref 500010))], [(4, .boxT (.s .net)), (5, .box [.s .I]), (500010, .arr .I true)]⟩
def y5a (av : AV) (x : HP z02.ps) (n : Nat) (v : zl1.den) (K : Ks (CR z02)) : Option (CR z02) := z0t v.2.1 v.1.2.2.2.2.2.1 (fun l1_2 => zf3.at none ((v.1.1, (), (), v.1.2.2.2.1, (), ()), (v.2.1, (v.2.2.1.1, ()), l1_2, ())) (K (.exit 2))) n v.1.2.2.2.2.2.2.1 v.1.2.2.2.2.2.2.2.1 v.2.2.2.1
def zg2 (av : AV) (x : HP z02.ps) : Hdl (CR z02) := hnd [] zl1 (y5a av x)
theorem y64 : LP z02 Tryz.f168 [1] zg2 := lp_ok (W := []) (H := [zb3]) (xs := [zf3]) z4m ⟨y2r, trivial⟩ rfl (fun av x v K => by kernel_rfl) (fun av x n v K => by kernel_rfl)
def zl2 : Tmpl := ⟨[(3, .c .i), (4, .c (.bx 4 0)), (5, .c (.bx 5 0)), (9, .c (.s .I)), (71, .c (.ref 500010)), (72, .c .i), (73, .c .i)], [(4, .boxT (.s .net)), (5, .box [.s .I]), (500010, .arr .I true)]⟩
def zf4 : Tmpl := ⟨[], []⟩
def y5b (av : AV) (x : HP z02.ps) (n : Nat) (v : zl2.den) (K : Ks (CR z02)) : Option (CR z02) := z18 v.2.1 v.1.1 v.1.2.2.2.1 v.2.2.1.1 v.2.2.2.1 v.1.2.2.2.2.2.1 (zf4.at none ((), ()) (K (.exit 6))) n v.1.2.2.2.2.2.2.1
def zg3 (av : AV) (x : HP z02.ps) : Hdl (CR z02) := hnd [] zl2 (y5b av x)
theorem y65 : LP z02 Tryz.f168 [2] zg3 := lp_ok (W := []) (H := []) (xs := [zf4]) z4m trivial rfl (fun av x v K => by kernel_rfl) (fun av x n v K => by kernel_rfl)
theorem ye5 : z02.Ok Tryz.prog := fn_ok (k := z02) (fn := Tryz.f168) (W := []) (H := [zg1, zg2, zg3]) Tryz.func168 z4m ⟨y63, y64, y65, trivial⟩ rfl rfl (fun av x => by kernel_rfl)
def z3f (n : GNet) (marks : List Int) (busy : List GItem) (t : Int) (s0_0 : Bool) (s0_2 : Bool) : Option Bool := (getI n.tasks t).bind fun x14 => (if decide (x14.join = 1) = true then (some s0_0) else (if decide (x14.join = 2) = true then (some s0_2) else (if s0_2 = true then (if s0_0 = true then (some true) else ((z6v n marks busy t).bind fun x19 => (some (!x19)))) else (some false))))
def z0v (marks : List Int) (p0_0 : List Int) (p0_1 : Int) (kx0_0 : Bool → Bool → Option Bool) : Nat → Bool → Int → Bool → Option Bool
  | 0, _, _, _ => none
  | n0 + 1, s0_0, s0_1, s0_2 => if decide (s0_1 < p0_1) = true then ((getI p0_0 s0_1).bind fun x3 => (if s0_2 = true then (if s0_0 = true then ((getI marks x3).bind fun x6 => (gd (ok64 (s0_1 + 1)) ((z0v marks p0_0 p0_1 kx0_0 n0) (decide (0 < x6)) (s0_1 + 1) true))) else (gd (ok64 (s0_1 + 1)) ((z0v marks p0_0 p0_1 kx0_0 n0) false (s0_1 + 1) true))) else ((getI marks x3).bind fun x9 => (if s0_0 = true then ((getI marks x3).bind fun x11 => (gd (ok64 (s0_1 + 1)) ((z0v marks p0_0 p0_1 kx0_0 n0) (decide (0 < x11)) (s0_1 + 1) (decide (0 < x9))))) else (gd (ok64 (s0_1 + 1)) ((z0v marks p0_0 p0_1 kx0_0 n0) false (s0_1 + 1) (decide (0 < x9)))))))) else (kx0_0 s0_0 s0_2)
def z9t (n : GNet) (marks : List Int) (busy : List GItem) (t : Int) : Option Bool := (getI n.tasks t).bind fun x1 => (z0v marks x1.in_ (x1.in_.length : Int) (z3f n marks busy t) FUEL true 0 false)
def z26 : Con := ⟨104, [.v (.s .net) false, .v (.sl .I) false, .v (.sl (.s .item)) false, .v .I false], [(.B, true)], [], fun x => z9t x.1 x.2.1 x.2.2.1 x.2.2.2.1⟩
def w1x : Fs := ⟨[z02], [], []⟩
theorem y3i : w1x.Ok Tryz.prog := (fsK ye5 fs0)
def y0x : Tmpl := ⟨[(1, .c (.s .I)), (2, .c (.s (.s .item))), (3, .c .i), (4, .c (.bx 4 0)), (9, .c .b), (10, .c .b), (18, .c (.s .I)), (19, .c .i), (20, .c .i)], [(4, .boxT (.s .net))]⟩
def zv6 : Tmpl := ⟨[(1, .c (.s .I)), (2, .c (.s (.s .item))), (3, .c .i), (4, .c (.bx 4 0)), (9, .c .b), (10, .c .b)], [(4, .boxT (.s .net))]⟩
def yt1 (av : AV) (x : HP z26.ps) (n : Nat) (v : y0x.den) (K : Ks (CR z26)) : Option (CR z26) := z0v v.1.1 v.1.2.2.2.2.2.2.1 v.1.2.2.2.2.2.2.2.1 (fun s0_0 s0_2 => zv6.at none ((v.1.1, v.1.2.1, v.1.2.2.1, (), s0_2, s0_0, ()), (v.2.1, ())) (K (.exit 0))) n v.1.2.2.2.2.2.1 v.1.2.2.2.2.2.2.2.2.1 v.1.2.2.2.2.1
def y08 (av : AV) (x : HP z26.ps) : Hdl (CR z26) := hnd [] y0x (yt1 av x)
theorem yv3 : LP z26 Tryz.f104 [0] y08 := lp_ok (W := []) (H := []) (xs := [zv6]) y3i trivial rfl (fun av x v K => by kernel_rfl) (fun av x n v K => by kernel_rfl)
theorem w2u : z26.Ok Tryz.prog := fn_ok (k := z26) (fn := Tryz.f104) (W := []) (H := [y08]) Tryz.func104 y3i ⟨yv3, trivial⟩ rfl rfl (fun av x => by kernel_rfl)
def zx0 (n : GNet) (marks : List Int) (busy : List GItem) (t : Int) : Option Bool := (ze6 n marks).bind fun x1 => (if x1 = true then ((z59 n busy).bind fun x3 => (if x3 = true then ((z0q n t).bind fun x5 => (if x5 = true then ((z9t n marks busy t).bind fun x7 => (some x7)) else (some false))) else (some false))) else (some false))
def y5m : Con := ⟨33, [.v (.s .net) false, .v (.sl .I) false, .v (.sl (.s .item)) false, .v .I false], [(.B, true)], [], fun x => zx0 x.1 x.2.1 x.2.2.1 x.2.2.2.1⟩
def wr4 : Fs := ⟨[zr8, z0u, z1x, z26], [], []⟩
theorem ww0 : wr4.Ok Tryz.prog := (fsK ye4 (fsK zv0 (fsK z4s (fsK w2u fs0))))
theorem v05 : y5m.Ok Tryz.prog := fn_ok (k := y5m) (fn := Tryz.f33) (W := []) (H := []) Tryz.func33 ww0 trivial rfl rfl (fun av x => by kernel_rfl)
def zs1 (l0_1 : List Int) (x4 : Int) (x7 : Int) : Option (List Int) := some (l0_1.set x4.toNat (x7 - 1))
def zs2 (l0_1 : List Int) : Option (List Int) := some l0_1
def z20 (n : GNet) (t : Int) (p0_0 : List Int) (p0_1 : Int) (kx0_0 : List Int → Int → Int → Option (List Int)) (kx0_1 : List Int → Option (List Int)) : Nat → Int → List Int → Option (List Int)
  | 0, _, _ => none
  | n0 + 1, s0_0, l0_1 => if decide (s0_0 < p0_1) = true then ((getI p0_0 s0_0).bind fun x4 => ((getI l0_1 x4).bind fun x5 => (if decide (0 < x5) = true then ((getI l0_1 x4).bind fun x7 => (gd (ok64 (x7 - 1)) ((getI l0_1 x4).bind fun x9 => ((getI n.tasks t).bind fun x10 => (if decide (x10.join = 2) = true then (kx0_0 l0_1 x4 x7) else (gd (ok64 (s0_0 + 1)) ((z20 n t p0_0 p0_1 kx0_0 kx0_1 n0) (s0_0 + 1) (l0_1.set x4.toNat (x7 - 1))))))))) else (gd (ok64 (s0_0 + 1)) ((z20 n t p0_0 p0_1 kx0_0 kx0_1 n0) (s0_0 + 1) l0_1))))) else (kx0_1 l0_1)
def z8y (n : GNet) (marks : List Int) (t : Int) : Option (List Int) := (z0h marks).bind fun x1 => ((getI n.tasks t).bind fun x2 => (z20 n t x2.in_ (x2.in_.length : Int) zs1 zs2 FUEL 0 x1))
def z1o : Con := ⟨93, [.v (.s .net) false, .v (.sl .I) false, .v .I false], [((.sl .I), true)], [], fun x => z8y x.1 x.2.1 x.2.2.1⟩
def yy3 : Fs := ⟨[z1h], [], []⟩
theorem y18 : yy3.Ok Tryz.prog := (fsK z2r fs0)
def zv2 : Tmpl := ⟨[(2, .c .i), (3, .c (.bx 3 0)), (7, .c (.ref 11)), (17, .c (.s .I)), (18, .c .i), (19, .c .i)], [(3, .boxT (.s .net)), (11, .arr .I true)]⟩
def z9k : Tmpl := ⟨[(7, .c (.ref 11))], [(11, .arr .I true)]⟩
def yl6 (av : AV) (x : HP z1o.ps) (n : Nat) (v : zv2.den) (K : Ks (CR z1o)) : Option (CR z1o) := z20 v.2.1 v.1.1 v.1.2.2.2.1 v.1.2.2.2.2.1 (fun l0_1 x4 x7 => z9k.at none (((), ()), ((l0_1.set x4.toNat (x7 - 1)), ())) (K (.exit 0))) (fun l0_1 => z9k.at none (((), ()), (l0_1, ())) (K (.exit 0))) n v.1.2.2.2.2.2.1 v.2.2.1
def zu6 (av : AV) (x : HP z1o.ps) : Hdl (CR z1o) := hnd [] zv2 (yl6 av x)
theorem ym8 : LP z1o Tryz.f93 [0] zu6 := lp_ok (W := []) (H := []) (xs := [z9k]) y18 trivial rfl (fun av x v K => by kernel_rfl) (fun av x n v K => by kernel_rfl)
theorem w0n : z1o.Ok Tryz.prog := fn_ok (k := z1o) (fn := Tryz.f93) (W := []) (H := [zu6]) Tryz.func93 y18 ⟨ym8, trivial⟩ rfl rfl (fun av x => by kernel_rfl)
def yc7 (l0_1 : List Int) : Option (List Int) := some l0_1
def z0r (t : GTask) (data : List Int) (p0_0 : List GFlow) (p0_1 : Int) (kx0_0 : List Int → Option (List Int)) : Nat → Int → List Int → Option (List Int)
  | 0, _, _ => none
  | n0 + 1, s0_0, l0_1 => if decide (s0_0 < p0_1) = true then ((getI p0_0 s0_0).bind fun x2 => ((z2l x2.if_ data).bind fun x3 => (if x3 = true then (if decide (t.split = 2) = true then (if decide (0 < (l0_1.length : Int)) = true then (gd (ok64 (s0_0 + 1)) ((z0r t data p0_0 p0_1 kx0_0 n0) (s0_0 + 1) l0_1)) else (if decide (t.split = 3) = true then (gd (ok64 ((t.out.length : Int) - 1)) (if decide (s0_0 = ((t.out.length : Int) - 1)) = true then (if decide (0 < (l0_1.length : Int)) = true then (gd (ok64 (s0_0 + 1)) ((z0r t data p0_0 p0_1 kx0_0 n0) (s0_0 + 1) l0_1)) else (gd (l0_1.length + [x2.to].length ≤ SMALL) (gd (ok64 (s0_0 + 1)) ((z0r t data p0_0 p0_1 kx0_0 n0) (s0_0 + 1) (l0_1 ++ [x2.to]))))) else (gd (l0_1.length + [x2.to].length ≤ SMALL) (gd (ok64 (s0_0 + 1)) ((z0r t data p0_0 p0_1 kx0_0 n0) (s0_0 + 1) (l0_1 ++ [x2.to])))))) else (gd (l0_1.length + [x2.to].length ≤ SMALL) (gd (ok64 (s0_0 + 1)) ((z0r t data p0_0 p0_1 kx0_0 n0) (s0_0 + 1) (l0_1 ++ [x2.to])))))) else (if decide (t.split = 3) = true then (gd (ok64 ((t.out.length : Int) - 1)) (if decide (s0_0 = ((t.out.length : Int) - 1)) = true then (if decide (0 < (l0_1.length : Int)) = true then (gd (ok64 (s0_0 + 1)) ((z0r t data p0_0 p0_1 kx0_0 n0) (s0_0 + 1) l0_1)) else (gd (l0_1.length + [x2.to].length ≤ SMALL) (gd (ok64 (s0_0 + 1)) ((z0r t data p0_0 p0_1 kx0_0 n0) (s0_0 + 1) (l0_1 ++ [x2.to]))))) else (gd (l0_1.length + [x2.to].length ≤ SMALL) (gd (ok64 (s0_0 + 1)) ((z0r t data p0_0 p0_1 kx0_0 n0) (s0_0 + 1) (l0_1 ++ [x2.to])))))) else (gd (l0_1.length + [x2.to].length ≤ SMALL) (gd (ok64 (s0_0 + 1)) ((z0r t data p0_0 p0_1 kx0_0 n0) (s0_0 + 1) (l0_1 ++ [x2.to])))))) else (gd (ok64 (s0_0 + 1)) ((z0r t data p0_0 p0_1 kx0_0 n0) (s0_0 + 1) l0_1))))) else (kx0_0 l0_1)
def y1k (t : GTask) (data : List Int) : Option (List Int) := z0r t data t.out (t.out.length : Int) yc7 FUEL 0 ([] : List Int)
def z6n : Con := ⟨173, [.v (.s .task) false, .v (.sl .I) false], [((.sl .I), true)], [], fun x => y1k x.1 x.2.1⟩
def v2h : Fs := ⟨[z4n], [], []⟩
theorem w3c : v2h.Ok Tryz.prog := (fsK z7x fs0)
def yr6 : Tmpl := ⟨[(1, .c (.s .I)), (2, .c (.bx 2 0)), (5, .c (.ref 500005)), (9, .c (.s (.s .flow))), (10, .c .i), (11, .c .i)], [(2, .boxT (.s .task)), (500005, .arr .I true)]⟩
def yi6 : Tmpl := ⟨[(5, .c (.ref 500005))], [(500005, .arr .I true)]⟩
def wb6 (av : AV) (x : HP z6n.ps) (n : Nat) (v : yr6.den) (K : Ks (CR z6n)) : Option (CR z6n) := z0r v.2.1 v.1.1 v.1.2.2.2.1 v.1.2.2.2.2.1 (fun l0_1 => yi6.at none (((), ()), (l0_1, ())) (K (.exit 0))) n v.1.2.2.2.2.2.1 v.2.2.1
def yp2 (av : AV) (x : HP z6n.ps) : Hdl (CR z6n) := hnd [.e 5 500005 .I] yr6 (wb6 av x)
theorem wi5 : LP z6n Tryz.f173 [0] yp2 := lp_ok (W := []) (H := []) (xs := [yi6]) w3c trivial rfl (fun av x v K => by kernel_rfl) (fun av x n v K => by kernel_rfl)
theorem v47 : z6n.Ok Tryz.prog := fn_ok (k := z6n) (fn := Tryz.f173) (W := []) (H := [yp2]) Tryz.func173 w3c ⟨wi5, trivial⟩ rfl rfl (fun av x => by kernel_rfl)
def z9s (n : GNet) (l1_1 : List Int) : Option ((List Int) × Bool) := (z4q n l1_1).bind fun x21 => (if x21 = true then (some (l1_1, true)) else (some ([], false)))
def z5s (x14 : (List Int)) (p1_0 : Int) (kx1_0 : List Int → Option ((List Int) × Bool)) : Nat → Int → List Int → Option ((List Int) × Bool)
  | 0, _, _ => none
  | n1 + 1, s1_0, l1_1 => if decide (s1_0 < p1_0) = true then ((getI x14 s1_0).bind fun x16 => ((getI l1_1 x16).bind fun x17 => (gd (ok64 (x17 + 1)) ((getI l1_1 x16).bind fun x19 => (gd (ok64 (s1_0 + 1)) ((z5s x14 p1_0 kx1_0 n1) (s1_0 + 1) (l1_1.set x16.toNat (x17 + 1)))))))) else (kx1_0 l1_1)
def z9r (n : GNet) (t : Int) (data : List Int) (l0_1 : List Int) : Option ((List Int) × Bool) := (getI n.tasks t).bind fun x13 => ((y1k x13 data).bind fun x14 => (z5s x14 (x14.length : Int) (z9s n) FUEL 0 l0_1))
def z5r (p0_0 : List Int) (p0_1 : Int) (kx0_0 : List Int → Option ((List Int) × Bool)) : Nat → Int → List Int → Option ((List Int) × Bool)
  | 0, _, _ => none
  | n0 + 1, s0_0, l0_1 => if decide (s0_0 < p0_1) = true then ((getI p0_0 s0_0).bind fun x10 => ((getI l0_1 x10).bind fun x11 => (gd (ok64 (s0_0 + 1)) ((z5r p0_0 p0_1 kx0_0 n0) (s0_0 + 1) (l0_1.set x10.toNat 0))))) else (kx0_0 l0_1)
def z8r (n : GNet) (marks : List Int) (t : Int) (data : List Int) : Option ((List Int) × Bool) := (ze6 n marks).bind fun x1 => (if x1 = true then ((z0q n t).bind fun x3 => (if x3 = true then ((z3k data).bind fun x5 => (if x5 = true then ((z0h marks).bind fun x7 => ((getI n.tasks t).bind fun x8 => (z5r x8.clear (x8.clear.length : Int) (z9r n t data) FUEL 0 x7))) else (some ([], false)))) else (some ([], false)))) else (some ([], false)))
def z0z : Con := ⟨115, [.v (.s .net) false, .v (.sl .I) false, .v .I false, .v (.sl .I) false], [((.sl .I), true), (.B, true)], [], fun x => z8r x.1 x.2.1 x.2.2.1 x.2.2.2.1⟩
def wd4 : Fs := ⟨[zr8, z1x, z5p, z1h, z6n, z6m], [], []⟩
theorem y2h : wd4.Ok Tryz.prog := (fsK ye4 (fsK z4s (fsK z80 (fsK z2r (fsK v47 (fsK zs3 fs0))))))
def y7q : Tmpl := ⟨[(2, .c .i), (3, .c (.s .I)), (4, .c (.bx 4 0)), (10, .c (.ref 31)), (37, .c (.s .I)), (38, .c .i), (39, .c .i)], [(4, .boxT (.s .net)), (31, .arr .I true)]⟩
def y4n : Tmpl := ⟨[(2, .c .i), (3, .c (.s .I)), (4, .c (.bx 4 0)), (10, .c (.ref 31))], [(4, .boxT (.s .net)), (31, .arr .I true)]⟩
def w49 (av : AV) (x : HP z0z.ps) (n : Nat) (v : y7q.den) (K : Ks (CR z0z)) : Option (CR z0z) := z5r v.1.2.2.2.2.1 v.1.2.2.2.2.2.1 (fun l0_1 => y4n.at none ((v.1.1, v.1.2.1, (), (), ()), (v.2.1, l0_1, ())) (K (.exit 0))) n v.1.2.2.2.2.2.2.1 v.2.2.1
def y6q (av : AV) (x : HP z0z.ps) : Hdl (CR z0z) := hnd [] y7q (w49 av x)
theorem w58 : LP z0z Tryz.f115 [0] y6q := lp_ok (W := []) (H := []) (xs := [y4n]) y2h trivial rfl (fun av x v K => by kernel_rfl) (fun av x n v K => by kernel_rfl)
def y7r : Tmpl := ⟨[(4, .c (.bx 4 0)), (10, .c (.ref 31)), (53, .c (.ref 53)), (54, .c .i), (55, .c .i)], [(4, .boxT (.s .net)), (31, .arr .I true), (53, .arr .I true)]⟩
def y4o : Tmpl := ⟨[(4, .c (.bx 4 0)), (10, .c (.ref 31))], [(4, .boxT (.s .net)), (31, .arr .I true)]⟩
def w4a (av : AV) (x : HP z0z.ps) (n : Nat) (v : y7r.den) (K : Ks (CR z0z)) : Option (CR z0z) := z5s v.2.2.2.1 v.1.2.2.2.1 (fun l1_1 => y4o.at none (((), (), ()), (v.2.1, l1_1, ())) (K (.exit 2))) n v.1.2.2.2.2.1 v.2.2.1
def y6r (av : AV) (x : HP z0z.ps) : Hdl (CR z0z) := hnd [] y7r (w4a av x)
theorem w59 : LP z0z Tryz.f115 [1] y6r := lp_ok (W := []) (H := []) (xs := [y4o]) y2h trivial rfl (fun av x v K => by kernel_rfl) (fun av x n v K => by kernel_rfl)
theorem wk4 : z0z.Ok Tryz.prog := fn_ok (k := z0z) (fn := Tryz.f115) (W := []) (H := [y6q, y6r]) Tryz.func115 y2h ⟨w58, w59, trivial⟩ rfl rfl (fun av x => by kernel_rfl)
def y2x (n : Int) : Option Bool := (z0c n 0 7).bind fun x1 => (some (!x1))
def y36 : FCon := ⟨119, .I, [], fun z c => y2x z ⟩
def wd8 : Fs := ⟨[z1y], [], []⟩
theorem wg9 : wd8.Ok Tryz.prog := (fsK z2m fs0)
theorem wk8 : y36.Ok Tryz.prog := FCon.ok (fn_ok (k := y36.con) (fn := Tryz.f119) (W := []) (H := []) Tryz.func119 wg9 trivial rfl rfl (fun av x => by kernel_rfl))
def ze7 (people : List Int) : Option Bool := (z0c (people.length : Int) 1 4).bind fun x1 => (if x1 = true then ((z2n people (fun z => y2x z )).bind fun x3 => (some (!x3))) else (some false))
def zr9 : Con := ⟨50, [.v (.sl .I) false], [(.B, true)], [], fun x => ze7 x.1⟩
def v2f : Fs := ⟨[z1y, z52], [y36], []⟩
theorem v37 : v2f.Ok Tryz.prog := (fsK z2m (fsK z8n (fsF wk8 fs0)))
theorem ye7 : zr9.Ok Tryz.prog := fn_ok (k := zr9) (fn := Tryz.f50) (W := []) (H := []) Tryz.func50 v37 trivial rfl rfl (fun av x => by kernel_rfl)
def zh8 (people : List Int) (who : Int) (role : Int) : Option Bool := (ze7 people).bind fun x1 => (if x1 = true then ((z0c who 1 (people.length : Int)).bind fun x3 => (if x3 = true then ((zi0 role).bind fun x5 => (if x5 = true then (gd (ok64 (who - 1)) ((getI people (who - 1)).bind fun x8 => (gd (ok64 (role - 1)) (gd ((0 : Int) ≤ (role - 1) ∧ (role - 1) ≤ (63 : Int)) (some (decide ((andI (shrI x8 (role - 1)) 1) = 1))))))) else (some false))) else (some false))) else (some false))
def zw4 : Con := ⟨80, [.v (.sl .I) false, .v .I false, .v .I false], [(.B, true)], [], fun x => zh8 x.1 x.2.1 x.2.2.1⟩
def wr7 : Fs := ⟨[zr9, z1y, zw5], [], []⟩
theorem ww2 : wr7.Ok Tryz.prog := (fsK ye7 (fsK z2m (fsK w0p fs0)))
theorem w0o : zw4.Ok Tryz.prog := fn_ok (k := zw4) (fn := Tryz.f80) (W := []) (H := []) Tryz.func80 ww2 trivial rfl rfl (fun av x => by kernel_rfl)
def zx2 (did : List GDid) (who : Int) (task : Int) : Option Bool := (y0g did (GDid.mk task who)).bind fun x1 => (some x1)
def y5n : Con := ⟨109, [.v (.sl (.s .did)) false, .v .I false, .v .I false], [(.B, true)], [], fun x => zx2 x.1 x.2.1 x.2.2.1⟩
def wr6 : Fs := ⟨[y0c], [], []⟩
theorem ww1 : wr6.Ok Tryz.prog := (fsK w96 fs0)
theorem v07 : y5n.Ok Tryz.prog := fn_ok (k := y5n) (fn := Tryz.f109) (W := []) (H := []) Tryz.func109 ww1 trivial rfl rfl (fun av x => by kernel_rfl)
def zo0 (l0_1 : List Int) : Option (List Int) := some l0_1
def z3t (p : Int → Option Bool) (p0_0 : Int) (kx0_0 : List Int → Option (List Int)) : Nat → Int → List Int → Option (List Int)
  | 0, _, _ => none
  | n0 + 1, s0_0, l0_1 => if decide (s0_0 < p0_0) = true then (gd (ok64 (s0_0 + 1)) ((p (s0_0 + 1)).bind fun x5 => (if x5 = true then (gd (ok64 (s0_0 + 1)) (gd (l0_1.length + [(s0_0 + 1)].length ≤ SMALL) (gd (ok64 (s0_0 + 1)) ((z3t p p0_0 kx0_0 n0) (s0_0 + 1) (l0_1 ++ [(s0_0 + 1)]))))) else (gd (ok64 (s0_0 + 1)) ((z3t p p0_0 kx0_0 n0) (s0_0 + 1) l0_1))))) else (kx0_0 l0_1)
def y2y (people : List Int) (p : Int → Option Bool) : Option (List Int) := (ze7 people).bind fun x1 => (if x1 = true then (z3t p (people.length : Int) zo0 FUEL 0 ([] : List Int)) else (some []))
def z31 : Con := ⟨105, [.v (.sl .I) false, .fn .I], [((.sl .I), true)], [], fun x => y2y x.1 x.2.1⟩
def we2 : Fs := ⟨[zr9], [], []⟩
theorem yn7 : we2.Ok Tryz.prog := (fsK ye7 fs0)
def y7w : Tmpl := ⟨[(1, .c .fp), (5, .c (.ref 500005)), (11, .c .i), (12, .c .i)], [(500005, .arr .I true)]⟩
def y4t : Tmpl := ⟨[(5, .c (.ref 500005))], [(500005, .arr .I true)]⟩
def w4f (av : AV) (x : HP z31.ps) (n : Nat) (v : y7w.den) (K : Ks (CR z31)) : Option (CR z31) := z3t x.2.1 v.1.2.2.1 (fun l0_1 => y4t.at (fpOf z31.ps x av) (((), ()), (l0_1, ())) (K (.exit 0))) n v.1.2.2.2.1 v.2.1
def y6w (av : AV) (x : HP z31.ps) : Hdl (CR z31) := hnd [.e 5 500005 .I] y7w (w4f av x)
theorem w5e : LP z31 Tryz.f105 [0] y6w := lp_ok (W := []) (H := []) (xs := [y4t]) yn7 trivial rfl (fun av x v K => by kernel_rfl) (fun av x n v K => by kernel_rfl)
theorem wl1 : z31.Ok Tryz.prog := fn_ok (k := z31) (fn := Tryz.f105) (W := []) (H := [y6w]) Tryz.func105 yn7 ⟨w5e, trivial⟩ rfl rfl (fun av x => by kernel_rfl)
def zn8 (b : GItem) (task : GTask) (who : Int) : Option Bool := if decide (b.task = task.apart) = true then (some (decide (b.who = who))) else (some false)
def zo7 : FCon := ⟨108, (.s .item), [(.s .task), .I], fun z c => zn8 z c.1 c.2.1⟩
def w1z : Fs := ⟨[], [], []⟩
theorem w27 : w1z.Ok Tryz.prog := fs0
theorem w2w : zo7.Ok Tryz.prog := FCon.ok (fn_ok (k := zo7.con) (fn := Tryz.f108) (W := []) (H := []) Tryz.func108 w27 trivial rfl rfl (fun av x => by kernel_rfl))
def z9a (who : Int) (busy : List GItem) (task : GTask) (people : List Int) (did : List GDid) : Option Bool := (z78 busy (fun z => zn8 z task who)).bind fun x1 => ((zh8 people who task.role).bind fun x2 => (if x2 = true then (if x1 = true then (some false) else ((zx2 did who task.apart).bind fun x5 => (some (!x5)))) else (some false)))
def y0t : FCon := ⟨106, .I, [(.sl (.s .item)), (.s .task), (.sl .I), (.sl (.s .did))], fun z c => z9a z c.1 c.2.1 c.2.2.1 c.2.2.2.1⟩
def w7h : Fs := ⟨[za7, zw4, y5n], [zo7], []⟩
theorem w84 : w7h.Ok Tryz.prog := (fsK yn0 (fsK w0o (fsK v07 (fsF w2w fs0))))
theorem w99 : y0t.Ok Tryz.prog := FCon.ok (fn_ok (k := y0t.con) (fn := Tryz.f106) (W := []) (H := []) Tryz.func106 w84 trivial rfl rfl (fun av x => by kernel_rfl))
def zx3 (n : GNet) (people : List Int) (did : List GDid) (busy : List GItem) (t : Int) : Option (List Int) := (z99 n).bind fun x1 => (if x1 = true then ((z0q n t).bind fun x3 => (if x3 = true then ((getI n.tasks t).bind fun x5 => ((y2y people (fun z => z9a z busy x5 people did)).bind fun x6 => (some x6))) else (some []))) else (some []))
def y5o : Con := ⟨35, [.v (.s .net) false, .v (.sl .I) false, .v (.sl (.s .did)) false, .v (.sl (.s .item)) false, .v .I false], [((.sl .I), true)], [], fun x => zx3 x.1 x.2.1 x.2.2.1 x.2.2.2.1 x.2.2.2.2.1⟩
def wr8 : Fs := ⟨[ze2, z1x, z31], [y0t], []⟩
theorem ww3 : wr8.Ok Tryz.prog := (fsK y1v (fsK z4s (fsK wl1 (fsF w99 fs0))))
theorem v08 : y5o.Ok Tryz.prog := fn_ok (k := y5o) (fn := Tryz.f35) (W := []) (H := []) Tryz.func35 ww3 trivial rfl rfl (fun av x => by kernel_rfl)
def zh3 (n : GNet) (data : List Int) : Option GCase := (z99 n).bind fun x1 => (if x1 = true then ((z3k data).bind fun x3 => (if x3 = true then (gd ((0 : Int) ≤ n.places ∧ n.places ≤ (1000000000 : Int)) ((z0h data).bind fun x6 => ((getI (List.replicate n.places.toNat (0 : Int)) 0).bind fun x7 => (some (GCase.mk 1 ((List.replicate n.places.toNat (0 : Int)).set (0 : Int).toNat 1) [] x6 []))))) else (some (GCase.mk 0 [] [] [] [])))) else (some (GCase.mk 0 [] [] [] [])))
def y5l : Con := ⟨65, [.v (.s .net) false, .v (.sl .I) false], [((.s .kase), true)], [], fun x => zh3 x.1 x.2.1⟩
def wr3 : Fs := ⟨[ze2, z5p, z1h], [], []⟩
theorem wv9 : wr3.Ok Tryz.prog := (fsK y1v (fsK z80 (fsK z2r fs0)))
theorem v04 : y5l.Ok Tryz.prog := fn_ok (k := y5l) (fn := Tryz.f65) (W := []) (H := []) Tryz.func65 wv9 trivial rfl rfl (fun av x => by kernel_rfl)
end
end Go.Am
