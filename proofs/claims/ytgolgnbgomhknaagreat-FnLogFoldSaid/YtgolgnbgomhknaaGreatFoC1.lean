/- Mirrors and contracts, printed. Own work. -/
import Derived.Test.YtgolgnbgomhknaaGreatFoD1
set_option maxRecDepth 100000
set_option maxHeartbeats 4000000
set_option linter.unusedVariables false
set_option linter.unusedSimpArgs false
namespace Go.Am
noncomputable section
open Go Go.Proofs
def z03 (n : Int) (low : Int) (high : Int) : Option Bool := if decide (low ≤ n) = true then (some (decide (n ≤ high))) else (some false)
def z0m : Con := ⟨90, [.v .I false, .v .I false, .v .I false], [(.B, true)], [], fun x => z03 x.1 x.2.1 x.2.2.1⟩
def v5k : Fs := ⟨[], [], []⟩
theorem v5o : v5k.Ok Tryz.prog := fs0
theorem z0w : z0m.Ok Tryz.prog := fn_ok (k := z0m) (fn := Tryz.f90) (W := []) (H := []) Tryz.func90 v5o trivial rfl rfl (fun av x => by kernel_rfl)
def yb4  : Option Bool := some true
def z7m (data : List Int) (kx0_0 : Option Bool) : Nat → Int → Option Bool
  | 0, _ => none
  | n0 + 1, s0_0 => if decide (s0_0 < (data.length : Int)) = true then ((getI data s0_0).bind fun x3 => ((z03 x3 (-99) 99).bind fun x4 => (if x4 = true then (gd (ok64 (s0_0 + 1)) ((z7m data kx0_0 n0) (s0_0 + 1))) else (some false)))) else (kx0_0)
def z2q (data : List Int) : Option Bool := if decide ((data.length : Int) = 3) = true then (z7m data yb4 FUEL 0) else (some false)
def z19 : Con := ⟨89, [.v (.sl .I) false], [(.B, true)], [], fun x => z2q x.1⟩
def v2g : Fs := ⟨[z0m], [], []⟩
theorem w34 : v2g.Ok Tryz.prog := (fsK z0w fs0)
def yq4 : Tmpl := ⟨[(0, .c (.s .I)), (3, .c .i)], []⟩
def yh6 : Tmpl := ⟨[], []⟩
def wb1 (av : AV) (x : HP z19.ps) (n : Nat) (v : yq4.den) (K : Ks (CR z19)) : Option (CR z19) := z7m v.1.1 (yh6.at none ((), ()) (K (.exit 0))) n v.1.2.1
def yo0 (av : AV) (x : HP z19.ps) : Hdl (CR z19) := hnd [] yq4 (wb1 av x)
theorem wi2 : LP z19 Tryz.f89 [0] yo0 := lp_ok (W := []) (H := []) (xs := [yh6]) w34 trivial rfl (fun av x v K => by kernel_rfl) (fun av x n v K => by kernel_rfl)
theorem z72 : z19.Ok Tryz.prog := fn_ok (k := z19) (fn := Tryz.f89) (W := []) (H := [yo0]) Tryz.func89 w34 ⟨wi2, trivial⟩ rfl rfl (fun av x => by kernel_rfl)
def z8a (data : List Int) (k : Int) (n : Int) : Option (List Int) := (z2q data).bind fun x1 => (if x1 = true then ((z03 k 0 2).bind fun x3 => (if x3 = true then ((z03 n (-99) 99).bind fun x5 => (if x5 = true then (gd (([] : List Int).length + data.length ≤ SMALL) ((getI (([] : List Int) ++ data) k).bind fun x8 => (some ((([] : List Int) ++ data).set k.toNat n)))) else (gd (([] : List Int).length + data.length ≤ SMALL) (some (([] : List Int) ++ data))))) else (gd (([] : List Int).length + data.length ≤ SMALL) (some (([] : List Int) ++ data))))) else (gd (([] : List Int).length + data.length ≤ SMALL) (some (([] : List Int) ++ data))))
def zw2 : Con := ⟨171, [.v (.sl .I) false, .v .I false, .v .I false], [((.sl .I), true)], [], fun x => z8a x.1 x.2.1 x.2.2.1⟩
def ws4 : Fs := ⟨[z19, z0m], [], []⟩
theorem ww2 : ws4.Ok Tryz.prog := (fsK z72 (fsK z0w fs0))
theorem w0b : zw2.Ok Tryz.prog := fn_ok (k := zw2) (fn := Tryz.f171) (W := []) (H := []) Tryz.func171 ww2 trivial rfl rfl (fun av x => by kernel_rfl)
def z6w (e : GAsk) : Option Bool := if decide (e.op = 0) = true then (some (decide ([e.op, e.var, e.k] = [0, 0, 0]))) else ((z03 e.op 1 3).bind fun x2 => (if x2 = true then ((z03 e.var 0 2).bind fun x4 => (if x4 = true then ((z03 e.k (-99) 99).bind fun x6 => (some x6)) else (some false))) else (some false)))
def z97 : Con := ⟨138, [.v (.s .ask) false], [(.B, true)], [], fun x => z6w x.1⟩
def v2i : Fs := ⟨[z0m], [], []⟩
theorem v33 : v2i.Ok Tryz.prog := (fsK z0w fs0)
theorem zs2 : z97.Ok Tryz.prog := fn_ok (k := z97) (fn := Tryz.f138) (W := []) (H := []) Tryz.func138 v33 trivial rfl rfl (fun av x => by kernel_rfl)
def z1e (e : GAsk) (data : List Int) : Option Bool := (z6w e).bind fun x1 => (if x1 = true then ((z2q data).bind fun x3 => (if x3 = true then (if decide (e.op = 1) = true then ((getI data e.var).bind fun x6 => (some (decide (x6 < e.k)))) else (if decide (e.op = 2) = true then ((getI data e.var).bind fun x8 => (some (decide (x8 = e.k)))) else (if decide (e.op = 3) = true then ((getI data e.var).bind fun x10 => (some (decide (e.k < x10)))) else (some true)))) else (some false))) else (some false))
def z4l : Con := ⟨181, [.v (.s .ask) false, .v (.sl .I) false], [(.B, true)], [], fun x => z1e x.1 x.2.1⟩
def w7d : Fs := ⟨[z97, z19], [], []⟩
theorem w82 : w7d.Ok Tryz.prog := (fsK zs2 (fsK z72 fs0))
theorem z7w : z4l.Ok Tryz.prog := fn_ok (k := z4l) (fn := Tryz.f181) (W := []) (H := []) Tryz.func181 w82 trivial rfl rfl (fun av x => by kernel_rfl)
def z0c (n : Int) (low : Int) (high : Int) : Option Bool := if decide (low ≤ n) = true then (some (decide (n ≤ high))) else (some false)
def z25 : Con := ⟨113, [.v .I false, .v .I false, .v .I false], [(.B, true)], [], fun x => z0c x.1 x.2.1 x.2.2.1⟩
def va2 : Fs := ⟨[], [], []⟩
theorem vb3 : va2.Ok Tryz.prog := fs0
theorem z2s : z25.Ok Tryz.prog := fn_ok (k := z25) (fn := Tryz.f113) (W := []) (H := []) Tryz.func113 vb3 trivial rfl rfl (fun av x => by kernel_rfl)
def z5p (n : Int) : Option Bool := (z0c n (-99) 99).bind fun x1 => (some x1)
def z8o : Con := ⟨114, [.v .I false], [(.B, true)], [], fun x => z5p x.1⟩
def wd2 : Fs := ⟨[z25], [], []⟩
theorem wg3 : wd2.Ok Tryz.prog := (fsK z2s fs0)
theorem zq6 : z8o.Ok Tryz.prog := fn_ok (k := z8o) (fn := Tryz.f114) (W := []) (H := []) Tryz.func114 wg3 trivial rfl rfl (fun av x => by kernel_rfl)
def z0g (list : List Int) : Option (List Int) := gd (([] : List Int).length + list.length ≤ SMALL) (some (([] : List Int) ++ list))
def z1d : Con := ⟨140, [.v (.sl .I) false], [((.sl .I), true)], [], fun x => z0g x.1⟩
def w4q : Fs := ⟨[], [], []⟩
theorem w4w : w4q.Ok Tryz.prog := fs0
theorem z2m : z1d.Ok Tryz.prog := fn_ok (k := z1d) (fn := Tryz.f140) (W := []) (H := []) Tryz.func140 w4w trivial rfl rfl (fun av x => by kernel_rfl)
def z7x (e : GAsk) : Option Bool := if decide (e.op = 0) = true then (if decide (e.var = 0) = true then (some (decide (e.k = 0))) else (some false)) else ((z0c e.op 1 3).bind fun x3 => (if x3 = true then ((z0c e.var 0 2).bind fun x5 => (if x5 = true then ((z5p e.k).bind fun x7 => (some x7)) else (some false))) else (some false)))
def zr3 : Con := ⟨141, [.v (.s .ask) false], [(.B, true)], [], fun x => z7x x.1⟩
def v25 : Fs := ⟨[z25, z8o], [], []⟩
theorem v2x : v25.Ok Tryz.prog := (fsK z2s (fsK zq6 fs0))
theorem yc8 : zr3.Ok Tryz.prog := fn_ok (k := zr3) (fn := Tryz.f141) (W := []) (H := []) Tryz.func141 v2x trivial rfl rfl (fun av x => by kernel_rfl)
def y3s  : Option Bool := some true
def z3x (list : List Int) (low : Int) (high : Int) (kx0_0 : Option Bool) : Nat → Int → Option Bool
  | 0, _ => none
  | n0 + 1, s0_0 => if decide (s0_0 < (list.length : Int)) = true then ((getI list s0_0).bind fun x4 => ((z03 x4 low high).bind fun x5 => (if x5 = true then (if decide (0 < s0_0) = true then (gd (ok64 (s0_0 - 1)) ((getI list (s0_0 - 1)).bind fun x9 => ((getI list s0_0).bind fun x10 => (if decide (x10 ≤ x9) = true then (some false) else (gd (ok64 (s0_0 + 1)) ((z3x list low high kx0_0 n0) (s0_0 + 1))))))) else (gd (ok64 (s0_0 + 1)) ((z3x list low high kx0_0 n0) (s0_0 + 1)))) else (some false)))) else (kx0_0)
def zc1 (list : List Int) (least : Int) (most : Int) (low : Int) (high : Int) : Option Bool := (z03 (list.length : Int) least most).bind fun x1 => (if x1 = true then (z3x list low high y3s FUEL 0) else (some false))
def z4d : Con := ⟨214, [.v (.sl .I) false, .v .I false, .v .I false, .v .I false, .v .I false], [(.B, true)], [], fun x => zc1 x.1 x.2.1 x.2.2.1 x.2.2.2.1 x.2.2.2.2.1⟩
def wf4 : Fs := ⟨[z0m], [], []⟩
theorem yn0 : wf4.Ok Tryz.prog := (fsK z0w fs0)
def y7z : Tmpl := ⟨[(0, .c (.s .I)), (3, .c .i), (4, .c .i), (11, .c .i)], []⟩
def y4u : Tmpl := ⟨[], []⟩
def w4l (av : AV) (x : HP z4d.ps) (n : Nat) (v : y7z.den) (K : Ks (CR z4d)) : Option (CR z4d) := z3x v.1.1 v.1.2.1 v.1.2.2.1 (y4u.at none ((), ()) (K (.exit 0))) n v.1.2.2.2.1
def y6y (av : AV) (x : HP z4d.ps) : Hdl (CR z4d) := hnd [] y7z (w4l av x)
theorem w5l : LP z4d Tryz.f214 [0] y6y := lp_ok (W := []) (H := []) (xs := [y4u]) yn0 trivial rfl (fun av x v K => by kernel_rfl) (fun av x n v K => by kernel_rfl)
theorem wm0 : z4d.Ok Tryz.prog := fn_ok (k := z4d) (fn := Tryz.f214) (W := []) (H := [y6y]) Tryz.func214 yn0 ⟨w5l, trivial⟩ rfl rfl (fun av x => by kernel_rfl)
def yc5  : Option Bool := some false
def z7u (list : List Int) (n : Int) (kx0_0 : Option Bool) : Nat → Int → Option Bool
  | 0, _ => none
  | n0 + 1, s0_0 => if decide (s0_0 < (list.length : Int)) = true then ((getI list s0_0).bind fun x2 => (if decide (x2 = n) = true then (some true) else (gd (ok64 (s0_0 + 1)) ((z7u list n kx0_0 n0) (s0_0 + 1))))) else (kx0_0)
def zf3 (list : List Int) (n : Int) : Option Bool := z7u list n yc5 FUEL 0
def z4n : Con := ⟨101, [.v (.sl .I) false, .v .I false], [(.B, true)], [], fun x => zf3 x.1 x.2.1⟩
def v2p : Fs := ⟨[], [], []⟩
theorem w3b : v2p.Ok Tryz.prog := fs0
def yr2 : Tmpl := ⟨[(0, .c (.s .I)), (1, .c .i), (5, .c .i)], []⟩
def yi3 : Tmpl := ⟨[], []⟩
def wb9 (av : AV) (x : HP z4n.ps) (n : Nat) (v : yr2.den) (K : Ks (CR z4n)) : Option (CR z4n) := z7u v.1.1 v.1.2.1 (yi3.at none ((), ()) (K (.exit 0))) n v.1.2.2.1
def yo8 (av : AV) (x : HP z4n.ps) : Hdl (CR z4n) := hnd [] yr2 (wb9 av x)
theorem wj0 : LP z4n Tryz.f101 [0] yo8 := lp_ok (W := []) (H := []) (xs := [yi3]) w3b trivial rfl (fun av x v K => by kernel_rfl) (fun av x n v K => by kernel_rfl)
theorem ye0 : z4n.Ok Tryz.prog := fn_ok (k := z4n) (fn := Tryz.f101) (W := []) (H := [yo8]) Tryz.func101 w3b ⟨wj0, trivial⟩ rfl rfl (fun av x => by kernel_rfl)
def y3p (s0_0 : Int) (bk0 : Int → Option Bool) : Option Bool := gd (ok64 (s0_0 + 1)) (bk0 (s0_0 + 1))
def z2r (t : GTask) (s0_0 : Int) (x4 : GFlow) (kx1_0 : Option Bool) : Nat → Int → Option Bool
  | 0, _ => none
  | n1 + 1, s1_0 => if decide (s1_0 < s0_0) = true then ((getI t.out s1_0).bind fun x14 => (if decide (x14.to = x4.to) = true then (some false) else (gd (ok64 (s1_0 + 1)) ((z2r t s0_0 x4 kx1_0 n1) (s1_0 + 1))))) else (kx1_0)
def y3q (s0_0 : Int) (bk0 : Int → Option Bool) : Option Bool := gd (ok64 (s0_0 + 1)) (bk0 (s0_0 + 1))
def y3r  : Option Bool := some true
def z3w (t : GTask) (places : Int) (kx0_0 : Option Bool) : Nat → Int → Option Bool
  | 0, _ => none
  | n0 + 1, s0_0 => if decide (s0_0 < (t.out.length : Int)) = true then ((getI t.out s0_0).bind fun x4 => (gd (ok64 ((t.out.length : Int) - 1)) (if decide (s0_0 = ((t.out.length : Int) - 1)) = true then (gd (ok64 (places - 1)) ((z03 x4.to 1 (places - 1)).bind fun x8 => (if x8 = true then ((z6w x4.if_).bind fun x10 => (if x10 = true then (if (true == (decide (x4.if_.op = 0))) = true then (z2r t s0_0 x4 (y3p s0_0 (z3w t places kx0_0 n0)) FUEL 0) else (some false)) else (some false))) else (some false)))) else (gd (ok64 (places - 1)) ((z03 x4.to 1 (places - 1)).bind fun x19 => (if x19 = true then ((z6w x4.if_).bind fun x21 => (if x21 = true then (if ((decide (t.split = 1)) == (decide (x4.if_.op = 0))) = true then (z2r t s0_0 x4 (y3q s0_0 (z3w t places kx0_0 n0)) FUEL 0) else (some false)) else (some false))) else (some false))))))) else (kx0_0)
def zq5 (t : GTask) (places : Int) : Option Bool := (z03 (t.out.length : Int) 1 3).bind fun x1 => (if x1 = true then (z3w t places y3r FUEL 0) else (some false))
def z10 : Con := ⟨215, [.v (.s .task) false, .v .I false], [(.B, true)], [], fun x => zq5 x.1 x.2.1⟩
def wf3 : Fs := ⟨[z0m, z97], [], []⟩
theorem y24 : wf3.Ok Tryz.prog := (fsK z0w (fsK zs2 fs0))
def y1m : Tmpl := ⟨[(1, .c .i), (2, .c (.bx 2 0)), (5, .c .i), (6, .c (.bx 6 0)), (8, .c .i)], [(2, .boxT (.s .task)), (6, .boxT (.s .flow))]⟩
def y0r : Tmpl := ⟨[(1, .c .i), (2, .c (.bx 2 0)), (5, .c .i)], [(2, .boxT (.s .task))]⟩
def yv7 (av : AV) (x : HP z10.ps) (n : Nat) (v : y1m.den) (K : Ks (CR z10)) : Option (CR z10) := z2r v.2.1 v.1.2.2.1 v.2.2.1 (y0r.at none ((v.1.1, (), v.1.2.2.1, ()), (v.2.1, ())) (K (.exit 2))) n v.1.2.2.2.2.1
def y0z (av : AV) (x : HP z10.ps) : Hdl (CR z10) := hnd [] y1m (yv7 av x)
theorem yz8 : LP z10 Tryz.f215 [0, 0] y0z := lp_ok (W := []) (H := []) (xs := [y0r]) y24 trivial rfl (fun av x v K => by kernel_rfl) (fun av x n v K => by kernel_rfl)
def y7y : Tmpl := ⟨[(1, .c .i), (2, .c (.bx 2 0)), (5, .c .i)], [(2, .boxT (.s .task))]⟩
def y4t : Tmpl := ⟨[], []⟩
def w4k (av : AV) (x : HP z10.ps) (n : Nat) (v : y7y.den) (K : Ks (CR z10)) : Option (CR z10) := z3w v.2.1 v.1.1 (y4t.at none ((), ()) (K (.exit 0))) n v.1.2.2.1
def y6x (av : AV) (x : HP z10.ps) : Hdl (CR z10) := hnd [] y7y (w4k av x)
theorem w5k : LP z10 Tryz.f215 [0] y6x := lp_ok (W := []) (H := [y0z]) (xs := [y4t]) y24 ⟨yz8, trivial⟩ rfl (fun av x v K => by kernel_rfl) (fun av x n v K => by kernel_rfl)
theorem wl9 : z10.Ok Tryz.prog := fn_ok (k := z10) (fn := Tryz.f215) (W := []) (H := [y6x]) Tryz.func215 y24 ⟨w5k, trivial⟩ rfl rfl (fun av x => by kernel_rfl)
def zy4 (t : GTask) (places : Int) (tasks : Int) : Option Bool := (z03 t.join 1 3).bind fun x1 => (if x1 = true then ((z03 t.split 1 3).bind fun x3 => (if x3 = true then (gd (ok64 (places - 1)) ((zc1 t.in_ 1 3 0 (places - 1)).bind fun x6 => (if x6 = true then ((zf3 t.in_ 1).bind fun x8 => (if x8 = true then (some false) else ((zq5 t places).bind fun x10 => (if x10 = true then (gd (ok64 (places - 1)) ((zc1 t.clear 0 places 2 (places - 1)).bind fun x13 => (if x13 = true then ((z03 t.role 1 3).bind fun x15 => (if x15 = true then (gd (ok64 (tasks - 1)) ((z03 t.apart (-1) (tasks - 1)).bind fun x18 => (if x18 = true then ((z03 t.all 1 3).bind fun x20 => (if x20 = true then ((z03 t.need 1 t.all).bind fun x22 => (some x22)) else (some false))) else (some false)))) else (some false))) else (some false)))) else (some false))))) else (some false)))) else (some false))) else (some false))
def y5l : Con := ⟨198, [.v (.s .task) false, .v .I false, .v .I false], [(.B, true)], [], fun x => zy4 x.1 x.2.1 x.2.2.1⟩
def wt8 : Fs := ⟨[z0m, z4d, z4n, z10], [], []⟩
theorem wx0 : wt8.Ok Tryz.prog := (fsK z0w (fsK wm0 (fsK ye0 (fsK wl9 fs0))))
theorem v0k : y5l.Ok Tryz.prog := fn_ok (k := y5l) (fn := Tryz.f198) (W := []) (H := []) Tryz.func198 wx0 trivial rfl rfl (fun av x => by kernel_rfl)
def yb8  : Option Bool := some true
def z7r (n : GNet) (kx0_0 : Option Bool) : Nat → Int → Option Bool
  | 0, _ => none
  | n0 + 1, s0_0 => if decide (s0_0 < (n.tasks.length : Int)) = true then ((getI n.tasks s0_0).bind fun x6 => ((zy4 x6 n.places (n.tasks.length : Int)).bind fun x7 => (if x7 = true then (gd (ok64 (s0_0 + 1)) ((z7r n kx0_0 n0) (s0_0 + 1))) else (some false)))) else (kx0_0)
def z3g (n : GNet) : Option Bool := (z03 n.places 2 8).bind fun x1 => (if x1 = true then ((z03 (n.tasks.length : Int) 1 6).bind fun x3 => (if x3 = true then (z7r n yb8 FUEL 0) else (some false))) else (some false))
def z2o : Con := ⟨161, [.v (.s .net) false], [(.B, true)], [], fun x => z3g x.1⟩
def v2l : Fs := ⟨[z0m, y5l], [], []⟩
theorem w38 : v2l.Ok Tryz.prog := (fsK z0w (fsK v0k fs0))
def yq8 : Tmpl := ⟨[(1, .c (.bx 1 0)), (3, .c .i)], [(1, .boxT (.s .net))]⟩
def yi0 : Tmpl := ⟨[], []⟩
def wb5 (av : AV) (x : HP z2o.ps) (n : Nat) (v : yq8.den) (K : Ks (CR z2o)) : Option (CR z2o) := z7r v.2.1 (yi0.at none ((), ()) (K (.exit 0))) n v.1.2.1
def yo4 (av : AV) (x : HP z2o.ps) : Hdl (CR z2o) := hnd [] yq8 (wb5 av x)
theorem wi6 : LP z2o Tryz.f161 [0] yo4 := lp_ok (W := []) (H := []) (xs := [yi0]) w38 trivial rfl (fun av x v K => by kernel_rfl) (fun av x n v K => by kernel_rfl)
theorem zs3 : z2o.Ok Tryz.prog := fn_ok (k := z2o) (fn := Tryz.f161) (W := []) (H := [yo4]) Tryz.func161 w38 ⟨wi6, trivial⟩ rfl rfl (fun av x => by kernel_rfl)
def zj9 (s1_0 : Int) (bk1 : Int → List Bool → Option (List Bool)) (l3_1 : List Bool) : Option (List Bool) := gd (ok64 (s1_0 + 1)) (bk1 (s1_0 + 1) l3_1)
def zk0 (s1_0 : Int) (bk1 : Int → List Bool → Option (List Bool)) (l3_1 : List Bool) : Option (List Bool) := gd (ok64 (s1_0 + 1)) (bk1 (s1_0 + 1) l3_1)
def zk1 (s1_0 : Int) (bk1 : Int → List Bool → Option (List Bool)) (l3_1 : List Bool) : Option (List Bool) := gd (ok64 (s1_0 + 1)) (bk1 (s1_0 + 1) l3_1)
def z1m (n : GNet) (but : Int) (s1_0 : Int) (s2_0 : Bool) (kx3_0 : List Bool → Option (List Bool)) (kx3_1 : List Bool → Option (List Bool)) (kx3_2 : List Bool → Option (List Bool)) : Nat → Int → List Bool → Option (List Bool)
  | 0, _, _ => none
  | n3 + 1, s3_0, l3_1 => (getI n.tasks s1_0).bind fun x12 => (if decide (s3_0 < (x12.out.length : Int)) = true then (if s2_0 = true then (if decide (s1_0 = but) = true then (kx3_0 l3_1) else ((getI n.tasks s1_0).bind fun x17 => ((getI x17.out s3_0).bind fun x18 => ((getI l3_1 x18.to).bind fun x19 => (gd (ok64 (s3_0 + 1)) ((z1m n but s1_0 s2_0 kx3_0 kx3_1 kx3_2 n3) (s3_0 + 1) (l3_1.set x18.to.toNat true))))))) else (kx3_1 l3_1)) else (kx3_2 l3_1))
def y1a (n : GNet) (but : Int) (s1_0 : Int) (l1_1 : List Bool) (bk1 : Int → List Bool → Option (List Bool)) (s2_0 : Bool) : Option (List Bool) := z1m n but s1_0 s2_0 (zj9 s1_0 bk1) (zk0 s1_0 bk1) (zk1 s1_0 bk1) FUEL 0 l1_1
def z28 (n : GNet) (s1_0 : Int) (l1_1 : List Bool) (kx2_0 : Bool → Option (List Bool)) : Nat → Bool → Int → Option (List Bool)
  | 0, _, _ => none
  | n2 + 1, s2_0, s2_1 => (getI n.tasks s1_0).bind fun x4 => (if decide (s2_1 < (x4.in_.length : Int)) = true then (if s2_0 = true then (gd (ok64 (s2_1 + 1)) ((z28 n s1_0 l1_1 kx2_0 n2) true (s2_1 + 1))) else ((getI n.tasks s1_0).bind fun x8 => ((getI x8.in_ s2_1).bind fun x9 => ((getI l1_1 x9).bind fun x10 => (gd (ok64 (s2_1 + 1)) ((z28 n s1_0 l1_1 kx2_0 n2) x10 (s2_1 + 1))))))) else (kx2_0 s2_0))
def y1b (s0_0 : Int) (bk0 : Int → List Bool → Option (List Bool)) (l1_1 : List Bool) : Option (List Bool) := gd (ok64 (s0_0 + 1)) (bk0 (s0_0 + 1) l1_1)
def z0k (n : GNet) (but : Int) (kx1_0 : List Bool → Option (List Bool)) : Nat → Int → List Bool → Option (List Bool)
  | 0, _, _ => none
  | n1 + 1, s1_0, l1_1 => if decide (s1_0 < (n.tasks.length : Int)) = true then (z28 n s1_0 l1_1 (y1a n but s1_0 l1_1 (z0k n but kx1_0 n1)) FUEL false 0) else (kx1_0 l1_1)
def y1c (l0_1 : List Bool) : Option (List Bool) := some l0_1
def z4x (n : GNet) (but : Int) (kx0_0 : List Bool → Option (List Bool)) : Nat → Int → List Bool → Option (List Bool)
  | 0, _, _ => none
  | n0 + 1, s0_0, l0_1 => if decide (s0_0 < n.places) = true then (z0k n but (y1b s0_0 (z4x n but kx0_0 n0)) FUEL 0 l0_1) else (kx0_0 l0_1)
def zj8 (n : GNet) (marked : List Bool) (but : Int) : Option (List Bool) := gd (([] : List Bool).length + marked.length ≤ SMALL) (z4x n but y1c FUEL 0 (([] : List Bool) ++ marked))
def z06 : Con := ⟨216, [.v (.s .net) false, .v (.sl .B) false, .v .I false], [((.sl .B), true)], [], fun x => zj8 x.1 x.2.1 x.2.2.1⟩
def w7i : Fs := ⟨[], [], []⟩
theorem z93 : w7i.Ok Tryz.prog := fs0
def zs7 : Tmpl := ⟨[(2, .c .i), (3, .c (.bx 3 0)), (7, .c (.ref 15)), (8, .c .i), (9, .c .i), (10, .c .b), (11, .c .i)], [(3, .boxT (.s .net)), (15, .arr .B true)]⟩
def zn0 : Tmpl := ⟨[(2, .c .i), (3, .c (.bx 3 0)), (7, .c (.ref 15)), (8, .c .i), (9, .c .i), (10, .c .b)], [(3, .boxT (.s .net)), (15, .arr .B true)]⟩
def y8r (av : AV) (x : HP z06.ps) (n : Nat) (v : zs7.den) (K : Ks (CR z06)) : Option (CR z06) := z28 v.2.1 v.1.2.2.2.2.1 v.2.2.1 (fun s2_0 => zn0.at none ((v.1.1, (), (), v.1.2.2.2.1, v.1.2.2.2.2.1, s2_0, ()), (v.2.1, v.2.2.1, ())) (K (.exit 4))) n v.1.2.2.2.2.2.1 v.1.2.2.2.2.2.2.1
def zr0 (av : AV) (x : HP z06.ps) : Hdl (CR z06) := hnd [] zs7 (y8r av x)
theorem ya5 : LP z06 Tryz.f216 [0, 0, 0] zr0 := lp_ok (W := []) (H := []) (xs := [zn0]) z93 trivial rfl (fun av x v K => by kernel_rfl) (fun av x n v K => by kernel_rfl)
def zs8 : Tmpl := ⟨[(2, .c .i), (3, .c (.bx 3 0)), (7, .c (.ref 15)), (8, .c .i), (9, .c .i), (10, .c .b), (12, .c .i)], [(3, .boxT (.s .net)), (15, .arr .B true)]⟩
def z64 : Tmpl := ⟨[(2, .c .i), (3, .c (.bx 3 0)), (7, .c (.ref 15)), (8, .c .i), (9, .c .i)], [(3, .boxT (.s .net)), (15, .arr .B true)]⟩
def y8s (av : AV) (x : HP z06.ps) (n : Nat) (v : zs8.den) (K : Ks (CR z06)) : Option (CR z06) := z1m v.2.1 v.1.1 v.1.2.2.2.2.1 v.1.2.2.2.2.2.1 (fun l3_1 => z64.at none ((v.1.1, (), (), v.1.2.2.2.1, v.1.2.2.2.2.1, ()), (v.2.1, l3_1, ())) (K (.exit 6))) (fun l3_1 => z64.at none ((v.1.1, (), (), v.1.2.2.2.1, v.1.2.2.2.2.1, ()), (v.2.1, l3_1, ())) (K (.exit 6))) (fun l3_1 => z64.at none ((v.1.1, (), (), v.1.2.2.2.1, v.1.2.2.2.2.1, ()), (v.2.1, l3_1, ())) (K (.exit 6))) n v.1.2.2.2.2.2.2.1 v.2.2.1
def zr1 (av : AV) (x : HP z06.ps) : Hdl (CR z06) := hnd [] zs8 (y8s av x)
theorem ya6 : LP z06 Tryz.f216 [0, 0, 1] zr1 := lp_ok (W := []) (H := []) (xs := [z64]) z93 trivial rfl (fun av x v K => by kernel_rfl) (fun av x n v K => by kernel_rfl)
def y0n : Tmpl := ⟨[(2, .c .i), (3, .c (.bx 3 0)), (7, .c (.ref 15)), (8, .c .i), (9, .c .i)], [(3, .boxT (.s .net)), (15, .arr .B true)]⟩
def zv3 : Tmpl := ⟨[(2, .c .i), (3, .c (.bx 3 0)), (7, .c (.ref 15)), (8, .c .i)], [(3, .boxT (.s .net)), (15, .arr .B true)]⟩
def yr7 (av : AV) (x : HP z06.ps) (n : Nat) (v : y0n.den) (K : Ks (CR z06)) : Option (CR z06) := z0k v.2.1 v.1.1 (fun l1_1 => zv3.at none ((v.1.1, (), (), v.1.2.2.2.1, ()), (v.2.1, l1_1, ())) (K (.exit 2))) n v.1.2.2.2.2.1 v.2.2.1
def y04 (av : AV) (x : HP z06.ps) : Hdl (CR z06) := hnd [] y0n (yr7 av x)
theorem yt9 : LP z06 Tryz.f216 [0, 0] y04 := lp_ok (W := []) (H := [zr0, zr1]) (xs := [zv3]) z93 ⟨ya5, ya6, trivial⟩ rfl (fun av x v K => by kernel_rfl) (fun av x n v K => by kernel_rfl)
def y47 : Tmpl := ⟨[(2, .c .i), (3, .c (.bx 3 0)), (7, .c (.ref 15)), (8, .c .i)], [(3, .boxT (.s .net)), (15, .arr .B true)]⟩
def y1u : Tmpl := ⟨[(7, .c (.ref 15))], [(15, .arr .B true)]⟩
def w19 (av : AV) (x : HP z06.ps) (n : Nat) (v : y47.den) (K : Ks (CR z06)) : Option (CR z06) := z4x v.2.1 v.1.1 (fun l0_1 => y1u.at none (((), ()), (l0_1, ())) (K (.exit 0))) n v.1.2.2.2.1 v.2.2.1
def y3b (av : AV) (x : HP z06.ps) : Hdl (CR z06) := hnd [] y47 (w19 av x)
theorem w29 : LP z06 Tryz.f216 [0] y3b := lp_ok (W := []) (H := [y04]) (xs := [y1u]) z93 ⟨yt9, trivial⟩ rfl (fun av x v K => by kernel_rfl) (fun av x n v K => by kernel_rfl)
theorem w96 : z06.Ok Tryz.prog := fn_ok (k := z06) (fn := Tryz.f216) (W := []) (H := [y3b]) Tryz.func216 z93 ⟨w29, trivial⟩ rfl rfl (fun av x => by kernel_rfl)
def zx1 (kind : Int) : Option Bool := (z0c kind 1 3).bind fun x1 => (some x1)
def y5f : Con := ⟨177, [.v .I false], [(.B, true)], [], fun x => zx1 x.1⟩
def wr5 : Fs := ⟨[z25], [], []⟩
theorem wv8 : wr5.Ok Tryz.prog := (fsK z2s fs0)
theorem v06 : y5f.Ok Tryz.prog := fn_ok (k := y5f) (fn := Tryz.f177) (W := []) (H := []) Tryz.func177 wv8 trivial rfl rfl (fun av x => by kernel_rfl)
def zi6 (role : Int) : Option Bool := (z0c role 1 3).bind fun x1 => (some x1)
def zw0 : Con := ⟨151, [.v .I false], [(.B, true)], [], fun x => zi6 x.1⟩
def wr6 : Fs := ⟨[z25], [], []⟩
theorem wv9 : wr6.Ok Tryz.prog := (fsK z2s fs0)
theorem w09 : zw0.Ok Tryz.prog := fn_ok (k := zw0) (fn := Tryz.f151) (W := []) (H := []) Tryz.func151 wv9 trivial rfl rfl (fun av x => by kernel_rfl)
def y2l (places : Int) (tasks : Int) : Option Bool := (z0c places 2 8).bind fun x1 => (if x1 = true then ((z0c tasks 1 6).bind fun x3 => (some x3)) else (some false))
def y28 : Con := ⟨122, [.v .I false, .v .I false], [(.B, true)], [], fun x => y2l x.1 x.2.1⟩
def wd5 : Fs := ⟨[z25], [], []⟩
theorem wg5 : wd5.Ok Tryz.prog := (fsK z2s fs0)
theorem wk5 : y28.Ok Tryz.prog := fn_ok (k := y28) (fn := Tryz.f122) (W := []) (H := []) Tryz.func122 wg5 trivial rfl rfl (fun av x => by kernel_rfl)
def z0n (n : GNet) (t : Int) : Option Bool := gd (ok64 ((n.tasks.length : Int) - 1)) ((z0c t 0 ((n.tasks.length : Int) - 1)).bind fun x2 => (some x2))
def z1s : Con := ⟨96, [.v (.s .net) false, .v .I false], [(.B, true)], [], fun x => z0n x.1 x.2.1⟩
def y8x : Fs := ⟨[z25], [], []⟩
theorem y91 : y8x.Ok Tryz.prog := (fsK z2s fs0)
theorem z4q : z1s.Ok Tryz.prog := fn_ok (k := z1s) (fn := Tryz.f96) (W := []) (H := []) Tryz.func96 y91 trivial rfl rfl (fun av x => by kernel_rfl)
def z77 (t : GTask) : Option GTask := (z0g t.in_).bind fun x1 => (gd (([] : List GFlow).length + t.out.length ≤ SMALL) ((z0g t.clear).bind fun x3 => (some (GTask.mk t.join t.split x1 (([] : List GFlow) ++ t.out) x3 t.role t.apart t.all t.need))))
def zb0 : Con := ⟨207, [.v (.s .task) false], [((.s .task), true)], [], fun x => z77 x.1⟩
def yk6 : Fs := ⟨[z1d], [], []⟩
theorem yl1 : yk6.Ok Tryz.prog := (fsK z2m fs0)
theorem yl5 : zb0.Ok Tryz.prog := fn_ok (k := zb0) (fn := Tryz.f207) (W := []) (H := []) Tryz.func207 yl1 trivial rfl rfl (fun av x => by kernel_rfl)
def z8w (p0_3 : Int) (l0_1 : List GTask) : Option GNet := some (GNet.mk p0_3 l0_1)
def z2d (p0_0 : List GTask) (p0_1 : Int) (kx0_0 : List GTask → Option GNet) : Nat → Int → List GTask → Option GNet
  | 0, _, _ => none
  | n0 + 1, s0_0, l0_1 => if decide (s0_0 < p0_1) = true then ((getI p0_0 s0_0).bind fun x2 => ((z77 x2).bind fun x3 => (gd (l0_1.length + [x3].length ≤ SMALL) (gd (ok64 (s0_0 + 1)) ((z2d p0_0 p0_1 kx0_0 n0) (s0_0 + 1) (l0_1 ++ [x3])))))) else (kx0_0 l0_1)
def z85 (n : GNet) : Option GNet := z2d n.tasks (n.tasks.length : Int) (z8w n.places) FUEL 0 ([] : List GTask)
def z1b : Con := ⟨184, [.v (.s .net) false], [((.s .net), true)], [], fun x => z85 x.1⟩
def ys4 : Fs := ⟨[zb0], [], []⟩
theorem zz8 : ys4.Ok Tryz.prog := (fsK yl5 fs0)
def zs5 : Tmpl := ⟨[(2, .c (.bx 2 0)), (3, .c (.bx 3 0)), (10, .c (.s (.s .task))), (11, .c .i), (12, .c .i)], [(2, .box [.i, .nl]), (3, .box [.i, .ref 510301]), (510301, .arr (.s .task) true)]⟩
def zm8 : Tmpl := ⟨[(2, .c (.bx 2 0)), (3, .c (.bx 3 0))], [(2, .box [.i, .nl]), (3, .box [.i, .ref 510301]), (510301, .arr (.s .task) true)]⟩
def y8p (av : AV) (x : HP z1b.ps) (n : Nat) (v : zs5.den) (K : Ks (CR z1b)) : Option (CR z1b) := z2d v.1.2.2.1 v.1.2.2.2.1 (fun l0_1 => zm8.at none (((), (), ()), ((v.2.1.1, (), ()), (v.2.2.1.1, (), ()), l0_1, ())) (K (.exit 0))) n v.1.2.2.2.2.1 v.2.2.2.1
def zq8 (av : AV) (x : HP z1b.ps) : Hdl (CR z1b) := hnd [.b 3 1 510301 (.s .task)] zs5 (y8p av x)
theorem ya3 : LP z1b Tryz.f184 [0] zq8 := lp_ok (W := []) (H := []) (xs := [zm8]) zz8 trivial rfl (fun av x v K => by kernel_rfl) (fun av x n v K => by kernel_rfl)
theorem yu8 : z1b.Ok Tryz.prog := fn_ok (k := z1b) (fn := Tryz.f184) (W := []) (H := [zq8]) Tryz.func184 zz8 ⟨ya3, trivial⟩ rfl rfl (fun av x => by kernel_rfl)
def yb7  : Option Bool := some true
def z7q (marks : List Int) (kx0_0 : Option Bool) : Nat → Int → Option Bool
  | 0, _ => none
  | n0 + 1, s0_0 => if decide (s0_0 < (marks.length : Int)) = true then ((getI marks s0_0).bind fun x5 => ((z03 x5 0 4).bind fun x6 => (if x6 = true then (gd (ok64 (s0_0 + 1)) ((z7q marks kx0_0 n0) (s0_0 + 1))) else (some false)))) else (kx0_0)
def z9e (n : GNet) (marks : List Int) : Option Bool := (z3g n).bind fun x1 => (if x1 = true then (if decide ((marks.length : Int) = n.places) = true then (z7q marks yb7 FUEL 0) else (some false)) else (some false))
def z3c : Con := ⟨87, [.v (.s .net) false, .v (.sl .I) false], [(.B, true)], [], fun x => z9e x.1 x.2.1⟩
def v2k : Fs := ⟨[z2o, z0m], [], []⟩
theorem w37 : v2k.Ok Tryz.prog := (fsK zs3 (fsK z0w fs0))
def yq7 : Tmpl := ⟨[(1, .c (.s .I)), (5, .c .i)], []⟩
def yh9 : Tmpl := ⟨[], []⟩
def wb4 (av : AV) (x : HP z3c.ps) (n : Nat) (v : yq7.den) (K : Ks (CR z3c)) : Option (CR z3c) := z7q v.1.1 (yh9.at none ((), ()) (K (.exit 0))) n v.1.2.1
def yo3 (av : AV) (x : HP z3c.ps) : Hdl (CR z3c) := hnd [] yq7 (wb4 av x)
theorem wi5 : LP z3c Tryz.f87 [0] yo3 := lp_ok (W := []) (H := []) (xs := [yh9]) w37 trivial rfl (fun av x v K => by kernel_rfl) (fun av x n v K => by kernel_rfl)
theorem y1h : z3c.Ok Tryz.prog := fn_ok (k := z3c) (fn := Tryz.f87) (W := []) (H := [yo3]) Tryz.func87 w37 ⟨wi5, trivial⟩ rfl rfl (fun av x => by kernel_rfl)
def zd3 (s0_0 : Bool) (s0_1 : Bool) : Option (Bool × Bool) := some (s0_0, s0_1)
def z1z (marks : List Int) (list : List Int) (kx0_0 : Bool → Bool → Option (Bool × Bool)) : Nat → Bool → Bool → Int → Option (Bool × Bool)
  | 0, _, _, _ => none
  | n0 + 1, s0_0, s0_1, s0_2 => if decide (s0_2 < (list.length : Int)) = true then (if s0_0 = true then (if s0_1 = true then ((getI list s0_2).bind fun x4 => ((getI marks x4).bind fun x5 => (gd (ok64 (s0_2 + 1)) ((z1z marks list kx0_0 n0) true (decide (0 < x5)) (s0_2 + 1))))) else (gd (ok64 (s0_2 + 1)) ((z1z marks list kx0_0 n0) true false (s0_2 + 1)))) else ((getI list s0_2).bind fun x8 => ((getI marks x8).bind fun x9 => (if s0_1 = true then ((getI list s0_2).bind fun x11 => ((getI marks x11).bind fun x12 => (gd (ok64 (s0_2 + 1)) ((z1z marks list kx0_0 n0) (decide (0 < x9)) (decide (0 < x12)) (s0_2 + 1))))) else (gd (ok64 (s0_2 + 1)) ((z1z marks list kx0_0 n0) (decide (0 < x9)) false (s0_2 + 1))))))) else (kx0_0 s0_0 s0_1)
def zy5 (marks : List Int) (list : List Int) : Option (Bool × Bool) := z1z marks list zd3 FUEL false true 0
def z5h : Con := ⟨200, [.v (.sl .I) false, .v (.sl .I) false], [(.B, true), (.B, true)], [], fun x => zy5 x.1 x.2.1⟩
def wu0 : Fs := ⟨[], [], []⟩
theorem yy6 : wu0.Ok Tryz.prog := fs0
def yg0 : Tmpl := ⟨[(0, .c (.s .I)), (1, .c (.s .I)), (6, .c .b), (7, .c .b), (8, .c .i)], []⟩
def y8f : Tmpl := ⟨[(6, .c .b), (7, .c .b)], []⟩
def w6o (av : AV) (x : HP z5h.ps) (n : Nat) (v : yg0.den) (K : Ks (CR z5h)) : Option (CR z5h) := z1z v.1.1 v.1.2.1 (fun s0_0 s0_1 => y8f.at none ((s0_0, s0_1, ()), ()) (K (.exit 0))) n v.1.2.2.1 v.1.2.2.2.1 v.1.2.2.2.2.1
def y9p (av : AV) (x : HP z5h.ps) : Hdl (CR z5h) := hnd [] yg0 (w6o av x)
theorem w8p : LP z5h Tryz.f200 [0] y9p := lp_ok (W := []) (H := []) (xs := [y8f]) yy6 trivial rfl (fun av x v K => by kernel_rfl) (fun av x n v K => by kernel_rfl)
theorem v0l : z5h.Ok Tryz.prog := fn_ok (k := z5h) (fn := Tryz.f200) (W := []) (H := [y9p]) Tryz.func200 yy6 ⟨w8p, trivial⟩ rfl rfl (fun av x => by kernel_rfl)
def z4z (s1_0 : Int) (bk1 : Int → List Bool → Option Bool) (l2_1 : List Bool) : Option Bool := gd (ok64 (s1_0 + 1)) (bk1 (s1_0 + 1) l2_1)
def z34 (p2_0 : List GFlow) (kx2_0 : List Bool → Option Bool) : Nat → Int → List Bool → Option Bool
  | 0, _, _ => none
  | n2 + 1, s2_0, l2_1 => if decide (s2_0 < (p2_0.length : Int)) = true then ((getI p2_0 s2_0).bind fun x15 => ((getI l2_1 x15.to).bind fun x16 => (gd (ok64 (s2_0 + 1)) ((z34 p2_0 kx2_0 n2) (s2_0 + 1) (l2_1.set x15.to.toNat true))))) else (kx2_0 l2_1)
def zk4  : Option Bool := some false
def z2b (n : GNet) (marks : List Int) (t : Int) (x19 : (List Bool)) (kx3_0 : Option Bool) : Nat → Int → Option Bool
  | 0, _ => none
  | n3 + 1, s3_0 => (getI n.tasks t).bind fun x20 => (if decide (s3_0 < (x20.in_.length : Int)) = true then ((getI n.tasks t).bind fun x22 => ((getI x22.in_ s3_0).bind fun x23 => ((getI marks x23).bind fun x24 => (if decide (x24 = 0) = true then ((getI n.tasks t).bind fun x26 => ((getI x26.in_ s3_0).bind fun x27 => ((getI x19 x27).bind fun x28 => (if x28 = true then (some true) else (gd (ok64 (s3_0 + 1)) ((z2b n marks t x19 kx3_0 n3) (s3_0 + 1))))))) else (gd (ok64 (s3_0 + 1)) ((z2b n marks t x19 kx3_0 n3) (s3_0 + 1))))))) else (kx3_0))
def z29 (n : GNet) (marks : List Int) (t : Int) (l1_1 : List Bool) : Option Bool := (zj8 n l1_1 t).bind fun x19 => (z2b n marks t x19 zk4 FUEL 0)
def z18 (n : GNet) (busy : List GItem) (kx1_0 : List Bool → Option Bool) : Nat → Int → List Bool → Option Bool
  | 0, _, _ => none
  | n1 + 1, s1_0, l1_1 => if decide (s1_0 < (busy.length : Int)) = true then ((getI busy s1_0).bind fun x12 => ((getI n.tasks x12.task).bind fun x13 => (z34 x13.out (z4z s1_0 (z18 n busy kx1_0 n1)) FUEL 0 l1_1))) else (kx1_0 l1_1)
def z4y (n : GNet) (marks : List Int) (busy : List GItem) (t : Int) (l0_1 : List Bool) : Option Bool := z18 n busy (z29 n marks t) FUEL 0 l0_1
def z2a (n : GNet) (marks : List Int) (t : Int) (kx0_0 : List Bool → Option Bool) : Nat → Int → List Bool → Option Bool
  | 0, _, _ => none
  | n0 + 1, s0_0, l0_1 => if decide (s0_0 < n.places) = true then ((getI marks s0_0).bind fun x3 => (if decide (0 < x3) = true then ((getI n.tasks t).bind fun x5 => ((zf3 x5.in_ s0_0).bind fun x6 => ((getI l0_1 s0_0).bind fun x7 => (gd (ok64 (s0_0 + 1)) ((z2a n marks t kx0_0 n0) (s0_0 + 1) (l0_1.set s0_0.toNat (!x6))))))) else ((getI l0_1 s0_0).bind fun x9 => (gd (ok64 (s0_0 + 1)) ((z2a n marks t kx0_0 n0) (s0_0 + 1) (l0_1.set s0_0.toNat false)))))) else (kx0_0 l0_1)
def zk3 (n : GNet) (marks : List Int) (busy : List GItem) (t : Int) : Option Bool := gd ((0 : Int) ≤ n.places ∧ n.places ≤ (1000000000 : Int)) (z2a n marks t (z4y n marks busy t) FUEL 0 (List.replicate n.places.toNat false))
def z07 : Con := ⟨201, [.v (.s .net) false, .v (.sl .I) false, .v (.sl (.s .item)) false, .v .I false], [(.B, true)], [], fun x => zk3 x.1 x.2.1 x.2.2.1 x.2.2.2.1⟩
def w7j : Fs := ⟨[z4n, z06], [], []⟩
theorem z94 : w7j.Ok Tryz.prog := (fsK ye0 (fsK w96 fs0))
def y0o : Tmpl := ⟨[(1, .c (.s .I)), (2, .c (.s (.s .item))), (3, .c .i), (4, .c (.bx 4 0)), (9, .c (.ref 18)), (11, .c .i), (12, .c (.s (.s .flow))), (13, .c .i)], [(4, .boxT (.s .net)), (18, .arr .B true)]⟩
def zv4 : Tmpl := ⟨[(1, .c (.s .I)), (2, .c (.s (.s .item))), (3, .c .i), (4, .c (.bx 4 0)), (9, .c (.ref 18)), (11, .c .i)], [(4, .boxT (.s .net)), (18, .arr .B true)]⟩
def yr8 (av : AV) (x : HP z07.ps) (n : Nat) (v : y0o.den) (K : Ks (CR z07)) : Option (CR z07) := z34 v.1.2.2.2.2.2.2.1 (fun l2_1 => zv4.at none ((v.1.1, v.1.2.1, v.1.2.2.1, (), (), v.1.2.2.2.2.2.1, ()), (v.2.1, l2_1, ())) (K (.exit 4))) n v.1.2.2.2.2.2.2.2.1 v.2.2.1
def y05 (av : AV) (x : HP z07.ps) : Hdl (CR z07) := hnd [] y0o (yr8 av x)
theorem yu0 : LP z07 Tryz.f201 [1, 0] y05 := lp_ok (W := []) (H := []) (xs := [zv4]) z94 trivial rfl (fun av x v K => by kernel_rfl) (fun av x n v K => by kernel_rfl)
def y48 : Tmpl := ⟨[(1, .c (.s .I)), (2, .c (.s (.s .item))), (3, .c .i), (4, .c (.bx 4 0)), (9, .c (.ref 18)), (10, .c .i)], [(4, .boxT (.s .net)), (18, .arr .B true)]⟩
def y1v : Tmpl := ⟨[(1, .c (.s .I)), (2, .c (.s (.s .item))), (3, .c .i), (4, .c (.bx 4 0)), (9, .c (.ref 18))], [(4, .boxT (.s .net)), (18, .arr .B true)]⟩
def w1a (av : AV) (x : HP z07.ps) (n : Nat) (v : y48.den) (K : Ks (CR z07)) : Option (CR z07) := z2a v.2.1 v.1.1 v.1.2.2.1 (fun l0_1 => y1v.at none ((v.1.1, v.1.2.1, v.1.2.2.1, (), (), ()), (v.2.1, l0_1, ())) (K (.exit 0))) n v.1.2.2.2.2.2.1 v.2.2.1
def y3c (av : AV) (x : HP z07.ps) : Hdl (CR z07) := hnd [] y48 (w1a av x)
theorem w2a : LP z07 Tryz.f201 [0] y3c := lp_ok (W := []) (H := []) (xs := [y1v]) z94 trivial rfl (fun av x v K => by kernel_rfl) (fun av x n v K => by kernel_rfl)
def y49 : Tmpl := ⟨[(1, .c (.s .I)), (2, .c (.s (.s .item))), (3, .c .i), (4, .c (.bx 4 0)), (9, .c (.ref 18)), (11, .c .i)], [(4, .boxT (.s .net)), (18, .arr .B true)]⟩
def y1w : Tmpl := ⟨[(1, .c (.s .I)), (3, .c .i), (4, .c (.bx 4 0)), (9, .c (.ref 18))], [(4, .boxT (.s .net)), (18, .arr .B true)]⟩
def w1b (av : AV) (x : HP z07.ps) (n : Nat) (v : y49.den) (K : Ks (CR z07)) : Option (CR z07) := z18 v.2.1 v.1.2.1 (fun l1_1 => y1w.at none ((v.1.1, v.1.2.2.1, (), (), ()), (v.2.1, l1_1, ())) (K (.exit 2))) n v.1.2.2.2.2.2.1 v.2.2.1
def y3d (av : AV) (x : HP z07.ps) : Hdl (CR z07) := hnd [] y49 (w1b av x)
theorem w2b : LP z07 Tryz.f201 [1] y3d := lp_ok (W := []) (H := [y05]) (xs := [y1w]) z94 ⟨yu0, trivial⟩ rfl (fun av x v K => by kernel_rfl) (fun av x n v K => by kernel_rfl)
def y4a : Tmpl := ⟨[(1, .c (.s .I)), (3, .c .i), (4, .c (.bx 4 0)), (14, .c (.ref 76)), (15, .c .i)], [(4, .boxT (.s .net)), (76, .arr .B true)]⟩
def y1x : Tmpl := ⟨[], []⟩
def w1c (av : AV) (x : HP z07.ps) (n : Nat) (v : y4a.den) (K : Ks (CR z07)) : Option (CR z07) := z2b v.2.1 v.1.1 v.1.2.1 v.2.2.1 (y1x.at none ((), ()) (K (.exit 6))) n v.1.2.2.2.2.1
def y3e (av : AV) (x : HP z07.ps) : Hdl (CR z07) := hnd [] y4a (w1c av x)
theorem w2c : LP z07 Tryz.f201 [2] y3e := lp_ok (W := []) (H := []) (xs := [y1x]) z94 trivial rfl (fun av x v K => by kernel_rfl) (fun av x n v K => by kernel_rfl)
theorem w97 : z07.Ok Tryz.prog := fn_ok (k := z07) (fn := Tryz.f201) (W := []) (H := [y3c, y3d, y3e]) Tryz.func201 z94 ⟨w2a, w2b, w2c, trivial⟩ rfl rfl (fun av x => by kernel_rfl)
def y1d (n : GNet) (marks : List Int) (busy : List GItem) (t : Int) : Option Bool := (getI n.tasks t).bind fun x1 => ((zy5 marks x1.in_).bind fun x2 => ((getI n.tasks t).bind fun x3 => (if decide (x3.join = 1) = true then (some x2.2) else (if decide (x3.join = 2) = true then (some x2.1) else (if x2.1 = true then (if x2.2 = true then (some true) else ((zk3 n marks busy t).bind fun x8 => (some (!x8)))) else (some false))))))
def ya1 : Con := ⟨165, [.v (.s .net) false, .v (.sl .I) false, .v (.sl (.s .item)) false, .v .I false], [(.B, true)], [], fun x => y1d x.1 x.2.1 x.2.2.1 x.2.2.2.1⟩
def v2q : Fs := ⟨[z5h, z07], [], []⟩
theorem v34 : v2q.Ok Tryz.prog := (fsK v0l (fsK w97 fs0))
theorem v41 : ya1.Ok Tryz.prog := fn_ok (k := ya1) (fn := Tryz.f165) (W := []) (H := []) Tryz.func165 v34 trivial rfl rfl (fun av x => by kernel_rfl)
def y76  : Option Bool := some true
def z6f (n : GNet) (busy : List GItem) (kx0_0 : Option Bool) : Nat → Int → Option Bool
  | 0, _ => none
  | n0 + 1, s0_0 => if decide (s0_0 < (busy.length : Int)) = true then ((getI busy s0_0).bind fun x3 => (gd (ok64 ((n.tasks.length : Int) - 1)) ((z03 x3.task 0 ((n.tasks.length : Int) - 1)).bind fun x5 => (if x5 = true then ((getI busy s0_0).bind fun x7 => ((z03 x7.who 1 4).bind fun x8 => (if x8 = true then ((getI busy s0_0).bind fun x10 => ((getI busy s0_0).bind fun x11 => ((getI n.tasks x11.task).bind fun x12 => (gd (ok64 (x12.need - 1)) ((z03 x10.did 0 (x12.need - 1)).bind fun x14 => (if x14 = true then (gd (ok64 (s0_0 + 1)) ((z6f n busy kx0_0 n0) (s0_0 + 1))) else (some false))))))) else (some false)))) else (some false))))) else (kx0_0)
def zk2 (n : GNet) (busy : List GItem) : Option Bool := if decide (6 < (busy.length : Int)) = true then (some false) else (z6f n busy y76 FUEL 0)
def z4e : Con := ⟨88, [.v (.s .net) false, .v (.sl (.s .item)) false], [(.B, true)], [], fun x => zk2 x.1 x.2.1⟩
def wt9 : Fs := ⟨[z0m], [], []⟩
theorem yy5 : wt9.Ok Tryz.prog := (fsK z0w fs0)
def yf9 : Tmpl := ⟨[(1, .c (.s (.s .item))), (2, .c (.bx 2 0)), (5, .c .i)], [(2, .boxT (.s .net))]⟩
def y8e : Tmpl := ⟨[], []⟩
def w6n (av : AV) (x : HP z4e.ps) (n : Nat) (v : yf9.den) (K : Ks (CR z4e)) : Option (CR z4e) := z6f v.2.1 v.1.1 (y8e.at none ((), ()) (K (.exit 0))) n v.1.2.2.1
def y9o (av : AV) (x : HP z4e.ps) : Hdl (CR z4e) := hnd [] yf9 (w6n av x)
theorem w8o : LP z4e Tryz.f88 [0] y9o := lp_ok (W := []) (H := []) (xs := [y8e]) yy5 trivial rfl (fun av x v K => by kernel_rfl) (fun av x n v K => by kernel_rfl)
theorem w0g : z4e.Ok Tryz.prog := fn_ok (k := z4e) (fn := Tryz.f88) (W := []) (H := [y9o]) Tryz.func88 yy5 ⟨w8o, trivial⟩ rfl rfl (fun av x => by kernel_rfl)
def zi8 (n : GNet) (marks : List Int) (busy : List GItem) (t : Int) : Option Bool := (z9e n marks).bind fun x1 => (if x1 = true then ((zk2 n busy).bind fun x3 => (if x3 = true then (gd (ok64 ((n.tasks.length : Int) - 1)) ((z03 t 0 ((n.tasks.length : Int) - 1)).bind fun x6 => (if x6 = true then ((y1d n marks busy t).bind fun x8 => (some x8)) else (some false)))) else (some false))) else (some false))
def zw3 : Con := ⟨100, [.v (.s .net) false, .v (.sl .I) false, .v (.sl (.s .item)) false, .v .I false], [(.B, true)], [], fun x => zi8 x.1 x.2.1 x.2.2.1 x.2.2.2.1⟩
def ws5 : Fs := ⟨[z3c, z4e, z0m, ya1], [], []⟩
theorem ww3 : ws5.Ok Tryz.prog := (fsK y1h (fsK w0g (fsK z0w (fsK v41 fs0))))
theorem w0d : zw3.Ok Tryz.prog := fn_ok (k := zw3) (fn := Tryz.f100) (W := []) (H := []) Tryz.func100 ww3 trivial rfl rfl (fun av x => by kernel_rfl)
def zi9 (l0_1 : List Int) : Option (List Int) := some l0_1
def z32 (n : GNet) (marks : List Int) (busy : List GItem) (kx0_0 : List Int → Option (List Int)) : Nat → Int → List Int → Option (List Int)
  | 0, _, _ => none
  | n0 + 1, s0_0, l0_1 => if decide (s0_0 < (n.tasks.length : Int)) = true then ((zi8 n marks busy s0_0).bind fun x2 => (if x2 = true then (gd (l0_1.length + [s0_0].length ≤ SMALL) (gd (ok64 (s0_0 + 1)) ((z32 n marks busy kx0_0 n0) (s0_0 + 1) (l0_1 ++ [s0_0])))) else (gd (ok64 (s0_0 + 1)) ((z32 n marks busy kx0_0 n0) (s0_0 + 1) l0_1)))) else (kx0_0 l0_1)
def z31 (n : GNet) (marks : List Int) (busy : List GItem) : Option (List Int) := z32 n marks busy zi9 FUEL 0 ([] : List Int)
def z1t : Con := ⟨99, [.v (.s .net) false, .v (.sl .I) false, .v (.sl (.s .item)) false], [((.sl .I), true)], [], fun x => z31 x.1 x.2.1 x.2.2.1⟩
def w7b : Fs := ⟨[zw3], [], []⟩
theorem y94 : w7b.Ok Tryz.prog := (fsK w0d fs0)
def y41 : Tmpl := ⟨[(1, .c (.s .I)), (2, .c (.s (.s .item))), (3, .c (.bx 3 0)), (7, .c (.ref 9)), (8, .c .i)], [(3, .boxT (.s .net)), (9, .arr .I true)]⟩
def y1o : Tmpl := ⟨[(7, .c (.ref 9))], [(9, .arr .I true)]⟩
def w13 (av : AV) (x : HP z1t.ps) (n : Nat) (v : y41.den) (K : Ks (CR z1t)) : Option (CR z1t) := z32 v.2.1 v.1.1 v.1.2.1 (fun l0_1 => y1o.at none (((), ()), (l0_1, ())) (K (.exit 0))) n v.1.2.2.2.2.1 v.2.2.1
def y35 (av : AV) (x : HP z1t.ps) : Hdl (CR z1t) := hnd [] y41 (w13 av x)
theorem w23 : LP z1t Tryz.f99 [0] y35 := lp_ok (W := []) (H := []) (xs := [y1o]) y94 trivial rfl (fun av x v K => by kernel_rfl) (fun av x n v K => by kernel_rfl)
theorem y0g : z1t.Ok Tryz.prog := fn_ok (k := z1t) (fn := Tryz.f99) (W := []) (H := [y35]) Tryz.func99 y94 ⟨w23, trivial⟩ rfl rfl (fun av x => by kernel_rfl)
def y3k (l0_1 : List Int) (x10 : Int) (x13 : Int) : Option (List Int) := some (l0_1.set x10.toNat (x13 - 1))
def y3l (l0_1 : List Int) : Option (List Int) := some l0_1
def z3q (n : GNet) (t : Int) (kx0_0 : List Int → Int → Int → Option (List Int)) (kx0_1 : List Int → Option (List Int)) : Nat → Int → List Int → Option (List Int)
  | 0, _, _ => none
  | n0 + 1, s0_0, l0_1 => (getI n.tasks t).bind fun x7 => (if decide (s0_0 < (x7.in_.length : Int)) = true then ((getI n.tasks t).bind fun x9 => ((getI x9.in_ s0_0).bind fun x10 => ((getI l0_1 x10).bind fun x11 => (if decide (0 < x11) = true then ((getI l0_1 x10).bind fun x13 => (gd (ok64 (x13 - 1)) ((getI l0_1 x10).bind fun x15 => ((getI n.tasks t).bind fun x16 => (if decide (x16.join = 2) = true then (kx0_0 l0_1 x10 x13) else (gd (ok64 (s0_0 + 1)) ((z3q n t kx0_0 kx0_1 n0) (s0_0 + 1) (l0_1.set x10.toNat (x13 - 1))))))))) else (gd (ok64 (s0_0 + 1)) ((z3q n t kx0_0 kx0_1 n0) (s0_0 + 1) l0_1)))))) else (kx0_1 l0_1))
def zp6 (n : GNet) (marks : List Int) (t : Int) : Option (List Int) := (z9e n marks).bind fun x1 => (if x1 = true then (gd (ok64 ((n.tasks.length : Int) - 1)) ((z03 t 0 ((n.tasks.length : Int) - 1)).bind fun x4 => (if x4 = true then (gd (([] : List Int).length + marks.length ≤ SMALL) (z3q n t y3k y3l FUEL 0 (([] : List Int) ++ marks))) else (some ([] : List Int))))) else (some ([] : List Int)))
def z44 : Con := ⟨103, [.v (.s .net) false, .v (.sl .I) false, .v .I false], [((.sl .I), true)], [], fun x => zp6 x.1 x.2.1 x.2.2.1⟩
def wd9 : Fs := ⟨[z3c, z0m], [], []⟩
theorem ym1 : wd9.Ok Tryz.prog := (fsK y1h (fsK z0w fs0))
def y7m : Tmpl := ⟨[(2, .c .i), (3, .c (.bx 3 0)), (7, .c (.ref 26)), (8, .c .i)], [(3, .boxT (.s .net)), (26, .arr .I true)]⟩
def zo9 : Tmpl := ⟨[(7, .c (.ref 26))], [(26, .arr .I true)]⟩
def w48 (av : AV) (x : HP z44.ps) (n : Nat) (v : y7m.den) (K : Ks (CR z44)) : Option (CR z44) := z3q v.2.1 v.1.1 (fun l0_1 x10 x13 => zo9.at none (((), ()), ((l0_1.set x10.toNat (x13 - 1)), ())) (K (.exit 0))) (fun l0_1 => zo9.at none (((), ()), (l0_1, ())) (K (.exit 0))) n v.1.2.2.2.1 v.2.2.1
def y6l (av : AV) (x : HP z44.ps) : Hdl (CR z44) := hnd [] y7m (w48 av x)
theorem w58 : LP z44 Tryz.f103 [0] y6l := lp_ok (W := []) (H := []) (xs := [zo9]) ym1 trivial rfl (fun av x v K => by kernel_rfl) (fun av x n v K => by kernel_rfl)
theorem wk8 : z44.Ok Tryz.prog := fn_ok (k := z44) (fn := Tryz.f103) (W := []) (H := [y6l]) Tryz.func103 ym1 ⟨w58, trivial⟩ rfl rfl (fun av x => by kernel_rfl)
def z9c (who : Int) : Option Bool := (z0c who 1 4).bind fun x1 => (some x1)
def zh6 : Con := ⟨97, [.v .I false], [(.B, true)], [], fun x => z9c x.1⟩
def w79 : Fs := ⟨[z25], [], []⟩
theorem w7z : w79.Ok Tryz.prog := (fsK z2s fs0)
theorem yd4 : zh6.Ok Tryz.prog := fn_ok (k := zh6) (fn := Tryz.f97) (W := []) (H := []) Tryz.func97 w7z trivial rfl rfl (fun av x => by kernel_rfl)
def zj0 (l0_1 : List Int) (x8 : GFlow) : Option (List Int) := some (l0_1 ++ [x8.to])
def zj1 (l0_1 : List Int) (x13 : GFlow) : Option (List Int) := some (l0_1 ++ [x13.to])
def zj2 (l0_1 : List Int) (x18 : GFlow) : Option (List Int) := some (l0_1 ++ [x18.to])
def y0e (l0_1 : List Int) : Option (List Int) := some l0_1
def z1v (t : GTask) (data : List Int) (kx0_0 : List Int → GFlow → Option (List Int)) (kx0_1 : List Int → GFlow → Option (List Int)) (kx0_2 : List Int → GFlow → Option (List Int)) (kx0_3 : List Int → Option (List Int)) : Nat → Int → List Int → Option (List Int)
  | 0, _, _ => none
  | n0 + 1, s0_0, l0_1 => if decide (s0_0 < (t.out.length : Int)) = true then ((getI t.out s0_0).bind fun x2 => ((z1e x2.if_ data).bind fun x3 => (if x3 = true then (if decide (t.split = 3) = true then (gd (ok64 ((t.out.length : Int) - 1)) (if decide (s0_0 < ((t.out.length : Int) - 1)) = true then ((getI t.out s0_0).bind fun x8 => (gd (l0_1.length + [x8.to].length ≤ SMALL) (if decide (t.split = 2) = true then (kx0_0 l0_1 x8) else (gd (ok64 (s0_0 + 1)) ((z1v t data kx0_0 kx0_1 kx0_2 kx0_3 n0) (s0_0 + 1) (l0_1 ++ [x8.to])))))) else (if decide ((l0_1.length : Int) = 0) = true then ((getI t.out s0_0).bind fun x13 => (gd (l0_1.length + [x13.to].length ≤ SMALL) (if decide (t.split = 2) = true then (kx0_1 l0_1 x13) else (gd (ok64 (s0_0 + 1)) ((z1v t data kx0_0 kx0_1 kx0_2 kx0_3 n0) (s0_0 + 1) (l0_1 ++ [x13.to])))))) else (gd (ok64 (s0_0 + 1)) ((z1v t data kx0_0 kx0_1 kx0_2 kx0_3 n0) (s0_0 + 1) l0_1))))) else ((getI t.out s0_0).bind fun x18 => (gd (l0_1.length + [x18.to].length ≤ SMALL) (if decide (t.split = 2) = true then (kx0_2 l0_1 x18) else (gd (ok64 (s0_0 + 1)) ((z1v t data kx0_0 kx0_1 kx0_2 kx0_3 n0) (s0_0 + 1) (l0_1 ++ [x18.to]))))))) else (gd (ok64 (s0_0 + 1)) ((z1v t data kx0_0 kx0_1 kx0_2 kx0_3 n0) (s0_0 + 1) l0_1))))) else (kx0_3 l0_1)
def y19 (t : GTask) (data : List Int) : Option (List Int) := z1v t data zj0 zj1 zj2 y0e FUEL 0 ([] : List Int)
def z6q : Con := ⟨205, [.v (.s .task) false, .v (.sl .I) false], [((.sl .I), true)], [], fun x => y19 x.1 x.2.1⟩
def v2o : Fs := ⟨[z4l], [], []⟩
theorem w3a : v2o.Ok Tryz.prog := (fsK z7w fs0)
def yr1 : Tmpl := ⟨[(1, .c (.s .I)), (2, .c (.bx 2 0)), (5, .c (.ref 7)), (6, .c .i)], [(2, .boxT (.s .task)), (7, .arr .I true)]⟩
def z9l : Tmpl := ⟨[(5, .c (.ref 49))], [(49, .arr .I true)]⟩
def wb8 (av : AV) (x : HP z6q.ps) (n : Nat) (v : yr1.den) (K : Ks (CR z6q)) : Option (CR z6q) := z1v v.2.1 v.1.1 (fun l0_1 x8 => z9l.at none (((), ()), ((l0_1 ++ [x8.to]), ())) (K (.exit 0))) (fun l0_1 x13 => z9l.at none (((), ()), ((l0_1 ++ [x13.to]), ())) (K (.exit 0))) (fun l0_1 x18 => z9l.at none (((), ()), ((l0_1 ++ [x18.to]), ())) (K (.exit 0))) (fun l0_1 => z9l.at none (((), ()), (l0_1, ())) (K (.exit 0))) n v.1.2.2.2.1 v.2.2.1
def yo7 (av : AV) (x : HP z6q.ps) : Hdl (CR z6q) := hnd [] yr1 (wb8 av x)
theorem wi9 : LP z6q Tryz.f205 [0] yo7 := lp_ok (W := []) (H := []) (xs := [z9l]) w3a trivial rfl (fun av x v K => by kernel_rfl) (fun av x n v K => by kernel_rfl)
theorem v40 : z6q.Ok Tryz.prog := fn_ok (k := z6q) (fn := Tryz.f205) (W := []) (H := [yo7]) Tryz.func205 w3a ⟨wi9, trivial⟩ rfl rfl (fun av x => by kernel_rfl)
def z9y (l1_1 : List Int) : Option ((List Int) × Bool) := some (l1_1, true)
def z5w (x16 : (List Int)) (kx1_0 : List Int → Option ((List Int) × Bool)) : Nat → Int → List Int → Option ((List Int) × Bool)
  | 0, _, _ => none
  | n1 + 1, s1_0, l1_1 => if decide (s1_0 < (x16.length : Int)) = true then ((getI x16 s1_0).bind fun x18 => ((getI l1_1 x18).bind fun x19 => (if decide (x19 = 4) = true then (some (([] : List Int), false)) else ((getI x16 s1_0).bind fun x21 => ((getI x16 s1_0).bind fun x22 => ((getI l1_1 x22).bind fun x23 => (gd (ok64 (x23 + 1)) ((getI l1_1 x21).bind fun x25 => (gd (ok64 (s1_0 + 1)) ((z5w x16 kx1_0 n1) (s1_0 + 1) (l1_1.set x21.toNat (x23 + 1)))))))))))) else (kx1_0 l1_1)
def z9x (n : GNet) (t : Int) (data : List Int) (l0_1 : List Int) : Option ((List Int) × Bool) := (getI n.tasks t).bind fun x15 => ((y19 x15 data).bind fun x16 => (z5w x16 z9y FUEL 0 l0_1))
def z5v (n : GNet) (t : Int) (kx0_0 : List Int → Option ((List Int) × Bool)) : Nat → Int → List Int → Option ((List Int) × Bool)
  | 0, _, _ => none
  | n0 + 1, s0_0, l0_1 => (getI n.tasks t).bind fun x9 => (if decide (s0_0 < (x9.clear.length : Int)) = true then ((getI n.tasks t).bind fun x11 => ((getI x11.clear s0_0).bind fun x12 => ((getI l0_1 x12).bind fun x13 => (gd (ok64 (s0_0 + 1)) ((z5v n t kx0_0 n0) (s0_0 + 1) (l0_1.set x12.toNat 0)))))) else (kx0_0 l0_1))
def zp7 (n : GNet) (marks : List Int) (t : Int) (data : List Int) : Option ((List Int) × Bool) := (z9e n marks).bind fun x1 => (if x1 = true then (gd (ok64 ((n.tasks.length : Int) - 1)) ((z03 t 0 ((n.tasks.length : Int) - 1)).bind fun x4 => (if x4 = true then ((z2q data).bind fun x6 => (if x6 = true then (gd (([] : List Int).length + marks.length ≤ SMALL) (z5v n t (z9x n t data) FUEL 0 (([] : List Int) ++ marks))) else (some (([] : List Int), false)))) else (some (([] : List Int), false))))) else (some (([] : List Int), false)))
def z0z : Con := ⟨172, [.v (.s .net) false, .v (.sl .I) false, .v .I false, .v (.sl .I) false], [((.sl .I), true), (.B, true)], [], fun x => zp7 x.1 x.2.1 x.2.2.1 x.2.2.2.1⟩
def we0 : Fs := ⟨[z3c, z0m, z19, z6q], [], []⟩
theorem y23 : we0.Ok Tryz.prog := (fsK y1h (fsK z0w (fsK z72 (fsK v40 fs0))))
def y7n : Tmpl := ⟨[(2, .c .i), (3, .c (.s .I)), (4, .c (.bx 4 0)), (10, .c (.ref 35)), (11, .c .i)], [(4, .boxT (.s .net)), (35, .arr .I true)]⟩
def y4j : Tmpl := ⟨[(2, .c .i), (3, .c (.s .I)), (4, .c (.bx 4 0)), (10, .c (.ref 35))], [(4, .boxT (.s .net)), (35, .arr .I true)]⟩
def w49 (av : AV) (x : HP z0z.ps) (n : Nat) (v : y7n.den) (K : Ks (CR z0z)) : Option (CR z0z) := z5v v.2.1 v.1.1 (fun l0_1 => y4j.at none ((v.1.1, v.1.2.1, (), (), ()), (v.2.1, l0_1, ())) (K (.exit 0))) n v.1.2.2.2.2.1 v.2.2.1
def y6m (av : AV) (x : HP z0z.ps) : Hdl (CR z0z) := hnd [] y7n (w49 av x)
theorem w59 : LP z0z Tryz.f172 [0] y6m := lp_ok (W := []) (H := []) (xs := [y4j]) y23 trivial rfl (fun av x v K => by kernel_rfl) (fun av x n v K => by kernel_rfl)
def y7o : Tmpl := ⟨[(10, .c (.ref 35)), (12, .c (.ref 64)), (13, .c .i)], [(35, .arr .I true), (64, .arr .I true)]⟩
def y4k : Tmpl := ⟨[(10, .c (.ref 35))], [(35, .arr .I true)]⟩
def w4a (av : AV) (x : HP z0z.ps) (n : Nat) (v : y7o.den) (K : Ks (CR z0z)) : Option (CR z0z) := z5w v.2.2.1 (fun l1_1 => y4k.at none (((), ()), (l1_1, ())) (K (.exit 2))) n v.1.2.2.1 v.2.1
def y6n (av : AV) (x : HP z0z.ps) : Hdl (CR z0z) := hnd [] y7o (w4a av x)
theorem w5a : LP z0z Tryz.f172 [1] y6n := lp_ok (W := []) (H := []) (xs := [y4k]) y23 trivial rfl (fun av x v K => by kernel_rfl) (fun av x n v K => by kernel_rfl)
theorem wk9 : z0z.Ok Tryz.prog := fn_ok (k := z0z) (fn := Tryz.f172) (W := []) (H := [y6m, y6n]) Tryz.func172 y23 ⟨w59, w5a, trivial⟩ rfl rfl (fun av x => by kernel_rfl)
def yb9  : Option Bool := some true
def z7s (people : List Int) (kx0_0 : Option Bool) : Nat → Int → Option Bool
  | 0, _ => none
  | n0 + 1, s0_0 => if decide (s0_0 < (people.length : Int)) = true then ((getI people s0_0).bind fun x4 => ((z03 x4 0 7).bind fun x5 => (if x5 = true then (gd (ok64 (s0_0 + 1)) ((z7s people kx0_0 n0) (s0_0 + 1))) else (some false)))) else (kx0_0)
def z9f (people : List Int) : Option Bool := (z03 (people.length : Int) 1 4).bind fun x1 => (if x1 = true then (z7s people yb9 FUEL 0) else (some false))
def z3d : Con := ⟨44, [.v (.sl .I) false], [(.B, true)], [], fun x => z9f x.1⟩
def v2m : Fs := ⟨[z0m], [], []⟩
theorem w39 : v2m.Ok Tryz.prog := (fsK z0w fs0)
def yq9 : Tmpl := ⟨[(0, .c (.s .I)), (3, .c .i)], []⟩
def yi1 : Tmpl := ⟨[], []⟩
def wb6 (av : AV) (x : HP z3d.ps) (n : Nat) (v : yq9.den) (K : Ks (CR z3d)) : Option (CR z3d) := z7s v.1.1 (yi1.at none ((), ()) (K (.exit 0))) n v.1.2.1
def yo5 (av : AV) (x : HP z3d.ps) : Hdl (CR z3d) := hnd [] yq9 (wb6 av x)
theorem wi7 : LP z3d Tryz.f44 [0] yo5 := lp_ok (W := []) (H := []) (xs := [yi1]) w39 trivial rfl (fun av x v K => by kernel_rfl) (fun av x n v K => by kernel_rfl)
theorem y1i : z3d.Ok Tryz.prog := fn_ok (k := z3d) (fn := Tryz.f44) (W := []) (H := [yo5]) Tryz.func44 w39 ⟨wi7, trivial⟩ rfl rfl (fun av x => by kernel_rfl)
def z6d (s0_0 : Int) : Option Bool := gd ((2 : Int) ≠ 0) (some (decide ((Int.tmod s0_0 2) = 1)))
def z2k (role : Int) (kx0_0 : Int → Option Bool) : Nat → Int → Int → Option Bool
  | 0, _, _ => none
  | n0 + 1, s0_0, s0_1 => if decide (s0_1 < role) = true then (gd ((2 : Int) ≠ 0 ∧ ok64 (Int.tdiv s0_0 2)) (gd (ok64 (s0_1 + 1)) ((z2k role kx0_0 n0) (Int.tdiv s0_0 2) (s0_1 + 1)))) else (kx0_0 s0_0)
def zx9 (people : List Int) (who : Int) (role : Int) : Option Bool := (z9f people).bind fun x1 => (if x1 = true then ((z03 who 1 (people.length : Int)).bind fun x3 => (if x3 = true then ((z03 role 1 3).bind fun x5 => (if x5 = true then (gd (ok64 (who - 1)) ((getI people (who - 1)).bind fun x8 => (z2k role z6d FUEL x8 1))) else (some false))) else (some false))) else (some false))
def z5g : Con := ⟨166, [.v (.sl .I) false, .v .I false, .v .I false], [(.B, true)], [], fun x => zx9 x.1 x.2.1 x.2.2.1⟩
def ws9 : Fs := ⟨[z3d, z0m], [], []⟩
theorem yy3 : ws9.Ok Tryz.prog := (fsK y1i (fsK z0w fs0))
def yf6 : Tmpl := ⟨[(2, .c .i), (7, .c .i), (8, .c .i)], []⟩
def y8b : Tmpl := ⟨[(7, .c .i)], []⟩
def w6k (av : AV) (x : HP z5g.ps) (n : Nat) (v : yf6.den) (K : Ks (CR z5g)) : Option (CR z5g) := z2k v.1.1 (fun s0_0 => y8b.at none ((s0_0, ()), ()) (K (.exit 0))) n v.1.2.1 v.1.2.2.1
def y9l (av : AV) (x : HP z5g.ps) : Hdl (CR z5g) := hnd [] yf6 (w6k av x)
theorem w8l : LP z5g Tryz.f166 [0] y9l := lp_ok (W := []) (H := []) (xs := [y8b]) yy3 trivial rfl (fun av x v K => by kernel_rfl) (fun av x n v K => by kernel_rfl)
theorem v0f : z5g.Ok Tryz.prog := fn_ok (k := z5g) (fn := Tryz.f166) (W := []) (H := [y9l]) Tryz.func166 yy3 ⟨w8l, trivial⟩ rfl rfl (fun av x => by kernel_rfl)
def y74  : Option Bool := some false
def z53 (did : List GDid) (who : Int) (task : Int) (kx0_0 : Option Bool) : Nat → Int → Option Bool
  | 0, _ => none
  | n0 + 1, s0_0 => if decide (s0_0 < (did.length : Int)) = true then ((getI did s0_0).bind fun x2 => (if decide (x2.who = who) = true then ((getI did s0_0).bind fun x4 => (if decide (x4.task = task) = true then (some true) else (gd (ok64 (s0_0 + 1)) ((z53 did who task kx0_0 n0) (s0_0 + 1))))) else (gd (ok64 (s0_0 + 1)) ((z53 did who task kx0_0 n0) (s0_0 + 1))))) else (kx0_0)
def zx8 (did : List GDid) (who : Int) (task : Int) : Option Bool := z53 did who task y74 FUEL 0
def z5f : Con := ⟨167, [.v (.sl (.s .did)) false, .v .I false, .v .I false], [(.B, true)], [], fun x => zx8 x.1 x.2.1 x.2.2.1⟩
def ws8 : Fs := ⟨[], [], []⟩
theorem yy2 : ws8.Ok Tryz.prog := fs0
def yf5 : Tmpl := ⟨[(0, .c (.s (.s .did))), (1, .c .i), (2, .c .i), (7, .c .i)], []⟩
def y8a : Tmpl := ⟨[], []⟩
def w6j (av : AV) (x : HP z5f.ps) (n : Nat) (v : yf5.den) (K : Ks (CR z5f)) : Option (CR z5f) := z53 v.1.1 v.1.2.1 v.1.2.2.1 (y8a.at none ((), ()) (K (.exit 0))) n v.1.2.2.2.1
def y9k (av : AV) (x : HP z5f.ps) : Hdl (CR z5f) := hnd [] yf5 (w6j av x)
theorem w8k : LP z5f Tryz.f167 [0] y9k := lp_ok (W := []) (H := []) (xs := [y8a]) yy2 trivial rfl (fun av x v K => by kernel_rfl) (fun av x n v K => by kernel_rfl)
theorem v0e : z5f.Ok Tryz.prog := fn_ok (k := z5f) (fn := Tryz.f167) (W := []) (H := [y9k]) Tryz.func167 yy2 ⟨w8k, trivial⟩ rfl rfl (fun av x => by kernel_rfl)
def y75 (n : GNet) (people : List Int) (did : List GDid) (t : Int) (s0_0 : Int) (l0_1 : List Int) (bk0 : Int → List Int → Option (List Int)) (s1_0 : Bool) : Option (List Int) := (getI n.tasks t).bind fun x18 => ((zx9 people s0_0 x18.role).bind fun x19 => (if x19 = true then (if s1_0 = true then (gd (ok64 (s0_0 + 1)) (bk0 (s0_0 + 1) l0_1)) else ((getI n.tasks t).bind fun x23 => ((zx8 did s0_0 x23.apart).bind fun x24 => (if x24 = true then (gd (ok64 (s0_0 + 1)) (bk0 (s0_0 + 1) l0_1)) else (gd (l0_1.length + [s0_0].length ≤ SMALL) (gd (ok64 (s0_0 + 1)) (bk0 (s0_0 + 1) (l0_1 ++ [s0_0])))))))) else (gd (ok64 (s0_0 + 1)) (bk0 (s0_0 + 1) l0_1))))
def z2l (n : GNet) (busy : List GItem) (t : Int) (s0_0 : Int) (kx1_0 : Bool → Option (List Int)) : Nat → Bool → Int → Option (List Int)
  | 0, _, _ => none
  | n1 + 1, s1_0, s1_1 => if decide (s1_1 < (busy.length : Int)) = true then (if s1_0 = true then (gd (ok64 (s1_1 + 1)) ((z2l n busy t s0_0 kx1_0 n1) true (s1_1 + 1))) else ((getI busy s1_1).bind fun x12 => (if decide (x12.who = s0_0) = true then ((getI busy s1_1).bind fun x14 => ((getI n.tasks t).bind fun x15 => (gd (ok64 (s1_1 + 1)) ((z2l n busy t s0_0 kx1_0 n1) (decide (x14.task = x15.apart)) (s1_1 + 1))))) else (gd (ok64 (s1_1 + 1)) ((z2l n busy t s0_0 kx1_0 n1) false (s1_1 + 1)))))) else (kx1_0 s1_0)
def zt5 (l0_1 : List Int) : Option (List Int) := some l0_1
def z6e (n : GNet) (people : List Int) (did : List GDid) (busy : List GItem) (t : Int) (kx0_0 : List Int → Option (List Int)) : Nat → Int → List Int → Option (List Int)
  | 0, _, _ => none
  | n0 + 1, s0_0, l0_1 => if decide (s0_0 ≤ (people.length : Int)) = true then (z2l n busy t s0_0 (y75 n people did t s0_0 l0_1 (z6e n people did busy t kx0_0 n0)) FUEL false 0) else (kx0_0 l0_1)
def z9z (n : GNet) (people : List Int) (did : List GDid) (busy : List GItem) (t : Int) : Option (List Int) := (z3g n).bind fun x1 => (if x1 = true then ((z9f people).bind fun x3 => (if x3 = true then (gd (ok64 ((n.tasks.length : Int) - 1)) ((z03 t 0 ((n.tasks.length : Int) - 1)).bind fun x6 => (if x6 = true then (z6e n people did busy t zt5 FUEL 1 ([] : List Int)) else (some ([] : List Int))))) else (some ([] : List Int)))) else (some ([] : List Int)))
def z13 : Con := ⟨102, [.v (.s .net) false, .v (.sl .I) false, .v (.sl (.s .did)) false, .v (.sl (.s .item)) false, .v .I false], [((.sl .I), true)], [], fun x => z9z x.1 x.2.1 x.2.2.1 x.2.2.2.1 x.2.2.2.2.1⟩
def wt0 : Fs := ⟨[z2o, z3d, z0m, z5g, z5f], [], []⟩
theorem y55 : wt0.Ok Tryz.prog := (fsK zs3 (fsK y1i (fsK z0w (fsK v0f (fsK v0e fs0)))))
def y42 : Tmpl := ⟨[(1, .c (.s .I)), (2, .c (.s (.s .did))), (3, .c (.s (.s .item))), (4, .c .i), (5, .c (.bx 5 0)), (11, .c (.ref 15)), (12, .c .i), (13, .c .b), (14, .c .i)], [(5, .boxT (.s .net)), (15, .arr .I true)]⟩
def y1p : Tmpl := ⟨[(1, .c (.s .I)), (2, .c (.s (.s .did))), (3, .c (.s (.s .item))), (4, .c .i), (5, .c (.bx 5 0)), (11, .c (.ref 15)), (12, .c .i), (13, .c .b)], [(5, .boxT (.s .net)), (15, .arr .I true)]⟩
def w14 (av : AV) (x : HP z13.ps) (n : Nat) (v : y42.den) (K : Ks (CR z13)) : Option (CR z13) := z2l v.2.1 v.1.2.2.1 v.1.2.2.2.1 v.1.2.2.2.2.2.2.1 (fun s1_0 => y1p.at none ((v.1.1, v.1.2.1, v.1.2.2.1, v.1.2.2.2.1, (), (), v.1.2.2.2.2.2.2.1, s1_0, ()), (v.2.1, v.2.2.1, ())) (K (.exit 2))) n v.1.2.2.2.2.2.2.2.1 v.1.2.2.2.2.2.2.2.2.1
def y36 (av : AV) (x : HP z13.ps) : Hdl (CR z13) := hnd [] y42 (w14 av x)
theorem w24 : LP z13 Tryz.f102 [0, 0] y36 := lp_ok (W := []) (H := []) (xs := [y1p]) y55 trivial rfl (fun av x v K => by kernel_rfl) (fun av x n v K => by kernel_rfl)
def yf7 : Tmpl := ⟨[(1, .c (.s .I)), (2, .c (.s (.s .did))), (3, .c (.s (.s .item))), (4, .c .i), (5, .c (.bx 5 0)), (11, .c (.ref 15)), (12, .c .i)], [(5, .boxT (.s .net)), (15, .arr .I true)]⟩
def y8c : Tmpl := ⟨[(11, .c (.ref 15))], [(15, .arr .I true)]⟩
def w6l (av : AV) (x : HP z13.ps) (n : Nat) (v : yf7.den) (K : Ks (CR z13)) : Option (CR z13) := z6e v.2.1 v.1.1 v.1.2.1 v.1.2.2.1 v.1.2.2.2.1 (fun l0_1 => y8c.at none (((), ()), (l0_1, ())) (K (.exit 0))) n v.1.2.2.2.2.2.2.1 v.2.2.1
def y9m (av : AV) (x : HP z13.ps) : Hdl (CR z13) := hnd [] yf7 (w6l av x)
theorem w8m : LP z13 Tryz.f102 [0] y9m := lp_ok (W := []) (H := [y36]) (xs := [y8c]) y55 ⟨w24, trivial⟩ rfl (fun av x v K => by kernel_rfl) (fun av x n v K => by kernel_rfl)
theorem w0e : z13.Ok Tryz.prog := fn_ok (k := z13) (fn := Tryz.f102) (W := []) (H := [y9m]) Tryz.func102 y55 ⟨w8m, trivial⟩ rfl rfl (fun av x => by kernel_rfl)
def z9w (n : GNet) (data : List Int) : Option GCase := (z3g n).bind fun x1 => (if x1 = true then ((z2q data).bind fun x3 => (if x3 = true then (gd ((0 : Int) ≤ n.places ∧ n.places ≤ (1000000000 : Int)) (gd (([] : List Int).length + data.length ≤ SMALL) ((getI (List.replicate n.places.toNat (0 : Int)) 0).bind fun x7 => (some (GCase.mk 1 ((List.replicate n.places.toNat (0 : Int)).set (0 : Int).toNat 1) [] (([] : List Int) ++ data) []))))) else (some (GCase.mk 0 [] [] [] [])))) else (some (GCase.mk 0 [] [] [] [])))
def zw1 : Con := ⟨155, [.v (.s .net) false, .v (.sl .I) false], [((.s .kase), true)], [], fun x => z9w x.1 x.2.1⟩
def ws3 : Fs := ⟨[z2o, z19], [], []⟩
theorem ww1 : ws3.Ok Tryz.prog := (fsK zs3 (fsK z72 fs0))
theorem w0a : zw1.Ok Tryz.prog := fn_ok (k := zw1) (fn := Tryz.f155) (W := []) (H := []) Tryz.func155 ww1 trivial rfl rfl (fun av x => by kernel_rfl)
def zi7 (c : GCase) : Option Bool := if decide (c.state = 1) = true then ((getI c.marks 1).bind fun x20 => (some (decide (x20 = 0)))) else (if decide ((c.busy.length : Int) = 0) = true then ((getI c.marks 1).bind fun x22 => (some ((decide (c.state = 2)) == (decide (0 < x22))))) else (some false))
def z7k (n : GNet) (c : GCase) (kx0_0 : Option Bool) : Nat → Int → Option Bool
  | 0, _ => none
  | n0 + 1, s0_0 => if decide (s0_0 < (c.did.length : Int)) = true then ((getI c.did s0_0).bind fun x11 => (gd (ok64 ((n.tasks.length : Int) - 1)) ((z03 x11.task 0 ((n.tasks.length : Int) - 1)).bind fun x13 => (if x13 = true then ((getI c.did s0_0).bind fun x15 => ((z03 x15.who 1 4).bind fun x16 => (if x16 = true then (gd (ok64 (s0_0 + 1)) ((z7k n c kx0_0 n0) (s0_0 + 1))) else (some false)))) else (some false))))) else (kx0_0)
def z9d (n : GNet) (c : GCase) : Option Bool := (z9e n c.marks).bind fun x1 => (if x1 = true then ((zk2 n c.busy).bind fun x3 => (if x3 = true then ((z2q c.data).bind fun x5 => (if x5 = true then (if decide (60 < (c.did.length : Int)) = true then (some false) else ((z03 c.state 1 3).bind fun x8 => (if x8 = true then (z7k n c (zi7 c) FUEL 0) else (some false)))) else (some false))) else (some false))) else (some false))
def z3b : Con := ⟨25, [.v (.s .net) false, .v (.s .kase) false], [(.B, true)], [], fun x => z9d x.1 x.2.1⟩
def v2f : Fs := ⟨[z3c, z4e, z19, z0m], [], []⟩
theorem w33 : v2f.Ok Tryz.prog := (fsK y1h (fsK w0g (fsK z72 (fsK z0w fs0))))
def yq3 : Tmpl := ⟨[(2, .c (.bx 2 0)), (3, .c (.bx 3 0)), (5, .c .i)], [(2, .boxT (.s .net)), (3, .boxT (.s .kase))]⟩
def yh5 : Tmpl := ⟨[(3, .c (.bx 3 0))], [(3, .boxT (.s .kase))]⟩
def wb0 (av : AV) (x : HP z3b.ps) (n : Nat) (v : yq3.den) (K : Ks (CR z3b)) : Option (CR z3b) := z7k v.2.1 v.2.2.1 (yh5.at none (((), ()), (v.2.2.1, ())) (K (.exit 0))) n v.1.2.2.1
def yn9 (av : AV) (x : HP z3b.ps) : Hdl (CR z3b) := hnd [] yq3 (wb0 av x)
theorem wi1 : LP z3b Tryz.f25 [0] yn9 := lp_ok (W := []) (H := []) (xs := [yh5]) w33 trivial rfl (fun av x v K => by kernel_rfl) (fun av x n v K => by kernel_rfl)
theorem y1g : z3b.Ok Tryz.prog := fn_ok (k := z3b) (fn := Tryz.f25) (W := []) (H := [yn9]) Tryz.func25 w33 ⟨wi1, trivial⟩ rfl rfl (fun av x => by kernel_rfl)
def z70 (c : GCase) : Option GCase := gd (([] : List Int).length + c.marks.length ≤ SMALL) (gd (([] : List GItem).length + c.busy.length ≤ SMALL) (gd (([] : List Int).length + c.data.length ≤ SMALL) (gd (([] : List GDid).length + c.did.length ≤ SMALL) (some (GCase.mk c.state (([] : List Int) ++ c.marks) (([] : List GItem) ++ c.busy) (([] : List Int) ++ c.data) (([] : List GDid) ++ c.did))))))
def z9p : Con := ⟨86, [.v (.s .kase) false], [((.s .kase), true)], [], fun x => z70 x.1⟩
def wu1 : Fs := ⟨[], [], []⟩
theorem wx1 : wu1.Ok Tryz.prog := fs0
theorem zz1 : z9p.Ok Tryz.prog := fn_ok (k := z9p) (fn := Tryz.f86) (W := []) (H := []) Tryz.func86 wx1 trivial rfl rfl (fun av x => by kernel_rfl)
def z7l (n : GNet) (people : List Int) (c : GCase) (t : Int) (who : Int) : Option (GCase × Bool) := (z70 c).bind fun x1 => ((z9d n c).bind fun x2 => (if x2 = true then (if decide (c.state = 1) = true then ((zi8 n c.marks c.busy t).bind fun x5 => (if x5 = true then ((z9z n people c.did c.busy t).bind fun x7 => ((zf3 x7 who).bind fun x8 => (if x8 = true then (if decide ((c.busy.length : Int) = 6) = true then (some (x1, false)) else ((zp6 n c.marks t).bind fun x11 => (gd (x1.busy.length + [(GItem.mk t who 0)].length ≤ SMALL) (some ((GCase.mk x1.state x11 (x1.busy ++ [(GItem.mk t who 0)]) x1.data x1.did), true))))) else (some (x1, false))))) else (some (x1, false)))) else (some (x1, false))) else (some (x1, false))))
def zh7 : Con := ⟨32, [.v (.s .net) false, .v (.sl .I) false, .v (.s .kase) false, .v .I false, .v .I false], [((.s .kase), true), (.B, true)], [], fun x => z7l x.1 x.2.1 x.2.2.1 x.2.2.2.1 x.2.2.2.2.1⟩
def w7a : Fs := ⟨[z9p, z3b, zw3, z13, z4n, z44], [], []⟩
theorem w80 : w7a.Ok Tryz.prog := (fsK zz1 (fsK y1g (fsK w0d (fsK w0e (fsK ye0 (fsK wk8 fs0))))))
theorem yd5 : zh7.Ok Tryz.prog := fn_ok (k := zh7) (fn := Tryz.f32) (W := []) (H := []) Tryz.func32 w80 trivial rfl rfl (fun av x => by kernel_rfl)
def zb9 (n : GNet) (c : GCase) (k : Int) (v : Int) (num : Int) : Option (GCase × Bool) := (z70 c).bind fun x1 => ((z9d n c).bind fun x2 => (if x2 = true then (if decide (c.state = 1) = true then (gd (ok64 ((c.busy.length : Int) - 1)) ((z03 k 0 ((c.busy.length : Int) - 1)).bind fun x6 => (if x6 = true then ((z03 v (-1) 2).bind fun x8 => (if x8 = true then ((z03 num (-99) 99).bind fun x10 => (if x10 = true then (if decide ((c.did.length : Int) = 60) = true then (some (x1, false)) else ((getI c.busy k).bind fun x13 => ((z8a c.data v num).bind fun x14 => (gd (ok64 (x13.did + 1)) ((getI x1.busy k).bind fun x16 => (gd (ok64 (x13.did + 1)) ((getI n.tasks x13.task).bind fun x18 => (if decide ((x13.did + 1) < x18.need) = true then (some ((GCase.mk x1.state x1.marks (x1.busy.set k.toNat (GItem.mk x16.task x16.who (x13.did + 1))) x14 x1.did), true)) else ((zp7 n c.marks x13.task x14).bind fun x20 => (if x20.2 = true then (gd ((0 : Int) ≤ k ∧ k ≤ (c.busy.length : Int)) (gd (([] : List GItem).length + (c.busy.take k.toNat).length ≤ SMALL) (gd (ok64 (k + 1)) (gd ((0 : Int) ≤ (k + 1) ∧ (k + 1) ≤ (c.busy.length : Int)) (gd ((([] : List GItem) ++ (c.busy.take k.toNat)).length + (c.busy.drop (k + 1).toNat).length ≤ SMALL) (gd (x1.did.length + [(GDid.mk x13.task x13.who)].length ≤ SMALL) ((getI x20.1 1).bind fun x28 => (if decide (0 < x28) = true then (some ((GCase.mk 2 x20.1 ([] : List GItem) x14 (x1.did ++ [(GDid.mk x13.task x13.who)])), true)) else (some ((GCase.mk x1.state x20.1 ((([] : List GItem) ++ (c.busy.take k.toNat)) ++ (c.busy.drop (k + 1).toNat)) x14 (x1.did ++ [(GDid.mk x13.task x13.who)])), true)))))))))) else ((z70 c).bind fun x30 => (some (x30, false))))))))))))) else (some (x1, false)))) else (some (x1, false)))) else (some (x1, false))))) else (some (x1, false))) else (some (x1, false))))
def zp1 : Con := ⟨112, [.v (.s .net) false, .v (.s .kase) false, .v .I false, .v .I false, .v .I false], [((.s .kase), true), (.B, true)], [], fun x => zb9 x.1 x.2.1 x.2.2.1 x.2.2.2.1 x.2.2.2.2.1⟩
def wd8 : Fs := ⟨[z9p, z3b, z0m, zw2, z0z], [], []⟩
theorem wg7 : wd8.Ok Tryz.prog := (fsK zz1 (fsK y1g (fsK z0w (fsK w0b (fsK wk9 fs0)))))
theorem yp2 : zp1.Ok Tryz.prog := fn_ok (k := zp1) (fn := Tryz.f112) (W := []) (H := []) Tryz.func112 wg7 trivial rfl rfl (fun av x => by kernel_rfl)
def zp5 (n : GNet) (c : GCase) : Option (GCase × Bool) := (z70 c).bind fun x1 => ((z9d n c).bind fun x2 => (if x2 = true then (if decide (c.state = 1) = true then (some ((GCase.mk 3 x1.marks ([] : List GItem) x1.data x1.did), true)) else (some (x1, false))) else (some (x1, false))))
def y29 : Con := ⟨23, [.v (.s .net) false, .v (.s .kase) false], [((.s .kase), true), (.B, true)], [], fun x => zp5 x.1 x.2.1⟩
def wd7 : Fs := ⟨[z9p, z3b], [], []⟩
theorem wg6 : wd7.Ok Tryz.prog := (fsK zz1 (fsK y1g fs0))
theorem wk7 : y29.Ok Tryz.prog := fn_ok (k := y29) (fn := Tryz.f23) (W := []) (H := []) Tryz.func23 wg6 trivial rfl rfl (fun av x => by kernel_rfl)
def z08 (c : GCase) : Option GCase := (z0g c.marks).bind fun x1 => (gd (([] : List GItem).length + c.busy.length ≤ SMALL) ((z0g c.data).bind fun x3 => (gd (([] : List GDid).length + c.did.length ≤ SMALL) (some (GCase.mk c.state x1 (([] : List GItem) ++ c.busy) x3 (([] : List GDid) ++ c.did))))))
def z36 : Con := ⟨84, [.v (.s .kase) false], [((.s .kase), true)], [], fun x => z08 x.1⟩
def yk4 : Fs := ⟨[z1d], [], []⟩
theorem yl0 : yk4.Ok Tryz.prog := (fsK z2m fs0)
theorem z79 : z36.Ok Tryz.prog := fn_ok (k := z36) (fn := Tryz.f84) (W := []) (H := []) Tryz.func84 yl0 trivial rfl rfl (fun av x => by kernel_rfl)
def yc0 (s0_0 : Int) (bk0 : Int → Option Bool) (s1_0 : Int) : Option Bool := if ((decide (s0_0 = 0)) == (decide (s1_0 = 0))) = true then (if decide (1 < s1_0) = true then (some false) else (gd (ok64 (s0_0 + 1)) (bk0 (s0_0 + 1)))) else (some false)
def z15 (tree : List GNode) (s0_0 : Int) (kx1_0 : Int → Option Bool) : Nat → Int → Int → Option Bool
  | 0, _, _ => none
  | n1 + 1, s1_0, s1_1 => if decide (s1_1 < (tree.length : Int)) = true then ((getI tree s1_1).bind fun x15 => (if decide (x15.yes = s0_0) = true then (gd (ok64 (s1_0 + 1)) ((getI tree s1_1).bind fun x18 => (if decide (x18.no = s0_0) = true then (gd (ok64 ((s1_0 + 1) + 1)) (gd (ok64 (s1_1 + 1)) ((z15 tree s0_0 kx1_0 n1) ((s1_0 + 1) + 1) (s1_1 + 1)))) else (gd (ok64 (s1_1 + 1)) ((z15 tree s0_0 kx1_0 n1) (s1_0 + 1) (s1_1 + 1)))))) else ((getI tree s1_1).bind fun x23 => (if decide (x23.no = s0_0) = true then (gd (ok64 (s1_0 + 1)) (gd (ok64 (s1_1 + 1)) ((z15 tree s0_0 kx1_0 n1) (s1_0 + 1) (s1_1 + 1)))) else (gd (ok64 (s1_1 + 1)) ((z15 tree s0_0 kx1_0 n1) s1_0 (s1_1 + 1))))))) else (kx1_0 s1_0)
def yc1 (s0_0 : Int) (bk0 : Int → Option Bool) (s2_0 : Int) : Option Bool := if ((decide (s0_0 = 0)) == (decide (s2_0 = 0))) = true then (if decide (1 < s2_0) = true then (some false) else (gd (ok64 (s0_0 + 1)) (bk0 (s0_0 + 1)))) else (some false)
def yc2 (s0_0 : Int) (bk0 : Int → Option Bool) (s3_0 : Int) : Option Bool := if ((decide (s0_0 = 0)) == (decide (s3_0 = 0))) = true then (if decide (1 < s3_0) = true then (some false) else (gd (ok64 (s0_0 + 1)) (bk0 (s0_0 + 1)))) else (some false)
def yc3 (s0_0 : Int) (bk0 : Int → Option Bool) (s4_0 : Int) : Option Bool := if ((decide (s0_0 = 0)) == (decide (s4_0 = 0))) = true then (if decide (1 < s4_0) = true then (some false) else (gd (ok64 (s0_0 + 1)) (bk0 (s0_0 + 1)))) else (some false)
def yc4  : Option Bool := some true
def z33 (tree : List GNode) (kx0_0 : Option Bool) : Nat → Int → Option Bool
  | 0, _ => none
  | n0 + 1, s0_0 => if decide (s0_0 < (tree.length : Int)) = true then ((getI tree s0_0).bind fun x3 => ((z6w x3.if_).bind fun x4 => (if x4 = true then ((z03 x3.ans 0 2).bind fun x6 => (if x6 = true then ((z2q x3.stone).bind fun x8 => (if x8 = true then ((z1e x3.if_ x3.stone).bind fun x10 => (if x10 = true then (if decide (x3.yes = (-1)) = true then (if decide (x3.no = (-1)) = true then (z15 tree s0_0 (yc0 s0_0 (z33 tree kx0_0 n0)) FUEL 0 0) else (gd (ok64 (s0_0 + 1)) (gd (ok64 ((tree.length : Int) - 1)) ((z03 x3.no (s0_0 + 1) ((tree.length : Int) - 1)).bind fun x33 => (if x33 = true then (z15 tree s0_0 (yc1 s0_0 (z33 tree kx0_0 n0)) FUEL 0 0) else (some false)))))) else (gd (ok64 (s0_0 + 1)) (gd (ok64 ((tree.length : Int) - 1)) ((z03 x3.yes (s0_0 + 1) ((tree.length : Int) - 1)).bind fun x54 => (if x54 = true then (if decide (x3.no = (-1)) = true then (z15 tree s0_0 (yc2 s0_0 (z33 tree kx0_0 n0)) FUEL 0 0) else (gd (ok64 (s0_0 + 1)) (gd (ok64 ((tree.length : Int) - 1)) ((z03 x3.no (s0_0 + 1) ((tree.length : Int) - 1)).bind fun x76 => (if x76 = true then (z15 tree s0_0 (yc3 s0_0 (z33 tree kx0_0 n0)) FUEL 0 0) else (some false)))))) else (some false)))))) else (some false))) else (some false))) else (some false))) else (some false)))) else (kx0_0)
def z9g (tree : List GNode) : Option Bool := if decide (12 < (tree.length : Int)) = true then (some false) else (z33 tree yc4 FUEL 0)
def z1a : Con := ⟨129, [.v (.sl (.s .node)) false], [(.B, true)], [], fun x => z9g x.1⟩
def v2n : Fs := ⟨[z97, z0m, z19, z4l], [], []⟩
theorem y95 : v2n.Ok Tryz.prog := (fsK zs2 (fsK z0w (fsK z72 (fsK z7w fs0))))
def y7q : Tmpl := ⟨[(0, .c (.s (.s .node))), (3, .c .i), (5, .c .i), (6, .c .i)], []⟩
def y4m : Tmpl := ⟨[(0, .c (.s (.s .node))), (3, .c .i), (5, .c .i)], []⟩
def w4c (av : AV) (x : HP z1a.ps) (n : Nat) (v : y7q.den) (K : Ks (CR z1a)) : Option (CR z1a) := z15 v.1.1 v.1.2.1 (fun s1_0 => y4m.at none ((v.1.1, v.1.2.1, s1_0, ()), ()) (K (.exit 2))) n v.1.2.2.1 v.1.2.2.2.1
def y6p (av : AV) (x : HP z1a.ps) : Hdl (CR z1a) := hnd [] y7q (w4c av x)
theorem w5c : LP z1a Tryz.f129 [0, 0] y6p := lp_ok (W := []) (H := []) (xs := [y4m]) y95 trivial rfl (fun av x v K => by kernel_rfl) (fun av x n v K => by kernel_rfl)
def yr0 : Tmpl := ⟨[(0, .c (.s (.s .node))), (3, .c .i)], []⟩
def yi2 : Tmpl := ⟨[], []⟩
def wb7 (av : AV) (x : HP z1a.ps) (n : Nat) (v : yr0.den) (K : Ks (CR z1a)) : Option (CR z1a) := z33 v.1.1 (yi2.at none ((), ()) (K (.exit 0))) n v.1.2.1
def yo6 (av : AV) (x : HP z1a.ps) : Hdl (CR z1a) := hnd [] yr0 (wb7 av x)
theorem wi8 : LP z1a Tryz.f129 [0] yo6 := lp_ok (W := []) (H := [y6p]) (xs := [yi2]) y95 ⟨w5c, trivial⟩ rfl (fun av x v K => by kernel_rfl) (fun av x n v K => by kernel_rfl)
theorem yd8 : z1a.Ok Tryz.prog := fn_ok (k := z1a) (fn := Tryz.f129) (W := []) (H := [yo6]) Tryz.func129 y95 ⟨wi8, trivial⟩ rfl rfl (fun av x => by kernel_rfl)
def y77 (s0_0 : Int) (s0_1 : Int) : Option (Int × Int) := some (s0_0, s0_1)
def y78 (s0_0 : Int) (s0_1 : Int) : Option (Int × Int) := some (s0_0, s0_1)
def z3h (tree : List GNode) (data : List Int) (kx0_0 : Int → Int → Option (Int × Int)) (kx0_1 : Int → Int → Option (Int × Int)) : Nat → Int → Int → Int → Int → Option (Int × Int)
  | 0, _, _, _, _ => none
  | n0 + 1, s0_0, s0_1, s0_2, s0_3 => if decide (s0_3 < 12) = true then (if decide (s0_2 = (-1)) = true then (kx0_0 s0_0 s0_1) else ((getI tree s0_2).bind fun x4 => ((z1e x4.if_ data).bind fun x5 => (if x5 = true then ((getI tree s0_2).bind fun x7 => (gd (ok64 (s0_3 + 1)) ((z3h tree data kx0_0 kx0_1 n0) s0_2 s0_2 x7.yes (s0_3 + 1)))) else ((getI tree s0_2).bind fun x9 => (gd (ok64 (s0_3 + 1)) ((z3h tree data kx0_0 kx0_1 n0) s0_0 s0_2 x9.no (s0_3 + 1)))))))) else (kx0_1 s0_0 s0_1)
def y79 (s1_0 : Int) (s1_1 : Int) : Option (Int × Int) := some (s1_0, s1_1)
def y7a (s1_0 : Int) (s1_1 : Int) : Option (Int × Int) := some (s1_0, s1_1)
def z8d (tree : List GNode) (data : List Int) : Option (Int × Int) := if decide ((tree.length : Int) = 0) = true then (z3h tree data y77 y78 FUEL (-1) (-1) (-1) 0) else (z3h tree data y79 y7a FUEL (-1) (-1) 0 0)
def z2y : Con := ⟨209, [.v (.sl (.s .node)) false, .v (.sl .I) false], [(.I, true), (.I, true)], [], fun x => z8d x.1 x.2.1⟩
def wu4 : Fs := ⟨[z4l], [], []⟩
theorem yy8 : wu4.Ok Tryz.prog := (fsK z7w fs0)
def yg2 : Tmpl := ⟨[(0, .c (.s (.s .node))), (1, .c (.s .I)), (6, .c .i), (7, .c .i), (8, .c .i), (9, .c .i)], []⟩
def zu0 : Tmpl := ⟨[(6, .c .i), (7, .c .i)], []⟩
def w6q (av : AV) (x : HP z2y.ps) (n : Nat) (v : yg2.den) (K : Ks (CR z2y)) : Option (CR z2y) := z3h v.1.1 v.1.2.1 (fun s0_0 s0_1 => zu0.at none ((s0_0, s0_1, ()), ()) (K (.exit 0))) (fun s0_0 s0_1 => zu0.at none ((s0_0, s0_1, ()), ()) (K (.exit 0))) n v.1.2.2.1 v.1.2.2.2.1 v.1.2.2.2.2.1 v.1.2.2.2.2.2.1
def y9r (av : AV) (x : HP z2y.ps) : Hdl (CR z2y) := hnd [] yg2 (w6q av x)
theorem w8r : LP z2y Tryz.f209 [0] y9r := lp_ok (W := []) (H := []) (xs := [zu0]) yy8 trivial rfl (fun av x v K => by kernel_rfl) (fun av x n v K => by kernel_rfl)
theorem y60 : z2y.Ok Tryz.prog := fn_ok (k := z2y) (fn := Tryz.f209) (W := []) (H := [y9r]) Tryz.func209 yy8 ⟨w8r, trivial⟩ rfl rfl (fun av x => by kernel_rfl)
def zy0 (tree : List GNode) (data : List Int) : Option Int := (z9g tree).bind fun x1 => (if x1 = true then ((z2q data).bind fun x3 => (if x3 = true then ((z8d tree data).bind fun x5 => (if decide (x5.1 = (-1)) = true then (some 0) else ((getI tree x5.1).bind fun x7 => (some x7.ans)))) else (some 0))) else (some 0))
def y5h : Con := ⟨186, [.v (.sl (.s .node)) false, .v (.sl .I) false], [(.I, true)], [], fun x => zy0 x.1 x.2.1⟩
def wt2 : Fs := ⟨[z1a, z19, z2y], [], []⟩
theorem ww4 : wt2.Ok Tryz.prog := (fsK yd8 (fsK z72 (fsK y60 fs0)))
theorem v0g : y5h.Ok Tryz.prog := fn_ok (k := y5h) (fn := Tryz.f186) (W := []) (H := []) Tryz.func186 ww4 trivial rfl rfl (fun av x => by kernel_rfl)
def zy6 (tree : List GNode) (a : List Int) (b : List Int) : Option Bool := (z8d tree a).bind fun x1 => ((z8d tree b).bind fun x2 => (if decide (x1.2 = x2.2) = true then (if decide (x1.2 = (-1)) = true then (some true) else ((getI tree x1.2).bind fun x5 => ((z1e x5.if_ a).bind fun x6 => ((getI tree x1.2).bind fun x7 => ((z1e x7.if_ b).bind fun x8 => (some (x6 == x8))))))) else (some false)))
def y5m : Con := ⟨210, [.v (.sl (.s .node)) false, .v (.sl .I) false, .v (.sl .I) false], [(.B, true)], [], fun x => zy6 x.1 x.2.1 x.2.2.1⟩
def wu3 : Fs := ⟨[z2y, z4l], [], []⟩
theorem wx2 : wu3.Ok Tryz.prog := (fsK y60 (fsK z7w fs0))
theorem v0m : y5m.Ok Tryz.prog := fn_ok (k := y5m) (fn := Tryz.f210) (W := []) (H := []) Tryz.func210 wx2 trivial rfl rfl (fun av x => by kernel_rfl)
def zt6 (l0_1 : List GNode) : Option (List GNode) := some l0_1
def z6g (tree : List GNode) (kx0_0 : List GNode → Option (List GNode)) : Nat → Int → List GNode → Option (List GNode)
  | 0, _, _ => none
  | n0 + 1, s0_0, l0_1 => if decide (s0_0 < (tree.length : Int)) = true then ((getI tree s0_0).bind fun x2 => (gd (([] : List Int).length + x2.stone.length ≤ SMALL) (gd (l0_1.length + [(GNode.mk x2.if_ x2.yes x2.no x2.ans (([] : List Int) ++ x2.stone))].length ≤ SMALL) (gd (ok64 (s0_0 + 1)) ((z6g tree kx0_0 n0) (s0_0 + 1) (l0_1 ++ [(GNode.mk x2.if_ x2.yes x2.no x2.ans (([] : List Int) ++ x2.stone))])))))) else (kx0_0 l0_1)
def zk5 (tree : List GNode) : Option (List GNode) := z6g tree zt6 FUEL 0 ([] : List GNode)
def z4f : Con := ⟨189, [.v (.sl (.s .node)) false], [((.sl (.s .node)), true)], [], fun x => zk5 x.1⟩
def wu2 : Fs := ⟨[], [], []⟩
theorem yy7 : wu2.Ok Tryz.prog := fs0
def yg1 : Tmpl := ⟨[(0, .c (.s (.s .node))), (3, .c (.ref 6)), (4, .c .i)], [(6, .arr (.s .node) true)]⟩
def y8g : Tmpl := ⟨[(3, .c (.ref 6))], [(6, .arr (.s .node) true)]⟩
def w6p (av : AV) (x : HP z4f.ps) (n : Nat) (v : yg1.den) (K : Ks (CR z4f)) : Option (CR z4f) := z6g v.1.1 (fun l0_1 => y8g.at none (((), ()), (l0_1, ())) (K (.exit 0))) n v.1.2.2.1 v.2.1
def y9q (av : AV) (x : HP z4f.ps) : Hdl (CR z4f) := hnd [] yg1 (w6p av x)
theorem w8q : LP z4f Tryz.f189 [0] y9q := lp_ok (W := []) (H := []) (xs := [y8g]) yy7 trivial rfl (fun av x v K => by kernel_rfl) (fun av x n v K => by kernel_rfl)
theorem w0h : z4f.Ok Tryz.prog := fn_ok (k := z4f) (fn := Tryz.f189) (W := []) (H := [y9q]) Tryz.func189 yy7 ⟨w8q, trivial⟩ rfl rfl (fun av x => by kernel_rfl)
def zd2 (tree : List GNode) (data : List Int) (e : GAsk) (ans : Int) (x1 : (List GNode)) : Option ((List GNode) × Bool) := (z8d tree data).bind fun x20 => (if decide (x20.2 = (-1)) = true then (gd (([] : List Int).length + data.length ≤ SMALL) (gd (x1.length + [(GNode.mk e (-1) (-1) ans (([] : List Int) ++ data))].length ≤ SMALL) (some ((x1 ++ [(GNode.mk e (-1) (-1) ans (([] : List Int) ++ data))]), true)))) else ((getI tree x20.2).bind fun x24 => ((z1e x24.if_ data).bind fun x25 => (if x25 = true then ((getI x1 x20.2).bind fun x27 => (gd (([] : List Int).length + data.length ≤ SMALL) (gd ((x1.set x20.2.toNat (GNode.mk x27.if_ (tree.length : Int) x27.no x27.ans x27.stone)).length + [(GNode.mk e (-1) (-1) ans (([] : List Int) ++ data))].length ≤ SMALL) (some (((x1.set x20.2.toNat (GNode.mk x27.if_ (tree.length : Int) x27.no x27.ans x27.stone)) ++ [(GNode.mk e (-1) (-1) ans (([] : List Int) ++ data))]), true))))) else ((getI x1 x20.2).bind fun x30 => (gd (([] : List Int).length + data.length ≤ SMALL) (gd ((x1.set x20.2.toNat (GNode.mk x30.if_ x30.yes (tree.length : Int) x30.ans x30.stone)).length + [(GNode.mk e (-1) (-1) ans (([] : List Int) ++ data))].length ≤ SMALL) (some (((x1.set x20.2.toNat (GNode.mk x30.if_ x30.yes (tree.length : Int) x30.ans x30.stone)) ++ [(GNode.mk e (-1) (-1) ans (([] : List Int) ++ data))]), true)))))))))
def z54 (tree : List GNode) (data : List Int) (e : GAsk) (x1 : (List GNode)) (kx0_0 : Option ((List GNode) × Bool)) : Nat → Int → Option ((List GNode) × Bool)
  | 0, _ => none
  | n0 + 1, s0_0 => if decide (s0_0 < (tree.length : Int)) = true then ((getI tree s0_0).bind fun x12 => ((zy6 tree x12.stone data).bind fun x13 => (if x13 = true then ((getI tree s0_0).bind fun x15 => ((z1e e x15.stone).bind fun x16 => (if x16 = true then (some (x1, false)) else (gd (ok64 (s0_0 + 1)) ((z54 tree data e x1 kx0_0 n0) (s0_0 + 1)))))) else (gd (ok64 (s0_0 + 1)) ((z54 tree data e x1 kx0_0 n0) (s0_0 + 1)))))) else (kx0_0)
def z8b (tree : List GNode) (data : List Int) (e : GAsk) (ans : Int) : Option ((List GNode) × Bool) := (zk5 tree).bind fun x1 => ((z9g tree).bind fun x2 => (if x2 = true then ((z2q data).bind fun x4 => (if x4 = true then ((z1e e data).bind fun x6 => (if x6 = true then ((z03 ans 0 2).bind fun x8 => (if x8 = true then (if decide ((tree.length : Int) = 12) = true then (some (x1, false)) else (z54 tree data e x1 (zd2 tree data e ans x1) FUEL 0)) else (some (x1, false)))) else (some (x1, false)))) else (some (x1, false)))) else (some (x1, false))))
def z46 : Con := ⟨187, [.v (.sl (.s .node)) false, .v (.sl .I) false, .v (.s .ask) false, .v .I false], [((.sl (.s .node)), true), (.B, true)], [], fun x => z8b x.1 x.2.1 x.2.2.1 x.2.2.2.1⟩
def wt1 : Fs := ⟨[z4f, z1a, z19, z4l, z0m, y5m, z2y], [], []⟩
theorem yy4 : wt1.Ok Tryz.prog := (fsK w0h (fsK yd8 (fsK z72 (fsK z7w (fsK z0w (fsK v0m (fsK y60 fs0)))))))
def yf8 : Tmpl := ⟨[(0, .c (.s (.s .node))), (1, .c (.s .I)), (3, .c .i), (6, .c (.bx 6 0)), (10, .c (.ref 15)), (11, .c .i)], [(6, .boxT (.s .ask)), (15, .arr (.s .node) true)]⟩
def y8d : Tmpl := ⟨[(0, .c (.s (.s .node))), (1, .c (.s .I)), (3, .c .i), (6, .c (.bx 6 0)), (10, .c (.ref 15))], [(6, .boxT (.s .ask)), (15, .arr (.s .node) true)]⟩
def w6m (av : AV) (x : HP z46.ps) (n : Nat) (v : yf8.den) (K : Ks (CR z46)) : Option (CR z46) := z54 v.1.1 v.1.2.1 v.2.1 v.2.2.1 (y8d.at none ((v.1.1, v.1.2.1, v.1.2.2.1, (), (), ()), (v.2.1, v.2.2.1, ())) (K (.exit 0))) n v.1.2.2.2.2.2.1
def y9n (av : AV) (x : HP z46.ps) : Hdl (CR z46) := hnd [] yf8 (w6m av x)
theorem w8n : LP z46 Tryz.f187 [0] y9n := lp_ok (W := []) (H := []) (xs := [y8d]) yy4 trivial rfl (fun av x v K => by kernel_rfl) (fun av x n v K => by kernel_rfl)
theorem w0f : z46.Ok Tryz.prog := fn_ok (k := z46) (fn := Tryz.f187) (W := []) (H := [y9n]) Tryz.func187 yy4 ⟨w8n, trivial⟩ rfl rfl (fun av x => by kernel_rfl)
def z4p (ans : Int) : Option Bool := (z0c ans 0 2).bind fun x1 => (some x1)
def z96 : Con := ⟨121, [.v .I false], [(.B, true)], [], fun x => z4p x.1⟩
def w78 : Fs := ⟨[z25], [], []⟩
theorem w7y : w78.Ok Tryz.prog := (fsK z2s fs0)
theorem y0f : z96.Ok Tryz.prog := fn_ok (k := z96) (fn := Tryz.f121) (W := []) (H := []) Tryz.func121 w7y trivial rfl rfl (fun av x => by kernel_rfl)
def zb1 (l0_1 : List GNode) : Option (List GNode) := some l0_1
def z3a (tree : List GNode) (p0_0 : Int) (kx0_0 : List GNode → Option (List GNode)) : Nat → Int → List GNode → Option (List GNode)
  | 0, _, _ => none
  | n0 + 1, s0_0, l0_1 => if decide (s0_0 < p0_0) = true then ((getI tree s0_0).bind fun x2 => ((z0g x2.stone).bind fun x3 => (gd (l0_1.length + [(GNode.mk x2.if_ x2.yes x2.no x2.ans x3)].length ≤ SMALL) (gd (ok64 (s0_0 + 1)) ((z3a tree p0_0 kx0_0 n0) (s0_0 + 1) (l0_1 ++ [(GNode.mk x2.if_ x2.yes x2.no x2.ans x3)])))))) else (kx0_0 l0_1)
def z7h (tree : List GNode) : Option (List GNode) := z3a tree (tree.length : Int) zb1 FUEL 0 ([] : List GNode)
def z1h : Con := ⟨183, [.v (.sl (.s .node)) false], [((.sl (.s .node)), true)], [], fun x => z7h x.1⟩
def w1l : Fs := ⟨[z1d], [], []⟩
theorem y34 : w1l.Ok Tryz.prog := (fsK z2m fs0)
def y0m : Tmpl := ⟨[(3, .c (.ref 500003)), (6, .c (.s (.s .node))), (7, .c .i), (8, .c .i)], [(500003, .arr (.s .node) true)]⟩
def zv2 : Tmpl := ⟨[(3, .c (.ref 500003))], [(500003, .arr (.s .node) true)]⟩
def yr6 (av : AV) (x : HP z1h.ps) (n : Nat) (v : y0m.den) (K : Ks (CR z1h)) : Option (CR z1h) := z3a v.1.2.1 v.1.2.2.1 (fun l0_1 => zv2.at none (((), ()), (l0_1, ())) (K (.exit 0))) n v.1.2.2.2.1 v.2.1
def y03 (av : AV) (x : HP z1h.ps) : Hdl (CR z1h) := hnd [.e 3 500003 (.s .node)] y0m (yr6 av x)
theorem yt8 : LP z1h Tryz.f183 [0] y03 := lp_ok (W := []) (H := []) (xs := [zv2]) y34 trivial rfl (fun av x v K => by kernel_rfl) (fun av x n v K => by kernel_rfl)
theorem y3u : z1h.Ok Tryz.prog := fn_ok (k := z1h) (fn := Tryz.f183) (W := []) (H := [y03]) Tryz.func183 y34 ⟨yt8, trivial⟩ rfl rfl (fun av x => by kernel_rfl)
def y7b  : Option Bool := some true
def z6j (nets : List GNet) (kx0_0 : Option Bool) : Nat → Int → Option Bool
  | 0, _ => none
  | n0 + 1, s0_0 => if decide (s0_0 < (nets.length : Int)) = true then ((getI nets s0_0).bind fun x4 => ((z3g x4).bind fun x5 => (if x5 = true then (gd (ok64 (s0_0 + 1)) ((z6j nets kx0_0 n0) (s0_0 + 1))) else (some false)))) else (kx0_0)
def zk6 (nets : List GNet) : Option Bool := (z03 (nets.length : Int) 1 3).bind fun x1 => (if x1 = true then (z6j nets y7b FUEL 0) else (some false))
def z4g : Con := ⟨128, [.v (.sl (.s .net)) false], [(.B, true)], [], fun x => zk6 x.1⟩
def wu8 : Fs := ⟨[z0m, z2o], [], []⟩
theorem yy9 : wu8.Ok Tryz.prog := (fsK z0w (fsK zs3 fs0))
def yg5 : Tmpl := ⟨[(0, .c (.s (.s .net))), (3, .c .i)], []⟩
def y8j : Tmpl := ⟨[], []⟩
def w6t (av : AV) (x : HP z4g.ps) (n : Nat) (v : yg5.den) (K : Ks (CR z4g)) : Option (CR z4g) := z6j v.1.1 (y8j.at none ((), ()) (K (.exit 0))) n v.1.2.1
def y9u (av : AV) (x : HP z4g.ps) : Hdl (CR z4g) := hnd [] yg5 (w6t av x)
theorem w8u : LP z4g Tryz.f128 [0] y9u := lp_ok (W := []) (H := []) (xs := [y8j]) yy9 trivial rfl (fun av x v K => by kernel_rfl) (fun av x n v K => by kernel_rfl)
theorem w0i : z4g.Ok Tryz.prog := fn_ok (k := z4g) (fn := Tryz.f128) (W := []) (H := [y9u]) Tryz.func128 yy9 ⟨w8u, trivial⟩ rfl rfl (fun av x => by kernel_rfl)
def ze1 (p0_1 : Int) (l0_1 : List GTask) : Option GNet := some (GNet.mk p0_1 l0_1)
def z3y (n : GNet) (kx0_0 : List GTask → Option GNet) : Nat → Int → List GTask → Option GNet
  | 0, _, _ => none
  | n0 + 1, s0_0, l0_1 => if decide (s0_0 < (n.tasks.length : Int)) = true then ((getI n.tasks s0_0).bind fun x2 => (gd (([] : List Int).length + x2.in_.length ≤ SMALL) (gd (([] : List GFlow).length + x2.out.length ≤ SMALL) (gd (([] : List Int).length + x2.clear.length ≤ SMALL) (gd (l0_1.length + [(GTask.mk x2.join x2.split (([] : List Int) ++ x2.in_) (([] : List GFlow) ++ x2.out) (([] : List Int) ++ x2.clear) x2.role x2.apart x2.all x2.need)].length ≤ SMALL) (gd (ok64 (s0_0 + 1)) ((z3y n kx0_0 n0) (s0_0 + 1) (l0_1 ++ [(GTask.mk x2.join x2.split (([] : List Int) ++ x2.in_) (([] : List GFlow) ++ x2.out) (([] : List Int) ++ x2.clear) x2.role x2.apart x2.all x2.need)])))))))) else (kx0_0 l0_1)
def z8l (n : GNet) : Option GNet := z3y n (ze1 n.places) FUEL 0 ([] : List GTask)
def z1y : Con := ⟨190, [.v (.s .net) false], [((.s .net), true)], [], fun x => z8l x.1⟩
def w4u : Fs := ⟨[], [], []⟩
theorem y6c : w4u.Ok Tryz.prog := fs0
def y1n : Tmpl := ⟨[(1, .c (.bx 1 0)), (2, .c (.bx 2 0)), (3, .c (.bx 3 0)), (4, .c .i)], [(1, .boxT (.s .net)), (2, .box [.i, .nl]), (3, .box [.i, .ref 510301]), (510301, .arr (.s .task) true)]⟩
def y0s : Tmpl := ⟨[(2, .c (.bx 2 0)), (3, .c (.bx 3 0))], [(2, .box [.i, .nl]), (3, .box [.i, .ref 510301]), (510301, .arr (.s .task) true)]⟩
def yv8 (av : AV) (x : HP z1y.ps) (n : Nat) (v : y1n.den) (K : Ks (CR z1y)) : Option (CR z1y) := z3y v.2.1 (fun l0_1 => y0s.at none (((), (), ()), ((v.2.2.1.1, (), ()), (v.2.2.2.1.1, (), ()), l0_1, ())) (K (.exit 0))) n v.1.2.2.2.1 v.2.2.2.2.1
def y10 (av : AV) (x : HP z1y.ps) : Hdl (CR z1y) := hnd [.b 3 1 510301 (.s .task)] y1n (yv8 av x)
theorem yz9 : LP z1y Tryz.f190 [0] y10 := lp_ok (W := []) (H := []) (xs := [y0s]) y6c trivial rfl (fun av x v K => by kernel_rfl) (fun av x n v K => by kernel_rfl)
theorem y7d : z1y.Ok Tryz.prog := fn_ok (k := z1y) (fn := Tryz.f190) (W := []) (H := [y10]) Tryz.func190 y6c ⟨yz9, trivial⟩ rfl rfl (fun av x => by kernel_rfl)
def zt4 (p0_0 : List Int) (l0_1 : List GNet) : Option GHouse := some (GHouse.mk l0_1 p0_0 [] [])
def z6c (nets : List GNet) (kx0_0 : List GNet → Option GHouse) : Nat → Int → List GNet → Option GHouse
  | 0, _, _ => none
  | n0 + 1, s0_0, l0_1 => if decide (s0_0 < (nets.length : Int)) = true then ((getI nets s0_0).bind fun x7 => ((z8l x7).bind fun x8 => (gd (l0_1.length + [x8].length ≤ SMALL) (gd (ok64 (s0_0 + 1)) ((z6c nets kx0_0 n0) (s0_0 + 1) (l0_1 ++ [x8])))))) else (kx0_0 l0_1)
def zx6 (nets : List GNet) (people : List Int) : Option GHouse := (zk6 nets).bind fun x1 => (if x1 = true then ((z9f people).bind fun x3 => (if x3 = true then (gd (([] : List Int).length + people.length ≤ SMALL) (z6c nets (zt4 (([] : List Int) ++ people)) FUEL 0 ([] : List GNet))) else (some (GHouse.mk [] [] [] [])))) else (some (GHouse.mk [] [] [] [])))
def z5d : Con := ⟨195, [.v (.sl (.s .net)) false, .v (.sl .I) false], [((.s .house), true)], [], fun x => zx6 x.1 x.2.1⟩
def ws6 : Fs := ⟨[z4g, z3d, z1y], [], []⟩
theorem yy0 : ws6.Ok Tryz.prog := (fsK w0i (fsK y1i (fsK y7d fs0)))
def yf3 : Tmpl := ⟨[(0, .c (.s (.s .net))), (4, .c (.bx 4 0)), (5, .c (.bx 5 0)), (6, .c .i)], [(4, .box [.nl, .nl, .nl, .nl]), (5, .box [.ref 510500, .ref 18, .nl, .nl]), (510500, .arr (.s .net) true), (18, .arr .I true)]⟩
def y88 : Tmpl := ⟨[(4, .c (.bx 4 0)), (5, .c (.bx 5 0))], [(4, .box [.nl, .nl, .nl, .nl]), (5, .box [.ref 510500, .ref 18, .nl, .nl]), (510500, .arr (.s .net) true), (18, .arr .I true)]⟩
def w6h (av : AV) (x : HP z5d.ps) (n : Nat) (v : yf3.den) (K : Ks (CR z5d)) : Option (CR z5d) := z6c v.1.1 (fun l0_1 => y88.at none (((), (), ()), (((), (), (), (), ()), ((), (), (), (), ()), l0_1, v.2.2.2.2.1, ())) (K (.exit 0))) n v.1.2.2.2.1 v.2.2.2.1
def y9i (av : AV) (x : HP z5d.ps) : Hdl (CR z5d) := hnd [.b 5 0 510500 (.s .net)] yf3 (w6h av x)
theorem w8i : LP z5d Tryz.f195 [0] y9i := lp_ok (W := []) (H := []) (xs := [y88]) yy0 trivial rfl (fun av x v K => by kernel_rfl) (fun av x n v K => by kernel_rfl)
theorem v0c : z5d.Ok Tryz.prog := fn_ok (k := z5d) (fn := Tryz.f195) (W := []) (H := [y9i]) Tryz.func195 yy0 ⟨w8i, trivial⟩ rfl rfl (fun av x => by kernel_rfl)
def yb5  : Option Bool := some true
def z7o (h : GHouse) (kx0_0 : Option Bool) : Nat → Int → Option Bool
  | 0, _ => none
  | n0 + 1, s0_0 => if decide (s0_0 < (h.runs.length : Int)) = true then ((getI h.runs s0_0).bind fun x9 => (gd (ok64 ((h.nets.length : Int) - 1)) ((z03 x9.net 0 ((h.nets.length : Int) - 1)).bind fun x11 => (if x11 = true then ((getI h.runs s0_0).bind fun x13 => ((getI h.nets x13.net).bind fun x14 => ((getI h.runs s0_0).bind fun x15 => ((z9d x14 x15.case).bind fun x16 => (if x16 = true then (gd (ok64 (s0_0 + 1)) ((z7o h kx0_0 n0) (s0_0 + 1))) else (some false)))))) else (some false))))) else (kx0_0)
def zf1 (h : GHouse) : Option Bool := (zk6 h.nets).bind fun x1 => (if x1 = true then ((z9f h.people).bind fun x3 => (if x3 = true then ((z9g h.tree).bind fun x5 => (if x5 = true then (if decide (5 < (h.runs.length : Int)) = true then (some false) else (z7o h yb5 FUEL 0)) else (some false))) else (some false))) else (some false))
def z4k : Con := ⟨54, [.v (.s .house) false], [(.B, true)], [], fun x => zf1 x.1⟩
def v2h : Fs := ⟨[z4g, z3d, z1a, z0m, z3b], [], []⟩
theorem w35 : v2h.Ok Tryz.prog := (fsK w0i (fsK y1i (fsK yd8 (fsK z0w (fsK y1g fs0)))))
def yq5 : Tmpl := ⟨[(1, .c (.bx 1 0)), (3, .c .i)], [(1, .boxT (.s .house))]⟩
def yh7 : Tmpl := ⟨[], []⟩
def wb2 (av : AV) (x : HP z4k.ps) (n : Nat) (v : yq5.den) (K : Ks (CR z4k)) : Option (CR z4k) := z7o v.2.1 (yh7.at none ((), ()) (K (.exit 0))) n v.1.2.1
def yo1 (av : AV) (x : HP z4k.ps) : Hdl (CR z4k) := hnd [] yq5 (wb2 av x)
theorem wi3 : LP z4k Tryz.f54 [0] yo1 := lp_ok (W := []) (H := []) (xs := [yh7]) w35 trivial rfl (fun av x v K => by kernel_rfl) (fun av x n v K => by kernel_rfl)
theorem yd6 : z4k.Ok Tryz.prog := fn_ok (k := z4k) (fn := Tryz.f54) (W := []) (H := [yo1]) Tryz.func54 w35 ⟨wi3, trivial⟩ rfl rfl (fun av x => by kernel_rfl)
def zt7 (x2 : (List GNode)) (p0_0 : List Int) (l0_1 : List GNet) (l1_1 : List GRun) : Option GHouse := some (GHouse.mk l0_1 p0_0 x2 l1_1)
def z6i (h : GHouse) (kx1_0 : List GRun → Option GHouse) : Nat → Int → List GRun → Option GHouse
  | 0, _, _ => none
  | n1 + 1, s1_0, l1_1 => if decide (s1_0 < (h.runs.length : Int)) = true then ((getI h.runs s1_0).bind fun x9 => ((getI h.runs s1_0).bind fun x10 => ((z70 x10.case).bind fun x11 => (gd (l1_1.length + [(GRun.mk x9.net x11)].length ≤ SMALL) (gd (ok64 (s1_0 + 1)) ((z6i h kx1_0 n1) (s1_0 + 1) (l1_1 ++ [(GRun.mk x9.net x11)]))))))) else (kx1_0 l1_1)
def zd4 (h : GHouse) (x2 : (List GNode)) (p0_0 : List Int) (l0_1 : List GNet) : Option GHouse := z6i h (zt7 x2 p0_0 l0_1) FUEL 0 ([] : List GRun)
def z6h (h : GHouse) (kx0_0 : List GNet → Option GHouse) : Nat → Int → List GNet → Option GHouse
  | 0, _, _ => none
  | n0 + 1, s0_0, l0_1 => if decide (s0_0 < (h.nets.length : Int)) = true then ((getI h.nets s0_0).bind fun x4 => ((z8l x4).bind fun x5 => (gd (l0_1.length + [x5].length ≤ SMALL) (gd (ok64 (s0_0 + 1)) ((z6h h kx0_0 n0) (s0_0 + 1) (l0_1 ++ [x5])))))) else (kx0_0 l0_1)
def z35 (h : GHouse) : Option GHouse := gd (([] : List Int).length + h.people.length ≤ SMALL) ((zk5 h.tree).bind fun x2 => (z6h h (zd4 h x2 (([] : List Int) ++ h.people)) FUEL 0 ([] : List GNet)))
def z0q : Con := ⟨135, [.v (.s .house) false], [((.s .house), true)], [], fun x => z35 x.1⟩
def wu6 : Fs := ⟨[z4f, z1y, z9p], [], []⟩
theorem y56 : wu6.Ok Tryz.prog := (fsK w0h (fsK y7d (fsK zz1 fs0)))
def yg3 : Tmpl := ⟨[(1, .c (.bx 1 0)), (2, .c (.bx 2 0)), (3, .c (.bx 3 0)), (4, .c .i)], [(1, .boxT (.s .house)), (2, .box [.nl, .nl, .nl, .nl]), (3, .box [.ref 510300, .ref 9, .ref 12, .nl]), (510300, .arr (.s .net) true), (9, .arr .I true), (12, .arr (.s .node) true)]⟩
def y8h : Tmpl := ⟨[(1, .c (.bx 1 0)), (2, .c (.bx 2 0)), (3, .c (.bx 3 0))], [(1, .boxT (.s .house)), (2, .box [.nl, .nl, .nl, .nl]), (3, .box [.ref 510300, .ref 9, .ref 12, .nl]), (510300, .arr (.s .net) true), (9, .arr .I true), (12, .arr (.s .node) true)]⟩
def w6r (av : AV) (x : HP z0q.ps) (n : Nat) (v : yg3.den) (K : Ks (CR z0q)) : Option (CR z0q) := z6h v.2.1 (fun l0_1 => y8h.at none (((), (), (), ()), (v.2.1, ((), (), (), (), ()), ((), (), (), (), ()), l0_1, v.2.2.2.2.2.1, v.2.2.2.2.2.2.1, ())) (K (.exit 0))) n v.1.2.2.2.1 v.2.2.2.2.1
def y9s (av : AV) (x : HP z0q.ps) : Hdl (CR z0q) := hnd [.b 3 0 510300 (.s .net)] yg3 (w6r av x)
theorem w8s : LP z0q Tryz.f135 [0] y9s := lp_ok (W := []) (H := []) (xs := [y8h]) y56 trivial rfl (fun av x v K => by kernel_rfl) (fun av x n v K => by kernel_rfl)
def yg4 : Tmpl := ⟨[(1, .c (.bx 1 0)), (2, .c (.bx 2 0)), (3, .c (.bx 3 0)), (5, .c .i)], [(1, .boxT (.s .house)), (2, .box [.nl, .nl, .nl, .nl]), (3, .box [.ref 510300, .ref 9, .ref 12, .ref 510303]), (510300, .arr (.s .net) true), (9, .arr .I true), (12, .arr (.s .node) true), (510303, .arr (.s .run) true)]⟩
def y8i : Tmpl := ⟨[(2, .c (.bx 2 0)), (3, .c (.bx 3 0))], [(2, .box [.nl, .nl, .nl, .nl]), (3, .box [.ref 510300, .ref 9, .ref 12, .ref 510303]), (510300, .arr (.s .net) true), (9, .arr .I true), (12, .arr (.s .node) true), (510303, .arr (.s .run) true)]⟩
def w6s (av : AV) (x : HP z0q.ps) (n : Nat) (v : yg4.den) (K : Ks (CR z0q)) : Option (CR z0q) := z6i v.2.1 (fun l1_1 => y8i.at none (((), (), ()), (((), (), (), (), ()), ((), (), (), (), ()), v.2.2.2.2.1, v.2.2.2.2.2.1, v.2.2.2.2.2.2.1, l1_1, ())) (K (.exit 2))) n v.1.2.2.2.1 v.2.2.2.2.2.2.2.1
def y9t (av : AV) (x : HP z0q.ps) : Hdl (CR z0q) := hnd [.b 3 3 510303 (.s .run)] yg4 (w6s av x)
theorem w8t : LP z0q Tryz.f135 [1] y9t := lp_ok (W := []) (H := []) (xs := [y8i]) y56 trivial rfl (fun av x v K => by kernel_rfl) (fun av x n v K => by kernel_rfl)
theorem zz2 : z0q.Ok Tryz.prog := fn_ok (k := z0q) (fn := Tryz.f135) (W := []) (H := [y9s, y9t]) Tryz.func135 y56 ⟨w8s, w8t, trivial⟩ rfl rfl (fun av x => by kernel_rfl)
def zy8 (r : GReq) : Option GReq := if decide (r.kind = 1) = true then (some (GReq.mk r.kind 0 0 0 0 0 r.data (GAsk.mk 0 0 0) 0)) else (if decide (r.kind = 2) = true then (some (GReq.mk r.kind r.who r.case r.task 0 0 [] (GAsk.mk 0 0 0) 0)) else (if decide (r.kind = 3) = true then (some (GReq.mk r.kind 0 r.case r.task r.var r.num [] (GAsk.mk 0 0 0) 0)) else (if decide (r.kind = 4) = true then (some (GReq.mk r.kind 0 r.case 0 0 0 [] (GAsk.mk 0 0 0) 0)) else (if decide (r.kind = 5) = true then (some (GReq.mk r.kind 0 0 0 0 0 r.data r.if_ r.ans)) else (some (GReq.mk r.kind 0 0 0 0 0 [] (GAsk.mk 0 0 0) 0))))))
def y5o : Con := ⟨137, [.v (.s .req) false], [((.s .req), false)], [], fun x => zy8 x.1⟩
def wu7 : Fs := ⟨[], [], []⟩
theorem wx4 : wu7.Ok Tryz.prog := fs0
theorem v0o : y5o.Ok Tryz.prog := fn_ok (k := y5o) (fn := Tryz.f137) (W := []) (H := []) Tryz.func137 wx4 trivial rfl rfl (fun av x => by kernel_rfl)
def z56 (a : GReq) (b : GReq) : Option Bool := if decide (a.kind = b.kind) = true then (if decide (a.who = b.who) = true then (if decide (a.case = b.case) = true then (if decide (a.task = b.task) = true then (if decide (a.var = b.var) = true then (if decide (a.num = b.num) = true then (if decide ([a.if_.op, a.if_.var, a.if_.k] = [b.if_.op, b.if_.var, b.if_.k]) = true then (some (decide (a.ans = b.ans))) else (some false)) else (some false)) else (some false)) else (some false)) else (some false)) else (some false)) else (some false)
def z3i (a : GReq) (b : GReq) (kx0_0 : Option Bool) : Nat → Int → Option Bool
  | 0, _ => none
  | n0 + 1, s0_0 => if decide (s0_0 < (a.data.length : Int)) = true then ((getI a.data s0_0).bind fun x3 => ((getI b.data s0_0).bind fun x4 => (if decide (x3 = x4) = true then (gd (ok64 (s0_0 + 1)) ((z3i a b kx0_0 n0) (s0_0 + 1))) else (some false)))) else (kx0_0)
def zy9 (a : GReq) (b : GReq) : Option Bool := if decide ((a.data.length : Int) = (b.data.length : Int)) = true then (z3i a b (z56 a b) FUEL 0) else (some false)
def z5i : Con := ⟨136, [.v (.s .req) false, .v (.s .req) false], [(.B, true)], [], fun x => zy9 x.1 x.2.1⟩
def wu9 : Fs := ⟨[], [], []⟩
theorem yz0 : wu9.Ok Tryz.prog := fs0
def yg6 : Tmpl := ⟨[(2, .c (.bx 2 0)), (3, .c (.bx 3 0)), (5, .c .i)], [(2, .boxT (.s .req)), (3, .boxT (.s .req))]⟩
def y8k : Tmpl := ⟨[(2, .c (.bx 2 0)), (3, .c (.bx 3 0))], [(2, .boxT (.s .req)), (3, .boxT (.s .req))]⟩
def w6u (av : AV) (x : HP z5i.ps) (n : Nat) (v : yg6.den) (K : Ks (CR z5i)) : Option (CR z5i) := z3i v.2.1 v.2.2.1 (y8k.at none (((), (), ()), (v.2.1, v.2.2.1, ())) (K (.exit 0))) n v.1.2.2.1
def y9v (av : AV) (x : HP z5i.ps) : Hdl (CR z5i) := hnd [] yg6 (w6u av x)
theorem w8v : LP z5i Tryz.f136 [0] y9v := lp_ok (W := []) (H := []) (xs := [y8k]) yz0 trivial rfl (fun av x v K => by kernel_rfl) (fun av x n v K => by kernel_rfl)
theorem v0p : z5i.Ok Tryz.prog := fn_ok (k := z5i) (fn := Tryz.f136) (W := []) (H := [y9v]) Tryz.func136 yz0 ⟨w8v, trivial⟩ rfl rfl (fun av x => by kernel_rfl)
def z61 (r : GReq) : Option Bool := (z03 r.kind 1 5).bind fun x1 => (if x1 = true then ((zy8 r).bind fun x3 => ((zy9 r x3).bind fun x4 => (if x4 = true then ((z03 r.who 0 4).bind fun x6 => (if x6 = true then ((z03 r.case 0 4).bind fun x8 => (if x8 = true then ((z03 r.task 0 5).bind fun x10 => (if x10 = true then ((z03 r.var (-1) 2).bind fun x12 => (if x12 = true then ((z03 r.num (-99) 99).bind fun x14 => (if x14 = true then ((z6w r.if_).bind fun x16 => (if x16 = true then ((z03 r.ans 0 2).bind fun x18 => (if x18 = true then (if decide (r.kind = 1) = true then ((z2q r.data).bind fun x21 => (some (true == x21))) else ((z2q r.data).bind fun x22 => (some ((decide (r.kind = 5)) == x22)))) else (some false))) else (some false))) else (some false))) else (some false))) else (some false))) else (some false))) else (some false))) else (some false)))) else (some false))
def z7a : Con := ⟨63, [.v (.s .req) false], [(.B, true)], [], fun x => z61 x.1⟩
def w7c : Fs := ⟨[z0m, y5o, z5i, z97, z19], [], []⟩
theorem w81 : w7c.Ok Tryz.prog := (fsK z0w (fsK v0o (fsK v0p (fsK zs2 (fsK z72 fs0)))))
theorem zk8 : z7a.Ok Tryz.prog := fn_ok (k := z7a) (fn := Tryz.f63) (W := []) (H := []) Tryz.func63 w81 trivial rfl rfl (fun av x => by kernel_rfl)
def zy7 (h : GHouse) (r : GReq) : Option (GHouse × Int) := if decide ((h.runs.length : Int) ≤ r.case) = true then (some (h, 2)) else ((getI h.runs r.case).bind fun x2 => ((getI h.nets x2.net).bind fun x3 => (if decide (r.kind = 2) = true then ((z7l x3 h.people x2.case r.task r.who).bind fun x5 => (if x5.2 = true then ((getI h.runs r.case).bind fun x7 => (some ((GHouse.mk h.nets h.people h.tree (h.runs.set r.case.toNat (GRun.mk x7.net x5.1))), 1))) else (some (h, 3)))) else (if decide (r.kind = 3) = true then ((zb9 x3 x2.case r.task r.var r.num).bind fun x9 => (if x9.2 = true then ((getI h.runs r.case).bind fun x11 => (some ((GHouse.mk h.nets h.people h.tree (h.runs.set r.case.toNat (GRun.mk x11.net x9.1))), 1))) else (some (h, 3)))) else ((zp5 x3 x2.case).bind fun x12 => (if x12.2 = true then ((getI h.runs r.case).bind fun x14 => (some ((GHouse.mk h.nets h.people h.tree (h.runs.set r.case.toNat (GRun.mk x14.net x12.1))), 1))) else (some (h, 3))))))))
def y5n : Con := ⟨188, [.v (.s .house) true, .v (.s .req) false], [((.s .house), true), (.I, true)], [], fun x => zy7 x.1 x.2.1⟩
def wu5 : Fs := ⟨[zh7, zp1, y29], [], []⟩
theorem wx3 : wu5.Ok Tryz.prog := (fsK yd5 (fsK yp2 (fsK wk7 fs0)))
theorem v0n : y5n.Ok Tryz.prog := fn_ok (k := y5n) (fn := Tryz.f188) (W := []) (H := []) Tryz.func188 wx3 trivial rfl rfl (fun av x => by kernel_rfl)
def ze2 (h : GHouse) (r : GReq) : Option (GHouse × Int) := if decide (r.kind = 1) = true then (if decide ((h.runs.length : Int) = 5) = true then (some (h, 4)) else ((zy0 h.tree r.data).bind fun x3 => (if decide ((h.nets.length : Int) ≤ x3) = true then ((getI h.nets 0).bind fun x5 => ((z9w x5 r.data).bind fun x6 => (gd (h.runs.length + [(GRun.mk 0 x6)].length ≤ SMALL) (some ((GHouse.mk h.nets h.people h.tree (h.runs ++ [(GRun.mk 0 x6)])), 1))))) else ((getI h.nets x3).bind fun x8 => ((z9w x8 r.data).bind fun x9 => (gd (h.runs.length + [(GRun.mk x3 x9)].length ≤ SMALL) (some ((GHouse.mk h.nets h.people h.tree (h.runs ++ [(GRun.mk x3 x9)])), 1)))))))) else (if decide (r.kind = 5) = true then ((z8b h.tree r.data r.if_ r.ans).bind fun x12 => (if x12.2 = true then (some ((GHouse.mk h.nets h.people x12.1 h.runs), 1)) else (some (h, 3)))) else ((zy7 h r).bind fun x14 => (some (x14.1, x14.2))))
def zn8 : Con := ⟨134, [.v (.s .house) true, .v (.s .req) false], [((.s .house), true), (.I, true)], [], fun x => ze2 x.1 x.2.1⟩
def v5l : Fs := ⟨[y5h, zw1, z46, y5n], [], []⟩
theorem v5p : v5l.Ok Tryz.prog := (fsK v0g (fsK w0a (fsK w0f (fsK v0n fs0))))
theorem y61 : zn8.Ok Tryz.prog := fn_ok (k := zn8) (fn := Tryz.f134) (W := []) (H := []) Tryz.func134 v5p trivial rfl rfl (fun av x => by kernel_rfl)
def z83 (r : GReq) : Option GReq := (z0g r.data).bind fun x1 => (some (GReq.mk r.kind r.who r.case r.task r.var r.num x1 r.if_ r.ans))
def zd8 : Con := ⟨149, [.v (.s .req) false], [((.s .req), true)], [], fun x => z83 x.1⟩
def ys2 : Fs := ⟨[z1d], [], []⟩
theorem ys8 : ys2.Ok Tryz.prog := (fsK z2m fs0)
theorem yu6 : zd8.Ok Tryz.prog := fn_ok (k := zd8) (fn := Tryz.f149) (W := []) (H := []) Tryz.func149 ys8 trivial rfl rfl (fun av x => by kernel_rfl)
def z7d (x1 : (List Int)) (x2 : (List GNode)) (l0_1 : List GNet) (l1_1 : List GRun) : Option GHouse := some (GHouse.mk l0_1 x1 x2 l1_1)
def z1p (p1_0 : List GRun) (p1_1 : Int) (kx1_0 : List GRun → Option GHouse) : Nat → Int → List GRun → Option GHouse
  | 0, _, _ => none
  | n1 + 1, s1_0, l1_1 => if decide (s1_0 < p1_1) = true then ((getI p1_0 s1_0).bind fun x9 => ((z08 x9.case).bind fun x10 => (gd (l1_1.length + [(GRun.mk x9.net x10)].length ≤ SMALL) (gd (ok64 (s1_0 + 1)) ((z1p p1_0 p1_1 kx1_0 n1) (s1_0 + 1) (l1_1 ++ [(GRun.mk x9.net x10)])))))) else (kx1_0 l1_1)
def z4t (h : GHouse) (x1 : (List Int)) (x2 : (List GNode)) (l0_1 : List GNet) : Option GHouse := z1p h.runs (h.runs.length : Int) (z7d x1 x2 l0_1) FUEL 0 ([] : List GRun)
def z1o (p0_0 : List GNet) (p0_1 : Int) (kx0_0 : List GNet → Option GHouse) : Nat → Int → List GNet → Option GHouse
  | 0, _, _ => none
  | n0 + 1, s0_0, l0_1 => if decide (s0_0 < p0_1) = true then ((getI p0_0 s0_0).bind fun x4 => ((z85 x4).bind fun x5 => (gd (l0_1.length + [x5].length ≤ SMALL) (gd (ok64 (s0_0 + 1)) ((z1o p0_0 p0_1 kx0_0 n0) (s0_0 + 1) (l0_1 ++ [x5])))))) else (kx0_0 l0_1)
def z2p (h : GHouse) : Option GHouse := (z0g h.people).bind fun x1 => ((z7h h.tree).bind fun x2 => (z1o h.nets (h.nets.length : Int) (z4t h x1 x2) FUEL 0 ([] : List GNet)))
def z09 : Con := ⟨132, [.v (.s .house) false], [((.s .house), true)], [], fun x => z2p x.1⟩
def y8v : Fs := ⟨[z1d, z1h, z1b, z36], [], []⟩
theorem z92 : y8v.Ok Tryz.prog := (fsK z2m (fsK y3u (fsK yu8 (fsK z79 fs0))))
def zl3 : Tmpl := ⟨[(1, .c (.bx 1 0)), (2, .c (.bx 2 0)), (3, .c (.bx 3 0)), (16, .c (.s (.s .net))), (17, .c .i), (18, .c .i)], [(1, .boxT (.s .house)), (2, .box [.nl, .nl, .nl, .nl]), (3, .box [.ref 510300, .ref 10, .ref 13, .nl]), (510300, .arr (.s .net) true), (10, .arr .I true), (13, .arr (.s .node) true)]⟩
def zf6 : Tmpl := ⟨[(1, .c (.bx 1 0)), (2, .c (.bx 2 0)), (3, .c (.bx 3 0))], [(1, .boxT (.s .house)), (2, .box [.nl, .nl, .nl, .nl]), (3, .box [.ref 510300, .ref 10, .ref 13, .nl]), (510300, .arr (.s .net) true), (10, .arr .I true), (13, .arr (.s .node) true)]⟩
def y4v (av : AV) (x : HP z09.ps) (n : Nat) (v : zl3.den) (K : Ks (CR z09)) : Option (CR z09) := z1o v.1.2.2.2.1 v.1.2.2.2.2.1 (fun l0_1 => zf6.at none (((), (), (), ()), (v.2.1, ((), (), (), (), ()), ((), (), (), (), ()), l0_1, v.2.2.2.2.2.1, v.2.2.2.2.2.2.1, ())) (K (.exit 0))) n v.1.2.2.2.2.2.1 v.2.2.2.2.1
def zg5 (av : AV) (x : HP z09.ps) : Hdl (CR z09) := hnd [.b 3 0 510300 (.s .net)] zl3 (y4v av x)
theorem y5p : LP z09 Tryz.f132 [0] zg5 := lp_ok (W := []) (H := []) (xs := [zf6]) z92 trivial rfl (fun av x v K => by kernel_rfl) (fun av x n v K => by kernel_rfl)
def zl4 : Tmpl := ⟨[(2, .c (.bx 2 0)), (3, .c (.bx 3 0)), (31, .c (.s (.s .run))), (32, .c .i), (33, .c .i)], [(2, .box [.nl, .nl, .nl, .nl]), (3, .box [.ref 510300, .ref 10, .ref 13, .ref 510303]), (510300, .arr (.s .net) true), (10, .arr .I true), (13, .arr (.s .node) true), (510303, .arr (.s .run) true)]⟩
def zf7 : Tmpl := ⟨[(2, .c (.bx 2 0)), (3, .c (.bx 3 0))], [(2, .box [.nl, .nl, .nl, .nl]), (3, .box [.ref 510300, .ref 10, .ref 13, .ref 510303]), (510300, .arr (.s .net) true), (10, .arr .I true), (13, .arr (.s .node) true), (510303, .arr (.s .run) true)]⟩
def y4w (av : AV) (x : HP z09.ps) (n : Nat) (v : zl4.den) (K : Ks (CR z09)) : Option (CR z09) := z1p v.1.2.2.1 v.1.2.2.2.1 (fun l1_1 => zf7.at none (((), (), ()), (((), (), (), (), ()), ((), (), (), (), ()), v.2.2.2.1, v.2.2.2.2.1, v.2.2.2.2.2.1, l1_1, ())) (K (.exit 2))) n v.1.2.2.2.2.1 v.2.2.2.2.2.2.1
def zg6 (av : AV) (x : HP z09.ps) : Hdl (CR z09) := hnd [.b 3 3 510303 (.s .run)] zl4 (y4w av x)
theorem y5q : LP z09 Tryz.f132 [1] zg6 := lp_ok (W := []) (H := []) (xs := [zf7]) z92 trivial rfl (fun av x v K => by kernel_rfl) (fun av x n v K => by kernel_rfl)
theorem yc7 : z09.Ok Tryz.prog := fn_ok (k := z09) (fn := Tryz.f132) (W := []) (H := [zg5, zg6]) Tryz.func132 z92 ⟨y5p, y5q, trivial⟩ rfl rfl (fun av x => by kernel_rfl)
def yb6  : Option Bool := some true
def z7p (log : List GReq) (kx0_0 : Option Bool) : Nat → Int → Option Bool
  | 0, _ => none
  | n0 + 1, s0_0 => if decide (s0_0 < (log.length : Int)) = true then ((getI log s0_0).bind fun x3 => ((z61 x3).bind fun x4 => (if x4 = true then (gd (ok64 (s0_0 + 1)) ((z7p log kx0_0 n0) (s0_0 + 1))) else (some false)))) else (kx0_0)
def zf2 (log : List GReq) : Option Bool := if decide (150 < (log.length : Int)) = true then (some false) else (z7p log yb6 FUEL 0)
def z4m : Con := ⟨77, [.v (.sl (.s .req)) false], [(.B, true)], [], fun x => zf2 x.1⟩
def v2j : Fs := ⟨[z7a], [], []⟩
theorem w36 : v2j.Ok Tryz.prog := (fsK zk8 fs0)
def yq6 : Tmpl := ⟨[(0, .c (.s (.s .req))), (3, .c .i)], []⟩
def yh8 : Tmpl := ⟨[], []⟩
def wb3 (av : AV) (x : HP z4m.ps) (n : Nat) (v : yq6.den) (K : Ks (CR z4m)) : Option (CR z4m) := z7p v.1.1 (yh8.at none ((), ()) (K (.exit 0))) n v.1.2.1
def yo2 (av : AV) (x : HP z4m.ps) : Hdl (CR z4m) := hnd [] yq6 (wb3 av x)
theorem wi4 : LP z4m Tryz.f77 [0] yo2 := lp_ok (W := []) (H := []) (xs := [yh8]) w36 trivial rfl (fun av x v K => by kernel_rfl) (fun av x n v K => by kernel_rfl)
theorem yd7 : z4m.Ok Tryz.prog := fn_ok (k := z4m) (fn := Tryz.f77) (W := []) (H := [yo2]) Tryz.func77 w36 ⟨wi4, trivial⟩ rfl rfl (fun av x => by kernel_rfl)
def zy1 (r : GReq) : Option GReq := gd (([] : List Int).length + r.data.length ≤ SMALL) (some (GReq.mk r.kind r.who r.case r.task r.var r.num (([] : List Int) ++ r.data) r.if_ r.ans))
def y5i : Con := ⟨150, [.v (.s .req) false], [((.s .req), true)], [], fun x => zy1 x.1⟩
def wt3 : Fs := ⟨[], [], []⟩
theorem ww5 : wt3.Ok Tryz.prog := fs0
theorem v0h : y5i.Ok Tryz.prog := fn_ok (k := y5i) (fn := Tryz.f150) (W := []) (H := []) Tryz.func150 ww5 trivial rfl rfl (fun av x => by kernel_rfl)
def y73 (l0_1 : List Int) (l0_2 : List GReq) (l0_3 : List GNode) (l0_4 : List GNet) (l0_5 : List GRun) : Option (GHouse × (List GReq)) := some ((GHouse.mk l0_4 l0_1 l0_3 l0_5), l0_2)
def z52 (reqs : List GReq) (kx0_0 : List Int → List GReq → List GNode → List GNet → List GRun → Option (GHouse × (List GReq))) : Nat → Int → List Int → List GReq → List GNode → List GNet → List GRun → Option (GHouse × (List GReq))
  | 0, _, _, _, _, _, _ => none
  | n0 + 1, s0_0, l0_1, l0_2, l0_3, l0_4, l0_5 => if decide (s0_0 < (reqs.length : Int)) = true then ((z35 (GHouse.mk l0_4 l0_1 l0_3 l0_5)).bind fun x7 => ((getI reqs s0_0).bind fun x8 => ((ze2 x7 x8).bind fun x9 => (if decide (x9.2 = 1) = true then ((getI reqs s0_0).bind fun x11 => ((zy1 x11).bind fun x12 => (gd (l0_2.length + [x12].length ≤ SMALL) (gd (ok64 (s0_0 + 1)) ((z52 reqs kx0_0 n0) (s0_0 + 1) x9.1.people (l0_2 ++ [x12]) x9.1.tree x9.1.nets x9.1.runs))))) else (gd (ok64 (s0_0 + 1)) ((z52 reqs kx0_0 n0) (s0_0 + 1) l0_1 l0_2 l0_3 l0_4 l0_5)))))) else (kx0_0 l0_1 l0_2 l0_3 l0_4 l0_5)
def zx7 (h : GHouse) (reqs : List GReq) : Option (GHouse × (List GReq)) := (zf1 h).bind fun x1 => (if x1 = true then ((zf2 reqs).bind fun x3 => (if x3 = true then ((z35 h).bind fun x5 => (z52 reqs y73 FUEL 0 x5.people ([] : List GReq) x5.tree x5.nets x5.runs)) else (some ((GHouse.mk [] [] [] []), ([] : List GReq))))) else (some ((GHouse.mk [] [] [] []), ([] : List GReq))))
def z5e : Con := ⟨75, [.v (.s .house) false, .v (.sl (.s .req)) false], [((.s .house), true), ((.sl (.s .req)), true)], [], fun x => zx7 x.1 x.2.1⟩
def ws7 : Fs := ⟨[z4k, z4m, z0q, zn8, y5i], [], []⟩
theorem yy1 : ws7.Ok Tryz.prog := (fsK yd6 (fsK yd7 (fsK zz2 (fsK y61 (fsK v0h fs0)))))
def yf4 : Tmpl := ⟨[(1, .c (.s (.s .req))), (4, .c (.bx 4 0)), (6, .c (.ref 11)), (7, .c (.bx 7 0)), (8, .c .i)], [(4, .box [.nl, .nl, .nl, .nl]), (7, .box [.ref 23, .ref 10023, .ref 20023, .ref 30023]), (11, .arr (.s .req) true), (23, .arr (.s .net) true), (10023, .arr .I true), (20023, .arr (.s .node) true), (30023, .arr (.s .run) true)]⟩
def y89 : Tmpl := ⟨[(4, .c (.bx 4 0)), (6, .c (.ref 11)), (7, .c (.bx 7 0))], [(4, .box [.nl, .nl, .nl, .nl]), (7, .box [.ref 23, .ref 10023, .ref 20023, .ref 30023]), (11, .arr (.s .req) true), (23, .arr (.s .net) true), (10023, .arr .I true), (20023, .arr (.s .node) true), (30023, .arr (.s .run) true)]⟩
def w6i (av : AV) (x : HP z5e.ps) (n : Nat) (v : yf4.den) (K : Ks (CR z5e)) : Option (CR z5e) := z52 v.1.1 (fun l0_1 l0_2 l0_3 l0_4 l0_5 => y89.at none (((), (), (), ()), (((), (), (), (), ()), ((), (), (), (), ()), l0_2, l0_4, l0_1, l0_3, l0_5, ())) (K (.exit 0))) n v.1.2.2.2.2.1 v.2.2.2.2.2.1 v.2.2.2.1 v.2.2.2.2.2.2.1 v.2.2.2.2.1 v.2.2.2.2.2.2.2.1
def y9j (av : AV) (x : HP z5e.ps) : Hdl (CR z5e) := hnd [] yf4 (w6i av x)
theorem w8j : LP z5e Tryz.f75 [0] y9j := lp_ok (W := []) (H := []) (xs := [y89]) yy1 trivial rfl (fun av x v K => by kernel_rfl) (fun av x n v K => by kernel_rfl)
theorem v0d : z5e.Ok Tryz.prog := fn_ok (k := z5e) (fn := Tryz.f75) (W := []) (H := [y9j]) Tryz.func75 yy1 ⟨w8j, trivial⟩ rfl rfl (fun av x => by kernel_rfl)
def y3m (l0_1 : List Int) (l0_2 : List GNet) (l0_3 : List GNode) (l0_4 : List GRun) : Option (GHouse × Bool) := some ((GHouse.mk l0_2 l0_1 l0_3 l0_4), true)
def z5x (log : List GReq) (kx0_0 : List Int → List GNet → List GNode → List GRun → Option (GHouse × Bool)) : Nat → Int → List Int → List GNet → List GNode → List GRun → Option (GHouse × Bool)
  | 0, _, _, _, _, _ => none
  | n0 + 1, s0_0, l0_1, l0_2, l0_3, l0_4 => if decide (s0_0 < (log.length : Int)) = true then ((z35 (GHouse.mk l0_2 l0_1 l0_3 l0_4)).bind fun x7 => ((getI log s0_0).bind fun x8 => ((ze2 x7 x8).bind fun x9 => (if decide (x9.2 = 1) = true then (gd (ok64 (s0_0 + 1)) ((z5x log kx0_0 n0) (s0_0 + 1) x9.1.people x9.1.nets x9.1.tree x9.1.runs)) else (some ((GHouse.mk [] [] [] []), false)))))) else (kx0_0 l0_1 l0_2 l0_3 l0_4)
def z5q (h : GHouse) (log : List GReq) : Option (GHouse × Bool) := (zf1 h).bind fun x1 => (if x1 = true then ((zf2 log).bind fun x3 => (if x3 = true then ((z35 h).bind fun x5 => (z5x log y3m FUEL 0 x5.people x5.nets x5.tree x5.runs)) else (some ((GHouse.mk [] [] [] []), false)))) else (some ((GHouse.mk [] [] [] []), false)))
def z45 : Con := ⟨79, [.v (.s .house) false, .v (.sl (.s .req)) false], [((.s .house), true), (.B, true)], [], fun x => z5q x.1 x.2.1⟩
def we1 : Fs := ⟨[z4k, z4m, z0q, zn8], [], []⟩
theorem ym2 : we1.Ok Tryz.prog := (fsK yd6 (fsK yd7 (fsK zz2 (fsK y61 fs0))))
def y7p : Tmpl := ⟨[(1, .c (.s (.s .req))), (4, .c (.bx 4 0)), (6, .c (.bx 6 0)), (7, .c .i)], [(4, .box [.nl, .nl, .nl, .nl]), (6, .box [.ref 20, .ref 10020, .ref 20020, .ref 30020]), (20, .arr (.s .net) true), (10020, .arr .I true), (20020, .arr (.s .node) true), (30020, .arr (.s .run) true)]⟩
def y4l : Tmpl := ⟨[(4, .c (.bx 4 0)), (6, .c (.bx 6 0))], [(4, .box [.nl, .nl, .nl, .nl]), (6, .box [.ref 20, .ref 10020, .ref 20020, .ref 30020]), (20, .arr (.s .net) true), (10020, .arr .I true), (20020, .arr (.s .node) true), (30020, .arr (.s .run) true)]⟩
def w4b (av : AV) (x : HP z45.ps) (n : Nat) (v : y7p.den) (K : Ks (CR z45)) : Option (CR z45) := z5x v.1.1 (fun l0_1 l0_2 l0_3 l0_4 => y4l.at none (((), (), ()), (((), (), (), (), ()), ((), (), (), (), ()), l0_2, l0_1, l0_3, l0_4, ())) (K (.exit 0))) n v.1.2.2.2.1 v.2.2.2.2.1 v.2.2.2.1 v.2.2.2.2.2.1 v.2.2.2.2.2.2.1
def y6o (av : AV) (x : HP z45.ps) : Hdl (CR z45) := hnd [] y7p (w4b av x)
theorem w5b : LP z45 Tryz.f79 [0] y6o := lp_ok (W := []) (H := []) (xs := [y4l]) ym2 trivial rfl (fun av x v K => by kernel_rfl) (fun av x n v K => by kernel_rfl)
theorem wl0 : z45.Ok Tryz.prog := fn_ok (k := z45) (fn := Tryz.f79) (W := []) (H := [y6o]) Tryz.func79 ym2 ⟨w5b, trivial⟩ rfl rfl (fun av x => by kernel_rfl)
def y70  : Option Int := some (-1)
def z66 (s : List Int) (p : Int → Option Bool) (p0_0 : Int) (kx0_0 : Option Int) : Nat → Int → Option Int
  | 0, _ => none
  | n0 + 1, s0_0 => if decide (s0_0 < p0_0) = true then ((getI s s0_0).bind fun x2 => ((p x2).bind fun x3 => (if x3 = true then (some s0_0) else (gd (ok64 (s0_0 + 1)) ((z66 s p p0_0 kx0_0 n0) (s0_0 + 1)))))) else (kx0_0)
def zw4 (s : List Int) (p : Int → Option Bool) : Option Int := z66 s p (s.length : Int) y70 FUEL 0
def z40 : Con := ⟨175, [.v (.sl .I) false, .fn .I], [(.I, true)], [], fun x => zw4 x.1 x.2.1⟩
def wq5 : Fs := ⟨[], [], []⟩
theorem yw9 : wq5.Ok Tryz.prog := fs0
def ye5 : Tmpl := ⟨[(0, .c (.s .I)), (1, .c .fp), (7, .c .i), (8, .c .i)], []⟩
def y80 : Tmpl := ⟨[], []⟩
def w69 (av : AV) (x : HP z40.ps) (n : Nat) (v : ye5.den) (K : Ks (CR z40)) : Option (CR z40) := z66 v.1.1 x.2.1 v.1.2.2.1 (y80.at (fpOf z40.ps x av) ((), ()) (K (.exit 0))) n v.1.2.2.2.1
def y9a (av : AV) (x : HP z40.ps) : Hdl (CR z40) := hnd [] ye5 (w69 av x)
theorem w8a : LP z40 Tryz.f175 [0] y9a := lp_ok (W := []) (H := []) (xs := [y80]) yw9 trivial rfl (fun av x v K => by kernel_rfl) (fun av x n v K => by kernel_rfl)
theorem wz7 : z40.Ok Tryz.prog := fn_ok (k := z40) (fn := Tryz.f175) (W := []) (H := [y9a]) Tryz.func175 yw9 ⟨w8a, trivial⟩ rfl rfl (fun av x => by kernel_rfl)
def z2i (s : List Int) (p : Int → Option Bool) : Option Bool := (zw4 s p).bind fun x1 => (some (decide (0 ≤ x1)))
def z50 : Con := ⟨118, [.v (.sl .I) false, .fn .I], [(.B, true)], [], fun x => z2i x.1 x.2.1⟩
def w4n : Fs := ⟨[z40], [], []⟩
theorem w4v : w4n.Ok Tryz.prog := (fsK wz7 fs0)
theorem z8m : z50.Ok Tryz.prog := fn_ok (k := z50) (fn := Tryz.f118) (W := []) (H := []) Tryz.func118 w4v trivial rfl rfl (fun av x => by kernel_rfl)
def y0b  : Option Int := some (-1)
def z3n (s : List GReq) (p : GReq → Option Bool) (p0_0 : Int) (kx0_0 : Option Int) : Nat → Int → Option Int
  | 0, _ => none
  | n0 + 1, s0_0 => if decide (s0_0 < p0_0) = true then ((getI s s0_0).bind fun x2 => ((p x2).bind fun x3 => (if x3 = true then (some s0_0) else (gd (ok64 (s0_0 + 1)) ((z3n s p p0_0 kx0_0 n0) (s0_0 + 1)))))) else (kx0_0)
def zd0 (s : List GReq) (p : GReq → Option Bool) : Option Int := z3n s p (s.length : Int) y0b FUEL 0
def z1x : Con := ⟨212, [.v (.sl (.s .req)) false, .fn (.s .req)], [(.I, true)], [], fun x => zd0 x.1 x.2.1⟩
def w4p : Fs := ⟨[], [], []⟩
theorem y6b : w4p.Ok Tryz.prog := fs0
def y1l : Tmpl := ⟨[(0, .c (.s (.s .req))), (1, .c .fp), (7, .c .i), (8, .c .i)], []⟩
def y0q : Tmpl := ⟨[], []⟩
def yv6 (av : AV) (x : HP z1x.ps) (n : Nat) (v : y1l.den) (K : Ks (CR z1x)) : Option (CR z1x) := z3n v.1.1 x.2.1 v.1.2.2.1 (y0q.at (fpOf z1x.ps x av) ((), ()) (K (.exit 0))) n v.1.2.2.2.1
def y0y (av : AV) (x : HP z1x.ps) : Hdl (CR z1x) := hnd [] y1l (yv6 av x)
theorem yz7 : LP z1x Tryz.f212 [0] y0y := lp_ok (W := []) (H := []) (xs := [y0q]) y6b trivial rfl (fun av x v K => by kernel_rfl) (fun av x n v K => by kernel_rfl)
theorem w5n : z1x.Ok Tryz.prog := fn_ok (k := z1x) (fn := Tryz.f212) (W := []) (H := [y0y]) Tryz.func212 y6b ⟨yz7, trivial⟩ rfl rfl (fun av x => by kernel_rfl)
def z82 (s : List GReq) (p : GReq → Option Bool) : Option Bool := (zd0 s p).bind fun x1 => (some (decide (0 ≤ x1)))
def zd7 : Con := ⟨193, [.v (.sl (.s .req)) false, .fn (.s .req)], [(.B, true)], [], fun x => z82 x.1 x.2.1⟩
def ys1 : Fs := ⟨[z1x], [], []⟩
theorem ys7 : ys1.Ok Tryz.prog := (fsK w5n fs0)
theorem yu5 : zd7.Ok Tryz.prog := fn_ok (k := zd7) (fn := Tryz.f193) (W := []) (H := []) Tryz.func193 ys7 trivial rfl rfl (fun av x => by kernel_rfl)
def zu5  : Option Int := some (-1)
def z38 (s : List GTask) (p : GTask → Option Bool) (p0_0 : Int) (kx0_0 : Option Int) : Nat → Int → Option Int
  | 0, _ => none
  | n0 + 1, s0_0 => if decide (s0_0 < p0_0) = true then ((getI s s0_0).bind fun x2 => ((p x2).bind fun x3 => (if x3 = true then (some s0_0) else (gd (ok64 (s0_0 + 1)) ((z38 s p p0_0 kx0_0 n0) (s0_0 + 1)))))) else (kx0_0)
def z9r (s : List GTask) (p : GTask → Option Bool) : Option Int := z38 s p (s.length : Int) zu5 FUEL 0
def z1g : Con := ⟨176, [.v (.sl (.s .task)) false, .fn (.s .task)], [(.I, true)], [], fun x => z9r x.1 x.2.1⟩
def w1h : Fs := ⟨[], [], []⟩
theorem y32 : w1h.Ok Tryz.prog := fs0
def y0k : Tmpl := ⟨[(0, .c (.s (.s .task))), (1, .c .fp), (7, .c .i), (8, .c .i)], []⟩
def zv0 : Tmpl := ⟨[], []⟩
def yr4 (av : AV) (x : HP z1g.ps) (n : Nat) (v : y0k.den) (K : Ks (CR z1g)) : Option (CR z1g) := z38 v.1.1 x.2.1 v.1.2.2.1 (zv0.at (fpOf z1g.ps x av) ((), ()) (K (.exit 0))) n v.1.2.2.2.1
def y01 (av : AV) (x : HP z1g.ps) : Hdl (CR z1g) := hnd [] y0k (yr4 av x)
theorem yt6 : LP z1g Tryz.f176 [0] y01 := lp_ok (W := []) (H := []) (xs := [zv0]) y32 trivial rfl (fun av x v K => by kernel_rfl) (fun av x n v K => by kernel_rfl)
theorem w2g : z1g.Ok Tryz.prog := fn_ok (k := z1g) (fn := Tryz.f176) (W := []) (H := [y01]) Tryz.func176 y32 ⟨yt6, trivial⟩ rfl rfl (fun av x => by kernel_rfl)
def z76 (s : List GTask) (p : GTask → Option Bool) : Option Bool := (z9r s p).bind fun x1 => (some (decide (0 ≤ x1)))
def za9 : Con := ⟨123, [.v (.sl (.s .task)) false, .fn (.s .task)], [(.B, true)], [], fun x => z76 x.1 x.2.1⟩
def yk3 : Fs := ⟨[z1g], [], []⟩
theorem yk9 : yk3.Ok Tryz.prog := (fsK w2g fs0)
theorem yl4 : za9.Ok Tryz.prog := fn_ok (k := za9) (fn := Tryz.f123) (W := []) (H := []) Tryz.func123 yk9 trivial rfl rfl (fun av x => by kernel_rfl)
def y0a  : Option Int := some (-1)
def z3m (s : List GNet) (p : GNet → Option Bool) (p0_0 : Int) (kx0_0 : Option Int) : Nat → Int → Option Int
  | 0, _ => none
  | n0 + 1, s0_0 => if decide (s0_0 < p0_0) = true then ((getI s s0_0).bind fun x2 => ((p x2).bind fun x3 => (if x3 = true then (some s0_0) else (gd (ok64 (s0_0 + 1)) ((z3m s p p0_0 kx0_0 n0) (s0_0 + 1)))))) else (kx0_0)
def zc9 (s : List GNet) (p : GNet → Option Bool) : Option Int := z3m s p (s.length : Int) y0a FUEL 0
def z1w : Con := ⟨180, [.v (.sl (.s .net)) false, .fn (.s .net)], [(.I, true)], [], fun x => zc9 x.1 x.2.1⟩
def w4o : Fs := ⟨[], [], []⟩
theorem y6a : w4o.Ok Tryz.prog := fs0
def y1k : Tmpl := ⟨[(0, .c (.s (.s .net))), (1, .c .fp), (7, .c .i), (8, .c .i)], []⟩
def y0p : Tmpl := ⟨[], []⟩
def yv5 (av : AV) (x : HP z1w.ps) (n : Nat) (v : y1k.den) (K : Ks (CR z1w)) : Option (CR z1w) := z3m v.1.1 x.2.1 v.1.2.2.1 (y0p.at (fpOf z1w.ps x av) ((), ()) (K (.exit 0))) n v.1.2.2.2.1
def y0x (av : AV) (x : HP z1w.ps) : Hdl (CR z1w) := hnd [] y1k (yv5 av x)
theorem yz6 : LP z1w Tryz.f180 [0] y0x := lp_ok (W := []) (H := []) (xs := [y0p]) y6a trivial rfl (fun av x v K => by kernel_rfl) (fun av x n v K => by kernel_rfl)
theorem w5m : z1w.Ok Tryz.prog := fn_ok (k := z1w) (fn := Tryz.f180) (W := []) (H := [y0x]) Tryz.func180 y6a ⟨yz6, trivial⟩ rfl rfl (fun av x => by kernel_rfl)
def z81 (s : List GNet) (p : GNet → Option Bool) : Option Bool := (zc9 s p).bind fun x1 => (some (decide (0 ≤ x1)))
def zd6 : Con := ⟨126, [.v (.sl (.s .net)) false, .fn (.s .net)], [(.B, true)], [], fun x => z81 x.1 x.2.1⟩
def ys0 : Fs := ⟨[z1w], [], []⟩
theorem ys6 : ys0.Ok Tryz.prog := (fsK w5m fs0)
theorem yu4 : zd6.Ok Tryz.prog := fn_ok (k := zd6) (fn := Tryz.f126) (W := []) (H := []) Tryz.func126 ys6 trivial rfl rfl (fun av x => by kernel_rfl)
def zu4  : Option Int := some (-1)
def z37 (s : List GItem) (p : GItem → Option Bool) (p0_0 : Int) (kx0_0 : Option Int) : Nat → Int → Option Int
  | 0, _ => none
  | n0 + 1, s0_0 => if decide (s0_0 < p0_0) = true then ((getI s s0_0).bind fun x2 => ((p x2).bind fun x3 => (if x3 = true then (some s0_0) else (gd (ok64 (s0_0 + 1)) ((z37 s p p0_0 kx0_0 n0) (s0_0 + 1)))))) else (kx0_0)
def z9q (s : List GItem) (p : GItem → Option Bool) : Option Int := z37 s p (s.length : Int) zu4 FUEL 0
def z1f : Con := ⟨169, [.v (.sl (.s .item)) false, .fn (.s .item)], [(.I, true)], [], fun x => z9q x.1 x.2.1⟩
def w1g : Fs := ⟨[], [], []⟩
theorem y31 : w1g.Ok Tryz.prog := fs0
def y0j : Tmpl := ⟨[(0, .c (.s (.s .item))), (1, .c .fp), (7, .c .i), (8, .c .i)], []⟩
def zu9 : Tmpl := ⟨[], []⟩
def yr3 (av : AV) (x : HP z1f.ps) (n : Nat) (v : y0j.den) (K : Ks (CR z1f)) : Option (CR z1f) := z37 v.1.1 x.2.1 v.1.2.2.1 (zu9.at (fpOf z1f.ps x av) ((), ()) (K (.exit 0))) n v.1.2.2.2.1
def y00 (av : AV) (x : HP z1f.ps) : Hdl (CR z1f) := hnd [] y0j (yr3 av x)
theorem yt5 : LP z1f Tryz.f169 [0] y00 := lp_ok (W := []) (H := []) (xs := [zu9]) y31 trivial rfl (fun av x v K => by kernel_rfl) (fun av x n v K => by kernel_rfl)
theorem w2f : z1f.Ok Tryz.prog := fn_ok (k := z1f) (fn := Tryz.f169) (W := []) (H := [y00]) Tryz.func169 y31 ⟨yt5, trivial⟩ rfl rfl (fun av x => by kernel_rfl)
def z75 (s : List GItem) (p : GItem → Option Bool) : Option Bool := (z9q s p).bind fun x1 => (some (decide (0 ≤ x1)))
def za8 : Con := ⟨107, [.v (.sl (.s .item)) false, .fn (.s .item)], [(.B, true)], [], fun x => z75 x.1 x.2.1⟩
def yk2 : Fs := ⟨[z1f], [], []⟩
theorem yk8 : yk2.Ok Tryz.prog := (fsK w2f fs0)
theorem yl3 : za8.Ok Tryz.prog := fn_ok (k := za8) (fn := Tryz.f107) (W := []) (H := []) Tryz.func107 yk8 trivial rfl rfl (fun av x => by kernel_rfl)
def w3j  : Option Int := some (-1)
def ze8 (s : List Int) (v : Int) (p0_0 : Int) (kx0_0 : Option Int) : Nat → Int → Option Int
  | 0, _ => none
  | n0 + 1, s0_0 => if decide (s0_0 < p0_0) = true then ((getI s s0_0).bind fun x2 => (if decide (v = x2) = true then (some s0_0) else (gd (ok64 (s0_0 + 1)) ((ze8 s v p0_0 kx0_0 n0) (s0_0 + 1))))) else (kx0_0)
def w02 (s : List Int) (v : Int) : Option Int := ze8 s v (s.length : Int) w3j FUEL 0
def zh3 : Con := ⟨163, [.v (.sl .I) false, .v .I false], [(.I, true)], [], fun x => w02 x.1 x.2.1⟩
def va1 : Fs := ⟨[], [], []⟩
theorem v2v : va1.Ok Tryz.prog := fs0
def w9x : Tmpl := ⟨[(0, .c (.s .I)), (1, .c .i), (7, .c .i), (8, .c .i)], []⟩
def w3z : Tmpl := ⟨[], []⟩
def v5a (av : AV) (x : HP zh3.ps) (n : Nat) (v : w9x.den) (K : Ks (CR zh3)) : Option (CR zh3) := ze8 v.1.1 v.1.2.1 v.1.2.2.1 (w3z.at none ((), ()) (K (.exit 0))) n v.1.2.2.2.1
def w84 (av : AV) (x : HP zh3.ps) : Hdl (CR zh3) := hnd [] w9x (v5a av x)
theorem v5z : LP zh3 Tryz.f163 [0] w84 := lp_ok (W := []) (H := []) (xs := [w3z]) v2v trivial rfl (fun av x v K => by kernel_rfl) (fun av x n v K => by kernel_rfl)
theorem ve6 : zh3.Ok Tryz.prog := fn_ok (k := zh3) (fn := Tryz.f163) (W := []) (H := [w84]) Tryz.func163 v2v ⟨v5z, trivial⟩ rfl rfl (fun av x => by kernel_rfl)
def ze6 (s : List Int) (v : Int) : Option Bool := (w02 s v).bind fun x1 => (some (decide (0 ≤ x1)))
def zr2 : Con := ⟨92, [.v (.sl .I) false, .v .I false], [(.B, true)], [], fun x => ze6 x.1 x.2.1⟩
def v20 : Fs := ⟨[zh3], [], []⟩
theorem v2t : v20.Ok Tryz.prog := (fsK ve6 fs0)
theorem yc6 : zr2.Ok Tryz.prog := fn_ok (k := zr2) (fn := Tryz.f92) (W := []) (H := []) Tryz.func92 v2t trivial rfl rfl (fun av x => by kernel_rfl)
def ya8  : Option Int := some (-1)
def z7b (s : List GDid) (v : GDid) (p0_0 : Int) (kx0_0 : Option Int) : Nat → Int → Option Int
  | 0, _ => none
  | n0 + 1, s0_0 => if decide (s0_0 < p0_0) = true then ((getI s s0_0).bind fun x2 => (if decide ([v.task, v.who] = [x2.task, x2.who]) = true then (some s0_0) else (gd (ok64 (s0_0 + 1)) ((z7b s v p0_0 kx0_0 n0) (s0_0 + 1))))) else (kx0_0)
def y14 (s : List GDid) (v : GDid) : Option Int := z7b s v (s.length : Int) ya8 FUEL 0
def z6l : Con := ⟨204, [.v (.sl (.s .did)) false, .v (.s .did) false], [(.I, true)], [], fun x => y14 x.1 x.2.1⟩
def v21 : Fs := ⟨[], [], []⟩
theorem w2x : v21.Ok Tryz.prog := fs0
def yp5 : Tmpl := ⟨[(0, .c (.s (.s .did))), (3, .c (.bx 3 0)), (7, .c .i), (8, .c .i)], [(3, .boxT (.s .did))]⟩
def yg7 : Tmpl := ⟨[], []⟩
def wa2 (av : AV) (x : HP z6l.ps) (n : Nat) (v : yp5.den) (K : Ks (CR z6l)) : Option (CR z6l) := z7b v.1.1 v.2.1 v.1.2.2.1 (yg7.at none ((), ()) (K (.exit 0))) n v.1.2.2.2.1
def yn1 (av : AV) (x : HP z6l.ps) : Hdl (CR z6l) := hnd [] yp5 (wa2 av x)
theorem wh3 : LP z6l Tryz.f204 [0] yn1 := lp_ok (W := []) (H := []) (xs := [yg7]) w2x trivial rfl (fun av x v K => by kernel_rfl) (fun av x n v K => by kernel_rfl)
theorem v3v : z6l.Ok Tryz.prog := fn_ok (k := z6l) (fn := Tryz.f204) (W := []) (H := [yn1]) Tryz.func204 w2x ⟨wh3, trivial⟩ rfl rfl (fun av x => by kernel_rfl)
def y09 (s : List GDid) (v : GDid) : Option Bool := (y14 s v).bind fun x1 => (some (decide (0 ≤ x1)))
def y06 : Con := ⟨170, [.v (.sl (.s .did)) false, .v (.s .did) false], [(.B, true)], [], fun x => y09 x.1 x.2.1⟩
def w73 : Fs := ⟨[z6l], [], []⟩
theorem w7t : w73.Ok Tryz.prog := (fsK v3v fs0)
theorem w8y : y06.Ok Tryz.prog := fn_ok (k := y06) (fn := Tryz.f170) (W := []) (H := []) Tryz.func170 w7t trivial rfl rfl (fun av x => by kernel_rfl)
def w3i  : Option Bool := some true
def ze7 (s1 : List Int) (s2 : List Int) (p0_0 : Int) (kx0_0 : Option Bool) : Nat → Int → Option Bool
  | 0, _ => none
  | n0 + 1, s0_0 => if decide (s0_0 < p0_0) = true then ((getI s1 s0_0).bind fun x3 => ((getI s2 s0_0).bind fun x4 => (if decide (x3 = x4) = true then (gd (ok64 (s0_0 + 1)) ((ze7 s1 s2 p0_0 kx0_0 n0) (s0_0 + 1))) else (some false)))) else (kx0_0)
def w01 (s1 : List Int) (s2 : List Int) : Option Bool := if decide ((s1.length : Int) = (s2.length : Int)) = true then (ze7 s1 s2 (s1.length : Int) w3i FUEL 0) else (some false)
def zh2 : Con := ⟨192, [.v (.sl .I) false, .v (.sl .I) false], [(.B, true)], [], fun x => w01 x.1 x.2.1⟩
def va0 : Fs := ⟨[], [], []⟩
theorem v2u : va0.Ok Tryz.prog := fs0
def w9w : Tmpl := ⟨[(0, .c (.s .I)), (1, .c (.s .I)), (12, .c .i), (13, .c .i)], []⟩
def w3y : Tmpl := ⟨[], []⟩
def v59 (av : AV) (x : HP zh2.ps) (n : Nat) (v : w9w.den) (K : Ks (CR zh2)) : Option (CR zh2) := ze7 v.1.1 v.1.2.1 v.1.2.2.1 (w3y.at none ((), ()) (K (.exit 0))) n v.1.2.2.2.1
def w83 (av : AV) (x : HP zh2.ps) : Hdl (CR zh2) := hnd [] w9w (v59 av x)
theorem v5y : LP zh2 Tryz.f192 [0] w83 := lp_ok (W := []) (H := []) (xs := [w3y]) v2u trivial rfl (fun av x v K => by kernel_rfl) (fun av x n v K => by kernel_rfl)
theorem ve5 : zh2.Ok Tryz.prog := fn_ok (k := zh2) (fn := Tryz.f192) (W := []) (H := [w83]) Tryz.func192 v2u ⟨v5y, trivial⟩ rfl rfl (fun av x => by kernel_rfl)
def y2f (n : Int) : Option Bool := (z5p n).bind fun x1 => (some (!x1))
def y2o : FCon := ⟨162, .I, [], fun z c => y2f z ⟩
def wc3 : Fs := ⟨[z8o], [], []⟩
theorem wf7 : wc3.Ok Tryz.prog := (fsK zq6 fs0)
theorem wj4 : y2o.Ok Tryz.prog := FCon.ok (fn_ok (k := y2o.con) (fn := Tryz.f162) (W := []) (H := []) Tryz.func162 wf7 trivial rfl rfl (fun av x => by kernel_rfl))
def z3e (data : List Int) : Option Bool := if decide ((data.length : Int) = 3) = true then ((z2i data (fun z => y2f z )).bind fun x2 => (some (!x2))) else (some false)
def z5m : Con := ⟨91, [.v (.sl .I) false], [(.B, true)], [], fun x => z3e x.1⟩
def v23 : Fs := ⟨[z50], [y2o], []⟩
theorem v2w : v23.Ok Tryz.prog := (fsK z8m (fsF wj4 fs0))
theorem z7y : z5m.Ok Tryz.prog := fn_ok (k := z5m) (fn := Tryz.f91) (W := []) (H := []) Tryz.func91 v2w trivial rfl rfl (fun av x => by kernel_rfl)
def z2h (e : GAsk) (data : List Int) : Option Bool := (z7x e).bind fun x1 => (if x1 = true then ((z3e data).bind fun x3 => (if x3 = true then (if decide (e.op = 1) = true then ((getI data e.var).bind fun x6 => (some (decide (x6 < e.k)))) else (if decide (e.op = 2) = true then ((getI data e.var).bind fun x8 => (some (decide (x8 = e.k)))) else (if decide (e.op = 3) = true then ((getI data e.var).bind fun x10 => (some (decide (e.k < x10)))) else (some true)))) else (some false))) else (some false))
def z4j : Con := ⟨120, [.v (.s .ask) false, .v (.sl .I) false], [(.B, true)], [], fun x => z2h x.1 x.2.1⟩
def w76 : Fs := ⟨[zr3, z5m], [], []⟩
theorem w7w : w76.Ok Tryz.prog := (fsK yc8 (fsK z7y fs0))
theorem z7v : z4j.Ok Tryz.prog := fn_ok (k := z4j) (fn := Tryz.f120) (W := []) (H := []) Tryz.func120 w7w trivial rfl rfl (fun av x => by kernel_rfl)
def y3h  : Option Bool := some true
def z5t (list : List Int) (places : Int) (without : List Int) (p0_0 : Int) (kx0_0 : Option Bool) : Nat → Int → Int → Option Bool
  | 0, _, _ => none
  | n0 + 1, s0_0, s0_1 => if decide (s0_0 < p0_0) = true then ((getI list s0_0).bind fun x2 => (gd (ok64 (s0_1 + 1)) (gd (ok64 (places - 1)) ((z0c x2 (s0_1 + 1) (places - 1)).bind fun x5 => (if x5 = true then ((ze6 without x2).bind fun x7 => (if x7 = true then (some false) else (gd (ok64 (s0_0 + 1)) ((z5t list places without p0_0 kx0_0 n0) (s0_0 + 1) x2)))) else (some false)))))) else (kx0_0)
def zb8 (list : List Int) (places : Int) (without : List Int) : Option Bool := z5t list places without (list.length : Int) y3h FUEL 0 (-1)
def z43 : Con := ⟨178, [.v (.sl .I) false, .v .I false, .v (.sl .I) false], [(.B, true)], [], fun x => zb8 x.1 x.2.1 x.2.2.1⟩
def wd1 : Fs := ⟨[z25, zr2], [], []⟩
theorem yl9 : wd1.Ok Tryz.prog := (fsK z2s (fsK yc6 fs0))
def y7i : Tmpl := ⟨[(1, .c .i), (2, .c (.s .I)), (7, .c .i), (10, .c (.s .I)), (11, .c .i), (12, .c .i)], []⟩
def y4f : Tmpl := ⟨[], []⟩
def w44 (av : AV) (x : HP z43.ps) (n : Nat) (v : y7i.den) (K : Ks (CR z43)) : Option (CR z43) := z5t v.1.2.2.2.1 v.1.1 v.1.2.1 v.1.2.2.2.2.1 (y4f.at none ((), ()) (K (.exit 0))) n v.1.2.2.2.2.2.1 v.1.2.2.1
def y6h (av : AV) (x : HP z43.ps) : Hdl (CR z43) := hnd [] y7i (w44 av x)
theorem w54 : LP z43 Tryz.f178 [0] y6h := lp_ok (W := []) (H := []) (xs := [y4f]) yl9 trivial rfl (fun av x v K => by kernel_rfl) (fun av x n v K => by kernel_rfl)
theorem wk3 : z43.Ok Tryz.prog := fn_ok (k := z43) (fn := Tryz.f178) (W := []) (H := [y6h]) Tryz.func178 yl9 ⟨w54, trivial⟩ rfl rfl (fun av x => by kernel_rfl)
def z88 (t : GTask) : Option Bool := (z0c (t.out.length : Int) 1 3).bind fun x21 => (some x21)
def z1c (t : GTask) (places : Int) (p0_0 : List GFlow) (p0_1 : Int) (kx0_0 : Option Bool) : Nat → Int → List Int → Option Bool
  | 0, _, _ => none
  | n0 + 1, s0_0, m0_1 => if decide (s0_0 < p0_1) = true then ((getI p0_0 s0_0).bind fun x2 => (if decide (t.split = 1) = true then (gd (ok64 (places - 1)) ((z0c x2.to 0 (places - 1)).bind fun x5 => (if x5 = true then (if decide (x2.to ∈ m0_1) = true then (some false) else ((z7x x2.if_).bind fun x8 => (if x8 = true then (if ((decide (x2.if_.op = 0)) == true) = true then (gd (ok64 (s0_0 + 1)) ((z1c t places p0_0 p0_1 kx0_0 n0) (s0_0 + 1) (insKey m0_1 x2.to))) else (some false)) else (some false)))) else (some false)))) else (gd (ok64 ((t.out.length : Int) - 1)) (gd (ok64 (places - 1)) ((z0c x2.to 0 (places - 1)).bind fun x14 => (if x14 = true then (if decide (x2.to ∈ m0_1) = true then (some false) else ((z7x x2.if_).bind fun x17 => (if x17 = true then (if ((decide (x2.if_.op = 0)) == (decide (s0_0 = ((t.out.length : Int) - 1)))) = true then (gd (ok64 (s0_0 + 1)) ((z1c t places p0_0 p0_1 kx0_0 n0) (s0_0 + 1) (insKey m0_1 x2.to))) else (some false)) else (some false)))) else (some false))))))) else (kx0_0)
def z78 (t : GTask) (places : Int) : Option Bool := z1c t places t.out (t.out.length : Int) (z88 t) FUEL 0 (insKey ([] : List Int) 0)
def z12 : Con := ⟨179, [.v (.s .task) false, .v .I false], [(.B, true)], [], fun x => z78 x.1 x.2.1⟩
def yk7 : Fs := ⟨[z25, zr3], [], []⟩
theorem zu2 : yk7.Ok Tryz.prog := (fsK z2s (fsK yc8 fs0))
def zm7 : Tmpl := ⟨[(1, .c .i), (2, .c (.bx 2 0)), (5, .c (.bx 9 0)), (12, .c (.s (.s .flow))), (13, .c .i), (14, .c .i)], [(2, .boxT (.s .task)), (9, .mp)]⟩
def zm0 : Tmpl := ⟨[(2, .c (.bx 2 0))], [(2, .boxT (.s .task))]⟩
def y8m (av : AV) (x : HP z12.ps) (n : Nat) (v : zm7.den) (K : Ks (CR z12)) : Option (CR z12) := z1c v.2.1 v.1.1 v.1.2.2.2.1 v.1.2.2.2.2.1 (zm0.at none (((), ()), (v.2.1, ())) (K (.exit 0))) n v.1.2.2.2.2.2.1 v.2.2.1
def zm2 (av : AV) (x : HP z12.ps) : Hdl (CR z12) := hnd [] zm7 (y8m av x)
theorem y8o : LP z12 Tryz.f179 [0] zm2 := lp_ok (W := []) (H := []) (xs := [zm0]) zu2 trivial rfl (fun av x v K => by kernel_rfl) (fun av x n v K => by kernel_rfl)
theorem yl6 : z12.Ok Tryz.prog := fn_ok (k := z12) (fn := Tryz.f179) (W := []) (H := [zm2]) Tryz.func179 zu2 ⟨y8o, trivial⟩ rfl rfl (fun av x => by kernel_rfl)
def z9v (t : GTask) (places : Int) (tasks : Int) : Option Bool := (zx1 t.join).bind fun x1 => (if x1 = true then ((zx1 t.split).bind fun x3 => (if x3 = true then ((z0c (t.in_.length : Int) 1 3).bind fun x5 => (if x5 = true then ((zb8 t.in_ places [1]).bind fun x7 => (if x7 = true then ((z78 t places).bind fun x9 => (if x9 = true then ((zb8 t.clear places [0, 1]).bind fun x11 => (if x11 = true then ((zi6 t.role).bind fun x13 => (if x13 = true then (gd (ok64 (tasks - 1)) ((z0c t.apart (-1) (tasks - 1)).bind fun x16 => (if x16 = true then ((z0c t.all 1 3).bind fun x18 => (if x18 = true then ((z0c t.need 1 t.all).bind fun x20 => (some x20)) else (some false))) else (some false)))) else (some false))) else (some false))) else (some false))) else (some false))) else (some false))) else (some false))) else (some false))
def zn6 : Con := ⟨125, [.v (.s .task) false, .v .I false, .v .I false], [(.B, true)], [], fun x => z9v x.1 x.2.1 x.2.2.1⟩
def w1j : Fs := ⟨[y5f, z25, z43, z12, zw0], [], []⟩
theorem w1s : w1j.Ok Tryz.prog := (fsK v06 (fsK z2s (fsK wk3 (fsK yl6 (fsK w09 fs0)))))
theorem w2i : zn6.Ok Tryz.prog := fn_ok (k := zn6) (fn := Tryz.f125) (W := []) (H := []) Tryz.func125 w1s trivial rfl rfl (fun av x => by kernel_rfl)
def y2i (t : GTask) (n : GNet) : Option Bool := (z9v t n.places (n.tasks.length : Int)).bind fun x1 => (some (!x1))
def y2r : FCon := ⟨124, (.s .task), [(.s .net)], fun z c => y2i z c.1⟩
def wc8 : Fs := ⟨[zn6], [], []⟩
theorem wg1 : wc8.Ok Tryz.prog := (fsK w2i fs0)
theorem wj9 : y2r.Ok Tryz.prog := FCon.ok (fn_ok (k := y2r.con) (fn := Tryz.f124) (W := []) (H := []) Tryz.func124 wg1 trivial rfl rfl (fun av x => by kernel_rfl))
def z99 (n : GNet) : Option Bool := (y2l n.places (n.tasks.length : Int)).bind fun x1 => (if x1 = true then ((z76 n.tasks (fun z => y2i z n)).bind fun x3 => (some (!x3))) else (some false))
def ze5 : Con := ⟨52, [.v (.s .net) false], [(.B, true)], [], fun x => z99 x.1⟩
def v28 : Fs := ⟨[y28, za9], [y2r], []⟩
theorem v30 : v28.Ok Tryz.prog := (fsK wk5 (fsK yl4 (fsF wj9 fs0)))
theorem y1f : ze5.Ok Tryz.prog := fn_ok (k := ze5) (fn := Tryz.f52) (W := []) (H := []) Tryz.func52 v30 trivial rfl rfl (fun av x => by kernel_rfl)
def z6u (p : Int) (out : List Bool) : Option Bool := (getI out p).bind fun x1 => (some x1)
def z9i : FCon := ⟨217, .I, [(.sl .B)], fun z c => z6u z c.1⟩
def y8z : Fs := ⟨[], [], []⟩
theorem y93 : y8z.Ok Tryz.prog := fs0
theorem yd1 : z9i.Ok Tryz.prog := FCon.ok (fn_ok (k := z9i.con) (fn := Tryz.f217) (W := []) (H := []) Tryz.func217 y93 trivial rfl rfl (fun av x => by kernel_rfl))
def zm3 (s1_0 : List GTask) (s1_1 : Int) (s1_2 : Int) (bk1 : List GTask → Int → Int → Bool → List Bool → Option (List Bool)) (s2_1 : Bool) (l2_2 : List Bool) : Option (List Bool) := gd (ok64 (s1_2 + 1)) (bk1 s1_0 s1_1 (s1_2 + 1) s2_1 l2_2)
def z0l (p2_0 : List GFlow) (p2_1 : Int) (kx2_0 : Bool → List Bool → Option (List Bool)) : Nat → Int → Bool → List Bool → Option (List Bool)
  | 0, _, _, _ => none
  | n2 + 1, s2_0, s2_1, l2_2 => if decide (s2_0 < p2_1) = true then ((getI p2_0 s2_0).bind fun x11 => (if s2_1 = true then ((getI l2_2 x11.to).bind fun x13 => (gd (ok64 (s2_0 + 1)) ((z0l p2_0 p2_1 kx2_0 n2) (s2_0 + 1) true (l2_2.set x11.to.toNat true)))) else ((getI l2_2 x11.to).bind fun x15 => ((getI l2_2 x11.to).bind fun x16 => (gd (ok64 (s2_0 + 1)) ((z0l p2_0 p2_1 kx2_0 n2) (s2_0 + 1) (!x15) (l2_2.set x11.to.toNat true))))))) else (kx2_0 s2_1 l2_2)
def z8x (bk0 : Bool → List Bool → Option (List Bool)) (s1_3 : Bool) (l1_4 : List Bool) : Option (List Bool) := bk0 s1_3 l1_4
def z0d (but : Int) (kx1_0 : Bool → List Bool → Option (List Bool)) : Nat → List GTask → Int → Int → Bool → List Bool → Option (List Bool)
  | 0, _, _, _, _, _ => none
  | n1 + 1, s1_0, s1_1, s1_2, s1_3, l1_4 => if decide (s1_2 < s1_1) = true then ((getI s1_0 s1_2).bind fun x5 => (if decide (s1_2 = but) = true then (gd (ok64 (s1_2 + 1)) ((z0d but kx1_0 n1) s1_0 s1_1 (s1_2 + 1) s1_3 l1_4)) else ((z2i x5.in_ (fun z => z6u z l1_4)).bind fun x8 => (if x8 = true then (z0l x5.out (x5.out.length : Int) (zm3 s1_0 s1_1 s1_2 (z0d but kx1_0 n1)) FUEL 0 s1_3 l1_4) else (gd (ok64 (s1_2 + 1)) ((z0d but kx1_0 n1) s1_0 s1_1 (s1_2 + 1) s1_3 l1_4)))))) else (kx1_0 s1_3 l1_4)
def zm4 (l0_1 : List Bool) : Option (List Bool) := some l0_1
def z11 (n : GNet) (but : Int) (kx0_0 : List Bool → Option (List Bool)) : Nat → Bool → List Bool → Option (List Bool)
  | 0, _, _ => none
  | n0 + 1, s0_0, l0_1 => if s0_0 = true then (z0d but (z8x (z11 n but kx0_0 n0)) FUEL n.tasks (n.tasks.length : Int) 0 false l0_1) else (kx0_0 l0_1)
def z87 (n : GNet) (place : Int) (but : Int) : Option (List Bool) := gd ((0 : Int) ≤ n.places ∧ n.places ≤ (1000000000 : Int)) ((getI (List.replicate n.places.toNat false) place).bind fun x2 => (z11 n but zm4 FUEL true ((List.replicate n.places.toNat false).set place.toNat true)))
def z05 : Con := ⟨202, [.v (.s .net) false, .v .I false, .v .I false], [((.sl .B), true)], [], fun x => z87 x.1 x.2.1 x.2.2.1⟩
def ys5 : Fs := ⟨[z50], [z9i], []⟩
theorem z7z : ys5.Ok Tryz.prog := (fsK z8m (fsF yd1 fs0))
def zc5 : Tmpl := ⟨[(2, .c .i), (3, .c (.bx 3 0)), (7, .c (.bx 7 0)), (8, .c .b), (21, .c (.s (.s .task))), (22, .c .i), (23, .c .i), (39, .c (.s (.s .flow))), (40, .c .i), (41, .c .i)], [(3, .boxT (.s .net)), (7, .box [.ref 15]), (15, .arr .B true)]⟩
def za5 : Tmpl := ⟨[(2, .c .i), (3, .c (.bx 3 0)), (7, .c (.bx 7 0)), (8, .c .b), (21, .c (.s (.s .task))), (22, .c .i), (23, .c .i)], [(3, .boxT (.s .net)), (7, .box [.ref 15]), (15, .arr .B true)]⟩
def y1z (av : AV) (x : HP z05.ps) (n : Nat) (v : zc5.den) (K : Ks (CR z05)) : Option (CR z05) := z0l v.1.2.2.2.2.2.2.2.1 v.1.2.2.2.2.2.2.2.2.1 (fun s2_1 l2_2 => za5.at none ((v.1.1, (), (), s2_1, v.1.2.2.2.2.1, v.1.2.2.2.2.2.1, v.1.2.2.2.2.2.2.1, ()), (v.2.1, ((), ()), l2_2, ())) (K (.exit 4))) n v.1.2.2.2.2.2.2.2.2.2.1 v.1.2.2.2.1 v.2.2.2.1
def zb5 (av : AV) (x : HP z05.ps) : Hdl (CR z05) := hnd [] zc5 (y1z av x)
theorem y2e : LP z05 Tryz.f202 [0, 0, 0] zb5 := lp_ok (W := []) (H := []) (xs := [za5]) z7z trivial rfl (fun av x v K => by kernel_rfl) (fun av x n v K => by kernel_rfl)
def zl8 : Tmpl := ⟨[(2, .c .i), (3, .c (.bx 3 0)), (7, .c (.bx 7 0)), (8, .c .b), (21, .c (.s (.s .task))), (22, .c .i), (23, .c .i)], [(3, .boxT (.s .net)), (7, .box [.ref 15]), (15, .arr .B true)]⟩
def zg1 : Tmpl := ⟨[(2, .c .i), (3, .c (.bx 3 0)), (7, .c (.bx 7 0)), (8, .c .b)], [(3, .boxT (.s .net)), (7, .box [.ref 15]), (15, .arr .B true)]⟩
def y50 (av : AV) (x : HP z05.ps) (n : Nat) (v : zl8.den) (K : Ks (CR z05)) : Option (CR z05) := z0d v.1.1 (fun s1_3 l1_4 => zg1.at none ((v.1.1, (), (), s1_3, ()), (v.2.1, ((), ()), l1_4, ())) (K (.exit 2))) n v.1.2.2.2.2.1 v.1.2.2.2.2.2.1 v.1.2.2.2.2.2.2.1 v.1.2.2.2.1 v.2.2.2.1
def zh0 (av : AV) (x : HP z05.ps) : Hdl (CR z05) := hnd [] zl8 (y50 av x)
theorem y5u : LP z05 Tryz.f202 [0, 0] zh0 := lp_ok (W := []) (H := [zb5]) (xs := [zg1]) z7z ⟨y2e, trivial⟩ rfl (fun av x v K => by kernel_rfl) (fun av x n v K => by kernel_rfl)
def zs6 : Tmpl := ⟨[(2, .c .i), (3, .c (.bx 3 0)), (7, .c (.bx 7 0)), (8, .c .b)], [(3, .boxT (.s .net)), (7, .box [.ref 15]), (15, .arr .B true)]⟩
def zm9 : Tmpl := ⟨[(7, .c (.bx 7 0))], [(7, .box [.ref 15]), (15, .arr .B true)]⟩
def y8q (av : AV) (x : HP z05.ps) (n : Nat) (v : zs6.den) (K : Ks (CR z05)) : Option (CR z05) := z11 v.2.1 v.1.1 (fun l0_1 => zm9.at none (((), ()), (((), ()), l0_1, ())) (K (.exit 0))) n v.1.2.2.2.1 v.2.2.2.1
def zq9 (av : AV) (x : HP z05.ps) : Hdl (CR z05) := hnd [] zs6 (y8q av x)
theorem ya4 : LP z05 Tryz.f202 [0] zq9 := lp_ok (W := []) (H := [zh0]) (xs := [zm9]) z7z ⟨y5u, trivial⟩ rfl (fun av x v K => by kernel_rfl) (fun av x n v K => by kernel_rfl)
theorem yu9 : z05.Ok Tryz.prog := fn_ok (k := z05) (fn := Tryz.f202) (W := []) (H := [zq9]) Tryz.func202 z7z ⟨ya4, trivial⟩ rfl rfl (fun av x => by kernel_rfl)
def z86 (m : Int) : Option Bool := (z0c m 0 4).bind fun x1 => (some (!x1))
def z8g : FCon := ⟨199, .I, [], fun z c => z86 z ⟩
def y52 : Fs := ⟨[z25], [], []⟩
theorem y54 : y52.Ok Tryz.prog := (fsK z2s fs0)
theorem y5y : z8g.Ok Tryz.prog := FCon.ok (fn_ok (k := z8g.con) (fn := Tryz.f199) (W := []) (H := []) Tryz.func199 y54 trivial rfl rfl (fun av x => by kernel_rfl))
def z4o (n : GNet) (marks : List Int) : Option Bool := if decide ((marks.length : Int) = n.places) = true then ((z2i marks (fun z => z86 z )).bind fun x2 => (some (!x2))) else (some false)
def z6m : Con := ⟨164, [.v (.s .net) false, .v (.sl .I) false], [(.B, true)], [], fun x => z4o x.1 x.2.1⟩
def y8y : Fs := ⟨[z50], [z8g], []⟩
theorem y92 : y8y.Ok Tryz.prog := (fsK z8m (fsF y5y fs0))
theorem zs1 : z6m.Ok Tryz.prog := fn_ok (k := z6m) (fn := Tryz.f164) (W := []) (H := []) Tryz.func164 y92 trivial rfl rfl (fun av x => by kernel_rfl)
def ze9 (n : GNet) (marks : List Int) : Option Bool := (z99 n).bind fun x1 => (if x1 = true then ((z4o n marks).bind fun x3 => (some x3)) else (some false))
def zr4 : Con := ⟨94, [.v (.s .net) false, .v (.sl .I) false], [(.B, true)], [], fun x => ze9 x.1 x.2.1⟩
def v27 : Fs := ⟨[ze5, z6m], [], []⟩
theorem v2z : v27.Ok Tryz.prog := (fsK y1f (fsK zs1 fs0))
theorem yc9 : zr4.Ok Tryz.prog := fn_ok (k := zr4) (fn := Tryz.f94) (W := []) (H := []) Tryz.func94 v2z trivial rfl rfl (fun av x => by kernel_rfl)
def zi4 (busy : List GItem) : Option Bool := some (decide ((busy.length : Int) ≤ 6))
def z23 (n : GNet) (p0_0 : List GItem) (p0_1 : Int) (kx0_0 : Option Bool) : Nat → Int → Option Bool
  | 0, _ => none
  | n0 + 1, s0_0 => if decide (s0_0 < p0_1) = true then ((getI p0_0 s0_0).bind fun x2 => ((z0n n x2.task).bind fun x3 => (if x3 = true then ((z9c x2.who).bind fun x5 => (if x5 = true then ((getI n.tasks x2.task).bind fun x7 => (gd (ok64 (x7.need - 1)) ((z0c x2.did 0 (x7.need - 1)).bind fun x9 => (if x9 = true then (gd (ok64 (s0_0 + 1)) ((z23 n p0_0 p0_1 kx0_0 n0) (s0_0 + 1))) else (some false))))) else (some false))) else (some false)))) else (kx0_0)
def z57 (n : GNet) (busy : List GItem) : Option Bool := z23 n busy (busy.length : Int) (zi4 busy) FUEL 0
def z0t : Con := ⟨95, [.v (.s .net) false, .v (.sl (.s .item)) false], [(.B, true)], [], fun x => z57 x.1 x.2.1⟩
def yk5 : Fs := ⟨[z1s, zh6, z25], [], []⟩
theorem zu1 : yk5.Ok Tryz.prog := (fsK z4q (fsK yd4 (fsK z2s fs0)))
def zm6 : Tmpl := ⟨[(1, .c (.s (.s .item))), (2, .c (.bx 2 0)), (7, .c (.s (.s .item))), (8, .c .i), (9, .c .i)], [(2, .boxT (.s .net))]⟩
def zl9 : Tmpl := ⟨[(1, .c (.s (.s .item)))], []⟩
def y8l (av : AV) (x : HP z0t.ps) (n : Nat) (v : zm6.den) (K : Ks (CR z0t)) : Option (CR z0t) := z23 v.2.1 v.1.2.2.1 v.1.2.2.2.1 (zl9.at none ((v.1.1, ()), ()) (K (.exit 0))) n v.1.2.2.2.2.1
def zm1 (av : AV) (x : HP z0t.ps) : Hdl (CR z0t) := hnd [] zm6 (y8l av x)
theorem y8n : LP z0t Tryz.f95 [0] zm1 := lp_ok (W := []) (H := []) (xs := [zl9]) zu1 trivial rfl (fun av x v K => by kernel_rfl) (fun av x n v K => by kernel_rfl)
theorem zu6 : z0t.Ok Tryz.prog := fn_ok (k := z0t) (fn := Tryz.f95) (W := []) (H := [zm1]) Tryz.func95 zu1 ⟨y8n, trivial⟩ rfl rfl (fun av x => by kernel_rfl)
def z84 (q : Int) (marks : List Int) (reach : List Bool) : Option Bool := (getI marks q).bind fun x1 => (if decide (x1 = 0) = true then ((getI reach q).bind fun x3 => (some x3)) else (some false))
def z8f : FCon := ⟨203, .I, [(.sl .I), (.sl .B)], fun z c => z84 z c.1 c.2.1⟩
def y51 : Fs := ⟨[], [], []⟩
theorem y53 : y51.Ok Tryz.prog := fs0
theorem y5x : z8f.Ok Tryz.prog := FCon.ok (fn_ok (k := z8f.con) (fn := Tryz.f203) (W := []) (H := []) Tryz.func203 y53 trivial rfl rfl (fun av x => by kernel_rfl))
def z4v (s1_0 : Int) (s1_1 : Int) (bk1 : Int → Int → List Int → Option Bool) (l2_1 : List Int) : Option Bool := gd (ok64 (s1_1 + 1)) (bk1 s1_0 (s1_1 + 1) l2_1)
def z1r (p2_0 : List GFlow) (p2_1 : Int) (kx2_0 : List Int → Option Bool) : Nat → Int → List Int → Option Bool
  | 0, _, _ => none
  | n2 + 1, s2_0, l2_1 => if decide (s2_0 < p2_1) = true then ((getI p2_0 s2_0).bind fun x15 => (gd (l2_1.length + [x15.to].length ≤ SMALL) (gd (ok64 (s2_0 + 1)) ((z1r p2_0 p2_1 kx2_0 n2) (s2_0 + 1) (l2_1 ++ [x15.to]))))) else (kx2_0 l2_1)
def z7f  : Option Bool := some false
def z14 (n : GNet) (t : Int) (p0_0 : List Int) (p0_2 : List Int) (l1_2 : List Int) (p3_0 : Int) (kx3_0 : Option Bool) : Nat → Int → Option Bool
  | 0, _ => none
  | n3 + 1, s3_0 => if decide (s3_0 < p3_0) = true then ((getI l1_2 s3_0).bind fun x20 => ((z87 n x20 t).bind fun x21 => ((z2i p0_0 (fun z => z84 z p0_2 x21)).bind fun x22 => (if x22 = true then (some true) else (gd (ok64 (s3_0 + 1)) ((z14 n t p0_0 p0_2 l1_2 p3_0 kx3_0 n3) (s3_0 + 1))))))) else (kx3_0)
def z1q (n : GNet) (t : Int) (p0_0 : List Int) (p0_2 : List Int) (l1_2 : List Int) : Option Bool := z14 n t p0_0 p0_2 l1_2 (l1_2.length : Int) z7f FUEL 0
def z0s (n : GNet) (busy : List GItem) (kx1_0 : List Int → Option Bool) : Nat → Int → Int → List Int → Option Bool
  | 0, _, _, _ => none
  | n1 + 1, s1_0, s1_1, l1_2 => if decide (s1_1 < s1_0) = true then ((getI busy s1_1).bind fun x12 => ((getI n.tasks x12.task).bind fun x13 => (z1r x13.out (x13.out.length : Int) (z4v s1_0 s1_1 (z0s n busy kx1_0 n1)) FUEL 0 l1_2))) else (kx1_0 l1_2)
def z4u (n : GNet) (busy : List GItem) (t : Int) (p0_0 : List Int) (p0_2 : List Int) (l0_1 : List Int) : Option Bool := z0s n busy (z1q n t p0_0 p0_2) FUEL (busy.length : Int) 0 l0_1
def z0r (marks : List Int) (p0_0 : List Int) (p0_1 : Int) (kx0_0 : List Int → Option Bool) : Nat → Int → List Int → Option Bool
  | 0, _, _ => none
  | n0 + 1, s0_0, l0_1 => if decide (s0_0 < p0_1) = true then ((getI marks s0_0).bind fun x3 => (if decide (0 < x3) = true then ((ze6 p0_0 s0_0).bind fun x5 => (if x5 = true then (gd (ok64 (s0_0 + 1)) ((z0r marks p0_0 p0_1 kx0_0 n0) (s0_0 + 1) l0_1)) else (gd (l0_1.length + [s0_0].length ≤ SMALL) (gd (ok64 (s0_0 + 1)) ((z0r marks p0_0 p0_1 kx0_0 n0) (s0_0 + 1) (l0_1 ++ [s0_0])))))) else (gd (ok64 (s0_0 + 1)) ((z0r marks p0_0 p0_1 kx0_0 n0) (s0_0 + 1) l0_1)))) else (kx0_0 l0_1)
def z6t (n : GNet) (marks : List Int) (busy : List GItem) (t : Int) : Option Bool := (getI n.tasks t).bind fun x1 => (z0r marks x1.in_ (marks.length : Int) (z4u n busy t x1.in_ marks) FUEL 0 ([] : List Int))
def z02 : Con := ⟨168, [.v (.s .net) false, .v (.sl .I) false, .v (.sl (.s .item)) false, .v .I false], [(.B, true)], [], fun x => z6t x.1 x.2.1 x.2.2.1 x.2.2.2.1⟩
def y8w : Fs := ⟨[zr2, z05, z50], [z8f], []⟩
theorem z4i : y8w.Ok Tryz.prog := (fsK yc6 (fsK yu9 (fsK z8m (fsF y5x fs0))))
def zc4 : Tmpl := ⟨[(3, .c .i), (4, .c (.bx 4 0)), (5, .c (.bx 5 0)), (9, .c (.s .I)), (10, .c (.ref 500010)), (46, .c (.s (.s .item))), (47, .c .i), (48, .c .i), (58, .c (.s (.s .flow))), (59, .c .i), (60, .c .i)], [(4, .boxT (.s .net)), (5, .box [.s .I]), (500010, .arr .I true)]⟩
def za4 : Tmpl := ⟨[(3, .c .i), (4, .c (.bx 4 0)), (5, .c (.bx 5 0)), (9, .c (.s .I)), (10, .c (.ref 500010)), (46, .c (.s (.s .item))), (47, .c .i), (48, .c .i)], [(4, .boxT (.s .net)), (5, .box [.s .I]), (500010, .arr .I true)]⟩
def y1y (av : AV) (x : HP z02.ps) (n : Nat) (v : zc4.den) (K : Ks (CR z02)) : Option (CR z02) := z1r v.1.2.2.2.2.2.2.2.2.1 v.1.2.2.2.2.2.2.2.2.2.1 (fun l2_1 => za4.at none ((v.1.1, (), (), v.1.2.2.2.1, (), v.1.2.2.2.2.2.1, v.1.2.2.2.2.2.2.1, v.1.2.2.2.2.2.2.2.1, ()), (v.2.1, (v.2.2.1.1, ()), l2_1, ())) (K (.exit 4))) n v.1.2.2.2.2.2.2.2.2.2.2.1 v.2.2.2.1
def zb4 (av : AV) (x : HP z02.ps) : Hdl (CR z02) := hnd [] zc4 (y1y av x)
theorem y2d : LP z02 Tryz.f168 [1, 0] zb4 := lp_ok (W := []) (H := []) (xs := [za4]) z4i trivial rfl (fun av x v K => by kernel_rfl) (fun av x n v K => by kernel_rfl)
def zl5 : Tmpl := ⟨[(2, .c (.s (.s .item))), (3, .c .i), (4, .c (.bx 4 0)), (5, .c (.bx 5 0)), (9, .c (.s .I)), (10, .c (.ref 500010)), (26, .c (.s .I)), (27, .c .i), (28, .c .i)], [(4, .boxT (.s .net)), (5, .box [.s .I]), (500010, .arr .I true)]⟩
def zf8 : Tmpl := ⟨[(2, .c (.s (.s .item))), (3, .c .i), (4, .c (.bx 4 0)), (5, .c (.bx 5 0)), (9, .c (.s .I)), (10, .c (.ref 500010))], [(4, .boxT (.s .net)), (5, .box [.s .I]), (500010, .arr .I true)]⟩
def y4x (av : AV) (x : HP z02.ps) (n : Nat) (v : zl5.den) (K : Ks (CR z02)) : Option (CR z02) := z0r v.1.2.2.2.2.2.2.1 v.1.2.2.2.2.1 v.1.2.2.2.2.2.2.2.1 (fun l0_1 => zf8.at none ((v.1.1, v.1.2.1, (), (), v.1.2.2.2.2.1, (), ()), (v.2.1, (v.2.2.1.1, ()), l0_1, ())) (K (.exit 0))) n v.1.2.2.2.2.2.2.2.2.1 v.2.2.2.1
def zg7 (av : AV) (x : HP z02.ps) : Hdl (CR z02) := hnd [.e 10 500010 .I] zl5 (y4x av x)
theorem y5r : LP z02 Tryz.f168 [0] zg7 := lp_ok (W := []) (H := []) (xs := [zf8]) z4i trivial rfl (fun av x v K => by kernel_rfl) (fun av x n v K => by kernel_rfl)
def zl6 : Tmpl := ⟨[(3, .c .i), (4, .c (.bx 4 0)), (5, .c (.bx 5 0)), (9, .c (.s .I)), (10, .c (.ref 500010)), (46, .c (.s (.s .item))), (47, .c .i), (48, .c .i)], [(4, .boxT (.s .net)), (5, .box [.s .I]), (500010, .arr .I true)]⟩
def zf9 : Tmpl := ⟨[(3, .c .i), (4, .c (.bx 4 0)), (5, .c (.bx 5 0)), (9, .c (.s .I)), (10, .c (.ref 500010))], [(4, .boxT (.s .net)), (5, .box [.s .I]), (500010, .arr .I true)]⟩
def y4y (av : AV) (x : HP z02.ps) (n : Nat) (v : zl6.den) (K : Ks (CR z02)) : Option (CR z02) := z0s v.2.1 v.1.2.2.2.2.2.1 (fun l1_2 => zf9.at none ((v.1.1, (), (), v.1.2.2.2.1, (), ()), (v.2.1, (v.2.2.1.1, ()), l1_2, ())) (K (.exit 2))) n v.1.2.2.2.2.2.2.1 v.1.2.2.2.2.2.2.2.1 v.2.2.2.1
def zg8 (av : AV) (x : HP z02.ps) : Hdl (CR z02) := hnd [] zl6 (y4y av x)
theorem y5s : LP z02 Tryz.f168 [1] zg8 := lp_ok (W := []) (H := [zb4]) (xs := [zf9]) z4i ⟨y2d, trivial⟩ rfl (fun av x v K => by kernel_rfl) (fun av x n v K => by kernel_rfl)
def zl7 : Tmpl := ⟨[(3, .c .i), (4, .c (.bx 4 0)), (5, .c (.bx 5 0)), (9, .c (.s .I)), (71, .c (.ref 500010)), (72, .c .i), (73, .c .i)], [(4, .boxT (.s .net)), (5, .box [.s .I]), (500010, .arr .I true)]⟩
def zg0 : Tmpl := ⟨[], []⟩
def y4z (av : AV) (x : HP z02.ps) (n : Nat) (v : zl7.den) (K : Ks (CR z02)) : Option (CR z02) := z14 v.2.1 v.1.1 v.1.2.2.2.1 v.2.2.1.1 v.2.2.2.1 v.1.2.2.2.2.2.1 (zg0.at none ((), ()) (K (.exit 6))) n v.1.2.2.2.2.2.2.1
def zg9 (av : AV) (x : HP z02.ps) : Hdl (CR z02) := hnd [] zl7 (y4z av x)
theorem y5t : LP z02 Tryz.f168 [2] zg9 := lp_ok (W := []) (H := []) (xs := [zg0]) z4i trivial rfl (fun av x v K => by kernel_rfl) (fun av x n v K => by kernel_rfl)
theorem yd0 : z02.Ok Tryz.prog := fn_ok (k := z02) (fn := Tryz.f168) (W := []) (H := [zg7, zg8, zg9]) Tryz.func168 z4i ⟨y5r, y5s, y5t, trivial⟩ rfl rfl (fun av x => by kernel_rfl)
def z39 (n : GNet) (marks : List Int) (busy : List GItem) (t : Int) (s0_0 : Bool) (s0_2 : Bool) : Option Bool := (getI n.tasks t).bind fun x14 => (if decide (x14.join = 1) = true then (some s0_0) else (if decide (x14.join = 2) = true then (some s0_2) else (if s0_2 = true then (if s0_0 = true then (some true) else ((z6t n marks busy t).bind fun x19 => (some (!x19)))) else (some false))))
def z0u (marks : List Int) (p0_0 : List Int) (p0_1 : Int) (kx0_0 : Bool → Bool → Option Bool) : Nat → Bool → Int → Bool → Option Bool
  | 0, _, _, _ => none
  | n0 + 1, s0_0, s0_1, s0_2 => if decide (s0_1 < p0_1) = true then ((getI p0_0 s0_1).bind fun x3 => (if s0_2 = true then (if s0_0 = true then ((getI marks x3).bind fun x6 => (gd (ok64 (s0_1 + 1)) ((z0u marks p0_0 p0_1 kx0_0 n0) (decide (0 < x6)) (s0_1 + 1) true))) else (gd (ok64 (s0_1 + 1)) ((z0u marks p0_0 p0_1 kx0_0 n0) false (s0_1 + 1) true))) else ((getI marks x3).bind fun x9 => (if s0_0 = true then ((getI marks x3).bind fun x11 => (gd (ok64 (s0_1 + 1)) ((z0u marks p0_0 p0_1 kx0_0 n0) (decide (0 < x11)) (s0_1 + 1) (decide (0 < x9))))) else (gd (ok64 (s0_1 + 1)) ((z0u marks p0_0 p0_1 kx0_0 n0) false (s0_1 + 1) (decide (0 < x9)))))))) else (kx0_0 s0_0 s0_2)
def z9u (n : GNet) (marks : List Int) (busy : List GItem) (t : Int) : Option Bool := (getI n.tasks t).bind fun x1 => (z0u marks x1.in_ (x1.in_.length : Int) (z39 n marks busy t) FUEL true 0 false)
def z21 : Con := ⟨104, [.v (.s .net) false, .v (.sl .I) false, .v (.sl (.s .item)) false, .v .I false], [(.B, true)], [], fun x => z9u x.1 x.2.1 x.2.2.1 x.2.2.2.1⟩
def w1i : Fs := ⟨[z02], [], []⟩
theorem y33 : w1i.Ok Tryz.prog := (fsK yd0 fs0)
def y0l : Tmpl := ⟨[(1, .c (.s .I)), (2, .c (.s (.s .item))), (3, .c .i), (4, .c (.bx 4 0)), (9, .c .b), (10, .c .b), (18, .c (.s .I)), (19, .c .i), (20, .c .i)], [(4, .boxT (.s .net))]⟩
def zv1 : Tmpl := ⟨[(1, .c (.s .I)), (2, .c (.s (.s .item))), (3, .c .i), (4, .c (.bx 4 0)), (9, .c .b), (10, .c .b)], [(4, .boxT (.s .net))]⟩
def yr5 (av : AV) (x : HP z21.ps) (n : Nat) (v : y0l.den) (K : Ks (CR z21)) : Option (CR z21) := z0u v.1.1 v.1.2.2.2.2.2.2.1 v.1.2.2.2.2.2.2.2.1 (fun s0_0 s0_2 => zv1.at none ((v.1.1, v.1.2.1, v.1.2.2.1, (), s0_2, s0_0, ()), (v.2.1, ())) (K (.exit 0))) n v.1.2.2.2.2.2.1 v.1.2.2.2.2.2.2.2.2.1 v.1.2.2.2.2.1
def y02 (av : AV) (x : HP z21.ps) : Hdl (CR z21) := hnd [] y0l (yr5 av x)
theorem yt7 : LP z21 Tryz.f104 [0] y02 := lp_ok (W := []) (H := []) (xs := [zv1]) y33 trivial rfl (fun av x v K => by kernel_rfl) (fun av x n v K => by kernel_rfl)
theorem w2h : z21.Ok Tryz.prog := fn_ok (k := z21) (fn := Tryz.f104) (W := []) (H := [y02]) Tryz.func104 y33 ⟨yt7, trivial⟩ rfl rfl (fun av x => by kernel_rfl)
def zw5 (n : GNet) (marks : List Int) (busy : List GItem) (t : Int) : Option Bool := (ze9 n marks).bind fun x1 => (if x1 = true then ((z57 n busy).bind fun x3 => (if x3 = true then ((z0n n t).bind fun x5 => (if x5 = true then ((z9u n marks busy t).bind fun x7 => (some x7)) else (some false))) else (some false))) else (some false))
def y59 : Con := ⟨33, [.v (.s .net) false, .v (.sl .I) false, .v (.sl (.s .item)) false, .v .I false], [(.B, true)], [], fun x => zw5 x.1 x.2.1 x.2.2.1 x.2.2.2.1⟩
def wq7 : Fs := ⟨[zr4, z0t, z1s, z21], [], []⟩
theorem wv2 : wq7.Ok Tryz.prog := (fsK yc9 (fsK zu6 (fsK z4q (fsK w2h fs0))))
theorem wz9 : y59.Ok Tryz.prog := fn_ok (k := y59) (fn := Tryz.f33) (W := []) (H := []) Tryz.func33 wv2 trivial rfl rfl (fun av x => by kernel_rfl)
def zr9 (l0_1 : List Int) (x4 : Int) (x7 : Int) : Option (List Int) := some (l0_1.set x4.toNat (x7 - 1))
def zs0 (l0_1 : List Int) : Option (List Int) := some l0_1
def z1u (n : GNet) (t : Int) (p0_0 : List Int) (p0_1 : Int) (kx0_0 : List Int → Int → Int → Option (List Int)) (kx0_1 : List Int → Option (List Int)) : Nat → Int → List Int → Option (List Int)
  | 0, _, _ => none
  | n0 + 1, s0_0, l0_1 => if decide (s0_0 < p0_1) = true then ((getI p0_0 s0_0).bind fun x4 => ((getI l0_1 x4).bind fun x5 => (if decide (0 < x5) = true then ((getI l0_1 x4).bind fun x7 => (gd (ok64 (x7 - 1)) ((getI l0_1 x4).bind fun x9 => ((getI n.tasks t).bind fun x10 => (if decide (x10.join = 2) = true then (kx0_0 l0_1 x4 x7) else (gd (ok64 (s0_0 + 1)) ((z1u n t p0_0 p0_1 kx0_0 kx0_1 n0) (s0_0 + 1) (l0_1.set x4.toNat (x7 - 1))))))))) else (gd (ok64 (s0_0 + 1)) ((z1u n t p0_0 p0_1 kx0_0 kx0_1 n0) (s0_0 + 1) l0_1))))) else (kx0_1 l0_1)
def z8y (n : GNet) (marks : List Int) (t : Int) : Option (List Int) := (z0g marks).bind fun x1 => ((getI n.tasks t).bind fun x2 => (z1u n t x2.in_ (x2.in_.length : Int) zr9 zs0 FUEL 0 x1))
def z1k : Con := ⟨93, [.v (.s .net) false, .v (.sl .I) false, .v .I false], [((.sl .I), true)], [], fun x => z8y x.1 x.2.1 x.2.2.1⟩
def yw6 : Fs := ⟨[z1d], [], []⟩
theorem y0v : yw6.Ok Tryz.prog := (fsK z2m fs0)
def zu8 : Tmpl := ⟨[(2, .c .i), (3, .c (.bx 3 0)), (7, .c (.ref 11)), (17, .c (.s .I)), (18, .c .i), (19, .c .i)], [(3, .boxT (.s .net)), (11, .arr .I true)]⟩
def z9k : Tmpl := ⟨[(7, .c (.ref 11))], [(11, .arr .I true)]⟩
def yk1 (av : AV) (x : HP z1k.ps) (n : Nat) (v : zu8.den) (K : Ks (CR z1k)) : Option (CR z1k) := z1u v.2.1 v.1.1 v.1.2.2.2.1 v.1.2.2.2.2.1 (fun l0_1 x4 x7 => z9k.at none (((), ()), ((l0_1.set x4.toNat (x7 - 1)), ())) (K (.exit 0))) (fun l0_1 => z9k.at none (((), ()), (l0_1, ())) (K (.exit 0))) n v.1.2.2.2.2.2.1 v.2.2.1
def zu3 (av : AV) (x : HP z1k.ps) : Hdl (CR z1k) := hnd [] zu8 (yk1 av x)
theorem yl2 : LP z1k Tryz.f93 [0] zu3 := lp_ok (W := []) (H := []) (xs := [z9k]) y0v trivial rfl (fun av x v K => by kernel_rfl) (fun av x n v K => by kernel_rfl)
theorem w08 : z1k.Ok Tryz.prog := fn_ok (k := z1k) (fn := Tryz.f93) (W := []) (H := [zu3]) Tryz.func93 y0v ⟨yl2, trivial⟩ rfl rfl (fun av x => by kernel_rfl)
def yb2 (l0_1 : List Int) : Option (List Int) := some l0_1
def z0p (t : GTask) (data : List Int) (p0_0 : List GFlow) (p0_1 : Int) (kx0_0 : List Int → Option (List Int)) : Nat → Int → List Int → Option (List Int)
  | 0, _, _ => none
  | n0 + 1, s0_0, l0_1 => if decide (s0_0 < p0_1) = true then ((getI p0_0 s0_0).bind fun x2 => ((z2h x2.if_ data).bind fun x3 => (if x3 = true then (if decide (t.split = 2) = true then (if decide (0 < (l0_1.length : Int)) = true then (gd (ok64 (s0_0 + 1)) ((z0p t data p0_0 p0_1 kx0_0 n0) (s0_0 + 1) l0_1)) else (if decide (t.split = 3) = true then (gd (ok64 ((t.out.length : Int) - 1)) (if decide (s0_0 = ((t.out.length : Int) - 1)) = true then (if decide (0 < (l0_1.length : Int)) = true then (gd (ok64 (s0_0 + 1)) ((z0p t data p0_0 p0_1 kx0_0 n0) (s0_0 + 1) l0_1)) else (gd (l0_1.length + [x2.to].length ≤ SMALL) (gd (ok64 (s0_0 + 1)) ((z0p t data p0_0 p0_1 kx0_0 n0) (s0_0 + 1) (l0_1 ++ [x2.to]))))) else (gd (l0_1.length + [x2.to].length ≤ SMALL) (gd (ok64 (s0_0 + 1)) ((z0p t data p0_0 p0_1 kx0_0 n0) (s0_0 + 1) (l0_1 ++ [x2.to])))))) else (gd (l0_1.length + [x2.to].length ≤ SMALL) (gd (ok64 (s0_0 + 1)) ((z0p t data p0_0 p0_1 kx0_0 n0) (s0_0 + 1) (l0_1 ++ [x2.to])))))) else (if decide (t.split = 3) = true then (gd (ok64 ((t.out.length : Int) - 1)) (if decide (s0_0 = ((t.out.length : Int) - 1)) = true then (if decide (0 < (l0_1.length : Int)) = true then (gd (ok64 (s0_0 + 1)) ((z0p t data p0_0 p0_1 kx0_0 n0) (s0_0 + 1) l0_1)) else (gd (l0_1.length + [x2.to].length ≤ SMALL) (gd (ok64 (s0_0 + 1)) ((z0p t data p0_0 p0_1 kx0_0 n0) (s0_0 + 1) (l0_1 ++ [x2.to]))))) else (gd (l0_1.length + [x2.to].length ≤ SMALL) (gd (ok64 (s0_0 + 1)) ((z0p t data p0_0 p0_1 kx0_0 n0) (s0_0 + 1) (l0_1 ++ [x2.to])))))) else (gd (l0_1.length + [x2.to].length ≤ SMALL) (gd (ok64 (s0_0 + 1)) ((z0p t data p0_0 p0_1 kx0_0 n0) (s0_0 + 1) (l0_1 ++ [x2.to])))))) else (gd (ok64 (s0_0 + 1)) ((z0p t data p0_0 p0_1 kx0_0 n0) (s0_0 + 1) l0_1))))) else (kx0_0 l0_1)
def y15 (t : GTask) (data : List Int) : Option (List Int) := z0p t data t.out (t.out.length : Int) yb2 FUEL 0 ([] : List Int)
def z6n : Con := ⟨173, [.v (.s .task) false, .v (.sl .I) false], [((.sl .I), true)], [], fun x => y15 x.1 x.2.1⟩
def v2b : Fs := ⟨[z4j], [], []⟩
theorem w30 : v2b.Ok Tryz.prog := (fsK z7v fs0)
def yq0 : Tmpl := ⟨[(1, .c (.s .I)), (2, .c (.bx 2 0)), (5, .c (.ref 500005)), (9, .c (.s (.s .flow))), (10, .c .i), (11, .c .i)], [(2, .boxT (.s .task)), (500005, .arr .I true)]⟩
def yh2 : Tmpl := ⟨[(5, .c (.ref 500005))], [(500005, .arr .I true)]⟩
def wa7 (av : AV) (x : HP z6n.ps) (n : Nat) (v : yq0.den) (K : Ks (CR z6n)) : Option (CR z6n) := z0p v.2.1 v.1.1 v.1.2.2.2.1 v.1.2.2.2.2.1 (fun l0_1 => yh2.at none (((), ()), (l0_1, ())) (K (.exit 0))) n v.1.2.2.2.2.2.1 v.2.2.1
def yn6 (av : AV) (x : HP z6n.ps) : Hdl (CR z6n) := hnd [.e 5 500005 .I] yq0 (wa7 av x)
theorem wh8 : LP z6n Tryz.f173 [0] yn6 := lp_ok (W := []) (H := []) (xs := [yh2]) w30 trivial rfl (fun av x v K => by kernel_rfl) (fun av x n v K => by kernel_rfl)
theorem v3w : z6n.Ok Tryz.prog := fn_ok (k := z6n) (fn := Tryz.f173) (W := []) (H := [yn6]) Tryz.func173 w30 ⟨wh8, trivial⟩ rfl rfl (fun av x => by kernel_rfl)
def z9t (n : GNet) (l1_1 : List Int) : Option ((List Int) × Bool) := (z4o n l1_1).bind fun x21 => (if x21 = true then (some (l1_1, true)) else (some ([], false)))
def z5s (x14 : (List Int)) (p1_0 : Int) (kx1_0 : List Int → Option ((List Int) × Bool)) : Nat → Int → List Int → Option ((List Int) × Bool)
  | 0, _, _ => none
  | n1 + 1, s1_0, l1_1 => if decide (s1_0 < p1_0) = true then ((getI x14 s1_0).bind fun x16 => ((getI l1_1 x16).bind fun x17 => (gd (ok64 (x17 + 1)) ((getI l1_1 x16).bind fun x19 => (gd (ok64 (s1_0 + 1)) ((z5s x14 p1_0 kx1_0 n1) (s1_0 + 1) (l1_1.set x16.toNat (x17 + 1)))))))) else (kx1_0 l1_1)
def z9s (n : GNet) (t : Int) (data : List Int) (l0_1 : List Int) : Option ((List Int) × Bool) := (getI n.tasks t).bind fun x13 => ((y15 x13 data).bind fun x14 => (z5s x14 (x14.length : Int) (z9t n) FUEL 0 l0_1))
def z5r (p0_0 : List Int) (p0_1 : Int) (kx0_0 : List Int → Option ((List Int) × Bool)) : Nat → Int → List Int → Option ((List Int) × Bool)
  | 0, _, _ => none
  | n0 + 1, s0_0, l0_1 => if decide (s0_0 < p0_1) = true then ((getI p0_0 s0_0).bind fun x10 => ((getI l0_1 x10).bind fun x11 => (gd (ok64 (s0_0 + 1)) ((z5r p0_0 p0_1 kx0_0 n0) (s0_0 + 1) (l0_1.set x10.toNat 0))))) else (kx0_0 l0_1)
def z8q (n : GNet) (marks : List Int) (t : Int) (data : List Int) : Option ((List Int) × Bool) := (ze9 n marks).bind fun x1 => (if x1 = true then ((z0n n t).bind fun x3 => (if x3 = true then ((z3e data).bind fun x5 => (if x5 = true then ((z0g marks).bind fun x7 => ((getI n.tasks t).bind fun x8 => (z5r x8.clear (x8.clear.length : Int) (z9s n t data) FUEL 0 x7))) else (some ([], false)))) else (some ([], false)))) else (some ([], false)))
def z0x : Con := ⟨115, [.v (.s .net) false, .v (.sl .I) false, .v .I false, .v (.sl .I) false], [((.sl .I), true), (.B, true)], [], fun x => z8q x.1 x.2.1 x.2.2.1 x.2.2.2.1⟩
def wc5 : Fs := ⟨[zr4, z1s, z5m, z1d, z6n, z6m], [], []⟩
theorem y21 : wc5.Ok Tryz.prog := (fsK yc9 (fsK z4q (fsK z7y (fsK z2m (fsK v3w (fsK zs1 fs0))))))
def y7e : Tmpl := ⟨[(2, .c .i), (3, .c (.s .I)), (4, .c (.bx 4 0)), (10, .c (.ref 31)), (37, .c (.s .I)), (38, .c .i), (39, .c .i)], [(4, .boxT (.s .net)), (31, .arr .I true)]⟩
def y4b : Tmpl := ⟨[(2, .c .i), (3, .c (.s .I)), (4, .c (.bx 4 0)), (10, .c (.ref 31))], [(4, .boxT (.s .net)), (31, .arr .I true)]⟩
def w40 (av : AV) (x : HP z0x.ps) (n : Nat) (v : y7e.den) (K : Ks (CR z0x)) : Option (CR z0x) := z5r v.1.2.2.2.2.1 v.1.2.2.2.2.2.1 (fun l0_1 => y4b.at none ((v.1.1, v.1.2.1, (), (), ()), (v.2.1, l0_1, ())) (K (.exit 0))) n v.1.2.2.2.2.2.2.1 v.2.2.1
def y6d (av : AV) (x : HP z0x.ps) : Hdl (CR z0x) := hnd [] y7e (w40 av x)
theorem w50 : LP z0x Tryz.f115 [0] y6d := lp_ok (W := []) (H := []) (xs := [y4b]) y21 trivial rfl (fun av x v K => by kernel_rfl) (fun av x n v K => by kernel_rfl)
def y7f : Tmpl := ⟨[(4, .c (.bx 4 0)), (10, .c (.ref 31)), (53, .c (.ref 53)), (54, .c .i), (55, .c .i)], [(4, .boxT (.s .net)), (31, .arr .I true), (53, .arr .I true)]⟩
def y4c : Tmpl := ⟨[(4, .c (.bx 4 0)), (10, .c (.ref 31))], [(4, .boxT (.s .net)), (31, .arr .I true)]⟩
def w41 (av : AV) (x : HP z0x.ps) (n : Nat) (v : y7f.den) (K : Ks (CR z0x)) : Option (CR z0x) := z5s v.2.2.2.1 v.1.2.2.2.1 (fun l1_1 => y4c.at none (((), (), ()), (v.2.1, l1_1, ())) (K (.exit 2))) n v.1.2.2.2.2.1 v.2.2.1
def y6e (av : AV) (x : HP z0x.ps) : Hdl (CR z0x) := hnd [] y7f (w41 av x)
theorem w51 : LP z0x Tryz.f115 [1] y6e := lp_ok (W := []) (H := []) (xs := [y4c]) y21 trivial rfl (fun av x v K => by kernel_rfl) (fun av x n v K => by kernel_rfl)
theorem wj6 : z0x.Ok Tryz.prog := fn_ok (k := z0x) (fn := Tryz.f115) (W := []) (H := [y6d, y6e]) Tryz.func115 y21 ⟨w50, w51, trivial⟩ rfl rfl (fun av x => by kernel_rfl)
def y2j (n : Int) : Option Bool := (z0c n 0 7).bind fun x1 => (some (!x1))
def y2s : FCon := ⟨119, .I, [], fun z c => y2j z ⟩
def wc9 : Fs := ⟨[z25], [], []⟩
theorem wg2 : wc9.Ok Tryz.prog := (fsK z2s fs0)
theorem wk0 : y2s.Ok Tryz.prog := FCon.ok (fn_ok (k := y2s.con) (fn := Tryz.f119) (W := []) (H := []) Tryz.func119 wg2 trivial rfl rfl (fun av x => by kernel_rfl))
def zf0 (people : List Int) : Option Bool := (z0c (people.length : Int) 1 4).bind fun x1 => (if x1 = true then ((z2i people (fun z => y2j z )).bind fun x3 => (some (!x3))) else (some false))
def zr5 : Con := ⟨50, [.v (.sl .I) false], [(.B, true)], [], fun x => zf0 x.1⟩
def v29 : Fs := ⟨[z25, z50], [y2s], []⟩
theorem v31 : v29.Ok Tryz.prog := (fsK z2s (fsK z8m (fsF wk0 fs0)))
theorem yd2 : zr5.Ok Tryz.prog := fn_ok (k := zr5) (fn := Tryz.f50) (W := []) (H := []) Tryz.func50 v31 trivial rfl rfl (fun av x => by kernel_rfl)
def zw7 (people : List Int) (who : Int) (role : Int) : Option Bool := (zf0 people).bind fun x1 => (if x1 = true then ((z0c who 1 (people.length : Int)).bind fun x3 => (if x3 = true then ((zi6 role).bind fun x5 => (if x5 = true then (gd (ok64 (who - 1)) ((getI people (who - 1)).bind fun x8 => (gd (ok64 (role - 1)) (gd ((0 : Int) ≤ (role - 1) ∧ (role - 1) ≤ (63 : Int)) (some (decide ((andI (shrI x8 (role - 1)) 1) = 1))))))) else (some false))) else (some false))) else (some false))
def y5b : Con := ⟨80, [.v (.sl .I) false, .v .I false, .v .I false], [(.B, true)], [], fun x => zw7 x.1 x.2.1 x.2.2.1⟩
def wr0 : Fs := ⟨[zr5, z25, zw0], [], []⟩
theorem wv4 : wr0.Ok Tryz.prog := (fsK yd2 (fsK z2s (fsK w09 fs0)))
theorem v01 : y5b.Ok Tryz.prog := fn_ok (k := y5b) (fn := Tryz.f80) (W := []) (H := []) Tryz.func80 wv4 trivial rfl rfl (fun av x => by kernel_rfl)
def zw6 (did : List GDid) (who : Int) (task : Int) : Option Bool := (y09 did (GDid.mk task who)).bind fun x1 => (some x1)
def y5a : Con := ⟨109, [.v (.sl (.s .did)) false, .v .I false, .v .I false], [(.B, true)], [], fun x => zw6 x.1 x.2.1 x.2.2.1⟩
def wq9 : Fs := ⟨[y06], [], []⟩
theorem wv3 : wq9.Ok Tryz.prog := (fsK w8y fs0)
theorem v00 : y5a.Ok Tryz.prog := fn_ok (k := y5a) (fn := Tryz.f109) (W := []) (H := []) Tryz.func109 wv3 trivial rfl rfl (fun av x => by kernel_rfl)
def zo1 (l0_1 : List Int) : Option (List Int) := some l0_1
def z3o (p : Int → Option Bool) (p0_0 : Int) (kx0_0 : List Int → Option (List Int)) : Nat → Int → List Int → Option (List Int)
  | 0, _, _ => none
  | n0 + 1, s0_0, l0_1 => if decide (s0_0 < p0_0) = true then (gd (ok64 (s0_0 + 1)) ((p (s0_0 + 1)).bind fun x5 => (if x5 = true then (gd (ok64 (s0_0 + 1)) (gd (l0_1.length + [(s0_0 + 1)].length ≤ SMALL) (gd (ok64 (s0_0 + 1)) ((z3o p p0_0 kx0_0 n0) (s0_0 + 1) (l0_1 ++ [(s0_0 + 1)]))))) else (gd (ok64 (s0_0 + 1)) ((z3o p p0_0 kx0_0 n0) (s0_0 + 1) l0_1))))) else (kx0_0 l0_1)
def y2k (people : List Int) (p : Int → Option Bool) : Option (List Int) := (zf0 people).bind fun x1 => (if x1 = true then (z3o p (people.length : Int) zo1 FUEL 0 ([] : List Int)) else (some []))
def z2t : Con := ⟨105, [.v (.sl .I) false, .fn .I], [((.sl .I), true)], [], fun x => y2k x.1 x.2.1⟩
def wd3 : Fs := ⟨[zr5], [], []⟩
theorem ym0 : wd3.Ok Tryz.prog := (fsK yd2 fs0)
def y7j : Tmpl := ⟨[(1, .c .fp), (5, .c (.ref 500005)), (11, .c .i), (12, .c .i)], [(500005, .arr .I true)]⟩
def y4g : Tmpl := ⟨[(5, .c (.ref 500005))], [(500005, .arr .I true)]⟩
def w45 (av : AV) (x : HP z2t.ps) (n : Nat) (v : y7j.den) (K : Ks (CR z2t)) : Option (CR z2t) := z3o x.2.1 v.1.2.2.1 (fun l0_1 => y4g.at (fpOf z2t.ps x av) (((), ()), (l0_1, ())) (K (.exit 0))) n v.1.2.2.2.1 v.2.1
def y6i (av : AV) (x : HP z2t.ps) : Hdl (CR z2t) := hnd [.e 5 500005 .I] y7j (w45 av x)
theorem w55 : LP z2t Tryz.f105 [0] y6i := lp_ok (W := []) (H := []) (xs := [y4g]) ym0 trivial rfl (fun av x v K => by kernel_rfl) (fun av x n v K => by kernel_rfl)
theorem wk4 : z2t.Ok Tryz.prog := fn_ok (k := z2t) (fn := Tryz.f105) (W := []) (H := [y6i]) Tryz.func105 ym0 ⟨w55, trivial⟩ rfl rfl (fun av x => by kernel_rfl)
def zn9 (b : GItem) (task : GTask) (who : Int) : Option Bool := if decide (b.task = task.apart) = true then (some (decide (b.who = who))) else (some false)
def zo7 : FCon := ⟨108, (.s .item), [(.s .task), .I], fun z c => zn9 z c.1 c.2.1⟩
def w1k : Fs := ⟨[], [], []⟩
theorem w1t : w1k.Ok Tryz.prog := fs0
theorem w2j : zo7.Ok Tryz.prog := FCon.ok (fn_ok (k := zo7.con) (fn := Tryz.f108) (W := []) (H := []) Tryz.func108 w1t trivial rfl rfl (fun av x => by kernel_rfl))
def z9a (who : Int) (busy : List GItem) (task : GTask) (people : List Int) (did : List GDid) : Option Bool := (z75 busy (fun z => zn9 z task who)).bind fun x1 => ((zw7 people who task.role).bind fun x2 => (if x2 = true then (if x1 = true then (some false) else ((zw6 did who task.apart).bind fun x5 => (some (!x5)))) else (some false)))
def y0i : FCon := ⟨106, .I, [(.sl (.s .item)), (.s .task), (.sl .I), (.sl (.s .did))], fun z c => z9a z c.1 c.2.1 c.2.2.1 c.2.2.2.1⟩
def w77 : Fs := ⟨[za8, y5b, y5a], [zo7], []⟩
theorem w7x : w77.Ok Tryz.prog := (fsK yl3 (fsK v01 (fsK v00 (fsF w2j fs0))))
theorem w91 : y0i.Ok Tryz.prog := FCon.ok (fn_ok (k := y0i.con) (fn := Tryz.f106) (W := []) (H := []) Tryz.func106 w7x trivial rfl rfl (fun av x => by kernel_rfl))
end
end Go.Am
