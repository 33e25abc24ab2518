/- Mirrors and contracts, printed. Own work. -/
import Derived.Test.YtgolgnbgomhknaaGreatBeD1
set_option maxRecDepth 100000
set_option maxHeartbeats 4000000
set_option linter.unusedVariables false
set_option linter.unusedSimpArgs false
namespace Go.Am
noncomputable section
open Go Go.Proofs
def z03 (n : Int) (low : Int) (high : Int) : Option Bool := if decide (low ≤ n) = true then (some (decide (n ≤ high))) else (some false)
def z0m : Con := ⟨90, [.v .I false, .v .I false, .v .I false], [(.B, true)], [], fun x => z03 x.1 x.2.1 x.2.2.1⟩
def v2d : Fs := ⟨[], [], []⟩
theorem v2h : v2d.Ok Tryz.prog := fs0
theorem z0u : z0m.Ok Tryz.prog := fn_ok (k := z0m) (fn := Tryz.f90) (W := []) (H := []) Tryz.func90 v2h trivial rfl rfl (fun av x => by kernel_rfl)
def y90  : Option Bool := some true
def z71 (data : List Int) (kx0_0 : Option Bool) : Nat → Int → Option Bool
  | 0, _ => none
  | n0 + 1, s0_0 => if decide (s0_0 < (data.length : Int)) = true then ((getI data s0_0).bind fun x3 => ((z03 x3 (-99) 99).bind fun x4 => (if x4 = true then (gd (ok64 (s0_0 + 1)) ((z71 data kx0_0 n0) (s0_0 + 1))) else (some false)))) else (kx0_0)
def z2o (data : List Int) : Option Bool := if decide ((data.length : Int) = 3) = true then (z71 data y90 FUEL 0) else (some false)
def z17 : Con := ⟨89, [.v (.sl .I) false], [(.B, true)], [], fun x => z2o x.1⟩
def wx1 : Fs := ⟨[z0m], [], []⟩
theorem w19 : wx1.Ok Tryz.prog := (fsK z0u fs0)
def yk0 : Tmpl := ⟨[(0, .c (.s .I)), (3, .c .i)], []⟩
def yb8 : Tmpl := ⟨[], []⟩
def w7r (av : AV) (x : HP z17.ps) (n : Nat) (v : yk0.den) (K : Ks (CR z17)) : Option (CR z17) := z71 v.1.1 (yb8.at none ((), ()) (K (.exit 0))) n v.1.2.1
def yh8 (av : AV) (x : HP z17.ps) : Hdl (CR z17) := hnd [] yk0 (w7r av x)
theorem w9m : LP z17 Tryz.f89 [0] yh8 := lp_ok (W := []) (H := []) (xs := [yb8]) w19 trivial rfl (fun av x v K => by kernel_rfl) (fun av x n v K => by kernel_rfl)
theorem z6j : z17.Ok Tryz.prog := fn_ok (k := z17) (fn := Tryz.f89) (W := []) (H := [yh8]) Tryz.func89 w19 ⟨w9m, trivial⟩ rfl rfl (fun av x => by kernel_rfl)
def z7o (data : List Int) (k : Int) (n : Int) : Option (List Int) := (z2o data).bind fun x1 => (if x1 = true then ((z03 k 0 2).bind fun x3 => (if x3 = true then ((z03 n (-99) 99).bind fun x5 => (if x5 = true then (gd (([] : List Int).length + data.length ≤ SMALL) ((getI (([] : List Int) ++ data) k).bind fun x8 => (some ((([] : List Int) ++ data).set k.toNat n)))) else (gd (([] : List Int).length + data.length ≤ SMALL) (some (([] : List Int) ++ data))))) else (gd (([] : List Int).length + data.length ≤ SMALL) (some (([] : List Int) ++ data))))) else (gd (([] : List Int).length + data.length ≤ SMALL) (some (([] : List Int) ++ data))))
def zt9 : Con := ⟨171, [.v (.sl .I) false, .v .I false, .v .I false], [((.sl .I), true)], [], fun x => z7o x.1 x.2.1 x.2.2.1⟩
def wh8 : Fs := ⟨[z17, z0m], [], []⟩
theorem wl6 : wh8.Ok Tryz.prog := (fsK z6j (fsK z0u fs0))
theorem yu3 : zt9.Ok Tryz.prog := fn_ok (k := zt9) (fn := Tryz.f171) (W := []) (H := []) Tryz.func171 wl6 trivial rfl rfl (fun av x => by kernel_rfl)
def z6c (e : GAsk) : Option Bool := if decide (e.op = 0) = true then (some (decide ([e.op, e.var, e.k] = [0, 0, 0]))) else ((z03 e.op 1 3).bind fun x2 => (if x2 = true then ((z03 e.var 0 2).bind fun x4 => (if x4 = true then ((z03 e.k (-99) 99).bind fun x6 => (some x6)) else (some false))) else (some false)))
def z8m : Con := ⟨138, [.v (.s .ask) false], [(.B, true)], [], fun x => z6c x.1⟩
def wx3 : Fs := ⟨[z0m], [], []⟩
theorem wz3 : wx3.Ok Tryz.prog := (fsK z0u fs0)
theorem zq3 : z8m.Ok Tryz.prog := fn_ok (k := z8m) (fn := Tryz.f138) (W := []) (H := []) Tryz.func138 wz3 trivial rfl rfl (fun av x => by kernel_rfl)
def z1c (e : GAsk) (data : List Int) : Option Bool := (z6c e).bind fun x1 => (if x1 = true then ((z2o data).bind fun x3 => (if x3 = true then (if decide (e.op = 1) = true then ((getI data e.var).bind fun x6 => (some (decide (x6 < e.k)))) else (if decide (e.op = 2) = true then ((getI data e.var).bind fun x8 => (some (decide (x8 = e.k)))) else (if decide (e.op = 3) = true then ((getI data e.var).bind fun x10 => (some (decide (e.k < x10)))) else (some true)))) else (some false))) else (some false))
def z4g : Con := ⟨181, [.v (.s .ask) false, .v (.sl .I) false], [(.B, true)], [], fun x => z1c x.1 x.2.1⟩
def w51 : Fs := ⟨[z8m, z17], [], []⟩
theorem w5o : w51.Ok Tryz.prog := (fsK zq3 (fsK z6j fs0))
theorem z7b : z4g.Ok Tryz.prog := fn_ok (k := z4g) (fn := Tryz.f181) (W := []) (H := []) Tryz.func181 w5o trivial rfl rfl (fun av x => by kernel_rfl)
def z0c (n : Int) (low : Int) (high : Int) : Option Bool := if decide (low ≤ n) = true then (some (decide (n ≤ high))) else (some false)
def z23 : Con := ⟨113, [.v .I false, .v .I false, .v .I false], [(.B, true)], [], fun x => z0c x.1 x.2.1 x.2.2.1⟩
def v6w : Fs := ⟨[], [], []⟩
theorem v77 : v6w.Ok Tryz.prog := fs0
theorem z2q : z23.Ok Tryz.prog := fn_ok (k := z23) (fn := Tryz.f113) (W := []) (H := []) Tryz.func113 v77 trivial rfl rfl (fun av x => by kernel_rfl)
def z5e (n : Int) : Option Bool := (z0c n (-99) 99).bind fun x1 => (some x1)
def z83 : Con := ⟨114, [.v .I false], [(.B, true)], [], fun x => z5e x.1⟩
def w8c : Fs := ⟨[z23], [], []⟩
theorem w95 : w8c.Ok Tryz.prog := (fsK z2q fs0)
theorem zo7 : z83.Ok Tryz.prog := fn_ok (k := z83) (fn := Tryz.f114) (W := []) (H := []) Tryz.func114 w95 trivial rfl rfl (fun av x => by kernel_rfl)
def z0g (list : List Int) : Option (List Int) := gd (([] : List Int).length + list.length ≤ SMALL) (some (([] : List Int) ++ list))
def z1b : Con := ⟨140, [.v (.sl .I) false], [((.sl .I), true)], [], fun x => z0g x.1⟩
def w2q : Fs := ⟨[], [], []⟩
theorem w2v : w2q.Ok Tryz.prog := fs0
theorem z2k : z1b.Ok Tryz.prog := fn_ok (k := z1b) (fn := Tryz.f140) (W := []) (H := []) Tryz.func140 w2v trivial rfl rfl (fun av x => by kernel_rfl)
def z7c (e : GAsk) : Option Bool := if decide (e.op = 0) = true then (if decide (e.var = 0) = true then (some (decide (e.k = 0))) else (some false)) else ((z0c e.op 1 3).bind fun x3 => (if x3 = true then ((z0c e.var 0 2).bind fun x5 => (if x5 = true then ((z5e e.k).bind fun x7 => (some x7)) else (some false))) else (some false)))
def zp4 : Con := ⟨141, [.v (.s .ask) false], [(.B, true)], [], fun x => z7c x.1⟩
def ww3 : Fs := ⟨[z23, z83], [], []⟩
theorem wy8 : ww3.Ok Tryz.prog := (fsK z2q (fsK zo7 fs0))
theorem y9e : zp4.Ok Tryz.prog := fn_ok (k := zp4) (fn := Tryz.f141) (W := []) (H := []) Tryz.func141 wy8 trivial rfl rfl (fun av x => by kernel_rfl)
def y31  : Option Bool := some true
def z3v (list : List Int) (low : Int) (high : Int) (kx0_0 : Option Bool) : Nat → Int → Option Bool
  | 0, _ => none
  | n0 + 1, s0_0 => if decide (s0_0 < (list.length : Int)) = true then ((getI list s0_0).bind fun x4 => ((z03 x4 low high).bind fun x5 => (if x5 = true then (if decide (0 < s0_0) = true then (gd (ok64 (s0_0 - 1)) ((getI list (s0_0 - 1)).bind fun x9 => ((getI list s0_0).bind fun x10 => (if decide (x10 ≤ x9) = true then (some false) else (gd (ok64 (s0_0 + 1)) ((z3v list low high kx0_0 n0) (s0_0 + 1))))))) else (gd (ok64 (s0_0 + 1)) ((z3v list low high kx0_0 n0) (s0_0 + 1)))) else (some false)))) else (kx0_0)
def za0 (list : List Int) (least : Int) (most : Int) (low : Int) (high : Int) : Option Bool := (z03 (list.length : Int) least most).bind fun x1 => (if x1 = true then (z3v list low high y31 FUEL 0) else (some false))
def z4a : Con := ⟨214, [.v (.sl .I) false, .v .I false, .v .I false, .v .I false, .v .I false], [(.B, true)], [], fun x => za0 x.1 x.2.1 x.2.2.1 x.2.2.2.1 x.2.2.2.2.1⟩
def w8w : Fs := ⟨[z0m], [], []⟩
theorem yh0 : w8w.Ok Tryz.prog := (fsK z0u fs0)
def y6w : Tmpl := ⟨[(0, .c (.s .I)), (3, .c .i), (4, .c .i), (11, .c .i)], []⟩
def y41 : Tmpl := ⟨[], []⟩
def w2l (av : AV) (x : HP z4a.ps) (n : Nat) (v : y6w.den) (K : Ks (CR z4a)) : Option (CR z4a) := z3v v.1.1 v.1.2.1 v.1.2.2.1 (y41.at none ((), ()) (K (.exit 0))) n v.1.2.2.2.1
def y61 (av : AV) (x : HP z4a.ps) : Hdl (CR z4a) := hnd [] y6w (w2l av x)
theorem w3g : LP z4a Tryz.f214 [0] y61 := lp_ok (W := []) (H := []) (xs := [y41]) yh0 trivial rfl (fun av x v K => by kernel_rfl) (fun av x n v K => by kernel_rfl)
theorem wc1 : z4a.Ok Tryz.prog := fn_ok (k := z4a) (fn := Tryz.f214) (W := []) (H := [y61]) Tryz.func214 yh0 ⟨w3g, trivial⟩ rfl rfl (fun av x => by kernel_rfl)
def y9b  : Option Bool := some false
def z79 (list : List Int) (n : Int) (kx0_0 : Option Bool) : Nat → Int → Option Bool
  | 0, _ => none
  | n0 + 1, s0_0 => if decide (s0_0 < (list.length : Int)) = true then ((getI list s0_0).bind fun x2 => (if decide (x2 = n) = true then (some true) else (gd (ok64 (s0_0 + 1)) ((z79 list n kx0_0 n0) (s0_0 + 1))))) else (kx0_0)
def zc9 (list : List Int) (n : Int) : Option Bool := z79 list n y9b FUEL 0
def z4h : Con := ⟨101, [.v (.sl .I) false, .v .I false], [(.B, true)], [], fun x => zc9 x.1 x.2.1⟩
def wy0 : Fs := ⟨[], [], []⟩
theorem w1g : wy0.Ok Tryz.prog := fs0
def yk8 : Tmpl := ⟨[(0, .c (.s .I)), (1, .c .i), (5, .c .i)], []⟩
def yc5 : Tmpl := ⟨[], []⟩
def w7z (av : AV) (x : HP z4h.ps) (n : Nat) (v : yk8.den) (K : Ks (CR z4h)) : Option (CR z4h) := z79 v.1.1 v.1.2.1 (yc5.at none ((), ()) (K (.exit 0))) n v.1.2.2.1
def yi6 (av : AV) (x : HP z4h.ps) : Hdl (CR z4h) := hnd [] yk8 (w7z av x)
theorem w9u : LP z4h Tryz.f101 [0] yi6 := lp_ok (W := []) (H := []) (xs := [yc5]) w1g trivial rfl (fun av x v K => by kernel_rfl) (fun av x n v K => by kernel_rfl)
theorem y9o : z4h.Ok Tryz.prog := fn_ok (k := z4h) (fn := Tryz.f101) (W := []) (H := [yi6]) Tryz.func101 w1g ⟨w9u, trivial⟩ rfl rfl (fun av x => by kernel_rfl)
def y2y (s0_0 : Int) (bk0 : Int → Option Bool) : Option Bool := gd (ok64 (s0_0 + 1)) (bk0 (s0_0 + 1))
def z2p (t : GTask) (s0_0 : Int) (x4 : GFlow) (kx1_0 : Option Bool) : Nat → Int → Option Bool
  | 0, _ => none
  | n1 + 1, s1_0 => if decide (s1_0 < s0_0) = true then ((getI t.out s1_0).bind fun x14 => (if decide (x14.to = x4.to) = true then (some false) else (gd (ok64 (s1_0 + 1)) ((z2p t s0_0 x4 kx1_0 n1) (s1_0 + 1))))) else (kx1_0)
def y2z (s0_0 : Int) (bk0 : Int → Option Bool) : Option Bool := gd (ok64 (s0_0 + 1)) (bk0 (s0_0 + 1))
def y30  : Option Bool := some true
def z3u (t : GTask) (places : Int) (kx0_0 : Option Bool) : Nat → Int → Option Bool
  | 0, _ => none
  | n0 + 1, s0_0 => if decide (s0_0 < (t.out.length : Int)) = true then ((getI t.out s0_0).bind fun x4 => (gd (ok64 ((t.out.length : Int) - 1)) (if decide (s0_0 = ((t.out.length : Int) - 1)) = true then (gd (ok64 (places - 1)) ((z03 x4.to 1 (places - 1)).bind fun x8 => (if x8 = true then ((z6c x4.if_).bind fun x10 => (if x10 = true then (if (true == (decide (x4.if_.op = 0))) = true then (z2p t s0_0 x4 (y2y s0_0 (z3u t places kx0_0 n0)) FUEL 0) else (some false)) else (some false))) else (some false)))) else (gd (ok64 (places - 1)) ((z03 x4.to 1 (places - 1)).bind fun x19 => (if x19 = true then ((z6c x4.if_).bind fun x21 => (if x21 = true then (if ((decide (t.split = 1)) == (decide (x4.if_.op = 0))) = true then (z2p t s0_0 x4 (y2z s0_0 (z3u t places kx0_0 n0)) FUEL 0) else (some false)) else (some false))) else (some false))))))) else (kx0_0)
def zo6 (t : GTask) (places : Int) : Option Bool := (z03 (t.out.length : Int) 1 3).bind fun x1 => (if x1 = true then (z3u t places y30 FUEL 0) else (some false))
def z0y : Con := ⟨215, [.v (.s .task) false, .v .I false], [(.B, true)], [], fun x => zo6 x.1 x.2.1⟩
def w8v : Fs := ⟨[z0m, z8m], [], []⟩
theorem y1c : w8v.Ok Tryz.prog := (fsK z0u (fsK zq3 fs0))
def y0u : Tmpl := ⟨[(1, .c .i), (2, .c (.bx 2 0)), (5, .c .i), (6, .c (.bx 6 0)), (8, .c .i)], [(2, .boxT (.s .task)), (6, .boxT (.s .flow))]⟩
def y01 : Tmpl := ⟨[(1, .c .i), (2, .c (.bx 2 0)), (5, .c .i)], [(2, .boxT (.s .task))]⟩
def yp5 (av : AV) (x : HP z0y.ps) (n : Nat) (v : y0u.den) (K : Ks (CR z0y)) : Option (CR z0y) := z2p v.2.1 v.1.2.2.1 v.2.2.1 (y01.at none ((v.1.1, (), v.1.2.2.1, ()), (v.2.1, ())) (K (.exit 2))) n v.1.2.2.2.2.1
def y09 (av : AV) (x : HP z0y.ps) : Hdl (CR z0y) := hnd [] y0u (yp5 av x)
theorem yt1 : LP z0y Tryz.f215 [0, 0] y09 := lp_ok (W := []) (H := []) (xs := [y01]) y1c trivial rfl (fun av x v K => by kernel_rfl) (fun av x n v K => by kernel_rfl)
def y6v : Tmpl := ⟨[(1, .c .i), (2, .c (.bx 2 0)), (5, .c .i)], [(2, .boxT (.s .task))]⟩
def y40 : Tmpl := ⟨[], []⟩
def w2k (av : AV) (x : HP z0y.ps) (n : Nat) (v : y6v.den) (K : Ks (CR z0y)) : Option (CR z0y) := z3u v.2.1 v.1.1 (y40.at none ((), ()) (K (.exit 0))) n v.1.2.2.1
def y60 (av : AV) (x : HP z0y.ps) : Hdl (CR z0y) := hnd [] y6v (w2k av x)
theorem w3f : LP z0y Tryz.f215 [0] y60 := lp_ok (W := []) (H := [y09]) (xs := [y40]) y1c ⟨yt1, trivial⟩ rfl (fun av x v K => by kernel_rfl) (fun av x n v K => by kernel_rfl)
theorem wc0 : z0y.Ok Tryz.prog := fn_ok (k := z0y) (fn := Tryz.f215) (W := []) (H := [y60]) Tryz.func215 y1c ⟨w3f, trivial⟩ rfl rfl (fun av x => by kernel_rfl)
def zv8 (t : GTask) (places : Int) (tasks : Int) : Option Bool := (z03 t.join 1 3).bind fun x1 => (if x1 = true then ((z03 t.split 1 3).bind fun x3 => (if x3 = true then (gd (ok64 (places - 1)) ((za0 t.in_ 1 3 0 (places - 1)).bind fun x6 => (if x6 = true then ((zc9 t.in_ 1).bind fun x8 => (if x8 = true then (some false) else ((zo6 t places).bind fun x10 => (if x10 = true then (gd (ok64 (places - 1)) ((za0 t.clear 0 places 2 (places - 1)).bind fun x13 => (if x13 = true then ((z03 t.role 1 3).bind fun x15 => (if x15 = true then (gd (ok64 (tasks - 1)) ((z03 t.apart (-1) (tasks - 1)).bind fun x18 => (if x18 = true then ((z03 t.all 1 3).bind fun x20 => (if x20 = true then ((z03 t.need 1 t.all).bind fun x22 => (some x22)) else (some false))) else (some false)))) else (some false))) else (some false)))) else (some false))))) else (some false)))) else (some false))) else (some false))
def y4r : Con := ⟨198, [.v (.s .task) false, .v .I false, .v .I false], [(.B, true)], [], fun x => zv8 x.1 x.2.1 x.2.2.1⟩
def wj2 : Fs := ⟨[z0m, z4a, z4h, z0y], [], []⟩
theorem wm4 : wj2.Ok Tryz.prog := (fsK z0u (fsK wc1 (fsK y9o (fsK wc0 fs0))))
theorem wq6 : y4r.Ok Tryz.prog := fn_ok (k := y4r) (fn := Tryz.f198) (W := []) (H := []) Tryz.func198 wm4 trivial rfl rfl (fun av x => by kernel_rfl)
def y94  : Option Bool := some true
def z76 (n : GNet) (kx0_0 : Option Bool) : Nat → Int → Option Bool
  | 0, _ => none
  | n0 + 1, s0_0 => if decide (s0_0 < (n.tasks.length : Int)) = true then ((getI n.tasks s0_0).bind fun x6 => ((zv8 x6 n.places (n.tasks.length : Int)).bind fun x7 => (if x7 = true then (gd (ok64 (s0_0 + 1)) ((z76 n kx0_0 n0) (s0_0 + 1))) else (some false)))) else (kx0_0)
def z3g (n : GNet) : Option Bool := (z03 n.places 2 8).bind fun x1 => (if x1 = true then ((z03 (n.tasks.length : Int) 1 6).bind fun x3 => (if x3 = true then (z76 n y94 FUEL 0) else (some false))) else (some false))
def z2m : Con := ⟨161, [.v (.s .net) false], [(.B, true)], [], fun x => z3g x.1⟩
def wx6 : Fs := ⟨[z0m, y4r], [], []⟩
theorem w1d : wx6.Ok Tryz.prog := (fsK z0u (fsK wq6 fs0))
def yk4 : Tmpl := ⟨[(1, .c (.bx 1 0)), (3, .c .i)], [(1, .boxT (.s .net))]⟩
def yc2 : Tmpl := ⟨[], []⟩
def w7v (av : AV) (x : HP z2m.ps) (n : Nat) (v : yk4.den) (K : Ks (CR z2m)) : Option (CR z2m) := z76 v.2.1 (yc2.at none ((), ()) (K (.exit 0))) n v.1.2.1
def yi2 (av : AV) (x : HP z2m.ps) : Hdl (CR z2m) := hnd [] yk4 (w7v av x)
theorem w9q : LP z2m Tryz.f161 [0] yi2 := lp_ok (W := []) (H := []) (xs := [yc2]) w1d trivial rfl (fun av x v K => by kernel_rfl) (fun av x n v K => by kernel_rfl)
theorem zq4 : z2m.Ok Tryz.prog := fn_ok (k := z2m) (fn := Tryz.f161) (W := []) (H := [yi2]) Tryz.func161 w1d ⟨w9q, trivial⟩ rfl rfl (fun av x => by kernel_rfl)
def zh9 (s1_0 : Int) (bk1 : Int → List Bool → Option (List Bool)) (l3_1 : List Bool) : Option (List Bool) := gd (ok64 (s1_0 + 1)) (bk1 (s1_0 + 1) l3_1)
def zi0 (s1_0 : Int) (bk1 : Int → List Bool → Option (List Bool)) (l3_1 : List Bool) : Option (List Bool) := gd (ok64 (s1_0 + 1)) (bk1 (s1_0 + 1) l3_1)
def zi1 (s1_0 : Int) (bk1 : Int → List Bool → Option (List Bool)) (l3_1 : List Bool) : Option (List Bool) := gd (ok64 (s1_0 + 1)) (bk1 (s1_0 + 1) l3_1)
def z1k (n : GNet) (but : Int) (s1_0 : Int) (s2_0 : Bool) (kx3_0 : List Bool → Option (List Bool)) (kx3_1 : List Bool → Option (List Bool)) (kx3_2 : List Bool → Option (List Bool)) : Nat → Int → List Bool → Option (List Bool)
  | 0, _, _ => none
  | n3 + 1, s3_0, l3_1 => (getI n.tasks s1_0).bind fun x12 => (if decide (s3_0 < (x12.out.length : Int)) = true then (if s2_0 = true then (if decide (s1_0 = but) = true then (kx3_0 l3_1) else ((getI n.tasks s1_0).bind fun x17 => ((getI x17.out s3_0).bind fun x18 => ((getI l3_1 x18.to).bind fun x19 => (gd (ok64 (s3_0 + 1)) ((z1k n but s1_0 s2_0 kx3_0 kx3_1 kx3_2 n3) (s3_0 + 1) (l3_1.set x18.to.toNat true))))))) else (kx3_1 l3_1)) else (kx3_2 l3_1))
def y0j (n : GNet) (but : Int) (s1_0 : Int) (l1_1 : List Bool) (bk1 : Int → List Bool → Option (List Bool)) (s2_0 : Bool) : Option (List Bool) := z1k n but s1_0 s2_0 (zh9 s1_0 bk1) (zi0 s1_0 bk1) (zi1 s1_0 bk1) FUEL 0 l1_1
def z26 (n : GNet) (s1_0 : Int) (l1_1 : List Bool) (kx2_0 : Bool → Option (List Bool)) : Nat → Bool → Int → Option (List Bool)
  | 0, _, _ => none
  | n2 + 1, s2_0, s2_1 => (getI n.tasks s1_0).bind fun x4 => (if decide (s2_1 < (x4.in_.length : Int)) = true then (if s2_0 = true then (gd (ok64 (s2_1 + 1)) ((z26 n s1_0 l1_1 kx2_0 n2) true (s2_1 + 1))) else ((getI n.tasks s1_0).bind fun x8 => ((getI x8.in_ s2_1).bind fun x9 => ((getI l1_1 x9).bind fun x10 => (gd (ok64 (s2_1 + 1)) ((z26 n s1_0 l1_1 kx2_0 n2) x10 (s2_1 + 1))))))) else (kx2_0 s2_0))
def y0k (s0_0 : Int) (bk0 : Int → List Bool → Option (List Bool)) (l1_1 : List Bool) : Option (List Bool) := gd (ok64 (s0_0 + 1)) (bk0 (s0_0 + 1) l1_1)
def z0k (n : GNet) (but : Int) (kx1_0 : List Bool → Option (List Bool)) : Nat → Int → List Bool → Option (List Bool)
  | 0, _, _ => none
  | n1 + 1, s1_0, l1_1 => if decide (s1_0 < (n.tasks.length : Int)) = true then (z26 n s1_0 l1_1 (y0j n but s1_0 l1_1 (z0k n but kx1_0 n1)) FUEL false 0) else (kx1_0 l1_1)
def y0l (l0_1 : List Bool) : Option (List Bool) := some l0_1
def z4r (n : GNet) (but : Int) (kx0_0 : List Bool → Option (List Bool)) : Nat → Int → List Bool → Option (List Bool)
  | 0, _, _ => none
  | n0 + 1, s0_0, l0_1 => if decide (s0_0 < n.places) = true then (z0k n but (y0k s0_0 (z4r n but kx0_0 n0)) FUEL 0 l0_1) else (kx0_0 l0_1)
def zh8 (n : GNet) (marked : List Bool) (but : Int) : Option (List Bool) := gd (([] : List Bool).length + marked.length ≤ SMALL) (z4r n but y0l FUEL 0 (([] : List Bool) ++ marked))
def z06 : Con := ⟨216, [.v (.s .net) false, .v (.sl .B) false, .v .I false], [((.sl .B), true)], [], fun x => zh8 x.1 x.2.1 x.2.2.1⟩
def w57 : Fs := ⟨[], [], []⟩
theorem z8i : w57.Ok Tryz.prog := fs0
def zq8 : Tmpl := ⟨[(2, .c .i), (3, .c (.bx 3 0)), (7, .c (.ref 15)), (8, .c .i), (9, .c .i), (10, .c .b), (11, .c .i)], [(3, .boxT (.s .net)), (15, .arr .B true)]⟩
def zk9 : Tmpl := ⟨[(2, .c .i), (3, .c (.bx 3 0)), (7, .c (.ref 15)), (8, .c .i), (9, .c .i), (10, .c .b)], [(3, .boxT (.s .net)), (15, .arr .B true)]⟩
def y7j (av : AV) (x : HP z06.ps) (n : Nat) (v : zq8.den) (K : Ks (CR z06)) : Option (CR z06) := z26 v.2.1 v.1.2.2.2.2.1 v.2.2.1 (fun s2_0 => zk9.at none ((v.1.1, (), (), v.1.2.2.2.1, v.1.2.2.2.2.1, s2_0, ()), (v.2.1, v.2.2.1, ())) (K (.exit 4))) n v.1.2.2.2.2.2.1 v.1.2.2.2.2.2.2.1
def zp1 (av : AV) (x : HP z06.ps) : Hdl (CR z06) := hnd [] zq8 (y7j av x)
theorem y8s : LP z06 Tryz.f216 [0, 0, 0] zp1 := lp_ok (W := []) (H := []) (xs := [zk9]) z8i trivial rfl (fun av x v K => by kernel_rfl) (fun av x n v K => by kernel_rfl)
def zq9 : Tmpl := ⟨[(2, .c .i), (3, .c (.bx 3 0)), (7, .c (.ref 15)), (8, .c .i), (9, .c .i), (10, .c .b), (12, .c .i)], [(3, .boxT (.s .net)), (15, .arr .B true)]⟩
def z5p : Tmpl := ⟨[(2, .c .i), (3, .c (.bx 3 0)), (7, .c (.ref 15)), (8, .c .i), (9, .c .i)], [(3, .boxT (.s .net)), (15, .arr .B true)]⟩
def y7k (av : AV) (x : HP z06.ps) (n : Nat) (v : zq9.den) (K : Ks (CR z06)) : Option (CR z06) := z1k v.2.1 v.1.1 v.1.2.2.2.2.1 v.1.2.2.2.2.2.1 (fun l3_1 => z5p.at none ((v.1.1, (), (), v.1.2.2.2.1, v.1.2.2.2.2.1, ()), (v.2.1, l3_1, ())) (K (.exit 6))) (fun l3_1 => z5p.at none ((v.1.1, (), (), v.1.2.2.2.1, v.1.2.2.2.2.1, ()), (v.2.1, l3_1, ())) (K (.exit 6))) (fun l3_1 => z5p.at none ((v.1.1, (), (), v.1.2.2.2.1, v.1.2.2.2.2.1, ()), (v.2.1, l3_1, ())) (K (.exit 6))) n v.1.2.2.2.2.2.2.1 v.2.2.1
def zp2 (av : AV) (x : HP z06.ps) : Hdl (CR z06) := hnd [] zq9 (y7k av x)
theorem y8t : LP z06 Tryz.f216 [0, 0, 1] zp2 := lp_ok (W := []) (H := []) (xs := [z5p]) z8i trivial rfl (fun av x v K => by kernel_rfl) (fun av x n v K => by kernel_rfl)
def zz7 : Tmpl := ⟨[(2, .c .i), (3, .c (.bx 3 0)), (7, .c (.ref 15)), (8, .c .i), (9, .c .i)], [(3, .boxT (.s .net)), (15, .arr .B true)]⟩
def zt0 : Tmpl := ⟨[(2, .c .i), (3, .c (.bx 3 0)), (7, .c (.ref 15)), (8, .c .i)], [(3, .boxT (.s .net)), (15, .arr .B true)]⟩
def yl3 (av : AV) (x : HP z06.ps) (n : Nat) (v : zz7.den) (K : Ks (CR z06)) : Option (CR z06) := z0k v.2.1 v.1.1 (fun l1_1 => zt0.at none ((v.1.1, (), (), v.1.2.2.2.1, ()), (v.2.1, l1_1, ())) (K (.exit 2))) n v.1.2.2.2.2.1 v.2.2.1
def zx7 (av : AV) (x : HP z06.ps) : Hdl (CR z06) := hnd [] zz7 (yl3 av x)
theorem yn5 : LP z06 Tryz.f216 [0, 0] zx7 := lp_ok (W := []) (H := [zp1, zp2]) (xs := [zt0]) z8i ⟨y8s, y8t, trivial⟩ rfl (fun av x v K => by kernel_rfl) (fun av x n v K => by kernel_rfl)
def y3h : Tmpl := ⟨[(2, .c .i), (3, .c (.bx 3 0)), (7, .c (.ref 15)), (8, .c .i)], [(3, .boxT (.s .net)), (15, .arr .B true)]⟩
def y14 : Tmpl := ⟨[(7, .c (.ref 15))], [(15, .arr .B true)]⟩
def yx9 (av : AV) (x : HP z06.ps) (n : Nat) (v : y3h.den) (K : Ks (CR z06)) : Option (CR z06) := z4r v.2.1 v.1.1 (fun l0_1 => y14.at none (((), ()), (l0_1, ())) (K (.exit 0))) n v.1.2.2.2.1 v.2.2.1
def y2m (av : AV) (x : HP z06.ps) : Hdl (CR z06) := hnd [] y3h (yx9 av x)
theorem w0i : LP z06 Tryz.f216 [0] y2m := lp_ok (W := []) (H := [zx7]) (xs := [y14]) z8i ⟨yn5, trivial⟩ rfl (fun av x v K => by kernel_rfl) (fun av x n v K => by kernel_rfl)
theorem w6o : z06.Ok Tryz.prog := fn_ok (k := z06) (fn := Tryz.f216) (W := []) (H := [y2m]) Tryz.func216 z8i ⟨w0i, trivial⟩ rfl rfl (fun av x => by kernel_rfl)
def zu9 (kind : Int) : Option Bool := (z0c kind 1 3).bind fun x1 => (some x1)
def y4m : Con := ⟨177, [.v .I false], [(.B, true)], [], fun x => zu9 x.1⟩
def wh5 : Fs := ⟨[z23], [], []⟩
theorem wl3 : wh5.Ok Tryz.prog := (fsK z2q fs0)
theorem wp7 : y4m.Ok Tryz.prog := fn_ok (k := y4m) (fn := Tryz.f177) (W := []) (H := []) Tryz.func177 wl3 trivial rfl rfl (fun av x => by kernel_rfl)
def zg4 (role : Int) : Option Bool := (z0c role 1 3).bind fun x1 => (some x1)
def zt7 : Con := ⟨151, [.v .I false], [(.B, true)], [], fun x => zg4 x.1⟩
def wh6 : Fs := ⟨[z23], [], []⟩
theorem wl4 : wh6.Ok Tryz.prog := (fsK z2q fs0)
theorem yu1 : zt7.Ok Tryz.prog := fn_ok (k := zt7) (fn := Tryz.f151) (W := []) (H := []) Tryz.func151 wl4 trivial rfl rfl (fun av x => by kernel_rfl)
def y1t (places : Int) (tasks : Int) : Option Bool := (z0c places 2 8).bind fun x1 => (if x1 = true then ((z0c tasks 1 6).bind fun x3 => (some x3)) else (some false))
def y1g : Con := ⟨122, [.v .I false, .v .I false], [(.B, true)], [], fun x => y1t x.1 x.2.1⟩
def w8f : Fs := ⟨[z23], [], []⟩
theorem w97 : w8f.Ok Tryz.prog := (fsK z2q fs0)
theorem wa8 : y1g.Ok Tryz.prog := fn_ok (k := y1g) (fn := Tryz.f122) (W := []) (H := []) Tryz.func122 w97 trivial rfl rfl (fun av x => by kernel_rfl)
def z0n (n : GNet) (t : Int) : Option Bool := gd (ok64 ((n.tasks.length : Int) - 1)) ((z0c t 0 ((n.tasks.length : Int) - 1)).bind fun x2 => (some x2))
def z1r : Con := ⟨96, [.v (.s .net) false, .v .I false], [(.B, true)], [], fun x => z0n x.1 x.2.1⟩
def y7p : Fs := ⟨[z23], [], []⟩
theorem y7t : y7p.Ok Tryz.prog := (fsK z2q fs0)
theorem z4k : z1r.Ok Tryz.prog := fn_ok (k := z1r) (fn := Tryz.f96) (W := []) (H := []) Tryz.func96 y7t trivial rfl rfl (fun av x => by kernel_rfl)
def z6o (t : GTask) : Option GTask := (z0g t.in_).bind fun x1 => (gd (([] : List GFlow).length + t.out.length ≤ SMALL) ((z0g t.clear).bind fun x3 => (some (GTask.mk t.join t.split x1 (([] : List GFlow) ++ t.out) x3 t.role t.apart t.all t.need))))
def z9p : Con := ⟨207, [.v (.s .task) false], [((.s .task), true)], [], fun x => z6o x.1⟩
def ye8 : Fs := ⟨[z1b], [], []⟩
theorem yf3 : ye8.Ok Tryz.prog := (fsK z2k fs0)
theorem yf7 : z9p.Ok Tryz.prog := fn_ok (k := z9p) (fn := Tryz.f207) (W := []) (H := []) Tryz.func207 yf3 trivial rfl rfl (fun av x => by kernel_rfl)
def z8a (p0_3 : Int) (l0_1 : List GTask) : Option GNet := some (GNet.mk p0_3 l0_1)
def z2b (p0_0 : List GTask) (p0_1 : Int) (kx0_0 : List GTask → Option GNet) : Nat → Int → List GTask → Option GNet
  | 0, _, _ => none
  | n0 + 1, s0_0, l0_1 => if decide (s0_0 < p0_1) = true then ((getI p0_0 s0_0).bind fun x2 => ((z6o x2).bind fun x3 => (gd (l0_1.length + [x3].length ≤ SMALL) (gd (ok64 (s0_0 + 1)) ((z2b p0_0 p0_1 kx0_0 n0) (s0_0 + 1) (l0_1 ++ [x3])))))) else (kx0_0 l0_1)
def z7k (n : GNet) : Option GNet := z2b n.tasks (n.tasks.length : Int) (z8a n.places) FUEL 0 ([] : List GTask)
def z19 : Con := ⟨184, [.v (.s .net) false], [((.s .net), true)], [], fun x => z7k x.1⟩
def ym0 : Fs := ⟨[z9p], [], []⟩
theorem zx1 : ym0.Ok Tryz.prog := (fsK yf7 fs0)
def zq6 : Tmpl := ⟨[(2, .c (.bx 2 0)), (3, .c (.bx 3 0)), (10, .c (.s (.s .task))), (11, .c .i), (12, .c .i)], [(2, .box [.i, .nl]), (3, .box [.i, .ref 510301]), (510301, .arr (.s .task) true)]⟩
def zk7 : Tmpl := ⟨[(2, .c (.bx 2 0)), (3, .c (.bx 3 0))], [(2, .box [.i, .nl]), (3, .box [.i, .ref 510301]), (510301, .arr (.s .task) true)]⟩
def y7h (av : AV) (x : HP z19.ps) (n : Nat) (v : zq6.den) (K : Ks (CR z19)) : Option (CR z19) := z2b v.1.2.2.1 v.1.2.2.2.1 (fun l0_1 => zk7.at none (((), (), ()), ((v.2.1.1, (), ()), (v.2.2.1.1, (), ()), l0_1, ())) (K (.exit 0))) n v.1.2.2.2.2.1 v.2.2.2.1
def zo9 (av : AV) (x : HP z19.ps) : Hdl (CR z19) := hnd [.b 3 1 510301 (.s .task)] zq6 (y7h av x)
theorem y8q : LP z19 Tryz.f184 [0] zo9 := lp_ok (W := []) (H := []) (xs := [zk7]) zx1 trivial rfl (fun av x v K => by kernel_rfl) (fun av x n v K => by kernel_rfl)
theorem yo4 : z19.Ok Tryz.prog := fn_ok (k := z19) (fn := Tryz.f184) (W := []) (H := [zo9]) Tryz.func184 zx1 ⟨y8q, trivial⟩ rfl rfl (fun av x => by kernel_rfl)
def y93  : Option Bool := some true
def z75 (marks : List Int) (kx0_0 : Option Bool) : Nat → Int → Option Bool
  | 0, _ => none
  | n0 + 1, s0_0 => if decide (s0_0 < (marks.length : Int)) = true then ((getI marks s0_0).bind fun x5 => ((z03 x5 0 4).bind fun x6 => (if x6 = true then (gd (ok64 (s0_0 + 1)) ((z75 marks kx0_0 n0) (s0_0 + 1))) else (some false)))) else (kx0_0)
def z8t (n : GNet) (marks : List Int) : Option Bool := (z3g n).bind fun x1 => (if x1 = true then (if decide ((marks.length : Int) = n.places) = true then (z75 marks y93 FUEL 0) else (some false)) else (some false))
def z3c : Con := ⟨87, [.v (.s .net) false, .v (.sl .I) false], [(.B, true)], [], fun x => z8t x.1 x.2.1⟩
def wx5 : Fs := ⟨[z2m, z0m], [], []⟩
theorem w1c : wx5.Ok Tryz.prog := (fsK zq4 (fsK z0u fs0))
def yk3 : Tmpl := ⟨[(1, .c (.s .I)), (5, .c .i)], []⟩
def yc1 : Tmpl := ⟨[], []⟩
def w7u (av : AV) (x : HP z3c.ps) (n : Nat) (v : yk3.den) (K : Ks (CR z3c)) : Option (CR z3c) := z75 v.1.1 (yc1.at none ((), ()) (K (.exit 0))) n v.1.2.1
def yi1 (av : AV) (x : HP z3c.ps) : Hdl (CR z3c) := hnd [] yk3 (w7u av x)
theorem w9p : LP z3c Tryz.f87 [0] yi1 := lp_ok (W := []) (H := []) (xs := [yc1]) w1c trivial rfl (fun av x v K => by kernel_rfl) (fun av x n v K => by kernel_rfl)
theorem y0p : z3c.Ok Tryz.prog := fn_ok (k := z3c) (fn := Tryz.f87) (W := []) (H := [yi1]) Tryz.func87 w1c ⟨w9p, trivial⟩ rfl rfl (fun av x => by kernel_rfl)
def zb2 (s0_0 : Bool) (s0_1 : Bool) : Option (Bool × Bool) := some (s0_0, s0_1)
def z1z (marks : List Int) (list : List Int) (kx0_0 : Bool → Bool → Option (Bool × Bool)) : Nat → Bool → Bool → Int → Option (Bool × Bool)
  | 0, _, _, _ => none
  | n0 + 1, s0_0, s0_1, s0_2 => if decide (s0_2 < (list.length : Int)) = true then (if s0_0 = true then (if s0_1 = true then ((getI list s0_2).bind fun x4 => ((getI marks x4).bind fun x5 => (gd (ok64 (s0_2 + 1)) ((z1z marks list kx0_0 n0) true (decide (0 < x5)) (s0_2 + 1))))) else (gd (ok64 (s0_2 + 1)) ((z1z marks list kx0_0 n0) true false (s0_2 + 1)))) else ((getI list s0_2).bind fun x8 => ((getI marks x8).bind fun x9 => (if s0_1 = true then ((getI list s0_2).bind fun x11 => ((getI marks x11).bind fun x12 => (gd (ok64 (s0_2 + 1)) ((z1z marks list kx0_0 n0) (decide (0 < x9)) (decide (0 < x12)) (s0_2 + 1))))) else (gd (ok64 (s0_2 + 1)) ((z1z marks list kx0_0 n0) (decide (0 < x9)) false (s0_2 + 1))))))) else (kx0_0 s0_0 s0_1)
def zv9 (marks : List Int) (list : List Int) : Option (Bool × Bool) := z1z marks list zb2 FUEL false true 0
def z58 : Con := ⟨200, [.v (.sl .I) false, .v (.sl .I) false], [(.B, true), (.B, true)], [], fun x => zv9 x.1 x.2.1⟩
def wj4 : Fs := ⟨[], [], []⟩
theorem ys0 : wj4.Ok Tryz.prog := fs0
def ya4 : Tmpl := ⟨[(0, .c (.s .I)), (1, .c (.s .I)), (6, .c .b), (7, .c .b), (8, .c .i)], []⟩
def y77 : Tmpl := ⟨[(6, .c .b), (7, .c .b)], []⟩
def w4c (av : AV) (x : HP z58.ps) (n : Nat) (v : ya4.den) (K : Ks (CR z58)) : Option (CR z58) := z1z v.1.1 v.1.2.1 (fun s0_0 s0_1 => y77.at none ((s0_0, s0_1, ()), ()) (K (.exit 0))) n v.1.2.2.1 v.1.2.2.2.1 v.1.2.2.2.2.1
def y8d (av : AV) (x : HP z58.ps) : Hdl (CR z58) := hnd [] ya4 (w4c av x)
theorem w66 : LP z58 Tryz.f200 [0] y8d := lp_ok (W := []) (H := []) (xs := [y77]) ys0 trivial rfl (fun av x v K => by kernel_rfl) (fun av x n v K => by kernel_rfl)
theorem wq7 : z58.Ok Tryz.prog := fn_ok (k := z58) (fn := Tryz.f200) (W := []) (H := [y8d]) Tryz.func200 ys0 ⟨w66, trivial⟩ rfl rfl (fun av x => by kernel_rfl)
def z4t (s1_0 : Int) (bk1 : Int → List Bool → Option Bool) (l2_1 : List Bool) : Option Bool := gd (ok64 (s1_0 + 1)) (bk1 (s1_0 + 1) l2_1)
def z35 (p2_0 : List GFlow) (kx2_0 : List Bool → Option Bool) : Nat → Int → List Bool → Option Bool
  | 0, _, _ => none
  | n2 + 1, s2_0, l2_1 => if decide (s2_0 < (p2_0.length : Int)) = true then ((getI p2_0 s2_0).bind fun x15 => ((getI l2_1 x15.to).bind fun x16 => (gd (ok64 (s2_0 + 1)) ((z35 p2_0 kx2_0 n2) (s2_0 + 1) (l2_1.set x15.to.toNat true))))) else (kx2_0 l2_1)
def zi4  : Option Bool := some false
def z29 (n : GNet) (marks : List Int) (t : Int) (x19 : (List Bool)) (kx3_0 : Option Bool) : Nat → Int → Option Bool
  | 0, _ => none
  | n3 + 1, s3_0 => (getI n.tasks t).bind fun x20 => (if decide (s3_0 < (x20.in_.length : Int)) = true then ((getI n.tasks t).bind fun x22 => ((getI x22.in_ s3_0).bind fun x23 => ((getI marks x23).bind fun x24 => (if decide (x24 = 0) = true then ((getI n.tasks t).bind fun x26 => ((getI x26.in_ s3_0).bind fun x27 => ((getI x19 x27).bind fun x28 => (if x28 = true then (some true) else (gd (ok64 (s3_0 + 1)) ((z29 n marks t x19 kx3_0 n3) (s3_0 + 1))))))) else (gd (ok64 (s3_0 + 1)) ((z29 n marks t x19 kx3_0 n3) (s3_0 + 1))))))) else (kx3_0))
def z27 (n : GNet) (marks : List Int) (t : Int) (l1_1 : List Bool) : Option Bool := (zh8 n l1_1 t).bind fun x19 => (z29 n marks t x19 zi4 FUEL 0)
def z16 (n : GNet) (busy : List GItem) (kx1_0 : List Bool → Option Bool) : Nat → Int → List Bool → Option Bool
  | 0, _, _ => none
  | n1 + 1, s1_0, l1_1 => if decide (s1_0 < (busy.length : Int)) = true then ((getI busy s1_0).bind fun x12 => ((getI n.tasks x12.task).bind fun x13 => (z35 x13.out (z4t s1_0 (z16 n busy kx1_0 n1)) FUEL 0 l1_1))) else (kx1_0 l1_1)
def z4s (n : GNet) (marks : List Int) (busy : List GItem) (t : Int) (l0_1 : List Bool) : Option Bool := z16 n busy (z27 n marks t) FUEL 0 l0_1
def z28 (n : GNet) (marks : List Int) (t : Int) (kx0_0 : List Bool → Option Bool) : Nat → Int → List Bool → Option Bool
  | 0, _, _ => none
  | n0 + 1, s0_0, l0_1 => if decide (s0_0 < n.places) = true then ((getI marks s0_0).bind fun x3 => (if decide (0 < x3) = true then ((getI n.tasks t).bind fun x5 => ((zc9 x5.in_ s0_0).bind fun x6 => ((getI l0_1 s0_0).bind fun x7 => (gd (ok64 (s0_0 + 1)) ((z28 n marks t kx0_0 n0) (s0_0 + 1) (l0_1.set s0_0.toNat (!x6))))))) else ((getI l0_1 s0_0).bind fun x9 => (gd (ok64 (s0_0 + 1)) ((z28 n marks t kx0_0 n0) (s0_0 + 1) (l0_1.set s0_0.toNat false)))))) else (kx0_0 l0_1)
def zi3 (n : GNet) (marks : List Int) (busy : List GItem) (t : Int) : Option Bool := gd ((0 : Int) ≤ n.places ∧ n.places ≤ (1000000000 : Int)) (z28 n marks t (z4s n marks busy t) FUEL 0 (List.replicate n.places.toNat false))
def z07 : Con := ⟨201, [.v (.s .net) false, .v (.sl .I) false, .v (.sl (.s .item)) false, .v .I false], [(.B, true)], [], fun x => zi3 x.1 x.2.1 x.2.2.1 x.2.2.2.1⟩
def w58 : Fs := ⟨[z4h, z06], [], []⟩
theorem z8j : w58.Ok Tryz.prog := (fsK y9o (fsK w6o fs0))
def zz8 : Tmpl := ⟨[(1, .c (.s .I)), (2, .c (.s (.s .item))), (3, .c .i), (4, .c (.bx 4 0)), (9, .c (.ref 18)), (11, .c .i), (12, .c (.s (.s .flow))), (13, .c .i)], [(4, .boxT (.s .net)), (18, .arr .B true)]⟩
def zt1 : Tmpl := ⟨[(1, .c (.s .I)), (2, .c (.s (.s .item))), (3, .c .i), (4, .c (.bx 4 0)), (9, .c (.ref 18)), (11, .c .i)], [(4, .boxT (.s .net)), (18, .arr .B true)]⟩
def yl4 (av : AV) (x : HP z07.ps) (n : Nat) (v : zz8.den) (K : Ks (CR z07)) : Option (CR z07) := z35 v.1.2.2.2.2.2.2.1 (fun l2_1 => zt1.at none ((v.1.1, v.1.2.1, v.1.2.2.1, (), (), v.1.2.2.2.2.2.1, ()), (v.2.1, l2_1, ())) (K (.exit 4))) n v.1.2.2.2.2.2.2.2.1 v.2.2.1
def zx8 (av : AV) (x : HP z07.ps) : Hdl (CR z07) := hnd [] zz8 (yl4 av x)
theorem yn6 : LP z07 Tryz.f201 [1, 0] zx8 := lp_ok (W := []) (H := []) (xs := [zt1]) z8j trivial rfl (fun av x v K => by kernel_rfl) (fun av x n v K => by kernel_rfl)
def y3i : Tmpl := ⟨[(1, .c (.s .I)), (2, .c (.s (.s .item))), (3, .c .i), (4, .c (.bx 4 0)), (9, .c (.ref 18)), (10, .c .i)], [(4, .boxT (.s .net)), (18, .arr .B true)]⟩
def y15 : Tmpl := ⟨[(1, .c (.s .I)), (2, .c (.s (.s .item))), (3, .c .i), (4, .c (.bx 4 0)), (9, .c (.ref 18))], [(4, .boxT (.s .net)), (18, .arr .B true)]⟩
def yy0 (av : AV) (x : HP z07.ps) (n : Nat) (v : y3i.den) (K : Ks (CR z07)) : Option (CR z07) := z28 v.2.1 v.1.1 v.1.2.2.1 (fun l0_1 => y15.at none ((v.1.1, v.1.2.1, v.1.2.2.1, (), (), ()), (v.2.1, l0_1, ())) (K (.exit 0))) n v.1.2.2.2.2.2.1 v.2.2.1
def y2n (av : AV) (x : HP z07.ps) : Hdl (CR z07) := hnd [] y3i (yy0 av x)
theorem w0j : LP z07 Tryz.f201 [0] y2n := lp_ok (W := []) (H := []) (xs := [y15]) z8j trivial rfl (fun av x v K => by kernel_rfl) (fun av x n v K => by kernel_rfl)
def y3j : Tmpl := ⟨[(1, .c (.s .I)), (2, .c (.s (.s .item))), (3, .c .i), (4, .c (.bx 4 0)), (9, .c (.ref 18)), (11, .c .i)], [(4, .boxT (.s .net)), (18, .arr .B true)]⟩
def y16 : Tmpl := ⟨[(1, .c (.s .I)), (3, .c .i), (4, .c (.bx 4 0)), (9, .c (.ref 18))], [(4, .boxT (.s .net)), (18, .arr .B true)]⟩
def yy1 (av : AV) (x : HP z07.ps) (n : Nat) (v : y3j.den) (K : Ks (CR z07)) : Option (CR z07) := z16 v.2.1 v.1.2.1 (fun l1_1 => y16.at none ((v.1.1, v.1.2.2.1, (), (), ()), (v.2.1, l1_1, ())) (K (.exit 2))) n v.1.2.2.2.2.2.1 v.2.2.1
def y2o (av : AV) (x : HP z07.ps) : Hdl (CR z07) := hnd [] y3j (yy1 av x)
theorem w0k : LP z07 Tryz.f201 [1] y2o := lp_ok (W := []) (H := [zx8]) (xs := [y16]) z8j ⟨yn6, trivial⟩ rfl (fun av x v K => by kernel_rfl) (fun av x n v K => by kernel_rfl)
def y3k : Tmpl := ⟨[(1, .c (.s .I)), (3, .c .i), (4, .c (.bx 4 0)), (14, .c (.ref 76)), (15, .c .i)], [(4, .boxT (.s .net)), (76, .arr .B true)]⟩
def y17 : Tmpl := ⟨[], []⟩
def yy2 (av : AV) (x : HP z07.ps) (n : Nat) (v : y3k.den) (K : Ks (CR z07)) : Option (CR z07) := z29 v.2.1 v.1.1 v.1.2.1 v.2.2.1 (y17.at none ((), ()) (K (.exit 6))) n v.1.2.2.2.2.1
def y2p (av : AV) (x : HP z07.ps) : Hdl (CR z07) := hnd [] y3k (yy2 av x)
theorem w0l : LP z07 Tryz.f201 [2] y2p := lp_ok (W := []) (H := []) (xs := [y17]) z8j trivial rfl (fun av x v K => by kernel_rfl) (fun av x n v K => by kernel_rfl)
theorem w6p : z07.Ok Tryz.prog := fn_ok (k := z07) (fn := Tryz.f201) (W := []) (H := [y2n, y2o, y2p]) Tryz.func201 z8j ⟨w0j, w0k, w0l, trivial⟩ rfl rfl (fun av x => by kernel_rfl)
def y0m (n : GNet) (marks : List Int) (busy : List GItem) (t : Int) : Option Bool := (getI n.tasks t).bind fun x1 => ((zv9 marks x1.in_).bind fun x2 => ((getI n.tasks t).bind fun x3 => (if decide (x3.join = 1) = true then (some x2.2) else (if decide (x3.join = 2) = true then (some x2.1) else (if x2.1 = true then (if x2.2 = true then (some true) else ((zi3 n marks busy t).bind fun x8 => (some (!x8)))) else (some false))))))
def y8o : Con := ⟨165, [.v (.s .net) false, .v (.sl .I) false, .v (.sl (.s .item)) false, .v .I false], [(.B, true)], [], fun x => y0m x.1 x.2.1 x.2.2.1 x.2.2.2.1⟩
def wy1 : Fs := ⟨[z58, z07], [], []⟩
theorem wz4 : wy1.Ok Tryz.prog := (fsK wq7 (fsK w6p fs0))
theorem v0s : y8o.Ok Tryz.prog := fn_ok (k := y8o) (fn := Tryz.f165) (W := []) (H := []) Tryz.func165 wz4 trivial rfl rfl (fun av x => by kernel_rfl)
def y66  : Option Bool := some true
def z5v (n : GNet) (busy : List GItem) (kx0_0 : Option Bool) : Nat → Int → Option Bool
  | 0, _ => none
  | n0 + 1, s0_0 => if decide (s0_0 < (busy.length : Int)) = true then ((getI busy s0_0).bind fun x3 => (gd (ok64 ((n.tasks.length : Int) - 1)) ((z03 x3.task 0 ((n.tasks.length : Int) - 1)).bind fun x5 => (if x5 = true then ((getI busy s0_0).bind fun x7 => ((z03 x7.who 1 4).bind fun x8 => (if x8 = true then ((getI busy s0_0).bind fun x10 => ((getI busy s0_0).bind fun x11 => ((getI n.tasks x11.task).bind fun x12 => (gd (ok64 (x12.need - 1)) ((z03 x10.did 0 (x12.need - 1)).bind fun x14 => (if x14 = true then (gd (ok64 (s0_0 + 1)) ((z5v n busy kx0_0 n0) (s0_0 + 1))) else (some false))))))) else (some false)))) else (some false))))) else (kx0_0)
def zi2 (n : GNet) (busy : List GItem) : Option Bool := if decide (6 < (busy.length : Int)) = true then (some false) else (z5v n busy y66 FUEL 0)
def z4b : Con := ⟨88, [.v (.s .net) false, .v (.sl (.s .item)) false], [(.B, true)], [], fun x => zi2 x.1 x.2.1⟩
def wj3 : Fs := ⟨[z0m], [], []⟩
theorem yr9 : wj3.Ok Tryz.prog := (fsK z0u fs0)
def ya3 : Tmpl := ⟨[(1, .c (.s (.s .item))), (2, .c (.bx 2 0)), (5, .c .i)], [(2, .boxT (.s .net))]⟩
def y76 : Tmpl := ⟨[], []⟩
def w4b (av : AV) (x : HP z4b.ps) (n : Nat) (v : ya3.den) (K : Ks (CR z4b)) : Option (CR z4b) := z5v v.2.1 v.1.1 (y76.at none ((), ()) (K (.exit 0))) n v.1.2.2.1
def y8c (av : AV) (x : HP z4b.ps) : Hdl (CR z4b) := hnd [] ya3 (w4b av x)
theorem w65 : LP z4b Tryz.f88 [0] y8c := lp_ok (W := []) (H := []) (xs := [y76]) yr9 trivial rfl (fun av x v K => by kernel_rfl) (fun av x n v K => by kernel_rfl)
theorem yu8 : z4b.Ok Tryz.prog := fn_ok (k := z4b) (fn := Tryz.f88) (W := []) (H := [y8c]) Tryz.func88 yr9 ⟨w65, trivial⟩ rfl rfl (fun av x => by kernel_rfl)
def zg6 (n : GNet) (marks : List Int) (busy : List GItem) (t : Int) : Option Bool := (z8t n marks).bind fun x1 => (if x1 = true then ((zi2 n busy).bind fun x3 => (if x3 = true then (gd (ok64 ((n.tasks.length : Int) - 1)) ((z03 t 0 ((n.tasks.length : Int) - 1)).bind fun x6 => (if x6 = true then ((y0m n marks busy t).bind fun x8 => (some x8)) else (some false)))) else (some false))) else (some false))
def zu0 : Con := ⟨100, [.v (.s .net) false, .v (.sl .I) false, .v (.sl (.s .item)) false, .v .I false], [(.B, true)], [], fun x => zg6 x.1 x.2.1 x.2.2.1 x.2.2.2.1⟩
def wh9 : Fs := ⟨[z3c, z4b, z0m, y8o], [], []⟩
theorem wl7 : wh9.Ok Tryz.prog := (fsK y0p (fsK yu8 (fsK z0u (fsK v0s fs0))))
theorem yu5 : zu0.Ok Tryz.prog := fn_ok (k := zu0) (fn := Tryz.f100) (W := []) (H := []) Tryz.func100 wl7 trivial rfl rfl (fun av x => by kernel_rfl)
def zg7 (l0_1 : List Int) : Option (List Int) := some l0_1
def z32 (n : GNet) (marks : List Int) (busy : List GItem) (kx0_0 : List Int → Option (List Int)) : Nat → Int → List Int → Option (List Int)
  | 0, _, _ => none
  | n0 + 1, s0_0, l0_1 => if decide (s0_0 < (n.tasks.length : Int)) = true then ((zg6 n marks busy s0_0).bind fun x2 => (if x2 = true then (gd (l0_1.length + [s0_0].length ≤ SMALL) (gd (ok64 (s0_0 + 1)) ((z32 n marks busy kx0_0 n0) (s0_0 + 1) (l0_1 ++ [s0_0])))) else (gd (ok64 (s0_0 + 1)) ((z32 n marks busy kx0_0 n0) (s0_0 + 1) l0_1)))) else (kx0_0 l0_1)
def z31 (n : GNet) (marks : List Int) (busy : List GItem) : Option (List Int) := z32 n marks busy zg7 FUEL 0 ([] : List Int)
def z1s : Con := ⟨99, [.v (.s .net) false, .v (.sl .I) false, .v (.sl (.s .item)) false], [((.sl .I), true)], [], fun x => z31 x.1 x.2.1 x.2.2.1⟩
def w4z : Fs := ⟨[zu0], [], []⟩
theorem y7w : w4z.Ok Tryz.prog := (fsK yu5 fs0)
def y3a : Tmpl := ⟨[(1, .c (.s .I)), (2, .c (.s (.s .item))), (3, .c (.bx 3 0)), (7, .c (.ref 9)), (8, .c .i)], [(3, .boxT (.s .net)), (9, .arr .I true)]⟩
def y0x : Tmpl := ⟨[(7, .c (.ref 9))], [(9, .arr .I true)]⟩
def yx2 (av : AV) (x : HP z1s.ps) (n : Nat) (v : y3a.den) (K : Ks (CR z1s)) : Option (CR z1s) := z32 v.2.1 v.1.1 v.1.2.1 (fun l0_1 => y0x.at none (((), ()), (l0_1, ())) (K (.exit 0))) n v.1.2.2.2.2.1 v.2.2.1
def y2f (av : AV) (x : HP z1s.ps) : Hdl (CR z1s) := hnd [] y3a (yx2 av x)
theorem w0b : LP z1s Tryz.f99 [0] y2f := lp_ok (W := []) (H := []) (xs := [y0x]) y7w trivial rfl (fun av x v K => by kernel_rfl) (fun av x n v K => by kernel_rfl)
theorem zy9 : z1s.Ok Tryz.prog := fn_ok (k := z1s) (fn := Tryz.f99) (W := []) (H := [y2f]) Tryz.func99 y7w ⟨w0b, trivial⟩ rfl rfl (fun av x => by kernel_rfl)
def y2u (l0_1 : List Int) (x10 : Int) (x13 : Int) : Option (List Int) := some (l0_1.set x10.toNat (x13 - 1))
def y2v (l0_1 : List Int) : Option (List Int) := some l0_1
def z3o (n : GNet) (t : Int) (kx0_0 : List Int → Int → Int → Option (List Int)) (kx0_1 : List Int → Option (List Int)) : Nat → Int → List Int → Option (List Int)
  | 0, _, _ => none
  | n0 + 1, s0_0, l0_1 => (getI n.tasks t).bind fun x7 => (if decide (s0_0 < (x7.in_.length : Int)) = true then ((getI n.tasks t).bind fun x9 => ((getI x9.in_ s0_0).bind fun x10 => ((getI l0_1 x10).bind fun x11 => (if decide (0 < x11) = true then ((getI l0_1 x10).bind fun x13 => (gd (ok64 (x13 - 1)) ((getI l0_1 x10).bind fun x15 => ((getI n.tasks t).bind fun x16 => (if decide (x16.join = 2) = true then (kx0_0 l0_1 x10 x13) else (gd (ok64 (s0_0 + 1)) ((z3o n t kx0_0 kx0_1 n0) (s0_0 + 1) (l0_1.set x10.toNat (x13 - 1))))))))) else (gd (ok64 (s0_0 + 1)) ((z3o n t kx0_0 kx0_1 n0) (s0_0 + 1) l0_1)))))) else (kx0_1 l0_1))
def zn7 (n : GNet) (marks : List Int) (t : Int) : Option (List Int) := (z8t n marks).bind fun x1 => (if x1 = true then (gd (ok64 ((n.tasks.length : Int) - 1)) ((z03 t 0 ((n.tasks.length : Int) - 1)).bind fun x4 => (if x4 = true then (gd (([] : List Int).length + marks.length ≤ SMALL) (z3o n t y2u y2v FUEL 0 (([] : List Int) ++ marks))) else (some ([] : List Int))))) else (some ([] : List Int)))
def z42 : Con := ⟨103, [.v (.s .net) false, .v (.sl .I) false, .v .I false], [((.sl .I), true)], [], fun x => zn7 x.1 x.2.1 x.2.2.1⟩
def w8i : Fs := ⟨[z3c, z0m], [], []⟩
theorem yg2 : w8i.Ok Tryz.prog := (fsK y0p (fsK z0u fs0))
def y6k : Tmpl := ⟨[(2, .c .i), (3, .c (.bx 3 0)), (7, .c (.ref 26)), (8, .c .i)], [(3, .boxT (.s .net)), (26, .arr .I true)]⟩
def zm9 : Tmpl := ⟨[(7, .c (.ref 26))], [(26, .arr .I true)]⟩
def w29 (av : AV) (x : HP z42.ps) (n : Nat) (v : y6k.den) (K : Ks (CR z42)) : Option (CR z42) := z3o v.2.1 v.1.1 (fun l0_1 x10 x13 => zm9.at none (((), ()), ((l0_1.set x10.toNat (x13 - 1)), ())) (K (.exit 0))) (fun l0_1 => zm9.at none (((), ()), (l0_1, ())) (K (.exit 0))) n v.1.2.2.2.1 v.2.2.1
def y5p (av : AV) (x : HP z42.ps) : Hdl (CR z42) := hnd [] y6k (w29 av x)
theorem w34 : LP z42 Tryz.f103 [0] y5p := lp_ok (W := []) (H := []) (xs := [zm9]) yg2 trivial rfl (fun av x v K => by kernel_rfl) (fun av x n v K => by kernel_rfl)
theorem wb0 : z42.Ok Tryz.prog := fn_ok (k := z42) (fn := Tryz.f103) (W := []) (H := [y5p]) Tryz.func103 yg2 ⟨w34, trivial⟩ rfl rfl (fun av x => by kernel_rfl)
def z8r (who : Int) : Option Bool := (z0c who 1 4).bind fun x1 => (some x1)
def zf3 : Con := ⟨97, [.v .I false], [(.B, true)], [], fun x => z8r x.1⟩
def w4x : Fs := ⟨[z23], [], []⟩
theorem w5l : w4x.Ok Tryz.prog := (fsK z2q fs0)
theorem y9k : zf3.Ok Tryz.prog := fn_ok (k := zf3) (fn := Tryz.f97) (W := []) (H := []) Tryz.func97 w5l trivial rfl rfl (fun av x => by kernel_rfl)
def zh0 (l0_1 : List Int) (x8 : GFlow) : Option (List Int) := some (l0_1 ++ [x8.to])
def zh1 (l0_1 : List Int) (x13 : GFlow) : Option (List Int) := some (l0_1 ++ [x13.to])
def zh2 (l0_1 : List Int) (x18 : GFlow) : Option (List Int) := some (l0_1 ++ [x18.to])
def zy7 (l0_1 : List Int) : Option (List Int) := some l0_1
def z1v (t : GTask) (data : List Int) (kx0_0 : List Int → GFlow → Option (List Int)) (kx0_1 : List Int → GFlow → Option (List Int)) (kx0_2 : List Int → GFlow → Option (List Int)) (kx0_3 : List Int → Option (List Int)) : Nat → Int → List Int → Option (List Int)
  | 0, _, _ => none
  | n0 + 1, s0_0, l0_1 => if decide (s0_0 < (t.out.length : Int)) = true then ((getI t.out s0_0).bind fun x2 => ((z1c x2.if_ data).bind fun x3 => (if x3 = true then (if decide (t.split = 3) = true then (gd (ok64 ((t.out.length : Int) - 1)) (if decide (s0_0 < ((t.out.length : Int) - 1)) = true then ((getI t.out s0_0).bind fun x8 => (gd (l0_1.length + [x8.to].length ≤ SMALL) (if decide (t.split = 2) = true then (kx0_0 l0_1 x8) else (gd (ok64 (s0_0 + 1)) ((z1v t data kx0_0 kx0_1 kx0_2 kx0_3 n0) (s0_0 + 1) (l0_1 ++ [x8.to])))))) else (if decide ((l0_1.length : Int) = 0) = true then ((getI t.out s0_0).bind fun x13 => (gd (l0_1.length + [x13.to].length ≤ SMALL) (if decide (t.split = 2) = true then (kx0_1 l0_1 x13) else (gd (ok64 (s0_0 + 1)) ((z1v t data kx0_0 kx0_1 kx0_2 kx0_3 n0) (s0_0 + 1) (l0_1 ++ [x13.to])))))) else (gd (ok64 (s0_0 + 1)) ((z1v t data kx0_0 kx0_1 kx0_2 kx0_3 n0) (s0_0 + 1) l0_1))))) else ((getI t.out s0_0).bind fun x18 => (gd (l0_1.length + [x18.to].length ≤ SMALL) (if decide (t.split = 2) = true then (kx0_2 l0_1 x18) else (gd (ok64 (s0_0 + 1)) ((z1v t data kx0_0 kx0_1 kx0_2 kx0_3 n0) (s0_0 + 1) (l0_1 ++ [x18.to]))))))) else (gd (ok64 (s0_0 + 1)) ((z1v t data kx0_0 kx0_1 kx0_2 kx0_3 n0) (s0_0 + 1) l0_1))))) else (kx0_3 l0_1)
def y0i (t : GTask) (data : List Int) : Option (List Int) := z1v t data zh0 zh1 zh2 zy7 FUEL 0 ([] : List Int)
def z66 : Con := ⟨205, [.v (.s .task) false, .v (.sl .I) false], [((.sl .I), true)], [], fun x => y0i x.1 x.2.1⟩
def wx9 : Fs := ⟨[z4g], [], []⟩
theorem w1f : wx9.Ok Tryz.prog := (fsK z7b fs0)
def yk7 : Tmpl := ⟨[(1, .c (.s .I)), (2, .c (.bx 2 0)), (5, .c (.ref 7)), (6, .c .i)], [(2, .boxT (.s .task)), (7, .arr .I true)]⟩
def z90 : Tmpl := ⟨[(5, .c (.ref 49))], [(49, .arr .I true)]⟩
def w7y (av : AV) (x : HP z66.ps) (n : Nat) (v : yk7.den) (K : Ks (CR z66)) : Option (CR z66) := z1v v.2.1 v.1.1 (fun l0_1 x8 => z90.at none (((), ()), ((l0_1 ++ [x8.to]), ())) (K (.exit 0))) (fun l0_1 x13 => z90.at none (((), ()), ((l0_1 ++ [x13.to]), ())) (K (.exit 0))) (fun l0_1 x18 => z90.at none (((), ()), ((l0_1 ++ [x18.to]), ())) (K (.exit 0))) (fun l0_1 => z90.at none (((), ()), (l0_1, ())) (K (.exit 0))) n v.1.2.2.2.1 v.2.2.1
def yi5 (av : AV) (x : HP z66.ps) : Hdl (CR z66) := hnd [] yk7 (w7y av x)
theorem w9t : LP z66 Tryz.f205 [0] yi5 := lp_ok (W := []) (H := []) (xs := [z90]) w1f trivial rfl (fun av x v K => by kernel_rfl) (fun av x n v K => by kernel_rfl)
theorem v0r : z66.Ok Tryz.prog := fn_ok (k := z66) (fn := Tryz.f205) (W := []) (H := [yi5]) Tryz.func205 w1f ⟨w9t, trivial⟩ rfl rfl (fun av x => by kernel_rfl)
def z9d (l1_1 : List Int) : Option ((List Int) × Bool) := some (l1_1, true)
def z5j (x16 : (List Int)) (kx1_0 : List Int → Option ((List Int) × Bool)) : Nat → Int → List Int → Option ((List Int) × Bool)
  | 0, _, _ => none
  | n1 + 1, s1_0, l1_1 => if decide (s1_0 < (x16.length : Int)) = true then ((getI x16 s1_0).bind fun x18 => ((getI l1_1 x18).bind fun x19 => (if decide (x19 = 4) = true then (some (([] : List Int), false)) else ((getI x16 s1_0).bind fun x21 => ((getI x16 s1_0).bind fun x22 => ((getI l1_1 x22).bind fun x23 => (gd (ok64 (x23 + 1)) ((getI l1_1 x21).bind fun x25 => (gd (ok64 (s1_0 + 1)) ((z5j x16 kx1_0 n1) (s1_0 + 1) (l1_1.set x21.toNat (x23 + 1)))))))))))) else (kx1_0 l1_1)
def z9c (n : GNet) (t : Int) (data : List Int) (l0_1 : List Int) : Option ((List Int) × Bool) := (getI n.tasks t).bind fun x15 => ((y0i x15 data).bind fun x16 => (z5j x16 z9d FUEL 0 l0_1))
def z5i (n : GNet) (t : Int) (kx0_0 : List Int → Option ((List Int) × Bool)) : Nat → Int → List Int → Option ((List Int) × Bool)
  | 0, _, _ => none
  | n0 + 1, s0_0, l0_1 => (getI n.tasks t).bind fun x9 => (if decide (s0_0 < (x9.clear.length : Int)) = true then ((getI n.tasks t).bind fun x11 => ((getI x11.clear s0_0).bind fun x12 => ((getI l0_1 x12).bind fun x13 => (gd (ok64 (s0_0 + 1)) ((z5i n t kx0_0 n0) (s0_0 + 1) (l0_1.set x12.toNat 0)))))) else (kx0_0 l0_1))
def zn8 (n : GNet) (marks : List Int) (t : Int) (data : List Int) : Option ((List Int) × Bool) := (z8t n marks).bind fun x1 => (if x1 = true then (gd (ok64 ((n.tasks.length : Int) - 1)) ((z03 t 0 ((n.tasks.length : Int) - 1)).bind fun x4 => (if x4 = true then ((z2o data).bind fun x6 => (if x6 = true then (gd (([] : List Int).length + marks.length ≤ SMALL) (z5i n t (z9c n t data) FUEL 0 (([] : List Int) ++ marks))) else (some (([] : List Int), false)))) else (some (([] : List Int), false))))) else (some (([] : List Int), false)))
def z0x : Con := ⟨172, [.v (.s .net) false, .v (.sl .I) false, .v .I false, .v (.sl .I) false], [((.sl .I), true), (.B, true)], [], fun x => zn8 x.1 x.2.1 x.2.2.1 x.2.2.2.1⟩
def w8j : Fs := ⟨[z3c, z0m, z17, z66], [], []⟩
theorem y1b : w8j.Ok Tryz.prog := (fsK y0p (fsK z0u (fsK z6j (fsK v0r fs0))))
def y6l : Tmpl := ⟨[(2, .c .i), (3, .c (.s .I)), (4, .c (.bx 4 0)), (10, .c (.ref 35)), (11, .c .i)], [(4, .boxT (.s .net)), (35, .arr .I true)]⟩
def y3r : Tmpl := ⟨[(2, .c .i), (3, .c (.s .I)), (4, .c (.bx 4 0)), (10, .c (.ref 35))], [(4, .boxT (.s .net)), (35, .arr .I true)]⟩
def w2a (av : AV) (x : HP z0x.ps) (n : Nat) (v : y6l.den) (K : Ks (CR z0x)) : Option (CR z0x) := z5i v.2.1 v.1.1 (fun l0_1 => y3r.at none ((v.1.1, v.1.2.1, (), (), ()), (v.2.1, l0_1, ())) (K (.exit 0))) n v.1.2.2.2.2.1 v.2.2.1
def y5q (av : AV) (x : HP z0x.ps) : Hdl (CR z0x) := hnd [] y6l (w2a av x)
theorem w35 : LP z0x Tryz.f172 [0] y5q := lp_ok (W := []) (H := []) (xs := [y3r]) y1b trivial rfl (fun av x v K => by kernel_rfl) (fun av x n v K => by kernel_rfl)
def y6m : Tmpl := ⟨[(10, .c (.ref 35)), (12, .c (.ref 64)), (13, .c .i)], [(35, .arr .I true), (64, .arr .I true)]⟩
def y3s : Tmpl := ⟨[(10, .c (.ref 35))], [(35, .arr .I true)]⟩
def w2b (av : AV) (x : HP z0x.ps) (n : Nat) (v : y6m.den) (K : Ks (CR z0x)) : Option (CR z0x) := z5j v.2.2.1 (fun l1_1 => y3s.at none (((), ()), (l1_1, ())) (K (.exit 2))) n v.1.2.2.1 v.2.1
def y5r (av : AV) (x : HP z0x.ps) : Hdl (CR z0x) := hnd [] y6m (w2b av x)
theorem w36 : LP z0x Tryz.f172 [1] y5r := lp_ok (W := []) (H := []) (xs := [y3s]) y1b trivial rfl (fun av x v K => by kernel_rfl) (fun av x n v K => by kernel_rfl)
theorem wb1 : z0x.Ok Tryz.prog := fn_ok (k := z0x) (fn := Tryz.f172) (W := []) (H := [y5q, y5r]) Tryz.func172 y1b ⟨w35, w36, trivial⟩ rfl rfl (fun av x => by kernel_rfl)
def y95  : Option Bool := some true
def z77 (people : List Int) (kx0_0 : Option Bool) : Nat → Int → Option Bool
  | 0, _ => none
  | n0 + 1, s0_0 => if decide (s0_0 < (people.length : Int)) = true then ((getI people s0_0).bind fun x4 => ((z03 x4 0 7).bind fun x5 => (if x5 = true then (gd (ok64 (s0_0 + 1)) ((z77 people kx0_0 n0) (s0_0 + 1))) else (some false)))) else (kx0_0)
def z8u (people : List Int) : Option Bool := (z03 (people.length : Int) 1 4).bind fun x1 => (if x1 = true then (z77 people y95 FUEL 0) else (some false))
def z3d : Con := ⟨44, [.v (.sl .I) false], [(.B, true)], [], fun x => z8u x.1⟩
def wx7 : Fs := ⟨[z0m], [], []⟩
theorem w1e : wx7.Ok Tryz.prog := (fsK z0u fs0)
def yk5 : Tmpl := ⟨[(0, .c (.s .I)), (3, .c .i)], []⟩
def yc3 : Tmpl := ⟨[], []⟩
def w7w (av : AV) (x : HP z3d.ps) (n : Nat) (v : yk5.den) (K : Ks (CR z3d)) : Option (CR z3d) := z77 v.1.1 (yc3.at none ((), ()) (K (.exit 0))) n v.1.2.1
def yi3 (av : AV) (x : HP z3d.ps) : Hdl (CR z3d) := hnd [] yk5 (w7w av x)
theorem w9r : LP z3d Tryz.f44 [0] yi3 := lp_ok (W := []) (H := []) (xs := [yc3]) w1e trivial rfl (fun av x v K => by kernel_rfl) (fun av x n v K => by kernel_rfl)
theorem y0q : z3d.Ok Tryz.prog := fn_ok (k := z3d) (fn := Tryz.f44) (W := []) (H := [yi3]) Tryz.func44 w1e ⟨w9r, trivial⟩ rfl rfl (fun av x => by kernel_rfl)
def z5t (s0_0 : Int) : Option Bool := gd ((2 : Int) ≠ 0) (some (decide ((Int.tmod s0_0 2) = 1)))
def z2i (role : Int) (kx0_0 : Int → Option Bool) : Nat → Int → Int → Option Bool
  | 0, _, _ => none
  | n0 + 1, s0_0, s0_1 => if decide (s0_1 < role) = true then (gd ((2 : Int) ≠ 0 ∧ ok64 (Int.tdiv s0_0 2)) (gd (ok64 (s0_1 + 1)) ((z2i role kx0_0 n0) (Int.tdiv s0_0 2) (s0_1 + 1)))) else (kx0_0 s0_0)
def zv3 (people : List Int) (who : Int) (role : Int) : Option Bool := (z8u people).bind fun x1 => (if x1 = true then ((z03 who 1 (people.length : Int)).bind fun x3 => (if x3 = true then ((z03 role 1 3).bind fun x5 => (if x5 = true then (gd (ok64 (who - 1)) ((getI people (who - 1)).bind fun x8 => (z2i role z5t FUEL x8 1))) else (some false))) else (some false))) else (some false))
def z57 : Con := ⟨166, [.v (.sl .I) false, .v .I false, .v .I false], [(.B, true)], [], fun x => zv3 x.1 x.2.1 x.2.2.1⟩
def wi3 : Fs := ⟨[z3d, z0m], [], []⟩
theorem yr7 : wi3.Ok Tryz.prog := (fsK y0q (fsK z0u fs0))
def ya0 : Tmpl := ⟨[(2, .c .i), (7, .c .i), (8, .c .i)], []⟩
def y73 : Tmpl := ⟨[(7, .c .i)], []⟩
def w48 (av : AV) (x : HP z57.ps) (n : Nat) (v : ya0.den) (K : Ks (CR z57)) : Option (CR z57) := z2i v.1.1 (fun s0_0 => y73.at none ((s0_0, ()), ()) (K (.exit 0))) n v.1.2.1 v.1.2.2.1
def y89 (av : AV) (x : HP z57.ps) : Hdl (CR z57) := hnd [] ya0 (w48 av x)
theorem w62 : LP z57 Tryz.f166 [0] y89 := lp_ok (W := []) (H := []) (xs := [y73]) yr7 trivial rfl (fun av x v K => by kernel_rfl) (fun av x n v K => by kernel_rfl)
theorem wq1 : z57.Ok Tryz.prog := fn_ok (k := z57) (fn := Tryz.f166) (W := []) (H := [y89]) Tryz.func166 yr7 ⟨w62, trivial⟩ rfl rfl (fun av x => by kernel_rfl)
def y64  : Option Bool := some false
def z4x (did : List GDid) (who : Int) (task : Int) (kx0_0 : Option Bool) : Nat → Int → Option Bool
  | 0, _ => none
  | n0 + 1, s0_0 => if decide (s0_0 < (did.length : Int)) = true then ((getI did s0_0).bind fun x2 => (if decide (x2.who = who) = true then ((getI did s0_0).bind fun x4 => (if decide (x4.task = task) = true then (some true) else (gd (ok64 (s0_0 + 1)) ((z4x did who task kx0_0 n0) (s0_0 + 1))))) else (gd (ok64 (s0_0 + 1)) ((z4x did who task kx0_0 n0) (s0_0 + 1))))) else (kx0_0)
def zv2 (did : List GDid) (who : Int) (task : Int) : Option Bool := z4x did who task y64 FUEL 0
def z56 : Con := ⟨167, [.v (.sl (.s .did)) false, .v .I false, .v .I false], [(.B, true)], [], fun x => zv2 x.1 x.2.1 x.2.2.1⟩
def wi2 : Fs := ⟨[], [], []⟩
theorem yr6 : wi2.Ok Tryz.prog := fs0
def y9z : Tmpl := ⟨[(0, .c (.s (.s .did))), (1, .c .i), (2, .c .i), (7, .c .i)], []⟩
def y72 : Tmpl := ⟨[], []⟩
def w47 (av : AV) (x : HP z56.ps) (n : Nat) (v : y9z.den) (K : Ks (CR z56)) : Option (CR z56) := z4x v.1.1 v.1.2.1 v.1.2.2.1 (y72.at none ((), ()) (K (.exit 0))) n v.1.2.2.2.1
def y88 (av : AV) (x : HP z56.ps) : Hdl (CR z56) := hnd [] y9z (w47 av x)
theorem w61 : LP z56 Tryz.f167 [0] y88 := lp_ok (W := []) (H := []) (xs := [y72]) yr6 trivial rfl (fun av x v K => by kernel_rfl) (fun av x n v K => by kernel_rfl)
theorem wq0 : z56.Ok Tryz.prog := fn_ok (k := z56) (fn := Tryz.f167) (W := []) (H := [y88]) Tryz.func167 yr6 ⟨w61, trivial⟩ rfl rfl (fun av x => by kernel_rfl)
def y65 (n : GNet) (people : List Int) (did : List GDid) (t : Int) (s0_0 : Int) (l0_1 : List Int) (bk0 : Int → List Int → Option (List Int)) (s1_0 : Bool) : Option (List Int) := (getI n.tasks t).bind fun x18 => ((zv3 people s0_0 x18.role).bind fun x19 => (if x19 = true then (if s1_0 = true then (gd (ok64 (s0_0 + 1)) (bk0 (s0_0 + 1) l0_1)) else ((getI n.tasks t).bind fun x23 => ((zv2 did s0_0 x23.apart).bind fun x24 => (if x24 = true then (gd (ok64 (s0_0 + 1)) (bk0 (s0_0 + 1) l0_1)) else (gd (l0_1.length + [s0_0].length ≤ SMALL) (gd (ok64 (s0_0 + 1)) (bk0 (s0_0 + 1) (l0_1 ++ [s0_0])))))))) else (gd (ok64 (s0_0 + 1)) (bk0 (s0_0 + 1) l0_1))))
def z2j (n : GNet) (busy : List GItem) (t : Int) (s0_0 : Int) (kx1_0 : Bool → Option (List Int)) : Nat → Bool → Int → Option (List Int)
  | 0, _, _ => none
  | n1 + 1, s1_0, s1_1 => if decide (s1_1 < (busy.length : Int)) = true then (if s1_0 = true then (gd (ok64 (s1_1 + 1)) ((z2j n busy t s0_0 kx1_0 n1) true (s1_1 + 1))) else ((getI busy s1_1).bind fun x12 => (if decide (x12.who = s0_0) = true then ((getI busy s1_1).bind fun x14 => ((getI n.tasks t).bind fun x15 => (gd (ok64 (s1_1 + 1)) ((z2j n busy t s0_0 kx1_0 n1) (decide (x14.task = x15.apart)) (s1_1 + 1))))) else (gd (ok64 (s1_1 + 1)) ((z2j n busy t s0_0 kx1_0 n1) false (s1_1 + 1)))))) else (kx1_0 s1_0)
def zr2 (l0_1 : List Int) : Option (List Int) := some l0_1
def z5u (n : GNet) (people : List Int) (did : List GDid) (busy : List GItem) (t : Int) (kx0_0 : List Int → Option (List Int)) : Nat → Int → List Int → Option (List Int)
  | 0, _, _ => none
  | n0 + 1, s0_0, l0_1 => if decide (s0_0 ≤ (people.length : Int)) = true then (z2j n busy t s0_0 (y65 n people did t s0_0 l0_1 (z5u n people did busy t kx0_0 n0)) FUEL false 0) else (kx0_0 l0_1)
def z9e (n : GNet) (people : List Int) (did : List GDid) (busy : List GItem) (t : Int) : Option (List Int) := (z3g n).bind fun x1 => (if x1 = true then ((z8u people).bind fun x3 => (if x3 = true then (gd (ok64 ((n.tasks.length : Int) - 1)) ((z03 t 0 ((n.tasks.length : Int) - 1)).bind fun x6 => (if x6 = true then (z5u n people did busy t zr2 FUEL 1 ([] : List Int)) else (some ([] : List Int))))) else (some ([] : List Int)))) else (some ([] : List Int)))
def z11 : Con := ⟨102, [.v (.s .net) false, .v (.sl .I) false, .v (.sl (.s .did)) false, .v (.sl (.s .item)) false, .v .I false], [((.sl .I), true)], [], fun x => z9e x.1 x.2.1 x.2.2.1 x.2.2.2.1 x.2.2.2.2.1⟩
def wi4 : Fs := ⟨[z2m, z3d, z0m, z57, z56], [], []⟩
theorem y4c : wi4.Ok Tryz.prog := (fsK zq4 (fsK y0q (fsK z0u (fsK wq1 (fsK wq0 fs0)))))
def y3c : Tmpl := ⟨[(1, .c (.s .I)), (2, .c (.s (.s .did))), (3, .c (.s (.s .item))), (4, .c .i), (5, .c (.bx 5 0)), (11, .c (.ref 15)), (12, .c .i), (13, .c .b), (14, .c .i)], [(5, .boxT (.s .net)), (15, .arr .I true)]⟩
def y0z : Tmpl := ⟨[(1, .c (.s .I)), (2, .c (.s (.s .did))), (3, .c (.s (.s .item))), (4, .c .i), (5, .c (.bx 5 0)), (11, .c (.ref 15)), (12, .c .i), (13, .c .b)], [(5, .boxT (.s .net)), (15, .arr .I true)]⟩
def yx4 (av : AV) (x : HP z11.ps) (n : Nat) (v : y3c.den) (K : Ks (CR z11)) : Option (CR z11) := z2j v.2.1 v.1.2.2.1 v.1.2.2.2.1 v.1.2.2.2.2.2.2.1 (fun s1_0 => y0z.at none ((v.1.1, v.1.2.1, v.1.2.2.1, v.1.2.2.2.1, (), (), v.1.2.2.2.2.2.2.1, s1_0, ()), (v.2.1, v.2.2.1, ())) (K (.exit 2))) n v.1.2.2.2.2.2.2.2.1 v.1.2.2.2.2.2.2.2.2.1
def y2h (av : AV) (x : HP z11.ps) : Hdl (CR z11) := hnd [] y3c (yx4 av x)
theorem w0d : LP z11 Tryz.f102 [0, 0] y2h := lp_ok (W := []) (H := []) (xs := [y0z]) y4c trivial rfl (fun av x v K => by kernel_rfl) (fun av x n v K => by kernel_rfl)
def ya1 : Tmpl := ⟨[(1, .c (.s .I)), (2, .c (.s (.s .did))), (3, .c (.s (.s .item))), (4, .c .i), (5, .c (.bx 5 0)), (11, .c (.ref 15)), (12, .c .i)], [(5, .boxT (.s .net)), (15, .arr .I true)]⟩
def y74 : Tmpl := ⟨[(11, .c (.ref 15))], [(15, .arr .I true)]⟩
def w49 (av : AV) (x : HP z11.ps) (n : Nat) (v : ya1.den) (K : Ks (CR z11)) : Option (CR z11) := z5u v.2.1 v.1.1 v.1.2.1 v.1.2.2.1 v.1.2.2.2.1 (fun l0_1 => y74.at none (((), ()), (l0_1, ())) (K (.exit 0))) n v.1.2.2.2.2.2.2.1 v.2.2.1
def y8a (av : AV) (x : HP z11.ps) : Hdl (CR z11) := hnd [] ya1 (w49 av x)
theorem w63 : LP z11 Tryz.f102 [0] y8a := lp_ok (W := []) (H := [y2h]) (xs := [y74]) y4c ⟨w0d, trivial⟩ rfl (fun av x v K => by kernel_rfl) (fun av x n v K => by kernel_rfl)
theorem yu6 : z11.Ok Tryz.prog := fn_ok (k := z11) (fn := Tryz.f102) (W := []) (H := [y8a]) Tryz.func102 y4c ⟨w63, trivial⟩ rfl rfl (fun av x => by kernel_rfl)
def z9b (n : GNet) (data : List Int) : Option GCase := (z3g n).bind fun x1 => (if x1 = true then ((z2o data).bind fun x3 => (if x3 = true then (gd ((0 : Int) ≤ n.places ∧ n.places ≤ (1000000000 : Int)) (gd (([] : List Int).length + data.length ≤ SMALL) ((getI (List.replicate n.places.toNat (0 : Int)) 0).bind fun x7 => (some (GCase.mk 1 ((List.replicate n.places.toNat (0 : Int)).set (0 : Int).toNat 1) [] (([] : List Int) ++ data) []))))) else (some (GCase.mk 0 [] [] [] [])))) else (some (GCase.mk 0 [] [] [] [])))
def zt8 : Con := ⟨155, [.v (.s .net) false, .v (.sl .I) false], [((.s .kase), true)], [], fun x => z9b x.1 x.2.1⟩
def wh7 : Fs := ⟨[z2m, z17], [], []⟩
theorem wl5 : wh7.Ok Tryz.prog := (fsK zq4 (fsK z6j fs0))
theorem yu2 : zt8.Ok Tryz.prog := fn_ok (k := zt8) (fn := Tryz.f155) (W := []) (H := []) Tryz.func155 wl5 trivial rfl rfl (fun av x => by kernel_rfl)
def zg5 (c : GCase) : Option Bool := if decide (c.state = 1) = true then ((getI c.marks 1).bind fun x20 => (some (decide (x20 = 0)))) else (if decide ((c.busy.length : Int) = 0) = true then ((getI c.marks 1).bind fun x22 => (some ((decide (c.state = 2)) == (decide (0 < x22))))) else (some false))
def z6z (n : GNet) (c : GCase) (kx0_0 : Option Bool) : Nat → Int → Option Bool
  | 0, _ => none
  | n0 + 1, s0_0 => if decide (s0_0 < (c.did.length : Int)) = true then ((getI c.did s0_0).bind fun x11 => (gd (ok64 ((n.tasks.length : Int) - 1)) ((z03 x11.task 0 ((n.tasks.length : Int) - 1)).bind fun x13 => (if x13 = true then ((getI c.did s0_0).bind fun x15 => ((z03 x15.who 1 4).bind fun x16 => (if x16 = true then (gd (ok64 (s0_0 + 1)) ((z6z n c kx0_0 n0) (s0_0 + 1))) else (some false)))) else (some false))))) else (kx0_0)
def z8s (n : GNet) (c : GCase) : Option Bool := (z8t n c.marks).bind fun x1 => (if x1 = true then ((zi2 n c.busy).bind fun x3 => (if x3 = true then ((z2o c.data).bind fun x5 => (if x5 = true then (if decide (60 < (c.did.length : Int)) = true then (some false) else ((z03 c.state 1 3).bind fun x8 => (if x8 = true then (z6z n c (zg5 c) FUEL 0) else (some false)))) else (some false))) else (some false))) else (some false))
def z3b : Con := ⟨25, [.v (.s .net) false, .v (.s .kase) false], [(.B, true)], [], fun x => z8s x.1 x.2.1⟩
def wx0 : Fs := ⟨[z3c, z4b, z17, z0m], [], []⟩
theorem w18 : wx0.Ok Tryz.prog := (fsK y0p (fsK yu8 (fsK z6j (fsK z0u fs0))))
def yj9 : Tmpl := ⟨[(2, .c (.bx 2 0)), (3, .c (.bx 3 0)), (5, .c .i)], [(2, .boxT (.s .net)), (3, .boxT (.s .kase))]⟩
def yb7 : Tmpl := ⟨[(3, .c (.bx 3 0))], [(3, .boxT (.s .kase))]⟩
def w7q (av : AV) (x : HP z3b.ps) (n : Nat) (v : yj9.den) (K : Ks (CR z3b)) : Option (CR z3b) := z6z v.2.1 v.2.2.1 (yb7.at none (((), ()), (v.2.2.1, ())) (K (.exit 0))) n v.1.2.2.1
def yh7 (av : AV) (x : HP z3b.ps) : Hdl (CR z3b) := hnd [] yj9 (w7q av x)
theorem w9l : LP z3b Tryz.f25 [0] yh7 := lp_ok (W := []) (H := []) (xs := [yb7]) w18 trivial rfl (fun av x v K => by kernel_rfl) (fun av x n v K => by kernel_rfl)
theorem y0o : z3b.Ok Tryz.prog := fn_ok (k := z3b) (fn := Tryz.f25) (W := []) (H := [yh7]) Tryz.func25 w18 ⟨w9l, trivial⟩ rfl rfl (fun av x => by kernel_rfl)
def z6g (c : GCase) : Option GCase := gd (([] : List Int).length + c.marks.length ≤ SMALL) (gd (([] : List GItem).length + c.busy.length ≤ SMALL) (gd (([] : List Int).length + c.data.length ≤ SMALL) (gd (([] : List GDid).length + c.did.length ≤ SMALL) (some (GCase.mk c.state (([] : List Int) ++ c.marks) (([] : List GItem) ++ c.busy) (([] : List Int) ++ c.data) (([] : List GDid) ++ c.did))))))
def z94 : Con := ⟨86, [.v (.s .kase) false], [((.s .kase), true)], [], fun x => z6g x.1⟩
def wj5 : Fs := ⟨[], [], []⟩
theorem wm5 : wj5.Ok Tryz.prog := fs0
theorem zw5 : z94.Ok Tryz.prog := fn_ok (k := z94) (fn := Tryz.f86) (W := []) (H := []) Tryz.func86 wm5 trivial rfl rfl (fun av x => by kernel_rfl)
def z70 (n : GNet) (people : List Int) (c : GCase) (t : Int) (who : Int) : Option (GCase × Bool) := (z6g c).bind fun x1 => ((z8s n c).bind fun x2 => (if x2 = true then (if decide (c.state = 1) = true then ((zg6 n c.marks c.busy t).bind fun x5 => (if x5 = true then ((z9e n people c.did c.busy t).bind fun x7 => ((zc9 x7 who).bind fun x8 => (if x8 = true then (if decide ((c.busy.length : Int) = 6) = true then (some (x1, false)) else ((zn7 n c.marks t).bind fun x11 => (gd (x1.busy.length + [(GItem.mk t who 0)].length ≤ SMALL) (some ((GCase.mk x1.state x11 (x1.busy ++ [(GItem.mk t who 0)]) x1.data x1.did), true))))) else (some (x1, false))))) else (some (x1, false)))) else (some (x1, false))) else (some (x1, false))))
def zf4 : Con := ⟨32, [.v (.s .net) false, .v (.sl .I) false, .v (.s .kase) false, .v .I false, .v .I false], [((.s .kase), true), (.B, true)], [], fun x => z70 x.1 x.2.1 x.2.2.1 x.2.2.2.1 x.2.2.2.2.1⟩
def w4y : Fs := ⟨[z94, z3b, zu0, z11, z4h, z42], [], []⟩
theorem w5m : w4y.Ok Tryz.prog := (fsK zw5 (fsK y0o (fsK yu5 (fsK yu6 (fsK y9o (fsK wb0 fs0))))))
theorem y9l : zf4.Ok Tryz.prog := fn_ok (k := zf4) (fn := Tryz.f32) (W := []) (H := []) Tryz.func32 w5m trivial rfl rfl (fun av x => by kernel_rfl)
def z9y (n : GNet) (c : GCase) (k : Int) (v : Int) (num : Int) : Option (GCase × Bool) := (z6g c).bind fun x1 => ((z8s n c).bind fun x2 => (if x2 = true then (if decide (c.state = 1) = true then (gd (ok64 ((c.busy.length : Int) - 1)) ((z03 k 0 ((c.busy.length : Int) - 1)).bind fun x6 => (if x6 = true then ((z03 v (-1) 2).bind fun x8 => (if x8 = true then ((z03 num (-99) 99).bind fun x10 => (if x10 = true then (if decide ((c.did.length : Int) = 60) = true then (some (x1, false)) else ((getI c.busy k).bind fun x13 => ((z7o c.data v num).bind fun x14 => (gd (ok64 (x13.did + 1)) ((getI x1.busy k).bind fun x16 => (gd (ok64 (x13.did + 1)) ((getI n.tasks x13.task).bind fun x18 => (if decide ((x13.did + 1) < x18.need) = true then (some ((GCase.mk x1.state x1.marks (x1.busy.set k.toNat (GItem.mk x16.task x16.who (x13.did + 1))) x14 x1.did), true)) else ((zn8 n c.marks x13.task x14).bind fun x20 => (if x20.2 = true then (gd ((0 : Int) ≤ k ∧ k ≤ (c.busy.length : Int)) (gd (([] : List GItem).length + (c.busy.take k.toNat).length ≤ SMALL) (gd (ok64 (k + 1)) (gd ((0 : Int) ≤ (k + 1) ∧ (k + 1) ≤ (c.busy.length : Int)) (gd ((([] : List GItem) ++ (c.busy.take k.toNat)).length + (c.busy.drop (k + 1).toNat).length ≤ SMALL) (gd (x1.did.length + [(GDid.mk x13.task x13.who)].length ≤ SMALL) ((getI x20.1 1).bind fun x28 => (if decide (0 < x28) = true then (some ((GCase.mk 2 x20.1 ([] : List GItem) x14 (x1.did ++ [(GDid.mk x13.task x13.who)])), true)) else (some ((GCase.mk x1.state x20.1 ((([] : List GItem) ++ (c.busy.take k.toNat)) ++ (c.busy.drop (k + 1).toNat)) x14 (x1.did ++ [(GDid.mk x13.task x13.who)])), true)))))))))) else ((z6g c).bind fun x30 => (some (x30, false))))))))))))) else (some (x1, false)))) else (some (x1, false)))) else (some (x1, false))))) else (some (x1, false))) else (some (x1, false))))
def zn1 : Con := ⟨112, [.v (.s .net) false, .v (.s .kase) false, .v .I false, .v .I false, .v .I false], [((.s .kase), true), (.B, true)], [], fun x => z9y x.1 x.2.1 x.2.2.1 x.2.2.2.1 x.2.2.2.2.1⟩
def w8h : Fs := ⟨[z94, z3b, z0m, zt9, z0x], [], []⟩
theorem w99 : w8h.Ok Tryz.prog := (fsK zw5 (fsK y0o (fsK z0u (fsK yu3 (fsK wb1 fs0)))))
theorem yj0 : zn1.Ok Tryz.prog := fn_ok (k := zn1) (fn := Tryz.f112) (W := []) (H := []) Tryz.func112 w99 trivial rfl rfl (fun av x => by kernel_rfl)
def zn6 (n : GNet) (c : GCase) : Option (GCase × Bool) := (z6g c).bind fun x1 => ((z8s n c).bind fun x2 => (if x2 = true then (if decide (c.state = 1) = true then (some ((GCase.mk 3 x1.marks ([] : List GItem) x1.data x1.did), true)) else (some (x1, false))) else (some (x1, false))))
def y1h : Con := ⟨23, [.v (.s .net) false, .v (.s .kase) false], [((.s .kase), true), (.B, true)], [], fun x => zn6 x.1 x.2.1⟩
def w8g : Fs := ⟨[z94, z3b], [], []⟩
theorem w98 : w8g.Ok Tryz.prog := (fsK zw5 (fsK y0o fs0))
theorem wa9 : y1h.Ok Tryz.prog := fn_ok (k := y1h) (fn := Tryz.f23) (W := []) (H := []) Tryz.func23 w98 trivial rfl rfl (fun av x => by kernel_rfl)
def z08 (c : GCase) : Option GCase := (z0g c.marks).bind fun x1 => (gd (([] : List GItem).length + c.busy.length ≤ SMALL) ((z0g c.data).bind fun x3 => (gd (([] : List GDid).length + c.did.length ≤ SMALL) (some (GCase.mk c.state x1 (([] : List GItem) ++ c.busy) x3 (([] : List GDid) ++ c.did))))))
def z36 : Con := ⟨84, [.v (.s .kase) false], [((.s .kase), true)], [], fun x => z08 x.1⟩
def ye6 : Fs := ⟨[z1b], [], []⟩
theorem yf2 : ye6.Ok Tryz.prog := (fsK z2k fs0)
theorem z6q : z36.Ok Tryz.prog := fn_ok (k := z36) (fn := Tryz.f84) (W := []) (H := []) Tryz.func84 yf2 trivial rfl rfl (fun av x => by kernel_rfl)
def y96 (s0_0 : Int) (bk0 : Int → Option Bool) (s1_0 : Int) : Option Bool := if ((decide (s0_0 = 0)) == (decide (s1_0 = 0))) = true then (if decide (1 < s1_0) = true then (some false) else (gd (ok64 (s0_0 + 1)) (bk0 (s0_0 + 1)))) else (some false)
def z13 (tree : List GNode) (s0_0 : Int) (kx1_0 : Int → Option Bool) : Nat → Int → Int → Option Bool
  | 0, _, _ => none
  | n1 + 1, s1_0, s1_1 => if decide (s1_1 < (tree.length : Int)) = true then ((getI tree s1_1).bind fun x15 => (if decide (x15.yes = s0_0) = true then (gd (ok64 (s1_0 + 1)) ((getI tree s1_1).bind fun x18 => (if decide (x18.no = s0_0) = true then (gd (ok64 ((s1_0 + 1) + 1)) (gd (ok64 (s1_1 + 1)) ((z13 tree s0_0 kx1_0 n1) ((s1_0 + 1) + 1) (s1_1 + 1)))) else (gd (ok64 (s1_1 + 1)) ((z13 tree s0_0 kx1_0 n1) (s1_0 + 1) (s1_1 + 1)))))) else ((getI tree s1_1).bind fun x23 => (if decide (x23.no = s0_0) = true then (gd (ok64 (s1_0 + 1)) (gd (ok64 (s1_1 + 1)) ((z13 tree s0_0 kx1_0 n1) (s1_0 + 1) (s1_1 + 1)))) else (gd (ok64 (s1_1 + 1)) ((z13 tree s0_0 kx1_0 n1) s1_0 (s1_1 + 1))))))) else (kx1_0 s1_0)
def y97 (s0_0 : Int) (bk0 : Int → Option Bool) (s2_0 : Int) : Option Bool := if ((decide (s0_0 = 0)) == (decide (s2_0 = 0))) = true then (if decide (1 < s2_0) = true then (some false) else (gd (ok64 (s0_0 + 1)) (bk0 (s0_0 + 1)))) else (some false)
def y98 (s0_0 : Int) (bk0 : Int → Option Bool) (s3_0 : Int) : Option Bool := if ((decide (s0_0 = 0)) == (decide (s3_0 = 0))) = true then (if decide (1 < s3_0) = true then (some false) else (gd (ok64 (s0_0 + 1)) (bk0 (s0_0 + 1)))) else (some false)
def y99 (s0_0 : Int) (bk0 : Int → Option Bool) (s4_0 : Int) : Option Bool := if ((decide (s0_0 = 0)) == (decide (s4_0 = 0))) = true then (if decide (1 < s4_0) = true then (some false) else (gd (ok64 (s0_0 + 1)) (bk0 (s0_0 + 1)))) else (some false)
def y9a  : Option Bool := some true
def z34 (tree : List GNode) (kx0_0 : Option Bool) : Nat → Int → Option Bool
  | 0, _ => none
  | n0 + 1, s0_0 => if decide (s0_0 < (tree.length : Int)) = true then ((getI tree s0_0).bind fun x3 => ((z6c x3.if_).bind fun x4 => (if x4 = true then ((z03 x3.ans 0 2).bind fun x6 => (if x6 = true then ((z2o x3.stone).bind fun x8 => (if x8 = true then ((z1c x3.if_ x3.stone).bind fun x10 => (if x10 = true then (if decide (x3.yes = (-1)) = true then (if decide (x3.no = (-1)) = true then (z13 tree s0_0 (y96 s0_0 (z34 tree kx0_0 n0)) FUEL 0 0) else (gd (ok64 (s0_0 + 1)) (gd (ok64 ((tree.length : Int) - 1)) ((z03 x3.no (s0_0 + 1) ((tree.length : Int) - 1)).bind fun x33 => (if x33 = true then (z13 tree s0_0 (y97 s0_0 (z34 tree kx0_0 n0)) FUEL 0 0) else (some false)))))) else (gd (ok64 (s0_0 + 1)) (gd (ok64 ((tree.length : Int) - 1)) ((z03 x3.yes (s0_0 + 1) ((tree.length : Int) - 1)).bind fun x54 => (if x54 = true then (if decide (x3.no = (-1)) = true then (z13 tree s0_0 (y98 s0_0 (z34 tree kx0_0 n0)) FUEL 0 0) else (gd (ok64 (s0_0 + 1)) (gd (ok64 ((tree.length : Int) - 1)) ((z03 x3.no (s0_0 + 1) ((tree.length : Int) - 1)).bind fun x76 => (if x76 = true then (z13 tree s0_0 (y99 s0_0 (z34 tree kx0_0 n0)) FUEL 0 0) else (some false)))))) else (some false)))))) else (some false))) else (some false))) else (some false))) else (some false)))) else (kx0_0)
def z8v (tree : List GNode) : Option Bool := if decide (12 < (tree.length : Int)) = true then (some false) else (z34 tree y9a FUEL 0)
def z18 : Con := ⟨129, [.v (.sl (.s .node)) false], [(.B, true)], [], fun x => z8v x.1⟩
def wx8 : Fs := ⟨[z8m, z0m, z17, z4g], [], []⟩
theorem y7y : wx8.Ok Tryz.prog := (fsK zq3 (fsK z0u (fsK z6j (fsK z7b fs0))))
def y6n : Tmpl := ⟨[(0, .c (.s (.s .node))), (3, .c .i), (5, .c .i), (6, .c .i)], []⟩
def y3t : Tmpl := ⟨[(0, .c (.s (.s .node))), (3, .c .i), (5, .c .i)], []⟩
def w2c (av : AV) (x : HP z18.ps) (n : Nat) (v : y6n.den) (K : Ks (CR z18)) : Option (CR z18) := z13 v.1.1 v.1.2.1 (fun s1_0 => y3t.at none ((v.1.1, v.1.2.1, s1_0, ()), ()) (K (.exit 2))) n v.1.2.2.1 v.1.2.2.2.1
def y5s (av : AV) (x : HP z18.ps) : Hdl (CR z18) := hnd [] y6n (w2c av x)
theorem w37 : LP z18 Tryz.f129 [0, 0] y5s := lp_ok (W := []) (H := []) (xs := [y3t]) y7y trivial rfl (fun av x v K => by kernel_rfl) (fun av x n v K => by kernel_rfl)
def yk6 : Tmpl := ⟨[(0, .c (.s (.s .node))), (3, .c .i)], []⟩
def yc4 : Tmpl := ⟨[], []⟩
def w7x (av : AV) (x : HP z18.ps) (n : Nat) (v : yk6.den) (K : Ks (CR z18)) : Option (CR z18) := z34 v.1.1 (yc4.at none ((), ()) (K (.exit 0))) n v.1.2.1
def yi4 (av : AV) (x : HP z18.ps) : Hdl (CR z18) := hnd [] yk6 (w7x av x)
theorem w9s : LP z18 Tryz.f129 [0] yi4 := lp_ok (W := []) (H := [y5s]) (xs := [yc4]) y7y ⟨w37, trivial⟩ rfl (fun av x v K => by kernel_rfl) (fun av x n v K => by kernel_rfl)
theorem y9m : z18.Ok Tryz.prog := fn_ok (k := z18) (fn := Tryz.f129) (W := []) (H := [yi4]) Tryz.func129 y7y ⟨w9s, trivial⟩ rfl rfl (fun av x => by kernel_rfl)
def y67 (s0_0 : Int) (s0_1 : Int) : Option (Int × Int) := some (s0_0, s0_1)
def y68 (s0_0 : Int) (s0_1 : Int) : Option (Int × Int) := some (s0_0, s0_1)
def z3h (tree : List GNode) (data : List Int) (kx0_0 : Int → Int → Option (Int × Int)) (kx0_1 : Int → Int → Option (Int × Int)) : Nat → Int → Int → Int → Int → Option (Int × Int)
  | 0, _, _, _, _ => none
  | n0 + 1, s0_0, s0_1, s0_2, s0_3 => if decide (s0_3 < 12) = true then (if decide (s0_2 = (-1)) = true then (kx0_0 s0_0 s0_1) else ((getI tree s0_2).bind fun x4 => ((z1c x4.if_ data).bind fun x5 => (if x5 = true then ((getI tree s0_2).bind fun x7 => (gd (ok64 (s0_3 + 1)) ((z3h tree data kx0_0 kx0_1 n0) s0_2 s0_2 x7.yes (s0_3 + 1)))) else ((getI tree s0_2).bind fun x9 => (gd (ok64 (s0_3 + 1)) ((z3h tree data kx0_0 kx0_1 n0) s0_0 s0_2 x9.no (s0_3 + 1)))))))) else (kx0_1 s0_0 s0_1)
def y69 (s1_0 : Int) (s1_1 : Int) : Option (Int × Int) := some (s1_0, s1_1)
def y6a (s1_0 : Int) (s1_1 : Int) : Option (Int × Int) := some (s1_0, s1_1)
def z7s (tree : List GNode) (data : List Int) : Option (Int × Int) := if decide ((tree.length : Int) = 0) = true then (z3h tree data y67 y68 FUEL (-1) (-1) (-1) 0) else (z3h tree data y69 y6a FUEL (-1) (-1) 0 0)
def z2y : Con := ⟨209, [.v (.sl (.s .node)) false, .v (.sl .I) false], [(.I, true), (.I, true)], [], fun x => z7s x.1 x.2.1⟩
def wj8 : Fs := ⟨[z4g], [], []⟩
theorem ys2 : wj8.Ok Tryz.prog := (fsK z7b fs0)
def ya6 : Tmpl := ⟨[(0, .c (.s (.s .node))), (1, .c (.s .I)), (6, .c .i), (7, .c .i), (8, .c .i), (9, .c .i)], []⟩
def zr7 : Tmpl := ⟨[(6, .c .i), (7, .c .i)], []⟩
def w4e (av : AV) (x : HP z2y.ps) (n : Nat) (v : ya6.den) (K : Ks (CR z2y)) : Option (CR z2y) := z3h v.1.1 v.1.2.1 (fun s0_0 s0_1 => zr7.at none ((s0_0, s0_1, ()), ()) (K (.exit 0))) (fun s0_0 s0_1 => zr7.at none ((s0_0, s0_1, ()), ()) (K (.exit 0))) n v.1.2.2.1 v.1.2.2.2.1 v.1.2.2.2.2.1 v.1.2.2.2.2.2.1
def y8f (av : AV) (x : HP z2y.ps) : Hdl (CR z2y) := hnd [] ya6 (w4e av x)
theorem w68 : LP z2y Tryz.f209 [0] y8f := lp_ok (W := []) (H := []) (xs := [zr7]) ys2 trivial rfl (fun av x v K => by kernel_rfl) (fun av x n v K => by kernel_rfl)
theorem y56 : z2y.Ok Tryz.prog := fn_ok (k := z2y) (fn := Tryz.f209) (W := []) (H := [y8f]) Tryz.func209 ys2 ⟨w68, trivial⟩ rfl rfl (fun av x => by kernel_rfl)
def zv4 (tree : List GNode) (data : List Int) : Option Int := (z8v tree).bind fun x1 => (if x1 = true then ((z2o data).bind fun x3 => (if x3 = true then ((z7s tree data).bind fun x5 => (if decide (x5.1 = (-1)) = true then (some 0) else ((getI tree x5.1).bind fun x7 => (some x7.ans)))) else (some 0))) else (some 0))
def y4n : Con := ⟨186, [.v (.sl (.s .node)) false, .v (.sl .I) false], [(.I, true)], [], fun x => zv4 x.1 x.2.1⟩
def wi6 : Fs := ⟨[z18, z17, z2y], [], []⟩
theorem wl8 : wi6.Ok Tryz.prog := (fsK y9m (fsK z6j (fsK y56 fs0)))
theorem wq2 : y4n.Ok Tryz.prog := fn_ok (k := y4n) (fn := Tryz.f186) (W := []) (H := []) Tryz.func186 wl8 trivial rfl rfl (fun av x => by kernel_rfl)
def zw0 (tree : List GNode) (a : List Int) (b : List Int) : Option Bool := (z7s tree a).bind fun x1 => ((z7s tree b).bind fun x2 => (if decide (x1.2 = x2.2) = true then (if decide (x1.2 = (-1)) = true then (some true) else ((getI tree x1.2).bind fun x5 => ((z1c x5.if_ a).bind fun x6 => ((getI tree x1.2).bind fun x7 => ((z1c x7.if_ b).bind fun x8 => (some (x6 == x8))))))) else (some false)))
def y4s : Con := ⟨210, [.v (.sl (.s .node)) false, .v (.sl .I) false, .v (.sl .I) false], [(.B, true)], [], fun x => zw0 x.1 x.2.1 x.2.2.1⟩
def wj7 : Fs := ⟨[z2y, z4g], [], []⟩
theorem wm6 : wj7.Ok Tryz.prog := (fsK y56 (fsK z7b fs0))
theorem wq8 : y4s.Ok Tryz.prog := fn_ok (k := y4s) (fn := Tryz.f210) (W := []) (H := []) Tryz.func210 wm6 trivial rfl rfl (fun av x => by kernel_rfl)
def zr3 (l0_1 : List GNode) : Option (List GNode) := some l0_1
def z5w (tree : List GNode) (kx0_0 : List GNode → Option (List GNode)) : Nat → Int → List GNode → Option (List GNode)
  | 0, _, _ => none
  | n0 + 1, s0_0, l0_1 => if decide (s0_0 < (tree.length : Int)) = true then ((getI tree s0_0).bind fun x2 => (gd (([] : List Int).length + x2.stone.length ≤ SMALL) (gd (l0_1.length + [(GNode.mk x2.if_ x2.yes x2.no x2.ans (([] : List Int) ++ x2.stone))].length ≤ SMALL) (gd (ok64 (s0_0 + 1)) ((z5w tree kx0_0 n0) (s0_0 + 1) (l0_1 ++ [(GNode.mk x2.if_ x2.yes x2.no x2.ans (([] : List Int) ++ x2.stone))])))))) else (kx0_0 l0_1)
def zi5 (tree : List GNode) : Option (List GNode) := z5w tree zr3 FUEL 0 ([] : List GNode)
def z4c : Con := ⟨189, [.v (.sl (.s .node)) false], [((.sl (.s .node)), true)], [], fun x => zi5 x.1⟩
def wj6 : Fs := ⟨[], [], []⟩
theorem ys1 : wj6.Ok Tryz.prog := fs0
def ya5 : Tmpl := ⟨[(0, .c (.s (.s .node))), (3, .c (.ref 6)), (4, .c .i)], [(6, .arr (.s .node) true)]⟩
def y78 : Tmpl := ⟨[(3, .c (.ref 6))], [(6, .arr (.s .node) true)]⟩
def w4d (av : AV) (x : HP z4c.ps) (n : Nat) (v : ya5.den) (K : Ks (CR z4c)) : Option (CR z4c) := z5w v.1.1 (fun l0_1 => y78.at none (((), ()), (l0_1, ())) (K (.exit 0))) n v.1.2.2.1 v.2.1
def y8e (av : AV) (x : HP z4c.ps) : Hdl (CR z4c) := hnd [] ya5 (w4d av x)
theorem w67 : LP z4c Tryz.f189 [0] y8e := lp_ok (W := []) (H := []) (xs := [y78]) ys1 trivial rfl (fun av x v K => by kernel_rfl) (fun av x n v K => by kernel_rfl)
theorem yu9 : z4c.Ok Tryz.prog := fn_ok (k := z4c) (fn := Tryz.f189) (W := []) (H := [y8e]) Tryz.func189 ys1 ⟨w67, trivial⟩ rfl rfl (fun av x => by kernel_rfl)
def zb1 (tree : List GNode) (data : List Int) (e : GAsk) (ans : Int) (x1 : (List GNode)) : Option ((List GNode) × Bool) := (z7s tree data).bind fun x20 => (if decide (x20.2 = (-1)) = true then (gd (([] : List Int).length + data.length ≤ SMALL) (gd (x1.length + [(GNode.mk e (-1) (-1) ans (([] : List Int) ++ data))].length ≤ SMALL) (some ((x1 ++ [(GNode.mk e (-1) (-1) ans (([] : List Int) ++ data))]), true)))) else ((getI tree x20.2).bind fun x24 => ((z1c x24.if_ data).bind fun x25 => (if x25 = true then ((getI x1 x20.2).bind fun x27 => (gd (([] : List Int).length + data.length ≤ SMALL) (gd ((x1.set x20.2.toNat (GNode.mk x27.if_ (tree.length : Int) x27.no x27.ans x27.stone)).length + [(GNode.mk e (-1) (-1) ans (([] : List Int) ++ data))].length ≤ SMALL) (some (((x1.set x20.2.toNat (GNode.mk x27.if_ (tree.length : Int) x27.no x27.ans x27.stone)) ++ [(GNode.mk e (-1) (-1) ans (([] : List Int) ++ data))]), true))))) else ((getI x1 x20.2).bind fun x30 => (gd (([] : List Int).length + data.length ≤ SMALL) (gd ((x1.set x20.2.toNat (GNode.mk x30.if_ x30.yes (tree.length : Int) x30.ans x30.stone)).length + [(GNode.mk e (-1) (-1) ans (([] : List Int) ++ data))].length ≤ SMALL) (some (((x1.set x20.2.toNat (GNode.mk x30.if_ x30.yes (tree.length : Int) x30.ans x30.stone)) ++ [(GNode.mk e (-1) (-1) ans (([] : List Int) ++ data))]), true)))))))))
def z4y (tree : List GNode) (data : List Int) (e : GAsk) (x1 : (List GNode)) (kx0_0 : Option ((List GNode) × Bool)) : Nat → Int → Option ((List GNode) × Bool)
  | 0, _ => none
  | n0 + 1, s0_0 => if decide (s0_0 < (tree.length : Int)) = true then ((getI tree s0_0).bind fun x12 => ((zw0 tree x12.stone data).bind fun x13 => (if x13 = true then ((getI tree s0_0).bind fun x15 => ((z1c e x15.stone).bind fun x16 => (if x16 = true then (some (x1, false)) else (gd (ok64 (s0_0 + 1)) ((z4y tree data e x1 kx0_0 n0) (s0_0 + 1)))))) else (gd (ok64 (s0_0 + 1)) ((z4y tree data e x1 kx0_0 n0) (s0_0 + 1)))))) else (kx0_0)
def z7q (tree : List GNode) (data : List Int) (e : GAsk) (ans : Int) : Option ((List GNode) × Bool) := (zi5 tree).bind fun x1 => ((z8v tree).bind fun x2 => (if x2 = true then ((z2o data).bind fun x4 => (if x4 = true then ((z1c e data).bind fun x6 => (if x6 = true then ((z03 ans 0 2).bind fun x8 => (if x8 = true then (if decide ((tree.length : Int) = 12) = true then (some (x1, false)) else (z4y tree data e x1 (zb1 tree data e ans x1) FUEL 0)) else (some (x1, false)))) else (some (x1, false)))) else (some (x1, false)))) else (some (x1, false))))
def z43 : Con := ⟨187, [.v (.sl (.s .node)) false, .v (.sl .I) false, .v (.s .ask) false, .v .I false], [((.sl (.s .node)), true), (.B, true)], [], fun x => z7q x.1 x.2.1 x.2.2.1 x.2.2.2.1⟩
def wi5 : Fs := ⟨[z4c, z18, z17, z4g, z0m, y4s, z2y], [], []⟩
theorem yr8 : wi5.Ok Tryz.prog := (fsK yu9 (fsK y9m (fsK z6j (fsK z7b (fsK z0u (fsK wq8 (fsK y56 fs0)))))))
def ya2 : Tmpl := ⟨[(0, .c (.s (.s .node))), (1, .c (.s .I)), (3, .c .i), (6, .c (.bx 6 0)), (10, .c (.ref 15)), (11, .c .i)], [(6, .boxT (.s .ask)), (15, .arr (.s .node) true)]⟩
def y75 : Tmpl := ⟨[(0, .c (.s (.s .node))), (1, .c (.s .I)), (3, .c .i), (6, .c (.bx 6 0)), (10, .c (.ref 15))], [(6, .boxT (.s .ask)), (15, .arr (.s .node) true)]⟩
def w4a (av : AV) (x : HP z43.ps) (n : Nat) (v : ya2.den) (K : Ks (CR z43)) : Option (CR z43) := z4y v.1.1 v.1.2.1 v.2.1 v.2.2.1 (y75.at none ((v.1.1, v.1.2.1, v.1.2.2.1, (), (), ()), (v.2.1, v.2.2.1, ())) (K (.exit 0))) n v.1.2.2.2.2.2.1
def y8b (av : AV) (x : HP z43.ps) : Hdl (CR z43) := hnd [] ya2 (w4a av x)
theorem w64 : LP z43 Tryz.f187 [0] y8b := lp_ok (W := []) (H := []) (xs := [y75]) yr8 trivial rfl (fun av x v K => by kernel_rfl) (fun av x n v K => by kernel_rfl)
theorem yu7 : z43.Ok Tryz.prog := fn_ok (k := z43) (fn := Tryz.f187) (W := []) (H := [y8b]) Tryz.func187 yr8 ⟨w64, trivial⟩ rfl rfl (fun av x => by kernel_rfl)
def z4j (ans : Int) : Option Bool := (z0c ans 0 2).bind fun x1 => (some x1)
def z8l : Con := ⟨121, [.v .I false], [(.B, true)], [], fun x => z4j x.1⟩
def w4w : Fs := ⟨[z23], [], []⟩
theorem w5k : w4w.Ok Tryz.prog := (fsK z2q fs0)
theorem zy8 : z8l.Ok Tryz.prog := fn_ok (k := z8l) (fn := Tryz.f121) (W := []) (H := []) Tryz.func121 w5k trivial rfl rfl (fun av x => by kernel_rfl)
def z9q (l0_1 : List GNode) : Option (List GNode) := some l0_1
def z3a (tree : List GNode) (p0_0 : Int) (kx0_0 : List GNode → Option (List GNode)) : Nat → Int → List GNode → Option (List GNode)
  | 0, _, _ => none
  | n0 + 1, s0_0, l0_1 => if decide (s0_0 < p0_0) = true then ((getI tree s0_0).bind fun x2 => ((z0g x2.stone).bind fun x3 => (gd (l0_1.length + [(GNode.mk x2.if_ x2.yes x2.no x2.ans x3)].length ≤ SMALL) (gd (ok64 (s0_0 + 1)) ((z3a tree p0_0 kx0_0 n0) (s0_0 + 1) (l0_1 ++ [(GNode.mk x2.if_ x2.yes x2.no x2.ans x3)])))))) else (kx0_0 l0_1)
def z6y (tree : List GNode) : Option (List GNode) := z3a tree (tree.length : Int) z9q FUEL 0 ([] : List GNode)
def z1f : Con := ⟨183, [.v (.sl (.s .node)) false], [((.sl (.s .node)), true)], [], fun x => z6y x.1⟩
def yz1 : Fs := ⟨[z1b], [], []⟩
theorem y2d : yz1.Ok Tryz.prog := (fsK z2k fs0)
def zz6 : Tmpl := ⟨[(3, .c (.ref 500003)), (6, .c (.s (.s .node))), (7, .c .i), (8, .c .i)], [(500003, .arr (.s .node) true)]⟩
def zs9 : Tmpl := ⟨[(3, .c (.ref 500003))], [(500003, .arr (.s .node) true)]⟩
def yl2 (av : AV) (x : HP z1f.ps) (n : Nat) (v : zz6.den) (K : Ks (CR z1f)) : Option (CR z1f) := z3a v.1.2.1 v.1.2.2.1 (fun l0_1 => zs9.at none (((), ()), (l0_1, ())) (K (.exit 0))) n v.1.2.2.2.1 v.2.1
def zx6 (av : AV) (x : HP z1f.ps) : Hdl (CR z1f) := hnd [.e 3 500003 (.s .node)] zz6 (yl2 av x)
theorem yn4 : LP z1f Tryz.f183 [0] zx6 := lp_ok (W := []) (H := []) (xs := [zs9]) y2d trivial rfl (fun av x v K => by kernel_rfl) (fun av x n v K => by kernel_rfl)
theorem y33 : z1f.Ok Tryz.prog := fn_ok (k := z1f) (fn := Tryz.f183) (W := []) (H := [zx6]) Tryz.func183 y2d ⟨yn4, trivial⟩ rfl rfl (fun av x => by kernel_rfl)
def y6b  : Option Bool := some true
def z5z (nets : List GNet) (kx0_0 : Option Bool) : Nat → Int → Option Bool
  | 0, _ => none
  | n0 + 1, s0_0 => if decide (s0_0 < (nets.length : Int)) = true then ((getI nets s0_0).bind fun x4 => ((z3g x4).bind fun x5 => (if x5 = true then (gd (ok64 (s0_0 + 1)) ((z5z nets kx0_0 n0) (s0_0 + 1))) else (some false)))) else (kx0_0)
def zi6 (nets : List GNet) : Option Bool := (z03 (nets.length : Int) 1 3).bind fun x1 => (if x1 = true then (z5z nets y6b FUEL 0) else (some false))
def z4d : Con := ⟨128, [.v (.sl (.s .net)) false], [(.B, true)], [], fun x => zi6 x.1⟩
def wk3 : Fs := ⟨[z0m, z2m], [], []⟩
theorem ys3 : wk3.Ok Tryz.prog := (fsK z0u (fsK zq4 fs0))
def ya9 : Tmpl := ⟨[(0, .c (.s (.s .net))), (3, .c .i)], []⟩
def y7b : Tmpl := ⟨[], []⟩
def w4h (av : AV) (x : HP z4d.ps) (n : Nat) (v : ya9.den) (K : Ks (CR z4d)) : Option (CR z4d) := z5z v.1.1 (y7b.at none ((), ()) (K (.exit 0))) n v.1.2.1
def y8i (av : AV) (x : HP z4d.ps) : Hdl (CR z4d) := hnd [] ya9 (w4h av x)
theorem w6b : LP z4d Tryz.f128 [0] y8i := lp_ok (W := []) (H := []) (xs := [y7b]) ys3 trivial rfl (fun av x v K => by kernel_rfl) (fun av x n v K => by kernel_rfl)
theorem yv0 : z4d.Ok Tryz.prog := fn_ok (k := z4d) (fn := Tryz.f128) (W := []) (H := [y8i]) Tryz.func128 ys3 ⟨w6b, trivial⟩ rfl rfl (fun av x => by kernel_rfl)
def zc0 (p0_1 : Int) (l0_1 : List GTask) : Option GNet := some (GNet.mk p0_1 l0_1)
def z3w (n : GNet) (kx0_0 : List GTask → Option GNet) : Nat → Int → List GTask → Option GNet
  | 0, _, _ => none
  | n0 + 1, s0_0, l0_1 => if decide (s0_0 < (n.tasks.length : Int)) = true then ((getI n.tasks s0_0).bind fun x2 => (gd (([] : List Int).length + x2.in_.length ≤ SMALL) (gd (([] : List GFlow).length + x2.out.length ≤ SMALL) (gd (([] : List Int).length + x2.clear.length ≤ SMALL) (gd (l0_1.length + [(GTask.mk x2.join x2.split (([] : List Int) ++ x2.in_) (([] : List GFlow) ++ x2.out) (([] : List Int) ++ x2.clear) x2.role x2.apart x2.all x2.need)].length ≤ SMALL) (gd (ok64 (s0_0 + 1)) ((z3w n kx0_0 n0) (s0_0 + 1) (l0_1 ++ [(GTask.mk x2.join x2.split (([] : List Int) ++ x2.in_) (([] : List GFlow) ++ x2.out) (([] : List Int) ++ x2.clear) x2.role x2.apart x2.all x2.need)])))))))) else (kx0_0 l0_1)
def z80 (n : GNet) : Option GNet := z3w n (zc0 n.places) FUEL 0 ([] : List GTask)
def z1y : Con := ⟨190, [.v (.s .net) false], [((.s .net), true)], [], fun x => z80 x.1⟩
def w2t : Fs := ⟨[], [], []⟩
theorem y5i : w2t.Ok Tryz.prog := fs0
def y0v : Tmpl := ⟨[(1, .c (.bx 1 0)), (2, .c (.bx 2 0)), (3, .c (.bx 3 0)), (4, .c .i)], [(1, .boxT (.s .net)), (2, .box [.i, .nl]), (3, .box [.i, .ref 510301]), (510301, .arr (.s .task) true)]⟩
def y02 : Tmpl := ⟨[(2, .c (.bx 2 0)), (3, .c (.bx 3 0))], [(2, .box [.i, .nl]), (3, .box [.i, .ref 510301]), (510301, .arr (.s .task) true)]⟩
def yp6 (av : AV) (x : HP z1y.ps) (n : Nat) (v : y0v.den) (K : Ks (CR z1y)) : Option (CR z1y) := z3w v.2.1 (fun l0_1 => y02.at none (((), (), ()), ((v.2.2.1.1, (), ()), (v.2.2.2.1.1, (), ()), l0_1, ())) (K (.exit 0))) n v.1.2.2.2.1 v.2.2.2.2.1
def y0a (av : AV) (x : HP z1y.ps) : Hdl (CR z1y) := hnd [.b 3 1 510301 (.s .task)] y0v (yp6 av x)
theorem yt2 : LP z1y Tryz.f190 [0] y0a := lp_ok (W := []) (H := []) (xs := [y02]) y5i trivial rfl (fun av x v K => by kernel_rfl) (fun av x n v K => by kernel_rfl)
theorem y6d : z1y.Ok Tryz.prog := fn_ok (k := z1y) (fn := Tryz.f190) (W := []) (H := [y0a]) Tryz.func190 y5i ⟨yt2, trivial⟩ rfl rfl (fun av x => by kernel_rfl)
def zr1 (p0_0 : List Int) (l0_1 : List GNet) : Option GHouse := some (GHouse.mk l0_1 p0_0 [] [])
def z5s (nets : List GNet) (kx0_0 : List GNet → Option GHouse) : Nat → Int → List GNet → Option GHouse
  | 0, _, _ => none
  | n0 + 1, s0_0, l0_1 => if decide (s0_0 < (nets.length : Int)) = true then ((getI nets s0_0).bind fun x7 => ((z80 x7).bind fun x8 => (gd (l0_1.length + [x8].length ≤ SMALL) (gd (ok64 (s0_0 + 1)) ((z5s nets kx0_0 n0) (s0_0 + 1) (l0_1 ++ [x8])))))) else (kx0_0 l0_1)
def zv0 (nets : List GNet) (people : List Int) : Option GHouse := (zi6 nets).bind fun x1 => (if x1 = true then ((z8u people).bind fun x3 => (if x3 = true then (gd (([] : List Int).length + people.length ≤ SMALL) (z5s nets (zr1 (([] : List Int) ++ people)) FUEL 0 ([] : List GNet))) else (some (GHouse.mk [] [] [] [])))) else (some (GHouse.mk [] [] [] [])))
def z54 : Con := ⟨195, [.v (.sl (.s .net)) false, .v (.sl .I) false], [((.s .house), true)], [], fun x => zv0 x.1 x.2.1⟩
def wi0 : Fs := ⟨[z4d, z3d, z1y], [], []⟩
theorem yr4 : wi0.Ok Tryz.prog := (fsK yv0 (fsK y0q (fsK y6d fs0)))
def y9x : Tmpl := ⟨[(0, .c (.s (.s .net))), (4, .c (.bx 4 0)), (5, .c (.bx 5 0)), (6, .c .i)], [(4, .box [.nl, .nl, .nl, .nl]), (5, .box [.ref 510500, .ref 18, .nl, .nl]), (510500, .arr (.s .net) true), (18, .arr .I true)]⟩
def y70 : Tmpl := ⟨[(4, .c (.bx 4 0)), (5, .c (.bx 5 0))], [(4, .box [.nl, .nl, .nl, .nl]), (5, .box [.ref 510500, .ref 18, .nl, .nl]), (510500, .arr (.s .net) true), (18, .arr .I true)]⟩
def w45 (av : AV) (x : HP z54.ps) (n : Nat) (v : y9x.den) (K : Ks (CR z54)) : Option (CR z54) := z5s v.1.1 (fun l0_1 => y70.at none (((), (), ()), (((), (), (), (), ()), ((), (), (), (), ()), l0_1, v.2.2.2.2.1, ())) (K (.exit 0))) n v.1.2.2.2.1 v.2.2.2.1
def y86 (av : AV) (x : HP z54.ps) : Hdl (CR z54) := hnd [.b 5 0 510500 (.s .net)] y9x (w45 av x)
theorem w5z : LP z54 Tryz.f195 [0] y86 := lp_ok (W := []) (H := []) (xs := [y70]) yr4 trivial rfl (fun av x v K => by kernel_rfl) (fun av x n v K => by kernel_rfl)
theorem wp8 : z54.Ok Tryz.prog := fn_ok (k := z54) (fn := Tryz.f195) (W := []) (H := [y86]) Tryz.func195 yr4 ⟨w5z, trivial⟩ rfl rfl (fun av x => by kernel_rfl)
def y91  : Option Bool := some true
def z73 (h : GHouse) (kx0_0 : Option Bool) : Nat → Int → Option Bool
  | 0, _ => none
  | n0 + 1, s0_0 => if decide (s0_0 < (h.runs.length : Int)) = true then ((getI h.runs s0_0).bind fun x9 => (gd (ok64 ((h.nets.length : Int) - 1)) ((z03 x9.net 0 ((h.nets.length : Int) - 1)).bind fun x11 => (if x11 = true then ((getI h.runs s0_0).bind fun x13 => ((getI h.nets x13.net).bind fun x14 => ((getI h.runs s0_0).bind fun x15 => ((z8s x14 x15.case).bind fun x16 => (if x16 = true then (gd (ok64 (s0_0 + 1)) ((z73 h kx0_0 n0) (s0_0 + 1))) else (some false)))))) else (some false))))) else (kx0_0)
def y0g (h : GHouse) : Option Bool := (zi6 h.nets).bind fun x1 => (if x1 = true then ((z8u h.people).bind fun x3 => (if x3 = true then ((z8v h.tree).bind fun x5 => (if x5 = true then (if decide (5 < (h.runs.length : Int)) = true then (some false) else (z73 h y91 FUEL 0)) else (some false))) else (some false))) else (some false))
def z64 : Con := ⟨54, [.v (.s .house) false], [(.B, true)], [], fun x => y0g x.1⟩
def wx2 : Fs := ⟨[z4d, z3d, z18, z0m, z3b], [], []⟩
theorem w1a : wx2.Ok Tryz.prog := (fsK yv0 (fsK y0q (fsK y9m (fsK z0u (fsK y0o fs0)))))
def yk1 : Tmpl := ⟨[(1, .c (.bx 1 0)), (3, .c .i)], [(1, .boxT (.s .house))]⟩
def yb9 : Tmpl := ⟨[], []⟩
def w7s (av : AV) (x : HP z64.ps) (n : Nat) (v : yk1.den) (K : Ks (CR z64)) : Option (CR z64) := z73 v.2.1 (yb9.at none ((), ()) (K (.exit 0))) n v.1.2.1
def yh9 (av : AV) (x : HP z64.ps) : Hdl (CR z64) := hnd [] yk1 (w7s av x)
theorem w9n : LP z64 Tryz.f54 [0] yh9 := lp_ok (W := []) (H := []) (xs := [yb9]) w1a trivial rfl (fun av x v K => by kernel_rfl) (fun av x n v K => by kernel_rfl)
theorem v0p : z64.Ok Tryz.prog := fn_ok (k := z64) (fn := Tryz.f54) (W := []) (H := [yh9]) Tryz.func54 w1a ⟨w9n, trivial⟩ rfl rfl (fun av x => by kernel_rfl)
def zr4 (x2 : (List GNode)) (p0_0 : List Int) (l0_1 : List GNet) (l1_1 : List GRun) : Option GHouse := some (GHouse.mk l0_1 p0_0 x2 l1_1)
def z5y (h : GHouse) (kx1_0 : List GRun → Option GHouse) : Nat → Int → List GRun → Option GHouse
  | 0, _, _ => none
  | n1 + 1, s1_0, l1_1 => if decide (s1_0 < (h.runs.length : Int)) = true then ((getI h.runs s1_0).bind fun x9 => ((getI h.runs s1_0).bind fun x10 => ((z6g x10.case).bind fun x11 => (gd (l1_1.length + [(GRun.mk x9.net x11)].length ≤ SMALL) (gd (ok64 (s1_0 + 1)) ((z5y h kx1_0 n1) (s1_0 + 1) (l1_1 ++ [(GRun.mk x9.net x11)]))))))) else (kx1_0 l1_1)
def zb3 (h : GHouse) (x2 : (List GNode)) (p0_0 : List Int) (l0_1 : List GNet) : Option GHouse := z5y h (zr4 x2 p0_0 l0_1) FUEL 0 ([] : List GRun)
def z5x (h : GHouse) (kx0_0 : List GNet → Option GHouse) : Nat → Int → List GNet → Option GHouse
  | 0, _, _ => none
  | n0 + 1, s0_0, l0_1 => if decide (s0_0 < (h.nets.length : Int)) = true then ((getI h.nets s0_0).bind fun x4 => ((z80 x4).bind fun x5 => (gd (l0_1.length + [x5].length ≤ SMALL) (gd (ok64 (s0_0 + 1)) ((z5x h kx0_0 n0) (s0_0 + 1) (l0_1 ++ [x5])))))) else (kx0_0 l0_1)
def z6h (h : GHouse) : Option GHouse := gd (([] : List Int).length + h.people.length ≤ SMALL) ((zi5 h.tree).bind fun x2 => (z5x h (zb3 h x2 (([] : List Int) ++ h.people)) FUEL 0 ([] : List GNet)))
def z0v : Con := ⟨135, [.v (.s .house) false], [((.s .house), true)], [], fun x => z6h x.1⟩
def wk0 : Fs := ⟨[z4c, z1y, z94], [], []⟩
theorem y4d : wk0.Ok Tryz.prog := (fsK yu9 (fsK y6d (fsK zw5 fs0)))
def ya7 : Tmpl := ⟨[(1, .c (.bx 1 0)), (2, .c (.bx 2 0)), (3, .c (.bx 3 0)), (4, .c .i)], [(1, .boxT (.s .house)), (2, .box [.nl, .nl, .nl, .nl]), (3, .box [.ref 510300, .ref 9, .ref 12, .nl]), (510300, .arr (.s .net) true), (9, .arr .I true), (12, .arr (.s .node) true)]⟩
def y79 : Tmpl := ⟨[(1, .c (.bx 1 0)), (2, .c (.bx 2 0)), (3, .c (.bx 3 0))], [(1, .boxT (.s .house)), (2, .box [.nl, .nl, .nl, .nl]), (3, .box [.ref 510300, .ref 9, .ref 12, .nl]), (510300, .arr (.s .net) true), (9, .arr .I true), (12, .arr (.s .node) true)]⟩
def w4f (av : AV) (x : HP z0v.ps) (n : Nat) (v : ya7.den) (K : Ks (CR z0v)) : Option (CR z0v) := z5x v.2.1 (fun l0_1 => y79.at none (((), (), (), ()), (v.2.1, ((), (), (), (), ()), ((), (), (), (), ()), l0_1, v.2.2.2.2.2.1, v.2.2.2.2.2.2.1, ())) (K (.exit 0))) n v.1.2.2.2.1 v.2.2.2.2.1
def y8g (av : AV) (x : HP z0v.ps) : Hdl (CR z0v) := hnd [.b 3 0 510300 (.s .net)] ya7 (w4f av x)
theorem w69 : LP z0v Tryz.f135 [0] y8g := lp_ok (W := []) (H := []) (xs := [y79]) y4d trivial rfl (fun av x v K => by kernel_rfl) (fun av x n v K => by kernel_rfl)
def ya8 : Tmpl := ⟨[(1, .c (.bx 1 0)), (2, .c (.bx 2 0)), (3, .c (.bx 3 0)), (5, .c .i)], [(1, .boxT (.s .house)), (2, .box [.nl, .nl, .nl, .nl]), (3, .box [.ref 510300, .ref 9, .ref 12, .ref 510303]), (510300, .arr (.s .net) true), (9, .arr .I true), (12, .arr (.s .node) true), (510303, .arr (.s .run) true)]⟩
def y7a : Tmpl := ⟨[(2, .c (.bx 2 0)), (3, .c (.bx 3 0))], [(2, .box [.nl, .nl, .nl, .nl]), (3, .box [.ref 510300, .ref 9, .ref 12, .ref 510303]), (510300, .arr (.s .net) true), (9, .arr .I true), (12, .arr (.s .node) true), (510303, .arr (.s .run) true)]⟩
def w4g (av : AV) (x : HP z0v.ps) (n : Nat) (v : ya8.den) (K : Ks (CR z0v)) : Option (CR z0v) := z5y v.2.1 (fun l1_1 => y7a.at none (((), (), ()), (((), (), (), (), ()), ((), (), (), (), ()), v.2.2.2.2.1, v.2.2.2.2.2.1, v.2.2.2.2.2.2.1, l1_1, ())) (K (.exit 2))) n v.1.2.2.2.1 v.2.2.2.2.2.2.2.1
def y8h (av : AV) (x : HP z0v.ps) : Hdl (CR z0v) := hnd [.b 3 3 510303 (.s .run)] ya8 (w4g av x)
theorem w6a : LP z0v Tryz.f135 [1] y8h := lp_ok (W := []) (H := []) (xs := [y7a]) y4d trivial rfl (fun av x v K => by kernel_rfl) (fun av x n v K => by kernel_rfl)
theorem y57 : z0v.Ok Tryz.prog := fn_ok (k := z0v) (fn := Tryz.f135) (W := []) (H := [y8g, y8h]) Tryz.func135 y4d ⟨w69, w6a, trivial⟩ rfl rfl (fun av x => by kernel_rfl)
def zw2 (r : GReq) : Option GReq := if decide (r.kind = 1) = true then (some (GReq.mk r.kind 0 0 0 0 0 r.data (GAsk.mk 0 0 0) 0)) else (if decide (r.kind = 2) = true then (some (GReq.mk r.kind r.who r.case r.task 0 0 [] (GAsk.mk 0 0 0) 0)) else (if decide (r.kind = 3) = true then (some (GReq.mk r.kind 0 r.case r.task r.var r.num [] (GAsk.mk 0 0 0) 0)) else (if decide (r.kind = 4) = true then (some (GReq.mk r.kind 0 r.case 0 0 0 [] (GAsk.mk 0 0 0) 0)) else (if decide (r.kind = 5) = true then (some (GReq.mk r.kind 0 0 0 0 0 r.data r.if_ r.ans)) else (some (GReq.mk r.kind 0 0 0 0 0 [] (GAsk.mk 0 0 0) 0))))))
def y4u : Con := ⟨137, [.v (.s .req) false], [((.s .req), false)], [], fun x => zw2 x.1⟩
def wk2 : Fs := ⟨[], [], []⟩
theorem wm8 : wk2.Ok Tryz.prog := fs0
theorem wr0 : y4u.Ok Tryz.prog := fn_ok (k := y4u) (fn := Tryz.f137) (W := []) (H := []) Tryz.func137 wm8 trivial rfl rfl (fun av x => by kernel_rfl)
def z50 (a : GReq) (b : GReq) : Option Bool := if decide (a.kind = b.kind) = true then (if decide (a.who = b.who) = true then (if decide (a.case = b.case) = true then (if decide (a.task = b.task) = true then (if decide (a.var = b.var) = true then (if decide (a.num = b.num) = true then (if decide ([a.if_.op, a.if_.var, a.if_.k] = [b.if_.op, b.if_.var, b.if_.k]) = true then (some (decide (a.ans = b.ans))) else (some false)) else (some false)) else (some false)) else (some false)) else (some false)) else (some false)) else (some false)
def z3i (a : GReq) (b : GReq) (kx0_0 : Option Bool) : Nat → Int → Option Bool
  | 0, _ => none
  | n0 + 1, s0_0 => if decide (s0_0 < (a.data.length : Int)) = true then ((getI a.data s0_0).bind fun x3 => ((getI b.data s0_0).bind fun x4 => (if decide (x3 = x4) = true then (gd (ok64 (s0_0 + 1)) ((z3i a b kx0_0 n0) (s0_0 + 1))) else (some false)))) else (kx0_0)
def zw3 (a : GReq) (b : GReq) : Option Bool := if decide ((a.data.length : Int) = (b.data.length : Int)) = true then (z3i a b (z50 a b) FUEL 0) else (some false)
def z59 : Con := ⟨136, [.v (.s .req) false, .v (.s .req) false], [(.B, true)], [], fun x => zw3 x.1 x.2.1⟩
def wk4 : Fs := ⟨[], [], []⟩
theorem ys4 : wk4.Ok Tryz.prog := fs0
def yb0 : Tmpl := ⟨[(2, .c (.bx 2 0)), (3, .c (.bx 3 0)), (5, .c .i)], [(2, .boxT (.s .req)), (3, .boxT (.s .req))]⟩
def y7c : Tmpl := ⟨[(2, .c (.bx 2 0)), (3, .c (.bx 3 0))], [(2, .boxT (.s .req)), (3, .boxT (.s .req))]⟩
def w4i (av : AV) (x : HP z59.ps) (n : Nat) (v : yb0.den) (K : Ks (CR z59)) : Option (CR z59) := z3i v.2.1 v.2.2.1 (y7c.at none (((), (), ()), (v.2.1, v.2.2.1, ())) (K (.exit 0))) n v.1.2.2.1
def y8j (av : AV) (x : HP z59.ps) : Hdl (CR z59) := hnd [] yb0 (w4i av x)
theorem w6c : LP z59 Tryz.f136 [0] y8j := lp_ok (W := []) (H := []) (xs := [y7c]) ys4 trivial rfl (fun av x v K => by kernel_rfl) (fun av x n v K => by kernel_rfl)
theorem wr1 : z59.Ok Tryz.prog := fn_ok (k := z59) (fn := Tryz.f136) (W := []) (H := [y8j]) Tryz.func136 ys4 ⟨w6c, trivial⟩ rfl rfl (fun av x => by kernel_rfl)
def z5n (r : GReq) : Option Bool := (z03 r.kind 1 5).bind fun x1 => (if x1 = true then ((zw2 r).bind fun x3 => ((zw3 r x3).bind fun x4 => (if x4 = true then ((z03 r.who 0 4).bind fun x6 => (if x6 = true then ((z03 r.case 0 4).bind fun x8 => (if x8 = true then ((z03 r.task 0 5).bind fun x10 => (if x10 = true then ((z03 r.var (-1) 2).bind fun x12 => (if x12 = true then ((z03 r.num (-99) 99).bind fun x14 => (if x14 = true then ((z6c r.if_).bind fun x16 => (if x16 = true then ((z03 r.ans 0 2).bind fun x18 => (if x18 = true then (if decide (r.kind = 1) = true then ((z2o r.data).bind fun x21 => (some (true == x21))) else ((z2o r.data).bind fun x22 => (some ((decide (r.kind = 5)) == x22)))) else (some false))) else (some false))) else (some false))) else (some false))) else (some false))) else (some false))) else (some false))) else (some false)))) else (some false))
def z6r : Con := ⟨63, [.v (.s .req) false], [(.B, true)], [], fun x => z5n x.1⟩
def w50 : Fs := ⟨[z0m, y4u, z59, z8m, z17], [], []⟩
theorem w5n : w50.Ok Tryz.prog := (fsK z0u (fsK wr0 (fsK wr1 (fsK zq3 (fsK z6j fs0)))))
theorem zi7 : z6r.Ok Tryz.prog := fn_ok (k := z6r) (fn := Tryz.f63) (W := []) (H := []) Tryz.func63 w5n trivial rfl rfl (fun av x => by kernel_rfl)
def zw1 (h : GHouse) (r : GReq) : Option (GHouse × Int) := if decide ((h.runs.length : Int) ≤ r.case) = true then (some (h, 2)) else ((getI h.runs r.case).bind fun x2 => ((getI h.nets x2.net).bind fun x3 => (if decide (r.kind = 2) = true then ((z70 x3 h.people x2.case r.task r.who).bind fun x5 => (if x5.2 = true then ((getI h.runs r.case).bind fun x7 => (some ((GHouse.mk h.nets h.people h.tree (h.runs.set r.case.toNat (GRun.mk x7.net x5.1))), 1))) else (some (h, 3)))) else (if decide (r.kind = 3) = true then ((z9y x3 x2.case r.task r.var r.num).bind fun x9 => (if x9.2 = true then ((getI h.runs r.case).bind fun x11 => (some ((GHouse.mk h.nets h.people h.tree (h.runs.set r.case.toNat (GRun.mk x11.net x9.1))), 1))) else (some (h, 3)))) else ((zn6 x3 x2.case).bind fun x12 => (if x12.2 = true then ((getI h.runs r.case).bind fun x14 => (some ((GHouse.mk h.nets h.people h.tree (h.runs.set r.case.toNat (GRun.mk x14.net x12.1))), 1))) else (some (h, 3))))))))
def y4t : Con := ⟨188, [.v (.s .house) true, .v (.s .req) false], [((.s .house), true), (.I, true)], [], fun x => zw1 x.1 x.2.1⟩
def wj9 : Fs := ⟨[zf4, zn1, y1h], [], []⟩
theorem wm7 : wj9.Ok Tryz.prog := (fsK y9l (fsK yj0 (fsK wa9 fs0)))
theorem wq9 : y4t.Ok Tryz.prog := fn_ok (k := y4t) (fn := Tryz.f188) (W := []) (H := []) Tryz.func188 wm7 trivial rfl rfl (fun av x => by kernel_rfl)
def zm5 (h : GHouse) (r : GReq) : Option (GHouse × Int) := if decide (r.kind = 1) = true then (if decide ((h.runs.length : Int) = 5) = true then (some (h, 4)) else ((zv4 h.tree r.data).bind fun x3 => (if decide ((h.nets.length : Int) ≤ x3) = true then ((getI h.nets 0).bind fun x5 => ((z9b x5 r.data).bind fun x6 => (gd (h.runs.length + [(GRun.mk 0 x6)].length ≤ SMALL) (some ((GHouse.mk h.nets h.people h.tree (h.runs ++ [(GRun.mk 0 x6)])), 1))))) else ((getI h.nets x3).bind fun x8 => ((z9b x8 r.data).bind fun x9 => (gd (h.runs.length + [(GRun.mk x3 x9)].length ≤ SMALL) (some ((GHouse.mk h.nets h.people h.tree (h.runs ++ [(GRun.mk x3 x9)])), 1)))))))) else (if decide (r.kind = 5) = true then ((z7q h.tree r.data r.if_ r.ans).bind fun x12 => (if x12.2 = true then (some ((GHouse.mk h.nets h.people x12.1 h.runs), 1)) else (some (h, 3)))) else ((zw1 h r).bind fun x14 => (some (x14.1, x14.2))))
def zy2 : Con := ⟨134, [.v (.s .house) true, .v (.s .req) false], [((.s .house), true), (.I, true)], [], fun x => zm5 x.1 x.2.1⟩
def v2e : Fs := ⟨[y4n, zt8, z43, y4t], [], []⟩
theorem v2i : v2e.Ok Tryz.prog := (fsK wq2 (fsK yu2 (fsK yu7 (fsK wq9 fs0))))
theorem yo7 : zy2.Ok Tryz.prog := fn_ok (k := zy2) (fn := Tryz.f134) (W := []) (H := []) Tryz.func134 v2i trivial rfl rfl (fun av x => by kernel_rfl)
def z7i (r : GReq) : Option GReq := (z0g r.data).bind fun x1 => (some (GReq.mk r.kind r.who r.case r.task r.var r.num x1 r.if_ r.ans))
def zb7 : Con := ⟨149, [.v (.s .req) false], [((.s .req), true)], [], fun x => z7i x.1⟩
def yl8 : Fs := ⟨[z1b], [], []⟩
theorem ym5 : yl8.Ok Tryz.prog := (fsK z2k fs0)
theorem yo2 : zb7.Ok Tryz.prog := fn_ok (k := zb7) (fn := Tryz.f149) (W := []) (H := []) Tryz.func149 ym5 trivial rfl rfl (fun av x => by kernel_rfl)
def z6u (x1 : (List Int)) (x2 : (List GNode)) (l0_1 : List GNet) (l1_1 : List GRun) : Option GHouse := some (GHouse.mk l0_1 x1 x2 l1_1)
def z1n (p1_0 : List GRun) (p1_1 : Int) (kx1_0 : List GRun → Option GHouse) : Nat → Int → List GRun → Option GHouse
  | 0, _, _ => none
  | n1 + 1, s1_0, l1_1 => if decide (s1_0 < p1_1) = true then ((getI p1_0 s1_0).bind fun x9 => ((z08 x9.case).bind fun x10 => (gd (l1_1.length + [(GRun.mk x9.net x10)].length ≤ SMALL) (gd (ok64 (s1_0 + 1)) ((z1n p1_0 p1_1 kx1_0 n1) (s1_0 + 1) (l1_1 ++ [(GRun.mk x9.net x10)])))))) else (kx1_0 l1_1)
def z4n (h : GHouse) (x1 : (List Int)) (x2 : (List GNode)) (l0_1 : List GNet) : Option GHouse := z1n h.runs (h.runs.length : Int) (z6u x1 x2 l0_1) FUEL 0 ([] : List GRun)
def z1m (p0_0 : List GNet) (p0_1 : Int) (kx0_0 : List GNet → Option GHouse) : Nat → Int → List GNet → Option GHouse
  | 0, _, _ => none
  | n0 + 1, s0_0, l0_1 => if decide (s0_0 < p0_1) = true then ((getI p0_0 s0_0).bind fun x4 => ((z7k x4).bind fun x5 => (gd (l0_1.length + [x5].length ≤ SMALL) (gd (ok64 (s0_0 + 1)) ((z1m p0_0 p0_1 kx0_0 n0) (s0_0 + 1) (l0_1 ++ [x5])))))) else (kx0_0 l0_1)
def z2n (h : GHouse) : Option GHouse := (z0g h.people).bind fun x1 => ((z6y h.tree).bind fun x2 => (z1m h.nets (h.nets.length : Int) (z4n h x1 x2) FUEL 0 ([] : List GNet)))
def z09 : Con := ⟨132, [.v (.s .house) false], [((.s .house), true)], [], fun x => z2n x.1⟩
def y7n : Fs := ⟨[z1b, z1f, z19, z36], [], []⟩
theorem z8h : y7n.Ok Tryz.prog := (fsK z2k (fsK y33 (fsK yo4 (fsK z6q fs0))))
def zj2 : Tmpl := ⟨[(1, .c (.bx 1 0)), (2, .c (.bx 2 0)), (3, .c (.bx 3 0)), (16, .c (.s (.s .net))), (17, .c .i), (18, .c .i)], [(1, .boxT (.s .house)), (2, .box [.nl, .nl, .nl, .nl]), (3, .box [.ref 510300, .ref 10, .ref 13, .nl]), (510300, .arr (.s .net) true), (10, .arr .I true), (13, .arr (.s .node) true)]⟩
def zd2 : Tmpl := ⟨[(1, .c (.bx 1 0)), (2, .c (.bx 2 0)), (3, .c (.bx 3 0))], [(1, .boxT (.s .house)), (2, .box [.nl, .nl, .nl, .nl]), (3, .box [.ref 510300, .ref 10, .ref 13, .nl]), (510300, .arr (.s .net) true), (10, .arr .I true), (13, .arr (.s .node) true)]⟩
def y42 (av : AV) (x : HP z09.ps) (n : Nat) (v : zj2.den) (K : Ks (CR z09)) : Option (CR z09) := z1m v.1.2.2.2.1 v.1.2.2.2.2.1 (fun l0_1 => zd2.at none (((), (), (), ()), (v.2.1, ((), (), (), (), ()), ((), (), (), (), ()), l0_1, v.2.2.2.2.2.1, v.2.2.2.2.2.2.1, ())) (K (.exit 0))) n v.1.2.2.2.2.2.1 v.2.2.2.2.1
def ze1 (av : AV) (x : HP z09.ps) : Hdl (CR z09) := hnd [.b 3 0 510300 (.s .net)] zj2 (y42 av x)
theorem y4v : LP z09 Tryz.f132 [0] ze1 := lp_ok (W := []) (H := []) (xs := [zd2]) z8h trivial rfl (fun av x v K => by kernel_rfl) (fun av x n v K => by kernel_rfl)
def zj3 : Tmpl := ⟨[(2, .c (.bx 2 0)), (3, .c (.bx 3 0)), (31, .c (.s (.s .run))), (32, .c .i), (33, .c .i)], [(2, .box [.nl, .nl, .nl, .nl]), (3, .box [.ref 510300, .ref 10, .ref 13, .ref 510303]), (510300, .arr (.s .net) true), (10, .arr .I true), (13, .arr (.s .node) true), (510303, .arr (.s .run) true)]⟩
def zd3 : Tmpl := ⟨[(2, .c (.bx 2 0)), (3, .c (.bx 3 0))], [(2, .box [.nl, .nl, .nl, .nl]), (3, .box [.ref 510300, .ref 10, .ref 13, .ref 510303]), (510300, .arr (.s .net) true), (10, .arr .I true), (13, .arr (.s .node) true), (510303, .arr (.s .run) true)]⟩
def y43 (av : AV) (x : HP z09.ps) (n : Nat) (v : zj3.den) (K : Ks (CR z09)) : Option (CR z09) := z1n v.1.2.2.1 v.1.2.2.2.1 (fun l1_1 => zd3.at none (((), (), ()), (((), (), (), (), ()), ((), (), (), (), ()), v.2.2.2.1, v.2.2.2.2.1, v.2.2.2.2.2.1, l1_1, ())) (K (.exit 2))) n v.1.2.2.2.2.1 v.2.2.2.2.2.2.1
def ze2 (av : AV) (x : HP z09.ps) : Hdl (CR z09) := hnd [.b 3 3 510303 (.s .run)] zj3 (y43 av x)
theorem y4w : LP z09 Tryz.f132 [1] ze2 := lp_ok (W := []) (H := []) (xs := [zd3]) z8h trivial rfl (fun av x v K => by kernel_rfl) (fun av x n v K => by kernel_rfl)
theorem y9d : z09.Ok Tryz.prog := fn_ok (k := z09) (fn := Tryz.f132) (W := []) (H := [ze1, ze2]) Tryz.func132 z8h ⟨y4v, y4w, trivial⟩ rfl rfl (fun av x => by kernel_rfl)
def y92  : Option Bool := some true
def z74 (log : List GReq) (kx0_0 : Option Bool) : Nat → Int → Option Bool
  | 0, _ => none
  | n0 + 1, s0_0 => if decide (s0_0 < (log.length : Int)) = true then ((getI log s0_0).bind fun x3 => ((z5n x3).bind fun x4 => (if x4 = true then (gd (ok64 (s0_0 + 1)) ((z74 log kx0_0 n0) (s0_0 + 1))) else (some false)))) else (kx0_0)
def y0h (log : List GReq) : Option Bool := if decide (150 < (log.length : Int)) = true then (some false) else (z74 log y92 FUEL 0)
def z65 : Con := ⟨77, [.v (.sl (.s .req)) false], [(.B, true)], [], fun x => y0h x.1⟩
def wx4 : Fs := ⟨[z6r], [], []⟩
theorem w1b : wx4.Ok Tryz.prog := (fsK zi7 fs0)
def yk2 : Tmpl := ⟨[(0, .c (.s (.s .req))), (3, .c .i)], []⟩
def yc0 : Tmpl := ⟨[], []⟩
def w7t (av : AV) (x : HP z65.ps) (n : Nat) (v : yk2.den) (K : Ks (CR z65)) : Option (CR z65) := z74 v.1.1 (yc0.at none ((), ()) (K (.exit 0))) n v.1.2.1
def yi0 (av : AV) (x : HP z65.ps) : Hdl (CR z65) := hnd [] yk2 (w7t av x)
theorem w9o : LP z65 Tryz.f77 [0] yi0 := lp_ok (W := []) (H := []) (xs := [yc0]) w1b trivial rfl (fun av x v K => by kernel_rfl) (fun av x n v K => by kernel_rfl)
theorem v0q : z65.Ok Tryz.prog := fn_ok (k := z65) (fn := Tryz.f77) (W := []) (H := [yi0]) Tryz.func77 w1b ⟨w9o, trivial⟩ rfl rfl (fun av x => by kernel_rfl)
def zv5 (r : GReq) : Option GReq := gd (([] : List Int).length + r.data.length ≤ SMALL) (some (GReq.mk r.kind r.who r.case r.task r.var r.num (([] : List Int) ++ r.data) r.if_ r.ans))
def y4o : Con := ⟨150, [.v (.s .req) false], [((.s .req), true)], [], fun x => zv5 x.1⟩
def wi7 : Fs := ⟨[], [], []⟩
theorem wl9 : wi7.Ok Tryz.prog := fs0
theorem wq3 : y4o.Ok Tryz.prog := fn_ok (k := y4o) (fn := Tryz.f150) (W := []) (H := []) Tryz.func150 wl9 trivial rfl rfl (fun av x => by kernel_rfl)
def y63 (l0_1 : List Int) (l0_2 : List GReq) (l0_3 : List GNode) (l0_4 : List GNet) (l0_5 : List GRun) : Option (GHouse × (List GReq)) := some ((GHouse.mk l0_4 l0_1 l0_3 l0_5), l0_2)
def z4w (reqs : List GReq) (kx0_0 : List Int → List GReq → List GNode → List GNet → List GRun → Option (GHouse × (List GReq))) : Nat → Int → List Int → List GReq → List GNode → List GNet → List GRun → Option (GHouse × (List GReq))
  | 0, _, _, _, _, _, _ => none
  | n0 + 1, s0_0, l0_1, l0_2, l0_3, l0_4, l0_5 => if decide (s0_0 < (reqs.length : Int)) = true then ((z6h (GHouse.mk l0_4 l0_1 l0_3 l0_5)).bind fun x7 => ((getI reqs s0_0).bind fun x8 => ((zm5 x7 x8).bind fun x9 => (if decide (x9.2 = 1) = true then ((getI reqs s0_0).bind fun x11 => ((zv5 x11).bind fun x12 => (gd (l0_2.length + [x12].length ≤ SMALL) (gd (ok64 (s0_0 + 1)) ((z4w reqs kx0_0 n0) (s0_0 + 1) x9.1.people (l0_2 ++ [x12]) x9.1.tree x9.1.nets x9.1.runs))))) else (gd (ok64 (s0_0 + 1)) ((z4w reqs kx0_0 n0) (s0_0 + 1) l0_1 l0_2 l0_3 l0_4 l0_5)))))) else (kx0_0 l0_1 l0_2 l0_3 l0_4 l0_5)
def zv1 (h : GHouse) (reqs : List GReq) : Option (GHouse × (List GReq)) := (y0g h).bind fun x1 => (if x1 = true then ((y0h reqs).bind fun x3 => (if x3 = true then ((z6h h).bind fun x5 => (z4w reqs y63 FUEL 0 x5.people ([] : List GReq) x5.tree x5.nets x5.runs)) else (some ((GHouse.mk [] [] [] []), ([] : List GReq))))) else (some ((GHouse.mk [] [] [] []), ([] : List GReq))))
def z55 : Con := ⟨75, [.v (.s .house) false, .v (.sl (.s .req)) false], [((.s .house), true), ((.sl (.s .req)), true)], [], fun x => zv1 x.1 x.2.1⟩
def wi1 : Fs := ⟨[z64, z65, z0v, zy2, y4o], [], []⟩
theorem yr5 : wi1.Ok Tryz.prog := (fsK v0p (fsK v0q (fsK y57 (fsK yo7 (fsK wq3 fs0)))))
def y9y : Tmpl := ⟨[(1, .c (.s (.s .req))), (4, .c (.bx 4 0)), (6, .c (.ref 11)), (7, .c (.bx 7 0)), (8, .c .i)], [(4, .box [.nl, .nl, .nl, .nl]), (7, .box [.ref 23, .ref 10023, .ref 20023, .ref 30023]), (11, .arr (.s .req) true), (23, .arr (.s .net) true), (10023, .arr .I true), (20023, .arr (.s .node) true), (30023, .arr (.s .run) true)]⟩
def y71 : Tmpl := ⟨[(4, .c (.bx 4 0)), (6, .c (.ref 11)), (7, .c (.bx 7 0))], [(4, .box [.nl, .nl, .nl, .nl]), (7, .box [.ref 23, .ref 10023, .ref 20023, .ref 30023]), (11, .arr (.s .req) true), (23, .arr (.s .net) true), (10023, .arr .I true), (20023, .arr (.s .node) true), (30023, .arr (.s .run) true)]⟩
def w46 (av : AV) (x : HP z55.ps) (n : Nat) (v : y9y.den) (K : Ks (CR z55)) : Option (CR z55) := z4w v.1.1 (fun l0_1 l0_2 l0_3 l0_4 l0_5 => y71.at none (((), (), (), ()), (((), (), (), (), ()), ((), (), (), (), ()), l0_2, l0_4, l0_1, l0_3, l0_5, ())) (K (.exit 0))) n v.1.2.2.2.2.1 v.2.2.2.2.2.1 v.2.2.2.1 v.2.2.2.2.2.2.1 v.2.2.2.2.1 v.2.2.2.2.2.2.2.1
def y87 (av : AV) (x : HP z55.ps) : Hdl (CR z55) := hnd [] y9y (w46 av x)
theorem w60 : LP z55 Tryz.f75 [0] y87 := lp_ok (W := []) (H := []) (xs := [y71]) yr5 trivial rfl (fun av x v K => by kernel_rfl) (fun av x n v K => by kernel_rfl)
theorem wp9 : z55.Ok Tryz.prog := fn_ok (k := z55) (fn := Tryz.f75) (W := []) (H := [y87]) Tryz.func75 yr5 ⟨w60, trivial⟩ rfl rfl (fun av x => by kernel_rfl)
def y62  : Option Int := some (-1)
def z5r (s : List Int) (p : Int → Option Bool) (p0_0 : Int) (kx0_0 : Option Int) : Nat → Int → Option Int
  | 0, _ => none
  | n0 + 1, s0_0 => if decide (s0_0 < p0_0) = true then ((getI s s0_0).bind fun x2 => ((p x2).bind fun x3 => (if x3 = true then (some s0_0) else (gd (ok64 (s0_0 + 1)) ((z5r s p p0_0 kx0_0 n0) (s0_0 + 1)))))) else (kx0_0)
def zu1 (s : List Int) (p : Int → Option Bool) : Option Int := z5r s p (s.length : Int) y62 FUEL 0
def z3z : Con := ⟨175, [.v (.sl .I) false, .fn .I], [(.I, true)], [], fun x => zu1 x.1 x.2.1⟩
def wg5 : Fs := ⟨[], [], []⟩
theorem yq8 : wg5.Ok Tryz.prog := fs0
def y9u : Tmpl := ⟨[(0, .c (.s .I)), (1, .c .fp), (7, .c .i), (8, .c .i)], []⟩
def y6x : Tmpl := ⟨[], []⟩
def w42 (av : AV) (x : HP z3z.ps) (n : Nat) (v : y9u.den) (K : Ks (CR z3z)) : Option (CR z3z) := z5r v.1.1 x.2.1 v.1.2.2.1 (y6x.at (fpOf z3z.ps x av) ((), ()) (K (.exit 0))) n v.1.2.2.2.1
def y83 (av : AV) (x : HP z3z.ps) : Hdl (CR z3z) := hnd [] y9u (w42 av x)
theorem w5w : LP z3z Tryz.f175 [0] y83 := lp_ok (W := []) (H := []) (xs := [y6x]) yq8 trivial rfl (fun av x v K => by kernel_rfl) (fun av x n v K => by kernel_rfl)
theorem wo7 : z3z.Ok Tryz.prog := fn_ok (k := z3z) (fn := Tryz.f175) (W := []) (H := [y83]) Tryz.func175 yq8 ⟨w5w, trivial⟩ rfl rfl (fun av x => by kernel_rfl)
def z2g (s : List Int) (p : Int → Option Bool) : Option Bool := (zu1 s p).bind fun x1 => (some (decide (0 ≤ x1)))
def z4u : Con := ⟨118, [.v (.sl .I) false, .fn .I], [(.B, true)], [], fun x => z2g x.1 x.2.1⟩
def w2n : Fs := ⟨[z3z], [], []⟩
theorem w2u : w2n.Ok Tryz.prog := (fsK wo7 fs0)
theorem z81 : z4u.Ok Tryz.prog := fn_ok (k := z4u) (fn := Tryz.f118) (W := []) (H := []) Tryz.func118 w2u trivial rfl rfl (fun av x => by kernel_rfl)
def zy5  : Option Int := some (-1)
def z3m (s : List GReq) (p : GReq → Option Bool) (p0_0 : Int) (kx0_0 : Option Int) : Nat → Int → Option Int
  | 0, _ => none
  | n0 + 1, s0_0 => if decide (s0_0 < p0_0) = true then ((getI s s0_0).bind fun x2 => ((p x2).bind fun x3 => (if x3 = true then (some s0_0) else (gd (ok64 (s0_0 + 1)) ((z3m s p p0_0 kx0_0 n0) (s0_0 + 1)))))) else (kx0_0)
def za9 (s : List GReq) (p : GReq → Option Bool) : Option Int := z3m s p (s.length : Int) zy5 FUEL 0
def z1x : Con := ⟨212, [.v (.sl (.s .req)) false, .fn (.s .req)], [(.I, true)], [], fun x => za9 x.1 x.2.1⟩
def w2p : Fs := ⟨[], [], []⟩
theorem y5h : w2p.Ok Tryz.prog := fs0
def y0t : Tmpl := ⟨[(0, .c (.s (.s .req))), (1, .c .fp), (7, .c .i), (8, .c .i)], []⟩
def y00 : Tmpl := ⟨[], []⟩
def yp4 (av : AV) (x : HP z1x.ps) (n : Nat) (v : y0t.den) (K : Ks (CR z1x)) : Option (CR z1x) := z3m v.1.1 x.2.1 v.1.2.2.1 (y00.at (fpOf z1x.ps x av) ((), ()) (K (.exit 0))) n v.1.2.2.2.1
def y08 (av : AV) (x : HP z1x.ps) : Hdl (CR z1x) := hnd [] y0t (yp4 av x)
theorem yt0 : LP z1x Tryz.f212 [0] y08 := lp_ok (W := []) (H := []) (xs := [y00]) y5h trivial rfl (fun av x v K => by kernel_rfl) (fun av x n v K => by kernel_rfl)
theorem w3i : z1x.Ok Tryz.prog := fn_ok (k := z1x) (fn := Tryz.f212) (W := []) (H := [y08]) Tryz.func212 y5h ⟨yt0, trivial⟩ rfl rfl (fun av x => by kernel_rfl)
def z7h (s : List GReq) (p : GReq → Option Bool) : Option Bool := (za9 s p).bind fun x1 => (some (decide (0 ≤ x1)))
def zb6 : Con := ⟨193, [.v (.sl (.s .req)) false, .fn (.s .req)], [(.B, true)], [], fun x => z7h x.1 x.2.1⟩
def yl7 : Fs := ⟨[z1x], [], []⟩
theorem ym4 : yl7.Ok Tryz.prog := (fsK w3i fs0)
theorem yo1 : zb6.Ok Tryz.prog := fn_ok (k := zb6) (fn := Tryz.f193) (W := []) (H := []) Tryz.func193 ym4 trivial rfl rfl (fun av x => by kernel_rfl)
def zs2  : Option Int := some (-1)
def z38 (s : List GTask) (p : GTask → Option Bool) (p0_0 : Int) (kx0_0 : Option Int) : Nat → Int → Option Int
  | 0, _ => none
  | n0 + 1, s0_0 => if decide (s0_0 < p0_0) = true then ((getI s s0_0).bind fun x2 => ((p x2).bind fun x3 => (if x3 = true then (some s0_0) else (gd (ok64 (s0_0 + 1)) ((z38 s p p0_0 kx0_0 n0) (s0_0 + 1)))))) else (kx0_0)
def z96 (s : List GTask) (p : GTask → Option Bool) : Option Int := z38 s p (s.length : Int) zs2 FUEL 0
def z1e : Con := ⟨176, [.v (.sl (.s .task)) false, .fn (.s .task)], [(.I, true)], [], fun x => z96 x.1 x.2.1⟩
def yy7 : Fs := ⟨[], [], []⟩
theorem y2b : yy7.Ok Tryz.prog := fs0
def zz4 : Tmpl := ⟨[(0, .c (.s (.s .task))), (1, .c .fp), (7, .c .i), (8, .c .i)], []⟩
def zs7 : Tmpl := ⟨[], []⟩
def yl0 (av : AV) (x : HP z1e.ps) (n : Nat) (v : zz4.den) (K : Ks (CR z1e)) : Option (CR z1e) := z38 v.1.1 x.2.1 v.1.2.2.1 (zs7.at (fpOf z1e.ps x av) ((), ()) (K (.exit 0))) n v.1.2.2.2.1
def zx4 (av : AV) (x : HP z1e.ps) : Hdl (CR z1e) := hnd [] zz4 (yl0 av x)
theorem yn2 : LP z1e Tryz.f176 [0] zx4 := lp_ok (W := []) (H := []) (xs := [zs7]) y2b trivial rfl (fun av x v K => by kernel_rfl) (fun av x n v K => by kernel_rfl)
theorem w0o : z1e.Ok Tryz.prog := fn_ok (k := z1e) (fn := Tryz.f176) (W := []) (H := [zx4]) Tryz.func176 y2b ⟨yn2, trivial⟩ rfl rfl (fun av x => by kernel_rfl)
def z6n (s : List GTask) (p : GTask → Option Bool) : Option Bool := (z96 s p).bind fun x1 => (some (decide (0 ≤ x1)))
def z9o : Con := ⟨123, [.v (.sl (.s .task)) false, .fn (.s .task)], [(.B, true)], [], fun x => z6n x.1 x.2.1⟩
def ye5 : Fs := ⟨[z1e], [], []⟩
theorem yf1 : ye5.Ok Tryz.prog := (fsK w0o fs0)
theorem yf6 : z9o.Ok Tryz.prog := fn_ok (k := z9o) (fn := Tryz.f123) (W := []) (H := []) Tryz.func123 yf1 trivial rfl rfl (fun av x => by kernel_rfl)
def zy4  : Option Int := some (-1)
def z3l (s : List GNet) (p : GNet → Option Bool) (p0_0 : Int) (kx0_0 : Option Int) : Nat → Int → Option Int
  | 0, _ => none
  | n0 + 1, s0_0 => if decide (s0_0 < p0_0) = true then ((getI s s0_0).bind fun x2 => ((p x2).bind fun x3 => (if x3 = true then (some s0_0) else (gd (ok64 (s0_0 + 1)) ((z3l s p p0_0 kx0_0 n0) (s0_0 + 1)))))) else (kx0_0)
def za8 (s : List GNet) (p : GNet → Option Bool) : Option Int := z3l s p (s.length : Int) zy4 FUEL 0
def z1w : Con := ⟨180, [.v (.sl (.s .net)) false, .fn (.s .net)], [(.I, true)], [], fun x => za8 x.1 x.2.1⟩
def w2o : Fs := ⟨[], [], []⟩
theorem y5g : w2o.Ok Tryz.prog := fs0
def y0s : Tmpl := ⟨[(0, .c (.s (.s .net))), (1, .c .fp), (7, .c .i), (8, .c .i)], []⟩
def zz9 : Tmpl := ⟨[], []⟩
def yp3 (av : AV) (x : HP z1w.ps) (n : Nat) (v : y0s.den) (K : Ks (CR z1w)) : Option (CR z1w) := z3l v.1.1 x.2.1 v.1.2.2.1 (zz9.at (fpOf z1w.ps x av) ((), ()) (K (.exit 0))) n v.1.2.2.2.1
def y07 (av : AV) (x : HP z1w.ps) : Hdl (CR z1w) := hnd [] y0s (yp3 av x)
theorem ys9 : LP z1w Tryz.f180 [0] y07 := lp_ok (W := []) (H := []) (xs := [zz9]) y5g trivial rfl (fun av x v K => by kernel_rfl) (fun av x n v K => by kernel_rfl)
theorem w3h : z1w.Ok Tryz.prog := fn_ok (k := z1w) (fn := Tryz.f180) (W := []) (H := [y07]) Tryz.func180 y5g ⟨ys9, trivial⟩ rfl rfl (fun av x => by kernel_rfl)
def z7g (s : List GNet) (p : GNet → Option Bool) : Option Bool := (za8 s p).bind fun x1 => (some (decide (0 ≤ x1)))
def zb5 : Con := ⟨126, [.v (.sl (.s .net)) false, .fn (.s .net)], [(.B, true)], [], fun x => z7g x.1 x.2.1⟩
def yl6 : Fs := ⟨[z1w], [], []⟩
theorem ym3 : yl6.Ok Tryz.prog := (fsK w3h fs0)
theorem yo0 : zb5.Ok Tryz.prog := fn_ok (k := zb5) (fn := Tryz.f126) (W := []) (H := []) Tryz.func126 ym3 trivial rfl rfl (fun av x => by kernel_rfl)
def zs1  : Option Int := some (-1)
def z37 (s : List GItem) (p : GItem → Option Bool) (p0_0 : Int) (kx0_0 : Option Int) : Nat → Int → Option Int
  | 0, _ => none
  | n0 + 1, s0_0 => if decide (s0_0 < p0_0) = true then ((getI s s0_0).bind fun x2 => ((p x2).bind fun x3 => (if x3 = true then (some s0_0) else (gd (ok64 (s0_0 + 1)) ((z37 s p p0_0 kx0_0 n0) (s0_0 + 1)))))) else (kx0_0)
def z95 (s : List GItem) (p : GItem → Option Bool) : Option Int := z37 s p (s.length : Int) zs1 FUEL 0
def z1d : Con := ⟨169, [.v (.sl (.s .item)) false, .fn (.s .item)], [(.I, true)], [], fun x => z95 x.1 x.2.1⟩
def yy6 : Fs := ⟨[], [], []⟩
theorem y2a : yy6.Ok Tryz.prog := fs0
def zz3 : Tmpl := ⟨[(0, .c (.s (.s .item))), (1, .c .fp), (7, .c .i), (8, .c .i)], []⟩
def zs6 : Tmpl := ⟨[], []⟩
def yk9 (av : AV) (x : HP z1d.ps) (n : Nat) (v : zz3.den) (K : Ks (CR z1d)) : Option (CR z1d) := z37 v.1.1 x.2.1 v.1.2.2.1 (zs6.at (fpOf z1d.ps x av) ((), ()) (K (.exit 0))) n v.1.2.2.2.1
def zx3 (av : AV) (x : HP z1d.ps) : Hdl (CR z1d) := hnd [] zz3 (yk9 av x)
theorem yn1 : LP z1d Tryz.f169 [0] zx3 := lp_ok (W := []) (H := []) (xs := [zs6]) y2a trivial rfl (fun av x v K => by kernel_rfl) (fun av x n v K => by kernel_rfl)
theorem w0n : z1d.Ok Tryz.prog := fn_ok (k := z1d) (fn := Tryz.f169) (W := []) (H := [zx3]) Tryz.func169 y2a ⟨yn1, trivial⟩ rfl rfl (fun av x => by kernel_rfl)
def z6m (s : List GItem) (p : GItem → Option Bool) : Option Bool := (z95 s p).bind fun x1 => (some (decide (0 ≤ x1)))
def z9n : Con := ⟨107, [.v (.sl (.s .item)) false, .fn (.s .item)], [(.B, true)], [], fun x => z6m x.1 x.2.1⟩
def ye4 : Fs := ⟨[z1d], [], []⟩
theorem yf0 : ye4.Ok Tryz.prog := (fsK w0n fs0)
theorem yf5 : z9n.Ok Tryz.prog := fn_ok (k := z9n) (fn := Tryz.f107) (W := []) (H := []) Tryz.func107 yf0 trivial rfl rfl (fun av x => by kernel_rfl)
def w1n  : Option Int := some (-1)
def zc6 (s : List Int) (v : Int) (p0_0 : Int) (kx0_0 : Option Int) : Nat → Int → Option Int
  | 0, _ => none
  | n0 + 1, s0_0 => if decide (s0_0 < p0_0) = true then ((getI s s0_0).bind fun x2 => (if decide (v = x2) = true then (some s0_0) else (gd (ok64 (s0_0 + 1)) ((zc6 s v p0_0 kx0_0 n0) (s0_0 + 1))))) else (kx0_0)
def yt5 (s : List Int) (v : Int) : Option Int := zc6 s v (s.length : Int) w1n FUEL 0
def zf0 : Con := ⟨163, [.v (.sl .I) false, .v .I false], [(.I, true)], [], fun x => yt5 x.1 x.2.1⟩
def v6v : Fs := ⟨[], [], []⟩
theorem wy6 : v6v.Ok Tryz.prog := fs0
def w7f : Tmpl := ⟨[(0, .c (.s .I)), (1, .c .i), (7, .c .i), (8, .c .i)], []⟩
def w22 : Tmpl := ⟨[], []⟩
def v21 (av : AV) (x : HP zf0.ps) (n : Nat) (v : w7f.den) (K : Ks (CR zf0)) : Option (CR zf0) := zc6 v.1.1 v.1.2.1 v.1.2.2.1 (w22.at none ((), ()) (K (.exit 0))) n v.1.2.2.2.1
def w5q (av : AV) (x : HP zf0.ps) : Hdl (CR zf0) := hnd [] w7f (v21 av x)
theorem v2t : LP zf0 Tryz.f163 [0] w5q := lp_ok (W := []) (H := []) (xs := [w22]) wy6 trivial rfl (fun av x v K => by kernel_rfl) (fun av x n v K => by kernel_rfl)
theorem v85 : zf0.Ok Tryz.prog := fn_ok (k := zf0) (fn := Tryz.f163) (W := []) (H := [w5q]) Tryz.func163 wy6 ⟨v2t, trivial⟩ rfl rfl (fun av x => by kernel_rfl)
def zc4 (s : List Int) (v : Int) : Option Bool := (yt5 s v).bind fun x1 => (some (decide (0 ≤ x1)))
def zp3 : Con := ⟨92, [.v (.sl .I) false, .v .I false], [(.B, true)], [], fun x => zc4 x.1 x.2.1⟩
def wv8 : Fs := ⟨[zf0], [], []⟩
theorem wy4 : wv8.Ok Tryz.prog := (fsK v85 fs0)
theorem y9c : zp3.Ok Tryz.prog := fn_ok (k := zp3) (fn := Tryz.f92) (W := []) (H := []) Tryz.func92 wy4 trivial rfl rfl (fun av x => by kernel_rfl)
def y8v  : Option Int := some (-1)
def z6s (s : List GDid) (v : GDid) (p0_0 : Int) (kx0_0 : Option Int) : Nat → Int → Option Int
  | 0, _ => none
  | n0 + 1, s0_0 => if decide (s0_0 < p0_0) = true then ((getI s s0_0).bind fun x2 => (if decide ([v.task, v.who] = [x2.task, x2.who]) = true then (some s0_0) else (gd (ok64 (s0_0 + 1)) ((z6s s v p0_0 kx0_0 n0) (s0_0 + 1))))) else (kx0_0)
def y0e (s : List GDid) (v : GDid) : Option Int := z6s s v (s.length : Int) y8v FUEL 0
def z61 : Con := ⟨204, [.v (.sl (.s .did)) false, .v (.s .did) false], [(.I, true)], [], fun x => y0e x.1 x.2.1⟩
def wv9 : Fs := ⟨[], [], []⟩
theorem w14 : wv9.Ok Tryz.prog := fs0
def yj3 : Tmpl := ⟨[(0, .c (.s (.s .did))), (3, .c (.bx 3 0)), (7, .c .i), (8, .c .i)], [(3, .boxT (.s .did))]⟩
def yb1 : Tmpl := ⟨[], []⟩
def w7k (av : AV) (x : HP z61.ps) (n : Nat) (v : yj3.den) (K : Ks (CR z61)) : Option (CR z61) := z6s v.1.1 v.2.1 v.1.2.2.1 (yb1.at none ((), ()) (K (.exit 0))) n v.1.2.2.2.1
def yh1 (av : AV) (x : HP z61.ps) : Hdl (CR z61) := hnd [] yj3 (w7k av x)
theorem w9f : LP z61 Tryz.f204 [0] yh1 := lp_ok (W := []) (H := []) (xs := [yb1]) w14 trivial rfl (fun av x v K => by kernel_rfl) (fun av x n v K => by kernel_rfl)
theorem v0n : z61.Ok Tryz.prog := fn_ok (k := z61) (fn := Tryz.f204) (W := []) (H := [yh1]) Tryz.func204 w14 ⟨w9f, trivial⟩ rfl rfl (fun av x => by kernel_rfl)
def zy3 (s : List GDid) (v : GDid) : Option Bool := (y0e s v).bind fun x1 => (some (decide (0 ≤ x1)))
def zx9 : Con := ⟨170, [.v (.sl (.s .did)) false, .v (.s .did) false], [(.B, true)], [], fun x => zy3 x.1 x.2.1⟩
def w4q : Fs := ⟨[z61], [], []⟩
theorem w5f : w4q.Ok Tryz.prog := (fsK v0n fs0)
theorem w6e : zx9.Ok Tryz.prog := fn_ok (k := zx9) (fn := Tryz.f170) (W := []) (H := []) Tryz.func170 w5f trivial rfl rfl (fun av x => by kernel_rfl)
def w1m  : Option Bool := some true
def zc5 (s1 : List Int) (s2 : List Int) (p0_0 : Int) (kx0_0 : Option Bool) : Nat → Int → Option Bool
  | 0, _ => none
  | n0 + 1, s0_0 => if decide (s0_0 < p0_0) = true then ((getI s1 s0_0).bind fun x3 => ((getI s2 s0_0).bind fun x4 => (if decide (x3 = x4) = true then (gd (ok64 (s0_0 + 1)) ((zc5 s1 s2 p0_0 kx0_0 n0) (s0_0 + 1))) else (some false)))) else (kx0_0)
def yt4 (s1 : List Int) (s2 : List Int) : Option Bool := if decide ((s1.length : Int) = (s2.length : Int)) = true then (zc5 s1 s2 (s1.length : Int) w1m FUEL 0) else (some false)
def ze9 : Con := ⟨192, [.v (.sl .I) false, .v (.sl .I) false], [(.B, true)], [], fun x => yt4 x.1 x.2.1⟩
def v6u : Fs := ⟨[], [], []⟩
theorem wy5 : v6u.Ok Tryz.prog := fs0
def w7e : Tmpl := ⟨[(0, .c (.s .I)), (1, .c (.s .I)), (12, .c .i), (13, .c .i)], []⟩
def w21 : Tmpl := ⟨[], []⟩
def v20 (av : AV) (x : HP ze9.ps) (n : Nat) (v : w7e.den) (K : Ks (CR ze9)) : Option (CR ze9) := zc5 v.1.1 v.1.2.1 v.1.2.2.1 (w21.at none ((), ()) (K (.exit 0))) n v.1.2.2.2.1
def w5p (av : AV) (x : HP ze9.ps) : Hdl (CR ze9) := hnd [] w7e (v20 av x)
theorem v2s : LP ze9 Tryz.f192 [0] w5p := lp_ok (W := []) (H := []) (xs := [w21]) wy5 trivial rfl (fun av x v K => by kernel_rfl) (fun av x n v K => by kernel_rfl)
theorem v84 : ze9.Ok Tryz.prog := fn_ok (k := ze9) (fn := Tryz.f192) (W := []) (H := [w5p]) Tryz.func192 wy5 ⟨v2s, trivial⟩ rfl rfl (fun av x => by kernel_rfl)
def y1n (n : Int) : Option Bool := (z5e n).bind fun x1 => (some (!x1))
def y1w : FCon := ⟨162, .I, [], fun z c => y1n z ⟩
def w83 : Fs := ⟨[z83], [], []⟩
theorem w8z : w83.Ok Tryz.prog := (fsK zo7 fs0)
theorem w9y : y1w.Ok Tryz.prog := FCon.ok (fn_ok (k := y1w.con) (fn := Tryz.f162) (W := []) (H := []) Tryz.func162 w8z trivial rfl rfl (fun av x => by kernel_rfl))
def z3e (data : List Int) : Option Bool := if decide ((data.length : Int) = 3) = true then ((z2g data (fun z => y1n z )).bind fun x2 => (some (!x2))) else (some false)
def z5c : Con := ⟨91, [.v (.sl .I) false], [(.B, true)], [], fun x => z3e x.1⟩
def ww1 : Fs := ⟨[z4u], [y1w], []⟩
theorem wy7 : ww1.Ok Tryz.prog := (fsK z81 (fsF w9y fs0))
theorem z7d : z5c.Ok Tryz.prog := fn_ok (k := z5c) (fn := Tryz.f91) (W := []) (H := []) Tryz.func91 wy7 trivial rfl rfl (fun av x => by kernel_rfl)
def z2f (e : GAsk) (data : List Int) : Option Bool := (z7c e).bind fun x1 => (if x1 = true then ((z3e data).bind fun x3 => (if x3 = true then (if decide (e.op = 1) = true then ((getI data e.var).bind fun x6 => (some (decide (x6 < e.k)))) else (if decide (e.op = 2) = true then ((getI data e.var).bind fun x8 => (some (decide (x8 = e.k)))) else (if decide (e.op = 3) = true then ((getI data e.var).bind fun x10 => (some (decide (e.k < x10)))) else (some true)))) else (some false))) else (some false))
def z4f : Con := ⟨120, [.v (.s .ask) false, .v (.sl .I) false], [(.B, true)], [], fun x => z2f x.1 x.2.1⟩
def w4t : Fs := ⟨[zp4, z5c], [], []⟩
theorem w5i : w4t.Ok Tryz.prog := (fsK y9e (fsK z7d fs0))
theorem z7a : z4f.Ok Tryz.prog := fn_ok (k := z4f) (fn := Tryz.f120) (W := []) (H := []) Tryz.func120 w5i trivial rfl rfl (fun av x => by kernel_rfl)
def y2s  : Option Bool := some true
def z5h (list : List Int) (places : Int) (without : List Int) (p0_0 : Int) (kx0_0 : Option Bool) : Nat → Int → Int → Option Bool
  | 0, _, _ => none
  | n0 + 1, s0_0, s0_1 => if decide (s0_0 < p0_0) = true then ((getI list s0_0).bind fun x2 => (gd (ok64 (s0_1 + 1)) (gd (ok64 (places - 1)) ((z0c x2 (s0_1 + 1) (places - 1)).bind fun x5 => (if x5 = true then ((zc4 without x2).bind fun x7 => (if x7 = true then (some false) else (gd (ok64 (s0_0 + 1)) ((z5h list places without p0_0 kx0_0 n0) (s0_0 + 1) x2)))) else (some false)))))) else (kx0_0)
def z9x (list : List Int) (places : Int) (without : List Int) : Option Bool := z5h list places without (list.length : Int) y2s FUEL 0 (-1)
def z41 : Con := ⟨178, [.v (.sl .I) false, .v .I false, .v (.sl .I) false], [(.B, true)], [], fun x => z9x x.1 x.2.1 x.2.2.1⟩
def w8b : Fs := ⟨[z23, zp3], [], []⟩
theorem yg0 : w8b.Ok Tryz.prog := (fsK z2q (fsK y9c fs0))
def y6i : Tmpl := ⟨[(1, .c .i), (2, .c (.s .I)), (7, .c .i), (10, .c (.s .I)), (11, .c .i), (12, .c .i)], []⟩
def y3p : Tmpl := ⟨[], []⟩
def w27 (av : AV) (x : HP z41.ps) (n : Nat) (v : y6i.den) (K : Ks (CR z41)) : Option (CR z41) := z5h v.1.2.2.2.1 v.1.1 v.1.2.1 v.1.2.2.2.2.1 (y3p.at none ((), ()) (K (.exit 0))) n v.1.2.2.2.2.2.1 v.1.2.2.1
def y5n (av : AV) (x : HP z41.ps) : Hdl (CR z41) := hnd [] y6i (w27 av x)
theorem w32 : LP z41 Tryz.f178 [0] y5n := lp_ok (W := []) (H := []) (xs := [y3p]) yg0 trivial rfl (fun av x v K => by kernel_rfl) (fun av x n v K => by kernel_rfl)
theorem wa6 : z41.Ok Tryz.prog := fn_ok (k := z41) (fn := Tryz.f178) (W := []) (H := [y5n]) Tryz.func178 yg0 ⟨w32, trivial⟩ rfl rfl (fun av x => by kernel_rfl)
def z7n (t : GTask) : Option Bool := (z0c (t.out.length : Int) 1 3).bind fun x21 => (some x21)
def z1a (t : GTask) (places : Int) (p0_0 : List GFlow) (p0_1 : Int) (kx0_0 : Option Bool) : Nat → Int → List Int → Option Bool
  | 0, _, _ => none
  | n0 + 1, s0_0, m0_1 => if decide (s0_0 < p0_1) = true then ((getI p0_0 s0_0).bind fun x2 => (if decide (t.split = 1) = true then (gd (ok64 (places - 1)) ((z0c x2.to 0 (places - 1)).bind fun x5 => (if x5 = true then (if decide (x2.to ∈ m0_1) = true then (some false) else ((z7c x2.if_).bind fun x8 => (if x8 = true then (if ((decide (x2.if_.op = 0)) == true) = true then (gd (ok64 (s0_0 + 1)) ((z1a t places p0_0 p0_1 kx0_0 n0) (s0_0 + 1) (insKey m0_1 x2.to))) else (some false)) else (some false)))) else (some false)))) else (gd (ok64 ((t.out.length : Int) - 1)) (gd (ok64 (places - 1)) ((z0c x2.to 0 (places - 1)).bind fun x14 => (if x14 = true then (if decide (x2.to ∈ m0_1) = true then (some false) else ((z7c x2.if_).bind fun x17 => (if x17 = true then (if ((decide (x2.if_.op = 0)) == (decide (s0_0 = ((t.out.length : Int) - 1)))) = true then (gd (ok64 (s0_0 + 1)) ((z1a t places p0_0 p0_1 kx0_0 n0) (s0_0 + 1) (insKey m0_1 x2.to))) else (some false)) else (some false)))) else (some false))))))) else (kx0_0)
def z6p (t : GTask) (places : Int) : Option Bool := z1a t places t.out (t.out.length : Int) (z7n t) FUEL 0 (insKey ([] : List Int) 0)
def z10 : Con := ⟨179, [.v (.s .task) false, .v .I false], [(.B, true)], [], fun x => z6p x.1 x.2.1⟩
def ye9 : Fs := ⟨[z23, zp4], [], []⟩
theorem zr9 : ye9.Ok Tryz.prog := (fsK z2q (fsK y9e fs0))
def zk6 : Tmpl := ⟨[(1, .c .i), (2, .c (.bx 2 0)), (5, .c (.bx 9 0)), (12, .c (.s (.s .flow))), (13, .c .i), (14, .c .i)], [(2, .boxT (.s .task)), (9, .mp)]⟩
def zj9 : Tmpl := ⟨[(2, .c (.bx 2 0))], [(2, .boxT (.s .task))]⟩
def y7e (av : AV) (x : HP z10.ps) (n : Nat) (v : zk6.den) (K : Ks (CR z10)) : Option (CR z10) := z1a v.2.1 v.1.1 v.1.2.2.2.1 v.1.2.2.2.2.1 (zj9.at none (((), ()), (v.2.1, ())) (K (.exit 0))) n v.1.2.2.2.2.2.1 v.2.2.1
def zk1 (av : AV) (x : HP z10.ps) : Hdl (CR z10) := hnd [] zk6 (y7e av x)
theorem y7g : LP z10 Tryz.f179 [0] zk1 := lp_ok (W := []) (H := []) (xs := [zj9]) zr9 trivial rfl (fun av x v K => by kernel_rfl) (fun av x n v K => by kernel_rfl)
theorem yf8 : z10.Ok Tryz.prog := fn_ok (k := z10) (fn := Tryz.f179) (W := []) (H := [zk1]) Tryz.func179 zr9 ⟨y7g, trivial⟩ rfl rfl (fun av x => by kernel_rfl)
def z9a (t : GTask) (places : Int) (tasks : Int) : Option Bool := (zu9 t.join).bind fun x1 => (if x1 = true then ((zu9 t.split).bind fun x3 => (if x3 = true then ((z0c (t.in_.length : Int) 1 3).bind fun x5 => (if x5 = true then ((z9x t.in_ places [1]).bind fun x7 => (if x7 = true then ((z6p t places).bind fun x9 => (if x9 = true then ((z9x t.clear places [0, 1]).bind fun x11 => (if x11 = true then ((zg4 t.role).bind fun x13 => (if x13 = true then (gd (ok64 (tasks - 1)) ((z0c t.apart (-1) (tasks - 1)).bind fun x16 => (if x16 = true then ((z0c t.all 1 3).bind fun x18 => (if x18 = true then ((z0c t.need 1 t.all).bind fun x20 => (some x20)) else (some false))) else (some false)))) else (some false))) else (some false))) else (some false))) else (some false))) else (some false))) else (some false))) else (some false))
def zl5 : Con := ⟨125, [.v (.s .task) false, .v .I false, .v .I false], [(.B, true)], [], fun x => z9a x.1 x.2.1 x.2.2.1⟩
def yy9 : Fs := ⟨[y4m, z23, z41, z10, zt7], [], []⟩
theorem yz8 : yy9.Ok Tryz.prog := (fsK wp7 (fsK z2q (fsK wa6 (fsK yf8 (fsK yu1 fs0)))))
theorem w0q : zl5.Ok Tryz.prog := fn_ok (k := zl5) (fn := Tryz.f125) (W := []) (H := []) Tryz.func125 yz8 trivial rfl rfl (fun av x => by kernel_rfl)
def y1q (t : GTask) (n : GNet) : Option Bool := (z9a t n.places (n.tasks.length : Int)).bind fun x1 => (some (!x1))
def y1z : FCon := ⟨124, (.s .task), [(.s .net)], fun z c => y1q z c.1⟩
def w88 : Fs := ⟨[zl5], [], []⟩
theorem w93 : w88.Ok Tryz.prog := (fsK w0q fs0)
theorem wa3 : y1z.Ok Tryz.prog := FCon.ok (fn_ok (k := y1z.con) (fn := Tryz.f124) (W := []) (H := []) Tryz.func124 w93 trivial rfl rfl (fun av x => by kernel_rfl))
def z8o (n : GNet) : Option Bool := (y1t n.places (n.tasks.length : Int)).bind fun x1 => (if x1 = true then ((z6n n.tasks (fun z => y1q z n)).bind fun x3 => (some (!x3))) else (some false))
def zc3 : Con := ⟨52, [.v (.s .net) false], [(.B, true)], [], fun x => z8o x.1⟩
def ww6 : Fs := ⟨[y1g, z9o], [y1z], []⟩
theorem wz1 : ww6.Ok Tryz.prog := (fsK wa8 (fsK yf6 (fsF wa3 fs0)))
theorem y0n : zc3.Ok Tryz.prog := fn_ok (k := zc3) (fn := Tryz.f52) (W := []) (H := []) Tryz.func52 wz1 trivial rfl rfl (fun av x => by kernel_rfl)
def z6a (p : Int) (out : List Bool) : Option Bool := (getI out p).bind fun x1 => (some x1)
def z8x : FCon := ⟨217, .I, [(.sl .B)], fun z c => z6a z c.1⟩
def y7r : Fs := ⟨[], [], []⟩
theorem y7v : y7r.Ok Tryz.prog := fs0
theorem y9h : z8x.Ok Tryz.prog := FCon.ok (fn_ok (k := z8x.con) (fn := Tryz.f217) (W := []) (H := []) Tryz.func217 y7v trivial rfl rfl (fun av x => by kernel_rfl))
def zk2 (s1_0 : List GTask) (s1_1 : Int) (s1_2 : Int) (bk1 : List GTask → Int → Int → Bool → List Bool → Option (List Bool)) (s2_1 : Bool) (l2_2 : List Bool) : Option (List Bool) := gd (ok64 (s1_2 + 1)) (bk1 s1_0 s1_1 (s1_2 + 1) s2_1 l2_2)
def z0l (p2_0 : List GFlow) (p2_1 : Int) (kx2_0 : Bool → List Bool → Option (List Bool)) : Nat → Int → Bool → List Bool → Option (List Bool)
  | 0, _, _, _ => none
  | n2 + 1, s2_0, s2_1, l2_2 => if decide (s2_0 < p2_1) = true then ((getI p2_0 s2_0).bind fun x11 => (if s2_1 = true then ((getI l2_2 x11.to).bind fun x13 => (gd (ok64 (s2_0 + 1)) ((z0l p2_0 p2_1 kx2_0 n2) (s2_0 + 1) true (l2_2.set x11.to.toNat true)))) else ((getI l2_2 x11.to).bind fun x15 => ((getI l2_2 x11.to).bind fun x16 => (gd (ok64 (s2_0 + 1)) ((z0l p2_0 p2_1 kx2_0 n2) (s2_0 + 1) (!x15) (l2_2.set x11.to.toNat true))))))) else (kx2_0 s2_1 l2_2)
def z8b (bk0 : Bool → List Bool → Option (List Bool)) (s1_3 : Bool) (l1_4 : List Bool) : Option (List Bool) := bk0 s1_3 l1_4
def z0d (but : Int) (kx1_0 : Bool → List Bool → Option (List Bool)) : Nat → List GTask → Int → Int → Bool → List Bool → Option (List Bool)
  | 0, _, _, _, _, _ => none
  | n1 + 1, s1_0, s1_1, s1_2, s1_3, l1_4 => if decide (s1_2 < s1_1) = true then ((getI s1_0 s1_2).bind fun x5 => (if decide (s1_2 = but) = true then (gd (ok64 (s1_2 + 1)) ((z0d but kx1_0 n1) s1_0 s1_1 (s1_2 + 1) s1_3 l1_4)) else ((z2g x5.in_ (fun z => z6a z l1_4)).bind fun x8 => (if x8 = true then (z0l x5.out (x5.out.length : Int) (zk2 s1_0 s1_1 s1_2 (z0d but kx1_0 n1)) FUEL 0 s1_3 l1_4) else (gd (ok64 (s1_2 + 1)) ((z0d but kx1_0 n1) s1_0 s1_1 (s1_2 + 1) s1_3 l1_4)))))) else (kx1_0 s1_3 l1_4)
def zk3 (l0_1 : List Bool) : Option (List Bool) := some l0_1
def z0z (n : GNet) (but : Int) (kx0_0 : List Bool → Option (List Bool)) : Nat → Bool → List Bool → Option (List Bool)
  | 0, _, _ => none
  | n0 + 1, s0_0, l0_1 => if s0_0 = true then (z0d but (z8b (z0z n but kx0_0 n0)) FUEL n.tasks (n.tasks.length : Int) 0 false l0_1) else (kx0_0 l0_1)
def z7m (n : GNet) (place : Int) (but : Int) : Option (List Bool) := gd ((0 : Int) ≤ n.places ∧ n.places ≤ (1000000000 : Int)) ((getI (List.replicate n.places.toNat false) place).bind fun x2 => (z0z n but zk3 FUEL true ((List.replicate n.places.toNat false).set place.toNat true)))
def z05 : Con := ⟨202, [.v (.s .net) false, .v .I false, .v .I false], [((.sl .B), true)], [], fun x => z7m x.1 x.2.1 x.2.2.1⟩
def ym1 : Fs := ⟨[z4u], [z8x], []⟩
theorem z7e : ym1.Ok Tryz.prog := (fsK z81 (fsF y9h fs0))
def za4 : Tmpl := ⟨[(2, .c .i), (3, .c (.bx 3 0)), (7, .c (.bx 7 0)), (8, .c .b), (21, .c (.s (.s .task))), (22, .c .i), (23, .c .i), (39, .c (.s (.s .flow))), (40, .c .i), (41, .c .i)], [(3, .boxT (.s .net)), (7, .box [.ref 15]), (15, .arr .B true)]⟩
def z9k : Tmpl := ⟨[(2, .c .i), (3, .c (.bx 3 0)), (7, .c (.bx 7 0)), (8, .c .b), (21, .c (.s (.s .task))), (22, .c .i), (23, .c .i)], [(3, .boxT (.s .net)), (7, .box [.ref 15]), (15, .arr .B true)]⟩
def y19 (av : AV) (x : HP z05.ps) (n : Nat) (v : za4.den) (K : Ks (CR z05)) : Option (CR z05) := z0l v.1.2.2.2.2.2.2.2.1 v.1.2.2.2.2.2.2.2.2.1 (fun s2_1 l2_2 => z9k.at none ((v.1.1, (), (), s2_1, v.1.2.2.2.2.1, v.1.2.2.2.2.2.1, v.1.2.2.2.2.2.2.1, ()), (v.2.1, ((), ()), l2_2, ())) (K (.exit 4))) n v.1.2.2.2.2.2.2.2.2.2.1 v.1.2.2.2.1 v.2.2.2.1
def z9u (av : AV) (x : HP z05.ps) : Hdl (CR z05) := hnd [] za4 (y19 av x)
theorem y1m : LP z05 Tryz.f202 [0, 0, 0] z9u := lp_ok (W := []) (H := []) (xs := [z9k]) z7e trivial rfl (fun av x v K => by kernel_rfl) (fun av x n v K => by kernel_rfl)
def zj7 : Tmpl := ⟨[(2, .c .i), (3, .c (.bx 3 0)), (7, .c (.bx 7 0)), (8, .c .b), (21, .c (.s (.s .task))), (22, .c .i), (23, .c .i)], [(3, .boxT (.s .net)), (7, .box [.ref 15]), (15, .arr .B true)]⟩
def zd7 : Tmpl := ⟨[(2, .c .i), (3, .c (.bx 3 0)), (7, .c (.bx 7 0)), (8, .c .b)], [(3, .boxT (.s .net)), (7, .box [.ref 15]), (15, .arr .B true)]⟩
def y47 (av : AV) (x : HP z05.ps) (n : Nat) (v : zj7.den) (K : Ks (CR z05)) : Option (CR z05) := z0d v.1.1 (fun s1_3 l1_4 => zd7.at none ((v.1.1, (), (), s1_3, ()), (v.2.1, ((), ()), l1_4, ())) (K (.exit 2))) n v.1.2.2.2.2.1 v.1.2.2.2.2.2.1 v.1.2.2.2.2.2.2.1 v.1.2.2.2.1 v.2.2.2.1
def ze6 (av : AV) (x : HP z05.ps) : Hdl (CR z05) := hnd [] zj7 (y47 av x)
theorem y50 : LP z05 Tryz.f202 [0, 0] ze6 := lp_ok (W := []) (H := [z9u]) (xs := [zd7]) z7e ⟨y1m, trivial⟩ rfl (fun av x v K => by kernel_rfl) (fun av x n v K => by kernel_rfl)
def zq7 : Tmpl := ⟨[(2, .c .i), (3, .c (.bx 3 0)), (7, .c (.bx 7 0)), (8, .c .b)], [(3, .boxT (.s .net)), (7, .box [.ref 15]), (15, .arr .B true)]⟩
def zk8 : Tmpl := ⟨[(7, .c (.bx 7 0))], [(7, .box [.ref 15]), (15, .arr .B true)]⟩
def y7i (av : AV) (x : HP z05.ps) (n : Nat) (v : zq7.den) (K : Ks (CR z05)) : Option (CR z05) := z0z v.2.1 v.1.1 (fun l0_1 => zk8.at none (((), ()), (((), ()), l0_1, ())) (K (.exit 0))) n v.1.2.2.2.1 v.2.2.2.1
def zp0 (av : AV) (x : HP z05.ps) : Hdl (CR z05) := hnd [] zq7 (y7i av x)
theorem y8r : LP z05 Tryz.f202 [0] zp0 := lp_ok (W := []) (H := [ze6]) (xs := [zk8]) z7e ⟨y50, trivial⟩ rfl (fun av x v K => by kernel_rfl) (fun av x n v K => by kernel_rfl)
theorem yo5 : z05.Ok Tryz.prog := fn_ok (k := z05) (fn := Tryz.f202) (W := []) (H := [zp0]) Tryz.func202 z7e ⟨y8r, trivial⟩ rfl rfl (fun av x => by kernel_rfl)
def z7l (m : Int) : Option Bool := (z0c m 0 4).bind fun x1 => (some (!x1))
def z7v : FCon := ⟨199, .I, [], fun z c => z7l z ⟩
def y49 : Fs := ⟨[z23], [], []⟩
theorem y4b : y49.Ok Tryz.prog := (fsK z2q fs0)
theorem y54 : z7v.Ok Tryz.prog := FCon.ok (fn_ok (k := z7v.con) (fn := Tryz.f199) (W := []) (H := []) Tryz.func199 y4b trivial rfl rfl (fun av x => by kernel_rfl))
def z4i (n : GNet) (marks : List Int) : Option Bool := if decide ((marks.length : Int) = n.places) = true then ((z2g marks (fun z => z7l z )).bind fun x2 => (some (!x2))) else (some false)
def z62 : Con := ⟨164, [.v (.s .net) false, .v (.sl .I) false], [(.B, true)], [], fun x => z4i x.1 x.2.1⟩
def y7q : Fs := ⟨[z4u], [z7v], []⟩
theorem y7u : y7q.Ok Tryz.prog := (fsK z81 (fsF y54 fs0))
theorem zq2 : z62.Ok Tryz.prog := fn_ok (k := z62) (fn := Tryz.f164) (W := []) (H := []) Tryz.func164 y7u trivial rfl rfl (fun av x => by kernel_rfl)
def zc7 (n : GNet) (marks : List Int) : Option Bool := (z8o n).bind fun x1 => (if x1 = true then ((z4i n marks).bind fun x3 => (some x3)) else (some false))
def zp5 : Con := ⟨94, [.v (.s .net) false, .v (.sl .I) false], [(.B, true)], [], fun x => zc7 x.1 x.2.1⟩
def ww5 : Fs := ⟨[zc3, z62], [], []⟩
theorem wz0 : ww5.Ok Tryz.prog := (fsK y0n (fsK zq2 fs0))
theorem y9f : zp5.Ok Tryz.prog := fn_ok (k := zp5) (fn := Tryz.f94) (W := []) (H := []) Tryz.func94 wz0 trivial rfl rfl (fun av x => by kernel_rfl)
def zg2 (busy : List GItem) : Option Bool := some (decide ((busy.length : Int) ≤ 6))
def z21 (n : GNet) (p0_0 : List GItem) (p0_1 : Int) (kx0_0 : Option Bool) : Nat → Int → Option Bool
  | 0, _ => none
  | n0 + 1, s0_0 => if decide (s0_0 < p0_1) = true then ((getI p0_0 s0_0).bind fun x2 => ((z0n n x2.task).bind fun x3 => (if x3 = true then ((z8r x2.who).bind fun x5 => (if x5 = true then ((getI n.tasks x2.task).bind fun x7 => (gd (ok64 (x7.need - 1)) ((z0c x2.did 0 (x7.need - 1)).bind fun x9 => (if x9 = true then (gd (ok64 (s0_0 + 1)) ((z21 n p0_0 p0_1 kx0_0 n0) (s0_0 + 1))) else (some false))))) else (some false))) else (some false)))) else (kx0_0)
def z51 (n : GNet) (busy : List GItem) : Option Bool := z21 n busy (busy.length : Int) (zg2 busy) FUEL 0
def z0r : Con := ⟨95, [.v (.s .net) false, .v (.sl (.s .item)) false], [(.B, true)], [], fun x => z51 x.1 x.2.1⟩
def ye7 : Fs := ⟨[z1r, zf3, z23], [], []⟩
theorem zr8 : ye7.Ok Tryz.prog := (fsK z4k (fsK y9k (fsK z2q fs0)))
def zk5 : Tmpl := ⟨[(1, .c (.s (.s .item))), (2, .c (.bx 2 0)), (7, .c (.s (.s .item))), (8, .c .i), (9, .c .i)], [(2, .boxT (.s .net))]⟩
def zj8 : Tmpl := ⟨[(1, .c (.s (.s .item)))], []⟩
def y7d (av : AV) (x : HP z0r.ps) (n : Nat) (v : zk5.den) (K : Ks (CR z0r)) : Option (CR z0r) := z21 v.2.1 v.1.2.2.1 v.1.2.2.2.1 (zj8.at none ((v.1.1, ()), ()) (K (.exit 0))) n v.1.2.2.2.2.1
def zk0 (av : AV) (x : HP z0r.ps) : Hdl (CR z0r) := hnd [] zk5 (y7d av x)
theorem y7f : LP z0r Tryz.f95 [0] zk0 := lp_ok (W := []) (H := []) (xs := [zj8]) zr8 trivial rfl (fun av x v K => by kernel_rfl) (fun av x n v K => by kernel_rfl)
theorem zs3 : z0r.Ok Tryz.prog := fn_ok (k := z0r) (fn := Tryz.f95) (W := []) (H := [zk0]) Tryz.func95 zr8 ⟨y7f, trivial⟩ rfl rfl (fun av x => by kernel_rfl)
def z7j (q : Int) (marks : List Int) (reach : List Bool) : Option Bool := (getI marks q).bind fun x1 => (if decide (x1 = 0) = true then ((getI reach q).bind fun x3 => (some x3)) else (some false))
def z7u : FCon := ⟨203, .I, [(.sl .I), (.sl .B)], fun z c => z7j z c.1 c.2.1⟩
def y48 : Fs := ⟨[], [], []⟩
theorem y4a : y48.Ok Tryz.prog := fs0
theorem y53 : z7u.Ok Tryz.prog := FCon.ok (fn_ok (k := z7u.con) (fn := Tryz.f203) (W := []) (H := []) Tryz.func203 y4a trivial rfl rfl (fun av x => by kernel_rfl))
def z4p (s1_0 : Int) (s1_1 : Int) (bk1 : Int → Int → List Int → Option Bool) (l2_1 : List Int) : Option Bool := gd (ok64 (s1_1 + 1)) (bk1 s1_0 (s1_1 + 1) l2_1)
def z1p (p2_0 : List GFlow) (p2_1 : Int) (kx2_0 : List Int → Option Bool) : Nat → Int → List Int → Option Bool
  | 0, _, _ => none
  | n2 + 1, s2_0, l2_1 => if decide (s2_0 < p2_1) = true then ((getI p2_0 s2_0).bind fun x15 => (gd (l2_1.length + [x15.to].length ≤ SMALL) (gd (ok64 (s2_0 + 1)) ((z1p p2_0 p2_1 kx2_0 n2) (s2_0 + 1) (l2_1 ++ [x15.to]))))) else (kx2_0 l2_1)
def z6w  : Option Bool := some false
def z12 (n : GNet) (t : Int) (p0_0 : List Int) (p0_2 : List Int) (l1_2 : List Int) (p3_0 : Int) (kx3_0 : Option Bool) : Nat → Int → Option Bool
  | 0, _ => none
  | n3 + 1, s3_0 => if decide (s3_0 < p3_0) = true then ((getI l1_2 s3_0).bind fun x20 => ((z7m n x20 t).bind fun x21 => ((z2g p0_0 (fun z => z7j z p0_2 x21)).bind fun x22 => (if x22 = true then (some true) else (gd (ok64 (s3_0 + 1)) ((z12 n t p0_0 p0_2 l1_2 p3_0 kx3_0 n3) (s3_0 + 1))))))) else (kx3_0)
def z1o (n : GNet) (t : Int) (p0_0 : List Int) (p0_2 : List Int) (l1_2 : List Int) : Option Bool := z12 n t p0_0 p0_2 l1_2 (l1_2.length : Int) z6w FUEL 0
def z0q (n : GNet) (busy : List GItem) (kx1_0 : List Int → Option Bool) : Nat → Int → Int → List Int → Option Bool
  | 0, _, _, _ => none
  | n1 + 1, s1_0, s1_1, l1_2 => if decide (s1_1 < s1_0) = true then ((getI busy s1_1).bind fun x12 => ((getI n.tasks x12.task).bind fun x13 => (z1p x13.out (x13.out.length : Int) (z4p s1_0 s1_1 (z0q n busy kx1_0 n1)) FUEL 0 l1_2))) else (kx1_0 l1_2)
def z4o (n : GNet) (busy : List GItem) (t : Int) (p0_0 : List Int) (p0_2 : List Int) (l0_1 : List Int) : Option Bool := z0q n busy (z1o n t p0_0 p0_2) FUEL (busy.length : Int) 0 l0_1
def z0p (marks : List Int) (p0_0 : List Int) (p0_1 : Int) (kx0_0 : List Int → Option Bool) : Nat → Int → List Int → Option Bool
  | 0, _, _ => none
  | n0 + 1, s0_0, l0_1 => if decide (s0_0 < p0_1) = true then ((getI marks s0_0).bind fun x3 => (if decide (0 < x3) = true then ((zc4 p0_0 s0_0).bind fun x5 => (if x5 = true then (gd (ok64 (s0_0 + 1)) ((z0p marks p0_0 p0_1 kx0_0 n0) (s0_0 + 1) l0_1)) else (gd (l0_1.length + [s0_0].length ≤ SMALL) (gd (ok64 (s0_0 + 1)) ((z0p marks p0_0 p0_1 kx0_0 n0) (s0_0 + 1) (l0_1 ++ [s0_0])))))) else (gd (ok64 (s0_0 + 1)) ((z0p marks p0_0 p0_1 kx0_0 n0) (s0_0 + 1) l0_1)))) else (kx0_0 l0_1)
def z69 (n : GNet) (marks : List Int) (busy : List GItem) (t : Int) : Option Bool := (getI n.tasks t).bind fun x1 => (z0p marks x1.in_ (marks.length : Int) (z4o n busy t x1.in_ marks) FUEL 0 ([] : List Int))
def z02 : Con := ⟨168, [.v (.s .net) false, .v (.sl .I) false, .v (.sl (.s .item)) false, .v .I false], [(.B, true)], [], fun x => z69 x.1 x.2.1 x.2.2.1 x.2.2.2.1⟩
def y7o : Fs := ⟨[zp3, z05, z4u], [z7u], []⟩
theorem z4e : y7o.Ok Tryz.prog := (fsK y9c (fsK yo5 (fsK z81 (fsF y53 fs0))))
def za3 : Tmpl := ⟨[(3, .c .i), (4, .c (.bx 4 0)), (5, .c (.bx 5 0)), (9, .c (.s .I)), (10, .c (.ref 500010)), (46, .c (.s (.s .item))), (47, .c .i), (48, .c .i), (58, .c (.s (.s .flow))), (59, .c .i), (60, .c .i)], [(4, .boxT (.s .net)), (5, .box [.s .I]), (500010, .arr .I true)]⟩
def z9j : Tmpl := ⟨[(3, .c .i), (4, .c (.bx 4 0)), (5, .c (.bx 5 0)), (9, .c (.s .I)), (10, .c (.ref 500010)), (46, .c (.s (.s .item))), (47, .c .i), (48, .c .i)], [(4, .boxT (.s .net)), (5, .box [.s .I]), (500010, .arr .I true)]⟩
def y18 (av : AV) (x : HP z02.ps) (n : Nat) (v : za3.den) (K : Ks (CR z02)) : Option (CR z02) := z1p v.1.2.2.2.2.2.2.2.2.1 v.1.2.2.2.2.2.2.2.2.2.1 (fun l2_1 => z9j.at none ((v.1.1, (), (), v.1.2.2.2.1, (), v.1.2.2.2.2.2.1, v.1.2.2.2.2.2.2.1, v.1.2.2.2.2.2.2.2.1, ()), (v.2.1, (v.2.2.1.1, ()), l2_1, ())) (K (.exit 4))) n v.1.2.2.2.2.2.2.2.2.2.2.1 v.2.2.2.1
def z9t (av : AV) (x : HP z02.ps) : Hdl (CR z02) := hnd [] za3 (y18 av x)
theorem y1l : LP z02 Tryz.f168 [1, 0] z9t := lp_ok (W := []) (H := []) (xs := [z9j]) z4e trivial rfl (fun av x v K => by kernel_rfl) (fun av x n v K => by kernel_rfl)
def zj4 : Tmpl := ⟨[(2, .c (.s (.s .item))), (3, .c .i), (4, .c (.bx 4 0)), (5, .c (.bx 5 0)), (9, .c (.s .I)), (10, .c (.ref 500010)), (26, .c (.s .I)), (27, .c .i), (28, .c .i)], [(4, .boxT (.s .net)), (5, .box [.s .I]), (500010, .arr .I true)]⟩
def zd4 : Tmpl := ⟨[(2, .c (.s (.s .item))), (3, .c .i), (4, .c (.bx 4 0)), (5, .c (.bx 5 0)), (9, .c (.s .I)), (10, .c (.ref 500010))], [(4, .boxT (.s .net)), (5, .box [.s .I]), (500010, .arr .I true)]⟩
def y44 (av : AV) (x : HP z02.ps) (n : Nat) (v : zj4.den) (K : Ks (CR z02)) : Option (CR z02) := z0p v.1.2.2.2.2.2.2.1 v.1.2.2.2.2.1 v.1.2.2.2.2.2.2.2.1 (fun l0_1 => zd4.at none ((v.1.1, v.1.2.1, (), (), v.1.2.2.2.2.1, (), ()), (v.2.1, (v.2.2.1.1, ()), l0_1, ())) (K (.exit 0))) n v.1.2.2.2.2.2.2.2.2.1 v.2.2.2.1
def ze3 (av : AV) (x : HP z02.ps) : Hdl (CR z02) := hnd [.e 10 500010 .I] zj4 (y44 av x)
theorem y4x : LP z02 Tryz.f168 [0] ze3 := lp_ok (W := []) (H := []) (xs := [zd4]) z4e trivial rfl (fun av x v K => by kernel_rfl) (fun av x n v K => by kernel_rfl)
def zj5 : Tmpl := ⟨[(3, .c .i), (4, .c (.bx 4 0)), (5, .c (.bx 5 0)), (9, .c (.s .I)), (10, .c (.ref 500010)), (46, .c (.s (.s .item))), (47, .c .i), (48, .c .i)], [(4, .boxT (.s .net)), (5, .box [.s .I]), (500010, .arr .I true)]⟩
def zd5 : Tmpl := ⟨[(3, .c .i), (4, .c (.bx 4 0)), (5, .c (.bx 5 0)), (9, .c (.s .I)), (10, .c (.ref 500010))], [(4, .boxT (.s .net)), (5, .box [.s .I]), (500010, .arr .I true)]⟩
def y45 (av : AV) (x : HP z02.ps) (n : Nat) (v : zj5.den) (K : Ks (CR z02)) : Option (CR z02) := z0q v.2.1 v.1.2.2.2.2.2.1 (fun l1_2 => zd5.at none ((v.1.1, (), (), v.1.2.2.2.1, (), ()), (v.2.1, (v.2.2.1.1, ()), l1_2, ())) (K (.exit 2))) n v.1.2.2.2.2.2.2.1 v.1.2.2.2.2.2.2.2.1 v.2.2.2.1
def ze4 (av : AV) (x : HP z02.ps) : Hdl (CR z02) := hnd [] zj5 (y45 av x)
theorem y4y : LP z02 Tryz.f168 [1] ze4 := lp_ok (W := []) (H := [z9t]) (xs := [zd5]) z4e ⟨y1l, trivial⟩ rfl (fun av x v K => by kernel_rfl) (fun av x n v K => by kernel_rfl)
def zj6 : Tmpl := ⟨[(3, .c .i), (4, .c (.bx 4 0)), (5, .c (.bx 5 0)), (9, .c (.s .I)), (71, .c (.ref 500010)), (72, .c .i), (73, .c .i)], [(4, .boxT (.s .net)), (5, .box [.s .I]), (500010, .arr .I true)]⟩
def zd6 : Tmpl := ⟨[], []⟩
def y46 (av : AV) (x : HP z02.ps) (n : Nat) (v : zj6.den) (K : Ks (CR z02)) : Option (CR z02) := z12 v.2.1 v.1.1 v.1.2.2.2.1 v.2.2.1.1 v.2.2.2.1 v.1.2.2.2.2.2.1 (zd6.at none ((), ()) (K (.exit 6))) n v.1.2.2.2.2.2.2.1
def ze5 (av : AV) (x : HP z02.ps) : Hdl (CR z02) := hnd [] zj6 (y46 av x)
theorem y4z : LP z02 Tryz.f168 [2] ze5 := lp_ok (W := []) (H := []) (xs := [zd6]) z4e trivial rfl (fun av x v K => by kernel_rfl) (fun av x n v K => by kernel_rfl)
theorem y9g : z02.Ok Tryz.prog := fn_ok (k := z02) (fn := Tryz.f168) (W := []) (H := [ze3, ze4, ze5]) Tryz.func168 z4e ⟨y4x, y4y, y4z, trivial⟩ rfl rfl (fun av x => by kernel_rfl)
def z39 (n : GNet) (marks : List Int) (busy : List GItem) (t : Int) (s0_0 : Bool) (s0_2 : Bool) : Option Bool := (getI n.tasks t).bind fun x14 => (if decide (x14.join = 1) = true then (some s0_0) else (if decide (x14.join = 2) = true then (some s0_2) else (if s0_2 = true then (if s0_0 = true then (some true) else ((z69 n marks busy t).bind fun x19 => (some (!x19)))) else (some false))))
def z0s (marks : List Int) (p0_0 : List Int) (p0_1 : Int) (kx0_0 : Bool → Bool → Option Bool) : Nat → Bool → Int → Bool → Option Bool
  | 0, _, _, _ => none
  | n0 + 1, s0_0, s0_1, s0_2 => if decide (s0_1 < p0_1) = true then ((getI p0_0 s0_1).bind fun x3 => (if s0_2 = true then (if s0_0 = true then ((getI marks x3).bind fun x6 => (gd (ok64 (s0_1 + 1)) ((z0s marks p0_0 p0_1 kx0_0 n0) (decide (0 < x6)) (s0_1 + 1) true))) else (gd (ok64 (s0_1 + 1)) ((z0s marks p0_0 p0_1 kx0_0 n0) false (s0_1 + 1) true))) else ((getI marks x3).bind fun x9 => (if s0_0 = true then ((getI marks x3).bind fun x11 => (gd (ok64 (s0_1 + 1)) ((z0s marks p0_0 p0_1 kx0_0 n0) (decide (0 < x11)) (s0_1 + 1) (decide (0 < x9))))) else (gd (ok64 (s0_1 + 1)) ((z0s marks p0_0 p0_1 kx0_0 n0) false (s0_1 + 1) (decide (0 < x9)))))))) else (kx0_0 s0_0 s0_2)
def z99 (n : GNet) (marks : List Int) (busy : List GItem) (t : Int) : Option Bool := (getI n.tasks t).bind fun x1 => (z0s marks x1.in_ (x1.in_.length : Int) (z39 n marks busy t) FUEL true 0 false)
def z20 : Con := ⟨104, [.v (.s .net) false, .v (.sl .I) false, .v (.sl (.s .item)) false, .v .I false], [(.B, true)], [], fun x => z99 x.1 x.2.1 x.2.2.1 x.2.2.2.1⟩
def yy8 : Fs := ⟨[z02], [], []⟩
theorem y2c : yy8.Ok Tryz.prog := (fsK y9g fs0)
def zz5 : Tmpl := ⟨[(1, .c (.s .I)), (2, .c (.s (.s .item))), (3, .c .i), (4, .c (.bx 4 0)), (9, .c .b), (10, .c .b), (18, .c (.s .I)), (19, .c .i), (20, .c .i)], [(4, .boxT (.s .net))]⟩
def zs8 : Tmpl := ⟨[(1, .c (.s .I)), (2, .c (.s (.s .item))), (3, .c .i), (4, .c (.bx 4 0)), (9, .c .b), (10, .c .b)], [(4, .boxT (.s .net))]⟩
def yl1 (av : AV) (x : HP z20.ps) (n : Nat) (v : zz5.den) (K : Ks (CR z20)) : Option (CR z20) := z0s v.1.1 v.1.2.2.2.2.2.2.1 v.1.2.2.2.2.2.2.2.1 (fun s0_0 s0_2 => zs8.at none ((v.1.1, v.1.2.1, v.1.2.2.1, (), s0_2, s0_0, ()), (v.2.1, ())) (K (.exit 0))) n v.1.2.2.2.2.2.1 v.1.2.2.2.2.2.2.2.2.1 v.1.2.2.2.2.1
def zx5 (av : AV) (x : HP z20.ps) : Hdl (CR z20) := hnd [] zz5 (yl1 av x)
theorem yn3 : LP z20 Tryz.f104 [0] zx5 := lp_ok (W := []) (H := []) (xs := [zs8]) y2c trivial rfl (fun av x v K => by kernel_rfl) (fun av x n v K => by kernel_rfl)
theorem w0p : z20.Ok Tryz.prog := fn_ok (k := z20) (fn := Tryz.f104) (W := []) (H := [zx5]) Tryz.func104 y2c ⟨yn3, trivial⟩ rfl rfl (fun av x => by kernel_rfl)
def zu2 (n : GNet) (marks : List Int) (busy : List GItem) (t : Int) : Option Bool := (zc7 n marks).bind fun x1 => (if x1 = true then ((z51 n busy).bind fun x3 => (if x3 = true then ((z0n n t).bind fun x5 => (if x5 = true then ((z99 n marks busy t).bind fun x7 => (some x7)) else (some false))) else (some false))) else (some false))
def y4g : Con := ⟨33, [.v (.s .net) false, .v (.sl .I) false, .v (.sl (.s .item)) false, .v .I false], [(.B, true)], [], fun x => zu2 x.1 x.2.1 x.2.2.1 x.2.2.2.1⟩
def wg7 : Fs := ⟨[zp5, z0r, z1r, z20], [], []⟩
theorem wk7 : wg7.Ok Tryz.prog := (fsK y9f (fsK zs3 (fsK z4k (fsK w0p fs0))))
theorem wo9 : y4g.Ok Tryz.prog := fn_ok (k := y4g) (fn := Tryz.f33) (W := []) (H := []) Tryz.func33 wk7 trivial rfl rfl (fun av x => by kernel_rfl)
def zq0 (l0_1 : List Int) (x4 : Int) (x7 : Int) : Option (List Int) := some (l0_1.set x4.toNat (x7 - 1))
def zq1 (l0_1 : List Int) : Option (List Int) := some l0_1
def z1u (n : GNet) (t : Int) (p0_0 : List Int) (p0_1 : Int) (kx0_0 : List Int → Int → Int → Option (List Int)) (kx0_1 : List Int → Option (List Int)) : Nat → Int → List Int → Option (List Int)
  | 0, _, _ => none
  | n0 + 1, s0_0, l0_1 => if decide (s0_0 < p0_1) = true then ((getI p0_0 s0_0).bind fun x4 => ((getI l0_1 x4).bind fun x5 => (if decide (0 < x5) = true then ((getI l0_1 x4).bind fun x7 => (gd (ok64 (x7 - 1)) ((getI l0_1 x4).bind fun x9 => ((getI n.tasks t).bind fun x10 => (if decide (x10.join = 2) = true then (kx0_0 l0_1 x4 x7) else (gd (ok64 (s0_0 + 1)) ((z1u n t p0_0 p0_1 kx0_0 kx0_1 n0) (s0_0 + 1) (l0_1.set x4.toNat (x7 - 1))))))))) else (gd (ok64 (s0_0 + 1)) ((z1u n t p0_0 p0_1 kx0_0 kx0_1 n0) (s0_0 + 1) l0_1))))) else (kx0_1 l0_1)
def z8c (n : GNet) (marks : List Int) (t : Int) : Option (List Int) := (z0g marks).bind fun x1 => ((getI n.tasks t).bind fun x2 => (z1u n t x2.in_ (x2.in_.length : Int) zq0 zq1 FUEL 0 x1))
def z1i : Con := ⟨93, [.v (.s .net) false, .v (.sl .I) false, .v .I false], [((.sl .I), true)], [], fun x => z8c x.1 x.2.1 x.2.2.1⟩
def yq4 : Fs := ⟨[z1b], [], []⟩
theorem y05 : yq4.Ok Tryz.prog := (fsK z2k fs0)
def zs5 : Tmpl := ⟨[(2, .c .i), (3, .c (.bx 3 0)), (7, .c (.ref 11)), (17, .c (.s .I)), (18, .c .i), (19, .c .i)], [(3, .boxT (.s .net)), (11, .arr .I true)]⟩
def z8z : Tmpl := ⟨[(7, .c (.ref 11))], [(11, .arr .I true)]⟩
def ye3 (av : AV) (x : HP z1i.ps) (n : Nat) (v : zs5.den) (K : Ks (CR z1i)) : Option (CR z1i) := z1u v.2.1 v.1.1 v.1.2.2.2.1 v.1.2.2.2.2.1 (fun l0_1 x4 x7 => z8z.at none (((), ()), ((l0_1.set x4.toNat (x7 - 1)), ())) (K (.exit 0))) (fun l0_1 => z8z.at none (((), ()), (l0_1, ())) (K (.exit 0))) n v.1.2.2.2.2.2.1 v.2.2.1
def zs0 (av : AV) (x : HP z1i.ps) : Hdl (CR z1i) := hnd [] zs5 (ye3 av x)
theorem yf4 : LP z1i Tryz.f93 [0] zs0 := lp_ok (W := []) (H := []) (xs := [z8z]) y05 trivial rfl (fun av x v K => by kernel_rfl) (fun av x n v K => by kernel_rfl)
theorem yu0 : z1i.Ok Tryz.prog := fn_ok (k := z1i) (fn := Tryz.f93) (W := []) (H := [zs0]) Tryz.func93 y05 ⟨yf4, trivial⟩ rfl rfl (fun av x => by kernel_rfl)
def y8z (l0_1 : List Int) : Option (List Int) := some l0_1
def z0o (t : GTask) (data : List Int) (p0_0 : List GFlow) (p0_1 : Int) (kx0_0 : List Int → Option (List Int)) : Nat → Int → List Int → Option (List Int)
  | 0, _, _ => none
  | n0 + 1, s0_0, l0_1 => if decide (s0_0 < p0_1) = true then ((getI p0_0 s0_0).bind fun x2 => ((z2f x2.if_ data).bind fun x3 => (if x3 = true then (if decide (t.split = 2) = true then (if decide (0 < (l0_1.length : Int)) = true then (gd (ok64 (s0_0 + 1)) ((z0o t data p0_0 p0_1 kx0_0 n0) (s0_0 + 1) l0_1)) else (if decide (t.split = 3) = true then (gd (ok64 ((t.out.length : Int) - 1)) (if decide (s0_0 = ((t.out.length : Int) - 1)) = true then (if decide (0 < (l0_1.length : Int)) = true then (gd (ok64 (s0_0 + 1)) ((z0o t data p0_0 p0_1 kx0_0 n0) (s0_0 + 1) l0_1)) else (gd (l0_1.length + [x2.to].length ≤ SMALL) (gd (ok64 (s0_0 + 1)) ((z0o t data p0_0 p0_1 kx0_0 n0) (s0_0 + 1) (l0_1 ++ [x2.to]))))) else (gd (l0_1.length + [x2.to].length ≤ SMALL) (gd (ok64 (s0_0 + 1)) ((z0o t data p0_0 p0_1 kx0_0 n0) (s0_0 + 1) (l0_1 ++ [x2.to])))))) else (gd (l0_1.length + [x2.to].length ≤ SMALL) (gd (ok64 (s0_0 + 1)) ((z0o t data p0_0 p0_1 kx0_0 n0) (s0_0 + 1) (l0_1 ++ [x2.to])))))) else (if decide (t.split = 3) = true then (gd (ok64 ((t.out.length : Int) - 1)) (if decide (s0_0 = ((t.out.length : Int) - 1)) = true then (if decide (0 < (l0_1.length : Int)) = true then (gd (ok64 (s0_0 + 1)) ((z0o t data p0_0 p0_1 kx0_0 n0) (s0_0 + 1) l0_1)) else (gd (l0_1.length + [x2.to].length ≤ SMALL) (gd (ok64 (s0_0 + 1)) ((z0o t data p0_0 p0_1 kx0_0 n0) (s0_0 + 1) (l0_1 ++ [x2.to]))))) else (gd (l0_1.length + [x2.to].length ≤ SMALL) (gd (ok64 (s0_0 + 1)) ((z0o t data p0_0 p0_1 kx0_0 n0) (s0_0 + 1) (l0_1 ++ [x2.to])))))) else (gd (l0_1.length + [x2.to].length ≤ SMALL) (gd (ok64 (s0_0 + 1)) ((z0o t data p0_0 p0_1 kx0_0 n0) (s0_0 + 1) (l0_1 ++ [x2.to])))))) else (gd (ok64 (s0_0 + 1)) ((z0o t data p0_0 p0_1 kx0_0 n0) (s0_0 + 1) l0_1))))) else (kx0_0 l0_1)
def y0f (t : GTask) (data : List Int) : Option (List Int) := z0o t data t.out (t.out.length : Int) y8z FUEL 0 ([] : List Int)
def z63 : Con := ⟨173, [.v (.s .task) false, .v (.sl .I) false], [((.sl .I), true)], [], fun x => y0f x.1 x.2.1⟩
def ww9 : Fs := ⟨[z4f], [], []⟩
theorem w17 : ww9.Ok Tryz.prog := (fsK z7a fs0)
def yj8 : Tmpl := ⟨[(1, .c (.s .I)), (2, .c (.bx 2 0)), (5, .c (.ref 500005)), (9, .c (.s (.s .flow))), (10, .c .i), (11, .c .i)], [(2, .boxT (.s .task)), (500005, .arr .I true)]⟩
def yb6 : Tmpl := ⟨[(5, .c (.ref 500005))], [(500005, .arr .I true)]⟩
def w7p (av : AV) (x : HP z63.ps) (n : Nat) (v : yj8.den) (K : Ks (CR z63)) : Option (CR z63) := z0o v.2.1 v.1.1 v.1.2.2.2.1 v.1.2.2.2.2.1 (fun l0_1 => yb6.at none (((), ()), (l0_1, ())) (K (.exit 0))) n v.1.2.2.2.2.2.1 v.2.2.1
def yh6 (av : AV) (x : HP z63.ps) : Hdl (CR z63) := hnd [.e 5 500005 .I] yj8 (w7p av x)
theorem w9k : LP z63 Tryz.f173 [0] yh6 := lp_ok (W := []) (H := []) (xs := [yb6]) w17 trivial rfl (fun av x v K => by kernel_rfl) (fun av x n v K => by kernel_rfl)
theorem v0o : z63.Ok Tryz.prog := fn_ok (k := z63) (fn := Tryz.f173) (W := []) (H := [yh6]) Tryz.func173 w17 ⟨w9k, trivial⟩ rfl rfl (fun av x => by kernel_rfl)
def z98 (n : GNet) (l1_1 : List Int) : Option ((List Int) × Bool) := (z4i n l1_1).bind fun x21 => (if x21 = true then (some (l1_1, true)) else (some ([], false)))
def z5g (x14 : (List Int)) (p1_0 : Int) (kx1_0 : List Int → Option ((List Int) × Bool)) : Nat → Int → List Int → Option ((List Int) × Bool)
  | 0, _, _ => none
  | n1 + 1, s1_0, l1_1 => if decide (s1_0 < p1_0) = true then ((getI x14 s1_0).bind fun x16 => ((getI l1_1 x16).bind fun x17 => (gd (ok64 (x17 + 1)) ((getI l1_1 x16).bind fun x19 => (gd (ok64 (s1_0 + 1)) ((z5g x14 p1_0 kx1_0 n1) (s1_0 + 1) (l1_1.set x16.toNat (x17 + 1)))))))) else (kx1_0 l1_1)
def z97 (n : GNet) (t : Int) (data : List Int) (l0_1 : List Int) : Option ((List Int) × Bool) := (getI n.tasks t).bind fun x13 => ((y0f x13 data).bind fun x14 => (z5g x14 (x14.length : Int) (z98 n) FUEL 0 l0_1))
def z5f (p0_0 : List Int) (p0_1 : Int) (kx0_0 : List Int → Option ((List Int) × Bool)) : Nat → Int → List Int → Option ((List Int) × Bool)
  | 0, _, _ => none
  | n0 + 1, s0_0, l0_1 => if decide (s0_0 < p0_1) = true then ((getI p0_0 s0_0).bind fun x10 => ((getI l0_1 x10).bind fun x11 => (gd (ok64 (s0_0 + 1)) ((z5f p0_0 p0_1 kx0_0 n0) (s0_0 + 1) (l0_1.set x10.toNat 0))))) else (kx0_0 l0_1)
def z85 (n : GNet) (marks : List Int) (t : Int) (data : List Int) : Option ((List Int) × Bool) := (zc7 n marks).bind fun x1 => (if x1 = true then ((z0n n t).bind fun x3 => (if x3 = true then ((z3e data).bind fun x5 => (if x5 = true then ((z0g marks).bind fun x7 => ((getI n.tasks t).bind fun x8 => (z5f x8.clear (x8.clear.length : Int) (z97 n t data) FUEL 0 x7))) else (some ([], false)))) else (some ([], false)))) else (some ([], false)))
def z0w : Con := ⟨115, [.v (.s .net) false, .v (.sl .I) false, .v .I false, .v (.sl .I) false], [((.sl .I), true), (.B, true)], [], fun x => z85 x.1 x.2.1 x.2.2.1 x.2.2.2.1⟩
def w85 : Fs := ⟨[zp5, z1r, z5c, z1b, z63, z62], [], []⟩
theorem y1a : w85.Ok Tryz.prog := (fsK y9f (fsK z4k (fsK z7d (fsK z2k (fsK v0o (fsK zq2 fs0))))))
def y6e : Tmpl := ⟨[(2, .c .i), (3, .c (.s .I)), (4, .c (.bx 4 0)), (10, .c (.ref 31)), (37, .c (.s .I)), (38, .c .i), (39, .c .i)], [(4, .boxT (.s .net)), (31, .arr .I true)]⟩
def y3l : Tmpl := ⟨[(2, .c .i), (3, .c (.s .I)), (4, .c (.bx 4 0)), (10, .c (.ref 31))], [(4, .boxT (.s .net)), (31, .arr .I true)]⟩
def w23 (av : AV) (x : HP z0w.ps) (n : Nat) (v : y6e.den) (K : Ks (CR z0w)) : Option (CR z0w) := z5f v.1.2.2.2.2.1 v.1.2.2.2.2.2.1 (fun l0_1 => y3l.at none ((v.1.1, v.1.2.1, (), (), ()), (v.2.1, l0_1, ())) (K (.exit 0))) n v.1.2.2.2.2.2.2.1 v.2.2.1
def y5j (av : AV) (x : HP z0w.ps) : Hdl (CR z0w) := hnd [] y6e (w23 av x)
theorem w2y : LP z0w Tryz.f115 [0] y5j := lp_ok (W := []) (H := []) (xs := [y3l]) y1a trivial rfl (fun av x v K => by kernel_rfl) (fun av x n v K => by kernel_rfl)
def y6f : Tmpl := ⟨[(4, .c (.bx 4 0)), (10, .c (.ref 31)), (53, .c (.ref 53)), (54, .c .i), (55, .c .i)], [(4, .boxT (.s .net)), (31, .arr .I true), (53, .arr .I true)]⟩
def y3m : Tmpl := ⟨[(4, .c (.bx 4 0)), (10, .c (.ref 31))], [(4, .boxT (.s .net)), (31, .arr .I true)]⟩
def w24 (av : AV) (x : HP z0w.ps) (n : Nat) (v : y6f.den) (K : Ks (CR z0w)) : Option (CR z0w) := z5g v.2.2.2.1 v.1.2.2.2.1 (fun l1_1 => y3m.at none (((), (), ()), (v.2.1, l1_1, ())) (K (.exit 2))) n v.1.2.2.2.2.1 v.2.2.1
def y5k (av : AV) (x : HP z0w.ps) : Hdl (CR z0w) := hnd [] y6f (w24 av x)
theorem w2z : LP z0w Tryz.f115 [1] y5k := lp_ok (W := []) (H := []) (xs := [y3m]) y1a trivial rfl (fun av x v K => by kernel_rfl) (fun av x n v K => by kernel_rfl)
theorem wa0 : z0w.Ok Tryz.prog := fn_ok (k := z0w) (fn := Tryz.f115) (W := []) (H := [y5j, y5k]) Tryz.func115 y1a ⟨w2y, w2z, trivial⟩ rfl rfl (fun av x => by kernel_rfl)
def y1r (n : Int) : Option Bool := (z0c n 0 7).bind fun x1 => (some (!x1))
def y20 : FCon := ⟨119, .I, [], fun z c => y1r z ⟩
def w89 : Fs := ⟨[z23], [], []⟩
theorem w94 : w89.Ok Tryz.prog := (fsK z2q fs0)
theorem wa4 : y20.Ok Tryz.prog := FCon.ok (fn_ok (k := y20.con) (fn := Tryz.f119) (W := []) (H := []) Tryz.func119 w94 trivial rfl rfl (fun av x => by kernel_rfl))
def zc8 (people : List Int) : Option Bool := (z0c (people.length : Int) 1 4).bind fun x1 => (if x1 = true then ((z2g people (fun z => y1r z )).bind fun x3 => (some (!x3))) else (some false))
def zp6 : Con := ⟨50, [.v (.sl .I) false], [(.B, true)], [], fun x => zc8 x.1⟩
def ww7 : Fs := ⟨[z23, z4u], [y20], []⟩
theorem wz2 : ww7.Ok Tryz.prog := (fsK z2q (fsK z81 (fsF wa4 fs0)))
theorem y9i : zp6.Ok Tryz.prog := fn_ok (k := zp6) (fn := Tryz.f50) (W := []) (H := []) Tryz.func50 wz2 trivial rfl rfl (fun av x => by kernel_rfl)
def zu5 (people : List Int) (who : Int) (role : Int) : Option Bool := (zc8 people).bind fun x1 => (if x1 = true then ((z0c who 1 (people.length : Int)).bind fun x3 => (if x3 = true then ((zg4 role).bind fun x5 => (if x5 = true then (gd (ok64 (who - 1)) ((getI people (who - 1)).bind fun x8 => (gd (ok64 (role - 1)) (gd ((0 : Int) ≤ (role - 1) ∧ (role - 1) ≤ (63 : Int)) (some (decide ((andI (shrI x8 (role - 1)) 1) = 1))))))) else (some false))) else (some false))) else (some false))
def y4i : Con := ⟨80, [.v (.sl .I) false, .v .I false, .v .I false], [(.B, true)], [], fun x => zu5 x.1 x.2.1 x.2.2.1⟩
def wh0 : Fs := ⟨[zp6, z23, zt7], [], []⟩
theorem wk9 : wh0.Ok Tryz.prog := (fsK y9i (fsK z2q (fsK yu1 fs0)))
theorem wp2 : y4i.Ok Tryz.prog := fn_ok (k := y4i) (fn := Tryz.f80) (W := []) (H := []) Tryz.func80 wk9 trivial rfl rfl (fun av x => by kernel_rfl)
def zu4 (did : List GDid) (who : Int) (task : Int) : Option Bool := (zy3 did (GDid.mk task who)).bind fun x1 => (some x1)
def y4h : Con := ⟨109, [.v (.sl (.s .did)) false, .v .I false, .v .I false], [(.B, true)], [], fun x => zu4 x.1 x.2.1 x.2.2.1⟩
def wg9 : Fs := ⟨[zx9], [], []⟩
theorem wk8 : wg9.Ok Tryz.prog := (fsK w6e fs0)
theorem wp1 : y4h.Ok Tryz.prog := fn_ok (k := y4h) (fn := Tryz.f109) (W := []) (H := []) Tryz.func109 wk8 trivial rfl rfl (fun av x => by kernel_rfl)
def zl9 (l0_1 : List Int) : Option (List Int) := some l0_1
def z3n (p : Int → Option Bool) (p0_0 : Int) (kx0_0 : List Int → Option (List Int)) : Nat → Int → List Int → Option (List Int)
  | 0, _, _ => none
  | n0 + 1, s0_0, l0_1 => if decide (s0_0 < p0_0) = true then (gd (ok64 (s0_0 + 1)) ((p (s0_0 + 1)).bind fun x5 => (if x5 = true then (gd (ok64 (s0_0 + 1)) (gd (l0_1.length + [(s0_0 + 1)].length ≤ SMALL) (gd (ok64 (s0_0 + 1)) ((z3n p p0_0 kx0_0 n0) (s0_0 + 1) (l0_1 ++ [(s0_0 + 1)]))))) else (gd (ok64 (s0_0 + 1)) ((z3n p p0_0 kx0_0 n0) (s0_0 + 1) l0_1))))) else (kx0_0 l0_1)
def y1s (people : List Int) (p : Int → Option Bool) : Option (List Int) := (zc8 people).bind fun x1 => (if x1 = true then (z3n p (people.length : Int) zl9 FUEL 0 ([] : List Int)) else (some []))
def z2r : Con := ⟨105, [.v (.sl .I) false, .fn .I], [((.sl .I), true)], [], fun x => y1s x.1 x.2.1⟩
def w8d : Fs := ⟨[zp6], [], []⟩
theorem yg1 : w8d.Ok Tryz.prog := (fsK y9i fs0)
def y6j : Tmpl := ⟨[(1, .c .fp), (5, .c (.ref 500005)), (11, .c .i), (12, .c .i)], [(500005, .arr .I true)]⟩
def y3q : Tmpl := ⟨[(5, .c (.ref 500005))], [(500005, .arr .I true)]⟩
def w28 (av : AV) (x : HP z2r.ps) (n : Nat) (v : y6j.den) (K : Ks (CR z2r)) : Option (CR z2r) := z3n x.2.1 v.1.2.2.1 (fun l0_1 => y3q.at (fpOf z2r.ps x av) (((), ()), (l0_1, ())) (K (.exit 0))) n v.1.2.2.2.1 v.2.1
def y5o (av : AV) (x : HP z2r.ps) : Hdl (CR z2r) := hnd [.e 5 500005 .I] y6j (w28 av x)
theorem w33 : LP z2r Tryz.f105 [0] y5o := lp_ok (W := []) (H := []) (xs := [y3q]) yg1 trivial rfl (fun av x v K => by kernel_rfl) (fun av x n v K => by kernel_rfl)
theorem wa7 : z2r.Ok Tryz.prog := fn_ok (k := z2r) (fn := Tryz.f105) (W := []) (H := [y5o]) Tryz.func105 yg1 ⟨w33, trivial⟩ rfl rfl (fun av x => by kernel_rfl)
def zl7 (b : GItem) (task : GTask) (who : Int) : Option Bool := if decide (b.task = task.apart) = true then (some (decide (b.who = who))) else (some false)
def zm7 : FCon := ⟨108, (.s .item), [(.s .task), .I], fun z c => zl7 z c.1 c.2.1⟩
def yz0 : Fs := ⟨[], [], []⟩
theorem yz9 : yz0.Ok Tryz.prog := fs0
theorem w0r : zm7.Ok Tryz.prog := FCon.ok (fn_ok (k := zm7.con) (fn := Tryz.f108) (W := []) (H := []) Tryz.func108 yz9 trivial rfl rfl (fun av x => by kernel_rfl))
def z8p (who : Int) (busy : List GItem) (task : GTask) (people : List Int) (did : List GDid) : Option Bool := (z6m busy (fun z => zl7 z task who)).bind fun x1 => ((zu5 people who task.role).bind fun x2 => (if x2 = true then (if x1 = true then (some false) else ((zu4 did who task.apart).bind fun x5 => (some (!x5)))) else (some false)))
def zz1 : FCon := ⟨106, .I, [(.sl (.s .item)), (.s .task), (.sl .I), (.sl (.s .did))], fun z c => z8p z c.1 c.2.1 c.2.2.1 c.2.2.2.1⟩
def w4v : Fs := ⟨[z9n, y4i, y4h], [zm7], []⟩
theorem w5j : w4v.Ok Tryz.prog := (fsK yf5 (fsK wp2 (fsK wp1 (fsF w0r fs0))))
theorem w6i : zz1.Ok Tryz.prog := FCon.ok (fn_ok (k := zz1.con) (fn := Tryz.f106) (W := []) (H := []) Tryz.func106 w5j trivial rfl rfl (fun av x => by kernel_rfl))
def zu6 (n : GNet) (people : List Int) (did : List GDid) (busy : List GItem) (t : Int) : Option (List Int) := (z8o n).bind fun x1 => (if x1 = true then ((z0n n t).bind fun x3 => (if x3 = true then ((getI n.tasks t).bind fun x5 => ((y1s people (fun z => z8p z busy x5 people did)).bind fun x6 => (some x6))) else (some []))) else (some []))
def y4j : Con := ⟨35, [.v (.s .net) false, .v (.sl .I) false, .v (.sl (.s .did)) false, .v (.sl (.s .item)) false, .v .I false], [((.sl .I), true)], [], fun x => zu6 x.1 x.2.1 x.2.2.1 x.2.2.2.1 x.2.2.2.2.1⟩
def wh1 : Fs := ⟨[zc3, z1r, z2r], [zz1], []⟩
theorem wl0 : wh1.Ok Tryz.prog := (fsK y0n (fsK z4k (fsK wa7 (fsF w6i fs0))))
theorem wp3 : y4j.Ok Tryz.prog := fn_ok (k := y4j) (fn := Tryz.f35) (W := []) (H := []) Tryz.func35 wl0 trivial rfl rfl (fun av x => by kernel_rfl)
def zf7 (n : GNet) (data : List Int) : Option GCase := (z8o n).bind fun x1 => (if x1 = true then ((z3e data).bind fun x3 => (if x3 = true then (gd ((0 : Int) ≤ n.places ∧ n.places ≤ (1000000000 : Int)) ((z0g data).bind fun x6 => ((getI (List.replicate n.places.toNat (0 : Int)) 0).bind fun x7 => (some (GCase.mk 1 ((List.replicate n.places.toNat (0 : Int)).set (0 : Int).toNat 1) [] x6 []))))) else (some (GCase.mk 0 [] [] [] [])))) else (some (GCase.mk 0 [] [] [] [])))
def y4f : Con := ⟨65, [.v (.s .net) false, .v (.sl .I) false], [((.s .kase), true)], [], fun x => zf7 x.1 x.2.1⟩
def wg6 : Fs := ⟨[zc3, z5c, z1b], [], []⟩
theorem wk6 : wg6.Ok Tryz.prog := (fsK y0n (fsK z7d (fsK z2k fs0)))
theorem wo8 : y4f.Ok Tryz.prog := fn_ok (k := y4f) (fn := Tryz.f65) (W := []) (H := []) Tryz.func65 wk6 trivial rfl rfl (fun av x => by kernel_rfl)
end
end Go.Am
