/- Mirrors and contracts, printed. Own work. -/
import Derived.Test.YtgolgnbgomhknaaGreatBgD1
set_option maxRecDepth 100000
set_option maxHeartbeats 4000000
set_option linter.unusedVariables false
set_option linter.unusedSimpArgs false
namespace Go.Am
noncomputable section
open Go Go.Proofs
def z03 (n : Int) (low : Int) (high : Int) : Option Bool := if decide (low ≤ n) = true then (some (decide (n ≤ high))) else (some false)
def z0m : Con := ⟨90, [.v .I false, .v .I false, .v .I false], [(.B, true)], [], fun x => z03 x.1 x.2.1 x.2.2.1⟩
def v14 : Fs := ⟨[], [], []⟩
theorem v18 : v14.Ok Tryz.prog := fs0
theorem z0u : z0m.Ok Tryz.prog := fn_ok (k := z0m) (fn := Tryz.f90) (W := []) (H := []) Tryz.func90 v18 trivial rfl rfl (fun av x => by kernel_rfl)
def y89  : Option Bool := some true
def z70 (data : List Int) (kx0_0 : Option Bool) : Nat → Int → Option Bool
  | 0, _ => none
  | n0 + 1, s0_0 => if decide (s0_0 < (data.length : Int)) = true then ((getI data s0_0).bind fun x3 => ((z03 x3 (-99) 99).bind fun x4 => (if x4 = true then (gd (ok64 (s0_0 + 1)) ((z70 data kx0_0 n0) (s0_0 + 1))) else (some false)))) else (kx0_0)
def z2o (data : List Int) : Option Bool := if decide ((data.length : Int) = 3) = true then (z70 data y89 FUEL 0) else (some false)
def z17 : Con := ⟨89, [.v (.sl .I) false], [(.B, true)], [], fun x => z2o x.1⟩
def ws3 : Fs := ⟨[z0m], [], []⟩
theorem w08 : ws3.Ok Tryz.prog := (fsK z0u fs0)
def yh7 : Tmpl := ⟨[(0, .c (.s .I)), (3, .c .i)], []⟩
def y9u : Tmpl := ⟨[], []⟩
def w6t (av : AV) (x : HP z17.ps) (n : Nat) (v : yh7.den) (K : Ks (CR z17)) : Option (CR z17) := z70 v.1.1 (y9u.at none ((), ()) (K (.exit 0))) n v.1.2.1
def yf2 (av : AV) (x : HP z17.ps) : Hdl (CR z17) := hnd [] yh7 (w6t av x)
theorem w8i : LP z17 Tryz.f89 [0] yf2 := lp_ok (W := []) (H := []) (xs := [y9u]) w08 trivial rfl (fun av x v K => by kernel_rfl) (fun av x n v K => by kernel_rfl)
theorem z6g : z17.Ok Tryz.prog := fn_ok (k := z17) (fn := Tryz.f89) (W := []) (H := [yf2]) Tryz.func89 w08 ⟨w8i, trivial⟩ rfl rfl (fun av x => by kernel_rfl)
def z7l (data : List Int) (k : Int) (n : Int) : Option (List Int) := (z2o data).bind fun x1 => (if x1 = true then ((z03 k 0 2).bind fun x3 => (if x3 = true then ((z03 n (-99) 99).bind fun x5 => (if x5 = true then (gd (([] : List Int).length + data.length ≤ SMALL) ((getI (([] : List Int) ++ data) k).bind fun x8 => (some ((([] : List Int) ++ data).set k.toNat n)))) else (gd (([] : List Int).length + data.length ≤ SMALL) (some (([] : List Int) ++ data))))) else (gd (([] : List Int).length + data.length ≤ SMALL) (some (([] : List Int) ++ data))))) else (gd (([] : List Int).length + data.length ≤ SMALL) (some (([] : List Int) ++ data))))
def zs1 : Con := ⟨171, [.v (.sl .I) false, .v .I false, .v .I false], [((.sl .I), true)], [], fun x => z7l x.1 x.2.1 x.2.2.1⟩
def wd7 : Fs := ⟨[z17, z0m], [], []⟩
theorem wh3 : wd7.Ok Tryz.prog := (fsK z6g (fsK z0u fs0))
theorem yr1 : zs1.Ok Tryz.prog := fn_ok (k := zs1) (fn := Tryz.f171) (W := []) (H := []) Tryz.func171 wh3 trivial rfl rfl (fun av x => by kernel_rfl)
def z6b (e : GAsk) : Option Bool := if decide (e.op = 0) = true then (some (decide ([e.op, e.var, e.k] = [0, 0, 0]))) else ((z03 e.op 1 3).bind fun x2 => (if x2 = true then ((z03 e.var 0 2).bind fun x4 => (if x4 = true then ((z03 e.k (-99) 99).bind fun x6 => (some x6)) else (some false))) else (some false)))
def z8j : Con := ⟨138, [.v (.s .ask) false], [(.B, true)], [], fun x => z6b x.1⟩
def ws6 : Fs := ⟨[z0m], [], []⟩
theorem wu6 : ws6.Ok Tryz.prog := (fsK z0u fs0)
theorem zo0 : z8j.Ok Tryz.prog := fn_ok (k := z8j) (fn := Tryz.f138) (W := []) (H := []) Tryz.func138 wu6 trivial rfl rfl (fun av x => by kernel_rfl)
def z1b (e : GAsk) (data : List Int) : Option Bool := (z6b e).bind fun x1 => (if x1 = true then ((z2o data).bind fun x3 => (if x3 = true then (if decide (e.op = 1) = true then ((getI data e.var).bind fun x6 => (some (decide (x6 < e.k)))) else (if decide (e.op = 2) = true then ((getI data e.var).bind fun x8 => (some (decide (x8 = e.k)))) else (if decide (e.op = 3) = true then ((getI data e.var).bind fun x10 => (some (decide (e.k < x10)))) else (some true)))) else (some false))) else (some false))
def z49 : Con := ⟨181, [.v (.s .ask) false, .v (.sl .I) false], [(.B, true)], [], fun x => z1b x.1 x.2.1⟩
def w44 : Fs := ⟨[z8j, z17], [], []⟩
theorem w4o : w44.Ok Tryz.prog := (fsK zo0 (fsK z6g fs0))
theorem z79 : z49.Ok Tryz.prog := fn_ok (k := z49) (fn := Tryz.f181) (W := []) (H := []) Tryz.func181 w4o trivial rfl rfl (fun av x => by kernel_rfl)
def z0c (n : Int) (low : Int) (high : Int) : Option Bool := if decide (low ≤ n) = true then (some (decide (n ≤ high))) else (some false)
def z20 : Con := ⟨113, [.v .I false, .v .I false, .v .I false], [(.B, true)], [], fun x => z0c x.1 x.2.1 x.2.2.1⟩
def v5o : Fs := ⟨[], [], []⟩
theorem v5z : v5o.Ok Tryz.prog := fs0
theorem z2q : z20.Ok Tryz.prog := fn_ok (k := z20) (fn := Tryz.f113) (W := []) (H := []) Tryz.func113 v5z trivial rfl rfl (fun av x => by kernel_rfl)
def z56 (n : Int) : Option Bool := (z0c n (-99) 99).bind fun x1 => (some x1)
def z80 : Con := ⟨114, [.v .I false], [(.B, true)], [], fun x => z56 x.1⟩
def w7b : Fs := ⟨[z20], [], []⟩
theorem w80 : w7b.Ok Tryz.prog := (fsK z2q fs0)
theorem zm6 : z80.Ok Tryz.prog := fn_ok (k := z80) (fn := Tryz.f114) (W := []) (H := []) Tryz.func114 w80 trivial rfl rfl (fun av x => by kernel_rfl)
def z0l (list : List Int) : Option (List Int) := gd (([] : List Int).length + list.length ≤ SMALL) (some (([] : List Int) ++ list))
def z1s : Con := ⟨140, [.v (.sl .I) false], [((.sl .I), true)], [], fun x => z0l x.1⟩
def w1m : Fs := ⟨[], [], []⟩
theorem w1t : w1m.Ok Tryz.prog := fs0
theorem z3g : z1s.Ok Tryz.prog := fn_ok (k := z1s) (fn := Tryz.f140) (W := []) (H := []) Tryz.func140 w1t trivial rfl rfl (fun av x => by kernel_rfl)
def z7a (e : GAsk) : Option Bool := if decide (e.op = 0) = true then (if decide (e.var = 0) = true then (some (decide (e.k = 0))) else (some false)) else ((z0c e.op 1 3).bind fun x3 => (if x3 = true then ((z0c e.var 0 2).bind fun x5 => (if x5 = true then ((z56 e.k).bind fun x7 => (some x7)) else (some false))) else (some false)))
def zn3 : Con := ⟨141, [.v (.s .ask) false], [(.B, true)], [], fun x => z7a x.1⟩
def wr4 : Fs := ⟨[z20, z80], [], []⟩
theorem wu1 : wr4.Ok Tryz.prog := (fsK z2q (fsK zm6 fs0))
theorem y8m : zn3.Ok Tryz.prog := fn_ok (k := zn3) (fn := Tryz.f141) (W := []) (H := []) Tryz.func141 wu1 trivial rfl rfl (fun av x => by kernel_rfl)
def y28  : Option Bool := some true
def z3r (list : List Int) (low : Int) (high : Int) (kx0_0 : Option Bool) : Nat → Int → Option Bool
  | 0, _ => none
  | n0 + 1, s0_0 => if decide (s0_0 < (list.length : Int)) = true then ((getI list s0_0).bind fun x4 => ((z03 x4 low high).bind fun x5 => (if x5 = true then (if decide (0 < s0_0) = true then (gd (ok64 (s0_0 - 1)) ((getI list (s0_0 - 1)).bind fun x9 => ((getI list s0_0).bind fun x10 => (if decide (x10 ≤ x9) = true then (some false) else (gd (ok64 (s0_0 + 1)) ((z3r list low high kx0_0 n0) (s0_0 + 1))))))) else (gd (ok64 (s0_0 + 1)) ((z3r list low high kx0_0 n0) (s0_0 + 1)))) else (some false)))) else (kx0_0)
def z9u (list : List Int) (least : Int) (most : Int) (low : Int) (high : Int) : Option Bool := (z03 (list.length : Int) least most).bind fun x1 => (if x1 = true then (z3r list low high y28 FUEL 0) else (some false))
def z43 : Con := ⟨214, [.v (.sl .I) false, .v .I false, .v .I false, .v .I false, .v .I false], [(.B, true)], [], fun x => z9u x.1 x.2.1 x.2.2.1 x.2.2.2.1 x.2.2.2.2.1⟩
def w7t : Fs := ⟨[z0m], [], []⟩
theorem ye2 : w7t.Ok Tryz.prog := (fsK z0u fs0)
def y61 : Tmpl := ⟨[(0, .c (.s .I)), (3, .c .i), (4, .c .i), (11, .c .i)], []⟩
def y36 : Tmpl := ⟨[], []⟩
def w1i (av : AV) (x : HP z43.ps) (n : Nat) (v : y61.den) (K : Ks (CR z43)) : Option (CR z43) := z3r v.1.1 v.1.2.1 v.1.2.2.1 (y36.at none ((), ()) (K (.exit 0))) n v.1.2.2.2.1
def y55 (av : AV) (x : HP z43.ps) : Hdl (CR z43) := hnd [] y61 (w1i av x)
theorem w2g : LP z43 Tryz.f214 [0] y55 := lp_ok (W := []) (H := []) (xs := [y36]) ye2 trivial rfl (fun av x v K => by kernel_rfl) (fun av x n v K => by kernel_rfl)
theorem w9d : z43.Ok Tryz.prog := fn_ok (k := z43) (fn := Tryz.f214) (W := []) (H := [y55]) Tryz.func214 ye2 ⟨w2g, trivial⟩ rfl rfl (fun av x => by kernel_rfl)
def y8j  : Option Bool := some false
def z77 (list : List Int) (n : Int) (kx0_0 : Option Bool) : Nat → Int → Option Bool
  | 0, _ => none
  | n0 + 1, s0_0 => if decide (s0_0 < (list.length : Int)) = true then ((getI list s0_0).bind fun x2 => (if decide (x2 = n) = true then (some true) else (gd (ok64 (s0_0 + 1)) ((z77 list n kx0_0 n0) (s0_0 + 1))))) else (kx0_0)
def zc1 (list : List Int) (n : Int) : Option Bool := z77 list n y8j FUEL 0
def z4a : Con := ⟨101, [.v (.sl .I) false, .v .I false], [(.B, true)], [], fun x => zc1 x.1 x.2.1⟩
def wt2 : Fs := ⟨[], [], []⟩
theorem w0e : wt2.Ok Tryz.prog := fs0
def yi4 : Tmpl := ⟨[(0, .c (.s .I)), (1, .c .i), (5, .c .i)], []⟩
def ya0 : Tmpl := ⟨[], []⟩
def w70 (av : AV) (x : HP z4a.ps) (n : Nat) (v : yi4.den) (K : Ks (CR z4a)) : Option (CR z4a) := z77 v.1.1 v.1.2.1 (ya0.at none ((), ()) (K (.exit 0))) n v.1.2.2.1
def yf9 (av : AV) (x : HP z4a.ps) : Hdl (CR z4a) := hnd [] yi4 (w70 av x)
theorem w8p : LP z4a Tryz.f101 [0] yf9 := lp_ok (W := []) (H := []) (xs := [ya0]) w0e trivial rfl (fun av x v K => by kernel_rfl) (fun av x n v K => by kernel_rfl)
theorem y8x : z4a.Ok Tryz.prog := fn_ok (k := z4a) (fn := Tryz.f101) (W := []) (H := [yf9]) Tryz.func101 w0e ⟨w8p, trivial⟩ rfl rfl (fun av x => by kernel_rfl)
def y25 (s0_0 : Int) (bk0 : Int → Option Bool) : Option Bool := gd (ok64 (s0_0 + 1)) (bk0 (s0_0 + 1))
def z2p (t : GTask) (s0_0 : Int) (x4 : GFlow) (kx1_0 : Option Bool) : Nat → Int → Option Bool
  | 0, _ => none
  | n1 + 1, s1_0 => if decide (s1_0 < s0_0) = true then ((getI t.out s1_0).bind fun x14 => (if decide (x14.to = x4.to) = true then (some false) else (gd (ok64 (s1_0 + 1)) ((z2p t s0_0 x4 kx1_0 n1) (s1_0 + 1))))) else (kx1_0)
def y26 (s0_0 : Int) (bk0 : Int → Option Bool) : Option Bool := gd (ok64 (s0_0 + 1)) (bk0 (s0_0 + 1))
def y27  : Option Bool := some true
def z3q (t : GTask) (places : Int) (kx0_0 : Option Bool) : Nat → Int → Option Bool
  | 0, _ => none
  | n0 + 1, s0_0 => if decide (s0_0 < (t.out.length : Int)) = true then ((getI t.out s0_0).bind fun x4 => (gd (ok64 ((t.out.length : Int) - 1)) (if decide (s0_0 = ((t.out.length : Int) - 1)) = true then (gd (ok64 (places - 1)) ((z03 x4.to 1 (places - 1)).bind fun x8 => (if x8 = true then ((z6b x4.if_).bind fun x10 => (if x10 = true then (if (true == (decide (x4.if_.op = 0))) = true then (z2p t s0_0 x4 (y25 s0_0 (z3q t places kx0_0 n0)) FUEL 0) else (some false)) else (some false))) else (some false)))) else (gd (ok64 (places - 1)) ((z03 x4.to 1 (places - 1)).bind fun x19 => (if x19 = true then ((z6b x4.if_).bind fun x21 => (if x21 = true then (if ((decide (t.split = 1)) == (decide (x4.if_.op = 0))) = true then (z2p t s0_0 x4 (y26 s0_0 (z3q t places kx0_0 n0)) FUEL 0) else (some false)) else (some false))) else (some false))))))) else (kx0_0)
def zm5 (t : GTask) (places : Int) : Option Bool := (z03 (t.out.length : Int) 1 3).bind fun x1 => (if x1 = true then (z3q t places y27 FUEL 0) else (some false))
def z0y : Con := ⟨215, [.v (.s .task) false, .v .I false], [(.B, true)], [], fun x => zm5 x.1 x.2.1⟩
def w7s : Fs := ⟨[z0m, z8j], [], []⟩
theorem y0q : w7s.Ok Tryz.prog := (fsK z0u (fsK zo0 fs0))
def y09 : Tmpl := ⟨[(1, .c .i), (2, .c (.bx 2 0)), (5, .c .i), (6, .c (.bx 6 0)), (8, .c .i)], [(2, .boxT (.s .task)), (6, .boxT (.s .flow))]⟩
def zy1 : Tmpl := ⟨[(1, .c .i), (2, .c (.bx 2 0)), (5, .c .i)], [(2, .boxT (.s .task))]⟩
def ym0 (av : AV) (x : HP z0y.ps) (n : Nat) (v : y09.den) (K : Ks (CR z0y)) : Option (CR z0y) := z2p v.2.1 v.1.2.2.1 v.2.2.1 (zy1.at none ((v.1.1, (), v.1.2.2.1, ()), (v.2.1, ())) (K (.exit 2))) n v.1.2.2.2.2.1
def zy8 (av : AV) (x : HP z0y.ps) : Hdl (CR z0y) := hnd [] y09 (ym0 av x)
theorem yp6 : LP z0y Tryz.f215 [0, 0] zy8 := lp_ok (W := []) (H := []) (xs := [zy1]) y0q trivial rfl (fun av x v K => by kernel_rfl) (fun av x n v K => by kernel_rfl)
def y60 : Tmpl := ⟨[(1, .c .i), (2, .c (.bx 2 0)), (5, .c .i)], [(2, .boxT (.s .task))]⟩
def y35 : Tmpl := ⟨[], []⟩
def w1h (av : AV) (x : HP z0y.ps) (n : Nat) (v : y60.den) (K : Ks (CR z0y)) : Option (CR z0y) := z3q v.2.1 v.1.1 (y35.at none ((), ()) (K (.exit 0))) n v.1.2.2.1
def y54 (av : AV) (x : HP z0y.ps) : Hdl (CR z0y) := hnd [] y60 (w1h av x)
theorem w2f : LP z0y Tryz.f215 [0] y54 := lp_ok (W := []) (H := [zy8]) (xs := [y35]) y0q ⟨yp6, trivial⟩ rfl (fun av x v K => by kernel_rfl) (fun av x n v K => by kernel_rfl)
theorem w9c : z0y.Ok Tryz.prog := fn_ok (k := z0y) (fn := Tryz.f215) (W := []) (H := [y54]) Tryz.func215 y0q ⟨w2f, trivial⟩ rfl rfl (fun av x => by kernel_rfl)
def zt9 (t : GTask) (places : Int) (tasks : Int) : Option Bool := (z03 t.join 1 3).bind fun x1 => (if x1 = true then ((z03 t.split 1 3).bind fun x3 => (if x3 = true then (gd (ok64 (places - 1)) ((z9u t.in_ 1 3 0 (places - 1)).bind fun x6 => (if x6 = true then ((zc1 t.in_ 1).bind fun x8 => (if x8 = true then (some false) else ((zm5 t places).bind fun x10 => (if x10 = true then (gd (ok64 (places - 1)) ((z9u t.clear 0 places 2 (places - 1)).bind fun x13 => (if x13 = true then ((z03 t.role 1 3).bind fun x15 => (if x15 = true then (gd (ok64 (tasks - 1)) ((z03 t.apart (-1) (tasks - 1)).bind fun x18 => (if x18 = true then ((z03 t.all 1 3).bind fun x20 => (if x20 = true then ((z03 t.need 1 t.all).bind fun x22 => (some x22)) else (some false))) else (some false)))) else (some false))) else (some false)))) else (some false))))) else (some false)))) else (some false))) else (some false))
def y3v : Con := ⟨198, [.v (.s .task) false, .v .I false, .v .I false], [(.B, true)], [], fun x => zt9 x.1 x.2.1 x.2.2.1⟩
def we9 : Fs := ⟨[z0m, z43, z4a, z0y], [], []⟩
theorem wi0 : we9.Ok Tryz.prog := (fsK z0u (fsK w9d (fsK y8x (fsK w9c fs0))))
theorem wl9 : y3v.Ok Tryz.prog := fn_ok (k := y3v) (fn := Tryz.f198) (W := []) (H := []) Tryz.func198 wi0 trivial rfl rfl (fun av x => by kernel_rfl)
def y8c  : Option Bool := some true
def z74 (n : GNet) (kx0_0 : Option Bool) : Nat → Int → Option Bool
  | 0, _ => none
  | n0 + 1, s0_0 => if decide (s0_0 < (n.tasks.length : Int)) = true then ((getI n.tasks s0_0).bind fun x6 => ((zt9 x6 n.places (n.tasks.length : Int)).bind fun x7 => (if x7 = true then (gd (ok64 (s0_0 + 1)) ((z74 n kx0_0 n0) (s0_0 + 1))) else (some false)))) else (kx0_0)
def z3d (n : GNet) : Option Bool := (z03 n.places 2 8).bind fun x1 => (if x1 = true then ((z03 (n.tasks.length : Int) 1 6).bind fun x3 => (if x3 = true then (z74 n y8c FUEL 0) else (some false))) else (some false))
def z2m : Con := ⟨161, [.v (.s .net) false], [(.B, true)], [], fun x => z3d x.1⟩
def ws8 : Fs := ⟨[z0m, y3v], [], []⟩
theorem w0b : ws8.Ok Tryz.prog := (fsK z0u (fsK wl9 fs0))
def yi0 : Tmpl := ⟨[(1, .c (.bx 1 0)), (3, .c .i)], [(1, .boxT (.s .net))]⟩
def y9x : Tmpl := ⟨[], []⟩
def w6w (av : AV) (x : HP z2m.ps) (n : Nat) (v : yi0.den) (K : Ks (CR z2m)) : Option (CR z2m) := z74 v.2.1 (y9x.at none ((), ()) (K (.exit 0))) n v.1.2.1
def yf5 (av : AV) (x : HP z2m.ps) : Hdl (CR z2m) := hnd [] yi0 (w6w av x)
theorem w8l : LP z2m Tryz.f161 [0] yf5 := lp_ok (W := []) (H := []) (xs := [y9x]) w0b trivial rfl (fun av x v K => by kernel_rfl) (fun av x n v K => by kernel_rfl)
theorem zo1 : z2m.Ok Tryz.prog := fn_ok (k := z2m) (fn := Tryz.f161) (W := []) (H := [yf5]) Tryz.func161 w0b ⟨w8l, trivial⟩ rfl rfl (fun av x => by kernel_rfl)
def zg6 (s1_0 : Int) (bk1 : Int → List Bool → Option (List Bool)) (l3_1 : List Bool) : Option (List Bool) := gd (ok64 (s1_0 + 1)) (bk1 (s1_0 + 1) l3_1)
def zg7 (s1_0 : Int) (bk1 : Int → List Bool → Option (List Bool)) (l3_1 : List Bool) : Option (List Bool) := gd (ok64 (s1_0 + 1)) (bk1 (s1_0 + 1) l3_1)
def zg8 (s1_0 : Int) (bk1 : Int → List Bool → Option (List Bool)) (l3_1 : List Bool) : Option (List Bool) := gd (ok64 (s1_0 + 1)) (bk1 (s1_0 + 1) l3_1)
def z1i (n : GNet) (but : Int) (s1_0 : Int) (s2_0 : Bool) (kx3_0 : List Bool → Option (List Bool)) (kx3_1 : List Bool → Option (List Bool)) (kx3_2 : List Bool → Option (List Bool)) : Nat → Int → List Bool → Option (List Bool)
  | 0, _, _ => none
  | n3 + 1, s3_0, l3_1 => (getI n.tasks s1_0).bind fun x12 => (if decide (s3_0 < (x12.out.length : Int)) = true then (if s2_0 = true then (if decide (s1_0 = but) = true then (kx3_0 l3_1) else ((getI n.tasks s1_0).bind fun x17 => ((getI x17.out s3_0).bind fun x18 => ((getI l3_1 x18.to).bind fun x19 => (gd (ok64 (s3_0 + 1)) ((z1i n but s1_0 s2_0 kx3_0 kx3_1 kx3_2 n3) (s3_0 + 1) (l3_1.set x18.to.toNat true))))))) else (kx3_1 l3_1)) else (kx3_2 l3_1))
def zz9 (n : GNet) (but : Int) (s1_0 : Int) (l1_1 : List Bool) (bk1 : Int → List Bool → Option (List Bool)) (s2_0 : Bool) : Option (List Bool) := z1i n but s1_0 s2_0 (zg6 s1_0 bk1) (zg7 s1_0 bk1) (zg8 s1_0 bk1) FUEL 0 l1_1
def z24 (n : GNet) (s1_0 : Int) (l1_1 : List Bool) (kx2_0 : Bool → Option (List Bool)) : Nat → Bool → Int → Option (List Bool)
  | 0, _, _ => none
  | n2 + 1, s2_0, s2_1 => (getI n.tasks s1_0).bind fun x4 => (if decide (s2_1 < (x4.in_.length : Int)) = true then (if s2_0 = true then (gd (ok64 (s2_1 + 1)) ((z24 n s1_0 l1_1 kx2_0 n2) true (s2_1 + 1))) else ((getI n.tasks s1_0).bind fun x8 => ((getI x8.in_ s2_1).bind fun x9 => ((getI l1_1 x9).bind fun x10 => (gd (ok64 (s2_1 + 1)) ((z24 n s1_0 l1_1 kx2_0 n2) x10 (s2_1 + 1))))))) else (kx2_0 s2_0))
def y00 (s0_0 : Int) (bk0 : Int → List Bool → Option (List Bool)) (l1_1 : List Bool) : Option (List Bool) := gd (ok64 (s0_0 + 1)) (bk0 (s0_0 + 1) l1_1)
def z0j (n : GNet) (but : Int) (kx1_0 : List Bool → Option (List Bool)) : Nat → Int → List Bool → Option (List Bool)
  | 0, _, _ => none
  | n1 + 1, s1_0, l1_1 => if decide (s1_0 < (n.tasks.length : Int)) = true then (z24 n s1_0 l1_1 (zz9 n but s1_0 l1_1 (z0j n but kx1_0 n1)) FUEL false 0) else (kx1_0 l1_1)
def y01 (l0_1 : List Bool) : Option (List Bool) := some l0_1
def z4k (n : GNet) (but : Int) (kx0_0 : List Bool → Option (List Bool)) : Nat → Int → List Bool → Option (List Bool)
  | 0, _, _ => none
  | n0 + 1, s0_0, l0_1 => if decide (s0_0 < n.places) = true then (z0j n but (y00 s0_0 (z4k n but kx0_0 n0)) FUEL 0 l0_1) else (kx0_0 l0_1)
def zg5 (n : GNet) (marked : List Bool) (but : Int) : Option (List Bool) := gd (([] : List Bool).length + marked.length ≤ SMALL) (z4k n but y01 FUEL 0 (([] : List Bool) ++ marked))
def z06 : Con := ⟨216, [.v (.s .net) false, .v (.sl .B) false, .v .I false], [((.sl .B), true)], [], fun x => zg5 x.1 x.2.1 x.2.2.1⟩
def w49 : Fs := ⟨[], [], []⟩
theorem z8e : w49.Ok Tryz.prog := fs0
def zo5 : Tmpl := ⟨[(2, .c .i), (3, .c (.bx 3 0)), (7, .c (.ref 15)), (8, .c .i), (9, .c .i), (10, .c .b), (11, .c .i)], [(3, .boxT (.s .net)), (15, .arr .B true)]⟩
def zj7 : Tmpl := ⟨[(2, .c .i), (3, .c (.bx 3 0)), (7, .c (.ref 15)), (8, .c .i), (9, .c .i), (10, .c .b)], [(3, .boxT (.s .net)), (15, .arr .B true)]⟩
def y6q (av : AV) (x : HP z06.ps) (n : Nat) (v : zo5.den) (K : Ks (CR z06)) : Option (CR z06) := z24 v.2.1 v.1.2.2.2.2.1 v.2.2.1 (fun s2_0 => zj7.at none ((v.1.1, (), (), v.1.2.2.2.1, v.1.2.2.2.2.1, s2_0, ()), (v.2.1, v.2.2.1, ())) (K (.exit 4))) n v.1.2.2.2.2.2.1 v.1.2.2.2.2.2.2.1
def zn0 (av : AV) (x : HP z06.ps) : Hdl (CR z06) := hnd [] zo5 (y6q av x)
theorem y80 : LP z06 Tryz.f216 [0, 0, 0] zn0 := lp_ok (W := []) (H := []) (xs := [zj7]) z8e trivial rfl (fun av x v K => by kernel_rfl) (fun av x n v K => by kernel_rfl)
def zo6 : Tmpl := ⟨[(2, .c .i), (3, .c (.bx 3 0)), (7, .c (.ref 15)), (8, .c .i), (9, .c .i), (10, .c .b), (12, .c .i)], [(3, .boxT (.s .net)), (15, .arr .B true)]⟩
def z5j : Tmpl := ⟨[(2, .c .i), (3, .c (.bx 3 0)), (7, .c (.ref 15)), (8, .c .i), (9, .c .i)], [(3, .boxT (.s .net)), (15, .arr .B true)]⟩
def y6r (av : AV) (x : HP z06.ps) (n : Nat) (v : zo6.den) (K : Ks (CR z06)) : Option (CR z06) := z1i v.2.1 v.1.1 v.1.2.2.2.2.1 v.1.2.2.2.2.2.1 (fun l3_1 => z5j.at none ((v.1.1, (), (), v.1.2.2.2.1, v.1.2.2.2.2.1, ()), (v.2.1, l3_1, ())) (K (.exit 6))) (fun l3_1 => z5j.at none ((v.1.1, (), (), v.1.2.2.2.1, v.1.2.2.2.2.1, ()), (v.2.1, l3_1, ())) (K (.exit 6))) (fun l3_1 => z5j.at none ((v.1.1, (), (), v.1.2.2.2.1, v.1.2.2.2.2.1, ()), (v.2.1, l3_1, ())) (K (.exit 6))) n v.1.2.2.2.2.2.2.1 v.2.2.1
def zn1 (av : AV) (x : HP z06.ps) : Hdl (CR z06) := hnd [] zo6 (y6r av x)
theorem y81 : LP z06 Tryz.f216 [0, 0, 1] zn1 := lp_ok (W := []) (H := []) (xs := [z5j]) z8e trivial rfl (fun av x v K => by kernel_rfl) (fun av x n v K => by kernel_rfl)
def zx8 : Tmpl := ⟨[(2, .c .i), (3, .c (.bx 3 0)), (7, .c (.ref 15)), (8, .c .i), (9, .c .i)], [(3, .boxT (.s .net)), (15, .arr .B true)]⟩
def zr0 : Tmpl := ⟨[(2, .c .i), (3, .c (.bx 3 0)), (7, .c (.ref 15)), (8, .c .i)], [(3, .boxT (.s .net)), (15, .arr .B true)]⟩
def yi9 (av : AV) (x : HP z06.ps) (n : Nat) (v : zx8.den) (K : Ks (CR z06)) : Option (CR z06) := z0j v.2.1 v.1.1 (fun l1_1 => zr0.at none ((v.1.1, (), (), v.1.2.2.2.1, ()), (v.2.1, l1_1, ())) (K (.exit 2))) n v.1.2.2.2.2.1 v.2.2.1
def zv7 (av : AV) (x : HP z06.ps) : Hdl (CR z06) := hnd [] zx8 (yi9 av x)
theorem yk5 : LP z06 Tryz.f216 [0, 0] zv7 := lp_ok (W := []) (H := [zn0, zn1]) (xs := [zr0]) z8e ⟨y80, y81, trivial⟩ rfl (fun av x v K => by kernel_rfl) (fun av x n v K => by kernel_rfl)
def y2l : Tmpl := ⟨[(2, .c .i), (3, .c (.bx 3 0)), (7, .c (.ref 15)), (8, .c .i)], [(3, .boxT (.s .net)), (15, .arr .B true)]⟩
def y0h : Tmpl := ⟨[(7, .c (.ref 15))], [(15, .arr .B true)]⟩
def yu6 (av : AV) (x : HP z06.ps) (n : Nat) (v : y2l.den) (K : Ks (CR z06)) : Option (CR z06) := z4k v.2.1 v.1.1 (fun l0_1 => y0h.at none (((), ()), (l0_1, ())) (K (.exit 0))) n v.1.2.2.2.1 v.2.2.1
def y1r (av : AV) (x : HP z06.ps) : Hdl (CR z06) := hnd [] y2l (yu6 av x)
theorem yy0 : LP z06 Tryz.f216 [0] y1r := lp_ok (W := []) (H := [zv7]) (xs := [y0h]) z8e ⟨yk5, trivial⟩ rfl (fun av x v K => by kernel_rfl) (fun av x n v K => by kernel_rfl)
theorem w5o : z06.Ok Tryz.prog := fn_ok (k := z06) (fn := Tryz.f216) (W := []) (H := [y1r]) Tryz.func216 z8e ⟨yy0, trivial⟩ rfl rfl (fun av x => by kernel_rfl)
def zt0 (kind : Int) : Option Bool := (z0c kind 1 3).bind fun x1 => (some x1)
def y3s : Con := ⟨177, [.v .I false], [(.B, true)], [], fun x => zt0 x.1⟩
def wc9 : Fs := ⟨[z20], [], []⟩
theorem wg9 : wc9.Ok Tryz.prog := (fsK z2q fs0)
theorem wl0 : y3s.Ok Tryz.prog := fn_ok (k := y3s) (fn := Tryz.f177) (W := []) (H := []) Tryz.func177 wg9 trivial rfl rfl (fun av x => by kernel_rfl)
def zf2 (role : Int) : Option Bool := (z0c role 1 3).bind fun x1 => (some x1)
def zr8 : Con := ⟨151, [.v .I false], [(.B, true)], [], fun x => zf2 x.1⟩
def wd0 : Fs := ⟨[z20], [], []⟩
theorem wh0 : wd0.Ok Tryz.prog := (fsK z2q fs0)
theorem yq8 : zr8.Ok Tryz.prog := fn_ok (k := zr8) (fn := Tryz.f151) (W := []) (H := []) Tryz.func151 wh0 trivial rfl rfl (fun av x => by kernel_rfl)
def y13 (places : Int) (tasks : Int) : Option Bool := (z0c places 2 8).bind fun x1 => (if x1 = true then ((z0c tasks 1 6).bind fun x3 => (some x3)) else (some false))
def y0t : Con := ⟨122, [.v .I false, .v .I false], [(.B, true)], [], fun x => y13 x.1 x.2.1⟩
def w7e : Fs := ⟨[z20], [], []⟩
theorem w82 : w7e.Ok Tryz.prog := (fsK z2q fs0)
theorem w91 : y0t.Ok Tryz.prog := fn_ok (k := y0t) (fn := Tryz.f122) (W := []) (H := []) Tryz.func122 w82 trivial rfl rfl (fun av x => by kernel_rfl)
def z0n (n : GNet) (t : Int) : Option Bool := gd (ok64 ((n.tasks.length : Int) - 1)) ((z0c t 0 ((n.tasks.length : Int) - 1)).bind fun x2 => (some x2))
def z1o : Con := ⟨96, [.v (.s .net) false, .v .I false], [(.B, true)], [], fun x => z0n x.1 x.2.1⟩
def y6v : Fs := ⟨[z20], [], []⟩
theorem y6y : y6v.Ok Tryz.prog := (fsK z2q fs0)
theorem z4d : z1o.Ok Tryz.prog := fn_ok (k := z1o) (fn := Tryz.f96) (W := []) (H := []) Tryz.func96 y6y trivial rfl rfl (fun av x => by kernel_rfl)
def z6m (t : GTask) : Option GTask := (z0l t.in_).bind fun x1 => (gd (([] : List GFlow).length + t.out.length ≤ SMALL) ((z0l t.clear).bind fun x3 => (some (GTask.mk t.join t.split x1 (([] : List GFlow) ++ t.out) x3 t.role t.apart t.all t.need))))
def z9k : Con := ⟨207, [.v (.s .task) false], [((.s .task), true)], [], fun x => z6m x.1⟩
def yc2 : Fs := ⟨[z1s], [], []⟩
theorem yc7 : yc2.Ok Tryz.prog := (fsK z3g fs0)
theorem yd1 : z9k.Ok Tryz.prog := fn_ok (k := z9k) (fn := Tryz.f207) (W := []) (H := []) Tryz.func207 yc7 trivial rfl rfl (fun av x => by kernel_rfl)
def z86 (p0_3 : Int) (l0_1 : List GTask) : Option GNet := some (GNet.mk p0_3 l0_1)
def z29 (p0_0 : List GTask) (p0_1 : Int) (kx0_0 : List GTask → Option GNet) : Nat → Int → List GTask → Option GNet
  | 0, _, _ => none
  | n0 + 1, s0_0, l0_1 => if decide (s0_0 < p0_1) = true then ((getI p0_0 s0_0).bind fun x2 => ((z6m x2).bind fun x3 => (gd (l0_1.length + [x3].length ≤ SMALL) (gd (ok64 (s0_0 + 1)) ((z29 p0_0 p0_1 kx0_0 n0) (s0_0 + 1) (l0_1 ++ [x3])))))) else (kx0_0 l0_1)
def z7h (n : GNet) : Option GNet := z29 n.tasks (n.tasks.length : Int) (z86 n.places) FUEL 0 ([] : List GTask)
def z19 : Con := ⟨184, [.v (.s .net) false], [((.s .net), true)], [], fun x => z7h x.1⟩
def yj4 : Fs := ⟨[z9k], [], []⟩
theorem zv1 : yj4.Ok Tryz.prog := (fsK yd1 fs0)
def zo3 : Tmpl := ⟨[(2, .c (.bx 2 0)), (3, .c (.bx 3 0)), (10, .c (.s (.s .task))), (11, .c .i), (12, .c .i)], [(2, .box [.i, .nl]), (3, .box [.i, .ref 510301]), (510301, .arr (.s .task) true)]⟩
def zj5 : Tmpl := ⟨[(2, .c (.bx 2 0)), (3, .c (.bx 3 0))], [(2, .box [.i, .nl]), (3, .box [.i, .ref 510301]), (510301, .arr (.s .task) true)]⟩
def y6o (av : AV) (x : HP z19.ps) (n : Nat) (v : zo3.den) (K : Ks (CR z19)) : Option (CR z19) := z29 v.1.2.2.1 v.1.2.2.2.1 (fun l0_1 => zj5.at none (((), (), ()), ((v.2.1.1, (), ()), (v.2.2.1.1, (), ()), l0_1, ())) (K (.exit 0))) n v.1.2.2.2.2.1 v.2.2.2.1
def zm8 (av : AV) (x : HP z19.ps) : Hdl (CR z19) := hnd [.b 3 1 510301 (.s .task)] zo3 (y6o av x)
theorem y7y : LP z19 Tryz.f184 [0] zm8 := lp_ok (W := []) (H := []) (xs := [zj5]) zv1 trivial rfl (fun av x v K => by kernel_rfl) (fun av x n v K => by kernel_rfl)
theorem yl2 : z19.Ok Tryz.prog := fn_ok (k := z19) (fn := Tryz.f184) (W := []) (H := [zm8]) Tryz.func184 zv1 ⟨y7y, trivial⟩ rfl rfl (fun av x => by kernel_rfl)
def y8b  : Option Bool := some true
def z73 (marks : List Int) (kx0_0 : Option Bool) : Nat → Int → Option Bool
  | 0, _ => none
  | n0 + 1, s0_0 => if decide (s0_0 < (marks.length : Int)) = true then ((getI marks s0_0).bind fun x5 => ((z03 x5 0 4).bind fun x6 => (if x6 = true then (gd (ok64 (s0_0 + 1)) ((z73 marks kx0_0 n0) (s0_0 + 1))) else (some false)))) else (kx0_0)
def z8s (n : GNet) (marks : List Int) : Option Bool := (z3d n).bind fun x1 => (if x1 = true then (if decide ((marks.length : Int) = n.places) = true then (z73 marks y8b FUEL 0) else (some false)) else (some false))
def z39 : Con := ⟨87, [.v (.s .net) false, .v (.sl .I) false], [(.B, true)], [], fun x => z8s x.1 x.2.1⟩
def ws7 : Fs := ⟨[z2m, z0m], [], []⟩
theorem w0a : ws7.Ok Tryz.prog := (fsK zo1 (fsK z0u fs0))
def yh9 : Tmpl := ⟨[(1, .c (.s .I)), (5, .c .i)], []⟩
def y9w : Tmpl := ⟨[], []⟩
def w6v (av : AV) (x : HP z39.ps) (n : Nat) (v : yh9.den) (K : Ks (CR z39)) : Option (CR z39) := z73 v.1.1 (y9w.at none ((), ()) (K (.exit 0))) n v.1.2.1
def yf4 (av : AV) (x : HP z39.ps) : Hdl (CR z39) := hnd [] yh9 (w6v av x)
theorem w8k : LP z39 Tryz.f87 [0] yf4 := lp_ok (W := []) (H := []) (xs := [y9w]) w0a trivial rfl (fun av x v K => by kernel_rfl) (fun av x n v K => by kernel_rfl)
theorem y05 : z39.Ok Tryz.prog := fn_ok (k := z39) (fn := Tryz.f87) (W := []) (H := [yf4]) Tryz.func87 w0a ⟨w8k, trivial⟩ rfl rfl (fun av x => by kernel_rfl)
def za6 (s0_0 : Bool) (s0_1 : Bool) : Option (Bool × Bool) := some (s0_0, s0_1)
def z1v (marks : List Int) (list : List Int) (kx0_0 : Bool → Bool → Option (Bool × Bool)) : Nat → Bool → Bool → Int → Option (Bool × Bool)
  | 0, _, _, _ => none
  | n0 + 1, s0_0, s0_1, s0_2 => if decide (s0_2 < (list.length : Int)) = true then (if s0_0 = true then (if s0_1 = true then ((getI list s0_2).bind fun x4 => ((getI marks x4).bind fun x5 => (gd (ok64 (s0_2 + 1)) ((z1v marks list kx0_0 n0) true (decide (0 < x5)) (s0_2 + 1))))) else (gd (ok64 (s0_2 + 1)) ((z1v marks list kx0_0 n0) true false (s0_2 + 1)))) else ((getI list s0_2).bind fun x8 => ((getI marks x8).bind fun x9 => (if s0_1 = true then ((getI list s0_2).bind fun x11 => ((getI marks x11).bind fun x12 => (gd (ok64 (s0_2 + 1)) ((z1v marks list kx0_0 n0) (decide (0 < x9)) (decide (0 < x12)) (s0_2 + 1))))) else (gd (ok64 (s0_2 + 1)) ((z1v marks list kx0_0 n0) (decide (0 < x9)) false (s0_2 + 1))))))) else (kx0_0 s0_0 s0_1)
def zu0 (marks : List Int) (list : List Int) : Option (Bool × Bool) := z1v marks list za6 FUEL false true 0
def z50 : Con := ⟨200, [.v (.sl .I) false, .v (.sl .I) false], [(.B, true), (.B, true)], [], fun x => zu0 x.1 x.2.1⟩
def wf1 : Fs := ⟨[], [], []⟩
theorem yo6 : wf1.Ok Tryz.prog := fs0
def y9e : Tmpl := ⟨[(0, .c (.s .I)), (1, .c (.s .I)), (6, .c .b), (7, .c .b), (8, .c .i)], []⟩
def y6e : Tmpl := ⟨[(6, .c .b), (7, .c .b)], []⟩
def w3g (av : AV) (x : HP z50.ps) (n : Nat) (v : y9e.den) (K : Ks (CR z50)) : Option (CR z50) := z1v v.1.1 v.1.2.1 (fun s0_0 s0_1 => y6e.at none ((s0_0, s0_1, ()), ()) (K (.exit 0))) n v.1.2.2.1 v.1.2.2.2.1 v.1.2.2.2.2.1
def y7j (av : AV) (x : HP z50.ps) : Hdl (CR z50) := hnd [] y9e (w3g av x)
theorem w58 : LP z50 Tryz.f200 [0] y7j := lp_ok (W := []) (H := []) (xs := [y6e]) yo6 trivial rfl (fun av x v K => by kernel_rfl) (fun av x n v K => by kernel_rfl)
theorem wm0 : z50.Ok Tryz.prog := fn_ok (k := z50) (fn := Tryz.f200) (W := []) (H := [y7j]) Tryz.func200 yo6 ⟨w58, trivial⟩ rfl rfl (fun av x => by kernel_rfl)
def z4m (s1_0 : Int) (bk1 : Int → List Bool → Option Bool) (l2_1 : List Bool) : Option Bool := gd (ok64 (s1_0 + 1)) (bk1 (s1_0 + 1) l2_1)
def z32 (p2_0 : List GFlow) (kx2_0 : List Bool → Option Bool) : Nat → Int → List Bool → Option Bool
  | 0, _, _ => none
  | n2 + 1, s2_0, l2_1 => if decide (s2_0 < (p2_0.length : Int)) = true then ((getI p2_0 s2_0).bind fun x15 => ((getI l2_1 x15.to).bind fun x16 => (gd (ok64 (s2_0 + 1)) ((z32 p2_0 kx2_0 n2) (s2_0 + 1) (l2_1.set x15.to.toNat true))))) else (kx2_0 l2_1)
def zh1  : Option Bool := some false
def z27 (n : GNet) (marks : List Int) (t : Int) (x19 : (List Bool)) (kx3_0 : Option Bool) : Nat → Int → Option Bool
  | 0, _ => none
  | n3 + 1, s3_0 => (getI n.tasks t).bind fun x20 => (if decide (s3_0 < (x20.in_.length : Int)) = true then ((getI n.tasks t).bind fun x22 => ((getI x22.in_ s3_0).bind fun x23 => ((getI marks x23).bind fun x24 => (if decide (x24 = 0) = true then ((getI n.tasks t).bind fun x26 => ((getI x26.in_ s3_0).bind fun x27 => ((getI x19 x27).bind fun x28 => (if x28 = true then (some true) else (gd (ok64 (s3_0 + 1)) ((z27 n marks t x19 kx3_0 n3) (s3_0 + 1))))))) else (gd (ok64 (s3_0 + 1)) ((z27 n marks t x19 kx3_0 n3) (s3_0 + 1))))))) else (kx3_0))
def z25 (n : GNet) (marks : List Int) (t : Int) (l1_1 : List Bool) : Option Bool := (zg5 n l1_1 t).bind fun x19 => (z27 n marks t x19 zh1 FUEL 0)
def z16 (n : GNet) (busy : List GItem) (kx1_0 : List Bool → Option Bool) : Nat → Int → List Bool → Option Bool
  | 0, _, _ => none
  | n1 + 1, s1_0, l1_1 => if decide (s1_0 < (busy.length : Int)) = true then ((getI busy s1_0).bind fun x12 => ((getI n.tasks x12.task).bind fun x13 => (z32 x13.out (z4m s1_0 (z16 n busy kx1_0 n1)) FUEL 0 l1_1))) else (kx1_0 l1_1)
def z4l (n : GNet) (marks : List Int) (busy : List GItem) (t : Int) (l0_1 : List Bool) : Option Bool := z16 n busy (z25 n marks t) FUEL 0 l0_1
def z26 (n : GNet) (marks : List Int) (t : Int) (kx0_0 : List Bool → Option Bool) : Nat → Int → List Bool → Option Bool
  | 0, _, _ => none
  | n0 + 1, s0_0, l0_1 => if decide (s0_0 < n.places) = true then ((getI marks s0_0).bind fun x3 => (if decide (0 < x3) = true then ((getI n.tasks t).bind fun x5 => ((zc1 x5.in_ s0_0).bind fun x6 => ((getI l0_1 s0_0).bind fun x7 => (gd (ok64 (s0_0 + 1)) ((z26 n marks t kx0_0 n0) (s0_0 + 1) (l0_1.set s0_0.toNat (!x6))))))) else ((getI l0_1 s0_0).bind fun x9 => (gd (ok64 (s0_0 + 1)) ((z26 n marks t kx0_0 n0) (s0_0 + 1) (l0_1.set s0_0.toNat false)))))) else (kx0_0 l0_1)
def zh0 (n : GNet) (marks : List Int) (busy : List GItem) (t : Int) : Option Bool := gd ((0 : Int) ≤ n.places ∧ n.places ≤ (1000000000 : Int)) (z26 n marks t (z4l n marks busy t) FUEL 0 (List.replicate n.places.toNat false))
def z07 : Con := ⟨201, [.v (.s .net) false, .v (.sl .I) false, .v (.sl (.s .item)) false, .v .I false], [(.B, true)], [], fun x => zh0 x.1 x.2.1 x.2.2.1 x.2.2.2.1⟩
def w4a : Fs := ⟨[z4a, z06], [], []⟩
theorem z8f : w4a.Ok Tryz.prog := (fsK y8x (fsK w5o fs0))
def zx9 : Tmpl := ⟨[(1, .c (.s .I)), (2, .c (.s (.s .item))), (3, .c .i), (4, .c (.bx 4 0)), (9, .c (.ref 18)), (11, .c .i), (12, .c (.s (.s .flow))), (13, .c .i)], [(4, .boxT (.s .net)), (18, .arr .B true)]⟩
def zr1 : Tmpl := ⟨[(1, .c (.s .I)), (2, .c (.s (.s .item))), (3, .c .i), (4, .c (.bx 4 0)), (9, .c (.ref 18)), (11, .c .i)], [(4, .boxT (.s .net)), (18, .arr .B true)]⟩
def yj0 (av : AV) (x : HP z07.ps) (n : Nat) (v : zx9.den) (K : Ks (CR z07)) : Option (CR z07) := z32 v.1.2.2.2.2.2.2.1 (fun l2_1 => zr1.at none ((v.1.1, v.1.2.1, v.1.2.2.1, (), (), v.1.2.2.2.2.2.1, ()), (v.2.1, l2_1, ())) (K (.exit 4))) n v.1.2.2.2.2.2.2.2.1 v.2.2.1
def zv8 (av : AV) (x : HP z07.ps) : Hdl (CR z07) := hnd [] zx9 (yj0 av x)
theorem yk6 : LP z07 Tryz.f201 [1, 0] zv8 := lp_ok (W := []) (H := []) (xs := [zr1]) z8f trivial rfl (fun av x v K => by kernel_rfl) (fun av x n v K => by kernel_rfl)
def y2m : Tmpl := ⟨[(1, .c (.s .I)), (2, .c (.s (.s .item))), (3, .c .i), (4, .c (.bx 4 0)), (9, .c (.ref 18)), (10, .c .i)], [(4, .boxT (.s .net)), (18, .arr .B true)]⟩
def y0i : Tmpl := ⟨[(1, .c (.s .I)), (2, .c (.s (.s .item))), (3, .c .i), (4, .c (.bx 4 0)), (9, .c (.ref 18))], [(4, .boxT (.s .net)), (18, .arr .B true)]⟩
def yu7 (av : AV) (x : HP z07.ps) (n : Nat) (v : y2m.den) (K : Ks (CR z07)) : Option (CR z07) := z26 v.2.1 v.1.1 v.1.2.2.1 (fun l0_1 => y0i.at none ((v.1.1, v.1.2.1, v.1.2.2.1, (), (), ()), (v.2.1, l0_1, ())) (K (.exit 0))) n v.1.2.2.2.2.2.1 v.2.2.1
def y1s (av : AV) (x : HP z07.ps) : Hdl (CR z07) := hnd [] y2m (yu7 av x)
theorem yy1 : LP z07 Tryz.f201 [0] y1s := lp_ok (W := []) (H := []) (xs := [y0i]) z8f trivial rfl (fun av x v K => by kernel_rfl) (fun av x n v K => by kernel_rfl)
def y2n : Tmpl := ⟨[(1, .c (.s .I)), (2, .c (.s (.s .item))), (3, .c .i), (4, .c (.bx 4 0)), (9, .c (.ref 18)), (11, .c .i)], [(4, .boxT (.s .net)), (18, .arr .B true)]⟩
def y0j : Tmpl := ⟨[(1, .c (.s .I)), (3, .c .i), (4, .c (.bx 4 0)), (9, .c (.ref 18))], [(4, .boxT (.s .net)), (18, .arr .B true)]⟩
def yu8 (av : AV) (x : HP z07.ps) (n : Nat) (v : y2n.den) (K : Ks (CR z07)) : Option (CR z07) := z16 v.2.1 v.1.2.1 (fun l1_1 => y0j.at none ((v.1.1, v.1.2.2.1, (), (), ()), (v.2.1, l1_1, ())) (K (.exit 2))) n v.1.2.2.2.2.2.1 v.2.2.1
def y1t (av : AV) (x : HP z07.ps) : Hdl (CR z07) := hnd [] y2n (yu8 av x)
theorem yy2 : LP z07 Tryz.f201 [1] y1t := lp_ok (W := []) (H := [zv8]) (xs := [y0j]) z8f ⟨yk6, trivial⟩ rfl (fun av x v K => by kernel_rfl) (fun av x n v K => by kernel_rfl)
def y2o : Tmpl := ⟨[(1, .c (.s .I)), (3, .c .i), (4, .c (.bx 4 0)), (14, .c (.ref 76)), (15, .c .i)], [(4, .boxT (.s .net)), (76, .arr .B true)]⟩
def y0k : Tmpl := ⟨[], []⟩
def yu9 (av : AV) (x : HP z07.ps) (n : Nat) (v : y2o.den) (K : Ks (CR z07)) : Option (CR z07) := z27 v.2.1 v.1.1 v.1.2.1 v.2.2.1 (y0k.at none ((), ()) (K (.exit 6))) n v.1.2.2.2.2.1
def y1u (av : AV) (x : HP z07.ps) : Hdl (CR z07) := hnd [] y2o (yu9 av x)
theorem yy3 : LP z07 Tryz.f201 [2] y1u := lp_ok (W := []) (H := []) (xs := [y0k]) z8f trivial rfl (fun av x v K => by kernel_rfl) (fun av x n v K => by kernel_rfl)
theorem w5p : z07.Ok Tryz.prog := fn_ok (k := z07) (fn := Tryz.f201) (W := []) (H := [y1s, y1t, y1u]) Tryz.func201 z8f ⟨yy1, yy2, yy3, trivial⟩ rfl rfl (fun av x => by kernel_rfl)
def y02 (n : GNet) (marks : List Int) (busy : List GItem) (t : Int) : Option Bool := (getI n.tasks t).bind fun x1 => ((zu0 marks x1.in_).bind fun x2 => ((getI n.tasks t).bind fun x3 => (if decide (x3.join = 1) = true then (some x2.2) else (if decide (x3.join = 2) = true then (some x2.1) else (if x2.1 = true then (if x2.2 = true then (some true) else ((zh0 n marks busy t).bind fun x8 => (some (!x8)))) else (some false))))))
def y7w : Con := ⟨165, [.v (.s .net) false, .v (.sl .I) false, .v (.sl (.s .item)) false, .v .I false], [(.B, true)], [], fun x => y02 x.1 x.2.1 x.2.2.1 x.2.2.2.1⟩
def wt3 : Fs := ⟨[z50, z07], [], []⟩
theorem wu7 : wt3.Ok Tryz.prog := (fsK wm0 (fsK w5p fs0))
theorem wy4 : y7w.Ok Tryz.prog := fn_ok (k := y7w) (fn := Tryz.f165) (W := []) (H := []) Tryz.func165 wu7 trivial rfl rfl (fun av x => by kernel_rfl)
def y5b  : Option Bool := some true
def z5t (n : GNet) (busy : List GItem) (kx0_0 : Option Bool) : Nat → Int → Option Bool
  | 0, _ => none
  | n0 + 1, s0_0 => if decide (s0_0 < (busy.length : Int)) = true then ((getI busy s0_0).bind fun x3 => (gd (ok64 ((n.tasks.length : Int) - 1)) ((z03 x3.task 0 ((n.tasks.length : Int) - 1)).bind fun x5 => (if x5 = true then ((getI busy s0_0).bind fun x7 => ((z03 x7.who 1 4).bind fun x8 => (if x8 = true then ((getI busy s0_0).bind fun x10 => ((getI busy s0_0).bind fun x11 => ((getI n.tasks x11.task).bind fun x12 => (gd (ok64 (x12.need - 1)) ((z03 x10.did 0 (x12.need - 1)).bind fun x14 => (if x14 = true then (gd (ok64 (s0_0 + 1)) ((z5t n busy kx0_0 n0) (s0_0 + 1))) else (some false))))))) else (some false)))) else (some false))))) else (kx0_0)
def zg9 (n : GNet) (busy : List GItem) : Option Bool := if decide (6 < (busy.length : Int)) = true then (some false) else (z5t n busy y5b FUEL 0)
def z44 : Con := ⟨88, [.v (.s .net) false, .v (.sl (.s .item)) false], [(.B, true)], [], fun x => zg9 x.1 x.2.1⟩
def wf0 : Fs := ⟨[z0m], [], []⟩
theorem yo5 : wf0.Ok Tryz.prog := (fsK z0u fs0)
def y9d : Tmpl := ⟨[(1, .c (.s (.s .item))), (2, .c (.bx 2 0)), (5, .c .i)], [(2, .boxT (.s .net))]⟩
def y6d : Tmpl := ⟨[], []⟩
def w3f (av : AV) (x : HP z44.ps) (n : Nat) (v : y9d.den) (K : Ks (CR z44)) : Option (CR z44) := z5t v.2.1 v.1.1 (y6d.at none ((), ()) (K (.exit 0))) n v.1.2.2.1
def y7i (av : AV) (x : HP z44.ps) : Hdl (CR z44) := hnd [] y9d (w3f av x)
theorem w57 : LP z44 Tryz.f88 [0] y7i := lp_ok (W := []) (H := []) (xs := [y6d]) yo5 trivial rfl (fun av x v K => by kernel_rfl) (fun av x n v K => by kernel_rfl)
theorem yr6 : z44.Ok Tryz.prog := fn_ok (k := z44) (fn := Tryz.f88) (W := []) (H := [y7i]) Tryz.func88 yo5 ⟨w57, trivial⟩ rfl rfl (fun av x => by kernel_rfl)
def zf4 (n : GNet) (marks : List Int) (busy : List GItem) (t : Int) : Option Bool := (z8s n marks).bind fun x1 => (if x1 = true then ((zg9 n busy).bind fun x3 => (if x3 = true then (gd (ok64 ((n.tasks.length : Int) - 1)) ((z03 t 0 ((n.tasks.length : Int) - 1)).bind fun x6 => (if x6 = true then ((y02 n marks busy t).bind fun x8 => (some x8)) else (some false)))) else (some false))) else (some false))
def zs2 : Con := ⟨100, [.v (.s .net) false, .v (.sl .I) false, .v (.sl (.s .item)) false, .v .I false], [(.B, true)], [], fun x => zf4 x.1 x.2.1 x.2.2.1 x.2.2.2.1⟩
def wd8 : Fs := ⟨[z39, z44, z0m, y7w], [], []⟩
theorem wh4 : wd8.Ok Tryz.prog := (fsK y05 (fsK yr6 (fsK z0u (fsK wy4 fs0))))
theorem yr2 : zs2.Ok Tryz.prog := fn_ok (k := zs2) (fn := Tryz.f100) (W := []) (H := []) Tryz.func100 wh4 trivial rfl rfl (fun av x => by kernel_rfl)
def zf5 (l0_1 : List Int) : Option (List Int) := some l0_1
def z30 (n : GNet) (marks : List Int) (busy : List GItem) (kx0_0 : List Int → Option (List Int)) : Nat → Int → List Int → Option (List Int)
  | 0, _, _ => none
  | n0 + 1, s0_0, l0_1 => if decide (s0_0 < (n.tasks.length : Int)) = true then ((zf4 n marks busy s0_0).bind fun x2 => (if x2 = true then (gd (l0_1.length + [s0_0].length ≤ SMALL) (gd (ok64 (s0_0 + 1)) ((z30 n marks busy kx0_0 n0) (s0_0 + 1) (l0_1 ++ [s0_0])))) else (gd (ok64 (s0_0 + 1)) ((z30 n marks busy kx0_0 n0) (s0_0 + 1) l0_1)))) else (kx0_0 l0_1)
def z5h (n : GNet) (marks : List Int) (busy : List GItem) : Option (List Int) := z30 n marks busy zf5 FUEL 0 ([] : List Int)
def z2a : Con := ⟨99, [.v (.s .net) false, .v (.sl .I) false, .v (.sl (.s .item)) false], [((.sl .I), true)], [], fun x => z5h x.1 x.2.1 x.2.2.1⟩
def w42 : Fs := ⟨[zs2], [], []⟩
theorem y71 : w42.Ok Tryz.prog := (fsK yr2 fs0)
def y2f : Tmpl := ⟨[(1, .c (.s .I)), (2, .c (.s (.s .item))), (3, .c (.bx 3 0)), (7, .c (.ref 9)), (8, .c .i)], [(3, .boxT (.s .net)), (9, .arr .I true)]⟩
def y0b : Tmpl := ⟨[(7, .c (.ref 9))], [(9, .arr .I true)]⟩
def yu0 (av : AV) (x : HP z2a.ps) (n : Nat) (v : y2f.den) (K : Ks (CR z2a)) : Option (CR z2a) := z30 v.2.1 v.1.1 v.1.2.1 (fun l0_1 => y0b.at none (((), ()), (l0_1, ())) (K (.exit 0))) n v.1.2.2.2.2.1 v.2.2.1
def y1l (av : AV) (x : HP z2a.ps) : Hdl (CR z2a) := hnd [] y2f (yu0 av x)
theorem yx4 : LP z2a Tryz.f99 [0] y1l := lp_ok (W := []) (H := []) (xs := [y0b]) y71 trivial rfl (fun av x v K => by kernel_rfl) (fun av x n v K => by kernel_rfl)
theorem y8u : z2a.Ok Tryz.prog := fn_ok (k := z2a) (fn := Tryz.f99) (W := []) (H := [y1l]) Tryz.func99 y71 ⟨yx4, trivial⟩ rfl rfl (fun av x => by kernel_rfl)
def y21 (l0_1 : List Int) (x10 : Int) (x13 : Int) : Option (List Int) := some (l0_1.set x10.toNat (x13 - 1))
def y22 (l0_1 : List Int) : Option (List Int) := some l0_1
def z3m (n : GNet) (t : Int) (kx0_0 : List Int → Int → Int → Option (List Int)) (kx0_1 : List Int → Option (List Int)) : Nat → Int → List Int → Option (List Int)
  | 0, _, _ => none
  | n0 + 1, s0_0, l0_1 => (getI n.tasks t).bind fun x7 => (if decide (s0_0 < (x7.in_.length : Int)) = true then ((getI n.tasks t).bind fun x9 => ((getI x9.in_ s0_0).bind fun x10 => ((getI l0_1 x10).bind fun x11 => (if decide (0 < x11) = true then ((getI l0_1 x10).bind fun x13 => (gd (ok64 (x13 - 1)) ((getI l0_1 x10).bind fun x15 => ((getI n.tasks t).bind fun x16 => (if decide (x16.join = 2) = true then (kx0_0 l0_1 x10 x13) else (gd (ok64 (s0_0 + 1)) ((z3m n t kx0_0 kx0_1 n0) (s0_0 + 1) (l0_1.set x10.toNat (x13 - 1))))))))) else (gd (ok64 (s0_0 + 1)) ((z3m n t kx0_0 kx0_1 n0) (s0_0 + 1) l0_1)))))) else (kx0_1 l0_1))
def zl8 (n : GNet) (marks : List Int) (t : Int) : Option (List Int) := (z8s n marks).bind fun x1 => (if x1 = true then (gd (ok64 ((n.tasks.length : Int) - 1)) ((z03 t 0 ((n.tasks.length : Int) - 1)).bind fun x4 => (if x4 = true then (gd (([] : List Int).length + marks.length ≤ SMALL) (z3m n t y21 y22 FUEL 0 (([] : List Int) ++ marks))) else (some ([] : List Int))))) else (some ([] : List Int)))
def z3x : Con := ⟨103, [.v (.s .net) false, .v (.sl .I) false, .v .I false], [((.sl .I), true)], [], fun x => zl8 x.1 x.2.1 x.2.2.1⟩
def w7i : Fs := ⟨[z39, z0m], [], []⟩
theorem yd6 : w7i.Ok Tryz.prog := (fsK y05 (fsK z0u fs0))
def y5r : Tmpl := ⟨[(2, .c .i), (3, .c (.bx 3 0)), (7, .c (.ref 26)), (8, .c .i)], [(3, .boxT (.s .net)), (26, .arr .I true)]⟩
def zl1 : Tmpl := ⟨[(7, .c (.ref 26))], [(26, .arr .I true)]⟩
def w18 (av : AV) (x : HP z3x.ps) (n : Nat) (v : y5r.den) (K : Ks (CR z3x)) : Option (CR z3x) := z3m v.2.1 v.1.1 (fun l0_1 x10 x13 => zl1.at none (((), ()), ((l0_1.set x10.toNat (x13 - 1)), ())) (K (.exit 0))) (fun l0_1 => zl1.at none (((), ()), (l0_1, ())) (K (.exit 0))) n v.1.2.2.2.1 v.2.2.1
def y4v (av : AV) (x : HP z3x.ps) : Hdl (CR z3x) := hnd [] y5r (w18 av x)
theorem w26 : LP z3x Tryz.f103 [0] y4v := lp_ok (W := []) (H := []) (xs := [zl1]) yd6 trivial rfl (fun av x v K => by kernel_rfl) (fun av x n v K => by kernel_rfl)
theorem w94 : z3x.Ok Tryz.prog := fn_ok (k := z3x) (fn := Tryz.f103) (W := []) (H := [y4v]) Tryz.func103 yd6 ⟨w26, trivial⟩ rfl rfl (fun av x => by kernel_rfl)
def z8p (who : Int) : Option Bool := (z0c who 1 4).bind fun x1 => (some x1)
def ze3 : Con := ⟨97, [.v .I false], [(.B, true)], [], fun x => z8p x.1⟩
def w40 : Fs := ⟨[z20], [], []⟩
theorem w4l : w40.Ok Tryz.prog := (fsK z2q fs0)
theorem y8s : ze3.Ok Tryz.prog := fn_ok (k := ze3) (fn := Tryz.f97) (W := []) (H := []) Tryz.func97 w4l trivial rfl rfl (fun av x => by kernel_rfl)
def zf6 (l0_1 : List Int) (x8 : GFlow) : Option (List Int) := some (l0_1 ++ [x8.to])
def zf7 (l0_1 : List Int) (x13 : GFlow) : Option (List Int) := some (l0_1 ++ [x13.to])
def zf8 (l0_1 : List Int) (x18 : GFlow) : Option (List Int) := some (l0_1 ++ [x18.to])
def zw6 (l0_1 : List Int) : Option (List Int) := some l0_1
def z1q (t : GTask) (data : List Int) (kx0_0 : List Int → GFlow → Option (List Int)) (kx0_1 : List Int → GFlow → Option (List Int)) (kx0_2 : List Int → GFlow → Option (List Int)) (kx0_3 : List Int → Option (List Int)) : Nat → Int → List Int → Option (List Int)
  | 0, _, _ => none
  | n0 + 1, s0_0, l0_1 => if decide (s0_0 < (t.out.length : Int)) = true then ((getI t.out s0_0).bind fun x2 => ((z1b x2.if_ data).bind fun x3 => (if x3 = true then (if decide (t.split = 3) = true then (gd (ok64 ((t.out.length : Int) - 1)) (if decide (s0_0 < ((t.out.length : Int) - 1)) = true then ((getI t.out s0_0).bind fun x8 => (gd (l0_1.length + [x8.to].length ≤ SMALL) (if decide (t.split = 2) = true then (kx0_0 l0_1 x8) else (gd (ok64 (s0_0 + 1)) ((z1q t data kx0_0 kx0_1 kx0_2 kx0_3 n0) (s0_0 + 1) (l0_1 ++ [x8.to])))))) else (if decide ((l0_1.length : Int) = 0) = true then ((getI t.out s0_0).bind fun x13 => (gd (l0_1.length + [x13.to].length ≤ SMALL) (if decide (t.split = 2) = true then (kx0_1 l0_1 x13) else (gd (ok64 (s0_0 + 1)) ((z1q t data kx0_0 kx0_1 kx0_2 kx0_3 n0) (s0_0 + 1) (l0_1 ++ [x13.to])))))) else (gd (ok64 (s0_0 + 1)) ((z1q t data kx0_0 kx0_1 kx0_2 kx0_3 n0) (s0_0 + 1) l0_1))))) else ((getI t.out s0_0).bind fun x18 => (gd (l0_1.length + [x18.to].length ≤ SMALL) (if decide (t.split = 2) = true then (kx0_2 l0_1 x18) else (gd (ok64 (s0_0 + 1)) ((z1q t data kx0_0 kx0_1 kx0_2 kx0_3 n0) (s0_0 + 1) (l0_1 ++ [x18.to]))))))) else (gd (ok64 (s0_0 + 1)) ((z1q t data kx0_0 kx0_1 kx0_2 kx0_3 n0) (s0_0 + 1) l0_1))))) else (kx0_3 l0_1)
def zz8 (t : GTask) (data : List Int) : Option (List Int) := z1q t data zf6 zf7 zf8 zw6 FUEL 0 ([] : List Int)
def z65 : Con := ⟨205, [.v (.s .task) false, .v (.sl .I) false], [((.sl .I), true)], [], fun x => zz8 x.1 x.2.1⟩
def wt1 : Fs := ⟨[z49], [], []⟩
theorem w0d : wt1.Ok Tryz.prog := (fsK z79 fs0)
def yi3 : Tmpl := ⟨[(1, .c (.s .I)), (2, .c (.bx 2 0)), (5, .c (.ref 7)), (6, .c .i)], [(2, .boxT (.s .task)), (7, .arr .I true)]⟩
def z8z : Tmpl := ⟨[(5, .c (.ref 49))], [(49, .arr .I true)]⟩
def w6z (av : AV) (x : HP z65.ps) (n : Nat) (v : yi3.den) (K : Ks (CR z65)) : Option (CR z65) := z1q v.2.1 v.1.1 (fun l0_1 x8 => z8z.at none (((), ()), ((l0_1 ++ [x8.to]), ())) (K (.exit 0))) (fun l0_1 x13 => z8z.at none (((), ()), ((l0_1 ++ [x13.to]), ())) (K (.exit 0))) (fun l0_1 x18 => z8z.at none (((), ()), ((l0_1 ++ [x18.to]), ())) (K (.exit 0))) (fun l0_1 => z8z.at none (((), ()), (l0_1, ())) (K (.exit 0))) n v.1.2.2.2.1 v.2.2.1
def yf8 (av : AV) (x : HP z65.ps) : Hdl (CR z65) := hnd [] yi3 (w6z av x)
theorem w8o : LP z65 Tryz.f205 [0] yf8 := lp_ok (W := []) (H := []) (xs := [z8z]) w0d trivial rfl (fun av x v K => by kernel_rfl) (fun av x n v K => by kernel_rfl)
theorem wy3 : z65.Ok Tryz.prog := fn_ok (k := z65) (fn := Tryz.f205) (W := []) (H := [yf8]) Tryz.func205 w0d ⟨w8o, trivial⟩ rfl rfl (fun av x => by kernel_rfl)
def z9a (l1_1 : List Int) : Option ((List Int) × Bool) := some (l1_1, true)
def z5c (x16 : (List Int)) (kx1_0 : List Int → Option ((List Int) × Bool)) : Nat → Int → List Int → Option ((List Int) × Bool)
  | 0, _, _ => none
  | n1 + 1, s1_0, l1_1 => if decide (s1_0 < (x16.length : Int)) = true then ((getI x16 s1_0).bind fun x18 => ((getI l1_1 x18).bind fun x19 => (if decide (x19 = 4) = true then (some (([] : List Int), false)) else ((getI x16 s1_0).bind fun x21 => ((getI x16 s1_0).bind fun x22 => ((getI l1_1 x22).bind fun x23 => (gd (ok64 (x23 + 1)) ((getI l1_1 x21).bind fun x25 => (gd (ok64 (s1_0 + 1)) ((z5c x16 kx1_0 n1) (s1_0 + 1) (l1_1.set x21.toNat (x23 + 1)))))))))))) else (kx1_0 l1_1)
def z99 (n : GNet) (t : Int) (data : List Int) (l0_1 : List Int) : Option ((List Int) × Bool) := (getI n.tasks t).bind fun x15 => ((zz8 x15 data).bind fun x16 => (z5c x16 z9a FUEL 0 l0_1))
def z5b (n : GNet) (t : Int) (kx0_0 : List Int → Option ((List Int) × Bool)) : Nat → Int → List Int → Option ((List Int) × Bool)
  | 0, _, _ => none
  | n0 + 1, s0_0, l0_1 => (getI n.tasks t).bind fun x9 => (if decide (s0_0 < (x9.clear.length : Int)) = true then ((getI n.tasks t).bind fun x11 => ((getI x11.clear s0_0).bind fun x12 => ((getI l0_1 x12).bind fun x13 => (gd (ok64 (s0_0 + 1)) ((z5b n t kx0_0 n0) (s0_0 + 1) (l0_1.set x12.toNat 0)))))) else (kx0_0 l0_1))
def zl9 (n : GNet) (marks : List Int) (t : Int) (data : List Int) : Option ((List Int) × Bool) := (z8s n marks).bind fun x1 => (if x1 = true then (gd (ok64 ((n.tasks.length : Int) - 1)) ((z03 t 0 ((n.tasks.length : Int) - 1)).bind fun x4 => (if x4 = true then ((z2o data).bind fun x6 => (if x6 = true then (gd (([] : List Int).length + marks.length ≤ SMALL) (z5b n t (z99 n t data) FUEL 0 (([] : List Int) ++ marks))) else (some (([] : List Int), false)))) else (some (([] : List Int), false))))) else (some (([] : List Int), false)))
def z0x : Con := ⟨172, [.v (.s .net) false, .v (.sl .I) false, .v .I false, .v (.sl .I) false], [((.sl .I), true), (.B, true)], [], fun x => zl9 x.1 x.2.1 x.2.2.1 x.2.2.2.1⟩
def w7j : Fs := ⟨[z39, z0m, z17, z65], [], []⟩
theorem y0p : w7j.Ok Tryz.prog := (fsK y05 (fsK z0u (fsK z6g (fsK wy3 fs0))))
def y5s : Tmpl := ⟨[(2, .c .i), (3, .c (.s .I)), (4, .c (.bx 4 0)), (10, .c (.ref 35)), (11, .c .i)], [(4, .boxT (.s .net)), (35, .arr .I true)]⟩
def y2x : Tmpl := ⟨[(2, .c .i), (3, .c (.s .I)), (4, .c (.bx 4 0)), (10, .c (.ref 35))], [(4, .boxT (.s .net)), (35, .arr .I true)]⟩
def w19 (av : AV) (x : HP z0x.ps) (n : Nat) (v : y5s.den) (K : Ks (CR z0x)) : Option (CR z0x) := z5b v.2.1 v.1.1 (fun l0_1 => y2x.at none ((v.1.1, v.1.2.1, (), (), ()), (v.2.1, l0_1, ())) (K (.exit 0))) n v.1.2.2.2.2.1 v.2.2.1
def y4w (av : AV) (x : HP z0x.ps) : Hdl (CR z0x) := hnd [] y5s (w19 av x)
theorem w27 : LP z0x Tryz.f172 [0] y4w := lp_ok (W := []) (H := []) (xs := [y2x]) y0p trivial rfl (fun av x v K => by kernel_rfl) (fun av x n v K => by kernel_rfl)
def y5t : Tmpl := ⟨[(10, .c (.ref 35)), (12, .c (.ref 64)), (13, .c .i)], [(35, .arr .I true), (64, .arr .I true)]⟩
def y2y : Tmpl := ⟨[(10, .c (.ref 35))], [(35, .arr .I true)]⟩
def w1a (av : AV) (x : HP z0x.ps) (n : Nat) (v : y5t.den) (K : Ks (CR z0x)) : Option (CR z0x) := z5c v.2.2.1 (fun l1_1 => y2y.at none (((), ()), (l1_1, ())) (K (.exit 2))) n v.1.2.2.1 v.2.1
def y4x (av : AV) (x : HP z0x.ps) : Hdl (CR z0x) := hnd [] y5t (w1a av x)
theorem w28 : LP z0x Tryz.f172 [1] y4x := lp_ok (W := []) (H := []) (xs := [y2y]) y0p trivial rfl (fun av x v K => by kernel_rfl) (fun av x n v K => by kernel_rfl)
theorem w95 : z0x.Ok Tryz.prog := fn_ok (k := z0x) (fn := Tryz.f172) (W := []) (H := [y4w, y4x]) Tryz.func172 y0p ⟨w27, w28, trivial⟩ rfl rfl (fun av x => by kernel_rfl)
def y8d  : Option Bool := some true
def z75 (people : List Int) (kx0_0 : Option Bool) : Nat → Int → Option Bool
  | 0, _ => none
  | n0 + 1, s0_0 => if decide (s0_0 < (people.length : Int)) = true then ((getI people s0_0).bind fun x4 => ((z03 x4 0 7).bind fun x5 => (if x5 = true then (gd (ok64 (s0_0 + 1)) ((z75 people kx0_0 n0) (s0_0 + 1))) else (some false)))) else (kx0_0)
def z8t (people : List Int) : Option Bool := (z03 (people.length : Int) 1 4).bind fun x1 => (if x1 = true then (z75 people y8d FUEL 0) else (some false))
def z3a : Con := ⟨44, [.v (.sl .I) false], [(.B, true)], [], fun x => z8t x.1⟩
def ws9 : Fs := ⟨[z0m], [], []⟩
theorem w0c : ws9.Ok Tryz.prog := (fsK z0u fs0)
def yi1 : Tmpl := ⟨[(0, .c (.s .I)), (3, .c .i)], []⟩
def y9y : Tmpl := ⟨[], []⟩
def w6x (av : AV) (x : HP z3a.ps) (n : Nat) (v : yi1.den) (K : Ks (CR z3a)) : Option (CR z3a) := z75 v.1.1 (y9y.at none ((), ()) (K (.exit 0))) n v.1.2.1
def yf6 (av : AV) (x : HP z3a.ps) : Hdl (CR z3a) := hnd [] yi1 (w6x av x)
theorem w8m : LP z3a Tryz.f44 [0] yf6 := lp_ok (W := []) (H := []) (xs := [y9y]) w0c trivial rfl (fun av x v K => by kernel_rfl) (fun av x n v K => by kernel_rfl)
theorem y06 : z3a.Ok Tryz.prog := fn_ok (k := z3a) (fn := Tryz.f44) (W := []) (H := [yf6]) Tryz.func44 w0c ⟨w8m, trivial⟩ rfl rfl (fun av x => by kernel_rfl)
def z5r (s0_0 : Int) : Option Bool := gd ((2 : Int) ≠ 0) (some (decide ((Int.tmod s0_0 2) = 1)))
def z2i (role : Int) (kx0_0 : Int → Option Bool) : Nat → Int → Int → Option Bool
  | 0, _, _ => none
  | n0 + 1, s0_0, s0_1 => if decide (s0_1 < role) = true then (gd ((2 : Int) ≠ 0 ∧ ok64 (Int.tdiv s0_0 2)) (gd (ok64 (s0_1 + 1)) ((z2i role kx0_0 n0) (Int.tdiv s0_0 2) (s0_1 + 1)))) else (kx0_0 s0_0)
def zt6 (people : List Int) (who : Int) (role : Int) : Option Bool := (z8t people).bind fun x1 => (if x1 = true then ((z03 who 1 (people.length : Int)).bind fun x3 => (if x3 = true then ((z03 role 1 3).bind fun x5 => (if x5 = true then (gd (ok64 (who - 1)) ((getI people (who - 1)).bind fun x8 => (z2i role z5r FUEL x8 1))) else (some false))) else (some false))) else (some false))
def z4z : Con := ⟨166, [.v (.sl .I) false, .v .I false, .v .I false], [(.B, true)], [], fun x => zt6 x.1 x.2.1 x.2.2.1⟩
def we1 : Fs := ⟨[z3a, z0m], [], []⟩
theorem yo3 : we1.Ok Tryz.prog := (fsK y06 (fsK z0u fs0))
def y9a : Tmpl := ⟨[(2, .c .i), (7, .c .i), (8, .c .i)], []⟩
def y6a : Tmpl := ⟨[(7, .c .i)], []⟩
def w3c (av : AV) (x : HP z4z.ps) (n : Nat) (v : y9a.den) (K : Ks (CR z4z)) : Option (CR z4z) := z2i v.1.1 (fun s0_0 => y6a.at none ((s0_0, ()), ()) (K (.exit 0))) n v.1.2.1 v.1.2.2.1
def y7f (av : AV) (x : HP z4z.ps) : Hdl (CR z4z) := hnd [] y9a (w3c av x)
theorem w54 : LP z4z Tryz.f166 [0] y7f := lp_ok (W := []) (H := []) (xs := [y6a]) yo3 trivial rfl (fun av x v K => by kernel_rfl) (fun av x n v K => by kernel_rfl)
theorem wl6 : z4z.Ok Tryz.prog := fn_ok (k := z4z) (fn := Tryz.f166) (W := []) (H := [y7f]) Tryz.func166 yo3 ⟨w54, trivial⟩ rfl rfl (fun av x => by kernel_rfl)
def y59  : Option Bool := some false
def z4o (did : List GDid) (who : Int) (task : Int) (kx0_0 : Option Bool) : Nat → Int → Option Bool
  | 0, _ => none
  | n0 + 1, s0_0 => if decide (s0_0 < (did.length : Int)) = true then ((getI did s0_0).bind fun x2 => (if decide (x2.who = who) = true then ((getI did s0_0).bind fun x4 => (if decide (x4.task = task) = true then (some true) else (gd (ok64 (s0_0 + 1)) ((z4o did who task kx0_0 n0) (s0_0 + 1))))) else (gd (ok64 (s0_0 + 1)) ((z4o did who task kx0_0 n0) (s0_0 + 1))))) else (kx0_0)
def zt5 (did : List GDid) (who : Int) (task : Int) : Option Bool := z4o did who task y59 FUEL 0
def z4y : Con := ⟨167, [.v (.sl (.s .did)) false, .v .I false, .v .I false], [(.B, true)], [], fun x => zt5 x.1 x.2.1 x.2.2.1⟩
def we0 : Fs := ⟨[], [], []⟩
theorem yo2 : we0.Ok Tryz.prog := fs0
def y99 : Tmpl := ⟨[(0, .c (.s (.s .did))), (1, .c .i), (2, .c .i), (7, .c .i)], []⟩
def y69 : Tmpl := ⟨[], []⟩
def w3b (av : AV) (x : HP z4y.ps) (n : Nat) (v : y99.den) (K : Ks (CR z4y)) : Option (CR z4y) := z4o v.1.1 v.1.2.1 v.1.2.2.1 (y69.at none ((), ()) (K (.exit 0))) n v.1.2.2.2.1
def y7e (av : AV) (x : HP z4y.ps) : Hdl (CR z4y) := hnd [] y99 (w3b av x)
theorem w53 : LP z4y Tryz.f167 [0] y7e := lp_ok (W := []) (H := []) (xs := [y69]) yo2 trivial rfl (fun av x v K => by kernel_rfl) (fun av x n v K => by kernel_rfl)
theorem wl5 : z4y.Ok Tryz.prog := fn_ok (k := z4y) (fn := Tryz.f167) (W := []) (H := [y7e]) Tryz.func167 yo2 ⟨w53, trivial⟩ rfl rfl (fun av x => by kernel_rfl)
def y5a (n : GNet) (people : List Int) (did : List GDid) (t : Int) (s0_0 : Int) (l0_1 : List Int) (bk0 : Int → List Int → Option (List Int)) (s1_0 : Bool) : Option (List Int) := (getI n.tasks t).bind fun x18 => ((zt6 people s0_0 x18.role).bind fun x19 => (if x19 = true then (if s1_0 = true then (gd (ok64 (s0_0 + 1)) (bk0 (s0_0 + 1) l0_1)) else ((getI n.tasks t).bind fun x23 => ((zt5 did s0_0 x23.apart).bind fun x24 => (if x24 = true then (gd (ok64 (s0_0 + 1)) (bk0 (s0_0 + 1) l0_1)) else (gd (l0_1.length + [s0_0].length ≤ SMALL) (gd (ok64 (s0_0 + 1)) (bk0 (s0_0 + 1) (l0_1 ++ [s0_0])))))))) else (gd (ok64 (s0_0 + 1)) (bk0 (s0_0 + 1) l0_1))))
def z2j (n : GNet) (busy : List GItem) (t : Int) (s0_0 : Int) (kx1_0 : Bool → Option (List Int)) : Nat → Bool → Int → Option (List Int)
  | 0, _, _ => none
  | n1 + 1, s1_0, s1_1 => if decide (s1_1 < (busy.length : Int)) = true then (if s1_0 = true then (gd (ok64 (s1_1 + 1)) ((z2j n busy t s0_0 kx1_0 n1) true (s1_1 + 1))) else ((getI busy s1_1).bind fun x12 => (if decide (x12.who = s0_0) = true then ((getI busy s1_1).bind fun x14 => ((getI n.tasks t).bind fun x15 => (gd (ok64 (s1_1 + 1)) ((z2j n busy t s0_0 kx1_0 n1) (decide (x14.task = x15.apart)) (s1_1 + 1))))) else (gd (ok64 (s1_1 + 1)) ((z2j n busy t s0_0 kx1_0 n1) false (s1_1 + 1)))))) else (kx1_0 s1_0)
def zp2 (l0_1 : List Int) : Option (List Int) := some l0_1
def z5s (n : GNet) (people : List Int) (did : List GDid) (busy : List GItem) (t : Int) (kx0_0 : List Int → Option (List Int)) : Nat → Int → List Int → Option (List Int)
  | 0, _, _ => none
  | n0 + 1, s0_0, l0_1 => if decide (s0_0 ≤ (people.length : Int)) = true then (z2j n busy t s0_0 (y5a n people did t s0_0 l0_1 (z5s n people did busy t kx0_0 n0)) FUEL false 0) else (kx0_0 l0_1)
def z9b (n : GNet) (people : List Int) (did : List GDid) (busy : List GItem) (t : Int) : Option (List Int) := (z3d n).bind fun x1 => (if x1 = true then ((z8t people).bind fun x3 => (if x3 = true then (gd (ok64 ((n.tasks.length : Int) - 1)) ((z03 t 0 ((n.tasks.length : Int) - 1)).bind fun x6 => (if x6 = true then (z5s n people did busy t zp2 FUEL 1 ([] : List Int)) else (some ([] : List Int))))) else (some ([] : List Int)))) else (some ([] : List Int)))
def z11 : Con := ⟨102, [.v (.s .net) false, .v (.sl .I) false, .v (.sl (.s .did)) false, .v (.sl (.s .item)) false, .v .I false], [((.sl .I), true)], [], fun x => z9b x.1 x.2.1 x.2.2.1 x.2.2.2.1 x.2.2.2.2.1⟩
def we2 : Fs := ⟨[z2m, z3a, z0m, z4z, z4y], [], []⟩
theorem y3j : we2.Ok Tryz.prog := (fsK zo1 (fsK y06 (fsK z0u (fsK wl6 (fsK wl5 fs0)))))
def y2g : Tmpl := ⟨[(1, .c (.s .I)), (2, .c (.s (.s .did))), (3, .c (.s (.s .item))), (4, .c .i), (5, .c (.bx 5 0)), (11, .c (.ref 15)), (12, .c .i), (13, .c .b), (14, .c .i)], [(5, .boxT (.s .net)), (15, .arr .I true)]⟩
def y0c : Tmpl := ⟨[(1, .c (.s .I)), (2, .c (.s (.s .did))), (3, .c (.s (.s .item))), (4, .c .i), (5, .c (.bx 5 0)), (11, .c (.ref 15)), (12, .c .i), (13, .c .b)], [(5, .boxT (.s .net)), (15, .arr .I true)]⟩
def yu1 (av : AV) (x : HP z11.ps) (n : Nat) (v : y2g.den) (K : Ks (CR z11)) : Option (CR z11) := z2j v.2.1 v.1.2.2.1 v.1.2.2.2.1 v.1.2.2.2.2.2.2.1 (fun s1_0 => y0c.at none ((v.1.1, v.1.2.1, v.1.2.2.1, v.1.2.2.2.1, (), (), v.1.2.2.2.2.2.2.1, s1_0, ()), (v.2.1, v.2.2.1, ())) (K (.exit 2))) n v.1.2.2.2.2.2.2.2.1 v.1.2.2.2.2.2.2.2.2.1
def y1m (av : AV) (x : HP z11.ps) : Hdl (CR z11) := hnd [] y2g (yu1 av x)
theorem yx5 : LP z11 Tryz.f102 [0, 0] y1m := lp_ok (W := []) (H := []) (xs := [y0c]) y3j trivial rfl (fun av x v K => by kernel_rfl) (fun av x n v K => by kernel_rfl)
def y9b : Tmpl := ⟨[(1, .c (.s .I)), (2, .c (.s (.s .did))), (3, .c (.s (.s .item))), (4, .c .i), (5, .c (.bx 5 0)), (11, .c (.ref 15)), (12, .c .i)], [(5, .boxT (.s .net)), (15, .arr .I true)]⟩
def y6b : Tmpl := ⟨[(11, .c (.ref 15))], [(15, .arr .I true)]⟩
def w3d (av : AV) (x : HP z11.ps) (n : Nat) (v : y9b.den) (K : Ks (CR z11)) : Option (CR z11) := z5s v.2.1 v.1.1 v.1.2.1 v.1.2.2.1 v.1.2.2.2.1 (fun l0_1 => y6b.at none (((), ()), (l0_1, ())) (K (.exit 0))) n v.1.2.2.2.2.2.2.1 v.2.2.1
def y7g (av : AV) (x : HP z11.ps) : Hdl (CR z11) := hnd [] y9b (w3d av x)
theorem w55 : LP z11 Tryz.f102 [0] y7g := lp_ok (W := []) (H := [y1m]) (xs := [y6b]) y3j ⟨yx5, trivial⟩ rfl (fun av x v K => by kernel_rfl) (fun av x n v K => by kernel_rfl)
theorem yr3 : z11.Ok Tryz.prog := fn_ok (k := z11) (fn := Tryz.f102) (W := []) (H := [y7g]) Tryz.func102 y3j ⟨w55, trivial⟩ rfl rfl (fun av x => by kernel_rfl)
def z98 (n : GNet) (data : List Int) : Option GCase := (z3d n).bind fun x1 => (if x1 = true then ((z2o data).bind fun x3 => (if x3 = true then (gd ((0 : Int) ≤ n.places ∧ n.places ≤ (1000000000 : Int)) (gd (([] : List Int).length + data.length ≤ SMALL) ((getI (List.replicate n.places.toNat (0 : Int)) 0).bind fun x7 => (some (GCase.mk 1 ((List.replicate n.places.toNat (0 : Int)).set (0 : Int).toNat 1) [] (([] : List Int) ++ data) []))))) else (some (GCase.mk 0 [] [] [] [])))) else (some (GCase.mk 0 [] [] [] [])))
def zs0 : Con := ⟨155, [.v (.s .net) false, .v (.sl .I) false], [((.s .kase), true)], [], fun x => z98 x.1 x.2.1⟩
def wd6 : Fs := ⟨[z2m, z17], [], []⟩
theorem wh2 : wd6.Ok Tryz.prog := (fsK zo1 (fsK z6g fs0))
theorem yr0 : zs0.Ok Tryz.prog := fn_ok (k := zs0) (fn := Tryz.f155) (W := []) (H := []) Tryz.func155 wh2 trivial rfl rfl (fun av x => by kernel_rfl)
def zf3 (c : GCase) : Option Bool := if decide (c.state = 1) = true then ((getI c.marks 1).bind fun x20 => (some (decide (x20 = 0)))) else (if decide ((c.busy.length : Int) = 0) = true then ((getI c.marks 1).bind fun x22 => (some ((decide (c.state = 2)) == (decide (0 < x22))))) else (some false))
def z6y (n : GNet) (c : GCase) (kx0_0 : Option Bool) : Nat → Int → Option Bool
  | 0, _ => none
  | n0 + 1, s0_0 => if decide (s0_0 < (c.did.length : Int)) = true then ((getI c.did s0_0).bind fun x11 => (gd (ok64 ((n.tasks.length : Int) - 1)) ((z03 x11.task 0 ((n.tasks.length : Int) - 1)).bind fun x13 => (if x13 = true then ((getI c.did s0_0).bind fun x15 => ((z03 x15.who 1 4).bind fun x16 => (if x16 = true then (gd (ok64 (s0_0 + 1)) ((z6y n c kx0_0 n0) (s0_0 + 1))) else (some false)))) else (some false))))) else (kx0_0)
def z8q (n : GNet) (c : GCase) : Option Bool := (z8s n c.marks).bind fun x1 => (if x1 = true then ((zg9 n c.busy).bind fun x3 => (if x3 = true then ((z2o c.data).bind fun x5 => (if x5 = true then (if decide (60 < (c.did.length : Int)) = true then (some false) else ((z03 c.state 1 3).bind fun x8 => (if x8 = true then (z6y n c (zf3 c) FUEL 0) else (some false)))) else (some false))) else (some false))) else (some false))
def z38 : Con := ⟨25, [.v (.s .net) false, .v (.s .kase) false], [(.B, true)], [], fun x => z8q x.1 x.2.1⟩
def ws2 : Fs := ⟨[z39, z44, z17, z0m], [], []⟩
theorem w07 : ws2.Ok Tryz.prog := (fsK y05 (fsK yr6 (fsK z6g (fsK z0u fs0))))
def yh6 : Tmpl := ⟨[(2, .c (.bx 2 0)), (3, .c (.bx 3 0)), (5, .c .i)], [(2, .boxT (.s .net)), (3, .boxT (.s .kase))]⟩
def y9t : Tmpl := ⟨[(3, .c (.bx 3 0))], [(3, .boxT (.s .kase))]⟩
def w6s (av : AV) (x : HP z38.ps) (n : Nat) (v : yh6.den) (K : Ks (CR z38)) : Option (CR z38) := z6y v.2.1 v.2.2.1 (y9t.at none (((), ()), (v.2.2.1, ())) (K (.exit 0))) n v.1.2.2.1
def yf1 (av : AV) (x : HP z38.ps) : Hdl (CR z38) := hnd [] yh6 (w6s av x)
theorem w8h : LP z38 Tryz.f25 [0] yf1 := lp_ok (W := []) (H := []) (xs := [y9t]) w07 trivial rfl (fun av x v K => by kernel_rfl) (fun av x n v K => by kernel_rfl)
theorem y04 : z38.Ok Tryz.prog := fn_ok (k := z38) (fn := Tryz.f25) (W := []) (H := [yf1]) Tryz.func25 w07 ⟨w8h, trivial⟩ rfl rfl (fun av x => by kernel_rfl)
def z6e (c : GCase) : Option GCase := gd (([] : List Int).length + c.marks.length ≤ SMALL) (gd (([] : List GItem).length + c.busy.length ≤ SMALL) (gd (([] : List Int).length + c.data.length ≤ SMALL) (gd (([] : List GDid).length + c.did.length ≤ SMALL) (some (GCase.mk c.state (([] : List Int) ++ c.marks) (([] : List GItem) ++ c.busy) (([] : List Int) ++ c.data) (([] : List GDid) ++ c.did))))))
def z91 : Con := ⟨86, [.v (.s .kase) false], [((.s .kase), true)], [], fun x => z6e x.1⟩
def wf2 : Fs := ⟨[], [], []⟩
theorem wi1 : wf2.Ok Tryz.prog := fs0
theorem zu6 : z91.Ok Tryz.prog := fn_ok (k := z91) (fn := Tryz.f86) (W := []) (H := []) Tryz.func86 wi1 trivial rfl rfl (fun av x => by kernel_rfl)
def z6z (n : GNet) (people : List Int) (c : GCase) (t : Int) (who : Int) : Option (GCase × Bool) := (z6e c).bind fun x1 => ((z8q n c).bind fun x2 => (if x2 = true then (if decide (c.state = 1) = true then ((zf4 n c.marks c.busy t).bind fun x5 => (if x5 = true then ((z9b n people c.did c.busy t).bind fun x7 => ((zc1 x7 who).bind fun x8 => (if x8 = true then (if decide ((c.busy.length : Int) = 6) = true then (some (x1, false)) else ((zl8 n c.marks t).bind fun x11 => (gd (x1.busy.length + [(GItem.mk t who 0)].length ≤ SMALL) (some ((GCase.mk x1.state x11 (x1.busy ++ [(GItem.mk t who 0)]) x1.data x1.did), true))))) else (some (x1, false))))) else (some (x1, false)))) else (some (x1, false))) else (some (x1, false))))
def ze4 : Con := ⟨32, [.v (.s .net) false, .v (.sl .I) false, .v (.s .kase) false, .v .I false, .v .I false], [((.s .kase), true), (.B, true)], [], fun x => z6z x.1 x.2.1 x.2.2.1 x.2.2.2.1 x.2.2.2.2.1⟩
def w41 : Fs := ⟨[z91, z38, zs2, z11, z4a, z3x], [], []⟩
theorem w4m : w41.Ok Tryz.prog := (fsK zu6 (fsK y04 (fsK yr2 (fsK yr3 (fsK y8x (fsK w94 fs0))))))
theorem y8t : ze4.Ok Tryz.prog := fn_ok (k := ze4) (fn := Tryz.f32) (W := []) (H := []) Tryz.func32 w4m trivial rfl rfl (fun av x => by kernel_rfl)
def z9s (n : GNet) (c : GCase) (k : Int) (v : Int) (num : Int) : Option (GCase × Bool) := (z6e c).bind fun x1 => ((z8q n c).bind fun x2 => (if x2 = true then (if decide (c.state = 1) = true then (gd (ok64 ((c.busy.length : Int) - 1)) ((z03 k 0 ((c.busy.length : Int) - 1)).bind fun x6 => (if x6 = true then ((z03 v (-1) 2).bind fun x8 => (if x8 = true then ((z03 num (-99) 99).bind fun x10 => (if x10 = true then (if decide ((c.did.length : Int) = 60) = true then (some (x1, false)) else ((getI c.busy k).bind fun x13 => ((z7l c.data v num).bind fun x14 => (gd (ok64 (x13.did + 1)) ((getI x1.busy k).bind fun x16 => (gd (ok64 (x13.did + 1)) ((getI n.tasks x13.task).bind fun x18 => (if decide ((x13.did + 1) < x18.need) = true then (some ((GCase.mk x1.state x1.marks (x1.busy.set k.toNat (GItem.mk x16.task x16.who (x13.did + 1))) x14 x1.did), true)) else ((zl9 n c.marks x13.task x14).bind fun x20 => (if x20.2 = true then (gd ((0 : Int) ≤ k ∧ k ≤ (c.busy.length : Int)) (gd (([] : List GItem).length + (c.busy.take k.toNat).length ≤ SMALL) (gd (ok64 (k + 1)) (gd ((0 : Int) ≤ (k + 1) ∧ (k + 1) ≤ (c.busy.length : Int)) (gd ((([] : List GItem) ++ (c.busy.take k.toNat)).length + (c.busy.drop (k + 1).toNat).length ≤ SMALL) (gd (x1.did.length + [(GDid.mk x13.task x13.who)].length ≤ SMALL) ((getI x20.1 1).bind fun x28 => (if decide (0 < x28) = true then (some ((GCase.mk 2 x20.1 ([] : List GItem) x14 (x1.did ++ [(GDid.mk x13.task x13.who)])), true)) else (some ((GCase.mk x1.state x20.1 ((([] : List GItem) ++ (c.busy.take k.toNat)) ++ (c.busy.drop (k + 1).toNat)) x14 (x1.did ++ [(GDid.mk x13.task x13.who)])), true)))))))))) else ((z6e c).bind fun x30 => (some (x30, false))))))))))))) else (some (x1, false)))) else (some (x1, false)))) else (some (x1, false))))) else (some (x1, false))) else (some (x1, false))))
def zl2 : Con := ⟨112, [.v (.s .net) false, .v (.s .kase) false, .v .I false, .v .I false, .v .I false], [((.s .kase), true), (.B, true)], [], fun x => z9s x.1 x.2.1 x.2.2.1 x.2.2.2.1 x.2.2.2.2.1⟩
def w7h : Fs := ⟨[z91, z38, z0m, zs1, z0x], [], []⟩
theorem w84 : w7h.Ok Tryz.prog := (fsK zu6 (fsK y04 (fsK z0u (fsK yr1 (fsK w95 fs0)))))
theorem yg4 : zl2.Ok Tryz.prog := fn_ok (k := zl2) (fn := Tryz.f112) (W := []) (H := []) Tryz.func112 w84 trivial rfl rfl (fun av x => by kernel_rfl)
def zl7 (n : GNet) (c : GCase) : Option (GCase × Bool) := (z6e c).bind fun x1 => ((z8q n c).bind fun x2 => (if x2 = true then (if decide (c.state = 1) = true then (some ((GCase.mk 3 x1.marks ([] : List GItem) x1.data x1.did), true)) else (some (x1, false))) else (some (x1, false))))
def y0u : Con := ⟨23, [.v (.s .net) false, .v (.s .kase) false], [((.s .kase), true), (.B, true)], [], fun x => zl7 x.1 x.2.1⟩
def w7g : Fs := ⟨[z91, z38], [], []⟩
theorem w83 : w7g.Ok Tryz.prog := (fsK zu6 (fsK y04 fs0))
theorem w93 : y0u.Ok Tryz.prog := fn_ok (k := y0u) (fn := Tryz.f23) (W := []) (H := []) Tryz.func23 w83 trivial rfl rfl (fun av x => by kernel_rfl)
def z08 (c : GCase) : Option GCase := (z0l c.marks).bind fun x1 => (gd (([] : List GItem).length + c.busy.length ≤ SMALL) ((z0l c.data).bind fun x3 => (gd (([] : List GDid).length + c.did.length ≤ SMALL) (some (GCase.mk c.state x1 (([] : List GItem) ++ c.busy) x3 (([] : List GDid) ++ c.did))))))
def z33 : Con := ⟨84, [.v (.s .kase) false], [((.s .kase), true)], [], fun x => z08 x.1⟩
def yc0 : Fs := ⟨[z1s], [], []⟩
theorem yc6 : yc0.Ok Tryz.prog := (fsK z3g fs0)
theorem z6o : z33.Ok Tryz.prog := fn_ok (k := z33) (fn := Tryz.f84) (W := []) (H := []) Tryz.func84 yc6 trivial rfl rfl (fun av x => by kernel_rfl)
def y8e (s0_0 : Int) (bk0 : Int → Option Bool) (s1_0 : Int) : Option Bool := if ((decide (s0_0 = 0)) == (decide (s1_0 = 0))) = true then (if decide (1 < s1_0) = true then (some false) else (gd (ok64 (s0_0 + 1)) (bk0 (s0_0 + 1)))) else (some false)
def z14 (tree : List GNode) (s0_0 : Int) (kx1_0 : Int → Option Bool) : Nat → Int → Int → Option Bool
  | 0, _, _ => none
  | n1 + 1, s1_0, s1_1 => if decide (s1_1 < (tree.length : Int)) = true then ((getI tree s1_1).bind fun x15 => (if decide (x15.yes = s0_0) = true then (gd (ok64 (s1_0 + 1)) ((getI tree s1_1).bind fun x18 => (if decide (x18.no = s0_0) = true then (gd (ok64 ((s1_0 + 1) + 1)) (gd (ok64 (s1_1 + 1)) ((z14 tree s0_0 kx1_0 n1) ((s1_0 + 1) + 1) (s1_1 + 1)))) else (gd (ok64 (s1_1 + 1)) ((z14 tree s0_0 kx1_0 n1) (s1_0 + 1) (s1_1 + 1)))))) else ((getI tree s1_1).bind fun x23 => (if decide (x23.no = s0_0) = true then (gd (ok64 (s1_0 + 1)) (gd (ok64 (s1_1 + 1)) ((z14 tree s0_0 kx1_0 n1) (s1_0 + 1) (s1_1 + 1)))) else (gd (ok64 (s1_1 + 1)) ((z14 tree s0_0 kx1_0 n1) s1_0 (s1_1 + 1))))))) else (kx1_0 s1_0)
def y8f (s0_0 : Int) (bk0 : Int → Option Bool) (s2_0 : Int) : Option Bool := if ((decide (s0_0 = 0)) == (decide (s2_0 = 0))) = true then (if decide (1 < s2_0) = true then (some false) else (gd (ok64 (s0_0 + 1)) (bk0 (s0_0 + 1)))) else (some false)
def y8g (s0_0 : Int) (bk0 : Int → Option Bool) (s3_0 : Int) : Option Bool := if ((decide (s0_0 = 0)) == (decide (s3_0 = 0))) = true then (if decide (1 < s3_0) = true then (some false) else (gd (ok64 (s0_0 + 1)) (bk0 (s0_0 + 1)))) else (some false)
def y8h (s0_0 : Int) (bk0 : Int → Option Bool) (s4_0 : Int) : Option Bool := if ((decide (s0_0 = 0)) == (decide (s4_0 = 0))) = true then (if decide (1 < s4_0) = true then (some false) else (gd (ok64 (s0_0 + 1)) (bk0 (s0_0 + 1)))) else (some false)
def y8i  : Option Bool := some true
def z31 (tree : List GNode) (kx0_0 : Option Bool) : Nat → Int → Option Bool
  | 0, _ => none
  | n0 + 1, s0_0 => if decide (s0_0 < (tree.length : Int)) = true then ((getI tree s0_0).bind fun x3 => ((z6b x3.if_).bind fun x4 => (if x4 = true then ((z03 x3.ans 0 2).bind fun x6 => (if x6 = true then ((z2o x3.stone).bind fun x8 => (if x8 = true then ((z1b x3.if_ x3.stone).bind fun x10 => (if x10 = true then (if decide (x3.yes = (-1)) = true then (if decide (x3.no = (-1)) = true then (z14 tree s0_0 (y8e s0_0 (z31 tree kx0_0 n0)) FUEL 0 0) else (gd (ok64 (s0_0 + 1)) (gd (ok64 ((tree.length : Int) - 1)) ((z03 x3.no (s0_0 + 1) ((tree.length : Int) - 1)).bind fun x33 => (if x33 = true then (z14 tree s0_0 (y8f s0_0 (z31 tree kx0_0 n0)) FUEL 0 0) else (some false)))))) else (gd (ok64 (s0_0 + 1)) (gd (ok64 ((tree.length : Int) - 1)) ((z03 x3.yes (s0_0 + 1) ((tree.length : Int) - 1)).bind fun x54 => (if x54 = true then (if decide (x3.no = (-1)) = true then (z14 tree s0_0 (y8g s0_0 (z31 tree kx0_0 n0)) FUEL 0 0) else (gd (ok64 (s0_0 + 1)) (gd (ok64 ((tree.length : Int) - 1)) ((z03 x3.no (s0_0 + 1) ((tree.length : Int) - 1)).bind fun x76 => (if x76 = true then (z14 tree s0_0 (y8h s0_0 (z31 tree kx0_0 n0)) FUEL 0 0) else (some false)))))) else (some false)))))) else (some false))) else (some false))) else (some false))) else (some false)))) else (kx0_0)
def z8u (tree : List GNode) : Option Bool := if decide (12 < (tree.length : Int)) = true then (some false) else (z31 tree y8i FUEL 0)
def z18 : Con := ⟨129, [.v (.sl (.s .node)) false], [(.B, true)], [], fun x => z8u x.1⟩
def wt0 : Fs := ⟨[z8j, z0m, z17, z49], [], []⟩
theorem y72 : wt0.Ok Tryz.prog := (fsK zo0 (fsK z0u (fsK z6g (fsK z79 fs0))))
def y5u : Tmpl := ⟨[(0, .c (.s (.s .node))), (3, .c .i), (5, .c .i), (6, .c .i)], []⟩
def y2z : Tmpl := ⟨[(0, .c (.s (.s .node))), (3, .c .i), (5, .c .i)], []⟩
def w1b (av : AV) (x : HP z18.ps) (n : Nat) (v : y5u.den) (K : Ks (CR z18)) : Option (CR z18) := z14 v.1.1 v.1.2.1 (fun s1_0 => y2z.at none ((v.1.1, v.1.2.1, s1_0, ()), ()) (K (.exit 2))) n v.1.2.2.1 v.1.2.2.2.1
def y4y (av : AV) (x : HP z18.ps) : Hdl (CR z18) := hnd [] y5u (w1b av x)
theorem w29 : LP z18 Tryz.f129 [0, 0] y4y := lp_ok (W := []) (H := []) (xs := [y2z]) y72 trivial rfl (fun av x v K => by kernel_rfl) (fun av x n v K => by kernel_rfl)
def yi2 : Tmpl := ⟨[(0, .c (.s (.s .node))), (3, .c .i)], []⟩
def y9z : Tmpl := ⟨[], []⟩
def w6y (av : AV) (x : HP z18.ps) (n : Nat) (v : yi2.den) (K : Ks (CR z18)) : Option (CR z18) := z31 v.1.1 (y9z.at none ((), ()) (K (.exit 0))) n v.1.2.1
def yf7 (av : AV) (x : HP z18.ps) : Hdl (CR z18) := hnd [] yi2 (w6y av x)
theorem w8n : LP z18 Tryz.f129 [0] yf7 := lp_ok (W := []) (H := [y4y]) (xs := [y9z]) y72 ⟨w29, trivial⟩ rfl (fun av x v K => by kernel_rfl) (fun av x n v K => by kernel_rfl)
theorem y8v : z18.Ok Tryz.prog := fn_ok (k := z18) (fn := Tryz.f129) (W := []) (H := [yf7]) Tryz.func129 y72 ⟨w8n, trivial⟩ rfl rfl (fun av x => by kernel_rfl)
def y5c (s0_0 : Int) (s0_1 : Int) : Option (Int × Int) := some (s0_0, s0_1)
def y5d (s0_0 : Int) (s0_1 : Int) : Option (Int × Int) := some (s0_0, s0_1)
def z3e (tree : List GNode) (data : List Int) (kx0_0 : Int → Int → Option (Int × Int)) (kx0_1 : Int → Int → Option (Int × Int)) : Nat → Int → Int → Int → Int → Option (Int × Int)
  | 0, _, _, _, _ => none
  | n0 + 1, s0_0, s0_1, s0_2, s0_3 => if decide (s0_3 < 12) = true then (if decide (s0_2 = (-1)) = true then (kx0_0 s0_0 s0_1) else ((getI tree s0_2).bind fun x4 => ((z1b x4.if_ data).bind fun x5 => (if x5 = true then ((getI tree s0_2).bind fun x7 => (gd (ok64 (s0_3 + 1)) ((z3e tree data kx0_0 kx0_1 n0) s0_2 s0_2 x7.yes (s0_3 + 1)))) else ((getI tree s0_2).bind fun x9 => (gd (ok64 (s0_3 + 1)) ((z3e tree data kx0_0 kx0_1 n0) s0_0 s0_2 x9.no (s0_3 + 1)))))))) else (kx0_1 s0_0 s0_1)
def y5e (s1_0 : Int) (s1_1 : Int) : Option (Int × Int) := some (s1_0, s1_1)
def y5f (s1_0 : Int) (s1_1 : Int) : Option (Int × Int) := some (s1_0, s1_1)
def z7p (tree : List GNode) (data : List Int) : Option (Int × Int) := if decide ((tree.length : Int) = 0) = true then (z3e tree data y5c y5d FUEL (-1) (-1) (-1) 0) else (z3e tree data y5e y5f FUEL (-1) (-1) 0 0)
def z2y : Con := ⟨209, [.v (.sl (.s .node)) false, .v (.sl .I) false], [(.I, true), (.I, true)], [], fun x => z7p x.1 x.2.1⟩
def wf5 : Fs := ⟨[z49], [], []⟩
theorem yo8 : wf5.Ok Tryz.prog := (fsK z79 fs0)
def y9g : Tmpl := ⟨[(0, .c (.s (.s .node))), (1, .c (.s .I)), (6, .c .i), (7, .c .i), (8, .c .i), (9, .c .i)], []⟩
def zp7 : Tmpl := ⟨[(6, .c .i), (7, .c .i)], []⟩
def w3i (av : AV) (x : HP z2y.ps) (n : Nat) (v : y9g.den) (K : Ks (CR z2y)) : Option (CR z2y) := z3e v.1.1 v.1.2.1 (fun s0_0 s0_1 => zp7.at none ((s0_0, s0_1, ()), ()) (K (.exit 0))) (fun s0_0 s0_1 => zp7.at none ((s0_0, s0_1, ()), ()) (K (.exit 0))) n v.1.2.2.1 v.1.2.2.2.1 v.1.2.2.2.2.1 v.1.2.2.2.2.2.1
def y7l (av : AV) (x : HP z2y.ps) : Hdl (CR z2y) := hnd [] y9g (w3i av x)
theorem w5a : LP z2y Tryz.f209 [0] y7l := lp_ok (W := []) (H := []) (xs := [zp7]) yo8 trivial rfl (fun av x v K => by kernel_rfl) (fun av x n v K => by kernel_rfl)
theorem y4c : z2y.Ok Tryz.prog := fn_ok (k := z2y) (fn := Tryz.f209) (W := []) (H := [y7l]) Tryz.func209 yo8 ⟨w5a, trivial⟩ rfl rfl (fun av x => by kernel_rfl)
def zt7 (tree : List GNode) (data : List Int) : Option Int := (z8u tree).bind fun x1 => (if x1 = true then ((z2o data).bind fun x3 => (if x3 = true then ((z7p tree data).bind fun x5 => (if decide (x5.1 = (-1)) = true then (some 0) else ((getI tree x5.1).bind fun x7 => (some x7.ans)))) else (some 0))) else (some 0))
def y3t : Con := ⟨186, [.v (.sl (.s .node)) false, .v (.sl .I) false], [(.I, true)], [], fun x => zt7 x.1 x.2.1⟩
def we4 : Fs := ⟨[z18, z17, z2y], [], []⟩
theorem wh5 : we4.Ok Tryz.prog := (fsK y8v (fsK z6g (fsK y4c fs0)))
theorem wl7 : y3t.Ok Tryz.prog := fn_ok (k := y3t) (fn := Tryz.f186) (W := []) (H := []) Tryz.func186 wh5 trivial rfl rfl (fun av x => by kernel_rfl)
def zu1 (tree : List GNode) (a : List Int) (b : List Int) : Option Bool := (z7p tree a).bind fun x1 => ((z7p tree b).bind fun x2 => (if decide (x1.2 = x2.2) = true then (if decide (x1.2 = (-1)) = true then (some true) else ((getI tree x1.2).bind fun x5 => ((z1b x5.if_ a).bind fun x6 => ((getI tree x1.2).bind fun x7 => ((z1b x7.if_ b).bind fun x8 => (some (x6 == x8))))))) else (some false)))
def y3w : Con := ⟨210, [.v (.sl (.s .node)) false, .v (.sl .I) false, .v (.sl .I) false], [(.B, true)], [], fun x => zu1 x.1 x.2.1 x.2.2.1⟩
def wf4 : Fs := ⟨[z2y, z49], [], []⟩
theorem wi2 : wf4.Ok Tryz.prog := (fsK y4c (fsK z79 fs0))
theorem wm1 : y3w.Ok Tryz.prog := fn_ok (k := y3w) (fn := Tryz.f210) (W := []) (H := []) Tryz.func210 wi2 trivial rfl rfl (fun av x => by kernel_rfl)
def zp3 (l0_1 : List GNode) : Option (List GNode) := some l0_1
def z5u (tree : List GNode) (kx0_0 : List GNode → Option (List GNode)) : Nat → Int → List GNode → Option (List GNode)
  | 0, _, _ => none
  | n0 + 1, s0_0, l0_1 => if decide (s0_0 < (tree.length : Int)) = true then ((getI tree s0_0).bind fun x2 => (gd (([] : List Int).length + x2.stone.length ≤ SMALL) (gd (l0_1.length + [(GNode.mk x2.if_ x2.yes x2.no x2.ans (([] : List Int) ++ x2.stone))].length ≤ SMALL) (gd (ok64 (s0_0 + 1)) ((z5u tree kx0_0 n0) (s0_0 + 1) (l0_1 ++ [(GNode.mk x2.if_ x2.yes x2.no x2.ans (([] : List Int) ++ x2.stone))])))))) else (kx0_0 l0_1)
def zh2 (tree : List GNode) : Option (List GNode) := z5u tree zp3 FUEL 0 ([] : List GNode)
def z45 : Con := ⟨189, [.v (.sl (.s .node)) false], [((.sl (.s .node)), true)], [], fun x => zh2 x.1⟩
def wf3 : Fs := ⟨[], [], []⟩
theorem yo7 : wf3.Ok Tryz.prog := fs0
def y9f : Tmpl := ⟨[(0, .c (.s (.s .node))), (3, .c (.ref 6)), (4, .c .i)], [(6, .arr (.s .node) true)]⟩
def y6f : Tmpl := ⟨[(3, .c (.ref 6))], [(6, .arr (.s .node) true)]⟩
def w3h (av : AV) (x : HP z45.ps) (n : Nat) (v : y9f.den) (K : Ks (CR z45)) : Option (CR z45) := z5u v.1.1 (fun l0_1 => y6f.at none (((), ()), (l0_1, ())) (K (.exit 0))) n v.1.2.2.1 v.2.1
def y7k (av : AV) (x : HP z45.ps) : Hdl (CR z45) := hnd [] y9f (w3h av x)
theorem w59 : LP z45 Tryz.f189 [0] y7k := lp_ok (W := []) (H := []) (xs := [y6f]) yo7 trivial rfl (fun av x v K => by kernel_rfl) (fun av x n v K => by kernel_rfl)
theorem yr7 : z45.Ok Tryz.prog := fn_ok (k := z45) (fn := Tryz.f189) (W := []) (H := [y7k]) Tryz.func189 yo7 ⟨w59, trivial⟩ rfl rfl (fun av x => by kernel_rfl)
def za4 (tree : List GNode) (data : List Int) (e : GAsk) (ans : Int) (x1 : (List GNode)) : Option ((List GNode) × Bool) := (z7p tree data).bind fun x20 => (if decide (x20.2 = (-1)) = true then (gd (([] : List Int).length + data.length ≤ SMALL) (gd (x1.length + [(GNode.mk e (-1) (-1) ans (([] : List Int) ++ data))].length ≤ SMALL) (some ((x1 ++ [(GNode.mk e (-1) (-1) ans (([] : List Int) ++ data))]), true)))) else ((getI tree x20.2).bind fun x24 => ((z1b x24.if_ data).bind fun x25 => (if x25 = true then ((getI x1 x20.2).bind fun x27 => (gd (([] : List Int).length + data.length ≤ SMALL) (gd ((x1.set x20.2.toNat (GNode.mk x27.if_ (tree.length : Int) x27.no x27.ans x27.stone)).length + [(GNode.mk e (-1) (-1) ans (([] : List Int) ++ data))].length ≤ SMALL) (some (((x1.set x20.2.toNat (GNode.mk x27.if_ (tree.length : Int) x27.no x27.ans x27.stone)) ++ [(GNode.mk e (-1) (-1) ans (([] : List Int) ++ data))]), true))))) else ((getI x1 x20.2).bind fun x30 => (gd (([] : List Int).length + data.length ≤ SMALL) (gd ((x1.set x20.2.toNat (GNode.mk x30.if_ x30.yes (tree.length : Int) x30.ans x30.stone)).length + [(GNode.mk e (-1) (-1) ans (([] : List Int) ++ data))].length ≤ SMALL) (some (((x1.set x20.2.toNat (GNode.mk x30.if_ x30.yes (tree.length : Int) x30.ans x30.stone)) ++ [(GNode.mk e (-1) (-1) ans (([] : List Int) ++ data))]), true)))))))))
def z4p (tree : List GNode) (data : List Int) (e : GAsk) (x1 : (List GNode)) (kx0_0 : Option ((List GNode) × Bool)) : Nat → Int → Option ((List GNode) × Bool)
  | 0, _ => none
  | n0 + 1, s0_0 => if decide (s0_0 < (tree.length : Int)) = true then ((getI tree s0_0).bind fun x12 => ((zu1 tree x12.stone data).bind fun x13 => (if x13 = true then ((getI tree s0_0).bind fun x15 => ((z1b e x15.stone).bind fun x16 => (if x16 = true then (some (x1, false)) else (gd (ok64 (s0_0 + 1)) ((z4p tree data e x1 kx0_0 n0) (s0_0 + 1)))))) else (gd (ok64 (s0_0 + 1)) ((z4p tree data e x1 kx0_0 n0) (s0_0 + 1)))))) else (kx0_0)
def z7m (tree : List GNode) (data : List Int) (e : GAsk) (ans : Int) : Option ((List GNode) × Bool) := (zh2 tree).bind fun x1 => ((z8u tree).bind fun x2 => (if x2 = true then ((z2o data).bind fun x4 => (if x4 = true then ((z1b e data).bind fun x6 => (if x6 = true then ((z03 ans 0 2).bind fun x8 => (if x8 = true then (if decide ((tree.length : Int) = 12) = true then (some (x1, false)) else (z4p tree data e x1 (za4 tree data e ans x1) FUEL 0)) else (some (x1, false)))) else (some (x1, false)))) else (some (x1, false)))) else (some (x1, false))))
def z3y : Con := ⟨187, [.v (.sl (.s .node)) false, .v (.sl .I) false, .v (.s .ask) false, .v .I false], [((.sl (.s .node)), true), (.B, true)], [], fun x => z7m x.1 x.2.1 x.2.2.1 x.2.2.2.1⟩
def we3 : Fs := ⟨[z45, z18, z17, z49, z0m, y3w, z2y], [], []⟩
theorem yo4 : we3.Ok Tryz.prog := (fsK yr7 (fsK y8v (fsK z6g (fsK z79 (fsK z0u (fsK wm1 (fsK y4c fs0)))))))
def y9c : Tmpl := ⟨[(0, .c (.s (.s .node))), (1, .c (.s .I)), (3, .c .i), (6, .c (.bx 6 0)), (10, .c (.ref 15)), (11, .c .i)], [(6, .boxT (.s .ask)), (15, .arr (.s .node) true)]⟩
def y6c : Tmpl := ⟨[(0, .c (.s (.s .node))), (1, .c (.s .I)), (3, .c .i), (6, .c (.bx 6 0)), (10, .c (.ref 15))], [(6, .boxT (.s .ask)), (15, .arr (.s .node) true)]⟩
def w3e (av : AV) (x : HP z3y.ps) (n : Nat) (v : y9c.den) (K : Ks (CR z3y)) : Option (CR z3y) := z4p v.1.1 v.1.2.1 v.2.1 v.2.2.1 (y6c.at none ((v.1.1, v.1.2.1, v.1.2.2.1, (), (), ()), (v.2.1, v.2.2.1, ())) (K (.exit 0))) n v.1.2.2.2.2.2.1
def y7h (av : AV) (x : HP z3y.ps) : Hdl (CR z3y) := hnd [] y9c (w3e av x)
theorem w56 : LP z3y Tryz.f187 [0] y7h := lp_ok (W := []) (H := []) (xs := [y6c]) yo4 trivial rfl (fun av x v K => by kernel_rfl) (fun av x n v K => by kernel_rfl)
theorem yr4 : z3y.Ok Tryz.prog := fn_ok (k := z3y) (fn := Tryz.f187) (W := []) (H := [y7h]) Tryz.func187 yo4 ⟨w56, trivial⟩ rfl rfl (fun av x => by kernel_rfl)
def z4c (ans : Int) : Option Bool := (z0c ans 0 2).bind fun x1 => (some x1)
def z8h : Con := ⟨121, [.v .I false], [(.B, true)], [], fun x => z4c x.1⟩
def w3z : Fs := ⟨[z20], [], []⟩
theorem w4k : w3z.Ok Tryz.prog := (fsK z2q fs0)
theorem zw8 : z8h.Ok Tryz.prog := fn_ok (k := z8h) (fn := Tryz.f121) (W := []) (H := []) Tryz.func121 w4k trivial rfl rfl (fun av x => by kernel_rfl)
def z9l (l0_1 : List GNode) : Option (List GNode) := some l0_1
def z37 (tree : List GNode) (p0_0 : Int) (kx0_0 : List GNode → Option (List GNode)) : Nat → Int → List GNode → Option (List GNode)
  | 0, _, _ => none
  | n0 + 1, s0_0, l0_1 => if decide (s0_0 < p0_0) = true then ((getI tree s0_0).bind fun x2 => ((z0l x2.stone).bind fun x3 => (gd (l0_1.length + [(GNode.mk x2.if_ x2.yes x2.no x2.ans x3)].length ≤ SMALL) (gd (ok64 (s0_0 + 1)) ((z37 tree p0_0 kx0_0 n0) (s0_0 + 1) (l0_1 ++ [(GNode.mk x2.if_ x2.yes x2.no x2.ans x3)])))))) else (kx0_0 l0_1)
def z6v (tree : List GNode) : Option (List GNode) := z37 tree (tree.length : Int) z9l FUEL 0 ([] : List GNode)
def z1e : Con := ⟨183, [.v (.sl (.s .node)) false], [((.sl (.s .node)), true)], [], fun x => z6v x.1⟩
def yv8 : Fs := ⟨[z1s], [], []⟩
theorem y1k : yv8.Ok Tryz.prog := (fsK z3g fs0)
def zx7 : Tmpl := ⟨[(3, .c (.ref 500003)), (6, .c (.s (.s .node))), (7, .c .i), (8, .c .i)], [(500003, .arr (.s .node) true)]⟩
def zq9 : Tmpl := ⟨[(3, .c (.ref 500003))], [(500003, .arr (.s .node) true)]⟩
def yi8 (av : AV) (x : HP z1e.ps) (n : Nat) (v : zx7.den) (K : Ks (CR z1e)) : Option (CR z1e) := z37 v.1.2.1 v.1.2.2.1 (fun l0_1 => zq9.at none (((), ()), (l0_1, ())) (K (.exit 0))) n v.1.2.2.2.1 v.2.1
def zv6 (av : AV) (x : HP z1e.ps) : Hdl (CR z1e) := hnd [.e 3 500003 (.s .node)] zx7 (yi8 av x)
theorem yk4 : LP z1e Tryz.f183 [0] zv6 := lp_ok (W := []) (H := []) (xs := [zq9]) y1k trivial rfl (fun av x v K => by kernel_rfl) (fun av x n v K => by kernel_rfl)
theorem y2a : z1e.Ok Tryz.prog := fn_ok (k := z1e) (fn := Tryz.f183) (W := []) (H := [zv6]) Tryz.func183 y1k ⟨yk4, trivial⟩ rfl rfl (fun av x => by kernel_rfl)
def y5g  : Option Bool := some true
def z5x (nets : List GNet) (kx0_0 : Option Bool) : Nat → Int → Option Bool
  | 0, _ => none
  | n0 + 1, s0_0 => if decide (s0_0 < (nets.length : Int)) = true then ((getI nets s0_0).bind fun x4 => ((z3d x4).bind fun x5 => (if x5 = true then (gd (ok64 (s0_0 + 1)) ((z5x nets kx0_0 n0) (s0_0 + 1))) else (some false)))) else (kx0_0)
def zh4 (nets : List GNet) : Option Bool := (z03 (nets.length : Int) 1 3).bind fun x1 => (if x1 = true then (z5x nets y5g FUEL 0) else (some false))
def z46 : Con := ⟨128, [.v (.sl (.s .net)) false], [(.B, true)], [], fun x => zh4 x.1⟩
def wf9 : Fs := ⟨[z0m, z2m], [], []⟩
theorem yo9 : wf9.Ok Tryz.prog := (fsK z0u (fsK zo1 fs0))
def y9j : Tmpl := ⟨[(0, .c (.s (.s .net))), (3, .c .i)], []⟩
def y6i : Tmpl := ⟨[], []⟩
def w3l (av : AV) (x : HP z46.ps) (n : Nat) (v : y9j.den) (K : Ks (CR z46)) : Option (CR z46) := z5x v.1.1 (y6i.at none ((), ()) (K (.exit 0))) n v.1.2.1
def y7o (av : AV) (x : HP z46.ps) : Hdl (CR z46) := hnd [] y9j (w3l av x)
theorem w5d : LP z46 Tryz.f128 [0] y7o := lp_ok (W := []) (H := []) (xs := [y6i]) yo9 trivial rfl (fun av x v K => by kernel_rfl) (fun av x n v K => by kernel_rfl)
theorem yr9 : z46.Ok Tryz.prog := fn_ok (k := z46) (fn := Tryz.f128) (W := []) (H := [y7o]) Tryz.func128 yo9 ⟨w5d, trivial⟩ rfl rfl (fun av x => by kernel_rfl)
def zb1 (p0_1 : Int) (l0_1 : List GTask) : Option GNet := some (GNet.mk p0_1 l0_1)
def z3s (n : GNet) (kx0_0 : List GTask → Option GNet) : Nat → Int → List GTask → Option GNet
  | 0, _, _ => none
  | n0 + 1, s0_0, l0_1 => if decide (s0_0 < (n.tasks.length : Int)) = true then ((getI n.tasks s0_0).bind fun x2 => (gd (([] : List Int).length + x2.in_.length ≤ SMALL) (gd (([] : List GFlow).length + x2.out.length ≤ SMALL) (gd (([] : List Int).length + x2.clear.length ≤ SMALL) (gd (l0_1.length + [(GTask.mk x2.join x2.split (([] : List Int) ++ x2.in_) (([] : List GFlow) ++ x2.out) (([] : List Int) ++ x2.clear) x2.role x2.apart x2.all x2.need)].length ≤ SMALL) (gd (ok64 (s0_0 + 1)) ((z3s n kx0_0 n0) (s0_0 + 1) (l0_1 ++ [(GTask.mk x2.join x2.split (([] : List Int) ++ x2.in_) (([] : List GFlow) ++ x2.out) (([] : List Int) ++ x2.clear) x2.role x2.apart x2.all x2.need)])))))))) else (kx0_0 l0_1)
def z7x (n : GNet) : Option GNet := z3s n (zb1 n.places) FUEL 0 ([] : List GTask)
def z1u : Con := ⟨190, [.v (.s .net) false], [((.s .net), true)], [], fun x => z7x x.1⟩
def w1r : Fs := ⟨[], [], []⟩
theorem y4m : w1r.Ok Tryz.prog := fs0
def y0a : Tmpl := ⟨[(1, .c (.bx 1 0)), (2, .c (.bx 2 0)), (3, .c (.bx 3 0)), (4, .c .i)], [(1, .boxT (.s .net)), (2, .box [.i, .nl]), (3, .box [.i, .ref 510301]), (510301, .arr (.s .task) true)]⟩
def zy2 : Tmpl := ⟨[(2, .c (.bx 2 0)), (3, .c (.bx 3 0))], [(2, .box [.i, .nl]), (3, .box [.i, .ref 510301]), (510301, .arr (.s .task) true)]⟩
def ym1 (av : AV) (x : HP z1u.ps) (n : Nat) (v : y0a.den) (K : Ks (CR z1u)) : Option (CR z1u) := z3s v.2.1 (fun l0_1 => zy2.at none (((), (), ()), ((v.2.2.1.1, (), ()), (v.2.2.2.1.1, (), ()), l0_1, ())) (K (.exit 0))) n v.1.2.2.2.1 v.2.2.2.2.1
def zy9 (av : AV) (x : HP z1u.ps) : Hdl (CR z1u) := hnd [.b 3 1 510301 (.s .task)] y0a (ym1 av x)
theorem yp7 : LP z1u Tryz.f190 [0] zy9 := lp_ok (W := []) (H := []) (xs := [zy2]) y4m trivial rfl (fun av x v K => by kernel_rfl) (fun av x n v K => by kernel_rfl)
theorem y5i : z1u.Ok Tryz.prog := fn_ok (k := z1u) (fn := Tryz.f190) (W := []) (H := [zy9]) Tryz.func190 y4m ⟨yp7, trivial⟩ rfl rfl (fun av x => by kernel_rfl)
def zp1 (p0_0 : List Int) (l0_1 : List GNet) : Option GHouse := some (GHouse.mk l0_1 p0_0 [] [])
def z5q (nets : List GNet) (kx0_0 : List GNet → Option GHouse) : Nat → Int → List GNet → Option GHouse
  | 0, _, _ => none
  | n0 + 1, s0_0, l0_1 => if decide (s0_0 < (nets.length : Int)) = true then ((getI nets s0_0).bind fun x7 => ((z7x x7).bind fun x8 => (gd (l0_1.length + [x8].length ≤ SMALL) (gd (ok64 (s0_0 + 1)) ((z5q nets kx0_0 n0) (s0_0 + 1) (l0_1 ++ [x8])))))) else (kx0_0 l0_1)
def zt4 (nets : List GNet) (people : List Int) : Option GHouse := (zh4 nets).bind fun x1 => (if x1 = true then ((z8t people).bind fun x3 => (if x3 = true then (gd (([] : List Int).length + people.length ≤ SMALL) (z5q nets (zp1 (([] : List Int) ++ people)) FUEL 0 ([] : List GNet))) else (some (GHouse.mk [] [] [] [])))) else (some (GHouse.mk [] [] [] [])))
def z4x : Con := ⟨195, [.v (.sl (.s .net)) false, .v (.sl .I) false], [((.s .house), true)], [], fun x => zt4 x.1 x.2.1⟩
def wd9 : Fs := ⟨[z46, z3a, z1u], [], []⟩
theorem yo1 : wd9.Ok Tryz.prog := (fsK yr9 (fsK y06 (fsK y5i fs0)))
def y98 : Tmpl := ⟨[(0, .c (.s (.s .net))), (4, .c (.bx 4 0)), (5, .c (.bx 5 0)), (6, .c .i)], [(4, .box [.nl, .nl, .nl, .nl]), (5, .box [.ref 510500, .ref 18, .nl, .nl]), (510500, .arr (.s .net) true), (18, .arr .I true)]⟩
def y68 : Tmpl := ⟨[(4, .c (.bx 4 0)), (5, .c (.bx 5 0))], [(4, .box [.nl, .nl, .nl, .nl]), (5, .box [.ref 510500, .ref 18, .nl, .nl]), (510500, .arr (.s .net) true), (18, .arr .I true)]⟩
def w3a (av : AV) (x : HP z4x.ps) (n : Nat) (v : y98.den) (K : Ks (CR z4x)) : Option (CR z4x) := z5q v.1.1 (fun l0_1 => y68.at none (((), (), ()), (((), (), (), (), ()), ((), (), (), (), ()), l0_1, v.2.2.2.2.1, ())) (K (.exit 0))) n v.1.2.2.2.1 v.2.2.2.1
def y7d (av : AV) (x : HP z4x.ps) : Hdl (CR z4x) := hnd [.b 5 0 510500 (.s .net)] y98 (w3a av x)
theorem w52 : LP z4x Tryz.f195 [0] y7d := lp_ok (W := []) (H := []) (xs := [y68]) yo1 trivial rfl (fun av x v K => by kernel_rfl) (fun av x n v K => by kernel_rfl)
theorem wl4 : z4x.Ok Tryz.prog := fn_ok (k := z4x) (fn := Tryz.f195) (W := []) (H := [y7d]) Tryz.func195 yo1 ⟨w52, trivial⟩ rfl rfl (fun av x => by kernel_rfl)
def y8a  : Option Bool := some true
def z71 (h : GHouse) (kx0_0 : Option Bool) : Nat → Int → Option Bool
  | 0, _ => none
  | n0 + 1, s0_0 => if decide (s0_0 < (h.runs.length : Int)) = true then ((getI h.runs s0_0).bind fun x9 => (gd (ok64 ((h.nets.length : Int) - 1)) ((z03 x9.net 0 ((h.nets.length : Int) - 1)).bind fun x11 => (if x11 = true then ((getI h.runs s0_0).bind fun x13 => ((getI h.nets x13.net).bind fun x14 => ((getI h.runs s0_0).bind fun x15 => ((z8q x14 x15.case).bind fun x16 => (if x16 = true then (gd (ok64 (s0_0 + 1)) ((z71 h kx0_0 n0) (s0_0 + 1))) else (some false)))))) else (some false))))) else (kx0_0)
def zz7 (h : GHouse) : Option Bool := (zh4 h.nets).bind fun x1 => (if x1 = true then ((z8t h.people).bind fun x3 => (if x3 = true then ((z8u h.tree).bind fun x5 => (if x5 = true then (if decide (5 < (h.runs.length : Int)) = true then (some false) else (z71 h y8a FUEL 0)) else (some false))) else (some false))) else (some false))
def z64 : Con := ⟨54, [.v (.s .house) false], [(.B, true)], [], fun x => zz7 x.1⟩
def ws5 : Fs := ⟨[z46, z3a, z18, z0m, z38], [], []⟩
theorem w09 : ws5.Ok Tryz.prog := (fsK yr9 (fsK y06 (fsK y8v (fsK z0u (fsK y04 fs0)))))
def yh8 : Tmpl := ⟨[(1, .c (.bx 1 0)), (3, .c .i)], [(1, .boxT (.s .house))]⟩
def y9v : Tmpl := ⟨[], []⟩
def w6u (av : AV) (x : HP z64.ps) (n : Nat) (v : yh8.den) (K : Ks (CR z64)) : Option (CR z64) := z71 v.2.1 (y9v.at none ((), ()) (K (.exit 0))) n v.1.2.1
def yf3 (av : AV) (x : HP z64.ps) : Hdl (CR z64) := hnd [] yh8 (w6u av x)
theorem w8j : LP z64 Tryz.f54 [0] yf3 := lp_ok (W := []) (H := []) (xs := [y9v]) w09 trivial rfl (fun av x v K => by kernel_rfl) (fun av x n v K => by kernel_rfl)
theorem wy2 : z64.Ok Tryz.prog := fn_ok (k := z64) (fn := Tryz.f54) (W := []) (H := [yf3]) Tryz.func54 w09 ⟨w8j, trivial⟩ rfl rfl (fun av x => by kernel_rfl)
def zp4 (x2 : (List GNode)) (p0_0 : List Int) (l0_1 : List GNet) (l1_1 : List GRun) : Option GHouse := some (GHouse.mk l0_1 p0_0 x2 l1_1)
def z5w (h : GHouse) (kx1_0 : List GRun → Option GHouse) : Nat → Int → List GRun → Option GHouse
  | 0, _, _ => none
  | n1 + 1, s1_0, l1_1 => if decide (s1_0 < (h.runs.length : Int)) = true then ((getI h.runs s1_0).bind fun x9 => ((getI h.runs s1_0).bind fun x10 => ((z6e x10.case).bind fun x11 => (gd (l1_1.length + [(GRun.mk x9.net x11)].length ≤ SMALL) (gd (ok64 (s1_0 + 1)) ((z5w h kx1_0 n1) (s1_0 + 1) (l1_1 ++ [(GRun.mk x9.net x11)]))))))) else (kx1_0 l1_1)
def za7 (h : GHouse) (x2 : (List GNode)) (p0_0 : List Int) (l0_1 : List GNet) : Option GHouse := z5w h (zp4 x2 p0_0 l0_1) FUEL 0 ([] : List GRun)
def z5v (h : GHouse) (kx0_0 : List GNet → Option GHouse) : Nat → Int → List GNet → Option GHouse
  | 0, _, _ => none
  | n0 + 1, s0_0, l0_1 => if decide (s0_0 < (h.nets.length : Int)) = true then ((getI h.nets s0_0).bind fun x4 => ((z7x x4).bind fun x5 => (gd (l0_1.length + [x5].length ≤ SMALL) (gd (ok64 (s0_0 + 1)) ((z5v h kx0_0 n0) (s0_0 + 1) (l0_1 ++ [x5])))))) else (kx0_0 l0_1)
def zh3 (h : GHouse) : Option GHouse := gd (([] : List Int).length + h.people.length ≤ SMALL) ((zh2 h.tree).bind fun x2 => (z5v h (za7 h x2 (([] : List Int) ++ h.people)) FUEL 0 ([] : List GNet)))
def z12 : Con := ⟨135, [.v (.s .house) false], [((.s .house), true)], [], fun x => zh3 x.1⟩
def wf7 : Fs := ⟨[z45, z1u, z91], [], []⟩
theorem y3k : wf7.Ok Tryz.prog := (fsK yr7 (fsK y5i (fsK zu6 fs0)))
def y9h : Tmpl := ⟨[(1, .c (.bx 1 0)), (2, .c (.bx 2 0)), (3, .c (.bx 3 0)), (4, .c .i)], [(1, .boxT (.s .house)), (2, .box [.nl, .nl, .nl, .nl]), (3, .box [.ref 510300, .ref 9, .ref 12, .nl]), (510300, .arr (.s .net) true), (9, .arr .I true), (12, .arr (.s .node) true)]⟩
def y6g : Tmpl := ⟨[(1, .c (.bx 1 0)), (2, .c (.bx 2 0)), (3, .c (.bx 3 0))], [(1, .boxT (.s .house)), (2, .box [.nl, .nl, .nl, .nl]), (3, .box [.ref 510300, .ref 9, .ref 12, .nl]), (510300, .arr (.s .net) true), (9, .arr .I true), (12, .arr (.s .node) true)]⟩
def w3j (av : AV) (x : HP z12.ps) (n : Nat) (v : y9h.den) (K : Ks (CR z12)) : Option (CR z12) := z5v v.2.1 (fun l0_1 => y6g.at none (((), (), (), ()), (v.2.1, ((), (), (), (), ()), ((), (), (), (), ()), l0_1, v.2.2.2.2.2.1, v.2.2.2.2.2.2.1, ())) (K (.exit 0))) n v.1.2.2.2.1 v.2.2.2.2.1
def y7m (av : AV) (x : HP z12.ps) : Hdl (CR z12) := hnd [.b 3 0 510300 (.s .net)] y9h (w3j av x)
theorem w5b : LP z12 Tryz.f135 [0] y7m := lp_ok (W := []) (H := []) (xs := [y6g]) y3k trivial rfl (fun av x v K => by kernel_rfl) (fun av x n v K => by kernel_rfl)
def y9i : Tmpl := ⟨[(1, .c (.bx 1 0)), (2, .c (.bx 2 0)), (3, .c (.bx 3 0)), (5, .c .i)], [(1, .boxT (.s .house)), (2, .box [.nl, .nl, .nl, .nl]), (3, .box [.ref 510300, .ref 9, .ref 12, .ref 510303]), (510300, .arr (.s .net) true), (9, .arr .I true), (12, .arr (.s .node) true), (510303, .arr (.s .run) true)]⟩
def y6h : Tmpl := ⟨[(2, .c (.bx 2 0)), (3, .c (.bx 3 0))], [(2, .box [.nl, .nl, .nl, .nl]), (3, .box [.ref 510300, .ref 9, .ref 12, .ref 510303]), (510300, .arr (.s .net) true), (9, .arr .I true), (12, .arr (.s .node) true), (510303, .arr (.s .run) true)]⟩
def w3k (av : AV) (x : HP z12.ps) (n : Nat) (v : y9i.den) (K : Ks (CR z12)) : Option (CR z12) := z5w v.2.1 (fun l1_1 => y6h.at none (((), (), ()), (((), (), (), (), ()), ((), (), (), (), ()), v.2.2.2.2.1, v.2.2.2.2.2.1, v.2.2.2.2.2.2.1, l1_1, ())) (K (.exit 2))) n v.1.2.2.2.1 v.2.2.2.2.2.2.2.1
def y7n (av : AV) (x : HP z12.ps) : Hdl (CR z12) := hnd [.b 3 3 510303 (.s .run)] y9i (w3k av x)
theorem w5c : LP z12 Tryz.f135 [1] y7n := lp_ok (W := []) (H := []) (xs := [y6h]) y3k trivial rfl (fun av x v K => by kernel_rfl) (fun av x n v K => by kernel_rfl)
theorem yr8 : z12.Ok Tryz.prog := fn_ok (k := z12) (fn := Tryz.f135) (W := []) (H := [y7m, y7n]) Tryz.func135 y3k ⟨w5b, w5c, trivial⟩ rfl rfl (fun av x => by kernel_rfl)
def zu3 (r : GReq) : Option GReq := if decide (r.kind = 1) = true then (some (GReq.mk r.kind 0 0 0 0 0 r.data (GAsk.mk 0 0 0) 0)) else (if decide (r.kind = 2) = true then (some (GReq.mk r.kind r.who r.case r.task 0 0 [] (GAsk.mk 0 0 0) 0)) else (if decide (r.kind = 3) = true then (some (GReq.mk r.kind 0 r.case r.task r.var r.num [] (GAsk.mk 0 0 0) 0)) else (if decide (r.kind = 4) = true then (some (GReq.mk r.kind 0 r.case 0 0 0 [] (GAsk.mk 0 0 0) 0)) else (if decide (r.kind = 5) = true then (some (GReq.mk r.kind 0 0 0 0 0 r.data r.if_ r.ans)) else (some (GReq.mk r.kind 0 0 0 0 0 [] (GAsk.mk 0 0 0) 0))))))
def y3z : Con := ⟨137, [.v (.s .req) false], [((.s .req), false)], [], fun x => zu3 x.1⟩
def wf8 : Fs := ⟨[], [], []⟩
theorem wi4 : wf8.Ok Tryz.prog := fs0
theorem wm3 : y3z.Ok Tryz.prog := fn_ok (k := y3z) (fn := Tryz.f137) (W := []) (H := []) Tryz.func137 wi4 trivial rfl rfl (fun av x => by kernel_rfl)
def z4r (a : GReq) (b : GReq) : Option Bool := if decide (a.kind = b.kind) = true then (if decide (a.who = b.who) = true then (if decide (a.case = b.case) = true then (if decide (a.task = b.task) = true then (if decide (a.var = b.var) = true then (if decide (a.num = b.num) = true then (if decide ([a.if_.op, a.if_.var, a.if_.k] = [b.if_.op, b.if_.var, b.if_.k]) = true then (some (decide (a.ans = b.ans))) else (some false)) else (some false)) else (some false)) else (some false)) else (some false)) else (some false)) else (some false)
def z3f (a : GReq) (b : GReq) (kx0_0 : Option Bool) : Nat → Int → Option Bool
  | 0, _ => none
  | n0 + 1, s0_0 => if decide (s0_0 < (a.data.length : Int)) = true then ((getI a.data s0_0).bind fun x3 => ((getI b.data s0_0).bind fun x4 => (if decide (x3 = x4) = true then (gd (ok64 (s0_0 + 1)) ((z3f a b kx0_0 n0) (s0_0 + 1))) else (some false)))) else (kx0_0)
def zu4 (a : GReq) (b : GReq) : Option Bool := if decide ((a.data.length : Int) = (b.data.length : Int)) = true then (z3f a b (z4r a b) FUEL 0) else (some false)
def z51 : Con := ⟨136, [.v (.s .req) false, .v (.s .req) false], [(.B, true)], [], fun x => zu4 x.1 x.2.1⟩
def wg0 : Fs := ⟨[], [], []⟩
theorem yp0 : wg0.Ok Tryz.prog := fs0
def y9k : Tmpl := ⟨[(2, .c (.bx 2 0)), (3, .c (.bx 3 0)), (5, .c .i)], [(2, .boxT (.s .req)), (3, .boxT (.s .req))]⟩
def y6j : Tmpl := ⟨[(2, .c (.bx 2 0)), (3, .c (.bx 3 0))], [(2, .boxT (.s .req)), (3, .boxT (.s .req))]⟩
def w3m (av : AV) (x : HP z51.ps) (n : Nat) (v : y9k.den) (K : Ks (CR z51)) : Option (CR z51) := z3f v.2.1 v.2.2.1 (y6j.at none (((), (), ()), (v.2.1, v.2.2.1, ())) (K (.exit 0))) n v.1.2.2.1
def y7p (av : AV) (x : HP z51.ps) : Hdl (CR z51) := hnd [] y9k (w3m av x)
theorem w5e : LP z51 Tryz.f136 [0] y7p := lp_ok (W := []) (H := []) (xs := [y6j]) yp0 trivial rfl (fun av x v K => by kernel_rfl) (fun av x n v K => by kernel_rfl)
theorem wm4 : z51.Ok Tryz.prog := fn_ok (k := z51) (fn := Tryz.f136) (W := []) (H := [y7p]) Tryz.func136 yp0 ⟨w5e, trivial⟩ rfl rfl (fun av x => by kernel_rfl)
def z72 (r : GReq) : Option Bool := (z03 r.kind 1 5).bind fun x1 => (if x1 = true then ((zu3 r).bind fun x3 => ((zu4 r x3).bind fun x4 => (if x4 = true then ((z03 r.who 0 4).bind fun x6 => (if x6 = true then ((z03 r.case 0 4).bind fun x8 => (if x8 = true then ((z03 r.task 0 5).bind fun x10 => (if x10 = true then ((z03 r.var (-1) 2).bind fun x12 => (if x12 = true then ((z03 r.num (-99) 99).bind fun x14 => (if x14 = true then ((z6b r.if_).bind fun x16 => (if x16 = true then ((z03 r.ans 0 2).bind fun x18 => (if x18 = true then (if decide (r.kind = 1) = true then ((z2o r.data).bind fun x21 => (some (true == x21))) else ((z2o r.data).bind fun x22 => (some ((decide (r.kind = 5)) == x22)))) else (some false))) else (some false))) else (some false))) else (some false))) else (some false))) else (some false))) else (some false))) else (some false)))) else (some false))
def z8i : Con := ⟨63, [.v (.s .req) false], [(.B, true)], [], fun x => z72 x.1⟩
def w43 : Fs := ⟨[z0m, y3z, z51, z8j, z17], [], []⟩
theorem w4n : w43.Ok Tryz.prog := (fsK z0u (fsK wm3 (fsK wm4 (fsK zo0 (fsK z6g fs0)))))
theorem zw9 : z8i.Ok Tryz.prog := fn_ok (k := z8i) (fn := Tryz.f63) (W := []) (H := []) Tryz.func63 w4n trivial rfl rfl (fun av x => by kernel_rfl)
def zu2 (h : GHouse) (r : GReq) : Option (GHouse × Int) := if decide ((h.runs.length : Int) ≤ r.case) = true then (some (h, 2)) else ((getI h.runs r.case).bind fun x2 => ((getI h.nets x2.net).bind fun x3 => (if decide (r.kind = 2) = true then ((z6z x3 h.people x2.case r.task r.who).bind fun x5 => (if x5.2 = true then ((getI h.runs r.case).bind fun x7 => (some ((GHouse.mk h.nets h.people h.tree (h.runs.set r.case.toNat (GRun.mk x7.net x5.1))), 1))) else (some (h, 3)))) else (if decide (r.kind = 3) = true then ((z9s x3 x2.case r.task r.var r.num).bind fun x9 => (if x9.2 = true then ((getI h.runs r.case).bind fun x11 => (some ((GHouse.mk h.nets h.people h.tree (h.runs.set r.case.toNat (GRun.mk x11.net x9.1))), 1))) else (some (h, 3)))) else ((zl7 x3 x2.case).bind fun x12 => (if x12.2 = true then ((getI h.runs r.case).bind fun x14 => (some ((GHouse.mk h.nets h.people h.tree (h.runs.set r.case.toNat (GRun.mk x14.net x12.1))), 1))) else (some (h, 3))))))))
def y3x : Con := ⟨188, [.v (.s .house) true, .v (.s .req) false], [((.s .house), true), (.I, true)], [], fun x => zu2 x.1 x.2.1⟩
def wf6 : Fs := ⟨[ze4, zl2, y0u], [], []⟩
theorem wi3 : wf6.Ok Tryz.prog := (fsK y8t (fsK yg4 (fsK w93 fs0)))
theorem wm2 : y3x.Ok Tryz.prog := fn_ok (k := y3x) (fn := Tryz.f188) (W := []) (H := []) Tryz.func188 wi3 trivial rfl rfl (fun av x => by kernel_rfl)
def zw7 (h : GHouse) (r : GReq) : Option (GHouse × Int) := if decide (r.kind = 1) = true then (if decide ((h.runs.length : Int) = 5) = true then (some (h, 4)) else ((zt7 h.tree r.data).bind fun x3 => (if decide ((h.nets.length : Int) ≤ x3) = true then ((getI h.nets 0).bind fun x5 => ((z98 x5 r.data).bind fun x6 => (gd (h.runs.length + [(GRun.mk 0 x6)].length ≤ SMALL) (some ((GHouse.mk h.nets h.people h.tree (h.runs ++ [(GRun.mk 0 x6)])), 1))))) else ((getI h.nets x3).bind fun x8 => ((z98 x8 r.data).bind fun x9 => (gd (h.runs.length + [(GRun.mk x3 x9)].length ≤ SMALL) (some ((GHouse.mk h.nets h.people h.tree (h.runs ++ [(GRun.mk x3 x9)])), 1)))))))) else (if decide (r.kind = 5) = true then ((z7m h.tree r.data r.if_ r.ans).bind fun x12 => (if x12.2 = true then (some ((GHouse.mk h.nets h.people x12.1 h.runs), 1)) else (some (h, 3)))) else ((zu2 h r).bind fun x14 => (some (x14.1, x14.2))))
def y3y : Con := ⟨134, [.v (.s .house) true, .v (.s .req) false], [((.s .house), true), (.I, true)], [], fun x => zw7 x.1 x.2.1⟩
def v15 : Fs := ⟨[y3t, zs0, z3y, y3x], [], []⟩
theorem v19 : v15.Ok Tryz.prog := (fsK wl7 (fsK yr0 (fsK yr4 (fsK wm2 fs0))))
theorem w5q : y3y.Ok Tryz.prog := fn_ok (k := y3y) (fn := Tryz.f134) (W := []) (H := []) Tryz.func134 v19 trivial rfl rfl (fun av x => by kernel_rfl)
def z8r (h : GHouse) (r : GReq) : Option (GHouse × Int) := (zz7 h).bind fun x1 => (if x1 = true then ((z72 r).bind fun x3 => (if x3 = true then ((zh3 h).bind fun x5 => ((zw7 x5 r).bind fun x6 => (some (x6.1, x6.2)))) else (some ((GHouse.mk [] [] [] []), 0)))) else (some ((GHouse.mk [] [] [] []), 0)))
def y7v : Con := ⟨60, [.v (.s .house) false, .v (.s .req) false], [((.s .house), true), (.I, true)], [], fun x => z8r x.1 x.2.1⟩
def ws4 : Fs := ⟨[z64, z8i, z12, y3y], [], []⟩
theorem wu5 : ws4.Ok Tryz.prog := (fsK wy2 (fsK zw9 (fsK yr8 (fsK w5q fs0))))
theorem wy1 : y7v.Ok Tryz.prog := fn_ok (k := y7v) (fn := Tryz.f60) (W := []) (H := []) Tryz.func60 wu5 trivial rfl rfl (fun av x => by kernel_rfl)
def z6r (x1 : (List Int)) (x2 : (List GNode)) (l0_1 : List GNet) (l1_1 : List GRun) : Option GHouse := some (GHouse.mk l0_1 x1 x2 l1_1)
def z1l (p1_0 : List GRun) (p1_1 : Int) (kx1_0 : List GRun → Option GHouse) : Nat → Int → List GRun → Option GHouse
  | 0, _, _ => none
  | n1 + 1, s1_0, l1_1 => if decide (s1_0 < p1_1) = true then ((getI p1_0 s1_0).bind fun x9 => ((z08 x9.case).bind fun x10 => (gd (l1_1.length + [(GRun.mk x9.net x10)].length ≤ SMALL) (gd (ok64 (s1_0 + 1)) ((z1l p1_0 p1_1 kx1_0 n1) (s1_0 + 1) (l1_1 ++ [(GRun.mk x9.net x10)])))))) else (kx1_0 l1_1)
def z4g (h : GHouse) (x1 : (List Int)) (x2 : (List GNode)) (l0_1 : List GNet) : Option GHouse := z1l h.runs (h.runs.length : Int) (z6r x1 x2 l0_1) FUEL 0 ([] : List GRun)
def z1k (p0_0 : List GNet) (p0_1 : Int) (kx0_0 : List GNet → Option GHouse) : Nat → Int → List GNet → Option GHouse
  | 0, _, _ => none
  | n0 + 1, s0_0, l0_1 => if decide (s0_0 < p0_1) = true then ((getI p0_0 s0_0).bind fun x4 => ((z7h x4).bind fun x5 => (gd (l0_1.length + [x5].length ≤ SMALL) (gd (ok64 (s0_0 + 1)) ((z1k p0_0 p0_1 kx0_0 n0) (s0_0 + 1) (l0_1 ++ [x5])))))) else (kx0_0 l0_1)
def z2n (h : GHouse) : Option GHouse := (z0l h.people).bind fun x1 => ((z6v h.tree).bind fun x2 => (z1k h.nets (h.nets.length : Int) (z4g h x1 x2) FUEL 0 ([] : List GNet)))
def z09 : Con := ⟨132, [.v (.s .house) false], [((.s .house), true)], [], fun x => z2n x.1⟩
def y6t : Fs := ⟨[z1s, z1e, z19, z33], [], []⟩
theorem z8d : y6t.Ok Tryz.prog := (fsK z3g (fsK y2a (fsK yl2 (fsK z6o fs0))))
def zh9 : Tmpl := ⟨[(1, .c (.bx 1 0)), (2, .c (.bx 2 0)), (3, .c (.bx 3 0)), (16, .c (.s (.s .net))), (17, .c .i), (18, .c .i)], [(1, .boxT (.s .house)), (2, .box [.nl, .nl, .nl, .nl]), (3, .box [.ref 510300, .ref 10, .ref 13, .nl]), (510300, .arr (.s .net) true), (10, .arr .I true), (13, .arr (.s .node) true)]⟩
def zc3 : Tmpl := ⟨[(1, .c (.bx 1 0)), (2, .c (.bx 2 0)), (3, .c (.bx 3 0))], [(1, .boxT (.s .house)), (2, .box [.nl, .nl, .nl, .nl]), (3, .box [.ref 510300, .ref 10, .ref 13, .nl]), (510300, .arr (.s .net) true), (10, .arr .I true), (13, .arr (.s .node) true)]⟩
def y37 (av : AV) (x : HP z09.ps) (n : Nat) (v : zh9.den) (K : Ks (CR z09)) : Option (CR z09) := z1k v.1.2.2.2.1 v.1.2.2.2.2.1 (fun l0_1 => zc3.at none (((), (), (), ()), (v.2.1, ((), (), (), (), ()), ((), (), (), (), ()), l0_1, v.2.2.2.2.2.1, v.2.2.2.2.2.2.1, ())) (K (.exit 0))) n v.1.2.2.2.2.2.1 v.2.2.2.2.1
def zd2 (av : AV) (x : HP z09.ps) : Hdl (CR z09) := hnd [.b 3 0 510300 (.s .net)] zh9 (y37 av x)
theorem y40 : LP z09 Tryz.f132 [0] zd2 := lp_ok (W := []) (H := []) (xs := [zc3]) z8d trivial rfl (fun av x v K => by kernel_rfl) (fun av x n v K => by kernel_rfl)
def zi0 : Tmpl := ⟨[(2, .c (.bx 2 0)), (3, .c (.bx 3 0)), (31, .c (.s (.s .run))), (32, .c .i), (33, .c .i)], [(2, .box [.nl, .nl, .nl, .nl]), (3, .box [.ref 510300, .ref 10, .ref 13, .ref 510303]), (510300, .arr (.s .net) true), (10, .arr .I true), (13, .arr (.s .node) true), (510303, .arr (.s .run) true)]⟩
def zc4 : Tmpl := ⟨[(2, .c (.bx 2 0)), (3, .c (.bx 3 0))], [(2, .box [.nl, .nl, .nl, .nl]), (3, .box [.ref 510300, .ref 10, .ref 13, .ref 510303]), (510300, .arr (.s .net) true), (10, .arr .I true), (13, .arr (.s .node) true), (510303, .arr (.s .run) true)]⟩
def y38 (av : AV) (x : HP z09.ps) (n : Nat) (v : zi0.den) (K : Ks (CR z09)) : Option (CR z09) := z1l v.1.2.2.1 v.1.2.2.2.1 (fun l1_1 => zc4.at none (((), (), ()), (((), (), (), (), ()), ((), (), (), (), ()), v.2.2.2.1, v.2.2.2.2.1, v.2.2.2.2.2.1, l1_1, ())) (K (.exit 2))) n v.1.2.2.2.2.1 v.2.2.2.2.2.2.1
def zd3 (av : AV) (x : HP z09.ps) : Hdl (CR z09) := hnd [.b 3 3 510303 (.s .run)] zi0 (y38 av x)
theorem y41 : LP z09 Tryz.f132 [1] zd3 := lp_ok (W := []) (H := []) (xs := [zc4]) z8d trivial rfl (fun av x v K => by kernel_rfl) (fun av x n v K => by kernel_rfl)
theorem y8l : z09.Ok Tryz.prog := fn_ok (k := z09) (fn := Tryz.f132) (W := []) (H := [zd2, zd3]) Tryz.func132 z8d ⟨y40, y41, trivial⟩ rfl rfl (fun av x => by kernel_rfl)
def y56  : Option Int := some (-1)
def z5l (s : List Int) (p : Int → Option Bool) (p0_0 : Int) (kx0_0 : Option Int) : Nat → Int → Option Int
  | 0, _ => none
  | n0 + 1, s0_0 => if decide (s0_0 < p0_0) = true then ((getI s s0_0).bind fun x2 => ((p x2).bind fun x3 => (if x3 = true then (some s0_0) else (gd (ok64 (s0_0 + 1)) ((z5l s p p0_0 kx0_0 n0) (s0_0 + 1)))))) else (kx0_0)
def zs4 (s : List Int) (p : Int → Option Bool) : Option Int := z5l s p (s.length : Int) y56 FUEL 0
def z3u : Con := ⟨175, [.v (.sl .I) false, .fn .I], [(.I, true)], [], fun x => zs4 x.1 x.2.1⟩
def wc0 : Fs := ⟨[], [], []⟩
theorem yn3 : wc0.Ok Tryz.prog := fs0
def y92 : Tmpl := ⟨[(0, .c (.s .I)), (1, .c .fp), (7, .c .i), (8, .c .i)], []⟩
def y62 : Tmpl := ⟨[], []⟩
def w34 (av : AV) (x : HP z3u.ps) (n : Nat) (v : y92.den) (K : Ks (CR z3u)) : Option (CR z3u) := z5l v.1.1 x.2.1 v.1.2.2.1 (y62.at (fpOf z3u.ps x av) ((), ()) (K (.exit 0))) n v.1.2.2.2.1
def y77 (av : AV) (x : HP z3u.ps) : Hdl (CR z3u) := hnd [] y92 (w34 av x)
theorem w4w : LP z3u Tryz.f175 [0] y77 := lp_ok (W := []) (H := []) (xs := [y62]) yn3 trivial rfl (fun av x v K => by kernel_rfl) (fun av x n v K => by kernel_rfl)
theorem wk3 : z3u.Ok Tryz.prog := fn_ok (k := z3u) (fn := Tryz.f175) (W := []) (H := [y77]) Tryz.func175 yn3 ⟨w4w, trivial⟩ rfl rfl (fun av x => by kernel_rfl)
def z2f (s : List Int) (p : Int → Option Bool) : Option Bool := (zs4 s p).bind fun x1 => (some (decide (0 ≤ x1)))
def z4n : Con := ⟨118, [.v (.sl .I) false, .fn .I], [(.B, true)], [], fun x => z2f x.1 x.2.1⟩
def w1k : Fs := ⟨[z3u], [], []⟩
theorem w1s : w1k.Ok Tryz.prog := (fsK wk3 fs0)
theorem z7y : z4n.Ok Tryz.prog := fn_ok (k := z4n) (fn := Tryz.f118) (W := []) (H := []) Tryz.func118 w1s trivial rfl rfl (fun av x => by kernel_rfl)
def zq2  : Option Int := some (-1)
def z35 (s : List GTask) (p : GTask → Option Bool) (p0_0 : Int) (kx0_0 : Option Int) : Nat → Int → Option Int
  | 0, _ => none
  | n0 + 1, s0_0 => if decide (s0_0 < p0_0) = true then ((getI s s0_0).bind fun x2 => ((p x2).bind fun x3 => (if x3 = true then (some s0_0) else (gd (ok64 (s0_0 + 1)) ((z35 s p p0_0 kx0_0 n0) (s0_0 + 1)))))) else (kx0_0)
def z93 (s : List GTask) (p : GTask → Option Bool) : Option Int := z35 s p (s.length : Int) zq2 FUEL 0
def z1d : Con := ⟨176, [.v (.sl (.s .task)) false, .fn (.s .task)], [(.I, true)], [], fun x => z93 x.1 x.2.1⟩
def yv4 : Fs := ⟨[], [], []⟩
theorem y1i : yv4.Ok Tryz.prog := fs0
def zx5 : Tmpl := ⟨[(0, .c (.s (.s .task))), (1, .c .fp), (7, .c .i), (8, .c .i)], []⟩
def zq7 : Tmpl := ⟨[], []⟩
def yi6 (av : AV) (x : HP z1d.ps) (n : Nat) (v : zx5.den) (K : Ks (CR z1d)) : Option (CR z1d) := z35 v.1.1 x.2.1 v.1.2.2.1 (zq7.at (fpOf z1d.ps x av) ((), ()) (K (.exit 0))) n v.1.2.2.2.1
def zv4 (av : AV) (x : HP z1d.ps) : Hdl (CR z1d) := hnd [] zx5 (yi6 av x)
theorem yk2 : LP z1d Tryz.f176 [0] zv4 := lp_ok (W := []) (H := []) (xs := [zq7]) y1i trivial rfl (fun av x v K => by kernel_rfl) (fun av x n v K => by kernel_rfl)
theorem yy6 : z1d.Ok Tryz.prog := fn_ok (k := z1d) (fn := Tryz.f176) (W := []) (H := [zv4]) Tryz.func176 y1i ⟨yk2, trivial⟩ rfl rfl (fun av x => by kernel_rfl)
def z6l (s : List GTask) (p : GTask → Option Bool) : Option Bool := (z93 s p).bind fun x1 => (some (decide (0 ≤ x1)))
def z9j : Con := ⟨123, [.v (.sl (.s .task)) false, .fn (.s .task)], [(.B, true)], [], fun x => z6l x.1 x.2.1⟩
def yb9 : Fs := ⟨[z1d], [], []⟩
theorem yc5 : yb9.Ok Tryz.prog := (fsK yy6 fs0)
theorem yd0 : z9j.Ok Tryz.prog := fn_ok (k := z9j) (fn := Tryz.f123) (W := []) (H := []) Tryz.func123 yc5 trivial rfl rfl (fun av x => by kernel_rfl)
def zw3  : Option Int := some (-1)
def z3j (s : List GNet) (p : GNet → Option Bool) (p0_0 : Int) (kx0_0 : Option Int) : Nat → Int → Option Int
  | 0, _ => none
  | n0 + 1, s0_0 => if decide (s0_0 < p0_0) = true then ((getI s s0_0).bind fun x2 => ((p x2).bind fun x3 => (if x3 = true then (some s0_0) else (gd (ok64 (s0_0 + 1)) ((z3j s p p0_0 kx0_0 n0) (s0_0 + 1)))))) else (kx0_0)
def za1 (s : List GNet) (p : GNet → Option Bool) : Option Int := z3j s p (s.length : Int) zw3 FUEL 0
def z1r : Con := ⟨180, [.v (.sl (.s .net)) false, .fn (.s .net)], [(.I, true)], [], fun x => za1 x.1 x.2.1⟩
def w1l : Fs := ⟨[], [], []⟩
theorem y4l : w1l.Ok Tryz.prog := fs0
def y08 : Tmpl := ⟨[(0, .c (.s (.s .net))), (1, .c .fp), (7, .c .i), (8, .c .i)], []⟩
def zy0 : Tmpl := ⟨[], []⟩
def yl9 (av : AV) (x : HP z1r.ps) (n : Nat) (v : y08.den) (K : Ks (CR z1r)) : Option (CR z1r) := z3j v.1.1 x.2.1 v.1.2.2.1 (zy0.at (fpOf z1r.ps x av) ((), ()) (K (.exit 0))) n v.1.2.2.2.1
def zy7 (av : AV) (x : HP z1r.ps) : Hdl (CR z1r) := hnd [] y08 (yl9 av x)
theorem yp5 : LP z1r Tryz.f180 [0] zy7 := lp_ok (W := []) (H := []) (xs := [zy0]) y4l trivial rfl (fun av x v K => by kernel_rfl) (fun av x n v K => by kernel_rfl)
theorem w2h : z1r.Ok Tryz.prog := fn_ok (k := z1r) (fn := Tryz.f180) (W := []) (H := [zy7]) Tryz.func180 y4l ⟨yp5, trivial⟩ rfl rfl (fun av x => by kernel_rfl)
def z7f (s : List GNet) (p : GNet → Option Bool) : Option Bool := (za1 s p).bind fun x1 => (some (decide (0 ≤ x1)))
def za9 : Con := ⟨126, [.v (.sl (.s .net)) false, .fn (.s .net)], [(.B, true)], [], fun x => z7f x.1 x.2.1⟩
def yj2 : Fs := ⟨[z1r], [], []⟩
theorem yj6 : yj2.Ok Tryz.prog := (fsK w2h fs0)
theorem yl0 : za9.Ok Tryz.prog := fn_ok (k := za9) (fn := Tryz.f126) (W := []) (H := []) Tryz.func126 yj6 trivial rfl rfl (fun av x => by kernel_rfl)
def zq1  : Option Int := some (-1)
def z34 (s : List GItem) (p : GItem → Option Bool) (p0_0 : Int) (kx0_0 : Option Int) : Nat → Int → Option Int
  | 0, _ => none
  | n0 + 1, s0_0 => if decide (s0_0 < p0_0) = true then ((getI s s0_0).bind fun x2 => ((p x2).bind fun x3 => (if x3 = true then (some s0_0) else (gd (ok64 (s0_0 + 1)) ((z34 s p p0_0 kx0_0 n0) (s0_0 + 1)))))) else (kx0_0)
def z92 (s : List GItem) (p : GItem → Option Bool) : Option Int := z34 s p (s.length : Int) zq1 FUEL 0
def z1c : Con := ⟨169, [.v (.sl (.s .item)) false, .fn (.s .item)], [(.I, true)], [], fun x => z92 x.1 x.2.1⟩
def yv3 : Fs := ⟨[], [], []⟩
theorem y1h : yv3.Ok Tryz.prog := fs0
def zx4 : Tmpl := ⟨[(0, .c (.s (.s .item))), (1, .c .fp), (7, .c .i), (8, .c .i)], []⟩
def zq6 : Tmpl := ⟨[], []⟩
def yi5 (av : AV) (x : HP z1c.ps) (n : Nat) (v : zx4.den) (K : Ks (CR z1c)) : Option (CR z1c) := z34 v.1.1 x.2.1 v.1.2.2.1 (zq6.at (fpOf z1c.ps x av) ((), ()) (K (.exit 0))) n v.1.2.2.2.1
def zv3 (av : AV) (x : HP z1c.ps) : Hdl (CR z1c) := hnd [] zx4 (yi5 av x)
theorem yk1 : LP z1c Tryz.f169 [0] zv3 := lp_ok (W := []) (H := []) (xs := [zq6]) y1h trivial rfl (fun av x v K => by kernel_rfl) (fun av x n v K => by kernel_rfl)
theorem yy5 : z1c.Ok Tryz.prog := fn_ok (k := z1c) (fn := Tryz.f169) (W := []) (H := [zv3]) Tryz.func169 y1h ⟨yk1, trivial⟩ rfl rfl (fun av x => by kernel_rfl)
def z6k (s : List GItem) (p : GItem → Option Bool) : Option Bool := (z92 s p).bind fun x1 => (some (decide (0 ≤ x1)))
def z9i : Con := ⟨107, [.v (.sl (.s .item)) false, .fn (.s .item)], [(.B, true)], [], fun x => z6k x.1 x.2.1⟩
def yb8 : Fs := ⟨[z1c], [], []⟩
theorem yc4 : yb8.Ok Tryz.prog := (fsK yy5 fs0)
theorem yc9 : z9i.Ok Tryz.prog := fn_ok (k := z9i) (fn := Tryz.f107) (W := []) (H := []) Tryz.func107 yc4 trivial rfl rfl (fun av x => by kernel_rfl)
def w0l  : Option Int := some (-1)
def zb8 (s : List Int) (v : Int) (p0_0 : Int) (kx0_0 : Option Int) : Nat → Int → Option Int
  | 0, _ => none
  | n0 + 1, s0_0 => if decide (s0_0 < p0_0) = true then ((getI s s0_0).bind fun x2 => (if decide (v = x2) = true then (some s0_0) else (gd (ok64 (s0_0 + 1)) ((zb8 s v p0_0 kx0_0 n0) (s0_0 + 1))))) else (kx0_0)
def yq0 (s : List Int) (v : Int) : Option Int := zb8 s v (s.length : Int) w0l FUEL 0
def ze0 : Con := ⟨163, [.v (.sl .I) false, .v .I false], [(.I, true)], [], fun x => yq0 x.1 x.2.1⟩
def v5n : Fs := ⟨[], [], []⟩
theorem wt8 : v5n.Ok Tryz.prog := fs0
def w6g : Tmpl := ⟨[(0, .c (.s .I)), (1, .c .i), (7, .c .i), (8, .c .i)], []⟩
def w0z : Tmpl := ⟨[], []⟩
def v0t (av : AV) (x : HP ze0.ps) (n : Nat) (v : w6g.den) (K : Ks (CR ze0)) : Option (CR ze0) := zb8 v.1.1 v.1.2.1 v.1.2.2.1 (w0z.at none ((), ()) (K (.exit 0))) n v.1.2.2.2.1
def w4q (av : AV) (x : HP ze0.ps) : Hdl (CR ze0) := hnd [] w6g (v0t av x)
theorem v1k : LP ze0 Tryz.f163 [0] w4q := lp_ok (W := []) (H := []) (xs := [w0z]) wt8 trivial rfl (fun av x v K => by kernel_rfl) (fun av x n v K => by kernel_rfl)
theorem v6v : ze0.Ok Tryz.prog := fn_ok (k := ze0) (fn := Tryz.f163) (W := []) (H := [w4q]) Tryz.func163 wt8 ⟨v1k, trivial⟩ rfl rfl (fun av x => by kernel_rfl)
def zb6 (s : List Int) (v : Int) : Option Bool := (yq0 s v).bind fun x1 => (some (decide (0 ≤ x1)))
def zn2 : Con := ⟨92, [.v (.sl .I) false, .v .I false], [(.B, true)], [], fun x => zb6 x.1 x.2.1⟩
def wq8 : Fs := ⟨[ze0], [], []⟩
theorem wt6 : wq8.Ok Tryz.prog := (fsK v6v fs0)
theorem y8k : zn2.Ok Tryz.prog := fn_ok (k := zn2) (fn := Tryz.f92) (W := []) (H := []) Tryz.func92 wt6 trivial rfl rfl (fun av x => by kernel_rfl)
def y83  : Option Int := some (-1)
def z6p (s : List GDid) (v : GDid) (p0_0 : Int) (kx0_0 : Option Int) : Nat → Int → Option Int
  | 0, _ => none
  | n0 + 1, s0_0 => if decide (s0_0 < p0_0) = true then ((getI s s0_0).bind fun x2 => (if decide ([v.task, v.who] = [x2.task, x2.who]) = true then (some s0_0) else (gd (ok64 (s0_0 + 1)) ((z6p s v p0_0 kx0_0 n0) (s0_0 + 1))))) else (kx0_0)
def zz2 (s : List GDid) (v : GDid) : Option Int := z6p s v (s.length : Int) y83 FUEL 0
def z5y : Con := ⟨204, [.v (.sl (.s .did)) false, .v (.s .did) false], [(.I, true)], [], fun x => zz2 x.1 x.2.1⟩
def wq9 : Fs := ⟨[], [], []⟩
theorem w01 : wq9.Ok Tryz.prog := fs0
def yg8 : Tmpl := ⟨[(0, .c (.s (.s .did))), (3, .c (.bx 3 0)), (7, .c .i), (8, .c .i)], [(3, .boxT (.s .did))]⟩
def y9l : Tmpl := ⟨[], []⟩
def w6k (av : AV) (x : HP z5y.ps) (n : Nat) (v : yg8.den) (K : Ks (CR z5y)) : Option (CR z5y) := z6p v.1.1 v.2.1 v.1.2.2.1 (y9l.at none ((), ()) (K (.exit 0))) n v.1.2.2.2.1
def ye3 (av : AV) (x : HP z5y.ps) : Hdl (CR z5y) := hnd [] yg8 (w6k av x)
theorem w89 : LP z5y Tryz.f204 [0] ye3 := lp_ok (W := []) (H := []) (xs := [y9l]) w01 trivial rfl (fun av x v K => by kernel_rfl) (fun av x n v K => by kernel_rfl)
theorem wx5 : z5y.Ok Tryz.prog := fn_ok (k := z5y) (fn := Tryz.f204) (W := []) (H := [ye3]) Tryz.func204 w01 ⟨w89, trivial⟩ rfl rfl (fun av x => by kernel_rfl)
def zw2 (s : List GDid) (v : GDid) : Option Bool := (zz2 s v).bind fun x1 => (some (decide (0 ≤ x1)))
def zv9 : Con := ⟨170, [.v (.sl (.s .did)) false, .v (.s .did) false], [(.B, true)], [], fun x => zw2 x.1 x.2.1⟩
def w3u : Fs := ⟨[z5y], [], []⟩
theorem w4f : w3u.Ok Tryz.prog := (fsK wx5 fs0)
theorem w5g : zv9.Ok Tryz.prog := fn_ok (k := zv9) (fn := Tryz.f170) (W := []) (H := []) Tryz.func170 w4f trivial rfl rfl (fun av x => by kernel_rfl)
def w0k  : Option Bool := some true
def zb7 (s1 : List Int) (s2 : List Int) (p0_0 : Int) (kx0_0 : Option Bool) : Nat → Int → Option Bool
  | 0, _ => none
  | n0 + 1, s0_0 => if decide (s0_0 < p0_0) = true then ((getI s1 s0_0).bind fun x3 => ((getI s2 s0_0).bind fun x4 => (if decide (x3 = x4) = true then (gd (ok64 (s0_0 + 1)) ((zb7 s1 s2 p0_0 kx0_0 n0) (s0_0 + 1))) else (some false)))) else (kx0_0)
def yp9 (s1 : List Int) (s2 : List Int) : Option Bool := if decide ((s1.length : Int) = (s2.length : Int)) = true then (zb7 s1 s2 (s1.length : Int) w0k FUEL 0) else (some false)
def zd9 : Con := ⟨192, [.v (.sl .I) false, .v (.sl .I) false], [(.B, true)], [], fun x => yp9 x.1 x.2.1⟩
def v5m : Fs := ⟨[], [], []⟩
theorem wt7 : v5m.Ok Tryz.prog := fs0
def w6f : Tmpl := ⟨[(0, .c (.s .I)), (1, .c (.s .I)), (12, .c .i), (13, .c .i)], []⟩
def w0y : Tmpl := ⟨[], []⟩
def v0s (av : AV) (x : HP zd9.ps) (n : Nat) (v : w6f.den) (K : Ks (CR zd9)) : Option (CR zd9) := zb7 v.1.1 v.1.2.1 v.1.2.2.1 (w0y.at none ((), ()) (K (.exit 0))) n v.1.2.2.2.1
def w4p (av : AV) (x : HP zd9.ps) : Hdl (CR zd9) := hnd [] w6f (v0s av x)
theorem v1j : LP zd9 Tryz.f192 [0] w4p := lp_ok (W := []) (H := []) (xs := [w0y]) wt7 trivial rfl (fun av x v K => by kernel_rfl) (fun av x n v K => by kernel_rfl)
theorem v6u : zd9.Ok Tryz.prog := fn_ok (k := zd9) (fn := Tryz.f192) (W := []) (H := [w4p]) Tryz.func192 wt7 ⟨v1j, trivial⟩ rfl rfl (fun av x => by kernel_rfl)
def y0y (n : Int) : Option Bool := (z56 n).bind fun x1 => (some (!x1))
def y15 : FCon := ⟨162, .I, [], fun z c => y0y z ⟩
def w74 : Fs := ⟨[z80], [], []⟩
theorem w7w : w74.Ok Tryz.prog := (fsK zm6 fs0)
theorem w8t : y15.Ok Tryz.prog := FCon.ok (fn_ok (k := y15.con) (fn := Tryz.f162) (W := []) (H := []) Tryz.func162 w7w trivial rfl rfl (fun av x => by kernel_rfl))
def z3b (data : List Int) : Option Bool := if decide ((data.length : Int) = 3) = true then ((z2f data (fun z => y0y z )).bind fun x2 => (some (!x2))) else (some false)
def z55 : Con := ⟨91, [.v (.sl .I) false], [(.B, true)], [], fun x => z3b x.1⟩
def wr1 : Fs := ⟨[z4n], [y15], []⟩
theorem wt9 : wr1.Ok Tryz.prog := (fsK z7y (fsF w8t fs0))
theorem z7b : z55.Ok Tryz.prog := fn_ok (k := z55) (fn := Tryz.f91) (W := []) (H := []) Tryz.func91 wt9 trivial rfl rfl (fun av x => by kernel_rfl)
def z2c (e : GAsk) (data : List Int) : Option Bool := (z7a e).bind fun x1 => (if x1 = true then ((z3b data).bind fun x3 => (if x3 = true then (if decide (e.op = 1) = true then ((getI data e.var).bind fun x6 => (some (decide (x6 < e.k)))) else (if decide (e.op = 2) = true then ((getI data e.var).bind fun x8 => (some (decide (x8 = e.k)))) else (if decide (e.op = 3) = true then ((getI data e.var).bind fun x10 => (some (decide (e.k < x10)))) else (some true)))) else (some false))) else (some false))
def z48 : Con := ⟨120, [.v (.s .ask) false, .v (.sl .I) false], [(.B, true)], [], fun x => z2c x.1 x.2.1⟩
def w3x : Fs := ⟨[zn3, z55], [], []⟩
theorem w4i : w3x.Ok Tryz.prog := (fsK y8m (fsK z7b fs0))
theorem z78 : z48.Ok Tryz.prog := fn_ok (k := z48) (fn := Tryz.f120) (W := []) (H := []) Tryz.func120 w4i trivial rfl rfl (fun av x => by kernel_rfl)
def y1y  : Option Bool := some true
def z59 (list : List Int) (places : Int) (without : List Int) (p0_0 : Int) (kx0_0 : Option Bool) : Nat → Int → Int → Option Bool
  | 0, _, _ => none
  | n0 + 1, s0_0, s0_1 => if decide (s0_0 < p0_0) = true then ((getI list s0_0).bind fun x2 => (gd (ok64 (s0_1 + 1)) (gd (ok64 (places - 1)) ((z0c x2 (s0_1 + 1) (places - 1)).bind fun x5 => (if x5 = true then ((zb6 without x2).bind fun x7 => (if x7 = true then (some false) else (gd (ok64 (s0_0 + 1)) ((z59 list places without p0_0 kx0_0 n0) (s0_0 + 1) x2)))) else (some false)))))) else (kx0_0)
def z9r (list : List Int) (places : Int) (without : List Int) : Option Bool := z59 list places without (list.length : Int) y1y FUEL 0 (-1)
def z3w : Con := ⟨178, [.v (.sl .I) false, .v .I false, .v (.sl .I) false], [(.B, true)], [], fun x => z9r x.1 x.2.1 x.2.2.1⟩
def w7a : Fs := ⟨[z20, zn2], [], []⟩
theorem yd4 : w7a.Ok Tryz.prog := (fsK z2q (fsK y8k fs0))
def y5n : Tmpl := ⟨[(1, .c .i), (2, .c (.s .I)), (7, .c .i), (10, .c (.s .I)), (11, .c .i), (12, .c .i)], []⟩
def y2t : Tmpl := ⟨[], []⟩
def w14 (av : AV) (x : HP z3w.ps) (n : Nat) (v : y5n.den) (K : Ks (CR z3w)) : Option (CR z3w) := z59 v.1.2.2.2.1 v.1.1 v.1.2.1 v.1.2.2.2.2.1 (y2t.at none ((), ()) (K (.exit 0))) n v.1.2.2.2.2.2.1 v.1.2.2.1
def y4r (av : AV) (x : HP z3w.ps) : Hdl (CR z3w) := hnd [] y5n (w14 av x)
theorem w22 : LP z3w Tryz.f178 [0] y4r := lp_ok (W := []) (H := []) (xs := [y2t]) yd4 trivial rfl (fun av x v K => by kernel_rfl) (fun av x n v K => by kernel_rfl)
theorem w8z : z3w.Ok Tryz.prog := fn_ok (k := z3w) (fn := Tryz.f178) (W := []) (H := [y4r]) Tryz.func178 yd4 ⟨w22, trivial⟩ rfl rfl (fun av x => by kernel_rfl)
def z7k (t : GTask) : Option Bool := (z0c (t.out.length : Int) 1 3).bind fun x21 => (some x21)
def z1a (t : GTask) (places : Int) (p0_0 : List GFlow) (p0_1 : Int) (kx0_0 : Option Bool) : Nat → Int → List Int → Option Bool
  | 0, _, _ => none
  | n0 + 1, s0_0, m0_1 => if decide (s0_0 < p0_1) = true then ((getI p0_0 s0_0).bind fun x2 => (if decide (t.split = 1) = true then (gd (ok64 (places - 1)) ((z0c x2.to 0 (places - 1)).bind fun x5 => (if x5 = true then (if decide (x2.to ∈ m0_1) = true then (some false) else ((z7a x2.if_).bind fun x8 => (if x8 = true then (if ((decide (x2.if_.op = 0)) == true) = true then (gd (ok64 (s0_0 + 1)) ((z1a t places p0_0 p0_1 kx0_0 n0) (s0_0 + 1) (insKey m0_1 x2.to))) else (some false)) else (some false)))) else (some false)))) else (gd (ok64 ((t.out.length : Int) - 1)) (gd (ok64 (places - 1)) ((z0c x2.to 0 (places - 1)).bind fun x14 => (if x14 = true then (if decide (x2.to ∈ m0_1) = true then (some false) else ((z7a x2.if_).bind fun x17 => (if x17 = true then (if ((decide (x2.if_.op = 0)) == (decide (s0_0 = ((t.out.length : Int) - 1)))) = true then (gd (ok64 (s0_0 + 1)) ((z1a t places p0_0 p0_1 kx0_0 n0) (s0_0 + 1) (insKey m0_1 x2.to))) else (some false)) else (some false)))) else (some false))))))) else (kx0_0)
def z6n (t : GTask) (places : Int) : Option Bool := z1a t places t.out (t.out.length : Int) (z7k t) FUEL 0 (insKey ([] : List Int) 0)
def z10 : Con := ⟨179, [.v (.s .task) false, .v .I false], [(.B, true)], [], fun x => z6n x.1 x.2.1⟩
def yc3 : Fs := ⟨[z20, zn3], [], []⟩
theorem zp9 : yc3.Ok Tryz.prog := (fsK z2q (fsK y8m fs0))
def zj4 : Tmpl := ⟨[(1, .c .i), (2, .c (.bx 2 0)), (5, .c (.bx 9 0)), (12, .c (.s (.s .flow))), (13, .c .i), (14, .c .i)], [(2, .boxT (.s .task)), (9, .mp)]⟩
def zi6 : Tmpl := ⟨[(2, .c (.bx 2 0))], [(2, .boxT (.s .task))]⟩
def y6l (av : AV) (x : HP z10.ps) (n : Nat) (v : zj4.den) (K : Ks (CR z10)) : Option (CR z10) := z1a v.2.1 v.1.1 v.1.2.2.2.1 v.1.2.2.2.2.1 (zi6.at none (((), ()), (v.2.1, ())) (K (.exit 0))) n v.1.2.2.2.2.2.1 v.2.2.1
def zi8 (av : AV) (x : HP z10.ps) : Hdl (CR z10) := hnd [] zj4 (y6l av x)
theorem y6n : LP z10 Tryz.f179 [0] zi8 := lp_ok (W := []) (H := []) (xs := [zi6]) zp9 trivial rfl (fun av x v K => by kernel_rfl) (fun av x n v K => by kernel_rfl)
theorem yd2 : z10.Ok Tryz.prog := fn_ok (k := z10) (fn := Tryz.f179) (W := []) (H := [zi8]) Tryz.func179 zp9 ⟨y6n, trivial⟩ rfl rfl (fun av x => by kernel_rfl)
def z97 (t : GTask) (places : Int) (tasks : Int) : Option Bool := (zt0 t.join).bind fun x1 => (if x1 = true then ((zt0 t.split).bind fun x3 => (if x3 = true then ((z0c (t.in_.length : Int) 1 3).bind fun x5 => (if x5 = true then ((z9r t.in_ places [1]).bind fun x7 => (if x7 = true then ((z6n t places).bind fun x9 => (if x9 = true then ((z9r t.clear places [0, 1]).bind fun x11 => (if x11 = true then ((zf2 t.role).bind fun x13 => (if x13 = true then (gd (ok64 (tasks - 1)) ((z0c t.apart (-1) (tasks - 1)).bind fun x16 => (if x16 = true then ((z0c t.all 1 3).bind fun x18 => (if x18 = true then ((z0c t.need 1 t.all).bind fun x20 => (some x20)) else (some false))) else (some false)))) else (some false))) else (some false))) else (some false))) else (some false))) else (some false))) else (some false))) else (some false))
def zk2 : Con := ⟨125, [.v (.s .task) false, .v .I false, .v .I false], [(.B, true)], [], fun x => z97 x.1 x.2.1 x.2.2.1⟩
def yv6 : Fs := ⟨[y3s, z20, z3w, z10, zr8], [], []⟩
theorem yw3 : yv6.Ok Tryz.prog := (fsK wl0 (fsK z2q (fsK w8z (fsK yd2 (fsK yq8 fs0)))))
theorem yy8 : zk2.Ok Tryz.prog := fn_ok (k := zk2) (fn := Tryz.f125) (W := []) (H := []) Tryz.func125 yw3 trivial rfl rfl (fun av x => by kernel_rfl)
def y10 (t : GTask) (n : GNet) : Option Bool := (z97 t n.places (n.tasks.length : Int)).bind fun x1 => (some (!x1))
def y17 : FCon := ⟨124, (.s .task), [(.s .net)], fun z c => y10 z c.1⟩
def w77 : Fs := ⟨[zk2], [], []⟩
theorem w7y : w77.Ok Tryz.prog := (fsK yy8 fs0)
theorem w8w : y17.Ok Tryz.prog := FCon.ok (fn_ok (k := y17.con) (fn := Tryz.f124) (W := []) (H := []) Tryz.func124 w7y trivial rfl rfl (fun av x => by kernel_rfl))
def z8m (n : GNet) : Option Bool := (y13 n.places (n.tasks.length : Int)).bind fun x1 => (if x1 = true then ((z6l n.tasks (fun z => y10 z n)).bind fun x3 => (some (!x3))) else (some false))
def zb4 : Con := ⟨52, [.v (.s .net) false], [(.B, true)], [], fun x => z8m x.1⟩
def wr6 : Fs := ⟨[y0t, z9j], [y17], []⟩
theorem wu3 : wr6.Ok Tryz.prog := (fsK w91 (fsK yd0 (fsF w8w fs0)))
theorem y03 : zb4.Ok Tryz.prog := fn_ok (k := zb4) (fn := Tryz.f52) (W := []) (H := []) Tryz.func52 wu3 trivial rfl rfl (fun av x => by kernel_rfl)
def z68 (p : Int) (out : List Bool) : Option Bool := (getI out p).bind fun x1 => (some x1)
def z8w : FCon := ⟨217, .I, [(.sl .B)], fun z c => z68 z c.1⟩
def y6x : Fs := ⟨[], [], []⟩
theorem y70 : y6x.Ok Tryz.prog := fs0
theorem y8p : z8w.Ok Tryz.prog := FCon.ok (fn_ok (k := z8w.con) (fn := Tryz.f217) (W := []) (H := []) Tryz.func217 y70 trivial rfl rfl (fun av x => by kernel_rfl))
def zi9 (s1_0 : List GTask) (s1_1 : Int) (s1_2 : Int) (bk1 : List GTask → Int → Int → Bool → List Bool → Option (List Bool)) (s2_1 : Bool) (l2_2 : List Bool) : Option (List Bool) := gd (ok64 (s1_2 + 1)) (bk1 s1_0 s1_1 (s1_2 + 1) s2_1 l2_2)
def z0k (p2_0 : List GFlow) (p2_1 : Int) (kx2_0 : Bool → List Bool → Option (List Bool)) : Nat → Int → Bool → List Bool → Option (List Bool)
  | 0, _, _, _ => none
  | n2 + 1, s2_0, s2_1, l2_2 => if decide (s2_0 < p2_1) = true then ((getI p2_0 s2_0).bind fun x11 => (if s2_1 = true then ((getI l2_2 x11.to).bind fun x13 => (gd (ok64 (s2_0 + 1)) ((z0k p2_0 p2_1 kx2_0 n2) (s2_0 + 1) true (l2_2.set x11.to.toNat true)))) else ((getI l2_2 x11.to).bind fun x15 => ((getI l2_2 x11.to).bind fun x16 => (gd (ok64 (s2_0 + 1)) ((z0k p2_0 p2_1 kx2_0 n2) (s2_0 + 1) (!x15) (l2_2.set x11.to.toNat true))))))) else (kx2_0 s2_1 l2_2)
def z87 (bk0 : Bool → List Bool → Option (List Bool)) (s1_3 : Bool) (l1_4 : List Bool) : Option (List Bool) := bk0 s1_3 l1_4
def z0d (but : Int) (kx1_0 : Bool → List Bool → Option (List Bool)) : Nat → List GTask → Int → Int → Bool → List Bool → Option (List Bool)
  | 0, _, _, _, _, _ => none
  | n1 + 1, s1_0, s1_1, s1_2, s1_3, l1_4 => if decide (s1_2 < s1_1) = true then ((getI s1_0 s1_2).bind fun x5 => (if decide (s1_2 = but) = true then (gd (ok64 (s1_2 + 1)) ((z0d but kx1_0 n1) s1_0 s1_1 (s1_2 + 1) s1_3 l1_4)) else ((z2f x5.in_ (fun z => z68 z l1_4)).bind fun x8 => (if x8 = true then (z0k x5.out (x5.out.length : Int) (zi9 s1_0 s1_1 s1_2 (z0d but kx1_0 n1)) FUEL 0 s1_3 l1_4) else (gd (ok64 (s1_2 + 1)) ((z0d but kx1_0 n1) s1_0 s1_1 (s1_2 + 1) s1_3 l1_4)))))) else (kx1_0 s1_3 l1_4)
def zj0 (l0_1 : List Bool) : Option (List Bool) := some l0_1
def z0z (n : GNet) (but : Int) (kx0_0 : List Bool → Option (List Bool)) : Nat → Bool → List Bool → Option (List Bool)
  | 0, _, _ => none
  | n0 + 1, s0_0, l0_1 => if s0_0 = true then (z0d but (z87 (z0z n but kx0_0 n0)) FUEL n.tasks (n.tasks.length : Int) 0 false l0_1) else (kx0_0 l0_1)
def z7j (n : GNet) (place : Int) (but : Int) : Option (List Bool) := gd ((0 : Int) ≤ n.places ∧ n.places ≤ (1000000000 : Int)) ((getI (List.replicate n.places.toNat false) place).bind fun x2 => (z0z n but zj0 FUEL true ((List.replicate n.places.toNat false).set place.toNat true)))
def z05 : Con := ⟨202, [.v (.s .net) false, .v .I false, .v .I false], [((.sl .B), true)], [], fun x => z7j x.1 x.2.1 x.2.2.1⟩
def yj5 : Fs := ⟨[z4n], [z8w], []⟩
theorem z7d : yj5.Ok Tryz.prog := (fsK z7y (fsF y8p fs0))
def z9x : Tmpl := ⟨[(2, .c .i), (3, .c (.bx 3 0)), (7, .c (.bx 7 0)), (8, .c .b), (21, .c (.s (.s .task))), (22, .c .i), (23, .c .i), (39, .c (.s (.s .flow))), (40, .c .i), (41, .c .i)], [(3, .boxT (.s .net)), (7, .box [.ref 15]), (15, .arr .B true)]⟩
def z9f : Tmpl := ⟨[(2, .c .i), (3, .c (.bx 3 0)), (7, .c (.bx 7 0)), (8, .c .b), (21, .c (.s (.s .task))), (22, .c .i), (23, .c .i)], [(3, .boxT (.s .net)), (7, .box [.ref 15]), (15, .arr .B true)]⟩
def y0m (av : AV) (x : HP z05.ps) (n : Nat) (v : z9x.den) (K : Ks (CR z05)) : Option (CR z05) := z0k v.1.2.2.2.2.2.2.2.1 v.1.2.2.2.2.2.2.2.2.1 (fun s2_1 l2_2 => z9f.at none ((v.1.1, (), (), s2_1, v.1.2.2.2.2.1, v.1.2.2.2.2.2.1, v.1.2.2.2.2.2.2.1, ()), (v.2.1, ((), ()), l2_2, ())) (K (.exit 4))) n v.1.2.2.2.2.2.2.2.2.2.1 v.1.2.2.2.1 v.2.2.2.1
def z9p (av : AV) (x : HP z05.ps) : Hdl (CR z05) := hnd [] z9x (y0m av x)
theorem y0x : LP z05 Tryz.f202 [0, 0, 0] z9p := lp_ok (W := []) (H := []) (xs := [z9f]) z7d trivial rfl (fun av x v K => by kernel_rfl) (fun av x n v K => by kernel_rfl)
def zi4 : Tmpl := ⟨[(2, .c .i), (3, .c (.bx 3 0)), (7, .c (.bx 7 0)), (8, .c .b), (21, .c (.s (.s .task))), (22, .c .i), (23, .c .i)], [(3, .boxT (.s .net)), (7, .box [.ref 15]), (15, .arr .B true)]⟩
def zc8 : Tmpl := ⟨[(2, .c .i), (3, .c (.bx 3 0)), (7, .c (.bx 7 0)), (8, .c .b)], [(3, .boxT (.s .net)), (7, .box [.ref 15]), (15, .arr .B true)]⟩
def y3c (av : AV) (x : HP z05.ps) (n : Nat) (v : zi4.den) (K : Ks (CR z05)) : Option (CR z05) := z0d v.1.1 (fun s1_3 l1_4 => zc8.at none ((v.1.1, (), (), s1_3, ()), (v.2.1, ((), ()), l1_4, ())) (K (.exit 2))) n v.1.2.2.2.2.1 v.1.2.2.2.2.2.1 v.1.2.2.2.2.2.2.1 v.1.2.2.2.1 v.2.2.2.1
def zd7 (av : AV) (x : HP z05.ps) : Hdl (CR z05) := hnd [] zi4 (y3c av x)
theorem y45 : LP z05 Tryz.f202 [0, 0] zd7 := lp_ok (W := []) (H := [z9p]) (xs := [zc8]) z7d ⟨y0x, trivial⟩ rfl (fun av x v K => by kernel_rfl) (fun av x n v K => by kernel_rfl)
def zo4 : Tmpl := ⟨[(2, .c .i), (3, .c (.bx 3 0)), (7, .c (.bx 7 0)), (8, .c .b)], [(3, .boxT (.s .net)), (7, .box [.ref 15]), (15, .arr .B true)]⟩
def zj6 : Tmpl := ⟨[(7, .c (.bx 7 0))], [(7, .box [.ref 15]), (15, .arr .B true)]⟩
def y6p (av : AV) (x : HP z05.ps) (n : Nat) (v : zo4.den) (K : Ks (CR z05)) : Option (CR z05) := z0z v.2.1 v.1.1 (fun l0_1 => zj6.at none (((), ()), (((), ()), l0_1, ())) (K (.exit 0))) n v.1.2.2.2.1 v.2.2.2.1
def zm9 (av : AV) (x : HP z05.ps) : Hdl (CR z05) := hnd [] zo4 (y6p av x)
theorem y7z : LP z05 Tryz.f202 [0] zm9 := lp_ok (W := []) (H := [zd7]) (xs := [zj6]) z7d ⟨y45, trivial⟩ rfl (fun av x v K => by kernel_rfl) (fun av x n v K => by kernel_rfl)
theorem yl3 : z05.Ok Tryz.prog := fn_ok (k := z05) (fn := Tryz.f202) (W := []) (H := [zm9]) Tryz.func202 z7d ⟨y7z, trivial⟩ rfl rfl (fun av x => by kernel_rfl)
def z7i (m : Int) : Option Bool := (z0c m 0 4).bind fun x1 => (some (!x1))
def z7s : FCon := ⟨199, .I, [], fun z c => z7i z ⟩
def y3f : Fs := ⟨[z20], [], []⟩
theorem y3i : y3f.Ok Tryz.prog := (fsK z2q fs0)
theorem y49 : z7s.Ok Tryz.prog := FCon.ok (fn_ok (k := z7s.con) (fn := Tryz.f199) (W := []) (H := []) Tryz.func199 y3i trivial rfl rfl (fun av x => by kernel_rfl))
def z4b (n : GNet) (marks : List Int) : Option Bool := if decide ((marks.length : Int) = n.places) = true then ((z2f marks (fun z => z7i z )).bind fun x2 => (some (!x2))) else (some false)
def z60 : Con := ⟨164, [.v (.s .net) false, .v (.sl .I) false], [(.B, true)], [], fun x => z4b x.1 x.2.1⟩
def y6w : Fs := ⟨[z4n], [z7s], []⟩
theorem y6z : y6w.Ok Tryz.prog := (fsK z7y (fsF y49 fs0))
theorem zn9 : z60.Ok Tryz.prog := fn_ok (k := z60) (fn := Tryz.f164) (W := []) (H := []) Tryz.func164 y6z trivial rfl rfl (fun av x => by kernel_rfl)
def zb9 (n : GNet) (marks : List Int) : Option Bool := (z8m n).bind fun x1 => (if x1 = true then ((z4b n marks).bind fun x3 => (some x3)) else (some false))
def zn4 : Con := ⟨94, [.v (.s .net) false, .v (.sl .I) false], [(.B, true)], [], fun x => zb9 x.1 x.2.1⟩
def wr5 : Fs := ⟨[zb4, z60], [], []⟩
theorem wu2 : wr5.Ok Tryz.prog := (fsK y03 (fsK zn9 fs0))
theorem y8n : zn4.Ok Tryz.prog := fn_ok (k := zn4) (fn := Tryz.f94) (W := []) (H := []) Tryz.func94 wu2 trivial rfl rfl (fun av x => by kernel_rfl)
def zf0 (busy : List GItem) : Option Bool := some (decide ((busy.length : Int) ≤ 6))
def z1y (n : GNet) (p0_0 : List GItem) (p0_1 : Int) (kx0_0 : Option Bool) : Nat → Int → Option Bool
  | 0, _ => none
  | n0 + 1, s0_0 => if decide (s0_0 < p0_1) = true then ((getI p0_0 s0_0).bind fun x2 => ((z0n n x2.task).bind fun x3 => (if x3 = true then ((z8p x2.who).bind fun x5 => (if x5 = true then ((getI n.tasks x2.task).bind fun x7 => (gd (ok64 (x7.need - 1)) ((z0c x2.did 0 (x7.need - 1)).bind fun x9 => (if x9 = true then (gd (ok64 (s0_0 + 1)) ((z1y n p0_0 p0_1 kx0_0 n0) (s0_0 + 1))) else (some false))))) else (some false))) else (some false)))) else (kx0_0)
def z4s (n : GNet) (busy : List GItem) : Option Bool := z1y n busy (busy.length : Int) (zf0 busy) FUEL 0
def z0r : Con := ⟨95, [.v (.s .net) false, .v (.sl (.s .item)) false], [(.B, true)], [], fun x => z4s x.1 x.2.1⟩
def yc1 : Fs := ⟨[z1o, ze3, z20], [], []⟩
theorem zp8 : yc1.Ok Tryz.prog := (fsK z4d (fsK y8s (fsK z2q fs0)))
def zj3 : Tmpl := ⟨[(1, .c (.s (.s .item))), (2, .c (.bx 2 0)), (7, .c (.s (.s .item))), (8, .c .i), (9, .c .i)], [(2, .boxT (.s .net))]⟩
def zi5 : Tmpl := ⟨[(1, .c (.s (.s .item)))], []⟩
def y6k (av : AV) (x : HP z0r.ps) (n : Nat) (v : zj3.den) (K : Ks (CR z0r)) : Option (CR z0r) := z1y v.2.1 v.1.2.2.1 v.1.2.2.2.1 (zi5.at none ((v.1.1, ()), ()) (K (.exit 0))) n v.1.2.2.2.2.1
def zi7 (av : AV) (x : HP z0r.ps) : Hdl (CR z0r) := hnd [] zj3 (y6k av x)
theorem y6m : LP z0r Tryz.f95 [0] zi7 := lp_ok (W := []) (H := []) (xs := [zi5]) zp8 trivial rfl (fun av x v K => by kernel_rfl) (fun av x n v K => by kernel_rfl)
theorem zq3 : z0r.Ok Tryz.prog := fn_ok (k := z0r) (fn := Tryz.f95) (W := []) (H := [zi7]) Tryz.func95 zp8 ⟨y6m, trivial⟩ rfl rfl (fun av x => by kernel_rfl)
def z7g (q : Int) (marks : List Int) (reach : List Bool) : Option Bool := (getI marks q).bind fun x1 => (if decide (x1 = 0) = true then ((getI reach q).bind fun x3 => (some x3)) else (some false))
def z7r : FCon := ⟨203, .I, [(.sl .I), (.sl .B)], fun z c => z7g z c.1 c.2.1⟩
def y3e : Fs := ⟨[], [], []⟩
theorem y3h : y3e.Ok Tryz.prog := fs0
theorem y48 : z7r.Ok Tryz.prog := FCon.ok (fn_ok (k := z7r.con) (fn := Tryz.f203) (W := []) (H := []) Tryz.func203 y3h trivial rfl rfl (fun av x => by kernel_rfl))
def z4i (s1_0 : Int) (s1_1 : Int) (bk1 : Int → Int → List Int → Option Bool) (l2_1 : List Int) : Option Bool := gd (ok64 (s1_1 + 1)) (bk1 s1_0 (s1_1 + 1) l2_1)
def z1n (p2_0 : List GFlow) (p2_1 : Int) (kx2_0 : List Int → Option Bool) : Nat → Int → List Int → Option Bool
  | 0, _, _ => none
  | n2 + 1, s2_0, l2_1 => if decide (s2_0 < p2_1) = true then ((getI p2_0 s2_0).bind fun x15 => (gd (l2_1.length + [x15.to].length ≤ SMALL) (gd (ok64 (s2_0 + 1)) ((z1n p2_0 p2_1 kx2_0 n2) (s2_0 + 1) (l2_1 ++ [x15.to]))))) else (kx2_0 l2_1)
def z6t  : Option Bool := some false
def z13 (n : GNet) (t : Int) (p0_0 : List Int) (p0_2 : List Int) (l1_2 : List Int) (p3_0 : Int) (kx3_0 : Option Bool) : Nat → Int → Option Bool
  | 0, _ => none
  | n3 + 1, s3_0 => if decide (s3_0 < p3_0) = true then ((getI l1_2 s3_0).bind fun x20 => ((z7j n x20 t).bind fun x21 => ((z2f p0_0 (fun z => z7g z p0_2 x21)).bind fun x22 => (if x22 = true then (some true) else (gd (ok64 (s3_0 + 1)) ((z13 n t p0_0 p0_2 l1_2 p3_0 kx3_0 n3) (s3_0 + 1))))))) else (kx3_0)
def z1m (n : GNet) (t : Int) (p0_0 : List Int) (p0_2 : List Int) (l1_2 : List Int) : Option Bool := z13 n t p0_0 p0_2 l1_2 (l1_2.length : Int) z6t FUEL 0
def z0q (n : GNet) (busy : List GItem) (kx1_0 : List Int → Option Bool) : Nat → Int → Int → List Int → Option Bool
  | 0, _, _, _ => none
  | n1 + 1, s1_0, s1_1, l1_2 => if decide (s1_1 < s1_0) = true then ((getI busy s1_1).bind fun x12 => ((getI n.tasks x12.task).bind fun x13 => (z1n x13.out (x13.out.length : Int) (z4i s1_0 s1_1 (z0q n busy kx1_0 n1)) FUEL 0 l1_2))) else (kx1_0 l1_2)
def z4h (n : GNet) (busy : List GItem) (t : Int) (p0_0 : List Int) (p0_2 : List Int) (l0_1 : List Int) : Option Bool := z0q n busy (z1m n t p0_0 p0_2) FUEL (busy.length : Int) 0 l0_1
def z0p (marks : List Int) (p0_0 : List Int) (p0_1 : Int) (kx0_0 : List Int → Option Bool) : Nat → Int → List Int → Option Bool
  | 0, _, _ => none
  | n0 + 1, s0_0, l0_1 => if decide (s0_0 < p0_1) = true then ((getI marks s0_0).bind fun x3 => (if decide (0 < x3) = true then ((zb6 p0_0 s0_0).bind fun x5 => (if x5 = true then (gd (ok64 (s0_0 + 1)) ((z0p marks p0_0 p0_1 kx0_0 n0) (s0_0 + 1) l0_1)) else (gd (l0_1.length + [s0_0].length ≤ SMALL) (gd (ok64 (s0_0 + 1)) ((z0p marks p0_0 p0_1 kx0_0 n0) (s0_0 + 1) (l0_1 ++ [s0_0])))))) else (gd (ok64 (s0_0 + 1)) ((z0p marks p0_0 p0_1 kx0_0 n0) (s0_0 + 1) l0_1)))) else (kx0_0 l0_1)
def z67 (n : GNet) (marks : List Int) (busy : List GItem) (t : Int) : Option Bool := (getI n.tasks t).bind fun x1 => (z0p marks x1.in_ (marks.length : Int) (z4h n busy t x1.in_ marks) FUEL 0 ([] : List Int))
def z01 : Con := ⟨168, [.v (.s .net) false, .v (.sl .I) false, .v (.sl (.s .item)) false, .v .I false], [(.B, true)], [], fun x => z67 x.1 x.2.1 x.2.2.1 x.2.2.2.1⟩
def y6u : Fs := ⟨[zn2, z05, z4n], [z7r], []⟩
theorem z47 : y6u.Ok Tryz.prog := (fsK y8k (fsK yl3 (fsK z7y (fsF y48 fs0))))
def z9w : Tmpl := ⟨[(3, .c .i), (4, .c (.bx 4 0)), (5, .c (.bx 5 0)), (9, .c (.s .I)), (10, .c (.ref 500010)), (46, .c (.s (.s .item))), (47, .c .i), (48, .c .i), (58, .c (.s (.s .flow))), (59, .c .i), (60, .c .i)], [(4, .boxT (.s .net)), (5, .box [.s .I]), (500010, .arr .I true)]⟩
def z9e : Tmpl := ⟨[(3, .c .i), (4, .c (.bx 4 0)), (5, .c (.bx 5 0)), (9, .c (.s .I)), (10, .c (.ref 500010)), (46, .c (.s (.s .item))), (47, .c .i), (48, .c .i)], [(4, .boxT (.s .net)), (5, .box [.s .I]), (500010, .arr .I true)]⟩
def y0l (av : AV) (x : HP z01.ps) (n : Nat) (v : z9w.den) (K : Ks (CR z01)) : Option (CR z01) := z1n v.1.2.2.2.2.2.2.2.2.1 v.1.2.2.2.2.2.2.2.2.2.1 (fun l2_1 => z9e.at none ((v.1.1, (), (), v.1.2.2.2.1, (), v.1.2.2.2.2.2.1, v.1.2.2.2.2.2.2.1, v.1.2.2.2.2.2.2.2.1, ()), (v.2.1, (v.2.2.1.1, ()), l2_1, ())) (K (.exit 4))) n v.1.2.2.2.2.2.2.2.2.2.2.1 v.2.2.2.1
def z9o (av : AV) (x : HP z01.ps) : Hdl (CR z01) := hnd [] z9w (y0l av x)
theorem y0w : LP z01 Tryz.f168 [1, 0] z9o := lp_ok (W := []) (H := []) (xs := [z9e]) z47 trivial rfl (fun av x v K => by kernel_rfl) (fun av x n v K => by kernel_rfl)
def zi1 : Tmpl := ⟨[(2, .c (.s (.s .item))), (3, .c .i), (4, .c (.bx 4 0)), (5, .c (.bx 5 0)), (9, .c (.s .I)), (10, .c (.ref 500010)), (26, .c (.s .I)), (27, .c .i), (28, .c .i)], [(4, .boxT (.s .net)), (5, .box [.s .I]), (500010, .arr .I true)]⟩
def zc5 : Tmpl := ⟨[(2, .c (.s (.s .item))), (3, .c .i), (4, .c (.bx 4 0)), (5, .c (.bx 5 0)), (9, .c (.s .I)), (10, .c (.ref 500010))], [(4, .boxT (.s .net)), (5, .box [.s .I]), (500010, .arr .I true)]⟩
def y39 (av : AV) (x : HP z01.ps) (n : Nat) (v : zi1.den) (K : Ks (CR z01)) : Option (CR z01) := z0p v.1.2.2.2.2.2.2.1 v.1.2.2.2.2.1 v.1.2.2.2.2.2.2.2.1 (fun l0_1 => zc5.at none ((v.1.1, v.1.2.1, (), (), v.1.2.2.2.2.1, (), ()), (v.2.1, (v.2.2.1.1, ()), l0_1, ())) (K (.exit 0))) n v.1.2.2.2.2.2.2.2.2.1 v.2.2.2.1
def zd4 (av : AV) (x : HP z01.ps) : Hdl (CR z01) := hnd [.e 10 500010 .I] zi1 (y39 av x)
theorem y42 : LP z01 Tryz.f168 [0] zd4 := lp_ok (W := []) (H := []) (xs := [zc5]) z47 trivial rfl (fun av x v K => by kernel_rfl) (fun av x n v K => by kernel_rfl)
def zi2 : Tmpl := ⟨[(3, .c .i), (4, .c (.bx 4 0)), (5, .c (.bx 5 0)), (9, .c (.s .I)), (10, .c (.ref 500010)), (46, .c (.s (.s .item))), (47, .c .i), (48, .c .i)], [(4, .boxT (.s .net)), (5, .box [.s .I]), (500010, .arr .I true)]⟩
def zc6 : Tmpl := ⟨[(3, .c .i), (4, .c (.bx 4 0)), (5, .c (.bx 5 0)), (9, .c (.s .I)), (10, .c (.ref 500010))], [(4, .boxT (.s .net)), (5, .box [.s .I]), (500010, .arr .I true)]⟩
def y3a (av : AV) (x : HP z01.ps) (n : Nat) (v : zi2.den) (K : Ks (CR z01)) : Option (CR z01) := z0q v.2.1 v.1.2.2.2.2.2.1 (fun l1_2 => zc6.at none ((v.1.1, (), (), v.1.2.2.2.1, (), ()), (v.2.1, (v.2.2.1.1, ()), l1_2, ())) (K (.exit 2))) n v.1.2.2.2.2.2.2.1 v.1.2.2.2.2.2.2.2.1 v.2.2.2.1
def zd5 (av : AV) (x : HP z01.ps) : Hdl (CR z01) := hnd [] zi2 (y3a av x)
theorem y43 : LP z01 Tryz.f168 [1] zd5 := lp_ok (W := []) (H := [z9o]) (xs := [zc6]) z47 ⟨y0w, trivial⟩ rfl (fun av x v K => by kernel_rfl) (fun av x n v K => by kernel_rfl)
def zi3 : Tmpl := ⟨[(3, .c .i), (4, .c (.bx 4 0)), (5, .c (.bx 5 0)), (9, .c (.s .I)), (71, .c (.ref 500010)), (72, .c .i), (73, .c .i)], [(4, .boxT (.s .net)), (5, .box [.s .I]), (500010, .arr .I true)]⟩
def zc7 : Tmpl := ⟨[], []⟩
def y3b (av : AV) (x : HP z01.ps) (n : Nat) (v : zi3.den) (K : Ks (CR z01)) : Option (CR z01) := z13 v.2.1 v.1.1 v.1.2.2.2.1 v.2.2.1.1 v.2.2.2.1 v.1.2.2.2.2.2.1 (zc7.at none ((), ()) (K (.exit 6))) n v.1.2.2.2.2.2.2.1
def zd6 (av : AV) (x : HP z01.ps) : Hdl (CR z01) := hnd [] zi3 (y3b av x)
theorem y44 : LP z01 Tryz.f168 [2] zd6 := lp_ok (W := []) (H := []) (xs := [zc7]) z47 trivial rfl (fun av x v K => by kernel_rfl) (fun av x n v K => by kernel_rfl)
theorem y8o : z01.Ok Tryz.prog := fn_ok (k := z01) (fn := Tryz.f168) (W := []) (H := [zd4, zd5, zd6]) Tryz.func168 z47 ⟨y42, y43, y44, trivial⟩ rfl rfl (fun av x => by kernel_rfl)
def z36 (n : GNet) (marks : List Int) (busy : List GItem) (t : Int) (s0_0 : Bool) (s0_2 : Bool) : Option Bool := (getI n.tasks t).bind fun x14 => (if decide (x14.join = 1) = true then (some s0_0) else (if decide (x14.join = 2) = true then (some s0_2) else (if s0_2 = true then (if s0_0 = true then (some true) else ((z67 n marks busy t).bind fun x19 => (some (!x19)))) else (some false))))
def z0s (marks : List Int) (p0_0 : List Int) (p0_1 : Int) (kx0_0 : Bool → Bool → Option Bool) : Nat → Bool → Int → Bool → Option Bool
  | 0, _, _, _ => none
  | n0 + 1, s0_0, s0_1, s0_2 => if decide (s0_1 < p0_1) = true then ((getI p0_0 s0_1).bind fun x3 => (if s0_2 = true then (if s0_0 = true then ((getI marks x3).bind fun x6 => (gd (ok64 (s0_1 + 1)) ((z0s marks p0_0 p0_1 kx0_0 n0) (decide (0 < x6)) (s0_1 + 1) true))) else (gd (ok64 (s0_1 + 1)) ((z0s marks p0_0 p0_1 kx0_0 n0) false (s0_1 + 1) true))) else ((getI marks x3).bind fun x9 => (if s0_0 = true then ((getI marks x3).bind fun x11 => (gd (ok64 (s0_1 + 1)) ((z0s marks p0_0 p0_1 kx0_0 n0) (decide (0 < x11)) (s0_1 + 1) (decide (0 < x9))))) else (gd (ok64 (s0_1 + 1)) ((z0s marks p0_0 p0_1 kx0_0 n0) false (s0_1 + 1) (decide (0 < x9)))))))) else (kx0_0 s0_0 s0_2)
def z96 (n : GNet) (marks : List Int) (busy : List GItem) (t : Int) : Option Bool := (getI n.tasks t).bind fun x1 => (z0s marks x1.in_ (x1.in_.length : Int) (z36 n marks busy t) FUEL true 0 false)
def z1w : Con := ⟨104, [.v (.s .net) false, .v (.sl .I) false, .v (.sl (.s .item)) false, .v .I false], [(.B, true)], [], fun x => z96 x.1 x.2.1 x.2.2.1 x.2.2.2.1⟩
def yv5 : Fs := ⟨[z01], [], []⟩
theorem y1j : yv5.Ok Tryz.prog := (fsK y8o fs0)
def zx6 : Tmpl := ⟨[(1, .c (.s .I)), (2, .c (.s (.s .item))), (3, .c .i), (4, .c (.bx 4 0)), (9, .c .b), (10, .c .b), (18, .c (.s .I)), (19, .c .i), (20, .c .i)], [(4, .boxT (.s .net))]⟩
def zq8 : Tmpl := ⟨[(1, .c (.s .I)), (2, .c (.s (.s .item))), (3, .c .i), (4, .c (.bx 4 0)), (9, .c .b), (10, .c .b)], [(4, .boxT (.s .net))]⟩
def yi7 (av : AV) (x : HP z1w.ps) (n : Nat) (v : zx6.den) (K : Ks (CR z1w)) : Option (CR z1w) := z0s v.1.1 v.1.2.2.2.2.2.2.1 v.1.2.2.2.2.2.2.2.1 (fun s0_0 s0_2 => zq8.at none ((v.1.1, v.1.2.1, v.1.2.2.1, (), s0_2, s0_0, ()), (v.2.1, ())) (K (.exit 0))) n v.1.2.2.2.2.2.1 v.1.2.2.2.2.2.2.2.2.1 v.1.2.2.2.2.1
def zv5 (av : AV) (x : HP z1w.ps) : Hdl (CR z1w) := hnd [] zx6 (yi7 av x)
theorem yk3 : LP z1w Tryz.f104 [0] zv5 := lp_ok (W := []) (H := []) (xs := [zq8]) y1j trivial rfl (fun av x v K => by kernel_rfl) (fun av x n v K => by kernel_rfl)
theorem yy7 : z1w.Ok Tryz.prog := fn_ok (k := z1w) (fn := Tryz.f104) (W := []) (H := [zv5]) Tryz.func104 y1j ⟨yk3, trivial⟩ rfl rfl (fun av x => by kernel_rfl)
def zs5 (n : GNet) (marks : List Int) (busy : List GItem) (t : Int) : Option Bool := (zb9 n marks).bind fun x1 => (if x1 = true then ((z4s n busy).bind fun x3 => (if x3 = true then ((z0n n t).bind fun x5 => (if x5 = true then ((z96 n marks busy t).bind fun x7 => (some x7)) else (some false))) else (some false))) else (some false))
def y3n : Con := ⟨33, [.v (.s .net) false, .v (.sl .I) false, .v (.sl (.s .item)) false, .v .I false], [(.B, true)], [], fun x => zs5 x.1 x.2.1 x.2.2.1 x.2.2.2.1⟩
def wc2 : Fs := ⟨[zn4, z0r, z1o, z1w], [], []⟩
theorem wg3 : wc2.Ok Tryz.prog := (fsK y8n (fsK zq3 (fsK z4d (fsK yy7 fs0))))
theorem wk4 : y3n.Ok Tryz.prog := fn_ok (k := y3n) (fn := Tryz.f33) (W := []) (H := []) Tryz.func33 wg3 trivial rfl rfl (fun av x => by kernel_rfl)
def zn7 (l0_1 : List Int) (x4 : Int) (x7 : Int) : Option (List Int) := some (l0_1.set x4.toNat (x7 - 1))
def zn8 (l0_1 : List Int) : Option (List Int) := some l0_1
def z1p (n : GNet) (t : Int) (p0_0 : List Int) (p0_1 : Int) (kx0_0 : List Int → Int → Int → Option (List Int)) (kx0_1 : List Int → Option (List Int)) : Nat → Int → List Int → Option (List Int)
  | 0, _, _ => none
  | n0 + 1, s0_0, l0_1 => if decide (s0_0 < p0_1) = true then ((getI p0_0 s0_0).bind fun x4 => ((getI l0_1 x4).bind fun x5 => (if decide (0 < x5) = true then ((getI l0_1 x4).bind fun x7 => (gd (ok64 (x7 - 1)) ((getI l0_1 x4).bind fun x9 => ((getI n.tasks t).bind fun x10 => (if decide (x10.join = 2) = true then (kx0_0 l0_1 x4 x7) else (gd (ok64 (s0_0 + 1)) ((z1p n t p0_0 p0_1 kx0_0 kx0_1 n0) (s0_0 + 1) (l0_1.set x4.toNat (x7 - 1))))))))) else (gd (ok64 (s0_0 + 1)) ((z1p n t p0_0 p0_1 kx0_0 kx0_1 n0) (s0_0 + 1) l0_1))))) else (kx0_1 l0_1)
def z89 (n : GNet) (marks : List Int) (t : Int) : Option (List Int) := (z0l marks).bind fun x1 => ((getI n.tasks t).bind fun x2 => (z1p n t x2.in_ (x2.in_.length : Int) zn7 zn8 FUEL 0 x1))
def z1g : Con := ⟨93, [.v (.s .net) false, .v (.sl .I) false, .v .I false], [((.sl .I), true)], [], fun x => z89 x.1 x.2.1 x.2.2.1⟩
def yn0 : Fs := ⟨[z1s], [], []⟩
theorem zy5 : yn0.Ok Tryz.prog := (fsK z3g fs0)
def zq5 : Tmpl := ⟨[(2, .c .i), (3, .c (.bx 3 0)), (7, .c (.ref 11)), (17, .c (.s .I)), (18, .c .i), (19, .c .i)], [(3, .boxT (.s .net)), (11, .arr .I true)]⟩
def z8y : Tmpl := ⟨[(7, .c (.ref 11))], [(11, .arr .I true)]⟩
def yb7 (av : AV) (x : HP z1g.ps) (n : Nat) (v : zq5.den) (K : Ks (CR z1g)) : Option (CR z1g) := z1p v.2.1 v.1.1 v.1.2.2.2.1 v.1.2.2.2.2.1 (fun l0_1 x4 x7 => z8y.at none (((), ()), ((l0_1.set x4.toNat (x7 - 1)), ())) (K (.exit 0))) (fun l0_1 => z8y.at none (((), ()), (l0_1, ())) (K (.exit 0))) n v.1.2.2.2.2.2.1 v.2.2.1
def zq0 (av : AV) (x : HP z1g.ps) : Hdl (CR z1g) := hnd [] zq5 (yb7 av x)
theorem yc8 : LP z1g Tryz.f93 [0] zq0 := lp_ok (W := []) (H := []) (xs := [z8y]) zy5 trivial rfl (fun av x v K => by kernel_rfl) (fun av x n v K => by kernel_rfl)
theorem yq6 : z1g.Ok Tryz.prog := fn_ok (k := z1g) (fn := Tryz.f93) (W := []) (H := [zq0]) Tryz.func93 zy5 ⟨yc8, trivial⟩ rfl rfl (fun av x => by kernel_rfl)
def y87 (l0_1 : List Int) : Option (List Int) := some l0_1
def z0o (t : GTask) (data : List Int) (p0_0 : List GFlow) (p0_1 : Int) (kx0_0 : List Int → Option (List Int)) : Nat → Int → List Int → Option (List Int)
  | 0, _, _ => none
  | n0 + 1, s0_0, l0_1 => if decide (s0_0 < p0_1) = true then ((getI p0_0 s0_0).bind fun x2 => ((z2c x2.if_ data).bind fun x3 => (if x3 = true then (if decide (t.split = 2) = true then (if decide (0 < (l0_1.length : Int)) = true then (gd (ok64 (s0_0 + 1)) ((z0o t data p0_0 p0_1 kx0_0 n0) (s0_0 + 1) l0_1)) else (if decide (t.split = 3) = true then (gd (ok64 ((t.out.length : Int) - 1)) (if decide (s0_0 = ((t.out.length : Int) - 1)) = true then (if decide (0 < (l0_1.length : Int)) = true then (gd (ok64 (s0_0 + 1)) ((z0o t data p0_0 p0_1 kx0_0 n0) (s0_0 + 1) l0_1)) else (gd (l0_1.length + [x2.to].length ≤ SMALL) (gd (ok64 (s0_0 + 1)) ((z0o t data p0_0 p0_1 kx0_0 n0) (s0_0 + 1) (l0_1 ++ [x2.to]))))) else (gd (l0_1.length + [x2.to].length ≤ SMALL) (gd (ok64 (s0_0 + 1)) ((z0o t data p0_0 p0_1 kx0_0 n0) (s0_0 + 1) (l0_1 ++ [x2.to])))))) else (gd (l0_1.length + [x2.to].length ≤ SMALL) (gd (ok64 (s0_0 + 1)) ((z0o t data p0_0 p0_1 kx0_0 n0) (s0_0 + 1) (l0_1 ++ [x2.to])))))) else (if decide (t.split = 3) = true then (gd (ok64 ((t.out.length : Int) - 1)) (if decide (s0_0 = ((t.out.length : Int) - 1)) = true then (if decide (0 < (l0_1.length : Int)) = true then (gd (ok64 (s0_0 + 1)) ((z0o t data p0_0 p0_1 kx0_0 n0) (s0_0 + 1) l0_1)) else (gd (l0_1.length + [x2.to].length ≤ SMALL) (gd (ok64 (s0_0 + 1)) ((z0o t data p0_0 p0_1 kx0_0 n0) (s0_0 + 1) (l0_1 ++ [x2.to]))))) else (gd (l0_1.length + [x2.to].length ≤ SMALL) (gd (ok64 (s0_0 + 1)) ((z0o t data p0_0 p0_1 kx0_0 n0) (s0_0 + 1) (l0_1 ++ [x2.to])))))) else (gd (l0_1.length + [x2.to].length ≤ SMALL) (gd (ok64 (s0_0 + 1)) ((z0o t data p0_0 p0_1 kx0_0 n0) (s0_0 + 1) (l0_1 ++ [x2.to])))))) else (gd (ok64 (s0_0 + 1)) ((z0o t data p0_0 p0_1 kx0_0 n0) (s0_0 + 1) l0_1))))) else (kx0_0 l0_1)
def zz4 (t : GTask) (data : List Int) : Option (List Int) := z0o t data t.out (t.out.length : Int) y87 FUEL 0 ([] : List Int)
def z61 : Con := ⟨173, [.v (.s .task) false, .v (.sl .I) false], [((.sl .I), true)], [], fun x => zz4 x.1 x.2.1⟩
def wr9 : Fs := ⟨[z48], [], []⟩
theorem w04 : wr9.Ok Tryz.prog := (fsK z78 fs0)
def yh3 : Tmpl := ⟨[(1, .c (.s .I)), (2, .c (.bx 2 0)), (5, .c (.ref 500005)), (9, .c (.s (.s .flow))), (10, .c .i), (11, .c .i)], [(2, .boxT (.s .task)), (500005, .arr .I true)]⟩
def y9q : Tmpl := ⟨[(5, .c (.ref 500005))], [(500005, .arr .I true)]⟩
def w6p (av : AV) (x : HP z61.ps) (n : Nat) (v : yh3.den) (K : Ks (CR z61)) : Option (CR z61) := z0o v.2.1 v.1.1 v.1.2.2.2.1 v.1.2.2.2.2.1 (fun l0_1 => y9q.at none (((), ()), (l0_1, ())) (K (.exit 0))) n v.1.2.2.2.2.2.1 v.2.2.1
def ye8 (av : AV) (x : HP z61.ps) : Hdl (CR z61) := hnd [.e 5 500005 .I] yh3 (w6p av x)
theorem w8e : LP z61 Tryz.f173 [0] ye8 := lp_ok (W := []) (H := []) (xs := [y9q]) w04 trivial rfl (fun av x v K => by kernel_rfl) (fun av x n v K => by kernel_rfl)
theorem wx8 : z61.Ok Tryz.prog := fn_ok (k := z61) (fn := Tryz.f173) (W := []) (H := [ye8]) Tryz.func173 w04 ⟨w8e, trivial⟩ rfl rfl (fun av x => by kernel_rfl)
def z95 (n : GNet) (l1_1 : List Int) : Option ((List Int) × Bool) := (z4b n l1_1).bind fun x21 => (if x21 = true then (some (l1_1, true)) else (some ([], false)))
def z58 (x14 : (List Int)) (p1_0 : Int) (kx1_0 : List Int → Option ((List Int) × Bool)) : Nat → Int → List Int → Option ((List Int) × Bool)
  | 0, _, _ => none
  | n1 + 1, s1_0, l1_1 => if decide (s1_0 < p1_0) = true then ((getI x14 s1_0).bind fun x16 => ((getI l1_1 x16).bind fun x17 => (gd (ok64 (x17 + 1)) ((getI l1_1 x16).bind fun x19 => (gd (ok64 (s1_0 + 1)) ((z58 x14 p1_0 kx1_0 n1) (s1_0 + 1) (l1_1.set x16.toNat (x17 + 1)))))))) else (kx1_0 l1_1)
def z94 (n : GNet) (t : Int) (data : List Int) (l0_1 : List Int) : Option ((List Int) × Bool) := (getI n.tasks t).bind fun x13 => ((zz4 x13 data).bind fun x14 => (z58 x14 (x14.length : Int) (z95 n) FUEL 0 l0_1))
def z57 (p0_0 : List Int) (p0_1 : Int) (kx0_0 : List Int → Option ((List Int) × Bool)) : Nat → Int → List Int → Option ((List Int) × Bool)
  | 0, _, _ => none
  | n0 + 1, s0_0, l0_1 => if decide (s0_0 < p0_1) = true then ((getI p0_0 s0_0).bind fun x10 => ((getI l0_1 x10).bind fun x11 => (gd (ok64 (s0_0 + 1)) ((z57 p0_0 p0_1 kx0_0 n0) (s0_0 + 1) (l0_1.set x10.toNat 0))))) else (kx0_0 l0_1)
def z82 (n : GNet) (marks : List Int) (t : Int) (data : List Int) : Option ((List Int) × Bool) := (zb9 n marks).bind fun x1 => (if x1 = true then ((z0n n t).bind fun x3 => (if x3 = true then ((z3b data).bind fun x5 => (if x5 = true then ((z0l marks).bind fun x7 => ((getI n.tasks t).bind fun x8 => (z57 x8.clear (x8.clear.length : Int) (z94 n t data) FUEL 0 x7))) else (some ([], false)))) else (some ([], false)))) else (some ([], false)))
def z0v : Con := ⟨115, [.v (.s .net) false, .v (.sl .I) false, .v .I false, .v (.sl .I) false], [((.sl .I), true), (.B, true)], [], fun x => z82 x.1 x.2.1 x.2.2.1 x.2.2.2.1⟩
def w76 : Fs := ⟨[zn4, z1o, z55, z1s, z61, z60], [], []⟩
theorem y0n : w76.Ok Tryz.prog := (fsK y8n (fsK z4d (fsK z7b (fsK z3g (fsK wx8 (fsK zn9 fs0))))))
def y5j : Tmpl := ⟨[(2, .c .i), (3, .c (.s .I)), (4, .c (.bx 4 0)), (10, .c (.ref 31)), (37, .c (.s .I)), (38, .c .i), (39, .c .i)], [(4, .boxT (.s .net)), (31, .arr .I true)]⟩
def y2p : Tmpl := ⟨[(2, .c .i), (3, .c (.s .I)), (4, .c (.bx 4 0)), (10, .c (.ref 31))], [(4, .boxT (.s .net)), (31, .arr .I true)]⟩
def w10 (av : AV) (x : HP z0v.ps) (n : Nat) (v : y5j.den) (K : Ks (CR z0v)) : Option (CR z0v) := z57 v.1.2.2.2.2.1 v.1.2.2.2.2.2.1 (fun l0_1 => y2p.at none ((v.1.1, v.1.2.1, (), (), ()), (v.2.1, l0_1, ())) (K (.exit 0))) n v.1.2.2.2.2.2.2.1 v.2.2.1
def y4n (av : AV) (x : HP z0v.ps) : Hdl (CR z0v) := hnd [] y5j (w10 av x)
theorem w1y : LP z0v Tryz.f115 [0] y4n := lp_ok (W := []) (H := []) (xs := [y2p]) y0n trivial rfl (fun av x v K => by kernel_rfl) (fun av x n v K => by kernel_rfl)
def y5k : Tmpl := ⟨[(4, .c (.bx 4 0)), (10, .c (.ref 31)), (53, .c (.ref 53)), (54, .c .i), (55, .c .i)], [(4, .boxT (.s .net)), (31, .arr .I true), (53, .arr .I true)]⟩
def y2q : Tmpl := ⟨[(4, .c (.bx 4 0)), (10, .c (.ref 31))], [(4, .boxT (.s .net)), (31, .arr .I true)]⟩
def w11 (av : AV) (x : HP z0v.ps) (n : Nat) (v : y5k.den) (K : Ks (CR z0v)) : Option (CR z0v) := z58 v.2.2.2.1 v.1.2.2.2.1 (fun l1_1 => y2q.at none (((), (), ()), (v.2.1, l1_1, ())) (K (.exit 2))) n v.1.2.2.2.2.1 v.2.2.1
def y4o (av : AV) (x : HP z0v.ps) : Hdl (CR z0v) := hnd [] y5k (w11 av x)
theorem w1z : LP z0v Tryz.f115 [1] y4o := lp_ok (W := []) (H := []) (xs := [y2q]) y0n trivial rfl (fun av x v K => by kernel_rfl) (fun av x n v K => by kernel_rfl)
theorem w8v : z0v.Ok Tryz.prog := fn_ok (k := z0v) (fn := Tryz.f115) (W := []) (H := [y4n, y4o]) Tryz.func115 y0n ⟨w1y, w1z, trivial⟩ rfl rfl (fun av x => by kernel_rfl)
def y11 (n : Int) : Option Bool := (z0c n 0 7).bind fun x1 => (some (!x1))
def y18 : FCon := ⟨119, .I, [], fun z c => y11 z ⟩
def w78 : Fs := ⟨[z20], [], []⟩
theorem w7z : w78.Ok Tryz.prog := (fsK z2q fs0)
theorem w8x : y18.Ok Tryz.prog := FCon.ok (fn_ok (k := y18.con) (fn := Tryz.f119) (W := []) (H := []) Tryz.func119 w7z trivial rfl rfl (fun av x => by kernel_rfl))
def zc0 (people : List Int) : Option Bool := (z0c (people.length : Int) 1 4).bind fun x1 => (if x1 = true then ((z2f people (fun z => y11 z )).bind fun x3 => (some (!x3))) else (some false))
def zn5 : Con := ⟨50, [.v (.sl .I) false], [(.B, true)], [], fun x => zc0 x.1⟩
def wr7 : Fs := ⟨[z20, z4n], [y18], []⟩
theorem wu4 : wr7.Ok Tryz.prog := (fsK z2q (fsK z7y (fsF w8x fs0)))
theorem y8q : zn5.Ok Tryz.prog := fn_ok (k := zn5) (fn := Tryz.f50) (W := []) (H := []) Tryz.func50 wu4 trivial rfl rfl (fun av x => by kernel_rfl)
def zs7 (people : List Int) (who : Int) (role : Int) : Option Bool := (zc0 people).bind fun x1 => (if x1 = true then ((z0c who 1 (people.length : Int)).bind fun x3 => (if x3 = true then ((zf2 role).bind fun x5 => (if x5 = true then (gd (ok64 (who - 1)) ((getI people (who - 1)).bind fun x8 => (gd (ok64 (role - 1)) (gd ((0 : Int) ≤ (role - 1) ∧ (role - 1) ≤ (63 : Int)) (some (decide ((andI (shrI x8 (role - 1)) 1) = 1))))))) else (some false))) else (some false))) else (some false))
def y3p : Con := ⟨80, [.v (.sl .I) false, .v .I false, .v .I false], [(.B, true)], [], fun x => zs7 x.1 x.2.1 x.2.2.1⟩
def wc4 : Fs := ⟨[zn5, z20, zr8], [], []⟩
theorem wg5 : wc4.Ok Tryz.prog := (fsK y8q (fsK z2q (fsK yq8 fs0)))
theorem wk6 : y3p.Ok Tryz.prog := fn_ok (k := y3p) (fn := Tryz.f80) (W := []) (H := []) Tryz.func80 wg5 trivial rfl rfl (fun av x => by kernel_rfl)
def zs6 (did : List GDid) (who : Int) (task : Int) : Option Bool := (zw2 did (GDid.mk task who)).bind fun x1 => (some x1)
def y3o : Con := ⟨109, [.v (.sl (.s .did)) false, .v .I false, .v .I false], [(.B, true)], [], fun x => zs6 x.1 x.2.1 x.2.2.1⟩
def wc3 : Fs := ⟨[zv9], [], []⟩
theorem wg4 : wc3.Ok Tryz.prog := (fsK w5g fs0)
theorem wk5 : y3o.Ok Tryz.prog := fn_ok (k := y3o) (fn := Tryz.f109) (W := []) (H := []) Tryz.func109 wg4 trivial rfl rfl (fun av x => by kernel_rfl)
def zk5 (l0_1 : List Int) : Option (List Int) := some l0_1
def z3k (p : Int → Option Bool) (p0_0 : Int) (kx0_0 : List Int → Option (List Int)) : Nat → Int → List Int → Option (List Int)
  | 0, _, _ => none
  | n0 + 1, s0_0, l0_1 => if decide (s0_0 < p0_0) = true then (gd (ok64 (s0_0 + 1)) ((p (s0_0 + 1)).bind fun x5 => (if x5 = true then (gd (ok64 (s0_0 + 1)) (gd (l0_1.length + [(s0_0 + 1)].length ≤ SMALL) (gd (ok64 (s0_0 + 1)) ((z3k p p0_0 kx0_0 n0) (s0_0 + 1) (l0_1 ++ [(s0_0 + 1)]))))) else (gd (ok64 (s0_0 + 1)) ((z3k p p0_0 kx0_0 n0) (s0_0 + 1) l0_1))))) else (kx0_0 l0_1)
def y12 (people : List Int) (p : Int → Option Bool) : Option (List Int) := (zc0 people).bind fun x1 => (if x1 = true then (z3k p (people.length : Int) zk5 FUEL 0 ([] : List Int)) else (some []))
def z2s : Con := ⟨105, [.v (.sl .I) false, .fn .I], [((.sl .I), true)], [], fun x => y12 x.1 x.2.1⟩
def w7c : Fs := ⟨[zn5], [], []⟩
theorem yd5 : w7c.Ok Tryz.prog := (fsK y8q fs0)
def y5o : Tmpl := ⟨[(1, .c .fp), (5, .c (.ref 500005)), (11, .c .i), (12, .c .i)], [(500005, .arr .I true)]⟩
def y2u : Tmpl := ⟨[(5, .c (.ref 500005))], [(500005, .arr .I true)]⟩
def w15 (av : AV) (x : HP z2s.ps) (n : Nat) (v : y5o.den) (K : Ks (CR z2s)) : Option (CR z2s) := z3k x.2.1 v.1.2.2.1 (fun l0_1 => y2u.at (fpOf z2s.ps x av) (((), ()), (l0_1, ())) (K (.exit 0))) n v.1.2.2.2.1 v.2.1
def y4s (av : AV) (x : HP z2s.ps) : Hdl (CR z2s) := hnd [.e 5 500005 .I] y5o (w15 av x)
theorem w23 : LP z2s Tryz.f105 [0] y4s := lp_ok (W := []) (H := []) (xs := [y2u]) yd5 trivial rfl (fun av x v K => by kernel_rfl) (fun av x n v K => by kernel_rfl)
theorem w90 : z2s.Ok Tryz.prog := fn_ok (k := z2s) (fn := Tryz.f105) (W := []) (H := [y4s]) Tryz.func105 yd5 ⟨w23, trivial⟩ rfl rfl (fun av x => by kernel_rfl)
def zk3 (b : GItem) (task : GTask) (who : Int) : Option Bool := if decide (b.task = task.apart) = true then (some (decide (b.who = who))) else (some false)
def zk9 : FCon := ⟨108, (.s .item), [(.s .task), .I], fun z c => zk3 z c.1 c.2.1⟩
def yv7 : Fs := ⟨[], [], []⟩
theorem yw4 : yv7.Ok Tryz.prog := fs0
theorem yy9 : zk9.Ok Tryz.prog := FCon.ok (fn_ok (k := zk9.con) (fn := Tryz.f108) (W := []) (H := []) Tryz.func108 yw4 trivial rfl rfl (fun av x => by kernel_rfl))
def z8n (who : Int) (busy : List GItem) (task : GTask) (people : List Int) (did : List GDid) : Option Bool := (z6k busy (fun z => zk3 z task who)).bind fun x1 => ((zs7 people who task.role).bind fun x2 => (if x2 = true then (if x1 = true then (some false) else ((zs6 did who task.apart).bind fun x5 => (some (!x5)))) else (some false)))
def zx1 : FCon := ⟨106, .I, [(.sl (.s .item)), (.s .task), (.sl .I), (.sl (.s .did))], fun z c => z8n z c.1 c.2.1 c.2.2.1 c.2.2.2.1⟩
def w3y : Fs := ⟨[z9i, y3p, y3o], [zk9], []⟩
theorem w4j : w3y.Ok Tryz.prog := (fsK yc9 (fsK wk6 (fsK wk5 (fsF yy9 fs0))))
theorem w5j : zx1.Ok Tryz.prog := FCon.ok (fn_ok (k := zx1.con) (fn := Tryz.f106) (W := []) (H := []) Tryz.func106 w4j trivial rfl rfl (fun av x => by kernel_rfl))
def zs8 (n : GNet) (people : List Int) (did : List GDid) (busy : List GItem) (t : Int) : Option (List Int) := (z8m n).bind fun x1 => (if x1 = true then ((z0n n t).bind fun x3 => (if x3 = true then ((getI n.tasks t).bind fun x5 => ((y12 people (fun z => z8n z busy x5 people did)).bind fun x6 => (some x6))) else (some []))) else (some []))
def y3q : Con := ⟨35, [.v (.s .net) false, .v (.sl .I) false, .v (.sl (.s .did)) false, .v (.sl (.s .item)) false, .v .I false], [((.sl .I), true)], [], fun x => zs8 x.1 x.2.1 x.2.2.1 x.2.2.2.1 x.2.2.2.2.1⟩
def wc5 : Fs := ⟨[zb4, z1o, z2s], [zx1], []⟩
theorem wg6 : wc5.Ok Tryz.prog := (fsK y03 (fsK z4d (fsK w90 (fsF w5j fs0))))
theorem wk7 : y3q.Ok Tryz.prog := fn_ok (k := y3q) (fn := Tryz.f35) (W := []) (H := []) Tryz.func35 wg6 trivial rfl rfl (fun av x => by kernel_rfl)
def z1x (n : GNet) (data : List Int) : Option GCase := (z8m n).bind fun x1 => (if x1 = true then ((z3b data).bind fun x3 => (if x3 = true then (gd ((0 : Int) ≤ n.places ∧ n.places ≤ (1000000000 : Int)) ((z0l data).bind fun x6 => ((getI (List.replicate n.places.toNat (0 : Int)) 0).bind fun x7 => (some (GCase.mk 1 ((List.replicate n.places.toNat (0 : Int)).set (0 : Int).toNat 1) [] x6 []))))) else (some (GCase.mk 0 [] [] [] [])))) else (some (GCase.mk 0 [] [] [] [])))
def zr6 : Con := ⟨65, [.v (.s .net) false, .v (.sl .I) false], [((.s .kase), true)], [], fun x => z1x x.1 x.2.1⟩
def wc1 : Fs := ⟨[zb4, z55, z1s], [], []⟩
theorem wg2 : wc1.Ok Tryz.prog := (fsK y03 (fsK z7b (fsK z3g fs0)))
theorem yq3 : zr6.Ok Tryz.prog := fn_ok (k := zr6) (fn := Tryz.f65) (W := []) (H := []) Tryz.func65 wg2 trivial rfl rfl (fun av x => by kernel_rfl)
def ze7 (c : GCase) : Option Bool := if decide (c.state = 1) = true then ((getI c.marks 1).bind fun x16 => (some (decide (x16 = 0)))) else (if decide (c.state = 2) = true then (if decide ((c.busy.length : Int) = 0) = true then ((getI c.marks 1).bind fun x19 => (some ((decide (c.state = 2)) == (decide (0 < x19))))) else (some false)) else (if decide (c.state = 3) = true then (if decide ((c.busy.length : Int) = 0) = true then ((getI c.marks 1).bind fun x22 => (some ((decide (c.state = 2)) == (decide (0 < x22))))) else (some false)) else (some false)))
def z6q (n : GNet) (p0_0 : List GDid) (p0_1 : Int) (kx0_0 : Option Bool) : Nat → Int → Option Bool
  | 0, _ => none
  | n0 + 1, s0_0 => if decide (s0_0 < p0_1) = true then ((getI p0_0 s0_0).bind fun x9 => ((z0n n x9.task).bind fun x10 => (if x10 = true then ((z8p x9.who).bind fun x12 => (if x12 = true then (gd (ok64 (s0_0 + 1)) ((z6q n p0_0 p0_1 kx0_0 n0) (s0_0 + 1))) else (some false))) else (some false)))) else (kx0_0)
def zn6 (n : GNet) (c : GCase) : Option Bool := (zb9 n c.marks).bind fun x1 => (if x1 = true then ((z4s n c.busy).bind fun x3 => (if x3 = true then ((z3b c.data).bind fun x5 => (if x5 = true then (if decide (60 < (c.did.length : Int)) = true then (some false) else (z6q n c.did (c.did.length : Int) (ze7 c) FUEL 0)) else (some false))) else (some false))) else (some false))
def z54 : Con := ⟨30, [.v (.s .net) false, .v (.s .kase) false], [(.B, true)], [], fun x => zn6 x.1 x.2.1⟩
def wr0 : Fs := ⟨[zn4, z0r, z55, z1o, ze3], [], []⟩
theorem w02 : wr0.Ok Tryz.prog := (fsK y8n (fsK zq3 (fsK z7b (fsK z4d (fsK y8s fs0)))))
def yg9 : Tmpl := ⟨[(2, .c (.bx 2 0)), (3, .c (.bx 3 0)), (32, .c (.s (.s .did))), (33, .c .i), (34, .c .i)], [(2, .boxT (.s .net)), (3, .boxT (.s .kase))]⟩
def y9m : Tmpl := ⟨[(3, .c (.bx 3 0))], [(3, .boxT (.s .kase))]⟩
def w6l (av : AV) (x : HP z54.ps) (n : Nat) (v : yg9.den) (K : Ks (CR z54)) : Option (CR z54) := z6q v.2.1 v.1.2.2.1 v.1.2.2.2.1 (y9m.at none (((), ()), (v.2.2.1, ())) (K (.exit 0))) n v.1.2.2.2.2.1
def ye4 (av : AV) (x : HP z54.ps) : Hdl (CR z54) := hnd [] yg9 (w6l av x)
theorem w8a : LP z54 Tryz.f30 [0] ye4 := lp_ok (W := []) (H := []) (xs := [y9m]) w02 trivial rfl (fun av x v K => by kernel_rfl) (fun av x n v K => by kernel_rfl)
theorem w0o : z54.Ok Tryz.prog := fn_ok (k := z54) (fn := Tryz.f30) (W := []) (H := [ye4]) Tryz.func30 w02 ⟨w8a, trivial⟩ rfl rfl (fun av x => by kernel_rfl)
def z83 (n : GNet) (c : GCase) : Option Bool := (zn6 n c).bind fun x1 => (if x1 = true then (some (decide (c.state = 1))) else (some false))
def z9q : Con := ⟨85, [.v (.s .net) false, .v (.s .kase) false], [(.B, true)], [], fun x => z83 x.1 x.2.1⟩
def w7d : Fs := ⟨[z54], [], []⟩
theorem w81 : w7d.Ok Tryz.prog := (fsK w0o fs0)
theorem y14 : z9q.Ok Tryz.prog := fn_ok (k := z9q) (fn := Tryz.f85) (W := []) (H := []) Tryz.func85 w81 trivial rfl rfl (fun av x => by kernel_rfl)
def ze8 (n : GNet) (people : List Int) (c : GCase) (t : Int) (who : Int) : Option (GCase × Bool) := (z08 c).bind fun x1 => ((z83 n c).bind fun x2 => (if x2 = true then (if decide ((c.busy.length : Int) = 6) = true then (some (x1, false)) else ((zs5 n c.marks c.busy t).bind fun x5 => (if x5 = true then ((zs8 n people c.did c.busy t).bind fun x7 => ((zb6 x7 who).bind fun x8 => (if x8 = true then ((z89 n c.marks t).bind fun x10 => (gd (x1.busy.length + [(GItem.mk t who 0)].length ≤ SMALL) ((z08 (GCase.mk x1.state x10 (x1.busy ++ [(GItem.mk t who 0)]) x1.data x1.did)).bind fun x12 => (some (x12, true))))) else (some (x1, false))))) else (some (x1, false))))) else (some (x1, false))))
def zw0 : Con := ⟨27, [.v (.s .net) false, .v (.sl .I) false, .v (.s .kase) false, .v .I false, .v .I false], [((.s .kase), true), (.B, true)], [], fun x => ze8 x.1 x.2.1 x.2.2.1 x.2.2.2.1 x.2.2.2.2.1⟩
def w3v : Fs := ⟨[z33, z9q, y3n, y3q, zn2, z1g], [], []⟩
theorem w4g : w3v.Ok Tryz.prog := (fsK z6o (fsK y14 (fsK wk4 (fsK wk7 (fsK y8k (fsK yq6 fs0))))))
theorem w5h : zw0.Ok Tryz.prog := fn_ok (k := zw0) (fn := Tryz.f27) (W := []) (H := []) Tryz.func27 w4g trivial rfl rfl (fun av x => by kernel_rfl)
end
end Go.Am
