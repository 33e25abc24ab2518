/- Mirrors and contracts, printed. Own work. -/
import Derived.Test.YtgolgnbgomhknaaGreatOrD1
set_option maxRecDepth 100000
set_option maxHeartbeats 4000000
set_option linter.unusedVariables false
set_option linter.unusedSimpArgs false
namespace Go.Am
noncomputable section
open Go Go.Proofs
def z03 (n : Int) (low : Int) (high : Int) : Option Bool := if decide (low ≤ n) = true then (some (decide (n ≤ high))) else (some false)
def z0o : Con := ⟨90, [.v .I false, .v .I false, .v .I false], [(.B, true)], [], fun x => z03 x.1 x.2.1 x.2.2.1⟩
def v19 : Fs := ⟨[], [], []⟩
theorem v1d : v19.Ok Tryz.prog := fs0
theorem z0w : z0o.Ok Tryz.prog := fn_ok (k := z0o) (fn := Tryz.f90) (W := []) (H := []) Tryz.func90 v1d trivial rfl rfl (fun av x => by kernel_rfl)
def y87  : Option Bool := some true
def z6y (data : List Int) (kx0_0 : Option Bool) : Nat → Int → Option Bool
  | 0, _ => none
  | n0 + 1, s0_0 => if decide (s0_0 < (data.length : Int)) = true then ((getI data s0_0).bind fun x3 => ((z03 x3 (-99) 99).bind fun x4 => (if x4 = true then (gd (ok64 (s0_0 + 1)) ((z6y data kx0_0 n0) (s0_0 + 1))) else (some false)))) else (kx0_0)
def z2p (data : List Int) : Option Bool := if decide ((data.length : Int) = 3) = true then (z6y data y87 FUEL 0) else (some false)
def z19 : Con := ⟨89, [.v (.sl .I) false], [(.B, true)], [], fun x => z2p x.1⟩
def ws8 : Fs := ⟨[z0o], [], []⟩
theorem w09 : ws8.Ok Tryz.prog := (fsK z0w fs0)
def yh8 : Tmpl := ⟨[(0, .c (.s .I)), (3, .c .i)], []⟩
def y9t : Tmpl := ⟨[], []⟩
def w6u (av : AV) (x : HP z19.ps) (n : Nat) (v : yh8.den) (K : Ks (CR z19)) : Option (CR z19) := z6y v.1.1 (y9t.at none ((), ()) (K (.exit 0))) n v.1.2.1
def yf3 (av : AV) (x : HP z19.ps) : Hdl (CR z19) := hnd [] yh8 (w6u av x)
theorem w8j : LP z19 Tryz.f89 [0] yf3 := lp_ok (W := []) (H := []) (xs := [y9t]) w09 trivial rfl (fun av x v K => by kernel_rfl) (fun av x n v K => by kernel_rfl)
theorem z6f : z19.Ok Tryz.prog := fn_ok (k := z19) (fn := Tryz.f89) (W := []) (H := [yf3]) Tryz.func89 w09 ⟨w8j, trivial⟩ rfl rfl (fun av x => by kernel_rfl)
def z7i (data : List Int) (k : Int) (n : Int) : Option (List Int) := (z2p data).bind fun x1 => (if x1 = true then ((z03 k 0 2).bind fun x3 => (if x3 = true then ((z03 n (-99) 99).bind fun x5 => (if x5 = true then (gd (([] : List Int).length + data.length ≤ SMALL) ((getI (([] : List Int) ++ data) k).bind fun x8 => (some ((([] : List Int) ++ data).set k.toNat n)))) else (gd (([] : List Int).length + data.length ≤ SMALL) (some (([] : List Int) ++ data))))) else (gd (([] : List Int).length + data.length ≤ SMALL) (some (([] : List Int) ++ data))))) else (gd (([] : List Int).length + data.length ≤ SMALL) (some (([] : List Int) ++ data))))
def zr7 : Con := ⟨171, [.v (.sl .I) false, .v .I false, .v .I false], [((.sl .I), true)], [], fun x => z7i x.1 x.2.1 x.2.2.1⟩
def wd8 : Fs := ⟨[z19, z0o], [], []⟩
theorem wh4 : wd8.Ok Tryz.prog := (fsK z6f (fsK z0w fs0))
theorem yr0 : zr7.Ok Tryz.prog := fn_ok (k := zr7) (fn := Tryz.f171) (W := []) (H := []) Tryz.func171 wh4 trivial rfl rfl (fun av x => by kernel_rfl)
def z6a (e : GAsk) : Option Bool := if decide (e.op = 0) = true then (some (decide ([e.op, e.var, e.k] = [0, 0, 0]))) else ((z03 e.op 1 3).bind fun x2 => (if x2 = true then ((z03 e.var 0 2).bind fun x4 => (if x4 = true then ((z03 e.k (-99) 99).bind fun x6 => (some x6)) else (some false))) else (some false)))
def z8h : Con := ⟨138, [.v (.s .ask) false], [(.B, true)], [], fun x => z6a x.1⟩
def wt1 : Fs := ⟨[z0o], [], []⟩
theorem wv1 : wt1.Ok Tryz.prog := (fsK z0w fs0)
theorem zn9 : z8h.Ok Tryz.prog := fn_ok (k := z8h) (fn := Tryz.f138) (W := []) (H := []) Tryz.func138 wv1 trivial rfl rfl (fun av x => by kernel_rfl)
def z1d (e : GAsk) (data : List Int) : Option Bool := (z6a e).bind fun x1 => (if x1 = true then ((z2p data).bind fun x3 => (if x3 = true then (if decide (e.op = 1) = true then ((getI data e.var).bind fun x6 => (some (decide (x6 < e.k)))) else (if decide (e.op = 2) = true then ((getI data e.var).bind fun x8 => (some (decide (x8 = e.k)))) else (if decide (e.op = 3) = true then ((getI data e.var).bind fun x10 => (some (decide (e.k < x10)))) else (some true)))) else (some false))) else (some false))
def z4a : Con := ⟨181, [.v (.s .ask) false, .v (.sl .I) false], [(.B, true)], [], fun x => z1d x.1 x.2.1⟩
def w46 : Fs := ⟨[z8h, z19], [], []⟩
theorem w4q : w46.Ok Tryz.prog := (fsK zn9 (fsK z6f fs0))
theorem z76 : z4a.Ok Tryz.prog := fn_ok (k := z4a) (fn := Tryz.f181) (W := []) (H := []) Tryz.func181 w4q trivial rfl rfl (fun av x => by kernel_rfl)
def z0d (n : Int) (low : Int) (high : Int) : Option Bool := if decide (low ≤ n) = true then (some (decide (n ≤ high))) else (some false)
def z22 : Con := ⟨113, [.v .I false, .v .I false, .v .I false], [(.B, true)], [], fun x => z0d x.1 x.2.1 x.2.2.1⟩
def v5t : Fs := ⟨[], [], []⟩
theorem v64 : v5t.Ok Tryz.prog := fs0
theorem z2r : z22.Ok Tryz.prog := fn_ok (k := z22) (fn := Tryz.f113) (W := []) (H := []) Tryz.func113 v64 trivial rfl rfl (fun av x => by kernel_rfl)
def z57 (n : Int) : Option Bool := (z0d n (-99) 99).bind fun x1 => (some x1)
def z7y : Con := ⟨114, [.v .I false], [(.B, true)], [], fun x => z57 x.1⟩
def w7c : Fs := ⟨[z22], [], []⟩
theorem w81 : w7c.Ok Tryz.prog := (fsK z2r fs0)
theorem zm5 : z7y.Ok Tryz.prog := fn_ok (k := z7y) (fn := Tryz.f114) (W := []) (H := []) Tryz.func114 w81 trivial rfl rfl (fun av x => by kernel_rfl)
def z0n (list : List Int) : Option (List Int) := gd (([] : List Int).length + list.length ≤ SMALL) (some (([] : List Int) ++ list))
def z1v : Con := ⟨140, [.v (.sl .I) false], [((.sl .I), true)], [], fun x => z0n x.1⟩
def w1n : Fs := ⟨[], [], []⟩
theorem w1u : w1n.Ok Tryz.prog := fs0
theorem z3g : z1v.Ok Tryz.prog := fn_ok (k := z1v) (fn := Tryz.f140) (W := []) (H := []) Tryz.func140 w1u trivial rfl rfl (fun av x => by kernel_rfl)
def z77 (e : GAsk) : Option Bool := if decide (e.op = 0) = true then (if decide (e.var = 0) = true then (some (decide (e.k = 0))) else (some false)) else ((z0d e.op 1 3).bind fun x3 => (if x3 = true then ((z0d e.var 0 2).bind fun x5 => (if x5 = true then ((z57 e.k).bind fun x7 => (some x7)) else (some false))) else (some false)))
def zn2 : Con := ⟨141, [.v (.s .ask) false], [(.B, true)], [], fun x => z77 x.1⟩
def wr9 : Fs := ⟨[z22, z7y], [], []⟩
theorem wu6 : wr9.Ok Tryz.prog := (fsK z2r (fsK zm5 fs0))
theorem y8l : zn2.Ok Tryz.prog := fn_ok (k := zn2) (fn := Tryz.f141) (W := []) (H := []) Tryz.func141 wu6 trivial rfl rfl (fun av x => by kernel_rfl)
def y24  : Option Bool := some true
def z3s (list : List Int) (low : Int) (high : Int) (kx0_0 : Option Bool) : Nat → Int → Option Bool
  | 0, _ => none
  | n0 + 1, s0_0 => if decide (s0_0 < (list.length : Int)) = true then ((getI list s0_0).bind fun x4 => ((z03 x4 low high).bind fun x5 => (if x5 = true then (if decide (0 < s0_0) = true then (gd (ok64 (s0_0 - 1)) ((getI list (s0_0 - 1)).bind fun x9 => ((getI list s0_0).bind fun x10 => (if decide (x10 ≤ x9) = true then (some false) else (gd (ok64 (s0_0 + 1)) ((z3s list low high kx0_0 n0) (s0_0 + 1))))))) else (gd (ok64 (s0_0 + 1)) ((z3s list low high kx0_0 n0) (s0_0 + 1)))) else (some false)))) else (kx0_0)
def z9s (list : List Int) (least : Int) (most : Int) (low : Int) (high : Int) : Option Bool := (z03 (list.length : Int) least most).bind fun x1 => (if x1 = true then (z3s list low high y24 FUEL 0) else (some false))
def z44 : Con := ⟨214, [.v (.sl .I) false, .v .I false, .v .I false, .v .I false, .v .I false], [(.B, true)], [], fun x => z9s x.1 x.2.1 x.2.2.1 x.2.2.2.1 x.2.2.2.2.1⟩
def w7u : Fs := ⟨[z0o], [], []⟩
theorem ye3 : w7u.Ok Tryz.prog := (fsK z0w fs0)
def y5z : Tmpl := ⟨[(0, .c (.s .I)), (3, .c .i), (4, .c .i), (11, .c .i)], []⟩
def y32 : Tmpl := ⟨[], []⟩
def w1j (av : AV) (x : HP z44.ps) (n : Nat) (v : y5z.den) (K : Ks (CR z44)) : Option (CR z44) := z3s v.1.1 v.1.2.1 v.1.2.2.1 (y32.at none ((), ()) (K (.exit 0))) n v.1.2.2.2.1
def y53 (av : AV) (x : HP z44.ps) : Hdl (CR z44) := hnd [] y5z (w1j av x)
theorem w2h : LP z44 Tryz.f214 [0] y53 := lp_ok (W := []) (H := []) (xs := [y32]) ye3 trivial rfl (fun av x v K => by kernel_rfl) (fun av x n v K => by kernel_rfl)
theorem w9e : z44.Ok Tryz.prog := fn_ok (k := z44) (fn := Tryz.f214) (W := []) (H := [y53]) Tryz.func214 ye3 ⟨w2h, trivial⟩ rfl rfl (fun av x => by kernel_rfl)
def y8h  : Option Bool := some false
def z74 (list : List Int) (n : Int) (kx0_0 : Option Bool) : Nat → Int → Option Bool
  | 0, _ => none
  | n0 + 1, s0_0 => if decide (s0_0 < (list.length : Int)) = true then ((getI list s0_0).bind fun x2 => (if decide (x2 = n) = true then (some true) else (gd (ok64 (s0_0 + 1)) ((z74 list n kx0_0 n0) (s0_0 + 1))))) else (kx0_0)
def zb8 (list : List Int) (n : Int) : Option Bool := z74 list n y8h FUEL 0
def z4b : Con := ⟨101, [.v (.sl .I) false, .v .I false], [(.B, true)], [], fun x => zb8 x.1 x.2.1⟩
def wt7 : Fs := ⟨[], [], []⟩
theorem w0f : wt7.Ok Tryz.prog := fs0
def yi5 : Tmpl := ⟨[(0, .c (.s .I)), (1, .c .i), (5, .c .i)], []⟩
def y9z : Tmpl := ⟨[], []⟩
def w71 (av : AV) (x : HP z4b.ps) (n : Nat) (v : yi5.den) (K : Ks (CR z4b)) : Option (CR z4b) := z74 v.1.1 v.1.2.1 (y9z.at none ((), ()) (K (.exit 0))) n v.1.2.2.1
def yg0 (av : AV) (x : HP z4b.ps) : Hdl (CR z4b) := hnd [] yi5 (w71 av x)
theorem w8q : LP z4b Tryz.f101 [0] yg0 := lp_ok (W := []) (H := []) (xs := [y9z]) w0f trivial rfl (fun av x v K => by kernel_rfl) (fun av x n v K => by kernel_rfl)
theorem y8w : z4b.Ok Tryz.prog := fn_ok (k := z4b) (fn := Tryz.f101) (W := []) (H := [yg0]) Tryz.func101 w0f ⟨w8q, trivial⟩ rfl rfl (fun av x => by kernel_rfl)
def y21 (s0_0 : Int) (bk0 : Int → Option Bool) : Option Bool := gd (ok64 (s0_0 + 1)) (bk0 (s0_0 + 1))
def z2q (t : GTask) (s0_0 : Int) (x4 : GFlow) (kx1_0 : Option Bool) : Nat → Int → Option Bool
  | 0, _ => none
  | n1 + 1, s1_0 => if decide (s1_0 < s0_0) = true then ((getI t.out s1_0).bind fun x14 => (if decide (x14.to = x4.to) = true then (some false) else (gd (ok64 (s1_0 + 1)) ((z2q t s0_0 x4 kx1_0 n1) (s1_0 + 1))))) else (kx1_0)
def y22 (s0_0 : Int) (bk0 : Int → Option Bool) : Option Bool := gd (ok64 (s0_0 + 1)) (bk0 (s0_0 + 1))
def y23  : Option Bool := some true
def z3r (t : GTask) (places : Int) (kx0_0 : Option Bool) : Nat → Int → Option Bool
  | 0, _ => none
  | n0 + 1, s0_0 => if decide (s0_0 < (t.out.length : Int)) = true then ((getI t.out s0_0).bind fun x4 => (gd (ok64 ((t.out.length : Int) - 1)) (if decide (s0_0 = ((t.out.length : Int) - 1)) = true then (gd (ok64 (places - 1)) ((z03 x4.to 1 (places - 1)).bind fun x8 => (if x8 = true then ((z6a x4.if_).bind fun x10 => (if x10 = true then (if (true == (decide (x4.if_.op = 0))) = true then (z2q t s0_0 x4 (y21 s0_0 (z3r t places kx0_0 n0)) FUEL 0) else (some false)) else (some false))) else (some false)))) else (gd (ok64 (places - 1)) ((z03 x4.to 1 (places - 1)).bind fun x19 => (if x19 = true then ((z6a x4.if_).bind fun x21 => (if x21 = true then (if ((decide (t.split = 1)) == (decide (x4.if_.op = 0))) = true then (z2q t s0_0 x4 (y22 s0_0 (z3r t places kx0_0 n0)) FUEL 0) else (some false)) else (some false))) else (some false))))))) else (kx0_0)
def zm4 (t : GTask) (places : Int) : Option Bool := (z03 (t.out.length : Int) 1 3).bind fun x1 => (if x1 = true then (z3r t places y23 FUEL 0) else (some false))
def z10 : Con := ⟨215, [.v (.s .task) false, .v .I false], [(.B, true)], [], fun x => zm4 x.1 x.2.1⟩
def w7t : Fs := ⟨[z0o, z8h], [], []⟩
theorem y0n : w7t.Ok Tryz.prog := (fsK z0w (fsK zn9 fs0))
def y06 : Tmpl := ⟨[(1, .c .i), (2, .c (.bx 2 0)), (5, .c .i), (6, .c (.bx 6 0)), (8, .c .i)], [(2, .boxT (.s .task)), (6, .boxT (.s .flow))]⟩
def zx7 : Tmpl := ⟨[(1, .c .i), (2, .c (.bx 2 0)), (5, .c .i)], [(2, .boxT (.s .task))]⟩
def ym1 (av : AV) (x : HP z10.ps) (n : Nat) (v : y06.den) (K : Ks (CR z10)) : Option (CR z10) := z2q v.2.1 v.1.2.2.1 v.2.2.1 (zx7.at none ((v.1.1, (), v.1.2.2.1, ()), (v.2.1, ())) (K (.exit 2))) n v.1.2.2.2.2.1
def zy4 (av : AV) (x : HP z10.ps) : Hdl (CR z10) := hnd [] y06 (ym1 av x)
theorem yp8 : LP z10 Tryz.f215 [0, 0] zy4 := lp_ok (W := []) (H := []) (xs := [zx7]) y0n trivial rfl (fun av x v K => by kernel_rfl) (fun av x n v K => by kernel_rfl)
def y5y : Tmpl := ⟨[(1, .c .i), (2, .c (.bx 2 0)), (5, .c .i)], [(2, .boxT (.s .task))]⟩
def y31 : Tmpl := ⟨[], []⟩
def w1i (av : AV) (x : HP z10.ps) (n : Nat) (v : y5y.den) (K : Ks (CR z10)) : Option (CR z10) := z3r v.2.1 v.1.1 (y31.at none ((), ()) (K (.exit 0))) n v.1.2.2.1
def y52 (av : AV) (x : HP z10.ps) : Hdl (CR z10) := hnd [] y5y (w1i av x)
theorem w2g : LP z10 Tryz.f215 [0] y52 := lp_ok (W := []) (H := [zy4]) (xs := [y31]) y0n ⟨yp8, trivial⟩ rfl (fun av x v K => by kernel_rfl) (fun av x n v K => by kernel_rfl)
theorem w9d : z10.Ok Tryz.prog := fn_ok (k := z10) (fn := Tryz.f215) (W := []) (H := [y52]) Tryz.func215 y0n ⟨w2g, trivial⟩ rfl rfl (fun av x => by kernel_rfl)
def zt7 (t : GTask) (places : Int) (tasks : Int) : Option Bool := (z03 t.join 1 3).bind fun x1 => (if x1 = true then ((z03 t.split 1 3).bind fun x3 => (if x3 = true then (gd (ok64 (places - 1)) ((z9s t.in_ 1 3 0 (places - 1)).bind fun x6 => (if x6 = true then ((zb8 t.in_ 1).bind fun x8 => (if x8 = true then (some false) else ((zm4 t places).bind fun x10 => (if x10 = true then (gd (ok64 (places - 1)) ((z9s t.clear 0 places 2 (places - 1)).bind fun x13 => (if x13 = true then ((z03 t.role 1 3).bind fun x15 => (if x15 = true then (gd (ok64 (tasks - 1)) ((z03 t.apart (-1) (tasks - 1)).bind fun x18 => (if x18 = true then ((z03 t.all 1 3).bind fun x20 => (if x20 = true then ((z03 t.need 1 t.all).bind fun x22 => (some x22)) else (some false))) else (some false)))) else (some false))) else (some false)))) else (some false))))) else (some false)))) else (some false))) else (some false))
def y3t : Con := ⟨198, [.v (.s .task) false, .v .I false, .v .I false], [(.B, true)], [], fun x => zt7 x.1 x.2.1 x.2.2.1⟩
def wf0 : Fs := ⟨[z0o, z44, z4b, z10], [], []⟩
theorem wi1 : wf0.Ok Tryz.prog := (fsK z0w (fsK w9e (fsK y8w (fsK w9d fs0))))
theorem wm3 : y3t.Ok Tryz.prog := fn_ok (k := y3t) (fn := Tryz.f198) (W := []) (H := []) Tryz.func198 wi1 trivial rfl rfl (fun av x => by kernel_rfl)
def y8a  : Option Bool := some true
def z71 (n : GNet) (kx0_0 : Option Bool) : Nat → Int → Option Bool
  | 0, _ => none
  | n0 + 1, s0_0 => if decide (s0_0 < (n.tasks.length : Int)) = true then ((getI n.tasks s0_0).bind fun x6 => ((zt7 x6 n.places (n.tasks.length : Int)).bind fun x7 => (if x7 = true then (gd (ok64 (s0_0 + 1)) ((z71 n kx0_0 n0) (s0_0 + 1))) else (some false)))) else (kx0_0)
def z3d (n : GNet) : Option Bool := (z03 n.places 2 8).bind fun x1 => (if x1 = true then ((z03 (n.tasks.length : Int) 1 6).bind fun x3 => (if x3 = true then (z71 n y8a FUEL 0) else (some false))) else (some false))
def z2n : Con := ⟨161, [.v (.s .net) false], [(.B, true)], [], fun x => z3d x.1⟩
def wt3 : Fs := ⟨[z0o, y3t], [], []⟩
theorem w0c : wt3.Ok Tryz.prog := (fsK z0w (fsK wm3 fs0))
def yi1 : Tmpl := ⟨[(1, .c (.bx 1 0)), (3, .c .i)], [(1, .boxT (.s .net))]⟩
def y9w : Tmpl := ⟨[], []⟩
def w6x (av : AV) (x : HP z2n.ps) (n : Nat) (v : yi1.den) (K : Ks (CR z2n)) : Option (CR z2n) := z71 v.2.1 (y9w.at none ((), ()) (K (.exit 0))) n v.1.2.1
def yf6 (av : AV) (x : HP z2n.ps) : Hdl (CR z2n) := hnd [] yi1 (w6x av x)
theorem w8m : LP z2n Tryz.f161 [0] yf6 := lp_ok (W := []) (H := []) (xs := [y9w]) w0c trivial rfl (fun av x v K => by kernel_rfl) (fun av x n v K => by kernel_rfl)
theorem zo0 : z2n.Ok Tryz.prog := fn_ok (k := z2n) (fn := Tryz.f161) (W := []) (H := [yf6]) Tryz.func161 w0c ⟨w8m, trivial⟩ rfl rfl (fun av x => by kernel_rfl)
def zg4 (s1_0 : Int) (bk1 : Int → List Bool → Option (List Bool)) (l3_1 : List Bool) : Option (List Bool) := gd (ok64 (s1_0 + 1)) (bk1 (s1_0 + 1) l3_1)
def zg5 (s1_0 : Int) (bk1 : Int → List Bool → Option (List Bool)) (l3_1 : List Bool) : Option (List Bool) := gd (ok64 (s1_0 + 1)) (bk1 (s1_0 + 1) l3_1)
def zg6 (s1_0 : Int) (bk1 : Int → List Bool → Option (List Bool)) (l3_1 : List Bool) : Option (List Bool) := gd (ok64 (s1_0 + 1)) (bk1 (s1_0 + 1) l3_1)
def z1l (n : GNet) (but : Int) (s1_0 : Int) (s2_0 : Bool) (kx3_0 : List Bool → Option (List Bool)) (kx3_1 : List Bool → Option (List Bool)) (kx3_2 : List Bool → Option (List Bool)) : Nat → Int → List Bool → Option (List Bool)
  | 0, _, _ => none
  | n3 + 1, s3_0, l3_1 => (getI n.tasks s1_0).bind fun x12 => (if decide (s3_0 < (x12.out.length : Int)) = true then (if s2_0 = true then (if decide (s1_0 = but) = true then (kx3_0 l3_1) else ((getI n.tasks s1_0).bind fun x17 => ((getI x17.out s3_0).bind fun x18 => ((getI l3_1 x18.to).bind fun x19 => (gd (ok64 (s3_0 + 1)) ((z1l n but s1_0 s2_0 kx3_0 kx3_1 kx3_2 n3) (s3_0 + 1) (l3_1.set x18.to.toNat true))))))) else (kx3_1 l3_1)) else (kx3_2 l3_1))
def zz6 (n : GNet) (but : Int) (s1_0 : Int) (l1_1 : List Bool) (bk1 : Int → List Bool → Option (List Bool)) (s2_0 : Bool) : Option (List Bool) := z1l n but s1_0 s2_0 (zg4 s1_0 bk1) (zg5 s1_0 bk1) (zg6 s1_0 bk1) FUEL 0 l1_1
def z25 (n : GNet) (s1_0 : Int) (l1_1 : List Bool) (kx2_0 : Bool → Option (List Bool)) : Nat → Bool → Int → Option (List Bool)
  | 0, _, _ => none
  | n2 + 1, s2_0, s2_1 => (getI n.tasks s1_0).bind fun x4 => (if decide (s2_1 < (x4.in_.length : Int)) = true then (if s2_0 = true then (gd (ok64 (s2_1 + 1)) ((z25 n s1_0 l1_1 kx2_0 n2) true (s2_1 + 1))) else ((getI n.tasks s1_0).bind fun x8 => ((getI x8.in_ s2_1).bind fun x9 => ((getI l1_1 x9).bind fun x10 => (gd (ok64 (s2_1 + 1)) ((z25 n s1_0 l1_1 kx2_0 n2) x10 (s2_1 + 1))))))) else (kx2_0 s2_0))
def zz7 (s0_0 : Int) (bk0 : Int → List Bool → Option (List Bool)) (l1_1 : List Bool) : Option (List Bool) := gd (ok64 (s0_0 + 1)) (bk0 (s0_0 + 1) l1_1)
def z0l (n : GNet) (but : Int) (kx1_0 : List Bool → Option (List Bool)) : Nat → Int → List Bool → Option (List Bool)
  | 0, _, _ => none
  | n1 + 1, s1_0, l1_1 => if decide (s1_0 < (n.tasks.length : Int)) = true then (z25 n s1_0 l1_1 (zz6 n but s1_0 l1_1 (z0l n but kx1_0 n1)) FUEL false 0) else (kx1_0 l1_1)
def zz8 (l0_1 : List Bool) : Option (List Bool) := some l0_1
def z4l (n : GNet) (but : Int) (kx0_0 : List Bool → Option (List Bool)) : Nat → Int → List Bool → Option (List Bool)
  | 0, _, _ => none
  | n0 + 1, s0_0, l0_1 => if decide (s0_0 < n.places) = true then (z0l n but (zz7 s0_0 (z4l n but kx0_0 n0)) FUEL 0 l0_1) else (kx0_0 l0_1)
def zg3 (n : GNet) (marked : List Bool) (but : Int) : Option (List Bool) := gd (([] : List Bool).length + marked.length ≤ SMALL) (z4l n but zz8 FUEL 0 (([] : List Bool) ++ marked))
def z06 : Con := ⟨216, [.v (.s .net) false, .v (.sl .B) false, .v .I false], [((.sl .B), true)], [], fun x => zg3 x.1 x.2.1 x.2.2.1⟩
def w4b : Fs := ⟨[], [], []⟩
theorem z8c : w4b.Ok Tryz.prog := fs0
def zo4 : Tmpl := ⟨[(2, .c .i), (3, .c (.bx 3 0)), (7, .c (.ref 15)), (8, .c .i), (9, .c .i), (10, .c .b), (11, .c .i)], [(3, .boxT (.s .net)), (15, .arr .B true)]⟩
def zj6 : Tmpl := ⟨[(2, .c .i), (3, .c (.bx 3 0)), (7, .c (.ref 15)), (8, .c .i), (9, .c .i), (10, .c .b)], [(3, .boxT (.s .net)), (15, .arr .B true)]⟩
def y6o (av : AV) (x : HP z06.ps) (n : Nat) (v : zo4.den) (K : Ks (CR z06)) : Option (CR z06) := z25 v.2.1 v.1.2.2.2.2.1 v.2.2.1 (fun s2_0 => zj6.at none ((v.1.1, (), (), v.1.2.2.2.1, v.1.2.2.2.2.1, s2_0, ()), (v.2.1, v.2.2.1, ())) (K (.exit 4))) n v.1.2.2.2.2.2.1 v.1.2.2.2.2.2.2.1
def zm9 (av : AV) (x : HP z06.ps) : Hdl (CR z06) := hnd [] zo4 (y6o av x)
theorem y7y : LP z06 Tryz.f216 [0, 0, 0] zm9 := lp_ok (W := []) (H := []) (xs := [zj6]) z8c trivial rfl (fun av x v K => by kernel_rfl) (fun av x n v K => by kernel_rfl)
def zo5 : Tmpl := ⟨[(2, .c .i), (3, .c (.bx 3 0)), (7, .c (.ref 15)), (8, .c .i), (9, .c .i), (10, .c .b), (12, .c .i)], [(3, .boxT (.s .net)), (15, .arr .B true)]⟩
def z5j : Tmpl := ⟨[(2, .c .i), (3, .c (.bx 3 0)), (7, .c (.ref 15)), (8, .c .i), (9, .c .i)], [(3, .boxT (.s .net)), (15, .arr .B true)]⟩
def y6p (av : AV) (x : HP z06.ps) (n : Nat) (v : zo5.den) (K : Ks (CR z06)) : Option (CR z06) := z1l v.2.1 v.1.1 v.1.2.2.2.2.1 v.1.2.2.2.2.2.1 (fun l3_1 => z5j.at none ((v.1.1, (), (), v.1.2.2.2.1, v.1.2.2.2.2.1, ()), (v.2.1, l3_1, ())) (K (.exit 6))) (fun l3_1 => z5j.at none ((v.1.1, (), (), v.1.2.2.2.1, v.1.2.2.2.2.1, ()), (v.2.1, l3_1, ())) (K (.exit 6))) (fun l3_1 => z5j.at none ((v.1.1, (), (), v.1.2.2.2.1, v.1.2.2.2.2.1, ()), (v.2.1, l3_1, ())) (K (.exit 6))) n v.1.2.2.2.2.2.2.1 v.2.2.1
def zn0 (av : AV) (x : HP z06.ps) : Hdl (CR z06) := hnd [] zo5 (y6p av x)
theorem y7z : LP z06 Tryz.f216 [0, 0, 1] zn0 := lp_ok (W := []) (H := []) (xs := [z5j]) z8c trivial rfl (fun av x v K => by kernel_rfl) (fun av x n v K => by kernel_rfl)
def zx4 : Tmpl := ⟨[(2, .c .i), (3, .c (.bx 3 0)), (7, .c (.ref 15)), (8, .c .i), (9, .c .i)], [(3, .boxT (.s .net)), (15, .arr .B true)]⟩
def zq9 : Tmpl := ⟨[(2, .c .i), (3, .c (.bx 3 0)), (7, .c (.ref 15)), (8, .c .i)], [(3, .boxT (.s .net)), (15, .arr .B true)]⟩
def yj0 (av : AV) (x : HP z06.ps) (n : Nat) (v : zx4.den) (K : Ks (CR z06)) : Option (CR z06) := z0l v.2.1 v.1.1 (fun l1_1 => zq9.at none ((v.1.1, (), (), v.1.2.2.2.1, ()), (v.2.1, l1_1, ())) (K (.exit 2))) n v.1.2.2.2.2.1 v.2.2.1
def zv5 (av : AV) (x : HP z06.ps) : Hdl (CR z06) := hnd [] zx4 (yj0 av x)
theorem yk6 : LP z06 Tryz.f216 [0, 0] zv5 := lp_ok (W := []) (H := [zm9, zn0]) (xs := [zq9]) z8c ⟨y7y, y7z, trivial⟩ rfl (fun av x v K => by kernel_rfl) (fun av x n v K => by kernel_rfl)
def y2h : Tmpl := ⟨[(2, .c .i), (3, .c (.bx 3 0)), (7, .c (.ref 15)), (8, .c .i)], [(3, .boxT (.s .net)), (15, .arr .B true)]⟩
def y0e : Tmpl := ⟨[(7, .c (.ref 15))], [(15, .arr .B true)]⟩
def yu5 (av : AV) (x : HP z06.ps) (n : Nat) (v : y2h.den) (K : Ks (CR z06)) : Option (CR z06) := z4l v.2.1 v.1.1 (fun l0_1 => y0e.at none (((), ()), (l0_1, ())) (K (.exit 0))) n v.1.2.2.2.1 v.2.2.1
def y1o (av : AV) (x : HP z06.ps) : Hdl (CR z06) := hnd [] y2h (yu5 av x)
theorem yy1 : LP z06 Tryz.f216 [0] y1o := lp_ok (W := []) (H := [zv5]) (xs := [y0e]) z8c ⟨yk6, trivial⟩ rfl (fun av x v K => by kernel_rfl) (fun av x n v K => by kernel_rfl)
theorem w5p : z06.Ok Tryz.prog := fn_ok (k := z06) (fn := Tryz.f216) (W := []) (H := [y1o]) Tryz.func216 z8c ⟨yy1, trivial⟩ rfl rfl (fun av x => by kernel_rfl)
def zs7 (kind : Int) : Option Bool := (z0d kind 1 3).bind fun x1 => (some x1)
def y3p : Con := ⟨177, [.v .I false], [(.B, true)], [], fun x => zs7 x.1⟩
def wd0 : Fs := ⟨[z22], [], []⟩
theorem wh0 : wd0.Ok Tryz.prog := (fsK z2r fs0)
theorem wl3 : y3p.Ok Tryz.prog := fn_ok (k := y3p) (fn := Tryz.f177) (W := []) (H := []) Tryz.func177 wh0 trivial rfl rfl (fun av x => by kernel_rfl)
def zf0 (role : Int) : Option Bool := (z0d role 1 3).bind fun x1 => (some x1)
def zr5 : Con := ⟨151, [.v .I false], [(.B, true)], [], fun x => zf0 x.1⟩
def wd1 : Fs := ⟨[z22], [], []⟩
theorem wh1 : wd1.Ok Tryz.prog := (fsK z2r fs0)
theorem yq8 : zr5.Ok Tryz.prog := fn_ok (k := zr5) (fn := Tryz.f151) (W := []) (H := []) Tryz.func151 wh1 trivial rfl rfl (fun av x => by kernel_rfl)
def y10 (places : Int) (tasks : Int) : Option Bool := (z0d places 2 8).bind fun x1 => (if x1 = true then ((z0d tasks 1 6).bind fun x3 => (some x3)) else (some false))
def y0q : Con := ⟨122, [.v .I false, .v .I false], [(.B, true)], [], fun x => y10 x.1 x.2.1⟩
def w7f : Fs := ⟨[z22], [], []⟩
theorem w83 : w7f.Ok Tryz.prog := (fsK z2r fs0)
theorem w92 : y0q.Ok Tryz.prog := fn_ok (k := y0q) (fn := Tryz.f122) (W := []) (H := []) Tryz.func122 w83 trivial rfl rfl (fun av x => by kernel_rfl)
def z0p (n : GNet) (t : Int) : Option Bool := gd (ok64 ((n.tasks.length : Int) - 1)) ((z0d t 0 ((n.tasks.length : Int) - 1)).bind fun x2 => (some x2))
def z1r : Con := ⟨96, [.v (.s .net) false, .v .I false], [(.B, true)], [], fun x => z0p x.1 x.2.1⟩
def y6t : Fs := ⟨[z22], [], []⟩
theorem y6w : y6t.Ok Tryz.prog := (fsK z2r fs0)
theorem z4e : z1r.Ok Tryz.prog := fn_ok (k := z1r) (fn := Tryz.f96) (W := []) (H := []) Tryz.func96 y6w trivial rfl rfl (fun av x => by kernel_rfl)
def z6k (t : GTask) : Option GTask := (z0n t.in_).bind fun x1 => (gd (([] : List GFlow).length + t.out.length ≤ SMALL) ((z0n t.clear).bind fun x3 => (some (GTask.mk t.join t.split x1 (([] : List GFlow) ++ t.out) x3 t.role t.apart t.all t.need))))
def z9h : Con := ⟨207, [.v (.s .task) false], [((.s .task), true)], [], fun x => z6k x.1⟩
def yc3 : Fs := ⟨[z1v], [], []⟩
theorem yc8 : yc3.Ok Tryz.prog := (fsK z3g fs0)
theorem yd2 : z9h.Ok Tryz.prog := fn_ok (k := z9h) (fn := Tryz.f207) (W := []) (H := []) Tryz.func207 yc8 trivial rfl rfl (fun av x => by kernel_rfl)
def z84 (p0_3 : Int) (l0_1 : List GTask) : Option GNet := some (GNet.mk p0_3 l0_1)
def z2a (p0_0 : List GTask) (p0_1 : Int) (kx0_0 : List GTask → Option GNet) : Nat → Int → List GTask → Option GNet
  | 0, _, _ => none
  | n0 + 1, s0_0, l0_1 => if decide (s0_0 < p0_1) = true then ((getI p0_0 s0_0).bind fun x2 => ((z6k x2).bind fun x3 => (gd (l0_1.length + [x3].length ≤ SMALL) (gd (ok64 (s0_0 + 1)) ((z2a p0_0 p0_1 kx0_0 n0) (s0_0 + 1) (l0_1 ++ [x3])))))) else (kx0_0 l0_1)
def z7e (n : GNet) : Option GNet := z2a n.tasks (n.tasks.length : Int) (z84 n.places) FUEL 0 ([] : List GTask)
def z1b : Con := ⟨184, [.v (.s .net) false], [((.s .net), true)], [], fun x => z7e x.1⟩
def yj5 : Fs := ⟨[z9h], [], []⟩
theorem zu9 : yj5.Ok Tryz.prog := (fsK yd2 fs0)
def zo2 : Tmpl := ⟨[(2, .c (.bx 2 0)), (3, .c (.bx 3 0)), (10, .c (.s (.s .task))), (11, .c .i), (12, .c .i)], [(2, .box [.i, .nl]), (3, .box [.i, .ref 510301]), (510301, .arr (.s .task) true)]⟩
def zj4 : Tmpl := ⟨[(2, .c (.bx 2 0)), (3, .c (.bx 3 0))], [(2, .box [.i, .nl]), (3, .box [.i, .ref 510301]), (510301, .arr (.s .task) true)]⟩
def y6m (av : AV) (x : HP z1b.ps) (n : Nat) (v : zo2.den) (K : Ks (CR z1b)) : Option (CR z1b) := z2a v.1.2.2.1 v.1.2.2.2.1 (fun l0_1 => zj4.at none (((), (), ()), ((v.2.1.1, (), ()), (v.2.2.1.1, (), ()), l0_1, ())) (K (.exit 0))) n v.1.2.2.2.2.1 v.2.2.2.1
def zm7 (av : AV) (x : HP z1b.ps) : Hdl (CR z1b) := hnd [.b 3 1 510301 (.s .task)] zo2 (y6m av x)
theorem y7w : LP z1b Tryz.f184 [0] zm7 := lp_ok (W := []) (H := []) (xs := [zj4]) zu9 trivial rfl (fun av x v K => by kernel_rfl) (fun av x n v K => by kernel_rfl)
theorem yl3 : z1b.Ok Tryz.prog := fn_ok (k := z1b) (fn := Tryz.f184) (W := []) (H := [zm7]) Tryz.func184 zu9 ⟨y7w, trivial⟩ rfl rfl (fun av x => by kernel_rfl)
def y89  : Option Bool := some true
def z70 (marks : List Int) (kx0_0 : Option Bool) : Nat → Int → Option Bool
  | 0, _ => none
  | n0 + 1, s0_0 => if decide (s0_0 < (marks.length : Int)) = true then ((getI marks s0_0).bind fun x5 => ((z03 x5 0 4).bind fun x6 => (if x6 = true then (gd (ok64 (s0_0 + 1)) ((z70 marks kx0_0 n0) (s0_0 + 1))) else (some false)))) else (kx0_0)
def z8p (n : GNet) (marks : List Int) : Option Bool := (z3d n).bind fun x1 => (if x1 = true then (if decide ((marks.length : Int) = n.places) = true then (z70 marks y89 FUEL 0) else (some false)) else (some false))
def z39 : Con := ⟨87, [.v (.s .net) false, .v (.sl .I) false], [(.B, true)], [], fun x => z8p x.1 x.2.1⟩
def wt2 : Fs := ⟨[z2n, z0o], [], []⟩
theorem w0b : wt2.Ok Tryz.prog := (fsK zo0 (fsK z0w fs0))
def yi0 : Tmpl := ⟨[(1, .c (.s .I)), (5, .c .i)], []⟩
def y9v : Tmpl := ⟨[], []⟩
def w6w (av : AV) (x : HP z39.ps) (n : Nat) (v : yi0.den) (K : Ks (CR z39)) : Option (CR z39) := z70 v.1.1 (y9v.at none ((), ()) (K (.exit 0))) n v.1.2.1
def yf5 (av : AV) (x : HP z39.ps) : Hdl (CR z39) := hnd [] yi0 (w6w av x)
theorem w8l : LP z39 Tryz.f87 [0] yf5 := lp_ok (W := []) (H := []) (xs := [y9v]) w0b trivial rfl (fun av x v K => by kernel_rfl) (fun av x n v K => by kernel_rfl)
theorem y02 : z39.Ok Tryz.prog := fn_ok (k := z39) (fn := Tryz.f87) (W := []) (H := [yf5]) Tryz.func87 w0b ⟨w8l, trivial⟩ rfl rfl (fun av x => by kernel_rfl)
def za3 (s0_0 : Bool) (s0_1 : Bool) : Option (Bool × Bool) := some (s0_0, s0_1)
def z1y (marks : List Int) (list : List Int) (kx0_0 : Bool → Bool → Option (Bool × Bool)) : Nat → Bool → Bool → Int → Option (Bool × Bool)
  | 0, _, _, _ => none
  | n0 + 1, s0_0, s0_1, s0_2 => if decide (s0_2 < (list.length : Int)) = true then (if s0_0 = true then (if s0_1 = true then ((getI list s0_2).bind fun x4 => ((getI marks x4).bind fun x5 => (gd (ok64 (s0_2 + 1)) ((z1y marks list kx0_0 n0) true (decide (0 < x5)) (s0_2 + 1))))) else (gd (ok64 (s0_2 + 1)) ((z1y marks list kx0_0 n0) true false (s0_2 + 1)))) else ((getI list s0_2).bind fun x8 => ((getI marks x8).bind fun x9 => (if s0_1 = true then ((getI list s0_2).bind fun x11 => ((getI marks x11).bind fun x12 => (gd (ok64 (s0_2 + 1)) ((z1y marks list kx0_0 n0) (decide (0 < x9)) (decide (0 < x12)) (s0_2 + 1))))) else (gd (ok64 (s0_2 + 1)) ((z1y marks list kx0_0 n0) (decide (0 < x9)) false (s0_2 + 1))))))) else (kx0_0 s0_0 s0_1)
def zt8 (marks : List Int) (list : List Int) : Option (Bool × Bool) := z1y marks list za3 FUEL false true 0
def z51 : Con := ⟨200, [.v (.sl .I) false, .v (.sl .I) false], [(.B, true), (.B, true)], [], fun x => zt8 x.1 x.2.1⟩
def wf2 : Fs := ⟨[], [], []⟩
theorem yo7 : wf2.Ok Tryz.prog := fs0
def y9d : Tmpl := ⟨[(0, .c (.s .I)), (1, .c (.s .I)), (6, .c .b), (7, .c .b), (8, .c .i)], []⟩
def y6c : Tmpl := ⟨[(6, .c .b), (7, .c .b)], []⟩
def w3g (av : AV) (x : HP z51.ps) (n : Nat) (v : y9d.den) (K : Ks (CR z51)) : Option (CR z51) := z1y v.1.1 v.1.2.1 (fun s0_0 s0_1 => y6c.at none ((s0_0, s0_1, ()), ()) (K (.exit 0))) n v.1.2.2.1 v.1.2.2.2.1 v.1.2.2.2.2.1
def y7h (av : AV) (x : HP z51.ps) : Hdl (CR z51) := hnd [] y9d (w3g av x)
theorem w5a : LP z51 Tryz.f200 [0] y7h := lp_ok (W := []) (H := []) (xs := [y6c]) yo7 trivial rfl (fun av x v K => by kernel_rfl) (fun av x n v K => by kernel_rfl)
theorem wm4 : z51.Ok Tryz.prog := fn_ok (k := z51) (fn := Tryz.f200) (W := []) (H := [y7h]) Tryz.func200 yo7 ⟨w5a, trivial⟩ rfl rfl (fun av x => by kernel_rfl)
def z4n (s1_0 : Int) (bk1 : Int → List Bool → Option Bool) (l2_1 : List Bool) : Option Bool := gd (ok64 (s1_0 + 1)) (bk1 (s1_0 + 1) l2_1)
def z32 (p2_0 : List GFlow) (kx2_0 : List Bool → Option Bool) : Nat → Int → List Bool → Option Bool
  | 0, _, _ => none
  | n2 + 1, s2_0, l2_1 => if decide (s2_0 < (p2_0.length : Int)) = true then ((getI p2_0 s2_0).bind fun x15 => ((getI l2_1 x15.to).bind fun x16 => (gd (ok64 (s2_0 + 1)) ((z32 p2_0 kx2_0 n2) (s2_0 + 1) (l2_1.set x15.to.toNat true))))) else (kx2_0 l2_1)
def zg9  : Option Bool := some false
def z28 (n : GNet) (marks : List Int) (t : Int) (x19 : (List Bool)) (kx3_0 : Option Bool) : Nat → Int → Option Bool
  | 0, _ => none
  | n3 + 1, s3_0 => (getI n.tasks t).bind fun x20 => (if decide (s3_0 < (x20.in_.length : Int)) = true then ((getI n.tasks t).bind fun x22 => ((getI x22.in_ s3_0).bind fun x23 => ((getI marks x23).bind fun x24 => (if decide (x24 = 0) = true then ((getI n.tasks t).bind fun x26 => ((getI x26.in_ s3_0).bind fun x27 => ((getI x19 x27).bind fun x28 => (if x28 = true then (some true) else (gd (ok64 (s3_0 + 1)) ((z28 n marks t x19 kx3_0 n3) (s3_0 + 1))))))) else (gd (ok64 (s3_0 + 1)) ((z28 n marks t x19 kx3_0 n3) (s3_0 + 1))))))) else (kx3_0))
def z26 (n : GNet) (marks : List Int) (t : Int) (l1_1 : List Bool) : Option Bool := (zg3 n l1_1 t).bind fun x19 => (z28 n marks t x19 zg9 FUEL 0)
def z18 (n : GNet) (busy : List GItem) (kx1_0 : List Bool → Option Bool) : Nat → Int → List Bool → Option Bool
  | 0, _, _ => none
  | n1 + 1, s1_0, l1_1 => if decide (s1_0 < (busy.length : Int)) = true then ((getI busy s1_0).bind fun x12 => ((getI n.tasks x12.task).bind fun x13 => (z32 x13.out (z4n s1_0 (z18 n busy kx1_0 n1)) FUEL 0 l1_1))) else (kx1_0 l1_1)
def z4m (n : GNet) (marks : List Int) (busy : List GItem) (t : Int) (l0_1 : List Bool) : Option Bool := z18 n busy (z26 n marks t) FUEL 0 l0_1
def z27 (n : GNet) (marks : List Int) (t : Int) (kx0_0 : List Bool → Option Bool) : Nat → Int → List Bool → Option Bool
  | 0, _, _ => none
  | n0 + 1, s0_0, l0_1 => if decide (s0_0 < n.places) = true then ((getI marks s0_0).bind fun x3 => (if decide (0 < x3) = true then ((getI n.tasks t).bind fun x5 => ((zb8 x5.in_ s0_0).bind fun x6 => ((getI l0_1 s0_0).bind fun x7 => (gd (ok64 (s0_0 + 1)) ((z27 n marks t kx0_0 n0) (s0_0 + 1) (l0_1.set s0_0.toNat (!x6))))))) else ((getI l0_1 s0_0).bind fun x9 => (gd (ok64 (s0_0 + 1)) ((z27 n marks t kx0_0 n0) (s0_0 + 1) (l0_1.set s0_0.toNat false)))))) else (kx0_0 l0_1)
def zg8 (n : GNet) (marks : List Int) (busy : List GItem) (t : Int) : Option Bool := gd ((0 : Int) ≤ n.places ∧ n.places ≤ (1000000000 : Int)) (z27 n marks t (z4m n marks busy t) FUEL 0 (List.replicate n.places.toNat false))
def z07 : Con := ⟨201, [.v (.s .net) false, .v (.sl .I) false, .v (.sl (.s .item)) false, .v .I false], [(.B, true)], [], fun x => zg8 x.1 x.2.1 x.2.2.1 x.2.2.2.1⟩
def w4c : Fs := ⟨[z4b, z06], [], []⟩
theorem z8d : w4c.Ok Tryz.prog := (fsK y8w (fsK w5p fs0))
def zx5 : Tmpl := ⟨[(1, .c (.s .I)), (2, .c (.s (.s .item))), (3, .c .i), (4, .c (.bx 4 0)), (9, .c (.ref 18)), (11, .c .i), (12, .c (.s (.s .flow))), (13, .c .i)], [(4, .boxT (.s .net)), (18, .arr .B true)]⟩
def zr0 : Tmpl := ⟨[(1, .c (.s .I)), (2, .c (.s (.s .item))), (3, .c .i), (4, .c (.bx 4 0)), (9, .c (.ref 18)), (11, .c .i)], [(4, .boxT (.s .net)), (18, .arr .B true)]⟩
def yj1 (av : AV) (x : HP z07.ps) (n : Nat) (v : zx5.den) (K : Ks (CR z07)) : Option (CR z07) := z32 v.1.2.2.2.2.2.2.1 (fun l2_1 => zr0.at none ((v.1.1, v.1.2.1, v.1.2.2.1, (), (), v.1.2.2.2.2.2.1, ()), (v.2.1, l2_1, ())) (K (.exit 4))) n v.1.2.2.2.2.2.2.2.1 v.2.2.1
def zv6 (av : AV) (x : HP z07.ps) : Hdl (CR z07) := hnd [] zx5 (yj1 av x)
theorem yk7 : LP z07 Tryz.f201 [1, 0] zv6 := lp_ok (W := []) (H := []) (xs := [zr0]) z8d trivial rfl (fun av x v K => by kernel_rfl) (fun av x n v K => by kernel_rfl)
def y2i : Tmpl := ⟨[(1, .c (.s .I)), (2, .c (.s (.s .item))), (3, .c .i), (4, .c (.bx 4 0)), (9, .c (.ref 18)), (10, .c .i)], [(4, .boxT (.s .net)), (18, .arr .B true)]⟩
def y0f : Tmpl := ⟨[(1, .c (.s .I)), (2, .c (.s (.s .item))), (3, .c .i), (4, .c (.bx 4 0)), (9, .c (.ref 18))], [(4, .boxT (.s .net)), (18, .arr .B true)]⟩
def yu6 (av : AV) (x : HP z07.ps) (n : Nat) (v : y2i.den) (K : Ks (CR z07)) : Option (CR z07) := z27 v.2.1 v.1.1 v.1.2.2.1 (fun l0_1 => y0f.at none ((v.1.1, v.1.2.1, v.1.2.2.1, (), (), ()), (v.2.1, l0_1, ())) (K (.exit 0))) n v.1.2.2.2.2.2.1 v.2.2.1
def y1p (av : AV) (x : HP z07.ps) : Hdl (CR z07) := hnd [] y2i (yu6 av x)
theorem yy2 : LP z07 Tryz.f201 [0] y1p := lp_ok (W := []) (H := []) (xs := [y0f]) z8d trivial rfl (fun av x v K => by kernel_rfl) (fun av x n v K => by kernel_rfl)
def y2j : Tmpl := ⟨[(1, .c (.s .I)), (2, .c (.s (.s .item))), (3, .c .i), (4, .c (.bx 4 0)), (9, .c (.ref 18)), (11, .c .i)], [(4, .boxT (.s .net)), (18, .arr .B true)]⟩
def y0g : Tmpl := ⟨[(1, .c (.s .I)), (3, .c .i), (4, .c (.bx 4 0)), (9, .c (.ref 18))], [(4, .boxT (.s .net)), (18, .arr .B true)]⟩
def yu7 (av : AV) (x : HP z07.ps) (n : Nat) (v : y2j.den) (K : Ks (CR z07)) : Option (CR z07) := z18 v.2.1 v.1.2.1 (fun l1_1 => y0g.at none ((v.1.1, v.1.2.2.1, (), (), ()), (v.2.1, l1_1, ())) (K (.exit 2))) n v.1.2.2.2.2.2.1 v.2.2.1
def y1q (av : AV) (x : HP z07.ps) : Hdl (CR z07) := hnd [] y2j (yu7 av x)
theorem yy3 : LP z07 Tryz.f201 [1] y1q := lp_ok (W := []) (H := [zv6]) (xs := [y0g]) z8d ⟨yk7, trivial⟩ rfl (fun av x v K => by kernel_rfl) (fun av x n v K => by kernel_rfl)
def y2k : Tmpl := ⟨[(1, .c (.s .I)), (3, .c .i), (4, .c (.bx 4 0)), (14, .c (.ref 76)), (15, .c .i)], [(4, .boxT (.s .net)), (76, .arr .B true)]⟩
def y0h : Tmpl := ⟨[], []⟩
def yu8 (av : AV) (x : HP z07.ps) (n : Nat) (v : y2k.den) (K : Ks (CR z07)) : Option (CR z07) := z28 v.2.1 v.1.1 v.1.2.1 v.2.2.1 (y0h.at none ((), ()) (K (.exit 6))) n v.1.2.2.2.2.1
def y1r (av : AV) (x : HP z07.ps) : Hdl (CR z07) := hnd [] y2k (yu8 av x)
theorem yy4 : LP z07 Tryz.f201 [2] y1r := lp_ok (W := []) (H := []) (xs := [y0h]) z8d trivial rfl (fun av x v K => by kernel_rfl) (fun av x n v K => by kernel_rfl)
theorem w5q : z07.Ok Tryz.prog := fn_ok (k := z07) (fn := Tryz.f201) (W := []) (H := [y1p, y1q, y1r]) Tryz.func201 z8d ⟨yy2, yy3, yy4, trivial⟩ rfl rfl (fun av x => by kernel_rfl)
def zz9 (n : GNet) (marks : List Int) (busy : List GItem) (t : Int) : Option Bool := (getI n.tasks t).bind fun x1 => ((zt8 marks x1.in_).bind fun x2 => ((getI n.tasks t).bind fun x3 => (if decide (x3.join = 1) = true then (some x2.2) else (if decide (x3.join = 2) = true then (some x2.1) else (if x2.1 = true then (if x2.2 = true then (some true) else ((zg8 n marks busy t).bind fun x8 => (some (!x8)))) else (some false))))))
def y7u : Con := ⟨165, [.v (.s .net) false, .v (.sl .I) false, .v (.sl (.s .item)) false, .v .I false], [(.B, true)], [], fun x => zz9 x.1 x.2.1 x.2.2.1 x.2.2.2.1⟩
def wt8 : Fs := ⟨[z51, z07], [], []⟩
theorem wv2 : wt8.Ok Tryz.prog := (fsK wm4 (fsK w5q fs0))
theorem wy9 : y7u.Ok Tryz.prog := fn_ok (k := y7u) (fn := Tryz.f165) (W := []) (H := []) Tryz.func165 wv2 trivial rfl rfl (fun av x => by kernel_rfl)
def y59  : Option Bool := some true
def z5t (n : GNet) (busy : List GItem) (kx0_0 : Option Bool) : Nat → Int → Option Bool
  | 0, _ => none
  | n0 + 1, s0_0 => if decide (s0_0 < (busy.length : Int)) = true then ((getI busy s0_0).bind fun x3 => (gd (ok64 ((n.tasks.length : Int) - 1)) ((z03 x3.task 0 ((n.tasks.length : Int) - 1)).bind fun x5 => (if x5 = true then ((getI busy s0_0).bind fun x7 => ((z03 x7.who 1 4).bind fun x8 => (if x8 = true then ((getI busy s0_0).bind fun x10 => ((getI busy s0_0).bind fun x11 => ((getI n.tasks x11.task).bind fun x12 => (gd (ok64 (x12.need - 1)) ((z03 x10.did 0 (x12.need - 1)).bind fun x14 => (if x14 = true then (gd (ok64 (s0_0 + 1)) ((z5t n busy kx0_0 n0) (s0_0 + 1))) else (some false))))))) else (some false)))) else (some false))))) else (kx0_0)
def zg7 (n : GNet) (busy : List GItem) : Option Bool := if decide (6 < (busy.length : Int)) = true then (some false) else (z5t n busy y59 FUEL 0)
def z45 : Con := ⟨88, [.v (.s .net) false, .v (.sl (.s .item)) false], [(.B, true)], [], fun x => zg7 x.1 x.2.1⟩
def wf1 : Fs := ⟨[z0o], [], []⟩
theorem yo6 : wf1.Ok Tryz.prog := (fsK z0w fs0)
def y9c : Tmpl := ⟨[(1, .c (.s (.s .item))), (2, .c (.bx 2 0)), (5, .c .i)], [(2, .boxT (.s .net))]⟩
def y6b : Tmpl := ⟨[], []⟩
def w3f (av : AV) (x : HP z45.ps) (n : Nat) (v : y9c.den) (K : Ks (CR z45)) : Option (CR z45) := z5t v.2.1 v.1.1 (y6b.at none ((), ()) (K (.exit 0))) n v.1.2.2.1
def y7g (av : AV) (x : HP z45.ps) : Hdl (CR z45) := hnd [] y9c (w3f av x)
theorem w59 : LP z45 Tryz.f88 [0] y7g := lp_ok (W := []) (H := []) (xs := [y6b]) yo6 trivial rfl (fun av x v K => by kernel_rfl) (fun av x n v K => by kernel_rfl)
theorem yr5 : z45.Ok Tryz.prog := fn_ok (k := z45) (fn := Tryz.f88) (W := []) (H := [y7g]) Tryz.func88 yo6 ⟨w59, trivial⟩ rfl rfl (fun av x => by kernel_rfl)
def zf2 (n : GNet) (marks : List Int) (busy : List GItem) (t : Int) : Option Bool := (z8p n marks).bind fun x1 => (if x1 = true then ((zg7 n busy).bind fun x3 => (if x3 = true then (gd (ok64 ((n.tasks.length : Int) - 1)) ((z03 t 0 ((n.tasks.length : Int) - 1)).bind fun x6 => (if x6 = true then ((zz9 n marks busy t).bind fun x8 => (some x8)) else (some false)))) else (some false))) else (some false))
def zr8 : Con := ⟨100, [.v (.s .net) false, .v (.sl .I) false, .v (.sl (.s .item)) false, .v .I false], [(.B, true)], [], fun x => zf2 x.1 x.2.1 x.2.2.1 x.2.2.2.1⟩
def wd9 : Fs := ⟨[z39, z45, z0o, y7u], [], []⟩
theorem wh5 : wd9.Ok Tryz.prog := (fsK y02 (fsK yr5 (fsK z0w (fsK wy9 fs0))))
theorem yr1 : zr8.Ok Tryz.prog := fn_ok (k := zr8) (fn := Tryz.f100) (W := []) (H := []) Tryz.func100 wh5 trivial rfl rfl (fun av x => by kernel_rfl)
def zf3 (l0_1 : List Int) : Option (List Int) := some l0_1
def z30 (n : GNet) (marks : List Int) (busy : List GItem) (kx0_0 : List Int → Option (List Int)) : Nat → Int → List Int → Option (List Int)
  | 0, _, _ => none
  | n0 + 1, s0_0, l0_1 => if decide (s0_0 < (n.tasks.length : Int)) = true then ((zf2 n marks busy s0_0).bind fun x2 => (if x2 = true then (gd (l0_1.length + [s0_0].length ≤ SMALL) (gd (ok64 (s0_0 + 1)) ((z30 n marks busy kx0_0 n0) (s0_0 + 1) (l0_1 ++ [s0_0])))) else (gd (ok64 (s0_0 + 1)) ((z30 n marks busy kx0_0 n0) (s0_0 + 1) l0_1)))) else (kx0_0 l0_1)
def z5h (n : GNet) (marks : List Int) (busy : List GItem) : Option (List Int) := z30 n marks busy zf3 FUEL 0 ([] : List Int)
def z2c : Con := ⟨99, [.v (.s .net) false, .v (.sl .I) false, .v (.sl (.s .item)) false], [((.sl .I), true)], [], fun x => z5h x.1 x.2.1 x.2.2.1⟩
def w44 : Fs := ⟨[zr8], [], []⟩
theorem y6z : w44.Ok Tryz.prog := (fsK yr1 fs0)
def y2b : Tmpl := ⟨[(1, .c (.s .I)), (2, .c (.s (.s .item))), (3, .c (.bx 3 0)), (7, .c (.ref 9)), (8, .c .i)], [(3, .boxT (.s .net)), (9, .arr .I true)]⟩
def y08 : Tmpl := ⟨[(7, .c (.ref 9))], [(9, .arr .I true)]⟩
def yt9 (av : AV) (x : HP z2c.ps) (n : Nat) (v : y2b.den) (K : Ks (CR z2c)) : Option (CR z2c) := z30 v.2.1 v.1.1 v.1.2.1 (fun l0_1 => y08.at none (((), ()), (l0_1, ())) (K (.exit 0))) n v.1.2.2.2.2.1 v.2.2.1
def y1i (av : AV) (x : HP z2c.ps) : Hdl (CR z2c) := hnd [] y2b (yt9 av x)
theorem yx5 : LP z2c Tryz.f99 [0] y1i := lp_ok (W := []) (H := []) (xs := [y08]) y6z trivial rfl (fun av x v K => by kernel_rfl) (fun av x n v K => by kernel_rfl)
theorem y8t : z2c.Ok Tryz.prog := fn_ok (k := z2c) (fn := Tryz.f99) (W := []) (H := [y1i]) Tryz.func99 y6z ⟨yx5, trivial⟩ rfl rfl (fun av x => by kernel_rfl)
def y1x (l0_1 : List Int) (x10 : Int) (x13 : Int) : Option (List Int) := some (l0_1.set x10.toNat (x13 - 1))
def y1y (l0_1 : List Int) : Option (List Int) := some l0_1
def z3n (n : GNet) (t : Int) (kx0_0 : List Int → Int → Int → Option (List Int)) (kx0_1 : List Int → Option (List Int)) : Nat → Int → List Int → Option (List Int)
  | 0, _, _ => none
  | n0 + 1, s0_0, l0_1 => (getI n.tasks t).bind fun x7 => (if decide (s0_0 < (x7.in_.length : Int)) = true then ((getI n.tasks t).bind fun x9 => ((getI x9.in_ s0_0).bind fun x10 => ((getI l0_1 x10).bind fun x11 => (if decide (0 < x11) = true then ((getI l0_1 x10).bind fun x13 => (gd (ok64 (x13 - 1)) ((getI l0_1 x10).bind fun x15 => ((getI n.tasks t).bind fun x16 => (if decide (x16.join = 2) = true then (kx0_0 l0_1 x10 x13) else (gd (ok64 (s0_0 + 1)) ((z3n n t kx0_0 kx0_1 n0) (s0_0 + 1) (l0_1.set x10.toNat (x13 - 1))))))))) else (gd (ok64 (s0_0 + 1)) ((z3n n t kx0_0 kx0_1 n0) (s0_0 + 1) l0_1)))))) else (kx0_1 l0_1))
def zl7 (n : GNet) (marks : List Int) (t : Int) : Option (List Int) := (z8p n marks).bind fun x1 => (if x1 = true then (gd (ok64 ((n.tasks.length : Int) - 1)) ((z03 t 0 ((n.tasks.length : Int) - 1)).bind fun x4 => (if x4 = true then (gd (([] : List Int).length + marks.length ≤ SMALL) (z3n n t y1x y1y FUEL 0 (([] : List Int) ++ marks))) else (some ([] : List Int))))) else (some ([] : List Int)))
def z3y : Con := ⟨103, [.v (.s .net) false, .v (.sl .I) false, .v .I false], [((.sl .I), true)], [], fun x => zl7 x.1 x.2.1 x.2.2.1⟩
def w7j : Fs := ⟨[z39, z0o], [], []⟩
theorem yd7 : w7j.Ok Tryz.prog := (fsK y02 (fsK z0w fs0))
def y5p : Tmpl := ⟨[(2, .c .i), (3, .c (.bx 3 0)), (7, .c (.ref 26)), (8, .c .i)], [(3, .boxT (.s .net)), (26, .arr .I true)]⟩
def zl0 : Tmpl := ⟨[(7, .c (.ref 26))], [(26, .arr .I true)]⟩
def w19 (av : AV) (x : HP z3y.ps) (n : Nat) (v : y5p.den) (K : Ks (CR z3y)) : Option (CR z3y) := z3n v.2.1 v.1.1 (fun l0_1 x10 x13 => zl0.at none (((), ()), ((l0_1.set x10.toNat (x13 - 1)), ())) (K (.exit 0))) (fun l0_1 => zl0.at none (((), ()), (l0_1, ())) (K (.exit 0))) n v.1.2.2.2.1 v.2.2.1
def y4t (av : AV) (x : HP z3y.ps) : Hdl (CR z3y) := hnd [] y5p (w19 av x)
theorem w27 : LP z3y Tryz.f103 [0] y4t := lp_ok (W := []) (H := []) (xs := [zl0]) yd7 trivial rfl (fun av x v K => by kernel_rfl) (fun av x n v K => by kernel_rfl)
theorem w95 : z3y.Ok Tryz.prog := fn_ok (k := z3y) (fn := Tryz.f103) (W := []) (H := [y4t]) Tryz.func103 yd7 ⟨w27, trivial⟩ rfl rfl (fun av x => by kernel_rfl)
def z8n (who : Int) : Option Bool := (z0d who 1 4).bind fun x1 => (some x1)
def ze1 : Con := ⟨97, [.v .I false], [(.B, true)], [], fun x => z8n x.1⟩
def w42 : Fs := ⟨[z22], [], []⟩
theorem w4n : w42.Ok Tryz.prog := (fsK z2r fs0)
theorem y8r : ze1.Ok Tryz.prog := fn_ok (k := ze1) (fn := Tryz.f97) (W := []) (H := []) Tryz.func97 w4n trivial rfl rfl (fun av x => by kernel_rfl)
def zf4 (l0_1 : List Int) (x8 : GFlow) : Option (List Int) := some (l0_1 ++ [x8.to])
def zf5 (l0_1 : List Int) (x13 : GFlow) : Option (List Int) := some (l0_1 ++ [x13.to])
def zf6 (l0_1 : List Int) (x18 : GFlow) : Option (List Int) := some (l0_1 ++ [x18.to])
def zw3 (l0_1 : List Int) : Option (List Int) := some l0_1
def z1t (t : GTask) (data : List Int) (kx0_0 : List Int → GFlow → Option (List Int)) (kx0_1 : List Int → GFlow → Option (List Int)) (kx0_2 : List Int → GFlow → Option (List Int)) (kx0_3 : List Int → Option (List Int)) : Nat → Int → List Int → Option (List Int)
  | 0, _, _ => none
  | n0 + 1, s0_0, l0_1 => if decide (s0_0 < (t.out.length : Int)) = true then ((getI t.out s0_0).bind fun x2 => ((z1d x2.if_ data).bind fun x3 => (if x3 = true then (if decide (t.split = 3) = true then (gd (ok64 ((t.out.length : Int) - 1)) (if decide (s0_0 < ((t.out.length : Int) - 1)) = true then ((getI t.out s0_0).bind fun x8 => (gd (l0_1.length + [x8.to].length ≤ SMALL) (if decide (t.split = 2) = true then (kx0_0 l0_1 x8) else (gd (ok64 (s0_0 + 1)) ((z1t t data kx0_0 kx0_1 kx0_2 kx0_3 n0) (s0_0 + 1) (l0_1 ++ [x8.to])))))) else (if decide ((l0_1.length : Int) = 0) = true then ((getI t.out s0_0).bind fun x13 => (gd (l0_1.length + [x13.to].length ≤ SMALL) (if decide (t.split = 2) = true then (kx0_1 l0_1 x13) else (gd (ok64 (s0_0 + 1)) ((z1t t data kx0_0 kx0_1 kx0_2 kx0_3 n0) (s0_0 + 1) (l0_1 ++ [x13.to])))))) else (gd (ok64 (s0_0 + 1)) ((z1t t data kx0_0 kx0_1 kx0_2 kx0_3 n0) (s0_0 + 1) l0_1))))) else ((getI t.out s0_0).bind fun x18 => (gd (l0_1.length + [x18.to].length ≤ SMALL) (if decide (t.split = 2) = true then (kx0_2 l0_1 x18) else (gd (ok64 (s0_0 + 1)) ((z1t t data kx0_0 kx0_1 kx0_2 kx0_3 n0) (s0_0 + 1) (l0_1 ++ [x18.to]))))))) else (gd (ok64 (s0_0 + 1)) ((z1t t data kx0_0 kx0_1 kx0_2 kx0_3 n0) (s0_0 + 1) l0_1))))) else (kx0_3 l0_1)
def zz5 (t : GTask) (data : List Int) : Option (List Int) := z1t t data zf4 zf5 zf6 zw3 FUEL 0 ([] : List Int)
def z65 : Con := ⟨205, [.v (.s .task) false, .v (.sl .I) false], [((.sl .I), true)], [], fun x => zz5 x.1 x.2.1⟩
def wt6 : Fs := ⟨[z4a], [], []⟩
theorem w0e : wt6.Ok Tryz.prog := (fsK z76 fs0)
def yi4 : Tmpl := ⟨[(1, .c (.s .I)), (2, .c (.bx 2 0)), (5, .c (.ref 7)), (6, .c .i)], [(2, .boxT (.s .task)), (7, .arr .I true)]⟩
def z8w : Tmpl := ⟨[(5, .c (.ref 49))], [(49, .arr .I true)]⟩
def w70 (av : AV) (x : HP z65.ps) (n : Nat) (v : yi4.den) (K : Ks (CR z65)) : Option (CR z65) := z1t v.2.1 v.1.1 (fun l0_1 x8 => z8w.at none (((), ()), ((l0_1 ++ [x8.to]), ())) (K (.exit 0))) (fun l0_1 x13 => z8w.at none (((), ()), ((l0_1 ++ [x13.to]), ())) (K (.exit 0))) (fun l0_1 x18 => z8w.at none (((), ()), ((l0_1 ++ [x18.to]), ())) (K (.exit 0))) (fun l0_1 => z8w.at none (((), ()), (l0_1, ())) (K (.exit 0))) n v.1.2.2.2.1 v.2.2.1
def yf9 (av : AV) (x : HP z65.ps) : Hdl (CR z65) := hnd [] yi4 (w70 av x)
theorem w8p : LP z65 Tryz.f205 [0] yf9 := lp_ok (W := []) (H := []) (xs := [z8w]) w0e trivial rfl (fun av x v K => by kernel_rfl) (fun av x n v K => by kernel_rfl)
theorem wy8 : z65.Ok Tryz.prog := fn_ok (k := z65) (fn := Tryz.f205) (W := []) (H := [yf9]) Tryz.func205 w0e ⟨w8p, trivial⟩ rfl rfl (fun av x => by kernel_rfl)
def z97 (l1_1 : List Int) : Option ((List Int) × Bool) := some (l1_1, true)
def z5d (x16 : (List Int)) (kx1_0 : List Int → Option ((List Int) × Bool)) : Nat → Int → List Int → Option ((List Int) × Bool)
  | 0, _, _ => none
  | n1 + 1, s1_0, l1_1 => if decide (s1_0 < (x16.length : Int)) = true then ((getI x16 s1_0).bind fun x18 => ((getI l1_1 x18).bind fun x19 => (if decide (x19 = 4) = true then (some (([] : List Int), false)) else ((getI x16 s1_0).bind fun x21 => ((getI x16 s1_0).bind fun x22 => ((getI l1_1 x22).bind fun x23 => (gd (ok64 (x23 + 1)) ((getI l1_1 x21).bind fun x25 => (gd (ok64 (s1_0 + 1)) ((z5d x16 kx1_0 n1) (s1_0 + 1) (l1_1.set x21.toNat (x23 + 1)))))))))))) else (kx1_0 l1_1)
def z96 (n : GNet) (t : Int) (data : List Int) (l0_1 : List Int) : Option ((List Int) × Bool) := (getI n.tasks t).bind fun x15 => ((zz5 x15 data).bind fun x16 => (z5d x16 z97 FUEL 0 l0_1))
def z5c (n : GNet) (t : Int) (kx0_0 : List Int → Option ((List Int) × Bool)) : Nat → Int → List Int → Option ((List Int) × Bool)
  | 0, _, _ => none
  | n0 + 1, s0_0, l0_1 => (getI n.tasks t).bind fun x9 => (if decide (s0_0 < (x9.clear.length : Int)) = true then ((getI n.tasks t).bind fun x11 => ((getI x11.clear s0_0).bind fun x12 => ((getI l0_1 x12).bind fun x13 => (gd (ok64 (s0_0 + 1)) ((z5c n t kx0_0 n0) (s0_0 + 1) (l0_1.set x12.toNat 0)))))) else (kx0_0 l0_1))
def zl8 (n : GNet) (marks : List Int) (t : Int) (data : List Int) : Option ((List Int) × Bool) := (z8p n marks).bind fun x1 => (if x1 = true then (gd (ok64 ((n.tasks.length : Int) - 1)) ((z03 t 0 ((n.tasks.length : Int) - 1)).bind fun x4 => (if x4 = true then ((z2p data).bind fun x6 => (if x6 = true then (gd (([] : List Int).length + marks.length ≤ SMALL) (z5c n t (z96 n t data) FUEL 0 (([] : List Int) ++ marks))) else (some (([] : List Int), false)))) else (some (([] : List Int), false))))) else (some (([] : List Int), false)))
def z0z : Con := ⟨172, [.v (.s .net) false, .v (.sl .I) false, .v .I false, .v (.sl .I) false], [((.sl .I), true), (.B, true)], [], fun x => zl8 x.1 x.2.1 x.2.2.1 x.2.2.2.1⟩
def w7k : Fs := ⟨[z39, z0o, z19, z65], [], []⟩
theorem y0m : w7k.Ok Tryz.prog := (fsK y02 (fsK z0w (fsK z6f (fsK wy8 fs0))))
def y5q : Tmpl := ⟨[(2, .c .i), (3, .c (.s .I)), (4, .c (.bx 4 0)), (10, .c (.ref 35)), (11, .c .i)], [(4, .boxT (.s .net)), (35, .arr .I true)]⟩
def y2t : Tmpl := ⟨[(2, .c .i), (3, .c (.s .I)), (4, .c (.bx 4 0)), (10, .c (.ref 35))], [(4, .boxT (.s .net)), (35, .arr .I true)]⟩
def w1a (av : AV) (x : HP z0z.ps) (n : Nat) (v : y5q.den) (K : Ks (CR z0z)) : Option (CR z0z) := z5c v.2.1 v.1.1 (fun l0_1 => y2t.at none ((v.1.1, v.1.2.1, (), (), ()), (v.2.1, l0_1, ())) (K (.exit 0))) n v.1.2.2.2.2.1 v.2.2.1
def y4u (av : AV) (x : HP z0z.ps) : Hdl (CR z0z) := hnd [] y5q (w1a av x)
theorem w28 : LP z0z Tryz.f172 [0] y4u := lp_ok (W := []) (H := []) (xs := [y2t]) y0m trivial rfl (fun av x v K => by kernel_rfl) (fun av x n v K => by kernel_rfl)
def y5r : Tmpl := ⟨[(10, .c (.ref 35)), (12, .c (.ref 64)), (13, .c .i)], [(35, .arr .I true), (64, .arr .I true)]⟩
def y2u : Tmpl := ⟨[(10, .c (.ref 35))], [(35, .arr .I true)]⟩
def w1b (av : AV) (x : HP z0z.ps) (n : Nat) (v : y5r.den) (K : Ks (CR z0z)) : Option (CR z0z) := z5d v.2.2.1 (fun l1_1 => y2u.at none (((), ()), (l1_1, ())) (K (.exit 2))) n v.1.2.2.1 v.2.1
def y4v (av : AV) (x : HP z0z.ps) : Hdl (CR z0z) := hnd [] y5r (w1b av x)
theorem w29 : LP z0z Tryz.f172 [1] y4v := lp_ok (W := []) (H := []) (xs := [y2u]) y0m trivial rfl (fun av x v K => by kernel_rfl) (fun av x n v K => by kernel_rfl)
theorem w96 : z0z.Ok Tryz.prog := fn_ok (k := z0z) (fn := Tryz.f172) (W := []) (H := [y4u, y4v]) Tryz.func172 y0m ⟨w28, w29, trivial⟩ rfl rfl (fun av x => by kernel_rfl)
def y8b  : Option Bool := some true
def z72 (people : List Int) (kx0_0 : Option Bool) : Nat → Int → Option Bool
  | 0, _ => none
  | n0 + 1, s0_0 => if decide (s0_0 < (people.length : Int)) = true then ((getI people s0_0).bind fun x4 => ((z03 x4 0 7).bind fun x5 => (if x5 = true then (gd (ok64 (s0_0 + 1)) ((z72 people kx0_0 n0) (s0_0 + 1))) else (some false)))) else (kx0_0)
def z8q (people : List Int) : Option Bool := (z03 (people.length : Int) 1 4).bind fun x1 => (if x1 = true then (z72 people y8b FUEL 0) else (some false))
def z3a : Con := ⟨44, [.v (.sl .I) false], [(.B, true)], [], fun x => z8q x.1⟩
def wt4 : Fs := ⟨[z0o], [], []⟩
theorem w0d : wt4.Ok Tryz.prog := (fsK z0w fs0)
def yi2 : Tmpl := ⟨[(0, .c (.s .I)), (3, .c .i)], []⟩
def y9x : Tmpl := ⟨[], []⟩
def w6y (av : AV) (x : HP z3a.ps) (n : Nat) (v : yi2.den) (K : Ks (CR z3a)) : Option (CR z3a) := z72 v.1.1 (y9x.at none ((), ()) (K (.exit 0))) n v.1.2.1
def yf7 (av : AV) (x : HP z3a.ps) : Hdl (CR z3a) := hnd [] yi2 (w6y av x)
theorem w8n : LP z3a Tryz.f44 [0] yf7 := lp_ok (W := []) (H := []) (xs := [y9x]) w0d trivial rfl (fun av x v K => by kernel_rfl) (fun av x n v K => by kernel_rfl)
theorem y03 : z3a.Ok Tryz.prog := fn_ok (k := z3a) (fn := Tryz.f44) (W := []) (H := [yf7]) Tryz.func44 w0d ⟨w8n, trivial⟩ rfl rfl (fun av x => by kernel_rfl)
def z5r (s0_0 : Int) : Option Bool := gd ((2 : Int) ≠ 0) (some (decide ((Int.tmod s0_0 2) = 1)))
def z2j (role : Int) (kx0_0 : Int → Option Bool) : Nat → Int → Int → Option Bool
  | 0, _, _ => none
  | n0 + 1, s0_0, s0_1 => if decide (s0_1 < role) = true then (gd ((2 : Int) ≠ 0 ∧ ok64 (Int.tdiv s0_0 2)) (gd (ok64 (s0_1 + 1)) ((z2j role kx0_0 n0) (Int.tdiv s0_0 2) (s0_1 + 1)))) else (kx0_0 s0_0)
def zt4 (people : List Int) (who : Int) (role : Int) : Option Bool := (z8q people).bind fun x1 => (if x1 = true then ((z03 who 1 (people.length : Int)).bind fun x3 => (if x3 = true then ((z03 role 1 3).bind fun x5 => (if x5 = true then (gd (ok64 (who - 1)) ((getI people (who - 1)).bind fun x8 => (z2j role z5r FUEL x8 1))) else (some false))) else (some false))) else (some false))
def z50 : Con := ⟨166, [.v (.sl .I) false, .v .I false, .v .I false], [(.B, true)], [], fun x => zt4 x.1 x.2.1 x.2.2.1⟩
def we2 : Fs := ⟨[z3a, z0o], [], []⟩
theorem yo4 : we2.Ok Tryz.prog := (fsK y03 (fsK z0w fs0))
def y99 : Tmpl := ⟨[(2, .c .i), (7, .c .i), (8, .c .i)], []⟩
def y68 : Tmpl := ⟨[(7, .c .i)], []⟩
def w3c (av : AV) (x : HP z50.ps) (n : Nat) (v : y99.den) (K : Ks (CR z50)) : Option (CR z50) := z2j v.1.1 (fun s0_0 => y68.at none ((s0_0, ()), ()) (K (.exit 0))) n v.1.2.1 v.1.2.2.1
def y7d (av : AV) (x : HP z50.ps) : Hdl (CR z50) := hnd [] y99 (w3c av x)
theorem w56 : LP z50 Tryz.f166 [0] y7d := lp_ok (W := []) (H := []) (xs := [y68]) yo4 trivial rfl (fun av x v K => by kernel_rfl) (fun av x n v K => by kernel_rfl)
theorem wm0 : z50.Ok Tryz.prog := fn_ok (k := z50) (fn := Tryz.f166) (W := []) (H := [y7d]) Tryz.func166 yo4 ⟨w56, trivial⟩ rfl rfl (fun av x => by kernel_rfl)
def y57  : Option Bool := some false
def z4p (did : List GDid) (who : Int) (task : Int) (kx0_0 : Option Bool) : Nat → Int → Option Bool
  | 0, _ => none
  | n0 + 1, s0_0 => if decide (s0_0 < (did.length : Int)) = true then ((getI did s0_0).bind fun x2 => (if decide (x2.who = who) = true then ((getI did s0_0).bind fun x4 => (if decide (x4.task = task) = true then (some true) else (gd (ok64 (s0_0 + 1)) ((z4p did who task kx0_0 n0) (s0_0 + 1))))) else (gd (ok64 (s0_0 + 1)) ((z4p did who task kx0_0 n0) (s0_0 + 1))))) else (kx0_0)
def zt3 (did : List GDid) (who : Int) (task : Int) : Option Bool := z4p did who task y57 FUEL 0
def z4z : Con := ⟨167, [.v (.sl (.s .did)) false, .v .I false, .v .I false], [(.B, true)], [], fun x => zt3 x.1 x.2.1 x.2.2.1⟩
def we1 : Fs := ⟨[], [], []⟩
theorem yo3 : we1.Ok Tryz.prog := fs0
def y98 : Tmpl := ⟨[(0, .c (.s (.s .did))), (1, .c .i), (2, .c .i), (7, .c .i)], []⟩
def y67 : Tmpl := ⟨[], []⟩
def w3b (av : AV) (x : HP z4z.ps) (n : Nat) (v : y98.den) (K : Ks (CR z4z)) : Option (CR z4z) := z4p v.1.1 v.1.2.1 v.1.2.2.1 (y67.at none ((), ()) (K (.exit 0))) n v.1.2.2.2.1
def y7c (av : AV) (x : HP z4z.ps) : Hdl (CR z4z) := hnd [] y98 (w3b av x)
theorem w55 : LP z4z Tryz.f167 [0] y7c := lp_ok (W := []) (H := []) (xs := [y67]) yo3 trivial rfl (fun av x v K => by kernel_rfl) (fun av x n v K => by kernel_rfl)
theorem wl9 : z4z.Ok Tryz.prog := fn_ok (k := z4z) (fn := Tryz.f167) (W := []) (H := [y7c]) Tryz.func167 yo3 ⟨w55, trivial⟩ rfl rfl (fun av x => by kernel_rfl)
def y58 (n : GNet) (people : List Int) (did : List GDid) (t : Int) (s0_0 : Int) (l0_1 : List Int) (bk0 : Int → List Int → Option (List Int)) (s1_0 : Bool) : Option (List Int) := (getI n.tasks t).bind fun x18 => ((zt4 people s0_0 x18.role).bind fun x19 => (if x19 = true then (if s1_0 = true then (gd (ok64 (s0_0 + 1)) (bk0 (s0_0 + 1) l0_1)) else ((getI n.tasks t).bind fun x23 => ((zt3 did s0_0 x23.apart).bind fun x24 => (if x24 = true then (gd (ok64 (s0_0 + 1)) (bk0 (s0_0 + 1) l0_1)) else (gd (l0_1.length + [s0_0].length ≤ SMALL) (gd (ok64 (s0_0 + 1)) (bk0 (s0_0 + 1) (l0_1 ++ [s0_0])))))))) else (gd (ok64 (s0_0 + 1)) (bk0 (s0_0 + 1) l0_1))))
def z2k (n : GNet) (busy : List GItem) (t : Int) (s0_0 : Int) (kx1_0 : Bool → Option (List Int)) : Nat → Bool → Int → Option (List Int)
  | 0, _, _ => none
  | n1 + 1, s1_0, s1_1 => if decide (s1_1 < (busy.length : Int)) = true then (if s1_0 = true then (gd (ok64 (s1_1 + 1)) ((z2k n busy t s0_0 kx1_0 n1) true (s1_1 + 1))) else ((getI busy s1_1).bind fun x12 => (if decide (x12.who = s0_0) = true then ((getI busy s1_1).bind fun x14 => ((getI n.tasks t).bind fun x15 => (gd (ok64 (s1_1 + 1)) ((z2k n busy t s0_0 kx1_0 n1) (decide (x14.task = x15.apart)) (s1_1 + 1))))) else (gd (ok64 (s1_1 + 1)) ((z2k n busy t s0_0 kx1_0 n1) false (s1_1 + 1)))))) else (kx1_0 s1_0)
def zp1 (l0_1 : List Int) : Option (List Int) := some l0_1
def z5s (n : GNet) (people : List Int) (did : List GDid) (busy : List GItem) (t : Int) (kx0_0 : List Int → Option (List Int)) : Nat → Int → List Int → Option (List Int)
  | 0, _, _ => none
  | n0 + 1, s0_0, l0_1 => if decide (s0_0 ≤ (people.length : Int)) = true then (z2k n busy t s0_0 (y58 n people did t s0_0 l0_1 (z5s n people did busy t kx0_0 n0)) FUEL false 0) else (kx0_0 l0_1)
def z98 (n : GNet) (people : List Int) (did : List GDid) (busy : List GItem) (t : Int) : Option (List Int) := (z3d n).bind fun x1 => (if x1 = true then ((z8q people).bind fun x3 => (if x3 = true then (gd (ok64 ((n.tasks.length : Int) - 1)) ((z03 t 0 ((n.tasks.length : Int) - 1)).bind fun x6 => (if x6 = true then (z5s n people did busy t zp1 FUEL 1 ([] : List Int)) else (some ([] : List Int))))) else (some ([] : List Int)))) else (some ([] : List Int)))
def z13 : Con := ⟨102, [.v (.s .net) false, .v (.sl .I) false, .v (.sl (.s .did)) false, .v (.sl (.s .item)) false, .v .I false], [((.sl .I), true)], [], fun x => z98 x.1 x.2.1 x.2.2.1 x.2.2.2.1 x.2.2.2.2.1⟩
def we3 : Fs := ⟨[z2n, z3a, z0o, z50, z4z], [], []⟩
theorem y3f : we3.Ok Tryz.prog := (fsK zo0 (fsK y03 (fsK z0w (fsK wm0 (fsK wl9 fs0)))))
def y2c : Tmpl := ⟨[(1, .c (.s .I)), (2, .c (.s (.s .did))), (3, .c (.s (.s .item))), (4, .c .i), (5, .c (.bx 5 0)), (11, .c (.ref 15)), (12, .c .i), (13, .c .b), (14, .c .i)], [(5, .boxT (.s .net)), (15, .arr .I true)]⟩
def y09 : Tmpl := ⟨[(1, .c (.s .I)), (2, .c (.s (.s .did))), (3, .c (.s (.s .item))), (4, .c .i), (5, .c (.bx 5 0)), (11, .c (.ref 15)), (12, .c .i), (13, .c .b)], [(5, .boxT (.s .net)), (15, .arr .I true)]⟩
def yu0 (av : AV) (x : HP z13.ps) (n : Nat) (v : y2c.den) (K : Ks (CR z13)) : Option (CR z13) := z2k v.2.1 v.1.2.2.1 v.1.2.2.2.1 v.1.2.2.2.2.2.2.1 (fun s1_0 => y09.at none ((v.1.1, v.1.2.1, v.1.2.2.1, v.1.2.2.2.1, (), (), v.1.2.2.2.2.2.2.1, s1_0, ()), (v.2.1, v.2.2.1, ())) (K (.exit 2))) n v.1.2.2.2.2.2.2.2.1 v.1.2.2.2.2.2.2.2.2.1
def y1j (av : AV) (x : HP z13.ps) : Hdl (CR z13) := hnd [] y2c (yu0 av x)
theorem yx6 : LP z13 Tryz.f102 [0, 0] y1j := lp_ok (W := []) (H := []) (xs := [y09]) y3f trivial rfl (fun av x v K => by kernel_rfl) (fun av x n v K => by kernel_rfl)
def y9a : Tmpl := ⟨[(1, .c (.s .I)), (2, .c (.s (.s .did))), (3, .c (.s (.s .item))), (4, .c .i), (5, .c (.bx 5 0)), (11, .c (.ref 15)), (12, .c .i)], [(5, .boxT (.s .net)), (15, .arr .I true)]⟩
def y69 : Tmpl := ⟨[(11, .c (.ref 15))], [(15, .arr .I true)]⟩
def w3d (av : AV) (x : HP z13.ps) (n : Nat) (v : y9a.den) (K : Ks (CR z13)) : Option (CR z13) := z5s v.2.1 v.1.1 v.1.2.1 v.1.2.2.1 v.1.2.2.2.1 (fun l0_1 => y69.at none (((), ()), (l0_1, ())) (K (.exit 0))) n v.1.2.2.2.2.2.2.1 v.2.2.1
def y7e (av : AV) (x : HP z13.ps) : Hdl (CR z13) := hnd [] y9a (w3d av x)
theorem w57 : LP z13 Tryz.f102 [0] y7e := lp_ok (W := []) (H := [y1j]) (xs := [y69]) y3f ⟨yx6, trivial⟩ rfl (fun av x v K => by kernel_rfl) (fun av x n v K => by kernel_rfl)
theorem yr2 : z13.Ok Tryz.prog := fn_ok (k := z13) (fn := Tryz.f102) (W := []) (H := [y7e]) Tryz.func102 y3f ⟨w57, trivial⟩ rfl rfl (fun av x => by kernel_rfl)
def z95 (n : GNet) (data : List Int) : Option GCase := (z3d n).bind fun x1 => (if x1 = true then ((z2p data).bind fun x3 => (if x3 = true then (gd ((0 : Int) ≤ n.places ∧ n.places ≤ (1000000000 : Int)) (gd (([] : List Int).length + data.length ≤ SMALL) ((getI (List.replicate n.places.toNat (0 : Int)) 0).bind fun x7 => (some (GCase.mk 1 ((List.replicate n.places.toNat (0 : Int)).set (0 : Int).toNat 1) [] (([] : List Int) ++ data) []))))) else (some (GCase.mk 0 [] [] [] [])))) else (some (GCase.mk 0 [] [] [] [])))
def zr6 : Con := ⟨155, [.v (.s .net) false, .v (.sl .I) false], [((.s .kase), true)], [], fun x => z95 x.1 x.2.1⟩
def wd7 : Fs := ⟨[z2n, z19], [], []⟩
theorem wh3 : wd7.Ok Tryz.prog := (fsK zo0 (fsK z6f fs0))
theorem yq9 : zr6.Ok Tryz.prog := fn_ok (k := zr6) (fn := Tryz.f155) (W := []) (H := []) Tryz.func155 wh3 trivial rfl rfl (fun av x => by kernel_rfl)
def zf1 (c : GCase) : Option Bool := if decide (c.state = 1) = true then ((getI c.marks 1).bind fun x20 => (some (decide (x20 = 0)))) else (if decide ((c.busy.length : Int) = 0) = true then ((getI c.marks 1).bind fun x22 => (some ((decide (c.state = 2)) == (decide (0 < x22))))) else (some false))
def z6w (n : GNet) (c : GCase) (kx0_0 : Option Bool) : Nat → Int → Option Bool
  | 0, _ => none
  | n0 + 1, s0_0 => if decide (s0_0 < (c.did.length : Int)) = true then ((getI c.did s0_0).bind fun x11 => (gd (ok64 ((n.tasks.length : Int) - 1)) ((z03 x11.task 0 ((n.tasks.length : Int) - 1)).bind fun x13 => (if x13 = true then ((getI c.did s0_0).bind fun x15 => ((z03 x15.who 1 4).bind fun x16 => (if x16 = true then (gd (ok64 (s0_0 + 1)) ((z6w n c kx0_0 n0) (s0_0 + 1))) else (some false)))) else (some false))))) else (kx0_0)
def z8o (n : GNet) (c : GCase) : Option Bool := (z8p n c.marks).bind fun x1 => (if x1 = true then ((zg7 n c.busy).bind fun x3 => (if x3 = true then ((z2p c.data).bind fun x5 => (if x5 = true then (if decide (60 < (c.did.length : Int)) = true then (some false) else ((z03 c.state 1 3).bind fun x8 => (if x8 = true then (z6w n c (zf1 c) FUEL 0) else (some false)))) else (some false))) else (some false))) else (some false))
def z38 : Con := ⟨25, [.v (.s .net) false, .v (.s .kase) false], [(.B, true)], [], fun x => z8o x.1 x.2.1⟩
def ws7 : Fs := ⟨[z39, z45, z19, z0o], [], []⟩
theorem w08 : ws7.Ok Tryz.prog := (fsK y02 (fsK yr5 (fsK z6f (fsK z0w fs0))))
def yh7 : Tmpl := ⟨[(2, .c (.bx 2 0)), (3, .c (.bx 3 0)), (5, .c .i)], [(2, .boxT (.s .net)), (3, .boxT (.s .kase))]⟩
def y9s : Tmpl := ⟨[(3, .c (.bx 3 0))], [(3, .boxT (.s .kase))]⟩
def w6t (av : AV) (x : HP z38.ps) (n : Nat) (v : yh7.den) (K : Ks (CR z38)) : Option (CR z38) := z6w v.2.1 v.2.2.1 (y9s.at none (((), ()), (v.2.2.1, ())) (K (.exit 0))) n v.1.2.2.1
def yf2 (av : AV) (x : HP z38.ps) : Hdl (CR z38) := hnd [] yh7 (w6t av x)
theorem w8i : LP z38 Tryz.f25 [0] yf2 := lp_ok (W := []) (H := []) (xs := [y9s]) w08 trivial rfl (fun av x v K => by kernel_rfl) (fun av x n v K => by kernel_rfl)
theorem y01 : z38.Ok Tryz.prog := fn_ok (k := z38) (fn := Tryz.f25) (W := []) (H := [yf2]) Tryz.func25 w08 ⟨w8i, trivial⟩ rfl rfl (fun av x => by kernel_rfl)
def z6d (c : GCase) : Option GCase := gd (([] : List Int).length + c.marks.length ≤ SMALL) (gd (([] : List GItem).length + c.busy.length ≤ SMALL) (gd (([] : List Int).length + c.data.length ≤ SMALL) (gd (([] : List GDid).length + c.did.length ≤ SMALL) (some (GCase.mk c.state (([] : List Int) ++ c.marks) (([] : List GItem) ++ c.busy) (([] : List Int) ++ c.data) (([] : List GDid) ++ c.did))))))
def z8y : Con := ⟨86, [.v (.s .kase) false], [((.s .kase), true)], [], fun x => z6d x.1⟩
def wf3 : Fs := ⟨[], [], []⟩
theorem wi2 : wf3.Ok Tryz.prog := fs0
theorem zu4 : z8y.Ok Tryz.prog := fn_ok (k := z8y) (fn := Tryz.f86) (W := []) (H := []) Tryz.func86 wi2 trivial rfl rfl (fun av x => by kernel_rfl)
def z6x (n : GNet) (people : List Int) (c : GCase) (t : Int) (who : Int) : Option (GCase × Bool) := (z6d c).bind fun x1 => ((z8o n c).bind fun x2 => (if x2 = true then (if decide (c.state = 1) = true then ((zf2 n c.marks c.busy t).bind fun x5 => (if x5 = true then ((z98 n people c.did c.busy t).bind fun x7 => ((zb8 x7 who).bind fun x8 => (if x8 = true then (if decide ((c.busy.length : Int) = 6) = true then (some (x1, false)) else ((zl7 n c.marks t).bind fun x11 => (gd (x1.busy.length + [(GItem.mk t who 0)].length ≤ SMALL) (some ((GCase.mk x1.state x11 (x1.busy ++ [(GItem.mk t who 0)]) x1.data x1.did), true))))) else (some (x1, false))))) else (some (x1, false)))) else (some (x1, false))) else (some (x1, false))))
def ze2 : Con := ⟨32, [.v (.s .net) false, .v (.sl .I) false, .v (.s .kase) false, .v .I false, .v .I false], [((.s .kase), true), (.B, true)], [], fun x => z6x x.1 x.2.1 x.2.2.1 x.2.2.2.1 x.2.2.2.2.1⟩
def w43 : Fs := ⟨[z8y, z38, zr8, z13, z4b, z3y], [], []⟩
theorem w4o : w43.Ok Tryz.prog := (fsK zu4 (fsK y01 (fsK yr1 (fsK yr2 (fsK y8w (fsK w95 fs0))))))
theorem y8s : ze2.Ok Tryz.prog := fn_ok (k := ze2) (fn := Tryz.f32) (W := []) (H := []) Tryz.func32 w4o trivial rfl rfl (fun av x => by kernel_rfl)
def z9q (n : GNet) (c : GCase) (k : Int) (v : Int) (num : Int) : Option (GCase × Bool) := (z6d c).bind fun x1 => ((z8o n c).bind fun x2 => (if x2 = true then (if decide (c.state = 1) = true then (gd (ok64 ((c.busy.length : Int) - 1)) ((z03 k 0 ((c.busy.length : Int) - 1)).bind fun x6 => (if x6 = true then ((z03 v (-1) 2).bind fun x8 => (if x8 = true then ((z03 num (-99) 99).bind fun x10 => (if x10 = true then (if decide ((c.did.length : Int) = 60) = true then (some (x1, false)) else ((getI c.busy k).bind fun x13 => ((z7i c.data v num).bind fun x14 => (gd (ok64 (x13.did + 1)) ((getI x1.busy k).bind fun x16 => (gd (ok64 (x13.did + 1)) ((getI n.tasks x13.task).bind fun x18 => (if decide ((x13.did + 1) < x18.need) = true then (some ((GCase.mk x1.state x1.marks (x1.busy.set k.toNat (GItem.mk x16.task x16.who (x13.did + 1))) x14 x1.did), true)) else ((zl8 n c.marks x13.task x14).bind fun x20 => (if x20.2 = true then (gd ((0 : Int) ≤ k ∧ k ≤ (c.busy.length : Int)) (gd (([] : List GItem).length + (c.busy.take k.toNat).length ≤ SMALL) (gd (ok64 (k + 1)) (gd ((0 : Int) ≤ (k + 1) ∧ (k + 1) ≤ (c.busy.length : Int)) (gd ((([] : List GItem) ++ (c.busy.take k.toNat)).length + (c.busy.drop (k + 1).toNat).length ≤ SMALL) (gd (x1.did.length + [(GDid.mk x13.task x13.who)].length ≤ SMALL) ((getI x20.1 1).bind fun x28 => (if decide (0 < x28) = true then (some ((GCase.mk 2 x20.1 ([] : List GItem) x14 (x1.did ++ [(GDid.mk x13.task x13.who)])), true)) else (some ((GCase.mk x1.state x20.1 ((([] : List GItem) ++ (c.busy.take k.toNat)) ++ (c.busy.drop (k + 1).toNat)) x14 (x1.did ++ [(GDid.mk x13.task x13.who)])), true)))))))))) else ((z6d c).bind fun x30 => (some (x30, false))))))))))))) else (some (x1, false)))) else (some (x1, false)))) else (some (x1, false))))) else (some (x1, false))) else (some (x1, false))))
def zl1 : Con := ⟨112, [.v (.s .net) false, .v (.s .kase) false, .v .I false, .v .I false, .v .I false], [((.s .kase), true), (.B, true)], [], fun x => z9q x.1 x.2.1 x.2.2.1 x.2.2.2.1 x.2.2.2.2.1⟩
def w7i : Fs := ⟨[z8y, z38, z0o, zr7, z0z], [], []⟩
theorem w85 : w7i.Ok Tryz.prog := (fsK zu4 (fsK y01 (fsK z0w (fsK yr0 (fsK w96 fs0)))))
theorem yg5 : zl1.Ok Tryz.prog := fn_ok (k := zl1) (fn := Tryz.f112) (W := []) (H := []) Tryz.func112 w85 trivial rfl rfl (fun av x => by kernel_rfl)
def zl6 (n : GNet) (c : GCase) : Option (GCase × Bool) := (z6d c).bind fun x1 => ((z8o n c).bind fun x2 => (if x2 = true then (if decide (c.state = 1) = true then (some ((GCase.mk 3 x1.marks ([] : List GItem) x1.data x1.did), true)) else (some (x1, false))) else (some (x1, false))))
def y0r : Con := ⟨23, [.v (.s .net) false, .v (.s .kase) false], [((.s .kase), true), (.B, true)], [], fun x => zl6 x.1 x.2.1⟩
def w7h : Fs := ⟨[z8y, z38], [], []⟩
theorem w84 : w7h.Ok Tryz.prog := (fsK zu4 (fsK y01 fs0))
theorem w94 : y0r.Ok Tryz.prog := fn_ok (k := y0r) (fn := Tryz.f23) (W := []) (H := []) Tryz.func23 w84 trivial rfl rfl (fun av x => by kernel_rfl)
def z08 (c : GCase) : Option GCase := (z0n c.marks).bind fun x1 => (gd (([] : List GItem).length + c.busy.length ≤ SMALL) ((z0n c.data).bind fun x3 => (gd (([] : List GDid).length + c.did.length ≤ SMALL) (some (GCase.mk c.state x1 (([] : List GItem) ++ c.busy) x3 (([] : List GDid) ++ c.did))))))
def z33 : Con := ⟨84, [.v (.s .kase) false], [((.s .kase), true)], [], fun x => z08 x.1⟩
def yc1 : Fs := ⟨[z1v], [], []⟩
theorem yc7 : yc1.Ok Tryz.prog := (fsK z3g fs0)
theorem z6m : z33.Ok Tryz.prog := fn_ok (k := z33) (fn := Tryz.f84) (W := []) (H := []) Tryz.func84 yc7 trivial rfl rfl (fun av x => by kernel_rfl)
def y8c (s0_0 : Int) (bk0 : Int → Option Bool) (s1_0 : Int) : Option Bool := if ((decide (s0_0 = 0)) == (decide (s1_0 = 0))) = true then (if decide (1 < s1_0) = true then (some false) else (gd (ok64 (s0_0 + 1)) (bk0 (s0_0 + 1)))) else (some false)
def z16 (tree : List GNode) (s0_0 : Int) (kx1_0 : Int → Option Bool) : Nat → Int → Int → Option Bool
  | 0, _, _ => none
  | n1 + 1, s1_0, s1_1 => if decide (s1_1 < (tree.length : Int)) = true then ((getI tree s1_1).bind fun x15 => (if decide (x15.yes = s0_0) = true then (gd (ok64 (s1_0 + 1)) ((getI tree s1_1).bind fun x18 => (if decide (x18.no = s0_0) = true then (gd (ok64 ((s1_0 + 1) + 1)) (gd (ok64 (s1_1 + 1)) ((z16 tree s0_0 kx1_0 n1) ((s1_0 + 1) + 1) (s1_1 + 1)))) else (gd (ok64 (s1_1 + 1)) ((z16 tree s0_0 kx1_0 n1) (s1_0 + 1) (s1_1 + 1)))))) else ((getI tree s1_1).bind fun x23 => (if decide (x23.no = s0_0) = true then (gd (ok64 (s1_0 + 1)) (gd (ok64 (s1_1 + 1)) ((z16 tree s0_0 kx1_0 n1) (s1_0 + 1) (s1_1 + 1)))) else (gd (ok64 (s1_1 + 1)) ((z16 tree s0_0 kx1_0 n1) s1_0 (s1_1 + 1))))))) else (kx1_0 s1_0)
def y8d (s0_0 : Int) (bk0 : Int → Option Bool) (s2_0 : Int) : Option Bool := if ((decide (s0_0 = 0)) == (decide (s2_0 = 0))) = true then (if decide (1 < s2_0) = true then (some false) else (gd (ok64 (s0_0 + 1)) (bk0 (s0_0 + 1)))) else (some false)
def y8e (s0_0 : Int) (bk0 : Int → Option Bool) (s3_0 : Int) : Option Bool := if ((decide (s0_0 = 0)) == (decide (s3_0 = 0))) = true then (if decide (1 < s3_0) = true then (some false) else (gd (ok64 (s0_0 + 1)) (bk0 (s0_0 + 1)))) else (some false)
def y8f (s0_0 : Int) (bk0 : Int → Option Bool) (s4_0 : Int) : Option Bool := if ((decide (s0_0 = 0)) == (decide (s4_0 = 0))) = true then (if decide (1 < s4_0) = true then (some false) else (gd (ok64 (s0_0 + 1)) (bk0 (s0_0 + 1)))) else (some false)
def y8g  : Option Bool := some true
def z31 (tree : List GNode) (kx0_0 : Option Bool) : Nat → Int → Option Bool
  | 0, _ => none
  | n0 + 1, s0_0 => if decide (s0_0 < (tree.length : Int)) = true then ((getI tree s0_0).bind fun x3 => ((z6a x3.if_).bind fun x4 => (if x4 = true then ((z03 x3.ans 0 2).bind fun x6 => (if x6 = true then ((z2p x3.stone).bind fun x8 => (if x8 = true then ((z1d x3.if_ x3.stone).bind fun x10 => (if x10 = true then (if decide (x3.yes = (-1)) = true then (if decide (x3.no = (-1)) = true then (z16 tree s0_0 (y8c s0_0 (z31 tree kx0_0 n0)) FUEL 0 0) else (gd (ok64 (s0_0 + 1)) (gd (ok64 ((tree.length : Int) - 1)) ((z03 x3.no (s0_0 + 1) ((tree.length : Int) - 1)).bind fun x33 => (if x33 = true then (z16 tree s0_0 (y8d s0_0 (z31 tree kx0_0 n0)) FUEL 0 0) else (some false)))))) else (gd (ok64 (s0_0 + 1)) (gd (ok64 ((tree.length : Int) - 1)) ((z03 x3.yes (s0_0 + 1) ((tree.length : Int) - 1)).bind fun x54 => (if x54 = true then (if decide (x3.no = (-1)) = true then (z16 tree s0_0 (y8e s0_0 (z31 tree kx0_0 n0)) FUEL 0 0) else (gd (ok64 (s0_0 + 1)) (gd (ok64 ((tree.length : Int) - 1)) ((z03 x3.no (s0_0 + 1) ((tree.length : Int) - 1)).bind fun x76 => (if x76 = true then (z16 tree s0_0 (y8f s0_0 (z31 tree kx0_0 n0)) FUEL 0 0) else (some false)))))) else (some false)))))) else (some false))) else (some false))) else (some false))) else (some false)))) else (kx0_0)
def z8r (tree : List GNode) : Option Bool := if decide (12 < (tree.length : Int)) = true then (some false) else (z31 tree y8g FUEL 0)
def z1a : Con := ⟨129, [.v (.sl (.s .node)) false], [(.B, true)], [], fun x => z8r x.1⟩
def wt5 : Fs := ⟨[z8h, z0o, z19, z4a], [], []⟩
theorem y70 : wt5.Ok Tryz.prog := (fsK zn9 (fsK z0w (fsK z6f (fsK z76 fs0))))
def y5s : Tmpl := ⟨[(0, .c (.s (.s .node))), (3, .c .i), (5, .c .i), (6, .c .i)], []⟩
def y2v : Tmpl := ⟨[(0, .c (.s (.s .node))), (3, .c .i), (5, .c .i)], []⟩
def w1c (av : AV) (x : HP z1a.ps) (n : Nat) (v : y5s.den) (K : Ks (CR z1a)) : Option (CR z1a) := z16 v.1.1 v.1.2.1 (fun s1_0 => y2v.at none ((v.1.1, v.1.2.1, s1_0, ()), ()) (K (.exit 2))) n v.1.2.2.1 v.1.2.2.2.1
def y4w (av : AV) (x : HP z1a.ps) : Hdl (CR z1a) := hnd [] y5s (w1c av x)
theorem w2a : LP z1a Tryz.f129 [0, 0] y4w := lp_ok (W := []) (H := []) (xs := [y2v]) y70 trivial rfl (fun av x v K => by kernel_rfl) (fun av x n v K => by kernel_rfl)
def yi3 : Tmpl := ⟨[(0, .c (.s (.s .node))), (3, .c .i)], []⟩
def y9y : Tmpl := ⟨[], []⟩
def w6z (av : AV) (x : HP z1a.ps) (n : Nat) (v : yi3.den) (K : Ks (CR z1a)) : Option (CR z1a) := z31 v.1.1 (y9y.at none ((), ()) (K (.exit 0))) n v.1.2.1
def yf8 (av : AV) (x : HP z1a.ps) : Hdl (CR z1a) := hnd [] yi3 (w6z av x)
theorem w8o : LP z1a Tryz.f129 [0] yf8 := lp_ok (W := []) (H := [y4w]) (xs := [y9y]) y70 ⟨w2a, trivial⟩ rfl (fun av x v K => by kernel_rfl) (fun av x n v K => by kernel_rfl)
theorem y8u : z1a.Ok Tryz.prog := fn_ok (k := z1a) (fn := Tryz.f129) (W := []) (H := [yf8]) Tryz.func129 y70 ⟨w8o, trivial⟩ rfl rfl (fun av x => by kernel_rfl)
def y5a (s0_0 : Int) (s0_1 : Int) : Option (Int × Int) := some (s0_0, s0_1)
def y5b (s0_0 : Int) (s0_1 : Int) : Option (Int × Int) := some (s0_0, s0_1)
def z3e (tree : List GNode) (data : List Int) (kx0_0 : Int → Int → Option (Int × Int)) (kx0_1 : Int → Int → Option (Int × Int)) : Nat → Int → Int → Int → Int → Option (Int × Int)
  | 0, _, _, _, _ => none
  | n0 + 1, s0_0, s0_1, s0_2, s0_3 => if decide (s0_3 < 12) = true then (if decide (s0_2 = (-1)) = true then (kx0_0 s0_0 s0_1) else ((getI tree s0_2).bind fun x4 => ((z1d x4.if_ data).bind fun x5 => (if x5 = true then ((getI tree s0_2).bind fun x7 => (gd (ok64 (s0_3 + 1)) ((z3e tree data kx0_0 kx0_1 n0) s0_2 s0_2 x7.yes (s0_3 + 1)))) else ((getI tree s0_2).bind fun x9 => (gd (ok64 (s0_3 + 1)) ((z3e tree data kx0_0 kx0_1 n0) s0_0 s0_2 x9.no (s0_3 + 1)))))))) else (kx0_1 s0_0 s0_1)
def y5c (s1_0 : Int) (s1_1 : Int) : Option (Int × Int) := some (s1_0, s1_1)
def y5d (s1_0 : Int) (s1_1 : Int) : Option (Int × Int) := some (s1_0, s1_1)
def z7m (tree : List GNode) (data : List Int) : Option (Int × Int) := if decide ((tree.length : Int) = 0) = true then (z3e tree data y5a y5b FUEL (-1) (-1) (-1) 0) else (z3e tree data y5c y5d FUEL (-1) (-1) 0 0)
def z2y : Con := ⟨209, [.v (.sl (.s .node)) false, .v (.sl .I) false], [(.I, true), (.I, true)], [], fun x => z7m x.1 x.2.1⟩
def wf6 : Fs := ⟨[z4a], [], []⟩
theorem yo9 : wf6.Ok Tryz.prog := (fsK z76 fs0)
def y9f : Tmpl := ⟨[(0, .c (.s (.s .node))), (1, .c (.s .I)), (6, .c .i), (7, .c .i), (8, .c .i), (9, .c .i)], []⟩
def zp6 : Tmpl := ⟨[(6, .c .i), (7, .c .i)], []⟩
def w3i (av : AV) (x : HP z2y.ps) (n : Nat) (v : y9f.den) (K : Ks (CR z2y)) : Option (CR z2y) := z3e v.1.1 v.1.2.1 (fun s0_0 s0_1 => zp6.at none ((s0_0, s0_1, ()), ()) (K (.exit 0))) (fun s0_0 s0_1 => zp6.at none ((s0_0, s0_1, ()), ()) (K (.exit 0))) n v.1.2.2.1 v.1.2.2.2.1 v.1.2.2.2.2.1 v.1.2.2.2.2.2.1
def y7j (av : AV) (x : HP z2y.ps) : Hdl (CR z2y) := hnd [] y9f (w3i av x)
theorem w5c : LP z2y Tryz.f209 [0] y7j := lp_ok (W := []) (H := []) (xs := [zp6]) yo9 trivial rfl (fun av x v K => by kernel_rfl) (fun av x n v K => by kernel_rfl)
theorem y4a : z2y.Ok Tryz.prog := fn_ok (k := z2y) (fn := Tryz.f209) (W := []) (H := [y7j]) Tryz.func209 yo9 ⟨w5c, trivial⟩ rfl rfl (fun av x => by kernel_rfl)
def zt5 (tree : List GNode) (data : List Int) : Option Int := (z8r tree).bind fun x1 => (if x1 = true then ((z2p data).bind fun x3 => (if x3 = true then ((z7m tree data).bind fun x5 => (if decide (x5.1 = (-1)) = true then (some 0) else ((getI tree x5.1).bind fun x7 => (some x7.ans)))) else (some 0))) else (some 0))
def y3r : Con := ⟨186, [.v (.sl (.s .node)) false, .v (.sl .I) false], [(.I, true)], [], fun x => zt5 x.1 x.2.1⟩
def we5 : Fs := ⟨[z1a, z19, z2y], [], []⟩
theorem wh6 : we5.Ok Tryz.prog := (fsK y8u (fsK z6f (fsK y4a fs0)))
theorem wm1 : y3r.Ok Tryz.prog := fn_ok (k := y3r) (fn := Tryz.f186) (W := []) (H := []) Tryz.func186 wh6 trivial rfl rfl (fun av x => by kernel_rfl)
def zt9 (tree : List GNode) (a : List Int) (b : List Int) : Option Bool := (z7m tree a).bind fun x1 => ((z7m tree b).bind fun x2 => (if decide (x1.2 = x2.2) = true then (if decide (x1.2 = (-1)) = true then (some true) else ((getI tree x1.2).bind fun x5 => ((z1d x5.if_ a).bind fun x6 => ((getI tree x1.2).bind fun x7 => ((z1d x7.if_ b).bind fun x8 => (some (x6 == x8))))))) else (some false)))
def y3u : Con := ⟨210, [.v (.sl (.s .node)) false, .v (.sl .I) false, .v (.sl .I) false], [(.B, true)], [], fun x => zt9 x.1 x.2.1 x.2.2.1⟩
def wf5 : Fs := ⟨[z2y, z4a], [], []⟩
theorem wi3 : wf5.Ok Tryz.prog := (fsK y4a (fsK z76 fs0))
theorem wm5 : y3u.Ok Tryz.prog := fn_ok (k := y3u) (fn := Tryz.f210) (W := []) (H := []) Tryz.func210 wi3 trivial rfl rfl (fun av x => by kernel_rfl)
def zp2 (l0_1 : List GNode) : Option (List GNode) := some l0_1
def z5u (tree : List GNode) (kx0_0 : List GNode → Option (List GNode)) : Nat → Int → List GNode → Option (List GNode)
  | 0, _, _ => none
  | n0 + 1, s0_0, l0_1 => if decide (s0_0 < (tree.length : Int)) = true then ((getI tree s0_0).bind fun x2 => (gd (([] : List Int).length + x2.stone.length ≤ SMALL) (gd (l0_1.length + [(GNode.mk x2.if_ x2.yes x2.no x2.ans (([] : List Int) ++ x2.stone))].length ≤ SMALL) (gd (ok64 (s0_0 + 1)) ((z5u tree kx0_0 n0) (s0_0 + 1) (l0_1 ++ [(GNode.mk x2.if_ x2.yes x2.no x2.ans (([] : List Int) ++ x2.stone))])))))) else (kx0_0 l0_1)
def zh0 (tree : List GNode) : Option (List GNode) := z5u tree zp2 FUEL 0 ([] : List GNode)
def z46 : Con := ⟨189, [.v (.sl (.s .node)) false], [((.sl (.s .node)), true)], [], fun x => zh0 x.1⟩
def wf4 : Fs := ⟨[], [], []⟩
theorem yo8 : wf4.Ok Tryz.prog := fs0
def y9e : Tmpl := ⟨[(0, .c (.s (.s .node))), (3, .c (.ref 6)), (4, .c .i)], [(6, .arr (.s .node) true)]⟩
def y6d : Tmpl := ⟨[(3, .c (.ref 6))], [(6, .arr (.s .node) true)]⟩
def w3h (av : AV) (x : HP z46.ps) (n : Nat) (v : y9e.den) (K : Ks (CR z46)) : Option (CR z46) := z5u v.1.1 (fun l0_1 => y6d.at none (((), ()), (l0_1, ())) (K (.exit 0))) n v.1.2.2.1 v.2.1
def y7i (av : AV) (x : HP z46.ps) : Hdl (CR z46) := hnd [] y9e (w3h av x)
theorem w5b : LP z46 Tryz.f189 [0] y7i := lp_ok (W := []) (H := []) (xs := [y6d]) yo8 trivial rfl (fun av x v K => by kernel_rfl) (fun av x n v K => by kernel_rfl)
theorem yr6 : z46.Ok Tryz.prog := fn_ok (k := z46) (fn := Tryz.f189) (W := []) (H := [y7i]) Tryz.func189 yo8 ⟨w5b, trivial⟩ rfl rfl (fun av x => by kernel_rfl)
def za1 (tree : List GNode) (data : List Int) (e : GAsk) (ans : Int) (x1 : (List GNode)) : Option ((List GNode) × Bool) := (z7m tree data).bind fun x20 => (if decide (x20.2 = (-1)) = true then (gd (([] : List Int).length + data.length ≤ SMALL) (gd (x1.length + [(GNode.mk e (-1) (-1) ans (([] : List Int) ++ data))].length ≤ SMALL) (some ((x1 ++ [(GNode.mk e (-1) (-1) ans (([] : List Int) ++ data))]), true)))) else ((getI tree x20.2).bind fun x24 => ((z1d x24.if_ data).bind fun x25 => (if x25 = true then ((getI x1 x20.2).bind fun x27 => (gd (([] : List Int).length + data.length ≤ SMALL) (gd ((x1.set x20.2.toNat (GNode.mk x27.if_ (tree.length : Int) x27.no x27.ans x27.stone)).length + [(GNode.mk e (-1) (-1) ans (([] : List Int) ++ data))].length ≤ SMALL) (some (((x1.set x20.2.toNat (GNode.mk x27.if_ (tree.length : Int) x27.no x27.ans x27.stone)) ++ [(GNode.mk e (-1) (-1) ans (([] : List Int) ++ data))]), true))))) else ((getI x1 x20.2).bind fun x30 => (gd (([] : List Int).length + data.length ≤ SMALL) (gd ((x1.set x20.2.toNat (GNode.mk x30.if_ x30.yes (tree.length : Int) x30.ans x30.stone)).length + [(GNode.mk e (-1) (-1) ans (([] : List Int) ++ data))].length ≤ SMALL) (some (((x1.set x20.2.toNat (GNode.mk x30.if_ x30.yes (tree.length : Int) x30.ans x30.stone)) ++ [(GNode.mk e (-1) (-1) ans (([] : List Int) ++ data))]), true)))))))))
def z4q (tree : List GNode) (data : List Int) (e : GAsk) (x1 : (List GNode)) (kx0_0 : Option ((List GNode) × Bool)) : Nat → Int → Option ((List GNode) × Bool)
  | 0, _ => none
  | n0 + 1, s0_0 => if decide (s0_0 < (tree.length : Int)) = true then ((getI tree s0_0).bind fun x12 => ((zt9 tree x12.stone data).bind fun x13 => (if x13 = true then ((getI tree s0_0).bind fun x15 => ((z1d e x15.stone).bind fun x16 => (if x16 = true then (some (x1, false)) else (gd (ok64 (s0_0 + 1)) ((z4q tree data e x1 kx0_0 n0) (s0_0 + 1)))))) else (gd (ok64 (s0_0 + 1)) ((z4q tree data e x1 kx0_0 n0) (s0_0 + 1)))))) else (kx0_0)
def z7j (tree : List GNode) (data : List Int) (e : GAsk) (ans : Int) : Option ((List GNode) × Bool) := (zh0 tree).bind fun x1 => ((z8r tree).bind fun x2 => (if x2 = true then ((z2p data).bind fun x4 => (if x4 = true then ((z1d e data).bind fun x6 => (if x6 = true then ((z03 ans 0 2).bind fun x8 => (if x8 = true then (if decide ((tree.length : Int) = 12) = true then (some (x1, false)) else (z4q tree data e x1 (za1 tree data e ans x1) FUEL 0)) else (some (x1, false)))) else (some (x1, false)))) else (some (x1, false)))) else (some (x1, false))))
def z3z : Con := ⟨187, [.v (.sl (.s .node)) false, .v (.sl .I) false, .v (.s .ask) false, .v .I false], [((.sl (.s .node)), true), (.B, true)], [], fun x => z7j x.1 x.2.1 x.2.2.1 x.2.2.2.1⟩
def we4 : Fs := ⟨[z46, z1a, z19, z4a, z0o, y3u, z2y], [], []⟩
theorem yo5 : we4.Ok Tryz.prog := (fsK yr6 (fsK y8u (fsK z6f (fsK z76 (fsK z0w (fsK wm5 (fsK y4a fs0)))))))
def y9b : Tmpl := ⟨[(0, .c (.s (.s .node))), (1, .c (.s .I)), (3, .c .i), (6, .c (.bx 6 0)), (10, .c (.ref 15)), (11, .c .i)], [(6, .boxT (.s .ask)), (15, .arr (.s .node) true)]⟩
def y6a : Tmpl := ⟨[(0, .c (.s (.s .node))), (1, .c (.s .I)), (3, .c .i), (6, .c (.bx 6 0)), (10, .c (.ref 15))], [(6, .boxT (.s .ask)), (15, .arr (.s .node) true)]⟩
def w3e (av : AV) (x : HP z3z.ps) (n : Nat) (v : y9b.den) (K : Ks (CR z3z)) : Option (CR z3z) := z4q v.1.1 v.1.2.1 v.2.1 v.2.2.1 (y6a.at none ((v.1.1, v.1.2.1, v.1.2.2.1, (), (), ()), (v.2.1, v.2.2.1, ())) (K (.exit 0))) n v.1.2.2.2.2.2.1
def y7f (av : AV) (x : HP z3z.ps) : Hdl (CR z3z) := hnd [] y9b (w3e av x)
theorem w58 : LP z3z Tryz.f187 [0] y7f := lp_ok (W := []) (H := []) (xs := [y6a]) yo5 trivial rfl (fun av x v K => by kernel_rfl) (fun av x n v K => by kernel_rfl)
theorem yr3 : z3z.Ok Tryz.prog := fn_ok (k := z3z) (fn := Tryz.f187) (W := []) (H := [y7f]) Tryz.func187 yo5 ⟨w58, trivial⟩ rfl rfl (fun av x => by kernel_rfl)
def z4d (ans : Int) : Option Bool := (z0d ans 0 2).bind fun x1 => (some x1)
def z8f : Con := ⟨121, [.v .I false], [(.B, true)], [], fun x => z4d x.1⟩
def w41 : Fs := ⟨[z22], [], []⟩
theorem w4m : w41.Ok Tryz.prog := (fsK z2r fs0)
theorem zw5 : z8f.Ok Tryz.prog := fn_ok (k := z8f) (fn := Tryz.f121) (W := []) (H := []) Tryz.func121 w4m trivial rfl rfl (fun av x => by kernel_rfl)
def z9i (l0_1 : List GNode) : Option (List GNode) := some l0_1
def z37 (tree : List GNode) (p0_0 : Int) (kx0_0 : List GNode → Option (List GNode)) : Nat → Int → List GNode → Option (List GNode)
  | 0, _, _ => none
  | n0 + 1, s0_0, l0_1 => if decide (s0_0 < p0_0) = true then ((getI tree s0_0).bind fun x2 => ((z0n x2.stone).bind fun x3 => (gd (l0_1.length + [(GNode.mk x2.if_ x2.yes x2.no x2.ans x3)].length ≤ SMALL) (gd (ok64 (s0_0 + 1)) ((z37 tree p0_0 kx0_0 n0) (s0_0 + 1) (l0_1 ++ [(GNode.mk x2.if_ x2.yes x2.no x2.ans x3)])))))) else (kx0_0 l0_1)
def z6t (tree : List GNode) : Option (List GNode) := z37 tree (tree.length : Int) z9i FUEL 0 ([] : List GNode)
def z1g : Con := ⟨183, [.v (.sl (.s .node)) false], [((.sl (.s .node)), true)], [], fun x => z6t x.1⟩
def yv9 : Fs := ⟨[z1v], [], []⟩
theorem y1h : yv9.Ok Tryz.prog := (fsK z3g fs0)
def zx3 : Tmpl := ⟨[(3, .c (.ref 500003)), (6, .c (.s (.s .node))), (7, .c .i), (8, .c .i)], [(500003, .arr (.s .node) true)]⟩
def zq8 : Tmpl := ⟨[(3, .c (.ref 500003))], [(500003, .arr (.s .node) true)]⟩
def yi9 (av : AV) (x : HP z1g.ps) (n : Nat) (v : zx3.den) (K : Ks (CR z1g)) : Option (CR z1g) := z37 v.1.2.1 v.1.2.2.1 (fun l0_1 => zq8.at none (((), ()), (l0_1, ())) (K (.exit 0))) n v.1.2.2.2.1 v.2.1
def zv4 (av : AV) (x : HP z1g.ps) : Hdl (CR z1g) := hnd [.e 3 500003 (.s .node)] zx3 (yi9 av x)
theorem yk5 : LP z1g Tryz.f183 [0] zv4 := lp_ok (W := []) (H := []) (xs := [zq8]) y1h trivial rfl (fun av x v K => by kernel_rfl) (fun av x n v K => by kernel_rfl)
theorem y26 : z1g.Ok Tryz.prog := fn_ok (k := z1g) (fn := Tryz.f183) (W := []) (H := [zv4]) Tryz.func183 y1h ⟨yk5, trivial⟩ rfl rfl (fun av x => by kernel_rfl)
def y5e  : Option Bool := some true
def z5x (nets : List GNet) (kx0_0 : Option Bool) : Nat → Int → Option Bool
  | 0, _ => none
  | n0 + 1, s0_0 => if decide (s0_0 < (nets.length : Int)) = true then ((getI nets s0_0).bind fun x4 => ((z3d x4).bind fun x5 => (if x5 = true then (gd (ok64 (s0_0 + 1)) ((z5x nets kx0_0 n0) (s0_0 + 1))) else (some false)))) else (kx0_0)
def zh2 (nets : List GNet) : Option Bool := (z03 (nets.length : Int) 1 3).bind fun x1 => (if x1 = true then (z5x nets y5e FUEL 0) else (some false))
def z47 : Con := ⟨128, [.v (.sl (.s .net)) false], [(.B, true)], [], fun x => zh2 x.1⟩
def wg0 : Fs := ⟨[z0o, z2n], [], []⟩
theorem yp0 : wg0.Ok Tryz.prog := (fsK z0w (fsK zo0 fs0))
def y9i : Tmpl := ⟨[(0, .c (.s (.s .net))), (3, .c .i)], []⟩
def y6g : Tmpl := ⟨[], []⟩
def w3l (av : AV) (x : HP z47.ps) (n : Nat) (v : y9i.den) (K : Ks (CR z47)) : Option (CR z47) := z5x v.1.1 (y6g.at none ((), ()) (K (.exit 0))) n v.1.2.1
def y7m (av : AV) (x : HP z47.ps) : Hdl (CR z47) := hnd [] y9i (w3l av x)
theorem w5f : LP z47 Tryz.f128 [0] y7m := lp_ok (W := []) (H := []) (xs := [y6g]) yp0 trivial rfl (fun av x v K => by kernel_rfl) (fun av x n v K => by kernel_rfl)
theorem yr8 : z47.Ok Tryz.prog := fn_ok (k := z47) (fn := Tryz.f128) (W := []) (H := [y7m]) Tryz.func128 yp0 ⟨w5f, trivial⟩ rfl rfl (fun av x => by kernel_rfl)
def za8 (p0_1 : Int) (l0_1 : List GTask) : Option GNet := some (GNet.mk p0_1 l0_1)
def z3t (n : GNet) (kx0_0 : List GTask → Option GNet) : Nat → Int → List GTask → Option GNet
  | 0, _, _ => none
  | n0 + 1, s0_0, l0_1 => if decide (s0_0 < (n.tasks.length : Int)) = true then ((getI n.tasks s0_0).bind fun x2 => (gd (([] : List Int).length + x2.in_.length ≤ SMALL) (gd (([] : List GFlow).length + x2.out.length ≤ SMALL) (gd (([] : List Int).length + x2.clear.length ≤ SMALL) (gd (l0_1.length + [(GTask.mk x2.join x2.split (([] : List Int) ++ x2.in_) (([] : List GFlow) ++ x2.out) (([] : List Int) ++ x2.clear) x2.role x2.apart x2.all x2.need)].length ≤ SMALL) (gd (ok64 (s0_0 + 1)) ((z3t n kx0_0 n0) (s0_0 + 1) (l0_1 ++ [(GTask.mk x2.join x2.split (([] : List Int) ++ x2.in_) (([] : List GFlow) ++ x2.out) (([] : List Int) ++ x2.clear) x2.role x2.apart x2.all x2.need)])))))))) else (kx0_0 l0_1)
def z7v (n : GNet) : Option GNet := z3t n (za8 n.places) FUEL 0 ([] : List GTask)
def z1x : Con := ⟨190, [.v (.s .net) false], [((.s .net), true)], [], fun x => z7v x.1⟩
def w1s : Fs := ⟨[], [], []⟩
theorem y4k : w1s.Ok Tryz.prog := fs0
def y07 : Tmpl := ⟨[(1, .c (.bx 1 0)), (2, .c (.bx 2 0)), (3, .c (.bx 3 0)), (4, .c .i)], [(1, .boxT (.s .net)), (2, .box [.i, .nl]), (3, .box [.i, .ref 510301]), (510301, .arr (.s .task) true)]⟩
def zx8 : Tmpl := ⟨[(2, .c (.bx 2 0)), (3, .c (.bx 3 0))], [(2, .box [.i, .nl]), (3, .box [.i, .ref 510301]), (510301, .arr (.s .task) true)]⟩
def ym2 (av : AV) (x : HP z1x.ps) (n : Nat) (v : y07.den) (K : Ks (CR z1x)) : Option (CR z1x) := z3t v.2.1 (fun l0_1 => zx8.at none (((), (), ()), ((v.2.2.1.1, (), ()), (v.2.2.2.1.1, (), ()), l0_1, ())) (K (.exit 0))) n v.1.2.2.2.1 v.2.2.2.2.1
def zy5 (av : AV) (x : HP z1x.ps) : Hdl (CR z1x) := hnd [.b 3 1 510301 (.s .task)] y07 (ym2 av x)
theorem yp9 : LP z1x Tryz.f190 [0] zy5 := lp_ok (W := []) (H := []) (xs := [zx8]) y4k trivial rfl (fun av x v K => by kernel_rfl) (fun av x n v K => by kernel_rfl)
theorem y5g : z1x.Ok Tryz.prog := fn_ok (k := z1x) (fn := Tryz.f190) (W := []) (H := [zy5]) Tryz.func190 y4k ⟨yp9, trivial⟩ rfl rfl (fun av x => by kernel_rfl)
def zp0 (p0_0 : List Int) (l0_1 : List GNet) : Option GHouse := some (GHouse.mk l0_1 p0_0 [] [])
def z5q (nets : List GNet) (kx0_0 : List GNet → Option GHouse) : Nat → Int → List GNet → Option GHouse
  | 0, _, _ => none
  | n0 + 1, s0_0, l0_1 => if decide (s0_0 < (nets.length : Int)) = true then ((getI nets s0_0).bind fun x7 => ((z7v x7).bind fun x8 => (gd (l0_1.length + [x8].length ≤ SMALL) (gd (ok64 (s0_0 + 1)) ((z5q nets kx0_0 n0) (s0_0 + 1) (l0_1 ++ [x8])))))) else (kx0_0 l0_1)
def zt2 (nets : List GNet) (people : List Int) : Option GHouse := (zh2 nets).bind fun x1 => (if x1 = true then ((z8q people).bind fun x3 => (if x3 = true then (gd (([] : List Int).length + people.length ≤ SMALL) (z5q nets (zp0 (([] : List Int) ++ people)) FUEL 0 ([] : List GNet))) else (some (GHouse.mk [] [] [] [])))) else (some (GHouse.mk [] [] [] [])))
def z4y : Con := ⟨195, [.v (.sl (.s .net)) false, .v (.sl .I) false], [((.s .house), true)], [], fun x => zt2 x.1 x.2.1⟩
def we0 : Fs := ⟨[z47, z3a, z1x], [], []⟩
theorem yo2 : we0.Ok Tryz.prog := (fsK yr8 (fsK y03 (fsK y5g fs0)))
def y97 : Tmpl := ⟨[(0, .c (.s (.s .net))), (4, .c (.bx 4 0)), (5, .c (.bx 5 0)), (6, .c .i)], [(4, .box [.nl, .nl, .nl, .nl]), (5, .box [.ref 510500, .ref 18, .nl, .nl]), (510500, .arr (.s .net) true), (18, .arr .I true)]⟩
def y66 : Tmpl := ⟨[(4, .c (.bx 4 0)), (5, .c (.bx 5 0))], [(4, .box [.nl, .nl, .nl, .nl]), (5, .box [.ref 510500, .ref 18, .nl, .nl]), (510500, .arr (.s .net) true), (18, .arr .I true)]⟩
def w3a (av : AV) (x : HP z4y.ps) (n : Nat) (v : y97.den) (K : Ks (CR z4y)) : Option (CR z4y) := z5q v.1.1 (fun l0_1 => y66.at none (((), (), ()), (((), (), (), (), ()), ((), (), (), (), ()), l0_1, v.2.2.2.2.1, ())) (K (.exit 0))) n v.1.2.2.2.1 v.2.2.2.1
def y7b (av : AV) (x : HP z4y.ps) : Hdl (CR z4y) := hnd [.b 5 0 510500 (.s .net)] y97 (w3a av x)
theorem w54 : LP z4y Tryz.f195 [0] y7b := lp_ok (W := []) (H := []) (xs := [y66]) yo2 trivial rfl (fun av x v K => by kernel_rfl) (fun av x n v K => by kernel_rfl)
theorem wl8 : z4y.Ok Tryz.prog := fn_ok (k := z4y) (fn := Tryz.f195) (W := []) (H := [y7b]) Tryz.func195 yo2 ⟨w54, trivial⟩ rfl rfl (fun av x => by kernel_rfl)
def y88  : Option Bool := some true
def z6z (h : GHouse) (kx0_0 : Option Bool) : Nat → Int → Option Bool
  | 0, _ => none
  | n0 + 1, s0_0 => if decide (s0_0 < (h.runs.length : Int)) = true then ((getI h.runs s0_0).bind fun x9 => (gd (ok64 ((h.nets.length : Int) - 1)) ((z03 x9.net 0 ((h.nets.length : Int) - 1)).bind fun x11 => (if x11 = true then ((getI h.runs s0_0).bind fun x13 => ((getI h.nets x13.net).bind fun x14 => ((getI h.runs s0_0).bind fun x15 => ((z8o x14 x15.case).bind fun x16 => (if x16 = true then (gd (ok64 (s0_0 + 1)) ((z6z h kx0_0 n0) (s0_0 + 1))) else (some false)))))) else (some false))))) else (kx0_0)
def zz4 (h : GHouse) : Option Bool := (zh2 h.nets).bind fun x1 => (if x1 = true then ((z8q h.people).bind fun x3 => (if x3 = true then ((z8r h.tree).bind fun x5 => (if x5 = true then (if decide (5 < (h.runs.length : Int)) = true then (some false) else (z6z h y88 FUEL 0)) else (some false))) else (some false))) else (some false))
def z64 : Con := ⟨54, [.v (.s .house) false], [(.B, true)], [], fun x => zz4 x.1⟩
def wt0 : Fs := ⟨[z47, z3a, z1a, z0o, z38], [], []⟩
theorem w0a : wt0.Ok Tryz.prog := (fsK yr8 (fsK y03 (fsK y8u (fsK z0w (fsK y01 fs0)))))
def yh9 : Tmpl := ⟨[(1, .c (.bx 1 0)), (3, .c .i)], [(1, .boxT (.s .house))]⟩
def y9u : Tmpl := ⟨[], []⟩
def w6v (av : AV) (x : HP z64.ps) (n : Nat) (v : yh9.den) (K : Ks (CR z64)) : Option (CR z64) := z6z v.2.1 (y9u.at none ((), ()) (K (.exit 0))) n v.1.2.1
def yf4 (av : AV) (x : HP z64.ps) : Hdl (CR z64) := hnd [] yh9 (w6v av x)
theorem w8k : LP z64 Tryz.f54 [0] yf4 := lp_ok (W := []) (H := []) (xs := [y9u]) w0a trivial rfl (fun av x v K => by kernel_rfl) (fun av x n v K => by kernel_rfl)
theorem wy7 : z64.Ok Tryz.prog := fn_ok (k := z64) (fn := Tryz.f54) (W := []) (H := [yf4]) Tryz.func54 w0a ⟨w8k, trivial⟩ rfl rfl (fun av x => by kernel_rfl)
def zp3 (x2 : (List GNode)) (p0_0 : List Int) (l0_1 : List GNet) (l1_1 : List GRun) : Option GHouse := some (GHouse.mk l0_1 p0_0 x2 l1_1)
def z5w (h : GHouse) (kx1_0 : List GRun → Option GHouse) : Nat → Int → List GRun → Option GHouse
  | 0, _, _ => none
  | n1 + 1, s1_0, l1_1 => if decide (s1_0 < (h.runs.length : Int)) = true then ((getI h.runs s1_0).bind fun x9 => ((getI h.runs s1_0).bind fun x10 => ((z6d x10.case).bind fun x11 => (gd (l1_1.length + [(GRun.mk x9.net x11)].length ≤ SMALL) (gd (ok64 (s1_0 + 1)) ((z5w h kx1_0 n1) (s1_0 + 1) (l1_1 ++ [(GRun.mk x9.net x11)]))))))) else (kx1_0 l1_1)
def za4 (h : GHouse) (x2 : (List GNode)) (p0_0 : List Int) (l0_1 : List GNet) : Option GHouse := z5w h (zp3 x2 p0_0 l0_1) FUEL 0 ([] : List GRun)
def z5v (h : GHouse) (kx0_0 : List GNet → Option GHouse) : Nat → Int → List GNet → Option GHouse
  | 0, _, _ => none
  | n0 + 1, s0_0, l0_1 => if decide (s0_0 < (h.nets.length : Int)) = true then ((getI h.nets s0_0).bind fun x4 => ((z7v x4).bind fun x5 => (gd (l0_1.length + [x5].length ≤ SMALL) (gd (ok64 (s0_0 + 1)) ((z5v h kx0_0 n0) (s0_0 + 1) (l0_1 ++ [x5])))))) else (kx0_0 l0_1)
def zh1 (h : GHouse) : Option GHouse := gd (([] : List Int).length + h.people.length ≤ SMALL) ((zh0 h.tree).bind fun x2 => (z5v h (za4 h x2 (([] : List Int) ++ h.people)) FUEL 0 ([] : List GNet)))
def z14 : Con := ⟨135, [.v (.s .house) false], [((.s .house), true)], [], fun x => zh1 x.1⟩
def wf8 : Fs := ⟨[z46, z1x, z8y], [], []⟩
theorem y3g : wf8.Ok Tryz.prog := (fsK yr6 (fsK y5g (fsK zu4 fs0)))
def y9g : Tmpl := ⟨[(1, .c (.bx 1 0)), (2, .c (.bx 2 0)), (3, .c (.bx 3 0)), (4, .c .i)], [(1, .boxT (.s .house)), (2, .box [.nl, .nl, .nl, .nl]), (3, .box [.ref 510300, .ref 9, .ref 12, .nl]), (510300, .arr (.s .net) true), (9, .arr .I true), (12, .arr (.s .node) true)]⟩
def y6e : Tmpl := ⟨[(1, .c (.bx 1 0)), (2, .c (.bx 2 0)), (3, .c (.bx 3 0))], [(1, .boxT (.s .house)), (2, .box [.nl, .nl, .nl, .nl]), (3, .box [.ref 510300, .ref 9, .ref 12, .nl]), (510300, .arr (.s .net) true), (9, .arr .I true), (12, .arr (.s .node) true)]⟩
def w3j (av : AV) (x : HP z14.ps) (n : Nat) (v : y9g.den) (K : Ks (CR z14)) : Option (CR z14) := z5v v.2.1 (fun l0_1 => y6e.at none (((), (), (), ()), (v.2.1, ((), (), (), (), ()), ((), (), (), (), ()), l0_1, v.2.2.2.2.2.1, v.2.2.2.2.2.2.1, ())) (K (.exit 0))) n v.1.2.2.2.1 v.2.2.2.2.1
def y7k (av : AV) (x : HP z14.ps) : Hdl (CR z14) := hnd [.b 3 0 510300 (.s .net)] y9g (w3j av x)
theorem w5d : LP z14 Tryz.f135 [0] y7k := lp_ok (W := []) (H := []) (xs := [y6e]) y3g trivial rfl (fun av x v K => by kernel_rfl) (fun av x n v K => by kernel_rfl)
def y9h : Tmpl := ⟨[(1, .c (.bx 1 0)), (2, .c (.bx 2 0)), (3, .c (.bx 3 0)), (5, .c .i)], [(1, .boxT (.s .house)), (2, .box [.nl, .nl, .nl, .nl]), (3, .box [.ref 510300, .ref 9, .ref 12, .ref 510303]), (510300, .arr (.s .net) true), (9, .arr .I true), (12, .arr (.s .node) true), (510303, .arr (.s .run) true)]⟩
def y6f : Tmpl := ⟨[(2, .c (.bx 2 0)), (3, .c (.bx 3 0))], [(2, .box [.nl, .nl, .nl, .nl]), (3, .box [.ref 510300, .ref 9, .ref 12, .ref 510303]), (510300, .arr (.s .net) true), (9, .arr .I true), (12, .arr (.s .node) true), (510303, .arr (.s .run) true)]⟩
def w3k (av : AV) (x : HP z14.ps) (n : Nat) (v : y9h.den) (K : Ks (CR z14)) : Option (CR z14) := z5w v.2.1 (fun l1_1 => y6f.at none (((), (), ()), (((), (), (), (), ()), ((), (), (), (), ()), v.2.2.2.2.1, v.2.2.2.2.2.1, v.2.2.2.2.2.2.1, l1_1, ())) (K (.exit 2))) n v.1.2.2.2.1 v.2.2.2.2.2.2.2.1
def y7l (av : AV) (x : HP z14.ps) : Hdl (CR z14) := hnd [.b 3 3 510303 (.s .run)] y9h (w3k av x)
theorem w5e : LP z14 Tryz.f135 [1] y7l := lp_ok (W := []) (H := []) (xs := [y6f]) y3g trivial rfl (fun av x v K => by kernel_rfl) (fun av x n v K => by kernel_rfl)
theorem yr7 : z14.Ok Tryz.prog := fn_ok (k := z14) (fn := Tryz.f135) (W := []) (H := [y7k, y7l]) Tryz.func135 y3g ⟨w5d, w5e, trivial⟩ rfl rfl (fun av x => by kernel_rfl)
def zu1 (r : GReq) : Option GReq := if decide (r.kind = 1) = true then (some (GReq.mk r.kind 0 0 0 0 0 r.data (GAsk.mk 0 0 0) 0)) else (if decide (r.kind = 2) = true then (some (GReq.mk r.kind r.who r.case r.task 0 0 [] (GAsk.mk 0 0 0) 0)) else (if decide (r.kind = 3) = true then (some (GReq.mk r.kind 0 r.case r.task r.var r.num [] (GAsk.mk 0 0 0) 0)) else (if decide (r.kind = 4) = true then (some (GReq.mk r.kind 0 r.case 0 0 0 [] (GAsk.mk 0 0 0) 0)) else (if decide (r.kind = 5) = true then (some (GReq.mk r.kind 0 0 0 0 0 r.data r.if_ r.ans)) else (some (GReq.mk r.kind 0 0 0 0 0 [] (GAsk.mk 0 0 0) 0))))))
def y3x : Con := ⟨137, [.v (.s .req) false], [((.s .req), false)], [], fun x => zu1 x.1⟩
def wf9 : Fs := ⟨[], [], []⟩
theorem wi5 : wf9.Ok Tryz.prog := fs0
theorem wm7 : y3x.Ok Tryz.prog := fn_ok (k := y3x) (fn := Tryz.f137) (W := []) (H := []) Tryz.func137 wi5 trivial rfl rfl (fun av x => by kernel_rfl)
def z4s (a : GReq) (b : GReq) : Option Bool := if decide (a.kind = b.kind) = true then (if decide (a.who = b.who) = true then (if decide (a.case = b.case) = true then (if decide (a.task = b.task) = true then (if decide (a.var = b.var) = true then (if decide (a.num = b.num) = true then (if decide ([a.if_.op, a.if_.var, a.if_.k] = [b.if_.op, b.if_.var, b.if_.k]) = true then (some (decide (a.ans = b.ans))) else (some false)) else (some false)) else (some false)) else (some false)) else (some false)) else (some false)) else (some false)
def z3f (a : GReq) (b : GReq) (kx0_0 : Option Bool) : Nat → Int → Option Bool
  | 0, _ => none
  | n0 + 1, s0_0 => if decide (s0_0 < (a.data.length : Int)) = true then ((getI a.data s0_0).bind fun x3 => ((getI b.data s0_0).bind fun x4 => (if decide (x3 = x4) = true then (gd (ok64 (s0_0 + 1)) ((z3f a b kx0_0 n0) (s0_0 + 1))) else (some false)))) else (kx0_0)
def zu2 (a : GReq) (b : GReq) : Option Bool := if decide ((a.data.length : Int) = (b.data.length : Int)) = true then (z3f a b (z4s a b) FUEL 0) else (some false)
def z52 : Con := ⟨136, [.v (.s .req) false, .v (.s .req) false], [(.B, true)], [], fun x => zu2 x.1 x.2.1⟩
def wg1 : Fs := ⟨[], [], []⟩
theorem yp1 : wg1.Ok Tryz.prog := fs0
def y9j : Tmpl := ⟨[(2, .c (.bx 2 0)), (3, .c (.bx 3 0)), (5, .c .i)], [(2, .boxT (.s .req)), (3, .boxT (.s .req))]⟩
def y6h : Tmpl := ⟨[(2, .c (.bx 2 0)), (3, .c (.bx 3 0))], [(2, .boxT (.s .req)), (3, .boxT (.s .req))]⟩
def w3m (av : AV) (x : HP z52.ps) (n : Nat) (v : y9j.den) (K : Ks (CR z52)) : Option (CR z52) := z3f v.2.1 v.2.2.1 (y6h.at none (((), (), ()), (v.2.1, v.2.2.1, ())) (K (.exit 0))) n v.1.2.2.1
def y7n (av : AV) (x : HP z52.ps) : Hdl (CR z52) := hnd [] y9j (w3m av x)
theorem w5g : LP z52 Tryz.f136 [0] y7n := lp_ok (W := []) (H := []) (xs := [y6h]) yp1 trivial rfl (fun av x v K => by kernel_rfl) (fun av x n v K => by kernel_rfl)
theorem wm8 : z52.Ok Tryz.prog := fn_ok (k := z52) (fn := Tryz.f136) (W := []) (H := [y7n]) Tryz.func136 yp1 ⟨w5g, trivial⟩ rfl rfl (fun av x => by kernel_rfl)
def z09 (r : GReq) : Option Bool := (z03 r.kind 1 5).bind fun x1 => (if x1 = true then ((zu1 r).bind fun x3 => ((zu2 r x3).bind fun x4 => (if x4 = true then ((z03 r.who 0 4).bind fun x6 => (if x6 = true then ((z03 r.case 0 4).bind fun x8 => (if x8 = true then ((z03 r.task 0 5).bind fun x10 => (if x10 = true then ((z03 r.var (-1) 2).bind fun x12 => (if x12 = true then ((z03 r.num (-99) 99).bind fun x14 => (if x14 = true then ((z6a r.if_).bind fun x16 => (if x16 = true then ((z03 r.ans 0 2).bind fun x18 => (if x18 = true then (if decide (r.kind = 1) = true then ((z2p r.data).bind fun x21 => (some (true == x21))) else ((z2p r.data).bind fun x22 => (some ((decide (r.kind = 5)) == x22)))) else (some false))) else (some false))) else (some false))) else (some false))) else (some false))) else (some false))) else (some false))) else (some false)))) else (some false))
def z8g : Con := ⟨63, [.v (.s .req) false], [(.B, true)], [], fun x => z09 x.1⟩
def w45 : Fs := ⟨[z0o, y3x, z52, z8h, z19], [], []⟩
theorem w4p : w45.Ok Tryz.prog := (fsK z0w (fsK wm7 (fsK wm8 (fsK zn9 (fsK z6f fs0)))))
theorem zw6 : z8g.Ok Tryz.prog := fn_ok (k := z8g) (fn := Tryz.f63) (W := []) (H := []) Tryz.func63 w4p trivial rfl rfl (fun av x => by kernel_rfl)
def zu0 (h : GHouse) (r : GReq) : Option (GHouse × Int) := if decide ((h.runs.length : Int) ≤ r.case) = true then (some (h, 2)) else ((getI h.runs r.case).bind fun x2 => ((getI h.nets x2.net).bind fun x3 => (if decide (r.kind = 2) = true then ((z6x x3 h.people x2.case r.task r.who).bind fun x5 => (if x5.2 = true then ((getI h.runs r.case).bind fun x7 => (some ((GHouse.mk h.nets h.people h.tree (h.runs.set r.case.toNat (GRun.mk x7.net x5.1))), 1))) else (some (h, 3)))) else (if decide (r.kind = 3) = true then ((z9q x3 x2.case r.task r.var r.num).bind fun x9 => (if x9.2 = true then ((getI h.runs r.case).bind fun x11 => (some ((GHouse.mk h.nets h.people h.tree (h.runs.set r.case.toNat (GRun.mk x11.net x9.1))), 1))) else (some (h, 3)))) else ((zl6 x3 x2.case).bind fun x12 => (if x12.2 = true then ((getI h.runs r.case).bind fun x14 => (some ((GHouse.mk h.nets h.people h.tree (h.runs.set r.case.toNat (GRun.mk x14.net x12.1))), 1))) else (some (h, 3))))))))
def y3v : Con := ⟨188, [.v (.s .house) true, .v (.s .req) false], [((.s .house), true), (.I, true)], [], fun x => zu0 x.1 x.2.1⟩
def wf7 : Fs := ⟨[ze2, zl1, y0r], [], []⟩
theorem wi4 : wf7.Ok Tryz.prog := (fsK y8s (fsK yg5 (fsK w94 fs0)))
theorem wm6 : y3v.Ok Tryz.prog := fn_ok (k := y3v) (fn := Tryz.f188) (W := []) (H := []) Tryz.func188 wi4 trivial rfl rfl (fun av x => by kernel_rfl)
def zw4 (h : GHouse) (r : GReq) : Option (GHouse × Int) := if decide (r.kind = 1) = true then (if decide ((h.runs.length : Int) = 5) = true then (some (h, 4)) else ((zt5 h.tree r.data).bind fun x3 => (if decide ((h.nets.length : Int) ≤ x3) = true then ((getI h.nets 0).bind fun x5 => ((z95 x5 r.data).bind fun x6 => (gd (h.runs.length + [(GRun.mk 0 x6)].length ≤ SMALL) (some ((GHouse.mk h.nets h.people h.tree (h.runs ++ [(GRun.mk 0 x6)])), 1))))) else ((getI h.nets x3).bind fun x8 => ((z95 x8 r.data).bind fun x9 => (gd (h.runs.length + [(GRun.mk x3 x9)].length ≤ SMALL) (some ((GHouse.mk h.nets h.people h.tree (h.runs ++ [(GRun.mk x3 x9)])), 1)))))))) else (if decide (r.kind = 5) = true then ((z7j h.tree r.data r.if_ r.ans).bind fun x12 => (if x12.2 = true then (some ((GHouse.mk h.nets h.people x12.1 h.runs), 1)) else (some (h, 3)))) else ((zu0 h r).bind fun x14 => (some (x14.1, x14.2))))
def y3w : Con := ⟨134, [.v (.s .house) true, .v (.s .req) false], [((.s .house), true), (.I, true)], [], fun x => zw4 x.1 x.2.1⟩
def v1a : Fs := ⟨[y3r, zr6, z3z, y3v], [], []⟩
theorem v1e : v1a.Ok Tryz.prog := (fsK wm1 (fsK yq9 (fsK yr3 (fsK wm6 fs0))))
theorem w5r : y3w.Ok Tryz.prog := fn_ok (k := y3w) (fn := Tryz.f134) (W := []) (H := []) Tryz.func134 v1e trivial rfl rfl (fun av x => by kernel_rfl)
def zz3 (h : GHouse) (r : GReq) : Option (GHouse × Int) := (zz4 h).bind fun x1 => (if x1 = true then ((z09 r).bind fun x3 => (if x3 = true then ((zh1 h).bind fun x5 => ((zw4 x5 r).bind fun x6 => (some (x6.1, x6.2)))) else (some ((GHouse.mk [] [] [] []), 0)))) else (some ((GHouse.mk [] [] [] []), 0)))
def y7t : Con := ⟨60, [.v (.s .house) false, .v (.s .req) false], [((.s .house), true), (.I, true)], [], fun x => zz3 x.1 x.2.1⟩
def ws9 : Fs := ⟨[z64, z8g, z14, y3w], [], []⟩
theorem wv0 : ws9.Ok Tryz.prog := (fsK wy7 (fsK zw6 (fsK yr7 (fsK w5r fs0))))
theorem wy6 : y7t.Ok Tryz.prog := fn_ok (k := y7t) (fn := Tryz.f60) (W := []) (H := []) Tryz.func60 wv0 trivial rfl rfl (fun av x => by kernel_rfl)
def z6p (x1 : (List Int)) (x2 : (List GNode)) (l0_1 : List GNet) (l1_1 : List GRun) : Option GHouse := some (GHouse.mk l0_1 x1 x2 l1_1)
def z1o (p1_0 : List GRun) (p1_1 : Int) (kx1_0 : List GRun → Option GHouse) : Nat → Int → List GRun → Option GHouse
  | 0, _, _ => none
  | n1 + 1, s1_0, l1_1 => if decide (s1_0 < p1_1) = true then ((getI p1_0 s1_0).bind fun x9 => ((z08 x9.case).bind fun x10 => (gd (l1_1.length + [(GRun.mk x9.net x10)].length ≤ SMALL) (gd (ok64 (s1_0 + 1)) ((z1o p1_0 p1_1 kx1_0 n1) (s1_0 + 1) (l1_1 ++ [(GRun.mk x9.net x10)])))))) else (kx1_0 l1_1)
def z4h (h : GHouse) (x1 : (List Int)) (x2 : (List GNode)) (l0_1 : List GNet) : Option GHouse := z1o h.runs (h.runs.length : Int) (z6p x1 x2 l0_1) FUEL 0 ([] : List GRun)
def z1n (p0_0 : List GNet) (p0_1 : Int) (kx0_0 : List GNet → Option GHouse) : Nat → Int → List GNet → Option GHouse
  | 0, _, _ => none
  | n0 + 1, s0_0, l0_1 => if decide (s0_0 < p0_1) = true then ((getI p0_0 s0_0).bind fun x4 => ((z7e x4).bind fun x5 => (gd (l0_1.length + [x5].length ≤ SMALL) (gd (ok64 (s0_0 + 1)) ((z1n p0_0 p0_1 kx0_0 n0) (s0_0 + 1) (l0_1 ++ [x5])))))) else (kx0_0 l0_1)
def z2o (h : GHouse) : Option GHouse := (z0n h.people).bind fun x1 => ((z6t h.tree).bind fun x2 => (z1n h.nets (h.nets.length : Int) (z4h h x1 x2) FUEL 0 ([] : List GNet)))
def z0a : Con := ⟨132, [.v (.s .house) false], [((.s .house), true)], [], fun x => z2o x.1⟩
def y6r : Fs := ⟨[z1v, z1g, z1b, z33], [], []⟩
theorem z8b : y6r.Ok Tryz.prog := (fsK z3g (fsK y26 (fsK yl3 (fsK z6m fs0))))
def zh8 : Tmpl := ⟨[(1, .c (.bx 1 0)), (2, .c (.bx 2 0)), (3, .c (.bx 3 0)), (16, .c (.s (.s .net))), (17, .c .i), (18, .c .i)], [(1, .boxT (.s .house)), (2, .box [.nl, .nl, .nl, .nl]), (3, .box [.ref 510300, .ref 10, .ref 13, .nl]), (510300, .arr (.s .net) true), (10, .arr .I true), (13, .arr (.s .node) true)]⟩
def zc0 : Tmpl := ⟨[(1, .c (.bx 1 0)), (2, .c (.bx 2 0)), (3, .c (.bx 3 0))], [(1, .boxT (.s .house)), (2, .box [.nl, .nl, .nl, .nl]), (3, .box [.ref 510300, .ref 10, .ref 13, .nl]), (510300, .arr (.s .net) true), (10, .arr .I true), (13, .arr (.s .node) true)]⟩
def y33 (av : AV) (x : HP z0a.ps) (n : Nat) (v : zh8.den) (K : Ks (CR z0a)) : Option (CR z0a) := z1n v.1.2.2.2.1 v.1.2.2.2.2.1 (fun l0_1 => zc0.at none (((), (), (), ()), (v.2.1, ((), (), (), (), ()), ((), (), (), (), ()), l0_1, v.2.2.2.2.2.1, v.2.2.2.2.2.2.1, ())) (K (.exit 0))) n v.1.2.2.2.2.2.1 v.2.2.2.2.1
def zc9 (av : AV) (x : HP z0a.ps) : Hdl (CR z0a) := hnd [.b 3 0 510300 (.s .net)] zh8 (y33 av x)
theorem y3y : LP z0a Tryz.f132 [0] zc9 := lp_ok (W := []) (H := []) (xs := [zc0]) z8b trivial rfl (fun av x v K => by kernel_rfl) (fun av x n v K => by kernel_rfl)
def zh9 : Tmpl := ⟨[(2, .c (.bx 2 0)), (3, .c (.bx 3 0)), (31, .c (.s (.s .run))), (32, .c .i), (33, .c .i)], [(2, .box [.nl, .nl, .nl, .nl]), (3, .box [.ref 510300, .ref 10, .ref 13, .ref 510303]), (510300, .arr (.s .net) true), (10, .arr .I true), (13, .arr (.s .node) true), (510303, .arr (.s .run) true)]⟩
def zc1 : Tmpl := ⟨[(2, .c (.bx 2 0)), (3, .c (.bx 3 0))], [(2, .box [.nl, .nl, .nl, .nl]), (3, .box [.ref 510300, .ref 10, .ref 13, .ref 510303]), (510300, .arr (.s .net) true), (10, .arr .I true), (13, .arr (.s .node) true), (510303, .arr (.s .run) true)]⟩
def y34 (av : AV) (x : HP z0a.ps) (n : Nat) (v : zh9.den) (K : Ks (CR z0a)) : Option (CR z0a) := z1o v.1.2.2.1 v.1.2.2.2.1 (fun l1_1 => zc1.at none (((), (), ()), (((), (), (), (), ()), ((), (), (), (), ()), v.2.2.2.1, v.2.2.2.2.1, v.2.2.2.2.2.1, l1_1, ())) (K (.exit 2))) n v.1.2.2.2.2.1 v.2.2.2.2.2.2.1
def zd0 (av : AV) (x : HP z0a.ps) : Hdl (CR z0a) := hnd [.b 3 3 510303 (.s .run)] zh9 (y34 av x)
theorem y3z : LP z0a Tryz.f132 [1] zd0 := lp_ok (W := []) (H := []) (xs := [zc1]) z8b trivial rfl (fun av x v K => by kernel_rfl) (fun av x n v K => by kernel_rfl)
theorem y8j : z0a.Ok Tryz.prog := fn_ok (k := z0a) (fn := Tryz.f132) (W := []) (H := [zc9, zd0]) Tryz.func132 z8b ⟨y3y, y3z, trivial⟩ rfl rfl (fun av x => by kernel_rfl)
def y54  : Option Int := some (-1)
def z5l (s : List Int) (p : Int → Option Bool) (p0_0 : Int) (kx0_0 : Option Int) : Nat → Int → Option Int
  | 0, _ => none
  | n0 + 1, s0_0 => if decide (s0_0 < p0_0) = true then ((getI s s0_0).bind fun x2 => ((p x2).bind fun x3 => (if x3 = true then (some s0_0) else (gd (ok64 (s0_0 + 1)) ((z5l s p p0_0 kx0_0 n0) (s0_0 + 1)))))) else (kx0_0)
def zs0 (s : List Int) (p : Int → Option Bool) : Option Int := z5l s p (s.length : Int) y54 FUEL 0
def z3v : Con := ⟨175, [.v (.sl .I) false, .fn .I], [(.I, true)], [], fun x => zs0 x.1 x.2.1⟩
def wc1 : Fs := ⟨[], [], []⟩
theorem yn4 : wc1.Ok Tryz.prog := fs0
def y91 : Tmpl := ⟨[(0, .c (.s .I)), (1, .c .fp), (7, .c .i), (8, .c .i)], []⟩
def y60 : Tmpl := ⟨[], []⟩
def w34 (av : AV) (x : HP z3v.ps) (n : Nat) (v : y91.den) (K : Ks (CR z3v)) : Option (CR z3v) := z5l v.1.1 x.2.1 v.1.2.2.1 (y60.at (fpOf z3v.ps x av) ((), ()) (K (.exit 0))) n v.1.2.2.2.1
def y75 (av : AV) (x : HP z3v.ps) : Hdl (CR z3v) := hnd [] y91 (w34 av x)
theorem w4y : LP z3v Tryz.f175 [0] y75 := lp_ok (W := []) (H := []) (xs := [y60]) yn4 trivial rfl (fun av x v K => by kernel_rfl) (fun av x n v K => by kernel_rfl)
theorem wk4 : z3v.Ok Tryz.prog := fn_ok (k := z3v) (fn := Tryz.f175) (W := []) (H := [y75]) Tryz.func175 yn4 ⟨w4y, trivial⟩ rfl rfl (fun av x => by kernel_rfl)
def z2h (s : List Int) (p : Int → Option Bool) : Option Bool := (zs0 s p).bind fun x1 => (some (decide (0 ≤ x1)))
def z4o : Con := ⟨118, [.v (.sl .I) false, .fn .I], [(.B, true)], [], fun x => z2h x.1 x.2.1⟩
def w1l : Fs := ⟨[z3v], [], []⟩
theorem w1t : w1l.Ok Tryz.prog := (fsK wk4 fs0)
theorem z7w : z4o.Ok Tryz.prog := fn_ok (k := z4o) (fn := Tryz.f118) (W := []) (H := []) Tryz.func118 w1t trivial rfl rfl (fun av x => by kernel_rfl)
def zq1  : Option Int := some (-1)
def z35 (s : List GTask) (p : GTask → Option Bool) (p0_0 : Int) (kx0_0 : Option Int) : Nat → Int → Option Int
  | 0, _ => none
  | n0 + 1, s0_0 => if decide (s0_0 < p0_0) = true then ((getI s s0_0).bind fun x2 => ((p x2).bind fun x3 => (if x3 = true then (some s0_0) else (gd (ok64 (s0_0 + 1)) ((z35 s p p0_0 kx0_0 n0) (s0_0 + 1)))))) else (kx0_0)
def z90 (s : List GTask) (p : GTask → Option Bool) : Option Int := z35 s p (s.length : Int) zq1 FUEL 0
def z1f : Con := ⟨176, [.v (.sl (.s .task)) false, .fn (.s .task)], [(.I, true)], [], fun x => z90 x.1 x.2.1⟩
def yv5 : Fs := ⟨[], [], []⟩
theorem y1f : yv5.Ok Tryz.prog := fs0
def zx1 : Tmpl := ⟨[(0, .c (.s (.s .task))), (1, .c .fp), (7, .c .i), (8, .c .i)], []⟩
def zq6 : Tmpl := ⟨[], []⟩
def yi7 (av : AV) (x : HP z1f.ps) (n : Nat) (v : zx1.den) (K : Ks (CR z1f)) : Option (CR z1f) := z35 v.1.1 x.2.1 v.1.2.2.1 (zq6.at (fpOf z1f.ps x av) ((), ()) (K (.exit 0))) n v.1.2.2.2.1
def zv2 (av : AV) (x : HP z1f.ps) : Hdl (CR z1f) := hnd [] zx1 (yi7 av x)
theorem yk3 : LP z1f Tryz.f176 [0] zv2 := lp_ok (W := []) (H := []) (xs := [zq6]) y1f trivial rfl (fun av x v K => by kernel_rfl) (fun av x n v K => by kernel_rfl)
theorem yy7 : z1f.Ok Tryz.prog := fn_ok (k := z1f) (fn := Tryz.f176) (W := []) (H := [zv2]) Tryz.func176 y1f ⟨yk3, trivial⟩ rfl rfl (fun av x => by kernel_rfl)
def z6j (s : List GTask) (p : GTask → Option Bool) : Option Bool := (z90 s p).bind fun x1 => (some (decide (0 ≤ x1)))
def z9g : Con := ⟨123, [.v (.sl (.s .task)) false, .fn (.s .task)], [(.B, true)], [], fun x => z6j x.1 x.2.1⟩
def yc0 : Fs := ⟨[z1f], [], []⟩
theorem yc6 : yc0.Ok Tryz.prog := (fsK yy7 fs0)
theorem yd1 : z9g.Ok Tryz.prog := fn_ok (k := z9g) (fn := Tryz.f123) (W := []) (H := []) Tryz.func123 yc6 trivial rfl rfl (fun av x => by kernel_rfl)
def zw0  : Option Int := some (-1)
def z3k (s : List GNet) (p : GNet → Option Bool) (p0_0 : Int) (kx0_0 : Option Int) : Nat → Int → Option Int
  | 0, _ => none
  | n0 + 1, s0_0 => if decide (s0_0 < p0_0) = true then ((getI s s0_0).bind fun x2 => ((p x2).bind fun x3 => (if x3 = true then (some s0_0) else (gd (ok64 (s0_0 + 1)) ((z3k s p p0_0 kx0_0 n0) (s0_0 + 1)))))) else (kx0_0)
def z9z (s : List GNet) (p : GNet → Option Bool) : Option Int := z3k s p (s.length : Int) zw0 FUEL 0
def z1u : Con := ⟨180, [.v (.sl (.s .net)) false, .fn (.s .net)], [(.I, true)], [], fun x => z9z x.1 x.2.1⟩
def w1m : Fs := ⟨[], [], []⟩
theorem y4j : w1m.Ok Tryz.prog := fs0
def y05 : Tmpl := ⟨[(0, .c (.s (.s .net))), (1, .c .fp), (7, .c .i), (8, .c .i)], []⟩
def zx6 : Tmpl := ⟨[], []⟩
def ym0 (av : AV) (x : HP z1u.ps) (n : Nat) (v : y05.den) (K : Ks (CR z1u)) : Option (CR z1u) := z3k v.1.1 x.2.1 v.1.2.2.1 (zx6.at (fpOf z1u.ps x av) ((), ()) (K (.exit 0))) n v.1.2.2.2.1
def zy3 (av : AV) (x : HP z1u.ps) : Hdl (CR z1u) := hnd [] y05 (ym0 av x)
theorem yp7 : LP z1u Tryz.f180 [0] zy3 := lp_ok (W := []) (H := []) (xs := [zx6]) y4j trivial rfl (fun av x v K => by kernel_rfl) (fun av x n v K => by kernel_rfl)
theorem w2i : z1u.Ok Tryz.prog := fn_ok (k := z1u) (fn := Tryz.f180) (W := []) (H := [zy3]) Tryz.func180 y4j ⟨yp7, trivial⟩ rfl rfl (fun av x => by kernel_rfl)
def z7c (s : List GNet) (p : GNet → Option Bool) : Option Bool := (z9z s p).bind fun x1 => (some (decide (0 ≤ x1)))
def za6 : Con := ⟨126, [.v (.sl (.s .net)) false, .fn (.s .net)], [(.B, true)], [], fun x => z7c x.1 x.2.1⟩
def yj3 : Fs := ⟨[z1u], [], []⟩
theorem yj7 : yj3.Ok Tryz.prog := (fsK w2i fs0)
theorem yl1 : za6.Ok Tryz.prog := fn_ok (k := za6) (fn := Tryz.f126) (W := []) (H := []) Tryz.func126 yj7 trivial rfl rfl (fun av x => by kernel_rfl)
def zq0  : Option Int := some (-1)
def z34 (s : List GItem) (p : GItem → Option Bool) (p0_0 : Int) (kx0_0 : Option Int) : Nat → Int → Option Int
  | 0, _ => none
  | n0 + 1, s0_0 => if decide (s0_0 < p0_0) = true then ((getI s s0_0).bind fun x2 => ((p x2).bind fun x3 => (if x3 = true then (some s0_0) else (gd (ok64 (s0_0 + 1)) ((z34 s p p0_0 kx0_0 n0) (s0_0 + 1)))))) else (kx0_0)
def z8z (s : List GItem) (p : GItem → Option Bool) : Option Int := z34 s p (s.length : Int) zq0 FUEL 0
def z1e : Con := ⟨169, [.v (.sl (.s .item)) false, .fn (.s .item)], [(.I, true)], [], fun x => z8z x.1 x.2.1⟩
def yv4 : Fs := ⟨[], [], []⟩
theorem y1e : yv4.Ok Tryz.prog := fs0
def zx0 : Tmpl := ⟨[(0, .c (.s (.s .item))), (1, .c .fp), (7, .c .i), (8, .c .i)], []⟩
def zq5 : Tmpl := ⟨[], []⟩
def yi6 (av : AV) (x : HP z1e.ps) (n : Nat) (v : zx0.den) (K : Ks (CR z1e)) : Option (CR z1e) := z34 v.1.1 x.2.1 v.1.2.2.1 (zq5.at (fpOf z1e.ps x av) ((), ()) (K (.exit 0))) n v.1.2.2.2.1
def zv1 (av : AV) (x : HP z1e.ps) : Hdl (CR z1e) := hnd [] zx0 (yi6 av x)
theorem yk2 : LP z1e Tryz.f169 [0] zv1 := lp_ok (W := []) (H := []) (xs := [zq5]) y1e trivial rfl (fun av x v K => by kernel_rfl) (fun av x n v K => by kernel_rfl)
theorem yy6 : z1e.Ok Tryz.prog := fn_ok (k := z1e) (fn := Tryz.f169) (W := []) (H := [zv1]) Tryz.func169 y1e ⟨yk2, trivial⟩ rfl rfl (fun av x => by kernel_rfl)
def z6i (s : List GItem) (p : GItem → Option Bool) : Option Bool := (z8z s p).bind fun x1 => (some (decide (0 ≤ x1)))
def z9f : Con := ⟨107, [.v (.sl (.s .item)) false, .fn (.s .item)], [(.B, true)], [], fun x => z6i x.1 x.2.1⟩
def yb9 : Fs := ⟨[z1e], [], []⟩
theorem yc5 : yb9.Ok Tryz.prog := (fsK yy6 fs0)
theorem yd0 : z9f.Ok Tryz.prog := fn_ok (k := z9f) (fn := Tryz.f107) (W := []) (H := []) Tryz.func107 yc5 trivial rfl rfl (fun av x => by kernel_rfl)
def w0m  : Option Int := some (-1)
def zb5 (s : List Int) (v : Int) (p0_0 : Int) (kx0_0 : Option Int) : Nat → Int → Option Int
  | 0, _ => none
  | n0 + 1, s0_0 => if decide (s0_0 < p0_0) = true then ((getI s s0_0).bind fun x2 => (if decide (v = x2) = true then (some s0_0) else (gd (ok64 (s0_0 + 1)) ((zb5 s v p0_0 kx0_0 n0) (s0_0 + 1))))) else (kx0_0)
def yq2 (s : List Int) (v : Int) : Option Int := zb5 s v (s.length : Int) w0m FUEL 0
def zd7 : Con := ⟨163, [.v (.sl .I) false, .v .I false], [(.I, true)], [], fun x => yq2 x.1 x.2.1⟩
def v5s : Fs := ⟨[], [], []⟩
theorem wu3 : v5s.Ok Tryz.prog := fs0
def w6h : Tmpl := ⟨[(0, .c (.s .I)), (1, .c .i), (7, .c .i), (8, .c .i)], []⟩
def w10 : Tmpl := ⟨[], []⟩
def v0y (av : AV) (x : HP zd7.ps) (n : Nat) (v : w6h.den) (K : Ks (CR zd7)) : Option (CR zd7) := zb5 v.1.1 v.1.2.1 v.1.2.2.1 (w10.at none ((), ()) (K (.exit 0))) n v.1.2.2.2.1
def w4s (av : AV) (x : HP zd7.ps) : Hdl (CR zd7) := hnd [] w6h (v0y av x)
theorem v1p : LP zd7 Tryz.f163 [0] w4s := lp_ok (W := []) (H := []) (xs := [w10]) wu3 trivial rfl (fun av x v K => by kernel_rfl) (fun av x n v K => by kernel_rfl)
theorem v70 : zd7.Ok Tryz.prog := fn_ok (k := zd7) (fn := Tryz.f163) (W := []) (H := [w4s]) Tryz.func163 wu3 ⟨v1p, trivial⟩ rfl rfl (fun av x => by kernel_rfl)
def zb3 (s : List Int) (v : Int) : Option Bool := (yq2 s v).bind fun x1 => (some (decide (0 ≤ x1)))
def zn1 : Con := ⟨92, [.v (.sl .I) false, .v .I false], [(.B, true)], [], fun x => zb3 x.1 x.2.1⟩
def wr3 : Fs := ⟨[zd7], [], []⟩
theorem wu1 : wr3.Ok Tryz.prog := (fsK v70 fs0)
theorem y8i : zn1.Ok Tryz.prog := fn_ok (k := zn1) (fn := Tryz.f92) (W := []) (H := []) Tryz.func92 wu1 trivial rfl rfl (fun av x => by kernel_rfl)
def y81  : Option Int := some (-1)
def z6n (s : List GDid) (v : GDid) (p0_0 : Int) (kx0_0 : Option Int) : Nat → Int → Option Int
  | 0, _ => none
  | n0 + 1, s0_0 => if decide (s0_0 < p0_0) = true then ((getI s s0_0).bind fun x2 => (if decide ([v.task, v.who] = [x2.task, x2.who]) = true then (some s0_0) else (gd (ok64 (s0_0 + 1)) ((z6n s v p0_0 kx0_0 n0) (s0_0 + 1))))) else (kx0_0)
def zy8 (s : List GDid) (v : GDid) : Option Int := z6n s v (s.length : Int) y81 FUEL 0
def z5y : Con := ⟨204, [.v (.sl (.s .did)) false, .v (.s .did) false], [(.I, true)], [], fun x => zy8 x.1 x.2.1⟩
def wr4 : Fs := ⟨[], [], []⟩
theorem w02 : wr4.Ok Tryz.prog := fs0
def yg9 : Tmpl := ⟨[(0, .c (.s (.s .did))), (3, .c (.bx 3 0)), (7, .c .i), (8, .c .i)], [(3, .boxT (.s .did))]⟩
def y9k : Tmpl := ⟨[], []⟩
def w6l (av : AV) (x : HP z5y.ps) (n : Nat) (v : yg9.den) (K : Ks (CR z5y)) : Option (CR z5y) := z6n v.1.1 v.2.1 v.1.2.2.1 (y9k.at none ((), ()) (K (.exit 0))) n v.1.2.2.2.1
def ye4 (av : AV) (x : HP z5y.ps) : Hdl (CR z5y) := hnd [] yg9 (w6l av x)
theorem w8a : LP z5y Tryz.f204 [0] ye4 := lp_ok (W := []) (H := []) (xs := [y9k]) w02 trivial rfl (fun av x v K => by kernel_rfl) (fun av x n v K => by kernel_rfl)
theorem wy0 : z5y.Ok Tryz.prog := fn_ok (k := z5y) (fn := Tryz.f204) (W := []) (H := [ye4]) Tryz.func204 w02 ⟨w8a, trivial⟩ rfl rfl (fun av x => by kernel_rfl)
def zv9 (s : List GDid) (v : GDid) : Option Bool := (zy8 s v).bind fun x1 => (some (decide (0 ≤ x1)))
def zv7 : Con := ⟨170, [.v (.sl (.s .did)) false, .v (.s .did) false], [(.B, true)], [], fun x => zv9 x.1 x.2.1⟩
def w3w : Fs := ⟨[z5y], [], []⟩
theorem w4h : w3w.Ok Tryz.prog := (fsK wy0 fs0)
theorem w5i : zv7.Ok Tryz.prog := fn_ok (k := zv7) (fn := Tryz.f170) (W := []) (H := []) Tryz.func170 w4h trivial rfl rfl (fun av x => by kernel_rfl)
def w0l  : Option Bool := some true
def zb4 (s1 : List Int) (s2 : List Int) (p0_0 : Int) (kx0_0 : Option Bool) : Nat → Int → Option Bool
  | 0, _ => none
  | n0 + 1, s0_0 => if decide (s0_0 < p0_0) = true then ((getI s1 s0_0).bind fun x3 => ((getI s2 s0_0).bind fun x4 => (if decide (x3 = x4) = true then (gd (ok64 (s0_0 + 1)) ((zb4 s1 s2 p0_0 kx0_0 n0) (s0_0 + 1))) else (some false)))) else (kx0_0)
def yq1 (s1 : List Int) (s2 : List Int) : Option Bool := if decide ((s1.length : Int) = (s2.length : Int)) = true then (zb4 s1 s2 (s1.length : Int) w0l FUEL 0) else (some false)
def zd6 : Con := ⟨192, [.v (.sl .I) false, .v (.sl .I) false], [(.B, true)], [], fun x => yq1 x.1 x.2.1⟩
def v5r : Fs := ⟨[], [], []⟩
theorem wu2 : v5r.Ok Tryz.prog := fs0
def w6g : Tmpl := ⟨[(0, .c (.s .I)), (1, .c (.s .I)), (12, .c .i), (13, .c .i)], []⟩
def w0z : Tmpl := ⟨[], []⟩
def v0x (av : AV) (x : HP zd6.ps) (n : Nat) (v : w6g.den) (K : Ks (CR zd6)) : Option (CR zd6) := zb4 v.1.1 v.1.2.1 v.1.2.2.1 (w0z.at none ((), ()) (K (.exit 0))) n v.1.2.2.2.1
def w4r (av : AV) (x : HP zd6.ps) : Hdl (CR zd6) := hnd [] w6g (v0x av x)
theorem v1o : LP zd6 Tryz.f192 [0] w4r := lp_ok (W := []) (H := []) (xs := [w0z]) wu2 trivial rfl (fun av x v K => by kernel_rfl) (fun av x n v K => by kernel_rfl)
theorem v6z : zd6.Ok Tryz.prog := fn_ok (k := zd6) (fn := Tryz.f192) (W := []) (H := [w4r]) Tryz.func192 wu2 ⟨v1o, trivial⟩ rfl rfl (fun av x => by kernel_rfl)
def y0v (n : Int) : Option Bool := (z57 n).bind fun x1 => (some (!x1))
def y12 : FCon := ⟨162, .I, [], fun z c => y0v z ⟩
def w75 : Fs := ⟨[z7y], [], []⟩
theorem w7x : w75.Ok Tryz.prog := (fsK zm5 fs0)
theorem w8u : y12.Ok Tryz.prog := FCon.ok (fn_ok (k := y12.con) (fn := Tryz.f162) (W := []) (H := []) Tryz.func162 w7x trivial rfl rfl (fun av x => by kernel_rfl))
def z3b (data : List Int) : Option Bool := if decide ((data.length : Int) = 3) = true then ((z2h data (fun z => y0v z )).bind fun x2 => (some (!x2))) else (some false)
def z56 : Con := ⟨91, [.v (.sl .I) false], [(.B, true)], [], fun x => z3b x.1⟩
def wr6 : Fs := ⟨[z4o], [y12], []⟩
theorem wu4 : wr6.Ok Tryz.prog := (fsK z7w (fsF w8u fs0))
theorem z78 : z56.Ok Tryz.prog := fn_ok (k := z56) (fn := Tryz.f91) (W := []) (H := []) Tryz.func91 wu4 trivial rfl rfl (fun av x => by kernel_rfl)
def z2e (e : GAsk) (data : List Int) : Option Bool := (z77 e).bind fun x1 => (if x1 = true then ((z3b data).bind fun x3 => (if x3 = true then (if decide (e.op = 1) = true then ((getI data e.var).bind fun x6 => (some (decide (x6 < e.k)))) else (if decide (e.op = 2) = true then ((getI data e.var).bind fun x8 => (some (decide (x8 = e.k)))) else (if decide (e.op = 3) = true then ((getI data e.var).bind fun x10 => (some (decide (e.k < x10)))) else (some true)))) else (some false))) else (some false))
def z49 : Con := ⟨120, [.v (.s .ask) false, .v (.sl .I) false], [(.B, true)], [], fun x => z2e x.1 x.2.1⟩
def w3z : Fs := ⟨[zn2, z56], [], []⟩
theorem w4k : w3z.Ok Tryz.prog := (fsK y8l (fsK z78 fs0))
theorem z75 : z49.Ok Tryz.prog := fn_ok (k := z49) (fn := Tryz.f120) (W := []) (H := []) Tryz.func120 w4k trivial rfl rfl (fun av x => by kernel_rfl)
def y1u  : Option Bool := some true
def z5a (list : List Int) (places : Int) (without : List Int) (p0_0 : Int) (kx0_0 : Option Bool) : Nat → Int → Int → Option Bool
  | 0, _, _ => none
  | n0 + 1, s0_0, s0_1 => if decide (s0_0 < p0_0) = true then ((getI list s0_0).bind fun x2 => (gd (ok64 (s0_1 + 1)) (gd (ok64 (places - 1)) ((z0d x2 (s0_1 + 1) (places - 1)).bind fun x5 => (if x5 = true then ((zb3 without x2).bind fun x7 => (if x7 = true then (some false) else (gd (ok64 (s0_0 + 1)) ((z5a list places without p0_0 kx0_0 n0) (s0_0 + 1) x2)))) else (some false)))))) else (kx0_0)
def z9o (list : List Int) (places : Int) (without : List Int) : Option Bool := z5a list places without (list.length : Int) y1u FUEL 0 (-1)
def z3x : Con := ⟨178, [.v (.sl .I) false, .v .I false, .v (.sl .I) false], [(.B, true)], [], fun x => z9o x.1 x.2.1 x.2.2.1⟩
def w7b : Fs := ⟨[z22, zn1], [], []⟩
theorem yd5 : w7b.Ok Tryz.prog := (fsK z2r (fsK y8i fs0))
def y5l : Tmpl := ⟨[(1, .c .i), (2, .c (.s .I)), (7, .c .i), (10, .c (.s .I)), (11, .c .i), (12, .c .i)], []⟩
def y2p : Tmpl := ⟨[], []⟩
def w15 (av : AV) (x : HP z3x.ps) (n : Nat) (v : y5l.den) (K : Ks (CR z3x)) : Option (CR z3x) := z5a v.1.2.2.2.1 v.1.1 v.1.2.1 v.1.2.2.2.2.1 (y2p.at none ((), ()) (K (.exit 0))) n v.1.2.2.2.2.2.1 v.1.2.2.1
def y4p (av : AV) (x : HP z3x.ps) : Hdl (CR z3x) := hnd [] y5l (w15 av x)
theorem w23 : LP z3x Tryz.f178 [0] y4p := lp_ok (W := []) (H := []) (xs := [y2p]) yd5 trivial rfl (fun av x v K => by kernel_rfl) (fun av x n v K => by kernel_rfl)
theorem w90 : z3x.Ok Tryz.prog := fn_ok (k := z3x) (fn := Tryz.f178) (W := []) (H := [y4p]) Tryz.func178 yd5 ⟨w23, trivial⟩ rfl rfl (fun av x => by kernel_rfl)
def z7h (t : GTask) : Option Bool := (z0d (t.out.length : Int) 1 3).bind fun x21 => (some x21)
def z1c (t : GTask) (places : Int) (p0_0 : List GFlow) (p0_1 : Int) (kx0_0 : Option Bool) : Nat → Int → List Int → Option Bool
  | 0, _, _ => none
  | n0 + 1, s0_0, m0_1 => if decide (s0_0 < p0_1) = true then ((getI p0_0 s0_0).bind fun x2 => (if decide (t.split = 1) = true then (gd (ok64 (places - 1)) ((z0d x2.to 0 (places - 1)).bind fun x5 => (if x5 = true then (if decide (x2.to ∈ m0_1) = true then (some false) else ((z77 x2.if_).bind fun x8 => (if x8 = true then (if ((decide (x2.if_.op = 0)) == true) = true then (gd (ok64 (s0_0 + 1)) ((z1c t places p0_0 p0_1 kx0_0 n0) (s0_0 + 1) (insKey m0_1 x2.to))) else (some false)) else (some false)))) else (some false)))) else (gd (ok64 ((t.out.length : Int) - 1)) (gd (ok64 (places - 1)) ((z0d x2.to 0 (places - 1)).bind fun x14 => (if x14 = true then (if decide (x2.to ∈ m0_1) = true then (some false) else ((z77 x2.if_).bind fun x17 => (if x17 = true then (if ((decide (x2.if_.op = 0)) == (decide (s0_0 = ((t.out.length : Int) - 1)))) = true then (gd (ok64 (s0_0 + 1)) ((z1c t places p0_0 p0_1 kx0_0 n0) (s0_0 + 1) (insKey m0_1 x2.to))) else (some false)) else (some false)))) else (some false))))))) else (kx0_0)
def z6l (t : GTask) (places : Int) : Option Bool := z1c t places t.out (t.out.length : Int) (z7h t) FUEL 0 (insKey ([] : List Int) 0)
def z12 : Con := ⟨179, [.v (.s .task) false, .v .I false], [(.B, true)], [], fun x => z6l x.1 x.2.1⟩
def yc4 : Fs := ⟨[z22, zn2], [], []⟩
theorem zp8 : yc4.Ok Tryz.prog := (fsK z2r (fsK y8l fs0))
def zj3 : Tmpl := ⟨[(1, .c .i), (2, .c (.bx 2 0)), (5, .c (.bx 9 0)), (12, .c (.s (.s .flow))), (13, .c .i), (14, .c .i)], [(2, .boxT (.s .task)), (9, .mp)]⟩
def zi5 : Tmpl := ⟨[(2, .c (.bx 2 0))], [(2, .boxT (.s .task))]⟩
def y6j (av : AV) (x : HP z12.ps) (n : Nat) (v : zj3.den) (K : Ks (CR z12)) : Option (CR z12) := z1c v.2.1 v.1.1 v.1.2.2.2.1 v.1.2.2.2.2.1 (zi5.at none (((), ()), (v.2.1, ())) (K (.exit 0))) n v.1.2.2.2.2.2.1 v.2.2.1
def zi7 (av : AV) (x : HP z12.ps) : Hdl (CR z12) := hnd [] zj3 (y6j av x)
theorem y6l : LP z12 Tryz.f179 [0] zi7 := lp_ok (W := []) (H := []) (xs := [zi5]) zp8 trivial rfl (fun av x v K => by kernel_rfl) (fun av x n v K => by kernel_rfl)
theorem yd3 : z12.Ok Tryz.prog := fn_ok (k := z12) (fn := Tryz.f179) (W := []) (H := [zi7]) Tryz.func179 zp8 ⟨y6l, trivial⟩ rfl rfl (fun av x => by kernel_rfl)
def z94 (t : GTask) (places : Int) (tasks : Int) : Option Bool := (zs7 t.join).bind fun x1 => (if x1 = true then ((zs7 t.split).bind fun x3 => (if x3 = true then ((z0d (t.in_.length : Int) 1 3).bind fun x5 => (if x5 = true then ((z9o t.in_ places [1]).bind fun x7 => (if x7 = true then ((z6l t places).bind fun x9 => (if x9 = true then ((z9o t.clear places [0, 1]).bind fun x11 => (if x11 = true then ((zf0 t.role).bind fun x13 => (if x13 = true then (gd (ok64 (tasks - 1)) ((z0d t.apart (-1) (tasks - 1)).bind fun x16 => (if x16 = true then ((z0d t.all 1 3).bind fun x18 => (if x18 = true then ((z0d t.need 1 t.all).bind fun x20 => (some x20)) else (some false))) else (some false)))) else (some false))) else (some false))) else (some false))) else (some false))) else (some false))) else (some false))) else (some false))
def zk1 : Con := ⟨125, [.v (.s .task) false, .v .I false, .v .I false], [(.B, true)], [], fun x => z94 x.1 x.2.1 x.2.2.1⟩
def yv7 : Fs := ⟨[y3p, z22, z3x, z12, zr5], [], []⟩
theorem yw4 : yv7.Ok Tryz.prog := (fsK wl3 (fsK z2r (fsK w90 (fsK yd3 (fsK yq8 fs0)))))
theorem yy9 : zk1.Ok Tryz.prog := fn_ok (k := zk1) (fn := Tryz.f125) (W := []) (H := []) Tryz.func125 yw4 trivial rfl rfl (fun av x => by kernel_rfl)
def y0x (t : GTask) (n : GNet) : Option Bool := (z94 t n.places (n.tasks.length : Int)).bind fun x1 => (some (!x1))
def y14 : FCon := ⟨124, (.s .task), [(.s .net)], fun z c => y0x z c.1⟩
def w78 : Fs := ⟨[zk1], [], []⟩
theorem w7z : w78.Ok Tryz.prog := (fsK yy9 fs0)
theorem w8x : y14.Ok Tryz.prog := FCon.ok (fn_ok (k := y14.con) (fn := Tryz.f124) (W := []) (H := []) Tryz.func124 w7z trivial rfl rfl (fun av x => by kernel_rfl))
def z8k (n : GNet) : Option Bool := (y10 n.places (n.tasks.length : Int)).bind fun x1 => (if x1 = true then ((z6j n.tasks (fun z => y0x z n)).bind fun x3 => (some (!x3))) else (some false))
def zb1 : Con := ⟨52, [.v (.s .net) false], [(.B, true)], [], fun x => z8k x.1⟩
def ws1 : Fs := ⟨[y0q, z9g], [y14], []⟩
theorem wu8 : ws1.Ok Tryz.prog := (fsK w92 (fsK yd1 (fsF w8x fs0)))
theorem y00 : zb1.Ok Tryz.prog := fn_ok (k := zb1) (fn := Tryz.f52) (W := []) (H := []) Tryz.func52 wu8 trivial rfl rfl (fun av x => by kernel_rfl)
def z68 (p : Int) (out : List Bool) : Option Bool := (getI out p).bind fun x1 => (some x1)
def z8t : FCon := ⟨217, .I, [(.sl .B)], fun z c => z68 z c.1⟩
def y6v : Fs := ⟨[], [], []⟩
theorem y6y : y6v.Ok Tryz.prog := fs0
theorem y8o : z8t.Ok Tryz.prog := FCon.ok (fn_ok (k := z8t.con) (fn := Tryz.f217) (W := []) (H := []) Tryz.func217 y6y trivial rfl rfl (fun av x => by kernel_rfl))
def zi8 (s1_0 : List GTask) (s1_1 : Int) (s1_2 : Int) (bk1 : List GTask → Int → Int → Bool → List Bool → Option (List Bool)) (s2_1 : Bool) (l2_2 : List Bool) : Option (List Bool) := gd (ok64 (s1_2 + 1)) (bk1 s1_0 s1_1 (s1_2 + 1) s2_1 l2_2)
def z0m (p2_0 : List GFlow) (p2_1 : Int) (kx2_0 : Bool → List Bool → Option (List Bool)) : Nat → Int → Bool → List Bool → Option (List Bool)
  | 0, _, _, _ => none
  | n2 + 1, s2_0, s2_1, l2_2 => if decide (s2_0 < p2_1) = true then ((getI p2_0 s2_0).bind fun x11 => (if s2_1 = true then ((getI l2_2 x11.to).bind fun x13 => (gd (ok64 (s2_0 + 1)) ((z0m p2_0 p2_1 kx2_0 n2) (s2_0 + 1) true (l2_2.set x11.to.toNat true)))) else ((getI l2_2 x11.to).bind fun x15 => ((getI l2_2 x11.to).bind fun x16 => (gd (ok64 (s2_0 + 1)) ((z0m p2_0 p2_1 kx2_0 n2) (s2_0 + 1) (!x15) (l2_2.set x11.to.toNat true))))))) else (kx2_0 s2_1 l2_2)
def z85 (bk0 : Bool → List Bool → Option (List Bool)) (s1_3 : Bool) (l1_4 : List Bool) : Option (List Bool) := bk0 s1_3 l1_4
def z0e (but : Int) (kx1_0 : Bool → List Bool → Option (List Bool)) : Nat → List GTask → Int → Int → Bool → List Bool → Option (List Bool)
  | 0, _, _, _, _, _ => none
  | n1 + 1, s1_0, s1_1, s1_2, s1_3, l1_4 => if decide (s1_2 < s1_1) = true then ((getI s1_0 s1_2).bind fun x5 => (if decide (s1_2 = but) = true then (gd (ok64 (s1_2 + 1)) ((z0e but kx1_0 n1) s1_0 s1_1 (s1_2 + 1) s1_3 l1_4)) else ((z2h x5.in_ (fun z => z68 z l1_4)).bind fun x8 => (if x8 = true then (z0m x5.out (x5.out.length : Int) (zi8 s1_0 s1_1 s1_2 (z0e but kx1_0 n1)) FUEL 0 s1_3 l1_4) else (gd (ok64 (s1_2 + 1)) ((z0e but kx1_0 n1) s1_0 s1_1 (s1_2 + 1) s1_3 l1_4)))))) else (kx1_0 s1_3 l1_4)
def zi9 (l0_1 : List Bool) : Option (List Bool) := some l0_1
def z11 (n : GNet) (but : Int) (kx0_0 : List Bool → Option (List Bool)) : Nat → Bool → List Bool → Option (List Bool)
  | 0, _, _ => none
  | n0 + 1, s0_0, l0_1 => if s0_0 = true then (z0e but (z85 (z11 n but kx0_0 n0)) FUEL n.tasks (n.tasks.length : Int) 0 false l0_1) else (kx0_0 l0_1)
def z7g (n : GNet) (place : Int) (but : Int) : Option (List Bool) := gd ((0 : Int) ≤ n.places ∧ n.places ≤ (1000000000 : Int)) ((getI (List.replicate n.places.toNat false) place).bind fun x2 => (z11 n but zi9 FUEL true ((List.replicate n.places.toNat false).set place.toNat true)))
def z05 : Con := ⟨202, [.v (.s .net) false, .v .I false, .v .I false], [((.sl .B), true)], [], fun x => z7g x.1 x.2.1 x.2.2.1⟩
def yj6 : Fs := ⟨[z4o], [z8t], []⟩
theorem z7a : yj6.Ok Tryz.prog := (fsK z7w (fsF y8o fs0))
def z9v : Tmpl := ⟨[(2, .c .i), (3, .c (.bx 3 0)), (7, .c (.bx 7 0)), (8, .c .b), (21, .c (.s (.s .task))), (22, .c .i), (23, .c .i), (39, .c (.s (.s .flow))), (40, .c .i), (41, .c .i)], [(3, .boxT (.s .net)), (7, .box [.ref 15]), (15, .arr .B true)]⟩
def z9c : Tmpl := ⟨[(2, .c .i), (3, .c (.bx 3 0)), (7, .c (.bx 7 0)), (8, .c .b), (21, .c (.s (.s .task))), (22, .c .i), (23, .c .i)], [(3, .boxT (.s .net)), (7, .box [.ref 15]), (15, .arr .B true)]⟩
def y0j (av : AV) (x : HP z05.ps) (n : Nat) (v : z9v.den) (K : Ks (CR z05)) : Option (CR z05) := z0m v.1.2.2.2.2.2.2.2.1 v.1.2.2.2.2.2.2.2.2.1 (fun s2_1 l2_2 => z9c.at none ((v.1.1, (), (), s2_1, v.1.2.2.2.2.1, v.1.2.2.2.2.2.1, v.1.2.2.2.2.2.2.1, ()), (v.2.1, ((), ()), l2_2, ())) (K (.exit 4))) n v.1.2.2.2.2.2.2.2.2.2.1 v.1.2.2.2.1 v.2.2.2.1
def z9m (av : AV) (x : HP z05.ps) : Hdl (CR z05) := hnd [] z9v (y0j av x)
theorem y0u : LP z05 Tryz.f202 [0, 0, 0] z9m := lp_ok (W := []) (H := []) (xs := [z9c]) z7a trivial rfl (fun av x v K => by kernel_rfl) (fun av x n v K => by kernel_rfl)
def zi3 : Tmpl := ⟨[(2, .c .i), (3, .c (.bx 3 0)), (7, .c (.bx 7 0)), (8, .c .b), (21, .c (.s (.s .task))), (22, .c .i), (23, .c .i)], [(3, .boxT (.s .net)), (7, .box [.ref 15]), (15, .arr .B true)]⟩
def zc5 : Tmpl := ⟨[(2, .c .i), (3, .c (.bx 3 0)), (7, .c (.bx 7 0)), (8, .c .b)], [(3, .boxT (.s .net)), (7, .box [.ref 15]), (15, .arr .B true)]⟩
def y38 (av : AV) (x : HP z05.ps) (n : Nat) (v : zi3.den) (K : Ks (CR z05)) : Option (CR z05) := z0e v.1.1 (fun s1_3 l1_4 => zc5.at none ((v.1.1, (), (), s1_3, ()), (v.2.1, ((), ()), l1_4, ())) (K (.exit 2))) n v.1.2.2.2.2.1 v.1.2.2.2.2.2.1 v.1.2.2.2.2.2.2.1 v.1.2.2.2.1 v.2.2.2.1
def zd4 (av : AV) (x : HP z05.ps) : Hdl (CR z05) := hnd [] zi3 (y38 av x)
theorem y43 : LP z05 Tryz.f202 [0, 0] zd4 := lp_ok (W := []) (H := [z9m]) (xs := [zc5]) z7a ⟨y0u, trivial⟩ rfl (fun av x v K => by kernel_rfl) (fun av x n v K => by kernel_rfl)
def zo3 : Tmpl := ⟨[(2, .c .i), (3, .c (.bx 3 0)), (7, .c (.bx 7 0)), (8, .c .b)], [(3, .boxT (.s .net)), (7, .box [.ref 15]), (15, .arr .B true)]⟩
def zj5 : Tmpl := ⟨[(7, .c (.bx 7 0))], [(7, .box [.ref 15]), (15, .arr .B true)]⟩
def y6n (av : AV) (x : HP z05.ps) (n : Nat) (v : zo3.den) (K : Ks (CR z05)) : Option (CR z05) := z11 v.2.1 v.1.1 (fun l0_1 => zj5.at none (((), ()), (((), ()), l0_1, ())) (K (.exit 0))) n v.1.2.2.2.1 v.2.2.2.1
def zm8 (av : AV) (x : HP z05.ps) : Hdl (CR z05) := hnd [] zo3 (y6n av x)
theorem y7x : LP z05 Tryz.f202 [0] zm8 := lp_ok (W := []) (H := [zd4]) (xs := [zj5]) z7a ⟨y43, trivial⟩ rfl (fun av x v K => by kernel_rfl) (fun av x n v K => by kernel_rfl)
theorem yl4 : z05.Ok Tryz.prog := fn_ok (k := z05) (fn := Tryz.f202) (W := []) (H := [zm8]) Tryz.func202 z7a ⟨y7x, trivial⟩ rfl rfl (fun av x => by kernel_rfl)
def z7f (m : Int) : Option Bool := (z0d m 0 4).bind fun x1 => (some (!x1))
def z7p : FCon := ⟨199, .I, [], fun z c => z7f z ⟩
def y3b : Fs := ⟨[z22], [], []⟩
theorem y3e : y3b.Ok Tryz.prog := (fsK z2r fs0)
theorem y47 : z7p.Ok Tryz.prog := FCon.ok (fn_ok (k := z7p.con) (fn := Tryz.f199) (W := []) (H := []) Tryz.func199 y3e trivial rfl rfl (fun av x => by kernel_rfl))
def z4c (n : GNet) (marks : List Int) : Option Bool := if decide ((marks.length : Int) = n.places) = true then ((z2h marks (fun z => z7f z )).bind fun x2 => (some (!x2))) else (some false)
def z60 : Con := ⟨164, [.v (.s .net) false, .v (.sl .I) false], [(.B, true)], [], fun x => z4c x.1 x.2.1⟩
def y6u : Fs := ⟨[z4o], [z7p], []⟩
theorem y6x : y6u.Ok Tryz.prog := (fsK z7w (fsF y47 fs0))
theorem zn8 : z60.Ok Tryz.prog := fn_ok (k := z60) (fn := Tryz.f164) (W := []) (H := []) Tryz.func164 y6x trivial rfl rfl (fun av x => by kernel_rfl)
def zb6 (n : GNet) (marks : List Int) : Option Bool := (z8k n).bind fun x1 => (if x1 = true then ((z4c n marks).bind fun x3 => (some x3)) else (some false))
def zn3 : Con := ⟨94, [.v (.s .net) false, .v (.sl .I) false], [(.B, true)], [], fun x => zb6 x.1 x.2.1⟩
def ws0 : Fs := ⟨[zb1, z60], [], []⟩
theorem wu7 : ws0.Ok Tryz.prog := (fsK y00 (fsK zn8 fs0))
theorem y8m : zn3.Ok Tryz.prog := fn_ok (k := zn3) (fn := Tryz.f94) (W := []) (H := []) Tryz.func94 wu7 trivial rfl rfl (fun av x => by kernel_rfl)
def ze8 (busy : List GItem) : Option Bool := some (decide ((busy.length : Int) ≤ 6))
def z20 (n : GNet) (p0_0 : List GItem) (p0_1 : Int) (kx0_0 : Option Bool) : Nat → Int → Option Bool
  | 0, _ => none
  | n0 + 1, s0_0 => if decide (s0_0 < p0_1) = true then ((getI p0_0 s0_0).bind fun x2 => ((z0p n x2.task).bind fun x3 => (if x3 = true then ((z8n x2.who).bind fun x5 => (if x5 = true then ((getI n.tasks x2.task).bind fun x7 => (gd (ok64 (x7.need - 1)) ((z0d x2.did 0 (x7.need - 1)).bind fun x9 => (if x9 = true then (gd (ok64 (s0_0 + 1)) ((z20 n p0_0 p0_1 kx0_0 n0) (s0_0 + 1))) else (some false))))) else (some false))) else (some false)))) else (kx0_0)
def z4t (n : GNet) (busy : List GItem) : Option Bool := z20 n busy (busy.length : Int) (ze8 busy) FUEL 0
def z0t : Con := ⟨95, [.v (.s .net) false, .v (.sl (.s .item)) false], [(.B, true)], [], fun x => z4t x.1 x.2.1⟩
def yc2 : Fs := ⟨[z1r, ze1, z22], [], []⟩
theorem zp7 : yc2.Ok Tryz.prog := (fsK z4e (fsK y8r (fsK z2r fs0)))
def zj2 : Tmpl := ⟨[(1, .c (.s (.s .item))), (2, .c (.bx 2 0)), (7, .c (.s (.s .item))), (8, .c .i), (9, .c .i)], [(2, .boxT (.s .net))]⟩
def zi4 : Tmpl := ⟨[(1, .c (.s (.s .item)))], []⟩
def y6i (av : AV) (x : HP z0t.ps) (n : Nat) (v : zj2.den) (K : Ks (CR z0t)) : Option (CR z0t) := z20 v.2.1 v.1.2.2.1 v.1.2.2.2.1 (zi4.at none ((v.1.1, ()), ()) (K (.exit 0))) n v.1.2.2.2.2.1
def zi6 (av : AV) (x : HP z0t.ps) : Hdl (CR z0t) := hnd [] zj2 (y6i av x)
theorem y6k : LP z0t Tryz.f95 [0] zi6 := lp_ok (W := []) (H := []) (xs := [zi4]) zp7 trivial rfl (fun av x v K => by kernel_rfl) (fun av x n v K => by kernel_rfl)
theorem zq2 : z0t.Ok Tryz.prog := fn_ok (k := z0t) (fn := Tryz.f95) (W := []) (H := [zi6]) Tryz.func95 zp7 ⟨y6k, trivial⟩ rfl rfl (fun av x => by kernel_rfl)
def z7d (q : Int) (marks : List Int) (reach : List Bool) : Option Bool := (getI marks q).bind fun x1 => (if decide (x1 = 0) = true then ((getI reach q).bind fun x3 => (some x3)) else (some false))
def z7o : FCon := ⟨203, .I, [(.sl .I), (.sl .B)], fun z c => z7d z c.1 c.2.1⟩
def y3a : Fs := ⟨[], [], []⟩
theorem y3d : y3a.Ok Tryz.prog := fs0
theorem y46 : z7o.Ok Tryz.prog := FCon.ok (fn_ok (k := z7o.con) (fn := Tryz.f203) (W := []) (H := []) Tryz.func203 y3d trivial rfl rfl (fun av x => by kernel_rfl))
def z4j (s1_0 : Int) (s1_1 : Int) (bk1 : Int → Int → List Int → Option Bool) (l2_1 : List Int) : Option Bool := gd (ok64 (s1_1 + 1)) (bk1 s1_0 (s1_1 + 1) l2_1)
def z1q (p2_0 : List GFlow) (p2_1 : Int) (kx2_0 : List Int → Option Bool) : Nat → Int → List Int → Option Bool
  | 0, _, _ => none
  | n2 + 1, s2_0, l2_1 => if decide (s2_0 < p2_1) = true then ((getI p2_0 s2_0).bind fun x15 => (gd (l2_1.length + [x15.to].length ≤ SMALL) (gd (ok64 (s2_0 + 1)) ((z1q p2_0 p2_1 kx2_0 n2) (s2_0 + 1) (l2_1 ++ [x15.to]))))) else (kx2_0 l2_1)
def z6r  : Option Bool := some false
def z15 (n : GNet) (t : Int) (p0_0 : List Int) (p0_2 : List Int) (l1_2 : List Int) (p3_0 : Int) (kx3_0 : Option Bool) : Nat → Int → Option Bool
  | 0, _ => none
  | n3 + 1, s3_0 => if decide (s3_0 < p3_0) = true then ((getI l1_2 s3_0).bind fun x20 => ((z7g n x20 t).bind fun x21 => ((z2h p0_0 (fun z => z7d z p0_2 x21)).bind fun x22 => (if x22 = true then (some true) else (gd (ok64 (s3_0 + 1)) ((z15 n t p0_0 p0_2 l1_2 p3_0 kx3_0 n3) (s3_0 + 1))))))) else (kx3_0)
def z1p (n : GNet) (t : Int) (p0_0 : List Int) (p0_2 : List Int) (l1_2 : List Int) : Option Bool := z15 n t p0_0 p0_2 l1_2 (l1_2.length : Int) z6r FUEL 0
def z0s (n : GNet) (busy : List GItem) (kx1_0 : List Int → Option Bool) : Nat → Int → Int → List Int → Option Bool
  | 0, _, _, _ => none
  | n1 + 1, s1_0, s1_1, l1_2 => if decide (s1_1 < s1_0) = true then ((getI busy s1_1).bind fun x12 => ((getI n.tasks x12.task).bind fun x13 => (z1q x13.out (x13.out.length : Int) (z4j s1_0 s1_1 (z0s n busy kx1_0 n1)) FUEL 0 l1_2))) else (kx1_0 l1_2)
def z4i (n : GNet) (busy : List GItem) (t : Int) (p0_0 : List Int) (p0_2 : List Int) (l0_1 : List Int) : Option Bool := z0s n busy (z1p n t p0_0 p0_2) FUEL (busy.length : Int) 0 l0_1
def z0r (marks : List Int) (p0_0 : List Int) (p0_1 : Int) (kx0_0 : List Int → Option Bool) : Nat → Int → List Int → Option Bool
  | 0, _, _ => none
  | n0 + 1, s0_0, l0_1 => if decide (s0_0 < p0_1) = true then ((getI marks s0_0).bind fun x3 => (if decide (0 < x3) = true then ((zb3 p0_0 s0_0).bind fun x5 => (if x5 = true then (gd (ok64 (s0_0 + 1)) ((z0r marks p0_0 p0_1 kx0_0 n0) (s0_0 + 1) l0_1)) else (gd (l0_1.length + [s0_0].length ≤ SMALL) (gd (ok64 (s0_0 + 1)) ((z0r marks p0_0 p0_1 kx0_0 n0) (s0_0 + 1) (l0_1 ++ [s0_0])))))) else (gd (ok64 (s0_0 + 1)) ((z0r marks p0_0 p0_1 kx0_0 n0) (s0_0 + 1) l0_1)))) else (kx0_0 l0_1)
def z67 (n : GNet) (marks : List Int) (busy : List GItem) (t : Int) : Option Bool := (getI n.tasks t).bind fun x1 => (z0r marks x1.in_ (marks.length : Int) (z4i n busy t x1.in_ marks) FUEL 0 ([] : List Int))
def z01 : Con := ⟨168, [.v (.s .net) false, .v (.sl .I) false, .v (.sl (.s .item)) false, .v .I false], [(.B, true)], [], fun x => z67 x.1 x.2.1 x.2.2.1 x.2.2.2.1⟩
def y6s : Fs := ⟨[zn1, z05, z4o], [z7o], []⟩
theorem z48 : y6s.Ok Tryz.prog := (fsK y8i (fsK yl4 (fsK z7w (fsF y46 fs0))))
def z9u : Tmpl := ⟨[(3, .c .i), (4, .c (.bx 4 0)), (5, .c (.bx 5 0)), (9, .c (.s .I)), (10, .c (.ref 500010)), (46, .c (.s (.s .item))), (47, .c .i), (48, .c .i), (58, .c (.s (.s .flow))), (59, .c .i), (60, .c .i)], [(4, .boxT (.s .net)), (5, .box [.s .I]), (500010, .arr .I true)]⟩
def z9b : Tmpl := ⟨[(3, .c .i), (4, .c (.bx 4 0)), (5, .c (.bx 5 0)), (9, .c (.s .I)), (10, .c (.ref 500010)), (46, .c (.s (.s .item))), (47, .c .i), (48, .c .i)], [(4, .boxT (.s .net)), (5, .box [.s .I]), (500010, .arr .I true)]⟩
def y0i (av : AV) (x : HP z01.ps) (n : Nat) (v : z9u.den) (K : Ks (CR z01)) : Option (CR z01) := z1q v.1.2.2.2.2.2.2.2.2.1 v.1.2.2.2.2.2.2.2.2.2.1 (fun l2_1 => z9b.at none ((v.1.1, (), (), v.1.2.2.2.1, (), v.1.2.2.2.2.2.1, v.1.2.2.2.2.2.2.1, v.1.2.2.2.2.2.2.2.1, ()), (v.2.1, (v.2.2.1.1, ()), l2_1, ())) (K (.exit 4))) n v.1.2.2.2.2.2.2.2.2.2.2.1 v.2.2.2.1
def z9l (av : AV) (x : HP z01.ps) : Hdl (CR z01) := hnd [] z9u (y0i av x)
theorem y0t : LP z01 Tryz.f168 [1, 0] z9l := lp_ok (W := []) (H := []) (xs := [z9b]) z48 trivial rfl (fun av x v K => by kernel_rfl) (fun av x n v K => by kernel_rfl)
def zi0 : Tmpl := ⟨[(2, .c (.s (.s .item))), (3, .c .i), (4, .c (.bx 4 0)), (5, .c (.bx 5 0)), (9, .c (.s .I)), (10, .c (.ref 500010)), (26, .c (.s .I)), (27, .c .i), (28, .c .i)], [(4, .boxT (.s .net)), (5, .box [.s .I]), (500010, .arr .I true)]⟩
def zc2 : Tmpl := ⟨[(2, .c (.s (.s .item))), (3, .c .i), (4, .c (.bx 4 0)), (5, .c (.bx 5 0)), (9, .c (.s .I)), (10, .c (.ref 500010))], [(4, .boxT (.s .net)), (5, .box [.s .I]), (500010, .arr .I true)]⟩
def y35 (av : AV) (x : HP z01.ps) (n : Nat) (v : zi0.den) (K : Ks (CR z01)) : Option (CR z01) := z0r v.1.2.2.2.2.2.2.1 v.1.2.2.2.2.1 v.1.2.2.2.2.2.2.2.1 (fun l0_1 => zc2.at none ((v.1.1, v.1.2.1, (), (), v.1.2.2.2.2.1, (), ()), (v.2.1, (v.2.2.1.1, ()), l0_1, ())) (K (.exit 0))) n v.1.2.2.2.2.2.2.2.2.1 v.2.2.2.1
def zd1 (av : AV) (x : HP z01.ps) : Hdl (CR z01) := hnd [.e 10 500010 .I] zi0 (y35 av x)
theorem y40 : LP z01 Tryz.f168 [0] zd1 := lp_ok (W := []) (H := []) (xs := [zc2]) z48 trivial rfl (fun av x v K => by kernel_rfl) (fun av x n v K => by kernel_rfl)
def zi1 : Tmpl := ⟨[(3, .c .i), (4, .c (.bx 4 0)), (5, .c (.bx 5 0)), (9, .c (.s .I)), (10, .c (.ref 500010)), (46, .c (.s (.s .item))), (47, .c .i), (48, .c .i)], [(4, .boxT (.s .net)), (5, .box [.s .I]), (500010, .arr .I true)]⟩
def zc3 : Tmpl := ⟨[(3, .c .i), (4, .c (.bx 4 0)), (5, .c (.bx 5 0)), (9, .c (.s .I)), (10, .c (.ref 500010))], [(4, .boxT (.s .net)), (5, .box [.s .I]), (500010, .arr .I true)]⟩
def y36 (av : AV) (x : HP z01.ps) (n : Nat) (v : zi1.den) (K : Ks (CR z01)) : Option (CR z01) := z0s v.2.1 v.1.2.2.2.2.2.1 (fun l1_2 => zc3.at none ((v.1.1, (), (), v.1.2.2.2.1, (), ()), (v.2.1, (v.2.2.1.1, ()), l1_2, ())) (K (.exit 2))) n v.1.2.2.2.2.2.2.1 v.1.2.2.2.2.2.2.2.1 v.2.2.2.1
def zd2 (av : AV) (x : HP z01.ps) : Hdl (CR z01) := hnd [] zi1 (y36 av x)
theorem y41 : LP z01 Tryz.f168 [1] zd2 := lp_ok (W := []) (H := [z9l]) (xs := [zc3]) z48 ⟨y0t, trivial⟩ rfl (fun av x v K => by kernel_rfl) (fun av x n v K => by kernel_rfl)
def zi2 : Tmpl := ⟨[(3, .c .i), (4, .c (.bx 4 0)), (5, .c (.bx 5 0)), (9, .c (.s .I)), (71, .c (.ref 500010)), (72, .c .i), (73, .c .i)], [(4, .boxT (.s .net)), (5, .box [.s .I]), (500010, .arr .I true)]⟩
def zc4 : Tmpl := ⟨[], []⟩
def y37 (av : AV) (x : HP z01.ps) (n : Nat) (v : zi2.den) (K : Ks (CR z01)) : Option (CR z01) := z15 v.2.1 v.1.1 v.1.2.2.2.1 v.2.2.1.1 v.2.2.2.1 v.1.2.2.2.2.2.1 (zc4.at none ((), ()) (K (.exit 6))) n v.1.2.2.2.2.2.2.1
def zd3 (av : AV) (x : HP z01.ps) : Hdl (CR z01) := hnd [] zi2 (y37 av x)
theorem y42 : LP z01 Tryz.f168 [2] zd3 := lp_ok (W := []) (H := []) (xs := [zc4]) z48 trivial rfl (fun av x v K => by kernel_rfl) (fun av x n v K => by kernel_rfl)
theorem y8n : z01.Ok Tryz.prog := fn_ok (k := z01) (fn := Tryz.f168) (W := []) (H := [zd1, zd2, zd3]) Tryz.func168 z48 ⟨y40, y41, y42, trivial⟩ rfl rfl (fun av x => by kernel_rfl)
def z36 (n : GNet) (marks : List Int) (busy : List GItem) (t : Int) (s0_0 : Bool) (s0_2 : Bool) : Option Bool := (getI n.tasks t).bind fun x14 => (if decide (x14.join = 1) = true then (some s0_0) else (if decide (x14.join = 2) = true then (some s0_2) else (if s0_2 = true then (if s0_0 = true then (some true) else ((z67 n marks busy t).bind fun x19 => (some (!x19)))) else (some false))))
def z0u (marks : List Int) (p0_0 : List Int) (p0_1 : Int) (kx0_0 : Bool → Bool → Option Bool) : Nat → Bool → Int → Bool → Option Bool
  | 0, _, _, _ => none
  | n0 + 1, s0_0, s0_1, s0_2 => if decide (s0_1 < p0_1) = true then ((getI p0_0 s0_1).bind fun x3 => (if s0_2 = true then (if s0_0 = true then ((getI marks x3).bind fun x6 => (gd (ok64 (s0_1 + 1)) ((z0u marks p0_0 p0_1 kx0_0 n0) (decide (0 < x6)) (s0_1 + 1) true))) else (gd (ok64 (s0_1 + 1)) ((z0u marks p0_0 p0_1 kx0_0 n0) false (s0_1 + 1) true))) else ((getI marks x3).bind fun x9 => (if s0_0 = true then ((getI marks x3).bind fun x11 => (gd (ok64 (s0_1 + 1)) ((z0u marks p0_0 p0_1 kx0_0 n0) (decide (0 < x11)) (s0_1 + 1) (decide (0 < x9))))) else (gd (ok64 (s0_1 + 1)) ((z0u marks p0_0 p0_1 kx0_0 n0) false (s0_1 + 1) (decide (0 < x9)))))))) else (kx0_0 s0_0 s0_2)
def z93 (n : GNet) (marks : List Int) (busy : List GItem) (t : Int) : Option Bool := (getI n.tasks t).bind fun x1 => (z0u marks x1.in_ (x1.in_.length : Int) (z36 n marks busy t) FUEL true 0 false)
def z1z : Con := ⟨104, [.v (.s .net) false, .v (.sl .I) false, .v (.sl (.s .item)) false, .v .I false], [(.B, true)], [], fun x => z93 x.1 x.2.1 x.2.2.1 x.2.2.2.1⟩
def yv6 : Fs := ⟨[z01], [], []⟩
theorem y1g : yv6.Ok Tryz.prog := (fsK y8n fs0)
def zx2 : Tmpl := ⟨[(1, .c (.s .I)), (2, .c (.s (.s .item))), (3, .c .i), (4, .c (.bx 4 0)), (9, .c .b), (10, .c .b), (18, .c (.s .I)), (19, .c .i), (20, .c .i)], [(4, .boxT (.s .net))]⟩
def zq7 : Tmpl := ⟨[(1, .c (.s .I)), (2, .c (.s (.s .item))), (3, .c .i), (4, .c (.bx 4 0)), (9, .c .b), (10, .c .b)], [(4, .boxT (.s .net))]⟩
def yi8 (av : AV) (x : HP z1z.ps) (n : Nat) (v : zx2.den) (K : Ks (CR z1z)) : Option (CR z1z) := z0u v.1.1 v.1.2.2.2.2.2.2.1 v.1.2.2.2.2.2.2.2.1 (fun s0_0 s0_2 => zq7.at none ((v.1.1, v.1.2.1, v.1.2.2.1, (), s0_2, s0_0, ()), (v.2.1, ())) (K (.exit 0))) n v.1.2.2.2.2.2.1 v.1.2.2.2.2.2.2.2.2.1 v.1.2.2.2.2.1
def zv3 (av : AV) (x : HP z1z.ps) : Hdl (CR z1z) := hnd [] zx2 (yi8 av x)
theorem yk4 : LP z1z Tryz.f104 [0] zv3 := lp_ok (W := []) (H := []) (xs := [zq7]) y1g trivial rfl (fun av x v K => by kernel_rfl) (fun av x n v K => by kernel_rfl)
theorem yy8 : z1z.Ok Tryz.prog := fn_ok (k := z1z) (fn := Tryz.f104) (W := []) (H := [zv3]) Tryz.func104 y1g ⟨yk4, trivial⟩ rfl rfl (fun av x => by kernel_rfl)
def zs1 (n : GNet) (marks : List Int) (busy : List GItem) (t : Int) : Option Bool := (zb6 n marks).bind fun x1 => (if x1 = true then ((z4t n busy).bind fun x3 => (if x3 = true then ((z0p n t).bind fun x5 => (if x5 = true then ((z93 n marks busy t).bind fun x7 => (some x7)) else (some false))) else (some false))) else (some false))
def y3j : Con := ⟨33, [.v (.s .net) false, .v (.sl .I) false, .v (.sl (.s .item)) false, .v .I false], [(.B, true)], [], fun x => zs1 x.1 x.2.1 x.2.2.1 x.2.2.2.1⟩
def wc3 : Fs := ⟨[zn3, z0t, z1r, z1z], [], []⟩
theorem wg4 : wc3.Ok Tryz.prog := (fsK y8m (fsK zq2 (fsK z4e (fsK yy8 fs0))))
theorem wk6 : y3j.Ok Tryz.prog := fn_ok (k := y3j) (fn := Tryz.f33) (W := []) (H := []) Tryz.func33 wg4 trivial rfl rfl (fun av x => by kernel_rfl)
def zn6 (l0_1 : List Int) (x4 : Int) (x7 : Int) : Option (List Int) := some (l0_1.set x4.toNat (x7 - 1))
def zn7 (l0_1 : List Int) : Option (List Int) := some l0_1
def z1s (n : GNet) (t : Int) (p0_0 : List Int) (p0_1 : Int) (kx0_0 : List Int → Int → Int → Option (List Int)) (kx0_1 : List Int → Option (List Int)) : Nat → Int → List Int → Option (List Int)
  | 0, _, _ => none
  | n0 + 1, s0_0, l0_1 => if decide (s0_0 < p0_1) = true then ((getI p0_0 s0_0).bind fun x4 => ((getI l0_1 x4).bind fun x5 => (if decide (0 < x5) = true then ((getI l0_1 x4).bind fun x7 => (gd (ok64 (x7 - 1)) ((getI l0_1 x4).bind fun x9 => ((getI n.tasks t).bind fun x10 => (if decide (x10.join = 2) = true then (kx0_0 l0_1 x4 x7) else (gd (ok64 (s0_0 + 1)) ((z1s n t p0_0 p0_1 kx0_0 kx0_1 n0) (s0_0 + 1) (l0_1.set x4.toNat (x7 - 1))))))))) else (gd (ok64 (s0_0 + 1)) ((z1s n t p0_0 p0_1 kx0_0 kx0_1 n0) (s0_0 + 1) l0_1))))) else (kx0_1 l0_1)
def z87 (n : GNet) (marks : List Int) (t : Int) : Option (List Int) := (z0n marks).bind fun x1 => ((getI n.tasks t).bind fun x2 => (z1s n t x2.in_ (x2.in_.length : Int) zn6 zn7 FUEL 0 x1))
def z1j : Con := ⟨93, [.v (.s .net) false, .v (.sl .I) false, .v .I false], [((.sl .I), true)], [], fun x => z87 x.1 x.2.1 x.2.2.1⟩
def yn1 : Fs := ⟨[z1v], [], []⟩
theorem zy1 : yn1.Ok Tryz.prog := (fsK z3g fs0)
def zq4 : Tmpl := ⟨[(2, .c .i), (3, .c (.bx 3 0)), (7, .c (.ref 11)), (17, .c (.s .I)), (18, .c .i), (19, .c .i)], [(3, .boxT (.s .net)), (11, .arr .I true)]⟩
def z8v : Tmpl := ⟨[(7, .c (.ref 11))], [(11, .arr .I true)]⟩
def yb8 (av : AV) (x : HP z1j.ps) (n : Nat) (v : zq4.den) (K : Ks (CR z1j)) : Option (CR z1j) := z1s v.2.1 v.1.1 v.1.2.2.2.1 v.1.2.2.2.2.1 (fun l0_1 x4 x7 => z8v.at none (((), ()), ((l0_1.set x4.toNat (x7 - 1)), ())) (K (.exit 0))) (fun l0_1 => z8v.at none (((), ()), (l0_1, ())) (K (.exit 0))) n v.1.2.2.2.2.2.1 v.2.2.1
def zp9 (av : AV) (x : HP z1j.ps) : Hdl (CR z1j) := hnd [] zq4 (yb8 av x)
theorem yc9 : LP z1j Tryz.f93 [0] zp9 := lp_ok (W := []) (H := []) (xs := [z8v]) zy1 trivial rfl (fun av x v K => by kernel_rfl) (fun av x n v K => by kernel_rfl)
theorem yq7 : z1j.Ok Tryz.prog := fn_ok (k := z1j) (fn := Tryz.f93) (W := []) (H := [zp9]) Tryz.func93 zy1 ⟨yc9, trivial⟩ rfl rfl (fun av x => by kernel_rfl)
def y85 (l0_1 : List Int) : Option (List Int) := some l0_1
def z0q (t : GTask) (data : List Int) (p0_0 : List GFlow) (p0_1 : Int) (kx0_0 : List Int → Option (List Int)) : Nat → Int → List Int → Option (List Int)
  | 0, _, _ => none
  | n0 + 1, s0_0, l0_1 => if decide (s0_0 < p0_1) = true then ((getI p0_0 s0_0).bind fun x2 => ((z2e x2.if_ data).bind fun x3 => (if x3 = true then (if decide (t.split = 2) = true then (if decide (0 < (l0_1.length : Int)) = true then (gd (ok64 (s0_0 + 1)) ((z0q t data p0_0 p0_1 kx0_0 n0) (s0_0 + 1) l0_1)) else (if decide (t.split = 3) = true then (gd (ok64 ((t.out.length : Int) - 1)) (if decide (s0_0 = ((t.out.length : Int) - 1)) = true then (if decide (0 < (l0_1.length : Int)) = true then (gd (ok64 (s0_0 + 1)) ((z0q t data p0_0 p0_1 kx0_0 n0) (s0_0 + 1) l0_1)) else (gd (l0_1.length + [x2.to].length ≤ SMALL) (gd (ok64 (s0_0 + 1)) ((z0q t data p0_0 p0_1 kx0_0 n0) (s0_0 + 1) (l0_1 ++ [x2.to]))))) else (gd (l0_1.length + [x2.to].length ≤ SMALL) (gd (ok64 (s0_0 + 1)) ((z0q t data p0_0 p0_1 kx0_0 n0) (s0_0 + 1) (l0_1 ++ [x2.to])))))) else (gd (l0_1.length + [x2.to].length ≤ SMALL) (gd (ok64 (s0_0 + 1)) ((z0q t data p0_0 p0_1 kx0_0 n0) (s0_0 + 1) (l0_1 ++ [x2.to])))))) else (if decide (t.split = 3) = true then (gd (ok64 ((t.out.length : Int) - 1)) (if decide (s0_0 = ((t.out.length : Int) - 1)) = true then (if decide (0 < (l0_1.length : Int)) = true then (gd (ok64 (s0_0 + 1)) ((z0q t data p0_0 p0_1 kx0_0 n0) (s0_0 + 1) l0_1)) else (gd (l0_1.length + [x2.to].length ≤ SMALL) (gd (ok64 (s0_0 + 1)) ((z0q t data p0_0 p0_1 kx0_0 n0) (s0_0 + 1) (l0_1 ++ [x2.to]))))) else (gd (l0_1.length + [x2.to].length ≤ SMALL) (gd (ok64 (s0_0 + 1)) ((z0q t data p0_0 p0_1 kx0_0 n0) (s0_0 + 1) (l0_1 ++ [x2.to])))))) else (gd (l0_1.length + [x2.to].length ≤ SMALL) (gd (ok64 (s0_0 + 1)) ((z0q t data p0_0 p0_1 kx0_0 n0) (s0_0 + 1) (l0_1 ++ [x2.to])))))) else (gd (ok64 (s0_0 + 1)) ((z0q t data p0_0 p0_1 kx0_0 n0) (s0_0 + 1) l0_1))))) else (kx0_0 l0_1)
def zz0 (t : GTask) (data : List Int) : Option (List Int) := z0q t data t.out (t.out.length : Int) y85 FUEL 0 ([] : List Int)
def z61 : Con := ⟨173, [.v (.s .task) false, .v (.sl .I) false], [((.sl .I), true)], [], fun x => zz0 x.1 x.2.1⟩
def ws4 : Fs := ⟨[z49], [], []⟩
theorem w05 : ws4.Ok Tryz.prog := (fsK z75 fs0)
def yh4 : Tmpl := ⟨[(1, .c (.s .I)), (2, .c (.bx 2 0)), (5, .c (.ref 500005)), (9, .c (.s (.s .flow))), (10, .c .i), (11, .c .i)], [(2, .boxT (.s .task)), (500005, .arr .I true)]⟩
def y9p : Tmpl := ⟨[(5, .c (.ref 500005))], [(500005, .arr .I true)]⟩
def w6q (av : AV) (x : HP z61.ps) (n : Nat) (v : yh4.den) (K : Ks (CR z61)) : Option (CR z61) := z0q v.2.1 v.1.1 v.1.2.2.2.1 v.1.2.2.2.2.1 (fun l0_1 => y9p.at none (((), ()), (l0_1, ())) (K (.exit 0))) n v.1.2.2.2.2.2.1 v.2.2.1
def ye9 (av : AV) (x : HP z61.ps) : Hdl (CR z61) := hnd [.e 5 500005 .I] yh4 (w6q av x)
theorem w8f : LP z61 Tryz.f173 [0] ye9 := lp_ok (W := []) (H := []) (xs := [y9p]) w05 trivial rfl (fun av x v K => by kernel_rfl) (fun av x n v K => by kernel_rfl)
theorem wy3 : z61.Ok Tryz.prog := fn_ok (k := z61) (fn := Tryz.f173) (W := []) (H := [ye9]) Tryz.func173 w05 ⟨w8f, trivial⟩ rfl rfl (fun av x => by kernel_rfl)
def z92 (n : GNet) (l1_1 : List Int) : Option ((List Int) × Bool) := (z4c n l1_1).bind fun x21 => (if x21 = true then (some (l1_1, true)) else (some ([], false)))
def z59 (x14 : (List Int)) (p1_0 : Int) (kx1_0 : List Int → Option ((List Int) × Bool)) : Nat → Int → List Int → Option ((List Int) × Bool)
  | 0, _, _ => none
  | n1 + 1, s1_0, l1_1 => if decide (s1_0 < p1_0) = true then ((getI x14 s1_0).bind fun x16 => ((getI l1_1 x16).bind fun x17 => (gd (ok64 (x17 + 1)) ((getI l1_1 x16).bind fun x19 => (gd (ok64 (s1_0 + 1)) ((z59 x14 p1_0 kx1_0 n1) (s1_0 + 1) (l1_1.set x16.toNat (x17 + 1)))))))) else (kx1_0 l1_1)
def z91 (n : GNet) (t : Int) (data : List Int) (l0_1 : List Int) : Option ((List Int) × Bool) := (getI n.tasks t).bind fun x13 => ((zz0 x13 data).bind fun x14 => (z59 x14 (x14.length : Int) (z92 n) FUEL 0 l0_1))
def z58 (p0_0 : List Int) (p0_1 : Int) (kx0_0 : List Int → Option ((List Int) × Bool)) : Nat → Int → List Int → Option ((List Int) × Bool)
  | 0, _, _ => none
  | n0 + 1, s0_0, l0_1 => if decide (s0_0 < p0_1) = true then ((getI p0_0 s0_0).bind fun x10 => ((getI l0_1 x10).bind fun x11 => (gd (ok64 (s0_0 + 1)) ((z58 p0_0 p0_1 kx0_0 n0) (s0_0 + 1) (l0_1.set x10.toNat 0))))) else (kx0_0 l0_1)
def z80 (n : GNet) (marks : List Int) (t : Int) (data : List Int) : Option ((List Int) × Bool) := (zb6 n marks).bind fun x1 => (if x1 = true then ((z0p n t).bind fun x3 => (if x3 = true then ((z3b data).bind fun x5 => (if x5 = true then ((z0n marks).bind fun x7 => ((getI n.tasks t).bind fun x8 => (z58 x8.clear (x8.clear.length : Int) (z91 n t data) FUEL 0 x7))) else (some ([], false)))) else (some ([], false)))) else (some ([], false)))
def z0x : Con := ⟨115, [.v (.s .net) false, .v (.sl .I) false, .v .I false, .v (.sl .I) false], [((.sl .I), true), (.B, true)], [], fun x => z80 x.1 x.2.1 x.2.2.1 x.2.2.2.1⟩
def w77 : Fs := ⟨[zn3, z1r, z56, z1v, z61, z60], [], []⟩
theorem y0k : w77.Ok Tryz.prog := (fsK y8m (fsK z4e (fsK z78 (fsK z3g (fsK wy3 (fsK zn8 fs0))))))
def y5h : Tmpl := ⟨[(2, .c .i), (3, .c (.s .I)), (4, .c (.bx 4 0)), (10, .c (.ref 31)), (37, .c (.s .I)), (38, .c .i), (39, .c .i)], [(4, .boxT (.s .net)), (31, .arr .I true)]⟩
def y2l : Tmpl := ⟨[(2, .c .i), (3, .c (.s .I)), (4, .c (.bx 4 0)), (10, .c (.ref 31))], [(4, .boxT (.s .net)), (31, .arr .I true)]⟩
def w11 (av : AV) (x : HP z0x.ps) (n : Nat) (v : y5h.den) (K : Ks (CR z0x)) : Option (CR z0x) := z58 v.1.2.2.2.2.1 v.1.2.2.2.2.2.1 (fun l0_1 => y2l.at none ((v.1.1, v.1.2.1, (), (), ()), (v.2.1, l0_1, ())) (K (.exit 0))) n v.1.2.2.2.2.2.2.1 v.2.2.1
def y4l (av : AV) (x : HP z0x.ps) : Hdl (CR z0x) := hnd [] y5h (w11 av x)
theorem w1z : LP z0x Tryz.f115 [0] y4l := lp_ok (W := []) (H := []) (xs := [y2l]) y0k trivial rfl (fun av x v K => by kernel_rfl) (fun av x n v K => by kernel_rfl)
def y5i : Tmpl := ⟨[(4, .c (.bx 4 0)), (10, .c (.ref 31)), (53, .c (.ref 53)), (54, .c .i), (55, .c .i)], [(4, .boxT (.s .net)), (31, .arr .I true), (53, .arr .I true)]⟩
def y2m : Tmpl := ⟨[(4, .c (.bx 4 0)), (10, .c (.ref 31))], [(4, .boxT (.s .net)), (31, .arr .I true)]⟩
def w12 (av : AV) (x : HP z0x.ps) (n : Nat) (v : y5i.den) (K : Ks (CR z0x)) : Option (CR z0x) := z59 v.2.2.2.1 v.1.2.2.2.1 (fun l1_1 => y2m.at none (((), (), ()), (v.2.1, l1_1, ())) (K (.exit 2))) n v.1.2.2.2.2.1 v.2.2.1
def y4m (av : AV) (x : HP z0x.ps) : Hdl (CR z0x) := hnd [] y5i (w12 av x)
theorem w20 : LP z0x Tryz.f115 [1] y4m := lp_ok (W := []) (H := []) (xs := [y2m]) y0k trivial rfl (fun av x v K => by kernel_rfl) (fun av x n v K => by kernel_rfl)
theorem w8w : z0x.Ok Tryz.prog := fn_ok (k := z0x) (fn := Tryz.f115) (W := []) (H := [y4l, y4m]) Tryz.func115 y0k ⟨w1z, w20, trivial⟩ rfl rfl (fun av x => by kernel_rfl)
def y0y (n : Int) : Option Bool := (z0d n 0 7).bind fun x1 => (some (!x1))
def y15 : FCon := ⟨119, .I, [], fun z c => y0y z ⟩
def w79 : Fs := ⟨[z22], [], []⟩
theorem w80 : w79.Ok Tryz.prog := (fsK z2r fs0)
theorem w8y : y15.Ok Tryz.prog := FCon.ok (fn_ok (k := y15.con) (fn := Tryz.f119) (W := []) (H := []) Tryz.func119 w80 trivial rfl rfl (fun av x => by kernel_rfl))
def zb7 (people : List Int) : Option Bool := (z0d (people.length : Int) 1 4).bind fun x1 => (if x1 = true then ((z2h people (fun z => y0y z )).bind fun x3 => (some (!x3))) else (some false))
def zn4 : Con := ⟨50, [.v (.sl .I) false], [(.B, true)], [], fun x => zb7 x.1⟩
def ws2 : Fs := ⟨[z22, z4o], [y15], []⟩
theorem wu9 : ws2.Ok Tryz.prog := (fsK z2r (fsK z7w (fsF w8y fs0)))
theorem y8p : zn4.Ok Tryz.prog := fn_ok (k := zn4) (fn := Tryz.f50) (W := []) (H := []) Tryz.func50 wu9 trivial rfl rfl (fun av x => by kernel_rfl)
def zs3 (people : List Int) (who : Int) (role : Int) : Option Bool := (zb7 people).bind fun x1 => (if x1 = true then ((z0d who 1 (people.length : Int)).bind fun x3 => (if x3 = true then ((zf0 role).bind fun x5 => (if x5 = true then (gd (ok64 (who - 1)) ((getI people (who - 1)).bind fun x8 => (gd (ok64 (role - 1)) (gd ((0 : Int) ≤ (role - 1) ∧ (role - 1) ≤ (63 : Int)) (some (decide ((andI (shrI x8 (role - 1)) 1) = 1))))))) else (some false))) else (some false))) else (some false))
def y3l : Con := ⟨80, [.v (.sl .I) false, .v .I false, .v .I false], [(.B, true)], [], fun x => zs3 x.1 x.2.1 x.2.2.1⟩
def wc5 : Fs := ⟨[zn4, z22, zr5], [], []⟩
theorem wg6 : wc5.Ok Tryz.prog := (fsK y8p (fsK z2r (fsK yq8 fs0)))
theorem wk8 : y3l.Ok Tryz.prog := fn_ok (k := y3l) (fn := Tryz.f80) (W := []) (H := []) Tryz.func80 wg6 trivial rfl rfl (fun av x => by kernel_rfl)
def zs2 (did : List GDid) (who : Int) (task : Int) : Option Bool := (zv9 did (GDid.mk task who)).bind fun x1 => (some x1)
def y3k : Con := ⟨109, [.v (.sl (.s .did)) false, .v .I false, .v .I false], [(.B, true)], [], fun x => zs2 x.1 x.2.1 x.2.2.1⟩
def wc4 : Fs := ⟨[zv7], [], []⟩
theorem wg5 : wc4.Ok Tryz.prog := (fsK w5i fs0)
theorem wk7 : y3k.Ok Tryz.prog := fn_ok (k := y3k) (fn := Tryz.f109) (W := []) (H := []) Tryz.func109 wg5 trivial rfl rfl (fun av x => by kernel_rfl)
def zk4 (l0_1 : List Int) : Option (List Int) := some l0_1
def z3l (p : Int → Option Bool) (p0_0 : Int) (kx0_0 : List Int → Option (List Int)) : Nat → Int → List Int → Option (List Int)
  | 0, _, _ => none
  | n0 + 1, s0_0, l0_1 => if decide (s0_0 < p0_0) = true then (gd (ok64 (s0_0 + 1)) ((p (s0_0 + 1)).bind fun x5 => (if x5 = true then (gd (ok64 (s0_0 + 1)) (gd (l0_1.length + [(s0_0 + 1)].length ≤ SMALL) (gd (ok64 (s0_0 + 1)) ((z3l p p0_0 kx0_0 n0) (s0_0 + 1) (l0_1 ++ [(s0_0 + 1)]))))) else (gd (ok64 (s0_0 + 1)) ((z3l p p0_0 kx0_0 n0) (s0_0 + 1) l0_1))))) else (kx0_0 l0_1)
def y0z (people : List Int) (p : Int → Option Bool) : Option (List Int) := (zb7 people).bind fun x1 => (if x1 = true then (z3l p (people.length : Int) zk4 FUEL 0 ([] : List Int)) else (some []))
def z2t : Con := ⟨105, [.v (.sl .I) false, .fn .I], [((.sl .I), true)], [], fun x => y0z x.1 x.2.1⟩
def w7d : Fs := ⟨[zn4], [], []⟩
theorem yd6 : w7d.Ok Tryz.prog := (fsK y8p fs0)
def y5m : Tmpl := ⟨[(1, .c .fp), (5, .c (.ref 500005)), (11, .c .i), (12, .c .i)], [(500005, .arr .I true)]⟩
def y2q : Tmpl := ⟨[(5, .c (.ref 500005))], [(500005, .arr .I true)]⟩
def w16 (av : AV) (x : HP z2t.ps) (n : Nat) (v : y5m.den) (K : Ks (CR z2t)) : Option (CR z2t) := z3l x.2.1 v.1.2.2.1 (fun l0_1 => y2q.at (fpOf z2t.ps x av) (((), ()), (l0_1, ())) (K (.exit 0))) n v.1.2.2.2.1 v.2.1
def y4q (av : AV) (x : HP z2t.ps) : Hdl (CR z2t) := hnd [.e 5 500005 .I] y5m (w16 av x)
theorem w24 : LP z2t Tryz.f105 [0] y4q := lp_ok (W := []) (H := []) (xs := [y2q]) yd6 trivial rfl (fun av x v K => by kernel_rfl) (fun av x n v K => by kernel_rfl)
theorem w91 : z2t.Ok Tryz.prog := fn_ok (k := z2t) (fn := Tryz.f105) (W := []) (H := [y4q]) Tryz.func105 yd6 ⟨w24, trivial⟩ rfl rfl (fun av x => by kernel_rfl)
def zk2 (b : GItem) (task : GTask) (who : Int) : Option Bool := if decide (b.task = task.apart) = true then (some (decide (b.who = who))) else (some false)
def zk8 : FCon := ⟨108, (.s .item), [(.s .task), .I], fun z c => zk2 z c.1 c.2.1⟩
def yv8 : Fs := ⟨[], [], []⟩
theorem yw5 : yv8.Ok Tryz.prog := fs0
theorem yz0 : zk8.Ok Tryz.prog := FCon.ok (fn_ok (k := zk8.con) (fn := Tryz.f108) (W := []) (H := []) Tryz.func108 yw5 trivial rfl rfl (fun av x => by kernel_rfl))
def z8l (who : Int) (busy : List GItem) (task : GTask) (people : List Int) (did : List GDid) : Option Bool := (z6i busy (fun z => zk2 z task who)).bind fun x1 => ((zs3 people who task.role).bind fun x2 => (if x2 = true then (if x1 = true then (some false) else ((zs2 did who task.apart).bind fun x5 => (some (!x5)))) else (some false)))
def zw8 : FCon := ⟨106, .I, [(.sl (.s .item)), (.s .task), (.sl .I), (.sl (.s .did))], fun z c => z8l z c.1 c.2.1 c.2.2.1 c.2.2.2.1⟩
def w40 : Fs := ⟨[z9f, y3l, y3k], [zk8], []⟩
theorem w4l : w40.Ok Tryz.prog := (fsK yd0 (fsK wk8 (fsK wk7 (fsF yz0 fs0))))
theorem w5k : zw8.Ok Tryz.prog := FCon.ok (fn_ok (k := zw8.con) (fn := Tryz.f106) (W := []) (H := []) Tryz.func106 w4l trivial rfl rfl (fun av x => by kernel_rfl))
def zs4 (n : GNet) (people : List Int) (did : List GDid) (busy : List GItem) (t : Int) : Option (List Int) := (z8k n).bind fun x1 => (if x1 = true then ((z0p n t).bind fun x3 => (if x3 = true then ((getI n.tasks t).bind fun x5 => ((y0z people (fun z => z8l z busy x5 people did)).bind fun x6 => (some x6))) else (some []))) else (some []))
def y3m : Con := ⟨35, [.v (.s .net) false, .v (.sl .I) false, .v (.sl (.s .did)) false, .v (.sl (.s .item)) false, .v .I false], [((.sl .I), true)], [], fun x => zs4 x.1 x.2.1 x.2.2.1 x.2.2.2.1 x.2.2.2.2.1⟩
def wc6 : Fs := ⟨[zb1, z1r, z2t], [zw8], []⟩
theorem wg7 : wc6.Ok Tryz.prog := (fsK y00 (fsK z4e (fsK w91 (fsF w5k fs0))))
theorem wk9 : y3m.Ok Tryz.prog := fn_ok (k := y3m) (fn := Tryz.f35) (W := []) (H := []) Tryz.func35 wg7 trivial rfl rfl (fun av x => by kernel_rfl)
def ze5 (n : GNet) (data : List Int) : Option GCase := (z8k n).bind fun x1 => (if x1 = true then ((z3b data).bind fun x3 => (if x3 = true then (gd ((0 : Int) ≤ n.places ∧ n.places ≤ (1000000000 : Int)) ((z0n data).bind fun x6 => ((getI (List.replicate n.places.toNat (0 : Int)) 0).bind fun x7 => (some (GCase.mk 1 ((List.replicate n.places.toNat (0 : Int)).set (0 : Int).toNat 1) [] x6 []))))) else (some (GCase.mk 0 [] [] [] [])))) else (some (GCase.mk 0 [] [] [] [])))
def y3i : Con := ⟨65, [.v (.s .net) false, .v (.sl .I) false], [((.s .kase), true)], [], fun x => ze5 x.1 x.2.1⟩
def wc2 : Fs := ⟨[zb1, z56, z1v], [], []⟩
theorem wg3 : wc2.Ok Tryz.prog := (fsK y00 (fsK z78 (fsK z3g fs0)))
theorem wk5 : y3i.Ok Tryz.prog := fn_ok (k := y3i) (fn := Tryz.f65) (W := []) (H := []) Tryz.func65 wg3 trivial rfl rfl (fun av x => by kernel_rfl)
def ze6 (c : GCase) : Option Bool := if decide (c.state = 1) = true then ((getI c.marks 1).bind fun x16 => (some (decide (x16 = 0)))) else (if decide (c.state = 2) = true then (if decide ((c.busy.length : Int) = 0) = true then ((getI c.marks 1).bind fun x19 => (some ((decide (c.state = 2)) == (decide (0 < x19))))) else (some false)) else (if decide (c.state = 3) = true then (if decide ((c.busy.length : Int) = 0) = true then ((getI c.marks 1).bind fun x22 => (some ((decide (c.state = 2)) == (decide (0 < x22))))) else (some false)) else (some false)))
def z6o (n : GNet) (p0_0 : List GDid) (p0_1 : Int) (kx0_0 : Option Bool) : Nat → Int → Option Bool
  | 0, _ => none
  | n0 + 1, s0_0 => if decide (s0_0 < p0_1) = true then ((getI p0_0 s0_0).bind fun x9 => ((z0p n x9.task).bind fun x10 => (if x10 = true then ((z8n x9.who).bind fun x12 => (if x12 = true then (gd (ok64 (s0_0 + 1)) ((z6o n p0_0 p0_1 kx0_0 n0) (s0_0 + 1))) else (some false))) else (some false)))) else (kx0_0)
def zn5 (n : GNet) (c : GCase) : Option Bool := (zb6 n c.marks).bind fun x1 => (if x1 = true then ((z4t n c.busy).bind fun x3 => (if x3 = true then ((z3b c.data).bind fun x5 => (if x5 = true then (if decide (60 < (c.did.length : Int)) = true then (some false) else (z6o n c.did (c.did.length : Int) (ze6 c) FUEL 0)) else (some false))) else (some false))) else (some false))
def z55 : Con := ⟨30, [.v (.s .net) false, .v (.s .kase) false], [(.B, true)], [], fun x => zn5 x.1 x.2.1⟩
def wr5 : Fs := ⟨[zn3, z0t, z56, z1r, ze1], [], []⟩
theorem w03 : wr5.Ok Tryz.prog := (fsK y8m (fsK zq2 (fsK z78 (fsK z4e (fsK y8r fs0)))))
def yh0 : Tmpl := ⟨[(2, .c (.bx 2 0)), (3, .c (.bx 3 0)), (32, .c (.s (.s .did))), (33, .c .i), (34, .c .i)], [(2, .boxT (.s .net)), (3, .boxT (.s .kase))]⟩
def y9l : Tmpl := ⟨[(3, .c (.bx 3 0))], [(3, .boxT (.s .kase))]⟩
def w6m (av : AV) (x : HP z55.ps) (n : Nat) (v : yh0.den) (K : Ks (CR z55)) : Option (CR z55) := z6o v.2.1 v.1.2.2.1 v.1.2.2.2.1 (y9l.at none (((), ()), (v.2.2.1, ())) (K (.exit 0))) n v.1.2.2.2.2.1
def ye5 (av : AV) (x : HP z55.ps) : Hdl (CR z55) := hnd [] yh0 (w6m av x)
theorem w8b : LP z55 Tryz.f30 [0] ye5 := lp_ok (W := []) (H := []) (xs := [y9l]) w03 trivial rfl (fun av x v K => by kernel_rfl) (fun av x n v K => by kernel_rfl)
theorem w0p : z55.Ok Tryz.prog := fn_ok (k := z55) (fn := Tryz.f30) (W := []) (H := [ye5]) Tryz.func30 w03 ⟨w8b, trivial⟩ rfl rfl (fun av x => by kernel_rfl)
def z81 (n : GNet) (c : GCase) : Option Bool := (zn5 n c).bind fun x1 => (if x1 = true then (some (decide (c.state = 1))) else (some false))
def z9n : Con := ⟨85, [.v (.s .net) false, .v (.s .kase) false], [(.B, true)], [], fun x => z81 x.1 x.2.1⟩
def w7e : Fs := ⟨[z55], [], []⟩
theorem w82 : w7e.Ok Tryz.prog := (fsK w0p fs0)
theorem y11 : z9n.Ok Tryz.prog := fn_ok (k := z9n) (fn := Tryz.f85) (W := []) (H := []) Tryz.func85 w82 trivial rfl rfl (fun av x => by kernel_rfl)
def ze7 (n : GNet) (people : List Int) (c : GCase) (t : Int) (who : Int) : Option (GCase × Bool) := (z08 c).bind fun x1 => ((z81 n c).bind fun x2 => (if x2 = true then (if decide ((c.busy.length : Int) = 6) = true then (some (x1, false)) else ((zs1 n c.marks c.busy t).bind fun x5 => (if x5 = true then ((zs4 n people c.did c.busy t).bind fun x7 => ((zb3 x7 who).bind fun x8 => (if x8 = true then ((z87 n c.marks t).bind fun x10 => (gd (x1.busy.length + [(GItem.mk t who 0)].length ≤ SMALL) ((z08 (GCase.mk x1.state x10 (x1.busy ++ [(GItem.mk t who 0)]) x1.data x1.did)).bind fun x12 => (some (x12, true))))) else (some (x1, false))))) else (some (x1, false))))) else (some (x1, false))))
def zv8 : Con := ⟨27, [.v (.s .net) false, .v (.sl .I) false, .v (.s .kase) false, .v .I false, .v .I false], [((.s .kase), true), (.B, true)], [], fun x => ze7 x.1 x.2.1 x.2.2.1 x.2.2.2.1 x.2.2.2.2.1⟩
def w3x : Fs := ⟨[z33, z9n, y3j, y3m, zn1, z1j], [], []⟩
theorem w4i : w3x.Ok Tryz.prog := (fsK z6m (fsK y11 (fsK wk6 (fsK wk9 (fsK y8i (fsK yq7 fs0))))))
theorem w5j : zv8.Ok Tryz.prog := fn_ok (k := zv8) (fn := Tryz.f27) (W := []) (H := []) Tryz.func27 w4i trivial rfl rfl (fun av x => by kernel_rfl)
end
end Go.Am
