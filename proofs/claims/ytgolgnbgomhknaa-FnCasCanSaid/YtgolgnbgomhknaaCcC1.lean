/- Mirrors and contracts, printed. Own work. -/
import Derived.Test.YtgolgnbgomhknaaCcB5
set_option maxRecDepth 100000
set_option maxHeartbeats 4000000
set_option linter.unusedVariables false
set_option linter.unusedSimpArgs false
namespace Go.Am
noncomputable section
open Go Go.Proofs
def z06 (n : Int) (low : Int) (high : Int) : Option Bool := if decide (low ≤ n) = true then (some (decide (n ≤ high))) else (some false)
def z0u : Con := ⟨56, [.v .I false, .v .I false, .v .I false], [(.B, true)], [], fun x => z06 x.1 x.2.1 x.2.2.1⟩
def w1n : Fs := ⟨[], [], []⟩
theorem w1p : w1n.Ok Try.prog := fs0
theorem z19 : z0u.Ok Try.prog := fn_ok (k := z0u) (fn := Try.f56) (W := []) (H := []) Try.func56 w1p trivial rfl rfl (fun av x => by kernel_rfl)
def y02  : Option Bool := some true
def z4c (data : List Int) (kx0_0 : Option Bool) : Nat → Int → Option Bool
  | 0, _ => none
  | n0 + 1, s0_0 => if decide (s0_0 < (data.length : Int)) = true then ((getI data s0_0).bind fun x3 => ((z06 x3 (-99) 99).bind fun x4 => (if x4 = true then (gd (ok64 (s0_0 + 1)) ((z4c data kx0_0 n0) (s0_0 + 1))) else (some false)))) else (kx0_0)
def z4j (data : List Int) : Option Bool := if decide ((data.length : Int) = 3) = true then (z4c data y02 FUEL 0) else (some false)
def z1p : Con := ⟨55, [.v (.sl .I) false], [(.B, true)], [], fun x => z4j x.1⟩
def yx7 : Fs := ⟨[z0u], [], []⟩
theorem y6b : yx7.Ok Try.prog := (fsK z19 fs0)
def y2j : Tmpl := ⟨[(0, .c (.s .I)), (3, .c .i)], []⟩
def y0y : Tmpl := ⟨[], []⟩
def yd2 (av : AV) (x : HP z1p.ps) (n : Nat) (v : y2j.den) (K : Ks (CR z1p)) : Option (CR z1p) := z4c v.1.1 (y0y.at none ((), ()) (K (.exit 0))) n v.1.2.1
def y23 (av : AV) (x : HP z1p.ps) : Hdl (CR z1p) := hnd [] y2j (yd2 av x)
theorem yh0 : LP z1p Try.f55 [0] y23 := lp_ok (W := []) (H := []) (xs := [y0y]) y6b trivial rfl (fun av x v K => by kernel_rfl) (fun av x n v K => by kernel_rfl)
theorem z9b : z1p.Ok Try.prog := fn_ok (k := z1p) (fn := Try.f55) (W := []) (H := [y23]) Try.func55 y6b ⟨yh0, trivial⟩ rfl rfl (fun av x => by kernel_rfl)
def zb4 (data : List Int) (k : Int) (n : Int) : Option (List Int) := (z4j data).bind fun x1 => (if x1 = true then ((z06 k 0 2).bind fun x3 => (if x3 = true then ((z06 n (-99) 99).bind fun x5 => (if x5 = true then (gd (([] : List Int).length + data.length ≤ SMALL) ((getI (([] : List Int) ++ data) k).bind fun x8 => (some ((([] : List Int) ++ data).set k.toNat n)))) else (gd (([] : List Int).length + data.length ≤ SMALL) (some (([] : List Int) ++ data))))) else (gd (([] : List Int).length + data.length ≤ SMALL) (some (([] : List Int) ++ data))))) else (gd (([] : List Int).length + data.length ≤ SMALL) (some (([] : List Int) ++ data))))
def zr5 : Con := ⟨70, [.v (.sl .I) false, .v .I false, .v .I false], [((.sl .I), true)], [], fun x => zb4 x.1 x.2.1 x.2.2.1⟩
def yn9 : Fs := ⟨[z1p, z0u], [], []⟩
theorem yp8 : yn9.Ok Try.prog := (fsK z9b (fsK z19 fs0))
theorem ys2 : zr5.Ok Try.prog := fn_ok (k := zr5) (fn := Try.f70) (W := []) (H := []) Try.func70 yp8 trivial rfl rfl (fun av x => by kernel_rfl)
def z6r (e : GAsk) : Option Bool := if decide (e.op = 0) = true then (some (decide ([e.op, e.var, e.k] = [0, 0, 0]))) else ((z06 e.op 1 3).bind fun x2 => (if x2 = true then ((z06 e.var 0 2).bind fun x4 => (if x4 = true then ((z06 e.k (-99) 99).bind fun x6 => (some x6)) else (some false))) else (some false)))
def zf4 : Con := ⟨133, [.v (.s .ask) false], [(.B, true)], [], fun x => z6r x.1⟩
def yx8 : Fs := ⟨[z0u], [], []⟩
theorem yz4 : yx8.Ok Try.prog := (fsK z19 fs0)
theorem y6r : zf4.Ok Try.prog := fn_ok (k := zf4) (fn := Try.f133) (W := []) (H := []) Try.func133 yz4 trivial rfl rfl (fun av x => by kernel_rfl)
def z7g (e : GAsk) (data : List Int) : Option Bool := (z6r e).bind fun x1 => (if x1 = true then ((z4j data).bind fun x3 => (if x3 = true then (if decide (e.op = 1) = true then ((getI data e.var).bind fun x6 => (some (decide (x6 < e.k)))) else (if decide (e.op = 2) = true then ((getI data e.var).bind fun x8 => (some (decide (x8 = e.k)))) else (if decide (e.op = 3) = true then ((getI data e.var).bind fun x10 => (some (decide (e.k < x10)))) else (some true)))) else (some false))) else (some false))
def zd4 : Con := ⟨136, [.v (.s .ask) false, .v (.sl .I) false], [(.B, true)], [], fun x => z7g x.1 x.2.1⟩
def y8z : Fs := ⟨[zf4, z1p], [], []⟩
theorem y9d : y8z.Ok Try.prog := (fsK y6r (fsK z9b fs0))
theorem y9x : zd4.Ok Try.prog := fn_ok (k := zd4) (fn := Try.f136) (W := []) (H := []) Try.func136 y9d trivial rfl rfl (fun av x => by kernel_rfl)
def z0w (n : Int) (low : Int) (high : Int) : Option Bool := if decide (low ≤ n) = true then (some (decide (n ≤ high))) else (some false)
def z2u : Con := ⟨67, [.v .I false, .v .I false, .v .I false], [(.B, true)], [], fun x => z0w x.1 x.2.1 x.2.2.1⟩
def w5e : Fs := ⟨[], [], []⟩
theorem w5p : w5e.Ok Try.prog := fs0
theorem z3h : z2u.Ok Try.prog := fn_ok (k := z2u) (fn := Try.f67) (W := []) (H := []) Try.func67 w5p trivial rfl rfl (fun av x => by kernel_rfl)
def z65 (n : Int) : Option Bool := (z0w n (-99) 99).bind fun x1 => (some x1)
def z8p : Con := ⟨64, [.v .I false], [(.B, true)], [], fun x => z65 x.1⟩
def ye2 : Fs := ⟨[z2u], [], []⟩
theorem yg0 : ye2.Ok Try.prog := (fsK z3h fs0)
theorem y2c : z8p.Ok Try.prog := fn_ok (k := z8p) (fn := Try.f64) (W := []) (H := []) Try.func64 yg0 trivial rfl rfl (fun av x => by kernel_rfl)
def z3m (list : List Int) : Option (List Int) := gd (([] : List Int).length + list.length ≤ SMALL) (some (([] : List Int) ++ list))
def z6e : Con := ⟨72, [.v (.sl .I) false], [((.sl .I), true)], [], fun x => z3m x.1⟩
def y7d : Fs := ⟨[], [], []⟩
theorem y7h : y7d.Ok Try.prog := fs0
theorem zu6 : z6e.Ok Try.prog := fn_ok (k := z6e) (fn := Try.f72) (W := []) (H := []) Try.func72 y7h trivial rfl rfl (fun av x => by kernel_rfl)
def z95 (e : GAsk) : Option Bool := if decide (e.op = 0) = true then (if decide (e.var = 0) = true then (some (decide (e.k = 0))) else (some false)) else ((z0w e.op 1 3).bind fun x3 => (if x3 = true then ((z0w e.var 0 2).bind fun x5 => (if x5 = true then ((z65 e.k).bind fun x7 => (some x7)) else (some false))) else (some false)))
def zz3 : Con := ⟨83, [.v (.s .ask) false], [(.B, true)], [], fun x => z95 x.1⟩
def yx1 : Fs := ⟨[z2u, z8p], [], []⟩
theorem yz0 : yx1.Ok Try.prog := (fsK z3h (fsK y2c fs0))
theorem w0a : zz3.Ok Try.prog := fn_ok (k := zz3) (fn := Try.f83) (W := []) (H := []) Try.func83 yz0 trivial rfl rfl (fun av x => by kernel_rfl)
def zm8  : Option Bool := some true
def z2i (list : List Int) (low : Int) (high : Int) (kx0_0 : Option Bool) : Nat → Int → Option Bool
  | 0, _ => none
  | n0 + 1, s0_0 => if decide (s0_0 < (list.length : Int)) = true then ((getI list s0_0).bind fun x4 => ((z06 x4 low high).bind fun x5 => (if x5 = true then (if decide (0 < s0_0) = true then (gd (ok64 (s0_0 - 1)) ((getI list (s0_0 - 1)).bind fun x9 => ((getI list s0_0).bind fun x10 => (if decide (x10 ≤ x9) = true then (some false) else (gd (ok64 (s0_0 + 1)) ((z2i list low high kx0_0 n0) (s0_0 + 1))))))) else (gd (ok64 (s0_0 + 1)) ((z2i list low high kx0_0 n0) (s0_0 + 1)))) else (some false)))) else (kx0_0)
def z68 (list : List Int) (least : Int) (most : Int) (low : Int) (high : Int) : Option Bool := (z06 (list.length : Int) least most).bind fun x1 => (if x1 = true then (z2i list low high zm8 FUEL 0) else (some false))
def z2r : Con := ⟨161, [.v (.sl .I) false, .v .I false, .v .I false, .v .I false, .v .I false], [(.B, true)], [], fun x => z68 x.1 x.2.1 x.2.2.1 x.2.2.2.1 x.2.2.2.2.1⟩
def yf6 : Fs := ⟨[z0u], [], []⟩
theorem y1y : yf6.Ok Try.prog := (fsK z19 fs0)
def zv7 : Tmpl := ⟨[(0, .c (.s .I)), (3, .c .i), (4, .c .i), (11, .c .i)], []⟩
def zp6 : Tmpl := ⟨[], []⟩
def y7a (av : AV) (x : HP z2r.ps) (n : Nat) (v : zv7.den) (K : Ks (CR z2r)) : Option (CR z2r) := z2i v.1.1 v.1.2.1 v.1.2.2.1 (zp6.at none ((), ()) (K (.exit 0))) n v.1.2.2.2.1
def zu1 (av : AV) (x : HP z2r.ps) : Hdl (CR z2r) := hnd [] zv7 (y7a av x)
theorem y7u : LP z2r Try.f161 [0] zu1 := lp_ok (W := []) (H := []) (xs := [zp6]) y1y trivial rfl (fun av x v K => by kernel_rfl) (fun av x n v K => by kernel_rfl)
theorem yj2 : z2r.Ok Try.prog := fn_ok (k := z2r) (fn := Try.f161) (W := []) (H := [zu1]) Try.func161 y1y ⟨y7u, trivial⟩ rfl rfl (fun av x => by kernel_rfl)
def y06  : Option Bool := some false
def z4i (list : List Int) (n : Int) (kx0_0 : Option Bool) : Nat → Int → Option Bool
  | 0, _ => none
  | n0 + 1, s0_0 => if decide (s0_0 < (list.length : Int)) = true then ((getI list s0_0).bind fun x2 => (if decide (x2 = n) = true then (some true) else (gd (ok64 (s0_0 + 1)) ((z4i list n kx0_0 n0) (s0_0 + 1))))) else (kx0_0)
def z6s (list : List Int) (n : Int) : Option Bool := z4i list n y06 FUEL 0
def z2w : Con := ⟨146, [.v (.sl .I) false, .v .I false], [(.B, true)], [], fun x => z6s x.1 x.2.1⟩
def yy3 : Fs := ⟨[], [], []⟩
theorem y6g : yy3.Ok Try.prog := fs0
def y2o : Tmpl := ⟨[(0, .c (.s .I)), (1, .c .i), (5, .c .i)], []⟩
def y12 : Tmpl := ⟨[], []⟩
def yd7 (av : AV) (x : HP z2w.ps) (n : Nat) (v : y2o.den) (K : Ks (CR z2w)) : Option (CR z2w) := z4i v.1.1 v.1.2.1 (y12.at none ((), ()) (K (.exit 0))) n v.1.2.2.1
def y28 (av : AV) (x : HP z2w.ps) : Hdl (CR z2w) := hnd [] y2o (yd7 av x)
theorem yh5 : LP z2w Try.f146 [0] y28 := lp_ok (W := []) (H := []) (xs := [y12]) y6g trivial rfl (fun av x v K => by kernel_rfl) (fun av x n v K => by kernel_rfl)
theorem y0g : z2w.Ok Try.prog := fn_ok (k := z2w) (fn := Try.f146) (W := []) (H := [y28]) Try.func146 y6g ⟨yh5, trivial⟩ rfl rfl (fun av x => by kernel_rfl)
def zm5 (s0_0 : Int) (bk0 : Int → Option Bool) : Option Bool := gd (ok64 (s0_0 + 1)) (bk0 (s0_0 + 1))
def z1q (t : GTask) (s0_0 : Int) (x4 : GFlow) (kx1_0 : Option Bool) : Nat → Int → Option Bool
  | 0, _ => none
  | n1 + 1, s1_0 => if decide (s1_0 < s0_0) = true then ((getI t.out s1_0).bind fun x14 => (if decide (x14.to = x4.to) = true then (some false) else (gd (ok64 (s1_0 + 1)) ((z1q t s0_0 x4 kx1_0 n1) (s1_0 + 1))))) else (kx1_0)
def zm6 (s0_0 : Int) (bk0 : Int → Option Bool) : Option Bool := gd (ok64 (s0_0 + 1)) (bk0 (s0_0 + 1))
def zm7  : Option Bool := some true
def z2h (t : GTask) (places : Int) (kx0_0 : Option Bool) : Nat → Int → Option Bool
  | 0, _ => none
  | n0 + 1, s0_0 => if decide (s0_0 < (t.out.length : Int)) = true then ((getI t.out s0_0).bind fun x4 => (gd (ok64 ((t.out.length : Int) - 1)) (if decide (s0_0 = ((t.out.length : Int) - 1)) = true then (gd (ok64 (places - 1)) ((z06 x4.to 1 (places - 1)).bind fun x8 => (if x8 = true then ((z6r x4.if_).bind fun x10 => (if x10 = true then (if (true == (decide (x4.if_.op = 0))) = true then (z1q t s0_0 x4 (zm5 s0_0 (z2h t places kx0_0 n0)) FUEL 0) else (some false)) else (some false))) else (some false)))) else (gd (ok64 (places - 1)) ((z06 x4.to 1 (places - 1)).bind fun x19 => (if x19 = true then ((z6r x4.if_).bind fun x21 => (if x21 = true then (if ((decide (t.split = 1)) == (decide (x4.if_.op = 0))) = true then (z1q t s0_0 x4 (zm6 s0_0 (z2h t places kx0_0 n0)) FUEL 0) else (some false)) else (some false))) else (some false))))))) else (kx0_0)
def z8y (t : GTask) (places : Int) : Option Bool := (z06 (t.out.length : Int) 1 3).bind fun x1 => (if x1 = true then (z2h t places zm7 FUEL 0) else (some false))
def z0n : Con := ⟨162, [.v (.s .task) false, .v .I false], [(.B, true)], [], fun x => z8y x.1 x.2.1⟩
def yf5 : Fs := ⟨[z0u, zf4], [], []⟩
theorem zi3 : yf5.Ok Try.prog := (fsK z19 (fsK y6r fs0))
def zg7 : Tmpl := ⟨[(1, .c .i), (2, .c (.bx 2 0)), (5, .c .i), (6, .c (.bx 6 0)), (8, .c .i)], [(2, .boxT (.s .task)), (6, .boxT (.s .flow))]⟩
def ze6 : Tmpl := ⟨[(1, .c .i), (2, .c (.bx 2 0)), (5, .c .i)], [(2, .boxT (.s .task))]⟩
def y3f (av : AV) (x : HP z0n.ps) (n : Nat) (v : zg7.den) (K : Ks (CR z0n)) : Option (CR z0n) := z1q v.2.1 v.1.2.2.1 v.2.2.1 (ze6.at none ((v.1.1, (), v.1.2.2.1, ()), (v.2.1, ())) (K (.exit 2))) n v.1.2.2.2.2.1
def zf0 (av : AV) (x : HP z0n.ps) : Hdl (CR z0n) := hnd [] zg7 (y3f av x)
theorem y3x : LP z0n Try.f162 [0, 0] zf0 := lp_ok (W := []) (H := []) (xs := [ze6]) zi3 trivial rfl (fun av x v K => by kernel_rfl) (fun av x n v K => by kernel_rfl)
def zv6 : Tmpl := ⟨[(1, .c .i), (2, .c (.bx 2 0)), (5, .c .i)], [(2, .boxT (.s .task))]⟩
def zp5 : Tmpl := ⟨[], []⟩
def y79 (av : AV) (x : HP z0n.ps) (n : Nat) (v : zv6.den) (K : Ks (CR z0n)) : Option (CR z0n) := z2h v.2.1 v.1.1 (zp5.at none ((), ()) (K (.exit 0))) n v.1.2.2.1
def zu0 (av : AV) (x : HP z0n.ps) : Hdl (CR z0n) := hnd [] zv6 (y79 av x)
theorem y7t : LP z0n Try.f162 [0] zu0 := lp_ok (W := []) (H := [zf0]) (xs := [zp5]) zi3 ⟨y3x, trivial⟩ rfl (fun av x v K => by kernel_rfl) (fun av x n v K => by kernel_rfl)
theorem yj1 : z0n.Ok Try.prog := fn_ok (k := z0n) (fn := Try.f162) (W := []) (H := [zu0]) Try.func162 zi3 ⟨y7t, trivial⟩ rfl rfl (fun av x => by kernel_rfl)
def zb8 (t : GTask) (places : Int) (tasks : Int) : Option Bool := (z06 t.join 1 3).bind fun x1 => (if x1 = true then ((z06 t.split 1 3).bind fun x3 => (if x3 = true then (gd (ok64 (places - 1)) ((z68 t.in_ 1 3 0 (places - 1)).bind fun x6 => (if x6 = true then ((z6s t.in_ 1).bind fun x8 => (if x8 = true then (some false) else ((z8y t places).bind fun x10 => (if x10 = true then (gd (ok64 (places - 1)) ((z68 t.clear 0 places 2 (places - 1)).bind fun x13 => (if x13 = true then ((z06 t.role 1 3).bind fun x15 => (if x15 = true then (gd (ok64 (tasks - 1)) ((z06 t.apart (-1) (tasks - 1)).bind fun x18 => (if x18 = true then ((z06 t.all 1 3).bind fun x20 => (if x20 = true then ((z06 t.need 1 t.all).bind fun x22 => (some x22)) else (some false))) else (some false)))) else (some false))) else (some false)))) else (some false))))) else (some false)))) else (some false))) else (some false))
def zr7 : Con := ⟨140, [.v (.s .task) false, .v .I false, .v .I false], [(.B, true)], [], fun x => zb8 x.1 x.2.1 x.2.2.1⟩
def yo6 : Fs := ⟨[z0u, z2r, z2w, z0n], [], []⟩
theorem yq2 : yo6.Ok Try.prog := (fsK z19 (fsK yj2 (fsK y0g (fsK yj1 fs0))))
theorem ys6 : zr7.Ok Try.prog := fn_ok (k := zr7) (fn := Try.f140) (W := []) (H := []) Try.func140 yq2 trivial rfl rfl (fun av x => by kernel_rfl)
def y04  : Option Bool := some true
def z4f (n : GNet) (kx0_0 : Option Bool) : Nat → Int → Option Bool
  | 0, _ => none
  | n0 + 1, s0_0 => if decide (s0_0 < (n.tasks.length : Int)) = true then ((getI n.tasks s0_0).bind fun x6 => ((zb8 x6 n.places (n.tasks.length : Int)).bind fun x7 => (if x7 = true then (gd (ok64 (s0_0 + 1)) ((z4f n kx0_0 n0) (s0_0 + 1))) else (some false)))) else (kx0_0)
def z2x (n : GNet) : Option Bool := (z06 n.places 2 8).bind fun x1 => (if x1 = true then ((z06 (n.tasks.length : Int) 1 6).bind fun x3 => (if x3 = true then (z4f n y04 FUEL 0) else (some false))) else (some false))
def z27 : Con := ⟨105, [.v (.s .net) false], [(.B, true)], [], fun x => z2x x.1⟩
def yy0 : Fs := ⟨[z0u, zr7], [], []⟩
theorem y6d : yy0.Ok Try.prog := (fsK z19 (fsK ys6 fs0))
def y2l : Tmpl := ⟨[(1, .c (.bx 1 0)), (3, .c .i)], [(1, .boxT (.s .net))]⟩
def y10 : Tmpl := ⟨[], []⟩
def yd4 (av : AV) (x : HP z27.ps) (n : Nat) (v : y2l.den) (K : Ks (CR z27)) : Option (CR z27) := z4f v.2.1 (y10.at none ((), ()) (K (.exit 0))) n v.1.2.1
def y25 (av : AV) (x : HP z27.ps) : Hdl (CR z27) := hnd [] y2l (yd4 av x)
theorem yh2 : LP z27 Try.f105 [0] y25 := lp_ok (W := []) (H := []) (xs := [y10]) y6d trivial rfl (fun av x v K => by kernel_rfl) (fun av x n v K => by kernel_rfl)
theorem zg5 : z27.Ok Try.prog := fn_ok (k := z27) (fn := Try.f105) (W := []) (H := [y25]) Try.func105 y6d ⟨yh2, trivial⟩ rfl rfl (fun av x => by kernel_rfl)
def z7o (s1_0 : Int) (bk1 : Int → List Bool → Option (List Bool)) (l3_1 : List Bool) : Option (List Bool) := gd (ok64 (s1_0 + 1)) (bk1 (s1_0 + 1) l3_1)
def z7p (s1_0 : Int) (bk1 : Int → List Bool → Option (List Bool)) (l3_1 : List Bool) : Option (List Bool) := gd (ok64 (s1_0 + 1)) (bk1 (s1_0 + 1) l3_1)
def z7q (s1_0 : Int) (bk1 : Int → List Bool → Option (List Bool)) (l3_1 : List Bool) : Option (List Bool) := gd (ok64 (s1_0 + 1)) (bk1 (s1_0 + 1) l3_1)
def z13 (n : GNet) (but : Int) (s1_0 : Int) (s2_0 : Bool) (kx3_0 : List Bool → Option (List Bool)) (kx3_1 : List Bool → Option (List Bool)) (kx3_2 : List Bool → Option (List Bool)) : Nat → Int → List Bool → Option (List Bool)
  | 0, _, _ => none
  | n3 + 1, s3_0, l3_1 => (getI n.tasks s1_0).bind fun x12 => (if decide (s3_0 < (x12.out.length : Int)) = true then (if s2_0 = true then (if decide (s1_0 = but) = true then (kx3_0 l3_1) else ((getI n.tasks s1_0).bind fun x17 => ((getI x17.out s3_0).bind fun x18 => ((getI l3_1 x18.to).bind fun x19 => (gd (ok64 (s3_0 + 1)) ((z13 n but s1_0 s2_0 kx3_0 kx3_1 kx3_2 n3) (s3_0 + 1) (l3_1.set x18.to.toNat true))))))) else (kx3_1 l3_1)) else (kx3_2 l3_1))
def zg0 (n : GNet) (but : Int) (s1_0 : Int) (l1_1 : List Bool) (bk1 : Int → List Bool → Option (List Bool)) (s2_0 : Bool) : Option (List Bool) := z13 n but s1_0 s2_0 (z7o s1_0 bk1) (z7p s1_0 bk1) (z7q s1_0 bk1) FUEL 0 l1_1
def z1e (n : GNet) (s1_0 : Int) (l1_1 : List Bool) (kx2_0 : Bool → Option (List Bool)) : Nat → Bool → Int → Option (List Bool)
  | 0, _, _ => none
  | n2 + 1, s2_0, s2_1 => (getI n.tasks s1_0).bind fun x4 => (if decide (s2_1 < (x4.in_.length : Int)) = true then (if s2_0 = true then (gd (ok64 (s2_1 + 1)) ((z1e n s1_0 l1_1 kx2_0 n2) true (s2_1 + 1))) else ((getI n.tasks s1_0).bind fun x8 => ((getI x8.in_ s2_1).bind fun x9 => ((getI l1_1 x9).bind fun x10 => (gd (ok64 (s2_1 + 1)) ((z1e n s1_0 l1_1 kx2_0 n2) x10 (s2_1 + 1))))))) else (kx2_0 s2_0))
def zg1 (s0_0 : Int) (bk0 : Int → List Bool → Option (List Bool)) (l1_1 : List Bool) : Option (List Bool) := gd (ok64 (s0_0 + 1)) (bk0 (s0_0 + 1) l1_1)
def z0c (n : GNet) (but : Int) (kx1_0 : List Bool → Option (List Bool)) : Nat → Int → List Bool → Option (List Bool)
  | 0, _, _ => none
  | n1 + 1, s1_0, l1_1 => if decide (s1_0 < (n.tasks.length : Int)) = true then (z1e n s1_0 l1_1 (zg0 n but s1_0 l1_1 (z0c n but kx1_0 n1)) FUEL false 0) else (kx1_0 l1_1)
def zg2 (l0_1 : List Bool) : Option (List Bool) := some l0_1
def z34 (n : GNet) (but : Int) (kx0_0 : List Bool → Option (List Bool)) : Nat → Int → List Bool → Option (List Bool)
  | 0, _, _ => none
  | n0 + 1, s0_0, l0_1 => if decide (s0_0 < n.places) = true then (z0c n but (zg1 s0_0 (z34 n but kx0_0 n0)) FUEL 0 l0_1) else (kx0_0 l0_1)
def z7n (n : GNet) (marked : List Bool) (but : Int) : Option (List Bool) := gd (([] : List Bool).length + marked.length ≤ SMALL) (z34 n but zg2 FUEL 0 (([] : List Bool) ++ marked))
def z04 : Con := ⟨173, [.v (.s .net) false, .v (.sl .B) false, .v .I false], [((.sl .B), true)], [], fun x => z7n x.1 x.2.1 x.2.2.1⟩
def y92 : Fs := ⟨[], [], []⟩
theorem z56 : y92.Ok Try.prog := fs0
def z9e : Tmpl := ⟨[(2, .c .i), (3, .c (.bx 3 0)), (7, .c (.ref 15)), (8, .c .i), (9, .c .i), (10, .c .b), (11, .c .i)], [(3, .boxT (.s .net)), (15, .arr .B true)]⟩
def z8c : Tmpl := ⟨[(2, .c .i), (3, .c (.bx 3 0)), (7, .c (.ref 15)), (8, .c .i), (9, .c .i), (10, .c .b)], [(3, .boxT (.s .net)), (15, .arr .B true)]⟩
def zx1 (av : AV) (x : HP z04.ps) (n : Nat) (v : z9e.den) (K : Ks (CR z04)) : Option (CR z04) := z1e v.2.1 v.1.2.2.2.2.1 v.2.2.1 (fun s2_0 => z8c.at none ((v.1.1, (), (), v.1.2.2.2.1, v.1.2.2.2.2.1, s2_0, ()), (v.2.1, v.2.2.1, ())) (K (.exit 4))) n v.1.2.2.2.2.2.1 v.1.2.2.2.2.2.2.1
def z90 (av : AV) (x : HP z04.ps) : Hdl (CR z04) := hnd [] z9e (zx1 av x)
theorem zz7 : LP z04 Try.f173 [0, 0, 0] z90 := lp_ok (W := []) (H := []) (xs := [z8c]) z56 trivial rfl (fun av x v K => by kernel_rfl) (fun av x n v K => by kernel_rfl)
def z9f : Tmpl := ⟨[(2, .c .i), (3, .c (.bx 3 0)), (7, .c (.ref 15)), (8, .c .i), (9, .c .i), (10, .c .b), (12, .c .i)], [(3, .boxT (.s .net)), (15, .arr .B true)]⟩
def z3j : Tmpl := ⟨[(2, .c .i), (3, .c (.bx 3 0)), (7, .c (.ref 15)), (8, .c .i), (9, .c .i)], [(3, .boxT (.s .net)), (15, .arr .B true)]⟩
def zx2 (av : AV) (x : HP z04.ps) (n : Nat) (v : z9f.den) (K : Ks (CR z04)) : Option (CR z04) := z13 v.2.1 v.1.1 v.1.2.2.2.2.1 v.1.2.2.2.2.2.1 (fun l3_1 => z3j.at none ((v.1.1, (), (), v.1.2.2.2.1, v.1.2.2.2.2.1, ()), (v.2.1, l3_1, ())) (K (.exit 6))) (fun l3_1 => z3j.at none ((v.1.1, (), (), v.1.2.2.2.1, v.1.2.2.2.2.1, ()), (v.2.1, l3_1, ())) (K (.exit 6))) (fun l3_1 => z3j.at none ((v.1.1, (), (), v.1.2.2.2.1, v.1.2.2.2.2.1, ()), (v.2.1, l3_1, ())) (K (.exit 6))) n v.1.2.2.2.2.2.2.1 v.2.2.1
def z91 (av : AV) (x : HP z04.ps) : Hdl (CR z04) := hnd [] z9f (zx2 av x)
theorem zz8 : LP z04 Try.f173 [0, 0, 1] z91 := lp_ok (W := []) (H := []) (xs := [z3j]) z56 trivial rfl (fun av x v K => by kernel_rfl) (fun av x n v K => by kernel_rfl)
def ze4 : Tmpl := ⟨[(2, .c .i), (3, .c (.bx 3 0)), (7, .c (.ref 15)), (8, .c .i), (9, .c .i)], [(3, .boxT (.s .net)), (15, .arr .B true)]⟩
def z9v : Tmpl := ⟨[(2, .c .i), (3, .c (.bx 3 0)), (7, .c (.ref 15)), (8, .c .i)], [(3, .boxT (.s .net)), (15, .arr .B true)]⟩
def y2t (av : AV) (x : HP z04.ps) (n : Nat) (v : ze4.den) (K : Ks (CR z04)) : Option (CR z04) := z0c v.2.1 v.1.1 (fun l1_1 => z9v.at none ((v.1.1, (), (), v.1.2.2.2.1, ()), (v.2.1, l1_1, ())) (K (.exit 2))) n v.1.2.2.2.2.1 v.2.2.1
def zc9 (av : AV) (x : HP z04.ps) : Hdl (CR z04) := hnd [] ze4 (y2t av x)
theorem y34 : LP z04 Try.f173 [0, 0] zc9 := lp_ok (W := []) (H := [z90, z91]) (xs := [z9v]) z56 ⟨zz7, zz8, trivial⟩ rfl (fun av x v K => by kernel_rfl) (fun av x n v K => by kernel_rfl)
def zo3 : Tmpl := ⟨[(2, .c .i), (3, .c (.bx 3 0)), (7, .c (.ref 15)), (8, .c .i)], [(3, .boxT (.s .net)), (15, .arr .B true)]⟩
def zh6 : Tmpl := ⟨[(7, .c (.ref 15))], [(15, .arr .B true)]⟩
def y4w (av : AV) (x : HP z04.ps) (n : Nat) (v : zo3.den) (K : Ks (CR z04)) : Option (CR z04) := z34 v.2.1 v.1.1 (fun l0_1 => zh6.at none (((), ()), (l0_1, ())) (K (.exit 0))) n v.1.2.2.2.1 v.2.2.1
def zl4 (av : AV) (x : HP z04.ps) : Hdl (CR z04) := hnd [] zo3 (y4w av x)
theorem y5o : LP z04 Try.f173 [0] zl4 := lp_ok (W := []) (H := [zc9]) (xs := [zh6]) z56 ⟨y34, trivial⟩ rfl (fun av x v K => by kernel_rfl) (fun av x n v K => by kernel_rfl)
theorem ya0 : z04.Ok Try.prog := fn_ok (k := z04) (fn := Try.f173) (W := []) (H := [zl4]) Try.func173 z56 ⟨y5o, trivial⟩ rfl rfl (fun av x => by kernel_rfl)
def zb1 (kind : Int) : Option Bool := (z0w kind 1 3).bind fun x1 => (some x1)
def zr3 : Con := ⟨142, [.v .I false], [(.B, true)], [], fun x => zb1 x.1⟩
def yn5 : Fs := ⟨[z2u], [], []⟩
theorem yp5 : yn5.Ok Try.prog := (fsK z3h fs0)
theorem yr9 : zr3.Ok Try.prog := fn_ok (k := zr3) (fn := Try.f142) (W := []) (H := []) Try.func142 yp5 trivial rfl rfl (fun av x => by kernel_rfl)
def z7b (role : Int) : Option Bool := (z0w role 1 3).bind fun x1 => (some x1)
def za2 : Con := ⟨145, [.v .I false], [(.B, true)], [], fun x => z7b x.1⟩
def yn6 : Fs := ⟨[z2u], [], []⟩
theorem yp6 : yn6.Ok Try.prog := (fsK z3h fs0)
theorem y44 : za2.Ok Try.prog := fn_ok (k := za2) (fn := Try.f145) (W := []) (H := []) Try.func145 yp6 trivial rfl rfl (fun av x => by kernel_rfl)
def zj3 (places : Int) (tasks : Int) : Option Bool := (z0w places 2 8).bind fun x1 => (if x1 = true then ((z0w tasks 1 6).bind fun x3 => (some x3)) else (some false))
def zi4 : Con := ⟨106, [.v .I false, .v .I false], [(.B, true)], [], fun x => zj3 x.1 x.2.1⟩
def ye5 : Fs := ⟨[z2u], [], []⟩
theorem yg2 : ye5.Ok Try.prog := (fsK z3h fs0)
theorem yi1 : zi4.Ok Try.prog := fn_ok (k := zi4) (fn := Try.f106) (W := []) (H := []) Try.func106 yg2 trivial rfl rfl (fun av x => by kernel_rfl)
def z0l (n : GNet) (t : Int) : Option Bool := gd (ok64 ((n.tasks.length : Int) - 1)) ((z0w t 0 ((n.tasks.length : Int) - 1)).bind fun x2 => (some x2))
def z1o : Con := ⟨51, [.v (.s .net) false, .v .I false], [(.B, true)], [], fun x => z0l x.1 x.2.1⟩
def zx5 : Fs := ⟨[z2u], [], []⟩
theorem zx9 : zx5.Ok Try.prog := (fsK z3h fs0)
theorem z40 : z1o.Ok Try.prog := fn_ok (k := z1o) (fn := Try.f51) (W := []) (H := []) Try.func51 zx9 trivial rfl rfl (fun av x => by kernel_rfl)
def y03  : Option Bool := some true
def z4e (marks : List Int) (kx0_0 : Option Bool) : Nat → Int → Option Bool
  | 0, _ => none
  | n0 + 1, s0_0 => if decide (s0_0 < (marks.length : Int)) = true then ((getI marks s0_0).bind fun x5 => ((z06 x5 0 4).bind fun x6 => (if x6 = true then (gd (ok64 (s0_0 + 1)) ((z4e marks kx0_0 n0) (s0_0 + 1))) else (some false)))) else (kx0_0)
def z5f (n : GNet) (marks : List Int) : Option Bool := (z2x n).bind fun x1 => (if x1 = true then (if decide ((marks.length : Int) = n.places) = true then (z4e marks y03 FUEL 0) else (some false)) else (some false))
def z26 : Con := ⟨53, [.v (.s .net) false, .v (.sl .I) false], [(.B, true)], [], fun x => z5f x.1 x.2.1⟩
def yx9 : Fs := ⟨[z27, z0u], [], []⟩
theorem y6c : yx9.Ok Try.prog := (fsK zg5 (fsK z19 fs0))
def y2k : Tmpl := ⟨[(1, .c (.s .I)), (5, .c .i)], []⟩
def y0z : Tmpl := ⟨[], []⟩
def yd3 (av : AV) (x : HP z26.ps) (n : Nat) (v : y2k.den) (K : Ks (CR z26)) : Option (CR z26) := z4e v.1.1 (y0z.at none ((), ()) (K (.exit 0))) n v.1.2.1
def y24 (av : AV) (x : HP z26.ps) : Hdl (CR z26) := hnd [] y2k (yd3 av x)
theorem yh1 : LP z26 Try.f53 [0] y24 := lp_ok (W := []) (H := []) (xs := [y0z]) y6c trivial rfl (fun av x v K => by kernel_rfl) (fun av x n v K => by kernel_rfl)
theorem zg4 : z26.Ok Try.prog := fn_ok (k := z26) (fn := Try.f53) (W := []) (H := [y24]) Try.func53 y6c ⟨yh1, trivial⟩ rfl rfl (fun av x => by kernel_rfl)
def z6i (s0_0 : Bool) (s0_1 : Bool) : Option (Bool × Bool) := some (s0_0, s0_1)
def z1a (marks : List Int) (list : List Int) (kx0_0 : Bool → Bool → Option (Bool × Bool)) : Nat → Bool → Bool → Int → Option (Bool × Bool)
  | 0, _, _, _ => none
  | n0 + 1, s0_0, s0_1, s0_2 => if decide (s0_2 < (list.length : Int)) = true then (if s0_0 = true then (if s0_1 = true then ((getI list s0_2).bind fun x4 => ((getI marks x4).bind fun x5 => (gd (ok64 (s0_2 + 1)) ((z1a marks list kx0_0 n0) true (decide (0 < x5)) (s0_2 + 1))))) else (gd (ok64 (s0_2 + 1)) ((z1a marks list kx0_0 n0) true false (s0_2 + 1)))) else ((getI list s0_2).bind fun x8 => ((getI marks x8).bind fun x9 => (if s0_1 = true then ((getI list s0_2).bind fun x11 => ((getI marks x11).bind fun x12 => (gd (ok64 (s0_2 + 1)) ((z1a marks list kx0_0 n0) (decide (0 < x9)) (decide (0 < x12)) (s0_2 + 1))))) else (gd (ok64 (s0_2 + 1)) ((z1a marks list kx0_0 n0) (decide (0 < x9)) false (s0_2 + 1))))))) else (kx0_0 s0_0 s0_1)
def zb9 (marks : List Int) (list : List Int) : Option (Bool × Bool) := z1a marks list z6i FUEL false true 0
def z3b : Con := ⟨167, [.v (.sl .I) false, .v (.sl .I) false], [(.B, true), (.B, true)], [], fun x => zb9 x.1 x.2.1⟩
def yo8 : Fs := ⟨[], [], []⟩
theorem y3s : yo8.Ok Try.prog := fs0
def y0t : Tmpl := ⟨[(0, .c (.s .I)), (1, .c (.s .I)), (6, .c .b), (7, .c .b), (8, .c .i)], []⟩
def zw5 : Tmpl := ⟨[(6, .c .b), (7, .c .b)], []⟩
def y8k (av : AV) (x : HP z3b.ps) (n : Nat) (v : y0t.den) (K : Ks (CR z3b)) : Option (CR z3b) := z1a v.1.1 v.1.2.1 (fun s0_0 s0_1 => zw5.at none ((s0_0, s0_1, ()), ()) (K (.exit 0))) n v.1.2.2.1 v.1.2.2.2.1 v.1.2.2.2.2.1
def zz2 (av : AV) (x : HP z3b.ps) : Hdl (CR z3b) := hnd [] y0t (y8k av x)
theorem y9o : LP z3b Try.f167 [0] zz2 := lp_ok (W := []) (H := []) (xs := [zw5]) y3s trivial rfl (fun av x v K => by kernel_rfl) (fun av x n v K => by kernel_rfl)
theorem ys7 : z3b.Ok Try.prog := fn_ok (k := z3b) (fn := Try.f167) (W := []) (H := [zz2]) Try.func167 y3s ⟨y9o, trivial⟩ rfl rfl (fun av x => by kernel_rfl)
def z36 (s1_0 : Int) (bk1 : Int → List Bool → Option Bool) (l2_1 : List Bool) : Option Bool := gd (ok64 (s1_0 + 1)) (bk1 (s1_0 + 1) l2_1)
def z20 (p2_0 : List GFlow) (kx2_0 : List Bool → Option Bool) : Nat → Int → List Bool → Option Bool
  | 0, _, _ => none
  | n2 + 1, s2_0, l2_1 => if decide (s2_0 < (p2_0.length : Int)) = true then ((getI p2_0 s2_0).bind fun x15 => ((getI l2_1 x15.to).bind fun x16 => (gd (ok64 (s2_0 + 1)) ((z20 p2_0 kx2_0 n2) (s2_0 + 1) (l2_1.set x15.to.toNat true))))) else (kx2_0 l2_1)
def z7t  : Option Bool := some false
def z1h (n : GNet) (marks : List Int) (t : Int) (x19 : (List Bool)) (kx3_0 : Option Bool) : Nat → Int → Option Bool
  | 0, _ => none
  | n3 + 1, s3_0 => (getI n.tasks t).bind fun x20 => (if decide (s3_0 < (x20.in_.length : Int)) = true then ((getI n.tasks t).bind fun x22 => ((getI x22.in_ s3_0).bind fun x23 => ((getI marks x23).bind fun x24 => (if decide (x24 = 0) = true then ((getI n.tasks t).bind fun x26 => ((getI x26.in_ s3_0).bind fun x27 => ((getI x19 x27).bind fun x28 => (if x28 = true then (some true) else (gd (ok64 (s3_0 + 1)) ((z1h n marks t x19 kx3_0 n3) (s3_0 + 1))))))) else (gd (ok64 (s3_0 + 1)) ((z1h n marks t x19 kx3_0 n3) (s3_0 + 1))))))) else (kx3_0))
def z1f (n : GNet) (marks : List Int) (t : Int) (l1_1 : List Bool) : Option Bool := (z7n n l1_1 t).bind fun x19 => (z1h n marks t x19 z7t FUEL 0)
def z0r (n : GNet) (busy : List GItem) (kx1_0 : List Bool → Option Bool) : Nat → Int → List Bool → Option Bool
  | 0, _, _ => none
  | n1 + 1, s1_0, l1_1 => if decide (s1_0 < (busy.length : Int)) = true then ((getI busy s1_0).bind fun x12 => ((getI n.tasks x12.task).bind fun x13 => (z20 x13.out (z36 s1_0 (z0r n busy kx1_0 n1)) FUEL 0 l1_1))) else (kx1_0 l1_1)
def z35 (n : GNet) (marks : List Int) (busy : List GItem) (t : Int) (l0_1 : List Bool) : Option Bool := z0r n busy (z1f n marks t) FUEL 0 l0_1
def z1g (n : GNet) (marks : List Int) (t : Int) (kx0_0 : List Bool → Option Bool) : Nat → Int → List Bool → Option Bool
  | 0, _, _ => none
  | n0 + 1, s0_0, l0_1 => if decide (s0_0 < n.places) = true then ((getI marks s0_0).bind fun x3 => (if decide (0 < x3) = true then ((getI n.tasks t).bind fun x5 => ((z6s x5.in_ s0_0).bind fun x6 => ((getI l0_1 s0_0).bind fun x7 => (gd (ok64 (s0_0 + 1)) ((z1g n marks t kx0_0 n0) (s0_0 + 1) (l0_1.set s0_0.toNat (!x6))))))) else ((getI l0_1 s0_0).bind fun x9 => (gd (ok64 (s0_0 + 1)) ((z1g n marks t kx0_0 n0) (s0_0 + 1) (l0_1.set s0_0.toNat false)))))) else (kx0_0 l0_1)
def z7s (n : GNet) (marks : List Int) (busy : List GItem) (t : Int) : Option Bool := gd ((0 : Int) ≤ n.places ∧ n.places ≤ (1000000000 : Int)) (z1g n marks t (z35 n marks busy t) FUEL 0 (List.replicate n.places.toNat false))
def z05 : Con := ⟨168, [.v (.s .net) false, .v (.sl .I) false, .v (.sl (.s .item)) false, .v .I false], [(.B, true)], [], fun x => z7s x.1 x.2.1 x.2.2.1 x.2.2.2.1⟩
def y93 : Fs := ⟨[z2w, z04], [], []⟩
theorem z57 : y93.Ok Try.prog := (fsK y0g (fsK ya0 fs0))
def ze5 : Tmpl := ⟨[(1, .c (.s .I)), (2, .c (.s (.s .item))), (3, .c .i), (4, .c (.bx 4 0)), (9, .c (.ref 18)), (11, .c .i), (12, .c (.s (.s .flow))), (13, .c .i)], [(4, .boxT (.s .net)), (18, .arr .B true)]⟩
def z9w : Tmpl := ⟨[(1, .c (.s .I)), (2, .c (.s (.s .item))), (3, .c .i), (4, .c (.bx 4 0)), (9, .c (.ref 18)), (11, .c .i)], [(4, .boxT (.s .net)), (18, .arr .B true)]⟩
def y2u (av : AV) (x : HP z05.ps) (n : Nat) (v : ze5.den) (K : Ks (CR z05)) : Option (CR z05) := z20 v.1.2.2.2.2.2.2.1 (fun l2_1 => z9w.at none ((v.1.1, v.1.2.1, v.1.2.2.1, (), (), v.1.2.2.2.2.2.1, ()), (v.2.1, l2_1, ())) (K (.exit 4))) n v.1.2.2.2.2.2.2.2.1 v.2.2.1
def zd0 (av : AV) (x : HP z05.ps) : Hdl (CR z05) := hnd [] ze5 (y2u av x)
theorem y35 : LP z05 Try.f168 [1, 0] zd0 := lp_ok (W := []) (H := []) (xs := [z9w]) z57 trivial rfl (fun av x v K => by kernel_rfl) (fun av x n v K => by kernel_rfl)
def zo4 : Tmpl := ⟨[(1, .c (.s .I)), (2, .c (.s (.s .item))), (3, .c .i), (4, .c (.bx 4 0)), (9, .c (.ref 18)), (10, .c .i)], [(4, .boxT (.s .net)), (18, .arr .B true)]⟩
def zh7 : Tmpl := ⟨[(1, .c (.s .I)), (2, .c (.s (.s .item))), (3, .c .i), (4, .c (.bx 4 0)), (9, .c (.ref 18))], [(4, .boxT (.s .net)), (18, .arr .B true)]⟩
def y4x (av : AV) (x : HP z05.ps) (n : Nat) (v : zo4.den) (K : Ks (CR z05)) : Option (CR z05) := z1g v.2.1 v.1.1 v.1.2.2.1 (fun l0_1 => zh7.at none ((v.1.1, v.1.2.1, v.1.2.2.1, (), (), ()), (v.2.1, l0_1, ())) (K (.exit 0))) n v.1.2.2.2.2.2.1 v.2.2.1
def zl5 (av : AV) (x : HP z05.ps) : Hdl (CR z05) := hnd [] zo4 (y4x av x)
theorem y5p : LP z05 Try.f168 [0] zl5 := lp_ok (W := []) (H := []) (xs := [zh7]) z57 trivial rfl (fun av x v K => by kernel_rfl) (fun av x n v K => by kernel_rfl)
def zo5 : Tmpl := ⟨[(1, .c (.s .I)), (2, .c (.s (.s .item))), (3, .c .i), (4, .c (.bx 4 0)), (9, .c (.ref 18)), (11, .c .i)], [(4, .boxT (.s .net)), (18, .arr .B true)]⟩
def zh8 : Tmpl := ⟨[(1, .c (.s .I)), (3, .c .i), (4, .c (.bx 4 0)), (9, .c (.ref 18))], [(4, .boxT (.s .net)), (18, .arr .B true)]⟩
def y4y (av : AV) (x : HP z05.ps) (n : Nat) (v : zo5.den) (K : Ks (CR z05)) : Option (CR z05) := z0r v.2.1 v.1.2.1 (fun l1_1 => zh8.at none ((v.1.1, v.1.2.2.1, (), (), ()), (v.2.1, l1_1, ())) (K (.exit 2))) n v.1.2.2.2.2.2.1 v.2.2.1
def zl6 (av : AV) (x : HP z05.ps) : Hdl (CR z05) := hnd [] zo5 (y4y av x)
theorem y5q : LP z05 Try.f168 [1] zl6 := lp_ok (W := []) (H := [zd0]) (xs := [zh8]) z57 ⟨y35, trivial⟩ rfl (fun av x v K => by kernel_rfl) (fun av x n v K => by kernel_rfl)
def zo6 : Tmpl := ⟨[(1, .c (.s .I)), (3, .c .i), (4, .c (.bx 4 0)), (14, .c (.ref 76)), (15, .c .i)], [(4, .boxT (.s .net)), (76, .arr .B true)]⟩
def zh9 : Tmpl := ⟨[], []⟩
def y4z (av : AV) (x : HP z05.ps) (n : Nat) (v : zo6.den) (K : Ks (CR z05)) : Option (CR z05) := z1h v.2.1 v.1.1 v.1.2.1 v.2.2.1 (zh9.at none ((), ()) (K (.exit 6))) n v.1.2.2.2.2.1
def zl7 (av : AV) (x : HP z05.ps) : Hdl (CR z05) := hnd [] zo6 (y4z av x)
theorem y5r : LP z05 Try.f168 [2] zl7 := lp_ok (W := []) (H := []) (xs := [zh9]) z57 trivial rfl (fun av x v K => by kernel_rfl) (fun av x n v K => by kernel_rfl)
theorem ya1 : z05.Ok Try.prog := fn_ok (k := z05) (fn := Try.f168) (W := []) (H := [zl5, zl6, zl7]) Try.func168 z57 ⟨y5p, y5q, y5r, trivial⟩ rfl rfl (fun av x => by kernel_rfl)
def zg3 (n : GNet) (marks : List Int) (busy : List GItem) (t : Int) : Option Bool := (getI n.tasks t).bind fun x1 => ((zb9 marks x1.in_).bind fun x2 => ((getI n.tasks t).bind fun x3 => (if decide (x3.join = 1) = true then (some x2.2) else (if decide (x3.join = 2) = true then (some x2.1) else (if x2.1 = true then (if x2.2 = true then (some true) else ((z7s n marks busy t).bind fun x8 => (some (!x8)))) else (some false))))))
def zz4 : Con := ⟨152, [.v (.s .net) false, .v (.sl .I) false, .v (.sl (.s .item)) false, .v .I false], [(.B, true)], [], fun x => zg3 x.1 x.2.1 x.2.2.1 x.2.2.2.1⟩
def yy4 : Fs := ⟨[z3b, z05], [], []⟩
theorem yz5 : yy4.Ok Try.prog := (fsK ys7 (fsK ya1 fs0))
theorem w0d : zz4.Ok Try.prog := fn_ok (k := zz4) (fn := Try.f152) (W := []) (H := []) Try.func152 yz5 trivial rfl rfl (fun av x => by kernel_rfl)
def zu5  : Option Bool := some true
def z3q (n : GNet) (busy : List GItem) (kx0_0 : Option Bool) : Nat → Int → Option Bool
  | 0, _ => none
  | n0 + 1, s0_0 => if decide (s0_0 < (busy.length : Int)) = true then ((getI busy s0_0).bind fun x3 => (gd (ok64 ((n.tasks.length : Int) - 1)) ((z06 x3.task 0 ((n.tasks.length : Int) - 1)).bind fun x5 => (if x5 = true then ((getI busy s0_0).bind fun x7 => ((z06 x7.who 1 4).bind fun x8 => (if x8 = true then ((getI busy s0_0).bind fun x10 => ((getI busy s0_0).bind fun x11 => ((getI n.tasks x11.task).bind fun x12 => (gd (ok64 (x12.need - 1)) ((z06 x10.did 0 (x12.need - 1)).bind fun x14 => (if x14 = true then (gd (ok64 (s0_0 + 1)) ((z3q n busy kx0_0 n0) (s0_0 + 1))) else (some false))))))) else (some false)))) else (some false))))) else (kx0_0)
def z7r (n : GNet) (busy : List GItem) : Option Bool := if decide (6 < (busy.length : Int)) = true then (some false) else (z3q n busy zu5 FUEL 0)
def z2s : Con := ⟨54, [.v (.s .net) false, .v (.sl (.s .item)) false], [(.B, true)], [], fun x => z7r x.1 x.2.1⟩
def yo7 : Fs := ⟨[z0u], [], []⟩
theorem y3r : yo7.Ok Try.prog := (fsK z19 fs0)
def y0s : Tmpl := ⟨[(1, .c (.s (.s .item))), (2, .c (.bx 2 0)), (5, .c .i)], [(2, .boxT (.s .net))]⟩
def zw4 : Tmpl := ⟨[], []⟩
def y8j (av : AV) (x : HP z2s.ps) (n : Nat) (v : y0s.den) (K : Ks (CR z2s)) : Option (CR z2s) := z3q v.2.1 v.1.1 (zw4.at none ((), ()) (K (.exit 0))) n v.1.2.2.1
def zz1 (av : AV) (x : HP z2s.ps) : Hdl (CR z2s) := hnd [] y0s (y8j av x)
theorem y9n : LP z2s Try.f54 [0] zz1 := lp_ok (W := []) (H := []) (xs := [zw4]) y3r trivial rfl (fun av x v K => by kernel_rfl) (fun av x n v K => by kernel_rfl)
theorem y47 : z2s.Ok Try.prog := fn_ok (k := z2s) (fn := Try.f54) (W := []) (H := [zz1]) Try.func54 y3r ⟨y9n, trivial⟩ rfl rfl (fun av x => by kernel_rfl)
def z7e (n : GNet) (marks : List Int) (busy : List GItem) (t : Int) : Option Bool := (z5f n marks).bind fun x1 => (if x1 = true then ((z7r n busy).bind fun x3 => (if x3 = true then (gd (ok64 ((n.tasks.length : Int) - 1)) ((z06 t 0 ((n.tasks.length : Int) - 1)).bind fun x6 => (if x6 = true then ((zg3 n marks busy t).bind fun x8 => (some x8)) else (some false)))) else (some false))) else (some false))
def za3 : Con := ⟨121, [.v (.s .net) false, .v (.sl .I) false, .v (.sl (.s .item)) false, .v .I false], [(.B, true)], [], fun x => z7e x.1 x.2.1 x.2.2.1 x.2.2.2.1⟩
def yo0 : Fs := ⟨[z26, z2s, z0u, zz4], [], []⟩
theorem yp9 : yo0.Ok Try.prog := (fsK zg4 (fsK y47 (fsK z19 (fsK w0d fs0))))
theorem y45 : za3.Ok Try.prog := fn_ok (k := za3) (fn := Try.f121) (W := []) (H := []) Try.func121 yp9 trivial rfl rfl (fun av x => by kernel_rfl)
def z7f (l0_1 : List Int) : Option (List Int) := some l0_1
def z1z (n : GNet) (marks : List Int) (busy : List GItem) (kx0_0 : List Int → Option (List Int)) : Nat → Int → List Int → Option (List Int)
  | 0, _, _ => none
  | n0 + 1, s0_0, l0_1 => if decide (s0_0 < (n.tasks.length : Int)) = true then ((z7e n marks busy s0_0).bind fun x2 => (if x2 = true then (gd (l0_1.length + [s0_0].length ≤ SMALL) (gd (ok64 (s0_0 + 1)) ((z1z n marks busy kx0_0 n0) (s0_0 + 1) (l0_1 ++ [s0_0])))) else (gd (ok64 (s0_0 + 1)) ((z1z n marks busy kx0_0 n0) (s0_0 + 1) l0_1)))) else (kx0_0 l0_1)
def z4d (n : GNet) (marks : List Int) (busy : List GItem) : Option (List Int) := z1z n marks busy z7f FUEL 0 ([] : List Int)
def z1k : Con := ⟨76, [.v (.s .net) false, .v (.sl .I) false, .v (.sl (.s .item)) false], [((.sl .I), true)], [], fun x => z4d x.1 x.2.1 x.2.2.1⟩
def y8y : Fs := ⟨[za3], [], []⟩
theorem zy2 : y8y.Ok Try.prog := (fsK y45 fs0)
def zn9 : Tmpl := ⟨[(1, .c (.s .I)), (2, .c (.s (.s .item))), (3, .c (.bx 3 0)), (7, .c (.ref 9)), (8, .c .i)], [(3, .boxT (.s .net)), (9, .arr .I true)]⟩
def zh2 : Tmpl := ⟨[(7, .c (.ref 9))], [(9, .arr .I true)]⟩
def y4s (av : AV) (x : HP z1k.ps) (n : Nat) (v : zn9.den) (K : Ks (CR z1k)) : Option (CR z1k) := z1z v.2.1 v.1.1 v.1.2.1 (fun l0_1 => zh2.at none (((), ()), (l0_1, ())) (K (.exit 0))) n v.1.2.2.2.2.1 v.2.2.1
def zl0 (av : AV) (x : HP z1k.ps) : Hdl (CR z1k) := hnd [] zn9 (y4s av x)
theorem y5k : LP z1k Try.f76 [0] zl0 := lp_ok (W := []) (H := []) (xs := [zh2]) zy2 trivial rfl (fun av x v K => by kernel_rfl) (fun av x n v K => by kernel_rfl)
theorem y0f : z1k.Ok Try.prog := fn_ok (k := z1k) (fn := Try.f76) (W := []) (H := [zl0]) Try.func76 zy2 ⟨y5k, trivial⟩ rfl rfl (fun av x => by kernel_rfl)
def zm1 (l0_1 : List Int) (x10 : Int) (x13 : Int) : Option (List Int) := some (l0_1.set x10.toNat (x13 - 1))
def zm2 (l0_1 : List Int) : Option (List Int) := some l0_1
def z2e (n : GNet) (t : Int) (kx0_0 : List Int → Int → Int → Option (List Int)) (kx0_1 : List Int → Option (List Int)) : Nat → Int → List Int → Option (List Int)
  | 0, _, _ => none
  | n0 + 1, s0_0, l0_1 => (getI n.tasks t).bind fun x7 => (if decide (s0_0 < (x7.in_.length : Int)) = true then ((getI n.tasks t).bind fun x9 => ((getI x9.in_ s0_0).bind fun x10 => ((getI l0_1 x10).bind fun x11 => (if decide (0 < x11) = true then ((getI l0_1 x10).bind fun x13 => (gd (ok64 (x13 - 1)) ((getI l0_1 x10).bind fun x15 => ((getI n.tasks t).bind fun x16 => (if decide (x16.join = 2) = true then (kx0_0 l0_1 x10 x13) else (gd (ok64 (s0_0 + 1)) ((z2e n t kx0_0 kx0_1 n0) (s0_0 + 1) (l0_1.set x10.toNat (x13 - 1))))))))) else (gd (ok64 (s0_0 + 1)) ((z2e n t kx0_0 kx0_1 n0) (s0_0 + 1) l0_1)))))) else (kx0_1 l0_1))
def z8s (n : GNet) (marks : List Int) (t : Int) : Option (List Int) := (z5f n marks).bind fun x1 => (if x1 = true then (gd (ok64 ((n.tasks.length : Int) - 1)) ((z06 t 0 ((n.tasks.length : Int) - 1)).bind fun x4 => (if x4 = true then (gd (([] : List Int).length + marks.length ≤ SMALL) (z2e n t zm1 zm2 FUEL 0 (([] : List Int) ++ marks))) else (some ([] : List Int))))) else (some ([] : List Int)))
def z2m : Con := ⟨147, [.v (.s .net) false, .v (.sl .I) false, .v .I false], [((.sl .I), true)], [], fun x => z8s x.1 x.2.1 x.2.2.1⟩
def ye7 : Fs := ⟨[z26, z0u], [], []⟩
theorem y1t : ye7.Ok Try.prog := (fsK zg4 (fsK z19 fs0))
def zu9 : Tmpl := ⟨[(2, .c .i), (3, .c (.bx 3 0)), (7, .c (.ref 26)), (8, .c .i)], [(3, .boxT (.s .net)), (26, .arr .I true)]⟩
def z8o : Tmpl := ⟨[(7, .c (.ref 26))], [(26, .arr .I true)]⟩
def y72 (av : AV) (x : HP z2m.ps) (n : Nat) (v : zu9.den) (K : Ks (CR z2m)) : Option (CR z2m) := z2e v.2.1 v.1.1 (fun l0_1 x10 x13 => z8o.at none (((), ()), ((l0_1.set x10.toNat (x13 - 1)), ())) (K (.exit 0))) (fun l0_1 => z8o.at none (((), ()), (l0_1, ())) (K (.exit 0))) n v.1.2.2.2.1 v.2.2.1
def zt3 (av : AV) (x : HP z2m.ps) : Hdl (CR z2m) := hnd [] zu9 (y72 av x)
theorem y7m : LP z2m Try.f147 [0] zt3 := lp_ok (W := []) (H := []) (xs := [z8o]) y1t trivial rfl (fun av x v K => by kernel_rfl) (fun av x n v K => by kernel_rfl)
theorem yi3 : z2m.Ok Try.prog := fn_ok (k := z2m) (fn := Try.f147) (W := []) (H := [zt3]) Try.func147 y1t ⟨y7m, trivial⟩ rfl rfl (fun av x => by kernel_rfl)
def z5d (who : Int) : Option Bool := (z0w who 1 4).bind fun x1 => (some x1)
def z75 : Con := ⟨52, [.v .I false], [(.B, true)], [], fun x => z5d x.1⟩
def y8v : Fs := ⟨[z2u], [], []⟩
theorem y9b : y8v.Ok Try.prog := (fsK z3h fs0)
theorem y0c : z75.Ok Try.prog := fn_ok (k := z75) (fn := Try.f52) (W := []) (H := []) Try.func52 y9b trivial rfl rfl (fun av x => by kernel_rfl)
def z7h (l0_1 : List Int) (x8 : GFlow) : Option (List Int) := some (l0_1 ++ [x8.to])
def z7i (l0_1 : List Int) (x13 : GFlow) : Option (List Int) := some (l0_1 ++ [x13.to])
def z7j (l0_1 : List Int) (x18 : GFlow) : Option (List Int) := some (l0_1 ++ [x18.to])
def zd7 (l0_1 : List Int) : Option (List Int) := some l0_1
def z18 (t : GTask) (data : List Int) (kx0_0 : List Int → GFlow → Option (List Int)) (kx0_1 : List Int → GFlow → Option (List Int)) (kx0_2 : List Int → GFlow → Option (List Int)) (kx0_3 : List Int → Option (List Int)) : Nat → Int → List Int → Option (List Int)
  | 0, _, _ => none
  | n0 + 1, s0_0, l0_1 => if decide (s0_0 < (t.out.length : Int)) = true then ((getI t.out s0_0).bind fun x2 => ((z7g x2.if_ data).bind fun x3 => (if x3 = true then (if decide (t.split = 3) = true then (gd (ok64 ((t.out.length : Int) - 1)) (if decide (s0_0 < ((t.out.length : Int) - 1)) = true then ((getI t.out s0_0).bind fun x8 => (gd (l0_1.length + [x8.to].length ≤ SMALL) (if decide (t.split = 2) = true then (kx0_0 l0_1 x8) else (gd (ok64 (s0_0 + 1)) ((z18 t data kx0_0 kx0_1 kx0_2 kx0_3 n0) (s0_0 + 1) (l0_1 ++ [x8.to])))))) else (if decide ((l0_1.length : Int) = 0) = true then ((getI t.out s0_0).bind fun x13 => (gd (l0_1.length + [x13.to].length ≤ SMALL) (if decide (t.split = 2) = true then (kx0_1 l0_1 x13) else (gd (ok64 (s0_0 + 1)) ((z18 t data kx0_0 kx0_1 kx0_2 kx0_3 n0) (s0_0 + 1) (l0_1 ++ [x13.to])))))) else (gd (ok64 (s0_0 + 1)) ((z18 t data kx0_0 kx0_1 kx0_2 kx0_3 n0) (s0_0 + 1) l0_1))))) else ((getI t.out s0_0).bind fun x18 => (gd (l0_1.length + [x18.to].length ≤ SMALL) (if decide (t.split = 2) = true then (kx0_2 l0_1 x18) else (gd (ok64 (s0_0 + 1)) ((z18 t data kx0_0 kx0_1 kx0_2 kx0_3 n0) (s0_0 + 1) (l0_1 ++ [x18.to]))))))) else (gd (ok64 (s0_0 + 1)) ((z18 t data kx0_0 kx0_1 kx0_2 kx0_3 n0) (s0_0 + 1) l0_1))))) else (kx0_3 l0_1)
def zf9 (t : GTask) (data : List Int) : Option (List Int) := z18 t data z7h z7i z7j zd7 FUEL 0 ([] : List Int)
def z3u : Con := ⟨113, [.v (.s .task) false, .v (.sl .I) false], [((.sl .I), true)], [], fun x => zf9 x.1 x.2.1⟩
def yy2 : Fs := ⟨[zd4], [], []⟩
theorem y6f : yy2.Ok Try.prog := (fsK y9x fs0)
def y2n : Tmpl := ⟨[(1, .c (.s .I)), (2, .c (.bx 2 0)), (5, .c (.ref 7)), (6, .c .i)], [(2, .boxT (.s .task)), (7, .arr .I true)]⟩
def z5j : Tmpl := ⟨[(5, .c (.ref 49))], [(49, .arr .I true)]⟩
def yd6 (av : AV) (x : HP z3u.ps) (n : Nat) (v : y2n.den) (K : Ks (CR z3u)) : Option (CR z3u) := z18 v.2.1 v.1.1 (fun l0_1 x8 => z5j.at none (((), ()), ((l0_1 ++ [x8.to]), ())) (K (.exit 0))) (fun l0_1 x13 => z5j.at none (((), ()), ((l0_1 ++ [x13.to]), ())) (K (.exit 0))) (fun l0_1 x18 => z5j.at none (((), ()), ((l0_1 ++ [x18.to]), ())) (K (.exit 0))) (fun l0_1 => z5j.at none (((), ()), (l0_1, ())) (K (.exit 0))) n v.1.2.2.2.1 v.2.2.1
def y27 (av : AV) (x : HP z3u.ps) : Hdl (CR z3u) := hnd [] y2n (yd6 av x)
theorem yh4 : LP z3u Try.f113 [0] y27 := lp_ok (W := []) (H := []) (xs := [z5j]) y6f trivial rfl (fun av x v K => by kernel_rfl) (fun av x n v K => by kernel_rfl)
theorem w0c : z3u.Ok Try.prog := fn_ok (k := z3u) (fn := Try.f113) (W := []) (H := [y27]) Try.func113 y6f ⟨yh4, trivial⟩ rfl rfl (fun av x => by kernel_rfl)
def z5q (l1_1 : List Int) : Option ((List Int) × Bool) := some (l1_1, true)
def z3f (x16 : (List Int)) (kx1_0 : List Int → Option ((List Int) × Bool)) : Nat → Int → List Int → Option ((List Int) × Bool)
  | 0, _, _ => none
  | n1 + 1, s1_0, l1_1 => if decide (s1_0 < (x16.length : Int)) = true then ((getI x16 s1_0).bind fun x18 => ((getI l1_1 x18).bind fun x19 => (if decide (x19 = 4) = true then (some (([] : List Int), false)) else ((getI x16 s1_0).bind fun x21 => ((getI x16 s1_0).bind fun x22 => ((getI l1_1 x22).bind fun x23 => (gd (ok64 (x23 + 1)) ((getI l1_1 x21).bind fun x25 => (gd (ok64 (s1_0 + 1)) ((z3f x16 kx1_0 n1) (s1_0 + 1) (l1_1.set x21.toNat (x23 + 1)))))))))))) else (kx1_0 l1_1)
def z5p (n : GNet) (t : Int) (data : List Int) (l0_1 : List Int) : Option ((List Int) × Bool) := (getI n.tasks t).bind fun x15 => ((zf9 x15 data).bind fun x16 => (z3f x16 z5q FUEL 0 l0_1))
def z3e (n : GNet) (t : Int) (kx0_0 : List Int → Option ((List Int) × Bool)) : Nat → Int → List Int → Option ((List Int) × Bool)
  | 0, _, _ => none
  | n0 + 1, s0_0, l0_1 => (getI n.tasks t).bind fun x9 => (if decide (s0_0 < (x9.clear.length : Int)) = true then ((getI n.tasks t).bind fun x11 => ((getI x11.clear s0_0).bind fun x12 => ((getI l0_1 x12).bind fun x13 => (gd (ok64 (s0_0 + 1)) ((z3e n t kx0_0 n0) (s0_0 + 1) (l0_1.set x12.toNat 0)))))) else (kx0_0 l0_1))
def z8t (n : GNet) (marks : List Int) (t : Int) (data : List Int) : Option ((List Int) × Bool) := (z5f n marks).bind fun x1 => (if x1 = true then (gd (ok64 ((n.tasks.length : Int) - 1)) ((z06 t 0 ((n.tasks.length : Int) - 1)).bind fun x4 => (if x4 = true then ((z4j data).bind fun x6 => (if x6 = true then (gd (([] : List Int).length + marks.length ≤ SMALL) (z3e n t (z5p n t data) FUEL 0 (([] : List Int) ++ marks))) else (some (([] : List Int), false)))) else (some (([] : List Int), false))))) else (some (([] : List Int), false)))
def z0m : Con := ⟨71, [.v (.s .net) false, .v (.sl .I) false, .v .I false, .v (.sl .I) false], [((.sl .I), true), (.B, true)], [], fun x => z8t x.1 x.2.1 x.2.2.1 x.2.2.2.1⟩
def ye8 : Fs := ⟨[z26, z0u, z1p, z3u], [], []⟩
theorem zi2 : ye8.Ok Try.prog := (fsK zg4 (fsK z19 (fsK z9b (fsK w0c fs0))))
def zv0 : Tmpl := ⟨[(2, .c .i), (3, .c (.s .I)), (4, .c (.bx 4 0)), (10, .c (.ref 35)), (11, .c .i)], [(4, .boxT (.s .net)), (35, .arr .I true)]⟩
def zo9 : Tmpl := ⟨[(2, .c .i), (3, .c (.s .I)), (4, .c (.bx 4 0)), (10, .c (.ref 35))], [(4, .boxT (.s .net)), (35, .arr .I true)]⟩
def y73 (av : AV) (x : HP z0m.ps) (n : Nat) (v : zv0.den) (K : Ks (CR z0m)) : Option (CR z0m) := z3e v.2.1 v.1.1 (fun l0_1 => zo9.at none ((v.1.1, v.1.2.1, (), (), ()), (v.2.1, l0_1, ())) (K (.exit 0))) n v.1.2.2.2.2.1 v.2.2.1
def zt4 (av : AV) (x : HP z0m.ps) : Hdl (CR z0m) := hnd [] zv0 (y73 av x)
theorem y7n : LP z0m Try.f71 [0] zt4 := lp_ok (W := []) (H := []) (xs := [zo9]) zi2 trivial rfl (fun av x v K => by kernel_rfl) (fun av x n v K => by kernel_rfl)
def zv1 : Tmpl := ⟨[(10, .c (.ref 35)), (12, .c (.ref 64)), (13, .c .i)], [(35, .arr .I true), (64, .arr .I true)]⟩
def zp0 : Tmpl := ⟨[(10, .c (.ref 35))], [(35, .arr .I true)]⟩
def y74 (av : AV) (x : HP z0m.ps) (n : Nat) (v : zv1.den) (K : Ks (CR z0m)) : Option (CR z0m) := z3f v.2.2.1 (fun l1_1 => zp0.at none (((), ()), (l1_1, ())) (K (.exit 2))) n v.1.2.2.1 v.2.1
def zt5 (av : AV) (x : HP z0m.ps) : Hdl (CR z0m) := hnd [] zv1 (y74 av x)
theorem y7o : LP z0m Try.f71 [1] zt5 := lp_ok (W := []) (H := []) (xs := [zp0]) zi2 trivial rfl (fun av x v K => by kernel_rfl) (fun av x n v K => by kernel_rfl)
theorem yi4 : z0m.Ok Try.prog := fn_ok (k := z0m) (fn := Try.f71) (W := []) (H := [zt4, zt5]) Try.func71 zi2 ⟨y7n, y7o, trivial⟩ rfl rfl (fun av x => by kernel_rfl)
def y05  : Option Bool := some true
def z4g (people : List Int) (kx0_0 : Option Bool) : Nat → Int → Option Bool
  | 0, _ => none
  | n0 + 1, s0_0 => if decide (s0_0 < (people.length : Int)) = true then ((getI people s0_0).bind fun x4 => ((z06 x4 0 7).bind fun x5 => (if x5 = true then (gd (ok64 (s0_0 + 1)) ((z4g people kx0_0 n0) (s0_0 + 1))) else (some false)))) else (kx0_0)
def z9a (people : List Int) : Option Bool := (z06 (people.length : Int) 1 4).bind fun x1 => (if x1 = true then (z4g people y05 FUEL 0) else (some false))
def z3c : Con := ⟨92, [.v (.sl .I) false], [(.B, true)], [], fun x => z9a x.1⟩
def yy1 : Fs := ⟨[z0u], [], []⟩
theorem y6e : yy1.Ok Try.prog := (fsK z19 fs0)
def y2m : Tmpl := ⟨[(0, .c (.s .I)), (3, .c .i)], []⟩
def y11 : Tmpl := ⟨[], []⟩
def yd5 (av : AV) (x : HP z3c.ps) (n : Nat) (v : y2m.den) (K : Ks (CR z3c)) : Option (CR z3c) := z4g v.1.1 (y11.at none ((), ()) (K (.exit 0))) n v.1.2.1
def y26 (av : AV) (x : HP z3c.ps) : Hdl (CR z3c) := hnd [] y2m (yd5 av x)
theorem yh3 : LP z3c Try.f92 [0] y26 := lp_ok (W := []) (H := []) (xs := [y11]) y6e trivial rfl (fun av x v K => by kernel_rfl) (fun av x n v K => by kernel_rfl)
theorem y6s : z3c.Ok Try.prog := fn_ok (k := z3c) (fn := Try.f92) (W := []) (H := [y26]) Try.func92 y6e ⟨yh3, trivial⟩ rfl rfl (fun av x => by kernel_rfl)
def z3o (s0_0 : Int) : Option Bool := gd ((2 : Int) ≠ 0) (some (decide ((Int.tmod s0_0 2) = 1)))
def z1m (role : Int) (kx0_0 : Int → Option Bool) : Nat → Int → Int → Option Bool
  | 0, _, _ => none
  | n0 + 1, s0_0, s0_1 => if decide (s0_1 < role) = true then (gd ((2 : Int) ≠ 0 ∧ ok64 (Int.tdiv s0_0 2)) (gd (ok64 (s0_1 + 1)) ((z1m role kx0_0 n0) (Int.tdiv s0_0 2) (s0_1 + 1)))) else (kx0_0 s0_0)
def zb6 (people : List Int) (who : Int) (role : Int) : Option Bool := (z9a people).bind fun x1 => (if x1 = true then ((z06 who 1 (people.length : Int)).bind fun x3 => (if x3 = true then ((z06 role 1 3).bind fun x5 => (if x5 = true then (gd (ok64 (who - 1)) ((getI people (who - 1)).bind fun x8 => (z1m role z3o FUEL x8 1))) else (some false))) else (some false))) else (some false))
def z3a : Con := ⟨122, [.v (.sl .I) false, .v .I false, .v .I false], [(.B, true)], [], fun x => zb6 x.1 x.2.1 x.2.2.1⟩
def yo2 : Fs := ⟨[z3c, z0u], [], []⟩
theorem y3q : yo2.Ok Try.prog := (fsK y6s (fsK z19 fs0))
def y0q : Tmpl := ⟨[(2, .c .i), (7, .c .i), (8, .c .i)], []⟩
def zw2 : Tmpl := ⟨[(7, .c .i)], []⟩
def y8h (av : AV) (x : HP z3a.ps) (n : Nat) (v : y0q.den) (K : Ks (CR z3a)) : Option (CR z3a) := z1m v.1.1 (fun s0_0 => zw2.at none ((s0_0, ()), ()) (K (.exit 0))) n v.1.2.1 v.1.2.2.1
def zy9 (av : AV) (x : HP z3a.ps) : Hdl (CR z3a) := hnd [] y0q (y8h av x)
theorem y9l : LP z3a Try.f122 [0] zy9 := lp_ok (W := []) (H := []) (xs := [zw2]) y3q trivial rfl (fun av x v K => by kernel_rfl) (fun av x n v K => by kernel_rfl)
theorem ys4 : z3a.Ok Try.prog := fn_ok (k := z3a) (fn := Try.f122) (W := []) (H := [zy9]) Try.func122 y3q ⟨y9l, trivial⟩ rfl rfl (fun av x => by kernel_rfl)
def zu3  : Option Bool := some false
def z38 (did : List GDid) (who : Int) (task : Int) (kx0_0 : Option Bool) : Nat → Int → Option Bool
  | 0, _ => none
  | n0 + 1, s0_0 => if decide (s0_0 < (did.length : Int)) = true then ((getI did s0_0).bind fun x2 => (if decide (x2.who = who) = true then ((getI did s0_0).bind fun x4 => (if decide (x4.task = task) = true then (some true) else (gd (ok64 (s0_0 + 1)) ((z38 did who task kx0_0 n0) (s0_0 + 1))))) else (gd (ok64 (s0_0 + 1)) ((z38 did who task kx0_0 n0) (s0_0 + 1))))) else (kx0_0)
def zb5 (did : List GDid) (who : Int) (task : Int) : Option Bool := z38 did who task zu3 FUEL 0
def z39 : Con := ⟨123, [.v (.sl (.s .did)) false, .v .I false, .v .I false], [(.B, true)], [], fun x => zb5 x.1 x.2.1 x.2.2.1⟩
def yo1 : Fs := ⟨[], [], []⟩
theorem y3p : yo1.Ok Try.prog := fs0
def y0p : Tmpl := ⟨[(0, .c (.s (.s .did))), (1, .c .i), (2, .c .i), (7, .c .i)], []⟩
def zw1 : Tmpl := ⟨[], []⟩
def y8g (av : AV) (x : HP z39.ps) (n : Nat) (v : y0p.den) (K : Ks (CR z39)) : Option (CR z39) := z38 v.1.1 v.1.2.1 v.1.2.2.1 (zw1.at none ((), ()) (K (.exit 0))) n v.1.2.2.2.1
def zy8 (av : AV) (x : HP z39.ps) : Hdl (CR z39) := hnd [] y0p (y8g av x)
theorem y9k : LP z39 Try.f123 [0] zy8 := lp_ok (W := []) (H := []) (xs := [zw1]) y3p trivial rfl (fun av x v K => by kernel_rfl) (fun av x n v K => by kernel_rfl)
theorem ys3 : z39.Ok Try.prog := fn_ok (k := z39) (fn := Try.f123) (W := []) (H := [zy8]) Try.func123 y3p ⟨y9k, trivial⟩ rfl rfl (fun av x => by kernel_rfl)
def zu4 (n : GNet) (people : List Int) (did : List GDid) (t : Int) (s0_0 : Int) (l0_1 : List Int) (bk0 : Int → List Int → Option (List Int)) (s1_0 : Bool) : Option (List Int) := (getI n.tasks t).bind fun x18 => ((zb6 people s0_0 x18.role).bind fun x19 => (if x19 = true then (if s1_0 = true then (gd (ok64 (s0_0 + 1)) (bk0 (s0_0 + 1) l0_1)) else ((getI n.tasks t).bind fun x23 => ((zb5 did s0_0 x23.apart).bind fun x24 => (if x24 = true then (gd (ok64 (s0_0 + 1)) (bk0 (s0_0 + 1) l0_1)) else (gd (l0_1.length + [s0_0].length ≤ SMALL) (gd (ok64 (s0_0 + 1)) (bk0 (s0_0 + 1) (l0_1 ++ [s0_0])))))))) else (gd (ok64 (s0_0 + 1)) (bk0 (s0_0 + 1) l0_1))))
def z1n (n : GNet) (busy : List GItem) (t : Int) (s0_0 : Int) (kx1_0 : Bool → Option (List Int)) : Nat → Bool → Int → Option (List Int)
  | 0, _, _ => none
  | n1 + 1, s1_0, s1_1 => if decide (s1_1 < (busy.length : Int)) = true then (if s1_0 = true then (gd (ok64 (s1_1 + 1)) ((z1n n busy t s0_0 kx1_0 n1) true (s1_1 + 1))) else ((getI busy s1_1).bind fun x12 => (if decide (x12.who = s0_0) = true then ((getI busy s1_1).bind fun x14 => ((getI n.tasks t).bind fun x15 => (gd (ok64 (s1_1 + 1)) ((z1n n busy t s0_0 kx1_0 n1) (decide (x14.task = x15.apart)) (s1_1 + 1))))) else (gd (ok64 (s1_1 + 1)) ((z1n n busy t s0_0 kx1_0 n1) false (s1_1 + 1)))))) else (kx1_0 s1_0)
def z9i (l0_1 : List Int) : Option (List Int) := some l0_1
def z3p (n : GNet) (people : List Int) (did : List GDid) (busy : List GItem) (t : Int) (kx0_0 : List Int → Option (List Int)) : Nat → Int → List Int → Option (List Int)
  | 0, _, _ => none
  | n0 + 1, s0_0, l0_1 => if decide (s0_0 ≤ (people.length : Int)) = true then (z1n n busy t s0_0 (zu4 n people did t s0_0 l0_1 (z3p n people did busy t kx0_0 n0)) FUEL false 0) else (kx0_0 l0_1)
def z4p (n : GNet) (people : List Int) (did : List GDid) (busy : List GItem) (t : Int) : Option (List Int) := (z2x n).bind fun x1 => (if x1 = true then ((z9a people).bind fun x3 => (if x3 = true then (gd (ok64 ((n.tasks.length : Int) - 1)) ((z06 t 0 ((n.tasks.length : Int) - 1)).bind fun x6 => (if x6 = true then (z3p n people did busy t z9i FUEL 1 ([] : List Int)) else (some ([] : List Int))))) else (some ([] : List Int)))) else (some ([] : List Int)))
def z0k : Con := ⟨77, [.v (.s .net) false, .v (.sl .I) false, .v (.sl (.s .did)) false, .v (.sl (.s .item)) false, .v .I false], [((.sl .I), true)], [], fun x => z4p x.1 x.2.1 x.2.2.1 x.2.2.2.1 x.2.2.2.2.1⟩
def yo3 : Fs := ⟨[z27, z3c, z0u, z3a, z39], [], []⟩
theorem zq8 : yo3.Ok Try.prog := (fsK zg5 (fsK y6s (fsK z19 (fsK ys4 (fsK ys3 fs0)))))
def zo0 : Tmpl := ⟨[(1, .c (.s .I)), (2, .c (.s (.s .did))), (3, .c (.s (.s .item))), (4, .c .i), (5, .c (.bx 5 0)), (11, .c (.ref 15)), (12, .c .i), (13, .c .b), (14, .c .i)], [(5, .boxT (.s .net)), (15, .arr .I true)]⟩
def zh3 : Tmpl := ⟨[(1, .c (.s .I)), (2, .c (.s (.s .did))), (3, .c (.s (.s .item))), (4, .c .i), (5, .c (.bx 5 0)), (11, .c (.ref 15)), (12, .c .i), (13, .c .b)], [(5, .boxT (.s .net)), (15, .arr .I true)]⟩
def y4t (av : AV) (x : HP z0k.ps) (n : Nat) (v : zo0.den) (K : Ks (CR z0k)) : Option (CR z0k) := z1n v.2.1 v.1.2.2.1 v.1.2.2.2.1 v.1.2.2.2.2.2.2.1 (fun s1_0 => zh3.at none ((v.1.1, v.1.2.1, v.1.2.2.1, v.1.2.2.2.1, (), (), v.1.2.2.2.2.2.2.1, s1_0, ()), (v.2.1, v.2.2.1, ())) (K (.exit 2))) n v.1.2.2.2.2.2.2.2.1 v.1.2.2.2.2.2.2.2.2.1
def zl1 (av : AV) (x : HP z0k.ps) : Hdl (CR z0k) := hnd [] zo0 (y4t av x)
theorem y5l : LP z0k Try.f77 [0, 0] zl1 := lp_ok (W := []) (H := []) (xs := [zh3]) zq8 trivial rfl (fun av x v K => by kernel_rfl) (fun av x n v K => by kernel_rfl)
def y0r : Tmpl := ⟨[(1, .c (.s .I)), (2, .c (.s (.s .did))), (3, .c (.s (.s .item))), (4, .c .i), (5, .c (.bx 5 0)), (11, .c (.ref 15)), (12, .c .i)], [(5, .boxT (.s .net)), (15, .arr .I true)]⟩
def zw3 : Tmpl := ⟨[(11, .c (.ref 15))], [(15, .arr .I true)]⟩
def y8i (av : AV) (x : HP z0k.ps) (n : Nat) (v : y0r.den) (K : Ks (CR z0k)) : Option (CR z0k) := z3p v.2.1 v.1.1 v.1.2.1 v.1.2.2.1 v.1.2.2.2.1 (fun l0_1 => zw3.at none (((), ()), (l0_1, ())) (K (.exit 0))) n v.1.2.2.2.2.2.2.1 v.2.2.1
def zz0 (av : AV) (x : HP z0k.ps) : Hdl (CR z0k) := hnd [] y0r (y8i av x)
theorem y9m : LP z0k Try.f77 [0] zz0 := lp_ok (W := []) (H := [zl1]) (xs := [zw3]) zq8 ⟨y5l, trivial⟩ rfl (fun av x v K => by kernel_rfl) (fun av x n v K => by kernel_rfl)
theorem zs6 : z0k.Ok Try.prog := fn_ok (k := z0k) (fn := Try.f77) (W := []) (H := [zz0]) Try.func77 zq8 ⟨y9m, trivial⟩ rfl rfl (fun av x => by kernel_rfl)
def zb3 (n : GNet) (data : List Int) : Option GCase := (z2x n).bind fun x1 => (if x1 = true then ((z4j data).bind fun x3 => (if x3 = true then (gd ((0 : Int) ≤ n.places ∧ n.places ≤ (1000000000 : Int)) (gd (([] : List Int).length + data.length ≤ SMALL) ((getI (List.replicate n.places.toNat (0 : Int)) 0).bind fun x7 => (some (GCase.mk 1 ((List.replicate n.places.toNat (0 : Int)).set (0 : Int).toNat 1) [] (([] : List Int) ++ data) []))))) else (some (GCase.mk 0 [] [] [] [])))) else (some (GCase.mk 0 [] [] [] [])))
def zr4 : Con := ⟨100, [.v (.s .net) false, .v (.sl .I) false], [((.s .kase), true)], [], fun x => zb3 x.1 x.2.1⟩
def yn8 : Fs := ⟨[z27, z1p], [], []⟩
theorem yp7 : yn8.Ok Try.prog := (fsK zg5 (fsK z9b fs0))
theorem ys1 : zr4.Ok Try.prog := fn_ok (k := zr4) (fn := Try.f100) (W := []) (H := []) Try.func100 yp7 trivial rfl rfl (fun av x => by kernel_rfl)
def z7d (c : GCase) : Option Bool := if decide (c.state = 1) = true then ((getI c.marks 1).bind fun x20 => (some (decide (x20 = 0)))) else (if decide ((c.busy.length : Int) = 0) = true then ((getI c.marks 1).bind fun x22 => (some ((decide (c.state = 2)) == (decide (0 < x22))))) else (some false))
def z4b (n : GNet) (c : GCase) (kx0_0 : Option Bool) : Nat → Int → Option Bool
  | 0, _ => none
  | n0 + 1, s0_0 => if decide (s0_0 < (c.did.length : Int)) = true then ((getI c.did s0_0).bind fun x11 => (gd (ok64 ((n.tasks.length : Int) - 1)) ((z06 x11.task 0 ((n.tasks.length : Int) - 1)).bind fun x13 => (if x13 = true then ((getI c.did s0_0).bind fun x15 => ((z06 x15.who 1 4).bind fun x16 => (if x16 = true then (gd (ok64 (s0_0 + 1)) ((z4b n c kx0_0 n0) (s0_0 + 1))) else (some false)))) else (some false))))) else (kx0_0)
def z6q (n : GNet) (c : GCase) : Option Bool := (z5f n c.marks).bind fun x1 => (if x1 = true then ((z7r n c.busy).bind fun x3 => (if x3 = true then ((z4j c.data).bind fun x5 => (if x5 = true then (if decide (60 < (c.did.length : Int)) = true then (some false) else ((z06 c.state 1 3).bind fun x8 => (if x8 = true then (z4b n c (z7d c) FUEL 0) else (some false)))) else (some false))) else (some false))) else (some false))
def z2v : Con := ⟨14, [.v (.s .net) false, .v (.s .kase) false], [(.B, true)], [], fun x => z6q x.1 x.2.1⟩
def yx6 : Fs := ⟨[z26, z2s, z1p, z0u], [], []⟩
theorem y6a : yx6.Ok Try.prog := (fsK zg4 (fsK y47 (fsK z9b (fsK z19 fs0))))
def y2i : Tmpl := ⟨[(2, .c (.bx 2 0)), (3, .c (.bx 3 0)), (5, .c .i)], [(2, .boxT (.s .net)), (3, .boxT (.s .kase))]⟩
def y0x : Tmpl := ⟨[(3, .c (.bx 3 0))], [(3, .boxT (.s .kase))]⟩
def yd1 (av : AV) (x : HP z2v.ps) (n : Nat) (v : y2i.den) (K : Ks (CR z2v)) : Option (CR z2v) := z4b v.2.1 v.2.2.1 (y0x.at none (((), ()), (v.2.2.1, ())) (K (.exit 0))) n v.1.2.2.1
def y22 (av : AV) (x : HP z2v.ps) : Hdl (CR z2v) := hnd [] y2i (yd1 av x)
theorem yg9 : LP z2v Try.f14 [0] y22 := lp_ok (W := []) (H := []) (xs := [y0x]) y6a trivial rfl (fun av x v K => by kernel_rfl) (fun av x n v K => by kernel_rfl)
theorem y0e : z2v.Ok Try.prog := fn_ok (k := z2v) (fn := Try.f14) (W := []) (H := [y22]) Try.func14 y6a ⟨yg9, trivial⟩ rfl rfl (fun av x => by kernel_rfl)
def z5t (c : GCase) : Option GCase := gd (([] : List Int).length + c.marks.length ≤ SMALL) (gd (([] : List GItem).length + c.busy.length ≤ SMALL) (gd (([] : List Int).length + c.data.length ≤ SMALL) (gd (([] : List GDid).length + c.did.length ≤ SMALL) (some (GCase.mk c.state (([] : List Int) ++ c.marks) (([] : List GItem) ++ c.busy) (([] : List Int) ++ c.data) (([] : List GDid) ++ c.did))))))
def za5 : Con := ⟨69, [.v (.s .kase) false], [((.s .kase), true)], [], fun x => z5t x.1⟩
def yo9 : Fs := ⟨[], [], []⟩
theorem yq3 : yo9.Ok Try.prog := fs0
theorem y48 : za5.Ok Try.prog := fn_ok (k := za5) (fn := Try.f69) (W := []) (H := []) Try.func69 yq3 trivial rfl rfl (fun av x => by kernel_rfl)
def z5e (n : GNet) (people : List Int) (c : GCase) (t : Int) (who : Int) : Option (GCase × Bool) := (z5t c).bind fun x1 => ((z6q n c).bind fun x2 => (if x2 = true then (if decide (c.state = 1) = true then ((z7e n c.marks c.busy t).bind fun x5 => (if x5 = true then ((z4p n people c.did c.busy t).bind fun x7 => ((z6s x7 who).bind fun x8 => (if x8 = true then (if decide ((c.busy.length : Int) = 6) = true then (some (x1, false)) else ((z8s n c.marks t).bind fun x11 => (gd (x1.busy.length + [(GItem.mk t who 0)].length ≤ SMALL) (some ((GCase.mk x1.state x11 (x1.busy ++ [(GItem.mk t who 0)]) x1.data x1.did), true))))) else (some (x1, false))))) else (some (x1, false)))) else (some (x1, false))) else (some (x1, false))))
def zd3 : Con := ⟨112, [.v (.s .net) false, .v (.sl .I) false, .v (.s .kase) false, .v .I false, .v .I false], [((.s .kase), true), (.B, true)], [], fun x => z5e x.1 x.2.1 x.2.2.1 x.2.2.2.1 x.2.2.2.2.1⟩
def y8x : Fs := ⟨[za5, z2v, za3, z0k, z2w, z2m], [], []⟩
theorem y9c : y8x.Ok Try.prog := (fsK y48 (fsK y0e (fsK y45 (fsK zs6 (fsK y0g (fsK yi3 fs0))))))
theorem y9w : zd3.Ok Try.prog := fn_ok (k := zd3) (fn := Try.f112) (W := []) (H := []) Try.func112 y9c trivial rfl rfl (fun av x => by kernel_rfl)
def z8r (n : GNet) (c : GCase) (k : Int) (v : Int) (num : Int) : Option (GCase × Bool) := (z5t c).bind fun x1 => ((z6q n c).bind fun x2 => (if x2 = true then (if decide (c.state = 1) = true then (gd (ok64 ((c.busy.length : Int) - 1)) ((z06 k 0 ((c.busy.length : Int) - 1)).bind fun x6 => (if x6 = true then ((z06 v (-1) 2).bind fun x8 => (if x8 = true then ((z06 num (-99) 99).bind fun x10 => (if x10 = true then (if decide ((c.did.length : Int) = 60) = true then (some (x1, false)) else ((getI c.busy k).bind fun x13 => ((zb4 c.data v num).bind fun x14 => (gd (ok64 (x13.did + 1)) ((getI x1.busy k).bind fun x16 => (gd (ok64 (x13.did + 1)) ((getI n.tasks x13.task).bind fun x18 => (if decide ((x13.did + 1) < x18.need) = true then (some ((GCase.mk x1.state x1.marks (x1.busy.set k.toNat (GItem.mk x16.task x16.who (x13.did + 1))) x14 x1.did), true)) else ((z8t n c.marks x13.task x14).bind fun x20 => (if x20.2 = true then (gd ((0 : Int) ≤ k ∧ k ≤ (c.busy.length : Int)) (gd (([] : List GItem).length + (c.busy.take k.toNat).length ≤ SMALL) (gd (ok64 (k + 1)) (gd ((0 : Int) ≤ (k + 1) ∧ (k + 1) ≤ (c.busy.length : Int)) (gd ((([] : List GItem) ++ (c.busy.take k.toNat)).length + (c.busy.drop (k + 1).toNat).length ≤ SMALL) (gd (x1.did.length + [(GDid.mk x13.task x13.who)].length ≤ SMALL) ((getI x20.1 1).bind fun x28 => (if decide (0 < x28) = true then (some ((GCase.mk 2 x20.1 ([] : List GItem) x14 (x1.did ++ [(GDid.mk x13.task x13.who)])), true)) else (some ((GCase.mk x1.state x20.1 ((([] : List GItem) ++ (c.busy.take k.toNat)) ++ (c.busy.drop (k + 1).toNat)) x14 (x1.did ++ [(GDid.mk x13.task x13.who)])), true)))))))))) else ((z5t c).bind fun x30 => (some (x30, false))))))))))))) else (some (x1, false)))) else (some (x1, false)))) else (some (x1, false))))) else (some (x1, false))) else (some (x1, false))))
def zi5 : Con := ⟨25, [.v (.s .net) false, .v (.s .kase) false, .v .I false, .v .I false, .v .I false], [((.s .kase), true), (.B, true)], [], fun x => z8r x.1 x.2.1 x.2.2.1 x.2.2.2.1 x.2.2.2.2.1⟩
def ye6 : Fs := ⟨[za5, z2v, z0u, zr5, z0m], [], []⟩
theorem yg3 : ye6.Ok Try.prog := (fsK y48 (fsK y0e (fsK z19 (fsK ys2 (fsK yi4 fs0)))))
theorem yi2 : zi5.Ok Try.prog := fn_ok (k := zi5) (fn := Try.f25) (W := []) (H := []) Try.func25 yg3 trivial rfl rfl (fun av x => by kernel_rfl)
def z23 (c : GCase) : Option GCase := (z3m c.marks).bind fun x1 => (gd (([] : List GItem).length + c.busy.length ≤ SMALL) ((z3m c.data).bind fun x3 => (gd (([] : List GDid).length + c.did.length ≤ SMALL) (some (GCase.mk c.state x1 (([] : List GItem) ++ c.busy) x3 (([] : List GDid) ++ c.did))))))
def z5z : Con := ⟨57, [.v (.s .kase) false], [((.s .kase), true)], [], fun x => z23 x.1⟩
def y1g : Fs := ⟨[z6e], [], []⟩
theorem y1l : y1g.Ok Try.prog := (fsK zu6 fs0)
theorem y1p : z5z.Ok Try.prog := fn_ok (k := z5z) (fn := Try.f57) (W := []) (H := []) Try.func57 y1l trivial rfl rfl (fun av x => by kernel_rfl)
def zu2  : Option Int := some (-1)
def z3k (s : List Int) (p : Int → Option Bool) (p0_0 : Int) (kx0_0 : Option Int) : Nat → Int → Option Int
  | 0, _ => none
  | n0 + 1, s0_0 => if decide (s0_0 < p0_0) = true then ((getI s s0_0).bind fun x2 => ((p x2).bind fun x3 => (if x3 = true then (some s0_0) else (gd (ok64 (s0_0 + 1)) ((z3k s p p0_0 kx0_0 n0) (s0_0 + 1)))))) else (kx0_0)
def za6 (s : List Int) (p : Int → Option Bool) : Option Int := z3k s p (s.length : Int) zu2 FUEL 0
def z2k : Con := ⟨111, [.v (.sl .I) false, .fn .I], [(.I, true)], [], fun x => za6 x.1 x.2.1⟩
def ym9 : Fs := ⟨[], [], []⟩
theorem y3o : ym9.Ok Try.prog := fs0
def y0m : Tmpl := ⟨[(0, .c (.s .I)), (1, .c .fp), (7, .c .i), (8, .c .i)], []⟩
def zv8 : Tmpl := ⟨[], []⟩
def y8d (av : AV) (x : HP z2k.ps) (n : Nat) (v : y0m.den) (K : Ks (CR z2k)) : Option (CR z2k) := z3k v.1.1 x.2.1 v.1.2.2.1 (zv8.at (fpOf z2k.ps x av) ((), ()) (K (.exit 0))) n v.1.2.2.2.1
def zy5 (av : AV) (x : HP z2k.ps) : Hdl (CR z2k) := hnd [] y0m (y8d av x)
theorem y9h : LP z2k Try.f111 [0] zy5 := lp_ok (W := []) (H := []) (xs := [zv8]) y3o trivial rfl (fun av x v K => by kernel_rfl) (fun av x n v K => by kernel_rfl)
theorem yr4 : z2k.Ok Try.prog := fn_ok (k := z2k) (fn := Try.f111) (W := []) (H := [zy5]) Try.func111 y3o ⟨y9h, trivial⟩ rfl rfl (fun av x => by kernel_rfl)
def z1l (s : List Int) (p : Int → Option Bool) : Option Bool := (za6 s p).bind fun x1 => (some (decide (0 ≤ x1)))
def z37 : Con := ⟨62, [.v (.sl .I) false, .fn .I], [(.B, true)], [], fun x => z1l x.1 x.2.1⟩
def y7c : Fs := ⟨[z2k], [], []⟩
theorem y7g : y7c.Ok Try.prog := (fsK yr4 fs0)
theorem z4w : z37.Ok Try.prog := fn_ok (k := z37) (fn := Try.f62) (W := []) (H := []) Try.func62 y7g trivial rfl rfl (fun av x => by kernel_rfl)
def z9o  : Option Int := some (-1)
def z22 (s : List GTask) (p : GTask → Option Bool) (p0_0 : Int) (kx0_0 : Option Int) : Nat → Int → Option Int
  | 0, _ => none
  | n0 + 1, s0_0 => if decide (s0_0 < p0_0) = true then ((getI s s0_0).bind fun x2 => ((p x2).bind fun x3 => (if x3 = true then (some s0_0) else (gd (ok64 (s0_0 + 1)) ((z22 s p p0_0 kx0_0 n0) (s0_0 + 1)))))) else (kx0_0)
def z5m (s : List GTask) (p : GTask → Option Bool) : Option Int := z22 s p (s.length : Int) z9o FUEL 0
def z0y : Con := ⟨141, [.v (.sl (.s .task)) false, .fn (.s .task)], [(.I, true)], [], fun x => z5m x.1 x.2.1⟩
def y52 : Fs := ⟨[], [], []⟩
theorem zk4 : y52.Ok Try.prog := fs0
def ze1 : Tmpl := ⟨[(0, .c (.s (.s .task))), (1, .c .fp), (7, .c .i), (8, .c .i)], []⟩
def z9s : Tmpl := ⟨[], []⟩
def y2q (av : AV) (x : HP z0y.ps) (n : Nat) (v : ze1.den) (K : Ks (CR z0y)) : Option (CR z0y) := z22 v.1.1 x.2.1 v.1.2.2.1 (z9s.at (fpOf z0y.ps x av) ((), ()) (K (.exit 0))) n v.1.2.2.2.1
def zc6 (av : AV) (x : HP z0y.ps) : Hdl (CR z0y) := hnd [] ze1 (y2q av x)
theorem y31 : LP z0y Try.f141 [0] zc6 := lp_ok (W := []) (H := []) (xs := [z9s]) zk4 trivial rfl (fun av x v K => by kernel_rfl) (fun av x n v K => by kernel_rfl)
theorem y5u : z0y.Ok Try.prog := fn_ok (k := z0y) (fn := Try.f141) (W := []) (H := [zc6]) Try.func141 zk4 ⟨y31, trivial⟩ rfl rfl (fun av x => by kernel_rfl)
def z43 (s : List GTask) (p : GTask → Option Bool) : Option Bool := (z5m s p).bind fun x1 => (some (decide (0 ≤ x1)))
def z5y : Con := ⟨107, [.v (.sl (.s .task)) false, .fn (.s .task)], [(.B, true)], [], fun x => z43 x.1 x.2.1⟩
def y1f : Fs := ⟨[z0y], [], []⟩
theorem y1k : y1f.Ok Try.prog := (fsK y5u fs0)
theorem y1o : z5y.Ok Try.prog := fn_ok (k := z5y) (fn := Try.f107) (W := []) (H := []) Try.func107 y1k trivial rfl rfl (fun av x => by kernel_rfl)
def z9n  : Option Int := some (-1)
def z21 (s : List GItem) (p : GItem → Option Bool) (p0_0 : Int) (kx0_0 : Option Int) : Nat → Int → Option Int
  | 0, _ => none
  | n0 + 1, s0_0 => if decide (s0_0 < p0_0) = true then ((getI s s0_0).bind fun x2 => ((p x2).bind fun x3 => (if x3 = true then (some s0_0) else (gd (ok64 (s0_0 + 1)) ((z21 s p p0_0 kx0_0 n0) (s0_0 + 1)))))) else (kx0_0)
def z5l (s : List GItem) (p : GItem → Option Bool) : Option Int := z21 s p (s.length : Int) z9n FUEL 0
def z0x : Con := ⟨150, [.v (.sl (.s .item)) false, .fn (.s .item)], [(.I, true)], [], fun x => z5l x.1 x.2.1⟩
def y51 : Fs := ⟨[], [], []⟩
theorem zk3 : y51.Ok Try.prog := fs0
def ze0 : Tmpl := ⟨[(0, .c (.s (.s .item))), (1, .c .fp), (7, .c .i), (8, .c .i)], []⟩
def z9r : Tmpl := ⟨[], []⟩
def y2p (av : AV) (x : HP z0x.ps) (n : Nat) (v : ze0.den) (K : Ks (CR z0x)) : Option (CR z0x) := z21 v.1.1 x.2.1 v.1.2.2.1 (z9r.at (fpOf z0x.ps x av) ((), ()) (K (.exit 0))) n v.1.2.2.2.1
def zc5 (av : AV) (x : HP z0x.ps) : Hdl (CR z0x) := hnd [] ze0 (y2p av x)
theorem y30 : LP z0x Try.f150 [0] zc5 := lp_ok (W := []) (H := []) (xs := [z9r]) zk3 trivial rfl (fun av x v K => by kernel_rfl) (fun av x n v K => by kernel_rfl)
theorem y5t : z0x.Ok Try.prog := fn_ok (k := z0x) (fn := Try.f150) (W := []) (H := [zc5]) Try.func150 zk3 ⟨y30, trivial⟩ rfl rfl (fun av x => by kernel_rfl)
def z42 (s : List GItem) (p : GItem → Option Bool) : Option Bool := (z5l s p).bind fun x1 => (some (decide (0 ≤ x1)))
def z5x : Con := ⟨117, [.v (.sl (.s .item)) false, .fn (.s .item)], [(.B, true)], [], fun x => z42 x.1 x.2.1⟩
def y1e : Fs := ⟨[z0x], [], []⟩
theorem y1j : y1e.Ok Try.prog := (fsK y5t fs0)
theorem y1n : z5x.Ok Try.prog := fn_ok (k := z5x) (fn := Try.f117) (W := []) (H := []) Try.func117 y1j trivial rfl rfl (fun av x => by kernel_rfl)
def y6n  : Option Int := some (-1)
def z6o (s : List Int) (v : Int) (p0_0 : Int) (kx0_0 : Option Int) : Nat → Int → Option Int
  | 0, _ => none
  | n0 + 1, s0_0 => if decide (s0_0 < p0_0) = true then ((getI s s0_0).bind fun x2 => (if decide (v = x2) = true then (some s0_0) else (gd (ok64 (s0_0 + 1)) ((z6o s v p0_0 kx0_0 n0) (s0_0 + 1))))) else (kx0_0)
def y3z (s : List Int) (v : Int) : Option Int := z6o s v (s.length : Int) y6n FUEL 0
def z74 : Con := ⟨124, [.v (.sl .I) false, .v .I false], [(.I, true)], [], fun x => y3z x.1 x.2.1⟩
def w5d : Fs := ⟨[], [], []⟩
theorem yy8 : w5d.Ok Try.prog := fs0
def yc4 : Tmpl := ⟨[(0, .c (.s .I)), (1, .c .i), (7, .c .i), (8, .c .i)], []⟩
def y6z : Tmpl := ⟨[], []⟩
def w1e (av : AV) (x : HP z74.ps) (n : Nat) (v : yc4.den) (K : Ks (CR z74)) : Option (CR z74) := z6o v.1.1 v.1.2.1 v.1.2.2.1 (y6z.at none ((), ()) (K (.exit 0))) n v.1.2.2.2.1
def y9e (av : AV) (x : HP z74.ps) : Hdl (CR z74) := hnd [] yc4 (w1e av x)
theorem w1v : LP z74 Try.f124 [0] y9e := lp_ok (W := []) (H := []) (xs := [y6z]) yy8 trivial rfl (fun av x v K => by kernel_rfl) (fun av x n v K => by kernel_rfl)
theorem w6d : z74.Ok Try.prog := fn_ok (k := z74) (fn := Try.f124) (W := []) (H := [y9e]) Try.func124 yy8 ⟨w1v, trivial⟩ rfl rfl (fun av x => by kernel_rfl)
def z6n (s : List Int) (v : Int) : Option Bool := (y3z s v).bind fun x1 => (some (decide (0 ≤ x1)))
def z92 : Con := ⟨79, [.v (.sl .I) false, .v .I false], [(.B, true)], [], fun x => z6n x.1 x.2.1⟩
def yw7 : Fs := ⟨[z74], [], []⟩
theorem yy7 : yw7.Ok Try.prog := (fsK w6d fs0)
theorem y07 : z92.Ok Try.prog := fn_ok (k := z92) (fn := Try.f79) (W := []) (H := []) Try.func79 yy7 trivial rfl rfl (fun av x => by kernel_rfl)
def y00  : Option Int := some (-1)
def z46 (s : List GDid) (v : GDid) (p0_0 : Int) (kx0_0 : Option Int) : Nat → Int → Option Int
  | 0, _ => none
  | n0 + 1, s0_0 => if decide (s0_0 < p0_0) = true then ((getI s s0_0).bind fun x2 => (if decide ([v.task, v.who] = [x2.task, x2.who]) = true then (some s0_0) else (gd (ok64 (s0_0 + 1)) ((z46 s v p0_0 kx0_0 n0) (s0_0 + 1))))) else (kx0_0)
def zf5 (s : List GDid) (v : GDid) : Option Int := z46 s v (s.length : Int) y00 FUEL 0
def z3r : Con := ⟨166, [.v (.sl (.s .did)) false, .v (.s .did) false], [(.I, true)], [], fun x => zf5 x.1 x.2.1⟩
def yw8 : Fs := ⟨[], [], []⟩
theorem y67 : yw8.Ok Try.prog := fs0
def y2f : Tmpl := ⟨[(0, .c (.s (.s .did))), (3, .c (.bx 3 0)), (7, .c .i), (8, .c .i)], [(3, .boxT (.s .did))]⟩
def y0u : Tmpl := ⟨[], []⟩
def yc8 (av : AV) (x : HP z3r.ps) (n : Nat) (v : y2f.den) (K : Ks (CR z3r)) : Option (CR z3r) := z46 v.1.1 v.2.1 v.1.2.2.1 (y0u.at none ((), ()) (K (.exit 0))) n v.1.2.2.2.1
def y1z (av : AV) (x : HP z3r.ps) : Hdl (CR z3r) := hnd [] y2f (yc8 av x)
theorem yg6 : LP z3r Try.f166 [0] y1z := lp_ok (W := []) (H := []) (xs := [y0u]) y67 trivial rfl (fun av x v K => by kernel_rfl) (fun av x n v K => by kernel_rfl)
theorem w08 : z3r.Ok Try.prog := fn_ok (k := z3r) (fn := Try.f166) (W := []) (H := [y1z]) Try.func166 y67 ⟨yg6, trivial⟩ rfl rfl (fun av x => by kernel_rfl)
def zd5 (s : List GDid) (v : GDid) : Option Bool := (zf5 s v).bind fun x1 => (some (decide (0 ≤ x1)))
def zd1 : Con := ⟨151, [.v (.sl (.s .did)) false, .v (.s .did) false], [(.B, true)], [], fun x => zd5 x.1 x.2.1⟩
def y8r : Fs := ⟨[z3r], [], []⟩
theorem y98 : y8r.Ok Try.prog := (fsK w08 fs0)
theorem y9q : zd1.Ok Try.prog := fn_ok (k := zd1) (fn := Try.f151) (W := []) (H := []) Try.func151 y98 trivial rfl rfl (fun av x => by kernel_rfl)
def zi9 (n : Int) : Option Bool := (z65 n).bind fun x1 => (some (!x1))
def zj4 : FCon := ⟨63, .I, [], fun z c => zi9 z ⟩
def yd8 : Fs := ⟨[z8p], [], []⟩
theorem yf7 : yd8.Ok Try.prog := (fsK y2c fs0)
theorem yh6 : zj4.Ok Try.prog := FCon.ok (fn_ok (k := zj4.con) (fn := Try.f63) (W := []) (H := []) Try.func63 yf7 trivial rfl rfl (fun av x => by kernel_rfl))
def z94 (data : List Int) : Option Bool := if decide ((data.length : Int) = 3) = true then ((z1l data (fun z => zi9 z )).bind fun x2 => (some (!x2))) else (some false)
def zf1 : Con := ⟨19, [.v (.sl .I) false], [(.B, true)], [], fun x => z94 x.1⟩
def yx0 : Fs := ⟨[z37], [zj4], []⟩
theorem yy9 : yx0.Ok Try.prog := (fsK z4w (fsF yh6 fs0))
theorem y6o : zf1.Ok Try.prog := fn_ok (k := zf1) (fn := Try.f19) (W := []) (H := []) Try.func19 yy9 trivial rfl rfl (fun av x => by kernel_rfl)
def zm0  : Option Bool := some true
def z3d (list : List Int) (places : Int) (without : List Int) (p0_0 : Int) (kx0_0 : Option Bool) : Nat → Int → Int → Option Bool
  | 0, _, _ => none
  | n0 + 1, s0_0, s0_1 => if decide (s0_0 < p0_0) = true then ((getI list s0_0).bind fun x2 => (gd (ok64 (s0_1 + 1)) (gd (ok64 (places - 1)) ((z0w x2 (s0_1 + 1) (places - 1)).bind fun x5 => (if x5 = true then ((z6n without x2).bind fun x7 => (if x7 = true then (some false) else (gd (ok64 (s0_0 + 1)) ((z3d list places without p0_0 kx0_0 n0) (s0_0 + 1) x2)))) else (some false)))))) else (kx0_0)
def z64 (list : List Int) (places : Int) (without : List Int) : Option Bool := z3d list places without (list.length : Int) zm0 FUEL 0 (-1)
def z2l : Con := ⟨143, [.v (.sl .I) false, .v .I false, .v (.sl .I) false], [(.B, true)], [], fun x => z64 x.1 x.2.1 x.2.2.1⟩
def ye1 : Fs := ⟨[z2u, z92], [], []⟩
theorem y1r : ye1.Ok Try.prog := (fsK z3h (fsK y07 fs0))
def zu7 : Tmpl := ⟨[(1, .c .i), (2, .c (.s .I)), (7, .c .i), (10, .c (.s .I)), (11, .c .i), (12, .c .i)], []⟩
def zo7 : Tmpl := ⟨[], []⟩
def y70 (av : AV) (x : HP z2l.ps) (n : Nat) (v : zu7.den) (K : Ks (CR z2l)) : Option (CR z2l) := z3d v.1.2.2.2.1 v.1.1 v.1.2.1 v.1.2.2.2.2.1 (zo7.at none ((), ()) (K (.exit 0))) n v.1.2.2.2.2.2.1 v.1.2.2.1
def zt1 (av : AV) (x : HP z2l.ps) : Hdl (CR z2l) := hnd [] zu7 (y70 av x)
theorem y7k : LP z2l Try.f143 [0] zt1 := lp_ok (W := []) (H := []) (xs := [zo7]) y1r trivial rfl (fun av x v K => by kernel_rfl) (fun av x n v K => by kernel_rfl)
theorem yh9 : z2l.Ok Try.prog := fn_ok (k := z2l) (fn := Try.f143) (W := []) (H := [zt1]) Try.func143 y1r ⟨y7k, trivial⟩ rfl rfl (fun av x => by kernel_rfl)
def z4o (t : GTask) : Option Bool := (z0w (t.out.length : Int) 1 3).bind fun x21 => (some x21)
def z0v (t : GTask) (places : Int) (p0_0 : List GFlow) (p0_1 : Int) (kx0_0 : Option Bool) : Nat → Int → List Int → Option Bool
  | 0, _, _ => none
  | n0 + 1, s0_0, m0_1 => if decide (s0_0 < p0_1) = true then ((getI p0_0 s0_0).bind fun x2 => (if decide (t.split = 1) = true then (gd (ok64 (places - 1)) ((z0w x2.to 0 (places - 1)).bind fun x5 => (if x5 = true then (if decide (x2.to ∈ m0_1) = true then (some false) else ((z95 x2.if_).bind fun x8 => (if x8 = true then (if ((decide (x2.if_.op = 0)) == true) = true then (gd (ok64 (s0_0 + 1)) ((z0v t places p0_0 p0_1 kx0_0 n0) (s0_0 + 1) (insKey m0_1 x2.to))) else (some false)) else (some false)))) else (some false)))) else (gd (ok64 ((t.out.length : Int) - 1)) (gd (ok64 (places - 1)) ((z0w x2.to 0 (places - 1)).bind fun x14 => (if x14 = true then (if decide (x2.to ∈ m0_1) = true then (some false) else ((z95 x2.if_).bind fun x17 => (if x17 = true then (if ((decide (x2.if_.op = 0)) == (decide (s0_0 = ((t.out.length : Int) - 1)))) = true then (gd (ok64 (s0_0 + 1)) ((z0v t places p0_0 p0_1 kx0_0 n0) (s0_0 + 1) (insKey m0_1 x2.to))) else (some false)) else (some false)))) else (some false))))))) else (kx0_0)
def z44 (t : GTask) (places : Int) : Option Bool := z0v t places t.out (t.out.length : Int) (z4o t) FUEL 0 (insKey ([] : List Int) 0)
def z0p : Con := ⟨144, [.v (.s .task) false, .v .I false], [(.B, true)], [], fun x => z44 x.1 x.2.1⟩
def y1i : Fs := ⟨[z2u, zz3], [], []⟩
theorem z9l : y1i.Ok Try.prog := (fsK z3h (fsK w0a fs0))
def z8a : Tmpl := ⟨[(1, .c .i), (2, .c (.bx 2 0)), (5, .c (.bx 9 0)), (12, .c (.s (.s .flow))), (13, .c .i), (14, .c .i)], [(2, .boxT (.s .task)), (9, .mp)]⟩
def z83 : Tmpl := ⟨[(2, .c (.bx 2 0))], [(2, .boxT (.s .task))]⟩
def zw7 (av : AV) (x : HP z0p.ps) (n : Nat) (v : z8a.den) (K : Ks (CR z0p)) : Option (CR z0p) := z0v v.2.1 v.1.1 v.1.2.2.2.1 v.1.2.2.2.2.1 (z83.at none (((), ()), (v.2.1, ())) (K (.exit 0))) n v.1.2.2.2.2.2.1 v.2.2.1
def z85 (av : AV) (x : HP z0p.ps) : Hdl (CR z0p) := hnd [] z8a (zw7 av x)
theorem zw9 : LP z0p Try.f144 [0] z85 := lp_ok (W := []) (H := []) (xs := [z83]) z9l trivial rfl (fun av x v K => by kernel_rfl) (fun av x n v K => by kernel_rfl)
theorem y1q : z0p.Ok Try.prog := fn_ok (k := z0p) (fn := Try.f144) (W := []) (H := [z85]) Try.func144 z9l ⟨zw9, trivial⟩ rfl rfl (fun av x => by kernel_rfl)
def z5n (t : GTask) (places : Int) (tasks : Int) : Option Bool := (zb1 t.join).bind fun x1 => (if x1 = true then ((zb1 t.split).bind fun x3 => (if x3 = true then ((z0w (t.in_.length : Int) 1 3).bind fun x5 => (if x5 = true then ((z64 t.in_ places [1]).bind fun x7 => (if x7 = true then ((z44 t places).bind fun x9 => (if x9 = true then ((z64 t.clear places [0, 1]).bind fun x11 => (if x11 = true then ((z7b t.role).bind fun x13 => (if x13 = true then (gd (ok64 (tasks - 1)) ((z0w t.apart (-1) (tasks - 1)).bind fun x16 => (if x16 = true then ((z0w t.all 1 3).bind fun x18 => (if x18 = true then ((z0w t.need 1 t.all).bind fun x20 => (some x20)) else (some false))) else (some false)))) else (some false))) else (some false))) else (some false))) else (some false))) else (some false))) else (some false))) else (some false))
def z8h : Con := ⟨109, [.v (.s .task) false, .v .I false, .v .I false], [(.B, true)], [], fun x => z5n x.1 x.2.1 x.2.2.1⟩
def y54 : Fs := ⟨[zr3, z2u, z2l, z0p, za2], [], []⟩
theorem y5a : y54.Ok Try.prog := (fsK yr9 (fsK z3h (fsK yh9 (fsK y1q (fsK y44 fs0)))))
theorem y5v : z8h.Ok Try.prog := fn_ok (k := z8h) (fn := Try.f109) (W := []) (H := []) Try.func109 y5a trivial rfl rfl (fun av x => by kernel_rfl)
def zj0 (t : GTask) (n : GNet) : Option Bool := (z5n t n.places (n.tasks.length : Int)).bind fun x1 => (some (!x1))
def zj5 : FCon := ⟨108, (.s .task), [(.s .net)], fun z c => zj0 z c.1⟩
def yd9 : Fs := ⟨[z8h], [], []⟩
theorem yf8 : yd9.Ok Try.prog := (fsK y5v fs0)
theorem yh7 : zj5.Ok Try.prog := FCon.ok (fn_ok (k := zj5.con) (fn := Try.f108) (W := []) (H := []) Try.func108 yf8 trivial rfl rfl (fun av x => by kernel_rfl))
def z98 (n : GNet) : Option Bool := (zj3 n.places (n.tasks.length : Int)).bind fun x1 => (if x1 = true then ((z43 n.tasks (fun z => zj0 z n)).bind fun x3 => (some (!x3))) else (some false))
def zf2 : Con := ⟨60, [.v (.s .net) false], [(.B, true)], [], fun x => z98 x.1⟩
def yx3 : Fs := ⟨[zi4, z5y], [zj5], []⟩
theorem yz2 : yx3.Ok Try.prog := (fsK yi1 (fsK y1o (fsF yh7 fs0)))
theorem y6p : zf2.Ok Try.prog := fn_ok (k := zf2) (fn := Try.f60) (W := []) (H := []) Try.func60 yz2 trivial rfl rfl (fun av x => by kernel_rfl)
def z3x (p : Int) (out : List Bool) : Option Bool := (getI out p).bind fun x1 => (some x1)
def z5g : FCon := ⟨172, .I, [(.sl .B)], fun z c => z3x z c.1⟩
def zx7 : Fs := ⟨[], [], []⟩
theorem zy1 : zx7.Ok Try.prog := fs0
theorem y0b : z5g.Ok Try.prog := FCon.ok (fn_ok (k := z5g.con) (fn := Try.f172) (W := []) (H := []) Try.func172 zy1 trivial rfl rfl (fun av x => by kernel_rfl))
def z86 (s1_0 : List GTask) (s1_1 : Int) (s1_2 : Int) (bk1 : List GTask → Int → Int → Bool → List Bool → Option (List Bool)) (s2_1 : Bool) (l2_2 : List Bool) : Option (List Bool) := gd (ok64 (s1_2 + 1)) (bk1 s1_0 s1_1 (s1_2 + 1) s2_1 l2_2)
def z0d (p2_0 : List GFlow) (p2_1 : Int) (kx2_0 : Bool → List Bool → Option (List Bool)) : Nat → Int → Bool → List Bool → Option (List Bool)
  | 0, _, _, _ => none
  | n2 + 1, s2_0, s2_1, l2_2 => if decide (s2_0 < p2_1) = true then ((getI p2_0 s2_0).bind fun x11 => (if s2_1 = true then ((getI l2_2 x11.to).bind fun x13 => (gd (ok64 (s2_0 + 1)) ((z0d p2_0 p2_1 kx2_0 n2) (s2_0 + 1) true (l2_2.set x11.to.toNat true)))) else ((getI l2_2 x11.to).bind fun x15 => ((getI l2_2 x11.to).bind fun x16 => (gd (ok64 (s2_0 + 1)) ((z0d p2_0 p2_1 kx2_0 n2) (s2_0 + 1) (!x15) (l2_2.set x11.to.toNat true))))))) else (kx2_0 s2_1 l2_2)
def z4y (bk0 : Bool → List Bool → Option (List Bool)) (s1_3 : Bool) (l1_4 : List Bool) : Option (List Bool) := bk0 s1_3 l1_4
def z09 (but : Int) (kx1_0 : Bool → List Bool → Option (List Bool)) : Nat → List GTask → Int → Int → Bool → List Bool → Option (List Bool)
  | 0, _, _, _, _, _ => none
  | n1 + 1, s1_0, s1_1, s1_2, s1_3, l1_4 => if decide (s1_2 < s1_1) = true then ((getI s1_0 s1_2).bind fun x5 => (if decide (s1_2 = but) = true then (gd (ok64 (s1_2 + 1)) ((z09 but kx1_0 n1) s1_0 s1_1 (s1_2 + 1) s1_3 l1_4)) else ((z1l x5.in_ (fun z => z3x z l1_4)).bind fun x8 => (if x8 = true then (z0d x5.out (x5.out.length : Int) (z86 s1_0 s1_1 s1_2 (z09 but kx1_0 n1)) FUEL 0 s1_3 l1_4) else (gd (ok64 (s1_2 + 1)) ((z09 but kx1_0 n1) s1_0 s1_1 (s1_2 + 1) s1_3 l1_4)))))) else (kx1_0 s1_3 l1_4)
def z87 (l0_1 : List Bool) : Option (List Bool) := some l0_1
def z0o (n : GNet) (but : Int) (kx0_0 : List Bool → Option (List Bool)) : Nat → Bool → List Bool → Option (List Bool)
  | 0, _, _ => none
  | n0 + 1, s0_0, l0_1 => if s0_0 = true then (z09 but (z4y (z0o n but kx0_0 n0)) FUEL n.tasks (n.tasks.length : Int) 0 false l0_1) else (kx0_0 l0_1)
def z4n (n : GNet) (place : Int) (but : Int) : Option (List Bool) := gd ((0 : Int) ≤ n.places ∧ n.places ≤ (1000000000 : Int)) ((getI (List.replicate n.places.toNat false) place).bind fun x2 => (z0o n but z87 FUEL true ((List.replicate n.places.toNat false).set place.toNat true)))
def z03 : Con := ⟨163, [.v (.s .net) false, .v .I false, .v .I false], [((.sl .B), true)], [], fun x => z4n x.1 x.2.1 x.2.2.1⟩
def y2w : Fs := ⟨[z37], [z5g], []⟩
theorem z4k : y2w.Ok Try.prog := (fsK z4w (fsF y0b fs0))
def z6b : Tmpl := ⟨[(2, .c .i), (3, .c (.bx 3 0)), (7, .c (.bx 7 0)), (8, .c .b), (21, .c (.s (.s .task))), (22, .c .i), (23, .c .i), (39, .c (.s (.s .flow))), (40, .c .i), (41, .c .i)], [(3, .boxT (.s .net)), (7, .box [.ref 15]), (15, .arr .B true)]⟩
def z5v : Tmpl := ⟨[(2, .c .i), (3, .c (.bx 3 0)), (7, .c (.bx 7 0)), (8, .c .b), (21, .c (.s (.s .task))), (22, .c .i), (23, .c .i)], [(3, .boxT (.s .net)), (7, .box [.ref 15]), (15, .arr .B true)]⟩
def zi1 (av : AV) (x : HP z03.ps) (n : Nat) (v : z6b.den) (K : Ks (CR z03)) : Option (CR z03) := z0d v.1.2.2.2.2.2.2.2.1 v.1.2.2.2.2.2.2.2.2.1 (fun s2_1 l2_2 => z5v.at none ((v.1.1, (), (), s2_1, v.1.2.2.2.2.1, v.1.2.2.2.2.2.1, v.1.2.2.2.2.2.2.1, ()), (v.2.1, ((), ()), l2_2, ())) (K (.exit 4))) n v.1.2.2.2.2.2.2.2.2.2.1 v.1.2.2.2.1 v.2.2.2.1
def z63 (av : AV) (x : HP z03.ps) : Hdl (CR z03) := hnd [] z6b (zi1 av x)
theorem zi8 : LP z03 Try.f163 [0, 0, 0] z63 := lp_ok (W := []) (H := []) (xs := [z5v]) z4k trivial rfl (fun av x v K => by kernel_rfl) (fun av x n v K => by kernel_rfl)
def z81 : Tmpl := ⟨[(2, .c .i), (3, .c (.bx 3 0)), (7, .c (.bx 7 0)), (8, .c .b), (21, .c (.s (.s .task))), (22, .c .i), (23, .c .i)], [(3, .boxT (.s .net)), (7, .box [.ref 15]), (15, .arr .B true)]⟩
def z6w : Tmpl := ⟨[(2, .c .i), (3, .c (.bx 3 0)), (7, .c (.bx 7 0)), (8, .c .b)], [(3, .boxT (.s .net)), (7, .box [.ref 15]), (15, .arr .B true)]⟩
def zq0 (av : AV) (x : HP z03.ps) (n : Nat) (v : z81.den) (K : Ks (CR z03)) : Option (CR z03) := z09 v.1.1 (fun s1_3 l1_4 => z6w.at none ((v.1.1, (), (), s1_3, ()), (v.2.1, ((), ()), l1_4, ())) (K (.exit 2))) n v.1.2.2.2.2.1 v.1.2.2.2.2.2.1 v.1.2.2.2.2.2.2.1 v.1.2.2.2.1 v.2.2.2.1
def z72 (av : AV) (x : HP z03.ps) : Hdl (CR z03) := hnd [] z81 (zq0 av x)
theorem zs1 : LP z03 Try.f163 [0, 0] z72 := lp_ok (W := []) (H := [z63]) (xs := [z6w]) z4k ⟨zi8, trivial⟩ rfl (fun av x v K => by kernel_rfl) (fun av x n v K => by kernel_rfl)
def z9d : Tmpl := ⟨[(2, .c .i), (3, .c (.bx 3 0)), (7, .c (.bx 7 0)), (8, .c .b)], [(3, .boxT (.s .net)), (7, .box [.ref 15]), (15, .arr .B true)]⟩
def z8b : Tmpl := ⟨[(7, .c (.bx 7 0))], [(7, .box [.ref 15]), (15, .arr .B true)]⟩
def zx0 (av : AV) (x : HP z03.ps) (n : Nat) (v : z9d.den) (K : Ks (CR z03)) : Option (CR z03) := z0o v.2.1 v.1.1 (fun l0_1 => z8b.at none (((), ()), (((), ()), l0_1, ())) (K (.exit 0))) n v.1.2.2.2.1 v.2.2.2.1
def z8z (av : AV) (x : HP z03.ps) : Hdl (CR z03) := hnd [] z9d (zx0 av x)
theorem zz6 : LP z03 Try.f163 [0] z8z := lp_ok (W := []) (H := [z72]) (xs := [z8b]) z4k ⟨zs1, trivial⟩ rfl (fun av x v K => by kernel_rfl) (fun av x n v K => by kernel_rfl)
theorem y39 : z03.Ok Try.prog := fn_ok (k := z03) (fn := Try.f163) (W := []) (H := [z8z]) Try.func163 z4k ⟨zz6, trivial⟩ rfl rfl (fun av x => by kernel_rfl)
def z4m (m : Int) : Option Bool := (z0w m 0 4).bind fun x1 => (some (!x1))
def z4r : FCon := ⟨110, .I, [], fun z c => z4m z ⟩
def zq3 : Fs := ⟨[z2u], [], []⟩
theorem zq6 : zq3.Ok Try.prog := (fsK z3h fs0)
theorem zs5 : z4r.Ok Try.prog := FCon.ok (fn_ok (k := z4r.con) (fn := Try.f110) (W := []) (H := []) Try.func110 zq6 trivial rfl rfl (fun av x => by kernel_rfl))
def z3w (n : GNet) (marks : List Int) : Option Bool := if decide ((marks.length : Int) = n.places) = true then ((z1l marks (fun z => z4m z )).bind fun x2 => (some (!x2))) else (some false)
def z59 : Con := ⟨61, [.v (.s .net) false, .v (.sl .I) false], [(.B, true)], [], fun x => z3w x.1 x.2.1⟩
def zx6 : Fs := ⟨[z37], [z4r], []⟩
theorem zy0 : zx6.Ok Try.prog := (fsK z4w (fsF zs5 fs0))
theorem y0a : z59.Ok Try.prog := fn_ok (k := z59) (fn := Try.f61) (W := []) (H := []) Try.func61 zy0 trivial rfl rfl (fun av x => by kernel_rfl)
def z6p (n : GNet) (marks : List Int) : Option Bool := (z98 n).bind fun x1 => (if x1 = true then ((z3w n marks).bind fun x3 => (some x3)) else (some false))
def z93 : Con := ⟨18, [.v (.s .net) false, .v (.sl .I) false], [(.B, true)], [], fun x => z6p x.1 x.2.1⟩
def yx2 : Fs := ⟨[zf2, z59], [], []⟩
theorem yz1 : yx2.Ok Try.prog := (fsK y6p (fsK y0a fs0))
theorem y08 : z93.Ok Try.prog := fn_ok (k := z93) (fn := Try.f18) (W := []) (H := []) Try.func18 yz1 trivial rfl rfl (fun av x => by kernel_rfl)
def z79 (busy : List GItem) : Option Bool := some (decide ((busy.length : Int) ≤ 6))
def z1b (n : GNet) (p0_0 : List GItem) (p0_1 : Int) (kx0_0 : Option Bool) : Nat → Int → Option Bool
  | 0, _ => none
  | n0 + 1, s0_0 => if decide (s0_0 < p0_1) = true then ((getI p0_0 s0_0).bind fun x2 => ((z0l n x2.task).bind fun x3 => (if x3 = true then ((z5d x2.who).bind fun x5 => (if x5 = true then ((getI n.tasks x2.task).bind fun x7 => (gd (ok64 (x7.need - 1)) ((z0w x2.did 0 (x7.need - 1)).bind fun x9 => (if x9 = true then (gd (ok64 (s0_0 + 1)) ((z1b n p0_0 p0_1 kx0_0 n0) (s0_0 + 1))) else (some false))))) else (some false))) else (some false)))) else (kx0_0)
def z24 (n : GNet) (busy : List GItem) : Option Bool := z1b n busy (busy.length : Int) (z79 busy) FUEL 0
def z0e : Con := ⟨50, [.v (.s .net) false, .v (.sl (.s .item)) false], [(.B, true)], [], fun x => z24 x.1 x.2.1⟩
def y1h : Fs := ⟨[z1o, z75, z2u], [], []⟩
theorem z9k : y1h.Ok Try.prog := (fsK z40 (fsK y0c (fsK z3h fs0)))
def z89 : Tmpl := ⟨[(1, .c (.s (.s .item))), (2, .c (.bx 2 0)), (7, .c (.s (.s .item))), (8, .c .i), (9, .c .i)], [(2, .boxT (.s .net))]⟩
def z82 : Tmpl := ⟨[(1, .c (.s (.s .item)))], []⟩
def zw6 (av : AV) (x : HP z0e.ps) (n : Nat) (v : z89.den) (K : Ks (CR z0e)) : Option (CR z0e) := z1b v.2.1 v.1.2.2.1 v.1.2.2.2.1 (z82.at none ((v.1.1, ()), ()) (K (.exit 0))) n v.1.2.2.2.2.1
def z84 (av : AV) (x : HP z0e.ps) : Hdl (CR z0e) := hnd [] z89 (zw6 av x)
theorem zw8 : LP z0e Try.f50 [0] z84 := lp_ok (W := []) (H := []) (xs := [z82]) z9k trivial rfl (fun av x v K => by kernel_rfl) (fun av x n v K => by kernel_rfl)
theorem z60 : z0e.Ok Try.prog := fn_ok (k := z0e) (fn := Try.f50) (W := []) (H := [z84]) Try.func50 z9k ⟨zw8, trivial⟩ rfl rfl (fun av x => by kernel_rfl)
def z4l (q : Int) (marks : List Int) (reach : List Bool) : Option Bool := (getI marks q).bind fun x1 => (if decide (x1 = 0) = true then ((getI reach q).bind fun x3 => (some x3)) else (some false))
def z4q : FCon := ⟨164, .I, [(.sl .I), (.sl .B)], fun z c => z4l z c.1 c.2.1⟩
def zq2 : Fs := ⟨[], [], []⟩
theorem zq5 : zq2.Ok Try.prog := fs0
theorem zs4 : z4q.Ok Try.prog := FCon.ok (fn_ok (k := z4q.con) (fn := Try.f164) (W := []) (H := []) Try.func164 zq5 trivial rfl rfl (fun av x => by kernel_rfl))
def z31 (s1_0 : Int) (s1_1 : Int) (bk1 : Int → Int → List Int → Option Bool) (l2_1 : List Int) : Option Bool := gd (ok64 (s1_1 + 1)) (bk1 s1_0 (s1_1 + 1) l2_1)
def z16 (p2_0 : List GFlow) (p2_1 : Int) (kx2_0 : List Int → Option Bool) : Nat → Int → List Int → Option Bool
  | 0, _, _ => none
  | n2 + 1, s2_0, l2_1 => if decide (s2_0 < p2_1) = true then ((getI p2_0 s2_0).bind fun x15 => (gd (l2_1.length + [x15.to].length ≤ SMALL) (gd (ok64 (s2_0 + 1)) ((z16 p2_0 p2_1 kx2_0 n2) (s2_0 + 1) (l2_1 ++ [x15.to]))))) else (kx2_0 l2_1)
def z48  : Option Bool := some false
def z0q (n : GNet) (t : Int) (p0_0 : List Int) (p0_2 : List Int) (l1_2 : List Int) (p3_0 : Int) (kx3_0 : Option Bool) : Nat → Int → Option Bool
  | 0, _ => none
  | n3 + 1, s3_0 => if decide (s3_0 < p3_0) = true then ((getI l1_2 s3_0).bind fun x20 => ((z4n n x20 t).bind fun x21 => ((z1l p0_0 (fun z => z4l z p0_2 x21)).bind fun x22 => (if x22 = true then (some true) else (gd (ok64 (s3_0 + 1)) ((z0q n t p0_0 p0_2 l1_2 p3_0 kx3_0 n3) (s3_0 + 1))))))) else (kx3_0)
def z15 (n : GNet) (t : Int) (p0_0 : List Int) (p0_2 : List Int) (l1_2 : List Int) : Option Bool := z0q n t p0_0 p0_2 l1_2 (l1_2.length : Int) z48 FUEL 0
def z0g (n : GNet) (busy : List GItem) (kx1_0 : List Int → Option Bool) : Nat → Int → Int → List Int → Option Bool
  | 0, _, _, _ => none
  | n1 + 1, s1_0, s1_1, l1_2 => if decide (s1_1 < s1_0) = true then ((getI busy s1_1).bind fun x12 => ((getI n.tasks x12.task).bind fun x13 => (z16 x13.out (x13.out.length : Int) (z31 s1_0 s1_1 (z0g n busy kx1_0 n1)) FUEL 0 l1_2))) else (kx1_0 l1_2)
def z30 (n : GNet) (busy : List GItem) (t : Int) (p0_0 : List Int) (p0_2 : List Int) (l0_1 : List Int) : Option Bool := z0g n busy (z15 n t p0_0 p0_2) FUEL (busy.length : Int) 0 l0_1
def z0f (marks : List Int) (p0_0 : List Int) (p0_1 : Int) (kx0_0 : List Int → Option Bool) : Nat → Int → List Int → Option Bool
  | 0, _, _ => none
  | n0 + 1, s0_0, l0_1 => if decide (s0_0 < p0_1) = true then ((getI marks s0_0).bind fun x3 => (if decide (0 < x3) = true then ((z6n p0_0 s0_0).bind fun x5 => (if x5 = true then (gd (ok64 (s0_0 + 1)) ((z0f marks p0_0 p0_1 kx0_0 n0) (s0_0 + 1) l0_1)) else (gd (l0_1.length + [s0_0].length ≤ SMALL) (gd (ok64 (s0_0 + 1)) ((z0f marks p0_0 p0_1 kx0_0 n0) (s0_0 + 1) (l0_1 ++ [s0_0])))))) else (gd (ok64 (s0_0 + 1)) ((z0f marks p0_0 p0_1 kx0_0 n0) (s0_0 + 1) l0_1)))) else (kx0_0 l0_1)
def z3v (n : GNet) (marks : List Int) (busy : List GItem) (t : Int) : Option Bool := (getI n.tasks t).bind fun x1 => (z0f marks x1.in_ (marks.length : Int) (z30 n busy t x1.in_ marks) FUEL 0 ([] : List Int))
def z00 : Con := ⟨148, [.v (.s .net) false, .v (.sl .I) false, .v (.sl (.s .item)) false, .v .I false], [(.B, true)], [], fun x => z3v x.1 x.2.1 x.2.2.1 x.2.2.2.1⟩
def zx4 : Fs := ⟨[z92, z03, z37], [z4q], []⟩
theorem z2t : zx4.Ok Try.prog := (fsK y07 (fsK y39 (fsK z4w (fsF zs4 fs0))))
def z6a : Tmpl := ⟨[(3, .c .i), (4, .c (.bx 4 0)), (5, .c (.bx 5 0)), (9, .c (.s .I)), (10, .c (.ref 500010)), (46, .c (.s (.s .item))), (47, .c .i), (48, .c .i), (58, .c (.s (.s .flow))), (59, .c .i), (60, .c .i)], [(4, .boxT (.s .net)), (5, .box [.s .I]), (500010, .arr .I true)]⟩
def z5u : Tmpl := ⟨[(3, .c .i), (4, .c (.bx 4 0)), (5, .c (.bx 5 0)), (9, .c (.s .I)), (10, .c (.ref 500010)), (46, .c (.s (.s .item))), (47, .c .i), (48, .c .i)], [(4, .boxT (.s .net)), (5, .box [.s .I]), (500010, .arr .I true)]⟩
def zi0 (av : AV) (x : HP z00.ps) (n : Nat) (v : z6a.den) (K : Ks (CR z00)) : Option (CR z00) := z16 v.1.2.2.2.2.2.2.2.2.1 v.1.2.2.2.2.2.2.2.2.2.1 (fun l2_1 => z5u.at none ((v.1.1, (), (), v.1.2.2.2.1, (), v.1.2.2.2.2.2.1, v.1.2.2.2.2.2.2.1, v.1.2.2.2.2.2.2.2.1, ()), (v.2.1, (v.2.2.1.1, ()), l2_1, ())) (K (.exit 4))) n v.1.2.2.2.2.2.2.2.2.2.2.1 v.2.2.2.1
def z62 (av : AV) (x : HP z00.ps) : Hdl (CR z00) := hnd [] z6a (zi0 av x)
theorem zi7 : LP z00 Try.f148 [1, 0] z62 := lp_ok (W := []) (H := []) (xs := [z5u]) z2t trivial rfl (fun av x v K => by kernel_rfl) (fun av x n v K => by kernel_rfl)
def z7y : Tmpl := ⟨[(2, .c (.s (.s .item))), (3, .c .i), (4, .c (.bx 4 0)), (5, .c (.bx 5 0)), (9, .c (.s .I)), (10, .c (.ref 500010)), (26, .c (.s .I)), (27, .c .i), (28, .c .i)], [(4, .boxT (.s .net)), (5, .box [.s .I]), (500010, .arr .I true)]⟩
def z6t : Tmpl := ⟨[(2, .c (.s (.s .item))), (3, .c .i), (4, .c (.bx 4 0)), (5, .c (.bx 5 0)), (9, .c (.s .I)), (10, .c (.ref 500010))], [(4, .boxT (.s .net)), (5, .box [.s .I]), (500010, .arr .I true)]⟩
def zp7 (av : AV) (x : HP z00.ps) (n : Nat) (v : z7y.den) (K : Ks (CR z00)) : Option (CR z00) := z0f v.1.2.2.2.2.2.2.1 v.1.2.2.2.2.1 v.1.2.2.2.2.2.2.2.1 (fun l0_1 => z6t.at none ((v.1.1, v.1.2.1, (), (), v.1.2.2.2.2.1, (), ()), (v.2.1, (v.2.2.1.1, ()), l0_1, ())) (K (.exit 0))) n v.1.2.2.2.2.2.2.2.2.1 v.2.2.2.1
def z6z (av : AV) (x : HP z00.ps) : Hdl (CR z00) := hnd [.e 10 500010 .I] z7y (zp7 av x)
theorem zr8 : LP z00 Try.f148 [0] z6z := lp_ok (W := []) (H := []) (xs := [z6t]) z2t trivial rfl (fun av x v K => by kernel_rfl) (fun av x n v K => by kernel_rfl)
def z7z : Tmpl := ⟨[(3, .c .i), (4, .c (.bx 4 0)), (5, .c (.bx 5 0)), (9, .c (.s .I)), (10, .c (.ref 500010)), (46, .c (.s (.s .item))), (47, .c .i), (48, .c .i)], [(4, .boxT (.s .net)), (5, .box [.s .I]), (500010, .arr .I true)]⟩
def z6u : Tmpl := ⟨[(3, .c .i), (4, .c (.bx 4 0)), (5, .c (.bx 5 0)), (9, .c (.s .I)), (10, .c (.ref 500010))], [(4, .boxT (.s .net)), (5, .box [.s .I]), (500010, .arr .I true)]⟩
def zp8 (av : AV) (x : HP z00.ps) (n : Nat) (v : z7z.den) (K : Ks (CR z00)) : Option (CR z00) := z0g v.2.1 v.1.2.2.2.2.2.1 (fun l1_2 => z6u.at none ((v.1.1, (), (), v.1.2.2.2.1, (), ()), (v.2.1, (v.2.2.1.1, ()), l1_2, ())) (K (.exit 2))) n v.1.2.2.2.2.2.2.1 v.1.2.2.2.2.2.2.2.1 v.2.2.2.1
def z70 (av : AV) (x : HP z00.ps) : Hdl (CR z00) := hnd [] z7z (zp8 av x)
theorem zr9 : LP z00 Try.f148 [1] z70 := lp_ok (W := []) (H := [z62]) (xs := [z6u]) z2t ⟨zi7, trivial⟩ rfl (fun av x v K => by kernel_rfl) (fun av x n v K => by kernel_rfl)
def z80 : Tmpl := ⟨[(3, .c .i), (4, .c (.bx 4 0)), (5, .c (.bx 5 0)), (9, .c (.s .I)), (71, .c (.ref 500010)), (72, .c .i), (73, .c .i)], [(4, .boxT (.s .net)), (5, .box [.s .I]), (500010, .arr .I true)]⟩
def z6v : Tmpl := ⟨[], []⟩
def zp9 (av : AV) (x : HP z00.ps) (n : Nat) (v : z80.den) (K : Ks (CR z00)) : Option (CR z00) := z0q v.2.1 v.1.1 v.1.2.2.2.1 v.2.2.1.1 v.2.2.2.1 v.1.2.2.2.2.2.1 (z6v.at none ((), ()) (K (.exit 6))) n v.1.2.2.2.2.2.2.1
def z71 (av : AV) (x : HP z00.ps) : Hdl (CR z00) := hnd [] z80 (zp9 av x)
theorem zs0 : LP z00 Try.f148 [2] z71 := lp_ok (W := []) (H := []) (xs := [z6v]) z2t trivial rfl (fun av x v K => by kernel_rfl) (fun av x n v K => by kernel_rfl)
theorem y09 : z00.Ok Try.prog := fn_ok (k := z00) (fn := Try.f148) (W := []) (H := [z6z, z70, z71]) Try.func148 z2t ⟨zr8, zr9, zs0, trivial⟩ rfl rfl (fun av x => by kernel_rfl)
def z25 (n : GNet) (marks : List Int) (busy : List GItem) (t : Int) (s0_0 : Bool) (s0_2 : Bool) : Option Bool := (getI n.tasks t).bind fun x14 => (if decide (x14.join = 1) = true then (some s0_0) else (if decide (x14.join = 2) = true then (some s0_2) else (if s0_2 = true then (if s0_0 = true then (some true) else ((z3v n marks busy t).bind fun x19 => (some (!x19)))) else (some false))))
def z0h (marks : List Int) (p0_0 : List Int) (p0_1 : Int) (kx0_0 : Bool → Bool → Option Bool) : Nat → Bool → Int → Bool → Option Bool
  | 0, _, _, _ => none
  | n0 + 1, s0_0, s0_1, s0_2 => if decide (s0_1 < p0_1) = true then ((getI p0_0 s0_1).bind fun x3 => (if s0_2 = true then (if s0_0 = true then ((getI marks x3).bind fun x6 => (gd (ok64 (s0_1 + 1)) ((z0h marks p0_0 p0_1 kx0_0 n0) (decide (0 < x6)) (s0_1 + 1) true))) else (gd (ok64 (s0_1 + 1)) ((z0h marks p0_0 p0_1 kx0_0 n0) false (s0_1 + 1) true))) else ((getI marks x3).bind fun x9 => (if s0_0 = true then ((getI marks x3).bind fun x11 => (gd (ok64 (s0_1 + 1)) ((z0h marks p0_0 p0_1 kx0_0 n0) (decide (0 < x11)) (s0_1 + 1) (decide (0 < x9))))) else (gd (ok64 (s0_1 + 1)) ((z0h marks p0_0 p0_1 kx0_0 n0) false (s0_1 + 1) (decide (0 < x9)))))))) else (kx0_0 s0_0 s0_2)
def z49 (n : GNet) (marks : List Int) (busy : List GItem) (t : Int) : Option Bool := (getI n.tasks t).bind fun x1 => (z0h marks x1.in_ (x1.in_.length : Int) (z25 n marks busy t) FUEL true 0 false)
def z0z : Con := ⟨114, [.v (.s .net) false, .v (.sl .I) false, .v (.sl (.s .item)) false, .v .I false], [(.B, true)], [], fun x => z49 x.1 x.2.1 x.2.2.1 x.2.2.2.1⟩
def y53 : Fs := ⟨[z00], [], []⟩
theorem zk5 : y53.Ok Try.prog := (fsK y09 fs0)
def ze2 : Tmpl := ⟨[(1, .c (.s .I)), (2, .c (.s (.s .item))), (3, .c .i), (4, .c (.bx 4 0)), (9, .c .b), (10, .c .b), (18, .c (.s .I)), (19, .c .i), (20, .c .i)], [(4, .boxT (.s .net))]⟩
def z9t : Tmpl := ⟨[(1, .c (.s .I)), (2, .c (.s (.s .item))), (3, .c .i), (4, .c (.bx 4 0)), (9, .c .b), (10, .c .b)], [(4, .boxT (.s .net))]⟩
def y2r (av : AV) (x : HP z0z.ps) (n : Nat) (v : ze2.den) (K : Ks (CR z0z)) : Option (CR z0z) := z0h v.1.1 v.1.2.2.2.2.2.2.1 v.1.2.2.2.2.2.2.2.1 (fun s0_0 s0_2 => z9t.at none ((v.1.1, v.1.2.1, v.1.2.2.1, (), s0_2, s0_0, ()), (v.2.1, ())) (K (.exit 0))) n v.1.2.2.2.2.2.1 v.1.2.2.2.2.2.2.2.2.1 v.1.2.2.2.2.1
def zc7 (av : AV) (x : HP z0z.ps) : Hdl (CR z0z) := hnd [] ze2 (y2r av x)
theorem y32 : LP z0z Try.f114 [0] zc7 := lp_ok (W := []) (H := []) (xs := [z9t]) zk5 trivial rfl (fun av x v K => by kernel_rfl) (fun av x n v K => by kernel_rfl)
theorem zn1 : z0z.Ok Try.prog := fn_ok (k := z0z) (fn := Try.f114) (W := []) (H := [zc7]) Try.func114 zk5 ⟨y32, trivial⟩ rfl rfl (fun av x => by kernel_rfl)
def za8 (n : GNet) (marks : List Int) (busy : List GItem) (t : Int) : Option Bool := (z6p n marks).bind fun x1 => (if x1 = true then ((z24 n busy).bind fun x3 => (if x3 = true then ((z0l n t).bind fun x5 => (if x5 = true then ((z49 n marks busy t).bind fun x7 => (some x7)) else (some false))) else (some false))) else (some false))
def zr0 : Con := ⟨78, [.v (.s .net) false, .v (.sl .I) false, .v (.sl (.s .item)) false, .v .I false], [(.B, true)], [], fun x => za8 x.1 x.2.1 x.2.2.1 x.2.2.2.1⟩
def yn1 : Fs := ⟨[z93, z0e, z1o, z0z], [], []⟩
theorem yp1 : yn1.Ok Try.prog := (fsK y08 (fsK z60 (fsK z40 (fsK zn1 fs0))))
theorem yr6 : zr0.Ok Try.prog := fn_ok (k := zr0) (fn := Try.f78) (W := []) (H := []) Try.func78 yp1 trivial rfl rfl (fun av x => by kernel_rfl)
def z78 (l0_1 : List Int) : Option (List Int) := some l0_1
def z1y (n : GNet) (marks : List Int) (busy : List GItem) (p0_0 : Int) (kx0_0 : List Int → Option (List Int)) : Nat → Int → List Int → Option (List Int)
  | 0, _, _ => none
  | n0 + 1, s0_0, l0_1 => if decide (s0_0 < p0_0) = true then ((z49 n marks busy s0_0).bind fun x6 => (if x6 = true then (gd (l0_1.length + [s0_0].length ≤ SMALL) (gd (ok64 (s0_0 + 1)) ((z1y n marks busy p0_0 kx0_0 n0) (s0_0 + 1) (l0_1 ++ [s0_0])))) else (gd (ok64 (s0_0 + 1)) ((z1y n marks busy p0_0 kx0_0 n0) (s0_0 + 1) l0_1)))) else (kx0_0 l0_1)
def z77 (n : GNet) (marks : List Int) (busy : List GItem) : Option (List Int) := (z6p n marks).bind fun x1 => (if x1 = true then ((z24 n busy).bind fun x3 => (if x3 = true then (z1y n marks busy (n.tasks.length : Int) z78 FUEL 0 ([] : List Int)) else (some []))) else (some []))
def z1v : Con := ⟨74, [.v (.s .net) false, .v (.sl .I) false, .v (.sl (.s .item)) false], [((.sl .I), true)], [], fun x => z77 x.1 x.2.1 x.2.2.1⟩
def y8t : Fs := ⟨[z93, z0e, z0z], [], []⟩
theorem zx8 : y8t.Ok Try.prog := (fsK y08 (fsK z60 (fsK zn1 fs0)))
def zn6 : Tmpl := ⟨[(1, .c (.s .I)), (2, .c (.s (.s .item))), (3, .c (.bx 3 0)), (7, .c (.ref 500007)), (21, .c .i), (22, .c .i)], [(3, .boxT (.s .net)), (500007, .arr .I true)]⟩
def zg9 : Tmpl := ⟨[(7, .c (.ref 500007))], [(500007, .arr .I true)]⟩
def y4p (av : AV) (x : HP z1v.ps) (n : Nat) (v : zn6.den) (K : Ks (CR z1v)) : Option (CR z1v) := z1y v.2.1 v.1.1 v.1.2.1 v.1.2.2.2.2.1 (fun l0_1 => zg9.at none (((), ()), (l0_1, ())) (K (.exit 0))) n v.1.2.2.2.2.2.1 v.2.2.1
def zk7 (av : AV) (x : HP z1v.ps) : Hdl (CR z1v) := hnd [.e 7 500007 .I] zn6 (y4p av x)
theorem y5h : LP z1v Try.f74 [0] zk7 := lp_ok (W := []) (H := []) (xs := [zg9]) zx8 trivial rfl (fun av x v K => by kernel_rfl) (fun av x n v K => by kernel_rfl)
theorem y9s : z1v.Ok Try.prog := fn_ok (k := z1v) (fn := Try.f74) (W := []) (H := [zk7]) Try.func74 zx8 ⟨y5h, trivial⟩ rfl rfl (fun av x => by kernel_rfl)
def z96 (l0_1 : List Int) (x4 : Int) (x7 : Int) : Option (List Int) := some (l0_1.set x4.toNat (x7 - 1))
def z97 (l0_1 : List Int) : Option (List Int) := some l0_1
def z17 (n : GNet) (t : Int) (p0_0 : List Int) (p0_1 : Int) (kx0_0 : List Int → Int → Int → Option (List Int)) (kx0_1 : List Int → Option (List Int)) : Nat → Int → List Int → Option (List Int)
  | 0, _, _ => none
  | n0 + 1, s0_0, l0_1 => if decide (s0_0 < p0_1) = true then ((getI p0_0 s0_0).bind fun x4 => ((getI l0_1 x4).bind fun x5 => (if decide (0 < x5) = true then ((getI l0_1 x4).bind fun x7 => (gd (ok64 (x7 - 1)) ((getI l0_1 x4).bind fun x9 => ((getI n.tasks t).bind fun x10 => (if decide (x10.join = 2) = true then (kx0_0 l0_1 x4 x7) else (gd (ok64 (s0_0 + 1)) ((z17 n t p0_0 p0_1 kx0_0 kx0_1 n0) (s0_0 + 1) (l0_1.set x4.toNat (x7 - 1))))))))) else (gd (ok64 (s0_0 + 1)) ((z17 n t p0_0 p0_1 kx0_0 kx0_1 n0) (s0_0 + 1) l0_1))))) else (kx0_1 l0_1)
def z4z (n : GNet) (marks : List Int) (t : Int) : Option (List Int) := (z3m marks).bind fun x1 => ((getI n.tasks t).bind fun x2 => (z17 n t x2.in_ (x2.in_.length : Int) z96 z97 FUEL 0 x1))
def z11 : Con := ⟨80, [.v (.s .net) false, .v (.sl .I) false, .v .I false], [((.sl .I), true)], [], fun x => z4z x.1 x.2.1 x.2.2.1⟩
def y3l : Fs := ⟨[z6e], [], []⟩
theorem ze9 : y3l.Ok Try.prog := (fsK zu6 fs0)
def z9q : Tmpl := ⟨[(2, .c .i), (3, .c (.bx 3 0)), (7, .c (.ref 11)), (17, .c (.s .I)), (18, .c .i), (19, .c .i)], [(3, .boxT (.s .net)), (11, .arr .I true)]⟩
def z5i : Tmpl := ⟨[(7, .c (.ref 11))], [(11, .arr .I true)]⟩
def y1d (av : AV) (x : HP z11.ps) (n : Nat) (v : z9q.den) (K : Ks (CR z11)) : Option (CR z11) := z17 v.2.1 v.1.1 v.1.2.2.2.1 v.1.2.2.2.2.1 (fun l0_1 x4 x7 => z5i.at none (((), ()), ((l0_1.set x4.toNat (x7 - 1)), ())) (K (.exit 0))) (fun l0_1 => z5i.at none (((), ()), (l0_1, ())) (K (.exit 0))) n v.1.2.2.2.2.2.1 v.2.2.1
def z9m (av : AV) (x : HP z11.ps) : Hdl (CR z11) := hnd [] z9q (y1d av x)
theorem y1m : LP z11 Try.f80 [0] z9m := lp_ok (W := []) (H := []) (xs := [z5i]) ze9 trivial rfl (fun av x v K => by kernel_rfl) (fun av x n v K => by kernel_rfl)
theorem y42 : z11.Ok Try.prog := fn_ok (k := z11) (fn := Try.f80) (W := []) (H := [z9m]) Try.func80 ze9 ⟨y1m, trivial⟩ rfl rfl (fun av x => by kernel_rfl)
def zj1 (n : Int) : Option Bool := (z0w n 0 7).bind fun x1 => (some (!x1))
def zj6 : FCon := ⟨165, .I, [], fun z c => zj1 z ⟩
def ye0 : Fs := ⟨[z2u], [], []⟩
theorem yf9 : ye0.Ok Try.prog := (fsK z3h fs0)
theorem yh8 : zj6.Ok Try.prog := FCon.ok (fn_ok (k := zj6.con) (fn := Try.f165) (W := []) (H := []) Try.func165 yf9 trivial rfl rfl (fun av x => by kernel_rfl))
def z99 (people : List Int) : Option Bool := (z0w (people.length : Int) 1 4).bind fun x1 => (if x1 = true then ((z1l people (fun z => zj1 z )).bind fun x3 => (some (!x3))) else (some false))
def zf3 : Con := ⟨149, [.v (.sl .I) false], [(.B, true)], [], fun x => z99 x.1⟩
def yx4 : Fs := ⟨[z2u, z37], [zj6], []⟩
theorem yz3 : yx4.Ok Try.prog := (fsK z3h (fsK z4w (fsF yh8 fs0)))
theorem y6q : zf3.Ok Try.prog := fn_ok (k := zf3) (fn := Try.f149) (W := []) (H := []) Try.func149 yz3 trivial rfl rfl (fun av x => by kernel_rfl)
def zb0 (people : List Int) (who : Int) (role : Int) : Option Bool := (z99 people).bind fun x1 => (if x1 = true then ((z0w who 1 (people.length : Int)).bind fun x3 => (if x3 = true then ((z7b role).bind fun x5 => (if x5 = true then (gd (ok64 (who - 1)) ((getI people (who - 1)).bind fun x8 => (gd (ok64 (role - 1)) (gd ((0 : Int) ≤ (role - 1) ∧ (role - 1) ≤ (63 : Int)) (some (decide ((andI (shrI x8 (role - 1)) 1) = 1))))))) else (some false))) else (some false))) else (some false))
def zr2 : Con := ⟨119, [.v (.sl .I) false, .v .I false, .v .I false], [(.B, true)], [], fun x => zb0 x.1 x.2.1 x.2.2.1⟩
def yn3 : Fs := ⟨[zf3, z2u, za2], [], []⟩
theorem yp3 : yn3.Ok Try.prog := (fsK y6q (fsK z3h (fsK y44 fs0)))
theorem yr8 : zr2.Ok Try.prog := fn_ok (k := zr2) (fn := Try.f119) (W := []) (H := []) Try.func119 yp3 trivial rfl rfl (fun av x => by kernel_rfl)
def za9 (did : List GDid) (who : Int) (task : Int) : Option Bool := (zd5 did (GDid.mk task who)).bind fun x1 => (some x1)
def zr1 : Con := ⟨120, [.v (.sl (.s .did)) false, .v .I false, .v .I false], [(.B, true)], [], fun x => za9 x.1 x.2.1 x.2.2.1⟩
def yn2 : Fs := ⟨[zd1], [], []⟩
theorem yp2 : yn2.Ok Try.prog := (fsK y9q fs0)
theorem yr7 : zr1.Ok Try.prog := fn_ok (k := zr1) (fn := Try.f120) (W := []) (H := []) Try.func120 yp2 trivial rfl rfl (fun av x => by kernel_rfl)
def z8k (l0_1 : List Int) : Option (List Int) := some l0_1
def z2d (p : Int → Option Bool) (p0_0 : Int) (kx0_0 : List Int → Option (List Int)) : Nat → Int → List Int → Option (List Int)
  | 0, _, _ => none
  | n0 + 1, s0_0, l0_1 => if decide (s0_0 < p0_0) = true then (gd (ok64 (s0_0 + 1)) ((p (s0_0 + 1)).bind fun x5 => (if x5 = true then (gd (ok64 (s0_0 + 1)) (gd (l0_1.length + [(s0_0 + 1)].length ≤ SMALL) (gd (ok64 (s0_0 + 1)) ((z2d p p0_0 kx0_0 n0) (s0_0 + 1) (l0_1 ++ [(s0_0 + 1)]))))) else (gd (ok64 (s0_0 + 1)) ((z2d p p0_0 kx0_0 n0) (s0_0 + 1) l0_1))))) else (kx0_0 l0_1)
def zj2 (people : List Int) (p : Int → Option Bool) : Option (List Int) := (z99 people).bind fun x1 => (if x1 = true then (z2d p (people.length : Int) z8k FUEL 0 ([] : List Int)) else (some []))
def z1s : Con := ⟨115, [.v (.sl .I) false, .fn .I], [((.sl .I), true)], [], fun x => zj2 x.1 x.2.1⟩
def ye3 : Fs := ⟨[zf3], [], []⟩
theorem y1s : ye3.Ok Try.prog := (fsK y6q fs0)
def zu8 : Tmpl := ⟨[(1, .c .fp), (5, .c (.ref 500005)), (11, .c .i), (12, .c .i)], [(500005, .arr .I true)]⟩
def zo8 : Tmpl := ⟨[(5, .c (.ref 500005))], [(500005, .arr .I true)]⟩
def y71 (av : AV) (x : HP z1s.ps) (n : Nat) (v : zu8.den) (K : Ks (CR z1s)) : Option (CR z1s) := z2d x.2.1 v.1.2.2.1 (fun l0_1 => zo8.at (fpOf z1s.ps x av) (((), ()), (l0_1, ())) (K (.exit 0))) n v.1.2.2.2.1 v.2.1
def zt2 (av : AV) (x : HP z1s.ps) : Hdl (CR z1s) := hnd [.e 5 500005 .I] zu8 (y71 av x)
theorem y7l : LP z1s Try.f115 [0] zt2 := lp_ok (W := []) (H := []) (xs := [zo8]) y1s trivial rfl (fun av x v K => by kernel_rfl) (fun av x n v K => by kernel_rfl)
theorem yi0 : z1s.Ok Try.prog := fn_ok (k := z1s) (fn := Try.f115) (W := []) (H := [zt2]) Try.func115 y1s ⟨y7l, trivial⟩ rfl rfl (fun av x => by kernel_rfl)
def z8j (b : GItem) (task : GTask) (who : Int) : Option Bool := if decide (b.task = task.apart) = true then (some (decide (b.who = who))) else (some false)
def z8m : FCon := ⟨118, (.s .item), [(.s .task), .I], fun z c => z8j z c.1 c.2.1⟩
def y55 : Fs := ⟨[], [], []⟩
theorem y5b : y55.Ok Try.prog := fs0
theorem y5w : z8m.Ok Try.prog := FCon.ok (fn_ok (k := z8m.con) (fn := Try.f118) (W := []) (H := []) Try.func118 y5b trivial rfl rfl (fun av x => by kernel_rfl))
def z5c (who : Int) (busy : List GItem) (task : GTask) (people : List Int) (did : List GDid) : Option Bool := (z42 busy (fun z => z8j z task who)).bind fun x1 => ((zb0 people who task.role).bind fun x2 => (if x2 = true then (if x1 = true then (some false) else ((za9 did who task.apart).bind fun x5 => (some (!x5)))) else (some false)))
def zd9 : FCon := ⟨116, .I, [(.sl (.s .item)), (.s .task), (.sl .I), (.sl (.s .did))], fun z c => z5c z c.1 c.2.1 c.2.2.1 c.2.2.2.1⟩
def y8u : Fs := ⟨[z5x, zr2, zr1], [z8m], []⟩
theorem y9a : y8u.Ok Try.prog := (fsK y1n (fsK yr8 (fsK yr7 (fsF y5w fs0))))
theorem y9t : zd9.Ok Try.prog := FCon.ok (fn_ok (k := zd9.con) (fn := Try.f116) (W := []) (H := []) Try.func116 y9a trivial rfl rfl (fun av x => by kernel_rfl))
def z7a (n : GNet) (people : List Int) (did : List GDid) (busy : List GItem) (t : Int) : Option (List Int) := (z98 n).bind fun x1 => (if x1 = true then ((z0l n t).bind fun x3 => (if x3 = true then ((getI n.tasks t).bind fun x5 => ((zj2 people (fun z => z5c z busy x5 people did)).bind fun x6 => (some x6))) else (some []))) else (some []))
def za1 : Con := ⟨75, [.v (.s .net) false, .v (.sl .I) false, .v (.sl (.s .did)) false, .v (.sl (.s .item)) false, .v .I false], [((.sl .I), true)], [], fun x => z7a x.1 x.2.1 x.2.2.1 x.2.2.2.1 x.2.2.2.2.1⟩
def yn4 : Fs := ⟨[zf2, z1o, z1s], [zd9], []⟩
theorem yp4 : yn4.Ok Try.prog := (fsK y6p (fsK z40 (fsK yi0 (fsF y9t fs0))))
theorem y43 : za1.Ok Try.prog := fn_ok (k := za1) (fn := Try.f75) (W := []) (H := []) Try.func75 yp4 trivial rfl rfl (fun av x => by kernel_rfl)
def z76 (c : GCase) : Option Bool := if decide (c.state = 1) = true then ((getI c.marks 1).bind fun x16 => (some (decide (x16 = 0)))) else (if decide (c.state = 2) = true then (if decide ((c.busy.length : Int) = 0) = true then ((getI c.marks 1).bind fun x19 => (some ((decide (c.state = 2)) == (decide (0 < x19))))) else (some false)) else (if decide (c.state = 3) = true then (if decide ((c.busy.length : Int) = 0) = true then ((getI c.marks 1).bind fun x22 => (some ((decide (c.state = 2)) == (decide (0 < x22))))) else (some false)) else (some false)))
def z47 (n : GNet) (p0_0 : List GDid) (p0_1 : Int) (kx0_0 : Option Bool) : Nat → Int → Option Bool
  | 0, _ => none
  | n0 + 1, s0_0 => if decide (s0_0 < p0_1) = true then ((getI p0_0 s0_0).bind fun x9 => ((z0l n x9.task).bind fun x10 => (if x10 = true then ((z5d x9.who).bind fun x12 => (if x12 = true then (gd (ok64 (s0_0 + 1)) ((z47 n p0_0 p0_1 kx0_0 n0) (s0_0 + 1))) else (some false))) else (some false)))) else (kx0_0)
def zf6 (n : GNet) (c : GCase) : Option Bool := (z6p n c.marks).bind fun x1 => (if x1 = true then ((z24 n c.busy).bind fun x3 => (if x3 = true then ((z94 c.data).bind fun x5 => (if x5 = true then (if decide (60 < (c.did.length : Int)) = true then (some false) else (z47 n c.did (c.did.length : Int) (z76 c) FUEL 0)) else (some false))) else (some false))) else (some false))
def z3s : Con := ⟨13, [.v (.s .net) false, .v (.s .kase) false], [(.B, true)], [], fun x => zf6 x.1 x.2.1⟩
def yw9 : Fs := ⟨[z93, z0e, zf1, z1o, z75], [], []⟩
theorem y68 : yw9.Ok Try.prog := (fsK y08 (fsK z60 (fsK y6o (fsK z40 (fsK y0c fs0)))))
def y2g : Tmpl := ⟨[(2, .c (.bx 2 0)), (3, .c (.bx 3 0)), (32, .c (.s (.s .did))), (33, .c .i), (34, .c .i)], [(2, .boxT (.s .net)), (3, .boxT (.s .kase))]⟩
def y0v : Tmpl := ⟨[(3, .c (.bx 3 0))], [(3, .boxT (.s .kase))]⟩
def yc9 (av : AV) (x : HP z3s.ps) (n : Nat) (v : y2g.den) (K : Ks (CR z3s)) : Option (CR z3s) := z47 v.2.1 v.1.2.2.1 v.1.2.2.2.1 (y0v.at none (((), ()), (v.2.2.1, ())) (K (.exit 0))) n v.1.2.2.2.2.1
def y20 (av : AV) (x : HP z3s.ps) : Hdl (CR z3s) := hnd [] y2g (yc9 av x)
theorem yg7 : LP z3s Try.f13 [0] y20 := lp_ok (W := []) (H := []) (xs := [y0v]) y68 trivial rfl (fun av x v K => by kernel_rfl) (fun av x n v K => by kernel_rfl)
theorem w09 : z3s.Ok Try.prog := fn_ok (k := z3s) (fn := Try.f13) (W := []) (H := [y20]) Try.func13 y68 ⟨yg7, trivial⟩ rfl rfl (fun av x => by kernel_rfl)
def z66 (n : GNet) (c : GCase) : Option Bool := (zf6 n c).bind fun x1 => (if x1 = true then (some (decide (c.state = 1))) else (some false))
def z8q : Con := ⟨58, [.v (.s .net) false, .v (.s .kase) false], [(.B, true)], [], fun x => z66 x.1 x.2.1⟩
def ye4 : Fs := ⟨[z3s], [], []⟩
theorem yg1 : ye4.Ok Try.prog := (fsK w09 fs0)
theorem y2d : z8q.Ok Try.prog := fn_ok (k := z8q) (fn := Try.f58) (W := []) (H := []) Try.func58 yg1 trivial rfl rfl (fun av x => by kernel_rfl)
def z5b (n : GNet) (people : List Int) (c : GCase) (t : Int) (who : Int) : Option (GCase × Bool) := (z23 c).bind fun x1 => ((z66 n c).bind fun x2 => (if x2 = true then (if decide ((c.busy.length : Int) = 6) = true then (some (x1, false)) else ((za8 n c.marks c.busy t).bind fun x5 => (if x5 = true then ((z7a n people c.did c.busy t).bind fun x7 => ((z6n x7 who).bind fun x8 => (if x8 = true then ((z4z n c.marks t).bind fun x10 => (gd (x1.busy.length + [(GItem.mk t who 0)].length ≤ SMALL) ((z23 (GCase.mk x1.state x10 (x1.busy ++ [(GItem.mk t who 0)]) x1.data x1.did)).bind fun x12 => (some (x12, true))))) else (some (x1, false))))) else (some (x1, false))))) else (some (x1, false))))
def zd2 : Con := ⟨35, [.v (.s .net) false, .v (.sl .I) false, .v (.s .kase) false, .v .I false, .v .I false], [((.s .kase), true), (.B, true)], [], fun x => z5b x.1 x.2.1 x.2.2.1 x.2.2.2.1 x.2.2.2.2.1⟩
def y8s : Fs := ⟨[z5z, z8q, zr0, za1, z92, z11], [], []⟩
theorem y99 : y8s.Ok Try.prog := (fsK y1p (fsK y2d (fsK yr6 (fsK y43 (fsK y07 (fsK y42 fs0))))))
theorem y9r : zd2.Ok Try.prog := fn_ok (k := zd2) (fn := Try.f35) (W := []) (H := []) Try.func35 y99 trivial rfl rfl (fun av x => by kernel_rfl)
def z6f (s0_0 : Int) (s0_1 : Int) (bk0 : Int → Int → List GDid → Option (List GDid)) (l1_1 : List GDid) : Option (List GDid) := gd (ok64 (s0_1 + 1)) (bk0 s0_0 (s0_1 + 1) l1_1)
def z3l (x6 : Int) (x7 : (List Int)) (p1_0 : Int) (kx1_0 : List GDid → Option (List GDid)) : Nat → Int → List GDid → Option (List GDid)
  | 0, _, _ => none
  | n1 + 1, s1_0, l1_1 => if decide (s1_0 < p1_0) = true then ((getI x7 s1_0).bind fun x9 => (gd (l1_1.length + [(GDid.mk x6 x9)].length ≤ SMALL) (gd (ok64 (s1_0 + 1)) ((z3l x6 x7 p1_0 kx1_0 n1) (s1_0 + 1) (l1_1 ++ [(GDid.mk x6 x9)]))))) else (kx1_0 l1_1)
def z4s (l0_2 : List GDid) : Option (List GDid) := some l0_2
def z28 (n : GNet) (people : List Int) (c : GCase) (x4 : (List Int)) (kx0_0 : List GDid → Option (List GDid)) : Nat → Int → Int → List GDid → Option (List GDid)
  | 0, _, _, _ => none
  | n0 + 1, s0_0, s0_1, l0_2 => if decide (s0_1 < s0_0) = true then ((getI x4 s0_1).bind fun x6 => ((z7a n people c.did c.busy x6).bind fun x7 => (z3l x6 x7 (x7.length : Int) (z6f s0_0 s0_1 (z28 n people c x4 kx0_0 n0)) FUEL 0 l0_2))) else (kx0_0 l0_2)
def za7 (n : GNet) (people : List Int) (c : GCase) : Option (List GDid) := (z66 n c).bind fun x1 => (if x1 = true then (if decide ((c.busy.length : Int) = 6) = true then (some []) else ((z77 n c.marks c.busy).bind fun x4 => (z28 n people c x4 z4s FUEL (x4.length : Int) 0 ([] : List GDid)))) else (some []))
def z0s : Con := ⟨33, [.v (.s .net) false, .v (.sl .I) false, .v (.s .kase) false], [((.sl (.s .did)), true)], [], fun x => za7 x.1 x.2.1 x.2.2.1⟩
def yn0 : Fs := ⟨[z8q, z1v, za1], [], []⟩
theorem zq4 : yn0.Ok Try.prog := (fsK y2d (fsK y9s (fsK y43 fs0)))
def zn5 : Tmpl := ⟨[(1, .c (.s .I)), (3, .c (.bx 3 0)), (5, .c (.bx 5 0)), (7, .c (.ref 500007)), (9, .c .i), (27, .c (.ref 27)), (28, .c .i), (29, .c .i), (40, .c (.ref 40)), (41, .c .i), (42, .c .i)], [(3, .boxT (.s .net)), (5, .boxT (.s .kase)), (500007, .arr (.s .did) true), (27, .arr .I true), (40, .arr .I true)]⟩
def zg8 : Tmpl := ⟨[(1, .c (.s .I)), (3, .c (.bx 3 0)), (5, .c (.bx 5 0)), (7, .c (.ref 500007)), (27, .c (.ref 27)), (28, .c .i), (29, .c .i)], [(3, .boxT (.s .net)), (5, .boxT (.s .kase)), (500007, .arr (.s .did) true), (27, .arr .I true)]⟩
def y4o (av : AV) (x : HP z0s.ps) (n : Nat) (v : zn5.den) (K : Ks (CR z0s)) : Option (CR z0s) := z3l v.1.2.2.2.2.1 v.2.2.2.2.2.1 v.1.2.2.2.2.2.2.2.2.2.1 (fun l1_1 => zg8.at none ((v.1.1, (), (), (), (), v.1.2.2.2.2.2.2.1, v.1.2.2.2.2.2.2.2.1, ()), (v.2.1, v.2.2.1, l1_1, v.2.2.2.2.1, ())) (K (.exit 2))) n v.1.2.2.2.2.2.2.2.2.2.2.1 v.2.2.2.1
def zk6 (av : AV) (x : HP z0s.ps) : Hdl (CR z0s) := hnd [] zn5 (y4o av x)
theorem y5g : LP z0s Try.f33 [0, 0] zk6 := lp_ok (W := []) (H := []) (xs := [zg8]) zq4 trivial rfl (fun av x v K => by kernel_rfl) (fun av x n v K => by kernel_rfl)
def y0n : Tmpl := ⟨[(1, .c (.s .I)), (3, .c (.bx 3 0)), (5, .c (.bx 5 0)), (7, .c (.ref 500007)), (27, .c (.ref 27)), (28, .c .i), (29, .c .i)], [(3, .boxT (.s .net)), (5, .boxT (.s .kase)), (500007, .arr (.s .did) true), (27, .arr .I true)]⟩
def zv9 : Tmpl := ⟨[(7, .c (.ref 500007))], [(500007, .arr (.s .did) true)]⟩
def y8e (av : AV) (x : HP z0s.ps) (n : Nat) (v : y0n.den) (K : Ks (CR z0s)) : Option (CR z0s) := z28 v.2.1 v.1.1 v.2.2.1 v.2.2.2.2.1 (fun l0_2 => zv9.at none (((), ()), (l0_2, ())) (K (.exit 0))) n v.1.2.2.2.2.2.1 v.1.2.2.2.2.2.2.1 v.2.2.2.1
def zy6 (av : AV) (x : HP z0s.ps) : Hdl (CR z0s) := hnd [.e 7 500007 (.s .did)] y0n (y8e av x)
theorem y9i : LP z0s Try.f33 [0] zy6 := lp_ok (W := []) (H := [zk6]) (xs := [zv9]) zq4 ⟨y5g, trivial⟩ rfl (fun av x v K => by kernel_rfl) (fun av x n v K => by kernel_rfl)
theorem yr5 : z0s.Ok Try.prog := fn_ok (k := z0s) (fn := Try.f33) (W := []) (H := [zy6]) Try.func33 zq4 ⟨y9i, trivial⟩ rfl rfl (fun av x => by kernel_rfl)
def z6g (s0_0 : Int) (bk0 : Int → List GDid → Option (List GDid)) (l1_1 : List GDid) : Option (List GDid) := gd (ok64 (s0_0 + 1)) (bk0 (s0_0 + 1) l1_1)
def z3n (x5 : (List Int)) (s0_0 : Int) (x8 : (List Int)) (kx1_0 : List GDid → Option (List GDid)) : Nat → Int → List GDid → Option (List GDid)
  | 0, _, _ => none
  | n1 + 1, s1_0, l1_1 => if decide (s1_0 < (x8.length : Int)) = true then ((getI x5 s0_0).bind fun x10 => ((getI x8 s1_0).bind fun x11 => (gd (l1_1.length + [(GDid.mk x10 x11)].length ≤ SMALL) (gd (ok64 (s1_0 + 1)) ((z3n x5 s0_0 x8 kx1_0 n1) (s1_0 + 1) (l1_1 ++ [(GDid.mk x10 x11)])))))) else (kx1_0 l1_1)
def z4t (l0_1 : List GDid) : Option (List GDid) := some l0_1
def z29 (n : GNet) (people : List Int) (c : GCase) (x5 : (List Int)) (kx0_0 : List GDid → Option (List GDid)) : Nat → Int → List GDid → Option (List GDid)
  | 0, _, _ => none
  | n0 + 1, s0_0, l0_1 => if decide (s0_0 < (x5.length : Int)) = true then ((getI x5 s0_0).bind fun x7 => ((z4p n people c.did c.busy x7).bind fun x8 => (z3n x5 s0_0 x8 (z6g s0_0 (z29 n people c x5 kx0_0 n0)) FUEL 0 l0_1))) else (kx0_0 l0_1)
def zb2 (n : GNet) (people : List Int) (c : GCase) : Option (List GDid) := (z6q n c).bind fun x1 => (if x1 = true then (if decide (c.state = 1) = true then (if decide ((c.busy.length : Int) = 6) = true then (some ([] : List GDid)) else ((z4d n c.marks c.busy).bind fun x5 => (z29 n people c x5 z4t FUEL 0 ([] : List GDid)))) else (some ([] : List GDid))) else (some ([] : List GDid)))
def z0t : Con := ⟨34, [.v (.s .net) false, .v (.sl .I) false, .v (.s .kase) false], [((.sl (.s .did)), true)], [], fun x => zb2 x.1 x.2.1 x.2.2.1⟩
def yn7 : Fs := ⟨[z2v, z1k, z0k], [], []⟩
theorem zq7 : yn7.Ok Try.prog := (fsK y0e (fsK y0f (fsK zs6 fs0)))
def zn8 : Tmpl := ⟨[(1, .c (.s .I)), (3, .c (.bx 3 0)), (5, .c (.bx 5 0)), (7, .c (.ref 12)), (8, .c (.ref 34)), (9, .c .i), (10, .c (.ref 51)), (11, .c .i)], [(3, .boxT (.s .net)), (5, .boxT (.s .kase)), (12, .arr (.s .did) true), (34, .arr .I true), (51, .arr .I true)]⟩
def zh1 : Tmpl := ⟨[(1, .c (.s .I)), (3, .c (.bx 3 0)), (5, .c (.bx 5 0)), (7, .c (.ref 12)), (8, .c (.ref 34)), (9, .c .i)], [(3, .boxT (.s .net)), (5, .boxT (.s .kase)), (12, .arr (.s .did) true), (34, .arr .I true)]⟩
def y4r (av : AV) (x : HP z0t.ps) (n : Nat) (v : zn8.den) (K : Ks (CR z0t)) : Option (CR z0t) := z3n v.2.2.2.2.1 v.1.2.2.2.2.2.1 v.2.2.2.2.2.1 (fun l1_1 => zh1.at none ((v.1.1, (), (), (), (), v.1.2.2.2.2.2.1, ()), (v.2.1, v.2.2.1, l1_1, v.2.2.2.2.1, ())) (K (.exit 2))) n v.1.2.2.2.2.2.2.2.1 v.2.2.2.1
def zk9 (av : AV) (x : HP z0t.ps) : Hdl (CR z0t) := hnd [] zn8 (y4r av x)
theorem y5j : LP z0t Try.f34 [0, 0] zk9 := lp_ok (W := []) (H := []) (xs := [zh1]) zq7 trivial rfl (fun av x v K => by kernel_rfl) (fun av x n v K => by kernel_rfl)
def y0o : Tmpl := ⟨[(1, .c (.s .I)), (3, .c (.bx 3 0)), (5, .c (.bx 5 0)), (7, .c (.ref 12)), (8, .c (.ref 34)), (9, .c .i)], [(3, .boxT (.s .net)), (5, .boxT (.s .kase)), (12, .arr (.s .did) true), (34, .arr .I true)]⟩
def zw0 : Tmpl := ⟨[(7, .c (.ref 12))], [(12, .arr (.s .did) true)]⟩
def y8f (av : AV) (x : HP z0t.ps) (n : Nat) (v : y0o.den) (K : Ks (CR z0t)) : Option (CR z0t) := z29 v.2.1 v.1.1 v.2.2.1 v.2.2.2.2.1 (fun l0_1 => zw0.at none (((), ()), (l0_1, ())) (K (.exit 0))) n v.1.2.2.2.2.2.1 v.2.2.2.1
def zy7 (av : AV) (x : HP z0t.ps) : Hdl (CR z0t) := hnd [] y0o (y8f av x)
theorem y9j : LP z0t Try.f34 [0] zy7 := lp_ok (W := []) (H := [zk9]) (xs := [zw0]) zq7 ⟨y5j, trivial⟩ rfl (fun av x v K => by kernel_rfl) (fun av x n v K => by kernel_rfl)
theorem ys0 : z0t.Ok Try.prog := fn_ok (k := z0t) (fn := Try.f34) (W := []) (H := [zy7]) Try.func34 zq7 ⟨y9j, trivial⟩ rfl rfl (fun av x => by kernel_rfl)
def z8v (code : List Int) : Option GRd := if decide (2000 < (code.length : Int)) = true then (gd ((0 : Int) ≤ 2000 ∧ 2000 ≤ (code.length : Int)) (some (GRd.mk (code.take (2000 : Int).toNat) 0))) else (some (GRd.mk code 0))
def y2a : BCon := ⟨49, fun x => z8v x⟩
def yf1 : Fs := ⟨[], [], []⟩
theorem yg4 : yf1.Ok Try.prog := fs0
theorem yi7 : y2a.Ok Try.prog := wa2 (fn := Try.f49) Try.func49 yg4 rfl rfl rfl rfl rfl (fun l => by kernel_rfl)
def z07 (r : GRd) (n : Int) : Option (Int × GRd) := gd (ok64 (r.p + 1)) (if decide (n < 1) = true then (some (0, (GRd.mk r.b (r.p + 1)))) else (if decide ((r.b.length : Int) = 0) = true then (some (0, (GRd.mk r.b (r.p + 1)))) else (gd (ok64 ((r.p + 1) - 1)) (if decide (((r.p + 1) - 1) < (r.b.length : Int)) = true then ((getI r.b ((r.p + 1) - 1)).bind fun x6 => (gd (ok64 x6) (gd ((n : Int) ≠ 0) (some ((Int.tmod x6 n), (GRd.mk r.b (r.p + 1))))))) else (gd (((r.b.length : Int) : Int) ≠ 0) ((getI r.b (Int.tmod ((r.p + 1) - 1) (r.b.length : Int))).bind fun x10 => (gd (ok64 x10) (gd (ok64 (x10 * 131)) (gd (ok64 (((r.p + 1) - 1) * 7)) (gd (ok64 ((((r.p + 1) - 1) * 7) + 3)) (gd (((r.b.length : Int) : Int) ≠ 0) ((getI r.b (Int.tmod ((((r.p + 1) - 1) * 7) + 3) (r.b.length : Int))).bind fun x16 => (gd (ok64 x16) (gd (ok64 (x16 * 1117)) (gd (ok64 ((x10 * 131) + (x16 * 1117))) (gd (ok64 (((r.p + 1) - 1) * 29)) (gd (ok64 (((x10 * 131) + (x16 * 1117)) + (((r.p + 1) - 1) * 29))) (gd (((r.b.length : Int) : Int) ≠ 0 ∧ ok64 (Int.tdiv ((r.p + 1) - 1) (r.b.length : Int))) (gd (ok64 ((Int.tdiv ((r.p + 1) - 1) (r.b.length : Int)) * 53)) (gd (ok64 ((((x10 * 131) + (x16 * 1117)) + (((r.p + 1) - 1) * 29)) + ((Int.tdiv ((r.p + 1) - 1) (r.b.length : Int)) * 53))) (gd ((64 : Int) ≠ 0 ∧ ok64 (Int.tdiv ((((x10 * 131) + (x16 * 1117)) + (((r.p + 1) - 1) * 29)) + ((Int.tdiv ((r.p + 1) - 1) (r.b.length : Int)) * 53)) 64)) (gd ((n : Int) ≠ 0) (some ((Int.tmod (xorI ((((x10 * 131) + (x16 * 1117)) + (((r.p + 1) - 1) * 29)) + ((Int.tdiv ((r.p + 1) - 1) (r.b.length : Int)) * 53)) (Int.tdiv ((((x10 * 131) + (x16 * 1117)) + (((r.p + 1) - 1) * 29)) + ((Int.tdiv ((r.p + 1) - 1) (r.b.length : Int)) * 53)) 64)) n), (GRd.mk r.b (r.p + 1))))))))))))))))))))))))))
def zl8 : Con := ⟨65, [.ptr (.s .rd) false, .v .I false], [(.I, true)], [(0, .ptr (.s .rd) false)], fun x => z07 x.1 x.2.1⟩
def we7 : Fs := ⟨[], [], []⟩
theorem we8 : we7.Ok Try.prog := fs0
theorem y0d : zl8.Ok Try.prog := fn_ok (k := zl8) (fn := Try.f65) (W := []) (H := []) Try.func65 we8 trivial rfl rfl (fun av x => by kernel_rfl)
def z5s (n : Int) (s0_0 : List Int) (s0_1 : Int) (l0_3 : List Int) : Option ((List Int) × GRd) := (z07 (GRd.mk s0_0 s0_1) n).bind fun x7 => (if decide (x7.1 = 0) = true then ((z07 x7.2 3).bind fun x9 => (if decide (x9.1 = 0) = true then ((z07 x9.2 3).bind fun x11 => ((z07 x11.2 4).bind fun x12 => ((getI [100, (-100), 9223372036854775807, (-9223372036854775808)] x12.1).bind fun x13 => ((getI l0_3 x11.1).bind fun x14 => (some ((l0_3.set x11.1.toNat x13), x12.2)))))) else (if decide (x9.1 = 1) = true then (gd ((0 : Int) ≤ 1 ∧ 1 ≤ (l0_3.length : Int)) (some ((l0_3.drop (1 : Int).toNat), x9.2))) else (gd (l0_3.length + [0].length ≤ SMALL) (some ((l0_3 ++ [0]), x9.2)))))) else (some (l0_3, x7.2)))
def z3g (kx0_0 : List Int → Int → List Int → Option ((List Int) × GRd)) : Nat → List Int → Int → Int → List Int → Option ((List Int) × GRd)
  | 0, _, _, _, _ => none
  | n0 + 1, s0_0, s0_1, s0_2, l0_3 => if decide (s0_2 < 3) = true then ((z07 (GRd.mk s0_0 s0_1) 9).bind fun x2 => ((z07 x2.2 7).bind fun x3 => ((getI [0, 1, (-1), 5, 99, (-99), x2.1] x3.1).bind fun x4 => (gd (l0_3.length + [x4].length ≤ SMALL) (gd (ok64 (s0_2 + 1)) ((z3g kx0_0 n0) x3.2.b x3.2.p (s0_2 + 1) (l0_3 ++ [x4]))))))) else (kx0_0 s0_0 s0_1 l0_3)
def z67 (r : GRd) (n : Int) : Option ((List Int) × GRd) := z3g (z5s n) FUEL r.b r.p 0 ([] : List Int)
def z2o : Con := ⟨101, [.ptr (.s .rd) false, .v .I false], [((.sl .I), false)], [(0, .ptr (.s .rd) false)], fun x => z67 x.1 x.2.1⟩
def yf0 : Fs := ⟨[zl8], [], []⟩
theorem y1v : yf0.Ok Try.prog := (fsK y0d fs0)
def zv3 : Tmpl := ⟨[(0, .c (.bx 1000000 0)), (1, .c .i), (5, .c (.ref 7)), (6, .c .i)], [(1000000, .box [.s .Y, .i]), (7, .arr .I true)]⟩
def zp2 : Tmpl := ⟨[(0, .c (.bx 1000000 0)), (1, .c .i), (5, .c (.ref 7))], [(1000000, .box [.s .Y, .i]), (7, .arr .I true)]⟩
def y76 (av : AV) (x : HP z2o.ps) (n : Nat) (v : zv3.den) (K : Ks (CR z2o)) : Option (CR z2o) := z3g (fun s0_0 s0_1 l0_3 => zp2.at none (((), v.1.2.1, (), ()), ((s0_0, s0_1, ()), l0_3, ())) (K (.exit 0))) n v.2.1.1 v.2.1.2.1 v.1.2.2.2.1 v.2.2.1
def zt7 (av : AV) (x : HP z2o.ps) : Hdl (CR z2o) := hnd [] zv3 (y76 av x)
theorem y7q : LP z2o Try.f101 [0] zt7 := lp_ok (W := [(12, [.froz 7])]) (H := []) (xs := [zp2]) y1v trivial rfl (fun av x v K => by kernel_rfl) (fun av x n v K => by kernel_rfl)
theorem yi6 : z2o.Ok Try.prog := fn_ok (k := z2o) (fn := Try.f101) (W := [(12, [.froz 7])]) (H := [zt7]) Try.func101 y1v ⟨y7q, trivial⟩ rfl rfl (fun av x => by kernel_rfl)
def zb7 (r : GRd) (n : Int) : Option (GAsk × GRd) := (z07 r 3).bind fun x1 => (gd (ok64 (1 + x1.1)) ((z07 x1.2 3).bind fun x3 => ((z07 x3.2 9).bind fun x4 => ((z07 x4.2 6).bind fun x5 => ((getI [0, 1, 2, 5, (-1), x4.1] x5.1).bind fun x6 => ((z07 x5.2 6).bind fun x7 => (if decide (x7.1 = 0) = true then ((z07 x7.2 n).bind fun x9 => (if decide (x9.1 = 0) = true then ((z07 x9.2 3).bind fun x11 => (if decide (x11.1 = 0) = true then ((z07 x11.2 3).bind fun x13 => ((getI [0, 4, (-1)] x13.1).bind fun x14 => (some ((GAsk.mk x14 0 0), x13.2)))) else (if decide (x11.1 = 1) = true then ((z07 x11.2 3).bind fun x16 => ((getI [3, (-1), 1] x16.1).bind fun x17 => (some ((GAsk.mk 0 x17 0), x16.2)))) else ((z07 x11.2 3).bind fun x18 => ((getI [99, 100, (-99)] x18.1).bind fun x19 => (some ((GAsk.mk 0 0 x19), x18.2))))))) else (some ((GAsk.mk 0 0 0), x9.2)))) else ((z07 x7.2 n).bind fun x20 => (if decide (x20.1 = 0) = true then ((z07 x20.2 3).bind fun x22 => (if decide (x22.1 = 0) = true then ((z07 x22.2 3).bind fun x24 => ((getI [0, 4, (-1)] x24.1).bind fun x25 => (some ((GAsk.mk x25 x3.1 x6), x24.2)))) else (if decide (x22.1 = 1) = true then ((z07 x22.2 3).bind fun x27 => ((getI [3, (-1), 1] x27.1).bind fun x28 => (some ((GAsk.mk (1 + x1.1) x28 x6), x27.2)))) else ((z07 x22.2 3).bind fun x29 => ((getI [99, 100, (-99)] x29.1).bind fun x30 => (some ((GAsk.mk (1 + x1.1) x3.1 x30), x29.2))))))) else (some ((GAsk.mk (1 + x1.1) x3.1 x6), x20.2)))))))))))
def zr6 : Con := ⟨139, [.ptr (.s .rd) false, .v .I false], [((.s .ask), true)], [(0, .ptr (.s .rd) false)], fun x => zb7 x.1 x.2.1⟩
def yo4 : Fs := ⟨[zl8], [], []⟩
theorem yq0 : yo4.Ok Try.prog := (fsK y0d fs0)
theorem ys5 : zr6.Ok Try.prog := fn_ok (k := zr6) (fn := Try.f139) (W := []) (H := []) Try.func139 yq0 trivial rfl rfl (fun av x => by kernel_rfl)
end
end Go.Am
