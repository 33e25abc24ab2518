/- Mirrors and contracts, printed. Own work. -/
import Derived.Test.YtgolgnbgomhknaaGreatHaD1
set_option maxRecDepth 100000
set_option maxHeartbeats 4000000
set_option linter.unusedVariables false
set_option linter.unusedSimpArgs false
namespace Go.Am
noncomputable section
open Go Go.Proofs
def z03 (n : Int) (low : Int) (high : Int) : Option Bool := if decide (low ≤ n) = true then (some (decide (n ≤ high))) else (some false)
def z0m : Con := ⟨90, [.v .I false, .v .I false, .v .I false], [(.B, true)], [], fun x => z03 x.1 x.2.1 x.2.2.1⟩
def v51 : Fs := ⟨[], [], []⟩
theorem v56 : v51.Ok Tryz.prog := fs0
theorem z0v : z0m.Ok Tryz.prog := fn_ok (k := z0m) (fn := Tryz.f90) (W := []) (H := []) Tryz.func90 v56 trivial rfl rfl (fun av x => by kernel_rfl)
def ya5  : Option Bool := some true
def z7e (data : List Int) (kx0_0 : Option Bool) : Nat → Int → Option Bool
  | 0, _ => none
  | n0 + 1, s0_0 => if decide (s0_0 < (data.length : Int)) = true then ((getI data s0_0).bind fun x3 => ((z03 x3 (-99) 99).bind fun x4 => (if x4 = true then (gd (ok64 (s0_0 + 1)) ((z7e data kx0_0 n0) (s0_0 + 1))) else (some false)))) else (kx0_0)
def z2p (data : List Int) : Option Bool := if decide ((data.length : Int) = 3) = true then (z7e data ya5 FUEL 0) else (some false)
def z18 : Con := ⟨89, [.v (.sl .I) false], [(.B, true)], [], fun x => z2p x.1⟩
def v1x : Fs := ⟨[z0m], [], []⟩
theorem w2q : v1x.Ok Tryz.prog := (fsK z0v fs0)
def yp3 : Tmpl := ⟨[(0, .c (.s .I)), (3, .c .i)], []⟩
def yg5 : Tmpl := ⟨[], []⟩
def w9s (av : AV) (x : HP z18.ps) (n : Nat) (v : yp3.den) (K : Ks (CR z18)) : Option (CR z18) := z7e v.1.1 (yg5.at none ((), ()) (K (.exit 0))) n v.1.2.1
def ym9 (av : AV) (x : HP z18.ps) : Hdl (CR z18) := hnd [] yp3 (w9s av x)
theorem wg3 : LP z18 Tryz.f89 [0] ym9 := lp_ok (W := []) (H := []) (xs := [yg5]) w2q trivial rfl (fun av x v K => by kernel_rfl) (fun av x n v K => by kernel_rfl)
theorem z6u : z18.Ok Tryz.prog := fn_ok (k := z18) (fn := Tryz.f89) (W := []) (H := [ym9]) Tryz.func89 w2q ⟨wg3, trivial⟩ rfl rfl (fun av x => by kernel_rfl)
def z80 (data : List Int) (k : Int) (n : Int) : Option (List Int) := (z2p data).bind fun x1 => (if x1 = true then ((z03 k 0 2).bind fun x3 => (if x3 = true then ((z03 n (-99) 99).bind fun x5 => (if x5 = true then (gd (([] : List Int).length + data.length ≤ SMALL) ((getI (([] : List Int) ++ data) k).bind fun x8 => (some ((([] : List Int) ++ data).set k.toNat n)))) else (gd (([] : List Int).length + data.length ≤ SMALL) (some (([] : List Int) ++ data))))) else (gd (([] : List Int).length + data.length ≤ SMALL) (some (([] : List Int) ++ data))))) else (gd (([] : List Int).length + data.length ≤ SMALL) (some (([] : List Int) ++ data))))
def zv5 : Con := ⟨171, [.v (.sl .I) false, .v .I false, .v .I false], [((.sl .I), true)], [], fun x => z80 x.1 x.2.1 x.2.2.1⟩
def wq6 : Fs := ⟨[z18, z0m], [], []⟩
theorem wu4 : wq6.Ok Tryz.prog := (fsK z6u (fsK z0v fs0))
theorem yz7 : zv5.Ok Tryz.prog := fn_ok (k := zv5) (fn := Tryz.f171) (W := []) (H := []) Tryz.func171 wu4 trivial rfl rfl (fun av x => by kernel_rfl)
def z6o (e : GAsk) : Option Bool := if decide (e.op = 0) = true then (some (decide ([e.op, e.var, e.k] = [0, 0, 0]))) else ((z03 e.op 1 3).bind fun x2 => (if x2 = true then ((z03 e.var 0 2).bind fun x4 => (if x4 = true then ((z03 e.k (-99) 99).bind fun x6 => (some x6)) else (some false))) else (some false)))
def z91 : Con := ⟨138, [.v (.s .ask) false], [(.B, true)], [], fun x => z6o x.1⟩
def v1z : Fs := ⟨[z0m], [], []⟩
theorem v2j : v1z.Ok Tryz.prog := (fsK z0v fs0)
theorem zr6 : z91.Ok Tryz.prog := fn_ok (k := z91) (fn := Tryz.f138) (W := []) (H := []) Tryz.func138 v2j trivial rfl rfl (fun av x => by kernel_rfl)
def z1d (e : GAsk) (data : List Int) : Option Bool := (z6o e).bind fun x1 => (if x1 = true then ((z2p data).bind fun x3 => (if x3 = true then (if decide (e.op = 1) = true then ((getI data e.var).bind fun x6 => (some (decide (x6 < e.k)))) else (if decide (e.op = 2) = true then ((getI data e.var).bind fun x8 => (some (decide (x8 = e.k)))) else (if decide (e.op = 3) = true then ((getI data e.var).bind fun x10 => (some (decide (e.k < x10)))) else (some true)))) else (some false))) else (some false))
def z4h : Con := ⟨181, [.v (.s .ask) false, .v (.sl .I) false], [(.B, true)], [], fun x => z1d x.1 x.2.1⟩
def w6w : Fs := ⟨[z91, z18], [], []⟩
theorem w7k : w6w.Ok Tryz.prog := (fsK zr6 (fsK z6u fs0))
theorem z7n : z4h.Ok Tryz.prog := fn_ok (k := z4h) (fn := Tryz.f181) (W := []) (H := []) Tryz.func181 w7k trivial rfl rfl (fun av x => by kernel_rfl)
def z0c (n : Int) (low : Int) (high : Int) : Option Bool := if decide (low ≤ n) = true then (some (decide (n ≤ high))) else (some false)
def z23 : Con := ⟨113, [.v .I false, .v .I false, .v .I false], [(.B, true)], [], fun x => z0c x.1 x.2.1 x.2.2.1⟩
def v9j : Fs := ⟨[], [], []⟩
theorem v9u : v9j.Ok Tryz.prog := fs0
theorem z2r : z23.Ok Tryz.prog := fn_ok (k := z23) (fn := Tryz.f113) (W := []) (H := []) Tryz.func113 v9u trivial rfl rfl (fun av x => by kernel_rfl)
def z5k (n : Int) : Option Bool := (z0c n (-99) 99).bind fun x1 => (some x1)
def z8f : Con := ⟨114, [.v .I false], [(.B, true)], [], fun x => z5k x.1⟩
def wb3 : Fs := ⟨[z23], [], []⟩
theorem we4 : wb3.Ok Tryz.prog := (fsK z2r fs0)
theorem zp9 : z8f.Ok Tryz.prog := fn_ok (k := z8f) (fn := Tryz.f114) (W := []) (H := []) Tryz.func114 we4 trivial rfl rfl (fun av x => by kernel_rfl)
def z0g (list : List Int) : Option (List Int) := gd (([] : List Int).length + list.length ≤ SMALL) (some (([] : List Int) ++ list))
def z1c : Con := ⟨140, [.v (.sl .I) false], [((.sl .I), true)], [], fun x => z0g x.1⟩
def w4b : Fs := ⟨[], [], []⟩
theorem w4h : w4b.Ok Tryz.prog := fs0
theorem z2l : z1c.Ok Tryz.prog := fn_ok (k := z1c) (fn := Tryz.f140) (W := []) (H := []) Tryz.func140 w4h trivial rfl rfl (fun av x => by kernel_rfl)
def z7o (e : GAsk) : Option Bool := if decide (e.op = 0) = true then (if decide (e.var = 0) = true then (some (decide (e.k = 0))) else (some false)) else ((z0c e.op 1 3).bind fun x3 => (if x3 = true then ((z0c e.var 0 2).bind fun x5 => (if x5 = true then ((z5k e.k).bind fun x7 => (some x7)) else (some false))) else (some false)))
def zq6 : Con := ⟨141, [.v (.s .ask) false], [(.B, true)], [], fun x => z7o x.1⟩
def v1n : Fs := ⟨[z23, z8f], [], []⟩
theorem v2e : v1n.Ok Tryz.prog := (fsK z2r (fsK zp9 fs0))
theorem yc0 : zq6.Ok Tryz.prog := fn_ok (k := zq6) (fn := Tryz.f141) (W := []) (H := []) Tryz.func141 v2e trivial rfl rfl (fun av x => by kernel_rfl)
def y3m  : Option Bool := some true
def z3v (list : List Int) (low : Int) (high : Int) (kx0_0 : Option Bool) : Nat → Int → Option Bool
  | 0, _ => none
  | n0 + 1, s0_0 => if decide (s0_0 < (list.length : Int)) = true then ((getI list s0_0).bind fun x4 => ((z03 x4 low high).bind fun x5 => (if x5 = true then (if decide (0 < s0_0) = true then (gd (ok64 (s0_0 - 1)) ((getI list (s0_0 - 1)).bind fun x9 => ((getI list s0_0).bind fun x10 => (if decide (x10 ≤ x9) = true then (some false) else (gd (ok64 (s0_0 + 1)) ((z3v list low high kx0_0 n0) (s0_0 + 1))))))) else (gd (ok64 (s0_0 + 1)) ((z3v list low high kx0_0 n0) (s0_0 + 1)))) else (some false)))) else (kx0_0)
def zb5 (list : List Int) (least : Int) (most : Int) (low : Int) (high : Int) : Option Bool := (z03 (list.length : Int) least most).bind fun x1 => (if x1 = true then (z3v list low high y3m FUEL 0) else (some false))
def z4a : Con := ⟨214, [.v (.sl .I) false, .v .I false, .v .I false, .v .I false, .v .I false], [(.B, true)], [], fun x => zb5 x.1 x.2.1 x.2.2.1 x.2.2.2.1 x.2.2.2.2.1⟩
def wd5 : Fs := ⟨[z0m], [], []⟩
theorem yl9 : wd5.Ok Tryz.prog := (fsK z0v fs0)
def y7t : Tmpl := ⟨[(0, .c (.s .I)), (3, .c .i), (4, .c .i), (11, .c .i)], []⟩
def y4n : Tmpl := ⟨[], []⟩
def w46 (av : AV) (x : HP z4a.ps) (n : Nat) (v : y7t.den) (K : Ks (CR z4a)) : Option (CR z4a) := z3v v.1.1 v.1.2.1 v.1.2.2.1 (y4n.at none ((), ()) (K (.exit 0))) n v.1.2.2.2.1
def y6s (av : AV) (x : HP z4a.ps) : Hdl (CR z4a) := hnd [] y7t (w46 av x)
theorem w56 : LP z4a Tryz.f214 [0] y6s := lp_ok (W := []) (H := []) (xs := [y4n]) yl9 trivial rfl (fun av x v K => by kernel_rfl) (fun av x n v K => by kernel_rfl)
theorem wk0 : z4a.Ok Tryz.prog := fn_ok (k := z4a) (fn := Tryz.f214) (W := []) (H := [y6s]) Tryz.func214 yl9 ⟨w56, trivial⟩ rfl rfl (fun av x => by kernel_rfl)
def yb6  : Option Bool := some false
def z7l (list : List Int) (n : Int) (kx0_0 : Option Bool) : Nat → Int → Option Bool
  | 0, _ => none
  | n0 + 1, s0_0 => if decide (s0_0 < (list.length : Int)) = true then ((getI list s0_0).bind fun x2 => (if decide (x2 = n) = true then (some true) else (gd (ok64 (s0_0 + 1)) ((z7l list n kx0_0 n0) (s0_0 + 1))))) else (kx0_0)
def ze5 (list : List Int) (n : Int) : Option Bool := z7l list n yb6 FUEL 0
def z4i : Con := ⟨101, [.v (.sl .I) false, .v .I false], [(.B, true)], [], fun x => ze5 x.1 x.2.1⟩
def v26 : Fs := ⟨[], [], []⟩
theorem w2x : v26.Ok Tryz.prog := fs0
def yq1 : Tmpl := ⟨[(0, .c (.s .I)), (1, .c .i), (5, .c .i)], []⟩
def yh2 : Tmpl := ⟨[], []⟩
def wa0 (av : AV) (x : HP z4i.ps) (n : Nat) (v : yq1.den) (K : Ks (CR z4i)) : Option (CR z4i) := z7l v.1.1 v.1.2.1 (yh2.at none ((), ()) (K (.exit 0))) n v.1.2.2.1
def yn7 (av : AV) (x : HP z4i.ps) : Hdl (CR z4i) := hnd [] yq1 (wa0 av x)
theorem wh1 : LP z4i Tryz.f101 [0] yn7 := lp_ok (W := []) (H := []) (xs := [yh2]) w2x trivial rfl (fun av x v K => by kernel_rfl) (fun av x n v K => by kernel_rfl)
theorem yd0 : z4i.Ok Tryz.prog := fn_ok (k := z4i) (fn := Tryz.f101) (W := []) (H := [yn7]) Tryz.func101 w2x ⟨wh1, trivial⟩ rfl rfl (fun av x => by kernel_rfl)
def y3j (s0_0 : Int) (bk0 : Int → Option Bool) : Option Bool := gd (ok64 (s0_0 + 1)) (bk0 (s0_0 + 1))
def z2q (t : GTask) (s0_0 : Int) (x4 : GFlow) (kx1_0 : Option Bool) : Nat → Int → Option Bool
  | 0, _ => none
  | n1 + 1, s1_0 => if decide (s1_0 < s0_0) = true then ((getI t.out s1_0).bind fun x14 => (if decide (x14.to = x4.to) = true then (some false) else (gd (ok64 (s1_0 + 1)) ((z2q t s0_0 x4 kx1_0 n1) (s1_0 + 1))))) else (kx1_0)
def y3k (s0_0 : Int) (bk0 : Int → Option Bool) : Option Bool := gd (ok64 (s0_0 + 1)) (bk0 (s0_0 + 1))
def y3l  : Option Bool := some true
def z3u (t : GTask) (places : Int) (kx0_0 : Option Bool) : Nat → Int → Option Bool
  | 0, _ => none
  | n0 + 1, s0_0 => if decide (s0_0 < (t.out.length : Int)) = true then ((getI t.out s0_0).bind fun x4 => (gd (ok64 ((t.out.length : Int) - 1)) (if decide (s0_0 = ((t.out.length : Int) - 1)) = true then (gd (ok64 (places - 1)) ((z03 x4.to 1 (places - 1)).bind fun x8 => (if x8 = true then ((z6o x4.if_).bind fun x10 => (if x10 = true then (if (true == (decide (x4.if_.op = 0))) = true then (z2q t s0_0 x4 (y3j s0_0 (z3u t places kx0_0 n0)) FUEL 0) else (some false)) else (some false))) else (some false)))) else (gd (ok64 (places - 1)) ((z03 x4.to 1 (places - 1)).bind fun x19 => (if x19 = true then ((z6o x4.if_).bind fun x21 => (if x21 = true then (if ((decide (t.split = 1)) == (decide (x4.if_.op = 0))) = true then (z2q t s0_0 x4 (y3k s0_0 (z3u t places kx0_0 n0)) FUEL 0) else (some false)) else (some false))) else (some false))))))) else (kx0_0)
def zp8 (t : GTask) (places : Int) : Option Bool := (z03 (t.out.length : Int) 1 3).bind fun x1 => (if x1 = true then (z3u t places y3l FUEL 0) else (some false))
def z0z : Con := ⟨215, [.v (.s .task) false, .v .I false], [(.B, true)], [], fun x => zp8 x.1 x.2.1⟩
def wd4 : Fs := ⟨[z0m, z91], [], []⟩
theorem y1y : wd4.Ok Tryz.prog := (fsK z0v (fsK zr6 fs0))
def y1g : Tmpl := ⟨[(1, .c .i), (2, .c (.bx 2 0)), (5, .c .i), (6, .c (.bx 6 0)), (8, .c .i)], [(2, .boxT (.s .task)), (6, .boxT (.s .flow))]⟩
def y0m : Tmpl := ⟨[(1, .c .i), (2, .c (.bx 2 0)), (5, .c .i)], [(2, .boxT (.s .task))]⟩
def yu5 (av : AV) (x : HP z0z.ps) (n : Nat) (v : y1g.den) (K : Ks (CR z0z)) : Option (CR z0z) := z2q v.2.1 v.1.2.2.1 v.2.2.1 (y0m.at none ((v.1.1, (), v.1.2.2.1, ()), (v.2.1, ())) (K (.exit 2))) n v.1.2.2.2.2.1
def y0u (av : AV) (x : HP z0z.ps) : Hdl (CR z0z) := hnd [] y1g (yu5 av x)
theorem yy5 : LP z0z Tryz.f215 [0, 0] y0u := lp_ok (W := []) (H := []) (xs := [y0m]) y1y trivial rfl (fun av x v K => by kernel_rfl) (fun av x n v K => by kernel_rfl)
def y7s : Tmpl := ⟨[(1, .c .i), (2, .c (.bx 2 0)), (5, .c .i)], [(2, .boxT (.s .task))]⟩
def y4m : Tmpl := ⟨[], []⟩
def w45 (av : AV) (x : HP z0z.ps) (n : Nat) (v : y7s.den) (K : Ks (CR z0z)) : Option (CR z0z) := z3u v.2.1 v.1.1 (y4m.at none ((), ()) (K (.exit 0))) n v.1.2.2.1
def y6r (av : AV) (x : HP z0z.ps) : Hdl (CR z0z) := hnd [] y7s (w45 av x)
theorem w55 : LP z0z Tryz.f215 [0] y6r := lp_ok (W := []) (H := [y0u]) (xs := [y4m]) y1y ⟨yy5, trivial⟩ rfl (fun av x v K => by kernel_rfl) (fun av x n v K => by kernel_rfl)
theorem wj9 : z0z.Ok Tryz.prog := fn_ok (k := z0z) (fn := Tryz.f215) (W := []) (H := [y6r]) Tryz.func215 y1y ⟨w55, trivial⟩ rfl rfl (fun av x => by kernel_rfl)
def zx8 (t : GTask) (places : Int) (tasks : Int) : Option Bool := (z03 t.join 1 3).bind fun x1 => (if x1 = true then ((z03 t.split 1 3).bind fun x3 => (if x3 = true then (gd (ok64 (places - 1)) ((zb5 t.in_ 1 3 0 (places - 1)).bind fun x6 => (if x6 = true then ((ze5 t.in_ 1).bind fun x8 => (if x8 = true then (some false) else ((zp8 t places).bind fun x10 => (if x10 = true then (gd (ok64 (places - 1)) ((zb5 t.clear 0 places 2 (places - 1)).bind fun x13 => (if x13 = true then ((z03 t.role 1 3).bind fun x15 => (if x15 = true then (gd (ok64 (tasks - 1)) ((z03 t.apart (-1) (tasks - 1)).bind fun x18 => (if x18 = true then ((z03 t.all 1 3).bind fun x20 => (if x20 = true then ((z03 t.need 1 t.all).bind fun x22 => (some x22)) else (some false))) else (some false)))) else (some false))) else (some false)))) else (some false))))) else (some false)))) else (some false))) else (some false))
def y5e : Con := ⟨198, [.v (.s .task) false, .v .I false, .v .I false], [(.B, true)], [], fun x => zx8 x.1 x.2.1 x.2.2.1⟩
def ws0 : Fs := ⟨[z0m, z4a, z4i, z0z], [], []⟩
theorem wv2 : ws0.Ok Tryz.prog := (fsK z0v (fsK wk0 (fsK yd0 (fsK wj9 fs0))))
theorem v02 : y5e.Ok Tryz.prog := fn_ok (k := y5e) (fn := Tryz.f198) (W := []) (H := []) Tryz.func198 wv2 trivial rfl rfl (fun av x => by kernel_rfl)
def ya9  : Option Bool := some true
def z7i (n : GNet) (kx0_0 : Option Bool) : Nat → Int → Option Bool
  | 0, _ => none
  | n0 + 1, s0_0 => if decide (s0_0 < (n.tasks.length : Int)) = true then ((getI n.tasks s0_0).bind fun x6 => ((zx8 x6 n.places (n.tasks.length : Int)).bind fun x7 => (if x7 = true then (gd (ok64 (s0_0 + 1)) ((z7i n kx0_0 n0) (s0_0 + 1))) else (some false)))) else (kx0_0)
def z3e (n : GNet) : Option Bool := (z03 n.places 2 8).bind fun x1 => (if x1 = true then ((z03 (n.tasks.length : Int) 1 6).bind fun x3 => (if x3 = true then (z7i n ya9 FUEL 0) else (some false))) else (some false))
def z2n : Con := ⟨161, [.v (.s .net) false], [(.B, true)], [], fun x => z3e x.1⟩
def v22 : Fs := ⟨[z0m, y5e], [], []⟩
theorem w2u : v22.Ok Tryz.prog := (fsK z0v (fsK v02 fs0))
def yp7 : Tmpl := ⟨[(1, .c (.bx 1 0)), (3, .c .i)], [(1, .boxT (.s .net))]⟩
def yg9 : Tmpl := ⟨[], []⟩
def w9w (av : AV) (x : HP z2n.ps) (n : Nat) (v : yp7.den) (K : Ks (CR z2n)) : Option (CR z2n) := z7i v.2.1 (yg9.at none ((), ()) (K (.exit 0))) n v.1.2.1
def yn3 (av : AV) (x : HP z2n.ps) : Hdl (CR z2n) := hnd [] yp7 (w9w av x)
theorem wg7 : LP z2n Tryz.f161 [0] yn3 := lp_ok (W := []) (H := []) (xs := [yg9]) w2u trivial rfl (fun av x v K => by kernel_rfl) (fun av x n v K => by kernel_rfl)
theorem zr7 : z2n.Ok Tryz.prog := fn_ok (k := z2n) (fn := Tryz.f161) (W := []) (H := [yn3]) Tryz.func161 w2u ⟨wg7, trivial⟩ rfl rfl (fun av x => by kernel_rfl)
def zj1 (s1_0 : Int) (bk1 : Int → List Bool → Option (List Bool)) (l3_1 : List Bool) : Option (List Bool) := gd (ok64 (s1_0 + 1)) (bk1 (s1_0 + 1) l3_1)
def zj2 (s1_0 : Int) (bk1 : Int → List Bool → Option (List Bool)) (l3_1 : List Bool) : Option (List Bool) := gd (ok64 (s1_0 + 1)) (bk1 (s1_0 + 1) l3_1)
def zj3 (s1_0 : Int) (bk1 : Int → List Bool → Option (List Bool)) (l3_1 : List Bool) : Option (List Bool) := gd (ok64 (s1_0 + 1)) (bk1 (s1_0 + 1) l3_1)
def z1l (n : GNet) (but : Int) (s1_0 : Int) (s2_0 : Bool) (kx3_0 : List Bool → Option (List Bool)) (kx3_1 : List Bool → Option (List Bool)) (kx3_2 : List Bool → Option (List Bool)) : Nat → Int → List Bool → Option (List Bool)
  | 0, _, _ => none
  | n3 + 1, s3_0, l3_1 => (getI n.tasks s1_0).bind fun x12 => (if decide (s3_0 < (x12.out.length : Int)) = true then (if s2_0 = true then (if decide (s1_0 = but) = true then (kx3_0 l3_1) else ((getI n.tasks s1_0).bind fun x17 => ((getI x17.out s3_0).bind fun x18 => ((getI l3_1 x18.to).bind fun x19 => (gd (ok64 (s3_0 + 1)) ((z1l n but s1_0 s2_0 kx3_0 kx3_1 kx3_2 n3) (s3_0 + 1) (l3_1.set x18.to.toNat true))))))) else (kx3_1 l3_1)) else (kx3_2 l3_1))
def y14 (n : GNet) (but : Int) (s1_0 : Int) (l1_1 : List Bool) (bk1 : Int → List Bool → Option (List Bool)) (s2_0 : Bool) : Option (List Bool) := z1l n but s1_0 s2_0 (zj1 s1_0 bk1) (zj2 s1_0 bk1) (zj3 s1_0 bk1) FUEL 0 l1_1
def z26 (n : GNet) (s1_0 : Int) (l1_1 : List Bool) (kx2_0 : Bool → Option (List Bool)) : Nat → Bool → Int → Option (List Bool)
  | 0, _, _ => none
  | n2 + 1, s2_0, s2_1 => (getI n.tasks s1_0).bind fun x4 => (if decide (s2_1 < (x4.in_.length : Int)) = true then (if s2_0 = true then (gd (ok64 (s2_1 + 1)) ((z26 n s1_0 l1_1 kx2_0 n2) true (s2_1 + 1))) else ((getI n.tasks s1_0).bind fun x8 => ((getI x8.in_ s2_1).bind fun x9 => ((getI l1_1 x9).bind fun x10 => (gd (ok64 (s2_1 + 1)) ((z26 n s1_0 l1_1 kx2_0 n2) x10 (s2_1 + 1))))))) else (kx2_0 s2_0))
def y15 (s0_0 : Int) (bk0 : Int → List Bool → Option (List Bool)) (l1_1 : List Bool) : Option (List Bool) := gd (ok64 (s0_0 + 1)) (bk0 (s0_0 + 1) l1_1)
def z0k (n : GNet) (but : Int) (kx1_0 : List Bool → Option (List Bool)) : Nat → Int → List Bool → Option (List Bool)
  | 0, _, _ => none
  | n1 + 1, s1_0, l1_1 => if decide (s1_0 < (n.tasks.length : Int)) = true then (z26 n s1_0 l1_1 (y14 n but s1_0 l1_1 (z0k n but kx1_0 n1)) FUEL false 0) else (kx1_0 l1_1)
def y16 (l0_1 : List Bool) : Option (List Bool) := some l0_1
def z4s (n : GNet) (but : Int) (kx0_0 : List Bool → Option (List Bool)) : Nat → Int → List Bool → Option (List Bool)
  | 0, _, _ => none
  | n0 + 1, s0_0, l0_1 => if decide (s0_0 < n.places) = true then (z0k n but (y15 s0_0 (z4s n but kx0_0 n0)) FUEL 0 l0_1) else (kx0_0 l0_1)
def zj0 (n : GNet) (marked : List Bool) (but : Int) : Option (List Bool) := gd (([] : List Bool).length + marked.length ≤ SMALL) (z4s n but y16 FUEL 0 (([] : List Bool) ++ marked))
def z06 : Con := ⟨216, [.v (.s .net) false, .v (.sl .B) false, .v .I false], [((.sl .B), true)], [], fun x => zj0 x.1 x.2.1 x.2.2.1⟩
def w71 : Fs := ⟨[], [], []⟩
theorem z8x : w71.Ok Tryz.prog := fs0
def zs1 : Tmpl := ⟨[(2, .c .i), (3, .c (.bx 3 0)), (7, .c (.ref 15)), (8, .c .i), (9, .c .i), (10, .c .b), (11, .c .i)], [(3, .boxT (.s .net)), (15, .arr .B true)]⟩
def zm1 : Tmpl := ⟨[(2, .c .i), (3, .c (.bx 3 0)), (7, .c (.ref 15)), (8, .c .i), (9, .c .i), (10, .c .b)], [(3, .boxT (.s .net)), (15, .arr .B true)]⟩
def y8k (av : AV) (x : HP z06.ps) (n : Nat) (v : zs1.den) (K : Ks (CR z06)) : Option (CR z06) := z26 v.2.1 v.1.2.2.2.2.1 v.2.2.1 (fun s2_0 => zm1.at none ((v.1.1, (), (), v.1.2.2.2.1, v.1.2.2.2.2.1, s2_0, ()), (v.2.1, v.2.2.1, ())) (K (.exit 4))) n v.1.2.2.2.2.2.1 v.1.2.2.2.2.2.2.1
def zq3 (av : AV) (x : HP z06.ps) : Hdl (CR z06) := hnd [] zs1 (y8k av x)
theorem y9w : LP z06 Tryz.f216 [0, 0, 0] zq3 := lp_ok (W := []) (H := []) (xs := [zm1]) z8x trivial rfl (fun av x v K => by kernel_rfl) (fun av x n v K => by kernel_rfl)
def zs2 : Tmpl := ⟨[(2, .c .i), (3, .c (.bx 3 0)), (7, .c (.ref 15)), (8, .c .i), (9, .c .i), (10, .c .b), (12, .c .i)], [(3, .boxT (.s .net)), (15, .arr .B true)]⟩
def z5x : Tmpl := ⟨[(2, .c .i), (3, .c (.bx 3 0)), (7, .c (.ref 15)), (8, .c .i), (9, .c .i)], [(3, .boxT (.s .net)), (15, .arr .B true)]⟩
def y8l (av : AV) (x : HP z06.ps) (n : Nat) (v : zs2.den) (K : Ks (CR z06)) : Option (CR z06) := z1l v.2.1 v.1.1 v.1.2.2.2.2.1 v.1.2.2.2.2.2.1 (fun l3_1 => z5x.at none ((v.1.1, (), (), v.1.2.2.2.1, v.1.2.2.2.2.1, ()), (v.2.1, l3_1, ())) (K (.exit 6))) (fun l3_1 => z5x.at none ((v.1.1, (), (), v.1.2.2.2.1, v.1.2.2.2.2.1, ()), (v.2.1, l3_1, ())) (K (.exit 6))) (fun l3_1 => z5x.at none ((v.1.1, (), (), v.1.2.2.2.1, v.1.2.2.2.2.1, ()), (v.2.1, l3_1, ())) (K (.exit 6))) n v.1.2.2.2.2.2.2.1 v.2.2.1
def zq4 (av : AV) (x : HP z06.ps) : Hdl (CR z06) := hnd [] zs2 (y8l av x)
theorem y9x : LP z06 Tryz.f216 [0, 0, 1] zq4 := lp_ok (W := []) (H := []) (xs := [z5x]) z8x trivial rfl (fun av x v K => by kernel_rfl) (fun av x n v K => by kernel_rfl)
def y0i : Tmpl := ⟨[(2, .c .i), (3, .c (.bx 3 0)), (7, .c (.ref 15)), (8, .c .i), (9, .c .i)], [(3, .boxT (.s .net)), (15, .arr .B true)]⟩
def zu6 : Tmpl := ⟨[(2, .c .i), (3, .c (.bx 3 0)), (7, .c (.ref 15)), (8, .c .i)], [(3, .boxT (.s .net)), (15, .arr .B true)]⟩
def yq6 (av : AV) (x : HP z06.ps) (n : Nat) (v : y0i.den) (K : Ks (CR z06)) : Option (CR z06) := z0k v.2.1 v.1.1 (fun l1_1 => zu6.at none ((v.1.1, (), (), v.1.2.2.2.1, ()), (v.2.1, l1_1, ())) (K (.exit 2))) n v.1.2.2.2.2.1 v.2.2.1
def zz9 (av : AV) (x : HP z06.ps) : Hdl (CR z06) := hnd [] y0i (yq6 av x)
theorem ys7 : LP z06 Tryz.f216 [0, 0] zz9 := lp_ok (W := []) (H := [zq3, zq4]) (xs := [zu6]) z8x ⟨y9w, y9x, trivial⟩ rfl (fun av x v K => by kernel_rfl) (fun av x n v K => by kernel_rfl)
def y40 : Tmpl := ⟨[(2, .c .i), (3, .c (.bx 3 0)), (7, .c (.ref 15)), (8, .c .i)], [(3, .boxT (.s .net)), (15, .arr .B true)]⟩
def y1o : Tmpl := ⟨[(7, .c (.ref 15))], [(15, .arr .B true)]⟩
def w0v (av : AV) (x : HP z06.ps) (n : Nat) (v : y40.den) (K : Ks (CR z06)) : Option (CR z06) := z4s v.2.1 v.1.1 (fun l0_1 => y1o.at none (((), ()), (l0_1, ())) (K (.exit 0))) n v.1.2.2.2.1 v.2.2.1
def y35 (av : AV) (x : HP z06.ps) : Hdl (CR z06) := hnd [] y40 (w0v av x)
theorem w1w : LP z06 Tryz.f216 [0] y35 := lp_ok (W := []) (H := [zz9]) (xs := [y1o]) z8x ⟨ys7, trivial⟩ rfl (fun av x v K => by kernel_rfl) (fun av x n v K => by kernel_rfl)
theorem w8n : z06.Ok Tryz.prog := fn_ok (k := z06) (fn := Tryz.f216) (W := []) (H := [y35]) Tryz.func216 z8x ⟨w1w, trivial⟩ rfl rfl (fun av x => by kernel_rfl)
def zw5 (kind : Int) : Option Bool := (z0c kind 1 3).bind fun x1 => (some x1)
def y58 : Con := ⟨177, [.v .I false], [(.B, true)], [], fun x => zw5 x.1⟩
def wp8 : Fs := ⟨[z23], [], []⟩
theorem wu0 : wp8.Ok Tryz.prog := (fsK z2r fs0)
theorem wy9 : y58.Ok Tryz.prog := fn_ok (k := y58) (fn := Tryz.f177) (W := []) (H := []) Tryz.func177 wu0 trivial rfl rfl (fun av x => by kernel_rfl)
def zh8 (role : Int) : Option Bool := (z0c role 1 3).bind fun x1 => (some x1)
def zv3 : Con := ⟨151, [.v .I false], [(.B, true)], [], fun x => zh8 x.1⟩
def wp9 : Fs := ⟨[z23], [], []⟩
theorem wu1 : wp9.Ok Tryz.prog := (fsK z2r fs0)
theorem yz5 : zv3.Ok Tryz.prog := fn_ok (k := zv3) (fn := Tryz.f151) (W := []) (H := []) Tryz.func151 wu1 trivial rfl rfl (fun av x => by kernel_rfl)
def y2f (places : Int) (tasks : Int) : Option Bool := (z0c places 2 8).bind fun x1 => (if x1 = true then ((z0c tasks 1 6).bind fun x3 => (some x3)) else (some false))
def y22 : Con := ⟨122, [.v .I false, .v .I false], [(.B, true)], [], fun x => y2f x.1 x.2.1⟩
def wb6 : Fs := ⟨[z23], [], []⟩
theorem we6 : wb6.Ok Tryz.prog := (fsK z2r fs0)
theorem wi5 : y22.Ok Tryz.prog := fn_ok (k := y22) (fn := Tryz.f122) (W := []) (H := []) Tryz.func122 we6 trivial rfl rfl (fun av x => by kernel_rfl)
def z0n (n : GNet) (t : Int) : Option Bool := gd (ok64 ((n.tasks.length : Int) - 1)) ((z0c t 0 ((n.tasks.length : Int) - 1)).bind fun x2 => (some x2))
def z1r : Con := ⟨96, [.v (.s .net) false, .v .I false], [(.B, true)], [], fun x => z0n x.1 x.2.1⟩
def y8q : Fs := ⟨[z23], [], []⟩
theorem y8t : y8q.Ok Tryz.prog := (fsK z2r fs0)
theorem z4l : z1r.Ok Tryz.prog := fn_ok (k := z1r) (fn := Tryz.f96) (W := []) (H := []) Tryz.func96 y8t trivial rfl rfl (fun av x => by kernel_rfl)
def z6z (t : GTask) : Option GTask := (z0g t.in_).bind fun x1 => (gd (([] : List GFlow).length + t.out.length ≤ SMALL) ((z0g t.clear).bind fun x3 => (some (GTask.mk t.join t.split x1 (([] : List GFlow) ++ t.out) x3 t.role t.apart t.all t.need))))
def za4 : Con := ⟨207, [.v (.s .task) false], [((.s .task), true)], [], fun x => z6z x.1⟩
def yj6 : Fs := ⟨[z1c], [], []⟩
theorem yk1 : yj6.Ok Tryz.prog := (fsK z2l fs0)
theorem yk5 : za4.Ok Tryz.prog := fn_ok (k := za4) (fn := Tryz.f207) (W := []) (H := []) Tryz.func207 yk1 trivial rfl rfl (fun av x => by kernel_rfl)
def z8p (p0_3 : Int) (l0_1 : List GTask) : Option GNet := some (GNet.mk p0_3 l0_1)
def z2b (p0_0 : List GTask) (p0_1 : Int) (kx0_0 : List GTask → Option GNet) : Nat → Int → List GTask → Option GNet
  | 0, _, _ => none
  | n0 + 1, s0_0, l0_1 => if decide (s0_0 < p0_1) = true then ((getI p0_0 s0_0).bind fun x2 => ((z6z x2).bind fun x3 => (gd (l0_1.length + [x3].length ≤ SMALL) (gd (ok64 (s0_0 + 1)) ((z2b p0_0 p0_1 kx0_0 n0) (s0_0 + 1) (l0_1 ++ [x3])))))) else (kx0_0 l0_1)
def z7w (n : GNet) : Option GNet := z2b n.tasks (n.tasks.length : Int) (z8p n.places) FUEL 0 ([] : List GTask)
def z1a : Con := ⟨184, [.v (.s .net) false], [((.s .net), true)], [], fun x => z7w x.1⟩
def yr3 : Fs := ⟨[za4], [], []⟩
theorem zz3 : yr3.Ok Tryz.prog := (fsK yk5 fs0)
def zr9 : Tmpl := ⟨[(2, .c (.bx 2 0)), (3, .c (.bx 3 0)), (10, .c (.s (.s .task))), (11, .c .i), (12, .c .i)], [(2, .box [.i, .nl]), (3, .box [.i, .ref 510301]), (510301, .arr (.s .task) true)]⟩
def zl9 : Tmpl := ⟨[(2, .c (.bx 2 0)), (3, .c (.bx 3 0))], [(2, .box [.i, .nl]), (3, .box [.i, .ref 510301]), (510301, .arr (.s .task) true)]⟩
def y8i (av : AV) (x : HP z1a.ps) (n : Nat) (v : zr9.den) (K : Ks (CR z1a)) : Option (CR z1a) := z2b v.1.2.2.1 v.1.2.2.2.1 (fun l0_1 => zl9.at none (((), (), ()), ((v.2.1.1, (), ()), (v.2.2.1.1, (), ()), l0_1, ())) (K (.exit 0))) n v.1.2.2.2.2.1 v.2.2.2.1
def zq1 (av : AV) (x : HP z1a.ps) : Hdl (CR z1a) := hnd [.b 3 1 510301 (.s .task)] zr9 (y8i av x)
theorem y9u : LP z1a Tryz.f184 [0] zq1 := lp_ok (W := []) (H := []) (xs := [zl9]) zz3 trivial rfl (fun av x v K => by kernel_rfl) (fun av x n v K => by kernel_rfl)
theorem yt6 : z1a.Ok Tryz.prog := fn_ok (k := z1a) (fn := Tryz.f184) (W := []) (H := [zq1]) Tryz.func184 zz3 ⟨y9u, trivial⟩ rfl rfl (fun av x => by kernel_rfl)
def ya8  : Option Bool := some true
def z7h (marks : List Int) (kx0_0 : Option Bool) : Nat → Int → Option Bool
  | 0, _ => none
  | n0 + 1, s0_0 => if decide (s0_0 < (marks.length : Int)) = true then ((getI marks s0_0).bind fun x5 => ((z03 x5 0 4).bind fun x6 => (if x6 = true then (gd (ok64 (s0_0 + 1)) ((z7h marks kx0_0 n0) (s0_0 + 1))) else (some false)))) else (kx0_0)
def z98 (n : GNet) (marks : List Int) : Option Bool := (z3e n).bind fun x1 => (if x1 = true then (if decide ((marks.length : Int) = n.places) = true then (z7h marks ya8 FUEL 0) else (some false)) else (some false))
def z3a : Con := ⟨87, [.v (.s .net) false, .v (.sl .I) false], [(.B, true)], [], fun x => z98 x.1 x.2.1⟩
def v21 : Fs := ⟨[z2n, z0m], [], []⟩
theorem w2t : v21.Ok Tryz.prog := (fsK zr7 (fsK z0v fs0))
def yp6 : Tmpl := ⟨[(1, .c (.s .I)), (5, .c .i)], []⟩
def yg8 : Tmpl := ⟨[], []⟩
def w9v (av : AV) (x : HP z3a.ps) (n : Nat) (v : yp6.den) (K : Ks (CR z3a)) : Option (CR z3a) := z7h v.1.1 (yg8.at none ((), ()) (K (.exit 0))) n v.1.2.1
def yn2 (av : AV) (x : HP z3a.ps) : Hdl (CR z3a) := hnd [] yp6 (w9v av x)
theorem wg6 : LP z3a Tryz.f87 [0] yn2 := lp_ok (W := []) (H := []) (xs := [yg8]) w2t trivial rfl (fun av x v K => by kernel_rfl) (fun av x n v K => by kernel_rfl)
theorem y1b : z3a.Ok Tryz.prog := fn_ok (k := z3a) (fn := Tryz.f87) (W := []) (H := [yn2]) Tryz.func87 w2t ⟨wg6, trivial⟩ rfl rfl (fun av x => by kernel_rfl)
def zc7 (s0_0 : Bool) (s0_1 : Bool) : Option (Bool × Bool) := some (s0_0, s0_1)
def z1y (marks : List Int) (list : List Int) (kx0_0 : Bool → Bool → Option (Bool × Bool)) : Nat → Bool → Bool → Int → Option (Bool × Bool)
  | 0, _, _, _ => none
  | n0 + 1, s0_0, s0_1, s0_2 => if decide (s0_2 < (list.length : Int)) = true then (if s0_0 = true then (if s0_1 = true then ((getI list s0_2).bind fun x4 => ((getI marks x4).bind fun x5 => (gd (ok64 (s0_2 + 1)) ((z1y marks list kx0_0 n0) true (decide (0 < x5)) (s0_2 + 1))))) else (gd (ok64 (s0_2 + 1)) ((z1y marks list kx0_0 n0) true false (s0_2 + 1)))) else ((getI list s0_2).bind fun x8 => ((getI marks x8).bind fun x9 => (if s0_1 = true then ((getI list s0_2).bind fun x11 => ((getI marks x11).bind fun x12 => (gd (ok64 (s0_2 + 1)) ((z1y marks list kx0_0 n0) (decide (0 < x9)) (decide (0 < x12)) (s0_2 + 1))))) else (gd (ok64 (s0_2 + 1)) ((z1y marks list kx0_0 n0) (decide (0 < x9)) false (s0_2 + 1))))))) else (kx0_0 s0_0 s0_1)
def zx9 (marks : List Int) (list : List Int) : Option (Bool × Bool) := z1y marks list zc7 FUEL false true 0
def z5c : Con := ⟨200, [.v (.sl .I) false, .v (.sl .I) false], [(.B, true), (.B, true)], [], fun x => zx9 x.1 x.2.1⟩
def ws2 : Fs := ⟨[], [], []⟩
theorem yx4 : ws2.Ok Tryz.prog := fs0
def ye9 : Tmpl := ⟨[(0, .c (.s .I)), (1, .c (.s .I)), (6, .c .b), (7, .c .b), (8, .c .i)], []⟩
def y88 : Tmpl := ⟨[(6, .c .b), (7, .c .b)], []⟩
def w67 (av : AV) (x : HP z5c.ps) (n : Nat) (v : ye9.den) (K : Ks (CR z5c)) : Option (CR z5c) := z1y v.1.1 v.1.2.1 (fun s0_0 s0_1 => y88.at none ((s0_0, s0_1, ()), ()) (K (.exit 0))) n v.1.2.2.1 v.1.2.2.2.1 v.1.2.2.2.2.1
def y9g (av : AV) (x : HP z5c.ps) : Hdl (CR z5c) := hnd [] ye9 (w67 av x)
theorem w86 : LP z5c Tryz.f200 [0] y9g := lp_ok (W := []) (H := []) (xs := [y88]) yx4 trivial rfl (fun av x v K => by kernel_rfl) (fun av x n v K => by kernel_rfl)
theorem v03 : z5c.Ok Tryz.prog := fn_ok (k := z5c) (fn := Tryz.f200) (W := []) (H := [y9g]) Tryz.func200 yx4 ⟨w86, trivial⟩ rfl rfl (fun av x => by kernel_rfl)
def z4u (s1_0 : Int) (bk1 : Int → List Bool → Option Bool) (l2_1 : List Bool) : Option Bool := gd (ok64 (s1_0 + 1)) (bk1 (s1_0 + 1) l2_1)
def z32 (p2_0 : List GFlow) (kx2_0 : List Bool → Option Bool) : Nat → Int → List Bool → Option Bool
  | 0, _, _ => none
  | n2 + 1, s2_0, l2_1 => if decide (s2_0 < (p2_0.length : Int)) = true then ((getI p2_0 s2_0).bind fun x15 => ((getI l2_1 x15.to).bind fun x16 => (gd (ok64 (s2_0 + 1)) ((z32 p2_0 kx2_0 n2) (s2_0 + 1) (l2_1.set x15.to.toNat true))))) else (kx2_0 l2_1)
def zj6  : Option Bool := some false
def z29 (n : GNet) (marks : List Int) (t : Int) (x19 : (List Bool)) (kx3_0 : Option Bool) : Nat → Int → Option Bool
  | 0, _ => none
  | n3 + 1, s3_0 => (getI n.tasks t).bind fun x20 => (if decide (s3_0 < (x20.in_.length : Int)) = true then ((getI n.tasks t).bind fun x22 => ((getI x22.in_ s3_0).bind fun x23 => ((getI marks x23).bind fun x24 => (if decide (x24 = 0) = true then ((getI n.tasks t).bind fun x26 => ((getI x26.in_ s3_0).bind fun x27 => ((getI x19 x27).bind fun x28 => (if x28 = true then (some true) else (gd (ok64 (s3_0 + 1)) ((z29 n marks t x19 kx3_0 n3) (s3_0 + 1))))))) else (gd (ok64 (s3_0 + 1)) ((z29 n marks t x19 kx3_0 n3) (s3_0 + 1))))))) else (kx3_0))
def z27 (n : GNet) (marks : List Int) (t : Int) (l1_1 : List Bool) : Option Bool := (zj0 n l1_1 t).bind fun x19 => (z29 n marks t x19 zj6 FUEL 0)
def z17 (n : GNet) (busy : List GItem) (kx1_0 : List Bool → Option Bool) : Nat → Int → List Bool → Option Bool
  | 0, _, _ => none
  | n1 + 1, s1_0, l1_1 => if decide (s1_0 < (busy.length : Int)) = true then ((getI busy s1_0).bind fun x12 => ((getI n.tasks x12.task).bind fun x13 => (z32 x13.out (z4u s1_0 (z17 n busy kx1_0 n1)) FUEL 0 l1_1))) else (kx1_0 l1_1)
def z4t (n : GNet) (marks : List Int) (busy : List GItem) (t : Int) (l0_1 : List Bool) : Option Bool := z17 n busy (z27 n marks t) FUEL 0 l0_1
def z28 (n : GNet) (marks : List Int) (t : Int) (kx0_0 : List Bool → Option Bool) : Nat → Int → List Bool → Option Bool
  | 0, _, _ => none
  | n0 + 1, s0_0, l0_1 => if decide (s0_0 < n.places) = true then ((getI marks s0_0).bind fun x3 => (if decide (0 < x3) = true then ((getI n.tasks t).bind fun x5 => ((ze5 x5.in_ s0_0).bind fun x6 => ((getI l0_1 s0_0).bind fun x7 => (gd (ok64 (s0_0 + 1)) ((z28 n marks t kx0_0 n0) (s0_0 + 1) (l0_1.set s0_0.toNat (!x6))))))) else ((getI l0_1 s0_0).bind fun x9 => (gd (ok64 (s0_0 + 1)) ((z28 n marks t kx0_0 n0) (s0_0 + 1) (l0_1.set s0_0.toNat false)))))) else (kx0_0 l0_1)
def zj5 (n : GNet) (marks : List Int) (busy : List GItem) (t : Int) : Option Bool := gd ((0 : Int) ≤ n.places ∧ n.places ≤ (1000000000 : Int)) (z28 n marks t (z4t n marks busy t) FUEL 0 (List.replicate n.places.toNat false))
def z07 : Con := ⟨201, [.v (.s .net) false, .v (.sl .I) false, .v (.sl (.s .item)) false, .v .I false], [(.B, true)], [], fun x => zj5 x.1 x.2.1 x.2.2.1 x.2.2.2.1⟩
def w72 : Fs := ⟨[z4i, z06], [], []⟩
theorem z8y : w72.Ok Tryz.prog := (fsK yd0 (fsK w8n fs0))
def y0j : Tmpl := ⟨[(1, .c (.s .I)), (2, .c (.s (.s .item))), (3, .c .i), (4, .c (.bx 4 0)), (9, .c (.ref 18)), (11, .c .i), (12, .c (.s (.s .flow))), (13, .c .i)], [(4, .boxT (.s .net)), (18, .arr .B true)]⟩
def zu7 : Tmpl := ⟨[(1, .c (.s .I)), (2, .c (.s (.s .item))), (3, .c .i), (4, .c (.bx 4 0)), (9, .c (.ref 18)), (11, .c .i)], [(4, .boxT (.s .net)), (18, .arr .B true)]⟩
def yq7 (av : AV) (x : HP z07.ps) (n : Nat) (v : y0j.den) (K : Ks (CR z07)) : Option (CR z07) := z32 v.1.2.2.2.2.2.2.1 (fun l2_1 => zu7.at none ((v.1.1, v.1.2.1, v.1.2.2.1, (), (), v.1.2.2.2.2.2.1, ()), (v.2.1, l2_1, ())) (K (.exit 4))) n v.1.2.2.2.2.2.2.2.1 v.2.2.1
def y00 (av : AV) (x : HP z07.ps) : Hdl (CR z07) := hnd [] y0j (yq7 av x)
theorem ys8 : LP z07 Tryz.f201 [1, 0] y00 := lp_ok (W := []) (H := []) (xs := [zu7]) z8y trivial rfl (fun av x v K => by kernel_rfl) (fun av x n v K => by kernel_rfl)
def y41 : Tmpl := ⟨[(1, .c (.s .I)), (2, .c (.s (.s .item))), (3, .c .i), (4, .c (.bx 4 0)), (9, .c (.ref 18)), (10, .c .i)], [(4, .boxT (.s .net)), (18, .arr .B true)]⟩
def y1p : Tmpl := ⟨[(1, .c (.s .I)), (2, .c (.s (.s .item))), (3, .c .i), (4, .c (.bx 4 0)), (9, .c (.ref 18))], [(4, .boxT (.s .net)), (18, .arr .B true)]⟩
def w0w (av : AV) (x : HP z07.ps) (n : Nat) (v : y41.den) (K : Ks (CR z07)) : Option (CR z07) := z28 v.2.1 v.1.1 v.1.2.2.1 (fun l0_1 => y1p.at none ((v.1.1, v.1.2.1, v.1.2.2.1, (), (), ()), (v.2.1, l0_1, ())) (K (.exit 0))) n v.1.2.2.2.2.2.1 v.2.2.1
def y36 (av : AV) (x : HP z07.ps) : Hdl (CR z07) := hnd [] y41 (w0w av x)
theorem w1x : LP z07 Tryz.f201 [0] y36 := lp_ok (W := []) (H := []) (xs := [y1p]) z8y trivial rfl (fun av x v K => by kernel_rfl) (fun av x n v K => by kernel_rfl)
def y42 : Tmpl := ⟨[(1, .c (.s .I)), (2, .c (.s (.s .item))), (3, .c .i), (4, .c (.bx 4 0)), (9, .c (.ref 18)), (11, .c .i)], [(4, .boxT (.s .net)), (18, .arr .B true)]⟩
def y1q : Tmpl := ⟨[(1, .c (.s .I)), (3, .c .i), (4, .c (.bx 4 0)), (9, .c (.ref 18))], [(4, .boxT (.s .net)), (18, .arr .B true)]⟩
def w0x (av : AV) (x : HP z07.ps) (n : Nat) (v : y42.den) (K : Ks (CR z07)) : Option (CR z07) := z17 v.2.1 v.1.2.1 (fun l1_1 => y1q.at none ((v.1.1, v.1.2.2.1, (), (), ()), (v.2.1, l1_1, ())) (K (.exit 2))) n v.1.2.2.2.2.2.1 v.2.2.1
def y37 (av : AV) (x : HP z07.ps) : Hdl (CR z07) := hnd [] y42 (w0x av x)
theorem w1y : LP z07 Tryz.f201 [1] y37 := lp_ok (W := []) (H := [y00]) (xs := [y1q]) z8y ⟨ys8, trivial⟩ rfl (fun av x v K => by kernel_rfl) (fun av x n v K => by kernel_rfl)
def y43 : Tmpl := ⟨[(1, .c (.s .I)), (3, .c .i), (4, .c (.bx 4 0)), (14, .c (.ref 76)), (15, .c .i)], [(4, .boxT (.s .net)), (76, .arr .B true)]⟩
def y1r : Tmpl := ⟨[], []⟩
def w0y (av : AV) (x : HP z07.ps) (n : Nat) (v : y43.den) (K : Ks (CR z07)) : Option (CR z07) := z29 v.2.1 v.1.1 v.1.2.1 v.2.2.1 (y1r.at none ((), ()) (K (.exit 6))) n v.1.2.2.2.2.1
def y38 (av : AV) (x : HP z07.ps) : Hdl (CR z07) := hnd [] y43 (w0y av x)
theorem w1z : LP z07 Tryz.f201 [2] y38 := lp_ok (W := []) (H := []) (xs := [y1r]) z8y trivial rfl (fun av x v K => by kernel_rfl) (fun av x n v K => by kernel_rfl)
theorem w8o : z07.Ok Tryz.prog := fn_ok (k := z07) (fn := Tryz.f201) (W := []) (H := [y36, y37, y38]) Tryz.func201 z8y ⟨w1x, w1y, w1z, trivial⟩ rfl rfl (fun av x => by kernel_rfl)
def y17 (n : GNet) (marks : List Int) (busy : List GItem) (t : Int) : Option Bool := (getI n.tasks t).bind fun x1 => ((zx9 marks x1.in_).bind fun x2 => ((getI n.tasks t).bind fun x3 => (if decide (x3.join = 1) = true then (some x2.2) else (if decide (x3.join = 2) = true then (some x2.1) else (if x2.1 = true then (if x2.2 = true then (some true) else ((zj5 n marks busy t).bind fun x8 => (some (!x8)))) else (some false))))))
def y9s : Con := ⟨165, [.v (.s .net) false, .v (.sl .I) false, .v (.sl (.s .item)) false, .v .I false], [(.B, true)], [], fun x => y17 x.1 x.2.1 x.2.2.1 x.2.2.2.1⟩
def v27 : Fs := ⟨[z5c, z07], [], []⟩
theorem v2k : v27.Ok Tryz.prog := (fsK v03 (fsK w8o fs0))
theorem v3h : y9s.Ok Tryz.prog := fn_ok (k := y9s) (fn := Tryz.f165) (W := []) (H := []) Tryz.func165 v2k trivial rfl rfl (fun av x => by kernel_rfl)
def y70  : Option Bool := some true
def z67 (n : GNet) (busy : List GItem) (kx0_0 : Option Bool) : Nat → Int → Option Bool
  | 0, _ => none
  | n0 + 1, s0_0 => if decide (s0_0 < (busy.length : Int)) = true then ((getI busy s0_0).bind fun x3 => (gd (ok64 ((n.tasks.length : Int) - 1)) ((z03 x3.task 0 ((n.tasks.length : Int) - 1)).bind fun x5 => (if x5 = true then ((getI busy s0_0).bind fun x7 => ((z03 x7.who 1 4).bind fun x8 => (if x8 = true then ((getI busy s0_0).bind fun x10 => ((getI busy s0_0).bind fun x11 => ((getI n.tasks x11.task).bind fun x12 => (gd (ok64 (x12.need - 1)) ((z03 x10.did 0 (x12.need - 1)).bind fun x14 => (if x14 = true then (gd (ok64 (s0_0 + 1)) ((z67 n busy kx0_0 n0) (s0_0 + 1))) else (some false))))))) else (some false)))) else (some false))))) else (kx0_0)
def zj4 (n : GNet) (busy : List GItem) : Option Bool := if decide (6 < (busy.length : Int)) = true then (some false) else (z67 n busy y70 FUEL 0)
def z4b : Con := ⟨88, [.v (.s .net) false, .v (.sl (.s .item)) false], [(.B, true)], [], fun x => zj4 x.1 x.2.1⟩
def ws1 : Fs := ⟨[z0m], [], []⟩
theorem yx3 : ws1.Ok Tryz.prog := (fsK z0v fs0)
def ye8 : Tmpl := ⟨[(1, .c (.s (.s .item))), (2, .c (.bx 2 0)), (5, .c .i)], [(2, .boxT (.s .net))]⟩
def y87 : Tmpl := ⟨[], []⟩
def w66 (av : AV) (x : HP z4b.ps) (n : Nat) (v : ye8.den) (K : Ks (CR z4b)) : Option (CR z4b) := z67 v.2.1 v.1.1 (y87.at none ((), ()) (K (.exit 0))) n v.1.2.2.1
def y9f (av : AV) (x : HP z4b.ps) : Hdl (CR z4b) := hnd [] ye8 (w66 av x)
theorem w85 : LP z4b Tryz.f88 [0] y9f := lp_ok (W := []) (H := []) (xs := [y87]) yx3 trivial rfl (fun av x v K => by kernel_rfl) (fun av x n v K => by kernel_rfl)
theorem w02 : z4b.Ok Tryz.prog := fn_ok (k := z4b) (fn := Tryz.f88) (W := []) (H := [y9f]) Tryz.func88 yx3 ⟨w85, trivial⟩ rfl rfl (fun av x => by kernel_rfl)
def zi0 (n : GNet) (marks : List Int) (busy : List GItem) (t : Int) : Option Bool := (z98 n marks).bind fun x1 => (if x1 = true then ((zj4 n busy).bind fun x3 => (if x3 = true then (gd (ok64 ((n.tasks.length : Int) - 1)) ((z03 t 0 ((n.tasks.length : Int) - 1)).bind fun x6 => (if x6 = true then ((y17 n marks busy t).bind fun x8 => (some x8)) else (some false)))) else (some false))) else (some false))
def zv6 : Con := ⟨100, [.v (.s .net) false, .v (.sl .I) false, .v (.sl (.s .item)) false, .v .I false], [(.B, true)], [], fun x => zi0 x.1 x.2.1 x.2.2.1 x.2.2.2.1⟩
def wq7 : Fs := ⟨[z3a, z4b, z0m, y9s], [], []⟩
theorem wu5 : wq7.Ok Tryz.prog := (fsK y1b (fsK w02 (fsK z0v (fsK v3h fs0))))
theorem yz9 : zv6.Ok Tryz.prog := fn_ok (k := zv6) (fn := Tryz.f100) (W := []) (H := []) Tryz.func100 wu5 trivial rfl rfl (fun av x => by kernel_rfl)
def zi1 (l0_1 : List Int) : Option (List Int) := some l0_1
def z30 (n : GNet) (marks : List Int) (busy : List GItem) (kx0_0 : List Int → Option (List Int)) : Nat → Int → List Int → Option (List Int)
  | 0, _, _ => none
  | n0 + 1, s0_0, l0_1 => if decide (s0_0 < (n.tasks.length : Int)) = true then ((zi0 n marks busy s0_0).bind fun x2 => (if x2 = true then (gd (l0_1.length + [s0_0].length ≤ SMALL) (gd (ok64 (s0_0 + 1)) ((z30 n marks busy kx0_0 n0) (s0_0 + 1) (l0_1 ++ [s0_0])))) else (gd (ok64 (s0_0 + 1)) ((z30 n marks busy kx0_0 n0) (s0_0 + 1) l0_1)))) else (kx0_0 l0_1)
def z2z (n : GNet) (marks : List Int) (busy : List GItem) : Option (List Int) := z30 n marks busy zi1 FUEL 0 ([] : List Int)
def z1s : Con := ⟨99, [.v (.s .net) false, .v (.sl .I) false, .v (.sl (.s .item)) false], [((.sl .I), true)], [], fun x => z2z x.1 x.2.1 x.2.2.1⟩
def w6u : Fs := ⟨[zv6], [], []⟩
theorem y8w : w6u.Ok Tryz.prog := (fsK yz9 fs0)
def y3u : Tmpl := ⟨[(1, .c (.s .I)), (2, .c (.s (.s .item))), (3, .c (.bx 3 0)), (7, .c (.ref 9)), (8, .c .i)], [(3, .boxT (.s .net)), (9, .arr .I true)]⟩
def y1i : Tmpl := ⟨[(7, .c (.ref 9))], [(9, .arr .I true)]⟩
def w0p (av : AV) (x : HP z1s.ps) (n : Nat) (v : y3u.den) (K : Ks (CR z1s)) : Option (CR z1s) := z30 v.2.1 v.1.1 v.1.2.1 (fun l0_1 => y1i.at none (((), ()), (l0_1, ())) (K (.exit 0))) n v.1.2.2.2.2.1 v.2.2.1
def y2z (av : AV) (x : HP z1s.ps) : Hdl (CR z1s) := hnd [] y3u (w0p av x)
theorem w1q : LP z1s Tryz.f99 [0] y2z := lp_ok (W := []) (H := []) (xs := [y1i]) y8w trivial rfl (fun av x v K => by kernel_rfl) (fun av x n v K => by kernel_rfl)
theorem y0b : z1s.Ok Tryz.prog := fn_ok (k := z1s) (fn := Tryz.f99) (W := []) (H := [y2z]) Tryz.func99 y8w ⟨w1q, trivial⟩ rfl rfl (fun av x => by kernel_rfl)
def y3e (l0_1 : List Int) (x10 : Int) (x13 : Int) : Option (List Int) := some (l0_1.set x10.toNat (x13 - 1))
def y3f (l0_1 : List Int) : Option (List Int) := some l0_1
def z3o (n : GNet) (t : Int) (kx0_0 : List Int → Int → Int → Option (List Int)) (kx0_1 : List Int → Option (List Int)) : Nat → Int → List Int → Option (List Int)
  | 0, _, _ => none
  | n0 + 1, s0_0, l0_1 => (getI n.tasks t).bind fun x7 => (if decide (s0_0 < (x7.in_.length : Int)) = true then ((getI n.tasks t).bind fun x9 => ((getI x9.in_ s0_0).bind fun x10 => ((getI l0_1 x10).bind fun x11 => (if decide (0 < x11) = true then ((getI l0_1 x10).bind fun x13 => (gd (ok64 (x13 - 1)) ((getI l0_1 x10).bind fun x15 => ((getI n.tasks t).bind fun x16 => (if decide (x16.join = 2) = true then (kx0_0 l0_1 x10 x13) else (gd (ok64 (s0_0 + 1)) ((z3o n t kx0_0 kx0_1 n0) (s0_0 + 1) (l0_1.set x10.toNat (x13 - 1))))))))) else (gd (ok64 (s0_0 + 1)) ((z3o n t kx0_0 kx0_1 n0) (s0_0 + 1) l0_1)))))) else (kx0_1 l0_1))
def zo8 (n : GNet) (marks : List Int) (t : Int) : Option (List Int) := (z98 n marks).bind fun x1 => (if x1 = true then (gd (ok64 ((n.tasks.length : Int) - 1)) ((z03 t 0 ((n.tasks.length : Int) - 1)).bind fun x4 => (if x4 = true then (gd (([] : List Int).length + marks.length ≤ SMALL) (z3o n t y3e y3f FUEL 0 (([] : List Int) ++ marks))) else (some ([] : List Int))))) else (some ([] : List Int)))
def z41 : Con := ⟨103, [.v (.s .net) false, .v (.sl .I) false, .v .I false], [((.sl .I), true)], [], fun x => zo8 x.1 x.2.1 x.2.2.1⟩
def wc0 : Fs := ⟨[z3a, z0m], [], []⟩
theorem yl0 : wc0.Ok Tryz.prog := (fsK y1b (fsK z0v fs0))
def y7g : Tmpl := ⟨[(2, .c .i), (3, .c (.bx 3 0)), (7, .c (.ref 26)), (8, .c .i)], [(3, .boxT (.s .net)), (26, .arr .I true)]⟩
def zo1 : Tmpl := ⟨[(7, .c (.ref 26))], [(26, .arr .I true)]⟩
def w3t (av : AV) (x : HP z41.ps) (n : Nat) (v : y7g.den) (K : Ks (CR z41)) : Option (CR z41) := z3o v.2.1 v.1.1 (fun l0_1 x10 x13 => zo1.at none (((), ()), ((l0_1.set x10.toNat (x13 - 1)), ())) (K (.exit 0))) (fun l0_1 => zo1.at none (((), ()), (l0_1, ())) (K (.exit 0))) n v.1.2.2.2.1 v.2.2.1
def y6f (av : AV) (x : HP z41.ps) : Hdl (CR z41) := hnd [] y7g (w3t av x)
theorem w4t : LP z41 Tryz.f103 [0] y6f := lp_ok (W := []) (H := []) (xs := [zo1]) yl0 trivial rfl (fun av x v K => by kernel_rfl) (fun av x n v K => by kernel_rfl)
theorem wi8 : z41.Ok Tryz.prog := fn_ok (k := z41) (fn := Tryz.f103) (W := []) (H := [y6f]) Tryz.func103 yl0 ⟨w4t, trivial⟩ rfl rfl (fun av x => by kernel_rfl)
def z96 (who : Int) : Option Bool := (z0c who 1 4).bind fun x1 => (some x1)
def zg8 : Con := ⟨97, [.v .I false], [(.B, true)], [], fun x => z96 x.1⟩
def w6s : Fs := ⟨[z23], [], []⟩
theorem w7h : w6s.Ok Tryz.prog := (fsK z2r fs0)
theorem yc6 : zg8.Ok Tryz.prog := fn_ok (k := zg8) (fn := Tryz.f97) (W := []) (H := []) Tryz.func97 w7h trivial rfl rfl (fun av x => by kernel_rfl)
def zi2 (l0_1 : List Int) (x8 : GFlow) : Option (List Int) := some (l0_1 ++ [x8.to])
def zi3 (l0_1 : List Int) (x13 : GFlow) : Option (List Int) := some (l0_1 ++ [x13.to])
def zi4 (l0_1 : List Int) (x18 : GFlow) : Option (List Int) := some (l0_1 ++ [x18.to])
def y09 (l0_1 : List Int) : Option (List Int) := some l0_1
def z1u (t : GTask) (data : List Int) (kx0_0 : List Int → GFlow → Option (List Int)) (kx0_1 : List Int → GFlow → Option (List Int)) (kx0_2 : List Int → GFlow → Option (List Int)) (kx0_3 : List Int → Option (List Int)) : Nat → Int → List Int → Option (List Int)
  | 0, _, _ => none
  | n0 + 1, s0_0, l0_1 => if decide (s0_0 < (t.out.length : Int)) = true then ((getI t.out s0_0).bind fun x2 => ((z1d x2.if_ data).bind fun x3 => (if x3 = true then (if decide (t.split = 3) = true then (gd (ok64 ((t.out.length : Int) - 1)) (if decide (s0_0 < ((t.out.length : Int) - 1)) = true then ((getI t.out s0_0).bind fun x8 => (gd (l0_1.length + [x8.to].length ≤ SMALL) (if decide (t.split = 2) = true then (kx0_0 l0_1 x8) else (gd (ok64 (s0_0 + 1)) ((z1u t data kx0_0 kx0_1 kx0_2 kx0_3 n0) (s0_0 + 1) (l0_1 ++ [x8.to])))))) else (if decide ((l0_1.length : Int) = 0) = true then ((getI t.out s0_0).bind fun x13 => (gd (l0_1.length + [x13.to].length ≤ SMALL) (if decide (t.split = 2) = true then (kx0_1 l0_1 x13) else (gd (ok64 (s0_0 + 1)) ((z1u t data kx0_0 kx0_1 kx0_2 kx0_3 n0) (s0_0 + 1) (l0_1 ++ [x13.to])))))) else (gd (ok64 (s0_0 + 1)) ((z1u t data kx0_0 kx0_1 kx0_2 kx0_3 n0) (s0_0 + 1) l0_1))))) else ((getI t.out s0_0).bind fun x18 => (gd (l0_1.length + [x18.to].length ≤ SMALL) (if decide (t.split = 2) = true then (kx0_2 l0_1 x18) else (gd (ok64 (s0_0 + 1)) ((z1u t data kx0_0 kx0_1 kx0_2 kx0_3 n0) (s0_0 + 1) (l0_1 ++ [x18.to]))))))) else (gd (ok64 (s0_0 + 1)) ((z1u t data kx0_0 kx0_1 kx0_2 kx0_3 n0) (s0_0 + 1) l0_1))))) else (kx0_3 l0_1)
def y13 (t : GTask) (data : List Int) : Option (List Int) := z1u t data zi2 zi3 zi4 y09 FUEL 0 ([] : List Int)
def z6i : Con := ⟨205, [.v (.s .task) false, .v (.sl .I) false], [((.sl .I), true)], [], fun x => y13 x.1 x.2.1⟩
def v25 : Fs := ⟨[z4h], [], []⟩
theorem w2w : v25.Ok Tryz.prog := (fsK z7n fs0)
def yq0 : Tmpl := ⟨[(1, .c (.s .I)), (2, .c (.bx 2 0)), (5, .c (.ref 7)), (6, .c .i)], [(2, .boxT (.s .task)), (7, .arr .I true)]⟩
def z9f : Tmpl := ⟨[(5, .c (.ref 49))], [(49, .arr .I true)]⟩
def w9z (av : AV) (x : HP z6i.ps) (n : Nat) (v : yq0.den) (K : Ks (CR z6i)) : Option (CR z6i) := z1u v.2.1 v.1.1 (fun l0_1 x8 => z9f.at none (((), ()), ((l0_1 ++ [x8.to]), ())) (K (.exit 0))) (fun l0_1 x13 => z9f.at none (((), ()), ((l0_1 ++ [x13.to]), ())) (K (.exit 0))) (fun l0_1 x18 => z9f.at none (((), ()), ((l0_1 ++ [x18.to]), ())) (K (.exit 0))) (fun l0_1 => z9f.at none (((), ()), (l0_1, ())) (K (.exit 0))) n v.1.2.2.2.1 v.2.2.1
def yn6 (av : AV) (x : HP z6i.ps) : Hdl (CR z6i) := hnd [] yq0 (w9z av x)
theorem wh0 : LP z6i Tryz.f205 [0] yn6 := lp_ok (W := []) (H := []) (xs := [z9f]) w2w trivial rfl (fun av x v K => by kernel_rfl) (fun av x n v K => by kernel_rfl)
theorem v3g : z6i.Ok Tryz.prog := fn_ok (k := z6i) (fn := Tryz.f205) (W := []) (H := [yn6]) Tryz.func205 w2w ⟨wh0, trivial⟩ rfl rfl (fun av x => by kernel_rfl)
def z9s (l1_1 : List Int) : Option ((List Int) × Bool) := some (l1_1, true)
def z5q (x16 : (List Int)) (kx1_0 : List Int → Option ((List Int) × Bool)) : Nat → Int → List Int → Option ((List Int) × Bool)
  | 0, _, _ => none
  | n1 + 1, s1_0, l1_1 => if decide (s1_0 < (x16.length : Int)) = true then ((getI x16 s1_0).bind fun x18 => ((getI l1_1 x18).bind fun x19 => (if decide (x19 = 4) = true then (some (([] : List Int), false)) else ((getI x16 s1_0).bind fun x21 => ((getI x16 s1_0).bind fun x22 => ((getI l1_1 x22).bind fun x23 => (gd (ok64 (x23 + 1)) ((getI l1_1 x21).bind fun x25 => (gd (ok64 (s1_0 + 1)) ((z5q x16 kx1_0 n1) (s1_0 + 1) (l1_1.set x21.toNat (x23 + 1)))))))))))) else (kx1_0 l1_1)
def z9r (n : GNet) (t : Int) (data : List Int) (l0_1 : List Int) : Option ((List Int) × Bool) := (getI n.tasks t).bind fun x15 => ((y13 x15 data).bind fun x16 => (z5q x16 z9s FUEL 0 l0_1))
def z5p (n : GNet) (t : Int) (kx0_0 : List Int → Option ((List Int) × Bool)) : Nat → Int → List Int → Option ((List Int) × Bool)
  | 0, _, _ => none
  | n0 + 1, s0_0, l0_1 => (getI n.tasks t).bind fun x9 => (if decide (s0_0 < (x9.clear.length : Int)) = true then ((getI n.tasks t).bind fun x11 => ((getI x11.clear s0_0).bind fun x12 => ((getI l0_1 x12).bind fun x13 => (gd (ok64 (s0_0 + 1)) ((z5p n t kx0_0 n0) (s0_0 + 1) (l0_1.set x12.toNat 0)))))) else (kx0_0 l0_1))
def zo9 (n : GNet) (marks : List Int) (t : Int) (data : List Int) : Option ((List Int) × Bool) := (z98 n marks).bind fun x1 => (if x1 = true then (gd (ok64 ((n.tasks.length : Int) - 1)) ((z03 t 0 ((n.tasks.length : Int) - 1)).bind fun x4 => (if x4 = true then ((z2p data).bind fun x6 => (if x6 = true then (gd (([] : List Int).length + marks.length ≤ SMALL) (z5p n t (z9r n t data) FUEL 0 (([] : List Int) ++ marks))) else (some (([] : List Int), false)))) else (some (([] : List Int), false))))) else (some (([] : List Int), false)))
def z0y : Con := ⟨172, [.v (.s .net) false, .v (.sl .I) false, .v .I false, .v (.sl .I) false], [((.sl .I), true), (.B, true)], [], fun x => zo9 x.1 x.2.1 x.2.2.1 x.2.2.2.1⟩
def wc1 : Fs := ⟨[z3a, z0m, z18, z6i], [], []⟩
theorem y1x : wc1.Ok Tryz.prog := (fsK y1b (fsK z0v (fsK z6u (fsK v3g fs0))))
def y7h : Tmpl := ⟨[(2, .c .i), (3, .c (.s .I)), (4, .c (.bx 4 0)), (10, .c (.ref 35)), (11, .c .i)], [(4, .boxT (.s .net)), (35, .arr .I true)]⟩
def y4c : Tmpl := ⟨[(2, .c .i), (3, .c (.s .I)), (4, .c (.bx 4 0)), (10, .c (.ref 35))], [(4, .boxT (.s .net)), (35, .arr .I true)]⟩
def w3u (av : AV) (x : HP z0y.ps) (n : Nat) (v : y7h.den) (K : Ks (CR z0y)) : Option (CR z0y) := z5p v.2.1 v.1.1 (fun l0_1 => y4c.at none ((v.1.1, v.1.2.1, (), (), ()), (v.2.1, l0_1, ())) (K (.exit 0))) n v.1.2.2.2.2.1 v.2.2.1
def y6g (av : AV) (x : HP z0y.ps) : Hdl (CR z0y) := hnd [] y7h (w3u av x)
theorem w4u : LP z0y Tryz.f172 [0] y6g := lp_ok (W := []) (H := []) (xs := [y4c]) y1x trivial rfl (fun av x v K => by kernel_rfl) (fun av x n v K => by kernel_rfl)
def y7i : Tmpl := ⟨[(10, .c (.ref 35)), (12, .c (.ref 64)), (13, .c .i)], [(35, .arr .I true), (64, .arr .I true)]⟩
def y4d : Tmpl := ⟨[(10, .c (.ref 35))], [(35, .arr .I true)]⟩
def w3v (av : AV) (x : HP z0y.ps) (n : Nat) (v : y7i.den) (K : Ks (CR z0y)) : Option (CR z0y) := z5q v.2.2.1 (fun l1_1 => y4d.at none (((), ()), (l1_1, ())) (K (.exit 2))) n v.1.2.2.1 v.2.1
def y6h (av : AV) (x : HP z0y.ps) : Hdl (CR z0y) := hnd [] y7i (w3v av x)
theorem w4v : LP z0y Tryz.f172 [1] y6h := lp_ok (W := []) (H := []) (xs := [y4d]) y1x trivial rfl (fun av x v K => by kernel_rfl) (fun av x n v K => by kernel_rfl)
theorem wi9 : z0y.Ok Tryz.prog := fn_ok (k := z0y) (fn := Tryz.f172) (W := []) (H := [y6g, y6h]) Tryz.func172 y1x ⟨w4u, w4v, trivial⟩ rfl rfl (fun av x => by kernel_rfl)
def yb0  : Option Bool := some true
def z7j (people : List Int) (kx0_0 : Option Bool) : Nat → Int → Option Bool
  | 0, _ => none
  | n0 + 1, s0_0 => if decide (s0_0 < (people.length : Int)) = true then ((getI people s0_0).bind fun x4 => ((z03 x4 0 7).bind fun x5 => (if x5 = true then (gd (ok64 (s0_0 + 1)) ((z7j people kx0_0 n0) (s0_0 + 1))) else (some false)))) else (kx0_0)
def z99 (people : List Int) : Option Bool := (z03 (people.length : Int) 1 4).bind fun x1 => (if x1 = true then (z7j people yb0 FUEL 0) else (some false))
def z3b : Con := ⟨44, [.v (.sl .I) false], [(.B, true)], [], fun x => z99 x.1⟩
def v23 : Fs := ⟨[z0m], [], []⟩
theorem w2v : v23.Ok Tryz.prog := (fsK z0v fs0)
def yp8 : Tmpl := ⟨[(0, .c (.s .I)), (3, .c .i)], []⟩
def yh0 : Tmpl := ⟨[], []⟩
def w9x (av : AV) (x : HP z3b.ps) (n : Nat) (v : yp8.den) (K : Ks (CR z3b)) : Option (CR z3b) := z7j v.1.1 (yh0.at none ((), ()) (K (.exit 0))) n v.1.2.1
def yn4 (av : AV) (x : HP z3b.ps) : Hdl (CR z3b) := hnd [] yp8 (w9x av x)
theorem wg8 : LP z3b Tryz.f44 [0] yn4 := lp_ok (W := []) (H := []) (xs := [yh0]) w2v trivial rfl (fun av x v K => by kernel_rfl) (fun av x n v K => by kernel_rfl)
theorem y1c : z3b.Ok Tryz.prog := fn_ok (k := z3b) (fn := Tryz.f44) (W := []) (H := [yn4]) Tryz.func44 w2v ⟨wg8, trivial⟩ rfl rfl (fun av x => by kernel_rfl)
def z65 (s0_0 : Int) : Option Bool := gd ((2 : Int) ≠ 0) (some (decide ((Int.tmod s0_0 2) = 1)))
def z2j (role : Int) (kx0_0 : Int → Option Bool) : Nat → Int → Int → Option Bool
  | 0, _, _ => none
  | n0 + 1, s0_0, s0_1 => if decide (s0_1 < role) = true then (gd ((2 : Int) ≠ 0 ∧ ok64 (Int.tdiv s0_0 2)) (gd (ok64 (s0_1 + 1)) ((z2j role kx0_0 n0) (Int.tdiv s0_0 2) (s0_1 + 1)))) else (kx0_0 s0_0)
def zx3 (people : List Int) (who : Int) (role : Int) : Option Bool := (z99 people).bind fun x1 => (if x1 = true then ((z03 who 1 (people.length : Int)).bind fun x3 => (if x3 = true then ((z03 role 1 3).bind fun x5 => (if x5 = true then (gd (ok64 (who - 1)) ((getI people (who - 1)).bind fun x8 => (z2j role z65 FUEL x8 1))) else (some false))) else (some false))) else (some false))
def z5b : Con := ⟨166, [.v (.sl .I) false, .v .I false, .v .I false], [(.B, true)], [], fun x => zx3 x.1 x.2.1 x.2.2.1⟩
def wr1 : Fs := ⟨[z3b, z0m], [], []⟩
theorem yx1 : wr1.Ok Tryz.prog := (fsK y1c (fsK z0v fs0))
def ye5 : Tmpl := ⟨[(2, .c .i), (7, .c .i), (8, .c .i)], []⟩
def y84 : Tmpl := ⟨[(7, .c .i)], []⟩
def w63 (av : AV) (x : HP z5b.ps) (n : Nat) (v : ye5.den) (K : Ks (CR z5b)) : Option (CR z5b) := z2j v.1.1 (fun s0_0 => y84.at none ((s0_0, ()), ()) (K (.exit 0))) n v.1.2.1 v.1.2.2.1
def y9c (av : AV) (x : HP z5b.ps) : Hdl (CR z5b) := hnd [] ye5 (w63 av x)
theorem w82 : LP z5b Tryz.f166 [0] y9c := lp_ok (W := []) (H := []) (xs := [y84]) yx1 trivial rfl (fun av x v K => by kernel_rfl) (fun av x n v K => by kernel_rfl)
theorem wz7 : z5b.Ok Tryz.prog := fn_ok (k := z5b) (fn := Tryz.f166) (W := []) (H := [y9c]) Tryz.func166 yx1 ⟨w82, trivial⟩ rfl rfl (fun av x => by kernel_rfl)
def y6y  : Option Bool := some false
def z4y (did : List GDid) (who : Int) (task : Int) (kx0_0 : Option Bool) : Nat → Int → Option Bool
  | 0, _ => none
  | n0 + 1, s0_0 => if decide (s0_0 < (did.length : Int)) = true then ((getI did s0_0).bind fun x2 => (if decide (x2.who = who) = true then ((getI did s0_0).bind fun x4 => (if decide (x4.task = task) = true then (some true) else (gd (ok64 (s0_0 + 1)) ((z4y did who task kx0_0 n0) (s0_0 + 1))))) else (gd (ok64 (s0_0 + 1)) ((z4y did who task kx0_0 n0) (s0_0 + 1))))) else (kx0_0)
def zx2 (did : List GDid) (who : Int) (task : Int) : Option Bool := z4y did who task y6y FUEL 0
def z5a : Con := ⟨167, [.v (.sl (.s .did)) false, .v .I false, .v .I false], [(.B, true)], [], fun x => zx2 x.1 x.2.1 x.2.2.1⟩
def wr0 : Fs := ⟨[], [], []⟩
theorem yx0 : wr0.Ok Tryz.prog := fs0
def ye4 : Tmpl := ⟨[(0, .c (.s (.s .did))), (1, .c .i), (2, .c .i), (7, .c .i)], []⟩
def y83 : Tmpl := ⟨[], []⟩
def w62 (av : AV) (x : HP z5a.ps) (n : Nat) (v : ye4.den) (K : Ks (CR z5a)) : Option (CR z5a) := z4y v.1.1 v.1.2.1 v.1.2.2.1 (y83.at none ((), ()) (K (.exit 0))) n v.1.2.2.2.1
def y9b (av : AV) (x : HP z5a.ps) : Hdl (CR z5a) := hnd [] ye4 (w62 av x)
theorem w81 : LP z5a Tryz.f167 [0] y9b := lp_ok (W := []) (H := []) (xs := [y83]) yx0 trivial rfl (fun av x v K => by kernel_rfl) (fun av x n v K => by kernel_rfl)
theorem wz6 : z5a.Ok Tryz.prog := fn_ok (k := z5a) (fn := Tryz.f167) (W := []) (H := [y9b]) Tryz.func167 yx0 ⟨w81, trivial⟩ rfl rfl (fun av x => by kernel_rfl)
def y6z (n : GNet) (people : List Int) (did : List GDid) (t : Int) (s0_0 : Int) (l0_1 : List Int) (bk0 : Int → List Int → Option (List Int)) (s1_0 : Bool) : Option (List Int) := (getI n.tasks t).bind fun x18 => ((zx3 people s0_0 x18.role).bind fun x19 => (if x19 = true then (if s1_0 = true then (gd (ok64 (s0_0 + 1)) (bk0 (s0_0 + 1) l0_1)) else ((getI n.tasks t).bind fun x23 => ((zx2 did s0_0 x23.apart).bind fun x24 => (if x24 = true then (gd (ok64 (s0_0 + 1)) (bk0 (s0_0 + 1) l0_1)) else (gd (l0_1.length + [s0_0].length ≤ SMALL) (gd (ok64 (s0_0 + 1)) (bk0 (s0_0 + 1) (l0_1 ++ [s0_0])))))))) else (gd (ok64 (s0_0 + 1)) (bk0 (s0_0 + 1) l0_1))))
def z2k (n : GNet) (busy : List GItem) (t : Int) (s0_0 : Int) (kx1_0 : Bool → Option (List Int)) : Nat → Bool → Int → Option (List Int)
  | 0, _, _ => none
  | n1 + 1, s1_0, s1_1 => if decide (s1_1 < (busy.length : Int)) = true then (if s1_0 = true then (gd (ok64 (s1_1 + 1)) ((z2k n busy t s0_0 kx1_0 n1) true (s1_1 + 1))) else ((getI busy s1_1).bind fun x12 => (if decide (x12.who = s0_0) = true then ((getI busy s1_1).bind fun x14 => ((getI n.tasks t).bind fun x15 => (gd (ok64 (s1_1 + 1)) ((z2k n busy t s0_0 kx1_0 n1) (decide (x14.task = x15.apart)) (s1_1 + 1))))) else (gd (ok64 (s1_1 + 1)) ((z2k n busy t s0_0 kx1_0 n1) false (s1_1 + 1)))))) else (kx1_0 s1_0)
def zs8 (l0_1 : List Int) : Option (List Int) := some l0_1
def z66 (n : GNet) (people : List Int) (did : List GDid) (busy : List GItem) (t : Int) (kx0_0 : List Int → Option (List Int)) : Nat → Int → List Int → Option (List Int)
  | 0, _, _ => none
  | n0 + 1, s0_0, l0_1 => if decide (s0_0 ≤ (people.length : Int)) = true then (z2k n busy t s0_0 (y6z n people did t s0_0 l0_1 (z66 n people did busy t kx0_0 n0)) FUEL false 0) else (kx0_0 l0_1)
def z9t (n : GNet) (people : List Int) (did : List GDid) (busy : List GItem) (t : Int) : Option (List Int) := (z3e n).bind fun x1 => (if x1 = true then ((z99 people).bind fun x3 => (if x3 = true then (gd (ok64 ((n.tasks.length : Int) - 1)) ((z03 t 0 ((n.tasks.length : Int) - 1)).bind fun x6 => (if x6 = true then (z66 n people did busy t zs8 FUEL 1 ([] : List Int)) else (some ([] : List Int))))) else (some ([] : List Int)))) else (some ([] : List Int)))
def z12 : Con := ⟨102, [.v (.s .net) false, .v (.sl .I) false, .v (.sl (.s .did)) false, .v (.sl (.s .item)) false, .v .I false], [((.sl .I), true)], [], fun x => z9t x.1 x.2.1 x.2.2.1 x.2.2.2.1 x.2.2.2.2.1⟩
def wr2 : Fs := ⟨[z2n, z3b, z0m, z5b, z5a], [], []⟩
theorem y4y : wr2.Ok Tryz.prog := (fsK zr7 (fsK y1c (fsK z0v (fsK wz7 (fsK wz6 fs0)))))
def y3v : Tmpl := ⟨[(1, .c (.s .I)), (2, .c (.s (.s .did))), (3, .c (.s (.s .item))), (4, .c .i), (5, .c (.bx 5 0)), (11, .c (.ref 15)), (12, .c .i), (13, .c .b), (14, .c .i)], [(5, .boxT (.s .net)), (15, .arr .I true)]⟩
def y1j : Tmpl := ⟨[(1, .c (.s .I)), (2, .c (.s (.s .did))), (3, .c (.s (.s .item))), (4, .c .i), (5, .c (.bx 5 0)), (11, .c (.ref 15)), (12, .c .i), (13, .c .b)], [(5, .boxT (.s .net)), (15, .arr .I true)]⟩
def w0q (av : AV) (x : HP z12.ps) (n : Nat) (v : y3v.den) (K : Ks (CR z12)) : Option (CR z12) := z2k v.2.1 v.1.2.2.1 v.1.2.2.2.1 v.1.2.2.2.2.2.2.1 (fun s1_0 => y1j.at none ((v.1.1, v.1.2.1, v.1.2.2.1, v.1.2.2.2.1, (), (), v.1.2.2.2.2.2.2.1, s1_0, ()), (v.2.1, v.2.2.1, ())) (K (.exit 2))) n v.1.2.2.2.2.2.2.2.1 v.1.2.2.2.2.2.2.2.2.1
def y30 (av : AV) (x : HP z12.ps) : Hdl (CR z12) := hnd [] y3v (w0q av x)
theorem w1r : LP z12 Tryz.f102 [0, 0] y30 := lp_ok (W := []) (H := []) (xs := [y1j]) y4y trivial rfl (fun av x v K => by kernel_rfl) (fun av x n v K => by kernel_rfl)
def ye6 : Tmpl := ⟨[(1, .c (.s .I)), (2, .c (.s (.s .did))), (3, .c (.s (.s .item))), (4, .c .i), (5, .c (.bx 5 0)), (11, .c (.ref 15)), (12, .c .i)], [(5, .boxT (.s .net)), (15, .arr .I true)]⟩
def y85 : Tmpl := ⟨[(11, .c (.ref 15))], [(15, .arr .I true)]⟩
def w64 (av : AV) (x : HP z12.ps) (n : Nat) (v : ye6.den) (K : Ks (CR z12)) : Option (CR z12) := z66 v.2.1 v.1.1 v.1.2.1 v.1.2.2.1 v.1.2.2.2.1 (fun l0_1 => y85.at none (((), ()), (l0_1, ())) (K (.exit 0))) n v.1.2.2.2.2.2.2.1 v.2.2.1
def y9d (av : AV) (x : HP z12.ps) : Hdl (CR z12) := hnd [] ye6 (w64 av x)
theorem w83 : LP z12 Tryz.f102 [0] y9d := lp_ok (W := []) (H := [y30]) (xs := [y85]) y4y ⟨w1r, trivial⟩ rfl (fun av x v K => by kernel_rfl) (fun av x n v K => by kernel_rfl)
theorem w00 : z12.Ok Tryz.prog := fn_ok (k := z12) (fn := Tryz.f102) (W := []) (H := [y9d]) Tryz.func102 y4y ⟨w83, trivial⟩ rfl rfl (fun av x => by kernel_rfl)
def z9p (n : GNet) (data : List Int) : Option GCase := (z3e n).bind fun x1 => (if x1 = true then ((z2p data).bind fun x3 => (if x3 = true then (gd ((0 : Int) ≤ n.places ∧ n.places ≤ (1000000000 : Int)) (gd (([] : List Int).length + data.length ≤ SMALL) ((getI (List.replicate n.places.toNat (0 : Int)) 0).bind fun x7 => (some (GCase.mk 1 ((List.replicate n.places.toNat (0 : Int)).set (0 : Int).toNat 1) [] (([] : List Int) ++ data) []))))) else (some (GCase.mk 0 [] [] [] [])))) else (some (GCase.mk 0 [] [] [] [])))
def zv4 : Con := ⟨155, [.v (.s .net) false, .v (.sl .I) false], [((.s .kase), true)], [], fun x => z9p x.1 x.2.1⟩
def wq5 : Fs := ⟨[z2n, z18], [], []⟩
theorem wu3 : wq5.Ok Tryz.prog := (fsK zr7 (fsK z6u fs0))
theorem yz6 : zv4.Ok Tryz.prog := fn_ok (k := zv4) (fn := Tryz.f155) (W := []) (H := []) Tryz.func155 wu3 trivial rfl rfl (fun av x => by kernel_rfl)
def zh9 (c : GCase) : Option Bool := if decide (c.state = 1) = true then ((getI c.marks 1).bind fun x20 => (some (decide (x20 = 0)))) else (if decide ((c.busy.length : Int) = 0) = true then ((getI c.marks 1).bind fun x22 => (some ((decide (c.state = 2)) == (decide (0 < x22))))) else (some false))
def z7c (n : GNet) (c : GCase) (kx0_0 : Option Bool) : Nat → Int → Option Bool
  | 0, _ => none
  | n0 + 1, s0_0 => if decide (s0_0 < (c.did.length : Int)) = true then ((getI c.did s0_0).bind fun x11 => (gd (ok64 ((n.tasks.length : Int) - 1)) ((z03 x11.task 0 ((n.tasks.length : Int) - 1)).bind fun x13 => (if x13 = true then ((getI c.did s0_0).bind fun x15 => ((z03 x15.who 1 4).bind fun x16 => (if x16 = true then (gd (ok64 (s0_0 + 1)) ((z7c n c kx0_0 n0) (s0_0 + 1))) else (some false)))) else (some false))))) else (kx0_0)
def z97 (n : GNet) (c : GCase) : Option Bool := (z98 n c.marks).bind fun x1 => (if x1 = true then ((zj4 n c.busy).bind fun x3 => (if x3 = true then ((z2p c.data).bind fun x5 => (if x5 = true then (if decide (60 < (c.did.length : Int)) = true then (some false) else ((z03 c.state 1 3).bind fun x8 => (if x8 = true then (z7c n c (zh9 c) FUEL 0) else (some false)))) else (some false))) else (some false))) else (some false))
def z39 : Con := ⟨25, [.v (.s .net) false, .v (.s .kase) false], [(.B, true)], [], fun x => z97 x.1 x.2.1⟩
def v1w : Fs := ⟨[z3a, z4b, z18, z0m], [], []⟩
theorem w2p : v1w.Ok Tryz.prog := (fsK y1b (fsK w02 (fsK z6u (fsK z0v fs0))))
def yp2 : Tmpl := ⟨[(2, .c (.bx 2 0)), (3, .c (.bx 3 0)), (5, .c .i)], [(2, .boxT (.s .net)), (3, .boxT (.s .kase))]⟩
def yg4 : Tmpl := ⟨[(3, .c (.bx 3 0))], [(3, .boxT (.s .kase))]⟩
def w9r (av : AV) (x : HP z39.ps) (n : Nat) (v : yp2.den) (K : Ks (CR z39)) : Option (CR z39) := z7c v.2.1 v.2.2.1 (yg4.at none (((), ()), (v.2.2.1, ())) (K (.exit 0))) n v.1.2.2.1
def ym8 (av : AV) (x : HP z39.ps) : Hdl (CR z39) := hnd [] yp2 (w9r av x)
theorem wg2 : LP z39 Tryz.f25 [0] ym8 := lp_ok (W := []) (H := []) (xs := [yg4]) w2p trivial rfl (fun av x v K => by kernel_rfl) (fun av x n v K => by kernel_rfl)
theorem y1a : z39.Ok Tryz.prog := fn_ok (k := z39) (fn := Tryz.f25) (W := []) (H := [ym8]) Tryz.func25 w2p ⟨wg2, trivial⟩ rfl rfl (fun av x => by kernel_rfl)
def z6s (c : GCase) : Option GCase := gd (([] : List Int).length + c.marks.length ≤ SMALL) (gd (([] : List GItem).length + c.busy.length ≤ SMALL) (gd (([] : List Int).length + c.data.length ≤ SMALL) (gd (([] : List GDid).length + c.did.length ≤ SMALL) (some (GCase.mk c.state (([] : List Int) ++ c.marks) (([] : List GItem) ++ c.busy) (([] : List Int) ++ c.data) (([] : List GDid) ++ c.did))))))
def z9i : Con := ⟨86, [.v (.s .kase) false], [((.s .kase), true)], [], fun x => z6s x.1⟩
def ws3 : Fs := ⟨[], [], []⟩
theorem wv3 : ws3.Ok Tryz.prog := fs0
theorem zy6 : z9i.Ok Tryz.prog := fn_ok (k := z9i) (fn := Tryz.f86) (W := []) (H := []) Tryz.func86 wv3 trivial rfl rfl (fun av x => by kernel_rfl)
def z7d (n : GNet) (people : List Int) (c : GCase) (t : Int) (who : Int) : Option (GCase × Bool) := (z6s c).bind fun x1 => ((z97 n c).bind fun x2 => (if x2 = true then (if decide (c.state = 1) = true then ((zi0 n c.marks c.busy t).bind fun x5 => (if x5 = true then ((z9t n people c.did c.busy t).bind fun x7 => ((ze5 x7 who).bind fun x8 => (if x8 = true then (if decide ((c.busy.length : Int) = 6) = true then (some (x1, false)) else ((zo8 n c.marks t).bind fun x11 => (gd (x1.busy.length + [(GItem.mk t who 0)].length ≤ SMALL) (some ((GCase.mk x1.state x11 (x1.busy ++ [(GItem.mk t who 0)]) x1.data x1.did), true))))) else (some (x1, false))))) else (some (x1, false)))) else (some (x1, false))) else (some (x1, false))))
def zg9 : Con := ⟨32, [.v (.s .net) false, .v (.sl .I) false, .v (.s .kase) false, .v .I false, .v .I false], [((.s .kase), true), (.B, true)], [], fun x => z7d x.1 x.2.1 x.2.2.1 x.2.2.2.1 x.2.2.2.2.1⟩
def w6t : Fs := ⟨[z9i, z39, zv6, z12, z4i, z41], [], []⟩
theorem w7i : w6t.Ok Tryz.prog := (fsK zy6 (fsK y1a (fsK yz9 (fsK w00 (fsK yd0 (fsK wi8 fs0))))))
theorem yc7 : zg9.Ok Tryz.prog := fn_ok (k := zg9) (fn := Tryz.f32) (W := []) (H := []) Tryz.func32 w7i trivial rfl rfl (fun av x => by kernel_rfl)
def zb3 (n : GNet) (c : GCase) (k : Int) (v : Int) (num : Int) : Option (GCase × Bool) := (z6s c).bind fun x1 => ((z97 n c).bind fun x2 => (if x2 = true then (if decide (c.state = 1) = true then (gd (ok64 ((c.busy.length : Int) - 1)) ((z03 k 0 ((c.busy.length : Int) - 1)).bind fun x6 => (if x6 = true then ((z03 v (-1) 2).bind fun x8 => (if x8 = true then ((z03 num (-99) 99).bind fun x10 => (if x10 = true then (if decide ((c.did.length : Int) = 60) = true then (some (x1, false)) else ((getI c.busy k).bind fun x13 => ((z80 c.data v num).bind fun x14 => (gd (ok64 (x13.did + 1)) ((getI x1.busy k).bind fun x16 => (gd (ok64 (x13.did + 1)) ((getI n.tasks x13.task).bind fun x18 => (if decide ((x13.did + 1) < x18.need) = true then (some ((GCase.mk x1.state x1.marks (x1.busy.set k.toNat (GItem.mk x16.task x16.who (x13.did + 1))) x14 x1.did), true)) else ((zo9 n c.marks x13.task x14).bind fun x20 => (if x20.2 = true then (gd ((0 : Int) ≤ k ∧ k ≤ (c.busy.length : Int)) (gd (([] : List GItem).length + (c.busy.take k.toNat).length ≤ SMALL) (gd (ok64 (k + 1)) (gd ((0 : Int) ≤ (k + 1) ∧ (k + 1) ≤ (c.busy.length : Int)) (gd ((([] : List GItem) ++ (c.busy.take k.toNat)).length + (c.busy.drop (k + 1).toNat).length ≤ SMALL) (gd (x1.did.length + [(GDid.mk x13.task x13.who)].length ≤ SMALL) ((getI x20.1 1).bind fun x28 => (if decide (0 < x28) = true then (some ((GCase.mk 2 x20.1 ([] : List GItem) x14 (x1.did ++ [(GDid.mk x13.task x13.who)])), true)) else (some ((GCase.mk x1.state x20.1 ((([] : List GItem) ++ (c.busy.take k.toNat)) ++ (c.busy.drop (k + 1).toNat)) x14 (x1.did ++ [(GDid.mk x13.task x13.who)])), true)))))))))) else ((z6s c).bind fun x30 => (some (x30, false))))))))))))) else (some (x1, false)))) else (some (x1, false)))) else (some (x1, false))))) else (some (x1, false))) else (some (x1, false))))
def zo3 : Con := ⟨112, [.v (.s .net) false, .v (.s .kase) false, .v .I false, .v .I false, .v .I false], [((.s .kase), true), (.B, true)], [], fun x => zb3 x.1 x.2.1 x.2.2.1 x.2.2.2.1 x.2.2.2.2.1⟩
def wb9 : Fs := ⟨[z9i, z39, z0m, zv5, z0y], [], []⟩
theorem we8 : wb9.Ok Tryz.prog := (fsK zy6 (fsK y1a (fsK z0v (fsK yz7 (fsK wi9 fs0)))))
theorem yo1 : zo3.Ok Tryz.prog := fn_ok (k := zo3) (fn := Tryz.f112) (W := []) (H := []) Tryz.func112 we8 trivial rfl rfl (fun av x => by kernel_rfl)
def zo7 (n : GNet) (c : GCase) : Option (GCase × Bool) := (z6s c).bind fun x1 => ((z97 n c).bind fun x2 => (if x2 = true then (if decide (c.state = 1) = true then (some ((GCase.mk 3 x1.marks ([] : List GItem) x1.data x1.did), true)) else (some (x1, false))) else (some (x1, false))))
def y23 : Con := ⟨23, [.v (.s .net) false, .v (.s .kase) false], [((.s .kase), true), (.B, true)], [], fun x => zo7 x.1 x.2.1⟩
def wb8 : Fs := ⟨[z9i, z39], [], []⟩
theorem we7 : wb8.Ok Tryz.prog := (fsK zy6 (fsK y1a fs0))
theorem wi7 : y23.Ok Tryz.prog := fn_ok (k := y23) (fn := Tryz.f23) (W := []) (H := []) Tryz.func23 we7 trivial rfl rfl (fun av x => by kernel_rfl)
def z08 (c : GCase) : Option GCase := (z0g c.marks).bind fun x1 => (gd (([] : List GItem).length + c.busy.length ≤ SMALL) ((z0g c.data).bind fun x3 => (gd (([] : List GDid).length + c.did.length ≤ SMALL) (some (GCase.mk c.state x1 (([] : List GItem) ++ c.busy) x3 (([] : List GDid) ++ c.did))))))
def z34 : Con := ⟨84, [.v (.s .kase) false], [((.s .kase), true)], [], fun x => z08 x.1⟩
def yj4 : Fs := ⟨[z1c], [], []⟩
theorem yk0 : yj4.Ok Tryz.prog := (fsK z2l fs0)
theorem z71 : z34.Ok Tryz.prog := fn_ok (k := z34) (fn := Tryz.f84) (W := []) (H := []) Tryz.func84 yk0 trivial rfl rfl (fun av x => by kernel_rfl)
def yb1 (s0_0 : Int) (bk0 : Int → Option Bool) (s1_0 : Int) : Option Bool := if ((decide (s0_0 = 0)) == (decide (s1_0 = 0))) = true then (if decide (1 < s1_0) = true then (some false) else (gd (ok64 (s0_0 + 1)) (bk0 (s0_0 + 1)))) else (some false)
def z14 (tree : List GNode) (s0_0 : Int) (kx1_0 : Int → Option Bool) : Nat → Int → Int → Option Bool
  | 0, _, _ => none
  | n1 + 1, s1_0, s1_1 => if decide (s1_1 < (tree.length : Int)) = true then ((getI tree s1_1).bind fun x15 => (if decide (x15.yes = s0_0) = true then (gd (ok64 (s1_0 + 1)) ((getI tree s1_1).bind fun x18 => (if decide (x18.no = s0_0) = true then (gd (ok64 ((s1_0 + 1) + 1)) (gd (ok64 (s1_1 + 1)) ((z14 tree s0_0 kx1_0 n1) ((s1_0 + 1) + 1) (s1_1 + 1)))) else (gd (ok64 (s1_1 + 1)) ((z14 tree s0_0 kx1_0 n1) (s1_0 + 1) (s1_1 + 1)))))) else ((getI tree s1_1).bind fun x23 => (if decide (x23.no = s0_0) = true then (gd (ok64 (s1_0 + 1)) (gd (ok64 (s1_1 + 1)) ((z14 tree s0_0 kx1_0 n1) (s1_0 + 1) (s1_1 + 1)))) else (gd (ok64 (s1_1 + 1)) ((z14 tree s0_0 kx1_0 n1) s1_0 (s1_1 + 1))))))) else (kx1_0 s1_0)
def yb2 (s0_0 : Int) (bk0 : Int → Option Bool) (s2_0 : Int) : Option Bool := if ((decide (s0_0 = 0)) == (decide (s2_0 = 0))) = true then (if decide (1 < s2_0) = true then (some false) else (gd (ok64 (s0_0 + 1)) (bk0 (s0_0 + 1)))) else (some false)
def yb3 (s0_0 : Int) (bk0 : Int → Option Bool) (s3_0 : Int) : Option Bool := if ((decide (s0_0 = 0)) == (decide (s3_0 = 0))) = true then (if decide (1 < s3_0) = true then (some false) else (gd (ok64 (s0_0 + 1)) (bk0 (s0_0 + 1)))) else (some false)
def yb4 (s0_0 : Int) (bk0 : Int → Option Bool) (s4_0 : Int) : Option Bool := if ((decide (s0_0 = 0)) == (decide (s4_0 = 0))) = true then (if decide (1 < s4_0) = true then (some false) else (gd (ok64 (s0_0 + 1)) (bk0 (s0_0 + 1)))) else (some false)
def yb5  : Option Bool := some true
def z31 (tree : List GNode) (kx0_0 : Option Bool) : Nat → Int → Option Bool
  | 0, _ => none
  | n0 + 1, s0_0 => if decide (s0_0 < (tree.length : Int)) = true then ((getI tree s0_0).bind fun x3 => ((z6o x3.if_).bind fun x4 => (if x4 = true then ((z03 x3.ans 0 2).bind fun x6 => (if x6 = true then ((z2p x3.stone).bind fun x8 => (if x8 = true then ((z1d x3.if_ x3.stone).bind fun x10 => (if x10 = true then (if decide (x3.yes = (-1)) = true then (if decide (x3.no = (-1)) = true then (z14 tree s0_0 (yb1 s0_0 (z31 tree kx0_0 n0)) FUEL 0 0) else (gd (ok64 (s0_0 + 1)) (gd (ok64 ((tree.length : Int) - 1)) ((z03 x3.no (s0_0 + 1) ((tree.length : Int) - 1)).bind fun x33 => (if x33 = true then (z14 tree s0_0 (yb2 s0_0 (z31 tree kx0_0 n0)) FUEL 0 0) else (some false)))))) else (gd (ok64 (s0_0 + 1)) (gd (ok64 ((tree.length : Int) - 1)) ((z03 x3.yes (s0_0 + 1) ((tree.length : Int) - 1)).bind fun x54 => (if x54 = true then (if decide (x3.no = (-1)) = true then (z14 tree s0_0 (yb3 s0_0 (z31 tree kx0_0 n0)) FUEL 0 0) else (gd (ok64 (s0_0 + 1)) (gd (ok64 ((tree.length : Int) - 1)) ((z03 x3.no (s0_0 + 1) ((tree.length : Int) - 1)).bind fun x76 => (if x76 = true then (z14 tree s0_0 (yb4 s0_0 (z31 tree kx0_0 n0)) FUEL 0 0) else (some false)))))) else (some false)))))) else (some false))) else (some false))) else (some false))) else (some false)))) else (kx0_0)
def z9a (tree : List GNode) : Option Bool := if decide (12 < (tree.length : Int)) = true then (some false) else (z31 tree yb5 FUEL 0)
def z19 : Con := ⟨129, [.v (.sl (.s .node)) false], [(.B, true)], [], fun x => z9a x.1⟩
def v24 : Fs := ⟨[z91, z0m, z18, z4h], [], []⟩
theorem y8x : v24.Ok Tryz.prog := (fsK zr6 (fsK z0v (fsK z6u (fsK z7n fs0))))
def y7k : Tmpl := ⟨[(0, .c (.s (.s .node))), (3, .c .i), (5, .c .i), (6, .c .i)], []⟩
def y4f : Tmpl := ⟨[(0, .c (.s (.s .node))), (3, .c .i), (5, .c .i)], []⟩
def w3x (av : AV) (x : HP z19.ps) (n : Nat) (v : y7k.den) (K : Ks (CR z19)) : Option (CR z19) := z14 v.1.1 v.1.2.1 (fun s1_0 => y4f.at none ((v.1.1, v.1.2.1, s1_0, ()), ()) (K (.exit 2))) n v.1.2.2.1 v.1.2.2.2.1
def y6j (av : AV) (x : HP z19.ps) : Hdl (CR z19) := hnd [] y7k (w3x av x)
theorem w4x : LP z19 Tryz.f129 [0, 0] y6j := lp_ok (W := []) (H := []) (xs := [y4f]) y8x trivial rfl (fun av x v K => by kernel_rfl) (fun av x n v K => by kernel_rfl)
def yp9 : Tmpl := ⟨[(0, .c (.s (.s .node))), (3, .c .i)], []⟩
def yh1 : Tmpl := ⟨[], []⟩
def w9y (av : AV) (x : HP z19.ps) (n : Nat) (v : yp9.den) (K : Ks (CR z19)) : Option (CR z19) := z31 v.1.1 (yh1.at none ((), ()) (K (.exit 0))) n v.1.2.1
def yn5 (av : AV) (x : HP z19.ps) : Hdl (CR z19) := hnd [] yp9 (w9y av x)
theorem wg9 : LP z19 Tryz.f129 [0] yn5 := lp_ok (W := []) (H := [y6j]) (xs := [yh1]) y8x ⟨w4x, trivial⟩ rfl (fun av x v K => by kernel_rfl) (fun av x n v K => by kernel_rfl)
theorem yc8 : z19.Ok Tryz.prog := fn_ok (k := z19) (fn := Tryz.f129) (W := []) (H := [yn5]) Tryz.func129 y8x ⟨wg9, trivial⟩ rfl rfl (fun av x => by kernel_rfl)
def y71 (s0_0 : Int) (s0_1 : Int) : Option (Int × Int) := some (s0_0, s0_1)
def y72 (s0_0 : Int) (s0_1 : Int) : Option (Int × Int) := some (s0_0, s0_1)
def z3f (tree : List GNode) (data : List Int) (kx0_0 : Int → Int → Option (Int × Int)) (kx0_1 : Int → Int → Option (Int × Int)) : Nat → Int → Int → Int → Int → Option (Int × Int)
  | 0, _, _, _, _ => none
  | n0 + 1, s0_0, s0_1, s0_2, s0_3 => if decide (s0_3 < 12) = true then (if decide (s0_2 = (-1)) = true then (kx0_0 s0_0 s0_1) else ((getI tree s0_2).bind fun x4 => ((z1d x4.if_ data).bind fun x5 => (if x5 = true then ((getI tree s0_2).bind fun x7 => (gd (ok64 (s0_3 + 1)) ((z3f tree data kx0_0 kx0_1 n0) s0_2 s0_2 x7.yes (s0_3 + 1)))) else ((getI tree s0_2).bind fun x9 => (gd (ok64 (s0_3 + 1)) ((z3f tree data kx0_0 kx0_1 n0) s0_0 s0_2 x9.no (s0_3 + 1)))))))) else (kx0_1 s0_0 s0_1)
def y73 (s1_0 : Int) (s1_1 : Int) : Option (Int × Int) := some (s1_0, s1_1)
def y74 (s1_0 : Int) (s1_1 : Int) : Option (Int × Int) := some (s1_0, s1_1)
def z83 (tree : List GNode) (data : List Int) : Option (Int × Int) := if decide ((tree.length : Int) = 0) = true then (z3f tree data y71 y72 FUEL (-1) (-1) (-1) 0) else (z3f tree data y73 y74 FUEL (-1) (-1) 0 0)
def z2x : Con := ⟨209, [.v (.sl (.s .node)) false, .v (.sl .I) false], [(.I, true), (.I, true)], [], fun x => z83 x.1 x.2.1⟩
def ws6 : Fs := ⟨[z4h], [], []⟩
theorem yx6 : ws6.Ok Tryz.prog := (fsK z7n fs0)
def yf1 : Tmpl := ⟨[(0, .c (.s (.s .node))), (1, .c (.s .I)), (6, .c .i), (7, .c .i), (8, .c .i), (9, .c .i)], []⟩
def zt3 : Tmpl := ⟨[(6, .c .i), (7, .c .i)], []⟩
def w69 (av : AV) (x : HP z2x.ps) (n : Nat) (v : yf1.den) (K : Ks (CR z2x)) : Option (CR z2x) := z3f v.1.1 v.1.2.1 (fun s0_0 s0_1 => zt3.at none ((s0_0, s0_1, ()), ()) (K (.exit 0))) (fun s0_0 s0_1 => zt3.at none ((s0_0, s0_1, ()), ()) (K (.exit 0))) n v.1.2.2.1 v.1.2.2.2.1 v.1.2.2.2.2.1 v.1.2.2.2.2.2.1
def y9i (av : AV) (x : HP z2x.ps) : Hdl (CR z2x) := hnd [] yf1 (w69 av x)
theorem w88 : LP z2x Tryz.f209 [0] y9i := lp_ok (W := []) (H := []) (xs := [zt3]) yx6 trivial rfl (fun av x v K => by kernel_rfl) (fun av x n v K => by kernel_rfl)
theorem y5u : z2x.Ok Tryz.prog := fn_ok (k := z2x) (fn := Tryz.f209) (W := []) (H := [y9i]) Tryz.func209 yx6 ⟨w88, trivial⟩ rfl rfl (fun av x => by kernel_rfl)
def zx4 (tree : List GNode) (data : List Int) : Option Int := (z9a tree).bind fun x1 => (if x1 = true then ((z2p data).bind fun x3 => (if x3 = true then ((z83 tree data).bind fun x5 => (if decide (x5.1 = (-1)) = true then (some 0) else ((getI tree x5.1).bind fun x7 => (some x7.ans)))) else (some 0))) else (some 0))
def y5a : Con := ⟨186, [.v (.sl (.s .node)) false, .v (.sl .I) false], [(.I, true)], [], fun x => zx4 x.1 x.2.1⟩
def wr4 : Fs := ⟨[z19, z18, z2x], [], []⟩
theorem wu6 : wr4.Ok Tryz.prog := (fsK yc8 (fsK z6u (fsK y5u fs0)))
theorem wz8 : y5a.Ok Tryz.prog := fn_ok (k := y5a) (fn := Tryz.f186) (W := []) (H := []) Tryz.func186 wu6 trivial rfl rfl (fun av x => by kernel_rfl)
def zy0 (tree : List GNode) (a : List Int) (b : List Int) : Option Bool := (z83 tree a).bind fun x1 => ((z83 tree b).bind fun x2 => (if decide (x1.2 = x2.2) = true then (if decide (x1.2 = (-1)) = true then (some true) else ((getI tree x1.2).bind fun x5 => ((z1d x5.if_ a).bind fun x6 => ((getI tree x1.2).bind fun x7 => ((z1d x7.if_ b).bind fun x8 => (some (x6 == x8))))))) else (some false)))
def y5f : Con := ⟨210, [.v (.sl (.s .node)) false, .v (.sl .I) false, .v (.sl .I) false], [(.B, true)], [], fun x => zy0 x.1 x.2.1 x.2.2.1⟩
def ws5 : Fs := ⟨[z2x, z4h], [], []⟩
theorem wv4 : ws5.Ok Tryz.prog := (fsK y5u (fsK z7n fs0))
theorem v04 : y5f.Ok Tryz.prog := fn_ok (k := y5f) (fn := Tryz.f210) (W := []) (H := []) Tryz.func210 wv4 trivial rfl rfl (fun av x => by kernel_rfl)
def zs9 (l0_1 : List GNode) : Option (List GNode) := some l0_1
def z68 (tree : List GNode) (kx0_0 : List GNode → Option (List GNode)) : Nat → Int → List GNode → Option (List GNode)
  | 0, _, _ => none
  | n0 + 1, s0_0, l0_1 => if decide (s0_0 < (tree.length : Int)) = true then ((getI tree s0_0).bind fun x2 => (gd (([] : List Int).length + x2.stone.length ≤ SMALL) (gd (l0_1.length + [(GNode.mk x2.if_ x2.yes x2.no x2.ans (([] : List Int) ++ x2.stone))].length ≤ SMALL) (gd (ok64 (s0_0 + 1)) ((z68 tree kx0_0 n0) (s0_0 + 1) (l0_1 ++ [(GNode.mk x2.if_ x2.yes x2.no x2.ans (([] : List Int) ++ x2.stone))])))))) else (kx0_0 l0_1)
def zj7 (tree : List GNode) : Option (List GNode) := z68 tree zs9 FUEL 0 ([] : List GNode)
def z4c : Con := ⟨189, [.v (.sl (.s .node)) false], [((.sl (.s .node)), true)], [], fun x => zj7 x.1⟩
def ws4 : Fs := ⟨[], [], []⟩
theorem yx5 : ws4.Ok Tryz.prog := fs0
def yf0 : Tmpl := ⟨[(0, .c (.s (.s .node))), (3, .c (.ref 6)), (4, .c .i)], [(6, .arr (.s .node) true)]⟩
def y89 : Tmpl := ⟨[(3, .c (.ref 6))], [(6, .arr (.s .node) true)]⟩
def w68 (av : AV) (x : HP z4c.ps) (n : Nat) (v : yf0.den) (K : Ks (CR z4c)) : Option (CR z4c) := z68 v.1.1 (fun l0_1 => y89.at none (((), ()), (l0_1, ())) (K (.exit 0))) n v.1.2.2.1 v.2.1
def y9h (av : AV) (x : HP z4c.ps) : Hdl (CR z4c) := hnd [] yf0 (w68 av x)
theorem w87 : LP z4c Tryz.f189 [0] y9h := lp_ok (W := []) (H := []) (xs := [y89]) yx5 trivial rfl (fun av x v K => by kernel_rfl) (fun av x n v K => by kernel_rfl)
theorem w03 : z4c.Ok Tryz.prog := fn_ok (k := z4c) (fn := Tryz.f189) (W := []) (H := [y9h]) Tryz.func189 yx5 ⟨w87, trivial⟩ rfl rfl (fun av x => by kernel_rfl)
def zc6 (tree : List GNode) (data : List Int) (e : GAsk) (ans : Int) (x1 : (List GNode)) : Option ((List GNode) × Bool) := (z83 tree data).bind fun x20 => (if decide (x20.2 = (-1)) = true then (gd (([] : List Int).length + data.length ≤ SMALL) (gd (x1.length + [(GNode.mk e (-1) (-1) ans (([] : List Int) ++ data))].length ≤ SMALL) (some ((x1 ++ [(GNode.mk e (-1) (-1) ans (([] : List Int) ++ data))]), true)))) else ((getI tree x20.2).bind fun x24 => ((z1d x24.if_ data).bind fun x25 => (if x25 = true then ((getI x1 x20.2).bind fun x27 => (gd (([] : List Int).length + data.length ≤ SMALL) (gd ((x1.set x20.2.toNat (GNode.mk x27.if_ (tree.length : Int) x27.no x27.ans x27.stone)).length + [(GNode.mk e (-1) (-1) ans (([] : List Int) ++ data))].length ≤ SMALL) (some (((x1.set x20.2.toNat (GNode.mk x27.if_ (tree.length : Int) x27.no x27.ans x27.stone)) ++ [(GNode.mk e (-1) (-1) ans (([] : List Int) ++ data))]), true))))) else ((getI x1 x20.2).bind fun x30 => (gd (([] : List Int).length + data.length ≤ SMALL) (gd ((x1.set x20.2.toNat (GNode.mk x30.if_ x30.yes (tree.length : Int) x30.ans x30.stone)).length + [(GNode.mk e (-1) (-1) ans (([] : List Int) ++ data))].length ≤ SMALL) (some (((x1.set x20.2.toNat (GNode.mk x30.if_ x30.yes (tree.length : Int) x30.ans x30.stone)) ++ [(GNode.mk e (-1) (-1) ans (([] : List Int) ++ data))]), true)))))))))
def z4z (tree : List GNode) (data : List Int) (e : GAsk) (x1 : (List GNode)) (kx0_0 : Option ((List GNode) × Bool)) : Nat → Int → Option ((List GNode) × Bool)
  | 0, _ => none
  | n0 + 1, s0_0 => if decide (s0_0 < (tree.length : Int)) = true then ((getI tree s0_0).bind fun x12 => ((zy0 tree x12.stone data).bind fun x13 => (if x13 = true then ((getI tree s0_0).bind fun x15 => ((z1d e x15.stone).bind fun x16 => (if x16 = true then (some (x1, false)) else (gd (ok64 (s0_0 + 1)) ((z4z tree data e x1 kx0_0 n0) (s0_0 + 1)))))) else (gd (ok64 (s0_0 + 1)) ((z4z tree data e x1 kx0_0 n0) (s0_0 + 1)))))) else (kx0_0)
def z81 (tree : List GNode) (data : List Int) (e : GAsk) (ans : Int) : Option ((List GNode) × Bool) := (zj7 tree).bind fun x1 => ((z9a tree).bind fun x2 => (if x2 = true then ((z2p data).bind fun x4 => (if x4 = true then ((z1d e data).bind fun x6 => (if x6 = true then ((z03 ans 0 2).bind fun x8 => (if x8 = true then (if decide ((tree.length : Int) = 12) = true then (some (x1, false)) else (z4z tree data e x1 (zc6 tree data e ans x1) FUEL 0)) else (some (x1, false)))) else (some (x1, false)))) else (some (x1, false)))) else (some (x1, false))))
def z43 : Con := ⟨187, [.v (.sl (.s .node)) false, .v (.sl .I) false, .v (.s .ask) false, .v .I false], [((.sl (.s .node)), true), (.B, true)], [], fun x => z81 x.1 x.2.1 x.2.2.1 x.2.2.2.1⟩
def wr3 : Fs := ⟨[z4c, z19, z18, z4h, z0m, y5f, z2x], [], []⟩
theorem yx2 : wr3.Ok Tryz.prog := (fsK w03 (fsK yc8 (fsK z6u (fsK z7n (fsK z0v (fsK v04 (fsK y5u fs0)))))))
def ye7 : Tmpl := ⟨[(0, .c (.s (.s .node))), (1, .c (.s .I)), (3, .c .i), (6, .c (.bx 6 0)), (10, .c (.ref 15)), (11, .c .i)], [(6, .boxT (.s .ask)), (15, .arr (.s .node) true)]⟩
def y86 : Tmpl := ⟨[(0, .c (.s (.s .node))), (1, .c (.s .I)), (3, .c .i), (6, .c (.bx 6 0)), (10, .c (.ref 15))], [(6, .boxT (.s .ask)), (15, .arr (.s .node) true)]⟩
def w65 (av : AV) (x : HP z43.ps) (n : Nat) (v : ye7.den) (K : Ks (CR z43)) : Option (CR z43) := z4z v.1.1 v.1.2.1 v.2.1 v.2.2.1 (y86.at none ((v.1.1, v.1.2.1, v.1.2.2.1, (), (), ()), (v.2.1, v.2.2.1, ())) (K (.exit 0))) n v.1.2.2.2.2.2.1
def y9e (av : AV) (x : HP z43.ps) : Hdl (CR z43) := hnd [] ye7 (w65 av x)
theorem w84 : LP z43 Tryz.f187 [0] y9e := lp_ok (W := []) (H := []) (xs := [y86]) yx2 trivial rfl (fun av x v K => by kernel_rfl) (fun av x n v K => by kernel_rfl)
theorem w01 : z43.Ok Tryz.prog := fn_ok (k := z43) (fn := Tryz.f187) (W := []) (H := [y9e]) Tryz.func187 yx2 ⟨w84, trivial⟩ rfl rfl (fun av x => by kernel_rfl)
def z4k (ans : Int) : Option Bool := (z0c ans 0 2).bind fun x1 => (some x1)
def z90 : Con := ⟨121, [.v .I false], [(.B, true)], [], fun x => z4k x.1⟩
def w6r : Fs := ⟨[z23], [], []⟩
theorem w7g : w6r.Ok Tryz.prog := (fsK z2r fs0)
theorem y0a : z90.Ok Tryz.prog := fn_ok (k := z90) (fn := Tryz.f121) (W := []) (H := []) Tryz.func121 w7g trivial rfl rfl (fun av x => by kernel_rfl)
def za5 (l0_1 : List GNode) : Option (List GNode) := some l0_1
def z38 (tree : List GNode) (p0_0 : Int) (kx0_0 : List GNode → Option (List GNode)) : Nat → Int → List GNode → Option (List GNode)
  | 0, _, _ => none
  | n0 + 1, s0_0, l0_1 => if decide (s0_0 < p0_0) = true then ((getI tree s0_0).bind fun x2 => ((z0g x2.stone).bind fun x3 => (gd (l0_1.length + [(GNode.mk x2.if_ x2.yes x2.no x2.ans x3)].length ≤ SMALL) (gd (ok64 (s0_0 + 1)) ((z38 tree p0_0 kx0_0 n0) (s0_0 + 1) (l0_1 ++ [(GNode.mk x2.if_ x2.yes x2.no x2.ans x3)])))))) else (kx0_0 l0_1)
def z79 (tree : List GNode) : Option (List GNode) := z38 tree (tree.length : Int) za5 FUEL 0 ([] : List GNode)
def z1g : Con := ⟨183, [.v (.sl (.s .node)) false], [((.sl (.s .node)), true)], [], fun x => z79 x.1⟩
def w17 : Fs := ⟨[z1c], [], []⟩
theorem y2y : w17.Ok Tryz.prog := (fsK z2l fs0)
def y0h : Tmpl := ⟨[(3, .c (.ref 500003)), (6, .c (.s (.s .node))), (7, .c .i), (8, .c .i)], [(500003, .arr (.s .node) true)]⟩
def zu5 : Tmpl := ⟨[(3, .c (.ref 500003))], [(500003, .arr (.s .node) true)]⟩
def yq5 (av : AV) (x : HP z1g.ps) (n : Nat) (v : y0h.den) (K : Ks (CR z1g)) : Option (CR z1g) := z38 v.1.2.1 v.1.2.2.1 (fun l0_1 => zu5.at none (((), ()), (l0_1, ())) (K (.exit 0))) n v.1.2.2.2.1 v.2.1
def zz8 (av : AV) (x : HP z1g.ps) : Hdl (CR z1g) := hnd [.e 3 500003 (.s .node)] y0h (yq5 av x)
theorem ys6 : LP z1g Tryz.f183 [0] zz8 := lp_ok (W := []) (H := []) (xs := [zu5]) y2y trivial rfl (fun av x v K => by kernel_rfl) (fun av x n v K => by kernel_rfl)
theorem y3o : z1g.Ok Tryz.prog := fn_ok (k := z1g) (fn := Tryz.f183) (W := []) (H := [zz8]) Tryz.func183 y2y ⟨ys6, trivial⟩ rfl rfl (fun av x => by kernel_rfl)
def y75  : Option Bool := some true
def z6b (nets : List GNet) (kx0_0 : Option Bool) : Nat → Int → Option Bool
  | 0, _ => none
  | n0 + 1, s0_0 => if decide (s0_0 < (nets.length : Int)) = true then ((getI nets s0_0).bind fun x4 => ((z3e x4).bind fun x5 => (if x5 = true then (gd (ok64 (s0_0 + 1)) ((z6b nets kx0_0 n0) (s0_0 + 1))) else (some false)))) else (kx0_0)
def zj8 (nets : List GNet) : Option Bool := (z03 (nets.length : Int) 1 3).bind fun x1 => (if x1 = true then (z6b nets y75 FUEL 0) else (some false))
def z4d : Con := ⟨128, [.v (.sl (.s .net)) false], [(.B, true)], [], fun x => zj8 x.1⟩
def wt0 : Fs := ⟨[z0m, z2n], [], []⟩
theorem yx7 : wt0.Ok Tryz.prog := (fsK z0v (fsK zr7 fs0))
def yf4 : Tmpl := ⟨[(0, .c (.s (.s .net))), (3, .c .i)], []⟩
def y8c : Tmpl := ⟨[], []⟩
def w6c (av : AV) (x : HP z4d.ps) (n : Nat) (v : yf4.den) (K : Ks (CR z4d)) : Option (CR z4d) := z6b v.1.1 (y8c.at none ((), ()) (K (.exit 0))) n v.1.2.1
def y9l (av : AV) (x : HP z4d.ps) : Hdl (CR z4d) := hnd [] yf4 (w6c av x)
theorem w8b : LP z4d Tryz.f128 [0] y9l := lp_ok (W := []) (H := []) (xs := [y8c]) yx7 trivial rfl (fun av x v K => by kernel_rfl) (fun av x n v K => by kernel_rfl)
theorem w04 : z4d.Ok Tryz.prog := fn_ok (k := z4d) (fn := Tryz.f128) (W := []) (H := [y9l]) Tryz.func128 yx7 ⟨w8b, trivial⟩ rfl rfl (fun av x => by kernel_rfl)
def zd4 (p0_1 : Int) (l0_1 : List GTask) : Option GNet := some (GNet.mk p0_1 l0_1)
def z3w (n : GNet) (kx0_0 : List GTask → Option GNet) : Nat → Int → List GTask → Option GNet
  | 0, _, _ => none
  | n0 + 1, s0_0, l0_1 => if decide (s0_0 < (n.tasks.length : Int)) = true then ((getI n.tasks s0_0).bind fun x2 => (gd (([] : List Int).length + x2.in_.length ≤ SMALL) (gd (([] : List GFlow).length + x2.out.length ≤ SMALL) (gd (([] : List Int).length + x2.clear.length ≤ SMALL) (gd (l0_1.length + [(GTask.mk x2.join x2.split (([] : List Int) ++ x2.in_) (([] : List GFlow) ++ x2.out) (([] : List Int) ++ x2.clear) x2.role x2.apart x2.all x2.need)].length ≤ SMALL) (gd (ok64 (s0_0 + 1)) ((z3w n kx0_0 n0) (s0_0 + 1) (l0_1 ++ [(GTask.mk x2.join x2.split (([] : List Int) ++ x2.in_) (([] : List GFlow) ++ x2.out) (([] : List Int) ++ x2.clear) x2.role x2.apart x2.all x2.need)])))))))) else (kx0_0 l0_1)
def z8c (n : GNet) : Option GNet := z3w n (zd4 n.places) FUEL 0 ([] : List GTask)
def z1x : Con := ⟨190, [.v (.s .net) false], [((.s .net), true)], [], fun x => z8c x.1⟩
def w4f : Fs := ⟨[], [], []⟩
theorem y66 : w4f.Ok Tryz.prog := fs0
def y1h : Tmpl := ⟨[(1, .c (.bx 1 0)), (2, .c (.bx 2 0)), (3, .c (.bx 3 0)), (4, .c .i)], [(1, .boxT (.s .net)), (2, .box [.i, .nl]), (3, .box [.i, .ref 510301]), (510301, .arr (.s .task) true)]⟩
def y0n : Tmpl := ⟨[(2, .c (.bx 2 0)), (3, .c (.bx 3 0))], [(2, .box [.i, .nl]), (3, .box [.i, .ref 510301]), (510301, .arr (.s .task) true)]⟩
def yu6 (av : AV) (x : HP z1x.ps) (n : Nat) (v : y1h.den) (K : Ks (CR z1x)) : Option (CR z1x) := z3w v.2.1 (fun l0_1 => y0n.at none (((), (), ()), ((v.2.2.1.1, (), ()), (v.2.2.2.1.1, (), ()), l0_1, ())) (K (.exit 0))) n v.1.2.2.2.1 v.2.2.2.2.1
def y0v (av : AV) (x : HP z1x.ps) : Hdl (CR z1x) := hnd [.b 3 1 510301 (.s .task)] y1h (yu6 av x)
theorem yy6 : LP z1x Tryz.f190 [0] y0v := lp_ok (W := []) (H := []) (xs := [y0n]) y66 trivial rfl (fun av x v K => by kernel_rfl) (fun av x n v K => by kernel_rfl)
theorem y77 : z1x.Ok Tryz.prog := fn_ok (k := z1x) (fn := Tryz.f190) (W := []) (H := [y0v]) Tryz.func190 y66 ⟨yy6, trivial⟩ rfl rfl (fun av x => by kernel_rfl)
def zs7 (p0_0 : List Int) (l0_1 : List GNet) : Option GHouse := some (GHouse.mk l0_1 p0_0 [] [])
def z64 (nets : List GNet) (kx0_0 : List GNet → Option GHouse) : Nat → Int → List GNet → Option GHouse
  | 0, _, _ => none
  | n0 + 1, s0_0, l0_1 => if decide (s0_0 < (nets.length : Int)) = true then ((getI nets s0_0).bind fun x7 => ((z8c x7).bind fun x8 => (gd (l0_1.length + [x8].length ≤ SMALL) (gd (ok64 (s0_0 + 1)) ((z64 nets kx0_0 n0) (s0_0 + 1) (l0_1 ++ [x8])))))) else (kx0_0 l0_1)
def zx0 (nets : List GNet) (people : List Int) : Option GHouse := (zj8 nets).bind fun x1 => (if x1 = true then ((z99 people).bind fun x3 => (if x3 = true then (gd (([] : List Int).length + people.length ≤ SMALL) (z64 nets (zs7 (([] : List Int) ++ people)) FUEL 0 ([] : List GNet))) else (some (GHouse.mk [] [] [] [])))) else (some (GHouse.mk [] [] [] [])))
def z58 : Con := ⟨195, [.v (.sl (.s .net)) false, .v (.sl .I) false], [((.s .house), true)], [], fun x => zx0 x.1 x.2.1⟩
def wq8 : Fs := ⟨[z4d, z3b, z1x], [], []⟩
theorem yw8 : wq8.Ok Tryz.prog := (fsK w04 (fsK y1c (fsK y77 fs0)))
def ye2 : Tmpl := ⟨[(0, .c (.s (.s .net))), (4, .c (.bx 4 0)), (5, .c (.bx 5 0)), (6, .c .i)], [(4, .box [.nl, .nl, .nl, .nl]), (5, .box [.ref 510500, .ref 18, .nl, .nl]), (510500, .arr (.s .net) true), (18, .arr .I true)]⟩
def y81 : Tmpl := ⟨[(4, .c (.bx 4 0)), (5, .c (.bx 5 0))], [(4, .box [.nl, .nl, .nl, .nl]), (5, .box [.ref 510500, .ref 18, .nl, .nl]), (510500, .arr (.s .net) true), (18, .arr .I true)]⟩
def w60 (av : AV) (x : HP z58.ps) (n : Nat) (v : ye2.den) (K : Ks (CR z58)) : Option (CR z58) := z64 v.1.1 (fun l0_1 => y81.at none (((), (), ()), (((), (), (), (), ()), ((), (), (), (), ()), l0_1, v.2.2.2.2.1, ())) (K (.exit 0))) n v.1.2.2.2.1 v.2.2.2.1
def y99 (av : AV) (x : HP z58.ps) : Hdl (CR z58) := hnd [.b 5 0 510500 (.s .net)] ye2 (w60 av x)
theorem w7z : LP z58 Tryz.f195 [0] y99 := lp_ok (W := []) (H := []) (xs := [y81]) yw8 trivial rfl (fun av x v K => by kernel_rfl) (fun av x n v K => by kernel_rfl)
theorem wz4 : z58.Ok Tryz.prog := fn_ok (k := z58) (fn := Tryz.f195) (W := []) (H := [y99]) Tryz.func195 yw8 ⟨w7z, trivial⟩ rfl rfl (fun av x => by kernel_rfl)
def ya6  : Option Bool := some true
def z7f (h : GHouse) (kx0_0 : Option Bool) : Nat → Int → Option Bool
  | 0, _ => none
  | n0 + 1, s0_0 => if decide (s0_0 < (h.runs.length : Int)) = true then ((getI h.runs s0_0).bind fun x9 => (gd (ok64 ((h.nets.length : Int) - 1)) ((z03 x9.net 0 ((h.nets.length : Int) - 1)).bind fun x11 => (if x11 = true then ((getI h.runs s0_0).bind fun x13 => ((getI h.nets x13.net).bind fun x14 => ((getI h.runs s0_0).bind fun x15 => ((z97 x14 x15.case).bind fun x16 => (if x16 = true then (gd (ok64 (s0_0 + 1)) ((z7f h kx0_0 n0) (s0_0 + 1))) else (some false)))))) else (some false))))) else (kx0_0)
def zr3 (h : GHouse) : Option Bool := (zj8 h.nets).bind fun x1 => (if x1 = true then ((z99 h.people).bind fun x3 => (if x3 = true then ((z9a h.tree).bind fun x5 => (if x5 = true then (if decide (5 < (h.runs.length : Int)) = true then (some false) else (z7f h ya6 FUEL 0)) else (some false))) else (some false))) else (some false))
def z5i : Con := ⟨54, [.v (.s .house) false], [(.B, true)], [], fun x => zr3 x.1⟩
def v1y : Fs := ⟨[z4d, z3b, z19, z0m, z39], [], []⟩
theorem w2r : v1y.Ok Tryz.prog := (fsK w04 (fsK y1c (fsK yc8 (fsK z0v (fsK y1a fs0)))))
def yp4 : Tmpl := ⟨[(1, .c (.bx 1 0)), (3, .c .i)], [(1, .boxT (.s .house))]⟩
def yg6 : Tmpl := ⟨[], []⟩
def w9t (av : AV) (x : HP z5i.ps) (n : Nat) (v : yp4.den) (K : Ks (CR z5i)) : Option (CR z5i) := z7f v.2.1 (yg6.at none ((), ()) (K (.exit 0))) n v.1.2.1
def yn0 (av : AV) (x : HP z5i.ps) : Hdl (CR z5i) := hnd [] yp4 (w9t av x)
theorem wg4 : LP z5i Tryz.f54 [0] yn0 := lp_ok (W := []) (H := []) (xs := [yg6]) w2r trivial rfl (fun av x v K => by kernel_rfl) (fun av x n v K => by kernel_rfl)
theorem w38 : z5i.Ok Tryz.prog := fn_ok (k := z5i) (fn := Tryz.f54) (W := []) (H := [yn0]) Tryz.func54 w2r ⟨wg4, trivial⟩ rfl rfl (fun av x => by kernel_rfl)
def zt0 (x2 : (List GNode)) (p0_0 : List Int) (l0_1 : List GNet) (l1_1 : List GRun) : Option GHouse := some (GHouse.mk l0_1 p0_0 x2 l1_1)
def z6a (h : GHouse) (kx1_0 : List GRun → Option GHouse) : Nat → Int → List GRun → Option GHouse
  | 0, _, _ => none
  | n1 + 1, s1_0, l1_1 => if decide (s1_0 < (h.runs.length : Int)) = true then ((getI h.runs s1_0).bind fun x9 => ((getI h.runs s1_0).bind fun x10 => ((z6s x10.case).bind fun x11 => (gd (l1_1.length + [(GRun.mk x9.net x11)].length ≤ SMALL) (gd (ok64 (s1_0 + 1)) ((z6a h kx1_0 n1) (s1_0 + 1) (l1_1 ++ [(GRun.mk x9.net x11)]))))))) else (kx1_0 l1_1)
def zc8 (h : GHouse) (x2 : (List GNode)) (p0_0 : List Int) (l0_1 : List GNet) : Option GHouse := z6a h (zt0 x2 p0_0 l0_1) FUEL 0 ([] : List GRun)
def z69 (h : GHouse) (kx0_0 : List GNet → Option GHouse) : Nat → Int → List GNet → Option GHouse
  | 0, _, _ => none
  | n0 + 1, s0_0, l0_1 => if decide (s0_0 < (h.nets.length : Int)) = true then ((getI h.nets s0_0).bind fun x4 => ((z8c x4).bind fun x5 => (gd (l0_1.length + [x5].length ≤ SMALL) (gd (ok64 (s0_0 + 1)) ((z69 h kx0_0 n0) (s0_0 + 1) (l0_1 ++ [x5])))))) else (kx0_0 l0_1)
def z33 (h : GHouse) : Option GHouse := gd (([] : List Int).length + h.people.length ≤ SMALL) ((zj7 h.tree).bind fun x2 => (z69 h (zc8 h x2 (([] : List Int) ++ h.people)) FUEL 0 ([] : List GNet)))
def z0p : Con := ⟨135, [.v (.s .house) false], [((.s .house), true)], [], fun x => z33 x.1⟩
def ws8 : Fs := ⟨[z4c, z1x, z9i], [], []⟩
theorem y4z : ws8.Ok Tryz.prog := (fsK w03 (fsK y77 (fsK zy6 fs0)))
def yf2 : Tmpl := ⟨[(1, .c (.bx 1 0)), (2, .c (.bx 2 0)), (3, .c (.bx 3 0)), (4, .c .i)], [(1, .boxT (.s .house)), (2, .box [.nl, .nl, .nl, .nl]), (3, .box [.ref 510300, .ref 9, .ref 12, .nl]), (510300, .arr (.s .net) true), (9, .arr .I true), (12, .arr (.s .node) true)]⟩
def y8a : Tmpl := ⟨[(1, .c (.bx 1 0)), (2, .c (.bx 2 0)), (3, .c (.bx 3 0))], [(1, .boxT (.s .house)), (2, .box [.nl, .nl, .nl, .nl]), (3, .box [.ref 510300, .ref 9, .ref 12, .nl]), (510300, .arr (.s .net) true), (9, .arr .I true), (12, .arr (.s .node) true)]⟩
def w6a (av : AV) (x : HP z0p.ps) (n : Nat) (v : yf2.den) (K : Ks (CR z0p)) : Option (CR z0p) := z69 v.2.1 (fun l0_1 => y8a.at none (((), (), (), ()), (v.2.1, ((), (), (), (), ()), ((), (), (), (), ()), l0_1, v.2.2.2.2.2.1, v.2.2.2.2.2.2.1, ())) (K (.exit 0))) n v.1.2.2.2.1 v.2.2.2.2.1
def y9j (av : AV) (x : HP z0p.ps) : Hdl (CR z0p) := hnd [.b 3 0 510300 (.s .net)] yf2 (w6a av x)
theorem w89 : LP z0p Tryz.f135 [0] y9j := lp_ok (W := []) (H := []) (xs := [y8a]) y4z trivial rfl (fun av x v K => by kernel_rfl) (fun av x n v K => by kernel_rfl)
def yf3 : Tmpl := ⟨[(1, .c (.bx 1 0)), (2, .c (.bx 2 0)), (3, .c (.bx 3 0)), (5, .c .i)], [(1, .boxT (.s .house)), (2, .box [.nl, .nl, .nl, .nl]), (3, .box [.ref 510300, .ref 9, .ref 12, .ref 510303]), (510300, .arr (.s .net) true), (9, .arr .I true), (12, .arr (.s .node) true), (510303, .arr (.s .run) true)]⟩
def y8b : Tmpl := ⟨[(2, .c (.bx 2 0)), (3, .c (.bx 3 0))], [(2, .box [.nl, .nl, .nl, .nl]), (3, .box [.ref 510300, .ref 9, .ref 12, .ref 510303]), (510300, .arr (.s .net) true), (9, .arr .I true), (12, .arr (.s .node) true), (510303, .arr (.s .run) true)]⟩
def w6b (av : AV) (x : HP z0p.ps) (n : Nat) (v : yf3.den) (K : Ks (CR z0p)) : Option (CR z0p) := z6a v.2.1 (fun l1_1 => y8b.at none (((), (), ()), (((), (), (), (), ()), ((), (), (), (), ()), v.2.2.2.2.1, v.2.2.2.2.2.1, v.2.2.2.2.2.2.1, l1_1, ())) (K (.exit 2))) n v.1.2.2.2.1 v.2.2.2.2.2.2.2.1
def y9k (av : AV) (x : HP z0p.ps) : Hdl (CR z0p) := hnd [.b 3 3 510303 (.s .run)] yf3 (w6b av x)
theorem w8a : LP z0p Tryz.f135 [1] y9k := lp_ok (W := []) (H := []) (xs := [y8b]) y4z trivial rfl (fun av x v K => by kernel_rfl) (fun av x n v K => by kernel_rfl)
theorem zy7 : z0p.Ok Tryz.prog := fn_ok (k := z0p) (fn := Tryz.f135) (W := []) (H := [y9j, y9k]) Tryz.func135 y4z ⟨w89, w8a, trivial⟩ rfl rfl (fun av x => by kernel_rfl)
def zy2 (r : GReq) : Option GReq := if decide (r.kind = 1) = true then (some (GReq.mk r.kind 0 0 0 0 0 r.data (GAsk.mk 0 0 0) 0)) else (if decide (r.kind = 2) = true then (some (GReq.mk r.kind r.who r.case r.task 0 0 [] (GAsk.mk 0 0 0) 0)) else (if decide (r.kind = 3) = true then (some (GReq.mk r.kind 0 r.case r.task r.var r.num [] (GAsk.mk 0 0 0) 0)) else (if decide (r.kind = 4) = true then (some (GReq.mk r.kind 0 r.case 0 0 0 [] (GAsk.mk 0 0 0) 0)) else (if decide (r.kind = 5) = true then (some (GReq.mk r.kind 0 0 0 0 0 r.data r.if_ r.ans)) else (some (GReq.mk r.kind 0 0 0 0 0 [] (GAsk.mk 0 0 0) 0))))))
def y5h : Con := ⟨137, [.v (.s .req) false], [((.s .req), false)], [], fun x => zy2 x.1⟩
def ws9 : Fs := ⟨[], [], []⟩
theorem wv6 : ws9.Ok Tryz.prog := fs0
theorem v06 : y5h.Ok Tryz.prog := fn_ok (k := y5h) (fn := Tryz.f137) (W := []) (H := []) Tryz.func137 wv6 trivial rfl rfl (fun av x => by kernel_rfl)
def z51 (a : GReq) (b : GReq) : Option Bool := if decide (a.kind = b.kind) = true then (if decide (a.who = b.who) = true then (if decide (a.case = b.case) = true then (if decide (a.task = b.task) = true then (if decide (a.var = b.var) = true then (if decide (a.num = b.num) = true then (if decide ([a.if_.op, a.if_.var, a.if_.k] = [b.if_.op, b.if_.var, b.if_.k]) = true then (some (decide (a.ans = b.ans))) else (some false)) else (some false)) else (some false)) else (some false)) else (some false)) else (some false)) else (some false)
def z3g (a : GReq) (b : GReq) (kx0_0 : Option Bool) : Nat → Int → Option Bool
  | 0, _ => none
  | n0 + 1, s0_0 => if decide (s0_0 < (a.data.length : Int)) = true then ((getI a.data s0_0).bind fun x3 => ((getI b.data s0_0).bind fun x4 => (if decide (x3 = x4) = true then (gd (ok64 (s0_0 + 1)) ((z3g a b kx0_0 n0) (s0_0 + 1))) else (some false)))) else (kx0_0)
def zy3 (a : GReq) (b : GReq) : Option Bool := if decide ((a.data.length : Int) = (b.data.length : Int)) = true then (z3g a b (z51 a b) FUEL 0) else (some false)
def z5d : Con := ⟨136, [.v (.s .req) false, .v (.s .req) false], [(.B, true)], [], fun x => zy3 x.1 x.2.1⟩
def wt1 : Fs := ⟨[], [], []⟩
theorem yx8 : wt1.Ok Tryz.prog := fs0
def yf5 : Tmpl := ⟨[(2, .c (.bx 2 0)), (3, .c (.bx 3 0)), (5, .c .i)], [(2, .boxT (.s .req)), (3, .boxT (.s .req))]⟩
def y8d : Tmpl := ⟨[(2, .c (.bx 2 0)), (3, .c (.bx 3 0))], [(2, .boxT (.s .req)), (3, .boxT (.s .req))]⟩
def w6d (av : AV) (x : HP z5d.ps) (n : Nat) (v : yf5.den) (K : Ks (CR z5d)) : Option (CR z5d) := z3g v.2.1 v.2.2.1 (y8d.at none (((), (), ()), (v.2.1, v.2.2.1, ())) (K (.exit 0))) n v.1.2.2.1
def y9m (av : AV) (x : HP z5d.ps) : Hdl (CR z5d) := hnd [] yf5 (w6d av x)
theorem w8c : LP z5d Tryz.f136 [0] y9m := lp_ok (W := []) (H := []) (xs := [y8d]) yx8 trivial rfl (fun av x v K => by kernel_rfl) (fun av x n v K => by kernel_rfl)
theorem v07 : z5d.Ok Tryz.prog := fn_ok (k := z5d) (fn := Tryz.f136) (W := []) (H := [y9m]) Tryz.func136 yx8 ⟨w8c, trivial⟩ rfl rfl (fun av x => by kernel_rfl)
def z5v (r : GReq) : Option Bool := (z03 r.kind 1 5).bind fun x1 => (if x1 = true then ((zy2 r).bind fun x3 => ((zy3 r x3).bind fun x4 => (if x4 = true then ((z03 r.who 0 4).bind fun x6 => (if x6 = true then ((z03 r.case 0 4).bind fun x8 => (if x8 = true then ((z03 r.task 0 5).bind fun x10 => (if x10 = true then ((z03 r.var (-1) 2).bind fun x12 => (if x12 = true then ((z03 r.num (-99) 99).bind fun x14 => (if x14 = true then ((z6o r.if_).bind fun x16 => (if x16 = true then ((z03 r.ans 0 2).bind fun x18 => (if x18 = true then (if decide (r.kind = 1) = true then ((z2p r.data).bind fun x21 => (some (true == x21))) else ((z2p r.data).bind fun x22 => (some ((decide (r.kind = 5)) == x22)))) else (some false))) else (some false))) else (some false))) else (some false))) else (some false))) else (some false))) else (some false))) else (some false)))) else (some false))
def z72 : Con := ⟨63, [.v (.s .req) false], [(.B, true)], [], fun x => z5v x.1⟩
def w6v : Fs := ⟨[z0m, y5h, z5d, z91, z18], [], []⟩
theorem w7j : w6v.Ok Tryz.prog := (fsK z0v (fsK v06 (fsK v07 (fsK zr6 (fsK z6u fs0)))))
theorem zj9 : z72.Ok Tryz.prog := fn_ok (k := z72) (fn := Tryz.f63) (W := []) (H := []) Tryz.func63 w7j trivial rfl rfl (fun av x => by kernel_rfl)
def zy1 (h : GHouse) (r : GReq) : Option (GHouse × Int) := if decide ((h.runs.length : Int) ≤ r.case) = true then (some (h, 2)) else ((getI h.runs r.case).bind fun x2 => ((getI h.nets x2.net).bind fun x3 => (if decide (r.kind = 2) = true then ((z7d x3 h.people x2.case r.task r.who).bind fun x5 => (if x5.2 = true then ((getI h.runs r.case).bind fun x7 => (some ((GHouse.mk h.nets h.people h.tree (h.runs.set r.case.toNat (GRun.mk x7.net x5.1))), 1))) else (some (h, 3)))) else (if decide (r.kind = 3) = true then ((zb3 x3 x2.case r.task r.var r.num).bind fun x9 => (if x9.2 = true then ((getI h.runs r.case).bind fun x11 => (some ((GHouse.mk h.nets h.people h.tree (h.runs.set r.case.toNat (GRun.mk x11.net x9.1))), 1))) else (some (h, 3)))) else ((zo7 x3 x2.case).bind fun x12 => (if x12.2 = true then ((getI h.runs r.case).bind fun x14 => (some ((GHouse.mk h.nets h.people h.tree (h.runs.set r.case.toNat (GRun.mk x14.net x12.1))), 1))) else (some (h, 3))))))))
def y5g : Con := ⟨188, [.v (.s .house) true, .v (.s .req) false], [((.s .house), true), (.I, true)], [], fun x => zy1 x.1 x.2.1⟩
def ws7 : Fs := ⟨[zg9, zo3, y23], [], []⟩
theorem wv5 : ws7.Ok Tryz.prog := (fsK yc7 (fsK yo1 (fsK wi7 fs0)))
theorem v05 : y5g.Ok Tryz.prog := fn_ok (k := y5g) (fn := Tryz.f188) (W := []) (H := []) Tryz.func188 wv5 trivial rfl rfl (fun av x => by kernel_rfl)
def zd5 (h : GHouse) (r : GReq) : Option (GHouse × Int) := if decide (r.kind = 1) = true then (if decide ((h.runs.length : Int) = 5) = true then (some (h, 4)) else ((zx4 h.tree r.data).bind fun x3 => (if decide ((h.nets.length : Int) ≤ x3) = true then ((getI h.nets 0).bind fun x5 => ((z9p x5 r.data).bind fun x6 => (gd (h.runs.length + [(GRun.mk 0 x6)].length ≤ SMALL) (some ((GHouse.mk h.nets h.people h.tree (h.runs ++ [(GRun.mk 0 x6)])), 1))))) else ((getI h.nets x3).bind fun x8 => ((z9p x8 r.data).bind fun x9 => (gd (h.runs.length + [(GRun.mk x3 x9)].length ≤ SMALL) (some ((GHouse.mk h.nets h.people h.tree (h.runs ++ [(GRun.mk x3 x9)])), 1)))))))) else (if decide (r.kind = 5) = true then ((z81 h.tree r.data r.if_ r.ans).bind fun x12 => (if x12.2 = true then (some ((GHouse.mk h.nets h.people x12.1 h.runs), 1)) else (some (h, 3)))) else ((zy1 h r).bind fun x14 => (some (x14.1, x14.2))))
def zn0 : Con := ⟨134, [.v (.s .house) true, .v (.s .req) false], [((.s .house), true), (.I, true)], [], fun x => zd5 x.1 x.2.1⟩
def v52 : Fs := ⟨[y5a, zv4, z43, y5g], [], []⟩
theorem v57 : v52.Ok Tryz.prog := (fsK wz8 (fsK yz6 (fsK w01 (fsK v05 fs0))))
theorem y5v : zn0.Ok Tryz.prog := fn_ok (k := zn0) (fn := Tryz.f134) (W := []) (H := []) Tryz.func134 v57 trivial rfl rfl (fun av x => by kernel_rfl)
def z7u (r : GReq) : Option GReq := (z0g r.data).bind fun x1 => (some (GReq.mk r.kind r.who r.case r.task r.var r.num x1 r.if_ r.ans))
def zd2 : Con := ⟨149, [.v (.s .req) false], [((.s .req), true)], [], fun x => z7u x.1⟩
def yr1 : Fs := ⟨[z1c], [], []⟩
theorem yr8 : yr1.Ok Tryz.prog := (fsK z2l fs0)
theorem yt4 : zd2.Ok Tryz.prog := fn_ok (k := zd2) (fn := Tryz.f149) (W := []) (H := []) Tryz.func149 yr8 trivial rfl rfl (fun av x => by kernel_rfl)
def z75 (x1 : (List Int)) (x2 : (List GNode)) (l0_1 : List GNet) (l1_1 : List GRun) : Option GHouse := some (GHouse.mk l0_1 x1 x2 l1_1)
def z1o (p1_0 : List GRun) (p1_1 : Int) (kx1_0 : List GRun → Option GHouse) : Nat → Int → List GRun → Option GHouse
  | 0, _, _ => none
  | n1 + 1, s1_0, l1_1 => if decide (s1_0 < p1_1) = true then ((getI p1_0 s1_0).bind fun x9 => ((z08 x9.case).bind fun x10 => (gd (l1_1.length + [(GRun.mk x9.net x10)].length ≤ SMALL) (gd (ok64 (s1_0 + 1)) ((z1o p1_0 p1_1 kx1_0 n1) (s1_0 + 1) (l1_1 ++ [(GRun.mk x9.net x10)])))))) else (kx1_0 l1_1)
def z4o (h : GHouse) (x1 : (List Int)) (x2 : (List GNode)) (l0_1 : List GNet) : Option GHouse := z1o h.runs (h.runs.length : Int) (z75 x1 x2 l0_1) FUEL 0 ([] : List GRun)
def z1n (p0_0 : List GNet) (p0_1 : Int) (kx0_0 : List GNet → Option GHouse) : Nat → Int → List GNet → Option GHouse
  | 0, _, _ => none
  | n0 + 1, s0_0, l0_1 => if decide (s0_0 < p0_1) = true then ((getI p0_0 s0_0).bind fun x4 => ((z7w x4).bind fun x5 => (gd (l0_1.length + [x5].length ≤ SMALL) (gd (ok64 (s0_0 + 1)) ((z1n p0_0 p0_1 kx0_0 n0) (s0_0 + 1) (l0_1 ++ [x5])))))) else (kx0_0 l0_1)
def z2o (h : GHouse) : Option GHouse := (z0g h.people).bind fun x1 => ((z79 h.tree).bind fun x2 => (z1n h.nets (h.nets.length : Int) (z4o h x1 x2) FUEL 0 ([] : List GNet)))
def z09 : Con := ⟨132, [.v (.s .house) false], [((.s .house), true)], [], fun x => z2o x.1⟩
def y8o : Fs := ⟨[z1c, z1g, z1a, z34], [], []⟩
theorem z8w : y8o.Ok Tryz.prog := (fsK z2l (fsK y3o (fsK yt6 (fsK z71 fs0))))
def zk4 : Tmpl := ⟨[(1, .c (.bx 1 0)), (2, .c (.bx 2 0)), (3, .c (.bx 3 0)), (16, .c (.s (.s .net))), (17, .c .i), (18, .c .i)], [(1, .boxT (.s .house)), (2, .box [.nl, .nl, .nl, .nl]), (3, .box [.ref 510300, .ref 10, .ref 13, .nl]), (510300, .arr (.s .net) true), (10, .arr .I true), (13, .arr (.s .node) true)]⟩
def ze8 : Tmpl := ⟨[(1, .c (.bx 1 0)), (2, .c (.bx 2 0)), (3, .c (.bx 3 0))], [(1, .boxT (.s .house)), (2, .box [.nl, .nl, .nl, .nl]), (3, .box [.ref 510300, .ref 10, .ref 13, .nl]), (510300, .arr (.s .net) true), (10, .arr .I true), (13, .arr (.s .node) true)]⟩
def y4o (av : AV) (x : HP z09.ps) (n : Nat) (v : zk4.den) (K : Ks (CR z09)) : Option (CR z09) := z1n v.1.2.2.2.1 v.1.2.2.2.2.1 (fun l0_1 => ze8.at none (((), (), (), ()), (v.2.1, ((), (), (), (), ()), ((), (), (), (), ()), l0_1, v.2.2.2.2.2.1, v.2.2.2.2.2.2.1, ())) (K (.exit 0))) n v.1.2.2.2.2.2.1 v.2.2.2.2.1
def zf7 (av : AV) (x : HP z09.ps) : Hdl (CR z09) := hnd [.b 3 0 510300 (.s .net)] zk4 (y4o av x)
theorem y5i : LP z09 Tryz.f132 [0] zf7 := lp_ok (W := []) (H := []) (xs := [ze8]) z8w trivial rfl (fun av x v K => by kernel_rfl) (fun av x n v K => by kernel_rfl)
def zk5 : Tmpl := ⟨[(2, .c (.bx 2 0)), (3, .c (.bx 3 0)), (31, .c (.s (.s .run))), (32, .c .i), (33, .c .i)], [(2, .box [.nl, .nl, .nl, .nl]), (3, .box [.ref 510300, .ref 10, .ref 13, .ref 510303]), (510300, .arr (.s .net) true), (10, .arr .I true), (13, .arr (.s .node) true), (510303, .arr (.s .run) true)]⟩
def ze9 : Tmpl := ⟨[(2, .c (.bx 2 0)), (3, .c (.bx 3 0))], [(2, .box [.nl, .nl, .nl, .nl]), (3, .box [.ref 510300, .ref 10, .ref 13, .ref 510303]), (510300, .arr (.s .net) true), (10, .arr .I true), (13, .arr (.s .node) true), (510303, .arr (.s .run) true)]⟩
def y4p (av : AV) (x : HP z09.ps) (n : Nat) (v : zk5.den) (K : Ks (CR z09)) : Option (CR z09) := z1o v.1.2.2.1 v.1.2.2.2.1 (fun l1_1 => ze9.at none (((), (), ()), (((), (), (), (), ()), ((), (), (), (), ()), v.2.2.2.1, v.2.2.2.2.1, v.2.2.2.2.2.1, l1_1, ())) (K (.exit 2))) n v.1.2.2.2.2.1 v.2.2.2.2.2.2.1
def zf8 (av : AV) (x : HP z09.ps) : Hdl (CR z09) := hnd [.b 3 3 510303 (.s .run)] zk5 (y4p av x)
theorem y5j : LP z09 Tryz.f132 [1] zf8 := lp_ok (W := []) (H := []) (xs := [ze9]) z8w trivial rfl (fun av x v K => by kernel_rfl) (fun av x n v K => by kernel_rfl)
theorem yb8 : z09.Ok Tryz.prog := fn_ok (k := z09) (fn := Tryz.f132) (W := []) (H := [zf7, zf8]) Tryz.func132 z8w ⟨y5i, y5j, trivial⟩ rfl rfl (fun av x => by kernel_rfl)
def ya7  : Option Bool := some true
def z7g (log : List GReq) (kx0_0 : Option Bool) : Nat → Int → Option Bool
  | 0, _ => none
  | n0 + 1, s0_0 => if decide (s0_0 < (log.length : Int)) = true then ((getI log s0_0).bind fun x3 => ((z5v x3).bind fun x4 => (if x4 = true then (gd (ok64 (s0_0 + 1)) ((z7g log kx0_0 n0) (s0_0 + 1))) else (some false)))) else (kx0_0)
def zr4 (log : List GReq) : Option Bool := if decide (150 < (log.length : Int)) = true then (some false) else (z7g log ya7 FUEL 0)
def z5j : Con := ⟨77, [.v (.sl (.s .req)) false], [(.B, true)], [], fun x => zr4 x.1⟩
def v20 : Fs := ⟨[z72], [], []⟩
theorem w2s : v20.Ok Tryz.prog := (fsK zj9 fs0)
def yp5 : Tmpl := ⟨[(0, .c (.s (.s .req))), (3, .c .i)], []⟩
def yg7 : Tmpl := ⟨[], []⟩
def w9u (av : AV) (x : HP z5j.ps) (n : Nat) (v : yp5.den) (K : Ks (CR z5j)) : Option (CR z5j) := z7g v.1.1 (yg7.at none ((), ()) (K (.exit 0))) n v.1.2.1
def yn1 (av : AV) (x : HP z5j.ps) : Hdl (CR z5j) := hnd [] yp5 (w9u av x)
theorem wg5 : LP z5j Tryz.f77 [0] yn1 := lp_ok (W := []) (H := []) (xs := [yg7]) w2s trivial rfl (fun av x v K => by kernel_rfl) (fun av x n v K => by kernel_rfl)
theorem w39 : z5j.Ok Tryz.prog := fn_ok (k := z5j) (fn := Tryz.f77) (W := []) (H := [yn1]) Tryz.func77 w2s ⟨wg5, trivial⟩ rfl rfl (fun av x => by kernel_rfl)
def zx5 (r : GReq) : Option GReq := gd (([] : List Int).length + r.data.length ≤ SMALL) (some (GReq.mk r.kind r.who r.case r.task r.var r.num (([] : List Int) ++ r.data) r.if_ r.ans))
def y5b : Con := ⟨150, [.v (.s .req) false], [((.s .req), true)], [], fun x => zx5 x.1⟩
def wr5 : Fs := ⟨[], [], []⟩
theorem wu7 : wr5.Ok Tryz.prog := fs0
theorem wz9 : y5b.Ok Tryz.prog := fn_ok (k := y5b) (fn := Tryz.f150) (W := []) (H := []) Tryz.func150 wu7 trivial rfl rfl (fun av x => by kernel_rfl)
def y6x (l0_1 : List Int) (l0_2 : List GReq) (l0_3 : List GNode) (l0_4 : List GNet) (l0_5 : List GRun) : Option (GHouse × (List GReq)) := some ((GHouse.mk l0_4 l0_1 l0_3 l0_5), l0_2)
def z4x (reqs : List GReq) (kx0_0 : List Int → List GReq → List GNode → List GNet → List GRun → Option (GHouse × (List GReq))) : Nat → Int → List Int → List GReq → List GNode → List GNet → List GRun → Option (GHouse × (List GReq))
  | 0, _, _, _, _, _, _ => none
  | n0 + 1, s0_0, l0_1, l0_2, l0_3, l0_4, l0_5 => if decide (s0_0 < (reqs.length : Int)) = true then ((z33 (GHouse.mk l0_4 l0_1 l0_3 l0_5)).bind fun x7 => ((getI reqs s0_0).bind fun x8 => ((zd5 x7 x8).bind fun x9 => (if decide (x9.2 = 1) = true then ((getI reqs s0_0).bind fun x11 => ((zx5 x11).bind fun x12 => (gd (l0_2.length + [x12].length ≤ SMALL) (gd (ok64 (s0_0 + 1)) ((z4x reqs kx0_0 n0) (s0_0 + 1) x9.1.people (l0_2 ++ [x12]) x9.1.tree x9.1.nets x9.1.runs))))) else (gd (ok64 (s0_0 + 1)) ((z4x reqs kx0_0 n0) (s0_0 + 1) l0_1 l0_2 l0_3 l0_4 l0_5)))))) else (kx0_0 l0_1 l0_2 l0_3 l0_4 l0_5)
def zx1 (h : GHouse) (reqs : List GReq) : Option (GHouse × (List GReq)) := (zr3 h).bind fun x1 => (if x1 = true then ((zr4 reqs).bind fun x3 => (if x3 = true then ((z33 h).bind fun x5 => (z4x reqs y6x FUEL 0 x5.people ([] : List GReq) x5.tree x5.nets x5.runs)) else (some ((GHouse.mk [] [] [] []), ([] : List GReq))))) else (some ((GHouse.mk [] [] [] []), ([] : List GReq))))
def z59 : Con := ⟨75, [.v (.s .house) false, .v (.sl (.s .req)) false], [((.s .house), true), ((.sl (.s .req)), true)], [], fun x => zx1 x.1 x.2.1⟩
def wq9 : Fs := ⟨[z5i, z5j, z0p, zn0, y5b], [], []⟩
theorem yw9 : wq9.Ok Tryz.prog := (fsK w38 (fsK w39 (fsK zy7 (fsK y5v (fsK wz9 fs0)))))
def ye3 : Tmpl := ⟨[(1, .c (.s (.s .req))), (4, .c (.bx 4 0)), (6, .c (.ref 11)), (7, .c (.bx 7 0)), (8, .c .i)], [(4, .box [.nl, .nl, .nl, .nl]), (7, .box [.ref 23, .ref 10023, .ref 20023, .ref 30023]), (11, .arr (.s .req) true), (23, .arr (.s .net) true), (10023, .arr .I true), (20023, .arr (.s .node) true), (30023, .arr (.s .run) true)]⟩
def y82 : Tmpl := ⟨[(4, .c (.bx 4 0)), (6, .c (.ref 11)), (7, .c (.bx 7 0))], [(4, .box [.nl, .nl, .nl, .nl]), (7, .box [.ref 23, .ref 10023, .ref 20023, .ref 30023]), (11, .arr (.s .req) true), (23, .arr (.s .net) true), (10023, .arr .I true), (20023, .arr (.s .node) true), (30023, .arr (.s .run) true)]⟩
def w61 (av : AV) (x : HP z59.ps) (n : Nat) (v : ye3.den) (K : Ks (CR z59)) : Option (CR z59) := z4x v.1.1 (fun l0_1 l0_2 l0_3 l0_4 l0_5 => y82.at none (((), (), (), ()), (((), (), (), (), ()), ((), (), (), (), ()), l0_2, l0_4, l0_1, l0_3, l0_5, ())) (K (.exit 0))) n v.1.2.2.2.2.1 v.2.2.2.2.2.1 v.2.2.2.1 v.2.2.2.2.2.2.1 v.2.2.2.2.1 v.2.2.2.2.2.2.2.1
def y9a (av : AV) (x : HP z59.ps) : Hdl (CR z59) := hnd [] ye3 (w61 av x)
theorem w80 : LP z59 Tryz.f75 [0] y9a := lp_ok (W := []) (H := []) (xs := [y82]) yw9 trivial rfl (fun av x v K => by kernel_rfl) (fun av x n v K => by kernel_rfl)
theorem wz5 : z59.Ok Tryz.prog := fn_ok (k := z59) (fn := Tryz.f75) (W := []) (H := [y9a]) Tryz.func75 yw9 ⟨w80, trivial⟩ rfl rfl (fun av x => by kernel_rfl)
def y3g (l0_1 : List Int) (l0_2 : List GNet) (l0_3 : List GNode) (l0_4 : List GRun) : Option (GHouse × Bool) := some ((GHouse.mk l0_2 l0_1 l0_3 l0_4), true)
def z5r (log : List GReq) (kx0_0 : List Int → List GNet → List GNode → List GRun → Option (GHouse × Bool)) : Nat → Int → List Int → List GNet → List GNode → List GRun → Option (GHouse × Bool)
  | 0, _, _, _, _, _ => none
  | n0 + 1, s0_0, l0_1, l0_2, l0_3, l0_4 => if decide (s0_0 < (log.length : Int)) = true then ((z33 (GHouse.mk l0_2 l0_1 l0_3 l0_4)).bind fun x7 => ((getI log s0_0).bind fun x8 => ((zd5 x7 x8).bind fun x9 => (if decide (x9.2 = 1) = true then (gd (ok64 (s0_0 + 1)) ((z5r log kx0_0 n0) (s0_0 + 1) x9.1.people x9.1.nets x9.1.tree x9.1.runs)) else (some ((GHouse.mk [] [] [] []), false)))))) else (kx0_0 l0_1 l0_2 l0_3 l0_4)
def zp0 (h : GHouse) (log : List GReq) : Option (GHouse × Bool) := (zr3 h).bind fun x1 => (if x1 = true then ((zr4 log).bind fun x3 => (if x3 = true then ((z33 h).bind fun x5 => (z5r log y3g FUEL 0 x5.people x5.nets x5.tree x5.runs)) else (some ((GHouse.mk [] [] [] []), false)))) else (some ((GHouse.mk [] [] [] []), false)))
def z42 : Con := ⟨79, [.v (.s .house) false, .v (.sl (.s .req)) false], [((.s .house), true), (.B, true)], [], fun x => zp0 x.1 x.2.1⟩
def wc2 : Fs := ⟨[z5i, z5j, z0p, zn0], [], []⟩
theorem yl1 : wc2.Ok Tryz.prog := (fsK w38 (fsK w39 (fsK zy7 (fsK y5v fs0))))
def y7j : Tmpl := ⟨[(1, .c (.s (.s .req))), (4, .c (.bx 4 0)), (6, .c (.bx 6 0)), (7, .c .i)], [(4, .box [.nl, .nl, .nl, .nl]), (6, .box [.ref 20, .ref 10020, .ref 20020, .ref 30020]), (20, .arr (.s .net) true), (10020, .arr .I true), (20020, .arr (.s .node) true), (30020, .arr (.s .run) true)]⟩
def y4e : Tmpl := ⟨[(4, .c (.bx 4 0)), (6, .c (.bx 6 0))], [(4, .box [.nl, .nl, .nl, .nl]), (6, .box [.ref 20, .ref 10020, .ref 20020, .ref 30020]), (20, .arr (.s .net) true), (10020, .arr .I true), (20020, .arr (.s .node) true), (30020, .arr (.s .run) true)]⟩
def w3w (av : AV) (x : HP z42.ps) (n : Nat) (v : y7j.den) (K : Ks (CR z42)) : Option (CR z42) := z5r v.1.1 (fun l0_1 l0_2 l0_3 l0_4 => y4e.at none (((), (), ()), (((), (), (), (), ()), ((), (), (), (), ()), l0_2, l0_1, l0_3, l0_4, ())) (K (.exit 0))) n v.1.2.2.2.1 v.2.2.2.2.1 v.2.2.2.1 v.2.2.2.2.2.1 v.2.2.2.2.2.2.1
def y6i (av : AV) (x : HP z42.ps) : Hdl (CR z42) := hnd [] y7j (w3w av x)
theorem w4w : LP z42 Tryz.f79 [0] y6i := lp_ok (W := []) (H := []) (xs := [y4e]) yl1 trivial rfl (fun av x v K => by kernel_rfl) (fun av x n v K => by kernel_rfl)
theorem wj0 : z42.Ok Tryz.prog := fn_ok (k := z42) (fn := Tryz.f79) (W := []) (H := [y6i]) Tryz.func79 yl1 ⟨w4w, trivial⟩ rfl rfl (fun av x => by kernel_rfl)
def y6u  : Option Int := some (-1)
def z5z (s : List Int) (p : Int → Option Bool) (p0_0 : Int) (kx0_0 : Option Int) : Nat → Int → Option Int
  | 0, _ => none
  | n0 + 1, s0_0 => if decide (s0_0 < p0_0) = true then ((getI s s0_0).bind fun x2 => ((p x2).bind fun x3 => (if x3 = true then (some s0_0) else (gd (ok64 (s0_0 + 1)) ((z5z s p p0_0 kx0_0 n0) (s0_0 + 1)))))) else (kx0_0)
def zv7 (s : List Int) (p : Int → Option Bool) : Option Int := z5z s p (s.length : Int) y6u FUEL 0
def z3y : Con := ⟨175, [.v (.sl .I) false, .fn .I], [(.I, true)], [], fun x => zv7 x.1 x.2.1⟩
def wo8 : Fs := ⟨[], [], []⟩
theorem yv8 : wo8.Ok Tryz.prog := fs0
def yd5 : Tmpl := ⟨[(0, .c (.s .I)), (1, .c .fp), (7, .c .i), (8, .c .i)], []⟩
def y7u : Tmpl := ⟨[], []⟩
def w5t (av : AV) (x : HP z3y.ps) (n : Nat) (v : yd5.den) (K : Ks (CR z3y)) : Option (CR z3y) := z5z v.1.1 x.2.1 v.1.2.2.1 (y7u.at (fpOf z3y.ps x av) ((), ()) (K (.exit 0))) n v.1.2.2.2.1
def y92 (av : AV) (x : HP z3y.ps) : Hdl (CR z3y) := hnd [] yd5 (w5t av x)
theorem w7s : LP z3y Tryz.f175 [0] y92 := lp_ok (W := []) (H := []) (xs := [y7u]) yv8 trivial rfl (fun av x v K => by kernel_rfl) (fun av x n v K => by kernel_rfl)
theorem wx9 : z3y.Ok Tryz.prog := fn_ok (k := z3y) (fn := Tryz.f175) (W := []) (H := [y92]) Tryz.func175 yv8 ⟨w7s, trivial⟩ rfl rfl (fun av x => by kernel_rfl)
def z2h (s : List Int) (p : Int → Option Bool) : Option Bool := (zv7 s p).bind fun x1 => (some (decide (0 ≤ x1)))
def z4v : Con := ⟨118, [.v (.sl .I) false, .fn .I], [(.B, true)], [], fun x => z2h x.1 x.2.1⟩
def w48 : Fs := ⟨[z3y], [], []⟩
theorem w4g : w48.Ok Tryz.prog := (fsK wx9 fs0)
theorem z8d : z4v.Ok Tryz.prog := fn_ok (k := z4v) (fn := Tryz.f118) (W := []) (H := []) Tryz.func118 w4g trivial rfl rfl (fun av x => by kernel_rfl)
def y06  : Option Int := some (-1)
def z3l (s : List GReq) (p : GReq → Option Bool) (p0_0 : Int) (kx0_0 : Option Int) : Nat → Int → Option Int
  | 0, _ => none
  | n0 + 1, s0_0 => if decide (s0_0 < p0_0) = true then ((getI s s0_0).bind fun x2 => ((p x2).bind fun x3 => (if x3 = true then (some s0_0) else (gd (ok64 (s0_0 + 1)) ((z3l s p p0_0 kx0_0 n0) (s0_0 + 1)))))) else (kx0_0)
def zc4 (s : List GReq) (p : GReq → Option Bool) : Option Int := z3l s p (s.length : Int) y06 FUEL 0
def z1w : Con := ⟨212, [.v (.sl (.s .req)) false, .fn (.s .req)], [(.I, true)], [], fun x => zc4 x.1 x.2.1⟩
def w4a : Fs := ⟨[], [], []⟩
theorem y65 : w4a.Ok Tryz.prog := fs0
def y1f : Tmpl := ⟨[(0, .c (.s (.s .req))), (1, .c .fp), (7, .c .i), (8, .c .i)], []⟩
def y0l : Tmpl := ⟨[], []⟩
def yu4 (av : AV) (x : HP z1w.ps) (n : Nat) (v : y1f.den) (K : Ks (CR z1w)) : Option (CR z1w) := z3l v.1.1 x.2.1 v.1.2.2.1 (y0l.at (fpOf z1w.ps x av) ((), ()) (K (.exit 0))) n v.1.2.2.2.1
def y0t (av : AV) (x : HP z1w.ps) : Hdl (CR z1w) := hnd [] y1f (yu4 av x)
theorem yy4 : LP z1w Tryz.f212 [0] y0t := lp_ok (W := []) (H := []) (xs := [y0l]) y65 trivial rfl (fun av x v K => by kernel_rfl) (fun av x n v K => by kernel_rfl)
theorem w58 : z1w.Ok Tryz.prog := fn_ok (k := z1w) (fn := Tryz.f212) (W := []) (H := [y0t]) Tryz.func212 y65 ⟨yy4, trivial⟩ rfl rfl (fun av x => by kernel_rfl)
def z7t (s : List GReq) (p : GReq → Option Bool) : Option Bool := (zc4 s p).bind fun x1 => (some (decide (0 ≤ x1)))
def zd1 : Con := ⟨193, [.v (.sl (.s .req)) false, .fn (.s .req)], [(.B, true)], [], fun x => z7t x.1 x.2.1⟩
def yr0 : Fs := ⟨[z1w], [], []⟩
theorem yr7 : yr0.Ok Tryz.prog := (fsK w58 fs0)
theorem yt3 : zd1.Ok Tryz.prog := fn_ok (k := zd1) (fn := Tryz.f193) (W := []) (H := []) Tryz.func193 yr7 trivial rfl rfl (fun av x => by kernel_rfl)
def zt8  : Option Int := some (-1)
def z36 (s : List GTask) (p : GTask → Option Bool) (p0_0 : Int) (kx0_0 : Option Int) : Nat → Int → Option Int
  | 0, _ => none
  | n0 + 1, s0_0 => if decide (s0_0 < p0_0) = true then ((getI s s0_0).bind fun x2 => ((p x2).bind fun x3 => (if x3 = true then (some s0_0) else (gd (ok64 (s0_0 + 1)) ((z36 s p p0_0 kx0_0 n0) (s0_0 + 1)))))) else (kx0_0)
def z9k (s : List GTask) (p : GTask → Option Bool) : Option Int := z36 s p (s.length : Int) zt8 FUEL 0
def z1f : Con := ⟨176, [.v (.sl (.s .task)) false, .fn (.s .task)], [(.I, true)], [], fun x => z9k x.1 x.2.1⟩
def w13 : Fs := ⟨[], [], []⟩
theorem y2w : w13.Ok Tryz.prog := fs0
def y0f : Tmpl := ⟨[(0, .c (.s (.s .task))), (1, .c .fp), (7, .c .i), (8, .c .i)], []⟩
def zu3 : Tmpl := ⟨[], []⟩
def yq3 (av : AV) (x : HP z1f.ps) (n : Nat) (v : y0f.den) (K : Ks (CR z1f)) : Option (CR z1f) := z36 v.1.1 x.2.1 v.1.2.2.1 (zu3.at (fpOf z1f.ps x av) ((), ()) (K (.exit 0))) n v.1.2.2.2.1
def zz6 (av : AV) (x : HP z1f.ps) : Hdl (CR z1f) := hnd [] y0f (yq3 av x)
theorem ys4 : LP z1f Tryz.f176 [0] zz6 := lp_ok (W := []) (H := []) (xs := [zu3]) y2w trivial rfl (fun av x v K => by kernel_rfl) (fun av x n v K => by kernel_rfl)
theorem w22 : z1f.Ok Tryz.prog := fn_ok (k := z1f) (fn := Tryz.f176) (W := []) (H := [zz6]) Tryz.func176 y2w ⟨ys4, trivial⟩ rfl rfl (fun av x => by kernel_rfl)
def z6y (s : List GTask) (p : GTask → Option Bool) : Option Bool := (z9k s p).bind fun x1 => (some (decide (0 ≤ x1)))
def za3 : Con := ⟨123, [.v (.sl (.s .task)) false, .fn (.s .task)], [(.B, true)], [], fun x => z6y x.1 x.2.1⟩
def yj3 : Fs := ⟨[z1f], [], []⟩
theorem yj9 : yj3.Ok Tryz.prog := (fsK w22 fs0)
theorem yk4 : za3.Ok Tryz.prog := fn_ok (k := za3) (fn := Tryz.f123) (W := []) (H := []) Tryz.func123 yj9 trivial rfl rfl (fun av x => by kernel_rfl)
def y05  : Option Int := some (-1)
def z3k (s : List GNet) (p : GNet → Option Bool) (p0_0 : Int) (kx0_0 : Option Int) : Nat → Int → Option Int
  | 0, _ => none
  | n0 + 1, s0_0 => if decide (s0_0 < p0_0) = true then ((getI s s0_0).bind fun x2 => ((p x2).bind fun x3 => (if x3 = true then (some s0_0) else (gd (ok64 (s0_0 + 1)) ((z3k s p p0_0 kx0_0 n0) (s0_0 + 1)))))) else (kx0_0)
def zc3 (s : List GNet) (p : GNet → Option Bool) : Option Int := z3k s p (s.length : Int) y05 FUEL 0
def z1v : Con := ⟨180, [.v (.sl (.s .net)) false, .fn (.s .net)], [(.I, true)], [], fun x => zc3 x.1 x.2.1⟩
def w49 : Fs := ⟨[], [], []⟩
theorem y64 : w49.Ok Tryz.prog := fs0
def y1e : Tmpl := ⟨[(0, .c (.s (.s .net))), (1, .c .fp), (7, .c .i), (8, .c .i)], []⟩
def y0k : Tmpl := ⟨[], []⟩
def yu3 (av : AV) (x : HP z1v.ps) (n : Nat) (v : y1e.den) (K : Ks (CR z1v)) : Option (CR z1v) := z3k v.1.1 x.2.1 v.1.2.2.1 (y0k.at (fpOf z1v.ps x av) ((), ()) (K (.exit 0))) n v.1.2.2.2.1
def y0s (av : AV) (x : HP z1v.ps) : Hdl (CR z1v) := hnd [] y1e (yu3 av x)
theorem yy3 : LP z1v Tryz.f180 [0] y0s := lp_ok (W := []) (H := []) (xs := [y0k]) y64 trivial rfl (fun av x v K => by kernel_rfl) (fun av x n v K => by kernel_rfl)
theorem w57 : z1v.Ok Tryz.prog := fn_ok (k := z1v) (fn := Tryz.f180) (W := []) (H := [y0s]) Tryz.func180 y64 ⟨yy3, trivial⟩ rfl rfl (fun av x => by kernel_rfl)
def z7s (s : List GNet) (p : GNet → Option Bool) : Option Bool := (zc3 s p).bind fun x1 => (some (decide (0 ≤ x1)))
def zd0 : Con := ⟨126, [.v (.sl (.s .net)) false, .fn (.s .net)], [(.B, true)], [], fun x => z7s x.1 x.2.1⟩
def yq9 : Fs := ⟨[z1v], [], []⟩
theorem yr6 : yq9.Ok Tryz.prog := (fsK w57 fs0)
theorem yt2 : zd0.Ok Tryz.prog := fn_ok (k := zd0) (fn := Tryz.f126) (W := []) (H := []) Tryz.func126 yr6 trivial rfl rfl (fun av x => by kernel_rfl)
def zt7  : Option Int := some (-1)
def z35 (s : List GItem) (p : GItem → Option Bool) (p0_0 : Int) (kx0_0 : Option Int) : Nat → Int → Option Int
  | 0, _ => none
  | n0 + 1, s0_0 => if decide (s0_0 < p0_0) = true then ((getI s s0_0).bind fun x2 => ((p x2).bind fun x3 => (if x3 = true then (some s0_0) else (gd (ok64 (s0_0 + 1)) ((z35 s p p0_0 kx0_0 n0) (s0_0 + 1)))))) else (kx0_0)
def z9j (s : List GItem) (p : GItem → Option Bool) : Option Int := z35 s p (s.length : Int) zt7 FUEL 0
def z1e : Con := ⟨169, [.v (.sl (.s .item)) false, .fn (.s .item)], [(.I, true)], [], fun x => z9j x.1 x.2.1⟩
def w12 : Fs := ⟨[], [], []⟩
theorem y2v : w12.Ok Tryz.prog := fs0
def y0e : Tmpl := ⟨[(0, .c (.s (.s .item))), (1, .c .fp), (7, .c .i), (8, .c .i)], []⟩
def zu2 : Tmpl := ⟨[], []⟩
def yq2 (av : AV) (x : HP z1e.ps) (n : Nat) (v : y0e.den) (K : Ks (CR z1e)) : Option (CR z1e) := z35 v.1.1 x.2.1 v.1.2.2.1 (zu2.at (fpOf z1e.ps x av) ((), ()) (K (.exit 0))) n v.1.2.2.2.1
def zz5 (av : AV) (x : HP z1e.ps) : Hdl (CR z1e) := hnd [] y0e (yq2 av x)
theorem ys3 : LP z1e Tryz.f169 [0] zz5 := lp_ok (W := []) (H := []) (xs := [zu2]) y2v trivial rfl (fun av x v K => by kernel_rfl) (fun av x n v K => by kernel_rfl)
theorem w21 : z1e.Ok Tryz.prog := fn_ok (k := z1e) (fn := Tryz.f169) (W := []) (H := [zz5]) Tryz.func169 y2v ⟨ys3, trivial⟩ rfl rfl (fun av x => by kernel_rfl)
def z6x (s : List GItem) (p : GItem → Option Bool) : Option Bool := (z9j s p).bind fun x1 => (some (decide (0 ≤ x1)))
def za2 : Con := ⟨107, [.v (.sl (.s .item)) false, .fn (.s .item)], [(.B, true)], [], fun x => z6x x.1 x.2.1⟩
def yj2 : Fs := ⟨[z1e], [], []⟩
theorem yj8 : yj2.Ok Tryz.prog := (fsK w21 fs0)
theorem yk3 : za2.Ok Tryz.prog := fn_ok (k := za2) (fn := Tryz.f107) (W := []) (H := []) Tryz.func107 yj8 trivial rfl rfl (fun av x => by kernel_rfl)
def w34  : Option Int := some (-1)
def ze1 (s : List Int) (v : Int) (p0_0 : Int) (kx0_0 : Option Int) : Nat → Int → Option Int
  | 0, _ => none
  | n0 + 1, s0_0 => if decide (s0_0 < p0_0) = true then ((getI s s0_0).bind fun x2 => (if decide (v = x2) = true then (some s0_0) else (gd (ok64 (s0_0 + 1)) ((ze1 s v p0_0 kx0_0 n0) (s0_0 + 1))))) else (kx0_0)
def yy9 (s : List Int) (v : Int) : Option Int := ze1 s v (s.length : Int) w34 FUEL 0
def zg5 : Con := ⟨163, [.v (.sl .I) false, .v .I false], [(.I, true)], [], fun x => yy9 x.1 x.2.1⟩
def v9i : Fs := ⟨[], [], []⟩
theorem v2c : v9i.Ok Tryz.prog := fs0
def w9e : Tmpl := ⟨[(0, .c (.s .I)), (1, .c .i), (7, .c .i), (8, .c .i)], []⟩
def w3k : Tmpl := ⟨[], []⟩
def v4r (av : AV) (x : HP zg5.ps) (n : Nat) (v : w9e.den) (K : Ks (CR zg5)) : Option (CR zg5) := ze1 v.1.1 v.1.2.1 v.1.2.2.1 (w3k.at none ((), ()) (K (.exit 0))) n v.1.2.2.2.1
def w7m (av : AV) (x : HP zg5.ps) : Hdl (CR zg5) := hnd [] w9e (v4r av x)
theorem v5j : LP zg5 Tryz.f163 [0] w7m := lp_ok (W := []) (H := []) (xs := [w3k]) v2c trivial rfl (fun av x v K => by kernel_rfl) (fun av x n v K => by kernel_rfl)
theorem vc9 : zg5.Ok Tryz.prog := fn_ok (k := zg5) (fn := Tryz.f163) (W := []) (H := [w7m]) Tryz.func163 v2c ⟨v5j, trivial⟩ rfl rfl (fun av x => by kernel_rfl)
def zd9 (s : List Int) (v : Int) : Option Bool := (yy9 s v).bind fun x1 => (some (decide (0 ≤ x1)))
def zq5 : Con := ⟨92, [.v (.sl .I) false, .v .I false], [(.B, true)], [], fun x => zd9 x.1 x.2.1⟩
def v1i : Fs := ⟨[zg5], [], []⟩
theorem v2a : v1i.Ok Tryz.prog := (fsK vc9 fs0)
theorem yb7 : zq5.Ok Tryz.prog := fn_ok (k := zq5) (fn := Tryz.f92) (W := []) (H := []) Tryz.func92 v2a trivial rfl rfl (fun av x => by kernel_rfl)
def y9z  : Option Int := some (-1)
def z73 (s : List GDid) (v : GDid) (p0_0 : Int) (kx0_0 : Option Int) : Nat → Int → Option Int
  | 0, _ => none
  | n0 + 1, s0_0 => if decide (s0_0 < p0_0) = true then ((getI s s0_0).bind fun x2 => (if decide ([v.task, v.who] = [x2.task, x2.who]) = true then (some s0_0) else (gd (ok64 (s0_0 + 1)) ((z73 s v p0_0 kx0_0 n0) (s0_0 + 1))))) else (kx0_0)
def y0z (s : List GDid) (v : GDid) : Option Int := z73 s v (s.length : Int) y9z FUEL 0
def z6d : Con := ⟨204, [.v (.sl (.s .did)) false, .v (.s .did) false], [(.I, true)], [], fun x => y0z x.1 x.2.1⟩
def v1j : Fs := ⟨[], [], []⟩
theorem w2j : v1j.Ok Tryz.prog := fs0
def yo4 : Tmpl := ⟨[(0, .c (.s (.s .did))), (3, .c (.bx 3 0)), (7, .c .i), (8, .c .i)], [(3, .boxT (.s .did))]⟩
def yf6 : Tmpl := ⟨[], []⟩
def w9j (av : AV) (x : HP z6d.ps) (n : Nat) (v : yo4.den) (K : Ks (CR z6d)) : Option (CR z6d) := z73 v.1.1 v.2.1 v.1.2.2.1 (yf6.at none ((), ()) (K (.exit 0))) n v.1.2.2.2.1
def ym0 (av : AV) (x : HP z6d.ps) : Hdl (CR z6d) := hnd [] yo4 (w9j av x)
theorem wf4 : LP z6d Tryz.f204 [0] ym0 := lp_ok (W := []) (H := []) (xs := [yf6]) w2j trivial rfl (fun av x v K => by kernel_rfl) (fun av x n v K => by kernel_rfl)
theorem v3c : z6d.Ok Tryz.prog := fn_ok (k := z6d) (fn := Tryz.f204) (W := []) (H := [ym0]) Tryz.func204 w2j ⟨wf4, trivial⟩ rfl rfl (fun av x => by kernel_rfl)
def y04 (s : List GDid) (v : GDid) : Option Bool := (y0z s v).bind fun x1 => (some (decide (0 ≤ x1)))
def y01 : Con := ⟨170, [.v (.sl (.s .did)) false, .v (.s .did) false], [(.B, true)], [], fun x => y04 x.1 x.2.1⟩
def w6m : Fs := ⟨[z6d], [], []⟩
theorem w7b : w6m.Ok Tryz.prog := (fsK v3c fs0)
theorem w8f : y01.Ok Tryz.prog := fn_ok (k := y01) (fn := Tryz.f170) (W := []) (H := []) Tryz.func170 w7b trivial rfl rfl (fun av x => by kernel_rfl)
def w33  : Option Bool := some true
def ze0 (s1 : List Int) (s2 : List Int) (p0_0 : Int) (kx0_0 : Option Bool) : Nat → Int → Option Bool
  | 0, _ => none
  | n0 + 1, s0_0 => if decide (s0_0 < p0_0) = true then ((getI s1 s0_0).bind fun x3 => ((getI s2 s0_0).bind fun x4 => (if decide (x3 = x4) = true then (gd (ok64 (s0_0 + 1)) ((ze0 s1 s2 p0_0 kx0_0 n0) (s0_0 + 1))) else (some false)))) else (kx0_0)
def yy8 (s1 : List Int) (s2 : List Int) : Option Bool := if decide ((s1.length : Int) = (s2.length : Int)) = true then (ze0 s1 s2 (s1.length : Int) w33 FUEL 0) else (some false)
def zg4 : Con := ⟨192, [.v (.sl .I) false, .v (.sl .I) false], [(.B, true)], [], fun x => yy8 x.1 x.2.1⟩
def v9h : Fs := ⟨[], [], []⟩
theorem v2b : v9h.Ok Tryz.prog := fs0
def w9d : Tmpl := ⟨[(0, .c (.s .I)), (1, .c (.s .I)), (12, .c .i), (13, .c .i)], []⟩
def w3j : Tmpl := ⟨[], []⟩
def v4q (av : AV) (x : HP zg4.ps) (n : Nat) (v : w9d.den) (K : Ks (CR zg4)) : Option (CR zg4) := ze0 v.1.1 v.1.2.1 v.1.2.2.1 (w3j.at none ((), ()) (K (.exit 0))) n v.1.2.2.2.1
def w7l (av : AV) (x : HP zg4.ps) : Hdl (CR zg4) := hnd [] w9d (v4q av x)
theorem v5i : LP zg4 Tryz.f192 [0] w7l := lp_ok (W := []) (H := []) (xs := [w3j]) v2b trivial rfl (fun av x v K => by kernel_rfl) (fun av x n v K => by kernel_rfl)
theorem vc8 : zg4.Ok Tryz.prog := fn_ok (k := zg4) (fn := Tryz.f192) (W := []) (H := [w7l]) Tryz.func192 v2b ⟨v5i, trivial⟩ rfl rfl (fun av x => by kernel_rfl)
def y29 (n : Int) : Option Bool := (z5k n).bind fun x1 => (some (!x1))
def y2i : FCon := ⟨162, .I, [], fun z c => y29 z ⟩
def wa4 : Fs := ⟨[z8f], [], []⟩
theorem wd8 : wa4.Ok Tryz.prog := (fsK zp9 fs0)
theorem wh5 : y2i.Ok Tryz.prog := FCon.ok (fn_ok (k := y2i.con) (fn := Tryz.f162) (W := []) (H := []) Tryz.func162 wd8 trivial rfl rfl (fun av x => by kernel_rfl))
def z3c (data : List Int) : Option Bool := if decide ((data.length : Int) = 3) = true then ((z2h data (fun z => y29 z )).bind fun x2 => (some (!x2))) else (some false)
def z5h : Con := ⟨91, [.v (.sl .I) false], [(.B, true)], [], fun x => z3c x.1⟩
def v1l : Fs := ⟨[z4v], [y2i], []⟩
theorem v2d : v1l.Ok Tryz.prog := (fsK z8d (fsF wh5 fs0))
theorem z7p : z5h.Ok Tryz.prog := fn_ok (k := z5h) (fn := Tryz.f91) (W := []) (H := []) Tryz.func91 v2d trivial rfl rfl (fun av x => by kernel_rfl)
def z2f (e : GAsk) (data : List Int) : Option Bool := (z7o e).bind fun x1 => (if x1 = true then ((z3c data).bind fun x3 => (if x3 = true then (if decide (e.op = 1) = true then ((getI data e.var).bind fun x6 => (some (decide (x6 < e.k)))) else (if decide (e.op = 2) = true then ((getI data e.var).bind fun x8 => (some (decide (x8 = e.k)))) else (if decide (e.op = 3) = true then ((getI data e.var).bind fun x10 => (some (decide (e.k < x10)))) else (some true)))) else (some false))) else (some false))
def z4g : Con := ⟨120, [.v (.s .ask) false, .v (.sl .I) false], [(.B, true)], [], fun x => z2f x.1 x.2.1⟩
def w6p : Fs := ⟨[zq6, z5h], [], []⟩
theorem w7e : w6p.Ok Tryz.prog := (fsK yc0 (fsK z7p fs0))
theorem z7m : z4g.Ok Tryz.prog := fn_ok (k := z4g) (fn := Tryz.f120) (W := []) (H := []) Tryz.func120 w7e trivial rfl rfl (fun av x => by kernel_rfl)
def y3b  : Option Bool := some true
def z5n (list : List Int) (places : Int) (without : List Int) (p0_0 : Int) (kx0_0 : Option Bool) : Nat → Int → Int → Option Bool
  | 0, _, _ => none
  | n0 + 1, s0_0, s0_1 => if decide (s0_0 < p0_0) = true then ((getI list s0_0).bind fun x2 => (gd (ok64 (s0_1 + 1)) (gd (ok64 (places - 1)) ((z0c x2 (s0_1 + 1) (places - 1)).bind fun x5 => (if x5 = true then ((zd9 without x2).bind fun x7 => (if x7 = true then (some false) else (gd (ok64 (s0_0 + 1)) ((z5n list places without p0_0 kx0_0 n0) (s0_0 + 1) x2)))) else (some false)))))) else (kx0_0)
def zb2 (list : List Int) (places : Int) (without : List Int) : Option Bool := z5n list places without (list.length : Int) y3b FUEL 0 (-1)
def z40 : Con := ⟨178, [.v (.sl .I) false, .v .I false, .v (.sl .I) false], [(.B, true)], [], fun x => zb2 x.1 x.2.1 x.2.2.1⟩
def wb2 : Fs := ⟨[z23, zq5], [], []⟩
theorem yk8 : wb2.Ok Tryz.prog := (fsK z2r (fsK yb7 fs0))
def y7c : Tmpl := ⟨[(1, .c .i), (2, .c (.s .I)), (7, .c .i), (10, .c (.s .I)), (11, .c .i), (12, .c .i)], []⟩
def y48 : Tmpl := ⟨[], []⟩
def w3p (av : AV) (x : HP z40.ps) (n : Nat) (v : y7c.den) (K : Ks (CR z40)) : Option (CR z40) := z5n v.1.2.2.2.1 v.1.1 v.1.2.1 v.1.2.2.2.2.1 (y48.at none ((), ()) (K (.exit 0))) n v.1.2.2.2.2.2.1 v.1.2.2.1
def y6b (av : AV) (x : HP z40.ps) : Hdl (CR z40) := hnd [] y7c (w3p av x)
theorem w4p : LP z40 Tryz.f178 [0] y6b := lp_ok (W := []) (H := []) (xs := [y48]) yk8 trivial rfl (fun av x v K => by kernel_rfl) (fun av x n v K => by kernel_rfl)
theorem wi3 : z40.Ok Tryz.prog := fn_ok (k := z40) (fn := Tryz.f178) (W := []) (H := [y6b]) Tryz.func178 yk8 ⟨w4p, trivial⟩ rfl rfl (fun av x => by kernel_rfl)
def z7z (t : GTask) : Option Bool := (z0c (t.out.length : Int) 1 3).bind fun x21 => (some x21)
def z1b (t : GTask) (places : Int) (p0_0 : List GFlow) (p0_1 : Int) (kx0_0 : Option Bool) : Nat → Int → List Int → Option Bool
  | 0, _, _ => none
  | n0 + 1, s0_0, m0_1 => if decide (s0_0 < p0_1) = true then ((getI p0_0 s0_0).bind fun x2 => (if decide (t.split = 1) = true then (gd (ok64 (places - 1)) ((z0c x2.to 0 (places - 1)).bind fun x5 => (if x5 = true then (if decide (x2.to ∈ m0_1) = true then (some false) else ((z7o x2.if_).bind fun x8 => (if x8 = true then (if ((decide (x2.if_.op = 0)) == true) = true then (gd (ok64 (s0_0 + 1)) ((z1b t places p0_0 p0_1 kx0_0 n0) (s0_0 + 1) (insKey m0_1 x2.to))) else (some false)) else (some false)))) else (some false)))) else (gd (ok64 ((t.out.length : Int) - 1)) (gd (ok64 (places - 1)) ((z0c x2.to 0 (places - 1)).bind fun x14 => (if x14 = true then (if decide (x2.to ∈ m0_1) = true then (some false) else ((z7o x2.if_).bind fun x17 => (if x17 = true then (if ((decide (x2.if_.op = 0)) == (decide (s0_0 = ((t.out.length : Int) - 1)))) = true then (gd (ok64 (s0_0 + 1)) ((z1b t places p0_0 p0_1 kx0_0 n0) (s0_0 + 1) (insKey m0_1 x2.to))) else (some false)) else (some false)))) else (some false))))))) else (kx0_0)
def z70 (t : GTask) (places : Int) : Option Bool := z1b t places t.out (t.out.length : Int) (z7z t) FUEL 0 (insKey ([] : List Int) 0)
def z11 : Con := ⟨179, [.v (.s .task) false, .v .I false], [(.B, true)], [], fun x => z70 x.1 x.2.1⟩
def yj7 : Fs := ⟨[z23, zq6], [], []⟩
theorem zt5 : yj7.Ok Tryz.prog := (fsK z2r (fsK yc0 fs0))
def zl8 : Tmpl := ⟨[(1, .c .i), (2, .c (.bx 2 0)), (5, .c (.bx 9 0)), (12, .c (.s (.s .flow))), (13, .c .i), (14, .c .i)], [(2, .boxT (.s .task)), (9, .mp)]⟩
def zl1 : Tmpl := ⟨[(2, .c (.bx 2 0))], [(2, .boxT (.s .task))]⟩
def y8f (av : AV) (x : HP z11.ps) (n : Nat) (v : zl8.den) (K : Ks (CR z11)) : Option (CR z11) := z1b v.2.1 v.1.1 v.1.2.2.2.1 v.1.2.2.2.2.1 (zl1.at none (((), ()), (v.2.1, ())) (K (.exit 0))) n v.1.2.2.2.2.2.1 v.2.2.1
def zl3 (av : AV) (x : HP z11.ps) : Hdl (CR z11) := hnd [] zl8 (y8f av x)
theorem y8h : LP z11 Tryz.f179 [0] zl3 := lp_ok (W := []) (H := []) (xs := [zl1]) zt5 trivial rfl (fun av x v K => by kernel_rfl) (fun av x n v K => by kernel_rfl)
theorem yk6 : z11.Ok Tryz.prog := fn_ok (k := z11) (fn := Tryz.f179) (W := []) (H := [zl3]) Tryz.func179 zt5 ⟨y8h, trivial⟩ rfl rfl (fun av x => by kernel_rfl)
def z9o (t : GTask) (places : Int) (tasks : Int) : Option Bool := (zw5 t.join).bind fun x1 => (if x1 = true then ((zw5 t.split).bind fun x3 => (if x3 = true then ((z0c (t.in_.length : Int) 1 3).bind fun x5 => (if x5 = true then ((zb2 t.in_ places [1]).bind fun x7 => (if x7 = true then ((z70 t places).bind fun x9 => (if x9 = true then ((zb2 t.clear places [0, 1]).bind fun x11 => (if x11 = true then ((zh8 t.role).bind fun x13 => (if x13 = true then (gd (ok64 (tasks - 1)) ((z0c t.apart (-1) (tasks - 1)).bind fun x16 => (if x16 = true then ((z0c t.all 1 3).bind fun x18 => (if x18 = true then ((z0c t.need 1 t.all).bind fun x20 => (some x20)) else (some false))) else (some false)))) else (some false))) else (some false))) else (some false))) else (some false))) else (some false))) else (some false))) else (some false))
def zm7 : Con := ⟨125, [.v (.s .task) false, .v .I false, .v .I false], [(.B, true)], [], fun x => z9o x.1 x.2.1 x.2.2.1⟩
def w15 : Fs := ⟨[y58, z23, z40, z11, zv3], [], []⟩
theorem w1d : w15.Ok Tryz.prog := (fsK wy9 (fsK z2r (fsK wi3 (fsK yk6 (fsK yz5 fs0)))))
theorem w24 : zm7.Ok Tryz.prog := fn_ok (k := zm7) (fn := Tryz.f125) (W := []) (H := []) Tryz.func125 w1d trivial rfl rfl (fun av x => by kernel_rfl)
def y2c (t : GTask) (n : GNet) : Option Bool := (z9o t n.places (n.tasks.length : Int)).bind fun x1 => (some (!x1))
def y2l : FCon := ⟨124, (.s .task), [(.s .net)], fun z c => y2c z c.1⟩
def wa9 : Fs := ⟨[zm7], [], []⟩
theorem we2 : wa9.Ok Tryz.prog := (fsK w24 fs0)
theorem wi0 : y2l.Ok Tryz.prog := FCon.ok (fn_ok (k := y2l.con) (fn := Tryz.f124) (W := []) (H := []) Tryz.func124 we2 trivial rfl rfl (fun av x => by kernel_rfl))
def z93 (n : GNet) : Option Bool := (y2f n.places (n.tasks.length : Int)).bind fun x1 => (if x1 = true then ((z6y n.tasks (fun z => y2c z n)).bind fun x3 => (some (!x3))) else (some false))
def zd8 : Con := ⟨52, [.v (.s .net) false], [(.B, true)], [], fun x => z93 x.1⟩
def v1q : Fs := ⟨[y22, za3], [y2l], []⟩
theorem v2h : v1q.Ok Tryz.prog := (fsK wi5 (fsK yk4 (fsF wi0 fs0)))
theorem y19 : zd8.Ok Tryz.prog := fn_ok (k := zd8) (fn := Tryz.f52) (W := []) (H := []) Tryz.func52 v2h trivial rfl rfl (fun av x => by kernel_rfl)
def z6m (p : Int) (out : List Bool) : Option Bool := (getI out p).bind fun x1 => (some x1)
def z9c : FCon := ⟨217, .I, [(.sl .B)], fun z c => z6m z c.1⟩
def y8s : Fs := ⟨[], [], []⟩
theorem y8v : y8s.Ok Tryz.prog := fs0
theorem yc3 : z9c.Ok Tryz.prog := FCon.ok (fn_ok (k := z9c.con) (fn := Tryz.f217) (W := []) (H := []) Tryz.func217 y8v trivial rfl rfl (fun av x => by kernel_rfl))
def zl4 (s1_0 : List GTask) (s1_1 : Int) (s1_2 : Int) (bk1 : List GTask → Int → Int → Bool → List Bool → Option (List Bool)) (s2_1 : Bool) (l2_2 : List Bool) : Option (List Bool) := gd (ok64 (s1_2 + 1)) (bk1 s1_0 s1_1 (s1_2 + 1) s2_1 l2_2)
def z0l (p2_0 : List GFlow) (p2_1 : Int) (kx2_0 : Bool → List Bool → Option (List Bool)) : Nat → Int → Bool → List Bool → Option (List Bool)
  | 0, _, _, _ => none
  | n2 + 1, s2_0, s2_1, l2_2 => if decide (s2_0 < p2_1) = true then ((getI p2_0 s2_0).bind fun x11 => (if s2_1 = true then ((getI l2_2 x11.to).bind fun x13 => (gd (ok64 (s2_0 + 1)) ((z0l p2_0 p2_1 kx2_0 n2) (s2_0 + 1) true (l2_2.set x11.to.toNat true)))) else ((getI l2_2 x11.to).bind fun x15 => ((getI l2_2 x11.to).bind fun x16 => (gd (ok64 (s2_0 + 1)) ((z0l p2_0 p2_1 kx2_0 n2) (s2_0 + 1) (!x15) (l2_2.set x11.to.toNat true))))))) else (kx2_0 s2_1 l2_2)
def z8q (bk0 : Bool → List Bool → Option (List Bool)) (s1_3 : Bool) (l1_4 : List Bool) : Option (List Bool) := bk0 s1_3 l1_4
def z0d (but : Int) (kx1_0 : Bool → List Bool → Option (List Bool)) : Nat → List GTask → Int → Int → Bool → List Bool → Option (List Bool)
  | 0, _, _, _, _, _ => none
  | n1 + 1, s1_0, s1_1, s1_2, s1_3, l1_4 => if decide (s1_2 < s1_1) = true then ((getI s1_0 s1_2).bind fun x5 => (if decide (s1_2 = but) = true then (gd (ok64 (s1_2 + 1)) ((z0d but kx1_0 n1) s1_0 s1_1 (s1_2 + 1) s1_3 l1_4)) else ((z2h x5.in_ (fun z => z6m z l1_4)).bind fun x8 => (if x8 = true then (z0l x5.out (x5.out.length : Int) (zl4 s1_0 s1_1 s1_2 (z0d but kx1_0 n1)) FUEL 0 s1_3 l1_4) else (gd (ok64 (s1_2 + 1)) ((z0d but kx1_0 n1) s1_0 s1_1 (s1_2 + 1) s1_3 l1_4)))))) else (kx1_0 s1_3 l1_4)
def zl5 (l0_1 : List Bool) : Option (List Bool) := some l0_1
def z10 (n : GNet) (but : Int) (kx0_0 : List Bool → Option (List Bool)) : Nat → Bool → List Bool → Option (List Bool)
  | 0, _, _ => none
  | n0 + 1, s0_0, l0_1 => if s0_0 = true then (z0d but (z8q (z10 n but kx0_0 n0)) FUEL n.tasks (n.tasks.length : Int) 0 false l0_1) else (kx0_0 l0_1)
def z7y (n : GNet) (place : Int) (but : Int) : Option (List Bool) := gd ((0 : Int) ≤ n.places ∧ n.places ≤ (1000000000 : Int)) ((getI (List.replicate n.places.toNat false) place).bind fun x2 => (z10 n but zl5 FUEL true ((List.replicate n.places.toNat false).set place.toNat true)))
def z05 : Con := ⟨202, [.v (.s .net) false, .v .I false, .v .I false], [((.sl .B), true)], [], fun x => z7y x.1 x.2.1 x.2.2.1⟩
def yr4 : Fs := ⟨[z4v], [z9c], []⟩
theorem z7q : yr4.Ok Tryz.prog := (fsK z8d (fsF yc3 fs0))
def zb9 : Tmpl := ⟨[(2, .c .i), (3, .c (.bx 3 0)), (7, .c (.bx 7 0)), (8, .c .b), (21, .c (.s (.s .task))), (22, .c .i), (23, .c .i), (39, .c (.s (.s .flow))), (40, .c .i), (41, .c .i)], [(3, .boxT (.s .net)), (7, .box [.ref 15]), (15, .arr .B true)]⟩
def z9z : Tmpl := ⟨[(2, .c .i), (3, .c (.bx 3 0)), (7, .c (.bx 7 0)), (8, .c .b), (21, .c (.s (.s .task))), (22, .c .i), (23, .c .i)], [(3, .boxT (.s .net)), (7, .box [.ref 15]), (15, .arr .B true)]⟩
def y1t (av : AV) (x : HP z05.ps) (n : Nat) (v : zb9.den) (K : Ks (CR z05)) : Option (CR z05) := z0l v.1.2.2.2.2.2.2.2.1 v.1.2.2.2.2.2.2.2.2.1 (fun s2_1 l2_2 => z9z.at none ((v.1.1, (), (), s2_1, v.1.2.2.2.2.1, v.1.2.2.2.2.2.1, v.1.2.2.2.2.2.2.1, ()), (v.2.1, ((), ()), l2_2, ())) (K (.exit 4))) n v.1.2.2.2.2.2.2.2.2.2.1 v.1.2.2.2.1 v.2.2.2.1
def za9 (av : AV) (x : HP z05.ps) : Hdl (CR z05) := hnd [] zb9 (y1t av x)
theorem y28 : LP z05 Tryz.f202 [0, 0, 0] za9 := lp_ok (W := []) (H := []) (xs := [z9z]) z7q trivial rfl (fun av x v K => by kernel_rfl) (fun av x n v K => by kernel_rfl)
def zk9 : Tmpl := ⟨[(2, .c .i), (3, .c (.bx 3 0)), (7, .c (.bx 7 0)), (8, .c .b), (21, .c (.s (.s .task))), (22, .c .i), (23, .c .i)], [(3, .boxT (.s .net)), (7, .box [.ref 15]), (15, .arr .B true)]⟩
def zf3 : Tmpl := ⟨[(2, .c .i), (3, .c (.bx 3 0)), (7, .c (.bx 7 0)), (8, .c .b)], [(3, .boxT (.s .net)), (7, .box [.ref 15]), (15, .arr .B true)]⟩
def y4t (av : AV) (x : HP z05.ps) (n : Nat) (v : zk9.den) (K : Ks (CR z05)) : Option (CR z05) := z0d v.1.1 (fun s1_3 l1_4 => zf3.at none ((v.1.1, (), (), s1_3, ()), (v.2.1, ((), ()), l1_4, ())) (K (.exit 2))) n v.1.2.2.2.2.1 v.1.2.2.2.2.2.1 v.1.2.2.2.2.2.2.1 v.1.2.2.2.1 v.2.2.2.1
def zg2 (av : AV) (x : HP z05.ps) : Hdl (CR z05) := hnd [] zk9 (y4t av x)
theorem y5n : LP z05 Tryz.f202 [0, 0] zg2 := lp_ok (W := []) (H := [za9]) (xs := [zf3]) z7q ⟨y28, trivial⟩ rfl (fun av x v K => by kernel_rfl) (fun av x n v K => by kernel_rfl)
def zs0 : Tmpl := ⟨[(2, .c .i), (3, .c (.bx 3 0)), (7, .c (.bx 7 0)), (8, .c .b)], [(3, .boxT (.s .net)), (7, .box [.ref 15]), (15, .arr .B true)]⟩
def zm0 : Tmpl := ⟨[(7, .c (.bx 7 0))], [(7, .box [.ref 15]), (15, .arr .B true)]⟩
def y8j (av : AV) (x : HP z05.ps) (n : Nat) (v : zs0.den) (K : Ks (CR z05)) : Option (CR z05) := z10 v.2.1 v.1.1 (fun l0_1 => zm0.at none (((), ()), (((), ()), l0_1, ())) (K (.exit 0))) n v.1.2.2.2.1 v.2.2.2.1
def zq2 (av : AV) (x : HP z05.ps) : Hdl (CR z05) := hnd [] zs0 (y8j av x)
theorem y9v : LP z05 Tryz.f202 [0] zq2 := lp_ok (W := []) (H := [zg2]) (xs := [zm0]) z7q ⟨y5n, trivial⟩ rfl (fun av x v K => by kernel_rfl) (fun av x n v K => by kernel_rfl)
theorem yt7 : z05.Ok Tryz.prog := fn_ok (k := z05) (fn := Tryz.f202) (W := []) (H := [zq2]) Tryz.func202 z7q ⟨y9v, trivial⟩ rfl rfl (fun av x => by kernel_rfl)
def z7x (m : Int) : Option Bool := (z0c m 0 4).bind fun x1 => (some (!x1))
def z86 : FCon := ⟨199, .I, [], fun z c => z7x z ⟩
def y4v : Fs := ⟨[z23], [], []⟩
theorem y4x : y4v.Ok Tryz.prog := (fsK z2r fs0)
theorem y5s : z86.Ok Tryz.prog := FCon.ok (fn_ok (k := z86.con) (fn := Tryz.f199) (W := []) (H := []) Tryz.func199 y4x trivial rfl rfl (fun av x => by kernel_rfl))
def z4j (n : GNet) (marks : List Int) : Option Bool := if decide ((marks.length : Int) = n.places) = true then ((z2h marks (fun z => z7x z )).bind fun x2 => (some (!x2))) else (some false)
def z6e : Con := ⟨164, [.v (.s .net) false, .v (.sl .I) false], [(.B, true)], [], fun x => z4j x.1 x.2.1⟩
def y8r : Fs := ⟨[z4v], [z86], []⟩
theorem y8u : y8r.Ok Tryz.prog := (fsK z8d (fsF y5s fs0))
theorem zr5 : z6e.Ok Tryz.prog := fn_ok (k := z6e) (fn := Tryz.f164) (W := []) (H := []) Tryz.func164 y8u trivial rfl rfl (fun av x => by kernel_rfl)
def ze3 (n : GNet) (marks : List Int) : Option Bool := (z93 n).bind fun x1 => (if x1 = true then ((z4j n marks).bind fun x3 => (some x3)) else (some false))
def zq7 : Con := ⟨94, [.v (.s .net) false, .v (.sl .I) false], [(.B, true)], [], fun x => ze3 x.1 x.2.1⟩
def v1p : Fs := ⟨[zd8, z6e], [], []⟩
theorem v2g : v1p.Ok Tryz.prog := (fsK y19 (fsK zr5 fs0))
theorem yc1 : zq7.Ok Tryz.prog := fn_ok (k := zq7) (fn := Tryz.f94) (W := []) (H := []) Tryz.func94 v2g trivial rfl rfl (fun av x => by kernel_rfl)
def zh6 (busy : List GItem) : Option Bool := some (decide ((busy.length : Int) ≤ 6))
def z21 (n : GNet) (p0_0 : List GItem) (p0_1 : Int) (kx0_0 : Option Bool) : Nat → Int → Option Bool
  | 0, _ => none
  | n0 + 1, s0_0 => if decide (s0_0 < p0_1) = true then ((getI p0_0 s0_0).bind fun x2 => ((z0n n x2.task).bind fun x3 => (if x3 = true then ((z96 x2.who).bind fun x5 => (if x5 = true then ((getI n.tasks x2.task).bind fun x7 => (gd (ok64 (x7.need - 1)) ((z0c x2.did 0 (x7.need - 1)).bind fun x9 => (if x9 = true then (gd (ok64 (s0_0 + 1)) ((z21 n p0_0 p0_1 kx0_0 n0) (s0_0 + 1))) else (some false))))) else (some false))) else (some false)))) else (kx0_0)
def z52 (n : GNet) (busy : List GItem) : Option Bool := z21 n busy (busy.length : Int) (zh6 busy) FUEL 0
def z0s : Con := ⟨95, [.v (.s .net) false, .v (.sl (.s .item)) false], [(.B, true)], [], fun x => z52 x.1 x.2.1⟩
def yj5 : Fs := ⟨[z1r, zg8, z23], [], []⟩
theorem zt4 : yj5.Ok Tryz.prog := (fsK z4l (fsK yc6 (fsK z2r fs0)))
def zl7 : Tmpl := ⟨[(1, .c (.s (.s .item))), (2, .c (.bx 2 0)), (7, .c (.s (.s .item))), (8, .c .i), (9, .c .i)], [(2, .boxT (.s .net))]⟩
def zl0 : Tmpl := ⟨[(1, .c (.s (.s .item)))], []⟩
def y8e (av : AV) (x : HP z0s.ps) (n : Nat) (v : zl7.den) (K : Ks (CR z0s)) : Option (CR z0s) := z21 v.2.1 v.1.2.2.1 v.1.2.2.2.1 (zl0.at none ((v.1.1, ()), ()) (K (.exit 0))) n v.1.2.2.2.2.1
def zl2 (av : AV) (x : HP z0s.ps) : Hdl (CR z0s) := hnd [] zl7 (y8e av x)
theorem y8g : LP z0s Tryz.f95 [0] zl2 := lp_ok (W := []) (H := []) (xs := [zl0]) zt4 trivial rfl (fun av x v K => by kernel_rfl) (fun av x n v K => by kernel_rfl)
theorem zt9 : z0s.Ok Tryz.prog := fn_ok (k := z0s) (fn := Tryz.f95) (W := []) (H := [zl2]) Tryz.func95 zt4 ⟨y8g, trivial⟩ rfl rfl (fun av x => by kernel_rfl)
def z7v (q : Int) (marks : List Int) (reach : List Bool) : Option Bool := (getI marks q).bind fun x1 => (if decide (x1 = 0) = true then ((getI reach q).bind fun x3 => (some x3)) else (some false))
def z85 : FCon := ⟨203, .I, [(.sl .I), (.sl .B)], fun z c => z7v z c.1 c.2.1⟩
def y4u : Fs := ⟨[], [], []⟩
theorem y4w : y4u.Ok Tryz.prog := fs0
theorem y5r : z85.Ok Tryz.prog := FCon.ok (fn_ok (k := z85.con) (fn := Tryz.f203) (W := []) (H := []) Tryz.func203 y4w trivial rfl rfl (fun av x => by kernel_rfl))
def z4q (s1_0 : Int) (s1_1 : Int) (bk1 : Int → Int → List Int → Option Bool) (l2_1 : List Int) : Option Bool := gd (ok64 (s1_1 + 1)) (bk1 s1_0 (s1_1 + 1) l2_1)
def z1q (p2_0 : List GFlow) (p2_1 : Int) (kx2_0 : List Int → Option Bool) : Nat → Int → List Int → Option Bool
  | 0, _, _ => none
  | n2 + 1, s2_0, l2_1 => if decide (s2_0 < p2_1) = true then ((getI p2_0 s2_0).bind fun x15 => (gd (l2_1.length + [x15.to].length ≤ SMALL) (gd (ok64 (s2_0 + 1)) ((z1q p2_0 p2_1 kx2_0 n2) (s2_0 + 1) (l2_1 ++ [x15.to]))))) else (kx2_0 l2_1)
def z77  : Option Bool := some false
def z13 (n : GNet) (t : Int) (p0_0 : List Int) (p0_2 : List Int) (l1_2 : List Int) (p3_0 : Int) (kx3_0 : Option Bool) : Nat → Int → Option Bool
  | 0, _ => none
  | n3 + 1, s3_0 => if decide (s3_0 < p3_0) = true then ((getI l1_2 s3_0).bind fun x20 => ((z7y n x20 t).bind fun x21 => ((z2h p0_0 (fun z => z7v z p0_2 x21)).bind fun x22 => (if x22 = true then (some true) else (gd (ok64 (s3_0 + 1)) ((z13 n t p0_0 p0_2 l1_2 p3_0 kx3_0 n3) (s3_0 + 1))))))) else (kx3_0)
def z1p (n : GNet) (t : Int) (p0_0 : List Int) (p0_2 : List Int) (l1_2 : List Int) : Option Bool := z13 n t p0_0 p0_2 l1_2 (l1_2.length : Int) z77 FUEL 0
def z0r (n : GNet) (busy : List GItem) (kx1_0 : List Int → Option Bool) : Nat → Int → Int → List Int → Option Bool
  | 0, _, _, _ => none
  | n1 + 1, s1_0, s1_1, l1_2 => if decide (s1_1 < s1_0) = true then ((getI busy s1_1).bind fun x12 => ((getI n.tasks x12.task).bind fun x13 => (z1q x13.out (x13.out.length : Int) (z4q s1_0 s1_1 (z0r n busy kx1_0 n1)) FUEL 0 l1_2))) else (kx1_0 l1_2)
def z4p (n : GNet) (busy : List GItem) (t : Int) (p0_0 : List Int) (p0_2 : List Int) (l0_1 : List Int) : Option Bool := z0r n busy (z1p n t p0_0 p0_2) FUEL (busy.length : Int) 0 l0_1
def z0q (marks : List Int) (p0_0 : List Int) (p0_1 : Int) (kx0_0 : List Int → Option Bool) : Nat → Int → List Int → Option Bool
  | 0, _, _ => none
  | n0 + 1, s0_0, l0_1 => if decide (s0_0 < p0_1) = true then ((getI marks s0_0).bind fun x3 => (if decide (0 < x3) = true then ((zd9 p0_0 s0_0).bind fun x5 => (if x5 = true then (gd (ok64 (s0_0 + 1)) ((z0q marks p0_0 p0_1 kx0_0 n0) (s0_0 + 1) l0_1)) else (gd (l0_1.length + [s0_0].length ≤ SMALL) (gd (ok64 (s0_0 + 1)) ((z0q marks p0_0 p0_1 kx0_0 n0) (s0_0 + 1) (l0_1 ++ [s0_0])))))) else (gd (ok64 (s0_0 + 1)) ((z0q marks p0_0 p0_1 kx0_0 n0) (s0_0 + 1) l0_1)))) else (kx0_0 l0_1)
def z6l (n : GNet) (marks : List Int) (busy : List GItem) (t : Int) : Option Bool := (getI n.tasks t).bind fun x1 => (z0q marks x1.in_ (marks.length : Int) (z4p n busy t x1.in_ marks) FUEL 0 ([] : List Int))
def z02 : Con := ⟨168, [.v (.s .net) false, .v (.sl .I) false, .v (.sl (.s .item)) false, .v .I false], [(.B, true)], [], fun x => z6l x.1 x.2.1 x.2.2.1 x.2.2.2.1⟩
def y8p : Fs := ⟨[zq5, z05, z4v], [z85], []⟩
theorem z4e : y8p.Ok Tryz.prog := (fsK yb7 (fsK yt7 (fsK z8d (fsF y5r fs0))))
def zb8 : Tmpl := ⟨[(3, .c .i), (4, .c (.bx 4 0)), (5, .c (.bx 5 0)), (9, .c (.s .I)), (10, .c (.ref 500010)), (46, .c (.s (.s .item))), (47, .c .i), (48, .c .i), (58, .c (.s (.s .flow))), (59, .c .i), (60, .c .i)], [(4, .boxT (.s .net)), (5, .box [.s .I]), (500010, .arr .I true)]⟩
def z9y : Tmpl := ⟨[(3, .c .i), (4, .c (.bx 4 0)), (5, .c (.bx 5 0)), (9, .c (.s .I)), (10, .c (.ref 500010)), (46, .c (.s (.s .item))), (47, .c .i), (48, .c .i)], [(4, .boxT (.s .net)), (5, .box [.s .I]), (500010, .arr .I true)]⟩
def y1s (av : AV) (x : HP z02.ps) (n : Nat) (v : zb8.den) (K : Ks (CR z02)) : Option (CR z02) := z1q v.1.2.2.2.2.2.2.2.2.1 v.1.2.2.2.2.2.2.2.2.2.1 (fun l2_1 => z9y.at none ((v.1.1, (), (), v.1.2.2.2.1, (), v.1.2.2.2.2.2.1, v.1.2.2.2.2.2.2.1, v.1.2.2.2.2.2.2.2.1, ()), (v.2.1, (v.2.2.1.1, ()), l2_1, ())) (K (.exit 4))) n v.1.2.2.2.2.2.2.2.2.2.2.1 v.2.2.2.1
def za8 (av : AV) (x : HP z02.ps) : Hdl (CR z02) := hnd [] zb8 (y1s av x)
theorem y27 : LP z02 Tryz.f168 [1, 0] za8 := lp_ok (W := []) (H := []) (xs := [z9y]) z4e trivial rfl (fun av x v K => by kernel_rfl) (fun av x n v K => by kernel_rfl)
def zk6 : Tmpl := ⟨[(2, .c (.s (.s .item))), (3, .c .i), (4, .c (.bx 4 0)), (5, .c (.bx 5 0)), (9, .c (.s .I)), (10, .c (.ref 500010)), (26, .c (.s .I)), (27, .c .i), (28, .c .i)], [(4, .boxT (.s .net)), (5, .box [.s .I]), (500010, .arr .I true)]⟩
def zf0 : Tmpl := ⟨[(2, .c (.s (.s .item))), (3, .c .i), (4, .c (.bx 4 0)), (5, .c (.bx 5 0)), (9, .c (.s .I)), (10, .c (.ref 500010))], [(4, .boxT (.s .net)), (5, .box [.s .I]), (500010, .arr .I true)]⟩
def y4q (av : AV) (x : HP z02.ps) (n : Nat) (v : zk6.den) (K : Ks (CR z02)) : Option (CR z02) := z0q v.1.2.2.2.2.2.2.1 v.1.2.2.2.2.1 v.1.2.2.2.2.2.2.2.1 (fun l0_1 => zf0.at none ((v.1.1, v.1.2.1, (), (), v.1.2.2.2.2.1, (), ()), (v.2.1, (v.2.2.1.1, ()), l0_1, ())) (K (.exit 0))) n v.1.2.2.2.2.2.2.2.2.1 v.2.2.2.1
def zf9 (av : AV) (x : HP z02.ps) : Hdl (CR z02) := hnd [.e 10 500010 .I] zk6 (y4q av x)
theorem y5k : LP z02 Tryz.f168 [0] zf9 := lp_ok (W := []) (H := []) (xs := [zf0]) z4e trivial rfl (fun av x v K => by kernel_rfl) (fun av x n v K => by kernel_rfl)
def zk7 : Tmpl := ⟨[(3, .c .i), (4, .c (.bx 4 0)), (5, .c (.bx 5 0)), (9, .c (.s .I)), (10, .c (.ref 500010)), (46, .c (.s (.s .item))), (47, .c .i), (48, .c .i)], [(4, .boxT (.s .net)), (5, .box [.s .I]), (500010, .arr .I true)]⟩
def zf1 : Tmpl := ⟨[(3, .c .i), (4, .c (.bx 4 0)), (5, .c (.bx 5 0)), (9, .c (.s .I)), (10, .c (.ref 500010))], [(4, .boxT (.s .net)), (5, .box [.s .I]), (500010, .arr .I true)]⟩
def y4r (av : AV) (x : HP z02.ps) (n : Nat) (v : zk7.den) (K : Ks (CR z02)) : Option (CR z02) := z0r v.2.1 v.1.2.2.2.2.2.1 (fun l1_2 => zf1.at none ((v.1.1, (), (), v.1.2.2.2.1, (), ()), (v.2.1, (v.2.2.1.1, ()), l1_2, ())) (K (.exit 2))) n v.1.2.2.2.2.2.2.1 v.1.2.2.2.2.2.2.2.1 v.2.2.2.1
def zg0 (av : AV) (x : HP z02.ps) : Hdl (CR z02) := hnd [] zk7 (y4r av x)
theorem y5l : LP z02 Tryz.f168 [1] zg0 := lp_ok (W := []) (H := [za8]) (xs := [zf1]) z4e ⟨y27, trivial⟩ rfl (fun av x v K => by kernel_rfl) (fun av x n v K => by kernel_rfl)
def zk8 : Tmpl := ⟨[(3, .c .i), (4, .c (.bx 4 0)), (5, .c (.bx 5 0)), (9, .c (.s .I)), (71, .c (.ref 500010)), (72, .c .i), (73, .c .i)], [(4, .boxT (.s .net)), (5, .box [.s .I]), (500010, .arr .I true)]⟩
def zf2 : Tmpl := ⟨[], []⟩
def y4s (av : AV) (x : HP z02.ps) (n : Nat) (v : zk8.den) (K : Ks (CR z02)) : Option (CR z02) := z13 v.2.1 v.1.1 v.1.2.2.2.1 v.2.2.1.1 v.2.2.2.1 v.1.2.2.2.2.2.1 (zf2.at none ((), ()) (K (.exit 6))) n v.1.2.2.2.2.2.2.1
def zg1 (av : AV) (x : HP z02.ps) : Hdl (CR z02) := hnd [] zk8 (y4s av x)
theorem y5m : LP z02 Tryz.f168 [2] zg1 := lp_ok (W := []) (H := []) (xs := [zf2]) z4e trivial rfl (fun av x v K => by kernel_rfl) (fun av x n v K => by kernel_rfl)
theorem yc2 : z02.Ok Tryz.prog := fn_ok (k := z02) (fn := Tryz.f168) (W := []) (H := [zf9, zg0, zg1]) Tryz.func168 z4e ⟨y5k, y5l, y5m, trivial⟩ rfl rfl (fun av x => by kernel_rfl)
def z37 (n : GNet) (marks : List Int) (busy : List GItem) (t : Int) (s0_0 : Bool) (s0_2 : Bool) : Option Bool := (getI n.tasks t).bind fun x14 => (if decide (x14.join = 1) = true then (some s0_0) else (if decide (x14.join = 2) = true then (some s0_2) else (if s0_2 = true then (if s0_0 = true then (some true) else ((z6l n marks busy t).bind fun x19 => (some (!x19)))) else (some false))))
def z0t (marks : List Int) (p0_0 : List Int) (p0_1 : Int) (kx0_0 : Bool → Bool → Option Bool) : Nat → Bool → Int → Bool → Option Bool
  | 0, _, _, _ => none
  | n0 + 1, s0_0, s0_1, s0_2 => if decide (s0_1 < p0_1) = true then ((getI p0_0 s0_1).bind fun x3 => (if s0_2 = true then (if s0_0 = true then ((getI marks x3).bind fun x6 => (gd (ok64 (s0_1 + 1)) ((z0t marks p0_0 p0_1 kx0_0 n0) (decide (0 < x6)) (s0_1 + 1) true))) else (gd (ok64 (s0_1 + 1)) ((z0t marks p0_0 p0_1 kx0_0 n0) false (s0_1 + 1) true))) else ((getI marks x3).bind fun x9 => (if s0_0 = true then ((getI marks x3).bind fun x11 => (gd (ok64 (s0_1 + 1)) ((z0t marks p0_0 p0_1 kx0_0 n0) (decide (0 < x11)) (s0_1 + 1) (decide (0 < x9))))) else (gd (ok64 (s0_1 + 1)) ((z0t marks p0_0 p0_1 kx0_0 n0) false (s0_1 + 1) (decide (0 < x9)))))))) else (kx0_0 s0_0 s0_2)
def z9n (n : GNet) (marks : List Int) (busy : List GItem) (t : Int) : Option Bool := (getI n.tasks t).bind fun x1 => (z0t marks x1.in_ (x1.in_.length : Int) (z37 n marks busy t) FUEL true 0 false)
def z20 : Con := ⟨104, [.v (.s .net) false, .v (.sl .I) false, .v (.sl (.s .item)) false, .v .I false], [(.B, true)], [], fun x => z9n x.1 x.2.1 x.2.2.1 x.2.2.2.1⟩
def w14 : Fs := ⟨[z02], [], []⟩
theorem y2x : w14.Ok Tryz.prog := (fsK yc2 fs0)
def y0g : Tmpl := ⟨[(1, .c (.s .I)), (2, .c (.s (.s .item))), (3, .c .i), (4, .c (.bx 4 0)), (9, .c .b), (10, .c .b), (18, .c (.s .I)), (19, .c .i), (20, .c .i)], [(4, .boxT (.s .net))]⟩
def zu4 : Tmpl := ⟨[(1, .c (.s .I)), (2, .c (.s (.s .item))), (3, .c .i), (4, .c (.bx 4 0)), (9, .c .b), (10, .c .b)], [(4, .boxT (.s .net))]⟩
def yq4 (av : AV) (x : HP z20.ps) (n : Nat) (v : y0g.den) (K : Ks (CR z20)) : Option (CR z20) := z0t v.1.1 v.1.2.2.2.2.2.2.1 v.1.2.2.2.2.2.2.2.1 (fun s0_0 s0_2 => zu4.at none ((v.1.1, v.1.2.1, v.1.2.2.1, (), s0_2, s0_0, ()), (v.2.1, ())) (K (.exit 0))) n v.1.2.2.2.2.2.1 v.1.2.2.2.2.2.2.2.2.1 v.1.2.2.2.2.1
def zz7 (av : AV) (x : HP z20.ps) : Hdl (CR z20) := hnd [] y0g (yq4 av x)
theorem ys5 : LP z20 Tryz.f104 [0] zz7 := lp_ok (W := []) (H := []) (xs := [zu4]) y2x trivial rfl (fun av x v K => by kernel_rfl) (fun av x n v K => by kernel_rfl)
theorem w23 : z20.Ok Tryz.prog := fn_ok (k := z20) (fn := Tryz.f104) (W := []) (H := [zz7]) Tryz.func104 y2x ⟨ys5, trivial⟩ rfl rfl (fun av x => by kernel_rfl)
def zv8 (n : GNet) (marks : List Int) (busy : List GItem) (t : Int) : Option Bool := (ze3 n marks).bind fun x1 => (if x1 = true then ((z52 n busy).bind fun x3 => (if x3 = true then ((z0n n t).bind fun x5 => (if x5 = true then ((z9n n marks busy t).bind fun x7 => (some x7)) else (some false))) else (some false))) else (some false))
def y52 : Con := ⟨33, [.v (.s .net) false, .v (.sl .I) false, .v (.sl (.s .item)) false, .v .I false], [(.B, true)], [], fun x => zv8 x.1 x.2.1 x.2.2.1 x.2.2.2.1⟩
def wp0 : Fs := ⟨[zq7, z0s, z1r, z20], [], []⟩
theorem wt4 : wp0.Ok Tryz.prog := (fsK yc1 (fsK zt9 (fsK z4l (fsK w23 fs0))))
theorem wy1 : y52.Ok Tryz.prog := fn_ok (k := y52) (fn := Tryz.f33) (W := []) (H := []) Tryz.func33 wt4 trivial rfl rfl (fun av x => by kernel_rfl)
def zr1 (l0_1 : List Int) (x4 : Int) (x7 : Int) : Option (List Int) := some (l0_1.set x4.toNat (x7 - 1))
def zr2 (l0_1 : List Int) : Option (List Int) := some l0_1
def z1t (n : GNet) (t : Int) (p0_0 : List Int) (p0_1 : Int) (kx0_0 : List Int → Int → Int → Option (List Int)) (kx0_1 : List Int → Option (List Int)) : Nat → Int → List Int → Option (List Int)
  | 0, _, _ => none
  | n0 + 1, s0_0, l0_1 => if decide (s0_0 < p0_1) = true then ((getI p0_0 s0_0).bind fun x4 => ((getI l0_1 x4).bind fun x5 => (if decide (0 < x5) = true then ((getI l0_1 x4).bind fun x7 => (gd (ok64 (x7 - 1)) ((getI l0_1 x4).bind fun x9 => ((getI n.tasks t).bind fun x10 => (if decide (x10.join = 2) = true then (kx0_0 l0_1 x4 x7) else (gd (ok64 (s0_0 + 1)) ((z1t n t p0_0 p0_1 kx0_0 kx0_1 n0) (s0_0 + 1) (l0_1.set x4.toNat (x7 - 1))))))))) else (gd (ok64 (s0_0 + 1)) ((z1t n t p0_0 p0_1 kx0_0 kx0_1 n0) (s0_0 + 1) l0_1))))) else (kx0_1 l0_1)
def z8r (n : GNet) (marks : List Int) (t : Int) : Option (List Int) := (z0g marks).bind fun x1 => ((getI n.tasks t).bind fun x2 => (z1t n t x2.in_ (x2.in_.length : Int) zr1 zr2 FUEL 0 x1))
def z1j : Con := ⟨93, [.v (.s .net) false, .v (.sl .I) false, .v .I false], [((.sl .I), true)], [], fun x => z8r x.1 x.2.1 x.2.2.1⟩
def yv4 : Fs := ⟨[z1c], [], []⟩
theorem y0q : yv4.Ok Tryz.prog := (fsK z2l fs0)
def zu1 : Tmpl := ⟨[(2, .c .i), (3, .c (.bx 3 0)), (7, .c (.ref 11)), (17, .c (.s .I)), (18, .c .i), (19, .c .i)], [(3, .boxT (.s .net)), (11, .arr .I true)]⟩
def z9e : Tmpl := ⟨[(7, .c (.ref 11))], [(11, .arr .I true)]⟩
def yj1 (av : AV) (x : HP z1j.ps) (n : Nat) (v : zu1.den) (K : Ks (CR z1j)) : Option (CR z1j) := z1t v.2.1 v.1.1 v.1.2.2.2.1 v.1.2.2.2.2.1 (fun l0_1 x4 x7 => z9e.at none (((), ()), ((l0_1.set x4.toNat (x7 - 1)), ())) (K (.exit 0))) (fun l0_1 => z9e.at none (((), ()), (l0_1, ())) (K (.exit 0))) n v.1.2.2.2.2.2.1 v.2.2.1
def zt6 (av : AV) (x : HP z1j.ps) : Hdl (CR z1j) := hnd [] zu1 (yj1 av x)
theorem yk2 : LP z1j Tryz.f93 [0] zt6 := lp_ok (W := []) (H := []) (xs := [z9e]) y0q trivial rfl (fun av x v K => by kernel_rfl) (fun av x n v K => by kernel_rfl)
theorem yz4 : z1j.Ok Tryz.prog := fn_ok (k := z1j) (fn := Tryz.f93) (W := []) (H := [zt6]) Tryz.func93 y0q ⟨yk2, trivial⟩ rfl rfl (fun av x => by kernel_rfl)
def ya3 (l0_1 : List Int) : Option (List Int) := some l0_1
def z0o (t : GTask) (data : List Int) (p0_0 : List GFlow) (p0_1 : Int) (kx0_0 : List Int → Option (List Int)) : Nat → Int → List Int → Option (List Int)
  | 0, _, _ => none
  | n0 + 1, s0_0, l0_1 => if decide (s0_0 < p0_1) = true then ((getI p0_0 s0_0).bind fun x2 => ((z2f x2.if_ data).bind fun x3 => (if x3 = true then (if decide (t.split = 2) = true then (if decide (0 < (l0_1.length : Int)) = true then (gd (ok64 (s0_0 + 1)) ((z0o t data p0_0 p0_1 kx0_0 n0) (s0_0 + 1) l0_1)) else (if decide (t.split = 3) = true then (gd (ok64 ((t.out.length : Int) - 1)) (if decide (s0_0 = ((t.out.length : Int) - 1)) = true then (if decide (0 < (l0_1.length : Int)) = true then (gd (ok64 (s0_0 + 1)) ((z0o t data p0_0 p0_1 kx0_0 n0) (s0_0 + 1) l0_1)) else (gd (l0_1.length + [x2.to].length ≤ SMALL) (gd (ok64 (s0_0 + 1)) ((z0o t data p0_0 p0_1 kx0_0 n0) (s0_0 + 1) (l0_1 ++ [x2.to]))))) else (gd (l0_1.length + [x2.to].length ≤ SMALL) (gd (ok64 (s0_0 + 1)) ((z0o t data p0_0 p0_1 kx0_0 n0) (s0_0 + 1) (l0_1 ++ [x2.to])))))) else (gd (l0_1.length + [x2.to].length ≤ SMALL) (gd (ok64 (s0_0 + 1)) ((z0o t data p0_0 p0_1 kx0_0 n0) (s0_0 + 1) (l0_1 ++ [x2.to])))))) else (if decide (t.split = 3) = true then (gd (ok64 ((t.out.length : Int) - 1)) (if decide (s0_0 = ((t.out.length : Int) - 1)) = true then (if decide (0 < (l0_1.length : Int)) = true then (gd (ok64 (s0_0 + 1)) ((z0o t data p0_0 p0_1 kx0_0 n0) (s0_0 + 1) l0_1)) else (gd (l0_1.length + [x2.to].length ≤ SMALL) (gd (ok64 (s0_0 + 1)) ((z0o t data p0_0 p0_1 kx0_0 n0) (s0_0 + 1) (l0_1 ++ [x2.to]))))) else (gd (l0_1.length + [x2.to].length ≤ SMALL) (gd (ok64 (s0_0 + 1)) ((z0o t data p0_0 p0_1 kx0_0 n0) (s0_0 + 1) (l0_1 ++ [x2.to])))))) else (gd (l0_1.length + [x2.to].length ≤ SMALL) (gd (ok64 (s0_0 + 1)) ((z0o t data p0_0 p0_1 kx0_0 n0) (s0_0 + 1) (l0_1 ++ [x2.to])))))) else (gd (ok64 (s0_0 + 1)) ((z0o t data p0_0 p0_1 kx0_0 n0) (s0_0 + 1) l0_1))))) else (kx0_0 l0_1)
def y10 (t : GTask) (data : List Int) : Option (List Int) := z0o t data t.out (t.out.length : Int) ya3 FUEL 0 ([] : List Int)
def z6f : Con := ⟨173, [.v (.s .task) false, .v (.sl .I) false], [((.sl .I), true)], [], fun x => y10 x.1 x.2.1⟩
def v1t : Fs := ⟨[z4g], [], []⟩
theorem w2m : v1t.Ok Tryz.prog := (fsK z7m fs0)
def yo9 : Tmpl := ⟨[(1, .c (.s .I)), (2, .c (.bx 2 0)), (5, .c (.ref 500005)), (9, .c (.s (.s .flow))), (10, .c .i), (11, .c .i)], [(2, .boxT (.s .task)), (500005, .arr .I true)]⟩
def yg1 : Tmpl := ⟨[(5, .c (.ref 500005))], [(500005, .arr .I true)]⟩
def w9o (av : AV) (x : HP z6f.ps) (n : Nat) (v : yo9.den) (K : Ks (CR z6f)) : Option (CR z6f) := z0o v.2.1 v.1.1 v.1.2.2.2.1 v.1.2.2.2.2.1 (fun l0_1 => yg1.at none (((), ()), (l0_1, ())) (K (.exit 0))) n v.1.2.2.2.2.2.1 v.2.2.1
def ym5 (av : AV) (x : HP z6f.ps) : Hdl (CR z6f) := hnd [.e 5 500005 .I] yo9 (w9o av x)
theorem wf9 : LP z6f Tryz.f173 [0] ym5 := lp_ok (W := []) (H := []) (xs := [yg1]) w2m trivial rfl (fun av x v K => by kernel_rfl) (fun av x n v K => by kernel_rfl)
theorem v3d : z6f.Ok Tryz.prog := fn_ok (k := z6f) (fn := Tryz.f173) (W := []) (H := [ym5]) Tryz.func173 w2m ⟨wf9, trivial⟩ rfl rfl (fun av x => by kernel_rfl)
def z9m (n : GNet) (l1_1 : List Int) : Option ((List Int) × Bool) := (z4j n l1_1).bind fun x21 => (if x21 = true then (some (l1_1, true)) else (some ([], false)))
def z5m (x14 : (List Int)) (p1_0 : Int) (kx1_0 : List Int → Option ((List Int) × Bool)) : Nat → Int → List Int → Option ((List Int) × Bool)
  | 0, _, _ => none
  | n1 + 1, s1_0, l1_1 => if decide (s1_0 < p1_0) = true then ((getI x14 s1_0).bind fun x16 => ((getI l1_1 x16).bind fun x17 => (gd (ok64 (x17 + 1)) ((getI l1_1 x16).bind fun x19 => (gd (ok64 (s1_0 + 1)) ((z5m x14 p1_0 kx1_0 n1) (s1_0 + 1) (l1_1.set x16.toNat (x17 + 1)))))))) else (kx1_0 l1_1)
def z9l (n : GNet) (t : Int) (data : List Int) (l0_1 : List Int) : Option ((List Int) × Bool) := (getI n.tasks t).bind fun x13 => ((y10 x13 data).bind fun x14 => (z5m x14 (x14.length : Int) (z9m n) FUEL 0 l0_1))
def z5l (p0_0 : List Int) (p0_1 : Int) (kx0_0 : List Int → Option ((List Int) × Bool)) : Nat → Int → List Int → Option ((List Int) × Bool)
  | 0, _, _ => none
  | n0 + 1, s0_0, l0_1 => if decide (s0_0 < p0_1) = true then ((getI p0_0 s0_0).bind fun x10 => ((getI l0_1 x10).bind fun x11 => (gd (ok64 (s0_0 + 1)) ((z5l p0_0 p0_1 kx0_0 n0) (s0_0 + 1) (l0_1.set x10.toNat 0))))) else (kx0_0 l0_1)
def z8h (n : GNet) (marks : List Int) (t : Int) (data : List Int) : Option ((List Int) × Bool) := (ze3 n marks).bind fun x1 => (if x1 = true then ((z0n n t).bind fun x3 => (if x3 = true then ((z3c data).bind fun x5 => (if x5 = true then ((z0g marks).bind fun x7 => ((getI n.tasks t).bind fun x8 => (z5l x8.clear (x8.clear.length : Int) (z9l n t data) FUEL 0 x7))) else (some ([], false)))) else (some ([], false)))) else (some ([], false)))
def z0w : Con := ⟨115, [.v (.s .net) false, .v (.sl .I) false, .v .I false, .v (.sl .I) false], [((.sl .I), true), (.B, true)], [], fun x => z8h x.1 x.2.1 x.2.2.1 x.2.2.2.1⟩
def wa6 : Fs := ⟨[zq7, z1r, z5h, z1c, z6f, z6e], [], []⟩
theorem y1v : wa6.Ok Tryz.prog := (fsK yc1 (fsK z4l (fsK z7p (fsK z2l (fsK v3d (fsK zr5 fs0))))))
def y78 : Tmpl := ⟨[(2, .c .i), (3, .c (.s .I)), (4, .c (.bx 4 0)), (10, .c (.ref 31)), (37, .c (.s .I)), (38, .c .i), (39, .c .i)], [(4, .boxT (.s .net)), (31, .arr .I true)]⟩
def y44 : Tmpl := ⟨[(2, .c .i), (3, .c (.s .I)), (4, .c (.bx 4 0)), (10, .c (.ref 31))], [(4, .boxT (.s .net)), (31, .arr .I true)]⟩
def w3l (av : AV) (x : HP z0w.ps) (n : Nat) (v : y78.den) (K : Ks (CR z0w)) : Option (CR z0w) := z5l v.1.2.2.2.2.1 v.1.2.2.2.2.2.1 (fun l0_1 => y44.at none ((v.1.1, v.1.2.1, (), (), ()), (v.2.1, l0_1, ())) (K (.exit 0))) n v.1.2.2.2.2.2.2.1 v.2.2.1
def y67 (av : AV) (x : HP z0w.ps) : Hdl (CR z0w) := hnd [] y78 (w3l av x)
theorem w4l : LP z0w Tryz.f115 [0] y67 := lp_ok (W := []) (H := []) (xs := [y44]) y1v trivial rfl (fun av x v K => by kernel_rfl) (fun av x n v K => by kernel_rfl)
def y79 : Tmpl := ⟨[(4, .c (.bx 4 0)), (10, .c (.ref 31)), (53, .c (.ref 53)), (54, .c .i), (55, .c .i)], [(4, .boxT (.s .net)), (31, .arr .I true), (53, .arr .I true)]⟩
def y45 : Tmpl := ⟨[(4, .c (.bx 4 0)), (10, .c (.ref 31))], [(4, .boxT (.s .net)), (31, .arr .I true)]⟩
def w3m (av : AV) (x : HP z0w.ps) (n : Nat) (v : y79.den) (K : Ks (CR z0w)) : Option (CR z0w) := z5m v.2.2.2.1 v.1.2.2.2.1 (fun l1_1 => y45.at none (((), (), ()), (v.2.1, l1_1, ())) (K (.exit 2))) n v.1.2.2.2.2.1 v.2.2.1
def y68 (av : AV) (x : HP z0w.ps) : Hdl (CR z0w) := hnd [] y79 (w3m av x)
theorem w4m : LP z0w Tryz.f115 [1] y68 := lp_ok (W := []) (H := []) (xs := [y45]) y1v trivial rfl (fun av x v K => by kernel_rfl) (fun av x n v K => by kernel_rfl)
theorem wh7 : z0w.Ok Tryz.prog := fn_ok (k := z0w) (fn := Tryz.f115) (W := []) (H := [y67, y68]) Tryz.func115 y1v ⟨w4l, w4m, trivial⟩ rfl rfl (fun av x => by kernel_rfl)
def y2d (n : Int) : Option Bool := (z0c n 0 7).bind fun x1 => (some (!x1))
def y2m : FCon := ⟨119, .I, [], fun z c => y2d z ⟩
def wb0 : Fs := ⟨[z23], [], []⟩
theorem we3 : wb0.Ok Tryz.prog := (fsK z2r fs0)
theorem wi1 : y2m.Ok Tryz.prog := FCon.ok (fn_ok (k := y2m.con) (fn := Tryz.f119) (W := []) (H := []) Tryz.func119 we3 trivial rfl rfl (fun av x => by kernel_rfl))
def ze4 (people : List Int) : Option Bool := (z0c (people.length : Int) 1 4).bind fun x1 => (if x1 = true then ((z2h people (fun z => y2d z )).bind fun x3 => (some (!x3))) else (some false))
def zq8 : Con := ⟨50, [.v (.sl .I) false], [(.B, true)], [], fun x => ze4 x.1⟩
def v1r : Fs := ⟨[z23, z4v], [y2m], []⟩
theorem v2i : v1r.Ok Tryz.prog := (fsK z2r (fsK z8d (fsF wi1 fs0)))
theorem yc4 : zq8.Ok Tryz.prog := fn_ok (k := zq8) (fn := Tryz.f50) (W := []) (H := []) Tryz.func50 v2i trivial rfl rfl (fun av x => by kernel_rfl)
def zw1 (people : List Int) (who : Int) (role : Int) : Option Bool := (ze4 people).bind fun x1 => (if x1 = true then ((z0c who 1 (people.length : Int)).bind fun x3 => (if x3 = true then ((zh8 role).bind fun x5 => (if x5 = true then (gd (ok64 (who - 1)) ((getI people (who - 1)).bind fun x8 => (gd (ok64 (role - 1)) (gd ((0 : Int) ≤ (role - 1) ∧ (role - 1) ≤ (63 : Int)) (some (decide ((andI (shrI x8 (role - 1)) 1) = 1))))))) else (some false))) else (some false))) else (some false))
def y54 : Con := ⟨80, [.v (.sl .I) false, .v .I false, .v .I false], [(.B, true)], [], fun x => zw1 x.1 x.2.1 x.2.2.1⟩
def wp3 : Fs := ⟨[zq8, z23, zv3], [], []⟩
theorem wt6 : wp3.Ok Tryz.prog := (fsK yc4 (fsK z2r (fsK yz5 fs0)))
theorem wy4 : y54.Ok Tryz.prog := fn_ok (k := y54) (fn := Tryz.f80) (W := []) (H := []) Tryz.func80 wt6 trivial rfl rfl (fun av x => by kernel_rfl)
def zw0 (did : List GDid) (who : Int) (task : Int) : Option Bool := (y04 did (GDid.mk task who)).bind fun x1 => (some x1)
def y53 : Con := ⟨109, [.v (.sl (.s .did)) false, .v .I false, .v .I false], [(.B, true)], [], fun x => zw0 x.1 x.2.1 x.2.2.1⟩
def wp2 : Fs := ⟨[y01], [], []⟩
theorem wt5 : wp2.Ok Tryz.prog := (fsK w8f fs0)
theorem wy3 : y53.Ok Tryz.prog := fn_ok (k := y53) (fn := Tryz.f109) (W := []) (H := []) Tryz.func109 wt5 trivial rfl rfl (fun av x => by kernel_rfl)
def zn3 (l0_1 : List Int) : Option (List Int) := some l0_1
def z3m (p : Int → Option Bool) (p0_0 : Int) (kx0_0 : List Int → Option (List Int)) : Nat → Int → List Int → Option (List Int)
  | 0, _, _ => none
  | n0 + 1, s0_0, l0_1 => if decide (s0_0 < p0_0) = true then (gd (ok64 (s0_0 + 1)) ((p (s0_0 + 1)).bind fun x5 => (if x5 = true then (gd (ok64 (s0_0 + 1)) (gd (l0_1.length + [(s0_0 + 1)].length ≤ SMALL) (gd (ok64 (s0_0 + 1)) ((z3m p p0_0 kx0_0 n0) (s0_0 + 1) (l0_1 ++ [(s0_0 + 1)]))))) else (gd (ok64 (s0_0 + 1)) ((z3m p p0_0 kx0_0 n0) (s0_0 + 1) l0_1))))) else (kx0_0 l0_1)
def y2e (people : List Int) (p : Int → Option Bool) : Option (List Int) := (ze4 people).bind fun x1 => (if x1 = true then (z3m p (people.length : Int) zn3 FUEL 0 ([] : List Int)) else (some []))
def z2s : Con := ⟨105, [.v (.sl .I) false, .fn .I], [((.sl .I), true)], [], fun x => y2e x.1 x.2.1⟩
def wb4 : Fs := ⟨[zq8], [], []⟩
theorem yk9 : wb4.Ok Tryz.prog := (fsK yc4 fs0)
def y7d : Tmpl := ⟨[(1, .c .fp), (5, .c (.ref 500005)), (11, .c .i), (12, .c .i)], [(500005, .arr .I true)]⟩
def y49 : Tmpl := ⟨[(5, .c (.ref 500005))], [(500005, .arr .I true)]⟩
def w3q (av : AV) (x : HP z2s.ps) (n : Nat) (v : y7d.den) (K : Ks (CR z2s)) : Option (CR z2s) := z3m x.2.1 v.1.2.2.1 (fun l0_1 => y49.at (fpOf z2s.ps x av) (((), ()), (l0_1, ())) (K (.exit 0))) n v.1.2.2.2.1 v.2.1
def y6c (av : AV) (x : HP z2s.ps) : Hdl (CR z2s) := hnd [.e 5 500005 .I] y7d (w3q av x)
theorem w4q : LP z2s Tryz.f105 [0] y6c := lp_ok (W := []) (H := []) (xs := [y49]) yk9 trivial rfl (fun av x v K => by kernel_rfl) (fun av x n v K => by kernel_rfl)
theorem wi4 : z2s.Ok Tryz.prog := fn_ok (k := z2s) (fn := Tryz.f105) (W := []) (H := [y6c]) Tryz.func105 yk9 ⟨w4q, trivial⟩ rfl rfl (fun av x => by kernel_rfl)
def zn1 (b : GItem) (task : GTask) (who : Int) : Option Bool := if decide (b.task = task.apart) = true then (some (decide (b.who = who))) else (some false)
def zn9 : FCon := ⟨108, (.s .item), [(.s .task), .I], fun z c => zn1 z c.1 c.2.1⟩
def w16 : Fs := ⟨[], [], []⟩
theorem w1e : w16.Ok Tryz.prog := fs0
theorem w25 : zn9.Ok Tryz.prog := FCon.ok (fn_ok (k := zn9.con) (fn := Tryz.f108) (W := []) (H := []) Tryz.func108 w1e trivial rfl rfl (fun av x => by kernel_rfl))
def z94 (who : Int) (busy : List GItem) (task : GTask) (people : List Int) (did : List GDid) : Option Bool := (z6x busy (fun z => zn1 z task who)).bind fun x1 => ((zw1 people who task.role).bind fun x2 => (if x2 = true then (if x1 = true then (some false) else ((zw0 did who task.apart).bind fun x5 => (some (!x5)))) else (some false)))
def y0d : FCon := ⟨106, .I, [(.sl (.s .item)), (.s .task), (.sl .I), (.sl (.s .did))], fun z c => z94 z c.1 c.2.1 c.2.2.1 c.2.2.2.1⟩
def w6q : Fs := ⟨[za2, y54, y53], [zn9], []⟩
theorem w7f : w6q.Ok Tryz.prog := (fsK yk3 (fsK wy4 (fsK wy3 (fsF w25 fs0))))
theorem w8i : y0d.Ok Tryz.prog := FCon.ok (fn_ok (k := y0d.con) (fn := Tryz.f106) (W := []) (H := []) Tryz.func106 w7f trivial rfl rfl (fun av x => by kernel_rfl))
end
end Go.Am
