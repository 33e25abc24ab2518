/- Mirrors and contracts, printed. Own work. -/
import Derived.Test.YtgolgnbgomhknaaGreatCuB5
set_option maxRecDepth 100000
set_option maxHeartbeats 4000000
set_option linter.unusedVariables false
set_option linter.unusedSimpArgs false
namespace Go.Am
noncomputable section
open Go Go.Proofs
def z06 (n : Int) (low : Int) (high : Int) : Option Bool := if decide (low ≤ n) = true then (some (decide (n ≤ high))) else (some false)
def z0s : Con := ⟨90, [.v .I false, .v .I false, .v .I false], [(.B, true)], [], fun x => z06 x.1 x.2.1 x.2.2.1⟩
def w1k : Fs := ⟨[], [], []⟩
theorem w1m : w1k.Ok Tryz.prog := fs0
theorem z17 : z0s.Ok Tryz.prog := fn_ok (k := z0s) (fn := Tryz.f90) (W := []) (H := []) Tryz.func90 w1m trivial rfl rfl (fun av x => by kernel_rfl)
def zz3  : Option Bool := some true
def z47 (data : List Int) (kx0_0 : Option Bool) : Nat → Int → Option Bool
  | 0, _ => none
  | n0 + 1, s0_0 => if decide (s0_0 < (data.length : Int)) = true then ((getI data s0_0).bind fun x3 => ((z06 x3 (-99) 99).bind fun x4 => (if x4 = true then (gd (ok64 (s0_0 + 1)) ((z47 data kx0_0 n0) (s0_0 + 1))) else (some false)))) else (kx0_0)
def z4e (data : List Int) : Option Bool := if decide ((data.length : Int) = 3) = true then (z47 data zz3 FUEL 0) else (some false)
def z1n : Con := ⟨89, [.v (.sl .I) false], [(.B, true)], [], fun x => z4e x.1⟩
def yx5 : Fs := ⟨[z0s], [], []⟩
theorem y61 : yx5.Ok Tryz.prog := (fsK z17 fs0)
def y29 : Tmpl := ⟨[(0, .c (.s .I)), (3, .c .i)], []⟩
def y0o : Tmpl := ⟨[], []⟩
def yc4 (av : AV) (x : HP z1n.ps) (n : Nat) (v : y29.den) (K : Ks (CR z1n)) : Option (CR z1n) := z47 v.1.1 (y0o.at none ((), ()) (K (.exit 0))) n v.1.2.1
def y1t (av : AV) (x : HP z1n.ps) : Hdl (CR z1n) := hnd [] y29 (yc4 av x)
theorem yg2 : LP z1n Tryz.f89 [0] y1t := lp_ok (W := []) (H := []) (xs := [y0o]) y61 trivial rfl (fun av x v K => by kernel_rfl) (fun av x n v K => by kernel_rfl)
theorem z99 : z1n.Ok Tryz.prog := fn_ok (k := z1n) (fn := Tryz.f89) (W := []) (H := [y1t]) Tryz.func89 y61 ⟨yg2, trivial⟩ rfl rfl (fun av x => by kernel_rfl)
def zb2 (data : List Int) (k : Int) (n : Int) : Option (List Int) := (z4e data).bind fun x1 => (if x1 = true then ((z06 k 0 2).bind fun x3 => (if x3 = true then ((z06 n (-99) 99).bind fun x5 => (if x5 = true then (gd (([] : List Int).length + data.length ≤ SMALL) ((getI (([] : List Int) ++ data) k).bind fun x8 => (some ((([] : List Int) ++ data).set k.toNat n)))) else (gd (([] : List Int).length + data.length ≤ SMALL) (some (([] : List Int) ++ data))))) else (gd (([] : List Int).length + data.length ≤ SMALL) (some (([] : List Int) ++ data))))) else (gd (([] : List Int).length + data.length ≤ SMALL) (some (([] : List Int) ++ data))))
def zq6 : Con := ⟨171, [.v (.sl .I) false, .v .I false, .v .I false], [((.sl .I), true)], [], fun x => zb2 x.1 x.2.1 x.2.2.1⟩
def yn2 : Fs := ⟨[z1n, z0s], [], []⟩
theorem yp2 : yn2.Ok Tryz.prog := (fsK z99 (fsK z17 fs0))
theorem yr9 : zq6.Ok Tryz.prog := fn_ok (k := zq6) (fn := Tryz.f171) (W := []) (H := []) Tryz.func171 yp2 trivial rfl rfl (fun av x => by kernel_rfl)
def z6j (e : GAsk) : Option Bool := if decide (e.op = 0) = true then (some (decide ([e.op, e.var, e.k] = [0, 0, 0]))) else ((z06 e.op 1 3).bind fun x2 => (if x2 = true then ((z06 e.var 0 2).bind fun x4 => (if x4 = true then ((z06 e.k (-99) 99).bind fun x6 => (some x6)) else (some false))) else (some false)))
def zf3 : Con := ⟨138, [.v (.s .ask) false], [(.B, true)], [], fun x => z6j x.1⟩
def yx6 : Fs := ⟨[z0s], [], []⟩
theorem yz2 : yx6.Ok Tryz.prog := (fsK z17 fs0)
theorem y6h : zf3.Ok Tryz.prog := fn_ok (k := zf3) (fn := Tryz.f138) (W := []) (H := []) Tryz.func138 yz2 trivial rfl rfl (fun av x => by kernel_rfl)
def z7d (e : GAsk) (data : List Int) : Option Bool := (z6j e).bind fun x1 => (if x1 = true then ((z4e data).bind fun x3 => (if x3 = true then (if decide (e.op = 1) = true then ((getI data e.var).bind fun x6 => (some (decide (x6 < e.k)))) else (if decide (e.op = 2) = true then ((getI data e.var).bind fun x8 => (some (decide (x8 = e.k)))) else (if decide (e.op = 3) = true then ((getI data e.var).bind fun x10 => (some (decide (e.k < x10)))) else (some true)))) else (some false))) else (some false))
def zd3 : Con := ⟨181, [.v (.s .ask) false, .v (.sl .I) false], [(.B, true)], [], fun x => z7d x.1 x.2.1⟩
def y8n : Fs := ⟨[zf3, z1n], [], []⟩
theorem y93 : y8n.Ok Tryz.prog := (fsK y6h (fsK z99 fs0))
theorem y9o : zd3.Ok Tryz.prog := fn_ok (k := zd3) (fn := Tryz.f181) (W := []) (H := []) Tryz.func181 y93 trivial rfl rfl (fun av x => by kernel_rfl)
def z0u (n : Int) (low : Int) (high : Int) : Option Bool := if decide (low ≤ n) = true then (some (decide (n ≤ high))) else (some false)
def z2q : Con := ⟨113, [.v .I false, .v .I false, .v .I false], [(.B, true)], [], fun x => z0u x.1 x.2.1 x.2.2.1⟩
def w5f : Fs := ⟨[], [], []⟩
theorem w5q : w5f.Ok Tryz.prog := fs0
theorem z3e : z2q.Ok Tryz.prog := fn_ok (k := z2q) (fn := Tryz.f113) (W := []) (H := []) Tryz.func113 w5q trivial rfl rfl (fun av x => by kernel_rfl)
def z60 (n : Int) : Option Bool := (z0u n (-99) 99).bind fun x1 => (some x1)
def z8m : Con := ⟨114, [.v .I false], [(.B, true)], [], fun x => z60 x.1⟩
def yd4 : Fs := ⟨[z2q], [], []⟩
theorem yf2 : yd4.Ok Tryz.prog := (fsK z3e fs0)
theorem y22 : z8m.Ok Tryz.prog := fn_ok (k := z8m) (fn := Tryz.f114) (W := []) (H := []) Tryz.func114 yf2 trivial rfl rfl (fun av x => by kernel_rfl)
def z3i (list : List Int) : Option (List Int) := gd (([] : List Int).length + list.length ≤ SMALL) (some (([] : List Int) ++ list))
def z69 : Con := ⟨140, [.v (.sl .I) false], [((.sl .I), true)], [], fun x => z3i x.1⟩
def y73 : Fs := ⟨[], [], []⟩
theorem y77 : y73.Ok Tryz.prog := fs0
theorem zt7 : z69.Ok Tryz.prog := fn_ok (k := z69) (fn := Tryz.f140) (W := []) (H := []) Tryz.func140 y77 trivial rfl rfl (fun av x => by kernel_rfl)
def z93 (e : GAsk) : Option Bool := if decide (e.op = 0) = true then (if decide (e.var = 0) = true then (some (decide (e.k = 0))) else (some false)) else ((z0u e.op 1 3).bind fun x3 => (if x3 = true then ((z0u e.var 0 2).bind fun x5 => (if x5 = true then ((z60 e.k).bind fun x7 => (some x7)) else (some false))) else (some false)))
def zy4 : Con := ⟨141, [.v (.s .ask) false], [(.B, true)], [], fun x => z93 x.1⟩
def yw9 : Fs := ⟨[z2q, z8m], [], []⟩
theorem yy8 : yw9.Ok Tryz.prog := (fsK z3e (fsK y22 fs0))
theorem w07 : zy4.Ok Tryz.prog := fn_ok (k := zy4) (fn := Tryz.f141) (W := []) (H := []) Tryz.func141 yy8 trivial rfl rfl (fun av x => by kernel_rfl)
def zm3  : Option Bool := some true
def z2e (list : List Int) (low : Int) (high : Int) (kx0_0 : Option Bool) : Nat → Int → Option Bool
  | 0, _ => none
  | n0 + 1, s0_0 => if decide (s0_0 < (list.length : Int)) = true then ((getI list s0_0).bind fun x4 => ((z06 x4 low high).bind fun x5 => (if x5 = true then (if decide (0 < s0_0) = true then (gd (ok64 (s0_0 - 1)) ((getI list (s0_0 - 1)).bind fun x9 => ((getI list s0_0).bind fun x10 => (if decide (x10 ≤ x9) = true then (some false) else (gd (ok64 (s0_0 + 1)) ((z2e list low high kx0_0 n0) (s0_0 + 1))))))) else (gd (ok64 (s0_0 + 1)) ((z2e list low high kx0_0 n0) (s0_0 + 1)))) else (some false)))) else (kx0_0)
def z63 (list : List Int) (least : Int) (most : Int) (low : Int) (high : Int) : Option Bool := (z06 (list.length : Int) least most).bind fun x1 => (if x1 = true then (z2e list low high zm3 FUEL 0) else (some false))
def z2n : Con := ⟨214, [.v (.sl .I) false, .v .I false, .v .I false, .v .I false, .v .I false], [(.B, true)], [], fun x => z63 x.1 x.2.1 x.2.2.1 x.2.2.2.1 x.2.2.2.2.1⟩
def ye8 : Fs := ⟨[z0s], [], []⟩
theorem y1o : ye8.Ok Tryz.prog := (fsK z17 fs0)
def zu8 : Tmpl := ⟨[(0, .c (.s .I)), (3, .c .i), (4, .c .i), (11, .c .i)], []⟩
def zo8 : Tmpl := ⟨[], []⟩
def y70 (av : AV) (x : HP z2n.ps) (n : Nat) (v : zu8.den) (K : Ks (CR z2n)) : Option (CR z2n) := z2e v.1.1 v.1.2.1 v.1.2.2.1 (zo8.at none ((), ()) (K (.exit 0))) n v.1.2.2.2.1
def zt0 (av : AV) (x : HP z2n.ps) : Hdl (CR z2n) := hnd [] zu8 (y70 av x)
theorem y7k : LP z2n Tryz.f214 [0] zt0 := lp_ok (W := []) (H := []) (xs := [zo8]) y1o trivial rfl (fun av x v K => by kernel_rfl) (fun av x n v K => by kernel_rfl)
theorem yi4 : z2n.Ok Tryz.prog := fn_ok (k := z2n) (fn := Tryz.f214) (W := []) (H := [zt0]) Tryz.func214 y1o ⟨y7k, trivial⟩ rfl rfl (fun av x => by kernel_rfl)
def zz7  : Option Bool := some false
def z4d (list : List Int) (n : Int) (kx0_0 : Option Bool) : Nat → Int → Option Bool
  | 0, _ => none
  | n0 + 1, s0_0 => if decide (s0_0 < (list.length : Int)) = true then ((getI list s0_0).bind fun x2 => (if decide (x2 = n) = true then (some true) else (gd (ok64 (s0_0 + 1)) ((z4d list n kx0_0 n0) (s0_0 + 1))))) else (kx0_0)
def z6k (list : List Int) (n : Int) : Option Bool := z4d list n zz7 FUEL 0
def z2r : Con := ⟨101, [.v (.sl .I) false, .v .I false], [(.B, true)], [], fun x => z6k x.1 x.2.1⟩
def yy1 : Fs := ⟨[], [], []⟩
theorem y66 : yy1.Ok Tryz.prog := fs0
def y2e : Tmpl := ⟨[(0, .c (.s .I)), (1, .c .i), (5, .c .i)], []⟩
def y0s : Tmpl := ⟨[], []⟩
def yc9 (av : AV) (x : HP z2r.ps) (n : Nat) (v : y2e.den) (K : Ks (CR z2r)) : Option (CR z2r) := z4d v.1.1 v.1.2.1 (y0s.at none ((), ()) (K (.exit 0))) n v.1.2.2.1
def y1y (av : AV) (x : HP z2r.ps) : Hdl (CR z2r) := hnd [] y2e (yc9 av x)
theorem yg7 : LP z2r Tryz.f101 [0] y1y := lp_ok (W := []) (H := []) (xs := [y0s]) y66 trivial rfl (fun av x v K => by kernel_rfl) (fun av x n v K => by kernel_rfl)
theorem y06 : z2r.Ok Tryz.prog := fn_ok (k := z2r) (fn := Tryz.f101) (W := []) (H := [y1y]) Tryz.func101 y66 ⟨yg7, trivial⟩ rfl rfl (fun av x => by kernel_rfl)
def zm0 (s0_0 : Int) (bk0 : Int → Option Bool) : Option Bool := gd (ok64 (s0_0 + 1)) (bk0 (s0_0 + 1))
def z1o (t : GTask) (s0_0 : Int) (x4 : GFlow) (kx1_0 : Option Bool) : Nat → Int → Option Bool
  | 0, _ => none
  | n1 + 1, s1_0 => if decide (s1_0 < s0_0) = true then ((getI t.out s1_0).bind fun x14 => (if decide (x14.to = x4.to) = true then (some false) else (gd (ok64 (s1_0 + 1)) ((z1o t s0_0 x4 kx1_0 n1) (s1_0 + 1))))) else (kx1_0)
def zm1 (s0_0 : Int) (bk0 : Int → Option Bool) : Option Bool := gd (ok64 (s0_0 + 1)) (bk0 (s0_0 + 1))
def zm2  : Option Bool := some true
def z2d (t : GTask) (places : Int) (kx0_0 : Option Bool) : Nat → Int → Option Bool
  | 0, _ => none
  | n0 + 1, s0_0 => if decide (s0_0 < (t.out.length : Int)) = true then ((getI t.out s0_0).bind fun x4 => (gd (ok64 ((t.out.length : Int) - 1)) (if decide (s0_0 = ((t.out.length : Int) - 1)) = true then (gd (ok64 (places - 1)) ((z06 x4.to 1 (places - 1)).bind fun x8 => (if x8 = true then ((z6j x4.if_).bind fun x10 => (if x10 = true then (if (true == (decide (x4.if_.op = 0))) = true then (z1o t s0_0 x4 (zm0 s0_0 (z2d t places kx0_0 n0)) FUEL 0) else (some false)) else (some false))) else (some false)))) else (gd (ok64 (places - 1)) ((z06 x4.to 1 (places - 1)).bind fun x19 => (if x19 = true then ((z6j x4.if_).bind fun x21 => (if x21 = true then (if ((decide (t.split = 1)) == (decide (x4.if_.op = 0))) = true then (z1o t s0_0 x4 (zm1 s0_0 (z2d t places kx0_0 n0)) FUEL 0) else (some false)) else (some false))) else (some false))))))) else (kx0_0)
def z8v (t : GTask) (places : Int) : Option Bool := (z06 (t.out.length : Int) 1 3).bind fun x1 => (if x1 = true then (z2d t places zm2 FUEL 0) else (some false))
def z0m : Con := ⟨215, [.v (.s .task) false, .v .I false], [(.B, true)], [], fun x => z8v x.1 x.2.1⟩
def ye7 : Fs := ⟨[z0s, zf3], [], []⟩
theorem zh9 : ye7.Ok Tryz.prog := (fsK z17 (fsK y6h fs0))
def zg6 : Tmpl := ⟨[(1, .c .i), (2, .c (.bx 2 0)), (5, .c .i), (6, .c (.bx 6 0)), (8, .c .i)], [(2, .boxT (.s .task)), (6, .boxT (.s .flow))]⟩
def ze5 : Tmpl := ⟨[(1, .c .i), (2, .c (.bx 2 0)), (5, .c .i)], [(2, .boxT (.s .task))]⟩
def y37 (av : AV) (x : HP z0m.ps) (n : Nat) (v : zg6.den) (K : Ks (CR z0m)) : Option (CR z0m) := z1o v.2.1 v.1.2.2.1 v.2.2.1 (ze5.at none ((v.1.1, (), v.1.2.2.1, ()), (v.2.1, ())) (K (.exit 2))) n v.1.2.2.2.2.1
def ze9 (av : AV) (x : HP z0m.ps) : Hdl (CR z0m) := hnd [] zg6 (y37 av x)
theorem y3t : LP z0m Tryz.f215 [0, 0] ze9 := lp_ok (W := []) (H := []) (xs := [ze5]) zh9 trivial rfl (fun av x v K => by kernel_rfl) (fun av x n v K => by kernel_rfl)
def zu7 : Tmpl := ⟨[(1, .c .i), (2, .c (.bx 2 0)), (5, .c .i)], [(2, .boxT (.s .task))]⟩
def zo7 : Tmpl := ⟨[], []⟩
def y6z (av : AV) (x : HP z0m.ps) (n : Nat) (v : zu7.den) (K : Ks (CR z0m)) : Option (CR z0m) := z2d v.2.1 v.1.1 (zo7.at none ((), ()) (K (.exit 0))) n v.1.2.2.1
def zs9 (av : AV) (x : HP z0m.ps) : Hdl (CR z0m) := hnd [] zu7 (y6z av x)
theorem y7j : LP z0m Tryz.f215 [0] zs9 := lp_ok (W := []) (H := [ze9]) (xs := [zo7]) zh9 ⟨y3t, trivial⟩ rfl (fun av x v K => by kernel_rfl) (fun av x n v K => by kernel_rfl)
theorem yi3 : z0m.Ok Tryz.prog := fn_ok (k := z0m) (fn := Tryz.f215) (W := []) (H := [zs9]) Tryz.func215 zh9 ⟨y7j, trivial⟩ rfl rfl (fun av x => by kernel_rfl)
def zb6 (t : GTask) (places : Int) (tasks : Int) : Option Bool := (z06 t.join 1 3).bind fun x1 => (if x1 = true then ((z06 t.split 1 3).bind fun x3 => (if x3 = true then (gd (ok64 (places - 1)) ((z63 t.in_ 1 3 0 (places - 1)).bind fun x6 => (if x6 = true then ((z6k t.in_ 1).bind fun x8 => (if x8 = true then (some false) else ((z8v t places).bind fun x10 => (if x10 = true then (gd (ok64 (places - 1)) ((z63 t.clear 0 places 2 (places - 1)).bind fun x13 => (if x13 = true then ((z06 t.role 1 3).bind fun x15 => (if x15 = true then (gd (ok64 (tasks - 1)) ((z06 t.apart (-1) (tasks - 1)).bind fun x18 => (if x18 = true then ((z06 t.all 1 3).bind fun x20 => (if x20 = true then ((z06 t.need 1 t.all).bind fun x22 => (some x22)) else (some false))) else (some false)))) else (some false))) else (some false)))) else (some false))))) else (some false)))) else (some false))) else (some false))
def zq8 : Con := ⟨198, [.v (.s .task) false, .v .I false, .v .I false], [(.B, true)], [], fun x => zb6 x.1 x.2.1 x.2.2.1⟩
def yn9 : Fs := ⟨[z0s, z2n, z2r, z0m], [], []⟩
theorem yp6 : yn9.Ok Tryz.prog := (fsK z17 (fsK yi4 (fsK y06 (fsK yi3 fs0))))
theorem ys3 : zq8.Ok Tryz.prog := fn_ok (k := zq8) (fn := Tryz.f198) (W := []) (H := []) Tryz.func198 yp6 trivial rfl rfl (fun av x => by kernel_rfl)
def zz5  : Option Bool := some true
def z4a (n : GNet) (kx0_0 : Option Bool) : Nat → Int → Option Bool
  | 0, _ => none
  | n0 + 1, s0_0 => if decide (s0_0 < (n.tasks.length : Int)) = true then ((getI n.tasks s0_0).bind fun x6 => ((zb6 x6 n.places (n.tasks.length : Int)).bind fun x7 => (if x7 = true then (gd (ok64 (s0_0 + 1)) ((z4a n kx0_0 n0) (s0_0 + 1))) else (some false)))) else (kx0_0)
def z2s (n : GNet) : Option Bool := (z06 n.places 2 8).bind fun x1 => (if x1 = true then ((z06 (n.tasks.length : Int) 1 6).bind fun x3 => (if x3 = true then (z4a n zz5 FUEL 0) else (some false))) else (some false))
def z26 : Con := ⟨161, [.v (.s .net) false], [(.B, true)], [], fun x => z2s x.1⟩
def yx8 : Fs := ⟨[z0s, zq8], [], []⟩
theorem y63 : yx8.Ok Tryz.prog := (fsK z17 (fsK ys3 fs0))
def y2b : Tmpl := ⟨[(1, .c (.bx 1 0)), (3, .c .i)], [(1, .boxT (.s .net))]⟩
def y0q : Tmpl := ⟨[], []⟩
def yc6 (av : AV) (x : HP z26.ps) (n : Nat) (v : y2b.den) (K : Ks (CR z26)) : Option (CR z26) := z4a v.2.1 (y0q.at none ((), ()) (K (.exit 0))) n v.1.2.1
def y1v (av : AV) (x : HP z26.ps) : Hdl (CR z26) := hnd [] y2b (yc6 av x)
theorem yg4 : LP z26 Tryz.f161 [0] y1v := lp_ok (W := []) (H := []) (xs := [y0q]) y63 trivial rfl (fun av x v K => by kernel_rfl) (fun av x n v K => by kernel_rfl)
theorem zg4 : z26.Ok Tryz.prog := fn_ok (k := z26) (fn := Tryz.f161) (W := []) (H := [y1v]) Tryz.func161 y63 ⟨yg4, trivial⟩ rfl rfl (fun av x => by kernel_rfl)
def z7l (s1_0 : Int) (bk1 : Int → List Bool → Option (List Bool)) (l3_1 : List Bool) : Option (List Bool) := gd (ok64 (s1_0 + 1)) (bk1 (s1_0 + 1) l3_1)
def z7m (s1_0 : Int) (bk1 : Int → List Bool → Option (List Bool)) (l3_1 : List Bool) : Option (List Bool) := gd (ok64 (s1_0 + 1)) (bk1 (s1_0 + 1) l3_1)
def z7n (s1_0 : Int) (bk1 : Int → List Bool → Option (List Bool)) (l3_1 : List Bool) : Option (List Bool) := gd (ok64 (s1_0 + 1)) (bk1 (s1_0 + 1) l3_1)
def z11 (n : GNet) (but : Int) (s1_0 : Int) (s2_0 : Bool) (kx3_0 : List Bool → Option (List Bool)) (kx3_1 : List Bool → Option (List Bool)) (kx3_2 : List Bool → Option (List Bool)) : Nat → Int → List Bool → Option (List Bool)
  | 0, _, _ => none
  | n3 + 1, s3_0, l3_1 => (getI n.tasks s1_0).bind fun x12 => (if decide (s3_0 < (x12.out.length : Int)) = true then (if s2_0 = true then (if decide (s1_0 = but) = true then (kx3_0 l3_1) else ((getI n.tasks s1_0).bind fun x17 => ((getI x17.out s3_0).bind fun x18 => ((getI l3_1 x18.to).bind fun x19 => (gd (ok64 (s3_0 + 1)) ((z11 n but s1_0 s2_0 kx3_0 kx3_1 kx3_2 n3) (s3_0 + 1) (l3_1.set x18.to.toNat true))))))) else (kx3_1 l3_1)) else (kx3_2 l3_1))
def zf8 (n : GNet) (but : Int) (s1_0 : Int) (l1_1 : List Bool) (bk1 : Int → List Bool → Option (List Bool)) (s2_0 : Bool) : Option (List Bool) := z11 n but s1_0 s2_0 (z7l s1_0 bk1) (z7m s1_0 bk1) (z7n s1_0 bk1) FUEL 0 l1_1
def z1b (n : GNet) (s1_0 : Int) (l1_1 : List Bool) (kx2_0 : Bool → Option (List Bool)) : Nat → Bool → Int → Option (List Bool)
  | 0, _, _ => none
  | n2 + 1, s2_0, s2_1 => (getI n.tasks s1_0).bind fun x4 => (if decide (s2_1 < (x4.in_.length : Int)) = true then (if s2_0 = true then (gd (ok64 (s2_1 + 1)) ((z1b n s1_0 l1_1 kx2_0 n2) true (s2_1 + 1))) else ((getI n.tasks s1_0).bind fun x8 => ((getI x8.in_ s2_1).bind fun x9 => ((getI l1_1 x9).bind fun x10 => (gd (ok64 (s2_1 + 1)) ((z1b n s1_0 l1_1 kx2_0 n2) x10 (s2_1 + 1))))))) else (kx2_0 s2_0))
def zf9 (s0_0 : Int) (bk0 : Int → List Bool → Option (List Bool)) (l1_1 : List Bool) : Option (List Bool) := gd (ok64 (s0_0 + 1)) (bk0 (s0_0 + 1) l1_1)
def z0c (n : GNet) (but : Int) (kx1_0 : List Bool → Option (List Bool)) : Nat → Int → List Bool → Option (List Bool)
  | 0, _, _ => none
  | n1 + 1, s1_0, l1_1 => if decide (s1_0 < (n.tasks.length : Int)) = true then (z1b n s1_0 l1_1 (zf8 n but s1_0 l1_1 (z0c n but kx1_0 n1)) FUEL false 0) else (kx1_0 l1_1)
def zg0 (l0_1 : List Bool) : Option (List Bool) := some l0_1
def z2y (n : GNet) (but : Int) (kx0_0 : List Bool → Option (List Bool)) : Nat → Int → List Bool → Option (List Bool)
  | 0, _, _ => none
  | n0 + 1, s0_0, l0_1 => if decide (s0_0 < n.places) = true then (z0c n but (zf9 s0_0 (z2y n but kx0_0 n0)) FUEL 0 l0_1) else (kx0_0 l0_1)
def z7k (n : GNet) (marked : List Bool) (but : Int) : Option (List Bool) := gd (([] : List Bool).length + marked.length ≤ SMALL) (z2y n but zg0 FUEL 0 (([] : List Bool) ++ marked))
def z04 : Con := ⟨216, [.v (.s .net) false, .v (.sl .B) false, .v .I false], [((.sl .B), true)], [], fun x => z7k x.1 x.2.1 x.2.2.1⟩
def y8q : Fs := ⟨[], [], []⟩
theorem z50 : y8q.Ok Tryz.prog := fs0
def z9c : Tmpl := ⟨[(2, .c .i), (3, .c (.bx 3 0)), (7, .c (.ref 15)), (8, .c .i), (9, .c .i), (10, .c .b), (11, .c .i)], [(3, .boxT (.s .net)), (15, .arr .B true)]⟩
def z89 : Tmpl := ⟨[(2, .c .i), (3, .c (.bx 3 0)), (7, .c (.ref 15)), (8, .c .i), (9, .c .i), (10, .c .b)], [(3, .boxT (.s .net)), (15, .arr .B true)]⟩
def zw2 (av : AV) (x : HP z04.ps) (n : Nat) (v : z9c.den) (K : Ks (CR z04)) : Option (CR z04) := z1b v.2.1 v.1.2.2.2.2.1 v.2.2.1 (fun s2_0 => z89.at none ((v.1.1, (), (), v.1.2.2.2.1, v.1.2.2.2.2.1, s2_0, ()), (v.2.1, v.2.2.1, ())) (K (.exit 4))) n v.1.2.2.2.2.2.1 v.1.2.2.2.2.2.2.1
def z8y (av : AV) (x : HP z04.ps) : Hdl (CR z04) := hnd [] z9c (zw2 av x)
theorem zy8 : LP z04 Tryz.f216 [0, 0, 0] z8y := lp_ok (W := []) (H := []) (xs := [z89]) z50 trivial rfl (fun av x v K => by kernel_rfl) (fun av x n v K => by kernel_rfl)
def z9d : Tmpl := ⟨[(2, .c .i), (3, .c (.bx 3 0)), (7, .c (.ref 15)), (8, .c .i), (9, .c .i), (10, .c .b), (12, .c .i)], [(3, .boxT (.s .net)), (15, .arr .B true)]⟩
def z3g : Tmpl := ⟨[(2, .c .i), (3, .c (.bx 3 0)), (7, .c (.ref 15)), (8, .c .i), (9, .c .i)], [(3, .boxT (.s .net)), (15, .arr .B true)]⟩
def zw3 (av : AV) (x : HP z04.ps) (n : Nat) (v : z9d.den) (K : Ks (CR z04)) : Option (CR z04) := z11 v.2.1 v.1.1 v.1.2.2.2.2.1 v.1.2.2.2.2.2.1 (fun l3_1 => z3g.at none ((v.1.1, (), (), v.1.2.2.2.1, v.1.2.2.2.2.1, ()), (v.2.1, l3_1, ())) (K (.exit 6))) (fun l3_1 => z3g.at none ((v.1.1, (), (), v.1.2.2.2.1, v.1.2.2.2.2.1, ()), (v.2.1, l3_1, ())) (K (.exit 6))) (fun l3_1 => z3g.at none ((v.1.1, (), (), v.1.2.2.2.1, v.1.2.2.2.2.1, ()), (v.2.1, l3_1, ())) (K (.exit 6))) n v.1.2.2.2.2.2.2.1 v.2.2.1
def z8z (av : AV) (x : HP z04.ps) : Hdl (CR z04) := hnd [] z9d (zw3 av x)
theorem zy9 : LP z04 Tryz.f216 [0, 0, 1] z8z := lp_ok (W := []) (H := []) (xs := [z3g]) z50 trivial rfl (fun av x v K => by kernel_rfl) (fun av x n v K => by kernel_rfl)
def ze3 : Tmpl := ⟨[(2, .c .i), (3, .c (.bx 3 0)), (7, .c (.ref 15)), (8, .c .i), (9, .c .i)], [(3, .boxT (.s .net)), (15, .arr .B true)]⟩
def z9u : Tmpl := ⟨[(2, .c .i), (3, .c (.bx 3 0)), (7, .c (.ref 15)), (8, .c .i)], [(3, .boxT (.s .net)), (15, .arr .B true)]⟩
def y2j (av : AV) (x : HP z04.ps) (n : Nat) (v : ze3.den) (K : Ks (CR z04)) : Option (CR z04) := z0c v.2.1 v.1.1 (fun l1_1 => z9u.at none ((v.1.1, (), (), v.1.2.2.2.1, ()), (v.2.1, l1_1, ())) (K (.exit 2))) n v.1.2.2.2.2.1 v.2.2.1
def zc6 (av : AV) (x : HP z04.ps) : Hdl (CR z04) := hnd [] ze3 (y2j av x)
theorem y2w : LP z04 Tryz.f216 [0, 0] zc6 := lp_ok (W := []) (H := [z8y, z8z]) (xs := [z9u]) z50 ⟨zy8, zy9, trivial⟩ rfl (fun av x v K => by kernel_rfl) (fun av x n v K => by kernel_rfl)
def zn5 : Tmpl := ⟨[(2, .c .i), (3, .c (.bx 3 0)), (7, .c (.ref 15)), (8, .c .i)], [(3, .boxT (.s .net)), (15, .arr .B true)]⟩
def zh2 : Tmpl := ⟨[(7, .c (.ref 15))], [(15, .arr .B true)]⟩
def y4r (av : AV) (x : HP z04.ps) (n : Nat) (v : zn5.den) (K : Ks (CR z04)) : Option (CR z04) := z2y v.2.1 v.1.1 (fun l0_1 => zh2.at none (((), ()), (l0_1, ())) (K (.exit 0))) n v.1.2.2.2.1 v.2.2.1
def zk9 (av : AV) (x : HP z04.ps) : Hdl (CR z04) := hnd [] zn5 (y4r av x)
theorem y5f : LP z04 Tryz.f216 [0] zk9 := lp_ok (W := []) (H := [zc6]) (xs := [zh2]) z50 ⟨y2w, trivial⟩ rfl (fun av x v K => by kernel_rfl) (fun av x n v K => by kernel_rfl)
theorem y9r : z04.Ok Tryz.prog := fn_ok (k := z04) (fn := Tryz.f216) (W := []) (H := [zk9]) Tryz.func216 z50 ⟨y5f, trivial⟩ rfl rfl (fun av x => by kernel_rfl)
def za9 (kind : Int) : Option Bool := (z0u kind 1 3).bind fun x1 => (some x1)
def zq3 : Con := ⟨177, [.v .I false], [(.B, true)], [], fun x => za9 x.1⟩
def ym6 : Fs := ⟨[z2q], [], []⟩
theorem yo8 : ym6.Ok Tryz.prog := (fsK z3e fs0)
theorem yr4 : zq3.Ok Tryz.prog := fn_ok (k := zq3) (fn := Tryz.f177) (W := []) (H := []) Tryz.func177 yo8 trivial rfl rfl (fun av x => by kernel_rfl)
def z76 (role : Int) : Option Bool := (z0u role 1 3).bind fun x1 => (some x1)
def za1 : Con := ⟨151, [.v .I false], [(.B, true)], [], fun x => z76 x.1⟩
def ym7 : Fs := ⟨[z2q], [], []⟩
theorem yo9 : ym7.Ok Tryz.prog := (fsK z3e fs0)
theorem y40 : za1.Ok Tryz.prog := fn_ok (k := za1) (fn := Tryz.f151) (W := []) (H := []) Tryz.func151 yo9 trivial rfl rfl (fun av x => by kernel_rfl)
def zi9 (places : Int) (tasks : Int) : Option Bool := (z0u places 2 8).bind fun x1 => (if x1 = true then ((z0u tasks 1 6).bind fun x3 => (some x3)) else (some false))
def zi0 : Con := ⟨122, [.v .I false, .v .I false], [(.B, true)], [], fun x => zi9 x.1 x.2.1⟩
def yd7 : Fs := ⟨[z2q], [], []⟩
theorem yf4 : yd7.Ok Tryz.prog := (fsK z3e fs0)
theorem yh3 : zi0.Ok Tryz.prog := fn_ok (k := zi0) (fn := Tryz.f122) (W := []) (H := []) Tryz.func122 yf4 trivial rfl rfl (fun av x => by kernel_rfl)
def z0k (n : GNet) (t : Int) : Option Bool := gd (ok64 ((n.tasks.length : Int) - 1)) ((z0u t 0 ((n.tasks.length : Int) - 1)).bind fun x2 => (some x2))
def z1l : Con := ⟨96, [.v (.s .net) false, .v .I false], [(.B, true)], [], fun x => z0k x.1 x.2.1⟩
def zw6 : Fs := ⟨[z2q], [], []⟩
theorem zx0 : zw6.Ok Tryz.prog := (fsK z3e fs0)
theorem z3w : z1l.Ok Tryz.prog := fn_ok (k := z1l) (fn := Tryz.f96) (W := []) (H := []) Tryz.func96 zx0 trivial rfl rfl (fun av x => by kernel_rfl)
def zz4  : Option Bool := some true
def z49 (marks : List Int) (kx0_0 : Option Bool) : Nat → Int → Option Bool
  | 0, _ => none
  | n0 + 1, s0_0 => if decide (s0_0 < (marks.length : Int)) = true then ((getI marks s0_0).bind fun x5 => ((z06 x5 0 4).bind fun x6 => (if x6 = true then (gd (ok64 (s0_0 + 1)) ((z49 marks kx0_0 n0) (s0_0 + 1))) else (some false)))) else (kx0_0)
def z59 (n : GNet) (marks : List Int) : Option Bool := (z2s n).bind fun x1 => (if x1 = true then (if decide ((marks.length : Int) = n.places) = true then (z49 marks zz4 FUEL 0) else (some false)) else (some false))
def z25 : Con := ⟨87, [.v (.s .net) false, .v (.sl .I) false], [(.B, true)], [], fun x => z59 x.1 x.2.1⟩
def yx7 : Fs := ⟨[z26, z0s], [], []⟩
theorem y62 : yx7.Ok Tryz.prog := (fsK zg4 (fsK z17 fs0))
def y2a : Tmpl := ⟨[(1, .c (.s .I)), (5, .c .i)], []⟩
def y0p : Tmpl := ⟨[], []⟩
def yc5 (av : AV) (x : HP z25.ps) (n : Nat) (v : y2a.den) (K : Ks (CR z25)) : Option (CR z25) := z49 v.1.1 (y0p.at none ((), ()) (K (.exit 0))) n v.1.2.1
def y1u (av : AV) (x : HP z25.ps) : Hdl (CR z25) := hnd [] y2a (yc5 av x)
theorem yg3 : LP z25 Tryz.f87 [0] y1u := lp_ok (W := []) (H := []) (xs := [y0p]) y62 trivial rfl (fun av x v K => by kernel_rfl) (fun av x n v K => by kernel_rfl)
theorem zg3 : z25.Ok Tryz.prog := fn_ok (k := z25) (fn := Tryz.f87) (W := []) (H := [y1u]) Tryz.func87 y62 ⟨yg3, trivial⟩ rfl rfl (fun av x => by kernel_rfl)
def z6b (s0_0 : Bool) (s0_1 : Bool) : Option (Bool × Bool) := some (s0_0, s0_1)
def z18 (marks : List Int) (list : List Int) (kx0_0 : Bool → Bool → Option (Bool × Bool)) : Nat → Bool → Bool → Int → Option (Bool × Bool)
  | 0, _, _, _ => none
  | n0 + 1, s0_0, s0_1, s0_2 => if decide (s0_2 < (list.length : Int)) = true then (if s0_0 = true then (if s0_1 = true then ((getI list s0_2).bind fun x4 => ((getI marks x4).bind fun x5 => (gd (ok64 (s0_2 + 1)) ((z18 marks list kx0_0 n0) true (decide (0 < x5)) (s0_2 + 1))))) else (gd (ok64 (s0_2 + 1)) ((z18 marks list kx0_0 n0) true false (s0_2 + 1)))) else ((getI list s0_2).bind fun x8 => ((getI marks x8).bind fun x9 => (if s0_1 = true then ((getI list s0_2).bind fun x11 => ((getI marks x11).bind fun x12 => (gd (ok64 (s0_2 + 1)) ((z18 marks list kx0_0 n0) (decide (0 < x9)) (decide (0 < x12)) (s0_2 + 1))))) else (gd (ok64 (s0_2 + 1)) ((z18 marks list kx0_0 n0) (decide (0 < x9)) false (s0_2 + 1))))))) else (kx0_0 s0_0 s0_1)
def zb7 (marks : List Int) (list : List Int) : Option (Bool × Bool) := z18 marks list z6b FUEL false true 0
def z37 : Con := ⟨200, [.v (.sl .I) false, .v (.sl .I) false], [(.B, true), (.B, true)], [], fun x => zb7 x.1 x.2.1⟩
def yo1 : Fs := ⟨[], [], []⟩
theorem y3o : yo1.Ok Tryz.prog := fs0
def y0j : Tmpl := ⟨[(0, .c (.s .I)), (1, .c (.s .I)), (6, .c .b), (7, .c .b), (8, .c .i)], []⟩
def zv6 : Tmpl := ⟨[(6, .c .b), (7, .c .b)], []⟩
def y88 (av : AV) (x : HP z37.ps) (n : Nat) (v : y0j.den) (K : Ks (CR z37)) : Option (CR z37) := z18 v.1.1 v.1.2.1 (fun s0_0 s0_1 => zv6.at none ((s0_0, s0_1, ()), ()) (K (.exit 0))) n v.1.2.2.1 v.1.2.2.2.1 v.1.2.2.2.2.1
def zy3 (av : AV) (x : HP z37.ps) : Hdl (CR z37) := hnd [] y0j (y88 av x)
theorem y9e : LP z37 Tryz.f200 [0] zy3 := lp_ok (W := []) (H := []) (xs := [zv6]) y3o trivial rfl (fun av x v K => by kernel_rfl) (fun av x n v K => by kernel_rfl)
theorem ys4 : z37.Ok Tryz.prog := fn_ok (k := z37) (fn := Tryz.f200) (W := []) (H := [zy3]) Tryz.func200 y3o ⟨y9e, trivial⟩ rfl rfl (fun av x => by kernel_rfl)
def z30 (s1_0 : Int) (bk1 : Int → List Bool → Option Bool) (l2_1 : List Bool) : Option Bool := gd (ok64 (s1_0 + 1)) (bk1 (s1_0 + 1) l2_1)
def z1y (p2_0 : List GFlow) (kx2_0 : List Bool → Option Bool) : Nat → Int → List Bool → Option Bool
  | 0, _, _ => none
  | n2 + 1, s2_0, l2_1 => if decide (s2_0 < (p2_0.length : Int)) = true then ((getI p2_0 s2_0).bind fun x15 => ((getI l2_1 x15.to).bind fun x16 => (gd (ok64 (s2_0 + 1)) ((z1y p2_0 kx2_0 n2) (s2_0 + 1) (l2_1.set x15.to.toNat true))))) else (kx2_0 l2_1)
def z7q  : Option Bool := some false
def z1e (n : GNet) (marks : List Int) (t : Int) (x19 : (List Bool)) (kx3_0 : Option Bool) : Nat → Int → Option Bool
  | 0, _ => none
  | n3 + 1, s3_0 => (getI n.tasks t).bind fun x20 => (if decide (s3_0 < (x20.in_.length : Int)) = true then ((getI n.tasks t).bind fun x22 => ((getI x22.in_ s3_0).bind fun x23 => ((getI marks x23).bind fun x24 => (if decide (x24 = 0) = true then ((getI n.tasks t).bind fun x26 => ((getI x26.in_ s3_0).bind fun x27 => ((getI x19 x27).bind fun x28 => (if x28 = true then (some true) else (gd (ok64 (s3_0 + 1)) ((z1e n marks t x19 kx3_0 n3) (s3_0 + 1))))))) else (gd (ok64 (s3_0 + 1)) ((z1e n marks t x19 kx3_0 n3) (s3_0 + 1))))))) else (kx3_0))
def z1c (n : GNet) (marks : List Int) (t : Int) (l1_1 : List Bool) : Option Bool := (z7k n l1_1 t).bind fun x19 => (z1e n marks t x19 z7q FUEL 0)
def z0r (n : GNet) (busy : List GItem) (kx1_0 : List Bool → Option Bool) : Nat → Int → List Bool → Option Bool
  | 0, _, _ => none
  | n1 + 1, s1_0, l1_1 => if decide (s1_0 < (busy.length : Int)) = true then ((getI busy s1_0).bind fun x12 => ((getI n.tasks x12.task).bind fun x13 => (z1y x13.out (z30 s1_0 (z0r n busy kx1_0 n1)) FUEL 0 l1_1))) else (kx1_0 l1_1)
def z2z (n : GNet) (marks : List Int) (busy : List GItem) (t : Int) (l0_1 : List Bool) : Option Bool := z0r n busy (z1c n marks t) FUEL 0 l0_1
def z1d (n : GNet) (marks : List Int) (t : Int) (kx0_0 : List Bool → Option Bool) : Nat → Int → List Bool → Option Bool
  | 0, _, _ => none
  | n0 + 1, s0_0, l0_1 => if decide (s0_0 < n.places) = true then ((getI marks s0_0).bind fun x3 => (if decide (0 < x3) = true then ((getI n.tasks t).bind fun x5 => ((z6k x5.in_ s0_0).bind fun x6 => ((getI l0_1 s0_0).bind fun x7 => (gd (ok64 (s0_0 + 1)) ((z1d n marks t kx0_0 n0) (s0_0 + 1) (l0_1.set s0_0.toNat (!x6))))))) else ((getI l0_1 s0_0).bind fun x9 => (gd (ok64 (s0_0 + 1)) ((z1d n marks t kx0_0 n0) (s0_0 + 1) (l0_1.set s0_0.toNat false)))))) else (kx0_0 l0_1)
def z7p (n : GNet) (marks : List Int) (busy : List GItem) (t : Int) : Option Bool := gd ((0 : Int) ≤ n.places ∧ n.places ≤ (1000000000 : Int)) (z1d n marks t (z2z n marks busy t) FUEL 0 (List.replicate n.places.toNat false))
def z05 : Con := ⟨201, [.v (.s .net) false, .v (.sl .I) false, .v (.sl (.s .item)) false, .v .I false], [(.B, true)], [], fun x => z7p x.1 x.2.1 x.2.2.1 x.2.2.2.1⟩
def y8r : Fs := ⟨[z2r, z04], [], []⟩
theorem z51 : y8r.Ok Tryz.prog := (fsK y06 (fsK y9r fs0))
def ze4 : Tmpl := ⟨[(1, .c (.s .I)), (2, .c (.s (.s .item))), (3, .c .i), (4, .c (.bx 4 0)), (9, .c (.ref 18)), (11, .c .i), (12, .c (.s (.s .flow))), (13, .c .i)], [(4, .boxT (.s .net)), (18, .arr .B true)]⟩
def z9v : Tmpl := ⟨[(1, .c (.s .I)), (2, .c (.s (.s .item))), (3, .c .i), (4, .c (.bx 4 0)), (9, .c (.ref 18)), (11, .c .i)], [(4, .boxT (.s .net)), (18, .arr .B true)]⟩
def y2k (av : AV) (x : HP z05.ps) (n : Nat) (v : ze4.den) (K : Ks (CR z05)) : Option (CR z05) := z1y v.1.2.2.2.2.2.2.1 (fun l2_1 => z9v.at none ((v.1.1, v.1.2.1, v.1.2.2.1, (), (), v.1.2.2.2.2.2.1, ()), (v.2.1, l2_1, ())) (K (.exit 4))) n v.1.2.2.2.2.2.2.2.1 v.2.2.1
def zc7 (av : AV) (x : HP z05.ps) : Hdl (CR z05) := hnd [] ze4 (y2k av x)
theorem y2x : LP z05 Tryz.f201 [1, 0] zc7 := lp_ok (W := []) (H := []) (xs := [z9v]) z51 trivial rfl (fun av x v K => by kernel_rfl) (fun av x n v K => by kernel_rfl)
def zn6 : Tmpl := ⟨[(1, .c (.s .I)), (2, .c (.s (.s .item))), (3, .c .i), (4, .c (.bx 4 0)), (9, .c (.ref 18)), (10, .c .i)], [(4, .boxT (.s .net)), (18, .arr .B true)]⟩
def zh3 : Tmpl := ⟨[(1, .c (.s .I)), (2, .c (.s (.s .item))), (3, .c .i), (4, .c (.bx 4 0)), (9, .c (.ref 18))], [(4, .boxT (.s .net)), (18, .arr .B true)]⟩
def y4s (av : AV) (x : HP z05.ps) (n : Nat) (v : zn6.den) (K : Ks (CR z05)) : Option (CR z05) := z1d v.2.1 v.1.1 v.1.2.2.1 (fun l0_1 => zh3.at none ((v.1.1, v.1.2.1, v.1.2.2.1, (), (), ()), (v.2.1, l0_1, ())) (K (.exit 0))) n v.1.2.2.2.2.2.1 v.2.2.1
def zl0 (av : AV) (x : HP z05.ps) : Hdl (CR z05) := hnd [] zn6 (y4s av x)
theorem y5g : LP z05 Tryz.f201 [0] zl0 := lp_ok (W := []) (H := []) (xs := [zh3]) z51 trivial rfl (fun av x v K => by kernel_rfl) (fun av x n v K => by kernel_rfl)
def zn7 : Tmpl := ⟨[(1, .c (.s .I)), (2, .c (.s (.s .item))), (3, .c .i), (4, .c (.bx 4 0)), (9, .c (.ref 18)), (11, .c .i)], [(4, .boxT (.s .net)), (18, .arr .B true)]⟩
def zh4 : Tmpl := ⟨[(1, .c (.s .I)), (3, .c .i), (4, .c (.bx 4 0)), (9, .c (.ref 18))], [(4, .boxT (.s .net)), (18, .arr .B true)]⟩
def y4t (av : AV) (x : HP z05.ps) (n : Nat) (v : zn7.den) (K : Ks (CR z05)) : Option (CR z05) := z0r v.2.1 v.1.2.1 (fun l1_1 => zh4.at none ((v.1.1, v.1.2.2.1, (), (), ()), (v.2.1, l1_1, ())) (K (.exit 2))) n v.1.2.2.2.2.2.1 v.2.2.1
def zl1 (av : AV) (x : HP z05.ps) : Hdl (CR z05) := hnd [] zn7 (y4t av x)
theorem y5h : LP z05 Tryz.f201 [1] zl1 := lp_ok (W := []) (H := [zc7]) (xs := [zh4]) z51 ⟨y2x, trivial⟩ rfl (fun av x v K => by kernel_rfl) (fun av x n v K => by kernel_rfl)
def zn8 : Tmpl := ⟨[(1, .c (.s .I)), (3, .c .i), (4, .c (.bx 4 0)), (14, .c (.ref 76)), (15, .c .i)], [(4, .boxT (.s .net)), (76, .arr .B true)]⟩
def zh5 : Tmpl := ⟨[], []⟩
def y4u (av : AV) (x : HP z05.ps) (n : Nat) (v : zn8.den) (K : Ks (CR z05)) : Option (CR z05) := z1e v.2.1 v.1.1 v.1.2.1 v.2.2.1 (zh5.at none ((), ()) (K (.exit 6))) n v.1.2.2.2.2.1
def zl2 (av : AV) (x : HP z05.ps) : Hdl (CR z05) := hnd [] zn8 (y4u av x)
theorem y5i : LP z05 Tryz.f201 [2] zl2 := lp_ok (W := []) (H := []) (xs := [zh5]) z51 trivial rfl (fun av x v K => by kernel_rfl) (fun av x n v K => by kernel_rfl)
theorem y9s : z05.Ok Tryz.prog := fn_ok (k := z05) (fn := Tryz.f201) (W := []) (H := [zl0, zl1, zl2]) Tryz.func201 z51 ⟨y5g, y5h, y5i, trivial⟩ rfl rfl (fun av x => by kernel_rfl)
def zg1 (n : GNet) (marks : List Int) (busy : List GItem) (t : Int) : Option Bool := (getI n.tasks t).bind fun x1 => ((zb7 marks x1.in_).bind fun x2 => ((getI n.tasks t).bind fun x3 => (if decide (x3.join = 1) = true then (some x2.2) else (if decide (x3.join = 2) = true then (some x2.1) else (if x2.1 = true then (if x2.2 = true then (some true) else ((z7p n marks busy t).bind fun x8 => (some (!x8)))) else (some false))))))
def zy5 : Con := ⟨165, [.v (.s .net) false, .v (.sl .I) false, .v (.sl (.s .item)) false, .v .I false], [(.B, true)], [], fun x => zg1 x.1 x.2.1 x.2.2.1 x.2.2.2.1⟩
def yy2 : Fs := ⟨[z37, z05], [], []⟩
theorem yz3 : yy2.Ok Tryz.prog := (fsK ys4 (fsK y9s fs0))
theorem w0a : zy5.Ok Tryz.prog := fn_ok (k := zy5) (fn := Tryz.f165) (W := []) (H := []) Tryz.func165 yz3 trivial rfl rfl (fun av x => by kernel_rfl)
def zt6  : Option Bool := some true
def z3n (n : GNet) (busy : List GItem) (kx0_0 : Option Bool) : Nat → Int → Option Bool
  | 0, _ => none
  | n0 + 1, s0_0 => if decide (s0_0 < (busy.length : Int)) = true then ((getI busy s0_0).bind fun x3 => (gd (ok64 ((n.tasks.length : Int) - 1)) ((z06 x3.task 0 ((n.tasks.length : Int) - 1)).bind fun x5 => (if x5 = true then ((getI busy s0_0).bind fun x7 => ((z06 x7.who 1 4).bind fun x8 => (if x8 = true then ((getI busy s0_0).bind fun x10 => ((getI busy s0_0).bind fun x11 => ((getI n.tasks x11.task).bind fun x12 => (gd (ok64 (x12.need - 1)) ((z06 x10.did 0 (x12.need - 1)).bind fun x14 => (if x14 = true then (gd (ok64 (s0_0 + 1)) ((z3n n busy kx0_0 n0) (s0_0 + 1))) else (some false))))))) else (some false)))) else (some false))))) else (kx0_0)
def z7o (n : GNet) (busy : List GItem) : Option Bool := if decide (6 < (busy.length : Int)) = true then (some false) else (z3n n busy zt6 FUEL 0)
def z2o : Con := ⟨88, [.v (.s .net) false, .v (.sl (.s .item)) false], [(.B, true)], [], fun x => z7o x.1 x.2.1⟩
def yo0 : Fs := ⟨[z0s], [], []⟩
theorem y3n : yo0.Ok Tryz.prog := (fsK z17 fs0)
def y0i : Tmpl := ⟨[(1, .c (.s (.s .item))), (2, .c (.bx 2 0)), (5, .c .i)], [(2, .boxT (.s .net))]⟩
def zv5 : Tmpl := ⟨[], []⟩
def y87 (av : AV) (x : HP z2o.ps) (n : Nat) (v : y0i.den) (K : Ks (CR z2o)) : Option (CR z2o) := z3n v.2.1 v.1.1 (zv5.at none ((), ()) (K (.exit 0))) n v.1.2.2.1
def zy2 (av : AV) (x : HP z2o.ps) : Hdl (CR z2o) := hnd [] y0i (y87 av x)
theorem y9d : LP z2o Tryz.f88 [0] zy2 := lp_ok (W := []) (H := []) (xs := [zv5]) y3n trivial rfl (fun av x v K => by kernel_rfl) (fun av x n v K => by kernel_rfl)
theorem y45 : z2o.Ok Tryz.prog := fn_ok (k := z2o) (fn := Tryz.f88) (W := []) (H := [zy2]) Tryz.func88 y3n ⟨y9d, trivial⟩ rfl rfl (fun av x => by kernel_rfl)
def z7b (n : GNet) (marks : List Int) (busy : List GItem) (t : Int) : Option Bool := (z59 n marks).bind fun x1 => (if x1 = true then ((z7o n busy).bind fun x3 => (if x3 = true then (gd (ok64 ((n.tasks.length : Int) - 1)) ((z06 t 0 ((n.tasks.length : Int) - 1)).bind fun x6 => (if x6 = true then ((zg1 n marks busy t).bind fun x8 => (some x8)) else (some false)))) else (some false))) else (some false))
def za2 : Con := ⟨100, [.v (.s .net) false, .v (.sl .I) false, .v (.sl (.s .item)) false, .v .I false], [(.B, true)], [], fun x => z7b x.1 x.2.1 x.2.2.1 x.2.2.2.1⟩
def yn3 : Fs := ⟨[z25, z2o, z0s, zy5], [], []⟩
theorem yp3 : yn3.Ok Tryz.prog := (fsK zg3 (fsK y45 (fsK z17 (fsK w0a fs0))))
theorem y42 : za2.Ok Tryz.prog := fn_ok (k := za2) (fn := Tryz.f100) (W := []) (H := []) Tryz.func100 yp3 trivial rfl rfl (fun av x => by kernel_rfl)
def z7c (l0_1 : List Int) : Option (List Int) := some l0_1
def z1x (n : GNet) (marks : List Int) (busy : List GItem) (kx0_0 : List Int → Option (List Int)) : Nat → Int → List Int → Option (List Int)
  | 0, _, _ => none
  | n0 + 1, s0_0, l0_1 => if decide (s0_0 < (n.tasks.length : Int)) = true then ((z7b n marks busy s0_0).bind fun x2 => (if x2 = true then (gd (l0_1.length + [s0_0].length ≤ SMALL) (gd (ok64 (s0_0 + 1)) ((z1x n marks busy kx0_0 n0) (s0_0 + 1) (l0_1 ++ [s0_0])))) else (gd (ok64 (s0_0 + 1)) ((z1x n marks busy kx0_0 n0) (s0_0 + 1) l0_1)))) else (kx0_0 l0_1)
def z48 (n : GNet) (marks : List Int) (busy : List GItem) : Option (List Int) := z1x n marks busy z7c FUEL 0 ([] : List Int)
def z1h : Con := ⟨99, [.v (.s .net) false, .v (.sl .I) false, .v (.sl (.s .item)) false], [((.sl .I), true)], [], fun x => z48 x.1 x.2.1 x.2.2.1⟩
def y8m : Fs := ⟨[za2], [], []⟩
theorem zx3 : y8m.Ok Tryz.prog := (fsK y42 fs0)
def zn1 : Tmpl := ⟨[(1, .c (.s .I)), (2, .c (.s (.s .item))), (3, .c (.bx 3 0)), (7, .c (.ref 9)), (8, .c .i)], [(3, .boxT (.s .net)), (9, .arr .I true)]⟩
def zg8 : Tmpl := ⟨[(7, .c (.ref 9))], [(9, .arr .I true)]⟩
def y4n (av : AV) (x : HP z1h.ps) (n : Nat) (v : zn1.den) (K : Ks (CR z1h)) : Option (CR z1h) := z1x v.2.1 v.1.1 v.1.2.1 (fun l0_1 => zg8.at none (((), ()), (l0_1, ())) (K (.exit 0))) n v.1.2.2.2.2.1 v.2.2.1
def zk5 (av : AV) (x : HP z1h.ps) : Hdl (CR z1h) := hnd [] zn1 (y4n av x)
theorem y5b : LP z1h Tryz.f99 [0] zk5 := lp_ok (W := []) (H := []) (xs := [zg8]) zx3 trivial rfl (fun av x v K => by kernel_rfl) (fun av x n v K => by kernel_rfl)
theorem y05 : z1h.Ok Tryz.prog := fn_ok (k := z1h) (fn := Tryz.f99) (W := []) (H := [zk5]) Tryz.func99 zx3 ⟨y5b, trivial⟩ rfl rfl (fun av x => by kernel_rfl)
def zl6 (l0_1 : List Int) (x10 : Int) (x13 : Int) : Option (List Int) := some (l0_1.set x10.toNat (x13 - 1))
def zl7 (l0_1 : List Int) : Option (List Int) := some l0_1
def z2a (n : GNet) (t : Int) (kx0_0 : List Int → Int → Int → Option (List Int)) (kx0_1 : List Int → Option (List Int)) : Nat → Int → List Int → Option (List Int)
  | 0, _, _ => none
  | n0 + 1, s0_0, l0_1 => (getI n.tasks t).bind fun x7 => (if decide (s0_0 < (x7.in_.length : Int)) = true then ((getI n.tasks t).bind fun x9 => ((getI x9.in_ s0_0).bind fun x10 => ((getI l0_1 x10).bind fun x11 => (if decide (0 < x11) = true then ((getI l0_1 x10).bind fun x13 => (gd (ok64 (x13 - 1)) ((getI l0_1 x10).bind fun x15 => ((getI n.tasks t).bind fun x16 => (if decide (x16.join = 2) = true then (kx0_0 l0_1 x10 x13) else (gd (ok64 (s0_0 + 1)) ((z2a n t kx0_0 kx0_1 n0) (s0_0 + 1) (l0_1.set x10.toNat (x13 - 1))))))))) else (gd (ok64 (s0_0 + 1)) ((z2a n t kx0_0 kx0_1 n0) (s0_0 + 1) l0_1)))))) else (kx0_1 l0_1))
def z8p (n : GNet) (marks : List Int) (t : Int) : Option (List Int) := (z59 n marks).bind fun x1 => (if x1 = true then (gd (ok64 ((n.tasks.length : Int) - 1)) ((z06 t 0 ((n.tasks.length : Int) - 1)).bind fun x4 => (if x4 = true then (gd (([] : List Int).length + marks.length ≤ SMALL) (z2a n t zl6 zl7 FUEL 0 (([] : List Int) ++ marks))) else (some ([] : List Int))))) else (some ([] : List Int)))
def z2i : Con := ⟨103, [.v (.s .net) false, .v (.sl .I) false, .v .I false], [((.sl .I), true)], [], fun x => z8p x.1 x.2.1 x.2.2.1⟩
def yd9 : Fs := ⟨[z25, z0s], [], []⟩
theorem y1j : yd9.Ok Tryz.prog := (fsK zg3 (fsK z17 fs0))
def zu0 : Tmpl := ⟨[(2, .c .i), (3, .c (.bx 3 0)), (7, .c (.ref 26)), (8, .c .i)], [(3, .boxT (.s .net)), (26, .arr .I true)]⟩
def z8l : Tmpl := ⟨[(7, .c (.ref 26))], [(26, .arr .I true)]⟩
def y6s (av : AV) (x : HP z2i.ps) (n : Nat) (v : zu0.den) (K : Ks (CR z2i)) : Option (CR z2i) := z2a v.2.1 v.1.1 (fun l0_1 x10 x13 => z8l.at none (((), ()), ((l0_1.set x10.toNat (x13 - 1)), ())) (K (.exit 0))) (fun l0_1 => z8l.at none (((), ()), (l0_1, ())) (K (.exit 0))) n v.1.2.2.2.1 v.2.2.1
def zs2 (av : AV) (x : HP z2i.ps) : Hdl (CR z2i) := hnd [] zu0 (y6s av x)
theorem y7c : LP z2i Tryz.f103 [0] zs2 := lp_ok (W := []) (H := []) (xs := [z8l]) y1j trivial rfl (fun av x v K => by kernel_rfl) (fun av x n v K => by kernel_rfl)
theorem yh5 : z2i.Ok Tryz.prog := fn_ok (k := z2i) (fn := Tryz.f103) (W := []) (H := [zs2]) Tryz.func103 y1j ⟨y7c, trivial⟩ rfl rfl (fun av x => by kernel_rfl)
def z56 (who : Int) : Option Bool := (z0u who 1 4).bind fun x1 => (some x1)
def z6x : Con := ⟨97, [.v .I false], [(.B, true)], [], fun x => z56 x.1⟩
def y8j : Fs := ⟨[z2q], [], []⟩
theorem y90 : y8j.Ok Tryz.prog := (fsK z3e fs0)
theorem y03 : z6x.Ok Tryz.prog := fn_ok (k := z6x) (fn := Tryz.f97) (W := []) (H := []) Tryz.func97 y90 trivial rfl rfl (fun av x => by kernel_rfl)
def z7e (l0_1 : List Int) (x8 : GFlow) : Option (List Int) := some (l0_1 ++ [x8.to])
def z7f (l0_1 : List Int) (x13 : GFlow) : Option (List Int) := some (l0_1 ++ [x13.to])
def z7g (l0_1 : List Int) (x18 : GFlow) : Option (List Int) := some (l0_1 ++ [x18.to])
def zd6 (l0_1 : List Int) : Option (List Int) := some l0_1
def z16 (t : GTask) (data : List Int) (kx0_0 : List Int → GFlow → Option (List Int)) (kx0_1 : List Int → GFlow → Option (List Int)) (kx0_2 : List Int → GFlow → Option (List Int)) (kx0_3 : List Int → Option (List Int)) : Nat → Int → List Int → Option (List Int)
  | 0, _, _ => none
  | n0 + 1, s0_0, l0_1 => if decide (s0_0 < (t.out.length : Int)) = true then ((getI t.out s0_0).bind fun x2 => ((z7d x2.if_ data).bind fun x3 => (if x3 = true then (if decide (t.split = 3) = true then (gd (ok64 ((t.out.length : Int) - 1)) (if decide (s0_0 < ((t.out.length : Int) - 1)) = true then ((getI t.out s0_0).bind fun x8 => (gd (l0_1.length + [x8.to].length ≤ SMALL) (if decide (t.split = 2) = true then (kx0_0 l0_1 x8) else (gd (ok64 (s0_0 + 1)) ((z16 t data kx0_0 kx0_1 kx0_2 kx0_3 n0) (s0_0 + 1) (l0_1 ++ [x8.to])))))) else (if decide ((l0_1.length : Int) = 0) = true then ((getI t.out s0_0).bind fun x13 => (gd (l0_1.length + [x13.to].length ≤ SMALL) (if decide (t.split = 2) = true then (kx0_1 l0_1 x13) else (gd (ok64 (s0_0 + 1)) ((z16 t data kx0_0 kx0_1 kx0_2 kx0_3 n0) (s0_0 + 1) (l0_1 ++ [x13.to])))))) else (gd (ok64 (s0_0 + 1)) ((z16 t data kx0_0 kx0_1 kx0_2 kx0_3 n0) (s0_0 + 1) l0_1))))) else ((getI t.out s0_0).bind fun x18 => (gd (l0_1.length + [x18.to].length ≤ SMALL) (if decide (t.split = 2) = true then (kx0_2 l0_1 x18) else (gd (ok64 (s0_0 + 1)) ((z16 t data kx0_0 kx0_1 kx0_2 kx0_3 n0) (s0_0 + 1) (l0_1 ++ [x18.to]))))))) else (gd (ok64 (s0_0 + 1)) ((z16 t data kx0_0 kx0_1 kx0_2 kx0_3 n0) (s0_0 + 1) l0_1))))) else (kx0_3 l0_1)
def zf7 (t : GTask) (data : List Int) : Option (List Int) := z16 t data z7e z7f z7g zd6 FUEL 0 ([] : List Int)
def z3r : Con := ⟨205, [.v (.s .task) false, .v (.sl .I) false], [((.sl .I), true)], [], fun x => zf7 x.1 x.2.1⟩
def yy0 : Fs := ⟨[zd3], [], []⟩
theorem y65 : yy0.Ok Tryz.prog := (fsK y9o fs0)
def y2d : Tmpl := ⟨[(1, .c (.s .I)), (2, .c (.bx 2 0)), (5, .c (.ref 7)), (6, .c .i)], [(2, .boxT (.s .task)), (7, .arr .I true)]⟩
def z5e : Tmpl := ⟨[(5, .c (.ref 49))], [(49, .arr .I true)]⟩
def yc8 (av : AV) (x : HP z3r.ps) (n : Nat) (v : y2d.den) (K : Ks (CR z3r)) : Option (CR z3r) := z16 v.2.1 v.1.1 (fun l0_1 x8 => z5e.at none (((), ()), ((l0_1 ++ [x8.to]), ())) (K (.exit 0))) (fun l0_1 x13 => z5e.at none (((), ()), ((l0_1 ++ [x13.to]), ())) (K (.exit 0))) (fun l0_1 x18 => z5e.at none (((), ()), ((l0_1 ++ [x18.to]), ())) (K (.exit 0))) (fun l0_1 => z5e.at none (((), ()), (l0_1, ())) (K (.exit 0))) n v.1.2.2.2.1 v.2.2.1
def y1x (av : AV) (x : HP z3r.ps) : Hdl (CR z3r) := hnd [] y2d (yc8 av x)
theorem yg6 : LP z3r Tryz.f205 [0] y1x := lp_ok (W := []) (H := []) (xs := [z5e]) y65 trivial rfl (fun av x v K => by kernel_rfl) (fun av x n v K => by kernel_rfl)
theorem w09 : z3r.Ok Tryz.prog := fn_ok (k := z3r) (fn := Tryz.f205) (W := []) (H := [y1x]) Tryz.func205 y65 ⟨yg6, trivial⟩ rfl rfl (fun av x => by kernel_rfl)
def z5k (l1_1 : List Int) : Option ((List Int) × Bool) := some (l1_1, true)
def z3b (x16 : (List Int)) (kx1_0 : List Int → Option ((List Int) × Bool)) : Nat → Int → List Int → Option ((List Int) × Bool)
  | 0, _, _ => none
  | n1 + 1, s1_0, l1_1 => if decide (s1_0 < (x16.length : Int)) = true then ((getI x16 s1_0).bind fun x18 => ((getI l1_1 x18).bind fun x19 => (if decide (x19 = 4) = true then (some (([] : List Int), false)) else ((getI x16 s1_0).bind fun x21 => ((getI x16 s1_0).bind fun x22 => ((getI l1_1 x22).bind fun x23 => (gd (ok64 (x23 + 1)) ((getI l1_1 x21).bind fun x25 => (gd (ok64 (s1_0 + 1)) ((z3b x16 kx1_0 n1) (s1_0 + 1) (l1_1.set x21.toNat (x23 + 1)))))))))))) else (kx1_0 l1_1)
def z5j (n : GNet) (t : Int) (data : List Int) (l0_1 : List Int) : Option ((List Int) × Bool) := (getI n.tasks t).bind fun x15 => ((zf7 x15 data).bind fun x16 => (z3b x16 z5k FUEL 0 l0_1))
def z3a (n : GNet) (t : Int) (kx0_0 : List Int → Option ((List Int) × Bool)) : Nat → Int → List Int → Option ((List Int) × Bool)
  | 0, _, _ => none
  | n0 + 1, s0_0, l0_1 => (getI n.tasks t).bind fun x9 => (if decide (s0_0 < (x9.clear.length : Int)) = true then ((getI n.tasks t).bind fun x11 => ((getI x11.clear s0_0).bind fun x12 => ((getI l0_1 x12).bind fun x13 => (gd (ok64 (s0_0 + 1)) ((z3a n t kx0_0 n0) (s0_0 + 1) (l0_1.set x12.toNat 0)))))) else (kx0_0 l0_1))
def z8q (n : GNet) (marks : List Int) (t : Int) (data : List Int) : Option ((List Int) × Bool) := (z59 n marks).bind fun x1 => (if x1 = true then (gd (ok64 ((n.tasks.length : Int) - 1)) ((z06 t 0 ((n.tasks.length : Int) - 1)).bind fun x4 => (if x4 = true then ((z4e data).bind fun x6 => (if x6 = true then (gd (([] : List Int).length + marks.length ≤ SMALL) (z3a n t (z5j n t data) FUEL 0 (([] : List Int) ++ marks))) else (some (([] : List Int), false)))) else (some (([] : List Int), false))))) else (some (([] : List Int), false)))
def z0l : Con := ⟨172, [.v (.s .net) false, .v (.sl .I) false, .v .I false, .v (.sl .I) false], [((.sl .I), true), (.B, true)], [], fun x => z8q x.1 x.2.1 x.2.2.1 x.2.2.2.1⟩
def ye0 : Fs := ⟨[z25, z0s, z1n, z3r], [], []⟩
theorem zh8 : ye0.Ok Tryz.prog := (fsK zg3 (fsK z17 (fsK z99 (fsK w09 fs0))))
def zu1 : Tmpl := ⟨[(2, .c .i), (3, .c (.s .I)), (4, .c (.bx 4 0)), (10, .c (.ref 35)), (11, .c .i)], [(4, .boxT (.s .net)), (35, .arr .I true)]⟩
def zo1 : Tmpl := ⟨[(2, .c .i), (3, .c (.s .I)), (4, .c (.bx 4 0)), (10, .c (.ref 35))], [(4, .boxT (.s .net)), (35, .arr .I true)]⟩
def y6t (av : AV) (x : HP z0l.ps) (n : Nat) (v : zu1.den) (K : Ks (CR z0l)) : Option (CR z0l) := z3a v.2.1 v.1.1 (fun l0_1 => zo1.at none ((v.1.1, v.1.2.1, (), (), ()), (v.2.1, l0_1, ())) (K (.exit 0))) n v.1.2.2.2.2.1 v.2.2.1
def zs3 (av : AV) (x : HP z0l.ps) : Hdl (CR z0l) := hnd [] zu1 (y6t av x)
theorem y7d : LP z0l Tryz.f172 [0] zs3 := lp_ok (W := []) (H := []) (xs := [zo1]) zh8 trivial rfl (fun av x v K => by kernel_rfl) (fun av x n v K => by kernel_rfl)
def zu2 : Tmpl := ⟨[(10, .c (.ref 35)), (12, .c (.ref 64)), (13, .c .i)], [(35, .arr .I true), (64, .arr .I true)]⟩
def zo2 : Tmpl := ⟨[(10, .c (.ref 35))], [(35, .arr .I true)]⟩
def y6u (av : AV) (x : HP z0l.ps) (n : Nat) (v : zu2.den) (K : Ks (CR z0l)) : Option (CR z0l) := z3b v.2.2.1 (fun l1_1 => zo2.at none (((), ()), (l1_1, ())) (K (.exit 2))) n v.1.2.2.1 v.2.1
def zs4 (av : AV) (x : HP z0l.ps) : Hdl (CR z0l) := hnd [] zu2 (y6u av x)
theorem y7e : LP z0l Tryz.f172 [1] zs4 := lp_ok (W := []) (H := []) (xs := [zo2]) zh8 trivial rfl (fun av x v K => by kernel_rfl) (fun av x n v K => by kernel_rfl)
theorem yh6 : z0l.Ok Tryz.prog := fn_ok (k := z0l) (fn := Tryz.f172) (W := []) (H := [zs3, zs4]) Tryz.func172 zh8 ⟨y7d, y7e, trivial⟩ rfl rfl (fun av x => by kernel_rfl)
def zz6  : Option Bool := some true
def z4b (people : List Int) (kx0_0 : Option Bool) : Nat → Int → Option Bool
  | 0, _ => none
  | n0 + 1, s0_0 => if decide (s0_0 < (people.length : Int)) = true then ((getI people s0_0).bind fun x4 => ((z06 x4 0 7).bind fun x5 => (if x5 = true then (gd (ok64 (s0_0 + 1)) ((z4b people kx0_0 n0) (s0_0 + 1))) else (some false)))) else (kx0_0)
def z98 (people : List Int) : Option Bool := (z06 (people.length : Int) 1 4).bind fun x1 => (if x1 = true then (z4b people zz6 FUEL 0) else (some false))
def z38 : Con := ⟨44, [.v (.sl .I) false], [(.B, true)], [], fun x => z98 x.1⟩
def yx9 : Fs := ⟨[z0s], [], []⟩
theorem y64 : yx9.Ok Tryz.prog := (fsK z17 fs0)
def y2c : Tmpl := ⟨[(0, .c (.s .I)), (3, .c .i)], []⟩
def y0r : Tmpl := ⟨[], []⟩
def yc7 (av : AV) (x : HP z38.ps) (n : Nat) (v : y2c.den) (K : Ks (CR z38)) : Option (CR z38) := z4b v.1.1 (y0r.at none ((), ()) (K (.exit 0))) n v.1.2.1
def y1w (av : AV) (x : HP z38.ps) : Hdl (CR z38) := hnd [] y2c (yc7 av x)
theorem yg5 : LP z38 Tryz.f44 [0] y1w := lp_ok (W := []) (H := []) (xs := [y0r]) y64 trivial rfl (fun av x v K => by kernel_rfl) (fun av x n v K => by kernel_rfl)
theorem y6i : z38.Ok Tryz.prog := fn_ok (k := z38) (fn := Tryz.f44) (W := []) (H := [y1w]) Tryz.func44 y64 ⟨yg5, trivial⟩ rfl rfl (fun av x => by kernel_rfl)
def z3l (s0_0 : Int) : Option Bool := gd ((2 : Int) ≠ 0) (some (decide ((Int.tmod s0_0 2) = 1)))
def z1j (role : Int) (kx0_0 : Int → Option Bool) : Nat → Int → Int → Option Bool
  | 0, _, _ => none
  | n0 + 1, s0_0, s0_1 => if decide (s0_1 < role) = true then (gd ((2 : Int) ≠ 0 ∧ ok64 (Int.tdiv s0_0 2)) (gd (ok64 (s0_1 + 1)) ((z1j role kx0_0 n0) (Int.tdiv s0_0 2) (s0_1 + 1)))) else (kx0_0 s0_0)
def zb4 (people : List Int) (who : Int) (role : Int) : Option Bool := (z98 people).bind fun x1 => (if x1 = true then ((z06 who 1 (people.length : Int)).bind fun x3 => (if x3 = true then ((z06 role 1 3).bind fun x5 => (if x5 = true then (gd (ok64 (who - 1)) ((getI people (who - 1)).bind fun x8 => (z1j role z3l FUEL x8 1))) else (some false))) else (some false))) else (some false))
def z36 : Con := ⟨166, [.v (.sl .I) false, .v .I false, .v .I false], [(.B, true)], [], fun x => zb4 x.1 x.2.1 x.2.2.1⟩
def yn5 : Fs := ⟨[z38, z0s], [], []⟩
theorem y3m : yn5.Ok Tryz.prog := (fsK y6i (fsK z17 fs0))
def y0g : Tmpl := ⟨[(2, .c .i), (7, .c .i), (8, .c .i)], []⟩
def zv3 : Tmpl := ⟨[(7, .c .i)], []⟩
def y85 (av : AV) (x : HP z36.ps) (n : Nat) (v : y0g.den) (K : Ks (CR z36)) : Option (CR z36) := z1j v.1.1 (fun s0_0 => zv3.at none ((s0_0, ()), ()) (K (.exit 0))) n v.1.2.1 v.1.2.2.1
def zy0 (av : AV) (x : HP z36.ps) : Hdl (CR z36) := hnd [] y0g (y85 av x)
theorem y9b : LP z36 Tryz.f166 [0] zy0 := lp_ok (W := []) (H := []) (xs := [zv3]) y3m trivial rfl (fun av x v K => by kernel_rfl) (fun av x n v K => by kernel_rfl)
theorem ys1 : z36.Ok Tryz.prog := fn_ok (k := z36) (fn := Tryz.f166) (W := []) (H := [zy0]) Tryz.func166 y3m ⟨y9b, trivial⟩ rfl rfl (fun av x => by kernel_rfl)
def zt4  : Option Bool := some false
def z32 (did : List GDid) (who : Int) (task : Int) (kx0_0 : Option Bool) : Nat → Int → Option Bool
  | 0, _ => none
  | n0 + 1, s0_0 => if decide (s0_0 < (did.length : Int)) = true then ((getI did s0_0).bind fun x2 => (if decide (x2.who = who) = true then ((getI did s0_0).bind fun x4 => (if decide (x4.task = task) = true then (some true) else (gd (ok64 (s0_0 + 1)) ((z32 did who task kx0_0 n0) (s0_0 + 1))))) else (gd (ok64 (s0_0 + 1)) ((z32 did who task kx0_0 n0) (s0_0 + 1))))) else (kx0_0)
def zb3 (did : List GDid) (who : Int) (task : Int) : Option Bool := z32 did who task zt4 FUEL 0
def z35 : Con := ⟨167, [.v (.sl (.s .did)) false, .v .I false, .v .I false], [(.B, true)], [], fun x => zb3 x.1 x.2.1 x.2.2.1⟩
def yn4 : Fs := ⟨[], [], []⟩
theorem y3l : yn4.Ok Tryz.prog := fs0
def y0f : Tmpl := ⟨[(0, .c (.s (.s .did))), (1, .c .i), (2, .c .i), (7, .c .i)], []⟩
def zv2 : Tmpl := ⟨[], []⟩
def y84 (av : AV) (x : HP z35.ps) (n : Nat) (v : y0f.den) (K : Ks (CR z35)) : Option (CR z35) := z32 v.1.1 v.1.2.1 v.1.2.2.1 (zv2.at none ((), ()) (K (.exit 0))) n v.1.2.2.2.1
def zx9 (av : AV) (x : HP z35.ps) : Hdl (CR z35) := hnd [] y0f (y84 av x)
theorem y9a : LP z35 Tryz.f167 [0] zx9 := lp_ok (W := []) (H := []) (xs := [zv2]) y3l trivial rfl (fun av x v K => by kernel_rfl) (fun av x n v K => by kernel_rfl)
theorem ys0 : z35.Ok Tryz.prog := fn_ok (k := z35) (fn := Tryz.f167) (W := []) (H := [zx9]) Tryz.func167 y3l ⟨y9a, trivial⟩ rfl rfl (fun av x => by kernel_rfl)
def zt5 (n : GNet) (people : List Int) (did : List GDid) (t : Int) (s0_0 : Int) (l0_1 : List Int) (bk0 : Int → List Int → Option (List Int)) (s1_0 : Bool) : Option (List Int) := (getI n.tasks t).bind fun x18 => ((zb4 people s0_0 x18.role).bind fun x19 => (if x19 = true then (if s1_0 = true then (gd (ok64 (s0_0 + 1)) (bk0 (s0_0 + 1) l0_1)) else ((getI n.tasks t).bind fun x23 => ((zb3 did s0_0 x23.apart).bind fun x24 => (if x24 = true then (gd (ok64 (s0_0 + 1)) (bk0 (s0_0 + 1) l0_1)) else (gd (l0_1.length + [s0_0].length ≤ SMALL) (gd (ok64 (s0_0 + 1)) (bk0 (s0_0 + 1) (l0_1 ++ [s0_0])))))))) else (gd (ok64 (s0_0 + 1)) (bk0 (s0_0 + 1) l0_1))))
def z1k (n : GNet) (busy : List GItem) (t : Int) (s0_0 : Int) (kx1_0 : Bool → Option (List Int)) : Nat → Bool → Int → Option (List Int)
  | 0, _, _ => none
  | n1 + 1, s1_0, s1_1 => if decide (s1_1 < (busy.length : Int)) = true then (if s1_0 = true then (gd (ok64 (s1_1 + 1)) ((z1k n busy t s0_0 kx1_0 n1) true (s1_1 + 1))) else ((getI busy s1_1).bind fun x12 => (if decide (x12.who = s0_0) = true then ((getI busy s1_1).bind fun x14 => ((getI n.tasks t).bind fun x15 => (gd (ok64 (s1_1 + 1)) ((z1k n busy t s0_0 kx1_0 n1) (decide (x14.task = x15.apart)) (s1_1 + 1))))) else (gd (ok64 (s1_1 + 1)) ((z1k n busy t s0_0 kx1_0 n1) false (s1_1 + 1)))))) else (kx1_0 s1_0)
def z9g (l0_1 : List Int) : Option (List Int) := some l0_1
def z3m (n : GNet) (people : List Int) (did : List GDid) (busy : List GItem) (t : Int) (kx0_0 : List Int → Option (List Int)) : Nat → Int → List Int → Option (List Int)
  | 0, _, _ => none
  | n0 + 1, s0_0, l0_1 => if decide (s0_0 ≤ (people.length : Int)) = true then (z1k n busy t s0_0 (zt5 n people did t s0_0 l0_1 (z3m n people did busy t kx0_0 n0)) FUEL false 0) else (kx0_0 l0_1)
def z5l (n : GNet) (people : List Int) (did : List GDid) (busy : List GItem) (t : Int) : Option (List Int) := (z2s n).bind fun x1 => (if x1 = true then ((z98 people).bind fun x3 => (if x3 = true then (gd (ok64 ((n.tasks.length : Int) - 1)) ((z06 t 0 ((n.tasks.length : Int) - 1)).bind fun x6 => (if x6 = true then (z3m n people did busy t z9g FUEL 1 ([] : List Int)) else (some ([] : List Int))))) else (some ([] : List Int)))) else (some ([] : List Int)))
def z0p : Con := ⟨102, [.v (.s .net) false, .v (.sl .I) false, .v (.sl (.s .did)) false, .v (.sl (.s .item)) false, .v .I false], [((.sl .I), true)], [], fun x => z5l x.1 x.2.1 x.2.2.1 x.2.2.2.1 x.2.2.2.2.1⟩
def yn6 : Fs := ⟨[z26, z38, z0s, z36, z35], [], []⟩
theorem zp8 : yn6.Ok Tryz.prog := (fsK zg4 (fsK y6i (fsK z17 (fsK ys1 (fsK ys0 fs0)))))
def zn2 : Tmpl := ⟨[(1, .c (.s .I)), (2, .c (.s (.s .did))), (3, .c (.s (.s .item))), (4, .c .i), (5, .c (.bx 5 0)), (11, .c (.ref 15)), (12, .c .i), (13, .c .b), (14, .c .i)], [(5, .boxT (.s .net)), (15, .arr .I true)]⟩
def zg9 : Tmpl := ⟨[(1, .c (.s .I)), (2, .c (.s (.s .did))), (3, .c (.s (.s .item))), (4, .c .i), (5, .c (.bx 5 0)), (11, .c (.ref 15)), (12, .c .i), (13, .c .b)], [(5, .boxT (.s .net)), (15, .arr .I true)]⟩
def y4o (av : AV) (x : HP z0p.ps) (n : Nat) (v : zn2.den) (K : Ks (CR z0p)) : Option (CR z0p) := z1k v.2.1 v.1.2.2.1 v.1.2.2.2.1 v.1.2.2.2.2.2.2.1 (fun s1_0 => zg9.at none ((v.1.1, v.1.2.1, v.1.2.2.1, v.1.2.2.2.1, (), (), v.1.2.2.2.2.2.2.1, s1_0, ()), (v.2.1, v.2.2.1, ())) (K (.exit 2))) n v.1.2.2.2.2.2.2.2.1 v.1.2.2.2.2.2.2.2.2.1
def zk6 (av : AV) (x : HP z0p.ps) : Hdl (CR z0p) := hnd [] zn2 (y4o av x)
theorem y5c : LP z0p Tryz.f102 [0, 0] zk6 := lp_ok (W := []) (H := []) (xs := [zg9]) zp8 trivial rfl (fun av x v K => by kernel_rfl) (fun av x n v K => by kernel_rfl)
def y0h : Tmpl := ⟨[(1, .c (.s .I)), (2, .c (.s (.s .did))), (3, .c (.s (.s .item))), (4, .c .i), (5, .c (.bx 5 0)), (11, .c (.ref 15)), (12, .c .i)], [(5, .boxT (.s .net)), (15, .arr .I true)]⟩
def zv4 : Tmpl := ⟨[(11, .c (.ref 15))], [(15, .arr .I true)]⟩
def y86 (av : AV) (x : HP z0p.ps) (n : Nat) (v : y0h.den) (K : Ks (CR z0p)) : Option (CR z0p) := z3m v.2.1 v.1.1 v.1.2.1 v.1.2.2.1 v.1.2.2.2.1 (fun l0_1 => zv4.at none (((), ()), (l0_1, ())) (K (.exit 0))) n v.1.2.2.2.2.2.2.1 v.2.2.1
def zy1 (av : AV) (x : HP z0p.ps) : Hdl (CR z0p) := hnd [] y0h (y86 av x)
theorem y9c : LP z0p Tryz.f102 [0] zy1 := lp_ok (W := []) (H := [zk6]) (xs := [zv4]) zp8 ⟨y5c, trivial⟩ rfl (fun av x v K => by kernel_rfl) (fun av x n v K => by kernel_rfl)
theorem y43 : z0p.Ok Tryz.prog := fn_ok (k := z0p) (fn := Tryz.f102) (W := []) (H := [zy1]) Tryz.func102 zp8 ⟨y9c, trivial⟩ rfl rfl (fun av x => by kernel_rfl)
def zb1 (n : GNet) (data : List Int) : Option GCase := (z2s n).bind fun x1 => (if x1 = true then ((z4e data).bind fun x3 => (if x3 = true then (gd ((0 : Int) ≤ n.places ∧ n.places ≤ (1000000000 : Int)) (gd (([] : List Int).length + data.length ≤ SMALL) ((getI (List.replicate n.places.toNat (0 : Int)) 0).bind fun x7 => (some (GCase.mk 1 ((List.replicate n.places.toNat (0 : Int)).set (0 : Int).toNat 1) [] (([] : List Int) ++ data) []))))) else (some (GCase.mk 0 [] [] [] [])))) else (some (GCase.mk 0 [] [] [] [])))
def zq5 : Con := ⟨155, [.v (.s .net) false, .v (.sl .I) false], [((.s .kase), true)], [], fun x => zb1 x.1 x.2.1⟩
def yn1 : Fs := ⟨[z26, z1n], [], []⟩
theorem yp1 : yn1.Ok Tryz.prog := (fsK zg4 (fsK z99 fs0))
theorem yr8 : zq5.Ok Tryz.prog := fn_ok (k := zq5) (fn := Tryz.f155) (W := []) (H := []) Tryz.func155 yp1 trivial rfl rfl (fun av x => by kernel_rfl)
def z79 (c : GCase) : Option Bool := if decide (c.state = 1) = true then ((getI c.marks 1).bind fun x20 => (some (decide (x20 = 0)))) else (if decide ((c.busy.length : Int) = 0) = true then ((getI c.marks 1).bind fun x22 => (some ((decide (c.state = 2)) == (decide (0 < x22))))) else (some false))
def z46 (n : GNet) (c : GCase) (kx0_0 : Option Bool) : Nat → Int → Option Bool
  | 0, _ => none
  | n0 + 1, s0_0 => if decide (s0_0 < (c.did.length : Int)) = true then ((getI c.did s0_0).bind fun x11 => (gd (ok64 ((n.tasks.length : Int) - 1)) ((z06 x11.task 0 ((n.tasks.length : Int) - 1)).bind fun x13 => (if x13 = true then ((getI c.did s0_0).bind fun x15 => ((z06 x15.who 1 4).bind fun x16 => (if x16 = true then (gd (ok64 (s0_0 + 1)) ((z46 n c kx0_0 n0) (s0_0 + 1))) else (some false)))) else (some false))))) else (kx0_0)
def z57 (n : GNet) (c : GCase) : Option Bool := (z59 n c.marks).bind fun x1 => (if x1 = true then ((z7o n c.busy).bind fun x3 => (if x3 = true then ((z4e c.data).bind fun x5 => (if x5 = true then (if decide (60 < (c.did.length : Int)) = true then (some false) else ((z06 c.state 1 3).bind fun x8 => (if x8 = true then (z46 n c (z79 c) FUEL 0) else (some false)))) else (some false))) else (some false))) else (some false))
def z24 : Con := ⟨25, [.v (.s .net) false, .v (.s .kase) false], [(.B, true)], [], fun x => z57 x.1 x.2.1⟩
def yx4 : Fs := ⟨[z25, z2o, z1n, z0s], [], []⟩
theorem y60 : yx4.Ok Tryz.prog := (fsK zg3 (fsK y45 (fsK z99 (fsK z17 fs0))))
def y28 : Tmpl := ⟨[(2, .c (.bx 2 0)), (3, .c (.bx 3 0)), (5, .c .i)], [(2, .boxT (.s .net)), (3, .boxT (.s .kase))]⟩
def y0n : Tmpl := ⟨[(3, .c (.bx 3 0))], [(3, .boxT (.s .kase))]⟩
def yc3 (av : AV) (x : HP z24.ps) (n : Nat) (v : y28.den) (K : Ks (CR z24)) : Option (CR z24) := z46 v.2.1 v.2.2.1 (y0n.at none (((), ()), (v.2.2.1, ())) (K (.exit 0))) n v.1.2.2.1
def y1s (av : AV) (x : HP z24.ps) : Hdl (CR z24) := hnd [] y28 (yc3 av x)
theorem yg1 : LP z24 Tryz.f25 [0] y1s := lp_ok (W := []) (H := []) (xs := [y0n]) y60 trivial rfl (fun av x v K => by kernel_rfl) (fun av x n v K => by kernel_rfl)
theorem zg2 : z24.Ok Tryz.prog := fn_ok (k := z24) (fn := Tryz.f25) (W := []) (H := [y1s]) Tryz.func25 y60 ⟨yg1, trivial⟩ rfl rfl (fun av x => by kernel_rfl)
def z5o (c : GCase) : Option GCase := gd (([] : List Int).length + c.marks.length ≤ SMALL) (gd (([] : List GItem).length + c.busy.length ≤ SMALL) (gd (([] : List Int).length + c.data.length ≤ SMALL) (gd (([] : List GDid).length + c.did.length ≤ SMALL) (some (GCase.mk c.state (([] : List Int) ++ c.marks) (([] : List GItem) ++ c.busy) (([] : List Int) ++ c.data) (([] : List GDid) ++ c.did))))))
def za4 : Con := ⟨86, [.v (.s .kase) false], [((.s .kase), true)], [], fun x => z5o x.1⟩
def yo2 : Fs := ⟨[], [], []⟩
theorem yp7 : yo2.Ok Tryz.prog := fs0
theorem y46 : za4.Ok Tryz.prog := fn_ok (k := za4) (fn := Tryz.f86) (W := []) (H := []) Tryz.func86 yp7 trivial rfl rfl (fun av x => by kernel_rfl)
def z58 (n : GNet) (people : List Int) (c : GCase) (t : Int) (who : Int) : Option (GCase × Bool) := (z5o c).bind fun x1 => ((z57 n c).bind fun x2 => (if x2 = true then (if decide (c.state = 1) = true then ((z7b n c.marks c.busy t).bind fun x5 => (if x5 = true then ((z5l n people c.did c.busy t).bind fun x7 => ((z6k x7 who).bind fun x8 => (if x8 = true then (if decide ((c.busy.length : Int) = 6) = true then (some (x1, false)) else ((z8p n c.marks t).bind fun x11 => (gd (x1.busy.length + [(GItem.mk t who 0)].length ≤ SMALL) (some ((GCase.mk x1.state x11 (x1.busy ++ [(GItem.mk t who 0)]) x1.data x1.did), true))))) else (some (x1, false))))) else (some (x1, false)))) else (some (x1, false))) else (some (x1, false))))
def zd1 : Con := ⟨32, [.v (.s .net) false, .v (.sl .I) false, .v (.s .kase) false, .v .I false, .v .I false], [((.s .kase), true), (.B, true)], [], fun x => z58 x.1 x.2.1 x.2.2.1 x.2.2.2.1 x.2.2.2.2.1⟩
def y8k : Fs := ⟨[za4, z24, za2, z0p, z2r, z2i], [], []⟩
theorem y91 : y8k.Ok Tryz.prog := (fsK y46 (fsK zg2 (fsK y42 (fsK y43 (fsK y06 (fsK yh5 fs0))))))
theorem y9m : zd1.Ok Tryz.prog := fn_ok (k := zd1) (fn := Tryz.f32) (W := []) (H := []) Tryz.func32 y91 trivial rfl rfl (fun av x => by kernel_rfl)
def z8o (n : GNet) (c : GCase) (k : Int) (v : Int) (num : Int) : Option (GCase × Bool) := (z5o c).bind fun x1 => ((z57 n c).bind fun x2 => (if x2 = true then (if decide (c.state = 1) = true then (gd (ok64 ((c.busy.length : Int) - 1)) ((z06 k 0 ((c.busy.length : Int) - 1)).bind fun x6 => (if x6 = true then ((z06 v (-1) 2).bind fun x8 => (if x8 = true then ((z06 num (-99) 99).bind fun x10 => (if x10 = true then (if decide ((c.did.length : Int) = 60) = true then (some (x1, false)) else ((getI c.busy k).bind fun x13 => ((zb2 c.data v num).bind fun x14 => (gd (ok64 (x13.did + 1)) ((getI x1.busy k).bind fun x16 => (gd (ok64 (x13.did + 1)) ((getI n.tasks x13.task).bind fun x18 => (if decide ((x13.did + 1) < x18.need) = true then (some ((GCase.mk x1.state x1.marks (x1.busy.set k.toNat (GItem.mk x16.task x16.who (x13.did + 1))) x14 x1.did), true)) else ((z8q n c.marks x13.task x14).bind fun x20 => (if x20.2 = true then (gd ((0 : Int) ≤ k ∧ k ≤ (c.busy.length : Int)) (gd (([] : List GItem).length + (c.busy.take k.toNat).length ≤ SMALL) (gd (ok64 (k + 1)) (gd ((0 : Int) ≤ (k + 1) ∧ (k + 1) ≤ (c.busy.length : Int)) (gd ((([] : List GItem) ++ (c.busy.take k.toNat)).length + (c.busy.drop (k + 1).toNat).length ≤ SMALL) (gd (x1.did.length + [(GDid.mk x13.task x13.who)].length ≤ SMALL) ((getI x20.1 1).bind fun x28 => (if decide (0 < x28) = true then (some ((GCase.mk 2 x20.1 ([] : List GItem) x14 (x1.did ++ [(GDid.mk x13.task x13.who)])), true)) else (some ((GCase.mk x1.state x20.1 ((([] : List GItem) ++ (c.busy.take k.toNat)) ++ (c.busy.drop (k + 1).toNat)) x14 (x1.did ++ [(GDid.mk x13.task x13.who)])), true)))))))))) else ((z5o c).bind fun x30 => (some (x30, false))))))))))))) else (some (x1, false)))) else (some (x1, false)))) else (some (x1, false))))) else (some (x1, false))) else (some (x1, false))))
def zi1 : Con := ⟨112, [.v (.s .net) false, .v (.s .kase) false, .v .I false, .v .I false, .v .I false], [((.s .kase), true), (.B, true)], [], fun x => z8o x.1 x.2.1 x.2.2.1 x.2.2.2.1 x.2.2.2.2.1⟩
def yd8 : Fs := ⟨[za4, z24, z0s, zq6, z0l], [], []⟩
theorem yf5 : yd8.Ok Tryz.prog := (fsK y46 (fsK zg2 (fsK z17 (fsK yr9 (fsK yh6 fs0)))))
theorem yh4 : zi1.Ok Tryz.prog := fn_ok (k := zi1) (fn := Tryz.f112) (W := []) (H := []) Tryz.func112 yf5 trivial rfl rfl (fun av x => by kernel_rfl)
def z21 (c : GCase) : Option GCase := (z3i c.marks).bind fun x1 => (gd (([] : List GItem).length + c.busy.length ≤ SMALL) ((z3i c.data).bind fun x3 => (gd (([] : List GDid).length + c.did.length ≤ SMALL) (some (GCase.mk c.state x1 (([] : List GItem) ++ c.busy) x3 (([] : List GDid) ++ c.did))))))
def z5u : Con := ⟨84, [.v (.s .kase) false], [((.s .kase), true)], [], fun x => z21 x.1⟩
def y16 : Fs := ⟨[z69], [], []⟩
theorem y1b : y16.Ok Tryz.prog := (fsK zt7 fs0)
theorem y1f : z5u.Ok Tryz.prog := fn_ok (k := z5u) (fn := Tryz.f84) (W := []) (H := []) Tryz.func84 y1b trivial rfl rfl (fun av x => by kernel_rfl)
def zt1  : Option Int := some (-1)
def z3h (s : List Int) (p : Int → Option Bool) (p0_0 : Int) (kx0_0 : Option Int) : Nat → Int → Option Int
  | 0, _ => none
  | n0 + 1, s0_0 => if decide (s0_0 < p0_0) = true then ((getI s s0_0).bind fun x2 => ((p x2).bind fun x3 => (if x3 = true then (some s0_0) else (gd (ok64 (s0_0 + 1)) ((z3h s p p0_0 kx0_0 n0) (s0_0 + 1)))))) else (kx0_0)
def za5 (s : List Int) (p : Int → Option Bool) : Option Int := z3h s p (s.length : Int) zt1 FUEL 0
def z2g : Con := ⟨175, [.v (.sl .I) false, .fn .I], [(.I, true)], [], fun x => za5 x.1 x.2.1⟩
def ym1 : Fs := ⟨[], [], []⟩
theorem y3h : ym1.Ok Tryz.prog := fs0
def y0c : Tmpl := ⟨[(0, .c (.s .I)), (1, .c .fp), (7, .c .i), (8, .c .i)], []⟩
def zu9 : Tmpl := ⟨[], []⟩
def y81 (av : AV) (x : HP z2g.ps) (n : Nat) (v : y0c.den) (K : Ks (CR z2g)) : Option (CR z2g) := z3h v.1.1 x.2.1 v.1.2.2.1 (zu9.at (fpOf z2g.ps x av) ((), ()) (K (.exit 0))) n v.1.2.2.2.1
def zx6 (av : AV) (x : HP z2g.ps) : Hdl (CR z2g) := hnd [] y0c (y81 av x)
theorem y97 : LP z2g Tryz.f175 [0] zx6 := lp_ok (W := []) (H := []) (xs := [zu9]) y3h trivial rfl (fun av x v K => by kernel_rfl) (fun av x n v K => by kernel_rfl)
theorem yr0 : z2g.Ok Tryz.prog := fn_ok (k := z2g) (fn := Tryz.f175) (W := []) (H := [zx6]) Tryz.func175 y3h ⟨y97, trivial⟩ rfl rfl (fun av x => by kernel_rfl)
def z1i (s : List Int) (p : Int → Option Bool) : Option Bool := (za5 s p).bind fun x1 => (some (decide (0 ≤ x1)))
def z31 : Con := ⟨118, [.v (.sl .I) false, .fn .I], [(.B, true)], [], fun x => z1i x.1 x.2.1⟩
def y72 : Fs := ⟨[z2g], [], []⟩
theorem y76 : y72.Ok Tryz.prog := (fsK yr0 fs0)
theorem z4p : z31.Ok Tryz.prog := fn_ok (k := z31) (fn := Tryz.f118) (W := []) (H := []) Tryz.func118 y76 trivial rfl rfl (fun av x => by kernel_rfl)
def z9m  : Option Int := some (-1)
def z20 (s : List GTask) (p : GTask → Option Bool) (p0_0 : Int) (kx0_0 : Option Int) : Nat → Int → Option Int
  | 0, _ => none
  | n0 + 1, s0_0 => if decide (s0_0 < p0_0) = true then ((getI s s0_0).bind fun x2 => ((p x2).bind fun x3 => (if x3 = true then (some s0_0) else (gd (ok64 (s0_0 + 1)) ((z20 s p p0_0 kx0_0 n0) (s0_0 + 1)))))) else (kx0_0)
def z5h (s : List GTask) (p : GTask → Option Bool) : Option Int := z20 s p (s.length : Int) z9m FUEL 0
def z0w : Con := ⟨176, [.v (.sl (.s .task)) false, .fn (.s .task)], [(.I, true)], [], fun x => z5h x.1 x.2.1⟩
def y4x : Fs := ⟨[], [], []⟩
theorem zk1 : y4x.Ok Tryz.prog := fs0
def ze0 : Tmpl := ⟨[(0, .c (.s (.s .task))), (1, .c .fp), (7, .c .i), (8, .c .i)], []⟩
def z9r : Tmpl := ⟨[], []⟩
def y2g (av : AV) (x : HP z0w.ps) (n : Nat) (v : ze0.den) (K : Ks (CR z0w)) : Option (CR z0w) := z20 v.1.1 x.2.1 v.1.2.2.1 (z9r.at (fpOf z0w.ps x av) ((), ()) (K (.exit 0))) n v.1.2.2.2.1
def zc3 (av : AV) (x : HP z0w.ps) : Hdl (CR z0w) := hnd [] ze0 (y2g av x)
theorem y2t : LP z0w Tryz.f176 [0] zc3 := lp_ok (W := []) (H := []) (xs := [z9r]) zk1 trivial rfl (fun av x v K => by kernel_rfl) (fun av x n v K => by kernel_rfl)
theorem y5l : z0w.Ok Tryz.prog := fn_ok (k := z0w) (fn := Tryz.f176) (W := []) (H := [zc3]) Tryz.func176 zk1 ⟨y2t, trivial⟩ rfl rfl (fun av x => by kernel_rfl)
def z3z (s : List GTask) (p : GTask → Option Bool) : Option Bool := (z5h s p).bind fun x1 => (some (decide (0 ≤ x1)))
def z5t : Con := ⟨123, [.v (.sl (.s .task)) false, .fn (.s .task)], [(.B, true)], [], fun x => z3z x.1 x.2.1⟩
def y15 : Fs := ⟨[z0w], [], []⟩
theorem y1a : y15.Ok Tryz.prog := (fsK y5l fs0)
theorem y1e : z5t.Ok Tryz.prog := fn_ok (k := z5t) (fn := Tryz.f123) (W := []) (H := []) Tryz.func123 y1a trivial rfl rfl (fun av x => by kernel_rfl)
def z9l  : Option Int := some (-1)
def z1z (s : List GItem) (p : GItem → Option Bool) (p0_0 : Int) (kx0_0 : Option Int) : Nat → Int → Option Int
  | 0, _ => none
  | n0 + 1, s0_0 => if decide (s0_0 < p0_0) = true then ((getI s s0_0).bind fun x2 => ((p x2).bind fun x3 => (if x3 = true then (some s0_0) else (gd (ok64 (s0_0 + 1)) ((z1z s p p0_0 kx0_0 n0) (s0_0 + 1)))))) else (kx0_0)
def z5g (s : List GItem) (p : GItem → Option Bool) : Option Int := z1z s p (s.length : Int) z9l FUEL 0
def z0v : Con := ⟨169, [.v (.sl (.s .item)) false, .fn (.s .item)], [(.I, true)], [], fun x => z5g x.1 x.2.1⟩
def y4w : Fs := ⟨[], [], []⟩
theorem zk0 : y4w.Ok Tryz.prog := fs0
def zd9 : Tmpl := ⟨[(0, .c (.s (.s .item))), (1, .c .fp), (7, .c .i), (8, .c .i)], []⟩
def z9q : Tmpl := ⟨[], []⟩
def y2f (av : AV) (x : HP z0v.ps) (n : Nat) (v : zd9.den) (K : Ks (CR z0v)) : Option (CR z0v) := z1z v.1.1 x.2.1 v.1.2.2.1 (z9q.at (fpOf z0v.ps x av) ((), ()) (K (.exit 0))) n v.1.2.2.2.1
def zc2 (av : AV) (x : HP z0v.ps) : Hdl (CR z0v) := hnd [] zd9 (y2f av x)
theorem y2s : LP z0v Tryz.f169 [0] zc2 := lp_ok (W := []) (H := []) (xs := [z9q]) zk0 trivial rfl (fun av x v K => by kernel_rfl) (fun av x n v K => by kernel_rfl)
theorem y5k : z0v.Ok Tryz.prog := fn_ok (k := z0v) (fn := Tryz.f169) (W := []) (H := [zc2]) Tryz.func169 zk0 ⟨y2s, trivial⟩ rfl rfl (fun av x => by kernel_rfl)
def z3y (s : List GItem) (p : GItem → Option Bool) : Option Bool := (z5g s p).bind fun x1 => (some (decide (0 ≤ x1)))
def z5s : Con := ⟨107, [.v (.sl (.s .item)) false, .fn (.s .item)], [(.B, true)], [], fun x => z3y x.1 x.2.1⟩
def y14 : Fs := ⟨[z0v], [], []⟩
theorem y19 : y14.Ok Tryz.prog := (fsK y5k fs0)
theorem y1d : z5s.Ok Tryz.prog := fn_ok (k := z5s) (fn := Tryz.f107) (W := []) (H := []) Tryz.func107 y19 trivial rfl rfl (fun av x => by kernel_rfl)
def y6d  : Option Int := some (-1)
def z6h (s : List Int) (v : Int) (p0_0 : Int) (kx0_0 : Option Int) : Nat → Int → Option Int
  | 0, _ => none
  | n0 + 1, s0_0 => if decide (s0_0 < p0_0) = true then ((getI s s0_0).bind fun x2 => (if decide (v = x2) = true then (some s0_0) else (gd (ok64 (s0_0 + 1)) ((z6h s v p0_0 kx0_0 n0) (s0_0 + 1))))) else (kx0_0)
def y3v (s : List Int) (v : Int) : Option Int := z6h s v (s.length : Int) y6d FUEL 0
def z6w : Con := ⟨163, [.v (.sl .I) false, .v .I false], [(.I, true)], [], fun x => y3v x.1 x.2.1⟩
def w5e : Fs := ⟨[], [], []⟩
theorem yy6 : w5e.Ok Tryz.prog := fs0
def yb6 : Tmpl := ⟨[(0, .c (.s .I)), (1, .c .i), (7, .c .i), (8, .c .i)], []⟩
def y6p : Tmpl := ⟨[], []⟩
def w1b (av : AV) (x : HP z6w.ps) (n : Nat) (v : yb6.den) (K : Ks (CR z6w)) : Option (CR z6w) := z6h v.1.1 v.1.2.1 v.1.2.2.1 (y6p.at none ((), ()) (K (.exit 0))) n v.1.2.2.2.1
def y94 (av : AV) (x : HP z6w.ps) : Hdl (CR z6w) := hnd [] yb6 (w1b av x)
theorem w1t : LP z6w Tryz.f163 [0] y94 := lp_ok (W := []) (H := []) (xs := [y6p]) yy6 trivial rfl (fun av x v K => by kernel_rfl) (fun av x n v K => by kernel_rfl)
theorem w6g : z6w.Ok Tryz.prog := fn_ok (k := z6w) (fn := Tryz.f163) (W := []) (H := [y94]) Tryz.func163 yy6 ⟨w1t, trivial⟩ rfl rfl (fun av x => by kernel_rfl)
def z6g (s : List Int) (v : Int) : Option Bool := (y3v s v).bind fun x1 => (some (decide (0 ≤ x1)))
def z90 : Con := ⟨92, [.v (.sl .I) false, .v .I false], [(.B, true)], [], fun x => z6g x.1 x.2.1⟩
def yw5 : Fs := ⟨[z6w], [], []⟩
theorem yy5 : yw5.Ok Tryz.prog := (fsK w6g fs0)
theorem zz8 : z90.Ok Tryz.prog := fn_ok (k := z90) (fn := Tryz.f92) (W := []) (H := []) Tryz.func92 yy5 trivial rfl rfl (fun av x => by kernel_rfl)
def zz1  : Option Int := some (-1)
def z41 (s : List GDid) (v : GDid) (p0_0 : Int) (kx0_0 : Option Int) : Nat → Int → Option Int
  | 0, _ => none
  | n0 + 1, s0_0 => if decide (s0_0 < p0_0) = true then ((getI s s0_0).bind fun x2 => (if decide ([v.task, v.who] = [x2.task, x2.who]) = true then (some s0_0) else (gd (ok64 (s0_0 + 1)) ((z41 s v p0_0 kx0_0 n0) (s0_0 + 1))))) else (kx0_0)
def zf4 (s : List GDid) (v : GDid) : Option Int := z41 s v (s.length : Int) zz1 FUEL 0
def z3o : Con := ⟨204, [.v (.sl (.s .did)) false, .v (.s .did) false], [(.I, true)], [], fun x => zf4 x.1 x.2.1⟩
def yw6 : Fs := ⟨[], [], []⟩
theorem y5x : yw6.Ok Tryz.prog := fs0
def y25 : Tmpl := ⟨[(0, .c (.s (.s .did))), (3, .c (.bx 3 0)), (7, .c .i), (8, .c .i)], [(3, .boxT (.s .did))]⟩
def y0k : Tmpl := ⟨[], []⟩
def yc0 (av : AV) (x : HP z3o.ps) (n : Nat) (v : y25.den) (K : Ks (CR z3o)) : Option (CR z3o) := z41 v.1.1 v.2.1 v.1.2.2.1 (y0k.at none ((), ()) (K (.exit 0))) n v.1.2.2.2.1
def y1p (av : AV) (x : HP z3o.ps) : Hdl (CR z3o) := hnd [] y25 (yc0 av x)
theorem yf8 : LP z3o Tryz.f204 [0] y1p := lp_ok (W := []) (H := []) (xs := [y0k]) y5x trivial rfl (fun av x v K => by kernel_rfl) (fun av x n v K => by kernel_rfl)
theorem w05 : z3o.Ok Tryz.prog := fn_ok (k := z3o) (fn := Tryz.f204) (W := []) (H := [y1p]) Tryz.func204 y5x ⟨yf8, trivial⟩ rfl rfl (fun av x => by kernel_rfl)
def zd4 (s : List GDid) (v : GDid) : Option Bool := (zf4 s v).bind fun x1 => (some (decide (0 ≤ x1)))
def zc8 : Con := ⟨170, [.v (.sl (.s .did)) false, .v (.s .did) false], [(.B, true)], [], fun x => zd4 x.1 x.2.1⟩
def y8e : Fs := ⟨[z3o], [], []⟩
theorem y8w : y8e.Ok Tryz.prog := (fsK w05 fs0)
theorem y9g : zc8.Ok Tryz.prog := fn_ok (k := zc8) (fn := Tryz.f170) (W := []) (H := []) Tryz.func170 y8w trivial rfl rfl (fun av x => by kernel_rfl)
def zi5 (n : Int) : Option Bool := (z60 n).bind fun x1 => (some (!x1))
def zj0 : FCon := ⟨162, .I, [], fun z c => zi5 z ⟩
def yd0 : Fs := ⟨[z8m], [], []⟩
theorem ye9 : yd0.Ok Tryz.prog := (fsK y22 fs0)
theorem yg8 : zj0.Ok Tryz.prog := FCon.ok (fn_ok (k := zj0.con) (fn := Tryz.f162) (W := []) (H := []) Tryz.func162 ye9 trivial rfl rfl (fun av x => by kernel_rfl))
def z92 (data : List Int) : Option Bool := if decide ((data.length : Int) = 3) = true then ((z1i data (fun z => zi5 z )).bind fun x2 => (some (!x2))) else (some false)
def zf0 : Con := ⟨91, [.v (.sl .I) false], [(.B, true)], [], fun x => z92 x.1⟩
def yw8 : Fs := ⟨[z31], [zj0], []⟩
theorem yy7 : yw8.Ok Tryz.prog := (fsK z4p (fsF yg8 fs0))
theorem y6e : zf0.Ok Tryz.prog := fn_ok (k := zf0) (fn := Tryz.f91) (W := []) (H := []) Tryz.func91 yy7 trivial rfl rfl (fun av x => by kernel_rfl)
def zl5  : Option Bool := some true
def z39 (list : List Int) (places : Int) (without : List Int) (p0_0 : Int) (kx0_0 : Option Bool) : Nat → Int → Int → Option Bool
  | 0, _, _ => none
  | n0 + 1, s0_0, s0_1 => if decide (s0_0 < p0_0) = true then ((getI list s0_0).bind fun x2 => (gd (ok64 (s0_1 + 1)) (gd (ok64 (places - 1)) ((z0u x2 (s0_1 + 1) (places - 1)).bind fun x5 => (if x5 = true then ((z6g without x2).bind fun x7 => (if x7 = true then (some false) else (gd (ok64 (s0_0 + 1)) ((z39 list places without p0_0 kx0_0 n0) (s0_0 + 1) x2)))) else (some false)))))) else (kx0_0)
def z5z (list : List Int) (places : Int) (without : List Int) : Option Bool := z39 list places without (list.length : Int) zl5 FUEL 0 (-1)
def z2h : Con := ⟨178, [.v (.sl .I) false, .v .I false, .v (.sl .I) false], [(.B, true)], [], fun x => z5z x.1 x.2.1 x.2.2.1⟩
def yd3 : Fs := ⟨[z2q, z90], [], []⟩
theorem y1h : yd3.Ok Tryz.prog := (fsK z3e (fsK zz8 fs0))
def zt8 : Tmpl := ⟨[(1, .c .i), (2, .c (.s .I)), (7, .c .i), (10, .c (.s .I)), (11, .c .i), (12, .c .i)], []⟩
def zn9 : Tmpl := ⟨[], []⟩
def y6q (av : AV) (x : HP z2h.ps) (n : Nat) (v : zt8.den) (K : Ks (CR z2h)) : Option (CR z2h) := z39 v.1.2.2.2.1 v.1.1 v.1.2.1 v.1.2.2.2.2.1 (zn9.at none ((), ()) (K (.exit 0))) n v.1.2.2.2.2.2.1 v.1.2.2.1
def zs0 (av : AV) (x : HP z2h.ps) : Hdl (CR z2h) := hnd [] zt8 (y6q av x)
theorem y7a : LP z2h Tryz.f178 [0] zs0 := lp_ok (W := []) (H := []) (xs := [zn9]) y1h trivial rfl (fun av x v K => by kernel_rfl) (fun av x n v K => by kernel_rfl)
theorem yh1 : z2h.Ok Tryz.prog := fn_ok (k := z2h) (fn := Tryz.f178) (W := []) (H := [zs0]) Tryz.func178 y1h ⟨y7a, trivial⟩ rfl rfl (fun av x => by kernel_rfl)
def z4j (t : GTask) : Option Bool := (z0u (t.out.length : Int) 1 3).bind fun x21 => (some x21)
def z0t (t : GTask) (places : Int) (p0_0 : List GFlow) (p0_1 : Int) (kx0_0 : Option Bool) : Nat → Int → List Int → Option Bool
  | 0, _, _ => none
  | n0 + 1, s0_0, m0_1 => if decide (s0_0 < p0_1) = true then ((getI p0_0 s0_0).bind fun x2 => (if decide (t.split = 1) = true then (gd (ok64 (places - 1)) ((z0u x2.to 0 (places - 1)).bind fun x5 => (if x5 = true then (if decide (x2.to ∈ m0_1) = true then (some false) else ((z93 x2.if_).bind fun x8 => (if x8 = true then (if ((decide (x2.if_.op = 0)) == true) = true then (gd (ok64 (s0_0 + 1)) ((z0t t places p0_0 p0_1 kx0_0 n0) (s0_0 + 1) (insKey m0_1 x2.to))) else (some false)) else (some false)))) else (some false)))) else (gd (ok64 ((t.out.length : Int) - 1)) (gd (ok64 (places - 1)) ((z0u x2.to 0 (places - 1)).bind fun x14 => (if x14 = true then (if decide (x2.to ∈ m0_1) = true then (some false) else ((z93 x2.if_).bind fun x17 => (if x17 = true then (if ((decide (x2.if_.op = 0)) == (decide (s0_0 = ((t.out.length : Int) - 1)))) = true then (gd (ok64 (s0_0 + 1)) ((z0t t places p0_0 p0_1 kx0_0 n0) (s0_0 + 1) (insKey m0_1 x2.to))) else (some false)) else (some false)))) else (some false))))))) else (kx0_0)
def z40 (t : GTask) (places : Int) : Option Bool := z0t t places t.out (t.out.length : Int) (z4j t) FUEL 0 (insKey ([] : List Int) 0)
def z0o : Con := ⟨179, [.v (.s .task) false, .v .I false], [(.B, true)], [], fun x => z40 x.1 x.2.1⟩
def y18 : Fs := ⟨[z2q, zy4], [], []⟩
theorem z9j : y18.Ok Tryz.prog := (fsK z3e (fsK w07 fs0))
def z87 : Tmpl := ⟨[(1, .c .i), (2, .c (.bx 2 0)), (5, .c (.bx 9 0)), (12, .c (.s (.s .flow))), (13, .c .i), (14, .c .i)], [(2, .boxT (.s .task)), (9, .mp)]⟩
def z80 : Tmpl := ⟨[(2, .c (.bx 2 0))], [(2, .boxT (.s .task))]⟩
def zv8 (av : AV) (x : HP z0o.ps) (n : Nat) (v : z87.den) (K : Ks (CR z0o)) : Option (CR z0o) := z0t v.2.1 v.1.1 v.1.2.2.2.1 v.1.2.2.2.2.1 (z80.at none (((), ()), (v.2.1, ())) (K (.exit 0))) n v.1.2.2.2.2.2.1 v.2.2.1
def z82 (av : AV) (x : HP z0o.ps) : Hdl (CR z0o) := hnd [] z87 (zv8 av x)
theorem zw0 : LP z0o Tryz.f179 [0] z82 := lp_ok (W := []) (H := []) (xs := [z80]) z9j trivial rfl (fun av x v K => by kernel_rfl) (fun av x n v K => by kernel_rfl)
theorem y1g : z0o.Ok Tryz.prog := fn_ok (k := z0o) (fn := Tryz.f179) (W := []) (H := [z82]) Tryz.func179 z9j ⟨zw0, trivial⟩ rfl rfl (fun av x => by kernel_rfl)
def z5i (t : GTask) (places : Int) (tasks : Int) : Option Bool := (za9 t.join).bind fun x1 => (if x1 = true then ((za9 t.split).bind fun x3 => (if x3 = true then ((z0u (t.in_.length : Int) 1 3).bind fun x5 => (if x5 = true then ((z5z t.in_ places [1]).bind fun x7 => (if x7 = true then ((z40 t places).bind fun x9 => (if x9 = true then ((z5z t.clear places [0, 1]).bind fun x11 => (if x11 = true then ((z76 t.role).bind fun x13 => (if x13 = true then (gd (ok64 (tasks - 1)) ((z0u t.apart (-1) (tasks - 1)).bind fun x16 => (if x16 = true then ((z0u t.all 1 3).bind fun x18 => (if x18 = true then ((z0u t.need 1 t.all).bind fun x20 => (some x20)) else (some false))) else (some false)))) else (some false))) else (some false))) else (some false))) else (some false))) else (some false))) else (some false))) else (some false))
def z8e : Con := ⟨125, [.v (.s .task) false, .v .I false, .v .I false], [(.B, true)], [], fun x => z5i x.1 x.2.1 x.2.2.1⟩
def y4z : Fs := ⟨[zq3, z2q, z2h, z0o, za1], [], []⟩
theorem y55 : y4z.Ok Tryz.prog := (fsK yr4 (fsK z3e (fsK yh1 (fsK y1g (fsK y40 fs0)))))
theorem y5m : z8e.Ok Tryz.prog := fn_ok (k := z8e) (fn := Tryz.f125) (W := []) (H := []) Tryz.func125 y55 trivial rfl rfl (fun av x => by kernel_rfl)
def zi6 (t : GTask) (n : GNet) : Option Bool := (z5i t n.places (n.tasks.length : Int)).bind fun x1 => (some (!x1))
def zj1 : FCon := ⟨124, (.s .task), [(.s .net)], fun z c => zi6 z c.1⟩
def yd1 : Fs := ⟨[z8e], [], []⟩
theorem yf0 : yd1.Ok Tryz.prog := (fsK y5m fs0)
theorem yg9 : zj1.Ok Tryz.prog := FCon.ok (fn_ok (k := zj1.con) (fn := Tryz.f124) (W := []) (H := []) Tryz.func124 yf0 trivial rfl rfl (fun av x => by kernel_rfl))
def z96 (n : GNet) : Option Bool := (zi9 n.places (n.tasks.length : Int)).bind fun x1 => (if x1 = true then ((z3z n.tasks (fun z => zi6 z n)).bind fun x3 => (some (!x3))) else (some false))
def zf1 : Con := ⟨52, [.v (.s .net) false], [(.B, true)], [], fun x => z96 x.1⟩
def yx1 : Fs := ⟨[zi0, z5t], [zj1], []⟩
theorem yz0 : yx1.Ok Tryz.prog := (fsK yh3 (fsK y1e (fsF yg9 fs0)))
theorem y6f : zf1.Ok Tryz.prog := fn_ok (k := zf1) (fn := Tryz.f52) (W := []) (H := []) Tryz.func52 yz0 trivial rfl rfl (fun av x => by kernel_rfl)
def z3u (p : Int) (out : List Bool) : Option Bool := (getI out p).bind fun x1 => (some x1)
def z5b : FCon := ⟨217, .I, [(.sl .B)], fun z c => z3u z c.1⟩
def zw8 : Fs := ⟨[], [], []⟩
theorem zx2 : zw8.Ok Tryz.prog := fs0
theorem y02 : z5b.Ok Tryz.prog := FCon.ok (fn_ok (k := z5b.con) (fn := Tryz.f217) (W := []) (H := []) Tryz.func217 zx2 trivial rfl rfl (fun av x => by kernel_rfl))
def z83 (s1_0 : List GTask) (s1_1 : Int) (s1_2 : Int) (bk1 : List GTask → Int → Int → Bool → List Bool → Option (List Bool)) (s2_1 : Bool) (l2_2 : List Bool) : Option (List Bool) := gd (ok64 (s1_2 + 1)) (bk1 s1_0 s1_1 (s1_2 + 1) s2_1 l2_2)
def z0d (p2_0 : List GFlow) (p2_1 : Int) (kx2_0 : Bool → List Bool → Option (List Bool)) : Nat → Int → Bool → List Bool → Option (List Bool)
  | 0, _, _, _ => none
  | n2 + 1, s2_0, s2_1, l2_2 => if decide (s2_0 < p2_1) = true then ((getI p2_0 s2_0).bind fun x11 => (if s2_1 = true then ((getI l2_2 x11.to).bind fun x13 => (gd (ok64 (s2_0 + 1)) ((z0d p2_0 p2_1 kx2_0 n2) (s2_0 + 1) true (l2_2.set x11.to.toNat true)))) else ((getI l2_2 x11.to).bind fun x15 => ((getI l2_2 x11.to).bind fun x16 => (gd (ok64 (s2_0 + 1)) ((z0d p2_0 p2_1 kx2_0 n2) (s2_0 + 1) (!x15) (l2_2.set x11.to.toNat true))))))) else (kx2_0 s2_1 l2_2)
def z4r (bk0 : Bool → List Bool → Option (List Bool)) (s1_3 : Bool) (l1_4 : List Bool) : Option (List Bool) := bk0 s1_3 l1_4
def z09 (but : Int) (kx1_0 : Bool → List Bool → Option (List Bool)) : Nat → List GTask → Int → Int → Bool → List Bool → Option (List Bool)
  | 0, _, _, _, _, _ => none
  | n1 + 1, s1_0, s1_1, s1_2, s1_3, l1_4 => if decide (s1_2 < s1_1) = true then ((getI s1_0 s1_2).bind fun x5 => (if decide (s1_2 = but) = true then (gd (ok64 (s1_2 + 1)) ((z09 but kx1_0 n1) s1_0 s1_1 (s1_2 + 1) s1_3 l1_4)) else ((z1i x5.in_ (fun z => z3u z l1_4)).bind fun x8 => (if x8 = true then (z0d x5.out (x5.out.length : Int) (z83 s1_0 s1_1 s1_2 (z09 but kx1_0 n1)) FUEL 0 s1_3 l1_4) else (gd (ok64 (s1_2 + 1)) ((z09 but kx1_0 n1) s1_0 s1_1 (s1_2 + 1) s1_3 l1_4)))))) else (kx1_0 s1_3 l1_4)
def z84 (l0_1 : List Bool) : Option (List Bool) := some l0_1
def z0n (n : GNet) (but : Int) (kx0_0 : List Bool → Option (List Bool)) : Nat → Bool → List Bool → Option (List Bool)
  | 0, _, _ => none
  | n0 + 1, s0_0, l0_1 => if s0_0 = true then (z09 but (z4r (z0n n but kx0_0 n0)) FUEL n.tasks (n.tasks.length : Int) 0 false l0_1) else (kx0_0 l0_1)
def z4i (n : GNet) (place : Int) (but : Int) : Option (List Bool) := gd ((0 : Int) ≤ n.places ∧ n.places ≤ (1000000000 : Int)) ((getI (List.replicate n.places.toNat false) place).bind fun x2 => (z0n n but z84 FUEL true ((List.replicate n.places.toNat false).set place.toNat true)))
def z03 : Con := ⟨202, [.v (.s .net) false, .v .I false, .v .I false], [((.sl .B), true)], [], fun x => z4i x.1 x.2.1 x.2.2.1⟩
def y2m : Fs := ⟨[z31], [z5b], []⟩
theorem z4f : y2m.Ok Tryz.prog := (fsK z4p (fsF y02 fs0))
def z66 : Tmpl := ⟨[(2, .c .i), (3, .c (.bx 3 0)), (7, .c (.bx 7 0)), (8, .c .b), (21, .c (.s (.s .task))), (22, .c .i), (23, .c .i), (39, .c (.s (.s .flow))), (40, .c .i), (41, .c .i)], [(3, .boxT (.s .net)), (7, .box [.ref 15]), (15, .arr .B true)]⟩
def z5q : Tmpl := ⟨[(2, .c .i), (3, .c (.bx 3 0)), (7, .c (.bx 7 0)), (8, .c .b), (21, .c (.s (.s .task))), (22, .c .i), (23, .c .i)], [(3, .boxT (.s .net)), (7, .box [.ref 15]), (15, .arr .B true)]⟩
def zh7 (av : AV) (x : HP z03.ps) (n : Nat) (v : z66.den) (K : Ks (CR z03)) : Option (CR z03) := z0d v.1.2.2.2.2.2.2.2.1 v.1.2.2.2.2.2.2.2.2.1 (fun s2_1 l2_2 => z5q.at none ((v.1.1, (), (), s2_1, v.1.2.2.2.2.1, v.1.2.2.2.2.2.1, v.1.2.2.2.2.2.2.1, ()), (v.2.1, ((), ()), l2_2, ())) (K (.exit 4))) n v.1.2.2.2.2.2.2.2.2.2.1 v.1.2.2.2.1 v.2.2.2.1
def z5y (av : AV) (x : HP z03.ps) : Hdl (CR z03) := hnd [] z66 (zh7 av x)
theorem zi4 : LP z03 Tryz.f202 [0, 0, 0] z5y := lp_ok (W := []) (H := []) (xs := [z5q]) z4f trivial rfl (fun av x v K => by kernel_rfl) (fun av x n v K => by kernel_rfl)
def z7y : Tmpl := ⟨[(2, .c .i), (3, .c (.bx 3 0)), (7, .c (.bx 7 0)), (8, .c .b), (21, .c (.s (.s .task))), (22, .c .i), (23, .c .i)], [(3, .boxT (.s .net)), (7, .box [.ref 15]), (15, .arr .B true)]⟩
def z6o : Tmpl := ⟨[(2, .c .i), (3, .c (.bx 3 0)), (7, .c (.bx 7 0)), (8, .c .b)], [(3, .boxT (.s .net)), (7, .box [.ref 15]), (15, .arr .B true)]⟩
def zp2 (av : AV) (x : HP z03.ps) (n : Nat) (v : z7y.den) (K : Ks (CR z03)) : Option (CR z03) := z09 v.1.1 (fun s1_3 l1_4 => z6o.at none ((v.1.1, (), (), s1_3, ()), (v.2.1, ((), ()), l1_4, ())) (K (.exit 2))) n v.1.2.2.2.2.1 v.1.2.2.2.2.2.1 v.1.2.2.2.2.2.2.1 v.1.2.2.2.1 v.2.2.2.1
def z6u (av : AV) (x : HP z03.ps) : Hdl (CR z03) := hnd [] z7y (zp2 av x)
theorem zr2 : LP z03 Tryz.f202 [0, 0] z6u := lp_ok (W := []) (H := [z5y]) (xs := [z6o]) z4f ⟨zi4, trivial⟩ rfl (fun av x v K => by kernel_rfl) (fun av x n v K => by kernel_rfl)
def z9b : Tmpl := ⟨[(2, .c .i), (3, .c (.bx 3 0)), (7, .c (.bx 7 0)), (8, .c .b)], [(3, .boxT (.s .net)), (7, .box [.ref 15]), (15, .arr .B true)]⟩
def z88 : Tmpl := ⟨[(7, .c (.bx 7 0))], [(7, .box [.ref 15]), (15, .arr .B true)]⟩
def zw1 (av : AV) (x : HP z03.ps) (n : Nat) (v : z9b.den) (K : Ks (CR z03)) : Option (CR z03) := z0n v.2.1 v.1.1 (fun l0_1 => z88.at none (((), ()), (((), ()), l0_1, ())) (K (.exit 0))) n v.1.2.2.2.1 v.2.2.2.1
def z8x (av : AV) (x : HP z03.ps) : Hdl (CR z03) := hnd [] z9b (zw1 av x)
theorem zy7 : LP z03 Tryz.f202 [0] z8x := lp_ok (W := []) (H := [z6u]) (xs := [z88]) z4f ⟨zr2, trivial⟩ rfl (fun av x v K => by kernel_rfl) (fun av x n v K => by kernel_rfl)
theorem y31 : z03.Ok Tryz.prog := fn_ok (k := z03) (fn := Tryz.f202) (W := []) (H := [z8x]) Tryz.func202 z4f ⟨zy7, trivial⟩ rfl rfl (fun av x => by kernel_rfl)
def z4h (m : Int) : Option Bool := (z0u m 0 4).bind fun x1 => (some (!x1))
def z4m : FCon := ⟨199, .I, [], fun z c => z4h z ⟩
def zp5 : Fs := ⟨[z2q], [], []⟩
theorem zp7 : zp5.Ok Tryz.prog := (fsK z3e fs0)
theorem zr5 : z4m.Ok Tryz.prog := FCon.ok (fn_ok (k := z4m.con) (fn := Tryz.f199) (W := []) (H := []) Tryz.func199 zp7 trivial rfl rfl (fun av x => by kernel_rfl))
def z3t (n : GNet) (marks : List Int) : Option Bool := if decide ((marks.length : Int) = n.places) = true then ((z1i marks (fun z => z4h z )).bind fun x2 => (some (!x2))) else (some false)
def z53 : Con := ⟨164, [.v (.s .net) false, .v (.sl .I) false], [(.B, true)], [], fun x => z3t x.1 x.2.1⟩
def zw7 : Fs := ⟨[z31], [z4m], []⟩
theorem zx1 : zw7.Ok Tryz.prog := (fsK z4p (fsF zr5 fs0))
theorem y01 : z53.Ok Tryz.prog := fn_ok (k := z53) (fn := Tryz.f164) (W := []) (H := []) Tryz.func164 zx1 trivial rfl rfl (fun av x => by kernel_rfl)
def z6i (n : GNet) (marks : List Int) : Option Bool := (z96 n).bind fun x1 => (if x1 = true then ((z3t n marks).bind fun x3 => (some x3)) else (some false))
def z91 : Con := ⟨94, [.v (.s .net) false, .v (.sl .I) false], [(.B, true)], [], fun x => z6i x.1 x.2.1⟩
def yx0 : Fs := ⟨[zf1, z53], [], []⟩
theorem yy9 : yx0.Ok Tryz.prog := (fsK y6f (fsK y01 fs0))
theorem zz9 : z91.Ok Tryz.prog := fn_ok (k := z91) (fn := Tryz.f94) (W := []) (H := []) Tryz.func94 yy9 trivial rfl rfl (fun av x => by kernel_rfl)
def z75 (busy : List GItem) : Option Bool := some (decide ((busy.length : Int) ≤ 6))
def z19 (n : GNet) (p0_0 : List GItem) (p0_1 : Int) (kx0_0 : Option Bool) : Nat → Int → Option Bool
  | 0, _ => none
  | n0 + 1, s0_0 => if decide (s0_0 < p0_1) = true then ((getI p0_0 s0_0).bind fun x2 => ((z0k n x2.task).bind fun x3 => (if x3 = true then ((z56 x2.who).bind fun x5 => (if x5 = true then ((getI n.tasks x2.task).bind fun x7 => (gd (ok64 (x7.need - 1)) ((z0u x2.did 0 (x7.need - 1)).bind fun x9 => (if x9 = true then (gd (ok64 (s0_0 + 1)) ((z19 n p0_0 p0_1 kx0_0 n0) (s0_0 + 1))) else (some false))))) else (some false))) else (some false)))) else (kx0_0)
def z22 (n : GNet) (busy : List GItem) : Option Bool := z19 n busy (busy.length : Int) (z75 busy) FUEL 0
def z0e : Con := ⟨95, [.v (.s .net) false, .v (.sl (.s .item)) false], [(.B, true)], [], fun x => z22 x.1 x.2.1⟩
def y17 : Fs := ⟨[z1l, z6x, z2q], [], []⟩
theorem z9i : y17.Ok Tryz.prog := (fsK z3w (fsK y03 (fsK z3e fs0)))
def z86 : Tmpl := ⟨[(1, .c (.s (.s .item))), (2, .c (.bx 2 0)), (7, .c (.s (.s .item))), (8, .c .i), (9, .c .i)], [(2, .boxT (.s .net))]⟩
def z7z : Tmpl := ⟨[(1, .c (.s (.s .item)))], []⟩
def zv7 (av : AV) (x : HP z0e.ps) (n : Nat) (v : z86.den) (K : Ks (CR z0e)) : Option (CR z0e) := z19 v.2.1 v.1.2.2.1 v.1.2.2.2.1 (z7z.at none ((v.1.1, ()), ()) (K (.exit 0))) n v.1.2.2.2.2.1
def z81 (av : AV) (x : HP z0e.ps) : Hdl (CR z0e) := hnd [] z86 (zv7 av x)
theorem zv9 : LP z0e Tryz.f95 [0] z81 := lp_ok (W := []) (H := []) (xs := [z7z]) z9i trivial rfl (fun av x v K => by kernel_rfl) (fun av x n v K => by kernel_rfl)
theorem z5v : z0e.Ok Tryz.prog := fn_ok (k := z0e) (fn := Tryz.f95) (W := []) (H := [z81]) Tryz.func95 z9i ⟨zv9, trivial⟩ rfl rfl (fun av x => by kernel_rfl)
def z4g (q : Int) (marks : List Int) (reach : List Bool) : Option Bool := (getI marks q).bind fun x1 => (if decide (x1 = 0) = true then ((getI reach q).bind fun x3 => (some x3)) else (some false))
def z4l : FCon := ⟨203, .I, [(.sl .I), (.sl .B)], fun z c => z4g z c.1 c.2.1⟩
def zp4 : Fs := ⟨[], [], []⟩
theorem zp6 : zp4.Ok Tryz.prog := fs0
theorem zr4 : z4l.Ok Tryz.prog := FCon.ok (fn_ok (k := z4l.con) (fn := Tryz.f203) (W := []) (H := []) Tryz.func203 zp6 trivial rfl rfl (fun av x => by kernel_rfl))
def z2w (s1_0 : Int) (s1_1 : Int) (bk1 : Int → Int → List Int → Option Bool) (l2_1 : List Int) : Option Bool := gd (ok64 (s1_1 + 1)) (bk1 s1_0 (s1_1 + 1) l2_1)
def z14 (p2_0 : List GFlow) (p2_1 : Int) (kx2_0 : List Int → Option Bool) : Nat → Int → List Int → Option Bool
  | 0, _, _ => none
  | n2 + 1, s2_0, l2_1 => if decide (s2_0 < p2_1) = true then ((getI p2_0 s2_0).bind fun x15 => (gd (l2_1.length + [x15.to].length ≤ SMALL) (gd (ok64 (s2_0 + 1)) ((z14 p2_0 p2_1 kx2_0 n2) (s2_0 + 1) (l2_1 ++ [x15.to]))))) else (kx2_0 l2_1)
def z43  : Option Bool := some false
def z0q (n : GNet) (t : Int) (p0_0 : List Int) (p0_2 : List Int) (l1_2 : List Int) (p3_0 : Int) (kx3_0 : Option Bool) : Nat → Int → Option Bool
  | 0, _ => none
  | n3 + 1, s3_0 => if decide (s3_0 < p3_0) = true then ((getI l1_2 s3_0).bind fun x20 => ((z4i n x20 t).bind fun x21 => ((z1i p0_0 (fun z => z4g z p0_2 x21)).bind fun x22 => (if x22 = true then (some true) else (gd (ok64 (s3_0 + 1)) ((z0q n t p0_0 p0_2 l1_2 p3_0 kx3_0 n3) (s3_0 + 1))))))) else (kx3_0)
def z13 (n : GNet) (t : Int) (p0_0 : List Int) (p0_2 : List Int) (l1_2 : List Int) : Option Bool := z0q n t p0_0 p0_2 l1_2 (l1_2.length : Int) z43 FUEL 0
def z0g (n : GNet) (busy : List GItem) (kx1_0 : List Int → Option Bool) : Nat → Int → Int → List Int → Option Bool
  | 0, _, _, _ => none
  | n1 + 1, s1_0, s1_1, l1_2 => if decide (s1_1 < s1_0) = true then ((getI busy s1_1).bind fun x12 => ((getI n.tasks x12.task).bind fun x13 => (z14 x13.out (x13.out.length : Int) (z2w s1_0 s1_1 (z0g n busy kx1_0 n1)) FUEL 0 l1_2))) else (kx1_0 l1_2)
def z2v (n : GNet) (busy : List GItem) (t : Int) (p0_0 : List Int) (p0_2 : List Int) (l0_1 : List Int) : Option Bool := z0g n busy (z13 n t p0_0 p0_2) FUEL (busy.length : Int) 0 l0_1
def z0f (marks : List Int) (p0_0 : List Int) (p0_1 : Int) (kx0_0 : List Int → Option Bool) : Nat → Int → List Int → Option Bool
  | 0, _, _ => none
  | n0 + 1, s0_0, l0_1 => if decide (s0_0 < p0_1) = true then ((getI marks s0_0).bind fun x3 => (if decide (0 < x3) = true then ((z6g p0_0 s0_0).bind fun x5 => (if x5 = true then (gd (ok64 (s0_0 + 1)) ((z0f marks p0_0 p0_1 kx0_0 n0) (s0_0 + 1) l0_1)) else (gd (l0_1.length + [s0_0].length ≤ SMALL) (gd (ok64 (s0_0 + 1)) ((z0f marks p0_0 p0_1 kx0_0 n0) (s0_0 + 1) (l0_1 ++ [s0_0])))))) else (gd (ok64 (s0_0 + 1)) ((z0f marks p0_0 p0_1 kx0_0 n0) (s0_0 + 1) l0_1)))) else (kx0_0 l0_1)
def z3s (n : GNet) (marks : List Int) (busy : List GItem) (t : Int) : Option Bool := (getI n.tasks t).bind fun x1 => (z0f marks x1.in_ (marks.length : Int) (z2v n busy t x1.in_ marks) FUEL 0 ([] : List Int))
def z00 : Con := ⟨168, [.v (.s .net) false, .v (.sl .I) false, .v (.sl (.s .item)) false, .v .I false], [(.B, true)], [], fun x => z3s x.1 x.2.1 x.2.2.1 x.2.2.2.1⟩
def zw5 : Fs := ⟨[z90, z03, z31], [z4l], []⟩
theorem z2p : zw5.Ok Tryz.prog := (fsK zz8 (fsK y31 (fsK z4p (fsF zr4 fs0))))
def z65 : Tmpl := ⟨[(3, .c .i), (4, .c (.bx 4 0)), (5, .c (.bx 5 0)), (9, .c (.s .I)), (10, .c (.ref 500010)), (46, .c (.s (.s .item))), (47, .c .i), (48, .c .i), (58, .c (.s (.s .flow))), (59, .c .i), (60, .c .i)], [(4, .boxT (.s .net)), (5, .box [.s .I]), (500010, .arr .I true)]⟩
def z5p : Tmpl := ⟨[(3, .c .i), (4, .c (.bx 4 0)), (5, .c (.bx 5 0)), (9, .c (.s .I)), (10, .c (.ref 500010)), (46, .c (.s (.s .item))), (47, .c .i), (48, .c .i)], [(4, .boxT (.s .net)), (5, .box [.s .I]), (500010, .arr .I true)]⟩
def zh6 (av : AV) (x : HP z00.ps) (n : Nat) (v : z65.den) (K : Ks (CR z00)) : Option (CR z00) := z14 v.1.2.2.2.2.2.2.2.2.1 v.1.2.2.2.2.2.2.2.2.2.1 (fun l2_1 => z5p.at none ((v.1.1, (), (), v.1.2.2.2.1, (), v.1.2.2.2.2.2.1, v.1.2.2.2.2.2.2.1, v.1.2.2.2.2.2.2.2.1, ()), (v.2.1, (v.2.2.1.1, ()), l2_1, ())) (K (.exit 4))) n v.1.2.2.2.2.2.2.2.2.2.2.1 v.2.2.2.1
def z5x (av : AV) (x : HP z00.ps) : Hdl (CR z00) := hnd [] z65 (zh6 av x)
theorem zi3 : LP z00 Tryz.f168 [1, 0] z5x := lp_ok (W := []) (H := []) (xs := [z5p]) z2p trivial rfl (fun av x v K => by kernel_rfl) (fun av x n v K => by kernel_rfl)
def z7v : Tmpl := ⟨[(2, .c (.s (.s .item))), (3, .c .i), (4, .c (.bx 4 0)), (5, .c (.bx 5 0)), (9, .c (.s .I)), (10, .c (.ref 500010)), (26, .c (.s .I)), (27, .c .i), (28, .c .i)], [(4, .boxT (.s .net)), (5, .box [.s .I]), (500010, .arr .I true)]⟩
def z6l : Tmpl := ⟨[(2, .c (.s (.s .item))), (3, .c .i), (4, .c (.bx 4 0)), (5, .c (.bx 5 0)), (9, .c (.s .I)), (10, .c (.ref 500010))], [(4, .boxT (.s .net)), (5, .box [.s .I]), (500010, .arr .I true)]⟩
def zo9 (av : AV) (x : HP z00.ps) (n : Nat) (v : z7v.den) (K : Ks (CR z00)) : Option (CR z00) := z0f v.1.2.2.2.2.2.2.1 v.1.2.2.2.2.1 v.1.2.2.2.2.2.2.2.1 (fun l0_1 => z6l.at none ((v.1.1, v.1.2.1, (), (), v.1.2.2.2.2.1, (), ()), (v.2.1, (v.2.2.1.1, ()), l0_1, ())) (K (.exit 0))) n v.1.2.2.2.2.2.2.2.2.1 v.2.2.2.1
def z6r (av : AV) (x : HP z00.ps) : Hdl (CR z00) := hnd [.e 10 500010 .I] z7v (zo9 av x)
theorem zq9 : LP z00 Tryz.f168 [0] z6r := lp_ok (W := []) (H := []) (xs := [z6l]) z2p trivial rfl (fun av x v K => by kernel_rfl) (fun av x n v K => by kernel_rfl)
def z7w : Tmpl := ⟨[(3, .c .i), (4, .c (.bx 4 0)), (5, .c (.bx 5 0)), (9, .c (.s .I)), (10, .c (.ref 500010)), (46, .c (.s (.s .item))), (47, .c .i), (48, .c .i)], [(4, .boxT (.s .net)), (5, .box [.s .I]), (500010, .arr .I true)]⟩
def z6m : Tmpl := ⟨[(3, .c .i), (4, .c (.bx 4 0)), (5, .c (.bx 5 0)), (9, .c (.s .I)), (10, .c (.ref 500010))], [(4, .boxT (.s .net)), (5, .box [.s .I]), (500010, .arr .I true)]⟩
def zp0 (av : AV) (x : HP z00.ps) (n : Nat) (v : z7w.den) (K : Ks (CR z00)) : Option (CR z00) := z0g v.2.1 v.1.2.2.2.2.2.1 (fun l1_2 => z6m.at none ((v.1.1, (), (), v.1.2.2.2.1, (), ()), (v.2.1, (v.2.2.1.1, ()), l1_2, ())) (K (.exit 2))) n v.1.2.2.2.2.2.2.1 v.1.2.2.2.2.2.2.2.1 v.2.2.2.1
def z6s (av : AV) (x : HP z00.ps) : Hdl (CR z00) := hnd [] z7w (zp0 av x)
theorem zr0 : LP z00 Tryz.f168 [1] z6s := lp_ok (W := []) (H := [z5x]) (xs := [z6m]) z2p ⟨zi3, trivial⟩ rfl (fun av x v K => by kernel_rfl) (fun av x n v K => by kernel_rfl)
def z7x : Tmpl := ⟨[(3, .c .i), (4, .c (.bx 4 0)), (5, .c (.bx 5 0)), (9, .c (.s .I)), (71, .c (.ref 500010)), (72, .c .i), (73, .c .i)], [(4, .boxT (.s .net)), (5, .box [.s .I]), (500010, .arr .I true)]⟩
def z6n : Tmpl := ⟨[], []⟩
def zp1 (av : AV) (x : HP z00.ps) (n : Nat) (v : z7x.den) (K : Ks (CR z00)) : Option (CR z00) := z0q v.2.1 v.1.1 v.1.2.2.2.1 v.2.2.1.1 v.2.2.2.1 v.1.2.2.2.2.2.1 (z6n.at none ((), ()) (K (.exit 6))) n v.1.2.2.2.2.2.2.1
def z6t (av : AV) (x : HP z00.ps) : Hdl (CR z00) := hnd [] z7x (zp1 av x)
theorem zr1 : LP z00 Tryz.f168 [2] z6t := lp_ok (W := []) (H := []) (xs := [z6n]) z2p trivial rfl (fun av x v K => by kernel_rfl) (fun av x n v K => by kernel_rfl)
theorem y00 : z00.Ok Tryz.prog := fn_ok (k := z00) (fn := Tryz.f168) (W := []) (H := [z6r, z6s, z6t]) Tryz.func168 z2p ⟨zq9, zr0, zr1, trivial⟩ rfl rfl (fun av x => by kernel_rfl)
def z23 (n : GNet) (marks : List Int) (busy : List GItem) (t : Int) (s0_0 : Bool) (s0_2 : Bool) : Option Bool := (getI n.tasks t).bind fun x14 => (if decide (x14.join = 1) = true then (some s0_0) else (if decide (x14.join = 2) = true then (some s0_2) else (if s0_2 = true then (if s0_0 = true then (some true) else ((z3s n marks busy t).bind fun x19 => (some (!x19)))) else (some false))))
def z0h (marks : List Int) (p0_0 : List Int) (p0_1 : Int) (kx0_0 : Bool → Bool → Option Bool) : Nat → Bool → Int → Bool → Option Bool
  | 0, _, _, _ => none
  | n0 + 1, s0_0, s0_1, s0_2 => if decide (s0_1 < p0_1) = true then ((getI p0_0 s0_1).bind fun x3 => (if s0_2 = true then (if s0_0 = true then ((getI marks x3).bind fun x6 => (gd (ok64 (s0_1 + 1)) ((z0h marks p0_0 p0_1 kx0_0 n0) (decide (0 < x6)) (s0_1 + 1) true))) else (gd (ok64 (s0_1 + 1)) ((z0h marks p0_0 p0_1 kx0_0 n0) false (s0_1 + 1) true))) else ((getI marks x3).bind fun x9 => (if s0_0 = true then ((getI marks x3).bind fun x11 => (gd (ok64 (s0_1 + 1)) ((z0h marks p0_0 p0_1 kx0_0 n0) (decide (0 < x11)) (s0_1 + 1) (decide (0 < x9))))) else (gd (ok64 (s0_1 + 1)) ((z0h marks p0_0 p0_1 kx0_0 n0) false (s0_1 + 1) (decide (0 < x9)))))))) else (kx0_0 s0_0 s0_2)
def z44 (n : GNet) (marks : List Int) (busy : List GItem) (t : Int) : Option Bool := (getI n.tasks t).bind fun x1 => (z0h marks x1.in_ (x1.in_.length : Int) (z23 n marks busy t) FUEL true 0 false)
def z0x : Con := ⟨104, [.v (.s .net) false, .v (.sl .I) false, .v (.sl (.s .item)) false, .v .I false], [(.B, true)], [], fun x => z44 x.1 x.2.1 x.2.2.1 x.2.2.2.1⟩
def y4y : Fs := ⟨[z00], [], []⟩
theorem zk2 : y4y.Ok Tryz.prog := (fsK y00 fs0)
def ze1 : Tmpl := ⟨[(1, .c (.s .I)), (2, .c (.s (.s .item))), (3, .c .i), (4, .c (.bx 4 0)), (9, .c .b), (10, .c .b), (18, .c (.s .I)), (19, .c .i), (20, .c .i)], [(4, .boxT (.s .net))]⟩
def z9s : Tmpl := ⟨[(1, .c (.s .I)), (2, .c (.s (.s .item))), (3, .c .i), (4, .c (.bx 4 0)), (9, .c .b), (10, .c .b)], [(4, .boxT (.s .net))]⟩
def y2h (av : AV) (x : HP z0x.ps) (n : Nat) (v : ze1.den) (K : Ks (CR z0x)) : Option (CR z0x) := z0h v.1.1 v.1.2.2.2.2.2.2.1 v.1.2.2.2.2.2.2.2.1 (fun s0_0 s0_2 => z9s.at none ((v.1.1, v.1.2.1, v.1.2.2.1, (), s0_2, s0_0, ()), (v.2.1, ())) (K (.exit 0))) n v.1.2.2.2.2.2.1 v.1.2.2.2.2.2.2.2.2.1 v.1.2.2.2.2.1
def zc4 (av : AV) (x : HP z0x.ps) : Hdl (CR z0x) := hnd [] ze1 (y2h av x)
theorem y2u : LP z0x Tryz.f104 [0] zc4 := lp_ok (W := []) (H := []) (xs := [z9s]) zk2 trivial rfl (fun av x v K => by kernel_rfl) (fun av x n v K => by kernel_rfl)
theorem zm6 : z0x.Ok Tryz.prog := fn_ok (k := z0x) (fn := Tryz.f104) (W := []) (H := [zc4]) Tryz.func104 zk2 ⟨y2u, trivial⟩ rfl rfl (fun av x => by kernel_rfl)
def z72 (n : GNet) (marks : List Int) (busy : List GItem) (t : Int) : Option Bool := (z6i n marks).bind fun x1 => (if x1 = true then ((z22 n busy).bind fun x3 => (if x3 = true then ((z0k n t).bind fun x5 => (if x5 = true then ((z44 n marks busy t).bind fun x7 => (some x7)) else (some false))) else (some false))) else (some false))
def za0 : Con := ⟨33, [.v (.s .net) false, .v (.sl .I) false, .v (.sl (.s .item)) false, .v .I false], [(.B, true)], [], fun x => z72 x.1 x.2.1 x.2.2.1 x.2.2.2.1⟩
def ym2 : Fs := ⟨[z91, z0e, z1l, z0x], [], []⟩
theorem yo4 : ym2.Ok Tryz.prog := (fsK zz9 (fsK z5v (fsK z3w (fsK zm6 fs0))))
theorem y3y : za0.Ok Tryz.prog := fn_ok (k := za0) (fn := Tryz.f33) (W := []) (H := []) Tryz.func33 yo4 trivial rfl rfl (fun av x => by kernel_rfl)
def z74 (l0_1 : List Int) : Option (List Int) := some l0_1
def z1w (n : GNet) (marks : List Int) (busy : List GItem) (p0_0 : Int) (kx0_0 : List Int → Option (List Int)) : Nat → Int → List Int → Option (List Int)
  | 0, _, _ => none
  | n0 + 1, s0_0, l0_1 => if decide (s0_0 < p0_0) = true then ((z44 n marks busy s0_0).bind fun x6 => (if x6 = true then (gd (l0_1.length + [s0_0].length ≤ SMALL) (gd (ok64 (s0_0 + 1)) ((z1w n marks busy p0_0 kx0_0 n0) (s0_0 + 1) (l0_1 ++ [s0_0])))) else (gd (ok64 (s0_0 + 1)) ((z1w n marks busy p0_0 kx0_0 n0) (s0_0 + 1) l0_1)))) else (kx0_0 l0_1)
def z73 (n : GNet) (marks : List Int) (busy : List GItem) : Option (List Int) := (z6i n marks).bind fun x1 => (if x1 = true then ((z22 n busy).bind fun x3 => (if x3 = true then (z1w n marks busy (n.tasks.length : Int) z74 FUEL 0 ([] : List Int)) else (some []))) else (some []))
def z1t : Con := ⟨110, [.v (.s .net) false, .v (.sl .I) false, .v (.sl (.s .item)) false], [((.sl .I), true)], [], fun x => z73 x.1 x.2.1 x.2.2.1⟩
def y8h : Fs := ⟨[z91, z0e, z0x], [], []⟩
theorem zw9 : y8h.Ok Tryz.prog := (fsK zz9 (fsK z5v (fsK zm6 fs0)))
def zn0 : Tmpl := ⟨[(1, .c (.s .I)), (2, .c (.s (.s .item))), (3, .c (.bx 3 0)), (7, .c (.ref 500007)), (21, .c .i), (22, .c .i)], [(3, .boxT (.s .net)), (500007, .arr .I true)]⟩
def zg7 : Tmpl := ⟨[(7, .c (.ref 500007))], [(500007, .arr .I true)]⟩
def y4m (av : AV) (x : HP z1t.ps) (n : Nat) (v : zn0.den) (K : Ks (CR z1t)) : Option (CR z1t) := z1w v.2.1 v.1.1 v.1.2.1 v.1.2.2.2.2.1 (fun l0_1 => zg7.at none (((), ()), (l0_1, ())) (K (.exit 0))) n v.1.2.2.2.2.2.1 v.2.2.1
def zk4 (av : AV) (x : HP z1t.ps) : Hdl (CR z1t) := hnd [.e 7 500007 .I] zn0 (y4m av x)
theorem y5a : LP z1t Tryz.f110 [0] zk4 := lp_ok (W := []) (H := []) (xs := [zg7]) zw9 trivial rfl (fun av x v K => by kernel_rfl) (fun av x n v K => by kernel_rfl)
theorem y9j : z1t.Ok Tryz.prog := fn_ok (k := z1t) (fn := Tryz.f110) (W := []) (H := [zk4]) Tryz.func110 zw9 ⟨y5a, trivial⟩ rfl rfl (fun av x => by kernel_rfl)
def z94 (l0_1 : List Int) (x4 : Int) (x7 : Int) : Option (List Int) := some (l0_1.set x4.toNat (x7 - 1))
def z95 (l0_1 : List Int) : Option (List Int) := some l0_1
def z15 (n : GNet) (t : Int) (p0_0 : List Int) (p0_1 : Int) (kx0_0 : List Int → Int → Int → Option (List Int)) (kx0_1 : List Int → Option (List Int)) : Nat → Int → List Int → Option (List Int)
  | 0, _, _ => none
  | n0 + 1, s0_0, l0_1 => if decide (s0_0 < p0_1) = true then ((getI p0_0 s0_0).bind fun x4 => ((getI l0_1 x4).bind fun x5 => (if decide (0 < x5) = true then ((getI l0_1 x4).bind fun x7 => (gd (ok64 (x7 - 1)) ((getI l0_1 x4).bind fun x9 => ((getI n.tasks t).bind fun x10 => (if decide (x10.join = 2) = true then (kx0_0 l0_1 x4 x7) else (gd (ok64 (s0_0 + 1)) ((z15 n t p0_0 p0_1 kx0_0 kx0_1 n0) (s0_0 + 1) (l0_1.set x4.toNat (x7 - 1))))))))) else (gd (ok64 (s0_0 + 1)) ((z15 n t p0_0 p0_1 kx0_0 kx0_1 n0) (s0_0 + 1) l0_1))))) else (kx0_1 l0_1)
def z4s (n : GNet) (marks : List Int) (t : Int) : Option (List Int) := (z3i marks).bind fun x1 => ((getI n.tasks t).bind fun x2 => (z15 n t x2.in_ (x2.in_.length : Int) z94 z95 FUEL 0 x1))
def z0z : Con := ⟨93, [.v (.s .net) false, .v (.sl .I) false, .v .I false], [((.sl .I), true)], [], fun x => z4s x.1 x.2.1 x.2.2.1⟩
def y3d : Fs := ⟨[z69], [], []⟩
theorem ze8 : y3d.Ok Tryz.prog := (fsK zt7 fs0)
def z9p : Tmpl := ⟨[(2, .c .i), (3, .c (.bx 3 0)), (7, .c (.ref 11)), (17, .c (.s .I)), (18, .c .i), (19, .c .i)], [(3, .boxT (.s .net)), (11, .arr .I true)]⟩
def z5d : Tmpl := ⟨[(7, .c (.ref 11))], [(11, .arr .I true)]⟩
def y13 (av : AV) (x : HP z0z.ps) (n : Nat) (v : z9p.den) (K : Ks (CR z0z)) : Option (CR z0z) := z15 v.2.1 v.1.1 v.1.2.2.2.1 v.1.2.2.2.2.1 (fun l0_1 x4 x7 => z5d.at none (((), ()), ((l0_1.set x4.toNat (x7 - 1)), ())) (K (.exit 0))) (fun l0_1 => z5d.at none (((), ()), (l0_1, ())) (K (.exit 0))) n v.1.2.2.2.2.2.1 v.2.2.1
def z9k (av : AV) (x : HP z0z.ps) : Hdl (CR z0z) := hnd [] z9p (y13 av x)
theorem y1c : LP z0z Tryz.f93 [0] z9k := lp_ok (W := []) (H := []) (xs := [z5d]) ze8 trivial rfl (fun av x v K => by kernel_rfl) (fun av x n v K => by kernel_rfl)
theorem y3z : z0z.Ok Tryz.prog := fn_ok (k := z0z) (fn := Tryz.f93) (W := []) (H := [z9k]) Tryz.func93 ze8 ⟨y1c, trivial⟩ rfl rfl (fun av x => by kernel_rfl)
def zi7 (n : Int) : Option Bool := (z0u n 0 7).bind fun x1 => (some (!x1))
def zj2 : FCon := ⟨119, .I, [], fun z c => zi7 z ⟩
def yd2 : Fs := ⟨[z2q], [], []⟩
theorem yf1 : yd2.Ok Tryz.prog := (fsK z3e fs0)
theorem yh0 : zj2.Ok Tryz.prog := FCon.ok (fn_ok (k := zj2.con) (fn := Tryz.f119) (W := []) (H := []) Tryz.func119 yf1 trivial rfl rfl (fun av x => by kernel_rfl))
def z97 (people : List Int) : Option Bool := (z0u (people.length : Int) 1 4).bind fun x1 => (if x1 = true then ((z1i people (fun z => zi7 z )).bind fun x3 => (some (!x3))) else (some false))
def zf2 : Con := ⟨50, [.v (.sl .I) false], [(.B, true)], [], fun x => z97 x.1⟩
def yx2 : Fs := ⟨[z2q, z31], [zj2], []⟩
theorem yz1 : yx2.Ok Tryz.prog := (fsK z3e (fsK z4p (fsF yh0 fs0)))
theorem y6g : zf2.Ok Tryz.prog := fn_ok (k := zf2) (fn := Tryz.f50) (W := []) (H := []) Tryz.func50 yz1 trivial rfl rfl (fun av x => by kernel_rfl)
def za7 (people : List Int) (who : Int) (role : Int) : Option Bool := (z97 people).bind fun x1 => (if x1 = true then ((z0u who 1 (people.length : Int)).bind fun x3 => (if x3 = true then ((z76 role).bind fun x5 => (if x5 = true then (gd (ok64 (who - 1)) ((getI people (who - 1)).bind fun x8 => (gd (ok64 (role - 1)) (gd ((0 : Int) ≤ (role - 1) ∧ (role - 1) ≤ (63 : Int)) (some (decide ((andI (shrI x8 (role - 1)) 1) = 1))))))) else (some false))) else (some false))) else (some false))
def zq1 : Con := ⟨80, [.v (.sl .I) false, .v .I false, .v .I false], [(.B, true)], [], fun x => za7 x.1 x.2.1 x.2.2.1⟩
def ym4 : Fs := ⟨[zf2, z2q, za1], [], []⟩
theorem yo6 : ym4.Ok Tryz.prog := (fsK y6g (fsK z3e (fsK y40 fs0)))
theorem yr2 : zq1.Ok Tryz.prog := fn_ok (k := zq1) (fn := Tryz.f80) (W := []) (H := []) Tryz.func80 yo6 trivial rfl rfl (fun av x => by kernel_rfl)
def za6 (did : List GDid) (who : Int) (task : Int) : Option Bool := (zd4 did (GDid.mk task who)).bind fun x1 => (some x1)
def zq0 : Con := ⟨109, [.v (.sl (.s .did)) false, .v .I false, .v .I false], [(.B, true)], [], fun x => za6 x.1 x.2.1 x.2.2.1⟩
def ym3 : Fs := ⟨[zc8], [], []⟩
theorem yo5 : ym3.Ok Tryz.prog := (fsK y9g fs0)
theorem yr1 : zq0.Ok Tryz.prog := fn_ok (k := zq0) (fn := Tryz.f109) (W := []) (H := []) Tryz.func109 yo5 trivial rfl rfl (fun av x => by kernel_rfl)
def z8g (l0_1 : List Int) : Option (List Int) := some l0_1
def z29 (p : Int → Option Bool) (p0_0 : Int) (kx0_0 : List Int → Option (List Int)) : Nat → Int → List Int → Option (List Int)
  | 0, _, _ => none
  | n0 + 1, s0_0, l0_1 => if decide (s0_0 < p0_0) = true then (gd (ok64 (s0_0 + 1)) ((p (s0_0 + 1)).bind fun x5 => (if x5 = true then (gd (ok64 (s0_0 + 1)) (gd (l0_1.length + [(s0_0 + 1)].length ≤ SMALL) (gd (ok64 (s0_0 + 1)) ((z29 p p0_0 kx0_0 n0) (s0_0 + 1) (l0_1 ++ [(s0_0 + 1)]))))) else (gd (ok64 (s0_0 + 1)) ((z29 p p0_0 kx0_0 n0) (s0_0 + 1) l0_1))))) else (kx0_0 l0_1)
def zi8 (people : List Int) (p : Int → Option Bool) : Option (List Int) := (z97 people).bind fun x1 => (if x1 = true then (z29 p (people.length : Int) z8g FUEL 0 ([] : List Int)) else (some []))
def z1q : Con := ⟨105, [.v (.sl .I) false, .fn .I], [((.sl .I), true)], [], fun x => zi8 x.1 x.2.1⟩
def yd5 : Fs := ⟨[zf2], [], []⟩
theorem y1i : yd5.Ok Tryz.prog := (fsK y6g fs0)
def zt9 : Tmpl := ⟨[(1, .c .fp), (5, .c (.ref 500005)), (11, .c .i), (12, .c .i)], [(500005, .arr .I true)]⟩
def zo0 : Tmpl := ⟨[(5, .c (.ref 500005))], [(500005, .arr .I true)]⟩
def y6r (av : AV) (x : HP z1q.ps) (n : Nat) (v : zt9.den) (K : Ks (CR z1q)) : Option (CR z1q) := z29 x.2.1 v.1.2.2.1 (fun l0_1 => zo0.at (fpOf z1q.ps x av) (((), ()), (l0_1, ())) (K (.exit 0))) n v.1.2.2.2.1 v.2.1
def zs1 (av : AV) (x : HP z1q.ps) : Hdl (CR z1q) := hnd [.e 5 500005 .I] zt9 (y6r av x)
theorem y7b : LP z1q Tryz.f105 [0] zs1 := lp_ok (W := []) (H := []) (xs := [zo0]) y1i trivial rfl (fun av x v K => by kernel_rfl) (fun av x n v K => by kernel_rfl)
theorem yh2 : z1q.Ok Tryz.prog := fn_ok (k := z1q) (fn := Tryz.f105) (W := []) (H := [zs1]) Tryz.func105 y1i ⟨y7b, trivial⟩ rfl rfl (fun av x => by kernel_rfl)
def z8f (b : GItem) (task : GTask) (who : Int) : Option Bool := if decide (b.task = task.apart) = true then (some (decide (b.who = who))) else (some false)
def z8j : FCon := ⟨108, (.s .item), [(.s .task), .I], fun z c => z8f z c.1 c.2.1⟩
def y50 : Fs := ⟨[], [], []⟩
theorem y56 : y50.Ok Tryz.prog := fs0
theorem y5n : z8j.Ok Tryz.prog := FCon.ok (fn_ok (k := z8j.con) (fn := Tryz.f108) (W := []) (H := []) Tryz.func108 y56 trivial rfl rfl (fun av x => by kernel_rfl))
def z55 (who : Int) (busy : List GItem) (task : GTask) (people : List Int) (did : List GDid) : Option Bool := (z3y busy (fun z => z8f z task who)).bind fun x1 => ((za7 people who task.role).bind fun x2 => (if x2 = true then (if x1 = true then (some false) else ((za6 did who task.apart).bind fun x5 => (some (!x5)))) else (some false)))
def zd8 : FCon := ⟨106, .I, [(.sl (.s .item)), (.s .task), (.sl .I), (.sl (.s .did))], fun z c => z55 z c.1 c.2.1 c.2.2.1 c.2.2.2.1⟩
def y8i : Fs := ⟨[z5s, zq1, zq0], [z8j], []⟩
theorem y8z : y8i.Ok Tryz.prog := (fsK y1d (fsK yr2 (fsK yr1 (fsF y5n fs0))))
theorem y9k : zd8.Ok Tryz.prog := FCon.ok (fn_ok (k := zd8.con) (fn := Tryz.f106) (W := []) (H := []) Tryz.func106 y8z trivial rfl rfl (fun av x => by kernel_rfl))
def za8 (n : GNet) (people : List Int) (did : List GDid) (busy : List GItem) (t : Int) : Option (List Int) := (z96 n).bind fun x1 => (if x1 = true then ((z0k n t).bind fun x3 => (if x3 = true then ((getI n.tasks t).bind fun x5 => ((zi8 people (fun z => z55 z busy x5 people did)).bind fun x6 => (some x6))) else (some []))) else (some []))
def zq2 : Con := ⟨35, [.v (.s .net) false, .v (.sl .I) false, .v (.sl (.s .did)) false, .v (.sl (.s .item)) false, .v .I false], [((.sl .I), true)], [], fun x => za8 x.1 x.2.1 x.2.2.1 x.2.2.2.1 x.2.2.2.2.1⟩
def ym5 : Fs := ⟨[zf1, z1l, z1q], [zd8], []⟩
theorem yo7 : ym5.Ok Tryz.prog := (fsK y6f (fsK z3w (fsK yh2 (fsF y9k fs0))))
theorem yr3 : zq2.Ok Tryz.prog := fn_ok (k := zq2) (fn := Tryz.f35) (W := []) (H := []) Tryz.func35 yo7 trivial rfl rfl (fun av x => by kernel_rfl)
def z6z (c : GCase) : Option Bool := if decide (c.state = 1) = true then ((getI c.marks 1).bind fun x16 => (some (decide (x16 = 0)))) else (if decide (c.state = 2) = true then (if decide ((c.busy.length : Int) = 0) = true then ((getI c.marks 1).bind fun x19 => (some ((decide (c.state = 2)) == (decide (0 < x19))))) else (some false)) else (if decide (c.state = 3) = true then (if decide ((c.busy.length : Int) = 0) = true then ((getI c.marks 1).bind fun x22 => (some ((decide (c.state = 2)) == (decide (0 < x22))))) else (some false)) else (some false)))
def z42 (n : GNet) (p0_0 : List GDid) (p0_1 : Int) (kx0_0 : Option Bool) : Nat → Int → Option Bool
  | 0, _ => none
  | n0 + 1, s0_0 => if decide (s0_0 < p0_1) = true then ((getI p0_0 s0_0).bind fun x9 => ((z0k n x9.task).bind fun x10 => (if x10 = true then ((z56 x9.who).bind fun x12 => (if x12 = true then (gd (ok64 (s0_0 + 1)) ((z42 n p0_0 p0_1 kx0_0 n0) (s0_0 + 1))) else (some false))) else (some false)))) else (kx0_0)
def zf5 (n : GNet) (c : GCase) : Option Bool := (z6i n c.marks).bind fun x1 => (if x1 = true then ((z22 n c.busy).bind fun x3 => (if x3 = true then ((z92 c.data).bind fun x5 => (if x5 = true then (if decide (60 < (c.did.length : Int)) = true then (some false) else (z42 n c.did (c.did.length : Int) (z6z c) FUEL 0)) else (some false))) else (some false))) else (some false))
def z3p : Con := ⟨30, [.v (.s .net) false, .v (.s .kase) false], [(.B, true)], [], fun x => zf5 x.1 x.2.1⟩
def yw7 : Fs := ⟨[z91, z0e, zf0, z1l, z6x], [], []⟩
theorem y5y : yw7.Ok Tryz.prog := (fsK zz9 (fsK z5v (fsK y6e (fsK z3w (fsK y03 fs0)))))
def y26 : Tmpl := ⟨[(2, .c (.bx 2 0)), (3, .c (.bx 3 0)), (32, .c (.s (.s .did))), (33, .c .i), (34, .c .i)], [(2, .boxT (.s .net)), (3, .boxT (.s .kase))]⟩
def y0l : Tmpl := ⟨[(3, .c (.bx 3 0))], [(3, .boxT (.s .kase))]⟩
def yc1 (av : AV) (x : HP z3p.ps) (n : Nat) (v : y26.den) (K : Ks (CR z3p)) : Option (CR z3p) := z42 v.2.1 v.1.2.2.1 v.1.2.2.2.1 (y0l.at none (((), ()), (v.2.2.1, ())) (K (.exit 0))) n v.1.2.2.2.2.1
def y1q (av : AV) (x : HP z3p.ps) : Hdl (CR z3p) := hnd [] y26 (yc1 av x)
theorem yf9 : LP z3p Tryz.f30 [0] y1q := lp_ok (W := []) (H := []) (xs := [y0l]) y5y trivial rfl (fun av x v K => by kernel_rfl) (fun av x n v K => by kernel_rfl)
theorem w06 : z3p.Ok Tryz.prog := fn_ok (k := z3p) (fn := Tryz.f30) (W := []) (H := [y1q]) Tryz.func30 y5y ⟨yf9, trivial⟩ rfl rfl (fun av x => by kernel_rfl)
def z61 (n : GNet) (c : GCase) : Option Bool := (zf5 n c).bind fun x1 => (if x1 = true then (some (decide (c.state = 1))) else (some false))
def z8n : Con := ⟨85, [.v (.s .net) false, .v (.s .kase) false], [(.B, true)], [], fun x => z61 x.1 x.2.1⟩
def yd6 : Fs := ⟨[z3p], [], []⟩
theorem yf3 : yd6.Ok Tryz.prog := (fsK w06 fs0)
theorem y23 : z8n.Ok Tryz.prog := fn_ok (k := z8n) (fn := Tryz.f85) (W := []) (H := []) Tryz.func85 yf3 trivial rfl rfl (fun av x => by kernel_rfl)
def z70 (n : GNet) (people : List Int) (c : GCase) (t : Int) (who : Int) : Option (GCase × Bool) := (z21 c).bind fun x1 => ((z61 n c).bind fun x2 => (if x2 = true then (if decide ((c.busy.length : Int) = 6) = true then (some (x1, false)) else ((z72 n c.marks c.busy t).bind fun x5 => (if x5 = true then ((za8 n people c.did c.busy t).bind fun x7 => ((z6g x7 who).bind fun x8 => (if x8 = true then ((z4s n c.marks t).bind fun x10 => (gd (x1.busy.length + [(GItem.mk t who 0)].length ≤ SMALL) ((z21 (GCase.mk x1.state x10 (x1.busy ++ [(GItem.mk t who 0)]) x1.data x1.did)).bind fun x12 => (some (x12, true))))) else (some (x1, false))))) else (some (x1, false))))) else (some (x1, false))))
def zc9 : Con := ⟨27, [.v (.s .net) false, .v (.sl .I) false, .v (.s .kase) false, .v .I false, .v .I false], [((.s .kase), true), (.B, true)], [], fun x => z70 x.1 x.2.1 x.2.2.1 x.2.2.2.1 x.2.2.2.2.1⟩
def y8f : Fs := ⟨[z5u, z8n, za0, zq2, z90, z0z], [], []⟩
theorem y8x : y8f.Ok Tryz.prog := (fsK y1f (fsK y23 (fsK y3y (fsK yr3 (fsK zz8 (fsK y3z fs0))))))
theorem y9h : zc9.Ok Tryz.prog := fn_ok (k := zc9) (fn := Tryz.f27) (W := []) (H := []) Tryz.func27 y8x trivial rfl rfl (fun av x => by kernel_rfl)
def z7a (n : GNet) (c : GCase) : Option Bool := (z57 n c).bind fun x1 => (if x1 = true then (if decide (c.state = 1) = true then (if decide ((c.busy.length : Int) = 0) = true then ((z48 n c.marks c.busy).bind fun x5 => (some (decide ((x5.length : Int) = 0)))) else (some false)) else (some false)) else (some false))
def zd2 : Con := ⟨40, [.v (.s .net) false, .v (.s .kase) false], [(.B, true)], [], fun x => z7a x.1 x.2.1⟩
def y8l : Fs := ⟨[z24, z1h], [], []⟩
theorem y92 : y8l.Ok Tryz.prog := (fsK zg2 (fsK y05 fs0))
theorem y9n : zd2.Ok Tryz.prog := fn_ok (k := zd2) (fn := Tryz.f40) (W := []) (H := []) Tryz.func40 y92 trivial rfl rfl (fun av x => by kernel_rfl)
def z71 (n : GNet) (c : GCase) : Option Bool := (z61 n c).bind fun x1 => (if x1 = true then (if decide ((c.busy.length : Int) = 0) = true then ((z73 n c.marks []).bind fun x4 => (some (decide ((x4.length : Int) = 0)))) else (some false)) else (some false))
def zd0 : Con := ⟨39, [.v (.s .net) false, .v (.s .kase) false], [(.B, true)], [], fun x => z71 x.1 x.2.1⟩
def y8g : Fs := ⟨[z8n, z1t], [], []⟩
theorem y8y : y8g.Ok Tryz.prog := (fsK y23 (fsK y9j fs0))
theorem y9i : zd0.Ok Tryz.prog := fn_ok (k := zd0) (fn := Tryz.f39) (W := []) (H := []) Tryz.func39 y8y trivial rfl rfl (fun av x => by kernel_rfl)
def z8s (code : List Int) : Option GRd := if decide (2000 < (code.length : Int)) = true then (gd ((0 : Int) ≤ 2000 ∧ 2000 ≤ (code.length : Int)) (some (GRd.mk (code.take (2000 : Int).toNat) 0))) else (some (GRd.mk code 0))
def y20 : BCon := ⟨83, fun x => z8s x⟩
def ye3 : Fs := ⟨[], [], []⟩
theorem yf6 : ye3.Ok Tryz.prog := fs0
theorem yh9 : y20.Ok Tryz.prog := wa5 (fn := Tryz.f83) Tryz.func83 yf6 rfl rfl rfl rfl rfl (fun l => by kernel_rfl)
def z07 (r : GRd) (n : Int) : Option (Int × GRd) := gd (ok64 (r.p + 1)) (if decide (n < 1) = true then (some (0, (GRd.mk r.b (r.p + 1)))) else (if decide ((r.b.length : Int) = 0) = true then (some (0, (GRd.mk r.b (r.p + 1)))) else (gd (ok64 ((r.p + 1) - 1)) (if decide (((r.p + 1) - 1) < (r.b.length : Int)) = true then ((getI r.b ((r.p + 1) - 1)).bind fun x6 => (gd (ok64 x6) (gd ((n : Int) ≠ 0) (some ((Int.tmod x6 n), (GRd.mk r.b (r.p + 1))))))) else (gd (((r.b.length : Int) : Int) ≠ 0) ((getI r.b (Int.tmod ((r.p + 1) - 1) (r.b.length : Int))).bind fun x10 => (gd (ok64 x10) (gd (ok64 (x10 * 131)) (gd (ok64 (((r.p + 1) - 1) * 7)) (gd (ok64 ((((r.p + 1) - 1) * 7) + 3)) (gd (((r.b.length : Int) : Int) ≠ 0) ((getI r.b (Int.tmod ((((r.p + 1) - 1) * 7) + 3) (r.b.length : Int))).bind fun x16 => (gd (ok64 x16) (gd (ok64 (x16 * 1117)) (gd (ok64 ((x10 * 131) + (x16 * 1117))) (gd (ok64 (((r.p + 1) - 1) * 29)) (gd (ok64 (((x10 * 131) + (x16 * 1117)) + (((r.p + 1) - 1) * 29))) (gd (((r.b.length : Int) : Int) ≠ 0 ∧ ok64 (Int.tdiv ((r.p + 1) - 1) (r.b.length : Int))) (gd (ok64 ((Int.tdiv ((r.p + 1) - 1) (r.b.length : Int)) * 53)) (gd (ok64 ((((x10 * 131) + (x16 * 1117)) + (((r.p + 1) - 1) * 29)) + ((Int.tdiv ((r.p + 1) - 1) (r.b.length : Int)) * 53))) (gd ((64 : Int) ≠ 0 ∧ ok64 (Int.tdiv ((((x10 * 131) + (x16 * 1117)) + (((r.p + 1) - 1) * 29)) + ((Int.tdiv ((r.p + 1) - 1) (r.b.length : Int)) * 53)) 64)) (gd ((n : Int) ≠ 0) (some ((Int.tmod (xorI ((((x10 * 131) + (x16 * 1117)) + (((r.p + 1) - 1) * 29)) + ((Int.tdiv ((r.p + 1) - 1) (r.b.length : Int)) * 53)) (Int.tdiv ((((x10 * 131) + (x16 * 1117)) + (((r.p + 1) - 1) * 29)) + ((Int.tdiv ((r.p + 1) - 1) (r.b.length : Int)) * 53)) 64)) n), (GRd.mk r.b (r.p + 1))))))))))))))))))))))))))
def zl3 : Con := ⟨98, [.ptr (.s .rd) false, .v .I false], [(.I, true)], [(0, .ptr (.s .rd) false)], fun x => z07 x.1 x.2.1⟩
def we8 : Fs := ⟨[], [], []⟩
theorem we9 : we8.Ok Tryz.prog := fs0
theorem y04 : zl3.Ok Tryz.prog := fn_ok (k := zl3) (fn := Tryz.f98) (W := []) (H := []) Tryz.func98 we9 trivial rfl rfl (fun av x => by kernel_rfl)
def z5n (n : Int) (s0_0 : List Int) (s0_1 : Int) (l0_3 : List Int) : Option ((List Int) × GRd) := (z07 (GRd.mk s0_0 s0_1) n).bind fun x7 => (if decide (x7.1 = 0) = true then ((z07 x7.2 3).bind fun x9 => (if decide (x9.1 = 0) = true then ((z07 x9.2 3).bind fun x11 => ((z07 x11.2 4).bind fun x12 => ((getI [100, (-100), 9223372036854775807, (-9223372036854775808)] x12.1).bind fun x13 => ((getI l0_3 x11.1).bind fun x14 => (some ((l0_3.set x11.1.toNat x13), x12.2)))))) else (if decide (x9.1 = 1) = true then (gd ((0 : Int) ≤ 1 ∧ 1 ≤ (l0_3.length : Int)) (some ((l0_3.drop (1 : Int).toNat), x9.2))) else (gd (l0_3.length + [0].length ≤ SMALL) (some ((l0_3 ++ [0]), x9.2)))))) else (some (l0_3, x7.2)))
def z3c (kx0_0 : List Int → Int → List Int → Option ((List Int) × GRd)) : Nat → List Int → Int → Int → List Int → Option ((List Int) × GRd)
  | 0, _, _, _, _ => none
  | n0 + 1, s0_0, s0_1, s0_2, l0_3 => if decide (s0_2 < 3) = true then ((z07 (GRd.mk s0_0 s0_1) 9).bind fun x2 => ((z07 x2.2 7).bind fun x3 => ((getI [0, 1, (-1), 5, 99, (-99), x2.1] x3.1).bind fun x4 => (gd (l0_3.length + [x4].length ≤ SMALL) (gd (ok64 (s0_2 + 1)) ((z3c kx0_0 n0) x3.2.b x3.2.p (s0_2 + 1) (l0_3 ++ [x4]))))))) else (kx0_0 s0_0 s0_1 l0_3)
def z62 (r : GRd) (n : Int) : Option ((List Int) × GRd) := z3c (z5n n) FUEL r.b r.p 0 ([] : List Int)
def z2k : Con := ⟨156, [.ptr (.s .rd) false, .v .I false], [((.sl .I), false)], [(0, .ptr (.s .rd) false)], fun x => z62 x.1 x.2.1⟩
def ye2 : Fs := ⟨[zl3], [], []⟩
theorem y1l : ye2.Ok Tryz.prog := (fsK y04 fs0)
def zu4 : Tmpl := ⟨[(0, .c (.bx 1000000 0)), (1, .c .i), (5, .c (.ref 7)), (6, .c .i)], [(1000000, .box [.s .Y, .i]), (7, .arr .I true)]⟩
def zo4 : Tmpl := ⟨[(0, .c (.bx 1000000 0)), (1, .c .i), (5, .c (.ref 7))], [(1000000, .box [.s .Y, .i]), (7, .arr .I true)]⟩
def y6w (av : AV) (x : HP z2k.ps) (n : Nat) (v : zu4.den) (K : Ks (CR z2k)) : Option (CR z2k) := z3c (fun s0_0 s0_1 l0_3 => zo4.at none (((), v.1.2.1, (), ()), ((s0_0, s0_1, ()), l0_3, ())) (K (.exit 0))) n v.2.1.1 v.2.1.2.1 v.1.2.2.2.1 v.2.2.1
def zs6 (av : AV) (x : HP z2k.ps) : Hdl (CR z2k) := hnd [] zu4 (y6w av x)
theorem y7g : LP z2k Tryz.f156 [0] zs6 := lp_ok (W := [(12, [.froz 7])]) (H := []) (xs := [zo4]) y1l trivial rfl (fun av x v K => by kernel_rfl) (fun av x n v K => by kernel_rfl)
theorem yh8 : z2k.Ok Tryz.prog := fn_ok (k := z2k) (fn := Tryz.f156) (W := [(12, [.froz 7])]) (H := [zs6]) Tryz.func156 y1l ⟨y7g, trivial⟩ rfl rfl (fun av x => by kernel_rfl)
def zb5 (r : GRd) (n : Int) : Option (GAsk × GRd) := (z07 r 3).bind fun x1 => (gd (ok64 (1 + x1.1)) ((z07 x1.2 3).bind fun x3 => ((z07 x3.2 9).bind fun x4 => ((z07 x4.2 6).bind fun x5 => ((getI [0, 1, 2, 5, (-1), x4.1] x5.1).bind fun x6 => ((z07 x5.2 6).bind fun x7 => (if decide (x7.1 = 0) = true then ((z07 x7.2 n).bind fun x9 => (if decide (x9.1 = 0) = true then ((z07 x9.2 3).bind fun x11 => (if decide (x11.1 = 0) = true then ((z07 x11.2 3).bind fun x13 => ((getI [0, 4, (-1)] x13.1).bind fun x14 => (some ((GAsk.mk x14 0 0), x13.2)))) else (if decide (x11.1 = 1) = true then ((z07 x11.2 3).bind fun x16 => ((getI [3, (-1), 1] x16.1).bind fun x17 => (some ((GAsk.mk 0 x17 0), x16.2)))) else ((z07 x11.2 3).bind fun x18 => ((getI [99, 100, (-99)] x18.1).bind fun x19 => (some ((GAsk.mk 0 0 x19), x18.2))))))) else (some ((GAsk.mk 0 0 0), x9.2)))) else ((z07 x7.2 n).bind fun x20 => (if decide (x20.1 = 0) = true then ((z07 x20.2 3).bind fun x22 => (if decide (x22.1 = 0) = true then ((z07 x22.2 3).bind fun x24 => ((getI [0, 4, (-1)] x24.1).bind fun x25 => (some ((GAsk.mk x25 x3.1 x6), x24.2)))) else (if decide (x22.1 = 1) = true then ((z07 x22.2 3).bind fun x27 => ((getI [3, (-1), 1] x27.1).bind fun x28 => (some ((GAsk.mk (1 + x1.1) x28 x6), x27.2)))) else ((z07 x22.2 3).bind fun x29 => ((getI [99, 100, (-99)] x29.1).bind fun x30 => (some ((GAsk.mk (1 + x1.1) x3.1 x30), x29.2))))))) else (some ((GAsk.mk (1 + x1.1) x3.1 x6), x20.2)))))))))))
def zq7 : Con := ⟨197, [.ptr (.s .rd) false, .v .I false], [((.s .ask), true)], [(0, .ptr (.s .rd) false)], fun x => zb5 x.1 x.2.1⟩
def yn7 : Fs := ⟨[zl3], [], []⟩
theorem yp4 : yn7.Ok Tryz.prog := (fsK y04 fs0)
theorem ys2 : zq7.Ok Tryz.prog := fn_ok (k := zq7) (fn := Tryz.f197) (W := []) (H := []) Tryz.func197 yp4 trivial rfl rfl (fun av x => by kernel_rfl)
def zl8 (join : Int) (in_ : List Int) (p0_6 : Int) (p0_7 : Int) (p0_8 : Int) (p0_9 : Int) (p0_10 : Int) (s0_0 : List Int) (s0_1 : Int) (l0_3 : List GFlow) : Option (GTask × GRd) := some ((GTask.mk join p0_6 in_ l0_3 [] p0_7 p0_8 p0_9 p0_10), (GRd.mk s0_0 s0_1))
def z0y (split : Int) (to : List Int) (kx0_0 : List Int → Int → List GFlow → Option (GTask × GRd)) : Nat → List Int → Int → Int → List GFlow → Option (GTask × GRd)
  | 0, _, _, _, _ => none
  | n0 + 1, s0_0, s0_1, s0_2, l0_3 => if decide (s0_2 < (to.length : Int)) = true then ((getI to s0_2).bind fun x11 => (if decide (split = 1) = true then (gd (l0_3.length + [(GFlow.mk x11 (GAsk.mk 0 0 0))].length ≤ SMALL) (gd (ok64 (s0_2 + 1)) ((z0y split to kx0_0 n0) s0_0 s0_1 (s0_2 + 1) (l0_3 ++ [(GFlow.mk x11 (GAsk.mk 0 0 0))])))) else (gd (ok64 ((to.length : Int) - 1)) (if decide (s0_2 < ((to.length : Int) - 1)) = true then ((z07 (GRd.mk s0_0 s0_1) 3).bind fun x17 => (gd (ok64 (1 + x17.1)) ((z07 x17.2 3).bind fun x19 => ((z07 x19.2 5).bind fun x20 => (gd (ok64 (x20.1 - 1)) (gd (l0_3.length + [(GFlow.mk x11 (GAsk.mk (1 + x17.1) x19.1 (x20.1 - 1)))].length ≤ SMALL) (gd (ok64 (s0_2 + 1)) ((z0y split to kx0_0 n0) x20.2.b x20.2.p (s0_2 + 1) (l0_3 ++ [(GFlow.mk x11 (GAsk.mk (1 + x17.1) x19.1 (x20.1 - 1)))]))))))))) else (gd (l0_3.length + [(GFlow.mk x11 (GAsk.mk 0 0 0))].length ≤ SMALL) (gd (ok64 (s0_2 + 1)) ((z0y split to kx0_0 n0) s0_0 s0_1 (s0_2 + 1) (l0_3 ++ [(GFlow.mk x11 (GAsk.mk 0 0 0))])))))))) else (kx0_0 s0_0 s0_1 l0_3)
def zl9 (join : Int) (in_ : List Int) (p1_6 : Int) (p1_7 : Int) (p1_8 : Int) (p1_9 : Int) (p1_10 : Int) (s1_0 : List Int) (s1_1 : Int) (l1_3 : List GFlow) : Option (GTask × GRd) := some ((GTask.mk join p1_6 in_ l1_3 [] p1_7 p1_8 p1_9 p1_10), (GRd.mk s1_0 s1_1))
def z08 (r : GRd) (join : Int) (split : Int) (in_ : List Int) (to : List Int) (tasks : Int) : Option (GTask × GRd) := (z07 r 3).bind fun x1 => (gd (ok64 (1 + x1.1)) ((z07 x1.2 3).bind fun x3 => (gd (ok64 (1 + x3.1)) ((z07 x3.2 (1 + x3.1)).bind fun x5 => (gd (ok64 (1 + x5.1)) ((z07 x5.2 3).bind fun x7 => (if decide (x7.1 = 0) = true then ((z07 x7.2 tasks).bind fun x9 => (z0y split to (zl8 join in_ split (1 + x1.1) x9.1 (1 + x3.1) (1 + x5.1)) FUEL x9.2.b x9.2.p 0 ([] : List GFlow))) else (z0y split to (zl9 join in_ split (1 + x1.1) (-1) (1 + x3.1) (1 + x5.1)) FUEL x7.2.b x7.2.p 0 ([] : List GFlow)))))))))
def z2l : Con := ⟨213, [.ptr (.s .rd) false, .v .I false, .v .I false, .v (.sl .I) true, .v (.sl .I) true, .v .I false], [((.s .task), true)], [(0, .ptr (.s .rd) false)], fun x => z08 x.1 x.2.1 x.2.2.1 x.2.2.2.1 x.2.2.2.2.1 x.2.2.2.2.2.1⟩
def ye4 : Fs := ⟨[zl3], [], []⟩
theorem y1m : ye4.Ok Tryz.prog := (fsK y04 fs0)
def zu5 : Tmpl := ⟨[(0, .c (.bx 1000000 0)), (2, .c .i), (4, .c (.ref 1480000)), (12, .c (.bx 12 0)), (13, .c (.bx 13 0)), (14, .c .i)], [(1000000, .box [.s .Y, .i]), (12, .box [.i, .i, .nl, .nl, .nl, .i, .i, .i, .i]), (13, .box [.i, .i, .ref 1360000, .ref 511303, .nl, .i, .i, .i, .i]), (1480000, .arr .I true), (1360000, .arr .I true), (511303, .arr (.s .flow) true)]⟩
def zo5 : Tmpl := ⟨[(12, .c (.bx 12 0)), (13, .c (.bx 13 0))], [(12, .box [.i, .i, .nl, .nl, .nl, .i, .i, .i, .i]), (13, .box [.i, .i, .ref 1360000, .ref 511303, .nl, .i, .i, .i, .i]), (1000000, .box [.s .Y, .i]), (1360000, .arr .I true), (511303, .arr (.s .flow) true)]⟩
def y6x (av : AV) (x : HP z2l.ps) (n : Nat) (v : zu5.den) (K : Ks (CR z2l)) : Option (CR z2l) := z0y v.1.2.1 v.2.2.2.2.1 (fun s0_0 s0_1 l0_3 => zo5.at none (((), (), ()), ((v.2.2.1.1, v.2.2.1.2.1, (), (), (), v.2.2.1.2.2.2.2.2.1, v.2.2.1.2.2.2.2.2.2.1, v.2.2.1.2.2.2.2.2.2.2.1, v.2.2.1.2.2.2.2.2.2.2.2.1, ()), (v.2.2.2.1.1, v.2.2.2.1.2.1, (), (), (), v.2.2.2.1.2.2.2.2.2.1, v.2.2.2.1.2.2.2.2.2.2.1, v.2.2.2.1.2.2.2.2.2.2.2.1, v.2.2.2.1.2.2.2.2.2.2.2.2.1, ()), (s0_0, s0_1, ()), v.2.2.2.2.2.1, l0_3, ())) (K (.exit 0))) n v.2.1.1 v.2.1.2.1 v.1.2.2.2.2.2.1 v.2.2.2.2.2.2.1
def zs7 (av : AV) (x : HP z2l.ps) : Hdl (CR z2l) := hnd [.b 13 3 511303 (.s .flow)] zu5 (y6x av x)
theorem y7h : LP z2l Tryz.f213 [0] zs7 := lp_ok (W := []) (H := []) (xs := [zo5]) y1m trivial rfl (fun av x v K => by kernel_rfl) (fun av x n v K => by kernel_rfl)
theorem yi0 : z2l.Ok Tryz.prog := fn_ok (k := z2l) (fn := Tryz.f213) (W := []) (H := [zs7]) Tryz.func213 y1m ⟨y7h, trivial⟩ rfl rfl (fun av x => by kernel_rfl)
end
end Go.Am
