/- Mirrors and contracts, printed. Own work. -/
import Derived.Test.YtgolgnbgomhknaaClD1
set_option maxRecDepth 100000
set_option maxHeartbeats 4000000
set_option linter.unusedVariables false
set_option linter.unusedSimpArgs false
namespace Go.Am
noncomputable section
open Go Go.Proofs
def z05 (n : Int) (low : Int) (high : Int) : Option Bool := if decide (low ≤ n) = true then (some (decide (n ≤ high))) else (some false)
def z0m : Con := ⟨56, [.v .I false, .v .I false, .v .I false], [(.B, true)], [], fun x => z05 x.1 x.2.1 x.2.2.1⟩
def yr3 : Fs := ⟨[], [], []⟩
theorem yr5 : yr3.Ok Try.prog := fs0
theorem z0x : z0m.Ok Try.prog := fn_ok (k := z0m) (fn := Try.f56) (W := []) (H := []) Try.func56 yr5 trivial rfl rfl (fun av x => by kernel_rfl)
def zp3  : Option Bool := some true
def z3p (data : List Int) (kx0_0 : Option Bool) : Nat → Int → Option Bool
  | 0, _ => none
  | n0 + 1, s0_0 => if decide (s0_0 < (data.length : Int)) = true then ((getI data s0_0).bind fun x3 => ((z05 x3 (-99) 99).bind fun x4 => (if x4 = true then (gd (ok64 (s0_0 + 1)) ((z3p data kx0_0 n0) (s0_0 + 1))) else (some false)))) else (kx0_0)
def z3w (data : List Int) : Option Bool := if decide ((data.length : Int) = 3) = true then (z3p data zp3 FUEL 0) else (some false)
def z1c : Con := ⟨55, [.v (.sl .I) false], [(.B, true)], [], fun x => z3w x.1⟩
def yi7 : Fs := ⟨[z0m], [], []⟩
theorem y2j : yi7.Ok Try.prog := (fsK z0x fs0)
def zx8 : Tmpl := ⟨[(0, .c (.s .I)), (3, .c .i)], []⟩
def zs2 : Tmpl := ⟨[], []⟩
def y6w (av : AV) (x : HP z1c.ps) (n : Nat) (v : zx8.den) (K : Ks (CR z1c)) : Option (CR z1c) := z3p v.1.1 (zs2.at none ((), ()) (K (.exit 0))) n v.1.2.1
def zw2 (av : AV) (x : HP z1c.ps) : Hdl (CR z1c) := hnd [] zx8 (y6w av x)
theorem y80 : LP z1c Try.f55 [0] zw2 := lp_ok (W := []) (H := []) (xs := [zs2]) y2j trivial rfl (fun av x v K => by kernel_rfl) (fun av x n v K => by kernel_rfl)
theorem z7d : z1c.Ok Try.prog := fn_ok (k := z1c) (fn := Try.f55) (W := []) (H := [zw2]) Try.func55 y2j ⟨y80, trivial⟩ rfl rfl (fun av x => by kernel_rfl)
def z88 (data : List Int) (k : Int) (n : Int) : Option (List Int) := (z3w data).bind fun x1 => (if x1 = true then ((z05 k 0 2).bind fun x3 => (if x3 = true then ((z05 n (-99) 99).bind fun x5 => (if x5 = true then (gd (([] : List Int).length + data.length ≤ SMALL) ((getI (([] : List Int) ++ data) k).bind fun x8 => (some ((([] : List Int) ++ data).set k.toNat n)))) else (gd (([] : List Int).length + data.length ≤ SMALL) (some (([] : List Int) ++ data))))) else (gd (([] : List Int).length + data.length ≤ SMALL) (some (([] : List Int) ++ data))))) else (gd (([] : List Int).length + data.length ≤ SMALL) (some (([] : List Int) ++ data))))
def zg8 : Con := ⟨70, [.v (.sl .I) false, .v .I false, .v .I false], [((.sl .I), true)], [], fun x => z88 x.1 x.2.1 x.2.2.1⟩
def y9t : Fs := ⟨[z1c, z0m], [], []⟩
theorem yb0 : y9t.Ok Try.prog := (fsK z7d (fsK z0x fs0))
theorem yd3 : zg8.Ok Try.prog := fn_ok (k := zg8) (fn := Try.f70) (W := []) (H := []) Try.func70 yb0 trivial rfl rfl (fun av x => by kernel_rfl)
def z5n (e : GAsk) : Option Bool := if decide (e.op = 0) = true then (some (decide ([e.op, e.var, e.k] = [0, 0, 0]))) else ((z05 e.op 1 3).bind fun x2 => (if x2 = true then ((z05 e.var 0 2).bind fun x4 => (if x4 = true then ((z05 e.k (-99) 99).bind fun x6 => (some x6)) else (some false))) else (some false)))
def z95 : Con := ⟨133, [.v (.s .ask) false], [(.B, true)], [], fun x => z5n x.1⟩
def yi8 : Fs := ⟨[z0m], [], []⟩
theorem yk3 : yi8.Ok Try.prog := (fsK z0x fs0)
theorem y2x : z95.Ok Try.prog := fn_ok (k := z95) (fn := Try.f133) (W := []) (H := []) Try.func133 yk3 trivial rfl rfl (fun av x => by kernel_rfl)
def z62 (e : GAsk) (data : List Int) : Option Bool := (z5n e).bind fun x1 => (if x1 = true then ((z3w data).bind fun x3 => (if x3 = true then (if decide (e.op = 1) = true then ((getI data e.var).bind fun x6 => (some (decide (x6 < e.k)))) else (if decide (e.op = 2) = true then ((getI data e.var).bind fun x8 => (some (decide (x8 = e.k)))) else (if decide (e.op = 3) = true then ((getI data e.var).bind fun x10 => (some (decide (e.k < x10)))) else (some true)))) else (some false))) else (some false))
def z8o : Con := ⟨136, [.v (.s .ask) false, .v (.sl .I) false], [(.B, true)], [], fun x => z62 x.1 x.2.1⟩
def y52 : Fs := ⟨[z95, z1c], [], []⟩
theorem y5f : y52.Ok Try.prog := (fsK y2x (fsK z7d fs0))
theorem y5u : z8o.Ok Try.prog := fn_ok (k := z8o) (fn := Try.f136) (W := []) (H := []) Try.func136 y5f trivial rfl rfl (fun av x => by kernel_rfl)
def z0s (n : Int) (low : Int) (high : Int) : Option Bool := if decide (low ≤ n) = true then (some (decide (n ≤ high))) else (some false)
def z2u : Con := ⟨67, [.v .I false, .v .I false, .v .I false], [(.B, true)], [], fun x => z0s x.1 x.2.1 x.2.2.1⟩
def w1e : Fs := ⟨[], [], []⟩
theorem w1p : w1e.Ok Try.prog := fs0
theorem z3v : z2u.Ok Try.prog := fn_ok (k := z2u) (fn := Try.f67) (W := []) (H := []) Try.func67 w1p trivial rfl rfl (fun av x => by kernel_rfl)
def z46 (n : Int) : Option Bool := (z0s n (-99) 99).bind fun x1 => (some x1)
def z52 : Con := ⟨64, [.v .I false], [(.B, true)], [], fun x => z46 x.1⟩
def y78 : Fs := ⟨[z2u], [], []⟩
theorem y7p : y78.Ok Try.prog := (fsK z3v fs0)
theorem za4 : z52.Ok Try.prog := fn_ok (k := z52) (fn := Try.f64) (W := []) (H := []) Try.func64 y7p trivial rfl rfl (fun av x => by kernel_rfl)
def z30 (list : List Int) : Option (List Int) := gd (([] : List Int).length + list.length ≤ SMALL) (some (([] : List Int) ++ list))
def z5c : Con := ⟨72, [.v (.sl .I) false], [((.sl .I), true)], [], fun x => z30 x.1⟩
def y3j : Fs := ⟨[], [], []⟩
theorem y3n : y3j.Ok Try.prog := fs0
theorem zj8 : z5c.Ok Try.prog := fn_ok (k := z5c) (fn := Try.f72) (W := []) (H := []) Try.func72 y3n trivial rfl rfl (fun av x => by kernel_rfl)
def z5k (e : GAsk) : Option Bool := if decide (e.op = 0) = true then (if decide (e.var = 0) = true then (some (decide (e.k = 0))) else (some false)) else ((z0s e.op 1 3).bind fun x3 => (if x3 = true then ((z0s e.var 0 2).bind fun x5 => (if x5 = true then ((z46 e.k).bind fun x7 => (some x7)) else (some false))) else (some false)))
def z93 : Con := ⟨83, [.v (.s .ask) false], [(.B, true)], [], fun x => z5k x.1⟩
def yi0 : Fs := ⟨[z2u, z52], [], []⟩
theorem yk0 : yi0.Ok Try.prog := (fsK z3v (fsK za4 fs0))
theorem y2u : z93.Ok Try.prog := fn_ok (k := z93) (fn := Try.f83) (W := []) (H := []) Try.func83 yk0 trivial rfl rfl (fun av x => by kernel_rfl)
def zd4  : Option Bool := some true
def z1t (list : List Int) (low : Int) (high : Int) (kx0_0 : Option Bool) : Nat → Int → Option Bool
  | 0, _ => none
  | n0 + 1, s0_0 => if decide (s0_0 < (list.length : Int)) = true then ((getI list s0_0).bind fun x4 => ((z05 x4 low high).bind fun x5 => (if x5 = true then (if decide (0 < s0_0) = true then (gd (ok64 (s0_0 - 1)) ((getI list (s0_0 - 1)).bind fun x9 => ((getI list s0_0).bind fun x10 => (if decide (x10 ≤ x9) = true then (some false) else (gd (ok64 (s0_0 + 1)) ((z1t list low high kx0_0 n0) (s0_0 + 1))))))) else (gd (ok64 (s0_0 + 1)) ((z1t list low high kx0_0 n0) (s0_0 + 1)))) else (some false)))) else (kx0_0)
def z56 (list : List Int) (least : Int) (most : Int) (low : Int) (high : Int) : Option Bool := (z05 (list.length : Int) least most).bind fun x1 => (if x1 = true then (z1t list low high zd4 FUEL 0) else (some false))
def z22 : Con := ⟨161, [.v (.sl .I) false, .v .I false, .v .I false, .v .I false, .v .I false], [(.B, true)], [], fun x => z56 x.1 x.2.1 x.2.2.1 x.2.2.2.1 x.2.2.2.2.1⟩
def y7l : Fs := ⟨[z0m], [], []⟩
theorem zv6 : y7l.Ok Try.prog := (fsK z0x fs0)
def zl0 : Tmpl := ⟨[(0, .c (.s .I)), (3, .c .i), (4, .c .i), (11, .c .i)], []⟩
def zf9 : Tmpl := ⟨[], []⟩
def y3g (av : AV) (x : HP z22.ps) (n : Nat) (v : zl0.den) (K : Ks (CR z22)) : Option (CR z22) := z1t v.1.1 v.1.2.1 v.1.2.2.1 (zf9.at none ((), ()) (K (.exit 0))) n v.1.2.2.2.1
def zj0 (av : AV) (x : HP z22.ps) : Hdl (CR z22) := hnd [] zl0 (y3g av x)
theorem y41 : LP z22 Try.f161 [0] zj0 := lp_ok (W := []) (H := []) (xs := [zf9]) zv6 trivial rfl (fun av x v K => by kernel_rfl) (fun av x n v K => by kernel_rfl)
theorem y8n : z22.Ok Try.prog := fn_ok (k := z22) (fn := Try.f161) (W := []) (H := [zj0]) Try.func161 zv6 ⟨y41, trivial⟩ rfl rfl (fun av x => by kernel_rfl)
def zp7  : Option Bool := some false
def z3u (list : List Int) (n : Int) (kx0_0 : Option Bool) : Nat → Int → Option Bool
  | 0, _ => none
  | n0 + 1, s0_0 => if decide (s0_0 < (list.length : Int)) = true then ((getI list s0_0).bind fun x2 => (if decide (x2 = n) = true then (some true) else (gd (ok64 (s0_0 + 1)) ((z3u list n kx0_0 n0) (s0_0 + 1))))) else (kx0_0)
def z5o (list : List Int) (n : Int) : Option Bool := z3u list n zp7 FUEL 0
def z26 : Con := ⟨146, [.v (.sl .I) false, .v .I false], [(.B, true)], [], fun x => z5o x.1 x.2.1⟩
def yj3 : Fs := ⟨[], [], []⟩
theorem y2o : yj3.Ok Try.prog := fs0
def zy3 : Tmpl := ⟨[(0, .c (.s .I)), (1, .c .i), (5, .c .i)], []⟩
def zs6 : Tmpl := ⟨[], []⟩
def y71 (av : AV) (x : HP z26.ps) (n : Nat) (v : zy3.den) (K : Ks (CR z26)) : Option (CR z26) := z3u v.1.1 v.1.2.1 (zs6.at none ((), ()) (K (.exit 0))) n v.1.2.2.1
def zw7 (av : AV) (x : HP z26.ps) : Hdl (CR z26) := hnd [] zy3 (y71 av x)
theorem y85 : LP z26 Try.f146 [0] zw7 := lp_ok (W := []) (H := []) (xs := [zs6]) y2o trivial rfl (fun av x v K => by kernel_rfl) (fun av x n v K => by kernel_rfl)
theorem zq2 : z26.Ok Try.prog := fn_ok (k := z26) (fn := Try.f146) (W := []) (H := [zw7]) Try.func146 y2o ⟨y85, trivial⟩ rfl rfl (fun av x => by kernel_rfl)
def zd1 (s0_0 : Int) (bk0 : Int → Option Bool) : Option Bool := gd (ok64 (s0_0 + 1)) (bk0 (s0_0 + 1))
def z1e (t : GTask) (s0_0 : Int) (x4 : GFlow) (kx1_0 : Option Bool) : Nat → Int → Option Bool
  | 0, _ => none
  | n1 + 1, s1_0 => if decide (s1_0 < s0_0) = true then ((getI t.out s1_0).bind fun x14 => (if decide (x14.to = x4.to) = true then (some false) else (gd (ok64 (s1_0 + 1)) ((z1e t s0_0 x4 kx1_0 n1) (s1_0 + 1))))) else (kx1_0)
def zd2 (s0_0 : Int) (bk0 : Int → Option Bool) : Option Bool := gd (ok64 (s0_0 + 1)) (bk0 (s0_0 + 1))
def zd3  : Option Bool := some true
def z1s (t : GTask) (places : Int) (kx0_0 : Option Bool) : Nat → Int → Option Bool
  | 0, _ => none
  | n0 + 1, s0_0 => if decide (s0_0 < (t.out.length : Int)) = true then ((getI t.out s0_0).bind fun x4 => (gd (ok64 ((t.out.length : Int) - 1)) (if decide (s0_0 = ((t.out.length : Int) - 1)) = true then (gd (ok64 (places - 1)) ((z05 x4.to 1 (places - 1)).bind fun x8 => (if x8 = true then ((z5n x4.if_).bind fun x10 => (if x10 = true then (if (true == (decide (x4.if_.op = 0))) = true then (z1e t s0_0 x4 (zd1 s0_0 (z1s t places kx0_0 n0)) FUEL 0) else (some false)) else (some false))) else (some false)))) else (gd (ok64 (places - 1)) ((z05 x4.to 1 (places - 1)).bind fun x19 => (if x19 = true then ((z5n x4.if_).bind fun x21 => (if x21 = true then (if ((decide (t.split = 1)) == (decide (x4.if_.op = 0))) = true then (z1e t s0_0 x4 (zd2 s0_0 (z1s t places kx0_0 n0)) FUEL 0) else (some false)) else (some false))) else (some false))))))) else (kx0_0)
def z76 (t : GTask) (places : Int) : Option Bool := (z05 (t.out.length : Int) 1 3).bind fun x1 => (if x1 = true then (z1s t places zd3 FUEL 0) else (some false))
def z0g : Con := ⟨162, [.v (.s .task) false, .v .I false], [(.B, true)], [], fun x => z76 x.1 x.2.1⟩
def y7k : Fs := ⟨[z0m, z95], [], []⟩
theorem z9w : y7k.Ok Try.prog := (fsK z0x (fsK y2x fs0))
def z9l : Tmpl := ⟨[(1, .c .i), (2, .c (.bx 2 0)), (5, .c .i), (6, .c (.bx 6 0)), (8, .c .i)], [(2, .boxT (.s .task)), (6, .boxT (.s .flow))]⟩
def z8x : Tmpl := ⟨[(1, .c .i), (2, .c (.bx 2 0)), (5, .c .i)], [(2, .boxT (.s .task))]⟩
def y04 (av : AV) (x : HP z0g.ps) (n : Nat) (v : z9l.den) (K : Ks (CR z0g)) : Option (CR z0g) := z1e v.2.1 v.1.2.2.1 v.2.2.1 (z8x.at none ((v.1.1, (), v.1.2.2.1, ()), (v.2.1, ())) (K (.exit 2))) n v.1.2.2.2.2.1
def z91 (av : AV) (x : HP z0g.ps) : Hdl (CR z0g) := hnd [] z9l (y04 av x)
theorem y0n : LP z0g Try.f162 [0, 0] z91 := lp_ok (W := []) (H := []) (xs := [z8x]) z9w trivial rfl (fun av x v K => by kernel_rfl) (fun av x n v K => by kernel_rfl)
def zk9 : Tmpl := ⟨[(1, .c .i), (2, .c (.bx 2 0)), (5, .c .i)], [(2, .boxT (.s .task))]⟩
def zf8 : Tmpl := ⟨[], []⟩
def y3f (av : AV) (x : HP z0g.ps) (n : Nat) (v : zk9.den) (K : Ks (CR z0g)) : Option (CR z0g) := z1s v.2.1 v.1.1 (zf8.at none ((), ()) (K (.exit 0))) n v.1.2.2.1
def zi9 (av : AV) (x : HP z0g.ps) : Hdl (CR z0g) := hnd [] zk9 (y3f av x)
theorem y40 : LP z0g Try.f162 [0] zi9 := lp_ok (W := []) (H := [z91]) (xs := [zf8]) z9w ⟨y0n, trivial⟩ rfl (fun av x v K => by kernel_rfl) (fun av x n v K => by kernel_rfl)
theorem y8m : z0g.Ok Try.prog := fn_ok (k := z0g) (fn := Try.f162) (W := []) (H := [zi9]) Try.func162 z9w ⟨y40, trivial⟩ rfl rfl (fun av x => by kernel_rfl)
def z8c (t : GTask) (places : Int) (tasks : Int) : Option Bool := (z05 t.join 1 3).bind fun x1 => (if x1 = true then ((z05 t.split 1 3).bind fun x3 => (if x3 = true then (gd (ok64 (places - 1)) ((z56 t.in_ 1 3 0 (places - 1)).bind fun x6 => (if x6 = true then ((z5o t.in_ 1).bind fun x8 => (if x8 = true then (some false) else ((z76 t places).bind fun x10 => (if x10 = true then (gd (ok64 (places - 1)) ((z56 t.clear 0 places 2 (places - 1)).bind fun x13 => (if x13 = true then ((z05 t.role 1 3).bind fun x15 => (if x15 = true then (gd (ok64 (tasks - 1)) ((z05 t.apart (-1) (tasks - 1)).bind fun x18 => (if x18 = true then ((z05 t.all 1 3).bind fun x20 => (if x20 = true then ((z05 t.need 1 t.all).bind fun x22 => (some x22)) else (some false))) else (some false)))) else (some false))) else (some false)))) else (some false))))) else (some false)))) else (some false))) else (some false))
def zh0 : Con := ⟨140, [.v (.s .task) false, .v .I false, .v .I false], [(.B, true)], [], fun x => z8c x.1 x.2.1 x.2.2.1⟩
def ya0 : Fs := ⟨[z0m, z22, z26, z0g], [], []⟩
theorem yb4 : ya0.Ok Try.prog := (fsK z0x (fsK y8n (fsK zq2 (fsK y8m fs0))))
theorem yd7 : zh0.Ok Try.prog := fn_ok (k := zh0) (fn := Try.f140) (W := []) (H := []) Try.func140 yb4 trivial rfl rfl (fun av x => by kernel_rfl)
def zp5  : Option Bool := some true
def z3r (n : GNet) (kx0_0 : Option Bool) : Nat → Int → Option Bool
  | 0, _ => none
  | n0 + 1, s0_0 => if decide (s0_0 < (n.tasks.length : Int)) = true then ((getI n.tasks s0_0).bind fun x6 => ((z8c x6 n.places (n.tasks.length : Int)).bind fun x7 => (if x7 = true then (gd (ok64 (s0_0 + 1)) ((z3r n kx0_0 n0) (s0_0 + 1))) else (some false)))) else (kx0_0)
def z29 (n : GNet) : Option Bool := (z05 n.places 2 8).bind fun x1 => (if x1 = true then ((z05 (n.tasks.length : Int) 1 6).bind fun x3 => (if x3 = true then (z3r n zp5 FUEL 0) else (some false))) else (some false))
def z1m : Con := ⟨105, [.v (.s .net) false], [(.B, true)], [], fun x => z29 x.1⟩
def yj0 : Fs := ⟨[z0m, zh0], [], []⟩
theorem y2l : yj0.Ok Try.prog := (fsK z0x (fsK yd7 fs0))
def zy0 : Tmpl := ⟨[(1, .c (.bx 1 0)), (3, .c .i)], [(1, .boxT (.s .net))]⟩
def zs4 : Tmpl := ⟨[], []⟩
def y6y (av : AV) (x : HP z1m.ps) (n : Nat) (v : zy0.den) (K : Ks (CR z1m)) : Option (CR z1m) := z3r v.2.1 (zs4.at none ((), ()) (K (.exit 0))) n v.1.2.1
def zw4 (av : AV) (x : HP z1m.ps) : Hdl (CR z1m) := hnd [] zy0 (y6y av x)
theorem y82 : LP z1m Try.f105 [0] zw4 := lp_ok (W := []) (H := []) (xs := [zs4]) y2l trivial rfl (fun av x v K => by kernel_rfl) (fun av x n v K => by kernel_rfl)
theorem z9i : z1m.Ok Try.prog := fn_ok (k := z1m) (fn := Try.f105) (W := []) (H := [zw4]) Try.func105 y2l ⟨y82, trivial⟩ rfl rfl (fun av x => by kernel_rfl)
def z6b (s1_0 : Int) (bk1 : Int → List Bool → Option (List Bool)) (l3_1 : List Bool) : Option (List Bool) := gd (ok64 (s1_0 + 1)) (bk1 (s1_0 + 1) l3_1)
def z6c (s1_0 : Int) (bk1 : Int → List Bool → Option (List Bool)) (l3_1 : List Bool) : Option (List Bool) := gd (ok64 (s1_0 + 1)) (bk1 (s1_0 + 1) l3_1)
def z6d (s1_0 : Int) (bk1 : Int → List Bool → Option (List Bool)) (l3_1 : List Bool) : Option (List Bool) := gd (ok64 (s1_0 + 1)) (bk1 (s1_0 + 1) l3_1)
def z0u (n : GNet) (but : Int) (s1_0 : Int) (s2_0 : Bool) (kx3_0 : List Bool → Option (List Bool)) (kx3_1 : List Bool → Option (List Bool)) (kx3_2 : List Bool → Option (List Bool)) : Nat → Int → List Bool → Option (List Bool)
  | 0, _, _ => none
  | n3 + 1, s3_0, l3_1 => (getI n.tasks s1_0).bind fun x12 => (if decide (s3_0 < (x12.out.length : Int)) = true then (if s2_0 = true then (if decide (s1_0 = but) = true then (kx3_0 l3_1) else ((getI n.tasks s1_0).bind fun x17 => ((getI x17.out s3_0).bind fun x18 => ((getI l3_1 x18.to).bind fun x19 => (gd (ok64 (s3_0 + 1)) ((z0u n but s1_0 s2_0 kx3_0 kx3_1 kx3_2 n3) (s3_0 + 1) (l3_1.set x18.to.toNat true))))))) else (kx3_1 l3_1)) else (kx3_2 l3_1))
def z9c (n : GNet) (but : Int) (s1_0 : Int) (l1_1 : List Bool) (bk1 : Int → List Bool → Option (List Bool)) (s2_0 : Bool) : Option (List Bool) := z0u n but s1_0 s2_0 (z6b s1_0 bk1) (z6c s1_0 bk1) (z6d s1_0 bk1) FUEL 0 l1_1
def z11 (n : GNet) (s1_0 : Int) (l1_1 : List Bool) (kx2_0 : Bool → Option (List Bool)) : Nat → Bool → Int → Option (List Bool)
  | 0, _, _ => none
  | n2 + 1, s2_0, s2_1 => (getI n.tasks s1_0).bind fun x4 => (if decide (s2_1 < (x4.in_.length : Int)) = true then (if s2_0 = true then (gd (ok64 (s2_1 + 1)) ((z11 n s1_0 l1_1 kx2_0 n2) true (s2_1 + 1))) else ((getI n.tasks s1_0).bind fun x8 => ((getI x8.in_ s2_1).bind fun x9 => ((getI l1_1 x9).bind fun x10 => (gd (ok64 (s2_1 + 1)) ((z11 n s1_0 l1_1 kx2_0 n2) x10 (s2_1 + 1))))))) else (kx2_0 s2_0))
def z9d (s0_0 : Int) (bk0 : Int → List Bool → Option (List Bool)) (l1_1 : List Bool) : Option (List Bool) := gd (ok64 (s0_0 + 1)) (bk0 (s0_0 + 1) l1_1)
def z0a (n : GNet) (but : Int) (kx1_0 : List Bool → Option (List Bool)) : Nat → Int → List Bool → Option (List Bool)
  | 0, _, _ => none
  | n1 + 1, s1_0, l1_1 => if decide (s1_0 < (n.tasks.length : Int)) = true then (z11 n s1_0 l1_1 (z9c n but s1_0 l1_1 (z0a n but kx1_0 n1)) FUEL false 0) else (kx1_0 l1_1)
def z9e (l0_1 : List Bool) : Option (List Bool) := some l0_1
def z2d (n : GNet) (but : Int) (kx0_0 : List Bool → Option (List Bool)) : Nat → Int → List Bool → Option (List Bool)
  | 0, _, _ => none
  | n0 + 1, s0_0, l0_1 => if decide (s0_0 < n.places) = true then (z0a n but (z9d s0_0 (z2d n but kx0_0 n0)) FUEL 0 l0_1) else (kx0_0 l0_1)
def z6a (n : GNet) (marked : List Bool) (but : Int) : Option (List Bool) := gd (([] : List Bool).length + marked.length ≤ SMALL) (z2d n but z9e FUEL 0 (([] : List Bool) ++ marked))
def z03 : Con := ⟨173, [.v (.s .net) false, .v (.sl .B) false, .v .I false], [((.sl .B), true)], [], fun x => z6a x.1 x.2.1 x.2.2.1⟩
def y56 : Fs := ⟨[], [], []⟩
theorem z4c : y56.Ok Try.prog := fs0
def z7f : Tmpl := ⟨[(2, .c .i), (3, .c (.bx 3 0)), (7, .c (.ref 15)), (8, .c .i), (9, .c .i), (10, .c .b), (11, .c .i)], [(3, .boxT (.s .net)), (15, .arr .B true)]⟩
def z6q : Tmpl := ⟨[(2, .c .i), (3, .c (.bx 3 0)), (7, .c (.ref 15)), (8, .c .i), (9, .c .i), (10, .c .b)], [(3, .boxT (.s .net)), (15, .arr .B true)]⟩
def zm3 (av : AV) (x : HP z03.ps) (n : Nat) (v : z7f.den) (K : Ks (CR z03)) : Option (CR z03) := z11 v.2.1 v.1.2.2.2.2.1 v.2.2.1 (fun s2_0 => z6q.at none ((v.1.1, (), (), v.1.2.2.2.1, v.1.2.2.2.2.1, s2_0, ()), (v.2.1, v.2.2.1, ())) (K (.exit 4))) n v.1.2.2.2.2.2.1 v.1.2.2.2.2.2.2.1
def z77 (av : AV) (x : HP z03.ps) : Hdl (CR z03) := hnd [] z7f (zm3 av x)
theorem zo7 : LP z03 Try.f173 [0, 0, 0] z77 := lp_ok (W := []) (H := []) (xs := [z6q]) z4c trivial rfl (fun av x v K => by kernel_rfl) (fun av x n v K => by kernel_rfl)
def z7g : Tmpl := ⟨[(2, .c .i), (3, .c (.bx 3 0)), (7, .c (.ref 15)), (8, .c .i), (9, .c .i), (10, .c .b), (12, .c .i)], [(3, .boxT (.s .net)), (15, .arr .B true)]⟩
def z2y : Tmpl := ⟨[(2, .c .i), (3, .c (.bx 3 0)), (7, .c (.ref 15)), (8, .c .i), (9, .c .i)], [(3, .boxT (.s .net)), (15, .arr .B true)]⟩
def zm4 (av : AV) (x : HP z03.ps) (n : Nat) (v : z7g.den) (K : Ks (CR z03)) : Option (CR z03) := z0u v.2.1 v.1.1 v.1.2.2.2.2.1 v.1.2.2.2.2.2.1 (fun l3_1 => z2y.at none ((v.1.1, (), (), v.1.2.2.2.1, v.1.2.2.2.2.1, ()), (v.2.1, l3_1, ())) (K (.exit 6))) (fun l3_1 => z2y.at none ((v.1.1, (), (), v.1.2.2.2.1, v.1.2.2.2.2.1, ()), (v.2.1, l3_1, ())) (K (.exit 6))) (fun l3_1 => z2y.at none ((v.1.1, (), (), v.1.2.2.2.1, v.1.2.2.2.2.1, ()), (v.2.1, l3_1, ())) (K (.exit 6))) n v.1.2.2.2.2.2.2.1 v.2.2.1
def z78 (av : AV) (x : HP z03.ps) : Hdl (CR z03) := hnd [] z7g (zm4 av x)
theorem zo8 : LP z03 Try.f173 [0, 0, 1] z78 := lp_ok (W := []) (H := []) (xs := [z2y]) z4c trivial rfl (fun av x v K => by kernel_rfl) (fun av x n v K => by kernel_rfl)
def z8v : Tmpl := ⟨[(2, .c .i), (3, .c (.bx 3 0)), (7, .c (.ref 15)), (8, .c .i), (9, .c .i)], [(3, .boxT (.s .net)), (15, .arr .B true)]⟩
def z7u : Tmpl := ⟨[(2, .c .i), (3, .c (.bx 3 0)), (7, .c (.ref 15)), (8, .c .i)], [(3, .boxT (.s .net)), (15, .arr .B true)]⟩
def zy6 (av : AV) (x : HP z03.ps) (n : Nat) (v : z8v.den) (K : Ks (CR z03)) : Option (CR z03) := z0a v.2.1 v.1.1 (fun l1_1 => z7u.at none ((v.1.1, (), (), v.1.2.2.2.1, ()), (v.2.1, l1_1, ())) (K (.exit 2))) n v.1.2.2.2.2.1 v.2.2.1
def z8k (av : AV) (x : HP z03.ps) : Hdl (CR z03) := hnd [] z8v (zy6 av x)
theorem zz6 : LP z03 Try.f173 [0, 0] z8k := lp_ok (W := []) (H := [z77, z78]) (xs := [z7u]) z4c ⟨zo7, zo8, trivial⟩ rfl (fun av x v K => by kernel_rfl) (fun av x n v K => by kernel_rfl)
def ze5 : Tmpl := ⟨[(2, .c .i), (3, .c (.bx 3 0)), (7, .c (.ref 15)), (8, .c .i)], [(3, .boxT (.s .net)), (15, .arr .B true)]⟩
def z9q : Tmpl := ⟨[(7, .c (.ref 15))], [(15, .arr .B true)]⟩
def y1f (av : AV) (x : HP z03.ps) (n : Nat) (v : ze5.den) (K : Ks (CR z03)) : Option (CR z03) := z2d v.2.1 v.1.1 (fun l0_1 => z9q.at none (((), ()), (l0_1, ())) (K (.exit 0))) n v.1.2.2.2.1 v.2.2.1
def zc1 (av : AV) (x : HP z03.ps) : Hdl (CR z03) := hnd [] ze5 (y1f av x)
theorem y1v : LP z03 Try.f173 [0] zc1 := lp_ok (W := []) (H := [z8k]) (xs := [z9q]) z4c ⟨zz6, trivial⟩ rfl (fun av x v K => by kernel_rfl) (fun av x n v K => by kernel_rfl)
theorem y5y : z03.Ok Try.prog := fn_ok (k := z03) (fn := Try.f173) (W := []) (H := [zc1]) Try.func173 z4c ⟨y1v, trivial⟩ rfl rfl (fun av x => by kernel_rfl)
def z84 (kind : Int) : Option Bool := (z0s kind 1 3).bind fun x1 => (some x1)
def zg4 : Con := ⟨142, [.v .I false], [(.B, true)], [], fun x => z84 x.1⟩
def y9n : Fs := ⟨[z2u], [], []⟩
theorem ya6 : y9n.Ok Try.prog := (fsK z3v fs0)
theorem yc7 : zg4.Ok Try.prog := fn_ok (k := zg4) (fn := Try.f142) (W := []) (H := []) Try.func142 ya6 trivial rfl rfl (fun av x => by kernel_rfl)
def zh2 (role : Int) : Option Bool := (z0s role 1 3).bind fun x1 => (some x1)
def zg5 : Con := ⟨145, [.v .I false], [(.B, true)], [], fun x => zh2 x.1⟩
def y9o : Fs := ⟨[z2u], [], []⟩
theorem ya7 : y9o.Ok Try.prog := (fsK z3v fs0)
theorem yc8 : zg5.Ok Try.prog := fn_ok (k := zg5) (fn := Try.f145) (W := []) (H := []) Try.func145 ya7 trivial rfl rfl (fun av x => by kernel_rfl)
def za3 (places : Int) (tasks : Int) : Option Bool := (z0s places 2 8).bind fun x1 => (if x1 = true then ((z0s tasks 1 6).bind fun x3 => (some x3)) else (some false))
def z9z : Con := ⟨106, [.v .I false, .v .I false], [(.B, true)], [], fun x => za3 x.1 x.2.1⟩
def y7a : Fs := ⟨[z2u], [], []⟩
theorem y7r : y7a.Ok Try.prog := (fsK z3v fs0)
theorem y8d : z9z.Ok Try.prog := fn_ok (k := z9z) (fn := Try.f106) (W := []) (H := []) Try.func106 y7r trivial rfl rfl (fun av x => by kernel_rfl)
def z0l (n : GNet) (t : Int) : Option Bool := gd (ok64 ((n.tasks.length : Int) - 1)) ((z0s t 0 ((n.tasks.length : Int) - 1)).bind fun x2 => (some x2))
def z24 : Con := ⟨51, [.v (.s .net) false, .v .I false], [(.B, true)], [], fun x => z0l x.1 x.2.1⟩
def zm6 : Fs := ⟨[z2u], [], []⟩
theorem zm8 : zm6.Ok Try.prog := (fsK z3v fs0)
theorem z4l : z24.Ok Try.prog := fn_ok (k := z24) (fn := Try.f51) (W := []) (H := []) Try.func51 zm8 trivial rfl rfl (fun av x => by kernel_rfl)
def zp4  : Option Bool := some true
def z3q (marks : List Int) (kx0_0 : Option Bool) : Nat → Int → Option Bool
  | 0, _ => none
  | n0 + 1, s0_0 => if decide (s0_0 < (marks.length : Int)) = true then ((getI marks s0_0).bind fun x5 => ((z05 x5 0 4).bind fun x6 => (if x6 = true then (gd (ok64 (s0_0 + 1)) ((z3q marks kx0_0 n0) (s0_0 + 1))) else (some false)))) else (kx0_0)
def z4k (n : GNet) (marks : List Int) : Option Bool := (z29 n).bind fun x1 => (if x1 = true then (if decide ((marks.length : Int) = n.places) = true then (z3q marks zp4 FUEL 0) else (some false)) else (some false))
def z1l : Con := ⟨53, [.v (.s .net) false, .v (.sl .I) false], [(.B, true)], [], fun x => z4k x.1 x.2.1⟩
def yi9 : Fs := ⟨[z1m, z0m], [], []⟩
theorem y2k : yi9.Ok Try.prog := (fsK z9i (fsK z0x fs0))
def zx9 : Tmpl := ⟨[(1, .c (.s .I)), (5, .c .i)], []⟩
def zs3 : Tmpl := ⟨[], []⟩
def y6x (av : AV) (x : HP z1l.ps) (n : Nat) (v : zx9.den) (K : Ks (CR z1l)) : Option (CR z1l) := z3q v.1.1 (zs3.at none ((), ()) (K (.exit 0))) n v.1.2.1
def zw3 (av : AV) (x : HP z1l.ps) : Hdl (CR z1l) := hnd [] zx9 (y6x av x)
theorem y81 : LP z1l Try.f53 [0] zw3 := lp_ok (W := []) (H := []) (xs := [zs3]) y2k trivial rfl (fun av x v K => by kernel_rfl) (fun av x n v K => by kernel_rfl)
theorem z9h : z1l.Ok Try.prog := fn_ok (k := z1l) (fn := Try.f53) (W := []) (H := [zw3]) Try.func53 y2k ⟨y81, trivial⟩ rfl rfl (fun av x => by kernel_rfl)
def z5e (s0_0 : Bool) (s0_1 : Bool) : Option (Bool × Bool) := some (s0_0, s0_1)
def z0y (marks : List Int) (list : List Int) (kx0_0 : Bool → Bool → Option (Bool × Bool)) : Nat → Bool → Bool → Int → Option (Bool × Bool)
  | 0, _, _, _ => none
  | n0 + 1, s0_0, s0_1, s0_2 => if decide (s0_2 < (list.length : Int)) = true then (if s0_0 = true then (if s0_1 = true then ((getI list s0_2).bind fun x4 => ((getI marks x4).bind fun x5 => (gd (ok64 (s0_2 + 1)) ((z0y marks list kx0_0 n0) true (decide (0 < x5)) (s0_2 + 1))))) else (gd (ok64 (s0_2 + 1)) ((z0y marks list kx0_0 n0) true false (s0_2 + 1)))) else ((getI list s0_2).bind fun x8 => ((getI marks x8).bind fun x9 => (if s0_1 = true then ((getI list s0_2).bind fun x11 => ((getI marks x11).bind fun x12 => (gd (ok64 (s0_2 + 1)) ((z0y marks list kx0_0 n0) (decide (0 < x9)) (decide (0 < x12)) (s0_2 + 1))))) else (gd (ok64 (s0_2 + 1)) ((z0y marks list kx0_0 n0) (decide (0 < x9)) false (s0_2 + 1))))))) else (kx0_0 s0_0 s0_1)
def z8d (marks : List Int) (list : List Int) : Option (Bool × Bool) := z0y marks list z5e FUEL false true 0
def z2l : Con := ⟨167, [.v (.sl .I) false, .v (.sl .I) false], [(.B, true), (.B, true)], [], fun x => z8d x.1 x.2.1⟩
def ya2 : Fs := ⟨[], [], []⟩
theorem y0i : ya2.Ok Try.prog := fs0
def zr6 : Tmpl := ⟨[(0, .c (.s .I)), (1, .c (.s .I)), (6, .c .b), (7, .c .b), (8, .c .i)], []⟩
def zl8 : Tmpl := ⟨[(6, .c .b), (7, .c .b)], []⟩
def y4r (av : AV) (x : HP z2l.ps) (n : Nat) (v : zr6.den) (K : Ks (CR z2l)) : Option (CR z2l) := z0y v.1.1 v.1.2.1 (fun s0_0 s0_1 => zl8.at none ((s0_0, s0_1, ()), ()) (K (.exit 0))) n v.1.2.2.1 v.1.2.2.2.1 v.1.2.2.2.2.1
def zo0 (av : AV) (x : HP z2l.ps) : Hdl (CR z2l) := hnd [] zr6 (y4r av x)
theorem y5q : LP z2l Try.f167 [0] zo0 := lp_ok (W := []) (H := []) (xs := [zl8]) y0i trivial rfl (fun av x v K => by kernel_rfl) (fun av x n v K => by kernel_rfl)
theorem yd8 : z2l.Ok Try.prog := fn_ok (k := z2l) (fn := Try.f167) (W := []) (H := [zo0]) Try.func167 y0i ⟨y5q, trivial⟩ rfl rfl (fun av x => by kernel_rfl)
def z2f (s1_0 : Int) (bk1 : Int → List Bool → Option Bool) (l2_1 : List Bool) : Option Bool := gd (ok64 (s1_0 + 1)) (bk1 (s1_0 + 1) l2_1)
def z1j (p2_0 : List GFlow) (kx2_0 : List Bool → Option Bool) : Nat → Int → List Bool → Option Bool
  | 0, _, _ => none
  | n2 + 1, s2_0, l2_1 => if decide (s2_0 < (p2_0.length : Int)) = true then ((getI p2_0 s2_0).bind fun x15 => ((getI l2_1 x15.to).bind fun x16 => (gd (ok64 (s2_0 + 1)) ((z1j p2_0 kx2_0 n2) (s2_0 + 1) (l2_1.set x15.to.toNat true))))) else (kx2_0 l2_1)
def z6g  : Option Bool := some false
def z14 (n : GNet) (marks : List Int) (t : Int) (x19 : (List Bool)) (kx3_0 : Option Bool) : Nat → Int → Option Bool
  | 0, _ => none
  | n3 + 1, s3_0 => (getI n.tasks t).bind fun x20 => (if decide (s3_0 < (x20.in_.length : Int)) = true then ((getI n.tasks t).bind fun x22 => ((getI x22.in_ s3_0).bind fun x23 => ((getI marks x23).bind fun x24 => (if decide (x24 = 0) = true then ((getI n.tasks t).bind fun x26 => ((getI x26.in_ s3_0).bind fun x27 => ((getI x19 x27).bind fun x28 => (if x28 = true then (some true) else (gd (ok64 (s3_0 + 1)) ((z14 n marks t x19 kx3_0 n3) (s3_0 + 1))))))) else (gd (ok64 (s3_0 + 1)) ((z14 n marks t x19 kx3_0 n3) (s3_0 + 1))))))) else (kx3_0))
def z12 (n : GNet) (marks : List Int) (t : Int) (l1_1 : List Bool) : Option Bool := (z6a n l1_1 t).bind fun x19 => (z14 n marks t x19 z6g FUEL 0)
def z0j (n : GNet) (busy : List GItem) (kx1_0 : List Bool → Option Bool) : Nat → Int → List Bool → Option Bool
  | 0, _, _ => none
  | n1 + 1, s1_0, l1_1 => if decide (s1_0 < (busy.length : Int)) = true then ((getI busy s1_0).bind fun x12 => ((getI n.tasks x12.task).bind fun x13 => (z1j x13.out (z2f s1_0 (z0j n busy kx1_0 n1)) FUEL 0 l1_1))) else (kx1_0 l1_1)
def z2e (n : GNet) (marks : List Int) (busy : List GItem) (t : Int) (l0_1 : List Bool) : Option Bool := z0j n busy (z12 n marks t) FUEL 0 l0_1
def z13 (n : GNet) (marks : List Int) (t : Int) (kx0_0 : List Bool → Option Bool) : Nat → Int → List Bool → Option Bool
  | 0, _, _ => none
  | n0 + 1, s0_0, l0_1 => if decide (s0_0 < n.places) = true then ((getI marks s0_0).bind fun x3 => (if decide (0 < x3) = true then ((getI n.tasks t).bind fun x5 => ((z5o x5.in_ s0_0).bind fun x6 => ((getI l0_1 s0_0).bind fun x7 => (gd (ok64 (s0_0 + 1)) ((z13 n marks t kx0_0 n0) (s0_0 + 1) (l0_1.set s0_0.toNat (!x6))))))) else ((getI l0_1 s0_0).bind fun x9 => (gd (ok64 (s0_0 + 1)) ((z13 n marks t kx0_0 n0) (s0_0 + 1) (l0_1.set s0_0.toNat false)))))) else (kx0_0 l0_1)
def z6f (n : GNet) (marks : List Int) (busy : List GItem) (t : Int) : Option Bool := gd ((0 : Int) ≤ n.places ∧ n.places ≤ (1000000000 : Int)) (z13 n marks t (z2e n marks busy t) FUEL 0 (List.replicate n.places.toNat false))
def z04 : Con := ⟨168, [.v (.s .net) false, .v (.sl .I) false, .v (.sl (.s .item)) false, .v .I false], [(.B, true)], [], fun x => z6f x.1 x.2.1 x.2.2.1 x.2.2.2.1⟩
def y57 : Fs := ⟨[z26, z03], [], []⟩
theorem z4d : y57.Ok Try.prog := (fsK zq2 (fsK y5y fs0))
def z8w : Tmpl := ⟨[(1, .c (.s .I)), (2, .c (.s (.s .item))), (3, .c .i), (4, .c (.bx 4 0)), (9, .c (.ref 18)), (11, .c .i), (12, .c (.s (.s .flow))), (13, .c .i)], [(4, .boxT (.s .net)), (18, .arr .B true)]⟩
def z7v : Tmpl := ⟨[(1, .c (.s .I)), (2, .c (.s (.s .item))), (3, .c .i), (4, .c (.bx 4 0)), (9, .c (.ref 18)), (11, .c .i)], [(4, .boxT (.s .net)), (18, .arr .B true)]⟩
def zy7 (av : AV) (x : HP z04.ps) (n : Nat) (v : z8w.den) (K : Ks (CR z04)) : Option (CR z04) := z1j v.1.2.2.2.2.2.2.1 (fun l2_1 => z7v.at none ((v.1.1, v.1.2.1, v.1.2.2.1, (), (), v.1.2.2.2.2.2.1, ()), (v.2.1, l2_1, ())) (K (.exit 4))) n v.1.2.2.2.2.2.2.2.1 v.2.2.1
def z8l (av : AV) (x : HP z04.ps) : Hdl (CR z04) := hnd [] z8w (zy7 av x)
theorem zz7 : LP z04 Try.f168 [1, 0] z8l := lp_ok (W := []) (H := []) (xs := [z7v]) z4d trivial rfl (fun av x v K => by kernel_rfl) (fun av x n v K => by kernel_rfl)
def ze6 : Tmpl := ⟨[(1, .c (.s .I)), (2, .c (.s (.s .item))), (3, .c .i), (4, .c (.bx 4 0)), (9, .c (.ref 18)), (10, .c .i)], [(4, .boxT (.s .net)), (18, .arr .B true)]⟩
def z9r : Tmpl := ⟨[(1, .c (.s .I)), (2, .c (.s (.s .item))), (3, .c .i), (4, .c (.bx 4 0)), (9, .c (.ref 18))], [(4, .boxT (.s .net)), (18, .arr .B true)]⟩
def y1g (av : AV) (x : HP z04.ps) (n : Nat) (v : ze6.den) (K : Ks (CR z04)) : Option (CR z04) := z13 v.2.1 v.1.1 v.1.2.2.1 (fun l0_1 => z9r.at none ((v.1.1, v.1.2.1, v.1.2.2.1, (), (), ()), (v.2.1, l0_1, ())) (K (.exit 0))) n v.1.2.2.2.2.2.1 v.2.2.1
def zc2 (av : AV) (x : HP z04.ps) : Hdl (CR z04) := hnd [] ze6 (y1g av x)
theorem y1w : LP z04 Try.f168 [0] zc2 := lp_ok (W := []) (H := []) (xs := [z9r]) z4d trivial rfl (fun av x v K => by kernel_rfl) (fun av x n v K => by kernel_rfl)
def ze7 : Tmpl := ⟨[(1, .c (.s .I)), (2, .c (.s (.s .item))), (3, .c .i), (4, .c (.bx 4 0)), (9, .c (.ref 18)), (11, .c .i)], [(4, .boxT (.s .net)), (18, .arr .B true)]⟩
def z9s : Tmpl := ⟨[(1, .c (.s .I)), (3, .c .i), (4, .c (.bx 4 0)), (9, .c (.ref 18))], [(4, .boxT (.s .net)), (18, .arr .B true)]⟩
def y1h (av : AV) (x : HP z04.ps) (n : Nat) (v : ze7.den) (K : Ks (CR z04)) : Option (CR z04) := z0j v.2.1 v.1.2.1 (fun l1_1 => z9s.at none ((v.1.1, v.1.2.2.1, (), (), ()), (v.2.1, l1_1, ())) (K (.exit 2))) n v.1.2.2.2.2.2.1 v.2.2.1
def zc3 (av : AV) (x : HP z04.ps) : Hdl (CR z04) := hnd [] ze7 (y1h av x)
theorem y1x : LP z04 Try.f168 [1] zc3 := lp_ok (W := []) (H := [z8l]) (xs := [z9s]) z4d ⟨zz7, trivial⟩ rfl (fun av x v K => by kernel_rfl) (fun av x n v K => by kernel_rfl)
def ze8 : Tmpl := ⟨[(1, .c (.s .I)), (3, .c .i), (4, .c (.bx 4 0)), (14, .c (.ref 76)), (15, .c .i)], [(4, .boxT (.s .net)), (76, .arr .B true)]⟩
def z9t : Tmpl := ⟨[], []⟩
def y1i (av : AV) (x : HP z04.ps) (n : Nat) (v : ze8.den) (K : Ks (CR z04)) : Option (CR z04) := z14 v.2.1 v.1.1 v.1.2.1 v.2.2.1 (z9t.at none ((), ()) (K (.exit 6))) n v.1.2.2.2.2.1
def zc4 (av : AV) (x : HP z04.ps) : Hdl (CR z04) := hnd [] ze8 (y1i av x)
theorem y1y : LP z04 Try.f168 [2] zc4 := lp_ok (W := []) (H := []) (xs := [z9t]) z4d trivial rfl (fun av x v K => by kernel_rfl) (fun av x n v K => by kernel_rfl)
theorem y5z : z04.Ok Try.prog := fn_ok (k := z04) (fn := Try.f168) (W := []) (H := [zc2, zc3, zc4]) Try.func168 z4d ⟨y1w, y1x, y1y, trivial⟩ rfl rfl (fun av x => by kernel_rfl)
def z9f (n : GNet) (marks : List Int) (busy : List GItem) (t : Int) : Option Bool := (getI n.tasks t).bind fun x1 => ((z8d marks x1.in_).bind fun x2 => ((getI n.tasks t).bind fun x3 => (if decide (x3.join = 1) = true then (some x2.2) else (if decide (x3.join = 2) = true then (some x2.1) else (if x2.1 = true then (if x2.2 = true then (some true) else ((z6f n marks busy t).bind fun x8 => (some (!x8)))) else (some false))))))
def zo5 : Con := ⟨152, [.v (.s .net) false, .v (.sl .I) false, .v (.sl (.s .item)) false, .v .I false], [(.B, true)], [], fun x => z9f x.1 x.2.1 x.2.2.1 x.2.2.2.1⟩
def yj4 : Fs := ⟨[z2l, z04], [], []⟩
theorem yk4 : yj4.Ok Try.prog := (fsK yd8 (fsK y5z fs0))
theorem ym8 : zo5.Ok Try.prog := fn_ok (k := zo5) (fn := Try.f152) (W := []) (H := []) Try.func152 yk4 trivial rfl rfl (fun av x => by kernel_rfl)
def zj6  : Option Bool := some true
def z35 (n : GNet) (busy : List GItem) (kx0_0 : Option Bool) : Nat → Int → Option Bool
  | 0, _ => none
  | n0 + 1, s0_0 => if decide (s0_0 < (busy.length : Int)) = true then ((getI busy s0_0).bind fun x3 => (gd (ok64 ((n.tasks.length : Int) - 1)) ((z05 x3.task 0 ((n.tasks.length : Int) - 1)).bind fun x5 => (if x5 = true then ((getI busy s0_0).bind fun x7 => ((z05 x7.who 1 4).bind fun x8 => (if x8 = true then ((getI busy s0_0).bind fun x10 => ((getI busy s0_0).bind fun x11 => ((getI n.tasks x11.task).bind fun x12 => (gd (ok64 (x12.need - 1)) ((z05 x10.did 0 (x12.need - 1)).bind fun x14 => (if x14 = true then (gd (ok64 (s0_0 + 1)) ((z35 n busy kx0_0 n0) (s0_0 + 1))) else (some false))))))) else (some false)))) else (some false))))) else (kx0_0)
def z6e (n : GNet) (busy : List GItem) : Option Bool := if decide (6 < (busy.length : Int)) = true then (some false) else (z35 n busy zj6 FUEL 0)
def z23 : Con := ⟨54, [.v (.s .net) false, .v (.sl (.s .item)) false], [(.B, true)], [], fun x => z6e x.1 x.2.1⟩
def ya1 : Fs := ⟨[z0m], [], []⟩
theorem y0h : ya1.Ok Try.prog := (fsK z0x fs0)
def zr5 : Tmpl := ⟨[(1, .c (.s (.s .item))), (2, .c (.bx 2 0)), (5, .c .i)], [(2, .boxT (.s .net))]⟩
def zl7 : Tmpl := ⟨[], []⟩
def y4q (av : AV) (x : HP z23.ps) (n : Nat) (v : zr5.den) (K : Ks (CR z23)) : Option (CR z23) := z35 v.2.1 v.1.1 (zl7.at none ((), ()) (K (.exit 0))) n v.1.2.2.1
def zn9 (av : AV) (x : HP z23.ps) : Hdl (CR z23) := hnd [] zr5 (y4q av x)
theorem y5p : LP z23 Try.f54 [0] zn9 := lp_ok (W := []) (H := []) (xs := [zl7]) y0h trivial rfl (fun av x v K => by kernel_rfl) (fun av x n v K => by kernel_rfl)
theorem y0u : z23.Ok Try.prog := fn_ok (k := z23) (fn := Try.f54) (W := []) (H := [zn9]) Try.func54 y0h ⟨y5p, trivial⟩ rfl rfl (fun av x => by kernel_rfl)
def z60 (n : GNet) (marks : List Int) (busy : List GItem) (t : Int) : Option Bool := (z4k n marks).bind fun x1 => (if x1 = true then ((z6e n busy).bind fun x3 => (if x3 = true then (gd (ok64 ((n.tasks.length : Int) - 1)) ((z05 t 0 ((n.tasks.length : Int) - 1)).bind fun x6 => (if x6 = true then ((z9f n marks busy t).bind fun x8 => (some x8)) else (some false)))) else (some false))) else (some false))
def z80 : Con := ⟨121, [.v (.s .net) false, .v (.sl .I) false, .v (.sl (.s .item)) false, .v .I false], [(.B, true)], [], fun x => z60 x.1 x.2.1 x.2.2.1 x.2.2.2.1⟩
def y9u : Fs := ⟨[z1l, z23, z0m, zo5], [], []⟩
theorem yb1 : y9u.Ok Try.prog := (fsK z9h (fsK y0u (fsK z0x (fsK ym8 fs0))))
theorem y0s : z80.Ok Try.prog := fn_ok (k := z80) (fn := Try.f121) (W := []) (H := []) Try.func121 yb1 trivial rfl rfl (fun av x => by kernel_rfl)
def z61 (l0_1 : List Int) : Option (List Int) := some l0_1
def z1i (n : GNet) (marks : List Int) (busy : List GItem) (kx0_0 : List Int → Option (List Int)) : Nat → Int → List Int → Option (List Int)
  | 0, _, _ => none
  | n0 + 1, s0_0, l0_1 => if decide (s0_0 < (n.tasks.length : Int)) = true then ((z60 n marks busy s0_0).bind fun x2 => (if x2 = true then (gd (l0_1.length + [s0_0].length ≤ SMALL) (gd (ok64 (s0_0 + 1)) ((z1i n marks busy kx0_0 n0) (s0_0 + 1) (l0_1 ++ [s0_0])))) else (gd (ok64 (s0_0 + 1)) ((z1i n marks busy kx0_0 n0) (s0_0 + 1) l0_1)))) else (kx0_0 l0_1)
def z2w (n : GNet) (marks : List Int) (busy : List GItem) : Option (List Int) := z1i n marks busy z61 FUEL 0 ([] : List Int)
def z17 : Con := ⟨76, [.v (.s .net) false, .v (.sl .I) false, .v (.sl (.s .item)) false], [((.sl .I), true)], [], fun x => z2w x.1 x.2.1 x.2.2.1⟩
def y51 : Fs := ⟨[z80], [], []⟩
theorem zn0 : y51.Ok Try.prog := (fsK y0s fs0)
def ze1 : Tmpl := ⟨[(1, .c (.s .I)), (2, .c (.s (.s .item))), (3, .c (.bx 3 0)), (7, .c (.ref 9)), (8, .c .i)], [(3, .boxT (.s .net)), (9, .arr .I true)]⟩
def z9m : Tmpl := ⟨[(7, .c (.ref 9))], [(9, .arr .I true)]⟩
def y1b (av : AV) (x : HP z17.ps) (n : Nat) (v : ze1.den) (K : Ks (CR z17)) : Option (CR z17) := z1i v.2.1 v.1.1 v.1.2.1 (fun l0_1 => z9m.at none (((), ()), (l0_1, ())) (K (.exit 0))) n v.1.2.2.2.2.1 v.2.2.1
def zb7 (av : AV) (x : HP z17.ps) : Hdl (CR z17) := hnd [] ze1 (y1b av x)
theorem y1r : LP z17 Try.f76 [0] zb7 := lp_ok (W := []) (H := []) (xs := [z9m]) zn0 trivial rfl (fun av x v K => by kernel_rfl) (fun av x n v K => by kernel_rfl)
theorem zq1 : z17.Ok Try.prog := fn_ok (k := z17) (fn := Try.f76) (W := []) (H := [zb7]) Try.func76 zn0 ⟨y1r, trivial⟩ rfl rfl (fun av x => by kernel_rfl)
def zc7 (l0_1 : List Int) (x10 : Int) (x13 : Int) : Option (List Int) := some (l0_1.set x10.toNat (x13 - 1))
def zc8 (l0_1 : List Int) : Option (List Int) := some l0_1
def z1p (n : GNet) (t : Int) (kx0_0 : List Int → Int → Int → Option (List Int)) (kx0_1 : List Int → Option (List Int)) : Nat → Int → List Int → Option (List Int)
  | 0, _, _ => none
  | n0 + 1, s0_0, l0_1 => (getI n.tasks t).bind fun x7 => (if decide (s0_0 < (x7.in_.length : Int)) = true then ((getI n.tasks t).bind fun x9 => ((getI x9.in_ s0_0).bind fun x10 => ((getI l0_1 x10).bind fun x11 => (if decide (0 < x11) = true then ((getI l0_1 x10).bind fun x13 => (gd (ok64 (x13 - 1)) ((getI l0_1 x10).bind fun x15 => ((getI n.tasks t).bind fun x16 => (if decide (x16.join = 2) = true then (kx0_0 l0_1 x10 x13) else (gd (ok64 (s0_0 + 1)) ((z1p n t kx0_0 kx0_1 n0) (s0_0 + 1) (l0_1.set x10.toNat (x13 - 1))))))))) else (gd (ok64 (s0_0 + 1)) ((z1p n t kx0_0 kx0_1 n0) (s0_0 + 1) l0_1)))))) else (kx0_1 l0_1))
def z70 (n : GNet) (marks : List Int) (t : Int) : Option (List Int) := (z4k n marks).bind fun x1 => (if x1 = true then (gd (ok64 ((n.tasks.length : Int) - 1)) ((z05 t 0 ((n.tasks.length : Int) - 1)).bind fun x4 => (if x4 = true then (gd (([] : List Int).length + marks.length ≤ SMALL) (z1p n t zc7 zc8 FUEL 0 (([] : List Int) ++ marks))) else (some ([] : List Int))))) else (some ([] : List Int)))
def z1x : Con := ⟨147, [.v (.s .net) false, .v (.sl .I) false, .v .I false], [((.sl .I), true)], [], fun x => z70 x.1 x.2.1 x.2.2.1⟩
def y7c : Fs := ⟨[z1l, z0m], [], []⟩
theorem zv1 : y7c.Ok Try.prog := (fsK z9h (fsK z0x fs0))
def zk2 : Tmpl := ⟨[(2, .c .i), (3, .c (.bx 3 0)), (7, .c (.ref 26)), (8, .c .i)], [(3, .boxT (.s .net)), (26, .arr .I true)]⟩
def z6x : Tmpl := ⟨[(7, .c (.ref 26))], [(26, .arr .I true)]⟩
def y38 (av : AV) (x : HP z1x.ps) (n : Nat) (v : zk2.den) (K : Ks (CR z1x)) : Option (CR z1x) := z1p v.2.1 v.1.1 (fun l0_1 x10 x13 => z6x.at none (((), ()), ((l0_1.set x10.toNat (x13 - 1)), ())) (K (.exit 0))) (fun l0_1 => z6x.at none (((), ()), (l0_1, ())) (K (.exit 0))) n v.1.2.2.2.1 v.2.2.1
def zi2 (av : AV) (x : HP z1x.ps) : Hdl (CR z1x) := hnd [] zk2 (y38 av x)
theorem y3t : LP z1x Try.f147 [0] zi2 := lp_ok (W := []) (H := []) (xs := [z6x]) zv1 trivial rfl (fun av x v K => by kernel_rfl) (fun av x n v K => by kernel_rfl)
theorem y8e : z1x.Ok Try.prog := fn_ok (k := z1x) (fn := Try.f147) (W := []) (H := [zi2]) Try.func147 zv1 ⟨y3t, trivial⟩ rfl rfl (fun av x => by kernel_rfl)
def z4h (who : Int) : Option Bool := (z0s who 1 4).bind fun x1 => (some x1)
def z5t : Con := ⟨52, [.v .I false], [(.B, true)], [], fun x => z4h x.1⟩
def y4z : Fs := ⟨[z2u], [], []⟩
theorem y5d : y4z.Ok Try.prog := (fsK z3v fs0)
theorem zp8 : z5t.Ok Try.prog := fn_ok (k := z5t) (fn := Try.f52) (W := []) (H := []) Try.func52 y5d trivial rfl rfl (fun av x => by kernel_rfl)
def z63 (l0_1 : List Int) (x8 : GFlow) : Option (List Int) := some (l0_1 ++ [x8.to])
def z64 (l0_1 : List Int) (x13 : GFlow) : Option (List Int) := some (l0_1 ++ [x13.to])
def z65 (l0_1 : List Int) (x18 : GFlow) : Option (List Int) := some (l0_1 ++ [x18.to])
def z8q (l0_1 : List Int) : Option (List Int) := some l0_1
def z0w (t : GTask) (data : List Int) (kx0_0 : List Int → GFlow → Option (List Int)) (kx0_1 : List Int → GFlow → Option (List Int)) (kx0_2 : List Int → GFlow → Option (List Int)) (kx0_3 : List Int → Option (List Int)) : Nat → Int → List Int → Option (List Int)
  | 0, _, _ => none
  | n0 + 1, s0_0, l0_1 => if decide (s0_0 < (t.out.length : Int)) = true then ((getI t.out s0_0).bind fun x2 => ((z62 x2.if_ data).bind fun x3 => (if x3 = true then (if decide (t.split = 3) = true then (gd (ok64 ((t.out.length : Int) - 1)) (if decide (s0_0 < ((t.out.length : Int) - 1)) = true then ((getI t.out s0_0).bind fun x8 => (gd (l0_1.length + [x8.to].length ≤ SMALL) (if decide (t.split = 2) = true then (kx0_0 l0_1 x8) else (gd (ok64 (s0_0 + 1)) ((z0w t data kx0_0 kx0_1 kx0_2 kx0_3 n0) (s0_0 + 1) (l0_1 ++ [x8.to])))))) else (if decide ((l0_1.length : Int) = 0) = true then ((getI t.out s0_0).bind fun x13 => (gd (l0_1.length + [x13.to].length ≤ SMALL) (if decide (t.split = 2) = true then (kx0_1 l0_1 x13) else (gd (ok64 (s0_0 + 1)) ((z0w t data kx0_0 kx0_1 kx0_2 kx0_3 n0) (s0_0 + 1) (l0_1 ++ [x13.to])))))) else (gd (ok64 (s0_0 + 1)) ((z0w t data kx0_0 kx0_1 kx0_2 kx0_3 n0) (s0_0 + 1) l0_1))))) else ((getI t.out s0_0).bind fun x18 => (gd (l0_1.length + [x18.to].length ≤ SMALL) (if decide (t.split = 2) = true then (kx0_2 l0_1 x18) else (gd (ok64 (s0_0 + 1)) ((z0w t data kx0_0 kx0_1 kx0_2 kx0_3 n0) (s0_0 + 1) (l0_1 ++ [x18.to]))))))) else (gd (ok64 (s0_0 + 1)) ((z0w t data kx0_0 kx0_1 kx0_2 kx0_3 n0) (s0_0 + 1) l0_1))))) else (kx0_3 l0_1)
def z9b (t : GTask) (data : List Int) : Option (List Int) := z0w t data z63 z64 z65 z8q FUEL 0 ([] : List Int)
def z3a : Con := ⟨113, [.v (.s .task) false, .v (.sl .I) false], [((.sl .I), true)], [], fun x => z9b x.1 x.2.1⟩
def yj2 : Fs := ⟨[z8o], [], []⟩
theorem y2n : yj2.Ok Try.prog := (fsK y5u fs0)
def zy2 : Tmpl := ⟨[(1, .c (.s .I)), (2, .c (.bx 2 0)), (5, .c (.ref 7)), (6, .c .i)], [(2, .boxT (.s .task)), (7, .arr .I true)]⟩
def z4n : Tmpl := ⟨[(5, .c (.ref 49))], [(49, .arr .I true)]⟩
def y70 (av : AV) (x : HP z3a.ps) (n : Nat) (v : zy2.den) (K : Ks (CR z3a)) : Option (CR z3a) := z0w v.2.1 v.1.1 (fun l0_1 x8 => z4n.at none (((), ()), ((l0_1 ++ [x8.to]), ())) (K (.exit 0))) (fun l0_1 x13 => z4n.at none (((), ()), ((l0_1 ++ [x13.to]), ())) (K (.exit 0))) (fun l0_1 x18 => z4n.at none (((), ()), ((l0_1 ++ [x18.to]), ())) (K (.exit 0))) (fun l0_1 => z4n.at none (((), ()), (l0_1, ())) (K (.exit 0))) n v.1.2.2.2.1 v.2.2.1
def zw6 (av : AV) (x : HP z3a.ps) : Hdl (CR z3a) := hnd [] zy2 (y70 av x)
theorem y84 : LP z3a Try.f113 [0] zw6 := lp_ok (W := []) (H := []) (xs := [z4n]) y2n trivial rfl (fun av x v K => by kernel_rfl) (fun av x n v K => by kernel_rfl)
theorem ym7 : z3a.Ok Try.prog := fn_ok (k := z3a) (fn := Try.f113) (W := []) (H := [zw6]) Try.func113 y2n ⟨y84, trivial⟩ rfl rfl (fun av x => by kernel_rfl)
def z4t (l1_1 : List Int) : Option ((List Int) × Bool) := some (l1_1, true)
def z2s (x16 : (List Int)) (kx1_0 : List Int → Option ((List Int) × Bool)) : Nat → Int → List Int → Option ((List Int) × Bool)
  | 0, _, _ => none
  | n1 + 1, s1_0, l1_1 => if decide (s1_0 < (x16.length : Int)) = true then ((getI x16 s1_0).bind fun x18 => ((getI l1_1 x18).bind fun x19 => (if decide (x19 = 4) = true then (some (([] : List Int), false)) else ((getI x16 s1_0).bind fun x21 => ((getI x16 s1_0).bind fun x22 => ((getI l1_1 x22).bind fun x23 => (gd (ok64 (x23 + 1)) ((getI l1_1 x21).bind fun x25 => (gd (ok64 (s1_0 + 1)) ((z2s x16 kx1_0 n1) (s1_0 + 1) (l1_1.set x21.toNat (x23 + 1)))))))))))) else (kx1_0 l1_1)
def z4s (n : GNet) (t : Int) (data : List Int) (l0_1 : List Int) : Option ((List Int) × Bool) := (getI n.tasks t).bind fun x15 => ((z9b x15 data).bind fun x16 => (z2s x16 z4t FUEL 0 l0_1))
def z2r (n : GNet) (t : Int) (kx0_0 : List Int → Option ((List Int) × Bool)) : Nat → Int → List Int → Option ((List Int) × Bool)
  | 0, _, _ => none
  | n0 + 1, s0_0, l0_1 => (getI n.tasks t).bind fun x9 => (if decide (s0_0 < (x9.clear.length : Int)) = true then ((getI n.tasks t).bind fun x11 => ((getI x11.clear s0_0).bind fun x12 => ((getI l0_1 x12).bind fun x13 => (gd (ok64 (s0_0 + 1)) ((z2r n t kx0_0 n0) (s0_0 + 1) (l0_1.set x12.toNat 0)))))) else (kx0_0 l0_1))
def z71 (n : GNet) (marks : List Int) (t : Int) (data : List Int) : Option ((List Int) × Bool) := (z4k n marks).bind fun x1 => (if x1 = true then (gd (ok64 ((n.tasks.length : Int) - 1)) ((z05 t 0 ((n.tasks.length : Int) - 1)).bind fun x4 => (if x4 = true then ((z3w data).bind fun x6 => (if x6 = true then (gd (([] : List Int).length + marks.length ≤ SMALL) (z2r n t (z4s n t data) FUEL 0 (([] : List Int) ++ marks))) else (some (([] : List Int), false)))) else (some (([] : List Int), false))))) else (some (([] : List Int), false)))
def z0f : Con := ⟨71, [.v (.s .net) false, .v (.sl .I) false, .v .I false, .v (.sl .I) false], [((.sl .I), true), (.B, true)], [], fun x => z71 x.1 x.2.1 x.2.2.1 x.2.2.2.1⟩
def y7d : Fs := ⟨[z1l, z0m, z1c, z3a], [], []⟩
theorem z9v : y7d.Ok Try.prog := (fsK z9h (fsK z0x (fsK z7d (fsK ym7 fs0))))
def zk3 : Tmpl := ⟨[(2, .c .i), (3, .c (.s .I)), (4, .c (.bx 4 0)), (10, .c (.ref 35)), (11, .c .i)], [(4, .boxT (.s .net)), (35, .arr .I true)]⟩
def zf2 : Tmpl := ⟨[(2, .c .i), (3, .c (.s .I)), (4, .c (.bx 4 0)), (10, .c (.ref 35))], [(4, .boxT (.s .net)), (35, .arr .I true)]⟩
def y39 (av : AV) (x : HP z0f.ps) (n : Nat) (v : zk3.den) (K : Ks (CR z0f)) : Option (CR z0f) := z2r v.2.1 v.1.1 (fun l0_1 => zf2.at none ((v.1.1, v.1.2.1, (), (), ()), (v.2.1, l0_1, ())) (K (.exit 0))) n v.1.2.2.2.2.1 v.2.2.1
def zi3 (av : AV) (x : HP z0f.ps) : Hdl (CR z0f) := hnd [] zk3 (y39 av x)
theorem y3u : LP z0f Try.f71 [0] zi3 := lp_ok (W := []) (H := []) (xs := [zf2]) z9v trivial rfl (fun av x v K => by kernel_rfl) (fun av x n v K => by kernel_rfl)
def zk4 : Tmpl := ⟨[(10, .c (.ref 35)), (12, .c (.ref 64)), (13, .c .i)], [(35, .arr .I true), (64, .arr .I true)]⟩
def zf3 : Tmpl := ⟨[(10, .c (.ref 35))], [(35, .arr .I true)]⟩
def y3a (av : AV) (x : HP z0f.ps) (n : Nat) (v : zk4.den) (K : Ks (CR z0f)) : Option (CR z0f) := z2s v.2.2.1 (fun l1_1 => zf3.at none (((), ()), (l1_1, ())) (K (.exit 2))) n v.1.2.2.1 v.2.1
def zi4 (av : AV) (x : HP z0f.ps) : Hdl (CR z0f) := hnd [] zk4 (y3a av x)
theorem y3v : LP z0f Try.f71 [1] zi4 := lp_ok (W := []) (H := []) (xs := [zf3]) z9v trivial rfl (fun av x v K => by kernel_rfl) (fun av x n v K => by kernel_rfl)
theorem y8f : z0f.Ok Try.prog := fn_ok (k := z0f) (fn := Try.f71) (W := []) (H := [zi3, zi4]) Try.func71 z9v ⟨y3u, y3v, trivial⟩ rfl rfl (fun av x => by kernel_rfl)
def zp6  : Option Bool := some true
def z3s (people : List Int) (kx0_0 : Option Bool) : Nat → Int → Option Bool
  | 0, _ => none
  | n0 + 1, s0_0 => if decide (s0_0 < (people.length : Int)) = true then ((getI people s0_0).bind fun x4 => ((z05 x4 0 7).bind fun x5 => (if x5 = true then (gd (ok64 (s0_0 + 1)) ((z3s people kx0_0 n0) (s0_0 + 1))) else (some false)))) else (kx0_0)
def z7a (people : List Int) : Option Bool := (z05 (people.length : Int) 1 4).bind fun x1 => (if x1 = true then (z3s people zp6 FUEL 0) else (some false))
def z2n : Con := ⟨92, [.v (.sl .I) false], [(.B, true)], [], fun x => z7a x.1⟩
def yj1 : Fs := ⟨[z0m], [], []⟩
theorem y2m : yj1.Ok Try.prog := (fsK z0x fs0)
def zy1 : Tmpl := ⟨[(0, .c (.s .I)), (3, .c .i)], []⟩
def zs5 : Tmpl := ⟨[], []⟩
def y6z (av : AV) (x : HP z2n.ps) (n : Nat) (v : zy1.den) (K : Ks (CR z2n)) : Option (CR z2n) := z3s v.1.1 (zs5.at none ((), ()) (K (.exit 0))) n v.1.2.1
def zw5 (av : AV) (x : HP z2n.ps) : Hdl (CR z2n) := hnd [] zy1 (y6z av x)
theorem y83 : LP z2n Try.f92 [0] zw5 := lp_ok (W := []) (H := []) (xs := [zs5]) y2m trivial rfl (fun av x v K => by kernel_rfl) (fun av x n v K => by kernel_rfl)
theorem y2y : z2n.Ok Try.prog := fn_ok (k := z2n) (fn := Try.f92) (W := []) (H := [zw5]) Try.func92 y2m ⟨y83, trivial⟩ rfl rfl (fun av x => by kernel_rfl)
def z33 (s0_0 : Int) : Option Bool := gd ((2 : Int) ≠ 0) (some (decide ((Int.tmod s0_0 2) = 1)))
def z18 (role : Int) (kx0_0 : Int → Option Bool) : Nat → Int → Int → Option Bool
  | 0, _, _ => none
  | n0 + 1, s0_0, s0_1 => if decide (s0_1 < role) = true then (gd ((2 : Int) ≠ 0 ∧ ok64 (Int.tdiv s0_0 2)) (gd (ok64 (s0_1 + 1)) ((z18 role kx0_0 n0) (Int.tdiv s0_0 2) (s0_1 + 1)))) else (kx0_0 s0_0)
def z8a (people : List Int) (who : Int) (role : Int) : Option Bool := (z7a people).bind fun x1 => (if x1 = true then ((z05 who 1 (people.length : Int)).bind fun x3 => (if x3 = true then ((z05 role 1 3).bind fun x5 => (if x5 = true then (gd (ok64 (who - 1)) ((getI people (who - 1)).bind fun x8 => (z18 role z33 FUEL x8 1))) else (some false))) else (some false))) else (some false))
def z2k : Con := ⟨122, [.v (.sl .I) false, .v .I false, .v .I false], [(.B, true)], [], fun x => z8a x.1 x.2.1 x.2.2.1⟩
def y9w : Fs := ⟨[z2n, z0m], [], []⟩
theorem y0g : y9w.Ok Try.prog := (fsK y2y (fsK z0x fs0))
def zr3 : Tmpl := ⟨[(2, .c .i), (7, .c .i), (8, .c .i)], []⟩
def zl5 : Tmpl := ⟨[(7, .c .i)], []⟩
def y4o (av : AV) (x : HP z2k.ps) (n : Nat) (v : zr3.den) (K : Ks (CR z2k)) : Option (CR z2k) := z18 v.1.1 (fun s0_0 => zl5.at none ((s0_0, ()), ()) (K (.exit 0))) n v.1.2.1 v.1.2.2.1
def zn7 (av : AV) (x : HP z2k.ps) : Hdl (CR z2k) := hnd [] zr3 (y4o av x)
theorem y5n : LP z2k Try.f122 [0] zn7 := lp_ok (W := []) (H := []) (xs := [zl5]) y0g trivial rfl (fun av x v K => by kernel_rfl) (fun av x n v K => by kernel_rfl)
theorem yd5 : z2k.Ok Try.prog := fn_ok (k := z2k) (fn := Try.f122) (W := []) (H := [zn7]) Try.func122 y0g ⟨y5n, trivial⟩ rfl rfl (fun av x => by kernel_rfl)
def zj4  : Option Bool := some false
def z2g (did : List GDid) (who : Int) (task : Int) (kx0_0 : Option Bool) : Nat → Int → Option Bool
  | 0, _ => none
  | n0 + 1, s0_0 => if decide (s0_0 < (did.length : Int)) = true then ((getI did s0_0).bind fun x2 => (if decide (x2.who = who) = true then ((getI did s0_0).bind fun x4 => (if decide (x4.task = task) = true then (some true) else (gd (ok64 (s0_0 + 1)) ((z2g did who task kx0_0 n0) (s0_0 + 1))))) else (gd (ok64 (s0_0 + 1)) ((z2g did who task kx0_0 n0) (s0_0 + 1))))) else (kx0_0)
def z89 (did : List GDid) (who : Int) (task : Int) : Option Bool := z2g did who task zj4 FUEL 0
def z2j : Con := ⟨123, [.v (.sl (.s .did)) false, .v .I false, .v .I false], [(.B, true)], [], fun x => z89 x.1 x.2.1 x.2.2.1⟩
def y9v : Fs := ⟨[], [], []⟩
theorem y0f : y9v.Ok Try.prog := fs0
def zr2 : Tmpl := ⟨[(0, .c (.s (.s .did))), (1, .c .i), (2, .c .i), (7, .c .i)], []⟩
def zl4 : Tmpl := ⟨[], []⟩
def y4n (av : AV) (x : HP z2j.ps) (n : Nat) (v : zr2.den) (K : Ks (CR z2j)) : Option (CR z2j) := z2g v.1.1 v.1.2.1 v.1.2.2.1 (zl4.at none ((), ()) (K (.exit 0))) n v.1.2.2.2.1
def zn6 (av : AV) (x : HP z2j.ps) : Hdl (CR z2j) := hnd [] zr2 (y4n av x)
theorem y5m : LP z2j Try.f123 [0] zn6 := lp_ok (W := []) (H := []) (xs := [zl4]) y0f trivial rfl (fun av x v K => by kernel_rfl) (fun av x n v K => by kernel_rfl)
theorem yd4 : z2j.Ok Try.prog := fn_ok (k := z2j) (fn := Try.f123) (W := []) (H := [zn6]) Try.func123 y0f ⟨y5m, trivial⟩ rfl rfl (fun av x => by kernel_rfl)
def zj5 (n : GNet) (people : List Int) (did : List GDid) (t : Int) (s0_0 : Int) (l0_1 : List Int) (bk0 : Int → List Int → Option (List Int)) (s1_0 : Bool) : Option (List Int) := (getI n.tasks t).bind fun x18 => ((z8a people s0_0 x18.role).bind fun x19 => (if x19 = true then (if s1_0 = true then (gd (ok64 (s0_0 + 1)) (bk0 (s0_0 + 1) l0_1)) else ((getI n.tasks t).bind fun x23 => ((z89 did s0_0 x23.apart).bind fun x24 => (if x24 = true then (gd (ok64 (s0_0 + 1)) (bk0 (s0_0 + 1) l0_1)) else (gd (l0_1.length + [s0_0].length ≤ SMALL) (gd (ok64 (s0_0 + 1)) (bk0 (s0_0 + 1) (l0_1 ++ [s0_0])))))))) else (gd (ok64 (s0_0 + 1)) (bk0 (s0_0 + 1) l0_1))))
def z19 (n : GNet) (busy : List GItem) (t : Int) (s0_0 : Int) (kx1_0 : Bool → Option (List Int)) : Nat → Bool → Int → Option (List Int)
  | 0, _, _ => none
  | n1 + 1, s1_0, s1_1 => if decide (s1_1 < (busy.length : Int)) = true then (if s1_0 = true then (gd (ok64 (s1_1 + 1)) ((z19 n busy t s0_0 kx1_0 n1) true (s1_1 + 1))) else ((getI busy s1_1).bind fun x12 => (if decide (x12.who = s0_0) = true then ((getI busy s1_1).bind fun x14 => ((getI n.tasks t).bind fun x15 => (gd (ok64 (s1_1 + 1)) ((z19 n busy t s0_0 kx1_0 n1) (decide (x14.task = x15.apart)) (s1_1 + 1))))) else (gd (ok64 (s1_1 + 1)) ((z19 n busy t s0_0 kx1_0 n1) false (s1_1 + 1)))))) else (kx1_0 s1_0)
def z7k (l0_1 : List Int) : Option (List Int) := some l0_1
def z34 (n : GNet) (people : List Int) (did : List GDid) (busy : List GItem) (t : Int) (kx0_0 : List Int → Option (List Int)) : Nat → Int → List Int → Option (List Int)
  | 0, _, _ => none
  | n0 + 1, s0_0, l0_1 => if decide (s0_0 ≤ (people.length : Int)) = true then (z19 n busy t s0_0 (zj5 n people did t s0_0 l0_1 (z34 n people did busy t kx0_0 n0)) FUEL false 0) else (kx0_0 l0_1)
def z3b (n : GNet) (people : List Int) (did : List GDid) (busy : List GItem) (t : Int) : Option (List Int) := (z29 n).bind fun x1 => (if x1 = true then ((z7a people).bind fun x3 => (if x3 = true then (gd (ok64 ((n.tasks.length : Int) - 1)) ((z05 t 0 ((n.tasks.length : Int) - 1)).bind fun x6 => (if x6 = true then (z34 n people did busy t z7k FUEL 1 ([] : List Int)) else (some ([] : List Int))))) else (some ([] : List Int)))) else (some ([] : List Int)))
def z0d : Con := ⟨77, [.v (.s .net) false, .v (.sl .I) false, .v (.sl (.s .did)) false, .v (.sl (.s .item)) false, .v .I false], [((.sl .I), true)], [], fun x => z3b x.1 x.2.1 x.2.2.1 x.2.2.2.1 x.2.2.2.2.1⟩
def y9x : Fs := ⟨[z1m, z2n, z0m, z2k, z2j], [], []⟩
theorem zg3 : y9x.Ok Try.prog := (fsK z9i (fsK y2y (fsK z0x (fsK yd5 (fsK yd4 fs0)))))
def ze2 : Tmpl := ⟨[(1, .c (.s .I)), (2, .c (.s (.s .did))), (3, .c (.s (.s .item))), (4, .c .i), (5, .c (.bx 5 0)), (11, .c (.ref 15)), (12, .c .i), (13, .c .b), (14, .c .i)], [(5, .boxT (.s .net)), (15, .arr .I true)]⟩
def z9n : Tmpl := ⟨[(1, .c (.s .I)), (2, .c (.s (.s .did))), (3, .c (.s (.s .item))), (4, .c .i), (5, .c (.bx 5 0)), (11, .c (.ref 15)), (12, .c .i), (13, .c .b)], [(5, .boxT (.s .net)), (15, .arr .I true)]⟩
def y1c (av : AV) (x : HP z0d.ps) (n : Nat) (v : ze2.den) (K : Ks (CR z0d)) : Option (CR z0d) := z19 v.2.1 v.1.2.2.1 v.1.2.2.2.1 v.1.2.2.2.2.2.2.1 (fun s1_0 => z9n.at none ((v.1.1, v.1.2.1, v.1.2.2.1, v.1.2.2.2.1, (), (), v.1.2.2.2.2.2.2.1, s1_0, ()), (v.2.1, v.2.2.1, ())) (K (.exit 2))) n v.1.2.2.2.2.2.2.2.1 v.1.2.2.2.2.2.2.2.2.1
def zb8 (av : AV) (x : HP z0d.ps) : Hdl (CR z0d) := hnd [] ze2 (y1c av x)
theorem y1s : LP z0d Try.f77 [0, 0] zb8 := lp_ok (W := []) (H := []) (xs := [z9n]) zg3 trivial rfl (fun av x v K => by kernel_rfl) (fun av x n v K => by kernel_rfl)
def zr4 : Tmpl := ⟨[(1, .c (.s .I)), (2, .c (.s (.s .did))), (3, .c (.s (.s .item))), (4, .c .i), (5, .c (.bx 5 0)), (11, .c (.ref 15)), (12, .c .i)], [(5, .boxT (.s .net)), (15, .arr .I true)]⟩
def zl6 : Tmpl := ⟨[(11, .c (.ref 15))], [(15, .arr .I true)]⟩
def y4p (av : AV) (x : HP z0d.ps) (n : Nat) (v : zr4.den) (K : Ks (CR z0d)) : Option (CR z0d) := z34 v.2.1 v.1.1 v.1.2.1 v.1.2.2.1 v.1.2.2.2.1 (fun l0_1 => zl6.at none (((), ()), (l0_1, ())) (K (.exit 0))) n v.1.2.2.2.2.2.2.1 v.2.2.1
def zn8 (av : AV) (x : HP z0d.ps) : Hdl (CR z0d) := hnd [] zr4 (y4p av x)
theorem y5o : LP z0d Try.f77 [0] zn8 := lp_ok (W := []) (H := [zb8]) (xs := [zl6]) zg3 ⟨y1s, trivial⟩ rfl (fun av x v K => by kernel_rfl) (fun av x n v K => by kernel_rfl)
theorem zh4 : z0d.Ok Try.prog := fn_ok (k := z0d) (fn := Try.f77) (W := []) (H := [zn8]) Try.func77 zg3 ⟨y5o, trivial⟩ rfl rfl (fun av x => by kernel_rfl)
def z87 (n : GNet) (data : List Int) : Option GCase := (z29 n).bind fun x1 => (if x1 = true then ((z3w data).bind fun x3 => (if x3 = true then (gd ((0 : Int) ≤ n.places ∧ n.places ≤ (1000000000 : Int)) (gd (([] : List Int).length + data.length ≤ SMALL) ((getI (List.replicate n.places.toNat (0 : Int)) 0).bind fun x7 => (some (GCase.mk 1 ((List.replicate n.places.toNat (0 : Int)).set (0 : Int).toNat 1) [] (([] : List Int) ++ data) []))))) else (some (GCase.mk 0 [] [] [] [])))) else (some (GCase.mk 0 [] [] [] [])))
def zg7 : Con := ⟨100, [.v (.s .net) false, .v (.sl .I) false], [((.s .kase), true)], [], fun x => z87 x.1 x.2.1⟩
def y9s : Fs := ⟨[z1m, z1c], [], []⟩
theorem ya9 : y9s.Ok Try.prog := (fsK z9i (fsK z7d fs0))
theorem yd2 : zg7.Ok Try.prog := fn_ok (k := zg7) (fn := Try.f100) (W := []) (H := []) Try.func100 ya9 trivial rfl rfl (fun av x => by kernel_rfl)
def z5z (c : GCase) : Option Bool := if decide (c.state = 1) = true then ((getI c.marks 1).bind fun x20 => (some (decide (x20 = 0)))) else (if decide ((c.busy.length : Int) = 0) = true then ((getI c.marks 1).bind fun x22 => (some ((decide (c.state = 2)) == (decide (0 < x22))))) else (some false))
def z3o (n : GNet) (c : GCase) (kx0_0 : Option Bool) : Nat → Int → Option Bool
  | 0, _ => none
  | n0 + 1, s0_0 => if decide (s0_0 < (c.did.length : Int)) = true then ((getI c.did s0_0).bind fun x11 => (gd (ok64 ((n.tasks.length : Int) - 1)) ((z05 x11.task 0 ((n.tasks.length : Int) - 1)).bind fun x13 => (if x13 = true then ((getI c.did s0_0).bind fun x15 => ((z05 x15.who 1 4).bind fun x16 => (if x16 = true then (gd (ok64 (s0_0 + 1)) ((z3o n c kx0_0 n0) (s0_0 + 1))) else (some false)))) else (some false))))) else (kx0_0)
def z5m (n : GNet) (c : GCase) : Option Bool := (z4k n c.marks).bind fun x1 => (if x1 = true then ((z6e n c.busy).bind fun x3 => (if x3 = true then ((z3w c.data).bind fun x5 => (if x5 = true then (if decide (60 < (c.did.length : Int)) = true then (some false) else ((z05 c.state 1 3).bind fun x8 => (if x8 = true then (z3o n c (z5z c) FUEL 0) else (some false)))) else (some false))) else (some false))) else (some false))
def z25 : Con := ⟨14, [.v (.s .net) false, .v (.s .kase) false], [(.B, true)], [], fun x => z5m x.1 x.2.1⟩
def yi6 : Fs := ⟨[z1l, z23, z1c, z0m], [], []⟩
theorem y2i : yi6.Ok Try.prog := (fsK z9h (fsK y0u (fsK z7d (fsK z0x fs0))))
def zx7 : Tmpl := ⟨[(2, .c (.bx 2 0)), (3, .c (.bx 3 0)), (5, .c .i)], [(2, .boxT (.s .net)), (3, .boxT (.s .kase))]⟩
def zs1 : Tmpl := ⟨[(3, .c (.bx 3 0))], [(3, .boxT (.s .kase))]⟩
def y6v (av : AV) (x : HP z25.ps) (n : Nat) (v : zx7.den) (K : Ks (CR z25)) : Option (CR z25) := z3o v.2.1 v.2.2.1 (zs1.at none (((), ()), (v.2.2.1, ())) (K (.exit 0))) n v.1.2.2.1
def zw1 (av : AV) (x : HP z25.ps) : Hdl (CR z25) := hnd [] zx7 (y6v av x)
theorem y7z : LP z25 Try.f14 [0] zw1 := lp_ok (W := []) (H := []) (xs := [zs1]) y2i trivial rfl (fun av x v K => by kernel_rfl) (fun av x n v K => by kernel_rfl)
theorem zp9 : z25.Ok Try.prog := fn_ok (k := z25) (fn := Try.f14) (W := []) (H := [zw1]) Try.func14 y2i ⟨y7z, trivial⟩ rfl rfl (fun av x => by kernel_rfl)
def z4w (c : GCase) : Option GCase := gd (([] : List Int).length + c.marks.length ≤ SMALL) (gd (([] : List GItem).length + c.busy.length ≤ SMALL) (gd (([] : List Int).length + c.data.length ≤ SMALL) (gd (([] : List GDid).length + c.did.length ≤ SMALL) (some (GCase.mk c.state (([] : List Int) ++ c.marks) (([] : List GItem) ++ c.busy) (([] : List Int) ++ c.data) (([] : List GDid) ++ c.did))))))
def z82 : Con := ⟨69, [.v (.s .kase) false], [((.s .kase), true)], [], fun x => z4w x.1⟩
def ya3 : Fs := ⟨[], [], []⟩
theorem yb5 : ya3.Ok Try.prog := fs0
theorem y0v : z82.Ok Try.prog := fn_ok (k := z82) (fn := Try.f69) (W := []) (H := []) Try.func69 yb5 trivial rfl rfl (fun av x => by kernel_rfl)
def z2v (n : GNet) (people : List Int) (c : GCase) (t : Int) (who : Int) : Option (GCase × Bool) := (z4w c).bind fun x1 => ((z5m n c).bind fun x2 => (if x2 = true then (if decide (c.state = 1) = true then ((z60 n c.marks c.busy t).bind fun x5 => (if x5 = true then ((z3b n people c.did c.busy t).bind fun x7 => ((z5o x7 who).bind fun x8 => (if x8 = true then (if decide ((c.busy.length : Int) = 6) = true then (some (x1, false)) else ((z70 n c.marks t).bind fun x11 => (gd (x1.busy.length + [(GItem.mk t who 0)].length ≤ SMALL) (some ((GCase.mk x1.state x11 (x1.busy ++ [(GItem.mk t who 0)]) x1.data x1.did), true))))) else (some (x1, false))))) else (some (x1, false)))) else (some (x1, false))) else (some (x1, false))))
def z5u : Con := ⟨112, [.v (.s .net) false, .v (.sl .I) false, .v (.s .kase) false, .v .I false, .v .I false], [((.s .kase), true), (.B, true)], [], fun x => z2v x.1 x.2.1 x.2.2.1 x.2.2.2.1 x.2.2.2.2.1⟩
def y50 : Fs := ⟨[z82, z25, z80, z0d, z26, z1x], [], []⟩
theorem y5e : y50.Ok Try.prog := (fsK y0v (fsK zp9 (fsK y0s (fsK zh4 (fsK zq2 (fsK y8e fs0))))))
theorem zq0 : z5u.Ok Try.prog := fn_ok (k := z5u) (fn := Try.f112) (W := []) (H := []) Try.func112 y5e trivial rfl rfl (fun av x => by kernel_rfl)
def z47 (n : GNet) (c : GCase) (k : Int) (v : Int) (num : Int) : Option (GCase × Bool) := (z4w c).bind fun x1 => ((z5m n c).bind fun x2 => (if x2 = true then (if decide (c.state = 1) = true then (gd (ok64 ((c.busy.length : Int) - 1)) ((z05 k 0 ((c.busy.length : Int) - 1)).bind fun x6 => (if x6 = true then ((z05 v (-1) 2).bind fun x8 => (if x8 = true then ((z05 num (-99) 99).bind fun x10 => (if x10 = true then (if decide ((c.did.length : Int) = 60) = true then (some (x1, false)) else ((getI c.busy k).bind fun x13 => ((z88 c.data v num).bind fun x14 => (gd (ok64 (x13.did + 1)) ((getI x1.busy k).bind fun x16 => (gd (ok64 (x13.did + 1)) ((getI n.tasks x13.task).bind fun x18 => (if decide ((x13.did + 1) < x18.need) = true then (some ((GCase.mk x1.state x1.marks (x1.busy.set k.toNat (GItem.mk x16.task x16.who (x13.did + 1))) x14 x1.did), true)) else ((z71 n c.marks x13.task x14).bind fun x20 => (if x20.2 = true then (gd ((0 : Int) ≤ k ∧ k ≤ (c.busy.length : Int)) (gd (([] : List GItem).length + (c.busy.take k.toNat).length ≤ SMALL) (gd (ok64 (k + 1)) (gd ((0 : Int) ≤ (k + 1) ∧ (k + 1) ≤ (c.busy.length : Int)) (gd ((([] : List GItem) ++ (c.busy.take k.toNat)).length + (c.busy.drop (k + 1).toNat).length ≤ SMALL) (gd (x1.did.length + [(GDid.mk x13.task x13.who)].length ≤ SMALL) ((getI x20.1 1).bind fun x28 => (if decide (0 < x28) = true then (some ((GCase.mk 2 x20.1 ([] : List GItem) x14 (x1.did ++ [(GDid.mk x13.task x13.who)])), true)) else (some ((GCase.mk x1.state x20.1 ((([] : List GItem) ++ (c.busy.take k.toNat)) ++ (c.busy.drop (k + 1).toNat)) x14 (x1.did ++ [(GDid.mk x13.task x13.who)])), true)))))))))) else ((z4w c).bind fun x30 => (some (x30, false))))))))))))) else (some (x1, false)))) else (some (x1, false)))) else (some (x1, false))))) else (some (x1, false))) else (some (x1, false))))
def z53 : Con := ⟨25, [.v (.s .net) false, .v (.s .kase) false, .v .I false, .v .I false, .v .I false], [((.s .kase), true), (.B, true)], [], fun x => z47 x.1 x.2.1 x.2.2.1 x.2.2.2.1 x.2.2.2.2.1⟩
def y7b : Fs := ⟨[z82, z25, z0m, zg8, z0f], [], []⟩
theorem y7s : y7b.Ok Try.prog := (fsK y0v (fsK zp9 (fsK z0x (fsK yd3 (fsK y8f fs0)))))
theorem za5 : z53.Ok Try.prog := fn_ok (k := z53) (fn := Try.f25) (W := []) (H := []) Try.func25 y7s trivial rfl rfl (fun av x => by kernel_rfl)
def z07 (c : GCase) : Option GCase := (z30 c.marks).bind fun x1 => (gd (([] : List GItem).length + c.busy.length ≤ SMALL) ((z30 c.data).bind fun x3 => (gd (([] : List GDid).length + c.did.length ≤ SMALL) (some (GCase.mk c.state x1 (([] : List GItem) ++ c.busy) x3 (([] : List GDid) ++ c.did))))))
def z50 : Con := ⟨57, [.v (.s .kase) false], [((.s .kase), true)], [], fun x => z07 x.1⟩
def zt9 : Fs := ⟨[z5c], [], []⟩
theorem zu3 : zt9.Ok Try.prog := (fsK zj8 fs0)
theorem zu6 : z50.Ok Try.prog := fn_ok (k := z50) (fn := Try.f57) (W := []) (H := []) Try.func57 zu3 trivial rfl rfl (fun av x => by kernel_rfl)
def zj1  : Option Int := some (-1)
def z2z (s : List Int) (p : Int → Option Bool) (p0_0 : Int) (kx0_0 : Option Int) : Nat → Int → Option Int
  | 0, _ => none
  | n0 + 1, s0_0 => if decide (s0_0 < p0_0) = true then ((getI s s0_0).bind fun x2 => ((p x2).bind fun x3 => (if x3 = true then (some s0_0) else (gd (ok64 (s0_0 + 1)) ((z2z s p p0_0 kx0_0 n0) (s0_0 + 1)))))) else (kx0_0)
def z83 (s : List Int) (p : Int → Option Bool) : Option Int := z2z s p (s.length : Int) zj1 FUEL 0
def z1v : Con := ⟨111, [.v (.sl .I) false, .fn .I], [(.I, true)], [], fun x => z83 x.1 x.2.1⟩
def y9m : Fs := ⟨[], [], []⟩
theorem y0c : y9m.Ok Try.prog := fs0
def zq9 : Tmpl := ⟨[(0, .c (.s .I)), (1, .c .fp), (7, .c .i), (8, .c .i)], []⟩
def zl1 : Tmpl := ⟨[], []⟩
def y4k (av : AV) (x : HP z1v.ps) (n : Nat) (v : zq9.den) (K : Ks (CR z1v)) : Option (CR z1v) := z2z v.1.1 x.2.1 v.1.2.2.1 (zl1.at (fpOf z1v.ps x av) ((), ()) (K (.exit 0))) n v.1.2.2.2.1
def zn3 (av : AV) (x : HP z1v.ps) : Hdl (CR z1v) := hnd [] zq9 (y4k av x)
theorem y5j : LP z1v Try.f111 [0] zn3 := lp_ok (W := []) (H := []) (xs := [zl1]) y0c trivial rfl (fun av x v K => by kernel_rfl) (fun av x n v K => by kernel_rfl)
theorem yc6 : z1v.Ok Try.prog := fn_ok (k := z1v) (fn := Try.f111) (W := []) (H := [zn3]) Try.func111 y0c ⟨y5j, trivial⟩ rfl rfl (fun av x => by kernel_rfl)
def z42 (s : List Int) (p : Int → Option Bool) : Option Bool := (z83 s p).bind fun x1 => (some (decide (0 ≤ x1)))
def z5b : Con := ⟨62, [.v (.sl .I) false, .fn .I], [(.B, true)], [], fun x => z42 x.1 x.2.1⟩
def y3i : Fs := ⟨[z1v], [], []⟩
theorem y3m : y3i.Ok Try.prog := (fsK yc6 fs0)
theorem zj7 : z5b.Ok Try.prog := fn_ok (k := z5b) (fn := Try.f62) (W := []) (H := []) Try.func62 y3m trivial rfl rfl (fun av x => by kernel_rfl)
def z7p  : Option Int := some (-1)
def z1k (s : List GTask) (p : GTask → Option Bool) (p0_0 : Int) (kx0_0 : Option Int) : Nat → Int → Option Int
  | 0, _ => none
  | n0 + 1, s0_0 => if decide (s0_0 < p0_0) = true then ((getI s s0_0).bind fun x2 => ((p x2).bind fun x3 => (if x3 = true then (some s0_0) else (gd (ok64 (s0_0 + 1)) ((z1k s p p0_0 kx0_0 n0) (s0_0 + 1)))))) else (kx0_0)
def z4o (s : List GTask) (p : GTask → Option Bool) : Option Int := z1k s p (s.length : Int) z7p FUEL 0
def z0o : Con := ⟨141, [.v (.sl (.s .task)) false, .fn (.s .task)], [(.I, true)], [], fun x => z4o x.1 x.2.1⟩
def y1j : Fs := ⟨[], [], []⟩
theorem zb5 : y1j.Ok Try.prog := fs0
def z8t : Tmpl := ⟨[(0, .c (.s (.s .task))), (1, .c .fp), (7, .c .i), (8, .c .i)], []⟩
def z7s : Tmpl := ⟨[], []⟩
def zy4 (av : AV) (x : HP z0o.ps) (n : Nat) (v : z8t.den) (K : Ks (CR z0o)) : Option (CR z0o) := z1k v.1.1 x.2.1 v.1.2.2.1 (z7s.at (fpOf z0o.ps x av) ((), ()) (K (.exit 0))) n v.1.2.2.2.1
def z8i (av : AV) (x : HP z0o.ps) : Hdl (CR z0o) := hnd [] z8t (zy4 av x)
theorem zz4 : LP z0o Try.f141 [0] z8i := lp_ok (W := []) (H := []) (xs := [z7s]) zb5 trivial rfl (fun av x v K => by kernel_rfl) (fun av x n v K => by kernel_rfl)
theorem y20 : z0o.Ok Try.prog := fn_ok (k := z0o) (fn := Try.f141) (W := []) (H := [z8i]) Try.func141 zb5 ⟨zz4, trivial⟩ rfl rfl (fun av x => by kernel_rfl)
def z3g (s : List GTask) (p : GTask → Option Bool) : Option Bool := (z4o s p).bind fun x1 => (some (decide (0 ≤ x1)))
def z4z : Con := ⟨107, [.v (.sl (.s .task)) false, .fn (.s .task)], [(.B, true)], [], fun x => z3g x.1 x.2.1⟩
def zt8 : Fs := ⟨[z0o], [], []⟩
theorem zu2 : zt8.Ok Try.prog := (fsK y20 fs0)
theorem zu5 : z4z.Ok Try.prog := fn_ok (k := z4z) (fn := Try.f107) (W := []) (H := []) Try.func107 zu2 trivial rfl rfl (fun av x => by kernel_rfl)
def y2t  : Option Int := some (-1)
def z5j (s : List Int) (v : Int) (p0_0 : Int) (kx0_0 : Option Int) : Nat → Int → Option Int
  | 0, _ => none
  | n0 + 1, s0_0 => if decide (s0_0 < p0_0) = true then ((getI s s0_0).bind fun x2 => (if decide (v = x2) = true then (some s0_0) else (gd (ok64 (s0_0 + 1)) ((z5j s v p0_0 kx0_0 n0) (s0_0 + 1))))) else (kx0_0)
def y0p (s : List Int) (v : Int) : Option Int := z5j s v (s.length : Int) y2t FUEL 0
def z5s : Con := ⟨124, [.v (.sl .I) false, .v .I false], [(.I, true)], [], fun x => y0p x.1 x.2.1⟩
def w1d : Fs := ⟨[], [], []⟩
theorem yj8 : w1d.Ok Try.prog := fs0
def y6m : Tmpl := ⟨[(0, .c (.s .I)), (1, .c .i), (7, .c .i), (8, .c .i)], []⟩
def y34 : Tmpl := ⟨[], []⟩
def yq4 (av : AV) (x : HP z5s.ps) (n : Nat) (v : y6m.den) (K : Ks (CR z5s)) : Option (CR z5s) := z5j v.1.1 v.1.2.1 v.1.2.2.1 (y34.at none ((), ()) (K (.exit 0))) n v.1.2.2.2.1
def y5h (av : AV) (x : HP z5s.ps) : Hdl (CR z5s) := hnd [] y6m (yq4 av x)
theorem ys1 : LP z5s Try.f124 [0] y5h := lp_ok (W := []) (H := []) (xs := [y34]) yj8 trivial rfl (fun av x v K => by kernel_rfl) (fun av x n v K => by kernel_rfl)
theorem w2g : z5s.Ok Try.prog := fn_ok (k := z5s) (fn := Try.f124) (W := []) (H := [y5h]) Try.func124 yj8 ⟨ys1, trivial⟩ rfl rfl (fun av x => by kernel_rfl)
def z96 (s : List Int) (v : Int) : Option Bool := (y0p s v).bind fun x1 => (some (decide (0 ≤ x1)))
def zo3 : Con := ⟨79, [.v (.sl .I) false, .v .I false], [(.B, true)], [], fun x => z96 x.1 x.2.1⟩
def yh7 : Fs := ⟨[z5s], [], []⟩
theorem yj7 : yh7.Ok Try.prog := (fsK w2g fs0)
theorem ym2 : zo3.Ok Try.prog := fn_ok (k := zo3) (fn := Try.f79) (W := []) (H := []) Try.func79 yj7 trivial rfl rfl (fun av x => by kernel_rfl)
def za1 (n : Int) : Option Bool := (z46 n).bind fun x1 => (some (!x1))
def za6 : FCon := ⟨63, .I, [], fun z c => za1 z ⟩
def y74 : Fs := ⟨[z52], [], []⟩
theorem y7n : y74.Ok Try.prog := (fsK za4 fs0)
theorem y88 : za6.Ok Try.prog := FCon.ok (fn_ok (k := za6.con) (fn := Try.f63) (W := []) (H := []) Try.func63 y7n trivial rfl rfl (fun av x => by kernel_rfl))
def z4g (data : List Int) : Option Bool := if decide ((data.length : Int) = 3) = true then ((z42 data (fun z => za1 z )).bind fun x2 => (some (!x2))) else (some false)
def z5i : Con := ⟨19, [.v (.sl .I) false], [(.B, true)], [], fun x => z4g x.1⟩
def yh9 : Fs := ⟨[z5b], [za6], []⟩
theorem yj9 : yh9.Ok Try.prog := (fsK zj7 (fsF y88 fs0))
theorem z9g : z5i.Ok Try.prog := fn_ok (k := z5i) (fn := Try.f19) (W := []) (H := []) Try.func19 yj9 trivial rfl rfl (fun av x => by kernel_rfl)
def z5w (e : GAsk) (data : List Int) : Option Bool := (z5k e).bind fun x1 => (if x1 = true then ((z4g data).bind fun x3 => (if x3 = true then (if decide (e.op = 1) = true then ((getI data e.var).bind fun x6 => (some (decide (x6 < e.k)))) else (if decide (e.op = 2) = true then ((getI data e.var).bind fun x8 => (some (decide (x8 = e.k)))) else (if decide (e.op = 3) = true then ((getI data e.var).bind fun x10 => (some (decide (e.k < x10)))) else (some true)))) else (some false))) else (some false))
def z8m : Con := ⟨73, [.v (.s .ask) false, .v (.sl .I) false], [(.B, true)], [], fun x => z5w x.1 x.2.1⟩
def y4y : Fs := ⟨[z93, z5i], [], []⟩
theorem y5c : y4y.Ok Try.prog := (fsK y2u (fsK z9g fs0))
theorem y5s : z8m.Ok Try.prog := fn_ok (k := z8m) (fn := Try.f73) (W := []) (H := []) Try.func73 y5c trivial rfl rfl (fun av x => by kernel_rfl)
def zc6  : Option Bool := some true
def z2q (list : List Int) (places : Int) (without : List Int) (p0_0 : Int) (kx0_0 : Option Bool) : Nat → Int → Int → Option Bool
  | 0, _, _ => none
  | n0 + 1, s0_0, s0_1 => if decide (s0_0 < p0_0) = true then ((getI list s0_0).bind fun x2 => (gd (ok64 (s0_1 + 1)) (gd (ok64 (places - 1)) ((z0s x2 (s0_1 + 1) (places - 1)).bind fun x5 => (if x5 = true then ((z96 without x2).bind fun x7 => (if x7 = true then (some false) else (gd (ok64 (s0_0 + 1)) ((z2q list places without p0_0 kx0_0 n0) (s0_0 + 1) x2)))) else (some false)))))) else (kx0_0)
def z54 (list : List Int) (places : Int) (without : List Int) : Option Bool := z2q list places without (list.length : Int) zc6 FUEL 0 (-1)
def z1w : Con := ⟨143, [.v (.sl .I) false, .v .I false, .v (.sl .I) false], [(.B, true)], [], fun x => z54 x.1 x.2.1 x.2.2.1⟩
def y77 : Fs := ⟨[z2u, zo3], [], []⟩
theorem zv0 : y77.Ok Try.prog := (fsK z3v (fsK ym2 fs0))
def zk1 : Tmpl := ⟨[(1, .c .i), (2, .c (.s .I)), (7, .c .i), (10, .c (.s .I)), (11, .c .i), (12, .c .i)], []⟩
def zf1 : Tmpl := ⟨[], []⟩
def y37 (av : AV) (x : HP z1w.ps) (n : Nat) (v : zk1.den) (K : Ks (CR z1w)) : Option (CR z1w) := z2q v.1.2.2.2.1 v.1.1 v.1.2.1 v.1.2.2.2.2.1 (zf1.at none ((), ()) (K (.exit 0))) n v.1.2.2.2.2.2.1 v.1.2.2.1
def zi1 (av : AV) (x : HP z1w.ps) : Hdl (CR z1w) := hnd [] zk1 (y37 av x)
theorem y3s : LP z1w Try.f143 [0] zi1 := lp_ok (W := []) (H := []) (xs := [zf1]) zv0 trivial rfl (fun av x v K => by kernel_rfl) (fun av x n v K => by kernel_rfl)
theorem y8b : z1w.Ok Try.prog := fn_ok (k := z1w) (fn := Try.f143) (W := []) (H := [zi1]) Try.func143 zv0 ⟨y3s, trivial⟩ rfl rfl (fun av x => by kernel_rfl)
def z3y (t : GTask) : Option Bool := (z0s (t.out.length : Int) 1 3).bind fun x21 => (some x21)
def z0n (t : GTask) (places : Int) (p0_0 : List GFlow) (p0_1 : Int) (kx0_0 : Option Bool) : Nat → Int → List Int → Option Bool
  | 0, _, _ => none
  | n0 + 1, s0_0, m0_1 => if decide (s0_0 < p0_1) = true then ((getI p0_0 s0_0).bind fun x2 => (if decide (t.split = 1) = true then (gd (ok64 (places - 1)) ((z0s x2.to 0 (places - 1)).bind fun x5 => (if x5 = true then (if decide (x2.to ∈ m0_1) = true then (some false) else ((z5k x2.if_).bind fun x8 => (if x8 = true then (if ((decide (x2.if_.op = 0)) == true) = true then (gd (ok64 (s0_0 + 1)) ((z0n t places p0_0 p0_1 kx0_0 n0) (s0_0 + 1) (insKey m0_1 x2.to))) else (some false)) else (some false)))) else (some false)))) else (gd (ok64 ((t.out.length : Int) - 1)) (gd (ok64 (places - 1)) ((z0s x2.to 0 (places - 1)).bind fun x14 => (if x14 = true then (if decide (x2.to ∈ m0_1) = true then (some false) else ((z5k x2.if_).bind fun x17 => (if x17 = true then (if ((decide (x2.if_.op = 0)) == (decide (s0_0 = ((t.out.length : Int) - 1)))) = true then (gd (ok64 (s0_0 + 1)) ((z0n t places p0_0 p0_1 kx0_0 n0) (s0_0 + 1) (insKey m0_1 x2.to))) else (some false)) else (some false)))) else (some false))))))) else (kx0_0)
def z3i (t : GTask) (places : Int) : Option Bool := z0n t places t.out (t.out.length : Int) (z3y t) FUEL 0 (insKey ([] : List Int) 0)
def z0i : Con := ⟨144, [.v (.s .task) false, .v .I false], [(.B, true)], [], fun x => z3i x.1 x.2.1⟩
def zu1 : Fs := ⟨[z2u, z93], [], []⟩
theorem z7n : zu1.Ok Try.prog := (fsK z3v (fsK y2u fs0))
def z6p : Tmpl := ⟨[(1, .c .i), (2, .c (.bx 2 0)), (5, .c (.bx 9 0)), (12, .c (.s (.s .flow))), (13, .c .i), (14, .c .i)], [(2, .boxT (.s .task)), (9, .mp)]⟩
def z6k : Tmpl := ⟨[(2, .c (.bx 2 0))], [(2, .boxT (.s .task))]⟩
def zm0 (av : AV) (x : HP z0i.ps) (n : Nat) (v : z6p.den) (K : Ks (CR z0i)) : Option (CR z0i) := z0n v.2.1 v.1.1 v.1.2.2.2.1 v.1.2.2.2.2.1 (z6k.at none (((), ()), (v.2.1, ())) (K (.exit 0))) n v.1.2.2.2.2.2.1 v.2.2.1
def z6m (av : AV) (x : HP z0i.ps) : Hdl (CR z0i) := hnd [] z6p (zm0 av x)
theorem zm2 : LP z0i Try.f144 [0] z6m := lp_ok (W := []) (H := []) (xs := [z6k]) z7n trivial rfl (fun av x v K => by kernel_rfl) (fun av x n v K => by kernel_rfl)
theorem zu8 : z0i.Ok Try.prog := fn_ok (k := z0i) (fn := Try.f144) (W := []) (H := [z6m]) Try.func144 z7n ⟨zm2, trivial⟩ rfl rfl (fun av x => by kernel_rfl)
def z4r (t : GTask) (places : Int) (tasks : Int) : Option Bool := (z84 t.join).bind fun x1 => (if x1 = true then ((z84 t.split).bind fun x3 => (if x3 = true then ((z0s (t.in_.length : Int) 1 3).bind fun x5 => (if x5 = true then ((z54 t.in_ places [1]).bind fun x7 => (if x7 = true then ((z3i t places).bind fun x9 => (if x9 = true then ((z54 t.clear places [0, 1]).bind fun x11 => (if x11 = true then ((zh2 t.role).bind fun x13 => (if x13 = true then (gd (ok64 (tasks - 1)) ((z0s t.apart (-1) (tasks - 1)).bind fun x16 => (if x16 = true then ((z0s t.all 1 3).bind fun x18 => (if x18 = true then ((z0s t.need 1 t.all).bind fun x20 => (some x20)) else (some false))) else (some false)))) else (some false))) else (some false))) else (some false))) else (some false))) else (some false))) else (some false))) else (some false))
def z6u : Con := ⟨109, [.v (.s .task) false, .v .I false, .v .I false], [(.B, true)], [], fun x => z4r x.1 x.2.1 x.2.2.1⟩
def y1k : Fs := ⟨[zg4, z2u, z1w, z0i, zg5], [], []⟩
theorem y1p : y1k.Ok Try.prog := (fsK yc7 (fsK z3v (fsK y8b (fsK zu8 (fsK yc8 fs0)))))
theorem y21 : z6u.Ok Try.prog := fn_ok (k := z6u) (fn := Try.f109) (W := []) (H := []) Try.func109 y1p trivial rfl rfl (fun av x => by kernel_rfl)
def za2 (t : GTask) (n : GNet) : Option Bool := (z4r t n.places (n.tasks.length : Int)).bind fun x1 => (some (!x1))
def za7 : FCon := ⟨108, (.s .task), [(.s .net)], fun z c => za2 z c.1⟩
def y76 : Fs := ⟨[z6u], [], []⟩
theorem y7o : y76.Ok Try.prog := (fsK y21 fs0)
theorem y8a : za7.Ok Try.prog := FCon.ok (fn_ok (k := za7.con) (fn := Try.f108) (W := []) (H := []) Try.func108 y7o trivial rfl rfl (fun av x => by kernel_rfl))
def z98 (n : GNet) : Option Bool := (za3 n.places (n.tasks.length : Int)).bind fun x1 => (if x1 = true then ((z3g n.tasks (fun z => za2 z n)).bind fun x3 => (some (!x3))) else (some false))
def zo4 : Con := ⟨60, [.v (.s .net) false], [(.B, true)], [], fun x => z98 x.1⟩
def yi2 : Fs := ⟨[z9z, z4z], [za7], []⟩
theorem yk2 : yi2.Ok Try.prog := (fsK y8d (fsK zu5 (fsF y8a fs0)))
theorem ym4 : zo4.Ok Try.prog := fn_ok (k := zo4) (fn := Try.f60) (W := []) (H := []) Try.func60 yk2 trivial rfl rfl (fun av x => by kernel_rfl)
def z3x (m : Int) : Option Bool := (z0s m 0 4).bind fun x1 => (some (!x1))
def z3z : FCon := ⟨110, .I, [], fun z c => z3x z ⟩
def zg1 : Fs := ⟨[z2u], [], []⟩
theorem zg2 : zg1.Ok Try.prog := (fsK z3v fs0)
theorem zh3 : z3z.Ok Try.prog := FCon.ok (fn_ok (k := z3z.con) (fn := Try.f110) (W := []) (H := []) Try.func110 zg2 trivial rfl rfl (fun av x => by kernel_rfl))
def z27 (n : GNet) (marks : List Int) : Option Bool := if decide ((marks.length : Int) = n.places) = true then ((z42 marks (fun z => z3x z )).bind fun x2 => (some (!x2))) else (some false)
def z37 : Con := ⟨61, [.v (.s .net) false, .v (.sl .I) false], [(.B, true)], [], fun x => z27 x.1 x.2.1⟩
def zm7 : Fs := ⟨[z5b], [z3z], []⟩
theorem zm9 : zm7.Ok Try.prog := (fsK zj7 (fsF zh3 fs0))
theorem z7c : z37.Ok Try.prog := fn_ok (k := z37) (fn := Try.f61) (W := []) (H := []) Try.func61 zm9 trivial rfl rfl (fun av x => by kernel_rfl)
def z79 (n : GNet) (marks : List Int) : Option Bool := (z98 n).bind fun x1 => (if x1 = true then ((z27 n marks).bind fun x3 => (some x3)) else (some false))
def z94 : Con := ⟨18, [.v (.s .net) false, .v (.sl .I) false], [(.B, true)], [], fun x => z79 x.1 x.2.1⟩
def yi1 : Fs := ⟨[zo4, z37], [], []⟩
theorem yk1 : yi1.Ok Try.prog := (fsK ym4 (fsK z7c fs0))
theorem y2v : z94.Ok Try.prog := fn_ok (k := z94) (fn := Try.f18) (W := []) (H := []) Try.func18 yk1 trivial rfl rfl (fun av x => by kernel_rfl)
def z5x (busy : List GItem) : Option Bool := some (decide ((busy.length : Int) ≤ 6))
def z0z (n : GNet) (p0_0 : List GItem) (p0_1 : Int) (kx0_0 : Option Bool) : Nat → Int → Option Bool
  | 0, _ => none
  | n0 + 1, s0_0 => if decide (s0_0 < p0_1) = true then ((getI p0_0 s0_0).bind fun x2 => ((z0l n x2.task).bind fun x3 => (if x3 = true then ((z4h x2.who).bind fun x5 => (if x5 = true then ((getI n.tasks x2.task).bind fun x7 => (gd (ok64 (x7.need - 1)) ((z0s x2.did 0 (x7.need - 1)).bind fun x9 => (if x9 = true then (gd (ok64 (s0_0 + 1)) ((z0z n p0_0 p0_1 kx0_0 n0) (s0_0 + 1))) else (some false))))) else (some false))) else (some false)))) else (kx0_0)
def z3h (n : GNet) (busy : List GItem) : Option Bool := z0z n busy (busy.length : Int) (z5x busy) FUEL 0
def z0h : Con := ⟨50, [.v (.s .net) false, .v (.sl (.s .item)) false], [(.B, true)], [], fun x => z3h x.1 x.2.1⟩
def zu0 : Fs := ⟨[z24, z5t, z2u], [], []⟩
theorem z7m : zu0.Ok Try.prog := (fsK z4l (fsK zp8 (fsK z3v fs0)))
def z6o : Tmpl := ⟨[(1, .c (.s (.s .item))), (2, .c (.bx 2 0)), (7, .c (.s (.s .item))), (8, .c .i), (9, .c .i)], [(2, .boxT (.s .net))]⟩
def z6j : Tmpl := ⟨[(1, .c (.s (.s .item)))], []⟩
def zl9 (av : AV) (x : HP z0h.ps) (n : Nat) (v : z6o.den) (K : Ks (CR z0h)) : Option (CR z0h) := z0z v.2.1 v.1.2.2.1 v.1.2.2.2.1 (z6j.at none ((v.1.1, ()), ()) (K (.exit 0))) n v.1.2.2.2.2.1
def z6l (av : AV) (x : HP z0h.ps) : Hdl (CR z0h) := hnd [] z6o (zl9 av x)
theorem zm1 : LP z0h Try.f50 [0] z6l := lp_ok (W := []) (H := []) (xs := [z6j]) z7m trivial rfl (fun av x v K => by kernel_rfl) (fun av x n v K => by kernel_rfl)
theorem zu7 : z0h.Ok Try.prog := fn_ok (k := z0h) (fn := Try.f50) (W := []) (H := [z6l]) Try.func50 z7m ⟨zm1, trivial⟩ rfl rfl (fun av x => by kernel_rfl)
def zp0 (l0_1 : List Int) : Option (List Int) := some l0_1
def z0b (t : GTask) (data : List Int) (p0_0 : List GFlow) (p0_1 : Int) (kx0_0 : List Int → Option (List Int)) : Nat → Int → List Int → Option (List Int)
  | 0, _, _ => none
  | n0 + 1, s0_0, l0_1 => if decide (s0_0 < p0_1) = true then ((getI p0_0 s0_0).bind fun x2 => ((z5w x2.if_ data).bind fun x3 => (if x3 = true then (if decide (t.split = 2) = true then (if decide (0 < (l0_1.length : Int)) = true then (gd (ok64 (s0_0 + 1)) ((z0b t data p0_0 p0_1 kx0_0 n0) (s0_0 + 1) l0_1)) else (if decide (t.split = 3) = true then (gd (ok64 ((t.out.length : Int) - 1)) (if decide (s0_0 = ((t.out.length : Int) - 1)) = true then (if decide (0 < (l0_1.length : Int)) = true then (gd (ok64 (s0_0 + 1)) ((z0b t data p0_0 p0_1 kx0_0 n0) (s0_0 + 1) l0_1)) else (gd (l0_1.length + [x2.to].length ≤ SMALL) (gd (ok64 (s0_0 + 1)) ((z0b t data p0_0 p0_1 kx0_0 n0) (s0_0 + 1) (l0_1 ++ [x2.to]))))) else (gd (l0_1.length + [x2.to].length ≤ SMALL) (gd (ok64 (s0_0 + 1)) ((z0b t data p0_0 p0_1 kx0_0 n0) (s0_0 + 1) (l0_1 ++ [x2.to])))))) else (gd (l0_1.length + [x2.to].length ≤ SMALL) (gd (ok64 (s0_0 + 1)) ((z0b t data p0_0 p0_1 kx0_0 n0) (s0_0 + 1) (l0_1 ++ [x2.to])))))) else (if decide (t.split = 3) = true then (gd (ok64 ((t.out.length : Int) - 1)) (if decide (s0_0 = ((t.out.length : Int) - 1)) = true then (if decide (0 < (l0_1.length : Int)) = true then (gd (ok64 (s0_0 + 1)) ((z0b t data p0_0 p0_1 kx0_0 n0) (s0_0 + 1) l0_1)) else (gd (l0_1.length + [x2.to].length ≤ SMALL) (gd (ok64 (s0_0 + 1)) ((z0b t data p0_0 p0_1 kx0_0 n0) (s0_0 + 1) (l0_1 ++ [x2.to]))))) else (gd (l0_1.length + [x2.to].length ≤ SMALL) (gd (ok64 (s0_0 + 1)) ((z0b t data p0_0 p0_1 kx0_0 n0) (s0_0 + 1) (l0_1 ++ [x2.to])))))) else (gd (l0_1.length + [x2.to].length ≤ SMALL) (gd (ok64 (s0_0 + 1)) ((z0b t data p0_0 p0_1 kx0_0 n0) (s0_0 + 1) (l0_1 ++ [x2.to])))))) else (gd (ok64 (s0_0 + 1)) ((z0b t data p0_0 p0_1 kx0_0 n0) (s0_0 + 1) l0_1))))) else (kx0_0 l0_1)
def z5l (t : GTask) (data : List Int) : Option (List Int) := z0b t data t.out (t.out.length : Int) zp0 FUEL 0 ([] : List Int)
def z2m : Con := ⟨30, [.v (.s .task) false, .v (.sl .I) false], [((.sl .I), true)], [], fun x => z5l x.1 x.2.1⟩
def yi3 : Fs := ⟨[z8m], [], []⟩
theorem y2f : yi3.Ok Try.prog := (fsK y5s fs0)
def zx4 : Tmpl := ⟨[(1, .c (.s .I)), (2, .c (.bx 2 0)), (5, .c (.ref 500005)), (9, .c (.s (.s .flow))), (10, .c .i), (11, .c .i)], [(2, .boxT (.s .task)), (500005, .arr .I true)]⟩
def zr8 : Tmpl := ⟨[(5, .c (.ref 500005))], [(500005, .arr .I true)]⟩
def y6s (av : AV) (x : HP z2m.ps) (n : Nat) (v : zx4.den) (K : Ks (CR z2m)) : Option (CR z2m) := z0b v.2.1 v.1.1 v.1.2.2.2.1 v.1.2.2.2.2.1 (fun l0_1 => zr8.at none (((), ()), (l0_1, ())) (K (.exit 0))) n v.1.2.2.2.2.2.1 v.2.2.1
def zv8 (av : AV) (x : HP z2m.ps) : Hdl (CR z2m) := hnd [.e 5 500005 .I] zx4 (y6s av x)
theorem y7w : LP z2m Try.f30 [0] zv8 := lp_ok (W := []) (H := []) (xs := [zr8]) y2f trivial rfl (fun av x v K => by kernel_rfl) (fun av x n v K => by kernel_rfl)
theorem y2w : z2m.Ok Try.prog := fn_ok (k := z2m) (fn := Try.f30) (W := []) (H := [zv8]) Try.func30 y2f ⟨y7w, trivial⟩ rfl rfl (fun av x => by kernel_rfl)
def z4q (n : GNet) (l1_1 : List Int) : Option ((List Int) × Bool) := (z27 n l1_1).bind fun x21 => (if x21 = true then (some (l1_1, true)) else (some ([], false)))
def z2p (x14 : (List Int)) (p1_0 : Int) (kx1_0 : List Int → Option ((List Int) × Bool)) : Nat → Int → List Int → Option ((List Int) × Bool)
  | 0, _, _ => none
  | n1 + 1, s1_0, l1_1 => if decide (s1_0 < p1_0) = true then ((getI x14 s1_0).bind fun x16 => ((getI l1_1 x16).bind fun x17 => (gd (ok64 (x17 + 1)) ((getI l1_1 x16).bind fun x19 => (gd (ok64 (s1_0 + 1)) ((z2p x14 p1_0 kx1_0 n1) (s1_0 + 1) (l1_1.set x16.toNat (x17 + 1)))))))) else (kx1_0 l1_1)
def z4p (n : GNet) (t : Int) (data : List Int) (l0_1 : List Int) : Option ((List Int) × Bool) := (getI n.tasks t).bind fun x13 => ((z5l x13 data).bind fun x14 => (z2p x14 (x14.length : Int) (z4q n) FUEL 0 l0_1))
def z2o (p0_0 : List Int) (p0_1 : Int) (kx0_0 : List Int → Option ((List Int) × Bool)) : Nat → Int → List Int → Option ((List Int) × Bool)
  | 0, _, _ => none
  | n0 + 1, s0_0, l0_1 => if decide (s0_0 < p0_1) = true then ((getI p0_0 s0_0).bind fun x10 => ((getI l0_1 x10).bind fun x11 => (gd (ok64 (s0_0 + 1)) ((z2o p0_0 p0_1 kx0_0 n0) (s0_0 + 1) (l0_1.set x10.toNat 0))))) else (kx0_0 l0_1)
def z45 (n : GNet) (marks : List Int) (t : Int) (data : List Int) : Option ((List Int) × Bool) := (z79 n marks).bind fun x1 => (if x1 = true then ((z0l n t).bind fun x3 => (if x3 = true then ((z4g data).bind fun x5 => (if x5 = true then ((z30 marks).bind fun x7 => ((getI n.tasks t).bind fun x8 => (z2o x8.clear (x8.clear.length : Int) (z4p n t data) FUEL 0 x7))) else (some ([], false)))) else (some ([], false)))) else (some ([], false)))
def z0e : Con := ⟨29, [.v (.s .net) false, .v (.sl .I) false, .v .I false, .v (.sl .I) false], [((.sl .I), true), (.B, true)], [], fun x => z45 x.1 x.2.1 x.2.2.1 x.2.2.2.1⟩
def y75 : Fs := ⟨[z94, z24, z5i, z5c, z2m, z37], [], []⟩
theorem z9u : y75.Ok Try.prog := (fsK y2v (fsK z4l (fsK z9g (fsK zj8 (fsK y2w (fsK z7c fs0))))))
def zj9 : Tmpl := ⟨[(2, .c .i), (3, .c (.s .I)), (4, .c (.bx 4 0)), (10, .c (.ref 31)), (37, .c (.s .I)), (38, .c .i), (39, .c .i)], [(4, .boxT (.s .net)), (31, .arr .I true)]⟩
def ze9 : Tmpl := ⟨[(2, .c .i), (3, .c (.s .I)), (4, .c (.bx 4 0)), (10, .c (.ref 31))], [(4, .boxT (.s .net)), (31, .arr .I true)]⟩
def y35 (av : AV) (x : HP z0e.ps) (n : Nat) (v : zj9.den) (K : Ks (CR z0e)) : Option (CR z0e) := z2o v.1.2.2.2.2.1 v.1.2.2.2.2.2.1 (fun l0_1 => ze9.at none ((v.1.1, v.1.2.1, (), (), ()), (v.2.1, l0_1, ())) (K (.exit 0))) n v.1.2.2.2.2.2.2.1 v.2.2.1
def zh9 (av : AV) (x : HP z0e.ps) : Hdl (CR z0e) := hnd [] zj9 (y35 av x)
theorem y3q : LP z0e Try.f29 [0] zh9 := lp_ok (W := []) (H := []) (xs := [ze9]) z9u trivial rfl (fun av x v K => by kernel_rfl) (fun av x n v K => by kernel_rfl)
def zk0 : Tmpl := ⟨[(4, .c (.bx 4 0)), (10, .c (.ref 31)), (53, .c (.ref 53)), (54, .c .i), (55, .c .i)], [(4, .boxT (.s .net)), (31, .arr .I true), (53, .arr .I true)]⟩
def zf0 : Tmpl := ⟨[(4, .c (.bx 4 0)), (10, .c (.ref 31))], [(4, .boxT (.s .net)), (31, .arr .I true)]⟩
def y36 (av : AV) (x : HP z0e.ps) (n : Nat) (v : zk0.den) (K : Ks (CR z0e)) : Option (CR z0e) := z2p v.2.2.2.1 v.1.2.2.2.1 (fun l1_1 => zf0.at none (((), (), ()), (v.2.1, l1_1, ())) (K (.exit 2))) n v.1.2.2.2.2.1 v.2.2.1
def zi0 (av : AV) (x : HP z0e.ps) : Hdl (CR z0e) := hnd [] zk0 (y36 av x)
theorem y3r : LP z0e Try.f29 [1] zi0 := lp_ok (W := []) (H := []) (xs := [zf0]) z9u trivial rfl (fun av x v K => by kernel_rfl) (fun av x n v K => by kernel_rfl)
theorem y89 : z0e.Ok Try.prog := fn_ok (k := z0e) (fn := Try.f29) (W := []) (H := [zh9, zi0]) Try.func29 z9u ⟨y3q, y3r, trivial⟩ rfl rfl (fun av x => by kernel_rfl)
def z5v (c : GCase) : Option Bool := if decide (c.state = 1) = true then ((getI c.marks 1).bind fun x16 => (some (decide (x16 = 0)))) else (if decide (c.state = 2) = true then (if decide ((c.busy.length : Int) = 0) = true then ((getI c.marks 1).bind fun x19 => (some ((decide (c.state = 2)) == (decide (0 < x19))))) else (some false)) else (if decide (c.state = 3) = true then (if decide ((c.busy.length : Int) = 0) = true then ((getI c.marks 1).bind fun x22 => (some ((decide (c.state = 2)) == (decide (0 < x22))))) else (some false)) else (some false)))
def z3l (n : GNet) (p0_0 : List GDid) (p0_1 : Int) (kx0_0 : Option Bool) : Nat → Int → Option Bool
  | 0, _ => none
  | n0 + 1, s0_0 => if decide (s0_0 < p0_1) = true then ((getI p0_0 s0_0).bind fun x9 => ((z0l n x9.task).bind fun x10 => (if x10 = true then ((z4h x9.who).bind fun x12 => (if x12 = true then (gd (ok64 (s0_0 + 1)) ((z3l n p0_0 p0_1 kx0_0 n0) (s0_0 + 1))) else (some false))) else (some false)))) else (kx0_0)
def z97 (n : GNet) (c : GCase) : Option Bool := (z79 n c.marks).bind fun x1 => (if x1 = true then ((z3h n c.busy).bind fun x3 => (if x3 = true then ((z4g c.data).bind fun x5 => (if x5 = true then (if decide (60 < (c.did.length : Int)) = true then (some false) else (z3l n c.did (c.did.length : Int) (z5v c) FUEL 0)) else (some false))) else (some false))) else (some false))
def z36 : Con := ⟨13, [.v (.s .net) false, .v (.s .kase) false], [(.B, true)], [], fun x => z97 x.1 x.2.1⟩
def yh8 : Fs := ⟨[z94, z0h, z5i, z24, z5t], [], []⟩
theorem y2e : yh8.Ok Try.prog := (fsK y2v (fsK zu7 (fsK z9g (fsK z4l (fsK zp8 fs0)))))
def zx3 : Tmpl := ⟨[(2, .c (.bx 2 0)), (3, .c (.bx 3 0)), (32, .c (.s (.s .did))), (33, .c .i), (34, .c .i)], [(2, .boxT (.s .net)), (3, .boxT (.s .kase))]⟩
def zr7 : Tmpl := ⟨[(3, .c (.bx 3 0))], [(3, .boxT (.s .kase))]⟩
def y6r (av : AV) (x : HP z36.ps) (n : Nat) (v : zx3.den) (K : Ks (CR z36)) : Option (CR z36) := z3l v.2.1 v.1.2.2.1 v.1.2.2.2.1 (zr7.at none (((), ()), (v.2.2.1, ())) (K (.exit 0))) n v.1.2.2.2.2.1
def zv7 (av : AV) (x : HP z36.ps) : Hdl (CR z36) := hnd [] zx3 (y6r av x)
theorem y7v : LP z36 Try.f13 [0] zv7 := lp_ok (W := []) (H := []) (xs := [zr7]) y2e trivial rfl (fun av x v K => by kernel_rfl) (fun av x n v K => by kernel_rfl)
theorem ym3 : z36.Ok Try.prog := fn_ok (k := z36) (fn := Try.f13) (W := []) (H := [zv7]) Try.func13 y2e ⟨y7v, trivial⟩ rfl rfl (fun av x => by kernel_rfl)
def z6z (n : GNet) (c : GCase) : Option Bool := (z97 n c).bind fun x1 => (if x1 = true then (some (decide (c.state = 1))) else (some false))
def z9y : Con := ⟨58, [.v (.s .net) false, .v (.s .kase) false], [(.B, true)], [], fun x => z6z x.1 x.2.1⟩
def y79 : Fs := ⟨[z36], [], []⟩
theorem y7q : y79.Ok Try.prog := (fsK ym3 fs0)
theorem y8c : z9y.Ok Try.prog := fn_ok (k := z9y) (fn := Try.f58) (W := []) (H := []) Try.func58 y7q trivial rfl rfl (fun av x => by kernel_rfl)
def z6y (n : GNet) (c : GCase) (k : Int) (v : Int) (num : Int) : Option (GCase × Bool) := (z07 c).bind fun x1 => ((z6z n c).bind fun x2 => (if x2 = true then (gd (ok64 ((c.busy.length : Int) - 1)) ((z0s k 0 ((c.busy.length : Int) - 1)).bind fun x5 => (if x5 = true then ((z0s v (-1) 2).bind fun x7 => (if x7 = true then ((z46 num).bind fun x9 => (if x9 = true then (if decide ((c.did.length : Int) = 60) = true then (some (x1, false)) else (if decide (0 ≤ v) = true then ((getI x1.data v).bind fun x13 => ((getI x1.busy k).bind fun x14 => (gd (ok64 (x14.did + 1)) ((getI n.tasks ((GItem.mk x14.task x14.who (x14.did + 1)).task)).bind fun x16 => (if decide ((GItem.mk x14.task x14.who (x14.did + 1)).did < x16.need) = true then (some ((GCase.mk x1.state x1.marks (x1.busy.set k.toNat (GItem.mk x14.task x14.who (x14.did + 1))) (x1.data.set v.toNat num) x1.did), true)) else ((z45 n c.marks ((GItem.mk x14.task x14.who (x14.did + 1)).task) (x1.data.set v.toNat num)).bind fun x18 => (if x18.2 = true then (gd (x1.did.length + [(GDid.mk ((GItem.mk x14.task x14.who (x14.did + 1)).task) ((GItem.mk x14.task x14.who (x14.did + 1)).who))].length ≤ SMALL) (gd (ok64 (k + 1)) ((z3f (x1.busy.set k.toNat (GItem.mk x14.task x14.who (x14.did + 1))) k (k + 1)).bind fun x22 => ((getI x18.1 1).bind fun x23 => (if decide (0 < x23) = true then ((z07 (GCase.mk 2 x18.1 [] (x1.data.set v.toNat num) (x1.did ++ [(GDid.mk ((GItem.mk x14.task x14.who (x14.did + 1)).task) ((GItem.mk x14.task x14.who (x14.did + 1)).who))]))).bind fun x25 => (some (x25, true))) else ((z07 (GCase.mk x1.state x18.1 x22 (x1.data.set v.toNat num) (x1.did ++ [(GDid.mk ((GItem.mk x14.task x14.who (x14.did + 1)).task) ((GItem.mk x14.task x14.who (x14.did + 1)).who))]))).bind fun x26 => (some (x26, true)))))))) else ((z07 c).bind fun x27 => (some (x27, false)))))))))) else ((getI x1.busy k).bind fun x28 => (gd (ok64 (x28.did + 1)) ((getI n.tasks ((GItem.mk x28.task x28.who (x28.did + 1)).task)).bind fun x30 => (if decide ((GItem.mk x28.task x28.who (x28.did + 1)).did < x30.need) = true then (some ((GCase.mk x1.state x1.marks (x1.busy.set k.toNat (GItem.mk x28.task x28.who (x28.did + 1))) x1.data x1.did), true)) else ((z45 n c.marks ((GItem.mk x28.task x28.who (x28.did + 1)).task) x1.data).bind fun x32 => (if x32.2 = true then (gd (x1.did.length + [(GDid.mk ((GItem.mk x28.task x28.who (x28.did + 1)).task) ((GItem.mk x28.task x28.who (x28.did + 1)).who))].length ≤ SMALL) (gd (ok64 (k + 1)) ((z3f (x1.busy.set k.toNat (GItem.mk x28.task x28.who (x28.did + 1))) k (k + 1)).bind fun x36 => ((getI x32.1 1).bind fun x37 => (if decide (0 < x37) = true then ((z07 (GCase.mk 2 x32.1 [] x1.data (x1.did ++ [(GDid.mk ((GItem.mk x28.task x28.who (x28.did + 1)).task) ((GItem.mk x28.task x28.who (x28.did + 1)).who))]))).bind fun x39 => (some (x39, true))) else ((z07 (GCase.mk x1.state x32.1 x36 x1.data (x1.did ++ [(GDid.mk ((GItem.mk x28.task x28.who (x28.did + 1)).task) ((GItem.mk x28.task x28.who (x28.did + 1)).who))]))).bind fun x40 => (some (x40, true)))))))) else ((z07 c).bind fun x41 => (some (x41, false))))))))))) else (some (x1, false)))) else (some (x1, false)))) else (some (x1, false))))) else (some (x1, false))))
def z9x : Con := ⟨24, [.v (.s .net) false, .v (.s .kase) false, .v .I false, .v .I false, .v .I false], [((.s .kase), true), (.B, true)], [], fun x => z6y x.1 x.2.1 x.2.2.1 x.2.2.2.1 x.2.2.2.2.1⟩
def y73 : Fs := ⟨[z50, z9y, z2u, z52, z0e, zw9], [], []⟩
theorem y7m : y73.Ok Try.prog := (fsK zu6 (fsK y8c (fsK z3v (fsK za4 (fsK y89 (fsK y86 fs0))))))
theorem y87 : z9x.Ok Try.prog := fn_ok (k := z9x) (fn := Try.f24) (W := []) (H := []) Try.func24 y7m trivial rfl rfl (fun av x => by kernel_rfl)
def z73 (code : List Int) : Option GRd := if decide (2000 < (code.length : Int)) = true then (gd ((0 : Int) ≤ 2000 ∧ 2000 ≤ (code.length : Int)) (some (GRd.mk (code.take (2000 : Int).toNat) 0))) else (some (GRd.mk code 0))
def zx0 : BCon := ⟨49, fun x => z73 x⟩
def y7g : Fs := ⟨[], [], []⟩
theorem y7t : y7g.Ok Try.prog := fs0
theorem y8i : zx0.Ok Try.prog := w68 (fn := Try.f49) Try.func49 y7t rfl rfl rfl rfl rfl (fun l => by kernel_rfl)
def z00 (r : GRd) (n : Int) : Option (Int × GRd) := gd (ok64 (r.p + 1)) (if decide (n < 1) = true then (some (0, (GRd.mk r.b (r.p + 1)))) else (if decide ((r.b.length : Int) = 0) = true then (some (0, (GRd.mk r.b (r.p + 1)))) else (gd (ok64 ((r.p + 1) - 1)) (if decide (((r.p + 1) - 1) < (r.b.length : Int)) = true then ((getI r.b ((r.p + 1) - 1)).bind fun x6 => (gd (ok64 x6) (gd ((n : Int) ≠ 0) (some ((Int.tmod x6 n), (GRd.mk r.b (r.p + 1))))))) else (gd (((r.b.length : Int) : Int) ≠ 0) ((getI r.b (Int.tmod ((r.p + 1) - 1) (r.b.length : Int))).bind fun x10 => (gd (ok64 x10) (gd (ok64 (x10 * 131)) (gd (ok64 (((r.p + 1) - 1) * 7)) (gd (ok64 ((((r.p + 1) - 1) * 7) + 3)) (gd (((r.b.length : Int) : Int) ≠ 0) ((getI r.b (Int.tmod ((((r.p + 1) - 1) * 7) + 3) (r.b.length : Int))).bind fun x16 => (gd (ok64 x16) (gd (ok64 (x16 * 1117)) (gd (ok64 ((x10 * 131) + (x16 * 1117))) (gd (ok64 (((r.p + 1) - 1) * 29)) (gd (ok64 (((x10 * 131) + (x16 * 1117)) + (((r.p + 1) - 1) * 29))) (gd (((r.b.length : Int) : Int) ≠ 0 ∧ ok64 (Int.tdiv ((r.p + 1) - 1) (r.b.length : Int))) (gd (ok64 ((Int.tdiv ((r.p + 1) - 1) (r.b.length : Int)) * 53)) (gd (ok64 ((((x10 * 131) + (x16 * 1117)) + (((r.p + 1) - 1) * 29)) + ((Int.tdiv ((r.p + 1) - 1) (r.b.length : Int)) * 53))) (gd ((64 : Int) ≠ 0 ∧ ok64 (Int.tdiv ((((x10 * 131) + (x16 * 1117)) + (((r.p + 1) - 1) * 29)) + ((Int.tdiv ((r.p + 1) - 1) (r.b.length : Int)) * 53)) 64)) (gd ((n : Int) ≠ 0) (some ((Int.tmod (xorI ((((x10 * 131) + (x16 * 1117)) + (((r.p + 1) - 1) * 29)) + ((Int.tdiv ((r.p + 1) - 1) (r.b.length : Int)) * 53)) (Int.tdiv ((((x10 * 131) + (x16 * 1117)) + (((r.p + 1) - 1) * 29)) + ((Int.tdiv ((r.p + 1) - 1) (r.b.length : Int)) * 53)) 64)) n), (GRd.mk r.b (r.p + 1))))))))))))))))))))))))))
def z8n : Con := ⟨65, [.ptr (.s .rd) false, .v .I false], [(.I, true)], [(0, .ptr (.s .rd) false)], fun x => z00 x.1 x.2.1⟩
def w7f : Fs := ⟨[], [], []⟩
theorem w7g : w7f.Ok Try.prog := fs0
theorem zd7 : z8n.Ok Try.prog := fn_ok (k := z8n) (fn := Try.f65) (W := []) (H := []) Try.func65 w7g trivial rfl rfl (fun av x => by kernel_rfl)
def z4v (n : Int) (s0_0 : List Int) (s0_1 : Int) (l0_3 : List Int) : Option ((List Int) × GRd) := (z00 (GRd.mk s0_0 s0_1) n).bind fun x7 => (if decide (x7.1 = 0) = true then ((z00 x7.2 3).bind fun x9 => (if decide (x9.1 = 0) = true then ((z00 x9.2 3).bind fun x11 => ((z00 x11.2 4).bind fun x12 => ((getI [100, (-100), 9223372036854775807, (-9223372036854775808)] x12.1).bind fun x13 => ((getI l0_3 x11.1).bind fun x14 => (some ((l0_3.set x11.1.toNat x13), x12.2)))))) else (if decide (x9.1 = 1) = true then (gd ((0 : Int) ≤ 1 ∧ 1 ≤ (l0_3.length : Int)) (some ((l0_3.drop (1 : Int).toNat), x9.2))) else (gd (l0_3.length + [0].length ≤ SMALL) (some ((l0_3 ++ [0]), x9.2)))))) else (some (l0_3, x7.2)))
def z2t (kx0_0 : List Int → Int → List Int → Option ((List Int) × GRd)) : Nat → List Int → Int → Int → List Int → Option ((List Int) × GRd)
  | 0, _, _, _, _ => none
  | n0 + 1, s0_0, s0_1, s0_2, l0_3 => if decide (s0_2 < 3) = true then ((z00 (GRd.mk s0_0 s0_1) 9).bind fun x2 => ((z00 x2.2 7).bind fun x3 => ((getI [0, 1, (-1), 5, 99, (-99), x2.1] x3.1).bind fun x4 => (gd (l0_3.length + [x4].length ≤ SMALL) (gd (ok64 (s0_2 + 1)) ((z2t kx0_0 n0) x3.2.b x3.2.p (s0_2 + 1) (l0_3 ++ [x4]))))))) else (kx0_0 s0_0 s0_1 l0_3)
def z55 (r : GRd) (n : Int) : Option ((List Int) × GRd) := z2t (z4v n) FUEL r.b r.p 0 ([] : List Int)
def z1z : Con := ⟨101, [.ptr (.s .rd) false, .v .I false], [((.sl .I), false)], [(0, .ptr (.s .rd) false)], fun x => z55 x.1 x.2.1⟩
def y7f : Fs := ⟨[z8n], [], []⟩
theorem zv3 : y7f.Ok Try.prog := (fsK zd7 fs0)
def zk6 : Tmpl := ⟨[(0, .c (.bx 1000000 0)), (1, .c .i), (5, .c (.ref 7)), (6, .c .i)], [(1000000, .box [.s .Y, .i]), (7, .arr .I true)]⟩
def zf5 : Tmpl := ⟨[(0, .c (.bx 1000000 0)), (1, .c .i), (5, .c (.ref 7))], [(1000000, .box [.s .Y, .i]), (7, .arr .I true)]⟩
def y3c (av : AV) (x : HP z1z.ps) (n : Nat) (v : zk6.den) (K : Ks (CR z1z)) : Option (CR z1z) := z2t (fun s0_0 s0_1 l0_3 => zf5.at none (((), v.1.2.1, (), ()), ((s0_0, s0_1, ()), l0_3, ())) (K (.exit 0))) n v.2.1.1 v.2.1.2.1 v.1.2.2.2.1 v.2.2.1
def zi6 (av : AV) (x : HP z1z.ps) : Hdl (CR z1z) := hnd [] zk6 (y3c av x)
theorem y3x : LP z1z Try.f101 [0] zi6 := lp_ok (W := [(12, [.froz 7])]) (H := []) (xs := [zf5]) zv3 trivial rfl (fun av x v K => by kernel_rfl) (fun av x n v K => by kernel_rfl)
theorem y8h : z1z.Ok Try.prog := fn_ok (k := z1z) (fn := Try.f101) (W := [(12, [.froz 7])]) (H := [zi6]) Try.func101 zv3 ⟨y3x, trivial⟩ rfl rfl (fun av x => by kernel_rfl)
def z8b (r : GRd) (n : Int) : Option (GAsk × GRd) := (z00 r 3).bind fun x1 => (gd (ok64 (1 + x1.1)) ((z00 x1.2 3).bind fun x3 => ((z00 x3.2 9).bind fun x4 => ((z00 x4.2 6).bind fun x5 => ((getI [0, 1, 2, 5, (-1), x4.1] x5.1).bind fun x6 => ((z00 x5.2 6).bind fun x7 => (if decide (x7.1 = 0) = true then ((z00 x7.2 n).bind fun x9 => (if decide (x9.1 = 0) = true then ((z00 x9.2 3).bind fun x11 => (if decide (x11.1 = 0) = true then ((z00 x11.2 3).bind fun x13 => ((getI [0, 4, (-1)] x13.1).bind fun x14 => (some ((GAsk.mk x14 0 0), x13.2)))) else (if decide (x11.1 = 1) = true then ((z00 x11.2 3).bind fun x16 => ((getI [3, (-1), 1] x16.1).bind fun x17 => (some ((GAsk.mk 0 x17 0), x16.2)))) else ((z00 x11.2 3).bind fun x18 => ((getI [99, 100, (-99)] x18.1).bind fun x19 => (some ((GAsk.mk 0 0 x19), x18.2))))))) else (some ((GAsk.mk 0 0 0), x9.2)))) else ((z00 x7.2 n).bind fun x20 => (if decide (x20.1 = 0) = true then ((z00 x20.2 3).bind fun x22 => (if decide (x22.1 = 0) = true then ((z00 x22.2 3).bind fun x24 => ((getI [0, 4, (-1)] x24.1).bind fun x25 => (some ((GAsk.mk x25 x3.1 x6), x24.2)))) else (if decide (x22.1 = 1) = true then ((z00 x22.2 3).bind fun x27 => ((getI [3, (-1), 1] x27.1).bind fun x28 => (some ((GAsk.mk (1 + x1.1) x28 x6), x27.2)))) else ((z00 x22.2 3).bind fun x29 => ((getI [99, 100, (-99)] x29.1).bind fun x30 => (some ((GAsk.mk (1 + x1.1) x3.1 x30), x29.2))))))) else (some ((GAsk.mk (1 + x1.1) x3.1 x6), x20.2)))))))))))
def zg9 : Con := ⟨139, [.ptr (.s .rd) false, .v .I false], [((.s .ask), true)], [(0, .ptr (.s .rd) false)], fun x => z8b x.1 x.2.1⟩
def y9y : Fs := ⟨[z8n], [], []⟩
theorem yb2 : y9y.Ok Try.prog := (fsK zd7 fs0)
theorem yd6 : zg9.Ok Try.prog := fn_ok (k := zg9) (fn := Try.f139) (W := []) (H := []) Try.func139 yb2 trivial rfl rfl (fun av x => by kernel_rfl)
def zc9 (join : Int) (in_ : List Int) (p0_6 : Int) (p0_7 : Int) (p0_8 : Int) (p0_9 : Int) (p0_10 : Int) (s0_0 : List Int) (s0_1 : Int) (l0_3 : List GFlow) : Option (GTask × GRd) := some ((GTask.mk join p0_6 in_ l0_3 [] p0_7 p0_8 p0_9 p0_10), (GRd.mk s0_0 s0_1))
def z0p (split : Int) (to : List Int) (kx0_0 : List Int → Int → List GFlow → Option (GTask × GRd)) : Nat → List Int → Int → Int → List GFlow → Option (GTask × GRd)
  | 0, _, _, _, _ => none
  | n0 + 1, s0_0, s0_1, s0_2, l0_3 => if decide (s0_2 < (to.length : Int)) = true then ((getI to s0_2).bind fun x11 => (if decide (split = 1) = true then (gd (l0_3.length + [(GFlow.mk x11 (GAsk.mk 0 0 0))].length ≤ SMALL) (gd (ok64 (s0_2 + 1)) ((z0p split to kx0_0 n0) s0_0 s0_1 (s0_2 + 1) (l0_3 ++ [(GFlow.mk x11 (GAsk.mk 0 0 0))])))) else (gd (ok64 ((to.length : Int) - 1)) (if decide (s0_2 < ((to.length : Int) - 1)) = true then ((z00 (GRd.mk s0_0 s0_1) 3).bind fun x17 => (gd (ok64 (1 + x17.1)) ((z00 x17.2 3).bind fun x19 => ((z00 x19.2 5).bind fun x20 => (gd (ok64 (x20.1 - 1)) (gd (l0_3.length + [(GFlow.mk x11 (GAsk.mk (1 + x17.1) x19.1 (x20.1 - 1)))].length ≤ SMALL) (gd (ok64 (s0_2 + 1)) ((z0p split to kx0_0 n0) x20.2.b x20.2.p (s0_2 + 1) (l0_3 ++ [(GFlow.mk x11 (GAsk.mk (1 + x17.1) x19.1 (x20.1 - 1)))]))))))))) else (gd (l0_3.length + [(GFlow.mk x11 (GAsk.mk 0 0 0))].length ≤ SMALL) (gd (ok64 (s0_2 + 1)) ((z0p split to kx0_0 n0) s0_0 s0_1 (s0_2 + 1) (l0_3 ++ [(GFlow.mk x11 (GAsk.mk 0 0 0))])))))))) else (kx0_0 s0_0 s0_1 l0_3)
def zd0 (join : Int) (in_ : List Int) (p1_6 : Int) (p1_7 : Int) (p1_8 : Int) (p1_9 : Int) (p1_10 : Int) (s1_0 : List Int) (s1_1 : Int) (l1_3 : List GFlow) : Option (GTask × GRd) := some ((GTask.mk join p1_6 in_ l1_3 [] p1_7 p1_8 p1_9 p1_10), (GRd.mk s1_0 s1_1))
def z06 (r : GRd) (join : Int) (split : Int) (in_ : List Int) (to : List Int) (tasks : Int) : Option (GTask × GRd) := (z00 r 3).bind fun x1 => (gd (ok64 (1 + x1.1)) ((z00 x1.2 3).bind fun x3 => (gd (ok64 (1 + x3.1)) ((z00 x3.2 (1 + x3.1)).bind fun x5 => (gd (ok64 (1 + x5.1)) ((z00 x5.2 3).bind fun x7 => (if decide (x7.1 = 0) = true then ((z00 x7.2 tasks).bind fun x9 => (z0p split to (zc9 join in_ split (1 + x1.1) x9.1 (1 + x3.1) (1 + x5.1)) FUEL x9.2.b x9.2.p 0 ([] : List GFlow))) else (z0p split to (zd0 join in_ split (1 + x1.1) (-1) (1 + x3.1) (1 + x5.1)) FUEL x7.2.b x7.2.p 0 ([] : List GFlow)))))))))
def z20 : Con := ⟨160, [.ptr (.s .rd) false, .v .I false, .v .I false, .v (.sl .I) true, .v (.sl .I) true, .v .I false], [((.s .task), true)], [(0, .ptr (.s .rd) false)], fun x => z06 x.1 x.2.1 x.2.2.1 x.2.2.2.1 x.2.2.2.2.1 x.2.2.2.2.2.1⟩
def y7h : Fs := ⟨[z8n], [], []⟩
theorem zv4 : y7h.Ok Try.prog := (fsK zd7 fs0)
def zk7 : Tmpl := ⟨[(0, .c (.bx 1000000 0)), (2, .c .i), (4, .c (.ref 1480000)), (12, .c (.bx 12 0)), (13, .c (.bx 13 0)), (14, .c .i)], [(1000000, .box [.s .Y, .i]), (12, .box [.i, .i, .nl, .nl, .nl, .i, .i, .i, .i]), (13, .box [.i, .i, .ref 1360000, .ref 511303, .nl, .i, .i, .i, .i]), (1480000, .arr .I true), (1360000, .arr .I true), (511303, .arr (.s .flow) true)]⟩
def zf6 : Tmpl := ⟨[(12, .c (.bx 12 0)), (13, .c (.bx 13 0))], [(12, .box [.i, .i, .nl, .nl, .nl, .i, .i, .i, .i]), (13, .box [.i, .i, .ref 1360000, .ref 511303, .nl, .i, .i, .i, .i]), (1000000, .box [.s .Y, .i]), (1360000, .arr .I true), (511303, .arr (.s .flow) true)]⟩
def y3d (av : AV) (x : HP z20.ps) (n : Nat) (v : zk7.den) (K : Ks (CR z20)) : Option (CR z20) := z0p v.1.2.1 v.2.2.2.2.1 (fun s0_0 s0_1 l0_3 => zf6.at none (((), (), ()), ((v.2.2.1.1, v.2.2.1.2.1, (), (), (), v.2.2.1.2.2.2.2.2.1, v.2.2.1.2.2.2.2.2.2.1, v.2.2.1.2.2.2.2.2.2.2.1, v.2.2.1.2.2.2.2.2.2.2.2.1, ()), (v.2.2.2.1.1, v.2.2.2.1.2.1, (), (), (), v.2.2.2.1.2.2.2.2.2.1, v.2.2.2.1.2.2.2.2.2.2.1, v.2.2.2.1.2.2.2.2.2.2.2.1, v.2.2.2.1.2.2.2.2.2.2.2.2.1, ()), (s0_0, s0_1, ()), v.2.2.2.2.2.1, l0_3, ())) (K (.exit 0))) n v.2.1.1 v.2.1.2.1 v.1.2.2.2.2.2.1 v.2.2.2.2.2.2.1
def zi7 (av : AV) (x : HP z20.ps) : Hdl (CR z20) := hnd [.b 13 3 511303 (.s .flow)] zk7 (y3d av x)
theorem y3y : LP z20 Try.f160 [0] zi7 := lp_ok (W := []) (H := []) (xs := [zf6]) zv4 trivial rfl (fun av x v K => by kernel_rfl) (fun av x n v K => by kernel_rfl)
theorem y8j : z20.Ok Try.prog := fn_ok (k := z20) (fn := Try.f160) (W := []) (H := [zi7]) Try.func160 zv4 ⟨y3y, trivial⟩ rfl rfl (fun av x => by kernel_rfl)
def z3c (p0_2 : Int) (s0_0 : List Int) (s0_1 : Int) (l0_3 : List GTask) : Option (GNet × GRd) := some ((GNet.mk p0_2 l0_3), (GRd.mk s0_0 s0_1))
def z0t (p0_0 : Int) (p0_2 : Int) (kx0_0 : List Int → Int → List GTask → Option (GNet × GRd)) : Nat → List Int → Int → Int → List GTask → Option (GNet × GRd)
  | 0, _, _, _, _ => none
  | n0 + 1, s0_0, s0_1, s0_2, l0_3 => if decide (s0_2 < p0_0) = true then (gd (ok64 (p0_2 - 2)) ((z00 (GRd.mk s0_0 s0_1) (p0_2 - 2)).bind fun x39 => (gd (ok64 (2 + x39.1)) ((z00 x39.2 4).bind fun x41 => ((getI [0, 2, 2, (2 + x39.1)] x41.1).bind fun x42 => (gd (ok64 (p0_2 - 1)) ((z00 x41.2 (p0_2 - 1)).bind fun x44 => (gd (ok64 (1 + x44.1)) ((z00 x44.2 2).bind fun x46 => (if decide (x46.1 = 0) = true then ((getI [(1 + x44.1)] 0).bind fun x48 => (if decide (x48 = 2) = true then ((z00 x46.2 3).bind fun x50 => (gd (ok64 (1 + x50.1)) ((z00 x50.2 3).bind fun x52 => (gd (ok64 (1 + x52.1)) ((z06 x52.2 (1 + x50.1) (1 + x52.1) [x42] [(1 + x44.1)] p0_0).bind fun x54 => (gd (l0_3.length + [x54.1].length ≤ SMALL) (gd (ok64 (s0_2 + 1)) ((z0t p0_0 p0_2 kx0_0 n0) x54.2.b x54.2.p (s0_2 + 1) (l0_3 ++ [x54.1]))))))))) else (gd ([(1 + x44.1)].length + [2].length ≤ SMALL) ((z00 x46.2 3).bind fun x58 => (gd (ok64 (1 + x58.1)) ((z00 x58.2 3).bind fun x60 => (gd (ok64 (1 + x60.1)) ((z06 x60.2 (1 + x58.1) (1 + x60.1) [x42] ([(1 + x44.1)] ++ [2]) p0_0).bind fun x62 => (gd (l0_3.length + [x62.1].length ≤ SMALL) (gd (ok64 (s0_2 + 1)) ((z0t p0_0 p0_2 kx0_0 n0) x62.2.b x62.2.p (s0_2 + 1) (l0_3 ++ [x62.1])))))))))))) else ((z00 x46.2 3).bind fun x65 => (gd (ok64 (1 + x65.1)) ((z00 x65.2 3).bind fun x67 => (gd (ok64 (1 + x67.1)) ((z06 x67.2 (1 + x65.1) (1 + x67.1) [x42] [(1 + x44.1)] p0_0).bind fun x69 => (gd (l0_3.length + [x69.1].length ≤ SMALL) (gd (ok64 (s0_2 + 1)) ((z0t p0_0 p0_2 kx0_0 n0) x69.2.b x69.2.p (s0_2 + 1) (l0_3 ++ [x69.1]))))))))))))))))))) else (kx0_0 s0_0 s0_1 l0_3)
def z68 (r : GRd) : Option (GNet × GRd) := (z00 r 3).bind fun x1 => (gd (ok64 (1 + x1.1)) ((z00 x1.2 3).bind fun x3 => (gd (ok64 (1 + x3.1)) ((z00 x3.2 4).bind fun x5 => ((getI [(1 + x1.1), (1 + x1.1), (1 + x1.1), (1 + x3.1)] x5.1).bind fun x6 => ((z00 x5.2 6).bind fun x7 => (if decide (x7.1 = 0) = true then ((z06 x7.2 (1 + x1.1) 1 [0] [2] 2).bind fun x9 => ((z06 x9.2 x6 2 [2] [1] 2).bind fun x10 => (some ((GNet.mk 3 [x9.1, x10.1]), x10.2)))) else (if decide (x7.1 = 1) = true then ((z06 x7.2 1 (1 + x1.1) [0] [2, 3] 4).bind fun x12 => ((z06 x12.2 1 1 [2] [4] 4).bind fun x13 => ((z06 x13.2 2 1 [3] [5] 4).bind fun x14 => ((z06 x14.2 x6 2 [4, 5] [1] 4).bind fun x15 => (some ((GNet.mk 6 [x12.1, x13.1, x14.1, x15.1]), x15.2)))))) else (if decide (x7.1 = 2) = true then ((z06 x7.2 2 1 [0] [2] 3).bind fun x17 => ((z00 x17.2 2).bind fun x18 => (gd (ok64 (2 + x18.1)) ((z06 x18.2 1 2 [2] [(2 + x18.1), 1] 3).bind fun x20 => ((z06 x20.2 2 1 [3] [2] 3).bind fun x21 => (some ((GNet.mk 4 [x17.1, x20.1, x21.1]), x21.2))))))) else (if decide (x7.1 = 3) = true then ((z06 x7.2 1 (1 + x1.1) [0] [2, 3, 4] 4).bind fun x23 => ((z06 x23.2 1 1 [2] [5] 4).bind fun x24 => ((z06 x24.2 x6 1 [3, 4] [6] 4).bind fun x25 => ((z00 x25.2 3).bind fun x26 => (gd (ok64 (1 + x26.1)) ((z06 x26.2 (1 + x26.1) 1 [5, 6] [1] 4).bind fun x28 => (some ((GNet.mk 7 [x23.1, x24.1, x25.1, x28.1]), x28.2)))))))) else (if decide (x7.1 = 4) = true then ((z06 x7.2 1 1 [0] [2, 3] 3).bind fun x30 => ((z06 x30.2 1 2 [2] [4, 1] 3).bind fun x31 => ((z06 x31.2 (1 + x1.1) 1 [3, 4] [1] 3).bind fun x32 => (some ((GNet.mk 5 [x30.1, x31.1, x32.1]), x32.2))))) else ((z00 x7.2 4).bind fun x33 => (gd (ok64 (3 + x33.1)) ((z00 x33.2 4).bind fun x35 => (gd (ok64 (1 + x35.1)) (z0t (1 + x35.1) (3 + x33.1) (z3c (3 + x33.1)) FUEL x35.2.b x35.2.p 0 ([] : List GTask)))))))))))))))))
def z1h : Con := ⟨138, [.ptr (.s .rd) false], [((.s .net), true)], [(0, .ptr (.s .rd) false)], fun x => z68 x.1⟩
def y54 : Fs := ⟨[z8n, z20], [], []⟩
theorem zn2 : y54.Ok Try.prog := (fsK zd7 (fsK y8j fs0))
def ze4 : Tmpl := ⟨[(0, .c (.bx 1000000 0)), (2, .c (.bx 2 0)), (5, .c (.bx 5 0)), (6, .c .i), (7, .c .i)], [(1000000, .box [.s .Y, .i]), (2, .box [.i, .nl]), (5, .box [.i, .ref 510501]), (510501, .arr (.s .task) true)]⟩
def z9p : Tmpl := ⟨[(2, .c (.bx 2 0)), (5, .c (.bx 5 0))], [(2, .box [.i, .nl]), (5, .box [.i, .ref 510501]), (1000000, .box [.s .Y, .i]), (510501, .arr (.s .task) true)]⟩
def y1e (av : AV) (x : HP z1h.ps) (n : Nat) (v : ze4.den) (K : Ks (CR z1h)) : Option (CR z1h) := z0t v.1.2.2.2.1 v.2.2.2.1.1 (fun s0_0 s0_1 l0_3 => z9p.at none (((), (), ()), ((v.2.2.1.1, (), ()), (v.2.2.2.1.1, (), ()), (s0_0, s0_1, ()), l0_3, ())) (K (.exit 1))) n v.2.1.1 v.2.1.2.1 v.1.2.2.2.2.1 v.2.2.2.2.1
def zc0 (av : AV) (x : HP z1h.ps) : Hdl (CR z1h) := hnd [.b 5 1 510501 (.s .task)] ze4 (y1e av x)
theorem y1u : LP z1h Try.f138 [0] zc0 := lp_ok (W := []) (H := []) (xs := [z9p]) zn2 trivial rfl (fun av x v K => by kernel_rfl) (fun av x n v K => by kernel_rfl)
theorem y5w : z1h.Ok Try.prog := fn_ok (k := z1h) (fn := Try.f138) (W := []) (H := [zc0]) Try.func138 zn2 ⟨y1u, trivial⟩ rfl rfl (fun av x => by kernel_rfl)
def z67 (r : GRd) : Option (GNet × GRd) := (z68 r).bind fun x1 => ((z00 x1.2 3).bind fun x2 => (if decide (x2.1 = 0) = true then (if decide (3 < x1.1.places) = true then (if decide (0 < (x1.1.tasks.length : Int)) = true then ((z00 x2.2 (x1.1.tasks.length : Int)).bind fun x6 => ((getI x1.1.tasks x6.1).bind fun x7 => ((z29 (GNet.mk x1.1.places (x1.1.tasks.set x6.1.toNat (GTask.mk x7.join x7.split x7.in_ x7.out [2, 3] x7.role x7.apart x7.all x7.need)))).bind fun x8 => (if x8 = true then (some ((GNet.mk x1.1.places (x1.1.tasks.set x6.1.toNat (GTask.mk x7.join x7.split x7.in_ x7.out [2, 3] x7.role x7.apart x7.all x7.need))), x6.2)) else (some ((GNet.mk 2 [(GTask.mk 1 1 [0] [(GFlow.mk 1 (GAsk.mk 0 0 0))] [] 1 (-1) 1 1)]), x6.2)))))) else ((z29 x1.1).bind fun x10 => (if x10 = true then (some (x1.1, x2.2)) else (some ((GNet.mk 2 [(GTask.mk 1 1 [0] [(GFlow.mk 1 (GAsk.mk 0 0 0))] [] 1 (-1) 1 1)]), x2.2))))) else ((z29 x1.1).bind fun x12 => (if x12 = true then (some (x1.1, x2.2)) else (some ((GNet.mk 2 [(GTask.mk 1 1 [0] [(GFlow.mk 1 (GAsk.mk 0 0 0))] [] 1 (-1) 1 1)]), x2.2))))) else ((z29 x1.1).bind fun x14 => (if x14 = true then (some (x1.1, x2.2)) else (some ((GNet.mk 2 [(GTask.mk 1 1 [0] [(GFlow.mk 1 (GAsk.mk 0 0 0))] [] 1 (-1) 1 1)]), x2.2))))))
def z81 : Con := ⟨98, [.ptr (.s .rd) false], [((.s .net), true)], [(0, .ptr (.s .rd) false)], fun x => z67 x.1⟩
def y9z : Fs := ⟨[z1h, z8n, z1m], [], []⟩
theorem yb3 : y9z.Ok Try.prog := (fsK y5w (fsK zd7 (fsK z9i fs0)))
theorem y0t : z81.Ok Try.prog := fn_ok (k := z81) (fn := Try.f98) (W := []) (H := []) Try.func98 yb3 trivial rfl rfl (fun av x => by kernel_rfl)
def z5d (r : GRd) (n : Int) : Option (GNet × GRd) := (z67 r).bind fun x1 => ((z00 x1.2 n).bind fun x2 => (if decide (0 < x2.1) = true then (some (x1.1, x2.2)) else ((z00 x2.2 6).bind fun x4 => (if decide (x4.1 = 0) = true then ((z00 x4.2 3).bind fun x6 => ((getI [1, 2, 9] x6.1).bind fun x7 => (some ((GNet.mk x7 x1.1.tasks), x6.2)))) else ((z00 x4.2 (x1.1.tasks.length : Int)).bind fun x8 => ((getI x1.1.tasks x8.1).bind fun x9 => ((z00 x8.2 9).bind fun x10 => (if decide (x10.1 = 0) = true then ((z00 x10.2 2).bind fun x12 => ((getI [0, 4] x12.1).bind fun x13 => ((getI x1.1.tasks x8.1).bind fun x14 => (some ((GNet.mk x1.1.places (x1.1.tasks.set x8.1.toNat (GTask.mk x13 x9.split x9.in_ x9.out x9.clear x9.role x9.apart x9.all x9.need))), x12.2))))) else (if decide (x10.1 = 1) = true then ((z00 x10.2 4).bind fun x16 => ((getI [0, 4, 1, 2] x16.1).bind fun x17 => ((getI x1.1.tasks x8.1).bind fun x18 => (some ((GNet.mk x1.1.places (x1.1.tasks.set x8.1.toNat (GTask.mk x9.join x17 x9.in_ x9.out x9.clear x9.role x9.apart x9.all x9.need))), x16.2))))) else (if decide (x10.1 = 2) = true then (gd (([] : List Int).length + x9.in_.length ≤ SMALL) ((z00 x10.2 4).bind fun x21 => ((getI [1, 0, 7, 3] x21.1).bind fun x22 => (gd ((([] : List Int) ++ x9.in_).length + [x22].length ≤ SMALL) ((getI x1.1.tasks x8.1).bind fun x24 => (some ((GNet.mk x1.1.places (x1.1.tasks.set x8.1.toNat (GTask.mk x9.join x9.split ((([] : List Int) ++ x9.in_) ++ [x22]) x9.out x9.clear x9.role x9.apart x9.all x9.need))), x21.2))))))) else (if decide (x10.1 = 3) = true then (gd (([] : List GFlow).length + x9.out.length ≤ SMALL) ((z00 x10.2 4).bind fun x27 => ((z8b x27.2 2).bind fun x28 => (gd ((([] : List GFlow) ++ x9.out).length + [(GFlow.mk x27.1 x28.1)].length ≤ SMALL) ((getI x1.1.tasks x8.1).bind fun x30 => (some ((GNet.mk x1.1.places (x1.1.tasks.set x8.1.toNat (GTask.mk x9.join x9.split x9.in_ ((([] : List GFlow) ++ x9.out) ++ [(GFlow.mk x27.1 x28.1)]) x9.clear x9.role x9.apart x9.all x9.need))), x28.2))))))) else (if decide (x10.1 = 4) = true then (gd (([] : List Int).length + x9.clear.length ≤ SMALL) ((z00 x10.2 4).bind fun x33 => ((getI [0, 1, 2, 9] x33.1).bind fun x34 => (gd ((([] : List Int) ++ x9.clear).length + [x34].length ≤ SMALL) ((getI x1.1.tasks x8.1).bind fun x36 => (some ((GNet.mk x1.1.places (x1.1.tasks.set x8.1.toNat (GTask.mk x9.join x9.split x9.in_ x9.out ((([] : List Int) ++ x9.clear) ++ [x34]) x9.role x9.apart x9.all x9.need))), x33.2))))))) else (if decide (x10.1 = 5) = true then ((z00 x10.2 2).bind fun x38 => ((getI [0, 4] x38.1).bind fun x39 => ((getI x1.1.tasks x8.1).bind fun x40 => (some ((GNet.mk x1.1.places (x1.1.tasks.set x8.1.toNat (GTask.mk x9.join x9.split x9.in_ x9.out x9.clear x39 x9.apart x9.all x9.need))), x38.2))))) else (if decide (x10.1 = 6) = true then ((z00 x10.2 2).bind fun x42 => ((getI [(-2), 6] x42.1).bind fun x43 => ((getI x1.1.tasks x8.1).bind fun x44 => (some ((GNet.mk x1.1.places (x1.1.tasks.set x8.1.toNat (GTask.mk x9.join x9.split x9.in_ x9.out x9.clear x9.role x43 x9.all x9.need))), x42.2))))) else (if decide (x10.1 = 7) = true then (gd (ok64 (x9.all + 1)) ((z00 x10.2 2).bind fun x47 => ((getI [0, (x9.all + 1)] x47.1).bind fun x48 => ((getI x1.1.tasks x8.1).bind fun x49 => (some ((GNet.mk x1.1.places (x1.1.tasks.set x8.1.toNat (GTask.mk x9.join x9.split x9.in_ x9.out x9.clear x9.role x9.apart x9.all x48))), x47.2)))))) else ((z00 x10.2 3).bind fun x50 => ((getI [0, 4, 1] x50.1).bind fun x51 => ((getI x1.1.tasks x8.1).bind fun x52 => (some ((GNet.mk x1.1.places (x1.1.tasks.set x8.1.toNat (GTask.mk x9.join x9.split x9.in_ x9.out x9.clear x9.role x9.apart x51 x9.need))), x50.2))))))))))))))))))))
def z7i : Con := ⟨102, [.ptr (.s .rd) false, .v .I false], [((.s .net), false)], [(0, .ptr (.s .rd) false)], fun x => z5d x.1 x.2.1⟩
def y3k : Fs := ⟨[z81, z8n, zg9], [], []⟩
theorem y3o : y3k.Ok Try.prog := (fsK y0t (fsK zd7 (fsK yd6 fs0)))
theorem y42 : z7i.Ok Try.prog := fn_ok (k := z7i) (fn := Try.f102) (W := [(8, [.share 10009])]) (H := []) Try.func102 y3o trivial rfl rfl (fun av x => by kernel_rfl)
def z49 (p : Int) (n : Int) (s0_0 : List Int) (s0_1 : Int) (l0_3 : List Int) : Option ((List Int) × GRd) := if decide (1 < p) = true then ((z00 (GRd.mk s0_0 s0_1) 4).bind fun x7 => (if decide (0 < x7.1) = true then ((getI l0_3 1).bind fun x9 => ((z00 x7.2 n).bind fun x10 => (if decide (x10.1 = 0) = true then ((z00 x10.2 2).bind fun x12 => (if decide (x12.1 = 0) = true then (if decide (0 < p) = true then ((z00 x12.2 p).bind fun x15 => ((z00 x15.2 2).bind fun x16 => ((getI [(-1), 5] x16.1).bind fun x17 => ((getI (l0_3.set (1 : Int).toNat 0) x15.1).bind fun x18 => (some (((l0_3.set (1 : Int).toNat 0).set x15.1.toNat x17), x16.2)))))) else (gd ((l0_3.set (1 : Int).toNat 0).length + [0].length ≤ SMALL) (some (((l0_3.set (1 : Int).toNat 0) ++ [0]), x12.2)))) else (gd ((l0_3.set (1 : Int).toNat 0).length + [0].length ≤ SMALL) (some (((l0_3.set (1 : Int).toNat 0) ++ [0]), x12.2))))) else (some ((l0_3.set (1 : Int).toNat 0), x10.2))))) else ((z00 x7.2 n).bind fun x21 => (if decide (x21.1 = 0) = true then ((z00 x21.2 2).bind fun x23 => (if decide (x23.1 = 0) = true then (if decide (0 < p) = true then ((z00 x23.2 p).bind fun x26 => ((z00 x26.2 2).bind fun x27 => ((getI [(-1), 5] x27.1).bind fun x28 => ((getI l0_3 x26.1).bind fun x29 => (some ((l0_3.set x26.1.toNat x28), x27.2)))))) else (gd (l0_3.length + [0].length ≤ SMALL) (some ((l0_3 ++ [0]), x23.2)))) else (gd (l0_3.length + [0].length ≤ SMALL) (some ((l0_3 ++ [0]), x23.2))))) else (some (l0_3, x21.2)))))) else ((z00 (GRd.mk s0_0 s0_1) n).bind fun x32 => (if decide (x32.1 = 0) = true then ((z00 x32.2 2).bind fun x34 => (if decide (x34.1 = 0) = true then (if decide (0 < p) = true then ((z00 x34.2 p).bind fun x37 => ((z00 x37.2 2).bind fun x38 => ((getI [(-1), 5] x38.1).bind fun x39 => ((getI l0_3 x37.1).bind fun x40 => (some ((l0_3.set x37.1.toNat x39), x38.2)))))) else (gd (l0_3.length + [0].length ≤ SMALL) (some ((l0_3 ++ [0]), x34.2)))) else (gd (l0_3.length + [0].length ≤ SMALL) (some ((l0_3 ++ [0]), x34.2))))) else (some (l0_3, x32.2))))
def z2c (p : Int) (kx0_0 : List Int → Int → List Int → Option ((List Int) × GRd)) : Nat → List Int → Int → Int → List Int → Option ((List Int) × GRd)
  | 0, _, _, _, _ => none
  | n0 + 1, s0_0, s0_1, s0_2, l0_3 => if decide (s0_2 < p) = true then ((z00 (GRd.mk s0_0 s0_1) 6).bind fun x2 => ((getI [0, 0, 1, 1, 2, 4] x2.1).bind fun x3 => (gd (l0_3.length + [x3].length ≤ SMALL) (gd (ok64 (s0_2 + 1)) ((z2c p kx0_0 n0) x2.2.b x2.2.p (s0_2 + 1) (l0_3 ++ [x3])))))) else (kx0_0 s0_0 s0_1 l0_3)
def z66 (r : GRd) (p : Int) (n : Int) : Option ((List Int) × GRd) := z2c p (z49 p n) FUEL r.b r.p 0 ([] : List Int)
def z1g : Con := ⟨103, [.ptr (.s .rd) false, .v .I false, .v .I false], [((.sl .I), true)], [(0, .ptr (.s .rd) false)], fun x => z66 x.1 x.2.1 x.2.2.1⟩
def y53 : Fs := ⟨[z8n], [], []⟩
theorem zn1 : y53.Ok Try.prog := (fsK zd7 fs0)
def ze3 : Tmpl := ⟨[(0, .c (.bx 1000000 0)), (1, .c .i), (2, .c .i), (7, .c (.ref 9)), (8, .c .i)], [(1000000, .box [.s .Y, .i]), (9, .arr .I true)]⟩
def z9o : Tmpl := ⟨[(0, .c (.bx 1000000 0)), (1, .c .i), (2, .c .i), (7, .c (.ref 9))], [(1000000, .box [.s .Y, .i]), (9, .arr .I true)]⟩
def y1d (av : AV) (x : HP z1g.ps) (n : Nat) (v : ze3.den) (K : Ks (CR z1g)) : Option (CR z1g) := z2c v.1.2.1 (fun s0_0 s0_1 l0_3 => z9o.at none (((), v.1.2.1, v.1.2.2.1, (), ()), ((s0_0, s0_1, ()), l0_3, ())) (K (.exit 0))) n v.2.1.1 v.2.1.2.1 v.1.2.2.2.2.1 v.2.2.1
def zb9 (av : AV) (x : HP z1g.ps) : Hdl (CR z1g) := hnd [] ze3 (y1d av x)
theorem y1t : LP z1g Try.f103 [0] zb9 := lp_ok (W := []) (H := []) (xs := [z9o]) zn1 trivial rfl (fun av x v K => by kernel_rfl) (fun av x n v K => by kernel_rfl)
theorem y5v : z1g.Ok Try.prog := fn_ok (k := z1g) (fn := Try.f103) (W := []) (H := [zb9]) Try.func103 zn1 ⟨y1t, trivial⟩ rfl rfl (fun av x => by kernel_rfl)
def z4u (k : Int) (s0_0 : List Int) (s0_1 : Int) (l0_3 : List GItem) : Option ((List GItem) × GRd) := (z00 (GRd.mk s0_0 s0_1) k).bind fun x14 => (if decide (x14.1 = 0) = true then ((z00 x14.2 3).bind fun x16 => ((getI [(-1), 6, 0] x16.1).bind fun x17 => ((z00 x16.2 3).bind fun x18 => ((getI [0, 5, 1] x18.1).bind fun x19 => ((z00 x18.2 3).bind fun x20 => ((getI [(-1), 3, 0] x20.1).bind fun x21 => (gd (l0_3.length + [(GItem.mk x17 x19 x21)].length ≤ SMALL) (some ((l0_3 ++ [(GItem.mk x17 x19 x21)]), x20.2))))))))) else (some (l0_3, x14.2)))
def z1q (n : GNet) (kx0_0 : List Int → Int → List GItem → Option ((List GItem) × GRd)) : Nat → List Int → Int → Int → List GItem → Option ((List GItem) × GRd)
  | 0, _, _, _, _ => none
  | n0 + 1, s0_0, s0_1, s0_2, l0_3 => if decide (0 < s0_2) = true then ((z00 (GRd.mk s0_0 s0_1) (n.tasks.length : Int)).bind fun x3 => ((z00 x3.2 4).bind fun x4 => (gd (ok64 (1 + x4.1)) ((getI n.tasks x3.1).bind fun x6 => (if decide (1 < x6.need) = true then ((getI n.tasks x3.1).bind fun x8 => ((z00 x4.2 x8.need).bind fun x9 => (gd (l0_3.length + [(GItem.mk x3.1 (1 + x4.1) x9.1)].length ≤ SMALL) (gd (ok64 (s0_2 - 1)) ((z1q n kx0_0 n0) x9.2.b x9.2.p (s0_2 - 1) (l0_3 ++ [(GItem.mk x3.1 (1 + x4.1) x9.1)])))))) else (gd (l0_3.length + [(GItem.mk x3.1 (1 + x4.1) 0)].length ≤ SMALL) (gd (ok64 (s0_2 - 1)) ((z1q n kx0_0 n0) x4.2.b x4.2.p (s0_2 - 1) (l0_3 ++ [(GItem.mk x3.1 (1 + x4.1) 0)]))))))))) else (kx0_0 s0_0 s0_1 l0_3)
def z72 (r : GRd) (n : GNet) (k : Int) : Option ((List GItem) × GRd) := (z00 r 3).bind fun x1 => (z1q n (z4u k) FUEL x1.2.b x1.2.p x1.1 ([] : List GItem))
def z1y : Con := ⟨104, [.ptr (.s .rd) false, .v (.s .net) false, .v .I false], [((.sl (.s .item)), true)], [(0, .ptr (.s .rd) false)], fun x => z72 x.1 x.2.1 x.2.2.1⟩
def y7e : Fs := ⟨[z8n], [], []⟩
theorem zv2 : y7e.Ok Try.prog := (fsK zd7 fs0)
def zk5 : Tmpl := ⟨[(0, .c (.bx 1000000 0)), (2, .c .i), (4, .c (.bx 4 0)), (7, .c (.ref 11)), (8, .c .i)], [(1000000, .box [.s .Y, .i]), (4, .boxT (.s .net)), (11, .arr (.s .item) true)]⟩
def zf4 : Tmpl := ⟨[(0, .c (.bx 1000000 0)), (2, .c .i), (7, .c (.ref 11))], [(1000000, .box [.s .Y, .i]), (11, .arr (.s .item) true)]⟩
def y3b (av : AV) (x : HP z1y.ps) (n : Nat) (v : zk5.den) (K : Ks (CR z1y)) : Option (CR z1y) := z1q v.2.2.1 (fun s0_0 s0_1 l0_3 => zf4.at none (((), v.1.2.1, (), ()), ((s0_0, s0_1, ()), l0_3, ())) (K (.exit 0))) n v.2.1.1 v.2.1.2.1 v.1.2.2.2.2.1 v.2.2.2.1
def zi5 (av : AV) (x : HP z1y.ps) : Hdl (CR z1y) := hnd [] zk5 (y3b av x)
theorem y3w : LP z1y Try.f104 [0] zi5 := lp_ok (W := []) (H := []) (xs := [zf4]) zv2 trivial rfl (fun av x v K => by kernel_rfl) (fun av x n v K => by kernel_rfl)
theorem y8g : z1y.Ok Try.prog := fn_ok (k := z1y) (fn := Try.f104) (W := []) (H := [zi5]) Try.func104 zv2 ⟨y3w, trivial⟩ rfl rfl (fun av x => by kernel_rfl)
def z43 (r : GRd) (n : Int) : Option ((List Int) × GRd) := (z00 r 5).bind fun x1 => ((getI [[7], [7, 7], [1, 2, 4], [3, 5, 6, 7], [7, 3, 4]] x1.1).bind fun x2 => (gd (([] : List Int).length + x2.length ≤ SMALL) ((z00 x1.2 n).bind fun x4 => (if decide (x4.1 = 0) = true then ((z00 x4.2 3).bind fun x6 => (if decide (x6.1 = 0) = true then (some (([] : List Int), x6.2)) else (if decide (x6.1 = 1) = true then ((z00 x6.2 3).bind fun x9 => ((getI [(-1), 8, 0] x9.1).bind fun x10 => ((getI (([] : List Int) ++ x2) 0).bind fun x11 => (some (((([] : List Int) ++ x2).set (0 : Int).toNat x10), x9.2))))) else (some ([1, 1, 1, 1, 1], x6.2))))) else (some ((([] : List Int) ++ x2), x4.2))))))
def z7j : Con := ⟨99, [.ptr (.s .rd) false, .v .I false], [((.sl .I), true)], [(0, .ptr (.s .rd) false)], fun x => z43 x.1 x.2.1⟩
def y3l : Fs := ⟨[z8n], [], []⟩
theorem y3p : y3l.Ok Try.prog := (fsK zd7 fs0)
theorem y43 : z7j.Ok Try.prog := fn_ok (k := z7j) (fn := Try.f99) (W := []) (H := []) Try.func99 y3p trivial rfl rfl (fun av x => by kernel_rfl)
def z75 (r : GRd) (n : GNet) (p : List Int) (c : GCase) : Option (GCase × GRd) := if decide (0 < (c.busy.length : Int)) = true then ((z00 r 3).bind fun x2 => (if decide (0 < x2.1) = true then ((z00 x2.2 (c.busy.length : Int)).bind fun x4 => ((z00 x4.2 4).bind fun x5 => (gd (ok64 (x5.1 - 1)) ((z00 x5.2 7).bind fun x7 => (gd (ok64 (x7.1 - 2)) ((z47 n c x4.1 (x5.1 - 1) (x7.1 - 2)).bind fun x9 => (some (x9.1, x7.2)))))))) else ((z2w n c.marks c.busy).bind fun x10 => (if decide ((x10.length : Int) = 0) = true then (some (c, x2.2)) else ((z00 x2.2 (x10.length : Int)).bind fun x12 => ((getI x10 x12.1).bind fun x13 => ((z3b n p c.did c.busy x13).bind fun x14 => (if decide ((x14.length : Int) = 0) = true then (some (c, x12.2)) else ((z00 x12.2 (x14.length : Int)).bind fun x16 => ((getI x14 x16.1).bind fun x17 => ((z2v n p c x13 x17).bind fun x18 => (some (x18.1, x16.2))))))))))))) else ((z2w n c.marks c.busy).bind fun x19 => (if decide ((x19.length : Int) = 0) = true then (some (c, r)) else ((z00 r (x19.length : Int)).bind fun x21 => ((getI x19 x21.1).bind fun x22 => ((z3b n p c.did c.busy x22).bind fun x23 => (if decide ((x23.length : Int) = 0) = true then (some (c, x21.2)) else ((z00 x21.2 (x23.length : Int)).bind fun x25 => ((getI x23 x25.1).bind fun x26 => ((z2v n p c x22 x26).bind fun x27 => (some (x27.1, x25.2)))))))))))
def za0 : Con := ⟨66, [.ptr (.s .rd) false, .v (.s .net) false, .v (.sl .I) false, .v (.s .kase) true], [((.s .kase), true)], [(0, .ptr (.s .rd) false)], fun x => z75 x.1 x.2.1 x.2.2.1 x.2.2.2.1⟩
def y7j : Fs := ⟨[z8n, z53, z17, z0d, z5u], [], []⟩
theorem y7u : y7j.Ok Try.prog := (fsK zd7 (fsK za5 (fsK zq1 (fsK zh4 (fsK zq0 fs0)))))
theorem y8l : za0.Ok Try.prog := fn_ok (k := za0) (fn := Try.f66) (W := []) (H := []) Try.func66 y7u trivial rfl rfl (fun av x => by kernel_rfl)
def z69 (r : GRd) (n : GNet) (p : List Int) (c : GCase) : Option (GCase × GRd) := if decide (0 < (c.busy.length : Int)) = true then ((z00 r 3).bind fun x2 => (if decide (0 < x2.1) = true then ((z00 x2.2 (c.busy.length : Int)).bind fun x4 => ((z00 x4.2 4).bind fun x5 => (gd (ok64 (x5.1 - 1)) ((z00 x5.2 7).bind fun x7 => (gd (ok64 (x7.1 - 2)) ((z47 n c x4.1 (x5.1 - 1) (x7.1 - 2)).bind fun x9 => (some (x9.1, x7.2)))))))) else ((z2w n c.marks c.busy).bind fun x10 => (if decide ((x10.length : Int) = 0) = true then (some (c, x2.2)) else ((z00 x2.2 (x10.length : Int)).bind fun x12 => ((getI x10 x12.1).bind fun x13 => ((z3b n p c.did c.busy x13).bind fun x14 => (if decide ((x14.length : Int) = 0) = true then (some (c, x12.2)) else ((z00 x12.2 (x14.length : Int)).bind fun x16 => ((getI x14 x16.1).bind fun x17 => ((z2v n p c x13 x17).bind fun x18 => (some (x18.1, x16.2))))))))))))) else ((z2w n c.marks c.busy).bind fun x19 => (if decide ((x19.length : Int) = 0) = true then (some (c, r)) else ((z00 r (x19.length : Int)).bind fun x21 => ((getI x19 x21.1).bind fun x22 => ((z3b n p c.did c.busy x22).bind fun x23 => (if decide ((x23.length : Int) = 0) = true then (some (c, x21.2)) else ((z00 x21.2 (x23.length : Int)).bind fun x25 => ((getI x23 x25.1).bind fun x26 => ((z2v n p c x22 x26).bind fun x27 => (some (x27.1, x25.2)))))))))))
def z8p : Con := ⟨66, [.ptr (.s .rd) false, .v (.s .net) false, .v (.sl .I) false, .v (.s .kase) false], [((.s .kase), false)], [(0, .ptr (.s .rd) false)], fun x => z69 x.1 x.2.1 x.2.2.1 x.2.2.2.1⟩
def y55 : Fs := ⟨[z8n, z53, z17, z0d, z5u], [], []⟩
theorem y5g : y55.Ok Try.prog := (fsK zd7 (fsK za5 (fsK zq1 (fsK zh4 (fsK zq0 fs0)))))
theorem y5x : z8p.Ok Try.prog := fn_ok (k := z8p) (fn := Try.f66) (W := []) (H := []) Try.func66 y5g trivial rfl rfl (fun av x => by kernel_rfl)
end
end Go.Am
