/- Mirrors and contracts, printed. Own work. -/
import Derived.Test.YtgolgnbgomhknaaCwD1
set_option maxRecDepth 100000
set_option maxHeartbeats 4000000
set_option linter.unusedVariables false
set_option linter.unusedSimpArgs false
namespace Go.Am
noncomputable section
open Go Go.Proofs
def z05 (n : Int) (low : Int) (high : Int) : Option Bool := if decide (low ≤ n) = true then (some (decide (n ≤ high))) else (some false)
def z0n : Con := ⟨56, [.v .I false, .v .I false, .v .I false], [(.B, true)], [], fun x => z05 x.1 x.2.1 x.2.2.1⟩
def yq6 : Fs := ⟨[], [], []⟩
theorem yq8 : yq6.Ok Try.prog := fs0
theorem z0x : z0n.Ok Try.prog := fn_ok (k := z0n) (fn := Try.f56) (W := []) (H := []) Try.func56 yq8 trivial rfl rfl (fun av x => by kernel_rfl)
def zo8  : Option Bool := some true
def z3o (data : List Int) (kx0_0 : Option Bool) : Nat → Int → Option Bool
  | 0, _ => none
  | n0 + 1, s0_0 => if decide (s0_0 < (data.length : Int)) = true then ((getI data s0_0).bind fun x3 => ((z05 x3 (-99) 99).bind fun x4 => (if x4 = true then (gd (ok64 (s0_0 + 1)) ((z3o data kx0_0 n0) (s0_0 + 1))) else (some false)))) else (kx0_0)
def z3v (data : List Int) : Option Bool := if decide ((data.length : Int) = 3) = true then (z3o data zo8 FUEL 0) else (some false)
def z1a : Con := ⟨55, [.v (.sl .I) false], [(.B, true)], [], fun x => z3v x.1⟩
def yi4 : Fs := ⟨[z0n], [], []⟩
theorem y29 : yi4.Ok Try.prog := (fsK z0x fs0)
def zx0 : Tmpl := ⟨[(0, .c (.s .I)), (3, .c .i)], []⟩
def zr5 : Tmpl := ⟨[], []⟩
def y6u (av : AV) (x : HP z1a.ps) (n : Nat) (v : zx0.den) (K : Ks (CR z1a)) : Option (CR z1a) := z3o v.1.1 (zr5.at none ((), ()) (K (.exit 0))) n v.1.2.1
def zv5 (av : AV) (x : HP z1a.ps) : Hdl (CR z1a) := hnd [] zx0 (y6u av x)
theorem y7x : LP z1a Try.f55 [0] zv5 := lp_ok (W := []) (H := []) (xs := [zr5]) y29 trivial rfl (fun av x v K => by kernel_rfl) (fun av x n v K => by kernel_rfl)
theorem z7d : z1a.Ok Try.prog := fn_ok (k := z1a) (fn := Try.f55) (W := []) (H := [zv5]) Try.func55 y29 ⟨y7x, trivial⟩ rfl rfl (fun av x => by kernel_rfl)
def z87 (data : List Int) (k : Int) (n : Int) : Option (List Int) := (z3v data).bind fun x1 => (if x1 = true then ((z05 k 0 2).bind fun x3 => (if x3 = true then ((z05 n (-99) 99).bind fun x5 => (if x5 = true then (gd (([] : List Int).length + data.length ≤ SMALL) ((getI (([] : List Int) ++ data) k).bind fun x8 => (some ((([] : List Int) ++ data).set k.toNat n)))) else (gd (([] : List Int).length + data.length ≤ SMALL) (some (([] : List Int) ++ data))))) else (gd (([] : List Int).length + data.length ≤ SMALL) (some (([] : List Int) ++ data))))) else (gd (([] : List Int).length + data.length ≤ SMALL) (some (([] : List Int) ++ data))))
def zg2 : Con := ⟨70, [.v (.sl .I) false, .v .I false, .v .I false], [((.sl .I), true)], [], fun x => z87 x.1 x.2.1 x.2.2.1⟩
def y9p : Fs := ⟨[z1a, z0n], [], []⟩
theorem ya7 : y9p.Ok Try.prog := (fsK z7d (fsK z0x fs0))
theorem yd0 : zg2.Ok Try.prog := fn_ok (k := zg2) (fn := Try.f70) (W := []) (H := []) Try.func70 ya7 trivial rfl rfl (fun av x => by kernel_rfl)
def z5i (e : GAsk) : Option Bool := if decide (e.op = 0) = true then (some (decide ([e.op, e.var, e.k] = [0, 0, 0]))) else ((z05 e.op 1 3).bind fun x2 => (if x2 = true then ((z05 e.var 0 2).bind fun x4 => (if x4 = true then ((z05 e.k (-99) 99).bind fun x6 => (some x6)) else (some false))) else (some false)))
def z93 : Con := ⟨133, [.v (.s .ask) false], [(.B, true)], [], fun x => z5i x.1⟩
def yi5 : Fs := ⟨[z0n], [], []⟩
theorem yk0 : yi5.Ok Try.prog := (fsK z0x fs0)
theorem y2o : z93.Ok Try.prog := fn_ok (k := z93) (fn := Try.f133) (W := []) (H := []) Try.func133 yk0 trivial rfl rfl (fun av x => by kernel_rfl)
def z5z (e : GAsk) (data : List Int) : Option Bool := (z5i e).bind fun x1 => (if x1 = true then ((z3v data).bind fun x3 => (if x3 = true then (if decide (e.op = 1) = true then ((getI data e.var).bind fun x6 => (some (decide (x6 < e.k)))) else (if decide (e.op = 2) = true then ((getI data e.var).bind fun x8 => (some (decide (x8 = e.k)))) else (if decide (e.op = 3) = true then ((getI data e.var).bind fun x10 => (some (decide (e.k < x10)))) else (some true)))) else (some false))) else (some false))
def z8m : Con := ⟨136, [.v (.s .ask) false, .v (.sl .I) false], [(.B, true)], [], fun x => z5z x.1 x.2.1⟩
def y4x : Fs := ⟨[z93, z1a], [], []⟩
theorem y5a : y4x.Ok Try.prog := (fsK y2o (fsK z7d fs0))
theorem y5s : z8m.Ok Try.prog := fn_ok (k := z8m) (fn := Try.f136) (W := []) (H := []) Try.func136 y5a trivial rfl rfl (fun av x => by kernel_rfl)
def z0p (n : Int) (low : Int) (high : Int) : Option Bool := if decide (low ≤ n) = true then (some (decide (n ≤ high))) else (some false)
def z2h : Con := ⟨67, [.v .I false, .v .I false, .v .I false], [(.B, true)], [], fun x => z0p x.1 x.2.1 x.2.2.1⟩
def w15 : Fs := ⟨[], [], []⟩
theorem w1g : w15.Ok Try.prog := fs0
theorem z3b : z2h.Ok Try.prog := fn_ok (k := z2h) (fn := Try.f67) (W := []) (H := []) Try.func67 w1g trivial rfl rfl (fun av x => by kernel_rfl)
def z3g (n : Int) : Option Bool := (z0p n (-99) 99).bind fun x1 => (some x1)
def z45 : Con := ⟨64, [.v .I false], [(.B, true)], [], fun x => z3g x.1⟩
def y76 : Fs := ⟨[z2h], [], []⟩
theorem y7n : y76.Ok Try.prog := (fsK z3b fs0)
theorem z75 : z45.Ok Try.prog := fn_ok (k := z45) (fn := Try.f64) (W := []) (H := []) Try.func64 y7n trivial rfl rfl (fun av x => by kernel_rfl)
def z2f (list : List Int) : Option (List Int) := gd (([] : List Int).length + list.length ≤ SMALL) (some (([] : List Int) ++ list))
def z41 : Con := ⟨72, [.v (.sl .I) false], [((.sl .I), true)], [], fun x => z2f x.1⟩
def y3a : Fs := ⟨[], [], []⟩
theorem y3f : y3a.Ok Try.prog := fs0
theorem z7l : z41.Ok Try.prog := fn_ok (k := z41) (fn := Try.f72) (W := []) (H := []) Try.func72 y3f trivial rfl rfl (fun av x => by kernel_rfl)
def z5g (e : GAsk) : Option Bool := if decide (e.op = 0) = true then (if decide (e.var = 0) = true then (some (decide (e.k = 0))) else (some false)) else ((z0p e.op 1 3).bind fun x3 => (if x3 = true then ((z0p e.var 0 2).bind fun x5 => (if x5 = true then ((z3g e.k).bind fun x7 => (some x7)) else (some false))) else (some false)))
def z91 : Con := ⟨83, [.v (.s .ask) false], [(.B, true)], [], fun x => z5g x.1⟩
def yh8 : Fs := ⟨[z2h, z45], [], []⟩
theorem yj7 : yh8.Ok Try.prog := (fsK z3b (fsK z75 fs0))
theorem y2l : z91.Ok Try.prog := fn_ok (k := z91) (fn := Try.f83) (W := []) (H := []) Try.func83 yj7 trivial rfl rfl (fun av x => by kernel_rfl)
def zc9  : Option Bool := some true
def z1r (list : List Int) (low : Int) (high : Int) (kx0_0 : Option Bool) : Nat → Int → Option Bool
  | 0, _ => none
  | n0 + 1, s0_0 => if decide (s0_0 < (list.length : Int)) = true then ((getI list s0_0).bind fun x4 => ((z05 x4 low high).bind fun x5 => (if x5 = true then (if decide (0 < s0_0) = true then (gd (ok64 (s0_0 - 1)) ((getI list (s0_0 - 1)).bind fun x9 => ((getI list s0_0).bind fun x10 => (if decide (x10 ≤ x9) = true then (some false) else (gd (ok64 (s0_0 + 1)) ((z1r list low high kx0_0 n0) (s0_0 + 1))))))) else (gd (ok64 (s0_0 + 1)) ((z1r list low high kx0_0 n0) (s0_0 + 1)))) else (some false)))) else (kx0_0)
def z55 (list : List Int) (least : Int) (most : Int) (low : Int) (high : Int) : Option Bool := (z05 (list.length : Int) least most).bind fun x1 => (if x1 = true then (z1r list low high zc9 FUEL 0) else (some false))
def z21 : Con := ⟨161, [.v (.sl .I) false, .v .I false, .v .I false, .v .I false, .v .I false], [(.B, true)], [], fun x => z55 x.1 x.2.1 x.2.2.1 x.2.2.2.1 x.2.2.2.2.1⟩
def y7j : Fs := ⟨[z0n], [], []⟩
theorem zv0 : y7j.Ok Try.prog := (fsK z0x fs0)
def zk6 : Tmpl := ⟨[(0, .c (.s .I)), (3, .c .i), (4, .c .i), (11, .c .i)], []⟩
def zf3 : Tmpl := ⟨[], []⟩
def y37 (av : AV) (x : HP z21.ps) (n : Nat) (v : zk6.den) (K : Ks (CR z21)) : Option (CR z21) := z1r v.1.1 v.1.2.1 v.1.2.2.1 (zf3.at none ((), ()) (K (.exit 0))) n v.1.2.2.2.1
def zi6 (av : AV) (x : HP z21.ps) : Hdl (CR z21) := hnd [] zk6 (y37 av x)
theorem y3u : LP z21 Try.f161 [0] zi6 := lp_ok (W := []) (H := []) (xs := [zf3]) zv0 trivial rfl (fun av x v K => by kernel_rfl) (fun av x n v K => by kernel_rfl)
theorem y8j : z21.Ok Try.prog := fn_ok (k := z21) (fn := Try.f161) (W := []) (H := [zi6]) Try.func161 zv0 ⟨y3u, trivial⟩ rfl rfl (fun av x => by kernel_rfl)
def zp2  : Option Bool := some false
def z3t (list : List Int) (n : Int) (kx0_0 : Option Bool) : Nat → Int → Option Bool
  | 0, _ => none
  | n0 + 1, s0_0 => if decide (s0_0 < (list.length : Int)) = true then ((getI list s0_0).bind fun x2 => (if decide (x2 = n) = true then (some true) else (gd (ok64 (s0_0 + 1)) ((z3t list n kx0_0 n0) (s0_0 + 1))))) else (kx0_0)
def z5j (list : List Int) (n : Int) : Option Bool := z3t list n zp2 FUEL 0
def z25 : Con := ⟨146, [.v (.sl .I) false, .v .I false], [(.B, true)], [], fun x => z5j x.1 x.2.1⟩
def yj0 : Fs := ⟨[], [], []⟩
theorem y2e : yj0.Ok Try.prog := fs0
def zx5 : Tmpl := ⟨[(0, .c (.s .I)), (1, .c .i), (5, .c .i)], []⟩
def zr9 : Tmpl := ⟨[], []⟩
def y6z (av : AV) (x : HP z25.ps) (n : Nat) (v : zx5.den) (K : Ks (CR z25)) : Option (CR z25) := z3t v.1.1 v.1.2.1 (zr9.at none ((), ()) (K (.exit 0))) n v.1.2.2.1
def zw0 (av : AV) (x : HP z25.ps) : Hdl (CR z25) := hnd [] zx5 (y6z av x)
theorem y82 : LP z25 Try.f146 [0] zw0 := lp_ok (W := []) (H := []) (xs := [zr9]) y2e trivial rfl (fun av x v K => by kernel_rfl) (fun av x n v K => by kernel_rfl)
theorem zp7 : z25.Ok Try.prog := fn_ok (k := z25) (fn := Try.f146) (W := []) (H := [zw0]) Try.func146 y2e ⟨y82, trivial⟩ rfl rfl (fun av x => by kernel_rfl)
def zc6 (s0_0 : Int) (bk0 : Int → Option Bool) : Option Bool := gd (ok64 (s0_0 + 1)) (bk0 (s0_0 + 1))
def z1c (t : GTask) (s0_0 : Int) (x4 : GFlow) (kx1_0 : Option Bool) : Nat → Int → Option Bool
  | 0, _ => none
  | n1 + 1, s1_0 => if decide (s1_0 < s0_0) = true then ((getI t.out s1_0).bind fun x14 => (if decide (x14.to = x4.to) = true then (some false) else (gd (ok64 (s1_0 + 1)) ((z1c t s0_0 x4 kx1_0 n1) (s1_0 + 1))))) else (kx1_0)
def zc7 (s0_0 : Int) (bk0 : Int → Option Bool) : Option Bool := gd (ok64 (s0_0 + 1)) (bk0 (s0_0 + 1))
def zc8  : Option Bool := some true
def z1q (t : GTask) (places : Int) (kx0_0 : Option Bool) : Nat → Int → Option Bool
  | 0, _ => none
  | n0 + 1, s0_0 => if decide (s0_0 < (t.out.length : Int)) = true then ((getI t.out s0_0).bind fun x4 => (gd (ok64 ((t.out.length : Int) - 1)) (if decide (s0_0 = ((t.out.length : Int) - 1)) = true then (gd (ok64 (places - 1)) ((z05 x4.to 1 (places - 1)).bind fun x8 => (if x8 = true then ((z5i x4.if_).bind fun x10 => (if x10 = true then (if (true == (decide (x4.if_.op = 0))) = true then (z1c t s0_0 x4 (zc6 s0_0 (z1q t places kx0_0 n0)) FUEL 0) else (some false)) else (some false))) else (some false)))) else (gd (ok64 (places - 1)) ((z05 x4.to 1 (places - 1)).bind fun x19 => (if x19 = true then ((z5i x4.if_).bind fun x21 => (if x21 = true then (if ((decide (t.split = 1)) == (decide (x4.if_.op = 0))) = true then (z1c t s0_0 x4 (zc7 s0_0 (z1q t places kx0_0 n0)) FUEL 0) else (some false)) else (some false))) else (some false))))))) else (kx0_0)
def z74 (t : GTask) (places : Int) : Option Bool := (z05 (t.out.length : Int) 1 3).bind fun x1 => (if x1 = true then (z1q t places zc8 FUEL 0) else (some false))
def z0g : Con := ⟨162, [.v (.s .task) false, .v .I false], [(.B, true)], [], fun x => z74 x.1 x.2.1⟩
def y7i : Fs := ⟨[z0n, z93], [], []⟩
theorem z9r : y7i.Ok Try.prog := (fsK z0x (fsK y2o fs0))
def z9g : Tmpl := ⟨[(1, .c .i), (2, .c (.bx 2 0)), (5, .c .i), (6, .c (.bx 6 0)), (8, .c .i)], [(2, .boxT (.s .task)), (6, .boxT (.s .flow))]⟩
def z8u : Tmpl := ⟨[(1, .c .i), (2, .c (.bx 2 0)), (5, .c .i)], [(2, .boxT (.s .task))]⟩
def zz3 (av : AV) (x : HP z0g.ps) (n : Nat) (v : z9g.den) (K : Ks (CR z0g)) : Option (CR z0g) := z1c v.2.1 v.1.2.2.1 v.2.2.1 (z8u.at none ((v.1.1, (), v.1.2.2.1, ()), (v.2.1, ())) (K (.exit 2))) n v.1.2.2.2.2.1
def z8y (av : AV) (x : HP z0g.ps) : Hdl (CR z0g) := hnd [] z9g (zz3 av x)
theorem y0f : LP z0g Try.f162 [0, 0] z8y := lp_ok (W := []) (H := []) (xs := [z8u]) z9r trivial rfl (fun av x v K => by kernel_rfl) (fun av x n v K => by kernel_rfl)
def zk5 : Tmpl := ⟨[(1, .c .i), (2, .c (.bx 2 0)), (5, .c .i)], [(2, .boxT (.s .task))]⟩
def zf2 : Tmpl := ⟨[], []⟩
def y36 (av : AV) (x : HP z0g.ps) (n : Nat) (v : zk5.den) (K : Ks (CR z0g)) : Option (CR z0g) := z1q v.2.1 v.1.1 (zf2.at none ((), ()) (K (.exit 0))) n v.1.2.2.1
def zi5 (av : AV) (x : HP z0g.ps) : Hdl (CR z0g) := hnd [] zk5 (y36 av x)
theorem y3t : LP z0g Try.f162 [0] zi5 := lp_ok (W := []) (H := [z8y]) (xs := [zf2]) z9r ⟨y0f, trivial⟩ rfl (fun av x v K => by kernel_rfl) (fun av x n v K => by kernel_rfl)
theorem y8i : z0g.Ok Try.prog := fn_ok (k := z0g) (fn := Try.f162) (W := []) (H := [zi5]) Try.func162 z9r ⟨y3t, trivial⟩ rfl rfl (fun av x => by kernel_rfl)
def z8b (t : GTask) (places : Int) (tasks : Int) : Option Bool := (z05 t.join 1 3).bind fun x1 => (if x1 = true then ((z05 t.split 1 3).bind fun x3 => (if x3 = true then (gd (ok64 (places - 1)) ((z55 t.in_ 1 3 0 (places - 1)).bind fun x6 => (if x6 = true then ((z5j t.in_ 1).bind fun x8 => (if x8 = true then (some false) else ((z74 t places).bind fun x10 => (if x10 = true then (gd (ok64 (places - 1)) ((z55 t.clear 0 places 2 (places - 1)).bind fun x13 => (if x13 = true then ((z05 t.role 1 3).bind fun x15 => (if x15 = true then (gd (ok64 (tasks - 1)) ((z05 t.apart (-1) (tasks - 1)).bind fun x18 => (if x18 = true then ((z05 t.all 1 3).bind fun x20 => (if x20 = true then ((z05 t.need 1 t.all).bind fun x22 => (some x22)) else (some false))) else (some false)))) else (some false))) else (some false)))) else (some false))))) else (some false)))) else (some false))) else (some false))
def zg4 : Con := ⟨140, [.v (.s .task) false, .v .I false, .v .I false], [(.B, true)], [], fun x => z8b x.1 x.2.1 x.2.2.1⟩
def y9w : Fs := ⟨[z0n, z21, z25, z0g], [], []⟩
theorem yb1 : y9w.Ok Try.prog := (fsK z0x (fsK y8j (fsK zp7 (fsK y8i fs0))))
theorem yd4 : zg4.Ok Try.prog := fn_ok (k := zg4) (fn := Try.f140) (W := []) (H := []) Try.func140 yb1 trivial rfl rfl (fun av x => by kernel_rfl)
def zp0  : Option Bool := some true
def z3q (n : GNet) (kx0_0 : Option Bool) : Nat → Int → Option Bool
  | 0, _ => none
  | n0 + 1, s0_0 => if decide (s0_0 < (n.tasks.length : Int)) = true then ((getI n.tasks s0_0).bind fun x6 => ((z8b x6 n.places (n.tasks.length : Int)).bind fun x7 => (if x7 = true then (gd (ok64 (s0_0 + 1)) ((z3q n kx0_0 n0) (s0_0 + 1))) else (some false)))) else (kx0_0)
def z28 (n : GNet) : Option Bool := (z05 n.places 2 8).bind fun x1 => (if x1 = true then ((z05 (n.tasks.length : Int) 1 6).bind fun x3 => (if x3 = true then (z3q n zp0 FUEL 0) else (some false))) else (some false))
def z1k : Con := ⟨105, [.v (.s .net) false], [(.B, true)], [], fun x => z28 x.1⟩
def yi7 : Fs := ⟨[z0n, zg4], [], []⟩
theorem y2b : yi7.Ok Try.prog := (fsK z0x (fsK yd4 fs0))
def zx2 : Tmpl := ⟨[(1, .c (.bx 1 0)), (3, .c .i)], [(1, .boxT (.s .net))]⟩
def zr7 : Tmpl := ⟨[], []⟩
def y6w (av : AV) (x : HP z1k.ps) (n : Nat) (v : zx2.den) (K : Ks (CR z1k)) : Option (CR z1k) := z3q v.2.1 (zr7.at none ((), ()) (K (.exit 0))) n v.1.2.1
def zv7 (av : AV) (x : HP z1k.ps) : Hdl (CR z1k) := hnd [] zx2 (y6w av x)
theorem y7z : LP z1k Try.f105 [0] zv7 := lp_ok (W := []) (H := []) (xs := [zr7]) y2b trivial rfl (fun av x v K => by kernel_rfl) (fun av x n v K => by kernel_rfl)
theorem z9d : z1k.Ok Try.prog := fn_ok (k := z1k) (fn := Try.f105) (W := []) (H := [zv7]) Try.func105 y2b ⟨y7z, trivial⟩ rfl rfl (fun av x => by kernel_rfl)
def z68 (s1_0 : Int) (bk1 : Int → List Bool → Option (List Bool)) (l3_1 : List Bool) : Option (List Bool) := gd (ok64 (s1_0 + 1)) (bk1 (s1_0 + 1) l3_1)
def z69 (s1_0 : Int) (bk1 : Int → List Bool → Option (List Bool)) (l3_1 : List Bool) : Option (List Bool) := gd (ok64 (s1_0 + 1)) (bk1 (s1_0 + 1) l3_1)
def z6a (s1_0 : Int) (bk1 : Int → List Bool → Option (List Bool)) (l3_1 : List Bool) : Option (List Bool) := gd (ok64 (s1_0 + 1)) (bk1 (s1_0 + 1) l3_1)
def z0u (n : GNet) (but : Int) (s1_0 : Int) (s2_0 : Bool) (kx3_0 : List Bool → Option (List Bool)) (kx3_1 : List Bool → Option (List Bool)) (kx3_2 : List Bool → Option (List Bool)) : Nat → Int → List Bool → Option (List Bool)
  | 0, _, _ => none
  | n3 + 1, s3_0, l3_1 => (getI n.tasks s1_0).bind fun x12 => (if decide (s3_0 < (x12.out.length : Int)) = true then (if s2_0 = true then (if decide (s1_0 = but) = true then (kx3_0 l3_1) else ((getI n.tasks s1_0).bind fun x17 => ((getI x17.out s3_0).bind fun x18 => ((getI l3_1 x18.to).bind fun x19 => (gd (ok64 (s3_0 + 1)) ((z0u n but s1_0 s2_0 kx3_0 kx3_1 kx3_2 n3) (s3_0 + 1) (l3_1.set x18.to.toNat true))))))) else (kx3_1 l3_1)) else (kx3_2 l3_1))
def z98 (n : GNet) (but : Int) (s1_0 : Int) (l1_1 : List Bool) (bk1 : Int → List Bool → Option (List Bool)) (s2_0 : Bool) : Option (List Bool) := z0u n but s1_0 s2_0 (z68 s1_0 bk1) (z69 s1_0 bk1) (z6a s1_0 bk1) FUEL 0 l1_1
def z11 (n : GNet) (s1_0 : Int) (l1_1 : List Bool) (kx2_0 : Bool → Option (List Bool)) : Nat → Bool → Int → Option (List Bool)
  | 0, _, _ => none
  | n2 + 1, s2_0, s2_1 => (getI n.tasks s1_0).bind fun x4 => (if decide (s2_1 < (x4.in_.length : Int)) = true then (if s2_0 = true then (gd (ok64 (s2_1 + 1)) ((z11 n s1_0 l1_1 kx2_0 n2) true (s2_1 + 1))) else ((getI n.tasks s1_0).bind fun x8 => ((getI x8.in_ s2_1).bind fun x9 => ((getI l1_1 x9).bind fun x10 => (gd (ok64 (s2_1 + 1)) ((z11 n s1_0 l1_1 kx2_0 n2) x10 (s2_1 + 1))))))) else (kx2_0 s2_0))
def z99 (s0_0 : Int) (bk0 : Int → List Bool → Option (List Bool)) (l1_1 : List Bool) : Option (List Bool) := gd (ok64 (s0_0 + 1)) (bk0 (s0_0 + 1) l1_1)
def z0a (n : GNet) (but : Int) (kx1_0 : List Bool → Option (List Bool)) : Nat → Int → List Bool → Option (List Bool)
  | 0, _, _ => none
  | n1 + 1, s1_0, l1_1 => if decide (s1_0 < (n.tasks.length : Int)) = true then (z11 n s1_0 l1_1 (z98 n but s1_0 l1_1 (z0a n but kx1_0 n1)) FUEL false 0) else (kx1_0 l1_1)
def z9a (l0_1 : List Bool) : Option (List Bool) := some l0_1
def z2c (n : GNet) (but : Int) (kx0_0 : List Bool → Option (List Bool)) : Nat → Int → List Bool → Option (List Bool)
  | 0, _, _ => none
  | n0 + 1, s0_0, l0_1 => if decide (s0_0 < n.places) = true then (z0a n but (z99 s0_0 (z2c n but kx0_0 n0)) FUEL 0 l0_1) else (kx0_0 l0_1)
def z67 (n : GNet) (marked : List Bool) (but : Int) : Option (List Bool) := gd (([] : List Bool).length + marked.length ≤ SMALL) (z2c n but z9a FUEL 0 (([] : List Bool) ++ marked))
def z03 : Con := ⟨173, [.v (.s .net) false, .v (.sl .B) false, .v .I false], [((.sl .B), true)], [], fun x => z67 x.1 x.2.1 x.2.2.1⟩
def y51 : Fs := ⟨[], [], []⟩
theorem z4c : y51.Ok Try.prog := fs0
def z7f : Tmpl := ⟨[(2, .c .i), (3, .c (.bx 3 0)), (7, .c (.ref 15)), (8, .c .i), (9, .c .i), (10, .c .b), (11, .c .i)], [(3, .boxT (.s .net)), (15, .arr .B true)]⟩
def z6p : Tmpl := ⟨[(2, .c .i), (3, .c (.bx 3 0)), (7, .c (.ref 15)), (8, .c .i), (9, .c .i), (10, .c .b)], [(3, .boxT (.s .net)), (15, .arr .B true)]⟩
def zl9 (av : AV) (x : HP z03.ps) (n : Nat) (v : z7f.den) (K : Ks (CR z03)) : Option (CR z03) := z11 v.2.1 v.1.2.2.2.2.1 v.2.2.1 (fun s2_0 => z6p.at none ((v.1.1, (), (), v.1.2.2.2.1, v.1.2.2.2.2.1, s2_0, ()), (v.2.1, v.2.2.1, ())) (K (.exit 4))) n v.1.2.2.2.2.2.1 v.1.2.2.2.2.2.2.1
def z76 (av : AV) (x : HP z03.ps) : Hdl (CR z03) := hnd [] z7f (zl9 av x)
theorem zo3 : LP z03 Try.f173 [0, 0, 0] z76 := lp_ok (W := []) (H := []) (xs := [z6p]) z4c trivial rfl (fun av x v K => by kernel_rfl) (fun av x n v K => by kernel_rfl)
def z7g : Tmpl := ⟨[(2, .c .i), (3, .c (.bx 3 0)), (7, .c (.ref 15)), (8, .c .i), (9, .c .i), (10, .c .b), (12, .c .i)], [(3, .boxT (.s .net)), (15, .arr .B true)]⟩
def z2y : Tmpl := ⟨[(2, .c .i), (3, .c (.bx 3 0)), (7, .c (.ref 15)), (8, .c .i), (9, .c .i)], [(3, .boxT (.s .net)), (15, .arr .B true)]⟩
def zm0 (av : AV) (x : HP z03.ps) (n : Nat) (v : z7g.den) (K : Ks (CR z03)) : Option (CR z03) := z0u v.2.1 v.1.1 v.1.2.2.2.2.1 v.1.2.2.2.2.2.1 (fun l3_1 => z2y.at none ((v.1.1, (), (), v.1.2.2.2.1, v.1.2.2.2.2.1, ()), (v.2.1, l3_1, ())) (K (.exit 6))) (fun l3_1 => z2y.at none ((v.1.1, (), (), v.1.2.2.2.1, v.1.2.2.2.2.1, ()), (v.2.1, l3_1, ())) (K (.exit 6))) (fun l3_1 => z2y.at none ((v.1.1, (), (), v.1.2.2.2.1, v.1.2.2.2.2.1, ()), (v.2.1, l3_1, ())) (K (.exit 6))) n v.1.2.2.2.2.2.2.1 v.2.2.1
def z77 (av : AV) (x : HP z03.ps) : Hdl (CR z03) := hnd [] z7g (zm0 av x)
theorem zo4 : LP z03 Try.f173 [0, 0, 1] z77 := lp_ok (W := []) (H := []) (xs := [z2y]) z4c trivial rfl (fun av x v K => by kernel_rfl) (fun av x n v K => by kernel_rfl)
def z8s : Tmpl := ⟨[(2, .c .i), (3, .c (.bx 3 0)), (7, .c (.ref 15)), (8, .c .i), (9, .c .i)], [(3, .boxT (.s .net)), (15, .arr .B true)]⟩
def z7u : Tmpl := ⟨[(2, .c .i), (3, .c (.bx 3 0)), (7, .c (.ref 15)), (8, .c .i)], [(3, .boxT (.s .net)), (15, .arr .B true)]⟩
def zx7 (av : AV) (x : HP z03.ps) (n : Nat) (v : z8s.den) (K : Ks (CR z03)) : Option (CR z03) := z0a v.2.1 v.1.1 (fun l1_1 => z7u.at none ((v.1.1, (), (), v.1.2.2.2.1, ()), (v.2.1, l1_1, ())) (K (.exit 2))) n v.1.2.2.2.2.1 v.2.2.1
def z8i (av : AV) (x : HP z03.ps) : Hdl (CR z03) := hnd [] z8s (zx7 av x)
theorem zy5 : LP z03 Try.f173 [0, 0] z8i := lp_ok (W := []) (H := [z76, z77]) (xs := [z7u]) z4c ⟨zo3, zo4, trivial⟩ rfl (fun av x v K => by kernel_rfl) (fun av x n v K => by kernel_rfl)
def zd9 : Tmpl := ⟨[(2, .c .i), (3, .c (.bx 3 0)), (7, .c (.ref 15)), (8, .c .i)], [(3, .boxT (.s .net)), (15, .arr .B true)]⟩
def z9l : Tmpl := ⟨[(7, .c (.ref 15))], [(15, .arr .B true)]⟩
def y18 (av : AV) (x : HP z03.ps) (n : Nat) (v : zd9.den) (K : Ks (CR z03)) : Option (CR z03) := z2c v.2.1 v.1.1 (fun l0_1 => z9l.at none (((), ()), (l0_1, ())) (K (.exit 0))) n v.1.2.2.2.1 v.2.2.1
def zb5 (av : AV) (x : HP z03.ps) : Hdl (CR z03) := hnd [] zd9 (y18 av x)
theorem y1p : LP z03 Try.f173 [0] zb5 := lp_ok (W := []) (H := [z8i]) (xs := [z9l]) z4c ⟨zy5, trivial⟩ rfl (fun av x v K => by kernel_rfl) (fun av x n v K => by kernel_rfl)
theorem y5w : z03.Ok Try.prog := fn_ok (k := z03) (fn := Try.f173) (W := []) (H := [zb5]) Try.func173 z4c ⟨y1p, trivial⟩ rfl rfl (fun av x => by kernel_rfl)
def z84 (kind : Int) : Option Bool := (z0p kind 1 3).bind fun x1 => (some x1)
def zf8 : Con := ⟨142, [.v .I false], [(.B, true)], [], fun x => z84 x.1⟩
def y9j : Fs := ⟨[z2h], [], []⟩
theorem ya3 : y9j.Ok Try.prog := (fsK z3b fs0)
theorem yc5 : zf8.Ok Try.prog := fn_ok (k := zf8) (fn := Try.f142) (W := []) (H := []) Try.func142 ya3 trivial rfl rfl (fun av x => by kernel_rfl)
def zg6 (role : Int) : Option Bool := (z0p role 1 3).bind fun x1 => (some x1)
def zf9 : Con := ⟨145, [.v .I false], [(.B, true)], [], fun x => zg6 x.1⟩
def y9k : Fs := ⟨[z2h], [], []⟩
theorem ya4 : y9k.Ok Try.prog := (fsK z3b fs0)
theorem yc6 : zf9.Ok Try.prog := fn_ok (k := zf9) (fn := Try.f145) (W := []) (H := []) Try.func145 ya4 trivial rfl rfl (fun av x => by kernel_rfl)
def z9z (places : Int) (tasks : Int) : Option Bool := (z0p places 2 8).bind fun x1 => (if x1 = true then ((z0p tasks 1 6).bind fun x3 => (some x3)) else (some false))
def z9v : Con := ⟨106, [.v .I false, .v .I false], [(.B, true)], [], fun x => z9z x.1 x.2.1⟩
def y78 : Fs := ⟨[z2h], [], []⟩
theorem y7p : y78.Ok Try.prog := (fsK z3b fs0)
theorem y89 : z9v.Ok Try.prog := fn_ok (k := z9v) (fn := Try.f106) (W := []) (H := []) Try.func106 y7p trivial rfl rfl (fun av x => by kernel_rfl)
def z0l (n : GNet) (t : Int) : Option Bool := gd (ok64 ((n.tasks.length : Int) - 1)) ((z0p t 0 ((n.tasks.length : Int) - 1)).bind fun x2 => (some x2))
def z23 : Con := ⟨51, [.v (.s .net) false, .v .I false], [(.B, true)], [], fun x => z0l x.1 x.2.1⟩
def zm2 : Fs := ⟨[z2h], [], []⟩
theorem zm4 : zm2.Ok Try.prog := (fsK z3b fs0)
theorem z4m : z23.Ok Try.prog := fn_ok (k := z23) (fn := Try.f51) (W := []) (H := []) Try.func51 zm4 trivial rfl rfl (fun av x => by kernel_rfl)
def zo9  : Option Bool := some true
def z3p (marks : List Int) (kx0_0 : Option Bool) : Nat → Int → Option Bool
  | 0, _ => none
  | n0 + 1, s0_0 => if decide (s0_0 < (marks.length : Int)) = true then ((getI marks s0_0).bind fun x5 => ((z05 x5 0 4).bind fun x6 => (if x6 = true then (gd (ok64 (s0_0 + 1)) ((z3p marks kx0_0 n0) (s0_0 + 1))) else (some false)))) else (kx0_0)
def z4l (n : GNet) (marks : List Int) : Option Bool := (z28 n).bind fun x1 => (if x1 = true then (if decide ((marks.length : Int) = n.places) = true then (z3p marks zo9 FUEL 0) else (some false)) else (some false))
def z1j : Con := ⟨53, [.v (.s .net) false, .v (.sl .I) false], [(.B, true)], [], fun x => z4l x.1 x.2.1⟩
def yi6 : Fs := ⟨[z1k, z0n], [], []⟩
theorem y2a : yi6.Ok Try.prog := (fsK z9d (fsK z0x fs0))
def zx1 : Tmpl := ⟨[(1, .c (.s .I)), (5, .c .i)], []⟩
def zr6 : Tmpl := ⟨[], []⟩
def y6v (av : AV) (x : HP z1j.ps) (n : Nat) (v : zx1.den) (K : Ks (CR z1j)) : Option (CR z1j) := z3p v.1.1 (zr6.at none ((), ()) (K (.exit 0))) n v.1.2.1
def zv6 (av : AV) (x : HP z1j.ps) : Hdl (CR z1j) := hnd [] zx1 (y6v av x)
theorem y7y : LP z1j Try.f53 [0] zv6 := lp_ok (W := []) (H := []) (xs := [zr6]) y2a trivial rfl (fun av x v K => by kernel_rfl) (fun av x n v K => by kernel_rfl)
theorem z9c : z1j.Ok Try.prog := fn_ok (k := z1j) (fn := Try.f53) (W := []) (H := [zv6]) Try.func53 y2a ⟨y7y, trivial⟩ rfl rfl (fun av x => by kernel_rfl)
def z5b (s0_0 : Bool) (s0_1 : Bool) : Option (Bool × Bool) := some (s0_0, s0_1)
def z0y (marks : List Int) (list : List Int) (kx0_0 : Bool → Bool → Option (Bool × Bool)) : Nat → Bool → Bool → Int → Option (Bool × Bool)
  | 0, _, _, _ => none
  | n0 + 1, s0_0, s0_1, s0_2 => if decide (s0_2 < (list.length : Int)) = true then (if s0_0 = true then (if s0_1 = true then ((getI list s0_2).bind fun x4 => ((getI marks x4).bind fun x5 => (gd (ok64 (s0_2 + 1)) ((z0y marks list kx0_0 n0) true (decide (0 < x5)) (s0_2 + 1))))) else (gd (ok64 (s0_2 + 1)) ((z0y marks list kx0_0 n0) true false (s0_2 + 1)))) else ((getI list s0_2).bind fun x8 => ((getI marks x8).bind fun x9 => (if s0_1 = true then ((getI list s0_2).bind fun x11 => ((getI marks x11).bind fun x12 => (gd (ok64 (s0_2 + 1)) ((z0y marks list kx0_0 n0) (decide (0 < x9)) (decide (0 < x12)) (s0_2 + 1))))) else (gd (ok64 (s0_2 + 1)) ((z0y marks list kx0_0 n0) (decide (0 < x9)) false (s0_2 + 1))))))) else (kx0_0 s0_0 s0_1)
def z8c (marks : List Int) (list : List Int) : Option (Bool × Bool) := z0y marks list z5b FUEL false true 0
def z2l : Con := ⟨167, [.v (.sl .I) false, .v (.sl .I) false], [(.B, true), (.B, true)], [], fun x => z8c x.1 x.2.1⟩
def y9y : Fs := ⟨[], [], []⟩
theorem y08 : y9y.Ok Try.prog := fs0
def zr0 : Tmpl := ⟨[(0, .c (.s .I)), (1, .c (.s .I)), (6, .c .b), (7, .c .b), (8, .c .i)], []⟩
def zl4 : Tmpl := ⟨[(6, .c .b), (7, .c .b)], []⟩
def y4n (av : AV) (x : HP z2l.ps) (n : Nat) (v : zr0.den) (K : Ks (CR z2l)) : Option (CR z2l) := z0y v.1.1 v.1.2.1 (fun s0_0 s0_1 => zl4.at none ((s0_0, s0_1, ()), ()) (K (.exit 0))) n v.1.2.2.1 v.1.2.2.2.1 v.1.2.2.2.2.1
def zn6 (av : AV) (x : HP z2l.ps) : Hdl (CR z2l) := hnd [] zr0 (y4n av x)
theorem y5n : LP z2l Try.f167 [0] zn6 := lp_ok (W := []) (H := []) (xs := [zl4]) y08 trivial rfl (fun av x v K => by kernel_rfl) (fun av x n v K => by kernel_rfl)
theorem yd5 : z2l.Ok Try.prog := fn_ok (k := z2l) (fn := Try.f167) (W := []) (H := [zn6]) Try.func167 y08 ⟨y5n, trivial⟩ rfl rfl (fun av x => by kernel_rfl)
def z2e (s1_0 : Int) (bk1 : Int → List Bool → Option Bool) (l2_1 : List Bool) : Option Bool := gd (ok64 (s1_0 + 1)) (bk1 (s1_0 + 1) l2_1)
def z1h (p2_0 : List GFlow) (kx2_0 : List Bool → Option Bool) : Nat → Int → List Bool → Option Bool
  | 0, _, _ => none
  | n2 + 1, s2_0, l2_1 => if decide (s2_0 < (p2_0.length : Int)) = true then ((getI p2_0 s2_0).bind fun x15 => ((getI l2_1 x15.to).bind fun x16 => (gd (ok64 (s2_0 + 1)) ((z1h p2_0 kx2_0 n2) (s2_0 + 1) (l2_1.set x15.to.toNat true))))) else (kx2_0 l2_1)
def z6d  : Option Bool := some false
def z14 (n : GNet) (marks : List Int) (t : Int) (x19 : (List Bool)) (kx3_0 : Option Bool) : Nat → Int → Option Bool
  | 0, _ => none
  | n3 + 1, s3_0 => (getI n.tasks t).bind fun x20 => (if decide (s3_0 < (x20.in_.length : Int)) = true then ((getI n.tasks t).bind fun x22 => ((getI x22.in_ s3_0).bind fun x23 => ((getI marks x23).bind fun x24 => (if decide (x24 = 0) = true then ((getI n.tasks t).bind fun x26 => ((getI x26.in_ s3_0).bind fun x27 => ((getI x19 x27).bind fun x28 => (if x28 = true then (some true) else (gd (ok64 (s3_0 + 1)) ((z14 n marks t x19 kx3_0 n3) (s3_0 + 1))))))) else (gd (ok64 (s3_0 + 1)) ((z14 n marks t x19 kx3_0 n3) (s3_0 + 1))))))) else (kx3_0))
def z12 (n : GNet) (marks : List Int) (t : Int) (l1_1 : List Bool) : Option Bool := (z67 n l1_1 t).bind fun x19 => (z14 n marks t x19 z6d FUEL 0)
def z0j (n : GNet) (busy : List GItem) (kx1_0 : List Bool → Option Bool) : Nat → Int → List Bool → Option Bool
  | 0, _, _ => none
  | n1 + 1, s1_0, l1_1 => if decide (s1_0 < (busy.length : Int)) = true then ((getI busy s1_0).bind fun x12 => ((getI n.tasks x12.task).bind fun x13 => (z1h x13.out (z2e s1_0 (z0j n busy kx1_0 n1)) FUEL 0 l1_1))) else (kx1_0 l1_1)
def z2d (n : GNet) (marks : List Int) (busy : List GItem) (t : Int) (l0_1 : List Bool) : Option Bool := z0j n busy (z12 n marks t) FUEL 0 l0_1
def z13 (n : GNet) (marks : List Int) (t : Int) (kx0_0 : List Bool → Option Bool) : Nat → Int → List Bool → Option Bool
  | 0, _, _ => none
  | n0 + 1, s0_0, l0_1 => if decide (s0_0 < n.places) = true then ((getI marks s0_0).bind fun x3 => (if decide (0 < x3) = true then ((getI n.tasks t).bind fun x5 => ((z5j x5.in_ s0_0).bind fun x6 => ((getI l0_1 s0_0).bind fun x7 => (gd (ok64 (s0_0 + 1)) ((z13 n marks t kx0_0 n0) (s0_0 + 1) (l0_1.set s0_0.toNat (!x6))))))) else ((getI l0_1 s0_0).bind fun x9 => (gd (ok64 (s0_0 + 1)) ((z13 n marks t kx0_0 n0) (s0_0 + 1) (l0_1.set s0_0.toNat false)))))) else (kx0_0 l0_1)
def z6c (n : GNet) (marks : List Int) (busy : List GItem) (t : Int) : Option Bool := gd ((0 : Int) ≤ n.places ∧ n.places ≤ (1000000000 : Int)) (z13 n marks t (z2d n marks busy t) FUEL 0 (List.replicate n.places.toNat false))
def z04 : Con := ⟨168, [.v (.s .net) false, .v (.sl .I) false, .v (.sl (.s .item)) false, .v .I false], [(.B, true)], [], fun x => z6c x.1 x.2.1 x.2.2.1 x.2.2.2.1⟩
def y52 : Fs := ⟨[z25, z03], [], []⟩
theorem z4d : y52.Ok Try.prog := (fsK zp7 (fsK y5w fs0))
def z8t : Tmpl := ⟨[(1, .c (.s .I)), (2, .c (.s (.s .item))), (3, .c .i), (4, .c (.bx 4 0)), (9, .c (.ref 18)), (11, .c .i), (12, .c (.s (.s .flow))), (13, .c .i)], [(4, .boxT (.s .net)), (18, .arr .B true)]⟩
def z7v : Tmpl := ⟨[(1, .c (.s .I)), (2, .c (.s (.s .item))), (3, .c .i), (4, .c (.bx 4 0)), (9, .c (.ref 18)), (11, .c .i)], [(4, .boxT (.s .net)), (18, .arr .B true)]⟩
def zx8 (av : AV) (x : HP z04.ps) (n : Nat) (v : z8t.den) (K : Ks (CR z04)) : Option (CR z04) := z1h v.1.2.2.2.2.2.2.1 (fun l2_1 => z7v.at none ((v.1.1, v.1.2.1, v.1.2.2.1, (), (), v.1.2.2.2.2.2.1, ()), (v.2.1, l2_1, ())) (K (.exit 4))) n v.1.2.2.2.2.2.2.2.1 v.2.2.1
def z8j (av : AV) (x : HP z04.ps) : Hdl (CR z04) := hnd [] z8t (zx8 av x)
theorem zy6 : LP z04 Try.f168 [1, 0] z8j := lp_ok (W := []) (H := []) (xs := [z7v]) z4d trivial rfl (fun av x v K => by kernel_rfl) (fun av x n v K => by kernel_rfl)
def ze0 : Tmpl := ⟨[(1, .c (.s .I)), (2, .c (.s (.s .item))), (3, .c .i), (4, .c (.bx 4 0)), (9, .c (.ref 18)), (10, .c .i)], [(4, .boxT (.s .net)), (18, .arr .B true)]⟩
def z9m : Tmpl := ⟨[(1, .c (.s .I)), (2, .c (.s (.s .item))), (3, .c .i), (4, .c (.bx 4 0)), (9, .c (.ref 18))], [(4, .boxT (.s .net)), (18, .arr .B true)]⟩
def y19 (av : AV) (x : HP z04.ps) (n : Nat) (v : ze0.den) (K : Ks (CR z04)) : Option (CR z04) := z13 v.2.1 v.1.1 v.1.2.2.1 (fun l0_1 => z9m.at none ((v.1.1, v.1.2.1, v.1.2.2.1, (), (), ()), (v.2.1, l0_1, ())) (K (.exit 0))) n v.1.2.2.2.2.2.1 v.2.2.1
def zb6 (av : AV) (x : HP z04.ps) : Hdl (CR z04) := hnd [] ze0 (y19 av x)
theorem y1q : LP z04 Try.f168 [0] zb6 := lp_ok (W := []) (H := []) (xs := [z9m]) z4d trivial rfl (fun av x v K => by kernel_rfl) (fun av x n v K => by kernel_rfl)
def ze1 : Tmpl := ⟨[(1, .c (.s .I)), (2, .c (.s (.s .item))), (3, .c .i), (4, .c (.bx 4 0)), (9, .c (.ref 18)), (11, .c .i)], [(4, .boxT (.s .net)), (18, .arr .B true)]⟩
def z9n : Tmpl := ⟨[(1, .c (.s .I)), (3, .c .i), (4, .c (.bx 4 0)), (9, .c (.ref 18))], [(4, .boxT (.s .net)), (18, .arr .B true)]⟩
def y1a (av : AV) (x : HP z04.ps) (n : Nat) (v : ze1.den) (K : Ks (CR z04)) : Option (CR z04) := z0j v.2.1 v.1.2.1 (fun l1_1 => z9n.at none ((v.1.1, v.1.2.2.1, (), (), ()), (v.2.1, l1_1, ())) (K (.exit 2))) n v.1.2.2.2.2.2.1 v.2.2.1
def zb7 (av : AV) (x : HP z04.ps) : Hdl (CR z04) := hnd [] ze1 (y1a av x)
theorem y1r : LP z04 Try.f168 [1] zb7 := lp_ok (W := []) (H := [z8j]) (xs := [z9n]) z4d ⟨zy6, trivial⟩ rfl (fun av x v K => by kernel_rfl) (fun av x n v K => by kernel_rfl)
def ze2 : Tmpl := ⟨[(1, .c (.s .I)), (3, .c .i), (4, .c (.bx 4 0)), (14, .c (.ref 76)), (15, .c .i)], [(4, .boxT (.s .net)), (76, .arr .B true)]⟩
def z9o : Tmpl := ⟨[], []⟩
def y1b (av : AV) (x : HP z04.ps) (n : Nat) (v : ze2.den) (K : Ks (CR z04)) : Option (CR z04) := z14 v.2.1 v.1.1 v.1.2.1 v.2.2.1 (z9o.at none ((), ()) (K (.exit 6))) n v.1.2.2.2.2.1
def zb8 (av : AV) (x : HP z04.ps) : Hdl (CR z04) := hnd [] ze2 (y1b av x)
theorem y1s : LP z04 Try.f168 [2] zb8 := lp_ok (W := []) (H := []) (xs := [z9o]) z4d trivial rfl (fun av x v K => by kernel_rfl) (fun av x n v K => by kernel_rfl)
theorem y5x : z04.Ok Try.prog := fn_ok (k := z04) (fn := Try.f168) (W := []) (H := [zb6, zb7, zb8]) Try.func168 z4d ⟨y1q, y1r, y1s, trivial⟩ rfl rfl (fun av x => by kernel_rfl)
def z9b (n : GNet) (marks : List Int) (busy : List GItem) (t : Int) : Option Bool := (getI n.tasks t).bind fun x1 => ((z8c marks x1.in_).bind fun x2 => ((getI n.tasks t).bind fun x3 => (if decide (x3.join = 1) = true then (some x2.2) else (if decide (x3.join = 2) = true then (some x2.1) else (if x2.1 = true then (if x2.2 = true then (some true) else ((z6c n marks busy t).bind fun x8 => (some (!x8)))) else (some false))))))
def zo1 : Con := ⟨152, [.v (.s .net) false, .v (.sl .I) false, .v (.sl (.s .item)) false, .v .I false], [(.B, true)], [], fun x => z9b x.1 x.2.1 x.2.2.1 x.2.2.2.1⟩
def yj1 : Fs := ⟨[z2l, z04], [], []⟩
theorem yk1 : yj1.Ok Try.prog := (fsK yd5 (fsK y5x fs0))
theorem ym2 : zo1.Ok Try.prog := fn_ok (k := zo1) (fn := Try.f152) (W := []) (H := []) Try.func152 yk1 trivial rfl rfl (fun av x => by kernel_rfl)
def zj3  : Option Bool := some true
def z34 (n : GNet) (busy : List GItem) (kx0_0 : Option Bool) : Nat → Int → Option Bool
  | 0, _ => none
  | n0 + 1, s0_0 => if decide (s0_0 < (busy.length : Int)) = true then ((getI busy s0_0).bind fun x3 => (gd (ok64 ((n.tasks.length : Int) - 1)) ((z05 x3.task 0 ((n.tasks.length : Int) - 1)).bind fun x5 => (if x5 = true then ((getI busy s0_0).bind fun x7 => ((z05 x7.who 1 4).bind fun x8 => (if x8 = true then ((getI busy s0_0).bind fun x10 => ((getI busy s0_0).bind fun x11 => ((getI n.tasks x11.task).bind fun x12 => (gd (ok64 (x12.need - 1)) ((z05 x10.did 0 (x12.need - 1)).bind fun x14 => (if x14 = true then (gd (ok64 (s0_0 + 1)) ((z34 n busy kx0_0 n0) (s0_0 + 1))) else (some false))))))) else (some false)))) else (some false))))) else (kx0_0)
def z6b (n : GNet) (busy : List GItem) : Option Bool := if decide (6 < (busy.length : Int)) = true then (some false) else (z34 n busy zj3 FUEL 0)
def z22 : Con := ⟨54, [.v (.s .net) false, .v (.sl (.s .item)) false], [(.B, true)], [], fun x => z6b x.1 x.2.1⟩
def y9x : Fs := ⟨[z0n], [], []⟩
theorem y07 : y9x.Ok Try.prog := (fsK z0x fs0)
def zq9 : Tmpl := ⟨[(1, .c (.s (.s .item))), (2, .c (.bx 2 0)), (5, .c .i)], [(2, .boxT (.s .net))]⟩
def zl3 : Tmpl := ⟨[], []⟩
def y4m (av : AV) (x : HP z22.ps) (n : Nat) (v : zq9.den) (K : Ks (CR z22)) : Option (CR z22) := z34 v.2.1 v.1.1 (zl3.at none ((), ()) (K (.exit 0))) n v.1.2.2.1
def zn5 (av : AV) (x : HP z22.ps) : Hdl (CR z22) := hnd [] zq9 (y4m av x)
theorem y5m : LP z22 Try.f54 [0] zn5 := lp_ok (W := []) (H := []) (xs := [zl3]) y07 trivial rfl (fun av x v K => by kernel_rfl) (fun av x n v K => by kernel_rfl)
theorem y0n : z22.Ok Try.prog := fn_ok (k := z22) (fn := Try.f54) (W := []) (H := [zn5]) Try.func54 y07 ⟨y5m, trivial⟩ rfl rfl (fun av x => by kernel_rfl)
def z5x (n : GNet) (marks : List Int) (busy : List GItem) (t : Int) : Option Bool := (z4l n marks).bind fun x1 => (if x1 = true then ((z6b n busy).bind fun x3 => (if x3 = true then (gd (ok64 ((n.tasks.length : Int) - 1)) ((z05 t 0 ((n.tasks.length : Int) - 1)).bind fun x6 => (if x6 = true then ((z9b n marks busy t).bind fun x8 => (some x8)) else (some false)))) else (some false))) else (some false))
def z7z : Con := ⟨121, [.v (.s .net) false, .v (.sl .I) false, .v (.sl (.s .item)) false, .v .I false], [(.B, true)], [], fun x => z5x x.1 x.2.1 x.2.2.1 x.2.2.2.1⟩
def y9q : Fs := ⟨[z1j, z22, z0n, zo1], [], []⟩
theorem ya8 : y9q.Ok Try.prog := (fsK z9c (fsK y0n (fsK z0x (fsK ym2 fs0))))
theorem y0l : z7z.Ok Try.prog := fn_ok (k := z7z) (fn := Try.f121) (W := []) (H := []) Try.func121 ya8 trivial rfl rfl (fun av x => by kernel_rfl)
def z5y (l0_1 : List Int) : Option (List Int) := some l0_1
def z1g (n : GNet) (marks : List Int) (busy : List GItem) (kx0_0 : List Int → Option (List Int)) : Nat → Int → List Int → Option (List Int)
  | 0, _, _ => none
  | n0 + 1, s0_0, l0_1 => if decide (s0_0 < (n.tasks.length : Int)) = true then ((z5x n marks busy s0_0).bind fun x2 => (if x2 = true then (gd (l0_1.length + [s0_0].length ≤ SMALL) (gd (ok64 (s0_0 + 1)) ((z1g n marks busy kx0_0 n0) (s0_0 + 1) (l0_1 ++ [s0_0])))) else (gd (ok64 (s0_0 + 1)) ((z1g n marks busy kx0_0 n0) (s0_0 + 1) l0_1)))) else (kx0_0 l0_1)
def z2w (n : GNet) (marks : List Int) (busy : List GItem) : Option (List Int) := z1g n marks busy z5y FUEL 0 ([] : List Int)
def z17 : Con := ⟨76, [.v (.s .net) false, .v (.sl .I) false, .v (.sl (.s .item)) false], [((.sl .I), true)], [], fun x => z2w x.1 x.2.1 x.2.2.1⟩
def y4w : Fs := ⟨[z7z], [], []⟩
theorem zm6 : y4w.Ok Try.prog := (fsK y0l fs0)
def zd5 : Tmpl := ⟨[(1, .c (.s .I)), (2, .c (.s (.s .item))), (3, .c (.bx 3 0)), (7, .c (.ref 9)), (8, .c .i)], [(3, .boxT (.s .net)), (9, .arr .I true)]⟩
def z9h : Tmpl := ⟨[(7, .c (.ref 9))], [(9, .arr .I true)]⟩
def y14 (av : AV) (x : HP z17.ps) (n : Nat) (v : zd5.den) (K : Ks (CR z17)) : Option (CR z17) := z1g v.2.1 v.1.1 v.1.2.1 (fun l0_1 => z9h.at none (((), ()), (l0_1, ())) (K (.exit 0))) n v.1.2.2.2.2.1 v.2.2.1
def zb1 (av : AV) (x : HP z17.ps) : Hdl (CR z17) := hnd [] zd5 (y14 av x)
theorem y1l : LP z17 Try.f76 [0] zb1 := lp_ok (W := []) (H := []) (xs := [z9h]) zm6 trivial rfl (fun av x v K => by kernel_rfl) (fun av x n v K => by kernel_rfl)
theorem zp6 : z17.Ok Try.prog := fn_ok (k := z17) (fn := Try.f76) (W := []) (H := [zb1]) Try.func76 zm6 ⟨y1l, trivial⟩ rfl rfl (fun av x => by kernel_rfl)
def zc2 (l0_1 : List Int) (x10 : Int) (x13 : Int) : Option (List Int) := some (l0_1.set x10.toNat (x13 - 1))
def zc3 (l0_1 : List Int) : Option (List Int) := some l0_1
def z1n (n : GNet) (t : Int) (kx0_0 : List Int → Int → Int → Option (List Int)) (kx0_1 : List Int → Option (List Int)) : Nat → Int → List Int → Option (List Int)
  | 0, _, _ => none
  | n0 + 1, s0_0, l0_1 => (getI n.tasks t).bind fun x7 => (if decide (s0_0 < (x7.in_.length : Int)) = true then ((getI n.tasks t).bind fun x9 => ((getI x9.in_ s0_0).bind fun x10 => ((getI l0_1 x10).bind fun x11 => (if decide (0 < x11) = true then ((getI l0_1 x10).bind fun x13 => (gd (ok64 (x13 - 1)) ((getI l0_1 x10).bind fun x15 => ((getI n.tasks t).bind fun x16 => (if decide (x16.join = 2) = true then (kx0_0 l0_1 x10 x13) else (gd (ok64 (s0_0 + 1)) ((z1n n t kx0_0 kx0_1 n0) (s0_0 + 1) (l0_1.set x10.toNat (x13 - 1))))))))) else (gd (ok64 (s0_0 + 1)) ((z1n n t kx0_0 kx0_1 n0) (s0_0 + 1) l0_1)))))) else (kx0_1 l0_1))
def z6y (n : GNet) (marks : List Int) (t : Int) : Option (List Int) := (z4l n marks).bind fun x1 => (if x1 = true then (gd (ok64 ((n.tasks.length : Int) - 1)) ((z05 t 0 ((n.tasks.length : Int) - 1)).bind fun x4 => (if x4 = true then (gd (([] : List Int).length + marks.length ≤ SMALL) (z1n n t zc2 zc3 FUEL 0 (([] : List Int) ++ marks))) else (some ([] : List Int))))) else (some ([] : List Int)))
def z1w : Con := ⟨147, [.v (.s .net) false, .v (.sl .I) false, .v .I false], [((.sl .I), true)], [], fun x => z6y x.1 x.2.1 x.2.2.1⟩
def y7a : Fs := ⟨[z1j, z0n], [], []⟩
theorem zu5 : y7a.Ok Try.prog := (fsK z9c (fsK z0x fs0))
def zj8 : Tmpl := ⟨[(2, .c .i), (3, .c (.bx 3 0)), (7, .c (.ref 26)), (8, .c .i)], [(3, .boxT (.s .net)), (26, .arr .I true)]⟩
def z6v : Tmpl := ⟨[(7, .c (.ref 26))], [(26, .arr .I true)]⟩
def y2z (av : AV) (x : HP z1w.ps) (n : Nat) (v : zj8.den) (K : Ks (CR z1w)) : Option (CR z1w) := z1n v.2.1 v.1.1 (fun l0_1 x10 x13 => z6v.at none (((), ()), ((l0_1.set x10.toNat (x13 - 1)), ())) (K (.exit 0))) (fun l0_1 => z6v.at none (((), ()), (l0_1, ())) (K (.exit 0))) n v.1.2.2.2.1 v.2.2.1
def zh8 (av : AV) (x : HP z1w.ps) : Hdl (CR z1w) := hnd [] zj8 (y2z av x)
theorem y3m : LP z1w Try.f147 [0] zh8 := lp_ok (W := []) (H := []) (xs := [z6v]) zu5 trivial rfl (fun av x v K => by kernel_rfl) (fun av x n v K => by kernel_rfl)
theorem y8a : z1w.Ok Try.prog := fn_ok (k := z1w) (fn := Try.f147) (W := []) (H := [zh8]) Try.func147 zu5 ⟨y3m, trivial⟩ rfl rfl (fun av x => by kernel_rfl)
def z4i (who : Int) : Option Bool := (z0p who 1 4).bind fun x1 => (some x1)
def z5q : Con := ⟨52, [.v .I false], [(.B, true)], [], fun x => z4i x.1⟩
def y4u : Fs := ⟨[z2h], [], []⟩
theorem y58 : y4u.Ok Try.prog := (fsK z3b fs0)
theorem zp3 : z5q.Ok Try.prog := fn_ok (k := z5q) (fn := Try.f52) (W := []) (H := []) Try.func52 y58 trivial rfl rfl (fun av x => by kernel_rfl)
def z60 (l0_1 : List Int) (x8 : GFlow) : Option (List Int) := some (l0_1 ++ [x8.to])
def z61 (l0_1 : List Int) (x13 : GFlow) : Option (List Int) := some (l0_1 ++ [x13.to])
def z62 (l0_1 : List Int) (x18 : GFlow) : Option (List Int) := some (l0_1 ++ [x18.to])
def z8o (l0_1 : List Int) : Option (List Int) := some l0_1
def z0w (t : GTask) (data : List Int) (kx0_0 : List Int → GFlow → Option (List Int)) (kx0_1 : List Int → GFlow → Option (List Int)) (kx0_2 : List Int → GFlow → Option (List Int)) (kx0_3 : List Int → Option (List Int)) : Nat → Int → List Int → Option (List Int)
  | 0, _, _ => none
  | n0 + 1, s0_0, l0_1 => if decide (s0_0 < (t.out.length : Int)) = true then ((getI t.out s0_0).bind fun x2 => ((z5z x2.if_ data).bind fun x3 => (if x3 = true then (if decide (t.split = 3) = true then (gd (ok64 ((t.out.length : Int) - 1)) (if decide (s0_0 < ((t.out.length : Int) - 1)) = true then ((getI t.out s0_0).bind fun x8 => (gd (l0_1.length + [x8.to].length ≤ SMALL) (if decide (t.split = 2) = true then (kx0_0 l0_1 x8) else (gd (ok64 (s0_0 + 1)) ((z0w t data kx0_0 kx0_1 kx0_2 kx0_3 n0) (s0_0 + 1) (l0_1 ++ [x8.to])))))) else (if decide ((l0_1.length : Int) = 0) = true then ((getI t.out s0_0).bind fun x13 => (gd (l0_1.length + [x13.to].length ≤ SMALL) (if decide (t.split = 2) = true then (kx0_1 l0_1 x13) else (gd (ok64 (s0_0 + 1)) ((z0w t data kx0_0 kx0_1 kx0_2 kx0_3 n0) (s0_0 + 1) (l0_1 ++ [x13.to])))))) else (gd (ok64 (s0_0 + 1)) ((z0w t data kx0_0 kx0_1 kx0_2 kx0_3 n0) (s0_0 + 1) l0_1))))) else ((getI t.out s0_0).bind fun x18 => (gd (l0_1.length + [x18.to].length ≤ SMALL) (if decide (t.split = 2) = true then (kx0_2 l0_1 x18) else (gd (ok64 (s0_0 + 1)) ((z0w t data kx0_0 kx0_1 kx0_2 kx0_3 n0) (s0_0 + 1) (l0_1 ++ [x18.to]))))))) else (gd (ok64 (s0_0 + 1)) ((z0w t data kx0_0 kx0_1 kx0_2 kx0_3 n0) (s0_0 + 1) l0_1))))) else (kx0_3 l0_1)
def z97 (t : GTask) (data : List Int) : Option (List Int) := z0w t data z60 z61 z62 z8o FUEL 0 ([] : List Int)
def z37 : Con := ⟨113, [.v (.s .task) false, .v (.sl .I) false], [((.sl .I), true)], [], fun x => z97 x.1 x.2.1⟩
def yi9 : Fs := ⟨[z8m], [], []⟩
theorem y2d : yi9.Ok Try.prog := (fsK y5s fs0)
def zx4 : Tmpl := ⟨[(1, .c (.s .I)), (2, .c (.bx 2 0)), (5, .c (.ref 7)), (6, .c .i)], [(2, .boxT (.s .task)), (7, .arr .I true)]⟩
def z4o : Tmpl := ⟨[(5, .c (.ref 49))], [(49, .arr .I true)]⟩
def y6y (av : AV) (x : HP z37.ps) (n : Nat) (v : zx4.den) (K : Ks (CR z37)) : Option (CR z37) := z0w v.2.1 v.1.1 (fun l0_1 x8 => z4o.at none (((), ()), ((l0_1 ++ [x8.to]), ())) (K (.exit 0))) (fun l0_1 x13 => z4o.at none (((), ()), ((l0_1 ++ [x13.to]), ())) (K (.exit 0))) (fun l0_1 x18 => z4o.at none (((), ()), ((l0_1 ++ [x18.to]), ())) (K (.exit 0))) (fun l0_1 => z4o.at none (((), ()), (l0_1, ())) (K (.exit 0))) n v.1.2.2.2.1 v.2.2.1
def zv9 (av : AV) (x : HP z37.ps) : Hdl (CR z37) := hnd [] zx4 (y6y av x)
theorem y81 : LP z37 Try.f113 [0] zv9 := lp_ok (W := []) (H := []) (xs := [z4o]) y2d trivial rfl (fun av x v K => by kernel_rfl) (fun av x n v K => by kernel_rfl)
theorem ym1 : z37.Ok Try.prog := fn_ok (k := z37) (fn := Try.f113) (W := []) (H := [zv9]) Try.func113 y2d ⟨y81, trivial⟩ rfl rfl (fun av x => by kernel_rfl)
def z4u (l1_1 : List Int) : Option ((List Int) × Bool) := some (l1_1, true)
def z2t (x16 : (List Int)) (kx1_0 : List Int → Option ((List Int) × Bool)) : Nat → Int → List Int → Option ((List Int) × Bool)
  | 0, _, _ => none
  | n1 + 1, s1_0, l1_1 => if decide (s1_0 < (x16.length : Int)) = true then ((getI x16 s1_0).bind fun x18 => ((getI l1_1 x18).bind fun x19 => (if decide (x19 = 4) = true then (some (([] : List Int), false)) else ((getI x16 s1_0).bind fun x21 => ((getI x16 s1_0).bind fun x22 => ((getI l1_1 x22).bind fun x23 => (gd (ok64 (x23 + 1)) ((getI l1_1 x21).bind fun x25 => (gd (ok64 (s1_0 + 1)) ((z2t x16 kx1_0 n1) (s1_0 + 1) (l1_1.set x21.toNat (x23 + 1)))))))))))) else (kx1_0 l1_1)
def z4t (n : GNet) (t : Int) (data : List Int) (l0_1 : List Int) : Option ((List Int) × Bool) := (getI n.tasks t).bind fun x15 => ((z97 x15 data).bind fun x16 => (z2t x16 z4u FUEL 0 l0_1))
def z2s (n : GNet) (t : Int) (kx0_0 : List Int → Option ((List Int) × Bool)) : Nat → Int → List Int → Option ((List Int) × Bool)
  | 0, _, _ => none
  | n0 + 1, s0_0, l0_1 => (getI n.tasks t).bind fun x9 => (if decide (s0_0 < (x9.clear.length : Int)) = true then ((getI n.tasks t).bind fun x11 => ((getI x11.clear s0_0).bind fun x12 => ((getI l0_1 x12).bind fun x13 => (gd (ok64 (s0_0 + 1)) ((z2s n t kx0_0 n0) (s0_0 + 1) (l0_1.set x12.toNat 0)))))) else (kx0_0 l0_1))
def z6z (n : GNet) (marks : List Int) (t : Int) (data : List Int) : Option ((List Int) × Bool) := (z4l n marks).bind fun x1 => (if x1 = true then (gd (ok64 ((n.tasks.length : Int) - 1)) ((z05 t 0 ((n.tasks.length : Int) - 1)).bind fun x4 => (if x4 = true then ((z3v data).bind fun x6 => (if x6 = true then (gd (([] : List Int).length + marks.length ≤ SMALL) (z2s n t (z4t n t data) FUEL 0 (([] : List Int) ++ marks))) else (some (([] : List Int), false)))) else (some (([] : List Int), false))))) else (some (([] : List Int), false)))
def z0f : Con := ⟨71, [.v (.s .net) false, .v (.sl .I) false, .v .I false, .v (.sl .I) false], [((.sl .I), true), (.B, true)], [], fun x => z6z x.1 x.2.1 x.2.2.1 x.2.2.2.1⟩
def y7b : Fs := ⟨[z1j, z0n, z1a, z37], [], []⟩
theorem z9q : y7b.Ok Try.prog := (fsK z9c (fsK z0x (fsK z7d (fsK ym1 fs0))))
def zj9 : Tmpl := ⟨[(2, .c .i), (3, .c (.s .I)), (4, .c (.bx 4 0)), (10, .c (.ref 35)), (11, .c .i)], [(4, .boxT (.s .net)), (35, .arr .I true)]⟩
def ze6 : Tmpl := ⟨[(2, .c .i), (3, .c (.s .I)), (4, .c (.bx 4 0)), (10, .c (.ref 35))], [(4, .boxT (.s .net)), (35, .arr .I true)]⟩
def y30 (av : AV) (x : HP z0f.ps) (n : Nat) (v : zj9.den) (K : Ks (CR z0f)) : Option (CR z0f) := z2s v.2.1 v.1.1 (fun l0_1 => ze6.at none ((v.1.1, v.1.2.1, (), (), ()), (v.2.1, l0_1, ())) (K (.exit 0))) n v.1.2.2.2.2.1 v.2.2.1
def zh9 (av : AV) (x : HP z0f.ps) : Hdl (CR z0f) := hnd [] zj9 (y30 av x)
theorem y3n : LP z0f Try.f71 [0] zh9 := lp_ok (W := []) (H := []) (xs := [ze6]) z9q trivial rfl (fun av x v K => by kernel_rfl) (fun av x n v K => by kernel_rfl)
def zk0 : Tmpl := ⟨[(10, .c (.ref 35)), (12, .c (.ref 64)), (13, .c .i)], [(35, .arr .I true), (64, .arr .I true)]⟩
def ze7 : Tmpl := ⟨[(10, .c (.ref 35))], [(35, .arr .I true)]⟩
def y31 (av : AV) (x : HP z0f.ps) (n : Nat) (v : zk0.den) (K : Ks (CR z0f)) : Option (CR z0f) := z2t v.2.2.1 (fun l1_1 => ze7.at none (((), ()), (l1_1, ())) (K (.exit 2))) n v.1.2.2.1 v.2.1
def zi0 (av : AV) (x : HP z0f.ps) : Hdl (CR z0f) := hnd [] zk0 (y31 av x)
theorem y3o : LP z0f Try.f71 [1] zi0 := lp_ok (W := []) (H := []) (xs := [ze7]) z9q trivial rfl (fun av x v K => by kernel_rfl) (fun av x n v K => by kernel_rfl)
theorem y8b : z0f.Ok Try.prog := fn_ok (k := z0f) (fn := Try.f71) (W := []) (H := [zh9, zi0]) Try.func71 z9q ⟨y3n, y3o, trivial⟩ rfl rfl (fun av x => by kernel_rfl)
def zp1  : Option Bool := some true
def z3r (people : List Int) (kx0_0 : Option Bool) : Nat → Int → Option Bool
  | 0, _ => none
  | n0 + 1, s0_0 => if decide (s0_0 < (people.length : Int)) = true then ((getI people s0_0).bind fun x4 => ((z05 x4 0 7).bind fun x5 => (if x5 = true then (gd (ok64 (s0_0 + 1)) ((z3r people kx0_0 n0) (s0_0 + 1))) else (some false)))) else (kx0_0)
def z7a (people : List Int) : Option Bool := (z05 (people.length : Int) 1 4).bind fun x1 => (if x1 = true then (z3r people zp1 FUEL 0) else (some false))
def z2o : Con := ⟨92, [.v (.sl .I) false], [(.B, true)], [], fun x => z7a x.1⟩
def yi8 : Fs := ⟨[z0n], [], []⟩
theorem y2c : yi8.Ok Try.prog := (fsK z0x fs0)
def zx3 : Tmpl := ⟨[(0, .c (.s .I)), (3, .c .i)], []⟩
def zr8 : Tmpl := ⟨[], []⟩
def y6x (av : AV) (x : HP z2o.ps) (n : Nat) (v : zx3.den) (K : Ks (CR z2o)) : Option (CR z2o) := z3r v.1.1 (zr8.at none ((), ()) (K (.exit 0))) n v.1.2.1
def zv8 (av : AV) (x : HP z2o.ps) : Hdl (CR z2o) := hnd [] zx3 (y6x av x)
theorem y80 : LP z2o Try.f92 [0] zv8 := lp_ok (W := []) (H := []) (xs := [zr8]) y2c trivial rfl (fun av x v K => by kernel_rfl) (fun av x n v K => by kernel_rfl)
theorem y2p : z2o.Ok Try.prog := fn_ok (k := z2o) (fn := Try.f92) (W := []) (H := [zv8]) Try.func92 y2c ⟨y80, trivial⟩ rfl rfl (fun av x => by kernel_rfl)
def z32 (s0_0 : Int) : Option Bool := gd ((2 : Int) ≠ 0) (some (decide ((Int.tmod s0_0 2) = 1)))
def z18 (role : Int) (kx0_0 : Int → Option Bool) : Nat → Int → Int → Option Bool
  | 0, _, _ => none
  | n0 + 1, s0_0, s0_1 => if decide (s0_1 < role) = true then (gd ((2 : Int) ≠ 0 ∧ ok64 (Int.tdiv s0_0 2)) (gd (ok64 (s0_1 + 1)) ((z18 role kx0_0 n0) (Int.tdiv s0_0 2) (s0_1 + 1)))) else (kx0_0 s0_0)
def z89 (people : List Int) (who : Int) (role : Int) : Option Bool := (z7a people).bind fun x1 => (if x1 = true then ((z05 who 1 (people.length : Int)).bind fun x3 => (if x3 = true then ((z05 role 1 3).bind fun x5 => (if x5 = true then (gd (ok64 (who - 1)) ((getI people (who - 1)).bind fun x8 => (z18 role z32 FUEL x8 1))) else (some false))) else (some false))) else (some false))
def z2k : Con := ⟨122, [.v (.sl .I) false, .v .I false, .v .I false], [(.B, true)], [], fun x => z89 x.1 x.2.1 x.2.2.1⟩
def y9s : Fs := ⟨[z2o, z0n], [], []⟩
theorem y06 : y9s.Ok Try.prog := (fsK y2p (fsK z0x fs0))
def zq7 : Tmpl := ⟨[(2, .c .i), (7, .c .i), (8, .c .i)], []⟩
def zl1 : Tmpl := ⟨[(7, .c .i)], []⟩
def y4k (av : AV) (x : HP z2k.ps) (n : Nat) (v : zq7.den) (K : Ks (CR z2k)) : Option (CR z2k) := z18 v.1.1 (fun s0_0 => zl1.at none ((s0_0, ()), ()) (K (.exit 0))) n v.1.2.1 v.1.2.2.1
def zn3 (av : AV) (x : HP z2k.ps) : Hdl (CR z2k) := hnd [] zq7 (y4k av x)
theorem y5k : LP z2k Try.f122 [0] zn3 := lp_ok (W := []) (H := []) (xs := [zl1]) y06 trivial rfl (fun av x v K => by kernel_rfl) (fun av x n v K => by kernel_rfl)
theorem yd2 : z2k.Ok Try.prog := fn_ok (k := z2k) (fn := Try.f122) (W := []) (H := [zn3]) Try.func122 y06 ⟨y5k, trivial⟩ rfl rfl (fun av x => by kernel_rfl)
def zj1  : Option Bool := some false
def z2g (did : List GDid) (who : Int) (task : Int) (kx0_0 : Option Bool) : Nat → Int → Option Bool
  | 0, _ => none
  | n0 + 1, s0_0 => if decide (s0_0 < (did.length : Int)) = true then ((getI did s0_0).bind fun x2 => (if decide (x2.who = who) = true then ((getI did s0_0).bind fun x4 => (if decide (x4.task = task) = true then (some true) else (gd (ok64 (s0_0 + 1)) ((z2g did who task kx0_0 n0) (s0_0 + 1))))) else (gd (ok64 (s0_0 + 1)) ((z2g did who task kx0_0 n0) (s0_0 + 1))))) else (kx0_0)
def z88 (did : List GDid) (who : Int) (task : Int) : Option Bool := z2g did who task zj1 FUEL 0
def z2j : Con := ⟨123, [.v (.sl (.s .did)) false, .v .I false, .v .I false], [(.B, true)], [], fun x => z88 x.1 x.2.1 x.2.2.1⟩
def y9r : Fs := ⟨[], [], []⟩
theorem y05 : y9r.Ok Try.prog := fs0
def zq6 : Tmpl := ⟨[(0, .c (.s (.s .did))), (1, .c .i), (2, .c .i), (7, .c .i)], []⟩
def zl0 : Tmpl := ⟨[], []⟩
def y4j (av : AV) (x : HP z2j.ps) (n : Nat) (v : zq6.den) (K : Ks (CR z2j)) : Option (CR z2j) := z2g v.1.1 v.1.2.1 v.1.2.2.1 (zl0.at none ((), ()) (K (.exit 0))) n v.1.2.2.2.1
def zn2 (av : AV) (x : HP z2j.ps) : Hdl (CR z2j) := hnd [] zq6 (y4j av x)
theorem y5j : LP z2j Try.f123 [0] zn2 := lp_ok (W := []) (H := []) (xs := [zl0]) y05 trivial rfl (fun av x v K => by kernel_rfl) (fun av x n v K => by kernel_rfl)
theorem yd1 : z2j.Ok Try.prog := fn_ok (k := z2j) (fn := Try.f123) (W := []) (H := [zn2]) Try.func123 y05 ⟨y5j, trivial⟩ rfl rfl (fun av x => by kernel_rfl)
def zj2 (n : GNet) (people : List Int) (did : List GDid) (t : Int) (s0_0 : Int) (l0_1 : List Int) (bk0 : Int → List Int → Option (List Int)) (s1_0 : Bool) : Option (List Int) := (getI n.tasks t).bind fun x18 => ((z89 people s0_0 x18.role).bind fun x19 => (if x19 = true then (if s1_0 = true then (gd (ok64 (s0_0 + 1)) (bk0 (s0_0 + 1) l0_1)) else ((getI n.tasks t).bind fun x23 => ((z88 did s0_0 x23.apart).bind fun x24 => (if x24 = true then (gd (ok64 (s0_0 + 1)) (bk0 (s0_0 + 1) l0_1)) else (gd (l0_1.length + [s0_0].length ≤ SMALL) (gd (ok64 (s0_0 + 1)) (bk0 (s0_0 + 1) (l0_1 ++ [s0_0])))))))) else (gd (ok64 (s0_0 + 1)) (bk0 (s0_0 + 1) l0_1))))
def z19 (n : GNet) (busy : List GItem) (t : Int) (s0_0 : Int) (kx1_0 : Bool → Option (List Int)) : Nat → Bool → Int → Option (List Int)
  | 0, _, _ => none
  | n1 + 1, s1_0, s1_1 => if decide (s1_1 < (busy.length : Int)) = true then (if s1_0 = true then (gd (ok64 (s1_1 + 1)) ((z19 n busy t s0_0 kx1_0 n1) true (s1_1 + 1))) else ((getI busy s1_1).bind fun x12 => (if decide (x12.who = s0_0) = true then ((getI busy s1_1).bind fun x14 => ((getI n.tasks t).bind fun x15 => (gd (ok64 (s1_1 + 1)) ((z19 n busy t s0_0 kx1_0 n1) (decide (x14.task = x15.apart)) (s1_1 + 1))))) else (gd (ok64 (s1_1 + 1)) ((z19 n busy t s0_0 kx1_0 n1) false (s1_1 + 1)))))) else (kx1_0 s1_0)
def z7k (l0_1 : List Int) : Option (List Int) := some l0_1
def z33 (n : GNet) (people : List Int) (did : List GDid) (busy : List GItem) (t : Int) (kx0_0 : List Int → Option (List Int)) : Nat → Int → List Int → Option (List Int)
  | 0, _, _ => none
  | n0 + 1, s0_0, l0_1 => if decide (s0_0 ≤ (people.length : Int)) = true then (z19 n busy t s0_0 (zj2 n people did t s0_0 l0_1 (z33 n people did busy t kx0_0 n0)) FUEL false 0) else (kx0_0 l0_1)
def z39 (n : GNet) (people : List Int) (did : List GDid) (busy : List GItem) (t : Int) : Option (List Int) := (z28 n).bind fun x1 => (if x1 = true then ((z7a people).bind fun x3 => (if x3 = true then (gd (ok64 ((n.tasks.length : Int) - 1)) ((z05 t 0 ((n.tasks.length : Int) - 1)).bind fun x6 => (if x6 = true then (z33 n people did busy t z7k FUEL 1 ([] : List Int)) else (some ([] : List Int))))) else (some ([] : List Int)))) else (some ([] : List Int)))
def z0e : Con := ⟨77, [.v (.s .net) false, .v (.sl .I) false, .v (.sl (.s .did)) false, .v (.sl (.s .item)) false, .v .I false], [((.sl .I), true)], [], fun x => z39 x.1 x.2.1 x.2.2.1 x.2.2.2.1 x.2.2.2.2.1⟩
def y9t : Fs := ⟨[z1k, z2o, z0n, z2k, z2j], [], []⟩
theorem zf6 : y9t.Ok Try.prog := (fsK z9d (fsK y2p (fsK z0x (fsK yd2 (fsK yd1 fs0)))))
def zd6 : Tmpl := ⟨[(1, .c (.s .I)), (2, .c (.s (.s .did))), (3, .c (.s (.s .item))), (4, .c .i), (5, .c (.bx 5 0)), (11, .c (.ref 15)), (12, .c .i), (13, .c .b), (14, .c .i)], [(5, .boxT (.s .net)), (15, .arr .I true)]⟩
def z9i : Tmpl := ⟨[(1, .c (.s .I)), (2, .c (.s (.s .did))), (3, .c (.s (.s .item))), (4, .c .i), (5, .c (.bx 5 0)), (11, .c (.ref 15)), (12, .c .i), (13, .c .b)], [(5, .boxT (.s .net)), (15, .arr .I true)]⟩
def y15 (av : AV) (x : HP z0e.ps) (n : Nat) (v : zd6.den) (K : Ks (CR z0e)) : Option (CR z0e) := z19 v.2.1 v.1.2.2.1 v.1.2.2.2.1 v.1.2.2.2.2.2.2.1 (fun s1_0 => z9i.at none ((v.1.1, v.1.2.1, v.1.2.2.1, v.1.2.2.2.1, (), (), v.1.2.2.2.2.2.2.1, s1_0, ()), (v.2.1, v.2.2.1, ())) (K (.exit 2))) n v.1.2.2.2.2.2.2.2.1 v.1.2.2.2.2.2.2.2.2.1
def zb2 (av : AV) (x : HP z0e.ps) : Hdl (CR z0e) := hnd [] zd6 (y15 av x)
theorem y1m : LP z0e Try.f77 [0, 0] zb2 := lp_ok (W := []) (H := []) (xs := [z9i]) zf6 trivial rfl (fun av x v K => by kernel_rfl) (fun av x n v K => by kernel_rfl)
def zq8 : Tmpl := ⟨[(1, .c (.s .I)), (2, .c (.s (.s .did))), (3, .c (.s (.s .item))), (4, .c .i), (5, .c (.bx 5 0)), (11, .c (.ref 15)), (12, .c .i)], [(5, .boxT (.s .net)), (15, .arr .I true)]⟩
def zl2 : Tmpl := ⟨[(11, .c (.ref 15))], [(15, .arr .I true)]⟩
def y4l (av : AV) (x : HP z0e.ps) (n : Nat) (v : zq8.den) (K : Ks (CR z0e)) : Option (CR z0e) := z33 v.2.1 v.1.1 v.1.2.1 v.1.2.2.1 v.1.2.2.2.1 (fun l0_1 => zl2.at none (((), ()), (l0_1, ())) (K (.exit 0))) n v.1.2.2.2.2.2.2.1 v.2.2.1
def zn4 (av : AV) (x : HP z0e.ps) : Hdl (CR z0e) := hnd [] zq8 (y4l av x)
theorem y5l : LP z0e Try.f77 [0] zn4 := lp_ok (W := []) (H := [zb2]) (xs := [zl2]) zf6 ⟨y1m, trivial⟩ rfl (fun av x v K => by kernel_rfl) (fun av x n v K => by kernel_rfl)
theorem zg9 : z0e.Ok Try.prog := fn_ok (k := z0e) (fn := Try.f77) (W := []) (H := [zn4]) Try.func77 zf6 ⟨y5l, trivial⟩ rfl rfl (fun av x => by kernel_rfl)
def z86 (n : GNet) (data : List Int) : Option GCase := (z28 n).bind fun x1 => (if x1 = true then ((z3v data).bind fun x3 => (if x3 = true then (gd ((0 : Int) ≤ n.places ∧ n.places ≤ (1000000000 : Int)) (gd (([] : List Int).length + data.length ≤ SMALL) ((getI (List.replicate n.places.toNat (0 : Int)) 0).bind fun x7 => (some (GCase.mk 1 ((List.replicate n.places.toNat (0 : Int)).set (0 : Int).toNat 1) [] (([] : List Int) ++ data) []))))) else (some (GCase.mk 0 [] [] [] [])))) else (some (GCase.mk 0 [] [] [] [])))
def zg1 : Con := ⟨100, [.v (.s .net) false, .v (.sl .I) false], [((.s .kase), true)], [], fun x => z86 x.1 x.2.1⟩
def y9o : Fs := ⟨[z1k, z1a], [], []⟩
theorem ya6 : y9o.Ok Try.prog := (fsK z9d (fsK z7d fs0))
theorem yc9 : zg1.Ok Try.prog := fn_ok (k := zg1) (fn := Try.f100) (W := []) (H := []) Try.func100 ya6 trivial rfl rfl (fun av x => by kernel_rfl)
def z5w (c : GCase) : Option Bool := if decide (c.state = 1) = true then ((getI c.marks 1).bind fun x20 => (some (decide (x20 = 0)))) else (if decide ((c.busy.length : Int) = 0) = true then ((getI c.marks 1).bind fun x22 => (some ((decide (c.state = 2)) == (decide (0 < x22))))) else (some false))
def z3n (n : GNet) (c : GCase) (kx0_0 : Option Bool) : Nat → Int → Option Bool
  | 0, _ => none
  | n0 + 1, s0_0 => if decide (s0_0 < (c.did.length : Int)) = true then ((getI c.did s0_0).bind fun x11 => (gd (ok64 ((n.tasks.length : Int) - 1)) ((z05 x11.task 0 ((n.tasks.length : Int) - 1)).bind fun x13 => (if x13 = true then ((getI c.did s0_0).bind fun x15 => ((z05 x15.who 1 4).bind fun x16 => (if x16 = true then (gd (ok64 (s0_0 + 1)) ((z3n n c kx0_0 n0) (s0_0 + 1))) else (some false)))) else (some false))))) else (kx0_0)
def z5h (n : GNet) (c : GCase) : Option Bool := (z4l n c.marks).bind fun x1 => (if x1 = true then ((z6b n c.busy).bind fun x3 => (if x3 = true then ((z3v c.data).bind fun x5 => (if x5 = true then (if decide (60 < (c.did.length : Int)) = true then (some false) else ((z05 c.state 1 3).bind fun x8 => (if x8 = true then (z3n n c (z5w c) FUEL 0) else (some false)))) else (some false))) else (some false))) else (some false))
def z24 : Con := ⟨14, [.v (.s .net) false, .v (.s .kase) false], [(.B, true)], [], fun x => z5h x.1 x.2.1⟩
def yi3 : Fs := ⟨[z1j, z22, z1a, z0n], [], []⟩
theorem y28 : yi3.Ok Try.prog := (fsK z9c (fsK y0n (fsK z7d (fsK z0x fs0))))
def zw9 : Tmpl := ⟨[(2, .c (.bx 2 0)), (3, .c (.bx 3 0)), (5, .c .i)], [(2, .boxT (.s .net)), (3, .boxT (.s .kase))]⟩
def zr4 : Tmpl := ⟨[(3, .c (.bx 3 0))], [(3, .boxT (.s .kase))]⟩
def y6t (av : AV) (x : HP z24.ps) (n : Nat) (v : zw9.den) (K : Ks (CR z24)) : Option (CR z24) := z3n v.2.1 v.2.2.1 (zr4.at none (((), ()), (v.2.2.1, ())) (K (.exit 0))) n v.1.2.2.1
def zv4 (av : AV) (x : HP z24.ps) : Hdl (CR z24) := hnd [] zw9 (y6t av x)
theorem y7w : LP z24 Try.f14 [0] zv4 := lp_ok (W := []) (H := []) (xs := [zr4]) y28 trivial rfl (fun av x v K => by kernel_rfl) (fun av x n v K => by kernel_rfl)
theorem zp4 : z24.Ok Try.prog := fn_ok (k := z24) (fn := Try.f14) (W := []) (H := [zv4]) Try.func14 y28 ⟨y7w, trivial⟩ rfl rfl (fun av x => by kernel_rfl)
def z4x (c : GCase) : Option GCase := gd (([] : List Int).length + c.marks.length ≤ SMALL) (gd (([] : List GItem).length + c.busy.length ≤ SMALL) (gd (([] : List Int).length + c.data.length ≤ SMALL) (gd (([] : List GDid).length + c.did.length ≤ SMALL) (some (GCase.mk c.state (([] : List Int) ++ c.marks) (([] : List GItem) ++ c.busy) (([] : List Int) ++ c.data) (([] : List GDid) ++ c.did))))))
def z81 : Con := ⟨69, [.v (.s .kase) false], [((.s .kase), true)], [], fun x => z4x x.1⟩
def y9z : Fs := ⟨[], [], []⟩
theorem yb2 : y9z.Ok Try.prog := fs0
theorem y0o : z81.Ok Try.prog := fn_ok (k := z81) (fn := Try.f69) (W := []) (H := []) Try.func69 yb2 trivial rfl rfl (fun av x => by kernel_rfl)
def z2v (n : GNet) (people : List Int) (c : GCase) (t : Int) (who : Int) : Option (GCase × Bool) := (z4x c).bind fun x1 => ((z5h n c).bind fun x2 => (if x2 = true then (if decide (c.state = 1) = true then ((z5x n c.marks c.busy t).bind fun x5 => (if x5 = true then ((z39 n people c.did c.busy t).bind fun x7 => ((z5j x7 who).bind fun x8 => (if x8 = true then (if decide ((c.busy.length : Int) = 6) = true then (some (x1, false)) else ((z6y n c.marks t).bind fun x11 => (gd (x1.busy.length + [(GItem.mk t who 0)].length ≤ SMALL) (some ((GCase.mk x1.state x11 (x1.busy ++ [(GItem.mk t who 0)]) x1.data x1.did), true))))) else (some (x1, false))))) else (some (x1, false)))) else (some (x1, false))) else (some (x1, false))))
def z5r : Con := ⟨112, [.v (.s .net) false, .v (.sl .I) false, .v (.s .kase) false, .v .I false, .v .I false], [((.s .kase), true), (.B, true)], [], fun x => z2v x.1 x.2.1 x.2.2.1 x.2.2.2.1 x.2.2.2.2.1⟩
def y4v : Fs := ⟨[z81, z24, z7z, z0e, z25, z1w], [], []⟩
theorem y59 : y4v.Ok Try.prog := (fsK y0o (fsK zp4 (fsK y0l (fsK zg9 (fsK zp7 (fsK y8a fs0))))))
theorem zp5 : z5r.Ok Try.prog := fn_ok (k := z5r) (fn := Try.f112) (W := []) (H := []) Try.func112 y59 trivial rfl rfl (fun av x => by kernel_rfl)
def z46 (n : GNet) (c : GCase) (k : Int) (v : Int) (num : Int) : Option (GCase × Bool) := (z4x c).bind fun x1 => ((z5h n c).bind fun x2 => (if x2 = true then (if decide (c.state = 1) = true then (gd (ok64 ((c.busy.length : Int) - 1)) ((z05 k 0 ((c.busy.length : Int) - 1)).bind fun x6 => (if x6 = true then ((z05 v (-1) 2).bind fun x8 => (if x8 = true then ((z05 num (-99) 99).bind fun x10 => (if x10 = true then (if decide ((c.did.length : Int) = 60) = true then (some (x1, false)) else ((getI c.busy k).bind fun x13 => ((z87 c.data v num).bind fun x14 => (gd (ok64 (x13.did + 1)) ((getI x1.busy k).bind fun x16 => (gd (ok64 (x13.did + 1)) ((getI n.tasks x13.task).bind fun x18 => (if decide ((x13.did + 1) < x18.need) = true then (some ((GCase.mk x1.state x1.marks (x1.busy.set k.toNat (GItem.mk x16.task x16.who (x13.did + 1))) x14 x1.did), true)) else ((z6z n c.marks x13.task x14).bind fun x20 => (if x20.2 = true then (gd ((0 : Int) ≤ k ∧ k ≤ (c.busy.length : Int)) (gd (([] : List GItem).length + (c.busy.take k.toNat).length ≤ SMALL) (gd (ok64 (k + 1)) (gd ((0 : Int) ≤ (k + 1) ∧ (k + 1) ≤ (c.busy.length : Int)) (gd ((([] : List GItem) ++ (c.busy.take k.toNat)).length + (c.busy.drop (k + 1).toNat).length ≤ SMALL) (gd (x1.did.length + [(GDid.mk x13.task x13.who)].length ≤ SMALL) ((getI x20.1 1).bind fun x28 => (if decide (0 < x28) = true then (some ((GCase.mk 2 x20.1 ([] : List GItem) x14 (x1.did ++ [(GDid.mk x13.task x13.who)])), true)) else (some ((GCase.mk x1.state x20.1 ((([] : List GItem) ++ (c.busy.take k.toNat)) ++ (c.busy.drop (k + 1).toNat)) x14 (x1.did ++ [(GDid.mk x13.task x13.who)])), true)))))))))) else ((z4x c).bind fun x30 => (some (x30, false))))))))))))) else (some (x1, false)))) else (some (x1, false)))) else (some (x1, false))))) else (some (x1, false))) else (some (x1, false))))
def z52 : Con := ⟨25, [.v (.s .net) false, .v (.s .kase) false, .v .I false, .v .I false, .v .I false], [((.s .kase), true), (.B, true)], [], fun x => z46 x.1 x.2.1 x.2.2.1 x.2.2.2.1 x.2.2.2.2.1⟩
def y79 : Fs := ⟨[z81, z24, z0n, zg2, z0f], [], []⟩
theorem y7q : y79.Ok Try.prog := (fsK y0o (fsK zp4 (fsK z0x (fsK yd0 (fsK y8b fs0)))))
theorem za0 : z52.Ok Try.prog := fn_ok (k := z52) (fn := Try.f25) (W := []) (H := []) Try.func25 y7q trivial rfl rfl (fun av x => by kernel_rfl)
def z07 (c : GCase) : Option GCase := (z2f c.marks).bind fun x1 => (gd (([] : List GItem).length + c.busy.length ≤ SMALL) ((z2f c.data).bind fun x3 => (gd (([] : List GDid).length + c.did.length ≤ SMALL) (some (GCase.mk c.state x1 (([] : List GItem) ++ c.busy) x3 (([] : List GDid) ++ c.did))))))
def z50 : Con := ⟨57, [.v (.s .kase) false], [((.s .kase), true)], [], fun x => z07 x.1⟩
def zt3 : Fs := ⟨[z41], [], []⟩
theorem zt7 : zt3.Ok Try.prog := (fsK z7l fs0)
theorem zu0 : z50.Ok Try.prog := fn_ok (k := z50) (fn := Try.f57) (W := []) (H := []) Try.func57 zt7 trivial rfl rfl (fun av x => by kernel_rfl)
def zi8  : Option Int := some (-1)
def z2z (s : List Int) (p : Int → Option Bool) (p0_0 : Int) (kx0_0 : Option Int) : Nat → Int → Option Int
  | 0, _ => none
  | n0 + 1, s0_0 => if decide (s0_0 < p0_0) = true then ((getI s s0_0).bind fun x2 => ((p x2).bind fun x3 => (if x3 = true then (some s0_0) else (gd (ok64 (s0_0 + 1)) ((z2z s p p0_0 kx0_0 n0) (s0_0 + 1)))))) else (kx0_0)
def z82 (s : List Int) (p : Int → Option Bool) : Option Int := z2z s p (s.length : Int) zi8 FUEL 0
def z1t : Con := ⟨111, [.v (.sl .I) false, .fn .I], [(.I, true)], [], fun x => z82 x.1 x.2.1⟩
def y9h : Fs := ⟨[], [], []⟩
theorem y02 : y9h.Ok Try.prog := fs0
def zq3 : Tmpl := ⟨[(0, .c (.s .I)), (1, .c .fp), (7, .c .i), (8, .c .i)], []⟩
def zk7 : Tmpl := ⟨[], []⟩
def y4g (av : AV) (x : HP z1t.ps) (n : Nat) (v : zq3.den) (K : Ks (CR z1t)) : Option (CR z1t) := z2z v.1.1 x.2.1 v.1.2.2.1 (zk7.at (fpOf z1t.ps x av) ((), ()) (K (.exit 0))) n v.1.2.2.2.1
def zm9 (av : AV) (x : HP z1t.ps) : Hdl (CR z1t) := hnd [] zq3 (y4g av x)
theorem y5g : LP z1t Try.f111 [0] zm9 := lp_ok (W := []) (H := []) (xs := [zk7]) y02 trivial rfl (fun av x v K => by kernel_rfl) (fun av x n v K => by kernel_rfl)
theorem yc3 : z1t.Ok Try.prog := fn_ok (k := z1t) (fn := Try.f111) (W := []) (H := [zm9]) Try.func111 y02 ⟨y5g, trivial⟩ rfl rfl (fun av x => by kernel_rfl)
def z42 (s : List Int) (p : Int → Option Bool) : Option Bool := (z82 s p).bind fun x1 => (some (decide (0 ≤ x1)))
def z59 : Con := ⟨62, [.v (.sl .I) false, .fn .I], [(.B, true)], [], fun x => z42 x.1 x.2.1⟩
def y39 : Fs := ⟨[z1t], [], []⟩
theorem y3e : y39.Ok Try.prog := (fsK yc3 fs0)
theorem zj4 : z59.Ok Try.prog := fn_ok (k := z59) (fn := Try.f62) (W := []) (H := []) Try.func62 y3e trivial rfl rfl (fun av x => by kernel_rfl)
def z7q  : Option Int := some (-1)
def z1i (s : List GTask) (p : GTask → Option Bool) (p0_0 : Int) (kx0_0 : Option Int) : Nat → Int → Option Int
  | 0, _ => none
  | n0 + 1, s0_0 => if decide (s0_0 < p0_0) = true then ((getI s s0_0).bind fun x2 => ((p x2).bind fun x3 => (if x3 = true then (some s0_0) else (gd (ok64 (s0_0 + 1)) ((z1i s p p0_0 kx0_0 n0) (s0_0 + 1)))))) else (kx0_0)
def z4p (s : List GTask) (p : GTask → Option Bool) : Option Int := z1i s p (s.length : Int) z7q FUEL 0
def z0q : Con := ⟨141, [.v (.sl (.s .task)) false, .fn (.s .task)], [(.I, true)], [], fun x => z4p x.1 x.2.1⟩
def y1d : Fs := ⟨[], [], []⟩
theorem zb0 : y1d.Ok Try.prog := fs0
def z8r : Tmpl := ⟨[(0, .c (.s (.s .task))), (1, .c .fp), (7, .c .i), (8, .c .i)], []⟩
def z7t : Tmpl := ⟨[], []⟩
def zx6 (av : AV) (x : HP z0q.ps) (n : Nat) (v : z8r.den) (K : Ks (CR z0q)) : Option (CR z0q) := z1i v.1.1 x.2.1 v.1.2.2.1 (z7t.at (fpOf z0q.ps x av) ((), ()) (K (.exit 0))) n v.1.2.2.2.1
def z8h (av : AV) (x : HP z0q.ps) : Hdl (CR z0q) := hnd [] z8r (zx6 av x)
theorem zy4 : LP z0q Try.f141 [0] z8h := lp_ok (W := []) (H := []) (xs := [z7t]) zb0 trivial rfl (fun av x v K => by kernel_rfl) (fun av x n v K => by kernel_rfl)
theorem y1u : z0q.Ok Try.prog := fn_ok (k := z0q) (fn := Try.f141) (W := []) (H := [z8h]) Try.func141 zb0 ⟨zy4, trivial⟩ rfl rfl (fun av x => by kernel_rfl)
def z3h (s : List GTask) (p : GTask → Option Bool) : Option Bool := (z4p s p).bind fun x1 => (some (decide (0 ≤ x1)))
def z4z : Con := ⟨107, [.v (.sl (.s .task)) false, .fn (.s .task)], [(.B, true)], [], fun x => z3h x.1 x.2.1⟩
def zt2 : Fs := ⟨[z0q], [], []⟩
theorem zt6 : zt2.Ok Try.prog := (fsK y1u fs0)
theorem zt9 : z4z.Ok Try.prog := fn_ok (k := z4z) (fn := Try.f107) (W := []) (H := []) Try.func107 zt6 trivial rfl rfl (fun av x => by kernel_rfl)
def y2j  : Option Int := some (-1)
def z5f (s : List Int) (v : Int) (p0_0 : Int) (kx0_0 : Option Int) : Nat → Int → Option Int
  | 0, _ => none
  | n0 + 1, s0_0 => if decide (s0_0 < p0_0) = true then ((getI s s0_0).bind fun x2 => (if decide (v = x2) = true then (some s0_0) else (gd (ok64 (s0_0 + 1)) ((z5f s v p0_0 kx0_0 n0) (s0_0 + 1))))) else (kx0_0)
def y0h (s : List Int) (v : Int) : Option Int := z5f s v (s.length : Int) y2j FUEL 0
def z5p : Con := ⟨124, [.v (.sl .I) false, .v .I false], [(.I, true)], [], fun x => y0h x.1 x.2.1⟩
def w14 : Fs := ⟨[], [], []⟩
theorem yj5 : w14.Ok Try.prog := fs0
def y6k : Tmpl := ⟨[(0, .c (.s .I)), (1, .c .i), (7, .c .i), (8, .c .i)], []⟩
def y2v : Tmpl := ⟨[], []⟩
def yp8 (av : AV) (x : HP z5p.ps) (n : Nat) (v : y6k.den) (K : Ks (CR z5p)) : Option (CR z5p) := z5f v.1.1 v.1.2.1 v.1.2.2.1 (y2v.at none ((), ()) (K (.exit 0))) n v.1.2.2.2.1
def y5d (av : AV) (x : HP z5p.ps) : Hdl (CR z5p) := hnd [] y6k (yp8 av x)
theorem yr4 : LP z5p Try.f124 [0] y5d := lp_ok (W := []) (H := []) (xs := [y2v]) yj5 trivial rfl (fun av x v K => by kernel_rfl) (fun av x n v K => by kernel_rfl)
theorem w25 : z5p.Ok Try.prog := fn_ok (k := z5p) (fn := Try.f124) (W := []) (H := [y5d]) Try.func124 yj5 ⟨yr4, trivial⟩ rfl rfl (fun av x => by kernel_rfl)
def z94 (s : List Int) (v : Int) : Option Bool := (y0h s v).bind fun x1 => (some (decide (0 ≤ x1)))
def zn9 : Con := ⟨79, [.v (.sl .I) false, .v .I false], [(.B, true)], [], fun x => z94 x.1 x.2.1⟩
def yh5 : Fs := ⟨[z5p], [], []⟩
theorem yj4 : yh5.Ok Try.prog := (fsK w25 fs0)
theorem yl8 : zn9.Ok Try.prog := fn_ok (k := zn9) (fn := Try.f79) (W := []) (H := []) Try.func79 yj4 trivial rfl rfl (fun av x => by kernel_rfl)
def z9x (n : Int) : Option Bool := (z3g n).bind fun x1 => (some (!x1))
def za1 : FCon := ⟨63, .I, [], fun z c => z9x z ⟩
def y72 : Fs := ⟨[z45], [], []⟩
theorem y7l : y72.Ok Try.prog := (fsK z75 fs0)
theorem y85 : za1.Ok Try.prog := FCon.ok (fn_ok (k := za1.con) (fn := Try.f63) (W := []) (H := []) Try.func63 y7l trivial rfl rfl (fun av x => by kernel_rfl))
def z3u (data : List Int) : Option Bool := if decide ((data.length : Int) = 3) = true then ((z42 data (fun z => z9x z )).bind fun x2 => (some (!x2))) else (some false)
def z4f : Con := ⟨19, [.v (.sl .I) false], [(.B, true)], [], fun x => z3u x.1⟩
def yh7 : Fs := ⟨[z59], [za1], []⟩
theorem yj6 : yh7.Ok Try.prog := (fsK zj4 (fsF y85 fs0))
theorem z7b : z4f.Ok Try.prog := fn_ok (k := z4f) (fn := Try.f19) (W := []) (H := []) Try.func19 yj6 trivial rfl rfl (fun av x => by kernel_rfl)
def z5t (e : GAsk) (data : List Int) : Option Bool := (z5g e).bind fun x1 => (if x1 = true then ((z3u data).bind fun x3 => (if x3 = true then (if decide (e.op = 1) = true then ((getI data e.var).bind fun x6 => (some (decide (x6 < e.k)))) else (if decide (e.op = 2) = true then ((getI data e.var).bind fun x8 => (some (decide (x8 = e.k)))) else (if decide (e.op = 3) = true then ((getI data e.var).bind fun x10 => (some (decide (e.k < x10)))) else (some true)))) else (some false))) else (some false))
def z8k : Con := ⟨73, [.v (.s .ask) false, .v (.sl .I) false], [(.B, true)], [], fun x => z5t x.1 x.2.1⟩
def y4t : Fs := ⟨[z91, z4f], [], []⟩
theorem y57 : y4t.Ok Try.prog := (fsK y2l (fsK z7b fs0))
theorem y5q : z8k.Ok Try.prog := fn_ok (k := z8k) (fn := Try.f73) (W := []) (H := []) Try.func73 y57 trivial rfl rfl (fun av x => by kernel_rfl)
def z83 (data : List Int) (k : Int) (n : Int) : Option (List Int) := (z2f data).bind fun x1 => ((z3u data).bind fun x2 => (if x2 = true then ((z0p k 0 2).bind fun x4 => (if x4 = true then ((z3g n).bind fun x6 => (if x6 = true then ((getI x1 k).bind fun x8 => (some (x1.set k.toNat n))) else (some x1))) else (some x1))) else (some x1)))
def zf7 : Con := ⟨26, [.v (.sl .I) false, .v .I false, .v .I false], [((.sl .I), true)], [], fun x => z83 x.1 x.2.1 x.2.2.1⟩
def y9i : Fs := ⟨[z41, z4f, z2h, z45], [], []⟩
theorem ya2 : y9i.Ok Try.prog := (fsK z7l (fsK z7b (fsK z3b (fsK z75 fs0))))
theorem yc4 : zf7.Ok Try.prog := fn_ok (k := zf7) (fn := Try.f26) (W := []) (H := []) Try.func26 ya2 trivial rfl rfl (fun av x => by kernel_rfl)
def zc1  : Option Bool := some true
def z2r (list : List Int) (places : Int) (without : List Int) (p0_0 : Int) (kx0_0 : Option Bool) : Nat → Int → Int → Option Bool
  | 0, _, _ => none
  | n0 + 1, s0_0, s0_1 => if decide (s0_0 < p0_0) = true then ((getI list s0_0).bind fun x2 => (gd (ok64 (s0_1 + 1)) (gd (ok64 (places - 1)) ((z0p x2 (s0_1 + 1) (places - 1)).bind fun x5 => (if x5 = true then ((z94 without x2).bind fun x7 => (if x7 = true then (some false) else (gd (ok64 (s0_0 + 1)) ((z2r list places without p0_0 kx0_0 n0) (s0_0 + 1) x2)))) else (some false)))))) else (kx0_0)
def z53 (list : List Int) (places : Int) (without : List Int) : Option Bool := z2r list places without (list.length : Int) zc1 FUEL 0 (-1)
def z1u : Con := ⟨143, [.v (.sl .I) false, .v .I false, .v (.sl .I) false], [(.B, true)], [], fun x => z53 x.1 x.2.1 x.2.2.1⟩
def y75 : Fs := ⟨[z2h, zn9], [], []⟩
theorem zu4 : y75.Ok Try.prog := (fsK z3b (fsK yl8 fs0))
def zj7 : Tmpl := ⟨[(1, .c .i), (2, .c (.s .I)), (7, .c .i), (10, .c (.s .I)), (11, .c .i), (12, .c .i)], []⟩
def ze5 : Tmpl := ⟨[], []⟩
def y2y (av : AV) (x : HP z1u.ps) (n : Nat) (v : zj7.den) (K : Ks (CR z1u)) : Option (CR z1u) := z2r v.1.2.2.2.1 v.1.1 v.1.2.1 v.1.2.2.2.2.1 (ze5.at none ((), ()) (K (.exit 0))) n v.1.2.2.2.2.2.1 v.1.2.2.1
def zh7 (av : AV) (x : HP z1u.ps) : Hdl (CR z1u) := hnd [] zj7 (y2y av x)
theorem y3l : LP z1u Try.f143 [0] zh7 := lp_ok (W := []) (H := []) (xs := [ze5]) zu4 trivial rfl (fun av x v K => by kernel_rfl) (fun av x n v K => by kernel_rfl)
theorem y87 : z1u.Ok Try.prog := fn_ok (k := z1u) (fn := Try.f143) (W := []) (H := [zh7]) Try.func143 zu4 ⟨y3l, trivial⟩ rfl rfl (fun av x => by kernel_rfl)
def z3x (t : GTask) : Option Bool := (z0p (t.out.length : Int) 1 3).bind fun x21 => (some x21)
def z0o (t : GTask) (places : Int) (p0_0 : List GFlow) (p0_1 : Int) (kx0_0 : Option Bool) : Nat → Int → List Int → Option Bool
  | 0, _, _ => none
  | n0 + 1, s0_0, m0_1 => if decide (s0_0 < p0_1) = true then ((getI p0_0 s0_0).bind fun x2 => (if decide (t.split = 1) = true then (gd (ok64 (places - 1)) ((z0p x2.to 0 (places - 1)).bind fun x5 => (if x5 = true then (if decide (x2.to ∈ m0_1) = true then (some false) else ((z5g x2.if_).bind fun x8 => (if x8 = true then (if ((decide (x2.if_.op = 0)) == true) = true then (gd (ok64 (s0_0 + 1)) ((z0o t places p0_0 p0_1 kx0_0 n0) (s0_0 + 1) (insKey m0_1 x2.to))) else (some false)) else (some false)))) else (some false)))) else (gd (ok64 ((t.out.length : Int) - 1)) (gd (ok64 (places - 1)) ((z0p x2.to 0 (places - 1)).bind fun x14 => (if x14 = true then (if decide (x2.to ∈ m0_1) = true then (some false) else ((z5g x2.if_).bind fun x17 => (if x17 = true then (if ((decide (x2.if_.op = 0)) == (decide (s0_0 = ((t.out.length : Int) - 1)))) = true then (gd (ok64 (s0_0 + 1)) ((z0o t places p0_0 p0_1 kx0_0 n0) (s0_0 + 1) (insKey m0_1 x2.to))) else (some false)) else (some false)))) else (some false))))))) else (kx0_0)
def z3j (t : GTask) (places : Int) : Option Bool := z0o t places t.out (t.out.length : Int) (z3x t) FUEL 0 (insKey ([] : List Int) 0)
def z0i : Con := ⟨144, [.v (.s .task) false, .v .I false], [(.B, true)], [], fun x => z3j x.1 x.2.1⟩
def zt5 : Fs := ⟨[z2h, z91], [], []⟩
theorem z7o : zt5.Ok Try.prog := (fsK z3b (fsK y2l fs0))
def z6o : Tmpl := ⟨[(1, .c .i), (2, .c (.bx 2 0)), (5, .c (.bx 9 0)), (12, .c (.s (.s .flow))), (13, .c .i), (14, .c .i)], [(2, .boxT (.s .task)), (9, .mp)]⟩
def z6j : Tmpl := ⟨[(2, .c (.bx 2 0))], [(2, .boxT (.s .task))]⟩
def zl6 (av : AV) (x : HP z0i.ps) (n : Nat) (v : z6o.den) (K : Ks (CR z0i)) : Option (CR z0i) := z0o v.2.1 v.1.1 v.1.2.2.2.1 v.1.2.2.2.2.1 (z6j.at none (((), ()), (v.2.1, ())) (K (.exit 0))) n v.1.2.2.2.2.2.1 v.2.2.1
def z6l (av : AV) (x : HP z0i.ps) : Hdl (CR z0i) := hnd [] z6o (zl6 av x)
theorem zl8 : LP z0i Try.f144 [0] z6l := lp_ok (W := []) (H := []) (xs := [z6j]) z7o trivial rfl (fun av x v K => by kernel_rfl) (fun av x n v K => by kernel_rfl)
theorem zu2 : z0i.Ok Try.prog := fn_ok (k := z0i) (fn := Try.f144) (W := []) (H := [z6l]) Try.func144 z7o ⟨zl8, trivial⟩ rfl rfl (fun av x => by kernel_rfl)
def z4s (t : GTask) (places : Int) (tasks : Int) : Option Bool := (z84 t.join).bind fun x1 => (if x1 = true then ((z84 t.split).bind fun x3 => (if x3 = true then ((z0p (t.in_.length : Int) 1 3).bind fun x5 => (if x5 = true then ((z53 t.in_ places [1]).bind fun x7 => (if x7 = true then ((z3j t places).bind fun x9 => (if x9 = true then ((z53 t.clear places [0, 1]).bind fun x11 => (if x11 = true then ((zg6 t.role).bind fun x13 => (if x13 = true then (gd (ok64 (tasks - 1)) ((z0p t.apart (-1) (tasks - 1)).bind fun x16 => (if x16 = true then ((z0p t.all 1 3).bind fun x18 => (if x18 = true then ((z0p t.need 1 t.all).bind fun x20 => (some x20)) else (some false))) else (some false)))) else (some false))) else (some false))) else (some false))) else (some false))) else (some false))) else (some false))) else (some false))
def z6u : Con := ⟨109, [.v (.s .task) false, .v .I false, .v .I false], [(.B, true)], [], fun x => z4s x.1 x.2.1 x.2.2.1⟩
def y1e : Fs := ⟨[zf8, z2h, z1u, z0i, zf9], [], []⟩
theorem y1i : y1e.Ok Try.prog := (fsK yc5 (fsK z3b (fsK y87 (fsK zu2 (fsK yc6 fs0)))))
theorem y1v : z6u.Ok Try.prog := fn_ok (k := z6u) (fn := Try.f109) (W := []) (H := []) Try.func109 y1i trivial rfl rfl (fun av x => by kernel_rfl)
def z9y (t : GTask) (n : GNet) : Option Bool := (z4s t n.places (n.tasks.length : Int)).bind fun x1 => (some (!x1))
def za2 : FCon := ⟨108, (.s .task), [(.s .net)], fun z c => z9y z c.1⟩
def y74 : Fs := ⟨[z6u], [], []⟩
theorem y7m : y74.Ok Try.prog := (fsK y1v fs0)
theorem y86 : za2.Ok Try.prog := FCon.ok (fn_ok (k := za2.con) (fn := Try.f108) (W := []) (H := []) Try.func108 y7m trivial rfl rfl (fun av x => by kernel_rfl))
def z95 (n : GNet) : Option Bool := (z9z n.places (n.tasks.length : Int)).bind fun x1 => (if x1 = true then ((z3h n.tasks (fun z => z9y z n)).bind fun x3 => (some (!x3))) else (some false))
def zo0 : Con := ⟨60, [.v (.s .net) false], [(.B, true)], [], fun x => z95 x.1⟩
def yi0 : Fs := ⟨[z9v, z4z], [za2], []⟩
theorem yj9 : yi0.Ok Try.prog := (fsK y89 (fsK zt9 (fsF y86 fs0)))
theorem yl9 : zo0.Ok Try.prog := fn_ok (k := zo0) (fn := Try.f60) (W := []) (H := []) Try.func60 yj9 trivial rfl rfl (fun av x => by kernel_rfl)
def z3w (m : Int) : Option Bool := (z0p m 0 4).bind fun x1 => (some (!x1))
def z3y : FCon := ⟨110, .I, [], fun z c => z3w z ⟩
def zf4 : Fs := ⟨[z2h], [], []⟩
theorem zf5 : zf4.Ok Try.prog := (fsK z3b fs0)
theorem zg8 : z3y.Ok Try.prog := FCon.ok (fn_ok (k := z3y.con) (fn := Try.f110) (W := []) (H := []) Try.func110 zf5 trivial rfl rfl (fun av x => by kernel_rfl))
def z26 (n : GNet) (marks : List Int) : Option Bool := if decide ((marks.length : Int) = n.places) = true then ((z42 marks (fun z => z3w z )).bind fun x2 => (some (!x2))) else (some false)
def z35 : Con := ⟨61, [.v (.s .net) false, .v (.sl .I) false], [(.B, true)], [], fun x => z26 x.1 x.2.1⟩
def zm3 : Fs := ⟨[z59], [z3y], []⟩
theorem zm5 : zm3.Ok Try.prog := (fsK zj4 (fsF zg8 fs0))
theorem z7c : z35.Ok Try.prog := fn_ok (k := z35) (fn := Try.f61) (W := []) (H := []) Try.func61 zm5 trivial rfl rfl (fun av x => by kernel_rfl)
def z78 (n : GNet) (marks : List Int) : Option Bool := (z95 n).bind fun x1 => (if x1 = true then ((z26 n marks).bind fun x3 => (some x3)) else (some false))
def z92 : Con := ⟨18, [.v (.s .net) false, .v (.sl .I) false], [(.B, true)], [], fun x => z78 x.1 x.2.1⟩
def yh9 : Fs := ⟨[zo0, z35], [], []⟩
theorem yj8 : yh9.Ok Try.prog := (fsK yl9 (fsK z7c fs0))
theorem y2m : z92.Ok Try.prog := fn_ok (k := z92) (fn := Try.f18) (W := []) (H := []) Try.func18 yj8 trivial rfl rfl (fun av x => by kernel_rfl)
def z5u (busy : List GItem) : Option Bool := some (decide ((busy.length : Int) ≤ 6))
def z0z (n : GNet) (p0_0 : List GItem) (p0_1 : Int) (kx0_0 : Option Bool) : Nat → Int → Option Bool
  | 0, _ => none
  | n0 + 1, s0_0 => if decide (s0_0 < p0_1) = true then ((getI p0_0 s0_0).bind fun x2 => ((z0l n x2.task).bind fun x3 => (if x3 = true then ((z4i x2.who).bind fun x5 => (if x5 = true then ((getI n.tasks x2.task).bind fun x7 => (gd (ok64 (x7.need - 1)) ((z0p x2.did 0 (x7.need - 1)).bind fun x9 => (if x9 = true then (gd (ok64 (s0_0 + 1)) ((z0z n p0_0 p0_1 kx0_0 n0) (s0_0 + 1))) else (some false))))) else (some false))) else (some false)))) else (kx0_0)
def z3i (n : GNet) (busy : List GItem) : Option Bool := z0z n busy (busy.length : Int) (z5u busy) FUEL 0
def z0h : Con := ⟨50, [.v (.s .net) false, .v (.sl (.s .item)) false], [(.B, true)], [], fun x => z3i x.1 x.2.1⟩
def zt4 : Fs := ⟨[z23, z5q, z2h], [], []⟩
theorem z7n : zt4.Ok Try.prog := (fsK z4m (fsK zp3 (fsK z3b fs0)))
def z6n : Tmpl := ⟨[(1, .c (.s (.s .item))), (2, .c (.bx 2 0)), (7, .c (.s (.s .item))), (8, .c .i), (9, .c .i)], [(2, .boxT (.s .net))]⟩
def z6i : Tmpl := ⟨[(1, .c (.s (.s .item)))], []⟩
def zl5 (av : AV) (x : HP z0h.ps) (n : Nat) (v : z6n.den) (K : Ks (CR z0h)) : Option (CR z0h) := z0z v.2.1 v.1.2.2.1 v.1.2.2.2.1 (z6i.at none ((v.1.1, ()), ()) (K (.exit 0))) n v.1.2.2.2.2.1
def z6k (av : AV) (x : HP z0h.ps) : Hdl (CR z0h) := hnd [] z6n (zl5 av x)
theorem zl7 : LP z0h Try.f50 [0] z6k := lp_ok (W := []) (H := []) (xs := [z6i]) z7n trivial rfl (fun av x v K => by kernel_rfl) (fun av x n v K => by kernel_rfl)
theorem zu1 : z0h.Ok Try.prog := fn_ok (k := z0h) (fn := Try.f50) (W := []) (H := [z6k]) Try.func50 z7n ⟨zl7, trivial⟩ rfl rfl (fun av x => by kernel_rfl)
def zo6 (l0_1 : List Int) : Option (List Int) := some l0_1
def z0b (t : GTask) (data : List Int) (p0_0 : List GFlow) (p0_1 : Int) (kx0_0 : List Int → Option (List Int)) : Nat → Int → List Int → Option (List Int)
  | 0, _, _ => none
  | n0 + 1, s0_0, l0_1 => if decide (s0_0 < p0_1) = true then ((getI p0_0 s0_0).bind fun x2 => ((z5t x2.if_ data).bind fun x3 => (if x3 = true then (if decide (t.split = 2) = true then (if decide (0 < (l0_1.length : Int)) = true then (gd (ok64 (s0_0 + 1)) ((z0b t data p0_0 p0_1 kx0_0 n0) (s0_0 + 1) l0_1)) else (if decide (t.split = 3) = true then (gd (ok64 ((t.out.length : Int) - 1)) (if decide (s0_0 = ((t.out.length : Int) - 1)) = true then (if decide (0 < (l0_1.length : Int)) = true then (gd (ok64 (s0_0 + 1)) ((z0b t data p0_0 p0_1 kx0_0 n0) (s0_0 + 1) l0_1)) else (gd (l0_1.length + [x2.to].length ≤ SMALL) (gd (ok64 (s0_0 + 1)) ((z0b t data p0_0 p0_1 kx0_0 n0) (s0_0 + 1) (l0_1 ++ [x2.to]))))) else (gd (l0_1.length + [x2.to].length ≤ SMALL) (gd (ok64 (s0_0 + 1)) ((z0b t data p0_0 p0_1 kx0_0 n0) (s0_0 + 1) (l0_1 ++ [x2.to])))))) else (gd (l0_1.length + [x2.to].length ≤ SMALL) (gd (ok64 (s0_0 + 1)) ((z0b t data p0_0 p0_1 kx0_0 n0) (s0_0 + 1) (l0_1 ++ [x2.to])))))) else (if decide (t.split = 3) = true then (gd (ok64 ((t.out.length : Int) - 1)) (if decide (s0_0 = ((t.out.length : Int) - 1)) = true then (if decide (0 < (l0_1.length : Int)) = true then (gd (ok64 (s0_0 + 1)) ((z0b t data p0_0 p0_1 kx0_0 n0) (s0_0 + 1) l0_1)) else (gd (l0_1.length + [x2.to].length ≤ SMALL) (gd (ok64 (s0_0 + 1)) ((z0b t data p0_0 p0_1 kx0_0 n0) (s0_0 + 1) (l0_1 ++ [x2.to]))))) else (gd (l0_1.length + [x2.to].length ≤ SMALL) (gd (ok64 (s0_0 + 1)) ((z0b t data p0_0 p0_1 kx0_0 n0) (s0_0 + 1) (l0_1 ++ [x2.to])))))) else (gd (l0_1.length + [x2.to].length ≤ SMALL) (gd (ok64 (s0_0 + 1)) ((z0b t data p0_0 p0_1 kx0_0 n0) (s0_0 + 1) (l0_1 ++ [x2.to])))))) else (gd (ok64 (s0_0 + 1)) ((z0b t data p0_0 p0_1 kx0_0 n0) (s0_0 + 1) l0_1))))) else (kx0_0 l0_1)
def z96 (t : GTask) (data : List Int) : Option (List Int) := z0b t data t.out (t.out.length : Int) zo6 FUEL 0 ([] : List Int)
def z36 : Con := ⟨30, [.v (.s .task) false, .v (.sl .I) false], [((.sl .I), true)], [], fun x => z96 x.1 x.2.1⟩
def yi1 : Fs := ⟨[z8k], [], []⟩
theorem y26 : yi1.Ok Try.prog := (fsK y5q fs0)
def zw7 : Tmpl := ⟨[(1, .c (.s .I)), (2, .c (.bx 2 0)), (5, .c (.ref 500005)), (9, .c (.s (.s .flow))), (10, .c .i), (11, .c .i)], [(2, .boxT (.s .task)), (500005, .arr .I true)]⟩
def zr2 : Tmpl := ⟨[(5, .c (.ref 500005))], [(500005, .arr .I true)]⟩
def y6r (av : AV) (x : HP z36.ps) (n : Nat) (v : zw7.den) (K : Ks (CR z36)) : Option (CR z36) := z0b v.2.1 v.1.1 v.1.2.2.2.1 v.1.2.2.2.2.1 (fun l0_1 => zr2.at none (((), ()), (l0_1, ())) (K (.exit 0))) n v.1.2.2.2.2.2.1 v.2.2.1
def zv2 (av : AV) (x : HP z36.ps) : Hdl (CR z36) := hnd [.e 5 500005 .I] zw7 (y6r av x)
theorem y7u : LP z36 Try.f30 [0] zv2 := lp_ok (W := []) (H := []) (xs := [zr2]) y26 trivial rfl (fun av x v K => by kernel_rfl) (fun av x n v K => by kernel_rfl)
theorem ym0 : z36.Ok Try.prog := fn_ok (k := z36) (fn := Try.f30) (W := []) (H := [zv2]) Try.func30 y26 ⟨y7u, trivial⟩ rfl rfl (fun av x => by kernel_rfl)
def z4r (n : GNet) (l1_1 : List Int) : Option ((List Int) × Bool) := (z26 n l1_1).bind fun x21 => (if x21 = true then (some (l1_1, true)) else (some ([], false)))
def z2q (x14 : (List Int)) (p1_0 : Int) (kx1_0 : List Int → Option ((List Int) × Bool)) : Nat → Int → List Int → Option ((List Int) × Bool)
  | 0, _, _ => none
  | n1 + 1, s1_0, l1_1 => if decide (s1_0 < p1_0) = true then ((getI x14 s1_0).bind fun x16 => ((getI l1_1 x16).bind fun x17 => (gd (ok64 (x17 + 1)) ((getI l1_1 x16).bind fun x19 => (gd (ok64 (s1_0 + 1)) ((z2q x14 p1_0 kx1_0 n1) (s1_0 + 1) (l1_1.set x16.toNat (x17 + 1)))))))) else (kx1_0 l1_1)
def z4q (n : GNet) (t : Int) (data : List Int) (l0_1 : List Int) : Option ((List Int) × Bool) := (getI n.tasks t).bind fun x13 => ((z96 x13 data).bind fun x14 => (z2q x14 (x14.length : Int) (z4r n) FUEL 0 l0_1))
def z2p (p0_0 : List Int) (p0_1 : Int) (kx0_0 : List Int → Option ((List Int) × Bool)) : Nat → Int → List Int → Option ((List Int) × Bool)
  | 0, _, _ => none
  | n0 + 1, s0_0, l0_1 => if decide (s0_0 < p0_1) = true then ((getI p0_0 s0_0).bind fun x10 => ((getI l0_1 x10).bind fun x11 => (gd (ok64 (s0_0 + 1)) ((z2p p0_0 p0_1 kx0_0 n0) (s0_0 + 1) (l0_1.set x10.toNat 0))))) else (kx0_0 l0_1)
def z3f (n : GNet) (marks : List Int) (t : Int) (data : List Int) : Option ((List Int) × Bool) := (z78 n marks).bind fun x1 => (if x1 = true then ((z0l n t).bind fun x3 => (if x3 = true then ((z3u data).bind fun x5 => (if x5 = true then ((z2f marks).bind fun x7 => ((getI n.tasks t).bind fun x8 => (z2p x8.clear (x8.clear.length : Int) (z4q n t data) FUEL 0 x7))) else (some ([], false)))) else (some ([], false)))) else (some ([], false)))
def z0c : Con := ⟨29, [.v (.s .net) false, .v (.sl .I) false, .v .I false, .v (.sl .I) false], [((.sl .I), true), (.B, true)], [], fun x => z3f x.1 x.2.1 x.2.2.1 x.2.2.2.1⟩
def y73 : Fs := ⟨[z92, z23, z4f, z41, z36, z35], [], []⟩
theorem z9p : y73.Ok Try.prog := (fsK y2m (fsK z4m (fsK z7b (fsK z7l (fsK ym0 (fsK z7c fs0))))))
def zj5 : Tmpl := ⟨[(2, .c .i), (3, .c (.s .I)), (4, .c (.bx 4 0)), (10, .c (.ref 31)), (37, .c (.s .I)), (38, .c .i), (39, .c .i)], [(4, .boxT (.s .net)), (31, .arr .I true)]⟩
def ze3 : Tmpl := ⟨[(2, .c .i), (3, .c (.s .I)), (4, .c (.bx 4 0)), (10, .c (.ref 31))], [(4, .boxT (.s .net)), (31, .arr .I true)]⟩
def y2w (av : AV) (x : HP z0c.ps) (n : Nat) (v : zj5.den) (K : Ks (CR z0c)) : Option (CR z0c) := z2p v.1.2.2.2.2.1 v.1.2.2.2.2.2.1 (fun l0_1 => ze3.at none ((v.1.1, v.1.2.1, (), (), ()), (v.2.1, l0_1, ())) (K (.exit 0))) n v.1.2.2.2.2.2.2.1 v.2.2.1
def zh5 (av : AV) (x : HP z0c.ps) : Hdl (CR z0c) := hnd [] zj5 (y2w av x)
theorem y3j : LP z0c Try.f29 [0] zh5 := lp_ok (W := []) (H := []) (xs := [ze3]) z9p trivial rfl (fun av x v K => by kernel_rfl) (fun av x n v K => by kernel_rfl)
def zj6 : Tmpl := ⟨[(4, .c (.bx 4 0)), (10, .c (.ref 31)), (53, .c (.ref 53)), (54, .c .i), (55, .c .i)], [(4, .boxT (.s .net)), (31, .arr .I true), (53, .arr .I true)]⟩
def ze4 : Tmpl := ⟨[(4, .c (.bx 4 0)), (10, .c (.ref 31))], [(4, .boxT (.s .net)), (31, .arr .I true)]⟩
def y2x (av : AV) (x : HP z0c.ps) (n : Nat) (v : zj6.den) (K : Ks (CR z0c)) : Option (CR z0c) := z2q v.2.2.2.1 v.1.2.2.2.1 (fun l1_1 => ze4.at none (((), (), ()), (v.2.1, l1_1, ())) (K (.exit 2))) n v.1.2.2.2.2.1 v.2.2.1
def zh6 (av : AV) (x : HP z0c.ps) : Hdl (CR z0c) := hnd [] zj6 (y2x av x)
theorem y3k : LP z0c Try.f29 [1] zh6 := lp_ok (W := []) (H := []) (xs := [ze4]) z9p trivial rfl (fun av x v K => by kernel_rfl) (fun av x n v K => by kernel_rfl)
theorem zw4 : z0c.Ok Try.prog := fn_ok (k := z0c) (fn := Try.f29) (W := []) (H := [zh5, zh6]) Try.func29 z9p ⟨y3j, y3k, trivial⟩ rfl rfl (fun av x => by kernel_rfl)
def z5s (c : GCase) : Option Bool := if decide (c.state = 1) = true then ((getI c.marks 1).bind fun x16 => (some (decide (x16 = 0)))) else (if decide (c.state = 2) = true then (if decide ((c.busy.length : Int) = 0) = true then ((getI c.marks 1).bind fun x19 => (some ((decide (c.state = 2)) == (decide (0 < x19))))) else (some false)) else (if decide (c.state = 3) = true then (if decide ((c.busy.length : Int) = 0) = true then ((getI c.marks 1).bind fun x22 => (some ((decide (c.state = 2)) == (decide (0 < x22))))) else (some false)) else (some false)))
def z3l (n : GNet) (p0_0 : List GDid) (p0_1 : Int) (kx0_0 : Option Bool) : Nat → Int → Option Bool
  | 0, _ => none
  | n0 + 1, s0_0 => if decide (s0_0 < p0_1) = true then ((getI p0_0 s0_0).bind fun x9 => ((z0l n x9.task).bind fun x10 => (if x10 = true then ((z4i x9.who).bind fun x12 => (if x12 = true then (gd (ok64 (s0_0 + 1)) ((z3l n p0_0 p0_1 kx0_0 n0) (s0_0 + 1))) else (some false))) else (some false)))) else (kx0_0)
def z4h (n : GNet) (c : GCase) : Option Bool := (z78 n c.marks).bind fun x1 => (if x1 = true then ((z3i n c.busy).bind fun x3 => (if x3 = true then ((z3u c.data).bind fun x5 => (if x5 = true then (if decide (60 < (c.did.length : Int)) = true then (some false) else (z3l n c.did (c.did.length : Int) (z5s c) FUEL 0)) else (some false))) else (some false))) else (some false))
def z2m : Con := ⟨13, [.v (.s .net) false, .v (.s .kase) false], [(.B, true)], [], fun x => z4h x.1 x.2.1⟩
def yh6 : Fs := ⟨[z92, z0h, z4f, z23, z5q], [], []⟩
theorem y25 : yh6.Ok Try.prog := (fsK y2m (fsK zu1 (fsK z7b (fsK z4m (fsK zp3 fs0)))))
def zw6 : Tmpl := ⟨[(2, .c (.bx 2 0)), (3, .c (.bx 3 0)), (32, .c (.s (.s .did))), (33, .c .i), (34, .c .i)], [(2, .boxT (.s .net)), (3, .boxT (.s .kase))]⟩
def zr1 : Tmpl := ⟨[(3, .c (.bx 3 0))], [(3, .boxT (.s .kase))]⟩
def y6q (av : AV) (x : HP z2m.ps) (n : Nat) (v : zw6.den) (K : Ks (CR z2m)) : Option (CR z2m) := z3l v.2.1 v.1.2.2.1 v.1.2.2.2.1 (zr1.at none (((), ()), (v.2.2.1, ())) (K (.exit 0))) n v.1.2.2.2.2.1
def zv1 (av : AV) (x : HP z2m.ps) : Hdl (CR z2m) := hnd [] zw6 (y6q av x)
theorem y7t : LP z2m Try.f13 [0] zv1 := lp_ok (W := []) (H := []) (xs := [zr1]) y25 trivial rfl (fun av x v K => by kernel_rfl) (fun av x n v K => by kernel_rfl)
theorem y2k : z2m.Ok Try.prog := fn_ok (k := z2m) (fn := Try.f13) (W := []) (H := [zv1]) Try.func13 y25 ⟨y7t, trivial⟩ rfl rfl (fun av x => by kernel_rfl)
def z6x (n : GNet) (c : GCase) : Option Bool := (z4h n c).bind fun x1 => (if x1 = true then (some (decide (c.state = 1))) else (some false))
def z9u : Con := ⟨58, [.v (.s .net) false, .v (.s .kase) false], [(.B, true)], [], fun x => z6x x.1 x.2.1⟩
def y77 : Fs := ⟨[z2m], [], []⟩
theorem y7o : y77.Ok Try.prog := (fsK y2k fs0)
theorem y88 : z9u.Ok Try.prog := fn_ok (k := z9u) (fn := Try.f58) (W := []) (H := []) Try.func58 y7o trivial rfl rfl (fun av x => by kernel_rfl)
def z6w (n : GNet) (c : GCase) (k : Int) (v : Int) (num : Int) : Option (GCase × Bool) := (z07 c).bind fun x1 => ((z6x n c).bind fun x2 => (if x2 = true then (gd (ok64 ((c.busy.length : Int) - 1)) ((z0p k 0 ((c.busy.length : Int) - 1)).bind fun x5 => (if x5 = true then ((z0p v (-1) 2).bind fun x7 => (if x7 = true then ((z3g num).bind fun x9 => (if x9 = true then (if decide ((c.did.length : Int) = 60) = true then (some (x1, false)) else (if decide (0 ≤ v) = true then ((getI x1.data v).bind fun x13 => ((getI x1.busy k).bind fun x14 => (gd (ok64 (x14.did + 1)) ((getI n.tasks ((GItem.mk x14.task x14.who (x14.did + 1)).task)).bind fun x16 => (if decide ((GItem.mk x14.task x14.who (x14.did + 1)).did < x16.need) = true then (some ((GCase.mk x1.state x1.marks (x1.busy.set k.toNat (GItem.mk x14.task x14.who (x14.did + 1))) (x1.data.set v.toNat num) x1.did), true)) else ((z3f n c.marks ((GItem.mk x14.task x14.who (x14.did + 1)).task) (x1.data.set v.toNat num)).bind fun x18 => (if x18.2 = true then (gd (x1.did.length + [(GDid.mk ((GItem.mk x14.task x14.who (x14.did + 1)).task) ((GItem.mk x14.task x14.who (x14.did + 1)).who))].length ≤ SMALL) (gd (ok64 (k + 1)) ((z3e (x1.busy.set k.toNat (GItem.mk x14.task x14.who (x14.did + 1))) k (k + 1)).bind fun x22 => ((getI x18.1 1).bind fun x23 => (if decide (0 < x23) = true then ((z07 (GCase.mk 2 x18.1 [] (x1.data.set v.toNat num) (x1.did ++ [(GDid.mk ((GItem.mk x14.task x14.who (x14.did + 1)).task) ((GItem.mk x14.task x14.who (x14.did + 1)).who))]))).bind fun x25 => (some (x25, true))) else ((z07 (GCase.mk x1.state x18.1 x22 (x1.data.set v.toNat num) (x1.did ++ [(GDid.mk ((GItem.mk x14.task x14.who (x14.did + 1)).task) ((GItem.mk x14.task x14.who (x14.did + 1)).who))]))).bind fun x26 => (some (x26, true)))))))) else ((z07 c).bind fun x27 => (some (x27, false)))))))))) else ((getI x1.busy k).bind fun x28 => (gd (ok64 (x28.did + 1)) ((getI n.tasks ((GItem.mk x28.task x28.who (x28.did + 1)).task)).bind fun x30 => (if decide ((GItem.mk x28.task x28.who (x28.did + 1)).did < x30.need) = true then (some ((GCase.mk x1.state x1.marks (x1.busy.set k.toNat (GItem.mk x28.task x28.who (x28.did + 1))) x1.data x1.did), true)) else ((z3f n c.marks ((GItem.mk x28.task x28.who (x28.did + 1)).task) x1.data).bind fun x32 => (if x32.2 = true then (gd (x1.did.length + [(GDid.mk ((GItem.mk x28.task x28.who (x28.did + 1)).task) ((GItem.mk x28.task x28.who (x28.did + 1)).who))].length ≤ SMALL) (gd (ok64 (k + 1)) ((z3e (x1.busy.set k.toNat (GItem.mk x28.task x28.who (x28.did + 1))) k (k + 1)).bind fun x36 => ((getI x32.1 1).bind fun x37 => (if decide (0 < x37) = true then ((z07 (GCase.mk 2 x32.1 [] x1.data (x1.did ++ [(GDid.mk ((GItem.mk x28.task x28.who (x28.did + 1)).task) ((GItem.mk x28.task x28.who (x28.did + 1)).who))]))).bind fun x39 => (some (x39, true))) else ((z07 (GCase.mk x1.state x32.1 x36 x1.data (x1.did ++ [(GDid.mk ((GItem.mk x28.task x28.who (x28.did + 1)).task) ((GItem.mk x28.task x28.who (x28.did + 1)).who))]))).bind fun x40 => (some (x40, true)))))))) else ((z07 c).bind fun x41 => (some (x41, false))))))))))) else (some (x1, false)))) else (some (x1, false)))) else (some (x1, false))))) else (some (x1, false))))
def z9t : Con := ⟨24, [.v (.s .net) false, .v (.s .kase) false, .v .I false, .v .I false, .v .I false], [((.s .kase), true), (.B, true)], [], fun x => z6w x.1 x.2.1 x.2.2.1 x.2.2.2.1 x.2.2.2.2.1⟩
def y71 : Fs := ⟨[z50, z9u, z2h, z45, z0c, zw1], [], []⟩
theorem y7k : y71.Ok Try.prog := (fsK zu0 (fsK y88 (fsK z3b (fsK z75 (fsK zw4 (fsK y83 fs0))))))
theorem y84 : z9t.Ok Try.prog := fn_ok (k := z9t) (fn := Try.f24) (W := []) (H := []) Try.func24 y7k trivial rfl rfl (fun av x => by kernel_rfl)
def z71 (code : List Int) : Option GRd := if decide (2000 < (code.length : Int)) = true then (gd ((0 : Int) ≤ 2000 ∧ 2000 ≤ (code.length : Int)) (some (GRd.mk (code.take (2000 : Int).toNat) 0))) else (some (GRd.mk code 0))
def zw2 : BCon := ⟨49, fun x => z71 x⟩
def y7e : Fs := ⟨[], [], []⟩
theorem y7r : y7e.Ok Try.prog := fs0
theorem y8e : zw2.Ok Try.prog := w5x (fn := Try.f49) Try.func49 y7r rfl rfl rfl rfl rfl (fun l => by kernel_rfl)
def z00 (r : GRd) (n : Int) : Option (Int × GRd) := gd (ok64 (r.p + 1)) (if decide (n < 1) = true then (some (0, (GRd.mk r.b (r.p + 1)))) else (if decide ((r.b.length : Int) = 0) = true then (some (0, (GRd.mk r.b (r.p + 1)))) else (gd (ok64 ((r.p + 1) - 1)) (if decide (((r.p + 1) - 1) < (r.b.length : Int)) = true then ((getI r.b ((r.p + 1) - 1)).bind fun x6 => (gd (ok64 x6) (gd ((n : Int) ≠ 0) (some ((Int.tmod x6 n), (GRd.mk r.b (r.p + 1))))))) else (gd (((r.b.length : Int) : Int) ≠ 0) ((getI r.b (Int.tmod ((r.p + 1) - 1) (r.b.length : Int))).bind fun x10 => (gd (ok64 x10) (gd (ok64 (x10 * 131)) (gd (ok64 (((r.p + 1) - 1) * 7)) (gd (ok64 ((((r.p + 1) - 1) * 7) + 3)) (gd (((r.b.length : Int) : Int) ≠ 0) ((getI r.b (Int.tmod ((((r.p + 1) - 1) * 7) + 3) (r.b.length : Int))).bind fun x16 => (gd (ok64 x16) (gd (ok64 (x16 * 1117)) (gd (ok64 ((x10 * 131) + (x16 * 1117))) (gd (ok64 (((r.p + 1) - 1) * 29)) (gd (ok64 (((x10 * 131) + (x16 * 1117)) + (((r.p + 1) - 1) * 29))) (gd (((r.b.length : Int) : Int) ≠ 0 ∧ ok64 (Int.tdiv ((r.p + 1) - 1) (r.b.length : Int))) (gd (ok64 ((Int.tdiv ((r.p + 1) - 1) (r.b.length : Int)) * 53)) (gd (ok64 ((((x10 * 131) + (x16 * 1117)) + (((r.p + 1) - 1) * 29)) + ((Int.tdiv ((r.p + 1) - 1) (r.b.length : Int)) * 53))) (gd ((64 : Int) ≠ 0 ∧ ok64 (Int.tdiv ((((x10 * 131) + (x16 * 1117)) + (((r.p + 1) - 1) * 29)) + ((Int.tdiv ((r.p + 1) - 1) (r.b.length : Int)) * 53)) 64)) (gd ((n : Int) ≠ 0) (some ((Int.tmod (xorI ((((x10 * 131) + (x16 * 1117)) + (((r.p + 1) - 1) * 29)) + ((Int.tdiv ((r.p + 1) - 1) (r.b.length : Int)) * 53)) (Int.tdiv ((((x10 * 131) + (x16 * 1117)) + (((r.p + 1) - 1) * 29)) + ((Int.tdiv ((r.p + 1) - 1) (r.b.length : Int)) * 53)) 64)) n), (GRd.mk r.b (r.p + 1))))))))))))))))))))))))))
def z8l : Con := ⟨65, [.ptr (.s .rd) false, .v .I false], [(.I, true)], [(0, .ptr (.s .rd) false)], fun x => z00 x.1 x.2.1⟩
def w75 : Fs := ⟨[], [], []⟩
theorem w76 : w75.Ok Try.prog := fs0
theorem zd1 : z8l.Ok Try.prog := fn_ok (k := z8l) (fn := Try.f65) (W := []) (H := []) Try.func65 w76 trivial rfl rfl (fun av x => by kernel_rfl)
def z4w (n : Int) (s0_0 : List Int) (s0_1 : Int) (l0_3 : List Int) : Option ((List Int) × GRd) := (z00 (GRd.mk s0_0 s0_1) n).bind fun x7 => (if decide (x7.1 = 0) = true then ((z00 x7.2 3).bind fun x9 => (if decide (x9.1 = 0) = true then ((z00 x9.2 3).bind fun x11 => ((z00 x11.2 4).bind fun x12 => ((getI [100, (-100), 9223372036854775807, (-9223372036854775808)] x12.1).bind fun x13 => ((getI l0_3 x11.1).bind fun x14 => (some ((l0_3.set x11.1.toNat x13), x12.2)))))) else (if decide (x9.1 = 1) = true then (gd ((0 : Int) ≤ 1 ∧ 1 ≤ (l0_3.length : Int)) (some ((l0_3.drop (1 : Int).toNat), x9.2))) else (gd (l0_3.length + [0].length ≤ SMALL) (some ((l0_3 ++ [0]), x9.2)))))) else (some (l0_3, x7.2)))
def z2u (kx0_0 : List Int → Int → List Int → Option ((List Int) × GRd)) : Nat → List Int → Int → Int → List Int → Option ((List Int) × GRd)
  | 0, _, _, _, _ => none
  | n0 + 1, s0_0, s0_1, s0_2, l0_3 => if decide (s0_2 < 3) = true then ((z00 (GRd.mk s0_0 s0_1) 9).bind fun x2 => ((z00 x2.2 7).bind fun x3 => ((getI [0, 1, (-1), 5, 99, (-99), x2.1] x3.1).bind fun x4 => (gd (l0_3.length + [x4].length ≤ SMALL) (gd (ok64 (s0_2 + 1)) ((z2u kx0_0 n0) x3.2.b x3.2.p (s0_2 + 1) (l0_3 ++ [x4]))))))) else (kx0_0 s0_0 s0_1 l0_3)
def z54 (r : GRd) (n : Int) : Option ((List Int) × GRd) := z2u (z4w n) FUEL r.b r.p 0 ([] : List Int)
def z1y : Con := ⟨101, [.ptr (.s .rd) false, .v .I false], [((.sl .I), false)], [(0, .ptr (.s .rd) false)], fun x => z54 x.1 x.2.1⟩
def y7d : Fs := ⟨[z8l], [], []⟩
theorem zu7 : y7d.Ok Try.prog := (fsK zd1 fs0)
def zk2 : Tmpl := ⟨[(0, .c (.bx 1000000 0)), (1, .c .i), (5, .c (.ref 7)), (6, .c .i)], [(1000000, .box [.s .Y, .i]), (7, .arr .I true)]⟩
def ze9 : Tmpl := ⟨[(0, .c (.bx 1000000 0)), (1, .c .i), (5, .c (.ref 7))], [(1000000, .box [.s .Y, .i]), (7, .arr .I true)]⟩
def y33 (av : AV) (x : HP z1y.ps) (n : Nat) (v : zk2.den) (K : Ks (CR z1y)) : Option (CR z1y) := z2u (fun s0_0 s0_1 l0_3 => ze9.at none (((), v.1.2.1, (), ()), ((s0_0, s0_1, ()), l0_3, ())) (K (.exit 0))) n v.2.1.1 v.2.1.2.1 v.1.2.2.2.1 v.2.2.1
def zi2 (av : AV) (x : HP z1y.ps) : Hdl (CR z1y) := hnd [] zk2 (y33 av x)
theorem y3q : LP z1y Try.f101 [0] zi2 := lp_ok (W := [(12, [.froz 7])]) (H := []) (xs := [ze9]) zu7 trivial rfl (fun av x v K => by kernel_rfl) (fun av x n v K => by kernel_rfl)
theorem y8d : z1y.Ok Try.prog := fn_ok (k := z1y) (fn := Try.f101) (W := [(12, [.froz 7])]) (H := [zi2]) Try.func101 zu7 ⟨y3q, trivial⟩ rfl rfl (fun av x => by kernel_rfl)
def z8a (r : GRd) (n : Int) : Option (GAsk × GRd) := (z00 r 3).bind fun x1 => (gd (ok64 (1 + x1.1)) ((z00 x1.2 3).bind fun x3 => ((z00 x3.2 9).bind fun x4 => ((z00 x4.2 6).bind fun x5 => ((getI [0, 1, 2, 5, (-1), x4.1] x5.1).bind fun x6 => ((z00 x5.2 6).bind fun x7 => (if decide (x7.1 = 0) = true then ((z00 x7.2 n).bind fun x9 => (if decide (x9.1 = 0) = true then ((z00 x9.2 3).bind fun x11 => (if decide (x11.1 = 0) = true then ((z00 x11.2 3).bind fun x13 => ((getI [0, 4, (-1)] x13.1).bind fun x14 => (some ((GAsk.mk x14 0 0), x13.2)))) else (if decide (x11.1 = 1) = true then ((z00 x11.2 3).bind fun x16 => ((getI [3, (-1), 1] x16.1).bind fun x17 => (some ((GAsk.mk 0 x17 0), x16.2)))) else ((z00 x11.2 3).bind fun x18 => ((getI [99, 100, (-99)] x18.1).bind fun x19 => (some ((GAsk.mk 0 0 x19), x18.2))))))) else (some ((GAsk.mk 0 0 0), x9.2)))) else ((z00 x7.2 n).bind fun x20 => (if decide (x20.1 = 0) = true then ((z00 x20.2 3).bind fun x22 => (if decide (x22.1 = 0) = true then ((z00 x22.2 3).bind fun x24 => ((getI [0, 4, (-1)] x24.1).bind fun x25 => (some ((GAsk.mk x25 x3.1 x6), x24.2)))) else (if decide (x22.1 = 1) = true then ((z00 x22.2 3).bind fun x27 => ((getI [3, (-1), 1] x27.1).bind fun x28 => (some ((GAsk.mk (1 + x1.1) x28 x6), x27.2)))) else ((z00 x22.2 3).bind fun x29 => ((getI [99, 100, (-99)] x29.1).bind fun x30 => (some ((GAsk.mk (1 + x1.1) x3.1 x30), x29.2))))))) else (some ((GAsk.mk (1 + x1.1) x3.1 x6), x20.2)))))))))))
def zg3 : Con := ⟨139, [.ptr (.s .rd) false, .v .I false], [((.s .ask), true)], [(0, .ptr (.s .rd) false)], fun x => z8a x.1 x.2.1⟩
def y9u : Fs := ⟨[z8l], [], []⟩
theorem ya9 : y9u.Ok Try.prog := (fsK zd1 fs0)
theorem yd3 : zg3.Ok Try.prog := fn_ok (k := zg3) (fn := Try.f139) (W := []) (H := []) Try.func139 ya9 trivial rfl rfl (fun av x => by kernel_rfl)
def zc4 (join : Int) (in_ : List Int) (p0_6 : Int) (p0_7 : Int) (p0_8 : Int) (p0_9 : Int) (p0_10 : Int) (s0_0 : List Int) (s0_1 : Int) (l0_3 : List GFlow) : Option (GTask × GRd) := some ((GTask.mk join p0_6 in_ l0_3 [] p0_7 p0_8 p0_9 p0_10), (GRd.mk s0_0 s0_1))
def z0r (split : Int) (to : List Int) (kx0_0 : List Int → Int → List GFlow → Option (GTask × GRd)) : Nat → List Int → Int → Int → List GFlow → Option (GTask × GRd)
  | 0, _, _, _, _ => none
  | n0 + 1, s0_0, s0_1, s0_2, l0_3 => if decide (s0_2 < (to.length : Int)) = true then ((getI to s0_2).bind fun x11 => (if decide (split = 1) = true then (gd (l0_3.length + [(GFlow.mk x11 (GAsk.mk 0 0 0))].length ≤ SMALL) (gd (ok64 (s0_2 + 1)) ((z0r split to kx0_0 n0) s0_0 s0_1 (s0_2 + 1) (l0_3 ++ [(GFlow.mk x11 (GAsk.mk 0 0 0))])))) else (gd (ok64 ((to.length : Int) - 1)) (if decide (s0_2 < ((to.length : Int) - 1)) = true then ((z00 (GRd.mk s0_0 s0_1) 3).bind fun x17 => (gd (ok64 (1 + x17.1)) ((z00 x17.2 3).bind fun x19 => ((z00 x19.2 5).bind fun x20 => (gd (ok64 (x20.1 - 1)) (gd (l0_3.length + [(GFlow.mk x11 (GAsk.mk (1 + x17.1) x19.1 (x20.1 - 1)))].length ≤ SMALL) (gd (ok64 (s0_2 + 1)) ((z0r split to kx0_0 n0) x20.2.b x20.2.p (s0_2 + 1) (l0_3 ++ [(GFlow.mk x11 (GAsk.mk (1 + x17.1) x19.1 (x20.1 - 1)))]))))))))) else (gd (l0_3.length + [(GFlow.mk x11 (GAsk.mk 0 0 0))].length ≤ SMALL) (gd (ok64 (s0_2 + 1)) ((z0r split to kx0_0 n0) s0_0 s0_1 (s0_2 + 1) (l0_3 ++ [(GFlow.mk x11 (GAsk.mk 0 0 0))])))))))) else (kx0_0 s0_0 s0_1 l0_3)
def zc5 (join : Int) (in_ : List Int) (p1_6 : Int) (p1_7 : Int) (p1_8 : Int) (p1_9 : Int) (p1_10 : Int) (s1_0 : List Int) (s1_1 : Int) (l1_3 : List GFlow) : Option (GTask × GRd) := some ((GTask.mk join p1_6 in_ l1_3 [] p1_7 p1_8 p1_9 p1_10), (GRd.mk s1_0 s1_1))
def z06 (r : GRd) (join : Int) (split : Int) (in_ : List Int) (to : List Int) (tasks : Int) : Option (GTask × GRd) := (z00 r 3).bind fun x1 => (gd (ok64 (1 + x1.1)) ((z00 x1.2 3).bind fun x3 => (gd (ok64 (1 + x3.1)) ((z00 x3.2 (1 + x3.1)).bind fun x5 => (gd (ok64 (1 + x5.1)) ((z00 x5.2 3).bind fun x7 => (if decide (x7.1 = 0) = true then ((z00 x7.2 tasks).bind fun x9 => (z0r split to (zc4 join in_ split (1 + x1.1) x9.1 (1 + x3.1) (1 + x5.1)) FUEL x9.2.b x9.2.p 0 ([] : List GFlow))) else (z0r split to (zc5 join in_ split (1 + x1.1) (-1) (1 + x3.1) (1 + x5.1)) FUEL x7.2.b x7.2.p 0 ([] : List GFlow)))))))))
def z1z : Con := ⟨160, [.ptr (.s .rd) false, .v .I false, .v .I false, .v (.sl .I) true, .v (.sl .I) true, .v .I false], [((.s .task), true)], [(0, .ptr (.s .rd) false)], fun x => z06 x.1 x.2.1 x.2.2.1 x.2.2.2.1 x.2.2.2.2.1 x.2.2.2.2.2.1⟩
def y7f : Fs := ⟨[z8l], [], []⟩
theorem zu8 : y7f.Ok Try.prog := (fsK zd1 fs0)
def zk3 : Tmpl := ⟨[(0, .c (.bx 1000000 0)), (2, .c .i), (4, .c (.ref 1480000)), (12, .c (.bx 12 0)), (13, .c (.bx 13 0)), (14, .c .i)], [(1000000, .box [.s .Y, .i]), (12, .box [.i, .i, .nl, .nl, .nl, .i, .i, .i, .i]), (13, .box [.i, .i, .ref 1360000, .ref 511303, .nl, .i, .i, .i, .i]), (1480000, .arr .I true), (1360000, .arr .I true), (511303, .arr (.s .flow) true)]⟩
def zf0 : Tmpl := ⟨[(12, .c (.bx 12 0)), (13, .c (.bx 13 0))], [(12, .box [.i, .i, .nl, .nl, .nl, .i, .i, .i, .i]), (13, .box [.i, .i, .ref 1360000, .ref 511303, .nl, .i, .i, .i, .i]), (1000000, .box [.s .Y, .i]), (1360000, .arr .I true), (511303, .arr (.s .flow) true)]⟩
def y34 (av : AV) (x : HP z1z.ps) (n : Nat) (v : zk3.den) (K : Ks (CR z1z)) : Option (CR z1z) := z0r v.1.2.1 v.2.2.2.2.1 (fun s0_0 s0_1 l0_3 => zf0.at none (((), (), ()), ((v.2.2.1.1, v.2.2.1.2.1, (), (), (), v.2.2.1.2.2.2.2.2.1, v.2.2.1.2.2.2.2.2.2.1, v.2.2.1.2.2.2.2.2.2.2.1, v.2.2.1.2.2.2.2.2.2.2.2.1, ()), (v.2.2.2.1.1, v.2.2.2.1.2.1, (), (), (), v.2.2.2.1.2.2.2.2.2.1, v.2.2.2.1.2.2.2.2.2.2.1, v.2.2.2.1.2.2.2.2.2.2.2.1, v.2.2.2.1.2.2.2.2.2.2.2.2.1, ()), (s0_0, s0_1, ()), v.2.2.2.2.2.1, l0_3, ())) (K (.exit 0))) n v.2.1.1 v.2.1.2.1 v.1.2.2.2.2.2.1 v.2.2.2.2.2.2.1
def zi3 (av : AV) (x : HP z1z.ps) : Hdl (CR z1z) := hnd [.b 13 3 511303 (.s .flow)] zk3 (y34 av x)
theorem y3r : LP z1z Try.f160 [0] zi3 := lp_ok (W := []) (H := []) (xs := [zf0]) zu8 trivial rfl (fun av x v K => by kernel_rfl) (fun av x n v K => by kernel_rfl)
theorem y8f : z1z.Ok Try.prog := fn_ok (k := z1z) (fn := Try.f160) (W := []) (H := [zi3]) Try.func160 zu8 ⟨y3r, trivial⟩ rfl rfl (fun av x => by kernel_rfl)
def z3a (p0_2 : Int) (s0_0 : List Int) (s0_1 : Int) (l0_3 : List GTask) : Option (GNet × GRd) := some ((GNet.mk p0_2 l0_3), (GRd.mk s0_0 s0_1))
def z0t (p0_0 : Int) (p0_2 : Int) (kx0_0 : List Int → Int → List GTask → Option (GNet × GRd)) : Nat → List Int → Int → Int → List GTask → Option (GNet × GRd)
  | 0, _, _, _, _ => none
  | n0 + 1, s0_0, s0_1, s0_2, l0_3 => if decide (s0_2 < p0_0) = true then (gd (ok64 (p0_2 - 2)) ((z00 (GRd.mk s0_0 s0_1) (p0_2 - 2)).bind fun x39 => (gd (ok64 (2 + x39.1)) ((z00 x39.2 4).bind fun x41 => ((getI [0, 2, 2, (2 + x39.1)] x41.1).bind fun x42 => (gd (ok64 (p0_2 - 1)) ((z00 x41.2 (p0_2 - 1)).bind fun x44 => (gd (ok64 (1 + x44.1)) ((z00 x44.2 2).bind fun x46 => (if decide (x46.1 = 0) = true then ((getI [(1 + x44.1)] 0).bind fun x48 => (if decide (x48 = 2) = true then ((z00 x46.2 3).bind fun x50 => (gd (ok64 (1 + x50.1)) ((z00 x50.2 3).bind fun x52 => (gd (ok64 (1 + x52.1)) ((z06 x52.2 (1 + x50.1) (1 + x52.1) [x42] [(1 + x44.1)] p0_0).bind fun x54 => (gd (l0_3.length + [x54.1].length ≤ SMALL) (gd (ok64 (s0_2 + 1)) ((z0t p0_0 p0_2 kx0_0 n0) x54.2.b x54.2.p (s0_2 + 1) (l0_3 ++ [x54.1]))))))))) else (gd ([(1 + x44.1)].length + [2].length ≤ SMALL) ((z00 x46.2 3).bind fun x58 => (gd (ok64 (1 + x58.1)) ((z00 x58.2 3).bind fun x60 => (gd (ok64 (1 + x60.1)) ((z06 x60.2 (1 + x58.1) (1 + x60.1) [x42] ([(1 + x44.1)] ++ [2]) p0_0).bind fun x62 => (gd (l0_3.length + [x62.1].length ≤ SMALL) (gd (ok64 (s0_2 + 1)) ((z0t p0_0 p0_2 kx0_0 n0) x62.2.b x62.2.p (s0_2 + 1) (l0_3 ++ [x62.1])))))))))))) else ((z00 x46.2 3).bind fun x65 => (gd (ok64 (1 + x65.1)) ((z00 x65.2 3).bind fun x67 => (gd (ok64 (1 + x67.1)) ((z06 x67.2 (1 + x65.1) (1 + x67.1) [x42] [(1 + x44.1)] p0_0).bind fun x69 => (gd (l0_3.length + [x69.1].length ≤ SMALL) (gd (ok64 (s0_2 + 1)) ((z0t p0_0 p0_2 kx0_0 n0) x69.2.b x69.2.p (s0_2 + 1) (l0_3 ++ [x69.1]))))))))))))))))))) else (kx0_0 s0_0 s0_1 l0_3)
def z65 (r : GRd) : Option (GNet × GRd) := (z00 r 3).bind fun x1 => (gd (ok64 (1 + x1.1)) ((z00 x1.2 3).bind fun x3 => (gd (ok64 (1 + x3.1)) ((z00 x3.2 4).bind fun x5 => ((getI [(1 + x1.1), (1 + x1.1), (1 + x1.1), (1 + x3.1)] x5.1).bind fun x6 => ((z00 x5.2 6).bind fun x7 => (if decide (x7.1 = 0) = true then ((z06 x7.2 (1 + x1.1) 1 [0] [2] 2).bind fun x9 => ((z06 x9.2 x6 2 [2] [1] 2).bind fun x10 => (some ((GNet.mk 3 [x9.1, x10.1]), x10.2)))) else (if decide (x7.1 = 1) = true then ((z06 x7.2 1 (1 + x1.1) [0] [2, 3] 4).bind fun x12 => ((z06 x12.2 1 1 [2] [4] 4).bind fun x13 => ((z06 x13.2 2 1 [3] [5] 4).bind fun x14 => ((z06 x14.2 x6 2 [4, 5] [1] 4).bind fun x15 => (some ((GNet.mk 6 [x12.1, x13.1, x14.1, x15.1]), x15.2)))))) else (if decide (x7.1 = 2) = true then ((z06 x7.2 2 1 [0] [2] 3).bind fun x17 => ((z00 x17.2 2).bind fun x18 => (gd (ok64 (2 + x18.1)) ((z06 x18.2 1 2 [2] [(2 + x18.1), 1] 3).bind fun x20 => ((z06 x20.2 2 1 [3] [2] 3).bind fun x21 => (some ((GNet.mk 4 [x17.1, x20.1, x21.1]), x21.2))))))) else (if decide (x7.1 = 3) = true then ((z06 x7.2 1 (1 + x1.1) [0] [2, 3, 4] 4).bind fun x23 => ((z06 x23.2 1 1 [2] [5] 4).bind fun x24 => ((z06 x24.2 x6 1 [3, 4] [6] 4).bind fun x25 => ((z00 x25.2 3).bind fun x26 => (gd (ok64 (1 + x26.1)) ((z06 x26.2 (1 + x26.1) 1 [5, 6] [1] 4).bind fun x28 => (some ((GNet.mk 7 [x23.1, x24.1, x25.1, x28.1]), x28.2)))))))) else (if decide (x7.1 = 4) = true then ((z06 x7.2 1 1 [0] [2, 3] 3).bind fun x30 => ((z06 x30.2 1 2 [2] [4, 1] 3).bind fun x31 => ((z06 x31.2 (1 + x1.1) 1 [3, 4] [1] 3).bind fun x32 => (some ((GNet.mk 5 [x30.1, x31.1, x32.1]), x32.2))))) else ((z00 x7.2 4).bind fun x33 => (gd (ok64 (3 + x33.1)) ((z00 x33.2 4).bind fun x35 => (gd (ok64 (1 + x35.1)) (z0t (1 + x35.1) (3 + x33.1) (z3a (3 + x33.1)) FUEL x35.2.b x35.2.p 0 ([] : List GTask)))))))))))))))))
def z1f : Con := ⟨138, [.ptr (.s .rd) false], [((.s .net), true)], [(0, .ptr (.s .rd) false)], fun x => z65 x.1⟩
def y4z : Fs := ⟨[z8l, z1z], [], []⟩
theorem zm8 : y4z.Ok Try.prog := (fsK zd1 (fsK y8f fs0))
def zd8 : Tmpl := ⟨[(0, .c (.bx 1000000 0)), (2, .c (.bx 2 0)), (5, .c (.bx 5 0)), (6, .c .i), (7, .c .i)], [(1000000, .box [.s .Y, .i]), (2, .box [.i, .nl]), (5, .box [.i, .ref 510501]), (510501, .arr (.s .task) true)]⟩
def z9k : Tmpl := ⟨[(2, .c (.bx 2 0)), (5, .c (.bx 5 0))], [(2, .box [.i, .nl]), (5, .box [.i, .ref 510501]), (1000000, .box [.s .Y, .i]), (510501, .arr (.s .task) true)]⟩
def y17 (av : AV) (x : HP z1f.ps) (n : Nat) (v : zd8.den) (K : Ks (CR z1f)) : Option (CR z1f) := z0t v.1.2.2.2.1 v.2.2.2.1.1 (fun s0_0 s0_1 l0_3 => z9k.at none (((), (), ()), ((v.2.2.1.1, (), ()), (v.2.2.2.1.1, (), ()), (s0_0, s0_1, ()), l0_3, ())) (K (.exit 1))) n v.2.1.1 v.2.1.2.1 v.1.2.2.2.2.1 v.2.2.2.2.1
def zb4 (av : AV) (x : HP z1f.ps) : Hdl (CR z1f) := hnd [.b 5 1 510501 (.s .task)] zd8 (y17 av x)
theorem y1o : LP z1f Try.f138 [0] zb4 := lp_ok (W := []) (H := []) (xs := [z9k]) zm8 trivial rfl (fun av x v K => by kernel_rfl) (fun av x n v K => by kernel_rfl)
theorem y5u : z1f.Ok Try.prog := fn_ok (k := z1f) (fn := Try.f138) (W := []) (H := [zb4]) Try.func138 zm8 ⟨y1o, trivial⟩ rfl rfl (fun av x => by kernel_rfl)
def z64 (r : GRd) : Option (GNet × GRd) := (z65 r).bind fun x1 => ((z00 x1.2 3).bind fun x2 => (if decide (x2.1 = 0) = true then (if decide (3 < x1.1.places) = true then (if decide (0 < (x1.1.tasks.length : Int)) = true then ((z00 x2.2 (x1.1.tasks.length : Int)).bind fun x6 => ((getI x1.1.tasks x6.1).bind fun x7 => ((z28 (GNet.mk x1.1.places (x1.1.tasks.set x6.1.toNat (GTask.mk x7.join x7.split x7.in_ x7.out [2, 3] x7.role x7.apart x7.all x7.need)))).bind fun x8 => (if x8 = true then (some ((GNet.mk x1.1.places (x1.1.tasks.set x6.1.toNat (GTask.mk x7.join x7.split x7.in_ x7.out [2, 3] x7.role x7.apart x7.all x7.need))), x6.2)) else (some ((GNet.mk 2 [(GTask.mk 1 1 [0] [(GFlow.mk 1 (GAsk.mk 0 0 0))] [] 1 (-1) 1 1)]), x6.2)))))) else ((z28 x1.1).bind fun x10 => (if x10 = true then (some (x1.1, x2.2)) else (some ((GNet.mk 2 [(GTask.mk 1 1 [0] [(GFlow.mk 1 (GAsk.mk 0 0 0))] [] 1 (-1) 1 1)]), x2.2))))) else ((z28 x1.1).bind fun x12 => (if x12 = true then (some (x1.1, x2.2)) else (some ((GNet.mk 2 [(GTask.mk 1 1 [0] [(GFlow.mk 1 (GAsk.mk 0 0 0))] [] 1 (-1) 1 1)]), x2.2))))) else ((z28 x1.1).bind fun x14 => (if x14 = true then (some (x1.1, x2.2)) else (some ((GNet.mk 2 [(GTask.mk 1 1 [0] [(GFlow.mk 1 (GAsk.mk 0 0 0))] [] 1 (-1) 1 1)]), x2.2))))))
def z80 : Con := ⟨98, [.ptr (.s .rd) false], [((.s .net), true)], [(0, .ptr (.s .rd) false)], fun x => z64 x.1⟩
def y9v : Fs := ⟨[z1f, z8l, z1k], [], []⟩
theorem yb0 : y9v.Ok Try.prog := (fsK y5u (fsK zd1 (fsK z9d fs0)))
theorem y0m : z80.Ok Try.prog := fn_ok (k := z80) (fn := Try.f98) (W := []) (H := []) Try.func98 yb0 trivial rfl rfl (fun av x => by kernel_rfl)
def z5a (r : GRd) (n : Int) : Option (GNet × GRd) := (z64 r).bind fun x1 => ((z00 x1.2 n).bind fun x2 => (if decide (0 < x2.1) = true then (some (x1.1, x2.2)) else ((z00 x2.2 6).bind fun x4 => (if decide (x4.1 = 0) = true then ((z00 x4.2 3).bind fun x6 => ((getI [1, 2, 9] x6.1).bind fun x7 => (some ((GNet.mk x7 x1.1.tasks), x6.2)))) else ((z00 x4.2 (x1.1.tasks.length : Int)).bind fun x8 => ((getI x1.1.tasks x8.1).bind fun x9 => ((z00 x8.2 9).bind fun x10 => (if decide (x10.1 = 0) = true then ((z00 x10.2 2).bind fun x12 => ((getI [0, 4] x12.1).bind fun x13 => ((getI x1.1.tasks x8.1).bind fun x14 => (some ((GNet.mk x1.1.places (x1.1.tasks.set x8.1.toNat (GTask.mk x13 x9.split x9.in_ x9.out x9.clear x9.role x9.apart x9.all x9.need))), x12.2))))) else (if decide (x10.1 = 1) = true then ((z00 x10.2 4).bind fun x16 => ((getI [0, 4, 1, 2] x16.1).bind fun x17 => ((getI x1.1.tasks x8.1).bind fun x18 => (some ((GNet.mk x1.1.places (x1.1.tasks.set x8.1.toNat (GTask.mk x9.join x17 x9.in_ x9.out x9.clear x9.role x9.apart x9.all x9.need))), x16.2))))) else (if decide (x10.1 = 2) = true then (gd (([] : List Int).length + x9.in_.length ≤ SMALL) ((z00 x10.2 4).bind fun x21 => ((getI [1, 0, 7, 3] x21.1).bind fun x22 => (gd ((([] : List Int) ++ x9.in_).length + [x22].length ≤ SMALL) ((getI x1.1.tasks x8.1).bind fun x24 => (some ((GNet.mk x1.1.places (x1.1.tasks.set x8.1.toNat (GTask.mk x9.join x9.split ((([] : List Int) ++ x9.in_) ++ [x22]) x9.out x9.clear x9.role x9.apart x9.all x9.need))), x21.2))))))) else (if decide (x10.1 = 3) = true then (gd (([] : List GFlow).length + x9.out.length ≤ SMALL) ((z00 x10.2 4).bind fun x27 => ((z8a x27.2 2).bind fun x28 => (gd ((([] : List GFlow) ++ x9.out).length + [(GFlow.mk x27.1 x28.1)].length ≤ SMALL) ((getI x1.1.tasks x8.1).bind fun x30 => (some ((GNet.mk x1.1.places (x1.1.tasks.set x8.1.toNat (GTask.mk x9.join x9.split x9.in_ ((([] : List GFlow) ++ x9.out) ++ [(GFlow.mk x27.1 x28.1)]) x9.clear x9.role x9.apart x9.all x9.need))), x28.2))))))) else (if decide (x10.1 = 4) = true then (gd (([] : List Int).length + x9.clear.length ≤ SMALL) ((z00 x10.2 4).bind fun x33 => ((getI [0, 1, 2, 9] x33.1).bind fun x34 => (gd ((([] : List Int) ++ x9.clear).length + [x34].length ≤ SMALL) ((getI x1.1.tasks x8.1).bind fun x36 => (some ((GNet.mk x1.1.places (x1.1.tasks.set x8.1.toNat (GTask.mk x9.join x9.split x9.in_ x9.out ((([] : List Int) ++ x9.clear) ++ [x34]) x9.role x9.apart x9.all x9.need))), x33.2))))))) else (if decide (x10.1 = 5) = true then ((z00 x10.2 2).bind fun x38 => ((getI [0, 4] x38.1).bind fun x39 => ((getI x1.1.tasks x8.1).bind fun x40 => (some ((GNet.mk x1.1.places (x1.1.tasks.set x8.1.toNat (GTask.mk x9.join x9.split x9.in_ x9.out x9.clear x39 x9.apart x9.all x9.need))), x38.2))))) else (if decide (x10.1 = 6) = true then ((z00 x10.2 2).bind fun x42 => ((getI [(-2), 6] x42.1).bind fun x43 => ((getI x1.1.tasks x8.1).bind fun x44 => (some ((GNet.mk x1.1.places (x1.1.tasks.set x8.1.toNat (GTask.mk x9.join x9.split x9.in_ x9.out x9.clear x9.role x43 x9.all x9.need))), x42.2))))) else (if decide (x10.1 = 7) = true then (gd (ok64 (x9.all + 1)) ((z00 x10.2 2).bind fun x47 => ((getI [0, (x9.all + 1)] x47.1).bind fun x48 => ((getI x1.1.tasks x8.1).bind fun x49 => (some ((GNet.mk x1.1.places (x1.1.tasks.set x8.1.toNat (GTask.mk x9.join x9.split x9.in_ x9.out x9.clear x9.role x9.apart x9.all x48))), x47.2)))))) else ((z00 x10.2 3).bind fun x50 => ((getI [0, 4, 1] x50.1).bind fun x51 => ((getI x1.1.tasks x8.1).bind fun x52 => (some ((GNet.mk x1.1.places (x1.1.tasks.set x8.1.toNat (GTask.mk x9.join x9.split x9.in_ x9.out x9.clear x9.role x9.apart x51 x9.need))), x50.2))))))))))))))))))))
def z7h : Con := ⟨102, [.ptr (.s .rd) false, .v .I false], [((.s .net), false)], [(0, .ptr (.s .rd) false)], fun x => z5a x.1 x.2.1⟩
def y3c : Fs := ⟨[z80, z8l, zg3], [], []⟩
theorem y3h : y3c.Ok Try.prog := (fsK y0m (fsK zd1 (fsK yd3 fs0)))
theorem y3w : z7h.Ok Try.prog := fn_ok (k := z7h) (fn := Try.f102) (W := [(8, [.share 10009])]) (H := []) Try.func102 y3h trivial rfl rfl (fun av x => by kernel_rfl)
def z48 (p : Int) (n : Int) (s0_0 : List Int) (s0_1 : Int) (l0_3 : List Int) : Option ((List Int) × GRd) := if decide (1 < p) = true then ((z00 (GRd.mk s0_0 s0_1) 4).bind fun x7 => (if decide (0 < x7.1) = true then ((getI l0_3 1).bind fun x9 => ((z00 x7.2 n).bind fun x10 => (if decide (x10.1 = 0) = true then ((z00 x10.2 2).bind fun x12 => (if decide (x12.1 = 0) = true then (if decide (0 < p) = true then ((z00 x12.2 p).bind fun x15 => ((z00 x15.2 2).bind fun x16 => ((getI [(-1), 5] x16.1).bind fun x17 => ((getI (l0_3.set (1 : Int).toNat 0) x15.1).bind fun x18 => (some (((l0_3.set (1 : Int).toNat 0).set x15.1.toNat x17), x16.2)))))) else (gd ((l0_3.set (1 : Int).toNat 0).length + [0].length ≤ SMALL) (some (((l0_3.set (1 : Int).toNat 0) ++ [0]), x12.2)))) else (gd ((l0_3.set (1 : Int).toNat 0).length + [0].length ≤ SMALL) (some (((l0_3.set (1 : Int).toNat 0) ++ [0]), x12.2))))) else (some ((l0_3.set (1 : Int).toNat 0), x10.2))))) else ((z00 x7.2 n).bind fun x21 => (if decide (x21.1 = 0) = true then ((z00 x21.2 2).bind fun x23 => (if decide (x23.1 = 0) = true then (if decide (0 < p) = true then ((z00 x23.2 p).bind fun x26 => ((z00 x26.2 2).bind fun x27 => ((getI [(-1), 5] x27.1).bind fun x28 => ((getI l0_3 x26.1).bind fun x29 => (some ((l0_3.set x26.1.toNat x28), x27.2)))))) else (gd (l0_3.length + [0].length ≤ SMALL) (some ((l0_3 ++ [0]), x23.2)))) else (gd (l0_3.length + [0].length ≤ SMALL) (some ((l0_3 ++ [0]), x23.2))))) else (some (l0_3, x21.2)))))) else ((z00 (GRd.mk s0_0 s0_1) n).bind fun x32 => (if decide (x32.1 = 0) = true then ((z00 x32.2 2).bind fun x34 => (if decide (x34.1 = 0) = true then (if decide (0 < p) = true then ((z00 x34.2 p).bind fun x37 => ((z00 x37.2 2).bind fun x38 => ((getI [(-1), 5] x38.1).bind fun x39 => ((getI l0_3 x37.1).bind fun x40 => (some ((l0_3.set x37.1.toNat x39), x38.2)))))) else (gd (l0_3.length + [0].length ≤ SMALL) (some ((l0_3 ++ [0]), x34.2)))) else (gd (l0_3.length + [0].length ≤ SMALL) (some ((l0_3 ++ [0]), x34.2))))) else (some (l0_3, x32.2))))
def z2b (p : Int) (kx0_0 : List Int → Int → List Int → Option ((List Int) × GRd)) : Nat → List Int → Int → Int → List Int → Option ((List Int) × GRd)
  | 0, _, _, _, _ => none
  | n0 + 1, s0_0, s0_1, s0_2, l0_3 => if decide (s0_2 < p) = true then ((z00 (GRd.mk s0_0 s0_1) 6).bind fun x2 => ((getI [0, 0, 1, 1, 2, 4] x2.1).bind fun x3 => (gd (l0_3.length + [x3].length ≤ SMALL) (gd (ok64 (s0_2 + 1)) ((z2b p kx0_0 n0) x2.2.b x2.2.p (s0_2 + 1) (l0_3 ++ [x3])))))) else (kx0_0 s0_0 s0_1 l0_3)
def z63 (r : GRd) (p : Int) (n : Int) : Option ((List Int) × GRd) := z2b p (z48 p n) FUEL r.b r.p 0 ([] : List Int)
def z1e : Con := ⟨103, [.ptr (.s .rd) false, .v .I false, .v .I false], [((.sl .I), true)], [(0, .ptr (.s .rd) false)], fun x => z63 x.1 x.2.1 x.2.2.1⟩
def y4y : Fs := ⟨[z8l], [], []⟩
theorem zm7 : y4y.Ok Try.prog := (fsK zd1 fs0)
def zd7 : Tmpl := ⟨[(0, .c (.bx 1000000 0)), (1, .c .i), (2, .c .i), (7, .c (.ref 9)), (8, .c .i)], [(1000000, .box [.s .Y, .i]), (9, .arr .I true)]⟩
def z9j : Tmpl := ⟨[(0, .c (.bx 1000000 0)), (1, .c .i), (2, .c .i), (7, .c (.ref 9))], [(1000000, .box [.s .Y, .i]), (9, .arr .I true)]⟩
def y16 (av : AV) (x : HP z1e.ps) (n : Nat) (v : zd7.den) (K : Ks (CR z1e)) : Option (CR z1e) := z2b v.1.2.1 (fun s0_0 s0_1 l0_3 => z9j.at none (((), v.1.2.1, v.1.2.2.1, (), ()), ((s0_0, s0_1, ()), l0_3, ())) (K (.exit 0))) n v.2.1.1 v.2.1.2.1 v.1.2.2.2.2.1 v.2.2.1
def zb3 (av : AV) (x : HP z1e.ps) : Hdl (CR z1e) := hnd [] zd7 (y16 av x)
theorem y1n : LP z1e Try.f103 [0] zb3 := lp_ok (W := []) (H := []) (xs := [z9j]) zm7 trivial rfl (fun av x v K => by kernel_rfl) (fun av x n v K => by kernel_rfl)
theorem y5t : z1e.Ok Try.prog := fn_ok (k := z1e) (fn := Try.f103) (W := []) (H := [zb3]) Try.func103 zm7 ⟨y1n, trivial⟩ rfl rfl (fun av x => by kernel_rfl)
def z4v (k : Int) (s0_0 : List Int) (s0_1 : Int) (l0_3 : List GItem) : Option ((List GItem) × GRd) := (z00 (GRd.mk s0_0 s0_1) k).bind fun x14 => (if decide (x14.1 = 0) = true then ((z00 x14.2 3).bind fun x16 => ((getI [(-1), 6, 0] x16.1).bind fun x17 => ((z00 x16.2 3).bind fun x18 => ((getI [0, 5, 1] x18.1).bind fun x19 => ((z00 x18.2 3).bind fun x20 => ((getI [(-1), 3, 0] x20.1).bind fun x21 => (gd (l0_3.length + [(GItem.mk x17 x19 x21)].length ≤ SMALL) (some ((l0_3 ++ [(GItem.mk x17 x19 x21)]), x20.2))))))))) else (some (l0_3, x14.2)))
def z1o (n : GNet) (kx0_0 : List Int → Int → List GItem → Option ((List GItem) × GRd)) : Nat → List Int → Int → Int → List GItem → Option ((List GItem) × GRd)
  | 0, _, _, _, _ => none
  | n0 + 1, s0_0, s0_1, s0_2, l0_3 => if decide (0 < s0_2) = true then ((z00 (GRd.mk s0_0 s0_1) (n.tasks.length : Int)).bind fun x3 => ((z00 x3.2 4).bind fun x4 => (gd (ok64 (1 + x4.1)) ((getI n.tasks x3.1).bind fun x6 => (if decide (1 < x6.need) = true then ((getI n.tasks x3.1).bind fun x8 => ((z00 x4.2 x8.need).bind fun x9 => (gd (l0_3.length + [(GItem.mk x3.1 (1 + x4.1) x9.1)].length ≤ SMALL) (gd (ok64 (s0_2 - 1)) ((z1o n kx0_0 n0) x9.2.b x9.2.p (s0_2 - 1) (l0_3 ++ [(GItem.mk x3.1 (1 + x4.1) x9.1)])))))) else (gd (l0_3.length + [(GItem.mk x3.1 (1 + x4.1) 0)].length ≤ SMALL) (gd (ok64 (s0_2 - 1)) ((z1o n kx0_0 n0) x4.2.b x4.2.p (s0_2 - 1) (l0_3 ++ [(GItem.mk x3.1 (1 + x4.1) 0)]))))))))) else (kx0_0 s0_0 s0_1 l0_3)
def z70 (r : GRd) (n : GNet) (k : Int) : Option ((List GItem) × GRd) := (z00 r 3).bind fun x1 => (z1o n (z4v k) FUEL x1.2.b x1.2.p x1.1 ([] : List GItem))
def z1x : Con := ⟨104, [.ptr (.s .rd) false, .v (.s .net) false, .v .I false], [((.sl (.s .item)), true)], [(0, .ptr (.s .rd) false)], fun x => z70 x.1 x.2.1 x.2.2.1⟩
def y7c : Fs := ⟨[z8l], [], []⟩
theorem zu6 : y7c.Ok Try.prog := (fsK zd1 fs0)
def zk1 : Tmpl := ⟨[(0, .c (.bx 1000000 0)), (2, .c .i), (4, .c (.bx 4 0)), (7, .c (.ref 11)), (8, .c .i)], [(1000000, .box [.s .Y, .i]), (4, .boxT (.s .net)), (11, .arr (.s .item) true)]⟩
def ze8 : Tmpl := ⟨[(0, .c (.bx 1000000 0)), (2, .c .i), (7, .c (.ref 11))], [(1000000, .box [.s .Y, .i]), (11, .arr (.s .item) true)]⟩
def y32 (av : AV) (x : HP z1x.ps) (n : Nat) (v : zk1.den) (K : Ks (CR z1x)) : Option (CR z1x) := z1o v.2.2.1 (fun s0_0 s0_1 l0_3 => ze8.at none (((), v.1.2.1, (), ()), ((s0_0, s0_1, ()), l0_3, ())) (K (.exit 0))) n v.2.1.1 v.2.1.2.1 v.1.2.2.2.2.1 v.2.2.2.1
def zi1 (av : AV) (x : HP z1x.ps) : Hdl (CR z1x) := hnd [] zk1 (y32 av x)
theorem y3p : LP z1x Try.f104 [0] zi1 := lp_ok (W := []) (H := []) (xs := [ze8]) zu6 trivial rfl (fun av x v K => by kernel_rfl) (fun av x n v K => by kernel_rfl)
theorem y8c : z1x.Ok Try.prog := fn_ok (k := z1x) (fn := Try.f104) (W := []) (H := [zi1]) Try.func104 zu6 ⟨y3p, trivial⟩ rfl rfl (fun av x => by kernel_rfl)
def z43 (r : GRd) (n : Int) : Option ((List Int) × GRd) := (z00 r 5).bind fun x1 => ((getI [[7], [7, 7], [1, 2, 4], [3, 5, 6, 7], [7, 3, 4]] x1.1).bind fun x2 => (gd (([] : List Int).length + x2.length ≤ SMALL) ((z00 x1.2 n).bind fun x4 => (if decide (x4.1 = 0) = true then ((z00 x4.2 3).bind fun x6 => (if decide (x6.1 = 0) = true then (some (([] : List Int), x6.2)) else (if decide (x6.1 = 1) = true then ((z00 x6.2 3).bind fun x9 => ((getI [(-1), 8, 0] x9.1).bind fun x10 => ((getI (([] : List Int) ++ x2) 0).bind fun x11 => (some (((([] : List Int) ++ x2).set (0 : Int).toNat x10), x9.2))))) else (some ([1, 1, 1, 1, 1], x6.2))))) else (some ((([] : List Int) ++ x2), x4.2))))))
def z7i : Con := ⟨99, [.ptr (.s .rd) false, .v .I false], [((.sl .I), true)], [(0, .ptr (.s .rd) false)], fun x => z43 x.1 x.2.1⟩
def y3d : Fs := ⟨[z8l], [], []⟩
theorem y3i : y3d.Ok Try.prog := (fsK zd1 fs0)
theorem y3x : z7i.Ok Try.prog := fn_ok (k := z7i) (fn := Try.f99) (W := []) (H := []) Try.func99 y3i trivial rfl rfl (fun av x => by kernel_rfl)
def z73 (r : GRd) (n : GNet) (p : List Int) (c : GCase) : Option (GCase × GRd) := if decide (0 < (c.busy.length : Int)) = true then ((z00 r 3).bind fun x2 => (if decide (0 < x2.1) = true then ((z00 x2.2 (c.busy.length : Int)).bind fun x4 => ((z00 x4.2 4).bind fun x5 => (gd (ok64 (x5.1 - 1)) ((z00 x5.2 7).bind fun x7 => (gd (ok64 (x7.1 - 2)) ((z46 n c x4.1 (x5.1 - 1) (x7.1 - 2)).bind fun x9 => (some (x9.1, x7.2)))))))) else ((z2w n c.marks c.busy).bind fun x10 => (if decide ((x10.length : Int) = 0) = true then (some (c, x2.2)) else ((z00 x2.2 (x10.length : Int)).bind fun x12 => ((getI x10 x12.1).bind fun x13 => ((z39 n p c.did c.busy x13).bind fun x14 => (if decide ((x14.length : Int) = 0) = true then (some (c, x12.2)) else ((z00 x12.2 (x14.length : Int)).bind fun x16 => ((getI x14 x16.1).bind fun x17 => ((z2v n p c x13 x17).bind fun x18 => (some (x18.1, x16.2))))))))))))) else ((z2w n c.marks c.busy).bind fun x19 => (if decide ((x19.length : Int) = 0) = true then (some (c, r)) else ((z00 r (x19.length : Int)).bind fun x21 => ((getI x19 x21.1).bind fun x22 => ((z39 n p c.did c.busy x22).bind fun x23 => (if decide ((x23.length : Int) = 0) = true then (some (c, x21.2)) else ((z00 x21.2 (x23.length : Int)).bind fun x25 => ((getI x23 x25.1).bind fun x26 => ((z2v n p c x22 x26).bind fun x27 => (some (x27.1, x25.2)))))))))))
def z9w : Con := ⟨66, [.ptr (.s .rd) false, .v (.s .net) false, .v (.sl .I) false, .v (.s .kase) true], [((.s .kase), true)], [(0, .ptr (.s .rd) false)], fun x => z73 x.1 x.2.1 x.2.2.1 x.2.2.2.1⟩
def y7h : Fs := ⟨[z8l, z52, z17, z0e, z5r], [], []⟩
theorem y7s : y7h.Ok Try.prog := (fsK zd1 (fsK za0 (fsK zp6 (fsK zg9 (fsK zp5 fs0)))))
theorem y8h : z9w.Ok Try.prog := fn_ok (k := z9w) (fn := Try.f66) (W := []) (H := []) Try.func66 y7s trivial rfl rfl (fun av x => by kernel_rfl)
def z66 (r : GRd) (n : GNet) (p : List Int) (c : GCase) : Option (GCase × GRd) := if decide (0 < (c.busy.length : Int)) = true then ((z00 r 3).bind fun x2 => (if decide (0 < x2.1) = true then ((z00 x2.2 (c.busy.length : Int)).bind fun x4 => ((z00 x4.2 4).bind fun x5 => (gd (ok64 (x5.1 - 1)) ((z00 x5.2 7).bind fun x7 => (gd (ok64 (x7.1 - 2)) ((z46 n c x4.1 (x5.1 - 1) (x7.1 - 2)).bind fun x9 => (some (x9.1, x7.2)))))))) else ((z2w n c.marks c.busy).bind fun x10 => (if decide ((x10.length : Int) = 0) = true then (some (c, x2.2)) else ((z00 x2.2 (x10.length : Int)).bind fun x12 => ((getI x10 x12.1).bind fun x13 => ((z39 n p c.did c.busy x13).bind fun x14 => (if decide ((x14.length : Int) = 0) = true then (some (c, x12.2)) else ((z00 x12.2 (x14.length : Int)).bind fun x16 => ((getI x14 x16.1).bind fun x17 => ((z2v n p c x13 x17).bind fun x18 => (some (x18.1, x16.2))))))))))))) else ((z2w n c.marks c.busy).bind fun x19 => (if decide ((x19.length : Int) = 0) = true then (some (c, r)) else ((z00 r (x19.length : Int)).bind fun x21 => ((getI x19 x21.1).bind fun x22 => ((z39 n p c.did c.busy x22).bind fun x23 => (if decide ((x23.length : Int) = 0) = true then (some (c, x21.2)) else ((z00 x21.2 (x23.length : Int)).bind fun x25 => ((getI x23 x25.1).bind fun x26 => ((z2v n p c x22 x26).bind fun x27 => (some (x27.1, x25.2)))))))))))
def z8n : Con := ⟨66, [.ptr (.s .rd) false, .v (.s .net) false, .v (.sl .I) false, .v (.s .kase) false], [((.s .kase), false)], [(0, .ptr (.s .rd) false)], fun x => z66 x.1 x.2.1 x.2.2.1 x.2.2.2.1⟩
def y50 : Fs := ⟨[z8l, z52, z17, z0e, z5r], [], []⟩
theorem y5b : y50.Ok Try.prog := (fsK zd1 (fsK za0 (fsK zp6 (fsK zg9 (fsK zp5 fs0)))))
theorem y5v : z8n.Ok Try.prog := fn_ok (k := z8n) (fn := Try.f66) (W := []) (H := []) Try.func66 y5b trivial rfl rfl (fun av x => by kernel_rfl)
end
end Go.Am
