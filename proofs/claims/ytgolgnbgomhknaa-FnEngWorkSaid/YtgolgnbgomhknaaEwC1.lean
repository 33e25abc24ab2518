/- Mirrors and contracts, printed. Own work. -/
import Derived.Test.YtgolgnbgomhknaaEwB5
set_option maxRecDepth 100000
set_option maxHeartbeats 4000000
set_option linter.unusedVariables false
set_option linter.unusedSimpArgs false
namespace Go.Am
noncomputable section
open Go Go.Proofs
def z00 (n : Int) (low : Int) (high : Int) : Option Bool := if decide (low ≤ n) = true then (some (decide (n ≤ high))) else (some false)
def z0c : Con := ⟨56, [.v .I false, .v .I false, .v .I false], [(.B, true)], [], fun x => z00 x.1 x.2.1 x.2.2.1⟩
def yu7 : Fs := ⟨[], [], []⟩
theorem yv0 : yu7.Ok Try.prog := fs0
theorem z0f : z0c.Ok Try.prog := fn_ok (k := z0c) (fn := Try.f56) (W := []) (H := []) Try.func56 yv0 trivial rfl rfl (fun av x => by kernel_rfl)
def zr2  : Option Bool := some true
def z3y (data : List Int) (kx0_0 : Option Bool) : Nat → Int → Option Bool
  | 0, _ => none
  | n0 + 1, s0_0 => if decide (s0_0 < (data.length : Int)) = true then ((getI data s0_0).bind fun x3 => ((z00 x3 (-99) 99).bind fun x4 => (if x4 = true then (gd (ok64 (s0_0 + 1)) ((z3y data kx0_0 n0) (s0_0 + 1))) else (some false)))) else (kx0_0)
def z1g (data : List Int) : Option Bool := if decide ((data.length : Int) = 3) = true then (z3y data zr2 FUEL 0) else (some false)
def z0o : Con := ⟨55, [.v (.sl .I) false], [(.B, true)], [], fun x => z1g x.1⟩
def ym2 : Fs := ⟨[z0c], [], []⟩
theorem y38 : ym2.Ok Try.prog := (fsK z0f fs0)
def zz0 : Tmpl := ⟨[(0, .c (.s .I)), (3, .c .i)], []⟩
def zu7 : Tmpl := ⟨[], []⟩
def y7s (av : AV) (x : HP z0o.ps) (n : Nat) (v : zz0.den) (K : Ks (CR z0o)) : Option (CR z0o) := z3y v.1.1 (zu7.at none ((), ()) (K (.exit 0))) n v.1.2.1
def zx6 (av : AV) (x : HP z0o.ps) : Hdl (CR z0o) := hnd [] zz0 (y7s av x)
theorem y8q : LP z0o Try.f55 [0] zx6 := lp_ok (W := []) (H := []) (xs := [zu7]) y38 trivial rfl (fun av x v K => by kernel_rfl) (fun av x n v K => by kernel_rfl)
theorem z3t : z0o.Ok Try.prog := fn_ok (k := z0o) (fn := Try.f55) (W := []) (H := [zx6]) Try.func55 y38 ⟨y8q, trivial⟩ rfl rfl (fun av x => by kernel_rfl)
def z46 (data : List Int) (k : Int) (n : Int) : Option (List Int) := (z1g data).bind fun x1 => (if x1 = true then ((z00 k 0 2).bind fun x3 => (if x3 = true then ((z00 n (-99) 99).bind fun x5 => (if x5 = true then (gd (([] : List Int).length + data.length ≤ SMALL) ((getI (([] : List Int) ++ data) k).bind fun x8 => (some ((([] : List Int) ++ data).set k.toNat n)))) else (gd (([] : List Int).length + data.length ≤ SMALL) (some (([] : List Int) ++ data))))) else (gd (([] : List Int).length + data.length ≤ SMALL) (some (([] : List Int) ++ data))))) else (gd (([] : List Int).length + data.length ≤ SMALL) (some (([] : List Int) ++ data))))
def z7x : Con := ⟨70, [.v (.sl .I) false, .v .I false, .v .I false], [((.sl .I), true)], [], fun x => z46 x.1 x.2.1 x.2.2.1⟩
def yb6 : Fs := ⟨[z0o, z0c], [], []⟩
theorem ye2 : yb6.Ok Try.prog := (fsK z3t (fsK z0f fs0))
theorem y1h : z7x.Ok Try.prog := fn_ok (k := z7x) (fn := Try.f70) (W := []) (H := []) Try.func70 ye2 trivial rfl rfl (fun av x => by kernel_rfl)
def z3p (e : GAsk) : Option Bool := if decide (e.op = 0) = true then (some (decide ([e.op, e.var, e.k] = [0, 0, 0]))) else ((z00 e.op 1 3).bind fun x2 => (if x2 = true then ((z00 e.var 0 2).bind fun x4 => (if x4 = true then ((z00 e.k (-99) 99).bind fun x6 => (some x6)) else (some false))) else (some false)))
def z4p : Con := ⟨133, [.v (.s .ask) false], [(.B, true)], [], fun x => z3p x.1⟩
def ym4 : Fs := ⟨[z0c], [], []⟩
theorem yn5 : ym4.Ok Try.prog := (fsK z0f fs0)
theorem z7c : z4p.Ok Try.prog := fn_ok (k := z4p) (fn := Try.f133) (W := []) (H := []) Try.func133 yn5 trivial rfl rfl (fun av x => by kernel_rfl)
def z0s (e : GAsk) (data : List Int) : Option Bool := (z3p e).bind fun x1 => (if x1 = true then ((z1g data).bind fun x3 => (if x3 = true then (if decide (e.op = 1) = true then ((getI data e.var).bind fun x6 => (some (decide (x6 < e.k)))) else (if decide (e.op = 2) = true then ((getI data e.var).bind fun x8 => (some (decide (x8 = e.k)))) else (if decide (e.op = 3) = true then ((getI data e.var).bind fun x10 => (some (decide (e.k < x10)))) else (some true)))) else (some false))) else (some false))
def z2l : Con := ⟨136, [.v (.s .ask) false, .v (.sl .I) false], [(.B, true)], [], fun x => z0s x.1 x.2.1⟩
def y5w : Fs := ⟨[z4p, z0o], [], []⟩
theorem y69 : y5w.Ok Try.prog := (fsK z7c (fsK z3t fs0))
theorem z45 : z2l.Ok Try.prog := fn_ok (k := z2l) (fn := Try.f136) (W := []) (H := []) Try.func136 y69 trivial rfl rfl (fun av x => by kernel_rfl)
def y1e (n : Int) (low : Int) (high : Int) : Option Bool := if decide (low ≤ n) = true then (some (decide (n ≤ high))) else (some false)
def y6a : Con := ⟨67, [.v .I false, .v .I false, .v .I false], [(.B, true)], [], fun x => y1e x.1 x.2.1 x.2.2.1⟩
def w2q : Fs := ⟨[], [], []⟩
theorem w31 : w2q.Ok Try.prog := fs0
theorem w3z : y6a.Ok Try.prog := fn_ok (k := y6a) (fn := Try.f67) (W := []) (H := []) Try.func67 w31 trivial rfl rfl (fun av x => by kernel_rfl)
def z6y (n : Int) : Option Bool := (y1e n (-99) 99).bind fun x1 => (some x1)
def za5 : Con := ⟨64, [.v .I false], [(.B, true)], [], fun x => z6y x.1⟩
def y82 : Fs := ⟨[y6a], [], []⟩
theorem y8j : y82.Ok Try.prog := (fsK w3z fs0)
theorem y90 : za5.Ok Try.prog := fn_ok (k := za5) (fn := Try.f64) (W := []) (H := []) Try.func64 y8j trivial rfl rfl (fun av x => by kernel_rfl)
def zd8  : Option Bool := some true
def z27 (list : List Int) (low : Int) (high : Int) (kx0_0 : Option Bool) : Nat → Int → Option Bool
  | 0, _ => none
  | n0 + 1, s0_0 => if decide (s0_0 < (list.length : Int)) = true then ((getI list s0_0).bind fun x4 => ((z00 x4 low high).bind fun x5 => (if x5 = true then (if decide (0 < s0_0) = true then (gd (ok64 (s0_0 - 1)) ((getI list (s0_0 - 1)).bind fun x9 => ((getI list s0_0).bind fun x10 => (if decide (x10 ≤ x9) = true then (some false) else (gd (ok64 (s0_0 + 1)) ((z27 list low high kx0_0 n0) (s0_0 + 1))))))) else (gd (ok64 (s0_0 + 1)) ((z27 list low high kx0_0 n0) (s0_0 + 1)))) else (some false)))) else (kx0_0)
def z59 (list : List Int) (least : Int) (most : Int) (low : Int) (high : Int) : Option Bool := (z00 (list.length : Int) least most).bind fun x1 => (if x1 = true then (z27 list low high zd8 FUEL 0) else (some false))
def z2h : Con := ⟨161, [.v (.sl .I) false, .v .I false, .v .I false, .v .I false, .v .I false], [(.B, true)], [], fun x => z59 x.1 x.2.1 x.2.2.1 x.2.2.2.1 x.2.2.2.2.1⟩
def y8h : Fs := ⟨[z0c], [], []⟩
theorem zx4 : y8h.Ok Try.prog := (fsK z0f fs0)
def zm4 : Tmpl := ⟨[(0, .c (.s .I)), (3, .c .i), (4, .c .i), (11, .c .i)], []⟩
def zg6 : Tmpl := ⟨[], []⟩
def y41 (av : AV) (x : HP z2h.ps) (n : Nat) (v : zm4.den) (K : Ks (CR z2h)) : Option (CR z2h) := z27 v.1.1 v.1.2.1 v.1.2.2.1 (zg6.at none ((), ()) (K (.exit 0))) n v.1.2.2.2.1
def zj9 (av : AV) (x : HP z2h.ps) : Hdl (CR z2h) := hnd [] zm4 (y41 av x)
theorem y4n : LP z2h Try.f161 [0] zj9 := lp_ok (W := []) (H := []) (xs := [zg6]) zx4 trivial rfl (fun av x v K => by kernel_rfl) (fun av x n v K => by kernel_rfl)
theorem y9c : z2h.Ok Try.prog := fn_ok (k := z2h) (fn := Try.f161) (W := []) (H := [zj9]) Try.func161 zx4 ⟨y4n, trivial⟩ rfl rfl (fun av x => by kernel_rfl)
def zs2  : Option Bool := some false
def z44 (list : List Int) (n : Int) (kx0_0 : Option Bool) : Nat → Int → Option Bool
  | 0, _ => none
  | n0 + 1, s0_0 => if decide (s0_0 < (list.length : Int)) = true then ((getI list s0_0).bind fun x2 => (if decide (x2 = n) = true then (some true) else (gd (ok64 (s0_0 + 1)) ((z44 list n kx0_0 n0) (s0_0 + 1))))) else (kx0_0)
def z5m (list : List Int) (n : Int) : Option Bool := z44 list n zs2 FUEL 0
def z2m : Con := ⟨146, [.v (.sl .I) false, .v .I false], [(.B, true)], [], fun x => z5m x.1 x.2.1⟩
def yn0 : Fs := ⟨[], [], []⟩
theorem y3e : yn0.Ok Try.prog := fs0
def zz7 : Tmpl := ⟨[(0, .c (.s .I)), (1, .c .i), (5, .c .i)], []⟩
def zv3 : Tmpl := ⟨[], []⟩
def y7z (av : AV) (x : HP z2m.ps) (n : Nat) (v : zz7.den) (K : Ks (CR z2m)) : Option (CR z2m) := z44 v.1.1 v.1.2.1 (zv3.at none ((), ()) (K (.exit 0))) n v.1.2.2.1
def zy3 (av : AV) (x : HP z2m.ps) : Hdl (CR z2m) := hnd [] zz7 (y7z av x)
theorem y8x : LP z2m Try.f146 [0] zy3 := lp_ok (W := []) (H := []) (xs := [zv3]) y3e trivial rfl (fun av x v K => by kernel_rfl) (fun av x n v K => by kernel_rfl)
theorem zs6 : z2m.Ok Try.prog := fn_ok (k := z2m) (fn := Try.f146) (W := []) (H := [zy3]) Try.func146 y3e ⟨y8x, trivial⟩ rfl rfl (fun av x => by kernel_rfl)
def zd5 (s0_0 : Int) (bk0 : Int → Option Bool) : Option Bool := gd (ok64 (s0_0 + 1)) (bk0 (s0_0 + 1))
def z1i (t : GTask) (s0_0 : Int) (x4 : GFlow) (kx1_0 : Option Bool) : Nat → Int → Option Bool
  | 0, _ => none
  | n1 + 1, s1_0 => if decide (s1_0 < s0_0) = true then ((getI t.out s1_0).bind fun x14 => (if decide (x14.to = x4.to) = true then (some false) else (gd (ok64 (s1_0 + 1)) ((z1i t s0_0 x4 kx1_0 n1) (s1_0 + 1))))) else (kx1_0)
def zd6 (s0_0 : Int) (bk0 : Int → Option Bool) : Option Bool := gd (ok64 (s0_0 + 1)) (bk0 (s0_0 + 1))
def zd7  : Option Bool := some true
def z26 (t : GTask) (places : Int) (kx0_0 : Option Bool) : Nat → Int → Option Bool
  | 0, _ => none
  | n0 + 1, s0_0 => if decide (s0_0 < (t.out.length : Int)) = true then ((getI t.out s0_0).bind fun x4 => (gd (ok64 ((t.out.length : Int) - 1)) (if decide (s0_0 = ((t.out.length : Int) - 1)) = true then (gd (ok64 (places - 1)) ((z00 x4.to 1 (places - 1)).bind fun x8 => (if x8 = true then ((z3p x4.if_).bind fun x10 => (if x10 = true then (if (true == (decide (x4.if_.op = 0))) = true then (z1i t s0_0 x4 (zd5 s0_0 (z26 t places kx0_0 n0)) FUEL 0) else (some false)) else (some false))) else (some false)))) else (gd (ok64 (places - 1)) ((z00 x4.to 1 (places - 1)).bind fun x19 => (if x19 = true then ((z3p x4.if_).bind fun x21 => (if x21 = true then (if ((decide (t.split = 1)) == (decide (x4.if_.op = 0))) = true then (z1i t s0_0 x4 (zd6 s0_0 (z26 t places kx0_0 n0)) FUEL 0) else (some false)) else (some false))) else (some false))))))) else (kx0_0)
def z78 (t : GTask) (places : Int) : Option Bool := (z00 (t.out.length : Int) 1 3).bind fun x1 => (if x1 = true then (z26 t places zd7 FUEL 0) else (some false))
def z0j : Con := ⟨162, [.v (.s .task) false, .v .I false], [(.B, true)], [], fun x => z78 x.1 x.2.1⟩
def y8g : Fs := ⟨[z0c, z4p], [], []⟩
theorem za4 : y8g.Ok Try.prog := (fsK z0f (fsK z7c fs0))
def z9p : Tmpl := ⟨[(1, .c .i), (2, .c (.bx 2 0)), (5, .c .i), (6, .c (.bx 6 0)), (8, .c .i)], [(2, .boxT (.s .task)), (6, .boxT (.s .flow))]⟩
def z8z : Tmpl := ⟨[(1, .c .i), (2, .c (.bx 2 0)), (5, .c .i)], [(2, .boxT (.s .task))]⟩
def y0g (av : AV) (x : HP z0j.ps) (n : Nat) (v : z9p.den) (K : Ks (CR z0j)) : Option (CR z0j) := z1i v.2.1 v.1.2.2.1 v.2.2.1 (z8z.at none ((v.1.1, (), v.1.2.2.1, ()), (v.2.1, ())) (K (.exit 2))) n v.1.2.2.2.2.1
def z98 (av : AV) (x : HP z0j.ps) : Hdl (CR z0j) := hnd [] z9p (y0g av x)
theorem y1b : LP z0j Try.f162 [0, 0] z98 := lp_ok (W := []) (H := []) (xs := [z8z]) za4 trivial rfl (fun av x v K => by kernel_rfl) (fun av x n v K => by kernel_rfl)
def zm3 : Tmpl := ⟨[(1, .c .i), (2, .c (.bx 2 0)), (5, .c .i)], [(2, .boxT (.s .task))]⟩
def zg5 : Tmpl := ⟨[], []⟩
def y40 (av : AV) (x : HP z0j.ps) (n : Nat) (v : zm3.den) (K : Ks (CR z0j)) : Option (CR z0j) := z26 v.2.1 v.1.1 (zg5.at none ((), ()) (K (.exit 0))) n v.1.2.2.1
def zj8 (av : AV) (x : HP z0j.ps) : Hdl (CR z0j) := hnd [] zm3 (y40 av x)
theorem y4m : LP z0j Try.f162 [0] zj8 := lp_ok (W := []) (H := [z98]) (xs := [zg5]) za4 ⟨y1b, trivial⟩ rfl (fun av x v K => by kernel_rfl) (fun av x n v K => by kernel_rfl)
theorem y9b : z0j.Ok Try.prog := fn_ok (k := z0j) (fn := Try.f162) (W := []) (H := [zj8]) Try.func162 za4 ⟨y4m, trivial⟩ rfl rfl (fun av x => by kernel_rfl)
def z87 (t : GTask) (places : Int) (tasks : Int) : Option Bool := (z00 t.join 1 3).bind fun x1 => (if x1 = true then ((z00 t.split 1 3).bind fun x3 => (if x3 = true then (gd (ok64 (places - 1)) ((z59 t.in_ 1 3 0 (places - 1)).bind fun x6 => (if x6 = true then ((z5m t.in_ 1).bind fun x8 => (if x8 = true then (some false) else ((z78 t places).bind fun x10 => (if x10 = true then (gd (ok64 (places - 1)) ((z59 t.clear 0 places 2 (places - 1)).bind fun x13 => (if x13 = true then ((z00 t.role 1 3).bind fun x15 => (if x15 = true then (gd (ok64 (tasks - 1)) ((z00 t.apart (-1) (tasks - 1)).bind fun x18 => (if x18 = true then ((z00 t.all 1 3).bind fun x20 => (if x20 = true then ((z00 t.need 1 t.all).bind fun x22 => (some x22)) else (some false))) else (some false)))) else (some false))) else (some false)))) else (some false))))) else (some false)))) else (some false))) else (some false))
def zh2 : Con := ⟨140, [.v (.s .task) false, .v .I false, .v .I false], [(.B, true)], [], fun x => z87 x.1 x.2.1 x.2.2.1⟩
def yc8 : Fs := ⟨[z0c, z2h, z2m, z0j], [], []⟩
theorem ye9 : yc8.Ok Try.prog := (fsK z0f (fsK y9c (fsK zs6 (fsK y9b fs0))))
theorem yh1 : zh2.Ok Try.prog := fn_ok (k := zh2) (fn := Try.f140) (W := []) (H := []) Try.func140 ye9 trivial rfl rfl (fun av x => by kernel_rfl)
def zr5  : Option Bool := some true
def z41 (n : GNet) (kx0_0 : Option Bool) : Nat → Int → Option Bool
  | 0, _ => none
  | n0 + 1, s0_0 => if decide (s0_0 < (n.tasks.length : Int)) = true then ((getI n.tasks s0_0).bind fun x6 => ((z87 x6 n.places (n.tasks.length : Int)).bind fun x7 => (if x7 = true then (gd (ok64 (s0_0 + 1)) ((z41 n kx0_0 n0) (s0_0 + 1))) else (some false)))) else (kx0_0)
def z1x (n : GNet) : Option Bool := (z00 n.places 2 8).bind fun x1 => (if x1 = true then ((z00 (n.tasks.length : Int) 1 6).bind fun x3 => (if x3 = true then (z41 n zr5 FUEL 0) else (some false))) else (some false))
def z1e : Con := ⟨105, [.v (.s .net) false], [(.B, true)], [], fun x => z1x x.1⟩
def ym6 : Fs := ⟨[z0c, zh2], [], []⟩
theorem y3b : ym6.Ok Try.prog := (fsK z0f (fsK yh1 fs0))
def zz3 : Tmpl := ⟨[(1, .c (.bx 1 0)), (3, .c .i)], [(1, .boxT (.s .net))]⟩
def zv0 : Tmpl := ⟨[], []⟩
def y7v (av : AV) (x : HP z1e.ps) (n : Nat) (v : zz3.den) (K : Ks (CR z1e)) : Option (CR z1e) := z41 v.2.1 (zv0.at none ((), ()) (K (.exit 0))) n v.1.2.1
def zx9 (av : AV) (x : HP z1e.ps) : Hdl (CR z1e) := hnd [] zz3 (y7v av x)
theorem y8t : LP z1e Try.f105 [0] zx9 := lp_ok (W := []) (H := []) (xs := [zv0]) y3b trivial rfl (fun av x v K => by kernel_rfl) (fun av x n v K => by kernel_rfl)
theorem z7d : z1e.Ok Try.prog := fn_ok (k := z1e) (fn := Try.f105) (W := []) (H := [zx9]) Try.func105 y3b ⟨y8t, trivial⟩ rfl rfl (fun av x => by kernel_rfl)
def z6a (s1_0 : Int) (bk1 : Int → List Bool → Option (List Bool)) (l3_1 : List Bool) : Option (List Bool) := gd (ok64 (s1_0 + 1)) (bk1 (s1_0 + 1) l3_1)
def z6b (s1_0 : Int) (bk1 : Int → List Bool → Option (List Bool)) (l3_1 : List Bool) : Option (List Bool) := gd (ok64 (s1_0 + 1)) (bk1 (s1_0 + 1) l3_1)
def z6c (s1_0 : Int) (bk1 : Int → List Bool → Option (List Bool)) (l3_1 : List Bool) : Option (List Bool) := gd (ok64 (s1_0 + 1)) (bk1 (s1_0 + 1) l3_1)
def z0v (n : GNet) (but : Int) (s1_0 : Int) (s2_0 : Bool) (kx3_0 : List Bool → Option (List Bool)) (kx3_1 : List Bool → Option (List Bool)) (kx3_2 : List Bool → Option (List Bool)) : Nat → Int → List Bool → Option (List Bool)
  | 0, _, _ => none
  | n3 + 1, s3_0, l3_1 => (getI n.tasks s1_0).bind fun x12 => (if decide (s3_0 < (x12.out.length : Int)) = true then (if s2_0 = true then (if decide (s1_0 = but) = true then (kx3_0 l3_1) else ((getI n.tasks s1_0).bind fun x17 => ((getI x17.out s3_0).bind fun x18 => ((getI l3_1 x18.to).bind fun x19 => (gd (ok64 (s3_0 + 1)) ((z0v n but s1_0 s2_0 kx3_0 kx3_1 kx3_2 n3) (s3_0 + 1) (l3_1.set x18.to.toNat true))))))) else (kx3_1 l3_1)) else (kx3_2 l3_1))
def z9c (n : GNet) (but : Int) (s1_0 : Int) (l1_1 : List Bool) (bk1 : Int → List Bool → Option (List Bool)) (s2_0 : Bool) : Option (List Bool) := z0v n but s1_0 s2_0 (z6a s1_0 bk1) (z6b s1_0 bk1) (z6c s1_0 bk1) FUEL 0 l1_1
def z13 (n : GNet) (s1_0 : Int) (l1_1 : List Bool) (kx2_0 : Bool → Option (List Bool)) : Nat → Bool → Int → Option (List Bool)
  | 0, _, _ => none
  | n2 + 1, s2_0, s2_1 => (getI n.tasks s1_0).bind fun x4 => (if decide (s2_1 < (x4.in_.length : Int)) = true then (if s2_0 = true then (gd (ok64 (s2_1 + 1)) ((z13 n s1_0 l1_1 kx2_0 n2) true (s2_1 + 1))) else ((getI n.tasks s1_0).bind fun x8 => ((getI x8.in_ s2_1).bind fun x9 => ((getI l1_1 x9).bind fun x10 => (gd (ok64 (s2_1 + 1)) ((z13 n s1_0 l1_1 kx2_0 n2) x10 (s2_1 + 1))))))) else (kx2_0 s2_0))
def z9d (s0_0 : Int) (bk0 : Int → List Bool → Option (List Bool)) (l1_1 : List Bool) : Option (List Bool) := gd (ok64 (s0_0 + 1)) (bk0 (s0_0 + 1) l1_1)
def z09 (n : GNet) (but : Int) (kx1_0 : List Bool → Option (List Bool)) : Nat → Int → List Bool → Option (List Bool)
  | 0, _, _ => none
  | n1 + 1, s1_0, l1_1 => if decide (s1_0 < (n.tasks.length : Int)) = true then (z13 n s1_0 l1_1 (z9c n but s1_0 l1_1 (z09 n but kx1_0 n1)) FUEL false 0) else (kx1_0 l1_1)
def z9e (l0_1 : List Bool) : Option (List Bool) := some l0_1
def z2q (n : GNet) (but : Int) (kx0_0 : List Bool → Option (List Bool)) : Nat → Int → List Bool → Option (List Bool)
  | 0, _, _ => none
  | n0 + 1, s0_0, l0_1 => if decide (s0_0 < n.places) = true then (z09 n but (z9d s0_0 (z2q n but kx0_0 n0)) FUEL 0 l0_1) else (kx0_0 l0_1)
def z69 (n : GNet) (marked : List Bool) (but : Int) : Option (List Bool) := gd (([] : List Bool).length + marked.length ≤ SMALL) (z2q n but z9e FUEL 0 (([] : List Bool) ++ marked))
def z04 : Con := ⟨173, [.v (.s .net) false, .v (.sl .B) false, .v .I false], [((.sl .B), true)], [], fun x => z69 x.1 x.2.1 x.2.2.1⟩
def y61 : Fs := ⟨[], [], []⟩
theorem z4m : y61.Ok Try.prog := fs0
def z7f : Tmpl := ⟨[(2, .c .i), (3, .c (.bx 3 0)), (7, .c (.ref 15)), (8, .c .i), (9, .c .i), (10, .c .b), (11, .c .i)], [(3, .boxT (.s .net)), (15, .arr .B true)]⟩
def z6m : Tmpl := ⟨[(2, .c .i), (3, .c (.bx 3 0)), (7, .c (.ref 15)), (8, .c .i), (9, .c .i), (10, .c .b)], [(3, .boxT (.s .net)), (15, .arr .B true)]⟩
def zn9 (av : AV) (x : HP z04.ps) (n : Nat) (v : z7f.den) (K : Ks (CR z04)) : Option (CR z04) := z13 v.2.1 v.1.2.2.2.2.1 v.2.2.1 (fun s2_0 => z6m.at none ((v.1.1, (), (), v.1.2.2.2.1, v.1.2.2.2.2.1, s2_0, ()), (v.2.1, v.2.2.1, ())) (K (.exit 4))) n v.1.2.2.2.2.2.1 v.1.2.2.2.2.2.2.1
def z79 (av : AV) (x : HP z04.ps) : Hdl (CR z04) := hnd [] z7f (zn9 av x)
theorem zq9 : LP z04 Try.f173 [0, 0, 0] z79 := lp_ok (W := []) (H := []) (xs := [z6m]) z4m trivial rfl (fun av x v K => by kernel_rfl) (fun av x n v K => by kernel_rfl)
def z7g : Tmpl := ⟨[(2, .c .i), (3, .c (.bx 3 0)), (7, .c (.ref 15)), (8, .c .i), (9, .c .i), (10, .c .b), (12, .c .i)], [(3, .boxT (.s .net)), (15, .arr .B true)]⟩
def z3c : Tmpl := ⟨[(2, .c .i), (3, .c (.bx 3 0)), (7, .c (.ref 15)), (8, .c .i), (9, .c .i)], [(3, .boxT (.s .net)), (15, .arr .B true)]⟩
def zo0 (av : AV) (x : HP z04.ps) (n : Nat) (v : z7g.den) (K : Ks (CR z04)) : Option (CR z04) := z0v v.2.1 v.1.1 v.1.2.2.2.2.1 v.1.2.2.2.2.2.1 (fun l3_1 => z3c.at none ((v.1.1, (), (), v.1.2.2.2.1, v.1.2.2.2.2.1, ()), (v.2.1, l3_1, ())) (K (.exit 6))) (fun l3_1 => z3c.at none ((v.1.1, (), (), v.1.2.2.2.1, v.1.2.2.2.2.1, ()), (v.2.1, l3_1, ())) (K (.exit 6))) (fun l3_1 => z3c.at none ((v.1.1, (), (), v.1.2.2.2.1, v.1.2.2.2.2.1, ()), (v.2.1, l3_1, ())) (K (.exit 6))) n v.1.2.2.2.2.2.2.1 v.2.2.1
def z7a (av : AV) (x : HP z04.ps) : Hdl (CR z04) := hnd [] z7g (zo0 av x)
theorem zr0 : LP z04 Try.f173 [0, 0, 1] z7a := lp_ok (W := []) (H := []) (xs := [z3c]) z4m trivial rfl (fun av x v K => by kernel_rfl) (fun av x n v K => by kernel_rfl)
def z8s : Tmpl := ⟨[(2, .c .i), (3, .c (.bx 3 0)), (7, .c (.ref 15)), (8, .c .i), (9, .c .i)], [(3, .boxT (.s .net)), (15, .arr .B true)]⟩
def z7s : Tmpl := ⟨[(2, .c .i), (3, .c (.bx 3 0)), (7, .c (.ref 15)), (8, .c .i)], [(3, .boxT (.s .net)), (15, .arr .B true)]⟩
def zz8 (av : AV) (x : HP z04.ps) (n : Nat) (v : z8s.den) (K : Ks (CR z04)) : Option (CR z04) := z09 v.2.1 v.1.1 (fun l1_1 => z7s.at none ((v.1.1, (), (), v.1.2.2.2.1, ()), (v.2.1, l1_1, ())) (K (.exit 2))) n v.1.2.2.2.2.1 v.2.2.1
def z8i (av : AV) (x : HP z04.ps) : Hdl (CR z04) := hnd [] z8s (zz8 av x)
theorem y05 : LP z04 Try.f173 [0, 0] z8i := lp_ok (W := []) (H := [z79, z7a]) (xs := [z7s]) z4m ⟨zq9, zr0, trivial⟩ rfl (fun av x v K => by kernel_rfl) (fun av x n v K => by kernel_rfl)
def zf1 : Tmpl := ⟨[(2, .c .i), (3, .c (.bx 3 0)), (7, .c (.ref 15)), (8, .c .i)], [(3, .boxT (.s .net)), (15, .arr .B true)]⟩
def z9x : Tmpl := ⟨[(7, .c (.ref 15))], [(15, .arr .B true)]⟩
def y2e (av : AV) (x : HP z04.ps) (n : Nat) (v : zf1.den) (K : Ks (CR z04)) : Option (CR z04) := z2q v.2.1 v.1.1 (fun l0_1 => z9x.at none (((), ()), (l0_1, ())) (K (.exit 0))) n v.1.2.2.2.1 v.2.2.1
def zc4 (av : AV) (x : HP z04.ps) : Hdl (CR z04) := hnd [] zf1 (y2e av x)
theorem y2t : LP z04 Try.f173 [0] zc4 := lp_ok (W := []) (H := [z8i]) (xs := [z9x]) z4m ⟨y05, trivial⟩ rfl (fun av x v K => by kernel_rfl) (fun av x n v K => by kernel_rfl)
theorem y6x : z04.Ok Try.prog := fn_ok (k := z04) (fn := Try.f173) (W := []) (H := [zc4]) Try.func173 z4m ⟨y2t, trivial⟩ rfl rfl (fun av x => by kernel_rfl)
def zr4  : Option Bool := some true
def z40 (marks : List Int) (kx0_0 : Option Bool) : Nat → Int → Option Bool
  | 0, _ => none
  | n0 + 1, s0_0 => if decide (s0_0 < (marks.length : Int)) = true then ((getI marks s0_0).bind fun x5 => ((z00 x5 0 4).bind fun x6 => (if x6 = true then (gd (ok64 (s0_0 + 1)) ((z40 marks kx0_0 n0) (s0_0 + 1))) else (some false)))) else (kx0_0)
def z4s (n : GNet) (marks : List Int) : Option Bool := (z1x n).bind fun x1 => (if x1 = true then (if decide ((marks.length : Int) = n.places) = true then (z40 marks zr4 FUEL 0) else (some false)) else (some false))
def z1v : Con := ⟨53, [.v (.s .net) false, .v (.sl .I) false], [(.B, true)], [], fun x => z4s x.1 x.2.1⟩
def ym5 : Fs := ⟨[z1e, z0c], [], []⟩
theorem y3a : ym5.Ok Try.prog := (fsK z7d (fsK z0f fs0))
def zz2 : Tmpl := ⟨[(1, .c (.s .I)), (5, .c .i)], []⟩
def zu9 : Tmpl := ⟨[], []⟩
def y7u (av : AV) (x : HP z1v.ps) (n : Nat) (v : zz2.den) (K : Ks (CR z1v)) : Option (CR z1v) := z40 v.1.1 (zu9.at none ((), ()) (K (.exit 0))) n v.1.2.1
def zx8 (av : AV) (x : HP z1v.ps) : Hdl (CR z1v) := hnd [] zz2 (y7u av x)
theorem y8s : LP z1v Try.f53 [0] zx8 := lp_ok (W := []) (H := []) (xs := [zu9]) y3a trivial rfl (fun av x v K => by kernel_rfl) (fun av x n v K => by kernel_rfl)
theorem z9h : z1v.Ok Try.prog := fn_ok (k := z1v) (fn := Try.f53) (W := []) (H := [zx8]) Try.func53 y3a ⟨y8s, trivial⟩ rfl rfl (fun av x => by kernel_rfl)
def z5g (s0_0 : Bool) (s0_1 : Bool) : Option (Bool × Bool) := some (s0_0, s0_1)
def z10 (marks : List Int) (list : List Int) (kx0_0 : Bool → Bool → Option (Bool × Bool)) : Nat → Bool → Bool → Int → Option (Bool × Bool)
  | 0, _, _, _ => none
  | n0 + 1, s0_0, s0_1, s0_2 => if decide (s0_2 < (list.length : Int)) = true then (if s0_0 = true then (if s0_1 = true then ((getI list s0_2).bind fun x4 => ((getI marks x4).bind fun x5 => (gd (ok64 (s0_2 + 1)) ((z10 marks list kx0_0 n0) true (decide (0 < x5)) (s0_2 + 1))))) else (gd (ok64 (s0_2 + 1)) ((z10 marks list kx0_0 n0) true false (s0_2 + 1)))) else ((getI list s0_2).bind fun x8 => ((getI marks x8).bind fun x9 => (if s0_1 = true then ((getI list s0_2).bind fun x11 => ((getI marks x11).bind fun x12 => (gd (ok64 (s0_2 + 1)) ((z10 marks list kx0_0 n0) (decide (0 < x9)) (decide (0 < x12)) (s0_2 + 1))))) else (gd (ok64 (s0_2 + 1)) ((z10 marks list kx0_0 n0) (decide (0 < x9)) false (s0_2 + 1))))))) else (kx0_0 s0_0 s0_1)
def z88 (marks : List Int) (list : List Int) : Option (Bool × Bool) := z10 marks list z5g FUEL false true 0
def z31 : Con := ⟨167, [.v (.sl .I) false, .v (.sl .I) false], [(.B, true), (.B, true)], [], fun x => z88 x.1 x.2.1⟩
def yd0 : Fs := ⟨[], [], []⟩
theorem y0z : yd0.Ok Try.prog := fs0
def zt9 : Tmpl := ⟨[(0, .c (.s .I)), (1, .c (.s .I)), (6, .c .b), (7, .c .b), (8, .c .i)], []⟩
def zn3 : Tmpl := ⟨[(6, .c .b), (7, .c .b)], []⟩
def y5f (av : AV) (x : HP z31.ps) (n : Nat) (v : zt9.den) (K : Ks (CR z31)) : Option (CR z31) := z10 v.1.1 v.1.2.1 (fun s0_0 s0_1 => zn3.at none ((s0_0, s0_1, ()), ()) (K (.exit 0))) n v.1.2.2.1 v.1.2.2.2.1 v.1.2.2.2.2.1
def zp9 (av : AV) (x : HP z31.ps) : Hdl (CR z31) := hnd [] zt9 (y5f av x)
theorem y6j : LP z31 Try.f167 [0] zp9 := lp_ok (W := []) (H := []) (xs := [zn3]) y0z trivial rfl (fun av x v K => by kernel_rfl) (fun av x n v K => by kernel_rfl)
theorem yh2 : z31.Ok Try.prog := fn_ok (k := z31) (fn := Try.f167) (W := []) (H := [zp9]) Try.func167 y0z ⟨y6j, trivial⟩ rfl rfl (fun av x => by kernel_rfl)
def z2s (s1_0 : Int) (bk1 : Int → List Bool → Option Bool) (l2_1 : List Bool) : Option Bool := gd (ok64 (s1_0 + 1)) (bk1 (s1_0 + 1) l2_1)
def z1t (p2_0 : List GFlow) (kx2_0 : List Bool → Option Bool) : Nat → Int → List Bool → Option Bool
  | 0, _, _ => none
  | n2 + 1, s2_0, l2_1 => if decide (s2_0 < (p2_0.length : Int)) = true then ((getI p2_0 s2_0).bind fun x15 => ((getI l2_1 x15.to).bind fun x16 => (gd (ok64 (s2_0 + 1)) ((z1t p2_0 kx2_0 n2) (s2_0 + 1) (l2_1.set x15.to.toNat true))))) else (kx2_0 l2_1)
def z6f  : Option Bool := some false
def z16 (n : GNet) (marks : List Int) (t : Int) (x19 : (List Bool)) (kx3_0 : Option Bool) : Nat → Int → Option Bool
  | 0, _ => none
  | n3 + 1, s3_0 => (getI n.tasks t).bind fun x20 => (if decide (s3_0 < (x20.in_.length : Int)) = true then ((getI n.tasks t).bind fun x22 => ((getI x22.in_ s3_0).bind fun x23 => ((getI marks x23).bind fun x24 => (if decide (x24 = 0) = true then ((getI n.tasks t).bind fun x26 => ((getI x26.in_ s3_0).bind fun x27 => ((getI x19 x27).bind fun x28 => (if x28 = true then (some true) else (gd (ok64 (s3_0 + 1)) ((z16 n marks t x19 kx3_0 n3) (s3_0 + 1))))))) else (gd (ok64 (s3_0 + 1)) ((z16 n marks t x19 kx3_0 n3) (s3_0 + 1))))))) else (kx3_0))
def z14 (n : GNet) (marks : List Int) (t : Int) (l1_1 : List Bool) : Option Bool := (z69 n l1_1 t).bind fun x19 => (z16 n marks t x19 z6f FUEL 0)
def z0n (n : GNet) (busy : List GItem) (kx1_0 : List Bool → Option Bool) : Nat → Int → List Bool → Option Bool
  | 0, _, _ => none
  | n1 + 1, s1_0, l1_1 => if decide (s1_0 < (busy.length : Int)) = true then ((getI busy s1_0).bind fun x12 => ((getI n.tasks x12.task).bind fun x13 => (z1t x13.out (z2s s1_0 (z0n n busy kx1_0 n1)) FUEL 0 l1_1))) else (kx1_0 l1_1)
def z2r (n : GNet) (marks : List Int) (busy : List GItem) (t : Int) (l0_1 : List Bool) : Option Bool := z0n n busy (z14 n marks t) FUEL 0 l0_1
def z15 (n : GNet) (marks : List Int) (t : Int) (kx0_0 : List Bool → Option Bool) : Nat → Int → List Bool → Option Bool
  | 0, _, _ => none
  | n0 + 1, s0_0, l0_1 => if decide (s0_0 < n.places) = true then ((getI marks s0_0).bind fun x3 => (if decide (0 < x3) = true then ((getI n.tasks t).bind fun x5 => ((z5m x5.in_ s0_0).bind fun x6 => ((getI l0_1 s0_0).bind fun x7 => (gd (ok64 (s0_0 + 1)) ((z15 n marks t kx0_0 n0) (s0_0 + 1) (l0_1.set s0_0.toNat (!x6))))))) else ((getI l0_1 s0_0).bind fun x9 => (gd (ok64 (s0_0 + 1)) ((z15 n marks t kx0_0 n0) (s0_0 + 1) (l0_1.set s0_0.toNat false)))))) else (kx0_0 l0_1)
def z6e (n : GNet) (marks : List Int) (busy : List GItem) (t : Int) : Option Bool := gd ((0 : Int) ≤ n.places ∧ n.places ≤ (1000000000 : Int)) (z15 n marks t (z2r n marks busy t) FUEL 0 (List.replicate n.places.toNat false))
def z05 : Con := ⟨168, [.v (.s .net) false, .v (.sl .I) false, .v (.sl (.s .item)) false, .v .I false], [(.B, true)], [], fun x => z6e x.1 x.2.1 x.2.2.1 x.2.2.2.1⟩
def y62 : Fs := ⟨[z2m, z04], [], []⟩
theorem z4n : y62.Ok Try.prog := (fsK zs6 (fsK y6x fs0))
def z8t : Tmpl := ⟨[(1, .c (.s .I)), (2, .c (.s (.s .item))), (3, .c .i), (4, .c (.bx 4 0)), (9, .c (.ref 18)), (11, .c .i), (12, .c (.s (.s .flow))), (13, .c .i)], [(4, .boxT (.s .net)), (18, .arr .B true)]⟩
def z7t : Tmpl := ⟨[(1, .c (.s .I)), (2, .c (.s (.s .item))), (3, .c .i), (4, .c (.bx 4 0)), (9, .c (.ref 18)), (11, .c .i)], [(4, .boxT (.s .net)), (18, .arr .B true)]⟩
def zz9 (av : AV) (x : HP z05.ps) (n : Nat) (v : z8t.den) (K : Ks (CR z05)) : Option (CR z05) := z1t v.1.2.2.2.2.2.2.1 (fun l2_1 => z7t.at none ((v.1.1, v.1.2.1, v.1.2.2.1, (), (), v.1.2.2.2.2.2.1, ()), (v.2.1, l2_1, ())) (K (.exit 4))) n v.1.2.2.2.2.2.2.2.1 v.2.2.1
def z8j (av : AV) (x : HP z05.ps) : Hdl (CR z05) := hnd [] z8t (zz9 av x)
theorem y06 : LP z05 Try.f168 [1, 0] z8j := lp_ok (W := []) (H := []) (xs := [z7t]) z4n trivial rfl (fun av x v K => by kernel_rfl) (fun av x n v K => by kernel_rfl)
def zf2 : Tmpl := ⟨[(1, .c (.s .I)), (2, .c (.s (.s .item))), (3, .c .i), (4, .c (.bx 4 0)), (9, .c (.ref 18)), (10, .c .i)], [(4, .boxT (.s .net)), (18, .arr .B true)]⟩
def z9y : Tmpl := ⟨[(1, .c (.s .I)), (2, .c (.s (.s .item))), (3, .c .i), (4, .c (.bx 4 0)), (9, .c (.ref 18))], [(4, .boxT (.s .net)), (18, .arr .B true)]⟩
def y2f (av : AV) (x : HP z05.ps) (n : Nat) (v : zf2.den) (K : Ks (CR z05)) : Option (CR z05) := z15 v.2.1 v.1.1 v.1.2.2.1 (fun l0_1 => z9y.at none ((v.1.1, v.1.2.1, v.1.2.2.1, (), (), ()), (v.2.1, l0_1, ())) (K (.exit 0))) n v.1.2.2.2.2.2.1 v.2.2.1
def zc5 (av : AV) (x : HP z05.ps) : Hdl (CR z05) := hnd [] zf2 (y2f av x)
theorem y2u : LP z05 Try.f168 [0] zc5 := lp_ok (W := []) (H := []) (xs := [z9y]) z4n trivial rfl (fun av x v K => by kernel_rfl) (fun av x n v K => by kernel_rfl)
def zf3 : Tmpl := ⟨[(1, .c (.s .I)), (2, .c (.s (.s .item))), (3, .c .i), (4, .c (.bx 4 0)), (9, .c (.ref 18)), (11, .c .i)], [(4, .boxT (.s .net)), (18, .arr .B true)]⟩
def z9z : Tmpl := ⟨[(1, .c (.s .I)), (3, .c .i), (4, .c (.bx 4 0)), (9, .c (.ref 18))], [(4, .boxT (.s .net)), (18, .arr .B true)]⟩
def y2g (av : AV) (x : HP z05.ps) (n : Nat) (v : zf3.den) (K : Ks (CR z05)) : Option (CR z05) := z0n v.2.1 v.1.2.1 (fun l1_1 => z9z.at none ((v.1.1, v.1.2.2.1, (), (), ()), (v.2.1, l1_1, ())) (K (.exit 2))) n v.1.2.2.2.2.2.1 v.2.2.1
def zc6 (av : AV) (x : HP z05.ps) : Hdl (CR z05) := hnd [] zf3 (y2g av x)
theorem y2v : LP z05 Try.f168 [1] zc6 := lp_ok (W := []) (H := [z8j]) (xs := [z9z]) z4n ⟨y06, trivial⟩ rfl (fun av x v K => by kernel_rfl) (fun av x n v K => by kernel_rfl)
def zf4 : Tmpl := ⟨[(1, .c (.s .I)), (3, .c .i), (4, .c (.bx 4 0)), (14, .c (.ref 76)), (15, .c .i)], [(4, .boxT (.s .net)), (76, .arr .B true)]⟩
def za0 : Tmpl := ⟨[], []⟩
def y2h (av : AV) (x : HP z05.ps) (n : Nat) (v : zf4.den) (K : Ks (CR z05)) : Option (CR z05) := z16 v.2.1 v.1.1 v.1.2.1 v.2.2.1 (za0.at none ((), ()) (K (.exit 6))) n v.1.2.2.2.2.1
def zc7 (av : AV) (x : HP z05.ps) : Hdl (CR z05) := hnd [] zf4 (y2h av x)
theorem y2w : LP z05 Try.f168 [2] zc7 := lp_ok (W := []) (H := []) (xs := [za0]) z4n trivial rfl (fun av x v K => by kernel_rfl) (fun av x n v K => by kernel_rfl)
theorem y6y : z05.Ok Try.prog := fn_ok (k := z05) (fn := Try.f168) (W := []) (H := [zc5, zc6, zc7]) Try.func168 z4n ⟨y2u, y2v, y2w, trivial⟩ rfl rfl (fun av x => by kernel_rfl)
def z9f (n : GNet) (marks : List Int) (busy : List GItem) (t : Int) : Option Bool := (getI n.tasks t).bind fun x1 => ((z88 marks x1.in_).bind fun x2 => ((getI n.tasks t).bind fun x3 => (if decide (x3.join = 1) = true then (some x2.2) else (if decide (x3.join = 2) = true then (some x2.1) else (if x2.1 = true then (if x2.2 = true then (some true) else ((z6e n marks busy t).bind fun x8 => (some (!x8)))) else (some false))))))
def zq7 : Con := ⟨152, [.v (.s .net) false, .v (.sl .I) false, .v (.sl (.s .item)) false, .v .I false], [(.B, true)], [], fun x => z9f x.1 x.2.1 x.2.2.1 x.2.2.2.1⟩
def yn1 : Fs := ⟨[z31, z05], [], []⟩
theorem yn6 : yn1.Ok Try.prog := (fsK yh2 (fsK y6y fs0))
theorem yp8 : zq7.Ok Try.prog := fn_ok (k := zq7) (fn := Try.f152) (W := []) (H := []) Try.func152 yn6 trivial rfl rfl (fun av x => by kernel_rfl)
def zk4  : Option Bool := some true
def z3i (n : GNet) (busy : List GItem) (kx0_0 : Option Bool) : Nat → Int → Option Bool
  | 0, _ => none
  | n0 + 1, s0_0 => if decide (s0_0 < (busy.length : Int)) = true then ((getI busy s0_0).bind fun x3 => (gd (ok64 ((n.tasks.length : Int) - 1)) ((z00 x3.task 0 ((n.tasks.length : Int) - 1)).bind fun x5 => (if x5 = true then ((getI busy s0_0).bind fun x7 => ((z00 x7.who 1 4).bind fun x8 => (if x8 = true then ((getI busy s0_0).bind fun x10 => ((getI busy s0_0).bind fun x11 => ((getI n.tasks x11.task).bind fun x12 => (gd (ok64 (x12.need - 1)) ((z00 x10.did 0 (x12.need - 1)).bind fun x14 => (if x14 = true then (gd (ok64 (s0_0 + 1)) ((z3i n busy kx0_0 n0) (s0_0 + 1))) else (some false))))))) else (some false)))) else (some false))))) else (kx0_0)
def z6d (n : GNet) (busy : List GItem) : Option Bool := if decide (6 < (busy.length : Int)) = true then (some false) else (z3i n busy zk4 FUEL 0)
def z2i : Con := ⟨54, [.v (.s .net) false, .v (.sl (.s .item)) false], [(.B, true)], [], fun x => z6d x.1 x.2.1⟩
def yc9 : Fs := ⟨[z0c], [], []⟩
theorem y0y : yc9.Ok Try.prog := (fsK z0f fs0)
def zt8 : Tmpl := ⟨[(1, .c (.s (.s .item))), (2, .c (.bx 2 0)), (5, .c .i)], [(2, .boxT (.s .net))]⟩
def zn2 : Tmpl := ⟨[], []⟩
def y5e (av : AV) (x : HP z2i.ps) (n : Nat) (v : zt8.den) (K : Ks (CR z2i)) : Option (CR z2i) := z3i v.2.1 v.1.1 (zn2.at none ((), ()) (K (.exit 0))) n v.1.2.2.1
def zp8 (av : AV) (x : HP z2i.ps) : Hdl (CR z2i) := hnd [] zt8 (y5e av x)
theorem y6i : LP z2i Try.f54 [0] zp8 := lp_ok (W := []) (H := []) (xs := [zn2]) y0y trivial rfl (fun av x v K => by kernel_rfl) (fun av x n v K => by kernel_rfl)
theorem y1m : z2i.Ok Try.prog := fn_ok (k := z2i) (fn := Try.f54) (W := []) (H := [zp8]) Try.func54 y0y ⟨y6i, trivial⟩ rfl rfl (fun av x => by kernel_rfl)
def z5x (n : GNet) (marks : List Int) (busy : List GItem) (t : Int) : Option Bool := (z4s n marks).bind fun x1 => (if x1 = true then ((z6d n busy).bind fun x3 => (if x3 = true then (gd (ok64 ((n.tasks.length : Int) - 1)) ((z00 t 0 ((n.tasks.length : Int) - 1)).bind fun x6 => (if x6 = true then ((z9f n marks busy t).bind fun x8 => (some x8)) else (some false)))) else (some false))) else (some false))
def z7y : Con := ⟨121, [.v (.s .net) false, .v (.sl .I) false, .v (.sl (.s .item)) false, .v .I false], [(.B, true)], [], fun x => z5x x.1 x.2.1 x.2.2.1 x.2.2.2.1⟩
def yb7 : Fs := ⟨[z1v, z2i, z0c, zq7], [], []⟩
theorem ye3 : yb7.Ok Try.prog := (fsK z9h (fsK y1m (fsK z0f (fsK yp8 fs0))))
theorem y1j : z7y.Ok Try.prog := fn_ok (k := z7y) (fn := Try.f121) (W := []) (H := []) Try.func121 ye3 trivial rfl rfl (fun av x => by kernel_rfl)
def z5y (l0_1 : List Int) : Option (List Int) := some l0_1
def z1r (n : GNet) (marks : List Int) (busy : List GItem) (kx0_0 : List Int → Option (List Int)) : Nat → Int → List Int → Option (List Int)
  | 0, _, _ => none
  | n0 + 1, s0_0, l0_1 => if decide (s0_0 < (n.tasks.length : Int)) = true then ((z5x n marks busy s0_0).bind fun x2 => (if x2 = true then (gd (l0_1.length + [s0_0].length ≤ SMALL) (gd (ok64 (s0_0 + 1)) ((z1r n marks busy kx0_0 n0) (s0_0 + 1) (l0_1 ++ [s0_0])))) else (gd (ok64 (s0_0 + 1)) ((z1r n marks busy kx0_0 n0) (s0_0 + 1) l0_1)))) else (kx0_0 l0_1)
def z3a (n : GNet) (marks : List Int) (busy : List GItem) : Option (List Int) := z1r n marks busy z5y FUEL 0 ([] : List Int)
def z18 : Con := ⟨76, [.v (.s .net) false, .v (.sl .I) false, .v (.sl (.s .item)) false], [((.sl .I), true)], [], fun x => z3a x.1 x.2.1 x.2.2.1⟩
def y5u : Fs := ⟨[z7y], [], []⟩
theorem zo5 : y5u.Ok Try.prog := (fsK y1j fs0)
def ze5 : Tmpl := ⟨[(1, .c (.s .I)), (2, .c (.s (.s .item))), (3, .c (.bx 3 0)), (7, .c (.ref 9)), (8, .c .i)], [(3, .boxT (.s .net)), (9, .arr .I true)]⟩
def z9r : Tmpl := ⟨[(7, .c (.ref 9))], [(9, .arr .I true)]⟩
def y28 (av : AV) (x : HP z18.ps) (n : Nat) (v : ze5.den) (K : Ks (CR z18)) : Option (CR z18) := z1r v.2.1 v.1.1 v.1.2.1 (fun l0_1 => z9r.at none (((), ()), (l0_1, ())) (K (.exit 0))) n v.1.2.2.2.2.1 v.2.2.1
def zb8 (av : AV) (x : HP z18.ps) : Hdl (CR z18) := hnd [] ze5 (y28 av x)
theorem y2n : LP z18 Try.f76 [0] zb8 := lp_ok (W := []) (H := []) (xs := [z9r]) zo5 trivial rfl (fun av x v K => by kernel_rfl) (fun av x n v K => by kernel_rfl)
theorem zs4 : z18.Ok Try.prog := fn_ok (k := z18) (fn := Try.f76) (W := []) (H := [zb8]) Try.func76 zo5 ⟨y2n, trivial⟩ rfl rfl (fun av x => by kernel_rfl)
def zd0 (l0_1 : List Int) (x10 : Int) (x13 : Int) : Option (List Int) := some (l0_1.set x10.toNat (x13 - 1))
def zd1 (l0_1 : List Int) : Option (List Int) := some l0_1
def z22 (n : GNet) (t : Int) (kx0_0 : List Int → Int → Int → Option (List Int)) (kx0_1 : List Int → Option (List Int)) : Nat → Int → List Int → Option (List Int)
  | 0, _, _ => none
  | n0 + 1, s0_0, l0_1 => (getI n.tasks t).bind fun x7 => (if decide (s0_0 < (x7.in_.length : Int)) = true then ((getI n.tasks t).bind fun x9 => ((getI x9.in_ s0_0).bind fun x10 => ((getI l0_1 x10).bind fun x11 => (if decide (0 < x11) = true then ((getI l0_1 x10).bind fun x13 => (gd (ok64 (x13 - 1)) ((getI l0_1 x10).bind fun x15 => ((getI n.tasks t).bind fun x16 => (if decide (x16.join = 2) = true then (kx0_0 l0_1 x10 x13) else (gd (ok64 (s0_0 + 1)) ((z22 n t kx0_0 kx0_1 n0) (s0_0 + 1) (l0_1.set x10.toNat (x13 - 1))))))))) else (gd (ok64 (s0_0 + 1)) ((z22 n t kx0_0 kx0_1 n0) (s0_0 + 1) l0_1)))))) else (kx0_1 l0_1))
def z70 (n : GNet) (marks : List Int) (t : Int) : Option (List Int) := (z4s n marks).bind fun x1 => (if x1 = true then (gd (ok64 ((n.tasks.length : Int) - 1)) ((z00 t 0 ((n.tasks.length : Int) - 1)).bind fun x4 => (if x4 = true then (gd (([] : List Int).length + marks.length ≤ SMALL) (z22 n t zd0 zd1 FUEL 0 (([] : List Int) ++ marks))) else (some ([] : List Int))))) else (some ([] : List Int)))
def z2b : Con := ⟨147, [.v (.s .net) false, .v (.sl .I) false, .v .I false], [((.sl .I), true)], [], fun x => z70 x.1 x.2.1 x.2.2.1⟩
def y85 : Fs := ⟨[z1v, z0c], [], []⟩
theorem zw8 : y85.Ok Try.prog := (fsK z9h (fsK z0f fs0))
def zl3 : Tmpl := ⟨[(2, .c .i), (3, .c (.bx 3 0)), (7, .c (.ref 26)), (8, .c .i)], [(3, .boxT (.s .net)), (26, .arr .I true)]⟩
def z6u : Tmpl := ⟨[(7, .c (.ref 26))], [(26, .arr .I true)]⟩
def y3q (av : AV) (x : HP z2b.ps) (n : Nat) (v : zl3.den) (K : Ks (CR z2b)) : Option (CR z2b) := z22 v.2.1 v.1.1 (fun l0_1 x10 x13 => z6u.at none (((), ()), ((l0_1.set x10.toNat (x13 - 1)), ())) (K (.exit 0))) (fun l0_1 => z6u.at none (((), ()), (l0_1, ())) (K (.exit 0))) n v.1.2.2.2.1 v.2.2.1
def zi8 (av : AV) (x : HP z2b.ps) : Hdl (CR z2b) := hnd [] zl3 (y3q av x)
theorem y4c : LP z2b Try.f147 [0] zi8 := lp_ok (W := []) (H := []) (xs := [z6u]) zw8 trivial rfl (fun av x v K => by kernel_rfl) (fun av x n v K => by kernel_rfl)
theorem y92 : z2b.Ok Try.prog := fn_ok (k := z2b) (fn := Try.f147) (W := []) (H := [zi8]) Try.func147 zw8 ⟨y4c, trivial⟩ rfl rfl (fun av x => by kernel_rfl)
def z60 (l0_1 : List Int) (x8 : GFlow) : Option (List Int) := some (l0_1 ++ [x8.to])
def z61 (l0_1 : List Int) (x13 : GFlow) : Option (List Int) := some (l0_1 ++ [x13.to])
def z62 (l0_1 : List Int) (x18 : GFlow) : Option (List Int) := some (l0_1 ++ [x18.to])
def z8n (l0_1 : List Int) : Option (List Int) := some l0_1
def z0y (t : GTask) (data : List Int) (kx0_0 : List Int → GFlow → Option (List Int)) (kx0_1 : List Int → GFlow → Option (List Int)) (kx0_2 : List Int → GFlow → Option (List Int)) (kx0_3 : List Int → Option (List Int)) : Nat → Int → List Int → Option (List Int)
  | 0, _, _ => none
  | n0 + 1, s0_0, l0_1 => if decide (s0_0 < (t.out.length : Int)) = true then ((getI t.out s0_0).bind fun x2 => ((z0s x2.if_ data).bind fun x3 => (if x3 = true then (if decide (t.split = 3) = true then (gd (ok64 ((t.out.length : Int) - 1)) (if decide (s0_0 < ((t.out.length : Int) - 1)) = true then ((getI t.out s0_0).bind fun x8 => (gd (l0_1.length + [x8.to].length ≤ SMALL) (if decide (t.split = 2) = true then (kx0_0 l0_1 x8) else (gd (ok64 (s0_0 + 1)) ((z0y t data kx0_0 kx0_1 kx0_2 kx0_3 n0) (s0_0 + 1) (l0_1 ++ [x8.to])))))) else (if decide ((l0_1.length : Int) = 0) = true then ((getI t.out s0_0).bind fun x13 => (gd (l0_1.length + [x13.to].length ≤ SMALL) (if decide (t.split = 2) = true then (kx0_1 l0_1 x13) else (gd (ok64 (s0_0 + 1)) ((z0y t data kx0_0 kx0_1 kx0_2 kx0_3 n0) (s0_0 + 1) (l0_1 ++ [x13.to])))))) else (gd (ok64 (s0_0 + 1)) ((z0y t data kx0_0 kx0_1 kx0_2 kx0_3 n0) (s0_0 + 1) l0_1))))) else ((getI t.out s0_0).bind fun x18 => (gd (l0_1.length + [x18.to].length ≤ SMALL) (if decide (t.split = 2) = true then (kx0_2 l0_1 x18) else (gd (ok64 (s0_0 + 1)) ((z0y t data kx0_0 kx0_1 kx0_2 kx0_3 n0) (s0_0 + 1) (l0_1 ++ [x18.to]))))))) else (gd (ok64 (s0_0 + 1)) ((z0y t data kx0_0 kx0_1 kx0_2 kx0_3 n0) (s0_0 + 1) l0_1))))) else (kx0_3 l0_1)
def z9b (t : GTask) (data : List Int) : Option (List Int) := z0y t data z60 z61 z62 z8n FUEL 0 ([] : List Int)
def z3o : Con := ⟨113, [.v (.s .task) false, .v (.sl .I) false], [((.sl .I), true)], [], fun x => z9b x.1 x.2.1⟩
def ym9 : Fs := ⟨[z2l], [], []⟩
theorem y3d : ym9.Ok Try.prog := (fsK z45 fs0)
def zz6 : Tmpl := ⟨[(1, .c (.s .I)), (2, .c (.bx 2 0)), (5, .c (.ref 7)), (6, .c .i)], [(2, .boxT (.s .task)), (7, .arr .I true)]⟩
def z4x : Tmpl := ⟨[(5, .c (.ref 49))], [(49, .arr .I true)]⟩
def y7y (av : AV) (x : HP z3o.ps) (n : Nat) (v : zz6.den) (K : Ks (CR z3o)) : Option (CR z3o) := z0y v.2.1 v.1.1 (fun l0_1 x8 => z4x.at none (((), ()), ((l0_1 ++ [x8.to]), ())) (K (.exit 0))) (fun l0_1 x13 => z4x.at none (((), ()), ((l0_1 ++ [x13.to]), ())) (K (.exit 0))) (fun l0_1 x18 => z4x.at none (((), ()), ((l0_1 ++ [x18.to]), ())) (K (.exit 0))) (fun l0_1 => z4x.at none (((), ()), (l0_1, ())) (K (.exit 0))) n v.1.2.2.2.1 v.2.2.1
def zy2 (av : AV) (x : HP z3o.ps) : Hdl (CR z3o) := hnd [] zz6 (y7y av x)
theorem y8w : LP z3o Try.f113 [0] zy2 := lp_ok (W := []) (H := []) (xs := [z4x]) y3d trivial rfl (fun av x v K => by kernel_rfl) (fun av x n v K => by kernel_rfl)
theorem yp7 : z3o.Ok Try.prog := fn_ok (k := z3o) (fn := Try.f113) (W := []) (H := [zy2]) Try.func113 y3d ⟨y8w, trivial⟩ rfl rfl (fun av x => by kernel_rfl)
def z51 (l1_1 : List Int) : Option ((List Int) × Bool) := some (l1_1, true)
def z37 (x16 : (List Int)) (kx1_0 : List Int → Option ((List Int) × Bool)) : Nat → Int → List Int → Option ((List Int) × Bool)
  | 0, _, _ => none
  | n1 + 1, s1_0, l1_1 => if decide (s1_0 < (x16.length : Int)) = true then ((getI x16 s1_0).bind fun x18 => ((getI l1_1 x18).bind fun x19 => (if decide (x19 = 4) = true then (some (([] : List Int), false)) else ((getI x16 s1_0).bind fun x21 => ((getI x16 s1_0).bind fun x22 => ((getI l1_1 x22).bind fun x23 => (gd (ok64 (x23 + 1)) ((getI l1_1 x21).bind fun x25 => (gd (ok64 (s1_0 + 1)) ((z37 x16 kx1_0 n1) (s1_0 + 1) (l1_1.set x21.toNat (x23 + 1)))))))))))) else (kx1_0 l1_1)
def z50 (n : GNet) (t : Int) (data : List Int) (l0_1 : List Int) : Option ((List Int) × Bool) := (getI n.tasks t).bind fun x15 => ((z9b x15 data).bind fun x16 => (z37 x16 z51 FUEL 0 l0_1))
def z36 (n : GNet) (t : Int) (kx0_0 : List Int → Option ((List Int) × Bool)) : Nat → Int → List Int → Option ((List Int) × Bool)
  | 0, _, _ => none
  | n0 + 1, s0_0, l0_1 => (getI n.tasks t).bind fun x9 => (if decide (s0_0 < (x9.clear.length : Int)) = true then ((getI n.tasks t).bind fun x11 => ((getI x11.clear s0_0).bind fun x12 => ((getI l0_1 x12).bind fun x13 => (gd (ok64 (s0_0 + 1)) ((z36 n t kx0_0 n0) (s0_0 + 1) (l0_1.set x12.toNat 0)))))) else (kx0_0 l0_1))
def z72 (n : GNet) (marks : List Int) (t : Int) (data : List Int) : Option ((List Int) × Bool) := (z4s n marks).bind fun x1 => (if x1 = true then (gd (ok64 ((n.tasks.length : Int) - 1)) ((z00 t 0 ((n.tasks.length : Int) - 1)).bind fun x4 => (if x4 = true then ((z1g data).bind fun x6 => (if x6 = true then (gd (([] : List Int).length + marks.length ≤ SMALL) (z36 n t (z50 n t data) FUEL 0 (([] : List Int) ++ marks))) else (some (([] : List Int), false)))) else (some (([] : List Int), false))))) else (some (([] : List Int), false)))
def z0i : Con := ⟨71, [.v (.s .net) false, .v (.sl .I) false, .v .I false, .v (.sl .I) false], [((.sl .I), true), (.B, true)], [], fun x => z72 x.1 x.2.1 x.2.2.1 x.2.2.2.1⟩
def y87 : Fs := ⟨[z1v, z0c, z0o, z3o], [], []⟩
theorem za3 : y87.Ok Try.prog := (fsK z9h (fsK z0f (fsK z3t (fsK yp7 fs0))))
def zl5 : Tmpl := ⟨[(2, .c .i), (3, .c (.s .I)), (4, .c (.bx 4 0)), (10, .c (.ref 35)), (11, .c .i)], [(4, .boxT (.s .net)), (35, .arr .I true)]⟩
def zf7 : Tmpl := ⟨[(2, .c .i), (3, .c (.s .I)), (4, .c (.bx 4 0)), (10, .c (.ref 35))], [(4, .boxT (.s .net)), (35, .arr .I true)]⟩
def y3s (av : AV) (x : HP z0i.ps) (n : Nat) (v : zl5.den) (K : Ks (CR z0i)) : Option (CR z0i) := z36 v.2.1 v.1.1 (fun l0_1 => zf7.at none ((v.1.1, v.1.2.1, (), (), ()), (v.2.1, l0_1, ())) (K (.exit 0))) n v.1.2.2.2.2.1 v.2.2.1
def zj0 (av : AV) (x : HP z0i.ps) : Hdl (CR z0i) := hnd [] zl5 (y3s av x)
theorem y4e : LP z0i Try.f71 [0] zj0 := lp_ok (W := []) (H := []) (xs := [zf7]) za3 trivial rfl (fun av x v K => by kernel_rfl) (fun av x n v K => by kernel_rfl)
def zl6 : Tmpl := ⟨[(10, .c (.ref 35)), (12, .c (.ref 64)), (13, .c .i)], [(35, .arr .I true), (64, .arr .I true)]⟩
def zf8 : Tmpl := ⟨[(10, .c (.ref 35))], [(35, .arr .I true)]⟩
def y3t (av : AV) (x : HP z0i.ps) (n : Nat) (v : zl6.den) (K : Ks (CR z0i)) : Option (CR z0i) := z37 v.2.2.1 (fun l1_1 => zf8.at none (((), ()), (l1_1, ())) (K (.exit 2))) n v.1.2.2.1 v.2.1
def zj1 (av : AV) (x : HP z0i.ps) : Hdl (CR z0i) := hnd [] zl6 (y3t av x)
theorem y4f : LP z0i Try.f71 [1] zj1 := lp_ok (W := []) (H := []) (xs := [zf8]) za3 trivial rfl (fun av x v K => by kernel_rfl) (fun av x n v K => by kernel_rfl)
theorem y94 : z0i.Ok Try.prog := fn_ok (k := z0i) (fn := Try.f71) (W := []) (H := [zj0, zj1]) Try.func71 za3 ⟨y4e, y4f, trivial⟩ rfl rfl (fun av x => by kernel_rfl)
def zr6  : Option Bool := some true
def z42 (people : List Int) (kx0_0 : Option Bool) : Nat → Int → Option Bool
  | 0, _ => none
  | n0 + 1, s0_0 => if decide (s0_0 < (people.length : Int)) = true then ((getI people s0_0).bind fun x4 => ((z00 x4 0 7).bind fun x5 => (if x5 = true then (gd (ok64 (s0_0 + 1)) ((z42 people kx0_0 n0) (s0_0 + 1))) else (some false)))) else (kx0_0)
def z4t (people : List Int) : Option Bool := (z00 (people.length : Int) 1 4).bind fun x1 => (if x1 = true then (z42 people zr6 FUEL 0) else (some false))
def z1w : Con := ⟨92, [.v (.sl .I) false], [(.B, true)], [], fun x => z4t x.1⟩
def ym7 : Fs := ⟨[z0c], [], []⟩
theorem y3c : ym7.Ok Try.prog := (fsK z0f fs0)
def zz4 : Tmpl := ⟨[(0, .c (.s .I)), (3, .c .i)], []⟩
def zv1 : Tmpl := ⟨[], []⟩
def y7w (av : AV) (x : HP z1w.ps) (n : Nat) (v : zz4.den) (K : Ks (CR z1w)) : Option (CR z1w) := z42 v.1.1 (zv1.at none ((), ()) (K (.exit 0))) n v.1.2.1
def zy0 (av : AV) (x : HP z1w.ps) : Hdl (CR z1w) := hnd [] zz4 (y7w av x)
theorem y8u : LP z1w Try.f92 [0] zy0 := lp_ok (W := []) (H := []) (xs := [zv1]) y3c trivial rfl (fun av x v K => by kernel_rfl) (fun av x n v K => by kernel_rfl)
theorem z9i : z1w.Ok Try.prog := fn_ok (k := z1w) (fn := Try.f92) (W := []) (H := [zy0]) Try.func92 y3c ⟨y8u, trivial⟩ rfl rfl (fun av x => by kernel_rfl)
def z3g (s0_0 : Int) : Option Bool := gd ((2 : Int) ≠ 0) (some (decide ((Int.tmod s0_0 2) = 1)))
def z1a (role : Int) (kx0_0 : Int → Option Bool) : Nat → Int → Int → Option Bool
  | 0, _, _ => none
  | n0 + 1, s0_0, s0_1 => if decide (s0_1 < role) = true then (gd ((2 : Int) ≠ 0 ∧ ok64 (Int.tdiv s0_0 2)) (gd (ok64 (s0_1 + 1)) ((z1a role kx0_0 n0) (Int.tdiv s0_0 2) (s0_1 + 1)))) else (kx0_0 s0_0)
def z83 (people : List Int) (who : Int) (role : Int) : Option Bool := (z4t people).bind fun x1 => (if x1 = true then ((z00 who 1 (people.length : Int)).bind fun x3 => (if x3 = true then ((z00 role 1 3).bind fun x5 => (if x5 = true then (gd (ok64 (who - 1)) ((getI people (who - 1)).bind fun x8 => (z1a role z3g FUEL x8 1))) else (some false))) else (some false))) else (some false))
def z30 : Con := ⟨122, [.v (.sl .I) false, .v .I false, .v .I false], [(.B, true)], [], fun x => z83 x.1 x.2.1 x.2.2.1⟩
def yc0 : Fs := ⟨[z1w, z0c], [], []⟩
theorem y0w : yc0.Ok Try.prog := (fsK z9i (fsK z0f fs0))
def zt5 : Tmpl := ⟨[(2, .c .i), (7, .c .i), (8, .c .i)], []⟩
def zm9 : Tmpl := ⟨[(7, .c .i)], []⟩
def y5b (av : AV) (x : HP z30.ps) (n : Nat) (v : zt5.den) (K : Ks (CR z30)) : Option (CR z30) := z1a v.1.1 (fun s0_0 => zm9.at none ((s0_0, ()), ()) (K (.exit 0))) n v.1.2.1 v.1.2.2.1
def zp5 (av : AV) (x : HP z30.ps) : Hdl (CR z30) := hnd [] zt5 (y5b av x)
theorem y6f : LP z30 Try.f122 [0] zp5 := lp_ok (W := []) (H := []) (xs := [zm9]) y0w trivial rfl (fun av x v K => by kernel_rfl) (fun av x n v K => by kernel_rfl)
theorem yg7 : z30.Ok Try.prog := fn_ok (k := z30) (fn := Try.f122) (W := []) (H := [zp5]) Try.func122 y0w ⟨y6f, trivial⟩ rfl rfl (fun av x => by kernel_rfl)
def zk2  : Option Bool := some false
def z2t (did : List GDid) (who : Int) (task : Int) (kx0_0 : Option Bool) : Nat → Int → Option Bool
  | 0, _ => none
  | n0 + 1, s0_0 => if decide (s0_0 < (did.length : Int)) = true then ((getI did s0_0).bind fun x2 => (if decide (x2.who = who) = true then ((getI did s0_0).bind fun x4 => (if decide (x4.task = task) = true then (some true) else (gd (ok64 (s0_0 + 1)) ((z2t did who task kx0_0 n0) (s0_0 + 1))))) else (gd (ok64 (s0_0 + 1)) ((z2t did who task kx0_0 n0) (s0_0 + 1))))) else (kx0_0)
def z82 (did : List GDid) (who : Int) (task : Int) : Option Bool := z2t did who task zk2 FUEL 0
def z2z : Con := ⟨123, [.v (.sl (.s .did)) false, .v .I false, .v .I false], [(.B, true)], [], fun x => z82 x.1 x.2.1 x.2.2.1⟩
def yb9 : Fs := ⟨[], [], []⟩
theorem y0v : yb9.Ok Try.prog := fs0
def zt4 : Tmpl := ⟨[(0, .c (.s (.s .did))), (1, .c .i), (2, .c .i), (7, .c .i)], []⟩
def zm8 : Tmpl := ⟨[], []⟩
def y5a (av : AV) (x : HP z2z.ps) (n : Nat) (v : zt4.den) (K : Ks (CR z2z)) : Option (CR z2z) := z2t v.1.1 v.1.2.1 v.1.2.2.1 (zm8.at none ((), ()) (K (.exit 0))) n v.1.2.2.2.1
def zp4 (av : AV) (x : HP z2z.ps) : Hdl (CR z2z) := hnd [] zt4 (y5a av x)
theorem y6e : LP z2z Try.f123 [0] zp4 := lp_ok (W := []) (H := []) (xs := [zm8]) y0v trivial rfl (fun av x v K => by kernel_rfl) (fun av x n v K => by kernel_rfl)
theorem yg6 : z2z.Ok Try.prog := fn_ok (k := z2z) (fn := Try.f123) (W := []) (H := [zp4]) Try.func123 y0v ⟨y6e, trivial⟩ rfl rfl (fun av x => by kernel_rfl)
def zk3 (n : GNet) (people : List Int) (did : List GDid) (t : Int) (s0_0 : Int) (l0_1 : List Int) (bk0 : Int → List Int → Option (List Int)) (s1_0 : Bool) : Option (List Int) := (getI n.tasks t).bind fun x18 => ((z83 people s0_0 x18.role).bind fun x19 => (if x19 = true then (if s1_0 = true then (gd (ok64 (s0_0 + 1)) (bk0 (s0_0 + 1) l0_1)) else ((getI n.tasks t).bind fun x23 => ((z82 did s0_0 x23.apart).bind fun x24 => (if x24 = true then (gd (ok64 (s0_0 + 1)) (bk0 (s0_0 + 1) l0_1)) else (gd (l0_1.length + [s0_0].length ≤ SMALL) (gd (ok64 (s0_0 + 1)) (bk0 (s0_0 + 1) (l0_1 ++ [s0_0])))))))) else (gd (ok64 (s0_0 + 1)) (bk0 (s0_0 + 1) l0_1))))
def z1b (n : GNet) (busy : List GItem) (t : Int) (s0_0 : Int) (kx1_0 : Bool → Option (List Int)) : Nat → Bool → Int → Option (List Int)
  | 0, _, _ => none
  | n1 + 1, s1_0, s1_1 => if decide (s1_1 < (busy.length : Int)) = true then (if s1_0 = true then (gd (ok64 (s1_1 + 1)) ((z1b n busy t s0_0 kx1_0 n1) true (s1_1 + 1))) else ((getI busy s1_1).bind fun x12 => (if decide (x12.who = s0_0) = true then ((getI busy s1_1).bind fun x14 => ((getI n.tasks t).bind fun x15 => (gd (ok64 (s1_1 + 1)) ((z1b n busy t s0_0 kx1_0 n1) (decide (x14.task = x15.apart)) (s1_1 + 1))))) else (gd (ok64 (s1_1 + 1)) ((z1b n busy t s0_0 kx1_0 n1) false (s1_1 + 1)))))) else (kx1_0 s1_0)
def z7l (l0_1 : List Int) : Option (List Int) := some l0_1
def z3h (n : GNet) (people : List Int) (did : List GDid) (busy : List GItem) (t : Int) (kx0_0 : List Int → Option (List Int)) : Nat → Int → List Int → Option (List Int)
  | 0, _, _ => none
  | n0 + 1, s0_0, l0_1 => if decide (s0_0 ≤ (people.length : Int)) = true then (z1b n busy t s0_0 (zk3 n people did t s0_0 l0_1 (z3h n people did busy t kx0_0 n0)) FUEL false 0) else (kx0_0 l0_1)
def z52 (n : GNet) (people : List Int) (did : List GDid) (busy : List GItem) (t : Int) : Option (List Int) := (z1x n).bind fun x1 => (if x1 = true then ((z4t people).bind fun x3 => (if x3 = true then (gd (ok64 ((n.tasks.length : Int) - 1)) ((z00 t 0 ((n.tasks.length : Int) - 1)).bind fun x6 => (if x6 = true then (z3h n people did busy t z7l FUEL 1 ([] : List Int)) else (some ([] : List Int))))) else (some ([] : List Int)))) else (some ([] : List Int)))
def z0k : Con := ⟨77, [.v (.s .net) false, .v (.sl .I) false, .v (.sl (.s .did)) false, .v (.sl (.s .item)) false, .v .I false], [((.sl .I), true)], [], fun x => z52 x.1 x.2.1 x.2.2.1 x.2.2.2.1 x.2.2.2.2.1⟩
def yc1 : Fs := ⟨[z1e, z1w, z0c, z30, z2z], [], []⟩
theorem zg7 : yc1.Ok Try.prog := (fsK z7d (fsK z9i (fsK z0f (fsK yg7 (fsK yg6 fs0)))))
def ze6 : Tmpl := ⟨[(1, .c (.s .I)), (2, .c (.s (.s .did))), (3, .c (.s (.s .item))), (4, .c .i), (5, .c (.bx 5 0)), (11, .c (.ref 15)), (12, .c .i), (13, .c .b), (14, .c .i)], [(5, .boxT (.s .net)), (15, .arr .I true)]⟩
def z9s : Tmpl := ⟨[(1, .c (.s .I)), (2, .c (.s (.s .did))), (3, .c (.s (.s .item))), (4, .c .i), (5, .c (.bx 5 0)), (11, .c (.ref 15)), (12, .c .i), (13, .c .b)], [(5, .boxT (.s .net)), (15, .arr .I true)]⟩
def y29 (av : AV) (x : HP z0k.ps) (n : Nat) (v : ze6.den) (K : Ks (CR z0k)) : Option (CR z0k) := z1b v.2.1 v.1.2.2.1 v.1.2.2.2.1 v.1.2.2.2.2.2.2.1 (fun s1_0 => z9s.at none ((v.1.1, v.1.2.1, v.1.2.2.1, v.1.2.2.2.1, (), (), v.1.2.2.2.2.2.2.1, s1_0, ()), (v.2.1, v.2.2.1, ())) (K (.exit 2))) n v.1.2.2.2.2.2.2.2.1 v.1.2.2.2.2.2.2.2.2.1
def zb9 (av : AV) (x : HP z0k.ps) : Hdl (CR z0k) := hnd [] ze6 (y29 av x)
theorem y2o : LP z0k Try.f77 [0, 0] zb9 := lp_ok (W := []) (H := []) (xs := [z9s]) zg7 trivial rfl (fun av x v K => by kernel_rfl) (fun av x n v K => by kernel_rfl)
def zt6 : Tmpl := ⟨[(1, .c (.s .I)), (2, .c (.s (.s .did))), (3, .c (.s (.s .item))), (4, .c .i), (5, .c (.bx 5 0)), (11, .c (.ref 15)), (12, .c .i)], [(5, .boxT (.s .net)), (15, .arr .I true)]⟩
def zn0 : Tmpl := ⟨[(11, .c (.ref 15))], [(15, .arr .I true)]⟩
def y5c (av : AV) (x : HP z0k.ps) (n : Nat) (v : zt6.den) (K : Ks (CR z0k)) : Option (CR z0k) := z3h v.2.1 v.1.1 v.1.2.1 v.1.2.2.1 v.1.2.2.2.1 (fun l0_1 => zn0.at none (((), ()), (l0_1, ())) (K (.exit 0))) n v.1.2.2.2.2.2.2.1 v.2.2.1
def zp6 (av : AV) (x : HP z0k.ps) : Hdl (CR z0k) := hnd [] zt6 (y5c av x)
theorem y6g : LP z0k Try.f77 [0] zp6 := lp_ok (W := []) (H := [zb9]) (xs := [zn0]) zg7 ⟨y2o, trivial⟩ rfl (fun av x v K => by kernel_rfl) (fun av x n v K => by kernel_rfl)
theorem y1k : z0k.Ok Try.prog := fn_ok (k := z0k) (fn := Try.f77) (W := []) (H := [zp6]) Try.func77 zg7 ⟨y6g, trivial⟩ rfl rfl (fun av x => by kernel_rfl)
def z4z (n : GNet) (data : List Int) : Option GCase := (z1x n).bind fun x1 => (if x1 = true then ((z1g data).bind fun x3 => (if x3 = true then (gd ((0 : Int) ≤ n.places ∧ n.places ≤ (1000000000 : Int)) (gd (([] : List Int).length + data.length ≤ SMALL) ((getI (List.replicate n.places.toNat (0 : Int)) 0).bind fun x7 => (some (GCase.mk 1 ((List.replicate n.places.toNat (0 : Int)).set (0 : Int).toNat 1) [] (([] : List Int) ++ data) []))))) else (some (GCase.mk 0 [] [] [] [])))) else (some (GCase.mk 0 [] [] [] [])))
def z7w : Con := ⟨100, [.v (.s .net) false, .v (.sl .I) false], [((.s .kase), true)], [], fun x => z4z x.1 x.2.1⟩
def yb5 : Fs := ⟨[z1e, z0o], [], []⟩
theorem ye1 : yb5.Ok Try.prog := (fsK z7d (fsK z3t fs0))
theorem y1g : z7w.Ok Try.prog := fn_ok (k := z7w) (fn := Try.f100) (W := []) (H := []) Try.func100 ye1 trivial rfl rfl (fun av x => by kernel_rfl)
def z5w (c : GCase) : Option Bool := if decide (c.state = 1) = true then ((getI c.marks 1).bind fun x20 => (some (decide (x20 = 0)))) else (if decide ((c.busy.length : Int) = 0) = true then ((getI c.marks 1).bind fun x22 => (some ((decide (c.state = 2)) == (decide (0 < x22))))) else (some false))
def z3w (n : GNet) (c : GCase) (kx0_0 : Option Bool) : Nat → Int → Option Bool
  | 0, _ => none
  | n0 + 1, s0_0 => if decide (s0_0 < (c.did.length : Int)) = true then ((getI c.did s0_0).bind fun x11 => (gd (ok64 ((n.tasks.length : Int) - 1)) ((z00 x11.task 0 ((n.tasks.length : Int) - 1)).bind fun x13 => (if x13 = true then ((getI c.did s0_0).bind fun x15 => ((z00 x15.who 1 4).bind fun x16 => (if x16 = true then (gd (ok64 (s0_0 + 1)) ((z3w n c kx0_0 n0) (s0_0 + 1))) else (some false)))) else (some false))))) else (kx0_0)
def z4r (n : GNet) (c : GCase) : Option Bool := (z4s n c.marks).bind fun x1 => (if x1 = true then ((z6d n c.busy).bind fun x3 => (if x3 = true then ((z1g c.data).bind fun x5 => (if x5 = true then (if decide (60 < (c.did.length : Int)) = true then (some false) else ((z00 c.state 1 3).bind fun x8 => (if x8 = true then (z3w n c (z5w c) FUEL 0) else (some false)))) else (some false))) else (some false))) else (some false))
def z1u : Con := ⟨14, [.v (.s .net) false, .v (.s .kase) false], [(.B, true)], [], fun x => z4r x.1 x.2.1⟩
def ym1 : Fs := ⟨[z1v, z2i, z0o, z0c], [], []⟩
theorem y37 : ym1.Ok Try.prog := (fsK z9h (fsK y1m (fsK z3t (fsK z0f fs0))))
def zy9 : Tmpl := ⟨[(2, .c (.bx 2 0)), (3, .c (.bx 3 0)), (5, .c .i)], [(2, .boxT (.s .net)), (3, .boxT (.s .kase))]⟩
def zu6 : Tmpl := ⟨[(3, .c (.bx 3 0))], [(3, .boxT (.s .kase))]⟩
def y7r (av : AV) (x : HP z1u.ps) (n : Nat) (v : zy9.den) (K : Ks (CR z1u)) : Option (CR z1u) := z3w v.2.1 v.2.2.1 (zu6.at none (((), ()), (v.2.2.1, ())) (K (.exit 0))) n v.1.2.2.1
def zx5 (av : AV) (x : HP z1u.ps) : Hdl (CR z1u) := hnd [] zy9 (y7r av x)
theorem y8p : LP z1u Try.f14 [0] zx5 := lp_ok (W := []) (H := []) (xs := [zu6]) y37 trivial rfl (fun av x v K => by kernel_rfl) (fun av x n v K => by kernel_rfl)
theorem z9g : z1u.Ok Try.prog := fn_ok (k := z1u) (fn := Try.f14) (W := []) (H := [zx5]) Try.func14 y37 ⟨y8p, trivial⟩ rfl rfl (fun av x => by kernel_rfl)
def z3s (c : GCase) : Option GCase := gd (([] : List Int).length + c.marks.length ≤ SMALL) (gd (([] : List GItem).length + c.busy.length ≤ SMALL) (gd (([] : List Int).length + c.data.length ≤ SMALL) (gd (([] : List GDid).length + c.did.length ≤ SMALL) (some (GCase.mk c.state (([] : List Int) ++ c.marks) (([] : List GItem) ++ c.busy) (([] : List Int) ++ c.data) (([] : List GDid) ++ c.did))))))
def z4y : Con := ⟨69, [.v (.s .kase) false], [((.s .kase), true)], [], fun x => z3s x.1⟩
def yd1 : Fs := ⟨[], [], []⟩
theorem yf0 : yd1.Ok Try.prog := fs0
theorem z8e : z4y.Ok Try.prog := fn_ok (k := z4y) (fn := Try.f69) (W := []) (H := []) Try.func69 yf0 trivial rfl rfl (fun av x => by kernel_rfl)
def z3x (n : GNet) (people : List Int) (c : GCase) (t : Int) (who : Int) : Option (GCase × Bool) := (z3s c).bind fun x1 => ((z4r n c).bind fun x2 => (if x2 = true then (if decide (c.state = 1) = true then ((z5x n c.marks c.busy t).bind fun x5 => (if x5 = true then ((z52 n people c.did c.busy t).bind fun x7 => ((z5m x7 who).bind fun x8 => (if x8 = true then (if decide ((c.busy.length : Int) = 6) = true then (some (x1, false)) else ((z70 n c.marks t).bind fun x11 => (gd (x1.busy.length + [(GItem.mk t who 0)].length ≤ SMALL) (some ((GCase.mk x1.state x11 (x1.busy ++ [(GItem.mk t who 0)]) x1.data x1.did), true))))) else (some (x1, false))))) else (some (x1, false)))) else (some (x1, false))) else (some (x1, false))))
def z5s : Con := ⟨112, [.v (.s .net) false, .v (.sl .I) false, .v (.s .kase) false, .v .I false, .v .I false], [((.s .kase), true), (.B, true)], [], fun x => z3x x.1 x.2.1 x.2.2.1 x.2.2.2.1 x.2.2.2.2.1⟩
def y5t : Fs := ⟨[z4y, z1u, z7y, z0k, z2m, z2b], [], []⟩
theorem y67 : y5t.Ok Try.prog := (fsK z8e (fsK z9g (fsK y1j (fsK y1k (fsK zs6 (fsK y92 fs0))))))
theorem zs3 : z5s.Ok Try.prog := fn_ok (k := z5s) (fn := Try.f112) (W := []) (H := []) Try.func112 y67 trivial rfl rfl (fun av x => by kernel_rfl)
def z57 (n : GNet) (c : GCase) (k : Int) (v : Int) (num : Int) : Option (GCase × Bool) := (z3s c).bind fun x1 => ((z4r n c).bind fun x2 => (if x2 = true then (if decide (c.state = 1) = true then (gd (ok64 ((c.busy.length : Int) - 1)) ((z00 k 0 ((c.busy.length : Int) - 1)).bind fun x6 => (if x6 = true then ((z00 v (-1) 2).bind fun x8 => (if x8 = true then ((z00 num (-99) 99).bind fun x10 => (if x10 = true then (if decide ((c.did.length : Int) = 60) = true then (some (x1, false)) else ((getI c.busy k).bind fun x13 => ((z46 c.data v num).bind fun x14 => (gd (ok64 (x13.did + 1)) ((getI x1.busy k).bind fun x16 => (gd (ok64 (x13.did + 1)) ((getI n.tasks x13.task).bind fun x18 => (if decide ((x13.did + 1) < x18.need) = true then (some ((GCase.mk x1.state x1.marks (x1.busy.set k.toNat (GItem.mk x16.task x16.who (x13.did + 1))) x14 x1.did), true)) else ((z72 n c.marks x13.task x14).bind fun x20 => (if x20.2 = true then (gd ((0 : Int) ≤ k ∧ k ≤ (c.busy.length : Int)) (gd (([] : List GItem).length + (c.busy.take k.toNat).length ≤ SMALL) (gd (ok64 (k + 1)) (gd ((0 : Int) ≤ (k + 1) ∧ (k + 1) ≤ (c.busy.length : Int)) (gd ((([] : List GItem) ++ (c.busy.take k.toNat)).length + (c.busy.drop (k + 1).toNat).length ≤ SMALL) (gd (x1.did.length + [(GDid.mk x13.task x13.who)].length ≤ SMALL) ((getI x20.1 1).bind fun x28 => (if decide (0 < x28) = true then (some ((GCase.mk 2 x20.1 ([] : List GItem) x14 (x1.did ++ [(GDid.mk x13.task x13.who)])), true)) else (some ((GCase.mk x1.state x20.1 ((([] : List GItem) ++ (c.busy.take k.toNat)) ++ (c.busy.drop (k + 1).toNat)) x14 (x1.did ++ [(GDid.mk x13.task x13.who)])), true)))))))))) else ((z3s c).bind fun x30 => (some (x30, false))))))))))))) else (some (x1, false)))) else (some (x1, false)))) else (some (x1, false))))) else (some (x1, false))) else (some (x1, false))))
def z6w : Con := ⟨25, [.v (.s .net) false, .v (.s .kase) false, .v .I false, .v .I false, .v .I false], [((.s .kase), true), (.B, true)], [], fun x => z57 x.1 x.2.1 x.2.2.1 x.2.2.2.1 x.2.2.2.2.1⟩
def y84 : Fs := ⟨[z4y, z1u, z0c, z7x, z0i], [], []⟩
theorem y8l : y84.Ok Try.prog := (fsK z8e (fsK z9g (fsK z0f (fsK y1h (fsK y94 fs0)))))
theorem zy6 : z6w.Ok Try.prog := fn_ok (k := z6w) (fn := Try.f25) (W := []) (H := []) Try.func25 y8l trivial rfl rfl (fun av x => by kernel_rfl)
def z6z (n : GNet) (c : GCase) : Option (GCase × Bool) := (z3s c).bind fun x1 => ((z4r n c).bind fun x2 => (if x2 = true then (if decide (c.state = 1) = true then (some ((GCase.mk 3 x1.marks ([] : List GItem) x1.data x1.did), true)) else (some (x1, false))) else (some (x1, false))))
def za6 : Con := ⟨171, [.v (.s .net) false, .v (.s .kase) false], [((.s .kase), true), (.B, true)], [], fun x => z6z x.1 x.2.1⟩
def y83 : Fs := ⟨[z4y, z1u], [], []⟩
theorem y8k : y83.Ok Try.prog := (fsK z8e (fsK z9g fs0))
theorem y91 : za6.Ok Try.prog := fn_ok (k := za6) (fn := Try.f171) (W := []) (H := []) Try.func171 y8k trivial rfl rfl (fun av x => by kernel_rfl)
def zr7 (s0_0 : Int) (bk0 : Int → Option Bool) (s1_0 : Int) : Option Bool := if ((decide (s0_0 = 0)) == (decide (s1_0 = 0))) = true then (if decide (1 < s1_0) = true then (some false) else (gd (ok64 (s0_0 + 1)) (bk0 (s0_0 + 1)))) else (some false)
def z0l (tree : List GNode) (s0_0 : Int) (kx1_0 : Int → Option Bool) : Nat → Int → Int → Option Bool
  | 0, _, _ => none
  | n1 + 1, s1_0, s1_1 => if decide (s1_1 < (tree.length : Int)) = true then ((getI tree s1_1).bind fun x15 => (if decide (x15.yes = s0_0) = true then (gd (ok64 (s1_0 + 1)) ((getI tree s1_1).bind fun x18 => (if decide (x18.no = s0_0) = true then (gd (ok64 ((s1_0 + 1) + 1)) (gd (ok64 (s1_1 + 1)) ((z0l tree s0_0 kx1_0 n1) ((s1_0 + 1) + 1) (s1_1 + 1)))) else (gd (ok64 (s1_1 + 1)) ((z0l tree s0_0 kx1_0 n1) (s1_0 + 1) (s1_1 + 1)))))) else ((getI tree s1_1).bind fun x23 => (if decide (x23.no = s0_0) = true then (gd (ok64 (s1_0 + 1)) (gd (ok64 (s1_1 + 1)) ((z0l tree s0_0 kx1_0 n1) (s1_0 + 1) (s1_1 + 1)))) else (gd (ok64 (s1_1 + 1)) ((z0l tree s0_0 kx1_0 n1) s1_0 (s1_1 + 1))))))) else (kx1_0 s1_0)
def zr8 (s0_0 : Int) (bk0 : Int → Option Bool) (s2_0 : Int) : Option Bool := if ((decide (s0_0 = 0)) == (decide (s2_0 = 0))) = true then (if decide (1 < s2_0) = true then (some false) else (gd (ok64 (s0_0 + 1)) (bk0 (s0_0 + 1)))) else (some false)
def zr9 (s0_0 : Int) (bk0 : Int → Option Bool) (s3_0 : Int) : Option Bool := if ((decide (s0_0 = 0)) == (decide (s3_0 = 0))) = true then (if decide (1 < s3_0) = true then (some false) else (gd (ok64 (s0_0 + 1)) (bk0 (s0_0 + 1)))) else (some false)
def zs0 (s0_0 : Int) (bk0 : Int → Option Bool) (s4_0 : Int) : Option Bool := if ((decide (s0_0 = 0)) == (decide (s4_0 = 0))) = true then (if decide (1 < s4_0) = true then (some false) else (gd (ok64 (s0_0 + 1)) (bk0 (s0_0 + 1)))) else (some false)
def zs1  : Option Bool := some true
def z1s (tree : List GNode) (kx0_0 : Option Bool) : Nat → Int → Option Bool
  | 0, _ => none
  | n0 + 1, s0_0 => if decide (s0_0 < (tree.length : Int)) = true then ((getI tree s0_0).bind fun x3 => ((z3p x3.if_).bind fun x4 => (if x4 = true then ((z00 x3.ans 0 2).bind fun x6 => (if x6 = true then ((z1g x3.stone).bind fun x8 => (if x8 = true then ((z0s x3.if_ x3.stone).bind fun x10 => (if x10 = true then (if decide (x3.yes = (-1)) = true then (if decide (x3.no = (-1)) = true then (z0l tree s0_0 (zr7 s0_0 (z1s tree kx0_0 n0)) FUEL 0 0) else (gd (ok64 (s0_0 + 1)) (gd (ok64 ((tree.length : Int) - 1)) ((z00 x3.no (s0_0 + 1) ((tree.length : Int) - 1)).bind fun x33 => (if x33 = true then (z0l tree s0_0 (zr8 s0_0 (z1s tree kx0_0 n0)) FUEL 0 0) else (some false)))))) else (gd (ok64 (s0_0 + 1)) (gd (ok64 ((tree.length : Int) - 1)) ((z00 x3.yes (s0_0 + 1) ((tree.length : Int) - 1)).bind fun x54 => (if x54 = true then (if decide (x3.no = (-1)) = true then (z0l tree s0_0 (zr9 s0_0 (z1s tree kx0_0 n0)) FUEL 0 0) else (gd (ok64 (s0_0 + 1)) (gd (ok64 ((tree.length : Int) - 1)) ((z00 x3.no (s0_0 + 1) ((tree.length : Int) - 1)).bind fun x76 => (if x76 = true then (z0l tree s0_0 (zs0 s0_0 (z1s tree kx0_0 n0)) FUEL 0 0) else (some false)))))) else (some false)))))) else (some false))) else (some false))) else (some false))) else (some false)))) else (kx0_0)
def z4u (tree : List GNode) : Option Bool := if decide (12 < (tree.length : Int)) = true then (some false) else (z1s tree zs1 FUEL 0)
def z0p : Con := ⟨93, [.v (.sl (.s .node)) false], [(.B, true)], [], fun x => z4u x.1⟩
def ym8 : Fs := ⟨[z4p, z0c, z0o, z2l], [], []⟩
theorem zo6 : ym8.Ok Try.prog := (fsK z7c (fsK z0f (fsK z3t (fsK z45 fs0))))
def zl7 : Tmpl := ⟨[(0, .c (.s (.s .node))), (3, .c .i), (5, .c .i), (6, .c .i)], []⟩
def zf9 : Tmpl := ⟨[(0, .c (.s (.s .node))), (3, .c .i), (5, .c .i)], []⟩
def y3u (av : AV) (x : HP z0p.ps) (n : Nat) (v : zl7.den) (K : Ks (CR z0p)) : Option (CR z0p) := z0l v.1.1 v.1.2.1 (fun s1_0 => zf9.at none ((v.1.1, v.1.2.1, s1_0, ()), ()) (K (.exit 2))) n v.1.2.2.1 v.1.2.2.2.1
def zj2 (av : AV) (x : HP z0p.ps) : Hdl (CR z0p) := hnd [] zl7 (y3u av x)
theorem y4g : LP z0p Try.f93 [0, 0] zj2 := lp_ok (W := []) (H := []) (xs := [zf9]) zo6 trivial rfl (fun av x v K => by kernel_rfl) (fun av x n v K => by kernel_rfl)
def zz5 : Tmpl := ⟨[(0, .c (.s (.s .node))), (3, .c .i)], []⟩
def zv2 : Tmpl := ⟨[], []⟩
def y7x (av : AV) (x : HP z0p.ps) (n : Nat) (v : zz5.den) (K : Ks (CR z0p)) : Option (CR z0p) := z1s v.1.1 (zv2.at none ((), ()) (K (.exit 0))) n v.1.2.1
def zy1 (av : AV) (x : HP z0p.ps) : Hdl (CR z0p) := hnd [] zz5 (y7x av x)
theorem y8v : LP z0p Try.f93 [0] zy1 := lp_ok (W := []) (H := [zj2]) (xs := [zv2]) zo6 ⟨y4g, trivial⟩ rfl (fun av x v K => by kernel_rfl) (fun av x n v K => by kernel_rfl)
theorem zs5 : z0p.Ok Try.prog := fn_ok (k := z0p) (fn := Try.f93) (W := []) (H := [zy1]) Try.func93 zo6 ⟨y8v, trivial⟩ rfl rfl (fun av x => by kernel_rfl)
def zk5 (s0_0 : Int) (s0_1 : Int) : Option (Int × Int) := some (s0_0, s0_1)
def zk6 (s0_0 : Int) (s0_1 : Int) : Option (Int × Int) := some (s0_0, s0_1)
def z1y (tree : List GNode) (data : List Int) (kx0_0 : Int → Int → Option (Int × Int)) (kx0_1 : Int → Int → Option (Int × Int)) : Nat → Int → Int → Int → Int → Option (Int × Int)
  | 0, _, _, _, _ => none
  | n0 + 1, s0_0, s0_1, s0_2, s0_3 => if decide (s0_3 < 12) = true then (if decide (s0_2 = (-1)) = true then (kx0_0 s0_0 s0_1) else ((getI tree s0_2).bind fun x4 => ((z0s x4.if_ data).bind fun x5 => (if x5 = true then ((getI tree s0_2).bind fun x7 => (gd (ok64 (s0_3 + 1)) ((z1y tree data kx0_0 kx0_1 n0) s0_2 s0_2 x7.yes (s0_3 + 1)))) else ((getI tree s0_2).bind fun x9 => (gd (ok64 (s0_3 + 1)) ((z1y tree data kx0_0 kx0_1 n0) s0_0 s0_2 x9.no (s0_3 + 1)))))))) else (kx0_1 s0_0 s0_1)
def zk7 (s1_0 : Int) (s1_1 : Int) : Option (Int × Int) := some (s1_0, s1_1)
def zk8 (s1_0 : Int) (s1_1 : Int) : Option (Int × Int) := some (s1_0, s1_1)
def z4a (tree : List GNode) (data : List Int) : Option (Int × Int) := if decide ((tree.length : Int) = 0) = true then (z1y tree data zk5 zk6 FUEL (-1) (-1) (-1) 0) else (z1y tree data zk7 zk8 FUEL (-1) (-1) 0 0)
def z1q : Con := ⟨169, [.v (.sl (.s .node)) false, .v (.sl .I) false], [(.I, true), (.I, true)], [], fun x => z4a x.1 x.2.1⟩
def yd4 : Fs := ⟨[z2l], [], []⟩
theorem y11 : yd4.Ok Try.prog := (fsK z45 fs0)
def zu1 : Tmpl := ⟨[(0, .c (.s (.s .node))), (1, .c (.s .I)), (6, .c .i), (7, .c .i), (8, .c .i), (9, .c .i)], []⟩
def z7q : Tmpl := ⟨[(6, .c .i), (7, .c .i)], []⟩
def y5h (av : AV) (x : HP z1q.ps) (n : Nat) (v : zu1.den) (K : Ks (CR z1q)) : Option (CR z1q) := z1y v.1.1 v.1.2.1 (fun s0_0 s0_1 => z7q.at none ((s0_0, s0_1, ()), ()) (K (.exit 0))) (fun s0_0 s0_1 => z7q.at none ((s0_0, s0_1, ()), ()) (K (.exit 0))) n v.1.2.2.1 v.1.2.2.2.1 v.1.2.2.2.2.1 v.1.2.2.2.2.2.1
def zq1 (av : AV) (x : HP z1q.ps) : Hdl (CR z1q) := hnd [] zu1 (y5h av x)
theorem y6l : LP z1q Try.f169 [0] zq1 := lp_ok (W := []) (H := []) (xs := [z7q]) y11 trivial rfl (fun av x v K => by kernel_rfl) (fun av x n v K => by kernel_rfl)
theorem zi0 : z1q.Ok Try.prog := fn_ok (k := z1q) (fn := Try.f169) (W := []) (H := [zq1]) Try.func169 y11 ⟨y6l, trivial⟩ rfl rfl (fun av x => by kernel_rfl)
def z84 (tree : List GNode) (data : List Int) : Option Int := (z4u tree).bind fun x1 => (if x1 = true then ((z1g data).bind fun x3 => (if x3 = true then ((z4a tree data).bind fun x5 => (if decide (x5.1 = (-1)) = true then (some 0) else ((getI tree x5.1).bind fun x7 => (some x7.ans)))) else (some 0))) else (some 0))
def zg9 : Con := ⟨154, [.v (.sl (.s .node)) false, .v (.sl .I) false], [(.I, true)], [], fun x => z84 x.1 x.2.1⟩
def yc3 : Fs := ⟨[z0p, z0o, z1q], [], []⟩
theorem ye4 : yc3.Ok Try.prog := (fsK zs5 (fsK z3t (fsK zi0 fs0)))
theorem yg8 : zg9.Ok Try.prog := fn_ok (k := zg9) (fn := Try.f154) (W := []) (H := []) Try.func154 ye4 trivial rfl rfl (fun av x => by kernel_rfl)
def z89 (tree : List GNode) (a : List Int) (b : List Int) : Option Bool := (z4a tree a).bind fun x1 => ((z4a tree b).bind fun x2 => (if decide (x1.2 = x2.2) = true then (if decide (x1.2 = (-1)) = true then (some true) else ((getI tree x1.2).bind fun x5 => ((z0s x5.if_ a).bind fun x6 => ((getI tree x1.2).bind fun x7 => ((z0s x7.if_ b).bind fun x8 => (some (x6 == x8))))))) else (some false)))
def zh3 : Con := ⟨170, [.v (.sl (.s .node)) false, .v (.sl .I) false, .v (.sl .I) false], [(.B, true)], [], fun x => z89 x.1 x.2.1 x.2.2.1⟩
def yd3 : Fs := ⟨[z1q, z2l], [], []⟩
theorem yf1 : yd3.Ok Try.prog := (fsK zi0 (fsK z45 fs0))
theorem yh3 : zh3.Ok Try.prog := fn_ok (k := zh3) (fn := Try.f170) (W := []) (H := []) Try.func170 yf1 trivial rfl rfl (fun av x => by kernel_rfl)
def z7m (l0_1 : List GNode) : Option (List GNode) := some l0_1
def z3j (tree : List GNode) (kx0_0 : List GNode → Option (List GNode)) : Nat → Int → List GNode → Option (List GNode)
  | 0, _, _ => none
  | n0 + 1, s0_0, l0_1 => if decide (s0_0 < (tree.length : Int)) = true then ((getI tree s0_0).bind fun x2 => (gd (([] : List Int).length + x2.stone.length ≤ SMALL) (gd (l0_1.length + [(GNode.mk x2.if_ x2.yes x2.no x2.ans (([] : List Int) ++ x2.stone))].length ≤ SMALL) (gd (ok64 (s0_0 + 1)) ((z3j tree kx0_0 n0) (s0_0 + 1) (l0_1 ++ [(GNode.mk x2.if_ x2.yes x2.no x2.ans (([] : List Int) ++ x2.stone))])))))) else (kx0_0 l0_1)
def z6g (tree : List GNode) : Option (List GNode) := z3j tree z7m FUEL 0 ([] : List GNode)
def z2j : Con := ⟨157, [.v (.sl (.s .node)) false], [((.sl (.s .node)), true)], [], fun x => z6g x.1⟩
def yd2 : Fs := ⟨[], [], []⟩
theorem y10 : yd2.Ok Try.prog := fs0
def zu0 : Tmpl := ⟨[(0, .c (.s (.s .node))), (3, .c (.ref 6)), (4, .c .i)], [(6, .arr (.s .node) true)]⟩
def zn4 : Tmpl := ⟨[(3, .c (.ref 6))], [(6, .arr (.s .node) true)]⟩
def y5g (av : AV) (x : HP z2j.ps) (n : Nat) (v : zu0.den) (K : Ks (CR z2j)) : Option (CR z2j) := z3j v.1.1 (fun l0_1 => zn4.at none (((), ()), (l0_1, ())) (K (.exit 0))) n v.1.2.2.1 v.2.1
def zq0 (av : AV) (x : HP z2j.ps) : Hdl (CR z2j) := hnd [] zu0 (y5g av x)
theorem y6k : LP z2j Try.f157 [0] zq0 := lp_ok (W := []) (H := []) (xs := [zn4]) y10 trivial rfl (fun av x v K => by kernel_rfl) (fun av x n v K => by kernel_rfl)
theorem y1n : z2j.Ok Try.prog := fn_ok (k := z2j) (fn := Try.f157) (W := []) (H := [zq0]) Try.func157 y10 ⟨y6k, trivial⟩ rfl rfl (fun av x => by kernel_rfl)
def z5f (tree : List GNode) (data : List Int) (e : GAsk) (ans : Int) (x1 : (List GNode)) : Option ((List GNode) × Bool) := (z4a tree data).bind fun x20 => (if decide (x20.2 = (-1)) = true then (gd (([] : List Int).length + data.length ≤ SMALL) (gd (x1.length + [(GNode.mk e (-1) (-1) ans (([] : List Int) ++ data))].length ≤ SMALL) (some ((x1 ++ [(GNode.mk e (-1) (-1) ans (([] : List Int) ++ data))]), true)))) else ((getI tree x20.2).bind fun x24 => ((z0s x24.if_ data).bind fun x25 => (if x25 = true then ((getI x1 x20.2).bind fun x27 => (gd (([] : List Int).length + data.length ≤ SMALL) (gd ((x1.set x20.2.toNat (GNode.mk x27.if_ (tree.length : Int) x27.no x27.ans x27.stone)).length + [(GNode.mk e (-1) (-1) ans (([] : List Int) ++ data))].length ≤ SMALL) (some (((x1.set x20.2.toNat (GNode.mk x27.if_ (tree.length : Int) x27.no x27.ans x27.stone)) ++ [(GNode.mk e (-1) (-1) ans (([] : List Int) ++ data))]), true))))) else ((getI x1 x20.2).bind fun x30 => (gd (([] : List Int).length + data.length ≤ SMALL) (gd ((x1.set x20.2.toNat (GNode.mk x30.if_ x30.yes (tree.length : Int) x30.ans x30.stone)).length + [(GNode.mk e (-1) (-1) ans (([] : List Int) ++ data))].length ≤ SMALL) (some (((x1.set x20.2.toNat (GNode.mk x30.if_ x30.yes (tree.length : Int) x30.ans x30.stone)) ++ [(GNode.mk e (-1) (-1) ans (([] : List Int) ++ data))]), true)))))))))
def z2u (tree : List GNode) (data : List Int) (e : GAsk) (x1 : (List GNode)) (kx0_0 : Option ((List GNode) × Bool)) : Nat → Int → Option ((List GNode) × Bool)
  | 0, _ => none
  | n0 + 1, s0_0 => if decide (s0_0 < (tree.length : Int)) = true then ((getI tree s0_0).bind fun x12 => ((z89 tree x12.stone data).bind fun x13 => (if x13 = true then ((getI tree s0_0).bind fun x15 => ((z0s e x15.stone).bind fun x16 => (if x16 = true then (some (x1, false)) else (gd (ok64 (s0_0 + 1)) ((z2u tree data e x1 kx0_0 n0) (s0_0 + 1)))))) else (gd (ok64 (s0_0 + 1)) ((z2u tree data e x1 kx0_0 n0) (s0_0 + 1)))))) else (kx0_0)
def z47 (tree : List GNode) (data : List Int) (e : GAsk) (ans : Int) : Option ((List GNode) × Bool) := (z6g tree).bind fun x1 => ((z4u tree).bind fun x2 => (if x2 = true then ((z1g data).bind fun x4 => (if x4 = true then ((z0s e data).bind fun x6 => (if x6 = true then ((z00 ans 0 2).bind fun x8 => (if x8 = true then (if decide ((tree.length : Int) = 12) = true then (some (x1, false)) else (z2u tree data e x1 (z5f tree data e ans x1) FUEL 0)) else (some (x1, false)))) else (some (x1, false)))) else (some (x1, false)))) else (some (x1, false))))
def z2c : Con := ⟨155, [.v (.sl (.s .node)) false, .v (.sl .I) false, .v (.s .ask) false, .v .I false], [((.sl (.s .node)), true), (.B, true)], [], fun x => z47 x.1 x.2.1 x.2.2.1 x.2.2.2.1⟩
def yc2 : Fs := ⟨[z2j, z0p, z0o, z2l, z0c, zh3, z1q], [], []⟩
theorem y0x : yc2.Ok Try.prog := (fsK y1n (fsK zs5 (fsK z3t (fsK z45 (fsK z0f (fsK yh3 (fsK zi0 fs0)))))))
def zt7 : Tmpl := ⟨[(0, .c (.s (.s .node))), (1, .c (.s .I)), (3, .c .i), (6, .c (.bx 6 0)), (10, .c (.ref 15)), (11, .c .i)], [(6, .boxT (.s .ask)), (15, .arr (.s .node) true)]⟩
def zn1 : Tmpl := ⟨[(0, .c (.s (.s .node))), (1, .c (.s .I)), (3, .c .i), (6, .c (.bx 6 0)), (10, .c (.ref 15))], [(6, .boxT (.s .ask)), (15, .arr (.s .node) true)]⟩
def y5d (av : AV) (x : HP z2c.ps) (n : Nat) (v : zt7.den) (K : Ks (CR z2c)) : Option (CR z2c) := z2u v.1.1 v.1.2.1 v.2.1 v.2.2.1 (zn1.at none ((v.1.1, v.1.2.1, v.1.2.2.1, (), (), ()), (v.2.1, v.2.2.1, ())) (K (.exit 0))) n v.1.2.2.2.2.2.1
def zp7 (av : AV) (x : HP z2c.ps) : Hdl (CR z2c) := hnd [] zt7 (y5d av x)
theorem y6h : LP z2c Try.f155 [0] zp7 := lp_ok (W := []) (H := []) (xs := [zn1]) y0x trivial rfl (fun av x v K => by kernel_rfl) (fun av x n v K => by kernel_rfl)
theorem y1l : z2c.Ok Try.prog := fn_ok (k := z2c) (fn := Try.f155) (W := []) (H := [zp7]) Try.func155 y0x ⟨y6h, trivial⟩ rfl rfl (fun av x => by kernel_rfl)
def zk9  : Option Bool := some true
def z3m (nets : List GNet) (kx0_0 : Option Bool) : Nat → Int → Option Bool
  | 0, _ => none
  | n0 + 1, s0_0 => if decide (s0_0 < (nets.length : Int)) = true then ((getI nets s0_0).bind fun x4 => ((z1x x4).bind fun x5 => (if x5 = true then (gd (ok64 (s0_0 + 1)) ((z3m nets kx0_0 n0) (s0_0 + 1))) else (some false)))) else (kx0_0)
def z6h (nets : List GNet) : Option Bool := (z00 (nets.length : Int) 1 3).bind fun x1 => (if x1 = true then (z3m nets zk9 FUEL 0) else (some false))
def z2k : Con := ⟨91, [.v (.sl (.s .net)) false], [(.B, true)], [], fun x => z6h x.1⟩
def yd8 : Fs := ⟨[z0c, z1e], [], []⟩
theorem y12 : yd8.Ok Try.prog := (fsK z0f (fsK z7d fs0))
def zu4 : Tmpl := ⟨[(0, .c (.s (.s .net))), (3, .c .i)], []⟩
def zn7 : Tmpl := ⟨[], []⟩
def y5k (av : AV) (x : HP z2k.ps) (n : Nat) (v : zu4.den) (K : Ks (CR z2k)) : Option (CR z2k) := z3m v.1.1 (zn7.at none ((), ()) (K (.exit 0))) n v.1.2.1
def zq4 (av : AV) (x : HP z2k.ps) : Hdl (CR z2k) := hnd [] zu4 (y5k av x)
theorem y6o : LP z2k Try.f91 [0] zq4 := lp_ok (W := []) (H := []) (xs := [zn7]) y12 trivial rfl (fun av x v K => by kernel_rfl) (fun av x n v K => by kernel_rfl)
theorem y1o : z2k.Ok Try.prog := fn_ok (k := z2k) (fn := Try.f91) (W := []) (H := [zq4]) Try.func91 y12 ⟨y6o, trivial⟩ rfl rfl (fun av x => by kernel_rfl)
def z5j (p0_1 : Int) (l0_1 : List GTask) : Option GNet := some (GNet.mk p0_1 l0_1)
def z28 (n : GNet) (kx0_0 : List GTask → Option GNet) : Nat → Int → List GTask → Option GNet
  | 0, _, _ => none
  | n0 + 1, s0_0, l0_1 => if decide (s0_0 < (n.tasks.length : Int)) = true then ((getI n.tasks s0_0).bind fun x2 => (gd (([] : List Int).length + x2.in_.length ≤ SMALL) (gd (([] : List GFlow).length + x2.out.length ≤ SMALL) (gd (([] : List Int).length + x2.clear.length ≤ SMALL) (gd (l0_1.length + [(GTask.mk x2.join x2.split (([] : List Int) ++ x2.in_) (([] : List GFlow) ++ x2.out) (([] : List Int) ++ x2.clear) x2.role x2.apart x2.all x2.need)].length ≤ SMALL) (gd (ok64 (s0_0 + 1)) ((z28 n kx0_0 n0) (s0_0 + 1) (l0_1 ++ [(GTask.mk x2.join x2.split (([] : List Int) ++ x2.in_) (([] : List GFlow) ++ x2.out) (([] : List Int) ++ x2.clear) x2.role x2.apart x2.all x2.need)])))))))) else (kx0_0 l0_1)
def z4d (n : GNet) : Option GNet := z28 n (z5j n.places) FUEL 0 ([] : List GTask)
def z0z : Con := ⟨158, [.v (.s .net) false], [((.s .net), true)], [], fun x => z4d x.1⟩
def y47 : Fs := ⟨[], [], []⟩
theorem zi6 : y47.Ok Try.prog := fs0
def z9q : Tmpl := ⟨[(1, .c (.bx 1 0)), (2, .c (.bx 2 0)), (3, .c (.bx 3 0)), (4, .c .i)], [(1, .boxT (.s .net)), (2, .box [.i, .nl]), (3, .box [.i, .ref 510301]), (510301, .arr (.s .task) true)]⟩
def z90 : Tmpl := ⟨[(2, .c (.bx 2 0)), (3, .c (.bx 3 0))], [(2, .box [.i, .nl]), (3, .box [.i, .ref 510301]), (510301, .arr (.s .task) true)]⟩
def y0h (av : AV) (x : HP z0z.ps) (n : Nat) (v : z9q.den) (K : Ks (CR z0z)) : Option (CR z0z) := z28 v.2.1 (fun l0_1 => z90.at none (((), (), ()), ((v.2.2.1.1, (), ()), (v.2.2.2.1.1, (), ()), l0_1, ())) (K (.exit 0))) n v.1.2.2.2.1 v.2.2.2.2.1
def z99 (av : AV) (x : HP z0z.ps) : Hdl (CR z0z) := hnd [.b 3 1 510301 (.s .task)] z9q (y0h av x)
theorem y1c : LP z0z Try.f158 [0] z99 := lp_ok (W := []) (H := []) (xs := [z90]) zi6 trivial rfl (fun av x v K => by kernel_rfl) (fun av x n v K => by kernel_rfl)
theorem zl1 : z0z.Ok Try.prog := fn_ok (k := z0z) (fn := Try.f158) (W := []) (H := [z99]) Try.func158 zi6 ⟨y1c, trivial⟩ rfl rfl (fun av x => by kernel_rfl)
def z7k (p0_0 : List Int) (l0_1 : List GNet) : Option GHouse := some (GHouse.mk l0_1 p0_0 [] [])
def z3f (nets : List GNet) (kx0_0 : List GNet → Option GHouse) : Nat → Int → List GNet → Option GHouse
  | 0, _, _ => none
  | n0 + 1, s0_0, l0_1 => if decide (s0_0 < (nets.length : Int)) = true then ((getI nets s0_0).bind fun x7 => ((z4d x7).bind fun x8 => (gd (l0_1.length + [x8].length ≤ SMALL) (gd (ok64 (s0_0 + 1)) ((z3f nets kx0_0 n0) (s0_0 + 1) (l0_1 ++ [x8])))))) else (kx0_0 l0_1)
def z81 (nets : List GNet) (people : List Int) : Option GHouse := (z6h nets).bind fun x1 => (if x1 = true then ((z4t people).bind fun x3 => (if x3 = true then (gd (([] : List Int).length + people.length ≤ SMALL) (z3f nets (z7k (([] : List Int) ++ people)) FUEL 0 ([] : List GNet))) else (some (GHouse.mk [] [] [] [])))) else (some (GHouse.mk [] [] [] [])))
def z2y : Con := ⟨128, [.v (.sl (.s .net)) false, .v (.sl .I) false], [((.s .house), true)], [], fun x => z81 x.1 x.2.1⟩
def yb8 : Fs := ⟨[z2k, z1w, z0z], [], []⟩
theorem y0u : yb8.Ok Try.prog := (fsK y1o (fsK z9i (fsK zl1 fs0)))
def zt3 : Tmpl := ⟨[(0, .c (.s (.s .net))), (4, .c (.bx 4 0)), (5, .c (.bx 5 0)), (6, .c .i)], [(4, .box [.nl, .nl, .nl, .nl]), (5, .box [.ref 510500, .ref 18, .nl, .nl]), (510500, .arr (.s .net) true), (18, .arr .I true)]⟩
def zm7 : Tmpl := ⟨[(4, .c (.bx 4 0)), (5, .c (.bx 5 0))], [(4, .box [.nl, .nl, .nl, .nl]), (5, .box [.ref 510500, .ref 18, .nl, .nl]), (510500, .arr (.s .net) true), (18, .arr .I true)]⟩
def y59 (av : AV) (x : HP z2y.ps) (n : Nat) (v : zt3.den) (K : Ks (CR z2y)) : Option (CR z2y) := z3f v.1.1 (fun l0_1 => zm7.at none (((), (), ()), (((), (), (), (), ()), ((), (), (), (), ()), l0_1, v.2.2.2.2.1, ())) (K (.exit 0))) n v.1.2.2.2.1 v.2.2.2.1
def zp3 (av : AV) (x : HP z2y.ps) : Hdl (CR z2y) := hnd [.b 5 0 510500 (.s .net)] zt3 (y59 av x)
theorem y6d : LP z2y Try.f128 [0] zp3 := lp_ok (W := []) (H := []) (xs := [zm7]) y0u trivial rfl (fun av x v K => by kernel_rfl) (fun av x n v K => by kernel_rfl)
theorem yg5 : z2y.Ok Try.prog := fn_ok (k := z2y) (fn := Try.f128) (W := []) (H := [zp3]) Try.func128 y0u ⟨y6d, trivial⟩ rfl rfl (fun av x => by kernel_rfl)
def zr3  : Option Bool := some true
def z3z (h : GHouse) (kx0_0 : Option Bool) : Nat → Int → Option Bool
  | 0, _ => none
  | n0 + 1, s0_0 => if decide (s0_0 < (h.runs.length : Int)) = true then ((getI h.runs s0_0).bind fun x9 => (gd (ok64 ((h.nets.length : Int) - 1)) ((z00 x9.net 0 ((h.nets.length : Int) - 1)).bind fun x11 => (if x11 = true then ((getI h.runs s0_0).bind fun x13 => ((getI h.nets x13.net).bind fun x14 => ((getI h.runs s0_0).bind fun x15 => ((z4r x14 x15.case).bind fun x16 => (if x16 = true then (gd (ok64 (s0_0 + 1)) ((z3z h kx0_0 n0) (s0_0 + 1))) else (some false)))))) else (some false))))) else (kx0_0)
def z5l (h : GHouse) : Option Bool := (z6h h.nets).bind fun x1 => (if x1 = true then ((z4t h.people).bind fun x3 => (if x3 = true then ((z4u h.tree).bind fun x5 => (if x5 = true then (if decide (5 < (h.runs.length : Int)) = true then (some false) else (z3z h zr3 FUEL 0)) else (some false))) else (some false))) else (some false))
def z3n : Con := ⟨43, [.v (.s .house) false], [(.B, true)], [], fun x => z5l x.1⟩
def ym3 : Fs := ⟨[z2k, z1w, z0p, z0c, z1u], [], []⟩
theorem y39 : ym3.Ok Try.prog := (fsK y1o (fsK z9i (fsK zs5 (fsK z0f (fsK z9g fs0)))))
def zz1 : Tmpl := ⟨[(1, .c (.bx 1 0)), (3, .c .i)], [(1, .boxT (.s .house))]⟩
def zu8 : Tmpl := ⟨[], []⟩
def y7t (av : AV) (x : HP z3n.ps) (n : Nat) (v : zz1.den) (K : Ks (CR z3n)) : Option (CR z3n) := z3z v.2.1 (zu8.at none ((), ()) (K (.exit 0))) n v.1.2.1
def zx7 (av : AV) (x : HP z3n.ps) : Hdl (CR z3n) := hnd [] zz1 (y7t av x)
theorem y8r : LP z3n Try.f43 [0] zx7 := lp_ok (W := []) (H := []) (xs := [zu8]) y39 trivial rfl (fun av x v K => by kernel_rfl) (fun av x n v K => by kernel_rfl)
theorem yp6 : z3n.Ok Try.prog := fn_ok (k := z3n) (fn := Try.f43) (W := []) (H := [zx7]) Try.func43 y39 ⟨y8r, trivial⟩ rfl rfl (fun av x => by kernel_rfl)
def z7n (x2 : (List GNode)) (p0_0 : List Int) (l0_1 : List GNet) (l1_1 : List GRun) : Option GHouse := some (GHouse.mk l0_1 p0_0 x2 l1_1)
def z3l (h : GHouse) (kx1_0 : List GRun → Option GHouse) : Nat → Int → List GRun → Option GHouse
  | 0, _, _ => none
  | n1 + 1, s1_0, l1_1 => if decide (s1_0 < (h.runs.length : Int)) = true then ((getI h.runs s1_0).bind fun x9 => ((getI h.runs s1_0).bind fun x10 => ((z3s x10.case).bind fun x11 => (gd (l1_1.length + [(GRun.mk x9.net x11)].length ≤ SMALL) (gd (ok64 (s1_0 + 1)) ((z3l h kx1_0 n1) (s1_0 + 1) (l1_1 ++ [(GRun.mk x9.net x11)]))))))) else (kx1_0 l1_1)
def z5h (h : GHouse) (x2 : (List GNode)) (p0_0 : List Int) (l0_1 : List GNet) : Option GHouse := z3l h (z7n x2 p0_0 l0_1) FUEL 0 ([] : List GRun)
def z3k (h : GHouse) (kx0_0 : List GNet → Option GHouse) : Nat → Int → List GNet → Option GHouse
  | 0, _, _ => none
  | n0 + 1, s0_0, l0_1 => if decide (s0_0 < (h.nets.length : Int)) = true then ((getI h.nets s0_0).bind fun x4 => ((z4d x4).bind fun x5 => (gd (l0_1.length + [x5].length ≤ SMALL) (gd (ok64 (s0_0 + 1)) ((z3k h kx0_0 n0) (s0_0 + 1) (l0_1 ++ [x5])))))) else (kx0_0 l0_1)
def z8b (h : GHouse) : Option GHouse := gd (([] : List Int).length + h.people.length ≤ SMALL) ((z6g h.tree).bind fun x2 => (z3k h (z5h h x2 (([] : List Int) ++ h.people)) FUEL 0 ([] : List GNet)))
def z0q : Con := ⟨127, [.v (.s .house) false], [((.s .house), true)], [], fun x => z8b x.1⟩
def yd6 : Fs := ⟨[z2j, z0z, z4y], [], []⟩
theorem zg8 : yd6.Ok Try.prog := (fsK y1n (fsK zl1 (fsK z8e fs0)))
def zu2 : Tmpl := ⟨[(1, .c (.bx 1 0)), (2, .c (.bx 2 0)), (3, .c (.bx 3 0)), (4, .c .i)], [(1, .boxT (.s .house)), (2, .box [.nl, .nl, .nl, .nl]), (3, .box [.ref 510300, .ref 9, .ref 12, .nl]), (510300, .arr (.s .net) true), (9, .arr .I true), (12, .arr (.s .node) true)]⟩
def zn5 : Tmpl := ⟨[(1, .c (.bx 1 0)), (2, .c (.bx 2 0)), (3, .c (.bx 3 0))], [(1, .boxT (.s .house)), (2, .box [.nl, .nl, .nl, .nl]), (3, .box [.ref 510300, .ref 9, .ref 12, .nl]), (510300, .arr (.s .net) true), (9, .arr .I true), (12, .arr (.s .node) true)]⟩
def y5i (av : AV) (x : HP z0q.ps) (n : Nat) (v : zu2.den) (K : Ks (CR z0q)) : Option (CR z0q) := z3k v.2.1 (fun l0_1 => zn5.at none (((), (), (), ()), (v.2.1, ((), (), (), (), ()), ((), (), (), (), ()), l0_1, v.2.2.2.2.2.1, v.2.2.2.2.2.2.1, ())) (K (.exit 0))) n v.1.2.2.2.1 v.2.2.2.2.1
def zq2 (av : AV) (x : HP z0q.ps) : Hdl (CR z0q) := hnd [.b 3 0 510300 (.s .net)] zu2 (y5i av x)
theorem y6m : LP z0q Try.f127 [0] zq2 := lp_ok (W := []) (H := []) (xs := [zn5]) zg8 trivial rfl (fun av x v K => by kernel_rfl) (fun av x n v K => by kernel_rfl)
def zu3 : Tmpl := ⟨[(1, .c (.bx 1 0)), (2, .c (.bx 2 0)), (3, .c (.bx 3 0)), (5, .c .i)], [(1, .boxT (.s .house)), (2, .box [.nl, .nl, .nl, .nl]), (3, .box [.ref 510300, .ref 9, .ref 12, .ref 510303]), (510300, .arr (.s .net) true), (9, .arr .I true), (12, .arr (.s .node) true), (510303, .arr (.s .run) true)]⟩
def zn6 : Tmpl := ⟨[(2, .c (.bx 2 0)), (3, .c (.bx 3 0))], [(2, .box [.nl, .nl, .nl, .nl]), (3, .box [.ref 510300, .ref 9, .ref 12, .ref 510303]), (510300, .arr (.s .net) true), (9, .arr .I true), (12, .arr (.s .node) true), (510303, .arr (.s .run) true)]⟩
def y5j (av : AV) (x : HP z0q.ps) (n : Nat) (v : zu3.den) (K : Ks (CR z0q)) : Option (CR z0q) := z3l v.2.1 (fun l1_1 => zn6.at none (((), (), ()), (((), (), (), (), ()), ((), (), (), (), ()), v.2.2.2.2.1, v.2.2.2.2.2.1, v.2.2.2.2.2.2.1, l1_1, ())) (K (.exit 2))) n v.1.2.2.2.1 v.2.2.2.2.2.2.2.1
def zq3 (av : AV) (x : HP z0q.ps) : Hdl (CR z0q) := hnd [.b 3 3 510303 (.s .run)] zu3 (y5j av x)
theorem y6n : LP z0q Try.f127 [1] zq3 := lp_ok (W := []) (H := []) (xs := [zn6]) zg8 trivial rfl (fun av x v K => by kernel_rfl) (fun av x n v K => by kernel_rfl)
theorem yh5 : z0q.Ok Try.prog := fn_ok (k := z0q) (fn := Try.f127) (W := []) (H := [zq2, zq3]) Try.func127 zg8 ⟨y6m, y6n, trivial⟩ rfl rfl (fun av x => by kernel_rfl)
def z8c (r : GReq) : Option GReq := if decide (r.kind = 1) = true then (some (GReq.mk r.kind 0 0 0 0 0 r.data (GAsk.mk 0 0 0) 0)) else (if decide (r.kind = 2) = true then (some (GReq.mk r.kind r.who r.case r.task 0 0 [] (GAsk.mk 0 0 0) 0)) else (if decide (r.kind = 3) = true then (some (GReq.mk r.kind 0 r.case r.task r.var r.num [] (GAsk.mk 0 0 0) 0)) else (if decide (r.kind = 4) = true then (some (GReq.mk r.kind 0 r.case 0 0 0 [] (GAsk.mk 0 0 0) 0)) else (if decide (r.kind = 5) = true then (some (GReq.mk r.kind 0 0 0 0 0 r.data r.if_ r.ans)) else (some (GReq.mk r.kind 0 0 0 0 0 [] (GAsk.mk 0 0 0) 0))))))
def zh5 : Con := ⟨132, [.v (.s .req) false], [((.s .req), false)], [], fun x => z8c x.1⟩
def yd7 : Fs := ⟨[], [], []⟩
theorem yf3 : yd7.Ok Try.prog := fs0
theorem yh6 : zh5.Ok Try.prog := fn_ok (k := zh5) (fn := Try.f132) (W := []) (H := []) Try.func132 yf3 trivial rfl rfl (fun av x => by kernel_rfl)
def z2w (a : GReq) (b : GReq) : Option Bool := if decide (a.kind = b.kind) = true then (if decide (a.who = b.who) = true then (if decide (a.case = b.case) = true then (if decide (a.task = b.task) = true then (if decide (a.var = b.var) = true then (if decide (a.num = b.num) = true then (if decide ([a.if_.op, a.if_.var, a.if_.k] = [b.if_.op, b.if_.var, b.if_.k]) = true then (some (decide (a.ans = b.ans))) else (some false)) else (some false)) else (some false)) else (some false)) else (some false)) else (some false)) else (some false)
def z1z (a : GReq) (b : GReq) (kx0_0 : Option Bool) : Nat → Int → Option Bool
  | 0, _ => none
  | n0 + 1, s0_0 => if decide (s0_0 < (a.data.length : Int)) = true then ((getI a.data s0_0).bind fun x3 => ((getI b.data s0_0).bind fun x4 => (if decide (x3 = x4) = true then (gd (ok64 (s0_0 + 1)) ((z1z a b kx0_0 n0) (s0_0 + 1))) else (some false)))) else (kx0_0)
def z8d (a : GReq) (b : GReq) : Option Bool := if decide ((a.data.length : Int) = (b.data.length : Int)) = true then (z1z a b (z2w a b) FUEL 0) else (some false)
def z32 : Con := ⟨131, [.v (.s .req) false, .v (.s .req) false], [(.B, true)], [], fun x => z8d x.1 x.2.1⟩
def yd9 : Fs := ⟨[], [], []⟩
theorem y13 : yd9.Ok Try.prog := fs0
def zu5 : Tmpl := ⟨[(2, .c (.bx 2 0)), (3, .c (.bx 3 0)), (5, .c .i)], [(2, .boxT (.s .req)), (3, .boxT (.s .req))]⟩
def zn8 : Tmpl := ⟨[(2, .c (.bx 2 0)), (3, .c (.bx 3 0))], [(2, .boxT (.s .req)), (3, .boxT (.s .req))]⟩
def y5l (av : AV) (x : HP z32.ps) (n : Nat) (v : zu5.den) (K : Ks (CR z32)) : Option (CR z32) := z1z v.2.1 v.2.2.1 (zn8.at none (((), (), ()), (v.2.1, v.2.2.1, ())) (K (.exit 0))) n v.1.2.2.1
def zq5 (av : AV) (x : HP z32.ps) : Hdl (CR z32) := hnd [] zu5 (y5l av x)
theorem y6p : LP z32 Try.f131 [0] zq5 := lp_ok (W := []) (H := []) (xs := [zn8]) y13 trivial rfl (fun av x v K => by kernel_rfl) (fun av x n v K => by kernel_rfl)
theorem yh7 : z32.Ok Try.prog := fn_ok (k := z32) (fn := Try.f131) (W := []) (H := [zq5]) Try.func131 y13 ⟨y6p, trivial⟩ rfl rfl (fun av x => by kernel_rfl)
def z5z (r : GReq) : Option Bool := (z00 r.kind 1 5).bind fun x1 => (if x1 = true then ((z8c r).bind fun x3 => ((z8d r x3).bind fun x4 => (if x4 = true then ((z00 r.who 0 4).bind fun x6 => (if x6 = true then ((z00 r.case 0 4).bind fun x8 => (if x8 = true then ((z00 r.task 0 5).bind fun x10 => (if x10 = true then ((z00 r.var (-1) 2).bind fun x12 => (if x12 = true then ((z00 r.num (-99) 99).bind fun x14 => (if x14 = true then ((z3p r.if_).bind fun x16 => (if x16 = true then ((z00 r.ans 0 2).bind fun x18 => (if x18 = true then (if decide (r.kind = 1) = true then ((z1g r.data).bind fun x21 => (some (true == x21))) else ((z1g r.data).bind fun x22 => (some ((decide (r.kind = 5)) == x22)))) else (some false))) else (some false))) else (some false))) else (some false))) else (some false))) else (some false))) else (some false))) else (some false)))) else (some false))
def z8k : Con := ⟨89, [.v (.s .req) false], [(.B, true)], [], fun x => z5z x.1⟩
def y5v : Fs := ⟨[z0c, zh5, z32, z4p, z0o], [], []⟩
theorem y68 : y5v.Ok Try.prog := (fsK z0f (fsK yh6 (fsK yh7 (fsK z7c (fsK z3t fs0)))))
theorem y6s : z8k.Ok Try.prog := fn_ok (k := z8k) (fn := Try.f89) (W := []) (H := []) Try.func89 y68 trivial rfl rfl (fun av x => by kernel_rfl)
def z8a (h : GHouse) (r : GReq) : Option (GHouse × Int) := if decide ((h.runs.length : Int) ≤ r.case) = true then (some (h, 2)) else ((getI h.runs r.case).bind fun x2 => ((getI h.nets x2.net).bind fun x3 => (if decide (r.kind = 2) = true then ((z3x x3 h.people x2.case r.task r.who).bind fun x5 => (if x5.2 = true then ((getI h.runs r.case).bind fun x7 => (some ((GHouse.mk h.nets h.people h.tree (h.runs.set r.case.toNat (GRun.mk x7.net x5.1))), 1))) else (some (h, 3)))) else (if decide (r.kind = 3) = true then ((z57 x3 x2.case r.task r.var r.num).bind fun x9 => (if x9.2 = true then ((getI h.runs r.case).bind fun x11 => (some ((GHouse.mk h.nets h.people h.tree (h.runs.set r.case.toNat (GRun.mk x11.net x9.1))), 1))) else (some (h, 3)))) else ((z6z x3 x2.case).bind fun x12 => (if x12.2 = true then ((getI h.runs r.case).bind fun x14 => (some ((GHouse.mk h.nets h.people h.tree (h.runs.set r.case.toNat (GRun.mk x14.net x12.1))), 1))) else (some (h, 3))))))))
def zh4 : Con := ⟨156, [.v (.s .house) true, .v (.s .req) false], [((.s .house), true), (.I, true)], [], fun x => z8a x.1 x.2.1⟩
def yd5 : Fs := ⟨[z5s, z6w, za6], [], []⟩
theorem yf2 : yd5.Ok Try.prog := (fsK zs3 (fsK zy6 (fsK y91 fs0)))
theorem yh4 : zh4.Ok Try.prog := fn_ok (k := zh4) (fn := Try.f156) (W := []) (H := []) Try.func156 yf2 trivial rfl rfl (fun av x => by kernel_rfl)
def zh7 (h : GHouse) (r : GReq) : Option (GHouse × Int) := if decide (r.kind = 1) = true then (if decide ((h.runs.length : Int) = 5) = true then (some (h, 4)) else ((z84 h.tree r.data).bind fun x3 => (if decide ((h.nets.length : Int) ≤ x3) = true then ((getI h.nets 0).bind fun x5 => ((z4z x5 r.data).bind fun x6 => (gd (h.runs.length + [(GRun.mk 0 x6)].length ≤ SMALL) (some ((GHouse.mk h.nets h.people h.tree (h.runs ++ [(GRun.mk 0 x6)])), 1))))) else ((getI h.nets x3).bind fun x8 => ((z4z x8 r.data).bind fun x9 => (gd (h.runs.length + [(GRun.mk x3 x9)].length ≤ SMALL) (some ((GHouse.mk h.nets h.people h.tree (h.runs ++ [(GRun.mk x3 x9)])), 1)))))))) else (if decide (r.kind = 5) = true then ((z47 h.tree r.data r.if_ r.ans).bind fun x12 => (if x12.2 = true then (some ((GHouse.mk h.nets h.people x12.1 h.runs), 1)) else (some (h, 3)))) else ((z8a h r).bind fun x14 => (some (x14.1, x14.2))))
def y04 : Con := ⟨126, [.v (.s .house) true, .v (.s .req) false], [((.s .house), true), (.I, true)], [], fun x => zh7 x.1 x.2.1⟩
def yu8 : Fs := ⟨[zg9, z7w, z2c, zh4], [], []⟩
theorem yv1 : yu8.Ok Try.prog := (fsK yg8 (fsK y1g (fsK y1l (fsK yh4 fs0))))
theorem yv8 : y04.Ok Try.prog := fn_ok (k := y04) (fn := Try.f126) (W := []) (H := []) Try.func126 yv1 trivial rfl rfl (fun av x => by kernel_rfl)
def zk0  : Option Int := some (-1)
def z3d (s : List Int) (p : Int → Option Bool) (p0_0 : Int) (kx0_0 : Option Int) : Nat → Int → Option Int
  | 0, _ => none
  | n0 + 1, s0_0 => if decide (s0_0 < p0_0) = true then ((getI s s0_0).bind fun x2 => ((p x2).bind fun x3 => (if x3 = true then (some s0_0) else (gd (ok64 (s0_0 + 1)) ((z3d s p p0_0 kx0_0 n0) (s0_0 + 1)))))) else (kx0_0)
def z7z (s : List Int) (p : Int → Option Bool) : Option Int := z3d s p (s.length : Int) zk0 FUEL 0
def z2a : Con := ⟨111, [.v (.sl .I) false, .fn .I], [(.I, true)], [], fun x => z7z x.1 x.2.1⟩
def yb3 : Fs := ⟨[], [], []⟩
theorem y0r : yb3.Ok Try.prog := fs0
def zt1 : Tmpl := ⟨[(0, .c (.s .I)), (1, .c .fp), (7, .c .i), (8, .c .i)], []⟩
def zm5 : Tmpl := ⟨[], []⟩
def y57 (av : AV) (x : HP z2a.ps) (n : Nat) (v : zt1.den) (K : Ks (CR z2a)) : Option (CR z2a) := z3d v.1.1 x.2.1 v.1.2.2.1 (zm5.at (fpOf z2a.ps x av) ((), ()) (K (.exit 0))) n v.1.2.2.2.1
def zp1 (av : AV) (x : HP z2a.ps) : Hdl (CR z2a) := hnd [] zt1 (y57 av x)
theorem y6b : LP z2a Try.f111 [0] zp1 := lp_ok (W := []) (H := []) (xs := [zm5]) y0r trivial rfl (fun av x v K => by kernel_rfl) (fun av x n v K => by kernel_rfl)
theorem yg3 : z2a.Ok Try.prog := fn_ok (k := z2a) (fn := Try.f111) (W := []) (H := [zp1]) Try.func111 y0r ⟨y6b, trivial⟩ rfl rfl (fun av x => by kernel_rfl)
def z5e (s : List Int) (p : Int → Option Bool) : Option Bool := (z7z s p).bind fun x1 => (some (decide (0 ≤ x1)))
def z7i : Con := ⟨62, [.v (.sl .I) false, .fn .I], [(.B, true)], [], fun x => z5e x.1 x.2.1⟩
def y43 : Fs := ⟨[z2a], [], []⟩
theorem y48 : y43.Ok Try.prog := (fsK yg3 fs0)
theorem y4o : z7i.Ok Try.prog := fn_ok (k := z7i) (fn := Try.f62) (W := []) (H := []) Try.func62 y48 trivial rfl rfl (fun av x => by kernel_rfl)
def za8 (n : Int) : Option Bool := (z6y n).bind fun x1 => (some (!x1))
def zb0 : FCon := ⟨63, .I, [], fun z c => za8 z ⟩
def y80 : Fs := ⟨[za5], [], []⟩
theorem y8i : y80.Ok Try.prog := (fsK y90 fs0)
theorem y8y : zb0.Ok Try.prog := FCon.ok (fn_ok (k := zb0.con) (fn := Try.f63) (W := []) (H := []) Try.func63 y8i trivial rfl rfl (fun av x => by kernel_rfl))
def z9a (data : List Int) : Option Bool := if decide ((data.length : Int) = 3) = true then ((z5e data (fun z => za8 z )).bind fun x2 => (some (!x2))) else (some false)
def zq6 : Con := ⟨19, [.v (.sl .I) false], [(.B, true)], [], fun x => z9a x.1⟩
def ym0 : Fs := ⟨[z7i], [zb0], []⟩
theorem yn4 : ym0.Ok Try.prog := (fsK y4o (fsF y8y fs0))
theorem yp5 : zq6.Ok Try.prog := fn_ok (k := zq6) (fn := Try.f19) (W := []) (H := []) Try.func19 yn4 trivial rfl rfl (fun av x => by kernel_rfl)
def zd2 (s0_0 : Int) (bk0 : Int → List Int → Option (List Int)) (l1_1 : List Int) : Option (List Int) := gd (ok64 (s0_0 + 1)) (bk0 (s0_0 + 1) l1_1)
def z1h (h : GHouse) (who : Int) (s0_0 : Int) (kx1_0 : List Int → Option (List Int)) : Nat → Int → List Int → Option (List Int)
  | 0, _, _ => none
  | n1 + 1, s1_0, l1_1 => (getI h.runs s0_0).bind fun x2 => (if decide (s1_0 < (x2.case.busy.length : Int)) = true then ((getI h.runs s0_0).bind fun x4 => ((getI x4.case.busy s1_0).bind fun x5 => (if decide (x5.who = who) = true then (gd (l1_1.length + [s0_0].length ≤ SMALL) (gd (ok64 (s1_0 + 1)) ((z1h h who s0_0 kx1_0 n1) (s1_0 + 1) (l1_1 ++ [s0_0])))) else (gd (ok64 (s1_0 + 1)) ((z1h h who s0_0 kx1_0 n1) (s1_0 + 1) l1_1))))) else (kx1_0 l1_1))
def z6t (l0_1 : List Int) : Option (List Int) := some l0_1
def z35 (h : GHouse) (who : Int) (kx0_0 : List Int → Option (List Int)) : Nat → Int → List Int → Option (List Int)
  | 0, _, _ => none
  | n0 + 1, s0_0, l0_1 => if decide (s0_0 < (h.runs.length : Int)) = true then (z1h h who s0_0 (zd2 s0_0 (z35 h who kx0_0 n0)) FUEL 0 l0_1) else (kx0_0 l0_1)
def z71 (h : GHouse) (who : Int) : Option (List Int) := z35 h who z6t FUEL 0 ([] : List Int)
def z0h : Con := ⟨42, [.v (.s .house) false, .v .I false], [((.sl .I), true)], [], fun x => z71 x.1 x.2.1⟩
def y86 : Fs := ⟨[], [], []⟩
theorem za2 : y86.Ok Try.prog := fs0
def z9o : Tmpl := ⟨[(1, .c .i), (2, .c (.bx 2 0)), (5, .c (.ref 8)), (6, .c .i), (7, .c .i)], [(2, .boxT (.s .house)), (8, .arr .I true)]⟩
def z8y : Tmpl := ⟨[(1, .c .i), (2, .c (.bx 2 0)), (5, .c (.ref 8)), (6, .c .i)], [(2, .boxT (.s .house)), (8, .arr .I true)]⟩
def y0f (av : AV) (x : HP z0h.ps) (n : Nat) (v : z9o.den) (K : Ks (CR z0h)) : Option (CR z0h) := z1h v.2.1 v.1.1 v.1.2.2.2.1 (fun l1_1 => z8y.at none ((v.1.1, (), (), v.1.2.2.2.1, ()), (v.2.1, l1_1, ())) (K (.exit 2))) n v.1.2.2.2.2.1 v.2.2.1
def z97 (av : AV) (x : HP z0h.ps) : Hdl (CR z0h) := hnd [] z9o (y0f av x)
theorem y1a : LP z0h Try.f42 [0, 0] z97 := lp_ok (W := []) (H := []) (xs := [z8y]) za2 trivial rfl (fun av x v K => by kernel_rfl) (fun av x n v K => by kernel_rfl)
def zl4 : Tmpl := ⟨[(1, .c .i), (2, .c (.bx 2 0)), (5, .c (.ref 8)), (6, .c .i)], [(2, .boxT (.s .house)), (8, .arr .I true)]⟩
def zf6 : Tmpl := ⟨[(5, .c (.ref 8))], [(8, .arr .I true)]⟩
def y3r (av : AV) (x : HP z0h.ps) (n : Nat) (v : zl4.den) (K : Ks (CR z0h)) : Option (CR z0h) := z35 v.2.1 v.1.1 (fun l0_1 => zf6.at none (((), ()), (l0_1, ())) (K (.exit 0))) n v.1.2.2.2.1 v.2.2.1
def zi9 (av : AV) (x : HP z0h.ps) : Hdl (CR z0h) := hnd [] zl4 (y3r av x)
theorem y4d : LP z0h Try.f42 [0] zi9 := lp_ok (W := []) (H := [z97]) (xs := [zf6]) za2 ⟨y1a, trivial⟩ rfl (fun av x v K => by kernel_rfl) (fun av x n v K => by kernel_rfl)
theorem y93 : z0h.Ok Try.prog := fn_ok (k := z0h) (fn := Try.f42) (W := []) (H := [zi9]) Try.func42 za2 ⟨y4d, trivial⟩ rfl rfl (fun av x => by kernel_rfl)
def zc9 (s0_0 : List GRun) (s0_1 : Int) (bk0 : List GRun → Int → Int → List Int → Option (List Int)) (p1_0 : Int) (l1_1 : List Int) : Option (List Int) := gd (ok64 (p1_0 + 1)) (bk0 s0_0 s0_1 (p1_0 + 1) l1_1)
def z1f (who : Int) (s0_2 : Int) (p1_1 : List GItem) (p1_2 : Int) (kx1_0 : List Int → Option (List Int)) : Nat → Int → List Int → Option (List Int)
  | 0, _, _ => none
  | n1 + 1, s1_0, l1_1 => if decide (s1_0 < p1_2) = true then ((getI p1_1 s1_0).bind fun x4 => (if decide (x4.who = who) = true then (gd (l1_1.length + [s0_2].length ≤ SMALL) (gd (ok64 (s1_0 + 1)) ((z1f who s0_2 p1_1 p1_2 kx1_0 n1) (s1_0 + 1) (l1_1 ++ [s0_2])))) else (gd (ok64 (s1_0 + 1)) ((z1f who s0_2 p1_1 p1_2 kx1_0 n1) (s1_0 + 1) l1_1)))) else (kx1_0 l1_1)
def z6s (l0_3 : List Int) : Option (List Int) := some l0_3
def z34 (who : Int) (kx0_0 : List Int → Option (List Int)) : Nat → List GRun → Int → Int → List Int → Option (List Int)
  | 0, _, _, _, _ => none
  | n0 + 1, s0_0, s0_1, s0_2, l0_3 => if decide (s0_2 < s0_1) = true then ((getI s0_0 s0_2).bind fun x2 => (z1f who s0_2 x2.case.busy (x2.case.busy.length : Int) (zc9 s0_0 s0_1 (z34 who kx0_0 n0) s0_2) FUEL 0 l0_3)) else (kx0_0 l0_3)
def z56 (h : GHouse) (who : Int) : Option (List Int) := z34 who z6s FUEL h.runs (h.runs.length : Int) 0 ([] : List Int)
def z0g : Con := ⟨41, [.v (.s .house) false, .v .I false], [((.sl .I), true)], [], fun x => z56 x.1 x.2.1⟩
def y81 : Fs := ⟨[], [], []⟩
theorem za1 : y81.Ok Try.prog := fs0
def z9l : Tmpl := ⟨[(1, .c .i), (5, .c (.ref 500005)), (6, .c .i), (11, .c (.s (.s .run))), (12, .c .i), (13, .c .i), (20, .c (.s (.s .item))), (21, .c .i), (22, .c .i)], [(500005, .arr .I true)]⟩
def z8v : Tmpl := ⟨[(1, .c .i), (5, .c (.ref 500005)), (11, .c (.s (.s .run))), (12, .c .i), (13, .c .i)], [(500005, .arr .I true)]⟩
def y0c (av : AV) (x : HP z0g.ps) (n : Nat) (v : z9l.den) (K : Ks (CR z0g)) : Option (CR z0g) := z1f v.1.1 v.1.2.2.1 v.1.2.2.2.2.2.2.1 v.1.2.2.2.2.2.2.2.1 (fun l1_1 => z8v.at none ((v.1.1, (), v.1.2.2.2.1, v.1.2.2.2.2.1, v.1.2.2.2.2.2.1, ()), (l1_1, ())) (K (.exit 2))) n v.1.2.2.2.2.2.2.2.2.1 v.2.1
def z94 (av : AV) (x : HP z0g.ps) : Hdl (CR z0g) := hnd [] z9l (y0c av x)
theorem y17 : LP z0g Try.f41 [0, 0] z94 := lp_ok (W := []) (H := []) (xs := [z8v]) za1 trivial rfl (fun av x v K => by kernel_rfl) (fun av x n v K => by kernel_rfl)
def zl2 : Tmpl := ⟨[(1, .c .i), (5, .c (.ref 500005)), (11, .c (.s (.s .run))), (12, .c .i), (13, .c .i)], [(500005, .arr .I true)]⟩
def zf5 : Tmpl := ⟨[(5, .c (.ref 500005))], [(500005, .arr .I true)]⟩
def y3p (av : AV) (x : HP z0g.ps) (n : Nat) (v : zl2.den) (K : Ks (CR z0g)) : Option (CR z0g) := z34 v.1.1 (fun l0_3 => zf5.at none (((), ()), (l0_3, ())) (K (.exit 0))) n v.1.2.2.1 v.1.2.2.2.1 v.1.2.2.2.2.1 v.2.1
def zi7 (av : AV) (x : HP z0g.ps) : Hdl (CR z0g) := hnd [.e 5 500005 .I] zl2 (y3p av x)
theorem y4b : LP z0g Try.f41 [0] zi7 := lp_ok (W := []) (H := [z94]) (xs := [zf5]) za1 ⟨y17, trivial⟩ rfl (fun av x v K => by kernel_rfl) (fun av x n v K => by kernel_rfl)
theorem y8z : z0g.Ok Try.prog := fn_ok (k := z0g) (fn := Try.f41) (W := []) (H := [zi7]) Try.func41 za1 ⟨y4b, trivial⟩ rfl rfl (fun av x => by kernel_rfl)
def z74 (code : List Int) : Option GRd := if decide (2000 < (code.length : Int)) = true then (gd ((0 : Int) ≤ 2000 ∧ 2000 ≤ (code.length : Int)) (some (GRd.mk (code.take (2000 : Int).toNat) 0))) else (some (GRd.mk code 0))
def zy4 : BCon := ⟨49, fun x => z74 x⟩
def y8b : Fs := ⟨[], [], []⟩
theorem y8n : y8b.Ok Try.prog := fs0
theorem y96 : zy4.Ok Try.prog := w8h (fn := Try.f49) Try.func49 y8n rfl rfl rfl rfl rfl (fun l => by kernel_rfl)
def z01 (r : GRd) (n : Int) : Option (Int × GRd) := gd (ok64 (r.p + 1)) (if decide (n < 1) = true then (some (0, (GRd.mk r.b (r.p + 1)))) else (if decide ((r.b.length : Int) = 0) = true then (some (0, (GRd.mk r.b (r.p + 1)))) else (gd (ok64 ((r.p + 1) - 1)) (if decide (((r.p + 1) - 1) < (r.b.length : Int)) = true then ((getI r.b ((r.p + 1) - 1)).bind fun x6 => (gd (ok64 x6) (gd ((n : Int) ≠ 0) (some ((Int.tmod x6 n), (GRd.mk r.b (r.p + 1))))))) else (gd (((r.b.length : Int) : Int) ≠ 0) ((getI r.b (Int.tmod ((r.p + 1) - 1) (r.b.length : Int))).bind fun x10 => (gd (ok64 x10) (gd (ok64 (x10 * 131)) (gd (ok64 (((r.p + 1) - 1) * 7)) (gd (ok64 ((((r.p + 1) - 1) * 7) + 3)) (gd (((r.b.length : Int) : Int) ≠ 0) ((getI r.b (Int.tmod ((((r.p + 1) - 1) * 7) + 3) (r.b.length : Int))).bind fun x16 => (gd (ok64 x16) (gd (ok64 (x16 * 1117)) (gd (ok64 ((x10 * 131) + (x16 * 1117))) (gd (ok64 (((r.p + 1) - 1) * 29)) (gd (ok64 (((x10 * 131) + (x16 * 1117)) + (((r.p + 1) - 1) * 29))) (gd (((r.b.length : Int) : Int) ≠ 0 ∧ ok64 (Int.tdiv ((r.p + 1) - 1) (r.b.length : Int))) (gd (ok64 ((Int.tdiv ((r.p + 1) - 1) (r.b.length : Int)) * 53)) (gd (ok64 ((((x10 * 131) + (x16 * 1117)) + (((r.p + 1) - 1) * 29)) + ((Int.tdiv ((r.p + 1) - 1) (r.b.length : Int)) * 53))) (gd ((64 : Int) ≠ 0 ∧ ok64 (Int.tdiv ((((x10 * 131) + (x16 * 1117)) + (((r.p + 1) - 1) * 29)) + ((Int.tdiv ((r.p + 1) - 1) (r.b.length : Int)) * 53)) 64)) (gd ((n : Int) ≠ 0) (some ((Int.tmod (xorI ((((x10 * 131) + (x16 * 1117)) + (((r.p + 1) - 1) * 29)) + ((Int.tdiv ((r.p + 1) - 1) (r.b.length : Int)) * 53)) (Int.tdiv ((((x10 * 131) + (x16 * 1117)) + (((r.p + 1) - 1) * 29)) + ((Int.tdiv ((r.p + 1) - 1) (r.b.length : Int)) * 53)) 64)) n), (GRd.mk r.b (r.p + 1))))))))))))))))))))))))))
def z5r : Con := ⟨65, [.ptr (.s .rd) false, .v .I false], [(.I, true)], [(0, .ptr (.s .rd) false)], fun x => z01 x.1 x.2.1⟩
def w9z : Fs := ⟨[], [], []⟩
theorem wa0 : w9z.Ok Try.prog := fs0
theorem z7b : z5r.Ok Try.prog := fn_ok (k := z5r) (fn := Try.f65) (W := []) (H := []) Try.func65 wa0 trivial rfl rfl (fun av x => by kernel_rfl)
def z54 (n : Int) (s0_0 : List Int) (s0_1 : Int) (l0_3 : List Int) : Option ((List Int) × GRd) := (z01 (GRd.mk s0_0 s0_1) n).bind fun x7 => (if decide (x7.1 = 0) = true then ((z01 x7.2 3).bind fun x9 => (if decide (x9.1 = 0) = true then ((z01 x9.2 3).bind fun x11 => ((z01 x11.2 4).bind fun x12 => ((getI [100, (-100), 9223372036854775807, (-9223372036854775808)] x12.1).bind fun x13 => ((getI l0_3 x11.1).bind fun x14 => (some ((l0_3.set x11.1.toNat x13), x12.2)))))) else (if decide (x9.1 = 1) = true then (gd ((0 : Int) ≤ 1 ∧ 1 ≤ (l0_3.length : Int)) (some ((l0_3.drop (1 : Int).toNat), x9.2))) else (gd (l0_3.length + [0].length ≤ SMALL) (some ((l0_3 ++ [0]), x9.2)))))) else (some (l0_3, x7.2)))
def z38 (kx0_0 : List Int → Int → List Int → Option ((List Int) × GRd)) : Nat → List Int → Int → Int → List Int → Option ((List Int) × GRd)
  | 0, _, _, _, _ => none
  | n0 + 1, s0_0, s0_1, s0_2, l0_3 => if decide (s0_2 < 3) = true then ((z01 (GRd.mk s0_0 s0_1) 9).bind fun x2 => ((z01 x2.2 7).bind fun x3 => ((getI [0, 1, (-1), 5, 99, (-99), x2.1] x3.1).bind fun x4 => (gd (l0_3.length + [x4].length ≤ SMALL) (gd (ok64 (s0_2 + 1)) ((z38 kx0_0 n0) x3.2.b x3.2.p (s0_2 + 1) (l0_3 ++ [x4]))))))) else (kx0_0 s0_0 s0_1 l0_3)
def z1j (r : GRd) (n : Int) : Option ((List Int) × GRd) := z38 (z54 n) FUEL r.b r.p 0 ([] : List Int)
def z19 : Con := ⟨101, [.ptr (.s .rd) false, .v .I false], [((.sl .I), false)], [(0, .ptr (.s .rd) false)], fun x => z1j x.1 x.2.1⟩
def y89 : Fs := ⟨[z5r], [], []⟩
theorem zx0 : y89.Ok Try.prog := (fsK z7b fs0)
def zl9 : Tmpl := ⟨[(0, .c (.bx 1000000 0)), (1, .c .i), (5, .c (.ref 7)), (6, .c .i)], [(1000000, .box [.s .Y, .i]), (7, .arr .I true)]⟩
def zg1 : Tmpl := ⟨[(0, .c (.bx 1000000 0)), (1, .c .i), (5, .c (.ref 7))], [(1000000, .box [.s .Y, .i]), (7, .arr .I true)]⟩
def y3w (av : AV) (x : HP z19.ps) (n : Nat) (v : zl9.den) (K : Ks (CR z19)) : Option (CR z19) := z38 (fun s0_0 s0_1 l0_3 => zg1.at none (((), v.1.2.1, (), ()), ((s0_0, s0_1, ()), l0_3, ())) (K (.exit 0))) n v.2.1.1 v.2.1.2.1 v.1.2.2.2.1 v.2.2.1
def zj4 (av : AV) (x : HP z19.ps) : Hdl (CR z19) := hnd [] zl9 (y3w av x)
theorem y4i : LP z19 Try.f101 [0] zj4 := lp_ok (W := [(12, [.froz 7])]) (H := []) (xs := [zg1]) zx0 trivial rfl (fun av x v K => by kernel_rfl) (fun av x n v K => by kernel_rfl)
theorem za9 : z19.Ok Try.prog := fn_ok (k := z19) (fn := Try.f101) (W := [(12, [.froz 7])]) (H := [zj4]) Try.func101 zx0 ⟨y4i, trivial⟩ rfl rfl (fun av x => by kernel_rfl)
def z48 (r : GRd) (n : Int) : Option (GAsk × GRd) := (z01 r 3).bind fun x1 => (gd (ok64 (1 + x1.1)) ((z01 x1.2 3).bind fun x3 => ((z01 x3.2 9).bind fun x4 => ((z01 x4.2 6).bind fun x5 => ((getI [0, 1, 2, 5, (-1), x4.1] x5.1).bind fun x6 => ((z01 x5.2 6).bind fun x7 => (if decide (x7.1 = 0) = true then ((z01 x7.2 n).bind fun x9 => (if decide (x9.1 = 0) = true then ((z01 x9.2 3).bind fun x11 => (if decide (x11.1 = 0) = true then ((z01 x11.2 3).bind fun x13 => ((getI [0, 4, (-1)] x13.1).bind fun x14 => (some ((GAsk.mk x14 0 0), x13.2)))) else (if decide (x11.1 = 1) = true then ((z01 x11.2 3).bind fun x16 => ((getI [3, (-1), 1] x16.1).bind fun x17 => (some ((GAsk.mk 0 x17 0), x16.2)))) else ((z01 x11.2 3).bind fun x18 => ((getI [99, 100, (-99)] x18.1).bind fun x19 => (some ((GAsk.mk 0 0 x19), x18.2))))))) else (some ((GAsk.mk 0 0 0), x9.2)))) else ((z01 x7.2 n).bind fun x20 => (if decide (x20.1 = 0) = true then ((z01 x20.2 3).bind fun x22 => (if decide (x22.1 = 0) = true then ((z01 x22.2 3).bind fun x24 => ((getI [0, 4, (-1)] x24.1).bind fun x25 => (some ((GAsk.mk x25 x3.1 x6), x24.2)))) else (if decide (x22.1 = 1) = true then ((z01 x22.2 3).bind fun x27 => ((getI [3, (-1), 1] x27.1).bind fun x28 => (some ((GAsk.mk (1 + x1.1) x28 x6), x27.2)))) else ((z01 x22.2 3).bind fun x29 => ((getI [99, 100, (-99)] x29.1).bind fun x30 => (some ((GAsk.mk (1 + x1.1) x3.1 x30), x29.2))))))) else (some ((GAsk.mk (1 + x1.1) x3.1 x6), x20.2)))))))))))
def z5u : Con := ⟨139, [.ptr (.s .rd) false, .v .I false], [((.s .ask), true)], [(0, .ptr (.s .rd) false)], fun x => z48 x.1 x.2.1⟩
def yc4 : Fs := ⟨[z5r], [], []⟩
theorem ye5 : yc4.Ok Try.prog := (fsK z7b fs0)
theorem zh8 : z5u.Ok Try.prog := fn_ok (k := z5u) (fn := Try.f139) (W := []) (H := []) Try.func139 ye5 trivial rfl rfl (fun av x => by kernel_rfl)
def zd3 (join : Int) (in_ : List Int) (p0_6 : Int) (p0_7 : Int) (p0_8 : Int) (p0_9 : Int) (p0_10 : Int) (s0_0 : List Int) (s0_1 : Int) (l0_3 : List GFlow) : Option (GTask × GRd) := some ((GTask.mk join p0_6 in_ l0_3 [] p0_7 p0_8 p0_9 p0_10), (GRd.mk s0_0 s0_1))
def z0t (split : Int) (to : List Int) (kx0_0 : List Int → Int → List GFlow → Option (GTask × GRd)) : Nat → List Int → Int → Int → List GFlow → Option (GTask × GRd)
  | 0, _, _, _, _ => none
  | n0 + 1, s0_0, s0_1, s0_2, l0_3 => if decide (s0_2 < (to.length : Int)) = true then ((getI to s0_2).bind fun x11 => (if decide (split = 1) = true then (gd (l0_3.length + [(GFlow.mk x11 (GAsk.mk 0 0 0))].length ≤ SMALL) (gd (ok64 (s0_2 + 1)) ((z0t split to kx0_0 n0) s0_0 s0_1 (s0_2 + 1) (l0_3 ++ [(GFlow.mk x11 (GAsk.mk 0 0 0))])))) else (gd (ok64 ((to.length : Int) - 1)) (if decide (s0_2 < ((to.length : Int) - 1)) = true then ((z01 (GRd.mk s0_0 s0_1) 3).bind fun x17 => (gd (ok64 (1 + x17.1)) ((z01 x17.2 3).bind fun x19 => ((z01 x19.2 5).bind fun x20 => (gd (ok64 (x20.1 - 1)) (gd (l0_3.length + [(GFlow.mk x11 (GAsk.mk (1 + x17.1) x19.1 (x20.1 - 1)))].length ≤ SMALL) (gd (ok64 (s0_2 + 1)) ((z0t split to kx0_0 n0) x20.2.b x20.2.p (s0_2 + 1) (l0_3 ++ [(GFlow.mk x11 (GAsk.mk (1 + x17.1) x19.1 (x20.1 - 1)))]))))))))) else (gd (l0_3.length + [(GFlow.mk x11 (GAsk.mk 0 0 0))].length ≤ SMALL) (gd (ok64 (s0_2 + 1)) ((z0t split to kx0_0 n0) s0_0 s0_1 (s0_2 + 1) (l0_3 ++ [(GFlow.mk x11 (GAsk.mk 0 0 0))])))))))) else (kx0_0 s0_0 s0_1 l0_3)
def zd4 (join : Int) (in_ : List Int) (p1_6 : Int) (p1_7 : Int) (p1_8 : Int) (p1_9 : Int) (p1_10 : Int) (s1_0 : List Int) (s1_1 : Int) (l1_3 : List GFlow) : Option (GTask × GRd) := some ((GTask.mk join p1_6 in_ l1_3 [] p1_7 p1_8 p1_9 p1_10), (GRd.mk s1_0 s1_1))
def z06 (r : GRd) (join : Int) (split : Int) (in_ : List Int) (to : List Int) (tasks : Int) : Option (GTask × GRd) := (z01 r 3).bind fun x1 => (gd (ok64 (1 + x1.1)) ((z01 x1.2 3).bind fun x3 => (gd (ok64 (1 + x3.1)) ((z01 x3.2 (1 + x3.1)).bind fun x5 => (gd (ok64 (1 + x5.1)) ((z01 x5.2 3).bind fun x7 => (if decide (x7.1 = 0) = true then ((z01 x7.2 tasks).bind fun x9 => (z0t split to (zd3 join in_ split (1 + x1.1) x9.1 (1 + x3.1) (1 + x5.1)) FUEL x9.2.b x9.2.p 0 ([] : List GFlow))) else (z0t split to (zd4 join in_ split (1 + x1.1) (-1) (1 + x3.1) (1 + x5.1)) FUEL x7.2.b x7.2.p 0 ([] : List GFlow)))))))))
def z2e : Con := ⟨160, [.ptr (.s .rd) false, .v .I false, .v .I false, .v (.sl .I) true, .v (.sl .I) true, .v .I false], [((.s .task), true)], [(0, .ptr (.s .rd) false)], fun x => z06 x.1 x.2.1 x.2.2.1 x.2.2.2.1 x.2.2.2.2.1 x.2.2.2.2.2.1⟩
def y8c : Fs := ⟨[z5r], [], []⟩
theorem zx1 : y8c.Ok Try.prog := (fsK z7b fs0)
def zm0 : Tmpl := ⟨[(0, .c (.bx 1000000 0)), (2, .c .i), (4, .c (.ref 1480000)), (12, .c (.bx 12 0)), (13, .c (.bx 13 0)), (14, .c .i)], [(1000000, .box [.s .Y, .i]), (12, .box [.i, .i, .nl, .nl, .nl, .i, .i, .i, .i]), (13, .box [.i, .i, .ref 1360000, .ref 511303, .nl, .i, .i, .i, .i]), (1480000, .arr .I true), (1360000, .arr .I true), (511303, .arr (.s .flow) true)]⟩
def zg2 : Tmpl := ⟨[(12, .c (.bx 12 0)), (13, .c (.bx 13 0))], [(12, .box [.i, .i, .nl, .nl, .nl, .i, .i, .i, .i]), (13, .box [.i, .i, .ref 1360000, .ref 511303, .nl, .i, .i, .i, .i]), (1000000, .box [.s .Y, .i]), (1360000, .arr .I true), (511303, .arr (.s .flow) true)]⟩
def y3x (av : AV) (x : HP z2e.ps) (n : Nat) (v : zm0.den) (K : Ks (CR z2e)) : Option (CR z2e) := z0t v.1.2.1 v.2.2.2.2.1 (fun s0_0 s0_1 l0_3 => zg2.at none (((), (), ()), ((v.2.2.1.1, v.2.2.1.2.1, (), (), (), v.2.2.1.2.2.2.2.2.1, v.2.2.1.2.2.2.2.2.2.1, v.2.2.1.2.2.2.2.2.2.2.1, v.2.2.1.2.2.2.2.2.2.2.2.1, ()), (v.2.2.2.1.1, v.2.2.2.1.2.1, (), (), (), v.2.2.2.1.2.2.2.2.2.1, v.2.2.2.1.2.2.2.2.2.2.1, v.2.2.2.1.2.2.2.2.2.2.2.1, v.2.2.2.1.2.2.2.2.2.2.2.2.1, ()), (s0_0, s0_1, ()), v.2.2.2.2.2.1, l0_3, ())) (K (.exit 0))) n v.2.1.1 v.2.1.2.1 v.1.2.2.2.2.2.1 v.2.2.2.2.2.2.1
def zj5 (av : AV) (x : HP z2e.ps) : Hdl (CR z2e) := hnd [.b 13 3 511303 (.s .flow)] zm0 (y3x av x)
theorem y4j : LP z2e Try.f160 [0] zj5 := lp_ok (W := []) (H := []) (xs := [zg2]) zx1 trivial rfl (fun av x v K => by kernel_rfl) (fun av x n v K => by kernel_rfl)
theorem y97 : z2e.Ok Try.prog := fn_ok (k := z2e) (fn := Try.f160) (W := []) (H := [zj5]) Try.func160 zx1 ⟨y4j, trivial⟩ rfl rfl (fun av x => by kernel_rfl)
def z3q (p0_2 : Int) (s0_0 : List Int) (s0_1 : Int) (l0_3 : List GTask) : Option (GNet × GRd) := some ((GNet.mk p0_2 l0_3), (GRd.mk s0_0 s0_1))
def z0u (p0_0 : Int) (p0_2 : Int) (kx0_0 : List Int → Int → List GTask → Option (GNet × GRd)) : Nat → List Int → Int → Int → List GTask → Option (GNet × GRd)
  | 0, _, _, _, _ => none
  | n0 + 1, s0_0, s0_1, s0_2, l0_3 => if decide (s0_2 < p0_0) = true then (gd (ok64 (p0_2 - 2)) ((z01 (GRd.mk s0_0 s0_1) (p0_2 - 2)).bind fun x39 => (gd (ok64 (2 + x39.1)) ((z01 x39.2 4).bind fun x41 => ((getI [0, 2, 2, (2 + x39.1)] x41.1).bind fun x42 => (gd (ok64 (p0_2 - 1)) ((z01 x41.2 (p0_2 - 1)).bind fun x44 => (gd (ok64 (1 + x44.1)) ((z01 x44.2 2).bind fun x46 => (if decide (x46.1 = 0) = true then ((getI [(1 + x44.1)] 0).bind fun x48 => (if decide (x48 = 2) = true then ((z01 x46.2 3).bind fun x50 => (gd (ok64 (1 + x50.1)) ((z01 x50.2 3).bind fun x52 => (gd (ok64 (1 + x52.1)) ((z06 x52.2 (1 + x50.1) (1 + x52.1) [x42] [(1 + x44.1)] p0_0).bind fun x54 => (gd (l0_3.length + [x54.1].length ≤ SMALL) (gd (ok64 (s0_2 + 1)) ((z0u p0_0 p0_2 kx0_0 n0) x54.2.b x54.2.p (s0_2 + 1) (l0_3 ++ [x54.1]))))))))) else (gd ([(1 + x44.1)].length + [2].length ≤ SMALL) ((z01 x46.2 3).bind fun x58 => (gd (ok64 (1 + x58.1)) ((z01 x58.2 3).bind fun x60 => (gd (ok64 (1 + x60.1)) ((z06 x60.2 (1 + x58.1) (1 + x60.1) [x42] ([(1 + x44.1)] ++ [2]) p0_0).bind fun x62 => (gd (l0_3.length + [x62.1].length ≤ SMALL) (gd (ok64 (s0_2 + 1)) ((z0u p0_0 p0_2 kx0_0 n0) x62.2.b x62.2.p (s0_2 + 1) (l0_3 ++ [x62.1])))))))))))) else ((z01 x46.2 3).bind fun x65 => (gd (ok64 (1 + x65.1)) ((z01 x65.2 3).bind fun x67 => (gd (ok64 (1 + x67.1)) ((z06 x67.2 (1 + x65.1) (1 + x67.1) [x42] [(1 + x44.1)] p0_0).bind fun x69 => (gd (l0_3.length + [x69.1].length ≤ SMALL) (gd (ok64 (s0_2 + 1)) ((z0u p0_0 p0_2 kx0_0 n0) x69.2.b x69.2.p (s0_2 + 1) (l0_3 ++ [x69.1]))))))))))))))))))) else (kx0_0 s0_0 s0_1 l0_3)
def z64 (r : GRd) : Option (GNet × GRd) := (z01 r 3).bind fun x1 => (gd (ok64 (1 + x1.1)) ((z01 x1.2 3).bind fun x3 => (gd (ok64 (1 + x3.1)) ((z01 x3.2 4).bind fun x5 => ((getI [(1 + x1.1), (1 + x1.1), (1 + x1.1), (1 + x3.1)] x5.1).bind fun x6 => ((z01 x5.2 6).bind fun x7 => (if decide (x7.1 = 0) = true then ((z06 x7.2 (1 + x1.1) 1 [0] [2] 2).bind fun x9 => ((z06 x9.2 x6 2 [2] [1] 2).bind fun x10 => (some ((GNet.mk 3 [x9.1, x10.1]), x10.2)))) else (if decide (x7.1 = 1) = true then ((z06 x7.2 1 (1 + x1.1) [0] [2, 3] 4).bind fun x12 => ((z06 x12.2 1 1 [2] [4] 4).bind fun x13 => ((z06 x13.2 2 1 [3] [5] 4).bind fun x14 => ((z06 x14.2 x6 2 [4, 5] [1] 4).bind fun x15 => (some ((GNet.mk 6 [x12.1, x13.1, x14.1, x15.1]), x15.2)))))) else (if decide (x7.1 = 2) = true then ((z06 x7.2 2 1 [0] [2] 3).bind fun x17 => ((z01 x17.2 2).bind fun x18 => (gd (ok64 (2 + x18.1)) ((z06 x18.2 1 2 [2] [(2 + x18.1), 1] 3).bind fun x20 => ((z06 x20.2 2 1 [3] [2] 3).bind fun x21 => (some ((GNet.mk 4 [x17.1, x20.1, x21.1]), x21.2))))))) else (if decide (x7.1 = 3) = true then ((z06 x7.2 1 (1 + x1.1) [0] [2, 3, 4] 4).bind fun x23 => ((z06 x23.2 1 1 [2] [5] 4).bind fun x24 => ((z06 x24.2 x6 1 [3, 4] [6] 4).bind fun x25 => ((z01 x25.2 3).bind fun x26 => (gd (ok64 (1 + x26.1)) ((z06 x26.2 (1 + x26.1) 1 [5, 6] [1] 4).bind fun x28 => (some ((GNet.mk 7 [x23.1, x24.1, x25.1, x28.1]), x28.2)))))))) else (if decide (x7.1 = 4) = true then ((z06 x7.2 1 1 [0] [2, 3] 3).bind fun x30 => ((z06 x30.2 1 2 [2] [4, 1] 3).bind fun x31 => ((z06 x31.2 (1 + x1.1) 1 [3, 4] [1] 3).bind fun x32 => (some ((GNet.mk 5 [x30.1, x31.1, x32.1]), x32.2))))) else ((z01 x7.2 4).bind fun x33 => (gd (ok64 (3 + x33.1)) ((z01 x33.2 4).bind fun x35 => (gd (ok64 (1 + x35.1)) (z0u (1 + x35.1) (3 + x33.1) (z3q (3 + x33.1)) FUEL x35.2.b x35.2.p 0 ([] : List GTask)))))))))))))))))
def z1n : Con := ⟨138, [.ptr (.s .rd) false], [((.s .net), true)], [(0, .ptr (.s .rd) false)], fun x => z64 x.1⟩
def y5y : Fs := ⟨[z5r, z2e], [], []⟩
theorem zo8 : y5y.Ok Try.prog := (fsK z7b (fsK y97 fs0))
def ze8 : Tmpl := ⟨[(0, .c (.bx 1000000 0)), (2, .c (.bx 2 0)), (5, .c (.bx 5 0)), (6, .c .i), (7, .c .i)], [(1000000, .box [.s .Y, .i]), (2, .box [.i, .nl]), (5, .box [.i, .ref 510501]), (510501, .arr (.s .task) true)]⟩
def z9u : Tmpl := ⟨[(2, .c (.bx 2 0)), (5, .c (.bx 5 0))], [(2, .box [.i, .nl]), (5, .box [.i, .ref 510501]), (1000000, .box [.s .Y, .i]), (510501, .arr (.s .task) true)]⟩
def y2b (av : AV) (x : HP z1n.ps) (n : Nat) (v : ze8.den) (K : Ks (CR z1n)) : Option (CR z1n) := z0u v.1.2.2.2.1 v.2.2.2.1.1 (fun s0_0 s0_1 l0_3 => z9u.at none (((), (), ()), ((v.2.2.1.1, (), ()), (v.2.2.2.1.1, (), ()), (s0_0, s0_1, ()), l0_3, ())) (K (.exit 1))) n v.2.1.1 v.2.1.2.1 v.1.2.2.2.2.1 v.2.2.2.2.1
def zc1 (av : AV) (x : HP z1n.ps) : Hdl (CR z1n) := hnd [.b 5 1 510501 (.s .task)] ze8 (y2b av x)
theorem y2q : LP z1n Try.f138 [0] zc1 := lp_ok (W := []) (H := []) (xs := [z9u]) zo8 trivial rfl (fun av x v K => by kernel_rfl) (fun av x n v K => by kernel_rfl)
theorem y6u : z1n.Ok Try.prog := fn_ok (k := z1n) (fn := Try.f138) (W := []) (H := [zc1]) Try.func138 zo8 ⟨y2q, trivial⟩ rfl rfl (fun av x => by kernel_rfl)
def z49 (r : GRd) : Option (GNet × GRd) := (z64 r).bind fun x1 => ((z01 x1.2 3).bind fun x2 => (if decide (x2.1 = 0) = true then (if decide (3 < x1.1.places) = true then (if decide (0 < (x1.1.tasks.length : Int)) = true then ((z01 x2.2 (x1.1.tasks.length : Int)).bind fun x6 => ((getI x1.1.tasks x6.1).bind fun x7 => ((z1x (GNet.mk x1.1.places (x1.1.tasks.set x6.1.toNat (GTask.mk x7.join x7.split x7.in_ x7.out [2, 3] x7.role x7.apart x7.all x7.need)))).bind fun x8 => (if x8 = true then (some ((GNet.mk x1.1.places (x1.1.tasks.set x6.1.toNat (GTask.mk x7.join x7.split x7.in_ x7.out [2, 3] x7.role x7.apart x7.all x7.need))), x6.2)) else (some ((GNet.mk 2 [(GTask.mk 1 1 [0] [(GFlow.mk 1 (GAsk.mk 0 0 0))] [] 1 (-1) 1 1)]), x6.2)))))) else ((z1x x1.1).bind fun x10 => (if x10 = true then (some (x1.1, x2.2)) else (some ((GNet.mk 2 [(GTask.mk 1 1 [0] [(GFlow.mk 1 (GAsk.mk 0 0 0))] [] 1 (-1) 1 1)]), x2.2))))) else ((z1x x1.1).bind fun x12 => (if x12 = true then (some (x1.1, x2.2)) else (some ((GNet.mk 2 [(GTask.mk 1 1 [0] [(GFlow.mk 1 (GAsk.mk 0 0 0))] [] 1 (-1) 1 1)]), x2.2))))) else ((z1x x1.1).bind fun x14 => (if x14 = true then (some (x1.1, x2.2)) else (some ((GNet.mk 2 [(GTask.mk 1 1 [0] [(GFlow.mk 1 (GAsk.mk 0 0 0))] [] 1 (-1) 1 1)]), x2.2))))))
def z5v : Con := ⟨98, [.ptr (.s .rd) false], [((.s .net), true)], [(0, .ptr (.s .rd) false)], fun x => z49 x.1⟩
def yc5 : Fs := ⟨[z1n, z5r, z1e], [], []⟩
theorem ye6 : yc5.Ok Try.prog := (fsK y6u (fsK z7b (fsK z7d fs0)))
theorem zh9 : z5v.Ok Try.prog := fn_ok (k := z5v) (fn := Try.f98) (W := []) (H := []) Try.func98 ye6 trivial rfl rfl (fun av x => by kernel_rfl)
def z4c (r : GRd) (n : Int) : Option (GNet × GRd) := (z49 r).bind fun x1 => ((z01 x1.2 n).bind fun x2 => (if decide (0 < x2.1) = true then (some (x1.1, x2.2)) else ((z01 x2.2 6).bind fun x4 => (if decide (x4.1 = 0) = true then ((z01 x4.2 3).bind fun x6 => ((getI [1, 2, 9] x6.1).bind fun x7 => (some ((GNet.mk x7 x1.1.tasks), x6.2)))) else ((z01 x4.2 (x1.1.tasks.length : Int)).bind fun x8 => ((getI x1.1.tasks x8.1).bind fun x9 => ((z01 x8.2 9).bind fun x10 => (if decide (x10.1 = 0) = true then ((z01 x10.2 2).bind fun x12 => ((getI [0, 4] x12.1).bind fun x13 => ((getI x1.1.tasks x8.1).bind fun x14 => (some ((GNet.mk x1.1.places (x1.1.tasks.set x8.1.toNat (GTask.mk x13 x9.split x9.in_ x9.out x9.clear x9.role x9.apart x9.all x9.need))), x12.2))))) else (if decide (x10.1 = 1) = true then ((z01 x10.2 4).bind fun x16 => ((getI [0, 4, 1, 2] x16.1).bind fun x17 => ((getI x1.1.tasks x8.1).bind fun x18 => (some ((GNet.mk x1.1.places (x1.1.tasks.set x8.1.toNat (GTask.mk x9.join x17 x9.in_ x9.out x9.clear x9.role x9.apart x9.all x9.need))), x16.2))))) else (if decide (x10.1 = 2) = true then (gd (([] : List Int).length + x9.in_.length ≤ SMALL) ((z01 x10.2 4).bind fun x21 => ((getI [1, 0, 7, 3] x21.1).bind fun x22 => (gd ((([] : List Int) ++ x9.in_).length + [x22].length ≤ SMALL) ((getI x1.1.tasks x8.1).bind fun x24 => (some ((GNet.mk x1.1.places (x1.1.tasks.set x8.1.toNat (GTask.mk x9.join x9.split ((([] : List Int) ++ x9.in_) ++ [x22]) x9.out x9.clear x9.role x9.apart x9.all x9.need))), x21.2))))))) else (if decide (x10.1 = 3) = true then (gd (([] : List GFlow).length + x9.out.length ≤ SMALL) ((z01 x10.2 4).bind fun x27 => ((z48 x27.2 2).bind fun x28 => (gd ((([] : List GFlow) ++ x9.out).length + [(GFlow.mk x27.1 x28.1)].length ≤ SMALL) ((getI x1.1.tasks x8.1).bind fun x30 => (some ((GNet.mk x1.1.places (x1.1.tasks.set x8.1.toNat (GTask.mk x9.join x9.split x9.in_ ((([] : List GFlow) ++ x9.out) ++ [(GFlow.mk x27.1 x28.1)]) x9.clear x9.role x9.apart x9.all x9.need))), x28.2))))))) else (if decide (x10.1 = 4) = true then (gd (([] : List Int).length + x9.clear.length ≤ SMALL) ((z01 x10.2 4).bind fun x33 => ((getI [0, 1, 2, 9] x33.1).bind fun x34 => (gd ((([] : List Int) ++ x9.clear).length + [x34].length ≤ SMALL) ((getI x1.1.tasks x8.1).bind fun x36 => (some ((GNet.mk x1.1.places (x1.1.tasks.set x8.1.toNat (GTask.mk x9.join x9.split x9.in_ x9.out ((([] : List Int) ++ x9.clear) ++ [x34]) x9.role x9.apart x9.all x9.need))), x33.2))))))) else (if decide (x10.1 = 5) = true then ((z01 x10.2 2).bind fun x38 => ((getI [0, 4] x38.1).bind fun x39 => ((getI x1.1.tasks x8.1).bind fun x40 => (some ((GNet.mk x1.1.places (x1.1.tasks.set x8.1.toNat (GTask.mk x9.join x9.split x9.in_ x9.out x9.clear x39 x9.apart x9.all x9.need))), x38.2))))) else (if decide (x10.1 = 6) = true then ((z01 x10.2 2).bind fun x42 => ((getI [(-2), 6] x42.1).bind fun x43 => ((getI x1.1.tasks x8.1).bind fun x44 => (some ((GNet.mk x1.1.places (x1.1.tasks.set x8.1.toNat (GTask.mk x9.join x9.split x9.in_ x9.out x9.clear x9.role x43 x9.all x9.need))), x42.2))))) else (if decide (x10.1 = 7) = true then (gd (ok64 (x9.all + 1)) ((z01 x10.2 2).bind fun x47 => ((getI [0, (x9.all + 1)] x47.1).bind fun x48 => ((getI x1.1.tasks x8.1).bind fun x49 => (some ((GNet.mk x1.1.places (x1.1.tasks.set x8.1.toNat (GTask.mk x9.join x9.split x9.in_ x9.out x9.clear x9.role x9.apart x9.all x48))), x47.2)))))) else ((z01 x10.2 3).bind fun x50 => ((getI [0, 4, 1] x50.1).bind fun x51 => ((getI x1.1.tasks x8.1).bind fun x52 => (some ((GNet.mk x1.1.places (x1.1.tasks.set x8.1.toNat (GTask.mk x9.join x9.split x9.in_ x9.out x9.clear x9.role x9.apart x51 x9.need))), x50.2))))))))))))))))))))
def z5d : Con := ⟨102, [.ptr (.s .rd) false, .v .I false], [((.s .net), false)], [(0, .ptr (.s .rd) false)], fun x => z4c x.1 x.2.1⟩
def y45 : Fs := ⟨[z5v, z5r, z5u], [], []⟩
theorem y49 : y45.Ok Try.prog := (fsK zh9 (fsK z7b (fsK zh8 fs0)))
theorem zl0 : z5d.Ok Try.prog := fn_ok (k := z5d) (fn := Try.f102) (W := [(8, [.share 10009])]) (H := []) Try.func102 y49 trivial rfl rfl (fun av x => by kernel_rfl)
def z4h (p : Int) (n : Int) (s0_0 : List Int) (s0_1 : Int) (l0_3 : List Int) : Option ((List Int) × GRd) := if decide (1 < p) = true then ((z01 (GRd.mk s0_0 s0_1) 4).bind fun x7 => (if decide (0 < x7.1) = true then ((getI l0_3 1).bind fun x9 => ((z01 x7.2 n).bind fun x10 => (if decide (x10.1 = 0) = true then ((z01 x10.2 2).bind fun x12 => (if decide (x12.1 = 0) = true then (if decide (0 < p) = true then ((z01 x12.2 p).bind fun x15 => ((z01 x15.2 2).bind fun x16 => ((getI [(-1), 5] x16.1).bind fun x17 => ((getI (l0_3.set (1 : Int).toNat 0) x15.1).bind fun x18 => (some (((l0_3.set (1 : Int).toNat 0).set x15.1.toNat x17), x16.2)))))) else (gd ((l0_3.set (1 : Int).toNat 0).length + [0].length ≤ SMALL) (some (((l0_3.set (1 : Int).toNat 0) ++ [0]), x12.2)))) else (gd ((l0_3.set (1 : Int).toNat 0).length + [0].length ≤ SMALL) (some (((l0_3.set (1 : Int).toNat 0) ++ [0]), x12.2))))) else (some ((l0_3.set (1 : Int).toNat 0), x10.2))))) else ((z01 x7.2 n).bind fun x21 => (if decide (x21.1 = 0) = true then ((z01 x21.2 2).bind fun x23 => (if decide (x23.1 = 0) = true then (if decide (0 < p) = true then ((z01 x23.2 p).bind fun x26 => ((z01 x26.2 2).bind fun x27 => ((getI [(-1), 5] x27.1).bind fun x28 => ((getI l0_3 x26.1).bind fun x29 => (some ((l0_3.set x26.1.toNat x28), x27.2)))))) else (gd (l0_3.length + [0].length ≤ SMALL) (some ((l0_3 ++ [0]), x23.2)))) else (gd (l0_3.length + [0].length ≤ SMALL) (some ((l0_3 ++ [0]), x23.2))))) else (some (l0_3, x21.2)))))) else ((z01 (GRd.mk s0_0 s0_1) n).bind fun x32 => (if decide (x32.1 = 0) = true then ((z01 x32.2 2).bind fun x34 => (if decide (x34.1 = 0) = true then (if decide (0 < p) = true then ((z01 x34.2 p).bind fun x37 => ((z01 x37.2 2).bind fun x38 => ((getI [(-1), 5] x38.1).bind fun x39 => ((getI l0_3 x37.1).bind fun x40 => (some ((l0_3.set x37.1.toNat x39), x38.2)))))) else (gd (l0_3.length + [0].length ≤ SMALL) (some ((l0_3 ++ [0]), x34.2)))) else (gd (l0_3.length + [0].length ≤ SMALL) (some ((l0_3 ++ [0]), x34.2))))) else (some (l0_3, x32.2))))
def z2p (p : Int) (kx0_0 : List Int → Int → List Int → Option ((List Int) × GRd)) : Nat → List Int → Int → Int → List Int → Option ((List Int) × GRd)
  | 0, _, _, _, _ => none
  | n0 + 1, s0_0, s0_1, s0_2, l0_3 => if decide (s0_2 < p) = true then ((z01 (GRd.mk s0_0 s0_1) 6).bind fun x2 => ((getI [0, 0, 1, 1, 2, 4] x2.1).bind fun x3 => (gd (l0_3.length + [x3].length ≤ SMALL) (gd (ok64 (s0_2 + 1)) ((z2p p kx0_0 n0) x2.2.b x2.2.p (s0_2 + 1) (l0_3 ++ [x3])))))) else (kx0_0 s0_0 s0_1 l0_3)
def z63 (r : GRd) (p : Int) (n : Int) : Option ((List Int) × GRd) := z2p p (z4h p n) FUEL r.b r.p 0 ([] : List Int)
def z1m : Con := ⟨103, [.ptr (.s .rd) false, .v .I false, .v .I false], [((.sl .I), true)], [(0, .ptr (.s .rd) false)], fun x => z63 x.1 x.2.1 x.2.2.1⟩
def y5x : Fs := ⟨[z5r], [], []⟩
theorem zo7 : y5x.Ok Try.prog := (fsK z7b fs0)
def ze7 : Tmpl := ⟨[(0, .c (.bx 1000000 0)), (1, .c .i), (2, .c .i), (7, .c (.ref 9)), (8, .c .i)], [(1000000, .box [.s .Y, .i]), (9, .arr .I true)]⟩
def z9t : Tmpl := ⟨[(0, .c (.bx 1000000 0)), (1, .c .i), (2, .c .i), (7, .c (.ref 9))], [(1000000, .box [.s .Y, .i]), (9, .arr .I true)]⟩
def y2a (av : AV) (x : HP z1m.ps) (n : Nat) (v : ze7.den) (K : Ks (CR z1m)) : Option (CR z1m) := z2p v.1.2.1 (fun s0_0 s0_1 l0_3 => z9t.at none (((), v.1.2.1, v.1.2.2.1, (), ()), ((s0_0, s0_1, ()), l0_3, ())) (K (.exit 0))) n v.2.1.1 v.2.1.2.1 v.1.2.2.2.2.1 v.2.2.1
def zc0 (av : AV) (x : HP z1m.ps) : Hdl (CR z1m) := hnd [] ze7 (y2a av x)
theorem y2p : LP z1m Try.f103 [0] zc0 := lp_ok (W := []) (H := []) (xs := [z9t]) zo7 trivial rfl (fun av x v K => by kernel_rfl) (fun av x n v K => by kernel_rfl)
theorem y6t : z1m.Ok Try.prog := fn_ok (k := z1m) (fn := Try.f103) (W := []) (H := [zc0]) Try.func103 zo7 ⟨y2p, trivial⟩ rfl rfl (fun av x => by kernel_rfl)
end
end Go.Am
