/- Mirrors and contracts, printed. Own work. -/
import Derived.Test.YtgolgnbgomhknaaLoB5
set_option maxRecDepth 100000
set_option maxHeartbeats 4000000
set_option linter.unusedVariables false
set_option linter.unusedSimpArgs false
namespace Go.Am
noncomputable section
open Go Go.Proofs
def z00 (n : Int) (low : Int) (high : Int) : Option Bool := if decide (low ≤ n) = true then (some (decide (n ≤ high))) else (some false)
def z0b : Con := ⟨56, [.v .I false, .v .I false, .v .I false], [(.B, true)], [], fun x => z00 x.1 x.2.1 x.2.2.1⟩
def yo1 : Fs := ⟨[], [], []⟩
theorem yo3 : yo1.Ok Try.prog := fs0
theorem z0f : z0b.Ok Try.prog := fn_ok (k := z0b) (fn := Try.f56) (W := []) (H := []) Try.func56 yo3 trivial rfl rfl (fun av x => by kernel_rfl)
def zm9  : Option Bool := some true
def z3j (data : List Int) (kx0_0 : Option Bool) : Nat → Int → Option Bool
  | 0, _ => none
  | n0 + 1, s0_0 => if decide (s0_0 < (data.length : Int)) = true then ((getI data s0_0).bind fun x3 => ((z00 x3 (-99) 99).bind fun x4 => (if x4 = true then (gd (ok64 (s0_0 + 1)) ((z3j data kx0_0 n0) (s0_0 + 1))) else (some false)))) else (kx0_0)
def z17 (data : List Int) : Option Bool := if decide ((data.length : Int) = 3) = true then (z3j data zm9 FUEL 0) else (some false)
def z0i : Con := ⟨55, [.v (.sl .I) false], [(.B, true)], [], fun x => z17 x.1⟩
def yf7 : Fs := ⟨[z0b], [], []⟩
theorem y1s : yf7.Ok Try.prog := (fsK z0f fs0)
def zu0 : Tmpl := ⟨[(0, .c (.s .I)), (3, .c .i)], []⟩
def zq4 : Tmpl := ⟨[], []⟩
def y66 (av : AV) (x : HP z0i.ps) (n : Nat) (v : zu0.den) (K : Ks (CR z0i)) : Option (CR z0i) := z3j v.1.1 (zq4.at none ((), ()) (K (.exit 0))) n v.1.2.1
def zs6 (av : AV) (x : HP z0i.ps) : Hdl (CR z0i) := hnd [] zu0 (y66 av x)
theorem y72 : LP z0i Try.f55 [0] zs6 := lp_ok (W := []) (H := []) (xs := [zq4]) y1s trivial rfl (fun av x v K => by kernel_rfl) (fun av x n v K => by kernel_rfl)
theorem z3c : z0i.Ok Try.prog := fn_ok (k := z0i) (fn := Try.f55) (W := []) (H := [zs6]) Try.func55 y1s ⟨y72, trivial⟩ rfl rfl (fun av x => by kernel_rfl)
def z3s (data : List Int) (k : Int) (n : Int) : Option (List Int) := (z17 data).bind fun x1 => (if x1 = true then ((z00 k 0 2).bind fun x3 => (if x3 = true then ((z00 n (-99) 99).bind fun x5 => (if x5 = true then (gd (([] : List Int).length + data.length ≤ SMALL) ((getI (([] : List Int) ++ data) k).bind fun x8 => (some ((([] : List Int) ++ data).set k.toNat n)))) else (gd (([] : List Int).length + data.length ≤ SMALL) (some (([] : List Int) ++ data))))) else (gd (([] : List Int).length + data.length ≤ SMALL) (some (([] : List Int) ++ data))))) else (gd (([] : List Int).length + data.length ≤ SMALL) (some (([] : List Int) ++ data))))
def z7b : Con := ⟨70, [.v (.sl .I) false, .v .I false, .v .I false], [((.sl .I), true)], [], fun x => z3s x.1 x.2.1 x.2.2.1⟩
def y8n : Fs := ⟨[z0i, z0b], [], []⟩
theorem y9b : y8n.Ok Try.prog := (fsK z3c (fsK z0f fs0))
theorem y04 : z7b.Ok Try.prog := fn_ok (k := z7b) (fn := Try.f70) (W := []) (H := []) Try.func70 y9b trivial rfl rfl (fun av x => by kernel_rfl)
def z39 (e : GAsk) : Option Bool := if decide (e.op = 0) = true then (some (decide ([e.op, e.var, e.k] = [0, 0, 0]))) else ((z00 e.op 1 3).bind fun x2 => (if x2 = true then ((z00 e.var 0 2).bind fun x4 => (if x4 = true then ((z00 e.k (-99) 99).bind fun x6 => (some x6)) else (some false))) else (some false)))
def z44 : Con := ⟨133, [.v (.s .ask) false], [(.B, true)], [], fun x => z39 x.1⟩
def yf8 : Fs := ⟨[z0b], [], []⟩
theorem yh3 : yf8.Ok Try.prog := (fsK z0f fs0)
theorem z6r : z44.Ok Try.prog := fn_ok (k := z44) (fn := Try.f133) (W := []) (H := []) Try.func133 yh3 trivial rfl rfl (fun av x => by kernel_rfl)
def z0r (e : GAsk) (data : List Int) : Option Bool := (z39 e).bind fun x1 => (if x1 = true then ((z17 data).bind fun x3 => (if x3 = true then (if decide (e.op = 1) = true then ((getI data e.var).bind fun x6 => (some (decide (x6 < e.k)))) else (if decide (e.op = 2) = true then ((getI data e.var).bind fun x8 => (some (decide (x8 = e.k)))) else (if decide (e.op = 3) = true then ((getI data e.var).bind fun x10 => (some (decide (e.k < x10)))) else (some true)))) else (some false))) else (some false))
def z2q : Con := ⟨136, [.v (.s .ask) false, .v (.sl .I) false], [(.B, true)], [], fun x => z0r x.1 x.2.1⟩
def y4c : Fs := ⟨[z44, z0i], [], []⟩
theorem y4p : y4c.Ok Try.prog := (fsK z6r (fsK z3c fs0))
theorem z4a : z2q.Ok Try.prog := fn_ok (k := z2q) (fn := Try.f136) (W := []) (H := []) Try.func136 y4p trivial rfl rfl (fun av x => by kernel_rfl)
def z26 (n : Int) (low : Int) (high : Int) : Option Bool := if decide (low ≤ n) = true then (some (decide (n ≤ high))) else (some false)
def z9z : Con := ⟨67, [.v .I false, .v .I false, .v .I false], [(.B, true)], [], fun x => z26 x.1 x.2.1 x.2.2.1⟩
def w11 : Fs := ⟨[], [], []⟩
theorem w1c : w11.Ok Try.prog := fs0
theorem y03 : z9z.Ok Try.prog := fn_ok (k := z9z) (fn := Try.f67) (W := []) (H := []) Try.func67 w1c trivial rfl rfl (fun av x => by kernel_rfl)
def z3f (n : Int) : Option Bool := (z26 n (-99) 99).bind fun x1 => (some x1)
def z4k : Con := ⟨64, [.v .I false], [(.B, true)], [], fun x => z3f x.1⟩
def y6g : Fs := ⟨[z9z], [], []⟩
theorem y6v : y6g.Ok Try.prog := (fsK y03 fs0)
theorem z9f : z4k.Ok Try.prog := fn_ok (k := z4k) (fn := Try.f64) (W := []) (H := []) Try.func64 y6v trivial rfl rfl (fun av x => by kernel_rfl)
def z6p (e : GAsk) : Option Bool := if decide (e.op = 0) = true then (if decide (e.var = 0) = true then (some (decide (e.k = 0))) else (some false)) else ((z26 e.op 1 3).bind fun x3 => (if x3 = true then ((z26 e.var 0 2).bind fun x5 => (if x5 = true then ((z3f e.k).bind fun x7 => (some x7)) else (some false))) else (some false)))
def zm2 : Con := ⟨83, [.v (.s .ask) false], [(.B, true)], [], fun x => z6p x.1⟩
def yf4 : Fs := ⟨[z9z, z4k], [], []⟩
theorem yh1 : yf4.Ok Try.prog := (fsK y03 (fsK z9f fs0))
theorem yj2 : zm2.Ok Try.prog := fn_ok (k := zm2) (fn := Try.f83) (W := []) (H := []) Try.func83 yh1 trivial rfl rfl (fun av x => by kernel_rfl)
def za9  : Option Bool := some true
def z1u (list : List Int) (low : Int) (high : Int) (kx0_0 : Option Bool) : Nat → Int → Option Bool
  | 0, _ => none
  | n0 + 1, s0_0 => if decide (s0_0 < (list.length : Int)) = true then ((getI list s0_0).bind fun x4 => ((z00 x4 low high).bind fun x5 => (if x5 = true then (if decide (0 < s0_0) = true then (gd (ok64 (s0_0 - 1)) ((getI list (s0_0 - 1)).bind fun x9 => ((getI list s0_0).bind fun x10 => (if decide (x10 ≤ x9) = true then (some false) else (gd (ok64 (s0_0 + 1)) ((z1u list low high kx0_0 n0) (s0_0 + 1))))))) else (gd (ok64 (s0_0 + 1)) ((z1u list low high kx0_0 n0) (s0_0 + 1)))) else (some false)))) else (kx0_0)
def z4l (list : List Int) (least : Int) (most : Int) (low : Int) (high : Int) : Option Bool := (z00 (list.length : Int) least most).bind fun x1 => (if x1 = true then (z1u list low high za9 FUEL 0) else (some false))
def z20 : Con := ⟨161, [.v (.sl .I) false, .v .I false, .v .I false, .v .I false, .v .I false], [(.B, true)], [], fun x => z4l x.1 x.2.1 x.2.2.1 x.2.2.2.1 x.2.2.2.2.1⟩
def y6s : Fs := ⟨[z0b], [], []⟩
theorem zs4 : y6s.Ok Try.prog := (fsK z0f fs0)
def zi3 : Tmpl := ⟨[(0, .c (.s .I)), (3, .c .i), (4, .c .i), (11, .c .i)], []⟩
def zd1 : Tmpl := ⟨[], []⟩
def y2i (av : AV) (x : HP z20.ps) (n : Nat) (v : zi3.den) (K : Ks (CR z20)) : Option (CR z20) := z1u v.1.1 v.1.2.1 v.1.2.2.1 (zd1.at none ((), ()) (K (.exit 0))) n v.1.2.2.2.1
def zg3 (av : AV) (x : HP z20.ps) : Hdl (CR z20) := hnd [] zi3 (y2i av x)
theorem y30 : LP z20 Try.f161 [0] zg3 := lp_ok (W := []) (H := []) (xs := [zd1]) zs4 trivial rfl (fun av x v K => by kernel_rfl) (fun av x n v K => by kernel_rfl)
theorem y7m : z20.Ok Try.prog := fn_ok (k := z20) (fn := Try.f161) (W := []) (H := [zg3]) Try.func161 zs4 ⟨y30, trivial⟩ rfl rfl (fun av x => by kernel_rfl)
def zn9  : Option Bool := some false
def z3o (list : List Int) (n : Int) (kx0_0 : Option Bool) : Nat → Int → Option Bool
  | 0, _ => none
  | n0 + 1, s0_0 => if decide (s0_0 < (list.length : Int)) = true then ((getI list s0_0).bind fun x2 => (if decide (x2 = n) = true then (some true) else (gd (ok64 (s0_0 + 1)) ((z3o list n kx0_0 n0) (s0_0 + 1))))) else (kx0_0)
def z57 (list : List Int) (n : Int) : Option Bool := z3o list n zn9 FUEL 0
def z25 : Con := ⟨146, [.v (.sl .I) false, .v .I false], [(.B, true)], [], fun x => z57 x.1 x.2.1⟩
def yg5 : Fs := ⟨[], [], []⟩
theorem y1y : yg5.Ok Try.prog := fs0
def zu7 : Tmpl := ⟨[(0, .c (.s .I)), (1, .c .i), (5, .c .i)], []⟩
def zr0 : Tmpl := ⟨[], []⟩
def y6d (av : AV) (x : HP z25.ps) (n : Nat) (v : zu7.den) (K : Ks (CR z25)) : Option (CR z25) := z3o v.1.1 v.1.2.1 (zr0.at none ((), ()) (K (.exit 0))) n v.1.2.2.1
def zt3 (av : AV) (x : HP z25.ps) : Hdl (CR z25) := hnd [] zu7 (y6d av x)
theorem y79 : LP z25 Try.f146 [0] zt3 := lp_ok (W := []) (H := []) (xs := [zr0]) y1y trivial rfl (fun av x v K => by kernel_rfl) (fun av x n v K => by kernel_rfl)
theorem zo4 : z25.Ok Try.prog := fn_ok (k := z25) (fn := Try.f146) (W := []) (H := [zt3]) Try.func146 y1y ⟨y79, trivial⟩ rfl rfl (fun av x => by kernel_rfl)
def za6 (s0_0 : Int) (bk0 : Int → Option Bool) : Option Bool := gd (ok64 (s0_0 + 1)) (bk0 (s0_0 + 1))
def z18 (t : GTask) (s0_0 : Int) (x4 : GFlow) (kx1_0 : Option Bool) : Nat → Int → Option Bool
  | 0, _ => none
  | n1 + 1, s1_0 => if decide (s1_0 < s0_0) = true then ((getI t.out s1_0).bind fun x14 => (if decide (x14.to = x4.to) = true then (some false) else (gd (ok64 (s1_0 + 1)) ((z18 t s0_0 x4 kx1_0 n1) (s1_0 + 1))))) else (kx1_0)
def za7 (s0_0 : Int) (bk0 : Int → Option Bool) : Option Bool := gd (ok64 (s0_0 + 1)) (bk0 (s0_0 + 1))
def za8  : Option Bool := some true
def z1t (t : GTask) (places : Int) (kx0_0 : Option Bool) : Nat → Int → Option Bool
  | 0, _ => none
  | n0 + 1, s0_0 => if decide (s0_0 < (t.out.length : Int)) = true then ((getI t.out s0_0).bind fun x4 => (gd (ok64 ((t.out.length : Int) - 1)) (if decide (s0_0 = ((t.out.length : Int) - 1)) = true then (gd (ok64 (places - 1)) ((z00 x4.to 1 (places - 1)).bind fun x8 => (if x8 = true then ((z39 x4.if_).bind fun x10 => (if x10 = true then (if (true == (decide (x4.if_.op = 0))) = true then (z18 t s0_0 x4 (za6 s0_0 (z1t t places kx0_0 n0)) FUEL 0) else (some false)) else (some false))) else (some false)))) else (gd (ok64 (places - 1)) ((z00 x4.to 1 (places - 1)).bind fun x19 => (if x19 = true then ((z39 x4.if_).bind fun x21 => (if x21 = true then (if ((decide (t.split = 1)) == (decide (x4.if_.op = 0))) = true then (z18 t s0_0 x4 (za7 s0_0 (z1t t places kx0_0 n0)) FUEL 0) else (some false)) else (some false))) else (some false))))))) else (kx0_0)
def z6l (t : GTask) (places : Int) : Option Bool := (z00 (t.out.length : Int) 1 3).bind fun x1 => (if x1 = true then (z1t t places za8 FUEL 0) else (some false))
def z0e : Con := ⟨162, [.v (.s .task) false, .v .I false], [(.B, true)], [], fun x => z6l x.1 x.2.1⟩
def y6r : Fs := ⟨[z0b, z44], [], []⟩
theorem z97 : y6r.Ok Try.prog := (fsK z0f (fsK z6r fs0))
def z8x : Tmpl := ⟨[(1, .c .i), (2, .c (.bx 2 0)), (5, .c .i), (6, .c (.bx 6 0)), (8, .c .i)], [(2, .boxT (.s .task)), (6, .boxT (.s .flow))]⟩
def z8d : Tmpl := ⟨[(1, .c .i), (2, .c (.bx 2 0)), (5, .c .i)], [(2, .boxT (.s .task))]⟩
def zw9 (av : AV) (x : HP z0e.ps) (n : Nat) (v : z8x.den) (K : Ks (CR z0e)) : Option (CR z0e) := z18 v.2.1 v.1.2.2.1 v.2.2.1 (z8d.at none ((v.1.1, (), v.1.2.2.1, ()), (v.2.1, ())) (K (.exit 2))) n v.1.2.2.2.2.1
def z8j (av : AV) (x : HP z0e.ps) : Hdl (CR z0e) := hnd [] z8x (zw9 av x)
theorem zz7 : LP z0e Try.f162 [0, 0] z8j := lp_ok (W := []) (H := []) (xs := [z8d]) z97 trivial rfl (fun av x v K => by kernel_rfl) (fun av x n v K => by kernel_rfl)
def zi2 : Tmpl := ⟨[(1, .c .i), (2, .c (.bx 2 0)), (5, .c .i)], [(2, .boxT (.s .task))]⟩
def zd0 : Tmpl := ⟨[], []⟩
def y2h (av : AV) (x : HP z0e.ps) (n : Nat) (v : zi2.den) (K : Ks (CR z0e)) : Option (CR z0e) := z1t v.2.1 v.1.1 (zd0.at none ((), ()) (K (.exit 0))) n v.1.2.2.1
def zg2 (av : AV) (x : HP z0e.ps) : Hdl (CR z0e) := hnd [] zi2 (y2h av x)
theorem y2z : LP z0e Try.f162 [0] zg2 := lp_ok (W := []) (H := [z8j]) (xs := [zd0]) z97 ⟨zz7, trivial⟩ rfl (fun av x v K => by kernel_rfl) (fun av x n v K => by kernel_rfl)
theorem y7l : z0e.Ok Try.prog := fn_ok (k := z0e) (fn := Try.f162) (W := []) (H := [zg2]) Try.func162 z97 ⟨y2z, trivial⟩ rfl rfl (fun av x => by kernel_rfl)
def z7l (t : GTask) (places : Int) (tasks : Int) : Option Bool := (z00 t.join 1 3).bind fun x1 => (if x1 = true then ((z00 t.split 1 3).bind fun x3 => (if x3 = true then (gd (ok64 (places - 1)) ((z4l t.in_ 1 3 0 (places - 1)).bind fun x6 => (if x6 = true then ((z57 t.in_ 1).bind fun x8 => (if x8 = true then (some false) else ((z6l t places).bind fun x10 => (if x10 = true then (gd (ok64 (places - 1)) ((z4l t.clear 0 places 2 (places - 1)).bind fun x13 => (if x13 = true then ((z00 t.role 1 3).bind fun x15 => (if x15 = true then (gd (ok64 (tasks - 1)) ((z00 t.apart (-1) (tasks - 1)).bind fun x18 => (if x18 = true then ((z00 t.all 1 3).bind fun x20 => (if x20 = true then ((z00 t.need 1 t.all).bind fun x22 => (some x22)) else (some false))) else (some false)))) else (some false))) else (some false)))) else (some false))))) else (some false)))) else (some false))) else (some false))
def zd9 : Con := ⟨140, [.v (.s .task) false, .v .I false, .v .I false], [(.B, true)], [], fun x => z7l x.1 x.2.1 x.2.2.1⟩
def y8x : Fs := ⟨[z0b, z20, z25, z0e], [], []⟩
theorem y9g : y8x.Ok Try.prog := (fsK z0f (fsK y7m (fsK zo4 (fsK y7l fs0))))
theorem ya3 : zd9.Ok Try.prog := fn_ok (k := zd9) (fn := Try.f140) (W := []) (H := []) Try.func140 y9g trivial rfl rfl (fun av x => by kernel_rfl)
def zn2  : Option Bool := some true
def z3m (n : GNet) (kx0_0 : Option Bool) : Nat → Int → Option Bool
  | 0, _ => none
  | n0 + 1, s0_0 => if decide (s0_0 < (n.tasks.length : Int)) = true then ((getI n.tasks s0_0).bind fun x6 => ((z7l x6 n.places (n.tasks.length : Int)).bind fun x7 => (if x7 = true then (gd (ok64 (s0_0 + 1)) ((z3m n kx0_0 n0) (s0_0 + 1))) else (some false)))) else (kx0_0)
def z1l (n : GNet) : Option Bool := (z00 n.places 2 8).bind fun x1 => (if x1 = true then ((z00 (n.tasks.length : Int) 1 6).bind fun x3 => (if x3 = true then (z3m n zn2 FUEL 0) else (some false))) else (some false))
def z16 : Con := ⟨105, [.v (.s .net) false], [(.B, true)], [], fun x => z1l x.1⟩
def yg1 : Fs := ⟨[z0b, zd9], [], []⟩
theorem y1v : yg1.Ok Try.prog := (fsK z0f (fsK ya3 fs0))
def zu3 : Tmpl := ⟨[(1, .c (.bx 1 0)), (3, .c .i)], [(1, .boxT (.s .net))]⟩
def zq7 : Tmpl := ⟨[], []⟩
def y69 (av : AV) (x : HP z16.ps) (n : Nat) (v : zu3.den) (K : Ks (CR z16)) : Option (CR z16) := z3m v.2.1 (zq7.at none ((), ()) (K (.exit 0))) n v.1.2.1
def zs9 (av : AV) (x : HP z16.ps) : Hdl (CR z16) := hnd [] zu3 (y69 av x)
theorem y75 : LP z16 Try.f105 [0] zs9 := lp_ok (W := []) (H := []) (xs := [zq7]) y1v trivial rfl (fun av x v K => by kernel_rfl) (fun av x n v K => by kernel_rfl)
theorem z6s : z16.Ok Try.prog := fn_ok (k := z16) (fn := Try.f105) (W := []) (H := [zs9]) Try.func105 y1v ⟨y75, trivial⟩ rfl rfl (fun av x => by kernel_rfl)
def z5v (s1_0 : Int) (bk1 : Int → List Bool → Option (List Bool)) (l3_1 : List Bool) : Option (List Bool) := gd (ok64 (s1_0 + 1)) (bk1 (s1_0 + 1) l3_1)
def z5w (s1_0 : Int) (bk1 : Int → List Bool → Option (List Bool)) (l3_1 : List Bool) : Option (List Bool) := gd (ok64 (s1_0 + 1)) (bk1 (s1_0 + 1) l3_1)
def z5x (s1_0 : Int) (bk1 : Int → List Bool → Option (List Bool)) (l3_1 : List Bool) : Option (List Bool) := gd (ok64 (s1_0 + 1)) (bk1 (s1_0 + 1) l3_1)
def z0p (n : GNet) (but : Int) (s1_0 : Int) (s2_0 : Bool) (kx3_0 : List Bool → Option (List Bool)) (kx3_1 : List Bool → Option (List Bool)) (kx3_2 : List Bool → Option (List Bool)) : Nat → Int → List Bool → Option (List Bool)
  | 0, _, _ => none
  | n3 + 1, s3_0, l3_1 => (getI n.tasks s1_0).bind fun x12 => (if decide (s3_0 < (x12.out.length : Int)) = true then (if s2_0 = true then (if decide (s1_0 = but) = true then (kx3_0 l3_1) else ((getI n.tasks s1_0).bind fun x17 => ((getI x17.out s3_0).bind fun x18 => ((getI l3_1 x18.to).bind fun x19 => (gd (ok64 (s3_0 + 1)) ((z0p n but s1_0 s2_0 kx3_0 kx3_1 kx3_2 n3) (s3_0 + 1) (l3_1.set x18.to.toNat true))))))) else (kx3_1 l3_1)) else (kx3_2 l3_1))
def z8n (n : GNet) (but : Int) (s1_0 : Int) (l1_1 : List Bool) (bk1 : Int → List Bool → Option (List Bool)) (s2_0 : Bool) : Option (List Bool) := z0p n but s1_0 s2_0 (z5v s1_0 bk1) (z5w s1_0 bk1) (z5x s1_0 bk1) FUEL 0 l1_1
def z0x (n : GNet) (s1_0 : Int) (l1_1 : List Bool) (kx2_0 : Bool → Option (List Bool)) : Nat → Bool → Int → Option (List Bool)
  | 0, _, _ => none
  | n2 + 1, s2_0, s2_1 => (getI n.tasks s1_0).bind fun x4 => (if decide (s2_1 < (x4.in_.length : Int)) = true then (if s2_0 = true then (gd (ok64 (s2_1 + 1)) ((z0x n s1_0 l1_1 kx2_0 n2) true (s2_1 + 1))) else ((getI n.tasks s1_0).bind fun x8 => ((getI x8.in_ s2_1).bind fun x9 => ((getI l1_1 x9).bind fun x10 => (gd (ok64 (s2_1 + 1)) ((z0x n s1_0 l1_1 kx2_0 n2) x10 (s2_1 + 1))))))) else (kx2_0 s2_0))
def z8o (s0_0 : Int) (bk0 : Int → List Bool → Option (List Bool)) (l1_1 : List Bool) : Option (List Bool) := gd (ok64 (s0_0 + 1)) (bk0 (s0_0 + 1) l1_1)
def z09 (n : GNet) (but : Int) (kx1_0 : List Bool → Option (List Bool)) : Nat → Int → List Bool → Option (List Bool)
  | 0, _, _ => none
  | n1 + 1, s1_0, l1_1 => if decide (s1_0 < (n.tasks.length : Int)) = true then (z0x n s1_0 l1_1 (z8n n but s1_0 l1_1 (z09 n but kx1_0 n1)) FUEL false 0) else (kx1_0 l1_1)
def z8p (l0_1 : List Bool) : Option (List Bool) := some l0_1
def z29 (n : GNet) (but : Int) (kx0_0 : List Bool → Option (List Bool)) : Nat → Int → List Bool → Option (List Bool)
  | 0, _, _ => none
  | n0 + 1, s0_0, l0_1 => if decide (s0_0 < n.places) = true then (z09 n but (z8o s0_0 (z29 n but kx0_0 n0)) FUEL 0 l0_1) else (kx0_0 l0_1)
def z5u (n : GNet) (marked : List Bool) (but : Int) : Option (List Bool) := gd (([] : List Bool).length + marked.length ≤ SMALL) (z29 n but z8p FUEL 0 (([] : List Bool) ++ marked))
def z03 : Con := ⟨173, [.v (.s .net) false, .v (.sl .B) false, .v .I false], [((.sl .B), true)], [], fun x => z5u x.1 x.2.1 x.2.2.1⟩
def y4f : Fs := ⟨[], [], []⟩
theorem z41 : y4f.Ok Try.prog := fs0
def z6u : Tmpl := ⟨[(2, .c .i), (3, .c (.bx 3 0)), (7, .c (.ref 15)), (8, .c .i), (9, .c .i), (10, .c .b), (11, .c .i)], [(3, .boxT (.s .net)), (15, .arr .B true)]⟩
def z67 : Tmpl := ⟨[(2, .c .i), (3, .c (.bx 3 0)), (7, .c (.ref 15)), (8, .c .i), (9, .c .i), (10, .c .b)], [(3, .boxT (.s .net)), (15, .arr .B true)]⟩
def zj7 (av : AV) (x : HP z03.ps) (n : Nat) (v : z6u.den) (K : Ks (CR z03)) : Option (CR z03) := z0x v.2.1 v.1.2.2.2.2.1 v.2.2.1 (fun s2_0 => z67.at none ((v.1.1, (), (), v.1.2.2.2.1, v.1.2.2.2.2.1, s2_0, ()), (v.2.1, v.2.2.1, ())) (K (.exit 4))) n v.1.2.2.2.2.2.1 v.1.2.2.2.2.2.2.1
def z6m (av : AV) (x : HP z03.ps) : Hdl (CR z03) := hnd [] z6u (zj7 av x)
theorem zm6 : LP z03 Try.f173 [0, 0, 0] z6m := lp_ok (W := []) (H := []) (xs := [z67]) z41 trivial rfl (fun av x v K => by kernel_rfl) (fun av x n v K => by kernel_rfl)
def z6v : Tmpl := ⟨[(2, .c .i), (3, .c (.bx 3 0)), (7, .c (.ref 15)), (8, .c .i), (9, .c .i), (10, .c .b), (12, .c .i)], [(3, .boxT (.s .net)), (15, .arr .B true)]⟩
def z2u : Tmpl := ⟨[(2, .c .i), (3, .c (.bx 3 0)), (7, .c (.ref 15)), (8, .c .i), (9, .c .i)], [(3, .boxT (.s .net)), (15, .arr .B true)]⟩
def zj8 (av : AV) (x : HP z03.ps) (n : Nat) (v : z6v.den) (K : Ks (CR z03)) : Option (CR z03) := z0p v.2.1 v.1.1 v.1.2.2.2.2.1 v.1.2.2.2.2.2.1 (fun l3_1 => z2u.at none ((v.1.1, (), (), v.1.2.2.2.1, v.1.2.2.2.2.1, ()), (v.2.1, l3_1, ())) (K (.exit 6))) (fun l3_1 => z2u.at none ((v.1.1, (), (), v.1.2.2.2.1, v.1.2.2.2.2.1, ()), (v.2.1, l3_1, ())) (K (.exit 6))) (fun l3_1 => z2u.at none ((v.1.1, (), (), v.1.2.2.2.1, v.1.2.2.2.2.1, ()), (v.2.1, l3_1, ())) (K (.exit 6))) n v.1.2.2.2.2.2.2.1 v.2.2.1
def z6n (av : AV) (x : HP z03.ps) : Hdl (CR z03) := hnd [] z6v (zj8 av x)
theorem zm7 : LP z03 Try.f173 [0, 0, 1] z6n := lp_ok (W := []) (H := []) (xs := [z2u]) z41 trivial rfl (fun av x v K => by kernel_rfl) (fun av x n v K => by kernel_rfl)
def z88 : Tmpl := ⟨[(2, .c .i), (3, .c (.bx 3 0)), (7, .c (.ref 15)), (8, .c .i), (9, .c .i)], [(3, .boxT (.s .net)), (15, .arr .B true)]⟩
def z75 : Tmpl := ⟨[(2, .c .i), (3, .c (.bx 3 0)), (7, .c (.ref 15)), (8, .c .i)], [(3, .boxT (.s .net)), (15, .arr .B true)]⟩
def zu8 (av : AV) (x : HP z03.ps) (n : Nat) (v : z88.den) (K : Ks (CR z03)) : Option (CR z03) := z09 v.2.1 v.1.1 (fun l1_1 => z75.at none ((v.1.1, (), (), v.1.2.2.2.1, ()), (v.2.1, l1_1, ())) (K (.exit 2))) n v.1.2.2.2.2.1 v.2.2.1
def z7y (av : AV) (x : HP z03.ps) : Hdl (CR z03) := hnd [] z88 (zu8 av x)
theorem zv8 : LP z03 Try.f173 [0, 0] z7y := lp_ok (W := []) (H := [z6m, z6n]) (xs := [z75]) z41 ⟨zm6, zm7, trivial⟩ rfl (fun av x v K => by kernel_rfl) (fun av x n v K => by kernel_rfl)
def zc0 : Tmpl := ⟨[(2, .c .i), (3, .c (.bx 3 0)), (7, .c (.ref 15)), (8, .c .i)], [(3, .boxT (.s .net)), (15, .arr .B true)]⟩
def z92 : Tmpl := ⟨[(7, .c (.ref 15))], [(15, .arr .B true)]⟩
def y0v (av : AV) (x : HP z03.ps) (n : Nat) (v : zc0.den) (K : Ks (CR z03)) : Option (CR z03) := z29 v.2.1 v.1.1 (fun l0_1 => z92.at none (((), ()), (l0_1, ())) (K (.exit 0))) n v.1.2.2.2.1 v.2.2.1
def z9v (av : AV) (x : HP z03.ps) : Hdl (CR z03) := hnd [] zc0 (y0v av x)
theorem y1b : LP z03 Try.f173 [0] z9v := lp_ok (W := []) (H := [z7y]) (xs := [z92]) z41 ⟨zv8, trivial⟩ rfl (fun av x v K => by kernel_rfl) (fun av x n v K => by kernel_rfl)
theorem y5c : z03.Ok Try.prog := fn_ok (k := z03) (fn := Try.f173) (W := []) (H := [z9v]) Try.func173 z41 ⟨y1b, trivial⟩ rfl rfl (fun av x => by kernel_rfl)
def zn1  : Option Bool := some true
def z3l (marks : List Int) (kx0_0 : Option Bool) : Nat → Int → Option Bool
  | 0, _ => none
  | n0 + 1, s0_0 => if decide (s0_0 < (marks.length : Int)) = true then ((getI marks s0_0).bind fun x5 => ((z00 x5 0 4).bind fun x6 => (if x6 = true then (gd (ok64 (s0_0 + 1)) ((z3l marks kx0_0 n0) (s0_0 + 1))) else (some false)))) else (kx0_0)
def z49 (n : GNet) (marks : List Int) : Option Bool := (z1l n).bind fun x1 => (if x1 = true then (if decide ((marks.length : Int) = n.places) = true then (z3l marks zn1 FUEL 0) else (some false)) else (some false))
def z1k : Con := ⟨53, [.v (.s .net) false, .v (.sl .I) false], [(.B, true)], [], fun x => z49 x.1 x.2.1⟩
def yg0 : Fs := ⟨[z16, z0b], [], []⟩
theorem y1u : yg0.Ok Try.prog := (fsK z6s (fsK z0f fs0))
def zu2 : Tmpl := ⟨[(1, .c (.s .I)), (5, .c .i)], []⟩
def zq6 : Tmpl := ⟨[], []⟩
def y68 (av : AV) (x : HP z1k.ps) (n : Nat) (v : zu2.den) (K : Ks (CR z1k)) : Option (CR z1k) := z3l v.1.1 (zq6.at none ((), ()) (K (.exit 0))) n v.1.2.1
def zs8 (av : AV) (x : HP z1k.ps) : Hdl (CR z1k) := hnd [] zu2 (y68 av x)
theorem y74 : LP z1k Try.f53 [0] zs8 := lp_ok (W := []) (H := []) (xs := [zq6]) y1u trivial rfl (fun av x v K => by kernel_rfl) (fun av x n v K => by kernel_rfl)
theorem z8r : z1k.Ok Try.prog := fn_ok (k := z1k) (fn := Try.f53) (W := []) (H := [zs8]) Try.func53 y1u ⟨y74, trivial⟩ rfl rfl (fun av x => by kernel_rfl)
def z4v (s0_0 : Bool) (s0_1 : Bool) : Option (Bool × Bool) := some (s0_0, s0_1)
def z0v (marks : List Int) (list : List Int) (kx0_0 : Bool → Bool → Option (Bool × Bool)) : Nat → Bool → Bool → Int → Option (Bool × Bool)
  | 0, _, _, _ => none
  | n0 + 1, s0_0, s0_1, s0_2 => if decide (s0_2 < (list.length : Int)) = true then (if s0_0 = true then (if s0_1 = true then ((getI list s0_2).bind fun x4 => ((getI marks x4).bind fun x5 => (gd (ok64 (s0_2 + 1)) ((z0v marks list kx0_0 n0) true (decide (0 < x5)) (s0_2 + 1))))) else (gd (ok64 (s0_2 + 1)) ((z0v marks list kx0_0 n0) true false (s0_2 + 1)))) else ((getI list s0_2).bind fun x8 => ((getI marks x8).bind fun x9 => (if s0_1 = true then ((getI list s0_2).bind fun x11 => ((getI marks x11).bind fun x12 => (gd (ok64 (s0_2 + 1)) ((z0v marks list kx0_0 n0) (decide (0 < x9)) (decide (0 < x12)) (s0_2 + 1))))) else (gd (ok64 (s0_2 + 1)) ((z0v marks list kx0_0 n0) (decide (0 < x9)) false (s0_2 + 1))))))) else (kx0_0 s0_0 s0_1)
def z7m (marks : List Int) (list : List Int) : Option (Bool × Bool) := z0v marks list z4v FUEL false true 0
def z2j : Con := ⟨167, [.v (.sl .I) false, .v (.sl .I) false], [(.B, true), (.B, true)], [], fun x => z7m x.1 x.2.1⟩
def y8z : Fs := ⟨[], [], []⟩
theorem zy5 : y8z.Ok Try.prog := fs0
def zp6 : Tmpl := ⟨[(0, .c (.s .I)), (1, .c (.s .I)), (6, .c .b), (7, .c .b), (8, .c .i)], []⟩
def zj1 : Tmpl := ⟨[(6, .c .b), (7, .c .b)], []⟩
def y3t (av : AV) (x : HP z2j.ps) (n : Nat) (v : zp6.den) (K : Ks (CR z2j)) : Option (CR z2j) := z0v v.1.1 v.1.2.1 (fun s0_0 s0_1 => zj1.at none ((s0_0, s0_1, ()), ()) (K (.exit 0))) n v.1.2.2.1 v.1.2.2.2.1 v.1.2.2.2.2.1
def zl3 (av : AV) (x : HP z2j.ps) : Hdl (CR z2j) := hnd [] zp6 (y3t av x)
theorem y4y : LP z2j Try.f167 [0] zl3 := lp_ok (W := []) (H := []) (xs := [zj1]) zy5 trivial rfl (fun av x v K => by kernel_rfl) (fun av x n v K => by kernel_rfl)
theorem ya4 : z2j.Ok Try.prog := fn_ok (k := z2j) (fn := Try.f167) (W := []) (H := [zl3]) Try.func167 zy5 ⟨y4y, trivial⟩ rfl rfl (fun av x => by kernel_rfl)
def z2b (s1_0 : Int) (bk1 : Int → List Bool → Option Bool) (l2_1 : List Bool) : Option Bool := gd (ok64 (s1_0 + 1)) (bk1 (s1_0 + 1) l2_1)
def z1j (p2_0 : List GFlow) (kx2_0 : List Bool → Option Bool) : Nat → Int → List Bool → Option Bool
  | 0, _, _ => none
  | n2 + 1, s2_0, l2_1 => if decide (s2_0 < (p2_0.length : Int)) = true then ((getI p2_0 s2_0).bind fun x15 => ((getI l2_1 x15.to).bind fun x16 => (gd (ok64 (s2_0 + 1)) ((z1j p2_0 kx2_0 n2) (s2_0 + 1) (l2_1.set x15.to.toNat true))))) else (kx2_0 l2_1)
def z60  : Option Bool := some false
def z10 (n : GNet) (marks : List Int) (t : Int) (x19 : (List Bool)) (kx3_0 : Option Bool) : Nat → Int → Option Bool
  | 0, _ => none
  | n3 + 1, s3_0 => (getI n.tasks t).bind fun x20 => (if decide (s3_0 < (x20.in_.length : Int)) = true then ((getI n.tasks t).bind fun x22 => ((getI x22.in_ s3_0).bind fun x23 => ((getI marks x23).bind fun x24 => (if decide (x24 = 0) = true then ((getI n.tasks t).bind fun x26 => ((getI x26.in_ s3_0).bind fun x27 => ((getI x19 x27).bind fun x28 => (if x28 = true then (some true) else (gd (ok64 (s3_0 + 1)) ((z10 n marks t x19 kx3_0 n3) (s3_0 + 1))))))) else (gd (ok64 (s3_0 + 1)) ((z10 n marks t x19 kx3_0 n3) (s3_0 + 1))))))) else (kx3_0))
def z0y (n : GNet) (marks : List Int) (t : Int) (l1_1 : List Bool) : Option Bool := (z5u n l1_1 t).bind fun x19 => (z10 n marks t x19 z60 FUEL 0)
def z0h (n : GNet) (busy : List GItem) (kx1_0 : List Bool → Option Bool) : Nat → Int → List Bool → Option Bool
  | 0, _, _ => none
  | n1 + 1, s1_0, l1_1 => if decide (s1_0 < (busy.length : Int)) = true then ((getI busy s1_0).bind fun x12 => ((getI n.tasks x12.task).bind fun x13 => (z1j x13.out (z2b s1_0 (z0h n busy kx1_0 n1)) FUEL 0 l1_1))) else (kx1_0 l1_1)
def z2a (n : GNet) (marks : List Int) (busy : List GItem) (t : Int) (l0_1 : List Bool) : Option Bool := z0h n busy (z0y n marks t) FUEL 0 l0_1
def z0z (n : GNet) (marks : List Int) (t : Int) (kx0_0 : List Bool → Option Bool) : Nat → Int → List Bool → Option Bool
  | 0, _, _ => none
  | n0 + 1, s0_0, l0_1 => if decide (s0_0 < n.places) = true then ((getI marks s0_0).bind fun x3 => (if decide (0 < x3) = true then ((getI n.tasks t).bind fun x5 => ((z57 x5.in_ s0_0).bind fun x6 => ((getI l0_1 s0_0).bind fun x7 => (gd (ok64 (s0_0 + 1)) ((z0z n marks t kx0_0 n0) (s0_0 + 1) (l0_1.set s0_0.toNat (!x6))))))) else ((getI l0_1 s0_0).bind fun x9 => (gd (ok64 (s0_0 + 1)) ((z0z n marks t kx0_0 n0) (s0_0 + 1) (l0_1.set s0_0.toNat false)))))) else (kx0_0 l0_1)
def z5z (n : GNet) (marks : List Int) (busy : List GItem) (t : Int) : Option Bool := gd ((0 : Int) ≤ n.places ∧ n.places ≤ (1000000000 : Int)) (z0z n marks t (z2a n marks busy t) FUEL 0 (List.replicate n.places.toNat false))
def z04 : Con := ⟨168, [.v (.s .net) false, .v (.sl .I) false, .v (.sl (.s .item)) false, .v .I false], [(.B, true)], [], fun x => z5z x.1 x.2.1 x.2.2.1 x.2.2.2.1⟩
def y4g : Fs := ⟨[z25, z03], [], []⟩
theorem z42 : y4g.Ok Try.prog := (fsK zo4 (fsK y5c fs0))
def z89 : Tmpl := ⟨[(1, .c (.s .I)), (2, .c (.s (.s .item))), (3, .c .i), (4, .c (.bx 4 0)), (9, .c (.ref 18)), (11, .c .i), (12, .c (.s (.s .flow))), (13, .c .i)], [(4, .boxT (.s .net)), (18, .arr .B true)]⟩
def z76 : Tmpl := ⟨[(1, .c (.s .I)), (2, .c (.s (.s .item))), (3, .c .i), (4, .c (.bx 4 0)), (9, .c (.ref 18)), (11, .c .i)], [(4, .boxT (.s .net)), (18, .arr .B true)]⟩
def zu9 (av : AV) (x : HP z04.ps) (n : Nat) (v : z89.den) (K : Ks (CR z04)) : Option (CR z04) := z1j v.1.2.2.2.2.2.2.1 (fun l2_1 => z76.at none ((v.1.1, v.1.2.1, v.1.2.2.1, (), (), v.1.2.2.2.2.2.1, ()), (v.2.1, l2_1, ())) (K (.exit 4))) n v.1.2.2.2.2.2.2.2.1 v.2.2.1
def z7z (av : AV) (x : HP z04.ps) : Hdl (CR z04) := hnd [] z89 (zu9 av x)
theorem zv9 : LP z04 Try.f168 [1, 0] z7z := lp_ok (W := []) (H := []) (xs := [z76]) z42 trivial rfl (fun av x v K => by kernel_rfl) (fun av x n v K => by kernel_rfl)
def zc1 : Tmpl := ⟨[(1, .c (.s .I)), (2, .c (.s (.s .item))), (3, .c .i), (4, .c (.bx 4 0)), (9, .c (.ref 18)), (10, .c .i)], [(4, .boxT (.s .net)), (18, .arr .B true)]⟩
def z93 : Tmpl := ⟨[(1, .c (.s .I)), (2, .c (.s (.s .item))), (3, .c .i), (4, .c (.bx 4 0)), (9, .c (.ref 18))], [(4, .boxT (.s .net)), (18, .arr .B true)]⟩
def y0w (av : AV) (x : HP z04.ps) (n : Nat) (v : zc1.den) (K : Ks (CR z04)) : Option (CR z04) := z0z v.2.1 v.1.1 v.1.2.2.1 (fun l0_1 => z93.at none ((v.1.1, v.1.2.1, v.1.2.2.1, (), (), ()), (v.2.1, l0_1, ())) (K (.exit 0))) n v.1.2.2.2.2.2.1 v.2.2.1
def z9w (av : AV) (x : HP z04.ps) : Hdl (CR z04) := hnd [] zc1 (y0w av x)
theorem y1c : LP z04 Try.f168 [0] z9w := lp_ok (W := []) (H := []) (xs := [z93]) z42 trivial rfl (fun av x v K => by kernel_rfl) (fun av x n v K => by kernel_rfl)
def zc2 : Tmpl := ⟨[(1, .c (.s .I)), (2, .c (.s (.s .item))), (3, .c .i), (4, .c (.bx 4 0)), (9, .c (.ref 18)), (11, .c .i)], [(4, .boxT (.s .net)), (18, .arr .B true)]⟩
def z94 : Tmpl := ⟨[(1, .c (.s .I)), (3, .c .i), (4, .c (.bx 4 0)), (9, .c (.ref 18))], [(4, .boxT (.s .net)), (18, .arr .B true)]⟩
def y0x (av : AV) (x : HP z04.ps) (n : Nat) (v : zc2.den) (K : Ks (CR z04)) : Option (CR z04) := z0h v.2.1 v.1.2.1 (fun l1_1 => z94.at none ((v.1.1, v.1.2.2.1, (), (), ()), (v.2.1, l1_1, ())) (K (.exit 2))) n v.1.2.2.2.2.2.1 v.2.2.1
def z9x (av : AV) (x : HP z04.ps) : Hdl (CR z04) := hnd [] zc2 (y0x av x)
theorem y1d : LP z04 Try.f168 [1] z9x := lp_ok (W := []) (H := [z7z]) (xs := [z94]) z42 ⟨zv9, trivial⟩ rfl (fun av x v K => by kernel_rfl) (fun av x n v K => by kernel_rfl)
def zc3 : Tmpl := ⟨[(1, .c (.s .I)), (3, .c .i), (4, .c (.bx 4 0)), (14, .c (.ref 76)), (15, .c .i)], [(4, .boxT (.s .net)), (76, .arr .B true)]⟩
def z95 : Tmpl := ⟨[], []⟩
def y0y (av : AV) (x : HP z04.ps) (n : Nat) (v : zc3.den) (K : Ks (CR z04)) : Option (CR z04) := z10 v.2.1 v.1.1 v.1.2.1 v.2.2.1 (z95.at none ((), ()) (K (.exit 6))) n v.1.2.2.2.2.1
def z9y (av : AV) (x : HP z04.ps) : Hdl (CR z04) := hnd [] zc3 (y0y av x)
theorem y1e : LP z04 Try.f168 [2] z9y := lp_ok (W := []) (H := []) (xs := [z95]) z42 trivial rfl (fun av x v K => by kernel_rfl) (fun av x n v K => by kernel_rfl)
theorem y5d : z04.Ok Try.prog := fn_ok (k := z04) (fn := Try.f168) (W := []) (H := [z9w, z9x, z9y]) Try.func168 z42 ⟨y1c, y1d, y1e, trivial⟩ rfl rfl (fun av x => by kernel_rfl)
def z8q (n : GNet) (marks : List Int) (busy : List GItem) (t : Int) : Option Bool := (getI n.tasks t).bind fun x1 => ((z7m marks x1.in_).bind fun x2 => ((getI n.tasks t).bind fun x3 => (if decide (x3.join = 1) = true then (some x2.2) else (if decide (x3.join = 2) = true then (some x2.1) else (if x2.1 = true then (if x2.2 = true then (some true) else ((z5z n marks busy t).bind fun x8 => (some (!x8)))) else (some false))))))
def zm4 : Con := ⟨152, [.v (.s .net) false, .v (.sl .I) false, .v (.sl (.s .item)) false, .v .I false], [(.B, true)], [], fun x => z8q x.1 x.2.1 x.2.2.1 x.2.2.2.1⟩
def yg6 : Fs := ⟨[z2j, z04], [], []⟩
theorem yh4 : yg6.Ok Try.prog := (fsK ya4 (fsK y5d fs0))
theorem yj6 : zm4.Ok Try.prog := fn_ok (k := zm4) (fn := Try.f152) (W := []) (H := []) Try.func152 yh4 trivial rfl rfl (fun av x => by kernel_rfl)
def zg8  : Option Bool := some true
def z2z (n : GNet) (busy : List GItem) (kx0_0 : Option Bool) : Nat → Int → Option Bool
  | 0, _ => none
  | n0 + 1, s0_0 => if decide (s0_0 < (busy.length : Int)) = true then ((getI busy s0_0).bind fun x3 => (gd (ok64 ((n.tasks.length : Int) - 1)) ((z00 x3.task 0 ((n.tasks.length : Int) - 1)).bind fun x5 => (if x5 = true then ((getI busy s0_0).bind fun x7 => ((z00 x7.who 1 4).bind fun x8 => (if x8 = true then ((getI busy s0_0).bind fun x10 => ((getI busy s0_0).bind fun x11 => ((getI n.tasks x11.task).bind fun x12 => (gd (ok64 (x12.need - 1)) ((z00 x10.did 0 (x12.need - 1)).bind fun x14 => (if x14 = true then (gd (ok64 (s0_0 + 1)) ((z2z n busy kx0_0 n0) (s0_0 + 1))) else (some false))))))) else (some false)))) else (some false))))) else (kx0_0)
def z5y (n : GNet) (busy : List GItem) : Option Bool := if decide (6 < (busy.length : Int)) = true then (some false) else (z2z n busy zg8 FUEL 0)
def z21 : Con := ⟨54, [.v (.s .net) false, .v (.sl (.s .item)) false], [(.B, true)], [], fun x => z5y x.1 x.2.1⟩
def y8y : Fs := ⟨[z0b], [], []⟩
theorem zy4 : y8y.Ok Try.prog := (fsK z0f fs0)
def zp5 : Tmpl := ⟨[(1, .c (.s (.s .item))), (2, .c (.bx 2 0)), (5, .c .i)], [(2, .boxT (.s .net))]⟩
def zj0 : Tmpl := ⟨[], []⟩
def y3s (av : AV) (x : HP z21.ps) (n : Nat) (v : zp5.den) (K : Ks (CR z21)) : Option (CR z21) := z2z v.2.1 v.1.1 (zj0.at none ((), ()) (K (.exit 0))) n v.1.2.2.1
def zl2 (av : AV) (x : HP z21.ps) : Hdl (CR z21) := hnd [] zp5 (y3s av x)
theorem y4x : LP z21 Try.f54 [0] zl2 := lp_ok (W := []) (H := []) (xs := [zj0]) zy4 trivial rfl (fun av x v K => by kernel_rfl) (fun av x n v K => by kernel_rfl)
theorem y06 : z21.Ok Try.prog := fn_ok (k := z21) (fn := Try.f54) (W := []) (H := [zl2]) Try.func54 zy4 ⟨y4x, trivial⟩ rfl rfl (fun av x => by kernel_rfl)
def z5k (n : GNet) (marks : List Int) (busy : List GItem) (t : Int) : Option Bool := (z49 n marks).bind fun x1 => (if x1 = true then ((z5y n busy).bind fun x3 => (if x3 = true then (gd (ok64 ((n.tasks.length : Int) - 1)) ((z00 t 0 ((n.tasks.length : Int) - 1)).bind fun x6 => (if x6 = true then ((z8q n marks busy t).bind fun x8 => (some x8)) else (some false)))) else (some false))) else (some false))
def z7c : Con := ⟨121, [.v (.s .net) false, .v (.sl .I) false, .v (.sl (.s .item)) false, .v .I false], [(.B, true)], [], fun x => z5k x.1 x.2.1 x.2.2.1 x.2.2.2.1⟩
def y8o : Fs := ⟨[z1k, z21, z0b, zm4], [], []⟩
theorem y9c : y8o.Ok Try.prog := (fsK z8r (fsK y06 (fsK z0f (fsK yj6 fs0))))
theorem y05 : z7c.Ok Try.prog := fn_ok (k := z7c) (fn := Try.f121) (W := []) (H := []) Try.func121 y9c trivial rfl rfl (fun av x => by kernel_rfl)
def z5l (l0_1 : List Int) : Option (List Int) := some l0_1
def z1g (n : GNet) (marks : List Int) (busy : List GItem) (kx0_0 : List Int → Option (List Int)) : Nat → Int → List Int → Option (List Int)
  | 0, _, _ => none
  | n0 + 1, s0_0, l0_1 => if decide (s0_0 < (n.tasks.length : Int)) = true then ((z5k n marks busy s0_0).bind fun x2 => (if x2 = true then (gd (l0_1.length + [s0_0].length ≤ SMALL) (gd (ok64 (s0_0 + 1)) ((z1g n marks busy kx0_0 n0) (s0_0 + 1) (l0_1 ++ [s0_0])))) else (gd (ok64 (s0_0 + 1)) ((z1g n marks busy kx0_0 n0) (s0_0 + 1) l0_1)))) else (kx0_0 l0_1)
def z47 (n : GNet) (marks : List Int) (busy : List GItem) : Option (List Int) := z1g n marks busy z5l FUEL 0 ([] : List Int)
def z1c : Con := ⟨76, [.v (.s .net) false, .v (.sl .I) false, .v (.sl (.s .item)) false], [((.sl .I), true)], [], fun x => z47 x.1 x.2.1 x.2.2.1⟩
def y4a : Fs := ⟨[z7c], [], []⟩
theorem zk2 : y4a.Ok Try.prog := (fsK y05 fs0)
def zb6 : Tmpl := ⟨[(1, .c (.s .I)), (2, .c (.s (.s .item))), (3, .c (.bx 3 0)), (7, .c (.ref 9)), (8, .c .i)], [(3, .boxT (.s .net)), (9, .arr .I true)]⟩
def z8z : Tmpl := ⟨[(7, .c (.ref 9))], [(9, .arr .I true)]⟩
def y0r (av : AV) (x : HP z1c.ps) (n : Nat) (v : zb6.den) (K : Ks (CR z1c)) : Option (CR z1c) := z1g v.2.1 v.1.1 v.1.2.1 (fun l0_1 => z8z.at none (((), ()), (l0_1, ())) (K (.exit 0))) n v.1.2.2.2.2.1 v.2.2.1
def z9r (av : AV) (x : HP z1c.ps) : Hdl (CR z1c) := hnd [] zb6 (y0r av x)
theorem y17 : LP z1c Try.f76 [0] z9r := lp_ok (W := []) (H := []) (xs := [z8z]) zk2 trivial rfl (fun av x v K => by kernel_rfl) (fun av x n v K => by kernel_rfl)
theorem y59 : z1c.Ok Try.prog := fn_ok (k := z1c) (fn := Try.f76) (W := []) (H := [z9r]) Try.func76 zk2 ⟨y17, trivial⟩ rfl rfl (fun av x => by kernel_rfl)
def za2 (l0_1 : List Int) (x10 : Int) (x13 : Int) : Option (List Int) := some (l0_1.set x10.toNat (x13 - 1))
def za3 (l0_1 : List Int) : Option (List Int) := some l0_1
def z1s (n : GNet) (t : Int) (kx0_0 : List Int → Int → Int → Option (List Int)) (kx0_1 : List Int → Option (List Int)) : Nat → Int → List Int → Option (List Int)
  | 0, _, _ => none
  | n0 + 1, s0_0, l0_1 => (getI n.tasks t).bind fun x7 => (if decide (s0_0 < (x7.in_.length : Int)) = true then ((getI n.tasks t).bind fun x9 => ((getI x9.in_ s0_0).bind fun x10 => ((getI l0_1 x10).bind fun x11 => (if decide (0 < x11) = true then ((getI l0_1 x10).bind fun x13 => (gd (ok64 (x13 - 1)) ((getI l0_1 x10).bind fun x15 => ((getI n.tasks t).bind fun x16 => (if decide (x16.join = 2) = true then (kx0_0 l0_1 x10 x13) else (gd (ok64 (s0_0 + 1)) ((z1s n t kx0_0 kx0_1 n0) (s0_0 + 1) (l0_1.set x10.toNat (x13 - 1))))))))) else (gd (ok64 (s0_0 + 1)) ((z1s n t kx0_0 kx0_1 n0) (s0_0 + 1) l0_1)))))) else (kx0_1 l0_1))
def z6g (n : GNet) (marks : List Int) (t : Int) : Option (List Int) := (z49 n marks).bind fun x1 => (if x1 = true then (gd (ok64 ((n.tasks.length : Int) - 1)) ((z00 t 0 ((n.tasks.length : Int) - 1)).bind fun x4 => (if x4 = true then (gd (([] : List Int).length + marks.length ≤ SMALL) (z1s n t za2 za3 FUEL 0 (([] : List Int) ++ marks))) else (some ([] : List Int))))) else (some ([] : List Int)))
def z1y : Con := ⟨147, [.v (.s .net) false, .v (.sl .I) false, .v .I false], [((.sl .I), true)], [], fun x => z6g x.1 x.2.1 x.2.2.1⟩
def y6k : Fs := ⟨[z1k, z0b], [], []⟩
theorem zs1 : y6k.Ok Try.prog := (fsK z8r (fsK z0f fs0))
def zh6 : Tmpl := ⟨[(2, .c .i), (3, .c (.bx 3 0)), (7, .c (.ref 26)), (8, .c .i)], [(3, .boxT (.s .net)), (26, .arr .I true)]⟩
def z6d : Tmpl := ⟨[(7, .c (.ref 26))], [(26, .arr .I true)]⟩
def y2b (av : AV) (x : HP z1y.ps) (n : Nat) (v : zh6.den) (K : Ks (CR z1y)) : Option (CR z1y) := z1s v.2.1 v.1.1 (fun l0_1 x10 x13 => z6d.at none (((), ()), ((l0_1.set x10.toNat (x13 - 1)), ())) (K (.exit 0))) (fun l0_1 => z6d.at none (((), ()), (l0_1, ())) (K (.exit 0))) n v.1.2.2.2.1 v.2.2.1
def zf6 (av : AV) (x : HP z1y.ps) : Hdl (CR z1y) := hnd [] zh6 (y2b av x)
theorem y2t : LP z1y Try.f147 [0] zf6 := lp_ok (W := []) (H := []) (xs := [z6d]) zs1 trivial rfl (fun av x v K => by kernel_rfl) (fun av x n v K => by kernel_rfl)
theorem y7f : z1y.Ok Try.prog := fn_ok (k := z1y) (fn := Try.f147) (W := []) (H := [zf6]) Try.func147 zs1 ⟨y2t, trivial⟩ rfl rfl (fun av x => by kernel_rfl)
def z5m (l0_1 : List Int) (x8 : GFlow) : Option (List Int) := some (l0_1 ++ [x8.to])
def z5n (l0_1 : List Int) (x13 : GFlow) : Option (List Int) := some (l0_1 ++ [x13.to])
def z5o (l0_1 : List Int) (x18 : GFlow) : Option (List Int) := some (l0_1 ++ [x18.to])
def z84 (l0_1 : List Int) : Option (List Int) := some l0_1
def z0s (t : GTask) (data : List Int) (kx0_0 : List Int → GFlow → Option (List Int)) (kx0_1 : List Int → GFlow → Option (List Int)) (kx0_2 : List Int → GFlow → Option (List Int)) (kx0_3 : List Int → Option (List Int)) : Nat → Int → List Int → Option (List Int)
  | 0, _, _ => none
  | n0 + 1, s0_0, l0_1 => if decide (s0_0 < (t.out.length : Int)) = true then ((getI t.out s0_0).bind fun x2 => ((z0r x2.if_ data).bind fun x3 => (if x3 = true then (if decide (t.split = 3) = true then (gd (ok64 ((t.out.length : Int) - 1)) (if decide (s0_0 < ((t.out.length : Int) - 1)) = true then ((getI t.out s0_0).bind fun x8 => (gd (l0_1.length + [x8.to].length ≤ SMALL) (if decide (t.split = 2) = true then (kx0_0 l0_1 x8) else (gd (ok64 (s0_0 + 1)) ((z0s t data kx0_0 kx0_1 kx0_2 kx0_3 n0) (s0_0 + 1) (l0_1 ++ [x8.to])))))) else (if decide ((l0_1.length : Int) = 0) = true then ((getI t.out s0_0).bind fun x13 => (gd (l0_1.length + [x13.to].length ≤ SMALL) (if decide (t.split = 2) = true then (kx0_1 l0_1 x13) else (gd (ok64 (s0_0 + 1)) ((z0s t data kx0_0 kx0_1 kx0_2 kx0_3 n0) (s0_0 + 1) (l0_1 ++ [x13.to])))))) else (gd (ok64 (s0_0 + 1)) ((z0s t data kx0_0 kx0_1 kx0_2 kx0_3 n0) (s0_0 + 1) l0_1))))) else ((getI t.out s0_0).bind fun x18 => (gd (l0_1.length + [x18.to].length ≤ SMALL) (if decide (t.split = 2) = true then (kx0_2 l0_1 x18) else (gd (ok64 (s0_0 + 1)) ((z0s t data kx0_0 kx0_1 kx0_2 kx0_3 n0) (s0_0 + 1) (l0_1 ++ [x18.to]))))))) else (gd (ok64 (s0_0 + 1)) ((z0s t data kx0_0 kx0_1 kx0_2 kx0_3 n0) (s0_0 + 1) l0_1))))) else (kx0_3 l0_1)
def z8m (t : GTask) (data : List Int) : Option (List Int) := z0s t data z5m z5n z5o z84 FUEL 0 ([] : List Int)
def z36 : Con := ⟨113, [.v (.s .task) false, .v (.sl .I) false], [((.sl .I), true)], [], fun x => z8m x.1 x.2.1⟩
def yg4 : Fs := ⟨[z2q], [], []⟩
theorem y1x : yg4.Ok Try.prog := (fsK z4a fs0)
def zu6 : Tmpl := ⟨[(1, .c (.s .I)), (2, .c (.bx 2 0)), (5, .c (.ref 7)), (6, .c .i)], [(2, .boxT (.s .task)), (7, .arr .I true)]⟩
def z4c : Tmpl := ⟨[(5, .c (.ref 49))], [(49, .arr .I true)]⟩
def y6c (av : AV) (x : HP z36.ps) (n : Nat) (v : zu6.den) (K : Ks (CR z36)) : Option (CR z36) := z0s v.2.1 v.1.1 (fun l0_1 x8 => z4c.at none (((), ()), ((l0_1 ++ [x8.to]), ())) (K (.exit 0))) (fun l0_1 x13 => z4c.at none (((), ()), ((l0_1 ++ [x13.to]), ())) (K (.exit 0))) (fun l0_1 x18 => z4c.at none (((), ()), ((l0_1 ++ [x18.to]), ())) (K (.exit 0))) (fun l0_1 => z4c.at none (((), ()), (l0_1, ())) (K (.exit 0))) n v.1.2.2.2.1 v.2.2.1
def zt2 (av : AV) (x : HP z36.ps) : Hdl (CR z36) := hnd [] zu6 (y6c av x)
theorem y78 : LP z36 Try.f113 [0] zt2 := lp_ok (W := []) (H := []) (xs := [z4c]) y1x trivial rfl (fun av x v K => by kernel_rfl) (fun av x n v K => by kernel_rfl)
theorem yj5 : z36.Ok Try.prog := fn_ok (k := z36) (fn := Try.f113) (W := []) (H := [zt2]) Try.func113 y1x ⟨y78, trivial⟩ rfl rfl (fun av x => by kernel_rfl)
def z4f (l1_1 : List Int) : Option ((List Int) × Bool) := some (l1_1, true)
def z2o (x16 : (List Int)) (kx1_0 : List Int → Option ((List Int) × Bool)) : Nat → Int → List Int → Option ((List Int) × Bool)
  | 0, _, _ => none
  | n1 + 1, s1_0, l1_1 => if decide (s1_0 < (x16.length : Int)) = true then ((getI x16 s1_0).bind fun x18 => ((getI l1_1 x18).bind fun x19 => (if decide (x19 = 4) = true then (some (([] : List Int), false)) else ((getI x16 s1_0).bind fun x21 => ((getI x16 s1_0).bind fun x22 => ((getI l1_1 x22).bind fun x23 => (gd (ok64 (x23 + 1)) ((getI l1_1 x21).bind fun x25 => (gd (ok64 (s1_0 + 1)) ((z2o x16 kx1_0 n1) (s1_0 + 1) (l1_1.set x21.toNat (x23 + 1)))))))))))) else (kx1_0 l1_1)
def z4e (n : GNet) (t : Int) (data : List Int) (l0_1 : List Int) : Option ((List Int) × Bool) := (getI n.tasks t).bind fun x15 => ((z8m x15 data).bind fun x16 => (z2o x16 z4f FUEL 0 l0_1))
def z2n (n : GNet) (t : Int) (kx0_0 : List Int → Option ((List Int) × Bool)) : Nat → Int → List Int → Option ((List Int) × Bool)
  | 0, _, _ => none
  | n0 + 1, s0_0, l0_1 => (getI n.tasks t).bind fun x9 => (if decide (s0_0 < (x9.clear.length : Int)) = true then ((getI n.tasks t).bind fun x11 => ((getI x11.clear s0_0).bind fun x12 => ((getI l0_1 x12).bind fun x13 => (gd (ok64 (s0_0 + 1)) ((z2n n t kx0_0 n0) (s0_0 + 1) (l0_1.set x12.toNat 0)))))) else (kx0_0 l0_1))
def z6h (n : GNet) (marks : List Int) (t : Int) (data : List Int) : Option ((List Int) × Bool) := (z49 n marks).bind fun x1 => (if x1 = true then (gd (ok64 ((n.tasks.length : Int) - 1)) ((z00 t 0 ((n.tasks.length : Int) - 1)).bind fun x4 => (if x4 = true then ((z17 data).bind fun x6 => (if x6 = true then (gd (([] : List Int).length + marks.length ≤ SMALL) (z2n n t (z4e n t data) FUEL 0 (([] : List Int) ++ marks))) else (some (([] : List Int), false)))) else (some (([] : List Int), false))))) else (some (([] : List Int), false)))
def z0d : Con := ⟨71, [.v (.s .net) false, .v (.sl .I) false, .v .I false, .v (.sl .I) false], [((.sl .I), true), (.B, true)], [], fun x => z6h x.1 x.2.1 x.2.2.1 x.2.2.2.1⟩
def y6l : Fs := ⟨[z1k, z0b, z0i, z36], [], []⟩
theorem z96 : y6l.Ok Try.prog := (fsK z8r (fsK z0f (fsK z3c (fsK yj5 fs0))))
def zh7 : Tmpl := ⟨[(2, .c .i), (3, .c (.s .I)), (4, .c (.bx 4 0)), (10, .c (.ref 35)), (11, .c .i)], [(4, .boxT (.s .net)), (35, .arr .I true)]⟩
def zc5 : Tmpl := ⟨[(2, .c .i), (3, .c (.s .I)), (4, .c (.bx 4 0)), (10, .c (.ref 35))], [(4, .boxT (.s .net)), (35, .arr .I true)]⟩
def y2c (av : AV) (x : HP z0d.ps) (n : Nat) (v : zh7.den) (K : Ks (CR z0d)) : Option (CR z0d) := z2n v.2.1 v.1.1 (fun l0_1 => zc5.at none ((v.1.1, v.1.2.1, (), (), ()), (v.2.1, l0_1, ())) (K (.exit 0))) n v.1.2.2.2.2.1 v.2.2.1
def zf7 (av : AV) (x : HP z0d.ps) : Hdl (CR z0d) := hnd [] zh7 (y2c av x)
theorem y2u : LP z0d Try.f71 [0] zf7 := lp_ok (W := []) (H := []) (xs := [zc5]) z96 trivial rfl (fun av x v K => by kernel_rfl) (fun av x n v K => by kernel_rfl)
def zh8 : Tmpl := ⟨[(10, .c (.ref 35)), (12, .c (.ref 64)), (13, .c .i)], [(35, .arr .I true), (64, .arr .I true)]⟩
def zc6 : Tmpl := ⟨[(10, .c (.ref 35))], [(35, .arr .I true)]⟩
def y2d (av : AV) (x : HP z0d.ps) (n : Nat) (v : zh8.den) (K : Ks (CR z0d)) : Option (CR z0d) := z2o v.2.2.1 (fun l1_1 => zc6.at none (((), ()), (l1_1, ())) (K (.exit 2))) n v.1.2.2.1 v.2.1
def zf8 (av : AV) (x : HP z0d.ps) : Hdl (CR z0d) := hnd [] zh8 (y2d av x)
theorem y2v : LP z0d Try.f71 [1] zf8 := lp_ok (W := []) (H := []) (xs := [zc6]) z96 trivial rfl (fun av x v K => by kernel_rfl) (fun av x n v K => by kernel_rfl)
theorem y7g : z0d.Ok Try.prog := fn_ok (k := z0d) (fn := Try.f71) (W := []) (H := [zf7, zf8]) Try.func71 z96 ⟨y2u, y2v, trivial⟩ rfl rfl (fun av x => by kernel_rfl)
def zn3  : Option Bool := some true
def z3n (people : List Int) (kx0_0 : Option Bool) : Nat → Int → Option Bool
  | 0, _ => none
  | n0 + 1, s0_0 => if decide (s0_0 < (people.length : Int)) = true then ((getI people s0_0).bind fun x4 => ((z00 x4 0 7).bind fun x5 => (if x5 = true then (gd (ok64 (s0_0 + 1)) ((z3n people kx0_0 n0) (s0_0 + 1))) else (some false)))) else (kx0_0)
def z55 (people : List Int) : Option Bool := (z00 (people.length : Int) 1 4).bind fun x1 => (if x1 = true then (z3n people zn3 FUEL 0) else (some false))
def z24 : Con := ⟨92, [.v (.sl .I) false], [(.B, true)], [], fun x => z55 x.1⟩
def yg2 : Fs := ⟨[z0b], [], []⟩
theorem y1w : yg2.Ok Try.prog := (fsK z0f fs0)
def zu4 : Tmpl := ⟨[(0, .c (.s .I)), (3, .c .i)], []⟩
def zq8 : Tmpl := ⟨[], []⟩
def y6a (av : AV) (x : HP z24.ps) (n : Nat) (v : zu4.den) (K : Ks (CR z24)) : Option (CR z24) := z3n v.1.1 (zq8.at none ((), ()) (K (.exit 0))) n v.1.2.1
def zt0 (av : AV) (x : HP z24.ps) : Hdl (CR z24) := hnd [] zu4 (y6a av x)
theorem y76 : LP z24 Try.f92 [0] zt0 := lp_ok (W := []) (H := []) (xs := [zq8]) y1w trivial rfl (fun av x v K => by kernel_rfl) (fun av x n v K => by kernel_rfl)
theorem zo3 : z24.Ok Try.prog := fn_ok (k := z24) (fn := Try.f92) (W := []) (H := [zt0]) Try.func92 y1w ⟨y76, trivial⟩ rfl rfl (fun av x => by kernel_rfl)
def z2x (s0_0 : Int) : Option Bool := gd ((2 : Int) ≠ 0) (some (decide ((Int.tmod s0_0 2) = 1)))
def z14 (role : Int) (kx0_0 : Int → Option Bool) : Nat → Int → Int → Option Bool
  | 0, _, _ => none
  | n0 + 1, s0_0, s0_1 => if decide (s0_1 < role) = true then (gd ((2 : Int) ≠ 0 ∧ ok64 (Int.tdiv s0_0 2)) (gd (ok64 (s0_1 + 1)) ((z14 role kx0_0 n0) (Int.tdiv s0_0 2) (s0_1 + 1)))) else (kx0_0 s0_0)
def z7g (people : List Int) (who : Int) (role : Int) : Option Bool := (z55 people).bind fun x1 => (if x1 = true then ((z00 who 1 (people.length : Int)).bind fun x3 => (if x3 = true then ((z00 role 1 3).bind fun x5 => (if x5 = true then (gd (ok64 (who - 1)) ((getI people (who - 1)).bind fun x8 => (z14 role z2x FUEL x8 1))) else (some false))) else (some false))) else (some false))
def z2h : Con := ⟨122, [.v (.sl .I) false, .v .I false, .v .I false], [(.B, true)], [], fun x => z7g x.1 x.2.1 x.2.2.1⟩
def y8r : Fs := ⟨[z24, z0b], [], []⟩
theorem zy2 : y8r.Ok Try.prog := (fsK zo3 (fsK z0f fs0))
def zp2 : Tmpl := ⟨[(2, .c .i), (7, .c .i), (8, .c .i)], []⟩
def zi7 : Tmpl := ⟨[(7, .c .i)], []⟩
def y3p (av : AV) (x : HP z2h.ps) (n : Nat) (v : zp2.den) (K : Ks (CR z2h)) : Option (CR z2h) := z14 v.1.1 (fun s0_0 => zi7.at none ((s0_0, ()), ()) (K (.exit 0))) n v.1.2.1 v.1.2.2.1
def zk9 (av : AV) (x : HP z2h.ps) : Hdl (CR z2h) := hnd [] zp2 (y3p av x)
theorem y4u : LP z2h Try.f122 [0] zk9 := lp_ok (W := []) (H := []) (xs := [zi7]) zy2 trivial rfl (fun av x v K => by kernel_rfl) (fun av x n v K => by kernel_rfl)
theorem y9x : z2h.Ok Try.prog := fn_ok (k := z2h) (fn := Try.f122) (W := []) (H := [zk9]) Try.func122 zy2 ⟨y4u, trivial⟩ rfl rfl (fun av x => by kernel_rfl)
def zg6  : Option Bool := some false
def z2c (did : List GDid) (who : Int) (task : Int) (kx0_0 : Option Bool) : Nat → Int → Option Bool
  | 0, _ => none
  | n0 + 1, s0_0 => if decide (s0_0 < (did.length : Int)) = true then ((getI did s0_0).bind fun x2 => (if decide (x2.who = who) = true then ((getI did s0_0).bind fun x4 => (if decide (x4.task = task) = true then (some true) else (gd (ok64 (s0_0 + 1)) ((z2c did who task kx0_0 n0) (s0_0 + 1))))) else (gd (ok64 (s0_0 + 1)) ((z2c did who task kx0_0 n0) (s0_0 + 1))))) else (kx0_0)
def z7f (did : List GDid) (who : Int) (task : Int) : Option Bool := z2c did who task zg6 FUEL 0
def z2g : Con := ⟨123, [.v (.sl (.s .did)) false, .v .I false, .v .I false], [(.B, true)], [], fun x => z7f x.1 x.2.1 x.2.2.1⟩
def y8q : Fs := ⟨[], [], []⟩
theorem zy1 : y8q.Ok Try.prog := fs0
def zp1 : Tmpl := ⟨[(0, .c (.s (.s .did))), (1, .c .i), (2, .c .i), (7, .c .i)], []⟩
def zi6 : Tmpl := ⟨[], []⟩
def y3o (av : AV) (x : HP z2g.ps) (n : Nat) (v : zp1.den) (K : Ks (CR z2g)) : Option (CR z2g) := z2c v.1.1 v.1.2.1 v.1.2.2.1 (zi6.at none ((), ()) (K (.exit 0))) n v.1.2.2.2.1
def zk8 (av : AV) (x : HP z2g.ps) : Hdl (CR z2g) := hnd [] zp1 (y3o av x)
theorem y4t : LP z2g Try.f123 [0] zk8 := lp_ok (W := []) (H := []) (xs := [zi6]) zy1 trivial rfl (fun av x v K => by kernel_rfl) (fun av x n v K => by kernel_rfl)
theorem y9w : z2g.Ok Try.prog := fn_ok (k := z2g) (fn := Try.f123) (W := []) (H := [zk8]) Try.func123 zy1 ⟨y4t, trivial⟩ rfl rfl (fun av x => by kernel_rfl)
def zg7 (n : GNet) (people : List Int) (did : List GDid) (t : Int) (s0_0 : Int) (l0_1 : List Int) (bk0 : Int → List Int → Option (List Int)) (s1_0 : Bool) : Option (List Int) := (getI n.tasks t).bind fun x18 => ((z7g people s0_0 x18.role).bind fun x19 => (if x19 = true then (if s1_0 = true then (gd (ok64 (s0_0 + 1)) (bk0 (s0_0 + 1) l0_1)) else ((getI n.tasks t).bind fun x23 => ((z7f did s0_0 x23.apart).bind fun x24 => (if x24 = true then (gd (ok64 (s0_0 + 1)) (bk0 (s0_0 + 1) l0_1)) else (gd (l0_1.length + [s0_0].length ≤ SMALL) (gd (ok64 (s0_0 + 1)) (bk0 (s0_0 + 1) (l0_1 ++ [s0_0])))))))) else (gd (ok64 (s0_0 + 1)) (bk0 (s0_0 + 1) l0_1))))
def z15 (n : GNet) (busy : List GItem) (t : Int) (s0_0 : Int) (kx1_0 : Bool → Option (List Int)) : Nat → Bool → Int → Option (List Int)
  | 0, _, _ => none
  | n1 + 1, s1_0, s1_1 => if decide (s1_1 < (busy.length : Int)) = true then (if s1_0 = true then (gd (ok64 (s1_1 + 1)) ((z15 n busy t s0_0 kx1_0 n1) true (s1_1 + 1))) else ((getI busy s1_1).bind fun x12 => (if decide (x12.who = s0_0) = true then ((getI busy s1_1).bind fun x14 => ((getI n.tasks t).bind fun x15 => (gd (ok64 (s1_1 + 1)) ((z15 n busy t s0_0 kx1_0 n1) (decide (x14.task = x15.apart)) (s1_1 + 1))))) else (gd (ok64 (s1_1 + 1)) ((z15 n busy t s0_0 kx1_0 n1) false (s1_1 + 1)))))) else (kx1_0 s1_0)
def z6z (l0_1 : List Int) : Option (List Int) := some l0_1
def z2y (n : GNet) (people : List Int) (did : List GDid) (busy : List GItem) (t : Int) (kx0_0 : List Int → Option (List Int)) : Nat → Int → List Int → Option (List Int)
  | 0, _, _ => none
  | n0 + 1, s0_0, l0_1 => if decide (s0_0 ≤ (people.length : Int)) = true then (z15 n busy t s0_0 (zg7 n people did t s0_0 l0_1 (z2y n people did busy t kx0_0 n0)) FUEL false 0) else (kx0_0 l0_1)
def z7h (n : GNet) (people : List Int) (did : List GDid) (busy : List GItem) (t : Int) : Option (List Int) := (z1l n).bind fun x1 => (if x1 = true then ((z55 people).bind fun x3 => (if x3 = true then (gd (ok64 ((n.tasks.length : Int) - 1)) ((z00 t 0 ((n.tasks.length : Int) - 1)).bind fun x6 => (if x6 = true then (z2y n people did busy t z6z FUEL 1 ([] : List Int)) else (some ([] : List Int))))) else (some ([] : List Int)))) else (some ([] : List Int)))
def z0j : Con := ⟨77, [.v (.s .net) false, .v (.sl .I) false, .v (.sl (.s .did)) false, .v (.sl (.s .item)) false, .v .I false], [((.sl .I), true)], [], fun x => z7h x.1 x.2.1 x.2.2.1 x.2.2.2.1 x.2.2.2.2.1⟩
def y8s : Fs := ⟨[z16, z24, z0b, z2h, z2g], [], []⟩
theorem zd3 : y8s.Ok Try.prog := (fsK z6s (fsK zo3 (fsK z0f (fsK y9x (fsK y9w fs0)))))
def zb7 : Tmpl := ⟨[(1, .c (.s .I)), (2, .c (.s (.s .did))), (3, .c (.s (.s .item))), (4, .c .i), (5, .c (.bx 5 0)), (11, .c (.ref 15)), (12, .c .i), (13, .c .b), (14, .c .i)], [(5, .boxT (.s .net)), (15, .arr .I true)]⟩
def z90 : Tmpl := ⟨[(1, .c (.s .I)), (2, .c (.s (.s .did))), (3, .c (.s (.s .item))), (4, .c .i), (5, .c (.bx 5 0)), (11, .c (.ref 15)), (12, .c .i), (13, .c .b)], [(5, .boxT (.s .net)), (15, .arr .I true)]⟩
def y0s (av : AV) (x : HP z0j.ps) (n : Nat) (v : zb7.den) (K : Ks (CR z0j)) : Option (CR z0j) := z15 v.2.1 v.1.2.2.1 v.1.2.2.2.1 v.1.2.2.2.2.2.2.1 (fun s1_0 => z90.at none ((v.1.1, v.1.2.1, v.1.2.2.1, v.1.2.2.2.1, (), (), v.1.2.2.2.2.2.2.1, s1_0, ()), (v.2.1, v.2.2.1, ())) (K (.exit 2))) n v.1.2.2.2.2.2.2.2.1 v.1.2.2.2.2.2.2.2.2.1
def z9s (av : AV) (x : HP z0j.ps) : Hdl (CR z0j) := hnd [] zb7 (y0s av x)
theorem y18 : LP z0j Try.f77 [0, 0] z9s := lp_ok (W := []) (H := []) (xs := [z90]) zd3 trivial rfl (fun av x v K => by kernel_rfl) (fun av x n v K => by kernel_rfl)
def zp3 : Tmpl := ⟨[(1, .c (.s .I)), (2, .c (.s (.s .did))), (3, .c (.s (.s .item))), (4, .c .i), (5, .c (.bx 5 0)), (11, .c (.ref 15)), (12, .c .i)], [(5, .boxT (.s .net)), (15, .arr .I true)]⟩
def zi8 : Tmpl := ⟨[(11, .c (.ref 15))], [(15, .arr .I true)]⟩
def y3q (av : AV) (x : HP z0j.ps) (n : Nat) (v : zp3.den) (K : Ks (CR z0j)) : Option (CR z0j) := z2y v.2.1 v.1.1 v.1.2.1 v.1.2.2.1 v.1.2.2.2.1 (fun l0_1 => zi8.at none (((), ()), (l0_1, ())) (K (.exit 0))) n v.1.2.2.2.2.2.2.1 v.2.2.1
def zl0 (av : AV) (x : HP z0j.ps) : Hdl (CR z0j) := hnd [] zp3 (y3q av x)
theorem y4v : LP z0j Try.f77 [0] zl0 := lp_ok (W := []) (H := [z9s]) (xs := [zi8]) zd3 ⟨y18, trivial⟩ rfl (fun av x v K => by kernel_rfl) (fun av x n v K => by kernel_rfl)
theorem y9y : z0j.Ok Try.prog := fn_ok (k := z0j) (fn := Try.f77) (W := []) (H := [zl0]) Try.func77 zd3 ⟨y4v, trivial⟩ rfl rfl (fun av x => by kernel_rfl)
def z5h (n : GNet) (data : List Int) : Option GCase := (z1l n).bind fun x1 => (if x1 = true then ((z17 data).bind fun x3 => (if x3 = true then (gd ((0 : Int) ≤ n.places ∧ n.places ≤ (1000000000 : Int)) (gd (([] : List Int).length + data.length ≤ SMALL) ((getI (List.replicate n.places.toNat (0 : Int)) 0).bind fun x7 => (some (GCase.mk 1 ((List.replicate n.places.toNat (0 : Int)).set (0 : Int).toNat 1) [] (([] : List Int) ++ data) []))))) else (some (GCase.mk 0 [] [] [] [])))) else (some (GCase.mk 0 [] [] [] [])))
def zd5 : Con := ⟨100, [.v (.s .net) false, .v (.sl .I) false], [((.s .kase), true)], [], fun x => z5h x.1 x.2.1⟩
def y8m : Fs := ⟨[z16, z0i], [], []⟩
theorem y9a : y8m.Ok Try.prog := (fsK z6s (fsK z3c fs0))
theorem y9u : zd5.Ok Try.prog := fn_ok (k := zd5) (fn := Try.f100) (W := []) (H := []) Try.func100 y9a trivial rfl rfl (fun av x => by kernel_rfl)
def z5i (c : GCase) : Option Bool := if decide (c.state = 1) = true then ((getI c.marks 1).bind fun x20 => (some (decide (x20 = 0)))) else (if decide ((c.busy.length : Int) = 0) = true then ((getI c.marks 1).bind fun x22 => (some ((decide (c.state = 2)) == (decide (0 < x22))))) else (some false))
def z3i (n : GNet) (c : GCase) (kx0_0 : Option Bool) : Nat → Int → Option Bool
  | 0, _ => none
  | n0 + 1, s0_0 => if decide (s0_0 < (c.did.length : Int)) = true then ((getI c.did s0_0).bind fun x11 => (gd (ok64 ((n.tasks.length : Int) - 1)) ((z00 x11.task 0 ((n.tasks.length : Int) - 1)).bind fun x13 => (if x13 = true then ((getI c.did s0_0).bind fun x15 => ((z00 x15.who 1 4).bind fun x16 => (if x16 = true then (gd (ok64 (s0_0 + 1)) ((z3i n c kx0_0 n0) (s0_0 + 1))) else (some false)))) else (some false))))) else (kx0_0)
def z54 (n : GNet) (c : GCase) : Option Bool := (z49 n c.marks).bind fun x1 => (if x1 = true then ((z5y n c.busy).bind fun x3 => (if x3 = true then ((z17 c.data).bind fun x5 => (if x5 = true then (if decide (60 < (c.did.length : Int)) = true then (some false) else ((z00 c.state 1 3).bind fun x8 => (if x8 = true then (z3i n c (z5i c) FUEL 0) else (some false)))) else (some false))) else (some false))) else (some false))
def z23 : Con := ⟨14, [.v (.s .net) false, .v (.s .kase) false], [(.B, true)], [], fun x => z54 x.1 x.2.1⟩
def yf6 : Fs := ⟨[z1k, z21, z0i, z0b], [], []⟩
theorem y1r : yf6.Ok Try.prog := (fsK z8r (fsK y06 (fsK z3c (fsK z0f fs0))))
def zt9 : Tmpl := ⟨[(2, .c (.bx 2 0)), (3, .c (.bx 3 0)), (5, .c .i)], [(2, .boxT (.s .net)), (3, .boxT (.s .kase))]⟩
def zq3 : Tmpl := ⟨[(3, .c (.bx 3 0))], [(3, .boxT (.s .kase))]⟩
def y65 (av : AV) (x : HP z23.ps) (n : Nat) (v : zt9.den) (K : Ks (CR z23)) : Option (CR z23) := z3i v.2.1 v.2.2.1 (zq3.at none (((), ()), (v.2.2.1, ())) (K (.exit 0))) n v.1.2.2.1
def zs5 (av : AV) (x : HP z23.ps) : Hdl (CR z23) := hnd [] zt9 (y65 av x)
theorem y71 : LP z23 Try.f14 [0] zs5 := lp_ok (W := []) (H := []) (xs := [zq3]) y1r trivial rfl (fun av x v K => by kernel_rfl) (fun av x n v K => by kernel_rfl)
theorem zo1 : z23.Ok Try.prog := fn_ok (k := z23) (fn := Try.f14) (W := []) (H := [zs5]) Try.func14 y1r ⟨y71, trivial⟩ rfl rfl (fun av x => by kernel_rfl)
def z3b (c : GCase) : Option GCase := gd (([] : List Int).length + c.marks.length ≤ SMALL) (gd (([] : List GItem).length + c.busy.length ≤ SMALL) (gd (([] : List Int).length + c.data.length ≤ SMALL) (gd (([] : List GDid).length + c.did.length ≤ SMALL) (some (GCase.mk c.state (([] : List Int) ++ c.marks) (([] : List GItem) ++ c.busy) (([] : List Int) ++ c.data) (([] : List GDid) ++ c.did))))))
def z4d : Con := ⟨69, [.v (.s .kase) false], [((.s .kase), true)], [], fun x => z3b x.1⟩
def y90 : Fs := ⟨[], [], []⟩
theorem y9h : y90.Ok Try.prog := fs0
theorem z7t : z4d.Ok Try.prog := fn_ok (k := z4d) (fn := Try.f69) (W := []) (H := []) Try.func69 y9h trivial rfl rfl (fun av x => by kernel_rfl)
def z5j (n : GNet) (people : List Int) (c : GCase) (t : Int) (who : Int) : Option (GCase × Bool) := (z3b c).bind fun x1 => ((z54 n c).bind fun x2 => (if x2 = true then (if decide (c.state = 1) = true then ((z5k n c.marks c.busy t).bind fun x5 => (if x5 = true then ((z7h n people c.did c.busy t).bind fun x7 => ((z57 x7 who).bind fun x8 => (if x8 = true then (if decide ((c.busy.length : Int) = 6) = true then (some (x1, false)) else ((z6g n c.marks t).bind fun x11 => (gd (x1.busy.length + [(GItem.mk t who 0)].length ≤ SMALL) (some ((GCase.mk x1.state x11 (x1.busy ++ [(GItem.mk t who 0)]) x1.data x1.did), true))))) else (some (x1, false))))) else (some (x1, false)))) else (some (x1, false))) else (some (x1, false))))
def z81 : Con := ⟨112, [.v (.s .net) false, .v (.sl .I) false, .v (.s .kase) false, .v .I false, .v .I false], [((.s .kase), true), (.B, true)], [], fun x => z5j x.1 x.2.1 x.2.2.1 x.2.2.2.1 x.2.2.2.2.1⟩
def y49 : Fs := ⟨[z4d, z23, z7c, z0j, z25, z1y], [], []⟩
theorem y4n : y49.Ok Try.prog := (fsK z7t (fsK zo1 (fsK y05 (fsK y9y (fsK zo4 (fsK y7f fs0))))))
theorem y58 : z81.Ok Try.prog := fn_ok (k := z81) (fn := Try.f112) (W := []) (H := []) Try.func112 y4n trivial rfl rfl (fun av x => by kernel_rfl)
def z6f (n : GNet) (c : GCase) (k : Int) (v : Int) (num : Int) : Option (GCase × Bool) := (z3b c).bind fun x1 => ((z54 n c).bind fun x2 => (if x2 = true then (if decide (c.state = 1) = true then (gd (ok64 ((c.busy.length : Int) - 1)) ((z00 k 0 ((c.busy.length : Int) - 1)).bind fun x6 => (if x6 = true then ((z00 v (-1) 2).bind fun x8 => (if x8 = true then ((z00 num (-99) 99).bind fun x10 => (if x10 = true then (if decide ((c.did.length : Int) = 60) = true then (some (x1, false)) else ((getI c.busy k).bind fun x13 => ((z3s c.data v num).bind fun x14 => (gd (ok64 (x13.did + 1)) ((getI x1.busy k).bind fun x16 => (gd (ok64 (x13.did + 1)) ((getI n.tasks x13.task).bind fun x18 => (if decide ((x13.did + 1) < x18.need) = true then (some ((GCase.mk x1.state x1.marks (x1.busy.set k.toNat (GItem.mk x16.task x16.who (x13.did + 1))) x14 x1.did), true)) else ((z6h n c.marks x13.task x14).bind fun x20 => (if x20.2 = true then (gd ((0 : Int) ≤ k ∧ k ≤ (c.busy.length : Int)) (gd (([] : List GItem).length + (c.busy.take k.toNat).length ≤ SMALL) (gd (ok64 (k + 1)) (gd ((0 : Int) ≤ (k + 1) ∧ (k + 1) ≤ (c.busy.length : Int)) (gd ((([] : List GItem) ++ (c.busy.take k.toNat)).length + (c.busy.drop (k + 1).toNat).length ≤ SMALL) (gd (x1.did.length + [(GDid.mk x13.task x13.who)].length ≤ SMALL) ((getI x20.1 1).bind fun x28 => (if decide (0 < x28) = true then (some ((GCase.mk 2 x20.1 ([] : List GItem) x14 (x1.did ++ [(GDid.mk x13.task x13.who)])), true)) else (some ((GCase.mk x1.state x20.1 ((([] : List GItem) ++ (c.busy.take k.toNat)) ++ (c.busy.drop (k + 1).toNat)) x14 (x1.did ++ [(GDid.mk x13.task x13.who)])), true)))))))))) else ((z3b c).bind fun x30 => (some (x30, false))))))))))))) else (some (x1, false)))) else (some (x1, false)))) else (some (x1, false))))) else (some (x1, false))) else (some (x1, false))))
def z99 : Con := ⟨25, [.v (.s .net) false, .v (.s .kase) false, .v .I false, .v .I false, .v .I false], [((.s .kase), true), (.B, true)], [], fun x => z6f x.1 x.2.1 x.2.2.1 x.2.2.2.1 x.2.2.2.2.1⟩
def y6j : Fs := ⟨[z4d, z23, z0b, z7b, z0d], [], []⟩
theorem y6x : y6j.Ok Try.prog := (fsK z7t (fsK zo1 (fsK z0f (fsK y04 (fsK y7g fs0)))))
theorem y7e : z99.Ok Try.prog := fn_ok (k := z99) (fn := Try.f25) (W := []) (H := []) Try.func25 y6x trivial rfl rfl (fun av x => by kernel_rfl)
def z6e (n : GNet) (c : GCase) : Option (GCase × Bool) := (z3b c).bind fun x1 => ((z54 n c).bind fun x2 => (if x2 = true then (if decide (c.state = 1) = true then (some ((GCase.mk 3 x1.marks ([] : List GItem) x1.data x1.did), true)) else (some (x1, false))) else (some (x1, false))))
def z98 : Con := ⟨171, [.v (.s .net) false, .v (.s .kase) false], [((.s .kase), true), (.B, true)], [], fun x => z6e x.1 x.2.1⟩
def y6i : Fs := ⟨[z4d, z23], [], []⟩
theorem y6w : y6i.Ok Try.prog := (fsK z7t (fsK zo1 fs0))
theorem y7d : z98.Ok Try.prog := fn_ok (k := z98) (fn := Try.f171) (W := []) (H := []) Try.func171 y6w trivial rfl rfl (fun av x => by kernel_rfl)
def zn4 (s0_0 : Int) (bk0 : Int → Option Bool) (s1_0 : Int) : Option Bool := if ((decide (s0_0 = 0)) == (decide (s1_0 = 0))) = true then (if decide (1 < s1_0) = true then (some false) else (gd (ok64 (s0_0 + 1)) (bk0 (s0_0 + 1)))) else (some false)
def z0g (tree : List GNode) (s0_0 : Int) (kx1_0 : Int → Option Bool) : Nat → Int → Int → Option Bool
  | 0, _, _ => none
  | n1 + 1, s1_0, s1_1 => if decide (s1_1 < (tree.length : Int)) = true then ((getI tree s1_1).bind fun x15 => (if decide (x15.yes = s0_0) = true then (gd (ok64 (s1_0 + 1)) ((getI tree s1_1).bind fun x18 => (if decide (x18.no = s0_0) = true then (gd (ok64 ((s1_0 + 1) + 1)) (gd (ok64 (s1_1 + 1)) ((z0g tree s0_0 kx1_0 n1) ((s1_0 + 1) + 1) (s1_1 + 1)))) else (gd (ok64 (s1_1 + 1)) ((z0g tree s0_0 kx1_0 n1) (s1_0 + 1) (s1_1 + 1)))))) else ((getI tree s1_1).bind fun x23 => (if decide (x23.no = s0_0) = true then (gd (ok64 (s1_0 + 1)) (gd (ok64 (s1_1 + 1)) ((z0g tree s0_0 kx1_0 n1) (s1_0 + 1) (s1_1 + 1)))) else (gd (ok64 (s1_1 + 1)) ((z0g tree s0_0 kx1_0 n1) s1_0 (s1_1 + 1))))))) else (kx1_0 s1_0)
def zn5 (s0_0 : Int) (bk0 : Int → Option Bool) (s2_0 : Int) : Option Bool := if ((decide (s0_0 = 0)) == (decide (s2_0 = 0))) = true then (if decide (1 < s2_0) = true then (some false) else (gd (ok64 (s0_0 + 1)) (bk0 (s0_0 + 1)))) else (some false)
def zn6 (s0_0 : Int) (bk0 : Int → Option Bool) (s3_0 : Int) : Option Bool := if ((decide (s0_0 = 0)) == (decide (s3_0 = 0))) = true then (if decide (1 < s3_0) = true then (some false) else (gd (ok64 (s0_0 + 1)) (bk0 (s0_0 + 1)))) else (some false)
def zn7 (s0_0 : Int) (bk0 : Int → Option Bool) (s4_0 : Int) : Option Bool := if ((decide (s0_0 = 0)) == (decide (s4_0 = 0))) = true then (if decide (1 < s4_0) = true then (some false) else (gd (ok64 (s0_0 + 1)) (bk0 (s0_0 + 1)))) else (some false)
def zn8  : Option Bool := some true
def z1h (tree : List GNode) (kx0_0 : Option Bool) : Nat → Int → Option Bool
  | 0, _ => none
  | n0 + 1, s0_0 => if decide (s0_0 < (tree.length : Int)) = true then ((getI tree s0_0).bind fun x3 => ((z39 x3.if_).bind fun x4 => (if x4 = true then ((z00 x3.ans 0 2).bind fun x6 => (if x6 = true then ((z17 x3.stone).bind fun x8 => (if x8 = true then ((z0r x3.if_ x3.stone).bind fun x10 => (if x10 = true then (if decide (x3.yes = (-1)) = true then (if decide (x3.no = (-1)) = true then (z0g tree s0_0 (zn4 s0_0 (z1h tree kx0_0 n0)) FUEL 0 0) else (gd (ok64 (s0_0 + 1)) (gd (ok64 ((tree.length : Int) - 1)) ((z00 x3.no (s0_0 + 1) ((tree.length : Int) - 1)).bind fun x33 => (if x33 = true then (z0g tree s0_0 (zn5 s0_0 (z1h tree kx0_0 n0)) FUEL 0 0) else (some false)))))) else (gd (ok64 (s0_0 + 1)) (gd (ok64 ((tree.length : Int) - 1)) ((z00 x3.yes (s0_0 + 1) ((tree.length : Int) - 1)).bind fun x54 => (if x54 = true then (if decide (x3.no = (-1)) = true then (z0g tree s0_0 (zn6 s0_0 (z1h tree kx0_0 n0)) FUEL 0 0) else (gd (ok64 (s0_0 + 1)) (gd (ok64 ((tree.length : Int) - 1)) ((z00 x3.no (s0_0 + 1) ((tree.length : Int) - 1)).bind fun x76 => (if x76 = true then (z0g tree s0_0 (zn7 s0_0 (z1h tree kx0_0 n0)) FUEL 0 0) else (some false)))))) else (some false)))))) else (some false))) else (some false))) else (some false))) else (some false)))) else (kx0_0)
def z56 (tree : List GNode) : Option Bool := if decide (12 < (tree.length : Int)) = true then (some false) else (z1h tree zn8 FUEL 0)
def z0n : Con := ⟨93, [.v (.sl (.s .node)) false], [(.B, true)], [], fun x => z56 x.1⟩
def yg3 : Fs := ⟨[z44, z0b, z0i, z2q], [], []⟩
theorem zk3 : yg3.Ok Try.prog := (fsK z6r (fsK z0f (fsK z3c (fsK z4a fs0))))
def zh9 : Tmpl := ⟨[(0, .c (.s (.s .node))), (3, .c .i), (5, .c .i), (6, .c .i)], []⟩
def zc7 : Tmpl := ⟨[(0, .c (.s (.s .node))), (3, .c .i), (5, .c .i)], []⟩
def y2e (av : AV) (x : HP z0n.ps) (n : Nat) (v : zh9.den) (K : Ks (CR z0n)) : Option (CR z0n) := z0g v.1.1 v.1.2.1 (fun s1_0 => zc7.at none ((v.1.1, v.1.2.1, s1_0, ()), ()) (K (.exit 2))) n v.1.2.2.1 v.1.2.2.2.1
def zf9 (av : AV) (x : HP z0n.ps) : Hdl (CR z0n) := hnd [] zh9 (y2e av x)
theorem y2w : LP z0n Try.f93 [0, 0] zf9 := lp_ok (W := []) (H := []) (xs := [zc7]) zk3 trivial rfl (fun av x v K => by kernel_rfl) (fun av x n v K => by kernel_rfl)
def zu5 : Tmpl := ⟨[(0, .c (.s (.s .node))), (3, .c .i)], []⟩
def zq9 : Tmpl := ⟨[], []⟩
def y6b (av : AV) (x : HP z0n.ps) (n : Nat) (v : zu5.den) (K : Ks (CR z0n)) : Option (CR z0n) := z1h v.1.1 (zq9.at none ((), ()) (K (.exit 0))) n v.1.2.1
def zt1 (av : AV) (x : HP z0n.ps) : Hdl (CR z0n) := hnd [] zu5 (y6b av x)
theorem y77 : LP z0n Try.f93 [0] zt1 := lp_ok (W := []) (H := [zf9]) (xs := [zq9]) zk3 ⟨y2w, trivial⟩ rfl (fun av x v K => by kernel_rfl) (fun av x n v K => by kernel_rfl)
theorem y22 : z0n.Ok Try.prog := fn_ok (k := z0n) (fn := Try.f93) (W := []) (H := [zt1]) Try.func93 zk3 ⟨y77, trivial⟩ rfl rfl (fun av x => by kernel_rfl)
def zg9 (s0_0 : Int) (s0_1 : Int) : Option (Int × Int) := some (s0_0, s0_1)
def zh0 (s0_0 : Int) (s0_1 : Int) : Option (Int × Int) := some (s0_0, s0_1)
def z1m (tree : List GNode) (data : List Int) (kx0_0 : Int → Int → Option (Int × Int)) (kx0_1 : Int → Int → Option (Int × Int)) : Nat → Int → Int → Int → Int → Option (Int × Int)
  | 0, _, _, _, _ => none
  | n0 + 1, s0_0, s0_1, s0_2, s0_3 => if decide (s0_3 < 12) = true then (if decide (s0_2 = (-1)) = true then (kx0_0 s0_0 s0_1) else ((getI tree s0_2).bind fun x4 => ((z0r x4.if_ data).bind fun x5 => (if x5 = true then ((getI tree s0_2).bind fun x7 => (gd (ok64 (s0_3 + 1)) ((z1m tree data kx0_0 kx0_1 n0) s0_2 s0_2 x7.yes (s0_3 + 1)))) else ((getI tree s0_2).bind fun x9 => (gd (ok64 (s0_3 + 1)) ((z1m tree data kx0_0 kx0_1 n0) s0_0 s0_2 x9.no (s0_3 + 1)))))))) else (kx0_1 s0_0 s0_1)
def zh1 (s1_0 : Int) (s1_1 : Int) : Option (Int × Int) := some (s1_0, s1_1)
def zh2 (s1_0 : Int) (s1_1 : Int) : Option (Int × Int) := some (s1_0, s1_1)
def z3t (tree : List GNode) (data : List Int) : Option (Int × Int) := if decide ((tree.length : Int) = 0) = true then (z1m tree data zg9 zh0 FUEL (-1) (-1) (-1) 0) else (z1m tree data zh1 zh2 FUEL (-1) (-1) 0 0)
def z1f : Con := ⟨169, [.v (.sl (.s .node)) false, .v (.sl .I) false], [(.I, true), (.I, true)], [], fun x => z3t x.1 x.2.1⟩
def y93 : Fs := ⟨[z2q], [], []⟩
theorem zy7 : y93.Ok Try.prog := (fsK z4a fs0)
def zp8 : Tmpl := ⟨[(0, .c (.s (.s .node))), (1, .c (.s .I)), (6, .c .i), (7, .c .i), (8, .c .i), (9, .c .i)], []⟩
def z73 : Tmpl := ⟨[(6, .c .i), (7, .c .i)], []⟩
def y3v (av : AV) (x : HP z1f.ps) (n : Nat) (v : zp8.den) (K : Ks (CR z1f)) : Option (CR z1f) := z1m v.1.1 v.1.2.1 (fun s0_0 s0_1 => z73.at none ((s0_0, s0_1, ()), ()) (K (.exit 0))) (fun s0_0 s0_1 => z73.at none ((s0_0, s0_1, ()), ()) (K (.exit 0))) n v.1.2.2.1 v.1.2.2.2.1 v.1.2.2.2.2.1 v.1.2.2.2.2.2.1
def zl5 (av : AV) (x : HP z1f.ps) : Hdl (CR z1f) := hnd [] zp8 (y3v av x)
theorem y50 : LP z1f Try.f169 [0] zl5 := lp_ok (W := []) (H := []) (xs := [z73]) zy7 trivial rfl (fun av x v K => by kernel_rfl) (fun av x n v K => by kernel_rfl)
theorem ze5 : z1f.Ok Try.prog := fn_ok (k := z1f) (fn := Try.f169) (W := []) (H := [zl5]) Try.func169 zy7 ⟨y50, trivial⟩ rfl rfl (fun av x => by kernel_rfl)
def z7j (tree : List GNode) (data : List Int) : Option Int := (z56 tree).bind fun x1 => (if x1 = true then ((z17 data).bind fun x3 => (if x3 = true then ((z3t tree data).bind fun x5 => (if decide (x5.1 = (-1)) = true then (some 0) else ((getI tree x5.1).bind fun x7 => (some x7.ans)))) else (some 0))) else (some 0))
def zd6 : Con := ⟨154, [.v (.sl (.s .node)) false, .v (.sl .I) false], [(.I, true)], [], fun x => z7j x.1 x.2.1⟩
def y8u : Fs := ⟨[z0n, z0i, z1f], [], []⟩
theorem y9d : y8u.Ok Try.prog := (fsK y22 (fsK z3c (fsK ze5 fs0)))
theorem ya0 : zd6.Ok Try.prog := fn_ok (k := zd6) (fn := Try.f154) (W := []) (H := []) Try.func154 y9d trivial rfl rfl (fun av x => by kernel_rfl)
def z7n (tree : List GNode) (a : List Int) (b : List Int) : Option Bool := (z3t tree a).bind fun x1 => ((z3t tree b).bind fun x2 => (if decide (x1.2 = x2.2) = true then (if decide (x1.2 = (-1)) = true then (some true) else ((getI tree x1.2).bind fun x5 => ((z0r x5.if_ a).bind fun x6 => ((getI tree x1.2).bind fun x7 => ((z0r x7.if_ b).bind fun x8 => (some (x6 == x8))))))) else (some false)))
def ze0 : Con := ⟨170, [.v (.sl (.s .node)) false, .v (.sl .I) false, .v (.sl .I) false], [(.B, true)], [], fun x => z7n x.1 x.2.1 x.2.2.1⟩
def y92 : Fs := ⟨[z1f, z2q], [], []⟩
theorem y9i : y92.Ok Try.prog := (fsK ze5 (fsK z4a fs0))
theorem ya5 : ze0.Ok Try.prog := fn_ok (k := ze0) (fn := Try.f170) (W := []) (H := []) Try.func170 y9i trivial rfl rfl (fun av x => by kernel_rfl)
def z70 (l0_1 : List GNode) : Option (List GNode) := some l0_1
def z30 (tree : List GNode) (kx0_0 : List GNode → Option (List GNode)) : Nat → Int → List GNode → Option (List GNode)
  | 0, _, _ => none
  | n0 + 1, s0_0, l0_1 => if decide (s0_0 < (tree.length : Int)) = true then ((getI tree s0_0).bind fun x2 => (gd (([] : List Int).length + x2.stone.length ≤ SMALL) (gd (l0_1.length + [(GNode.mk x2.if_ x2.yes x2.no x2.ans (([] : List Int) ++ x2.stone))].length ≤ SMALL) (gd (ok64 (s0_0 + 1)) ((z30 tree kx0_0 n0) (s0_0 + 1) (l0_1 ++ [(GNode.mk x2.if_ x2.yes x2.no x2.ans (([] : List Int) ++ x2.stone))])))))) else (kx0_0 l0_1)
def z61 (tree : List GNode) : Option (List GNode) := z30 tree z70 FUEL 0 ([] : List GNode)
def z22 : Con := ⟨157, [.v (.sl (.s .node)) false], [((.sl (.s .node)), true)], [], fun x => z61 x.1⟩
def y91 : Fs := ⟨[], [], []⟩
theorem zy6 : y91.Ok Try.prog := fs0
def zp7 : Tmpl := ⟨[(0, .c (.s (.s .node))), (3, .c (.ref 6)), (4, .c .i)], [(6, .arr (.s .node) true)]⟩
def zj2 : Tmpl := ⟨[(3, .c (.ref 6))], [(6, .arr (.s .node) true)]⟩
def y3u (av : AV) (x : HP z22.ps) (n : Nat) (v : zp7.den) (K : Ks (CR z22)) : Option (CR z22) := z30 v.1.1 (fun l0_1 => zj2.at none (((), ()), (l0_1, ())) (K (.exit 0))) n v.1.2.2.1 v.2.1
def zl4 (av : AV) (x : HP z22.ps) : Hdl (CR z22) := hnd [] zp7 (y3u av x)
theorem y4z : LP z22 Try.f157 [0] zl4 := lp_ok (W := []) (H := []) (xs := [zj2]) zy6 trivial rfl (fun av x v K => by kernel_rfl) (fun av x n v K => by kernel_rfl)
theorem y07 : z22.Ok Try.prog := fn_ok (k := z22) (fn := Try.f157) (W := []) (H := [zl4]) Try.func157 zy6 ⟨y4z, trivial⟩ rfl rfl (fun av x => by kernel_rfl)
def z4s (tree : List GNode) (data : List Int) (e : GAsk) (ans : Int) (x1 : (List GNode)) : Option ((List GNode) × Bool) := (z3t tree data).bind fun x20 => (if decide (x20.2 = (-1)) = true then (gd (([] : List Int).length + data.length ≤ SMALL) (gd (x1.length + [(GNode.mk e (-1) (-1) ans (([] : List Int) ++ data))].length ≤ SMALL) (some ((x1 ++ [(GNode.mk e (-1) (-1) ans (([] : List Int) ++ data))]), true)))) else ((getI tree x20.2).bind fun x24 => ((z0r x24.if_ data).bind fun x25 => (if x25 = true then ((getI x1 x20.2).bind fun x27 => (gd (([] : List Int).length + data.length ≤ SMALL) (gd ((x1.set x20.2.toNat (GNode.mk x27.if_ (tree.length : Int) x27.no x27.ans x27.stone)).length + [(GNode.mk e (-1) (-1) ans (([] : List Int) ++ data))].length ≤ SMALL) (some (((x1.set x20.2.toNat (GNode.mk x27.if_ (tree.length : Int) x27.no x27.ans x27.stone)) ++ [(GNode.mk e (-1) (-1) ans (([] : List Int) ++ data))]), true))))) else ((getI x1 x20.2).bind fun x30 => (gd (([] : List Int).length + data.length ≤ SMALL) (gd ((x1.set x20.2.toNat (GNode.mk x30.if_ x30.yes (tree.length : Int) x30.ans x30.stone)).length + [(GNode.mk e (-1) (-1) ans (([] : List Int) ++ data))].length ≤ SMALL) (some (((x1.set x20.2.toNat (GNode.mk x30.if_ x30.yes (tree.length : Int) x30.ans x30.stone)) ++ [(GNode.mk e (-1) (-1) ans (([] : List Int) ++ data))]), true)))))))))
def z2d (tree : List GNode) (data : List Int) (e : GAsk) (x1 : (List GNode)) (kx0_0 : Option ((List GNode) × Bool)) : Nat → Int → Option ((List GNode) × Bool)
  | 0, _ => none
  | n0 + 1, s0_0 => if decide (s0_0 < (tree.length : Int)) = true then ((getI tree s0_0).bind fun x12 => ((z7n tree x12.stone data).bind fun x13 => (if x13 = true then ((getI tree s0_0).bind fun x15 => ((z0r e x15.stone).bind fun x16 => (if x16 = true then (some (x1, false)) else (gd (ok64 (s0_0 + 1)) ((z2d tree data e x1 kx0_0 n0) (s0_0 + 1)))))) else (gd (ok64 (s0_0 + 1)) ((z2d tree data e x1 kx0_0 n0) (s0_0 + 1)))))) else (kx0_0)
def z7i (tree : List GNode) (data : List Int) (e : GAsk) (ans : Int) : Option ((List GNode) × Bool) := (z61 tree).bind fun x1 => ((z56 tree).bind fun x2 => (if x2 = true then ((z17 data).bind fun x4 => (if x4 = true then ((z0r e data).bind fun x6 => (if x6 = true then ((z00 ans 0 2).bind fun x8 => (if x8 = true then (if decide ((tree.length : Int) = 12) = true then (some (x1, false)) else (z2d tree data e x1 (z4s tree data e ans x1) FUEL 0)) else (some (x1, false)))) else (some (x1, false)))) else (some (x1, false)))) else (some (x1, false))))
def z2i : Con := ⟨155, [.v (.sl (.s .node)) false, .v (.sl .I) false, .v (.s .ask) false, .v .I false], [((.sl (.s .node)), true), (.B, true)], [], fun x => z7i x.1 x.2.1 x.2.2.1 x.2.2.2.1⟩
def y8t : Fs := ⟨[z22, z0n, z0i, z2q, z0b, ze0, z1f], [], []⟩
theorem zy3 : y8t.Ok Try.prog := (fsK y07 (fsK y22 (fsK z3c (fsK z4a (fsK z0f (fsK ya5 (fsK ze5 fs0)))))))
def zp4 : Tmpl := ⟨[(0, .c (.s (.s .node))), (1, .c (.s .I)), (3, .c .i), (6, .c (.bx 6 0)), (10, .c (.ref 15)), (11, .c .i)], [(6, .boxT (.s .ask)), (15, .arr (.s .node) true)]⟩
def zi9 : Tmpl := ⟨[(0, .c (.s (.s .node))), (1, .c (.s .I)), (3, .c .i), (6, .c (.bx 6 0)), (10, .c (.ref 15))], [(6, .boxT (.s .ask)), (15, .arr (.s .node) true)]⟩
def y3r (av : AV) (x : HP z2i.ps) (n : Nat) (v : zp4.den) (K : Ks (CR z2i)) : Option (CR z2i) := z2d v.1.1 v.1.2.1 v.2.1 v.2.2.1 (zi9.at none ((v.1.1, v.1.2.1, v.1.2.2.1, (), (), ()), (v.2.1, v.2.2.1, ())) (K (.exit 0))) n v.1.2.2.2.2.2.1
def zl1 (av : AV) (x : HP z2i.ps) : Hdl (CR z2i) := hnd [] zp4 (y3r av x)
theorem y4w : LP z2i Try.f155 [0] zl1 := lp_ok (W := []) (H := []) (xs := [zi9]) zy3 trivial rfl (fun av x v K => by kernel_rfl) (fun av x n v K => by kernel_rfl)
theorem y9z : z2i.Ok Try.prog := fn_ok (k := z2i) (fn := Try.f155) (W := []) (H := [zl1]) Try.func155 zy3 ⟨y4w, trivial⟩ rfl rfl (fun av x => by kernel_rfl)
def z5g (ans : Int) : Option Bool := (z26 ans 0 2).bind fun x1 => (some x1)
def z80 : Con := ⟨84, [.v .I false], [(.B, true)], [], fun x => z5g x.1⟩
def y48 : Fs := ⟨[z9z], [], []⟩
theorem y4m : y48.Ok Try.prog := (fsK y03 fs0)
theorem y56 : z80.Ok Try.prog := fn_ok (k := z80) (fn := Try.f84) (W := []) (H := []) Try.func84 y4m trivial rfl rfl (fun av x => by kernel_rfl)
def zh3  : Option Bool := some true
def z33 (nets : List GNet) (kx0_0 : Option Bool) : Nat → Int → Option Bool
  | 0, _ => none
  | n0 + 1, s0_0 => if decide (s0_0 < (nets.length : Int)) = true then ((getI nets s0_0).bind fun x4 => ((z1l x4).bind fun x5 => (if x5 = true then (gd (ok64 (s0_0 + 1)) ((z33 nets kx0_0 n0) (s0_0 + 1))) else (some false)))) else (kx0_0)
def z7r (nets : List GNet) : Option Bool := (z00 (nets.length : Int) 1 3).bind fun x1 => (if x1 = true then (z33 nets zh3 FUEL 0) else (some false))
def z2k : Con := ⟨91, [.v (.sl (.s .net)) false], [(.B, true)], [], fun x => z7r x.1⟩
def y97 : Fs := ⟨[z0b, z16], [], []⟩
theorem zy8 : y97.Ok Try.prog := (fsK z0f (fsK z6s fs0))
def zq1 : Tmpl := ⟨[(0, .c (.s (.s .net))), (3, .c .i)], []⟩
def zj5 : Tmpl := ⟨[], []⟩
def y3y (av : AV) (x : HP z2k.ps) (n : Nat) (v : zq1.den) (K : Ks (CR z2k)) : Option (CR z2k) := z33 v.1.1 (zj5.at none ((), ()) (K (.exit 0))) n v.1.2.1
def zl8 (av : AV) (x : HP z2k.ps) : Hdl (CR z2k) := hnd [] zq1 (y3y av x)
theorem y53 : LP z2k Try.f91 [0] zl8 := lp_ok (W := []) (H := []) (xs := [zj5]) zy8 trivial rfl (fun av x v K => by kernel_rfl) (fun av x n v K => by kernel_rfl)
theorem ya9 : z2k.Ok Try.prog := fn_ok (k := z2k) (fn := Try.f91) (W := []) (H := [zl8]) Try.func91 zy8 ⟨y53, trivial⟩ rfl rfl (fun av x => by kernel_rfl)
def z51 (p0_1 : Int) (l0_1 : List GTask) : Option GNet := some (GNet.mk p0_1 l0_1)
def z1v (n : GNet) (kx0_0 : List GTask → Option GNet) : Nat → Int → List GTask → Option GNet
  | 0, _, _ => none
  | n0 + 1, s0_0, l0_1 => if decide (s0_0 < (n.tasks.length : Int)) = true then ((getI n.tasks s0_0).bind fun x2 => (gd (([] : List Int).length + x2.in_.length ≤ SMALL) (gd (([] : List GFlow).length + x2.out.length ≤ SMALL) (gd (([] : List Int).length + x2.clear.length ≤ SMALL) (gd (l0_1.length + [(GTask.mk x2.join x2.split (([] : List Int) ++ x2.in_) (([] : List GFlow) ++ x2.out) (([] : List Int) ++ x2.clear) x2.role x2.apart x2.all x2.need)].length ≤ SMALL) (gd (ok64 (s0_0 + 1)) ((z1v n kx0_0 n0) (s0_0 + 1) (l0_1 ++ [(GTask.mk x2.join x2.split (([] : List Int) ++ x2.in_) (([] : List GFlow) ++ x2.out) (([] : List Int) ++ x2.clear) x2.role x2.apart x2.all x2.need)])))))))) else (kx0_0 l0_1)
def z3v (n : GNet) : Option GNet := z1v n (z51 n.places) FUEL 0 ([] : List GTask)
def z0u : Con := ⟨158, [.v (.s .net) false], [((.s .net), true)], [], fun x => z3v x.1⟩
def y2p : Fs := ⟨[], [], []⟩
theorem zf4 : y2p.Ok Try.prog := fs0
def z8y : Tmpl := ⟨[(1, .c (.bx 1 0)), (2, .c (.bx 2 0)), (3, .c (.bx 3 0)), (4, .c .i)], [(1, .boxT (.s .net)), (2, .box [.i, .nl]), (3, .box [.i, .ref 510301]), (510301, .arr (.s .task) true)]⟩
def z8e : Tmpl := ⟨[(2, .c (.bx 2 0)), (3, .c (.bx 3 0))], [(2, .box [.i, .nl]), (3, .box [.i, .ref 510301]), (510301, .arr (.s .task) true)]⟩
def zx0 (av : AV) (x : HP z0u.ps) (n : Nat) (v : z8y.den) (K : Ks (CR z0u)) : Option (CR z0u) := z1v v.2.1 (fun l0_1 => z8e.at none (((), (), ()), ((v.2.2.1.1, (), ()), (v.2.2.2.1.1, (), ()), l0_1, ())) (K (.exit 0))) n v.1.2.2.2.1 v.2.2.2.2.1
def z8k (av : AV) (x : HP z0u.ps) : Hdl (CR z0u) := hnd [.b 3 1 510301 (.s .task)] z8y (zx0 av x)
theorem zz8 : LP z0u Try.f158 [0] z8k := lp_ok (W := []) (H := []) (xs := [z8e]) zf4 trivial rfl (fun av x v K => by kernel_rfl) (fun av x n v K => by kernel_rfl)
theorem zh4 : z0u.Ok Try.prog := fn_ok (k := z0u) (fn := Try.f158) (W := []) (H := [z8k]) Try.func158 zf4 ⟨zz8, trivial⟩ rfl rfl (fun av x => by kernel_rfl)
def z6y (p0_0 : List Int) (l0_1 : List GNet) : Option GHouse := some (GHouse.mk l0_1 p0_0 [] [])
def z2w (nets : List GNet) (kx0_0 : List GNet → Option GHouse) : Nat → Int → List GNet → Option GHouse
  | 0, _, _ => none
  | n0 + 1, s0_0, l0_1 => if decide (s0_0 < (nets.length : Int)) = true then ((getI nets s0_0).bind fun x7 => ((z3v x7).bind fun x8 => (gd (l0_1.length + [x8].length ≤ SMALL) (gd (ok64 (s0_0 + 1)) ((z2w nets kx0_0 n0) (s0_0 + 1) (l0_1 ++ [x8])))))) else (kx0_0 l0_1)
def z7e (nets : List GNet) (people : List Int) : Option GHouse := (z7r nets).bind fun x1 => (if x1 = true then ((z55 people).bind fun x3 => (if x3 = true then (gd (([] : List Int).length + people.length ≤ SMALL) (z2w nets (z6y (([] : List Int) ++ people)) FUEL 0 ([] : List GNet))) else (some (GHouse.mk [] [] [] [])))) else (some (GHouse.mk [] [] [] [])))
def z2f : Con := ⟨128, [.v (.sl (.s .net)) false, .v (.sl .I) false], [((.s .house), true)], [], fun x => z7e x.1 x.2.1⟩
def y8p : Fs := ⟨[z2k, z24, z0u], [], []⟩
theorem zy0 : y8p.Ok Try.prog := (fsK ya9 (fsK zo3 (fsK zh4 fs0)))
def zp0 : Tmpl := ⟨[(0, .c (.s (.s .net))), (4, .c (.bx 4 0)), (5, .c (.bx 5 0)), (6, .c .i)], [(4, .box [.nl, .nl, .nl, .nl]), (5, .box [.ref 510500, .ref 18, .nl, .nl]), (510500, .arr (.s .net) true), (18, .arr .I true)]⟩
def zi5 : Tmpl := ⟨[(4, .c (.bx 4 0)), (5, .c (.bx 5 0))], [(4, .box [.nl, .nl, .nl, .nl]), (5, .box [.ref 510500, .ref 18, .nl, .nl]), (510500, .arr (.s .net) true), (18, .arr .I true)]⟩
def y3n (av : AV) (x : HP z2f.ps) (n : Nat) (v : zp0.den) (K : Ks (CR z2f)) : Option (CR z2f) := z2w v.1.1 (fun l0_1 => zi5.at none (((), (), ()), (((), (), (), (), ()), ((), (), (), (), ()), l0_1, v.2.2.2.2.1, ())) (K (.exit 0))) n v.1.2.2.2.1 v.2.2.2.1
def zk7 (av : AV) (x : HP z2f.ps) : Hdl (CR z2f) := hnd [.b 5 0 510500 (.s .net)] zp0 (y3n av x)
theorem y4s : LP z2f Try.f128 [0] zk7 := lp_ok (W := []) (H := []) (xs := [zi5]) zy0 trivial rfl (fun av x v K => by kernel_rfl) (fun av x n v K => by kernel_rfl)
theorem y9v : z2f.Ok Try.prog := fn_ok (k := z2f) (fn := Try.f128) (W := []) (H := [zk7]) Try.func128 zy0 ⟨y4s, trivial⟩ rfl rfl (fun av x => by kernel_rfl)
def z71 (x2 : (List GNode)) (p0_0 : List Int) (l0_1 : List GNet) (l1_1 : List GRun) : Option GHouse := some (GHouse.mk l0_1 p0_0 x2 l1_1)
def z32 (h : GHouse) (kx1_0 : List GRun → Option GHouse) : Nat → Int → List GRun → Option GHouse
  | 0, _, _ => none
  | n1 + 1, s1_0, l1_1 => if decide (s1_0 < (h.runs.length : Int)) = true then ((getI h.runs s1_0).bind fun x9 => ((getI h.runs s1_0).bind fun x10 => ((z3b x10.case).bind fun x11 => (gd (l1_1.length + [(GRun.mk x9.net x11)].length ≤ SMALL) (gd (ok64 (s1_0 + 1)) ((z32 h kx1_0 n1) (s1_0 + 1) (l1_1 ++ [(GRun.mk x9.net x11)]))))))) else (kx1_0 l1_1)
def z4w (h : GHouse) (x2 : (List GNode)) (p0_0 : List Int) (l0_1 : List GNet) : Option GHouse := z32 h (z71 x2 p0_0 l0_1) FUEL 0 ([] : List GRun)
def z31 (h : GHouse) (kx0_0 : List GNet → Option GHouse) : Nat → Int → List GNet → Option GHouse
  | 0, _, _ => none
  | n0 + 1, s0_0, l0_1 => if decide (s0_0 < (h.nets.length : Int)) = true then ((getI h.nets s0_0).bind fun x4 => ((z3v x4).bind fun x5 => (gd (l0_1.length + [x5].length ≤ SMALL) (gd (ok64 (s0_0 + 1)) ((z31 h kx0_0 n0) (s0_0 + 1) (l0_1 ++ [x5])))))) else (kx0_0 l0_1)
def z7p (h : GHouse) : Option GHouse := gd (([] : List Int).length + h.people.length ≤ SMALL) ((z61 h.tree).bind fun x2 => (z31 h (z4w h x2 (([] : List Int) ++ h.people)) FUEL 0 ([] : List GNet)))
def z0k : Con := ⟨127, [.v (.s .house) false], [((.s .house), true)], [], fun x => z7p x.1⟩
def y95 : Fs := ⟨[z22, z0u, z4d], [], []⟩
theorem zd4 : y95.Ok Try.prog := (fsK y07 (fsK zh4 (fsK z7t fs0)))
def zp9 : Tmpl := ⟨[(1, .c (.bx 1 0)), (2, .c (.bx 2 0)), (3, .c (.bx 3 0)), (4, .c .i)], [(1, .boxT (.s .house)), (2, .box [.nl, .nl, .nl, .nl]), (3, .box [.ref 510300, .ref 9, .ref 12, .nl]), (510300, .arr (.s .net) true), (9, .arr .I true), (12, .arr (.s .node) true)]⟩
def zj3 : Tmpl := ⟨[(1, .c (.bx 1 0)), (2, .c (.bx 2 0)), (3, .c (.bx 3 0))], [(1, .boxT (.s .house)), (2, .box [.nl, .nl, .nl, .nl]), (3, .box [.ref 510300, .ref 9, .ref 12, .nl]), (510300, .arr (.s .net) true), (9, .arr .I true), (12, .arr (.s .node) true)]⟩
def y3w (av : AV) (x : HP z0k.ps) (n : Nat) (v : zp9.den) (K : Ks (CR z0k)) : Option (CR z0k) := z31 v.2.1 (fun l0_1 => zj3.at none (((), (), (), ()), (v.2.1, ((), (), (), (), ()), ((), (), (), (), ()), l0_1, v.2.2.2.2.2.1, v.2.2.2.2.2.2.1, ())) (K (.exit 0))) n v.1.2.2.2.1 v.2.2.2.2.1
def zl6 (av : AV) (x : HP z0k.ps) : Hdl (CR z0k) := hnd [.b 3 0 510300 (.s .net)] zp9 (y3w av x)
theorem y51 : LP z0k Try.f127 [0] zl6 := lp_ok (W := []) (H := []) (xs := [zj3]) zd4 trivial rfl (fun av x v K => by kernel_rfl) (fun av x n v K => by kernel_rfl)
def zq0 : Tmpl := ⟨[(1, .c (.bx 1 0)), (2, .c (.bx 2 0)), (3, .c (.bx 3 0)), (5, .c .i)], [(1, .boxT (.s .house)), (2, .box [.nl, .nl, .nl, .nl]), (3, .box [.ref 510300, .ref 9, .ref 12, .ref 510303]), (510300, .arr (.s .net) true), (9, .arr .I true), (12, .arr (.s .node) true), (510303, .arr (.s .run) true)]⟩
def zj4 : Tmpl := ⟨[(2, .c (.bx 2 0)), (3, .c (.bx 3 0))], [(2, .box [.nl, .nl, .nl, .nl]), (3, .box [.ref 510300, .ref 9, .ref 12, .ref 510303]), (510300, .arr (.s .net) true), (9, .arr .I true), (12, .arr (.s .node) true), (510303, .arr (.s .run) true)]⟩
def y3x (av : AV) (x : HP z0k.ps) (n : Nat) (v : zq0.den) (K : Ks (CR z0k)) : Option (CR z0k) := z32 v.2.1 (fun l1_1 => zj4.at none (((), (), ()), (((), (), (), (), ()), ((), (), (), (), ()), v.2.2.2.2.1, v.2.2.2.2.2.1, v.2.2.2.2.2.2.1, l1_1, ())) (K (.exit 2))) n v.1.2.2.2.1 v.2.2.2.2.2.2.2.1
def zl7 (av : AV) (x : HP z0k.ps) : Hdl (CR z0k) := hnd [.b 3 3 510303 (.s .run)] zq0 (y3x av x)
theorem y52 : LP z0k Try.f127 [1] zl7 := lp_ok (W := []) (H := []) (xs := [zj4]) zd4 trivial rfl (fun av x v K => by kernel_rfl) (fun av x n v K => by kernel_rfl)
theorem ya7 : z0k.Ok Try.prog := fn_ok (k := z0k) (fn := Try.f127) (W := []) (H := [zl6, zl7]) Try.func127 zd4 ⟨y51, y52, trivial⟩ rfl rfl (fun av x => by kernel_rfl)
def z7q (r : GReq) : Option GReq := if decide (r.kind = 1) = true then (some (GReq.mk r.kind 0 0 0 0 0 r.data (GAsk.mk 0 0 0) 0)) else (if decide (r.kind = 2) = true then (some (GReq.mk r.kind r.who r.case r.task 0 0 [] (GAsk.mk 0 0 0) 0)) else (if decide (r.kind = 3) = true then (some (GReq.mk r.kind 0 r.case r.task r.var r.num [] (GAsk.mk 0 0 0) 0)) else (if decide (r.kind = 4) = true then (some (GReq.mk r.kind 0 r.case 0 0 0 [] (GAsk.mk 0 0 0) 0)) else (if decide (r.kind = 5) = true then (some (GReq.mk r.kind 0 0 0 0 0 r.data r.if_ r.ans)) else (some (GReq.mk r.kind 0 0 0 0 0 [] (GAsk.mk 0 0 0) 0))))))
def ze2 : Con := ⟨132, [.v (.s .req) false], [((.s .req), false)], [], fun x => z7q x.1⟩
def y96 : Fs := ⟨[], [], []⟩
theorem y9k : y96.Ok Try.prog := fs0
theorem ya8 : ze2.Ok Try.prog := fn_ok (k := ze2) (fn := Try.f132) (W := []) (H := []) Try.func132 y9k trivial rfl rfl (fun av x => by kernel_rfl)
def z2e (a : GReq) (b : GReq) : Option Bool := if decide (a.kind = b.kind) = true then (if decide (a.who = b.who) = true then (if decide (a.case = b.case) = true then (if decide (a.task = b.task) = true then (if decide (a.var = b.var) = true then (if decide (a.num = b.num) = true then (if decide ([a.if_.op, a.if_.var, a.if_.k] = [b.if_.op, b.if_.var, b.if_.k]) = true then (some (decide (a.ans = b.ans))) else (some false)) else (some false)) else (some false)) else (some false)) else (some false)) else (some false)) else (some false)
def z1n (a : GReq) (b : GReq) (kx0_0 : Option Bool) : Nat → Int → Option Bool
  | 0, _ => none
  | n0 + 1, s0_0 => if decide (s0_0 < (a.data.length : Int)) = true then ((getI a.data s0_0).bind fun x3 => ((getI b.data s0_0).bind fun x4 => (if decide (x3 = x4) = true then (gd (ok64 (s0_0 + 1)) ((z1n a b kx0_0 n0) (s0_0 + 1))) else (some false)))) else (kx0_0)
def z7s (a : GReq) (b : GReq) : Option Bool := if decide ((a.data.length : Int) = (b.data.length : Int)) = true then (z1n a b (z2e a b) FUEL 0) else (some false)
def z2l : Con := ⟨131, [.v (.s .req) false, .v (.s .req) false], [(.B, true)], [], fun x => z7s x.1 x.2.1⟩
def y98 : Fs := ⟨[], [], []⟩
theorem zy9 : y98.Ok Try.prog := fs0
def zq2 : Tmpl := ⟨[(2, .c (.bx 2 0)), (3, .c (.bx 3 0)), (5, .c .i)], [(2, .boxT (.s .req)), (3, .boxT (.s .req))]⟩
def zj6 : Tmpl := ⟨[(2, .c (.bx 2 0)), (3, .c (.bx 3 0))], [(2, .boxT (.s .req)), (3, .boxT (.s .req))]⟩
def y3z (av : AV) (x : HP z2l.ps) (n : Nat) (v : zq2.den) (K : Ks (CR z2l)) : Option (CR z2l) := z1n v.2.1 v.2.2.1 (zj6.at none (((), (), ()), (v.2.1, v.2.2.1, ())) (K (.exit 0))) n v.1.2.2.1
def zl9 (av : AV) (x : HP z2l.ps) : Hdl (CR z2l) := hnd [] zq2 (y3z av x)
theorem y54 : LP z2l Try.f131 [0] zl9 := lp_ok (W := []) (H := []) (xs := [zj6]) zy9 trivial rfl (fun av x v K => by kernel_rfl) (fun av x n v K => by kernel_rfl)
theorem yb0 : z2l.Ok Try.prog := fn_ok (k := z2l) (fn := Try.f131) (W := []) (H := [zl9]) Try.func131 zy9 ⟨y54, trivial⟩ rfl rfl (fun av x => by kernel_rfl)
def z48 (r : GReq) : Option Bool := (z00 r.kind 1 5).bind fun x1 => (if x1 = true then ((z7q r).bind fun x3 => ((z7s r x3).bind fun x4 => (if x4 = true then ((z00 r.who 0 4).bind fun x6 => (if x6 = true then ((z00 r.case 0 4).bind fun x8 => (if x8 = true then ((z00 r.task 0 5).bind fun x10 => (if x10 = true then ((z00 r.var (-1) 2).bind fun x12 => (if x12 = true then ((z00 r.num (-99) 99).bind fun x14 => (if x14 = true then ((z39 r.if_).bind fun x16 => (if x16 = true then ((z00 r.ans 0 2).bind fun x18 => (if x18 = true then (if decide (r.kind = 1) = true then ((z17 r.data).bind fun x21 => (some (true == x21))) else ((z17 r.data).bind fun x22 => (some ((decide (r.kind = 5)) == x22)))) else (some false))) else (some false))) else (some false))) else (some false))) else (some false))) else (some false))) else (some false))) else (some false)))) else (some false))
def z5f : Con := ⟨89, [.v (.s .req) false], [(.B, true)], [], fun x => z48 x.1⟩
def y4b : Fs := ⟨[z0b, ze2, z2l, z44, z0i], [], []⟩
theorem y4o : y4b.Ok Try.prog := (fsK z0f (fsK ya8 (fsK yb0 (fsK z6r (fsK z3c fs0)))))
theorem zo2 : z5f.Ok Try.prog := fn_ok (k := z5f) (fn := Try.f89) (W := []) (H := []) Try.func89 y4o trivial rfl rfl (fun av x => by kernel_rfl)
def z7o (h : GHouse) (r : GReq) : Option (GHouse × Int) := if decide ((h.runs.length : Int) ≤ r.case) = true then (some (h, 2)) else ((getI h.runs r.case).bind fun x2 => ((getI h.nets x2.net).bind fun x3 => (if decide (r.kind = 2) = true then ((z5j x3 h.people x2.case r.task r.who).bind fun x5 => (if x5.2 = true then ((getI h.runs r.case).bind fun x7 => (some ((GHouse.mk h.nets h.people h.tree (h.runs.set r.case.toNat (GRun.mk x7.net x5.1))), 1))) else (some (h, 3)))) else (if decide (r.kind = 3) = true then ((z6f x3 x2.case r.task r.var r.num).bind fun x9 => (if x9.2 = true then ((getI h.runs r.case).bind fun x11 => (some ((GHouse.mk h.nets h.people h.tree (h.runs.set r.case.toNat (GRun.mk x11.net x9.1))), 1))) else (some (h, 3)))) else ((z6e x3 x2.case).bind fun x12 => (if x12.2 = true then ((getI h.runs r.case).bind fun x14 => (some ((GHouse.mk h.nets h.people h.tree (h.runs.set r.case.toNat (GRun.mk x14.net x12.1))), 1))) else (some (h, 3))))))))
def ze1 : Con := ⟨156, [.v (.s .house) true, .v (.s .req) false], [((.s .house), true), (.I, true)], [], fun x => z7o x.1 x.2.1⟩
def y94 : Fs := ⟨[z81, z99, z98], [], []⟩
theorem y9j : y94.Ok Try.prog := (fsK y58 (fsK y7e (fsK y7d fs0)))
theorem ya6 : ze1.Ok Try.prog := fn_ok (k := ze1) (fn := Try.f156) (W := []) (H := []) Try.func156 y9j trivial rfl rfl (fun av x => by kernel_rfl)
def ze4 (h : GHouse) (r : GReq) : Option (GHouse × Int) := if decide (r.kind = 1) = true then (if decide ((h.runs.length : Int) = 5) = true then (some (h, 4)) else ((z7j h.tree r.data).bind fun x3 => (if decide ((h.nets.length : Int) ≤ x3) = true then ((getI h.nets 0).bind fun x5 => ((z5h x5 r.data).bind fun x6 => (gd (h.runs.length + [(GRun.mk 0 x6)].length ≤ SMALL) (some ((GHouse.mk h.nets h.people h.tree (h.runs ++ [(GRun.mk 0 x6)])), 1))))) else ((getI h.nets x3).bind fun x8 => ((z5h x8 r.data).bind fun x9 => (gd (h.runs.length + [(GRun.mk x3 x9)].length ≤ SMALL) (some ((GHouse.mk h.nets h.people h.tree (h.runs ++ [(GRun.mk x3 x9)])), 1)))))))) else (if decide (r.kind = 5) = true then ((z7i h.tree r.data r.if_ r.ans).bind fun x12 => (if x12.2 = true then (some ((GHouse.mk h.nets h.people x12.1 h.runs), 1)) else (some (h, 3)))) else ((z7o h r).bind fun x14 => (some (x14.1, x14.2))))
def zv7 : Con := ⟨126, [.v (.s .house) true, .v (.s .req) false], [((.s .house), true), (.I, true)], [], fun x => ze4 x.1 x.2.1⟩
def yo2 : Fs := ⟨[zd6, zd5, z2i, ze1], [], []⟩
theorem yo4 : yo2.Ok Try.prog := (fsK ya0 (fsK y9u (fsK y9z (fsK ya6 fs0))))
theorem yp2 : zv7.Ok Try.prog := fn_ok (k := zv7) (fn := Try.f126) (W := []) (H := []) Try.func126 yo4 trivial rfl rfl (fun av x => by kernel_rfl)
def zn0  : Option Bool := some true
def z3k (log : List GReq) (kx0_0 : Option Bool) : Nat → Int → Option Bool
  | 0, _ => none
  | n0 + 1, s0_0 => if decide (s0_0 < (log.length : Int)) = true then ((getI log s0_0).bind fun x3 => ((z48 x3).bind fun x4 => (if x4 = true then (gd (ok64 (s0_0 + 1)) ((z3k log kx0_0 n0) (s0_0 + 1))) else (some false)))) else (kx0_0)
def z8l (log : List GReq) : Option Bool := if decide (150 < (log.length : Int)) = true then (some false) else (z3k log zn0 FUEL 0)
def z35 : Con := ⟨39, [.v (.sl (.s .req)) false], [(.B, true)], [], fun x => z8l x.1⟩
def yf9 : Fs := ⟨[z5f], [], []⟩
theorem y1t : yf9.Ok Try.prog := (fsK zo2 fs0)
def zu1 : Tmpl := ⟨[(0, .c (.s (.s .req))), (3, .c .i)], []⟩
def zq5 : Tmpl := ⟨[], []⟩
def y67 (av : AV) (x : HP z35.ps) (n : Nat) (v : zu1.den) (K : Ks (CR z35)) : Option (CR z35) := z3k v.1.1 (zq5.at none ((), ()) (K (.exit 0))) n v.1.2.1
def zs7 (av : AV) (x : HP z35.ps) : Hdl (CR z35) := hnd [] zu1 (y67 av x)
theorem y73 : LP z35 Try.f39 [0] zs7 := lp_ok (W := []) (H := []) (xs := [zq5]) y1t trivial rfl (fun av x v K => by kernel_rfl) (fun av x n v K => by kernel_rfl)
theorem yj4 : z35.Ok Try.prog := fn_ok (k := z35) (fn := Try.f39) (W := []) (H := [zs7]) Try.func39 y1t ⟨y73, trivial⟩ rfl rfl (fun av x => by kernel_rfl)
def zg5  : Option Int := some (-1)
def z2v (s : List Int) (p : Int → Option Bool) (p0_0 : Int) (kx0_0 : Option Int) : Nat → Int → Option Int
  | 0, _ => none
  | n0 + 1, s0_0 => if decide (s0_0 < p0_0) = true then ((getI s s0_0).bind fun x2 => ((p x2).bind fun x3 => (if x3 = true then (some s0_0) else (gd (ok64 (s0_0 + 1)) ((z2v s p p0_0 kx0_0 n0) (s0_0 + 1)))))) else (kx0_0)
def z7d (s : List Int) (p : Int → Option Bool) : Option Int := z2v s p (s.length : Int) zg5 FUEL 0
def z1x : Con := ⟨111, [.v (.sl .I) false, .fn .I], [(.I, true)], [], fun x => z7d x.1 x.2.1⟩
def y8l : Fs := ⟨[], [], []⟩
theorem zx8 : y8l.Ok Try.prog := fs0
def zo9 : Tmpl := ⟨[(0, .c (.s .I)), (1, .c .fp), (7, .c .i), (8, .c .i)], []⟩
def zi4 : Tmpl := ⟨[], []⟩
def y3m (av : AV) (x : HP z1x.ps) (n : Nat) (v : zo9.den) (K : Ks (CR z1x)) : Option (CR z1x) := z2v v.1.1 x.2.1 v.1.2.2.1 (zi4.at (fpOf z1x.ps x av) ((), ()) (K (.exit 0))) n v.1.2.2.2.1
def zk6 (av : AV) (x : HP z1x.ps) : Hdl (CR z1x) := hnd [] zo9 (y3m av x)
theorem y4r : LP z1x Try.f111 [0] zk6 := lp_ok (W := []) (H := []) (xs := [zi4]) zx8 trivial rfl (fun av x v K => by kernel_rfl) (fun av x n v K => by kernel_rfl)
theorem y9t : z1x.Ok Try.prog := fn_ok (k := z1x) (fn := Try.f111) (W := []) (H := [zk6]) Try.func111 zx8 ⟨y4r, trivial⟩ rfl rfl (fun av x => by kernel_rfl)
def z4p (s : List Int) (p : Int → Option Bool) : Option Bool := (z7d s p).bind fun x1 => (some (decide (0 ≤ x1)))
def z6w : Con := ⟨62, [.v (.sl .I) false, .fn .I], [(.B, true)], [], fun x => z4p x.1 x.2.1⟩
def y2k : Fs := ⟨[z1x], [], []⟩
theorem y2q : y2k.Ok Try.prog := (fsK y9t fs0)
theorem y31 : z6w.Ok Try.prog := fn_ok (k := z6w) (fn := Try.f62) (W := []) (H := []) Try.func62 y2q trivial rfl rfl (fun av x => by kernel_rfl)
def z82  : Option Int := some (-1)
def z1r (s : List GReq) (p : GReq → Option Bool) (p0_0 : Int) (kx0_0 : Option Int) : Nat → Int → Option Int
  | 0, _ => none
  | n0 + 1, s0_0 => if decide (s0_0 < p0_0) = true then ((getI s s0_0).bind fun x2 => ((p x2).bind fun x3 => (if x3 = true then (some s0_0) else (gd (ok64 (s0_0 + 1)) ((z1r s p p0_0 kx0_0 n0) (s0_0 + 1)))))) else (kx0_0)
def z4q (s : List GReq) (p : GReq → Option Bool) : Option Int := z1r s p (s.length : Int) z82 FUEL 0
def z0t : Con := ⟨130, [.v (.sl (.s .req)) false, .fn (.s .req)], [(.I, true)], [], fun x => z4q x.1 x.2.1⟩
def y2l : Fs := ⟨[], [], []⟩
theorem zf1 : y2l.Ok Try.prog := fs0
def z8u : Tmpl := ⟨[(0, .c (.s (.s .req))), (1, .c .fp), (7, .c .i), (8, .c .i)], []⟩
def z8a : Tmpl := ⟨[], []⟩
def zw6 (av : AV) (x : HP z0t.ps) (n : Nat) (v : z8u.den) (K : Ks (CR z0t)) : Option (CR z0t) := z1r v.1.1 x.2.1 v.1.2.2.1 (z8a.at (fpOf z0t.ps x av) ((), ()) (K (.exit 0))) n v.1.2.2.2.1
def z8g (av : AV) (x : HP z0t.ps) : Hdl (CR z0t) := hnd [] z8u (zw6 av x)
theorem zz4 : LP z0t Try.f130 [0] z8g := lp_ok (W := []) (H := []) (xs := [z8a]) zf1 trivial rfl (fun av x v K => by kernel_rfl) (fun av x n v K => by kernel_rfl)
theorem y32 : z0t.Ok Try.prog := fn_ok (k := z0t) (fn := Try.f130) (W := []) (H := [z8g]) Try.func130 zf1 ⟨zz4, trivial⟩ rfl rfl (fun av x => by kernel_rfl)
def z3r (s : List GReq) (p : GReq → Option Bool) : Option Bool := (z4q s p).bind fun x1 => (some (decide (0 ≤ x1)))
def z4y : Con := ⟨87, [.v (.sl (.s .req)) false, .fn (.s .req)], [(.B, true)], [], fun x => z3r x.1 x.2.1⟩
def zv1 : Fs := ⟨[z0t], [], []⟩
theorem zv4 : zv1.Ok Try.prog := (fsK y32 fs0)
theorem zw3 : z4y.Ok Try.prog := fn_ok (k := z4y) (fn := Try.f87) (W := []) (H := []) Try.func87 zv4 trivial rfl rfl (fun av x => by kernel_rfl)
def y20  : Option Bool := some true
def z53 (s1 : List Int) (s2 : List Int) (p0_0 : Int) (kx0_0 : Option Bool) : Nat → Int → Option Bool
  | 0, _ => none
  | n0 + 1, s0_0 => if decide (s0_0 < p0_0) = true then ((getI s1 s0_0).bind fun x3 => ((getI s2 s0_0).bind fun x4 => (if decide (x3 = x4) = true then (gd (ok64 (s0_0 + 1)) ((z53 s1 s2 p0_0 kx0_0 n0) (s0_0 + 1))) else (some false)))) else (kx0_0)
def y00 (s1 : List Int) (s2 : List Int) : Option Bool := if decide ((s1.length : Int) = (s2.length : Int)) = true then (z53 s1 s2 (s1.length : Int) y20 FUEL 0) else (some false)
def z5c : Con := ⟨129, [.v (.sl .I) false, .v (.sl .I) false], [(.B, true)], [], fun x => y00 x.1 x.2.1⟩
def w10 : Fs := ⟨[], [], []⟩
theorem yg9 : w10.Ok Try.prog := fs0
def y61 : Tmpl := ⟨[(0, .c (.s .I)), (1, .c (.s .I)), (12, .c .i), (13, .c .i)], []⟩
def y29 : Tmpl := ⟨[], []⟩
def yn4 (av : AV) (x : HP z5c.ps) (n : Nat) (v : y61.den) (K : Ks (CR z5c)) : Option (CR z5c) := z53 v.1.1 v.1.2.1 v.1.2.2.1 (y29.at none ((), ()) (K (.exit 0))) n v.1.2.2.2.1
def y4q (av : AV) (x : HP z5c.ps) : Hdl (CR z5c) := hnd [] y61 (yn4 av x)
theorem yo7 : LP z5c Try.f129 [0] y4q := lp_ok (W := []) (H := []) (xs := [y29]) yg9 trivial rfl (fun av x v K => by kernel_rfl) (fun av x n v K => by kernel_rfl)
theorem w2a : z5c.Ok Try.prog := fn_ok (k := z5c) (fn := Try.f129) (W := []) (H := [y4q]) Try.func129 yg9 ⟨yo7, trivial⟩ rfl rfl (fun av x => by kernel_rfl)
def z9c (n : Int) : Option Bool := (z3f n).bind fun x1 => (some (!x1))
def z9h : FCon := ⟨63, .I, [], fun z c => z9c z ⟩
def y6e : Fs := ⟨[z4k], [], []⟩
theorem y6t : y6e.Ok Try.prog := (fsK z9f fs0)
theorem y7a : z9h.Ok Try.prog := FCon.ok (fn_ok (k := z9h.con) (fn := Try.f63) (W := []) (H := []) Try.func63 y6t trivial rfl rfl (fun av x => by kernel_rfl))
def z6o (data : List Int) : Option Bool := if decide ((data.length : Int) = 3) = true then ((z4p data (fun z => z9c z )).bind fun x2 => (some (!x2))) else (some false)
def zm1 : Con := ⟨19, [.v (.sl .I) false], [(.B, true)], [], fun x => z6o x.1⟩
def yf3 : Fs := ⟨[z6w], [z9h], []⟩
theorem yh0 : yf3.Ok Try.prog := (fsK y31 (fsF y7a fs0))
theorem yj1 : zm1.Ok Try.prog := fn_ok (k := zm1) (fn := Try.f19) (W := []) (H := []) Try.func19 yh0 trivial rfl rfl (fun av x => by kernel_rfl)
def z37 (r : GReq) (s : GReq) : Option Bool := if decide (r.kind = s.kind) = true then (if decide (r.who = s.who) = true then (if decide (r.case = s.case) = true then (if decide (r.task = s.task) = true then (if decide (r.var = s.var) = true then (if decide (r.num = s.num) = true then (if decide ([r.if_.op, r.if_.var, r.if_.k] = [s.if_.op, s.if_.var, s.if_.k]) = true then (if decide (r.ans = s.ans) = true then ((y00 r.data s.data).bind fun x9 => (some x9)) else (some false)) else (some false)) else (some false)) else (some false)) else (some false)) else (some false)) else (some false)) else (some false)
def z5e : Con := ⟨85, [.v (.s .req) false, .v (.s .req) false], [(.B, true)], [], fun x => z37 x.1 x.2.1⟩
def zx6 : Fs := ⟨[z5c], [], []⟩
theorem zx9 : zx6.Ok Try.prog := (fsK w2a fs0)
theorem y02 : z5e.Ok Try.prog := fn_ok (k := z5e) (fn := Try.f85) (W := []) (H := []) Try.func85 zx9 trivial rfl rfl (fun av x => by kernel_rfl)
def z2r (r : GReq) : Option GReq := if decide (r.kind = 1) = true then (some (GReq.mk r.kind 0 0 0 0 0 r.data (GAsk.mk 0 0 0) 0)) else (if decide (r.kind = 2) = true then (some (GReq.mk r.kind r.who r.case r.task 0 0 [] (GAsk.mk 0 0 0) 0)) else (if decide (r.kind = 3) = true then (some (GReq.mk r.kind 0 r.case r.task r.var r.num [] (GAsk.mk 0 0 0) 0)) else (if decide (r.kind = 4) = true then (some (GReq.mk r.kind 0 r.case 0 0 0 [] (GAsk.mk 0 0 0) 0)) else (some (GReq.mk r.kind 0 0 0 0 0 r.data r.if_ r.ans)))))
def z4z : Con := ⟨86, [.v (.s .req) false], [((.s .req), false)], [], fun x => z2r x.1⟩
def zv2 : Fs := ⟨[], [], []⟩
theorem zv5 : zv2.Ok Try.prog := fs0
theorem zw4 : z4z.Ok Try.prog := fn_ok (k := z4z) (fn := Try.f86) (W := []) (H := []) Try.func86 zv5 trivial rfl rfl (fun av x => by kernel_rfl)
def z46 (r : GReq) : Option Bool := if decide (r.kind = 1) = true then ((z26 r.kind 1 5).bind fun x2 => (if x2 = true then ((z26 r.who 0 4).bind fun x4 => (if x4 = true then ((z26 r.case 0 4).bind fun x6 => (if x6 = true then ((z26 r.task 0 5).bind fun x8 => (if x8 = true then ((z26 r.var (-1) 2).bind fun x10 => (if x10 = true then ((z3f r.num).bind fun x12 => (if x12 = true then ((z6p r.if_).bind fun x14 => (if x14 = true then ((z5g r.ans).bind fun x16 => (if x16 = true then ((z6o r.data).bind fun x18 => (if (x18 == true) = true then ((z2r r).bind fun x20 => ((z37 r x20).bind fun x21 => (some x21))) else (some false))) else (some false))) else (some false))) else (some false))) else (some false))) else (some false))) else (some false))) else (some false))) else (some false))) else ((z26 r.kind 1 5).bind fun x22 => (if x22 = true then ((z26 r.who 0 4).bind fun x24 => (if x24 = true then ((z26 r.case 0 4).bind fun x26 => (if x26 = true then ((z26 r.task 0 5).bind fun x28 => (if x28 = true then ((z26 r.var (-1) 2).bind fun x30 => (if x30 = true then ((z3f r.num).bind fun x32 => (if x32 = true then ((z6p r.if_).bind fun x34 => (if x34 = true then ((z5g r.ans).bind fun x36 => (if x36 = true then ((z6o r.data).bind fun x38 => (if (x38 == (decide (r.kind = 5))) = true then ((z2r r).bind fun x40 => ((z37 r x40).bind fun x41 => (some x41))) else (some false))) else (some false))) else (some false))) else (some false))) else (some false))) else (some false))) else (some false))) else (some false))) else (some false)))
def z5d : Con := ⟨37, [.v (.s .req) false], [(.B, true)], [], fun x => z46 x.1⟩
def y47 : Fs := ⟨[z9z, z4k, zm2, z80, zm1, z4z, z5e], [], []⟩
theorem y4l : y47.Ok Try.prog := (fsK y03 (fsK z9f (fsK yj2 (fsK y56 (fsK yj1 (fsK zw4 (fsK y02 fs0)))))))
theorem zo0 : z5d.Ok Try.prog := fn_ok (k := z5d) (fn := Try.f37) (W := []) (H := []) Try.func37 y4l trivial rfl rfl (fun av x => by kernel_rfl)
def z9d (r : GReq) : Option Bool := (z46 r).bind fun x1 => (some (!x1))
def z9i : FCon := ⟨88, (.s .req), [], fun z c => z9d z ⟩
def y6f : Fs := ⟨[z5d], [], []⟩
theorem y6u : y6f.Ok Try.prog := (fsK zo0 fs0)
theorem y7b : z9i.Ok Try.prog := FCon.ok (fn_ok (k := z9i.con) (fn := Try.f88) (W := []) (H := []) Try.func88 y6u trivial rfl rfl (fun av x => by kernel_rfl))
def z38 (log : List GReq) : Option Bool := if decide ((log.length : Int) ≤ 150) = true then ((z3r log (fun z => z9d z )).bind fun x2 => (some (!x2))) else (some false)
def zm3 : Con := ⟨38, [.v (.sl (.s .req)) false], [(.B, true)], [], fun x => z38 x.1⟩
def yf5 : Fs := ⟨[z4y], [z9i], []⟩
theorem yh2 : yf5.Ok Try.prog := (fsK zw3 (fsF y7b fs0))
theorem yj3 : zm3.Ok Try.prog := fn_ok (k := zm3) (fn := Try.f38) (W := []) (H := []) Try.func38 yh2 trivial rfl rfl (fun av x => by kernel_rfl)
def z6j (code : List Int) : Option GRd := if decide (2000 < (code.length : Int)) = true then (gd ((0 : Int) ≤ 2000 ∧ 2000 ≤ (code.length : Int)) (some (GRd.mk (code.take (2000 : Int).toNat) 0))) else (some (GRd.mk code 0))
def zt4 : BCon := ⟨49, fun x => z6j x⟩
def y6o : Fs := ⟨[], [], []⟩
theorem y6z : y6o.Ok Try.prog := fs0
theorem y7i : zt4.Ok Try.prog := w6t (fn := Try.f49) Try.func49 y6z rfl rfl rfl rfl rfl (fun l => by kernel_rfl)
def z05 (r : GRd) (n : Int) : Option (Int × GRd) := gd (ok64 (r.p + 1)) (if decide (n < 1) = true then (some (0, (GRd.mk r.b (r.p + 1)))) else (if decide ((r.b.length : Int) = 0) = true then (some (0, (GRd.mk r.b (r.p + 1)))) else (gd (ok64 ((r.p + 1) - 1)) (if decide (((r.p + 1) - 1) < (r.b.length : Int)) = true then ((getI r.b ((r.p + 1) - 1)).bind fun x6 => (gd (ok64 x6) (gd ((n : Int) ≠ 0) (some ((Int.tmod x6 n), (GRd.mk r.b (r.p + 1))))))) else (gd (((r.b.length : Int) : Int) ≠ 0) ((getI r.b (Int.tmod ((r.p + 1) - 1) (r.b.length : Int))).bind fun x10 => (gd (ok64 x10) (gd (ok64 (x10 * 131)) (gd (ok64 (((r.p + 1) - 1) * 7)) (gd (ok64 ((((r.p + 1) - 1) * 7) + 3)) (gd (((r.b.length : Int) : Int) ≠ 0) ((getI r.b (Int.tmod ((((r.p + 1) - 1) * 7) + 3) (r.b.length : Int))).bind fun x16 => (gd (ok64 x16) (gd (ok64 (x16 * 1117)) (gd (ok64 ((x10 * 131) + (x16 * 1117))) (gd (ok64 (((r.p + 1) - 1) * 29)) (gd (ok64 (((x10 * 131) + (x16 * 1117)) + (((r.p + 1) - 1) * 29))) (gd (((r.b.length : Int) : Int) ≠ 0 ∧ ok64 (Int.tdiv ((r.p + 1) - 1) (r.b.length : Int))) (gd (ok64 ((Int.tdiv ((r.p + 1) - 1) (r.b.length : Int)) * 53)) (gd (ok64 ((((x10 * 131) + (x16 * 1117)) + (((r.p + 1) - 1) * 29)) + ((Int.tdiv ((r.p + 1) - 1) (r.b.length : Int)) * 53))) (gd ((64 : Int) ≠ 0 ∧ ok64 (Int.tdiv ((((x10 * 131) + (x16 * 1117)) + (((r.p + 1) - 1) * 29)) + ((Int.tdiv ((r.p + 1) - 1) (r.b.length : Int)) * 53)) 64)) (gd ((n : Int) ≠ 0) (some ((Int.tmod (xorI ((((x10 * 131) + (x16 * 1117)) + (((r.p + 1) - 1) * 29)) + ((Int.tdiv ((r.p + 1) - 1) (r.b.length : Int)) * 53)) (Int.tdiv ((((x10 * 131) + (x16 * 1117)) + (((r.p + 1) - 1) * 29)) + ((Int.tdiv ((r.p + 1) - 1) (r.b.length : Int)) * 53)) 64)) n), (GRd.mk r.b (r.p + 1))))))))))))))))))))))))))
def zg4 : Con := ⟨65, [.ptr (.s .rd) false, .v .I false], [(.I, true)], [(0, .ptr (.s .rd) false)], fun x => z05 x.1 x.2.1⟩
def w84 : Fs := ⟨[], [], []⟩
theorem w85 : w84.Ok Try.prog := fs0
theorem zt6 : zg4.Ok Try.prog := fn_ok (k := zg4) (fn := Try.f65) (W := []) (H := []) Try.func65 w85 trivial rfl rfl (fun av x => by kernel_rfl)
def z4g (n : Int) (s0_0 : List Int) (s0_1 : Int) (l0_3 : List Int) : Option ((List Int) × GRd) := (z05 (GRd.mk s0_0 s0_1) n).bind fun x7 => (if decide (x7.1 = 0) = true then ((z05 x7.2 3).bind fun x9 => (if decide (x9.1 = 0) = true then ((z05 x9.2 3).bind fun x11 => ((z05 x11.2 4).bind fun x12 => ((getI [100, (-100), 9223372036854775807, (-9223372036854775808)] x12.1).bind fun x13 => ((getI l0_3 x11.1).bind fun x14 => (some ((l0_3.set x11.1.toNat x13), x12.2)))))) else (if decide (x9.1 = 1) = true then (gd ((0 : Int) ≤ 1 ∧ 1 ≤ (l0_3.length : Int)) (some ((l0_3.drop (1 : Int).toNat), x9.2))) else (gd (l0_3.length + [0].length ≤ SMALL) (some ((l0_3 ++ [0]), x9.2)))))) else (some (l0_3, x7.2)))
def z2p (kx0_0 : List Int → Int → List Int → Option ((List Int) × GRd)) : Nat → List Int → Int → Int → List Int → Option ((List Int) × GRd)
  | 0, _, _, _, _ => none
  | n0 + 1, s0_0, s0_1, s0_2, l0_3 => if decide (s0_2 < 3) = true then ((z05 (GRd.mk s0_0 s0_1) 9).bind fun x2 => ((z05 x2.2 7).bind fun x3 => ((getI [0, 1, (-1), 5, 99, (-99), x2.1] x3.1).bind fun x4 => (gd (l0_3.length + [x4].length ≤ SMALL) (gd (ok64 (s0_2 + 1)) ((z2p kx0_0 n0) x3.2.b x3.2.p (s0_2 + 1) (l0_3 ++ [x4]))))))) else (kx0_0 s0_0 s0_1 l0_3)
def z3g (r : GRd) (n : Int) : Option ((List Int) × GRd) := z2p (z4g n) FUEL r.b r.p 0 ([] : List Int)
def z1a : Con := ⟨101, [.ptr (.s .rd) false, .v .I false], [((.sl .I), false)], [(0, .ptr (.s .rd) false)], fun x => z3g x.1 x.2.1⟩
def y6m : Fs := ⟨[zg4], [], []⟩
theorem zs2 : y6m.Ok Try.prog := (fsK zt6 fs0)
def zi0 : Tmpl := ⟨[(0, .c (.bx 1000000 0)), (1, .c .i), (5, .c (.ref 7)), (6, .c .i)], [(1000000, .box [.s .Y, .i]), (7, .arr .I true)]⟩
def zc8 : Tmpl := ⟨[(0, .c (.bx 1000000 0)), (1, .c .i), (5, .c (.ref 7))], [(1000000, .box [.s .Y, .i]), (7, .arr .I true)]⟩
def y2f (av : AV) (x : HP z1a.ps) (n : Nat) (v : zi0.den) (K : Ks (CR z1a)) : Option (CR z1a) := z2p (fun s0_0 s0_1 l0_3 => zc8.at none (((), v.1.2.1, (), ()), ((s0_0, s0_1, ()), l0_3, ())) (K (.exit 0))) n v.2.1.1 v.2.1.2.1 v.1.2.2.2.1 v.2.2.1
def zg0 (av : AV) (x : HP z1a.ps) : Hdl (CR z1a) := hnd [] zi0 (y2f av x)
theorem y2x : LP z1a Try.f101 [0] zg0 := lp_ok (W := [(12, [.froz 7])]) (H := []) (xs := [zc8]) zs2 trivial rfl (fun av x v K => by kernel_rfl) (fun av x n v K => by kernel_rfl)
theorem zt7 : z1a.Ok Try.prog := fn_ok (k := z1a) (fn := Try.f101) (W := [(12, [.froz 7])]) (H := [zg0]) Try.func101 zs2 ⟨y2x, trivial⟩ rfl rfl (fun av x => by kernel_rfl)
def z7k (r : GRd) (n : Int) : Option (GAsk × GRd) := (z05 r 3).bind fun x1 => (gd (ok64 (1 + x1.1)) ((z05 x1.2 3).bind fun x3 => ((z05 x3.2 9).bind fun x4 => ((z05 x4.2 6).bind fun x5 => ((getI [0, 1, 2, 5, (-1), x4.1] x5.1).bind fun x6 => ((z05 x5.2 6).bind fun x7 => (if decide (x7.1 = 0) = true then ((z05 x7.2 n).bind fun x9 => (if decide (x9.1 = 0) = true then ((z05 x9.2 3).bind fun x11 => (if decide (x11.1 = 0) = true then ((z05 x11.2 3).bind fun x13 => ((getI [0, 4, (-1)] x13.1).bind fun x14 => (some ((GAsk.mk x14 0 0), x13.2)))) else (if decide (x11.1 = 1) = true then ((z05 x11.2 3).bind fun x16 => ((getI [3, (-1), 1] x16.1).bind fun x17 => (some ((GAsk.mk 0 x17 0), x16.2)))) else ((z05 x11.2 3).bind fun x18 => ((getI [99, 100, (-99)] x18.1).bind fun x19 => (some ((GAsk.mk 0 0 x19), x18.2))))))) else (some ((GAsk.mk 0 0 0), x9.2)))) else ((z05 x7.2 n).bind fun x20 => (if decide (x20.1 = 0) = true then ((z05 x20.2 3).bind fun x22 => (if decide (x22.1 = 0) = true then ((z05 x22.2 3).bind fun x24 => ((getI [0, 4, (-1)] x24.1).bind fun x25 => (some ((GAsk.mk x25 x3.1 x6), x24.2)))) else (if decide (x22.1 = 1) = true then ((z05 x22.2 3).bind fun x27 => ((getI [3, (-1), 1] x27.1).bind fun x28 => (some ((GAsk.mk (1 + x1.1) x28 x6), x27.2)))) else ((z05 x22.2 3).bind fun x29 => ((getI [99, 100, (-99)] x29.1).bind fun x30 => (some ((GAsk.mk (1 + x1.1) x3.1 x30), x29.2))))))) else (some ((GAsk.mk (1 + x1.1) x3.1 x6), x20.2)))))))))))
def zd7 : Con := ⟨139, [.ptr (.s .rd) false, .v .I false], [((.s .ask), true)], [(0, .ptr (.s .rd) false)], fun x => z7k x.1 x.2.1⟩
def y8v : Fs := ⟨[zg4], [], []⟩
theorem y9e : y8v.Ok Try.prog := (fsK zt6 fs0)
theorem ya1 : zd7.Ok Try.prog := fn_ok (k := zd7) (fn := Try.f139) (W := []) (H := []) Try.func139 y9e trivial rfl rfl (fun av x => by kernel_rfl)
def za4 (join : Int) (in_ : List Int) (p0_6 : Int) (p0_7 : Int) (p0_8 : Int) (p0_9 : Int) (p0_10 : Int) (s0_0 : List Int) (s0_1 : Int) (l0_3 : List GFlow) : Option (GTask × GRd) := some ((GTask.mk join p0_6 in_ l0_3 [] p0_7 p0_8 p0_9 p0_10), (GRd.mk s0_0 s0_1))
def z0m (split : Int) (to : List Int) (kx0_0 : List Int → Int → List GFlow → Option (GTask × GRd)) : Nat → List Int → Int → Int → List GFlow → Option (GTask × GRd)
  | 0, _, _, _, _ => none
  | n0 + 1, s0_0, s0_1, s0_2, l0_3 => if decide (s0_2 < (to.length : Int)) = true then ((getI to s0_2).bind fun x11 => (if decide (split = 1) = true then (gd (l0_3.length + [(GFlow.mk x11 (GAsk.mk 0 0 0))].length ≤ SMALL) (gd (ok64 (s0_2 + 1)) ((z0m split to kx0_0 n0) s0_0 s0_1 (s0_2 + 1) (l0_3 ++ [(GFlow.mk x11 (GAsk.mk 0 0 0))])))) else (gd (ok64 ((to.length : Int) - 1)) (if decide (s0_2 < ((to.length : Int) - 1)) = true then ((z05 (GRd.mk s0_0 s0_1) 3).bind fun x17 => (gd (ok64 (1 + x17.1)) ((z05 x17.2 3).bind fun x19 => ((z05 x19.2 5).bind fun x20 => (gd (ok64 (x20.1 - 1)) (gd (l0_3.length + [(GFlow.mk x11 (GAsk.mk (1 + x17.1) x19.1 (x20.1 - 1)))].length ≤ SMALL) (gd (ok64 (s0_2 + 1)) ((z0m split to kx0_0 n0) x20.2.b x20.2.p (s0_2 + 1) (l0_3 ++ [(GFlow.mk x11 (GAsk.mk (1 + x17.1) x19.1 (x20.1 - 1)))]))))))))) else (gd (l0_3.length + [(GFlow.mk x11 (GAsk.mk 0 0 0))].length ≤ SMALL) (gd (ok64 (s0_2 + 1)) ((z0m split to kx0_0 n0) s0_0 s0_1 (s0_2 + 1) (l0_3 ++ [(GFlow.mk x11 (GAsk.mk 0 0 0))])))))))) else (kx0_0 s0_0 s0_1 l0_3)
def za5 (join : Int) (in_ : List Int) (p1_6 : Int) (p1_7 : Int) (p1_8 : Int) (p1_9 : Int) (p1_10 : Int) (s1_0 : List Int) (s1_1 : Int) (l1_3 : List GFlow) : Option (GTask × GRd) := some ((GTask.mk join p1_6 in_ l1_3 [] p1_7 p1_8 p1_9 p1_10), (GRd.mk s1_0 s1_1))
def z06 (r : GRd) (join : Int) (split : Int) (in_ : List Int) (to : List Int) (tasks : Int) : Option (GTask × GRd) := (z05 r 3).bind fun x1 => (gd (ok64 (1 + x1.1)) ((z05 x1.2 3).bind fun x3 => (gd (ok64 (1 + x3.1)) ((z05 x3.2 (1 + x3.1)).bind fun x5 => (gd (ok64 (1 + x5.1)) ((z05 x5.2 3).bind fun x7 => (if decide (x7.1 = 0) = true then ((z05 x7.2 tasks).bind fun x9 => (z0m split to (za4 join in_ split (1 + x1.1) x9.1 (1 + x3.1) (1 + x5.1)) FUEL x9.2.b x9.2.p 0 ([] : List GFlow))) else (z0m split to (za5 join in_ split (1 + x1.1) (-1) (1 + x3.1) (1 + x5.1)) FUEL x7.2.b x7.2.p 0 ([] : List GFlow)))))))))
def z1z : Con := ⟨160, [.ptr (.s .rd) false, .v .I false, .v .I false, .v (.sl .I) true, .v (.sl .I) true, .v .I false], [((.s .task), true)], [(0, .ptr (.s .rd) false)], fun x => z06 x.1 x.2.1 x.2.2.1 x.2.2.2.1 x.2.2.2.2.1 x.2.2.2.2.2.1⟩
def y6p : Fs := ⟨[zg4], [], []⟩
theorem zs3 : y6p.Ok Try.prog := (fsK zt6 fs0)
def zi1 : Tmpl := ⟨[(0, .c (.bx 1000000 0)), (2, .c .i), (4, .c (.ref 1480000)), (12, .c (.bx 12 0)), (13, .c (.bx 13 0)), (14, .c .i)], [(1000000, .box [.s .Y, .i]), (12, .box [.i, .i, .nl, .nl, .nl, .i, .i, .i, .i]), (13, .box [.i, .i, .ref 1360000, .ref 511303, .nl, .i, .i, .i, .i]), (1480000, .arr .I true), (1360000, .arr .I true), (511303, .arr (.s .flow) true)]⟩
def zc9 : Tmpl := ⟨[(12, .c (.bx 12 0)), (13, .c (.bx 13 0))], [(12, .box [.i, .i, .nl, .nl, .nl, .i, .i, .i, .i]), (13, .box [.i, .i, .ref 1360000, .ref 511303, .nl, .i, .i, .i, .i]), (1000000, .box [.s .Y, .i]), (1360000, .arr .I true), (511303, .arr (.s .flow) true)]⟩
def y2g (av : AV) (x : HP z1z.ps) (n : Nat) (v : zi1.den) (K : Ks (CR z1z)) : Option (CR z1z) := z0m v.1.2.1 v.2.2.2.2.1 (fun s0_0 s0_1 l0_3 => zc9.at none (((), (), ()), ((v.2.2.1.1, v.2.2.1.2.1, (), (), (), v.2.2.1.2.2.2.2.2.1, v.2.2.1.2.2.2.2.2.2.1, v.2.2.1.2.2.2.2.2.2.2.1, v.2.2.1.2.2.2.2.2.2.2.2.1, ()), (v.2.2.2.1.1, v.2.2.2.1.2.1, (), (), (), v.2.2.2.1.2.2.2.2.2.1, v.2.2.2.1.2.2.2.2.2.2.1, v.2.2.2.1.2.2.2.2.2.2.2.1, v.2.2.2.1.2.2.2.2.2.2.2.2.1, ()), (s0_0, s0_1, ()), v.2.2.2.2.2.1, l0_3, ())) (K (.exit 0))) n v.2.1.1 v.2.1.2.1 v.1.2.2.2.2.2.1 v.2.2.2.2.2.2.1
def zg1 (av : AV) (x : HP z1z.ps) : Hdl (CR z1z) := hnd [.b 13 3 511303 (.s .flow)] zi1 (y2g av x)
theorem y2y : LP z1z Try.f160 [0] zg1 := lp_ok (W := []) (H := []) (xs := [zc9]) zs3 trivial rfl (fun av x v K => by kernel_rfl) (fun av x n v K => by kernel_rfl)
theorem y7j : z1z.Ok Try.prog := fn_ok (k := z1z) (fn := Try.f160) (W := []) (H := [zg1]) Try.func160 zs3 ⟨y2y, trivial⟩ rfl rfl (fun av x => by kernel_rfl)
def z3a (p0_2 : Int) (s0_0 : List Int) (s0_1 : Int) (l0_3 : List GTask) : Option (GNet × GRd) := some ((GNet.mk p0_2 l0_3), (GRd.mk s0_0 s0_1))
def z0o (p0_0 : Int) (p0_2 : Int) (kx0_0 : List Int → Int → List GTask → Option (GNet × GRd)) : Nat → List Int → Int → Int → List GTask → Option (GNet × GRd)
  | 0, _, _, _, _ => none
  | n0 + 1, s0_0, s0_1, s0_2, l0_3 => if decide (s0_2 < p0_0) = true then (gd (ok64 (p0_2 - 2)) ((z05 (GRd.mk s0_0 s0_1) (p0_2 - 2)).bind fun x39 => (gd (ok64 (2 + x39.1)) ((z05 x39.2 4).bind fun x41 => ((getI [0, 2, 2, (2 + x39.1)] x41.1).bind fun x42 => (gd (ok64 (p0_2 - 1)) ((z05 x41.2 (p0_2 - 1)).bind fun x44 => (gd (ok64 (1 + x44.1)) ((z05 x44.2 2).bind fun x46 => (if decide (x46.1 = 0) = true then ((getI [(1 + x44.1)] 0).bind fun x48 => (if decide (x48 = 2) = true then ((z05 x46.2 3).bind fun x50 => (gd (ok64 (1 + x50.1)) ((z05 x50.2 3).bind fun x52 => (gd (ok64 (1 + x52.1)) ((z06 x52.2 (1 + x50.1) (1 + x52.1) [x42] [(1 + x44.1)] p0_0).bind fun x54 => (gd (l0_3.length + [x54.1].length ≤ SMALL) (gd (ok64 (s0_2 + 1)) ((z0o p0_0 p0_2 kx0_0 n0) x54.2.b x54.2.p (s0_2 + 1) (l0_3 ++ [x54.1]))))))))) else (gd ([(1 + x44.1)].length + [2].length ≤ SMALL) ((z05 x46.2 3).bind fun x58 => (gd (ok64 (1 + x58.1)) ((z05 x58.2 3).bind fun x60 => (gd (ok64 (1 + x60.1)) ((z06 x60.2 (1 + x58.1) (1 + x60.1) [x42] ([(1 + x44.1)] ++ [2]) p0_0).bind fun x62 => (gd (l0_3.length + [x62.1].length ≤ SMALL) (gd (ok64 (s0_2 + 1)) ((z0o p0_0 p0_2 kx0_0 n0) x62.2.b x62.2.p (s0_2 + 1) (l0_3 ++ [x62.1])))))))))))) else ((z05 x46.2 3).bind fun x65 => (gd (ok64 (1 + x65.1)) ((z05 x65.2 3).bind fun x67 => (gd (ok64 (1 + x67.1)) ((z06 x67.2 (1 + x65.1) (1 + x67.1) [x42] [(1 + x44.1)] p0_0).bind fun x69 => (gd (l0_3.length + [x69.1].length ≤ SMALL) (gd (ok64 (s0_2 + 1)) ((z0o p0_0 p0_2 kx0_0 n0) x69.2.b x69.2.p (s0_2 + 1) (l0_3 ++ [x69.1]))))))))))))))))))) else (kx0_0 s0_0 s0_1 l0_3)
def z5q (r : GRd) : Option (GNet × GRd) := (z05 r 3).bind fun x1 => (gd (ok64 (1 + x1.1)) ((z05 x1.2 3).bind fun x3 => (gd (ok64 (1 + x3.1)) ((z05 x3.2 4).bind fun x5 => ((getI [(1 + x1.1), (1 + x1.1), (1 + x1.1), (1 + x3.1)] x5.1).bind fun x6 => ((z05 x5.2 6).bind fun x7 => (if decide (x7.1 = 0) = true then ((z06 x7.2 (1 + x1.1) 1 [0] [2] 2).bind fun x9 => ((z06 x9.2 x6 2 [2] [1] 2).bind fun x10 => (some ((GNet.mk 3 [x9.1, x10.1]), x10.2)))) else (if decide (x7.1 = 1) = true then ((z06 x7.2 1 (1 + x1.1) [0] [2, 3] 4).bind fun x12 => ((z06 x12.2 1 1 [2] [4] 4).bind fun x13 => ((z06 x13.2 2 1 [3] [5] 4).bind fun x14 => ((z06 x14.2 x6 2 [4, 5] [1] 4).bind fun x15 => (some ((GNet.mk 6 [x12.1, x13.1, x14.1, x15.1]), x15.2)))))) else (if decide (x7.1 = 2) = true then ((z06 x7.2 2 1 [0] [2] 3).bind fun x17 => ((z05 x17.2 2).bind fun x18 => (gd (ok64 (2 + x18.1)) ((z06 x18.2 1 2 [2] [(2 + x18.1), 1] 3).bind fun x20 => ((z06 x20.2 2 1 [3] [2] 3).bind fun x21 => (some ((GNet.mk 4 [x17.1, x20.1, x21.1]), x21.2))))))) else (if decide (x7.1 = 3) = true then ((z06 x7.2 1 (1 + x1.1) [0] [2, 3, 4] 4).bind fun x23 => ((z06 x23.2 1 1 [2] [5] 4).bind fun x24 => ((z06 x24.2 x6 1 [3, 4] [6] 4).bind fun x25 => ((z05 x25.2 3).bind fun x26 => (gd (ok64 (1 + x26.1)) ((z06 x26.2 (1 + x26.1) 1 [5, 6] [1] 4).bind fun x28 => (some ((GNet.mk 7 [x23.1, x24.1, x25.1, x28.1]), x28.2)))))))) else (if decide (x7.1 = 4) = true then ((z06 x7.2 1 1 [0] [2, 3] 3).bind fun x30 => ((z06 x30.2 1 2 [2] [4, 1] 3).bind fun x31 => ((z06 x31.2 (1 + x1.1) 1 [3, 4] [1] 3).bind fun x32 => (some ((GNet.mk 5 [x30.1, x31.1, x32.1]), x32.2))))) else ((z05 x7.2 4).bind fun x33 => (gd (ok64 (3 + x33.1)) ((z05 x33.2 4).bind fun x35 => (gd (ok64 (1 + x35.1)) (z0o (1 + x35.1) (3 + x33.1) (z3a (3 + x33.1)) FUEL x35.2.b x35.2.p 0 ([] : List GTask)))))))))))))))))
def z1d : Con := ⟨138, [.ptr (.s .rd) false], [((.s .net), true)], [(0, .ptr (.s .rd) false)], fun x => z5q x.1⟩
def y4d : Fs := ⟨[zg4, z1z], [], []⟩
theorem zk4 : y4d.Ok Try.prog := (fsK zt6 (fsK y7j fs0))
def zb8 : Tmpl := ⟨[(0, .c (.bx 1000000 0)), (2, .c (.bx 2 0)), (5, .c (.bx 5 0)), (6, .c .i), (7, .c .i)], [(1000000, .box [.s .Y, .i]), (2, .box [.i, .nl]), (5, .box [.i, .ref 510501]), (510501, .arr (.s .task) true)]⟩
def z91 : Tmpl := ⟨[(2, .c (.bx 2 0)), (5, .c (.bx 5 0))], [(2, .box [.i, .nl]), (5, .box [.i, .ref 510501]), (1000000, .box [.s .Y, .i]), (510501, .arr (.s .task) true)]⟩
def y0t (av : AV) (x : HP z1d.ps) (n : Nat) (v : zb8.den) (K : Ks (CR z1d)) : Option (CR z1d) := z0o v.1.2.2.2.1 v.2.2.2.1.1 (fun s0_0 s0_1 l0_3 => z91.at none (((), (), ()), ((v.2.2.1.1, (), ()), (v.2.2.2.1.1, (), ()), (s0_0, s0_1, ()), l0_3, ())) (K (.exit 1))) n v.2.1.1 v.2.1.2.1 v.1.2.2.2.2.1 v.2.2.2.2.1
def z9t (av : AV) (x : HP z1d.ps) : Hdl (CR z1d) := hnd [.b 5 1 510501 (.s .task)] zb8 (y0t av x)
theorem y19 : LP z1d Try.f138 [0] z9t := lp_ok (W := []) (H := []) (xs := [z91]) zk4 trivial rfl (fun av x v K => by kernel_rfl) (fun av x n v K => by kernel_rfl)
theorem y5a : z1d.Ok Try.prog := fn_ok (k := z1d) (fn := Try.f138) (W := []) (H := [z9t]) Try.func138 zk4 ⟨y19, trivial⟩ rfl rfl (fun av x => by kernel_rfl)
def z5p (r : GRd) : Option (GNet × GRd) := (z5q r).bind fun x1 => ((z05 x1.2 3).bind fun x2 => (if decide (x2.1 = 0) = true then (if decide (3 < x1.1.places) = true then (if decide (0 < (x1.1.tasks.length : Int)) = true then ((z05 x2.2 (x1.1.tasks.length : Int)).bind fun x6 => ((getI x1.1.tasks x6.1).bind fun x7 => ((z1l (GNet.mk x1.1.places (x1.1.tasks.set x6.1.toNat (GTask.mk x7.join x7.split x7.in_ x7.out [2, 3] x7.role x7.apart x7.all x7.need)))).bind fun x8 => (if x8 = true then (some ((GNet.mk x1.1.places (x1.1.tasks.set x6.1.toNat (GTask.mk x7.join x7.split x7.in_ x7.out [2, 3] x7.role x7.apart x7.all x7.need))), x6.2)) else (some ((GNet.mk 2 [(GTask.mk 1 1 [0] [(GFlow.mk 1 (GAsk.mk 0 0 0))] [] 1 (-1) 1 1)]), x6.2)))))) else ((z1l x1.1).bind fun x10 => (if x10 = true then (some (x1.1, x2.2)) else (some ((GNet.mk 2 [(GTask.mk 1 1 [0] [(GFlow.mk 1 (GAsk.mk 0 0 0))] [] 1 (-1) 1 1)]), x2.2))))) else ((z1l x1.1).bind fun x12 => (if x12 = true then (some (x1.1, x2.2)) else (some ((GNet.mk 2 [(GTask.mk 1 1 [0] [(GFlow.mk 1 (GAsk.mk 0 0 0))] [] 1 (-1) 1 1)]), x2.2))))) else ((z1l x1.1).bind fun x14 => (if x14 = true then (some (x1.1, x2.2)) else (some ((GNet.mk 2 [(GTask.mk 1 1 [0] [(GFlow.mk 1 (GAsk.mk 0 0 0))] [] 1 (-1) 1 1)]), x2.2))))))
def zd8 : Con := ⟨98, [.ptr (.s .rd) false], [((.s .net), true)], [(0, .ptr (.s .rd) false)], fun x => z5p x.1⟩
def y8w : Fs := ⟨[z1d, zg4, z16], [], []⟩
theorem y9f : y8w.Ok Try.prog := (fsK y5a (fsK zt6 (fsK z6s fs0)))
theorem ya2 : zd8.Ok Try.prog := fn_ok (k := zd8) (fn := Try.f98) (W := []) (H := []) Try.func98 y9f trivial rfl rfl (fun av x => by kernel_rfl)
end
end Go.Am
