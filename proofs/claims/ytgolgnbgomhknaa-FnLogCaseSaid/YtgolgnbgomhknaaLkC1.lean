/- Mirrors and contracts, printed. Own work. -/
import Derived.Test.YtgolgnbgomhknaaLkB5
set_option maxRecDepth 100000
set_option maxHeartbeats 4000000
set_option linter.unusedVariables false
set_option linter.unusedSimpArgs false
namespace Go.Am
noncomputable section
open Go Go.Proofs
def z01 (n : Int) (low : Int) (high : Int) : Option Bool := if decide (low ≤ n) = true then (some (decide (n ≤ high))) else (some false)
def z0d : Con := ⟨56, [.v .I false, .v .I false, .v .I false], [(.B, true)], [], fun x => z01 x.1 x.2.1 x.2.2.1⟩
def w06 : Fs := ⟨[], [], []⟩
theorem w09 : w06.Ok Try.prog := fs0
theorem z0i : z0d.Ok Try.prog := fn_ok (k := z0d) (fn := Try.f56) (W := []) (H := []) Try.func56 w09 trivial rfl rfl (fun av x => by kernel_rfl)
def zu4  : Option Bool := some true
def z44 (data : List Int) (kx0_0 : Option Bool) : Nat → Int → Option Bool
  | 0, _ => none
  | n0 + 1, s0_0 => if decide (s0_0 < (data.length : Int)) = true then ((getI data s0_0).bind fun x3 => ((z01 x3 (-99) 99).bind fun x4 => (if x4 = true then (gd (ok64 (s0_0 + 1)) ((z44 data kx0_0 n0) (s0_0 + 1))) else (some false)))) else (kx0_0)
def z1f (data : List Int) : Option Bool := if decide ((data.length : Int) = 3) = true then (z44 data zu4 FUEL 0) else (some false)
def z0p : Con := ⟨55, [.v (.sl .I) false], [(.B, true)], [], fun x => z1f x.1⟩
def yr9 : Fs := ⟨[z0d], [], []⟩
theorem y4e : yr9.Ok Try.prog := (fsK z0i fs0)
def y0r : Tmpl := ⟨[(0, .c (.s .I)), (3, .c .i)], []⟩
def zy1 : Tmpl := ⟨[], []⟩
def y90 (av : AV) (x : HP z0p.ps) (n : Nat) (v : y0r.den) (K : Ks (CR z0p)) : Option (CR z0p) := z44 v.1.1 (zy1.at none ((), ()) (K (.exit 0))) n v.1.2.1
def y0d (av : AV) (x : HP z0p.ps) : Hdl (CR z0p) := hnd [] y0r (y90 av x)
theorem ya2 : LP z0p Try.f55 [0] y0d := lp_ok (W := []) (H := []) (xs := [zy1]) y4e trivial rfl (fun av x v K => by kernel_rfl) (fun av x n v K => by kernel_rfl)
theorem z3x : z0p.Ok Try.prog := fn_ok (k := z0p) (fn := Try.f55) (W := []) (H := [y0d]) Try.func55 y4e ⟨ya2, trivial⟩ rfl rfl (fun av x => by kernel_rfl)
def z4e (data : List Int) (k : Int) (n : Int) : Option (List Int) := (z1f data).bind fun x1 => (if x1 = true then ((z01 k 0 2).bind fun x3 => (if x3 = true then ((z01 n (-99) 99).bind fun x5 => (if x5 = true then (gd (([] : List Int).length + data.length ≤ SMALL) ((getI (([] : List Int) ++ data) k).bind fun x8 => (some ((([] : List Int) ++ data).set k.toNat n)))) else (gd (([] : List Int).length + data.length ≤ SMALL) (some (([] : List Int) ++ data))))) else (gd (([] : List Int).length + data.length ≤ SMALL) (some (([] : List Int) ++ data))))) else (gd (([] : List Int).length + data.length ≤ SMALL) (some (([] : List Int) ++ data))))
def z8h : Con := ⟨70, [.v (.sl .I) false, .v .I false, .v .I false], [((.sl .I), true)], [], fun x => z4e x.1 x.2.1 x.2.2.1⟩
def yg5 : Fs := ⟨[z0p, z0d], [], []⟩
theorem yj2 : yg5.Ok Try.prog := (fsK z3x (fsK z0i fs0))
theorem y2g : z8h.Ok Try.prog := fn_ok (k := z8h) (fn := Try.f70) (W := []) (H := []) Try.func70 yj2 trivial rfl rfl (fun av x => by kernel_rfl)
def z3s (e : GAsk) : Option Bool := if decide (e.op = 0) = true then (some (decide ([e.op, e.var, e.k] = [0, 0, 0]))) else ((z01 e.op 1 3).bind fun x2 => (if x2 = true then ((z01 e.var 0 2).bind fun x4 => (if x4 = true then ((z01 e.k (-99) 99).bind fun x6 => (some x6)) else (some false))) else (some false)))
def z4x : Con := ⟨133, [.v (.s .ask) false], [(.B, true)], [], fun x => z3s x.1⟩
def ys0 : Fs := ⟨[z0d], [], []⟩
theorem yt3 : ys0.Ok Try.prog := (fsK z0i fs0)
theorem z7r : z4x.Ok Try.prog := fn_ok (k := z4x) (fn := Try.f133) (W := []) (H := []) Try.func133 yt3 trivial rfl rfl (fun av x => by kernel_rfl)
def z0q (e : GAsk) (data : List Int) : Option Bool := (z3s e).bind fun x1 => (if x1 = true then ((z1f data).bind fun x3 => (if x3 = true then (if decide (e.op = 1) = true then ((getI data e.var).bind fun x6 => (some (decide (x6 < e.k)))) else (if decide (e.op = 2) = true then ((getI data e.var).bind fun x8 => (some (decide (x8 = e.k)))) else (if decide (e.op = 3) = true then ((getI data e.var).bind fun x10 => (some (decide (e.k < x10)))) else (some true)))) else (some false))) else (some false))
def z2n : Con := ⟨136, [.v (.s .ask) false, .v (.sl .I) false], [(.B, true)], [], fun x => z0q x.1 x.2.1⟩
def y78 : Fs := ⟨[z4x, z0p], [], []⟩
theorem y7l : y78.Ok Try.prog := (fsK z7r (fsK z3x fs0))
theorem z4b : z2n.Ok Try.prog := fn_ok (k := z2n) (fn := Try.f136) (W := []) (H := []) Try.func136 y7l trivial rfl rfl (fun av x => by kernel_rfl)
def zf0 (n : Int) (low : Int) (high : Int) : Option Bool := if decide (low ≤ n) = true then (some (decide (n ≤ high))) else (some false)
def y28 : Con := ⟨67, [.v .I false, .v .I false, .v .I false], [(.B, true)], [], fun x => zf0 x.1 x.2.1 x.2.2.1⟩
def w4b : Fs := ⟨[], [], []⟩
theorem w4m : w4b.Ok Try.prog := fs0
theorem yv3 : y28.Ok Try.prog := fn_ok (k := y28) (fn := Try.f67) (W := []) (H := []) Try.func67 w4m trivial rfl rfl (fun av x => by kernel_rfl)
def z7c (n : Int) : Option Bool := (zf0 n (-99) 99).bind fun x1 => (some x1)
def zc1 : Con := ⟨64, [.v .I false], [(.B, true)], [], fun x => z7c x.1⟩
def y9a : Fs := ⟨[y28], [], []⟩
theorem y9u : y9a.Ok Try.prog := (fsK yv3 fs0)
theorem yb2 : zc1.Ok Try.prog := fn_ok (k := zc1) (fn := Try.f64) (W := []) (H := []) Try.func64 y9u trivial rfl rfl (fun av x => by kernel_rfl)
def z7z (list : List Int) : Option (List Int) := gd (([] : List Int).length + list.length ≤ SMALL) (some (([] : List Int) ++ list))
def z7y : Con := ⟨72, [.v (.sl .I) false], [((.sl .I), true)], [], fun x => z7z x.1⟩
def y5c : Fs := ⟨[], [], []⟩
theorem y5i : y5c.Ok Try.prog := fs0
theorem y61 : z7y.Ok Try.prog := fn_ok (k := z7y) (fn := Try.f72) (W := []) (H := []) Try.func72 y5i trivial rfl rfl (fun av x => by kernel_rfl)
def zf9  : Option Bool := some true
def z25 (list : List Int) (low : Int) (high : Int) (kx0_0 : Option Bool) : Nat → Int → Option Bool
  | 0, _ => none
  | n0 + 1, s0_0 => if decide (s0_0 < (list.length : Int)) = true then ((getI list s0_0).bind fun x4 => ((z01 x4 low high).bind fun x5 => (if x5 = true then (if decide (0 < s0_0) = true then (gd (ok64 (s0_0 - 1)) ((getI list (s0_0 - 1)).bind fun x9 => ((getI list s0_0).bind fun x10 => (if decide (x10 ≤ x9) = true then (some false) else (gd (ok64 (s0_0 + 1)) ((z25 list low high kx0_0 n0) (s0_0 + 1))))))) else (gd (ok64 (s0_0 + 1)) ((z25 list low high kx0_0 n0) (s0_0 + 1)))) else (some false)))) else (kx0_0)
def z5k (list : List Int) (least : Int) (most : Int) (low : Int) (high : Int) : Option Bool := (z01 (list.length : Int) least most).bind fun x1 => (if x1 = true then (z25 list low high zf9 FUEL 0) else (some false))
def z2j : Con := ⟨161, [.v (.sl .I) false, .v .I false, .v .I false, .v .I false, .v .I false], [(.B, true)], [], fun x => z5k x.1 x.2.1 x.2.2.1 x.2.2.2.1 x.2.2.2.2.1⟩
def y9s : Fs := ⟨[z0d], [], []⟩
theorem y0b : y9s.Ok Try.prog := (fsK z0i fs0)
def zp2 : Tmpl := ⟨[(0, .c (.s .I)), (3, .c .i), (4, .c .i), (11, .c .i)], []⟩
def zi8 : Tmpl := ⟨[], []⟩
def y59 (av : AV) (x : HP z2j.ps) (n : Nat) (v : zp2.den) (K : Ks (CR z2j)) : Option (CR z2j) := z25 v.1.1 v.1.2.1 v.1.2.2.1 (zi8.at none ((), ()) (K (.exit 0))) n v.1.2.2.2.1
def zm5 (av : AV) (x : HP z2j.ps) : Hdl (CR z2j) := hnd [] zp2 (y59 av x)
theorem y5z : LP z2j Try.f161 [0] zm5 := lp_ok (W := []) (H := []) (xs := [zi8]) y0b trivial rfl (fun av x v K => by kernel_rfl) (fun av x n v K => by kernel_rfl)
theorem yc6 : z2j.Ok Try.prog := fn_ok (k := z2j) (fn := Try.f161) (W := []) (H := [zm5]) Try.func161 y0b ⟨y5z, trivial⟩ rfl rfl (fun av x => by kernel_rfl)
def zv4  : Option Bool := some false
def z4a (list : List Int) (n : Int) (kx0_0 : Option Bool) : Nat → Int → Option Bool
  | 0, _ => none
  | n0 + 1, s0_0 => if decide (s0_0 < (list.length : Int)) = true then ((getI list s0_0).bind fun x2 => (if decide (x2 = n) = true then (some true) else (gd (ok64 (s0_0 + 1)) ((z4a list n kx0_0 n0) (s0_0 + 1))))) else (kx0_0)
def z61 (list : List Int) (n : Int) : Option Bool := z4a list n zv4 FUEL 0
def z2p : Con := ⟨146, [.v (.sl .I) false, .v .I false], [(.B, true)], [], fun x => z61 x.1 x.2.1⟩
def ys7 : Fs := ⟨[], [], []⟩
theorem y4k : ys7.Ok Try.prog := fs0
def y0y : Tmpl := ⟨[(0, .c (.s .I)), (1, .c .i), (5, .c .i)], []⟩
def zy7 : Tmpl := ⟨[], []⟩
def y97 (av : AV) (x : HP z2p.ps) (n : Nat) (v : y0y.den) (K : Ks (CR z2p)) : Option (CR z2p) := z4a v.1.1 v.1.2.1 (zy7.at none ((), ()) (K (.exit 0))) n v.1.2.2.1
def y0k (av : AV) (x : HP z2p.ps) : Hdl (CR z2p) := hnd [] y0y (y97 av x)
theorem ya9 : LP z2p Try.f146 [0] y0k := lp_ok (W := []) (H := []) (xs := [zy7]) y4k trivial rfl (fun av x v K => by kernel_rfl) (fun av x n v K => by kernel_rfl)
theorem zv9 : z2p.Ok Try.prog := fn_ok (k := z2p) (fn := Try.f146) (W := []) (H := [y0k]) Try.func146 y4k ⟨ya9, trivial⟩ rfl rfl (fun av x => by kernel_rfl)
def zf6 (s0_0 : Int) (bk0 : Int → Option Bool) : Option Bool := gd (ok64 (s0_0 + 1)) (bk0 (s0_0 + 1))
def z1g (t : GTask) (s0_0 : Int) (x4 : GFlow) (kx1_0 : Option Bool) : Nat → Int → Option Bool
  | 0, _ => none
  | n1 + 1, s1_0 => if decide (s1_0 < s0_0) = true then ((getI t.out s1_0).bind fun x14 => (if decide (x14.to = x4.to) = true then (some false) else (gd (ok64 (s1_0 + 1)) ((z1g t s0_0 x4 kx1_0 n1) (s1_0 + 1))))) else (kx1_0)
def zf7 (s0_0 : Int) (bk0 : Int → Option Bool) : Option Bool := gd (ok64 (s0_0 + 1)) (bk0 (s0_0 + 1))
def zf8  : Option Bool := some true
def z24 (t : GTask) (places : Int) (kx0_0 : Option Bool) : Nat → Int → Option Bool
  | 0, _ => none
  | n0 + 1, s0_0 => if decide (s0_0 < (t.out.length : Int)) = true then ((getI t.out s0_0).bind fun x4 => (gd (ok64 ((t.out.length : Int) - 1)) (if decide (s0_0 = ((t.out.length : Int) - 1)) = true then (gd (ok64 (places - 1)) ((z01 x4.to 1 (places - 1)).bind fun x8 => (if x8 = true then ((z3s x4.if_).bind fun x10 => (if x10 = true then (if (true == (decide (x4.if_.op = 0))) = true then (z1g t s0_0 x4 (zf6 s0_0 (z24 t places kx0_0 n0)) FUEL 0) else (some false)) else (some false))) else (some false)))) else (gd (ok64 (places - 1)) ((z01 x4.to 1 (places - 1)).bind fun x19 => (if x19 = true then ((z3s x4.if_).bind fun x21 => (if x21 = true then (if ((decide (t.split = 1)) == (decide (x4.if_.op = 0))) = true then (z1g t s0_0 x4 (zf7 s0_0 (z24 t places kx0_0 n0)) FUEL 0) else (some false)) else (some false))) else (some false))))))) else (kx0_0)
def z7o (t : GTask) (places : Int) : Option Bool := (z01 (t.out.length : Int) 1 3).bind fun x1 => (if x1 = true then (z24 t places zf8 FUEL 0) else (some false))
def z0h : Con := ⟨162, [.v (.s .task) false, .v .I false], [(.B, true)], [], fun x => z7o x.1 x.2.1⟩
def y9r : Fs := ⟨[z0d, z4x], [], []⟩
theorem zc0 : y9r.Ok Try.prog := (fsK z0i (fsK z7r fs0))
def za7 : Tmpl := ⟨[(1, .c .i), (2, .c (.bx 2 0)), (5, .c .i), (6, .c (.bx 6 0)), (8, .c .i)], [(2, .boxT (.s .task)), (6, .boxT (.s .flow))]⟩
def z9l : Tmpl := ⟨[(1, .c .i), (2, .c (.bx 2 0)), (5, .c .i)], [(2, .boxT (.s .task))]⟩
def y1g (av : AV) (x : HP z0h.ps) (n : Nat) (v : za7.den) (K : Ks (CR z0h)) : Option (CR z0h) := z1g v.2.1 v.1.2.2.1 v.2.2.1 (z9l.at none ((v.1.1, (), v.1.2.2.1, ()), (v.2.1, ())) (K (.exit 2))) n v.1.2.2.2.2.1
def z9s (av : AV) (x : HP z0h.ps) : Hdl (CR z0h) := hnd [] za7 (y1g av x)
theorem y2b : LP z0h Try.f162 [0, 0] z9s := lp_ok (W := []) (H := []) (xs := [z9l]) zc0 trivial rfl (fun av x v K => by kernel_rfl) (fun av x n v K => by kernel_rfl)
def zp1 : Tmpl := ⟨[(1, .c .i), (2, .c (.bx 2 0)), (5, .c .i)], [(2, .boxT (.s .task))]⟩
def zi7 : Tmpl := ⟨[], []⟩
def y58 (av : AV) (x : HP z0h.ps) (n : Nat) (v : zp1.den) (K : Ks (CR z0h)) : Option (CR z0h) := z24 v.2.1 v.1.1 (zi7.at none ((), ()) (K (.exit 0))) n v.1.2.2.1
def zm4 (av : AV) (x : HP z0h.ps) : Hdl (CR z0h) := hnd [] zp1 (y58 av x)
theorem y5y : LP z0h Try.f162 [0] zm4 := lp_ok (W := []) (H := [z9s]) (xs := [zi7]) zc0 ⟨y2b, trivial⟩ rfl (fun av x v K => by kernel_rfl) (fun av x n v K => by kernel_rfl)
theorem yc5 : z0h.Ok Try.prog := fn_ok (k := z0h) (fn := Try.f162) (W := []) (H := [zm4]) Try.func162 zc0 ⟨y5y, trivial⟩ rfl rfl (fun av x => by kernel_rfl)
def z8s (t : GTask) (places : Int) (tasks : Int) : Option Bool := (z01 t.join 1 3).bind fun x1 => (if x1 = true then ((z01 t.split 1 3).bind fun x3 => (if x3 = true then (gd (ok64 (places - 1)) ((z5k t.in_ 1 3 0 (places - 1)).bind fun x6 => (if x6 = true then ((z61 t.in_ 1).bind fun x8 => (if x8 = true then (some false) else ((z7o t places).bind fun x10 => (if x10 = true then (gd (ok64 (places - 1)) ((z5k t.clear 0 places 2 (places - 1)).bind fun x13 => (if x13 = true then ((z01 t.role 1 3).bind fun x15 => (if x15 = true then (gd (ok64 (tasks - 1)) ((z01 t.apart (-1) (tasks - 1)).bind fun x18 => (if x18 = true then ((z01 t.all 1 3).bind fun x20 => (if x20 = true then ((z01 t.need 1 t.all).bind fun x22 => (some x22)) else (some false))) else (some false)))) else (some false))) else (some false)))) else (some false))))) else (some false)))) else (some false))) else (some false))
def zj6 : Con := ⟨140, [.v (.s .task) false, .v .I false, .v .I false], [(.B, true)], [], fun x => z8s x.1 x.2.1 x.2.2.1⟩
def yh8 : Fs := ⟨[z0d, z2j, z2p, z0h], [], []⟩
theorem yk0 : yh8.Ok Try.prog := (fsK z0i (fsK yc6 (fsK zv9 (fsK yc5 fs0))))
theorem ym5 : zj6.Ok Try.prog := fn_ok (k := zj6) (fn := Try.f140) (W := []) (H := []) Try.func140 yk0 trivial rfl rfl (fun av x => by kernel_rfl)
def zu7  : Option Bool := some true
def z47 (n : GNet) (kx0_0 : Option Bool) : Nat → Int → Option Bool
  | 0, _ => none
  | n0 + 1, s0_0 => if decide (s0_0 < (n.tasks.length : Int)) = true then ((getI n.tasks s0_0).bind fun x6 => ((z8s x6 n.places (n.tasks.length : Int)).bind fun x7 => (if x7 = true then (gd (ok64 (s0_0 + 1)) ((z47 n kx0_0 n0) (s0_0 + 1))) else (some false)))) else (kx0_0)
def z1s (n : GNet) : Option Bool := (z01 n.places 2 8).bind fun x1 => (if x1 = true then ((z01 (n.tasks.length : Int) 1 6).bind fun x3 => (if x3 = true then (z47 n zu7 FUEL 0) else (some false))) else (some false))
def z1d : Con := ⟨105, [.v (.s .net) false], [(.B, true)], [], fun x => z1s x.1⟩
def ys3 : Fs := ⟨[z0d, zj6], [], []⟩
theorem y4h : ys3.Ok Try.prog := (fsK z0i (fsK ym5 fs0))
def y0u : Tmpl := ⟨[(1, .c (.bx 1 0)), (3, .c .i)], [(1, .boxT (.s .net))]⟩
def zy4 : Tmpl := ⟨[], []⟩
def y93 (av : AV) (x : HP z1d.ps) (n : Nat) (v : y0u.den) (K : Ks (CR z1d)) : Option (CR z1d) := z47 v.2.1 (zy4.at none ((), ()) (K (.exit 0))) n v.1.2.1
def y0g (av : AV) (x : HP z1d.ps) : Hdl (CR z1d) := hnd [] y0u (y93 av x)
theorem ya5 : LP z1d Try.f105 [0] y0g := lp_ok (W := []) (H := []) (xs := [zy4]) y4h trivial rfl (fun av x v K => by kernel_rfl) (fun av x n v K => by kernel_rfl)
theorem z7s : z1d.Ok Try.prog := fn_ok (k := z1d) (fn := Try.f105) (W := []) (H := [y0g]) Try.func105 y4h ⟨ya5, trivial⟩ rfl rfl (fun av x => by kernel_rfl)
def z6m (s1_0 : Int) (bk1 : Int → List Bool → Option (List Bool)) (l3_1 : List Bool) : Option (List Bool) := gd (ok64 (s1_0 + 1)) (bk1 (s1_0 + 1) l3_1)
def z6n (s1_0 : Int) (bk1 : Int → List Bool → Option (List Bool)) (l3_1 : List Bool) : Option (List Bool) := gd (ok64 (s1_0 + 1)) (bk1 (s1_0 + 1) l3_1)
def z6o (s1_0 : Int) (bk1 : Int → List Bool → Option (List Bool)) (l3_1 : List Bool) : Option (List Bool) := gd (ok64 (s1_0 + 1)) (bk1 (s1_0 + 1) l3_1)
def z0v (n : GNet) (but : Int) (s1_0 : Int) (s2_0 : Bool) (kx3_0 : List Bool → Option (List Bool)) (kx3_1 : List Bool → Option (List Bool)) (kx3_2 : List Bool → Option (List Bool)) : Nat → Int → List Bool → Option (List Bool)
  | 0, _, _ => none
  | n3 + 1, s3_0, l3_1 => (getI n.tasks s1_0).bind fun x12 => (if decide (s3_0 < (x12.out.length : Int)) = true then (if s2_0 = true then (if decide (s1_0 = but) = true then (kx3_0 l3_1) else ((getI n.tasks s1_0).bind fun x17 => ((getI x17.out s3_0).bind fun x18 => ((getI l3_1 x18.to).bind fun x19 => (gd (ok64 (s3_0 + 1)) ((z0v n but s1_0 s2_0 kx3_0 kx3_1 kx3_2 n3) (s3_0 + 1) (l3_1.set x18.to.toNat true))))))) else (kx3_1 l3_1)) else (kx3_2 l3_1))
def z9y (n : GNet) (but : Int) (s1_0 : Int) (l1_1 : List Bool) (bk1 : Int → List Bool → Option (List Bool)) (s2_0 : Bool) : Option (List Bool) := z0v n but s1_0 s2_0 (z6m s1_0 bk1) (z6n s1_0 bk1) (z6o s1_0 bk1) FUEL 0 l1_1
def z15 (n : GNet) (s1_0 : Int) (l1_1 : List Bool) (kx2_0 : Bool → Option (List Bool)) : Nat → Bool → Int → Option (List Bool)
  | 0, _, _ => none
  | n2 + 1, s2_0, s2_1 => (getI n.tasks s1_0).bind fun x4 => (if decide (s2_1 < (x4.in_.length : Int)) = true then (if s2_0 = true then (gd (ok64 (s2_1 + 1)) ((z15 n s1_0 l1_1 kx2_0 n2) true (s2_1 + 1))) else ((getI n.tasks s1_0).bind fun x8 => ((getI x8.in_ s2_1).bind fun x9 => ((getI l1_1 x9).bind fun x10 => (gd (ok64 (s2_1 + 1)) ((z15 n s1_0 l1_1 kx2_0 n2) x10 (s2_1 + 1))))))) else (kx2_0 s2_0))
def z9z (s0_0 : Int) (bk0 : Int → List Bool → Option (List Bool)) (l1_1 : List Bool) : Option (List Bool) := gd (ok64 (s0_0 + 1)) (bk0 (s0_0 + 1) l1_1)
def z0a (n : GNet) (but : Int) (kx1_0 : List Bool → Option (List Bool)) : Nat → Int → List Bool → Option (List Bool)
  | 0, _, _ => none
  | n1 + 1, s1_0, l1_1 => if decide (s1_0 < (n.tasks.length : Int)) = true then (z15 n s1_0 l1_1 (z9y n but s1_0 l1_1 (z0a n but kx1_0 n1)) FUEL false 0) else (kx1_0 l1_1)
def za0 (l0_1 : List Bool) : Option (List Bool) := some l0_1
def z2t (n : GNet) (but : Int) (kx0_0 : List Bool → Option (List Bool)) : Nat → Int → List Bool → Option (List Bool)
  | 0, _, _ => none
  | n0 + 1, s0_0, l0_1 => if decide (s0_0 < n.places) = true then (z0a n but (z9z s0_0 (z2t n but kx0_0 n0)) FUEL 0 l0_1) else (kx0_0 l0_1)
def z6l (n : GNet) (marked : List Bool) (but : Int) : Option (List Bool) := gd (([] : List Bool).length + marked.length ≤ SMALL) (z2t n but za0 FUEL 0 (([] : List Bool) ++ marked))
def z04 : Con := ⟨173, [.v (.s .net) false, .v (.sl .B) false, .v .I false], [((.sl .B), true)], [], fun x => z6l x.1 x.2.1 x.2.2.1⟩
def y7d : Fs := ⟨[], [], []⟩
theorem z4u : y7d.Ok Try.prog := fs0
def z7u : Tmpl := ⟨[(2, .c .i), (3, .c (.bx 3 0)), (7, .c (.ref 15)), (8, .c .i), (9, .c .i), (10, .c .b), (11, .c .i)], [(3, .boxT (.s .net)), (15, .arr .B true)]⟩
def z6z : Tmpl := ⟨[(2, .c .i), (3, .c (.bx 3 0)), (7, .c (.ref 15)), (8, .c .i), (9, .c .i), (10, .c .b)], [(3, .boxT (.s .net)), (15, .arr .B true)]⟩
def zq8 (av : AV) (x : HP z04.ps) (n : Nat) (v : z7u.den) (K : Ks (CR z04)) : Option (CR z04) := z15 v.2.1 v.1.2.2.2.2.1 v.2.2.1 (fun s2_0 => z6z.at none ((v.1.1, (), (), v.1.2.2.2.1, v.1.2.2.2.2.1, s2_0, ()), (v.2.1, v.2.2.1, ())) (K (.exit 4))) n v.1.2.2.2.2.2.1 v.1.2.2.2.2.2.2.1
def z7p (av : AV) (x : HP z04.ps) : Hdl (CR z04) := hnd [] z7u (zq8 av x)
theorem zu1 : LP z04 Try.f173 [0, 0, 0] z7p := lp_ok (W := []) (H := []) (xs := [z6z]) z4u trivial rfl (fun av x v K => by kernel_rfl) (fun av x n v K => by kernel_rfl)
def z7v : Tmpl := ⟨[(2, .c .i), (3, .c (.bx 3 0)), (7, .c (.ref 15)), (8, .c .i), (9, .c .i), (10, .c .b), (12, .c .i)], [(3, .boxT (.s .net)), (15, .arr .B true)]⟩
def z3e : Tmpl := ⟨[(2, .c .i), (3, .c (.bx 3 0)), (7, .c (.ref 15)), (8, .c .i), (9, .c .i)], [(3, .boxT (.s .net)), (15, .arr .B true)]⟩
def zq9 (av : AV) (x : HP z04.ps) (n : Nat) (v : z7v.den) (K : Ks (CR z04)) : Option (CR z04) := z0v v.2.1 v.1.1 v.1.2.2.2.2.1 v.1.2.2.2.2.2.1 (fun l3_1 => z3e.at none ((v.1.1, (), (), v.1.2.2.2.1, v.1.2.2.2.2.1, ()), (v.2.1, l3_1, ())) (K (.exit 6))) (fun l3_1 => z3e.at none ((v.1.1, (), (), v.1.2.2.2.1, v.1.2.2.2.2.1, ()), (v.2.1, l3_1, ())) (K (.exit 6))) (fun l3_1 => z3e.at none ((v.1.1, (), (), v.1.2.2.2.1, v.1.2.2.2.2.1, ()), (v.2.1, l3_1, ())) (K (.exit 6))) n v.1.2.2.2.2.2.2.1 v.2.2.1
def z7q (av : AV) (x : HP z04.ps) : Hdl (CR z04) := hnd [] z7v (zq9 av x)
theorem zu2 : LP z04 Try.f173 [0, 0, 1] z7q := lp_ok (W := []) (H := []) (xs := [z3e]) z4u trivial rfl (fun av x v K => by kernel_rfl) (fun av x n v K => by kernel_rfl)
def z9h : Tmpl := ⟨[(2, .c .i), (3, .c (.bx 3 0)), (7, .c (.ref 15)), (8, .c .i), (9, .c .i)], [(3, .boxT (.s .net)), (15, .arr .B true)]⟩
def z8a : Tmpl := ⟨[(2, .c .i), (3, .c (.bx 3 0)), (7, .c (.ref 15)), (8, .c .i)], [(3, .boxT (.s .net)), (15, .arr .B true)]⟩
def y0z (av : AV) (x : HP z04.ps) (n : Nat) (v : z9h.den) (K : Ks (CR z04)) : Option (CR z04) := z0a v.2.1 v.1.1 (fun l1_1 => z8a.at none ((v.1.1, (), (), v.1.2.2.2.1, ()), (v.2.1, l1_1, ())) (K (.exit 2))) n v.1.2.2.2.2.1 v.2.2.1
def z96 (av : AV) (x : HP z04.ps) : Hdl (CR z04) := hnd [] z9h (y0z av x)
theorem y16 : LP z04 Try.f173 [0, 0] z96 := lp_ok (W := []) (H := [z7p, z7q]) (xs := [z8a]) z4u ⟨zu1, zu2, trivial⟩ rfl (fun av x v K => by kernel_rfl) (fun av x n v K => by kernel_rfl)
def zh2 : Tmpl := ⟨[(2, .c .i), (3, .c (.bx 3 0)), (7, .c (.ref 15)), (8, .c .i)], [(3, .boxT (.s .net)), (15, .arr .B true)]⟩
def zb5 : Tmpl := ⟨[(7, .c (.ref 15))], [(15, .arr .B true)]⟩
def y3d (av : AV) (x : HP z04.ps) (n : Nat) (v : zh2.den) (K : Ks (CR z04)) : Option (CR z04) := z2t v.2.1 v.1.1 (fun l0_1 => zb5.at none (((), ()), (l0_1, ())) (K (.exit 0))) n v.1.2.2.2.1 v.2.2.1
def ze4 (av : AV) (x : HP z04.ps) : Hdl (CR z04) := hnd [] zh2 (y3d av x)
theorem y3w : LP z04 Try.f173 [0] ze4 := lp_ok (W := []) (H := [z96]) (xs := [zb5]) z4u ⟨y16, trivial⟩ rfl (fun av x v K => by kernel_rfl) (fun av x n v K => by kernel_rfl)
theorem y87 : z04.Ok Try.prog := fn_ok (k := z04) (fn := Try.f173) (W := []) (H := [ze4]) Try.func173 z4u ⟨y3w, trivial⟩ rfl rfl (fun av x => by kernel_rfl)
def zu6  : Option Bool := some true
def z46 (marks : List Int) (kx0_0 : Option Bool) : Nat → Int → Option Bool
  | 0, _ => none
  | n0 + 1, s0_0 => if decide (s0_0 < (marks.length : Int)) = true then ((getI marks s0_0).bind fun x5 => ((z01 x5 0 4).bind fun x6 => (if x6 = true then (gd (ok64 (s0_0 + 1)) ((z46 marks kx0_0 n0) (s0_0 + 1))) else (some false)))) else (kx0_0)
def z4z (n : GNet) (marks : List Int) : Option Bool := (z1s n).bind fun x1 => (if x1 = true then (if decide ((marks.length : Int) = n.places) = true then (z46 marks zu6 FUEL 0) else (some false)) else (some false))
def z1r : Con := ⟨53, [.v (.s .net) false, .v (.sl .I) false], [(.B, true)], [], fun x => z4z x.1 x.2.1⟩
def ys2 : Fs := ⟨[z1d, z0d], [], []⟩
theorem y4g : ys2.Ok Try.prog := (fsK z7s (fsK z0i fs0))
def y0t : Tmpl := ⟨[(1, .c (.s .I)), (5, .c .i)], []⟩
def zy3 : Tmpl := ⟨[], []⟩
def y92 (av : AV) (x : HP z1r.ps) (n : Nat) (v : y0t.den) (K : Ks (CR z1r)) : Option (CR z1r) := z46 v.1.1 (zy3.at none ((), ()) (K (.exit 0))) n v.1.2.1
def y0f (av : AV) (x : HP z1r.ps) : Hdl (CR z1r) := hnd [] y0t (y92 av x)
theorem ya4 : LP z1r Try.f53 [0] y0f := lp_ok (W := []) (H := []) (xs := [zy3]) y4g trivial rfl (fun av x v K => by kernel_rfl) (fun av x n v K => by kernel_rfl)
theorem za2 : z1r.Ok Try.prog := fn_ok (k := z1r) (fn := Try.f53) (W := []) (H := [y0f]) Try.func53 y4g ⟨ya4, trivial⟩ rfl rfl (fun av x => by kernel_rfl)
def z5s (s0_0 : Bool) (s0_1 : Bool) : Option (Bool × Bool) := some (s0_0, s0_1)
def z11 (marks : List Int) (list : List Int) (kx0_0 : Bool → Bool → Option (Bool × Bool)) : Nat → Bool → Bool → Int → Option (Bool × Bool)
  | 0, _, _, _ => none
  | n0 + 1, s0_0, s0_1, s0_2 => if decide (s0_2 < (list.length : Int)) = true then (if s0_0 = true then (if s0_1 = true then ((getI list s0_2).bind fun x4 => ((getI marks x4).bind fun x5 => (gd (ok64 (s0_2 + 1)) ((z11 marks list kx0_0 n0) true (decide (0 < x5)) (s0_2 + 1))))) else (gd (ok64 (s0_2 + 1)) ((z11 marks list kx0_0 n0) true false (s0_2 + 1)))) else ((getI list s0_2).bind fun x8 => ((getI marks x8).bind fun x9 => (if s0_1 = true then ((getI list s0_2).bind fun x11 => ((getI marks x11).bind fun x12 => (gd (ok64 (s0_2 + 1)) ((z11 marks list kx0_0 n0) (decide (0 < x9)) (decide (0 < x12)) (s0_2 + 1))))) else (gd (ok64 (s0_2 + 1)) ((z11 marks list kx0_0 n0) (decide (0 < x9)) false (s0_2 + 1))))))) else (kx0_0 s0_0 s0_1)
def z8t (marks : List Int) (list : List Int) : Option (Bool × Bool) := z11 marks list z5s FUEL false true 0
def z35 : Con := ⟨167, [.v (.sl .I) false, .v (.sl .I) false], [(.B, true), (.B, true)], [], fun x => z8t x.1 x.2.1⟩
def yi0 : Fs := ⟨[], [], []⟩
theorem y20 : yi0.Ok Try.prog := fs0
def zx3 : Tmpl := ⟨[(0, .c (.s .I)), (1, .c (.s .I)), (6, .c .b), (7, .c .b), (8, .c .i)], []⟩
def zq2 : Tmpl := ⟨[(6, .c .b), (7, .c .b)], []⟩
def y6r (av : AV) (x : HP z35.ps) (n : Nat) (v : zx3.den) (K : Ks (CR z35)) : Option (CR z35) := z11 v.1.1 v.1.2.1 (fun s0_0 s0_1 => zq2.at none ((s0_0, s0_1, ()), ()) (K (.exit 0))) n v.1.2.2.1 v.1.2.2.2.1 v.1.2.2.2.2.1
def zs9 (av : AV) (x : HP z35.ps) : Hdl (CR z35) := hnd [] zx3 (y6r av x)
theorem y7v : LP z35 Try.f167 [0] zs9 := lp_ok (W := []) (H := []) (xs := [zq2]) y20 trivial rfl (fun av x v K => by kernel_rfl) (fun av x n v K => by kernel_rfl)
theorem ym6 : z35.Ok Try.prog := fn_ok (k := z35) (fn := Try.f167) (W := []) (H := [zs9]) Try.func167 y20 ⟨y7v, trivial⟩ rfl rfl (fun av x => by kernel_rfl)
def z2v (s1_0 : Int) (bk1 : Int → List Bool → Option Bool) (l2_1 : List Bool) : Option Bool := gd (ok64 (s1_0 + 1)) (bk1 (s1_0 + 1) l2_1)
def z1q (p2_0 : List GFlow) (kx2_0 : List Bool → Option Bool) : Nat → Int → List Bool → Option Bool
  | 0, _, _ => none
  | n2 + 1, s2_0, l2_1 => if decide (s2_0 < (p2_0.length : Int)) = true then ((getI p2_0 s2_0).bind fun x15 => ((getI l2_1 x15.to).bind fun x16 => (gd (ok64 (s2_0 + 1)) ((z1q p2_0 kx2_0 n2) (s2_0 + 1) (l2_1.set x15.to.toNat true))))) else (kx2_0 l2_1)
def z6r  : Option Bool := some false
def z18 (n : GNet) (marks : List Int) (t : Int) (x19 : (List Bool)) (kx3_0 : Option Bool) : Nat → Int → Option Bool
  | 0, _ => none
  | n3 + 1, s3_0 => (getI n.tasks t).bind fun x20 => (if decide (s3_0 < (x20.in_.length : Int)) = true then ((getI n.tasks t).bind fun x22 => ((getI x22.in_ s3_0).bind fun x23 => ((getI marks x23).bind fun x24 => (if decide (x24 = 0) = true then ((getI n.tasks t).bind fun x26 => ((getI x26.in_ s3_0).bind fun x27 => ((getI x19 x27).bind fun x28 => (if x28 = true then (some true) else (gd (ok64 (s3_0 + 1)) ((z18 n marks t x19 kx3_0 n3) (s3_0 + 1))))))) else (gd (ok64 (s3_0 + 1)) ((z18 n marks t x19 kx3_0 n3) (s3_0 + 1))))))) else (kx3_0))
def z16 (n : GNet) (marks : List Int) (t : Int) (l1_1 : List Bool) : Option Bool := (z6l n l1_1 t).bind fun x19 => (z18 n marks t x19 z6r FUEL 0)
def z0o (n : GNet) (busy : List GItem) (kx1_0 : List Bool → Option Bool) : Nat → Int → List Bool → Option Bool
  | 0, _, _ => none
  | n1 + 1, s1_0, l1_1 => if decide (s1_0 < (busy.length : Int)) = true then ((getI busy s1_0).bind fun x12 => ((getI n.tasks x12.task).bind fun x13 => (z1q x13.out (z2v s1_0 (z0o n busy kx1_0 n1)) FUEL 0 l1_1))) else (kx1_0 l1_1)
def z2u (n : GNet) (marks : List Int) (busy : List GItem) (t : Int) (l0_1 : List Bool) : Option Bool := z0o n busy (z16 n marks t) FUEL 0 l0_1
def z17 (n : GNet) (marks : List Int) (t : Int) (kx0_0 : List Bool → Option Bool) : Nat → Int → List Bool → Option Bool
  | 0, _, _ => none
  | n0 + 1, s0_0, l0_1 => if decide (s0_0 < n.places) = true then ((getI marks s0_0).bind fun x3 => (if decide (0 < x3) = true then ((getI n.tasks t).bind fun x5 => ((z61 x5.in_ s0_0).bind fun x6 => ((getI l0_1 s0_0).bind fun x7 => (gd (ok64 (s0_0 + 1)) ((z17 n marks t kx0_0 n0) (s0_0 + 1) (l0_1.set s0_0.toNat (!x6))))))) else ((getI l0_1 s0_0).bind fun x9 => (gd (ok64 (s0_0 + 1)) ((z17 n marks t kx0_0 n0) (s0_0 + 1) (l0_1.set s0_0.toNat false)))))) else (kx0_0 l0_1)
def z6q (n : GNet) (marks : List Int) (busy : List GItem) (t : Int) : Option Bool := gd ((0 : Int) ≤ n.places ∧ n.places ≤ (1000000000 : Int)) (z17 n marks t (z2u n marks busy t) FUEL 0 (List.replicate n.places.toNat false))
def z05 : Con := ⟨168, [.v (.s .net) false, .v (.sl .I) false, .v (.sl (.s .item)) false, .v .I false], [(.B, true)], [], fun x => z6q x.1 x.2.1 x.2.2.1 x.2.2.2.1⟩
def y7e : Fs := ⟨[z2p, z04], [], []⟩
theorem z4v : y7e.Ok Try.prog := (fsK zv9 (fsK y87 fs0))
def z9i : Tmpl := ⟨[(1, .c (.s .I)), (2, .c (.s (.s .item))), (3, .c .i), (4, .c (.bx 4 0)), (9, .c (.ref 18)), (11, .c .i), (12, .c (.s (.s .flow))), (13, .c .i)], [(4, .boxT (.s .net)), (18, .arr .B true)]⟩
def z8b : Tmpl := ⟨[(1, .c (.s .I)), (2, .c (.s (.s .item))), (3, .c .i), (4, .c (.bx 4 0)), (9, .c (.ref 18)), (11, .c .i)], [(4, .boxT (.s .net)), (18, .arr .B true)]⟩
def y10 (av : AV) (x : HP z05.ps) (n : Nat) (v : z9i.den) (K : Ks (CR z05)) : Option (CR z05) := z1q v.1.2.2.2.2.2.2.1 (fun l2_1 => z8b.at none ((v.1.1, v.1.2.1, v.1.2.2.1, (), (), v.1.2.2.2.2.2.1, ()), (v.2.1, l2_1, ())) (K (.exit 4))) n v.1.2.2.2.2.2.2.2.1 v.2.2.1
def z97 (av : AV) (x : HP z05.ps) : Hdl (CR z05) := hnd [] z9i (y10 av x)
theorem y17 : LP z05 Try.f168 [1, 0] z97 := lp_ok (W := []) (H := []) (xs := [z8b]) z4v trivial rfl (fun av x v K => by kernel_rfl) (fun av x n v K => by kernel_rfl)
def zh3 : Tmpl := ⟨[(1, .c (.s .I)), (2, .c (.s (.s .item))), (3, .c .i), (4, .c (.bx 4 0)), (9, .c (.ref 18)), (10, .c .i)], [(4, .boxT (.s .net)), (18, .arr .B true)]⟩
def zb6 : Tmpl := ⟨[(1, .c (.s .I)), (2, .c (.s (.s .item))), (3, .c .i), (4, .c (.bx 4 0)), (9, .c (.ref 18))], [(4, .boxT (.s .net)), (18, .arr .B true)]⟩
def y3e (av : AV) (x : HP z05.ps) (n : Nat) (v : zh3.den) (K : Ks (CR z05)) : Option (CR z05) := z17 v.2.1 v.1.1 v.1.2.2.1 (fun l0_1 => zb6.at none ((v.1.1, v.1.2.1, v.1.2.2.1, (), (), ()), (v.2.1, l0_1, ())) (K (.exit 0))) n v.1.2.2.2.2.2.1 v.2.2.1
def ze5 (av : AV) (x : HP z05.ps) : Hdl (CR z05) := hnd [] zh3 (y3e av x)
theorem y3x : LP z05 Try.f168 [0] ze5 := lp_ok (W := []) (H := []) (xs := [zb6]) z4v trivial rfl (fun av x v K => by kernel_rfl) (fun av x n v K => by kernel_rfl)
def zh4 : Tmpl := ⟨[(1, .c (.s .I)), (2, .c (.s (.s .item))), (3, .c .i), (4, .c (.bx 4 0)), (9, .c (.ref 18)), (11, .c .i)], [(4, .boxT (.s .net)), (18, .arr .B true)]⟩
def zb7 : Tmpl := ⟨[(1, .c (.s .I)), (3, .c .i), (4, .c (.bx 4 0)), (9, .c (.ref 18))], [(4, .boxT (.s .net)), (18, .arr .B true)]⟩
def y3f (av : AV) (x : HP z05.ps) (n : Nat) (v : zh4.den) (K : Ks (CR z05)) : Option (CR z05) := z0o v.2.1 v.1.2.1 (fun l1_1 => zb7.at none ((v.1.1, v.1.2.2.1, (), (), ()), (v.2.1, l1_1, ())) (K (.exit 2))) n v.1.2.2.2.2.2.1 v.2.2.1
def ze6 (av : AV) (x : HP z05.ps) : Hdl (CR z05) := hnd [] zh4 (y3f av x)
theorem y3y : LP z05 Try.f168 [1] ze6 := lp_ok (W := []) (H := [z97]) (xs := [zb7]) z4v ⟨y17, trivial⟩ rfl (fun av x v K => by kernel_rfl) (fun av x n v K => by kernel_rfl)
def zh5 : Tmpl := ⟨[(1, .c (.s .I)), (3, .c .i), (4, .c (.bx 4 0)), (14, .c (.ref 76)), (15, .c .i)], [(4, .boxT (.s .net)), (76, .arr .B true)]⟩
def zb8 : Tmpl := ⟨[], []⟩
def y3g (av : AV) (x : HP z05.ps) (n : Nat) (v : zh5.den) (K : Ks (CR z05)) : Option (CR z05) := z18 v.2.1 v.1.1 v.1.2.1 v.2.2.1 (zb8.at none ((), ()) (K (.exit 6))) n v.1.2.2.2.2.1
def ze7 (av : AV) (x : HP z05.ps) : Hdl (CR z05) := hnd [] zh5 (y3g av x)
theorem y3z : LP z05 Try.f168 [2] ze7 := lp_ok (W := []) (H := []) (xs := [zb8]) z4v trivial rfl (fun av x v K => by kernel_rfl) (fun av x n v K => by kernel_rfl)
theorem y88 : z05.Ok Try.prog := fn_ok (k := z05) (fn := Try.f168) (W := []) (H := [ze5, ze6, ze7]) Try.func168 z4v ⟨y3x, y3y, y3z, trivial⟩ rfl rfl (fun av x => by kernel_rfl)
def za1 (n : GNet) (marks : List Int) (busy : List GItem) (t : Int) : Option Bool := (getI n.tasks t).bind fun x1 => ((z8t marks x1.in_).bind fun x2 => ((getI n.tasks t).bind fun x3 => (if decide (x3.join = 1) = true then (some x2.2) else (if decide (x3.join = 2) = true then (some x2.1) else (if x2.1 = true then (if x2.2 = true then (some true) else ((z6q n marks busy t).bind fun x8 => (some (!x8)))) else (some false))))))
def zt9 : Con := ⟨152, [.v (.s .net) false, .v (.sl .I) false, .v (.sl (.s .item)) false, .v .I false], [(.B, true)], [], fun x => za1 x.1 x.2.1 x.2.2.1 x.2.2.2.1⟩
def ys8 : Fs := ⟨[z35, z05], [], []⟩
theorem yt4 : ys8.Ok Try.prog := (fsK ym6 (fsK y88 fs0))
theorem yv7 : zt9.Ok Try.prog := fn_ok (k := zt9) (fn := Try.f152) (W := []) (H := []) Try.func152 yt4 trivial rfl rfl (fun av x => by kernel_rfl)
def zn0  : Option Bool := some true
def z3l (n : GNet) (busy : List GItem) (kx0_0 : Option Bool) : Nat → Int → Option Bool
  | 0, _ => none
  | n0 + 1, s0_0 => if decide (s0_0 < (busy.length : Int)) = true then ((getI busy s0_0).bind fun x3 => (gd (ok64 ((n.tasks.length : Int) - 1)) ((z01 x3.task 0 ((n.tasks.length : Int) - 1)).bind fun x5 => (if x5 = true then ((getI busy s0_0).bind fun x7 => ((z01 x7.who 1 4).bind fun x8 => (if x8 = true then ((getI busy s0_0).bind fun x10 => ((getI busy s0_0).bind fun x11 => ((getI n.tasks x11.task).bind fun x12 => (gd (ok64 (x12.need - 1)) ((z01 x10.did 0 (x12.need - 1)).bind fun x14 => (if x14 = true then (gd (ok64 (s0_0 + 1)) ((z3l n busy kx0_0 n0) (s0_0 + 1))) else (some false))))))) else (some false)))) else (some false))))) else (kx0_0)
def z6p (n : GNet) (busy : List GItem) : Option Bool := if decide (6 < (busy.length : Int)) = true then (some false) else (z3l n busy zn0 FUEL 0)
def z2k : Con := ⟨54, [.v (.s .net) false, .v (.sl (.s .item)) false], [(.B, true)], [], fun x => z6p x.1 x.2.1⟩
def yh9 : Fs := ⟨[z0d], [], []⟩
theorem y1z : yh9.Ok Try.prog := (fsK z0i fs0)
def zx2 : Tmpl := ⟨[(1, .c (.s (.s .item))), (2, .c (.bx 2 0)), (5, .c .i)], [(2, .boxT (.s .net))]⟩
def zq1 : Tmpl := ⟨[], []⟩
def y6q (av : AV) (x : HP z2k.ps) (n : Nat) (v : zx2.den) (K : Ks (CR z2k)) : Option (CR z2k) := z3l v.2.1 v.1.1 (zq1.at none ((), ()) (K (.exit 0))) n v.1.2.2.1
def zs8 (av : AV) (x : HP z2k.ps) : Hdl (CR z2k) := hnd [] zx2 (y6q av x)
theorem y7u : LP z2k Try.f54 [0] zs8 := lp_ok (W := []) (H := []) (xs := [zq1]) y1z trivial rfl (fun av x v K => by kernel_rfl) (fun av x n v K => by kernel_rfl)
theorem y2l : z2k.Ok Try.prog := fn_ok (k := z2k) (fn := Try.f54) (W := []) (H := [zs8]) Try.func54 y1z ⟨y7u, trivial⟩ rfl rfl (fun av x => by kernel_rfl)
def z6b (n : GNet) (marks : List Int) (busy : List GItem) (t : Int) : Option Bool := (z4z n marks).bind fun x1 => (if x1 = true then ((z6p n busy).bind fun x3 => (if x3 = true then (gd (ok64 ((n.tasks.length : Int) - 1)) ((z01 t 0 ((n.tasks.length : Int) - 1)).bind fun x6 => (if x6 = true then ((za1 n marks busy t).bind fun x8 => (some x8)) else (some false)))) else (some false))) else (some false))
def z8i : Con := ⟨121, [.v (.s .net) false, .v (.sl .I) false, .v (.sl (.s .item)) false, .v .I false], [(.B, true)], [], fun x => z6b x.1 x.2.1 x.2.2.1 x.2.2.2.1⟩
def yg6 : Fs := ⟨[z1r, z2k, z0d, zt9], [], []⟩
theorem yj3 : yg6.Ok Try.prog := (fsK za2 (fsK y2l (fsK z0i (fsK yv7 fs0))))
theorem y2i : z8i.Ok Try.prog := fn_ok (k := z8i) (fn := Try.f121) (W := []) (H := []) Try.func121 yj3 trivial rfl rfl (fun av x => by kernel_rfl)
def z6c (l0_1 : List Int) : Option (List Int) := some l0_1
def z1o (n : GNet) (marks : List Int) (busy : List GItem) (kx0_0 : List Int → Option (List Int)) : Nat → Int → List Int → Option (List Int)
  | 0, _, _ => none
  | n0 + 1, s0_0, l0_1 => if decide (s0_0 < (n.tasks.length : Int)) = true then ((z6b n marks busy s0_0).bind fun x2 => (if x2 = true then (gd (l0_1.length + [s0_0].length ≤ SMALL) (gd (ok64 (s0_0 + 1)) ((z1o n marks busy kx0_0 n0) (s0_0 + 1) (l0_1 ++ [s0_0])))) else (gd (ok64 (s0_0 + 1)) ((z1o n marks busy kx0_0 n0) (s0_0 + 1) l0_1)))) else (kx0_0 l0_1)
def z1n (n : GNet) (marks : List Int) (busy : List GItem) : Option (List Int) := z1o n marks busy z6c FUEL 0 ([] : List Int)
def z0x : Con := ⟨76, [.v (.s .net) false, .v (.sl .I) false, .v (.sl (.s .item)) false], [((.sl .I), true)], [], fun x => z1n x.1 x.2.1 x.2.2.1⟩
def y76 : Fs := ⟨[z8i], [], []⟩
theorem zr4 : y76.Ok Try.prog := (fsK y2i fs0)
def zg6 : Tmpl := ⟨[(1, .c (.s .I)), (2, .c (.s (.s .item))), (3, .c (.bx 3 0)), (7, .c (.ref 9)), (8, .c .i)], [(3, .boxT (.s .net)), (9, .arr .I true)]⟩
def za9 : Tmpl := ⟨[(7, .c (.ref 9))], [(9, .arr .I true)]⟩
def y37 (av : AV) (x : HP z0x.ps) (n : Nat) (v : zg6.den) (K : Ks (CR z0x)) : Option (CR z0x) := z1o v.2.1 v.1.1 v.1.2.1 (fun l0_1 => za9.at none (((), ()), (l0_1, ())) (K (.exit 0))) n v.1.2.2.2.2.1 v.2.2.1
def zd8 (av : AV) (x : HP z0x.ps) : Hdl (CR z0x) := hnd [] zg6 (y37 av x)
theorem y3q : LP z0x Try.f76 [0] zd8 := lp_ok (W := []) (H := []) (xs := [za9]) zr4 trivial rfl (fun av x v K => by kernel_rfl) (fun av x n v K => by kernel_rfl)
theorem z9d : z0x.Ok Try.prog := fn_ok (k := z0x) (fn := Try.f76) (W := []) (H := [zd8]) Try.func76 zr4 ⟨y3q, trivial⟩ rfl rfl (fun av x => by kernel_rfl)
def zf1 (l0_1 : List Int) (x10 : Int) (x13 : Int) : Option (List Int) := some (l0_1.set x10.toNat (x13 - 1))
def zf2 (l0_1 : List Int) : Option (List Int) := some l0_1
def z1y (n : GNet) (t : Int) (kx0_0 : List Int → Int → Int → Option (List Int)) (kx0_1 : List Int → Option (List Int)) : Nat → Int → List Int → Option (List Int)
  | 0, _, _ => none
  | n0 + 1, s0_0, l0_1 => (getI n.tasks t).bind fun x7 => (if decide (s0_0 < (x7.in_.length : Int)) = true then ((getI n.tasks t).bind fun x9 => ((getI x9.in_ s0_0).bind fun x10 => ((getI l0_1 x10).bind fun x11 => (if decide (0 < x11) = true then ((getI l0_1 x10).bind fun x13 => (gd (ok64 (x13 - 1)) ((getI l0_1 x10).bind fun x15 => ((getI n.tasks t).bind fun x16 => (if decide (x16.join = 2) = true then (kx0_0 l0_1 x10 x13) else (gd (ok64 (s0_0 + 1)) ((z1y n t kx0_0 kx0_1 n0) (s0_0 + 1) (l0_1.set x10.toNat (x13 - 1))))))))) else (gd (ok64 (s0_0 + 1)) ((z1y n t kx0_0 kx0_1 n0) (s0_0 + 1) l0_1)))))) else (kx0_1 l0_1))
def z7e (n : GNet) (marks : List Int) (t : Int) : Option (List Int) := (z4z n marks).bind fun x1 => (if x1 = true then (gd (ok64 ((n.tasks.length : Int) - 1)) ((z01 t 0 ((n.tasks.length : Int) - 1)).bind fun x4 => (if x4 = true then (gd (([] : List Int).length + marks.length ≤ SMALL) (z1y n t zf1 zf2 FUEL 0 (([] : List Int) ++ marks))) else (some ([] : List Int))))) else (some ([] : List Int)))
def z2a : Con := ⟨147, [.v (.s .net) false, .v (.sl .I) false, .v .I false], [((.sl .I), true)], [], fun x => z7e x.1 x.2.1 x.2.2.1⟩
def y9d : Fs := ⟨[z1r, z0d], [], []⟩
theorem y02 : y9d.Ok Try.prog := (fsK za2 (fsK z0i fs0))
def zn9 : Tmpl := ⟨[(2, .c .i), (3, .c (.bx 3 0)), (7, .c (.ref 26)), (8, .c .i)], [(3, .boxT (.s .net)), (26, .arr .I true)]⟩
def z79 : Tmpl := ⟨[(7, .c (.ref 26))], [(26, .arr .I true)]⟩
def y4w (av : AV) (x : HP z2a.ps) (n : Nat) (v : zn9.den) (K : Ks (CR z2a)) : Option (CR z2a) := z1y v.2.1 v.1.1 (fun l0_1 x10 x13 => z79.at none (((), ()), ((l0_1.set x10.toNat (x13 - 1)), ())) (K (.exit 0))) (fun l0_1 => z79.at none (((), ()), (l0_1, ())) (K (.exit 0))) n v.1.2.2.2.1 v.2.2.1
def zl2 (av : AV) (x : HP z2a.ps) : Hdl (CR z2a) := hnd [] zn9 (y4w av x)
theorem y5m : LP z2a Try.f147 [0] zl2 := lp_ok (W := []) (H := []) (xs := [z79]) y02 trivial rfl (fun av x v K => by kernel_rfl) (fun av x n v K => by kernel_rfl)
theorem yb4 : z2a.Ok Try.prog := fn_ok (k := z2a) (fn := Try.f147) (W := []) (H := [zl2]) Try.func147 y02 ⟨y5m, trivial⟩ rfl rfl (fun av x => by kernel_rfl)
def z6d (l0_1 : List Int) (x8 : GFlow) : Option (List Int) := some (l0_1 ++ [x8.to])
def z6e (l0_1 : List Int) (x13 : GFlow) : Option (List Int) := some (l0_1 ++ [x13.to])
def z6f (l0_1 : List Int) (x18 : GFlow) : Option (List Int) := some (l0_1 ++ [x18.to])
def z9b (l0_1 : List Int) : Option (List Int) := some l0_1
def z0z (t : GTask) (data : List Int) (kx0_0 : List Int → GFlow → Option (List Int)) (kx0_1 : List Int → GFlow → Option (List Int)) (kx0_2 : List Int → GFlow → Option (List Int)) (kx0_3 : List Int → Option (List Int)) : Nat → Int → List Int → Option (List Int)
  | 0, _, _ => none
  | n0 + 1, s0_0, l0_1 => if decide (s0_0 < (t.out.length : Int)) = true then ((getI t.out s0_0).bind fun x2 => ((z0q x2.if_ data).bind fun x3 => (if x3 = true then (if decide (t.split = 3) = true then (gd (ok64 ((t.out.length : Int) - 1)) (if decide (s0_0 < ((t.out.length : Int) - 1)) = true then ((getI t.out s0_0).bind fun x8 => (gd (l0_1.length + [x8.to].length ≤ SMALL) (if decide (t.split = 2) = true then (kx0_0 l0_1 x8) else (gd (ok64 (s0_0 + 1)) ((z0z t data kx0_0 kx0_1 kx0_2 kx0_3 n0) (s0_0 + 1) (l0_1 ++ [x8.to])))))) else (if decide ((l0_1.length : Int) = 0) = true then ((getI t.out s0_0).bind fun x13 => (gd (l0_1.length + [x13.to].length ≤ SMALL) (if decide (t.split = 2) = true then (kx0_1 l0_1 x13) else (gd (ok64 (s0_0 + 1)) ((z0z t data kx0_0 kx0_1 kx0_2 kx0_3 n0) (s0_0 + 1) (l0_1 ++ [x13.to])))))) else (gd (ok64 (s0_0 + 1)) ((z0z t data kx0_0 kx0_1 kx0_2 kx0_3 n0) (s0_0 + 1) l0_1))))) else ((getI t.out s0_0).bind fun x18 => (gd (l0_1.length + [x18.to].length ≤ SMALL) (if decide (t.split = 2) = true then (kx0_2 l0_1 x18) else (gd (ok64 (s0_0 + 1)) ((z0z t data kx0_0 kx0_1 kx0_2 kx0_3 n0) (s0_0 + 1) (l0_1 ++ [x18.to]))))))) else (gd (ok64 (s0_0 + 1)) ((z0z t data kx0_0 kx0_1 kx0_2 kx0_3 n0) (s0_0 + 1) l0_1))))) else (kx0_3 l0_1)
def z9x (t : GTask) (data : List Int) : Option (List Int) := z0z t data z6d z6e z6f z9b FUEL 0 ([] : List Int)
def z3r : Con := ⟨113, [.v (.s .task) false, .v (.sl .I) false], [((.sl .I), true)], [], fun x => z9x x.1 x.2.1⟩
def ys6 : Fs := ⟨[z2n], [], []⟩
theorem y4j : ys6.Ok Try.prog := (fsK z4b fs0)
def y0x : Tmpl := ⟨[(1, .c (.s .I)), (2, .c (.bx 2 0)), (5, .c (.ref 7)), (6, .c .i)], [(2, .boxT (.s .task)), (7, .arr .I true)]⟩
def z53 : Tmpl := ⟨[(5, .c (.ref 49))], [(49, .arr .I true)]⟩
def y96 (av : AV) (x : HP z3r.ps) (n : Nat) (v : y0x.den) (K : Ks (CR z3r)) : Option (CR z3r) := z0z v.2.1 v.1.1 (fun l0_1 x8 => z53.at none (((), ()), ((l0_1 ++ [x8.to]), ())) (K (.exit 0))) (fun l0_1 x13 => z53.at none (((), ()), ((l0_1 ++ [x13.to]), ())) (K (.exit 0))) (fun l0_1 x18 => z53.at none (((), ()), ((l0_1 ++ [x18.to]), ())) (K (.exit 0))) (fun l0_1 => z53.at none (((), ()), (l0_1, ())) (K (.exit 0))) n v.1.2.2.2.1 v.2.2.1
def y0j (av : AV) (x : HP z3r.ps) : Hdl (CR z3r) := hnd [] y0x (y96 av x)
theorem ya8 : LP z3r Try.f113 [0] y0j := lp_ok (W := []) (H := []) (xs := [z53]) y4j trivial rfl (fun av x v K => by kernel_rfl) (fun av x n v K => by kernel_rfl)
theorem yv6 : z3r.Ok Try.prog := fn_ok (k := z3r) (fn := Try.f113) (W := []) (H := [y0j]) Try.func113 y4j ⟨ya8, trivial⟩ rfl rfl (fun av x => by kernel_rfl)
def z5a (l1_1 : List Int) : Option ((List Int) × Bool) := some (l1_1, true)
def z3a (x16 : (List Int)) (kx1_0 : List Int → Option ((List Int) × Bool)) : Nat → Int → List Int → Option ((List Int) × Bool)
  | 0, _, _ => none
  | n1 + 1, s1_0, l1_1 => if decide (s1_0 < (x16.length : Int)) = true then ((getI x16 s1_0).bind fun x18 => ((getI l1_1 x18).bind fun x19 => (if decide (x19 = 4) = true then (some (([] : List Int), false)) else ((getI x16 s1_0).bind fun x21 => ((getI x16 s1_0).bind fun x22 => ((getI l1_1 x22).bind fun x23 => (gd (ok64 (x23 + 1)) ((getI l1_1 x21).bind fun x25 => (gd (ok64 (s1_0 + 1)) ((z3a x16 kx1_0 n1) (s1_0 + 1) (l1_1.set x21.toNat (x23 + 1)))))))))))) else (kx1_0 l1_1)
def z59 (n : GNet) (t : Int) (data : List Int) (l0_1 : List Int) : Option ((List Int) × Bool) := (getI n.tasks t).bind fun x15 => ((z9x x15 data).bind fun x16 => (z3a x16 z5a FUEL 0 l0_1))
def z39 (n : GNet) (t : Int) (kx0_0 : List Int → Option ((List Int) × Bool)) : Nat → Int → List Int → Option ((List Int) × Bool)
  | 0, _, _ => none
  | n0 + 1, s0_0, l0_1 => (getI n.tasks t).bind fun x9 => (if decide (s0_0 < (x9.clear.length : Int)) = true then ((getI n.tasks t).bind fun x11 => ((getI x11.clear s0_0).bind fun x12 => ((getI l0_1 x12).bind fun x13 => (gd (ok64 (s0_0 + 1)) ((z39 n t kx0_0 n0) (s0_0 + 1) (l0_1.set x12.toNat 0)))))) else (kx0_0 l0_1))
def z7f (n : GNet) (marks : List Int) (t : Int) (data : List Int) : Option ((List Int) × Bool) := (z4z n marks).bind fun x1 => (if x1 = true then (gd (ok64 ((n.tasks.length : Int) - 1)) ((z01 t 0 ((n.tasks.length : Int) - 1)).bind fun x4 => (if x4 = true then ((z1f data).bind fun x6 => (if x6 = true then (gd (([] : List Int).length + marks.length ≤ SMALL) (z39 n t (z59 n t data) FUEL 0 (([] : List Int) ++ marks))) else (some (([] : List Int), false)))) else (some (([] : List Int), false))))) else (some (([] : List Int), false)))
def z0g : Con := ⟨71, [.v (.s .net) false, .v (.sl .I) false, .v .I false, .v (.sl .I) false], [((.sl .I), true), (.B, true)], [], fun x => z7f x.1 x.2.1 x.2.2.1 x.2.2.2.1⟩
def y9e : Fs := ⟨[z1r, z0d, z0p, z3r], [], []⟩
theorem zb9 : y9e.Ok Try.prog := (fsK za2 (fsK z0i (fsK z3x (fsK yv6 fs0))))
def zo0 : Tmpl := ⟨[(2, .c .i), (3, .c (.s .I)), (4, .c (.bx 4 0)), (10, .c (.ref 35)), (11, .c .i)], [(4, .boxT (.s .net)), (35, .arr .I true)]⟩
def zh7 : Tmpl := ⟨[(2, .c .i), (3, .c (.s .I)), (4, .c (.bx 4 0)), (10, .c (.ref 35))], [(4, .boxT (.s .net)), (35, .arr .I true)]⟩
def y4x (av : AV) (x : HP z0g.ps) (n : Nat) (v : zo0.den) (K : Ks (CR z0g)) : Option (CR z0g) := z39 v.2.1 v.1.1 (fun l0_1 => zh7.at none ((v.1.1, v.1.2.1, (), (), ()), (v.2.1, l0_1, ())) (K (.exit 0))) n v.1.2.2.2.2.1 v.2.2.1
def zl3 (av : AV) (x : HP z0g.ps) : Hdl (CR z0g) := hnd [] zo0 (y4x av x)
theorem y5n : LP z0g Try.f71 [0] zl3 := lp_ok (W := []) (H := []) (xs := [zh7]) zb9 trivial rfl (fun av x v K => by kernel_rfl) (fun av x n v K => by kernel_rfl)
def zo1 : Tmpl := ⟨[(10, .c (.ref 35)), (12, .c (.ref 64)), (13, .c .i)], [(35, .arr .I true), (64, .arr .I true)]⟩
def zh8 : Tmpl := ⟨[(10, .c (.ref 35))], [(35, .arr .I true)]⟩
def y4y (av : AV) (x : HP z0g.ps) (n : Nat) (v : zo1.den) (K : Ks (CR z0g)) : Option (CR z0g) := z3a v.2.2.1 (fun l1_1 => zh8.at none (((), ()), (l1_1, ())) (K (.exit 2))) n v.1.2.2.1 v.2.1
def zl4 (av : AV) (x : HP z0g.ps) : Hdl (CR z0g) := hnd [] zo1 (y4y av x)
theorem y5o : LP z0g Try.f71 [1] zl4 := lp_ok (W := []) (H := []) (xs := [zh8]) zb9 trivial rfl (fun av x v K => by kernel_rfl) (fun av x n v K => by kernel_rfl)
theorem yb5 : z0g.Ok Try.prog := fn_ok (k := z0g) (fn := Try.f71) (W := []) (H := [zl3, zl4]) Try.func71 zb9 ⟨y5n, y5o, trivial⟩ rfl rfl (fun av x => by kernel_rfl)
def zu8  : Option Bool := some true
def z48 (people : List Int) (kx0_0 : Option Bool) : Nat → Int → Option Bool
  | 0, _ => none
  | n0 + 1, s0_0 => if decide (s0_0 < (people.length : Int)) = true then ((getI people s0_0).bind fun x4 => ((z01 x4 0 7).bind fun x5 => (if x5 = true then (gd (ok64 (s0_0 + 1)) ((z48 people kx0_0 n0) (s0_0 + 1))) else (some false)))) else (kx0_0)
def z5z (people : List Int) : Option Bool := (z01 (people.length : Int) 1 4).bind fun x1 => (if x1 = true then (z48 people zu8 FUEL 0) else (some false))
def z2o : Con := ⟨92, [.v (.sl .I) false], [(.B, true)], [], fun x => z5z x.1⟩
def ys4 : Fs := ⟨[z0d], [], []⟩
theorem y4i : ys4.Ok Try.prog := (fsK z0i fs0)
def y0v : Tmpl := ⟨[(0, .c (.s .I)), (3, .c .i)], []⟩
def zy5 : Tmpl := ⟨[], []⟩
def y94 (av : AV) (x : HP z2o.ps) (n : Nat) (v : y0v.den) (K : Ks (CR z2o)) : Option (CR z2o) := z48 v.1.1 (zy5.at none ((), ()) (K (.exit 0))) n v.1.2.1
def y0h (av : AV) (x : HP z2o.ps) : Hdl (CR z2o) := hnd [] y0v (y94 av x)
theorem ya6 : LP z2o Try.f92 [0] y0h := lp_ok (W := []) (H := []) (xs := [zy5]) y4i trivial rfl (fun av x v K => by kernel_rfl) (fun av x n v K => by kernel_rfl)
theorem zv7 : z2o.Ok Try.prog := fn_ok (k := z2o) (fn := Try.f92) (W := []) (H := [y0h]) Try.func92 y4i ⟨ya6, trivial⟩ rfl rfl (fun av x => by kernel_rfl)
def z3j (s0_0 : Int) : Option Bool := gd ((2 : Int) ≠ 0) (some (decide ((Int.tmod s0_0 2) = 1)))
def z1b (role : Int) (kx0_0 : Int → Option Bool) : Nat → Int → Int → Option Bool
  | 0, _, _ => none
  | n0 + 1, s0_0, s0_1 => if decide (s0_1 < role) = true then (gd ((2 : Int) ≠ 0 ∧ ok64 (Int.tdiv s0_0 2)) (gd (ok64 (s0_1 + 1)) ((z1b role kx0_0 n0) (Int.tdiv s0_0 2) (s0_1 + 1)))) else (kx0_0 s0_0)
def z8n (people : List Int) (who : Int) (role : Int) : Option Bool := (z5z people).bind fun x1 => (if x1 = true then ((z01 who 1 (people.length : Int)).bind fun x3 => (if x3 = true then ((z01 role 1 3).bind fun x5 => (if x5 = true then (gd (ok64 (who - 1)) ((getI people (who - 1)).bind fun x8 => (z1b role z3j FUEL x8 1))) else (some false))) else (some false))) else (some false))
def z34 : Con := ⟨122, [.v (.sl .I) false, .v .I false, .v .I false], [(.B, true)], [], fun x => z8n x.1 x.2.1 x.2.2.1⟩
def yg9 : Fs := ⟨[z2o, z0d], [], []⟩
theorem y1x : yg9.Ok Try.prog := (fsK zv7 (fsK z0i fs0))
def zw9 : Tmpl := ⟨[(2, .c .i), (7, .c .i), (8, .c .i)], []⟩
def zp8 : Tmpl := ⟨[(7, .c .i)], []⟩
def y6n (av : AV) (x : HP z34.ps) (n : Nat) (v : zw9.den) (K : Ks (CR z34)) : Option (CR z34) := z1b v.1.1 (fun s0_0 => zp8.at none ((s0_0, ()), ()) (K (.exit 0))) n v.1.2.1 v.1.2.2.1
def zs5 (av : AV) (x : HP z34.ps) : Hdl (CR z34) := hnd [] zw9 (y6n av x)
theorem y7r : LP z34 Try.f122 [0] zs5 := lp_ok (W := []) (H := []) (xs := [zp8]) y1x trivial rfl (fun av x v K => by kernel_rfl) (fun av x n v K => by kernel_rfl)
theorem ym0 : z34.Ok Try.prog := fn_ok (k := z34) (fn := Try.f122) (W := []) (H := [zs5]) Try.func122 y1x ⟨y7r, trivial⟩ rfl rfl (fun av x => by kernel_rfl)
def zm8  : Option Bool := some false
def z2w (did : List GDid) (who : Int) (task : Int) (kx0_0 : Option Bool) : Nat → Int → Option Bool
  | 0, _ => none
  | n0 + 1, s0_0 => if decide (s0_0 < (did.length : Int)) = true then ((getI did s0_0).bind fun x2 => (if decide (x2.who = who) = true then ((getI did s0_0).bind fun x4 => (if decide (x4.task = task) = true then (some true) else (gd (ok64 (s0_0 + 1)) ((z2w did who task kx0_0 n0) (s0_0 + 1))))) else (gd (ok64 (s0_0 + 1)) ((z2w did who task kx0_0 n0) (s0_0 + 1))))) else (kx0_0)
def z8m (did : List GDid) (who : Int) (task : Int) : Option Bool := z2w did who task zm8 FUEL 0
def z33 : Con := ⟨123, [.v (.sl (.s .did)) false, .v .I false, .v .I false], [(.B, true)], [], fun x => z8m x.1 x.2.1 x.2.2.1⟩
def yg8 : Fs := ⟨[], [], []⟩
theorem y1w : yg8.Ok Try.prog := fs0
def zw8 : Tmpl := ⟨[(0, .c (.s (.s .did))), (1, .c .i), (2, .c .i), (7, .c .i)], []⟩
def zp7 : Tmpl := ⟨[], []⟩
def y6m (av : AV) (x : HP z33.ps) (n : Nat) (v : zw8.den) (K : Ks (CR z33)) : Option (CR z33) := z2w v.1.1 v.1.2.1 v.1.2.2.1 (zp7.at none ((), ()) (K (.exit 0))) n v.1.2.2.2.1
def zs4 (av : AV) (x : HP z33.ps) : Hdl (CR z33) := hnd [] zw8 (y6m av x)
theorem y7q : LP z33 Try.f123 [0] zs4 := lp_ok (W := []) (H := []) (xs := [zp7]) y1w trivial rfl (fun av x v K => by kernel_rfl) (fun av x n v K => by kernel_rfl)
theorem yl9 : z33.Ok Try.prog := fn_ok (k := z33) (fn := Try.f123) (W := []) (H := [zs4]) Try.func123 y1w ⟨y7q, trivial⟩ rfl rfl (fun av x => by kernel_rfl)
def zm9 (n : GNet) (people : List Int) (did : List GDid) (t : Int) (s0_0 : Int) (l0_1 : List Int) (bk0 : Int → List Int → Option (List Int)) (s1_0 : Bool) : Option (List Int) := (getI n.tasks t).bind fun x18 => ((z8n people s0_0 x18.role).bind fun x19 => (if x19 = true then (if s1_0 = true then (gd (ok64 (s0_0 + 1)) (bk0 (s0_0 + 1) l0_1)) else ((getI n.tasks t).bind fun x23 => ((z8m did s0_0 x23.apart).bind fun x24 => (if x24 = true then (gd (ok64 (s0_0 + 1)) (bk0 (s0_0 + 1) l0_1)) else (gd (l0_1.length + [s0_0].length ≤ SMALL) (gd (ok64 (s0_0 + 1)) (bk0 (s0_0 + 1) (l0_1 ++ [s0_0])))))))) else (gd (ok64 (s0_0 + 1)) (bk0 (s0_0 + 1) l0_1))))
def z1c (n : GNet) (busy : List GItem) (t : Int) (s0_0 : Int) (kx1_0 : Bool → Option (List Int)) : Nat → Bool → Int → Option (List Int)
  | 0, _, _ => none
  | n1 + 1, s1_0, s1_1 => if decide (s1_1 < (busy.length : Int)) = true then (if s1_0 = true then (gd (ok64 (s1_1 + 1)) ((z1c n busy t s0_0 kx1_0 n1) true (s1_1 + 1))) else ((getI busy s1_1).bind fun x12 => (if decide (x12.who = s0_0) = true then ((getI busy s1_1).bind fun x14 => ((getI n.tasks t).bind fun x15 => (gd (ok64 (s1_1 + 1)) ((z1c n busy t s0_0 kx1_0 n1) (decide (x14.task = x15.apart)) (s1_1 + 1))))) else (gd (ok64 (s1_1 + 1)) ((z1c n busy t s0_0 kx1_0 n1) false (s1_1 + 1)))))) else (kx1_0 s1_0)
def z83 (l0_1 : List Int) : Option (List Int) := some l0_1
def z3k (n : GNet) (people : List Int) (did : List GDid) (busy : List GItem) (t : Int) (kx0_0 : List Int → Option (List Int)) : Nat → Int → List Int → Option (List Int)
  | 0, _, _ => none
  | n0 + 1, s0_0, l0_1 => if decide (s0_0 ≤ (people.length : Int)) = true then (z1c n busy t s0_0 (zm9 n people did t s0_0 l0_1 (z3k n people did busy t kx0_0 n0)) FUEL false 0) else (kx0_0 l0_1)
def z5b (n : GNet) (people : List Int) (did : List GDid) (busy : List GItem) (t : Int) : Option (List Int) := (z1s n).bind fun x1 => (if x1 = true then ((z5z people).bind fun x3 => (if x3 = true then (gd (ok64 ((n.tasks.length : Int) - 1)) ((z01 t 0 ((n.tasks.length : Int) - 1)).bind fun x6 => (if x6 = true then (z3k n people did busy t z83 FUEL 1 ([] : List Int)) else (some ([] : List Int))))) else (some ([] : List Int)))) else (some ([] : List Int)))
def z0j : Con := ⟨77, [.v (.s .net) false, .v (.sl .I) false, .v (.sl (.s .did)) false, .v (.sl (.s .item)) false, .v .I false], [((.sl .I), true)], [], fun x => z5b x.1 x.2.1 x.2.2.1 x.2.2.2.1 x.2.2.2.2.1⟩
def yh0 : Fs := ⟨[z1d, z2o, z0d, z34, z33], [], []⟩
theorem zj0 : yh0.Ok Try.prog := (fsK z7s (fsK zv7 (fsK z0i (fsK ym0 (fsK yl9 fs0)))))
def zg7 : Tmpl := ⟨[(1, .c (.s .I)), (2, .c (.s (.s .did))), (3, .c (.s (.s .item))), (4, .c .i), (5, .c (.bx 5 0)), (11, .c (.ref 15)), (12, .c .i), (13, .c .b), (14, .c .i)], [(5, .boxT (.s .net)), (15, .arr .I true)]⟩
def zb0 : Tmpl := ⟨[(1, .c (.s .I)), (2, .c (.s (.s .did))), (3, .c (.s (.s .item))), (4, .c .i), (5, .c (.bx 5 0)), (11, .c (.ref 15)), (12, .c .i), (13, .c .b)], [(5, .boxT (.s .net)), (15, .arr .I true)]⟩
def y38 (av : AV) (x : HP z0j.ps) (n : Nat) (v : zg7.den) (K : Ks (CR z0j)) : Option (CR z0j) := z1c v.2.1 v.1.2.2.1 v.1.2.2.2.1 v.1.2.2.2.2.2.2.1 (fun s1_0 => zb0.at none ((v.1.1, v.1.2.1, v.1.2.2.1, v.1.2.2.2.1, (), (), v.1.2.2.2.2.2.2.1, s1_0, ()), (v.2.1, v.2.2.1, ())) (K (.exit 2))) n v.1.2.2.2.2.2.2.2.1 v.1.2.2.2.2.2.2.2.2.1
def zd9 (av : AV) (x : HP z0j.ps) : Hdl (CR z0j) := hnd [] zg7 (y38 av x)
theorem y3r : LP z0j Try.f77 [0, 0] zd9 := lp_ok (W := []) (H := []) (xs := [zb0]) zj0 trivial rfl (fun av x v K => by kernel_rfl) (fun av x n v K => by kernel_rfl)
def zx0 : Tmpl := ⟨[(1, .c (.s .I)), (2, .c (.s (.s .did))), (3, .c (.s (.s .item))), (4, .c .i), (5, .c (.bx 5 0)), (11, .c (.ref 15)), (12, .c .i)], [(5, .boxT (.s .net)), (15, .arr .I true)]⟩
def zp9 : Tmpl := ⟨[(11, .c (.ref 15))], [(15, .arr .I true)]⟩
def y6o (av : AV) (x : HP z0j.ps) (n : Nat) (v : zx0.den) (K : Ks (CR z0j)) : Option (CR z0j) := z3k v.2.1 v.1.1 v.1.2.1 v.1.2.2.1 v.1.2.2.2.1 (fun l0_1 => zp9.at none (((), ()), (l0_1, ())) (K (.exit 0))) n v.1.2.2.2.2.2.2.1 v.2.2.1
def zs6 (av : AV) (x : HP z0j.ps) : Hdl (CR z0j) := hnd [] zx0 (y6o av x)
theorem y7s : LP z0j Try.f77 [0] zs6 := lp_ok (W := []) (H := [zd9]) (xs := [zp9]) zj0 ⟨y3r, trivial⟩ rfl (fun av x v K => by kernel_rfl) (fun av x n v K => by kernel_rfl)
theorem y2j : z0j.Ok Try.prog := fn_ok (k := z0j) (fn := Try.f77) (W := []) (H := [zs6]) Try.func77 zj0 ⟨y7s, trivial⟩ rfl rfl (fun av x => by kernel_rfl)
def z57 (n : GNet) (data : List Int) : Option GCase := (z1s n).bind fun x1 => (if x1 = true then ((z1f data).bind fun x3 => (if x3 = true then (gd ((0 : Int) ≤ n.places ∧ n.places ≤ (1000000000 : Int)) (gd (([] : List Int).length + data.length ≤ SMALL) ((getI (List.replicate n.places.toNat (0 : Int)) 0).bind fun x7 => (some (GCase.mk 1 ((List.replicate n.places.toNat (0 : Int)).set (0 : Int).toNat 1) [] (([] : List Int) ++ data) []))))) else (some (GCase.mk 0 [] [] [] [])))) else (some (GCase.mk 0 [] [] [] [])))
def z8g : Con := ⟨100, [.v (.s .net) false, .v (.sl .I) false], [((.s .kase), true)], [], fun x => z57 x.1 x.2.1⟩
def yg4 : Fs := ⟨[z1d, z0p], [], []⟩
theorem yj1 : yg4.Ok Try.prog := (fsK z7s (fsK z3x fs0))
theorem y2f : z8g.Ok Try.prog := fn_ok (k := z8g) (fn := Try.f100) (W := []) (H := []) Try.func100 yj1 trivial rfl rfl (fun av x => by kernel_rfl)
def z6a (c : GCase) : Option Bool := if decide (c.state = 1) = true then ((getI c.marks 1).bind fun x20 => (some (decide (x20 = 0)))) else (if decide ((c.busy.length : Int) = 0) = true then ((getI c.marks 1).bind fun x22 => (some ((decide (c.state = 2)) == (decide (0 < x22))))) else (some false))
def z42 (n : GNet) (c : GCase) (kx0_0 : Option Bool) : Nat → Int → Option Bool
  | 0, _ => none
  | n0 + 1, s0_0 => if decide (s0_0 < (c.did.length : Int)) = true then ((getI c.did s0_0).bind fun x11 => (gd (ok64 ((n.tasks.length : Int) - 1)) ((z01 x11.task 0 ((n.tasks.length : Int) - 1)).bind fun x13 => (if x13 = true then ((getI c.did s0_0).bind fun x15 => ((z01 x15.who 1 4).bind fun x16 => (if x16 = true then (gd (ok64 (s0_0 + 1)) ((z42 n c kx0_0 n0) (s0_0 + 1))) else (some false)))) else (some false))))) else (kx0_0)
def z5y (n : GNet) (c : GCase) : Option Bool := (z4z n c.marks).bind fun x1 => (if x1 = true then ((z6p n c.busy).bind fun x3 => (if x3 = true then ((z1f c.data).bind fun x5 => (if x5 = true then (if decide (60 < (c.did.length : Int)) = true then (some false) else ((z01 c.state 1 3).bind fun x8 => (if x8 = true then (z42 n c (z6a c) FUEL 0) else (some false)))) else (some false))) else (some false))) else (some false))
def z2m : Con := ⟨14, [.v (.s .net) false, .v (.s .kase) false], [(.B, true)], [], fun x => z5y x.1 x.2.1⟩
def yr8 : Fs := ⟨[z1r, z2k, z0p, z0d], [], []⟩
theorem y4d : yr8.Ok Try.prog := (fsK za2 (fsK y2l (fsK z3x (fsK z0i fs0))))
def y0q : Tmpl := ⟨[(2, .c (.bx 2 0)), (3, .c (.bx 3 0)), (5, .c .i)], [(2, .boxT (.s .net)), (3, .boxT (.s .kase))]⟩
def zy0 : Tmpl := ⟨[(3, .c (.bx 3 0))], [(3, .boxT (.s .kase))]⟩
def y8z (av : AV) (x : HP z2m.ps) (n : Nat) (v : y0q.den) (K : Ks (CR z2m)) : Option (CR z2m) := z42 v.2.1 v.2.2.1 (zy0.at none (((), ()), (v.2.2.1, ())) (K (.exit 0))) n v.1.2.2.1
def y0c (av : AV) (x : HP z2m.ps) : Hdl (CR z2m) := hnd [] y0q (y8z av x)
theorem ya1 : LP z2m Try.f14 [0] y0c := lp_ok (W := []) (H := []) (xs := [zy0]) y4d trivial rfl (fun av x v K => by kernel_rfl) (fun av x n v K => by kernel_rfl)
theorem zv5 : z2m.Ok Try.prog := fn_ok (k := z2m) (fn := Try.f14) (W := []) (H := [y0c]) Try.func14 y4d ⟨ya1, trivial⟩ rfl rfl (fun av x => by kernel_rfl)
def z3w (c : GCase) : Option GCase := gd (([] : List Int).length + c.marks.length ≤ SMALL) (gd (([] : List GItem).length + c.busy.length ≤ SMALL) (gd (([] : List Int).length + c.data.length ≤ SMALL) (gd (([] : List GDid).length + c.did.length ≤ SMALL) (some (GCase.mk c.state (([] : List Int) ++ c.marks) (([] : List GItem) ++ c.busy) (([] : List Int) ++ c.data) (([] : List GDid) ++ c.did))))))
def z55 : Con := ⟨69, [.v (.s .kase) false], [((.s .kase), true)], [], fun x => z3w x.1⟩
def yi1 : Fs := ⟨[], [], []⟩
theorem yk1 : yi1.Ok Try.prog := fs0
theorem z90 : z55.Ok Try.prog := fn_ok (k := z55) (fn := Try.f69) (W := []) (H := []) Try.func69 yk1 trivial rfl rfl (fun av x => by kernel_rfl)
def z43 (n : GNet) (people : List Int) (c : GCase) (t : Int) (who : Int) : Option (GCase × Bool) := (z3w c).bind fun x1 => ((z5y n c).bind fun x2 => (if x2 = true then (if decide (c.state = 1) = true then ((z6b n c.marks c.busy t).bind fun x5 => (if x5 = true then ((z5b n people c.did c.busy t).bind fun x7 => ((z61 x7 who).bind fun x8 => (if x8 = true then (if decide ((c.busy.length : Int) = 6) = true then (some (x1, false)) else ((z7e n c.marks t).bind fun x11 => (gd (x1.busy.length + [(GItem.mk t who 0)].length ≤ SMALL) (some ((GCase.mk x1.state x11 (x1.busy ++ [(GItem.mk t who 0)]) x1.data x1.did), true))))) else (some (x1, false))))) else (some (x1, false)))) else (some (x1, false))) else (some (x1, false))))
def z67 : Con := ⟨112, [.v (.s .net) false, .v (.sl .I) false, .v (.s .kase) false, .v .I false, .v .I false], [((.s .kase), true), (.B, true)], [], fun x => z43 x.1 x.2.1 x.2.2.1 x.2.2.2.1 x.2.2.2.2.1⟩
def y75 : Fs := ⟨[z55, z2m, z8i, z0j, z2p, z2a], [], []⟩
theorem y7j : y75.Ok Try.prog := (fsK z90 (fsK zv5 (fsK y2i (fsK y2j (fsK zv9 (fsK yb4 fs0))))))
theorem zv6 : z67.Ok Try.prog := fn_ok (k := z67) (fn := Try.f112) (W := []) (H := []) Try.func112 y7j trivial rfl rfl (fun av x => by kernel_rfl)
def z5i (n : GNet) (c : GCase) (k : Int) (v : Int) (num : Int) : Option (GCase × Bool) := (z3w c).bind fun x1 => ((z5y n c).bind fun x2 => (if x2 = true then (if decide (c.state = 1) = true then (gd (ok64 ((c.busy.length : Int) - 1)) ((z01 k 0 ((c.busy.length : Int) - 1)).bind fun x6 => (if x6 = true then ((z01 v (-1) 2).bind fun x8 => (if x8 = true then ((z01 num (-99) 99).bind fun x10 => (if x10 = true then (if decide ((c.did.length : Int) = 60) = true then (some (x1, false)) else ((getI c.busy k).bind fun x13 => ((z4e c.data v num).bind fun x14 => (gd (ok64 (x13.did + 1)) ((getI x1.busy k).bind fun x16 => (gd (ok64 (x13.did + 1)) ((getI n.tasks x13.task).bind fun x18 => (if decide ((x13.did + 1) < x18.need) = true then (some ((GCase.mk x1.state x1.marks (x1.busy.set k.toNat (GItem.mk x16.task x16.who (x13.did + 1))) x14 x1.did), true)) else ((z7f n c.marks x13.task x14).bind fun x20 => (if x20.2 = true then (gd ((0 : Int) ≤ k ∧ k ≤ (c.busy.length : Int)) (gd (([] : List GItem).length + (c.busy.take k.toNat).length ≤ SMALL) (gd (ok64 (k + 1)) (gd ((0 : Int) ≤ (k + 1) ∧ (k + 1) ≤ (c.busy.length : Int)) (gd ((([] : List GItem) ++ (c.busy.take k.toNat)).length + (c.busy.drop (k + 1).toNat).length ≤ SMALL) (gd (x1.did.length + [(GDid.mk x13.task x13.who)].length ≤ SMALL) ((getI x20.1 1).bind fun x28 => (if decide (0 < x28) = true then (some ((GCase.mk 2 x20.1 ([] : List GItem) x14 (x1.did ++ [(GDid.mk x13.task x13.who)])), true)) else (some ((GCase.mk x1.state x20.1 ((([] : List GItem) ++ (c.busy.take k.toNat)) ++ (c.busy.drop (k + 1).toNat)) x14 (x1.did ++ [(GDid.mk x13.task x13.who)])), true)))))))))) else ((z3w c).bind fun x30 => (some (x30, false))))))))))))) else (some (x1, false)))) else (some (x1, false)))) else (some (x1, false))))) else (some (x1, false))) else (some (x1, false))))
def z7b : Con := ⟨25, [.v (.s .net) false, .v (.s .kase) false, .v .I false, .v .I false, .v .I false], [((.s .kase), true), (.B, true)], [], fun x => z5i x.1 x.2.1 x.2.2.1 x.2.2.2.1 x.2.2.2.2.1⟩
def y9c : Fs := ⟨[z55, z2m, z0d, z8h, z0g], [], []⟩
theorem y9w : y9c.Ok Try.prog := (fsK z90 (fsK zv5 (fsK z0i (fsK y2g (fsK yb5 fs0)))))
theorem y0m : z7b.Ok Try.prog := fn_ok (k := z7b) (fn := Try.f25) (W := []) (H := []) Try.func25 y9w trivial rfl rfl (fun av x => by kernel_rfl)
def z7d (n : GNet) (c : GCase) : Option (GCase × Bool) := (z3w c).bind fun x1 => ((z5y n c).bind fun x2 => (if x2 = true then (if decide (c.state = 1) = true then (some ((GCase.mk 3 x1.marks ([] : List GItem) x1.data x1.did), true)) else (some (x1, false))) else (some (x1, false))))
def zc2 : Con := ⟨171, [.v (.s .net) false, .v (.s .kase) false], [((.s .kase), true), (.B, true)], [], fun x => z7d x.1 x.2.1⟩
def y9b : Fs := ⟨[z55, z2m], [], []⟩
theorem y9v : y9b.Ok Try.prog := (fsK z90 (fsK zv5 fs0))
theorem yb3 : zc2.Ok Try.prog := fn_ok (k := zc2) (fn := Try.f171) (W := []) (H := []) Try.func171 y9v trivial rfl rfl (fun av x => by kernel_rfl)
def zu9 (s0_0 : Int) (bk0 : Int → Option Bool) (s1_0 : Int) : Option Bool := if ((decide (s0_0 = 0)) == (decide (s1_0 = 0))) = true then (if decide (1 < s1_0) = true then (some false) else (gd (ok64 (s0_0 + 1)) (bk0 (s0_0 + 1)))) else (some false)
def z0l (tree : List GNode) (s0_0 : Int) (kx1_0 : Int → Option Bool) : Nat → Int → Int → Option Bool
  | 0, _, _ => none
  | n1 + 1, s1_0, s1_1 => if decide (s1_1 < (tree.length : Int)) = true then ((getI tree s1_1).bind fun x15 => (if decide (x15.yes = s0_0) = true then (gd (ok64 (s1_0 + 1)) ((getI tree s1_1).bind fun x18 => (if decide (x18.no = s0_0) = true then (gd (ok64 ((s1_0 + 1) + 1)) (gd (ok64 (s1_1 + 1)) ((z0l tree s0_0 kx1_0 n1) ((s1_0 + 1) + 1) (s1_1 + 1)))) else (gd (ok64 (s1_1 + 1)) ((z0l tree s0_0 kx1_0 n1) (s1_0 + 1) (s1_1 + 1)))))) else ((getI tree s1_1).bind fun x23 => (if decide (x23.no = s0_0) = true then (gd (ok64 (s1_0 + 1)) (gd (ok64 (s1_1 + 1)) ((z0l tree s0_0 kx1_0 n1) (s1_0 + 1) (s1_1 + 1)))) else (gd (ok64 (s1_1 + 1)) ((z0l tree s0_0 kx1_0 n1) s1_0 (s1_1 + 1))))))) else (kx1_0 s1_0)
def zv0 (s0_0 : Int) (bk0 : Int → Option Bool) (s2_0 : Int) : Option Bool := if ((decide (s0_0 = 0)) == (decide (s2_0 = 0))) = true then (if decide (1 < s2_0) = true then (some false) else (gd (ok64 (s0_0 + 1)) (bk0 (s0_0 + 1)))) else (some false)
def zv1 (s0_0 : Int) (bk0 : Int → Option Bool) (s3_0 : Int) : Option Bool := if ((decide (s0_0 = 0)) == (decide (s3_0 = 0))) = true then (if decide (1 < s3_0) = true then (some false) else (gd (ok64 (s0_0 + 1)) (bk0 (s0_0 + 1)))) else (some false)
def zv2 (s0_0 : Int) (bk0 : Int → Option Bool) (s4_0 : Int) : Option Bool := if ((decide (s0_0 = 0)) == (decide (s4_0 = 0))) = true then (if decide (1 < s4_0) = true then (some false) else (gd (ok64 (s0_0 + 1)) (bk0 (s0_0 + 1)))) else (some false)
def zv3  : Option Bool := some true
def z1p (tree : List GNode) (kx0_0 : Option Bool) : Nat → Int → Option Bool
  | 0, _ => none
  | n0 + 1, s0_0 => if decide (s0_0 < (tree.length : Int)) = true then ((getI tree s0_0).bind fun x3 => ((z3s x3.if_).bind fun x4 => (if x4 = true then ((z01 x3.ans 0 2).bind fun x6 => (if x6 = true then ((z1f x3.stone).bind fun x8 => (if x8 = true then ((z0q x3.if_ x3.stone).bind fun x10 => (if x10 = true then (if decide (x3.yes = (-1)) = true then (if decide (x3.no = (-1)) = true then (z0l tree s0_0 (zu9 s0_0 (z1p tree kx0_0 n0)) FUEL 0 0) else (gd (ok64 (s0_0 + 1)) (gd (ok64 ((tree.length : Int) - 1)) ((z01 x3.no (s0_0 + 1) ((tree.length : Int) - 1)).bind fun x33 => (if x33 = true then (z0l tree s0_0 (zv0 s0_0 (z1p tree kx0_0 n0)) FUEL 0 0) else (some false)))))) else (gd (ok64 (s0_0 + 1)) (gd (ok64 ((tree.length : Int) - 1)) ((z01 x3.yes (s0_0 + 1) ((tree.length : Int) - 1)).bind fun x54 => (if x54 = true then (if decide (x3.no = (-1)) = true then (z0l tree s0_0 (zv1 s0_0 (z1p tree kx0_0 n0)) FUEL 0 0) else (gd (ok64 (s0_0 + 1)) (gd (ok64 ((tree.length : Int) - 1)) ((z01 x3.no (s0_0 + 1) ((tree.length : Int) - 1)).bind fun x76 => (if x76 = true then (z0l tree s0_0 (zv2 s0_0 (z1p tree kx0_0 n0)) FUEL 0 0) else (some false)))))) else (some false)))))) else (some false))) else (some false))) else (some false))) else (some false)))) else (kx0_0)
def z60 (tree : List GNode) : Option Bool := if decide (12 < (tree.length : Int)) = true then (some false) else (z1p tree zv3 FUEL 0)
def z0t : Con := ⟨93, [.v (.sl (.s .node)) false], [(.B, true)], [], fun x => z60 x.1⟩
def ys5 : Fs := ⟨[z4x, z0d, z0p, z2n], [], []⟩
theorem zr5 : ys5.Ok Try.prog := (fsK z7r (fsK z0i (fsK z3x (fsK z4b fs0))))
def zo3 : Tmpl := ⟨[(0, .c (.s (.s .node))), (3, .c .i), (5, .c .i), (6, .c .i)], []⟩
def zi0 : Tmpl := ⟨[(0, .c (.s (.s .node))), (3, .c .i), (5, .c .i)], []⟩
def y50 (av : AV) (x : HP z0t.ps) (n : Nat) (v : zo3.den) (K : Ks (CR z0t)) : Option (CR z0t) := z0l v.1.1 v.1.2.1 (fun s1_0 => zi0.at none ((v.1.1, v.1.2.1, s1_0, ()), ()) (K (.exit 2))) n v.1.2.2.1 v.1.2.2.2.1
def zl6 (av : AV) (x : HP z0t.ps) : Hdl (CR z0t) := hnd [] zo3 (y50 av x)
theorem y5q : LP z0t Try.f93 [0, 0] zl6 := lp_ok (W := []) (H := []) (xs := [zi0]) zr5 trivial rfl (fun av x v K => by kernel_rfl) (fun av x n v K => by kernel_rfl)
def y0w : Tmpl := ⟨[(0, .c (.s (.s .node))), (3, .c .i)], []⟩
def zy6 : Tmpl := ⟨[], []⟩
def y95 (av : AV) (x : HP z0t.ps) (n : Nat) (v : y0w.den) (K : Ks (CR z0t)) : Option (CR z0t) := z1p v.1.1 (zy6.at none ((), ()) (K (.exit 0))) n v.1.2.1
def y0i (av : AV) (x : HP z0t.ps) : Hdl (CR z0t) := hnd [] y0w (y95 av x)
theorem ya7 : LP z0t Try.f93 [0] y0i := lp_ok (W := []) (H := [zl6]) (xs := [zy6]) zr5 ⟨y5q, trivial⟩ rfl (fun av x v K => by kernel_rfl) (fun av x n v K => by kernel_rfl)
theorem y4n : z0t.Ok Try.prog := fn_ok (k := z0t) (fn := Try.f93) (W := []) (H := [y0i]) Try.func93 zr5 ⟨ya7, trivial⟩ rfl rfl (fun av x => by kernel_rfl)
def zn1 (s0_0 : Int) (s0_1 : Int) : Option (Int × Int) := some (s0_0, s0_1)
def zn2 (s0_0 : Int) (s0_1 : Int) : Option (Int × Int) := some (s0_0, s0_1)
def z1t (tree : List GNode) (data : List Int) (kx0_0 : Int → Int → Option (Int × Int)) (kx0_1 : Int → Int → Option (Int × Int)) : Nat → Int → Int → Int → Int → Option (Int × Int)
  | 0, _, _, _, _ => none
  | n0 + 1, s0_0, s0_1, s0_2, s0_3 => if decide (s0_3 < 12) = true then (if decide (s0_2 = (-1)) = true then (kx0_0 s0_0 s0_1) else ((getI tree s0_2).bind fun x4 => ((z0q x4.if_ data).bind fun x5 => (if x5 = true then ((getI tree s0_2).bind fun x7 => (gd (ok64 (s0_3 + 1)) ((z1t tree data kx0_0 kx0_1 n0) s0_2 s0_2 x7.yes (s0_3 + 1)))) else ((getI tree s0_2).bind fun x9 => (gd (ok64 (s0_3 + 1)) ((z1t tree data kx0_0 kx0_1 n0) s0_0 s0_2 x9.no (s0_3 + 1)))))))) else (kx0_1 s0_0 s0_1)
def zn3 (s1_0 : Int) (s1_1 : Int) : Option (Int × Int) := some (s1_0, s1_1)
def zn4 (s1_0 : Int) (s1_1 : Int) : Option (Int × Int) := some (s1_0, s1_1)
def z4h (tree : List GNode) (data : List Int) : Option (Int × Int) := if decide ((tree.length : Int) = 0) = true then (z1t tree data zn1 zn2 FUEL (-1) (-1) (-1) 0) else (z1t tree data zn3 zn4 FUEL (-1) (-1) 0 0)
def z1m : Con := ⟨169, [.v (.sl (.s .node)) false, .v (.sl .I) false], [(.I, true), (.I, true)], [], fun x => z4h x.1 x.2.1⟩
def yi4 : Fs := ⟨[z2n], [], []⟩
theorem y22 : yi4.Ok Try.prog := (fsK z4b fs0)
def zx5 : Tmpl := ⟨[(0, .c (.s (.s .node))), (1, .c (.s .I)), (6, .c .i), (7, .c .i), (8, .c .i), (9, .c .i)], []⟩
def z88 : Tmpl := ⟨[(6, .c .i), (7, .c .i)], []⟩
def y6t (av : AV) (x : HP z1m.ps) (n : Nat) (v : zx5.den) (K : Ks (CR z1m)) : Option (CR z1m) := z1t v.1.1 v.1.2.1 (fun s0_0 s0_1 => z88.at none ((s0_0, s0_1, ()), ()) (K (.exit 0))) (fun s0_0 s0_1 => z88.at none ((s0_0, s0_1, ()), ()) (K (.exit 0))) n v.1.2.2.1 v.1.2.2.2.1 v.1.2.2.2.2.1 v.1.2.2.2.2.2.1
def zt1 (av : AV) (x : HP z1m.ps) : Hdl (CR z1m) := hnd [] zx5 (y6t av x)
theorem y7x : LP z1m Try.f169 [0] zt1 := lp_ok (W := []) (H := []) (xs := [z88]) y22 trivial rfl (fun av x v K => by kernel_rfl) (fun av x n v K => by kernel_rfl)
theorem zk3 : z1m.Ok Try.prog := fn_ok (k := z1m) (fn := Try.f169) (W := []) (H := [zt1]) Try.func169 y22 ⟨y7x, trivial⟩ rfl rfl (fun av x => by kernel_rfl)
def z8o (tree : List GNode) (data : List Int) : Option Int := (z60 tree).bind fun x1 => (if x1 = true then ((z1f data).bind fun x3 => (if x3 = true then ((z4h tree data).bind fun x5 => (if decide (x5.1 = (-1)) = true then (some 0) else ((getI tree x5.1).bind fun x7 => (some x7.ans)))) else (some 0))) else (some 0))
def zj2 : Con := ⟨154, [.v (.sl (.s .node)) false, .v (.sl .I) false], [(.I, true)], [], fun x => z8o x.1 x.2.1⟩
def yh2 : Fs := ⟨[z0t, z0p, z1m], [], []⟩
theorem yj4 : yh2.Ok Try.prog := (fsK y4n (fsK z3x (fsK zk3 fs0)))
theorem ym1 : zj2.Ok Try.prog := fn_ok (k := zj2) (fn := Try.f154) (W := []) (H := []) Try.func154 yj4 trivial rfl rfl (fun av x => by kernel_rfl)
def z8u (tree : List GNode) (a : List Int) (b : List Int) : Option Bool := (z4h tree a).bind fun x1 => ((z4h tree b).bind fun x2 => (if decide (x1.2 = x2.2) = true then (if decide (x1.2 = (-1)) = true then (some true) else ((getI tree x1.2).bind fun x5 => ((z0q x5.if_ a).bind fun x6 => ((getI tree x1.2).bind fun x7 => ((z0q x7.if_ b).bind fun x8 => (some (x6 == x8))))))) else (some false)))
def zj7 : Con := ⟨170, [.v (.sl (.s .node)) false, .v (.sl .I) false, .v (.sl .I) false], [(.B, true)], [], fun x => z8u x.1 x.2.1 x.2.2.1⟩
def yi3 : Fs := ⟨[z1m, z2n], [], []⟩
theorem yk2 : yi3.Ok Try.prog := (fsK zk3 (fsK z4b fs0))
theorem ym7 : zj7.Ok Try.prog := fn_ok (k := zj7) (fn := Try.f170) (W := []) (H := []) Try.func170 yk2 trivial rfl rfl (fun av x => by kernel_rfl)
def z84 (l0_1 : List GNode) : Option (List GNode) := some l0_1
def z3m (tree : List GNode) (kx0_0 : List GNode → Option (List GNode)) : Nat → Int → List GNode → Option (List GNode)
  | 0, _, _ => none
  | n0 + 1, s0_0, l0_1 => if decide (s0_0 < (tree.length : Int)) = true then ((getI tree s0_0).bind fun x2 => (gd (([] : List Int).length + x2.stone.length ≤ SMALL) (gd (l0_1.length + [(GNode.mk x2.if_ x2.yes x2.no x2.ans (([] : List Int) ++ x2.stone))].length ≤ SMALL) (gd (ok64 (s0_0 + 1)) ((z3m tree kx0_0 n0) (s0_0 + 1) (l0_1 ++ [(GNode.mk x2.if_ x2.yes x2.no x2.ans (([] : List Int) ++ x2.stone))])))))) else (kx0_0 l0_1)
def z6s (tree : List GNode) : Option (List GNode) := z3m tree z84 FUEL 0 ([] : List GNode)
def z2l : Con := ⟨157, [.v (.sl (.s .node)) false], [((.sl (.s .node)), true)], [], fun x => z6s x.1⟩
def yi2 : Fs := ⟨[], [], []⟩
theorem y21 : yi2.Ok Try.prog := fs0
def zx4 : Tmpl := ⟨[(0, .c (.s (.s .node))), (3, .c (.ref 6)), (4, .c .i)], [(6, .arr (.s .node) true)]⟩
def zq3 : Tmpl := ⟨[(3, .c (.ref 6))], [(6, .arr (.s .node) true)]⟩
def y6s (av : AV) (x : HP z2l.ps) (n : Nat) (v : zx4.den) (K : Ks (CR z2l)) : Option (CR z2l) := z3m v.1.1 (fun l0_1 => zq3.at none (((), ()), (l0_1, ())) (K (.exit 0))) n v.1.2.2.1 v.2.1
def zt0 (av : AV) (x : HP z2l.ps) : Hdl (CR z2l) := hnd [] zx4 (y6s av x)
theorem y7w : LP z2l Try.f157 [0] zt0 := lp_ok (W := []) (H := []) (xs := [zq3]) y21 trivial rfl (fun av x v K => by kernel_rfl) (fun av x n v K => by kernel_rfl)
theorem y2m : z2l.Ok Try.prog := fn_ok (k := z2l) (fn := Try.f157) (W := []) (H := [zt0]) Try.func157 y21 ⟨y7w, trivial⟩ rfl rfl (fun av x => by kernel_rfl)
def z5r (tree : List GNode) (data : List Int) (e : GAsk) (ans : Int) (x1 : (List GNode)) : Option ((List GNode) × Bool) := (z4h tree data).bind fun x20 => (if decide (x20.2 = (-1)) = true then (gd (([] : List Int).length + data.length ≤ SMALL) (gd (x1.length + [(GNode.mk e (-1) (-1) ans (([] : List Int) ++ data))].length ≤ SMALL) (some ((x1 ++ [(GNode.mk e (-1) (-1) ans (([] : List Int) ++ data))]), true)))) else ((getI tree x20.2).bind fun x24 => ((z0q x24.if_ data).bind fun x25 => (if x25 = true then ((getI x1 x20.2).bind fun x27 => (gd (([] : List Int).length + data.length ≤ SMALL) (gd ((x1.set x20.2.toNat (GNode.mk x27.if_ (tree.length : Int) x27.no x27.ans x27.stone)).length + [(GNode.mk e (-1) (-1) ans (([] : List Int) ++ data))].length ≤ SMALL) (some (((x1.set x20.2.toNat (GNode.mk x27.if_ (tree.length : Int) x27.no x27.ans x27.stone)) ++ [(GNode.mk e (-1) (-1) ans (([] : List Int) ++ data))]), true))))) else ((getI x1 x20.2).bind fun x30 => (gd (([] : List Int).length + data.length ≤ SMALL) (gd ((x1.set x20.2.toNat (GNode.mk x30.if_ x30.yes (tree.length : Int) x30.ans x30.stone)).length + [(GNode.mk e (-1) (-1) ans (([] : List Int) ++ data))].length ≤ SMALL) (some (((x1.set x20.2.toNat (GNode.mk x30.if_ x30.yes (tree.length : Int) x30.ans x30.stone)) ++ [(GNode.mk e (-1) (-1) ans (([] : List Int) ++ data))]), true)))))))))
def z2x (tree : List GNode) (data : List Int) (e : GAsk) (x1 : (List GNode)) (kx0_0 : Option ((List GNode) × Bool)) : Nat → Int → Option ((List GNode) × Bool)
  | 0, _ => none
  | n0 + 1, s0_0 => if decide (s0_0 < (tree.length : Int)) = true then ((getI tree s0_0).bind fun x12 => ((z8u tree x12.stone data).bind fun x13 => (if x13 = true then ((getI tree s0_0).bind fun x15 => ((z0q e x15.stone).bind fun x16 => (if x16 = true then (some (x1, false)) else (gd (ok64 (s0_0 + 1)) ((z2x tree data e x1 kx0_0 n0) (s0_0 + 1)))))) else (gd (ok64 (s0_0 + 1)) ((z2x tree data e x1 kx0_0 n0) (s0_0 + 1)))))) else (kx0_0)
def z4f (tree : List GNode) (data : List Int) (e : GAsk) (ans : Int) : Option ((List GNode) × Bool) := (z6s tree).bind fun x1 => ((z60 tree).bind fun x2 => (if x2 = true then ((z1f data).bind fun x4 => (if x4 = true then ((z0q e data).bind fun x6 => (if x6 = true then ((z01 ans 0 2).bind fun x8 => (if x8 = true then (if decide ((tree.length : Int) = 12) = true then (some (x1, false)) else (z2x tree data e x1 (z5r tree data e ans x1) FUEL 0)) else (some (x1, false)))) else (some (x1, false)))) else (some (x1, false)))) else (some (x1, false))))
def z2c : Con := ⟨155, [.v (.sl (.s .node)) false, .v (.sl .I) false, .v (.s .ask) false, .v .I false], [((.sl (.s .node)), true), (.B, true)], [], fun x => z4f x.1 x.2.1 x.2.2.1 x.2.2.2.1⟩
def yh1 : Fs := ⟨[z2l, z0t, z0p, z2n, z0d, zj7, z1m], [], []⟩
theorem y1y : yh1.Ok Try.prog := (fsK y2m (fsK y4n (fsK z3x (fsK z4b (fsK z0i (fsK ym7 (fsK zk3 fs0)))))))
def zx1 : Tmpl := ⟨[(0, .c (.s (.s .node))), (1, .c (.s .I)), (3, .c .i), (6, .c (.bx 6 0)), (10, .c (.ref 15)), (11, .c .i)], [(6, .boxT (.s .ask)), (15, .arr (.s .node) true)]⟩
def zq0 : Tmpl := ⟨[(0, .c (.s (.s .node))), (1, .c (.s .I)), (3, .c .i), (6, .c (.bx 6 0)), (10, .c (.ref 15))], [(6, .boxT (.s .ask)), (15, .arr (.s .node) true)]⟩
def y6p (av : AV) (x : HP z2c.ps) (n : Nat) (v : zx1.den) (K : Ks (CR z2c)) : Option (CR z2c) := z2x v.1.1 v.1.2.1 v.2.1 v.2.2.1 (zq0.at none ((v.1.1, v.1.2.1, v.1.2.2.1, (), (), ()), (v.2.1, v.2.2.1, ())) (K (.exit 0))) n v.1.2.2.2.2.2.1
def zs7 (av : AV) (x : HP z2c.ps) : Hdl (CR z2c) := hnd [] zx1 (y6p av x)
theorem y7t : LP z2c Try.f155 [0] zs7 := lp_ok (W := []) (H := []) (xs := [zq0]) y1y trivial rfl (fun av x v K => by kernel_rfl) (fun av x n v K => by kernel_rfl)
theorem y2k : z2c.Ok Try.prog := fn_ok (k := z2c) (fn := Try.f155) (W := []) (H := [zs7]) Try.func155 y1y ⟨y7t, trivial⟩ rfl rfl (fun av x => by kernel_rfl)
def zn5  : Option Bool := some true
def z3p (nets : List GNet) (kx0_0 : Option Bool) : Nat → Int → Option Bool
  | 0, _ => none
  | n0 + 1, s0_0 => if decide (s0_0 < (nets.length : Int)) = true then ((getI nets s0_0).bind fun x4 => ((z1s x4).bind fun x5 => (if x5 = true then (gd (ok64 (s0_0 + 1)) ((z3p nets kx0_0 n0) (s0_0 + 1))) else (some false)))) else (kx0_0)
def z8x (nets : List GNet) : Option Bool := (z01 (nets.length : Int) 1 3).bind fun x1 => (if x1 = true then (z3p nets zn5 FUEL 0) else (some false))
def z36 : Con := ⟨91, [.v (.sl (.s .net)) false], [(.B, true)], [], fun x => z8x x.1⟩
def yi8 : Fs := ⟨[z0d, z1d], [], []⟩
theorem y23 : yi8.Ok Try.prog := (fsK z0i (fsK z7s fs0))
def zx8 : Tmpl := ⟨[(0, .c (.s (.s .net))), (3, .c .i)], []⟩
def zq6 : Tmpl := ⟨[], []⟩
def y6w (av : AV) (x : HP z36.ps) (n : Nat) (v : zx8.den) (K : Ks (CR z36)) : Option (CR z36) := z3p v.1.1 (zq6.at none ((), ()) (K (.exit 0))) n v.1.2.1
def zt4 (av : AV) (x : HP z36.ps) : Hdl (CR z36) := hnd [] zx8 (y6w av x)
theorem y80 : LP z36 Try.f91 [0] zt4 := lp_ok (W := []) (H := []) (xs := [zq6]) y23 trivial rfl (fun av x v K => by kernel_rfl) (fun av x n v K => by kernel_rfl)
theorem yn0 : z36.Ok Try.prog := fn_ok (k := z36) (fn := Try.f91) (W := []) (H := [zt4]) Try.func91 y23 ⟨y80, trivial⟩ rfl rfl (fun av x => by kernel_rfl)
def z5w (p0_1 : Int) (l0_1 : List GTask) : Option GNet := some (GNet.mk p0_1 l0_1)
def z26 (n : GNet) (kx0_0 : List GTask → Option GNet) : Nat → Int → List GTask → Option GNet
  | 0, _, _ => none
  | n0 + 1, s0_0, l0_1 => if decide (s0_0 < (n.tasks.length : Int)) = true then ((getI n.tasks s0_0).bind fun x2 => (gd (([] : List Int).length + x2.in_.length ≤ SMALL) (gd (([] : List GFlow).length + x2.out.length ≤ SMALL) (gd (([] : List Int).length + x2.clear.length ≤ SMALL) (gd (l0_1.length + [(GTask.mk x2.join x2.split (([] : List Int) ++ x2.in_) (([] : List GFlow) ++ x2.out) (([] : List Int) ++ x2.clear) x2.role x2.apart x2.all x2.need)].length ≤ SMALL) (gd (ok64 (s0_0 + 1)) ((z26 n kx0_0 n0) (s0_0 + 1) (l0_1 ++ [(GTask.mk x2.join x2.split (([] : List Int) ++ x2.in_) (([] : List GFlow) ++ x2.out) (([] : List Int) ++ x2.clear) x2.role x2.apart x2.all x2.need)])))))))) else (kx0_0 l0_1)
def z4k (n : GNet) : Option GNet := z26 n (z5w n.places) FUEL 0 ([] : List GTask)
def z10 : Con := ⟨158, [.v (.s .net) false], [((.s .net), true)], [], fun x => z4k x.1⟩
def y5g : Fs := ⟨[], [], []⟩
theorem zl0 : y5g.Ok Try.prog := fs0
def za8 : Tmpl := ⟨[(1, .c (.bx 1 0)), (2, .c (.bx 2 0)), (3, .c (.bx 3 0)), (4, .c .i)], [(1, .boxT (.s .net)), (2, .box [.i, .nl]), (3, .box [.i, .ref 510301]), (510301, .arr (.s .task) true)]⟩
def z9m : Tmpl := ⟨[(2, .c (.bx 2 0)), (3, .c (.bx 3 0))], [(2, .box [.i, .nl]), (3, .box [.i, .ref 510301]), (510301, .arr (.s .task) true)]⟩
def y1h (av : AV) (x : HP z10.ps) (n : Nat) (v : za8.den) (K : Ks (CR z10)) : Option (CR z10) := z26 v.2.1 (fun l0_1 => z9m.at none (((), (), ()), ((v.2.2.1.1, (), ()), (v.2.2.2.1.1, (), ()), l0_1, ())) (K (.exit 0))) n v.1.2.2.2.1 v.2.2.2.2.1
def z9t (av : AV) (x : HP z10.ps) : Hdl (CR z10) := hnd [.b 3 1 510301 (.s .task)] za8 (y1h av x)
theorem y2c : LP z10 Try.f158 [0] z9t := lp_ok (W := []) (H := []) (xs := [z9m]) zl0 trivial rfl (fun av x v K => by kernel_rfl) (fun av x n v K => by kernel_rfl)
theorem zn7 : z10.Ok Try.prog := fn_ok (k := z10) (fn := Try.f158) (W := []) (H := [z9t]) Try.func158 zl0 ⟨y2c, trivial⟩ rfl rfl (fun av x => by kernel_rfl)
def z82 (p0_0 : List Int) (l0_1 : List GNet) : Option GHouse := some (GHouse.mk l0_1 p0_0 [] [])
def z3i (nets : List GNet) (kx0_0 : List GNet → Option GHouse) : Nat → Int → List GNet → Option GHouse
  | 0, _, _ => none
  | n0 + 1, s0_0, l0_1 => if decide (s0_0 < (nets.length : Int)) = true then ((getI nets s0_0).bind fun x7 => ((z4k x7).bind fun x8 => (gd (l0_1.length + [x8].length ≤ SMALL) (gd (ok64 (s0_0 + 1)) ((z3i nets kx0_0 n0) (s0_0 + 1) (l0_1 ++ [x8])))))) else (kx0_0 l0_1)
def z8l (nets : List GNet) (people : List Int) : Option GHouse := (z8x nets).bind fun x1 => (if x1 = true then ((z5z people).bind fun x3 => (if x3 = true then (gd (([] : List Int).length + people.length ≤ SMALL) (z3i nets (z82 (([] : List Int) ++ people)) FUEL 0 ([] : List GNet))) else (some (GHouse.mk [] [] [] [])))) else (some (GHouse.mk [] [] [] [])))
def z32 : Con := ⟨128, [.v (.sl (.s .net)) false, .v (.sl .I) false], [((.s .house), true)], [], fun x => z8l x.1 x.2.1⟩
def yg7 : Fs := ⟨[z36, z2o, z10], [], []⟩
theorem y1v : yg7.Ok Try.prog := (fsK yn0 (fsK zv7 (fsK zn7 fs0)))
def zw7 : Tmpl := ⟨[(0, .c (.s (.s .net))), (4, .c (.bx 4 0)), (5, .c (.bx 5 0)), (6, .c .i)], [(4, .box [.nl, .nl, .nl, .nl]), (5, .box [.ref 510500, .ref 18, .nl, .nl]), (510500, .arr (.s .net) true), (18, .arr .I true)]⟩
def zp6 : Tmpl := ⟨[(4, .c (.bx 4 0)), (5, .c (.bx 5 0))], [(4, .box [.nl, .nl, .nl, .nl]), (5, .box [.ref 510500, .ref 18, .nl, .nl]), (510500, .arr (.s .net) true), (18, .arr .I true)]⟩
def y6l (av : AV) (x : HP z32.ps) (n : Nat) (v : zw7.den) (K : Ks (CR z32)) : Option (CR z32) := z3i v.1.1 (fun l0_1 => zp6.at none (((), (), ()), (((), (), (), (), ()), ((), (), (), (), ()), l0_1, v.2.2.2.2.1, ())) (K (.exit 0))) n v.1.2.2.2.1 v.2.2.2.1
def zs3 (av : AV) (x : HP z32.ps) : Hdl (CR z32) := hnd [.b 5 0 510500 (.s .net)] zw7 (y6l av x)
theorem y7p : LP z32 Try.f128 [0] zs3 := lp_ok (W := []) (H := []) (xs := [zp6]) y1v trivial rfl (fun av x v K => by kernel_rfl) (fun av x n v K => by kernel_rfl)
theorem yl8 : z32.Ok Try.prog := fn_ok (k := z32) (fn := Try.f128) (W := []) (H := [zs3]) Try.func128 y1v ⟨y7p, trivial⟩ rfl rfl (fun av x => by kernel_rfl)
def z85 (x2 : (List GNode)) (p0_0 : List Int) (l0_1 : List GNet) (l1_1 : List GRun) : Option GHouse := some (GHouse.mk l0_1 p0_0 x2 l1_1)
def z3o (h : GHouse) (kx1_0 : List GRun → Option GHouse) : Nat → Int → List GRun → Option GHouse
  | 0, _, _ => none
  | n1 + 1, s1_0, l1_1 => if decide (s1_0 < (h.runs.length : Int)) = true then ((getI h.runs s1_0).bind fun x9 => ((getI h.runs s1_0).bind fun x10 => ((z3w x10.case).bind fun x11 => (gd (l1_1.length + [(GRun.mk x9.net x11)].length ≤ SMALL) (gd (ok64 (s1_0 + 1)) ((z3o h kx1_0 n1) (s1_0 + 1) (l1_1 ++ [(GRun.mk x9.net x11)]))))))) else (kx1_0 l1_1)
def z5t (h : GHouse) (x2 : (List GNode)) (p0_0 : List Int) (l0_1 : List GNet) : Option GHouse := z3o h (z85 x2 p0_0 l0_1) FUEL 0 ([] : List GRun)
def z3n (h : GHouse) (kx0_0 : List GNet → Option GHouse) : Nat → Int → List GNet → Option GHouse
  | 0, _, _ => none
  | n0 + 1, s0_0, l0_1 => if decide (s0_0 < (h.nets.length : Int)) = true then ((getI h.nets s0_0).bind fun x4 => ((z4k x4).bind fun x5 => (gd (l0_1.length + [x5].length ≤ SMALL) (gd (ok64 (s0_0 + 1)) ((z3n h kx0_0 n0) (s0_0 + 1) (l0_1 ++ [x5])))))) else (kx0_0 l0_1)
def z6t (h : GHouse) : Option GHouse := gd (([] : List Int).length + h.people.length ≤ SMALL) ((z6s h.tree).bind fun x2 => (z3n h (z5t h x2 (([] : List Int) ++ h.people)) FUEL 0 ([] : List GNet)))
def z0k : Con := ⟨127, [.v (.s .house) false], [((.s .house), true)], [], fun x => z6t x.1⟩
def yi6 : Fs := ⟨[z2l, z10, z55], [], []⟩
theorem zj1 : yi6.Ok Try.prog := (fsK y2m (fsK zn7 (fsK z90 fs0)))
def zx6 : Tmpl := ⟨[(1, .c (.bx 1 0)), (2, .c (.bx 2 0)), (3, .c (.bx 3 0)), (4, .c .i)], [(1, .boxT (.s .house)), (2, .box [.nl, .nl, .nl, .nl]), (3, .box [.ref 510300, .ref 9, .ref 12, .nl]), (510300, .arr (.s .net) true), (9, .arr .I true), (12, .arr (.s .node) true)]⟩
def zq4 : Tmpl := ⟨[(1, .c (.bx 1 0)), (2, .c (.bx 2 0)), (3, .c (.bx 3 0))], [(1, .boxT (.s .house)), (2, .box [.nl, .nl, .nl, .nl]), (3, .box [.ref 510300, .ref 9, .ref 12, .nl]), (510300, .arr (.s .net) true), (9, .arr .I true), (12, .arr (.s .node) true)]⟩
def y6u (av : AV) (x : HP z0k.ps) (n : Nat) (v : zx6.den) (K : Ks (CR z0k)) : Option (CR z0k) := z3n v.2.1 (fun l0_1 => zq4.at none (((), (), (), ()), (v.2.1, ((), (), (), (), ()), ((), (), (), (), ()), l0_1, v.2.2.2.2.2.1, v.2.2.2.2.2.2.1, ())) (K (.exit 0))) n v.1.2.2.2.1 v.2.2.2.2.1
def zt2 (av : AV) (x : HP z0k.ps) : Hdl (CR z0k) := hnd [.b 3 0 510300 (.s .net)] zx6 (y6u av x)
theorem y7y : LP z0k Try.f127 [0] zt2 := lp_ok (W := []) (H := []) (xs := [zq4]) zj1 trivial rfl (fun av x v K => by kernel_rfl) (fun av x n v K => by kernel_rfl)
def zx7 : Tmpl := ⟨[(1, .c (.bx 1 0)), (2, .c (.bx 2 0)), (3, .c (.bx 3 0)), (5, .c .i)], [(1, .boxT (.s .house)), (2, .box [.nl, .nl, .nl, .nl]), (3, .box [.ref 510300, .ref 9, .ref 12, .ref 510303]), (510300, .arr (.s .net) true), (9, .arr .I true), (12, .arr (.s .node) true), (510303, .arr (.s .run) true)]⟩
def zq5 : Tmpl := ⟨[(2, .c (.bx 2 0)), (3, .c (.bx 3 0))], [(2, .box [.nl, .nl, .nl, .nl]), (3, .box [.ref 510300, .ref 9, .ref 12, .ref 510303]), (510300, .arr (.s .net) true), (9, .arr .I true), (12, .arr (.s .node) true), (510303, .arr (.s .run) true)]⟩
def y6v (av : AV) (x : HP z0k.ps) (n : Nat) (v : zx7.den) (K : Ks (CR z0k)) : Option (CR z0k) := z3o v.2.1 (fun l1_1 => zq5.at none (((), (), ()), (((), (), (), (), ()), ((), (), (), (), ()), v.2.2.2.2.1, v.2.2.2.2.2.1, v.2.2.2.2.2.2.1, l1_1, ())) (K (.exit 2))) n v.1.2.2.2.1 v.2.2.2.2.2.2.2.1
def zt3 (av : AV) (x : HP z0k.ps) : Hdl (CR z0k) := hnd [.b 3 3 510303 (.s .run)] zx7 (y6v av x)
theorem y7z : LP z0k Try.f127 [1] zt3 := lp_ok (W := []) (H := []) (xs := [zq5]) zj1 trivial rfl (fun av x v K => by kernel_rfl) (fun av x n v K => by kernel_rfl)
theorem y2n : z0k.Ok Try.prog := fn_ok (k := z0k) (fn := Try.f127) (W := []) (H := [zt2, zt3]) Try.func127 zj1 ⟨y7y, y7z, trivial⟩ rfl rfl (fun av x => by kernel_rfl)
def z8w (r : GReq) : Option GReq := if decide (r.kind = 1) = true then (some (GReq.mk r.kind 0 0 0 0 0 r.data (GAsk.mk 0 0 0) 0)) else (if decide (r.kind = 2) = true then (some (GReq.mk r.kind r.who r.case r.task 0 0 [] (GAsk.mk 0 0 0) 0)) else (if decide (r.kind = 3) = true then (some (GReq.mk r.kind 0 r.case r.task r.var r.num [] (GAsk.mk 0 0 0) 0)) else (if decide (r.kind = 4) = true then (some (GReq.mk r.kind 0 r.case 0 0 0 [] (GAsk.mk 0 0 0) 0)) else (if decide (r.kind = 5) = true then (some (GReq.mk r.kind 0 0 0 0 0 r.data r.if_ r.ans)) else (some (GReq.mk r.kind 0 0 0 0 0 [] (GAsk.mk 0 0 0) 0))))))
def zk0 : Con := ⟨132, [.v (.s .req) false], [((.s .req), false)], [], fun x => z8w x.1⟩
def yi7 : Fs := ⟨[], [], []⟩
theorem yk4 : yi7.Ok Try.prog := fs0
theorem ym9 : zk0.Ok Try.prog := fn_ok (k := zk0) (fn := Try.f132) (W := []) (H := []) Try.func132 yk4 trivial rfl rfl (fun av x => by kernel_rfl)
def z2z (a : GReq) (b : GReq) : Option Bool := if decide (a.kind = b.kind) = true then (if decide (a.who = b.who) = true then (if decide (a.case = b.case) = true then (if decide (a.task = b.task) = true then (if decide (a.var = b.var) = true then (if decide (a.num = b.num) = true then (if decide ([a.if_.op, a.if_.var, a.if_.k] = [b.if_.op, b.if_.var, b.if_.k]) = true then (some (decide (a.ans = b.ans))) else (some false)) else (some false)) else (some false)) else (some false)) else (some false)) else (some false)) else (some false)
def z1u (a : GReq) (b : GReq) (kx0_0 : Option Bool) : Nat → Int → Option Bool
  | 0, _ => none
  | n0 + 1, s0_0 => if decide (s0_0 < (a.data.length : Int)) = true then ((getI a.data s0_0).bind fun x3 => ((getI b.data s0_0).bind fun x4 => (if decide (x3 = x4) = true then (gd (ok64 (s0_0 + 1)) ((z1u a b kx0_0 n0) (s0_0 + 1))) else (some false)))) else (kx0_0)
def z8y (a : GReq) (b : GReq) : Option Bool := if decide ((a.data.length : Int) = (b.data.length : Int)) = true then (z1u a b (z2z a b) FUEL 0) else (some false)
def z37 : Con := ⟨131, [.v (.s .req) false, .v (.s .req) false], [(.B, true)], [], fun x => z8y x.1 x.2.1⟩
def yi9 : Fs := ⟨[], [], []⟩
theorem y24 : yi9.Ok Try.prog := fs0
def zx9 : Tmpl := ⟨[(2, .c (.bx 2 0)), (3, .c (.bx 3 0)), (5, .c .i)], [(2, .boxT (.s .req)), (3, .boxT (.s .req))]⟩
def zq7 : Tmpl := ⟨[(2, .c (.bx 2 0)), (3, .c (.bx 3 0))], [(2, .boxT (.s .req)), (3, .boxT (.s .req))]⟩
def y6x (av : AV) (x : HP z37.ps) (n : Nat) (v : zx9.den) (K : Ks (CR z37)) : Option (CR z37) := z1u v.2.1 v.2.2.1 (zq7.at none (((), (), ()), (v.2.1, v.2.2.1, ())) (K (.exit 0))) n v.1.2.2.1
def zt5 (av : AV) (x : HP z37.ps) : Hdl (CR z37) := hnd [] zx9 (y6x av x)
theorem y81 : LP z37 Try.f131 [0] zt5 := lp_ok (W := []) (H := []) (xs := [zq7]) y24 trivial rfl (fun av x v K => by kernel_rfl) (fun av x n v K => by kernel_rfl)
theorem yn1 : z37.Ok Try.prog := fn_ok (k := z37) (fn := Try.f131) (W := []) (H := [zt5]) Try.func131 y24 ⟨y81, trivial⟩ rfl rfl (fun av x => by kernel_rfl)
def z3c (r : GReq) : Option Bool := (z01 r.kind 1 5).bind fun x1 => (if x1 = true then ((z8w r).bind fun x3 => ((z8y r x3).bind fun x4 => (if x4 = true then ((z01 r.who 0 4).bind fun x6 => (if x6 = true then ((z01 r.case 0 4).bind fun x8 => (if x8 = true then ((z01 r.task 0 5).bind fun x10 => (if x10 = true then ((z01 r.var (-1) 2).bind fun x12 => (if x12 = true then ((z01 r.num (-99) 99).bind fun x14 => (if x14 = true then ((z3s r.if_).bind fun x16 => (if x16 = true then ((z01 r.ans 0 2).bind fun x18 => (if x18 = true then (if decide (r.kind = 1) = true then ((z1f r.data).bind fun x21 => (some (true == x21))) else ((z1f r.data).bind fun x22 => (some ((decide (r.kind = 5)) == x22)))) else (some false))) else (some false))) else (some false))) else (some false))) else (some false))) else (some false))) else (some false))) else (some false)))) else (some false))
def z41 : Con := ⟨89, [.v (.s .req) false], [(.B, true)], [], fun x => z3c x.1⟩
def y77 : Fs := ⟨[z0d, zk0, z37, z4x, z0p], [], []⟩
theorem y7k : y77.Ok Try.prog := (fsK z0i (fsK ym9 (fsK yn1 (fsK z7r (fsK z3x fs0)))))
theorem z6v : z41.Ok Try.prog := fn_ok (k := z41) (fn := Try.f89) (W := []) (H := []) Try.func89 y7k trivial rfl rfl (fun av x => by kernel_rfl)
def z8v (h : GHouse) (r : GReq) : Option (GHouse × Int) := if decide ((h.runs.length : Int) ≤ r.case) = true then (some (h, 2)) else ((getI h.runs r.case).bind fun x2 => ((getI h.nets x2.net).bind fun x3 => (if decide (r.kind = 2) = true then ((z43 x3 h.people x2.case r.task r.who).bind fun x5 => (if x5.2 = true then ((getI h.runs r.case).bind fun x7 => (some ((GHouse.mk h.nets h.people h.tree (h.runs.set r.case.toNat (GRun.mk x7.net x5.1))), 1))) else (some (h, 3)))) else (if decide (r.kind = 3) = true then ((z5i x3 x2.case r.task r.var r.num).bind fun x9 => (if x9.2 = true then ((getI h.runs r.case).bind fun x11 => (some ((GHouse.mk h.nets h.people h.tree (h.runs.set r.case.toNat (GRun.mk x11.net x9.1))), 1))) else (some (h, 3)))) else ((z7d x3 x2.case).bind fun x12 => (if x12.2 = true then ((getI h.runs r.case).bind fun x14 => (some ((GHouse.mk h.nets h.people h.tree (h.runs.set r.case.toNat (GRun.mk x14.net x12.1))), 1))) else (some (h, 3))))))))
def zj8 : Con := ⟨156, [.v (.s .house) true, .v (.s .req) false], [((.s .house), true), (.I, true)], [], fun x => z8v x.1 x.2.1⟩
def yi5 : Fs := ⟨[z67, z7b, zc2], [], []⟩
theorem yk3 : yi5.Ok Try.prog := (fsK zv6 (fsK y0m (fsK yb3 fs0)))
theorem ym8 : zj8.Ok Try.prog := fn_ok (k := zj8) (fn := Try.f156) (W := []) (H := []) Try.func156 yk3 trivial rfl rfl (fun av x => by kernel_rfl)
def z9c (h : GHouse) (r : GReq) : Option (GHouse × Int) := if decide (r.kind = 1) = true then (if decide ((h.runs.length : Int) = 5) = true then (some (h, 4)) else ((z8o h.tree r.data).bind fun x3 => (if decide ((h.nets.length : Int) ≤ x3) = true then ((getI h.nets 0).bind fun x5 => ((z57 x5 r.data).bind fun x6 => (gd (h.runs.length + [(GRun.mk 0 x6)].length ≤ SMALL) (some ((GHouse.mk h.nets h.people h.tree (h.runs ++ [(GRun.mk 0 x6)])), 1))))) else ((getI h.nets x3).bind fun x8 => ((z57 x8 r.data).bind fun x9 => (gd (h.runs.length + [(GRun.mk x3 x9)].length ≤ SMALL) (some ((GHouse.mk h.nets h.people h.tree (h.runs ++ [(GRun.mk x3 x9)])), 1)))))))) else (if decide (r.kind = 5) = true then ((z4f h.tree r.data r.if_ r.ans).bind fun x12 => (if x12.2 = true then (some ((GHouse.mk h.nets h.people x12.1 h.runs), 1)) else (some (h, 3)))) else ((z8v h r).bind fun x14 => (some (x14.1, x14.2))))
def zj9 : Con := ⟨126, [.v (.s .house) true, .v (.s .req) false], [((.s .house), true), (.I, true)], [], fun x => z9c x.1 x.2.1⟩
def w07 : Fs := ⟨[zj2, z8g, z2c, zj8], [], []⟩
theorem w0a : w07.Ok Try.prog := (fsK ym1 (fsK y2f (fsK y2k (fsK ym8 fs0))))
theorem y89 : zj9.Ok Try.prog := fn_ok (k := zj9) (fn := Try.f126) (W := []) (H := []) Try.func126 w0a trivial rfl rfl (fun av x => by kernel_rfl)
def z4d (r : GReq) : Option GReq := (z7z r.data).bind fun x1 => (some (GReq.mk r.kind r.who r.case r.task r.var r.num x1 r.if_ r.ans))
def z5v : Con := ⟨95, [.v (.s .req) false], [((.s .req), true)], [], fun x => z4d x.1⟩
def y12 : Fs := ⟨[z7y], [], []⟩
theorem y13 : y12.Ok Try.prog := (fsK y61 fs0)
theorem y1b : z5v.Ok Try.prog := fn_ok (k := z5v) (fn := Try.f95) (W := []) (H := []) Try.func95 y13 trivial rfl rfl (fun av x => by kernel_rfl)
def zu5  : Option Bool := some true
def z45 (log : List GReq) (kx0_0 : Option Bool) : Nat → Int → Option Bool
  | 0, _ => none
  | n0 + 1, s0_0 => if decide (s0_0 < (log.length : Int)) = true then ((getI log s0_0).bind fun x3 => ((z3c x3).bind fun x4 => (if x4 = true then (gd (ok64 (s0_0 + 1)) ((z45 log kx0_0 n0) (s0_0 + 1))) else (some false)))) else (kx0_0)
def z9w (log : List GReq) : Option Bool := if decide (150 < (log.length : Int)) = true then (some false) else (z45 log zu5 FUEL 0)
def z3q : Con := ⟨39, [.v (.sl (.s .req)) false], [(.B, true)], [], fun x => z9w x.1⟩
def ys1 : Fs := ⟨[z41], [], []⟩
theorem y4f : ys1.Ok Try.prog := (fsK z6v fs0)
def y0s : Tmpl := ⟨[(0, .c (.s (.s .req))), (3, .c .i)], []⟩
def zy2 : Tmpl := ⟨[], []⟩
def y91 (av : AV) (x : HP z3q.ps) (n : Nat) (v : y0s.den) (K : Ks (CR z3q)) : Option (CR z3q) := z45 v.1.1 (zy2.at none ((), ()) (K (.exit 0))) n v.1.2.1
def y0e (av : AV) (x : HP z3q.ps) : Hdl (CR z3q) := hnd [] y0s (y91 av x)
theorem ya3 : LP z3q Try.f39 [0] y0e := lp_ok (W := []) (H := []) (xs := [zy2]) y4f trivial rfl (fun av x v K => by kernel_rfl) (fun av x n v K => by kernel_rfl)
theorem yv5 : z3q.Ok Try.prog := fn_ok (k := z3q) (fn := Try.f39) (W := []) (H := [y0e]) Try.func39 y4f ⟨ya3, trivial⟩ rfl rfl (fun av x => by kernel_rfl)
def z8p (r : GReq) : Option GReq := gd (([] : List Int).length + r.data.length ≤ SMALL) (some (GReq.mk r.kind r.who r.case r.task r.var r.num (([] : List Int) ++ r.data) r.if_ r.ans))
def zj3 : Con := ⟨97, [.v (.s .req) false], [((.s .req), true)], [], fun x => z8p x.1⟩
def yh3 : Fs := ⟨[], [], []⟩
theorem yj5 : yh3.Ok Try.prog := fs0
theorem ym2 : zj3.Ok Try.prog := fn_ok (k := zj3) (fn := Try.f97) (W := []) (H := []) Try.func97 yj5 trivial rfl rfl (fun av x => by kernel_rfl)
def zm6  : Option Int := some (-1)
def z3f (s : List Int) (p : Int → Option Bool) (p0_0 : Int) (kx0_0 : Option Int) : Nat → Int → Option Int
  | 0, _ => none
  | n0 + 1, s0_0 => if decide (s0_0 < p0_0) = true then ((getI s s0_0).bind fun x2 => ((p x2).bind fun x3 => (if x3 = true then (some s0_0) else (gd (ok64 (s0_0 + 1)) ((z3f s p p0_0 kx0_0 n0) (s0_0 + 1)))))) else (kx0_0)
def z8j (s : List Int) (p : Int → Option Bool) : Option Int := z3f s p (s.length : Int) zm6 FUEL 0
def z28 : Con := ⟨111, [.v (.sl .I) false, .fn .I], [(.I, true)], [], fun x => z8j x.1 x.2.1⟩
def yg1 : Fs := ⟨[], [], []⟩
theorem y1r : yg1.Ok Try.prog := fs0
def zw4 : Tmpl := ⟨[(0, .c (.s .I)), (1, .c .fp), (7, .c .i), (8, .c .i)], []⟩
def zp3 : Tmpl := ⟨[], []⟩
def y6i (av : AV) (x : HP z28.ps) (n : Nat) (v : zw4.den) (K : Ks (CR z28)) : Option (CR z28) := z3f v.1.1 x.2.1 v.1.2.2.1 (zp3.at (fpOf z28.ps x av) ((), ()) (K (.exit 0))) n v.1.2.2.2.1
def zs0 (av : AV) (x : HP z28.ps) : Hdl (CR z28) := hnd [] zw4 (y6i av x)
theorem y7m : LP z28 Try.f111 [0] zs0 := lp_ok (W := []) (H := []) (xs := [zp3]) y1r trivial rfl (fun av x v K => by kernel_rfl) (fun av x n v K => by kernel_rfl)
theorem yl5 : z28.Ok Try.prog := fn_ok (k := z28) (fn := Try.f111) (W := []) (H := [zs0]) Try.func111 y1r ⟨y7m, trivial⟩ rfl rfl (fun av x => by kernel_rfl)
def z5q (s : List Int) (p : Int → Option Bool) : Option Bool := (z8j s p).bind fun x1 => (some (decide (0 ≤ x1)))
def z7x : Con := ⟨62, [.v (.sl .I) false, .fn .I], [(.B, true)], [], fun x => z5q x.1 x.2.1⟩
def y5b : Fs := ⟨[z28], [], []⟩
theorem y5h : y5b.Ok Try.prog := (fsK yl5 fs0)
theorem y60 : z7x.Ok Try.prog := fn_ok (k := z7x) (fn := Try.f62) (W := []) (H := []) Try.func62 y5h trivial rfl rfl (fun av x => by kernel_rfl)
def zc6 (n : Int) : Option Bool := (z7c n).bind fun x1 => (some (!x1))
def zc9 : FCon := ⟨63, .I, [], fun z c => zc6 z ⟩
def y98 : Fs := ⟨[zc1], [], []⟩
theorem y9t : y98.Ok Try.prog := (fsK yb2 fs0)
theorem yb0 : zc9.Ok Try.prog := FCon.ok (fn_ok (k := zc9.con) (fn := Try.f63) (W := []) (H := []) Try.func63 y9t trivial rfl rfl (fun av x => by kernel_rfl))
def z9u (data : List Int) : Option Bool := if decide ((data.length : Int) = 3) = true then ((z5q data (fun z => zc6 z )).bind fun x2 => (some (!x2))) else (some false)
def zt7 : Con := ⟨19, [.v (.sl .I) false], [(.B, true)], [], fun x => z9u x.1⟩
def yr6 : Fs := ⟨[z7x], [zc9], []⟩
theorem yt1 : yr6.Ok Try.prog := (fsK y60 (fsF yb0 fs0))
theorem yv2 : zt7.Ok Try.prog := fn_ok (k := zt7) (fn := Try.f19) (W := []) (H := []) Try.func19 yt1 trivial rfl rfl (fun av x => by kernel_rfl)
def zf3 (l0_1 : List GReq) : Option (List GReq) := some l0_1
def z12 (log : List GReq) (k : Int) (kx0_0 : List GReq → Option (List GReq)) : Nat → Int → List GReq → Option (List GReq)
  | 0, _, _ => none
  | n0 + 1, s0_0, l0_1 => if decide (s0_0 < (log.length : Int)) = true then ((getI log s0_0).bind fun x2 => (if decide (2 ≤ x2.kind) = true then ((getI log s0_0).bind fun x4 => (if decide (x4.kind ≤ 4) = true then ((getI log s0_0).bind fun x6 => (if decide (x6.case = k) = true then ((getI log s0_0).bind fun x8 => ((z8p x8).bind fun x9 => (gd (l0_1.length + [x9].length ≤ SMALL) (gd (ok64 (s0_0 + 1)) ((z12 log k kx0_0 n0) (s0_0 + 1) (l0_1 ++ [x9])))))) else (gd (ok64 (s0_0 + 1)) ((z12 log k kx0_0 n0) (s0_0 + 1) l0_1)))) else (gd (ok64 (s0_0 + 1)) ((z12 log k kx0_0 n0) (s0_0 + 1) l0_1)))) else (gd (ok64 (s0_0 + 1)) ((z12 log k kx0_0 n0) (s0_0 + 1) l0_1)))) else (kx0_0 l0_1)
def z7g (log : List GReq) (k : Int) : Option (List GReq) := z12 log k zf3 FUEL 0 ([] : List GReq)
def z2b : Con := ⟨47, [.v (.sl (.s .req)) false, .v .I false], [((.sl (.s .req)), true)], [], fun x => z7g x.1 x.2.1⟩
def y9f : Fs := ⟨[zj3], [], []⟩
theorem y03 : y9f.Ok Try.prog := (fsK ym2 fs0)
def zo2 : Tmpl := ⟨[(0, .c (.s (.s .req))), (1, .c .i), (5, .c (.ref 7)), (6, .c .i)], [(7, .arr (.s .req) true)]⟩
def zh9 : Tmpl := ⟨[(5, .c (.ref 7))], [(7, .arr (.s .req) true)]⟩
def y4z (av : AV) (x : HP z2b.ps) (n : Nat) (v : zo2.den) (K : Ks (CR z2b)) : Option (CR z2b) := z12 v.1.1 v.1.2.1 (fun l0_1 => zh9.at none (((), ()), (l0_1, ())) (K (.exit 0))) n v.1.2.2.2.1 v.2.1
def zl5 (av : AV) (x : HP z2b.ps) : Hdl (CR z2b) := hnd [] zo2 (y4z av x)
theorem y5p : LP z2b Try.f47 [0] zl5 := lp_ok (W := []) (H := []) (xs := [zh9]) y03 trivial rfl (fun av x v K => by kernel_rfl) (fun av x n v K => by kernel_rfl)
theorem yb6 : z2b.Ok Try.prog := fn_ok (k := z2b) (fn := Try.f47) (W := []) (H := [zl5]) Try.func47 y03 ⟨y5p, trivial⟩ rfl rfl (fun av x => by kernel_rfl)
def ze9 (l0_1 : List GReq) : Option (List GReq) := some l0_1
def z1e (log : List GReq) (k : Int) (p0_0 : Int) (kx0_0 : List GReq → Option (List GReq)) : Nat → Int → List GReq → Option (List GReq)
  | 0, _, _ => none
  | n0 + 1, s0_0, l0_1 => if decide (s0_0 < p0_0) = true then ((getI log s0_0).bind fun x2 => ((zf0 x2.kind 2 4).bind fun x3 => (if x3 = true then (if decide (x2.case = k) = true then ((z4d x2).bind fun x6 => (gd (l0_1.length + [x6].length ≤ SMALL) (gd (ok64 (s0_0 + 1)) ((z1e log k p0_0 kx0_0 n0) (s0_0 + 1) (l0_1 ++ [x6]))))) else (gd (ok64 (s0_0 + 1)) ((z1e log k p0_0 kx0_0 n0) (s0_0 + 1) l0_1))) else (gd (ok64 (s0_0 + 1)) ((z1e log k p0_0 kx0_0 n0) (s0_0 + 1) l0_1))))) else (kx0_0 l0_1)
def z3z (log : List GReq) (k : Int) : Option (List GReq) := z1e log k (log.length : Int) ze9 FUEL 0 ([] : List GReq)
def z29 : Con := ⟨45, [.v (.sl (.s .req)) false, .v .I false], [((.sl (.s .req)), true)], [], fun x => z3z x.1 x.2.1⟩
def y99 : Fs := ⟨[y28, z5v], [], []⟩
theorem y01 : y99.Ok Try.prog := (fsK yv3 (fsK y1b fs0))
def zn8 : Tmpl := ⟨[(1, .c .i), (5, .c (.ref 500005)), (8, .c (.s (.s .req))), (9, .c .i), (10, .c .i)], [(500005, .arr (.s .req) true)]⟩
def zh6 : Tmpl := ⟨[(5, .c (.ref 500005))], [(500005, .arr (.s .req) true)]⟩
def y4v (av : AV) (x : HP z29.ps) (n : Nat) (v : zn8.den) (K : Ks (CR z29)) : Option (CR z29) := z1e v.1.2.2.1 v.1.1 v.1.2.2.2.1 (fun l0_1 => zh6.at none (((), ()), (l0_1, ())) (K (.exit 0))) n v.1.2.2.2.2.1 v.2.1
def zl1 (av : AV) (x : HP z29.ps) : Hdl (CR z29) := hnd [.e 5 500005 (.s .req)] zn8 (y4v av x)
theorem y5l : LP z29 Try.f45 [0] zl1 := lp_ok (W := []) (H := []) (xs := [zh6]) y01 trivial rfl (fun av x v K => by kernel_rfl) (fun av x n v K => by kernel_rfl)
theorem yb1 : z29.Ok Try.prog := fn_ok (k := z29) (fn := Try.f45) (W := []) (H := [zl1]) Try.func45 y01 ⟨y5l, trivial⟩ rfl rfl (fun av x => by kernel_rfl)
def z5j (code : List Int) : Option GRd := if decide (2000 < (code.length : Int)) = true then (gd ((0 : Int) ≤ 2000 ∧ 2000 ≤ (code.length : Int)) (some (GRd.mk (code.take (2000 : Int).toNat) 0))) else (some (GRd.mk code 0))
def zc3 : BCon := ⟨49, fun x => z5j x⟩
def y9j : Fs := ⟨[], [], []⟩
theorem y9y : y9j.Ok Try.prog := fs0
theorem y0n : zc3.Ok Try.prog := wa8 (fn := Try.f49) Try.func49 y9y rfl rfl rfl rfl rfl (fun l => by kernel_rfl)
def z00 (r : GRd) (n : Int) : Option (Int × GRd) := gd (ok64 (r.p + 1)) (if decide (n < 1) = true then (some (0, (GRd.mk r.b (r.p + 1)))) else (if decide ((r.b.length : Int) = 0) = true then (some (0, (GRd.mk r.b (r.p + 1)))) else (gd (ok64 ((r.p + 1) - 1)) (if decide (((r.p + 1) - 1) < (r.b.length : Int)) = true then ((getI r.b ((r.p + 1) - 1)).bind fun x6 => (gd (ok64 x6) (gd ((n : Int) ≠ 0) (some ((Int.tmod x6 n), (GRd.mk r.b (r.p + 1))))))) else (gd (((r.b.length : Int) : Int) ≠ 0) ((getI r.b (Int.tmod ((r.p + 1) - 1) (r.b.length : Int))).bind fun x10 => (gd (ok64 x10) (gd (ok64 (x10 * 131)) (gd (ok64 (((r.p + 1) - 1) * 7)) (gd (ok64 ((((r.p + 1) - 1) * 7) + 3)) (gd (((r.b.length : Int) : Int) ≠ 0) ((getI r.b (Int.tmod ((((r.p + 1) - 1) * 7) + 3) (r.b.length : Int))).bind fun x16 => (gd (ok64 x16) (gd (ok64 (x16 * 1117)) (gd (ok64 ((x10 * 131) + (x16 * 1117))) (gd (ok64 (((r.p + 1) - 1) * 29)) (gd (ok64 (((x10 * 131) + (x16 * 1117)) + (((r.p + 1) - 1) * 29))) (gd (((r.b.length : Int) : Int) ≠ 0 ∧ ok64 (Int.tdiv ((r.p + 1) - 1) (r.b.length : Int))) (gd (ok64 ((Int.tdiv ((r.p + 1) - 1) (r.b.length : Int)) * 53)) (gd (ok64 ((((x10 * 131) + (x16 * 1117)) + (((r.p + 1) - 1) * 29)) + ((Int.tdiv ((r.p + 1) - 1) (r.b.length : Int)) * 53))) (gd ((64 : Int) ≠ 0 ∧ ok64 (Int.tdiv ((((x10 * 131) + (x16 * 1117)) + (((r.p + 1) - 1) * 29)) + ((Int.tdiv ((r.p + 1) - 1) (r.b.length : Int)) * 53)) 64)) (gd ((n : Int) ≠ 0) (some ((Int.tmod (xorI ((((x10 * 131) + (x16 * 1117)) + (((r.p + 1) - 1) * 29)) + ((Int.tdiv ((r.p + 1) - 1) (r.b.length : Int)) * 53)) (Int.tdiv ((((x10 * 131) + (x16 * 1117)) + (((r.p + 1) - 1) * 29)) + ((Int.tdiv ((r.p + 1) - 1) (r.b.length : Int)) * 53)) 64)) n), (GRd.mk r.b (r.p + 1))))))))))))))))))))))))))
def z5f : Con := ⟨65, [.ptr (.s .rd) false, .v .I false], [(.I, true)], [(0, .ptr (.s .rd) false)], fun x => z00 x.1 x.2.1⟩
def wg0 : Fs := ⟨[], [], []⟩
theorem wg1 : wg0.Ok Try.prog := fs0
theorem z63 : z5f.Ok Try.prog := fn_ok (k := z5f) (fn := Try.f65) (W := []) (H := []) Try.func65 wg1 trivial rfl rfl (fun av x => by kernel_rfl)
def z5d (n : Int) (s0_0 : List Int) (s0_1 : Int) (l0_3 : List Int) : Option ((List Int) × GRd) := (z00 (GRd.mk s0_0 s0_1) n).bind fun x7 => (if decide (x7.1 = 0) = true then ((z00 x7.2 3).bind fun x9 => (if decide (x9.1 = 0) = true then ((z00 x9.2 3).bind fun x11 => ((z00 x11.2 4).bind fun x12 => ((getI [100, (-100), 9223372036854775807, (-9223372036854775808)] x12.1).bind fun x13 => ((getI l0_3 x11.1).bind fun x14 => (some ((l0_3.set x11.1.toNat x13), x12.2)))))) else (if decide (x9.1 = 1) = true then (gd ((0 : Int) ≤ 1 ∧ 1 ≤ (l0_3.length : Int)) (some ((l0_3.drop (1 : Int).toNat), x9.2))) else (gd (l0_3.length + [0].length ≤ SMALL) (some ((l0_3 ++ [0]), x9.2)))))) else (some (l0_3, x7.2)))
def z3b (kx0_0 : List Int → Int → List Int → Option ((List Int) × GRd)) : Nat → List Int → Int → Int → List Int → Option ((List Int) × GRd)
  | 0, _, _, _, _ => none
  | n0 + 1, s0_0, s0_1, s0_2, l0_3 => if decide (s0_2 < 3) = true then ((z00 (GRd.mk s0_0 s0_1) 9).bind fun x2 => ((z00 x2.2 7).bind fun x3 => ((getI [0, 1, (-1), 5, 99, (-99), x2.1] x3.1).bind fun x4 => (gd (l0_3.length + [x4].length ≤ SMALL) (gd (ok64 (s0_2 + 1)) ((z3b kx0_0 n0) x3.2.b x3.2.p (s0_2 + 1) (l0_3 ++ [x4]))))))) else (kx0_0 s0_0 s0_1 l0_3)
def z0n (r : GRd) (n : Int) : Option ((List Int) × GRd) := z3b (z5d n) FUEL r.b r.p 0 ([] : List Int)
def z0r : Con := ⟨101, [.ptr (.s .rd) false, .v .I false], [((.sl .I), false)], [(0, .ptr (.s .rd) false)], fun x => z0n x.1 x.2.1⟩
def y9h : Fs := ⟨[z5f], [], []⟩
theorem y05 : y9h.Ok Try.prog := (fsK z63 fs0)
def zo5 : Tmpl := ⟨[(0, .c (.bx 1000000 0)), (1, .c .i), (5, .c (.ref 7)), (6, .c .i)], [(1000000, .box [.s .Y, .i]), (7, .arr .I true)]⟩
def zi2 : Tmpl := ⟨[(0, .c (.bx 1000000 0)), (1, .c .i), (5, .c (.ref 7))], [(1000000, .box [.s .Y, .i]), (7, .arr .I true)]⟩
def y52 (av : AV) (x : HP z0r.ps) (n : Nat) (v : zo5.den) (K : Ks (CR z0r)) : Option (CR z0r) := z3b (fun s0_0 s0_1 l0_3 => zi2.at none (((), v.1.2.1, (), ()), ((s0_0, s0_1, ()), l0_3, ())) (K (.exit 0))) n v.2.1.1 v.2.1.2.1 v.1.2.2.2.1 v.2.2.1
def zl8 (av : AV) (x : HP z0r.ps) : Hdl (CR z0r) := hnd [] zo5 (y52 av x)
theorem y5s : LP z0r Try.f101 [0] zl8 := lp_ok (W := [(12, [.froz 7])]) (H := []) (xs := [zi2]) y05 trivial rfl (fun av x v K => by kernel_rfl) (fun av x n v K => by kernel_rfl)
theorem z5l : z0r.Ok Try.prog := fn_ok (k := z0r) (fn := Try.f101) (W := [(12, [.froz 7])]) (H := [zl8]) Try.func101 y05 ⟨y5s, trivial⟩ rfl rfl (fun av x => by kernel_rfl)
def z3t (r : GRd) (n : Int) : Option (GAsk × GRd) := (z00 r 3).bind fun x1 => (gd (ok64 (1 + x1.1)) ((z00 x1.2 3).bind fun x3 => ((z00 x3.2 9).bind fun x4 => ((z00 x4.2 6).bind fun x5 => ((getI [0, 1, 2, 5, (-1), x4.1] x5.1).bind fun x6 => ((z00 x5.2 6).bind fun x7 => (if decide (x7.1 = 0) = true then ((z00 x7.2 n).bind fun x9 => (if decide (x9.1 = 0) = true then ((z00 x9.2 3).bind fun x11 => (if decide (x11.1 = 0) = true then ((z00 x11.2 3).bind fun x13 => ((getI [0, 4, (-1)] x13.1).bind fun x14 => (some ((GAsk.mk x14 0 0), x13.2)))) else (if decide (x11.1 = 1) = true then ((z00 x11.2 3).bind fun x16 => ((getI [3, (-1), 1] x16.1).bind fun x17 => (some ((GAsk.mk 0 x17 0), x16.2)))) else ((z00 x11.2 3).bind fun x18 => ((getI [99, 100, (-99)] x18.1).bind fun x19 => (some ((GAsk.mk 0 0 x19), x18.2))))))) else (some ((GAsk.mk 0 0 0), x9.2)))) else ((z00 x7.2 n).bind fun x20 => (if decide (x20.1 = 0) = true then ((z00 x20.2 3).bind fun x22 => (if decide (x22.1 = 0) = true then ((z00 x22.2 3).bind fun x24 => ((getI [0, 4, (-1)] x24.1).bind fun x25 => (some ((GAsk.mk x25 x3.1 x6), x24.2)))) else (if decide (x22.1 = 1) = true then ((z00 x22.2 3).bind fun x27 => ((getI [3, (-1), 1] x27.1).bind fun x28 => (some ((GAsk.mk (1 + x1.1) x28 x6), x27.2)))) else ((z00 x22.2 3).bind fun x29 => ((getI [99, 100, (-99)] x29.1).bind fun x30 => (some ((GAsk.mk (1 + x1.1) x3.1 x30), x29.2))))))) else (some ((GAsk.mk (1 + x1.1) x3.1 x6), x20.2)))))))))))
def z54 : Con := ⟨139, [.ptr (.s .rd) false, .v .I false], [((.s .ask), true)], [(0, .ptr (.s .rd) false)], fun x => z3t x.1 x.2.1⟩
def yh4 : Fs := ⟨[z5f], [], []⟩
theorem yj6 : yh4.Ok Try.prog := (fsK z63 fs0)
theorem z8z : z54.Ok Try.prog := fn_ok (k := z54) (fn := Try.f139) (W := []) (H := []) Try.func139 yj6 trivial rfl rfl (fun av x => by kernel_rfl)
def zf4 (join : Int) (in_ : List Int) (p0_6 : Int) (p0_7 : Int) (p0_8 : Int) (p0_9 : Int) (p0_10 : Int) (s0_0 : List Int) (s0_1 : Int) (l0_3 : List GFlow) : Option (GTask × GRd) := some ((GTask.mk join p0_6 in_ l0_3 [] p0_7 p0_8 p0_9 p0_10), (GRd.mk s0_0 s0_1))
def z0s (split : Int) (to : List Int) (kx0_0 : List Int → Int → List GFlow → Option (GTask × GRd)) : Nat → List Int → Int → Int → List GFlow → Option (GTask × GRd)
  | 0, _, _, _, _ => none
  | n0 + 1, s0_0, s0_1, s0_2, l0_3 => if decide (s0_2 < (to.length : Int)) = true then ((getI to s0_2).bind fun x11 => (if decide (split = 1) = true then (gd (l0_3.length + [(GFlow.mk x11 (GAsk.mk 0 0 0))].length ≤ SMALL) (gd (ok64 (s0_2 + 1)) ((z0s split to kx0_0 n0) s0_0 s0_1 (s0_2 + 1) (l0_3 ++ [(GFlow.mk x11 (GAsk.mk 0 0 0))])))) else (gd (ok64 ((to.length : Int) - 1)) (if decide (s0_2 < ((to.length : Int) - 1)) = true then ((z00 (GRd.mk s0_0 s0_1) 3).bind fun x17 => (gd (ok64 (1 + x17.1)) ((z00 x17.2 3).bind fun x19 => ((z00 x19.2 5).bind fun x20 => (gd (ok64 (x20.1 - 1)) (gd (l0_3.length + [(GFlow.mk x11 (GAsk.mk (1 + x17.1) x19.1 (x20.1 - 1)))].length ≤ SMALL) (gd (ok64 (s0_2 + 1)) ((z0s split to kx0_0 n0) x20.2.b x20.2.p (s0_2 + 1) (l0_3 ++ [(GFlow.mk x11 (GAsk.mk (1 + x17.1) x19.1 (x20.1 - 1)))]))))))))) else (gd (l0_3.length + [(GFlow.mk x11 (GAsk.mk 0 0 0))].length ≤ SMALL) (gd (ok64 (s0_2 + 1)) ((z0s split to kx0_0 n0) s0_0 s0_1 (s0_2 + 1) (l0_3 ++ [(GFlow.mk x11 (GAsk.mk 0 0 0))])))))))) else (kx0_0 s0_0 s0_1 l0_3)
def zf5 (join : Int) (in_ : List Int) (p1_6 : Int) (p1_7 : Int) (p1_8 : Int) (p1_9 : Int) (p1_10 : Int) (s1_0 : List Int) (s1_1 : Int) (l1_3 : List GFlow) : Option (GTask × GRd) := some ((GTask.mk join p1_6 in_ l1_3 [] p1_7 p1_8 p1_9 p1_10), (GRd.mk s1_0 s1_1))
def z06 (r : GRd) (join : Int) (split : Int) (in_ : List Int) (to : List Int) (tasks : Int) : Option (GTask × GRd) := (z00 r 3).bind fun x1 => (gd (ok64 (1 + x1.1)) ((z00 x1.2 3).bind fun x3 => (gd (ok64 (1 + x3.1)) ((z00 x3.2 (1 + x3.1)).bind fun x5 => (gd (ok64 (1 + x5.1)) ((z00 x5.2 3).bind fun x7 => (if decide (x7.1 = 0) = true then ((z00 x7.2 tasks).bind fun x9 => (z0s split to (zf4 join in_ split (1 + x1.1) x9.1 (1 + x3.1) (1 + x5.1)) FUEL x9.2.b x9.2.p 0 ([] : List GFlow))) else (z0s split to (zf5 join in_ split (1 + x1.1) (-1) (1 + x3.1) (1 + x5.1)) FUEL x7.2.b x7.2.p 0 ([] : List GFlow)))))))))
def z2e : Con := ⟨160, [.ptr (.s .rd) false, .v .I false, .v .I false, .v (.sl .I) true, .v (.sl .I) true, .v .I false], [((.s .task), true)], [(0, .ptr (.s .rd) false)], fun x => z06 x.1 x.2.1 x.2.2.1 x.2.2.2.1 x.2.2.2.2.1 x.2.2.2.2.2.1⟩
def y9k : Fs := ⟨[z5f], [], []⟩
theorem y06 : y9k.Ok Try.prog := (fsK z63 fs0)
def zo6 : Tmpl := ⟨[(0, .c (.bx 1000000 0)), (2, .c .i), (4, .c (.ref 1480000)), (12, .c (.bx 12 0)), (13, .c (.bx 13 0)), (14, .c .i)], [(1000000, .box [.s .Y, .i]), (12, .box [.i, .i, .nl, .nl, .nl, .i, .i, .i, .i]), (13, .box [.i, .i, .ref 1360000, .ref 511303, .nl, .i, .i, .i, .i]), (1480000, .arr .I true), (1360000, .arr .I true), (511303, .arr (.s .flow) true)]⟩
def zi3 : Tmpl := ⟨[(12, .c (.bx 12 0)), (13, .c (.bx 13 0))], [(12, .box [.i, .i, .nl, .nl, .nl, .i, .i, .i, .i]), (13, .box [.i, .i, .ref 1360000, .ref 511303, .nl, .i, .i, .i, .i]), (1000000, .box [.s .Y, .i]), (1360000, .arr .I true), (511303, .arr (.s .flow) true)]⟩
def y53 (av : AV) (x : HP z2e.ps) (n : Nat) (v : zo6.den) (K : Ks (CR z2e)) : Option (CR z2e) := z0s v.1.2.1 v.2.2.2.2.1 (fun s0_0 s0_1 l0_3 => zi3.at none (((), (), ()), ((v.2.2.1.1, v.2.2.1.2.1, (), (), (), v.2.2.1.2.2.2.2.2.1, v.2.2.1.2.2.2.2.2.2.1, v.2.2.1.2.2.2.2.2.2.2.1, v.2.2.1.2.2.2.2.2.2.2.2.1, ()), (v.2.2.2.1.1, v.2.2.2.1.2.1, (), (), (), v.2.2.2.1.2.2.2.2.2.1, v.2.2.2.1.2.2.2.2.2.2.1, v.2.2.2.1.2.2.2.2.2.2.2.1, v.2.2.2.1.2.2.2.2.2.2.2.2.1, ()), (s0_0, s0_1, ()), v.2.2.2.2.2.1, l0_3, ())) (K (.exit 0))) n v.2.1.1 v.2.1.2.1 v.1.2.2.2.2.2.1 v.2.2.2.2.2.2.1
def zl9 (av : AV) (x : HP z2e.ps) : Hdl (CR z2e) := hnd [.b 13 3 511303 (.s .flow)] zo6 (y53 av x)
theorem y5t : LP z2e Try.f160 [0] zl9 := lp_ok (W := []) (H := []) (xs := [zi3]) y06 trivial rfl (fun av x v K => by kernel_rfl) (fun av x n v K => by kernel_rfl)
theorem yb8 : z2e.Ok Try.prog := fn_ok (k := z2e) (fn := Try.f160) (W := []) (H := [zl9]) Try.func160 y06 ⟨y5t, trivial⟩ rfl rfl (fun av x => by kernel_rfl)
def z3u (p0_2 : Int) (s0_0 : List Int) (s0_1 : Int) (l0_3 : List GTask) : Option (GNet × GRd) := some ((GNet.mk p0_2 l0_3), (GRd.mk s0_0 s0_1))
def z0u (p0_0 : Int) (p0_2 : Int) (kx0_0 : List Int → Int → List GTask → Option (GNet × GRd)) : Nat → List Int → Int → Int → List GTask → Option (GNet × GRd)
  | 0, _, _, _, _ => none
  | n0 + 1, s0_0, s0_1, s0_2, l0_3 => if decide (s0_2 < p0_0) = true then (gd (ok64 (p0_2 - 2)) ((z00 (GRd.mk s0_0 s0_1) (p0_2 - 2)).bind fun x39 => (gd (ok64 (2 + x39.1)) ((z00 x39.2 4).bind fun x41 => ((getI [0, 2, 2, (2 + x39.1)] x41.1).bind fun x42 => (gd (ok64 (p0_2 - 1)) ((z00 x41.2 (p0_2 - 1)).bind fun x44 => (gd (ok64 (1 + x44.1)) ((z00 x44.2 2).bind fun x46 => (if decide (x46.1 = 0) = true then ((getI [(1 + x44.1)] 0).bind fun x48 => (if decide (x48 = 2) = true then ((z00 x46.2 3).bind fun x50 => (gd (ok64 (1 + x50.1)) ((z00 x50.2 3).bind fun x52 => (gd (ok64 (1 + x52.1)) ((z06 x52.2 (1 + x50.1) (1 + x52.1) [x42] [(1 + x44.1)] p0_0).bind fun x54 => (gd (l0_3.length + [x54.1].length ≤ SMALL) (gd (ok64 (s0_2 + 1)) ((z0u p0_0 p0_2 kx0_0 n0) x54.2.b x54.2.p (s0_2 + 1) (l0_3 ++ [x54.1]))))))))) else (gd ([(1 + x44.1)].length + [2].length ≤ SMALL) ((z00 x46.2 3).bind fun x58 => (gd (ok64 (1 + x58.1)) ((z00 x58.2 3).bind fun x60 => (gd (ok64 (1 + x60.1)) ((z06 x60.2 (1 + x58.1) (1 + x60.1) [x42] ([(1 + x44.1)] ++ [2]) p0_0).bind fun x62 => (gd (l0_3.length + [x62.1].length ≤ SMALL) (gd (ok64 (s0_2 + 1)) ((z0u p0_0 p0_2 kx0_0 n0) x62.2.b x62.2.p (s0_2 + 1) (l0_3 ++ [x62.1])))))))))))) else ((z00 x46.2 3).bind fun x65 => (gd (ok64 (1 + x65.1)) ((z00 x65.2 3).bind fun x67 => (gd (ok64 (1 + x67.1)) ((z06 x67.2 (1 + x65.1) (1 + x67.1) [x42] [(1 + x44.1)] p0_0).bind fun x69 => (gd (l0_3.length + [x69.1].length ≤ SMALL) (gd (ok64 (s0_2 + 1)) ((z0u p0_0 p0_2 kx0_0 n0) x69.2.b x69.2.p (s0_2 + 1) (l0_3 ++ [x69.1]))))))))))))))))))) else (kx0_0 s0_0 s0_1 l0_3)
def z6h (r : GRd) : Option (GNet × GRd) := (z00 r 3).bind fun x1 => (gd (ok64 (1 + x1.1)) ((z00 x1.2 3).bind fun x3 => (gd (ok64 (1 + x3.1)) ((z00 x3.2 4).bind fun x5 => ((getI [(1 + x1.1), (1 + x1.1), (1 + x1.1), (1 + x3.1)] x5.1).bind fun x6 => ((z00 x5.2 6).bind fun x7 => (if decide (x7.1 = 0) = true then ((z06 x7.2 (1 + x1.1) 1 [0] [2] 2).bind fun x9 => ((z06 x9.2 x6 2 [2] [1] 2).bind fun x10 => (some ((GNet.mk 3 [x9.1, x10.1]), x10.2)))) else (if decide (x7.1 = 1) = true then ((z06 x7.2 1 (1 + x1.1) [0] [2, 3] 4).bind fun x12 => ((z06 x12.2 1 1 [2] [4] 4).bind fun x13 => ((z06 x13.2 2 1 [3] [5] 4).bind fun x14 => ((z06 x14.2 x6 2 [4, 5] [1] 4).bind fun x15 => (some ((GNet.mk 6 [x12.1, x13.1, x14.1, x15.1]), x15.2)))))) else (if decide (x7.1 = 2) = true then ((z06 x7.2 2 1 [0] [2] 3).bind fun x17 => ((z00 x17.2 2).bind fun x18 => (gd (ok64 (2 + x18.1)) ((z06 x18.2 1 2 [2] [(2 + x18.1), 1] 3).bind fun x20 => ((z06 x20.2 2 1 [3] [2] 3).bind fun x21 => (some ((GNet.mk 4 [x17.1, x20.1, x21.1]), x21.2))))))) else (if decide (x7.1 = 3) = true then ((z06 x7.2 1 (1 + x1.1) [0] [2, 3, 4] 4).bind fun x23 => ((z06 x23.2 1 1 [2] [5] 4).bind fun x24 => ((z06 x24.2 x6 1 [3, 4] [6] 4).bind fun x25 => ((z00 x25.2 3).bind fun x26 => (gd (ok64 (1 + x26.1)) ((z06 x26.2 (1 + x26.1) 1 [5, 6] [1] 4).bind fun x28 => (some ((GNet.mk 7 [x23.1, x24.1, x25.1, x28.1]), x28.2)))))))) else (if decide (x7.1 = 4) = true then ((z06 x7.2 1 1 [0] [2, 3] 3).bind fun x30 => ((z06 x30.2 1 2 [2] [4, 1] 3).bind fun x31 => ((z06 x31.2 (1 + x1.1) 1 [3, 4] [1] 3).bind fun x32 => (some ((GNet.mk 5 [x30.1, x31.1, x32.1]), x32.2))))) else ((z00 x7.2 4).bind fun x33 => (gd (ok64 (3 + x33.1)) ((z00 x33.2 4).bind fun x35 => (gd (ok64 (1 + x35.1)) (z0u (1 + x35.1) (3 + x33.1) (z3u (3 + x33.1)) FUEL x35.2.b x35.2.p 0 ([] : List GTask)))))))))))))))))
def z1k : Con := ⟨138, [.ptr (.s .rd) false], [((.s .net), true)], [(0, .ptr (.s .rd) false)], fun x => z6h x.1⟩
def y7a : Fs := ⟨[z5f, z2e], [], []⟩
theorem zr7 : y7a.Ok Try.prog := (fsK z63 (fsK yb8 fs0))
def zg9 : Tmpl := ⟨[(0, .c (.bx 1000000 0)), (2, .c (.bx 2 0)), (5, .c (.bx 5 0)), (6, .c .i), (7, .c .i)], [(1000000, .box [.s .Y, .i]), (2, .box [.i, .nl]), (5, .box [.i, .ref 510501]), (510501, .arr (.s .task) true)]⟩
def zb2 : Tmpl := ⟨[(2, .c (.bx 2 0)), (5, .c (.bx 5 0))], [(2, .box [.i, .nl]), (5, .box [.i, .ref 510501]), (1000000, .box [.s .Y, .i]), (510501, .arr (.s .task) true)]⟩
def y3a (av : AV) (x : HP z1k.ps) (n : Nat) (v : zg9.den) (K : Ks (CR z1k)) : Option (CR z1k) := z0u v.1.2.2.2.1 v.2.2.2.1.1 (fun s0_0 s0_1 l0_3 => zb2.at none (((), (), ()), ((v.2.2.1.1, (), ()), (v.2.2.2.1.1, (), ()), (s0_0, s0_1, ()), l0_3, ())) (K (.exit 1))) n v.2.1.1 v.2.1.2.1 v.1.2.2.2.2.1 v.2.2.2.2.1
def ze1 (av : AV) (x : HP z1k.ps) : Hdl (CR z1k) := hnd [.b 5 1 510501 (.s .task)] zg9 (y3a av x)
theorem y3t : LP z1k Try.f138 [0] ze1 := lp_ok (W := []) (H := []) (xs := [zb2]) zr7 trivial rfl (fun av x v K => by kernel_rfl) (fun av x n v K => by kernel_rfl)
theorem y85 : z1k.Ok Try.prog := fn_ok (k := z1k) (fn := Try.f138) (W := []) (H := [ze1]) Try.func138 zr7 ⟨y3t, trivial⟩ rfl rfl (fun av x => by kernel_rfl)
def z4g (r : GRd) : Option (GNet × GRd) := (z6h r).bind fun x1 => ((z00 x1.2 3).bind fun x2 => (if decide (x2.1 = 0) = true then (if decide (3 < x1.1.places) = true then (if decide (0 < (x1.1.tasks.length : Int)) = true then ((z00 x2.2 (x1.1.tasks.length : Int)).bind fun x6 => ((getI x1.1.tasks x6.1).bind fun x7 => ((z1s (GNet.mk x1.1.places (x1.1.tasks.set x6.1.toNat (GTask.mk x7.join x7.split x7.in_ x7.out [2, 3] x7.role x7.apart x7.all x7.need)))).bind fun x8 => (if x8 = true then (some ((GNet.mk x1.1.places (x1.1.tasks.set x6.1.toNat (GTask.mk x7.join x7.split x7.in_ x7.out [2, 3] x7.role x7.apart x7.all x7.need))), x6.2)) else (some ((GNet.mk 2 [(GTask.mk 1 1 [0] [(GFlow.mk 1 (GAsk.mk 0 0 0))] [] 1 (-1) 1 1)]), x6.2)))))) else ((z1s x1.1).bind fun x10 => (if x10 = true then (some (x1.1, x2.2)) else (some ((GNet.mk 2 [(GTask.mk 1 1 [0] [(GFlow.mk 1 (GAsk.mk 0 0 0))] [] 1 (-1) 1 1)]), x2.2))))) else ((z1s x1.1).bind fun x12 => (if x12 = true then (some (x1.1, x2.2)) else (some ((GNet.mk 2 [(GTask.mk 1 1 [0] [(GFlow.mk 1 (GAsk.mk 0 0 0))] [] 1 (-1) 1 1)]), x2.2))))) else ((z1s x1.1).bind fun x14 => (if x14 = true then (some (x1.1, x2.2)) else (some ((GNet.mk 2 [(GTask.mk 1 1 [0] [(GFlow.mk 1 (GAsk.mk 0 0 0))] [] 1 (-1) 1 1)]), x2.2))))))
def z69 : Con := ⟨98, [.ptr (.s .rd) false], [((.s .net), true)], [(0, .ptr (.s .rd) false)], fun x => z4g x.1⟩
def yh5 : Fs := ⟨[z1k, z5f, z1d], [], []⟩
theorem yj7 : yh5.Ok Try.prog := (fsK y85 (fsK z63 (fsK z7s fs0)))
theorem zk2 : z69.Ok Try.prog := fn_ok (k := z69) (fn := Try.f98) (W := []) (H := []) Try.func98 yj7 trivial rfl rfl (fun av x => by kernel_rfl)
def z4j (r : GRd) (n : Int) : Option (GNet × GRd) := (z4g r).bind fun x1 => ((z00 x1.2 n).bind fun x2 => (if decide (0 < x2.1) = true then (some (x1.1, x2.2)) else ((z00 x2.2 6).bind fun x4 => (if decide (x4.1 = 0) = true then ((z00 x4.2 3).bind fun x6 => ((getI [1, 2, 9] x6.1).bind fun x7 => (some ((GNet.mk x7 x1.1.tasks), x6.2)))) else ((z00 x4.2 (x1.1.tasks.length : Int)).bind fun x8 => ((getI x1.1.tasks x8.1).bind fun x9 => ((z00 x8.2 9).bind fun x10 => (if decide (x10.1 = 0) = true then ((z00 x10.2 2).bind fun x12 => ((getI [0, 4] x12.1).bind fun x13 => ((getI x1.1.tasks x8.1).bind fun x14 => (some ((GNet.mk x1.1.places (x1.1.tasks.set x8.1.toNat (GTask.mk x13 x9.split x9.in_ x9.out x9.clear x9.role x9.apart x9.all x9.need))), x12.2))))) else (if decide (x10.1 = 1) = true then ((z00 x10.2 4).bind fun x16 => ((getI [0, 4, 1, 2] x16.1).bind fun x17 => ((getI x1.1.tasks x8.1).bind fun x18 => (some ((GNet.mk x1.1.places (x1.1.tasks.set x8.1.toNat (GTask.mk x9.join x17 x9.in_ x9.out x9.clear x9.role x9.apart x9.all x9.need))), x16.2))))) else (if decide (x10.1 = 2) = true then (gd (([] : List Int).length + x9.in_.length ≤ SMALL) ((z00 x10.2 4).bind fun x21 => ((getI [1, 0, 7, 3] x21.1).bind fun x22 => (gd ((([] : List Int) ++ x9.in_).length + [x22].length ≤ SMALL) ((getI x1.1.tasks x8.1).bind fun x24 => (some ((GNet.mk x1.1.places (x1.1.tasks.set x8.1.toNat (GTask.mk x9.join x9.split ((([] : List Int) ++ x9.in_) ++ [x22]) x9.out x9.clear x9.role x9.apart x9.all x9.need))), x21.2))))))) else (if decide (x10.1 = 3) = true then (gd (([] : List GFlow).length + x9.out.length ≤ SMALL) ((z00 x10.2 4).bind fun x27 => ((z3t x27.2 2).bind fun x28 => (gd ((([] : List GFlow) ++ x9.out).length + [(GFlow.mk x27.1 x28.1)].length ≤ SMALL) ((getI x1.1.tasks x8.1).bind fun x30 => (some ((GNet.mk x1.1.places (x1.1.tasks.set x8.1.toNat (GTask.mk x9.join x9.split x9.in_ ((([] : List GFlow) ++ x9.out) ++ [(GFlow.mk x27.1 x28.1)]) x9.clear x9.role x9.apart x9.all x9.need))), x28.2))))))) else (if decide (x10.1 = 4) = true then (gd (([] : List Int).length + x9.clear.length ≤ SMALL) ((z00 x10.2 4).bind fun x33 => ((getI [0, 1, 2, 9] x33.1).bind fun x34 => (gd ((([] : List Int) ++ x9.clear).length + [x34].length ≤ SMALL) ((getI x1.1.tasks x8.1).bind fun x36 => (some ((GNet.mk x1.1.places (x1.1.tasks.set x8.1.toNat (GTask.mk x9.join x9.split x9.in_ x9.out ((([] : List Int) ++ x9.clear) ++ [x34]) x9.role x9.apart x9.all x9.need))), x33.2))))))) else (if decide (x10.1 = 5) = true then ((z00 x10.2 2).bind fun x38 => ((getI [0, 4] x38.1).bind fun x39 => ((getI x1.1.tasks x8.1).bind fun x40 => (some ((GNet.mk x1.1.places (x1.1.tasks.set x8.1.toNat (GTask.mk x9.join x9.split x9.in_ x9.out x9.clear x39 x9.apart x9.all x9.need))), x38.2))))) else (if decide (x10.1 = 6) = true then ((z00 x10.2 2).bind fun x42 => ((getI [(-2), 6] x42.1).bind fun x43 => ((getI x1.1.tasks x8.1).bind fun x44 => (some ((GNet.mk x1.1.places (x1.1.tasks.set x8.1.toNat (GTask.mk x9.join x9.split x9.in_ x9.out x9.clear x9.role x43 x9.all x9.need))), x42.2))))) else (if decide (x10.1 = 7) = true then (gd (ok64 (x9.all + 1)) ((z00 x10.2 2).bind fun x47 => ((getI [0, (x9.all + 1)] x47.1).bind fun x48 => ((getI x1.1.tasks x8.1).bind fun x49 => (some ((GNet.mk x1.1.places (x1.1.tasks.set x8.1.toNat (GTask.mk x9.join x9.split x9.in_ x9.out x9.clear x9.role x9.apart x9.all x48))), x47.2)))))) else ((z00 x10.2 3).bind fun x50 => ((getI [0, 4, 1] x50.1).bind fun x51 => ((getI x1.1.tasks x8.1).bind fun x52 => (some ((GNet.mk x1.1.places (x1.1.tasks.set x8.1.toNat (GTask.mk x9.join x9.split x9.in_ x9.out x9.clear x9.role x9.apart x51 x9.need))), x50.2))))))))))))))))))))
def z5p : Con := ⟨102, [.ptr (.s .rd) false, .v .I false], [((.s .net), false)], [(0, .ptr (.s .rd) false)], fun x => z4j x.1 x.2.1⟩
def y5e : Fs := ⟨[z69, z5f, z54], [], []⟩
theorem y5j : y5e.Ok Try.prog := (fsK zk2 (fsK z63 (fsK z8z fs0)))
theorem zn6 : z5p.Ok Try.prog := fn_ok (k := z5p) (fn := Try.f102) (W := [(8, [.share 10009])]) (H := []) Try.func102 y5j trivial rfl rfl (fun av x => by kernel_rfl)
def z4p (p : Int) (n : Int) (s0_0 : List Int) (s0_1 : Int) (l0_3 : List Int) : Option ((List Int) × GRd) := if decide (1 < p) = true then ((z00 (GRd.mk s0_0 s0_1) 4).bind fun x7 => (if decide (0 < x7.1) = true then ((getI l0_3 1).bind fun x9 => ((z00 x7.2 n).bind fun x10 => (if decide (x10.1 = 0) = true then ((z00 x10.2 2).bind fun x12 => (if decide (x12.1 = 0) = true then (if decide (0 < p) = true then ((z00 x12.2 p).bind fun x15 => ((z00 x15.2 2).bind fun x16 => ((getI [(-1), 5] x16.1).bind fun x17 => ((getI (l0_3.set (1 : Int).toNat 0) x15.1).bind fun x18 => (some (((l0_3.set (1 : Int).toNat 0).set x15.1.toNat x17), x16.2)))))) else (gd ((l0_3.set (1 : Int).toNat 0).length + [0].length ≤ SMALL) (some (((l0_3.set (1 : Int).toNat 0) ++ [0]), x12.2)))) else (gd ((l0_3.set (1 : Int).toNat 0).length + [0].length ≤ SMALL) (some (((l0_3.set (1 : Int).toNat 0) ++ [0]), x12.2))))) else (some ((l0_3.set (1 : Int).toNat 0), x10.2))))) else ((z00 x7.2 n).bind fun x21 => (if decide (x21.1 = 0) = true then ((z00 x21.2 2).bind fun x23 => (if decide (x23.1 = 0) = true then (if decide (0 < p) = true then ((z00 x23.2 p).bind fun x26 => ((z00 x26.2 2).bind fun x27 => ((getI [(-1), 5] x27.1).bind fun x28 => ((getI l0_3 x26.1).bind fun x29 => (some ((l0_3.set x26.1.toNat x28), x27.2)))))) else (gd (l0_3.length + [0].length ≤ SMALL) (some ((l0_3 ++ [0]), x23.2)))) else (gd (l0_3.length + [0].length ≤ SMALL) (some ((l0_3 ++ [0]), x23.2))))) else (some (l0_3, x21.2)))))) else ((z00 (GRd.mk s0_0 s0_1) n).bind fun x32 => (if decide (x32.1 = 0) = true then ((z00 x32.2 2).bind fun x34 => (if decide (x34.1 = 0) = true then (if decide (0 < p) = true then ((z00 x34.2 p).bind fun x37 => ((z00 x37.2 2).bind fun x38 => ((getI [(-1), 5] x38.1).bind fun x39 => ((getI l0_3 x37.1).bind fun x40 => (some ((l0_3.set x37.1.toNat x39), x38.2)))))) else (gd (l0_3.length + [0].length ≤ SMALL) (some ((l0_3 ++ [0]), x34.2)))) else (gd (l0_3.length + [0].length ≤ SMALL) (some ((l0_3 ++ [0]), x34.2))))) else (some (l0_3, x32.2))))
def z2s (p : Int) (kx0_0 : List Int → Int → List Int → Option ((List Int) × GRd)) : Nat → List Int → Int → Int → List Int → Option ((List Int) × GRd)
  | 0, _, _, _, _ => none
  | n0 + 1, s0_0, s0_1, s0_2, l0_3 => if decide (s0_2 < p) = true then ((z00 (GRd.mk s0_0 s0_1) 6).bind fun x2 => ((getI [0, 0, 1, 1, 2, 4] x2.1).bind fun x3 => (gd (l0_3.length + [x3].length ≤ SMALL) (gd (ok64 (s0_2 + 1)) ((z2s p kx0_0 n0) x2.2.b x2.2.p (s0_2 + 1) (l0_3 ++ [x3])))))) else (kx0_0 s0_0 s0_1 l0_3)
def z6g (r : GRd) (p : Int) (n : Int) : Option ((List Int) × GRd) := z2s p (z4p p n) FUEL r.b r.p 0 ([] : List Int)
def z1j : Con := ⟨103, [.ptr (.s .rd) false, .v .I false, .v .I false], [((.sl .I), true)], [(0, .ptr (.s .rd) false)], fun x => z6g x.1 x.2.1 x.2.2.1⟩
def y79 : Fs := ⟨[z5f], [], []⟩
theorem zr6 : y79.Ok Try.prog := (fsK z63 fs0)
def zg8 : Tmpl := ⟨[(0, .c (.bx 1000000 0)), (1, .c .i), (2, .c .i), (7, .c (.ref 9)), (8, .c .i)], [(1000000, .box [.s .Y, .i]), (9, .arr .I true)]⟩
def zb1 : Tmpl := ⟨[(0, .c (.bx 1000000 0)), (1, .c .i), (2, .c .i), (7, .c (.ref 9))], [(1000000, .box [.s .Y, .i]), (9, .arr .I true)]⟩
def y39 (av : AV) (x : HP z1j.ps) (n : Nat) (v : zg8.den) (K : Ks (CR z1j)) : Option (CR z1j) := z2s v.1.2.1 (fun s0_0 s0_1 l0_3 => zb1.at none (((), v.1.2.1, v.1.2.2.1, (), ()), ((s0_0, s0_1, ()), l0_3, ())) (K (.exit 0))) n v.2.1.1 v.2.1.2.1 v.1.2.2.2.2.1 v.2.2.1
def ze0 (av : AV) (x : HP z1j.ps) : Hdl (CR z1j) := hnd [] zg8 (y39 av x)
theorem y3s : LP z1j Try.f103 [0] ze0 := lp_ok (W := []) (H := []) (xs := [zb1]) zr6 trivial rfl (fun av x v K => by kernel_rfl) (fun av x n v K => by kernel_rfl)
theorem y84 : z1j.Ok Try.prog := fn_ok (k := z1j) (fn := Try.f103) (W := []) (H := [ze0]) Try.func103 zr6 ⟨y3s, trivial⟩ rfl rfl (fun av x => by kernel_rfl)
end
end Go.Am
