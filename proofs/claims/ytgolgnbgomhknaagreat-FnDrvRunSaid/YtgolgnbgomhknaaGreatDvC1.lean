/- Mirrors and contracts, printed. Own work. -/
import Derived.Test.YtgolgnbgomhknaaGreatDvD1
set_option maxRecDepth 100000
set_option maxHeartbeats 4000000
set_option linter.unusedVariables false
set_option linter.unusedSimpArgs false
namespace Go.Am
noncomputable section
open Go Go.Proofs
def z07 (n : Int) (low : Int) (high : Int) : Option Bool := if decide (low ≤ n) = true then (some (decide (n ≤ high))) else (some false)
def z0w : Con := ⟨90, [.v .I false, .v .I false, .v .I false], [(.B, true)], [], fun x => z07 x.1 x.2.1 x.2.2.1⟩
def w4x : Fs := ⟨[], [], []⟩
theorem w4z : w4x.Ok Tryz.prog := fs0
theorem z1c : z0w.Ok Tryz.prog := fn_ok (k := z0w) (fn := Tryz.f90) (W := []) (H := []) Tryz.func90 w4z trivial rfl rfl (fun av x => by kernel_rfl)
def y1o  : Option Bool := some true
def z4t (data : List Int) (kx0_0 : Option Bool) : Nat → Int → Option Bool
  | 0, _ => none
  | n0 + 1, s0_0 => if decide (s0_0 < (data.length : Int)) = true then ((getI data s0_0).bind fun x3 => ((z07 x3 (-99) 99).bind fun x4 => (if x4 = true then (gd (ok64 (s0_0 + 1)) ((z4t data kx0_0 n0) (s0_0 + 1))) else (some false)))) else (kx0_0)
def z52 (data : List Int) : Option Bool := if decide ((data.length : Int) = 3) = true then (z4t data y1o FUEL 0) else (some false)
def z1r : Con := ⟨89, [.v (.sl .I) false], [(.B, true)], [], fun x => z52 x.1⟩
def w2g : Fs := ⟨[z0w], [], []⟩
theorem y86 : w2g.Ok Tryz.prog := (fsK z1c fs0)
def y4c : Tmpl := ⟨[(0, .c (.s .I)), (3, .c .i)], []⟩
def y2n : Tmpl := ⟨[], []⟩
def yl8 (av : AV) (x : HP z1r.ps) (n : Nat) (v : y4c.den) (K : Ks (CR z1r)) : Option (CR z1r) := z4t v.1.1 (y2n.at none ((), ()) (K (.exit 0))) n v.1.2.1
def y3v (av : AV) (x : HP z1r.ps) : Hdl (CR z1r) := hnd [] y4c (yl8 av x)
theorem yq3 : LP z1r Tryz.f89 [0] y3v := lp_ok (W := []) (H := []) (xs := [y2n]) y86 trivial rfl (fun av x v K => by kernel_rfl) (fun av x n v K => by kernel_rfl)
theorem za3 : z1r.Ok Tryz.prog := fn_ok (k := z1r) (fn := Tryz.f89) (W := []) (H := [y3v]) Tryz.func89 y86 ⟨yq3, trivial⟩ rfl rfl (fun av x => by kernel_rfl)
def ze2 (data : List Int) (k : Int) (n : Int) : Option (List Int) := (z52 data).bind fun x1 => (if x1 = true then ((z07 k 0 2).bind fun x3 => (if x3 = true then ((z07 n (-99) 99).bind fun x5 => (if x5 = true then (gd (([] : List Int).length + data.length ≤ SMALL) ((getI (([] : List Int) ++ data) k).bind fun x8 => (some ((([] : List Int) ++ data).set k.toNat n)))) else (gd (([] : List Int).length + data.length ≤ SMALL) (some (([] : List Int) ++ data))))) else (gd (([] : List Int).length + data.length ≤ SMALL) (some (([] : List Int) ++ data))))) else (gd (([] : List Int).length + data.length ≤ SMALL) (some (([] : List Int) ++ data))))
def zv0 : Con := ⟨171, [.v (.sl .I) false, .v .I false, .v .I false], [((.sl .I), true)], [], fun x => ze2 x.1 x.2.1 x.2.2.1⟩
def yx9 : Fs := ⟨[z1r, z0w], [], []⟩
theorem w00 : yx9.Ok Tryz.prog := (fsK za3 (fsK z1c fs0))
theorem w0v : zv0.Ok Tryz.prog := fn_ok (k := zv0) (fn := Tryz.f171) (W := []) (H := []) Tryz.func171 w00 trivial rfl rfl (fun av x => by kernel_rfl)
def z7h (e : GAsk) : Option Bool := if decide (e.op = 0) = true then (some (decide ([e.op, e.var, e.k] = [0, 0, 0]))) else ((z07 e.op 1 3).bind fun x2 => (if x2 = true then ((z07 e.var 0 2).bind fun x4 => (if x4 = true then ((z07 e.k (-99) 99).bind fun x6 => (some x6)) else (some false))) else (some false)))
def zi6 : Con := ⟨138, [.v (.s .ask) false], [(.B, true)], [], fun x => z7h x.1⟩
def w2h : Fs := ⟨[z0w], [], []⟩
theorem w2x : w2h.Ok Tryz.prog := (fsK z1c fs0)
theorem y8k : zi6.Ok Tryz.prog := fn_ok (k := zi6) (fn := Tryz.f138) (W := []) (H := []) Tryz.func138 w2x trivial rfl rfl (fun av x => by kernel_rfl)
def z8b (e : GAsk) (data : List Int) : Option Bool := (z7h e).bind fun x1 => (if x1 = true then ((z52 data).bind fun x3 => (if x3 = true then (if decide (e.op = 1) = true then ((getI data e.var).bind fun x6 => (some (decide (x6 < e.k)))) else (if decide (e.op = 2) = true then ((getI data e.var).bind fun x8 => (some (decide (x8 = e.k)))) else (if decide (e.op = 3) = true then ((getI data e.var).bind fun x10 => (some (decide (e.k < x10)))) else (some true)))) else (some false))) else (some false))
def zg3 : Con := ⟨181, [.v (.s .ask) false, .v (.sl .I) false], [(.B, true)], [], fun x => z8b x.1 x.2.1⟩
def ye0 : Fs := ⟨[zi6, z1r], [], []⟩
theorem yf6 : ye0.Ok Tryz.prog := (fsK y8k (fsK za3 fs0))
theorem yi4 : zg3.Ok Tryz.prog := fn_ok (k := zg3) (fn := Tryz.f181) (W := []) (H := []) Tryz.func181 yf6 trivial rfl rfl (fun av x => by kernel_rfl)
def z0t (n : Int) (low : Int) (high : Int) : Option Bool := if decide (low ≤ n) = true then (some (decide (n ≤ high))) else (some false)
def z2d : Con := ⟨113, [.v .I false, .v .I false, .v .I false], [(.B, true)], [], fun x => z0t x.1 x.2.1 x.2.2.1⟩
def w8n : Fs := ⟨[], [], []⟩
theorem w8y : w8n.Ok Tryz.prog := fs0
theorem z3e : z2d.Ok Tryz.prog := fn_ok (k := z2d) (fn := Tryz.f113) (W := []) (H := []) Tryz.func113 w8y trivial rfl rfl (fun av x => by kernel_rfl)
def z5m (n : Int) : Option Bool := (z0t n (-99) 99).bind fun x1 => (some x1)
def z6s : Con := ⟨114, [.v .I false], [(.B, true)], [], fun x => z5m x.1⟩
def yn2 : Fs := ⟨[z2d], [], []⟩
theorem yp2 : yn2.Ok Tryz.prog := (fsK z3e fs0)
theorem zm8 : z6s.Ok Tryz.prog := fn_ok (k := z6s) (fn := Tryz.f114) (W := []) (H := []) Tryz.func114 yp2 trivial rfl rfl (fun av x => by kernel_rfl)
def z3c (list : List Int) : Option (List Int) := gd (([] : List Int).length + list.length ≤ SMALL) (some (([] : List Int) ++ list))
def z5e : Con := ⟨140, [.v (.sl .I) false], [((.sl .I), true)], [], fun x => z3c x.1⟩
def y9a : Fs := ⟨[], [], []⟩
theorem y9e : y9a.Ok Tryz.prog := fs0
theorem zb1 : z5e.Ok Tryz.prog := fn_ok (k := z5e) (fn := Tryz.f140) (W := []) (H := []) Tryz.func140 y9e trivial rfl rfl (fun av x => by kernel_rfl)
def z7e (e : GAsk) : Option Bool := if decide (e.op = 0) = true then (if decide (e.var = 0) = true then (some (decide (e.k = 0))) else (some false)) else ((z0t e.op 1 3).bind fun x3 => (if x3 = true then ((z0t e.var 0 2).bind fun x5 => (if x5 = true then ((z5m e.k).bind fun x7 => (some x7)) else (some false))) else (some false)))
def zi3 : Con := ⟨141, [.v (.s .ask) false], [(.B, true)], [], fun x => z7e x.1⟩
def w29 : Fs := ⟨[z2d, z6s], [], []⟩
theorem w2t : w29.Ok Tryz.prog := (fsK z3e (fsK zm8 fs0))
theorem y8i : zi3.Ok Tryz.prog := fn_ok (k := zi3) (fn := Tryz.f141) (W := []) (H := []) Tryz.func141 w2t trivial rfl rfl (fun av x => by kernel_rfl)
def zq2  : Option Bool := some true
def z2k (list : List Int) (low : Int) (high : Int) (kx0_0 : Option Bool) : Nat → Int → Option Bool
  | 0, _ => none
  | n0 + 1, s0_0 => if decide (s0_0 < (list.length : Int)) = true then ((getI list s0_0).bind fun x4 => ((z07 x4 low high).bind fun x5 => (if x5 = true then (if decide (0 < s0_0) = true then (gd (ok64 (s0_0 - 1)) ((getI list (s0_0 - 1)).bind fun x9 => ((getI list s0_0).bind fun x10 => (if decide (x10 ≤ x9) = true then (some false) else (gd (ok64 (s0_0 + 1)) ((z2k list low high kx0_0 n0) (s0_0 + 1))))))) else (gd (ok64 (s0_0 + 1)) ((z2k list low high kx0_0 n0) (s0_0 + 1)))) else (some false)))) else (kx0_0)
def z6x (list : List Int) (least : Int) (most : Int) (low : Int) (high : Int) : Option Bool := (z07 (list.length : Int) least most).bind fun x1 => (if x1 = true then (z2k list low high zq2 FUEL 0) else (some false))
def z2u : Con := ⟨214, [.v (.sl .I) false, .v .I false, .v .I false, .v .I false, .v .I false], [(.B, true)], [], fun x => z6x x.1 x.2.1 x.2.2.1 x.2.2.2.1 x.2.2.2.2.1⟩
def yo7 : Fs := ⟨[z0w], [], []⟩
theorem y3p : yo7.Ok Tryz.prog := (fsK z1c fs0)
def y06 : Tmpl := ⟨[(0, .c (.s .I)), (3, .c .i), (4, .c .i), (11, .c .i)], []⟩
def zt1 : Tmpl := ⟨[], []⟩
def y97 (av : AV) (x : HP z2u.ps) (n : Nat) (v : y06.den) (K : Ks (CR z2u)) : Option (CR z2u) := z2k v.1.1 v.1.2.1 v.1.2.2.1 (zt1.at none ((), ()) (K (.exit 0))) n v.1.2.2.2.1
def zy1 (av : AV) (x : HP z2u.ps) : Hdl (CR z2u) := hnd [] y06 (y97 av x)
theorem y9v : LP z2u Tryz.f214 [0] zy1 := lp_ok (W := []) (H := []) (xs := [zt1]) y3p trivial rfl (fun av x v K => by kernel_rfl) (fun av x n v K => by kernel_rfl)
theorem ys8 : z2u.Ok Tryz.prog := fn_ok (k := z2u) (fn := Tryz.f214) (W := []) (H := [zy1]) Tryz.func214 y3p ⟨y9v, trivial⟩ rfl rfl (fun av x => by kernel_rfl)
def y1s  : Option Bool := some false
def z4z (list : List Int) (n : Int) (kx0_0 : Option Bool) : Nat → Int → Option Bool
  | 0, _ => none
  | n0 + 1, s0_0 => if decide (s0_0 < (list.length : Int)) = true then ((getI list s0_0).bind fun x2 => (if decide (x2 = n) = true then (some true) else (gd (ok64 (s0_0 + 1)) ((z4z list n kx0_0 n0) (s0_0 + 1))))) else (kx0_0)
def z7j (list : List Int) (n : Int) : Option Bool := z4z list n y1s FUEL 0
def z2z : Con := ⟨101, [.v (.sl .I) false, .v .I false], [(.B, true)], [], fun x => z7j x.1 x.2.1⟩
def w2m : Fs := ⟨[], [], []⟩
theorem y8b : w2m.Ok Tryz.prog := fs0
def y4h : Tmpl := ⟨[(0, .c (.s .I)), (1, .c .i), (5, .c .i)], []⟩
def y2r : Tmpl := ⟨[], []⟩
def ym3 (av : AV) (x : HP z2z.ps) (n : Nat) (v : y4h.den) (K : Ks (CR z2z)) : Option (CR z2z) := z4z v.1.1 v.1.2.1 (y2r.at none ((), ()) (K (.exit 0))) n v.1.2.2.1
def y40 (av : AV) (x : HP z2z.ps) : Hdl (CR z2z) := hnd [] y4h (ym3 av x)
theorem yq8 : LP z2z Tryz.f101 [0] y40 := lp_ok (W := []) (H := []) (xs := [y2r]) y8b trivial rfl (fun av x v K => by kernel_rfl) (fun av x n v K => by kernel_rfl)
theorem y22 : z2z.Ok Tryz.prog := fn_ok (k := z2z) (fn := Tryz.f101) (W := []) (H := [y40]) Tryz.func101 y8b ⟨yq8, trivial⟩ rfl rfl (fun av x => by kernel_rfl)
def zp9 (s0_0 : Int) (bk0 : Int → Option Bool) : Option Bool := gd (ok64 (s0_0 + 1)) (bk0 (s0_0 + 1))
def z1s (t : GTask) (s0_0 : Int) (x4 : GFlow) (kx1_0 : Option Bool) : Nat → Int → Option Bool
  | 0, _ => none
  | n1 + 1, s1_0 => if decide (s1_0 < s0_0) = true then ((getI t.out s1_0).bind fun x14 => (if decide (x14.to = x4.to) = true then (some false) else (gd (ok64 (s1_0 + 1)) ((z1s t s0_0 x4 kx1_0 n1) (s1_0 + 1))))) else (kx1_0)
def zq0 (s0_0 : Int) (bk0 : Int → Option Bool) : Option Bool := gd (ok64 (s0_0 + 1)) (bk0 (s0_0 + 1))
def zq1  : Option Bool := some true
def z2j (t : GTask) (places : Int) (kx0_0 : Option Bool) : Nat → Int → Option Bool
  | 0, _ => none
  | n0 + 1, s0_0 => if decide (s0_0 < (t.out.length : Int)) = true then ((getI t.out s0_0).bind fun x4 => (gd (ok64 ((t.out.length : Int) - 1)) (if decide (s0_0 = ((t.out.length : Int) - 1)) = true then (gd (ok64 (places - 1)) ((z07 x4.to 1 (places - 1)).bind fun x8 => (if x8 = true then ((z7h x4.if_).bind fun x10 => (if x10 = true then (if (true == (decide (x4.if_.op = 0))) = true then (z1s t s0_0 x4 (zp9 s0_0 (z2j t places kx0_0 n0)) FUEL 0) else (some false)) else (some false))) else (some false)))) else (gd (ok64 (places - 1)) ((z07 x4.to 1 (places - 1)).bind fun x19 => (if x19 = true then ((z7h x4.if_).bind fun x21 => (if x21 = true then (if ((decide (t.split = 1)) == (decide (x4.if_.op = 0))) = true then (z1s t s0_0 x4 (zq0 s0_0 (z2j t places kx0_0 n0)) FUEL 0) else (some false)) else (some false))) else (some false))))))) else (kx0_0)
def z9s (t : GTask) (places : Int) : Option Bool := (z07 (t.out.length : Int) 1 3).bind fun x1 => (if x1 = true then (z2j t places zq1 FUEL 0) else (some false))
def z0p : Con := ⟨215, [.v (.s .task) false, .v .I false], [(.B, true)], [], fun x => z9s x.1 x.2.1⟩
def yo6 : Fs := ⟨[z0w, zi6], [], []⟩
theorem zl6 : yo6.Ok Tryz.prog := (fsK z1c (fsK y8k fs0))
def zk1 : Tmpl := ⟨[(1, .c .i), (2, .c (.bx 2 0)), (5, .c .i), (6, .c (.bx 6 0)), (8, .c .i)], [(2, .boxT (.s .task)), (6, .boxT (.s .flow))]⟩
def zh6 : Tmpl := ⟨[(1, .c .i), (2, .c (.bx 2 0)), (5, .c .i)], [(2, .boxT (.s .task))]⟩
def y57 (av : AV) (x : HP z0p.ps) (n : Nat) (v : zk1.den) (K : Ks (CR z0p)) : Option (CR z0p) := z1s v.2.1 v.1.2.2.1 v.2.2.1 (zh6.at none ((v.1.1, (), v.1.2.2.1, ()), (v.2.1, ())) (K (.exit 2))) n v.1.2.2.2.2.1
def zi0 (av : AV) (x : HP z0p.ps) : Hdl (CR z0p) := hnd [] zk1 (y57 av x)
theorem y5s : LP z0p Tryz.f215 [0, 0] zi0 := lp_ok (W := []) (H := []) (xs := [zh6]) zl6 trivial rfl (fun av x v K => by kernel_rfl) (fun av x n v K => by kernel_rfl)
def y05 : Tmpl := ⟨[(1, .c .i), (2, .c (.bx 2 0)), (5, .c .i)], [(2, .boxT (.s .task))]⟩
def zt0 : Tmpl := ⟨[], []⟩
def y96 (av : AV) (x : HP z0p.ps) (n : Nat) (v : y05.den) (K : Ks (CR z0p)) : Option (CR z0p) := z2j v.2.1 v.1.1 (zt0.at none ((), ()) (K (.exit 0))) n v.1.2.2.1
def zy0 (av : AV) (x : HP z0p.ps) : Hdl (CR z0p) := hnd [] y05 (y96 av x)
theorem y9u : LP z0p Tryz.f215 [0] zy0 := lp_ok (W := []) (H := [zi0]) (xs := [zt0]) zl6 ⟨y5s, trivial⟩ rfl (fun av x v K => by kernel_rfl) (fun av x n v K => by kernel_rfl)
theorem ys7 : z0p.Ok Tryz.prog := fn_ok (k := z0p) (fn := Tryz.f215) (W := []) (H := [zy0]) Tryz.func215 zl6 ⟨y9u, trivial⟩ rfl rfl (fun av x => by kernel_rfl)
def ze7 (t : GTask) (places : Int) (tasks : Int) : Option Bool := (z07 t.join 1 3).bind fun x1 => (if x1 = true then ((z07 t.split 1 3).bind fun x3 => (if x3 = true then (gd (ok64 (places - 1)) ((z6x t.in_ 1 3 0 (places - 1)).bind fun x6 => (if x6 = true then ((z7j t.in_ 1).bind fun x8 => (if x8 = true then (some false) else ((z9s t places).bind fun x10 => (if x10 = true then (gd (ok64 (places - 1)) ((z6x t.clear 0 places 2 (places - 1)).bind fun x13 => (if x13 = true then ((z07 t.role 1 3).bind fun x15 => (if x15 = true then (gd (ok64 (tasks - 1)) ((z07 t.apart (-1) (tasks - 1)).bind fun x18 => (if x18 = true then ((z07 t.all 1 3).bind fun x20 => (if x20 = true then ((z07 t.need 1 t.all).bind fun x22 => (some x22)) else (some false))) else (some false)))) else (some false))) else (some false)))) else (some false))))) else (some false)))) else (some false))) else (some false))
def zv2 : Con := ⟨198, [.v (.s .task) false, .v .I false, .v .I false], [(.B, true)], [], fun x => ze7 x.1 x.2.1 x.2.2.1⟩
def yy7 : Fs := ⟨[z0w, z2u, z2z, z0p], [], []⟩
theorem w04 : yy7.Ok Tryz.prog := (fsK z1c (fsK ys8 (fsK y22 (fsK ys7 fs0))))
theorem w10 : zv2.Ok Tryz.prog := fn_ok (k := zv2) (fn := Tryz.f198) (W := []) (H := []) Tryz.func198 w04 trivial rfl rfl (fun av x => by kernel_rfl)
def y1q  : Option Bool := some true
def z4w (n : GNet) (kx0_0 : Option Bool) : Nat → Int → Option Bool
  | 0, _ => none
  | n0 + 1, s0_0 => if decide (s0_0 < (n.tasks.length : Int)) = true then ((getI n.tasks s0_0).bind fun x6 => ((ze7 x6 n.places (n.tasks.length : Int)).bind fun x7 => (if x7 = true then (gd (ok64 (s0_0 + 1)) ((z4w n kx0_0 n0) (s0_0 + 1))) else (some false)))) else (kx0_0)
def z31 (n : GNet) : Option Bool := (z07 n.places 2 8).bind fun x1 => (if x1 = true then ((z07 (n.tasks.length : Int) 1 6).bind fun x3 => (if x3 = true then (z4w n y1q FUEL 0) else (some false))) else (some false))
def z2a : Con := ⟨161, [.v (.s .net) false], [(.B, true)], [], fun x => z31 x.1⟩
def w2j : Fs := ⟨[z0w, zv2], [], []⟩
theorem y88 : w2j.Ok Tryz.prog := (fsK z1c (fsK w10 fs0))
def y4e : Tmpl := ⟨[(1, .c (.bx 1 0)), (3, .c .i)], [(1, .boxT (.s .net))]⟩
def y2p : Tmpl := ⟨[], []⟩
def ym0 (av : AV) (x : HP z2a.ps) (n : Nat) (v : y4e.den) (K : Ks (CR z2a)) : Option (CR z2a) := z4w v.2.1 (y2p.at none ((), ()) (K (.exit 0))) n v.1.2.1
def y3x (av : AV) (x : HP z2a.ps) : Hdl (CR z2a) := hnd [] y4e (ym0 av x)
theorem yq5 : LP z2a Tryz.f161 [0] y3x := lp_ok (W := []) (H := []) (xs := [y2p]) y88 trivial rfl (fun av x v K => by kernel_rfl) (fun av x n v K => by kernel_rfl)
theorem zj9 : z2a.Ok Tryz.prog := fn_ok (k := z2a) (fn := Tryz.f161) (W := []) (H := [y3x]) Tryz.func161 y88 ⟨yq5, trivial⟩ rfl rfl (fun av x => by kernel_rfl)
def z8j (s1_0 : Int) (bk1 : Int → List Bool → Option (List Bool)) (l3_1 : List Bool) : Option (List Bool) := gd (ok64 (s1_0 + 1)) (bk1 (s1_0 + 1) l3_1)
def z8k (s1_0 : Int) (bk1 : Int → List Bool → Option (List Bool)) (l3_1 : List Bool) : Option (List Bool) := gd (ok64 (s1_0 + 1)) (bk1 (s1_0 + 1) l3_1)
def z8l (s1_0 : Int) (bk1 : Int → List Bool → Option (List Bool)) (l3_1 : List Bool) : Option (List Bool) := gd (ok64 (s1_0 + 1)) (bk1 (s1_0 + 1) l3_1)
def z14 (n : GNet) (but : Int) (s1_0 : Int) (s2_0 : Bool) (kx3_0 : List Bool → Option (List Bool)) (kx3_1 : List Bool → Option (List Bool)) (kx3_2 : List Bool → Option (List Bool)) : Nat → Int → List Bool → Option (List Bool)
  | 0, _, _ => none
  | n3 + 1, s3_0, l3_1 => (getI n.tasks s1_0).bind fun x12 => (if decide (s3_0 < (x12.out.length : Int)) = true then (if s2_0 = true then (if decide (s1_0 = but) = true then (kx3_0 l3_1) else ((getI n.tasks s1_0).bind fun x17 => ((getI x17.out s3_0).bind fun x18 => ((getI l3_1 x18.to).bind fun x19 => (gd (ok64 (s3_0 + 1)) ((z14 n but s1_0 s2_0 kx3_0 kx3_1 kx3_2 n3) (s3_0 + 1) (l3_1.set x18.to.toNat true))))))) else (kx3_1 l3_1)) else (kx3_2 l3_1))
def zj2 (n : GNet) (but : Int) (s1_0 : Int) (l1_1 : List Bool) (bk1 : Int → List Bool → Option (List Bool)) (s2_0 : Bool) : Option (List Bool) := z14 n but s1_0 s2_0 (z8j s1_0 bk1) (z8k s1_0 bk1) (z8l s1_0 bk1) FUEL 0 l1_1
def z1i (n : GNet) (s1_0 : Int) (l1_1 : List Bool) (kx2_0 : Bool → Option (List Bool)) : Nat → Bool → Int → Option (List Bool)
  | 0, _, _ => none
  | n2 + 1, s2_0, s2_1 => (getI n.tasks s1_0).bind fun x4 => (if decide (s2_1 < (x4.in_.length : Int)) = true then (if s2_0 = true then (gd (ok64 (s2_1 + 1)) ((z1i n s1_0 l1_1 kx2_0 n2) true (s2_1 + 1))) else ((getI n.tasks s1_0).bind fun x8 => ((getI x8.in_ s2_1).bind fun x9 => ((getI l1_1 x9).bind fun x10 => (gd (ok64 (s2_1 + 1)) ((z1i n s1_0 l1_1 kx2_0 n2) x10 (s2_1 + 1))))))) else (kx2_0 s2_0))
def zj3 (s0_0 : Int) (bk0 : Int → List Bool → Option (List Bool)) (l1_1 : List Bool) : Option (List Bool) := gd (ok64 (s0_0 + 1)) (bk0 (s0_0 + 1) l1_1)
def z0d (n : GNet) (but : Int) (kx1_0 : List Bool → Option (List Bool)) : Nat → Int → List Bool → Option (List Bool)
  | 0, _, _ => none
  | n1 + 1, s1_0, l1_1 => if decide (s1_0 < (n.tasks.length : Int)) = true then (z1i n s1_0 l1_1 (zj2 n but s1_0 l1_1 (z0d n but kx1_0 n1)) FUEL false 0) else (kx1_0 l1_1)
def zj4 (l0_1 : List Bool) : Option (List Bool) := some l0_1
def z38 (n : GNet) (but : Int) (kx0_0 : List Bool → Option (List Bool)) : Nat → Int → List Bool → Option (List Bool)
  | 0, _, _ => none
  | n0 + 1, s0_0, l0_1 => if decide (s0_0 < n.places) = true then (z0d n but (zj3 s0_0 (z38 n but kx0_0 n0)) FUEL 0 l0_1) else (kx0_0 l0_1)
def z8i (n : GNet) (marked : List Bool) (but : Int) : Option (List Bool) := gd (([] : List Bool).length + marked.length ≤ SMALL) (z38 n but zj4 FUEL 0 (([] : List Bool) ++ marked))
def z05 : Con := ⟨216, [.v (.s .net) false, .v (.sl .B) false, .v .I false], [((.sl .B), true)], [], fun x => z8i x.1 x.2.1 x.2.2.1⟩
def ye3 : Fs := ⟨[], [], []⟩
theorem z5s : ye3.Ok Tryz.prog := fs0
def za6 : Tmpl := ⟨[(2, .c .i), (3, .c (.bx 3 0)), (7, .c (.ref 15)), (8, .c .i), (9, .c .i), (10, .c .b), (11, .c .i)], [(3, .boxT (.s .net)), (15, .arr .B true)]⟩
def z97 : Tmpl := ⟨[(2, .c .i), (3, .c (.bx 3 0)), (7, .c (.ref 15)), (8, .c .i), (9, .c .i), (10, .c .b)], [(3, .boxT (.s .net)), (15, .arr .B true)]⟩
def y0m (av : AV) (x : HP z05.ps) (n : Nat) (v : za6.den) (K : Ks (CR z05)) : Option (CR z05) := z1i v.2.1 v.1.2.2.2.2.1 v.2.2.1 (fun s2_0 => z97.at none ((v.1.1, (), (), v.1.2.2.2.1, v.1.2.2.2.2.1, s2_0, ()), (v.2.1, v.2.2.1, ())) (K (.exit 4))) n v.1.2.2.2.2.2.1 v.1.2.2.2.2.2.2.1
def z9v (av : AV) (x : HP z05.ps) : Hdl (CR z05) := hnd [] za6 (y0m av x)
theorem y1i : LP z05 Tryz.f216 [0, 0, 0] z9v := lp_ok (W := []) (H := []) (xs := [z97]) z5s trivial rfl (fun av x v K => by kernel_rfl) (fun av x n v K => by kernel_rfl)
def za7 : Tmpl := ⟨[(2, .c .i), (3, .c (.bx 3 0)), (7, .c (.ref 15)), (8, .c .i), (9, .c .i), (10, .c .b), (12, .c .i)], [(3, .boxT (.s .net)), (15, .arr .B true)]⟩
def z3u : Tmpl := ⟨[(2, .c .i), (3, .c (.bx 3 0)), (7, .c (.ref 15)), (8, .c .i), (9, .c .i)], [(3, .boxT (.s .net)), (15, .arr .B true)]⟩
def y0n (av : AV) (x : HP z05.ps) (n : Nat) (v : za7.den) (K : Ks (CR z05)) : Option (CR z05) := z14 v.2.1 v.1.1 v.1.2.2.2.2.1 v.1.2.2.2.2.2.1 (fun l3_1 => z3u.at none ((v.1.1, (), (), v.1.2.2.2.1, v.1.2.2.2.2.1, ()), (v.2.1, l3_1, ())) (K (.exit 6))) (fun l3_1 => z3u.at none ((v.1.1, (), (), v.1.2.2.2.1, v.1.2.2.2.2.1, ()), (v.2.1, l3_1, ())) (K (.exit 6))) (fun l3_1 => z3u.at none ((v.1.1, (), (), v.1.2.2.2.1, v.1.2.2.2.2.1, ()), (v.2.1, l3_1, ())) (K (.exit 6))) n v.1.2.2.2.2.2.2.1 v.2.2.1
def z9w (av : AV) (x : HP z05.ps) : Hdl (CR z05) := hnd [] za7 (y0n av x)
theorem y1j : LP z05 Tryz.f216 [0, 0, 1] z9w := lp_ok (W := []) (H := []) (xs := [z3u]) z5s trivial rfl (fun av x v K => by kernel_rfl) (fun av x n v K => by kernel_rfl)
def zh4 : Tmpl := ⟨[(2, .c .i), (3, .c (.bx 3 0)), (7, .c (.ref 15)), (8, .c .i), (9, .c .i)], [(3, .boxT (.s .net)), (15, .arr .B true)]⟩
def zc4 : Tmpl := ⟨[(2, .c .i), (3, .c (.bx 3 0)), (7, .c (.ref 15)), (8, .c .i)], [(3, .boxT (.s .net)), (15, .arr .B true)]⟩
def y4l (av : AV) (x : HP z05.ps) (n : Nat) (v : zh4.den) (K : Ks (CR z05)) : Option (CR z05) := z0d v.2.1 v.1.1 (fun l1_1 => zc4.at none ((v.1.1, (), (), v.1.2.2.2.1, ()), (v.2.1, l1_1, ())) (K (.exit 2))) n v.1.2.2.2.2.1 v.2.2.1
def zf8 (av : AV) (x : HP z05.ps) : Hdl (CR z05) := hnd [] zh4 (y4l av x)
theorem y4v : LP z05 Tryz.f216 [0, 0] zf8 := lp_ok (W := []) (H := [z9v, z9w]) (xs := [zc4]) z5s ⟨y1i, y1j, trivial⟩ rfl (fun av x v K => by kernel_rfl) (fun av x n v K => by kernel_rfl)
def zr4 : Tmpl := ⟨[(2, .c .i), (3, .c (.bx 3 0)), (7, .c (.ref 15)), (8, .c .i)], [(3, .boxT (.s .net)), (15, .arr .B true)]⟩
def zk8 : Tmpl := ⟨[(7, .c (.ref 15))], [(15, .arr .B true)]⟩
def y6q (av : AV) (x : HP z05.ps) (n : Nat) (v : zr4.den) (K : Ks (CR z05)) : Option (CR z05) := z38 v.2.1 v.1.1 (fun l0_1 => zk8.at none (((), ()), (l0_1, ())) (K (.exit 0))) n v.1.2.2.2.1 v.2.2.1
def zo8 (av : AV) (x : HP z05.ps) : Hdl (CR z05) := hnd [] zr4 (y6q av x)
theorem y7g : LP z05 Tryz.f216 [0] zo8 := lp_ok (W := []) (H := [zf8]) (xs := [zk8]) z5s ⟨y4v, trivial⟩ rfl (fun av x v K => by kernel_rfl) (fun av x n v K => by kernel_rfl)
theorem yi7 : z05.Ok Tryz.prog := fn_ok (k := z05) (fn := Tryz.f216) (W := []) (H := [zo8]) Tryz.func216 z5s ⟨y7g, trivial⟩ rfl rfl (fun av x => by kernel_rfl)
def zd9 (kind : Int) : Option Bool := (z0t kind 1 3).bind fun x1 => (some x1)
def zu7 : Con := ⟨177, [.v .I false], [(.B, true)], [], fun x => zd9 x.1⟩
def yx3 : Fs := ⟨[z2d], [], []⟩
theorem yz6 : yx3.Ok Tryz.prog := (fsK z3e fs0)
theorem w0q : zu7.Ok Tryz.prog := fn_ok (k := zu7) (fn := Tryz.f177) (W := []) (H := []) Tryz.func177 yz6 trivial rfl rfl (fun av x => by kernel_rfl)
def z86 (role : Int) : Option Bool := (z0t role 1 3).bind fun x1 => (some x1)
def zd1 : Con := ⟨151, [.v .I false], [(.B, true)], [], fun x => z86 x.1⟩
def yx4 : Fs := ⟨[z2d], [], []⟩
theorem yz7 : yx4.Ok Tryz.prog := (fsK z3e fs0)
theorem y5z : zd1.Ok Tryz.prog := fn_ok (k := zd1) (fn := Tryz.f151) (W := []) (H := []) Tryz.func151 yz7 trivial rfl rfl (fun av x => by kernel_rfl)
def zm7 (places : Int) (tasks : Int) : Option Bool := (z0t places 2 8).bind fun x1 => (if x1 = true then ((z0t tasks 1 6).bind fun x3 => (some x3)) else (some false))
def zl9 : Con := ⟨122, [.v .I false, .v .I false], [(.B, true)], [], fun x => zm7 x.1 x.2.1⟩
def yn5 : Fs := ⟨[z2d], [], []⟩
theorem yp4 : yn5.Ok Tryz.prog := (fsK z3e fs0)
theorem yr7 : zl9.Ok Tryz.prog := fn_ok (k := zl9) (fn := Tryz.f122) (W := []) (H := []) Tryz.func122 yp4 trivial rfl rfl (fun av x => by kernel_rfl)
def z0g (n : GNet) (t : Int) : Option Bool := gd (ok64 ((n.tasks.length : Int) - 1)) ((z0t t 0 ((n.tasks.length : Int) - 1)).bind fun x2 => (some x2))
def z19 : Con := ⟨96, [.v (.s .net) false, .v .I false], [(.B, true)], [], fun x => z0g x.1 x.2.1⟩
def y0q : Fs := ⟨[z2d], [], []⟩
theorem y0u : y0q.Ok Tryz.prog := (fsK z3e fs0)
theorem z32 : z19.Ok Tryz.prog := fn_ok (k := z19) (fn := Tryz.f96) (W := []) (H := []) Tryz.func96 y0u trivial rfl rfl (fun av x => by kernel_rfl)
def y1p  : Option Bool := some true
def z4v (marks : List Int) (kx0_0 : Option Bool) : Nat → Int → Option Bool
  | 0, _ => none
  | n0 + 1, s0_0 => if decide (s0_0 < (marks.length : Int)) = true then ((getI marks s0_0).bind fun x5 => ((z07 x5 0 4).bind fun x6 => (if x6 = true then (gd (ok64 (s0_0 + 1)) ((z4v marks kx0_0 n0) (s0_0 + 1))) else (some false)))) else (kx0_0)
def z60 (n : GNet) (marks : List Int) : Option Bool := (z31 n).bind fun x1 => (if x1 = true then (if decide ((marks.length : Int) = n.places) = true then (z4v marks y1p FUEL 0) else (some false)) else (some false))
def z29 : Con := ⟨87, [.v (.s .net) false, .v (.sl .I) false], [(.B, true)], [], fun x => z60 x.1 x.2.1⟩
def w2i : Fs := ⟨[z2a, z0w], [], []⟩
theorem y87 : w2i.Ok Tryz.prog := (fsK zj9 (fsK z1c fs0))
def y4d : Tmpl := ⟨[(1, .c (.s .I)), (5, .c .i)], []⟩
def y2o : Tmpl := ⟨[], []⟩
def yl9 (av : AV) (x : HP z29.ps) (n : Nat) (v : y4d.den) (K : Ks (CR z29)) : Option (CR z29) := z4v v.1.1 (y2o.at none ((), ()) (K (.exit 0))) n v.1.2.1
def y3w (av : AV) (x : HP z29.ps) : Hdl (CR z29) := hnd [] y4d (yl9 av x)
theorem yq4 : LP z29 Tryz.f87 [0] y3w := lp_ok (W := []) (H := []) (xs := [y2o]) y87 trivial rfl (fun av x v K => by kernel_rfl) (fun av x n v K => by kernel_rfl)
theorem zj8 : z29.Ok Tryz.prog := fn_ok (k := z29) (fn := Tryz.f87) (W := []) (H := [y3w]) Tryz.func87 y87 ⟨yq4, trivial⟩ rfl rfl (fun av x => by kernel_rfl)
def z75 (s0_0 : Bool) (s0_1 : Bool) : Option (Bool × Bool) := some (s0_0, s0_1)
def z1d (marks : List Int) (list : List Int) (kx0_0 : Bool → Bool → Option (Bool × Bool)) : Nat → Bool → Bool → Int → Option (Bool × Bool)
  | 0, _, _, _ => none
  | n0 + 1, s0_0, s0_1, s0_2 => if decide (s0_2 < (list.length : Int)) = true then (if s0_0 = true then (if s0_1 = true then ((getI list s0_2).bind fun x4 => ((getI marks x4).bind fun x5 => (gd (ok64 (s0_2 + 1)) ((z1d marks list kx0_0 n0) true (decide (0 < x5)) (s0_2 + 1))))) else (gd (ok64 (s0_2 + 1)) ((z1d marks list kx0_0 n0) true false (s0_2 + 1)))) else ((getI list s0_2).bind fun x8 => ((getI marks x8).bind fun x9 => (if s0_1 = true then ((getI list s0_2).bind fun x11 => ((getI marks x11).bind fun x12 => (gd (ok64 (s0_2 + 1)) ((z1d marks list kx0_0 n0) (decide (0 < x9)) (decide (0 < x12)) (s0_2 + 1))))) else (gd (ok64 (s0_2 + 1)) ((z1d marks list kx0_0 n0) (decide (0 < x9)) false (s0_2 + 1))))))) else (kx0_0 s0_0 s0_1)
def ze8 (marks : List Int) (list : List Int) : Option (Bool × Bool) := z1d marks list z75 FUEL false true 0
def z3l : Con := ⟨200, [.v (.sl .I) false, .v (.sl .I) false], [(.B, true), (.B, true)], [], fun x => ze8 x.1 x.2.1⟩
def yy9 : Fs := ⟨[], [], []⟩
theorem y5o : yy9.Ok Tryz.prog := fs0
def y2h : Tmpl := ⟨[(0, .c (.s .I)), (1, .c (.s .I)), (6, .c .b), (7, .c .b), (8, .c .i)], []⟩
def y0g : Tmpl := ⟨[(6, .c .b), (7, .c .b)], []⟩
def yc4 (av : AV) (x : HP z3l.ps) (n : Nat) (v : y2h.den) (K : Ks (CR z3l)) : Option (CR z3l) := z1d v.1.1 v.1.2.1 (fun s0_0 s0_1 => y0g.at none ((s0_0, s0_1, ()), ()) (K (.exit 0))) n v.1.2.2.1 v.1.2.2.2.1 v.1.2.2.2.2.1
def y1a (av : AV) (x : HP z3l.ps) : Hdl (CR z3l) := hnd [] y2h (yc4 av x)
theorem yh4 : LP z3l Tryz.f200 [0] y1a := lp_ok (W := []) (H := []) (xs := [y0g]) y5o trivial rfl (fun av x v K => by kernel_rfl) (fun av x n v K => by kernel_rfl)
theorem w11 : z3l.Ok Tryz.prog := fn_ok (k := z3l) (fn := Tryz.f200) (W := []) (H := [y1a]) Tryz.func200 y5o ⟨yh4, trivial⟩ rfl rfl (fun av x => by kernel_rfl)
def z3a (s1_0 : Int) (bk1 : Int → List Bool → Option Bool) (l2_1 : List Bool) : Option Bool := gd (ok64 (s1_0 + 1)) (bk1 (s1_0 + 1) l2_1)
def z22 (p2_0 : List GFlow) (kx2_0 : List Bool → Option Bool) : Nat → Int → List Bool → Option Bool
  | 0, _, _ => none
  | n2 + 1, s2_0, l2_1 => if decide (s2_0 < (p2_0.length : Int)) = true then ((getI p2_0 s2_0).bind fun x15 => ((getI l2_1 x15.to).bind fun x16 => (gd (ok64 (s2_0 + 1)) ((z22 p2_0 kx2_0 n2) (s2_0 + 1) (l2_1.set x15.to.toNat true))))) else (kx2_0 l2_1)
def z8o  : Option Bool := some false
def z1l (n : GNet) (marks : List Int) (t : Int) (x19 : (List Bool)) (kx3_0 : Option Bool) : Nat → Int → Option Bool
  | 0, _ => none
  | n3 + 1, s3_0 => (getI n.tasks t).bind fun x20 => (if decide (s3_0 < (x20.in_.length : Int)) = true then ((getI n.tasks t).bind fun x22 => ((getI x22.in_ s3_0).bind fun x23 => ((getI marks x23).bind fun x24 => (if decide (x24 = 0) = true then ((getI n.tasks t).bind fun x26 => ((getI x26.in_ s3_0).bind fun x27 => ((getI x19 x27).bind fun x28 => (if x28 = true then (some true) else (gd (ok64 (s3_0 + 1)) ((z1l n marks t x19 kx3_0 n3) (s3_0 + 1))))))) else (gd (ok64 (s3_0 + 1)) ((z1l n marks t x19 kx3_0 n3) (s3_0 + 1))))))) else (kx3_0))
def z1j (n : GNet) (marks : List Int) (t : Int) (l1_1 : List Bool) : Option Bool := (z8i n l1_1 t).bind fun x19 => (z1l n marks t x19 z8o FUEL 0)
def z0u (n : GNet) (busy : List GItem) (kx1_0 : List Bool → Option Bool) : Nat → Int → List Bool → Option Bool
  | 0, _, _ => none
  | n1 + 1, s1_0, l1_1 => if decide (s1_0 < (busy.length : Int)) = true then ((getI busy s1_0).bind fun x12 => ((getI n.tasks x12.task).bind fun x13 => (z22 x13.out (z3a s1_0 (z0u n busy kx1_0 n1)) FUEL 0 l1_1))) else (kx1_0 l1_1)
def z39 (n : GNet) (marks : List Int) (busy : List GItem) (t : Int) (l0_1 : List Bool) : Option Bool := z0u n busy (z1j n marks t) FUEL 0 l0_1
def z1k (n : GNet) (marks : List Int) (t : Int) (kx0_0 : List Bool → Option Bool) : Nat → Int → List Bool → Option Bool
  | 0, _, _ => none
  | n0 + 1, s0_0, l0_1 => if decide (s0_0 < n.places) = true then ((getI marks s0_0).bind fun x3 => (if decide (0 < x3) = true then ((getI n.tasks t).bind fun x5 => ((z7j x5.in_ s0_0).bind fun x6 => ((getI l0_1 s0_0).bind fun x7 => (gd (ok64 (s0_0 + 1)) ((z1k n marks t kx0_0 n0) (s0_0 + 1) (l0_1.set s0_0.toNat (!x6))))))) else ((getI l0_1 s0_0).bind fun x9 => (gd (ok64 (s0_0 + 1)) ((z1k n marks t kx0_0 n0) (s0_0 + 1) (l0_1.set s0_0.toNat false)))))) else (kx0_0 l0_1)
def z8n (n : GNet) (marks : List Int) (busy : List GItem) (t : Int) : Option Bool := gd ((0 : Int) ≤ n.places ∧ n.places ≤ (1000000000 : Int)) (z1k n marks t (z39 n marks busy t) FUEL 0 (List.replicate n.places.toNat false))
def z06 : Con := ⟨201, [.v (.s .net) false, .v (.sl .I) false, .v (.sl (.s .item)) false, .v .I false], [(.B, true)], [], fun x => z8n x.1 x.2.1 x.2.2.1 x.2.2.2.1⟩
def ye4 : Fs := ⟨[z2z, z05], [], []⟩
theorem z5t : ye4.Ok Tryz.prog := (fsK y22 (fsK yi7 fs0))
def zh5 : Tmpl := ⟨[(1, .c (.s .I)), (2, .c (.s (.s .item))), (3, .c .i), (4, .c (.bx 4 0)), (9, .c (.ref 18)), (11, .c .i), (12, .c (.s (.s .flow))), (13, .c .i)], [(4, .boxT (.s .net)), (18, .arr .B true)]⟩
def zc5 : Tmpl := ⟨[(1, .c (.s .I)), (2, .c (.s (.s .item))), (3, .c .i), (4, .c (.bx 4 0)), (9, .c (.ref 18)), (11, .c .i)], [(4, .boxT (.s .net)), (18, .arr .B true)]⟩
def y4m (av : AV) (x : HP z06.ps) (n : Nat) (v : zh5.den) (K : Ks (CR z06)) : Option (CR z06) := z22 v.1.2.2.2.2.2.2.1 (fun l2_1 => zc5.at none ((v.1.1, v.1.2.1, v.1.2.2.1, (), (), v.1.2.2.2.2.2.1, ()), (v.2.1, l2_1, ())) (K (.exit 4))) n v.1.2.2.2.2.2.2.2.1 v.2.2.1
def zf9 (av : AV) (x : HP z06.ps) : Hdl (CR z06) := hnd [] zh5 (y4m av x)
theorem y4w : LP z06 Tryz.f201 [1, 0] zf9 := lp_ok (W := []) (H := []) (xs := [zc5]) z5t trivial rfl (fun av x v K => by kernel_rfl) (fun av x n v K => by kernel_rfl)
def zr5 : Tmpl := ⟨[(1, .c (.s .I)), (2, .c (.s (.s .item))), (3, .c .i), (4, .c (.bx 4 0)), (9, .c (.ref 18)), (10, .c .i)], [(4, .boxT (.s .net)), (18, .arr .B true)]⟩
def zk9 : Tmpl := ⟨[(1, .c (.s .I)), (2, .c (.s (.s .item))), (3, .c .i), (4, .c (.bx 4 0)), (9, .c (.ref 18))], [(4, .boxT (.s .net)), (18, .arr .B true)]⟩
def y6r (av : AV) (x : HP z06.ps) (n : Nat) (v : zr5.den) (K : Ks (CR z06)) : Option (CR z06) := z1k v.2.1 v.1.1 v.1.2.2.1 (fun l0_1 => zk9.at none ((v.1.1, v.1.2.1, v.1.2.2.1, (), (), ()), (v.2.1, l0_1, ())) (K (.exit 0))) n v.1.2.2.2.2.2.1 v.2.2.1
def zo9 (av : AV) (x : HP z06.ps) : Hdl (CR z06) := hnd [] zr5 (y6r av x)
theorem y7h : LP z06 Tryz.f201 [0] zo9 := lp_ok (W := []) (H := []) (xs := [zk9]) z5t trivial rfl (fun av x v K => by kernel_rfl) (fun av x n v K => by kernel_rfl)
def zr6 : Tmpl := ⟨[(1, .c (.s .I)), (2, .c (.s (.s .item))), (3, .c .i), (4, .c (.bx 4 0)), (9, .c (.ref 18)), (11, .c .i)], [(4, .boxT (.s .net)), (18, .arr .B true)]⟩
def zl0 : Tmpl := ⟨[(1, .c (.s .I)), (3, .c .i), (4, .c (.bx 4 0)), (9, .c (.ref 18))], [(4, .boxT (.s .net)), (18, .arr .B true)]⟩
def y6s (av : AV) (x : HP z06.ps) (n : Nat) (v : zr6.den) (K : Ks (CR z06)) : Option (CR z06) := z0u v.2.1 v.1.2.1 (fun l1_1 => zl0.at none ((v.1.1, v.1.2.2.1, (), (), ()), (v.2.1, l1_1, ())) (K (.exit 2))) n v.1.2.2.2.2.2.1 v.2.2.1
def zp0 (av : AV) (x : HP z06.ps) : Hdl (CR z06) := hnd [] zr6 (y6s av x)
theorem y7i : LP z06 Tryz.f201 [1] zp0 := lp_ok (W := []) (H := [zf9]) (xs := [zl0]) z5t ⟨y4w, trivial⟩ rfl (fun av x v K => by kernel_rfl) (fun av x n v K => by kernel_rfl)
def zr7 : Tmpl := ⟨[(1, .c (.s .I)), (3, .c .i), (4, .c (.bx 4 0)), (14, .c (.ref 76)), (15, .c .i)], [(4, .boxT (.s .net)), (76, .arr .B true)]⟩
def zl1 : Tmpl := ⟨[], []⟩
def y6t (av : AV) (x : HP z06.ps) (n : Nat) (v : zr7.den) (K : Ks (CR z06)) : Option (CR z06) := z1l v.2.1 v.1.1 v.1.2.1 v.2.2.1 (zl1.at none ((), ()) (K (.exit 6))) n v.1.2.2.2.2.1
def zp1 (av : AV) (x : HP z06.ps) : Hdl (CR z06) := hnd [] zr7 (y6t av x)
theorem y7j : LP z06 Tryz.f201 [2] zp1 := lp_ok (W := []) (H := []) (xs := [zl1]) z5t trivial rfl (fun av x v K => by kernel_rfl) (fun av x n v K => by kernel_rfl)
theorem yi8 : z06.Ok Tryz.prog := fn_ok (k := z06) (fn := Tryz.f201) (W := []) (H := [zo9, zp0, zp1]) Tryz.func201 z5t ⟨y7h, y7i, y7j, trivial⟩ rfl rfl (fun av x => by kernel_rfl)
def zj5 (n : GNet) (marks : List Int) (busy : List GItem) (t : Int) : Option Bool := (getI n.tasks t).bind fun x1 => ((ze8 marks x1.in_).bind fun x2 => ((getI n.tasks t).bind fun x3 => (if decide (x3.join = 1) = true then (some x2.2) else (if decide (x3.join = 2) = true then (some x2.1) else (if x2.1 = true then (if x2.2 = true then (some true) else ((z8n n marks busy t).bind fun x8 => (some (!x8)))) else (some false))))))
def y1f : Con := ⟨165, [.v (.s .net) false, .v (.sl .I) false, .v (.sl (.s .item)) false, .v .I false], [(.B, true)], [], fun x => zj5 x.1 x.2.1 x.2.2.1 x.2.2.2.1⟩
def w2n : Fs := ⟨[z3l, z06], [], []⟩
theorem w2y : w2n.Ok Tryz.prog := (fsK w11 (fsK yi8 fs0))
theorem w3j : y1f.Ok Tryz.prog := fn_ok (k := y1f) (fn := Tryz.f165) (W := []) (H := []) Tryz.func165 w2y trivial rfl rfl (fun av x => by kernel_rfl)
def zz0  : Option Bool := some true
def z43 (n : GNet) (busy : List GItem) (kx0_0 : Option Bool) : Nat → Int → Option Bool
  | 0, _ => none
  | n0 + 1, s0_0 => if decide (s0_0 < (busy.length : Int)) = true then ((getI busy s0_0).bind fun x3 => (gd (ok64 ((n.tasks.length : Int) - 1)) ((z07 x3.task 0 ((n.tasks.length : Int) - 1)).bind fun x5 => (if x5 = true then ((getI busy s0_0).bind fun x7 => ((z07 x7.who 1 4).bind fun x8 => (if x8 = true then ((getI busy s0_0).bind fun x10 => ((getI busy s0_0).bind fun x11 => ((getI n.tasks x11.task).bind fun x12 => (gd (ok64 (x12.need - 1)) ((z07 x10.did 0 (x12.need - 1)).bind fun x14 => (if x14 = true then (gd (ok64 (s0_0 + 1)) ((z43 n busy kx0_0 n0) (s0_0 + 1))) else (some false))))))) else (some false)))) else (some false))))) else (kx0_0)
def z8m (n : GNet) (busy : List GItem) : Option Bool := if decide (6 < (busy.length : Int)) = true then (some false) else (z43 n busy zz0 FUEL 0)
def z2v : Con := ⟨88, [.v (.s .net) false, .v (.sl (.s .item)) false], [(.B, true)], [], fun x => z8m x.1 x.2.1⟩
def yy8 : Fs := ⟨[z0w], [], []⟩
theorem y5n : yy8.Ok Tryz.prog := (fsK z1c fs0)
def y2g : Tmpl := ⟨[(1, .c (.s (.s .item))), (2, .c (.bx 2 0)), (5, .c .i)], [(2, .boxT (.s .net))]⟩
def y0f : Tmpl := ⟨[], []⟩
def yc3 (av : AV) (x : HP z2v.ps) (n : Nat) (v : y2g.den) (K : Ks (CR z2v)) : Option (CR z2v) := z43 v.2.1 v.1.1 (y0f.at none ((), ()) (K (.exit 0))) n v.1.2.2.1
def y19 (av : AV) (x : HP z2v.ps) : Hdl (CR z2v) := hnd [] y2g (yc3 av x)
theorem yh3 : LP z2v Tryz.f88 [0] y19 := lp_ok (W := []) (H := []) (xs := [y0f]) y5n trivial rfl (fun av x v K => by kernel_rfl) (fun av x n v K => by kernel_rfl)
theorem y62 : z2v.Ok Tryz.prog := fn_ok (k := z2v) (fn := Tryz.f88) (W := []) (H := [y19]) Tryz.func88 y5n ⟨yh3, trivial⟩ rfl rfl (fun av x => by kernel_rfl)
def z89 (n : GNet) (marks : List Int) (busy : List GItem) (t : Int) : Option Bool := (z60 n marks).bind fun x1 => (if x1 = true then ((z8m n busy).bind fun x3 => (if x3 = true then (gd (ok64 ((n.tasks.length : Int) - 1)) ((z07 t 0 ((n.tasks.length : Int) - 1)).bind fun x6 => (if x6 = true then ((zj5 n marks busy t).bind fun x8 => (some x8)) else (some false)))) else (some false))) else (some false))
def zd2 : Con := ⟨100, [.v (.s .net) false, .v (.sl .I) false, .v (.sl (.s .item)) false, .v .I false], [(.B, true)], [], fun x => z89 x.1 x.2.1 x.2.2.1 x.2.2.2.1⟩
def yy1 : Fs := ⟨[z29, z2v, z0w, y1f], [], []⟩
theorem w01 : yy1.Ok Tryz.prog := (fsK zj8 (fsK y62 (fsK z1c (fsK w3j fs0))))
theorem y60 : zd2.Ok Tryz.prog := fn_ok (k := zd2) (fn := Tryz.f100) (W := []) (H := []) Tryz.func100 w01 trivial rfl rfl (fun av x => by kernel_rfl)
def z8a (l0_1 : List Int) : Option (List Int) := some l0_1
def z21 (n : GNet) (marks : List Int) (busy : List GItem) (kx0_0 : List Int → Option (List Int)) : Nat → Int → List Int → Option (List Int)
  | 0, _, _ => none
  | n0 + 1, s0_0, l0_1 => if decide (s0_0 < (n.tasks.length : Int)) = true then ((z89 n marks busy s0_0).bind fun x2 => (if x2 = true then (gd (l0_1.length + [s0_0].length ≤ SMALL) (gd (ok64 (s0_0 + 1)) ((z21 n marks busy kx0_0 n0) (s0_0 + 1) (l0_1 ++ [s0_0])))) else (gd (ok64 (s0_0 + 1)) ((z21 n marks busy kx0_0 n0) (s0_0 + 1) l0_1)))) else (kx0_0 l0_1)
def z4u (n : GNet) (marks : List Int) (busy : List GItem) : Option (List Int) := z21 n marks busy z8a FUEL 0 ([] : List Int)
def z1n : Con := ⟨99, [.v (.s .net) false, .v (.sl .I) false, .v (.sl (.s .item)) false], [((.sl .I), true)], [], fun x => z4u x.1 x.2.1 x.2.2.1⟩
def yd9 : Fs := ⟨[zd2], [], []⟩
theorem y0x : yd9.Ok Tryz.prog := (fsK y60 fs0)
def zr0 : Tmpl := ⟨[(1, .c (.s .I)), (2, .c (.s (.s .item))), (3, .c (.bx 3 0)), (7, .c (.ref 9)), (8, .c .i)], [(3, .boxT (.s .net)), (9, .arr .I true)]⟩
def zk4 : Tmpl := ⟨[(7, .c (.ref 9))], [(9, .arr .I true)]⟩
def y6m (av : AV) (x : HP z1n.ps) (n : Nat) (v : zr0.den) (K : Ks (CR z1n)) : Option (CR z1n) := z21 v.2.1 v.1.1 v.1.2.1 (fun l0_1 => zk4.at none (((), ()), (l0_1, ())) (K (.exit 0))) n v.1.2.2.2.2.1 v.2.2.1
def zo4 (av : AV) (x : HP z1n.ps) : Hdl (CR z1n) := hnd [] zr0 (y6m av x)
theorem y7c : LP z1n Tryz.f99 [0] zo4 := lp_ok (W := []) (H := []) (xs := [zk4]) y0x trivial rfl (fun av x v K => by kernel_rfl) (fun av x n v K => by kernel_rfl)
theorem y20 : z1n.Ok Tryz.prog := fn_ok (k := z1n) (fn := Tryz.f99) (W := []) (H := [zo4]) Tryz.func99 y0x ⟨y7c, trivial⟩ rfl rfl (fun av x => by kernel_rfl)
def zp5 (l0_1 : List Int) (x10 : Int) (x13 : Int) : Option (List Int) := some (l0_1.set x10.toNat (x13 - 1))
def zp6 (l0_1 : List Int) : Option (List Int) := some l0_1
def z2g (n : GNet) (t : Int) (kx0_0 : List Int → Int → Int → Option (List Int)) (kx0_1 : List Int → Option (List Int)) : Nat → Int → List Int → Option (List Int)
  | 0, _, _ => none
  | n0 + 1, s0_0, l0_1 => (getI n.tasks t).bind fun x7 => (if decide (s0_0 < (x7.in_.length : Int)) = true then ((getI n.tasks t).bind fun x9 => ((getI x9.in_ s0_0).bind fun x10 => ((getI l0_1 x10).bind fun x11 => (if decide (0 < x11) = true then ((getI l0_1 x10).bind fun x13 => (gd (ok64 (x13 - 1)) ((getI l0_1 x10).bind fun x15 => ((getI n.tasks t).bind fun x16 => (if decide (x16.join = 2) = true then (kx0_0 l0_1 x10 x13) else (gd (ok64 (s0_0 + 1)) ((z2g n t kx0_0 kx0_1 n0) (s0_0 + 1) (l0_1.set x10.toNat (x13 - 1))))))))) else (gd (ok64 (s0_0 + 1)) ((z2g n t kx0_0 kx0_1 n0) (s0_0 + 1) l0_1)))))) else (kx0_1 l0_1))
def z9m (n : GNet) (marks : List Int) (t : Int) : Option (List Int) := (z60 n marks).bind fun x1 => (if x1 = true then (gd (ok64 ((n.tasks.length : Int) - 1)) ((z07 t 0 ((n.tasks.length : Int) - 1)).bind fun x4 => (if x4 = true then (gd (([] : List Int).length + marks.length ≤ SMALL) (z2g n t zp5 zp6 FUEL 0 (([] : List Int) ++ marks))) else (some ([] : List Int))))) else (some ([] : List Int)))
def z2p : Con := ⟨103, [.v (.s .net) false, .v (.sl .I) false, .v .I false], [((.sl .I), true)], [], fun x => z9m x.1 x.2.1 x.2.2.1⟩
def yn8 : Fs := ⟨[z29, z0w], [], []⟩
theorem y3k : yn8.Ok Tryz.prog := (fsK zj8 (fsK z1c fs0))
def zz8 : Tmpl := ⟨[(2, .c .i), (3, .c (.bx 3 0)), (7, .c (.ref 26)), (8, .c .i)], [(3, .boxT (.s .net)), (26, .arr .I true)]⟩
def z9j : Tmpl := ⟨[(7, .c (.ref 26))], [(26, .arr .I true)]⟩
def y8z (av : AV) (x : HP z2p.ps) (n : Nat) (v : zz8.den) (K : Ks (CR z2p)) : Option (CR z2p) := z2g v.2.1 v.1.1 (fun l0_1 x10 x13 => z9j.at none (((), ()), ((l0_1.set x10.toNat (x13 - 1)), ())) (K (.exit 0))) (fun l0_1 => z9j.at none (((), ()), (l0_1, ())) (K (.exit 0))) n v.1.2.2.2.1 v.2.2.1
def zx3 (av : AV) (x : HP z2p.ps) : Hdl (CR z2p) := hnd [] zz8 (y8z av x)
theorem y9n : LP z2p Tryz.f103 [0] zx3 := lp_ok (W := []) (H := []) (xs := [z9j]) y3k trivial rfl (fun av x v K => by kernel_rfl) (fun av x n v K => by kernel_rfl)
theorem yr9 : z2p.Ok Tryz.prog := fn_ok (k := z2p) (fn := Tryz.f103) (W := []) (H := [zx3]) Tryz.func103 y3k ⟨y9n, trivial⟩ rfl rfl (fun av x => by kernel_rfl)
def z5z (who : Int) : Option Bool := (z0t who 1 4).bind fun x1 => (some x1)
def z7w : Con := ⟨97, [.v .I false], [(.B, true)], [], fun x => z5z x.1⟩
def yd6 : Fs := ⟨[z2d], [], []⟩
theorem yf3 : yd6.Ok Tryz.prog := (fsK z3e fs0)
theorem y1x : z7w.Ok Tryz.prog := fn_ok (k := z7w) (fn := Tryz.f97) (W := []) (H := []) Tryz.func97 yf3 trivial rfl rfl (fun av x => by kernel_rfl)
def z8c (l0_1 : List Int) (x8 : GFlow) : Option (List Int) := some (l0_1 ++ [x8.to])
def z8d (l0_1 : List Int) (x13 : GFlow) : Option (List Int) := some (l0_1 ++ [x13.to])
def z8e (l0_1 : List Int) (x18 : GFlow) : Option (List Int) := some (l0_1 ++ [x18.to])
def zg7 (l0_1 : List Int) : Option (List Int) := some l0_1
def z1b (t : GTask) (data : List Int) (kx0_0 : List Int → GFlow → Option (List Int)) (kx0_1 : List Int → GFlow → Option (List Int)) (kx0_2 : List Int → GFlow → Option (List Int)) (kx0_3 : List Int → Option (List Int)) : Nat → Int → List Int → Option (List Int)
  | 0, _, _ => none
  | n0 + 1, s0_0, l0_1 => if decide (s0_0 < (t.out.length : Int)) = true then ((getI t.out s0_0).bind fun x2 => ((z8b x2.if_ data).bind fun x3 => (if x3 = true then (if decide (t.split = 3) = true then (gd (ok64 ((t.out.length : Int) - 1)) (if decide (s0_0 < ((t.out.length : Int) - 1)) = true then ((getI t.out s0_0).bind fun x8 => (gd (l0_1.length + [x8.to].length ≤ SMALL) (if decide (t.split = 2) = true then (kx0_0 l0_1 x8) else (gd (ok64 (s0_0 + 1)) ((z1b t data kx0_0 kx0_1 kx0_2 kx0_3 n0) (s0_0 + 1) (l0_1 ++ [x8.to])))))) else (if decide ((l0_1.length : Int) = 0) = true then ((getI t.out s0_0).bind fun x13 => (gd (l0_1.length + [x13.to].length ≤ SMALL) (if decide (t.split = 2) = true then (kx0_1 l0_1 x13) else (gd (ok64 (s0_0 + 1)) ((z1b t data kx0_0 kx0_1 kx0_2 kx0_3 n0) (s0_0 + 1) (l0_1 ++ [x13.to])))))) else (gd (ok64 (s0_0 + 1)) ((z1b t data kx0_0 kx0_1 kx0_2 kx0_3 n0) (s0_0 + 1) l0_1))))) else ((getI t.out s0_0).bind fun x18 => (gd (l0_1.length + [x18.to].length ≤ SMALL) (if decide (t.split = 2) = true then (kx0_2 l0_1 x18) else (gd (ok64 (s0_0 + 1)) ((z1b t data kx0_0 kx0_1 kx0_2 kx0_3 n0) (s0_0 + 1) (l0_1 ++ [x18.to]))))))) else (gd (ok64 (s0_0 + 1)) ((z1b t data kx0_0 kx0_1 kx0_2 kx0_3 n0) (s0_0 + 1) l0_1))))) else (kx0_3 l0_1)
def zj1 (t : GTask) (data : List Int) : Option (List Int) := z1b t data z8c z8d z8e zg7 FUEL 0 ([] : List Int)
def z49 : Con := ⟨205, [.v (.s .task) false, .v (.sl .I) false], [((.sl .I), true)], [], fun x => zj1 x.1 x.2.1⟩
def w2l : Fs := ⟨[zg3], [], []⟩
theorem y8a : w2l.Ok Tryz.prog := (fsK yi4 fs0)
def y4g : Tmpl := ⟨[(1, .c (.s .I)), (2, .c (.bx 2 0)), (5, .c (.ref 7)), (6, .c .i)], [(2, .boxT (.s .task)), (7, .arr .I true)]⟩
def z64 : Tmpl := ⟨[(5, .c (.ref 49))], [(49, .arr .I true)]⟩
def ym2 (av : AV) (x : HP z49.ps) (n : Nat) (v : y4g.den) (K : Ks (CR z49)) : Option (CR z49) := z1b v.2.1 v.1.1 (fun l0_1 x8 => z64.at none (((), ()), ((l0_1 ++ [x8.to]), ())) (K (.exit 0))) (fun l0_1 x13 => z64.at none (((), ()), ((l0_1 ++ [x13.to]), ())) (K (.exit 0))) (fun l0_1 x18 => z64.at none (((), ()), ((l0_1 ++ [x18.to]), ())) (K (.exit 0))) (fun l0_1 => z64.at none (((), ()), (l0_1, ())) (K (.exit 0))) n v.1.2.2.2.1 v.2.2.1
def y3z (av : AV) (x : HP z49.ps) : Hdl (CR z49) := hnd [] y4g (ym2 av x)
theorem yq7 : LP z49 Tryz.f205 [0] y3z := lp_ok (W := []) (H := []) (xs := [z64]) y8a trivial rfl (fun av x v K => by kernel_rfl) (fun av x n v K => by kernel_rfl)
theorem w3i : z49.Ok Tryz.prog := fn_ok (k := z49) (fn := Tryz.f205) (W := []) (H := [y3z]) Tryz.func205 y8a ⟨yq7, trivial⟩ rfl rfl (fun av x => by kernel_rfl)
def z6e (l1_1 : List Int) : Option ((List Int) × Bool) := some (l1_1, true)
def z3r (x16 : (List Int)) (kx1_0 : List Int → Option ((List Int) × Bool)) : Nat → Int → List Int → Option ((List Int) × Bool)
  | 0, _, _ => none
  | n1 + 1, s1_0, l1_1 => if decide (s1_0 < (x16.length : Int)) = true then ((getI x16 s1_0).bind fun x18 => ((getI l1_1 x18).bind fun x19 => (if decide (x19 = 4) = true then (some (([] : List Int), false)) else ((getI x16 s1_0).bind fun x21 => ((getI x16 s1_0).bind fun x22 => ((getI l1_1 x22).bind fun x23 => (gd (ok64 (x23 + 1)) ((getI l1_1 x21).bind fun x25 => (gd (ok64 (s1_0 + 1)) ((z3r x16 kx1_0 n1) (s1_0 + 1) (l1_1.set x21.toNat (x23 + 1)))))))))))) else (kx1_0 l1_1)
def z6d (n : GNet) (t : Int) (data : List Int) (l0_1 : List Int) : Option ((List Int) × Bool) := (getI n.tasks t).bind fun x15 => ((zj1 x15 data).bind fun x16 => (z3r x16 z6e FUEL 0 l0_1))
def z3q (n : GNet) (t : Int) (kx0_0 : List Int → Option ((List Int) × Bool)) : Nat → Int → List Int → Option ((List Int) × Bool)
  | 0, _, _ => none
  | n0 + 1, s0_0, l0_1 => (getI n.tasks t).bind fun x9 => (if decide (s0_0 < (x9.clear.length : Int)) = true then ((getI n.tasks t).bind fun x11 => ((getI x11.clear s0_0).bind fun x12 => ((getI l0_1 x12).bind fun x13 => (gd (ok64 (s0_0 + 1)) ((z3q n t kx0_0 n0) (s0_0 + 1) (l0_1.set x12.toNat 0)))))) else (kx0_0 l0_1))
def z9n (n : GNet) (marks : List Int) (t : Int) (data : List Int) : Option ((List Int) × Bool) := (z60 n marks).bind fun x1 => (if x1 = true then (gd (ok64 ((n.tasks.length : Int) - 1)) ((z07 t 0 ((n.tasks.length : Int) - 1)).bind fun x4 => (if x4 = true then ((z52 data).bind fun x6 => (if x6 = true then (gd (([] : List Int).length + marks.length ≤ SMALL) (z3q n t (z6d n t data) FUEL 0 (([] : List Int) ++ marks))) else (some (([] : List Int), false)))) else (some (([] : List Int), false))))) else (some (([] : List Int), false)))
def z0o : Con := ⟨172, [.v (.s .net) false, .v (.sl .I) false, .v .I false, .v (.sl .I) false], [((.sl .I), true), (.B, true)], [], fun x => z9n x.1 x.2.1 x.2.2.1 x.2.2.2.1⟩
def yn9 : Fs := ⟨[z29, z0w, z1r, z49], [], []⟩
theorem zl5 : yn9.Ok Tryz.prog := (fsK zj8 (fsK z1c (fsK za3 (fsK w3i fs0))))
def zz9 : Tmpl := ⟨[(2, .c .i), (3, .c (.s .I)), (4, .c (.bx 4 0)), (10, .c (.ref 35)), (11, .c .i)], [(4, .boxT (.s .net)), (35, .arr .I true)]⟩
def zs4 : Tmpl := ⟨[(2, .c .i), (3, .c (.s .I)), (4, .c (.bx 4 0)), (10, .c (.ref 35))], [(4, .boxT (.s .net)), (35, .arr .I true)]⟩
def y90 (av : AV) (x : HP z0o.ps) (n : Nat) (v : zz9.den) (K : Ks (CR z0o)) : Option (CR z0o) := z3q v.2.1 v.1.1 (fun l0_1 => zs4.at none ((v.1.1, v.1.2.1, (), (), ()), (v.2.1, l0_1, ())) (K (.exit 0))) n v.1.2.2.2.2.1 v.2.2.1
def zx4 (av : AV) (x : HP z0o.ps) : Hdl (CR z0o) := hnd [] zz9 (y90 av x)
theorem y9o : LP z0o Tryz.f172 [0] zx4 := lp_ok (W := []) (H := []) (xs := [zs4]) zl5 trivial rfl (fun av x v K => by kernel_rfl) (fun av x n v K => by kernel_rfl)
def y00 : Tmpl := ⟨[(10, .c (.ref 35)), (12, .c (.ref 64)), (13, .c .i)], [(35, .arr .I true), (64, .arr .I true)]⟩
def zs5 : Tmpl := ⟨[(10, .c (.ref 35))], [(35, .arr .I true)]⟩
def y91 (av : AV) (x : HP z0o.ps) (n : Nat) (v : y00.den) (K : Ks (CR z0o)) : Option (CR z0o) := z3r v.2.2.1 (fun l1_1 => zs5.at none (((), ()), (l1_1, ())) (K (.exit 2))) n v.1.2.2.1 v.2.1
def zx5 (av : AV) (x : HP z0o.ps) : Hdl (CR z0o) := hnd [] y00 (y91 av x)
theorem y9p : LP z0o Tryz.f172 [1] zx5 := lp_ok (W := []) (H := []) (xs := [zs5]) zl5 trivial rfl (fun av x v K => by kernel_rfl) (fun av x n v K => by kernel_rfl)
theorem ys0 : z0o.Ok Tryz.prog := fn_ok (k := z0o) (fn := Tryz.f172) (W := []) (H := [zx4, zx5]) Tryz.func172 zl5 ⟨y9o, y9p, trivial⟩ rfl rfl (fun av x => by kernel_rfl)
def y1r  : Option Bool := some true
def z4x (people : List Int) (kx0_0 : Option Bool) : Nat → Int → Option Bool
  | 0, _ => none
  | n0 + 1, s0_0 => if decide (s0_0 < (people.length : Int)) = true then ((getI people s0_0).bind fun x4 => ((z07 x4 0 7).bind fun x5 => (if x5 = true then (gd (ok64 (s0_0 + 1)) ((z4x people kx0_0 n0) (s0_0 + 1))) else (some false)))) else (kx0_0)
def z7i (people : List Int) : Option Bool := (z07 (people.length : Int) 1 4).bind fun x1 => (if x1 = true then (z4x people y1r FUEL 0) else (some false))
def z2y : Con := ⟨44, [.v (.sl .I) false], [(.B, true)], [], fun x => z7i x.1⟩
def w2k : Fs := ⟨[z0w], [], []⟩
theorem y89 : w2k.Ok Tryz.prog := (fsK z1c fs0)
def y4f : Tmpl := ⟨[(0, .c (.s .I)), (3, .c .i)], []⟩
def y2q : Tmpl := ⟨[], []⟩
def ym1 (av : AV) (x : HP z2y.ps) (n : Nat) (v : y4f.den) (K : Ks (CR z2y)) : Option (CR z2y) := z4x v.1.1 (y2q.at none ((), ()) (K (.exit 0))) n v.1.2.1
def y3y (av : AV) (x : HP z2y.ps) : Hdl (CR z2y) := hnd [] y4f (ym1 av x)
theorem yq6 : LP z2y Tryz.f44 [0] y3y := lp_ok (W := []) (H := []) (xs := [y2q]) y89 trivial rfl (fun av x v K => by kernel_rfl) (fun av x n v K => by kernel_rfl)
theorem y21 : z2y.Ok Tryz.prog := fn_ok (k := z2y) (fn := Tryz.f44) (W := []) (H := [y3y]) Tryz.func44 y89 ⟨yq6, trivial⟩ rfl rfl (fun av x => by kernel_rfl)
def z41 (s0_0 : Int) : Option Bool := gd ((2 : Int) ≠ 0) (some (decide ((Int.tmod s0_0 2) = 1)))
def z1p (role : Int) (kx0_0 : Int → Option Bool) : Nat → Int → Int → Option Bool
  | 0, _, _ => none
  | n0 + 1, s0_0, s0_1 => if decide (s0_1 < role) = true then (gd ((2 : Int) ≠ 0 ∧ ok64 (Int.tdiv s0_0 2)) (gd (ok64 (s0_1 + 1)) ((z1p role kx0_0 n0) (Int.tdiv s0_0 2) (s0_1 + 1)))) else (kx0_0 s0_0)
def ze5 (people : List Int) (who : Int) (role : Int) : Option Bool := (z7i people).bind fun x1 => (if x1 = true then ((z07 who 1 (people.length : Int)).bind fun x3 => (if x3 = true then ((z07 role 1 3).bind fun x5 => (if x5 = true then (gd (ok64 (who - 1)) ((getI people (who - 1)).bind fun x8 => (z1p role z41 FUEL x8 1))) else (some false))) else (some false))) else (some false))
def z3k : Con := ⟨166, [.v (.sl .I) false, .v .I false, .v .I false], [(.B, true)], [], fun x => ze5 x.1 x.2.1 x.2.2.1⟩
def yy3 : Fs := ⟨[z2y, z0w], [], []⟩
theorem y5m : yy3.Ok Tryz.prog := (fsK y21 (fsK z1c fs0))
def y2e : Tmpl := ⟨[(2, .c .i), (7, .c .i), (8, .c .i)], []⟩
def y0d : Tmpl := ⟨[(7, .c .i)], []⟩
def yc1 (av : AV) (x : HP z3k.ps) (n : Nat) (v : y2e.den) (K : Ks (CR z3k)) : Option (CR z3k) := z1p v.1.1 (fun s0_0 => y0d.at none ((s0_0, ()), ()) (K (.exit 0))) n v.1.2.1 v.1.2.2.1
def y17 (av : AV) (x : HP z3k.ps) : Hdl (CR z3k) := hnd [] y2e (yc1 av x)
theorem yh1 : LP z3k Tryz.f166 [0] y17 := lp_ok (W := []) (H := []) (xs := [y0d]) y5m trivial rfl (fun av x v K => by kernel_rfl) (fun av x n v K => by kernel_rfl)
theorem w0y : z3k.Ok Tryz.prog := fn_ok (k := z3k) (fn := Tryz.f166) (W := []) (H := [y17]) Tryz.func166 y5m ⟨yh1, trivial⟩ rfl rfl (fun av x => by kernel_rfl)
def zy8  : Option Bool := some false
def z3d (did : List GDid) (who : Int) (task : Int) (kx0_0 : Option Bool) : Nat → Int → Option Bool
  | 0, _ => none
  | n0 + 1, s0_0 => if decide (s0_0 < (did.length : Int)) = true then ((getI did s0_0).bind fun x2 => (if decide (x2.who = who) = true then ((getI did s0_0).bind fun x4 => (if decide (x4.task = task) = true then (some true) else (gd (ok64 (s0_0 + 1)) ((z3d did who task kx0_0 n0) (s0_0 + 1))))) else (gd (ok64 (s0_0 + 1)) ((z3d did who task kx0_0 n0) (s0_0 + 1))))) else (kx0_0)
def ze4 (did : List GDid) (who : Int) (task : Int) : Option Bool := z3d did who task zy8 FUEL 0
def z3j : Con := ⟨167, [.v (.sl (.s .did)) false, .v .I false, .v .I false], [(.B, true)], [], fun x => ze4 x.1 x.2.1 x.2.2.1⟩
def yy2 : Fs := ⟨[], [], []⟩
theorem y5l : yy2.Ok Tryz.prog := fs0
def y2d : Tmpl := ⟨[(0, .c (.s (.s .did))), (1, .c .i), (2, .c .i), (7, .c .i)], []⟩
def y0c : Tmpl := ⟨[], []⟩
def yc0 (av : AV) (x : HP z3j.ps) (n : Nat) (v : y2d.den) (K : Ks (CR z3j)) : Option (CR z3j) := z3d v.1.1 v.1.2.1 v.1.2.2.1 (y0c.at none ((), ()) (K (.exit 0))) n v.1.2.2.2.1
def y16 (av : AV) (x : HP z3j.ps) : Hdl (CR z3j) := hnd [] y2d (yc0 av x)
theorem yh0 : LP z3j Tryz.f167 [0] y16 := lp_ok (W := []) (H := []) (xs := [y0c]) y5l trivial rfl (fun av x v K => by kernel_rfl) (fun av x n v K => by kernel_rfl)
theorem w0x : z3j.Ok Tryz.prog := fn_ok (k := z3j) (fn := Tryz.f167) (W := []) (H := [y16]) Tryz.func167 y5l ⟨yh0, trivial⟩ rfl rfl (fun av x => by kernel_rfl)
def zy9 (n : GNet) (people : List Int) (did : List GDid) (t : Int) (s0_0 : Int) (l0_1 : List Int) (bk0 : Int → List Int → Option (List Int)) (s1_0 : Bool) : Option (List Int) := (getI n.tasks t).bind fun x18 => ((ze5 people s0_0 x18.role).bind fun x19 => (if x19 = true then (if s1_0 = true then (gd (ok64 (s0_0 + 1)) (bk0 (s0_0 + 1) l0_1)) else ((getI n.tasks t).bind fun x23 => ((ze4 did s0_0 x23.apart).bind fun x24 => (if x24 = true then (gd (ok64 (s0_0 + 1)) (bk0 (s0_0 + 1) l0_1)) else (gd (l0_1.length + [s0_0].length ≤ SMALL) (gd (ok64 (s0_0 + 1)) (bk0 (s0_0 + 1) (l0_1 ++ [s0_0])))))))) else (gd (ok64 (s0_0 + 1)) (bk0 (s0_0 + 1) l0_1))))
def z1q (n : GNet) (busy : List GItem) (t : Int) (s0_0 : Int) (kx1_0 : Bool → Option (List Int)) : Nat → Bool → Int → Option (List Int)
  | 0, _, _ => none
  | n1 + 1, s1_0, s1_1 => if decide (s1_1 < (busy.length : Int)) = true then (if s1_0 = true then (gd (ok64 (s1_1 + 1)) ((z1q n busy t s0_0 kx1_0 n1) true (s1_1 + 1))) else ((getI busy s1_1).bind fun x12 => (if decide (x12.who = s0_0) = true then ((getI busy s1_1).bind fun x14 => ((getI n.tasks t).bind fun x15 => (gd (ok64 (s1_1 + 1)) ((z1q n busy t s0_0 kx1_0 n1) (decide (x14.task = x15.apart)) (s1_1 + 1))))) else (gd (ok64 (s1_1 + 1)) ((z1q n busy t s0_0 kx1_0 n1) false (s1_1 + 1)))))) else (kx1_0 s1_0)
def zb0 (l0_1 : List Int) : Option (List Int) := some l0_1
def z42 (n : GNet) (people : List Int) (did : List GDid) (busy : List GItem) (t : Int) (kx0_0 : List Int → Option (List Int)) : Nat → Int → List Int → Option (List Int)
  | 0, _, _ => none
  | n0 + 1, s0_0, l0_1 => if decide (s0_0 ≤ (people.length : Int)) = true then (z1q n busy t s0_0 (zy9 n people did t s0_0 l0_1 (z42 n people did busy t kx0_0 n0)) FUEL false 0) else (kx0_0 l0_1)
def z59 (n : GNet) (people : List Int) (did : List GDid) (busy : List GItem) (t : Int) : Option (List Int) := (z31 n).bind fun x1 => (if x1 = true then ((z7i people).bind fun x3 => (if x3 = true then (gd (ok64 ((n.tasks.length : Int) - 1)) ((z07 t 0 ((n.tasks.length : Int) - 1)).bind fun x6 => (if x6 = true then (z42 n people did busy t zb0 FUEL 1 ([] : List Int)) else (some ([] : List Int))))) else (some ([] : List Int)))) else (some ([] : List Int)))
def z0m : Con := ⟨102, [.v (.s .net) false, .v (.sl .I) false, .v (.sl (.s .did)) false, .v (.sl (.s .item)) false, .v .I false], [((.sl .I), true)], [], fun x => z59 x.1 x.2.1 x.2.2.1 x.2.2.2.1 x.2.2.2.2.1⟩
def yy4 : Fs := ⟨[z2a, z2y, z0w, z3k, z3j], [], []⟩
theorem zu2 : yy4.Ok Tryz.prog := (fsK zj9 (fsK y21 (fsK z1c (fsK w0y (fsK w0x fs0)))))
def zr1 : Tmpl := ⟨[(1, .c (.s .I)), (2, .c (.s (.s .did))), (3, .c (.s (.s .item))), (4, .c .i), (5, .c (.bx 5 0)), (11, .c (.ref 15)), (12, .c .i), (13, .c .b), (14, .c .i)], [(5, .boxT (.s .net)), (15, .arr .I true)]⟩
def zk5 : Tmpl := ⟨[(1, .c (.s .I)), (2, .c (.s (.s .did))), (3, .c (.s (.s .item))), (4, .c .i), (5, .c (.bx 5 0)), (11, .c (.ref 15)), (12, .c .i), (13, .c .b)], [(5, .boxT (.s .net)), (15, .arr .I true)]⟩
def y6n (av : AV) (x : HP z0m.ps) (n : Nat) (v : zr1.den) (K : Ks (CR z0m)) : Option (CR z0m) := z1q v.2.1 v.1.2.2.1 v.1.2.2.2.1 v.1.2.2.2.2.2.2.1 (fun s1_0 => zk5.at none ((v.1.1, v.1.2.1, v.1.2.2.1, v.1.2.2.2.1, (), (), v.1.2.2.2.2.2.2.1, s1_0, ()), (v.2.1, v.2.2.1, ())) (K (.exit 2))) n v.1.2.2.2.2.2.2.2.1 v.1.2.2.2.2.2.2.2.2.1
def zo5 (av : AV) (x : HP z0m.ps) : Hdl (CR z0m) := hnd [] zr1 (y6n av x)
theorem y7d : LP z0m Tryz.f102 [0, 0] zo5 := lp_ok (W := []) (H := []) (xs := [zk5]) zu2 trivial rfl (fun av x v K => by kernel_rfl) (fun av x n v K => by kernel_rfl)
def y2f : Tmpl := ⟨[(1, .c (.s .I)), (2, .c (.s (.s .did))), (3, .c (.s (.s .item))), (4, .c .i), (5, .c (.bx 5 0)), (11, .c (.ref 15)), (12, .c .i)], [(5, .boxT (.s .net)), (15, .arr .I true)]⟩
def y0e : Tmpl := ⟨[(11, .c (.ref 15))], [(15, .arr .I true)]⟩
def yc2 (av : AV) (x : HP z0m.ps) (n : Nat) (v : y2f.den) (K : Ks (CR z0m)) : Option (CR z0m) := z42 v.2.1 v.1.1 v.1.2.1 v.1.2.2.1 v.1.2.2.2.1 (fun l0_1 => y0e.at none (((), ()), (l0_1, ())) (K (.exit 0))) n v.1.2.2.2.2.2.2.1 v.2.2.1
def y18 (av : AV) (x : HP z0m.ps) : Hdl (CR z0m) := hnd [] y2f (yc2 av x)
theorem yh2 : LP z0m Tryz.f102 [0] y18 := lp_ok (W := []) (H := [zo5]) (xs := [y0e]) zu2 ⟨y7d, trivial⟩ rfl (fun av x v K => by kernel_rfl) (fun av x n v K => by kernel_rfl)
theorem zw1 : z0m.Ok Tryz.prog := fn_ok (k := z0m) (fn := Tryz.f102) (W := []) (H := [y18]) Tryz.func102 zu2 ⟨yh2, trivial⟩ rfl rfl (fun av x => by kernel_rfl)
def ze1 (n : GNet) (data : List Int) : Option GCase := (z31 n).bind fun x1 => (if x1 = true then ((z52 data).bind fun x3 => (if x3 = true then (gd ((0 : Int) ≤ n.places ∧ n.places ≤ (1000000000 : Int)) (gd (([] : List Int).length + data.length ≤ SMALL) ((getI (List.replicate n.places.toNat (0 : Int)) 0).bind fun x7 => (some (GCase.mk 1 ((List.replicate n.places.toNat (0 : Int)).set (0 : Int).toNat 1) [] (([] : List Int) ++ data) []))))) else (some (GCase.mk 0 [] [] [] [])))) else (some (GCase.mk 0 [] [] [] [])))
def zu9 : Con := ⟨155, [.v (.s .net) false, .v (.sl .I) false], [((.s .kase), true)], [], fun x => ze1 x.1 x.2.1⟩
def yx8 : Fs := ⟨[z2a, z1r], [], []⟩
theorem yz9 : yx8.Ok Tryz.prog := (fsK zj9 (fsK za3 fs0))
theorem w0u : zu9.Ok Tryz.prog := fn_ok (k := zu9) (fn := Tryz.f155) (W := []) (H := []) Tryz.func155 yz9 trivial rfl rfl (fun av x => by kernel_rfl)
def z88 (c : GCase) : Option Bool := if decide (c.state = 1) = true then ((getI c.marks 1).bind fun x20 => (some (decide (x20 = 0)))) else (if decide ((c.busy.length : Int) = 0) = true then ((getI c.marks 1).bind fun x22 => (some ((decide (c.state = 2)) == (decide (0 < x22))))) else (some false))
def z4r (n : GNet) (c : GCase) (kx0_0 : Option Bool) : Nat → Int → Option Bool
  | 0, _ => none
  | n0 + 1, s0_0 => if decide (s0_0 < (c.did.length : Int)) = true then ((getI c.did s0_0).bind fun x11 => (gd (ok64 ((n.tasks.length : Int) - 1)) ((z07 x11.task 0 ((n.tasks.length : Int) - 1)).bind fun x13 => (if x13 = true then ((getI c.did s0_0).bind fun x15 => ((z07 x15.who 1 4).bind fun x16 => (if x16 = true then (gd (ok64 (s0_0 + 1)) ((z4r n c kx0_0 n0) (s0_0 + 1))) else (some false)))) else (some false))))) else (kx0_0)
def z7g (n : GNet) (c : GCase) : Option Bool := (z60 n c.marks).bind fun x1 => (if x1 = true then ((z8m n c.busy).bind fun x3 => (if x3 = true then ((z52 c.data).bind fun x5 => (if x5 = true then (if decide (60 < (c.did.length : Int)) = true then (some false) else ((z07 c.state 1 3).bind fun x8 => (if x8 = true then (z4r n c (z88 c) FUEL 0) else (some false)))) else (some false))) else (some false))) else (some false))
def z2x : Con := ⟨25, [.v (.s .net) false, .v (.s .kase) false], [(.B, true)], [], fun x => z7g x.1 x.2.1⟩
def w2f : Fs := ⟨[z29, z2v, z1r, z0w], [], []⟩
theorem y85 : w2f.Ok Tryz.prog := (fsK zj8 (fsK y62 (fsK za3 (fsK z1c fs0))))
def y4b : Tmpl := ⟨[(2, .c (.bx 2 0)), (3, .c (.bx 3 0)), (5, .c .i)], [(2, .boxT (.s .net)), (3, .boxT (.s .kase))]⟩
def y2m : Tmpl := ⟨[(3, .c (.bx 3 0))], [(3, .boxT (.s .kase))]⟩
def yl7 (av : AV) (x : HP z2x.ps) (n : Nat) (v : y4b.den) (K : Ks (CR z2x)) : Option (CR z2x) := z4r v.2.1 v.2.2.1 (y2m.at none (((), ()), (v.2.2.1, ())) (K (.exit 0))) n v.1.2.2.1
def y3u (av : AV) (x : HP z2x.ps) : Hdl (CR z2x) := hnd [] y4b (yl7 av x)
theorem yq2 : LP z2x Tryz.f25 [0] y3u := lp_ok (W := []) (H := []) (xs := [y2m]) y85 trivial rfl (fun av x v K => by kernel_rfl) (fun av x n v K => by kernel_rfl)
theorem y1y : z2x.Ok Tryz.prog := fn_ok (k := z2x) (fn := Tryz.f25) (W := []) (H := [y3u]) Tryz.func25 y85 ⟨yq2, trivial⟩ rfl rfl (fun av x => by kernel_rfl)
def z23 (c : GCase) : Option GCase := gd (([] : List Int).length + c.marks.length ≤ SMALL) (gd (([] : List GItem).length + c.busy.length ≤ SMALL) (gd (([] : List Int).length + c.data.length ≤ SMALL) (gd (([] : List GDid).length + c.did.length ≤ SMALL) (some (GCase.mk c.state (([] : List Int) ++ c.marks) (([] : List GItem) ++ c.busy) (([] : List Int) ++ c.data) (([] : List GDid) ++ c.did))))))
def z66 : Con := ⟨86, [.v (.s .kase) false], [((.s .kase), true)], [], fun x => z23 x.1⟩
def yz0 : Fs := ⟨[], [], []⟩
theorem w05 : yz0.Ok Tryz.prog := fs0
theorem ze9 : z66.Ok Tryz.prog := fn_ok (k := z66) (fn := Tryz.f86) (W := []) (H := []) Tryz.func86 w05 trivial rfl rfl (fun av x => by kernel_rfl)
def z4s (n : GNet) (people : List Int) (c : GCase) (t : Int) (who : Int) : Option (GCase × Bool) := (z23 c).bind fun x1 => ((z7g n c).bind fun x2 => (if x2 = true then (if decide (c.state = 1) = true then ((z89 n c.marks c.busy t).bind fun x5 => (if x5 = true then ((z59 n people c.did c.busy t).bind fun x7 => ((z7j x7 who).bind fun x8 => (if x8 = true then (if decide ((c.busy.length : Int) = 6) = true then (some (x1, false)) else ((z9m n c.marks t).bind fun x11 => (gd (x1.busy.length + [(GItem.mk t who 0)].length ≤ SMALL) (some ((GCase.mk x1.state x11 (x1.busy ++ [(GItem.mk t who 0)]) x1.data x1.did), true))))) else (some (x1, false))))) else (some (x1, false)))) else (some (x1, false))) else (some (x1, false))))
def z7x : Con := ⟨32, [.v (.s .net) false, .v (.sl .I) false, .v (.s .kase) false, .v .I false, .v .I false], [((.s .kase), true), (.B, true)], [], fun x => z4s x.1 x.2.1 x.2.2.1 x.2.2.2.1 x.2.2.2.2.1⟩
def yd8 : Fs := ⟨[z66, z2x, zd2, z0m, z2z, z2p], [], []⟩
theorem yf5 : yd8.Ok Tryz.prog := (fsK ze9 (fsK y1y (fsK y60 (fsK zw1 (fsK y22 (fsK yr9 fs0))))))
theorem y1z : z7x.Ok Tryz.prog := fn_ok (k := z7x) (fn := Tryz.f32) (W := []) (H := []) Tryz.func32 yf5 trivial rfl rfl (fun av x => by kernel_rfl)
def z6u (n : GNet) (c : GCase) (k : Int) (v : Int) (num : Int) : Option (GCase × Bool) := (z23 c).bind fun x1 => ((z7g n c).bind fun x2 => (if x2 = true then (if decide (c.state = 1) = true then (gd (ok64 ((c.busy.length : Int) - 1)) ((z07 k 0 ((c.busy.length : Int) - 1)).bind fun x6 => (if x6 = true then ((z07 v (-1) 2).bind fun x8 => (if x8 = true then ((z07 num (-99) 99).bind fun x10 => (if x10 = true then (if decide ((c.did.length : Int) = 60) = true then (some (x1, false)) else ((getI c.busy k).bind fun x13 => ((ze2 c.data v num).bind fun x14 => (gd (ok64 (x13.did + 1)) ((getI x1.busy k).bind fun x16 => (gd (ok64 (x13.did + 1)) ((getI n.tasks x13.task).bind fun x18 => (if decide ((x13.did + 1) < x18.need) = true then (some ((GCase.mk x1.state x1.marks (x1.busy.set k.toNat (GItem.mk x16.task x16.who (x13.did + 1))) x14 x1.did), true)) else ((z9n n c.marks x13.task x14).bind fun x20 => (if x20.2 = true then (gd ((0 : Int) ≤ k ∧ k ≤ (c.busy.length : Int)) (gd (([] : List GItem).length + (c.busy.take k.toNat).length ≤ SMALL) (gd (ok64 (k + 1)) (gd ((0 : Int) ≤ (k + 1) ∧ (k + 1) ≤ (c.busy.length : Int)) (gd ((([] : List GItem) ++ (c.busy.take k.toNat)).length + (c.busy.drop (k + 1).toNat).length ≤ SMALL) (gd (x1.did.length + [(GDid.mk x13.task x13.who)].length ≤ SMALL) ((getI x20.1 1).bind fun x28 => (if decide (0 < x28) = true then (some ((GCase.mk 2 x20.1 ([] : List GItem) x14 (x1.did ++ [(GDid.mk x13.task x13.who)])), true)) else (some ((GCase.mk x1.state x20.1 ((([] : List GItem) ++ (c.busy.take k.toNat)) ++ (c.busy.drop (k + 1).toNat)) x14 (x1.did ++ [(GDid.mk x13.task x13.who)])), true)))))))))) else ((z23 c).bind fun x30 => (some (x30, false))))))))))))) else (some (x1, false)))) else (some (x1, false)))) else (some (x1, false))))) else (some (x1, false))) else (some (x1, false))))
def z9k : Con := ⟨112, [.v (.s .net) false, .v (.s .kase) false, .v .I false, .v .I false, .v .I false], [((.s .kase), true), (.B, true)], [], fun x => z6u x.1 x.2.1 x.2.2.1 x.2.2.2.1 x.2.2.2.2.1⟩
def yn6 : Fs := ⟨[z66, z2x, z0w, zv0, z0o], [], []⟩
theorem yp5 : yn6.Ok Tryz.prog := (fsK ze9 (fsK y1y (fsK z1c (fsK w0v (fsK ys0 fs0)))))
theorem y45 : z9k.Ok Tryz.prog := fn_ok (k := z9k) (fn := Tryz.f112) (W := []) (H := []) Tryz.func112 yp5 trivial rfl rfl (fun av x => by kernel_rfl)
def z03 (c : GCase) : Option GCase := (z3c c.marks).bind fun x1 => (gd (([] : List GItem).length + c.busy.length ≤ SMALL) ((z3c c.data).bind fun x3 => (gd (([] : List GDid).length + c.did.length ≤ SMALL) (some (GCase.mk c.state x1 (([] : List GItem) ++ c.busy) x3 (([] : List GDid) ++ c.did))))))
def z24 : Con := ⟨84, [.v (.s .kase) false], [((.s .kase), true)], [], fun x => z03 x.1⟩
def y36 : Fs := ⟨[z5e], [], []⟩
theorem y3b : y36.Ok Tryz.prog := (fsK zb1 fs0)
theorem z4k : z24.Ok Tryz.prog := fn_ok (k := z24) (fn := Tryz.f84) (W := []) (H := []) Tryz.func84 y3b trivial rfl rfl (fun av x => by kernel_rfl)
def z9g (c : GCase) : Option (GCase × Bool) := (z23 c).bind fun x17 => (some (x17, false))
def z3p (n : GNet) (people : List Int) (c : GCase) (x8 : (List Int)) (kx0_0 : Option (GCase × Bool)) : Nat → Int → Option (GCase × Bool)
  | 0, _ => none
  | n0 + 1, s0_0 => if decide (s0_0 < (x8.length : Int)) = true then ((getI x8 s0_0).bind fun x10 => ((z59 n people c.did c.busy x10).bind fun x11 => (if decide (0 < (x11.length : Int)) = true then ((getI x8 s0_0).bind fun x13 => ((getI x11 0).bind fun x14 => ((z4s n people c x13 x14).bind fun x15 => (some (x15.1, x15.2))))) else (gd (ok64 (s0_0 + 1)) ((z3p n people c x8 kx0_0 n0) (s0_0 + 1)))))) else (kx0_0)
def z6v (n : GNet) (people : List Int) (c : GCase) : Option (GCase × Bool) := (z7g n c).bind fun x1 => (if x1 = true then ((z7i people).bind fun x3 => (if x3 = true then (if decide (c.state = 1) = true then (if decide (0 < (c.busy.length : Int)) = true then ((z6u n c 0 (-1) 0).bind fun x7 => (some (x7.1, x7.2))) else ((z4u n c.marks c.busy).bind fun x8 => (z3p n people c x8 (z9g c) FUEL 0))) else ((z23 c).bind fun x18 => (some (x18, false)))) else ((z23 c).bind fun x19 => (some (x19, false))))) else ((z23 c).bind fun x20 => (some (x20, false))))
def z2o : Con := ⟨43, [.v (.s .net) false, .v (.sl .I) false, .v (.s .kase) false], [((.s .kase), true), (.B, true)], [], fun x => z6v x.1 x.2.1 x.2.2.1⟩
def yn7 : Fs := ⟨[z2x, z2y, z9k, z1n, z0m, z7x, z66], [], []⟩
theorem y3j : yn7.Ok Tryz.prog := (fsK y1y (fsK y21 (fsK y45 (fsK y20 (fsK zw1 (fsK y1z (fsK ze9 fs0)))))))
def zz7 : Tmpl := ⟨[(1, .c (.s .I)), (3, .c (.bx 3 0)), (5, .c (.bx 5 0)), (6, .c (.bx 6 0)), (8, .c (.ref 41)), (9, .c .i)], [(3, .boxT (.s .net)), (5, .boxT (.s .kase)), (6, .box [.i, .nl, .nl, .nl, .nl]), (41, .arr .I true)]⟩
def zs3 : Tmpl := ⟨[(5, .c (.bx 5 0)), (6, .c (.bx 6 0))], [(5, .boxT (.s .kase)), (6, .box [.i, .nl, .nl, .nl, .nl])]⟩
def y8y (av : AV) (x : HP z2o.ps) (n : Nat) (v : zz7.den) (K : Ks (CR z2o)) : Option (CR z2o) := z3p v.2.1 v.1.1 v.2.2.1 v.2.2.2.2.1 (zs3.at none (((), (), ()), (v.2.2.1, (v.2.2.2.1.1, (), (), (), (), ()), ())) (K (.exit 0))) n v.1.2.2.2.2.2.1
def zx2 (av : AV) (x : HP z2o.ps) : Hdl (CR z2o) := hnd [] zz7 (y8y av x)
theorem y9m : LP z2o Tryz.f43 [0] zx2 := lp_ok (W := []) (H := []) (xs := [zs3]) y3j trivial rfl (fun av x v K => by kernel_rfl) (fun av x n v K => by kernel_rfl)
theorem yr8 : z2o.Ok Tryz.prog := fn_ok (k := z2o) (fn := Tryz.f43) (W := []) (H := [zx2]) Tryz.func43 y3j ⟨y9m, trivial⟩ rfl rfl (fun av x => by kernel_rfl)
def zy7 (s0_0 : Int) (l0_2 : List Int) (l0_3 : List GItem) (l0_4 : List Int) (l0_5 : List GDid) : Option GCase := some (GCase.mk s0_0 l0_2 l0_3 l0_4 l0_5)
def z40 (n : GNet) (people : List Int) (steps : Int) (kx0_0 : Int → List Int → List GItem → List Int → List GDid → Option GCase) : Nat → Int → Int → List Int → List GItem → List Int → List GDid → Option GCase
  | 0, _, _, _, _, _, _ => none
  | n0 + 1, s0_0, s0_1, l0_2, l0_3, l0_4, l0_5 => if decide (s0_1 < steps) = true then ((z6v n people (GCase.mk s0_0 l0_2 l0_3 l0_4 l0_5)).bind fun x4 => (if x4.2 = true then (gd (ok64 (s0_1 + 1)) ((z40 n people steps kx0_0 n0) x4.1.state (s0_1 + 1) x4.1.marks x4.1.busy x4.1.data x4.1.did)) else (some (GCase.mk s0_0 l0_2 l0_3 l0_4 l0_5)))) else (kx0_0 s0_0 l0_2 l0_3 l0_4 l0_5)
def ze3 (n : GNet) (people : List Int) (c : GCase) (steps : Int) : Option GCase := (z23 c).bind fun x1 => (if decide (200 < steps) = true then (some (GCase.mk 0 [] [] [] [])) else (z40 n people steps zy7 FUEL x1.state 0 x1.marks x1.busy x1.data x1.did))
def z3i : Con := ⟨48, [.v (.s .net) false, .v (.sl .I) false, .v (.s .kase) false, .v .I false], [((.s .kase), true)], [], fun x => ze3 x.1 x.2.1 x.2.2.1 x.2.2.2.1⟩
def yy0 : Fs := ⟨[z66, z2o], [], []⟩
theorem y5k : yy0.Ok Tryz.prog := (fsK ze9 (fsK yr8 fs0))
def y2c : Tmpl := ⟨[(1, .c (.s .I)), (3, .c .i), (4, .c (.bx 4 0)), (8, .c (.bx 8 0)), (9, .c (.bx 9 0)), (10, .c .i)], [(4, .boxT (.s .net)), (8, .box [.i, .nl, .nl, .nl, .nl]), (9, .box [.i, .ref 10014, .ref 20014, .ref 30014, .ref 40014]), (10014, .arr .I true), (20014, .arr (.s .item) true), (30014, .arr .I true), (40014, .arr (.s .did) true)]⟩
def y0b : Tmpl := ⟨[(8, .c (.bx 8 0)), (9, .c (.bx 9 0))], [(8, .box [.i, .nl, .nl, .nl, .nl]), (9, .box [.i, .ref 10014, .ref 20014, .ref 30014, .ref 40014]), (10014, .arr .I true), (20014, .arr (.s .item) true), (30014, .arr .I true), (40014, .arr (.s .did) true)]⟩
def yb9 (av : AV) (x : HP z3i.ps) (n : Nat) (v : y2c.den) (K : Ks (CR z3i)) : Option (CR z3i) := z40 v.2.1 v.1.1 v.1.2.1 (fun s0_0 l0_2 l0_3 l0_4 l0_5 => y0b.at none (((), (), ()), ((v.2.2.1.1, (), (), (), (), ()), (s0_0, (), (), (), (), ()), l0_2, l0_3, l0_4, l0_5, ())) (K (.exit 0))) n v.2.2.2.1.1 v.1.2.2.2.2.2.1 v.2.2.2.2.1 v.2.2.2.2.2.1 v.2.2.2.2.2.2.1 v.2.2.2.2.2.2.2.1
def y15 (av : AV) (x : HP z3i.ps) : Hdl (CR z3i) := hnd [] y2c (yb9 av x)
theorem yg9 : LP z3i Tryz.f48 [0] y15 := lp_ok (W := []) (H := []) (xs := [y0b]) y5k trivial rfl (fun av x v K => by kernel_rfl) (fun av x n v K => by kernel_rfl)
theorem w0w : z3i.Ok Tryz.prog := fn_ok (k := z3i) (fn := Tryz.f48) (W := []) (H := [y15]) Tryz.func48 y5k ⟨yg9, trivial⟩ rfl rfl (fun av x => by kernel_rfl)
def zy2  : Option Int := some (-1)
def z3v (s : List Int) (p : Int → Option Bool) (p0_0 : Int) (kx0_0 : Option Int) : Nat → Int → Option Int
  | 0, _ => none
  | n0 + 1, s0_0 => if decide (s0_0 < p0_0) = true then ((getI s s0_0).bind fun x2 => ((p x2).bind fun x3 => (if x3 = true then (some s0_0) else (gd (ok64 (s0_0 + 1)) ((z3v s p p0_0 kx0_0 n0) (s0_0 + 1)))))) else (kx0_0)
def zd4 (s : List Int) (p : Int → Option Bool) : Option Int := z3v s p (s.length : Int) zy2 FUEL 0
def z2m : Con := ⟨175, [.v (.sl .I) false, .fn .I], [(.I, true)], [], fun x => zd4 x.1 x.2.1⟩
def yw6 : Fs := ⟨[], [], []⟩
theorem y5g : yw6.Ok Tryz.prog := fs0
def y27 : Tmpl := ⟨[(0, .c (.s .I)), (1, .c .fp), (7, .c .i), (8, .c .i)], []⟩
def y07 : Tmpl := ⟨[], []⟩
def yb4 (av : AV) (x : HP z2m.ps) (n : Nat) (v : y27.den) (K : Ks (CR z2m)) : Option (CR z2m) := z3v v.1.1 x.2.1 v.1.2.2.1 (y07.at (fpOf z2m.ps x av) ((), ()) (K (.exit 0))) n v.1.2.2.2.1
def y10 (av : AV) (x : HP z2m.ps) : Hdl (CR z2m) := hnd [] y27 (yb4 av x)
theorem yg4 : LP z2m Tryz.f175 [0] y10 := lp_ok (W := []) (H := []) (xs := [y07]) y5g trivial rfl (fun av x v K => by kernel_rfl) (fun av x n v K => by kernel_rfl)
theorem w0k : z2m.Ok Tryz.prog := fn_ok (k := z2m) (fn := Tryz.f175) (W := []) (H := [y10]) Tryz.func175 y5g ⟨yg4, trivial⟩ rfl rfl (fun av x => by kernel_rfl)
def z1o (s : List Int) (p : Int → Option Bool) : Option Bool := (zd4 s p).bind fun x1 => (some (decide (0 ≤ x1)))
def z3b : Con := ⟨118, [.v (.sl .I) false, .fn .I], [(.B, true)], [], fun x => z1o x.1 x.2.1⟩
def y99 : Fs := ⟨[z2m], [], []⟩
theorem y9d : y99.Ok Tryz.prog := (fsK w0k fs0)
theorem z5h : z3b.Ok Tryz.prog := fn_ok (k := z3b) (fn := Tryz.f118) (W := []) (H := []) Tryz.func118 y9d trivial rfl rfl (fun av x => by kernel_rfl)
def zb8  : Option Int := some (-1)
def z26 (s : List GTask) (p : GTask → Option Bool) (p0_0 : Int) (kx0_0 : Option Int) : Nat → Int → Option Int
  | 0, _ => none
  | n0 + 1, s0_0 => if decide (s0_0 < p0_0) = true then ((getI s s0_0).bind fun x2 => ((p x2).bind fun x3 => (if x3 = true then (some s0_0) else (gd (ok64 (s0_0 + 1)) ((z26 s p p0_0 kx0_0 n0) (s0_0 + 1)))))) else (kx0_0)
def z68 (s : List GTask) (p : GTask → Option Bool) : Option Int := z26 s p (s.length : Int) zb8 FUEL 0
def z0z : Con := ⟨176, [.v (.sl (.s .task)) false, .fn (.s .task)], [(.I, true)], [], fun x => z68 x.1 x.2.1⟩
def y6w : Fs := ⟨[], [], []⟩
theorem zo0 : y6w.Ok Tryz.prog := fs0
def zh2 : Tmpl := ⟨[(0, .c (.s (.s .task))), (1, .c .fp), (7, .c .i), (8, .c .i)], []⟩
def zc2 : Tmpl := ⟨[], []⟩
def y4j (av : AV) (x : HP z0z.ps) (n : Nat) (v : zh2.den) (K : Ks (CR z0z)) : Option (CR z0z) := z26 v.1.1 x.2.1 v.1.2.2.1 (zc2.at (fpOf z0z.ps x av) ((), ()) (K (.exit 0))) n v.1.2.2.2.1
def zf6 (av : AV) (x : HP z0z.ps) : Hdl (CR z0z) := hnd [] zh2 (y4j av x)
theorem y4t : LP z0z Tryz.f176 [0] zf6 := lp_ok (W := []) (H := []) (xs := [zc2]) zo0 trivial rfl (fun av x v K => by kernel_rfl) (fun av x n v K => by kernel_rfl)
theorem y7m : z0z.Ok Tryz.prog := fn_ok (k := z0z) (fn := Tryz.f176) (W := []) (H := [zf6]) Tryz.func176 zo0 ⟨y4t, trivial⟩ rfl rfl (fun av x => by kernel_rfl)
def z4i (s : List GTask) (p : GTask → Option Bool) : Option Bool := (z68 s p).bind fun x1 => (some (decide (0 ≤ x1)))
def z6m : Con := ⟨123, [.v (.sl (.s .task)) false, .fn (.s .task)], [(.B, true)], [], fun x => z4i x.1 x.2.1⟩
def y35 : Fs := ⟨[z0z], [], []⟩
theorem y3a : y35.Ok Tryz.prog := (fsK y7m fs0)
theorem y3e : z6m.Ok Tryz.prog := fn_ok (k := z6m) (fn := Tryz.f123) (W := []) (H := []) Tryz.func123 y3a trivial rfl rfl (fun av x => by kernel_rfl)
def zb7  : Option Int := some (-1)
def z25 (s : List GItem) (p : GItem → Option Bool) (p0_0 : Int) (kx0_0 : Option Int) : Nat → Int → Option Int
  | 0, _ => none
  | n0 + 1, s0_0 => if decide (s0_0 < p0_0) = true then ((getI s s0_0).bind fun x2 => ((p x2).bind fun x3 => (if x3 = true then (some s0_0) else (gd (ok64 (s0_0 + 1)) ((z25 s p p0_0 kx0_0 n0) (s0_0 + 1)))))) else (kx0_0)
def z67 (s : List GItem) (p : GItem → Option Bool) : Option Int := z25 s p (s.length : Int) zb7 FUEL 0
def z0y : Con := ⟨169, [.v (.sl (.s .item)) false, .fn (.s .item)], [(.I, true)], [], fun x => z67 x.1 x.2.1⟩
def y6v : Fs := ⟨[], [], []⟩
theorem zn9 : y6v.Ok Tryz.prog := fs0
def zh1 : Tmpl := ⟨[(0, .c (.s (.s .item))), (1, .c .fp), (7, .c .i), (8, .c .i)], []⟩
def zc1 : Tmpl := ⟨[], []⟩
def y4i (av : AV) (x : HP z0y.ps) (n : Nat) (v : zh1.den) (K : Ks (CR z0y)) : Option (CR z0y) := z25 v.1.1 x.2.1 v.1.2.2.1 (zc1.at (fpOf z0y.ps x av) ((), ()) (K (.exit 0))) n v.1.2.2.2.1
def zf5 (av : AV) (x : HP z0y.ps) : Hdl (CR z0y) := hnd [] zh1 (y4i av x)
theorem y4s : LP z0y Tryz.f169 [0] zf5 := lp_ok (W := []) (H := []) (xs := [zc1]) zn9 trivial rfl (fun av x v K => by kernel_rfl) (fun av x n v K => by kernel_rfl)
theorem y7l : z0y.Ok Tryz.prog := fn_ok (k := z0y) (fn := Tryz.f169) (W := []) (H := [zf5]) Tryz.func169 zn9 ⟨y4s, trivial⟩ rfl rfl (fun av x => by kernel_rfl)
def z4h (s : List GItem) (p : GItem → Option Bool) : Option Bool := (z67 s p).bind fun x1 => (some (decide (0 ≤ x1)))
def z6l : Con := ⟨107, [.v (.sl (.s .item)) false, .fn (.s .item)], [(.B, true)], [], fun x => z4h x.1 x.2.1⟩
def y34 : Fs := ⟨[z0y], [], []⟩
theorem y39 : y34.Ok Tryz.prog := (fsK y7l fs0)
theorem y3d : z6l.Ok Tryz.prog := fn_ok (k := z6l) (fn := Tryz.f107) (W := []) (H := []) Tryz.func107 y39 trivial rfl rfl (fun av x => by kernel_rfl)
def y8h  : Option Int := some (-1)
def z7d (s : List Int) (v : Int) (p0_0 : Int) (kx0_0 : Option Int) : Nat → Int → Option Int
  | 0, _ => none
  | n0 + 1, s0_0 => if decide (s0_0 < p0_0) = true then ((getI s s0_0).bind fun x2 => (if decide (v = x2) = true then (some s0_0) else (gd (ok64 (s0_0 + 1)) ((z7d s v p0_0 kx0_0 n0) (s0_0 + 1))))) else (kx0_0)
def y5u (s : List Int) (v : Int) : Option Int := z7d s v (s.length : Int) y8h FUEL 0
def z7v : Con := ⟨163, [.v (.sl .I) false, .v .I false], [(.I, true)], [], fun x => y5u x.1 x.2.1⟩
def w8m : Fs := ⟨[], [], []⟩
theorem w2r : w8m.Ok Tryz.prog := fs0
def yl0 : Tmpl := ⟨[(0, .c (.s .I)), (1, .c .i), (7, .c .i), (8, .c .i)], []⟩
def y8s : Tmpl := ⟨[], []⟩
def w4o (av : AV) (x : HP z7v.ps) (n : Nat) (v : yl0.den) (K : Ks (CR z7v)) : Option (CR z7v) := z7d v.1.1 v.1.2.1 v.1.2.2.1 (y8s.at none ((), ()) (K (.exit 0))) n v.1.2.2.2.1
def yf8 (av : AV) (x : HP z7v.ps) : Hdl (CR z7v) := hnd [] yl0 (w4o av x)
theorem w57 : LP z7v Tryz.f163 [0] yf8 := lp_ok (W := []) (H := []) (xs := [y8s]) w2r trivial rfl (fun av x v K => by kernel_rfl) (fun av x n v K => by kernel_rfl)
theorem w9o : z7v.Ok Tryz.prog := fn_ok (k := z7v) (fn := Tryz.f163) (W := []) (H := [yf8]) Tryz.func163 w2r ⟨w57, trivial⟩ rfl rfl (fun av x => by kernel_rfl)
def z7c (s : List Int) (v : Int) : Option Bool := (y5u s v).bind fun x1 => (some (decide (0 ≤ x1)))
def z9x : Con := ⟨92, [.v (.sl .I) false, .v .I false], [(.B, true)], [], fun x => z7c x.1 x.2.1⟩
def w25 : Fs := ⟨[z7v], [], []⟩
theorem w2q : w25.Ok Tryz.prog := (fsK w9o fs0)
theorem y1t : z9x.Ok Tryz.prog := fn_ok (k := z9x) (fn := Tryz.f92) (W := []) (H := []) Tryz.func92 w2q trivial rfl rfl (fun av x => by kernel_rfl)
def y1l  : Option Int := some (-1)
def z4m (s : List GDid) (v : GDid) (p0_0 : Int) (kx0_0 : Option Int) : Nat → Int → Option Int
  | 0, _ => none
  | n0 + 1, s0_0 => if decide (s0_0 < p0_0) = true then ((getI s s0_0).bind fun x2 => (if decide ([v.task, v.who] = [x2.task, x2.who]) = true then (some s0_0) else (gd (ok64 (s0_0 + 1)) ((z4m s v p0_0 kx0_0 n0) (s0_0 + 1))))) else (kx0_0)
def zi7 (s : List GDid) (v : GDid) : Option Int := z4m s v (s.length : Int) y1l FUEL 0
def z44 : Con := ⟨204, [.v (.sl (.s .did)) false, .v (.s .did) false], [(.I, true)], [], fun x => zi7 x.1 x.2.1⟩
def w26 : Fs := ⟨[], [], []⟩
theorem y81 : w26.Ok Tryz.prog := fs0
def y47 : Tmpl := ⟨[(0, .c (.s (.s .did))), (3, .c (.bx 3 0)), (7, .c .i), (8, .c .i)], [(3, .boxT (.s .did))]⟩
def y2i : Tmpl := ⟨[], []⟩
def yl3 (av : AV) (x : HP z44.ps) (n : Nat) (v : y47.den) (K : Ks (CR z44)) : Option (CR z44) := z4m v.1.1 v.2.1 v.1.2.2.1 (y2i.at none ((), ()) (K (.exit 0))) n v.1.2.2.2.1
def y3q (av : AV) (x : HP z44.ps) : Hdl (CR z44) := hnd [] y47 (yl3 av x)
theorem yp8 : LP z44 Tryz.f204 [0] y3q := lp_ok (W := []) (H := []) (xs := [y2i]) y81 trivial rfl (fun av x v K => by kernel_rfl) (fun av x n v K => by kernel_rfl)
theorem w3e : z44.Ok Tryz.prog := fn_ok (k := z44) (fn := Tryz.f204) (W := []) (H := [y3q]) Tryz.func204 y81 ⟨yp8, trivial⟩ rfl rfl (fun av x => by kernel_rfl)
def zg4 (s : List GDid) (v : GDid) : Option Bool := (zi7 s v).bind fun x1 => (some (decide (0 ≤ x1)))
def zg0 : Con := ⟨170, [.v (.sl (.s .did)) false, .v (.s .did) false], [(.B, true)], [], fun x => zg4 x.1 x.2.1⟩
def yd1 : Fs := ⟨[z44], [], []⟩
theorem ye9 : yd1.Ok Tryz.prog := (fsK w3e fs0)
theorem yh7 : zg0.Ok Tryz.prog := fn_ok (k := zg0) (fn := Tryz.f170) (W := []) (H := []) Tryz.func170 ye9 trivial rfl rfl (fun av x => by kernel_rfl)
def zm3 (n : Int) : Option Bool := (z5m n).bind fun x1 => (some (!x1))
def zm9 : FCon := ⟨162, .I, [], fun z c => zm3 z ⟩
def ym6 : Fs := ⟨[z6s], [], []⟩
theorem yo9 : ym6.Ok Tryz.prog := (fsK zm8 fs0)
theorem yr1 : zm9.Ok Tryz.prog := FCon.ok (fn_ok (k := zm9.con) (fn := Tryz.f162) (W := []) (H := []) Tryz.func162 yo9 trivial rfl rfl (fun av x => by kernel_rfl))
def z5w (data : List Int) : Option Bool := if decide ((data.length : Int) = 3) = true then ((z1o data (fun z => zm3 z )).bind fun x2 => (some (!x2))) else (some false)
def z7a : Con := ⟨91, [.v (.sl .I) false], [(.B, true)], [], fun x => z5w x.1⟩
def w28 : Fs := ⟨[z3b], [zm9], []⟩
theorem w2s : w28.Ok Tryz.prog := (fsK z5h (fsF yr1 fs0))
theorem zj6 : z7a.Ok Tryz.prog := fn_ok (k := z7a) (fn := Tryz.f91) (W := []) (H := []) Tryz.func91 w2s trivial rfl rfl (fun av x => by kernel_rfl)
def z83 (e : GAsk) (data : List Int) : Option Bool := (z7e e).bind fun x1 => (if x1 = true then ((z5w data).bind fun x3 => (if x3 = true then (if decide (e.op = 1) = true then ((getI data e.var).bind fun x6 => (some (decide (x6 < e.k)))) else (if decide (e.op = 2) = true then ((getI data e.var).bind fun x8 => (some (decide (x8 = e.k)))) else (if decide (e.op = 3) = true then ((getI data e.var).bind fun x10 => (some (decide (e.k < x10)))) else (some true)))) else (some false))) else (some false))
def zg2 : Con := ⟨120, [.v (.s .ask) false, .v (.sl .I) false], [(.B, true)], [], fun x => z83 x.1 x.2.1⟩
def yd4 : Fs := ⟨[zi3, z7a], [], []⟩
theorem yf1 : yd4.Ok Tryz.prog := (fsK y8i (fsK zj6 fs0))
theorem yi0 : zg2.Ok Tryz.prog := fn_ok (k := zg2) (fn := Tryz.f120) (W := []) (H := []) Tryz.func120 yf1 trivial rfl rfl (fun av x => by kernel_rfl)
def zp4  : Option Bool := some true
def z3o (list : List Int) (places : Int) (without : List Int) (p0_0 : Int) (kx0_0 : Option Bool) : Nat → Int → Int → Option Bool
  | 0, _, _ => none
  | n0 + 1, s0_0, s0_1 => if decide (s0_0 < p0_0) = true then ((getI list s0_0).bind fun x2 => (gd (ok64 (s0_1 + 1)) (gd (ok64 (places - 1)) ((z0t x2 (s0_1 + 1) (places - 1)).bind fun x5 => (if x5 = true then ((z7c without x2).bind fun x7 => (if x7 = true then (some false) else (gd (ok64 (s0_0 + 1)) ((z3o list places without p0_0 kx0_0 n0) (s0_0 + 1) x2)))) else (some false)))))) else (kx0_0)
def z6t (list : List Int) (places : Int) (without : List Int) : Option Bool := z3o list places without (list.length : Int) zp4 FUEL 0 (-1)
def z2n : Con := ⟨178, [.v (.sl .I) false, .v .I false, .v (.sl .I) false], [(.B, true)], [], fun x => z6t x.1 x.2.1 x.2.2.1⟩
def yn1 : Fs := ⟨[z2d, z9x], [], []⟩
theorem y3h : yn1.Ok Tryz.prog := (fsK z3e (fsK y1t fs0))
def zz5 : Tmpl := ⟨[(1, .c .i), (2, .c (.s .I)), (7, .c .i), (10, .c (.s .I)), (11, .c .i), (12, .c .i)], []⟩
def zs1 : Tmpl := ⟨[], []⟩
def y8w (av : AV) (x : HP z2n.ps) (n : Nat) (v : zz5.den) (K : Ks (CR z2n)) : Option (CR z2n) := z3o v.1.2.2.2.1 v.1.1 v.1.2.1 v.1.2.2.2.2.1 (zs1.at none ((), ()) (K (.exit 0))) n v.1.2.2.2.2.2.1 v.1.2.2.1
def zx0 (av : AV) (x : HP z2n.ps) : Hdl (CR z2n) := hnd [] zz5 (y8w av x)
theorem y9k : LP z2n Tryz.f178 [0] zx0 := lp_ok (W := []) (H := []) (xs := [zs1]) y3h trivial rfl (fun av x v K => by kernel_rfl) (fun av x n v K => by kernel_rfl)
theorem yr5 : z2n.Ok Tryz.prog := fn_ok (k := z2n) (fn := Tryz.f178) (W := []) (H := [zx0]) Tryz.func178 y3h ⟨y9k, trivial⟩ rfl rfl (fun av x => by kernel_rfl)
def z58 (t : GTask) : Option Bool := (z0t (t.out.length : Int) 1 3).bind fun x21 => (some x21)
def z0x (t : GTask) (places : Int) (p0_0 : List GFlow) (p0_1 : Int) (kx0_0 : Option Bool) : Nat → Int → List Int → Option Bool
  | 0, _, _ => none
  | n0 + 1, s0_0, m0_1 => if decide (s0_0 < p0_1) = true then ((getI p0_0 s0_0).bind fun x2 => (if decide (t.split = 1) = true then (gd (ok64 (places - 1)) ((z0t x2.to 0 (places - 1)).bind fun x5 => (if x5 = true then (if decide (x2.to ∈ m0_1) = true then (some false) else ((z7e x2.if_).bind fun x8 => (if x8 = true then (if ((decide (x2.if_.op = 0)) == true) = true then (gd (ok64 (s0_0 + 1)) ((z0x t places p0_0 p0_1 kx0_0 n0) (s0_0 + 1) (insKey m0_1 x2.to))) else (some false)) else (some false)))) else (some false)))) else (gd (ok64 ((t.out.length : Int) - 1)) (gd (ok64 (places - 1)) ((z0t x2.to 0 (places - 1)).bind fun x14 => (if x14 = true then (if decide (x2.to ∈ m0_1) = true then (some false) else ((z7e x2.if_).bind fun x17 => (if x17 = true then (if ((decide (x2.if_.op = 0)) == (decide (s0_0 = ((t.out.length : Int) - 1)))) = true then (gd (ok64 (s0_0 + 1)) ((z0x t places p0_0 p0_1 kx0_0 n0) (s0_0 + 1) (insKey m0_1 x2.to))) else (some false)) else (some false)))) else (some false))))))) else (kx0_0)
def z4j (t : GTask) (places : Int) : Option Bool := z0x t places t.out (t.out.length : Int) (z58 t) FUEL 0 (insKey ([] : List Int) 0)
def z0r : Con := ⟨179, [.v (.s .task) false, .v .I false], [(.B, true)], [], fun x => z4j x.1 x.2.1⟩
def y38 : Fs := ⟨[z2d, zi3], [], []⟩
theorem zb5 : y38.Ok Tryz.prog := (fsK z3e (fsK y8i fs0))
def z95 : Tmpl := ⟨[(1, .c .i), (2, .c (.bx 2 0)), (5, .c (.bx 9 0)), (12, .c (.s (.s .flow))), (13, .c .i), (14, .c .i)], [(2, .boxT (.s .task)), (9, .mp)]⟩
def z8y : Tmpl := ⟨[(2, .c (.bx 2 0))], [(2, .boxT (.s .task))]⟩
def y0i (av : AV) (x : HP z0r.ps) (n : Nat) (v : z95.den) (K : Ks (CR z0r)) : Option (CR z0r) := z0x v.2.1 v.1.1 v.1.2.2.2.1 v.1.2.2.2.2.1 (z8y.at none (((), ()), (v.2.1, ())) (K (.exit 0))) n v.1.2.2.2.2.2.1 v.2.2.1
def z90 (av : AV) (x : HP z0r.ps) : Hdl (CR z0r) := hnd [] z95 (y0i av x)
theorem y0k : LP z0r Tryz.f179 [0] z90 := lp_ok (W := []) (H := []) (xs := [z8y]) zb5 trivial rfl (fun av x v K => by kernel_rfl) (fun av x n v K => by kernel_rfl)
theorem y3f : z0r.Ok Tryz.prog := fn_ok (k := z0r) (fn := Tryz.f179) (W := []) (H := [z90]) Tryz.func179 zb5 ⟨y0k, trivial⟩ rfl rfl (fun av x => by kernel_rfl)
def z6b (t : GTask) (places : Int) (tasks : Int) : Option Bool := (zd9 t.join).bind fun x1 => (if x1 = true then ((zd9 t.split).bind fun x3 => (if x3 = true then ((z0t (t.in_.length : Int) 1 3).bind fun x5 => (if x5 = true then ((z6t t.in_ places [1]).bind fun x7 => (if x7 = true then ((z4j t places).bind fun x9 => (if x9 = true then ((z6t t.clear places [0, 1]).bind fun x11 => (if x11 = true then ((z86 t.role).bind fun x13 => (if x13 = true then (gd (ok64 (tasks - 1)) ((z0t t.apart (-1) (tasks - 1)).bind fun x16 => (if x16 = true then ((z0t t.all 1 3).bind fun x18 => (if x18 = true then ((z0t t.need 1 t.all).bind fun x20 => (some x20)) else (some false))) else (some false)))) else (some false))) else (some false))) else (some false))) else (some false))) else (some false))) else (some false))) else (some false))
def z9b : Con := ⟨125, [.v (.s .task) false, .v .I false, .v .I false], [(.B, true)], [], fun x => z6b x.1 x.2.1 x.2.2.1⟩
def y6y : Fs := ⟨[zu7, z2d, z2n, z0r, zd1], [], []⟩
theorem y74 : y6y.Ok Tryz.prog := (fsK w0q (fsK z3e (fsK yr5 (fsK y3f (fsK y5z fs0)))))
theorem y7n : z9b.Ok Tryz.prog := fn_ok (k := z9b) (fn := Tryz.f125) (W := []) (H := []) Tryz.func125 y74 trivial rfl rfl (fun av x => by kernel_rfl)
def zm4 (t : GTask) (n : GNet) : Option Bool := (z6b t n.places (n.tasks.length : Int)).bind fun x1 => (some (!x1))
def zn0 : FCon := ⟨124, (.s .task), [(.s .net)], fun z c => zm4 z c.1⟩
def ym9 : Fs := ⟨[z9b], [], []⟩
theorem yp0 : ym9.Ok Tryz.prog := (fsK y7n fs0)
theorem yr3 : zn0.Ok Tryz.prog := FCon.ok (fn_ok (k := zn0.con) (fn := Tryz.f124) (W := []) (H := []) Tryz.func124 yp0 trivial rfl rfl (fun av x => by kernel_rfl))
def za1 (n : GNet) : Option Bool := (zm7 n.places (n.tasks.length : Int)).bind fun x1 => (if x1 = true then ((z4i n.tasks (fun z => zm4 z n)).bind fun x3 => (some (!x3))) else (some false))
def zi4 : Con := ⟨52, [.v (.s .net) false], [(.B, true)], [], fun x => za1 x.1⟩
def w2b : Fs := ⟨[zl9, z6m], [zn0], []⟩
theorem w2v : w2b.Ok Tryz.prog := (fsK yr7 (fsK y3e (fsF yr3 fs0)))
theorem y8j : zi4.Ok Tryz.prog := fn_ok (k := zi4) (fn := Tryz.f52) (W := []) (H := []) Tryz.func52 w2v trivial rfl rfl (fun av x => by kernel_rfl)
def z4b (p : Int) (out : List Bool) : Option Bool := (getI out p).bind fun x1 => (some x1)
def z61 : FCon := ⟨217, .I, [(.sl .B)], fun z c => z4b z c.1⟩
def y0s : Fs := ⟨[], [], []⟩
theorem y0w : y0s.Ok Tryz.prog := fs0
theorem y1v : z61.Ok Tryz.prog := FCon.ok (fn_ok (k := z61.con) (fn := Tryz.f217) (W := []) (H := []) Tryz.func217 y0w trivial rfl rfl (fun av x => by kernel_rfl))
def z91 (s1_0 : List GTask) (s1_1 : Int) (s1_2 : Int) (bk1 : List GTask → Int → Int → Bool → List Bool → Option (List Bool)) (s2_1 : Bool) (l2_2 : List Bool) : Option (List Bool) := gd (ok64 (s1_2 + 1)) (bk1 s1_0 s1_1 (s1_2 + 1) s2_1 l2_2)
def z0e (p2_0 : List GFlow) (p2_1 : Int) (kx2_0 : Bool → List Bool → Option (List Bool)) : Nat → Int → Bool → List Bool → Option (List Bool)
  | 0, _, _, _ => none
  | n2 + 1, s2_0, s2_1, l2_2 => if decide (s2_0 < p2_1) = true then ((getI p2_0 s2_0).bind fun x11 => (if s2_1 = true then ((getI l2_2 x11.to).bind fun x13 => (gd (ok64 (s2_0 + 1)) ((z0e p2_0 p2_1 kx2_0 n2) (s2_0 + 1) true (l2_2.set x11.to.toNat true)))) else ((getI l2_2 x11.to).bind fun x15 => ((getI l2_2 x11.to).bind fun x16 => (gd (ok64 (s2_0 + 1)) ((z0e p2_0 p2_1 kx2_0 n2) (s2_0 + 1) (!x15) (l2_2.set x11.to.toNat true))))))) else (kx2_0 s2_1 l2_2)
def z5n (bk0 : Bool → List Bool → Option (List Bool)) (s1_3 : Bool) (l1_4 : List Bool) : Option (List Bool) := bk0 s1_3 l1_4
def z0a (but : Int) (kx1_0 : Bool → List Bool → Option (List Bool)) : Nat → List GTask → Int → Int → Bool → List Bool → Option (List Bool)
  | 0, _, _, _, _, _ => none
  | n1 + 1, s1_0, s1_1, s1_2, s1_3, l1_4 => if decide (s1_2 < s1_1) = true then ((getI s1_0 s1_2).bind fun x5 => (if decide (s1_2 = but) = true then (gd (ok64 (s1_2 + 1)) ((z0a but kx1_0 n1) s1_0 s1_1 (s1_2 + 1) s1_3 l1_4)) else ((z1o x5.in_ (fun z => z4b z l1_4)).bind fun x8 => (if x8 = true then (z0e x5.out (x5.out.length : Int) (z91 s1_0 s1_1 s1_2 (z0a but kx1_0 n1)) FUEL 0 s1_3 l1_4) else (gd (ok64 (s1_2 + 1)) ((z0a but kx1_0 n1) s1_0 s1_1 (s1_2 + 1) s1_3 l1_4)))))) else (kx1_0 s1_3 l1_4)
def z92 (l0_1 : List Bool) : Option (List Bool) := some l0_1
def z0q (n : GNet) (but : Int) (kx0_0 : List Bool → Option (List Bool)) : Nat → Bool → List Bool → Option (List Bool)
  | 0, _, _ => none
  | n0 + 1, s0_0, l0_1 => if s0_0 = true then (z0a but (z5n (z0q n but kx0_0 n0)) FUEL n.tasks (n.tasks.length : Int) 0 false l0_1) else (kx0_0 l0_1)
def z57 (n : GNet) (place : Int) (but : Int) : Option (List Bool) := gd ((0 : Int) ≤ n.places ∧ n.places ≤ (1000000000 : Int)) ((getI (List.replicate n.places.toNat false) place).bind fun x2 => (z0q n but z92 FUEL true ((List.replicate n.places.toNat false).set place.toNat true)))
def z04 : Con := ⟨202, [.v (.s .net) false, .v .I false, .v .I false], [((.sl .B), true)], [], fun x => z57 x.1 x.2.1 x.2.2.1⟩
def y4o : Fs := ⟨[z3b], [z61], []⟩
theorem z53 : y4o.Ok Tryz.prog := (fsK z5h (fsF y1v fs0))
def z70 : Tmpl := ⟨[(2, .c .i), (3, .c (.bx 3 0)), (7, .c (.bx 7 0)), (8, .c .b), (21, .c (.s (.s .task))), (22, .c .i), (23, .c .i), (39, .c (.s (.s .flow))), (40, .c .i), (41, .c .i)], [(3, .boxT (.s .net)), (7, .box [.ref 15]), (15, .arr .B true)]⟩
def z6i : Tmpl := ⟨[(2, .c .i), (3, .c (.bx 3 0)), (7, .c (.bx 7 0)), (8, .c .b), (21, .c (.s (.s .task))), (22, .c .i), (23, .c .i)], [(3, .boxT (.s .net)), (7, .box [.ref 15]), (15, .arr .B true)]⟩
def zl3 (av : AV) (x : HP z04.ps) (n : Nat) (v : z70.den) (K : Ks (CR z04)) : Option (CR z04) := z0e v.1.2.2.2.2.2.2.2.1 v.1.2.2.2.2.2.2.2.2.1 (fun s2_1 l2_2 => z6i.at none ((v.1.1, (), (), s2_1, v.1.2.2.2.2.1, v.1.2.2.2.2.2.1, v.1.2.2.2.2.2.2.1, ()), (v.2.1, ((), ()), l2_2, ())) (K (.exit 4))) n v.1.2.2.2.2.2.2.2.2.2.1 v.1.2.2.2.1 v.2.2.2.1
def z6r (av : AV) (x : HP z04.ps) : Hdl (CR z04) := hnd [] z70 (zl3 av x)
theorem zm2 : LP z04 Tryz.f202 [0, 0, 0] z6r := lp_ok (W := []) (H := []) (xs := [z6i]) z53 trivial rfl (fun av x v K => by kernel_rfl) (fun av x n v K => by kernel_rfl)
def z8w : Tmpl := ⟨[(2, .c .i), (3, .c (.bx 3 0)), (7, .c (.bx 7 0)), (8, .c .b), (21, .c (.s (.s .task))), (22, .c .i), (23, .c .i)], [(3, .boxT (.s .net)), (7, .box [.ref 15]), (15, .arr .B true)]⟩
def z7n : Tmpl := ⟨[(2, .c .i), (3, .c (.bx 3 0)), (7, .c (.bx 7 0)), (8, .c .b)], [(3, .boxT (.s .net)), (7, .box [.ref 15]), (15, .arr .B true)]⟩
def zt5 (av : AV) (x : HP z04.ps) (n : Nat) (v : z8w.den) (K : Ks (CR z04)) : Option (CR z04) := z0a v.1.1 (fun s1_3 l1_4 => z7n.at none ((v.1.1, (), (), s1_3, ()), (v.2.1, ((), ()), l1_4, ())) (K (.exit 2))) n v.1.2.2.2.2.1 v.1.2.2.2.2.2.1 v.1.2.2.2.2.2.2.1 v.1.2.2.2.1 v.2.2.2.1
def z7t (av : AV) (x : HP z04.ps) : Hdl (CR z04) := hnd [] z8w (zt5 av x)
theorem zv6 : LP z04 Tryz.f202 [0, 0] z7t := lp_ok (W := []) (H := [z6r]) (xs := [z7n]) z53 ⟨zm2, trivial⟩ rfl (fun av x v K => by kernel_rfl) (fun av x n v K => by kernel_rfl)
def za5 : Tmpl := ⟨[(2, .c .i), (3, .c (.bx 3 0)), (7, .c (.bx 7 0)), (8, .c .b)], [(3, .boxT (.s .net)), (7, .box [.ref 15]), (15, .arr .B true)]⟩
def z96 : Tmpl := ⟨[(7, .c (.bx 7 0))], [(7, .box [.ref 15]), (15, .arr .B true)]⟩
def y0l (av : AV) (x : HP z04.ps) (n : Nat) (v : za5.den) (K : Ks (CR z04)) : Option (CR z04) := z0q v.2.1 v.1.1 (fun l0_1 => z96.at none (((), ()), (((), ()), l0_1, ())) (K (.exit 0))) n v.1.2.2.2.1 v.2.2.2.1
def z9u (av : AV) (x : HP z04.ps) : Hdl (CR z04) := hnd [] za5 (y0l av x)
theorem y1h : LP z04 Tryz.f202 [0] z9u := lp_ok (W := []) (H := [z7t]) (xs := [z96]) z53 ⟨zv6, trivial⟩ rfl (fun av x v K => by kernel_rfl) (fun av x n v K => by kernel_rfl)
theorem y51 : z04.Ok Tryz.prog := fn_ok (k := z04) (fn := Tryz.f202) (W := []) (H := [z9u]) Tryz.func202 z53 ⟨y1h, trivial⟩ rfl rfl (fun av x => by kernel_rfl)
def z56 (m : Int) : Option Bool := (z0t m 0 4).bind fun x1 => (some (!x1))
def z5b : FCon := ⟨199, .I, [], fun z c => z56 z ⟩
def zt8 : Fs := ⟨[z2d], [], []⟩
theorem zu1 : zt8.Ok Tryz.prog := (fsK z3e fs0)
theorem zw0 : z5b.Ok Tryz.prog := FCon.ok (fn_ok (k := z5b.con) (fn := Tryz.f199) (W := []) (H := []) Tryz.func199 zu1 trivial rfl rfl (fun av x => by kernel_rfl))
def z30 (n : GNet) (marks : List Int) : Option Bool := if decide ((marks.length : Int) = n.places) = true then ((z1o marks (fun z => z56 z )).bind fun x2 => (some (!x2))) else (some false)
def z46 : Con := ⟨164, [.v (.s .net) false, .v (.sl .I) false], [(.B, true)], [], fun x => z30 x.1 x.2.1⟩
def y0r : Fs := ⟨[z3b], [z5b], []⟩
theorem y0v : y0r.Ok Tryz.prog := (fsK z5h (fsF zw0 fs0))
theorem za2 : z46.Ok Tryz.prog := fn_ok (k := z46) (fn := Tryz.f164) (W := []) (H := []) Tryz.func164 y0v trivial rfl rfl (fun av x => by kernel_rfl)
def z5x (n : GNet) (marks : List Int) : Option Bool := (za1 n).bind fun x1 => (if x1 = true then ((z30 n marks).bind fun x3 => (some x3)) else (some false))
def z7b : Con := ⟨94, [.v (.s .net) false, .v (.sl .I) false], [(.B, true)], [], fun x => z5x x.1 x.2.1⟩
def w2a : Fs := ⟨[zi4, z46], [], []⟩
theorem w2u : w2a.Ok Tryz.prog := (fsK y8j (fsK za2 fs0))
theorem zj7 : z7b.Ok Tryz.prog := fn_ok (k := z7b) (fn := Tryz.f94) (W := []) (H := []) Tryz.func94 w2u trivial rfl rfl (fun av x => by kernel_rfl)
def z84 (busy : List GItem) : Option Bool := some (decide ((busy.length : Int) ≤ 6))
def z1f (n : GNet) (p0_0 : List GItem) (p0_1 : Int) (kx0_0 : Option Bool) : Nat → Int → Option Bool
  | 0, _ => none
  | n0 + 1, s0_0 => if decide (s0_0 < p0_1) = true then ((getI p0_0 s0_0).bind fun x2 => ((z0g n x2.task).bind fun x3 => (if x3 = true then ((z5z x2.who).bind fun x5 => (if x5 = true then ((getI n.tasks x2.task).bind fun x7 => (gd (ok64 (x7.need - 1)) ((z0t x2.did 0 (x7.need - 1)).bind fun x9 => (if x9 = true then (gd (ok64 (s0_0 + 1)) ((z1f n p0_0 p0_1 kx0_0 n0) (s0_0 + 1))) else (some false))))) else (some false))) else (some false)))) else (kx0_0)
def z27 (n : GNet) (busy : List GItem) : Option Bool := z1f n busy (busy.length : Int) (z84 busy) FUEL 0
def z0f : Con := ⟨95, [.v (.s .net) false, .v (.sl (.s .item)) false], [(.B, true)], [], fun x => z27 x.1 x.2.1⟩
def y37 : Fs := ⟨[z19, z7w, z2d], [], []⟩
theorem zb4 : y37.Ok Tryz.prog := (fsK z32 (fsK y1x (fsK z3e fs0)))
def z94 : Tmpl := ⟨[(1, .c (.s (.s .item))), (2, .c (.bx 2 0)), (7, .c (.s (.s .item))), (8, .c .i), (9, .c .i)], [(2, .boxT (.s .net))]⟩
def z8x : Tmpl := ⟨[(1, .c (.s (.s .item)))], []⟩
def y0h (av : AV) (x : HP z0f.ps) (n : Nat) (v : z94.den) (K : Ks (CR z0f)) : Option (CR z0f) := z1f v.2.1 v.1.2.2.1 v.1.2.2.2.1 (z8x.at none ((v.1.1, ()), ()) (K (.exit 0))) n v.1.2.2.2.2.1
def z8z (av : AV) (x : HP z0f.ps) : Hdl (CR z0f) := hnd [] z94 (y0h av x)
theorem y0j : LP z0f Tryz.f95 [0] z8z := lp_ok (W := []) (H := []) (xs := [z8x]) zb4 trivial rfl (fun av x v K => by kernel_rfl) (fun av x n v K => by kernel_rfl)
theorem z6n : z0f.Ok Tryz.prog := fn_ok (k := z0f) (fn := Tryz.f95) (W := []) (H := [z8z]) Tryz.func95 zb4 ⟨y0j, trivial⟩ rfl rfl (fun av x => by kernel_rfl)
def z55 (q : Int) (marks : List Int) (reach : List Bool) : Option Bool := (getI marks q).bind fun x1 => (if decide (x1 = 0) = true then ((getI reach q).bind fun x3 => (some x3)) else (some false))
def z5a : FCon := ⟨203, .I, [(.sl .I), (.sl .B)], fun z c => z55 z c.1 c.2.1⟩
def zt7 : Fs := ⟨[], [], []⟩
theorem zu0 : zt7.Ok Tryz.prog := fs0
theorem zv9 : z5a.Ok Tryz.prog := FCon.ok (fn_ok (k := z5a.con) (fn := Tryz.f203) (W := []) (H := []) Tryz.func203 zu0 trivial rfl rfl (fun av x => by kernel_rfl))
def z36 (s1_0 : Int) (s1_1 : Int) (bk1 : Int → Int → List Int → Option Bool) (l2_1 : List Int) : Option Bool := gd (ok64 (s1_1 + 1)) (bk1 s1_0 (s1_1 + 1) l2_1)
def z18 (p2_0 : List GFlow) (p2_1 : Int) (kx2_0 : List Int → Option Bool) : Nat → Int → List Int → Option Bool
  | 0, _, _ => none
  | n2 + 1, s2_0, l2_1 => if decide (s2_0 < p2_1) = true then ((getI p2_0 s2_0).bind fun x15 => (gd (l2_1.length + [x15.to].length ≤ SMALL) (gd (ok64 (s2_0 + 1)) ((z18 p2_0 p2_1 kx2_0 n2) (s2_0 + 1) (l2_1 ++ [x15.to]))))) else (kx2_0 l2_1)
def z4o  : Option Bool := some false
def z0s (n : GNet) (t : Int) (p0_0 : List Int) (p0_2 : List Int) (l1_2 : List Int) (p3_0 : Int) (kx3_0 : Option Bool) : Nat → Int → Option Bool
  | 0, _ => none
  | n3 + 1, s3_0 => if decide (s3_0 < p3_0) = true then ((getI l1_2 s3_0).bind fun x20 => ((z57 n x20 t).bind fun x21 => ((z1o p0_0 (fun z => z55 z p0_2 x21)).bind fun x22 => (if x22 = true then (some true) else (gd (ok64 (s3_0 + 1)) ((z0s n t p0_0 p0_2 l1_2 p3_0 kx3_0 n3) (s3_0 + 1))))))) else (kx3_0)
def z17 (n : GNet) (t : Int) (p0_0 : List Int) (p0_2 : List Int) (l1_2 : List Int) : Option Bool := z0s n t p0_0 p0_2 l1_2 (l1_2.length : Int) z4o FUEL 0
def z0j (n : GNet) (busy : List GItem) (kx1_0 : List Int → Option Bool) : Nat → Int → Int → List Int → Option Bool
  | 0, _, _, _ => none
  | n1 + 1, s1_0, s1_1, l1_2 => if decide (s1_1 < s1_0) = true then ((getI busy s1_1).bind fun x12 => ((getI n.tasks x12.task).bind fun x13 => (z18 x13.out (x13.out.length : Int) (z36 s1_0 s1_1 (z0j n busy kx1_0 n1)) FUEL 0 l1_2))) else (kx1_0 l1_2)
def z35 (n : GNet) (busy : List GItem) (t : Int) (p0_0 : List Int) (p0_2 : List Int) (l0_1 : List Int) : Option Bool := z0j n busy (z17 n t p0_0 p0_2) FUEL (busy.length : Int) 0 l0_1
def z0i (marks : List Int) (p0_0 : List Int) (p0_1 : Int) (kx0_0 : List Int → Option Bool) : Nat → Int → List Int → Option Bool
  | 0, _, _ => none
  | n0 + 1, s0_0, l0_1 => if decide (s0_0 < p0_1) = true then ((getI marks s0_0).bind fun x3 => (if decide (0 < x3) = true then ((z7c p0_0 s0_0).bind fun x5 => (if x5 = true then (gd (ok64 (s0_0 + 1)) ((z0i marks p0_0 p0_1 kx0_0 n0) (s0_0 + 1) l0_1)) else (gd (l0_1.length + [s0_0].length ≤ SMALL) (gd (ok64 (s0_0 + 1)) ((z0i marks p0_0 p0_1 kx0_0 n0) (s0_0 + 1) (l0_1 ++ [s0_0])))))) else (gd (ok64 (s0_0 + 1)) ((z0i marks p0_0 p0_1 kx0_0 n0) (s0_0 + 1) l0_1)))) else (kx0_0 l0_1)
def z4a (n : GNet) (marks : List Int) (busy : List GItem) (t : Int) : Option Bool := (getI n.tasks t).bind fun x1 => (z0i marks x1.in_ (marks.length : Int) (z35 n busy t x1.in_ marks) FUEL 0 ([] : List Int))
def z00 : Con := ⟨168, [.v (.s .net) false, .v (.sl .I) false, .v (.sl (.s .item)) false, .v .I false], [(.B, true)], [], fun x => z4a x.1 x.2.1 x.2.2.1 x.2.2.2.1⟩
def y0p : Fs := ⟨[z9x, z04, z3b], [z5a], []⟩
theorem z2w : y0p.Ok Tryz.prog := (fsK y1t (fsK y51 (fsK z5h (fsF zv9 fs0))))
def z6z : Tmpl := ⟨[(3, .c .i), (4, .c (.bx 4 0)), (5, .c (.bx 5 0)), (9, .c (.s .I)), (10, .c (.ref 500010)), (46, .c (.s (.s .item))), (47, .c .i), (48, .c .i), (58, .c (.s (.s .flow))), (59, .c .i), (60, .c .i)], [(4, .boxT (.s .net)), (5, .box [.s .I]), (500010, .arr .I true)]⟩
def z6h : Tmpl := ⟨[(3, .c .i), (4, .c (.bx 4 0)), (5, .c (.bx 5 0)), (9, .c (.s .I)), (10, .c (.ref 500010)), (46, .c (.s (.s .item))), (47, .c .i), (48, .c .i)], [(4, .boxT (.s .net)), (5, .box [.s .I]), (500010, .arr .I true)]⟩
def zl2 (av : AV) (x : HP z00.ps) (n : Nat) (v : z6z.den) (K : Ks (CR z00)) : Option (CR z00) := z18 v.1.2.2.2.2.2.2.2.2.1 v.1.2.2.2.2.2.2.2.2.2.1 (fun l2_1 => z6h.at none ((v.1.1, (), (), v.1.2.2.2.1, (), v.1.2.2.2.2.2.1, v.1.2.2.2.2.2.2.1, v.1.2.2.2.2.2.2.2.1, ()), (v.2.1, (v.2.2.1.1, ()), l2_1, ())) (K (.exit 4))) n v.1.2.2.2.2.2.2.2.2.2.2.1 v.2.2.2.1
def z6q (av : AV) (x : HP z00.ps) : Hdl (CR z00) := hnd [] z6z (zl2 av x)
theorem zm1 : LP z00 Tryz.f168 [1, 0] z6q := lp_ok (W := []) (H := []) (xs := [z6h]) z2w trivial rfl (fun av x v K => by kernel_rfl) (fun av x n v K => by kernel_rfl)
def z8t : Tmpl := ⟨[(2, .c (.s (.s .item))), (3, .c .i), (4, .c (.bx 4 0)), (5, .c (.bx 5 0)), (9, .c (.s .I)), (10, .c (.ref 500010)), (26, .c (.s .I)), (27, .c .i), (28, .c .i)], [(4, .boxT (.s .net)), (5, .box [.s .I]), (500010, .arr .I true)]⟩
def z7k : Tmpl := ⟨[(2, .c (.s (.s .item))), (3, .c .i), (4, .c (.bx 4 0)), (5, .c (.bx 5 0)), (9, .c (.s .I)), (10, .c (.ref 500010))], [(4, .boxT (.s .net)), (5, .box [.s .I]), (500010, .arr .I true)]⟩
def zt2 (av : AV) (x : HP z00.ps) (n : Nat) (v : z8t.den) (K : Ks (CR z00)) : Option (CR z00) := z0i v.1.2.2.2.2.2.2.1 v.1.2.2.2.2.1 v.1.2.2.2.2.2.2.2.1 (fun l0_1 => z7k.at none ((v.1.1, v.1.2.1, (), (), v.1.2.2.2.2.1, (), ()), (v.2.1, (v.2.2.1.1, ()), l0_1, ())) (K (.exit 0))) n v.1.2.2.2.2.2.2.2.2.1 v.2.2.2.1
def z7q (av : AV) (x : HP z00.ps) : Hdl (CR z00) := hnd [.e 10 500010 .I] z8t (zt2 av x)
theorem zv3 : LP z00 Tryz.f168 [0] z7q := lp_ok (W := []) (H := []) (xs := [z7k]) z2w trivial rfl (fun av x v K => by kernel_rfl) (fun av x n v K => by kernel_rfl)
def z8u : Tmpl := ⟨[(3, .c .i), (4, .c (.bx 4 0)), (5, .c (.bx 5 0)), (9, .c (.s .I)), (10, .c (.ref 500010)), (46, .c (.s (.s .item))), (47, .c .i), (48, .c .i)], [(4, .boxT (.s .net)), (5, .box [.s .I]), (500010, .arr .I true)]⟩
def z7l : Tmpl := ⟨[(3, .c .i), (4, .c (.bx 4 0)), (5, .c (.bx 5 0)), (9, .c (.s .I)), (10, .c (.ref 500010))], [(4, .boxT (.s .net)), (5, .box [.s .I]), (500010, .arr .I true)]⟩
def zt3 (av : AV) (x : HP z00.ps) (n : Nat) (v : z8u.den) (K : Ks (CR z00)) : Option (CR z00) := z0j v.2.1 v.1.2.2.2.2.2.1 (fun l1_2 => z7l.at none ((v.1.1, (), (), v.1.2.2.2.1, (), ()), (v.2.1, (v.2.2.1.1, ()), l1_2, ())) (K (.exit 2))) n v.1.2.2.2.2.2.2.1 v.1.2.2.2.2.2.2.2.1 v.2.2.2.1
def z7r (av : AV) (x : HP z00.ps) : Hdl (CR z00) := hnd [] z8u (zt3 av x)
theorem zv4 : LP z00 Tryz.f168 [1] z7r := lp_ok (W := []) (H := [z6q]) (xs := [z7l]) z2w ⟨zm1, trivial⟩ rfl (fun av x v K => by kernel_rfl) (fun av x n v K => by kernel_rfl)
def z8v : Tmpl := ⟨[(3, .c .i), (4, .c (.bx 4 0)), (5, .c (.bx 5 0)), (9, .c (.s .I)), (71, .c (.ref 500010)), (72, .c .i), (73, .c .i)], [(4, .boxT (.s .net)), (5, .box [.s .I]), (500010, .arr .I true)]⟩
def z7m : Tmpl := ⟨[], []⟩
def zt4 (av : AV) (x : HP z00.ps) (n : Nat) (v : z8v.den) (K : Ks (CR z00)) : Option (CR z00) := z0s v.2.1 v.1.1 v.1.2.2.2.1 v.2.2.1.1 v.2.2.2.1 v.1.2.2.2.2.2.1 (z7m.at none ((), ()) (K (.exit 6))) n v.1.2.2.2.2.2.2.1
def z7s (av : AV) (x : HP z00.ps) : Hdl (CR z00) := hnd [] z8v (zt4 av x)
theorem zv5 : LP z00 Tryz.f168 [2] z7s := lp_ok (W := []) (H := []) (xs := [z7m]) z2w trivial rfl (fun av x v K => by kernel_rfl) (fun av x n v K => by kernel_rfl)
theorem y1u : z00.Ok Tryz.prog := fn_ok (k := z00) (fn := Tryz.f168) (W := []) (H := [z7q, z7r, z7s]) Tryz.func168 z2w ⟨zv3, zv4, zv5, trivial⟩ rfl rfl (fun av x => by kernel_rfl)
def z28 (n : GNet) (marks : List Int) (busy : List GItem) (t : Int) (s0_0 : Bool) (s0_2 : Bool) : Option Bool := (getI n.tasks t).bind fun x14 => (if decide (x14.join = 1) = true then (some s0_0) else (if decide (x14.join = 2) = true then (some s0_2) else (if s0_2 = true then (if s0_0 = true then (some true) else ((z4a n marks busy t).bind fun x19 => (some (!x19)))) else (some false))))
def z0k (marks : List Int) (p0_0 : List Int) (p0_1 : Int) (kx0_0 : Bool → Bool → Option Bool) : Nat → Bool → Int → Bool → Option Bool
  | 0, _, _, _ => none
  | n0 + 1, s0_0, s0_1, s0_2 => if decide (s0_1 < p0_1) = true then ((getI p0_0 s0_1).bind fun x3 => (if s0_2 = true then (if s0_0 = true then ((getI marks x3).bind fun x6 => (gd (ok64 (s0_1 + 1)) ((z0k marks p0_0 p0_1 kx0_0 n0) (decide (0 < x6)) (s0_1 + 1) true))) else (gd (ok64 (s0_1 + 1)) ((z0k marks p0_0 p0_1 kx0_0 n0) false (s0_1 + 1) true))) else ((getI marks x3).bind fun x9 => (if s0_0 = true then ((getI marks x3).bind fun x11 => (gd (ok64 (s0_1 + 1)) ((z0k marks p0_0 p0_1 kx0_0 n0) (decide (0 < x11)) (s0_1 + 1) (decide (0 < x9))))) else (gd (ok64 (s0_1 + 1)) ((z0k marks p0_0 p0_1 kx0_0 n0) false (s0_1 + 1) (decide (0 < x9)))))))) else (kx0_0 s0_0 s0_2)
def z4p (n : GNet) (marks : List Int) (busy : List GItem) (t : Int) : Option Bool := (getI n.tasks t).bind fun x1 => (z0k marks x1.in_ (x1.in_.length : Int) (z28 n marks busy t) FUEL true 0 false)
def z10 : Con := ⟨104, [.v (.s .net) false, .v (.sl .I) false, .v (.sl (.s .item)) false, .v .I false], [(.B, true)], [], fun x => z4p x.1 x.2.1 x.2.2.1 x.2.2.2.1⟩
def y6x : Fs := ⟨[z00], [], []⟩
theorem zo1 : y6x.Ok Tryz.prog := (fsK y1u fs0)
def zh3 : Tmpl := ⟨[(1, .c (.s .I)), (2, .c (.s (.s .item))), (3, .c .i), (4, .c (.bx 4 0)), (9, .c .b), (10, .c .b), (18, .c (.s .I)), (19, .c .i), (20, .c .i)], [(4, .boxT (.s .net))]⟩
def zc3 : Tmpl := ⟨[(1, .c (.s .I)), (2, .c (.s (.s .item))), (3, .c .i), (4, .c (.bx 4 0)), (9, .c .b), (10, .c .b)], [(4, .boxT (.s .net))]⟩
def y4k (av : AV) (x : HP z10.ps) (n : Nat) (v : zh3.den) (K : Ks (CR z10)) : Option (CR z10) := z0k v.1.1 v.1.2.2.2.2.2.2.1 v.1.2.2.2.2.2.2.2.1 (fun s0_0 s0_2 => zc3.at none ((v.1.1, v.1.2.1, v.1.2.2.1, (), s0_2, s0_0, ()), (v.2.1, ())) (K (.exit 0))) n v.1.2.2.2.2.2.1 v.1.2.2.2.2.2.2.2.2.1 v.1.2.2.2.2.1
def zf7 (av : AV) (x : HP z10.ps) : Hdl (CR z10) := hnd [] zh3 (y4k av x)
theorem y4u : LP z10 Tryz.f104 [0] zf7 := lp_ok (W := []) (H := []) (xs := [zc3]) zo1 trivial rfl (fun av x v K => by kernel_rfl) (fun av x n v K => by kernel_rfl)
theorem zq4 : z10.Ok Tryz.prog := fn_ok (k := z10) (fn := Tryz.f104) (W := []) (H := [zf7]) Tryz.func104 zo1 ⟨y4u, trivial⟩ rfl rfl (fun av x => by kernel_rfl)
def zd6 (n : GNet) (marks : List Int) (busy : List GItem) (t : Int) : Option Bool := (z5x n marks).bind fun x1 => (if x1 = true then ((z27 n busy).bind fun x3 => (if x3 = true then ((z0g n t).bind fun x5 => (if x5 = true then ((z4p n marks busy t).bind fun x7 => (some x7)) else (some false))) else (some false))) else (some false))
def zu4 : Con := ⟨33, [.v (.s .net) false, .v (.sl .I) false, .v (.sl (.s .item)) false, .v .I false], [(.B, true)], [], fun x => zd6 x.1 x.2.1 x.2.2.1 x.2.2.2.1⟩
def yw9 : Fs := ⟨[z7b, z0f, z19, z10], [], []⟩
theorem yz2 : yw9.Ok Tryz.prog := (fsK zj7 (fsK z6n (fsK z32 (fsK zq4 fs0))))
theorem w0n : zu4.Ok Tryz.prog := fn_ok (k := zu4) (fn := Tryz.f33) (W := []) (H := []) Tryz.func33 yz2 trivial rfl rfl (fun av x => by kernel_rfl)
def z82 (l0_1 : List Int) : Option (List Int) := some l0_1
def z20 (n : GNet) (marks : List Int) (busy : List GItem) (p0_0 : Int) (kx0_0 : List Int → Option (List Int)) : Nat → Int → List Int → Option (List Int)
  | 0, _, _ => none
  | n0 + 1, s0_0, l0_1 => if decide (s0_0 < p0_0) = true then ((z4p n marks busy s0_0).bind fun x6 => (if x6 = true then (gd (l0_1.length + [s0_0].length ≤ SMALL) (gd (ok64 (s0_0 + 1)) ((z20 n marks busy p0_0 kx0_0 n0) (s0_0 + 1) (l0_1 ++ [s0_0])))) else (gd (ok64 (s0_0 + 1)) ((z20 n marks busy p0_0 kx0_0 n0) (s0_0 + 1) l0_1)))) else (kx0_0 l0_1)
def z81 (n : GNet) (marks : List Int) (busy : List GItem) : Option (List Int) := (z5x n marks).bind fun x1 => (if x1 = true then ((z27 n busy).bind fun x3 => (if x3 = true then (z20 n marks busy (n.tasks.length : Int) z82 FUEL 0 ([] : List Int)) else (some []))) else (some []))
def z1x : Con := ⟨110, [.v (.s .net) false, .v (.sl .I) false, .v (.sl (.s .item)) false], [((.sl .I), true)], [], fun x => z81 x.1 x.2.1 x.2.2.1⟩
def yd3 : Fs := ⟨[z7b, z0f, z10], [], []⟩
theorem y0t : yd3.Ok Tryz.prog := (fsK zj7 (fsK z6n (fsK zq4 fs0)))
def zq9 : Tmpl := ⟨[(1, .c (.s .I)), (2, .c (.s (.s .item))), (3, .c (.bx 3 0)), (7, .c (.ref 500007)), (21, .c .i), (22, .c .i)], [(3, .boxT (.s .net)), (500007, .arr .I true)]⟩
def zk3 : Tmpl := ⟨[(7, .c (.ref 500007))], [(500007, .arr .I true)]⟩
def y6l (av : AV) (x : HP z1x.ps) (n : Nat) (v : zq9.den) (K : Ks (CR z1x)) : Option (CR z1x) := z20 v.2.1 v.1.1 v.1.2.1 v.1.2.2.2.2.1 (fun l0_1 => zk3.at none (((), ()), (l0_1, ())) (K (.exit 0))) n v.1.2.2.2.2.2.1 v.2.2.1
def zo3 (av : AV) (x : HP z1x.ps) : Hdl (CR z1x) := hnd [.e 7 500007 .I] zq9 (y6l av x)
theorem y7b : LP z1x Tryz.f110 [0] zo3 := lp_ok (W := []) (H := []) (xs := [zk3]) y0t trivial rfl (fun av x v K => by kernel_rfl) (fun av x n v K => by kernel_rfl)
theorem yh9 : z1x.Ok Tryz.prog := fn_ok (k := z1x) (fn := Tryz.f110) (W := []) (H := [zo3]) Tryz.func110 y0t ⟨y7b, trivial⟩ rfl rfl (fun av x => by kernel_rfl)
def z9z (l0_1 : List Int) (x4 : Int) (x7 : Int) : Option (List Int) := some (l0_1.set x4.toNat (x7 - 1))
def za0 (l0_1 : List Int) : Option (List Int) := some l0_1
def z1a (n : GNet) (t : Int) (p0_0 : List Int) (p0_1 : Int) (kx0_0 : List Int → Int → Int → Option (List Int)) (kx0_1 : List Int → Option (List Int)) : Nat → Int → List Int → Option (List Int)
  | 0, _, _ => none
  | n0 + 1, s0_0, l0_1 => if decide (s0_0 < p0_1) = true then ((getI p0_0 s0_0).bind fun x4 => ((getI l0_1 x4).bind fun x5 => (if decide (0 < x5) = true then ((getI l0_1 x4).bind fun x7 => (gd (ok64 (x7 - 1)) ((getI l0_1 x4).bind fun x9 => ((getI n.tasks t).bind fun x10 => (if decide (x10.join = 2) = true then (kx0_0 l0_1 x4 x7) else (gd (ok64 (s0_0 + 1)) ((z1a n t p0_0 p0_1 kx0_0 kx0_1 n0) (s0_0 + 1) (l0_1.set x4.toNat (x7 - 1))))))))) else (gd (ok64 (s0_0 + 1)) ((z1a n t p0_0 p0_1 kx0_0 kx0_1 n0) (s0_0 + 1) l0_1))))) else (kx0_1 l0_1)
def z5o (n : GNet) (marks : List Int) (t : Int) : Option (List Int) := (z3c marks).bind fun x1 => ((getI n.tasks t).bind fun x2 => (z1a n t x2.in_ (x2.in_.length : Int) z9z za0 FUEL 0 x1))
def z12 : Con := ⟨93, [.v (.s .net) false, .v (.sl .I) false, .v .I false], [((.sl .I), true)], [], fun x => z5o x.1 x.2.1 x.2.2.1⟩
def y5d : Fs := ⟨[z5e], [], []⟩
theorem zh9 : y5d.Ok Tryz.prog := (fsK zb1 fs0)
def zc0 : Tmpl := ⟨[(2, .c .i), (3, .c (.bx 3 0)), (7, .c (.ref 11)), (17, .c (.s .I)), (18, .c .i), (19, .c .i)], [(3, .boxT (.s .net)), (11, .arr .I true)]⟩
def z63 : Tmpl := ⟨[(7, .c (.ref 11))], [(11, .arr .I true)]⟩
def y33 (av : AV) (x : HP z12.ps) (n : Nat) (v : zc0.den) (K : Ks (CR z12)) : Option (CR z12) := z1a v.2.1 v.1.1 v.1.2.2.2.1 v.1.2.2.2.2.1 (fun l0_1 x4 x7 => z63.at none (((), ()), ((l0_1.set x4.toNat (x7 - 1)), ())) (K (.exit 0))) (fun l0_1 => z63.at none (((), ()), (l0_1, ())) (K (.exit 0))) n v.1.2.2.2.2.2.1 v.2.2.1
def zb6 (av : AV) (x : HP z12.ps) : Hdl (CR z12) := hnd [] zc0 (y33 av x)
theorem y3c : LP z12 Tryz.f93 [0] zb6 := lp_ok (W := []) (H := []) (xs := [z63]) zh9 trivial rfl (fun av x v K => by kernel_rfl) (fun av x n v K => by kernel_rfl)
theorem y5x : z12.Ok Tryz.prog := fn_ok (k := z12) (fn := Tryz.f93) (W := []) (H := [zb6]) Tryz.func93 zh9 ⟨y3c, trivial⟩ rfl rfl (fun av x => by kernel_rfl)
def y1m (l0_1 : List Int) : Option (List Int) := some l0_1
def z0h (t : GTask) (data : List Int) (p0_0 : List GFlow) (p0_1 : Int) (kx0_0 : List Int → Option (List Int)) : Nat → Int → List Int → Option (List Int)
  | 0, _, _ => none
  | n0 + 1, s0_0, l0_1 => if decide (s0_0 < p0_1) = true then ((getI p0_0 s0_0).bind fun x2 => ((z83 x2.if_ data).bind fun x3 => (if x3 = true then (if decide (t.split = 2) = true then (if decide (0 < (l0_1.length : Int)) = true then (gd (ok64 (s0_0 + 1)) ((z0h t data p0_0 p0_1 kx0_0 n0) (s0_0 + 1) l0_1)) else (if decide (t.split = 3) = true then (gd (ok64 ((t.out.length : Int) - 1)) (if decide (s0_0 = ((t.out.length : Int) - 1)) = true then (if decide (0 < (l0_1.length : Int)) = true then (gd (ok64 (s0_0 + 1)) ((z0h t data p0_0 p0_1 kx0_0 n0) (s0_0 + 1) l0_1)) else (gd (l0_1.length + [x2.to].length ≤ SMALL) (gd (ok64 (s0_0 + 1)) ((z0h t data p0_0 p0_1 kx0_0 n0) (s0_0 + 1) (l0_1 ++ [x2.to]))))) else (gd (l0_1.length + [x2.to].length ≤ SMALL) (gd (ok64 (s0_0 + 1)) ((z0h t data p0_0 p0_1 kx0_0 n0) (s0_0 + 1) (l0_1 ++ [x2.to])))))) else (gd (l0_1.length + [x2.to].length ≤ SMALL) (gd (ok64 (s0_0 + 1)) ((z0h t data p0_0 p0_1 kx0_0 n0) (s0_0 + 1) (l0_1 ++ [x2.to])))))) else (if decide (t.split = 3) = true then (gd (ok64 ((t.out.length : Int) - 1)) (if decide (s0_0 = ((t.out.length : Int) - 1)) = true then (if decide (0 < (l0_1.length : Int)) = true then (gd (ok64 (s0_0 + 1)) ((z0h t data p0_0 p0_1 kx0_0 n0) (s0_0 + 1) l0_1)) else (gd (l0_1.length + [x2.to].length ≤ SMALL) (gd (ok64 (s0_0 + 1)) ((z0h t data p0_0 p0_1 kx0_0 n0) (s0_0 + 1) (l0_1 ++ [x2.to]))))) else (gd (l0_1.length + [x2.to].length ≤ SMALL) (gd (ok64 (s0_0 + 1)) ((z0h t data p0_0 p0_1 kx0_0 n0) (s0_0 + 1) (l0_1 ++ [x2.to])))))) else (gd (l0_1.length + [x2.to].length ≤ SMALL) (gd (ok64 (s0_0 + 1)) ((z0h t data p0_0 p0_1 kx0_0 n0) (s0_0 + 1) (l0_1 ++ [x2.to])))))) else (gd (ok64 (s0_0 + 1)) ((z0h t data p0_0 p0_1 kx0_0 n0) (s0_0 + 1) l0_1))))) else (kx0_0 l0_1)
def zi9 (t : GTask) (data : List Int) : Option (List Int) := z0h t data t.out (t.out.length : Int) y1m FUEL 0 ([] : List Int)
def z47 : Con := ⟨173, [.v (.s .task) false, .v (.sl .I) false], [((.sl .I), true)], [], fun x => zi9 x.1 x.2.1⟩
def w2d : Fs := ⟨[zg2], [], []⟩
theorem y83 : w2d.Ok Tryz.prog := (fsK yi0 fs0)
def y49 : Tmpl := ⟨[(1, .c (.s .I)), (2, .c (.bx 2 0)), (5, .c (.ref 500005)), (9, .c (.s (.s .flow))), (10, .c .i), (11, .c .i)], [(2, .boxT (.s .task)), (500005, .arr .I true)]⟩
def y2k : Tmpl := ⟨[(5, .c (.ref 500005))], [(500005, .arr .I true)]⟩
def yl5 (av : AV) (x : HP z47.ps) (n : Nat) (v : y49.den) (K : Ks (CR z47)) : Option (CR z47) := z0h v.2.1 v.1.1 v.1.2.2.2.1 v.1.2.2.2.2.1 (fun l0_1 => y2k.at none (((), ()), (l0_1, ())) (K (.exit 0))) n v.1.2.2.2.2.2.1 v.2.2.1
def y3s (av : AV) (x : HP z47.ps) : Hdl (CR z47) := hnd [.e 5 500005 .I] y49 (yl5 av x)
theorem yq0 : LP z47 Tryz.f173 [0] y3s := lp_ok (W := []) (H := []) (xs := [y2k]) y83 trivial rfl (fun av x v K => by kernel_rfl) (fun av x n v K => by kernel_rfl)
theorem w3g : z47.Ok Tryz.prog := fn_ok (k := z47) (fn := Tryz.f173) (W := []) (H := [y3s]) Tryz.func173 y83 ⟨yq0, trivial⟩ rfl rfl (fun av x => by kernel_rfl)
def z6a (n : GNet) (l1_1 : List Int) : Option ((List Int) × Bool) := (z30 n l1_1).bind fun x21 => (if x21 = true then (some (l1_1, true)) else (some ([], false)))
def z3n (x14 : (List Int)) (p1_0 : Int) (kx1_0 : List Int → Option ((List Int) × Bool)) : Nat → Int → List Int → Option ((List Int) × Bool)
  | 0, _, _ => none
  | n1 + 1, s1_0, l1_1 => if decide (s1_0 < p1_0) = true then ((getI x14 s1_0).bind fun x16 => ((getI l1_1 x16).bind fun x17 => (gd (ok64 (x17 + 1)) ((getI l1_1 x16).bind fun x19 => (gd (ok64 (s1_0 + 1)) ((z3n x14 p1_0 kx1_0 n1) (s1_0 + 1) (l1_1.set x16.toNat (x17 + 1)))))))) else (kx1_0 l1_1)
def z69 (n : GNet) (t : Int) (data : List Int) (l0_1 : List Int) : Option ((List Int) × Bool) := (getI n.tasks t).bind fun x13 => ((zi9 x13 data).bind fun x14 => (z3n x14 (x14.length : Int) (z6a n) FUEL 0 l0_1))
def z3m (p0_0 : List Int) (p0_1 : Int) (kx0_0 : List Int → Option ((List Int) × Bool)) : Nat → Int → List Int → Option ((List Int) × Bool)
  | 0, _, _ => none
  | n0 + 1, s0_0, l0_1 => if decide (s0_0 < p0_1) = true then ((getI p0_0 s0_0).bind fun x10 => ((getI l0_1 x10).bind fun x11 => (gd (ok64 (s0_0 + 1)) ((z3m p0_0 p0_1 kx0_0 n0) (s0_0 + 1) (l0_1.set x10.toNat 0))))) else (kx0_0 l0_1)
def z5l (n : GNet) (marks : List Int) (t : Int) (data : List Int) : Option ((List Int) × Bool) := (z5x n marks).bind fun x1 => (if x1 = true then ((z0g n t).bind fun x3 => (if x3 = true then ((z5w data).bind fun x5 => (if x5 = true then ((z3c marks).bind fun x7 => ((getI n.tasks t).bind fun x8 => (z3m x8.clear (x8.clear.length : Int) (z69 n t data) FUEL 0 x7))) else (some ([], false)))) else (some ([], false)))) else (some ([], false)))
def z0n : Con := ⟨115, [.v (.s .net) false, .v (.sl .I) false, .v .I false, .v (.sl .I) false], [((.sl .I), true), (.B, true)], [], fun x => z5l x.1 x.2.1 x.2.2.1 x.2.2.2.1⟩
def ym8 : Fs := ⟨[z7b, z19, z7a, z5e, z47, z46], [], []⟩
theorem zl4 : ym8.Ok Tryz.prog := (fsK zj7 (fsK z32 (fsK zj6 (fsK zb1 (fsK w3g (fsK za2 fs0))))))
def zz3 : Tmpl := ⟨[(2, .c .i), (3, .c (.s .I)), (4, .c (.bx 4 0)), (10, .c (.ref 31)), (37, .c (.s .I)), (38, .c .i), (39, .c .i)], [(4, .boxT (.s .net)), (31, .arr .I true)]⟩
def zr9 : Tmpl := ⟨[(2, .c .i), (3, .c (.s .I)), (4, .c (.bx 4 0)), (10, .c (.ref 31))], [(4, .boxT (.s .net)), (31, .arr .I true)]⟩
def y8u (av : AV) (x : HP z0n.ps) (n : Nat) (v : zz3.den) (K : Ks (CR z0n)) : Option (CR z0n) := z3m v.1.2.2.2.2.1 v.1.2.2.2.2.2.1 (fun l0_1 => zr9.at none ((v.1.1, v.1.2.1, (), (), ()), (v.2.1, l0_1, ())) (K (.exit 0))) n v.1.2.2.2.2.2.2.1 v.2.2.1
def zw8 (av : AV) (x : HP z0n.ps) : Hdl (CR z0n) := hnd [] zz3 (y8u av x)
theorem y9i : LP z0n Tryz.f115 [0] zw8 := lp_ok (W := []) (H := []) (xs := [zr9]) zl4 trivial rfl (fun av x v K => by kernel_rfl) (fun av x n v K => by kernel_rfl)
def zz4 : Tmpl := ⟨[(4, .c (.bx 4 0)), (10, .c (.ref 31)), (53, .c (.ref 53)), (54, .c .i), (55, .c .i)], [(4, .boxT (.s .net)), (31, .arr .I true), (53, .arr .I true)]⟩
def zs0 : Tmpl := ⟨[(4, .c (.bx 4 0)), (10, .c (.ref 31))], [(4, .boxT (.s .net)), (31, .arr .I true)]⟩
def y8v (av : AV) (x : HP z0n.ps) (n : Nat) (v : zz4.den) (K : Ks (CR z0n)) : Option (CR z0n) := z3n v.2.2.2.1 v.1.2.2.2.1 (fun l1_1 => zs0.at none (((), (), ()), (v.2.1, l1_1, ())) (K (.exit 2))) n v.1.2.2.2.2.1 v.2.2.1
def zw9 (av : AV) (x : HP z0n.ps) : Hdl (CR z0n) := hnd [] zz4 (y8v av x)
theorem y9j : LP z0n Tryz.f115 [1] zw9 := lp_ok (W := []) (H := []) (xs := [zs0]) zl4 trivial rfl (fun av x v K => by kernel_rfl) (fun av x n v K => by kernel_rfl)
theorem yr2 : z0n.Ok Tryz.prog := fn_ok (k := z0n) (fn := Tryz.f115) (W := []) (H := [zw8, zw9]) Tryz.func115 zl4 ⟨y9i, y9j, trivial⟩ rfl rfl (fun av x => by kernel_rfl)
def zm5 (n : Int) : Option Bool := (z0t n 0 7).bind fun x1 => (some (!x1))
def zn1 : FCon := ⟨119, .I, [], fun z c => zm5 z ⟩
def yn0 : Fs := ⟨[z2d], [], []⟩
theorem yp1 : yn0.Ok Tryz.prog := (fsK z3e fs0)
theorem yr4 : zn1.Ok Tryz.prog := FCon.ok (fn_ok (k := zn1.con) (fn := Tryz.f119) (W := []) (H := []) Tryz.func119 yp1 trivial rfl rfl (fun av x => by kernel_rfl))
def z7f (people : List Int) : Option Bool := (z0t (people.length : Int) 1 4).bind fun x1 => (if x1 = true then ((z1o people (fun z => zm5 z )).bind fun x3 => (some (!x3))) else (some false))
def z9y : Con := ⟨50, [.v (.sl .I) false], [(.B, true)], [], fun x => z7f x.1⟩
def w2c : Fs := ⟨[z2d, z3b], [zn1], []⟩
theorem w2w : w2c.Ok Tryz.prog := (fsK z3e (fsK z5h (fsF yr4 fs0)))
theorem y1w : z9y.Ok Tryz.prog := fn_ok (k := z9y) (fn := Tryz.f50) (W := []) (H := []) Tryz.func50 w2w trivial rfl rfl (fun av x => by kernel_rfl)
def zd8 (people : List Int) (who : Int) (role : Int) : Option Bool := (z7f people).bind fun x1 => (if x1 = true then ((z0t who 1 (people.length : Int)).bind fun x3 => (if x3 = true then ((z86 role).bind fun x5 => (if x5 = true then (gd (ok64 (who - 1)) ((getI people (who - 1)).bind fun x8 => (gd (ok64 (role - 1)) (gd ((0 : Int) ≤ (role - 1) ∧ (role - 1) ≤ (63 : Int)) (some (decide ((andI (shrI x8 (role - 1)) 1) = 1))))))) else (some false))) else (some false))) else (some false))
def zu6 : Con := ⟨80, [.v (.sl .I) false, .v .I false, .v .I false], [(.B, true)], [], fun x => zd8 x.1 x.2.1 x.2.2.1⟩
def yx1 : Fs := ⟨[z9y, z2d, zd1], [], []⟩
theorem yz4 : yx1.Ok Tryz.prog := (fsK y1w (fsK z3e (fsK y5z fs0)))
theorem w0p : zu6.Ok Tryz.prog := fn_ok (k := zu6) (fn := Tryz.f80) (W := []) (H := []) Tryz.func80 yz4 trivial rfl rfl (fun av x => by kernel_rfl)
def zd7 (did : List GDid) (who : Int) (task : Int) : Option Bool := (zg4 did (GDid.mk task who)).bind fun x1 => (some x1)
def zu5 : Con := ⟨109, [.v (.sl (.s .did)) false, .v .I false, .v .I false], [(.B, true)], [], fun x => zd7 x.1 x.2.1 x.2.2.1⟩
def yx0 : Fs := ⟨[zg0], [], []⟩
theorem yz3 : yx0.Ok Tryz.prog := (fsK yh7 fs0)
theorem w0o : zu5.Ok Tryz.prog := fn_ok (k := zu5) (fn := Tryz.f109) (W := []) (H := []) Tryz.func109 yz3 trivial rfl rfl (fun av x => by kernel_rfl)
def z9f (l0_1 : List Int) : Option (List Int) := some l0_1
def z2f (p : Int → Option Bool) (p0_0 : Int) (kx0_0 : List Int → Option (List Int)) : Nat → Int → List Int → Option (List Int)
  | 0, _, _ => none
  | n0 + 1, s0_0, l0_1 => if decide (s0_0 < p0_0) = true then (gd (ok64 (s0_0 + 1)) ((p (s0_0 + 1)).bind fun x5 => (if x5 = true then (gd (ok64 (s0_0 + 1)) (gd (l0_1.length + [(s0_0 + 1)].length ≤ SMALL) (gd (ok64 (s0_0 + 1)) ((z2f p p0_0 kx0_0 n0) (s0_0 + 1) (l0_1 ++ [(s0_0 + 1)]))))) else (gd (ok64 (s0_0 + 1)) ((z2f p p0_0 kx0_0 n0) (s0_0 + 1) l0_1))))) else (kx0_0 l0_1)
def zm6 (people : List Int) (p : Int → Option Bool) : Option (List Int) := (z7f people).bind fun x1 => (if x1 = true then (z2f p (people.length : Int) z9f FUEL 0 ([] : List Int)) else (some []))
def z1u : Con := ⟨105, [.v (.sl .I) false, .fn .I], [((.sl .I), true)], [], fun x => zm6 x.1 x.2.1⟩
def yn3 : Fs := ⟨[z9y], [], []⟩
theorem y3i : yn3.Ok Tryz.prog := (fsK y1w fs0)
def zz6 : Tmpl := ⟨[(1, .c .fp), (5, .c (.ref 500005)), (11, .c .i), (12, .c .i)], [(500005, .arr .I true)]⟩
def zs2 : Tmpl := ⟨[(5, .c (.ref 500005))], [(500005, .arr .I true)]⟩
def y8x (av : AV) (x : HP z1u.ps) (n : Nat) (v : zz6.den) (K : Ks (CR z1u)) : Option (CR z1u) := z2f x.2.1 v.1.2.2.1 (fun l0_1 => zs2.at (fpOf z1u.ps x av) (((), ()), (l0_1, ())) (K (.exit 0))) n v.1.2.2.2.1 v.2.1
def zx1 (av : AV) (x : HP z1u.ps) : Hdl (CR z1u) := hnd [.e 5 500005 .I] zz6 (y8x av x)
theorem y9l : LP z1u Tryz.f105 [0] zx1 := lp_ok (W := []) (H := []) (xs := [zs2]) y3i trivial rfl (fun av x v K => by kernel_rfl) (fun av x n v K => by kernel_rfl)
theorem yr6 : z1u.Ok Tryz.prog := fn_ok (k := z1u) (fn := Tryz.f105) (W := []) (H := [zx1]) Tryz.func105 y3i ⟨y9l, trivial⟩ rfl rfl (fun av x => by kernel_rfl)
def z9e (b : GItem) (task : GTask) (who : Int) : Option Bool := if decide (b.task = task.apart) = true then (some (decide (b.who = who))) else (some false)
def z9h : FCon := ⟨108, (.s .item), [(.s .task), .I], fun z c => z9e z c.1 c.2.1⟩
def y6z : Fs := ⟨[], [], []⟩
theorem y75 : y6z.Ok Tryz.prog := fs0
theorem y7o : z9h.Ok Tryz.prog := FCon.ok (fn_ok (k := z9h.con) (fn := Tryz.f108) (W := []) (H := []) Tryz.func108 y75 trivial rfl rfl (fun av x => by kernel_rfl))
def z5y (who : Int) (busy : List GItem) (task : GTask) (people : List Int) (did : List GDid) : Option Bool := (z4h busy (fun z => z9e z task who)).bind fun x1 => ((zd8 people who task.role).bind fun x2 => (if x2 = true then (if x1 = true then (some false) else ((zd7 did who task.apart).bind fun x5 => (some (!x5)))) else (some false)))
def zg9 : FCon := ⟨106, .I, [(.sl (.s .item)), (.s .task), (.sl .I), (.sl (.s .did))], fun z c => z5y z c.1 c.2.1 c.2.2.1 c.2.2.2.1⟩
def yd5 : Fs := ⟨[z6l, zu6, zu5], [z9h], []⟩
theorem yf2 : yd5.Ok Tryz.prog := (fsK y3d (fsK w0p (fsK w0o (fsF y7o fs0))))
theorem yi1 : zg9.Ok Tryz.prog := FCon.ok (fn_ok (k := zg9.con) (fn := Tryz.f106) (W := []) (H := []) Tryz.func106 yf2 trivial rfl rfl (fun av x => by kernel_rfl))
def z85 (n : GNet) (people : List Int) (did : List GDid) (busy : List GItem) (t : Int) : Option (List Int) := (za1 n).bind fun x1 => (if x1 = true then ((z0g n t).bind fun x3 => (if x3 = true then ((getI n.tasks t).bind fun x5 => ((zm6 people (fun z => z5y z busy x5 people did)).bind fun x6 => (some x6))) else (some []))) else (some []))
def zd0 : Con := ⟨35, [.v (.s .net) false, .v (.sl .I) false, .v (.sl (.s .did)) false, .v (.sl (.s .item)) false, .v .I false], [((.sl .I), true)], [], fun x => z85 x.1 x.2.1 x.2.2.1 x.2.2.2.1 x.2.2.2.2.1⟩
def yx2 : Fs := ⟨[zi4, z19, z1u], [zg9], []⟩
theorem yz5 : yx2.Ok Tryz.prog := (fsK y8j (fsK z32 (fsK yr6 (fsF yi1 fs0))))
theorem y5y : zd0.Ok Tryz.prog := fn_ok (k := zd0) (fn := Tryz.f35) (W := []) (H := []) Tryz.func35 yz5 trivial rfl rfl (fun av x => by kernel_rfl)
def z7y (c : GCase) : Option Bool := if decide (c.state = 1) = true then ((getI c.marks 1).bind fun x16 => (some (decide (x16 = 0)))) else (if decide (c.state = 2) = true then (if decide ((c.busy.length : Int) = 0) = true then ((getI c.marks 1).bind fun x19 => (some ((decide (c.state = 2)) == (decide (0 < x19))))) else (some false)) else (if decide (c.state = 3) = true then (if decide ((c.busy.length : Int) = 0) = true then ((getI c.marks 1).bind fun x22 => (some ((decide (c.state = 2)) == (decide (0 < x22))))) else (some false)) else (some false)))
def z4n (n : GNet) (p0_0 : List GDid) (p0_1 : Int) (kx0_0 : Option Bool) : Nat → Int → Option Bool
  | 0, _ => none
  | n0 + 1, s0_0 => if decide (s0_0 < p0_1) = true then ((getI p0_0 s0_0).bind fun x9 => ((z0g n x9.task).bind fun x10 => (if x10 = true then ((z5z x9.who).bind fun x12 => (if x12 = true then (gd (ok64 (s0_0 + 1)) ((z4n n p0_0 p0_1 kx0_0 n0) (s0_0 + 1))) else (some false))) else (some false)))) else (kx0_0)
def zi8 (n : GNet) (c : GCase) : Option Bool := (z5x n c.marks).bind fun x1 => (if x1 = true then ((z27 n c.busy).bind fun x3 => (if x3 = true then ((z5w c.data).bind fun x5 => (if x5 = true then (if decide (60 < (c.did.length : Int)) = true then (some false) else (z4n n c.did (c.did.length : Int) (z7y c) FUEL 0)) else (some false))) else (some false))) else (some false))
def z45 : Con := ⟨30, [.v (.s .net) false, .v (.s .kase) false], [(.B, true)], [], fun x => zi8 x.1 x.2.1⟩
def w27 : Fs := ⟨[z7b, z0f, z7a, z19, z7w], [], []⟩
theorem y82 : w27.Ok Tryz.prog := (fsK zj7 (fsK z6n (fsK zj6 (fsK z32 (fsK y1x fs0)))))
def y48 : Tmpl := ⟨[(2, .c (.bx 2 0)), (3, .c (.bx 3 0)), (32, .c (.s (.s .did))), (33, .c .i), (34, .c .i)], [(2, .boxT (.s .net)), (3, .boxT (.s .kase))]⟩
def y2j : Tmpl := ⟨[(3, .c (.bx 3 0))], [(3, .boxT (.s .kase))]⟩
def yl4 (av : AV) (x : HP z45.ps) (n : Nat) (v : y48.den) (K : Ks (CR z45)) : Option (CR z45) := z4n v.2.1 v.1.2.2.1 v.1.2.2.2.1 (y2j.at none (((), ()), (v.2.2.1, ())) (K (.exit 0))) n v.1.2.2.2.2.1
def y3r (av : AV) (x : HP z45.ps) : Hdl (CR z45) := hnd [] y48 (yl4 av x)
theorem yp9 : LP z45 Tryz.f30 [0] y3r := lp_ok (W := []) (H := []) (xs := [y2j]) y82 trivial rfl (fun av x v K => by kernel_rfl) (fun av x n v K => by kernel_rfl)
theorem w3f : z45.Ok Tryz.prog := fn_ok (k := z45) (fn := Tryz.f30) (W := []) (H := [y3r]) Tryz.func30 y82 ⟨yp9, trivial⟩ rfl rfl (fun av x => by kernel_rfl)
def z4g (n : GNet) (c : GCase) : Option Bool := (zi8 n c).bind fun x1 => (if x1 = true then (some (decide (c.state = 1))) else (some false))
def z5j : Con := ⟨85, [.v (.s .net) false, .v (.s .kase) false], [(.B, true)], [], fun x => z4g x.1 x.2.1⟩
def yn4 : Fs := ⟨[z45], [], []⟩
theorem yp3 : yn4.Ok Tryz.prog := (fsK w3f fs0)
theorem z9t : z5j.Ok Tryz.prog := fn_ok (k := z5j) (fn := Tryz.f85) (W := []) (H := []) Tryz.func85 yp3 trivial rfl rfl (fun av x => by kernel_rfl)
def z7z (n : GNet) (people : List Int) (c : GCase) (t : Int) (who : Int) : Option (GCase × Bool) := (z03 c).bind fun x1 => ((z4g n c).bind fun x2 => (if x2 = true then (if decide ((c.busy.length : Int) = 6) = true then (some (x1, false)) else ((zd6 n c.marks c.busy t).bind fun x5 => (if x5 = true then ((z85 n people c.did c.busy t).bind fun x7 => ((z7c x7 who).bind fun x8 => (if x8 = true then ((z5o n c.marks t).bind fun x10 => (gd (x1.busy.length + [(GItem.mk t who 0)].length ≤ SMALL) ((z03 (GCase.mk x1.state x10 (x1.busy ++ [(GItem.mk t who 0)]) x1.data x1.did)).bind fun x12 => (some (x12, true))))) else (some (x1, false))))) else (some (x1, false))))) else (some (x1, false))))
def zg1 : Con := ⟨27, [.v (.s .net) false, .v (.sl .I) false, .v (.s .kase) false, .v .I false, .v .I false], [((.s .kase), true), (.B, true)], [], fun x => z7z x.1 x.2.1 x.2.2.1 x.2.2.2.1 x.2.2.2.2.1⟩
def yd2 : Fs := ⟨[z24, z5j, zu4, zd0, z9x, z12], [], []⟩
theorem yf0 : yd2.Ok Tryz.prog := (fsK z4k (fsK z9t (fsK w0n (fsK y5y (fsK y1t (fsK y5x fs0))))))
theorem yh8 : zg1.Ok Tryz.prog := fn_ok (k := zg1) (fn := Tryz.f27) (W := []) (H := []) Tryz.func27 yf0 trivial rfl rfl (fun av x => by kernel_rfl)
def z9l (n : GNet) (c : GCase) (k : Int) (v : Int) (num : Int) : Option (GCase × Bool) := (z03 c).bind fun x1 => ((z4g n c).bind fun x2 => (if x2 = true then (gd (ok64 ((c.busy.length : Int) - 1)) ((z0t k 0 ((c.busy.length : Int) - 1)).bind fun x5 => (if x5 = true then ((z0t v (-1) 2).bind fun x7 => (if x7 = true then ((z5m num).bind fun x9 => (if x9 = true then (if decide ((c.did.length : Int) = 60) = true then (some (x1, false)) else (if decide (0 ≤ v) = true then ((getI x1.data v).bind fun x13 => ((getI x1.busy k).bind fun x14 => (gd (ok64 (x14.did + 1)) ((getI n.tasks ((GItem.mk x14.task x14.who (x14.did + 1)).task)).bind fun x16 => (if decide ((GItem.mk x14.task x14.who (x14.did + 1)).did < x16.need) = true then (some ((GCase.mk x1.state x1.marks (x1.busy.set k.toNat (GItem.mk x14.task x14.who (x14.did + 1))) (x1.data.set v.toNat num) x1.did), true)) else ((z5l n c.marks ((GItem.mk x14.task x14.who (x14.did + 1)).task) (x1.data.set v.toNat num)).bind fun x18 => (if x18.2 = true then (gd (x1.did.length + [(GDid.mk ((GItem.mk x14.task x14.who (x14.did + 1)).task) ((GItem.mk x14.task x14.who (x14.did + 1)).who))].length ≤ SMALL) (gd (ok64 (k + 1)) ((z4f (x1.busy.set k.toNat (GItem.mk x14.task x14.who (x14.did + 1))) k (k + 1)).bind fun x22 => ((getI x18.1 1).bind fun x23 => (if decide (0 < x23) = true then ((z03 (GCase.mk 2 x18.1 [] (x1.data.set v.toNat num) (x1.did ++ [(GDid.mk ((GItem.mk x14.task x14.who (x14.did + 1)).task) ((GItem.mk x14.task x14.who (x14.did + 1)).who))]))).bind fun x25 => (some (x25, true))) else ((z03 (GCase.mk x1.state x18.1 x22 (x1.data.set v.toNat num) (x1.did ++ [(GDid.mk ((GItem.mk x14.task x14.who (x14.did + 1)).task) ((GItem.mk x14.task x14.who (x14.did + 1)).who))]))).bind fun x26 => (some (x26, true)))))))) else ((z03 c).bind fun x27 => (some (x27, false)))))))))) else ((getI x1.busy k).bind fun x28 => (gd (ok64 (x28.did + 1)) ((getI n.tasks ((GItem.mk x28.task x28.who (x28.did + 1)).task)).bind fun x30 => (if decide ((GItem.mk x28.task x28.who (x28.did + 1)).did < x30.need) = true then (some ((GCase.mk x1.state x1.marks (x1.busy.set k.toNat (GItem.mk x28.task x28.who (x28.did + 1))) x1.data x1.did), true)) else ((z5l n c.marks ((GItem.mk x28.task x28.who (x28.did + 1)).task) x1.data).bind fun x32 => (if x32.2 = true then (gd (x1.did.length + [(GDid.mk ((GItem.mk x28.task x28.who (x28.did + 1)).task) ((GItem.mk x28.task x28.who (x28.did + 1)).who))].length ≤ SMALL) (gd (ok64 (k + 1)) ((z4f (x1.busy.set k.toNat (GItem.mk x28.task x28.who (x28.did + 1))) k (k + 1)).bind fun x36 => ((getI x32.1 1).bind fun x37 => (if decide (0 < x37) = true then ((z03 (GCase.mk 2 x32.1 [] x1.data (x1.did ++ [(GDid.mk ((GItem.mk x28.task x28.who (x28.did + 1)).task) ((GItem.mk x28.task x28.who (x28.did + 1)).who))]))).bind fun x39 => (some (x39, true))) else ((z03 (GCase.mk x1.state x32.1 x36 x1.data (x1.did ++ [(GDid.mk ((GItem.mk x28.task x28.who (x28.did + 1)).task) ((GItem.mk x28.task x28.who (x28.did + 1)).who))]))).bind fun x40 => (some (x40, true)))))))) else ((z03 c).bind fun x41 => (some (x41, false))))))))))) else (some (x1, false)))) else (some (x1, false)))) else (some (x1, false))))) else (some (x1, false))))
def zl8 : Con := ⟨45, [.v (.s .net) false, .v (.s .kase) false, .v .I false, .v .I false, .v .I false], [((.s .kase), true), (.B, true)], [], fun x => z9l x.1 x.2.1 x.2.2.1 x.2.2.2.1 x.2.2.2.2.1⟩
def ym5 : Fs := ⟨[z24, z5j, z2d, z6s, z0n, y41], [], []⟩
theorem yo8 : ym5.Ok Tryz.prog := (fsK z4k (fsK z9t (fsK z3e (fsK zm8 (fsK yr2 (fsK yq9 fs0))))))
theorem yr0 : zl8.Ok Tryz.prog := fn_ok (k := zl8) (fn := Tryz.f45) (W := []) (H := []) Tryz.func45 yo8 trivial rfl rfl (fun av x => by kernel_rfl)
def z73 (s0_0 : Int) (s0_1 : Int) (bk0 : Int → Int → List GDid → Option (List GDid)) (l1_1 : List GDid) : Option (List GDid) := gd (ok64 (s0_1 + 1)) (bk0 s0_0 (s0_1 + 1) l1_1)
def z3w (x6 : Int) (x7 : (List Int)) (p1_0 : Int) (kx1_0 : List GDid → Option (List GDid)) : Nat → Int → List GDid → Option (List GDid)
  | 0, _, _ => none
  | n1 + 1, s1_0, l1_1 => if decide (s1_0 < p1_0) = true then ((getI x7 s1_0).bind fun x9 => (gd (l1_1.length + [(GDid.mk x6 x9)].length ≤ SMALL) (gd (ok64 (s1_0 + 1)) ((z3w x6 x7 p1_0 kx1_0 n1) (s1_0 + 1) (l1_1 ++ [(GDid.mk x6 x9)]))))) else (kx1_0 l1_1)
def z5f (l0_2 : List GDid) : Option (List GDid) := some l0_2
def z2b (n : GNet) (people : List Int) (c : GCase) (x4 : (List Int)) (kx0_0 : List GDid → Option (List GDid)) : Nat → Int → Int → List GDid → Option (List GDid)
  | 0, _, _, _ => none
  | n0 + 1, s0_0, s0_1, l0_2 => if decide (s0_1 < s0_0) = true then ((getI x4 s0_1).bind fun x6 => ((z85 n people c.did c.busy x6).bind fun x7 => (z3w x6 x7 (x7.length : Int) (z73 s0_0 s0_1 (z2b n people c x4 kx0_0 n0)) FUEL 0 l0_2))) else (kx0_0 l0_2)
def zd5 (n : GNet) (people : List Int) (c : GCase) : Option (List GDid) := (z4g n c).bind fun x1 => (if x1 = true then (if decide ((c.busy.length : Int) = 6) = true then (some []) else ((z81 n c.marks c.busy).bind fun x4 => (z2b n people c x4 z5f FUEL (x4.length : Int) 0 ([] : List GDid)))) else (some []))
def z0v : Con := ⟨111, [.v (.s .net) false, .v (.sl .I) false, .v (.s .kase) false], [((.sl (.s .did)), true)], [], fun x => zd5 x.1 x.2.1 x.2.2.1⟩
def yw7 : Fs := ⟨[z5j, z1x, zd0], [], []⟩
theorem zt9 : yw7.Ok Tryz.prog := (fsK z9t (fsK yh9 (fsK y5y fs0)))
def zq8 : Tmpl := ⟨[(1, .c (.s .I)), (3, .c (.bx 3 0)), (5, .c (.bx 5 0)), (7, .c (.ref 500007)), (9, .c .i), (27, .c (.ref 27)), (28, .c .i), (29, .c .i), (40, .c (.ref 40)), (41, .c .i), (42, .c .i)], [(3, .boxT (.s .net)), (5, .boxT (.s .kase)), (500007, .arr (.s .did) true), (27, .arr .I true), (40, .arr .I true)]⟩
def zk2 : Tmpl := ⟨[(1, .c (.s .I)), (3, .c (.bx 3 0)), (5, .c (.bx 5 0)), (7, .c (.ref 500007)), (27, .c (.ref 27)), (28, .c .i), (29, .c .i)], [(3, .boxT (.s .net)), (5, .boxT (.s .kase)), (500007, .arr (.s .did) true), (27, .arr .I true)]⟩
def y6k (av : AV) (x : HP z0v.ps) (n : Nat) (v : zq8.den) (K : Ks (CR z0v)) : Option (CR z0v) := z3w v.1.2.2.2.2.1 v.2.2.2.2.2.1 v.1.2.2.2.2.2.2.2.2.2.1 (fun l1_1 => zk2.at none ((v.1.1, (), (), (), (), v.1.2.2.2.2.2.2.1, v.1.2.2.2.2.2.2.2.1, ()), (v.2.1, v.2.2.1, l1_1, v.2.2.2.2.1, ())) (K (.exit 2))) n v.1.2.2.2.2.2.2.2.2.2.2.1 v.2.2.2.1
def zo2 (av : AV) (x : HP z0v.ps) : Hdl (CR z0v) := hnd [] zq8 (y6k av x)
theorem y7a : LP z0v Tryz.f111 [0, 0] zo2 := lp_ok (W := []) (H := []) (xs := [zk2]) zt9 trivial rfl (fun av x v K => by kernel_rfl) (fun av x n v K => by kernel_rfl)
def y28 : Tmpl := ⟨[(1, .c (.s .I)), (3, .c (.bx 3 0)), (5, .c (.bx 5 0)), (7, .c (.ref 500007)), (27, .c (.ref 27)), (28, .c .i), (29, .c .i)], [(3, .boxT (.s .net)), (5, .boxT (.s .kase)), (500007, .arr (.s .did) true), (27, .arr .I true)]⟩
def y08 : Tmpl := ⟨[(7, .c (.ref 500007))], [(500007, .arr (.s .did) true)]⟩
def yb5 (av : AV) (x : HP z0v.ps) (n : Nat) (v : y28.den) (K : Ks (CR z0v)) : Option (CR z0v) := z2b v.2.1 v.1.1 v.2.2.1 v.2.2.2.2.1 (fun l0_2 => y08.at none (((), ()), (l0_2, ())) (K (.exit 0))) n v.1.2.2.2.2.2.1 v.1.2.2.2.2.2.2.1 v.2.2.2.1
def y11 (av : AV) (x : HP z0v.ps) : Hdl (CR z0v) := hnd [.e 7 500007 (.s .did)] y28 (yb5 av x)
theorem yg5 : LP z0v Tryz.f111 [0] y11 := lp_ok (W := []) (H := [zo2]) (xs := [y08]) zt9 ⟨y7a, trivial⟩ rfl (fun av x v K => by kernel_rfl) (fun av x n v K => by kernel_rfl)
theorem w0l : z0v.Ok Tryz.prog := fn_ok (k := z0v) (fn := Tryz.f111) (W := []) (H := [y11]) Tryz.func111 zt9 ⟨yg5, trivial⟩ rfl rfl (fun av x => by kernel_rfl)
def zp3 (c : GCase) : Option (GCase × Bool) := (z03 c).bind fun x11 => (some (x11, false))
def z9d (n : GNet) (people : List Int) (c : GCase) (x7 : (List GDid)) (p0_0 : Int) (p0_1 : Int) (kx0_0 : Option (GCase × Bool)) : Nat → Option (GCase × Bool)
  | 0 => none
  | n0 + 1 => if decide (p0_1 < p0_0) = true then ((getI x7 p0_1).bind fun x9 => ((z7z n people c x9.task x9.who).bind fun x10 => (some (x10.1, x10.2)))) else (kx0_0)
def z5k (n : GNet) (people : List Int) (c : GCase) : Option (GCase × Bool) := (z4g n c).bind fun x1 => (if x1 = true then ((z7f people).bind fun x3 => (if x3 = true then (if decide (0 < (c.busy.length : Int)) = true then ((z9l n c 0 (-1) 0).bind fun x6 => (some (x6.1, x6.2))) else ((zd5 n people c).bind fun x7 => (z9d n people c x7 (x7.length : Int) 0 (zp3 c) FUEL ))) else ((z03 c).bind fun x12 => (some (x12, false))))) else ((z03 c).bind fun x13 => (some (x13, false))))
def z1t : Con := ⟨42, [.v (.s .net) false, .v (.sl .I) false, .v (.s .kase) false], [((.s .kase), true), (.B, true)], [], fun x => z5k x.1 x.2.1 x.2.2.1⟩
def ym7 : Fs := ⟨[z5j, z9y, zl8, z0v, zg1, z24], [], []⟩
theorem y3g : ym7.Ok Tryz.prog := (fsK z9t (fsK y1w (fsK yr0 (fsK w0l (fsK yh8 (fsK z4k fs0))))))
def zz2 : Tmpl := ⟨[(1, .c (.s .I)), (3, .c (.bx 3 0)), (5, .c (.bx 5 0)), (6, .c (.bx 6 0)), (33, .c (.ref 33)), (34, .c .i), (35, .c .i)], [(3, .boxT (.s .net)), (5, .boxT (.s .kase)), (6, .box [.i, .nl, .nl, .nl, .nl]), (33, .arr (.s .did) true)]⟩
def zr8 : Tmpl := ⟨[(5, .c (.bx 5 0)), (6, .c (.bx 6 0))], [(5, .boxT (.s .kase)), (6, .box [.i, .nl, .nl, .nl, .nl])]⟩
def y8t (av : AV) (x : HP z1t.ps) (n : Nat) (v : zz2.den) (K : Ks (CR z1t)) : Option (CR z1t) := z9d v.2.1 v.1.1 v.2.2.1 v.2.2.2.2.1 v.1.2.2.2.2.2.1 v.1.2.2.2.2.2.2.1 (zr8.at none (((), (), ()), (v.2.2.1, (v.2.2.2.1.1, (), (), (), (), ()), ())) (K (.exit 0))) n
def zw7 (av : AV) (x : HP z1t.ps) : Hdl (CR z1t) := hnd [] zz2 (y8t av x)
theorem y9h : LP z1t Tryz.f42 [0] zw7 := lp_ok (W := []) (H := []) (xs := [zr8]) y3g trivial rfl (fun av x v K => by kernel_rfl) (fun av x n v K => by kernel_rfl)
theorem y44 : z1t.Ok Tryz.prog := fn_ok (k := z1t) (fn := Tryz.f42) (W := []) (H := [zw7]) Tryz.func42 y3g ⟨y9h, trivial⟩ rfl rfl (fun av x => by kernel_rfl)
end
end Go.Am
