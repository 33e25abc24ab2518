/- Mirrors and contracts, printed. Own work. -/
import Derived.Test.YtgolgnbgomhknaaGreatNxD1
set_option maxRecDepth 100000
set_option maxHeartbeats 4000000
set_option linter.unusedVariables false
set_option linter.unusedSimpArgs false
namespace Go.Am
noncomputable section
open Go Go.Proofs
def z07 (n : Int) (low : Int) (high : Int) : Option Bool := if decide (low ≤ n) = true then (some (decide (n ≤ high))) else (some false)
def z0x : Con := ⟨90, [.v .I false, .v .I false, .v .I false], [(.B, true)], [], fun x => z07 x.1 x.2.1 x.2.2.1⟩
def w4m : Fs := ⟨[], [], []⟩
theorem w4o : w4m.Ok Tryz.prog := fs0
theorem z1d : z0x.Ok Tryz.prog := fn_ok (k := z0x) (fn := Tryz.f90) (W := []) (H := []) Tryz.func90 w4o trivial rfl rfl (fun av x => by kernel_rfl)
def y1o  : Option Bool := some true
def z4s (data : List Int) (kx0_0 : Option Bool) : Nat → Int → Option Bool
  | 0, _ => none
  | n0 + 1, s0_0 => if decide (s0_0 < (data.length : Int)) = true then ((getI data s0_0).bind fun x3 => ((z07 x3 (-99) 99).bind fun x4 => (if x4 = true then (gd (ok64 (s0_0 + 1)) ((z4s data kx0_0 n0) (s0_0 + 1))) else (some false)))) else (kx0_0)
def z51 (data : List Int) : Option Bool := if decide ((data.length : Int) = 3) = true then (z4s data y1o FUEL 0) else (some false)
def z1s : Con := ⟨89, [.v (.sl .I) false], [(.B, true)], [], fun x => z51 x.1⟩
def w27 : Fs := ⟨[z0x], [], []⟩
theorem y86 : w27.Ok Tryz.prog := (fsK z1d fs0)
def y4e : Tmpl := ⟨[(0, .c (.s .I)), (3, .c .i)], []⟩
def y2l : Tmpl := ⟨[], []⟩
def yl3 (av : AV) (x : HP z1s.ps) (n : Nat) (v : y4e.den) (K : Ks (CR z1s)) : Option (CR z1s) := z4s v.1.1 (y2l.at none ((), ()) (K (.exit 0))) n v.1.2.1
def y3w (av : AV) (x : HP z1s.ps) : Hdl (CR z1s) := hnd [] y4e (yl3 av x)
theorem yp9 : LP z1s Tryz.f89 [0] y3w := lp_ok (W := []) (H := []) (xs := [y2l]) y86 trivial rfl (fun av x v K => by kernel_rfl) (fun av x n v K => by kernel_rfl)
theorem za7 : z1s.Ok Tryz.prog := fn_ok (k := z1s) (fn := Tryz.f89) (W := []) (H := [y3w]) Tryz.func89 y86 ⟨yp9, trivial⟩ rfl rfl (fun av x => by kernel_rfl)
def ze5 (data : List Int) (k : Int) (n : Int) : Option (List Int) := (z51 data).bind fun x1 => (if x1 = true then ((z07 k 0 2).bind fun x3 => (if x3 = true then ((z07 n (-99) 99).bind fun x5 => (if x5 = true then (gd (([] : List Int).length + data.length ≤ SMALL) ((getI (([] : List Int) ++ data) k).bind fun x8 => (some ((([] : List Int) ++ data).set k.toNat n)))) else (gd (([] : List Int).length + data.length ≤ SMALL) (some (([] : List Int) ++ data))))) else (gd (([] : List Int).length + data.length ≤ SMALL) (some (([] : List Int) ++ data))))) else (gd (([] : List Int).length + data.length ≤ SMALL) (some (([] : List Int) ++ data))))
def zv4 : Con := ⟨171, [.v (.sl .I) false, .v .I false, .v .I false], [((.sl .I), true)], [], fun x => ze5 x.1 x.2.1 x.2.2.1⟩
def yx2 : Fs := ⟨[z1s, z0x], [], []⟩
theorem yz2 : yx2.Ok Tryz.prog := (fsK za7 (fsK z1d fs0))
theorem w0m : zv4.Ok Tryz.prog := fn_ok (k := zv4) (fn := Tryz.f171) (W := []) (H := []) Tryz.func171 yz2 trivial rfl rfl (fun av x => by kernel_rfl)
def z7i (e : GAsk) : Option Bool := if decide (e.op = 0) = true then (some (decide ([e.op, e.var, e.k] = [0, 0, 0]))) else ((z07 e.op 1 3).bind fun x2 => (if x2 = true then ((z07 e.var 0 2).bind fun x4 => (if x4 = true then ((z07 e.k (-99) 99).bind fun x6 => (some x6)) else (some false))) else (some false)))
def zi6 : Con := ⟨138, [.v (.s .ask) false], [(.B, true)], [], fun x => z7i x.1⟩
def w28 : Fs := ⟨[z0x], [], []⟩
theorem w2o : w28.Ok Tryz.prog := (fsK z1d fs0)
theorem y8k : zi6.Ok Tryz.prog := fn_ok (k := zi6) (fn := Tryz.f138) (W := []) (H := []) Tryz.func138 w2o trivial rfl rfl (fun av x => by kernel_rfl)
def z8d (e : GAsk) (data : List Int) : Option Bool := (z7i e).bind fun x1 => (if x1 = true then ((z51 data).bind fun x3 => (if x3 = true then (if decide (e.op = 1) = true then ((getI data e.var).bind fun x6 => (some (decide (x6 < e.k)))) else (if decide (e.op = 2) = true then ((getI data e.var).bind fun x8 => (some (decide (x8 = e.k)))) else (if decide (e.op = 3) = true then ((getI data e.var).bind fun x10 => (some (decide (e.k < x10)))) else (some true)))) else (some false))) else (some false))
def zg4 : Con := ⟨181, [.v (.s .ask) false, .v (.sl .I) false], [(.B, true)], [], fun x => z8d x.1 x.2.1⟩
def ye0 : Fs := ⟨[zi6, z1s], [], []⟩
theorem yf5 : ye0.Ok Tryz.prog := (fsK y8k (fsK za7 fs0))
theorem yh7 : zg4.Ok Tryz.prog := fn_ok (k := zg4) (fn := Tryz.f181) (W := []) (H := []) Tryz.func181 yf5 trivial rfl rfl (fun av x => by kernel_rfl)
def z0u (n : Int) (low : Int) (high : Int) : Option Bool := if decide (low ≤ n) = true then (some (decide (n ≤ high))) else (some false)
def z2e : Con := ⟨113, [.v .I false, .v .I false, .v .I false], [(.B, true)], [], fun x => z0u x.1 x.2.1 x.2.2.1⟩
def w8a : Fs := ⟨[], [], []⟩
theorem w8l : w8a.Ok Tryz.prog := fs0
theorem z3h : z2e.Ok Tryz.prog := fn_ok (k := z2e) (fn := Tryz.f113) (W := []) (H := []) Tryz.func113 w8l trivial rfl rfl (fun av x => by kernel_rfl)
def z5k (n : Int) : Option Bool := (z0u n (-99) 99).bind fun x1 => (some x1)
def z6t : Con := ⟨114, [.v .I false], [(.B, true)], [], fun x => z5k x.1⟩
def ym7 : Fs := ⟨[z2e], [], []⟩
theorem yo7 : ym7.Ok Tryz.prog := (fsK z3h fs0)
theorem zn1 : z6t.Ok Tryz.prog := fn_ok (k := z6t) (fn := Tryz.f114) (W := []) (H := []) Tryz.func114 yo7 trivial rfl rfl (fun av x => by kernel_rfl)
def z3e (list : List Int) : Option (List Int) := gd (([] : List Int).length + list.length ≤ SMALL) (some (([] : List Int) ++ list))
def z5d : Con := ⟨140, [.v (.sl .I) false], [((.sl .I), true)], [], fun x => z3e x.1⟩
def y9a : Fs := ⟨[], [], []⟩
theorem y9f : y9a.Ok Tryz.prog := fs0
theorem zb6 : z5d.Ok Tryz.prog := fn_ok (k := z5d) (fn := Tryz.f140) (W := []) (H := []) Tryz.func140 y9f trivial rfl rfl (fun av x => by kernel_rfl)
def z7g (e : GAsk) : Option Bool := if decide (e.op = 0) = true then (if decide (e.var = 0) = true then (some (decide (e.k = 0))) else (some false)) else ((z0u e.op 1 3).bind fun x3 => (if x3 = true then ((z0u e.var 0 2).bind fun x5 => (if x5 = true then ((z5k e.k).bind fun x7 => (some x7)) else (some false))) else (some false)))
def zi4 : Con := ⟨141, [.v (.s .ask) false], [(.B, true)], [], fun x => z7g x.1⟩
def w1z : Fs := ⟨[z2e, z6t], [], []⟩
theorem w2k : w1z.Ok Tryz.prog := (fsK z3h (fsK zn1 fs0))
theorem y8i : zi4.Ok Tryz.prog := fn_ok (k := zi4) (fn := Tryz.f141) (W := []) (H := []) Tryz.func141 w2k trivial rfl rfl (fun av x => by kernel_rfl)
def zq6  : Option Bool := some true
def z2l (list : List Int) (low : Int) (high : Int) (kx0_0 : Option Bool) : Nat → Int → Option Bool
  | 0, _ => none
  | n0 + 1, s0_0 => if decide (s0_0 < (list.length : Int)) = true then ((getI list s0_0).bind fun x4 => ((z07 x4 low high).bind fun x5 => (if x5 = true then (if decide (0 < s0_0) = true then (gd (ok64 (s0_0 - 1)) ((getI list (s0_0 - 1)).bind fun x9 => ((getI list s0_0).bind fun x10 => (if decide (x10 ≤ x9) = true then (some false) else (gd (ok64 (s0_0 + 1)) ((z2l list low high kx0_0 n0) (s0_0 + 1))))))) else (gd (ok64 (s0_0 + 1)) ((z2l list low high kx0_0 n0) (s0_0 + 1)))) else (some false)))) else (kx0_0)
def z6y (list : List Int) (least : Int) (most : Int) (low : Int) (high : Int) : Option Bool := (z07 (list.length : Int) least most).bind fun x1 => (if x1 = true then (z2l list low high zq6 FUEL 0) else (some false))
def z2w : Con := ⟨214, [.v (.sl .I) false, .v .I false, .v .I false, .v .I false, .v .I false], [(.B, true)], [], fun x => z6y x.1 x.2.1 x.2.2.1 x.2.2.2.1 x.2.2.2.2.1⟩
def yo2 : Fs := ⟨[z0x], [], []⟩
theorem y3p : yo2.Ok Tryz.prog := (fsK z1d fs0)
def y09 : Tmpl := ⟨[(0, .c (.s .I)), (3, .c .i), (4, .c .i), (11, .c .i)], []⟩
def zt5 : Tmpl := ⟨[], []⟩
def y97 (av : AV) (x : HP z2w.ps) (n : Nat) (v : y09.den) (K : Ks (CR z2w)) : Option (CR z2w) := z2l v.1.1 v.1.2.1 v.1.2.2.1 (zt5.at none ((), ()) (K (.exit 0))) n v.1.2.2.2.1
def zy8 (av : AV) (x : HP z2w.ps) : Hdl (CR z2w) := hnd [] y09 (y97 av x)
theorem y9w : LP z2w Tryz.f214 [0] zy8 := lp_ok (W := []) (H := []) (xs := [zt5]) y3p trivial rfl (fun av x v K => by kernel_rfl) (fun av x n v K => by kernel_rfl)
theorem ys4 : z2w.Ok Tryz.prog := fn_ok (k := z2w) (fn := Tryz.f214) (W := []) (H := [zy8]) Tryz.func214 y3p ⟨y9w, trivial⟩ rfl rfl (fun av x => by kernel_rfl)
def y1s  : Option Bool := some false
def z4y (list : List Int) (n : Int) (kx0_0 : Option Bool) : Nat → Int → Option Bool
  | 0, _ => none
  | n0 + 1, s0_0 => if decide (s0_0 < (list.length : Int)) = true then ((getI list s0_0).bind fun x2 => (if decide (x2 = n) = true then (some true) else (gd (ok64 (s0_0 + 1)) ((z4y list n kx0_0 n0) (s0_0 + 1))))) else (kx0_0)
def z7j (list : List Int) (n : Int) : Option Bool := z4y list n y1s FUEL 0
def z31 : Con := ⟨101, [.v (.sl .I) false, .v .I false], [(.B, true)], [], fun x => z7j x.1 x.2.1⟩
def w2d : Fs := ⟨[], [], []⟩
theorem y8b : w2d.Ok Tryz.prog := fs0
def y4j : Tmpl := ⟨[(0, .c (.s .I)), (1, .c .i), (5, .c .i)], []⟩
def y2p : Tmpl := ⟨[], []⟩
def yl8 (av : AV) (x : HP z31.ps) (n : Nat) (v : y4j.den) (K : Ks (CR z31)) : Option (CR z31) := z4y v.1.1 v.1.2.1 (y2p.at none ((), ()) (K (.exit 0))) n v.1.2.2.1
def y41 (av : AV) (x : HP z31.ps) : Hdl (CR z31) := hnd [] y4j (yl8 av x)
theorem yq4 : LP z31 Tryz.f101 [0] y41 := lp_ok (W := []) (H := []) (xs := [y2p]) y8b trivial rfl (fun av x v K => by kernel_rfl) (fun av x n v K => by kernel_rfl)
theorem y21 : z31.Ok Tryz.prog := fn_ok (k := z31) (fn := Tryz.f101) (W := []) (H := [y41]) Tryz.func101 y8b ⟨yq4, trivial⟩ rfl rfl (fun av x => by kernel_rfl)
def zq3 (s0_0 : Int) (bk0 : Int → Option Bool) : Option Bool := gd (ok64 (s0_0 + 1)) (bk0 (s0_0 + 1))
def z1t (t : GTask) (s0_0 : Int) (x4 : GFlow) (kx1_0 : Option Bool) : Nat → Int → Option Bool
  | 0, _ => none
  | n1 + 1, s1_0 => if decide (s1_0 < s0_0) = true then ((getI t.out s1_0).bind fun x14 => (if decide (x14.to = x4.to) = true then (some false) else (gd (ok64 (s1_0 + 1)) ((z1t t s0_0 x4 kx1_0 n1) (s1_0 + 1))))) else (kx1_0)
def zq4 (s0_0 : Int) (bk0 : Int → Option Bool) : Option Bool := gd (ok64 (s0_0 + 1)) (bk0 (s0_0 + 1))
def zq5  : Option Bool := some true
def z2k (t : GTask) (places : Int) (kx0_0 : Option Bool) : Nat → Int → Option Bool
  | 0, _ => none
  | n0 + 1, s0_0 => if decide (s0_0 < (t.out.length : Int)) = true then ((getI t.out s0_0).bind fun x4 => (gd (ok64 ((t.out.length : Int) - 1)) (if decide (s0_0 = ((t.out.length : Int) - 1)) = true then (gd (ok64 (places - 1)) ((z07 x4.to 1 (places - 1)).bind fun x8 => (if x8 = true then ((z7i x4.if_).bind fun x10 => (if x10 = true then (if (true == (decide (x4.if_.op = 0))) = true then (z1t t s0_0 x4 (zq3 s0_0 (z2k t places kx0_0 n0)) FUEL 0) else (some false)) else (some false))) else (some false)))) else (gd (ok64 (places - 1)) ((z07 x4.to 1 (places - 1)).bind fun x19 => (if x19 = true then ((z7i x4.if_).bind fun x21 => (if x21 = true then (if ((decide (t.split = 1)) == (decide (x4.if_.op = 0))) = true then (z1t t s0_0 x4 (zq4 s0_0 (z2k t places kx0_0 n0)) FUEL 0) else (some false)) else (some false))) else (some false))))))) else (kx0_0)
def z9w (t : GTask) (places : Int) : Option Bool := (z07 (t.out.length : Int) 1 3).bind fun x1 => (if x1 = true then (z2k t places zq5 FUEL 0) else (some false))
def z0q : Con := ⟨215, [.v (.s .task) false, .v .I false], [(.B, true)], [], fun x => z9w x.1 x.2.1⟩
def yo1 : Fs := ⟨[z0x, zi6], [], []⟩
theorem zm0 : yo1.Ok Tryz.prog := (fsK z1d (fsK y8k fs0))
def zk5 : Tmpl := ⟨[(1, .c .i), (2, .c (.bx 2 0)), (5, .c .i), (6, .c (.bx 6 0)), (8, .c .i)], [(2, .boxT (.s .task)), (6, .boxT (.s .flow))]⟩
def zh6 : Tmpl := ⟨[(1, .c .i), (2, .c (.bx 2 0)), (5, .c .i)], [(2, .boxT (.s .task))]⟩
def y59 (av : AV) (x : HP z0q.ps) (n : Nat) (v : zk5.den) (K : Ks (CR z0q)) : Option (CR z0q) := z1t v.2.1 v.1.2.2.1 v.2.2.1 (zh6.at none ((v.1.1, (), v.1.2.2.1, ()), (v.2.1, ())) (K (.exit 2))) n v.1.2.2.2.2.1
def zi1 (av : AV) (x : HP z0q.ps) : Hdl (CR z0q) := hnd [] zk5 (y59 av x)
theorem y5v : LP z0q Tryz.f215 [0, 0] zi1 := lp_ok (W := []) (H := []) (xs := [zh6]) zm0 trivial rfl (fun av x v K => by kernel_rfl) (fun av x n v K => by kernel_rfl)
def y08 : Tmpl := ⟨[(1, .c .i), (2, .c (.bx 2 0)), (5, .c .i)], [(2, .boxT (.s .task))]⟩
def zt4 : Tmpl := ⟨[], []⟩
def y96 (av : AV) (x : HP z0q.ps) (n : Nat) (v : y08.den) (K : Ks (CR z0q)) : Option (CR z0q) := z2k v.2.1 v.1.1 (zt4.at none ((), ()) (K (.exit 0))) n v.1.2.2.1
def zy7 (av : AV) (x : HP z0q.ps) : Hdl (CR z0q) := hnd [] y08 (y96 av x)
theorem y9v : LP z0q Tryz.f215 [0] zy7 := lp_ok (W := []) (H := [zi1]) (xs := [zt4]) zm0 ⟨y5v, trivial⟩ rfl (fun av x v K => by kernel_rfl) (fun av x n v K => by kernel_rfl)
theorem ys3 : z0q.Ok Tryz.prog := fn_ok (k := z0q) (fn := Tryz.f215) (W := []) (H := [zy7]) Tryz.func215 zm0 ⟨y9v, trivial⟩ rfl rfl (fun av x => by kernel_rfl)
def ze9 (t : GTask) (places : Int) (tasks : Int) : Option Bool := (z07 t.join 1 3).bind fun x1 => (if x1 = true then ((z07 t.split 1 3).bind fun x3 => (if x3 = true then (gd (ok64 (places - 1)) ((z6y t.in_ 1 3 0 (places - 1)).bind fun x6 => (if x6 = true then ((z7j t.in_ 1).bind fun x8 => (if x8 = true then (some false) else ((z9w t places).bind fun x10 => (if x10 = true then (gd (ok64 (places - 1)) ((z6y t.clear 0 places 2 (places - 1)).bind fun x13 => (if x13 = true then ((z07 t.role 1 3).bind fun x15 => (if x15 = true then (gd (ok64 (tasks - 1)) ((z07 t.apart (-1) (tasks - 1)).bind fun x18 => (if x18 = true then ((z07 t.all 1 3).bind fun x20 => (if x20 = true then ((z07 t.need 1 t.all).bind fun x22 => (some x22)) else (some false))) else (some false)))) else (some false))) else (some false)))) else (some false))))) else (some false)))) else (some false))) else (some false))
def zv6 : Con := ⟨198, [.v (.s .task) false, .v .I false, .v .I false], [(.B, true)], [], fun x => ze9 x.1 x.2.1 x.2.2.1⟩
def yx9 : Fs := ⟨[z0x, z2w, z31, z0q], [], []⟩
theorem yz6 : yx9.Ok Tryz.prog := (fsK z1d (fsK ys4 (fsK y21 (fsK ys3 fs0))))
theorem w0q : zv6.Ok Tryz.prog := fn_ok (k := zv6) (fn := Tryz.f198) (W := []) (H := []) Tryz.func198 yz6 trivial rfl rfl (fun av x => by kernel_rfl)
def y1q  : Option Bool := some true
def z4v (n : GNet) (kx0_0 : Option Bool) : Nat → Int → Option Bool
  | 0, _ => none
  | n0 + 1, s0_0 => if decide (s0_0 < (n.tasks.length : Int)) = true then ((getI n.tasks s0_0).bind fun x6 => ((ze9 x6 n.places (n.tasks.length : Int)).bind fun x7 => (if x7 = true then (gd (ok64 (s0_0 + 1)) ((z4v n kx0_0 n0) (s0_0 + 1))) else (some false)))) else (kx0_0)
def z33 (n : GNet) : Option Bool := (z07 n.places 2 8).bind fun x1 => (if x1 = true then ((z07 (n.tasks.length : Int) 1 6).bind fun x3 => (if x3 = true then (z4v n y1q FUEL 0) else (some false))) else (some false))
def z29 : Con := ⟨161, [.v (.s .net) false], [(.B, true)], [], fun x => z33 x.1⟩
def w2a : Fs := ⟨[z0x, zv6], [], []⟩
theorem y88 : w2a.Ok Tryz.prog := (fsK z1d (fsK w0q fs0))
def y4g : Tmpl := ⟨[(1, .c (.bx 1 0)), (3, .c .i)], [(1, .boxT (.s .net))]⟩
def y2n : Tmpl := ⟨[], []⟩
def yl5 (av : AV) (x : HP z29.ps) (n : Nat) (v : y4g.den) (K : Ks (CR z29)) : Option (CR z29) := z4v v.2.1 (y2n.at none ((), ()) (K (.exit 0))) n v.1.2.1
def y3y (av : AV) (x : HP z29.ps) : Hdl (CR z29) := hnd [] y4g (yl5 av x)
theorem yq1 : LP z29 Tryz.f161 [0] y3y := lp_ok (W := []) (H := []) (xs := [y2n]) y88 trivial rfl (fun av x v K => by kernel_rfl) (fun av x n v K => by kernel_rfl)
theorem zk1 : z29.Ok Tryz.prog := fn_ok (k := z29) (fn := Tryz.f161) (W := []) (H := [y3y]) Tryz.func161 y88 ⟨yq1, trivial⟩ rfl rfl (fun av x => by kernel_rfl)
def z8l (s1_0 : Int) (bk1 : Int → List Bool → Option (List Bool)) (l3_1 : List Bool) : Option (List Bool) := gd (ok64 (s1_0 + 1)) (bk1 (s1_0 + 1) l3_1)
def z8m (s1_0 : Int) (bk1 : Int → List Bool → Option (List Bool)) (l3_1 : List Bool) : Option (List Bool) := gd (ok64 (s1_0 + 1)) (bk1 (s1_0 + 1) l3_1)
def z8n (s1_0 : Int) (bk1 : Int → List Bool → Option (List Bool)) (l3_1 : List Bool) : Option (List Bool) := gd (ok64 (s1_0 + 1)) (bk1 (s1_0 + 1) l3_1)
def z15 (n : GNet) (but : Int) (s1_0 : Int) (s2_0 : Bool) (kx3_0 : List Bool → Option (List Bool)) (kx3_1 : List Bool → Option (List Bool)) (kx3_2 : List Bool → Option (List Bool)) : Nat → Int → List Bool → Option (List Bool)
  | 0, _, _ => none
  | n3 + 1, s3_0, l3_1 => (getI n.tasks s1_0).bind fun x12 => (if decide (s3_0 < (x12.out.length : Int)) = true then (if s2_0 = true then (if decide (s1_0 = but) = true then (kx3_0 l3_1) else ((getI n.tasks s1_0).bind fun x17 => ((getI x17.out s3_0).bind fun x18 => ((getI l3_1 x18.to).bind fun x19 => (gd (ok64 (s3_0 + 1)) ((z15 n but s1_0 s2_0 kx3_0 kx3_1 kx3_2 n3) (s3_0 + 1) (l3_1.set x18.to.toNat true))))))) else (kx3_1 l3_1)) else (kx3_2 l3_1))
def zj3 (n : GNet) (but : Int) (s1_0 : Int) (l1_1 : List Bool) (bk1 : Int → List Bool → Option (List Bool)) (s2_0 : Bool) : Option (List Bool) := z15 n but s1_0 s2_0 (z8l s1_0 bk1) (z8m s1_0 bk1) (z8n s1_0 bk1) FUEL 0 l1_1
def z1i (n : GNet) (s1_0 : Int) (l1_1 : List Bool) (kx2_0 : Bool → Option (List Bool)) : Nat → Bool → Int → Option (List Bool)
  | 0, _, _ => none
  | n2 + 1, s2_0, s2_1 => (getI n.tasks s1_0).bind fun x4 => (if decide (s2_1 < (x4.in_.length : Int)) = true then (if s2_0 = true then (gd (ok64 (s2_1 + 1)) ((z1i n s1_0 l1_1 kx2_0 n2) true (s2_1 + 1))) else ((getI n.tasks s1_0).bind fun x8 => ((getI x8.in_ s2_1).bind fun x9 => ((getI l1_1 x9).bind fun x10 => (gd (ok64 (s2_1 + 1)) ((z1i n s1_0 l1_1 kx2_0 n2) x10 (s2_1 + 1))))))) else (kx2_0 s2_0))
def zj4 (s0_0 : Int) (bk0 : Int → List Bool → Option (List Bool)) (l1_1 : List Bool) : Option (List Bool) := gd (ok64 (s0_0 + 1)) (bk0 (s0_0 + 1) l1_1)
def z0d (n : GNet) (but : Int) (kx1_0 : List Bool → Option (List Bool)) : Nat → Int → List Bool → Option (List Bool)
  | 0, _, _ => none
  | n1 + 1, s1_0, l1_1 => if decide (s1_0 < (n.tasks.length : Int)) = true then (z1i n s1_0 l1_1 (zj3 n but s1_0 l1_1 (z0d n but kx1_0 n1)) FUEL false 0) else (kx1_0 l1_1)
def zj5 (l0_1 : List Bool) : Option (List Bool) := some l0_1
def z3a (n : GNet) (but : Int) (kx0_0 : List Bool → Option (List Bool)) : Nat → Int → List Bool → Option (List Bool)
  | 0, _, _ => none
  | n0 + 1, s0_0, l0_1 => if decide (s0_0 < n.places) = true then (z0d n but (zj4 s0_0 (z3a n but kx0_0 n0)) FUEL 0 l0_1) else (kx0_0 l0_1)
def z8k (n : GNet) (marked : List Bool) (but : Int) : Option (List Bool) := gd (([] : List Bool).length + marked.length ≤ SMALL) (z3a n but zj5 FUEL 0 (([] : List Bool) ++ marked))
def z05 : Con := ⟨216, [.v (.s .net) false, .v (.sl .B) false, .v .I false], [((.sl .B), true)], [], fun x => z8k x.1 x.2.1 x.2.2.1⟩
def ye3 : Fs := ⟨[], [], []⟩
theorem z5r : ye3.Ok Tryz.prog := fs0
def zb0 : Tmpl := ⟨[(2, .c .i), (3, .c (.bx 3 0)), (7, .c (.ref 15)), (8, .c .i), (9, .c .i), (10, .c .b), (11, .c .i)], [(3, .boxT (.s .net)), (15, .arr .B true)]⟩
def z9a : Tmpl := ⟨[(2, .c .i), (3, .c (.bx 3 0)), (7, .c (.ref 15)), (8, .c .i), (9, .c .i), (10, .c .b)], [(3, .boxT (.s .net)), (15, .arr .B true)]⟩
def y0o (av : AV) (x : HP z05.ps) (n : Nat) (v : zb0.den) (K : Ks (CR z05)) : Option (CR z05) := z1i v.2.1 v.1.2.2.2.2.1 v.2.2.1 (fun s2_0 => z9a.at none ((v.1.1, (), (), v.1.2.2.2.1, v.1.2.2.2.2.1, s2_0, ()), (v.2.1, v.2.2.1, ())) (K (.exit 4))) n v.1.2.2.2.2.2.1 v.1.2.2.2.2.2.2.1
def z9z (av : AV) (x : HP z05.ps) : Hdl (CR z05) := hnd [] zb0 (y0o av x)
theorem y1h : LP z05 Tryz.f216 [0, 0, 0] z9z := lp_ok (W := []) (H := []) (xs := [z9a]) z5r trivial rfl (fun av x v K => by kernel_rfl) (fun av x n v K => by kernel_rfl)
def zb1 : Tmpl := ⟨[(2, .c .i), (3, .c (.bx 3 0)), (7, .c (.ref 15)), (8, .c .i), (9, .c .i), (10, .c .b), (12, .c .i)], [(3, .boxT (.s .net)), (15, .arr .B true)]⟩
def z3v : Tmpl := ⟨[(2, .c .i), (3, .c (.bx 3 0)), (7, .c (.ref 15)), (8, .c .i), (9, .c .i)], [(3, .boxT (.s .net)), (15, .arr .B true)]⟩
def y0p (av : AV) (x : HP z05.ps) (n : Nat) (v : zb1.den) (K : Ks (CR z05)) : Option (CR z05) := z15 v.2.1 v.1.1 v.1.2.2.2.2.1 v.1.2.2.2.2.2.1 (fun l3_1 => z3v.at none ((v.1.1, (), (), v.1.2.2.2.1, v.1.2.2.2.2.1, ()), (v.2.1, l3_1, ())) (K (.exit 6))) (fun l3_1 => z3v.at none ((v.1.1, (), (), v.1.2.2.2.1, v.1.2.2.2.2.1, ()), (v.2.1, l3_1, ())) (K (.exit 6))) (fun l3_1 => z3v.at none ((v.1.1, (), (), v.1.2.2.2.1, v.1.2.2.2.2.1, ()), (v.2.1, l3_1, ())) (K (.exit 6))) n v.1.2.2.2.2.2.2.1 v.2.2.1
def za0 (av : AV) (x : HP z05.ps) : Hdl (CR z05) := hnd [] zb1 (y0p av x)
theorem y1i : LP z05 Tryz.f216 [0, 0, 1] za0 := lp_ok (W := []) (H := []) (xs := [z3v]) z5r trivial rfl (fun av x v K => by kernel_rfl) (fun av x n v K => by kernel_rfl)
def zh3 : Tmpl := ⟨[(2, .c .i), (3, .c (.bx 3 0)), (7, .c (.ref 15)), (8, .c .i), (9, .c .i)], [(3, .boxT (.s .net)), (15, .arr .B true)]⟩
def zc8 : Tmpl := ⟨[(2, .c .i), (3, .c (.bx 3 0)), (7, .c (.ref 15)), (8, .c .i)], [(3, .boxT (.s .net)), (15, .arr .B true)]⟩
def y4n (av : AV) (x : HP z05.ps) (n : Nat) (v : zh3.den) (K : Ks (CR z05)) : Option (CR z05) := z0d v.2.1 v.1.1 (fun l1_1 => zc8.at none ((v.1.1, (), (), v.1.2.2.2.1, ()), (v.2.1, l1_1, ())) (K (.exit 2))) n v.1.2.2.2.2.1 v.2.2.1
def zf9 (av : AV) (x : HP z05.ps) : Hdl (CR z05) := hnd [] zh3 (y4n av x)
theorem y4x : LP z05 Tryz.f216 [0, 0] zf9 := lp_ok (W := []) (H := [z9z, za0]) (xs := [zc8]) z5r ⟨y1h, y1i, trivial⟩ rfl (fun av x v K => by kernel_rfl) (fun av x n v K => by kernel_rfl)
def zr8 : Tmpl := ⟨[(2, .c .i), (3, .c (.bx 3 0)), (7, .c (.ref 15)), (8, .c .i)], [(3, .boxT (.s .net)), (15, .arr .B true)]⟩
def zl2 : Tmpl := ⟨[(7, .c (.ref 15))], [(15, .arr .B true)]⟩
def y6u (av : AV) (x : HP z05.ps) (n : Nat) (v : zr8.den) (K : Ks (CR z05)) : Option (CR z05) := z3a v.2.1 v.1.1 (fun l0_1 => zl2.at none (((), ()), (l0_1, ())) (K (.exit 0))) n v.1.2.2.2.1 v.2.2.1
def zp1 (av : AV) (x : HP z05.ps) : Hdl (CR z05) := hnd [] zr8 (y6u av x)
theorem y7i : LP z05 Tryz.f216 [0] zp1 := lp_ok (W := []) (H := [zf9]) (xs := [zl2]) z5r ⟨y4x, trivial⟩ rfl (fun av x v K => by kernel_rfl) (fun av x n v K => by kernel_rfl)
theorem yi0 : z05.Ok Tryz.prog := fn_ok (k := z05) (fn := Tryz.f216) (W := []) (H := [zp1]) Tryz.func216 z5r ⟨y7i, trivial⟩ rfl rfl (fun av x => by kernel_rfl)
def ze2 (kind : Int) : Option Bool := (z0u kind 1 3).bind fun x1 => (some x1)
def zv1 : Con := ⟨177, [.v .I false], [(.B, true)], [], fun x => ze2 x.1⟩
def yw6 : Fs := ⟨[z2e], [], []⟩
theorem yy8 : yw6.Ok Tryz.prog := (fsK z3h fs0)
theorem w0h : zv1.Ok Tryz.prog := fn_ok (k := zv1) (fn := Tryz.f177) (W := []) (H := []) Tryz.func177 yy8 trivial rfl rfl (fun av x => by kernel_rfl)
def z88 (role : Int) : Option Bool := (z0u role 1 3).bind fun x1 => (some x1)
def zd5 : Con := ⟨151, [.v .I false], [(.B, true)], [], fun x => z88 x.1⟩
def yw7 : Fs := ⟨[z2e], [], []⟩
theorem yy9 : yw7.Ok Tryz.prog := (fsK z3h fs0)
theorem y62 : zd5.Ok Tryz.prog := fn_ok (k := zd5) (fn := Tryz.f151) (W := []) (H := []) Tryz.func151 yy9 trivial rfl rfl (fun av x => by kernel_rfl)
def zn0 (places : Int) (tasks : Int) : Option Bool := (z0u places 2 8).bind fun x1 => (if x1 = true then ((z0u tasks 1 6).bind fun x3 => (some x3)) else (some false))
def zm2 : Con := ⟨122, [.v .I false, .v .I false], [(.B, true)], [], fun x => zn0 x.1 x.2.1⟩
def yn0 : Fs := ⟨[z2e], [], []⟩
theorem yo9 : yn0.Ok Tryz.prog := (fsK z3h fs0)
theorem yr3 : zm2.Ok Tryz.prog := fn_ok (k := zm2) (fn := Tryz.f122) (W := []) (H := []) Tryz.func122 yo9 trivial rfl rfl (fun av x => by kernel_rfl)
def z0g (n : GNet) (t : Int) : Option Bool := gd (ok64 ((n.tasks.length : Int) - 1)) ((z0u t 0 ((n.tasks.length : Int) - 1)).bind fun x2 => (some x2))
def z1a : Con := ⟨96, [.v (.s .net) false, .v .I false], [(.B, true)], [], fun x => z0g x.1 x.2.1⟩
def y0s : Fs := ⟨[z2e], [], []⟩
theorem y0w : y0s.Ok Tryz.prog := (fsK z3h fs0)
theorem z34 : z1a.Ok Tryz.prog := fn_ok (k := z1a) (fn := Tryz.f96) (W := []) (H := []) Tryz.func96 y0w trivial rfl rfl (fun av x => by kernel_rfl)
def y1p  : Option Bool := some true
def z4u (marks : List Int) (kx0_0 : Option Bool) : Nat → Int → Option Bool
  | 0, _ => none
  | n0 + 1, s0_0 => if decide (s0_0 < (marks.length : Int)) = true then ((getI marks s0_0).bind fun x5 => ((z07 x5 0 4).bind fun x6 => (if x6 = true then (gd (ok64 (s0_0 + 1)) ((z4u marks kx0_0 n0) (s0_0 + 1))) else (some false)))) else (kx0_0)
def z60 (n : GNet) (marks : List Int) : Option Bool := (z33 n).bind fun x1 => (if x1 = true then (if decide ((marks.length : Int) = n.places) = true then (z4u marks y1p FUEL 0) else (some false)) else (some false))
def z28 : Con := ⟨87, [.v (.s .net) false, .v (.sl .I) false], [(.B, true)], [], fun x => z60 x.1 x.2.1⟩
def w29 : Fs := ⟨[z29, z0x], [], []⟩
theorem y87 : w29.Ok Tryz.prog := (fsK zk1 (fsK z1d fs0))
def y4f : Tmpl := ⟨[(1, .c (.s .I)), (5, .c .i)], []⟩
def y2m : Tmpl := ⟨[], []⟩
def yl4 (av : AV) (x : HP z28.ps) (n : Nat) (v : y4f.den) (K : Ks (CR z28)) : Option (CR z28) := z4u v.1.1 (y2m.at none ((), ()) (K (.exit 0))) n v.1.2.1
def y3x (av : AV) (x : HP z28.ps) : Hdl (CR z28) := hnd [] y4f (yl4 av x)
theorem yq0 : LP z28 Tryz.f87 [0] y3x := lp_ok (W := []) (H := []) (xs := [y2m]) y87 trivial rfl (fun av x v K => by kernel_rfl) (fun av x n v K => by kernel_rfl)
theorem zk0 : z28.Ok Tryz.prog := fn_ok (k := z28) (fn := Tryz.f87) (W := []) (H := [y3x]) Tryz.func87 y87 ⟨yq0, trivial⟩ rfl rfl (fun av x => by kernel_rfl)
def z76 (s0_0 : Bool) (s0_1 : Bool) : Option (Bool × Bool) := some (s0_0, s0_1)
def z1e (marks : List Int) (list : List Int) (kx0_0 : Bool → Bool → Option (Bool × Bool)) : Nat → Bool → Bool → Int → Option (Bool × Bool)
  | 0, _, _, _ => none
  | n0 + 1, s0_0, s0_1, s0_2 => if decide (s0_2 < (list.length : Int)) = true then (if s0_0 = true then (if s0_1 = true then ((getI list s0_2).bind fun x4 => ((getI marks x4).bind fun x5 => (gd (ok64 (s0_2 + 1)) ((z1e marks list kx0_0 n0) true (decide (0 < x5)) (s0_2 + 1))))) else (gd (ok64 (s0_2 + 1)) ((z1e marks list kx0_0 n0) true false (s0_2 + 1)))) else ((getI list s0_2).bind fun x8 => ((getI marks x8).bind fun x9 => (if s0_1 = true then ((getI list s0_2).bind fun x11 => ((getI marks x11).bind fun x12 => (gd (ok64 (s0_2 + 1)) ((z1e marks list kx0_0 n0) (decide (0 < x9)) (decide (0 < x12)) (s0_2 + 1))))) else (gd (ok64 (s0_2 + 1)) ((z1e marks list kx0_0 n0) (decide (0 < x9)) false (s0_2 + 1))))))) else (kx0_0 s0_0 s0_1)
def zf0 (marks : List Int) (list : List Int) : Option (Bool × Bool) := z1e marks list z76 FUEL false true 0
def z3m : Con := ⟨200, [.v (.sl .I) false, .v (.sl .I) false], [(.B, true), (.B, true)], [], fun x => zf0 x.1 x.2.1⟩
def yy1 : Fs := ⟨[], [], []⟩
theorem y5q : yy1.Ok Tryz.prog := fs0
def y2e : Tmpl := ⟨[(0, .c (.s .I)), (1, .c (.s .I)), (6, .c .b), (7, .c .b), (8, .c .i)], []⟩
def y0i : Tmpl := ⟨[(6, .c .b), (7, .c .b)], []⟩
def yc5 (av : AV) (x : HP z3m.ps) (n : Nat) (v : y2e.den) (K : Ks (CR z3m)) : Option (CR z3m) := z1e v.1.1 v.1.2.1 (fun s0_0 s0_1 => y0i.at none ((s0_0, s0_1, ()), ()) (K (.exit 0))) n v.1.2.2.1 v.1.2.2.2.1 v.1.2.2.2.2.1
def y1a (av : AV) (x : HP z3m.ps) : Hdl (CR z3m) := hnd [] y2e (yc5 av x)
theorem yg9 : LP z3m Tryz.f200 [0] y1a := lp_ok (W := []) (H := []) (xs := [y0i]) y5q trivial rfl (fun av x v K => by kernel_rfl) (fun av x n v K => by kernel_rfl)
theorem w0r : z3m.Ok Tryz.prog := fn_ok (k := z3m) (fn := Tryz.f200) (W := []) (H := [y1a]) Tryz.func200 y5q ⟨yg9, trivial⟩ rfl rfl (fun av x => by kernel_rfl)
def z3c (s1_0 : Int) (bk1 : Int → List Bool → Option Bool) (l2_1 : List Bool) : Option Bool := gd (ok64 (s1_0 + 1)) (bk1 (s1_0 + 1) l2_1)
def z21 (p2_0 : List GFlow) (kx2_0 : List Bool → Option Bool) : Nat → Int → List Bool → Option Bool
  | 0, _, _ => none
  | n2 + 1, s2_0, l2_1 => if decide (s2_0 < (p2_0.length : Int)) = true then ((getI p2_0 s2_0).bind fun x15 => ((getI l2_1 x15.to).bind fun x16 => (gd (ok64 (s2_0 + 1)) ((z21 p2_0 kx2_0 n2) (s2_0 + 1) (l2_1.set x15.to.toNat true))))) else (kx2_0 l2_1)
def z8q  : Option Bool := some false
def z1l (n : GNet) (marks : List Int) (t : Int) (x19 : (List Bool)) (kx3_0 : Option Bool) : Nat → Int → Option Bool
  | 0, _ => none
  | n3 + 1, s3_0 => (getI n.tasks t).bind fun x20 => (if decide (s3_0 < (x20.in_.length : Int)) = true then ((getI n.tasks t).bind fun x22 => ((getI x22.in_ s3_0).bind fun x23 => ((getI marks x23).bind fun x24 => (if decide (x24 = 0) = true then ((getI n.tasks t).bind fun x26 => ((getI x26.in_ s3_0).bind fun x27 => ((getI x19 x27).bind fun x28 => (if x28 = true then (some true) else (gd (ok64 (s3_0 + 1)) ((z1l n marks t x19 kx3_0 n3) (s3_0 + 1))))))) else (gd (ok64 (s3_0 + 1)) ((z1l n marks t x19 kx3_0 n3) (s3_0 + 1))))))) else (kx3_0))
def z1j (n : GNet) (marks : List Int) (t : Int) (l1_1 : List Bool) : Option Bool := (z8k n l1_1 t).bind fun x19 => (z1l n marks t x19 z8q FUEL 0)
def z0v (n : GNet) (busy : List GItem) (kx1_0 : List Bool → Option Bool) : Nat → Int → List Bool → Option Bool
  | 0, _, _ => none
  | n1 + 1, s1_0, l1_1 => if decide (s1_0 < (busy.length : Int)) = true then ((getI busy s1_0).bind fun x12 => ((getI n.tasks x12.task).bind fun x13 => (z21 x13.out (z3c s1_0 (z0v n busy kx1_0 n1)) FUEL 0 l1_1))) else (kx1_0 l1_1)
def z3b (n : GNet) (marks : List Int) (busy : List GItem) (t : Int) (l0_1 : List Bool) : Option Bool := z0v n busy (z1j n marks t) FUEL 0 l0_1
def z1k (n : GNet) (marks : List Int) (t : Int) (kx0_0 : List Bool → Option Bool) : Nat → Int → List Bool → Option Bool
  | 0, _, _ => none
  | n0 + 1, s0_0, l0_1 => if decide (s0_0 < n.places) = true then ((getI marks s0_0).bind fun x3 => (if decide (0 < x3) = true then ((getI n.tasks t).bind fun x5 => ((z7j x5.in_ s0_0).bind fun x6 => ((getI l0_1 s0_0).bind fun x7 => (gd (ok64 (s0_0 + 1)) ((z1k n marks t kx0_0 n0) (s0_0 + 1) (l0_1.set s0_0.toNat (!x6))))))) else ((getI l0_1 s0_0).bind fun x9 => (gd (ok64 (s0_0 + 1)) ((z1k n marks t kx0_0 n0) (s0_0 + 1) (l0_1.set s0_0.toNat false)))))) else (kx0_0 l0_1)
def z8p (n : GNet) (marks : List Int) (busy : List GItem) (t : Int) : Option Bool := gd ((0 : Int) ≤ n.places ∧ n.places ≤ (1000000000 : Int)) (z1k n marks t (z3b n marks busy t) FUEL 0 (List.replicate n.places.toNat false))
def z06 : Con := ⟨201, [.v (.s .net) false, .v (.sl .I) false, .v (.sl (.s .item)) false, .v .I false], [(.B, true)], [], fun x => z8p x.1 x.2.1 x.2.2.1 x.2.2.2.1⟩
def ye4 : Fs := ⟨[z31, z05], [], []⟩
theorem z5s : ye4.Ok Tryz.prog := (fsK y21 (fsK yi0 fs0))
def zh4 : Tmpl := ⟨[(1, .c (.s .I)), (2, .c (.s (.s .item))), (3, .c .i), (4, .c (.bx 4 0)), (9, .c (.ref 18)), (11, .c .i), (12, .c (.s (.s .flow))), (13, .c .i)], [(4, .boxT (.s .net)), (18, .arr .B true)]⟩
def zc9 : Tmpl := ⟨[(1, .c (.s .I)), (2, .c (.s (.s .item))), (3, .c .i), (4, .c (.bx 4 0)), (9, .c (.ref 18)), (11, .c .i)], [(4, .boxT (.s .net)), (18, .arr .B true)]⟩
def y4o (av : AV) (x : HP z06.ps) (n : Nat) (v : zh4.den) (K : Ks (CR z06)) : Option (CR z06) := z21 v.1.2.2.2.2.2.2.1 (fun l2_1 => zc9.at none ((v.1.1, v.1.2.1, v.1.2.2.1, (), (), v.1.2.2.2.2.2.1, ()), (v.2.1, l2_1, ())) (K (.exit 4))) n v.1.2.2.2.2.2.2.2.1 v.2.2.1
def zg0 (av : AV) (x : HP z06.ps) : Hdl (CR z06) := hnd [] zh4 (y4o av x)
theorem y4y : LP z06 Tryz.f201 [1, 0] zg0 := lp_ok (W := []) (H := []) (xs := [zc9]) z5s trivial rfl (fun av x v K => by kernel_rfl) (fun av x n v K => by kernel_rfl)
def zr9 : Tmpl := ⟨[(1, .c (.s .I)), (2, .c (.s (.s .item))), (3, .c .i), (4, .c (.bx 4 0)), (9, .c (.ref 18)), (10, .c .i)], [(4, .boxT (.s .net)), (18, .arr .B true)]⟩
def zl3 : Tmpl := ⟨[(1, .c (.s .I)), (2, .c (.s (.s .item))), (3, .c .i), (4, .c (.bx 4 0)), (9, .c (.ref 18))], [(4, .boxT (.s .net)), (18, .arr .B true)]⟩
def y6v (av : AV) (x : HP z06.ps) (n : Nat) (v : zr9.den) (K : Ks (CR z06)) : Option (CR z06) := z1k v.2.1 v.1.1 v.1.2.2.1 (fun l0_1 => zl3.at none ((v.1.1, v.1.2.1, v.1.2.2.1, (), (), ()), (v.2.1, l0_1, ())) (K (.exit 0))) n v.1.2.2.2.2.2.1 v.2.2.1
def zp2 (av : AV) (x : HP z06.ps) : Hdl (CR z06) := hnd [] zr9 (y6v av x)
theorem y7j : LP z06 Tryz.f201 [0] zp2 := lp_ok (W := []) (H := []) (xs := [zl3]) z5s trivial rfl (fun av x v K => by kernel_rfl) (fun av x n v K => by kernel_rfl)
def zs0 : Tmpl := ⟨[(1, .c (.s .I)), (2, .c (.s (.s .item))), (3, .c .i), (4, .c (.bx 4 0)), (9, .c (.ref 18)), (11, .c .i)], [(4, .boxT (.s .net)), (18, .arr .B true)]⟩
def zl4 : Tmpl := ⟨[(1, .c (.s .I)), (3, .c .i), (4, .c (.bx 4 0)), (9, .c (.ref 18))], [(4, .boxT (.s .net)), (18, .arr .B true)]⟩
def y6w (av : AV) (x : HP z06.ps) (n : Nat) (v : zs0.den) (K : Ks (CR z06)) : Option (CR z06) := z0v v.2.1 v.1.2.1 (fun l1_1 => zl4.at none ((v.1.1, v.1.2.2.1, (), (), ()), (v.2.1, l1_1, ())) (K (.exit 2))) n v.1.2.2.2.2.2.1 v.2.2.1
def zp3 (av : AV) (x : HP z06.ps) : Hdl (CR z06) := hnd [] zs0 (y6w av x)
theorem y7k : LP z06 Tryz.f201 [1] zp3 := lp_ok (W := []) (H := [zg0]) (xs := [zl4]) z5s ⟨y4y, trivial⟩ rfl (fun av x v K => by kernel_rfl) (fun av x n v K => by kernel_rfl)
def zs1 : Tmpl := ⟨[(1, .c (.s .I)), (3, .c .i), (4, .c (.bx 4 0)), (14, .c (.ref 76)), (15, .c .i)], [(4, .boxT (.s .net)), (76, .arr .B true)]⟩
def zl5 : Tmpl := ⟨[], []⟩
def y6x (av : AV) (x : HP z06.ps) (n : Nat) (v : zs1.den) (K : Ks (CR z06)) : Option (CR z06) := z1l v.2.1 v.1.1 v.1.2.1 v.2.2.1 (zl5.at none ((), ()) (K (.exit 6))) n v.1.2.2.2.2.1
def zp4 (av : AV) (x : HP z06.ps) : Hdl (CR z06) := hnd [] zs1 (y6x av x)
theorem y7l : LP z06 Tryz.f201 [2] zp4 := lp_ok (W := []) (H := []) (xs := [zl5]) z5s trivial rfl (fun av x v K => by kernel_rfl) (fun av x n v K => by kernel_rfl)
theorem yi1 : z06.Ok Tryz.prog := fn_ok (k := z06) (fn := Tryz.f201) (W := []) (H := [zp2, zp3, zp4]) Tryz.func201 z5s ⟨y7j, y7k, y7l, trivial⟩ rfl rfl (fun av x => by kernel_rfl)
def zj6 (n : GNet) (marks : List Int) (busy : List GItem) (t : Int) : Option Bool := (getI n.tasks t).bind fun x1 => ((zf0 marks x1.in_).bind fun x2 => ((getI n.tasks t).bind fun x3 => (if decide (x3.join = 1) = true then (some x2.2) else (if decide (x3.join = 2) = true then (some x2.1) else (if x2.1 = true then (if x2.2 = true then (some true) else ((z8p n marks busy t).bind fun x8 => (some (!x8)))) else (some false))))))
def y1e : Con := ⟨165, [.v (.s .net) false, .v (.sl .I) false, .v (.sl (.s .item)) false, .v .I false], [(.B, true)], [], fun x => zj6 x.1 x.2.1 x.2.2.1 x.2.2.2.1⟩
def w2e : Fs := ⟨[z3m, z06], [], []⟩
theorem w2p : w2e.Ok Tryz.prog := (fsK w0r (fsK yi1 fs0))
theorem w3b : y1e.Ok Tryz.prog := fn_ok (k := y1e) (fn := Tryz.f165) (W := []) (H := []) Tryz.func165 w2p trivial rfl rfl (fun av x => by kernel_rfl)
def zz4  : Option Bool := some true
def z42 (n : GNet) (busy : List GItem) (kx0_0 : Option Bool) : Nat → Int → Option Bool
  | 0, _ => none
  | n0 + 1, s0_0 => if decide (s0_0 < (busy.length : Int)) = true then ((getI busy s0_0).bind fun x3 => (gd (ok64 ((n.tasks.length : Int) - 1)) ((z07 x3.task 0 ((n.tasks.length : Int) - 1)).bind fun x5 => (if x5 = true then ((getI busy s0_0).bind fun x7 => ((z07 x7.who 1 4).bind fun x8 => (if x8 = true then ((getI busy s0_0).bind fun x10 => ((getI busy s0_0).bind fun x11 => ((getI n.tasks x11.task).bind fun x12 => (gd (ok64 (x12.need - 1)) ((z07 x10.did 0 (x12.need - 1)).bind fun x14 => (if x14 = true then (gd (ok64 (s0_0 + 1)) ((z42 n busy kx0_0 n0) (s0_0 + 1))) else (some false))))))) else (some false)))) else (some false))))) else (kx0_0)
def z8o (n : GNet) (busy : List GItem) : Option Bool := if decide (6 < (busy.length : Int)) = true then (some false) else (z42 n busy zz4 FUEL 0)
def z2x : Con := ⟨88, [.v (.s .net) false, .v (.sl (.s .item)) false], [(.B, true)], [], fun x => z8o x.1 x.2.1⟩
def yy0 : Fs := ⟨[z0x], [], []⟩
theorem y5p : yy0.Ok Tryz.prog := (fsK z1d fs0)
def y2d : Tmpl := ⟨[(1, .c (.s (.s .item))), (2, .c (.bx 2 0)), (5, .c .i)], [(2, .boxT (.s .net))]⟩
def y0h : Tmpl := ⟨[], []⟩
def yc4 (av : AV) (x : HP z2x.ps) (n : Nat) (v : y2d.den) (K : Ks (CR z2x)) : Option (CR z2x) := z42 v.2.1 v.1.1 (y0h.at none ((), ()) (K (.exit 0))) n v.1.2.2.1
def y19 (av : AV) (x : HP z2x.ps) : Hdl (CR z2x) := hnd [] y2d (yc4 av x)
theorem yg8 : LP z2x Tryz.f88 [0] y19 := lp_ok (W := []) (H := []) (xs := [y0h]) y5p trivial rfl (fun av x v K => by kernel_rfl) (fun av x n v K => by kernel_rfl)
theorem y66 : z2x.Ok Tryz.prog := fn_ok (k := z2x) (fn := Tryz.f88) (W := []) (H := [y19]) Tryz.func88 y5p ⟨yg8, trivial⟩ rfl rfl (fun av x => by kernel_rfl)
def z8b (n : GNet) (marks : List Int) (busy : List GItem) (t : Int) : Option Bool := (z60 n marks).bind fun x1 => (if x1 = true then ((z8o n busy).bind fun x3 => (if x3 = true then (gd (ok64 ((n.tasks.length : Int) - 1)) ((z07 t 0 ((n.tasks.length : Int) - 1)).bind fun x6 => (if x6 = true then ((zj6 n marks busy t).bind fun x8 => (some x8)) else (some false)))) else (some false))) else (some false))
def zd6 : Con := ⟨100, [.v (.s .net) false, .v (.sl .I) false, .v (.sl (.s .item)) false, .v .I false], [(.B, true)], [], fun x => z8b x.1 x.2.1 x.2.2.1 x.2.2.2.1⟩
def yx3 : Fs := ⟨[z28, z2x, z0x, y1e], [], []⟩
theorem yz3 : yx3.Ok Tryz.prog := (fsK zk0 (fsK y66 (fsK z1d (fsK w3b fs0))))
theorem y64 : zd6.Ok Tryz.prog := fn_ok (k := zd6) (fn := Tryz.f100) (W := []) (H := []) Tryz.func100 yz3 trivial rfl rfl (fun av x => by kernel_rfl)
def z8c (l0_1 : List Int) : Option (List Int) := some l0_1
def z20 (n : GNet) (marks : List Int) (busy : List GItem) (kx0_0 : List Int → Option (List Int)) : Nat → Int → List Int → Option (List Int)
  | 0, _, _ => none
  | n0 + 1, s0_0, l0_1 => if decide (s0_0 < (n.tasks.length : Int)) = true then ((z8b n marks busy s0_0).bind fun x2 => (if x2 = true then (gd (l0_1.length + [s0_0].length ≤ SMALL) (gd (ok64 (s0_0 + 1)) ((z20 n marks busy kx0_0 n0) (s0_0 + 1) (l0_1 ++ [s0_0])))) else (gd (ok64 (s0_0 + 1)) ((z20 n marks busy kx0_0 n0) (s0_0 + 1) l0_1)))) else (kx0_0 l0_1)
def z4t (n : GNet) (marks : List Int) (busy : List GItem) : Option (List Int) := z20 n marks busy z8c FUEL 0 ([] : List Int)
def z1o : Con := ⟨99, [.v (.s .net) false, .v (.sl .I) false, .v (.sl (.s .item)) false], [((.sl .I), true)], [], fun x => z4t x.1 x.2.1 x.2.2.1⟩
def yd9 : Fs := ⟨[zd6], [], []⟩
theorem y0z : yd9.Ok Tryz.prog := (fsK y64 fs0)
def zr4 : Tmpl := ⟨[(1, .c (.s .I)), (2, .c (.s (.s .item))), (3, .c (.bx 3 0)), (7, .c (.ref 9)), (8, .c .i)], [(3, .boxT (.s .net)), (9, .arr .I true)]⟩
def zk8 : Tmpl := ⟨[(7, .c (.ref 9))], [(9, .arr .I true)]⟩
def y6q (av : AV) (x : HP z1o.ps) (n : Nat) (v : zr4.den) (K : Ks (CR z1o)) : Option (CR z1o) := z20 v.2.1 v.1.1 v.1.2.1 (fun l0_1 => zk8.at none (((), ()), (l0_1, ())) (K (.exit 0))) n v.1.2.2.2.2.1 v.2.2.1
def zo7 (av : AV) (x : HP z1o.ps) : Hdl (CR z1o) := hnd [] zr4 (y6q av x)
theorem y7e : LP z1o Tryz.f99 [0] zo7 := lp_ok (W := []) (H := []) (xs := [zk8]) y0z trivial rfl (fun av x v K => by kernel_rfl) (fun av x n v K => by kernel_rfl)
theorem y20 : z1o.Ok Tryz.prog := fn_ok (k := z1o) (fn := Tryz.f99) (W := []) (H := [zo7]) Tryz.func99 y0z ⟨y7e, trivial⟩ rfl rfl (fun av x => by kernel_rfl)
def zp9 (l0_1 : List Int) (x10 : Int) (x13 : Int) : Option (List Int) := some (l0_1.set x10.toNat (x13 - 1))
def zq0 (l0_1 : List Int) : Option (List Int) := some l0_1
def z2h (n : GNet) (t : Int) (kx0_0 : List Int → Int → Int → Option (List Int)) (kx0_1 : List Int → Option (List Int)) : Nat → Int → List Int → Option (List Int)
  | 0, _, _ => none
  | n0 + 1, s0_0, l0_1 => (getI n.tasks t).bind fun x7 => (if decide (s0_0 < (x7.in_.length : Int)) = true then ((getI n.tasks t).bind fun x9 => ((getI x9.in_ s0_0).bind fun x10 => ((getI l0_1 x10).bind fun x11 => (if decide (0 < x11) = true then ((getI l0_1 x10).bind fun x13 => (gd (ok64 (x13 - 1)) ((getI l0_1 x10).bind fun x15 => ((getI n.tasks t).bind fun x16 => (if decide (x16.join = 2) = true then (kx0_0 l0_1 x10 x13) else (gd (ok64 (s0_0 + 1)) ((z2h n t kx0_0 kx0_1 n0) (s0_0 + 1) (l0_1.set x10.toNat (x13 - 1))))))))) else (gd (ok64 (s0_0 + 1)) ((z2h n t kx0_0 kx0_1 n0) (s0_0 + 1) l0_1)))))) else (kx0_1 l0_1))
def z9q (n : GNet) (marks : List Int) (t : Int) : Option (List Int) := (z60 n marks).bind fun x1 => (if x1 = true then (gd (ok64 ((n.tasks.length : Int) - 1)) ((z07 t 0 ((n.tasks.length : Int) - 1)).bind fun x4 => (if x4 = true then (gd (([] : List Int).length + marks.length ≤ SMALL) (z2h n t zp9 zq0 FUEL 0 (([] : List Int) ++ marks))) else (some ([] : List Int))))) else (some ([] : List Int)))
def z2r : Con := ⟨103, [.v (.s .net) false, .v (.sl .I) false, .v .I false], [((.sl .I), true)], [], fun x => z9q x.1 x.2.1 x.2.2.1⟩
def yn3 : Fs := ⟨[z28, z0x], [], []⟩
theorem y3k : yn3.Ok Tryz.prog := (fsK zk0 (fsK z1d fs0))
def y01 : Tmpl := ⟨[(2, .c .i), (3, .c (.bx 3 0)), (7, .c (.ref 26)), (8, .c .i)], [(3, .boxT (.s .net)), (26, .arr .I true)]⟩
def z9l : Tmpl := ⟨[(7, .c (.ref 26))], [(26, .arr .I true)]⟩
def y8z (av : AV) (x : HP z2r.ps) (n : Nat) (v : y01.den) (K : Ks (CR z2r)) : Option (CR z2r) := z2h v.2.1 v.1.1 (fun l0_1 x10 x13 => z9l.at none (((), ()), ((l0_1.set x10.toNat (x13 - 1)), ())) (K (.exit 0))) (fun l0_1 => z9l.at none (((), ()), (l0_1, ())) (K (.exit 0))) n v.1.2.2.2.1 v.2.2.1
def zy0 (av : AV) (x : HP z2r.ps) : Hdl (CR z2r) := hnd [] y01 (y8z av x)
theorem y9o : LP z2r Tryz.f103 [0] zy0 := lp_ok (W := []) (H := []) (xs := [z9l]) y3k trivial rfl (fun av x v K => by kernel_rfl) (fun av x n v K => by kernel_rfl)
theorem yr5 : z2r.Ok Tryz.prog := fn_ok (k := z2r) (fn := Tryz.f103) (W := []) (H := [zy0]) Tryz.func103 y3k ⟨y9o, trivial⟩ rfl rfl (fun av x => by kernel_rfl)
def z5y (who : Int) : Option Bool := (z0u who 1 4).bind fun x1 => (some x1)
def z7x : Con := ⟨97, [.v .I false], [(.B, true)], [], fun x => z5y x.1⟩
def yd7 : Fs := ⟨[z2e], [], []⟩
theorem yf3 : yd7.Ok Tryz.prog := (fsK z3h fs0)
theorem y1x : z7x.Ok Tryz.prog := fn_ok (k := z7x) (fn := Tryz.f97) (W := []) (H := []) Tryz.func97 yf3 trivial rfl rfl (fun av x => by kernel_rfl)
def z8e (l0_1 : List Int) (x8 : GFlow) : Option (List Int) := some (l0_1 ++ [x8.to])
def z8f (l0_1 : List Int) (x13 : GFlow) : Option (List Int) := some (l0_1 ++ [x13.to])
def z8g (l0_1 : List Int) (x18 : GFlow) : Option (List Int) := some (l0_1 ++ [x18.to])
def zg7 (l0_1 : List Int) : Option (List Int) := some l0_1
def z1c (t : GTask) (data : List Int) (kx0_0 : List Int → GFlow → Option (List Int)) (kx0_1 : List Int → GFlow → Option (List Int)) (kx0_2 : List Int → GFlow → Option (List Int)) (kx0_3 : List Int → Option (List Int)) : Nat → Int → List Int → Option (List Int)
  | 0, _, _ => none
  | n0 + 1, s0_0, l0_1 => if decide (s0_0 < (t.out.length : Int)) = true then ((getI t.out s0_0).bind fun x2 => ((z8d x2.if_ data).bind fun x3 => (if x3 = true then (if decide (t.split = 3) = true then (gd (ok64 ((t.out.length : Int) - 1)) (if decide (s0_0 < ((t.out.length : Int) - 1)) = true then ((getI t.out s0_0).bind fun x8 => (gd (l0_1.length + [x8.to].length ≤ SMALL) (if decide (t.split = 2) = true then (kx0_0 l0_1 x8) else (gd (ok64 (s0_0 + 1)) ((z1c t data kx0_0 kx0_1 kx0_2 kx0_3 n0) (s0_0 + 1) (l0_1 ++ [x8.to])))))) else (if decide ((l0_1.length : Int) = 0) = true then ((getI t.out s0_0).bind fun x13 => (gd (l0_1.length + [x13.to].length ≤ SMALL) (if decide (t.split = 2) = true then (kx0_1 l0_1 x13) else (gd (ok64 (s0_0 + 1)) ((z1c t data kx0_0 kx0_1 kx0_2 kx0_3 n0) (s0_0 + 1) (l0_1 ++ [x13.to])))))) else (gd (ok64 (s0_0 + 1)) ((z1c t data kx0_0 kx0_1 kx0_2 kx0_3 n0) (s0_0 + 1) l0_1))))) else ((getI t.out s0_0).bind fun x18 => (gd (l0_1.length + [x18.to].length ≤ SMALL) (if decide (t.split = 2) = true then (kx0_2 l0_1 x18) else (gd (ok64 (s0_0 + 1)) ((z1c t data kx0_0 kx0_1 kx0_2 kx0_3 n0) (s0_0 + 1) (l0_1 ++ [x18.to]))))))) else (gd (ok64 (s0_0 + 1)) ((z1c t data kx0_0 kx0_1 kx0_2 kx0_3 n0) (s0_0 + 1) l0_1))))) else (kx0_3 l0_1)
def zj2 (t : GTask) (data : List Int) : Option (List Int) := z1c t data z8e z8f z8g zg7 FUEL 0 ([] : List Int)
def z49 : Con := ⟨205, [.v (.s .task) false, .v (.sl .I) false], [((.sl .I), true)], [], fun x => zj2 x.1 x.2.1⟩
def w2c : Fs := ⟨[zg4], [], []⟩
theorem y8a : w2c.Ok Tryz.prog := (fsK yh7 fs0)
def y4i : Tmpl := ⟨[(1, .c (.s .I)), (2, .c (.bx 2 0)), (5, .c (.ref 7)), (6, .c .i)], [(2, .boxT (.s .task)), (7, .arr .I true)]⟩
def z65 : Tmpl := ⟨[(5, .c (.ref 49))], [(49, .arr .I true)]⟩
def yl7 (av : AV) (x : HP z49.ps) (n : Nat) (v : y4i.den) (K : Ks (CR z49)) : Option (CR z49) := z1c v.2.1 v.1.1 (fun l0_1 x8 => z65.at none (((), ()), ((l0_1 ++ [x8.to]), ())) (K (.exit 0))) (fun l0_1 x13 => z65.at none (((), ()), ((l0_1 ++ [x13.to]), ())) (K (.exit 0))) (fun l0_1 x18 => z65.at none (((), ()), ((l0_1 ++ [x18.to]), ())) (K (.exit 0))) (fun l0_1 => z65.at none (((), ()), (l0_1, ())) (K (.exit 0))) n v.1.2.2.2.1 v.2.2.1
def y40 (av : AV) (x : HP z49.ps) : Hdl (CR z49) := hnd [] y4i (yl7 av x)
theorem yq3 : LP z49 Tryz.f205 [0] y40 := lp_ok (W := []) (H := []) (xs := [z65]) y8a trivial rfl (fun av x v K => by kernel_rfl) (fun av x n v K => by kernel_rfl)
theorem w3a : z49.Ok Tryz.prog := fn_ok (k := z49) (fn := Tryz.f205) (W := []) (H := [y40]) Tryz.func205 y8a ⟨yq3, trivial⟩ rfl rfl (fun av x => by kernel_rfl)
def z6e (l1_1 : List Int) : Option ((List Int) × Bool) := some (l1_1, true)
def z3s (x16 : (List Int)) (kx1_0 : List Int → Option ((List Int) × Bool)) : Nat → Int → List Int → Option ((List Int) × Bool)
  | 0, _, _ => none
  | n1 + 1, s1_0, l1_1 => if decide (s1_0 < (x16.length : Int)) = true then ((getI x16 s1_0).bind fun x18 => ((getI l1_1 x18).bind fun x19 => (if decide (x19 = 4) = true then (some (([] : List Int), false)) else ((getI x16 s1_0).bind fun x21 => ((getI x16 s1_0).bind fun x22 => ((getI l1_1 x22).bind fun x23 => (gd (ok64 (x23 + 1)) ((getI l1_1 x21).bind fun x25 => (gd (ok64 (s1_0 + 1)) ((z3s x16 kx1_0 n1) (s1_0 + 1) (l1_1.set x21.toNat (x23 + 1)))))))))))) else (kx1_0 l1_1)
def z6d (n : GNet) (t : Int) (data : List Int) (l0_1 : List Int) : Option ((List Int) × Bool) := (getI n.tasks t).bind fun x15 => ((zj2 x15 data).bind fun x16 => (z3s x16 z6e FUEL 0 l0_1))
def z3r (n : GNet) (t : Int) (kx0_0 : List Int → Option ((List Int) × Bool)) : Nat → Int → List Int → Option ((List Int) × Bool)
  | 0, _, _ => none
  | n0 + 1, s0_0, l0_1 => (getI n.tasks t).bind fun x9 => (if decide (s0_0 < (x9.clear.length : Int)) = true then ((getI n.tasks t).bind fun x11 => ((getI x11.clear s0_0).bind fun x12 => ((getI l0_1 x12).bind fun x13 => (gd (ok64 (s0_0 + 1)) ((z3r n t kx0_0 n0) (s0_0 + 1) (l0_1.set x12.toNat 0)))))) else (kx0_0 l0_1))
def z9r (n : GNet) (marks : List Int) (t : Int) (data : List Int) : Option ((List Int) × Bool) := (z60 n marks).bind fun x1 => (if x1 = true then (gd (ok64 ((n.tasks.length : Int) - 1)) ((z07 t 0 ((n.tasks.length : Int) - 1)).bind fun x4 => (if x4 = true then ((z51 data).bind fun x6 => (if x6 = true then (gd (([] : List Int).length + marks.length ≤ SMALL) (z3r n t (z6d n t data) FUEL 0 (([] : List Int) ++ marks))) else (some (([] : List Int), false)))) else (some (([] : List Int), false))))) else (some (([] : List Int), false)))
def z0p : Con := ⟨172, [.v (.s .net) false, .v (.sl .I) false, .v .I false, .v (.sl .I) false], [((.sl .I), true), (.B, true)], [], fun x => z9r x.1 x.2.1 x.2.2.1 x.2.2.2.1⟩
def yn4 : Fs := ⟨[z28, z0x, z1s, z49], [], []⟩
theorem zl9 : yn4.Ok Tryz.prog := (fsK zk0 (fsK z1d (fsK za7 (fsK w3a fs0))))
def y02 : Tmpl := ⟨[(2, .c .i), (3, .c (.s .I)), (4, .c (.bx 4 0)), (10, .c (.ref 35)), (11, .c .i)], [(4, .boxT (.s .net)), (35, .arr .I true)]⟩
def zs8 : Tmpl := ⟨[(2, .c .i), (3, .c (.s .I)), (4, .c (.bx 4 0)), (10, .c (.ref 35))], [(4, .boxT (.s .net)), (35, .arr .I true)]⟩
def y90 (av : AV) (x : HP z0p.ps) (n : Nat) (v : y02.den) (K : Ks (CR z0p)) : Option (CR z0p) := z3r v.2.1 v.1.1 (fun l0_1 => zs8.at none ((v.1.1, v.1.2.1, (), (), ()), (v.2.1, l0_1, ())) (K (.exit 0))) n v.1.2.2.2.2.1 v.2.2.1
def zy1 (av : AV) (x : HP z0p.ps) : Hdl (CR z0p) := hnd [] y02 (y90 av x)
theorem y9p : LP z0p Tryz.f172 [0] zy1 := lp_ok (W := []) (H := []) (xs := [zs8]) zl9 trivial rfl (fun av x v K => by kernel_rfl) (fun av x n v K => by kernel_rfl)
def y03 : Tmpl := ⟨[(10, .c (.ref 35)), (12, .c (.ref 64)), (13, .c .i)], [(35, .arr .I true), (64, .arr .I true)]⟩
def zs9 : Tmpl := ⟨[(10, .c (.ref 35))], [(35, .arr .I true)]⟩
def y91 (av : AV) (x : HP z0p.ps) (n : Nat) (v : y03.den) (K : Ks (CR z0p)) : Option (CR z0p) := z3s v.2.2.1 (fun l1_1 => zs9.at none (((), ()), (l1_1, ())) (K (.exit 2))) n v.1.2.2.1 v.2.1
def zy2 (av : AV) (x : HP z0p.ps) : Hdl (CR z0p) := hnd [] y03 (y91 av x)
theorem y9q : LP z0p Tryz.f172 [1] zy2 := lp_ok (W := []) (H := []) (xs := [zs9]) zl9 trivial rfl (fun av x v K => by kernel_rfl) (fun av x n v K => by kernel_rfl)
theorem yr6 : z0p.Ok Tryz.prog := fn_ok (k := z0p) (fn := Tryz.f172) (W := []) (H := [zy1, zy2]) Tryz.func172 zl9 ⟨y9p, y9q, trivial⟩ rfl rfl (fun av x => by kernel_rfl)
def y1r  : Option Bool := some true
def z4w (people : List Int) (kx0_0 : Option Bool) : Nat → Int → Option Bool
  | 0, _ => none
  | n0 + 1, s0_0 => if decide (s0_0 < (people.length : Int)) = true then ((getI people s0_0).bind fun x4 => ((z07 x4 0 7).bind fun x5 => (if x5 = true then (gd (ok64 (s0_0 + 1)) ((z4w people kx0_0 n0) (s0_0 + 1))) else (some false)))) else (kx0_0)
def z61 (people : List Int) : Option Bool := (z07 (people.length : Int) 1 4).bind fun x1 => (if x1 = true then (z4w people y1r FUEL 0) else (some false))
def z2a : Con := ⟨44, [.v (.sl .I) false], [(.B, true)], [], fun x => z61 x.1⟩
def w2b : Fs := ⟨[z0x], [], []⟩
theorem y89 : w2b.Ok Tryz.prog := (fsK z1d fs0)
def y4h : Tmpl := ⟨[(0, .c (.s .I)), (3, .c .i)], []⟩
def y2o : Tmpl := ⟨[], []⟩
def yl6 (av : AV) (x : HP z2a.ps) (n : Nat) (v : y4h.den) (K : Ks (CR z2a)) : Option (CR z2a) := z4w v.1.1 (y2o.at none ((), ()) (K (.exit 0))) n v.1.2.1
def y3z (av : AV) (x : HP z2a.ps) : Hdl (CR z2a) := hnd [] y4h (yl6 av x)
theorem yq2 : LP z2a Tryz.f44 [0] y3z := lp_ok (W := []) (H := []) (xs := [y2o]) y89 trivial rfl (fun av x v K => by kernel_rfl) (fun av x n v K => by kernel_rfl)
theorem zk2 : z2a.Ok Tryz.prog := fn_ok (k := z2a) (fn := Tryz.f44) (W := []) (H := [y3z]) Tryz.func44 y89 ⟨yq2, trivial⟩ rfl rfl (fun av x => by kernel_rfl)
def z40 (s0_0 : Int) : Option Bool := gd ((2 : Int) ≠ 0) (some (decide ((Int.tmod s0_0 2) = 1)))
def z1q (role : Int) (kx0_0 : Int → Option Bool) : Nat → Int → Int → Option Bool
  | 0, _, _ => none
  | n0 + 1, s0_0, s0_1 => if decide (s0_1 < role) = true then (gd ((2 : Int) ≠ 0 ∧ ok64 (Int.tdiv s0_0 2)) (gd (ok64 (s0_1 + 1)) ((z1q role kx0_0 n0) (Int.tdiv s0_0 2) (s0_1 + 1)))) else (kx0_0 s0_0)
def ze7 (people : List Int) (who : Int) (role : Int) : Option Bool := (z61 people).bind fun x1 => (if x1 = true then ((z07 who 1 (people.length : Int)).bind fun x3 => (if x3 = true then ((z07 role 1 3).bind fun x5 => (if x5 = true then (gd (ok64 (who - 1)) ((getI people (who - 1)).bind fun x8 => (z1q role z40 FUEL x8 1))) else (some false))) else (some false))) else (some false))
def z3l : Con := ⟨166, [.v (.sl .I) false, .v .I false, .v .I false], [(.B, true)], [], fun x => ze7 x.1 x.2.1 x.2.2.1⟩
def yx5 : Fs := ⟨[z2a, z0x], [], []⟩
theorem y5o : yx5.Ok Tryz.prog := (fsK zk2 (fsK z1d fs0))
def y2b : Tmpl := ⟨[(2, .c .i), (7, .c .i), (8, .c .i)], []⟩
def y0f : Tmpl := ⟨[(7, .c .i)], []⟩
def yc2 (av : AV) (x : HP z3l.ps) (n : Nat) (v : y2b.den) (K : Ks (CR z3l)) : Option (CR z3l) := z1q v.1.1 (fun s0_0 => y0f.at none ((s0_0, ()), ()) (K (.exit 0))) n v.1.2.1 v.1.2.2.1
def y17 (av : AV) (x : HP z3l.ps) : Hdl (CR z3l) := hnd [] y2b (yc2 av x)
theorem yg6 : LP z3l Tryz.f166 [0] y17 := lp_ok (W := []) (H := []) (xs := [y0f]) y5o trivial rfl (fun av x v K => by kernel_rfl) (fun av x n v K => by kernel_rfl)
theorem w0o : z3l.Ok Tryz.prog := fn_ok (k := z3l) (fn := Tryz.f166) (W := []) (H := [y17]) Tryz.func166 y5o ⟨yg6, trivial⟩ rfl rfl (fun av x => by kernel_rfl)
def zz2  : Option Bool := some false
def z3f (did : List GDid) (who : Int) (task : Int) (kx0_0 : Option Bool) : Nat → Int → Option Bool
  | 0, _ => none
  | n0 + 1, s0_0 => if decide (s0_0 < (did.length : Int)) = true then ((getI did s0_0).bind fun x2 => (if decide (x2.who = who) = true then ((getI did s0_0).bind fun x4 => (if decide (x4.task = task) = true then (some true) else (gd (ok64 (s0_0 + 1)) ((z3f did who task kx0_0 n0) (s0_0 + 1))))) else (gd (ok64 (s0_0 + 1)) ((z3f did who task kx0_0 n0) (s0_0 + 1))))) else (kx0_0)
def ze6 (did : List GDid) (who : Int) (task : Int) : Option Bool := z3f did who task zz2 FUEL 0
def z3k : Con := ⟨167, [.v (.sl (.s .did)) false, .v .I false, .v .I false], [(.B, true)], [], fun x => ze6 x.1 x.2.1 x.2.2.1⟩
def yx4 : Fs := ⟨[], [], []⟩
theorem y5n : yx4.Ok Tryz.prog := fs0
def y2a : Tmpl := ⟨[(0, .c (.s (.s .did))), (1, .c .i), (2, .c .i), (7, .c .i)], []⟩
def y0e : Tmpl := ⟨[], []⟩
def yc1 (av : AV) (x : HP z3k.ps) (n : Nat) (v : y2a.den) (K : Ks (CR z3k)) : Option (CR z3k) := z3f v.1.1 v.1.2.1 v.1.2.2.1 (y0e.at none ((), ()) (K (.exit 0))) n v.1.2.2.2.1
def y16 (av : AV) (x : HP z3k.ps) : Hdl (CR z3k) := hnd [] y2a (yc1 av x)
theorem yg5 : LP z3k Tryz.f167 [0] y16 := lp_ok (W := []) (H := []) (xs := [y0e]) y5n trivial rfl (fun av x v K => by kernel_rfl) (fun av x n v K => by kernel_rfl)
theorem w0n : z3k.Ok Tryz.prog := fn_ok (k := z3k) (fn := Tryz.f167) (W := []) (H := [y16]) Tryz.func167 y5n ⟨yg5, trivial⟩ rfl rfl (fun av x => by kernel_rfl)
def zz3 (n : GNet) (people : List Int) (did : List GDid) (t : Int) (s0_0 : Int) (l0_1 : List Int) (bk0 : Int → List Int → Option (List Int)) (s1_0 : Bool) : Option (List Int) := (getI n.tasks t).bind fun x18 => ((ze7 people s0_0 x18.role).bind fun x19 => (if x19 = true then (if s1_0 = true then (gd (ok64 (s0_0 + 1)) (bk0 (s0_0 + 1) l0_1)) else ((getI n.tasks t).bind fun x23 => ((ze6 did s0_0 x23.apart).bind fun x24 => (if x24 = true then (gd (ok64 (s0_0 + 1)) (bk0 (s0_0 + 1) l0_1)) else (gd (l0_1.length + [s0_0].length ≤ SMALL) (gd (ok64 (s0_0 + 1)) (bk0 (s0_0 + 1) (l0_1 ++ [s0_0])))))))) else (gd (ok64 (s0_0 + 1)) (bk0 (s0_0 + 1) l0_1))))
def z1r (n : GNet) (busy : List GItem) (t : Int) (s0_0 : Int) (kx1_0 : Bool → Option (List Int)) : Nat → Bool → Int → Option (List Int)
  | 0, _, _ => none
  | n1 + 1, s1_0, s1_1 => if decide (s1_1 < (busy.length : Int)) = true then (if s1_0 = true then (gd (ok64 (s1_1 + 1)) ((z1r n busy t s0_0 kx1_0 n1) true (s1_1 + 1))) else ((getI busy s1_1).bind fun x12 => (if decide (x12.who = s0_0) = true then ((getI busy s1_1).bind fun x14 => ((getI n.tasks t).bind fun x15 => (gd (ok64 (s1_1 + 1)) ((z1r n busy t s0_0 kx1_0 n1) (decide (x14.task = x15.apart)) (s1_1 + 1))))) else (gd (ok64 (s1_1 + 1)) ((z1r n busy t s0_0 kx1_0 n1) false (s1_1 + 1)))))) else (kx1_0 s1_0)
def zb5 (l0_1 : List Int) : Option (List Int) := some l0_1
def z41 (n : GNet) (people : List Int) (did : List GDid) (busy : List GItem) (t : Int) (kx0_0 : List Int → Option (List Int)) : Nat → Int → List Int → Option (List Int)
  | 0, _, _ => none
  | n0 + 1, s0_0, l0_1 => if decide (s0_0 ≤ (people.length : Int)) = true then (z1r n busy t s0_0 (zz3 n people did t s0_0 l0_1 (z41 n people did busy t kx0_0 n0)) FUEL false 0) else (kx0_0 l0_1)
def z58 (n : GNet) (people : List Int) (did : List GDid) (busy : List GItem) (t : Int) : Option (List Int) := (z33 n).bind fun x1 => (if x1 = true then ((z61 people).bind fun x3 => (if x3 = true then (gd (ok64 ((n.tasks.length : Int) - 1)) ((z07 t 0 ((n.tasks.length : Int) - 1)).bind fun x6 => (if x6 = true then (z41 n people did busy t zb5 FUEL 1 ([] : List Int)) else (some ([] : List Int))))) else (some ([] : List Int)))) else (some ([] : List Int)))
def z0n : Con := ⟨102, [.v (.s .net) false, .v (.sl .I) false, .v (.sl (.s .did)) false, .v (.sl (.s .item)) false, .v .I false], [((.sl .I), true)], [], fun x => z58 x.1 x.2.1 x.2.2.1 x.2.2.2.1 x.2.2.2.2.1⟩
def yx6 : Fs := ⟨[z29, z2a, z0x, z3l, z3k], [], []⟩
theorem zu6 : yx6.Ok Tryz.prog := (fsK zk1 (fsK zk2 (fsK z1d (fsK w0o (fsK w0n fs0)))))
def zr5 : Tmpl := ⟨[(1, .c (.s .I)), (2, .c (.s (.s .did))), (3, .c (.s (.s .item))), (4, .c .i), (5, .c (.bx 5 0)), (11, .c (.ref 15)), (12, .c .i), (13, .c .b), (14, .c .i)], [(5, .boxT (.s .net)), (15, .arr .I true)]⟩
def zk9 : Tmpl := ⟨[(1, .c (.s .I)), (2, .c (.s (.s .did))), (3, .c (.s (.s .item))), (4, .c .i), (5, .c (.bx 5 0)), (11, .c (.ref 15)), (12, .c .i), (13, .c .b)], [(5, .boxT (.s .net)), (15, .arr .I true)]⟩
def y6r (av : AV) (x : HP z0n.ps) (n : Nat) (v : zr5.den) (K : Ks (CR z0n)) : Option (CR z0n) := z1r v.2.1 v.1.2.2.1 v.1.2.2.2.1 v.1.2.2.2.2.2.2.1 (fun s1_0 => zk9.at none ((v.1.1, v.1.2.1, v.1.2.2.1, v.1.2.2.2.1, (), (), v.1.2.2.2.2.2.2.1, s1_0, ()), (v.2.1, v.2.2.1, ())) (K (.exit 2))) n v.1.2.2.2.2.2.2.2.1 v.1.2.2.2.2.2.2.2.2.1
def zo8 (av : AV) (x : HP z0n.ps) : Hdl (CR z0n) := hnd [] zr5 (y6r av x)
theorem y7f : LP z0n Tryz.f102 [0, 0] zo8 := lp_ok (W := []) (H := []) (xs := [zk9]) zu6 trivial rfl (fun av x v K => by kernel_rfl) (fun av x n v K => by kernel_rfl)
def y2c : Tmpl := ⟨[(1, .c (.s .I)), (2, .c (.s (.s .did))), (3, .c (.s (.s .item))), (4, .c .i), (5, .c (.bx 5 0)), (11, .c (.ref 15)), (12, .c .i)], [(5, .boxT (.s .net)), (15, .arr .I true)]⟩
def y0g : Tmpl := ⟨[(11, .c (.ref 15))], [(15, .arr .I true)]⟩
def yc3 (av : AV) (x : HP z0n.ps) (n : Nat) (v : y2c.den) (K : Ks (CR z0n)) : Option (CR z0n) := z41 v.2.1 v.1.1 v.1.2.1 v.1.2.2.1 v.1.2.2.2.1 (fun l0_1 => y0g.at none (((), ()), (l0_1, ())) (K (.exit 0))) n v.1.2.2.2.2.2.2.1 v.2.2.1
def y18 (av : AV) (x : HP z0n.ps) : Hdl (CR z0n) := hnd [] y2c (yc3 av x)
theorem yg7 : LP z0n Tryz.f102 [0] y18 := lp_ok (W := []) (H := [zo8]) (xs := [y0g]) zu6 ⟨y7f, trivial⟩ rfl (fun av x v K => by kernel_rfl) (fun av x n v K => by kernel_rfl)
theorem zw5 : z0n.Ok Tryz.prog := fn_ok (k := z0n) (fn := Tryz.f102) (W := []) (H := [y18]) Tryz.func102 zu6 ⟨yg7, trivial⟩ rfl rfl (fun av x => by kernel_rfl)
def ze4 (n : GNet) (data : List Int) : Option GCase := (z33 n).bind fun x1 => (if x1 = true then ((z51 data).bind fun x3 => (if x3 = true then (gd ((0 : Int) ≤ n.places ∧ n.places ≤ (1000000000 : Int)) (gd (([] : List Int).length + data.length ≤ SMALL) ((getI (List.replicate n.places.toNat (0 : Int)) 0).bind fun x7 => (some (GCase.mk 1 ((List.replicate n.places.toNat (0 : Int)).set (0 : Int).toNat 1) [] (([] : List Int) ++ data) []))))) else (some (GCase.mk 0 [] [] [] [])))) else (some (GCase.mk 0 [] [] [] [])))
def zv3 : Con := ⟨155, [.v (.s .net) false, .v (.sl .I) false], [((.s .kase), true)], [], fun x => ze4 x.1 x.2.1⟩
def yx1 : Fs := ⟨[z29, z1s], [], []⟩
theorem yz1 : yx1.Ok Tryz.prog := (fsK zk1 (fsK za7 fs0))
theorem w0l : zv3.Ok Tryz.prog := fn_ok (k := zv3) (fn := Tryz.f155) (W := []) (H := []) Tryz.func155 yz1 trivial rfl rfl (fun av x => by kernel_rfl)
def z8a (c : GCase) : Option Bool := if decide (c.state = 1) = true then ((getI c.marks 1).bind fun x20 => (some (decide (x20 = 0)))) else (if decide ((c.busy.length : Int) = 0) = true then ((getI c.marks 1).bind fun x22 => (some ((decide (c.state = 2)) == (decide (0 < x22))))) else (some false))
def z4q (n : GNet) (c : GCase) (kx0_0 : Option Bool) : Nat → Int → Option Bool
  | 0, _ => none
  | n0 + 1, s0_0 => if decide (s0_0 < (c.did.length : Int)) = true then ((getI c.did s0_0).bind fun x11 => (gd (ok64 ((n.tasks.length : Int) - 1)) ((z07 x11.task 0 ((n.tasks.length : Int) - 1)).bind fun x13 => (if x13 = true then ((getI c.did s0_0).bind fun x15 => ((z07 x15.who 1 4).bind fun x16 => (if x16 = true then (gd (ok64 (s0_0 + 1)) ((z4q n c kx0_0 n0) (s0_0 + 1))) else (some false)))) else (some false))))) else (kx0_0)
def z5z (n : GNet) (c : GCase) : Option Bool := (z60 n c.marks).bind fun x1 => (if x1 = true then ((z8o n c.busy).bind fun x3 => (if x3 = true then ((z51 c.data).bind fun x5 => (if x5 = true then (if decide (60 < (c.did.length : Int)) = true then (some false) else ((z07 c.state 1 3).bind fun x8 => (if x8 = true then (z4q n c (z8a c) FUEL 0) else (some false)))) else (some false))) else (some false))) else (some false))
def z27 : Con := ⟨25, [.v (.s .net) false, .v (.s .kase) false], [(.B, true)], [], fun x => z5z x.1 x.2.1⟩
def w26 : Fs := ⟨[z28, z2x, z1s, z0x], [], []⟩
theorem y85 : w26.Ok Tryz.prog := (fsK zk0 (fsK y66 (fsK za7 (fsK z1d fs0))))
def y4d : Tmpl := ⟨[(2, .c (.bx 2 0)), (3, .c (.bx 3 0)), (5, .c .i)], [(2, .boxT (.s .net)), (3, .boxT (.s .kase))]⟩
def y2k : Tmpl := ⟨[(3, .c (.bx 3 0))], [(3, .boxT (.s .kase))]⟩
def yl2 (av : AV) (x : HP z27.ps) (n : Nat) (v : y4d.den) (K : Ks (CR z27)) : Option (CR z27) := z4q v.2.1 v.2.2.1 (y2k.at none (((), ()), (v.2.2.1, ())) (K (.exit 0))) n v.1.2.2.1
def y3v (av : AV) (x : HP z27.ps) : Hdl (CR z27) := hnd [] y4d (yl2 av x)
theorem yp8 : LP z27 Tryz.f25 [0] y3v := lp_ok (W := []) (H := []) (xs := [y2k]) y85 trivial rfl (fun av x v K => by kernel_rfl) (fun av x n v K => by kernel_rfl)
theorem zj9 : z27.Ok Tryz.prog := fn_ok (k := z27) (fn := Tryz.f25) (W := []) (H := [y3v]) Tryz.func25 y85 ⟨yp8, trivial⟩ rfl rfl (fun av x => by kernel_rfl)
def z2z (c : GCase) : Option GCase := gd (([] : List Int).length + c.marks.length ≤ SMALL) (gd (([] : List GItem).length + c.busy.length ≤ SMALL) (gd (([] : List Int).length + c.data.length ≤ SMALL) (gd (([] : List GDid).length + c.did.length ≤ SMALL) (some (GCase.mk c.state (([] : List Int) ++ c.marks) (([] : List GItem) ++ c.busy) (([] : List Int) ++ c.data) (([] : List GDid) ++ c.did))))))
def z80 : Con := ⟨86, [.v (.s .kase) false], [((.s .kase), true)], [], fun x => z2z x.1⟩
def yy2 : Fs := ⟨[], [], []⟩
theorem yz7 : yy2.Ok Tryz.prog := fs0
theorem zw6 : z80.Ok Tryz.prog := fn_ok (k := z80) (fn := Tryz.f86) (W := []) (H := []) Tryz.func86 yz7 trivial rfl rfl (fun av x => by kernel_rfl)
def z4r (n : GNet) (people : List Int) (c : GCase) (t : Int) (who : Int) : Option (GCase × Bool) := (z2z c).bind fun x1 => ((z5z n c).bind fun x2 => (if x2 = true then (if decide (c.state = 1) = true then ((z8b n c.marks c.busy t).bind fun x5 => (if x5 = true then ((z58 n people c.did c.busy t).bind fun x7 => ((z7j x7 who).bind fun x8 => (if x8 = true then (if decide ((c.busy.length : Int) = 6) = true then (some (x1, false)) else ((z9q n c.marks t).bind fun x11 => (gd (x1.busy.length + [(GItem.mk t who 0)].length ≤ SMALL) (some ((GCase.mk x1.state x11 (x1.busy ++ [(GItem.mk t who 0)]) x1.data x1.did), true))))) else (some (x1, false))))) else (some (x1, false)))) else (some (x1, false))) else (some (x1, false))))
def z7y : Con := ⟨32, [.v (.s .net) false, .v (.sl .I) false, .v (.s .kase) false, .v .I false, .v .I false], [((.s .kase), true), (.B, true)], [], fun x => z4r x.1 x.2.1 x.2.2.1 x.2.2.2.1 x.2.2.2.2.1⟩
def yd8 : Fs := ⟨[z80, z27, zd6, z0n, z31, z2r], [], []⟩
theorem yf4 : yd8.Ok Tryz.prog := (fsK zw6 (fsK zj9 (fsK y64 (fsK zw5 (fsK y21 (fsK yr5 fs0))))))
theorem y1z : z7y.Ok Tryz.prog := fn_ok (k := z7y) (fn := Tryz.f32) (W := []) (H := []) Tryz.func32 yf4 trivial rfl rfl (fun av x => by kernel_rfl)
def z6w (n : GNet) (c : GCase) (k : Int) (v : Int) (num : Int) : Option (GCase × Bool) := (z2z c).bind fun x1 => ((z5z n c).bind fun x2 => (if x2 = true then (if decide (c.state = 1) = true then (gd (ok64 ((c.busy.length : Int) - 1)) ((z07 k 0 ((c.busy.length : Int) - 1)).bind fun x6 => (if x6 = true then ((z07 v (-1) 2).bind fun x8 => (if x8 = true then ((z07 num (-99) 99).bind fun x10 => (if x10 = true then (if decide ((c.did.length : Int) = 60) = true then (some (x1, false)) else ((getI c.busy k).bind fun x13 => ((ze5 c.data v num).bind fun x14 => (gd (ok64 (x13.did + 1)) ((getI x1.busy k).bind fun x16 => (gd (ok64 (x13.did + 1)) ((getI n.tasks x13.task).bind fun x18 => (if decide ((x13.did + 1) < x18.need) = true then (some ((GCase.mk x1.state x1.marks (x1.busy.set k.toNat (GItem.mk x16.task x16.who (x13.did + 1))) x14 x1.did), true)) else ((z9r n c.marks x13.task x14).bind fun x20 => (if x20.2 = true then (gd ((0 : Int) ≤ k ∧ k ≤ (c.busy.length : Int)) (gd (([] : List GItem).length + (c.busy.take k.toNat).length ≤ SMALL) (gd (ok64 (k + 1)) (gd ((0 : Int) ≤ (k + 1) ∧ (k + 1) ≤ (c.busy.length : Int)) (gd ((([] : List GItem) ++ (c.busy.take k.toNat)).length + (c.busy.drop (k + 1).toNat).length ≤ SMALL) (gd (x1.did.length + [(GDid.mk x13.task x13.who)].length ≤ SMALL) ((getI x20.1 1).bind fun x28 => (if decide (0 < x28) = true then (some ((GCase.mk 2 x20.1 ([] : List GItem) x14 (x1.did ++ [(GDid.mk x13.task x13.who)])), true)) else (some ((GCase.mk x1.state x20.1 ((([] : List GItem) ++ (c.busy.take k.toNat)) ++ (c.busy.drop (k + 1).toNat)) x14 (x1.did ++ [(GDid.mk x13.task x13.who)])), true)))))))))) else ((z2z c).bind fun x30 => (some (x30, false))))))))))))) else (some (x1, false)))) else (some (x1, false)))) else (some (x1, false))))) else (some (x1, false))) else (some (x1, false))))
def z9n : Con := ⟨112, [.v (.s .net) false, .v (.s .kase) false, .v .I false, .v .I false, .v .I false], [((.s .kase), true), (.B, true)], [], fun x => z6w x.1 x.2.1 x.2.2.1 x.2.2.2.1 x.2.2.2.2.1⟩
def yn1 : Fs := ⟨[z80, z27, z0x, zv4, z0p], [], []⟩
theorem yp0 : yn1.Ok Tryz.prog := (fsK zw6 (fsK zj9 (fsK z1d (fsK w0m (fsK yr6 fs0)))))
theorem y46 : z9n.Ok Tryz.prog := fn_ok (k := z9n) (fn := Tryz.f112) (W := []) (H := []) Tryz.func112 yp0 trivial rfl rfl (fun av x => by kernel_rfl)
def z04 (c : GCase) : Option GCase := (z3e c.marks).bind fun x1 => (gd (([] : List GItem).length + c.busy.length ≤ SMALL) ((z3e c.data).bind fun x3 => (gd (([] : List GDid).length + c.did.length ≤ SMALL) (some (GCase.mk c.state x1 (([] : List GItem) ++ c.busy) x3 (([] : List GDid) ++ c.did))))))
def z3g : Con := ⟨84, [.v (.s .kase) false], [((.s .kase), true)], [], fun x => z04 x.1⟩
def y36 : Fs := ⟨[z5d], [], []⟩
theorem y3b : y36.Ok Tryz.prog := (fsK zb6 fs0)
theorem z6n : z3g.Ok Tryz.prog := fn_ok (k := z3g) (fn := Tryz.f84) (W := []) (H := []) Tryz.func84 y3b trivial rfl rfl (fun av x => by kernel_rfl)
def z9i (c : GCase) : Option (GCase × Bool) := (z2z c).bind fun x17 => (some (x17, false))
def z3q (n : GNet) (people : List Int) (c : GCase) (x8 : (List Int)) (kx0_0 : Option (GCase × Bool)) : Nat → Int → Option (GCase × Bool)
  | 0, _ => none
  | n0 + 1, s0_0 => if decide (s0_0 < (x8.length : Int)) = true then ((getI x8 s0_0).bind fun x10 => ((z58 n people c.did c.busy x10).bind fun x11 => (if decide (0 < (x11.length : Int)) = true then ((getI x8 s0_0).bind fun x13 => ((getI x11 0).bind fun x14 => ((z4r n people c x13 x14).bind fun x15 => (some (x15.1, x15.2))))) else (gd (ok64 (s0_0 + 1)) ((z3q n people c x8 kx0_0 n0) (s0_0 + 1)))))) else (kx0_0)
def z9p (n : GNet) (people : List Int) (c : GCase) : Option (GCase × Bool) := (z5z n c).bind fun x1 => (if x1 = true then ((z61 people).bind fun x3 => (if x3 = true then (if decide (c.state = 1) = true then (if decide (0 < (c.busy.length : Int)) = true then ((z6w n c 0 (-1) 0).bind fun x7 => (some (x7.1, x7.2))) else ((z4t n c.marks c.busy).bind fun x8 => (z3q n people c x8 (z9i c) FUEL 0))) else ((z2z c).bind fun x18 => (some (x18, false)))) else ((z2z c).bind fun x19 => (some (x19, false))))) else ((z2z c).bind fun x20 => (some (x20, false))))
def z2q : Con := ⟨43, [.v (.s .net) false, .v (.sl .I) false, .v (.s .kase) false], [((.s .kase), true), (.B, true)], [], fun x => z9p x.1 x.2.1 x.2.2.1⟩
def yn2 : Fs := ⟨[z27, z2a, z9n, z1o, z0n, z7y, z80], [], []⟩
theorem y3j : yn2.Ok Tryz.prog := (fsK zj9 (fsK zk2 (fsK y46 (fsK y20 (fsK zw5 (fsK y1z (fsK zw6 fs0)))))))
def y00 : Tmpl := ⟨[(1, .c (.s .I)), (3, .c (.bx 3 0)), (5, .c (.bx 5 0)), (6, .c (.bx 6 0)), (8, .c (.ref 41)), (9, .c .i)], [(3, .boxT (.s .net)), (5, .boxT (.s .kase)), (6, .box [.i, .nl, .nl, .nl, .nl]), (41, .arr .I true)]⟩
def zs7 : Tmpl := ⟨[(5, .c (.bx 5 0)), (6, .c (.bx 6 0))], [(5, .boxT (.s .kase)), (6, .box [.i, .nl, .nl, .nl, .nl])]⟩
def y8y (av : AV) (x : HP z2q.ps) (n : Nat) (v : y00.den) (K : Ks (CR z2q)) : Option (CR z2q) := z3q v.2.1 v.1.1 v.2.2.1 v.2.2.2.2.1 (zs7.at none (((), (), ()), (v.2.2.1, (v.2.2.2.1.1, (), (), (), (), ()), ())) (K (.exit 0))) n v.1.2.2.2.2.2.1
def zx9 (av : AV) (x : HP z2q.ps) : Hdl (CR z2q) := hnd [] y00 (y8y av x)
theorem y9n : LP z2q Tryz.f43 [0] zx9 := lp_ok (W := []) (H := []) (xs := [zs7]) y3j trivial rfl (fun av x v K => by kernel_rfl) (fun av x n v K => by kernel_rfl)
theorem yr4 : z2q.Ok Tryz.prog := fn_ok (k := z2q) (fn := Tryz.f43) (W := []) (H := [zx9]) Tryz.func43 y3j ⟨y9n, trivial⟩ rfl rfl (fun av x => by kernel_rfl)
def zy9  : Option Int := some (-1)
def z3w (s : List Int) (p : Int → Option Bool) (p0_0 : Int) (kx0_0 : Option Int) : Nat → Int → Option Int
  | 0, _ => none
  | n0 + 1, s0_0 => if decide (s0_0 < p0_0) = true then ((getI s s0_0).bind fun x2 => ((p x2).bind fun x3 => (if x3 = true then (some s0_0) else (gd (ok64 (s0_0 + 1)) ((z3w s p p0_0 kx0_0 n0) (s0_0 + 1)))))) else (kx0_0)
def zd8 (s : List Int) (p : Int → Option Bool) : Option Int := z3w s p (s.length : Int) zy9 FUEL 0
def z2n : Con := ⟨175, [.v (.sl .I) false, .fn .I], [(.I, true)], [], fun x => zd8 x.1 x.2.1⟩
def yw0 : Fs := ⟨[], [], []⟩
theorem y5j : yw0.Ok Tryz.prog := fs0
def y26 : Tmpl := ⟨[(0, .c (.s .I)), (1, .c .fp), (7, .c .i), (8, .c .i)], []⟩
def y0a : Tmpl := ⟨[], []⟩
def yb7 (av : AV) (x : HP z2n.ps) (n : Nat) (v : y26.den) (K : Ks (CR z2n)) : Option (CR z2n) := z3w v.1.1 x.2.1 v.1.2.2.1 (y0a.at (fpOf z2n.ps x av) ((), ()) (K (.exit 0))) n v.1.2.2.2.1
def y12 (av : AV) (x : HP z2n.ps) : Hdl (CR z2n) := hnd [] y26 (yb7 av x)
theorem yg1 : LP z2n Tryz.f175 [0] y12 := lp_ok (W := []) (H := []) (xs := [y0a]) y5j trivial rfl (fun av x v K => by kernel_rfl) (fun av x n v K => by kernel_rfl)
theorem w0d : z2n.Ok Tryz.prog := fn_ok (k := z2n) (fn := Tryz.f175) (W := []) (H := [y12]) Tryz.func175 y5j ⟨yg1, trivial⟩ rfl rfl (fun av x => by kernel_rfl)
def z1p (s : List Int) (p : Int → Option Bool) : Option Bool := (zd8 s p).bind fun x1 => (some (decide (0 ≤ x1)))
def z3d : Con := ⟨118, [.v (.sl .I) false, .fn .I], [(.B, true)], [], fun x => z1p x.1 x.2.1⟩
def y99 : Fs := ⟨[z2n], [], []⟩
theorem y9e : y99.Ok Tryz.prog := (fsK w0d fs0)
theorem z5g : z3d.Ok Tryz.prog := fn_ok (k := z3d) (fn := Tryz.f118) (W := []) (H := []) Tryz.func118 y9e trivial rfl rfl (fun av x => by kernel_rfl)
def zc2  : Option Int := some (-1)
def z23 (s : List GTask) (p : GTask → Option Bool) (p0_0 : Int) (kx0_0 : Option Int) : Nat → Int → Option Int
  | 0, _ => none
  | n0 + 1, s0_0 => if decide (s0_0 < p0_0) = true then ((getI s s0_0).bind fun x2 => ((p x2).bind fun x3 => (if x3 = true then (some s0_0) else (gd (ok64 (s0_0 + 1)) ((z23 s p p0_0 kx0_0 n0) (s0_0 + 1)))))) else (kx0_0)
def z69 (s : List GTask) (p : GTask → Option Bool) : Option Int := z23 s p (s.length : Int) zc2 FUEL 0
def z10 : Con := ⟨176, [.v (.sl (.s .task)) false, .fn (.s .task)], [(.I, true)], [], fun x => z69 x.1 x.2.1⟩
def y70 : Fs := ⟨[], [], []⟩
theorem zo3 : y70.Ok Tryz.prog := fs0
def zh1 : Tmpl := ⟨[(0, .c (.s (.s .task))), (1, .c .fp), (7, .c .i), (8, .c .i)], []⟩
def zc6 : Tmpl := ⟨[], []⟩
def y4l (av : AV) (x : HP z10.ps) (n : Nat) (v : zh1.den) (K : Ks (CR z10)) : Option (CR z10) := z23 v.1.1 x.2.1 v.1.2.2.1 (zc6.at (fpOf z10.ps x av) ((), ()) (K (.exit 0))) n v.1.2.2.2.1
def zf7 (av : AV) (x : HP z10.ps) : Hdl (CR z10) := hnd [] zh1 (y4l av x)
theorem y4v : LP z10 Tryz.f176 [0] zf7 := lp_ok (W := []) (H := []) (xs := [zc6]) zo3 trivial rfl (fun av x v K => by kernel_rfl) (fun av x n v K => by kernel_rfl)
theorem y7o : z10.Ok Tryz.prog := fn_ok (k := z10) (fn := Tryz.f176) (W := []) (H := [zf7]) Tryz.func176 zo3 ⟨y4v, trivial⟩ rfl rfl (fun av x => by kernel_rfl)
def z4h (s : List GTask) (p : GTask → Option Bool) : Option Bool := (z69 s p).bind fun x1 => (some (decide (0 ≤ x1)))
def z6m : Con := ⟨123, [.v (.sl (.s .task)) false, .fn (.s .task)], [(.B, true)], [], fun x => z4h x.1 x.2.1⟩
def y35 : Fs := ⟨[z10], [], []⟩
theorem y3a : y35.Ok Tryz.prog := (fsK y7o fs0)
theorem y3e : z6m.Ok Tryz.prog := fn_ok (k := z6m) (fn := Tryz.f123) (W := []) (H := []) Tryz.func123 y3a trivial rfl rfl (fun av x => by kernel_rfl)
def zc1  : Option Int := some (-1)
def z22 (s : List GItem) (p : GItem → Option Bool) (p0_0 : Int) (kx0_0 : Option Int) : Nat → Int → Option Int
  | 0, _ => none
  | n0 + 1, s0_0 => if decide (s0_0 < p0_0) = true then ((getI s s0_0).bind fun x2 => ((p x2).bind fun x3 => (if x3 = true then (some s0_0) else (gd (ok64 (s0_0 + 1)) ((z22 s p p0_0 kx0_0 n0) (s0_0 + 1)))))) else (kx0_0)
def z68 (s : List GItem) (p : GItem → Option Bool) : Option Int := z22 s p (s.length : Int) zc1 FUEL 0
def z0z : Con := ⟨169, [.v (.sl (.s .item)) false, .fn (.s .item)], [(.I, true)], [], fun x => z68 x.1 x.2.1⟩
def y6z : Fs := ⟨[], [], []⟩
theorem zo2 : y6z.Ok Tryz.prog := fs0
def zh0 : Tmpl := ⟨[(0, .c (.s (.s .item))), (1, .c .fp), (7, .c .i), (8, .c .i)], []⟩
def zc5 : Tmpl := ⟨[], []⟩
def y4k (av : AV) (x : HP z0z.ps) (n : Nat) (v : zh0.den) (K : Ks (CR z0z)) : Option (CR z0z) := z22 v.1.1 x.2.1 v.1.2.2.1 (zc5.at (fpOf z0z.ps x av) ((), ()) (K (.exit 0))) n v.1.2.2.2.1
def zf6 (av : AV) (x : HP z0z.ps) : Hdl (CR z0z) := hnd [] zh0 (y4k av x)
theorem y4u : LP z0z Tryz.f169 [0] zf6 := lp_ok (W := []) (H := []) (xs := [zc5]) zo2 trivial rfl (fun av x v K => by kernel_rfl) (fun av x n v K => by kernel_rfl)
theorem y7n : z0z.Ok Tryz.prog := fn_ok (k := z0z) (fn := Tryz.f169) (W := []) (H := [zf6]) Tryz.func169 zo2 ⟨y4u, trivial⟩ rfl rfl (fun av x => by kernel_rfl)
def z4g (s : List GItem) (p : GItem → Option Bool) : Option Bool := (z68 s p).bind fun x1 => (some (decide (0 ≤ x1)))
def z6l : Con := ⟨107, [.v (.sl (.s .item)) false, .fn (.s .item)], [(.B, true)], [], fun x => z4g x.1 x.2.1⟩
def y34 : Fs := ⟨[z0z], [], []⟩
theorem y39 : y34.Ok Tryz.prog := (fsK y7n fs0)
theorem y3d : z6l.Ok Tryz.prog := fn_ok (k := z6l) (fn := Tryz.f107) (W := []) (H := []) Tryz.func107 y39 trivial rfl rfl (fun av x => by kernel_rfl)
def y8h  : Option Int := some (-1)
def z7f (s : List Int) (v : Int) (p0_0 : Int) (kx0_0 : Option Int) : Nat → Int → Option Int
  | 0, _ => none
  | n0 + 1, s0_0 => if decide (s0_0 < p0_0) = true then ((getI s s0_0).bind fun x2 => (if decide (v = x2) = true then (some s0_0) else (gd (ok64 (s0_0 + 1)) ((z7f s v p0_0 kx0_0 n0) (s0_0 + 1))))) else (kx0_0)
def y5x (s : List Int) (v : Int) : Option Int := z7f s v (s.length : Int) y8h FUEL 0
def z7v : Con := ⟨163, [.v (.sl .I) false, .v .I false], [(.I, true)], [], fun x => y5x x.1 x.2.1⟩
def w89 : Fs := ⟨[], [], []⟩
theorem w2i : w89.Ok Tryz.prog := fs0
def yk3 : Tmpl := ⟨[(0, .c (.s .I)), (1, .c .i), (7, .c .i), (8, .c .i)], []⟩
def y8s : Tmpl := ⟨[], []⟩
def w4d (av : AV) (x : HP z7v.ps) (n : Nat) (v : yk3.den) (K : Ks (CR z7v)) : Option (CR z7v) := z7f v.1.1 v.1.2.1 v.1.2.2.1 (y8s.at none ((), ()) (K (.exit 0))) n v.1.2.2.2.1
def yf6 (av : AV) (x : HP z7v.ps) : Hdl (CR z7v) := hnd [] yk3 (w4d av x)
theorem w4v : LP z7v Tryz.f163 [0] yf6 := lp_ok (W := []) (H := []) (xs := [y8s]) w2i trivial rfl (fun av x v K => by kernel_rfl) (fun av x n v K => by kernel_rfl)
theorem w9c : z7v.Ok Tryz.prog := fn_ok (k := z7v) (fn := Tryz.f163) (W := []) (H := [yf6]) Tryz.func163 w2i ⟨w4v, trivial⟩ rfl rfl (fun av x => by kernel_rfl)
def z7e (s : List Int) (v : Int) : Option Bool := (y5x s v).bind fun x1 => (some (decide (0 ≤ x1)))
def za1 : Con := ⟨92, [.v (.sl .I) false, .v .I false], [(.B, true)], [], fun x => z7e x.1 x.2.1⟩
def w1v : Fs := ⟨[z7v], [], []⟩
theorem w2h : w1v.Ok Tryz.prog := (fsK w9c fs0)
theorem y1t : za1.Ok Tryz.prog := fn_ok (k := za1) (fn := Tryz.f92) (W := []) (H := []) Tryz.func92 w2h trivial rfl rfl (fun av x => by kernel_rfl)
def y1k  : Option Int := some (-1)
def z4k (s : List GDid) (v : GDid) (p0_0 : Int) (kx0_0 : Option Int) : Nat → Int → Option Int
  | 0, _ => none
  | n0 + 1, s0_0 => if decide (s0_0 < p0_0) = true then ((getI s s0_0).bind fun x2 => (if decide ([v.task, v.who] = [x2.task, x2.who]) = true then (some s0_0) else (gd (ok64 (s0_0 + 1)) ((z4k s v p0_0 kx0_0 n0) (s0_0 + 1))))) else (kx0_0)
def zi7 (s : List GDid) (v : GDid) : Option Int := z4k s v (s.length : Int) y1k FUEL 0
def z43 : Con := ⟨204, [.v (.sl (.s .did)) false, .v (.s .did) false], [(.I, true)], [], fun x => zi7 x.1 x.2.1⟩
def w1w : Fs := ⟨[], [], []⟩
theorem y80 : w1w.Ok Tryz.prog := fs0
def y48 : Tmpl := ⟨[(0, .c (.s (.s .did))), (3, .c (.bx 3 0)), (7, .c .i), (8, .c .i)], [(3, .boxT (.s .did))]⟩
def y2f : Tmpl := ⟨[], []⟩
def yk7 (av : AV) (x : HP z43.ps) (n : Nat) (v : y48.den) (K : Ks (CR z43)) : Option (CR z43) := z4k v.1.1 v.2.1 v.1.2.2.1 (y2f.at none ((), ()) (K (.exit 0))) n v.1.2.2.2.1
def y3q (av : AV) (x : HP z43.ps) : Hdl (CR z43) := hnd [] y48 (yk7 av x)
theorem yp3 : LP z43 Tryz.f204 [0] y3q := lp_ok (W := []) (H := []) (xs := [y2f]) y80 trivial rfl (fun av x v K => by kernel_rfl) (fun av x n v K => by kernel_rfl)
theorem w35 : z43.Ok Tryz.prog := fn_ok (k := z43) (fn := Tryz.f204) (W := []) (H := [y3q]) Tryz.func204 y80 ⟨yp3, trivial⟩ rfl rfl (fun av x => by kernel_rfl)
def zg5 (s : List GDid) (v : GDid) : Option Bool := (zi7 s v).bind fun x1 => (some (decide (0 ≤ x1)))
def zg1 : Con := ⟨170, [.v (.sl (.s .did)) false, .v (.s .did) false], [(.B, true)], [], fun x => zg5 x.1 x.2.1⟩
def yd2 : Fs := ⟨[z43], [], []⟩
theorem ye9 : yd2.Ok Tryz.prog := (fsK w35 fs0)
theorem yh1 : zg1.Ok Tryz.prog := fn_ok (k := zg1) (fn := Tryz.f170) (W := []) (H := []) Tryz.func170 ye9 trivial rfl rfl (fun av x => by kernel_rfl)
def zm6 (n : Int) : Option Bool := (z5k n).bind fun x1 => (some (!x1))
def zn2 : FCon := ⟨162, .I, [], fun z c => zm6 z ⟩
def ym1 : Fs := ⟨[z6t], [], []⟩
theorem yo4 : ym1.Ok Tryz.prog := (fsK zn1 fs0)
theorem yq6 : zn2.Ok Tryz.prog := FCon.ok (fn_ok (k := zn2.con) (fn := Tryz.f162) (W := []) (H := []) Tryz.func162 yo4 trivial rfl rfl (fun av x => by kernel_rfl))
def z5v (data : List Int) : Option Bool := if decide ((data.length : Int) = 3) = true then ((z1p data (fun z => zm6 z )).bind fun x2 => (some (!x2))) else (some false)
def z7c : Con := ⟨91, [.v (.sl .I) false], [(.B, true)], [], fun x => z5v x.1⟩
def w1y : Fs := ⟨[z3d], [zn2], []⟩
theorem w2j : w1y.Ok Tryz.prog := (fsK z5g (fsF yq6 fs0))
theorem zj7 : z7c.Ok Tryz.prog := fn_ok (k := z7c) (fn := Tryz.f91) (W := []) (H := []) Tryz.func91 w2j trivial rfl rfl (fun av x => by kernel_rfl)
def z86 (e : GAsk) (data : List Int) : Option Bool := (z7g e).bind fun x1 => (if x1 = true then ((z5v data).bind fun x3 => (if x3 = true then (if decide (e.op = 1) = true then ((getI data e.var).bind fun x6 => (some (decide (x6 < e.k)))) else (if decide (e.op = 2) = true then ((getI data e.var).bind fun x8 => (some (decide (x8 = e.k)))) else (if decide (e.op = 3) = true then ((getI data e.var).bind fun x10 => (some (decide (e.k < x10)))) else (some true)))) else (some false))) else (some false))
def zg3 : Con := ⟨120, [.v (.s .ask) false, .v (.sl .I) false], [(.B, true)], [], fun x => z86 x.1 x.2.1⟩
def yd5 : Fs := ⟨[zi4, z7c], [], []⟩
theorem yf1 : yd5.Ok Tryz.prog := (fsK y8i (fsK zj7 fs0))
theorem yh4 : zg3.Ok Tryz.prog := fn_ok (k := zg3) (fn := Tryz.f120) (W := []) (H := []) Tryz.func120 yf1 trivial rfl rfl (fun av x => by kernel_rfl)
def zp8  : Option Bool := some true
def z3p (list : List Int) (places : Int) (without : List Int) (p0_0 : Int) (kx0_0 : Option Bool) : Nat → Int → Int → Option Bool
  | 0, _, _ => none
  | n0 + 1, s0_0, s0_1 => if decide (s0_0 < p0_0) = true then ((getI list s0_0).bind fun x2 => (gd (ok64 (s0_1 + 1)) (gd (ok64 (places - 1)) ((z0u x2 (s0_1 + 1) (places - 1)).bind fun x5 => (if x5 = true then ((z7e without x2).bind fun x7 => (if x7 = true then (some false) else (gd (ok64 (s0_0 + 1)) ((z3p list places without p0_0 kx0_0 n0) (s0_0 + 1) x2)))) else (some false)))))) else (kx0_0)
def z6v (list : List Int) (places : Int) (without : List Int) : Option Bool := z3p list places without (list.length : Int) zp8 FUEL 0 (-1)
def z2p : Con := ⟨178, [.v (.sl .I) false, .v .I false, .v (.sl .I) false], [(.B, true)], [], fun x => z6v x.1 x.2.1 x.2.2.1⟩
def ym6 : Fs := ⟨[z2e, za1], [], []⟩
theorem y3h : ym6.Ok Tryz.prog := (fsK z3h (fsK y1t fs0))
def zz8 : Tmpl := ⟨[(1, .c .i), (2, .c (.s .I)), (7, .c .i), (10, .c (.s .I)), (11, .c .i), (12, .c .i)], []⟩
def zs5 : Tmpl := ⟨[], []⟩
def y8w (av : AV) (x : HP z2p.ps) (n : Nat) (v : zz8.den) (K : Ks (CR z2p)) : Option (CR z2p) := z3p v.1.2.2.2.1 v.1.1 v.1.2.1 v.1.2.2.2.2.1 (zs5.at none ((), ()) (K (.exit 0))) n v.1.2.2.2.2.2.1 v.1.2.2.1
def zx7 (av : AV) (x : HP z2p.ps) : Hdl (CR z2p) := hnd [] zz8 (y8w av x)
theorem y9l : LP z2p Tryz.f178 [0] zx7 := lp_ok (W := []) (H := []) (xs := [zs5]) y3h trivial rfl (fun av x v K => by kernel_rfl) (fun av x n v K => by kernel_rfl)
theorem yr1 : z2p.Ok Tryz.prog := fn_ok (k := z2p) (fn := Tryz.f178) (W := []) (H := [zx7]) Tryz.func178 y3h ⟨y9l, trivial⟩ rfl rfl (fun av x => by kernel_rfl)
def z56 (t : GTask) : Option Bool := (z0u (t.out.length : Int) 1 3).bind fun x21 => (some x21)
def z0y (t : GTask) (places : Int) (p0_0 : List GFlow) (p0_1 : Int) (kx0_0 : Option Bool) : Nat → Int → List Int → Option Bool
  | 0, _, _ => none
  | n0 + 1, s0_0, m0_1 => if decide (s0_0 < p0_1) = true then ((getI p0_0 s0_0).bind fun x2 => (if decide (t.split = 1) = true then (gd (ok64 (places - 1)) ((z0u x2.to 0 (places - 1)).bind fun x5 => (if x5 = true then (if decide (x2.to ∈ m0_1) = true then (some false) else ((z7g x2.if_).bind fun x8 => (if x8 = true then (if ((decide (x2.if_.op = 0)) == true) = true then (gd (ok64 (s0_0 + 1)) ((z0y t places p0_0 p0_1 kx0_0 n0) (s0_0 + 1) (insKey m0_1 x2.to))) else (some false)) else (some false)))) else (some false)))) else (gd (ok64 ((t.out.length : Int) - 1)) (gd (ok64 (places - 1)) ((z0u x2.to 0 (places - 1)).bind fun x14 => (if x14 = true then (if decide (x2.to ∈ m0_1) = true then (some false) else ((z7g x2.if_).bind fun x17 => (if x17 = true then (if ((decide (x2.if_.op = 0)) == (decide (s0_0 = ((t.out.length : Int) - 1)))) = true then (gd (ok64 (s0_0 + 1)) ((z0y t places p0_0 p0_1 kx0_0 n0) (s0_0 + 1) (insKey m0_1 x2.to))) else (some false)) else (some false)))) else (some false))))))) else (kx0_0)
def z4i (t : GTask) (places : Int) : Option Bool := z0y t places t.out (t.out.length : Int) (z56 t) FUEL 0 (insKey ([] : List Int) 0)
def z0s : Con := ⟨179, [.v (.s .task) false, .v .I false], [(.B, true)], [], fun x => z4i x.1 x.2.1⟩
def y38 : Fs := ⟨[z2e, zi4], [], []⟩
theorem zb9 : y38.Ok Tryz.prog := (fsK z3h (fsK y8i fs0))
def z98 : Tmpl := ⟨[(1, .c .i), (2, .c (.bx 2 0)), (5, .c (.bx 9 0)), (12, .c (.s (.s .flow))), (13, .c .i), (14, .c .i)], [(2, .boxT (.s .task)), (9, .mp)]⟩
def z91 : Tmpl := ⟨[(2, .c (.bx 2 0))], [(2, .boxT (.s .task))]⟩
def y0k (av : AV) (x : HP z0s.ps) (n : Nat) (v : z98.den) (K : Ks (CR z0s)) : Option (CR z0s) := z0y v.2.1 v.1.1 v.1.2.2.2.1 v.1.2.2.2.2.1 (z91.at none (((), ()), (v.2.1, ())) (K (.exit 0))) n v.1.2.2.2.2.2.1 v.2.2.1
def z93 (av : AV) (x : HP z0s.ps) : Hdl (CR z0s) := hnd [] z98 (y0k av x)
theorem y0m : LP z0s Tryz.f179 [0] z93 := lp_ok (W := []) (H := []) (xs := [z91]) zb9 trivial rfl (fun av x v K => by kernel_rfl) (fun av x n v K => by kernel_rfl)
theorem y3f : z0s.Ok Tryz.prog := fn_ok (k := z0s) (fn := Tryz.f179) (W := []) (H := [z93]) Tryz.func179 zb9 ⟨y0m, trivial⟩ rfl rfl (fun av x => by kernel_rfl)
def z6c (t : GTask) (places : Int) (tasks : Int) : Option Bool := (ze2 t.join).bind fun x1 => (if x1 = true then ((ze2 t.split).bind fun x3 => (if x3 = true then ((z0u (t.in_.length : Int) 1 3).bind fun x5 => (if x5 = true then ((z6v t.in_ places [1]).bind fun x7 => (if x7 = true then ((z4i t places).bind fun x9 => (if x9 = true then ((z6v t.clear places [0, 1]).bind fun x11 => (if x11 = true then ((z88 t.role).bind fun x13 => (if x13 = true then (gd (ok64 (tasks - 1)) ((z0u t.apart (-1) (tasks - 1)).bind fun x16 => (if x16 = true then ((z0u t.all 1 3).bind fun x18 => (if x18 = true then ((z0u t.need 1 t.all).bind fun x20 => (some x20)) else (some false))) else (some false)))) else (some false))) else (some false))) else (some false))) else (some false))) else (some false))) else (some false))) else (some false))
def z9e : Con := ⟨125, [.v (.s .task) false, .v .I false, .v .I false], [(.B, true)], [], fun x => z6c x.1 x.2.1 x.2.2.1⟩
def y72 : Fs := ⟨[zv1, z2e, z2p, z0s, zd5], [], []⟩
theorem y77 : y72.Ok Tryz.prog := (fsK w0h (fsK z3h (fsK yr1 (fsK y3f (fsK y62 fs0)))))
theorem y7p : z9e.Ok Tryz.prog := fn_ok (k := z9e) (fn := Tryz.f125) (W := []) (H := []) Tryz.func125 y77 trivial rfl rfl (fun av x => by kernel_rfl)
def zm7 (t : GTask) (n : GNet) : Option Bool := (z6c t n.places (n.tasks.length : Int)).bind fun x1 => (some (!x1))
def zn3 : FCon := ⟨124, (.s .task), [(.s .net)], fun z c => zm7 z c.1⟩
def ym4 : Fs := ⟨[z9e], [], []⟩
theorem yo5 : ym4.Ok Tryz.prog := (fsK y7p fs0)
theorem yq9 : zn3.Ok Tryz.prog := FCon.ok (fn_ok (k := zn3.con) (fn := Tryz.f124) (W := []) (H := []) Tryz.func124 yo5 trivial rfl rfl (fun av x => by kernel_rfl))
def za5 (n : GNet) : Option Bool := (zn0 n.places (n.tasks.length : Int)).bind fun x1 => (if x1 = true then ((z4h n.tasks (fun z => zm7 z n)).bind fun x3 => (some (!x3))) else (some false))
def zi5 : Con := ⟨52, [.v (.s .net) false], [(.B, true)], [], fun x => za5 x.1⟩
def w21 : Fs := ⟨[zm2, z6m], [zn3], []⟩
theorem w2m : w21.Ok Tryz.prog := (fsK yr3 (fsK y3e (fsF yq9 fs0)))
theorem y8j : zi5.Ok Tryz.prog := fn_ok (k := zi5) (fn := Tryz.f52) (W := []) (H := []) Tryz.func52 w2m trivial rfl rfl (fun av x => by kernel_rfl)
def z4b (p : Int) (out : List Bool) : Option Bool := (getI out p).bind fun x1 => (some x1)
def z62 : FCon := ⟨217, .I, [(.sl .B)], fun z c => z4b z c.1⟩
def y0u : Fs := ⟨[], [], []⟩
theorem y0y : y0u.Ok Tryz.prog := fs0
theorem y1v : z62.Ok Tryz.prog := FCon.ok (fn_ok (k := z62.con) (fn := Tryz.f217) (W := []) (H := []) Tryz.func217 y0y trivial rfl rfl (fun av x => by kernel_rfl))
def z94 (s1_0 : List GTask) (s1_1 : Int) (s1_2 : Int) (bk1 : List GTask → Int → Int → Bool → List Bool → Option (List Bool)) (s2_1 : Bool) (l2_2 : List Bool) : Option (List Bool) := gd (ok64 (s1_2 + 1)) (bk1 s1_0 s1_1 (s1_2 + 1) s2_1 l2_2)
def z0e (p2_0 : List GFlow) (p2_1 : Int) (kx2_0 : Bool → List Bool → Option (List Bool)) : Nat → Int → Bool → List Bool → Option (List Bool)
  | 0, _, _, _ => none
  | n2 + 1, s2_0, s2_1, l2_2 => if decide (s2_0 < p2_1) = true then ((getI p2_0 s2_0).bind fun x11 => (if s2_1 = true then ((getI l2_2 x11.to).bind fun x13 => (gd (ok64 (s2_0 + 1)) ((z0e p2_0 p2_1 kx2_0 n2) (s2_0 + 1) true (l2_2.set x11.to.toNat true)))) else ((getI l2_2 x11.to).bind fun x15 => ((getI l2_2 x11.to).bind fun x16 => (gd (ok64 (s2_0 + 1)) ((z0e p2_0 p2_1 kx2_0 n2) (s2_0 + 1) (!x15) (l2_2.set x11.to.toNat true))))))) else (kx2_0 s2_1 l2_2)
def z5l (bk0 : Bool → List Bool → Option (List Bool)) (s1_3 : Bool) (l1_4 : List Bool) : Option (List Bool) := bk0 s1_3 l1_4
def z0a (but : Int) (kx1_0 : Bool → List Bool → Option (List Bool)) : Nat → List GTask → Int → Int → Bool → List Bool → Option (List Bool)
  | 0, _, _, _, _, _ => none
  | n1 + 1, s1_0, s1_1, s1_2, s1_3, l1_4 => if decide (s1_2 < s1_1) = true then ((getI s1_0 s1_2).bind fun x5 => (if decide (s1_2 = but) = true then (gd (ok64 (s1_2 + 1)) ((z0a but kx1_0 n1) s1_0 s1_1 (s1_2 + 1) s1_3 l1_4)) else ((z1p x5.in_ (fun z => z4b z l1_4)).bind fun x8 => (if x8 = true then (z0e x5.out (x5.out.length : Int) (z94 s1_0 s1_1 s1_2 (z0a but kx1_0 n1)) FUEL 0 s1_3 l1_4) else (gd (ok64 (s1_2 + 1)) ((z0a but kx1_0 n1) s1_0 s1_1 (s1_2 + 1) s1_3 l1_4)))))) else (kx1_0 s1_3 l1_4)
def z95 (l0_1 : List Bool) : Option (List Bool) := some l0_1
def z0r (n : GNet) (but : Int) (kx0_0 : List Bool → Option (List Bool)) : Nat → Bool → List Bool → Option (List Bool)
  | 0, _, _ => none
  | n0 + 1, s0_0, l0_1 => if s0_0 = true then (z0a but (z5l (z0r n but kx0_0 n0)) FUEL n.tasks (n.tasks.length : Int) 0 false l0_1) else (kx0_0 l0_1)
def z55 (n : GNet) (place : Int) (but : Int) : Option (List Bool) := gd ((0 : Int) ≤ n.places ∧ n.places ≤ (1000000000 : Int)) ((getI (List.replicate n.places.toNat false) place).bind fun x2 => (z0r n but z95 FUEL true ((List.replicate n.places.toNat false).set place.toNat true)))
def z03 : Con := ⟨202, [.v (.s .net) false, .v .I false, .v .I false], [((.sl .B), true)], [], fun x => z55 x.1 x.2.1 x.2.2.1⟩
def y4q : Fs := ⟨[z3d], [z62], []⟩
theorem z52 : y4q.Ok Tryz.prog := (fsK z5g (fsF y1v fs0))
def z71 : Tmpl := ⟨[(2, .c .i), (3, .c (.bx 3 0)), (7, .c (.bx 7 0)), (8, .c .b), (21, .c (.s (.s .task))), (22, .c .i), (23, .c .i), (39, .c (.s (.s .flow))), (40, .c .i), (41, .c .i)], [(3, .boxT (.s .net)), (7, .box [.ref 15]), (15, .arr .B true)]⟩
def z6i : Tmpl := ⟨[(2, .c .i), (3, .c (.bx 3 0)), (7, .c (.bx 7 0)), (8, .c .b), (21, .c (.s (.s .task))), (22, .c .i), (23, .c .i)], [(3, .boxT (.s .net)), (7, .box [.ref 15]), (15, .arr .B true)]⟩
def zl7 (av : AV) (x : HP z03.ps) (n : Nat) (v : z71.den) (K : Ks (CR z03)) : Option (CR z03) := z0e v.1.2.2.2.2.2.2.2.1 v.1.2.2.2.2.2.2.2.2.1 (fun s2_1 l2_2 => z6i.at none ((v.1.1, (), (), s2_1, v.1.2.2.2.2.1, v.1.2.2.2.2.2.1, v.1.2.2.2.2.2.2.1, ()), (v.2.1, ((), ()), l2_2, ())) (K (.exit 4))) n v.1.2.2.2.2.2.2.2.2.2.1 v.1.2.2.2.1 v.2.2.2.1
def z6s (av : AV) (x : HP z03.ps) : Hdl (CR z03) := hnd [] z71 (zl7 av x)
theorem zm5 : LP z03 Tryz.f202 [0, 0, 0] z6s := lp_ok (W := []) (H := []) (xs := [z6i]) z52 trivial rfl (fun av x v K => by kernel_rfl) (fun av x n v K => by kernel_rfl)
def z8z : Tmpl := ⟨[(2, .c .i), (3, .c (.bx 3 0)), (7, .c (.bx 7 0)), (8, .c .b), (21, .c (.s (.s .task))), (22, .c .i), (23, .c .i)], [(3, .boxT (.s .net)), (7, .box [.ref 15]), (15, .arr .B true)]⟩
def z7n : Tmpl := ⟨[(2, .c .i), (3, .c (.bx 3 0)), (7, .c (.bx 7 0)), (8, .c .b)], [(3, .boxT (.s .net)), (7, .box [.ref 15]), (15, .arr .B true)]⟩
def zt9 (av : AV) (x : HP z03.ps) (n : Nat) (v : z8z.den) (K : Ks (CR z03)) : Option (CR z03) := z0a v.1.1 (fun s1_3 l1_4 => z7n.at none ((v.1.1, (), (), s1_3, ()), (v.2.1, ((), ()), l1_4, ())) (K (.exit 2))) n v.1.2.2.2.2.1 v.1.2.2.2.2.2.1 v.1.2.2.2.2.2.2.1 v.1.2.2.2.1 v.2.2.2.1
def z7t (av : AV) (x : HP z03.ps) : Hdl (CR z03) := hnd [] z8z (zt9 av x)
theorem zw0 : LP z03 Tryz.f202 [0, 0] z7t := lp_ok (W := []) (H := [z6s]) (xs := [z7n]) z52 ⟨zm5, trivial⟩ rfl (fun av x v K => by kernel_rfl) (fun av x n v K => by kernel_rfl)
def za9 : Tmpl := ⟨[(2, .c .i), (3, .c (.bx 3 0)), (7, .c (.bx 7 0)), (8, .c .b)], [(3, .boxT (.s .net)), (7, .box [.ref 15]), (15, .arr .B true)]⟩
def z99 : Tmpl := ⟨[(7, .c (.bx 7 0))], [(7, .box [.ref 15]), (15, .arr .B true)]⟩
def y0n (av : AV) (x : HP z03.ps) (n : Nat) (v : za9.den) (K : Ks (CR z03)) : Option (CR z03) := z0r v.2.1 v.1.1 (fun l0_1 => z99.at none (((), ()), (((), ()), l0_1, ())) (K (.exit 0))) n v.1.2.2.2.1 v.2.2.2.1
def z9y (av : AV) (x : HP z03.ps) : Hdl (CR z03) := hnd [] za9 (y0n av x)
theorem y1g : LP z03 Tryz.f202 [0] z9y := lp_ok (W := []) (H := [z7t]) (xs := [z99]) z52 ⟨zw0, trivial⟩ rfl (fun av x v K => by kernel_rfl) (fun av x n v K => by kernel_rfl)
theorem y52 : z03.Ok Tryz.prog := fn_ok (k := z03) (fn := Tryz.f202) (W := []) (H := [z9y]) Tryz.func202 z52 ⟨y1g, trivial⟩ rfl rfl (fun av x => by kernel_rfl)
def z54 (m : Int) : Option Bool := (z0u m 0 4).bind fun x1 => (some (!x1))
def z5a : FCon := ⟨199, .I, [], fun z c => z54 z ⟩
def zu2 : Fs := ⟨[z2e], [], []⟩
theorem zu5 : zu2.Ok Tryz.prog := (fsK z3h fs0)
theorem zw3 : z5a.Ok Tryz.prog := FCon.ok (fn_ok (k := z5a.con) (fn := Tryz.f199) (W := []) (H := []) Tryz.func199 zu5 trivial rfl rfl (fun av x => by kernel_rfl))
def z32 (n : GNet) (marks : List Int) : Option Bool := if decide ((marks.length : Int) = n.places) = true then ((z1p marks (fun z => z54 z )).bind fun x2 => (some (!x2))) else (some false)
def z45 : Con := ⟨164, [.v (.s .net) false, .v (.sl .I) false], [(.B, true)], [], fun x => z32 x.1 x.2.1⟩
def y0t : Fs := ⟨[z3d], [z5a], []⟩
theorem y0x : y0t.Ok Tryz.prog := (fsK z5g (fsF zw3 fs0))
theorem za6 : z45.Ok Tryz.prog := fn_ok (k := z45) (fn := Tryz.f164) (W := []) (H := []) Tryz.func164 y0x trivial rfl rfl (fun av x => by kernel_rfl)
def z5w (n : GNet) (marks : List Int) : Option Bool := (za5 n).bind fun x1 => (if x1 = true then ((z32 n marks).bind fun x3 => (some x3)) else (some false))
def z7d : Con := ⟨94, [.v (.s .net) false, .v (.sl .I) false], [(.B, true)], [], fun x => z5w x.1 x.2.1⟩
def w20 : Fs := ⟨[zi5, z45], [], []⟩
theorem w2l : w20.Ok Tryz.prog := (fsK y8j (fsK za6 fs0))
theorem zj8 : z7d.Ok Tryz.prog := fn_ok (k := z7d) (fn := Tryz.f94) (W := []) (H := []) Tryz.func94 w2l trivial rfl rfl (fun av x => by kernel_rfl)
def z87 (busy : List GItem) : Option Bool := some (decide ((busy.length : Int) ≤ 6))
def z1f (n : GNet) (p0_0 : List GItem) (p0_1 : Int) (kx0_0 : Option Bool) : Nat → Int → Option Bool
  | 0, _ => none
  | n0 + 1, s0_0 => if decide (s0_0 < p0_1) = true then ((getI p0_0 s0_0).bind fun x2 => ((z0g n x2.task).bind fun x3 => (if x3 = true then ((z5y x2.who).bind fun x5 => (if x5 = true then ((getI n.tasks x2.task).bind fun x7 => (gd (ok64 (x7.need - 1)) ((z0u x2.did 0 (x7.need - 1)).bind fun x9 => (if x9 = true then (gd (ok64 (s0_0 + 1)) ((z1f n p0_0 p0_1 kx0_0 n0) (s0_0 + 1))) else (some false))))) else (some false))) else (some false)))) else (kx0_0)
def z24 (n : GNet) (busy : List GItem) : Option Bool := z1f n busy (busy.length : Int) (z87 busy) FUEL 0
def z0f : Con := ⟨95, [.v (.s .net) false, .v (.sl (.s .item)) false], [(.B, true)], [], fun x => z24 x.1 x.2.1⟩
def y37 : Fs := ⟨[z1a, z7x, z2e], [], []⟩
theorem zb8 : y37.Ok Tryz.prog := (fsK z34 (fsK y1x (fsK z3h fs0)))
def z97 : Tmpl := ⟨[(1, .c (.s (.s .item))), (2, .c (.bx 2 0)), (7, .c (.s (.s .item))), (8, .c .i), (9, .c .i)], [(2, .boxT (.s .net))]⟩
def z90 : Tmpl := ⟨[(1, .c (.s (.s .item)))], []⟩
def y0j (av : AV) (x : HP z0f.ps) (n : Nat) (v : z97.den) (K : Ks (CR z0f)) : Option (CR z0f) := z1f v.2.1 v.1.2.2.1 v.1.2.2.2.1 (z90.at none ((v.1.1, ()), ()) (K (.exit 0))) n v.1.2.2.2.2.1
def z92 (av : AV) (x : HP z0f.ps) : Hdl (CR z0f) := hnd [] z97 (y0j av x)
theorem y0l : LP z0f Tryz.f95 [0] z92 := lp_ok (W := []) (H := []) (xs := [z90]) zb8 trivial rfl (fun av x v K => by kernel_rfl) (fun av x n v K => by kernel_rfl)
theorem z6o : z0f.Ok Tryz.prog := fn_ok (k := z0f) (fn := Tryz.f95) (W := []) (H := [z92]) Tryz.func95 zb8 ⟨y0l, trivial⟩ rfl rfl (fun av x => by kernel_rfl)
def z53 (q : Int) (marks : List Int) (reach : List Bool) : Option Bool := (getI marks q).bind fun x1 => (if decide (x1 = 0) = true then ((getI reach q).bind fun x3 => (some x3)) else (some false))
def z59 : FCon := ⟨203, .I, [(.sl .I), (.sl .B)], fun z c => z53 z c.1 c.2.1⟩
def zu1 : Fs := ⟨[], [], []⟩
theorem zu4 : zu1.Ok Tryz.prog := fs0
theorem zw2 : z59.Ok Tryz.prog := FCon.ok (fn_ok (k := z59.con) (fn := Tryz.f203) (W := []) (H := []) Tryz.func203 zu4 trivial rfl rfl (fun av x => by kernel_rfl))
def z38 (s1_0 : Int) (s1_1 : Int) (bk1 : Int → Int → List Int → Option Bool) (l2_1 : List Int) : Option Bool := gd (ok64 (s1_1 + 1)) (bk1 s1_0 (s1_1 + 1) l2_1)
def z19 (p2_0 : List GFlow) (p2_1 : Int) (kx2_0 : List Int → Option Bool) : Nat → Int → List Int → Option Bool
  | 0, _, _ => none
  | n2 + 1, s2_0, l2_1 => if decide (s2_0 < p2_1) = true then ((getI p2_0 s2_0).bind fun x15 => (gd (l2_1.length + [x15.to].length ≤ SMALL) (gd (ok64 (s2_0 + 1)) ((z19 p2_0 p2_1 kx2_0 n2) (s2_0 + 1) (l2_1 ++ [x15.to]))))) else (kx2_0 l2_1)
def z4m  : Option Bool := some false
def z0t (n : GNet) (t : Int) (p0_0 : List Int) (p0_2 : List Int) (l1_2 : List Int) (p3_0 : Int) (kx3_0 : Option Bool) : Nat → Int → Option Bool
  | 0, _ => none
  | n3 + 1, s3_0 => if decide (s3_0 < p3_0) = true then ((getI l1_2 s3_0).bind fun x20 => ((z55 n x20 t).bind fun x21 => ((z1p p0_0 (fun z => z53 z p0_2 x21)).bind fun x22 => (if x22 = true then (some true) else (gd (ok64 (s3_0 + 1)) ((z0t n t p0_0 p0_2 l1_2 p3_0 kx3_0 n3) (s3_0 + 1))))))) else (kx3_0)
def z18 (n : GNet) (t : Int) (p0_0 : List Int) (p0_2 : List Int) (l1_2 : List Int) : Option Bool := z0t n t p0_0 p0_2 l1_2 (l1_2.length : Int) z4m FUEL 0
def z0k (n : GNet) (busy : List GItem) (kx1_0 : List Int → Option Bool) : Nat → Int → Int → List Int → Option Bool
  | 0, _, _, _ => none
  | n1 + 1, s1_0, s1_1, l1_2 => if decide (s1_1 < s1_0) = true then ((getI busy s1_1).bind fun x12 => ((getI n.tasks x12.task).bind fun x13 => (z19 x13.out (x13.out.length : Int) (z38 s1_0 s1_1 (z0k n busy kx1_0 n1)) FUEL 0 l1_2))) else (kx1_0 l1_2)
def z37 (n : GNet) (busy : List GItem) (t : Int) (p0_0 : List Int) (p0_2 : List Int) (l0_1 : List Int) : Option Bool := z0k n busy (z18 n t p0_0 p0_2) FUEL (busy.length : Int) 0 l0_1
def z0j (marks : List Int) (p0_0 : List Int) (p0_1 : Int) (kx0_0 : List Int → Option Bool) : Nat → Int → List Int → Option Bool
  | 0, _, _ => none
  | n0 + 1, s0_0, l0_1 => if decide (s0_0 < p0_1) = true then ((getI marks s0_0).bind fun x3 => (if decide (0 < x3) = true then ((z7e p0_0 s0_0).bind fun x5 => (if x5 = true then (gd (ok64 (s0_0 + 1)) ((z0j marks p0_0 p0_1 kx0_0 n0) (s0_0 + 1) l0_1)) else (gd (l0_1.length + [s0_0].length ≤ SMALL) (gd (ok64 (s0_0 + 1)) ((z0j marks p0_0 p0_1 kx0_0 n0) (s0_0 + 1) (l0_1 ++ [s0_0])))))) else (gd (ok64 (s0_0 + 1)) ((z0j marks p0_0 p0_1 kx0_0 n0) (s0_0 + 1) l0_1)))) else (kx0_0 l0_1)
def z4a (n : GNet) (marks : List Int) (busy : List GItem) (t : Int) : Option Bool := (getI n.tasks t).bind fun x1 => (z0j marks x1.in_ (marks.length : Int) (z37 n busy t x1.in_ marks) FUEL 0 ([] : List Int))
def z00 : Con := ⟨168, [.v (.s .net) false, .v (.sl .I) false, .v (.sl (.s .item)) false, .v .I false], [(.B, true)], [], fun x => z4a x.1 x.2.1 x.2.2.1 x.2.2.2.1⟩
def y0r : Fs := ⟨[za1, z03, z3d], [z59], []⟩
theorem z30 : y0r.Ok Tryz.prog := (fsK y1t (fsK y52 (fsK z5g (fsF zw2 fs0))))
def z70 : Tmpl := ⟨[(3, .c .i), (4, .c (.bx 4 0)), (5, .c (.bx 5 0)), (9, .c (.s .I)), (10, .c (.ref 500010)), (46, .c (.s (.s .item))), (47, .c .i), (48, .c .i), (58, .c (.s (.s .flow))), (59, .c .i), (60, .c .i)], [(4, .boxT (.s .net)), (5, .box [.s .I]), (500010, .arr .I true)]⟩
def z6h : Tmpl := ⟨[(3, .c .i), (4, .c (.bx 4 0)), (5, .c (.bx 5 0)), (9, .c (.s .I)), (10, .c (.ref 500010)), (46, .c (.s (.s .item))), (47, .c .i), (48, .c .i)], [(4, .boxT (.s .net)), (5, .box [.s .I]), (500010, .arr .I true)]⟩
def zl6 (av : AV) (x : HP z00.ps) (n : Nat) (v : z70.den) (K : Ks (CR z00)) : Option (CR z00) := z19 v.1.2.2.2.2.2.2.2.2.1 v.1.2.2.2.2.2.2.2.2.2.1 (fun l2_1 => z6h.at none ((v.1.1, (), (), v.1.2.2.2.1, (), v.1.2.2.2.2.2.1, v.1.2.2.2.2.2.2.1, v.1.2.2.2.2.2.2.2.1, ()), (v.2.1, (v.2.2.1.1, ()), l2_1, ())) (K (.exit 4))) n v.1.2.2.2.2.2.2.2.2.2.2.1 v.2.2.2.1
def z6r (av : AV) (x : HP z00.ps) : Hdl (CR z00) := hnd [] z70 (zl6 av x)
theorem zm4 : LP z00 Tryz.f168 [1, 0] z6r := lp_ok (W := []) (H := []) (xs := [z6h]) z30 trivial rfl (fun av x v K => by kernel_rfl) (fun av x n v K => by kernel_rfl)
def z8w : Tmpl := ⟨[(2, .c (.s (.s .item))), (3, .c .i), (4, .c (.bx 4 0)), (5, .c (.bx 5 0)), (9, .c (.s .I)), (10, .c (.ref 500010)), (26, .c (.s .I)), (27, .c .i), (28, .c .i)], [(4, .boxT (.s .net)), (5, .box [.s .I]), (500010, .arr .I true)]⟩
def z7k : Tmpl := ⟨[(2, .c (.s (.s .item))), (3, .c .i), (4, .c (.bx 4 0)), (5, .c (.bx 5 0)), (9, .c (.s .I)), (10, .c (.ref 500010))], [(4, .boxT (.s .net)), (5, .box [.s .I]), (500010, .arr .I true)]⟩
def zt6 (av : AV) (x : HP z00.ps) (n : Nat) (v : z8w.den) (K : Ks (CR z00)) : Option (CR z00) := z0j v.1.2.2.2.2.2.2.1 v.1.2.2.2.2.1 v.1.2.2.2.2.2.2.2.1 (fun l0_1 => z7k.at none ((v.1.1, v.1.2.1, (), (), v.1.2.2.2.2.1, (), ()), (v.2.1, (v.2.2.1.1, ()), l0_1, ())) (K (.exit 0))) n v.1.2.2.2.2.2.2.2.2.1 v.2.2.2.1
def z7q (av : AV) (x : HP z00.ps) : Hdl (CR z00) := hnd [.e 10 500010 .I] z8w (zt6 av x)
theorem zv7 : LP z00 Tryz.f168 [0] z7q := lp_ok (W := []) (H := []) (xs := [z7k]) z30 trivial rfl (fun av x v K => by kernel_rfl) (fun av x n v K => by kernel_rfl)
def z8x : Tmpl := ⟨[(3, .c .i), (4, .c (.bx 4 0)), (5, .c (.bx 5 0)), (9, .c (.s .I)), (10, .c (.ref 500010)), (46, .c (.s (.s .item))), (47, .c .i), (48, .c .i)], [(4, .boxT (.s .net)), (5, .box [.s .I]), (500010, .arr .I true)]⟩
def z7l : Tmpl := ⟨[(3, .c .i), (4, .c (.bx 4 0)), (5, .c (.bx 5 0)), (9, .c (.s .I)), (10, .c (.ref 500010))], [(4, .boxT (.s .net)), (5, .box [.s .I]), (500010, .arr .I true)]⟩
def zt7 (av : AV) (x : HP z00.ps) (n : Nat) (v : z8x.den) (K : Ks (CR z00)) : Option (CR z00) := z0k v.2.1 v.1.2.2.2.2.2.1 (fun l1_2 => z7l.at none ((v.1.1, (), (), v.1.2.2.2.1, (), ()), (v.2.1, (v.2.2.1.1, ()), l1_2, ())) (K (.exit 2))) n v.1.2.2.2.2.2.2.1 v.1.2.2.2.2.2.2.2.1 v.2.2.2.1
def z7r (av : AV) (x : HP z00.ps) : Hdl (CR z00) := hnd [] z8x (zt7 av x)
theorem zv8 : LP z00 Tryz.f168 [1] z7r := lp_ok (W := []) (H := [z6r]) (xs := [z7l]) z30 ⟨zm4, trivial⟩ rfl (fun av x v K => by kernel_rfl) (fun av x n v K => by kernel_rfl)
def z8y : Tmpl := ⟨[(3, .c .i), (4, .c (.bx 4 0)), (5, .c (.bx 5 0)), (9, .c (.s .I)), (71, .c (.ref 500010)), (72, .c .i), (73, .c .i)], [(4, .boxT (.s .net)), (5, .box [.s .I]), (500010, .arr .I true)]⟩
def z7m : Tmpl := ⟨[], []⟩
def zt8 (av : AV) (x : HP z00.ps) (n : Nat) (v : z8y.den) (K : Ks (CR z00)) : Option (CR z00) := z0t v.2.1 v.1.1 v.1.2.2.2.1 v.2.2.1.1 v.2.2.2.1 v.1.2.2.2.2.2.1 (z7m.at none ((), ()) (K (.exit 6))) n v.1.2.2.2.2.2.2.1
def z7s (av : AV) (x : HP z00.ps) : Hdl (CR z00) := hnd [] z8y (zt8 av x)
theorem zv9 : LP z00 Tryz.f168 [2] z7s := lp_ok (W := []) (H := []) (xs := [z7m]) z30 trivial rfl (fun av x v K => by kernel_rfl) (fun av x n v K => by kernel_rfl)
theorem y1u : z00.Ok Tryz.prog := fn_ok (k := z00) (fn := Tryz.f168) (W := []) (H := [z7q, z7r, z7s]) Tryz.func168 z30 ⟨zv7, zv8, zv9, trivial⟩ rfl rfl (fun av x => by kernel_rfl)
def z25 (n : GNet) (marks : List Int) (busy : List GItem) (t : Int) (s0_0 : Bool) (s0_2 : Bool) : Option Bool := (getI n.tasks t).bind fun x14 => (if decide (x14.join = 1) = true then (some s0_0) else (if decide (x14.join = 2) = true then (some s0_2) else (if s0_2 = true then (if s0_0 = true then (some true) else ((z4a n marks busy t).bind fun x19 => (some (!x19)))) else (some false))))
def z0l (marks : List Int) (p0_0 : List Int) (p0_1 : Int) (kx0_0 : Bool → Bool → Option Bool) : Nat → Bool → Int → Bool → Option Bool
  | 0, _, _, _ => none
  | n0 + 1, s0_0, s0_1, s0_2 => if decide (s0_1 < p0_1) = true then ((getI p0_0 s0_1).bind fun x3 => (if s0_2 = true then (if s0_0 = true then ((getI marks x3).bind fun x6 => (gd (ok64 (s0_1 + 1)) ((z0l marks p0_0 p0_1 kx0_0 n0) (decide (0 < x6)) (s0_1 + 1) true))) else (gd (ok64 (s0_1 + 1)) ((z0l marks p0_0 p0_1 kx0_0 n0) false (s0_1 + 1) true))) else ((getI marks x3).bind fun x9 => (if s0_0 = true then ((getI marks x3).bind fun x11 => (gd (ok64 (s0_1 + 1)) ((z0l marks p0_0 p0_1 kx0_0 n0) (decide (0 < x11)) (s0_1 + 1) (decide (0 < x9))))) else (gd (ok64 (s0_1 + 1)) ((z0l marks p0_0 p0_1 kx0_0 n0) false (s0_1 + 1) (decide (0 < x9)))))))) else (kx0_0 s0_0 s0_2)
def z4n (n : GNet) (marks : List Int) (busy : List GItem) (t : Int) : Option Bool := (getI n.tasks t).bind fun x1 => (z0l marks x1.in_ (x1.in_.length : Int) (z25 n marks busy t) FUEL true 0 false)
def z11 : Con := ⟨104, [.v (.s .net) false, .v (.sl .I) false, .v (.sl (.s .item)) false, .v .I false], [(.B, true)], [], fun x => z4n x.1 x.2.1 x.2.2.1 x.2.2.2.1⟩
def y71 : Fs := ⟨[z00], [], []⟩
theorem zo4 : y71.Ok Tryz.prog := (fsK y1u fs0)
def zh2 : Tmpl := ⟨[(1, .c (.s .I)), (2, .c (.s (.s .item))), (3, .c .i), (4, .c (.bx 4 0)), (9, .c .b), (10, .c .b), (18, .c (.s .I)), (19, .c .i), (20, .c .i)], [(4, .boxT (.s .net))]⟩
def zc7 : Tmpl := ⟨[(1, .c (.s .I)), (2, .c (.s (.s .item))), (3, .c .i), (4, .c (.bx 4 0)), (9, .c .b), (10, .c .b)], [(4, .boxT (.s .net))]⟩
def y4m (av : AV) (x : HP z11.ps) (n : Nat) (v : zh2.den) (K : Ks (CR z11)) : Option (CR z11) := z0l v.1.1 v.1.2.2.2.2.2.2.1 v.1.2.2.2.2.2.2.2.1 (fun s0_0 s0_2 => zc7.at none ((v.1.1, v.1.2.1, v.1.2.2.1, (), s0_2, s0_0, ()), (v.2.1, ())) (K (.exit 0))) n v.1.2.2.2.2.2.1 v.1.2.2.2.2.2.2.2.2.1 v.1.2.2.2.2.1
def zf8 (av : AV) (x : HP z11.ps) : Hdl (CR z11) := hnd [] zh2 (y4m av x)
theorem y4w : LP z11 Tryz.f104 [0] zf8 := lp_ok (W := []) (H := []) (xs := [zc7]) zo4 trivial rfl (fun av x v K => by kernel_rfl) (fun av x n v K => by kernel_rfl)
theorem zq8 : z11.Ok Tryz.prog := fn_ok (k := z11) (fn := Tryz.f104) (W := []) (H := [zf8]) Tryz.func104 zo4 ⟨y4w, trivial⟩ rfl rfl (fun av x => by kernel_rfl)
def z83 (n : GNet) (marks : List Int) (busy : List GItem) (t : Int) : Option Bool := (z5w n marks).bind fun x1 => (if x1 = true then ((z24 n busy).bind fun x3 => (if x3 = true then ((z0g n t).bind fun x5 => (if x5 = true then ((z4n n marks busy t).bind fun x7 => (some x7)) else (some false))) else (some false))) else (some false))
def zd4 : Con := ⟨33, [.v (.s .net) false, .v (.sl .I) false, .v (.sl (.s .item)) false, .v .I false], [(.B, true)], [], fun x => z83 x.1 x.2.1 x.2.2.1 x.2.2.2.1⟩
def yw2 : Fs := ⟨[z7d, z0f, z1a, z11], [], []⟩
theorem yy4 : yw2.Ok Tryz.prog := (fsK zj8 (fsK z6o (fsK z34 (fsK zq8 fs0))))
theorem y60 : zd4.Ok Tryz.prog := fn_ok (k := zd4) (fn := Tryz.f33) (W := []) (H := []) Tryz.func33 yy4 trivial rfl rfl (fun av x => by kernel_rfl)
def z85 (l0_1 : List Int) : Option (List Int) := some l0_1
def z1z (n : GNet) (marks : List Int) (busy : List GItem) (p0_0 : Int) (kx0_0 : List Int → Option (List Int)) : Nat → Int → List Int → Option (List Int)
  | 0, _, _ => none
  | n0 + 1, s0_0, l0_1 => if decide (s0_0 < p0_0) = true then ((z4n n marks busy s0_0).bind fun x6 => (if x6 = true then (gd (l0_1.length + [s0_0].length ≤ SMALL) (gd (ok64 (s0_0 + 1)) ((z1z n marks busy p0_0 kx0_0 n0) (s0_0 + 1) (l0_1 ++ [s0_0])))) else (gd (ok64 (s0_0 + 1)) ((z1z n marks busy p0_0 kx0_0 n0) (s0_0 + 1) l0_1)))) else (kx0_0 l0_1)
def z84 (n : GNet) (marks : List Int) (busy : List GItem) : Option (List Int) := (z5w n marks).bind fun x1 => (if x1 = true then ((z24 n busy).bind fun x3 => (if x3 = true then (z1z n marks busy (n.tasks.length : Int) z85 FUEL 0 ([] : List Int)) else (some []))) else (some []))
def z1w : Con := ⟨110, [.v (.s .net) false, .v (.sl .I) false, .v (.sl (.s .item)) false], [((.sl .I), true)], [], fun x => z84 x.1 x.2.1 x.2.2.1⟩
def yd4 : Fs := ⟨[z7d, z0f, z11], [], []⟩
theorem y0v : yd4.Ok Tryz.prog := (fsK zj8 (fsK z6o (fsK zq8 fs0)))
def zr3 : Tmpl := ⟨[(1, .c (.s .I)), (2, .c (.s (.s .item))), (3, .c (.bx 3 0)), (7, .c (.ref 500007)), (21, .c .i), (22, .c .i)], [(3, .boxT (.s .net)), (500007, .arr .I true)]⟩
def zk7 : Tmpl := ⟨[(7, .c (.ref 500007))], [(500007, .arr .I true)]⟩
def y6p (av : AV) (x : HP z1w.ps) (n : Nat) (v : zr3.den) (K : Ks (CR z1w)) : Option (CR z1w) := z1z v.2.1 v.1.1 v.1.2.1 v.1.2.2.2.2.1 (fun l0_1 => zk7.at none (((), ()), (l0_1, ())) (K (.exit 0))) n v.1.2.2.2.2.2.1 v.2.2.1
def zo6 (av : AV) (x : HP z1w.ps) : Hdl (CR z1w) := hnd [.e 7 500007 .I] zr3 (y6p av x)
theorem y7d : LP z1w Tryz.f110 [0] zo6 := lp_ok (W := []) (H := []) (xs := [zk7]) y0v trivial rfl (fun av x v K => by kernel_rfl) (fun av x n v K => by kernel_rfl)
theorem yh3 : z1w.Ok Tryz.prog := fn_ok (k := z1w) (fn := Tryz.f110) (W := []) (H := [zo6]) Tryz.func110 y0v ⟨y7d, trivial⟩ rfl rfl (fun av x => by kernel_rfl)
def za3 (l0_1 : List Int) (x4 : Int) (x7 : Int) : Option (List Int) := some (l0_1.set x4.toNat (x7 - 1))
def za4 (l0_1 : List Int) : Option (List Int) := some l0_1
def z1b (n : GNet) (t : Int) (p0_0 : List Int) (p0_1 : Int) (kx0_0 : List Int → Int → Int → Option (List Int)) (kx0_1 : List Int → Option (List Int)) : Nat → Int → List Int → Option (List Int)
  | 0, _, _ => none
  | n0 + 1, s0_0, l0_1 => if decide (s0_0 < p0_1) = true then ((getI p0_0 s0_0).bind fun x4 => ((getI l0_1 x4).bind fun x5 => (if decide (0 < x5) = true then ((getI l0_1 x4).bind fun x7 => (gd (ok64 (x7 - 1)) ((getI l0_1 x4).bind fun x9 => ((getI n.tasks t).bind fun x10 => (if decide (x10.join = 2) = true then (kx0_0 l0_1 x4 x7) else (gd (ok64 (s0_0 + 1)) ((z1b n t p0_0 p0_1 kx0_0 kx0_1 n0) (s0_0 + 1) (l0_1.set x4.toNat (x7 - 1))))))))) else (gd (ok64 (s0_0 + 1)) ((z1b n t p0_0 p0_1 kx0_0 kx0_1 n0) (s0_0 + 1) l0_1))))) else (kx0_1 l0_1)
def z5m (n : GNet) (marks : List Int) (t : Int) : Option (List Int) := (z3e marks).bind fun x1 => ((getI n.tasks t).bind fun x2 => (z1b n t x2.in_ (x2.in_.length : Int) za3 za4 FUEL 0 x1))
def z13 : Con := ⟨93, [.v (.s .net) false, .v (.sl .I) false, .v .I false], [((.sl .I), true)], [], fun x => z5m x.1 x.2.1 x.2.2.1⟩
def y5f : Fs := ⟨[z5d], [], []⟩
theorem zh9 : y5f.Ok Tryz.prog := (fsK zb6 fs0)
def zc4 : Tmpl := ⟨[(2, .c .i), (3, .c (.bx 3 0)), (7, .c (.ref 11)), (17, .c (.s .I)), (18, .c .i), (19, .c .i)], [(3, .boxT (.s .net)), (11, .arr .I true)]⟩
def z64 : Tmpl := ⟨[(7, .c (.ref 11))], [(11, .arr .I true)]⟩
def y33 (av : AV) (x : HP z13.ps) (n : Nat) (v : zc4.den) (K : Ks (CR z13)) : Option (CR z13) := z1b v.2.1 v.1.1 v.1.2.2.2.1 v.1.2.2.2.2.1 (fun l0_1 x4 x7 => z64.at none (((), ()), ((l0_1.set x4.toNat (x7 - 1)), ())) (K (.exit 0))) (fun l0_1 => z64.at none (((), ()), (l0_1, ())) (K (.exit 0))) n v.1.2.2.2.2.2.1 v.2.2.1
def zc0 (av : AV) (x : HP z13.ps) : Hdl (CR z13) := hnd [] zc4 (y33 av x)
theorem y3c : LP z13 Tryz.f93 [0] zc0 := lp_ok (W := []) (H := []) (xs := [z64]) zh9 trivial rfl (fun av x v K => by kernel_rfl) (fun av x n v K => by kernel_rfl)
theorem y61 : z13.Ok Tryz.prog := fn_ok (k := z13) (fn := Tryz.f93) (W := []) (H := [zc0]) Tryz.func93 zh9 ⟨y3c, trivial⟩ rfl rfl (fun av x => by kernel_rfl)
def y1l (l0_1 : List Int) : Option (List Int) := some l0_1
def z0h (t : GTask) (data : List Int) (p0_0 : List GFlow) (p0_1 : Int) (kx0_0 : List Int → Option (List Int)) : Nat → Int → List Int → Option (List Int)
  | 0, _, _ => none
  | n0 + 1, s0_0, l0_1 => if decide (s0_0 < p0_1) = true then ((getI p0_0 s0_0).bind fun x2 => ((z86 x2.if_ data).bind fun x3 => (if x3 = true then (if decide (t.split = 2) = true then (if decide (0 < (l0_1.length : Int)) = true then (gd (ok64 (s0_0 + 1)) ((z0h t data p0_0 p0_1 kx0_0 n0) (s0_0 + 1) l0_1)) else (if decide (t.split = 3) = true then (gd (ok64 ((t.out.length : Int) - 1)) (if decide (s0_0 = ((t.out.length : Int) - 1)) = true then (if decide (0 < (l0_1.length : Int)) = true then (gd (ok64 (s0_0 + 1)) ((z0h t data p0_0 p0_1 kx0_0 n0) (s0_0 + 1) l0_1)) else (gd (l0_1.length + [x2.to].length ≤ SMALL) (gd (ok64 (s0_0 + 1)) ((z0h t data p0_0 p0_1 kx0_0 n0) (s0_0 + 1) (l0_1 ++ [x2.to]))))) else (gd (l0_1.length + [x2.to].length ≤ SMALL) (gd (ok64 (s0_0 + 1)) ((z0h t data p0_0 p0_1 kx0_0 n0) (s0_0 + 1) (l0_1 ++ [x2.to])))))) else (gd (l0_1.length + [x2.to].length ≤ SMALL) (gd (ok64 (s0_0 + 1)) ((z0h t data p0_0 p0_1 kx0_0 n0) (s0_0 + 1) (l0_1 ++ [x2.to])))))) else (if decide (t.split = 3) = true then (gd (ok64 ((t.out.length : Int) - 1)) (if decide (s0_0 = ((t.out.length : Int) - 1)) = true then (if decide (0 < (l0_1.length : Int)) = true then (gd (ok64 (s0_0 + 1)) ((z0h t data p0_0 p0_1 kx0_0 n0) (s0_0 + 1) l0_1)) else (gd (l0_1.length + [x2.to].length ≤ SMALL) (gd (ok64 (s0_0 + 1)) ((z0h t data p0_0 p0_1 kx0_0 n0) (s0_0 + 1) (l0_1 ++ [x2.to]))))) else (gd (l0_1.length + [x2.to].length ≤ SMALL) (gd (ok64 (s0_0 + 1)) ((z0h t data p0_0 p0_1 kx0_0 n0) (s0_0 + 1) (l0_1 ++ [x2.to])))))) else (gd (l0_1.length + [x2.to].length ≤ SMALL) (gd (ok64 (s0_0 + 1)) ((z0h t data p0_0 p0_1 kx0_0 n0) (s0_0 + 1) (l0_1 ++ [x2.to])))))) else (gd (ok64 (s0_0 + 1)) ((z0h t data p0_0 p0_1 kx0_0 n0) (s0_0 + 1) l0_1))))) else (kx0_0 l0_1)
def zi9 (t : GTask) (data : List Int) : Option (List Int) := z0h t data t.out (t.out.length : Int) y1l FUEL 0 ([] : List Int)
def z46 : Con := ⟨173, [.v (.s .task) false, .v (.sl .I) false], [((.sl .I), true)], [], fun x => zi9 x.1 x.2.1⟩
def w23 : Fs := ⟨[zg3], [], []⟩
theorem y82 : w23.Ok Tryz.prog := (fsK yh4 fs0)
def y4a : Tmpl := ⟨[(1, .c (.s .I)), (2, .c (.bx 2 0)), (5, .c (.ref 500005)), (9, .c (.s (.s .flow))), (10, .c .i), (11, .c .i)], [(2, .boxT (.s .task)), (500005, .arr .I true)]⟩
def y2h : Tmpl := ⟨[(5, .c (.ref 500005))], [(500005, .arr .I true)]⟩
def yk9 (av : AV) (x : HP z46.ps) (n : Nat) (v : y4a.den) (K : Ks (CR z46)) : Option (CR z46) := z0h v.2.1 v.1.1 v.1.2.2.2.1 v.1.2.2.2.2.1 (fun l0_1 => y2h.at none (((), ()), (l0_1, ())) (K (.exit 0))) n v.1.2.2.2.2.2.1 v.2.2.1
def y3s (av : AV) (x : HP z46.ps) : Hdl (CR z46) := hnd [.e 5 500005 .I] y4a (yk9 av x)
theorem yp5 : LP z46 Tryz.f173 [0] y3s := lp_ok (W := []) (H := []) (xs := [y2h]) y82 trivial rfl (fun av x v K => by kernel_rfl) (fun av x n v K => by kernel_rfl)
theorem w37 : z46.Ok Tryz.prog := fn_ok (k := z46) (fn := Tryz.f173) (W := []) (H := [y3s]) Tryz.func173 y82 ⟨yp5, trivial⟩ rfl rfl (fun av x => by kernel_rfl)
def z6b (n : GNet) (l1_1 : List Int) : Option ((List Int) × Bool) := (z32 n l1_1).bind fun x21 => (if x21 = true then (some (l1_1, true)) else (some ([], false)))
def z3o (x14 : (List Int)) (p1_0 : Int) (kx1_0 : List Int → Option ((List Int) × Bool)) : Nat → Int → List Int → Option ((List Int) × Bool)
  | 0, _, _ => none
  | n1 + 1, s1_0, l1_1 => if decide (s1_0 < p1_0) = true then ((getI x14 s1_0).bind fun x16 => ((getI l1_1 x16).bind fun x17 => (gd (ok64 (x17 + 1)) ((getI l1_1 x16).bind fun x19 => (gd (ok64 (s1_0 + 1)) ((z3o x14 p1_0 kx1_0 n1) (s1_0 + 1) (l1_1.set x16.toNat (x17 + 1)))))))) else (kx1_0 l1_1)
def z6a (n : GNet) (t : Int) (data : List Int) (l0_1 : List Int) : Option ((List Int) × Bool) := (getI n.tasks t).bind fun x13 => ((zi9 x13 data).bind fun x14 => (z3o x14 (x14.length : Int) (z6b n) FUEL 0 l0_1))
def z3n (p0_0 : List Int) (p0_1 : Int) (kx0_0 : List Int → Option ((List Int) × Bool)) : Nat → Int → List Int → Option ((List Int) × Bool)
  | 0, _, _ => none
  | n0 + 1, s0_0, l0_1 => if decide (s0_0 < p0_1) = true then ((getI p0_0 s0_0).bind fun x10 => ((getI l0_1 x10).bind fun x11 => (gd (ok64 (s0_0 + 1)) ((z3n p0_0 p0_1 kx0_0 n0) (s0_0 + 1) (l0_1.set x10.toNat 0))))) else (kx0_0 l0_1)
def z5j (n : GNet) (marks : List Int) (t : Int) (data : List Int) : Option ((List Int) × Bool) := (z5w n marks).bind fun x1 => (if x1 = true then ((z0g n t).bind fun x3 => (if x3 = true then ((z5v data).bind fun x5 => (if x5 = true then ((z3e marks).bind fun x7 => ((getI n.tasks t).bind fun x8 => (z3n x8.clear (x8.clear.length : Int) (z6a n t data) FUEL 0 x7))) else (some ([], false)))) else (some ([], false)))) else (some ([], false)))
def z0o : Con := ⟨115, [.v (.s .net) false, .v (.sl .I) false, .v .I false, .v (.sl .I) false], [((.sl .I), true), (.B, true)], [], fun x => z5j x.1 x.2.1 x.2.2.1 x.2.2.2.1⟩
def ym3 : Fs := ⟨[z7d, z1a, z7c, z5d, z46, z45], [], []⟩
theorem zl8 : ym3.Ok Tryz.prog := (fsK zj8 (fsK z34 (fsK zj7 (fsK zb6 (fsK w37 (fsK za6 fs0))))))
def zz6 : Tmpl := ⟨[(2, .c .i), (3, .c (.s .I)), (4, .c (.bx 4 0)), (10, .c (.ref 31)), (37, .c (.s .I)), (38, .c .i), (39, .c .i)], [(4, .boxT (.s .net)), (31, .arr .I true)]⟩
def zs3 : Tmpl := ⟨[(2, .c .i), (3, .c (.s .I)), (4, .c (.bx 4 0)), (10, .c (.ref 31))], [(4, .boxT (.s .net)), (31, .arr .I true)]⟩
def y8u (av : AV) (x : HP z0o.ps) (n : Nat) (v : zz6.den) (K : Ks (CR z0o)) : Option (CR z0o) := z3n v.1.2.2.2.2.1 v.1.2.2.2.2.2.1 (fun l0_1 => zs3.at none ((v.1.1, v.1.2.1, (), (), ()), (v.2.1, l0_1, ())) (K (.exit 0))) n v.1.2.2.2.2.2.2.1 v.2.2.1
def zx5 (av : AV) (x : HP z0o.ps) : Hdl (CR z0o) := hnd [] zz6 (y8u av x)
theorem y9j : LP z0o Tryz.f115 [0] zx5 := lp_ok (W := []) (H := []) (xs := [zs3]) zl8 trivial rfl (fun av x v K => by kernel_rfl) (fun av x n v K => by kernel_rfl)
def zz7 : Tmpl := ⟨[(4, .c (.bx 4 0)), (10, .c (.ref 31)), (53, .c (.ref 53)), (54, .c .i), (55, .c .i)], [(4, .boxT (.s .net)), (31, .arr .I true), (53, .arr .I true)]⟩
def zs4 : Tmpl := ⟨[(4, .c (.bx 4 0)), (10, .c (.ref 31))], [(4, .boxT (.s .net)), (31, .arr .I true)]⟩
def y8v (av : AV) (x : HP z0o.ps) (n : Nat) (v : zz7.den) (K : Ks (CR z0o)) : Option (CR z0o) := z3o v.2.2.2.1 v.1.2.2.2.1 (fun l1_1 => zs4.at none (((), (), ()), (v.2.1, l1_1, ())) (K (.exit 2))) n v.1.2.2.2.2.1 v.2.2.1
def zx6 (av : AV) (x : HP z0o.ps) : Hdl (CR z0o) := hnd [] zz7 (y8v av x)
theorem y9k : LP z0o Tryz.f115 [1] zx6 := lp_ok (W := []) (H := []) (xs := [zs4]) zl8 trivial rfl (fun av x v K => by kernel_rfl) (fun av x n v K => by kernel_rfl)
theorem yq8 : z0o.Ok Tryz.prog := fn_ok (k := z0o) (fn := Tryz.f115) (W := []) (H := [zx5, zx6]) Tryz.func115 zl8 ⟨y9j, y9k, trivial⟩ rfl rfl (fun av x => by kernel_rfl)
def zm8 (n : Int) : Option Bool := (z0u n 0 7).bind fun x1 => (some (!x1))
def zn4 : FCon := ⟨119, .I, [], fun z c => zm8 z ⟩
def ym5 : Fs := ⟨[z2e], [], []⟩
theorem yo6 : ym5.Ok Tryz.prog := (fsK z3h fs0)
theorem yr0 : zn4.Ok Tryz.prog := FCon.ok (fn_ok (k := zn4.con) (fn := Tryz.f119) (W := []) (H := []) Tryz.func119 yo6 trivial rfl rfl (fun av x => by kernel_rfl))
def z7h (people : List Int) : Option Bool := (z0u (people.length : Int) 1 4).bind fun x1 => (if x1 = true then ((z1p people (fun z => zm8 z )).bind fun x3 => (some (!x3))) else (some false))
def za2 : Con := ⟨50, [.v (.sl .I) false], [(.B, true)], [], fun x => z7h x.1⟩
def w22 : Fs := ⟨[z2e, z3d], [zn4], []⟩
theorem w2n : w22.Ok Tryz.prog := (fsK z3h (fsK z5g (fsF yr0 fs0)))
theorem y1w : za2.Ok Tryz.prog := fn_ok (k := za2) (fn := Tryz.f50) (W := []) (H := []) Tryz.func50 w2n trivial rfl rfl (fun av x => by kernel_rfl)
def ze1 (people : List Int) (who : Int) (role : Int) : Option Bool := (z7h people).bind fun x1 => (if x1 = true then ((z0u who 1 (people.length : Int)).bind fun x3 => (if x3 = true then ((z88 role).bind fun x5 => (if x5 = true then (gd (ok64 (who - 1)) ((getI people (who - 1)).bind fun x8 => (gd (ok64 (role - 1)) (gd ((0 : Int) ≤ (role - 1) ∧ (role - 1) ≤ (63 : Int)) (some (decide ((andI (shrI x8 (role - 1)) 1) = 1))))))) else (some false))) else (some false))) else (some false))
def zv0 : Con := ⟨80, [.v (.sl .I) false, .v .I false, .v .I false], [(.B, true)], [], fun x => ze1 x.1 x.2.1 x.2.2.1⟩
def yw4 : Fs := ⟨[za2, z2e, zd5], [], []⟩
theorem yy6 : yw4.Ok Tryz.prog := (fsK y1w (fsK z3h (fsK y62 fs0)))
theorem w0g : zv0.Ok Tryz.prog := fn_ok (k := zv0) (fn := Tryz.f80) (W := []) (H := []) Tryz.func80 yy6 trivial rfl rfl (fun av x => by kernel_rfl)
def ze0 (did : List GDid) (who : Int) (task : Int) : Option Bool := (zg5 did (GDid.mk task who)).bind fun x1 => (some x1)
def zu9 : Con := ⟨109, [.v (.sl (.s .did)) false, .v .I false, .v .I false], [(.B, true)], [], fun x => ze0 x.1 x.2.1 x.2.2.1⟩
def yw3 : Fs := ⟨[zg1], [], []⟩
theorem yy5 : yw3.Ok Tryz.prog := (fsK yh1 fs0)
theorem w0f : zu9.Ok Tryz.prog := fn_ok (k := zu9) (fn := Tryz.f109) (W := []) (H := []) Tryz.func109 yy5 trivial rfl rfl (fun av x => by kernel_rfl)
def z9h (l0_1 : List Int) : Option (List Int) := some l0_1
def z2g (p : Int → Option Bool) (p0_0 : Int) (kx0_0 : List Int → Option (List Int)) : Nat → Int → List Int → Option (List Int)
  | 0, _, _ => none
  | n0 + 1, s0_0, l0_1 => if decide (s0_0 < p0_0) = true then (gd (ok64 (s0_0 + 1)) ((p (s0_0 + 1)).bind fun x5 => (if x5 = true then (gd (ok64 (s0_0 + 1)) (gd (l0_1.length + [(s0_0 + 1)].length ≤ SMALL) (gd (ok64 (s0_0 + 1)) ((z2g p p0_0 kx0_0 n0) (s0_0 + 1) (l0_1 ++ [(s0_0 + 1)]))))) else (gd (ok64 (s0_0 + 1)) ((z2g p p0_0 kx0_0 n0) (s0_0 + 1) l0_1))))) else (kx0_0 l0_1)
def zm9 (people : List Int) (p : Int → Option Bool) : Option (List Int) := (z7h people).bind fun x1 => (if x1 = true then (z2g p (people.length : Int) z9h FUEL 0 ([] : List Int)) else (some []))
def z1u : Con := ⟨105, [.v (.sl .I) false, .fn .I], [((.sl .I), true)], [], fun x => zm9 x.1 x.2.1⟩
def ym8 : Fs := ⟨[za2], [], []⟩
theorem y3i : ym8.Ok Tryz.prog := (fsK y1w fs0)
def zz9 : Tmpl := ⟨[(1, .c .fp), (5, .c (.ref 500005)), (11, .c .i), (12, .c .i)], [(500005, .arr .I true)]⟩
def zs6 : Tmpl := ⟨[(5, .c (.ref 500005))], [(500005, .arr .I true)]⟩
def y8x (av : AV) (x : HP z1u.ps) (n : Nat) (v : zz9.den) (K : Ks (CR z1u)) : Option (CR z1u) := z2g x.2.1 v.1.2.2.1 (fun l0_1 => zs6.at (fpOf z1u.ps x av) (((), ()), (l0_1, ())) (K (.exit 0))) n v.1.2.2.2.1 v.2.1
def zx8 (av : AV) (x : HP z1u.ps) : Hdl (CR z1u) := hnd [.e 5 500005 .I] zz9 (y8x av x)
theorem y9m : LP z1u Tryz.f105 [0] zx8 := lp_ok (W := []) (H := []) (xs := [zs6]) y3i trivial rfl (fun av x v K => by kernel_rfl) (fun av x n v K => by kernel_rfl)
theorem yr2 : z1u.Ok Tryz.prog := fn_ok (k := z1u) (fn := Tryz.f105) (W := []) (H := [zx8]) Tryz.func105 y3i ⟨y9m, trivial⟩ rfl rfl (fun av x => by kernel_rfl)
def z9g (b : GItem) (task : GTask) (who : Int) : Option Bool := if decide (b.task = task.apart) = true then (some (decide (b.who = who))) else (some false)
def z9j : FCon := ⟨108, (.s .item), [(.s .task), .I], fun z c => z9g z c.1 c.2.1⟩
def y73 : Fs := ⟨[], [], []⟩
theorem y78 : y73.Ok Tryz.prog := fs0
theorem y7q : z9j.Ok Tryz.prog := FCon.ok (fn_ok (k := z9j.con) (fn := Tryz.f108) (W := []) (H := []) Tryz.func108 y78 trivial rfl rfl (fun av x => by kernel_rfl))
def z5x (who : Int) (busy : List GItem) (task : GTask) (people : List Int) (did : List GDid) : Option Bool := (z4g busy (fun z => z9g z task who)).bind fun x1 => ((ze1 people who task.role).bind fun x2 => (if x2 = true then (if x1 = true then (some false) else ((ze0 did who task.apart).bind fun x5 => (some (!x5)))) else (some false)))
def zg9 : FCon := ⟨106, .I, [(.sl (.s .item)), (.s .task), (.sl .I), (.sl (.s .did))], fun z c => z5x z c.1 c.2.1 c.2.2.1 c.2.2.2.1⟩
def yd6 : Fs := ⟨[z6l, zv0, zu9], [z9j], []⟩
theorem yf2 : yd6.Ok Tryz.prog := (fsK y3d (fsK w0g (fsK w0f (fsF y7q fs0))))
theorem yh5 : zg9.Ok Tryz.prog := FCon.ok (fn_ok (k := zg9.con) (fn := Tryz.f106) (W := []) (H := []) Tryz.func106 yf2 trivial rfl rfl (fun av x => by kernel_rfl))
def z57 (n : GNet) (people : List Int) (did : List GDid) (busy : List GItem) (t : Int) : Option (List Int) := (za5 n).bind fun x1 => (if x1 = true then ((z0g n t).bind fun x3 => (if x3 = true then ((getI n.tasks t).bind fun x5 => ((zm9 people (fun z => z5x z busy x5 people did)).bind fun x6 => (some x6))) else (some []))) else (some []))
def z7w : Con := ⟨35, [.v (.s .net) false, .v (.sl .I) false, .v (.sl (.s .did)) false, .v (.sl (.s .item)) false, .v .I false], [((.sl .I), true)], [], fun x => z57 x.1 x.2.1 x.2.2.1 x.2.2.2.1 x.2.2.2.2.1⟩
def yw5 : Fs := ⟨[zi5, z1a, z1u], [zg9], []⟩
theorem yy7 : yw5.Ok Tryz.prog := (fsK y8j (fsK z34 (fsK yr2 (fsF yh5 fs0))))
theorem zw4 : z7w.Ok Tryz.prog := fn_ok (k := z7w) (fn := Tryz.f35) (W := []) (H := []) Tryz.func35 yy7 trivial rfl rfl (fun av x => by kernel_rfl)
def z81 (c : GCase) : Option Bool := if decide (c.state = 1) = true then ((getI c.marks 1).bind fun x16 => (some (decide (x16 = 0)))) else (if decide (c.state = 2) = true then (if decide ((c.busy.length : Int) = 0) = true then ((getI c.marks 1).bind fun x19 => (some ((decide (c.state = 2)) == (decide (0 < x19))))) else (some false)) else (if decide (c.state = 3) = true then (if decide ((c.busy.length : Int) = 0) = true then ((getI c.marks 1).bind fun x22 => (some ((decide (c.state = 2)) == (decide (0 < x22))))) else (some false)) else (some false)))
def z4l (n : GNet) (p0_0 : List GDid) (p0_1 : Int) (kx0_0 : Option Bool) : Nat → Int → Option Bool
  | 0, _ => none
  | n0 + 1, s0_0 => if decide (s0_0 < p0_1) = true then ((getI p0_0 s0_0).bind fun x9 => ((z0g n x9.task).bind fun x10 => (if x10 = true then ((z5y x9.who).bind fun x12 => (if x12 = true then (gd (ok64 (s0_0 + 1)) ((z4l n p0_0 p0_1 kx0_0 n0) (s0_0 + 1))) else (some false))) else (some false)))) else (kx0_0)
def zi8 (n : GNet) (c : GCase) : Option Bool := (z5w n c.marks).bind fun x1 => (if x1 = true then ((z24 n c.busy).bind fun x3 => (if x3 = true then ((z5v c.data).bind fun x5 => (if x5 = true then (if decide (60 < (c.did.length : Int)) = true then (some false) else (z4l n c.did (c.did.length : Int) (z81 c) FUEL 0)) else (some false))) else (some false))) else (some false))
def z44 : Con := ⟨30, [.v (.s .net) false, .v (.s .kase) false], [(.B, true)], [], fun x => zi8 x.1 x.2.1⟩
def w1x : Fs := ⟨[z7d, z0f, z7c, z1a, z7x], [], []⟩
theorem y81 : w1x.Ok Tryz.prog := (fsK zj8 (fsK z6o (fsK zj7 (fsK z34 (fsK y1x fs0)))))
def y49 : Tmpl := ⟨[(2, .c (.bx 2 0)), (3, .c (.bx 3 0)), (32, .c (.s (.s .did))), (33, .c .i), (34, .c .i)], [(2, .boxT (.s .net)), (3, .boxT (.s .kase))]⟩
def y2g : Tmpl := ⟨[(3, .c (.bx 3 0))], [(3, .boxT (.s .kase))]⟩
def yk8 (av : AV) (x : HP z44.ps) (n : Nat) (v : y49.den) (K : Ks (CR z44)) : Option (CR z44) := z4l v.2.1 v.1.2.2.1 v.1.2.2.2.1 (y2g.at none (((), ()), (v.2.2.1, ())) (K (.exit 0))) n v.1.2.2.2.2.1
def y3r (av : AV) (x : HP z44.ps) : Hdl (CR z44) := hnd [] y49 (yk8 av x)
theorem yp4 : LP z44 Tryz.f30 [0] y3r := lp_ok (W := []) (H := []) (xs := [y2g]) y81 trivial rfl (fun av x v K => by kernel_rfl) (fun av x n v K => by kernel_rfl)
theorem w36 : z44.Ok Tryz.prog := fn_ok (k := z44) (fn := Tryz.f30) (W := []) (H := [y3r]) Tryz.func30 y81 ⟨yp4, trivial⟩ rfl rfl (fun av x => by kernel_rfl)
def z4f (n : GNet) (c : GCase) : Option Bool := (zi8 n c).bind fun x1 => (if x1 = true then (some (decide (c.state = 1))) else (some false))
def z5i : Con := ⟨85, [.v (.s .net) false, .v (.s .kase) false], [(.B, true)], [], fun x => z4f x.1 x.2.1⟩
def ym9 : Fs := ⟨[z44], [], []⟩
theorem yo8 : ym9.Ok Tryz.prog := (fsK w36 fs0)
theorem z9x : z5i.Ok Tryz.prog := fn_ok (k := z5i) (fn := Tryz.f85) (W := []) (H := []) Tryz.func85 yo8 trivial rfl rfl (fun av x => by kernel_rfl)
def z82 (n : GNet) (people : List Int) (c : GCase) (t : Int) (who : Int) : Option (GCase × Bool) := (z04 c).bind fun x1 => ((z4f n c).bind fun x2 => (if x2 = true then (if decide ((c.busy.length : Int) = 6) = true then (some (x1, false)) else ((z83 n c.marks c.busy t).bind fun x5 => (if x5 = true then ((z57 n people c.did c.busy t).bind fun x7 => ((z7e x7 who).bind fun x8 => (if x8 = true then ((z5m n c.marks t).bind fun x10 => (gd (x1.busy.length + [(GItem.mk t who 0)].length ≤ SMALL) ((z04 (GCase.mk x1.state x10 (x1.busy ++ [(GItem.mk t who 0)]) x1.data x1.did)).bind fun x12 => (some (x12, true))))) else (some (x1, false))))) else (some (x1, false))))) else (some (x1, false))))
def zg2 : Con := ⟨27, [.v (.s .net) false, .v (.sl .I) false, .v (.s .kase) false, .v .I false, .v .I false], [((.s .kase), true), (.B, true)], [], fun x => z82 x.1 x.2.1 x.2.2.1 x.2.2.2.1 x.2.2.2.2.1⟩
def yd3 : Fs := ⟨[z3g, z5i, zd4, z7w, za1, z13], [], []⟩
theorem yf0 : yd3.Ok Tryz.prog := (fsK z6n (fsK z9x (fsK y60 (fsK zw4 (fsK y1t (fsK y61 fs0))))))
theorem yh2 : zg2.Ok Tryz.prog := fn_ok (k := zg2) (fn := Tryz.f27) (W := []) (H := []) Tryz.func27 yf0 trivial rfl rfl (fun av x => by kernel_rfl)
def z6u (n : GNet) (c : GCase) (k : Int) (v : Int) (num : Int) : Option (GCase × Bool) := (z04 c).bind fun x1 => ((z4f n c).bind fun x2 => (if x2 = true then (gd (ok64 ((c.busy.length : Int) - 1)) ((z0u k 0 ((c.busy.length : Int) - 1)).bind fun x5 => (if x5 = true then ((z0u v (-1) 2).bind fun x7 => (if x7 = true then ((z5k num).bind fun x9 => (if x9 = true then (if decide ((c.did.length : Int) = 60) = true then (some (x1, false)) else (if decide (0 ≤ v) = true then ((getI x1.data v).bind fun x13 => ((getI x1.busy k).bind fun x14 => (gd (ok64 (x14.did + 1)) ((getI n.tasks ((GItem.mk x14.task x14.who (x14.did + 1)).task)).bind fun x16 => (if decide ((GItem.mk x14.task x14.who (x14.did + 1)).did < x16.need) = true then (some ((GCase.mk x1.state x1.marks (x1.busy.set k.toNat (GItem.mk x14.task x14.who (x14.did + 1))) (x1.data.set v.toNat num) x1.did), true)) else ((z5j n c.marks ((GItem.mk x14.task x14.who (x14.did + 1)).task) (x1.data.set v.toNat num)).bind fun x18 => (if x18.2 = true then (gd (x1.did.length + [(GDid.mk ((GItem.mk x14.task x14.who (x14.did + 1)).task) ((GItem.mk x14.task x14.who (x14.did + 1)).who))].length ≤ SMALL) (gd (ok64 (k + 1)) ((z4e (x1.busy.set k.toNat (GItem.mk x14.task x14.who (x14.did + 1))) k (k + 1)).bind fun x22 => ((getI x18.1 1).bind fun x23 => (if decide (0 < x23) = true then ((z04 (GCase.mk 2 x18.1 [] (x1.data.set v.toNat num) (x1.did ++ [(GDid.mk ((GItem.mk x14.task x14.who (x14.did + 1)).task) ((GItem.mk x14.task x14.who (x14.did + 1)).who))]))).bind fun x25 => (some (x25, true))) else ((z04 (GCase.mk x1.state x18.1 x22 (x1.data.set v.toNat num) (x1.did ++ [(GDid.mk ((GItem.mk x14.task x14.who (x14.did + 1)).task) ((GItem.mk x14.task x14.who (x14.did + 1)).who))]))).bind fun x26 => (some (x26, true)))))))) else ((z04 c).bind fun x27 => (some (x27, false)))))))))) else ((getI x1.busy k).bind fun x28 => (gd (ok64 (x28.did + 1)) ((getI n.tasks ((GItem.mk x28.task x28.who (x28.did + 1)).task)).bind fun x30 => (if decide ((GItem.mk x28.task x28.who (x28.did + 1)).did < x30.need) = true then (some ((GCase.mk x1.state x1.marks (x1.busy.set k.toNat (GItem.mk x28.task x28.who (x28.did + 1))) x1.data x1.did), true)) else ((z5j n c.marks ((GItem.mk x28.task x28.who (x28.did + 1)).task) x1.data).bind fun x32 => (if x32.2 = true then (gd (x1.did.length + [(GDid.mk ((GItem.mk x28.task x28.who (x28.did + 1)).task) ((GItem.mk x28.task x28.who (x28.did + 1)).who))].length ≤ SMALL) (gd (ok64 (k + 1)) ((z4e (x1.busy.set k.toNat (GItem.mk x28.task x28.who (x28.did + 1))) k (k + 1)).bind fun x36 => ((getI x32.1 1).bind fun x37 => (if decide (0 < x37) = true then ((z04 (GCase.mk 2 x32.1 [] x1.data (x1.did ++ [(GDid.mk ((GItem.mk x28.task x28.who (x28.did + 1)).task) ((GItem.mk x28.task x28.who (x28.did + 1)).who))]))).bind fun x39 => (some (x39, true))) else ((z04 (GCase.mk x1.state x32.1 x36 x1.data (x1.did ++ [(GDid.mk ((GItem.mk x28.task x28.who (x28.did + 1)).task) ((GItem.mk x28.task x28.who (x28.did + 1)).who))]))).bind fun x40 => (some (x40, true)))))))) else ((z04 c).bind fun x41 => (some (x41, false))))))))))) else (some (x1, false)))) else (some (x1, false)))) else (some (x1, false))))) else (some (x1, false))))
def z9m : Con := ⟨45, [.v (.s .net) false, .v (.s .kase) false, .v .I false, .v .I false, .v .I false], [((.s .kase), true), (.B, true)], [], fun x => z6u x.1 x.2.1 x.2.2.1 x.2.2.2.1 x.2.2.2.2.1⟩
def ym0 : Fs := ⟨[z3g, z5i, z2e, z6t, z0o, y42], [], []⟩
theorem yo3 : ym0.Ok Tryz.prog := (fsK z6n (fsK z9x (fsK z3h (fsK zn1 (fsK yq8 (fsK yq5 fs0))))))
theorem y45 : z9m.Ok Tryz.prog := fn_ok (k := z9m) (fn := Tryz.f45) (W := []) (H := []) Tryz.func45 yo3 trivial rfl rfl (fun av x => by kernel_rfl)
def z74 (s0_0 : Int) (s0_1 : Int) (bk0 : Int → Int → List GDid → Option (List GDid)) (l1_1 : List GDid) : Option (List GDid) := gd (ok64 (s0_1 + 1)) (bk0 s0_0 (s0_1 + 1) l1_1)
def z3x (x6 : Int) (x7 : (List Int)) (p1_0 : Int) (kx1_0 : List GDid → Option (List GDid)) : Nat → Int → List GDid → Option (List GDid)
  | 0, _, _ => none
  | n1 + 1, s1_0, l1_1 => if decide (s1_0 < p1_0) = true then ((getI x7 s1_0).bind fun x9 => (gd (l1_1.length + [(GDid.mk x6 x9)].length ≤ SMALL) (gd (ok64 (s1_0 + 1)) ((z3x x6 x7 p1_0 kx1_0 n1) (s1_0 + 1) (l1_1 ++ [(GDid.mk x6 x9)]))))) else (kx1_0 l1_1)
def z5e (l0_2 : List GDid) : Option (List GDid) := some l0_2
def z2b (n : GNet) (people : List Int) (c : GCase) (x4 : (List Int)) (kx0_0 : List GDid → Option (List GDid)) : Nat → Int → Int → List GDid → Option (List GDid)
  | 0, _, _, _ => none
  | n0 + 1, s0_0, s0_1, l0_2 => if decide (s0_1 < s0_0) = true then ((getI x4 s0_1).bind fun x6 => ((z57 n people c.did c.busy x6).bind fun x7 => (z3x x6 x7 (x7.length : Int) (z74 s0_0 s0_1 (z2b n people c x4 kx0_0 n0)) FUEL 0 l0_2))) else (kx0_0 l0_2)
def zd9 (n : GNet) (people : List Int) (c : GCase) : Option (List GDid) := (z4f n c).bind fun x1 => (if x1 = true then (if decide ((c.busy.length : Int) = 6) = true then (some []) else ((z84 n c.marks c.busy).bind fun x4 => (z2b n people c x4 z5e FUEL (x4.length : Int) 0 ([] : List GDid)))) else (some []))
def z0w : Con := ⟨111, [.v (.s .net) false, .v (.sl .I) false, .v (.s .kase) false], [((.sl (.s .did)), true)], [], fun x => zd9 x.1 x.2.1 x.2.2.1⟩
def yw1 : Fs := ⟨[z5i, z1w, z7w], [], []⟩
theorem zu3 : yw1.Ok Tryz.prog := (fsK z9x (fsK yh3 (fsK zw4 fs0)))
def zr2 : Tmpl := ⟨[(1, .c (.s .I)), (3, .c (.bx 3 0)), (5, .c (.bx 5 0)), (7, .c (.ref 500007)), (9, .c .i), (27, .c (.ref 27)), (28, .c .i), (29, .c .i), (40, .c (.ref 40)), (41, .c .i), (42, .c .i)], [(3, .boxT (.s .net)), (5, .boxT (.s .kase)), (500007, .arr (.s .did) true), (27, .arr .I true), (40, .arr .I true)]⟩
def zk6 : Tmpl := ⟨[(1, .c (.s .I)), (3, .c (.bx 3 0)), (5, .c (.bx 5 0)), (7, .c (.ref 500007)), (27, .c (.ref 27)), (28, .c .i), (29, .c .i)], [(3, .boxT (.s .net)), (5, .boxT (.s .kase)), (500007, .arr (.s .did) true), (27, .arr .I true)]⟩
def y6o (av : AV) (x : HP z0w.ps) (n : Nat) (v : zr2.den) (K : Ks (CR z0w)) : Option (CR z0w) := z3x v.1.2.2.2.2.1 v.2.2.2.2.2.1 v.1.2.2.2.2.2.2.2.2.2.1 (fun l1_1 => zk6.at none ((v.1.1, (), (), (), (), v.1.2.2.2.2.2.2.1, v.1.2.2.2.2.2.2.2.1, ()), (v.2.1, v.2.2.1, l1_1, v.2.2.2.2.1, ())) (K (.exit 2))) n v.1.2.2.2.2.2.2.2.2.2.2.1 v.2.2.2.1
def zo5 (av : AV) (x : HP z0w.ps) : Hdl (CR z0w) := hnd [] zr2 (y6o av x)
theorem y7c : LP z0w Tryz.f111 [0, 0] zo5 := lp_ok (W := []) (H := []) (xs := [zk6]) zu3 trivial rfl (fun av x v K => by kernel_rfl) (fun av x n v K => by kernel_rfl)
def y27 : Tmpl := ⟨[(1, .c (.s .I)), (3, .c (.bx 3 0)), (5, .c (.bx 5 0)), (7, .c (.ref 500007)), (27, .c (.ref 27)), (28, .c .i), (29, .c .i)], [(3, .boxT (.s .net)), (5, .boxT (.s .kase)), (500007, .arr (.s .did) true), (27, .arr .I true)]⟩
def y0b : Tmpl := ⟨[(7, .c (.ref 500007))], [(500007, .arr (.s .did) true)]⟩
def yb8 (av : AV) (x : HP z0w.ps) (n : Nat) (v : y27.den) (K : Ks (CR z0w)) : Option (CR z0w) := z2b v.2.1 v.1.1 v.2.2.1 v.2.2.2.2.1 (fun l0_2 => y0b.at none (((), ()), (l0_2, ())) (K (.exit 0))) n v.1.2.2.2.2.2.1 v.1.2.2.2.2.2.2.1 v.2.2.2.1
def y13 (av : AV) (x : HP z0w.ps) : Hdl (CR z0w) := hnd [.e 7 500007 (.s .did)] y27 (yb8 av x)
theorem yg2 : LP z0w Tryz.f111 [0] y13 := lp_ok (W := []) (H := [zo5]) (xs := [y0b]) zu3 ⟨y7c, trivial⟩ rfl (fun av x v K => by kernel_rfl) (fun av x n v K => by kernel_rfl)
theorem w0e : z0w.Ok Tryz.prog := fn_ok (k := z0w) (fn := Tryz.f111) (W := []) (H := [y13]) Tryz.func111 zu3 ⟨yg2, trivial⟩ rfl rfl (fun av x => by kernel_rfl)
def zp7 (c : GCase) : Option (GCase × Bool) := (z04 c).bind fun x11 => (some (x11, false))
def z9f (n : GNet) (people : List Int) (c : GCase) (x7 : (List GDid)) (p0_0 : Int) (p0_1 : Int) (kx0_0 : Option (GCase × Bool)) : Nat → Option (GCase × Bool)
  | 0 => none
  | n0 + 1 => if decide (p0_1 < p0_0) = true then ((getI x7 p0_1).bind fun x9 => ((z82 n people c x9.task x9.who).bind fun x10 => (some (x10.1, x10.2)))) else (kx0_0)
def z9o (n : GNet) (people : List Int) (c : GCase) : Option (GCase × Bool) := (z4f n c).bind fun x1 => (if x1 = true then ((z7h people).bind fun x3 => (if x3 = true then (if decide (0 < (c.busy.length : Int)) = true then ((z6u n c 0 (-1) 0).bind fun x6 => (some (x6.1, x6.2))) else ((zd9 n people c).bind fun x7 => (z9f n people c x7 (x7.length : Int) 0 (zp7 c) FUEL ))) else ((z04 c).bind fun x12 => (some (x12, false))))) else ((z04 c).bind fun x13 => (some (x13, false))))
def z2o : Con := ⟨42, [.v (.s .net) false, .v (.sl .I) false, .v (.s .kase) false], [((.s .kase), true), (.B, true)], [], fun x => z9o x.1 x.2.1 x.2.2.1⟩
def ym2 : Fs := ⟨[z5i, za2, z9m, z0w, zg2, z3g], [], []⟩
theorem y3g : ym2.Ok Tryz.prog := (fsK z9x (fsK y1w (fsK y45 (fsK w0e (fsK yh2 (fsK z6n fs0))))))
def zz5 : Tmpl := ⟨[(1, .c (.s .I)), (3, .c (.bx 3 0)), (5, .c (.bx 5 0)), (6, .c (.bx 6 0)), (33, .c (.ref 33)), (34, .c .i), (35, .c .i)], [(3, .boxT (.s .net)), (5, .boxT (.s .kase)), (6, .box [.i, .nl, .nl, .nl, .nl]), (33, .arr (.s .did) true)]⟩
def zs2 : Tmpl := ⟨[(5, .c (.bx 5 0)), (6, .c (.bx 6 0))], [(5, .boxT (.s .kase)), (6, .box [.i, .nl, .nl, .nl, .nl])]⟩
def y8t (av : AV) (x : HP z2o.ps) (n : Nat) (v : zz5.den) (K : Ks (CR z2o)) : Option (CR z2o) := z9f v.2.1 v.1.1 v.2.2.1 v.2.2.2.2.1 v.1.2.2.2.2.2.1 v.1.2.2.2.2.2.2.1 (zs2.at none (((), (), ()), (v.2.2.1, (v.2.2.2.1.1, (), (), (), (), ()), ())) (K (.exit 0))) n
def zx4 (av : AV) (x : HP z2o.ps) : Hdl (CR z2o) := hnd [] zz5 (y8t av x)
theorem y9i : LP z2o Tryz.f42 [0] zx4 := lp_ok (W := []) (H := []) (xs := [zs2]) y3g trivial rfl (fun av x v K => by kernel_rfl) (fun av x n v K => by kernel_rfl)
theorem yq7 : z2o.Ok Tryz.prog := fn_ok (k := z2o) (fn := Tryz.f42) (W := []) (H := [zx4]) Tryz.func42 y3g ⟨y9i, trivial⟩ rfl rfl (fun av x => by kernel_rfl)
def z9t (code : List Int) : Option GRd := if decide (2000 < (code.length : Int)) = true then (gd ((0 : Int) ≤ 2000 ∧ 2000 ≤ (code.length : Int)) (some (GRd.mk (code.take (2000 : Int).toNat) 0))) else (some (GRd.mk code 0))
def y43 : BCon := ⟨83, fun x => z9t x⟩
def yn7 : Fs := ⟨[], [], []⟩
theorem yp1 : yn7.Ok Tryz.prog := fs0
theorem yr9 : y43.Ok Tryz.prog := wl0 (fn := Tryz.f83) Tryz.func83 yp1 rfl rfl rfl rfl rfl (fun l => by kernel_rfl)
def z08 (r : GRd) (n : Int) : Option (Int × GRd) := gd (ok64 (r.p + 1)) (if decide (n < 1) = true then (some (0, (GRd.mk r.b (r.p + 1)))) else (if decide ((r.b.length : Int) = 0) = true then (some (0, (GRd.mk r.b (r.p + 1)))) else (gd (ok64 ((r.p + 1) - 1)) (if decide (((r.p + 1) - 1) < (r.b.length : Int)) = true then ((getI r.b ((r.p + 1) - 1)).bind fun x6 => (gd (ok64 x6) (gd ((n : Int) ≠ 0) (some ((Int.tmod x6 n), (GRd.mk r.b (r.p + 1))))))) else (gd (((r.b.length : Int) : Int) ≠ 0) ((getI r.b (Int.tmod ((r.p + 1) - 1) (r.b.length : Int))).bind fun x10 => (gd (ok64 x10) (gd (ok64 (x10 * 131)) (gd (ok64 (((r.p + 1) - 1) * 7)) (gd (ok64 ((((r.p + 1) - 1) * 7) + 3)) (gd (((r.b.length : Int) : Int) ≠ 0) ((getI r.b (Int.tmod ((((r.p + 1) - 1) * 7) + 3) (r.b.length : Int))).bind fun x16 => (gd (ok64 x16) (gd (ok64 (x16 * 1117)) (gd (ok64 ((x10 * 131) + (x16 * 1117))) (gd (ok64 (((r.p + 1) - 1) * 29)) (gd (ok64 (((x10 * 131) + (x16 * 1117)) + (((r.p + 1) - 1) * 29))) (gd (((r.b.length : Int) : Int) ≠ 0 ∧ ok64 (Int.tdiv ((r.p + 1) - 1) (r.b.length : Int))) (gd (ok64 ((Int.tdiv ((r.p + 1) - 1) (r.b.length : Int)) * 53)) (gd (ok64 ((((x10 * 131) + (x16 * 1117)) + (((r.p + 1) - 1) * 29)) + ((Int.tdiv ((r.p + 1) - 1) (r.b.length : Int)) * 53))) (gd ((64 : Int) ≠ 0 ∧ ok64 (Int.tdiv ((((x10 * 131) + (x16 * 1117)) + (((r.p + 1) - 1) * 29)) + ((Int.tdiv ((r.p + 1) - 1) (r.b.length : Int)) * 53)) 64)) (gd ((n : Int) ≠ 0) (some ((Int.tmod (xorI ((((x10 * 131) + (x16 * 1117)) + (((r.p + 1) - 1) * 29)) + ((Int.tdiv ((r.p + 1) - 1) (r.b.length : Int)) * 53)) (Int.tdiv ((((x10 * 131) + (x16 * 1117)) + (((r.p + 1) - 1) * 29)) + ((Int.tdiv ((r.p + 1) - 1) (r.b.length : Int)) * 53)) 64)) n), (GRd.mk r.b (r.p + 1))))))))))))))))))))))))))
def zp5 : Con := ⟨98, [.ptr (.s .rd) false, .v .I false], [(.I, true)], [(0, .ptr (.s .rd) false)], fun x => z08 x.1 x.2.1⟩
def wp2 : Fs := ⟨[], [], []⟩
theorem wp3 : wp2.Ok Tryz.prog := fs0
theorem y1y : zp5.Ok Tryz.prog := fn_ok (k := zp5) (fn := Tryz.f98) (W := []) (H := []) Tryz.func98 wp3 trivial rfl rfl (fun av x => by kernel_rfl)
end
end Go.Am
