/- Mirrors and contracts, printed. Own work. -/
import Derived.Test.YtgolgnbgomhknaaGreatSyD1
set_option maxRecDepth 100000
set_option maxHeartbeats 4000000
set_option linter.unusedVariables false
set_option linter.unusedSimpArgs false
namespace Go.Am
noncomputable section
open Go Go.Proofs
def z03 (n : Int) (low : Int) (high : Int) : Option Bool := if decide (low ≤ n) = true then (some (decide (n ≤ high))) else (some false)
def z0m : Con := ⟨90, [.v .I false, .v .I false, .v .I false], [(.B, true)], [], fun x => z03 x.1 x.2.1 x.2.2.1⟩
def v1e : Fs := ⟨[], [], []⟩
theorem v1i : v1e.Ok Tryz.prog := fs0
theorem z0u : z0m.Ok Tryz.prog := fn_ok (k := z0m) (fn := Tryz.f90) (W := []) (H := []) Tryz.func90 v1i trivial rfl rfl (fun av x => by kernel_rfl)
def y8e  : Option Bool := some true
def z6y (data : List Int) (kx0_0 : Option Bool) : Nat → Int → Option Bool
  | 0, _ => none
  | n0 + 1, s0_0 => if decide (s0_0 < (data.length : Int)) = true then ((getI data s0_0).bind fun x3 => ((z03 x3 (-99) 99).bind fun x4 => (if x4 = true then (gd (ok64 (s0_0 + 1)) ((z6y data kx0_0 n0) (s0_0 + 1))) else (some false)))) else (kx0_0)
def z2n (data : List Int) : Option Bool := if decide ((data.length : Int) = 3) = true then (z6y data y8e FUEL 0) else (some false)
def z17 : Con := ⟨89, [.v (.sl .I) false], [(.B, true)], [], fun x => z2n x.1⟩
def wt6 : Fs := ⟨[z0m], [], []⟩
theorem w0c : wt6.Ok Tryz.prog := (fsK z0u fs0)
def yi3 : Tmpl := ⟨[(0, .c (.s .I)), (3, .c .i)], []⟩
def ya0 : Tmpl := ⟨[], []⟩
def w6x (av : AV) (x : HP z17.ps) (n : Nat) (v : yi3.den) (K : Ks (CR z17)) : Option (CR z17) := z6y v.1.1 (ya0.at none ((), ()) (K (.exit 0))) n v.1.2.1
def yf8 (av : AV) (x : HP z17.ps) : Hdl (CR z17) := hnd [] yi3 (w6x av x)
theorem w8m : LP z17 Tryz.f89 [0] yf8 := lp_ok (W := []) (H := []) (xs := [ya0]) w0c trivial rfl (fun av x v K => by kernel_rfl) (fun av x n v K => by kernel_rfl)
theorem z6e : z17.Ok Tryz.prog := fn_ok (k := z17) (fn := Tryz.f89) (W := []) (H := [yf8]) Tryz.func89 w0c ⟨w8m, trivial⟩ rfl rfl (fun av x => by kernel_rfl)
def z7j (data : List Int) (k : Int) (n : Int) : Option (List Int) := (z2n data).bind fun x1 => (if x1 = true then ((z03 k 0 2).bind fun x3 => (if x3 = true then ((z03 n (-99) 99).bind fun x5 => (if x5 = true then (gd (([] : List Int).length + data.length ≤ SMALL) ((getI (([] : List Int) ++ data) k).bind fun x8 => (some ((([] : List Int) ++ data).set k.toNat n)))) else (gd (([] : List Int).length + data.length ≤ SMALL) (some (([] : List Int) ++ data))))) else (gd (([] : List Int).length + data.length ≤ SMALL) (some (([] : List Int) ++ data))))) else (gd (([] : List Int).length + data.length ≤ SMALL) (some (([] : List Int) ++ data))))
def zs4 : Con := ⟨171, [.v (.sl .I) false, .v .I false, .v .I false], [((.sl .I), true)], [], fun x => z7j x.1 x.2.1 x.2.2.1⟩
def we4 : Fs := ⟨[z17, z0m], [], []⟩
theorem wi0 : we4.Ok Tryz.prog := (fsK z6e (fsK z0u fs0))
theorem yr7 : zs4.Ok Tryz.prog := fn_ok (k := zs4) (fn := Tryz.f171) (W := []) (H := []) Tryz.func171 wi0 trivial rfl rfl (fun av x => by kernel_rfl)
def z69 (e : GAsk) : Option Bool := if decide (e.op = 0) = true then (some (decide ([e.op, e.var, e.k] = [0, 0, 0]))) else ((z03 e.op 1 3).bind fun x2 => (if x2 = true then ((z03 e.var 0 2).bind fun x4 => (if x4 = true then ((z03 e.k (-99) 99).bind fun x6 => (some x6)) else (some false))) else (some false)))
def z8h : Con := ⟨138, [.v (.s .ask) false], [(.B, true)], [], fun x => z69 x.1⟩
def wt9 : Fs := ⟨[z0m], [], []⟩
theorem wv9 : wt9.Ok Tryz.prog := (fsK z0u fs0)
theorem zo4 : z8h.Ok Tryz.prog := fn_ok (k := z8h) (fn := Tryz.f138) (W := []) (H := []) Tryz.func138 wv9 trivial rfl rfl (fun av x => by kernel_rfl)
def z1b (e : GAsk) (data : List Int) : Option Bool := (z69 e).bind fun x1 => (if x1 = true then ((z2n data).bind fun x3 => (if x3 = true then (if decide (e.op = 1) = true then ((getI data e.var).bind fun x6 => (some (decide (x6 < e.k)))) else (if decide (e.op = 2) = true then ((getI data e.var).bind fun x8 => (some (decide (x8 = e.k)))) else (if decide (e.op = 3) = true then ((getI data e.var).bind fun x10 => (some (decide (e.k < x10)))) else (some true)))) else (some false))) else (some false))
def z4a : Con := ⟨181, [.v (.s .ask) false, .v (.sl .I) false], [(.B, true)], [], fun x => z1b x.1 x.2.1⟩
def w48 : Fs := ⟨[z8h, z17], [], []⟩
theorem w4s : w48.Ok Tryz.prog := (fsK zo4 (fsK z6e fs0))
theorem z77 : z4a.Ok Tryz.prog := fn_ok (k := z4a) (fn := Tryz.f181) (W := []) (H := []) Tryz.func181 w4s trivial rfl rfl (fun av x => by kernel_rfl)
def z0c (n : Int) (low : Int) (high : Int) : Option Bool := if decide (low ≤ n) = true then (some (decide (n ≤ high))) else (some false)
def z20 : Con := ⟨113, [.v .I false, .v .I false, .v .I false], [(.B, true)], [], fun x => z0c x.1 x.2.1 x.2.2.1⟩
def v60 : Fs := ⟨[], [], []⟩
theorem v6b : v60.Ok Tryz.prog := fs0
theorem z2p : z20.Ok Tryz.prog := fn_ok (k := z20) (fn := Tryz.f113) (W := []) (H := []) Tryz.func113 v6b trivial rfl rfl (fun av x => by kernel_rfl)
def z59 (n : Int) : Option Bool := (z0c n (-99) 99).bind fun x1 => (some x1)
def z7y : Con := ⟨114, [.v .I false], [(.B, true)], [], fun x => z59 x.1⟩
def w7f : Fs := ⟨[z20], [], []⟩
theorem w84 : w7f.Ok Tryz.prog := (fsK z2p fs0)
theorem zm7 : z7y.Ok Tryz.prog := fn_ok (k := z7y) (fn := Tryz.f114) (W := []) (H := []) Tryz.func114 w84 trivial rfl rfl (fun av x => by kernel_rfl)
def z0l (list : List Int) : Option (List Int) := gd (([] : List Int).length + list.length ≤ SMALL) (some (([] : List Int) ++ list))
def z1s : Con := ⟨140, [.v (.sl .I) false], [((.sl .I), true)], [], fun x => z0l x.1⟩
def w1s : Fs := ⟨[], [], []⟩
theorem w1z : w1s.Ok Tryz.prog := fs0
theorem z3f : z1s.Ok Tryz.prog := fn_ok (k := z1s) (fn := Tryz.f140) (W := []) (H := []) Tryz.func140 w1z trivial rfl rfl (fun av x => by kernel_rfl)
def z78 (e : GAsk) : Option Bool := if decide (e.op = 0) = true then (if decide (e.var = 0) = true then (some (decide (e.k = 0))) else (some false)) else ((z0c e.op 1 3).bind fun x3 => (if x3 = true then ((z0c e.var 0 2).bind fun x5 => (if x5 = true then ((z59 e.k).bind fun x7 => (some x7)) else (some false))) else (some false)))
def zn4 : Con := ⟨141, [.v (.s .ask) false], [(.B, true)], [], fun x => z78 x.1⟩
def ws7 : Fs := ⟨[z20, z7y], [], []⟩
theorem wv4 : ws7.Ok Tryz.prog := (fsK z2p (fsK zm7 fs0))
theorem y8s : zn4.Ok Tryz.prog := fn_ok (k := zn4) (fn := Tryz.f141) (W := []) (H := []) Tryz.func141 wv4 trivial rfl rfl (fun av x => by kernel_rfl)
def y2c  : Option Bool := some true
def z3r (list : List Int) (low : Int) (high : Int) (kx0_0 : Option Bool) : Nat → Int → Option Bool
  | 0, _ => none
  | n0 + 1, s0_0 => if decide (s0_0 < (list.length : Int)) = true then ((getI list s0_0).bind fun x4 => ((z03 x4 low high).bind fun x5 => (if x5 = true then (if decide (0 < s0_0) = true then (gd (ok64 (s0_0 - 1)) ((getI list (s0_0 - 1)).bind fun x9 => ((getI list s0_0).bind fun x10 => (if decide (x10 ≤ x9) = true then (some false) else (gd (ok64 (s0_0 + 1)) ((z3r list low high kx0_0 n0) (s0_0 + 1))))))) else (gd (ok64 (s0_0 + 1)) ((z3r list low high kx0_0 n0) (s0_0 + 1)))) else (some false)))) else (kx0_0)
def z9r (list : List Int) (least : Int) (most : Int) (low : Int) (high : Int) : Option Bool := (z03 (list.length : Int) least most).bind fun x1 => (if x1 = true then (z3r list low high y2c FUEL 0) else (some false))
def z43 : Con := ⟨214, [.v (.sl .I) false, .v .I false, .v .I false, .v .I false, .v .I false], [(.B, true)], [], fun x => z9r x.1 x.2.1 x.2.2.1 x.2.2.2.1 x.2.2.2.2.1⟩
def w7x : Fs := ⟨[z0m], [], []⟩
theorem ye8 : w7x.Ok Tryz.prog := (fsK z0u fs0)
def y66 : Tmpl := ⟨[(0, .c (.s .I)), (3, .c .i), (4, .c .i), (11, .c .i)], []⟩
def y3a : Tmpl := ⟨[], []⟩
def w1o (av : AV) (x : HP z43.ps) (n : Nat) (v : y66.den) (K : Ks (CR z43)) : Option (CR z43) := z3r v.1.1 v.1.2.1 v.1.2.2.1 (y3a.at none ((), ()) (K (.exit 0))) n v.1.2.2.2.1
def y5a (av : AV) (x : HP z43.ps) : Hdl (CR z43) := hnd [] y66 (w1o av x)
theorem w2m : LP z43 Tryz.f214 [0] y5a := lp_ok (W := []) (H := []) (xs := [y3a]) ye8 trivial rfl (fun av x v K => by kernel_rfl) (fun av x n v K => by kernel_rfl)
theorem w9h : z43.Ok Tryz.prog := fn_ok (k := z43) (fn := Tryz.f214) (W := []) (H := [y5a]) Tryz.func214 ye8 ⟨w2m, trivial⟩ rfl rfl (fun av x => by kernel_rfl)
def y8o  : Option Bool := some false
def z75 (list : List Int) (n : Int) (kx0_0 : Option Bool) : Nat → Int → Option Bool
  | 0, _ => none
  | n0 + 1, s0_0 => if decide (s0_0 < (list.length : Int)) = true then ((getI list s0_0).bind fun x2 => (if decide (x2 = n) = true then (some true) else (gd (ok64 (s0_0 + 1)) ((z75 list n kx0_0 n0) (s0_0 + 1))))) else (kx0_0)
def zb8 (list : List Int) (n : Int) : Option Bool := z75 list n y8o FUEL 0
def z4b : Con := ⟨101, [.v (.sl .I) false, .v .I false], [(.B, true)], [], fun x => zb8 x.1 x.2.1⟩
def wu5 : Fs := ⟨[], [], []⟩
theorem w0i : wu5.Ok Tryz.prog := fs0
def yj0 : Tmpl := ⟨[(0, .c (.s .I)), (1, .c .i), (5, .c .i)], []⟩
def ya6 : Tmpl := ⟨[], []⟩
def w74 (av : AV) (x : HP z4b.ps) (n : Nat) (v : yj0.den) (K : Ks (CR z4b)) : Option (CR z4b) := z75 v.1.1 v.1.2.1 (ya6.at none ((), ()) (K (.exit 0))) n v.1.2.2.1
def yg5 (av : AV) (x : HP z4b.ps) : Hdl (CR z4b) := hnd [] yj0 (w74 av x)
theorem w8t : LP z4b Tryz.f101 [0] yg5 := lp_ok (W := []) (H := []) (xs := [ya6]) w0i trivial rfl (fun av x v K => by kernel_rfl) (fun av x n v K => by kernel_rfl)
theorem y93 : z4b.Ok Tryz.prog := fn_ok (k := z4b) (fn := Tryz.f101) (W := []) (H := [yg5]) Tryz.func101 w0i ⟨w8t, trivial⟩ rfl rfl (fun av x => by kernel_rfl)
def y29 (s0_0 : Int) (bk0 : Int → Option Bool) : Option Bool := gd (ok64 (s0_0 + 1)) (bk0 (s0_0 + 1))
def z2o (t : GTask) (s0_0 : Int) (x4 : GFlow) (kx1_0 : Option Bool) : Nat → Int → Option Bool
  | 0, _ => none
  | n1 + 1, s1_0 => if decide (s1_0 < s0_0) = true then ((getI t.out s1_0).bind fun x14 => (if decide (x14.to = x4.to) = true then (some false) else (gd (ok64 (s1_0 + 1)) ((z2o t s0_0 x4 kx1_0 n1) (s1_0 + 1))))) else (kx1_0)
def y2a (s0_0 : Int) (bk0 : Int → Option Bool) : Option Bool := gd (ok64 (s0_0 + 1)) (bk0 (s0_0 + 1))
def y2b  : Option Bool := some true
def z3q (t : GTask) (places : Int) (kx0_0 : Option Bool) : Nat → Int → Option Bool
  | 0, _ => none
  | n0 + 1, s0_0 => if decide (s0_0 < (t.out.length : Int)) = true then ((getI t.out s0_0).bind fun x4 => (gd (ok64 ((t.out.length : Int) - 1)) (if decide (s0_0 = ((t.out.length : Int) - 1)) = true then (gd (ok64 (places - 1)) ((z03 x4.to 1 (places - 1)).bind fun x8 => (if x8 = true then ((z69 x4.if_).bind fun x10 => (if x10 = true then (if (true == (decide (x4.if_.op = 0))) = true then (z2o t s0_0 x4 (y29 s0_0 (z3q t places kx0_0 n0)) FUEL 0) else (some false)) else (some false))) else (some false)))) else (gd (ok64 (places - 1)) ((z03 x4.to 1 (places - 1)).bind fun x19 => (if x19 = true then ((z69 x4.if_).bind fun x21 => (if x21 = true then (if ((decide (t.split = 1)) == (decide (x4.if_.op = 0))) = true then (z2o t s0_0 x4 (y2a s0_0 (z3q t places kx0_0 n0)) FUEL 0) else (some false)) else (some false))) else (some false))))))) else (kx0_0)
def zm6 (t : GTask) (places : Int) : Option Bool := (z03 (t.out.length : Int) 1 3).bind fun x1 => (if x1 = true then (z3q t places y2b FUEL 0) else (some false))
def z0y : Con := ⟨215, [.v (.s .task) false, .v .I false], [(.B, true)], [], fun x => zm6 x.1 x.2.1⟩
def w7w : Fs := ⟨[z0m, z8h], [], []⟩
theorem y0u : w7w.Ok Tryz.prog := (fsK z0u (fsK zo4 fs0))
def y0d : Tmpl := ⟨[(1, .c .i), (2, .c (.bx 2 0)), (5, .c .i), (6, .c (.bx 6 0)), (8, .c .i)], [(2, .boxT (.s .task)), (6, .boxT (.s .flow))]⟩
def zy6 : Tmpl := ⟨[(1, .c .i), (2, .c (.bx 2 0)), (5, .c .i)], [(2, .boxT (.s .task))]⟩
def ym9 (av : AV) (x : HP z0y.ps) (n : Nat) (v : y0d.den) (K : Ks (CR z0y)) : Option (CR z0y) := z2o v.2.1 v.1.2.2.1 v.2.2.1 (zy6.at none ((v.1.1, (), v.1.2.2.1, ()), (v.2.1, ())) (K (.exit 2))) n v.1.2.2.2.2.1
def zz3 (av : AV) (x : HP z0y.ps) : Hdl (CR z0y) := hnd [] y0d (ym9 av x)
theorem yq5 : LP z0y Tryz.f215 [0, 0] zz3 := lp_ok (W := []) (H := []) (xs := [zy6]) y0u trivial rfl (fun av x v K => by kernel_rfl) (fun av x n v K => by kernel_rfl)
def y65 : Tmpl := ⟨[(1, .c .i), (2, .c (.bx 2 0)), (5, .c .i)], [(2, .boxT (.s .task))]⟩
def y39 : Tmpl := ⟨[], []⟩
def w1n (av : AV) (x : HP z0y.ps) (n : Nat) (v : y65.den) (K : Ks (CR z0y)) : Option (CR z0y) := z3q v.2.1 v.1.1 (y39.at none ((), ()) (K (.exit 0))) n v.1.2.2.1
def y59 (av : AV) (x : HP z0y.ps) : Hdl (CR z0y) := hnd [] y65 (w1n av x)
theorem w2l : LP z0y Tryz.f215 [0] y59 := lp_ok (W := []) (H := [zz3]) (xs := [y39]) y0u ⟨yq5, trivial⟩ rfl (fun av x v K => by kernel_rfl) (fun av x n v K => by kernel_rfl)
theorem w9g : z0y.Ok Tryz.prog := fn_ok (k := z0y) (fn := Tryz.f215) (W := []) (H := [y59]) Tryz.func215 y0u ⟨w2l, trivial⟩ rfl rfl (fun av x => by kernel_rfl)
def zu4 (t : GTask) (places : Int) (tasks : Int) : Option Bool := (z03 t.join 1 3).bind fun x1 => (if x1 = true then ((z03 t.split 1 3).bind fun x3 => (if x3 = true then (gd (ok64 (places - 1)) ((z9r t.in_ 1 3 0 (places - 1)).bind fun x6 => (if x6 = true then ((zb8 t.in_ 1).bind fun x8 => (if x8 = true then (some false) else ((zm6 t places).bind fun x10 => (if x10 = true then (gd (ok64 (places - 1)) ((z9r t.clear 0 places 2 (places - 1)).bind fun x13 => (if x13 = true then ((z03 t.role 1 3).bind fun x15 => (if x15 = true then (gd (ok64 (tasks - 1)) ((z03 t.apart (-1) (tasks - 1)).bind fun x18 => (if x18 = true then ((z03 t.all 1 3).bind fun x20 => (if x20 = true then ((z03 t.need 1 t.all).bind fun x22 => (some x22)) else (some false))) else (some false)))) else (some false))) else (some false)))) else (some false))))) else (some false)))) else (some false))) else (some false))
def y41 : Con := ⟨198, [.v (.s .task) false, .v .I false, .v .I false], [(.B, true)], [], fun x => zu4 x.1 x.2.1 x.2.2.1⟩
def wf6 : Fs := ⟨[z0m, z43, z4b, z0y], [], []⟩
theorem wi7 : wf6.Ok Tryz.prog := (fsK z0u (fsK w9h (fsK y93 (fsK w9g fs0))))
theorem wn1 : y41.Ok Tryz.prog := fn_ok (k := y41) (fn := Tryz.f198) (W := []) (H := []) Tryz.func198 wi7 trivial rfl rfl (fun av x => by kernel_rfl)
def y8h  : Option Bool := some true
def z72 (n : GNet) (kx0_0 : Option Bool) : Nat → Int → Option Bool
  | 0, _ => none
  | n0 + 1, s0_0 => if decide (s0_0 < (n.tasks.length : Int)) = true then ((getI n.tasks s0_0).bind fun x6 => ((zu4 x6 n.places (n.tasks.length : Int)).bind fun x7 => (if x7 = true then (gd (ok64 (s0_0 + 1)) ((z72 n kx0_0 n0) (s0_0 + 1))) else (some false)))) else (kx0_0)
def z3c (n : GNet) : Option Bool := (z03 n.places 2 8).bind fun x1 => (if x1 = true then ((z03 (n.tasks.length : Int) 1 6).bind fun x3 => (if x3 = true then (z72 n y8h FUEL 0) else (some false))) else (some false))
def z2l : Con := ⟨161, [.v (.s .net) false], [(.B, true)], [], fun x => z3c x.1⟩
def wu1 : Fs := ⟨[z0m, y41], [], []⟩
theorem w0f : wu1.Ok Tryz.prog := (fsK z0u (fsK wn1 fs0))
def yi6 : Tmpl := ⟨[(1, .c (.bx 1 0)), (3, .c .i)], [(1, .boxT (.s .net))]⟩
def ya3 : Tmpl := ⟨[], []⟩
def w70 (av : AV) (x : HP z2l.ps) (n : Nat) (v : yi6.den) (K : Ks (CR z2l)) : Option (CR z2l) := z72 v.2.1 (ya3.at none ((), ()) (K (.exit 0))) n v.1.2.1
def yg1 (av : AV) (x : HP z2l.ps) : Hdl (CR z2l) := hnd [] yi6 (w70 av x)
theorem w8p : LP z2l Tryz.f161 [0] yg1 := lp_ok (W := []) (H := []) (xs := [ya3]) w0f trivial rfl (fun av x v K => by kernel_rfl) (fun av x n v K => by kernel_rfl)
theorem zo5 : z2l.Ok Tryz.prog := fn_ok (k := z2l) (fn := Tryz.f161) (W := []) (H := [yg1]) Tryz.func161 w0f ⟨w8p, trivial⟩ rfl rfl (fun av x => by kernel_rfl)
def zg4 (s1_0 : Int) (bk1 : Int → List Bool → Option (List Bool)) (l3_1 : List Bool) : Option (List Bool) := gd (ok64 (s1_0 + 1)) (bk1 (s1_0 + 1) l3_1)
def zg5 (s1_0 : Int) (bk1 : Int → List Bool → Option (List Bool)) (l3_1 : List Bool) : Option (List Bool) := gd (ok64 (s1_0 + 1)) (bk1 (s1_0 + 1) l3_1)
def zg6 (s1_0 : Int) (bk1 : Int → List Bool → Option (List Bool)) (l3_1 : List Bool) : Option (List Bool) := gd (ok64 (s1_0 + 1)) (bk1 (s1_0 + 1) l3_1)
def z1i (n : GNet) (but : Int) (s1_0 : Int) (s2_0 : Bool) (kx3_0 : List Bool → Option (List Bool)) (kx3_1 : List Bool → Option (List Bool)) (kx3_2 : List Bool → Option (List Bool)) : Nat → Int → List Bool → Option (List Bool)
  | 0, _, _ => none
  | n3 + 1, s3_0, l3_1 => (getI n.tasks s1_0).bind fun x12 => (if decide (s3_0 < (x12.out.length : Int)) = true then (if s2_0 = true then (if decide (s1_0 = but) = true then (kx3_0 l3_1) else ((getI n.tasks s1_0).bind fun x17 => ((getI x17.out s3_0).bind fun x18 => ((getI l3_1 x18.to).bind fun x19 => (gd (ok64 (s3_0 + 1)) ((z1i n but s1_0 s2_0 kx3_0 kx3_1 kx3_2 n3) (s3_0 + 1) (l3_1.set x18.to.toNat true))))))) else (kx3_1 l3_1)) else (kx3_2 l3_1))
def y03 (n : GNet) (but : Int) (s1_0 : Int) (l1_1 : List Bool) (bk1 : Int → List Bool → Option (List Bool)) (s2_0 : Bool) : Option (List Bool) := z1i n but s1_0 s2_0 (zg4 s1_0 bk1) (zg5 s1_0 bk1) (zg6 s1_0 bk1) FUEL 0 l1_1
def z23 (n : GNet) (s1_0 : Int) (l1_1 : List Bool) (kx2_0 : Bool → Option (List Bool)) : Nat → Bool → Int → Option (List Bool)
  | 0, _, _ => none
  | n2 + 1, s2_0, s2_1 => (getI n.tasks s1_0).bind fun x4 => (if decide (s2_1 < (x4.in_.length : Int)) = true then (if s2_0 = true then (gd (ok64 (s2_1 + 1)) ((z23 n s1_0 l1_1 kx2_0 n2) true (s2_1 + 1))) else ((getI n.tasks s1_0).bind fun x8 => ((getI x8.in_ s2_1).bind fun x9 => ((getI l1_1 x9).bind fun x10 => (gd (ok64 (s2_1 + 1)) ((z23 n s1_0 l1_1 kx2_0 n2) x10 (s2_1 + 1))))))) else (kx2_0 s2_0))
def y04 (s0_0 : Int) (bk0 : Int → List Bool → Option (List Bool)) (l1_1 : List Bool) : Option (List Bool) := gd (ok64 (s0_0 + 1)) (bk0 (s0_0 + 1) l1_1)
def z0j (n : GNet) (but : Int) (kx1_0 : List Bool → Option (List Bool)) : Nat → Int → List Bool → Option (List Bool)
  | 0, _, _ => none
  | n1 + 1, s1_0, l1_1 => if decide (s1_0 < (n.tasks.length : Int)) = true then (z23 n s1_0 l1_1 (y03 n but s1_0 l1_1 (z0j n but kx1_0 n1)) FUEL false 0) else (kx1_0 l1_1)
def y05 (l0_1 : List Bool) : Option (List Bool) := some l0_1
def z4l (n : GNet) (but : Int) (kx0_0 : List Bool → Option (List Bool)) : Nat → Int → List Bool → Option (List Bool)
  | 0, _, _ => none
  | n0 + 1, s0_0, l0_1 => if decide (s0_0 < n.places) = true then (z0j n but (y04 s0_0 (z4l n but kx0_0 n0)) FUEL 0 l0_1) else (kx0_0 l0_1)
def zg3 (n : GNet) (marked : List Bool) (but : Int) : Option (List Bool) := gd (([] : List Bool).length + marked.length ≤ SMALL) (z4l n but y05 FUEL 0 (([] : List Bool) ++ marked))
def z06 : Con := ⟨216, [.v (.s .net) false, .v (.sl .B) false, .v .I false], [((.sl .B), true)], [], fun x => zg3 x.1 x.2.1 x.2.2.1⟩
def w4d : Fs := ⟨[], [], []⟩
theorem z8c : w4d.Ok Tryz.prog := fs0
def zp0 : Tmpl := ⟨[(2, .c .i), (3, .c (.bx 3 0)), (7, .c (.ref 15)), (8, .c .i), (9, .c .i), (10, .c .b), (11, .c .i)], [(3, .boxT (.s .net)), (15, .arr .B true)]⟩
def zj6 : Tmpl := ⟨[(2, .c .i), (3, .c (.bx 3 0)), (7, .c (.ref 15)), (8, .c .i), (9, .c .i), (10, .c .b)], [(3, .boxT (.s .net)), (15, .arr .B true)]⟩
def y6v (av : AV) (x : HP z06.ps) (n : Nat) (v : zp0.den) (K : Ks (CR z06)) : Option (CR z06) := z23 v.2.1 v.1.2.2.2.2.1 v.2.2.1 (fun s2_0 => zj6.at none ((v.1.1, (), (), v.1.2.2.2.1, v.1.2.2.2.2.1, s2_0, ()), (v.2.1, v.2.2.1, ())) (K (.exit 4))) n v.1.2.2.2.2.2.1 v.1.2.2.2.2.2.2.1
def zn1 (av : AV) (x : HP z06.ps) : Hdl (CR z06) := hnd [] zp0 (y6v av x)
theorem y85 : LP z06 Tryz.f216 [0, 0, 0] zn1 := lp_ok (W := []) (H := []) (xs := [zj6]) z8c trivial rfl (fun av x v K => by kernel_rfl) (fun av x n v K => by kernel_rfl)
def zp1 : Tmpl := ⟨[(2, .c .i), (3, .c (.bx 3 0)), (7, .c (.ref 15)), (8, .c .i), (9, .c .i), (10, .c .b), (12, .c .i)], [(3, .boxT (.s .net)), (15, .arr .B true)]⟩
def z5l : Tmpl := ⟨[(2, .c .i), (3, .c (.bx 3 0)), (7, .c (.ref 15)), (8, .c .i), (9, .c .i)], [(3, .boxT (.s .net)), (15, .arr .B true)]⟩
def y6w (av : AV) (x : HP z06.ps) (n : Nat) (v : zp1.den) (K : Ks (CR z06)) : Option (CR z06) := z1i v.2.1 v.1.1 v.1.2.2.2.2.1 v.1.2.2.2.2.2.1 (fun l3_1 => z5l.at none ((v.1.1, (), (), v.1.2.2.2.1, v.1.2.2.2.2.1, ()), (v.2.1, l3_1, ())) (K (.exit 6))) (fun l3_1 => z5l.at none ((v.1.1, (), (), v.1.2.2.2.1, v.1.2.2.2.2.1, ()), (v.2.1, l3_1, ())) (K (.exit 6))) (fun l3_1 => z5l.at none ((v.1.1, (), (), v.1.2.2.2.1, v.1.2.2.2.2.1, ()), (v.2.1, l3_1, ())) (K (.exit 6))) n v.1.2.2.2.2.2.2.1 v.2.2.1
def zn2 (av : AV) (x : HP z06.ps) : Hdl (CR z06) := hnd [] zp1 (y6w av x)
theorem y86 : LP z06 Tryz.f216 [0, 0, 1] zn2 := lp_ok (W := []) (H := []) (xs := [z5l]) z8c trivial rfl (fun av x v K => by kernel_rfl) (fun av x n v K => by kernel_rfl)
def zy3 : Tmpl := ⟨[(2, .c .i), (3, .c (.bx 3 0)), (7, .c (.ref 15)), (8, .c .i), (9, .c .i)], [(3, .boxT (.s .net)), (15, .arr .B true)]⟩
def zr6 : Tmpl := ⟨[(2, .c .i), (3, .c (.bx 3 0)), (7, .c (.ref 15)), (8, .c .i)], [(3, .boxT (.s .net)), (15, .arr .B true)]⟩
def yj6 (av : AV) (x : HP z06.ps) (n : Nat) (v : zy3.den) (K : Ks (CR z06)) : Option (CR z06) := z0j v.2.1 v.1.1 (fun l1_1 => zr6.at none ((v.1.1, (), (), v.1.2.2.2.1, ()), (v.2.1, l1_1, ())) (K (.exit 2))) n v.1.2.2.2.2.1 v.2.2.1
def zw3 (av : AV) (x : HP z06.ps) : Hdl (CR z06) := hnd [] zy3 (yj6 av x)
theorem yl4 : LP z06 Tryz.f216 [0, 0] zw3 := lp_ok (W := []) (H := [zn1, zn2]) (xs := [zr6]) z8c ⟨y85, y86, trivial⟩ rfl (fun av x v K => by kernel_rfl) (fun av x n v K => by kernel_rfl)
def y2p : Tmpl := ⟨[(2, .c .i), (3, .c (.bx 3 0)), (7, .c (.ref 15)), (8, .c .i)], [(3, .boxT (.s .net)), (15, .arr .B true)]⟩
def y0l : Tmpl := ⟨[(7, .c (.ref 15))], [(15, .arr .B true)]⟩
def yv2 (av : AV) (x : HP z06.ps) (n : Nat) (v : y2p.den) (K : Ks (CR z06)) : Option (CR z06) := z4l v.2.1 v.1.1 (fun l0_1 => y0l.at none (((), ()), (l0_1, ())) (K (.exit 0))) n v.1.2.2.2.1 v.2.2.1
def y1w (av : AV) (x : HP z06.ps) : Hdl (CR z06) := hnd [] y2p (yv2 av x)
theorem yy4 : LP z06 Tryz.f216 [0] y1w := lp_ok (W := []) (H := [zw3]) (xs := [y0l]) z8c ⟨yl4, trivial⟩ rfl (fun av x v K => by kernel_rfl) (fun av x n v K => by kernel_rfl)
theorem w5s : z06.Ok Tryz.prog := fn_ok (k := z06) (fn := Tryz.f216) (W := []) (H := [y1w]) Tryz.func216 z8c ⟨yy4, trivial⟩ rfl rfl (fun av x => by kernel_rfl)
def zt4 (kind : Int) : Option Bool := (z0c kind 1 3).bind fun x1 => (some x1)
def y3x : Con := ⟨177, [.v .I false], [(.B, true)], [], fun x => zt4 x.1⟩
def wd6 : Fs := ⟨[z20], [], []⟩
theorem wh6 : wd6.Ok Tryz.prog := (fsK z2p fs0)
theorem wm1 : y3x.Ok Tryz.prog := fn_ok (k := y3x) (fn := Tryz.f177) (W := []) (H := []) Tryz.func177 wh6 trivial rfl rfl (fun av x => by kernel_rfl)
def zf0 (role : Int) : Option Bool := (z0c role 1 3).bind fun x1 => (some x1)
def zs2 : Con := ⟨151, [.v .I false], [(.B, true)], [], fun x => zf0 x.1⟩
def wd7 : Fs := ⟨[z20], [], []⟩
theorem wh7 : wd7.Ok Tryz.prog := (fsK z2p fs0)
theorem yr5 : zs2.Ok Tryz.prog := fn_ok (k := zs2) (fn := Tryz.f151) (W := []) (H := []) Tryz.func151 wh7 trivial rfl rfl (fun av x => by kernel_rfl)
def y17 (places : Int) (tasks : Int) : Option Bool := (z0c places 2 8).bind fun x1 => (if x1 = true then ((z0c tasks 1 6).bind fun x3 => (some x3)) else (some false))
def y0x : Con := ⟨122, [.v .I false, .v .I false], [(.B, true)], [], fun x => y17 x.1 x.2.1⟩
def w7i : Fs := ⟨[z20], [], []⟩
theorem w86 : w7i.Ok Tryz.prog := (fsK z2p fs0)
theorem w95 : y0x.Ok Tryz.prog := fn_ok (k := y0x) (fn := Tryz.f122) (W := []) (H := []) Tryz.func122 w86 trivial rfl rfl (fun av x => by kernel_rfl)
def z0n (n : GNet) (t : Int) : Option Bool := gd (ok64 ((n.tasks.length : Int) - 1)) ((z0c t 0 ((n.tasks.length : Int) - 1)).bind fun x2 => (some x2))
def z1o : Con := ⟨96, [.v (.s .net) false, .v .I false], [(.B, true)], [], fun x => z0n x.1 x.2.1⟩
def y70 : Fs := ⟨[z20], [], []⟩
theorem y73 : y70.Ok Tryz.prog := (fsK z2p fs0)
theorem z4e : z1o.Ok Tryz.prog := fn_ok (k := z1o) (fn := Tryz.f96) (W := []) (H := []) Tryz.func96 y73 trivial rfl rfl (fun av x => by kernel_rfl)
def z6k (t : GTask) : Option GTask := (z0l t.in_).bind fun x1 => (gd (([] : List GFlow).length + t.out.length ≤ SMALL) ((z0l t.clear).bind fun x3 => (some (GTask.mk t.join t.split x1 (([] : List GFlow) ++ t.out) x3 t.role t.apart t.all t.need))))
def z9g : Con := ⟨207, [.v (.s .task) false], [((.s .task), true)], [], fun x => z6k x.1⟩
def yc8 : Fs := ⟨[z1s], [], []⟩
theorem yd3 : yc8.Ok Tryz.prog := (fsK z3f fs0)
theorem yd7 : z9g.Ok Tryz.prog := fn_ok (k := z9g) (fn := Tryz.f207) (W := []) (H := []) Tryz.func207 yd3 trivial rfl rfl (fun av x => by kernel_rfl)
def z84 (p0_3 : Int) (l0_1 : List GTask) : Option GNet := some (GNet.mk p0_3 l0_1)
def z28 (p0_0 : List GTask) (p0_1 : Int) (kx0_0 : List GTask → Option GNet) : Nat → Int → List GTask → Option GNet
  | 0, _, _ => none
  | n0 + 1, s0_0, l0_1 => if decide (s0_0 < p0_1) = true then ((getI p0_0 s0_0).bind fun x2 => ((z6k x2).bind fun x3 => (gd (l0_1.length + [x3].length ≤ SMALL) (gd (ok64 (s0_0 + 1)) ((z28 p0_0 p0_1 kx0_0 n0) (s0_0 + 1) (l0_1 ++ [x3])))))) else (kx0_0 l0_1)
def z7f (n : GNet) : Option GNet := z28 n.tasks (n.tasks.length : Int) (z84 n.places) FUEL 0 ([] : List GTask)
def z19 : Con := ⟨184, [.v (.s .net) false], [((.s .net), true)], [], fun x => z7f x.1⟩
def yk1 : Fs := ⟨[z9g], [], []⟩
theorem zv6 : yk1.Ok Tryz.prog := (fsK yd7 fs0)
def zo8 : Tmpl := ⟨[(2, .c (.bx 2 0)), (3, .c (.bx 3 0)), (10, .c (.s (.s .task))), (11, .c .i), (12, .c .i)], [(2, .box [.i, .nl]), (3, .box [.i, .ref 510301]), (510301, .arr (.s .task) true)]⟩
def zj4 : Tmpl := ⟨[(2, .c (.bx 2 0)), (3, .c (.bx 3 0))], [(2, .box [.i, .nl]), (3, .box [.i, .ref 510301]), (510301, .arr (.s .task) true)]⟩
def y6t (av : AV) (x : HP z19.ps) (n : Nat) (v : zo8.den) (K : Ks (CR z19)) : Option (CR z19) := z28 v.1.2.2.1 v.1.2.2.2.1 (fun l0_1 => zj4.at none (((), (), ()), ((v.2.1.1, (), ()), (v.2.2.1.1, (), ()), l0_1, ())) (K (.exit 0))) n v.1.2.2.2.2.1 v.2.2.2.1
def zm9 (av : AV) (x : HP z19.ps) : Hdl (CR z19) := hnd [.b 3 1 510301 (.s .task)] zo8 (y6t av x)
theorem y83 : LP z19 Tryz.f184 [0] zm9 := lp_ok (W := []) (H := []) (xs := [zj4]) zv6 trivial rfl (fun av x v K => by kernel_rfl) (fun av x n v K => by kernel_rfl)
theorem ym1 : z19.Ok Tryz.prog := fn_ok (k := z19) (fn := Tryz.f184) (W := []) (H := [zm9]) Tryz.func184 zv6 ⟨y83, trivial⟩ rfl rfl (fun av x => by kernel_rfl)
def y8g  : Option Bool := some true
def z71 (marks : List Int) (kx0_0 : Option Bool) : Nat → Int → Option Bool
  | 0, _ => none
  | n0 + 1, s0_0 => if decide (s0_0 < (marks.length : Int)) = true then ((getI marks s0_0).bind fun x5 => ((z03 x5 0 4).bind fun x6 => (if x6 = true then (gd (ok64 (s0_0 + 1)) ((z71 marks kx0_0 n0) (s0_0 + 1))) else (some false)))) else (kx0_0)
def z8o (n : GNet) (marks : List Int) : Option Bool := (z3c n).bind fun x1 => (if x1 = true then (if decide ((marks.length : Int) = n.places) = true then (z71 marks y8g FUEL 0) else (some false)) else (some false))
def z38 : Con := ⟨87, [.v (.s .net) false, .v (.sl .I) false], [(.B, true)], [], fun x => z8o x.1 x.2.1⟩
def wu0 : Fs := ⟨[z2l, z0m], [], []⟩
theorem w0e : wu0.Ok Tryz.prog := (fsK zo5 (fsK z0u fs0))
def yi5 : Tmpl := ⟨[(1, .c (.s .I)), (5, .c .i)], []⟩
def ya2 : Tmpl := ⟨[], []⟩
def w6z (av : AV) (x : HP z38.ps) (n : Nat) (v : yi5.den) (K : Ks (CR z38)) : Option (CR z38) := z71 v.1.1 (ya2.at none ((), ()) (K (.exit 0))) n v.1.2.1
def yg0 (av : AV) (x : HP z38.ps) : Hdl (CR z38) := hnd [] yi5 (w6z av x)
theorem w8o : LP z38 Tryz.f87 [0] yg0 := lp_ok (W := []) (H := []) (xs := [ya2]) w0e trivial rfl (fun av x v K => by kernel_rfl) (fun av x n v K => by kernel_rfl)
theorem y09 : z38.Ok Tryz.prog := fn_ok (k := z38) (fn := Tryz.f87) (W := []) (H := [yg0]) Tryz.func87 w0e ⟨w8o, trivial⟩ rfl rfl (fun av x => by kernel_rfl)
def za3 (s0_0 : Bool) (s0_1 : Bool) : Option (Bool × Bool) := some (s0_0, s0_1)
def z1v (marks : List Int) (list : List Int) (kx0_0 : Bool → Bool → Option (Bool × Bool)) : Nat → Bool → Bool → Int → Option (Bool × Bool)
  | 0, _, _, _ => none
  | n0 + 1, s0_0, s0_1, s0_2 => if decide (s0_2 < (list.length : Int)) = true then (if s0_0 = true then (if s0_1 = true then ((getI list s0_2).bind fun x4 => ((getI marks x4).bind fun x5 => (gd (ok64 (s0_2 + 1)) ((z1v marks list kx0_0 n0) true (decide (0 < x5)) (s0_2 + 1))))) else (gd (ok64 (s0_2 + 1)) ((z1v marks list kx0_0 n0) true false (s0_2 + 1)))) else ((getI list s0_2).bind fun x8 => ((getI marks x8).bind fun x9 => (if s0_1 = true then ((getI list s0_2).bind fun x11 => ((getI marks x11).bind fun x12 => (gd (ok64 (s0_2 + 1)) ((z1v marks list kx0_0 n0) (decide (0 < x9)) (decide (0 < x12)) (s0_2 + 1))))) else (gd (ok64 (s0_2 + 1)) ((z1v marks list kx0_0 n0) (decide (0 < x9)) false (s0_2 + 1))))))) else (kx0_0 s0_0 s0_1)
def zu5 (marks : List Int) (list : List Int) : Option (Bool × Bool) := z1v marks list za3 FUEL false true 0
def z51 : Con := ⟨200, [.v (.sl .I) false, .v (.sl .I) false], [(.B, true), (.B, true)], [], fun x => zu5 x.1 x.2.1⟩
def wf8 : Fs := ⟨[], [], []⟩
theorem yp5 : wf8.Ok Tryz.prog := fs0
def y9k : Tmpl := ⟨[(0, .c (.s .I)), (1, .c (.s .I)), (6, .c .b), (7, .c .b), (8, .c .i)], []⟩
def y6j : Tmpl := ⟨[(6, .c .b), (7, .c .b)], []⟩
def w3l (av : AV) (x : HP z51.ps) (n : Nat) (v : y9k.den) (K : Ks (CR z51)) : Option (CR z51) := z1v v.1.1 v.1.2.1 (fun s0_0 s0_1 => y6j.at none ((s0_0, s0_1, ()), ()) (K (.exit 0))) n v.1.2.2.1 v.1.2.2.2.1 v.1.2.2.2.2.1
def y7o (av : AV) (x : HP z51.ps) : Hdl (CR z51) := hnd [] y9k (w3l av x)
theorem w5c : LP z51 Tryz.f200 [0] y7o := lp_ok (W := []) (H := []) (xs := [y6j]) yp5 trivial rfl (fun av x v K => by kernel_rfl) (fun av x n v K => by kernel_rfl)
theorem wn2 : z51.Ok Tryz.prog := fn_ok (k := z51) (fn := Tryz.f200) (W := []) (H := [y7o]) Tryz.func200 yp5 ⟨w5c, trivial⟩ rfl rfl (fun av x => by kernel_rfl)
def z4n (s1_0 : Int) (bk1 : Int → List Bool → Option Bool) (l2_1 : List Bool) : Option Bool := gd (ok64 (s1_0 + 1)) (bk1 (s1_0 + 1) l2_1)
def z30 (p2_0 : List GFlow) (kx2_0 : List Bool → Option Bool) : Nat → Int → List Bool → Option Bool
  | 0, _, _ => none
  | n2 + 1, s2_0, l2_1 => if decide (s2_0 < (p2_0.length : Int)) = true then ((getI p2_0 s2_0).bind fun x15 => ((getI l2_1 x15.to).bind fun x16 => (gd (ok64 (s2_0 + 1)) ((z30 p2_0 kx2_0 n2) (s2_0 + 1) (l2_1.set x15.to.toNat true))))) else (kx2_0 l2_1)
def zg9  : Option Bool := some false
def z26 (n : GNet) (marks : List Int) (t : Int) (x19 : (List Bool)) (kx3_0 : Option Bool) : Nat → Int → Option Bool
  | 0, _ => none
  | n3 + 1, s3_0 => (getI n.tasks t).bind fun x20 => (if decide (s3_0 < (x20.in_.length : Int)) = true then ((getI n.tasks t).bind fun x22 => ((getI x22.in_ s3_0).bind fun x23 => ((getI marks x23).bind fun x24 => (if decide (x24 = 0) = true then ((getI n.tasks t).bind fun x26 => ((getI x26.in_ s3_0).bind fun x27 => ((getI x19 x27).bind fun x28 => (if x28 = true then (some true) else (gd (ok64 (s3_0 + 1)) ((z26 n marks t x19 kx3_0 n3) (s3_0 + 1))))))) else (gd (ok64 (s3_0 + 1)) ((z26 n marks t x19 kx3_0 n3) (s3_0 + 1))))))) else (kx3_0))
def z24 (n : GNet) (marks : List Int) (t : Int) (l1_1 : List Bool) : Option Bool := (zg3 n l1_1 t).bind fun x19 => (z26 n marks t x19 zg9 FUEL 0)
def z16 (n : GNet) (busy : List GItem) (kx1_0 : List Bool → Option Bool) : Nat → Int → List Bool → Option Bool
  | 0, _, _ => none
  | n1 + 1, s1_0, l1_1 => if decide (s1_0 < (busy.length : Int)) = true then ((getI busy s1_0).bind fun x12 => ((getI n.tasks x12.task).bind fun x13 => (z30 x13.out (z4n s1_0 (z16 n busy kx1_0 n1)) FUEL 0 l1_1))) else (kx1_0 l1_1)
def z4m (n : GNet) (marks : List Int) (busy : List GItem) (t : Int) (l0_1 : List Bool) : Option Bool := z16 n busy (z24 n marks t) FUEL 0 l0_1
def z25 (n : GNet) (marks : List Int) (t : Int) (kx0_0 : List Bool → Option Bool) : Nat → Int → List Bool → Option Bool
  | 0, _, _ => none
  | n0 + 1, s0_0, l0_1 => if decide (s0_0 < n.places) = true then ((getI marks s0_0).bind fun x3 => (if decide (0 < x3) = true then ((getI n.tasks t).bind fun x5 => ((zb8 x5.in_ s0_0).bind fun x6 => ((getI l0_1 s0_0).bind fun x7 => (gd (ok64 (s0_0 + 1)) ((z25 n marks t kx0_0 n0) (s0_0 + 1) (l0_1.set s0_0.toNat (!x6))))))) else ((getI l0_1 s0_0).bind fun x9 => (gd (ok64 (s0_0 + 1)) ((z25 n marks t kx0_0 n0) (s0_0 + 1) (l0_1.set s0_0.toNat false)))))) else (kx0_0 l0_1)
def zg8 (n : GNet) (marks : List Int) (busy : List GItem) (t : Int) : Option Bool := gd ((0 : Int) ≤ n.places ∧ n.places ≤ (1000000000 : Int)) (z25 n marks t (z4m n marks busy t) FUEL 0 (List.replicate n.places.toNat false))
def z07 : Con := ⟨201, [.v (.s .net) false, .v (.sl .I) false, .v (.sl (.s .item)) false, .v .I false], [(.B, true)], [], fun x => zg8 x.1 x.2.1 x.2.2.1 x.2.2.2.1⟩
def w4e : Fs := ⟨[z4b, z06], [], []⟩
theorem z8d : w4e.Ok Tryz.prog := (fsK y93 (fsK w5s fs0))
def zy4 : Tmpl := ⟨[(1, .c (.s .I)), (2, .c (.s (.s .item))), (3, .c .i), (4, .c (.bx 4 0)), (9, .c (.ref 18)), (11, .c .i), (12, .c (.s (.s .flow))), (13, .c .i)], [(4, .boxT (.s .net)), (18, .arr .B true)]⟩
def zr7 : Tmpl := ⟨[(1, .c (.s .I)), (2, .c (.s (.s .item))), (3, .c .i), (4, .c (.bx 4 0)), (9, .c (.ref 18)), (11, .c .i)], [(4, .boxT (.s .net)), (18, .arr .B true)]⟩
def yj7 (av : AV) (x : HP z07.ps) (n : Nat) (v : zy4.den) (K : Ks (CR z07)) : Option (CR z07) := z30 v.1.2.2.2.2.2.2.1 (fun l2_1 => zr7.at none ((v.1.1, v.1.2.1, v.1.2.2.1, (), (), v.1.2.2.2.2.2.1, ()), (v.2.1, l2_1, ())) (K (.exit 4))) n v.1.2.2.2.2.2.2.2.1 v.2.2.1
def zw4 (av : AV) (x : HP z07.ps) : Hdl (CR z07) := hnd [] zy4 (yj7 av x)
theorem yl5 : LP z07 Tryz.f201 [1, 0] zw4 := lp_ok (W := []) (H := []) (xs := [zr7]) z8d trivial rfl (fun av x v K => by kernel_rfl) (fun av x n v K => by kernel_rfl)
def y2q : Tmpl := ⟨[(1, .c (.s .I)), (2, .c (.s (.s .item))), (3, .c .i), (4, .c (.bx 4 0)), (9, .c (.ref 18)), (10, .c .i)], [(4, .boxT (.s .net)), (18, .arr .B true)]⟩
def y0m : Tmpl := ⟨[(1, .c (.s .I)), (2, .c (.s (.s .item))), (3, .c .i), (4, .c (.bx 4 0)), (9, .c (.ref 18))], [(4, .boxT (.s .net)), (18, .arr .B true)]⟩
def yv3 (av : AV) (x : HP z07.ps) (n : Nat) (v : y2q.den) (K : Ks (CR z07)) : Option (CR z07) := z25 v.2.1 v.1.1 v.1.2.2.1 (fun l0_1 => y0m.at none ((v.1.1, v.1.2.1, v.1.2.2.1, (), (), ()), (v.2.1, l0_1, ())) (K (.exit 0))) n v.1.2.2.2.2.2.1 v.2.2.1
def y1x (av : AV) (x : HP z07.ps) : Hdl (CR z07) := hnd [] y2q (yv3 av x)
theorem yy5 : LP z07 Tryz.f201 [0] y1x := lp_ok (W := []) (H := []) (xs := [y0m]) z8d trivial rfl (fun av x v K => by kernel_rfl) (fun av x n v K => by kernel_rfl)
def y2r : Tmpl := ⟨[(1, .c (.s .I)), (2, .c (.s (.s .item))), (3, .c .i), (4, .c (.bx 4 0)), (9, .c (.ref 18)), (11, .c .i)], [(4, .boxT (.s .net)), (18, .arr .B true)]⟩
def y0n : Tmpl := ⟨[(1, .c (.s .I)), (3, .c .i), (4, .c (.bx 4 0)), (9, .c (.ref 18))], [(4, .boxT (.s .net)), (18, .arr .B true)]⟩
def yv4 (av : AV) (x : HP z07.ps) (n : Nat) (v : y2r.den) (K : Ks (CR z07)) : Option (CR z07) := z16 v.2.1 v.1.2.1 (fun l1_1 => y0n.at none ((v.1.1, v.1.2.2.1, (), (), ()), (v.2.1, l1_1, ())) (K (.exit 2))) n v.1.2.2.2.2.2.1 v.2.2.1
def y1y (av : AV) (x : HP z07.ps) : Hdl (CR z07) := hnd [] y2r (yv4 av x)
theorem yy6 : LP z07 Tryz.f201 [1] y1y := lp_ok (W := []) (H := [zw4]) (xs := [y0n]) z8d ⟨yl5, trivial⟩ rfl (fun av x v K => by kernel_rfl) (fun av x n v K => by kernel_rfl)
def y2s : Tmpl := ⟨[(1, .c (.s .I)), (3, .c .i), (4, .c (.bx 4 0)), (14, .c (.ref 76)), (15, .c .i)], [(4, .boxT (.s .net)), (76, .arr .B true)]⟩
def y0o : Tmpl := ⟨[], []⟩
def yv5 (av : AV) (x : HP z07.ps) (n : Nat) (v : y2s.den) (K : Ks (CR z07)) : Option (CR z07) := z26 v.2.1 v.1.1 v.1.2.1 v.2.2.1 (y0o.at none ((), ()) (K (.exit 6))) n v.1.2.2.2.2.1
def y1z (av : AV) (x : HP z07.ps) : Hdl (CR z07) := hnd [] y2s (yv5 av x)
theorem yy7 : LP z07 Tryz.f201 [2] y1z := lp_ok (W := []) (H := []) (xs := [y0o]) z8d trivial rfl (fun av x v K => by kernel_rfl) (fun av x n v K => by kernel_rfl)
theorem w5t : z07.Ok Tryz.prog := fn_ok (k := z07) (fn := Tryz.f201) (W := []) (H := [y1x, y1y, y1z]) Tryz.func201 z8d ⟨yy5, yy6, yy7, trivial⟩ rfl rfl (fun av x => by kernel_rfl)
def y06 (n : GNet) (marks : List Int) (busy : List GItem) (t : Int) : Option Bool := (getI n.tasks t).bind fun x1 => ((zu5 marks x1.in_).bind fun x2 => ((getI n.tasks t).bind fun x3 => (if decide (x3.join = 1) = true then (some x2.2) else (if decide (x3.join = 2) = true then (some x2.1) else (if x2.1 = true then (if x2.2 = true then (some true) else ((zg8 n marks busy t).bind fun x8 => (some (!x8)))) else (some false))))))
def y81 : Con := ⟨165, [.v (.s .net) false, .v (.sl .I) false, .v (.sl (.s .item)) false, .v .I false], [(.B, true)], [], fun x => y06 x.1 x.2.1 x.2.2.1 x.2.2.2.1⟩
def wu6 : Fs := ⟨[z51, z07], [], []⟩
theorem ww0 : wu6.Ok Tryz.prog := (fsK wn2 (fsK w5t fs0))
theorem wz4 : y81.Ok Tryz.prog := fn_ok (k := y81) (fn := Tryz.f165) (W := []) (H := []) Tryz.func165 ww0 trivial rfl rfl (fun av x => by kernel_rfl)
def y5g  : Option Bool := some true
def z5v (n : GNet) (busy : List GItem) (kx0_0 : Option Bool) : Nat → Int → Option Bool
  | 0, _ => none
  | n0 + 1, s0_0 => if decide (s0_0 < (busy.length : Int)) = true then ((getI busy s0_0).bind fun x3 => (gd (ok64 ((n.tasks.length : Int) - 1)) ((z03 x3.task 0 ((n.tasks.length : Int) - 1)).bind fun x5 => (if x5 = true then ((getI busy s0_0).bind fun x7 => ((z03 x7.who 1 4).bind fun x8 => (if x8 = true then ((getI busy s0_0).bind fun x10 => ((getI busy s0_0).bind fun x11 => ((getI n.tasks x11.task).bind fun x12 => (gd (ok64 (x12.need - 1)) ((z03 x10.did 0 (x12.need - 1)).bind fun x14 => (if x14 = true then (gd (ok64 (s0_0 + 1)) ((z5v n busy kx0_0 n0) (s0_0 + 1))) else (some false))))))) else (some false)))) else (some false))))) else (kx0_0)
def zg7 (n : GNet) (busy : List GItem) : Option Bool := if decide (6 < (busy.length : Int)) = true then (some false) else (z5v n busy y5g FUEL 0)
def z44 : Con := ⟨88, [.v (.s .net) false, .v (.sl (.s .item)) false], [(.B, true)], [], fun x => zg7 x.1 x.2.1⟩
def wf7 : Fs := ⟨[z0m], [], []⟩
theorem yp4 : wf7.Ok Tryz.prog := (fsK z0u fs0)
def y9j : Tmpl := ⟨[(1, .c (.s (.s .item))), (2, .c (.bx 2 0)), (5, .c .i)], [(2, .boxT (.s .net))]⟩
def y6i : Tmpl := ⟨[], []⟩
def w3k (av : AV) (x : HP z44.ps) (n : Nat) (v : y9j.den) (K : Ks (CR z44)) : Option (CR z44) := z5v v.2.1 v.1.1 (y6i.at none ((), ()) (K (.exit 0))) n v.1.2.2.1
def y7n (av : AV) (x : HP z44.ps) : Hdl (CR z44) := hnd [] y9j (w3k av x)
theorem w5b : LP z44 Tryz.f88 [0] y7n := lp_ok (W := []) (H := []) (xs := [y6i]) yp4 trivial rfl (fun av x v K => by kernel_rfl) (fun av x n v K => by kernel_rfl)
theorem ys2 : z44.Ok Tryz.prog := fn_ok (k := z44) (fn := Tryz.f88) (W := []) (H := [y7n]) Tryz.func88 yp4 ⟨w5b, trivial⟩ rfl rfl (fun av x => by kernel_rfl)
def zf2 (n : GNet) (marks : List Int) (busy : List GItem) (t : Int) : Option Bool := (z8o n marks).bind fun x1 => (if x1 = true then ((zg7 n busy).bind fun x3 => (if x3 = true then (gd (ok64 ((n.tasks.length : Int) - 1)) ((z03 t 0 ((n.tasks.length : Int) - 1)).bind fun x6 => (if x6 = true then ((y06 n marks busy t).bind fun x8 => (some x8)) else (some false)))) else (some false))) else (some false))
def zs5 : Con := ⟨100, [.v (.s .net) false, .v (.sl .I) false, .v (.sl (.s .item)) false, .v .I false], [(.B, true)], [], fun x => zf2 x.1 x.2.1 x.2.2.1 x.2.2.2.1⟩
def we5 : Fs := ⟨[z38, z44, z0m, y81], [], []⟩
theorem wi1 : we5.Ok Tryz.prog := (fsK y09 (fsK ys2 (fsK z0u (fsK wz4 fs0))))
theorem yr8 : zs5.Ok Tryz.prog := fn_ok (k := zs5) (fn := Tryz.f100) (W := []) (H := []) Tryz.func100 wi1 trivial rfl rfl (fun av x => by kernel_rfl)
def zf3 (l0_1 : List Int) : Option (List Int) := some l0_1
def z2y (n : GNet) (marks : List Int) (busy : List GItem) (kx0_0 : List Int → Option (List Int)) : Nat → Int → List Int → Option (List Int)
  | 0, _, _ => none
  | n0 + 1, s0_0, l0_1 => if decide (s0_0 < (n.tasks.length : Int)) = true then ((zf2 n marks busy s0_0).bind fun x2 => (if x2 = true then (gd (l0_1.length + [s0_0].length ≤ SMALL) (gd (ok64 (s0_0 + 1)) ((z2y n marks busy kx0_0 n0) (s0_0 + 1) (l0_1 ++ [s0_0])))) else (gd (ok64 (s0_0 + 1)) ((z2y n marks busy kx0_0 n0) (s0_0 + 1) l0_1)))) else (kx0_0 l0_1)
def z5j (n : GNet) (marks : List Int) (busy : List GItem) : Option (List Int) := z2y n marks busy zf3 FUEL 0 ([] : List Int)
def z2a : Con := ⟨99, [.v (.s .net) false, .v (.sl .I) false, .v (.sl (.s .item)) false], [((.sl .I), true)], [], fun x => z5j x.1 x.2.1 x.2.2.1⟩
def w46 : Fs := ⟨[zs5], [], []⟩
theorem y76 : w46.Ok Tryz.prog := (fsK yr8 fs0)
def y2j : Tmpl := ⟨[(1, .c (.s .I)), (2, .c (.s (.s .item))), (3, .c (.bx 3 0)), (7, .c (.ref 9)), (8, .c .i)], [(3, .boxT (.s .net)), (9, .arr .I true)]⟩
def y0f : Tmpl := ⟨[(7, .c (.ref 9))], [(9, .arr .I true)]⟩
def yu6 (av : AV) (x : HP z2a.ps) (n : Nat) (v : y2j.den) (K : Ks (CR z2a)) : Option (CR z2a) := z2y v.2.1 v.1.1 v.1.2.1 (fun l0_1 => y0f.at none (((), ()), (l0_1, ())) (K (.exit 0))) n v.1.2.2.2.2.1 v.2.2.1
def y1q (av : AV) (x : HP z2a.ps) : Hdl (CR z2a) := hnd [] y2j (yu6 av x)
theorem yx8 : LP z2a Tryz.f99 [0] y1q := lp_ok (W := []) (H := []) (xs := [y0f]) y76 trivial rfl (fun av x v K => by kernel_rfl) (fun av x n v K => by kernel_rfl)
theorem y90 : z2a.Ok Tryz.prog := fn_ok (k := z2a) (fn := Tryz.f99) (W := []) (H := [y1q]) Tryz.func99 y76 ⟨yx8, trivial⟩ rfl rfl (fun av x => by kernel_rfl)
def y25 (l0_1 : List Int) (x10 : Int) (x13 : Int) : Option (List Int) := some (l0_1.set x10.toNat (x13 - 1))
def y26 (l0_1 : List Int) : Option (List Int) := some l0_1
def z3m (n : GNet) (t : Int) (kx0_0 : List Int → Int → Int → Option (List Int)) (kx0_1 : List Int → Option (List Int)) : Nat → Int → List Int → Option (List Int)
  | 0, _, _ => none
  | n0 + 1, s0_0, l0_1 => (getI n.tasks t).bind fun x7 => (if decide (s0_0 < (x7.in_.length : Int)) = true then ((getI n.tasks t).bind fun x9 => ((getI x9.in_ s0_0).bind fun x10 => ((getI l0_1 x10).bind fun x11 => (if decide (0 < x11) = true then ((getI l0_1 x10).bind fun x13 => (gd (ok64 (x13 - 1)) ((getI l0_1 x10).bind fun x15 => ((getI n.tasks t).bind fun x16 => (if decide (x16.join = 2) = true then (kx0_0 l0_1 x10 x13) else (gd (ok64 (s0_0 + 1)) ((z3m n t kx0_0 kx0_1 n0) (s0_0 + 1) (l0_1.set x10.toNat (x13 - 1))))))))) else (gd (ok64 (s0_0 + 1)) ((z3m n t kx0_0 kx0_1 n0) (s0_0 + 1) l0_1)))))) else (kx0_1 l0_1))
def zl9 (n : GNet) (marks : List Int) (t : Int) : Option (List Int) := (z8o n marks).bind fun x1 => (if x1 = true then (gd (ok64 ((n.tasks.length : Int) - 1)) ((z03 t 0 ((n.tasks.length : Int) - 1)).bind fun x4 => (if x4 = true then (gd (([] : List Int).length + marks.length ≤ SMALL) (z3m n t y25 y26 FUEL 0 (([] : List Int) ++ marks))) else (some ([] : List Int))))) else (some ([] : List Int)))
def z3x : Con := ⟨103, [.v (.s .net) false, .v (.sl .I) false, .v .I false], [((.sl .I), true)], [], fun x => zl9 x.1 x.2.1 x.2.2.1⟩
def w7m : Fs := ⟨[z38, z0m], [], []⟩
theorem ye2 : w7m.Ok Tryz.prog := (fsK y09 (fsK z0u fs0))
def y5w : Tmpl := ⟨[(2, .c .i), (3, .c (.bx 3 0)), (7, .c (.ref 26)), (8, .c .i)], [(3, .boxT (.s .net)), (26, .arr .I true)]⟩
def zl2 : Tmpl := ⟨[(7, .c (.ref 26))], [(26, .arr .I true)]⟩
def w1e (av : AV) (x : HP z3x.ps) (n : Nat) (v : y5w.den) (K : Ks (CR z3x)) : Option (CR z3x) := z3m v.2.1 v.1.1 (fun l0_1 x10 x13 => zl2.at none (((), ()), ((l0_1.set x10.toNat (x13 - 1)), ())) (K (.exit 0))) (fun l0_1 => zl2.at none (((), ()), (l0_1, ())) (K (.exit 0))) n v.1.2.2.2.1 v.2.2.1
def y50 (av : AV) (x : HP z3x.ps) : Hdl (CR z3x) := hnd [] y5w (w1e av x)
theorem w2c : LP z3x Tryz.f103 [0] y50 := lp_ok (W := []) (H := []) (xs := [zl2]) ye2 trivial rfl (fun av x v K => by kernel_rfl) (fun av x n v K => by kernel_rfl)
theorem w98 : z3x.Ok Tryz.prog := fn_ok (k := z3x) (fn := Tryz.f103) (W := []) (H := [y50]) Tryz.func103 ye2 ⟨w2c, trivial⟩ rfl rfl (fun av x => by kernel_rfl)
def z8m (who : Int) : Option Bool := (z0c who 1 4).bind fun x1 => (some x1)
def ze0 : Con := ⟨97, [.v .I false], [(.B, true)], [], fun x => z8m x.1⟩
def w44 : Fs := ⟨[z20], [], []⟩
theorem w4p : w44.Ok Tryz.prog := (fsK z2p fs0)
theorem y8y : ze0.Ok Tryz.prog := fn_ok (k := ze0) (fn := Tryz.f97) (W := []) (H := []) Tryz.func97 w4p trivial rfl rfl (fun av x => by kernel_rfl)
def zf4 (l0_1 : List Int) (x8 : GFlow) : Option (List Int) := some (l0_1 ++ [x8.to])
def zf5 (l0_1 : List Int) (x13 : GFlow) : Option (List Int) := some (l0_1 ++ [x13.to])
def zf6 (l0_1 : List Int) (x18 : GFlow) : Option (List Int) := some (l0_1 ++ [x18.to])
def zx2 (l0_1 : List Int) : Option (List Int) := some l0_1
def z1q (t : GTask) (data : List Int) (kx0_0 : List Int → GFlow → Option (List Int)) (kx0_1 : List Int → GFlow → Option (List Int)) (kx0_2 : List Int → GFlow → Option (List Int)) (kx0_3 : List Int → Option (List Int)) : Nat → Int → List Int → Option (List Int)
  | 0, _, _ => none
  | n0 + 1, s0_0, l0_1 => if decide (s0_0 < (t.out.length : Int)) = true then ((getI t.out s0_0).bind fun x2 => ((z1b x2.if_ data).bind fun x3 => (if x3 = true then (if decide (t.split = 3) = true then (gd (ok64 ((t.out.length : Int) - 1)) (if decide (s0_0 < ((t.out.length : Int) - 1)) = true then ((getI t.out s0_0).bind fun x8 => (gd (l0_1.length + [x8.to].length ≤ SMALL) (if decide (t.split = 2) = true then (kx0_0 l0_1 x8) else (gd (ok64 (s0_0 + 1)) ((z1q t data kx0_0 kx0_1 kx0_2 kx0_3 n0) (s0_0 + 1) (l0_1 ++ [x8.to])))))) else (if decide ((l0_1.length : Int) = 0) = true then ((getI t.out s0_0).bind fun x13 => (gd (l0_1.length + [x13.to].length ≤ SMALL) (if decide (t.split = 2) = true then (kx0_1 l0_1 x13) else (gd (ok64 (s0_0 + 1)) ((z1q t data kx0_0 kx0_1 kx0_2 kx0_3 n0) (s0_0 + 1) (l0_1 ++ [x13.to])))))) else (gd (ok64 (s0_0 + 1)) ((z1q t data kx0_0 kx0_1 kx0_2 kx0_3 n0) (s0_0 + 1) l0_1))))) else ((getI t.out s0_0).bind fun x18 => (gd (l0_1.length + [x18.to].length ≤ SMALL) (if decide (t.split = 2) = true then (kx0_2 l0_1 x18) else (gd (ok64 (s0_0 + 1)) ((z1q t data kx0_0 kx0_1 kx0_2 kx0_3 n0) (s0_0 + 1) (l0_1 ++ [x18.to]))))))) else (gd (ok64 (s0_0 + 1)) ((z1q t data kx0_0 kx0_1 kx0_2 kx0_3 n0) (s0_0 + 1) l0_1))))) else (kx0_3 l0_1)
def y02 (t : GTask) (data : List Int) : Option (List Int) := z1q t data zf4 zf5 zf6 zx2 FUEL 0 ([] : List Int)
def z64 : Con := ⟨205, [.v (.s .task) false, .v (.sl .I) false], [((.sl .I), true)], [], fun x => y02 x.1 x.2.1⟩
def wu4 : Fs := ⟨[z4a], [], []⟩
theorem w0h : wu4.Ok Tryz.prog := (fsK z77 fs0)
def yi9 : Tmpl := ⟨[(1, .c (.s .I)), (2, .c (.bx 2 0)), (5, .c (.ref 7)), (6, .c .i)], [(2, .boxT (.s .task)), (7, .arr .I true)]⟩
def z8v : Tmpl := ⟨[(5, .c (.ref 49))], [(49, .arr .I true)]⟩
def w73 (av : AV) (x : HP z64.ps) (n : Nat) (v : yi9.den) (K : Ks (CR z64)) : Option (CR z64) := z1q v.2.1 v.1.1 (fun l0_1 x8 => z8v.at none (((), ()), ((l0_1 ++ [x8.to]), ())) (K (.exit 0))) (fun l0_1 x13 => z8v.at none (((), ()), ((l0_1 ++ [x13.to]), ())) (K (.exit 0))) (fun l0_1 x18 => z8v.at none (((), ()), ((l0_1 ++ [x18.to]), ())) (K (.exit 0))) (fun l0_1 => z8v.at none (((), ()), (l0_1, ())) (K (.exit 0))) n v.1.2.2.2.1 v.2.2.1
def yg4 (av : AV) (x : HP z64.ps) : Hdl (CR z64) := hnd [] yi9 (w73 av x)
theorem w8s : LP z64 Tryz.f205 [0] yg4 := lp_ok (W := []) (H := []) (xs := [z8v]) w0h trivial rfl (fun av x v K => by kernel_rfl) (fun av x n v K => by kernel_rfl)
theorem wz3 : z64.Ok Tryz.prog := fn_ok (k := z64) (fn := Tryz.f205) (W := []) (H := [yg4]) Tryz.func205 w0h ⟨w8s, trivial⟩ rfl rfl (fun av x => by kernel_rfl)
def z96 (l1_1 : List Int) : Option ((List Int) × Bool) := some (l1_1, true)
def z5f (x16 : (List Int)) (kx1_0 : List Int → Option ((List Int) × Bool)) : Nat → Int → List Int → Option ((List Int) × Bool)
  | 0, _, _ => none
  | n1 + 1, s1_0, l1_1 => if decide (s1_0 < (x16.length : Int)) = true then ((getI x16 s1_0).bind fun x18 => ((getI l1_1 x18).bind fun x19 => (if decide (x19 = 4) = true then (some (([] : List Int), false)) else ((getI x16 s1_0).bind fun x21 => ((getI x16 s1_0).bind fun x22 => ((getI l1_1 x22).bind fun x23 => (gd (ok64 (x23 + 1)) ((getI l1_1 x21).bind fun x25 => (gd (ok64 (s1_0 + 1)) ((z5f x16 kx1_0 n1) (s1_0 + 1) (l1_1.set x21.toNat (x23 + 1)))))))))))) else (kx1_0 l1_1)
def z95 (n : GNet) (t : Int) (data : List Int) (l0_1 : List Int) : Option ((List Int) × Bool) := (getI n.tasks t).bind fun x15 => ((y02 x15 data).bind fun x16 => (z5f x16 z96 FUEL 0 l0_1))
def z5e (n : GNet) (t : Int) (kx0_0 : List Int → Option ((List Int) × Bool)) : Nat → Int → List Int → Option ((List Int) × Bool)
  | 0, _, _ => none
  | n0 + 1, s0_0, l0_1 => (getI n.tasks t).bind fun x9 => (if decide (s0_0 < (x9.clear.length : Int)) = true then ((getI n.tasks t).bind fun x11 => ((getI x11.clear s0_0).bind fun x12 => ((getI l0_1 x12).bind fun x13 => (gd (ok64 (s0_0 + 1)) ((z5e n t kx0_0 n0) (s0_0 + 1) (l0_1.set x12.toNat 0)))))) else (kx0_0 l0_1))
def zm0 (n : GNet) (marks : List Int) (t : Int) (data : List Int) : Option ((List Int) × Bool) := (z8o n marks).bind fun x1 => (if x1 = true then (gd (ok64 ((n.tasks.length : Int) - 1)) ((z03 t 0 ((n.tasks.length : Int) - 1)).bind fun x4 => (if x4 = true then ((z2n data).bind fun x6 => (if x6 = true then (gd (([] : List Int).length + marks.length ≤ SMALL) (z5e n t (z95 n t data) FUEL 0 (([] : List Int) ++ marks))) else (some (([] : List Int), false)))) else (some (([] : List Int), false))))) else (some (([] : List Int), false)))
def z0x : Con := ⟨172, [.v (.s .net) false, .v (.sl .I) false, .v .I false, .v (.sl .I) false], [((.sl .I), true), (.B, true)], [], fun x => zm0 x.1 x.2.1 x.2.2.1 x.2.2.2.1⟩
def w7n : Fs := ⟨[z38, z0m, z17, z64], [], []⟩
theorem y0t : w7n.Ok Tryz.prog := (fsK y09 (fsK z0u (fsK z6e (fsK wz3 fs0))))
def y5x : Tmpl := ⟨[(2, .c .i), (3, .c (.s .I)), (4, .c (.bx 4 0)), (10, .c (.ref 35)), (11, .c .i)], [(4, .boxT (.s .net)), (35, .arr .I true)]⟩
def y31 : Tmpl := ⟨[(2, .c .i), (3, .c (.s .I)), (4, .c (.bx 4 0)), (10, .c (.ref 35))], [(4, .boxT (.s .net)), (35, .arr .I true)]⟩
def w1f (av : AV) (x : HP z0x.ps) (n : Nat) (v : y5x.den) (K : Ks (CR z0x)) : Option (CR z0x) := z5e v.2.1 v.1.1 (fun l0_1 => y31.at none ((v.1.1, v.1.2.1, (), (), ()), (v.2.1, l0_1, ())) (K (.exit 0))) n v.1.2.2.2.2.1 v.2.2.1
def y51 (av : AV) (x : HP z0x.ps) : Hdl (CR z0x) := hnd [] y5x (w1f av x)
theorem w2d : LP z0x Tryz.f172 [0] y51 := lp_ok (W := []) (H := []) (xs := [y31]) y0t trivial rfl (fun av x v K => by kernel_rfl) (fun av x n v K => by kernel_rfl)
def y5y : Tmpl := ⟨[(10, .c (.ref 35)), (12, .c (.ref 64)), (13, .c .i)], [(35, .arr .I true), (64, .arr .I true)]⟩
def y32 : Tmpl := ⟨[(10, .c (.ref 35))], [(35, .arr .I true)]⟩
def w1g (av : AV) (x : HP z0x.ps) (n : Nat) (v : y5y.den) (K : Ks (CR z0x)) : Option (CR z0x) := z5f v.2.2.1 (fun l1_1 => y32.at none (((), ()), (l1_1, ())) (K (.exit 2))) n v.1.2.2.1 v.2.1
def y52 (av : AV) (x : HP z0x.ps) : Hdl (CR z0x) := hnd [] y5y (w1g av x)
theorem w2e : LP z0x Tryz.f172 [1] y52 := lp_ok (W := []) (H := []) (xs := [y32]) y0t trivial rfl (fun av x v K => by kernel_rfl) (fun av x n v K => by kernel_rfl)
theorem w99 : z0x.Ok Tryz.prog := fn_ok (k := z0x) (fn := Tryz.f172) (W := []) (H := [y51, y52]) Tryz.func172 y0t ⟨w2d, w2e, trivial⟩ rfl rfl (fun av x => by kernel_rfl)
def y8i  : Option Bool := some true
def z73 (people : List Int) (kx0_0 : Option Bool) : Nat → Int → Option Bool
  | 0, _ => none
  | n0 + 1, s0_0 => if decide (s0_0 < (people.length : Int)) = true then ((getI people s0_0).bind fun x4 => ((z03 x4 0 7).bind fun x5 => (if x5 = true then (gd (ok64 (s0_0 + 1)) ((z73 people kx0_0 n0) (s0_0 + 1))) else (some false)))) else (kx0_0)
def z8p (people : List Int) : Option Bool := (z03 (people.length : Int) 1 4).bind fun x1 => (if x1 = true then (z73 people y8i FUEL 0) else (some false))
def z39 : Con := ⟨44, [.v (.sl .I) false], [(.B, true)], [], fun x => z8p x.1⟩
def wu2 : Fs := ⟨[z0m], [], []⟩
theorem w0g : wu2.Ok Tryz.prog := (fsK z0u fs0)
def yi7 : Tmpl := ⟨[(0, .c (.s .I)), (3, .c .i)], []⟩
def ya4 : Tmpl := ⟨[], []⟩
def w71 (av : AV) (x : HP z39.ps) (n : Nat) (v : yi7.den) (K : Ks (CR z39)) : Option (CR z39) := z73 v.1.1 (ya4.at none ((), ()) (K (.exit 0))) n v.1.2.1
def yg2 (av : AV) (x : HP z39.ps) : Hdl (CR z39) := hnd [] yi7 (w71 av x)
theorem w8q : LP z39 Tryz.f44 [0] yg2 := lp_ok (W := []) (H := []) (xs := [ya4]) w0g trivial rfl (fun av x v K => by kernel_rfl) (fun av x n v K => by kernel_rfl)
theorem y0a : z39.Ok Tryz.prog := fn_ok (k := z39) (fn := Tryz.f44) (W := []) (H := [yg2]) Tryz.func44 w0g ⟨w8q, trivial⟩ rfl rfl (fun av x => by kernel_rfl)
def z5t (s0_0 : Int) : Option Bool := gd ((2 : Int) ≠ 0) (some (decide ((Int.tmod s0_0 2) = 1)))
def z2g (role : Int) (kx0_0 : Int → Option Bool) : Nat → Int → Int → Option Bool
  | 0, _, _ => none
  | n0 + 1, s0_0, s0_1 => if decide (s0_1 < role) = true then (gd ((2 : Int) ≠ 0 ∧ ok64 (Int.tdiv s0_0 2)) (gd (ok64 (s0_1 + 1)) ((z2g role kx0_0 n0) (Int.tdiv s0_0 2) (s0_1 + 1)))) else (kx0_0 s0_0)
def zu1 (people : List Int) (who : Int) (role : Int) : Option Bool := (z8p people).bind fun x1 => (if x1 = true then ((z03 who 1 (people.length : Int)).bind fun x3 => (if x3 = true then ((z03 role 1 3).bind fun x5 => (if x5 = true then (gd (ok64 (who - 1)) ((getI people (who - 1)).bind fun x8 => (z2g role z5t FUEL x8 1))) else (some false))) else (some false))) else (some false))
def z50 : Con := ⟨166, [.v (.sl .I) false, .v .I false, .v .I false], [(.B, true)], [], fun x => zu1 x.1 x.2.1 x.2.2.1⟩
def we8 : Fs := ⟨[z39, z0m], [], []⟩
theorem yp2 : we8.Ok Tryz.prog := (fsK y0a (fsK z0u fs0))
def y9g : Tmpl := ⟨[(2, .c .i), (7, .c .i), (8, .c .i)], []⟩
def y6f : Tmpl := ⟨[(7, .c .i)], []⟩
def w3h (av : AV) (x : HP z50.ps) (n : Nat) (v : y9g.den) (K : Ks (CR z50)) : Option (CR z50) := z2g v.1.1 (fun s0_0 => y6f.at none ((s0_0, ()), ()) (K (.exit 0))) n v.1.2.1 v.1.2.2.1
def y7k (av : AV) (x : HP z50.ps) : Hdl (CR z50) := hnd [] y9g (w3h av x)
theorem w58 : LP z50 Tryz.f166 [0] y7k := lp_ok (W := []) (H := []) (xs := [y6f]) yp2 trivial rfl (fun av x v K => by kernel_rfl) (fun av x n v K => by kernel_rfl)
theorem wm8 : z50.Ok Tryz.prog := fn_ok (k := z50) (fn := Tryz.f166) (W := []) (H := [y7k]) Tryz.func166 yp2 ⟨w58, trivial⟩ rfl rfl (fun av x => by kernel_rfl)
def y5e  : Option Bool := some false
def z4p (did : List GDid) (who : Int) (task : Int) (kx0_0 : Option Bool) : Nat → Int → Option Bool
  | 0, _ => none
  | n0 + 1, s0_0 => if decide (s0_0 < (did.length : Int)) = true then ((getI did s0_0).bind fun x2 => (if decide (x2.who = who) = true then ((getI did s0_0).bind fun x4 => (if decide (x4.task = task) = true then (some true) else (gd (ok64 (s0_0 + 1)) ((z4p did who task kx0_0 n0) (s0_0 + 1))))) else (gd (ok64 (s0_0 + 1)) ((z4p did who task kx0_0 n0) (s0_0 + 1))))) else (kx0_0)
def zu0 (did : List GDid) (who : Int) (task : Int) : Option Bool := z4p did who task y5e FUEL 0
def z4z : Con := ⟨167, [.v (.sl (.s .did)) false, .v .I false, .v .I false], [(.B, true)], [], fun x => zu0 x.1 x.2.1 x.2.2.1⟩
def we7 : Fs := ⟨[], [], []⟩
theorem yp1 : we7.Ok Tryz.prog := fs0
def y9f : Tmpl := ⟨[(0, .c (.s (.s .did))), (1, .c .i), (2, .c .i), (7, .c .i)], []⟩
def y6e : Tmpl := ⟨[], []⟩
def w3g (av : AV) (x : HP z4z.ps) (n : Nat) (v : y9f.den) (K : Ks (CR z4z)) : Option (CR z4z) := z4p v.1.1 v.1.2.1 v.1.2.2.1 (y6e.at none ((), ()) (K (.exit 0))) n v.1.2.2.2.1
def y7j (av : AV) (x : HP z4z.ps) : Hdl (CR z4z) := hnd [] y9f (w3g av x)
theorem w57 : LP z4z Tryz.f167 [0] y7j := lp_ok (W := []) (H := []) (xs := [y6e]) yp1 trivial rfl (fun av x v K => by kernel_rfl) (fun av x n v K => by kernel_rfl)
theorem wm7 : z4z.Ok Tryz.prog := fn_ok (k := z4z) (fn := Tryz.f167) (W := []) (H := [y7j]) Tryz.func167 yp1 ⟨w57, trivial⟩ rfl rfl (fun av x => by kernel_rfl)
def y5f (n : GNet) (people : List Int) (did : List GDid) (t : Int) (s0_0 : Int) (l0_1 : List Int) (bk0 : Int → List Int → Option (List Int)) (s1_0 : Bool) : Option (List Int) := (getI n.tasks t).bind fun x18 => ((zu1 people s0_0 x18.role).bind fun x19 => (if x19 = true then (if s1_0 = true then (gd (ok64 (s0_0 + 1)) (bk0 (s0_0 + 1) l0_1)) else ((getI n.tasks t).bind fun x23 => ((zu0 did s0_0 x23.apart).bind fun x24 => (if x24 = true then (gd (ok64 (s0_0 + 1)) (bk0 (s0_0 + 1) l0_1)) else (gd (l0_1.length + [s0_0].length ≤ SMALL) (gd (ok64 (s0_0 + 1)) (bk0 (s0_0 + 1) (l0_1 ++ [s0_0])))))))) else (gd (ok64 (s0_0 + 1)) (bk0 (s0_0 + 1) l0_1))))
def z2h (n : GNet) (busy : List GItem) (t : Int) (s0_0 : Int) (kx1_0 : Bool → Option (List Int)) : Nat → Bool → Int → Option (List Int)
  | 0, _, _ => none
  | n1 + 1, s1_0, s1_1 => if decide (s1_1 < (busy.length : Int)) = true then (if s1_0 = true then (gd (ok64 (s1_1 + 1)) ((z2h n busy t s0_0 kx1_0 n1) true (s1_1 + 1))) else ((getI busy s1_1).bind fun x12 => (if decide (x12.who = s0_0) = true then ((getI busy s1_1).bind fun x14 => ((getI n.tasks t).bind fun x15 => (gd (ok64 (s1_1 + 1)) ((z2h n busy t s0_0 kx1_0 n1) (decide (x14.task = x15.apart)) (s1_1 + 1))))) else (gd (ok64 (s1_1 + 1)) ((z2h n busy t s0_0 kx1_0 n1) false (s1_1 + 1)))))) else (kx1_0 s1_0)
def zp7 (l0_1 : List Int) : Option (List Int) := some l0_1
def z5u (n : GNet) (people : List Int) (did : List GDid) (busy : List GItem) (t : Int) (kx0_0 : List Int → Option (List Int)) : Nat → Int → List Int → Option (List Int)
  | 0, _, _ => none
  | n0 + 1, s0_0, l0_1 => if decide (s0_0 ≤ (people.length : Int)) = true then (z2h n busy t s0_0 (y5f n people did t s0_0 l0_1 (z5u n people did busy t kx0_0 n0)) FUEL false 0) else (kx0_0 l0_1)
def z97 (n : GNet) (people : List Int) (did : List GDid) (busy : List GItem) (t : Int) : Option (List Int) := (z3c n).bind fun x1 => (if x1 = true then ((z8p people).bind fun x3 => (if x3 = true then (gd (ok64 ((n.tasks.length : Int) - 1)) ((z03 t 0 ((n.tasks.length : Int) - 1)).bind fun x6 => (if x6 = true then (z5u n people did busy t zp7 FUEL 1 ([] : List Int)) else (some ([] : List Int))))) else (some ([] : List Int)))) else (some ([] : List Int)))
def z11 : Con := ⟨102, [.v (.s .net) false, .v (.sl .I) false, .v (.sl (.s .did)) false, .v (.sl (.s .item)) false, .v .I false], [((.sl .I), true)], [], fun x => z97 x.1 x.2.1 x.2.2.1 x.2.2.2.1 x.2.2.2.2.1⟩
def we9 : Fs := ⟨[z2l, z39, z0m, z50, z4z], [], []⟩
theorem y3n : we9.Ok Tryz.prog := (fsK zo5 (fsK y0a (fsK z0u (fsK wm8 (fsK wm7 fs0)))))
def y2k : Tmpl := ⟨[(1, .c (.s .I)), (2, .c (.s (.s .did))), (3, .c (.s (.s .item))), (4, .c .i), (5, .c (.bx 5 0)), (11, .c (.ref 15)), (12, .c .i), (13, .c .b), (14, .c .i)], [(5, .boxT (.s .net)), (15, .arr .I true)]⟩
def y0g : Tmpl := ⟨[(1, .c (.s .I)), (2, .c (.s (.s .did))), (3, .c (.s (.s .item))), (4, .c .i), (5, .c (.bx 5 0)), (11, .c (.ref 15)), (12, .c .i), (13, .c .b)], [(5, .boxT (.s .net)), (15, .arr .I true)]⟩
def yu7 (av : AV) (x : HP z11.ps) (n : Nat) (v : y2k.den) (K : Ks (CR z11)) : Option (CR z11) := z2h v.2.1 v.1.2.2.1 v.1.2.2.2.1 v.1.2.2.2.2.2.2.1 (fun s1_0 => y0g.at none ((v.1.1, v.1.2.1, v.1.2.2.1, v.1.2.2.2.1, (), (), v.1.2.2.2.2.2.2.1, s1_0, ()), (v.2.1, v.2.2.1, ())) (K (.exit 2))) n v.1.2.2.2.2.2.2.2.1 v.1.2.2.2.2.2.2.2.2.1
def y1r (av : AV) (x : HP z11.ps) : Hdl (CR z11) := hnd [] y2k (yu7 av x)
theorem yx9 : LP z11 Tryz.f102 [0, 0] y1r := lp_ok (W := []) (H := []) (xs := [y0g]) y3n trivial rfl (fun av x v K => by kernel_rfl) (fun av x n v K => by kernel_rfl)
def y9h : Tmpl := ⟨[(1, .c (.s .I)), (2, .c (.s (.s .did))), (3, .c (.s (.s .item))), (4, .c .i), (5, .c (.bx 5 0)), (11, .c (.ref 15)), (12, .c .i)], [(5, .boxT (.s .net)), (15, .arr .I true)]⟩
def y6g : Tmpl := ⟨[(11, .c (.ref 15))], [(15, .arr .I true)]⟩
def w3i (av : AV) (x : HP z11.ps) (n : Nat) (v : y9h.den) (K : Ks (CR z11)) : Option (CR z11) := z5u v.2.1 v.1.1 v.1.2.1 v.1.2.2.1 v.1.2.2.2.1 (fun l0_1 => y6g.at none (((), ()), (l0_1, ())) (K (.exit 0))) n v.1.2.2.2.2.2.2.1 v.2.2.1
def y7l (av : AV) (x : HP z11.ps) : Hdl (CR z11) := hnd [] y9h (w3i av x)
theorem w59 : LP z11 Tryz.f102 [0] y7l := lp_ok (W := []) (H := [y1r]) (xs := [y6g]) y3n ⟨yx9, trivial⟩ rfl (fun av x v K => by kernel_rfl) (fun av x n v K => by kernel_rfl)
theorem yr9 : z11.Ok Tryz.prog := fn_ok (k := z11) (fn := Tryz.f102) (W := []) (H := [y7l]) Tryz.func102 y3n ⟨w59, trivial⟩ rfl rfl (fun av x => by kernel_rfl)
def z94 (n : GNet) (data : List Int) : Option GCase := (z3c n).bind fun x1 => (if x1 = true then ((z2n data).bind fun x3 => (if x3 = true then (gd ((0 : Int) ≤ n.places ∧ n.places ≤ (1000000000 : Int)) (gd (([] : List Int).length + data.length ≤ SMALL) ((getI (List.replicate n.places.toNat (0 : Int)) 0).bind fun x7 => (some (GCase.mk 1 ((List.replicate n.places.toNat (0 : Int)).set (0 : Int).toNat 1) [] (([] : List Int) ++ data) []))))) else (some (GCase.mk 0 [] [] [] [])))) else (some (GCase.mk 0 [] [] [] [])))
def zs3 : Con := ⟨155, [.v (.s .net) false, .v (.sl .I) false], [((.s .kase), true)], [], fun x => z94 x.1 x.2.1⟩
def we3 : Fs := ⟨[z2l, z17], [], []⟩
theorem wh9 : we3.Ok Tryz.prog := (fsK zo5 (fsK z6e fs0))
theorem yr6 : zs3.Ok Tryz.prog := fn_ok (k := zs3) (fn := Tryz.f155) (W := []) (H := []) Tryz.func155 wh9 trivial rfl rfl (fun av x => by kernel_rfl)
def zf1 (c : GCase) : Option Bool := if decide (c.state = 1) = true then ((getI c.marks 1).bind fun x20 => (some (decide (x20 = 0)))) else (if decide ((c.busy.length : Int) = 0) = true then ((getI c.marks 1).bind fun x22 => (some ((decide (c.state = 2)) == (decide (0 < x22))))) else (some false))
def z6w (n : GNet) (c : GCase) (kx0_0 : Option Bool) : Nat → Int → Option Bool
  | 0, _ => none
  | n0 + 1, s0_0 => if decide (s0_0 < (c.did.length : Int)) = true then ((getI c.did s0_0).bind fun x11 => (gd (ok64 ((n.tasks.length : Int) - 1)) ((z03 x11.task 0 ((n.tasks.length : Int) - 1)).bind fun x13 => (if x13 = true then ((getI c.did s0_0).bind fun x15 => ((z03 x15.who 1 4).bind fun x16 => (if x16 = true then (gd (ok64 (s0_0 + 1)) ((z6w n c kx0_0 n0) (s0_0 + 1))) else (some false)))) else (some false))))) else (kx0_0)
def z8n (n : GNet) (c : GCase) : Option Bool := (z8o n c.marks).bind fun x1 => (if x1 = true then ((zg7 n c.busy).bind fun x3 => (if x3 = true then ((z2n c.data).bind fun x5 => (if x5 = true then (if decide (60 < (c.did.length : Int)) = true then (some false) else ((z03 c.state 1 3).bind fun x8 => (if x8 = true then (z6w n c (zf1 c) FUEL 0) else (some false)))) else (some false))) else (some false))) else (some false))
def z37 : Con := ⟨25, [.v (.s .net) false, .v (.s .kase) false], [(.B, true)], [], fun x => z8n x.1 x.2.1⟩
def wt5 : Fs := ⟨[z38, z44, z17, z0m], [], []⟩
theorem w0b : wt5.Ok Tryz.prog := (fsK y09 (fsK ys2 (fsK z6e (fsK z0u fs0))))
def yi2 : Tmpl := ⟨[(2, .c (.bx 2 0)), (3, .c (.bx 3 0)), (5, .c .i)], [(2, .boxT (.s .net)), (3, .boxT (.s .kase))]⟩
def y9z : Tmpl := ⟨[(3, .c (.bx 3 0))], [(3, .boxT (.s .kase))]⟩
def w6w (av : AV) (x : HP z37.ps) (n : Nat) (v : yi2.den) (K : Ks (CR z37)) : Option (CR z37) := z6w v.2.1 v.2.2.1 (y9z.at none (((), ()), (v.2.2.1, ())) (K (.exit 0))) n v.1.2.2.1
def yf7 (av : AV) (x : HP z37.ps) : Hdl (CR z37) := hnd [] yi2 (w6w av x)
theorem w8l : LP z37 Tryz.f25 [0] yf7 := lp_ok (W := []) (H := []) (xs := [y9z]) w0b trivial rfl (fun av x v K => by kernel_rfl) (fun av x n v K => by kernel_rfl)
theorem y08 : z37.Ok Tryz.prog := fn_ok (k := z37) (fn := Tryz.f25) (W := []) (H := [yf7]) Tryz.func25 w0b ⟨w8l, trivial⟩ rfl rfl (fun av x => by kernel_rfl)
def z6c (c : GCase) : Option GCase := gd (([] : List Int).length + c.marks.length ≤ SMALL) (gd (([] : List GItem).length + c.busy.length ≤ SMALL) (gd (([] : List Int).length + c.data.length ≤ SMALL) (gd (([] : List GDid).length + c.did.length ≤ SMALL) (some (GCase.mk c.state (([] : List Int) ++ c.marks) (([] : List GItem) ++ c.busy) (([] : List Int) ++ c.data) (([] : List GDid) ++ c.did))))))
def z8x : Con := ⟨86, [.v (.s .kase) false], [((.s .kase), true)], [], fun x => z6c x.1⟩
def wf9 : Fs := ⟨[], [], []⟩
theorem wi8 : wf9.Ok Tryz.prog := fs0
theorem zv0 : z8x.Ok Tryz.prog := fn_ok (k := z8x) (fn := Tryz.f86) (W := []) (H := []) Tryz.func86 wi8 trivial rfl rfl (fun av x => by kernel_rfl)
def z6x (n : GNet) (people : List Int) (c : GCase) (t : Int) (who : Int) : Option (GCase × Bool) := (z6c c).bind fun x1 => ((z8n n c).bind fun x2 => (if x2 = true then (if decide (c.state = 1) = true then ((zf2 n c.marks c.busy t).bind fun x5 => (if x5 = true then ((z97 n people c.did c.busy t).bind fun x7 => ((zb8 x7 who).bind fun x8 => (if x8 = true then (if decide ((c.busy.length : Int) = 6) = true then (some (x1, false)) else ((zl9 n c.marks t).bind fun x11 => (gd (x1.busy.length + [(GItem.mk t who 0)].length ≤ SMALL) (some ((GCase.mk x1.state x11 (x1.busy ++ [(GItem.mk t who 0)]) x1.data x1.did), true))))) else (some (x1, false))))) else (some (x1, false)))) else (some (x1, false))) else (some (x1, false))))
def ze1 : Con := ⟨32, [.v (.s .net) false, .v (.sl .I) false, .v (.s .kase) false, .v .I false, .v .I false], [((.s .kase), true), (.B, true)], [], fun x => z6x x.1 x.2.1 x.2.2.1 x.2.2.2.1 x.2.2.2.2.1⟩
def w45 : Fs := ⟨[z8x, z37, zs5, z11, z4b, z3x], [], []⟩
theorem w4q : w45.Ok Tryz.prog := (fsK zv0 (fsK y08 (fsK yr8 (fsK yr9 (fsK y93 (fsK w98 fs0))))))
theorem y8z : ze1.Ok Tryz.prog := fn_ok (k := ze1) (fn := Tryz.f32) (W := []) (H := []) Tryz.func32 w4q trivial rfl rfl (fun av x => by kernel_rfl)
def z9p (n : GNet) (c : GCase) (k : Int) (v : Int) (num : Int) : Option (GCase × Bool) := (z6c c).bind fun x1 => ((z8n n c).bind fun x2 => (if x2 = true then (if decide (c.state = 1) = true then (gd (ok64 ((c.busy.length : Int) - 1)) ((z03 k 0 ((c.busy.length : Int) - 1)).bind fun x6 => (if x6 = true then ((z03 v (-1) 2).bind fun x8 => (if x8 = true then ((z03 num (-99) 99).bind fun x10 => (if x10 = true then (if decide ((c.did.length : Int) = 60) = true then (some (x1, false)) else ((getI c.busy k).bind fun x13 => ((z7j c.data v num).bind fun x14 => (gd (ok64 (x13.did + 1)) ((getI x1.busy k).bind fun x16 => (gd (ok64 (x13.did + 1)) ((getI n.tasks x13.task).bind fun x18 => (if decide ((x13.did + 1) < x18.need) = true then (some ((GCase.mk x1.state x1.marks (x1.busy.set k.toNat (GItem.mk x16.task x16.who (x13.did + 1))) x14 x1.did), true)) else ((zm0 n c.marks x13.task x14).bind fun x20 => (if x20.2 = true then (gd ((0 : Int) ≤ k ∧ k ≤ (c.busy.length : Int)) (gd (([] : List GItem).length + (c.busy.take k.toNat).length ≤ SMALL) (gd (ok64 (k + 1)) (gd ((0 : Int) ≤ (k + 1) ∧ (k + 1) ≤ (c.busy.length : Int)) (gd ((([] : List GItem) ++ (c.busy.take k.toNat)).length + (c.busy.drop (k + 1).toNat).length ≤ SMALL) (gd (x1.did.length + [(GDid.mk x13.task x13.who)].length ≤ SMALL) ((getI x20.1 1).bind fun x28 => (if decide (0 < x28) = true then (some ((GCase.mk 2 x20.1 ([] : List GItem) x14 (x1.did ++ [(GDid.mk x13.task x13.who)])), true)) else (some ((GCase.mk x1.state x20.1 ((([] : List GItem) ++ (c.busy.take k.toNat)) ++ (c.busy.drop (k + 1).toNat)) x14 (x1.did ++ [(GDid.mk x13.task x13.who)])), true)))))))))) else ((z6c c).bind fun x30 => (some (x30, false))))))))))))) else (some (x1, false)))) else (some (x1, false)))) else (some (x1, false))))) else (some (x1, false))) else (some (x1, false))))
def zl3 : Con := ⟨112, [.v (.s .net) false, .v (.s .kase) false, .v .I false, .v .I false, .v .I false], [((.s .kase), true), (.B, true)], [], fun x => z9p x.1 x.2.1 x.2.2.1 x.2.2.2.1 x.2.2.2.2.1⟩
def w7l : Fs := ⟨[z8x, z37, z0m, zs4, z0x], [], []⟩
theorem w88 : w7l.Ok Tryz.prog := (fsK zv0 (fsK y08 (fsK z0u (fsK yr7 (fsK w99 fs0)))))
theorem yh0 : zl3.Ok Tryz.prog := fn_ok (k := zl3) (fn := Tryz.f112) (W := []) (H := []) Tryz.func112 w88 trivial rfl rfl (fun av x => by kernel_rfl)
def zl8 (n : GNet) (c : GCase) : Option (GCase × Bool) := (z6c c).bind fun x1 => ((z8n n c).bind fun x2 => (if x2 = true then (if decide (c.state = 1) = true then (some ((GCase.mk 3 x1.marks ([] : List GItem) x1.data x1.did), true)) else (some (x1, false))) else (some (x1, false))))
def y0y : Con := ⟨23, [.v (.s .net) false, .v (.s .kase) false], [((.s .kase), true), (.B, true)], [], fun x => zl8 x.1 x.2.1⟩
def w7k : Fs := ⟨[z8x, z37], [], []⟩
theorem w87 : w7k.Ok Tryz.prog := (fsK zv0 (fsK y08 fs0))
theorem w97 : y0y.Ok Tryz.prog := fn_ok (k := y0y) (fn := Tryz.f23) (W := []) (H := []) Tryz.func23 w87 trivial rfl rfl (fun av x => by kernel_rfl)
def z08 (c : GCase) : Option GCase := (z0l c.marks).bind fun x1 => (gd (([] : List GItem).length + c.busy.length ≤ SMALL) ((z0l c.data).bind fun x3 => (gd (([] : List GDid).length + c.did.length ≤ SMALL) (some (GCase.mk c.state x1 (([] : List GItem) ++ c.busy) x3 (([] : List GDid) ++ c.did))))))
def z31 : Con := ⟨84, [.v (.s .kase) false], [((.s .kase), true)], [], fun x => z08 x.1⟩
def yc6 : Fs := ⟨[z1s], [], []⟩
theorem yd2 : yc6.Ok Tryz.prog := (fsK z3f fs0)
theorem z6m : z31.Ok Tryz.prog := fn_ok (k := z31) (fn := Tryz.f84) (W := []) (H := []) Tryz.func84 yd2 trivial rfl rfl (fun av x => by kernel_rfl)
def y8j (s0_0 : Int) (bk0 : Int → Option Bool) (s1_0 : Int) : Option Bool := if ((decide (s0_0 = 0)) == (decide (s1_0 = 0))) = true then (if decide (1 < s1_0) = true then (some false) else (gd (ok64 (s0_0 + 1)) (bk0 (s0_0 + 1)))) else (some false)
def z14 (tree : List GNode) (s0_0 : Int) (kx1_0 : Int → Option Bool) : Nat → Int → Int → Option Bool
  | 0, _, _ => none
  | n1 + 1, s1_0, s1_1 => if decide (s1_1 < (tree.length : Int)) = true then ((getI tree s1_1).bind fun x15 => (if decide (x15.yes = s0_0) = true then (gd (ok64 (s1_0 + 1)) ((getI tree s1_1).bind fun x18 => (if decide (x18.no = s0_0) = true then (gd (ok64 ((s1_0 + 1) + 1)) (gd (ok64 (s1_1 + 1)) ((z14 tree s0_0 kx1_0 n1) ((s1_0 + 1) + 1) (s1_1 + 1)))) else (gd (ok64 (s1_1 + 1)) ((z14 tree s0_0 kx1_0 n1) (s1_0 + 1) (s1_1 + 1)))))) else ((getI tree s1_1).bind fun x23 => (if decide (x23.no = s0_0) = true then (gd (ok64 (s1_0 + 1)) (gd (ok64 (s1_1 + 1)) ((z14 tree s0_0 kx1_0 n1) (s1_0 + 1) (s1_1 + 1)))) else (gd (ok64 (s1_1 + 1)) ((z14 tree s0_0 kx1_0 n1) s1_0 (s1_1 + 1))))))) else (kx1_0 s1_0)
def y8k (s0_0 : Int) (bk0 : Int → Option Bool) (s2_0 : Int) : Option Bool := if ((decide (s0_0 = 0)) == (decide (s2_0 = 0))) = true then (if decide (1 < s2_0) = true then (some false) else (gd (ok64 (s0_0 + 1)) (bk0 (s0_0 + 1)))) else (some false)
def y8l (s0_0 : Int) (bk0 : Int → Option Bool) (s3_0 : Int) : Option Bool := if ((decide (s0_0 = 0)) == (decide (s3_0 = 0))) = true then (if decide (1 < s3_0) = true then (some false) else (gd (ok64 (s0_0 + 1)) (bk0 (s0_0 + 1)))) else (some false)
def y8m (s0_0 : Int) (bk0 : Int → Option Bool) (s4_0 : Int) : Option Bool := if ((decide (s0_0 = 0)) == (decide (s4_0 = 0))) = true then (if decide (1 < s4_0) = true then (some false) else (gd (ok64 (s0_0 + 1)) (bk0 (s0_0 + 1)))) else (some false)
def y8n  : Option Bool := some true
def z2z (tree : List GNode) (kx0_0 : Option Bool) : Nat → Int → Option Bool
  | 0, _ => none
  | n0 + 1, s0_0 => if decide (s0_0 < (tree.length : Int)) = true then ((getI tree s0_0).bind fun x3 => ((z69 x3.if_).bind fun x4 => (if x4 = true then ((z03 x3.ans 0 2).bind fun x6 => (if x6 = true then ((z2n x3.stone).bind fun x8 => (if x8 = true then ((z1b x3.if_ x3.stone).bind fun x10 => (if x10 = true then (if decide (x3.yes = (-1)) = true then (if decide (x3.no = (-1)) = true then (z14 tree s0_0 (y8j s0_0 (z2z tree kx0_0 n0)) FUEL 0 0) else (gd (ok64 (s0_0 + 1)) (gd (ok64 ((tree.length : Int) - 1)) ((z03 x3.no (s0_0 + 1) ((tree.length : Int) - 1)).bind fun x33 => (if x33 = true then (z14 tree s0_0 (y8k s0_0 (z2z tree kx0_0 n0)) FUEL 0 0) else (some false)))))) else (gd (ok64 (s0_0 + 1)) (gd (ok64 ((tree.length : Int) - 1)) ((z03 x3.yes (s0_0 + 1) ((tree.length : Int) - 1)).bind fun x54 => (if x54 = true then (if decide (x3.no = (-1)) = true then (z14 tree s0_0 (y8l s0_0 (z2z tree kx0_0 n0)) FUEL 0 0) else (gd (ok64 (s0_0 + 1)) (gd (ok64 ((tree.length : Int) - 1)) ((z03 x3.no (s0_0 + 1) ((tree.length : Int) - 1)).bind fun x76 => (if x76 = true then (z14 tree s0_0 (y8m s0_0 (z2z tree kx0_0 n0)) FUEL 0 0) else (some false)))))) else (some false)))))) else (some false))) else (some false))) else (some false))) else (some false)))) else (kx0_0)
def z8q (tree : List GNode) : Option Bool := if decide (12 < (tree.length : Int)) = true then (some false) else (z2z tree y8n FUEL 0)
def z18 : Con := ⟨129, [.v (.sl (.s .node)) false], [(.B, true)], [], fun x => z8q x.1⟩
def wu3 : Fs := ⟨[z8h, z0m, z17, z4a], [], []⟩
theorem y77 : wu3.Ok Tryz.prog := (fsK zo4 (fsK z0u (fsK z6e (fsK z77 fs0))))
def y5z : Tmpl := ⟨[(0, .c (.s (.s .node))), (3, .c .i), (5, .c .i), (6, .c .i)], []⟩
def y33 : Tmpl := ⟨[(0, .c (.s (.s .node))), (3, .c .i), (5, .c .i)], []⟩
def w1h (av : AV) (x : HP z18.ps) (n : Nat) (v : y5z.den) (K : Ks (CR z18)) : Option (CR z18) := z14 v.1.1 v.1.2.1 (fun s1_0 => y33.at none ((v.1.1, v.1.2.1, s1_0, ()), ()) (K (.exit 2))) n v.1.2.2.1 v.1.2.2.2.1
def y53 (av : AV) (x : HP z18.ps) : Hdl (CR z18) := hnd [] y5z (w1h av x)
theorem w2f : LP z18 Tryz.f129 [0, 0] y53 := lp_ok (W := []) (H := []) (xs := [y33]) y77 trivial rfl (fun av x v K => by kernel_rfl) (fun av x n v K => by kernel_rfl)
def yi8 : Tmpl := ⟨[(0, .c (.s (.s .node))), (3, .c .i)], []⟩
def ya5 : Tmpl := ⟨[], []⟩
def w72 (av : AV) (x : HP z18.ps) (n : Nat) (v : yi8.den) (K : Ks (CR z18)) : Option (CR z18) := z2z v.1.1 (ya5.at none ((), ()) (K (.exit 0))) n v.1.2.1
def yg3 (av : AV) (x : HP z18.ps) : Hdl (CR z18) := hnd [] yi8 (w72 av x)
theorem w8r : LP z18 Tryz.f129 [0] yg3 := lp_ok (W := []) (H := [y53]) (xs := [ya5]) y77 ⟨w2f, trivial⟩ rfl (fun av x v K => by kernel_rfl) (fun av x n v K => by kernel_rfl)
theorem y91 : z18.Ok Tryz.prog := fn_ok (k := z18) (fn := Tryz.f129) (W := []) (H := [yg3]) Tryz.func129 y77 ⟨w8r, trivial⟩ rfl rfl (fun av x => by kernel_rfl)
def y5h (s0_0 : Int) (s0_1 : Int) : Option (Int × Int) := some (s0_0, s0_1)
def y5i (s0_0 : Int) (s0_1 : Int) : Option (Int × Int) := some (s0_0, s0_1)
def z3d (tree : List GNode) (data : List Int) (kx0_0 : Int → Int → Option (Int × Int)) (kx0_1 : Int → Int → Option (Int × Int)) : Nat → Int → Int → Int → Int → Option (Int × Int)
  | 0, _, _, _, _ => none
  | n0 + 1, s0_0, s0_1, s0_2, s0_3 => if decide (s0_3 < 12) = true then (if decide (s0_2 = (-1)) = true then (kx0_0 s0_0 s0_1) else ((getI tree s0_2).bind fun x4 => ((z1b x4.if_ data).bind fun x5 => (if x5 = true then ((getI tree s0_2).bind fun x7 => (gd (ok64 (s0_3 + 1)) ((z3d tree data kx0_0 kx0_1 n0) s0_2 s0_2 x7.yes (s0_3 + 1)))) else ((getI tree s0_2).bind fun x9 => (gd (ok64 (s0_3 + 1)) ((z3d tree data kx0_0 kx0_1 n0) s0_0 s0_2 x9.no (s0_3 + 1)))))))) else (kx0_1 s0_0 s0_1)
def y5j (s1_0 : Int) (s1_1 : Int) : Option (Int × Int) := some (s1_0, s1_1)
def y5k (s1_0 : Int) (s1_1 : Int) : Option (Int × Int) := some (s1_0, s1_1)
def z7n (tree : List GNode) (data : List Int) : Option (Int × Int) := if decide ((tree.length : Int) = 0) = true then (z3d tree data y5h y5i FUEL (-1) (-1) (-1) 0) else (z3d tree data y5j y5k FUEL (-1) (-1) 0 0)
def z2w : Con := ⟨209, [.v (.sl (.s .node)) false, .v (.sl .I) false], [(.I, true), (.I, true)], [], fun x => z7n x.1 x.2.1⟩
def wg2 : Fs := ⟨[z4a], [], []⟩
theorem yp7 : wg2.Ok Tryz.prog := (fsK z77 fs0)
def y9m : Tmpl := ⟨[(0, .c (.s (.s .node))), (1, .c (.s .I)), (6, .c .i), (7, .c .i), (8, .c .i), (9, .c .i)], []⟩
def zq2 : Tmpl := ⟨[(6, .c .i), (7, .c .i)], []⟩
def w3n (av : AV) (x : HP z2w.ps) (n : Nat) (v : y9m.den) (K : Ks (CR z2w)) : Option (CR z2w) := z3d v.1.1 v.1.2.1 (fun s0_0 s0_1 => zq2.at none ((s0_0, s0_1, ()), ()) (K (.exit 0))) (fun s0_0 s0_1 => zq2.at none ((s0_0, s0_1, ()), ()) (K (.exit 0))) n v.1.2.2.1 v.1.2.2.2.1 v.1.2.2.2.2.1 v.1.2.2.2.2.2.1
def y7q (av : AV) (x : HP z2w.ps) : Hdl (CR z2w) := hnd [] y9m (w3n av x)
theorem w5e : LP z2w Tryz.f209 [0] y7q := lp_ok (W := []) (H := []) (xs := [zq2]) yp7 trivial rfl (fun av x v K => by kernel_rfl) (fun av x n v K => by kernel_rfl)
theorem y4i : z2w.Ok Tryz.prog := fn_ok (k := z2w) (fn := Tryz.f209) (W := []) (H := [y7q]) Tryz.func209 yp7 ⟨w5e, trivial⟩ rfl rfl (fun av x => by kernel_rfl)
def zu2 (tree : List GNode) (data : List Int) : Option Int := (z8q tree).bind fun x1 => (if x1 = true then ((z2n data).bind fun x3 => (if x3 = true then ((z7n tree data).bind fun x5 => (if decide (x5.1 = (-1)) = true then (some 0) else ((getI tree x5.1).bind fun x7 => (some x7.ans)))) else (some 0))) else (some 0))
def y3z : Con := ⟨186, [.v (.sl (.s .node)) false, .v (.sl .I) false], [(.I, true)], [], fun x => zu2 x.1 x.2.1⟩
def wf1 : Fs := ⟨[z18, z17, z2w], [], []⟩
theorem wi2 : wf1.Ok Tryz.prog := (fsK y91 (fsK z6e (fsK y4i fs0)))
theorem wm9 : y3z.Ok Tryz.prog := fn_ok (k := y3z) (fn := Tryz.f186) (W := []) (H := []) Tryz.func186 wi2 trivial rfl rfl (fun av x => by kernel_rfl)
def zu6 (tree : List GNode) (a : List Int) (b : List Int) : Option Bool := (z7n tree a).bind fun x1 => ((z7n tree b).bind fun x2 => (if decide (x1.2 = x2.2) = true then (if decide (x1.2 = (-1)) = true then (some true) else ((getI tree x1.2).bind fun x5 => ((z1b x5.if_ a).bind fun x6 => ((getI tree x1.2).bind fun x7 => ((z1b x7.if_ b).bind fun x8 => (some (x6 == x8))))))) else (some false)))
def y42 : Con := ⟨210, [.v (.sl (.s .node)) false, .v (.sl .I) false, .v (.sl .I) false], [(.B, true)], [], fun x => zu6 x.1 x.2.1 x.2.2.1⟩
def wg1 : Fs := ⟨[z2w, z4a], [], []⟩
theorem wi9 : wg1.Ok Tryz.prog := (fsK y4i (fsK z77 fs0))
theorem wn3 : y42.Ok Tryz.prog := fn_ok (k := y42) (fn := Tryz.f210) (W := []) (H := []) Tryz.func210 wi9 trivial rfl rfl (fun av x => by kernel_rfl)
def zp8 (l0_1 : List GNode) : Option (List GNode) := some l0_1
def z5w (tree : List GNode) (kx0_0 : List GNode → Option (List GNode)) : Nat → Int → List GNode → Option (List GNode)
  | 0, _, _ => none
  | n0 + 1, s0_0, l0_1 => if decide (s0_0 < (tree.length : Int)) = true then ((getI tree s0_0).bind fun x2 => (gd (([] : List Int).length + x2.stone.length ≤ SMALL) (gd (l0_1.length + [(GNode.mk x2.if_ x2.yes x2.no x2.ans (([] : List Int) ++ x2.stone))].length ≤ SMALL) (gd (ok64 (s0_0 + 1)) ((z5w tree kx0_0 n0) (s0_0 + 1) (l0_1 ++ [(GNode.mk x2.if_ x2.yes x2.no x2.ans (([] : List Int) ++ x2.stone))])))))) else (kx0_0 l0_1)
def zh0 (tree : List GNode) : Option (List GNode) := z5w tree zp8 FUEL 0 ([] : List GNode)
def z45 : Con := ⟨189, [.v (.sl (.s .node)) false], [((.sl (.s .node)), true)], [], fun x => zh0 x.1⟩
def wg0 : Fs := ⟨[], [], []⟩
theorem yp6 : wg0.Ok Tryz.prog := fs0
def y9l : Tmpl := ⟨[(0, .c (.s (.s .node))), (3, .c (.ref 6)), (4, .c .i)], [(6, .arr (.s .node) true)]⟩
def y6k : Tmpl := ⟨[(3, .c (.ref 6))], [(6, .arr (.s .node) true)]⟩
def w3m (av : AV) (x : HP z45.ps) (n : Nat) (v : y9l.den) (K : Ks (CR z45)) : Option (CR z45) := z5w v.1.1 (fun l0_1 => y6k.at none (((), ()), (l0_1, ())) (K (.exit 0))) n v.1.2.2.1 v.2.1
def y7p (av : AV) (x : HP z45.ps) : Hdl (CR z45) := hnd [] y9l (w3m av x)
theorem w5d : LP z45 Tryz.f189 [0] y7p := lp_ok (W := []) (H := []) (xs := [y6k]) yp6 trivial rfl (fun av x v K => by kernel_rfl) (fun av x n v K => by kernel_rfl)
theorem ys3 : z45.Ok Tryz.prog := fn_ok (k := z45) (fn := Tryz.f189) (W := []) (H := [y7p]) Tryz.func189 yp6 ⟨w5d, trivial⟩ rfl rfl (fun av x => by kernel_rfl)
def za1 (tree : List GNode) (data : List Int) (e : GAsk) (ans : Int) (x1 : (List GNode)) : Option ((List GNode) × Bool) := (z7n tree data).bind fun x20 => (if decide (x20.2 = (-1)) = true then (gd (([] : List Int).length + data.length ≤ SMALL) (gd (x1.length + [(GNode.mk e (-1) (-1) ans (([] : List Int) ++ data))].length ≤ SMALL) (some ((x1 ++ [(GNode.mk e (-1) (-1) ans (([] : List Int) ++ data))]), true)))) else ((getI tree x20.2).bind fun x24 => ((z1b x24.if_ data).bind fun x25 => (if x25 = true then ((getI x1 x20.2).bind fun x27 => (gd (([] : List Int).length + data.length ≤ SMALL) (gd ((x1.set x20.2.toNat (GNode.mk x27.if_ (tree.length : Int) x27.no x27.ans x27.stone)).length + [(GNode.mk e (-1) (-1) ans (([] : List Int) ++ data))].length ≤ SMALL) (some (((x1.set x20.2.toNat (GNode.mk x27.if_ (tree.length : Int) x27.no x27.ans x27.stone)) ++ [(GNode.mk e (-1) (-1) ans (([] : List Int) ++ data))]), true))))) else ((getI x1 x20.2).bind fun x30 => (gd (([] : List Int).length + data.length ≤ SMALL) (gd ((x1.set x20.2.toNat (GNode.mk x30.if_ x30.yes (tree.length : Int) x30.ans x30.stone)).length + [(GNode.mk e (-1) (-1) ans (([] : List Int) ++ data))].length ≤ SMALL) (some (((x1.set x20.2.toNat (GNode.mk x30.if_ x30.yes (tree.length : Int) x30.ans x30.stone)) ++ [(GNode.mk e (-1) (-1) ans (([] : List Int) ++ data))]), true)))))))))
def z4q (tree : List GNode) (data : List Int) (e : GAsk) (x1 : (List GNode)) (kx0_0 : Option ((List GNode) × Bool)) : Nat → Int → Option ((List GNode) × Bool)
  | 0, _ => none
  | n0 + 1, s0_0 => if decide (s0_0 < (tree.length : Int)) = true then ((getI tree s0_0).bind fun x12 => ((zu6 tree x12.stone data).bind fun x13 => (if x13 = true then ((getI tree s0_0).bind fun x15 => ((z1b e x15.stone).bind fun x16 => (if x16 = true then (some (x1, false)) else (gd (ok64 (s0_0 + 1)) ((z4q tree data e x1 kx0_0 n0) (s0_0 + 1)))))) else (gd (ok64 (s0_0 + 1)) ((z4q tree data e x1 kx0_0 n0) (s0_0 + 1)))))) else (kx0_0)
def z7k (tree : List GNode) (data : List Int) (e : GAsk) (ans : Int) : Option ((List GNode) × Bool) := (zh0 tree).bind fun x1 => ((z8q tree).bind fun x2 => (if x2 = true then ((z2n data).bind fun x4 => (if x4 = true then ((z1b e data).bind fun x6 => (if x6 = true then ((z03 ans 0 2).bind fun x8 => (if x8 = true then (if decide ((tree.length : Int) = 12) = true then (some (x1, false)) else (z4q tree data e x1 (za1 tree data e ans x1) FUEL 0)) else (some (x1, false)))) else (some (x1, false)))) else (some (x1, false)))) else (some (x1, false))))
def z3y : Con := ⟨187, [.v (.sl (.s .node)) false, .v (.sl .I) false, .v (.s .ask) false, .v .I false], [((.sl (.s .node)), true), (.B, true)], [], fun x => z7k x.1 x.2.1 x.2.2.1 x.2.2.2.1⟩
def wf0 : Fs := ⟨[z45, z18, z17, z4a, z0m, y42, z2w], [], []⟩
theorem yp3 : wf0.Ok Tryz.prog := (fsK ys3 (fsK y91 (fsK z6e (fsK z77 (fsK z0u (fsK wn3 (fsK y4i fs0)))))))
def y9i : Tmpl := ⟨[(0, .c (.s (.s .node))), (1, .c (.s .I)), (3, .c .i), (6, .c (.bx 6 0)), (10, .c (.ref 15)), (11, .c .i)], [(6, .boxT (.s .ask)), (15, .arr (.s .node) true)]⟩
def y6h : Tmpl := ⟨[(0, .c (.s (.s .node))), (1, .c (.s .I)), (3, .c .i), (6, .c (.bx 6 0)), (10, .c (.ref 15))], [(6, .boxT (.s .ask)), (15, .arr (.s .node) true)]⟩
def w3j (av : AV) (x : HP z3y.ps) (n : Nat) (v : y9i.den) (K : Ks (CR z3y)) : Option (CR z3y) := z4q v.1.1 v.1.2.1 v.2.1 v.2.2.1 (y6h.at none ((v.1.1, v.1.2.1, v.1.2.2.1, (), (), ()), (v.2.1, v.2.2.1, ())) (K (.exit 0))) n v.1.2.2.2.2.2.1
def y7m (av : AV) (x : HP z3y.ps) : Hdl (CR z3y) := hnd [] y9i (w3j av x)
theorem w5a : LP z3y Tryz.f187 [0] y7m := lp_ok (W := []) (H := []) (xs := [y6h]) yp3 trivial rfl (fun av x v K => by kernel_rfl) (fun av x n v K => by kernel_rfl)
theorem ys0 : z3y.Ok Tryz.prog := fn_ok (k := z3y) (fn := Tryz.f187) (W := []) (H := [y7m]) Tryz.func187 yp3 ⟨w5a, trivial⟩ rfl rfl (fun av x => by kernel_rfl)
def z4d (ans : Int) : Option Bool := (z0c ans 0 2).bind fun x1 => (some x1)
def z8f : Con := ⟨121, [.v .I false], [(.B, true)], [], fun x => z4d x.1⟩
def w43 : Fs := ⟨[z20], [], []⟩
theorem w4o : w43.Ok Tryz.prog := (fsK z2p fs0)
theorem zx4 : z8f.Ok Tryz.prog := fn_ok (k := z8f) (fn := Tryz.f121) (W := []) (H := []) Tryz.func121 w4o trivial rfl rfl (fun av x => by kernel_rfl)
def z9h (l0_1 : List GNode) : Option (List GNode) := some l0_1
def z35 (tree : List GNode) (p0_0 : Int) (kx0_0 : List GNode → Option (List GNode)) : Nat → Int → List GNode → Option (List GNode)
  | 0, _, _ => none
  | n0 + 1, s0_0, l0_1 => if decide (s0_0 < p0_0) = true then ((getI tree s0_0).bind fun x2 => ((z0l x2.stone).bind fun x3 => (gd (l0_1.length + [(GNode.mk x2.if_ x2.yes x2.no x2.ans x3)].length ≤ SMALL) (gd (ok64 (s0_0 + 1)) ((z35 tree p0_0 kx0_0 n0) (s0_0 + 1) (l0_1 ++ [(GNode.mk x2.if_ x2.yes x2.no x2.ans x3)])))))) else (kx0_0 l0_1)
def z6t (tree : List GNode) : Option (List GNode) := z35 tree (tree.length : Int) z9h FUEL 0 ([] : List GNode)
def z1e : Con := ⟨183, [.v (.sl (.s .node)) false], [((.sl (.s .node)), true)], [], fun x => z6t x.1⟩
def yw4 : Fs := ⟨[z1s], [], []⟩
theorem y1o : yw4.Ok Tryz.prog := (fsK z3f fs0)
def zy1 : Tmpl := ⟨[(3, .c (.ref 500003)), (6, .c (.s (.s .node))), (7, .c .i), (8, .c .i)], [(500003, .arr (.s .node) true)]⟩
def zr4 : Tmpl := ⟨[(3, .c (.ref 500003))], [(500003, .arr (.s .node) true)]⟩
def yj4 (av : AV) (x : HP z1e.ps) (n : Nat) (v : zy1.den) (K : Ks (CR z1e)) : Option (CR z1e) := z35 v.1.2.1 v.1.2.2.1 (fun l0_1 => zr4.at none (((), ()), (l0_1, ())) (K (.exit 0))) n v.1.2.2.2.1 v.2.1
def zw1 (av : AV) (x : HP z1e.ps) : Hdl (CR z1e) := hnd [.e 3 500003 (.s .node)] zy1 (yj4 av x)
theorem yl2 : LP z1e Tryz.f183 [0] zw1 := lp_ok (W := []) (H := []) (xs := [zr4]) y1o trivial rfl (fun av x v K => by kernel_rfl) (fun av x n v K => by kernel_rfl)
theorem y2e : z1e.Ok Tryz.prog := fn_ok (k := z1e) (fn := Tryz.f183) (W := []) (H := [zw1]) Tryz.func183 y1o ⟨yl2, trivial⟩ rfl rfl (fun av x => by kernel_rfl)
def y5l  : Option Bool := some true
def z5z (nets : List GNet) (kx0_0 : Option Bool) : Nat → Int → Option Bool
  | 0, _ => none
  | n0 + 1, s0_0 => if decide (s0_0 < (nets.length : Int)) = true then ((getI nets s0_0).bind fun x4 => ((z3c x4).bind fun x5 => (if x5 = true then (gd (ok64 (s0_0 + 1)) ((z5z nets kx0_0 n0) (s0_0 + 1))) else (some false)))) else (kx0_0)
def zh2 (nets : List GNet) : Option Bool := (z03 (nets.length : Int) 1 3).bind fun x1 => (if x1 = true then (z5z nets y5l FUEL 0) else (some false))
def z46 : Con := ⟨128, [.v (.sl (.s .net)) false], [(.B, true)], [], fun x => zh2 x.1⟩
def wg6 : Fs := ⟨[z0m, z2l], [], []⟩
theorem yp8 : wg6.Ok Tryz.prog := (fsK z0u (fsK zo5 fs0))
def y9p : Tmpl := ⟨[(0, .c (.s (.s .net))), (3, .c .i)], []⟩
def y6n : Tmpl := ⟨[], []⟩
def w3q (av : AV) (x : HP z46.ps) (n : Nat) (v : y9p.den) (K : Ks (CR z46)) : Option (CR z46) := z5z v.1.1 (y6n.at none ((), ()) (K (.exit 0))) n v.1.2.1
def y7t (av : AV) (x : HP z46.ps) : Hdl (CR z46) := hnd [] y9p (w3q av x)
theorem w5h : LP z46 Tryz.f128 [0] y7t := lp_ok (W := []) (H := []) (xs := [y6n]) yp8 trivial rfl (fun av x v K => by kernel_rfl) (fun av x n v K => by kernel_rfl)
theorem ys5 : z46.Ok Tryz.prog := fn_ok (k := z46) (fn := Tryz.f128) (W := []) (H := [y7t]) Tryz.func128 yp8 ⟨w5h, trivial⟩ rfl rfl (fun av x => by kernel_rfl)
def za8 (p0_1 : Int) (l0_1 : List GTask) : Option GNet := some (GNet.mk p0_1 l0_1)
def z3s (n : GNet) (kx0_0 : List GTask → Option GNet) : Nat → Int → List GTask → Option GNet
  | 0, _, _ => none
  | n0 + 1, s0_0, l0_1 => if decide (s0_0 < (n.tasks.length : Int)) = true then ((getI n.tasks s0_0).bind fun x2 => (gd (([] : List Int).length + x2.in_.length ≤ SMALL) (gd (([] : List GFlow).length + x2.out.length ≤ SMALL) (gd (([] : List Int).length + x2.clear.length ≤ SMALL) (gd (l0_1.length + [(GTask.mk x2.join x2.split (([] : List Int) ++ x2.in_) (([] : List GFlow) ++ x2.out) (([] : List Int) ++ x2.clear) x2.role x2.apart x2.all x2.need)].length ≤ SMALL) (gd (ok64 (s0_0 + 1)) ((z3s n kx0_0 n0) (s0_0 + 1) (l0_1 ++ [(GTask.mk x2.join x2.split (([] : List Int) ++ x2.in_) (([] : List GFlow) ++ x2.out) (([] : List Int) ++ x2.clear) x2.role x2.apart x2.all x2.need)])))))))) else (kx0_0 l0_1)
def z7v (n : GNet) : Option GNet := z3s n (za8 n.places) FUEL 0 ([] : List GTask)
def z1u : Con := ⟨190, [.v (.s .net) false], [((.s .net), true)], [], fun x => z7v x.1⟩
def w1x : Fs := ⟨[], [], []⟩
theorem y4r : w1x.Ok Tryz.prog := fs0
def y0e : Tmpl := ⟨[(1, .c (.bx 1 0)), (2, .c (.bx 2 0)), (3, .c (.bx 3 0)), (4, .c .i)], [(1, .boxT (.s .net)), (2, .box [.i, .nl]), (3, .box [.i, .ref 510301]), (510301, .arr (.s .task) true)]⟩
def zy7 : Tmpl := ⟨[(2, .c (.bx 2 0)), (3, .c (.bx 3 0))], [(2, .box [.i, .nl]), (3, .box [.i, .ref 510301]), (510301, .arr (.s .task) true)]⟩
def yn0 (av : AV) (x : HP z1u.ps) (n : Nat) (v : y0e.den) (K : Ks (CR z1u)) : Option (CR z1u) := z3s v.2.1 (fun l0_1 => zy7.at none (((), (), ()), ((v.2.2.1.1, (), ()), (v.2.2.2.1.1, (), ()), l0_1, ())) (K (.exit 0))) n v.1.2.2.2.1 v.2.2.2.2.1
def zz4 (av : AV) (x : HP z1u.ps) : Hdl (CR z1u) := hnd [.b 3 1 510301 (.s .task)] y0e (yn0 av x)
theorem yq6 : LP z1u Tryz.f190 [0] zz4 := lp_ok (W := []) (H := []) (xs := [zy7]) y4r trivial rfl (fun av x v K => by kernel_rfl) (fun av x n v K => by kernel_rfl)
theorem y5n : z1u.Ok Tryz.prog := fn_ok (k := z1u) (fn := Tryz.f190) (W := []) (H := [zz4]) Tryz.func190 y4r ⟨yq6, trivial⟩ rfl rfl (fun av x => by kernel_rfl)
def zp6 (p0_0 : List Int) (l0_1 : List GNet) : Option GHouse := some (GHouse.mk l0_1 p0_0 [] [])
def z5s (nets : List GNet) (kx0_0 : List GNet → Option GHouse) : Nat → Int → List GNet → Option GHouse
  | 0, _, _ => none
  | n0 + 1, s0_0, l0_1 => if decide (s0_0 < (nets.length : Int)) = true then ((getI nets s0_0).bind fun x7 => ((z7v x7).bind fun x8 => (gd (l0_1.length + [x8].length ≤ SMALL) (gd (ok64 (s0_0 + 1)) ((z5s nets kx0_0 n0) (s0_0 + 1) (l0_1 ++ [x8])))))) else (kx0_0 l0_1)
def zt9 (nets : List GNet) (people : List Int) : Option GHouse := (zh2 nets).bind fun x1 => (if x1 = true then ((z8p people).bind fun x3 => (if x3 = true then (gd (([] : List Int).length + people.length ≤ SMALL) (z5s nets (zp6 (([] : List Int) ++ people)) FUEL 0 ([] : List GNet))) else (some (GHouse.mk [] [] [] [])))) else (some (GHouse.mk [] [] [] [])))
def z4y : Con := ⟨195, [.v (.sl (.s .net)) false, .v (.sl .I) false], [((.s .house), true)], [], fun x => zt9 x.1 x.2.1⟩
def we6 : Fs := ⟨[z46, z39, z1u], [], []⟩
theorem yp0 : we6.Ok Tryz.prog := (fsK ys5 (fsK y0a (fsK y5n fs0)))
def y9e : Tmpl := ⟨[(0, .c (.s (.s .net))), (4, .c (.bx 4 0)), (5, .c (.bx 5 0)), (6, .c .i)], [(4, .box [.nl, .nl, .nl, .nl]), (5, .box [.ref 510500, .ref 18, .nl, .nl]), (510500, .arr (.s .net) true), (18, .arr .I true)]⟩
def y6d : Tmpl := ⟨[(4, .c (.bx 4 0)), (5, .c (.bx 5 0))], [(4, .box [.nl, .nl, .nl, .nl]), (5, .box [.ref 510500, .ref 18, .nl, .nl]), (510500, .arr (.s .net) true), (18, .arr .I true)]⟩
def w3f (av : AV) (x : HP z4y.ps) (n : Nat) (v : y9e.den) (K : Ks (CR z4y)) : Option (CR z4y) := z5s v.1.1 (fun l0_1 => y6d.at none (((), (), ()), (((), (), (), (), ()), ((), (), (), (), ()), l0_1, v.2.2.2.2.1, ())) (K (.exit 0))) n v.1.2.2.2.1 v.2.2.2.1
def y7i (av : AV) (x : HP z4y.ps) : Hdl (CR z4y) := hnd [.b 5 0 510500 (.s .net)] y9e (w3f av x)
theorem w56 : LP z4y Tryz.f195 [0] y7i := lp_ok (W := []) (H := []) (xs := [y6d]) yp0 trivial rfl (fun av x v K => by kernel_rfl) (fun av x n v K => by kernel_rfl)
theorem wm6 : z4y.Ok Tryz.prog := fn_ok (k := z4y) (fn := Tryz.f195) (W := []) (H := [y7i]) Tryz.func195 yp0 ⟨w56, trivial⟩ rfl rfl (fun av x => by kernel_rfl)
def y8f  : Option Bool := some true
def z6z (h : GHouse) (kx0_0 : Option Bool) : Nat → Int → Option Bool
  | 0, _ => none
  | n0 + 1, s0_0 => if decide (s0_0 < (h.runs.length : Int)) = true then ((getI h.runs s0_0).bind fun x9 => (gd (ok64 ((h.nets.length : Int) - 1)) ((z03 x9.net 0 ((h.nets.length : Int) - 1)).bind fun x11 => (if x11 = true then ((getI h.runs s0_0).bind fun x13 => ((getI h.nets x13.net).bind fun x14 => ((getI h.runs s0_0).bind fun x15 => ((z8n x14 x15.case).bind fun x16 => (if x16 = true then (gd (ok64 (s0_0 + 1)) ((z6z h kx0_0 n0) (s0_0 + 1))) else (some false)))))) else (some false))))) else (kx0_0)
def zo2 (h : GHouse) : Option Bool := (zh2 h.nets).bind fun x1 => (if x1 = true then ((z8p h.people).bind fun x3 => (if x3 = true then ((z8q h.tree).bind fun x5 => (if x5 = true then (if decide (5 < (h.runs.length : Int)) = true then (some false) else (z6z h y8f FUEL 0)) else (some false))) else (some false))) else (some false))
def z58 : Con := ⟨54, [.v (.s .house) false], [(.B, true)], [], fun x => zo2 x.1⟩
def wt8 : Fs := ⟨[z46, z39, z18, z0m, z37], [], []⟩
theorem w0d : wt8.Ok Tryz.prog := (fsK ys5 (fsK y0a (fsK y91 (fsK z0u (fsK y08 fs0)))))
def yi4 : Tmpl := ⟨[(1, .c (.bx 1 0)), (3, .c .i)], [(1, .boxT (.s .house))]⟩
def ya1 : Tmpl := ⟨[], []⟩
def w6y (av : AV) (x : HP z58.ps) (n : Nat) (v : yi4.den) (K : Ks (CR z58)) : Option (CR z58) := z6z v.2.1 (ya1.at none ((), ()) (K (.exit 0))) n v.1.2.1
def yf9 (av : AV) (x : HP z58.ps) : Hdl (CR z58) := hnd [] yi4 (w6y av x)
theorem w8n : LP z58 Tryz.f54 [0] yf9 := lp_ok (W := []) (H := []) (xs := [ya1]) w0d trivial rfl (fun av x v K => by kernel_rfl) (fun av x n v K => by kernel_rfl)
theorem w0u : z58.Ok Tryz.prog := fn_ok (k := z58) (fn := Tryz.f54) (W := []) (H := [yf9]) Tryz.func54 w0d ⟨w8n, trivial⟩ rfl rfl (fun av x => by kernel_rfl)
def zp9 (x2 : (List GNode)) (p0_0 : List Int) (l0_1 : List GNet) (l1_1 : List GRun) : Option GHouse := some (GHouse.mk l0_1 p0_0 x2 l1_1)
def z5y (h : GHouse) (kx1_0 : List GRun → Option GHouse) : Nat → Int → List GRun → Option GHouse
  | 0, _, _ => none
  | n1 + 1, s1_0, l1_1 => if decide (s1_0 < (h.runs.length : Int)) = true then ((getI h.runs s1_0).bind fun x9 => ((getI h.runs s1_0).bind fun x10 => ((z6c x10.case).bind fun x11 => (gd (l1_1.length + [(GRun.mk x9.net x11)].length ≤ SMALL) (gd (ok64 (s1_0 + 1)) ((z5y h kx1_0 n1) (s1_0 + 1) (l1_1 ++ [(GRun.mk x9.net x11)]))))))) else (kx1_0 l1_1)
def za4 (h : GHouse) (x2 : (List GNode)) (p0_0 : List Int) (l0_1 : List GNet) : Option GHouse := z5y h (zp9 x2 p0_0 l0_1) FUEL 0 ([] : List GRun)
def z5x (h : GHouse) (kx0_0 : List GNet → Option GHouse) : Nat → Int → List GNet → Option GHouse
  | 0, _, _ => none
  | n0 + 1, s0_0, l0_1 => if decide (s0_0 < (h.nets.length : Int)) = true then ((getI h.nets s0_0).bind fun x4 => ((z7v x4).bind fun x5 => (gd (l0_1.length + [x5].length ≤ SMALL) (gd (ok64 (s0_0 + 1)) ((z5x h kx0_0 n0) (s0_0 + 1) (l0_1 ++ [x5])))))) else (kx0_0 l0_1)
def zh1 (h : GHouse) : Option GHouse := gd (([] : List Int).length + h.people.length ≤ SMALL) ((zh0 h.tree).bind fun x2 => (z5x h (za4 h x2 (([] : List Int) ++ h.people)) FUEL 0 ([] : List GNet)))
def z12 : Con := ⟨135, [.v (.s .house) false], [((.s .house), true)], [], fun x => zh1 x.1⟩
def wg4 : Fs := ⟨[z45, z1u, z8x], [], []⟩
theorem y3o : wg4.Ok Tryz.prog := (fsK ys3 (fsK y5n (fsK zv0 fs0)))
def y9n : Tmpl := ⟨[(1, .c (.bx 1 0)), (2, .c (.bx 2 0)), (3, .c (.bx 3 0)), (4, .c .i)], [(1, .boxT (.s .house)), (2, .box [.nl, .nl, .nl, .nl]), (3, .box [.ref 510300, .ref 9, .ref 12, .nl]), (510300, .arr (.s .net) true), (9, .arr .I true), (12, .arr (.s .node) true)]⟩
def y6l : Tmpl := ⟨[(1, .c (.bx 1 0)), (2, .c (.bx 2 0)), (3, .c (.bx 3 0))], [(1, .boxT (.s .house)), (2, .box [.nl, .nl, .nl, .nl]), (3, .box [.ref 510300, .ref 9, .ref 12, .nl]), (510300, .arr (.s .net) true), (9, .arr .I true), (12, .arr (.s .node) true)]⟩
def w3o (av : AV) (x : HP z12.ps) (n : Nat) (v : y9n.den) (K : Ks (CR z12)) : Option (CR z12) := z5x v.2.1 (fun l0_1 => y6l.at none (((), (), (), ()), (v.2.1, ((), (), (), (), ()), ((), (), (), (), ()), l0_1, v.2.2.2.2.2.1, v.2.2.2.2.2.2.1, ())) (K (.exit 0))) n v.1.2.2.2.1 v.2.2.2.2.1
def y7r (av : AV) (x : HP z12.ps) : Hdl (CR z12) := hnd [.b 3 0 510300 (.s .net)] y9n (w3o av x)
theorem w5f : LP z12 Tryz.f135 [0] y7r := lp_ok (W := []) (H := []) (xs := [y6l]) y3o trivial rfl (fun av x v K => by kernel_rfl) (fun av x n v K => by kernel_rfl)
def y9o : Tmpl := ⟨[(1, .c (.bx 1 0)), (2, .c (.bx 2 0)), (3, .c (.bx 3 0)), (5, .c .i)], [(1, .boxT (.s .house)), (2, .box [.nl, .nl, .nl, .nl]), (3, .box [.ref 510300, .ref 9, .ref 12, .ref 510303]), (510300, .arr (.s .net) true), (9, .arr .I true), (12, .arr (.s .node) true), (510303, .arr (.s .run) true)]⟩
def y6m : Tmpl := ⟨[(2, .c (.bx 2 0)), (3, .c (.bx 3 0))], [(2, .box [.nl, .nl, .nl, .nl]), (3, .box [.ref 510300, .ref 9, .ref 12, .ref 510303]), (510300, .arr (.s .net) true), (9, .arr .I true), (12, .arr (.s .node) true), (510303, .arr (.s .run) true)]⟩
def w3p (av : AV) (x : HP z12.ps) (n : Nat) (v : y9o.den) (K : Ks (CR z12)) : Option (CR z12) := z5y v.2.1 (fun l1_1 => y6m.at none (((), (), ()), (((), (), (), (), ()), ((), (), (), (), ()), v.2.2.2.2.1, v.2.2.2.2.2.1, v.2.2.2.2.2.2.1, l1_1, ())) (K (.exit 2))) n v.1.2.2.2.1 v.2.2.2.2.2.2.2.1
def y7s (av : AV) (x : HP z12.ps) : Hdl (CR z12) := hnd [.b 3 3 510303 (.s .run)] y9o (w3p av x)
theorem w5g : LP z12 Tryz.f135 [1] y7s := lp_ok (W := []) (H := []) (xs := [y6m]) y3o trivial rfl (fun av x v K => by kernel_rfl) (fun av x n v K => by kernel_rfl)
theorem ys4 : z12.Ok Tryz.prog := fn_ok (k := z12) (fn := Tryz.f135) (W := []) (H := [y7r, y7s]) Tryz.func135 y3o ⟨w5f, w5g, trivial⟩ rfl rfl (fun av x => by kernel_rfl)
def zu8 (r : GReq) : Option GReq := if decide (r.kind = 1) = true then (some (GReq.mk r.kind 0 0 0 0 0 r.data (GAsk.mk 0 0 0) 0)) else (if decide (r.kind = 2) = true then (some (GReq.mk r.kind r.who r.case r.task 0 0 [] (GAsk.mk 0 0 0) 0)) else (if decide (r.kind = 3) = true then (some (GReq.mk r.kind 0 r.case r.task r.var r.num [] (GAsk.mk 0 0 0) 0)) else (if decide (r.kind = 4) = true then (some (GReq.mk r.kind 0 r.case 0 0 0 [] (GAsk.mk 0 0 0) 0)) else (if decide (r.kind = 5) = true then (some (GReq.mk r.kind 0 0 0 0 0 r.data r.if_ r.ans)) else (some (GReq.mk r.kind 0 0 0 0 0 [] (GAsk.mk 0 0 0) 0))))))
def y45 : Con := ⟨137, [.v (.s .req) false], [((.s .req), false)], [], fun x => zu8 x.1⟩
def wg5 : Fs := ⟨[], [], []⟩
theorem wj1 : wg5.Ok Tryz.prog := fs0
theorem wn5 : y45.Ok Tryz.prog := fn_ok (k := y45) (fn := Tryz.f137) (W := []) (H := []) Tryz.func137 wj1 trivial rfl rfl (fun av x => by kernel_rfl)
def z4s (a : GReq) (b : GReq) : Option Bool := if decide (a.kind = b.kind) = true then (if decide (a.who = b.who) = true then (if decide (a.case = b.case) = true then (if decide (a.task = b.task) = true then (if decide (a.var = b.var) = true then (if decide (a.num = b.num) = true then (if decide ([a.if_.op, a.if_.var, a.if_.k] = [b.if_.op, b.if_.var, b.if_.k]) = true then (some (decide (a.ans = b.ans))) else (some false)) else (some false)) else (some false)) else (some false)) else (some false)) else (some false)) else (some false)
def z3e (a : GReq) (b : GReq) (kx0_0 : Option Bool) : Nat → Int → Option Bool
  | 0, _ => none
  | n0 + 1, s0_0 => if decide (s0_0 < (a.data.length : Int)) = true then ((getI a.data s0_0).bind fun x3 => ((getI b.data s0_0).bind fun x4 => (if decide (x3 = x4) = true then (gd (ok64 (s0_0 + 1)) ((z3e a b kx0_0 n0) (s0_0 + 1))) else (some false)))) else (kx0_0)
def zu9 (a : GReq) (b : GReq) : Option Bool := if decide ((a.data.length : Int) = (b.data.length : Int)) = true then (z3e a b (z4s a b) FUEL 0) else (some false)
def z52 : Con := ⟨136, [.v (.s .req) false, .v (.s .req) false], [(.B, true)], [], fun x => zu9 x.1 x.2.1⟩
def wg7 : Fs := ⟨[], [], []⟩
theorem yp9 : wg7.Ok Tryz.prog := fs0
def y9q : Tmpl := ⟨[(2, .c (.bx 2 0)), (3, .c (.bx 3 0)), (5, .c .i)], [(2, .boxT (.s .req)), (3, .boxT (.s .req))]⟩
def y6o : Tmpl := ⟨[(2, .c (.bx 2 0)), (3, .c (.bx 3 0))], [(2, .boxT (.s .req)), (3, .boxT (.s .req))]⟩
def w3r (av : AV) (x : HP z52.ps) (n : Nat) (v : y9q.den) (K : Ks (CR z52)) : Option (CR z52) := z3e v.2.1 v.2.2.1 (y6o.at none (((), (), ()), (v.2.1, v.2.2.1, ())) (K (.exit 0))) n v.1.2.2.1
def y7u (av : AV) (x : HP z52.ps) : Hdl (CR z52) := hnd [] y9q (w3r av x)
theorem w5i : LP z52 Tryz.f136 [0] y7u := lp_ok (W := []) (H := []) (xs := [y6o]) yp9 trivial rfl (fun av x v K => by kernel_rfl) (fun av x n v K => by kernel_rfl)
theorem wn6 : z52.Ok Tryz.prog := fn_ok (k := z52) (fn := Tryz.f136) (W := []) (H := [y7u]) Tryz.func136 yp9 ⟨w5i, trivial⟩ rfl rfl (fun av x => by kernel_rfl)
def z70 (r : GReq) : Option Bool := (z03 r.kind 1 5).bind fun x1 => (if x1 = true then ((zu8 r).bind fun x3 => ((zu9 r x3).bind fun x4 => (if x4 = true then ((z03 r.who 0 4).bind fun x6 => (if x6 = true then ((z03 r.case 0 4).bind fun x8 => (if x8 = true then ((z03 r.task 0 5).bind fun x10 => (if x10 = true then ((z03 r.var (-1) 2).bind fun x12 => (if x12 = true then ((z03 r.num (-99) 99).bind fun x14 => (if x14 = true then ((z69 r.if_).bind fun x16 => (if x16 = true then ((z03 r.ans 0 2).bind fun x18 => (if x18 = true then (if decide (r.kind = 1) = true then ((z2n r.data).bind fun x21 => (some (true == x21))) else ((z2n r.data).bind fun x22 => (some ((decide (r.kind = 5)) == x22)))) else (some false))) else (some false))) else (some false))) else (some false))) else (some false))) else (some false))) else (some false))) else (some false)))) else (some false))
def z8g : Con := ⟨63, [.v (.s .req) false], [(.B, true)], [], fun x => z70 x.1⟩
def w47 : Fs := ⟨[z0m, y45, z52, z8h, z17], [], []⟩
theorem w4r : w47.Ok Tryz.prog := (fsK z0u (fsK wn5 (fsK wn6 (fsK zo4 (fsK z6e fs0)))))
theorem zx5 : z8g.Ok Tryz.prog := fn_ok (k := z8g) (fn := Tryz.f63) (W := []) (H := []) Tryz.func63 w4r trivial rfl rfl (fun av x => by kernel_rfl)
def zu7 (h : GHouse) (r : GReq) : Option (GHouse × Int) := if decide ((h.runs.length : Int) ≤ r.case) = true then (some (h, 2)) else ((getI h.runs r.case).bind fun x2 => ((getI h.nets x2.net).bind fun x3 => (if decide (r.kind = 2) = true then ((z6x x3 h.people x2.case r.task r.who).bind fun x5 => (if x5.2 = true then ((getI h.runs r.case).bind fun x7 => (some ((GHouse.mk h.nets h.people h.tree (h.runs.set r.case.toNat (GRun.mk x7.net x5.1))), 1))) else (some (h, 3)))) else (if decide (r.kind = 3) = true then ((z9p x3 x2.case r.task r.var r.num).bind fun x9 => (if x9.2 = true then ((getI h.runs r.case).bind fun x11 => (some ((GHouse.mk h.nets h.people h.tree (h.runs.set r.case.toNat (GRun.mk x11.net x9.1))), 1))) else (some (h, 3)))) else ((zl8 x3 x2.case).bind fun x12 => (if x12.2 = true then ((getI h.runs r.case).bind fun x14 => (some ((GHouse.mk h.nets h.people h.tree (h.runs.set r.case.toNat (GRun.mk x14.net x12.1))), 1))) else (some (h, 3))))))))
def y43 : Con := ⟨188, [.v (.s .house) true, .v (.s .req) false], [((.s .house), true), (.I, true)], [], fun x => zu7 x.1 x.2.1⟩
def wg3 : Fs := ⟨[ze1, zl3, y0y], [], []⟩
theorem wj0 : wg3.Ok Tryz.prog := (fsK y8z (fsK yh0 (fsK w97 fs0)))
theorem wn4 : y43.Ok Tryz.prog := fn_ok (k := y43) (fn := Tryz.f188) (W := []) (H := []) Tryz.func188 wj0 trivial rfl rfl (fun av x => by kernel_rfl)
def zx3 (h : GHouse) (r : GReq) : Option (GHouse × Int) := if decide (r.kind = 1) = true then (if decide ((h.runs.length : Int) = 5) = true then (some (h, 4)) else ((zu2 h.tree r.data).bind fun x3 => (if decide ((h.nets.length : Int) ≤ x3) = true then ((getI h.nets 0).bind fun x5 => ((z94 x5 r.data).bind fun x6 => (gd (h.runs.length + [(GRun.mk 0 x6)].length ≤ SMALL) (some ((GHouse.mk h.nets h.people h.tree (h.runs ++ [(GRun.mk 0 x6)])), 1))))) else ((getI h.nets x3).bind fun x8 => ((z94 x8 r.data).bind fun x9 => (gd (h.runs.length + [(GRun.mk x3 x9)].length ≤ SMALL) (some ((GHouse.mk h.nets h.people h.tree (h.runs ++ [(GRun.mk x3 x9)])), 1)))))))) else (if decide (r.kind = 5) = true then ((z7k h.tree r.data r.if_ r.ans).bind fun x12 => (if x12.2 = true then (some ((GHouse.mk h.nets h.people x12.1 h.runs), 1)) else (some (h, 3)))) else ((zu7 h r).bind fun x14 => (some (x14.1, x14.2))))
def y44 : Con := ⟨134, [.v (.s .house) true, .v (.s .req) false], [((.s .house), true), (.I, true)], [], fun x => zx3 x.1 x.2.1⟩
def v1f : Fs := ⟨[y3z, zs3, z3y, y43], [], []⟩
theorem v1j : v1f.Ok Tryz.prog := (fsK wm9 (fsK yr6 (fsK ys0 (fsK wn4 fs0))))
theorem w5u : y44.Ok Tryz.prog := fn_ok (k := y44) (fn := Tryz.f134) (W := []) (H := []) Tryz.func134 v1j trivial rfl rfl (fun av x => by kernel_rfl)
def y01 (h : GHouse) (r : GReq) : Option (GHouse × Int) := (zo2 h).bind fun x1 => (if x1 = true then ((z70 r).bind fun x3 => (if x3 = true then ((zh1 h).bind fun x5 => ((zx3 x5 r).bind fun x6 => (some (x6.1, x6.2)))) else (some ((GHouse.mk [] [] [] []), 0)))) else (some ((GHouse.mk [] [] [] []), 0)))
def y80 : Con := ⟨60, [.v (.s .house) false, .v (.s .req) false], [((.s .house), true), (.I, true)], [], fun x => y01 x.1 x.2.1⟩
def wt7 : Fs := ⟨[z58, z8g, z12, y44], [], []⟩
theorem wv8 : wt7.Ok Tryz.prog := (fsK w0u (fsK zx5 (fsK ys4 (fsK w5u fs0))))
theorem wz2 : y80.Ok Tryz.prog := fn_ok (k := y80) (fn := Tryz.f60) (W := []) (H := []) Tryz.func60 wv8 trivial rfl rfl (fun av x => by kernel_rfl)
def z6p (x1 : (List Int)) (x2 : (List GNode)) (l0_1 : List GNet) (l1_1 : List GRun) : Option GHouse := some (GHouse.mk l0_1 x1 x2 l1_1)
def z1l (p1_0 : List GRun) (p1_1 : Int) (kx1_0 : List GRun → Option GHouse) : Nat → Int → List GRun → Option GHouse
  | 0, _, _ => none
  | n1 + 1, s1_0, l1_1 => if decide (s1_0 < p1_1) = true then ((getI p1_0 s1_0).bind fun x9 => ((z08 x9.case).bind fun x10 => (gd (l1_1.length + [(GRun.mk x9.net x10)].length ≤ SMALL) (gd (ok64 (s1_0 + 1)) ((z1l p1_0 p1_1 kx1_0 n1) (s1_0 + 1) (l1_1 ++ [(GRun.mk x9.net x10)])))))) else (kx1_0 l1_1)
def z4h (h : GHouse) (x1 : (List Int)) (x2 : (List GNode)) (l0_1 : List GNet) : Option GHouse := z1l h.runs (h.runs.length : Int) (z6p x1 x2 l0_1) FUEL 0 ([] : List GRun)
def z1k (p0_0 : List GNet) (p0_1 : Int) (kx0_0 : List GNet → Option GHouse) : Nat → Int → List GNet → Option GHouse
  | 0, _, _ => none
  | n0 + 1, s0_0, l0_1 => if decide (s0_0 < p0_1) = true then ((getI p0_0 s0_0).bind fun x4 => ((z7f x4).bind fun x5 => (gd (l0_1.length + [x5].length ≤ SMALL) (gd (ok64 (s0_0 + 1)) ((z1k p0_0 p0_1 kx0_0 n0) (s0_0 + 1) (l0_1 ++ [x5])))))) else (kx0_0 l0_1)
def z2m (h : GHouse) : Option GHouse := (z0l h.people).bind fun x1 => ((z6t h.tree).bind fun x2 => (z1k h.nets (h.nets.length : Int) (z4h h x1 x2) FUEL 0 ([] : List GNet)))
def z09 : Con := ⟨132, [.v (.s .house) false], [((.s .house), true)], [], fun x => z2m x.1⟩
def y6y : Fs := ⟨[z1s, z1e, z19, z31], [], []⟩
theorem z8b : y6y.Ok Tryz.prog := (fsK z3f (fsK y2e (fsK ym1 (fsK z6m fs0))))
def zh8 : Tmpl := ⟨[(1, .c (.bx 1 0)), (2, .c (.bx 2 0)), (3, .c (.bx 3 0)), (16, .c (.s (.s .net))), (17, .c .i), (18, .c .i)], [(1, .boxT (.s .house)), (2, .box [.nl, .nl, .nl, .nl]), (3, .box [.ref 510300, .ref 10, .ref 13, .nl]), (510300, .arr (.s .net) true), (10, .arr .I true), (13, .arr (.s .node) true)]⟩
def zc0 : Tmpl := ⟨[(1, .c (.bx 1 0)), (2, .c (.bx 2 0)), (3, .c (.bx 3 0))], [(1, .boxT (.s .house)), (2, .box [.nl, .nl, .nl, .nl]), (3, .box [.ref 510300, .ref 10, .ref 13, .nl]), (510300, .arr (.s .net) true), (10, .arr .I true), (13, .arr (.s .node) true)]⟩
def y3b (av : AV) (x : HP z09.ps) (n : Nat) (v : zh8.den) (K : Ks (CR z09)) : Option (CR z09) := z1k v.1.2.2.2.1 v.1.2.2.2.2.1 (fun l0_1 => zc0.at none (((), (), (), ()), (v.2.1, ((), (), (), (), ()), ((), (), (), (), ()), l0_1, v.2.2.2.2.2.1, v.2.2.2.2.2.2.1, ())) (K (.exit 0))) n v.1.2.2.2.2.2.1 v.2.2.2.2.1
def zc9 (av : AV) (x : HP z09.ps) : Hdl (CR z09) := hnd [.b 3 0 510300 (.s .net)] zh8 (y3b av x)
theorem y46 : LP z09 Tryz.f132 [0] zc9 := lp_ok (W := []) (H := []) (xs := [zc0]) z8b trivial rfl (fun av x v K => by kernel_rfl) (fun av x n v K => by kernel_rfl)
def zh9 : Tmpl := ⟨[(2, .c (.bx 2 0)), (3, .c (.bx 3 0)), (31, .c (.s (.s .run))), (32, .c .i), (33, .c .i)], [(2, .box [.nl, .nl, .nl, .nl]), (3, .box [.ref 510300, .ref 10, .ref 13, .ref 510303]), (510300, .arr (.s .net) true), (10, .arr .I true), (13, .arr (.s .node) true), (510303, .arr (.s .run) true)]⟩
def zc1 : Tmpl := ⟨[(2, .c (.bx 2 0)), (3, .c (.bx 3 0))], [(2, .box [.nl, .nl, .nl, .nl]), (3, .box [.ref 510300, .ref 10, .ref 13, .ref 510303]), (510300, .arr (.s .net) true), (10, .arr .I true), (13, .arr (.s .node) true), (510303, .arr (.s .run) true)]⟩
def y3c (av : AV) (x : HP z09.ps) (n : Nat) (v : zh9.den) (K : Ks (CR z09)) : Option (CR z09) := z1l v.1.2.2.1 v.1.2.2.2.1 (fun l1_1 => zc1.at none (((), (), ()), (((), (), (), (), ()), ((), (), (), (), ()), v.2.2.2.1, v.2.2.2.2.1, v.2.2.2.2.2.1, l1_1, ())) (K (.exit 2))) n v.1.2.2.2.2.1 v.2.2.2.2.2.2.1
def zd0 (av : AV) (x : HP z09.ps) : Hdl (CR z09) := hnd [.b 3 3 510303 (.s .run)] zh9 (y3c av x)
theorem y47 : LP z09 Tryz.f132 [1] zd0 := lp_ok (W := []) (H := []) (xs := [zc1]) z8b trivial rfl (fun av x v K => by kernel_rfl) (fun av x n v K => by kernel_rfl)
theorem y8r : z09.Ok Tryz.prog := fn_ok (k := z09) (fn := Tryz.f132) (W := []) (H := [zc9, zd0]) Tryz.func132 z8b ⟨y46, y47, trivial⟩ rfl rfl (fun av x => by kernel_rfl)
def y5b  : Option Int := some (-1)
def z5n (s : List Int) (p : Int → Option Bool) (p0_0 : Int) (kx0_0 : Option Int) : Nat → Int → Option Int
  | 0, _ => none
  | n0 + 1, s0_0 => if decide (s0_0 < p0_0) = true then ((getI s s0_0).bind fun x2 => ((p x2).bind fun x3 => (if x3 = true then (some s0_0) else (gd (ok64 (s0_0 + 1)) ((z5n s p p0_0 kx0_0 n0) (s0_0 + 1)))))) else (kx0_0)
def zs7 (s : List Int) (p : Int → Option Bool) : Option Int := z5n s p (s.length : Int) y5b FUEL 0
def z3u : Con := ⟨175, [.v (.sl .I) false, .fn .I], [(.I, true)], [], fun x => zs7 x.1 x.2.1⟩
def wc7 : Fs := ⟨[], [], []⟩
theorem yo2 : wc7.Ok Tryz.prog := fs0
def y98 : Tmpl := ⟨[(0, .c (.s .I)), (1, .c .fp), (7, .c .i), (8, .c .i)], []⟩
def y67 : Tmpl := ⟨[], []⟩
def w39 (av : AV) (x : HP z3u.ps) (n : Nat) (v : y98.den) (K : Ks (CR z3u)) : Option (CR z3u) := z5n v.1.1 x.2.1 v.1.2.2.1 (y67.at (fpOf z3u.ps x av) ((), ()) (K (.exit 0))) n v.1.2.2.2.1
def y7c (av : AV) (x : HP z3u.ps) : Hdl (CR z3u) := hnd [] y98 (w39 av x)
theorem w50 : LP z3u Tryz.f175 [0] y7c := lp_ok (W := []) (H := []) (xs := [y67]) yo2 trivial rfl (fun av x v K => by kernel_rfl) (fun av x n v K => by kernel_rfl)
theorem wl2 : z3u.Ok Tryz.prog := fn_ok (k := z3u) (fn := Tryz.f175) (W := []) (H := [y7c]) Tryz.func175 yo2 ⟨w50, trivial⟩ rfl rfl (fun av x => by kernel_rfl)
def z2e (s : List Int) (p : Int → Option Bool) : Option Bool := (zs7 s p).bind fun x1 => (some (decide (0 ≤ x1)))
def z4o : Con := ⟨118, [.v (.sl .I) false, .fn .I], [(.B, true)], [], fun x => z2e x.1 x.2.1⟩
def w1q : Fs := ⟨[z3u], [], []⟩
theorem w1y : w1q.Ok Tryz.prog := (fsK wl2 fs0)
theorem z7w : z4o.Ok Tryz.prog := fn_ok (k := z4o) (fn := Tryz.f118) (W := []) (H := []) Tryz.func118 w1y trivial rfl rfl (fun av x => by kernel_rfl)
def zq7  : Option Int := some (-1)
def z33 (s : List GTask) (p : GTask → Option Bool) (p0_0 : Int) (kx0_0 : Option Int) : Nat → Int → Option Int
  | 0, _ => none
  | n0 + 1, s0_0 => if decide (s0_0 < p0_0) = true then ((getI s s0_0).bind fun x2 => ((p x2).bind fun x3 => (if x3 = true then (some s0_0) else (gd (ok64 (s0_0 + 1)) ((z33 s p p0_0 kx0_0 n0) (s0_0 + 1)))))) else (kx0_0)
def z8z (s : List GTask) (p : GTask → Option Bool) : Option Int := z33 s p (s.length : Int) zq7 FUEL 0
def z1d : Con := ⟨176, [.v (.sl (.s .task)) false, .fn (.s .task)], [(.I, true)], [], fun x => z8z x.1 x.2.1⟩
def yw0 : Fs := ⟨[], [], []⟩
theorem y1m : yw0.Ok Tryz.prog := fs0
def zx9 : Tmpl := ⟨[(0, .c (.s (.s .task))), (1, .c .fp), (7, .c .i), (8, .c .i)], []⟩
def zr2 : Tmpl := ⟨[], []⟩
def yj2 (av : AV) (x : HP z1d.ps) (n : Nat) (v : zx9.den) (K : Ks (CR z1d)) : Option (CR z1d) := z33 v.1.1 x.2.1 v.1.2.2.1 (zr2.at (fpOf z1d.ps x av) ((), ()) (K (.exit 0))) n v.1.2.2.2.1
def zv9 (av : AV) (x : HP z1d.ps) : Hdl (CR z1d) := hnd [] zx9 (yj2 av x)
theorem yl0 : LP z1d Tryz.f176 [0] zv9 := lp_ok (W := []) (H := []) (xs := [zr2]) y1m trivial rfl (fun av x v K => by kernel_rfl) (fun av x n v K => by kernel_rfl)
theorem yz0 : z1d.Ok Tryz.prog := fn_ok (k := z1d) (fn := Tryz.f176) (W := []) (H := [zv9]) Tryz.func176 y1m ⟨yl0, trivial⟩ rfl rfl (fun av x => by kernel_rfl)
def z6j (s : List GTask) (p : GTask → Option Bool) : Option Bool := (z8z s p).bind fun x1 => (some (decide (0 ≤ x1)))
def z9f : Con := ⟨123, [.v (.sl (.s .task)) false, .fn (.s .task)], [(.B, true)], [], fun x => z6j x.1 x.2.1⟩
def yc5 : Fs := ⟨[z1d], [], []⟩
theorem yd1 : yc5.Ok Tryz.prog := (fsK yz0 fs0)
theorem yd6 : z9f.Ok Tryz.prog := fn_ok (k := z9f) (fn := Tryz.f123) (W := []) (H := []) Tryz.func123 yd1 trivial rfl rfl (fun av x => by kernel_rfl)
def zw9  : Option Int := some (-1)
def z3j (s : List GNet) (p : GNet → Option Bool) (p0_0 : Int) (kx0_0 : Option Int) : Nat → Int → Option Int
  | 0, _ => none
  | n0 + 1, s0_0 => if decide (s0_0 < p0_0) = true then ((getI s s0_0).bind fun x2 => ((p x2).bind fun x3 => (if x3 = true then (some s0_0) else (gd (ok64 (s0_0 + 1)) ((z3j s p p0_0 kx0_0 n0) (s0_0 + 1)))))) else (kx0_0)
def z9y (s : List GNet) (p : GNet → Option Bool) : Option Int := z3j s p (s.length : Int) zw9 FUEL 0
def z1r : Con := ⟨180, [.v (.sl (.s .net)) false, .fn (.s .net)], [(.I, true)], [], fun x => z9y x.1 x.2.1⟩
def w1r : Fs := ⟨[], [], []⟩
theorem y4q : w1r.Ok Tryz.prog := fs0
def y0c : Tmpl := ⟨[(0, .c (.s (.s .net))), (1, .c .fp), (7, .c .i), (8, .c .i)], []⟩
def zy5 : Tmpl := ⟨[], []⟩
def ym8 (av : AV) (x : HP z1r.ps) (n : Nat) (v : y0c.den) (K : Ks (CR z1r)) : Option (CR z1r) := z3j v.1.1 x.2.1 v.1.2.2.1 (zy5.at (fpOf z1r.ps x av) ((), ()) (K (.exit 0))) n v.1.2.2.2.1
def zz2 (av : AV) (x : HP z1r.ps) : Hdl (CR z1r) := hnd [] y0c (ym8 av x)
theorem yq4 : LP z1r Tryz.f180 [0] zz2 := lp_ok (W := []) (H := []) (xs := [zy5]) y4q trivial rfl (fun av x v K => by kernel_rfl) (fun av x n v K => by kernel_rfl)
theorem w2n : z1r.Ok Tryz.prog := fn_ok (k := z1r) (fn := Tryz.f180) (W := []) (H := [zz2]) Tryz.func180 y4q ⟨yq4, trivial⟩ rfl rfl (fun av x => by kernel_rfl)
def z7d (s : List GNet) (p : GNet → Option Bool) : Option Bool := (z9y s p).bind fun x1 => (some (decide (0 ≤ x1)))
def za6 : Con := ⟨126, [.v (.sl (.s .net)) false, .fn (.s .net)], [(.B, true)], [], fun x => z7d x.1 x.2.1⟩
def yj9 : Fs := ⟨[z1r], [], []⟩
theorem yk3 : yj9.Ok Tryz.prog := (fsK w2n fs0)
theorem yl9 : za6.Ok Tryz.prog := fn_ok (k := za6) (fn := Tryz.f126) (W := []) (H := []) Tryz.func126 yk3 trivial rfl rfl (fun av x => by kernel_rfl)
def zq6  : Option Int := some (-1)
def z32 (s : List GItem) (p : GItem → Option Bool) (p0_0 : Int) (kx0_0 : Option Int) : Nat → Int → Option Int
  | 0, _ => none
  | n0 + 1, s0_0 => if decide (s0_0 < p0_0) = true then ((getI s s0_0).bind fun x2 => ((p x2).bind fun x3 => (if x3 = true then (some s0_0) else (gd (ok64 (s0_0 + 1)) ((z32 s p p0_0 kx0_0 n0) (s0_0 + 1)))))) else (kx0_0)
def z8y (s : List GItem) (p : GItem → Option Bool) : Option Int := z32 s p (s.length : Int) zq6 FUEL 0
def z1c : Con := ⟨169, [.v (.sl (.s .item)) false, .fn (.s .item)], [(.I, true)], [], fun x => z8y x.1 x.2.1⟩
def yv9 : Fs := ⟨[], [], []⟩
theorem y1l : yv9.Ok Tryz.prog := fs0
def zx8 : Tmpl := ⟨[(0, .c (.s (.s .item))), (1, .c .fp), (7, .c .i), (8, .c .i)], []⟩
def zr1 : Tmpl := ⟨[], []⟩
def yj1 (av : AV) (x : HP z1c.ps) (n : Nat) (v : zx8.den) (K : Ks (CR z1c)) : Option (CR z1c) := z32 v.1.1 x.2.1 v.1.2.2.1 (zr1.at (fpOf z1c.ps x av) ((), ()) (K (.exit 0))) n v.1.2.2.2.1
def zv8 (av : AV) (x : HP z1c.ps) : Hdl (CR z1c) := hnd [] zx8 (yj1 av x)
theorem yk9 : LP z1c Tryz.f169 [0] zv8 := lp_ok (W := []) (H := []) (xs := [zr1]) y1l trivial rfl (fun av x v K => by kernel_rfl) (fun av x n v K => by kernel_rfl)
theorem yy9 : z1c.Ok Tryz.prog := fn_ok (k := z1c) (fn := Tryz.f169) (W := []) (H := [zv8]) Tryz.func169 y1l ⟨yk9, trivial⟩ rfl rfl (fun av x => by kernel_rfl)
def z6i (s : List GItem) (p : GItem → Option Bool) : Option Bool := (z8y s p).bind fun x1 => (some (decide (0 ≤ x1)))
def z9e : Con := ⟨107, [.v (.sl (.s .item)) false, .fn (.s .item)], [(.B, true)], [], fun x => z6i x.1 x.2.1⟩
def yc4 : Fs := ⟨[z1c], [], []⟩
theorem yd0 : yc4.Ok Tryz.prog := (fsK yy9 fs0)
theorem yd5 : z9e.Ok Tryz.prog := fn_ok (k := z9e) (fn := Tryz.f107) (W := []) (H := []) Tryz.func107 yd0 trivial rfl rfl (fun av x => by kernel_rfl)
def w0p  : Option Int := some (-1)
def zb5 (s : List Int) (v : Int) (p0_0 : Int) (kx0_0 : Option Int) : Nat → Int → Option Int
  | 0, _ => none
  | n0 + 1, s0_0 => if decide (s0_0 < p0_0) = true then ((getI s s0_0).bind fun x2 => (if decide (v = x2) = true then (some s0_0) else (gd (ok64 (s0_0 + 1)) ((zb5 s v p0_0 kx0_0 n0) (s0_0 + 1))))) else (kx0_0)
def yq9 (s : List Int) (v : Int) : Option Int := zb5 s v (s.length : Int) w0p FUEL 0
def zd7 : Con := ⟨163, [.v (.sl .I) false, .v .I false], [(.I, true)], [], fun x => yq9 x.1 x.2.1⟩
def v5z : Fs := ⟨[], [], []⟩
theorem wv1 : v5z.Ok Tryz.prog := fs0
def w6k : Tmpl := ⟨[(0, .c (.s .I)), (1, .c .i), (7, .c .i), (8, .c .i)], []⟩
def w15 : Tmpl := ⟨[], []⟩
def v13 (av : AV) (x : HP zd7.ps) (n : Nat) (v : w6k.den) (K : Ks (CR zd7)) : Option (CR zd7) := zb5 v.1.1 v.1.2.1 v.1.2.2.1 (w15.at none ((), ()) (K (.exit 0))) n v.1.2.2.2.1
def w4u (av : AV) (x : HP zd7.ps) : Hdl (CR zd7) := hnd [] w6k (v13 av x)
theorem v1u : LP zd7 Tryz.f163 [0] w4u := lp_ok (W := []) (H := []) (xs := [w15]) wv1 trivial rfl (fun av x v K => by kernel_rfl) (fun av x n v K => by kernel_rfl)
theorem v77 : zd7.Ok Tryz.prog := fn_ok (k := zd7) (fn := Tryz.f163) (W := []) (H := [w4u]) Tryz.func163 wv1 ⟨v1u, trivial⟩ rfl rfl (fun av x => by kernel_rfl)
def zb3 (s : List Int) (v : Int) : Option Bool := (yq9 s v).bind fun x1 => (some (decide (0 ≤ x1)))
def zn3 : Con := ⟨92, [.v (.sl .I) false, .v .I false], [(.B, true)], [], fun x => zb3 x.1 x.2.1⟩
def ws1 : Fs := ⟨[zd7], [], []⟩
theorem wu9 : ws1.Ok Tryz.prog := (fsK v77 fs0)
theorem y8q : zn3.Ok Tryz.prog := fn_ok (k := zn3) (fn := Tryz.f92) (W := []) (H := []) Tryz.func92 wu9 trivial rfl rfl (fun av x => by kernel_rfl)
def y88  : Option Int := some (-1)
def z6n (s : List GDid) (v : GDid) (p0_0 : Int) (kx0_0 : Option Int) : Nat → Int → Option Int
  | 0, _ => none
  | n0 + 1, s0_0 => if decide (s0_0 < p0_0) = true then ((getI s s0_0).bind fun x2 => (if decide ([v.task, v.who] = [x2.task, x2.who]) = true then (some s0_0) else (gd (ok64 (s0_0 + 1)) ((z6n s v p0_0 kx0_0 n0) (s0_0 + 1))))) else (kx0_0)
def zz7 (s : List GDid) (v : GDid) : Option Int := z6n s v (s.length : Int) y88 FUEL 0
def z60 : Con := ⟨204, [.v (.sl (.s .did)) false, .v (.s .did) false], [(.I, true)], [], fun x => zz7 x.1 x.2.1⟩
def ws2 : Fs := ⟨[], [], []⟩
theorem w05 : ws2.Ok Tryz.prog := fs0
def yh4 : Tmpl := ⟨[(0, .c (.s (.s .did))), (3, .c (.bx 3 0)), (7, .c .i), (8, .c .i)], [(3, .boxT (.s .did))]⟩
def y9r : Tmpl := ⟨[], []⟩
def w6o (av : AV) (x : HP z60.ps) (n : Nat) (v : yh4.den) (K : Ks (CR z60)) : Option (CR z60) := z6n v.1.1 v.2.1 v.1.2.2.1 (y9r.at none ((), ()) (K (.exit 0))) n v.1.2.2.2.1
def ye9 (av : AV) (x : HP z60.ps) : Hdl (CR z60) := hnd [] yh4 (w6o av x)
theorem w8d : LP z60 Tryz.f204 [0] ye9 := lp_ok (W := []) (H := []) (xs := [y9r]) w05 trivial rfl (fun av x v K => by kernel_rfl) (fun av x n v K => by kernel_rfl)
theorem wy8 : z60.Ok Tryz.prog := fn_ok (k := z60) (fn := Tryz.f204) (W := []) (H := [ye9]) Tryz.func204 w05 ⟨w8d, trivial⟩ rfl rfl (fun av x => by kernel_rfl)
def zw8 (s : List GDid) (v : GDid) : Option Bool := (zz7 s v).bind fun x1 => (some (decide (0 ≤ x1)))
def zw5 : Con := ⟨170, [.v (.sl (.s .did)) false, .v (.s .did) false], [(.B, true)], [], fun x => zw8 x.1 x.2.1⟩
def w3y : Fs := ⟨[z60], [], []⟩
theorem w4j : w3y.Ok Tryz.prog := (fsK wy8 fs0)
theorem w5k : zw5.Ok Tryz.prog := fn_ok (k := zw5) (fn := Tryz.f170) (W := []) (H := []) Tryz.func170 w4j trivial rfl rfl (fun av x => by kernel_rfl)
def w0o  : Option Bool := some true
def zb4 (s1 : List Int) (s2 : List Int) (p0_0 : Int) (kx0_0 : Option Bool) : Nat → Int → Option Bool
  | 0, _ => none
  | n0 + 1, s0_0 => if decide (s0_0 < p0_0) = true then ((getI s1 s0_0).bind fun x3 => ((getI s2 s0_0).bind fun x4 => (if decide (x3 = x4) = true then (gd (ok64 (s0_0 + 1)) ((zb4 s1 s2 p0_0 kx0_0 n0) (s0_0 + 1))) else (some false)))) else (kx0_0)
def yq8 (s1 : List Int) (s2 : List Int) : Option Bool := if decide ((s1.length : Int) = (s2.length : Int)) = true then (zb4 s1 s2 (s1.length : Int) w0o FUEL 0) else (some false)
def zd6 : Con := ⟨192, [.v (.sl .I) false, .v (.sl .I) false], [(.B, true)], [], fun x => yq8 x.1 x.2.1⟩
def v5y : Fs := ⟨[], [], []⟩
theorem wv0 : v5y.Ok Tryz.prog := fs0
def w6j : Tmpl := ⟨[(0, .c (.s .I)), (1, .c (.s .I)), (12, .c .i), (13, .c .i)], []⟩
def w14 : Tmpl := ⟨[], []⟩
def v12 (av : AV) (x : HP zd6.ps) (n : Nat) (v : w6j.den) (K : Ks (CR zd6)) : Option (CR zd6) := zb4 v.1.1 v.1.2.1 v.1.2.2.1 (w14.at none ((), ()) (K (.exit 0))) n v.1.2.2.2.1
def w4t (av : AV) (x : HP zd6.ps) : Hdl (CR zd6) := hnd [] w6j (v12 av x)
theorem v1t : LP zd6 Tryz.f192 [0] w4t := lp_ok (W := []) (H := []) (xs := [w14]) wv0 trivial rfl (fun av x v K => by kernel_rfl) (fun av x n v K => by kernel_rfl)
theorem v76 : zd6.Ok Tryz.prog := fn_ok (k := zd6) (fn := Tryz.f192) (W := []) (H := [w4t]) Tryz.func192 wv0 ⟨v1t, trivial⟩ rfl rfl (fun av x => by kernel_rfl)
def y12 (n : Int) : Option Bool := (z59 n).bind fun x1 => (some (!x1))
def y19 : FCon := ⟨162, .I, [], fun z c => y12 z ⟩
def w78 : Fs := ⟨[z7y], [], []⟩
theorem w80 : w78.Ok Tryz.prog := (fsK zm7 fs0)
theorem w8x : y19.Ok Tryz.prog := FCon.ok (fn_ok (k := y19.con) (fn := Tryz.f162) (W := []) (H := []) Tryz.func162 w80 trivial rfl rfl (fun av x => by kernel_rfl))
def z3a (data : List Int) : Option Bool := if decide ((data.length : Int) = 3) = true then ((z2e data (fun z => y12 z )).bind fun x2 => (some (!x2))) else (some false)
def z55 : Con := ⟨91, [.v (.sl .I) false], [(.B, true)], [], fun x => z3a x.1⟩
def ws4 : Fs := ⟨[z4o], [y19], []⟩
theorem wv2 : ws4.Ok Tryz.prog := (fsK z7w (fsF w8x fs0))
theorem z79 : z55.Ok Tryz.prog := fn_ok (k := z55) (fn := Tryz.f91) (W := []) (H := []) Tryz.func91 wv2 trivial rfl rfl (fun av x => by kernel_rfl)
def z2c (e : GAsk) (data : List Int) : Option Bool := (z78 e).bind fun x1 => (if x1 = true then ((z3a data).bind fun x3 => (if x3 = true then (if decide (e.op = 1) = true then ((getI data e.var).bind fun x6 => (some (decide (x6 < e.k)))) else (if decide (e.op = 2) = true then ((getI data e.var).bind fun x8 => (some (decide (x8 = e.k)))) else (if decide (e.op = 3) = true then ((getI data e.var).bind fun x10 => (some (decide (e.k < x10)))) else (some true)))) else (some false))) else (some false))
def z49 : Con := ⟨120, [.v (.s .ask) false, .v (.sl .I) false], [(.B, true)], [], fun x => z2c x.1 x.2.1⟩
def w41 : Fs := ⟨[zn4, z55], [], []⟩
theorem w4m : w41.Ok Tryz.prog := (fsK y8s (fsK z79 fs0))
theorem z76 : z49.Ok Tryz.prog := fn_ok (k := z49) (fn := Tryz.f120) (W := []) (H := []) Tryz.func120 w4m trivial rfl rfl (fun av x => by kernel_rfl)
def y22  : Option Bool := some true
def z5c (list : List Int) (places : Int) (without : List Int) (p0_0 : Int) (kx0_0 : Option Bool) : Nat → Int → Int → Option Bool
  | 0, _, _ => none
  | n0 + 1, s0_0, s0_1 => if decide (s0_0 < p0_0) = true then ((getI list s0_0).bind fun x2 => (gd (ok64 (s0_1 + 1)) (gd (ok64 (places - 1)) ((z0c x2 (s0_1 + 1) (places - 1)).bind fun x5 => (if x5 = true then ((zb3 without x2).bind fun x7 => (if x7 = true then (some false) else (gd (ok64 (s0_0 + 1)) ((z5c list places without p0_0 kx0_0 n0) (s0_0 + 1) x2)))) else (some false)))))) else (kx0_0)
def z9o (list : List Int) (places : Int) (without : List Int) : Option Bool := z5c list places without (list.length : Int) y22 FUEL 0 (-1)
def z3w : Con := ⟨178, [.v (.sl .I) false, .v .I false, .v (.sl .I) false], [(.B, true)], [], fun x => z9o x.1 x.2.1 x.2.2.1⟩
def w7e : Fs := ⟨[z20, zn3], [], []⟩
theorem ye0 : w7e.Ok Tryz.prog := (fsK z2p (fsK y8q fs0))
def y5s : Tmpl := ⟨[(1, .c .i), (2, .c (.s .I)), (7, .c .i), (10, .c (.s .I)), (11, .c .i), (12, .c .i)], []⟩
def y2x : Tmpl := ⟨[], []⟩
def w1a (av : AV) (x : HP z3w.ps) (n : Nat) (v : y5s.den) (K : Ks (CR z3w)) : Option (CR z3w) := z5c v.1.2.2.2.1 v.1.1 v.1.2.1 v.1.2.2.2.2.1 (y2x.at none ((), ()) (K (.exit 0))) n v.1.2.2.2.2.2.1 v.1.2.2.1
def y4w (av : AV) (x : HP z3w.ps) : Hdl (CR z3w) := hnd [] y5s (w1a av x)
theorem w28 : LP z3w Tryz.f178 [0] y4w := lp_ok (W := []) (H := []) (xs := [y2x]) ye0 trivial rfl (fun av x v K => by kernel_rfl) (fun av x n v K => by kernel_rfl)
theorem w93 : z3w.Ok Tryz.prog := fn_ok (k := z3w) (fn := Tryz.f178) (W := []) (H := [y4w]) Tryz.func178 ye0 ⟨w28, trivial⟩ rfl rfl (fun av x => by kernel_rfl)
def z7i (t : GTask) : Option Bool := (z0c (t.out.length : Int) 1 3).bind fun x21 => (some x21)
def z1a (t : GTask) (places : Int) (p0_0 : List GFlow) (p0_1 : Int) (kx0_0 : Option Bool) : Nat → Int → List Int → Option Bool
  | 0, _, _ => none
  | n0 + 1, s0_0, m0_1 => if decide (s0_0 < p0_1) = true then ((getI p0_0 s0_0).bind fun x2 => (if decide (t.split = 1) = true then (gd (ok64 (places - 1)) ((z0c x2.to 0 (places - 1)).bind fun x5 => (if x5 = true then (if decide (x2.to ∈ m0_1) = true then (some false) else ((z78 x2.if_).bind fun x8 => (if x8 = true then (if ((decide (x2.if_.op = 0)) == true) = true then (gd (ok64 (s0_0 + 1)) ((z1a t places p0_0 p0_1 kx0_0 n0) (s0_0 + 1) (insKey m0_1 x2.to))) else (some false)) else (some false)))) else (some false)))) else (gd (ok64 ((t.out.length : Int) - 1)) (gd (ok64 (places - 1)) ((z0c x2.to 0 (places - 1)).bind fun x14 => (if x14 = true then (if decide (x2.to ∈ m0_1) = true then (some false) else ((z78 x2.if_).bind fun x17 => (if x17 = true then (if ((decide (x2.if_.op = 0)) == (decide (s0_0 = ((t.out.length : Int) - 1)))) = true then (gd (ok64 (s0_0 + 1)) ((z1a t places p0_0 p0_1 kx0_0 n0) (s0_0 + 1) (insKey m0_1 x2.to))) else (some false)) else (some false)))) else (some false))))))) else (kx0_0)
def z6l (t : GTask) (places : Int) : Option Bool := z1a t places t.out (t.out.length : Int) (z7i t) FUEL 0 (insKey ([] : List Int) 0)
def z10 : Con := ⟨179, [.v (.s .task) false, .v .I false], [(.B, true)], [], fun x => z6l x.1 x.2.1⟩
def yc9 : Fs := ⟨[z20, zn4], [], []⟩
theorem zq4 : yc9.Ok Tryz.prog := (fsK z2p (fsK y8s fs0))
def zj3 : Tmpl := ⟨[(1, .c .i), (2, .c (.bx 2 0)), (5, .c (.bx 9 0)), (12, .c (.s (.s .flow))), (13, .c .i), (14, .c .i)], [(2, .boxT (.s .task)), (9, .mp)]⟩
def zi5 : Tmpl := ⟨[(2, .c (.bx 2 0))], [(2, .boxT (.s .task))]⟩
def y6q (av : AV) (x : HP z10.ps) (n : Nat) (v : zj3.den) (K : Ks (CR z10)) : Option (CR z10) := z1a v.2.1 v.1.1 v.1.2.2.2.1 v.1.2.2.2.2.1 (zi5.at none (((), ()), (v.2.1, ())) (K (.exit 0))) n v.1.2.2.2.2.2.1 v.2.2.1
def zi7 (av : AV) (x : HP z10.ps) : Hdl (CR z10) := hnd [] zj3 (y6q av x)
theorem y6s : LP z10 Tryz.f179 [0] zi7 := lp_ok (W := []) (H := []) (xs := [zi5]) zq4 trivial rfl (fun av x v K => by kernel_rfl) (fun av x n v K => by kernel_rfl)
theorem yd8 : z10.Ok Tryz.prog := fn_ok (k := z10) (fn := Tryz.f179) (W := []) (H := [zi7]) Tryz.func179 zq4 ⟨y6s, trivial⟩ rfl rfl (fun av x => by kernel_rfl)
def z93 (t : GTask) (places : Int) (tasks : Int) : Option Bool := (zt4 t.join).bind fun x1 => (if x1 = true then ((zt4 t.split).bind fun x3 => (if x3 = true then ((z0c (t.in_.length : Int) 1 3).bind fun x5 => (if x5 = true then ((z9o t.in_ places [1]).bind fun x7 => (if x7 = true then ((z6l t places).bind fun x9 => (if x9 = true then ((z9o t.clear places [0, 1]).bind fun x11 => (if x11 = true then ((zf0 t.role).bind fun x13 => (if x13 = true then (gd (ok64 (tasks - 1)) ((z0c t.apart (-1) (tasks - 1)).bind fun x16 => (if x16 = true then ((z0c t.all 1 3).bind fun x18 => (if x18 = true then ((z0c t.need 1 t.all).bind fun x20 => (some x20)) else (some false))) else (some false)))) else (some false))) else (some false))) else (some false))) else (some false))) else (some false))) else (some false))) else (some false))
def zk1 : Con := ⟨125, [.v (.s .task) false, .v .I false, .v .I false], [(.B, true)], [], fun x => z93 x.1 x.2.1 x.2.2.1⟩
def yw2 : Fs := ⟨[y3x, z20, z3w, z10, zs2], [], []⟩
theorem yw9 : yw2.Ok Tryz.prog := (fsK wm1 (fsK z2p (fsK w93 (fsK yd8 (fsK yr5 fs0)))))
theorem yz2 : zk1.Ok Tryz.prog := fn_ok (k := zk1) (fn := Tryz.f125) (W := []) (H := []) Tryz.func125 yw9 trivial rfl rfl (fun av x => by kernel_rfl)
def y14 (t : GTask) (n : GNet) : Option Bool := (z93 t n.places (n.tasks.length : Int)).bind fun x1 => (some (!x1))
def y1b : FCon := ⟨124, (.s .task), [(.s .net)], fun z c => y14 z c.1⟩
def w7b : Fs := ⟨[zk1], [], []⟩
theorem w82 : w7b.Ok Tryz.prog := (fsK yz2 fs0)
theorem w90 : y1b.Ok Tryz.prog := FCon.ok (fn_ok (k := y1b.con) (fn := Tryz.f124) (W := []) (H := []) Tryz.func124 w82 trivial rfl rfl (fun av x => by kernel_rfl))
def z8j (n : GNet) : Option Bool := (y17 n.places (n.tasks.length : Int)).bind fun x1 => (if x1 = true then ((z6j n.tasks (fun z => y14 z n)).bind fun x3 => (some (!x3))) else (some false))
def zb1 : Con := ⟨52, [.v (.s .net) false], [(.B, true)], [], fun x => z8j x.1⟩
def ws9 : Fs := ⟨[y0x, z9f], [y1b], []⟩
theorem wv6 : ws9.Ok Tryz.prog := (fsK w95 (fsK yd6 (fsF w90 fs0)))
theorem y07 : zb1.Ok Tryz.prog := fn_ok (k := zb1) (fn := Tryz.f52) (W := []) (H := []) Tryz.func52 wv6 trivial rfl rfl (fun av x => by kernel_rfl)
def z67 (p : Int) (out : List Bool) : Option Bool := (getI out p).bind fun x1 => (some x1)
def z8s : FCon := ⟨217, .I, [(.sl .B)], fun z c => z67 z c.1⟩
def y72 : Fs := ⟨[], [], []⟩
theorem y75 : y72.Ok Tryz.prog := fs0
theorem y8v : z8s.Ok Tryz.prog := FCon.ok (fn_ok (k := z8s.con) (fn := Tryz.f217) (W := []) (H := []) Tryz.func217 y75 trivial rfl rfl (fun av x => by kernel_rfl))
def zi8 (s1_0 : List GTask) (s1_1 : Int) (s1_2 : Int) (bk1 : List GTask → Int → Int → Bool → List Bool → Option (List Bool)) (s2_1 : Bool) (l2_2 : List Bool) : Option (List Bool) := gd (ok64 (s1_2 + 1)) (bk1 s1_0 s1_1 (s1_2 + 1) s2_1 l2_2)
def z0k (p2_0 : List GFlow) (p2_1 : Int) (kx2_0 : Bool → List Bool → Option (List Bool)) : Nat → Int → Bool → List Bool → Option (List Bool)
  | 0, _, _, _ => none
  | n2 + 1, s2_0, s2_1, l2_2 => if decide (s2_0 < p2_1) = true then ((getI p2_0 s2_0).bind fun x11 => (if s2_1 = true then ((getI l2_2 x11.to).bind fun x13 => (gd (ok64 (s2_0 + 1)) ((z0k p2_0 p2_1 kx2_0 n2) (s2_0 + 1) true (l2_2.set x11.to.toNat true)))) else ((getI l2_2 x11.to).bind fun x15 => ((getI l2_2 x11.to).bind fun x16 => (gd (ok64 (s2_0 + 1)) ((z0k p2_0 p2_1 kx2_0 n2) (s2_0 + 1) (!x15) (l2_2.set x11.to.toNat true))))))) else (kx2_0 s2_1 l2_2)
def z85 (bk0 : Bool → List Bool → Option (List Bool)) (s1_3 : Bool) (l1_4 : List Bool) : Option (List Bool) := bk0 s1_3 l1_4
def z0d (but : Int) (kx1_0 : Bool → List Bool → Option (List Bool)) : Nat → List GTask → Int → Int → Bool → List Bool → Option (List Bool)
  | 0, _, _, _, _, _ => none
  | n1 + 1, s1_0, s1_1, s1_2, s1_3, l1_4 => if decide (s1_2 < s1_1) = true then ((getI s1_0 s1_2).bind fun x5 => (if decide (s1_2 = but) = true then (gd (ok64 (s1_2 + 1)) ((z0d but kx1_0 n1) s1_0 s1_1 (s1_2 + 1) s1_3 l1_4)) else ((z2e x5.in_ (fun z => z67 z l1_4)).bind fun x8 => (if x8 = true then (z0k x5.out (x5.out.length : Int) (zi8 s1_0 s1_1 s1_2 (z0d but kx1_0 n1)) FUEL 0 s1_3 l1_4) else (gd (ok64 (s1_2 + 1)) ((z0d but kx1_0 n1) s1_0 s1_1 (s1_2 + 1) s1_3 l1_4)))))) else (kx1_0 s1_3 l1_4)
def zi9 (l0_1 : List Bool) : Option (List Bool) := some l0_1
def z0z (n : GNet) (but : Int) (kx0_0 : List Bool → Option (List Bool)) : Nat → Bool → List Bool → Option (List Bool)
  | 0, _, _ => none
  | n0 + 1, s0_0, l0_1 => if s0_0 = true then (z0d but (z85 (z0z n but kx0_0 n0)) FUEL n.tasks (n.tasks.length : Int) 0 false l0_1) else (kx0_0 l0_1)
def z7h (n : GNet) (place : Int) (but : Int) : Option (List Bool) := gd ((0 : Int) ≤ n.places ∧ n.places ≤ (1000000000 : Int)) ((getI (List.replicate n.places.toNat false) place).bind fun x2 => (z0z n but zi9 FUEL true ((List.replicate n.places.toNat false).set place.toNat true)))
def z05 : Con := ⟨202, [.v (.s .net) false, .v .I false, .v .I false], [((.sl .B), true)], [], fun x => z7h x.1 x.2.1 x.2.2.1⟩
def yk2 : Fs := ⟨[z4o], [z8s], []⟩
theorem z7b : yk2.Ok Tryz.prog := (fsK z7w (fsF y8v fs0))
def z9u : Tmpl := ⟨[(2, .c .i), (3, .c (.bx 3 0)), (7, .c (.bx 7 0)), (8, .c .b), (21, .c (.s (.s .task))), (22, .c .i), (23, .c .i), (39, .c (.s (.s .flow))), (40, .c .i), (41, .c .i)], [(3, .boxT (.s .net)), (7, .box [.ref 15]), (15, .arr .B true)]⟩
def z9b : Tmpl := ⟨[(2, .c .i), (3, .c (.bx 3 0)), (7, .c (.bx 7 0)), (8, .c .b), (21, .c (.s (.s .task))), (22, .c .i), (23, .c .i)], [(3, .boxT (.s .net)), (7, .box [.ref 15]), (15, .arr .B true)]⟩
def y0q (av : AV) (x : HP z05.ps) (n : Nat) (v : z9u.den) (K : Ks (CR z05)) : Option (CR z05) := z0k v.1.2.2.2.2.2.2.2.1 v.1.2.2.2.2.2.2.2.2.1 (fun s2_1 l2_2 => z9b.at none ((v.1.1, (), (), s2_1, v.1.2.2.2.2.1, v.1.2.2.2.2.2.1, v.1.2.2.2.2.2.2.1, ()), (v.2.1, ((), ()), l2_2, ())) (K (.exit 4))) n v.1.2.2.2.2.2.2.2.2.2.1 v.1.2.2.2.1 v.2.2.2.1
def z9m (av : AV) (x : HP z05.ps) : Hdl (CR z05) := hnd [] z9u (y0q av x)
theorem y11 : LP z05 Tryz.f202 [0, 0, 0] z9m := lp_ok (W := []) (H := []) (xs := [z9b]) z7b trivial rfl (fun av x v K => by kernel_rfl) (fun av x n v K => by kernel_rfl)
def zi3 : Tmpl := ⟨[(2, .c .i), (3, .c (.bx 3 0)), (7, .c (.bx 7 0)), (8, .c .b), (21, .c (.s (.s .task))), (22, .c .i), (23, .c .i)], [(3, .boxT (.s .net)), (7, .box [.ref 15]), (15, .arr .B true)]⟩
def zc5 : Tmpl := ⟨[(2, .c .i), (3, .c (.bx 3 0)), (7, .c (.bx 7 0)), (8, .c .b)], [(3, .boxT (.s .net)), (7, .box [.ref 15]), (15, .arr .B true)]⟩
def y3g (av : AV) (x : HP z05.ps) (n : Nat) (v : zi3.den) (K : Ks (CR z05)) : Option (CR z05) := z0d v.1.1 (fun s1_3 l1_4 => zc5.at none ((v.1.1, (), (), s1_3, ()), (v.2.1, ((), ()), l1_4, ())) (K (.exit 2))) n v.1.2.2.2.2.1 v.1.2.2.2.2.2.1 v.1.2.2.2.2.2.2.1 v.1.2.2.2.1 v.2.2.2.1
def zd4 (av : AV) (x : HP z05.ps) : Hdl (CR z05) := hnd [] zi3 (y3g av x)
theorem y4b : LP z05 Tryz.f202 [0, 0] zd4 := lp_ok (W := []) (H := [z9m]) (xs := [zc5]) z7b ⟨y11, trivial⟩ rfl (fun av x v K => by kernel_rfl) (fun av x n v K => by kernel_rfl)
def zo9 : Tmpl := ⟨[(2, .c .i), (3, .c (.bx 3 0)), (7, .c (.bx 7 0)), (8, .c .b)], [(3, .boxT (.s .net)), (7, .box [.ref 15]), (15, .arr .B true)]⟩
def zj5 : Tmpl := ⟨[(7, .c (.bx 7 0))], [(7, .box [.ref 15]), (15, .arr .B true)]⟩
def y6u (av : AV) (x : HP z05.ps) (n : Nat) (v : zo9.den) (K : Ks (CR z05)) : Option (CR z05) := z0z v.2.1 v.1.1 (fun l0_1 => zj5.at none (((), ()), (((), ()), l0_1, ())) (K (.exit 0))) n v.1.2.2.2.1 v.2.2.2.1
def zn0 (av : AV) (x : HP z05.ps) : Hdl (CR z05) := hnd [] zo9 (y6u av x)
theorem y84 : LP z05 Tryz.f202 [0] zn0 := lp_ok (W := []) (H := [zd4]) (xs := [zj5]) z7b ⟨y4b, trivial⟩ rfl (fun av x v K => by kernel_rfl) (fun av x n v K => by kernel_rfl)
theorem ym2 : z05.Ok Tryz.prog := fn_ok (k := z05) (fn := Tryz.f202) (W := []) (H := [zn0]) Tryz.func202 z7b ⟨y84, trivial⟩ rfl rfl (fun av x => by kernel_rfl)
def z7g (m : Int) : Option Bool := (z0c m 0 4).bind fun x1 => (some (!x1))
def z7q : FCon := ⟨199, .I, [], fun z c => z7g z ⟩
def y3j : Fs := ⟨[z20], [], []⟩
theorem y3m : y3j.Ok Tryz.prog := (fsK z2p fs0)
theorem y4f : z7q.Ok Tryz.prog := FCon.ok (fn_ok (k := z7q.con) (fn := Tryz.f199) (W := []) (H := []) Tryz.func199 y3m trivial rfl rfl (fun av x => by kernel_rfl))
def z4c (n : GNet) (marks : List Int) : Option Bool := if decide ((marks.length : Int) = n.places) = true then ((z2e marks (fun z => z7g z )).bind fun x2 => (some (!x2))) else (some false)
def z61 : Con := ⟨164, [.v (.s .net) false, .v (.sl .I) false], [(.B, true)], [], fun x => z4c x.1 x.2.1⟩
def y71 : Fs := ⟨[z4o], [z7q], []⟩
theorem y74 : y71.Ok Tryz.prog := (fsK z7w (fsF y4f fs0))
theorem zo3 : z61.Ok Tryz.prog := fn_ok (k := z61) (fn := Tryz.f164) (W := []) (H := []) Tryz.func164 y74 trivial rfl rfl (fun av x => by kernel_rfl)
def zb6 (n : GNet) (marks : List Int) : Option Bool := (z8j n).bind fun x1 => (if x1 = true then ((z4c n marks).bind fun x3 => (some x3)) else (some false))
def zn5 : Con := ⟨94, [.v (.s .net) false, .v (.sl .I) false], [(.B, true)], [], fun x => zb6 x.1 x.2.1⟩
def ws8 : Fs := ⟨[zb1, z61], [], []⟩
theorem wv5 : ws8.Ok Tryz.prog := (fsK y07 (fsK zo3 fs0))
theorem y8t : zn5.Ok Tryz.prog := fn_ok (k := zn5) (fn := Tryz.f94) (W := []) (H := []) Tryz.func94 wv5 trivial rfl rfl (fun av x => by kernel_rfl)
def ze8 (busy : List GItem) : Option Bool := some (decide ((busy.length : Int) ≤ 6))
def z1y (n : GNet) (p0_0 : List GItem) (p0_1 : Int) (kx0_0 : Option Bool) : Nat → Int → Option Bool
  | 0, _ => none
  | n0 + 1, s0_0 => if decide (s0_0 < p0_1) = true then ((getI p0_0 s0_0).bind fun x2 => ((z0n n x2.task).bind fun x3 => (if x3 = true then ((z8m x2.who).bind fun x5 => (if x5 = true then ((getI n.tasks x2.task).bind fun x7 => (gd (ok64 (x7.need - 1)) ((z0c x2.did 0 (x7.need - 1)).bind fun x9 => (if x9 = true then (gd (ok64 (s0_0 + 1)) ((z1y n p0_0 p0_1 kx0_0 n0) (s0_0 + 1))) else (some false))))) else (some false))) else (some false)))) else (kx0_0)
def z4t (n : GNet) (busy : List GItem) : Option Bool := z1y n busy (busy.length : Int) (ze8 busy) FUEL 0
def z0r : Con := ⟨95, [.v (.s .net) false, .v (.sl (.s .item)) false], [(.B, true)], [], fun x => z4t x.1 x.2.1⟩
def yc7 : Fs := ⟨[z1o, ze0, z20], [], []⟩
theorem zq3 : yc7.Ok Tryz.prog := (fsK z4e (fsK y8y (fsK z2p fs0)))
def zj2 : Tmpl := ⟨[(1, .c (.s (.s .item))), (2, .c (.bx 2 0)), (7, .c (.s (.s .item))), (8, .c .i), (9, .c .i)], [(2, .boxT (.s .net))]⟩
def zi4 : Tmpl := ⟨[(1, .c (.s (.s .item)))], []⟩
def y6p (av : AV) (x : HP z0r.ps) (n : Nat) (v : zj2.den) (K : Ks (CR z0r)) : Option (CR z0r) := z1y v.2.1 v.1.2.2.1 v.1.2.2.2.1 (zi4.at none ((v.1.1, ()), ()) (K (.exit 0))) n v.1.2.2.2.2.1
def zi6 (av : AV) (x : HP z0r.ps) : Hdl (CR z0r) := hnd [] zj2 (y6p av x)
theorem y6r : LP z0r Tryz.f95 [0] zi6 := lp_ok (W := []) (H := []) (xs := [zi4]) zq3 trivial rfl (fun av x v K => by kernel_rfl) (fun av x n v K => by kernel_rfl)
theorem zq8 : z0r.Ok Tryz.prog := fn_ok (k := z0r) (fn := Tryz.f95) (W := []) (H := [zi6]) Tryz.func95 zq3 ⟨y6r, trivial⟩ rfl rfl (fun av x => by kernel_rfl)
def z7e (q : Int) (marks : List Int) (reach : List Bool) : Option Bool := (getI marks q).bind fun x1 => (if decide (x1 = 0) = true then ((getI reach q).bind fun x3 => (some x3)) else (some false))
def z7p : FCon := ⟨203, .I, [(.sl .I), (.sl .B)], fun z c => z7e z c.1 c.2.1⟩
def y3i : Fs := ⟨[], [], []⟩
theorem y3l : y3i.Ok Tryz.prog := fs0
theorem y4e : z7p.Ok Tryz.prog := FCon.ok (fn_ok (k := z7p.con) (fn := Tryz.f203) (W := []) (H := []) Tryz.func203 y3l trivial rfl rfl (fun av x => by kernel_rfl))
def z4j (s1_0 : Int) (s1_1 : Int) (bk1 : Int → Int → List Int → Option Bool) (l2_1 : List Int) : Option Bool := gd (ok64 (s1_1 + 1)) (bk1 s1_0 (s1_1 + 1) l2_1)
def z1n (p2_0 : List GFlow) (p2_1 : Int) (kx2_0 : List Int → Option Bool) : Nat → Int → List Int → Option Bool
  | 0, _, _ => none
  | n2 + 1, s2_0, l2_1 => if decide (s2_0 < p2_1) = true then ((getI p2_0 s2_0).bind fun x15 => (gd (l2_1.length + [x15.to].length ≤ SMALL) (gd (ok64 (s2_0 + 1)) ((z1n p2_0 p2_1 kx2_0 n2) (s2_0 + 1) (l2_1 ++ [x15.to]))))) else (kx2_0 l2_1)
def z6r  : Option Bool := some false
def z13 (n : GNet) (t : Int) (p0_0 : List Int) (p0_2 : List Int) (l1_2 : List Int) (p3_0 : Int) (kx3_0 : Option Bool) : Nat → Int → Option Bool
  | 0, _ => none
  | n3 + 1, s3_0 => if decide (s3_0 < p3_0) = true then ((getI l1_2 s3_0).bind fun x20 => ((z7h n x20 t).bind fun x21 => ((z2e p0_0 (fun z => z7e z p0_2 x21)).bind fun x22 => (if x22 = true then (some true) else (gd (ok64 (s3_0 + 1)) ((z13 n t p0_0 p0_2 l1_2 p3_0 kx3_0 n3) (s3_0 + 1))))))) else (kx3_0)
def z1m (n : GNet) (t : Int) (p0_0 : List Int) (p0_2 : List Int) (l1_2 : List Int) : Option Bool := z13 n t p0_0 p0_2 l1_2 (l1_2.length : Int) z6r FUEL 0
def z0q (n : GNet) (busy : List GItem) (kx1_0 : List Int → Option Bool) : Nat → Int → Int → List Int → Option Bool
  | 0, _, _, _ => none
  | n1 + 1, s1_0, s1_1, l1_2 => if decide (s1_1 < s1_0) = true then ((getI busy s1_1).bind fun x12 => ((getI n.tasks x12.task).bind fun x13 => (z1n x13.out (x13.out.length : Int) (z4j s1_0 s1_1 (z0q n busy kx1_0 n1)) FUEL 0 l1_2))) else (kx1_0 l1_2)
def z4i (n : GNet) (busy : List GItem) (t : Int) (p0_0 : List Int) (p0_2 : List Int) (l0_1 : List Int) : Option Bool := z0q n busy (z1m n t p0_0 p0_2) FUEL (busy.length : Int) 0 l0_1
def z0p (marks : List Int) (p0_0 : List Int) (p0_1 : Int) (kx0_0 : List Int → Option Bool) : Nat → Int → List Int → Option Bool
  | 0, _, _ => none
  | n0 + 1, s0_0, l0_1 => if decide (s0_0 < p0_1) = true then ((getI marks s0_0).bind fun x3 => (if decide (0 < x3) = true then ((zb3 p0_0 s0_0).bind fun x5 => (if x5 = true then (gd (ok64 (s0_0 + 1)) ((z0p marks p0_0 p0_1 kx0_0 n0) (s0_0 + 1) l0_1)) else (gd (l0_1.length + [s0_0].length ≤ SMALL) (gd (ok64 (s0_0 + 1)) ((z0p marks p0_0 p0_1 kx0_0 n0) (s0_0 + 1) (l0_1 ++ [s0_0])))))) else (gd (ok64 (s0_0 + 1)) ((z0p marks p0_0 p0_1 kx0_0 n0) (s0_0 + 1) l0_1)))) else (kx0_0 l0_1)
def z66 (n : GNet) (marks : List Int) (busy : List GItem) (t : Int) : Option Bool := (getI n.tasks t).bind fun x1 => (z0p marks x1.in_ (marks.length : Int) (z4i n busy t x1.in_ marks) FUEL 0 ([] : List Int))
def z01 : Con := ⟨168, [.v (.s .net) false, .v (.sl .I) false, .v (.sl (.s .item)) false, .v .I false], [(.B, true)], [], fun x => z66 x.1 x.2.1 x.2.2.1 x.2.2.2.1⟩
def y6z : Fs := ⟨[zn3, z05, z4o], [z7p], []⟩
theorem z48 : y6z.Ok Tryz.prog := (fsK y8q (fsK ym2 (fsK z7w (fsF y4e fs0))))
def z9t : Tmpl := ⟨[(3, .c .i), (4, .c (.bx 4 0)), (5, .c (.bx 5 0)), (9, .c (.s .I)), (10, .c (.ref 500010)), (46, .c (.s (.s .item))), (47, .c .i), (48, .c .i), (58, .c (.s (.s .flow))), (59, .c .i), (60, .c .i)], [(4, .boxT (.s .net)), (5, .box [.s .I]), (500010, .arr .I true)]⟩
def z9a : Tmpl := ⟨[(3, .c .i), (4, .c (.bx 4 0)), (5, .c (.bx 5 0)), (9, .c (.s .I)), (10, .c (.ref 500010)), (46, .c (.s (.s .item))), (47, .c .i), (48, .c .i)], [(4, .boxT (.s .net)), (5, .box [.s .I]), (500010, .arr .I true)]⟩
def y0p (av : AV) (x : HP z01.ps) (n : Nat) (v : z9t.den) (K : Ks (CR z01)) : Option (CR z01) := z1n v.1.2.2.2.2.2.2.2.2.1 v.1.2.2.2.2.2.2.2.2.2.1 (fun l2_1 => z9a.at none ((v.1.1, (), (), v.1.2.2.2.1, (), v.1.2.2.2.2.2.1, v.1.2.2.2.2.2.2.1, v.1.2.2.2.2.2.2.2.1, ()), (v.2.1, (v.2.2.1.1, ()), l2_1, ())) (K (.exit 4))) n v.1.2.2.2.2.2.2.2.2.2.2.1 v.2.2.2.1
def z9l (av : AV) (x : HP z01.ps) : Hdl (CR z01) := hnd [] z9t (y0p av x)
theorem y10 : LP z01 Tryz.f168 [1, 0] z9l := lp_ok (W := []) (H := []) (xs := [z9a]) z48 trivial rfl (fun av x v K => by kernel_rfl) (fun av x n v K => by kernel_rfl)
def zi0 : Tmpl := ⟨[(2, .c (.s (.s .item))), (3, .c .i), (4, .c (.bx 4 0)), (5, .c (.bx 5 0)), (9, .c (.s .I)), (10, .c (.ref 500010)), (26, .c (.s .I)), (27, .c .i), (28, .c .i)], [(4, .boxT (.s .net)), (5, .box [.s .I]), (500010, .arr .I true)]⟩
def zc2 : Tmpl := ⟨[(2, .c (.s (.s .item))), (3, .c .i), (4, .c (.bx 4 0)), (5, .c (.bx 5 0)), (9, .c (.s .I)), (10, .c (.ref 500010))], [(4, .boxT (.s .net)), (5, .box [.s .I]), (500010, .arr .I true)]⟩
def y3d (av : AV) (x : HP z01.ps) (n : Nat) (v : zi0.den) (K : Ks (CR z01)) : Option (CR z01) := z0p v.1.2.2.2.2.2.2.1 v.1.2.2.2.2.1 v.1.2.2.2.2.2.2.2.1 (fun l0_1 => zc2.at none ((v.1.1, v.1.2.1, (), (), v.1.2.2.2.2.1, (), ()), (v.2.1, (v.2.2.1.1, ()), l0_1, ())) (K (.exit 0))) n v.1.2.2.2.2.2.2.2.2.1 v.2.2.2.1
def zd1 (av : AV) (x : HP z01.ps) : Hdl (CR z01) := hnd [.e 10 500010 .I] zi0 (y3d av x)
theorem y48 : LP z01 Tryz.f168 [0] zd1 := lp_ok (W := []) (H := []) (xs := [zc2]) z48 trivial rfl (fun av x v K => by kernel_rfl) (fun av x n v K => by kernel_rfl)
def zi1 : Tmpl := ⟨[(3, .c .i), (4, .c (.bx 4 0)), (5, .c (.bx 5 0)), (9, .c (.s .I)), (10, .c (.ref 500010)), (46, .c (.s (.s .item))), (47, .c .i), (48, .c .i)], [(4, .boxT (.s .net)), (5, .box [.s .I]), (500010, .arr .I true)]⟩
def zc3 : Tmpl := ⟨[(3, .c .i), (4, .c (.bx 4 0)), (5, .c (.bx 5 0)), (9, .c (.s .I)), (10, .c (.ref 500010))], [(4, .boxT (.s .net)), (5, .box [.s .I]), (500010, .arr .I true)]⟩
def y3e (av : AV) (x : HP z01.ps) (n : Nat) (v : zi1.den) (K : Ks (CR z01)) : Option (CR z01) := z0q v.2.1 v.1.2.2.2.2.2.1 (fun l1_2 => zc3.at none ((v.1.1, (), (), v.1.2.2.2.1, (), ()), (v.2.1, (v.2.2.1.1, ()), l1_2, ())) (K (.exit 2))) n v.1.2.2.2.2.2.2.1 v.1.2.2.2.2.2.2.2.1 v.2.2.2.1
def zd2 (av : AV) (x : HP z01.ps) : Hdl (CR z01) := hnd [] zi1 (y3e av x)
theorem y49 : LP z01 Tryz.f168 [1] zd2 := lp_ok (W := []) (H := [z9l]) (xs := [zc3]) z48 ⟨y10, trivial⟩ rfl (fun av x v K => by kernel_rfl) (fun av x n v K => by kernel_rfl)
def zi2 : Tmpl := ⟨[(3, .c .i), (4, .c (.bx 4 0)), (5, .c (.bx 5 0)), (9, .c (.s .I)), (71, .c (.ref 500010)), (72, .c .i), (73, .c .i)], [(4, .boxT (.s .net)), (5, .box [.s .I]), (500010, .arr .I true)]⟩
def zc4 : Tmpl := ⟨[], []⟩
def y3f (av : AV) (x : HP z01.ps) (n : Nat) (v : zi2.den) (K : Ks (CR z01)) : Option (CR z01) := z13 v.2.1 v.1.1 v.1.2.2.2.1 v.2.2.1.1 v.2.2.2.1 v.1.2.2.2.2.2.1 (zc4.at none ((), ()) (K (.exit 6))) n v.1.2.2.2.2.2.2.1
def zd3 (av : AV) (x : HP z01.ps) : Hdl (CR z01) := hnd [] zi2 (y3f av x)
theorem y4a : LP z01 Tryz.f168 [2] zd3 := lp_ok (W := []) (H := []) (xs := [zc4]) z48 trivial rfl (fun av x v K => by kernel_rfl) (fun av x n v K => by kernel_rfl)
theorem y8u : z01.Ok Tryz.prog := fn_ok (k := z01) (fn := Tryz.f168) (W := []) (H := [zd1, zd2, zd3]) Tryz.func168 z48 ⟨y48, y49, y4a, trivial⟩ rfl rfl (fun av x => by kernel_rfl)
def z34 (n : GNet) (marks : List Int) (busy : List GItem) (t : Int) (s0_0 : Bool) (s0_2 : Bool) : Option Bool := (getI n.tasks t).bind fun x14 => (if decide (x14.join = 1) = true then (some s0_0) else (if decide (x14.join = 2) = true then (some s0_2) else (if s0_2 = true then (if s0_0 = true then (some true) else ((z66 n marks busy t).bind fun x19 => (some (!x19)))) else (some false))))
def z0s (marks : List Int) (p0_0 : List Int) (p0_1 : Int) (kx0_0 : Bool → Bool → Option Bool) : Nat → Bool → Int → Bool → Option Bool
  | 0, _, _, _ => none
  | n0 + 1, s0_0, s0_1, s0_2 => if decide (s0_1 < p0_1) = true then ((getI p0_0 s0_1).bind fun x3 => (if s0_2 = true then (if s0_0 = true then ((getI marks x3).bind fun x6 => (gd (ok64 (s0_1 + 1)) ((z0s marks p0_0 p0_1 kx0_0 n0) (decide (0 < x6)) (s0_1 + 1) true))) else (gd (ok64 (s0_1 + 1)) ((z0s marks p0_0 p0_1 kx0_0 n0) false (s0_1 + 1) true))) else ((getI marks x3).bind fun x9 => (if s0_0 = true then ((getI marks x3).bind fun x11 => (gd (ok64 (s0_1 + 1)) ((z0s marks p0_0 p0_1 kx0_0 n0) (decide (0 < x11)) (s0_1 + 1) (decide (0 < x9))))) else (gd (ok64 (s0_1 + 1)) ((z0s marks p0_0 p0_1 kx0_0 n0) false (s0_1 + 1) (decide (0 < x9)))))))) else (kx0_0 s0_0 s0_2)
def z92 (n : GNet) (marks : List Int) (busy : List GItem) (t : Int) : Option Bool := (getI n.tasks t).bind fun x1 => (z0s marks x1.in_ (x1.in_.length : Int) (z34 n marks busy t) FUEL true 0 false)
def z1w : Con := ⟨104, [.v (.s .net) false, .v (.sl .I) false, .v (.sl (.s .item)) false, .v .I false], [(.B, true)], [], fun x => z92 x.1 x.2.1 x.2.2.1 x.2.2.2.1⟩
def yw1 : Fs := ⟨[z01], [], []⟩
theorem y1n : yw1.Ok Tryz.prog := (fsK y8u fs0)
def zy0 : Tmpl := ⟨[(1, .c (.s .I)), (2, .c (.s (.s .item))), (3, .c .i), (4, .c (.bx 4 0)), (9, .c .b), (10, .c .b), (18, .c (.s .I)), (19, .c .i), (20, .c .i)], [(4, .boxT (.s .net))]⟩
def zr3 : Tmpl := ⟨[(1, .c (.s .I)), (2, .c (.s (.s .item))), (3, .c .i), (4, .c (.bx 4 0)), (9, .c .b), (10, .c .b)], [(4, .boxT (.s .net))]⟩
def yj3 (av : AV) (x : HP z1w.ps) (n : Nat) (v : zy0.den) (K : Ks (CR z1w)) : Option (CR z1w) := z0s v.1.1 v.1.2.2.2.2.2.2.1 v.1.2.2.2.2.2.2.2.1 (fun s0_0 s0_2 => zr3.at none ((v.1.1, v.1.2.1, v.1.2.2.1, (), s0_2, s0_0, ()), (v.2.1, ())) (K (.exit 0))) n v.1.2.2.2.2.2.1 v.1.2.2.2.2.2.2.2.2.1 v.1.2.2.2.2.1
def zw0 (av : AV) (x : HP z1w.ps) : Hdl (CR z1w) := hnd [] zy0 (yj3 av x)
theorem yl1 : LP z1w Tryz.f104 [0] zw0 := lp_ok (W := []) (H := []) (xs := [zr3]) y1n trivial rfl (fun av x v K => by kernel_rfl) (fun av x n v K => by kernel_rfl)
theorem yz1 : z1w.Ok Tryz.prog := fn_ok (k := z1w) (fn := Tryz.f104) (W := []) (H := [zw0]) Tryz.func104 y1n ⟨yl1, trivial⟩ rfl rfl (fun av x => by kernel_rfl)
def zs8 (n : GNet) (marks : List Int) (busy : List GItem) (t : Int) : Option Bool := (zb6 n marks).bind fun x1 => (if x1 = true then ((z4t n busy).bind fun x3 => (if x3 = true then ((z0n n t).bind fun x5 => (if x5 = true then ((z92 n marks busy t).bind fun x7 => (some x7)) else (some false))) else (some false))) else (some false))
def y3r : Con := ⟨33, [.v (.s .net) false, .v (.sl .I) false, .v (.sl (.s .item)) false, .v .I false], [(.B, true)], [], fun x => zs8 x.1 x.2.1 x.2.2.1 x.2.2.2.1⟩
def wc9 : Fs := ⟨[zn5, z0r, z1o, z1w], [], []⟩
theorem wh0 : wc9.Ok Tryz.prog := (fsK y8t (fsK zq8 (fsK z4e (fsK yz1 fs0))))
theorem wl4 : y3r.Ok Tryz.prog := fn_ok (k := y3r) (fn := Tryz.f33) (W := []) (H := []) Tryz.func33 wh0 trivial rfl rfl (fun av x => by kernel_rfl)
def zn9 (l0_1 : List Int) (x4 : Int) (x7 : Int) : Option (List Int) := some (l0_1.set x4.toNat (x7 - 1))
def zo0 (l0_1 : List Int) : Option (List Int) := some l0_1
def z1p (n : GNet) (t : Int) (p0_0 : List Int) (p0_1 : Int) (kx0_0 : List Int → Int → Int → Option (List Int)) (kx0_1 : List Int → Option (List Int)) : Nat → Int → List Int → Option (List Int)
  | 0, _, _ => none
  | n0 + 1, s0_0, l0_1 => if decide (s0_0 < p0_1) = true then ((getI p0_0 s0_0).bind fun x4 => ((getI l0_1 x4).bind fun x5 => (if decide (0 < x5) = true then ((getI l0_1 x4).bind fun x7 => (gd (ok64 (x7 - 1)) ((getI l0_1 x4).bind fun x9 => ((getI n.tasks t).bind fun x10 => (if decide (x10.join = 2) = true then (kx0_0 l0_1 x4 x7) else (gd (ok64 (s0_0 + 1)) ((z1p n t p0_0 p0_1 kx0_0 kx0_1 n0) (s0_0 + 1) (l0_1.set x4.toNat (x7 - 1))))))))) else (gd (ok64 (s0_0 + 1)) ((z1p n t p0_0 p0_1 kx0_0 kx0_1 n0) (s0_0 + 1) l0_1))))) else (kx0_1 l0_1)
def z87 (n : GNet) (marks : List Int) (t : Int) : Option (List Int) := (z0l marks).bind fun x1 => ((getI n.tasks t).bind fun x2 => (z1p n t x2.in_ (x2.in_.length : Int) zn9 zo0 FUEL 0 x1))
def z1g : Con := ⟨93, [.v (.s .net) false, .v (.sl .I) false, .v .I false], [((.sl .I), true)], [], fun x => z87 x.1 x.2.1 x.2.2.1⟩
def yn9 : Fs := ⟨[z1s], [], []⟩
theorem zz0 : yn9.Ok Tryz.prog := (fsK z3f fs0)
def zr0 : Tmpl := ⟨[(2, .c .i), (3, .c (.bx 3 0)), (7, .c (.ref 11)), (17, .c (.s .I)), (18, .c .i), (19, .c .i)], [(3, .boxT (.s .net)), (11, .arr .I true)]⟩
def z8u : Tmpl := ⟨[(7, .c (.ref 11))], [(11, .arr .I true)]⟩
def yc3 (av : AV) (x : HP z1g.ps) (n : Nat) (v : zr0.den) (K : Ks (CR z1g)) : Option (CR z1g) := z1p v.2.1 v.1.1 v.1.2.2.2.1 v.1.2.2.2.2.1 (fun l0_1 x4 x7 => z8u.at none (((), ()), ((l0_1.set x4.toNat (x7 - 1)), ())) (K (.exit 0))) (fun l0_1 => z8u.at none (((), ()), (l0_1, ())) (K (.exit 0))) n v.1.2.2.2.2.2.1 v.2.2.1
def zq5 (av : AV) (x : HP z1g.ps) : Hdl (CR z1g) := hnd [] zr0 (yc3 av x)
theorem yd4 : LP z1g Tryz.f93 [0] zq5 := lp_ok (W := []) (H := []) (xs := [z8u]) zz0 trivial rfl (fun av x v K => by kernel_rfl) (fun av x n v K => by kernel_rfl)
theorem yr4 : z1g.Ok Tryz.prog := fn_ok (k := z1g) (fn := Tryz.f93) (W := []) (H := [zq5]) Tryz.func93 zz0 ⟨yd4, trivial⟩ rfl rfl (fun av x => by kernel_rfl)
def y8c (l0_1 : List Int) : Option (List Int) := some l0_1
def z0o (t : GTask) (data : List Int) (p0_0 : List GFlow) (p0_1 : Int) (kx0_0 : List Int → Option (List Int)) : Nat → Int → List Int → Option (List Int)
  | 0, _, _ => none
  | n0 + 1, s0_0, l0_1 => if decide (s0_0 < p0_1) = true then ((getI p0_0 s0_0).bind fun x2 => ((z2c x2.if_ data).bind fun x3 => (if x3 = true then (if decide (t.split = 2) = true then (if decide (0 < (l0_1.length : Int)) = true then (gd (ok64 (s0_0 + 1)) ((z0o t data p0_0 p0_1 kx0_0 n0) (s0_0 + 1) l0_1)) else (if decide (t.split = 3) = true then (gd (ok64 ((t.out.length : Int) - 1)) (if decide (s0_0 = ((t.out.length : Int) - 1)) = true then (if decide (0 < (l0_1.length : Int)) = true then (gd (ok64 (s0_0 + 1)) ((z0o t data p0_0 p0_1 kx0_0 n0) (s0_0 + 1) l0_1)) else (gd (l0_1.length + [x2.to].length ≤ SMALL) (gd (ok64 (s0_0 + 1)) ((z0o t data p0_0 p0_1 kx0_0 n0) (s0_0 + 1) (l0_1 ++ [x2.to]))))) else (gd (l0_1.length + [x2.to].length ≤ SMALL) (gd (ok64 (s0_0 + 1)) ((z0o t data p0_0 p0_1 kx0_0 n0) (s0_0 + 1) (l0_1 ++ [x2.to])))))) else (gd (l0_1.length + [x2.to].length ≤ SMALL) (gd (ok64 (s0_0 + 1)) ((z0o t data p0_0 p0_1 kx0_0 n0) (s0_0 + 1) (l0_1 ++ [x2.to])))))) else (if decide (t.split = 3) = true then (gd (ok64 ((t.out.length : Int) - 1)) (if decide (s0_0 = ((t.out.length : Int) - 1)) = true then (if decide (0 < (l0_1.length : Int)) = true then (gd (ok64 (s0_0 + 1)) ((z0o t data p0_0 p0_1 kx0_0 n0) (s0_0 + 1) l0_1)) else (gd (l0_1.length + [x2.to].length ≤ SMALL) (gd (ok64 (s0_0 + 1)) ((z0o t data p0_0 p0_1 kx0_0 n0) (s0_0 + 1) (l0_1 ++ [x2.to]))))) else (gd (l0_1.length + [x2.to].length ≤ SMALL) (gd (ok64 (s0_0 + 1)) ((z0o t data p0_0 p0_1 kx0_0 n0) (s0_0 + 1) (l0_1 ++ [x2.to])))))) else (gd (l0_1.length + [x2.to].length ≤ SMALL) (gd (ok64 (s0_0 + 1)) ((z0o t data p0_0 p0_1 kx0_0 n0) (s0_0 + 1) (l0_1 ++ [x2.to])))))) else (gd (ok64 (s0_0 + 1)) ((z0o t data p0_0 p0_1 kx0_0 n0) (s0_0 + 1) l0_1))))) else (kx0_0 l0_1)
def zz9 (t : GTask) (data : List Int) : Option (List Int) := z0o t data t.out (t.out.length : Int) y8c FUEL 0 ([] : List Int)
def z62 : Con := ⟨173, [.v (.s .task) false, .v (.sl .I) false], [((.sl .I), true)], [], fun x => zz9 x.1 x.2.1⟩
def wt2 : Fs := ⟨[z49], [], []⟩
theorem w08 : wt2.Ok Tryz.prog := (fsK z76 fs0)
def yh9 : Tmpl := ⟨[(1, .c (.s .I)), (2, .c (.bx 2 0)), (5, .c (.ref 500005)), (9, .c (.s (.s .flow))), (10, .c .i), (11, .c .i)], [(2, .boxT (.s .task)), (500005, .arr .I true)]⟩
def y9w : Tmpl := ⟨[(5, .c (.ref 500005))], [(500005, .arr .I true)]⟩
def w6t (av : AV) (x : HP z62.ps) (n : Nat) (v : yh9.den) (K : Ks (CR z62)) : Option (CR z62) := z0o v.2.1 v.1.1 v.1.2.2.2.1 v.1.2.2.2.2.1 (fun l0_1 => y9w.at none (((), ()), (l0_1, ())) (K (.exit 0))) n v.1.2.2.2.2.2.1 v.2.2.1
def yf4 (av : AV) (x : HP z62.ps) : Hdl (CR z62) := hnd [.e 5 500005 .I] yh9 (w6t av x)
theorem w8i : LP z62 Tryz.f173 [0] yf4 := lp_ok (W := []) (H := []) (xs := [y9w]) w08 trivial rfl (fun av x v K => by kernel_rfl) (fun av x n v K => by kernel_rfl)
theorem wz0 : z62.Ok Tryz.prog := fn_ok (k := z62) (fn := Tryz.f173) (W := []) (H := [yf4]) Tryz.func173 w08 ⟨w8i, trivial⟩ rfl rfl (fun av x => by kernel_rfl)
def z91 (n : GNet) (l1_1 : List Int) : Option ((List Int) × Bool) := (z4c n l1_1).bind fun x21 => (if x21 = true then (some (l1_1, true)) else (some ([], false)))
def z5b (x14 : (List Int)) (p1_0 : Int) (kx1_0 : List Int → Option ((List Int) × Bool)) : Nat → Int → List Int → Option ((List Int) × Bool)
  | 0, _, _ => none
  | n1 + 1, s1_0, l1_1 => if decide (s1_0 < p1_0) = true then ((getI x14 s1_0).bind fun x16 => ((getI l1_1 x16).bind fun x17 => (gd (ok64 (x17 + 1)) ((getI l1_1 x16).bind fun x19 => (gd (ok64 (s1_0 + 1)) ((z5b x14 p1_0 kx1_0 n1) (s1_0 + 1) (l1_1.set x16.toNat (x17 + 1)))))))) else (kx1_0 l1_1)
def z90 (n : GNet) (t : Int) (data : List Int) (l0_1 : List Int) : Option ((List Int) × Bool) := (getI n.tasks t).bind fun x13 => ((zz9 x13 data).bind fun x14 => (z5b x14 (x14.length : Int) (z91 n) FUEL 0 l0_1))
def z5a (p0_0 : List Int) (p0_1 : Int) (kx0_0 : List Int → Option ((List Int) × Bool)) : Nat → Int → List Int → Option ((List Int) × Bool)
  | 0, _, _ => none
  | n0 + 1, s0_0, l0_1 => if decide (s0_0 < p0_1) = true then ((getI p0_0 s0_0).bind fun x10 => ((getI l0_1 x10).bind fun x11 => (gd (ok64 (s0_0 + 1)) ((z5a p0_0 p0_1 kx0_0 n0) (s0_0 + 1) (l0_1.set x10.toNat 0))))) else (kx0_0 l0_1)
def z80 (n : GNet) (marks : List Int) (t : Int) (data : List Int) : Option ((List Int) × Bool) := (zb6 n marks).bind fun x1 => (if x1 = true then ((z0n n t).bind fun x3 => (if x3 = true then ((z3a data).bind fun x5 => (if x5 = true then ((z0l marks).bind fun x7 => ((getI n.tasks t).bind fun x8 => (z5a x8.clear (x8.clear.length : Int) (z90 n t data) FUEL 0 x7))) else (some ([], false)))) else (some ([], false)))) else (some ([], false)))
def z0v : Con := ⟨115, [.v (.s .net) false, .v (.sl .I) false, .v .I false, .v (.sl .I) false], [((.sl .I), true), (.B, true)], [], fun x => z80 x.1 x.2.1 x.2.2.1 x.2.2.2.1⟩
def w7a : Fs := ⟨[zn5, z1o, z55, z1s, z62, z61], [], []⟩
theorem y0r : w7a.Ok Tryz.prog := (fsK y8t (fsK z4e (fsK z79 (fsK z3f (fsK wz0 (fsK zo3 fs0))))))
def y5o : Tmpl := ⟨[(2, .c .i), (3, .c (.s .I)), (4, .c (.bx 4 0)), (10, .c (.ref 31)), (37, .c (.s .I)), (38, .c .i), (39, .c .i)], [(4, .boxT (.s .net)), (31, .arr .I true)]⟩
def y2t : Tmpl := ⟨[(2, .c .i), (3, .c (.s .I)), (4, .c (.bx 4 0)), (10, .c (.ref 31))], [(4, .boxT (.s .net)), (31, .arr .I true)]⟩
def w16 (av : AV) (x : HP z0v.ps) (n : Nat) (v : y5o.den) (K : Ks (CR z0v)) : Option (CR z0v) := z5a v.1.2.2.2.2.1 v.1.2.2.2.2.2.1 (fun l0_1 => y2t.at none ((v.1.1, v.1.2.1, (), (), ()), (v.2.1, l0_1, ())) (K (.exit 0))) n v.1.2.2.2.2.2.2.1 v.2.2.1
def y4s (av : AV) (x : HP z0v.ps) : Hdl (CR z0v) := hnd [] y5o (w16 av x)
theorem w24 : LP z0v Tryz.f115 [0] y4s := lp_ok (W := []) (H := []) (xs := [y2t]) y0r trivial rfl (fun av x v K => by kernel_rfl) (fun av x n v K => by kernel_rfl)
def y5p : Tmpl := ⟨[(4, .c (.bx 4 0)), (10, .c (.ref 31)), (53, .c (.ref 53)), (54, .c .i), (55, .c .i)], [(4, .boxT (.s .net)), (31, .arr .I true), (53, .arr .I true)]⟩
def y2u : Tmpl := ⟨[(4, .c (.bx 4 0)), (10, .c (.ref 31))], [(4, .boxT (.s .net)), (31, .arr .I true)]⟩
def w17 (av : AV) (x : HP z0v.ps) (n : Nat) (v : y5p.den) (K : Ks (CR z0v)) : Option (CR z0v) := z5b v.2.2.2.1 v.1.2.2.2.1 (fun l1_1 => y2u.at none (((), (), ()), (v.2.1, l1_1, ())) (K (.exit 2))) n v.1.2.2.2.2.1 v.2.2.1
def y4t (av : AV) (x : HP z0v.ps) : Hdl (CR z0v) := hnd [] y5p (w17 av x)
theorem w25 : LP z0v Tryz.f115 [1] y4t := lp_ok (W := []) (H := []) (xs := [y2u]) y0r trivial rfl (fun av x v K => by kernel_rfl) (fun av x n v K => by kernel_rfl)
theorem w8z : z0v.Ok Tryz.prog := fn_ok (k := z0v) (fn := Tryz.f115) (W := []) (H := [y4s, y4t]) Tryz.func115 y0r ⟨w24, w25, trivial⟩ rfl rfl (fun av x => by kernel_rfl)
def y15 (n : Int) : Option Bool := (z0c n 0 7).bind fun x1 => (some (!x1))
def y1c : FCon := ⟨119, .I, [], fun z c => y15 z ⟩
def w7c : Fs := ⟨[z20], [], []⟩
theorem w83 : w7c.Ok Tryz.prog := (fsK z2p fs0)
theorem w91 : y1c.Ok Tryz.prog := FCon.ok (fn_ok (k := y1c.con) (fn := Tryz.f119) (W := []) (H := []) Tryz.func119 w83 trivial rfl rfl (fun av x => by kernel_rfl))
def zb7 (people : List Int) : Option Bool := (z0c (people.length : Int) 1 4).bind fun x1 => (if x1 = true then ((z2e people (fun z => y15 z )).bind fun x3 => (some (!x3))) else (some false))
def zn6 : Con := ⟨50, [.v (.sl .I) false], [(.B, true)], [], fun x => zb7 x.1⟩
def wt0 : Fs := ⟨[z20, z4o], [y1c], []⟩
theorem wv7 : wt0.Ok Tryz.prog := (fsK z2p (fsK z7w (fsF w91 fs0)))
theorem y8w : zn6.Ok Tryz.prog := fn_ok (k := zn6) (fn := Tryz.f50) (W := []) (H := []) Tryz.func50 wv7 trivial rfl rfl (fun av x => by kernel_rfl)
def zt0 (people : List Int) (who : Int) (role : Int) : Option Bool := (zb7 people).bind fun x1 => (if x1 = true then ((z0c who 1 (people.length : Int)).bind fun x3 => (if x3 = true then ((zf0 role).bind fun x5 => (if x5 = true then (gd (ok64 (who - 1)) ((getI people (who - 1)).bind fun x8 => (gd (ok64 (role - 1)) (gd ((0 : Int) ≤ (role - 1) ∧ (role - 1) ≤ (63 : Int)) (some (decide ((andI (shrI x8 (role - 1)) 1) = 1))))))) else (some false))) else (some false))) else (some false))
def y3t : Con := ⟨80, [.v (.sl .I) false, .v .I false, .v .I false], [(.B, true)], [], fun x => zt0 x.1 x.2.1 x.2.2.1⟩
def wd1 : Fs := ⟨[zn6, z20, zs2], [], []⟩
theorem wh2 : wd1.Ok Tryz.prog := (fsK y8w (fsK z2p (fsK yr5 fs0)))
theorem wl6 : y3t.Ok Tryz.prog := fn_ok (k := y3t) (fn := Tryz.f80) (W := []) (H := []) Tryz.func80 wh2 trivial rfl rfl (fun av x => by kernel_rfl)
def zs9 (did : List GDid) (who : Int) (task : Int) : Option Bool := (zw8 did (GDid.mk task who)).bind fun x1 => (some x1)
def y3s : Con := ⟨109, [.v (.sl (.s .did)) false, .v .I false, .v .I false], [(.B, true)], [], fun x => zs9 x.1 x.2.1 x.2.2.1⟩
def wd0 : Fs := ⟨[zw5], [], []⟩
theorem wh1 : wd0.Ok Tryz.prog := (fsK w5k fs0)
theorem wl5 : y3s.Ok Tryz.prog := fn_ok (k := y3s) (fn := Tryz.f109) (W := []) (H := []) Tryz.func109 wh1 trivial rfl rfl (fun av x => by kernel_rfl)
def zk4 (l0_1 : List Int) : Option (List Int) := some l0_1
def z3k (p : Int → Option Bool) (p0_0 : Int) (kx0_0 : List Int → Option (List Int)) : Nat → Int → List Int → Option (List Int)
  | 0, _, _ => none
  | n0 + 1, s0_0, l0_1 => if decide (s0_0 < p0_0) = true then (gd (ok64 (s0_0 + 1)) ((p (s0_0 + 1)).bind fun x5 => (if x5 = true then (gd (ok64 (s0_0 + 1)) (gd (l0_1.length + [(s0_0 + 1)].length ≤ SMALL) (gd (ok64 (s0_0 + 1)) ((z3k p p0_0 kx0_0 n0) (s0_0 + 1) (l0_1 ++ [(s0_0 + 1)]))))) else (gd (ok64 (s0_0 + 1)) ((z3k p p0_0 kx0_0 n0) (s0_0 + 1) l0_1))))) else (kx0_0 l0_1)
def y16 (people : List Int) (p : Int → Option Bool) : Option (List Int) := (zb7 people).bind fun x1 => (if x1 = true then (z3k p (people.length : Int) zk4 FUEL 0 ([] : List Int)) else (some []))
def z2r : Con := ⟨105, [.v (.sl .I) false, .fn .I], [((.sl .I), true)], [], fun x => y16 x.1 x.2.1⟩
def w7g : Fs := ⟨[zn6], [], []⟩
theorem ye1 : w7g.Ok Tryz.prog := (fsK y8w fs0)
def y5t : Tmpl := ⟨[(1, .c .fp), (5, .c (.ref 500005)), (11, .c .i), (12, .c .i)], [(500005, .arr .I true)]⟩
def y2y : Tmpl := ⟨[(5, .c (.ref 500005))], [(500005, .arr .I true)]⟩
def w1b (av : AV) (x : HP z2r.ps) (n : Nat) (v : y5t.den) (K : Ks (CR z2r)) : Option (CR z2r) := z3k x.2.1 v.1.2.2.1 (fun l0_1 => y2y.at (fpOf z2r.ps x av) (((), ()), (l0_1, ())) (K (.exit 0))) n v.1.2.2.2.1 v.2.1
def y4x (av : AV) (x : HP z2r.ps) : Hdl (CR z2r) := hnd [.e 5 500005 .I] y5t (w1b av x)
theorem w29 : LP z2r Tryz.f105 [0] y4x := lp_ok (W := []) (H := []) (xs := [y2y]) ye1 trivial rfl (fun av x v K => by kernel_rfl) (fun av x n v K => by kernel_rfl)
theorem w94 : z2r.Ok Tryz.prog := fn_ok (k := z2r) (fn := Tryz.f105) (W := []) (H := [y4x]) Tryz.func105 ye1 ⟨w29, trivial⟩ rfl rfl (fun av x => by kernel_rfl)
def zk2 (b : GItem) (task : GTask) (who : Int) : Option Bool := if decide (b.task = task.apart) = true then (some (decide (b.who = who))) else (some false)
def zk9 : FCon := ⟨108, (.s .item), [(.s .task), .I], fun z c => zk2 z c.1 c.2.1⟩
def yw3 : Fs := ⟨[], [], []⟩
theorem yx0 : yw3.Ok Tryz.prog := fs0
theorem yz3 : zk9.Ok Tryz.prog := FCon.ok (fn_ok (k := zk9.con) (fn := Tryz.f108) (W := []) (H := []) Tryz.func108 yx0 trivial rfl rfl (fun av x => by kernel_rfl))
def z8k (who : Int) (busy : List GItem) (task : GTask) (people : List Int) (did : List GDid) : Option Bool := (z6i busy (fun z => zk2 z task who)).bind fun x1 => ((zt0 people who task.role).bind fun x2 => (if x2 = true then (if x1 = true then (some false) else ((zs9 did who task.apart).bind fun x5 => (some (!x5)))) else (some false)))
def zx7 : FCon := ⟨106, .I, [(.sl (.s .item)), (.s .task), (.sl .I), (.sl (.s .did))], fun z c => z8k z c.1 c.2.1 c.2.2.1 c.2.2.2.1⟩
def w42 : Fs := ⟨[z9e, y3t, y3s], [zk9], []⟩
theorem w4n : w42.Ok Tryz.prog := (fsK yd5 (fsK wl6 (fsK wl5 (fsF yz3 fs0))))
theorem w5n : zx7.Ok Tryz.prog := FCon.ok (fn_ok (k := zx7.con) (fn := Tryz.f106) (W := []) (H := []) Tryz.func106 w4n trivial rfl rfl (fun av x => by kernel_rfl))
def zt1 (n : GNet) (people : List Int) (did : List GDid) (busy : List GItem) (t : Int) : Option (List Int) := (z8j n).bind fun x1 => (if x1 = true then ((z0n n t).bind fun x3 => (if x3 = true then ((getI n.tasks t).bind fun x5 => ((y16 people (fun z => z8k z busy x5 people did)).bind fun x6 => (some x6))) else (some []))) else (some []))
def y3u : Con := ⟨35, [.v (.s .net) false, .v (.sl .I) false, .v (.sl (.s .did)) false, .v (.sl (.s .item)) false, .v .I false], [((.sl .I), true)], [], fun x => zt1 x.1 x.2.1 x.2.2.1 x.2.2.2.1 x.2.2.2.2.1⟩
def wd2 : Fs := ⟨[zb1, z1o, z2r], [zx7], []⟩
theorem wh3 : wd2.Ok Tryz.prog := (fsK y07 (fsK z4e (fsK w94 (fsF w5n fs0))))
theorem wl7 : y3u.Ok Tryz.prog := fn_ok (k := y3u) (fn := Tryz.f35) (W := []) (H := []) Tryz.func35 wh3 trivial rfl rfl (fun av x => by kernel_rfl)
def ze4 (n : GNet) (data : List Int) : Option GCase := (z8j n).bind fun x1 => (if x1 = true then ((z3a data).bind fun x3 => (if x3 = true then (gd ((0 : Int) ≤ n.places ∧ n.places ≤ (1000000000 : Int)) ((z0l data).bind fun x6 => ((getI (List.replicate n.places.toNat (0 : Int)) 0).bind fun x7 => (some (GCase.mk 1 ((List.replicate n.places.toNat (0 : Int)).set (0 : Int).toNat 1) [] x6 []))))) else (some (GCase.mk 0 [] [] [] [])))) else (some (GCase.mk 0 [] [] [] [])))
def y3q : Con := ⟨65, [.v (.s .net) false, .v (.sl .I) false], [((.s .kase), true)], [], fun x => ze4 x.1 x.2.1⟩
def wc8 : Fs := ⟨[zb1, z55, z1s], [], []⟩
theorem wg9 : wc8.Ok Tryz.prog := (fsK y07 (fsK z79 (fsK z3f fs0)))
theorem wl3 : y3q.Ok Tryz.prog := fn_ok (k := y3q) (fn := Tryz.f65) (W := []) (H := []) Tryz.func65 wg9 trivial rfl rfl (fun av x => by kernel_rfl)
def ze5 (c : GCase) : Option Bool := if decide (c.state = 1) = true then ((getI c.marks 1).bind fun x16 => (some (decide (x16 = 0)))) else (if decide (c.state = 2) = true then (if decide ((c.busy.length : Int) = 0) = true then ((getI c.marks 1).bind fun x19 => (some ((decide (c.state = 2)) == (decide (0 < x19))))) else (some false)) else (if decide (c.state = 3) = true then (if decide ((c.busy.length : Int) = 0) = true then ((getI c.marks 1).bind fun x22 => (some ((decide (c.state = 2)) == (decide (0 < x22))))) else (some false)) else (some false)))
def z6o (n : GNet) (p0_0 : List GDid) (p0_1 : Int) (kx0_0 : Option Bool) : Nat → Int → Option Bool
  | 0, _ => none
  | n0 + 1, s0_0 => if decide (s0_0 < p0_1) = true then ((getI p0_0 s0_0).bind fun x9 => ((z0n n x9.task).bind fun x10 => (if x10 = true then ((z8m x9.who).bind fun x12 => (if x12 = true then (gd (ok64 (s0_0 + 1)) ((z6o n p0_0 p0_1 kx0_0 n0) (s0_0 + 1))) else (some false))) else (some false)))) else (kx0_0)
def zn7 (n : GNet) (c : GCase) : Option Bool := (zb6 n c.marks).bind fun x1 => (if x1 = true then ((z4t n c.busy).bind fun x3 => (if x3 = true then ((z3a c.data).bind fun x5 => (if x5 = true then (if decide (60 < (c.did.length : Int)) = true then (some false) else (z6o n c.did (c.did.length : Int) (ze5 c) FUEL 0)) else (some false))) else (some false))) else (some false))
def z54 : Con := ⟨30, [.v (.s .net) false, .v (.s .kase) false], [(.B, true)], [], fun x => zn7 x.1 x.2.1⟩
def ws3 : Fs := ⟨[zn5, z0r, z55, z1o, ze0], [], []⟩
theorem w06 : ws3.Ok Tryz.prog := (fsK y8t (fsK zq8 (fsK z79 (fsK z4e (fsK y8y fs0)))))
def yh5 : Tmpl := ⟨[(2, .c (.bx 2 0)), (3, .c (.bx 3 0)), (32, .c (.s (.s .did))), (33, .c .i), (34, .c .i)], [(2, .boxT (.s .net)), (3, .boxT (.s .kase))]⟩
def y9s : Tmpl := ⟨[(3, .c (.bx 3 0))], [(3, .boxT (.s .kase))]⟩
def w6p (av : AV) (x : HP z54.ps) (n : Nat) (v : yh5.den) (K : Ks (CR z54)) : Option (CR z54) := z6o v.2.1 v.1.2.2.1 v.1.2.2.2.1 (y9s.at none (((), ()), (v.2.2.1, ())) (K (.exit 0))) n v.1.2.2.2.2.1
def yf0 (av : AV) (x : HP z54.ps) : Hdl (CR z54) := hnd [] yh5 (w6p av x)
theorem w8e : LP z54 Tryz.f30 [0] yf0 := lp_ok (W := []) (H := []) (xs := [y9s]) w06 trivial rfl (fun av x v K => by kernel_rfl) (fun av x n v K => by kernel_rfl)
theorem w0r : z54.Ok Tryz.prog := fn_ok (k := z54) (fn := Tryz.f30) (W := []) (H := [yf0]) Tryz.func30 w06 ⟨w8e, trivial⟩ rfl rfl (fun av x => by kernel_rfl)
def z81 (n : GNet) (c : GCase) : Option Bool := (zn7 n c).bind fun x1 => (if x1 = true then (some (decide (c.state = 1))) else (some false))
def z9n : Con := ⟨85, [.v (.s .net) false, .v (.s .kase) false], [(.B, true)], [], fun x => z81 x.1 x.2.1⟩
def w7h : Fs := ⟨[z54], [], []⟩
theorem w85 : w7h.Ok Tryz.prog := (fsK w0r fs0)
theorem y18 : z9n.Ok Tryz.prog := fn_ok (k := z9n) (fn := Tryz.f85) (W := []) (H := []) Tryz.func85 w85 trivial rfl rfl (fun av x => by kernel_rfl)
def ze6 (n : GNet) (people : List Int) (c : GCase) (t : Int) (who : Int) : Option (GCase × Bool) := (z08 c).bind fun x1 => ((z81 n c).bind fun x2 => (if x2 = true then (if decide ((c.busy.length : Int) = 6) = true then (some (x1, false)) else ((zs8 n c.marks c.busy t).bind fun x5 => (if x5 = true then ((zt1 n people c.did c.busy t).bind fun x7 => ((zb3 x7 who).bind fun x8 => (if x8 = true then ((z87 n c.marks t).bind fun x10 => (gd (x1.busy.length + [(GItem.mk t who 0)].length ≤ SMALL) ((z08 (GCase.mk x1.state x10 (x1.busy ++ [(GItem.mk t who 0)]) x1.data x1.did)).bind fun x12 => (some (x12, true))))) else (some (x1, false))))) else (some (x1, false))))) else (some (x1, false))))
def zw6 : Con := ⟨27, [.v (.s .net) false, .v (.sl .I) false, .v (.s .kase) false, .v .I false, .v .I false], [((.s .kase), true), (.B, true)], [], fun x => ze6 x.1 x.2.1 x.2.2.1 x.2.2.2.1 x.2.2.2.2.1⟩
def w3z : Fs := ⟨[z31, z9n, y3r, y3u, zn3, z1g], [], []⟩
theorem w4k : w3z.Ok Tryz.prog := (fsK z6m (fsK y18 (fsK wl4 (fsK wl7 (fsK y8q (fsK yr4 fs0))))))
theorem w5l : zw6.Ok Tryz.prog := fn_ok (k := zw6) (fn := Tryz.f27) (W := []) (H := []) Tryz.func27 w4k trivial rfl rfl (fun av x => by kernel_rfl)
end
end Go.Am
