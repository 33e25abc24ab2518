/- Mirrors and contracts, printed. Own work. -/
import Derived.Test.YtgolgnbgomhknaaGreatApD1
set_option maxRecDepth 100000
set_option maxHeartbeats 4000000
set_option linter.unusedVariables false
set_option linter.unusedSimpArgs false
namespace Go.Am
noncomputable section
open Go Go.Proofs
def z03 (n : Int) (low : Int) (high : Int) : Option Bool := if decide (low ≤ n) = true then (some (decide (n ≤ high))) else (some false)
def z0n : Con := ⟨90, [.v .I false, .v .I false, .v .I false], [(.B, true)], [], fun x => z03 x.1 x.2.1 x.2.2.1⟩
def v1e : Fs := ⟨[], [], []⟩
theorem v1i : v1e.Ok Tryz.prog := fs0
theorem z0v : z0n.Ok Tryz.prog := fn_ok (k := z0n) (fn := Tryz.f90) (W := []) (H := []) Tryz.func90 v1i trivial rfl rfl (fun av x => by kernel_rfl)
def y8a  : Option Bool := some true
def z6x (data : List Int) (kx0_0 : Option Bool) : Nat → Int → Option Bool
  | 0, _ => none
  | n0 + 1, s0_0 => if decide (s0_0 < (data.length : Int)) = true then ((getI data s0_0).bind fun x3 => ((z03 x3 (-99) 99).bind fun x4 => (if x4 = true then (gd (ok64 (s0_0 + 1)) ((z6x data kx0_0 n0) (s0_0 + 1))) else (some false)))) else (kx0_0)
def z2o (data : List Int) : Option Bool := if decide ((data.length : Int) = 3) = true then (z6x data y8a FUEL 0) else (some false)
def z18 : Con := ⟨89, [.v (.sl .I) false], [(.B, true)], [], fun x => z2o x.1⟩
def wt2 : Fs := ⟨[z0n], [], []⟩
theorem w0e : wt2.Ok Tryz.prog := (fsK z0v fs0)
def yi2 : Tmpl := ⟨[(0, .c (.s .I)), (3, .c .i)], []⟩
def y9w : Tmpl := ⟨[], []⟩
def w6x (av : AV) (x : HP z18.ps) (n : Nat) (v : yi2.den) (K : Ks (CR z18)) : Option (CR z18) := z6x v.1.1 (y9w.at none ((), ()) (K (.exit 0))) n v.1.2.1
def yf7 (av : AV) (x : HP z18.ps) : Hdl (CR z18) := hnd [] yi2 (w6x av x)
theorem w8m : LP z18 Tryz.f89 [0] yf7 := lp_ok (W := []) (H := []) (xs := [y9w]) w0e trivial rfl (fun av x v K => by kernel_rfl) (fun av x n v K => by kernel_rfl)
theorem z6e : z18.Ok Tryz.prog := fn_ok (k := z18) (fn := Tryz.f89) (W := []) (H := [yf7]) Tryz.func89 w0e ⟨w8m, trivial⟩ rfl rfl (fun av x => by kernel_rfl)
def z7j (data : List Int) (k : Int) (n : Int) : Option (List Int) := (z2o data).bind fun x1 => (if x1 = true then ((z03 k 0 2).bind fun x3 => (if x3 = true then ((z03 n (-99) 99).bind fun x5 => (if x5 = true then (gd (([] : List Int).length + data.length ≤ SMALL) ((getI (([] : List Int) ++ data) k).bind fun x8 => (some ((([] : List Int) ++ data).set k.toNat n)))) else (gd (([] : List Int).length + data.length ≤ SMALL) (some (([] : List Int) ++ data))))) else (gd (([] : List Int).length + data.length ≤ SMALL) (some (([] : List Int) ++ data))))) else (gd (([] : List Int).length + data.length ≤ SMALL) (some (([] : List Int) ++ data))))
def zs0 : Con := ⟨171, [.v (.sl .I) false, .v .I false, .v .I false], [((.sl .I), true)], [], fun x => z7j x.1 x.2.1 x.2.2.1⟩
def we4 : Fs := ⟨[z18, z0n], [], []⟩
theorem wi0 : we4.Ok Tryz.prog := (fsK z6e (fsK z0v fs0))
theorem yr7 : zs0.Ok Tryz.prog := fn_ok (k := zs0) (fn := Tryz.f171) (W := []) (H := []) Tryz.func171 wi0 trivial rfl rfl (fun av x => by kernel_rfl)
def z69 (e : GAsk) : Option Bool := if decide (e.op = 0) = true then (some (decide ([e.op, e.var, e.k] = [0, 0, 0]))) else ((z03 e.op 1 3).bind fun x2 => (if x2 = true then ((z03 e.var 0 2).bind fun x4 => (if x4 = true then ((z03 e.k (-99) 99).bind fun x6 => (some x6)) else (some false))) else (some false)))
def z8g : Con := ⟨138, [.v (.s .ask) false], [(.B, true)], [], fun x => z69 x.1⟩
def wt5 : Fs := ⟨[z0n], [], []⟩
theorem wv5 : wt5.Ok Tryz.prog := (fsK z0v fs0)
theorem zn9 : z8g.Ok Tryz.prog := fn_ok (k := z8g) (fn := Tryz.f138) (W := []) (H := []) Tryz.func138 wv5 trivial rfl rfl (fun av x => by kernel_rfl)
def z1c (e : GAsk) (data : List Int) : Option Bool := (z69 e).bind fun x1 => (if x1 = true then ((z2o data).bind fun x3 => (if x3 = true then (if decide (e.op = 1) = true then ((getI data e.var).bind fun x6 => (some (decide (x6 < e.k)))) else (if decide (e.op = 2) = true then ((getI data e.var).bind fun x8 => (some (decide (x8 = e.k)))) else (if decide (e.op = 3) = true then ((getI data e.var).bind fun x10 => (some (decide (e.k < x10)))) else (some true)))) else (some false))) else (some false))
def z4a : Con := ⟨181, [.v (.s .ask) false, .v (.sl .I) false], [(.B, true)], [], fun x => z1c x.1 x.2.1⟩
def w48 : Fs := ⟨[z8g, z18], [], []⟩
theorem w4s : w48.Ok Tryz.prog := (fsK zn9 (fsK z6e fs0))
theorem z75 : z4a.Ok Tryz.prog := fn_ok (k := z4a) (fn := Tryz.f181) (W := []) (H := []) Tryz.func181 w4s trivial rfl rfl (fun av x => by kernel_rfl)
def z0c (n : Int) (low : Int) (high : Int) : Option Bool := if decide (low ≤ n) = true then (some (decide (n ≤ high))) else (some false)
def z20 : Con := ⟨113, [.v .I false, .v .I false, .v .I false], [(.B, true)], [], fun x => z0c x.1 x.2.1 x.2.2.1⟩
def v5z : Fs := ⟨[], [], []⟩
theorem v6a : v5z.Ok Tryz.prog := fs0
theorem z2q : z20.Ok Tryz.prog := fn_ok (k := z20) (fn := Tryz.f113) (W := []) (H := []) Tryz.func113 v6a trivial rfl rfl (fun av x => by kernel_rfl)
def z56 (n : Int) : Option Bool := (z0c n (-99) 99).bind fun x1 => (some x1)
def z7y : Con := ⟨114, [.v .I false], [(.B, true)], [], fun x => z56 x.1⟩
def w7f : Fs := ⟨[z20], [], []⟩
theorem w84 : w7f.Ok Tryz.prog := (fsK z2q fs0)
theorem zm5 : z7y.Ok Tryz.prog := fn_ok (k := z7y) (fn := Tryz.f114) (W := []) (H := []) Tryz.func114 w84 trivial rfl rfl (fun av x => by kernel_rfl)
def z0l (list : List Int) : Option (List Int) := gd (([] : List Int).length + list.length ≤ SMALL) (some (([] : List Int) ++ list))
def z1t : Con := ⟨140, [.v (.sl .I) false], [((.sl .I), true)], [], fun x => z0l x.1⟩
def w1s : Fs := ⟨[], [], []⟩
theorem w1z : w1s.Ok Tryz.prog := fs0
theorem z3f : z1t.Ok Tryz.prog := fn_ok (k := z1t) (fn := Tryz.f140) (W := []) (H := []) Tryz.func140 w1z trivial rfl rfl (fun av x => by kernel_rfl)
def z76 (e : GAsk) : Option Bool := if decide (e.op = 0) = true then (if decide (e.var = 0) = true then (some (decide (e.k = 0))) else (some false)) else ((z0c e.op 1 3).bind fun x3 => (if x3 = true then ((z0c e.var 0 2).bind fun x5 => (if x5 = true then ((z56 e.k).bind fun x7 => (some x7)) else (some false))) else (some false)))
def zn2 : Con := ⟨141, [.v (.s .ask) false], [(.B, true)], [], fun x => z76 x.1⟩
def ws3 : Fs := ⟨[z20, z7y], [], []⟩
theorem wv0 : ws3.Ok Tryz.prog := (fsK z2q (fsK zm5 fs0))
theorem y8n : zn2.Ok Tryz.prog := fn_ok (k := zn2) (fn := Tryz.f141) (W := []) (H := []) Tryz.func141 wv0 trivial rfl rfl (fun av x => by kernel_rfl)
def y28  : Option Bool := some true
def z3r (list : List Int) (low : Int) (high : Int) (kx0_0 : Option Bool) : Nat → Int → Option Bool
  | 0, _ => none
  | n0 + 1, s0_0 => if decide (s0_0 < (list.length : Int)) = true then ((getI list s0_0).bind fun x4 => ((z03 x4 low high).bind fun x5 => (if x5 = true then (if decide (0 < s0_0) = true then (gd (ok64 (s0_0 - 1)) ((getI list (s0_0 - 1)).bind fun x9 => ((getI list s0_0).bind fun x10 => (if decide (x10 ≤ x9) = true then (some false) else (gd (ok64 (s0_0 + 1)) ((z3r list low high kx0_0 n0) (s0_0 + 1))))))) else (gd (ok64 (s0_0 + 1)) ((z3r list low high kx0_0 n0) (s0_0 + 1)))) else (some false)))) else (kx0_0)
def z9q (list : List Int) (least : Int) (most : Int) (low : Int) (high : Int) : Option Bool := (z03 (list.length : Int) least most).bind fun x1 => (if x1 = true then (z3r list low high y28 FUEL 0) else (some false))
def z44 : Con := ⟨214, [.v (.sl .I) false, .v .I false, .v .I false, .v .I false, .v .I false], [(.B, true)], [], fun x => z9q x.1 x.2.1 x.2.2.1 x.2.2.2.1 x.2.2.2.2.1⟩
def w7x : Fs := ⟨[z0n], [], []⟩
theorem ye7 : w7x.Ok Tryz.prog := (fsK z0v fs0)
def y62 : Tmpl := ⟨[(0, .c (.s .I)), (3, .c .i), (4, .c .i), (11, .c .i)], []⟩
def y36 : Tmpl := ⟨[], []⟩
def w1o (av : AV) (x : HP z44.ps) (n : Nat) (v : y62.den) (K : Ks (CR z44)) : Option (CR z44) := z3r v.1.1 v.1.2.1 v.1.2.2.1 (y36.at none ((), ()) (K (.exit 0))) n v.1.2.2.2.1
def y56 (av : AV) (x : HP z44.ps) : Hdl (CR z44) := hnd [] y62 (w1o av x)
theorem w2m : LP z44 Tryz.f214 [0] y56 := lp_ok (W := []) (H := []) (xs := [y36]) ye7 trivial rfl (fun av x v K => by kernel_rfl) (fun av x n v K => by kernel_rfl)
theorem w9h : z44.Ok Tryz.prog := fn_ok (k := z44) (fn := Tryz.f214) (W := []) (H := [y56]) Tryz.func214 ye7 ⟨w2m, trivial⟩ rfl rfl (fun av x => by kernel_rfl)
def y8k  : Option Bool := some false
def z73 (list : List Int) (n : Int) (kx0_0 : Option Bool) : Nat → Int → Option Bool
  | 0, _ => none
  | n0 + 1, s0_0 => if decide (s0_0 < (list.length : Int)) = true then ((getI list s0_0).bind fun x2 => (if decide (x2 = n) = true then (some true) else (gd (ok64 (s0_0 + 1)) ((z73 list n kx0_0 n0) (s0_0 + 1))))) else (kx0_0)
def zb7 (list : List Int) (n : Int) : Option Bool := z73 list n y8k FUEL 0
def z4b : Con := ⟨101, [.v (.sl .I) false, .v .I false], [(.B, true)], [], fun x => zb7 x.1 x.2.1⟩
def wu1 : Fs := ⟨[], [], []⟩
theorem w0k : wu1.Ok Tryz.prog := fs0
def yi9 : Tmpl := ⟨[(0, .c (.s .I)), (1, .c .i), (5, .c .i)], []⟩
def ya2 : Tmpl := ⟨[], []⟩
def w74 (av : AV) (x : HP z4b.ps) (n : Nat) (v : yi9.den) (K : Ks (CR z4b)) : Option (CR z4b) := z73 v.1.1 v.1.2.1 (ya2.at none ((), ()) (K (.exit 0))) n v.1.2.2.1
def yg4 (av : AV) (x : HP z4b.ps) : Hdl (CR z4b) := hnd [] yi9 (w74 av x)
theorem w8t : LP z4b Tryz.f101 [0] yg4 := lp_ok (W := []) (H := []) (xs := [ya2]) w0k trivial rfl (fun av x v K => by kernel_rfl) (fun av x n v K => by kernel_rfl)
theorem y8z : z4b.Ok Tryz.prog := fn_ok (k := z4b) (fn := Tryz.f101) (W := []) (H := [yg4]) Tryz.func101 w0k ⟨w8t, trivial⟩ rfl rfl (fun av x => by kernel_rfl)
def y25 (s0_0 : Int) (bk0 : Int → Option Bool) : Option Bool := gd (ok64 (s0_0 + 1)) (bk0 (s0_0 + 1))
def z2p (t : GTask) (s0_0 : Int) (x4 : GFlow) (kx1_0 : Option Bool) : Nat → Int → Option Bool
  | 0, _ => none
  | n1 + 1, s1_0 => if decide (s1_0 < s0_0) = true then ((getI t.out s1_0).bind fun x14 => (if decide (x14.to = x4.to) = true then (some false) else (gd (ok64 (s1_0 + 1)) ((z2p t s0_0 x4 kx1_0 n1) (s1_0 + 1))))) else (kx1_0)
def y26 (s0_0 : Int) (bk0 : Int → Option Bool) : Option Bool := gd (ok64 (s0_0 + 1)) (bk0 (s0_0 + 1))
def y27  : Option Bool := some true
def z3q (t : GTask) (places : Int) (kx0_0 : Option Bool) : Nat → Int → Option Bool
  | 0, _ => none
  | n0 + 1, s0_0 => if decide (s0_0 < (t.out.length : Int)) = true then ((getI t.out s0_0).bind fun x4 => (gd (ok64 ((t.out.length : Int) - 1)) (if decide (s0_0 = ((t.out.length : Int) - 1)) = true then (gd (ok64 (places - 1)) ((z03 x4.to 1 (places - 1)).bind fun x8 => (if x8 = true then ((z69 x4.if_).bind fun x10 => (if x10 = true then (if (true == (decide (x4.if_.op = 0))) = true then (z2p t s0_0 x4 (y25 s0_0 (z3q t places kx0_0 n0)) FUEL 0) else (some false)) else (some false))) else (some false)))) else (gd (ok64 (places - 1)) ((z03 x4.to 1 (places - 1)).bind fun x19 => (if x19 = true then ((z69 x4.if_).bind fun x21 => (if x21 = true then (if ((decide (t.split = 1)) == (decide (x4.if_.op = 0))) = true then (z2p t s0_0 x4 (y26 s0_0 (z3q t places kx0_0 n0)) FUEL 0) else (some false)) else (some false))) else (some false))))))) else (kx0_0)
def zm4 (t : GTask) (places : Int) : Option Bool := (z03 (t.out.length : Int) 1 3).bind fun x1 => (if x1 = true then (z3q t places y27 FUEL 0) else (some false))
def z0z : Con := ⟨215, [.v (.s .task) false, .v .I false], [(.B, true)], [], fun x => zm4 x.1 x.2.1⟩
def w7w : Fs := ⟨[z0n, z8g], [], []⟩
theorem y0r : w7w.Ok Tryz.prog := (fsK z0v (fsK zn9 fs0))
def y0a : Tmpl := ⟨[(1, .c .i), (2, .c (.bx 2 0)), (5, .c .i), (6, .c (.bx 6 0)), (8, .c .i)], [(2, .boxT (.s .task)), (6, .boxT (.s .flow))]⟩
def zy0 : Tmpl := ⟨[(1, .c .i), (2, .c (.bx 2 0)), (5, .c .i)], [(2, .boxT (.s .task))]⟩
def ym7 (av : AV) (x : HP z0z.ps) (n : Nat) (v : y0a.den) (K : Ks (CR z0z)) : Option (CR z0z) := z2p v.2.1 v.1.2.2.1 v.2.2.1 (zy0.at none ((v.1.1, (), v.1.2.2.1, ()), (v.2.1, ())) (K (.exit 2))) n v.1.2.2.2.2.1
def zy7 (av : AV) (x : HP z0z.ps) : Hdl (CR z0z) := hnd [] y0a (ym7 av x)
theorem yq3 : LP z0z Tryz.f215 [0, 0] zy7 := lp_ok (W := []) (H := []) (xs := [zy0]) y0r trivial rfl (fun av x v K => by kernel_rfl) (fun av x n v K => by kernel_rfl)
def y61 : Tmpl := ⟨[(1, .c .i), (2, .c (.bx 2 0)), (5, .c .i)], [(2, .boxT (.s .task))]⟩
def y35 : Tmpl := ⟨[], []⟩
def w1n (av : AV) (x : HP z0z.ps) (n : Nat) (v : y61.den) (K : Ks (CR z0z)) : Option (CR z0z) := z3q v.2.1 v.1.1 (y35.at none ((), ()) (K (.exit 0))) n v.1.2.2.1
def y55 (av : AV) (x : HP z0z.ps) : Hdl (CR z0z) := hnd [] y61 (w1n av x)
theorem w2l : LP z0z Tryz.f215 [0] y55 := lp_ok (W := []) (H := [zy7]) (xs := [y35]) y0r ⟨yq3, trivial⟩ rfl (fun av x v K => by kernel_rfl) (fun av x n v K => by kernel_rfl)
theorem w9g : z0z.Ok Tryz.prog := fn_ok (k := z0z) (fn := Tryz.f215) (W := []) (H := [y55]) Tryz.func215 y0r ⟨w2l, trivial⟩ rfl rfl (fun av x => by kernel_rfl)
def zt8 (t : GTask) (places : Int) (tasks : Int) : Option Bool := (z03 t.join 1 3).bind fun x1 => (if x1 = true then ((z03 t.split 1 3).bind fun x3 => (if x3 = true then (gd (ok64 (places - 1)) ((z9q t.in_ 1 3 0 (places - 1)).bind fun x6 => (if x6 = true then ((zb7 t.in_ 1).bind fun x8 => (if x8 = true then (some false) else ((zm4 t places).bind fun x10 => (if x10 = true then (gd (ok64 (places - 1)) ((z9q t.clear 0 places 2 (places - 1)).bind fun x13 => (if x13 = true then ((z03 t.role 1 3).bind fun x15 => (if x15 = true then (gd (ok64 (tasks - 1)) ((z03 t.apart (-1) (tasks - 1)).bind fun x18 => (if x18 = true then ((z03 t.all 1 3).bind fun x20 => (if x20 = true then ((z03 t.need 1 t.all).bind fun x22 => (some x22)) else (some false))) else (some false)))) else (some false))) else (some false)))) else (some false))))) else (some false)))) else (some false))) else (some false))
def y3w : Con := ⟨198, [.v (.s .task) false, .v .I false, .v .I false], [(.B, true)], [], fun x => zt8 x.1 x.2.1 x.2.2.1⟩
def wf6 : Fs := ⟨[z0n, z44, z4b, z0z], [], []⟩
theorem wi7 : wf6.Ok Tryz.prog := (fsK z0v (fsK w9h (fsK y8z (fsK w9g fs0))))
theorem wm8 : y3w.Ok Tryz.prog := fn_ok (k := y3w) (fn := Tryz.f198) (W := []) (H := []) Tryz.func198 wi7 trivial rfl rfl (fun av x => by kernel_rfl)
def y8d  : Option Bool := some true
def z70 (n : GNet) (kx0_0 : Option Bool) : Nat → Int → Option Bool
  | 0, _ => none
  | n0 + 1, s0_0 => if decide (s0_0 < (n.tasks.length : Int)) = true then ((getI n.tasks s0_0).bind fun x6 => ((zt8 x6 n.places (n.tasks.length : Int)).bind fun x7 => (if x7 = true then (gd (ok64 (s0_0 + 1)) ((z70 n kx0_0 n0) (s0_0 + 1))) else (some false)))) else (kx0_0)
def z3c (n : GNet) : Option Bool := (z03 n.places 2 8).bind fun x1 => (if x1 = true then ((z03 (n.tasks.length : Int) 1 6).bind fun x3 => (if x3 = true then (z70 n y8d FUEL 0) else (some false))) else (some false))
def z2m : Con := ⟨161, [.v (.s .net) false], [(.B, true)], [], fun x => z3c x.1⟩
def wt7 : Fs := ⟨[z0n, y3w], [], []⟩
theorem w0h : wt7.Ok Tryz.prog := (fsK z0v (fsK wm8 fs0))
def yi5 : Tmpl := ⟨[(1, .c (.bx 1 0)), (3, .c .i)], [(1, .boxT (.s .net))]⟩
def y9z : Tmpl := ⟨[], []⟩
def w70 (av : AV) (x : HP z2m.ps) (n : Nat) (v : yi5.den) (K : Ks (CR z2m)) : Option (CR z2m) := z70 v.2.1 (y9z.at none ((), ()) (K (.exit 0))) n v.1.2.1
def yg0 (av : AV) (x : HP z2m.ps) : Hdl (CR z2m) := hnd [] yi5 (w70 av x)
theorem w8p : LP z2m Tryz.f161 [0] yg0 := lp_ok (W := []) (H := []) (xs := [y9z]) w0h trivial rfl (fun av x v K => by kernel_rfl) (fun av x n v K => by kernel_rfl)
theorem zo0 : z2m.Ok Tryz.prog := fn_ok (k := z2m) (fn := Tryz.f161) (W := []) (H := [yg0]) Tryz.func161 w0h ⟨w8p, trivial⟩ rfl rfl (fun av x => by kernel_rfl)
def zg4 (s1_0 : Int) (bk1 : Int → List Bool → Option (List Bool)) (l3_1 : List Bool) : Option (List Bool) := gd (ok64 (s1_0 + 1)) (bk1 (s1_0 + 1) l3_1)
def zg5 (s1_0 : Int) (bk1 : Int → List Bool → Option (List Bool)) (l3_1 : List Bool) : Option (List Bool) := gd (ok64 (s1_0 + 1)) (bk1 (s1_0 + 1) l3_1)
def zg6 (s1_0 : Int) (bk1 : Int → List Bool → Option (List Bool)) (l3_1 : List Bool) : Option (List Bool) := gd (ok64 (s1_0 + 1)) (bk1 (s1_0 + 1) l3_1)
def z1j (n : GNet) (but : Int) (s1_0 : Int) (s2_0 : Bool) (kx3_0 : List Bool → Option (List Bool)) (kx3_1 : List Bool → Option (List Bool)) (kx3_2 : List Bool → Option (List Bool)) : Nat → Int → List Bool → Option (List Bool)
  | 0, _, _ => none
  | n3 + 1, s3_0, l3_1 => (getI n.tasks s1_0).bind fun x12 => (if decide (s3_0 < (x12.out.length : Int)) = true then (if s2_0 = true then (if decide (s1_0 = but) = true then (kx3_0 l3_1) else ((getI n.tasks s1_0).bind fun x17 => ((getI x17.out s3_0).bind fun x18 => ((getI l3_1 x18.to).bind fun x19 => (gd (ok64 (s3_0 + 1)) ((z1j n but s1_0 s2_0 kx3_0 kx3_1 kx3_2 n3) (s3_0 + 1) (l3_1.set x18.to.toNat true))))))) else (kx3_1 l3_1)) else (kx3_2 l3_1))
def y00 (n : GNet) (but : Int) (s1_0 : Int) (l1_1 : List Bool) (bk1 : Int → List Bool → Option (List Bool)) (s2_0 : Bool) : Option (List Bool) := z1j n but s1_0 s2_0 (zg4 s1_0 bk1) (zg5 s1_0 bk1) (zg6 s1_0 bk1) FUEL 0 l1_1
def z24 (n : GNet) (s1_0 : Int) (l1_1 : List Bool) (kx2_0 : Bool → Option (List Bool)) : Nat → Bool → Int → Option (List Bool)
  | 0, _, _ => none
  | n2 + 1, s2_0, s2_1 => (getI n.tasks s1_0).bind fun x4 => (if decide (s2_1 < (x4.in_.length : Int)) = true then (if s2_0 = true then (gd (ok64 (s2_1 + 1)) ((z24 n s1_0 l1_1 kx2_0 n2) true (s2_1 + 1))) else ((getI n.tasks s1_0).bind fun x8 => ((getI x8.in_ s2_1).bind fun x9 => ((getI l1_1 x9).bind fun x10 => (gd (ok64 (s2_1 + 1)) ((z24 n s1_0 l1_1 kx2_0 n2) x10 (s2_1 + 1))))))) else (kx2_0 s2_0))
def y01 (s0_0 : Int) (bk0 : Int → List Bool → Option (List Bool)) (l1_1 : List Bool) : Option (List Bool) := gd (ok64 (s0_0 + 1)) (bk0 (s0_0 + 1) l1_1)
def z0j (n : GNet) (but : Int) (kx1_0 : List Bool → Option (List Bool)) : Nat → Int → List Bool → Option (List Bool)
  | 0, _, _ => none
  | n1 + 1, s1_0, l1_1 => if decide (s1_0 < (n.tasks.length : Int)) = true then (z24 n s1_0 l1_1 (y00 n but s1_0 l1_1 (z0j n but kx1_0 n1)) FUEL false 0) else (kx1_0 l1_1)
def y02 (l0_1 : List Bool) : Option (List Bool) := some l0_1
def z4l (n : GNet) (but : Int) (kx0_0 : List Bool → Option (List Bool)) : Nat → Int → List Bool → Option (List Bool)
  | 0, _, _ => none
  | n0 + 1, s0_0, l0_1 => if decide (s0_0 < n.places) = true then (z0j n but (y01 s0_0 (z4l n but kx0_0 n0)) FUEL 0 l0_1) else (kx0_0 l0_1)
def zg3 (n : GNet) (marked : List Bool) (but : Int) : Option (List Bool) := gd (([] : List Bool).length + marked.length ≤ SMALL) (z4l n but y02 FUEL 0 (([] : List Bool) ++ marked))
def z06 : Con := ⟨216, [.v (.s .net) false, .v (.sl .B) false, .v .I false], [((.sl .B), true)], [], fun x => zg3 x.1 x.2.1 x.2.2.1⟩
def w4d : Fs := ⟨[], [], []⟩
theorem z8c : w4d.Ok Tryz.prog := fs0
def zo5 : Tmpl := ⟨[(2, .c .i), (3, .c (.bx 3 0)), (7, .c (.ref 15)), (8, .c .i), (9, .c .i), (10, .c .b), (11, .c .i)], [(3, .boxT (.s .net)), (15, .arr .B true)]⟩
def zj5 : Tmpl := ⟨[(2, .c .i), (3, .c (.bx 3 0)), (7, .c (.ref 15)), (8, .c .i), (9, .c .i), (10, .c .b)], [(3, .boxT (.s .net)), (15, .arr .B true)]⟩
def y6r (av : AV) (x : HP z06.ps) (n : Nat) (v : zo5.den) (K : Ks (CR z06)) : Option (CR z06) := z24 v.2.1 v.1.2.2.2.2.1 v.2.2.1 (fun s2_0 => zj5.at none ((v.1.1, (), (), v.1.2.2.2.1, v.1.2.2.2.2.1, s2_0, ()), (v.2.1, v.2.2.1, ())) (K (.exit 4))) n v.1.2.2.2.2.2.1 v.1.2.2.2.2.2.2.1
def zm9 (av : AV) (x : HP z06.ps) : Hdl (CR z06) := hnd [] zo5 (y6r av x)
theorem y81 : LP z06 Tryz.f216 [0, 0, 0] zm9 := lp_ok (W := []) (H := []) (xs := [zj5]) z8c trivial rfl (fun av x v K => by kernel_rfl) (fun av x n v K => by kernel_rfl)
def zo6 : Tmpl := ⟨[(2, .c .i), (3, .c (.bx 3 0)), (7, .c (.ref 15)), (8, .c .i), (9, .c .i), (10, .c .b), (12, .c .i)], [(3, .boxT (.s .net)), (15, .arr .B true)]⟩
def z5i : Tmpl := ⟨[(2, .c .i), (3, .c (.bx 3 0)), (7, .c (.ref 15)), (8, .c .i), (9, .c .i)], [(3, .boxT (.s .net)), (15, .arr .B true)]⟩
def y6s (av : AV) (x : HP z06.ps) (n : Nat) (v : zo6.den) (K : Ks (CR z06)) : Option (CR z06) := z1j v.2.1 v.1.1 v.1.2.2.2.2.1 v.1.2.2.2.2.2.1 (fun l3_1 => z5i.at none ((v.1.1, (), (), v.1.2.2.2.1, v.1.2.2.2.2.1, ()), (v.2.1, l3_1, ())) (K (.exit 6))) (fun l3_1 => z5i.at none ((v.1.1, (), (), v.1.2.2.2.1, v.1.2.2.2.2.1, ()), (v.2.1, l3_1, ())) (K (.exit 6))) (fun l3_1 => z5i.at none ((v.1.1, (), (), v.1.2.2.2.1, v.1.2.2.2.2.1, ()), (v.2.1, l3_1, ())) (K (.exit 6))) n v.1.2.2.2.2.2.2.1 v.2.2.1
def zn0 (av : AV) (x : HP z06.ps) : Hdl (CR z06) := hnd [] zo6 (y6s av x)
theorem y82 : LP z06 Tryz.f216 [0, 0, 1] zn0 := lp_ok (W := []) (H := []) (xs := [z5i]) z8c trivial rfl (fun av x v K => by kernel_rfl) (fun av x n v K => by kernel_rfl)
def zx7 : Tmpl := ⟨[(2, .c .i), (3, .c (.bx 3 0)), (7, .c (.ref 15)), (8, .c .i), (9, .c .i)], [(3, .boxT (.s .net)), (15, .arr .B true)]⟩
def zr1 : Tmpl := ⟨[(2, .c .i), (3, .c (.bx 3 0)), (7, .c (.ref 15)), (8, .c .i)], [(3, .boxT (.s .net)), (15, .arr .B true)]⟩
def yj5 (av : AV) (x : HP z06.ps) (n : Nat) (v : zx7.den) (K : Ks (CR z06)) : Option (CR z06) := z0j v.2.1 v.1.1 (fun l1_1 => zr1.at none ((v.1.1, (), (), v.1.2.2.2.1, ()), (v.2.1, l1_1, ())) (K (.exit 2))) n v.1.2.2.2.2.1 v.2.2.1
def zv7 (av : AV) (x : HP z06.ps) : Hdl (CR z06) := hnd [] zx7 (yj5 av x)
theorem yl2 : LP z06 Tryz.f216 [0, 0] zv7 := lp_ok (W := []) (H := [zm9, zn0]) (xs := [zr1]) z8c ⟨y81, y82, trivial⟩ rfl (fun av x v K => by kernel_rfl) (fun av x n v K => by kernel_rfl)
def y2l : Tmpl := ⟨[(2, .c .i), (3, .c (.bx 3 0)), (7, .c (.ref 15)), (8, .c .i)], [(3, .boxT (.s .net)), (15, .arr .B true)]⟩
def y0i : Tmpl := ⟨[(7, .c (.ref 15))], [(15, .arr .B true)]⟩
def yv3 (av : AV) (x : HP z06.ps) (n : Nat) (v : y2l.den) (K : Ks (CR z06)) : Option (CR z06) := z4l v.2.1 v.1.1 (fun l0_1 => y0i.at none (((), ()), (l0_1, ())) (K (.exit 0))) n v.1.2.2.2.1 v.2.2.1
def y1t (av : AV) (x : HP z06.ps) : Hdl (CR z06) := hnd [] y2l (yv3 av x)
theorem yy6 : LP z06 Tryz.f216 [0] y1t := lp_ok (W := []) (H := [zv7]) (xs := [y0i]) z8c ⟨yl2, trivial⟩ rfl (fun av x v K => by kernel_rfl) (fun av x n v K => by kernel_rfl)
theorem w5s : z06.Ok Tryz.prog := fn_ok (k := z06) (fn := Tryz.f216) (W := []) (H := [y1t]) Tryz.func216 z8c ⟨yy6, trivial⟩ rfl rfl (fun av x => by kernel_rfl)
def zt0 (kind : Int) : Option Bool := (z0c kind 1 3).bind fun x1 => (some x1)
def y3t : Con := ⟨177, [.v .I false], [(.B, true)], [], fun x => zt0 x.1⟩
def wd6 : Fs := ⟨[z20], [], []⟩
theorem wh6 : wd6.Ok Tryz.prog := (fsK z2q fs0)
theorem wm0 : y3t.Ok Tryz.prog := fn_ok (k := y3t) (fn := Tryz.f177) (W := []) (H := []) Tryz.func177 wh6 trivial rfl rfl (fun av x => by kernel_rfl)
def zf0 (role : Int) : Option Bool := (z0c role 1 3).bind fun x1 => (some x1)
def zr7 : Con := ⟨151, [.v .I false], [(.B, true)], [], fun x => zf0 x.1⟩
def wd7 : Fs := ⟨[z20], [], []⟩
theorem wh7 : wd7.Ok Tryz.prog := (fsK z2q fs0)
theorem yr3 : zr7.Ok Tryz.prog := fn_ok (k := zr7) (fn := Tryz.f151) (W := []) (H := []) Tryz.func151 wh7 trivial rfl rfl (fun av x => by kernel_rfl)
def y14 (places : Int) (tasks : Int) : Option Bool := (z0c places 2 8).bind fun x1 => (if x1 = true then ((z0c tasks 1 6).bind fun x3 => (some x3)) else (some false))
def y0u : Con := ⟨122, [.v .I false, .v .I false], [(.B, true)], [], fun x => y14 x.1 x.2.1⟩
def w7i : Fs := ⟨[z20], [], []⟩
theorem w86 : w7i.Ok Tryz.prog := (fsK z2q fs0)
theorem w95 : y0u.Ok Tryz.prog := fn_ok (k := y0u) (fn := Tryz.f122) (W := []) (H := []) Tryz.func122 w86 trivial rfl rfl (fun av x => by kernel_rfl)
def z0o (n : GNet) (t : Int) : Option Bool := gd (ok64 ((n.tasks.length : Int) - 1)) ((z0c t 0 ((n.tasks.length : Int) - 1)).bind fun x2 => (some x2))
def z1p : Con := ⟨96, [.v (.s .net) false, .v .I false], [(.B, true)], [], fun x => z0o x.1 x.2.1⟩
def y6w : Fs := ⟨[z20], [], []⟩
theorem y6z : y6w.Ok Tryz.prog := (fsK z2q fs0)
theorem z4e : z1p.Ok Tryz.prog := fn_ok (k := z1p) (fn := Tryz.f96) (W := []) (H := []) Tryz.func96 y6z trivial rfl rfl (fun av x => by kernel_rfl)
def z6j (t : GTask) : Option GTask := (z0l t.in_).bind fun x1 => (gd (([] : List GFlow).length + t.out.length ≤ SMALL) ((z0l t.clear).bind fun x3 => (some (GTask.mk t.join t.split x1 (([] : List GFlow) ++ t.out) x3 t.role t.apart t.all t.need))))
def z9g : Con := ⟨207, [.v (.s .task) false], [((.s .task), true)], [], fun x => z6j x.1⟩
def yc5 : Fs := ⟨[z1t], [], []⟩
theorem yd0 : yc5.Ok Tryz.prog := (fsK z3f fs0)
theorem yd6 : z9g.Ok Tryz.prog := fn_ok (k := z9g) (fn := Tryz.f207) (W := []) (H := []) Tryz.func207 yd0 trivial rfl rfl (fun av x => by kernel_rfl)
def z84 (p0_3 : Int) (l0_1 : List GTask) : Option GNet := some (GNet.mk p0_3 l0_1)
def z29 (p0_0 : List GTask) (p0_1 : Int) (kx0_0 : List GTask → Option GNet) : Nat → Int → List GTask → Option GNet
  | 0, _, _ => none
  | n0 + 1, s0_0, l0_1 => if decide (s0_0 < p0_1) = true then ((getI p0_0 s0_0).bind fun x2 => ((z6j x2).bind fun x3 => (gd (l0_1.length + [x3].length ≤ SMALL) (gd (ok64 (s0_0 + 1)) ((z29 p0_0 p0_1 kx0_0 n0) (s0_0 + 1) (l0_1 ++ [x3])))))) else (kx0_0 l0_1)
def z7d (n : GNet) : Option GNet := z29 n.tasks (n.tasks.length : Int) (z84 n.places) FUEL 0 ([] : List GTask)
def z1a : Con := ⟨184, [.v (.s .net) false], [((.s .net), true)], [], fun x => z7d x.1⟩
def yk0 : Fs := ⟨[z9g], [], []⟩
theorem zv0 : yk0.Ok Tryz.prog := (fsK yd6 fs0)
def zo3 : Tmpl := ⟨[(2, .c (.bx 2 0)), (3, .c (.bx 3 0)), (10, .c (.s (.s .task))), (11, .c .i), (12, .c .i)], [(2, .box [.i, .nl]), (3, .box [.i, .ref 510301]), (510301, .arr (.s .task) true)]⟩
def zj3 : Tmpl := ⟨[(2, .c (.bx 2 0)), (3, .c (.bx 3 0))], [(2, .box [.i, .nl]), (3, .box [.i, .ref 510301]), (510301, .arr (.s .task) true)]⟩
def y6p (av : AV) (x : HP z1a.ps) (n : Nat) (v : zo3.den) (K : Ks (CR z1a)) : Option (CR z1a) := z29 v.1.2.2.1 v.1.2.2.2.1 (fun l0_1 => zj3.at none (((), (), ()), ((v.2.1.1, (), ()), (v.2.2.1.1, (), ()), l0_1, ())) (K (.exit 0))) n v.1.2.2.2.2.1 v.2.2.2.1
def zm7 (av : AV) (x : HP z1a.ps) : Hdl (CR z1a) := hnd [.b 3 1 510301 (.s .task)] zo3 (y6p av x)
theorem y7z : LP z1a Tryz.f184 [0] zm7 := lp_ok (W := []) (H := []) (xs := [zj3]) zv0 trivial rfl (fun av x v K => by kernel_rfl) (fun av x n v K => by kernel_rfl)
theorem yl9 : z1a.Ok Tryz.prog := fn_ok (k := z1a) (fn := Tryz.f184) (W := []) (H := [zm7]) Tryz.func184 zv0 ⟨y7z, trivial⟩ rfl rfl (fun av x => by kernel_rfl)
def y8c  : Option Bool := some true
def z6z (marks : List Int) (kx0_0 : Option Bool) : Nat → Int → Option Bool
  | 0, _ => none
  | n0 + 1, s0_0 => if decide (s0_0 < (marks.length : Int)) = true then ((getI marks s0_0).bind fun x5 => ((z03 x5 0 4).bind fun x6 => (if x6 = true then (gd (ok64 (s0_0 + 1)) ((z6z marks kx0_0 n0) (s0_0 + 1))) else (some false)))) else (kx0_0)
def z8o (n : GNet) (marks : List Int) : Option Bool := (z3c n).bind fun x1 => (if x1 = true then (if decide ((marks.length : Int) = n.places) = true then (z6z marks y8c FUEL 0) else (some false)) else (some false))
def z38 : Con := ⟨87, [.v (.s .net) false, .v (.sl .I) false], [(.B, true)], [], fun x => z8o x.1 x.2.1⟩
def wt6 : Fs := ⟨[z2m, z0n], [], []⟩
theorem w0g : wt6.Ok Tryz.prog := (fsK zo0 (fsK z0v fs0))
def yi4 : Tmpl := ⟨[(1, .c (.s .I)), (5, .c .i)], []⟩
def y9y : Tmpl := ⟨[], []⟩
def w6z (av : AV) (x : HP z38.ps) (n : Nat) (v : yi4.den) (K : Ks (CR z38)) : Option (CR z38) := z6z v.1.1 (y9y.at none ((), ()) (K (.exit 0))) n v.1.2.1
def yf9 (av : AV) (x : HP z38.ps) : Hdl (CR z38) := hnd [] yi4 (w6z av x)
theorem w8o : LP z38 Tryz.f87 [0] yf9 := lp_ok (W := []) (H := []) (xs := [y9y]) w0g trivial rfl (fun av x v K => by kernel_rfl) (fun av x n v K => by kernel_rfl)
theorem y06 : z38.Ok Tryz.prog := fn_ok (k := z38) (fn := Tryz.f87) (W := []) (H := [yf9]) Tryz.func87 w0g ⟨w8o, trivial⟩ rfl rfl (fun av x => by kernel_rfl)
def za2 (s0_0 : Bool) (s0_1 : Bool) : Option (Bool × Bool) := some (s0_0, s0_1)
def z1w (marks : List Int) (list : List Int) (kx0_0 : Bool → Bool → Option (Bool × Bool)) : Nat → Bool → Bool → Int → Option (Bool × Bool)
  | 0, _, _, _ => none
  | n0 + 1, s0_0, s0_1, s0_2 => if decide (s0_2 < (list.length : Int)) = true then (if s0_0 = true then (if s0_1 = true then ((getI list s0_2).bind fun x4 => ((getI marks x4).bind fun x5 => (gd (ok64 (s0_2 + 1)) ((z1w marks list kx0_0 n0) true (decide (0 < x5)) (s0_2 + 1))))) else (gd (ok64 (s0_2 + 1)) ((z1w marks list kx0_0 n0) true false (s0_2 + 1)))) else ((getI list s0_2).bind fun x8 => ((getI marks x8).bind fun x9 => (if s0_1 = true then ((getI list s0_2).bind fun x11 => ((getI marks x11).bind fun x12 => (gd (ok64 (s0_2 + 1)) ((z1w marks list kx0_0 n0) (decide (0 < x9)) (decide (0 < x12)) (s0_2 + 1))))) else (gd (ok64 (s0_2 + 1)) ((z1w marks list kx0_0 n0) (decide (0 < x9)) false (s0_2 + 1))))))) else (kx0_0 s0_0 s0_1)
def zt9 (marks : List Int) (list : List Int) : Option (Bool × Bool) := z1w marks list za2 FUEL false true 0
def z50 : Con := ⟨200, [.v (.sl .I) false, .v (.sl .I) false], [(.B, true), (.B, true)], [], fun x => zt9 x.1 x.2.1⟩
def wf8 : Fs := ⟨[], [], []⟩
theorem yp3 : wf8.Ok Tryz.prog := fs0
def y9g : Tmpl := ⟨[(0, .c (.s .I)), (1, .c (.s .I)), (6, .c .b), (7, .c .b), (8, .c .i)], []⟩
def y6f : Tmpl := ⟨[(6, .c .b), (7, .c .b)], []⟩
def w3l (av : AV) (x : HP z50.ps) (n : Nat) (v : y9g.den) (K : Ks (CR z50)) : Option (CR z50) := z1w v.1.1 v.1.2.1 (fun s0_0 s0_1 => y6f.at none ((s0_0, s0_1, ()), ()) (K (.exit 0))) n v.1.2.2.1 v.1.2.2.2.1 v.1.2.2.2.2.1
def y7k (av : AV) (x : HP z50.ps) : Hdl (CR z50) := hnd [] y9g (w3l av x)
theorem w5c : LP z50 Tryz.f200 [0] y7k := lp_ok (W := []) (H := []) (xs := [y6f]) yp3 trivial rfl (fun av x v K => by kernel_rfl) (fun av x n v K => by kernel_rfl)
theorem wm9 : z50.Ok Tryz.prog := fn_ok (k := z50) (fn := Tryz.f200) (W := []) (H := [y7k]) Tryz.func200 yp3 ⟨w5c, trivial⟩ rfl rfl (fun av x => by kernel_rfl)
def z4n (s1_0 : Int) (bk1 : Int → List Bool → Option Bool) (l2_1 : List Bool) : Option Bool := gd (ok64 (s1_0 + 1)) (bk1 (s1_0 + 1) l2_1)
def z31 (p2_0 : List GFlow) (kx2_0 : List Bool → Option Bool) : Nat → Int → List Bool → Option Bool
  | 0, _, _ => none
  | n2 + 1, s2_0, l2_1 => if decide (s2_0 < (p2_0.length : Int)) = true then ((getI p2_0 s2_0).bind fun x15 => ((getI l2_1 x15.to).bind fun x16 => (gd (ok64 (s2_0 + 1)) ((z31 p2_0 kx2_0 n2) (s2_0 + 1) (l2_1.set x15.to.toNat true))))) else (kx2_0 l2_1)
def zg9  : Option Bool := some false
def z27 (n : GNet) (marks : List Int) (t : Int) (x19 : (List Bool)) (kx3_0 : Option Bool) : Nat → Int → Option Bool
  | 0, _ => none
  | n3 + 1, s3_0 => (getI n.tasks t).bind fun x20 => (if decide (s3_0 < (x20.in_.length : Int)) = true then ((getI n.tasks t).bind fun x22 => ((getI x22.in_ s3_0).bind fun x23 => ((getI marks x23).bind fun x24 => (if decide (x24 = 0) = true then ((getI n.tasks t).bind fun x26 => ((getI x26.in_ s3_0).bind fun x27 => ((getI x19 x27).bind fun x28 => (if x28 = true then (some true) else (gd (ok64 (s3_0 + 1)) ((z27 n marks t x19 kx3_0 n3) (s3_0 + 1))))))) else (gd (ok64 (s3_0 + 1)) ((z27 n marks t x19 kx3_0 n3) (s3_0 + 1))))))) else (kx3_0))
def z25 (n : GNet) (marks : List Int) (t : Int) (l1_1 : List Bool) : Option Bool := (zg3 n l1_1 t).bind fun x19 => (z27 n marks t x19 zg9 FUEL 0)
def z17 (n : GNet) (busy : List GItem) (kx1_0 : List Bool → Option Bool) : Nat → Int → List Bool → Option Bool
  | 0, _, _ => none
  | n1 + 1, s1_0, l1_1 => if decide (s1_0 < (busy.length : Int)) = true then ((getI busy s1_0).bind fun x12 => ((getI n.tasks x12.task).bind fun x13 => (z31 x13.out (z4n s1_0 (z17 n busy kx1_0 n1)) FUEL 0 l1_1))) else (kx1_0 l1_1)
def z4m (n : GNet) (marks : List Int) (busy : List GItem) (t : Int) (l0_1 : List Bool) : Option Bool := z17 n busy (z25 n marks t) FUEL 0 l0_1
def z26 (n : GNet) (marks : List Int) (t : Int) (kx0_0 : List Bool → Option Bool) : Nat → Int → List Bool → Option Bool
  | 0, _, _ => none
  | n0 + 1, s0_0, l0_1 => if decide (s0_0 < n.places) = true then ((getI marks s0_0).bind fun x3 => (if decide (0 < x3) = true then ((getI n.tasks t).bind fun x5 => ((zb7 x5.in_ s0_0).bind fun x6 => ((getI l0_1 s0_0).bind fun x7 => (gd (ok64 (s0_0 + 1)) ((z26 n marks t kx0_0 n0) (s0_0 + 1) (l0_1.set s0_0.toNat (!x6))))))) else ((getI l0_1 s0_0).bind fun x9 => (gd (ok64 (s0_0 + 1)) ((z26 n marks t kx0_0 n0) (s0_0 + 1) (l0_1.set s0_0.toNat false)))))) else (kx0_0 l0_1)
def zg8 (n : GNet) (marks : List Int) (busy : List GItem) (t : Int) : Option Bool := gd ((0 : Int) ≤ n.places ∧ n.places ≤ (1000000000 : Int)) (z26 n marks t (z4m n marks busy t) FUEL 0 (List.replicate n.places.toNat false))
def z07 : Con := ⟨201, [.v (.s .net) false, .v (.sl .I) false, .v (.sl (.s .item)) false, .v .I false], [(.B, true)], [], fun x => zg8 x.1 x.2.1 x.2.2.1 x.2.2.2.1⟩
def w4e : Fs := ⟨[z4b, z06], [], []⟩
theorem z8d : w4e.Ok Tryz.prog := (fsK y8z (fsK w5s fs0))
def zx8 : Tmpl := ⟨[(1, .c (.s .I)), (2, .c (.s (.s .item))), (3, .c .i), (4, .c (.bx 4 0)), (9, .c (.ref 18)), (11, .c .i), (12, .c (.s (.s .flow))), (13, .c .i)], [(4, .boxT (.s .net)), (18, .arr .B true)]⟩
def zr2 : Tmpl := ⟨[(1, .c (.s .I)), (2, .c (.s (.s .item))), (3, .c .i), (4, .c (.bx 4 0)), (9, .c (.ref 18)), (11, .c .i)], [(4, .boxT (.s .net)), (18, .arr .B true)]⟩
def yj6 (av : AV) (x : HP z07.ps) (n : Nat) (v : zx8.den) (K : Ks (CR z07)) : Option (CR z07) := z31 v.1.2.2.2.2.2.2.1 (fun l2_1 => zr2.at none ((v.1.1, v.1.2.1, v.1.2.2.1, (), (), v.1.2.2.2.2.2.1, ()), (v.2.1, l2_1, ())) (K (.exit 4))) n v.1.2.2.2.2.2.2.2.1 v.2.2.1
def zv8 (av : AV) (x : HP z07.ps) : Hdl (CR z07) := hnd [] zx8 (yj6 av x)
theorem yl3 : LP z07 Tryz.f201 [1, 0] zv8 := lp_ok (W := []) (H := []) (xs := [zr2]) z8d trivial rfl (fun av x v K => by kernel_rfl) (fun av x n v K => by kernel_rfl)
def y2m : Tmpl := ⟨[(1, .c (.s .I)), (2, .c (.s (.s .item))), (3, .c .i), (4, .c (.bx 4 0)), (9, .c (.ref 18)), (10, .c .i)], [(4, .boxT (.s .net)), (18, .arr .B true)]⟩
def y0j : Tmpl := ⟨[(1, .c (.s .I)), (2, .c (.s (.s .item))), (3, .c .i), (4, .c (.bx 4 0)), (9, .c (.ref 18))], [(4, .boxT (.s .net)), (18, .arr .B true)]⟩
def yv4 (av : AV) (x : HP z07.ps) (n : Nat) (v : y2m.den) (K : Ks (CR z07)) : Option (CR z07) := z26 v.2.1 v.1.1 v.1.2.2.1 (fun l0_1 => y0j.at none ((v.1.1, v.1.2.1, v.1.2.2.1, (), (), ()), (v.2.1, l0_1, ())) (K (.exit 0))) n v.1.2.2.2.2.2.1 v.2.2.1
def y1u (av : AV) (x : HP z07.ps) : Hdl (CR z07) := hnd [] y2m (yv4 av x)
theorem yy7 : LP z07 Tryz.f201 [0] y1u := lp_ok (W := []) (H := []) (xs := [y0j]) z8d trivial rfl (fun av x v K => by kernel_rfl) (fun av x n v K => by kernel_rfl)
def y2n : Tmpl := ⟨[(1, .c (.s .I)), (2, .c (.s (.s .item))), (3, .c .i), (4, .c (.bx 4 0)), (9, .c (.ref 18)), (11, .c .i)], [(4, .boxT (.s .net)), (18, .arr .B true)]⟩
def y0k : Tmpl := ⟨[(1, .c (.s .I)), (3, .c .i), (4, .c (.bx 4 0)), (9, .c (.ref 18))], [(4, .boxT (.s .net)), (18, .arr .B true)]⟩
def yv5 (av : AV) (x : HP z07.ps) (n : Nat) (v : y2n.den) (K : Ks (CR z07)) : Option (CR z07) := z17 v.2.1 v.1.2.1 (fun l1_1 => y0k.at none ((v.1.1, v.1.2.2.1, (), (), ()), (v.2.1, l1_1, ())) (K (.exit 2))) n v.1.2.2.2.2.2.1 v.2.2.1
def y1v (av : AV) (x : HP z07.ps) : Hdl (CR z07) := hnd [] y2n (yv5 av x)
theorem yy8 : LP z07 Tryz.f201 [1] y1v := lp_ok (W := []) (H := [zv8]) (xs := [y0k]) z8d ⟨yl3, trivial⟩ rfl (fun av x v K => by kernel_rfl) (fun av x n v K => by kernel_rfl)
def y2o : Tmpl := ⟨[(1, .c (.s .I)), (3, .c .i), (4, .c (.bx 4 0)), (14, .c (.ref 76)), (15, .c .i)], [(4, .boxT (.s .net)), (76, .arr .B true)]⟩
def y0l : Tmpl := ⟨[], []⟩
def yv6 (av : AV) (x : HP z07.ps) (n : Nat) (v : y2o.den) (K : Ks (CR z07)) : Option (CR z07) := z27 v.2.1 v.1.1 v.1.2.1 v.2.2.1 (y0l.at none ((), ()) (K (.exit 6))) n v.1.2.2.2.2.1
def y1w (av : AV) (x : HP z07.ps) : Hdl (CR z07) := hnd [] y2o (yv6 av x)
theorem yy9 : LP z07 Tryz.f201 [2] y1w := lp_ok (W := []) (H := []) (xs := [y0l]) z8d trivial rfl (fun av x v K => by kernel_rfl) (fun av x n v K => by kernel_rfl)
theorem w5t : z07.Ok Tryz.prog := fn_ok (k := z07) (fn := Tryz.f201) (W := []) (H := [y1u, y1v, y1w]) Tryz.func201 z8d ⟨yy7, yy8, yy9, trivial⟩ rfl rfl (fun av x => by kernel_rfl)
def y03 (n : GNet) (marks : List Int) (busy : List GItem) (t : Int) : Option Bool := (getI n.tasks t).bind fun x1 => ((zt9 marks x1.in_).bind fun x2 => ((getI n.tasks t).bind fun x3 => (if decide (x3.join = 1) = true then (some x2.2) else (if decide (x3.join = 2) = true then (some x2.1) else (if x2.1 = true then (if x2.2 = true then (some true) else ((zg8 n marks busy t).bind fun x8 => (some (!x8)))) else (some false))))))
def y7x : Con := ⟨165, [.v (.s .net) false, .v (.sl .I) false, .v (.sl (.s .item)) false, .v .I false], [(.B, true)], [], fun x => y03 x.1 x.2.1 x.2.2.1 x.2.2.2.1⟩
def wu2 : Fs := ⟨[z50, z07], [], []⟩
theorem wv6 : wu2.Ok Tryz.prog := (fsK wm9 (fsK w5t fs0))
theorem wz3 : y7x.Ok Tryz.prog := fn_ok (k := y7x) (fn := Tryz.f165) (W := []) (H := []) Tryz.func165 wv6 trivial rfl rfl (fun av x => by kernel_rfl)
def y5c  : Option Bool := some true
def z5s (n : GNet) (busy : List GItem) (kx0_0 : Option Bool) : Nat → Int → Option Bool
  | 0, _ => none
  | n0 + 1, s0_0 => if decide (s0_0 < (busy.length : Int)) = true then ((getI busy s0_0).bind fun x3 => (gd (ok64 ((n.tasks.length : Int) - 1)) ((z03 x3.task 0 ((n.tasks.length : Int) - 1)).bind fun x5 => (if x5 = true then ((getI busy s0_0).bind fun x7 => ((z03 x7.who 1 4).bind fun x8 => (if x8 = true then ((getI busy s0_0).bind fun x10 => ((getI busy s0_0).bind fun x11 => ((getI n.tasks x11.task).bind fun x12 => (gd (ok64 (x12.need - 1)) ((z03 x10.did 0 (x12.need - 1)).bind fun x14 => (if x14 = true then (gd (ok64 (s0_0 + 1)) ((z5s n busy kx0_0 n0) (s0_0 + 1))) else (some false))))))) else (some false)))) else (some false))))) else (kx0_0)
def zg7 (n : GNet) (busy : List GItem) : Option Bool := if decide (6 < (busy.length : Int)) = true then (some false) else (z5s n busy y5c FUEL 0)
def z45 : Con := ⟨88, [.v (.s .net) false, .v (.sl (.s .item)) false], [(.B, true)], [], fun x => zg7 x.1 x.2.1⟩
def wf7 : Fs := ⟨[z0n], [], []⟩
theorem yp2 : wf7.Ok Tryz.prog := (fsK z0v fs0)
def y9f : Tmpl := ⟨[(1, .c (.s (.s .item))), (2, .c (.bx 2 0)), (5, .c .i)], [(2, .boxT (.s .net))]⟩
def y6e : Tmpl := ⟨[], []⟩
def w3k (av : AV) (x : HP z45.ps) (n : Nat) (v : y9f.den) (K : Ks (CR z45)) : Option (CR z45) := z5s v.2.1 v.1.1 (y6e.at none ((), ()) (K (.exit 0))) n v.1.2.2.1
def y7j (av : AV) (x : HP z45.ps) : Hdl (CR z45) := hnd [] y9f (w3k av x)
theorem w5b : LP z45 Tryz.f88 [0] y7j := lp_ok (W := []) (H := []) (xs := [y6e]) yp2 trivial rfl (fun av x v K => by kernel_rfl) (fun av x n v K => by kernel_rfl)
theorem ys2 : z45.Ok Tryz.prog := fn_ok (k := z45) (fn := Tryz.f88) (W := []) (H := [y7j]) Tryz.func88 yp2 ⟨w5b, trivial⟩ rfl rfl (fun av x => by kernel_rfl)
def zf2 (n : GNet) (marks : List Int) (busy : List GItem) (t : Int) : Option Bool := (z8o n marks).bind fun x1 => (if x1 = true then ((zg7 n busy).bind fun x3 => (if x3 = true then (gd (ok64 ((n.tasks.length : Int) - 1)) ((z03 t 0 ((n.tasks.length : Int) - 1)).bind fun x6 => (if x6 = true then ((y03 n marks busy t).bind fun x8 => (some x8)) else (some false)))) else (some false))) else (some false))
def zs1 : Con := ⟨100, [.v (.s .net) false, .v (.sl .I) false, .v (.sl (.s .item)) false, .v .I false], [(.B, true)], [], fun x => zf2 x.1 x.2.1 x.2.2.1 x.2.2.2.1⟩
def we5 : Fs := ⟨[z38, z45, z0n, y7x], [], []⟩
theorem wi1 : we5.Ok Tryz.prog := (fsK y06 (fsK ys2 (fsK z0v (fsK wz3 fs0))))
theorem yr8 : zs1.Ok Tryz.prog := fn_ok (k := zs1) (fn := Tryz.f100) (W := []) (H := []) Tryz.func100 wi1 trivial rfl rfl (fun av x => by kernel_rfl)
def zf3 (l0_1 : List Int) : Option (List Int) := some l0_1
def z2z (n : GNet) (marks : List Int) (busy : List GItem) (kx0_0 : List Int → Option (List Int)) : Nat → Int → List Int → Option (List Int)
  | 0, _, _ => none
  | n0 + 1, s0_0, l0_1 => if decide (s0_0 < (n.tasks.length : Int)) = true then ((zf2 n marks busy s0_0).bind fun x2 => (if x2 = true then (gd (l0_1.length + [s0_0].length ≤ SMALL) (gd (ok64 (s0_0 + 1)) ((z2z n marks busy kx0_0 n0) (s0_0 + 1) (l0_1 ++ [s0_0])))) else (gd (ok64 (s0_0 + 1)) ((z2z n marks busy kx0_0 n0) (s0_0 + 1) l0_1)))) else (kx0_0 l0_1)
def z5g (n : GNet) (marks : List Int) (busy : List GItem) : Option (List Int) := z2z n marks busy zf3 FUEL 0 ([] : List Int)
def z2a : Con := ⟨99, [.v (.s .net) false, .v (.sl .I) false, .v (.sl (.s .item)) false], [((.sl .I), true)], [], fun x => z5g x.1 x.2.1 x.2.2.1⟩
def w46 : Fs := ⟨[zs1], [], []⟩
theorem y72 : w46.Ok Tryz.prog := (fsK yr8 fs0)
def y2f : Tmpl := ⟨[(1, .c (.s .I)), (2, .c (.s (.s .item))), (3, .c (.bx 3 0)), (7, .c (.ref 9)), (8, .c .i)], [(3, .boxT (.s .net)), (9, .arr .I true)]⟩
def y0c : Tmpl := ⟨[(7, .c (.ref 9))], [(9, .arr .I true)]⟩
def yu7 (av : AV) (x : HP z2a.ps) (n : Nat) (v : y2f.den) (K : Ks (CR z2a)) : Option (CR z2a) := z2z v.2.1 v.1.1 v.1.2.1 (fun l0_1 => y0c.at none (((), ()), (l0_1, ())) (K (.exit 0))) n v.1.2.2.2.2.1 v.2.2.1
def y1n (av : AV) (x : HP z2a.ps) : Hdl (CR z2a) := hnd [] y2f (yu7 av x)
theorem yy0 : LP z2a Tryz.f99 [0] y1n := lp_ok (W := []) (H := []) (xs := [y0c]) y72 trivial rfl (fun av x v K => by kernel_rfl) (fun av x n v K => by kernel_rfl)
theorem y8v : z2a.Ok Tryz.prog := fn_ok (k := z2a) (fn := Tryz.f99) (W := []) (H := [y1n]) Tryz.func99 y72 ⟨yy0, trivial⟩ rfl rfl (fun av x => by kernel_rfl)
def y21 (l0_1 : List Int) (x10 : Int) (x13 : Int) : Option (List Int) := some (l0_1.set x10.toNat (x13 - 1))
def y22 (l0_1 : List Int) : Option (List Int) := some l0_1
def z3m (n : GNet) (t : Int) (kx0_0 : List Int → Int → Int → Option (List Int)) (kx0_1 : List Int → Option (List Int)) : Nat → Int → List Int → Option (List Int)
  | 0, _, _ => none
  | n0 + 1, s0_0, l0_1 => (getI n.tasks t).bind fun x7 => (if decide (s0_0 < (x7.in_.length : Int)) = true then ((getI n.tasks t).bind fun x9 => ((getI x9.in_ s0_0).bind fun x10 => ((getI l0_1 x10).bind fun x11 => (if decide (0 < x11) = true then ((getI l0_1 x10).bind fun x13 => (gd (ok64 (x13 - 1)) ((getI l0_1 x10).bind fun x15 => ((getI n.tasks t).bind fun x16 => (if decide (x16.join = 2) = true then (kx0_0 l0_1 x10 x13) else (gd (ok64 (s0_0 + 1)) ((z3m n t kx0_0 kx0_1 n0) (s0_0 + 1) (l0_1.set x10.toNat (x13 - 1))))))))) else (gd (ok64 (s0_0 + 1)) ((z3m n t kx0_0 kx0_1 n0) (s0_0 + 1) l0_1)))))) else (kx0_1 l0_1))
def zl7 (n : GNet) (marks : List Int) (t : Int) : Option (List Int) := (z8o n marks).bind fun x1 => (if x1 = true then (gd (ok64 ((n.tasks.length : Int) - 1)) ((z03 t 0 ((n.tasks.length : Int) - 1)).bind fun x4 => (if x4 = true then (gd (([] : List Int).length + marks.length ≤ SMALL) (z3m n t y21 y22 FUEL 0 (([] : List Int) ++ marks))) else (some ([] : List Int))))) else (some ([] : List Int)))
def z3y : Con := ⟨103, [.v (.s .net) false, .v (.sl .I) false, .v .I false], [((.sl .I), true)], [], fun x => zl7 x.1 x.2.1 x.2.2.1⟩
def w7m : Fs := ⟨[z38, z0n], [], []⟩
theorem ye1 : w7m.Ok Tryz.prog := (fsK y06 (fsK z0v fs0))
def y5s : Tmpl := ⟨[(2, .c .i), (3, .c (.bx 3 0)), (7, .c (.ref 26)), (8, .c .i)], [(3, .boxT (.s .net)), (26, .arr .I true)]⟩
def zk9 : Tmpl := ⟨[(7, .c (.ref 26))], [(26, .arr .I true)]⟩
def w1e (av : AV) (x : HP z3y.ps) (n : Nat) (v : y5s.den) (K : Ks (CR z3y)) : Option (CR z3y) := z3m v.2.1 v.1.1 (fun l0_1 x10 x13 => zk9.at none (((), ()), ((l0_1.set x10.toNat (x13 - 1)), ())) (K (.exit 0))) (fun l0_1 => zk9.at none (((), ()), (l0_1, ())) (K (.exit 0))) n v.1.2.2.2.1 v.2.2.1
def y4w (av : AV) (x : HP z3y.ps) : Hdl (CR z3y) := hnd [] y5s (w1e av x)
theorem w2c : LP z3y Tryz.f103 [0] y4w := lp_ok (W := []) (H := []) (xs := [zk9]) ye1 trivial rfl (fun av x v K => by kernel_rfl) (fun av x n v K => by kernel_rfl)
theorem w98 : z3y.Ok Tryz.prog := fn_ok (k := z3y) (fn := Tryz.f103) (W := []) (H := [y4w]) Tryz.func103 ye1 ⟨w2c, trivial⟩ rfl rfl (fun av x => by kernel_rfl)
def z8l (who : Int) : Option Bool := (z0c who 1 4).bind fun x1 => (some x1)
def zd9 : Con := ⟨97, [.v .I false], [(.B, true)], [], fun x => z8l x.1⟩
def w44 : Fs := ⟨[z20], [], []⟩
theorem w4p : w44.Ok Tryz.prog := (fsK z2q fs0)
theorem y8t : zd9.Ok Tryz.prog := fn_ok (k := zd9) (fn := Tryz.f97) (W := []) (H := []) Tryz.func97 w4p trivial rfl rfl (fun av x => by kernel_rfl)
def zf4 (l0_1 : List Int) (x8 : GFlow) : Option (List Int) := some (l0_1 ++ [x8.to])
def zf5 (l0_1 : List Int) (x13 : GFlow) : Option (List Int) := some (l0_1 ++ [x13.to])
def zf6 (l0_1 : List Int) (x18 : GFlow) : Option (List Int) := some (l0_1 ++ [x18.to])
def zw6 (l0_1 : List Int) : Option (List Int) := some l0_1
def z1r (t : GTask) (data : List Int) (kx0_0 : List Int → GFlow → Option (List Int)) (kx0_1 : List Int → GFlow → Option (List Int)) (kx0_2 : List Int → GFlow → Option (List Int)) (kx0_3 : List Int → Option (List Int)) : Nat → Int → List Int → Option (List Int)
  | 0, _, _ => none
  | n0 + 1, s0_0, l0_1 => if decide (s0_0 < (t.out.length : Int)) = true then ((getI t.out s0_0).bind fun x2 => ((z1c x2.if_ data).bind fun x3 => (if x3 = true then (if decide (t.split = 3) = true then (gd (ok64 ((t.out.length : Int) - 1)) (if decide (s0_0 < ((t.out.length : Int) - 1)) = true then ((getI t.out s0_0).bind fun x8 => (gd (l0_1.length + [x8.to].length ≤ SMALL) (if decide (t.split = 2) = true then (kx0_0 l0_1 x8) else (gd (ok64 (s0_0 + 1)) ((z1r t data kx0_0 kx0_1 kx0_2 kx0_3 n0) (s0_0 + 1) (l0_1 ++ [x8.to])))))) else (if decide ((l0_1.length : Int) = 0) = true then ((getI t.out s0_0).bind fun x13 => (gd (l0_1.length + [x13.to].length ≤ SMALL) (if decide (t.split = 2) = true then (kx0_1 l0_1 x13) else (gd (ok64 (s0_0 + 1)) ((z1r t data kx0_0 kx0_1 kx0_2 kx0_3 n0) (s0_0 + 1) (l0_1 ++ [x13.to])))))) else (gd (ok64 (s0_0 + 1)) ((z1r t data kx0_0 kx0_1 kx0_2 kx0_3 n0) (s0_0 + 1) l0_1))))) else ((getI t.out s0_0).bind fun x18 => (gd (l0_1.length + [x18.to].length ≤ SMALL) (if decide (t.split = 2) = true then (kx0_2 l0_1 x18) else (gd (ok64 (s0_0 + 1)) ((z1r t data kx0_0 kx0_1 kx0_2 kx0_3 n0) (s0_0 + 1) (l0_1 ++ [x18.to]))))))) else (gd (ok64 (s0_0 + 1)) ((z1r t data kx0_0 kx0_1 kx0_2 kx0_3 n0) (s0_0 + 1) l0_1))))) else (kx0_3 l0_1)
def zz9 (t : GTask) (data : List Int) : Option (List Int) := z1r t data zf4 zf5 zf6 zw6 FUEL 0 ([] : List Int)
def z64 : Con := ⟨205, [.v (.s .task) false, .v (.sl .I) false], [((.sl .I), true)], [], fun x => zz9 x.1 x.2.1⟩
def wu0 : Fs := ⟨[z4a], [], []⟩
theorem w0j : wu0.Ok Tryz.prog := (fsK z75 fs0)
def yi8 : Tmpl := ⟨[(1, .c (.s .I)), (2, .c (.bx 2 0)), (5, .c (.ref 7)), (6, .c .i)], [(2, .boxT (.s .task)), (7, .arr .I true)]⟩
def z8v : Tmpl := ⟨[(5, .c (.ref 49))], [(49, .arr .I true)]⟩
def w73 (av : AV) (x : HP z64.ps) (n : Nat) (v : yi8.den) (K : Ks (CR z64)) : Option (CR z64) := z1r v.2.1 v.1.1 (fun l0_1 x8 => z8v.at none (((), ()), ((l0_1 ++ [x8.to]), ())) (K (.exit 0))) (fun l0_1 x13 => z8v.at none (((), ()), ((l0_1 ++ [x13.to]), ())) (K (.exit 0))) (fun l0_1 x18 => z8v.at none (((), ()), ((l0_1 ++ [x18.to]), ())) (K (.exit 0))) (fun l0_1 => z8v.at none (((), ()), (l0_1, ())) (K (.exit 0))) n v.1.2.2.2.1 v.2.2.1
def yg3 (av : AV) (x : HP z64.ps) : Hdl (CR z64) := hnd [] yi8 (w73 av x)
theorem w8s : LP z64 Tryz.f205 [0] yg3 := lp_ok (W := []) (H := []) (xs := [z8v]) w0j trivial rfl (fun av x v K => by kernel_rfl) (fun av x n v K => by kernel_rfl)
theorem wz2 : z64.Ok Tryz.prog := fn_ok (k := z64) (fn := Tryz.f205) (W := []) (H := [yg3]) Tryz.func205 w0j ⟨w8s, trivial⟩ rfl rfl (fun av x => by kernel_rfl)
def z96 (l1_1 : List Int) : Option ((List Int) × Bool) := some (l1_1, true)
def z5c (x16 : (List Int)) (kx1_0 : List Int → Option ((List Int) × Bool)) : Nat → Int → List Int → Option ((List Int) × Bool)
  | 0, _, _ => none
  | n1 + 1, s1_0, l1_1 => if decide (s1_0 < (x16.length : Int)) = true then ((getI x16 s1_0).bind fun x18 => ((getI l1_1 x18).bind fun x19 => (if decide (x19 = 4) = true then (some (([] : List Int), false)) else ((getI x16 s1_0).bind fun x21 => ((getI x16 s1_0).bind fun x22 => ((getI l1_1 x22).bind fun x23 => (gd (ok64 (x23 + 1)) ((getI l1_1 x21).bind fun x25 => (gd (ok64 (s1_0 + 1)) ((z5c x16 kx1_0 n1) (s1_0 + 1) (l1_1.set x21.toNat (x23 + 1)))))))))))) else (kx1_0 l1_1)
def z95 (n : GNet) (t : Int) (data : List Int) (l0_1 : List Int) : Option ((List Int) × Bool) := (getI n.tasks t).bind fun x15 => ((zz9 x15 data).bind fun x16 => (z5c x16 z96 FUEL 0 l0_1))
def z5b (n : GNet) (t : Int) (kx0_0 : List Int → Option ((List Int) × Bool)) : Nat → Int → List Int → Option ((List Int) × Bool)
  | 0, _, _ => none
  | n0 + 1, s0_0, l0_1 => (getI n.tasks t).bind fun x9 => (if decide (s0_0 < (x9.clear.length : Int)) = true then ((getI n.tasks t).bind fun x11 => ((getI x11.clear s0_0).bind fun x12 => ((getI l0_1 x12).bind fun x13 => (gd (ok64 (s0_0 + 1)) ((z5b n t kx0_0 n0) (s0_0 + 1) (l0_1.set x12.toNat 0)))))) else (kx0_0 l0_1))
def zl8 (n : GNet) (marks : List Int) (t : Int) (data : List Int) : Option ((List Int) × Bool) := (z8o n marks).bind fun x1 => (if x1 = true then (gd (ok64 ((n.tasks.length : Int) - 1)) ((z03 t 0 ((n.tasks.length : Int) - 1)).bind fun x4 => (if x4 = true then ((z2o data).bind fun x6 => (if x6 = true then (gd (([] : List Int).length + marks.length ≤ SMALL) (z5b n t (z95 n t data) FUEL 0 (([] : List Int) ++ marks))) else (some (([] : List Int), false)))) else (some (([] : List Int), false))))) else (some (([] : List Int), false)))
def z0y : Con := ⟨172, [.v (.s .net) false, .v (.sl .I) false, .v .I false, .v (.sl .I) false], [((.sl .I), true), (.B, true)], [], fun x => zl8 x.1 x.2.1 x.2.2.1 x.2.2.2.1⟩
def w7n : Fs := ⟨[z38, z0n, z18, z64], [], []⟩
theorem y0q : w7n.Ok Tryz.prog := (fsK y06 (fsK z0v (fsK z6e (fsK wz2 fs0))))
def y5t : Tmpl := ⟨[(2, .c .i), (3, .c (.s .I)), (4, .c (.bx 4 0)), (10, .c (.ref 35)), (11, .c .i)], [(4, .boxT (.s .net)), (35, .arr .I true)]⟩
def y2x : Tmpl := ⟨[(2, .c .i), (3, .c (.s .I)), (4, .c (.bx 4 0)), (10, .c (.ref 35))], [(4, .boxT (.s .net)), (35, .arr .I true)]⟩
def w1f (av : AV) (x : HP z0y.ps) (n : Nat) (v : y5t.den) (K : Ks (CR z0y)) : Option (CR z0y) := z5b v.2.1 v.1.1 (fun l0_1 => y2x.at none ((v.1.1, v.1.2.1, (), (), ()), (v.2.1, l0_1, ())) (K (.exit 0))) n v.1.2.2.2.2.1 v.2.2.1
def y4x (av : AV) (x : HP z0y.ps) : Hdl (CR z0y) := hnd [] y5t (w1f av x)
theorem w2d : LP z0y Tryz.f172 [0] y4x := lp_ok (W := []) (H := []) (xs := [y2x]) y0q trivial rfl (fun av x v K => by kernel_rfl) (fun av x n v K => by kernel_rfl)
def y5u : Tmpl := ⟨[(10, .c (.ref 35)), (12, .c (.ref 64)), (13, .c .i)], [(35, .arr .I true), (64, .arr .I true)]⟩
def y2y : Tmpl := ⟨[(10, .c (.ref 35))], [(35, .arr .I true)]⟩
def w1g (av : AV) (x : HP z0y.ps) (n : Nat) (v : y5u.den) (K : Ks (CR z0y)) : Option (CR z0y) := z5c v.2.2.1 (fun l1_1 => y2y.at none (((), ()), (l1_1, ())) (K (.exit 2))) n v.1.2.2.1 v.2.1
def y4y (av : AV) (x : HP z0y.ps) : Hdl (CR z0y) := hnd [] y5u (w1g av x)
theorem w2e : LP z0y Tryz.f172 [1] y4y := lp_ok (W := []) (H := []) (xs := [y2y]) y0q trivial rfl (fun av x v K => by kernel_rfl) (fun av x n v K => by kernel_rfl)
theorem w99 : z0y.Ok Tryz.prog := fn_ok (k := z0y) (fn := Tryz.f172) (W := []) (H := [y4x, y4y]) Tryz.func172 y0q ⟨w2d, w2e, trivial⟩ rfl rfl (fun av x => by kernel_rfl)
def y8e  : Option Bool := some true
def z71 (people : List Int) (kx0_0 : Option Bool) : Nat → Int → Option Bool
  | 0, _ => none
  | n0 + 1, s0_0 => if decide (s0_0 < (people.length : Int)) = true then ((getI people s0_0).bind fun x4 => ((z03 x4 0 7).bind fun x5 => (if x5 = true then (gd (ok64 (s0_0 + 1)) ((z71 people kx0_0 n0) (s0_0 + 1))) else (some false)))) else (kx0_0)
def z8p (people : List Int) : Option Bool := (z03 (people.length : Int) 1 4).bind fun x1 => (if x1 = true then (z71 people y8e FUEL 0) else (some false))
def z39 : Con := ⟨44, [.v (.sl .I) false], [(.B, true)], [], fun x => z8p x.1⟩
def wt8 : Fs := ⟨[z0n], [], []⟩
theorem w0i : wt8.Ok Tryz.prog := (fsK z0v fs0)
def yi6 : Tmpl := ⟨[(0, .c (.s .I)), (3, .c .i)], []⟩
def ya0 : Tmpl := ⟨[], []⟩
def w71 (av : AV) (x : HP z39.ps) (n : Nat) (v : yi6.den) (K : Ks (CR z39)) : Option (CR z39) := z71 v.1.1 (ya0.at none ((), ()) (K (.exit 0))) n v.1.2.1
def yg1 (av : AV) (x : HP z39.ps) : Hdl (CR z39) := hnd [] yi6 (w71 av x)
theorem w8q : LP z39 Tryz.f44 [0] yg1 := lp_ok (W := []) (H := []) (xs := [ya0]) w0i trivial rfl (fun av x v K => by kernel_rfl) (fun av x n v K => by kernel_rfl)
theorem y07 : z39.Ok Tryz.prog := fn_ok (k := z39) (fn := Tryz.f44) (W := []) (H := [yg1]) Tryz.func44 w0i ⟨w8q, trivial⟩ rfl rfl (fun av x => by kernel_rfl)
def z5q (s0_0 : Int) : Option Bool := gd ((2 : Int) ≠ 0) (some (decide ((Int.tmod s0_0 2) = 1)))
def z2h (role : Int) (kx0_0 : Int → Option Bool) : Nat → Int → Int → Option Bool
  | 0, _, _ => none
  | n0 + 1, s0_0, s0_1 => if decide (s0_1 < role) = true then (gd ((2 : Int) ≠ 0 ∧ ok64 (Int.tdiv s0_0 2)) (gd (ok64 (s0_1 + 1)) ((z2h role kx0_0 n0) (Int.tdiv s0_0 2) (s0_1 + 1)))) else (kx0_0 s0_0)
def zt5 (people : List Int) (who : Int) (role : Int) : Option Bool := (z8p people).bind fun x1 => (if x1 = true then ((z03 who 1 (people.length : Int)).bind fun x3 => (if x3 = true then ((z03 role 1 3).bind fun x5 => (if x5 = true then (gd (ok64 (who - 1)) ((getI people (who - 1)).bind fun x8 => (z2h role z5q FUEL x8 1))) else (some false))) else (some false))) else (some false))
def z4z : Con := ⟨166, [.v (.sl .I) false, .v .I false, .v .I false], [(.B, true)], [], fun x => zt5 x.1 x.2.1 x.2.2.1⟩
def we8 : Fs := ⟨[z39, z0n], [], []⟩
theorem yp0 : we8.Ok Tryz.prog := (fsK y07 (fsK z0v fs0))
def y9c : Tmpl := ⟨[(2, .c .i), (7, .c .i), (8, .c .i)], []⟩
def y6b : Tmpl := ⟨[(7, .c .i)], []⟩
def w3h (av : AV) (x : HP z4z.ps) (n : Nat) (v : y9c.den) (K : Ks (CR z4z)) : Option (CR z4z) := z2h v.1.1 (fun s0_0 => y6b.at none ((s0_0, ()), ()) (K (.exit 0))) n v.1.2.1 v.1.2.2.1
def y7g (av : AV) (x : HP z4z.ps) : Hdl (CR z4z) := hnd [] y9c (w3h av x)
theorem w58 : LP z4z Tryz.f166 [0] y7g := lp_ok (W := []) (H := []) (xs := [y6b]) yp0 trivial rfl (fun av x v K => by kernel_rfl) (fun av x n v K => by kernel_rfl)
theorem wm5 : z4z.Ok Tryz.prog := fn_ok (k := z4z) (fn := Tryz.f166) (W := []) (H := [y7g]) Tryz.func166 yp0 ⟨w58, trivial⟩ rfl rfl (fun av x => by kernel_rfl)
def y5a  : Option Bool := some false
def z4p (did : List GDid) (who : Int) (task : Int) (kx0_0 : Option Bool) : Nat → Int → Option Bool
  | 0, _ => none
  | n0 + 1, s0_0 => if decide (s0_0 < (did.length : Int)) = true then ((getI did s0_0).bind fun x2 => (if decide (x2.who = who) = true then ((getI did s0_0).bind fun x4 => (if decide (x4.task = task) = true then (some true) else (gd (ok64 (s0_0 + 1)) ((z4p did who task kx0_0 n0) (s0_0 + 1))))) else (gd (ok64 (s0_0 + 1)) ((z4p did who task kx0_0 n0) (s0_0 + 1))))) else (kx0_0)
def zt4 (did : List GDid) (who : Int) (task : Int) : Option Bool := z4p did who task y5a FUEL 0
def z4y : Con := ⟨167, [.v (.sl (.s .did)) false, .v .I false, .v .I false], [(.B, true)], [], fun x => zt4 x.1 x.2.1 x.2.2.1⟩
def we7 : Fs := ⟨[], [], []⟩
theorem yo9 : we7.Ok Tryz.prog := fs0
def y9b : Tmpl := ⟨[(0, .c (.s (.s .did))), (1, .c .i), (2, .c .i), (7, .c .i)], []⟩
def y6a : Tmpl := ⟨[], []⟩
def w3g (av : AV) (x : HP z4y.ps) (n : Nat) (v : y9b.den) (K : Ks (CR z4y)) : Option (CR z4y) := z4p v.1.1 v.1.2.1 v.1.2.2.1 (y6a.at none ((), ()) (K (.exit 0))) n v.1.2.2.2.1
def y7f (av : AV) (x : HP z4y.ps) : Hdl (CR z4y) := hnd [] y9b (w3g av x)
theorem w57 : LP z4y Tryz.f167 [0] y7f := lp_ok (W := []) (H := []) (xs := [y6a]) yo9 trivial rfl (fun av x v K => by kernel_rfl) (fun av x n v K => by kernel_rfl)
theorem wm4 : z4y.Ok Tryz.prog := fn_ok (k := z4y) (fn := Tryz.f167) (W := []) (H := [y7f]) Tryz.func167 yo9 ⟨w57, trivial⟩ rfl rfl (fun av x => by kernel_rfl)
def y5b (n : GNet) (people : List Int) (did : List GDid) (t : Int) (s0_0 : Int) (l0_1 : List Int) (bk0 : Int → List Int → Option (List Int)) (s1_0 : Bool) : Option (List Int) := (getI n.tasks t).bind fun x18 => ((zt5 people s0_0 x18.role).bind fun x19 => (if x19 = true then (if s1_0 = true then (gd (ok64 (s0_0 + 1)) (bk0 (s0_0 + 1) l0_1)) else ((getI n.tasks t).bind fun x23 => ((zt4 did s0_0 x23.apart).bind fun x24 => (if x24 = true then (gd (ok64 (s0_0 + 1)) (bk0 (s0_0 + 1) l0_1)) else (gd (l0_1.length + [s0_0].length ≤ SMALL) (gd (ok64 (s0_0 + 1)) (bk0 (s0_0 + 1) (l0_1 ++ [s0_0])))))))) else (gd (ok64 (s0_0 + 1)) (bk0 (s0_0 + 1) l0_1))))
def z2i (n : GNet) (busy : List GItem) (t : Int) (s0_0 : Int) (kx1_0 : Bool → Option (List Int)) : Nat → Bool → Int → Option (List Int)
  | 0, _, _ => none
  | n1 + 1, s1_0, s1_1 => if decide (s1_1 < (busy.length : Int)) = true then (if s1_0 = true then (gd (ok64 (s1_1 + 1)) ((z2i n busy t s0_0 kx1_0 n1) true (s1_1 + 1))) else ((getI busy s1_1).bind fun x12 => (if decide (x12.who = s0_0) = true then ((getI busy s1_1).bind fun x14 => ((getI n.tasks t).bind fun x15 => (gd (ok64 (s1_1 + 1)) ((z2i n busy t s0_0 kx1_0 n1) (decide (x14.task = x15.apart)) (s1_1 + 1))))) else (gd (ok64 (s1_1 + 1)) ((z2i n busy t s0_0 kx1_0 n1) false (s1_1 + 1)))))) else (kx1_0 s1_0)
def zp2 (l0_1 : List Int) : Option (List Int) := some l0_1
def z5r (n : GNet) (people : List Int) (did : List GDid) (busy : List GItem) (t : Int) (kx0_0 : List Int → Option (List Int)) : Nat → Int → List Int → Option (List Int)
  | 0, _, _ => none
  | n0 + 1, s0_0, l0_1 => if decide (s0_0 ≤ (people.length : Int)) = true then (z2i n busy t s0_0 (y5b n people did t s0_0 l0_1 (z5r n people did busy t kx0_0 n0)) FUEL false 0) else (kx0_0 l0_1)
def z97 (n : GNet) (people : List Int) (did : List GDid) (busy : List GItem) (t : Int) : Option (List Int) := (z3c n).bind fun x1 => (if x1 = true then ((z8p people).bind fun x3 => (if x3 = true then (gd (ok64 ((n.tasks.length : Int) - 1)) ((z03 t 0 ((n.tasks.length : Int) - 1)).bind fun x6 => (if x6 = true then (z5r n people did busy t zp2 FUEL 1 ([] : List Int)) else (some ([] : List Int))))) else (some ([] : List Int)))) else (some ([] : List Int)))
def z12 : Con := ⟨102, [.v (.s .net) false, .v (.sl .I) false, .v (.sl (.s .did)) false, .v (.sl (.s .item)) false, .v .I false], [((.sl .I), true)], [], fun x => z97 x.1 x.2.1 x.2.2.1 x.2.2.2.1 x.2.2.2.2.1⟩
def we9 : Fs := ⟨[z2m, z39, z0n, z4z, z4y], [], []⟩
theorem y3j : we9.Ok Tryz.prog := (fsK zo0 (fsK y07 (fsK z0v (fsK wm5 (fsK wm4 fs0)))))
def y2g : Tmpl := ⟨[(1, .c (.s .I)), (2, .c (.s (.s .did))), (3, .c (.s (.s .item))), (4, .c .i), (5, .c (.bx 5 0)), (11, .c (.ref 15)), (12, .c .i), (13, .c .b), (14, .c .i)], [(5, .boxT (.s .net)), (15, .arr .I true)]⟩
def y0d : Tmpl := ⟨[(1, .c (.s .I)), (2, .c (.s (.s .did))), (3, .c (.s (.s .item))), (4, .c .i), (5, .c (.bx 5 0)), (11, .c (.ref 15)), (12, .c .i), (13, .c .b)], [(5, .boxT (.s .net)), (15, .arr .I true)]⟩
def yu8 (av : AV) (x : HP z12.ps) (n : Nat) (v : y2g.den) (K : Ks (CR z12)) : Option (CR z12) := z2i v.2.1 v.1.2.2.1 v.1.2.2.2.1 v.1.2.2.2.2.2.2.1 (fun s1_0 => y0d.at none ((v.1.1, v.1.2.1, v.1.2.2.1, v.1.2.2.2.1, (), (), v.1.2.2.2.2.2.2.1, s1_0, ()), (v.2.1, v.2.2.1, ())) (K (.exit 2))) n v.1.2.2.2.2.2.2.2.1 v.1.2.2.2.2.2.2.2.2.1
def y1o (av : AV) (x : HP z12.ps) : Hdl (CR z12) := hnd [] y2g (yu8 av x)
theorem yy1 : LP z12 Tryz.f102 [0, 0] y1o := lp_ok (W := []) (H := []) (xs := [y0d]) y3j trivial rfl (fun av x v K => by kernel_rfl) (fun av x n v K => by kernel_rfl)
def y9d : Tmpl := ⟨[(1, .c (.s .I)), (2, .c (.s (.s .did))), (3, .c (.s (.s .item))), (4, .c .i), (5, .c (.bx 5 0)), (11, .c (.ref 15)), (12, .c .i)], [(5, .boxT (.s .net)), (15, .arr .I true)]⟩
def y6c : Tmpl := ⟨[(11, .c (.ref 15))], [(15, .arr .I true)]⟩
def w3i (av : AV) (x : HP z12.ps) (n : Nat) (v : y9d.den) (K : Ks (CR z12)) : Option (CR z12) := z5r v.2.1 v.1.1 v.1.2.1 v.1.2.2.1 v.1.2.2.2.1 (fun l0_1 => y6c.at none (((), ()), (l0_1, ())) (K (.exit 0))) n v.1.2.2.2.2.2.2.1 v.2.2.1
def y7h (av : AV) (x : HP z12.ps) : Hdl (CR z12) := hnd [] y9d (w3i av x)
theorem w59 : LP z12 Tryz.f102 [0] y7h := lp_ok (W := []) (H := [y1o]) (xs := [y6c]) y3j ⟨yy1, trivial⟩ rfl (fun av x v K => by kernel_rfl) (fun av x n v K => by kernel_rfl)
theorem yr9 : z12.Ok Tryz.prog := fn_ok (k := z12) (fn := Tryz.f102) (W := []) (H := [y7h]) Tryz.func102 y3j ⟨w59, trivial⟩ rfl rfl (fun av x => by kernel_rfl)
def z94 (n : GNet) (data : List Int) : Option GCase := (z3c n).bind fun x1 => (if x1 = true then ((z2o data).bind fun x3 => (if x3 = true then (gd ((0 : Int) ≤ n.places ∧ n.places ≤ (1000000000 : Int)) (gd (([] : List Int).length + data.length ≤ SMALL) ((getI (List.replicate n.places.toNat (0 : Int)) 0).bind fun x7 => (some (GCase.mk 1 ((List.replicate n.places.toNat (0 : Int)).set (0 : Int).toNat 1) [] (([] : List Int) ++ data) []))))) else (some (GCase.mk 0 [] [] [] [])))) else (some (GCase.mk 0 [] [] [] [])))
def zr9 : Con := ⟨155, [.v (.s .net) false, .v (.sl .I) false], [((.s .kase), true)], [], fun x => z94 x.1 x.2.1⟩
def we3 : Fs := ⟨[z2m, z18], [], []⟩
theorem wh9 : we3.Ok Tryz.prog := (fsK zo0 (fsK z6e fs0))
theorem yr6 : zr9.Ok Tryz.prog := fn_ok (k := zr9) (fn := Tryz.f155) (W := []) (H := []) Tryz.func155 wh9 trivial rfl rfl (fun av x => by kernel_rfl)
def zf1 (c : GCase) : Option Bool := if decide (c.state = 1) = true then ((getI c.marks 1).bind fun x20 => (some (decide (x20 = 0)))) else (if decide ((c.busy.length : Int) = 0) = true then ((getI c.marks 1).bind fun x22 => (some ((decide (c.state = 2)) == (decide (0 < x22))))) else (some false))
def z6v (n : GNet) (c : GCase) (kx0_0 : Option Bool) : Nat → Int → Option Bool
  | 0, _ => none
  | n0 + 1, s0_0 => if decide (s0_0 < (c.did.length : Int)) = true then ((getI c.did s0_0).bind fun x11 => (gd (ok64 ((n.tasks.length : Int) - 1)) ((z03 x11.task 0 ((n.tasks.length : Int) - 1)).bind fun x13 => (if x13 = true then ((getI c.did s0_0).bind fun x15 => ((z03 x15.who 1 4).bind fun x16 => (if x16 = true then (gd (ok64 (s0_0 + 1)) ((z6v n c kx0_0 n0) (s0_0 + 1))) else (some false)))) else (some false))))) else (kx0_0)
def z8m (n : GNet) (c : GCase) : Option Bool := (z8o n c.marks).bind fun x1 => (if x1 = true then ((zg7 n c.busy).bind fun x3 => (if x3 = true then ((z2o c.data).bind fun x5 => (if x5 = true then (if decide (60 < (c.did.length : Int)) = true then (some false) else ((z03 c.state 1 3).bind fun x8 => (if x8 = true then (z6v n c (zf1 c) FUEL 0) else (some false)))) else (some false))) else (some false))) else (some false))
def z37 : Con := ⟨25, [.v (.s .net) false, .v (.s .kase) false], [(.B, true)], [], fun x => z8m x.1 x.2.1⟩
def wt1 : Fs := ⟨[z38, z45, z18, z0n], [], []⟩
theorem w0d : wt1.Ok Tryz.prog := (fsK y06 (fsK ys2 (fsK z6e (fsK z0v fs0))))
def yi1 : Tmpl := ⟨[(2, .c (.bx 2 0)), (3, .c (.bx 3 0)), (5, .c .i)], [(2, .boxT (.s .net)), (3, .boxT (.s .kase))]⟩
def y9v : Tmpl := ⟨[(3, .c (.bx 3 0))], [(3, .boxT (.s .kase))]⟩
def w6w (av : AV) (x : HP z37.ps) (n : Nat) (v : yi1.den) (K : Ks (CR z37)) : Option (CR z37) := z6v v.2.1 v.2.2.1 (y9v.at none (((), ()), (v.2.2.1, ())) (K (.exit 0))) n v.1.2.2.1
def yf6 (av : AV) (x : HP z37.ps) : Hdl (CR z37) := hnd [] yi1 (w6w av x)
theorem w8l : LP z37 Tryz.f25 [0] yf6 := lp_ok (W := []) (H := []) (xs := [y9v]) w0d trivial rfl (fun av x v K => by kernel_rfl) (fun av x n v K => by kernel_rfl)
theorem y05 : z37.Ok Tryz.prog := fn_ok (k := z37) (fn := Tryz.f25) (W := []) (H := [yf6]) Tryz.func25 w0d ⟨w8l, trivial⟩ rfl rfl (fun av x => by kernel_rfl)
def z6c (c : GCase) : Option GCase := gd (([] : List Int).length + c.marks.length ≤ SMALL) (gd (([] : List GItem).length + c.busy.length ≤ SMALL) (gd (([] : List Int).length + c.data.length ≤ SMALL) (gd (([] : List GDid).length + c.did.length ≤ SMALL) (some (GCase.mk c.state (([] : List Int) ++ c.marks) (([] : List GItem) ++ c.busy) (([] : List Int) ++ c.data) (([] : List GDid) ++ c.did))))))
def z8x : Con := ⟨86, [.v (.s .kase) false], [((.s .kase), true)], [], fun x => z6c x.1⟩
def wf9 : Fs := ⟨[], [], []⟩
theorem wi8 : wf9.Ok Tryz.prog := fs0
theorem zu5 : z8x.Ok Tryz.prog := fn_ok (k := z8x) (fn := Tryz.f86) (W := []) (H := []) Tryz.func86 wi8 trivial rfl rfl (fun av x => by kernel_rfl)
def z6w (n : GNet) (people : List Int) (c : GCase) (t : Int) (who : Int) : Option (GCase × Bool) := (z6c c).bind fun x1 => ((z8m n c).bind fun x2 => (if x2 = true then (if decide (c.state = 1) = true then ((zf2 n c.marks c.busy t).bind fun x5 => (if x5 = true then ((z97 n people c.did c.busy t).bind fun x7 => ((zb7 x7 who).bind fun x8 => (if x8 = true then (if decide ((c.busy.length : Int) = 6) = true then (some (x1, false)) else ((zl7 n c.marks t).bind fun x11 => (gd (x1.busy.length + [(GItem.mk t who 0)].length ≤ SMALL) (some ((GCase.mk x1.state x11 (x1.busy ++ [(GItem.mk t who 0)]) x1.data x1.did), true))))) else (some (x1, false))))) else (some (x1, false)))) else (some (x1, false))) else (some (x1, false))))
def ze0 : Con := ⟨32, [.v (.s .net) false, .v (.sl .I) false, .v (.s .kase) false, .v .I false, .v .I false], [((.s .kase), true), (.B, true)], [], fun x => z6w x.1 x.2.1 x.2.2.1 x.2.2.2.1 x.2.2.2.2.1⟩
def w45 : Fs := ⟨[z8x, z37, zs1, z12, z4b, z3y], [], []⟩
theorem w4q : w45.Ok Tryz.prog := (fsK zu5 (fsK y05 (fsK yr8 (fsK yr9 (fsK y8z (fsK w98 fs0))))))
theorem y8u : ze0.Ok Tryz.prog := fn_ok (k := ze0) (fn := Tryz.f32) (W := []) (H := []) Tryz.func32 w4q trivial rfl rfl (fun av x => by kernel_rfl)
def z9o (n : GNet) (c : GCase) (k : Int) (v : Int) (num : Int) : Option (GCase × Bool) := (z6c c).bind fun x1 => ((z8m n c).bind fun x2 => (if x2 = true then (if decide (c.state = 1) = true then (gd (ok64 ((c.busy.length : Int) - 1)) ((z03 k 0 ((c.busy.length : Int) - 1)).bind fun x6 => (if x6 = true then ((z03 v (-1) 2).bind fun x8 => (if x8 = true then ((z03 num (-99) 99).bind fun x10 => (if x10 = true then (if decide ((c.did.length : Int) = 60) = true then (some (x1, false)) else ((getI c.busy k).bind fun x13 => ((z7j c.data v num).bind fun x14 => (gd (ok64 (x13.did + 1)) ((getI x1.busy k).bind fun x16 => (gd (ok64 (x13.did + 1)) ((getI n.tasks x13.task).bind fun x18 => (if decide ((x13.did + 1) < x18.need) = true then (some ((GCase.mk x1.state x1.marks (x1.busy.set k.toNat (GItem.mk x16.task x16.who (x13.did + 1))) x14 x1.did), true)) else ((zl8 n c.marks x13.task x14).bind fun x20 => (if x20.2 = true then (gd ((0 : Int) ≤ k ∧ k ≤ (c.busy.length : Int)) (gd (([] : List GItem).length + (c.busy.take k.toNat).length ≤ SMALL) (gd (ok64 (k + 1)) (gd ((0 : Int) ≤ (k + 1) ∧ (k + 1) ≤ (c.busy.length : Int)) (gd ((([] : List GItem) ++ (c.busy.take k.toNat)).length + (c.busy.drop (k + 1).toNat).length ≤ SMALL) (gd (x1.did.length + [(GDid.mk x13.task x13.who)].length ≤ SMALL) ((getI x20.1 1).bind fun x28 => (if decide (0 < x28) = true then (some ((GCase.mk 2 x20.1 ([] : List GItem) x14 (x1.did ++ [(GDid.mk x13.task x13.who)])), true)) else (some ((GCase.mk x1.state x20.1 ((([] : List GItem) ++ (c.busy.take k.toNat)) ++ (c.busy.drop (k + 1).toNat)) x14 (x1.did ++ [(GDid.mk x13.task x13.who)])), true)))))))))) else ((z6c c).bind fun x30 => (some (x30, false))))))))))))) else (some (x1, false)))) else (some (x1, false)))) else (some (x1, false))))) else (some (x1, false))) else (some (x1, false))))
def zl0 : Con := ⟨112, [.v (.s .net) false, .v (.s .kase) false, .v .I false, .v .I false, .v .I false], [((.s .kase), true), (.B, true)], [], fun x => z9o x.1 x.2.1 x.2.2.1 x.2.2.2.1 x.2.2.2.2.1⟩
def w7l : Fs := ⟨[z8x, z37, z0n, zs0, z0y], [], []⟩
theorem w88 : w7l.Ok Tryz.prog := (fsK zu5 (fsK y05 (fsK z0v (fsK yr7 (fsK w99 fs0)))))
theorem yg9 : zl0.Ok Tryz.prog := fn_ok (k := zl0) (fn := Tryz.f112) (W := []) (H := []) Tryz.func112 w88 trivial rfl rfl (fun av x => by kernel_rfl)
def zl6 (n : GNet) (c : GCase) : Option (GCase × Bool) := (z6c c).bind fun x1 => ((z8m n c).bind fun x2 => (if x2 = true then (if decide (c.state = 1) = true then (some ((GCase.mk 3 x1.marks ([] : List GItem) x1.data x1.did), true)) else (some (x1, false))) else (some (x1, false))))
def y0v : Con := ⟨23, [.v (.s .net) false, .v (.s .kase) false], [((.s .kase), true), (.B, true)], [], fun x => zl6 x.1 x.2.1⟩
def w7k : Fs := ⟨[z8x, z37], [], []⟩
theorem w87 : w7k.Ok Tryz.prog := (fsK zu5 (fsK y05 fs0))
theorem w97 : y0v.Ok Tryz.prog := fn_ok (k := y0v) (fn := Tryz.f23) (W := []) (H := []) Tryz.func23 w87 trivial rfl rfl (fun av x => by kernel_rfl)
def z08 (c : GCase) : Option GCase := (z0l c.marks).bind fun x1 => (gd (([] : List GItem).length + c.busy.length ≤ SMALL) ((z0l c.data).bind fun x3 => (gd (([] : List GDid).length + c.did.length ≤ SMALL) (some (GCase.mk c.state x1 (([] : List GItem) ++ c.busy) x3 (([] : List GDid) ++ c.did))))))
def z32 : Con := ⟨84, [.v (.s .kase) false], [((.s .kase), true)], [], fun x => z08 x.1⟩
def yc3 : Fs := ⟨[z1t], [], []⟩
theorem yc9 : yc3.Ok Tryz.prog := (fsK z3f fs0)
theorem z6l : z32.Ok Tryz.prog := fn_ok (k := z32) (fn := Tryz.f84) (W := []) (H := []) Tryz.func84 yc9 trivial rfl rfl (fun av x => by kernel_rfl)
def y8f (s0_0 : Int) (bk0 : Int → Option Bool) (s1_0 : Int) : Option Bool := if ((decide (s0_0 = 0)) == (decide (s1_0 = 0))) = true then (if decide (1 < s1_0) = true then (some false) else (gd (ok64 (s0_0 + 1)) (bk0 (s0_0 + 1)))) else (some false)
def z15 (tree : List GNode) (s0_0 : Int) (kx1_0 : Int → Option Bool) : Nat → Int → Int → Option Bool
  | 0, _, _ => none
  | n1 + 1, s1_0, s1_1 => if decide (s1_1 < (tree.length : Int)) = true then ((getI tree s1_1).bind fun x15 => (if decide (x15.yes = s0_0) = true then (gd (ok64 (s1_0 + 1)) ((getI tree s1_1).bind fun x18 => (if decide (x18.no = s0_0) = true then (gd (ok64 ((s1_0 + 1) + 1)) (gd (ok64 (s1_1 + 1)) ((z15 tree s0_0 kx1_0 n1) ((s1_0 + 1) + 1) (s1_1 + 1)))) else (gd (ok64 (s1_1 + 1)) ((z15 tree s0_0 kx1_0 n1) (s1_0 + 1) (s1_1 + 1)))))) else ((getI tree s1_1).bind fun x23 => (if decide (x23.no = s0_0) = true then (gd (ok64 (s1_0 + 1)) (gd (ok64 (s1_1 + 1)) ((z15 tree s0_0 kx1_0 n1) (s1_0 + 1) (s1_1 + 1)))) else (gd (ok64 (s1_1 + 1)) ((z15 tree s0_0 kx1_0 n1) s1_0 (s1_1 + 1))))))) else (kx1_0 s1_0)
def y8g (s0_0 : Int) (bk0 : Int → Option Bool) (s2_0 : Int) : Option Bool := if ((decide (s0_0 = 0)) == (decide (s2_0 = 0))) = true then (if decide (1 < s2_0) = true then (some false) else (gd (ok64 (s0_0 + 1)) (bk0 (s0_0 + 1)))) else (some false)
def y8h (s0_0 : Int) (bk0 : Int → Option Bool) (s3_0 : Int) : Option Bool := if ((decide (s0_0 = 0)) == (decide (s3_0 = 0))) = true then (if decide (1 < s3_0) = true then (some false) else (gd (ok64 (s0_0 + 1)) (bk0 (s0_0 + 1)))) else (some false)
def y8i (s0_0 : Int) (bk0 : Int → Option Bool) (s4_0 : Int) : Option Bool := if ((decide (s0_0 = 0)) == (decide (s4_0 = 0))) = true then (if decide (1 < s4_0) = true then (some false) else (gd (ok64 (s0_0 + 1)) (bk0 (s0_0 + 1)))) else (some false)
def y8j  : Option Bool := some true
def z30 (tree : List GNode) (kx0_0 : Option Bool) : Nat → Int → Option Bool
  | 0, _ => none
  | n0 + 1, s0_0 => if decide (s0_0 < (tree.length : Int)) = true then ((getI tree s0_0).bind fun x3 => ((z69 x3.if_).bind fun x4 => (if x4 = true then ((z03 x3.ans 0 2).bind fun x6 => (if x6 = true then ((z2o x3.stone).bind fun x8 => (if x8 = true then ((z1c x3.if_ x3.stone).bind fun x10 => (if x10 = true then (if decide (x3.yes = (-1)) = true then (if decide (x3.no = (-1)) = true then (z15 tree s0_0 (y8f s0_0 (z30 tree kx0_0 n0)) FUEL 0 0) else (gd (ok64 (s0_0 + 1)) (gd (ok64 ((tree.length : Int) - 1)) ((z03 x3.no (s0_0 + 1) ((tree.length : Int) - 1)).bind fun x33 => (if x33 = true then (z15 tree s0_0 (y8g s0_0 (z30 tree kx0_0 n0)) FUEL 0 0) else (some false)))))) else (gd (ok64 (s0_0 + 1)) (gd (ok64 ((tree.length : Int) - 1)) ((z03 x3.yes (s0_0 + 1) ((tree.length : Int) - 1)).bind fun x54 => (if x54 = true then (if decide (x3.no = (-1)) = true then (z15 tree s0_0 (y8h s0_0 (z30 tree kx0_0 n0)) FUEL 0 0) else (gd (ok64 (s0_0 + 1)) (gd (ok64 ((tree.length : Int) - 1)) ((z03 x3.no (s0_0 + 1) ((tree.length : Int) - 1)).bind fun x76 => (if x76 = true then (z15 tree s0_0 (y8i s0_0 (z30 tree kx0_0 n0)) FUEL 0 0) else (some false)))))) else (some false)))))) else (some false))) else (some false))) else (some false))) else (some false)))) else (kx0_0)
def z8q (tree : List GNode) : Option Bool := if decide (12 < (tree.length : Int)) = true then (some false) else (z30 tree y8j FUEL 0)
def z19 : Con := ⟨129, [.v (.sl (.s .node)) false], [(.B, true)], [], fun x => z8q x.1⟩
def wt9 : Fs := ⟨[z8g, z0n, z18, z4a], [], []⟩
theorem y73 : wt9.Ok Tryz.prog := (fsK zn9 (fsK z0v (fsK z6e (fsK z75 fs0))))
def y5v : Tmpl := ⟨[(0, .c (.s (.s .node))), (3, .c .i), (5, .c .i), (6, .c .i)], []⟩
def y2z : Tmpl := ⟨[(0, .c (.s (.s .node))), (3, .c .i), (5, .c .i)], []⟩
def w1h (av : AV) (x : HP z19.ps) (n : Nat) (v : y5v.den) (K : Ks (CR z19)) : Option (CR z19) := z15 v.1.1 v.1.2.1 (fun s1_0 => y2z.at none ((v.1.1, v.1.2.1, s1_0, ()), ()) (K (.exit 2))) n v.1.2.2.1 v.1.2.2.2.1
def y4z (av : AV) (x : HP z19.ps) : Hdl (CR z19) := hnd [] y5v (w1h av x)
theorem w2f : LP z19 Tryz.f129 [0, 0] y4z := lp_ok (W := []) (H := []) (xs := [y2z]) y73 trivial rfl (fun av x v K => by kernel_rfl) (fun av x n v K => by kernel_rfl)
def yi7 : Tmpl := ⟨[(0, .c (.s (.s .node))), (3, .c .i)], []⟩
def ya1 : Tmpl := ⟨[], []⟩
def w72 (av : AV) (x : HP z19.ps) (n : Nat) (v : yi7.den) (K : Ks (CR z19)) : Option (CR z19) := z30 v.1.1 (ya1.at none ((), ()) (K (.exit 0))) n v.1.2.1
def yg2 (av : AV) (x : HP z19.ps) : Hdl (CR z19) := hnd [] yi7 (w72 av x)
theorem w8r : LP z19 Tryz.f129 [0] yg2 := lp_ok (W := []) (H := [y4z]) (xs := [ya1]) y73 ⟨w2f, trivial⟩ rfl (fun av x v K => by kernel_rfl) (fun av x n v K => by kernel_rfl)
theorem y8x : z19.Ok Tryz.prog := fn_ok (k := z19) (fn := Tryz.f129) (W := []) (H := [yg2]) Tryz.func129 y73 ⟨w8r, trivial⟩ rfl rfl (fun av x => by kernel_rfl)
def y5d (s0_0 : Int) (s0_1 : Int) : Option (Int × Int) := some (s0_0, s0_1)
def y5e (s0_0 : Int) (s0_1 : Int) : Option (Int × Int) := some (s0_0, s0_1)
def z3d (tree : List GNode) (data : List Int) (kx0_0 : Int → Int → Option (Int × Int)) (kx0_1 : Int → Int → Option (Int × Int)) : Nat → Int → Int → Int → Int → Option (Int × Int)
  | 0, _, _, _, _ => none
  | n0 + 1, s0_0, s0_1, s0_2, s0_3 => if decide (s0_3 < 12) = true then (if decide (s0_2 = (-1)) = true then (kx0_0 s0_0 s0_1) else ((getI tree s0_2).bind fun x4 => ((z1c x4.if_ data).bind fun x5 => (if x5 = true then ((getI tree s0_2).bind fun x7 => (gd (ok64 (s0_3 + 1)) ((z3d tree data kx0_0 kx0_1 n0) s0_2 s0_2 x7.yes (s0_3 + 1)))) else ((getI tree s0_2).bind fun x9 => (gd (ok64 (s0_3 + 1)) ((z3d tree data kx0_0 kx0_1 n0) s0_0 s0_2 x9.no (s0_3 + 1)))))))) else (kx0_1 s0_0 s0_1)
def y5f (s1_0 : Int) (s1_1 : Int) : Option (Int × Int) := some (s1_0, s1_1)
def y5g (s1_0 : Int) (s1_1 : Int) : Option (Int × Int) := some (s1_0, s1_1)
def z7n (tree : List GNode) (data : List Int) : Option (Int × Int) := if decide ((tree.length : Int) = 0) = true then (z3d tree data y5d y5e FUEL (-1) (-1) (-1) 0) else (z3d tree data y5f y5g FUEL (-1) (-1) 0 0)
def z2x : Con := ⟨209, [.v (.sl (.s .node)) false, .v (.sl .I) false], [(.I, true), (.I, true)], [], fun x => z7n x.1 x.2.1⟩
def wg2 : Fs := ⟨[z4a], [], []⟩
theorem yp5 : wg2.Ok Tryz.prog := (fsK z75 fs0)
def y9i : Tmpl := ⟨[(0, .c (.s (.s .node))), (1, .c (.s .I)), (6, .c .i), (7, .c .i), (8, .c .i), (9, .c .i)], []⟩
def zp7 : Tmpl := ⟨[(6, .c .i), (7, .c .i)], []⟩
def w3n (av : AV) (x : HP z2x.ps) (n : Nat) (v : y9i.den) (K : Ks (CR z2x)) : Option (CR z2x) := z3d v.1.1 v.1.2.1 (fun s0_0 s0_1 => zp7.at none ((s0_0, s0_1, ()), ()) (K (.exit 0))) (fun s0_0 s0_1 => zp7.at none ((s0_0, s0_1, ()), ()) (K (.exit 0))) n v.1.2.2.1 v.1.2.2.2.1 v.1.2.2.2.2.1 v.1.2.2.2.2.2.1
def y7m (av : AV) (x : HP z2x.ps) : Hdl (CR z2x) := hnd [] y9i (w3n av x)
theorem w5e : LP z2x Tryz.f209 [0] y7m := lp_ok (W := []) (H := []) (xs := [zp7]) yp5 trivial rfl (fun av x v K => by kernel_rfl) (fun av x n v K => by kernel_rfl)
theorem y4e : z2x.Ok Tryz.prog := fn_ok (k := z2x) (fn := Tryz.f209) (W := []) (H := [y7m]) Tryz.func209 yp5 ⟨w5e, trivial⟩ rfl rfl (fun av x => by kernel_rfl)
def zt6 (tree : List GNode) (data : List Int) : Option Int := (z8q tree).bind fun x1 => (if x1 = true then ((z2o data).bind fun x3 => (if x3 = true then ((z7n tree data).bind fun x5 => (if decide (x5.1 = (-1)) = true then (some 0) else ((getI tree x5.1).bind fun x7 => (some x7.ans)))) else (some 0))) else (some 0))
def y3u : Con := ⟨186, [.v (.sl (.s .node)) false, .v (.sl .I) false], [(.I, true)], [], fun x => zt6 x.1 x.2.1⟩
def wf1 : Fs := ⟨[z19, z18, z2x], [], []⟩
theorem wi2 : wf1.Ok Tryz.prog := (fsK y8x (fsK z6e (fsK y4e fs0)))
theorem wm6 : y3u.Ok Tryz.prog := fn_ok (k := y3u) (fn := Tryz.f186) (W := []) (H := []) Tryz.func186 wi2 trivial rfl rfl (fun av x => by kernel_rfl)
def zu0 (tree : List GNode) (a : List Int) (b : List Int) : Option Bool := (z7n tree a).bind fun x1 => ((z7n tree b).bind fun x2 => (if decide (x1.2 = x2.2) = true then (if decide (x1.2 = (-1)) = true then (some true) else ((getI tree x1.2).bind fun x5 => ((z1c x5.if_ a).bind fun x6 => ((getI tree x1.2).bind fun x7 => ((z1c x7.if_ b).bind fun x8 => (some (x6 == x8))))))) else (some false)))
def y3x : Con := ⟨210, [.v (.sl (.s .node)) false, .v (.sl .I) false, .v (.sl .I) false], [(.B, true)], [], fun x => zu0 x.1 x.2.1 x.2.2.1⟩
def wg1 : Fs := ⟨[z2x, z4a], [], []⟩
theorem wi9 : wg1.Ok Tryz.prog := (fsK y4e (fsK z75 fs0))
theorem wn0 : y3x.Ok Tryz.prog := fn_ok (k := y3x) (fn := Tryz.f210) (W := []) (H := []) Tryz.func210 wi9 trivial rfl rfl (fun av x => by kernel_rfl)
def zp3 (l0_1 : List GNode) : Option (List GNode) := some l0_1
def z5t (tree : List GNode) (kx0_0 : List GNode → Option (List GNode)) : Nat → Int → List GNode → Option (List GNode)
  | 0, _, _ => none
  | n0 + 1, s0_0, l0_1 => if decide (s0_0 < (tree.length : Int)) = true then ((getI tree s0_0).bind fun x2 => (gd (([] : List Int).length + x2.stone.length ≤ SMALL) (gd (l0_1.length + [(GNode.mk x2.if_ x2.yes x2.no x2.ans (([] : List Int) ++ x2.stone))].length ≤ SMALL) (gd (ok64 (s0_0 + 1)) ((z5t tree kx0_0 n0) (s0_0 + 1) (l0_1 ++ [(GNode.mk x2.if_ x2.yes x2.no x2.ans (([] : List Int) ++ x2.stone))])))))) else (kx0_0 l0_1)
def zh0 (tree : List GNode) : Option (List GNode) := z5t tree zp3 FUEL 0 ([] : List GNode)
def z46 : Con := ⟨189, [.v (.sl (.s .node)) false], [((.sl (.s .node)), true)], [], fun x => zh0 x.1⟩
def wg0 : Fs := ⟨[], [], []⟩
theorem yp4 : wg0.Ok Tryz.prog := fs0
def y9h : Tmpl := ⟨[(0, .c (.s (.s .node))), (3, .c (.ref 6)), (4, .c .i)], [(6, .arr (.s .node) true)]⟩
def y6g : Tmpl := ⟨[(3, .c (.ref 6))], [(6, .arr (.s .node) true)]⟩
def w3m (av : AV) (x : HP z46.ps) (n : Nat) (v : y9h.den) (K : Ks (CR z46)) : Option (CR z46) := z5t v.1.1 (fun l0_1 => y6g.at none (((), ()), (l0_1, ())) (K (.exit 0))) n v.1.2.2.1 v.2.1
def y7l (av : AV) (x : HP z46.ps) : Hdl (CR z46) := hnd [] y9h (w3m av x)
theorem w5d : LP z46 Tryz.f189 [0] y7l := lp_ok (W := []) (H := []) (xs := [y6g]) yp4 trivial rfl (fun av x v K => by kernel_rfl) (fun av x n v K => by kernel_rfl)
theorem ys3 : z46.Ok Tryz.prog := fn_ok (k := z46) (fn := Tryz.f189) (W := []) (H := [y7l]) Tryz.func189 yp4 ⟨w5d, trivial⟩ rfl rfl (fun av x => by kernel_rfl)
def za0 (tree : List GNode) (data : List Int) (e : GAsk) (ans : Int) (x1 : (List GNode)) : Option ((List GNode) × Bool) := (z7n tree data).bind fun x20 => (if decide (x20.2 = (-1)) = true then (gd (([] : List Int).length + data.length ≤ SMALL) (gd (x1.length + [(GNode.mk e (-1) (-1) ans (([] : List Int) ++ data))].length ≤ SMALL) (some ((x1 ++ [(GNode.mk e (-1) (-1) ans (([] : List Int) ++ data))]), true)))) else ((getI tree x20.2).bind fun x24 => ((z1c x24.if_ data).bind fun x25 => (if x25 = true then ((getI x1 x20.2).bind fun x27 => (gd (([] : List Int).length + data.length ≤ SMALL) (gd ((x1.set x20.2.toNat (GNode.mk x27.if_ (tree.length : Int) x27.no x27.ans x27.stone)).length + [(GNode.mk e (-1) (-1) ans (([] : List Int) ++ data))].length ≤ SMALL) (some (((x1.set x20.2.toNat (GNode.mk x27.if_ (tree.length : Int) x27.no x27.ans x27.stone)) ++ [(GNode.mk e (-1) (-1) ans (([] : List Int) ++ data))]), true))))) else ((getI x1 x20.2).bind fun x30 => (gd (([] : List Int).length + data.length ≤ SMALL) (gd ((x1.set x20.2.toNat (GNode.mk x30.if_ x30.yes (tree.length : Int) x30.ans x30.stone)).length + [(GNode.mk e (-1) (-1) ans (([] : List Int) ++ data))].length ≤ SMALL) (some (((x1.set x20.2.toNat (GNode.mk x30.if_ x30.yes (tree.length : Int) x30.ans x30.stone)) ++ [(GNode.mk e (-1) (-1) ans (([] : List Int) ++ data))]), true)))))))))
def z4q (tree : List GNode) (data : List Int) (e : GAsk) (x1 : (List GNode)) (kx0_0 : Option ((List GNode) × Bool)) : Nat → Int → Option ((List GNode) × Bool)
  | 0, _ => none
  | n0 + 1, s0_0 => if decide (s0_0 < (tree.length : Int)) = true then ((getI tree s0_0).bind fun x12 => ((zu0 tree x12.stone data).bind fun x13 => (if x13 = true then ((getI tree s0_0).bind fun x15 => ((z1c e x15.stone).bind fun x16 => (if x16 = true then (some (x1, false)) else (gd (ok64 (s0_0 + 1)) ((z4q tree data e x1 kx0_0 n0) (s0_0 + 1)))))) else (gd (ok64 (s0_0 + 1)) ((z4q tree data e x1 kx0_0 n0) (s0_0 + 1)))))) else (kx0_0)
def z7k (tree : List GNode) (data : List Int) (e : GAsk) (ans : Int) : Option ((List GNode) × Bool) := (zh0 tree).bind fun x1 => ((z8q tree).bind fun x2 => (if x2 = true then ((z2o data).bind fun x4 => (if x4 = true then ((z1c e data).bind fun x6 => (if x6 = true then ((z03 ans 0 2).bind fun x8 => (if x8 = true then (if decide ((tree.length : Int) = 12) = true then (some (x1, false)) else (z4q tree data e x1 (za0 tree data e ans x1) FUEL 0)) else (some (x1, false)))) else (some (x1, false)))) else (some (x1, false)))) else (some (x1, false))))
def z3z : Con := ⟨187, [.v (.sl (.s .node)) false, .v (.sl .I) false, .v (.s .ask) false, .v .I false], [((.sl (.s .node)), true), (.B, true)], [], fun x => z7k x.1 x.2.1 x.2.2.1 x.2.2.2.1⟩
def wf0 : Fs := ⟨[z46, z19, z18, z4a, z0n, y3x, z2x], [], []⟩
theorem yp1 : wf0.Ok Tryz.prog := (fsK ys3 (fsK y8x (fsK z6e (fsK z75 (fsK z0v (fsK wn0 (fsK y4e fs0)))))))
def y9e : Tmpl := ⟨[(0, .c (.s (.s .node))), (1, .c (.s .I)), (3, .c .i), (6, .c (.bx 6 0)), (10, .c (.ref 15)), (11, .c .i)], [(6, .boxT (.s .ask)), (15, .arr (.s .node) true)]⟩
def y6d : Tmpl := ⟨[(0, .c (.s (.s .node))), (1, .c (.s .I)), (3, .c .i), (6, .c (.bx 6 0)), (10, .c (.ref 15))], [(6, .boxT (.s .ask)), (15, .arr (.s .node) true)]⟩
def w3j (av : AV) (x : HP z3z.ps) (n : Nat) (v : y9e.den) (K : Ks (CR z3z)) : Option (CR z3z) := z4q v.1.1 v.1.2.1 v.2.1 v.2.2.1 (y6d.at none ((v.1.1, v.1.2.1, v.1.2.2.1, (), (), ()), (v.2.1, v.2.2.1, ())) (K (.exit 0))) n v.1.2.2.2.2.2.1
def y7i (av : AV) (x : HP z3z.ps) : Hdl (CR z3z) := hnd [] y9e (w3j av x)
theorem w5a : LP z3z Tryz.f187 [0] y7i := lp_ok (W := []) (H := []) (xs := [y6d]) yp1 trivial rfl (fun av x v K => by kernel_rfl) (fun av x n v K => by kernel_rfl)
theorem ys0 : z3z.Ok Tryz.prog := fn_ok (k := z3z) (fn := Tryz.f187) (W := []) (H := [y7i]) Tryz.func187 yp1 ⟨w5a, trivial⟩ rfl rfl (fun av x => by kernel_rfl)
def z4d (ans : Int) : Option Bool := (z0c ans 0 2).bind fun x1 => (some x1)
def z8f : Con := ⟨121, [.v .I false], [(.B, true)], [], fun x => z4d x.1⟩
def w43 : Fs := ⟨[z20], [], []⟩
theorem w4o : w43.Ok Tryz.prog := (fsK z2q fs0)
theorem zw8 : z8f.Ok Tryz.prog := fn_ok (k := z8f) (fn := Tryz.f121) (W := []) (H := []) Tryz.func121 w4o trivial rfl rfl (fun av x => by kernel_rfl)
def z9h (l0_1 : List GNode) : Option (List GNode) := some l0_1
def z36 (tree : List GNode) (p0_0 : Int) (kx0_0 : List GNode → Option (List GNode)) : Nat → Int → List GNode → Option (List GNode)
  | 0, _, _ => none
  | n0 + 1, s0_0, l0_1 => if decide (s0_0 < p0_0) = true then ((getI tree s0_0).bind fun x2 => ((z0l x2.stone).bind fun x3 => (gd (l0_1.length + [(GNode.mk x2.if_ x2.yes x2.no x2.ans x3)].length ≤ SMALL) (gd (ok64 (s0_0 + 1)) ((z36 tree p0_0 kx0_0 n0) (s0_0 + 1) (l0_1 ++ [(GNode.mk x2.if_ x2.yes x2.no x2.ans x3)])))))) else (kx0_0 l0_1)
def z6s (tree : List GNode) : Option (List GNode) := z36 tree (tree.length : Int) z9h FUEL 0 ([] : List GNode)
def z1f : Con := ⟨183, [.v (.sl (.s .node)) false], [((.sl (.s .node)), true)], [], fun x => z6s x.1⟩
def yw5 : Fs := ⟨[z1t], [], []⟩
theorem y1l : yw5.Ok Tryz.prog := (fsK z3f fs0)
def zx5 : Tmpl := ⟨[(3, .c (.ref 500003)), (6, .c (.s (.s .node))), (7, .c .i), (8, .c .i)], [(500003, .arr (.s .node) true)]⟩
def zq9 : Tmpl := ⟨[(3, .c (.ref 500003))], [(500003, .arr (.s .node) true)]⟩
def yj3 (av : AV) (x : HP z1f.ps) (n : Nat) (v : zx5.den) (K : Ks (CR z1f)) : Option (CR z1f) := z36 v.1.2.1 v.1.2.2.1 (fun l0_1 => zq9.at none (((), ()), (l0_1, ())) (K (.exit 0))) n v.1.2.2.2.1 v.2.1
def zv5 (av : AV) (x : HP z1f.ps) : Hdl (CR z1f) := hnd [.e 3 500003 (.s .node)] zx5 (yj3 av x)
theorem yl0 : LP z1f Tryz.f183 [0] zv5 := lp_ok (W := []) (H := []) (xs := [zq9]) y1l trivial rfl (fun av x v K => by kernel_rfl) (fun av x n v K => by kernel_rfl)
theorem y2a : z1f.Ok Tryz.prog := fn_ok (k := z1f) (fn := Tryz.f183) (W := []) (H := [zv5]) Tryz.func183 y1l ⟨yl0, trivial⟩ rfl rfl (fun av x => by kernel_rfl)
def y5h  : Option Bool := some true
def z5w (nets : List GNet) (kx0_0 : Option Bool) : Nat → Int → Option Bool
  | 0, _ => none
  | n0 + 1, s0_0 => if decide (s0_0 < (nets.length : Int)) = true then ((getI nets s0_0).bind fun x4 => ((z3c x4).bind fun x5 => (if x5 = true then (gd (ok64 (s0_0 + 1)) ((z5w nets kx0_0 n0) (s0_0 + 1))) else (some false)))) else (kx0_0)
def zh2 (nets : List GNet) : Option Bool := (z03 (nets.length : Int) 1 3).bind fun x1 => (if x1 = true then (z5w nets y5h FUEL 0) else (some false))
def z47 : Con := ⟨128, [.v (.sl (.s .net)) false], [(.B, true)], [], fun x => zh2 x.1⟩
def wg6 : Fs := ⟨[z0n, z2m], [], []⟩
theorem yp6 : wg6.Ok Tryz.prog := (fsK z0v (fsK zo0 fs0))
def y9l : Tmpl := ⟨[(0, .c (.s (.s .net))), (3, .c .i)], []⟩
def y6j : Tmpl := ⟨[], []⟩
def w3q (av : AV) (x : HP z47.ps) (n : Nat) (v : y9l.den) (K : Ks (CR z47)) : Option (CR z47) := z5w v.1.1 (y6j.at none ((), ()) (K (.exit 0))) n v.1.2.1
def y7p (av : AV) (x : HP z47.ps) : Hdl (CR z47) := hnd [] y9l (w3q av x)
theorem w5h : LP z47 Tryz.f128 [0] y7p := lp_ok (W := []) (H := []) (xs := [y6j]) yp6 trivial rfl (fun av x v K => by kernel_rfl) (fun av x n v K => by kernel_rfl)
theorem ys5 : z47.Ok Tryz.prog := fn_ok (k := z47) (fn := Tryz.f128) (W := []) (H := [y7p]) Tryz.func128 yp6 ⟨w5h, trivial⟩ rfl rfl (fun av x => by kernel_rfl)
def za7 (p0_1 : Int) (l0_1 : List GTask) : Option GNet := some (GNet.mk p0_1 l0_1)
def z3s (n : GNet) (kx0_0 : List GTask → Option GNet) : Nat → Int → List GTask → Option GNet
  | 0, _, _ => none
  | n0 + 1, s0_0, l0_1 => if decide (s0_0 < (n.tasks.length : Int)) = true then ((getI n.tasks s0_0).bind fun x2 => (gd (([] : List Int).length + x2.in_.length ≤ SMALL) (gd (([] : List GFlow).length + x2.out.length ≤ SMALL) (gd (([] : List Int).length + x2.clear.length ≤ SMALL) (gd (l0_1.length + [(GTask.mk x2.join x2.split (([] : List Int) ++ x2.in_) (([] : List GFlow) ++ x2.out) (([] : List Int) ++ x2.clear) x2.role x2.apart x2.all x2.need)].length ≤ SMALL) (gd (ok64 (s0_0 + 1)) ((z3s n kx0_0 n0) (s0_0 + 1) (l0_1 ++ [(GTask.mk x2.join x2.split (([] : List Int) ++ x2.in_) (([] : List GFlow) ++ x2.out) (([] : List Int) ++ x2.clear) x2.role x2.apart x2.all x2.need)])))))))) else (kx0_0 l0_1)
def z7v (n : GNet) : Option GNet := z3s n (za7 n.places) FUEL 0 ([] : List GTask)
def z1v : Con := ⟨190, [.v (.s .net) false], [((.s .net), true)], [], fun x => z7v x.1⟩
def w1x : Fs := ⟨[], [], []⟩
theorem y4n : w1x.Ok Tryz.prog := fs0
def y0b : Tmpl := ⟨[(1, .c (.bx 1 0)), (2, .c (.bx 2 0)), (3, .c (.bx 3 0)), (4, .c .i)], [(1, .boxT (.s .net)), (2, .box [.i, .nl]), (3, .box [.i, .ref 510301]), (510301, .arr (.s .task) true)]⟩
def zy1 : Tmpl := ⟨[(2, .c (.bx 2 0)), (3, .c (.bx 3 0))], [(2, .box [.i, .nl]), (3, .box [.i, .ref 510301]), (510301, .arr (.s .task) true)]⟩
def ym8 (av : AV) (x : HP z1v.ps) (n : Nat) (v : y0b.den) (K : Ks (CR z1v)) : Option (CR z1v) := z3s v.2.1 (fun l0_1 => zy1.at none (((), (), ()), ((v.2.2.1.1, (), ()), (v.2.2.2.1.1, (), ()), l0_1, ())) (K (.exit 0))) n v.1.2.2.2.1 v.2.2.2.2.1
def zy8 (av : AV) (x : HP z1v.ps) : Hdl (CR z1v) := hnd [.b 3 1 510301 (.s .task)] y0b (ym8 av x)
theorem yq4 : LP z1v Tryz.f190 [0] zy8 := lp_ok (W := []) (H := []) (xs := [zy1]) y4n trivial rfl (fun av x v K => by kernel_rfl) (fun av x n v K => by kernel_rfl)
theorem y5j : z1v.Ok Tryz.prog := fn_ok (k := z1v) (fn := Tryz.f190) (W := []) (H := [zy8]) Tryz.func190 y4n ⟨yq4, trivial⟩ rfl rfl (fun av x => by kernel_rfl)
def zp1 (p0_0 : List Int) (l0_1 : List GNet) : Option GHouse := some (GHouse.mk l0_1 p0_0 [] [])
def z5p (nets : List GNet) (kx0_0 : List GNet → Option GHouse) : Nat → Int → List GNet → Option GHouse
  | 0, _, _ => none
  | n0 + 1, s0_0, l0_1 => if decide (s0_0 < (nets.length : Int)) = true then ((getI nets s0_0).bind fun x7 => ((z7v x7).bind fun x8 => (gd (l0_1.length + [x8].length ≤ SMALL) (gd (ok64 (s0_0 + 1)) ((z5p nets kx0_0 n0) (s0_0 + 1) (l0_1 ++ [x8])))))) else (kx0_0 l0_1)
def zt3 (nets : List GNet) (people : List Int) : Option GHouse := (zh2 nets).bind fun x1 => (if x1 = true then ((z8p people).bind fun x3 => (if x3 = true then (gd (([] : List Int).length + people.length ≤ SMALL) (z5p nets (zp1 (([] : List Int) ++ people)) FUEL 0 ([] : List GNet))) else (some (GHouse.mk [] [] [] [])))) else (some (GHouse.mk [] [] [] [])))
def z4x : Con := ⟨195, [.v (.sl (.s .net)) false, .v (.sl .I) false], [((.s .house), true)], [], fun x => zt3 x.1 x.2.1⟩
def we6 : Fs := ⟨[z47, z39, z1v], [], []⟩
theorem yo8 : we6.Ok Tryz.prog := (fsK ys5 (fsK y07 (fsK y5j fs0)))
def y9a : Tmpl := ⟨[(0, .c (.s (.s .net))), (4, .c (.bx 4 0)), (5, .c (.bx 5 0)), (6, .c .i)], [(4, .box [.nl, .nl, .nl, .nl]), (5, .box [.ref 510500, .ref 18, .nl, .nl]), (510500, .arr (.s .net) true), (18, .arr .I true)]⟩
def y69 : Tmpl := ⟨[(4, .c (.bx 4 0)), (5, .c (.bx 5 0))], [(4, .box [.nl, .nl, .nl, .nl]), (5, .box [.ref 510500, .ref 18, .nl, .nl]), (510500, .arr (.s .net) true), (18, .arr .I true)]⟩
def w3f (av : AV) (x : HP z4x.ps) (n : Nat) (v : y9a.den) (K : Ks (CR z4x)) : Option (CR z4x) := z5p v.1.1 (fun l0_1 => y69.at none (((), (), ()), (((), (), (), (), ()), ((), (), (), (), ()), l0_1, v.2.2.2.2.1, ())) (K (.exit 0))) n v.1.2.2.2.1 v.2.2.2.1
def y7e (av : AV) (x : HP z4x.ps) : Hdl (CR z4x) := hnd [.b 5 0 510500 (.s .net)] y9a (w3f av x)
theorem w56 : LP z4x Tryz.f195 [0] y7e := lp_ok (W := []) (H := []) (xs := [y69]) yo8 trivial rfl (fun av x v K => by kernel_rfl) (fun av x n v K => by kernel_rfl)
theorem wm3 : z4x.Ok Tryz.prog := fn_ok (k := z4x) (fn := Tryz.f195) (W := []) (H := [y7e]) Tryz.func195 yo8 ⟨w56, trivial⟩ rfl rfl (fun av x => by kernel_rfl)
def y8b  : Option Bool := some true
def z6y (h : GHouse) (kx0_0 : Option Bool) : Nat → Int → Option Bool
  | 0, _ => none
  | n0 + 1, s0_0 => if decide (s0_0 < (h.runs.length : Int)) = true then ((getI h.runs s0_0).bind fun x9 => (gd (ok64 ((h.nets.length : Int) - 1)) ((z03 x9.net 0 ((h.nets.length : Int) - 1)).bind fun x11 => (if x11 = true then ((getI h.runs s0_0).bind fun x13 => ((getI h.nets x13.net).bind fun x14 => ((getI h.runs s0_0).bind fun x15 => ((z8m x14 x15.case).bind fun x16 => (if x16 = true then (gd (ok64 (s0_0 + 1)) ((z6y h kx0_0 n0) (s0_0 + 1))) else (some false)))))) else (some false))))) else (kx0_0)
def zz8 (h : GHouse) : Option Bool := (zh2 h.nets).bind fun x1 => (if x1 = true then ((z8p h.people).bind fun x3 => (if x3 = true then ((z8q h.tree).bind fun x5 => (if x5 = true then (if decide (5 < (h.runs.length : Int)) = true then (some false) else (z6y h y8b FUEL 0)) else (some false))) else (some false))) else (some false))
def z63 : Con := ⟨54, [.v (.s .house) false], [(.B, true)], [], fun x => zz8 x.1⟩
def wt4 : Fs := ⟨[z47, z39, z19, z0n, z37], [], []⟩
theorem w0f : wt4.Ok Tryz.prog := (fsK ys5 (fsK y07 (fsK y8x (fsK z0v (fsK y05 fs0)))))
def yi3 : Tmpl := ⟨[(1, .c (.bx 1 0)), (3, .c .i)], [(1, .boxT (.s .house))]⟩
def y9x : Tmpl := ⟨[], []⟩
def w6y (av : AV) (x : HP z63.ps) (n : Nat) (v : yi3.den) (K : Ks (CR z63)) : Option (CR z63) := z6y v.2.1 (y9x.at none ((), ()) (K (.exit 0))) n v.1.2.1
def yf8 (av : AV) (x : HP z63.ps) : Hdl (CR z63) := hnd [] yi3 (w6y av x)
theorem w8n : LP z63 Tryz.f54 [0] yf8 := lp_ok (W := []) (H := []) (xs := [y9x]) w0f trivial rfl (fun av x v K => by kernel_rfl) (fun av x n v K => by kernel_rfl)
theorem wz1 : z63.Ok Tryz.prog := fn_ok (k := z63) (fn := Tryz.f54) (W := []) (H := [yf8]) Tryz.func54 w0f ⟨w8n, trivial⟩ rfl rfl (fun av x => by kernel_rfl)
def zp4 (x2 : (List GNode)) (p0_0 : List Int) (l0_1 : List GNet) (l1_1 : List GRun) : Option GHouse := some (GHouse.mk l0_1 p0_0 x2 l1_1)
def z5v (h : GHouse) (kx1_0 : List GRun → Option GHouse) : Nat → Int → List GRun → Option GHouse
  | 0, _, _ => none
  | n1 + 1, s1_0, l1_1 => if decide (s1_0 < (h.runs.length : Int)) = true then ((getI h.runs s1_0).bind fun x9 => ((getI h.runs s1_0).bind fun x10 => ((z6c x10.case).bind fun x11 => (gd (l1_1.length + [(GRun.mk x9.net x11)].length ≤ SMALL) (gd (ok64 (s1_0 + 1)) ((z5v h kx1_0 n1) (s1_0 + 1) (l1_1 ++ [(GRun.mk x9.net x11)]))))))) else (kx1_0 l1_1)
def za3 (h : GHouse) (x2 : (List GNode)) (p0_0 : List Int) (l0_1 : List GNet) : Option GHouse := z5v h (zp4 x2 p0_0 l0_1) FUEL 0 ([] : List GRun)
def z5u (h : GHouse) (kx0_0 : List GNet → Option GHouse) : Nat → Int → List GNet → Option GHouse
  | 0, _, _ => none
  | n0 + 1, s0_0, l0_1 => if decide (s0_0 < (h.nets.length : Int)) = true then ((getI h.nets s0_0).bind fun x4 => ((z7v x4).bind fun x5 => (gd (l0_1.length + [x5].length ≤ SMALL) (gd (ok64 (s0_0 + 1)) ((z5u h kx0_0 n0) (s0_0 + 1) (l0_1 ++ [x5])))))) else (kx0_0 l0_1)
def zh1 (h : GHouse) : Option GHouse := gd (([] : List Int).length + h.people.length ≤ SMALL) ((zh0 h.tree).bind fun x2 => (z5u h (za3 h x2 (([] : List Int) ++ h.people)) FUEL 0 ([] : List GNet)))
def z13 : Con := ⟨135, [.v (.s .house) false], [((.s .house), true)], [], fun x => zh1 x.1⟩
def wg4 : Fs := ⟨[z46, z1v, z8x], [], []⟩
theorem y3k : wg4.Ok Tryz.prog := (fsK ys3 (fsK y5j (fsK zu5 fs0)))
def y9j : Tmpl := ⟨[(1, .c (.bx 1 0)), (2, .c (.bx 2 0)), (3, .c (.bx 3 0)), (4, .c .i)], [(1, .boxT (.s .house)), (2, .box [.nl, .nl, .nl, .nl]), (3, .box [.ref 510300, .ref 9, .ref 12, .nl]), (510300, .arr (.s .net) true), (9, .arr .I true), (12, .arr (.s .node) true)]⟩
def y6h : Tmpl := ⟨[(1, .c (.bx 1 0)), (2, .c (.bx 2 0)), (3, .c (.bx 3 0))], [(1, .boxT (.s .house)), (2, .box [.nl, .nl, .nl, .nl]), (3, .box [.ref 510300, .ref 9, .ref 12, .nl]), (510300, .arr (.s .net) true), (9, .arr .I true), (12, .arr (.s .node) true)]⟩
def w3o (av : AV) (x : HP z13.ps) (n : Nat) (v : y9j.den) (K : Ks (CR z13)) : Option (CR z13) := z5u v.2.1 (fun l0_1 => y6h.at none (((), (), (), ()), (v.2.1, ((), (), (), (), ()), ((), (), (), (), ()), l0_1, v.2.2.2.2.2.1, v.2.2.2.2.2.2.1, ())) (K (.exit 0))) n v.1.2.2.2.1 v.2.2.2.2.1
def y7n (av : AV) (x : HP z13.ps) : Hdl (CR z13) := hnd [.b 3 0 510300 (.s .net)] y9j (w3o av x)
theorem w5f : LP z13 Tryz.f135 [0] y7n := lp_ok (W := []) (H := []) (xs := [y6h]) y3k trivial rfl (fun av x v K => by kernel_rfl) (fun av x n v K => by kernel_rfl)
def y9k : Tmpl := ⟨[(1, .c (.bx 1 0)), (2, .c (.bx 2 0)), (3, .c (.bx 3 0)), (5, .c .i)], [(1, .boxT (.s .house)), (2, .box [.nl, .nl, .nl, .nl]), (3, .box [.ref 510300, .ref 9, .ref 12, .ref 510303]), (510300, .arr (.s .net) true), (9, .arr .I true), (12, .arr (.s .node) true), (510303, .arr (.s .run) true)]⟩
def y6i : Tmpl := ⟨[(2, .c (.bx 2 0)), (3, .c (.bx 3 0))], [(2, .box [.nl, .nl, .nl, .nl]), (3, .box [.ref 510300, .ref 9, .ref 12, .ref 510303]), (510300, .arr (.s .net) true), (9, .arr .I true), (12, .arr (.s .node) true), (510303, .arr (.s .run) true)]⟩
def w3p (av : AV) (x : HP z13.ps) (n : Nat) (v : y9k.den) (K : Ks (CR z13)) : Option (CR z13) := z5v v.2.1 (fun l1_1 => y6i.at none (((), (), ()), (((), (), (), (), ()), ((), (), (), (), ()), v.2.2.2.2.1, v.2.2.2.2.2.1, v.2.2.2.2.2.2.1, l1_1, ())) (K (.exit 2))) n v.1.2.2.2.1 v.2.2.2.2.2.2.2.1
def y7o (av : AV) (x : HP z13.ps) : Hdl (CR z13) := hnd [.b 3 3 510303 (.s .run)] y9k (w3p av x)
theorem w5g : LP z13 Tryz.f135 [1] y7o := lp_ok (W := []) (H := []) (xs := [y6i]) y3k trivial rfl (fun av x v K => by kernel_rfl) (fun av x n v K => by kernel_rfl)
theorem ys4 : z13.Ok Tryz.prog := fn_ok (k := z13) (fn := Tryz.f135) (W := []) (H := [y7n, y7o]) Tryz.func135 y3k ⟨w5f, w5g, trivial⟩ rfl rfl (fun av x => by kernel_rfl)
def zu2 (r : GReq) : Option GReq := if decide (r.kind = 1) = true then (some (GReq.mk r.kind 0 0 0 0 0 r.data (GAsk.mk 0 0 0) 0)) else (if decide (r.kind = 2) = true then (some (GReq.mk r.kind r.who r.case r.task 0 0 [] (GAsk.mk 0 0 0) 0)) else (if decide (r.kind = 3) = true then (some (GReq.mk r.kind 0 r.case r.task r.var r.num [] (GAsk.mk 0 0 0) 0)) else (if decide (r.kind = 4) = true then (some (GReq.mk r.kind 0 r.case 0 0 0 [] (GAsk.mk 0 0 0) 0)) else (if decide (r.kind = 5) = true then (some (GReq.mk r.kind 0 0 0 0 0 r.data r.if_ r.ans)) else (some (GReq.mk r.kind 0 0 0 0 0 [] (GAsk.mk 0 0 0) 0))))))
def y40 : Con := ⟨137, [.v (.s .req) false], [((.s .req), false)], [], fun x => zu2 x.1⟩
def wg5 : Fs := ⟨[], [], []⟩
theorem wj1 : wg5.Ok Tryz.prog := fs0
theorem wn2 : y40.Ok Tryz.prog := fn_ok (k := y40) (fn := Tryz.f137) (W := []) (H := []) Tryz.func137 wj1 trivial rfl rfl (fun av x => by kernel_rfl)
def z4s (a : GReq) (b : GReq) : Option Bool := if decide (a.kind = b.kind) = true then (if decide (a.who = b.who) = true then (if decide (a.case = b.case) = true then (if decide (a.task = b.task) = true then (if decide (a.var = b.var) = true then (if decide (a.num = b.num) = true then (if decide ([a.if_.op, a.if_.var, a.if_.k] = [b.if_.op, b.if_.var, b.if_.k]) = true then (some (decide (a.ans = b.ans))) else (some false)) else (some false)) else (some false)) else (some false)) else (some false)) else (some false)) else (some false)
def z3e (a : GReq) (b : GReq) (kx0_0 : Option Bool) : Nat → Int → Option Bool
  | 0, _ => none
  | n0 + 1, s0_0 => if decide (s0_0 < (a.data.length : Int)) = true then ((getI a.data s0_0).bind fun x3 => ((getI b.data s0_0).bind fun x4 => (if decide (x3 = x4) = true then (gd (ok64 (s0_0 + 1)) ((z3e a b kx0_0 n0) (s0_0 + 1))) else (some false)))) else (kx0_0)
def zu3 (a : GReq) (b : GReq) : Option Bool := if decide ((a.data.length : Int) = (b.data.length : Int)) = true then (z3e a b (z4s a b) FUEL 0) else (some false)
def z51 : Con := ⟨136, [.v (.s .req) false, .v (.s .req) false], [(.B, true)], [], fun x => zu3 x.1 x.2.1⟩
def wg7 : Fs := ⟨[], [], []⟩
theorem yp7 : wg7.Ok Tryz.prog := fs0
def y9m : Tmpl := ⟨[(2, .c (.bx 2 0)), (3, .c (.bx 3 0)), (5, .c .i)], [(2, .boxT (.s .req)), (3, .boxT (.s .req))]⟩
def y6k : Tmpl := ⟨[(2, .c (.bx 2 0)), (3, .c (.bx 3 0))], [(2, .boxT (.s .req)), (3, .boxT (.s .req))]⟩
def w3r (av : AV) (x : HP z51.ps) (n : Nat) (v : y9m.den) (K : Ks (CR z51)) : Option (CR z51) := z3e v.2.1 v.2.2.1 (y6k.at none (((), (), ()), (v.2.1, v.2.2.1, ())) (K (.exit 0))) n v.1.2.2.1
def y7q (av : AV) (x : HP z51.ps) : Hdl (CR z51) := hnd [] y9m (w3r av x)
theorem w5i : LP z51 Tryz.f136 [0] y7q := lp_ok (W := []) (H := []) (xs := [y6k]) yp7 trivial rfl (fun av x v K => by kernel_rfl) (fun av x n v K => by kernel_rfl)
theorem wn3 : z51.Ok Tryz.prog := fn_ok (k := z51) (fn := Tryz.f136) (W := []) (H := [y7q]) Tryz.func136 yp7 ⟨w5i, trivial⟩ rfl rfl (fun av x => by kernel_rfl)
def z8n (r : GReq) : Option Bool := (z03 r.kind 1 5).bind fun x1 => (if x1 = true then ((zu2 r).bind fun x3 => ((zu3 r x3).bind fun x4 => (if x4 = true then ((z03 r.who 0 4).bind fun x6 => (if x6 = true then ((z03 r.case 0 4).bind fun x8 => (if x8 = true then ((z03 r.task 0 5).bind fun x10 => (if x10 = true then ((z03 r.var (-1) 2).bind fun x12 => (if x12 = true then ((z03 r.num (-99) 99).bind fun x14 => (if x14 = true then ((z69 r.if_).bind fun x16 => (if x16 = true then ((z03 r.ans 0 2).bind fun x18 => (if x18 = true then (if decide (r.kind = 1) = true then ((z2o r.data).bind fun x21 => (some (true == x21))) else ((z2o r.data).bind fun x22 => (some ((decide (r.kind = 5)) == x22)))) else (some false))) else (some false))) else (some false))) else (some false))) else (some false))) else (some false))) else (some false))) else (some false)))) else (some false))
def ze1 : Con := ⟨63, [.v (.s .req) false], [(.B, true)], [], fun x => z8n x.1⟩
def w47 : Fs := ⟨[z0n, y40, z51, z8g, z18], [], []⟩
theorem w4r : w47.Ok Tryz.prog := (fsK z0v (fsK wn2 (fsK wn3 (fsK zn9 (fsK z6e fs0)))))
theorem y8w : ze1.Ok Tryz.prog := fn_ok (k := ze1) (fn := Tryz.f63) (W := []) (H := []) Tryz.func63 w4r trivial rfl rfl (fun av x => by kernel_rfl)
def zu1 (h : GHouse) (r : GReq) : Option (GHouse × Int) := if decide ((h.runs.length : Int) ≤ r.case) = true then (some (h, 2)) else ((getI h.runs r.case).bind fun x2 => ((getI h.nets x2.net).bind fun x3 => (if decide (r.kind = 2) = true then ((z6w x3 h.people x2.case r.task r.who).bind fun x5 => (if x5.2 = true then ((getI h.runs r.case).bind fun x7 => (some ((GHouse.mk h.nets h.people h.tree (h.runs.set r.case.toNat (GRun.mk x7.net x5.1))), 1))) else (some (h, 3)))) else (if decide (r.kind = 3) = true then ((z9o x3 x2.case r.task r.var r.num).bind fun x9 => (if x9.2 = true then ((getI h.runs r.case).bind fun x11 => (some ((GHouse.mk h.nets h.people h.tree (h.runs.set r.case.toNat (GRun.mk x11.net x9.1))), 1))) else (some (h, 3)))) else ((zl6 x3 x2.case).bind fun x12 => (if x12.2 = true then ((getI h.runs r.case).bind fun x14 => (some ((GHouse.mk h.nets h.people h.tree (h.runs.set r.case.toNat (GRun.mk x14.net x12.1))), 1))) else (some (h, 3))))))))
def y3y : Con := ⟨188, [.v (.s .house) true, .v (.s .req) false], [((.s .house), true), (.I, true)], [], fun x => zu1 x.1 x.2.1⟩
def wg3 : Fs := ⟨[ze0, zl0, y0v], [], []⟩
theorem wj0 : wg3.Ok Tryz.prog := (fsK y8u (fsK yg9 (fsK w97 fs0)))
theorem wn1 : y3y.Ok Tryz.prog := fn_ok (k := y3y) (fn := Tryz.f188) (W := []) (H := []) Tryz.func188 wj0 trivial rfl rfl (fun av x => by kernel_rfl)
def zw7 (h : GHouse) (r : GReq) : Option (GHouse × Int) := if decide (r.kind = 1) = true then (if decide ((h.runs.length : Int) = 5) = true then (some (h, 4)) else ((zt6 h.tree r.data).bind fun x3 => (if decide ((h.nets.length : Int) ≤ x3) = true then ((getI h.nets 0).bind fun x5 => ((z94 x5 r.data).bind fun x6 => (gd (h.runs.length + [(GRun.mk 0 x6)].length ≤ SMALL) (some ((GHouse.mk h.nets h.people h.tree (h.runs ++ [(GRun.mk 0 x6)])), 1))))) else ((getI h.nets x3).bind fun x8 => ((z94 x8 r.data).bind fun x9 => (gd (h.runs.length + [(GRun.mk x3 x9)].length ≤ SMALL) (some ((GHouse.mk h.nets h.people h.tree (h.runs ++ [(GRun.mk x3 x9)])), 1)))))))) else (if decide (r.kind = 5) = true then ((z7k h.tree r.data r.if_ r.ans).bind fun x12 => (if x12.2 = true then (some ((GHouse.mk h.nets h.people x12.1 h.runs), 1)) else (some (h, 3)))) else ((zu1 h r).bind fun x14 => (some (x14.1, x14.2))))
def y3z : Con := ⟨134, [.v (.s .house) true, .v (.s .req) false], [((.s .house), true), (.I, true)], [], fun x => zw7 x.1 x.2.1⟩
def v1f : Fs := ⟨[y3u, zr9, z3z, y3y], [], []⟩
theorem v1j : v1f.Ok Tryz.prog := (fsK wm6 (fsK yr6 (fsK ys0 (fsK wn1 fs0))))
theorem w5u : y3z.Ok Tryz.prog := fn_ok (k := y3z) (fn := Tryz.f134) (W := []) (H := []) Tryz.func134 v1j trivial rfl rfl (fun av x => by kernel_rfl)
def zz7 (h : GHouse) (r : GReq) : Option (GHouse × Int) := (zz8 h).bind fun x1 => (if x1 = true then ((z8n r).bind fun x3 => (if x3 = true then ((zh1 h).bind fun x5 => ((zw7 x5 r).bind fun x6 => (some (x6.1, x6.2)))) else (some ((GHouse.mk [] [] [] []), 0)))) else (some ((GHouse.mk [] [] [] []), 0)))
def y7w : Con := ⟨60, [.v (.s .house) false, .v (.s .req) false], [((.s .house), true), (.I, true)], [], fun x => zz7 x.1 x.2.1⟩
def wt3 : Fs := ⟨[z63, ze1, z13, y3z], [], []⟩
theorem wv4 : wt3.Ok Tryz.prog := (fsK wz1 (fsK y8w (fsK ys4 (fsK w5u fs0))))
theorem wz0 : y7w.Ok Tryz.prog := fn_ok (k := y7w) (fn := Tryz.f60) (W := []) (H := []) Tryz.func60 wv4 trivial rfl rfl (fun av x => by kernel_rfl)
def z6o (x1 : (List Int)) (x2 : (List GNode)) (l0_1 : List GNet) (l1_1 : List GRun) : Option GHouse := some (GHouse.mk l0_1 x1 x2 l1_1)
def z1m (p1_0 : List GRun) (p1_1 : Int) (kx1_0 : List GRun → Option GHouse) : Nat → Int → List GRun → Option GHouse
  | 0, _, _ => none
  | n1 + 1, s1_0, l1_1 => if decide (s1_0 < p1_1) = true then ((getI p1_0 s1_0).bind fun x9 => ((z08 x9.case).bind fun x10 => (gd (l1_1.length + [(GRun.mk x9.net x10)].length ≤ SMALL) (gd (ok64 (s1_0 + 1)) ((z1m p1_0 p1_1 kx1_0 n1) (s1_0 + 1) (l1_1 ++ [(GRun.mk x9.net x10)])))))) else (kx1_0 l1_1)
def z4h (h : GHouse) (x1 : (List Int)) (x2 : (List GNode)) (l0_1 : List GNet) : Option GHouse := z1m h.runs (h.runs.length : Int) (z6o x1 x2 l0_1) FUEL 0 ([] : List GRun)
def z1l (p0_0 : List GNet) (p0_1 : Int) (kx0_0 : List GNet → Option GHouse) : Nat → Int → List GNet → Option GHouse
  | 0, _, _ => none
  | n0 + 1, s0_0, l0_1 => if decide (s0_0 < p0_1) = true then ((getI p0_0 s0_0).bind fun x4 => ((z7d x4).bind fun x5 => (gd (l0_1.length + [x5].length ≤ SMALL) (gd (ok64 (s0_0 + 1)) ((z1l p0_0 p0_1 kx0_0 n0) (s0_0 + 1) (l0_1 ++ [x5])))))) else (kx0_0 l0_1)
def z2n (h : GHouse) : Option GHouse := (z0l h.people).bind fun x1 => ((z6s h.tree).bind fun x2 => (z1l h.nets (h.nets.length : Int) (z4h h x1 x2) FUEL 0 ([] : List GNet)))
def z09 : Con := ⟨132, [.v (.s .house) false], [((.s .house), true)], [], fun x => z2n x.1⟩
def y6u : Fs := ⟨[z1t, z1f, z1a, z32], [], []⟩
theorem z8b : y6u.Ok Tryz.prog := (fsK z3f (fsK y2a (fsK yl9 (fsK z6l fs0))))
def zh7 : Tmpl := ⟨[(1, .c (.bx 1 0)), (2, .c (.bx 2 0)), (3, .c (.bx 3 0)), (16, .c (.s (.s .net))), (17, .c .i), (18, .c .i)], [(1, .boxT (.s .house)), (2, .box [.nl, .nl, .nl, .nl]), (3, .box [.ref 510300, .ref 10, .ref 13, .nl]), (510300, .arr (.s .net) true), (10, .arr .I true), (13, .arr (.s .node) true)]⟩
def zb9 : Tmpl := ⟨[(1, .c (.bx 1 0)), (2, .c (.bx 2 0)), (3, .c (.bx 3 0))], [(1, .boxT (.s .house)), (2, .box [.nl, .nl, .nl, .nl]), (3, .box [.ref 510300, .ref 10, .ref 13, .nl]), (510300, .arr (.s .net) true), (10, .arr .I true), (13, .arr (.s .node) true)]⟩
def y37 (av : AV) (x : HP z09.ps) (n : Nat) (v : zh7.den) (K : Ks (CR z09)) : Option (CR z09) := z1l v.1.2.2.2.1 v.1.2.2.2.2.1 (fun l0_1 => zb9.at none (((), (), (), ()), (v.2.1, ((), (), (), (), ()), ((), (), (), (), ()), l0_1, v.2.2.2.2.2.1, v.2.2.2.2.2.2.1, ())) (K (.exit 0))) n v.1.2.2.2.2.2.1 v.2.2.2.2.1
def zc8 (av : AV) (x : HP z09.ps) : Hdl (CR z09) := hnd [.b 3 0 510300 (.s .net)] zh7 (y37 av x)
theorem y41 : LP z09 Tryz.f132 [0] zc8 := lp_ok (W := []) (H := []) (xs := [zb9]) z8b trivial rfl (fun av x v K => by kernel_rfl) (fun av x n v K => by kernel_rfl)
def zh8 : Tmpl := ⟨[(2, .c (.bx 2 0)), (3, .c (.bx 3 0)), (31, .c (.s (.s .run))), (32, .c .i), (33, .c .i)], [(2, .box [.nl, .nl, .nl, .nl]), (3, .box [.ref 510300, .ref 10, .ref 13, .ref 510303]), (510300, .arr (.s .net) true), (10, .arr .I true), (13, .arr (.s .node) true), (510303, .arr (.s .run) true)]⟩
def zc0 : Tmpl := ⟨[(2, .c (.bx 2 0)), (3, .c (.bx 3 0))], [(2, .box [.nl, .nl, .nl, .nl]), (3, .box [.ref 510300, .ref 10, .ref 13, .ref 510303]), (510300, .arr (.s .net) true), (10, .arr .I true), (13, .arr (.s .node) true), (510303, .arr (.s .run) true)]⟩
def y38 (av : AV) (x : HP z09.ps) (n : Nat) (v : zh8.den) (K : Ks (CR z09)) : Option (CR z09) := z1m v.1.2.2.1 v.1.2.2.2.1 (fun l1_1 => zc0.at none (((), (), ()), (((), (), (), (), ()), ((), (), (), (), ()), v.2.2.2.1, v.2.2.2.2.1, v.2.2.2.2.2.1, l1_1, ())) (K (.exit 2))) n v.1.2.2.2.2.1 v.2.2.2.2.2.2.1
def zc9 (av : AV) (x : HP z09.ps) : Hdl (CR z09) := hnd [.b 3 3 510303 (.s .run)] zh8 (y38 av x)
theorem y42 : LP z09 Tryz.f132 [1] zc9 := lp_ok (W := []) (H := []) (xs := [zc0]) z8b trivial rfl (fun av x v K => by kernel_rfl) (fun av x n v K => by kernel_rfl)
theorem y8m : z09.Ok Tryz.prog := fn_ok (k := z09) (fn := Tryz.f132) (W := []) (H := [zc8, zc9]) Tryz.func132 z8b ⟨y41, y42, trivial⟩ rfl rfl (fun av x => by kernel_rfl)
def y57  : Option Int := some (-1)
def z5k (s : List Int) (p : Int → Option Bool) (p0_0 : Int) (kx0_0 : Option Int) : Nat → Int → Option Int
  | 0, _ => none
  | n0 + 1, s0_0 => if decide (s0_0 < p0_0) = true then ((getI s s0_0).bind fun x2 => ((p x2).bind fun x3 => (if x3 = true then (some s0_0) else (gd (ok64 (s0_0 + 1)) ((z5k s p p0_0 kx0_0 n0) (s0_0 + 1)))))) else (kx0_0)
def zs3 (s : List Int) (p : Int → Option Bool) : Option Int := z5k s p (s.length : Int) y57 FUEL 0
def z3u : Con := ⟨175, [.v (.sl .I) false, .fn .I], [(.I, true)], [], fun x => zs3 x.1 x.2.1⟩
def wc7 : Fs := ⟨[], [], []⟩
theorem yo0 : wc7.Ok Tryz.prog := fs0
def y94 : Tmpl := ⟨[(0, .c (.s .I)), (1, .c .fp), (7, .c .i), (8, .c .i)], []⟩
def y63 : Tmpl := ⟨[], []⟩
def w39 (av : AV) (x : HP z3u.ps) (n : Nat) (v : y94.den) (K : Ks (CR z3u)) : Option (CR z3u) := z5k v.1.1 x.2.1 v.1.2.2.1 (y63.at (fpOf z3u.ps x av) ((), ()) (K (.exit 0))) n v.1.2.2.2.1
def y78 (av : AV) (x : HP z3u.ps) : Hdl (CR z3u) := hnd [] y94 (w39 av x)
theorem w50 : LP z3u Tryz.f175 [0] y78 := lp_ok (W := []) (H := []) (xs := [y63]) yo0 trivial rfl (fun av x v K => by kernel_rfl) (fun av x n v K => by kernel_rfl)
theorem wl1 : z3u.Ok Tryz.prog := fn_ok (k := z3u) (fn := Tryz.f175) (W := []) (H := [y78]) Tryz.func175 yo0 ⟨w50, trivial⟩ rfl rfl (fun av x => by kernel_rfl)
def z2f (s : List Int) (p : Int → Option Bool) : Option Bool := (zs3 s p).bind fun x1 => (some (decide (0 ≤ x1)))
def z4o : Con := ⟨118, [.v (.sl .I) false, .fn .I], [(.B, true)], [], fun x => z2f x.1 x.2.1⟩
def w1q : Fs := ⟨[z3u], [], []⟩
theorem w1y : w1q.Ok Tryz.prog := (fsK wl1 fs0)
theorem z7w : z4o.Ok Tryz.prog := fn_ok (k := z4o) (fn := Tryz.f118) (W := []) (H := []) Tryz.func118 w1y trivial rfl rfl (fun av x => by kernel_rfl)
def zq2  : Option Int := some (-1)
def z34 (s : List GTask) (p : GTask → Option Bool) (p0_0 : Int) (kx0_0 : Option Int) : Nat → Int → Option Int
  | 0, _ => none
  | n0 + 1, s0_0 => if decide (s0_0 < p0_0) = true then ((getI s s0_0).bind fun x2 => ((p x2).bind fun x3 => (if x3 = true then (some s0_0) else (gd (ok64 (s0_0 + 1)) ((z34 s p p0_0 kx0_0 n0) (s0_0 + 1)))))) else (kx0_0)
def z8z (s : List GTask) (p : GTask → Option Bool) : Option Int := z34 s p (s.length : Int) zq2 FUEL 0
def z1e : Con := ⟨176, [.v (.sl (.s .task)) false, .fn (.s .task)], [(.I, true)], [], fun x => z8z x.1 x.2.1⟩
def yw1 : Fs := ⟨[], [], []⟩
theorem y1j : yw1.Ok Tryz.prog := fs0
def zx3 : Tmpl := ⟨[(0, .c (.s (.s .task))), (1, .c .fp), (7, .c .i), (8, .c .i)], []⟩
def zq7 : Tmpl := ⟨[], []⟩
def yj1 (av : AV) (x : HP z1e.ps) (n : Nat) (v : zx3.den) (K : Ks (CR z1e)) : Option (CR z1e) := z34 v.1.1 x.2.1 v.1.2.2.1 (zq7.at (fpOf z1e.ps x av) ((), ()) (K (.exit 0))) n v.1.2.2.2.1
def zv3 (av : AV) (x : HP z1e.ps) : Hdl (CR z1e) := hnd [] zx3 (yj1 av x)
theorem yk8 : LP z1e Tryz.f176 [0] zv3 := lp_ok (W := []) (H := []) (xs := [zq7]) y1j trivial rfl (fun av x v K => by kernel_rfl) (fun av x n v K => by kernel_rfl)
theorem yz2 : z1e.Ok Tryz.prog := fn_ok (k := z1e) (fn := Tryz.f176) (W := []) (H := [zv3]) Tryz.func176 y1j ⟨yk8, trivial⟩ rfl rfl (fun av x => by kernel_rfl)
def z6i (s : List GTask) (p : GTask → Option Bool) : Option Bool := (z8z s p).bind fun x1 => (some (decide (0 ≤ x1)))
def z9f : Con := ⟨123, [.v (.sl (.s .task)) false, .fn (.s .task)], [(.B, true)], [], fun x => z6i x.1 x.2.1⟩
def yc2 : Fs := ⟨[z1e], [], []⟩
theorem yc8 : yc2.Ok Tryz.prog := (fsK yz2 fs0)
theorem yd5 : z9f.Ok Tryz.prog := fn_ok (k := z9f) (fn := Tryz.f123) (W := []) (H := []) Tryz.func123 yc8 trivial rfl rfl (fun av x => by kernel_rfl)
def zw3  : Option Int := some (-1)
def z3j (s : List GNet) (p : GNet → Option Bool) (p0_0 : Int) (kx0_0 : Option Int) : Nat → Int → Option Int
  | 0, _ => none
  | n0 + 1, s0_0 => if decide (s0_0 < p0_0) = true then ((getI s s0_0).bind fun x2 => ((p x2).bind fun x3 => (if x3 = true then (some s0_0) else (gd (ok64 (s0_0 + 1)) ((z3j s p p0_0 kx0_0 n0) (s0_0 + 1)))))) else (kx0_0)
def z9x (s : List GNet) (p : GNet → Option Bool) : Option Int := z3j s p (s.length : Int) zw3 FUEL 0
def z1s : Con := ⟨180, [.v (.sl (.s .net)) false, .fn (.s .net)], [(.I, true)], [], fun x => z9x x.1 x.2.1⟩
def w1r : Fs := ⟨[], [], []⟩
theorem y4m : w1r.Ok Tryz.prog := fs0
def y09 : Tmpl := ⟨[(0, .c (.s (.s .net))), (1, .c .fp), (7, .c .i), (8, .c .i)], []⟩
def zx9 : Tmpl := ⟨[], []⟩
def ym6 (av : AV) (x : HP z1s.ps) (n : Nat) (v : y09.den) (K : Ks (CR z1s)) : Option (CR z1s) := z3j v.1.1 x.2.1 v.1.2.2.1 (zx9.at (fpOf z1s.ps x av) ((), ()) (K (.exit 0))) n v.1.2.2.2.1
def zy6 (av : AV) (x : HP z1s.ps) : Hdl (CR z1s) := hnd [] y09 (ym6 av x)
theorem yq2 : LP z1s Tryz.f180 [0] zy6 := lp_ok (W := []) (H := []) (xs := [zx9]) y4m trivial rfl (fun av x v K => by kernel_rfl) (fun av x n v K => by kernel_rfl)
theorem w2n : z1s.Ok Tryz.prog := fn_ok (k := z1s) (fn := Tryz.f180) (W := []) (H := [zy6]) Tryz.func180 y4m ⟨yq2, trivial⟩ rfl rfl (fun av x => by kernel_rfl)
def z7b (s : List GNet) (p : GNet → Option Bool) : Option Bool := (z9x s p).bind fun x1 => (some (decide (0 ≤ x1)))
def za5 : Con := ⟨126, [.v (.sl (.s .net)) false, .fn (.s .net)], [(.B, true)], [], fun x => z7b x.1 x.2.1⟩
def yj8 : Fs := ⟨[z1s], [], []⟩
theorem yk2 : yj8.Ok Tryz.prog := (fsK w2n fs0)
theorem yl7 : za5.Ok Tryz.prog := fn_ok (k := za5) (fn := Tryz.f126) (W := []) (H := []) Tryz.func126 yk2 trivial rfl rfl (fun av x => by kernel_rfl)
def zq1  : Option Int := some (-1)
def z33 (s : List GItem) (p : GItem → Option Bool) (p0_0 : Int) (kx0_0 : Option Int) : Nat → Int → Option Int
  | 0, _ => none
  | n0 + 1, s0_0 => if decide (s0_0 < p0_0) = true then ((getI s s0_0).bind fun x2 => ((p x2).bind fun x3 => (if x3 = true then (some s0_0) else (gd (ok64 (s0_0 + 1)) ((z33 s p p0_0 kx0_0 n0) (s0_0 + 1)))))) else (kx0_0)
def z8y (s : List GItem) (p : GItem → Option Bool) : Option Int := z33 s p (s.length : Int) zq1 FUEL 0
def z1d : Con := ⟨169, [.v (.sl (.s .item)) false, .fn (.s .item)], [(.I, true)], [], fun x => z8y x.1 x.2.1⟩
def yw0 : Fs := ⟨[], [], []⟩
theorem y1i : yw0.Ok Tryz.prog := fs0
def zx2 : Tmpl := ⟨[(0, .c (.s (.s .item))), (1, .c .fp), (7, .c .i), (8, .c .i)], []⟩
def zq6 : Tmpl := ⟨[], []⟩
def yj0 (av : AV) (x : HP z1d.ps) (n : Nat) (v : zx2.den) (K : Ks (CR z1d)) : Option (CR z1d) := z33 v.1.1 x.2.1 v.1.2.2.1 (zq6.at (fpOf z1d.ps x av) ((), ()) (K (.exit 0))) n v.1.2.2.2.1
def zv2 (av : AV) (x : HP z1d.ps) : Hdl (CR z1d) := hnd [] zx2 (yj0 av x)
theorem yk7 : LP z1d Tryz.f169 [0] zv2 := lp_ok (W := []) (H := []) (xs := [zq6]) y1i trivial rfl (fun av x v K => by kernel_rfl) (fun av x n v K => by kernel_rfl)
theorem yz1 : z1d.Ok Tryz.prog := fn_ok (k := z1d) (fn := Tryz.f169) (W := []) (H := [zv2]) Tryz.func169 y1i ⟨yk7, trivial⟩ rfl rfl (fun av x => by kernel_rfl)
def z6h (s : List GItem) (p : GItem → Option Bool) : Option Bool := (z8y s p).bind fun x1 => (some (decide (0 ≤ x1)))
def z9e : Con := ⟨107, [.v (.sl (.s .item)) false, .fn (.s .item)], [(.B, true)], [], fun x => z6h x.1 x.2.1⟩
def yc1 : Fs := ⟨[z1d], [], []⟩
theorem yc7 : yc1.Ok Tryz.prog := (fsK yz1 fs0)
theorem yd4 : z9e.Ok Tryz.prog := fn_ok (k := z9e) (fn := Tryz.f107) (W := []) (H := []) Tryz.func107 yc7 trivial rfl rfl (fun av x => by kernel_rfl)
def w0r  : Option Int := some (-1)
def zb4 (s : List Int) (v : Int) (p0_0 : Int) (kx0_0 : Option Int) : Nat → Int → Option Int
  | 0, _ => none
  | n0 + 1, s0_0 => if decide (s0_0 < p0_0) = true then ((getI s s0_0).bind fun x2 => (if decide (v = x2) = true then (some s0_0) else (gd (ok64 (s0_0 + 1)) ((zb4 s v p0_0 kx0_0 n0) (s0_0 + 1))))) else (kx0_0)
def yq7 (s : List Int) (v : Int) : Option Int := zb4 s v (s.length : Int) w0r FUEL 0
def zd6 : Con := ⟨163, [.v (.sl .I) false, .v .I false], [(.I, true)], [], fun x => yq7 x.1 x.2.1⟩
def v5y : Fs := ⟨[], [], []⟩
theorem wu7 : v5y.Ok Tryz.prog := fs0
def w6k : Tmpl := ⟨[(0, .c (.s .I)), (1, .c .i), (7, .c .i), (8, .c .i)], []⟩
def w15 : Tmpl := ⟨[], []⟩
def v12 (av : AV) (x : HP zd6.ps) (n : Nat) (v : w6k.den) (K : Ks (CR zd6)) : Option (CR zd6) := zb4 v.1.1 v.1.2.1 v.1.2.2.1 (w15.at none ((), ()) (K (.exit 0))) n v.1.2.2.2.1
def w4u (av : AV) (x : HP zd6.ps) : Hdl (CR zd6) := hnd [] w6k (v12 av x)
theorem v1u : LP zd6 Tryz.f163 [0] w4u := lp_ok (W := []) (H := []) (xs := [w15]) wu7 trivial rfl (fun av x v K => by kernel_rfl) (fun av x n v K => by kernel_rfl)
theorem v78 : zd6.Ok Tryz.prog := fn_ok (k := zd6) (fn := Tryz.f163) (W := []) (H := [w4u]) Tryz.func163 wu7 ⟨v1u, trivial⟩ rfl rfl (fun av x => by kernel_rfl)
def zb2 (s : List Int) (v : Int) : Option Bool := (yq7 s v).bind fun x1 => (some (decide (0 ≤ x1)))
def zn1 : Con := ⟨92, [.v (.sl .I) false, .v .I false], [(.B, true)], [], fun x => zb2 x.1 x.2.1⟩
def wr7 : Fs := ⟨[zd6], [], []⟩
theorem wu5 : wr7.Ok Tryz.prog := (fsK v78 fs0)
theorem y8l : zn1.Ok Tryz.prog := fn_ok (k := zn1) (fn := Tryz.f92) (W := []) (H := []) Tryz.func92 wu5 trivial rfl rfl (fun av x => by kernel_rfl)
def y84  : Option Int := some (-1)
def z6m (s : List GDid) (v : GDid) (p0_0 : Int) (kx0_0 : Option Int) : Nat → Int → Option Int
  | 0, _ => none
  | n0 + 1, s0_0 => if decide (s0_0 < p0_0) = true then ((getI s s0_0).bind fun x2 => (if decide ([v.task, v.who] = [x2.task, x2.who]) = true then (some s0_0) else (gd (ok64 (s0_0 + 1)) ((z6m s v p0_0 kx0_0 n0) (s0_0 + 1))))) else (kx0_0)
def zz1 (s : List GDid) (v : GDid) : Option Int := z6m s v (s.length : Int) y84 FUEL 0
def z5x : Con := ⟨204, [.v (.sl (.s .did)) false, .v (.s .did) false], [(.I, true)], [], fun x => zz1 x.1 x.2.1⟩
def wr8 : Fs := ⟨[], [], []⟩
theorem w07 : wr8.Ok Tryz.prog := fs0
def yh3 : Tmpl := ⟨[(0, .c (.s (.s .did))), (3, .c (.bx 3 0)), (7, .c .i), (8, .c .i)], [(3, .boxT (.s .did))]⟩
def y9n : Tmpl := ⟨[], []⟩
def w6o (av : AV) (x : HP z5x.ps) (n : Nat) (v : yh3.den) (K : Ks (CR z5x)) : Option (CR z5x) := z6m v.1.1 v.2.1 v.1.2.2.1 (y9n.at none ((), ()) (K (.exit 0))) n v.1.2.2.2.1
def ye8 (av : AV) (x : HP z5x.ps) : Hdl (CR z5x) := hnd [] yh3 (w6o av x)
theorem w8d : LP z5x Tryz.f204 [0] ye8 := lp_ok (W := []) (H := []) (xs := [y9n]) w07 trivial rfl (fun av x v K => by kernel_rfl) (fun av x n v K => by kernel_rfl)
theorem wy4 : z5x.Ok Tryz.prog := fn_ok (k := z5x) (fn := Tryz.f204) (W := []) (H := [ye8]) Tryz.func204 w07 ⟨w8d, trivial⟩ rfl rfl (fun av x => by kernel_rfl)
def zw2 (s : List GDid) (v : GDid) : Option Bool := (zz1 s v).bind fun x1 => (some (decide (0 ≤ x1)))
def zv9 : Con := ⟨170, [.v (.sl (.s .did)) false, .v (.s .did) false], [(.B, true)], [], fun x => zw2 x.1 x.2.1⟩
def w3y : Fs := ⟨[z5x], [], []⟩
theorem w4j : w3y.Ok Tryz.prog := (fsK wy4 fs0)
theorem w5k : zv9.Ok Tryz.prog := fn_ok (k := zv9) (fn := Tryz.f170) (W := []) (H := []) Tryz.func170 w4j trivial rfl rfl (fun av x => by kernel_rfl)
def w0q  : Option Bool := some true
def zb3 (s1 : List Int) (s2 : List Int) (p0_0 : Int) (kx0_0 : Option Bool) : Nat → Int → Option Bool
  | 0, _ => none
  | n0 + 1, s0_0 => if decide (s0_0 < p0_0) = true then ((getI s1 s0_0).bind fun x3 => ((getI s2 s0_0).bind fun x4 => (if decide (x3 = x4) = true then (gd (ok64 (s0_0 + 1)) ((zb3 s1 s2 p0_0 kx0_0 n0) (s0_0 + 1))) else (some false)))) else (kx0_0)
def yq6 (s1 : List Int) (s2 : List Int) : Option Bool := if decide ((s1.length : Int) = (s2.length : Int)) = true then (zb3 s1 s2 (s1.length : Int) w0q FUEL 0) else (some false)
def zd5 : Con := ⟨192, [.v (.sl .I) false, .v (.sl .I) false], [(.B, true)], [], fun x => yq6 x.1 x.2.1⟩
def v5x : Fs := ⟨[], [], []⟩
theorem wu6 : v5x.Ok Tryz.prog := fs0
def w6j : Tmpl := ⟨[(0, .c (.s .I)), (1, .c (.s .I)), (12, .c .i), (13, .c .i)], []⟩
def w14 : Tmpl := ⟨[], []⟩
def v11 (av : AV) (x : HP zd5.ps) (n : Nat) (v : w6j.den) (K : Ks (CR zd5)) : Option (CR zd5) := zb3 v.1.1 v.1.2.1 v.1.2.2.1 (w14.at none ((), ()) (K (.exit 0))) n v.1.2.2.2.1
def w4t (av : AV) (x : HP zd5.ps) : Hdl (CR zd5) := hnd [] w6j (v11 av x)
theorem v1t : LP zd5 Tryz.f192 [0] w4t := lp_ok (W := []) (H := []) (xs := [w14]) wu6 trivial rfl (fun av x v K => by kernel_rfl) (fun av x n v K => by kernel_rfl)
theorem v77 : zd5.Ok Tryz.prog := fn_ok (k := zd5) (fn := Tryz.f192) (W := []) (H := [w4t]) Tryz.func192 wu6 ⟨v1t, trivial⟩ rfl rfl (fun av x => by kernel_rfl)
def y0z (n : Int) : Option Bool := (z56 n).bind fun x1 => (some (!x1))
def y16 : FCon := ⟨162, .I, [], fun z c => y0z z ⟩
def w78 : Fs := ⟨[z7y], [], []⟩
theorem w80 : w78.Ok Tryz.prog := (fsK zm5 fs0)
theorem w8x : y16.Ok Tryz.prog := FCon.ok (fn_ok (k := y16.con) (fn := Tryz.f162) (W := []) (H := []) Tryz.func162 w80 trivial rfl rfl (fun av x => by kernel_rfl))
def z3a (data : List Int) : Option Bool := if decide ((data.length : Int) = 3) = true then ((z2f data (fun z => y0z z )).bind fun x2 => (some (!x2))) else (some false)
def z55 : Con := ⟨91, [.v (.sl .I) false], [(.B, true)], [], fun x => z3a x.1⟩
def ws0 : Fs := ⟨[z4o], [y16], []⟩
theorem wu8 : ws0.Ok Tryz.prog := (fsK z7w (fsF w8x fs0))
theorem z77 : z55.Ok Tryz.prog := fn_ok (k := z55) (fn := Tryz.f91) (W := []) (H := []) Tryz.func91 wu8 trivial rfl rfl (fun av x => by kernel_rfl)
def z2c (e : GAsk) (data : List Int) : Option Bool := (z76 e).bind fun x1 => (if x1 = true then ((z3a data).bind fun x3 => (if x3 = true then (if decide (e.op = 1) = true then ((getI data e.var).bind fun x6 => (some (decide (x6 < e.k)))) else (if decide (e.op = 2) = true then ((getI data e.var).bind fun x8 => (some (decide (x8 = e.k)))) else (if decide (e.op = 3) = true then ((getI data e.var).bind fun x10 => (some (decide (e.k < x10)))) else (some true)))) else (some false))) else (some false))
def z49 : Con := ⟨120, [.v (.s .ask) false, .v (.sl .I) false], [(.B, true)], [], fun x => z2c x.1 x.2.1⟩
def w41 : Fs := ⟨[zn2, z55], [], []⟩
theorem w4m : w41.Ok Tryz.prog := (fsK y8n (fsK z77 fs0))
theorem z74 : z49.Ok Tryz.prog := fn_ok (k := z49) (fn := Tryz.f120) (W := []) (H := []) Tryz.func120 w4m trivial rfl rfl (fun av x => by kernel_rfl)
def y1y  : Option Bool := some true
def z59 (list : List Int) (places : Int) (without : List Int) (p0_0 : Int) (kx0_0 : Option Bool) : Nat → Int → Int → Option Bool
  | 0, _, _ => none
  | n0 + 1, s0_0, s0_1 => if decide (s0_0 < p0_0) = true then ((getI list s0_0).bind fun x2 => (gd (ok64 (s0_1 + 1)) (gd (ok64 (places - 1)) ((z0c x2 (s0_1 + 1) (places - 1)).bind fun x5 => (if x5 = true then ((zb2 without x2).bind fun x7 => (if x7 = true then (some false) else (gd (ok64 (s0_0 + 1)) ((z59 list places without p0_0 kx0_0 n0) (s0_0 + 1) x2)))) else (some false)))))) else (kx0_0)
def z9n (list : List Int) (places : Int) (without : List Int) : Option Bool := z59 list places without (list.length : Int) y1y FUEL 0 (-1)
def z3w : Con := ⟨178, [.v (.sl .I) false, .v .I false, .v (.sl .I) false], [(.B, true)], [], fun x => z9n x.1 x.2.1 x.2.2.1⟩
def w7e : Fs := ⟨[z20, zn1], [], []⟩
theorem yd9 : w7e.Ok Tryz.prog := (fsK z2q (fsK y8l fs0))
def y5o : Tmpl := ⟨[(1, .c .i), (2, .c (.s .I)), (7, .c .i), (10, .c (.s .I)), (11, .c .i), (12, .c .i)], []⟩
def y2t : Tmpl := ⟨[], []⟩
def w1a (av : AV) (x : HP z3w.ps) (n : Nat) (v : y5o.den) (K : Ks (CR z3w)) : Option (CR z3w) := z59 v.1.2.2.2.1 v.1.1 v.1.2.1 v.1.2.2.2.2.1 (y2t.at none ((), ()) (K (.exit 0))) n v.1.2.2.2.2.2.1 v.1.2.2.1
def y4s (av : AV) (x : HP z3w.ps) : Hdl (CR z3w) := hnd [] y5o (w1a av x)
theorem w28 : LP z3w Tryz.f178 [0] y4s := lp_ok (W := []) (H := []) (xs := [y2t]) yd9 trivial rfl (fun av x v K => by kernel_rfl) (fun av x n v K => by kernel_rfl)
theorem w93 : z3w.Ok Tryz.prog := fn_ok (k := z3w) (fn := Tryz.f178) (W := []) (H := [y4s]) Tryz.func178 yd9 ⟨w28, trivial⟩ rfl rfl (fun av x => by kernel_rfl)
def z7g (t : GTask) : Option Bool := (z0c (t.out.length : Int) 1 3).bind fun x21 => (some x21)
def z1b (t : GTask) (places : Int) (p0_0 : List GFlow) (p0_1 : Int) (kx0_0 : Option Bool) : Nat → Int → List Int → Option Bool
  | 0, _, _ => none
  | n0 + 1, s0_0, m0_1 => if decide (s0_0 < p0_1) = true then ((getI p0_0 s0_0).bind fun x2 => (if decide (t.split = 1) = true then (gd (ok64 (places - 1)) ((z0c x2.to 0 (places - 1)).bind fun x5 => (if x5 = true then (if decide (x2.to ∈ m0_1) = true then (some false) else ((z76 x2.if_).bind fun x8 => (if x8 = true then (if ((decide (x2.if_.op = 0)) == true) = true then (gd (ok64 (s0_0 + 1)) ((z1b t places p0_0 p0_1 kx0_0 n0) (s0_0 + 1) (insKey m0_1 x2.to))) else (some false)) else (some false)))) else (some false)))) else (gd (ok64 ((t.out.length : Int) - 1)) (gd (ok64 (places - 1)) ((z0c x2.to 0 (places - 1)).bind fun x14 => (if x14 = true then (if decide (x2.to ∈ m0_1) = true then (some false) else ((z76 x2.if_).bind fun x17 => (if x17 = true then (if ((decide (x2.if_.op = 0)) == (decide (s0_0 = ((t.out.length : Int) - 1)))) = true then (gd (ok64 (s0_0 + 1)) ((z1b t places p0_0 p0_1 kx0_0 n0) (s0_0 + 1) (insKey m0_1 x2.to))) else (some false)) else (some false)))) else (some false))))))) else (kx0_0)
def z6k (t : GTask) (places : Int) : Option Bool := z1b t places t.out (t.out.length : Int) (z7g t) FUEL 0 (insKey ([] : List Int) 0)
def z11 : Con := ⟨179, [.v (.s .task) false, .v .I false], [(.B, true)], [], fun x => z6k x.1 x.2.1⟩
def yc6 : Fs := ⟨[z20, zn2], [], []⟩
theorem zp9 : yc6.Ok Tryz.prog := (fsK z2q (fsK y8n fs0))
def zj2 : Tmpl := ⟨[(1, .c .i), (2, .c (.bx 2 0)), (5, .c (.bx 9 0)), (12, .c (.s (.s .flow))), (13, .c .i), (14, .c .i)], [(2, .boxT (.s .task)), (9, .mp)]⟩
def zi4 : Tmpl := ⟨[(2, .c (.bx 2 0))], [(2, .boxT (.s .task))]⟩
def y6m (av : AV) (x : HP z11.ps) (n : Nat) (v : zj2.den) (K : Ks (CR z11)) : Option (CR z11) := z1b v.2.1 v.1.1 v.1.2.2.2.1 v.1.2.2.2.2.1 (zi4.at none (((), ()), (v.2.1, ())) (K (.exit 0))) n v.1.2.2.2.2.2.1 v.2.2.1
def zi6 (av : AV) (x : HP z11.ps) : Hdl (CR z11) := hnd [] zj2 (y6m av x)
theorem y6o : LP z11 Tryz.f179 [0] zi6 := lp_ok (W := []) (H := []) (xs := [zi4]) zp9 trivial rfl (fun av x v K => by kernel_rfl) (fun av x n v K => by kernel_rfl)
theorem yd7 : z11.Ok Tryz.prog := fn_ok (k := z11) (fn := Tryz.f179) (W := []) (H := [zi6]) Tryz.func179 zp9 ⟨y6o, trivial⟩ rfl rfl (fun av x => by kernel_rfl)
def z93 (t : GTask) (places : Int) (tasks : Int) : Option Bool := (zt0 t.join).bind fun x1 => (if x1 = true then ((zt0 t.split).bind fun x3 => (if x3 = true then ((z0c (t.in_.length : Int) 1 3).bind fun x5 => (if x5 = true then ((z9n t.in_ places [1]).bind fun x7 => (if x7 = true then ((z6k t places).bind fun x9 => (if x9 = true then ((z9n t.clear places [0, 1]).bind fun x11 => (if x11 = true then ((zf0 t.role).bind fun x13 => (if x13 = true then (gd (ok64 (tasks - 1)) ((z0c t.apart (-1) (tasks - 1)).bind fun x16 => (if x16 = true then ((z0c t.all 1 3).bind fun x18 => (if x18 = true then ((z0c t.need 1 t.all).bind fun x20 => (some x20)) else (some false))) else (some false)))) else (some false))) else (some false))) else (some false))) else (some false))) else (some false))) else (some false))) else (some false))
def zk0 : Con := ⟨125, [.v (.s .task) false, .v .I false, .v .I false], [(.B, true)], [], fun x => z93 x.1 x.2.1 x.2.2.1⟩
def yw3 : Fs := ⟨[y3t, z20, z3w, z11, zr7], [], []⟩
theorem yx0 : yw3.Ok Tryz.prog := (fsK wm0 (fsK z2q (fsK w93 (fsK yd7 (fsK yr3 fs0)))))
theorem yz4 : zk0.Ok Tryz.prog := fn_ok (k := zk0) (fn := Tryz.f125) (W := []) (H := []) Tryz.func125 yx0 trivial rfl rfl (fun av x => by kernel_rfl)
def y11 (t : GTask) (n : GNet) : Option Bool := (z93 t n.places (n.tasks.length : Int)).bind fun x1 => (some (!x1))
def y18 : FCon := ⟨124, (.s .task), [(.s .net)], fun z c => y11 z c.1⟩
def w7b : Fs := ⟨[zk0], [], []⟩
theorem w82 : w7b.Ok Tryz.prog := (fsK yz4 fs0)
theorem w90 : y18.Ok Tryz.prog := FCon.ok (fn_ok (k := y18.con) (fn := Tryz.f124) (W := []) (H := []) Tryz.func124 w82 trivial rfl rfl (fun av x => by kernel_rfl))
def z8i (n : GNet) : Option Bool := (y14 n.places (n.tasks.length : Int)).bind fun x1 => (if x1 = true then ((z6i n.tasks (fun z => y11 z n)).bind fun x3 => (some (!x3))) else (some false))
def zb0 : Con := ⟨52, [.v (.s .net) false], [(.B, true)], [], fun x => z8i x.1⟩
def ws5 : Fs := ⟨[y0u, z9f], [y18], []⟩
theorem wv2 : ws5.Ok Tryz.prog := (fsK w95 (fsK yd5 (fsF w90 fs0)))
theorem y04 : zb0.Ok Tryz.prog := fn_ok (k := zb0) (fn := Tryz.f52) (W := []) (H := []) Tryz.func52 wv2 trivial rfl rfl (fun av x => by kernel_rfl)
def z67 (p : Int) (out : List Bool) : Option Bool := (getI out p).bind fun x1 => (some x1)
def z8s : FCon := ⟨217, .I, [(.sl .B)], fun z c => z67 z c.1⟩
def y6y : Fs := ⟨[], [], []⟩
theorem y71 : y6y.Ok Tryz.prog := fs0
theorem y8q : z8s.Ok Tryz.prog := FCon.ok (fn_ok (k := z8s.con) (fn := Tryz.f217) (W := []) (H := []) Tryz.func217 y71 trivial rfl rfl (fun av x => by kernel_rfl))
def zi7 (s1_0 : List GTask) (s1_1 : Int) (s1_2 : Int) (bk1 : List GTask → Int → Int → Bool → List Bool → Option (List Bool)) (s2_1 : Bool) (l2_2 : List Bool) : Option (List Bool) := gd (ok64 (s1_2 + 1)) (bk1 s1_0 s1_1 (s1_2 + 1) s2_1 l2_2)
def z0k (p2_0 : List GFlow) (p2_1 : Int) (kx2_0 : Bool → List Bool → Option (List Bool)) : Nat → Int → Bool → List Bool → Option (List Bool)
  | 0, _, _, _ => none
  | n2 + 1, s2_0, s2_1, l2_2 => if decide (s2_0 < p2_1) = true then ((getI p2_0 s2_0).bind fun x11 => (if s2_1 = true then ((getI l2_2 x11.to).bind fun x13 => (gd (ok64 (s2_0 + 1)) ((z0k p2_0 p2_1 kx2_0 n2) (s2_0 + 1) true (l2_2.set x11.to.toNat true)))) else ((getI l2_2 x11.to).bind fun x15 => ((getI l2_2 x11.to).bind fun x16 => (gd (ok64 (s2_0 + 1)) ((z0k p2_0 p2_1 kx2_0 n2) (s2_0 + 1) (!x15) (l2_2.set x11.to.toNat true))))))) else (kx2_0 s2_1 l2_2)
def z85 (bk0 : Bool → List Bool → Option (List Bool)) (s1_3 : Bool) (l1_4 : List Bool) : Option (List Bool) := bk0 s1_3 l1_4
def z0d (but : Int) (kx1_0 : Bool → List Bool → Option (List Bool)) : Nat → List GTask → Int → Int → Bool → List Bool → Option (List Bool)
  | 0, _, _, _, _, _ => none
  | n1 + 1, s1_0, s1_1, s1_2, s1_3, l1_4 => if decide (s1_2 < s1_1) = true then ((getI s1_0 s1_2).bind fun x5 => (if decide (s1_2 = but) = true then (gd (ok64 (s1_2 + 1)) ((z0d but kx1_0 n1) s1_0 s1_1 (s1_2 + 1) s1_3 l1_4)) else ((z2f x5.in_ (fun z => z67 z l1_4)).bind fun x8 => (if x8 = true then (z0k x5.out (x5.out.length : Int) (zi7 s1_0 s1_1 s1_2 (z0d but kx1_0 n1)) FUEL 0 s1_3 l1_4) else (gd (ok64 (s1_2 + 1)) ((z0d but kx1_0 n1) s1_0 s1_1 (s1_2 + 1) s1_3 l1_4)))))) else (kx1_0 s1_3 l1_4)
def zi8 (l0_1 : List Bool) : Option (List Bool) := some l0_1
def z10 (n : GNet) (but : Int) (kx0_0 : List Bool → Option (List Bool)) : Nat → Bool → List Bool → Option (List Bool)
  | 0, _, _ => none
  | n0 + 1, s0_0, l0_1 => if s0_0 = true then (z0d but (z85 (z10 n but kx0_0 n0)) FUEL n.tasks (n.tasks.length : Int) 0 false l0_1) else (kx0_0 l0_1)
def z7f (n : GNet) (place : Int) (but : Int) : Option (List Bool) := gd ((0 : Int) ≤ n.places ∧ n.places ≤ (1000000000 : Int)) ((getI (List.replicate n.places.toNat false) place).bind fun x2 => (z10 n but zi8 FUEL true ((List.replicate n.places.toNat false).set place.toNat true)))
def z05 : Con := ⟨202, [.v (.s .net) false, .v .I false, .v .I false], [((.sl .B), true)], [], fun x => z7f x.1 x.2.1 x.2.2.1⟩
def yk1 : Fs := ⟨[z4o], [z8s], []⟩
theorem z79 : yk1.Ok Tryz.prog := (fsK z7w (fsF y8q fs0))
def z9t : Tmpl := ⟨[(2, .c .i), (3, .c (.bx 3 0)), (7, .c (.bx 7 0)), (8, .c .b), (21, .c (.s (.s .task))), (22, .c .i), (23, .c .i), (39, .c (.s (.s .flow))), (40, .c .i), (41, .c .i)], [(3, .boxT (.s .net)), (7, .box [.ref 15]), (15, .arr .B true)]⟩
def z9b : Tmpl := ⟨[(2, .c .i), (3, .c (.bx 3 0)), (7, .c (.bx 7 0)), (8, .c .b), (21, .c (.s (.s .task))), (22, .c .i), (23, .c .i)], [(3, .boxT (.s .net)), (7, .box [.ref 15]), (15, .arr .B true)]⟩
def y0n (av : AV) (x : HP z05.ps) (n : Nat) (v : z9t.den) (K : Ks (CR z05)) : Option (CR z05) := z0k v.1.2.2.2.2.2.2.2.1 v.1.2.2.2.2.2.2.2.2.1 (fun s2_1 l2_2 => z9b.at none ((v.1.1, (), (), s2_1, v.1.2.2.2.2.1, v.1.2.2.2.2.2.1, v.1.2.2.2.2.2.2.1, ()), (v.2.1, ((), ()), l2_2, ())) (K (.exit 4))) n v.1.2.2.2.2.2.2.2.2.2.1 v.1.2.2.2.1 v.2.2.2.1
def z9l (av : AV) (x : HP z05.ps) : Hdl (CR z05) := hnd [] z9t (y0n av x)
theorem y0y : LP z05 Tryz.f202 [0, 0, 0] z9l := lp_ok (W := []) (H := []) (xs := [z9b]) z79 trivial rfl (fun av x v K => by kernel_rfl) (fun av x n v K => by kernel_rfl)
def zi2 : Tmpl := ⟨[(2, .c .i), (3, .c (.bx 3 0)), (7, .c (.bx 7 0)), (8, .c .b), (21, .c (.s (.s .task))), (22, .c .i), (23, .c .i)], [(3, .boxT (.s .net)), (7, .box [.ref 15]), (15, .arr .B true)]⟩
def zc4 : Tmpl := ⟨[(2, .c .i), (3, .c (.bx 3 0)), (7, .c (.bx 7 0)), (8, .c .b)], [(3, .boxT (.s .net)), (7, .box [.ref 15]), (15, .arr .B true)]⟩
def y3c (av : AV) (x : HP z05.ps) (n : Nat) (v : zi2.den) (K : Ks (CR z05)) : Option (CR z05) := z0d v.1.1 (fun s1_3 l1_4 => zc4.at none ((v.1.1, (), (), s1_3, ()), (v.2.1, ((), ()), l1_4, ())) (K (.exit 2))) n v.1.2.2.2.2.1 v.1.2.2.2.2.2.1 v.1.2.2.2.2.2.2.1 v.1.2.2.2.1 v.2.2.2.1
def zd3 (av : AV) (x : HP z05.ps) : Hdl (CR z05) := hnd [] zi2 (y3c av x)
theorem y46 : LP z05 Tryz.f202 [0, 0] zd3 := lp_ok (W := []) (H := [z9l]) (xs := [zc4]) z79 ⟨y0y, trivial⟩ rfl (fun av x v K => by kernel_rfl) (fun av x n v K => by kernel_rfl)
def zo4 : Tmpl := ⟨[(2, .c .i), (3, .c (.bx 3 0)), (7, .c (.bx 7 0)), (8, .c .b)], [(3, .boxT (.s .net)), (7, .box [.ref 15]), (15, .arr .B true)]⟩
def zj4 : Tmpl := ⟨[(7, .c (.bx 7 0))], [(7, .box [.ref 15]), (15, .arr .B true)]⟩
def y6q (av : AV) (x : HP z05.ps) (n : Nat) (v : zo4.den) (K : Ks (CR z05)) : Option (CR z05) := z10 v.2.1 v.1.1 (fun l0_1 => zj4.at none (((), ()), (((), ()), l0_1, ())) (K (.exit 0))) n v.1.2.2.2.1 v.2.2.2.1
def zm8 (av : AV) (x : HP z05.ps) : Hdl (CR z05) := hnd [] zo4 (y6q av x)
theorem y80 : LP z05 Tryz.f202 [0] zm8 := lp_ok (W := []) (H := [zd3]) (xs := [zj4]) z79 ⟨y46, trivial⟩ rfl (fun av x v K => by kernel_rfl) (fun av x n v K => by kernel_rfl)
theorem ym0 : z05.Ok Tryz.prog := fn_ok (k := z05) (fn := Tryz.f202) (W := []) (H := [zm8]) Tryz.func202 z79 ⟨y80, trivial⟩ rfl rfl (fun av x => by kernel_rfl)
def z7e (m : Int) : Option Bool := (z0c m 0 4).bind fun x1 => (some (!x1))
def z7q : FCon := ⟨199, .I, [], fun z c => z7e z ⟩
def y3f : Fs := ⟨[z20], [], []⟩
theorem y3i : y3f.Ok Tryz.prog := (fsK z2q fs0)
theorem y4b : z7q.Ok Tryz.prog := FCon.ok (fn_ok (k := z7q.con) (fn := Tryz.f199) (W := []) (H := []) Tryz.func199 y3i trivial rfl rfl (fun av x => by kernel_rfl))
def z4c (n : GNet) (marks : List Int) : Option Bool := if decide ((marks.length : Int) = n.places) = true then ((z2f marks (fun z => z7e z )).bind fun x2 => (some (!x2))) else (some false)
def z5z : Con := ⟨164, [.v (.s .net) false, .v (.sl .I) false], [(.B, true)], [], fun x => z4c x.1 x.2.1⟩
def y6x : Fs := ⟨[z4o], [z7q], []⟩
theorem y70 : y6x.Ok Tryz.prog := (fsK z7w (fsF y4b fs0))
theorem zn8 : z5z.Ok Tryz.prog := fn_ok (k := z5z) (fn := Tryz.f164) (W := []) (H := []) Tryz.func164 y70 trivial rfl rfl (fun av x => by kernel_rfl)
def zb5 (n : GNet) (marks : List Int) : Option Bool := (z8i n).bind fun x1 => (if x1 = true then ((z4c n marks).bind fun x3 => (some x3)) else (some false))
def zn3 : Con := ⟨94, [.v (.s .net) false, .v (.sl .I) false], [(.B, true)], [], fun x => zb5 x.1 x.2.1⟩
def ws4 : Fs := ⟨[zb0, z5z], [], []⟩
theorem wv1 : ws4.Ok Tryz.prog := (fsK y04 (fsK zn8 fs0))
theorem y8o : zn3.Ok Tryz.prog := fn_ok (k := zn3) (fn := Tryz.f94) (W := []) (H := []) Tryz.func94 wv1 trivial rfl rfl (fun av x => by kernel_rfl)
def ze8 (busy : List GItem) : Option Bool := some (decide ((busy.length : Int) ≤ 6))
def z1y (n : GNet) (p0_0 : List GItem) (p0_1 : Int) (kx0_0 : Option Bool) : Nat → Int → Option Bool
  | 0, _ => none
  | n0 + 1, s0_0 => if decide (s0_0 < p0_1) = true then ((getI p0_0 s0_0).bind fun x2 => ((z0o n x2.task).bind fun x3 => (if x3 = true then ((z8l x2.who).bind fun x5 => (if x5 = true then ((getI n.tasks x2.task).bind fun x7 => (gd (ok64 (x7.need - 1)) ((z0c x2.did 0 (x7.need - 1)).bind fun x9 => (if x9 = true then (gd (ok64 (s0_0 + 1)) ((z1y n p0_0 p0_1 kx0_0 n0) (s0_0 + 1))) else (some false))))) else (some false))) else (some false)))) else (kx0_0)
def z4t (n : GNet) (busy : List GItem) : Option Bool := z1y n busy (busy.length : Int) (ze8 busy) FUEL 0
def z0s : Con := ⟨95, [.v (.s .net) false, .v (.sl (.s .item)) false], [(.B, true)], [], fun x => z4t x.1 x.2.1⟩
def yc4 : Fs := ⟨[z1p, zd9, z20], [], []⟩
theorem zp8 : yc4.Ok Tryz.prog := (fsK z4e (fsK y8t (fsK z2q fs0)))
def zj1 : Tmpl := ⟨[(1, .c (.s (.s .item))), (2, .c (.bx 2 0)), (7, .c (.s (.s .item))), (8, .c .i), (9, .c .i)], [(2, .boxT (.s .net))]⟩
def zi3 : Tmpl := ⟨[(1, .c (.s (.s .item)))], []⟩
def y6l (av : AV) (x : HP z0s.ps) (n : Nat) (v : zj1.den) (K : Ks (CR z0s)) : Option (CR z0s) := z1y v.2.1 v.1.2.2.1 v.1.2.2.2.1 (zi3.at none ((v.1.1, ()), ()) (K (.exit 0))) n v.1.2.2.2.2.1
def zi5 (av : AV) (x : HP z0s.ps) : Hdl (CR z0s) := hnd [] zj1 (y6l av x)
theorem y6n : LP z0s Tryz.f95 [0] zi5 := lp_ok (W := []) (H := []) (xs := [zi3]) zp8 trivial rfl (fun av x v K => by kernel_rfl) (fun av x n v K => by kernel_rfl)
theorem zq3 : z0s.Ok Tryz.prog := fn_ok (k := z0s) (fn := Tryz.f95) (W := []) (H := [zi5]) Tryz.func95 zp8 ⟨y6n, trivial⟩ rfl rfl (fun av x => by kernel_rfl)
def z7c (q : Int) (marks : List Int) (reach : List Bool) : Option Bool := (getI marks q).bind fun x1 => (if decide (x1 = 0) = true then ((getI reach q).bind fun x3 => (some x3)) else (some false))
def z7p : FCon := ⟨203, .I, [(.sl .I), (.sl .B)], fun z c => z7c z c.1 c.2.1⟩
def y3e : Fs := ⟨[], [], []⟩
theorem y3h : y3e.Ok Tryz.prog := fs0
theorem y4a : z7p.Ok Tryz.prog := FCon.ok (fn_ok (k := z7p.con) (fn := Tryz.f203) (W := []) (H := []) Tryz.func203 y3h trivial rfl rfl (fun av x => by kernel_rfl))
def z4j (s1_0 : Int) (s1_1 : Int) (bk1 : Int → Int → List Int → Option Bool) (l2_1 : List Int) : Option Bool := gd (ok64 (s1_1 + 1)) (bk1 s1_0 (s1_1 + 1) l2_1)
def z1o (p2_0 : List GFlow) (p2_1 : Int) (kx2_0 : List Int → Option Bool) : Nat → Int → List Int → Option Bool
  | 0, _, _ => none
  | n2 + 1, s2_0, l2_1 => if decide (s2_0 < p2_1) = true then ((getI p2_0 s2_0).bind fun x15 => (gd (l2_1.length + [x15.to].length ≤ SMALL) (gd (ok64 (s2_0 + 1)) ((z1o p2_0 p2_1 kx2_0 n2) (s2_0 + 1) (l2_1 ++ [x15.to]))))) else (kx2_0 l2_1)
def z6q  : Option Bool := some false
def z14 (n : GNet) (t : Int) (p0_0 : List Int) (p0_2 : List Int) (l1_2 : List Int) (p3_0 : Int) (kx3_0 : Option Bool) : Nat → Int → Option Bool
  | 0, _ => none
  | n3 + 1, s3_0 => if decide (s3_0 < p3_0) = true then ((getI l1_2 s3_0).bind fun x20 => ((z7f n x20 t).bind fun x21 => ((z2f p0_0 (fun z => z7c z p0_2 x21)).bind fun x22 => (if x22 = true then (some true) else (gd (ok64 (s3_0 + 1)) ((z14 n t p0_0 p0_2 l1_2 p3_0 kx3_0 n3) (s3_0 + 1))))))) else (kx3_0)
def z1n (n : GNet) (t : Int) (p0_0 : List Int) (p0_2 : List Int) (l1_2 : List Int) : Option Bool := z14 n t p0_0 p0_2 l1_2 (l1_2.length : Int) z6q FUEL 0
def z0r (n : GNet) (busy : List GItem) (kx1_0 : List Int → Option Bool) : Nat → Int → Int → List Int → Option Bool
  | 0, _, _, _ => none
  | n1 + 1, s1_0, s1_1, l1_2 => if decide (s1_1 < s1_0) = true then ((getI busy s1_1).bind fun x12 => ((getI n.tasks x12.task).bind fun x13 => (z1o x13.out (x13.out.length : Int) (z4j s1_0 s1_1 (z0r n busy kx1_0 n1)) FUEL 0 l1_2))) else (kx1_0 l1_2)
def z4i (n : GNet) (busy : List GItem) (t : Int) (p0_0 : List Int) (p0_2 : List Int) (l0_1 : List Int) : Option Bool := z0r n busy (z1n n t p0_0 p0_2) FUEL (busy.length : Int) 0 l0_1
def z0q (marks : List Int) (p0_0 : List Int) (p0_1 : Int) (kx0_0 : List Int → Option Bool) : Nat → Int → List Int → Option Bool
  | 0, _, _ => none
  | n0 + 1, s0_0, l0_1 => if decide (s0_0 < p0_1) = true then ((getI marks s0_0).bind fun x3 => (if decide (0 < x3) = true then ((zb2 p0_0 s0_0).bind fun x5 => (if x5 = true then (gd (ok64 (s0_0 + 1)) ((z0q marks p0_0 p0_1 kx0_0 n0) (s0_0 + 1) l0_1)) else (gd (l0_1.length + [s0_0].length ≤ SMALL) (gd (ok64 (s0_0 + 1)) ((z0q marks p0_0 p0_1 kx0_0 n0) (s0_0 + 1) (l0_1 ++ [s0_0])))))) else (gd (ok64 (s0_0 + 1)) ((z0q marks p0_0 p0_1 kx0_0 n0) (s0_0 + 1) l0_1)))) else (kx0_0 l0_1)
def z66 (n : GNet) (marks : List Int) (busy : List GItem) (t : Int) : Option Bool := (getI n.tasks t).bind fun x1 => (z0q marks x1.in_ (marks.length : Int) (z4i n busy t x1.in_ marks) FUEL 0 ([] : List Int))
def z01 : Con := ⟨168, [.v (.s .net) false, .v (.sl .I) false, .v (.sl (.s .item)) false, .v .I false], [(.B, true)], [], fun x => z66 x.1 x.2.1 x.2.2.1 x.2.2.2.1⟩
def y6v : Fs := ⟨[zn1, z05, z4o], [z7p], []⟩
theorem z48 : y6v.Ok Tryz.prog := (fsK y8l (fsK ym0 (fsK z7w (fsF y4a fs0))))
def z9s : Tmpl := ⟨[(3, .c .i), (4, .c (.bx 4 0)), (5, .c (.bx 5 0)), (9, .c (.s .I)), (10, .c (.ref 500010)), (46, .c (.s (.s .item))), (47, .c .i), (48, .c .i), (58, .c (.s (.s .flow))), (59, .c .i), (60, .c .i)], [(4, .boxT (.s .net)), (5, .box [.s .I]), (500010, .arr .I true)]⟩
def z9a : Tmpl := ⟨[(3, .c .i), (4, .c (.bx 4 0)), (5, .c (.bx 5 0)), (9, .c (.s .I)), (10, .c (.ref 500010)), (46, .c (.s (.s .item))), (47, .c .i), (48, .c .i)], [(4, .boxT (.s .net)), (5, .box [.s .I]), (500010, .arr .I true)]⟩
def y0m (av : AV) (x : HP z01.ps) (n : Nat) (v : z9s.den) (K : Ks (CR z01)) : Option (CR z01) := z1o v.1.2.2.2.2.2.2.2.2.1 v.1.2.2.2.2.2.2.2.2.2.1 (fun l2_1 => z9a.at none ((v.1.1, (), (), v.1.2.2.2.1, (), v.1.2.2.2.2.2.1, v.1.2.2.2.2.2.2.1, v.1.2.2.2.2.2.2.2.1, ()), (v.2.1, (v.2.2.1.1, ()), l2_1, ())) (K (.exit 4))) n v.1.2.2.2.2.2.2.2.2.2.2.1 v.2.2.2.1
def z9k (av : AV) (x : HP z01.ps) : Hdl (CR z01) := hnd [] z9s (y0m av x)
theorem y0x : LP z01 Tryz.f168 [1, 0] z9k := lp_ok (W := []) (H := []) (xs := [z9a]) z48 trivial rfl (fun av x v K => by kernel_rfl) (fun av x n v K => by kernel_rfl)
def zh9 : Tmpl := ⟨[(2, .c (.s (.s .item))), (3, .c .i), (4, .c (.bx 4 0)), (5, .c (.bx 5 0)), (9, .c (.s .I)), (10, .c (.ref 500010)), (26, .c (.s .I)), (27, .c .i), (28, .c .i)], [(4, .boxT (.s .net)), (5, .box [.s .I]), (500010, .arr .I true)]⟩
def zc1 : Tmpl := ⟨[(2, .c (.s (.s .item))), (3, .c .i), (4, .c (.bx 4 0)), (5, .c (.bx 5 0)), (9, .c (.s .I)), (10, .c (.ref 500010))], [(4, .boxT (.s .net)), (5, .box [.s .I]), (500010, .arr .I true)]⟩
def y39 (av : AV) (x : HP z01.ps) (n : Nat) (v : zh9.den) (K : Ks (CR z01)) : Option (CR z01) := z0q v.1.2.2.2.2.2.2.1 v.1.2.2.2.2.1 v.1.2.2.2.2.2.2.2.1 (fun l0_1 => zc1.at none ((v.1.1, v.1.2.1, (), (), v.1.2.2.2.2.1, (), ()), (v.2.1, (v.2.2.1.1, ()), l0_1, ())) (K (.exit 0))) n v.1.2.2.2.2.2.2.2.2.1 v.2.2.2.1
def zd0 (av : AV) (x : HP z01.ps) : Hdl (CR z01) := hnd [.e 10 500010 .I] zh9 (y39 av x)
theorem y43 : LP z01 Tryz.f168 [0] zd0 := lp_ok (W := []) (H := []) (xs := [zc1]) z48 trivial rfl (fun av x v K => by kernel_rfl) (fun av x n v K => by kernel_rfl)
def zi0 : Tmpl := ⟨[(3, .c .i), (4, .c (.bx 4 0)), (5, .c (.bx 5 0)), (9, .c (.s .I)), (10, .c (.ref 500010)), (46, .c (.s (.s .item))), (47, .c .i), (48, .c .i)], [(4, .boxT (.s .net)), (5, .box [.s .I]), (500010, .arr .I true)]⟩
def zc2 : Tmpl := ⟨[(3, .c .i), (4, .c (.bx 4 0)), (5, .c (.bx 5 0)), (9, .c (.s .I)), (10, .c (.ref 500010))], [(4, .boxT (.s .net)), (5, .box [.s .I]), (500010, .arr .I true)]⟩
def y3a (av : AV) (x : HP z01.ps) (n : Nat) (v : zi0.den) (K : Ks (CR z01)) : Option (CR z01) := z0r v.2.1 v.1.2.2.2.2.2.1 (fun l1_2 => zc2.at none ((v.1.1, (), (), v.1.2.2.2.1, (), ()), (v.2.1, (v.2.2.1.1, ()), l1_2, ())) (K (.exit 2))) n v.1.2.2.2.2.2.2.1 v.1.2.2.2.2.2.2.2.1 v.2.2.2.1
def zd1 (av : AV) (x : HP z01.ps) : Hdl (CR z01) := hnd [] zi0 (y3a av x)
theorem y44 : LP z01 Tryz.f168 [1] zd1 := lp_ok (W := []) (H := [z9k]) (xs := [zc2]) z48 ⟨y0x, trivial⟩ rfl (fun av x v K => by kernel_rfl) (fun av x n v K => by kernel_rfl)
def zi1 : Tmpl := ⟨[(3, .c .i), (4, .c (.bx 4 0)), (5, .c (.bx 5 0)), (9, .c (.s .I)), (71, .c (.ref 500010)), (72, .c .i), (73, .c .i)], [(4, .boxT (.s .net)), (5, .box [.s .I]), (500010, .arr .I true)]⟩
def zc3 : Tmpl := ⟨[], []⟩
def y3b (av : AV) (x : HP z01.ps) (n : Nat) (v : zi1.den) (K : Ks (CR z01)) : Option (CR z01) := z14 v.2.1 v.1.1 v.1.2.2.2.1 v.2.2.1.1 v.2.2.2.1 v.1.2.2.2.2.2.1 (zc3.at none ((), ()) (K (.exit 6))) n v.1.2.2.2.2.2.2.1
def zd2 (av : AV) (x : HP z01.ps) : Hdl (CR z01) := hnd [] zi1 (y3b av x)
theorem y45 : LP z01 Tryz.f168 [2] zd2 := lp_ok (W := []) (H := []) (xs := [zc3]) z48 trivial rfl (fun av x v K => by kernel_rfl) (fun av x n v K => by kernel_rfl)
theorem y8p : z01.Ok Tryz.prog := fn_ok (k := z01) (fn := Tryz.f168) (W := []) (H := [zd0, zd1, zd2]) Tryz.func168 z48 ⟨y43, y44, y45, trivial⟩ rfl rfl (fun av x => by kernel_rfl)
def z35 (n : GNet) (marks : List Int) (busy : List GItem) (t : Int) (s0_0 : Bool) (s0_2 : Bool) : Option Bool := (getI n.tasks t).bind fun x14 => (if decide (x14.join = 1) = true then (some s0_0) else (if decide (x14.join = 2) = true then (some s0_2) else (if s0_2 = true then (if s0_0 = true then (some true) else ((z66 n marks busy t).bind fun x19 => (some (!x19)))) else (some false))))
def z0t (marks : List Int) (p0_0 : List Int) (p0_1 : Int) (kx0_0 : Bool → Bool → Option Bool) : Nat → Bool → Int → Bool → Option Bool
  | 0, _, _, _ => none
  | n0 + 1, s0_0, s0_1, s0_2 => if decide (s0_1 < p0_1) = true then ((getI p0_0 s0_1).bind fun x3 => (if s0_2 = true then (if s0_0 = true then ((getI marks x3).bind fun x6 => (gd (ok64 (s0_1 + 1)) ((z0t marks p0_0 p0_1 kx0_0 n0) (decide (0 < x6)) (s0_1 + 1) true))) else (gd (ok64 (s0_1 + 1)) ((z0t marks p0_0 p0_1 kx0_0 n0) false (s0_1 + 1) true))) else ((getI marks x3).bind fun x9 => (if s0_0 = true then ((getI marks x3).bind fun x11 => (gd (ok64 (s0_1 + 1)) ((z0t marks p0_0 p0_1 kx0_0 n0) (decide (0 < x11)) (s0_1 + 1) (decide (0 < x9))))) else (gd (ok64 (s0_1 + 1)) ((z0t marks p0_0 p0_1 kx0_0 n0) false (s0_1 + 1) (decide (0 < x9)))))))) else (kx0_0 s0_0 s0_2)
def z92 (n : GNet) (marks : List Int) (busy : List GItem) (t : Int) : Option Bool := (getI n.tasks t).bind fun x1 => (z0t marks x1.in_ (x1.in_.length : Int) (z35 n marks busy t) FUEL true 0 false)
def z1x : Con := ⟨104, [.v (.s .net) false, .v (.sl .I) false, .v (.sl (.s .item)) false, .v .I false], [(.B, true)], [], fun x => z92 x.1 x.2.1 x.2.2.1 x.2.2.2.1⟩
def yw2 : Fs := ⟨[z01], [], []⟩
theorem y1k : yw2.Ok Tryz.prog := (fsK y8p fs0)
def zx4 : Tmpl := ⟨[(1, .c (.s .I)), (2, .c (.s (.s .item))), (3, .c .i), (4, .c (.bx 4 0)), (9, .c .b), (10, .c .b), (18, .c (.s .I)), (19, .c .i), (20, .c .i)], [(4, .boxT (.s .net))]⟩
def zq8 : Tmpl := ⟨[(1, .c (.s .I)), (2, .c (.s (.s .item))), (3, .c .i), (4, .c (.bx 4 0)), (9, .c .b), (10, .c .b)], [(4, .boxT (.s .net))]⟩
def yj2 (av : AV) (x : HP z1x.ps) (n : Nat) (v : zx4.den) (K : Ks (CR z1x)) : Option (CR z1x) := z0t v.1.1 v.1.2.2.2.2.2.2.1 v.1.2.2.2.2.2.2.2.1 (fun s0_0 s0_2 => zq8.at none ((v.1.1, v.1.2.1, v.1.2.2.1, (), s0_2, s0_0, ()), (v.2.1, ())) (K (.exit 0))) n v.1.2.2.2.2.2.1 v.1.2.2.2.2.2.2.2.2.1 v.1.2.2.2.2.1
def zv4 (av : AV) (x : HP z1x.ps) : Hdl (CR z1x) := hnd [] zx4 (yj2 av x)
theorem yk9 : LP z1x Tryz.f104 [0] zv4 := lp_ok (W := []) (H := []) (xs := [zq8]) y1k trivial rfl (fun av x v K => by kernel_rfl) (fun av x n v K => by kernel_rfl)
theorem yz3 : z1x.Ok Tryz.prog := fn_ok (k := z1x) (fn := Tryz.f104) (W := []) (H := [zv4]) Tryz.func104 y1k ⟨yk9, trivial⟩ rfl rfl (fun av x => by kernel_rfl)
def zs4 (n : GNet) (marks : List Int) (busy : List GItem) (t : Int) : Option Bool := (zb5 n marks).bind fun x1 => (if x1 = true then ((z4t n busy).bind fun x3 => (if x3 = true then ((z0o n t).bind fun x5 => (if x5 = true then ((z92 n marks busy t).bind fun x7 => (some x7)) else (some false))) else (some false))) else (some false))
def y3n : Con := ⟨33, [.v (.s .net) false, .v (.sl .I) false, .v (.sl (.s .item)) false, .v .I false], [(.B, true)], [], fun x => zs4 x.1 x.2.1 x.2.2.1 x.2.2.2.1⟩
def wc9 : Fs := ⟨[zn3, z0s, z1p, z1x], [], []⟩
theorem wh0 : wc9.Ok Tryz.prog := (fsK y8o (fsK zq3 (fsK z4e (fsK yz3 fs0))))
theorem wl3 : y3n.Ok Tryz.prog := fn_ok (k := y3n) (fn := Tryz.f33) (W := []) (H := []) Tryz.func33 wh0 trivial rfl rfl (fun av x => by kernel_rfl)
def zn6 (l0_1 : List Int) (x4 : Int) (x7 : Int) : Option (List Int) := some (l0_1.set x4.toNat (x7 - 1))
def zn7 (l0_1 : List Int) : Option (List Int) := some l0_1
def z1q (n : GNet) (t : Int) (p0_0 : List Int) (p0_1 : Int) (kx0_0 : List Int → Int → Int → Option (List Int)) (kx0_1 : List Int → Option (List Int)) : Nat → Int → List Int → Option (List Int)
  | 0, _, _ => none
  | n0 + 1, s0_0, l0_1 => if decide (s0_0 < p0_1) = true then ((getI p0_0 s0_0).bind fun x4 => ((getI l0_1 x4).bind fun x5 => (if decide (0 < x5) = true then ((getI l0_1 x4).bind fun x7 => (gd (ok64 (x7 - 1)) ((getI l0_1 x4).bind fun x9 => ((getI n.tasks t).bind fun x10 => (if decide (x10.join = 2) = true then (kx0_0 l0_1 x4 x7) else (gd (ok64 (s0_0 + 1)) ((z1q n t p0_0 p0_1 kx0_0 kx0_1 n0) (s0_0 + 1) (l0_1.set x4.toNat (x7 - 1))))))))) else (gd (ok64 (s0_0 + 1)) ((z1q n t p0_0 p0_1 kx0_0 kx0_1 n0) (s0_0 + 1) l0_1))))) else (kx0_1 l0_1)
def z87 (n : GNet) (marks : List Int) (t : Int) : Option (List Int) := (z0l marks).bind fun x1 => ((getI n.tasks t).bind fun x2 => (z1q n t x2.in_ (x2.in_.length : Int) zn6 zn7 FUEL 0 x1))
def z1h : Con := ⟨93, [.v (.s .net) false, .v (.sl .I) false, .v .I false], [((.sl .I), true)], [], fun x => z87 x.1 x.2.1 x.2.2.1⟩
def yn7 : Fs := ⟨[z1t], [], []⟩
theorem zy4 : yn7.Ok Tryz.prog := (fsK z3f fs0)
def zq5 : Tmpl := ⟨[(2, .c .i), (3, .c (.bx 3 0)), (7, .c (.ref 11)), (17, .c (.s .I)), (18, .c .i), (19, .c .i)], [(3, .boxT (.s .net)), (11, .arr .I true)]⟩
def z8u : Tmpl := ⟨[(7, .c (.ref 11))], [(11, .arr .I true)]⟩
def yc0 (av : AV) (x : HP z1h.ps) (n : Nat) (v : zq5.den) (K : Ks (CR z1h)) : Option (CR z1h) := z1q v.2.1 v.1.1 v.1.2.2.2.1 v.1.2.2.2.2.1 (fun l0_1 x4 x7 => z8u.at none (((), ()), ((l0_1.set x4.toNat (x7 - 1)), ())) (K (.exit 0))) (fun l0_1 => z8u.at none (((), ()), (l0_1, ())) (K (.exit 0))) n v.1.2.2.2.2.2.1 v.2.2.1
def zq0 (av : AV) (x : HP z1h.ps) : Hdl (CR z1h) := hnd [] zq5 (yc0 av x)
theorem yd1 : LP z1h Tryz.f93 [0] zq0 := lp_ok (W := []) (H := []) (xs := [z8u]) zy4 trivial rfl (fun av x v K => by kernel_rfl) (fun av x n v K => by kernel_rfl)
theorem yr2 : z1h.Ok Tryz.prog := fn_ok (k := z1h) (fn := Tryz.f93) (W := []) (H := [zq0]) Tryz.func93 zy4 ⟨yd1, trivial⟩ rfl rfl (fun av x => by kernel_rfl)
def y88 (l0_1 : List Int) : Option (List Int) := some l0_1
def z0p (t : GTask) (data : List Int) (p0_0 : List GFlow) (p0_1 : Int) (kx0_0 : List Int → Option (List Int)) : Nat → Int → List Int → Option (List Int)
  | 0, _, _ => none
  | n0 + 1, s0_0, l0_1 => if decide (s0_0 < p0_1) = true then ((getI p0_0 s0_0).bind fun x2 => ((z2c x2.if_ data).bind fun x3 => (if x3 = true then (if decide (t.split = 2) = true then (if decide (0 < (l0_1.length : Int)) = true then (gd (ok64 (s0_0 + 1)) ((z0p t data p0_0 p0_1 kx0_0 n0) (s0_0 + 1) l0_1)) else (if decide (t.split = 3) = true then (gd (ok64 ((t.out.length : Int) - 1)) (if decide (s0_0 = ((t.out.length : Int) - 1)) = true then (if decide (0 < (l0_1.length : Int)) = true then (gd (ok64 (s0_0 + 1)) ((z0p t data p0_0 p0_1 kx0_0 n0) (s0_0 + 1) l0_1)) else (gd (l0_1.length + [x2.to].length ≤ SMALL) (gd (ok64 (s0_0 + 1)) ((z0p t data p0_0 p0_1 kx0_0 n0) (s0_0 + 1) (l0_1 ++ [x2.to]))))) else (gd (l0_1.length + [x2.to].length ≤ SMALL) (gd (ok64 (s0_0 + 1)) ((z0p t data p0_0 p0_1 kx0_0 n0) (s0_0 + 1) (l0_1 ++ [x2.to])))))) else (gd (l0_1.length + [x2.to].length ≤ SMALL) (gd (ok64 (s0_0 + 1)) ((z0p t data p0_0 p0_1 kx0_0 n0) (s0_0 + 1) (l0_1 ++ [x2.to])))))) else (if decide (t.split = 3) = true then (gd (ok64 ((t.out.length : Int) - 1)) (if decide (s0_0 = ((t.out.length : Int) - 1)) = true then (if decide (0 < (l0_1.length : Int)) = true then (gd (ok64 (s0_0 + 1)) ((z0p t data p0_0 p0_1 kx0_0 n0) (s0_0 + 1) l0_1)) else (gd (l0_1.length + [x2.to].length ≤ SMALL) (gd (ok64 (s0_0 + 1)) ((z0p t data p0_0 p0_1 kx0_0 n0) (s0_0 + 1) (l0_1 ++ [x2.to]))))) else (gd (l0_1.length + [x2.to].length ≤ SMALL) (gd (ok64 (s0_0 + 1)) ((z0p t data p0_0 p0_1 kx0_0 n0) (s0_0 + 1) (l0_1 ++ [x2.to])))))) else (gd (l0_1.length + [x2.to].length ≤ SMALL) (gd (ok64 (s0_0 + 1)) ((z0p t data p0_0 p0_1 kx0_0 n0) (s0_0 + 1) (l0_1 ++ [x2.to])))))) else (gd (ok64 (s0_0 + 1)) ((z0p t data p0_0 p0_1 kx0_0 n0) (s0_0 + 1) l0_1))))) else (kx0_0 l0_1)
def zz4 (t : GTask) (data : List Int) : Option (List Int) := z0p t data t.out (t.out.length : Int) y88 FUEL 0 ([] : List Int)
def z60 : Con := ⟨173, [.v (.s .task) false, .v (.sl .I) false], [((.sl .I), true)], [], fun x => zz4 x.1 x.2.1⟩
def ws8 : Fs := ⟨[z49], [], []⟩
theorem w0a : ws8.Ok Tryz.prog := (fsK z74 fs0)
def yh8 : Tmpl := ⟨[(1, .c (.s .I)), (2, .c (.bx 2 0)), (5, .c (.ref 500005)), (9, .c (.s (.s .flow))), (10, .c .i), (11, .c .i)], [(2, .boxT (.s .task)), (500005, .arr .I true)]⟩
def y9s : Tmpl := ⟨[(5, .c (.ref 500005))], [(500005, .arr .I true)]⟩
def w6t (av : AV) (x : HP z60.ps) (n : Nat) (v : yh8.den) (K : Ks (CR z60)) : Option (CR z60) := z0p v.2.1 v.1.1 v.1.2.2.2.1 v.1.2.2.2.2.1 (fun l0_1 => y9s.at none (((), ()), (l0_1, ())) (K (.exit 0))) n v.1.2.2.2.2.2.1 v.2.2.1
def yf3 (av : AV) (x : HP z60.ps) : Hdl (CR z60) := hnd [.e 5 500005 .I] yh8 (w6t av x)
theorem w8i : LP z60 Tryz.f173 [0] yf3 := lp_ok (W := []) (H := []) (xs := [y9s]) w0a trivial rfl (fun av x v K => by kernel_rfl) (fun av x n v K => by kernel_rfl)
theorem wy7 : z60.Ok Tryz.prog := fn_ok (k := z60) (fn := Tryz.f173) (W := []) (H := [yf3]) Tryz.func173 w0a ⟨w8i, trivial⟩ rfl rfl (fun av x => by kernel_rfl)
def z91 (n : GNet) (l1_1 : List Int) : Option ((List Int) × Bool) := (z4c n l1_1).bind fun x21 => (if x21 = true then (some (l1_1, true)) else (some ([], false)))
def z58 (x14 : (List Int)) (p1_0 : Int) (kx1_0 : List Int → Option ((List Int) × Bool)) : Nat → Int → List Int → Option ((List Int) × Bool)
  | 0, _, _ => none
  | n1 + 1, s1_0, l1_1 => if decide (s1_0 < p1_0) = true then ((getI x14 s1_0).bind fun x16 => ((getI l1_1 x16).bind fun x17 => (gd (ok64 (x17 + 1)) ((getI l1_1 x16).bind fun x19 => (gd (ok64 (s1_0 + 1)) ((z58 x14 p1_0 kx1_0 n1) (s1_0 + 1) (l1_1.set x16.toNat (x17 + 1)))))))) else (kx1_0 l1_1)
def z90 (n : GNet) (t : Int) (data : List Int) (l0_1 : List Int) : Option ((List Int) × Bool) := (getI n.tasks t).bind fun x13 => ((zz4 x13 data).bind fun x14 => (z58 x14 (x14.length : Int) (z91 n) FUEL 0 l0_1))
def z57 (p0_0 : List Int) (p0_1 : Int) (kx0_0 : List Int → Option ((List Int) × Bool)) : Nat → Int → List Int → Option ((List Int) × Bool)
  | 0, _, _ => none
  | n0 + 1, s0_0, l0_1 => if decide (s0_0 < p0_1) = true then ((getI p0_0 s0_0).bind fun x10 => ((getI l0_1 x10).bind fun x11 => (gd (ok64 (s0_0 + 1)) ((z57 p0_0 p0_1 kx0_0 n0) (s0_0 + 1) (l0_1.set x10.toNat 0))))) else (kx0_0 l0_1)
def z80 (n : GNet) (marks : List Int) (t : Int) (data : List Int) : Option ((List Int) × Bool) := (zb5 n marks).bind fun x1 => (if x1 = true then ((z0o n t).bind fun x3 => (if x3 = true then ((z3a data).bind fun x5 => (if x5 = true then ((z0l marks).bind fun x7 => ((getI n.tasks t).bind fun x8 => (z57 x8.clear (x8.clear.length : Int) (z90 n t data) FUEL 0 x7))) else (some ([], false)))) else (some ([], false)))) else (some ([], false)))
def z0w : Con := ⟨115, [.v (.s .net) false, .v (.sl .I) false, .v .I false, .v (.sl .I) false], [((.sl .I), true), (.B, true)], [], fun x => z80 x.1 x.2.1 x.2.2.1 x.2.2.2.1⟩
def w7a : Fs := ⟨[zn3, z1p, z55, z1t, z60, z5z], [], []⟩
theorem y0o : w7a.Ok Tryz.prog := (fsK y8o (fsK z4e (fsK z77 (fsK z3f (fsK wy7 (fsK zn8 fs0))))))
def y5k : Tmpl := ⟨[(2, .c .i), (3, .c (.s .I)), (4, .c (.bx 4 0)), (10, .c (.ref 31)), (37, .c (.s .I)), (38, .c .i), (39, .c .i)], [(4, .boxT (.s .net)), (31, .arr .I true)]⟩
def y2p : Tmpl := ⟨[(2, .c .i), (3, .c (.s .I)), (4, .c (.bx 4 0)), (10, .c (.ref 31))], [(4, .boxT (.s .net)), (31, .arr .I true)]⟩
def w16 (av : AV) (x : HP z0w.ps) (n : Nat) (v : y5k.den) (K : Ks (CR z0w)) : Option (CR z0w) := z57 v.1.2.2.2.2.1 v.1.2.2.2.2.2.1 (fun l0_1 => y2p.at none ((v.1.1, v.1.2.1, (), (), ()), (v.2.1, l0_1, ())) (K (.exit 0))) n v.1.2.2.2.2.2.2.1 v.2.2.1
def y4o (av : AV) (x : HP z0w.ps) : Hdl (CR z0w) := hnd [] y5k (w16 av x)
theorem w24 : LP z0w Tryz.f115 [0] y4o := lp_ok (W := []) (H := []) (xs := [y2p]) y0o trivial rfl (fun av x v K => by kernel_rfl) (fun av x n v K => by kernel_rfl)
def y5l : Tmpl := ⟨[(4, .c (.bx 4 0)), (10, .c (.ref 31)), (53, .c (.ref 53)), (54, .c .i), (55, .c .i)], [(4, .boxT (.s .net)), (31, .arr .I true), (53, .arr .I true)]⟩
def y2q : Tmpl := ⟨[(4, .c (.bx 4 0)), (10, .c (.ref 31))], [(4, .boxT (.s .net)), (31, .arr .I true)]⟩
def w17 (av : AV) (x : HP z0w.ps) (n : Nat) (v : y5l.den) (K : Ks (CR z0w)) : Option (CR z0w) := z58 v.2.2.2.1 v.1.2.2.2.1 (fun l1_1 => y2q.at none (((), (), ()), (v.2.1, l1_1, ())) (K (.exit 2))) n v.1.2.2.2.2.1 v.2.2.1
def y4p (av : AV) (x : HP z0w.ps) : Hdl (CR z0w) := hnd [] y5l (w17 av x)
theorem w25 : LP z0w Tryz.f115 [1] y4p := lp_ok (W := []) (H := []) (xs := [y2q]) y0o trivial rfl (fun av x v K => by kernel_rfl) (fun av x n v K => by kernel_rfl)
theorem w8z : z0w.Ok Tryz.prog := fn_ok (k := z0w) (fn := Tryz.f115) (W := []) (H := [y4o, y4p]) Tryz.func115 y0o ⟨w24, w25, trivial⟩ rfl rfl (fun av x => by kernel_rfl)
def y12 (n : Int) : Option Bool := (z0c n 0 7).bind fun x1 => (some (!x1))
def y19 : FCon := ⟨119, .I, [], fun z c => y12 z ⟩
def w7c : Fs := ⟨[z20], [], []⟩
theorem w83 : w7c.Ok Tryz.prog := (fsK z2q fs0)
theorem w91 : y19.Ok Tryz.prog := FCon.ok (fn_ok (k := y19.con) (fn := Tryz.f119) (W := []) (H := []) Tryz.func119 w83 trivial rfl rfl (fun av x => by kernel_rfl))
def zb6 (people : List Int) : Option Bool := (z0c (people.length : Int) 1 4).bind fun x1 => (if x1 = true then ((z2f people (fun z => y12 z )).bind fun x3 => (some (!x3))) else (some false))
def zn4 : Con := ⟨50, [.v (.sl .I) false], [(.B, true)], [], fun x => zb6 x.1⟩
def ws6 : Fs := ⟨[z20, z4o], [y19], []⟩
theorem wv3 : ws6.Ok Tryz.prog := (fsK z2q (fsK z7w (fsF w91 fs0)))
theorem y8r : zn4.Ok Tryz.prog := fn_ok (k := zn4) (fn := Tryz.f50) (W := []) (H := []) Tryz.func50 wv3 trivial rfl rfl (fun av x => by kernel_rfl)
def zs6 (people : List Int) (who : Int) (role : Int) : Option Bool := (zb6 people).bind fun x1 => (if x1 = true then ((z0c who 1 (people.length : Int)).bind fun x3 => (if x3 = true then ((zf0 role).bind fun x5 => (if x5 = true then (gd (ok64 (who - 1)) ((getI people (who - 1)).bind fun x8 => (gd (ok64 (role - 1)) (gd ((0 : Int) ≤ (role - 1) ∧ (role - 1) ≤ (63 : Int)) (some (decide ((andI (shrI x8 (role - 1)) 1) = 1))))))) else (some false))) else (some false))) else (some false))
def y3p : Con := ⟨80, [.v (.sl .I) false, .v .I false, .v .I false], [(.B, true)], [], fun x => zs6 x.1 x.2.1 x.2.2.1⟩
def wd1 : Fs := ⟨[zn4, z20, zr7], [], []⟩
theorem wh2 : wd1.Ok Tryz.prog := (fsK y8r (fsK z2q (fsK yr3 fs0)))
theorem wl5 : y3p.Ok Tryz.prog := fn_ok (k := y3p) (fn := Tryz.f80) (W := []) (H := []) Tryz.func80 wh2 trivial rfl rfl (fun av x => by kernel_rfl)
def zs5 (did : List GDid) (who : Int) (task : Int) : Option Bool := (zw2 did (GDid.mk task who)).bind fun x1 => (some x1)
def y3o : Con := ⟨109, [.v (.sl (.s .did)) false, .v .I false, .v .I false], [(.B, true)], [], fun x => zs5 x.1 x.2.1 x.2.2.1⟩
def wd0 : Fs := ⟨[zv9], [], []⟩
theorem wh1 : wd0.Ok Tryz.prog := (fsK w5k fs0)
theorem wl4 : y3o.Ok Tryz.prog := fn_ok (k := y3o) (fn := Tryz.f109) (W := []) (H := []) Tryz.func109 wh1 trivial rfl rfl (fun av x => by kernel_rfl)
def zk3 (l0_1 : List Int) : Option (List Int) := some l0_1
def z3k (p : Int → Option Bool) (p0_0 : Int) (kx0_0 : List Int → Option (List Int)) : Nat → Int → List Int → Option (List Int)
  | 0, _, _ => none
  | n0 + 1, s0_0, l0_1 => if decide (s0_0 < p0_0) = true then (gd (ok64 (s0_0 + 1)) ((p (s0_0 + 1)).bind fun x5 => (if x5 = true then (gd (ok64 (s0_0 + 1)) (gd (l0_1.length + [(s0_0 + 1)].length ≤ SMALL) (gd (ok64 (s0_0 + 1)) ((z3k p p0_0 kx0_0 n0) (s0_0 + 1) (l0_1 ++ [(s0_0 + 1)]))))) else (gd (ok64 (s0_0 + 1)) ((z3k p p0_0 kx0_0 n0) (s0_0 + 1) l0_1))))) else (kx0_0 l0_1)
def y13 (people : List Int) (p : Int → Option Bool) : Option (List Int) := (zb6 people).bind fun x1 => (if x1 = true then (z3k p (people.length : Int) zk3 FUEL 0 ([] : List Int)) else (some []))
def z2s : Con := ⟨105, [.v (.sl .I) false, .fn .I], [((.sl .I), true)], [], fun x => y13 x.1 x.2.1⟩
def w7g : Fs := ⟨[zn4], [], []⟩
theorem ye0 : w7g.Ok Tryz.prog := (fsK y8r fs0)
def y5p : Tmpl := ⟨[(1, .c .fp), (5, .c (.ref 500005)), (11, .c .i), (12, .c .i)], [(500005, .arr .I true)]⟩
def y2u : Tmpl := ⟨[(5, .c (.ref 500005))], [(500005, .arr .I true)]⟩
def w1b (av : AV) (x : HP z2s.ps) (n : Nat) (v : y5p.den) (K : Ks (CR z2s)) : Option (CR z2s) := z3k x.2.1 v.1.2.2.1 (fun l0_1 => y2u.at (fpOf z2s.ps x av) (((), ()), (l0_1, ())) (K (.exit 0))) n v.1.2.2.2.1 v.2.1
def y4t (av : AV) (x : HP z2s.ps) : Hdl (CR z2s) := hnd [.e 5 500005 .I] y5p (w1b av x)
theorem w29 : LP z2s Tryz.f105 [0] y4t := lp_ok (W := []) (H := []) (xs := [y2u]) ye0 trivial rfl (fun av x v K => by kernel_rfl) (fun av x n v K => by kernel_rfl)
theorem w94 : z2s.Ok Tryz.prog := fn_ok (k := z2s) (fn := Tryz.f105) (W := []) (H := [y4t]) Tryz.func105 ye0 ⟨w29, trivial⟩ rfl rfl (fun av x => by kernel_rfl)
def zk1 (b : GItem) (task : GTask) (who : Int) : Option Bool := if decide (b.task = task.apart) = true then (some (decide (b.who = who))) else (some false)
def zk7 : FCon := ⟨108, (.s .item), [(.s .task), .I], fun z c => zk1 z c.1 c.2.1⟩
def yw4 : Fs := ⟨[], [], []⟩
theorem yx1 : yw4.Ok Tryz.prog := fs0
theorem yz5 : zk7.Ok Tryz.prog := FCon.ok (fn_ok (k := zk7.con) (fn := Tryz.f108) (W := []) (H := []) Tryz.func108 yx1 trivial rfl rfl (fun av x => by kernel_rfl))
def z8j (who : Int) (busy : List GItem) (task : GTask) (people : List Int) (did : List GDid) : Option Bool := (z6h busy (fun z => zk1 z task who)).bind fun x1 => ((zs6 people who task.role).bind fun x2 => (if x2 = true then (if x1 = true then (some false) else ((zs5 did who task.apart).bind fun x5 => (some (!x5)))) else (some false)))
def zx0 : FCon := ⟨106, .I, [(.sl (.s .item)), (.s .task), (.sl .I), (.sl (.s .did))], fun z c => z8j z c.1 c.2.1 c.2.2.1 c.2.2.2.1⟩
def w42 : Fs := ⟨[z9e, y3p, y3o], [zk7], []⟩
theorem w4n : w42.Ok Tryz.prog := (fsK yd4 (fsK wl5 (fsK wl4 (fsF yz5 fs0))))
theorem w5n : zx0.Ok Tryz.prog := FCon.ok (fn_ok (k := zx0.con) (fn := Tryz.f106) (W := []) (H := []) Tryz.func106 w4n trivial rfl rfl (fun av x => by kernel_rfl))
def zs7 (n : GNet) (people : List Int) (did : List GDid) (busy : List GItem) (t : Int) : Option (List Int) := (z8i n).bind fun x1 => (if x1 = true then ((z0o n t).bind fun x3 => (if x3 = true then ((getI n.tasks t).bind fun x5 => ((y13 people (fun z => z8j z busy x5 people did)).bind fun x6 => (some x6))) else (some []))) else (some []))
def y3q : Con := ⟨35, [.v (.s .net) false, .v (.sl .I) false, .v (.sl (.s .did)) false, .v (.sl (.s .item)) false, .v .I false], [((.sl .I), true)], [], fun x => zs7 x.1 x.2.1 x.2.2.1 x.2.2.2.1 x.2.2.2.2.1⟩
def wd2 : Fs := ⟨[zb0, z1p, z2s], [zx0], []⟩
theorem wh3 : wd2.Ok Tryz.prog := (fsK y04 (fsK z4e (fsK w94 (fsF w5n fs0))))
theorem wl6 : y3q.Ok Tryz.prog := fn_ok (k := y3q) (fn := Tryz.f35) (W := []) (H := []) Tryz.func35 wh3 trivial rfl rfl (fun av x => by kernel_rfl)
def ze4 (n : GNet) (data : List Int) : Option GCase := (z8i n).bind fun x1 => (if x1 = true then ((z3a data).bind fun x3 => (if x3 = true then (gd ((0 : Int) ≤ n.places ∧ n.places ≤ (1000000000 : Int)) ((z0l data).bind fun x6 => ((getI (List.replicate n.places.toNat (0 : Int)) 0).bind fun x7 => (some (GCase.mk 1 ((List.replicate n.places.toNat (0 : Int)).set (0 : Int).toNat 1) [] x6 []))))) else (some (GCase.mk 0 [] [] [] [])))) else (some (GCase.mk 0 [] [] [] [])))
def y3m : Con := ⟨65, [.v (.s .net) false, .v (.sl .I) false], [((.s .kase), true)], [], fun x => ze4 x.1 x.2.1⟩
def wc8 : Fs := ⟨[zb0, z55, z1t], [], []⟩
theorem wg9 : wc8.Ok Tryz.prog := (fsK y04 (fsK z77 (fsK z3f fs0)))
theorem wl2 : y3m.Ok Tryz.prog := fn_ok (k := y3m) (fn := Tryz.f65) (W := []) (H := []) Tryz.func65 wg9 trivial rfl rfl (fun av x => by kernel_rfl)
def ze5 (c : GCase) : Option Bool := if decide (c.state = 1) = true then ((getI c.marks 1).bind fun x16 => (some (decide (x16 = 0)))) else (if decide (c.state = 2) = true then (if decide ((c.busy.length : Int) = 0) = true then ((getI c.marks 1).bind fun x19 => (some ((decide (c.state = 2)) == (decide (0 < x19))))) else (some false)) else (if decide (c.state = 3) = true then (if decide ((c.busy.length : Int) = 0) = true then ((getI c.marks 1).bind fun x22 => (some ((decide (c.state = 2)) == (decide (0 < x22))))) else (some false)) else (some false)))
def z6n (n : GNet) (p0_0 : List GDid) (p0_1 : Int) (kx0_0 : Option Bool) : Nat → Int → Option Bool
  | 0, _ => none
  | n0 + 1, s0_0 => if decide (s0_0 < p0_1) = true then ((getI p0_0 s0_0).bind fun x9 => ((z0o n x9.task).bind fun x10 => (if x10 = true then ((z8l x9.who).bind fun x12 => (if x12 = true then (gd (ok64 (s0_0 + 1)) ((z6n n p0_0 p0_1 kx0_0 n0) (s0_0 + 1))) else (some false))) else (some false)))) else (kx0_0)
def zn5 (n : GNet) (c : GCase) : Option Bool := (zb5 n c.marks).bind fun x1 => (if x1 = true then ((z4t n c.busy).bind fun x3 => (if x3 = true then ((z3a c.data).bind fun x5 => (if x5 = true then (if decide (60 < (c.did.length : Int)) = true then (some false) else (z6n n c.did (c.did.length : Int) (ze5 c) FUEL 0)) else (some false))) else (some false))) else (some false))
def z54 : Con := ⟨30, [.v (.s .net) false, .v (.s .kase) false], [(.B, true)], [], fun x => zn5 x.1 x.2.1⟩
def wr9 : Fs := ⟨[zn3, z0s, z55, z1p, zd9], [], []⟩
theorem w08 : wr9.Ok Tryz.prog := (fsK y8o (fsK zq3 (fsK z77 (fsK z4e (fsK y8t fs0)))))
def yh4 : Tmpl := ⟨[(2, .c (.bx 2 0)), (3, .c (.bx 3 0)), (32, .c (.s (.s .did))), (33, .c .i), (34, .c .i)], [(2, .boxT (.s .net)), (3, .boxT (.s .kase))]⟩
def y9o : Tmpl := ⟨[(3, .c (.bx 3 0))], [(3, .boxT (.s .kase))]⟩
def w6p (av : AV) (x : HP z54.ps) (n : Nat) (v : yh4.den) (K : Ks (CR z54)) : Option (CR z54) := z6n v.2.1 v.1.2.2.1 v.1.2.2.2.1 (y9o.at none (((), ()), (v.2.2.1, ())) (K (.exit 0))) n v.1.2.2.2.2.1
def ye9 (av : AV) (x : HP z54.ps) : Hdl (CR z54) := hnd [] yh4 (w6p av x)
theorem w8e : LP z54 Tryz.f30 [0] ye9 := lp_ok (W := []) (H := []) (xs := [y9o]) w08 trivial rfl (fun av x v K => by kernel_rfl) (fun av x n v K => by kernel_rfl)
theorem w0u : z54.Ok Tryz.prog := fn_ok (k := z54) (fn := Tryz.f30) (W := []) (H := [ye9]) Tryz.func30 w08 ⟨w8e, trivial⟩ rfl rfl (fun av x => by kernel_rfl)
def z81 (n : GNet) (c : GCase) : Option Bool := (zn5 n c).bind fun x1 => (if x1 = true then (some (decide (c.state = 1))) else (some false))
def z9m : Con := ⟨85, [.v (.s .net) false, .v (.s .kase) false], [(.B, true)], [], fun x => z81 x.1 x.2.1⟩
def w7h : Fs := ⟨[z54], [], []⟩
theorem w85 : w7h.Ok Tryz.prog := (fsK w0u fs0)
theorem y15 : z9m.Ok Tryz.prog := fn_ok (k := z9m) (fn := Tryz.f85) (W := []) (H := []) Tryz.func85 w85 trivial rfl rfl (fun av x => by kernel_rfl)
def ze6 (n : GNet) (people : List Int) (c : GCase) (t : Int) (who : Int) : Option (GCase × Bool) := (z08 c).bind fun x1 => ((z81 n c).bind fun x2 => (if x2 = true then (if decide ((c.busy.length : Int) = 6) = true then (some (x1, false)) else ((zs4 n c.marks c.busy t).bind fun x5 => (if x5 = true then ((zs7 n people c.did c.busy t).bind fun x7 => ((zb2 x7 who).bind fun x8 => (if x8 = true then ((z87 n c.marks t).bind fun x10 => (gd (x1.busy.length + [(GItem.mk t who 0)].length ≤ SMALL) ((z08 (GCase.mk x1.state x10 (x1.busy ++ [(GItem.mk t who 0)]) x1.data x1.did)).bind fun x12 => (some (x12, true))))) else (some (x1, false))))) else (some (x1, false))))) else (some (x1, false))))
def zw0 : Con := ⟨27, [.v (.s .net) false, .v (.sl .I) false, .v (.s .kase) false, .v .I false, .v .I false], [((.s .kase), true), (.B, true)], [], fun x => ze6 x.1 x.2.1 x.2.2.1 x.2.2.2.1 x.2.2.2.2.1⟩
def w3z : Fs := ⟨[z32, z9m, y3n, y3q, zn1, z1h], [], []⟩
theorem w4k : w3z.Ok Tryz.prog := (fsK z6l (fsK y15 (fsK wl3 (fsK wl6 (fsK y8l (fsK yr2 fs0))))))
theorem w5l : zw0.Ok Tryz.prog := fn_ok (k := zw0) (fn := Tryz.f27) (W := []) (H := []) Tryz.func27 w4k trivial rfl rfl (fun av x => by kernel_rfl)
end
end Go.Am
