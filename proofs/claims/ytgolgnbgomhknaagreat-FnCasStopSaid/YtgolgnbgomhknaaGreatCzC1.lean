/- Mirrors and contracts, printed. Own work. -/
import Derived.Test.YtgolgnbgomhknaaGreatCzB5
set_option linter.unusedSimpArgs false
set_option maxRecDepth 100000
set_option maxHeartbeats 4000000
set_option linter.unusedVariables false
namespace Go.Am
noncomputable section
open Go Go.Proofs
def z005 (n : Int) (low : Int) (high : Int) : Option Bool := if decide (low ≤ n) = true then (some (decide (n ≤ high))) else (some false)
def z00w : Con := ⟨90, [.v .I false, .v .I false, .v .I false], [(.B, true)], [], fun x => z005 x.1 x.2.1 x.2.2.1⟩
def z0z0 : Fs := ⟨[], [], []⟩
theorem z0z2 : z0z0.Ok Tryz.prog := fs0
theorem z01d : z00w.Ok Tryz.prog := fn_ok (k := z00w) (fn := Tryz.f90) (W := []) (H := []) Tryz.func90 z0z2 trivial rfl rfl (fun av x => by kernel_rfl)
def z0gd  : Option Bool := some true
def z03y (data : List Int) (kx0_0 : Option Bool) : Nat → Int → Option Bool
  | 0, _ => none
  | n0 + 1, s0_0 => if decide (s0_0 < (data.length : Int)) = true then ((getI data s0_0).bind fun x3 => ((z005 x3 (-99) 99).bind fun x4 => (if x4 = true then (gd (ok64 (s0_0 + 1)) ((z03y data kx0_0 n0) (s0_0 + 1))) else (some false)))) else (kx0_0)
def z04d (data : List Int) : Option Bool := if decide ((data.length : Int) = 3) = true then (z03y data z0gd FUEL 0) else (some false)
def z01j : Con := ⟨89, [.v (.sl .I) false], [(.B, true)], [], fun x => z04d x.1⟩
def z0vy : Fs := ⟨[z00w], [], []⟩
theorem z0m7 : z0vy.Ok Tryz.prog := (fsK z01d fs0)
def z0j4 : Tmpl := ⟨[(0, .c (.s .I)), (3, .c .i)], []⟩
def z0gx : Tmpl := ⟨[], []⟩
def z0q3 (av : AV) (x : HP z01j.ps) (n : Nat) (v : z0j4.den) (K : Ks (CR z01j)) : Option (CR z01j) := z03y v.1.1 (z0gx.at none ((), ()) (K (.exit 0))) n v.1.2.1
def z0i9 (av : AV) (x : HP z01j.ps) : Hdl (CR z01j) := hnd [] z0j4 (z0q3 av x)
theorem z0rl : LP z01j Tryz.f89 [0] z0i9 := lp_ok (W := []) (H := []) (xs := [z0gx]) z0m7 trivial rfl (fun av x v K => by kernel_rfl) (fun av x n v K => by kernel_rfl)
theorem z093 : z01j.Ok Tryz.prog := fn_ok (k := z01j) (fn := Tryz.f89) (W := []) (H := [z0i9]) Tryz.func89 z0m7 ⟨z0rl, trivial⟩ rfl rfl (fun av x => by kernel_rfl)
def z09u (data : List Int) (k : Int) (n : Int) : Option (List Int) := (z04d data).bind fun x1 => (if x1 = true then ((z005 k 0 2).bind fun x3 => (if x3 = true then ((z005 n (-99) 99).bind fun x5 => (if x5 = true then (gd (([] : List Int).length + data.length ≤ SMALL) ((getI (([] : List Int) ++ data) k).bind fun x8 => (some ((([] : List Int) ++ data).set k.toNat n)))) else (gd (([] : List Int).length + data.length ≤ SMALL) (some (([] : List Int) ++ data))))) else (gd (([] : List Int).length + data.length ≤ SMALL) (some (([] : List Int) ++ data))))) else (gd (([] : List Int).length + data.length ≤ SMALL) (some (([] : List Int) ++ data))))
def z0eb : Con := ⟨171, [.v (.sl .I) false, .v .I false, .v .I false], [((.sl .I), true)], [], fun x => z09u x.1 x.2.1 x.2.2.1⟩
def z0tc : Fs := ⟨[z01j, z00w], [], []⟩
theorem z0tx : z0tc.Ok Tryz.prog := (fsK z093 (fsK z01d fs0))
theorem z0um : z0eb.Ok Tryz.prog := fn_ok (k := z0eb) (fn := Tryz.f171) (W := []) (H := []) Tryz.func171 z0tx trivial rfl rfl (fun av x => by kernel_rfl)
def z06m (e : GAsk) : Option Bool := if decide (e.op = 0) = true then (some (decide ([e.op, e.var, e.k] = [0, 0, 0]))) else ((z005 e.op 1 3).bind fun x2 => (if x2 = true then ((z005 e.var 0 2).bind fun x4 => (if x4 = true then ((z005 e.k (-99) 99).bind fun x6 => (some x6)) else (some false))) else (some false)))
def z0bj : Con := ⟨138, [.v (.s .ask) false], [(.B, true)], [], fun x => z06m x.1⟩
def z0vz : Fs := ⟨[z00w], [], []⟩
theorem z0wc : z0vz.Ok Tryz.prog := (fsK z01d fs0)
theorem z0nf : z0bj.Ok Tryz.prog := fn_ok (k := z0bj) (fn := Tryz.f138) (W := []) (H := []) Tryz.func138 z0wc trivial rfl rfl (fun av x => by kernel_rfl)
def z06x (e : GAsk) (data : List Int) : Option Bool := (z06m e).bind fun x1 => (if x1 = true then ((z04d data).bind fun x3 => (if x3 = true then (if decide (e.op = 1) = true then ((getI data e.var).bind fun x6 => (some (decide (x6 < e.k)))) else (if decide (e.op = 2) = true then ((getI data e.var).bind fun x8 => (some (decide (x8 = e.k)))) else (if decide (e.op = 3) = true then ((getI data e.var).bind fun x10 => (some (decide (e.k < x10)))) else (some true)))) else (some false))) else (some false))
def z0ac : Con := ⟨181, [.v (.s .ask) false, .v (.sl .I) false], [(.B, true)], [], fun x => z06x x.1 x.2.1⟩
def z0oi : Fs := ⟨[z0bj, z01j], [], []⟩
theorem z0os : z0oi.Ok Tryz.prog := (fsK z0nf (fsK z093 fs0))
theorem z0p8 : z0ac.Ok Tryz.prog := fn_ok (k := z0ac) (fn := Tryz.f181) (W := []) (H := []) Tryz.func181 z0os trivial rfl rfl (fun av x => by kernel_rfl)
def z016 (n : Int) (low : Int) (high : Int) : Option Bool := if decide (low ≤ n) = true then (some (decide (n ≤ high))) else (some false)
def z02z : Con := ⟨113, [.v .I false, .v .I false, .v .I false], [(.B, true)], [], fun x => z016 x.1 x.2.1 x.2.2.1⟩
def z12w : Fs := ⟨[], [], []⟩
theorem z131 : z12w.Ok Tryz.prog := fs0
theorem z03s : z02z.Ok Tryz.prog := fn_ok (k := z02z) (fn := Tryz.f113) (W := []) (H := []) Tryz.func113 z131 trivial rfl rfl (fun av x => by kernel_rfl)
def z05s (n : Int) : Option Bool := (z016 n (-99) 99).bind fun x1 => (some x1)
def z082 : Con := ⟨114, [.v .I false], [(.B, true)], [], fun x => z05s x.1⟩
def z0qj : Fs := ⟨[z02z], [], []⟩
theorem z0r7 : z0qj.Ok Tryz.prog := (fsK z03s fs0)
theorem z0iq : z082.Ok Tryz.prog := fn_ok (k := z082) (fn := Tryz.f114) (W := []) (H := []) Tryz.func114 z0r7 trivial rfl rfl (fun av x => by kernel_rfl)
def z03f (list : List Int) : Option (List Int) := gd (([] : List Int).length + list.length ≤ SMALL) (some (([] : List Int) ++ list))
def z05o : Con := ⟨140, [.v (.sl .I) false], [((.sl .I), true)], [], fun x => z03f x.1⟩
def z0ls : Fs := ⟨[], [], []⟩
theorem z0m3 : z0ls.Ok Tryz.prog := fs0
theorem z0eq : z05o.Ok Tryz.prog := fn_ok (k := z05o) (fn := Tryz.f140) (W := []) (H := []) Tryz.func140 z0m3 trivial rfl rfl (fun av x => by kernel_rfl)
def z08t (e : GAsk) : Option Bool := if decide (e.op = 0) = true then (if decide (e.var = 0) = true then (some (decide (e.k = 0))) else (some false)) else ((z016 e.op 1 3).bind fun x3 => (if x3 = true then ((z016 e.var 0 2).bind fun x5 => (if x5 = true then ((z05s e.k).bind fun x7 => (some x7)) else (some false))) else (some false)))
def z0hc : Con := ⟨141, [.v (.s .ask) false], [(.B, true)], [], fun x => z08t x.1⟩
def z0vs : Fs := ⟨[z02z, z082], [], []⟩
theorem z0w8 : z0vs.Ok Tryz.prog := (fsK z03s (fsK z0iq fs0))
theorem z0wm : z0hc.Ok Tryz.prog := fn_ok (k := z0hc) (fn := Tryz.f141) (W := []) (H := []) Tryz.func141 z0w8 trivial rfl rfl (fun av x => by kernel_rfl)
def z0cl  : Option Bool := some true
def z023 (list : List Int) (low : Int) (high : Int) (kx0_0 : Option Bool) : Nat → Int → Option Bool
  | 0, _ => none
  | n0 + 1, s0_0 => if decide (s0_0 < (list.length : Int)) = true then ((getI list s0_0).bind fun x4 => ((z005 x4 low high).bind fun x5 => (if x5 = true then (if decide (0 < s0_0) = true then (gd (ok64 (s0_0 - 1)) ((getI list (s0_0 - 1)).bind fun x9 => ((getI list s0_0).bind fun x10 => (if decide (x10 ≤ x9) = true then (some false) else (gd (ok64 (s0_0 + 1)) ((z023 list low high kx0_0 n0) (s0_0 + 1))))))) else (gd (ok64 (s0_0 + 1)) ((z023 list low high kx0_0 n0) (s0_0 + 1)))) else (some false)))) else (kx0_0)
def z05x (list : List Int) (least : Int) (most : Int) (low : Int) (high : Int) : Option Bool := (z005 (list.length : Int) least most).bind fun x1 => (if x1 = true then (z023 list low high z0cl FUEL 0) else (some false))
def z02c : Con := ⟨214, [.v (.sl .I) false, .v .I false, .v .I false, .v .I false, .v .I false], [(.B, true)], [], fun x => z05x x.1 x.2.1 x.2.2.1 x.2.2.2.1 x.2.2.2.2.1⟩
def z0qy : Fs := ⟨[z00w], [], []⟩
theorem z0i4 : z0qy.Ok Tryz.prog := (fsK z01d fs0)
def z0f3 : Tmpl := ⟨[(0, .c (.s .I)), (3, .c .i), (4, .c .i), (11, .c .i)], []⟩
def z0d4 : Tmpl := ⟨[], []⟩
def z0lm (av : AV) (x : HP z02c.ps) (n : Nat) (v : z0f3.den) (K : Ks (CR z02c)) : Option (CR z02c) := z023 v.1.1 v.1.2.1 v.1.2.2.1 (z0d4.at none ((), ()) (K (.exit 0))) n v.1.2.2.2.1
def z0e1 (av : AV) (x : HP z02c.ps) : Hdl (CR z02c) := hnd [] z0f3 (z0lm av x)
theorem z0n1 : LP z02c Tryz.f214 [0] z0e1 := lp_ok (W := []) (H := []) (xs := [z0d4]) z0i4 trivial rfl (fun av x v K => by kernel_rfl) (fun av x n v K => by kernel_rfl)
theorem z0sc : z02c.Ok Tryz.prog := fn_ok (k := z02c) (fn := Tryz.f214) (W := []) (H := [z0e1]) Tryz.func214 z0i4 ⟨z0n1, trivial⟩ rfl rfl (fun av x => by kernel_rfl)
def z0gh  : Option Bool := some false
def z042 (list : List Int) (n : Int) (kx0_0 : Option Bool) : Nat → Int → Option Bool
  | 0, _ => none
  | n0 + 1, s0_0 => if decide (s0_0 < (list.length : Int)) = true then ((getI list s0_0).bind fun x2 => (if decide (x2 = n) = true then (some true) else (gd (ok64 (s0_0 + 1)) ((z042 list n kx0_0 n0) (s0_0 + 1))))) else (kx0_0)
def z06n (list : List Int) (n : Int) : Option Bool := z042 list n z0gh FUEL 0
def z02p : Con := ⟨101, [.v (.sl .I) false, .v .I false], [(.B, true)], [], fun x => z06n x.1 x.2.1⟩
def z0w4 : Fs := ⟨[], [], []⟩
theorem z0me : z0w4.Ok Tryz.prog := fs0
def z0j9 : Tmpl := ⟨[(0, .c (.s .I)), (1, .c .i), (5, .c .i)], []⟩
def z0h1 : Tmpl := ⟨[], []⟩
def z0q8 (av : AV) (x : HP z02p.ps) (n : Nat) (v : z0j9.den) (K : Ks (CR z02p)) : Option (CR z02p) := z042 v.1.1 v.1.2.1 (z0h1.at none ((), ()) (K (.exit 0))) n v.1.2.2.1
def z0ie (av : AV) (x : HP z02p.ps) : Hdl (CR z02p) := hnd [] z0j9 (z0q8 av x)
theorem z0rq : LP z02p Tryz.f101 [0] z0ie := lp_ok (W := []) (H := []) (xs := [z0h1]) z0me trivial rfl (fun av x v K => by kernel_rfl) (fun av x n v K => by kernel_rfl)
theorem z0hk : z02p.Ok Tryz.prog := fn_ok (k := z02p) (fn := Tryz.f101) (W := []) (H := [z0ie]) Tryz.func101 z0me ⟨z0rq, trivial⟩ rfl rfl (fun av x => by kernel_rfl)
def z0ci (s0_0 : Int) (bk0 : Int → Option Bool) : Option Bool := gd (ok64 (s0_0 + 1)) (bk0 (s0_0 + 1))
def z01i (t : GTask) (s0_0 : Int) (x4 : GFlow) (kx1_0 : Option Bool) : Nat → Int → Option Bool
  | 0, _ => none
  | n1 + 1, s1_0 => if decide (s1_0 < s0_0) = true then ((getI t.out s1_0).bind fun x14 => (if decide (x14.to = x4.to) = true then (some false) else (gd (ok64 (s1_0 + 1)) ((z01i t s0_0 x4 kx1_0 n1) (s1_0 + 1))))) else (kx1_0)
def z0cj (s0_0 : Int) (bk0 : Int → Option Bool) : Option Bool := gd (ok64 (s0_0 + 1)) (bk0 (s0_0 + 1))
def z0ck  : Option Bool := some true
def z022 (t : GTask) (places : Int) (kx0_0 : Option Bool) : Nat → Int → Option Bool
  | 0, _ => none
  | n0 + 1, s0_0 => if decide (s0_0 < (t.out.length : Int)) = true then ((getI t.out s0_0).bind fun x4 => (gd (ok64 ((t.out.length : Int) - 1)) (if decide (s0_0 = ((t.out.length : Int) - 1)) = true then (gd (ok64 (places - 1)) ((z005 x4.to 1 (places - 1)).bind fun x8 => (if x8 = true then ((z06m x4.if_).bind fun x10 => (if x10 = true then (if (true == (decide (x4.if_.op = 0))) = true then (z01i t s0_0 x4 (z0ci s0_0 (z022 t places kx0_0 n0)) FUEL 0) else (some false)) else (some false))) else (some false)))) else (gd (ok64 (places - 1)) ((z005 x4.to 1 (places - 1)).bind fun x19 => (if x19 = true then ((z06m x4.if_).bind fun x21 => (if x21 = true then (if ((decide (t.split = 1)) == (decide (x4.if_.op = 0))) = true then (z01i t s0_0 x4 (z0cj s0_0 (z022 t places kx0_0 n0)) FUEL 0) else (some false)) else (some false))) else (some false))))))) else (kx0_0)
def z08c (t : GTask) (places : Int) : Option Bool := (z005 (t.out.length : Int) 1 3).bind fun x1 => (if x1 = true then (z022 t places z0ck FUEL 0) else (some false))
def z00m : Con := ⟨215, [.v (.s .task) false, .v .I false], [(.B, true)], [], fun x => z08c x.1 x.2.1⟩
def z0qx : Fs := ⟨[z00w, z0bj], [], []⟩
theorem z0b7 : z0qx.Ok Tryz.prog := (fsK z01d (fsK z0nf fs0))
def z0av : Tmpl := ⟨[(1, .c .i), (2, .c (.bx 2 0)), (5, .c .i), (6, .c (.bx 6 0)), (8, .c .i)], [(2, .boxT (.s .task)), (6, .boxT (.s .flow))]⟩
def z0a8 : Tmpl := ⟨[(1, .c .i), (2, .c (.bx 2 0)), (5, .c .i)], [(2, .boxT (.s .task))]⟩
def z0jc (av : AV) (x : HP z00m.ps) (n : Nat) (v : z0av.den) (K : Ks (CR z00m)) : Option (CR z00m) := z01i v.2.1 v.1.2.2.1 v.2.2.1 (z0a8.at none ((v.1.1, (), v.1.2.2.1, ()), (v.2.1, ())) (K (.exit 2))) n v.1.2.2.2.2.1
def z0am (av : AV) (x : HP z00m.ps) : Hdl (CR z00m) := hnd [] z0av (z0jc av x)
theorem z0jj : LP z00m Tryz.f215 [0, 0] z0am := lp_ok (W := []) (H := []) (xs := [z0a8]) z0b7 trivial rfl (fun av x v K => by kernel_rfl) (fun av x n v K => by kernel_rfl)
def z0f2 : Tmpl := ⟨[(1, .c .i), (2, .c (.bx 2 0)), (5, .c .i)], [(2, .boxT (.s .task))]⟩
def z0d3 : Tmpl := ⟨[], []⟩
def z0ll (av : AV) (x : HP z00m.ps) (n : Nat) (v : z0f2.den) (K : Ks (CR z00m)) : Option (CR z00m) := z022 v.2.1 v.1.1 (z0d3.at none ((), ()) (K (.exit 0))) n v.1.2.2.1
def z0e0 (av : AV) (x : HP z00m.ps) : Hdl (CR z00m) := hnd [] z0f2 (z0ll av x)
theorem z0n0 : LP z00m Tryz.f215 [0] z0e0 := lp_ok (W := []) (H := [z0am]) (xs := [z0d3]) z0b7 ⟨z0jj, trivial⟩ rfl (fun av x v K => by kernel_rfl) (fun av x n v K => by kernel_rfl)
theorem z0sb : z00m.Ok Tryz.prog := fn_ok (k := z00m) (fn := Tryz.f215) (W := []) (H := [z0e0]) Tryz.func215 z0b7 ⟨z0n0, trivial⟩ rfl rfl (fun av x => by kernel_rfl)
def z09y (t : GTask) (places : Int) (tasks : Int) : Option Bool := (z005 t.join 1 3).bind fun x1 => (if x1 = true then ((z005 t.split 1 3).bind fun x3 => (if x3 = true then (gd (ok64 (places - 1)) ((z05x t.in_ 1 3 0 (places - 1)).bind fun x6 => (if x6 = true then ((z06n t.in_ 1).bind fun x8 => (if x8 = true then (some false) else ((z08c t places).bind fun x10 => (if x10 = true then (gd (ok64 (places - 1)) ((z05x t.clear 0 places 2 (places - 1)).bind fun x13 => (if x13 = true then ((z005 t.role 1 3).bind fun x15 => (if x15 = true then (gd (ok64 (tasks - 1)) ((z005 t.apart (-1) (tasks - 1)).bind fun x18 => (if x18 = true then ((z005 t.all 1 3).bind fun x20 => (if x20 = true then ((z005 t.need 1 t.all).bind fun x22 => (some x22)) else (some false))) else (some false)))) else (some false))) else (some false)))) else (some false))))) else (some false)))) else (some false))) else (some false))
def z0ed : Con := ⟨198, [.v (.s .task) false, .v .I false, .v .I false], [(.B, true)], [], fun x => z09y x.1 x.2.1 x.2.2.1⟩
def z0tj : Fs := ⟨[z00w, z02c, z02p, z00m], [], []⟩
theorem z0u1 : z0tj.Ok Tryz.prog := (fsK z01d (fsK z0sc (fsK z0hk (fsK z0sb fs0))))
theorem z0uq : z0ed.Ok Tryz.prog := fn_ok (k := z0ed) (fn := Tryz.f198) (W := []) (H := []) Tryz.func198 z0u1 trivial rfl rfl (fun av x => by kernel_rfl)
def z0gf  : Option Bool := some true
def z040 (n : GNet) (kx0_0 : Option Bool) : Nat → Int → Option Bool
  | 0, _ => none
  | n0 + 1, s0_0 => if decide (s0_0 < (n.tasks.length : Int)) = true then ((getI n.tasks s0_0).bind fun x6 => ((z09y x6 n.places (n.tasks.length : Int)).bind fun x7 => (if x7 = true then (gd (ok64 (s0_0 + 1)) ((z040 n kx0_0 n0) (s0_0 + 1))) else (some false)))) else (kx0_0)
def z02r (n : GNet) : Option Bool := (z005 n.places 2 8).bind fun x1 => (if x1 = true then ((z005 (n.tasks.length : Int) 1 6).bind fun x3 => (if x3 = true then (z040 n z0gf FUEL 0) else (some false))) else (some false))
def z01x : Con := ⟨161, [.v (.s .net) false], [(.B, true)], [], fun x => z02r x.1⟩
def z0w1 : Fs := ⟨[z00w, z0ed], [], []⟩
theorem z0m9 : z0w1.Ok Tryz.prog := (fsK z01d (fsK z0uq fs0))
def z0j6 : Tmpl := ⟨[(1, .c (.bx 1 0)), (3, .c .i)], [(1, .boxT (.s .net))]⟩
def z0gz : Tmpl := ⟨[], []⟩
def z0q5 (av : AV) (x : HP z01x.ps) (n : Nat) (v : z0j6.den) (K : Ks (CR z01x)) : Option (CR z01x) := z040 v.2.1 (z0gz.at none ((), ()) (K (.exit 0))) n v.1.2.1
def z0ib (av : AV) (x : HP z01x.ps) : Hdl (CR z01x) := hnd [] z0j6 (z0q5 av x)
theorem z0rn : LP z01x Tryz.f161 [0] z0ib := lp_ok (W := []) (H := []) (xs := [z0gz]) z0m9 trivial rfl (fun av x v K => by kernel_rfl) (fun av x n v K => by kernel_rfl)
theorem z0bv : z01x.Ok Tryz.prog := fn_ok (k := z01x) (fn := Tryz.f161) (W := []) (H := [z0ib]) Tryz.func161 z0m9 ⟨z0rn, trivial⟩ rfl rfl (fun av x => by kernel_rfl)
def z06o (s1_0 : Int) (bk1 : Int → List Bool → Option (List Bool)) (l3_1 : List Bool) : Option (List Bool) := gd (ok64 (s1_0 + 1)) (bk1 (s1_0 + 1) l3_1)
def z06p (s1_0 : Int) (bk1 : Int → List Bool → Option (List Bool)) (l3_1 : List Bool) : Option (List Bool) := gd (ok64 (s1_0 + 1)) (bk1 (s1_0 + 1) l3_1)
def z06q (s1_0 : Int) (bk1 : Int → List Bool → Option (List Bool)) (l3_1 : List Bool) : Option (List Bool) := gd (ok64 (s1_0 + 1)) (bk1 (s1_0 + 1) l3_1)
def z010 (n : GNet) (but : Int) (s1_0 : Int) (s2_0 : Bool) (kx3_0 : List Bool → Option (List Bool)) (kx3_1 : List Bool → Option (List Bool)) (kx3_2 : List Bool → Option (List Bool)) : Nat → Int → List Bool → Option (List Bool)
  | 0, _, _ => none
  | n3 + 1, s3_0, l3_1 => (getI n.tasks s1_0).bind fun x12 => (if decide (s3_0 < (x12.out.length : Int)) = true then (if s2_0 = true then (if decide (s1_0 = but) = true then (kx3_0 l3_1) else ((getI n.tasks s1_0).bind fun x17 => ((getI x17.out s3_0).bind fun x18 => ((getI l3_1 x18.to).bind fun x19 => (gd (ok64 (s3_0 + 1)) ((z010 n but s1_0 s2_0 kx3_0 kx3_1 kx3_2 n3) (s3_0 + 1) (l3_1.set x18.to.toNat true))))))) else (kx3_1 l3_1)) else (kx3_2 l3_1))
def z0aq (n : GNet) (but : Int) (s1_0 : Int) (l1_1 : List Bool) (bk1 : Int → List Bool → Option (List Bool)) (s2_0 : Bool) : Option (List Bool) := z010 n but s1_0 s2_0 (z06o s1_0 bk1) (z06p s1_0 bk1) (z06q s1_0 bk1) FUEL 0 l1_1
def z019 (n : GNet) (s1_0 : Int) (l1_1 : List Bool) (kx2_0 : Bool → Option (List Bool)) : Nat → Bool → Int → Option (List Bool)
  | 0, _, _ => none
  | n2 + 1, s2_0, s2_1 => (getI n.tasks s1_0).bind fun x4 => (if decide (s2_1 < (x4.in_.length : Int)) = true then (if s2_0 = true then (gd (ok64 (s2_1 + 1)) ((z019 n s1_0 l1_1 kx2_0 n2) true (s2_1 + 1))) else ((getI n.tasks s1_0).bind fun x8 => ((getI x8.in_ s2_1).bind fun x9 => ((getI l1_1 x9).bind fun x10 => (gd (ok64 (s2_1 + 1)) ((z019 n s1_0 l1_1 kx2_0 n2) x10 (s2_1 + 1))))))) else (kx2_0 s2_0))
def z0ar (s0_0 : Int) (bk0 : Int → List Bool → Option (List Bool)) (l1_1 : List Bool) : Option (List Bool) := gd (ok64 (s0_0 + 1)) (bk0 (s0_0 + 1) l1_1)
def z00b (n : GNet) (but : Int) (kx1_0 : List Bool → Option (List Bool)) : Nat → Int → List Bool → Option (List Bool)
  | 0, _, _ => none
  | n1 + 1, s1_0, l1_1 => if decide (s1_0 < (n.tasks.length : Int)) = true then (z019 n s1_0 l1_1 (z0aq n but s1_0 l1_1 (z00b n but kx1_0 n1)) FUEL false 0) else (kx1_0 l1_1)
def z0as (l0_1 : List Bool) : Option (List Bool) := some l0_1
def z02j (n : GNet) (but : Int) (kx0_0 : List Bool → Option (List Bool)) : Nat → Int → List Bool → Option (List Bool)
  | 0, _, _ => none
  | n0 + 1, s0_0, l0_1 => if decide (s0_0 < n.places) = true then (z00b n but (z0ar s0_0 (z02j n but kx0_0 n0)) FUEL 0 l0_1) else (kx0_0 l0_1)
def z073 (n : GNet) (marked : List Bool) (but : Int) : Option (List Bool) := gd (([] : List Bool).length + marked.length ≤ SMALL) (z02j n but z0as FUEL 0 (([] : List Bool) ++ marked))
def z003 : Con := ⟨216, [.v (.s .net) false, .v (.sl .B) false, .v .I false], [((.sl .B), true)], [], fun x => z073 x.1 x.2.1 x.2.2.1⟩
def z0ol : Fs := ⟨[], [], []⟩
theorem z04p : z0ol.Ok Tryz.prog := fs0
def z07y : Tmpl := ⟨[(2, .c .i), (3, .c (.bx 3 0)), (7, .c (.ref 15)), (8, .c .i), (9, .c .i), (10, .c .b), (11, .c .i)], [(3, .boxT (.s .net)), (15, .arr .B true)]⟩
def z07j : Tmpl := ⟨[(2, .c .i), (3, .c (.bx 3 0)), (7, .c (.ref 15)), (8, .c .i), (9, .c .i), (10, .c .b)], [(3, .boxT (.s .net)), (15, .arr .B true)]⟩
def z0fk (av : AV) (x : HP z003.ps) (n : Nat) (v : z07y.den) (K : Ks (CR z003)) : Option (CR z003) := z019 v.2.1 v.1.2.2.2.2.1 v.2.2.1 (fun s2_0 => z07j.at none ((v.1.1, (), (), v.1.2.2.2.1, v.1.2.2.2.2.1, s2_0, ()), (v.2.1, v.2.2.1, ())) (K (.exit 4))) n v.1.2.2.2.2.2.1 v.1.2.2.2.2.2.2.1
def z07s (av : AV) (x : HP z003.ps) : Hdl (CR z003) := hnd [] z07y (z0fk av x)
theorem z0fu : LP z003 Tryz.f216 [0, 0, 0] z07s := lp_ok (W := []) (H := []) (xs := [z07j]) z04p trivial rfl (fun av x v K => by kernel_rfl) (fun av x n v K => by kernel_rfl)
def z07z : Tmpl := ⟨[(2, .c .i), (3, .c (.bx 3 0)), (7, .c (.ref 15)), (8, .c .i), (9, .c .i), (10, .c .b), (12, .c .i)], [(3, .boxT (.s .net)), (15, .arr .B true)]⟩
def z035 : Tmpl := ⟨[(2, .c .i), (3, .c (.bx 3 0)), (7, .c (.ref 15)), (8, .c .i), (9, .c .i)], [(3, .boxT (.s .net)), (15, .arr .B true)]⟩
def z0fl (av : AV) (x : HP z003.ps) (n : Nat) (v : z07z.den) (K : Ks (CR z003)) : Option (CR z003) := z010 v.2.1 v.1.1 v.1.2.2.2.2.1 v.1.2.2.2.2.2.1 (fun l3_1 => z035.at none ((v.1.1, (), (), v.1.2.2.2.1, v.1.2.2.2.2.1, ()), (v.2.1, l3_1, ())) (K (.exit 6))) (fun l3_1 => z035.at none ((v.1.1, (), (), v.1.2.2.2.1, v.1.2.2.2.2.1, ()), (v.2.1, l3_1, ())) (K (.exit 6))) (fun l3_1 => z035.at none ((v.1.1, (), (), v.1.2.2.2.1, v.1.2.2.2.2.1, ()), (v.2.1, l3_1, ())) (K (.exit 6))) n v.1.2.2.2.2.2.2.1 v.2.2.1
def z07t (av : AV) (x : HP z003.ps) : Hdl (CR z003) := hnd [] z07z (z0fl av x)
theorem z0fv : LP z003 Tryz.f216 [0, 0, 1] z07t := lp_ok (W := []) (H := []) (xs := [z035]) z04p trivial rfl (fun av x v K => by kernel_rfl) (fun av x n v K => by kernel_rfl)
def z0a6 : Tmpl := ⟨[(2, .c .i), (3, .c (.bx 3 0)), (7, .c (.ref 15)), (8, .c .i), (9, .c .i)], [(3, .boxT (.s .net)), (15, .arr .B true)]⟩
def z09c : Tmpl := ⟨[(2, .c .i), (3, .c (.bx 3 0)), (7, .c (.ref 15)), (8, .c .i)], [(3, .boxT (.s .net)), (15, .arr .B true)]⟩
def z0hq (av : AV) (x : HP z003.ps) (n : Nat) (v : z0a6.den) (K : Ks (CR z003)) : Option (CR z003) := z00b v.2.1 v.1.1 (fun l1_1 => z09c.at none ((v.1.1, (), (), v.1.2.2.2.1, ()), (v.2.1, l1_1, ())) (K (.exit 2))) n v.1.2.2.2.2.1 v.2.2.1
def z09h (av : AV) (x : HP z003.ps) : Hdl (CR z003) := hnd [] z0a6 (z0hq av x)
theorem z0im : LP z003 Tryz.f216 [0, 0] z09h := lp_ok (W := []) (H := [z07s, z07t]) (xs := [z09c]) z04p ⟨z0fu, z0fv, trivial⟩ rfl (fun av x v K => by kernel_rfl) (fun av x n v K => by kernel_rfl)
def z0cq : Tmpl := ⟨[(2, .c .i), (3, .c (.bx 3 0)), (7, .c (.ref 15)), (8, .c .i)], [(3, .boxT (.s .net)), (15, .arr .B true)]⟩
def z0b0 : Tmpl := ⟨[(7, .c (.ref 15))], [(15, .arr .B true)]⟩
def z0kf (av : AV) (x : HP z003.ps) (n : Nat) (v : z0cq.den) (K : Ks (CR z003)) : Option (CR z003) := z02j v.2.1 v.1.1 (fun l0_1 => z0b0.at none (((), ()), (l0_1, ())) (K (.exit 0))) n v.1.2.2.2.1 v.2.2.1
def z0c9 (av : AV) (x : HP z003.ps) : Hdl (CR z003) := hnd [] z0cq (z0kf av x)
theorem z0ku : LP z003 Tryz.f216 [0] z0c9 := lp_ok (W := []) (H := [z09h]) (xs := [z0b0]) z04p ⟨z0im, trivial⟩ rfl (fun av x v K => by kernel_rfl) (fun av x n v K => by kernel_rfl)
theorem z0pb : z003.Ok Tryz.prog := fn_ok (k := z003) (fn := Tryz.f216) (W := []) (H := [z0c9]) Tryz.func216 z04p ⟨z0ku, trivial⟩ rfl rfl (fun av x => by kernel_rfl)
def z09r (kind : Int) : Option Bool := (z016 kind 1 3).bind fun x1 => (some x1)
def z0e7 : Con := ⟨177, [.v .I false], [(.B, true)], [], fun x => z09r x.1⟩
def z0t6 : Fs := ⟨[z02z], [], []⟩
theorem z0tt : z0t6.Ok Tryz.prog := (fsK z03s fs0)
theorem z0ui : z0e7.Ok Tryz.prog := fn_ok (k := z0e7) (fn := Tryz.f177) (W := []) (H := []) Tryz.func177 z0tt trivial rfl rfl (fun av x => by kernel_rfl)
def z07b (role : Int) : Option Bool := (z016 role 1 3).bind fun x1 => (some x1)
def z09j : Con := ⟨151, [.v .I false], [(.B, true)], [], fun x => z07b x.1⟩
def z0t7 : Fs := ⟨[z02z], [], []⟩
theorem z0tu : z0t7.Ok Tryz.prog := (fsK z03s fs0)
theorem z0jz : z09j.Ok Tryz.prog := fn_ok (k := z09j) (fn := Tryz.f151) (W := []) (H := []) Tryz.func151 z0tu trivial rfl rfl (fun av x => by kernel_rfl)
def z0bq (places : Int) (tasks : Int) : Option Bool := (z016 places 2 8).bind fun x1 => (if x1 = true then ((z016 tasks 1 6).bind fun x3 => (some x3)) else (some false))
def z0bg : Con := ⟨122, [.v .I false, .v .I false], [(.B, true)], [], fun x => z0bq x.1 x.2.1⟩
def z0qm : Fs := ⟨[z02z], [], []⟩
theorem z0r9 : z0qm.Ok Tryz.prog := (fsK z03s fs0)
theorem z0s0 : z0bg.Ok Tryz.prog := fn_ok (k := z0bg) (fn := Tryz.f122) (W := []) (H := []) Tryz.func122 z0r9 trivial rfl rfl (fun av x => by kernel_rfl)
def z00i (n : GNet) (t : Int) : Option Bool := gd (ok64 ((n.tasks.length : Int) - 1)) ((z016 t 0 ((n.tasks.length : Int) - 1)).bind fun x2 => (some x2))
def z01h : Con := ⟨96, [.v (.s .net) false, .v .I false], [(.B, true)], [], fun x => z00i x.1 x.2.1⟩
def z0fn : Fs := ⟨[z02z], [], []⟩
theorem z0fq : z0fn.Ok Tryz.prog := (fsK z03s fs0)
theorem z03c : z01h.Ok Tryz.prog := fn_ok (k := z01h) (fn := Tryz.f96) (W := []) (H := []) Tryz.func96 z0fq trivial rfl rfl (fun av x => by kernel_rfl)
def z0ge  : Option Bool := some true
def z03z (marks : List Int) (kx0_0 : Option Bool) : Nat → Int → Option Bool
  | 0, _ => none
  | n0 + 1, s0_0 => if decide (s0_0 < (marks.length : Int)) = true then ((getI marks s0_0).bind fun x5 => ((z005 x5 0 4).bind fun x6 => (if x6 = true then (gd (ok64 (s0_0 + 1)) ((z03z marks kx0_0 n0) (s0_0 + 1))) else (some false)))) else (kx0_0)
def z05b (n : GNet) (marks : List Int) : Option Bool := (z02r n).bind fun x1 => (if x1 = true then (if decide ((marks.length : Int) = n.places) = true then (z03z marks z0ge FUEL 0) else (some false)) else (some false))
def z01w : Con := ⟨87, [.v (.s .net) false, .v (.sl .I) false], [(.B, true)], [], fun x => z05b x.1 x.2.1⟩
def z0w0 : Fs := ⟨[z01x, z00w], [], []⟩
theorem z0m8 : z0w0.Ok Tryz.prog := (fsK z0bv (fsK z01d fs0))
def z0j5 : Tmpl := ⟨[(1, .c (.s .I)), (5, .c .i)], []⟩
def z0gy : Tmpl := ⟨[], []⟩
def z0q4 (av : AV) (x : HP z01w.ps) (n : Nat) (v : z0j5.den) (K : Ks (CR z01w)) : Option (CR z01w) := z03z v.1.1 (z0gy.at none ((), ()) (K (.exit 0))) n v.1.2.1
def z0ia (av : AV) (x : HP z01w.ps) : Hdl (CR z01w) := hnd [] z0j5 (z0q4 av x)
theorem z0rm : LP z01w Tryz.f87 [0] z0ia := lp_ok (W := []) (H := []) (xs := [z0gy]) z0m8 trivial rfl (fun av x v K => by kernel_rfl) (fun av x n v K => by kernel_rfl)
theorem z0bu : z01w.Ok Tryz.prog := fn_ok (k := z01w) (fn := Tryz.f87) (W := []) (H := [z0ia]) Tryz.func87 z0m8 ⟨z0rm, trivial⟩ rfl rfl (fun av x => by kernel_rfl)
def z05y (s0_0 : Bool) (s0_1 : Bool) : Option (Bool × Bool) := some (s0_0, s0_1)
def z014 (marks : List Int) (list : List Int) (kx0_0 : Bool → Bool → Option (Bool × Bool)) : Nat → Bool → Bool → Int → Option (Bool × Bool)
  | 0, _, _, _ => none
  | n0 + 1, s0_0, s0_1, s0_2 => if decide (s0_2 < (list.length : Int)) = true then (if s0_0 = true then (if s0_1 = true then ((getI list s0_2).bind fun x4 => ((getI marks x4).bind fun x5 => (gd (ok64 (s0_2 + 1)) ((z014 marks list kx0_0 n0) true (decide (0 < x5)) (s0_2 + 1))))) else (gd (ok64 (s0_2 + 1)) ((z014 marks list kx0_0 n0) true false (s0_2 + 1)))) else ((getI list s0_2).bind fun x8 => ((getI marks x8).bind fun x9 => (if s0_1 = true then ((getI list s0_2).bind fun x11 => ((getI marks x11).bind fun x12 => (gd (ok64 (s0_2 + 1)) ((z014 marks list kx0_0 n0) (decide (0 < x9)) (decide (0 < x12)) (s0_2 + 1))))) else (gd (ok64 (s0_2 + 1)) ((z014 marks list kx0_0 n0) (decide (0 < x9)) false (s0_2 + 1))))))) else (kx0_0 s0_0 s0_1)
def z09z (marks : List Int) (list : List Int) : Option (Bool × Bool) := z014 marks list z05y FUEL false true 0
def z033 : Con := ⟨200, [.v (.sl .I) false, .v (.sl .I) false], [(.B, true), (.B, true)], [], fun x => z09z x.1 x.2.1⟩
def z0tl : Fs := ⟨[], [], []⟩
theorem z0jw : z0tl.Ok Tryz.prog := fs0
def z0gs : Tmpl := ⟨[(0, .c (.s .I)), (1, .c (.s .I)), (6, .c .b), (7, .c .b), (8, .c .i)], []⟩
def z0fb : Tmpl := ⟨[(6, .c .b), (7, .c .b)], []⟩
def z0oa (av : AV) (x : HP z033.ps) (n : Nat) (v : z0gs.den) (K : Ks (CR z033)) : Option (CR z033) := z014 v.1.1 v.1.2.1 (fun s0_0 s0_1 => z0fb.at none ((s0_0, s0_1, ()), ()) (K (.exit 0))) n v.1.2.2.1 v.1.2.2.2.1 v.1.2.2.2.2.1
def z0ga (av : AV) (x : HP z033.ps) : Hdl (CR z033) := hnd [] z0gs (z0oa av x)
theorem z0p0 : LP z033 Tryz.f200 [0] z0ga := lp_ok (W := []) (H := []) (xs := [z0fb]) z0jw trivial rfl (fun av x v K => by kernel_rfl) (fun av x n v K => by kernel_rfl)
theorem z0ur : z033.Ok Tryz.prog := fn_ok (k := z033) (fn := Tryz.f200) (W := []) (H := [z0ga]) Tryz.func200 z0jw ⟨z0p0, trivial⟩ rfl rfl (fun av x => by kernel_rfl)
def z02l (s1_0 : Int) (bk1 : Int → List Bool → Option Bool) (l2_1 : List Bool) : Option Bool := gd (ok64 (s1_0 + 1)) (bk1 (s1_0 + 1) l2_1)
def z01o (p2_0 : List GFlow) (kx2_0 : List Bool → Option Bool) : Nat → Int → List Bool → Option Bool
  | 0, _, _ => none
  | n2 + 1, s2_0, l2_1 => if decide (s2_0 < (p2_0.length : Int)) = true then ((getI p2_0 s2_0).bind fun x15 => ((getI l2_1 x15.to).bind fun x16 => (gd (ok64 (s2_0 + 1)) ((z01o p2_0 kx2_0 n2) (s2_0 + 1) (l2_1.set x15.to.toNat true))))) else (kx2_0 l2_1)
def z06r  : Option Bool := some false
def z01c (n : GNet) (marks : List Int) (t : Int) (x19 : (List Bool)) (kx3_0 : Option Bool) : Nat → Int → Option Bool
  | 0, _ => none
  | n3 + 1, s3_0 => (getI n.tasks t).bind fun x20 => (if decide (s3_0 < (x20.in_.length : Int)) = true then ((getI n.tasks t).bind fun x22 => ((getI x22.in_ s3_0).bind fun x23 => ((getI marks x23).bind fun x24 => (if decide (x24 = 0) = true then ((getI n.tasks t).bind fun x26 => ((getI x26.in_ s3_0).bind fun x27 => ((getI x19 x27).bind fun x28 => (if x28 = true then (some true) else (gd (ok64 (s3_0 + 1)) ((z01c n marks t x19 kx3_0 n3) (s3_0 + 1))))))) else (gd (ok64 (s3_0 + 1)) ((z01c n marks t x19 kx3_0 n3) (s3_0 + 1))))))) else (kx3_0))
def z01a (n : GNet) (marks : List Int) (t : Int) (l1_1 : List Bool) : Option Bool := (z073 n l1_1 t).bind fun x19 => (z01c n marks t x19 z06r FUEL 0)
def z00o (n : GNet) (busy : List GItem) (kx1_0 : List Bool → Option Bool) : Nat → Int → List Bool → Option Bool
  | 0, _, _ => none
  | n1 + 1, s1_0, l1_1 => if decide (s1_0 < (busy.length : Int)) = true then ((getI busy s1_0).bind fun x12 => ((getI n.tasks x12.task).bind fun x13 => (z01o x13.out (z02l s1_0 (z00o n busy kx1_0 n1)) FUEL 0 l1_1))) else (kx1_0 l1_1)
def z02k (n : GNet) (marks : List Int) (busy : List GItem) (t : Int) (l0_1 : List Bool) : Option Bool := z00o n busy (z01a n marks t) FUEL 0 l0_1
def z01b (n : GNet) (marks : List Int) (t : Int) (kx0_0 : List Bool → Option Bool) : Nat → Int → List Bool → Option Bool
  | 0, _, _ => none
  | n0 + 1, s0_0, l0_1 => if decide (s0_0 < n.places) = true then ((getI marks s0_0).bind fun x3 => (if decide (0 < x3) = true then ((getI n.tasks t).bind fun x5 => ((z06n x5.in_ s0_0).bind fun x6 => ((getI l0_1 s0_0).bind fun x7 => (gd (ok64 (s0_0 + 1)) ((z01b n marks t kx0_0 n0) (s0_0 + 1) (l0_1.set s0_0.toNat (!x6))))))) else ((getI l0_1 s0_0).bind fun x9 => (gd (ok64 (s0_0 + 1)) ((z01b n marks t kx0_0 n0) (s0_0 + 1) (l0_1.set s0_0.toNat false)))))) else (kx0_0 l0_1)
def z074 (n : GNet) (marks : List Int) (busy : List GItem) (t : Int) : Option Bool := gd ((0 : Int) ≤ n.places ∧ n.places ≤ (1000000000 : Int)) (z01b n marks t (z02k n marks busy t) FUEL 0 (List.replicate n.places.toNat false))
def z004 : Con := ⟨201, [.v (.s .net) false, .v (.sl .I) false, .v (.sl (.s .item)) false, .v .I false], [(.B, true)], [], fun x => z074 x.1 x.2.1 x.2.2.1 x.2.2.2.1⟩
def z0om : Fs := ⟨[z02p, z003], [], []⟩
theorem z04q : z0om.Ok Tryz.prog := (fsK z0hk (fsK z0pb fs0))
def z0a7 : Tmpl := ⟨[(1, .c (.s .I)), (2, .c (.s (.s .item))), (3, .c .i), (4, .c (.bx 4 0)), (9, .c (.ref 18)), (11, .c .i), (12, .c (.s (.s .flow))), (13, .c .i)], [(4, .boxT (.s .net)), (18, .arr .B true)]⟩
def z09d : Tmpl := ⟨[(1, .c (.s .I)), (2, .c (.s (.s .item))), (3, .c .i), (4, .c (.bx 4 0)), (9, .c (.ref 18)), (11, .c .i)], [(4, .boxT (.s .net)), (18, .arr .B true)]⟩
def z0hr (av : AV) (x : HP z004.ps) (n : Nat) (v : z0a7.den) (K : Ks (CR z004)) : Option (CR z004) := z01o v.1.2.2.2.2.2.2.1 (fun l2_1 => z09d.at none ((v.1.1, v.1.2.1, v.1.2.2.1, (), (), v.1.2.2.2.2.2.1, ()), (v.2.1, l2_1, ())) (K (.exit 4))) n v.1.2.2.2.2.2.2.2.1 v.2.2.1
def z09i (av : AV) (x : HP z004.ps) : Hdl (CR z004) := hnd [] z0a7 (z0hr av x)
theorem z0in : LP z004 Tryz.f201 [1, 0] z09i := lp_ok (W := []) (H := []) (xs := [z09d]) z04q trivial rfl (fun av x v K => by kernel_rfl) (fun av x n v K => by kernel_rfl)
def z0cr : Tmpl := ⟨[(1, .c (.s .I)), (2, .c (.s (.s .item))), (3, .c .i), (4, .c (.bx 4 0)), (9, .c (.ref 18)), (10, .c .i)], [(4, .boxT (.s .net)), (18, .arr .B true)]⟩
def z0b1 : Tmpl := ⟨[(1, .c (.s .I)), (2, .c (.s (.s .item))), (3, .c .i), (4, .c (.bx 4 0)), (9, .c (.ref 18))], [(4, .boxT (.s .net)), (18, .arr .B true)]⟩
def z0kg (av : AV) (x : HP z004.ps) (n : Nat) (v : z0cr.den) (K : Ks (CR z004)) : Option (CR z004) := z01b v.2.1 v.1.1 v.1.2.2.1 (fun l0_1 => z0b1.at none ((v.1.1, v.1.2.1, v.1.2.2.1, (), (), ()), (v.2.1, l0_1, ())) (K (.exit 0))) n v.1.2.2.2.2.2.1 v.2.2.1
def z0ca (av : AV) (x : HP z004.ps) : Hdl (CR z004) := hnd [] z0cr (z0kg av x)
theorem z0kv : LP z004 Tryz.f201 [0] z0ca := lp_ok (W := []) (H := []) (xs := [z0b1]) z04q trivial rfl (fun av x v K => by kernel_rfl) (fun av x n v K => by kernel_rfl)
def z0cs : Tmpl := ⟨[(1, .c (.s .I)), (2, .c (.s (.s .item))), (3, .c .i), (4, .c (.bx 4 0)), (9, .c (.ref 18)), (11, .c .i)], [(4, .boxT (.s .net)), (18, .arr .B true)]⟩
def z0b2 : Tmpl := ⟨[(1, .c (.s .I)), (3, .c .i), (4, .c (.bx 4 0)), (9, .c (.ref 18))], [(4, .boxT (.s .net)), (18, .arr .B true)]⟩
def z0kh (av : AV) (x : HP z004.ps) (n : Nat) (v : z0cs.den) (K : Ks (CR z004)) : Option (CR z004) := z00o v.2.1 v.1.2.1 (fun l1_1 => z0b2.at none ((v.1.1, v.1.2.2.1, (), (), ()), (v.2.1, l1_1, ())) (K (.exit 2))) n v.1.2.2.2.2.2.1 v.2.2.1
def z0cb (av : AV) (x : HP z004.ps) : Hdl (CR z004) := hnd [] z0cs (z0kh av x)
theorem z0kw : LP z004 Tryz.f201 [1] z0cb := lp_ok (W := []) (H := [z09i]) (xs := [z0b2]) z04q ⟨z0in, trivial⟩ rfl (fun av x v K => by kernel_rfl) (fun av x n v K => by kernel_rfl)
def z0ct : Tmpl := ⟨[(1, .c (.s .I)), (3, .c .i), (4, .c (.bx 4 0)), (14, .c (.ref 76)), (15, .c .i)], [(4, .boxT (.s .net)), (76, .arr .B true)]⟩
def z0b3 : Tmpl := ⟨[], []⟩
def z0ki (av : AV) (x : HP z004.ps) (n : Nat) (v : z0ct.den) (K : Ks (CR z004)) : Option (CR z004) := z01c v.2.1 v.1.1 v.1.2.1 v.2.2.1 (z0b3.at none ((), ()) (K (.exit 6))) n v.1.2.2.2.2.1
def z0cc (av : AV) (x : HP z004.ps) : Hdl (CR z004) := hnd [] z0ct (z0ki av x)
theorem z0kx : LP z004 Tryz.f201 [2] z0cc := lp_ok (W := []) (H := []) (xs := [z0b3]) z04q trivial rfl (fun av x v K => by kernel_rfl) (fun av x n v K => by kernel_rfl)
theorem z0pc : z004.Ok Tryz.prog := fn_ok (k := z004) (fn := Tryz.f201) (W := []) (H := [z0ca, z0cb, z0cc]) Tryz.func201 z04q ⟨z0kv, z0kw, z0kx, trivial⟩ rfl rfl (fun av x => by kernel_rfl)
def z0bs (n : GNet) (marks : List Int) (busy : List GItem) (t : Int) : Option Bool := (getI n.tasks t).bind fun x1 => ((z09z marks x1.in_).bind fun x2 => ((getI n.tasks t).bind fun x3 => (if decide (x3.join = 1) = true then (some x2.2) else (if decide (x3.join = 2) = true then (some x2.1) else (if x2.1 = true then (if x2.2 = true then (some true) else ((z074 n marks busy t).bind fun x8 => (some (!x8)))) else (some false))))))
def z0hd : Con := ⟨165, [.v (.s .net) false, .v (.sl .I) false, .v (.sl (.s .item)) false, .v .I false], [(.B, true)], [], fun x => z0bs x.1 x.2.1 x.2.2.1 x.2.2.2.1⟩
def z0w5 : Fs := ⟨[z033, z004], [], []⟩
theorem z0wd : z0w5.Ok Tryz.prog := (fsK z0ur (fsK z0pc fs0))
theorem z0wp : z0hd.Ok Tryz.prog := fn_ok (k := z0hd) (fn := Tryz.f165) (W := []) (H := []) Tryz.func165 z0wd trivial rfl rfl (fun av x => by kernel_rfl)
def z0en  : Option Bool := some true
def z03k (n : GNet) (busy : List GItem) (kx0_0 : Option Bool) : Nat → Int → Option Bool
  | 0, _ => none
  | n0 + 1, s0_0 => if decide (s0_0 < (busy.length : Int)) = true then ((getI busy s0_0).bind fun x3 => (gd (ok64 ((n.tasks.length : Int) - 1)) ((z005 x3.task 0 ((n.tasks.length : Int) - 1)).bind fun x5 => (if x5 = true then ((getI busy s0_0).bind fun x7 => ((z005 x7.who 1 4).bind fun x8 => (if x8 = true then ((getI busy s0_0).bind fun x10 => ((getI busy s0_0).bind fun x11 => ((getI n.tasks x11.task).bind fun x12 => (gd (ok64 (x12.need - 1)) ((z005 x10.did 0 (x12.need - 1)).bind fun x14 => (if x14 = true then (gd (ok64 (s0_0 + 1)) ((z03k n busy kx0_0 n0) (s0_0 + 1))) else (some false))))))) else (some false)))) else (some false))))) else (kx0_0)
def z07f (n : GNet) (busy : List GItem) : Option Bool := if decide (6 < (busy.length : Int)) = true then (some false) else (z03k n busy z0en FUEL 0)
def z02h : Con := ⟨88, [.v (.s .net) false, .v (.sl (.s .item)) false], [(.B, true)], [], fun x => z07f x.1 x.2.1⟩
def z0tk : Fs := ⟨[z00w], [], []⟩
theorem z0jv : z0tk.Ok Tryz.prog := (fsK z01d fs0)
def z0gr : Tmpl := ⟨[(1, .c (.s (.s .item))), (2, .c (.bx 2 0)), (5, .c .i)], [(2, .boxT (.s .net))]⟩
def z0fa : Tmpl := ⟨[], []⟩
def z0o9 (av : AV) (x : HP z02h.ps) (n : Nat) (v : z0gr.den) (K : Ks (CR z02h)) : Option (CR z02h) := z03k v.2.1 v.1.1 (z0fa.at none ((), ()) (K (.exit 0))) n v.1.2.2.1
def z0g9 (av : AV) (x : HP z02h.ps) : Hdl (CR z02h) := hnd [] z0gr (z0o9 av x)
theorem z0oz : LP z02h Tryz.f88 [0] z0g9 := lp_ok (W := []) (H := []) (xs := [z0fa]) z0jv trivial rfl (fun av x v K => by kernel_rfl) (fun av x n v K => by kernel_rfl)
theorem z0k4 : z02h.Ok Tryz.prog := fn_ok (k := z02h) (fn := Tryz.f88) (W := []) (H := [z0g9]) Tryz.func88 z0jv ⟨z0oz, trivial⟩ rfl rfl (fun av x => by kernel_rfl)
def z07d (n : GNet) (marks : List Int) (busy : List GItem) (t : Int) : Option Bool := (z05b n marks).bind fun x1 => (if x1 = true then ((z07f n busy).bind fun x3 => (if x3 = true then (gd (ok64 ((n.tasks.length : Int) - 1)) ((z005 t 0 ((n.tasks.length : Int) - 1)).bind fun x6 => (if x6 = true then ((z0bs n marks busy t).bind fun x8 => (some x8)) else (some false)))) else (some false))) else (some false))
def z09k : Con := ⟨100, [.v (.s .net) false, .v (.sl .I) false, .v (.sl (.s .item)) false, .v .I false], [(.B, true)], [], fun x => z07d x.1 x.2.1 x.2.2.1 x.2.2.2.1⟩
def z0td : Fs := ⟨[z01w, z02h, z00w, z0hd], [], []⟩
theorem z0ty : z0td.Ok Tryz.prog := (fsK z0bu (fsK z0k4 (fsK z01d (fsK z0wp fs0))))
theorem z0k1 : z09k.Ok Tryz.prog := fn_ok (k := z09k) (fn := Tryz.f100) (W := []) (H := []) Tryz.func100 z0ty trivial rfl rfl (fun av x => by kernel_rfl)
def z06l (l0_1 : List Int) : Option (List Int) := some l0_1
def z01n (n : GNet) (marks : List Int) (busy : List GItem) (kx0_0 : List Int → Option (List Int)) : Nat → Int → List Int → Option (List Int)
  | 0, _, _ => none
  | n0 + 1, s0_0, l0_1 => if decide (s0_0 < (n.tasks.length : Int)) = true then ((z07d n marks busy s0_0).bind fun x2 => (if x2 = true then (gd (l0_1.length + [s0_0].length ≤ SMALL) (gd (ok64 (s0_0 + 1)) ((z01n n marks busy kx0_0 n0) (s0_0 + 1) (l0_1 ++ [s0_0])))) else (gd (ok64 (s0_0 + 1)) ((z01n n marks busy kx0_0 n0) (s0_0 + 1) l0_1)))) else (kx0_0 l0_1)
def z04u (n : GNet) (marks : List Int) (busy : List GItem) : Option (List Int) := z01n n marks busy z06l FUEL 0 ([] : List Int)
def z01q : Con := ⟨99, [.v (.s .net) false, .v (.sl .I) false, .v (.sl (.s .item)) false], [((.sl .I), true)], [], fun x => z04u x.1 x.2.1 x.2.2.1⟩
def z0oh : Fs := ⟨[z09k], [], []⟩
theorem z0g0 : z0oh.Ok Tryz.prog := (fsK z0k1 fs0)
def z0cm : Tmpl := ⟨[(1, .c (.s .I)), (2, .c (.s (.s .item))), (3, .c (.bx 3 0)), (7, .c (.ref 9)), (8, .c .i)], [(3, .boxT (.s .net)), (9, .arr .I true)]⟩
def z0aw : Tmpl := ⟨[(7, .c (.ref 9))], [(9, .arr .I true)]⟩
def z0kb (av : AV) (x : HP z01q.ps) (n : Nat) (v : z0cm.den) (K : Ks (CR z01q)) : Option (CR z01q) := z01n v.2.1 v.1.1 v.1.2.1 (fun l0_1 => z0aw.at none (((), ()), (l0_1, ())) (K (.exit 0))) n v.1.2.2.2.2.1 v.2.2.1
def z0c5 (av : AV) (x : HP z01q.ps) : Hdl (CR z01q) := hnd [] z0cm (z0kb av x)
theorem z0kq : LP z01q Tryz.f99 [0] z0c5 := lp_ok (W := []) (H := []) (xs := [z0aw]) z0g0 trivial rfl (fun av x v K => by kernel_rfl) (fun av x n v K => by kernel_rfl)
theorem z0p7 : z01q.Ok Tryz.prog := fn_ok (k := z01q) (fn := Tryz.f99) (W := []) (H := [z0c5]) Tryz.func99 z0g0 ⟨z0kq, trivial⟩ rfl rfl (fun av x => by kernel_rfl)
def z0ce (l0_1 : List Int) (x10 : Int) (x13 : Int) : Option (List Int) := some (l0_1.set x10.toNat (x13 - 1))
def z0cf (l0_1 : List Int) : Option (List Int) := some l0_1
def z01z (n : GNet) (t : Int) (kx0_0 : List Int → Int → Int → Option (List Int)) (kx0_1 : List Int → Option (List Int)) : Nat → Int → List Int → Option (List Int)
  | 0, _, _ => none
  | n0 + 1, s0_0, l0_1 => (getI n.tasks t).bind fun x7 => (if decide (s0_0 < (x7.in_.length : Int)) = true then ((getI n.tasks t).bind fun x9 => ((getI x9.in_ s0_0).bind fun x10 => ((getI l0_1 x10).bind fun x11 => (if decide (0 < x11) = true then ((getI l0_1 x10).bind fun x13 => (gd (ok64 (x13 - 1)) ((getI l0_1 x10).bind fun x15 => ((getI n.tasks t).bind fun x16 => (if decide (x16.join = 2) = true then (kx0_0 l0_1 x10 x13) else (gd (ok64 (s0_0 + 1)) ((z01z n t kx0_0 kx0_1 n0) (s0_0 + 1) (l0_1.set x10.toNat (x13 - 1))))))))) else (gd (ok64 (s0_0 + 1)) ((z01z n t kx0_0 kx0_1 n0) (s0_0 + 1) l0_1)))))) else (kx0_1 l0_1))
def z086 (n : GNet) (marks : List Int) (t : Int) : Option (List Int) := (z05b n marks).bind fun x1 => (if x1 = true then (gd (ok64 ((n.tasks.length : Int) - 1)) ((z005 t 0 ((n.tasks.length : Int) - 1)).bind fun x4 => (if x4 = true then (gd (([] : List Int).length + marks.length ≤ SMALL) (z01z n t z0ce z0cf FUEL 0 (([] : List Int) ++ marks))) else (some ([] : List Int))))) else (some ([] : List Int)))
def z027 : Con := ⟨103, [.v (.s .net) false, .v (.sl .I) false, .v .I false], [((.sl .I), true)], [], fun x => z086 x.1 x.2.1 x.2.2.1⟩
def z0qp : Fs := ⟨[z01w, z00w], [], []⟩
theorem z0hz : z0qp.Ok Tryz.prog := (fsK z0bu (fsK z01d fs0))
def z0ev : Tmpl := ⟨[(2, .c .i), (3, .c (.bx 3 0)), (7, .c (.ref 26)), (8, .c .i)], [(3, .boxT (.s .net)), (26, .arr .I true)]⟩
def z07q : Tmpl := ⟨[(7, .c (.ref 26))], [(26, .arr .I true)]⟩
def z0le (av : AV) (x : HP z027.ps) (n : Nat) (v : z0ev.den) (K : Ks (CR z027)) : Option (CR z027) := z01z v.2.1 v.1.1 (fun l0_1 x10 x13 => z07q.at none (((), ()), ((l0_1.set x10.toNat (x13 - 1)), ())) (K (.exit 0))) (fun l0_1 => z07q.at none (((), ()), (l0_1, ())) (K (.exit 0))) n v.1.2.2.2.1 v.2.2.1
def z0dt (av : AV) (x : HP z027.ps) : Hdl (CR z027) := hnd [] z0ev (z0le av x)
theorem z0mt : LP z027 Tryz.f103 [0] z0dt := lp_ok (W := []) (H := []) (xs := [z07q]) z0hz trivial rfl (fun av x v K => by kernel_rfl) (fun av x n v K => by kernel_rfl)
theorem z0s3 : z027.Ok Tryz.prog := fn_ok (k := z027) (fn := Tryz.f103) (W := []) (H := [z0dt]) Tryz.func103 z0hz ⟨z0mt, trivial⟩ rfl rfl (fun av x => by kernel_rfl)
def z04s (who : Int) : Option Bool := (z016 who 1 4).bind fun x1 => (some x1)
def z06t : Con := ⟨97, [.v .I false], [(.B, true)], [], fun x => z04s x.1⟩
def z0of : Fs := ⟨[z02z], [], []⟩
theorem z0oq : z0of.Ok Tryz.prog := (fsK z03s fs0)
theorem z0gi : z06t.Ok Tryz.prog := fn_ok (k := z06t) (fn := Tryz.f97) (W := []) (H := []) Tryz.func97 z0oq trivial rfl rfl (fun av x => by kernel_rfl)
def z06y (l0_1 : List Int) (x8 : GFlow) : Option (List Int) := some (l0_1 ++ [x8.to])
def z06z (l0_1 : List Int) (x13 : GFlow) : Option (List Int) := some (l0_1 ++ [x13.to])
def z070 (l0_1 : List Int) (x18 : GFlow) : Option (List Int) := some (l0_1 ++ [x18.to])
def z0ae (l0_1 : List Int) : Option (List Int) := some l0_1
def z013 (t : GTask) (data : List Int) (kx0_0 : List Int → GFlow → Option (List Int)) (kx0_1 : List Int → GFlow → Option (List Int)) (kx0_2 : List Int → GFlow → Option (List Int)) (kx0_3 : List Int → Option (List Int)) : Nat → Int → List Int → Option (List Int)
  | 0, _, _ => none
  | n0 + 1, s0_0, l0_1 => if decide (s0_0 < (t.out.length : Int)) = true then ((getI t.out s0_0).bind fun x2 => ((z06x x2.if_ data).bind fun x3 => (if x3 = true then (if decide (t.split = 3) = true then (gd (ok64 ((t.out.length : Int) - 1)) (if decide (s0_0 < ((t.out.length : Int) - 1)) = true then ((getI t.out s0_0).bind fun x8 => (gd (l0_1.length + [x8.to].length ≤ SMALL) (if decide (t.split = 2) = true then (kx0_0 l0_1 x8) else (gd (ok64 (s0_0 + 1)) ((z013 t data kx0_0 kx0_1 kx0_2 kx0_3 n0) (s0_0 + 1) (l0_1 ++ [x8.to])))))) else (if decide ((l0_1.length : Int) = 0) = true then ((getI t.out s0_0).bind fun x13 => (gd (l0_1.length + [x13.to].length ≤ SMALL) (if decide (t.split = 2) = true then (kx0_1 l0_1 x13) else (gd (ok64 (s0_0 + 1)) ((z013 t data kx0_0 kx0_1 kx0_2 kx0_3 n0) (s0_0 + 1) (l0_1 ++ [x13.to])))))) else (gd (ok64 (s0_0 + 1)) ((z013 t data kx0_0 kx0_1 kx0_2 kx0_3 n0) (s0_0 + 1) l0_1))))) else ((getI t.out s0_0).bind fun x18 => (gd (l0_1.length + [x18.to].length ≤ SMALL) (if decide (t.split = 2) = true then (kx0_2 l0_1 x18) else (gd (ok64 (s0_0 + 1)) ((z013 t data kx0_0 kx0_1 kx0_2 kx0_3 n0) (s0_0 + 1) (l0_1 ++ [x18.to]))))))) else (gd (ok64 (s0_0 + 1)) ((z013 t data kx0_0 kx0_1 kx0_2 kx0_3 n0) (s0_0 + 1) l0_1))))) else (kx0_3 l0_1)
def z0br (t : GTask) (data : List Int) : Option (List Int) := z013 t data z06y z06z z070 z0ae FUEL 0 ([] : List Int)
def z03n : Con := ⟨205, [.v (.s .task) false, .v (.sl .I) false], [((.sl .I), true)], [], fun x => z0br x.1 x.2.1⟩
def z0w3 : Fs := ⟨[z0ac], [], []⟩
theorem z0mb : z0w3.Ok Tryz.prog := (fsK z0p8 fs0)
def z0j8 : Tmpl := ⟨[(1, .c (.s .I)), (2, .c (.bx 2 0)), (5, .c (.ref 7)), (6, .c .i)], [(2, .boxT (.s .task)), (7, .arr .I true)]⟩
def z04x : Tmpl := ⟨[(5, .c (.ref 49))], [(49, .arr .I true)]⟩
def z0q7 (av : AV) (x : HP z03n.ps) (n : Nat) (v : z0j8.den) (K : Ks (CR z03n)) : Option (CR z03n) := z013 v.2.1 v.1.1 (fun l0_1 x8 => z04x.at none (((), ()), ((l0_1 ++ [x8.to]), ())) (K (.exit 0))) (fun l0_1 x13 => z04x.at none (((), ()), ((l0_1 ++ [x13.to]), ())) (K (.exit 0))) (fun l0_1 x18 => z04x.at none (((), ()), ((l0_1 ++ [x18.to]), ())) (K (.exit 0))) (fun l0_1 => z04x.at none (((), ()), (l0_1, ())) (K (.exit 0))) n v.1.2.2.2.1 v.2.2.1
def z0id (av : AV) (x : HP z03n.ps) : Hdl (CR z03n) := hnd [] z0j8 (z0q7 av x)
theorem z0rp : LP z03n Tryz.f205 [0] z0id := lp_ok (W := []) (H := []) (xs := [z04x]) z0mb trivial rfl (fun av x v K => by kernel_rfl) (fun av x n v K => by kernel_rfl)
theorem z0wo : z03n.Ok Tryz.prog := fn_ok (k := z03n) (fn := Tryz.f205) (W := []) (H := [z0id]) Tryz.func205 z0mb ⟨z0rp, trivial⟩ rfl rfl (fun av x => by kernel_rfl)
def z053 (l1_1 : List Int) : Option ((List Int) × Bool) := some (l1_1, true)
def z02w (x16 : (List Int)) (kx1_0 : List Int → Option ((List Int) × Bool)) : Nat → Int → List Int → Option ((List Int) × Bool)
  | 0, _, _ => none
  | n1 + 1, s1_0, l1_1 => if decide (s1_0 < (x16.length : Int)) = true then ((getI x16 s1_0).bind fun x18 => ((getI l1_1 x18).bind fun x19 => (if decide (x19 = 4) = true then (some (([] : List Int), false)) else ((getI x16 s1_0).bind fun x21 => ((getI x16 s1_0).bind fun x22 => ((getI l1_1 x22).bind fun x23 => (gd (ok64 (x23 + 1)) ((getI l1_1 x21).bind fun x25 => (gd (ok64 (s1_0 + 1)) ((z02w x16 kx1_0 n1) (s1_0 + 1) (l1_1.set x21.toNat (x23 + 1)))))))))))) else (kx1_0 l1_1)
def z052 (n : GNet) (t : Int) (data : List Int) (l0_1 : List Int) : Option ((List Int) × Bool) := (getI n.tasks t).bind fun x15 => ((z0br x15 data).bind fun x16 => (z02w x16 z053 FUEL 0 l0_1))
def z02v (n : GNet) (t : Int) (kx0_0 : List Int → Option ((List Int) × Bool)) : Nat → Int → List Int → Option ((List Int) × Bool)
  | 0, _, _ => none
  | n0 + 1, s0_0, l0_1 => (getI n.tasks t).bind fun x9 => (if decide (s0_0 < (x9.clear.length : Int)) = true then ((getI n.tasks t).bind fun x11 => ((getI x11.clear s0_0).bind fun x12 => ((getI l0_1 x12).bind fun x13 => (gd (ok64 (s0_0 + 1)) ((z02v n t kx0_0 n0) (s0_0 + 1) (l0_1.set x12.toNat 0)))))) else (kx0_0 l0_1))
def z087 (n : GNet) (marks : List Int) (t : Int) (data : List Int) : Option ((List Int) × Bool) := (z05b n marks).bind fun x1 => (if x1 = true then (gd (ok64 ((n.tasks.length : Int) - 1)) ((z005 t 0 ((n.tasks.length : Int) - 1)).bind fun x4 => (if x4 = true then ((z04d data).bind fun x6 => (if x6 = true then (gd (([] : List Int).length + marks.length ≤ SMALL) (z02v n t (z052 n t data) FUEL 0 (([] : List Int) ++ marks))) else (some (([] : List Int), false)))) else (some (([] : List Int), false))))) else (some (([] : List Int), false)))
def z00l : Con := ⟨172, [.v (.s .net) false, .v (.sl .I) false, .v .I false, .v (.sl .I) false], [((.sl .I), true), (.B, true)], [], fun x => z087 x.1 x.2.1 x.2.2.1 x.2.2.2.1⟩
def z0qq : Fs := ⟨[z01w, z00w, z01j, z03n], [], []⟩
theorem z0b6 : z0qq.Ok Tryz.prog := (fsK z0bu (fsK z01d (fsK z093 (fsK z0wo fs0))))
def z0ew : Tmpl := ⟨[(2, .c .i), (3, .c (.s .I)), (4, .c (.bx 4 0)), (10, .c (.ref 35)), (11, .c .i)], [(4, .boxT (.s .net)), (35, .arr .I true)]⟩
def z0cx : Tmpl := ⟨[(2, .c .i), (3, .c (.s .I)), (4, .c (.bx 4 0)), (10, .c (.ref 35))], [(4, .boxT (.s .net)), (35, .arr .I true)]⟩
def z0lf (av : AV) (x : HP z00l.ps) (n : Nat) (v : z0ew.den) (K : Ks (CR z00l)) : Option (CR z00l) := z02v v.2.1 v.1.1 (fun l0_1 => z0cx.at none ((v.1.1, v.1.2.1, (), (), ()), (v.2.1, l0_1, ())) (K (.exit 0))) n v.1.2.2.2.2.1 v.2.2.1
def z0du (av : AV) (x : HP z00l.ps) : Hdl (CR z00l) := hnd [] z0ew (z0lf av x)
theorem z0mu : LP z00l Tryz.f172 [0] z0du := lp_ok (W := []) (H := []) (xs := [z0cx]) z0b6 trivial rfl (fun av x v K => by kernel_rfl) (fun av x n v K => by kernel_rfl)
def z0ex : Tmpl := ⟨[(10, .c (.ref 35)), (12, .c (.ref 64)), (13, .c .i)], [(35, .arr .I true), (64, .arr .I true)]⟩
def z0cy : Tmpl := ⟨[(10, .c (.ref 35))], [(35, .arr .I true)]⟩
def z0lg (av : AV) (x : HP z00l.ps) (n : Nat) (v : z0ex.den) (K : Ks (CR z00l)) : Option (CR z00l) := z02w v.2.2.1 (fun l1_1 => z0cy.at none (((), ()), (l1_1, ())) (K (.exit 2))) n v.1.2.2.1 v.2.1
def z0dv (av : AV) (x : HP z00l.ps) : Hdl (CR z00l) := hnd [] z0ex (z0lg av x)
theorem z0mv : LP z00l Tryz.f172 [1] z0dv := lp_ok (W := []) (H := []) (xs := [z0cy]) z0b6 trivial rfl (fun av x v K => by kernel_rfl) (fun av x n v K => by kernel_rfl)
theorem z0s4 : z00l.Ok Tryz.prog := fn_ok (k := z00l) (fn := Tryz.f172) (W := []) (H := [z0du, z0dv]) Tryz.func172 z0b6 ⟨z0mu, z0mv, trivial⟩ rfl rfl (fun av x => by kernel_rfl)
def z0gg  : Option Bool := some true
def z041 (people : List Int) (kx0_0 : Option Bool) : Nat → Int → Option Bool
  | 0, _ => none
  | n0 + 1, s0_0 => if decide (s0_0 < (people.length : Int)) = true then ((getI people s0_0).bind fun x4 => ((z005 x4 0 7).bind fun x5 => (if x5 = true then (gd (ok64 (s0_0 + 1)) ((z041 people kx0_0 n0) (s0_0 + 1))) else (some false)))) else (kx0_0)
def z090 (people : List Int) : Option Bool := (z005 (people.length : Int) 1 4).bind fun x1 => (if x1 = true then (z041 people z0gg FUEL 0) else (some false))
def z038 : Con := ⟨44, [.v (.sl .I) false], [(.B, true)], [], fun x => z090 x.1⟩
def z0w2 : Fs := ⟨[z00w], [], []⟩
theorem z0ma : z0w2.Ok Tryz.prog := (fsK z01d fs0)
def z0j7 : Tmpl := ⟨[(0, .c (.s .I)), (3, .c .i)], []⟩
def z0h0 : Tmpl := ⟨[], []⟩
def z0q6 (av : AV) (x : HP z038.ps) (n : Nat) (v : z0j7.den) (K : Ks (CR z038)) : Option (CR z038) := z041 v.1.1 (z0h0.at none ((), ()) (K (.exit 0))) n v.1.2.1
def z0ic (av : AV) (x : HP z038.ps) : Hdl (CR z038) := hnd [] z0j7 (z0q6 av x)
theorem z0ro : LP z038 Tryz.f44 [0] z0ic := lp_ok (W := []) (H := []) (xs := [z0h0]) z0ma trivial rfl (fun av x v K => by kernel_rfl) (fun av x n v K => by kernel_rfl)
theorem z0ng : z038.Ok Tryz.prog := fn_ok (k := z038) (fn := Tryz.f44) (W := []) (H := [z0ic]) Tryz.func44 z0ma ⟨z0ro, trivial⟩ rfl rfl (fun av x => by kernel_rfl)
def z0el (s0_0 : Int) : Option Bool := gd ((2 : Int) ≠ 0) (some (decide ((Int.tmod s0_0 2) = 1)))
def z05u (role : Int) (kx0_0 : Int → Option Bool) : Nat → Int → Int → Option Bool
  | 0, _, _ => none
  | n0 + 1, s0_0, s0_1 => if decide (s0_1 < role) = true then (gd ((2 : Int) ≠ 0 ∧ ok64 (Int.tdiv s0_0 2)) (gd (ok64 (s0_1 + 1)) ((z05u role kx0_0 n0) (Int.tdiv s0_0 2) (s0_1 + 1)))) else (kx0_0 s0_0)
def z09w (people : List Int) (who : Int) (role : Int) : Option Bool := (z090 people).bind fun x1 => (if x1 = true then ((z005 who 1 (people.length : Int)).bind fun x3 => (if x3 = true then ((z005 role 1 3).bind fun x5 => (if x5 = true then (gd (ok64 (who - 1)) ((getI people (who - 1)).bind fun x8 => (z05u role z0el FUEL x8 1))) else (some false))) else (some false))) else (some false))
def z032 : Con := ⟨166, [.v (.sl .I) false, .v .I false, .v .I false], [(.B, true)], [], fun x => z09w x.1 x.2.1 x.2.2.1⟩
def z0tf : Fs := ⟨[z038, z00w], [], []⟩
theorem z0ju : z0tf.Ok Tryz.prog := (fsK z0ng (fsK z01d fs0))
def z0gp : Tmpl := ⟨[(2, .c .i), (7, .c .i), (8, .c .i)], []⟩
def z0f8 : Tmpl := ⟨[(7, .c .i)], []⟩
def z0o7 (av : AV) (x : HP z032.ps) (n : Nat) (v : z0gp.den) (K : Ks (CR z032)) : Option (CR z032) := z05u v.1.1 (fun s0_0 => z0f8.at none ((s0_0, ()), ()) (K (.exit 0))) n v.1.2.1 v.1.2.2.1
def z0g7 (av : AV) (x : HP z032.ps) : Hdl (CR z032) := hnd [] z0gp (z0o7 av x)
theorem z0ox : LP z032 Tryz.f166 [0] z0g7 := lp_ok (W := []) (H := []) (xs := [z0f8]) z0ju trivial rfl (fun av x v K => by kernel_rfl) (fun av x n v K => by kernel_rfl)
theorem z0uo : z032.Ok Tryz.prog := fn_ok (k := z032) (fn := Tryz.f166) (W := []) (H := [z0g7]) Tryz.func166 z0ju ⟨z0ox, trivial⟩ rfl rfl (fun av x => by kernel_rfl)
def z0ek  : Option Bool := some false
def z02s (did : List GDid) (who : Int) (task : Int) (kx0_0 : Option Bool) : Nat → Int → Option Bool
  | 0, _ => none
  | n0 + 1, s0_0 => if decide (s0_0 < (did.length : Int)) = true then ((getI did s0_0).bind fun x2 => (if decide (x2.who = who) = true then ((getI did s0_0).bind fun x4 => (if decide (x4.task = task) = true then (some true) else (gd (ok64 (s0_0 + 1)) ((z02s did who task kx0_0 n0) (s0_0 + 1))))) else (gd (ok64 (s0_0 + 1)) ((z02s did who task kx0_0 n0) (s0_0 + 1))))) else (kx0_0)
def z09v (did : List GDid) (who : Int) (task : Int) : Option Bool := z02s did who task z0ek FUEL 0
def z031 : Con := ⟨167, [.v (.sl (.s .did)) false, .v .I false, .v .I false], [(.B, true)], [], fun x => z09v x.1 x.2.1 x.2.2.1⟩
def z0te : Fs := ⟨[], [], []⟩
theorem z0jt : z0te.Ok Tryz.prog := fs0
def z0go : Tmpl := ⟨[(0, .c (.s (.s .did))), (1, .c .i), (2, .c .i), (7, .c .i)], []⟩
def z0f7 : Tmpl := ⟨[], []⟩
def z0o6 (av : AV) (x : HP z031.ps) (n : Nat) (v : z0go.den) (K : Ks (CR z031)) : Option (CR z031) := z02s v.1.1 v.1.2.1 v.1.2.2.1 (z0f7.at none ((), ()) (K (.exit 0))) n v.1.2.2.2.1
def z0g6 (av : AV) (x : HP z031.ps) : Hdl (CR z031) := hnd [] z0go (z0o6 av x)
theorem z0ow : LP z031 Tryz.f167 [0] z0g6 := lp_ok (W := []) (H := []) (xs := [z0f7]) z0jt trivial rfl (fun av x v K => by kernel_rfl) (fun av x n v K => by kernel_rfl)
theorem z0un : z031.Ok Tryz.prog := fn_ok (k := z031) (fn := Tryz.f167) (W := []) (H := [z0g6]) Tryz.func167 z0jt ⟨z0ow, trivial⟩ rfl rfl (fun av x => by kernel_rfl)
def z0em (n : GNet) (people : List Int) (did : List GDid) (t : Int) (s0_0 : Int) (l0_1 : List Int) (bk0 : Int → List Int → Option (List Int)) (s1_0 : Bool) : Option (List Int) := (getI n.tasks t).bind fun x18 => ((z09w people s0_0 x18.role).bind fun x19 => (if x19 = true then (if s1_0 = true then (gd (ok64 (s0_0 + 1)) (bk0 (s0_0 + 1) l0_1)) else ((getI n.tasks t).bind fun x23 => ((z09v did s0_0 x23.apart).bind fun x24 => (if x24 = true then (gd (ok64 (s0_0 + 1)) (bk0 (s0_0 + 1) l0_1)) else (gd (l0_1.length + [s0_0].length ≤ SMALL) (gd (ok64 (s0_0 + 1)) (bk0 (s0_0 + 1) (l0_1 ++ [s0_0])))))))) else (gd (ok64 (s0_0 + 1)) (bk0 (s0_0 + 1) l0_1))))
def z01f (n : GNet) (busy : List GItem) (t : Int) (s0_0 : Int) (kx1_0 : Bool → Option (List Int)) : Nat → Bool → Int → Option (List Int)
  | 0, _, _ => none
  | n1 + 1, s1_0, s1_1 => if decide (s1_1 < (busy.length : Int)) = true then (if s1_0 = true then (gd (ok64 (s1_1 + 1)) ((z01f n busy t s0_0 kx1_0 n1) true (s1_1 + 1))) else ((getI busy s1_1).bind fun x12 => (if decide (x12.who = s0_0) = true then ((getI busy s1_1).bind fun x14 => ((getI n.tasks t).bind fun x15 => (gd (ok64 (s1_1 + 1)) ((z01f n busy t s0_0 kx1_0 n1) (decide (x14.task = x15.apart)) (s1_1 + 1))))) else (gd (ok64 (s1_1 + 1)) ((z01f n busy t s0_0 kx1_0 n1) false (s1_1 + 1)))))) else (kx1_0 s1_0)
def z08z (l0_1 : List Int) : Option (List Int) := some l0_1
def z03i (n : GNet) (people : List Int) (did : List GDid) (busy : List GItem) (t : Int) (kx0_0 : List Int → Option (List Int)) : Nat → Int → List Int → Option (List Int)
  | 0, _, _ => none
  | n0 + 1, s0_0, l0_1 => if decide (s0_0 ≤ (people.length : Int)) = true then (z01f n busy t s0_0 (z0em n people did t s0_0 l0_1 (z03i n people did busy t kx0_0 n0)) FUEL false 0) else (kx0_0 l0_1)
def z05h (n : GNet) (people : List Int) (did : List GDid) (busy : List GItem) (t : Int) : Option (List Int) := (z02r n).bind fun x1 => (if x1 = true then ((z090 people).bind fun x3 => (if x3 = true then (gd (ok64 ((n.tasks.length : Int) - 1)) ((z005 t 0 ((n.tasks.length : Int) - 1)).bind fun x6 => (if x6 = true then (z03i n people did busy t z08z FUEL 1 ([] : List Int)) else (some ([] : List Int))))) else (some ([] : List Int)))) else (some ([] : List Int)))
def z00p : Con := ⟨102, [.v (.s .net) false, .v (.sl .I) false, .v (.sl (.s .did)) false, .v (.sl (.s .item)) false, .v .I false], [((.sl .I), true)], [], fun x => z05h x.1 x.2.1 x.2.2.1 x.2.2.2.1 x.2.2.2.2.1⟩
def z0tg : Fs := ⟨[z01x, z038, z00w, z032, z031], [], []⟩
theorem z0dq : z0tg.Ok Tryz.prog := (fsK z0bv (fsK z0ng (fsK z01d (fsK z0uo (fsK z0un fs0)))))
def z0cn : Tmpl := ⟨[(1, .c (.s .I)), (2, .c (.s (.s .did))), (3, .c (.s (.s .item))), (4, .c .i), (5, .c (.bx 5 0)), (11, .c (.ref 15)), (12, .c .i), (13, .c .b), (14, .c .i)], [(5, .boxT (.s .net)), (15, .arr .I true)]⟩
def z0ax : Tmpl := ⟨[(1, .c (.s .I)), (2, .c (.s (.s .did))), (3, .c (.s (.s .item))), (4, .c .i), (5, .c (.bx 5 0)), (11, .c (.ref 15)), (12, .c .i), (13, .c .b)], [(5, .boxT (.s .net)), (15, .arr .I true)]⟩
def z0kc (av : AV) (x : HP z00p.ps) (n : Nat) (v : z0cn.den) (K : Ks (CR z00p)) : Option (CR z00p) := z01f v.2.1 v.1.2.2.1 v.1.2.2.2.1 v.1.2.2.2.2.2.2.1 (fun s1_0 => z0ax.at none ((v.1.1, v.1.2.1, v.1.2.2.1, v.1.2.2.2.1, (), (), v.1.2.2.2.2.2.2.1, s1_0, ()), (v.2.1, v.2.2.1, ())) (K (.exit 2))) n v.1.2.2.2.2.2.2.2.1 v.1.2.2.2.2.2.2.2.2.1
def z0c6 (av : AV) (x : HP z00p.ps) : Hdl (CR z00p) := hnd [] z0cn (z0kc av x)
theorem z0kr : LP z00p Tryz.f102 [0, 0] z0c6 := lp_ok (W := []) (H := []) (xs := [z0ax]) z0dq trivial rfl (fun av x v K => by kernel_rfl) (fun av x n v K => by kernel_rfl)
def z0gq : Tmpl := ⟨[(1, .c (.s .I)), (2, .c (.s (.s .did))), (3, .c (.s (.s .item))), (4, .c .i), (5, .c (.bx 5 0)), (11, .c (.ref 15)), (12, .c .i)], [(5, .boxT (.s .net)), (15, .arr .I true)]⟩
def z0f9 : Tmpl := ⟨[(11, .c (.ref 15))], [(15, .arr .I true)]⟩
def z0o8 (av : AV) (x : HP z00p.ps) (n : Nat) (v : z0gq.den) (K : Ks (CR z00p)) : Option (CR z00p) := z03i v.2.1 v.1.1 v.1.2.1 v.1.2.2.1 v.1.2.2.2.1 (fun l0_1 => z0f9.at none (((), ()), (l0_1, ())) (K (.exit 0))) n v.1.2.2.2.2.2.2.1 v.2.2.1
def z0g8 (av : AV) (x : HP z00p.ps) : Hdl (CR z00p) := hnd [] z0gq (z0o8 av x)
theorem z0oy : LP z00p Tryz.f102 [0] z0g8 := lp_ok (W := []) (H := [z0c6]) (xs := [z0f9]) z0dq ⟨z0kr, trivial⟩ rfl (fun av x v K => by kernel_rfl) (fun av x n v K => by kernel_rfl)
theorem z0k2 : z00p.Ok Tryz.prog := fn_ok (k := z00p) (fn := Tryz.f102) (W := []) (H := [z0g8]) Tryz.func102 z0dq ⟨z0oy, trivial⟩ rfl rfl (fun av x => by kernel_rfl)
def z09t (n : GNet) (data : List Int) : Option GCase := (z02r n).bind fun x1 => (if x1 = true then ((z04d data).bind fun x3 => (if x3 = true then (gd ((0 : Int) ≤ n.places ∧ n.places ≤ (1000000000 : Int)) (gd (([] : List Int).length + data.length ≤ SMALL) ((getI (List.replicate n.places.toNat (0 : Int)) 0).bind fun x7 => (some (GCase.mk 1 ((List.replicate n.places.toNat (0 : Int)).set (0 : Int).toNat 1) [] (([] : List Int) ++ data) []))))) else (some (GCase.mk 0 [] [] [] [])))) else (some (GCase.mk 0 [] [] [] [])))
def z0ea : Con := ⟨155, [.v (.s .net) false, .v (.sl .I) false], [((.s .kase), true)], [], fun x => z09t x.1 x.2.1⟩
def z0tb : Fs := ⟨[z01x, z01j], [], []⟩
theorem z0tw : z0tb.Ok Tryz.prog := (fsK z0bv (fsK z093 fs0))
theorem z0ul : z0ea.Ok Tryz.prog := fn_ok (k := z0ea) (fn := Tryz.f155) (W := []) (H := []) Tryz.func155 z0tw trivial rfl rfl (fun av x => by kernel_rfl)
def z06w (c : GCase) : Option Bool := if decide (c.state = 1) = true then ((getI c.marks 1).bind fun x20 => (some (decide (x20 = 0)))) else (if decide ((c.busy.length : Int) = 0) = true then ((getI c.marks 1).bind fun x22 => (some ((decide (c.state = 2)) == (decide (0 < x22))))) else (some false))
def z03x (n : GNet) (c : GCase) (kx0_0 : Option Bool) : Nat → Int → Option Bool
  | 0, _ => none
  | n0 + 1, s0_0 => if decide (s0_0 < (c.did.length : Int)) = true then ((getI c.did s0_0).bind fun x11 => (gd (ok64 ((n.tasks.length : Int) - 1)) ((z005 x11.task 0 ((n.tasks.length : Int) - 1)).bind fun x13 => (if x13 = true then ((getI c.did s0_0).bind fun x15 => ((z005 x15.who 1 4).bind fun x16 => (if x16 = true then (gd (ok64 (s0_0 + 1)) ((z03x n c kx0_0 n0) (s0_0 + 1))) else (some false)))) else (some false))))) else (kx0_0)
def z05a (n : GNet) (c : GCase) : Option Bool := (z05b n c.marks).bind fun x1 => (if x1 = true then ((z07f n c.busy).bind fun x3 => (if x3 = true then ((z04d c.data).bind fun x5 => (if x5 = true then (if decide (60 < (c.did.length : Int)) = true then (some false) else ((z005 c.state 1 3).bind fun x8 => (if x8 = true then (z03x n c (z06w c) FUEL 0) else (some false)))) else (some false))) else (some false))) else (some false))
def z01v : Con := ⟨25, [.v (.s .net) false, .v (.s .kase) false], [(.B, true)], [], fun x => z05a x.1 x.2.1⟩
def z0vx : Fs := ⟨[z01w, z02h, z01j, z00w], [], []⟩
theorem z0m6 : z0vx.Ok Tryz.prog := (fsK z0bu (fsK z0k4 (fsK z093 (fsK z01d fs0))))
def z0j3 : Tmpl := ⟨[(2, .c (.bx 2 0)), (3, .c (.bx 3 0)), (5, .c .i)], [(2, .boxT (.s .net)), (3, .boxT (.s .kase))]⟩
def z0gw : Tmpl := ⟨[(3, .c (.bx 3 0))], [(3, .boxT (.s .kase))]⟩
def z0q2 (av : AV) (x : HP z01v.ps) (n : Nat) (v : z0j3.den) (K : Ks (CR z01v)) : Option (CR z01v) := z03x v.2.1 v.2.2.1 (z0gw.at none (((), ()), (v.2.2.1, ())) (K (.exit 0))) n v.1.2.2.1
def z0i8 (av : AV) (x : HP z01v.ps) : Hdl (CR z01v) := hnd [] z0j3 (z0q2 av x)
theorem z0rk : LP z01v Tryz.f25 [0] z0i8 := lp_ok (W := []) (H := []) (xs := [z0gw]) z0m6 trivial rfl (fun av x v K => by kernel_rfl) (fun av x n v K => by kernel_rfl)
theorem z0bt : z01v.Ok Tryz.prog := fn_ok (k := z01v) (fn := Tryz.f25) (W := []) (H := [z0i8]) Tryz.func25 z0m6 ⟨z0rk, trivial⟩ rfl rfl (fun av x => by kernel_rfl)
def z04f (c : GCase) : Option GCase := gd (([] : List Int).length + c.marks.length ≤ SMALL) (gd (([] : List GItem).length + c.busy.length ≤ SMALL) (gd (([] : List Int).length + c.data.length ≤ SMALL) (gd (([] : List GDid).length + c.did.length ≤ SMALL) (some (GCase.mk c.state (([] : List Int) ++ c.marks) (([] : List GItem) ++ c.busy) (([] : List Int) ++ c.data) (([] : List GDid) ++ c.did))))))
def z078 : Con := ⟨86, [.v (.s .kase) false], [((.s .kase), true)], [], fun x => z04f x.1⟩
def z0tm : Fs := ⟨[], [], []⟩
theorem z0u2 : z0tm.Ok Tryz.prog := fs0
theorem z0er : z078.Ok Tryz.prog := fn_ok (k := z078) (fn := Tryz.f86) (W := []) (H := []) Tryz.func86 z0u2 trivial rfl rfl (fun av x => by kernel_rfl)
def z04t (n : GNet) (people : List Int) (c : GCase) (t : Int) (who : Int) : Option (GCase × Bool) := (z04f c).bind fun x1 => ((z05a n c).bind fun x2 => (if x2 = true then (if decide (c.state = 1) = true then ((z07d n c.marks c.busy t).bind fun x5 => (if x5 = true then ((z05h n people c.did c.busy t).bind fun x7 => ((z06n x7 who).bind fun x8 => (if x8 = true then (if decide ((c.busy.length : Int) = 6) = true then (some (x1, false)) else ((z086 n c.marks t).bind fun x11 => (gd (x1.busy.length + [(GItem.mk t who 0)].length ≤ SMALL) (some ((GCase.mk x1.state x11 (x1.busy ++ [(GItem.mk t who 0)]) x1.data x1.did), true))))) else (some (x1, false))))) else (some (x1, false)))) else (some (x1, false))) else (some (x1, false))))
def z0ab : Con := ⟨32, [.v (.s .net) false, .v (.sl .I) false, .v (.s .kase) false, .v .I false, .v .I false], [((.s .kase), true), (.B, true)], [], fun x => z04t x.1 x.2.1 x.2.2.1 x.2.2.2.1 x.2.2.2.2.1⟩
def z0og : Fs := ⟨[z078, z01v, z09k, z00p, z02p, z027], [], []⟩
theorem z0or : z0og.Ok Tryz.prog := (fsK z0er (fsK z0bt (fsK z0k1 (fsK z0k2 (fsK z0hk (fsK z0s3 fs0))))))
theorem z0p6 : z0ab.Ok Tryz.prog := fn_ok (k := z0ab) (fn := Tryz.f32) (W := []) (H := []) Tryz.func32 z0or trivial rfl rfl (fun av x => by kernel_rfl)
def z085 (n : GNet) (c : GCase) (k : Int) (v : Int) (num : Int) : Option (GCase × Bool) := (z04f c).bind fun x1 => ((z05a n c).bind fun x2 => (if x2 = true then (if decide (c.state = 1) = true then (gd (ok64 ((c.busy.length : Int) - 1)) ((z005 k 0 ((c.busy.length : Int) - 1)).bind fun x6 => (if x6 = true then ((z005 v (-1) 2).bind fun x8 => (if x8 = true then ((z005 num (-99) 99).bind fun x10 => (if x10 = true then (if decide ((c.did.length : Int) = 60) = true then (some (x1, false)) else ((getI c.busy k).bind fun x13 => ((z09u c.data v num).bind fun x14 => (gd (ok64 (x13.did + 1)) ((getI x1.busy k).bind fun x16 => (gd (ok64 (x13.did + 1)) ((getI n.tasks x13.task).bind fun x18 => (if decide ((x13.did + 1) < x18.need) = true then (some ((GCase.mk x1.state x1.marks (x1.busy.set k.toNat (GItem.mk x16.task x16.who (x13.did + 1))) x14 x1.did), true)) else ((z087 n c.marks x13.task x14).bind fun x20 => (if x20.2 = true then (gd ((0 : Int) ≤ k ∧ k ≤ (c.busy.length : Int)) (gd (([] : List GItem).length + (c.busy.take k.toNat).length ≤ SMALL) (gd (ok64 (k + 1)) (gd ((0 : Int) ≤ (k + 1) ∧ (k + 1) ≤ (c.busy.length : Int)) (gd ((([] : List GItem) ++ (c.busy.take k.toNat)).length + (c.busy.drop (k + 1).toNat).length ≤ SMALL) (gd (x1.did.length + [(GDid.mk x13.task x13.who)].length ≤ SMALL) ((getI x20.1 1).bind fun x28 => (if decide (0 < x28) = true then (some ((GCase.mk 2 x20.1 ([] : List GItem) x14 (x1.did ++ [(GDid.mk x13.task x13.who)])), true)) else (some ((GCase.mk x1.state x20.1 ((([] : List GItem) ++ (c.busy.take k.toNat)) ++ (c.busy.drop (k + 1).toNat)) x14 (x1.did ++ [(GDid.mk x13.task x13.who)])), true)))))))))) else ((z04f c).bind fun x30 => (some (x30, false))))))))))))) else (some (x1, false)))) else (some (x1, false)))) else (some (x1, false))))) else (some (x1, false))) else (some (x1, false))))
def z0bi : Con := ⟨112, [.v (.s .net) false, .v (.s .kase) false, .v .I false, .v .I false, .v .I false], [((.s .kase), true), (.B, true)], [], fun x => z085 x.1 x.2.1 x.2.2.1 x.2.2.2.1 x.2.2.2.2.1⟩
def z0qo : Fs := ⟨[z078, z01v, z00w, z0eb, z00l], [], []⟩
theorem z0rb : z0qo.Ok Tryz.prog := (fsK z0er (fsK z0bt (fsK z01d (fsK z0um (fsK z0s4 fs0)))))
theorem z0s2 : z0bi.Ok Tryz.prog := fn_ok (k := z0bi) (fn := Tryz.f112) (W := []) (H := []) Tryz.func112 z0rb trivial rfl rfl (fun av x => by kernel_rfl)
def z084 (n : GNet) (c : GCase) : Option (GCase × Bool) := (z04f c).bind fun x1 => ((z05a n c).bind fun x2 => (if x2 = true then (if decide (c.state = 1) = true then (some ((GCase.mk 3 x1.marks ([] : List GItem) x1.data x1.did), true)) else (some (x1, false))) else (some (x1, false))))
def z0bh : Con := ⟨23, [.v (.s .net) false, .v (.s .kase) false], [((.s .kase), true), (.B, true)], [], fun x => z084 x.1 x.2.1⟩
def z0qn : Fs := ⟨[z078, z01v], [], []⟩
theorem z0ra : z0qn.Ok Tryz.prog := (fsK z0er (fsK z0bt fs0))
theorem z0s1 : z0bh.Ok Tryz.prog := fn_ok (k := z0bh) (fn := Tryz.f23) (W := []) (H := []) Tryz.func23 z0ra trivial rfl rfl (fun av x => by kernel_rfl)
def z018 (c : GCase) : Option GCase := (z03f c.marks).bind fun x1 => (gd (([] : List GItem).length + c.busy.length ≤ SMALL) ((z03f c.data).bind fun x3 => (gd (([] : List GDid).length + c.did.length ≤ SMALL) (some (GCase.mk c.state x1 (([] : List GItem) ++ c.busy) x3 (([] : List GDid) ++ c.did))))))
def z03m : Con := ⟨84, [.v (.s .kase) false], [((.s .kase), true)], [], fun x => z018 x.1⟩
def z0h5 : Fs := ⟨[z05o], [], []⟩
theorem z0ha : z0h5.Ok Tryz.prog := (fsK z0eq fs0)
theorem z091 : z03m.Ok Tryz.prog := fn_ok (k := z03m) (fn := Tryz.f84) (W := []) (H := []) Tryz.func84 z0ha trivial rfl rfl (fun av x => by kernel_rfl)
def z0eh  : Option Int := some (-1)
def z03e (s : List Int) (p : Int → Option Bool) (p0_0 : Int) (kx0_0 : Option Int) : Nat → Int → Option Int
  | 0, _ => none
  | n0 + 1, s0_0 => if decide (s0_0 < p0_0) = true then ((getI s s0_0).bind fun x2 => ((p x2).bind fun x3 => (if x3 = true then (some s0_0) else (gd (ok64 (s0_0 + 1)) ((z03e s p p0_0 kx0_0 n0) (s0_0 + 1)))))) else (kx0_0)
def z09m (s : List Int) (p : Int → Option Bool) : Option Int := z03e s p (s.length : Int) z0eh FUEL 0
def z02f : Con := ⟨175, [.v (.sl .I) false, .fn .I], [(.I, true)], [], fun x => z09m x.1 x.2.1⟩
def z0t1 : Fs := ⟨[], [], []⟩
theorem z0jq : z0t1.Ok Tryz.prog := fs0
def z0gl : Tmpl := ⟨[(0, .c (.s .I)), (1, .c .fp), (7, .c .i), (8, .c .i)], []⟩
def z0f4 : Tmpl := ⟨[], []⟩
def z0o3 (av : AV) (x : HP z02f.ps) (n : Nat) (v : z0gl.den) (K : Ks (CR z02f)) : Option (CR z02f) := z03e v.1.1 x.2.1 v.1.2.2.1 (z0f4.at (fpOf z02f.ps x av) ((), ()) (K (.exit 0))) n v.1.2.2.2.1
def z0g3 (av : AV) (x : HP z02f.ps) : Hdl (CR z02f) := hnd [] z0gl (z0o3 av x)
theorem z0ot : LP z02f Tryz.f175 [0] z0g3 := lp_ok (W := []) (H := []) (xs := [z0f4]) z0jq trivial rfl (fun av x v K => by kernel_rfl) (fun av x n v K => by kernel_rfl)
theorem z0ud : z02f.Ok Tryz.prog := fn_ok (k := z02f) (fn := Tryz.f175) (W := []) (H := [z0g3]) Tryz.func175 z0jq ⟨z0ot, trivial⟩ rfl rfl (fun av x => by kernel_rfl)
def z01e (s : List Int) (p : Int → Option Bool) : Option Bool := (z09m s p).bind fun x1 => (some (decide (0 ≤ x1)))
def z02o : Con := ⟨118, [.v (.sl .I) false, .fn .I], [(.B, true)], [], fun x => z01e x.1 x.2.1⟩
def z0lr : Fs := ⟨[z02f], [], []⟩
theorem z0m0 : z0lr.Ok Tryz.prog := (fsK z0ud fs0)
theorem z04g : z02o.Ok Tryz.prog := fn_ok (k := z02o) (fn := Tryz.f118) (W := []) (H := []) Tryz.func118 z0m0 trivial rfl rfl (fun av x => by kernel_rfl)
def z08q  : Option Int := some (-1)
def z01l (s : List GTask) (p : GTask → Option Bool) (p0_0 : Int) (kx0_0 : Option Int) : Nat → Int → Option Int
  | 0, _ => none
  | n0 + 1, s0_0 => if decide (s0_0 < p0_0) = true then ((getI s s0_0).bind fun x2 => ((p x2).bind fun x3 => (if x3 = true then (some s0_0) else (gd (ok64 (s0_0 + 1)) ((z01l s p p0_0 kx0_0 n0) (s0_0 + 1)))))) else (kx0_0)
def z04z (s : List GTask) (p : GTask → Option Bool) : Option Int := z01l s p (s.length : Int) z08q FUEL 0
def z00t : Con := ⟨176, [.v (.sl (.s .task)) false, .fn (.s .task)], [(.I, true)], [], fun x => z04z x.1 x.2.1⟩
def z0kk : Fs := ⟨[], [], []⟩
theorem z0c3 : z0kk.Ok Tryz.prog := fs0
def z0a4 : Tmpl := ⟨[(0, .c (.s (.s .task))), (1, .c .fp), (7, .c .i), (8, .c .i)], []⟩
def z09a : Tmpl := ⟨[], []⟩
def z0ho (av : AV) (x : HP z00t.ps) (n : Nat) (v : z0a4.den) (K : Ks (CR z00t)) : Option (CR z00t) := z01l v.1.1 x.2.1 v.1.2.2.1 (z09a.at (fpOf z00t.ps x av) ((), ()) (K (.exit 0))) n v.1.2.2.2.1
def z09f (av : AV) (x : HP z00t.ps) : Hdl (CR z00t) := hnd [] z0a4 (z0ho av x)
theorem z0ik : LP z00t Tryz.f176 [0] z09f := lp_ok (W := []) (H := []) (xs := [z09a]) z0c3 trivial rfl (fun av x v K => by kernel_rfl) (fun av x n v K => by kernel_rfl)
theorem z0kz : z00t.Ok Tryz.prog := fn_ok (k := z00t) (fn := Tryz.f176) (W := []) (H := [z09f]) Tryz.func176 z0c3 ⟨z0ik, trivial⟩ rfl rfl (fun av x => by kernel_rfl)
def z03p (s : List GTask) (p : GTask → Option Bool) : Option Bool := (z04z s p).bind fun x1 => (some (decide (0 ≤ x1)))
def z059 : Con := ⟨123, [.v (.sl (.s .task)) false, .fn (.s .task)], [(.B, true)], [], fun x => z03p x.1 x.2.1⟩
def z0h4 : Fs := ⟨[z00t], [], []⟩
theorem z0h9 : z0h4.Ok Tryz.prog := (fsK z0kz fs0)
theorem z0hh : z059.Ok Tryz.prog := fn_ok (k := z059) (fn := Tryz.f123) (W := []) (H := []) Tryz.func123 z0h9 trivial rfl rfl (fun av x => by kernel_rfl)
def z08p  : Option Int := some (-1)
def z01k (s : List GItem) (p : GItem → Option Bool) (p0_0 : Int) (kx0_0 : Option Int) : Nat → Int → Option Int
  | 0, _ => none
  | n0 + 1, s0_0 => if decide (s0_0 < p0_0) = true then ((getI s s0_0).bind fun x2 => ((p x2).bind fun x3 => (if x3 = true then (some s0_0) else (gd (ok64 (s0_0 + 1)) ((z01k s p p0_0 kx0_0 n0) (s0_0 + 1)))))) else (kx0_0)
def z04y (s : List GItem) (p : GItem → Option Bool) : Option Int := z01k s p (s.length : Int) z08p FUEL 0
def z00s : Con := ⟨169, [.v (.sl (.s .item)) false, .fn (.s .item)], [(.I, true)], [], fun x => z04y x.1 x.2.1⟩
def z0kj : Fs := ⟨[], [], []⟩
theorem z0c2 : z0kj.Ok Tryz.prog := fs0
def z0a3 : Tmpl := ⟨[(0, .c (.s (.s .item))), (1, .c .fp), (7, .c .i), (8, .c .i)], []⟩
def z099 : Tmpl := ⟨[], []⟩
def z0hn (av : AV) (x : HP z00s.ps) (n : Nat) (v : z0a3.den) (K : Ks (CR z00s)) : Option (CR z00s) := z01k v.1.1 x.2.1 v.1.2.2.1 (z099.at (fpOf z00s.ps x av) ((), ()) (K (.exit 0))) n v.1.2.2.2.1
def z09e (av : AV) (x : HP z00s.ps) : Hdl (CR z00s) := hnd [] z0a3 (z0hn av x)
theorem z0ij : LP z00s Tryz.f169 [0] z09e := lp_ok (W := []) (H := []) (xs := [z099]) z0c2 trivial rfl (fun av x v K => by kernel_rfl) (fun av x n v K => by kernel_rfl)
theorem z0ky : z00s.Ok Tryz.prog := fn_ok (k := z00s) (fn := Tryz.f169) (W := []) (H := [z09e]) Tryz.func169 z0c2 ⟨z0ij, trivial⟩ rfl rfl (fun av x => by kernel_rfl)
def z03o (s : List GItem) (p : GItem → Option Bool) : Option Bool := (z04y s p).bind fun x1 => (some (decide (0 ≤ x1)))
def z058 : Con := ⟨107, [.v (.sl (.s .item)) false, .fn (.s .item)], [(.B, true)], [], fun x => z03o x.1 x.2.1⟩
def z0h3 : Fs := ⟨[z00s], [], []⟩
theorem z0h8 : z0h3.Ok Tryz.prog := (fsK z0ky fs0)
theorem z0hg : z058.Ok Tryz.prog := fn_ok (k := z058) (fn := Tryz.f107) (W := []) (H := []) Tryz.func107 z0h8 trivial rfl rfl (fun av x => by kernel_rfl)
def z0n5  : Option Int := some (-1)
def z06k (s : List Int) (v : Int) (p0_0 : Int) (kx0_0 : Option Int) : Nat → Int → Option Int
  | 0, _ => none
  | n0 + 1, s0_0 => if decide (s0_0 < p0_0) = true then ((getI s s0_0).bind fun x2 => (if decide (v = x2) = true then (some s0_0) else (gd (ok64 (s0_0 + 1)) ((z06k s v p0_0 kx0_0 n0) (s0_0 + 1))))) else (kx0_0)
def z0l5 (s : List Int) (v : Int) : Option Int := z06k s v (s.length : Int) z0n5 FUEL 0
def z081 : Con := ⟨163, [.v (.sl .I) false, .v .I false], [(.I, true)], [], fun x => z0l5 x.1 x.2.1⟩
def z12v : Fs := ⟨[], [], []⟩
theorem z0y1 : z12v.Ok Tryz.prog := fs0
def z0px : Tmpl := ⟨[(0, .c (.s .I)), (1, .c .i), (7, .c .i), (8, .c .i)], []⟩
def z0o0 : Tmpl := ⟨[], []⟩
def z0yw (av : AV) (x : HP z081.ps) (n : Nat) (v : z0px.den) (K : Ks (CR z081)) : Option (CR z081) := z06k v.1.1 v.1.2.1 v.1.2.2.1 (z0o0.at none ((), ()) (K (.exit 0))) n v.1.2.2.2.1
def z0pn (av : AV) (x : HP z081.ps) : Hdl (CR z081) := hnd [] z0px (z0yw av x)
theorem z0z8 : LP z081 Tryz.f163 [0] z0pn := lp_ok (W := []) (H := []) (xs := [z0o0]) z0y1 trivial rfl (fun av x v K => by kernel_rfl) (fun av x n v K => by kernel_rfl)
theorem z139 : z081.Ok Tryz.prog := fn_ok (k := z081) (fn := Tryz.f163) (W := []) (H := [z0pn]) Tryz.func163 z0y1 ⟨z0z8, trivial⟩ rfl rfl (fun av x => by kernel_rfl)
def z06j (s : List Int) (v : Int) : Option Bool := (z0l5 s v).bind fun x1 => (some (decide (0 ≤ x1)))
def z08m : Con := ⟨92, [.v (.sl .I) false, .v .I false], [(.B, true)], [], fun x => z06j x.1 x.2.1⟩
def z0vo : Fs := ⟨[z081], [], []⟩
theorem z0w6 : z0vo.Ok Tryz.prog := (fsK z139 fs0)
theorem z0hi : z08m.Ok Tryz.prog := fn_ok (k := z08m) (fn := Tryz.f92) (W := []) (H := []) Tryz.func92 z0w6 trivial rfl rfl (fun av x => by kernel_rfl)
def z0gb  : Option Int := some (-1)
def z03u (s : List GDid) (v : GDid) (p0_0 : Int) (kx0_0 : Option Int) : Nat → Int → Option Int
  | 0, _ => none
  | n0 + 1, s0_0 => if decide (s0_0 < p0_0) = true then ((getI s s0_0).bind fun x2 => (if decide ([v.task, v.who] = [x2.task, x2.who]) = true then (some s0_0) else (gd (ok64 (s0_0 + 1)) ((z03u s v p0_0 kx0_0 n0) (s0_0 + 1))))) else (kx0_0)
def z0bl (s : List GDid) (v : GDid) : Option Int := z03u s v (s.length : Int) z0gb FUEL 0
def z03l : Con := ⟨204, [.v (.sl (.s .did)) false, .v (.s .did) false], [(.I, true)], [], fun x => z0bl x.1 x.2.1⟩
def z0vp : Fs := ⟨[], [], []⟩
theorem z0m1 : z0vp.Ok Tryz.prog := fs0
def z0j0 : Tmpl := ⟨[(0, .c (.s (.s .did))), (3, .c (.bx 3 0)), (7, .c .i), (8, .c .i)], [(3, .boxT (.s .did))]⟩
def z0gt : Tmpl := ⟨[], []⟩
def z0pz (av : AV) (x : HP z03l.ps) (n : Nat) (v : z0j0.den) (K : Ks (CR z03l)) : Option (CR z03l) := z03u v.1.1 v.2.1 v.1.2.2.1 (z0gt.at none ((), ()) (K (.exit 0))) n v.1.2.2.2.1
def z0i5 (av : AV) (x : HP z03l.ps) : Hdl (CR z03l) := hnd [] z0j0 (z0pz av x)
theorem z0rh : LP z03l Tryz.f204 [0] z0i5 := lp_ok (W := []) (H := []) (xs := [z0gt]) z0m1 trivial rfl (fun av x v K => by kernel_rfl) (fun av x n v K => by kernel_rfl)
theorem z0wl : z03l.Ok Tryz.prog := fn_ok (k := z03l) (fn := Tryz.f204) (W := []) (H := [z0i5]) Tryz.func204 z0m1 ⟨z0rh, trivial⟩ rfl rfl (fun av x => by kernel_rfl)
def z0ad (s : List GDid) (v : GDid) : Option Bool := (z0bl s v).bind fun x1 => (some (decide (0 ≤ x1)))
def z0a9 : Con := ⟨170, [.v (.sl (.s .did)) false, .v (.s .did) false], [(.B, true)], [], fun x => z0ad x.1 x.2.1⟩
def z0oc : Fs := ⟨[z03l], [], []⟩
theorem z0on : z0oc.Ok Tryz.prog := (fsK z0wl fs0)
theorem z0p3 : z0a9.Ok Tryz.prog := fn_ok (k := z0a9) (fn := Tryz.f170) (W := []) (H := []) Tryz.func170 z0on trivial rfl rfl (fun av x => by kernel_rfl)
def z0bm (n : Int) : Option Bool := (z05s n).bind fun x1 => (some (!x1))
def z0bw : FCon := ⟨162, .I, [], fun z c => z0bm z ⟩
def z0qf : Fs := ⟨[z082], [], []⟩
theorem z0r4 : z0qf.Ok Tryz.prog := (fsK z0iq fs0)
theorem z0rv : z0bw.Ok Tryz.prog := FCon.ok (fn_ok (k := z0bw.con) (fn := Tryz.f162) (W := []) (H := []) Tryz.func162 z0r4 trivial rfl rfl (fun av x => by kernel_rfl))
def z08s (data : List Int) : Option Bool := if decide ((data.length : Int) = 3) = true then ((z01e data (fun z => z0bm z )).bind fun x2 => (some (!x2))) else (some false)
def z0bc : Con := ⟨91, [.v (.sl .I) false], [(.B, true)], [], fun x => z08s x.1⟩
def z0vr : Fs := ⟨[z02o], [z0bw], []⟩
theorem z0w7 : z0vr.Ok Tryz.prog := (fsK z04g (fsF z0rv fs0))
theorem z0n8 : z0bc.Ok Tryz.prog := fn_ok (k := z0bc) (fn := Tryz.f91) (W := []) (H := []) Tryz.func91 z0w7 trivial rfl rfl (fun av x => by kernel_rfl)
def z0cd  : Option Bool := some true
def z02u (list : List Int) (places : Int) (without : List Int) (p0_0 : Int) (kx0_0 : Option Bool) : Nat → Int → Int → Option Bool
  | 0, _, _ => none
  | n0 + 1, s0_0, s0_1 => if decide (s0_0 < p0_0) = true then ((getI list s0_0).bind fun x2 => (gd (ok64 (s0_1 + 1)) (gd (ok64 (places - 1)) ((z016 x2 (s0_1 + 1) (places - 1)).bind fun x5 => (if x5 = true then ((z06j without x2).bind fun x7 => (if x7 = true then (some false) else (gd (ok64 (s0_0 + 1)) ((z02u list places without p0_0 kx0_0 n0) (s0_0 + 1) x2)))) else (some false)))))) else (kx0_0)
def z05r (list : List Int) (places : Int) (without : List Int) : Option Bool := z02u list places without (list.length : Int) z0cd FUEL 0 (-1)
def z026 : Con := ⟨178, [.v (.sl .I) false, .v .I false, .v (.sl .I) false], [(.B, true)], [], fun x => z05r x.1 x.2.1 x.2.2.1⟩
def z0qi : Fs := ⟨[z02z, z08m], [], []⟩
theorem z0hx : z0qi.Ok Tryz.prog := (fsK z03s (fsK z0hi fs0))
def z0et : Tmpl := ⟨[(1, .c .i), (2, .c (.s .I)), (7, .c .i), (10, .c (.s .I)), (11, .c .i), (12, .c .i)], []⟩
def z0cv : Tmpl := ⟨[], []⟩
def z0lc (av : AV) (x : HP z026.ps) (n : Nat) (v : z0et.den) (K : Ks (CR z026)) : Option (CR z026) := z02u v.1.2.2.2.1 v.1.1 v.1.2.1 v.1.2.2.2.2.1 (z0cv.at none ((), ()) (K (.exit 0))) n v.1.2.2.2.2.2.1 v.1.2.2.1
def z0dr (av : AV) (x : HP z026.ps) : Hdl (CR z026) := hnd [] z0et (z0lc av x)
theorem z0mr : LP z026 Tryz.f178 [0] z0dr := lp_ok (W := []) (H := []) (xs := [z0cv]) z0hx trivial rfl (fun av x v K => by kernel_rfl) (fun av x n v K => by kernel_rfl)
theorem z0ry : z026.Ok Tryz.prog := fn_ok (k := z026) (fn := Tryz.f178) (W := []) (H := [z0dr]) Tryz.func178 z0hx ⟨z0mr, trivial⟩ rfl rfl (fun av x => by kernel_rfl)
def z045 (t : GTask) : Option Bool := (z016 (t.out.length : Int) 1 3).bind fun x21 => (some x21)
def z00q (t : GTask) (places : Int) (p0_0 : List GFlow) (p0_1 : Int) (kx0_0 : Option Bool) : Nat → Int → List Int → Option Bool
  | 0, _, _ => none
  | n0 + 1, s0_0, m0_1 => if decide (s0_0 < p0_1) = true then ((getI p0_0 s0_0).bind fun x2 => (if decide (t.split = 1) = true then (gd (ok64 (places - 1)) ((z016 x2.to 0 (places - 1)).bind fun x5 => (if x5 = true then (if decide (x2.to ∈ m0_1) = true then (some false) else ((z08t x2.if_).bind fun x8 => (if x8 = true then (if ((decide (x2.if_.op = 0)) == true) = true then (gd (ok64 (s0_0 + 1)) ((z00q t places p0_0 p0_1 kx0_0 n0) (s0_0 + 1) (insKey m0_1 x2.to))) else (some false)) else (some false)))) else (some false)))) else (gd (ok64 ((t.out.length : Int) - 1)) (gd (ok64 (places - 1)) ((z016 x2.to 0 (places - 1)).bind fun x14 => (if x14 = true then (if decide (x2.to ∈ m0_1) = true then (some false) else ((z08t x2.if_).bind fun x17 => (if x17 = true then (if ((decide (x2.if_.op = 0)) == (decide (s0_0 = ((t.out.length : Int) - 1)))) = true then (gd (ok64 (s0_0 + 1)) ((z00q t places p0_0 p0_1 kx0_0 n0) (s0_0 + 1) (insKey m0_1 x2.to))) else (some false)) else (some false)))) else (some false))))))) else (kx0_0)
def z03r (t : GTask) (places : Int) : Option Bool := z00q t places t.out (t.out.length : Int) (z045 t) FUEL 0 (insKey ([] : List Int) 0)
def z00k : Con := ⟨179, [.v (.s .task) false, .v .I false], [(.B, true)], [], fun x => z03r x.1 x.2.1⟩
def z0h7 : Fs := ⟨[z02z, z0hc], [], []⟩
theorem z08i : z0h7.Ok Tryz.prog := (fsK z03s (fsK z0wm fs0))
def z07h : Tmpl := ⟨[(1, .c .i), (2, .c (.bx 2 0)), (5, .c (.bx 9 0)), (12, .c (.s (.s .flow))), (13, .c .i), (14, .c .i)], [(2, .boxT (.s .task)), (9, .mp)]⟩
def z06g : Tmpl := ⟨[(2, .c (.bx 2 0))], [(2, .boxT (.s .task))]⟩
def z0dl (av : AV) (x : HP z00k.ps) (n : Nat) (v : z07h.den) (K : Ks (CR z00k)) : Option (CR z00k) := z00q v.2.1 v.1.1 v.1.2.2.2.1 v.1.2.2.2.2.1 (z06g.at none (((), ()), (v.2.1, ())) (K (.exit 0))) n v.1.2.2.2.2.2.1 v.2.2.1
def z077 (av : AV) (x : HP z00k.ps) : Hdl (CR z00k) := hnd [] z07h (z0dl av x)
theorem z0eg : LP z00k Tryz.f179 [0] z077 := lp_ok (W := []) (H := []) (xs := [z06g]) z08i trivial rfl (fun av x v K => by kernel_rfl) (fun av x n v K => by kernel_rfl)
theorem z0hj : z00k.Ok Tryz.prog := fn_ok (k := z00k) (fn := Tryz.f179) (W := []) (H := [z077]) Tryz.func179 z08i ⟨z0eg, trivial⟩ rfl rfl (fun av x => by kernel_rfl)
def z051 (t : GTask) (places : Int) (tasks : Int) : Option Bool := (z09r t.join).bind fun x1 => (if x1 = true then ((z09r t.split).bind fun x3 => (if x3 = true then ((z016 (t.in_.length : Int) 1 3).bind fun x5 => (if x5 = true then ((z05r t.in_ places [1]).bind fun x7 => (if x7 = true then ((z03r t places).bind fun x9 => (if x9 = true then ((z05r t.clear places [0, 1]).bind fun x11 => (if x11 = true then ((z07b t.role).bind fun x13 => (if x13 = true then (gd (ok64 (tasks - 1)) ((z016 t.apart (-1) (tasks - 1)).bind fun x16 => (if x16 = true then ((z016 t.all 1 3).bind fun x18 => (if x18 = true then ((z016 t.need 1 t.all).bind fun x20 => (some x20)) else (some false))) else (some false)))) else (some false))) else (some false))) else (some false))) else (some false))) else (some false))) else (some false))) else (some false))
def z07m : Con := ⟨125, [.v (.s .task) false, .v .I false, .v .I false], [(.B, true)], [], fun x => z051 x.1 x.2.1 x.2.2.1⟩
def z0km : Fs := ⟨[z0e7, z02z, z026, z00k, z09j], [], []⟩
theorem z0ko : z0km.Ok Tryz.prog := (fsK z0ui (fsK z03s (fsK z0ry (fsK z0hj (fsK z0jz fs0)))))
theorem z0l1 : z07m.Ok Tryz.prog := fn_ok (k := z07m) (fn := Tryz.f125) (W := []) (H := []) Tryz.func125 z0ko trivial rfl rfl (fun av x => by kernel_rfl)
def z0bn (t : GTask) (n : GNet) : Option Bool := (z051 t n.places (n.tasks.length : Int)).bind fun x1 => (some (!x1))
def z0bx : FCon := ⟨124, (.s .task), [(.s .net)], fun z c => z0bn z c.1⟩
def z0qg : Fs := ⟨[z07m], [], []⟩
theorem z0r5 : z0qg.Ok Tryz.prog := (fsK z0l1 fs0)
theorem z0rw : z0bx.Ok Tryz.prog := FCon.ok (fn_ok (k := z0bx.con) (fn := Tryz.f124) (W := []) (H := []) Tryz.func124 z0r5 trivial rfl rfl (fun av x => by kernel_rfl))
def z08v (n : GNet) : Option Bool := (z0bq n.places (n.tasks.length : Int)).bind fun x1 => (if x1 = true then ((z03p n.tasks (fun z => z0bn z n)).bind fun x3 => (some (!x3))) else (some false))
def z0be : Con := ⟨52, [.v (.s .net) false], [(.B, true)], [], fun x => z08v x.1⟩
def z0vu : Fs := ⟨[z0bg, z059], [z0bx], []⟩
theorem z0wa : z0vu.Ok Tryz.prog := (fsK z0s0 (fsK z0hh (fsF z0rw fs0)))
theorem z0na : z0be.Ok Tryz.prog := fn_ok (k := z0be) (fn := Tryz.f52) (W := []) (H := []) Tryz.func52 z0wa trivial rfl rfl (fun av x => by kernel_rfl)
def z03b (p : Int) (out : List Bool) : Option Bool := (getI out p).bind fun x1 => (some x1)
def z04n : FCon := ⟨217, .I, [(.sl .B)], fun z c => z03b z c.1⟩
def z0fp : Fs := ⟨[], [], []⟩
theorem z0fs : z0fp.Ok Tryz.prog := fs0
theorem z0fy : z04n.Ok Tryz.prog := FCon.ok (fn_ok (k := z04n.con) (fn := Tryz.f217) (W := []) (H := []) Tryz.func217 z0fs trivial rfl rfl (fun av x => by kernel_rfl))
def z079 (s1_0 : List GTask) (s1_1 : Int) (s1_2 : Int) (bk1 : List GTask → Int → Int → Bool → List Bool → Option (List Bool)) (s2_1 : Bool) (l2_2 : List Bool) : Option (List Bool) := gd (ok64 (s1_2 + 1)) (bk1 s1_0 s1_1 (s1_2 + 1) s2_1 l2_2)
def z00a (p2_0 : List GFlow) (p2_1 : Int) (kx2_0 : Bool → List Bool → Option (List Bool)) : Nat → Int → Bool → List Bool → Option (List Bool)
  | 0, _, _, _ => none
  | n2 + 1, s2_0, s2_1, l2_2 => if decide (s2_0 < p2_1) = true then ((getI p2_0 s2_0).bind fun x11 => (if s2_1 = true then ((getI l2_2 x11.to).bind fun x13 => (gd (ok64 (s2_0 + 1)) ((z00a p2_0 p2_1 kx2_0 n2) (s2_0 + 1) true (l2_2.set x11.to.toNat true)))) else ((getI l2_2 x11.to).bind fun x15 => ((getI l2_2 x11.to).bind fun x16 => (gd (ok64 (s2_0 + 1)) ((z00a p2_0 p2_1 kx2_0 n2) (s2_0 + 1) (!x15) (l2_2.set x11.to.toNat true))))))) else (kx2_0 s2_1 l2_2)
def z04c (bk0 : Bool → List Bool → Option (List Bool)) (s1_3 : Bool) (l1_4 : List Bool) : Option (List Bool) := bk0 s1_3 l1_4
def z006 (but : Int) (kx1_0 : Bool → List Bool → Option (List Bool)) : Nat → List GTask → Int → Int → Bool → List Bool → Option (List Bool)
  | 0, _, _, _, _, _ => none
  | n1 + 1, s1_0, s1_1, s1_2, s1_3, l1_4 => if decide (s1_2 < s1_1) = true then ((getI s1_0 s1_2).bind fun x5 => (if decide (s1_2 = but) = true then (gd (ok64 (s1_2 + 1)) ((z006 but kx1_0 n1) s1_0 s1_1 (s1_2 + 1) s1_3 l1_4)) else ((z01e x5.in_ (fun z => z03b z l1_4)).bind fun x8 => (if x8 = true then (z00a x5.out (x5.out.length : Int) (z079 s1_0 s1_1 s1_2 (z006 but kx1_0 n1)) FUEL 0 s1_3 l1_4) else (gd (ok64 (s1_2 + 1)) ((z006 but kx1_0 n1) s1_0 s1_1 (s1_2 + 1) s1_3 l1_4)))))) else (kx1_0 s1_3 l1_4)
def z07a (l0_1 : List Bool) : Option (List Bool) := some l0_1
def z00j (n : GNet) (but : Int) (kx0_0 : List Bool → Option (List Bool)) : Nat → Bool → List Bool → Option (List Bool)
  | 0, _, _ => none
  | n0 + 1, s0_0, l0_1 => if s0_0 = true then (z006 but (z04c (z00j n but kx0_0 n0)) FUEL n.tasks (n.tasks.length : Int) 0 false l0_1) else (kx0_0 l0_1)
def z04a (n : GNet) (place : Int) (but : Int) : Option (List Bool) := gd ((0 : Int) ≤ n.places ∧ n.places ≤ (1000000000 : Int)) ((getI (List.replicate n.places.toNat false) place).bind fun x2 => (z00j n but z07a FUEL true ((List.replicate n.places.toNat false).set place.toNat true)))
def z001 : Con := ⟨202, [.v (.s .net) false, .v .I false, .v .I false], [((.sl .B), true)], [], fun x => z04a x.1 x.2.1 x.2.2.1⟩
def z0hw : Fs := ⟨[z02o], [z04n], []⟩
theorem z049 : z0hw.Ok Tryz.prog := (fsK z04g (fsF z0fy fs0))
def z05j : Tmpl := ⟨[(2, .c .i), (3, .c (.bx 3 0)), (7, .c (.bx 7 0)), (8, .c .b), (21, .c (.s (.s .task))), (22, .c .i), (23, .c .i), (39, .c (.s (.s .flow))), (40, .c .i), (41, .c .i)], [(3, .boxT (.s .net)), (7, .box [.ref 15]), (15, .arr .B true)]⟩
def z04w : Tmpl := ⟨[(2, .c .i), (3, .c (.bx 3 0)), (7, .c (.bx 7 0)), (8, .c .b), (21, .c (.s (.s .task))), (22, .c .i), (23, .c .i)], [(3, .boxT (.s .net)), (7, .box [.ref 15]), (15, .arr .B true)]⟩
def z0ai (av : AV) (x : HP z001.ps) (n : Nat) (v : z05j.den) (K : Ks (CR z001)) : Option (CR z001) := z00a v.1.2.2.2.2.2.2.2.1 v.1.2.2.2.2.2.2.2.2.1 (fun s2_1 l2_2 => z04w.at none ((v.1.1, (), (), s2_1, v.1.2.2.2.2.1, v.1.2.2.2.2.2.1, v.1.2.2.2.2.2.2.1, ()), (v.2.1, ((), ()), l2_2, ())) (K (.exit 4))) n v.1.2.2.2.2.2.2.2.2.2.1 v.1.2.2.2.1 v.2.2.2.1
def z05f (av : AV) (x : HP z001.ps) : Hdl (CR z001) := hnd [] z05j (z0ai av x)
theorem z0ao : LP z001 Tryz.f202 [0, 0, 0] z05f := lp_ok (W := []) (H := []) (xs := [z04w]) z049 trivial rfl (fun av x v K => by kernel_rfl) (fun av x n v K => by kernel_rfl)
def z06e : Tmpl := ⟨[(2, .c .i), (3, .c (.bx 3 0)), (7, .c (.bx 7 0)), (8, .c .b), (21, .c (.s (.s .task))), (22, .c .i), (23, .c .i)], [(3, .boxT (.s .net)), (7, .box [.ref 15]), (15, .arr .B true)]⟩
def z065 : Tmpl := ⟨[(2, .c .i), (3, .c (.bx 3 0)), (7, .c (.bx 7 0)), (8, .c .b)], [(3, .boxT (.s .net)), (7, .box [.ref 15]), (15, .arr .B true)]⟩
def z0d8 (av : AV) (x : HP z001.ps) (n : Nat) (v : z06e.den) (K : Ks (CR z001)) : Option (CR z001) := z006 v.1.1 (fun s1_3 l1_4 => z065.at none ((v.1.1, (), (), s1_3, ()), (v.2.1, ((), ()), l1_4, ())) (K (.exit 2))) n v.1.2.2.2.2.1 v.1.2.2.2.2.2.1 v.1.2.2.2.2.2.2.1 v.1.2.2.2.1 v.2.2.2.1
def z069 (av : AV) (x : HP z001.ps) : Hdl (CR z001) := hnd [] z06e (z0d8 av x)
theorem z0dg : LP z001 Tryz.f202 [0, 0] z069 := lp_ok (W := []) (H := [z05f]) (xs := [z065]) z049 ⟨z0ao, trivial⟩ rfl (fun av x v K => by kernel_rfl) (fun av x n v K => by kernel_rfl)
def z07x : Tmpl := ⟨[(2, .c .i), (3, .c (.bx 3 0)), (7, .c (.bx 7 0)), (8, .c .b)], [(3, .boxT (.s .net)), (7, .box [.ref 15]), (15, .arr .B true)]⟩
def z07i : Tmpl := ⟨[(7, .c (.bx 7 0))], [(7, .box [.ref 15]), (15, .arr .B true)]⟩
def z0fj (av : AV) (x : HP z001.ps) (n : Nat) (v : z07x.den) (K : Ks (CR z001)) : Option (CR z001) := z00j v.2.1 v.1.1 (fun l0_1 => z07i.at none (((), ()), (((), ()), l0_1, ())) (K (.exit 0))) n v.1.2.2.2.1 v.2.2.2.1
def z07r (av : AV) (x : HP z001.ps) : Hdl (CR z001) := hnd [] z07x (z0fj av x)
theorem z0ft : LP z001 Tryz.f202 [0] z07r := lp_ok (W := []) (H := [z069]) (xs := [z07i]) z049 ⟨z0dg, trivial⟩ rfl (fun av x v K => by kernel_rfl) (fun av x n v K => by kernel_rfl)
theorem z0ip : z001.Ok Tryz.prog := fn_ok (k := z001) (fn := Tryz.f202) (W := []) (H := [z07r]) Tryz.func202 z049 ⟨z0ft, trivial⟩ rfl rfl (fun av x => by kernel_rfl)
def z044 (m : Int) : Option Bool := (z016 m 0 4).bind fun x1 => (some (!x1))
def z047 : FCon := ⟨199, .I, [], fun z c => z044 z ⟩
def z0da : Fs := ⟨[z02z], [], []⟩
theorem z0dc : z0da.Ok Tryz.prog := (fsK z03s fs0)
theorem z0di : z047.Ok Tryz.prog := FCon.ok (fn_ok (k := z047.con) (fn := Tryz.f199) (W := []) (H := []) Tryz.func199 z0dc trivial rfl rfl (fun av x => by kernel_rfl))
def z03a (n : GNet) (marks : List Int) : Option Bool := if decide ((marks.length : Int) = n.places) = true then ((z01e marks (fun z => z044 z )).bind fun x2 => (some (!x2))) else (some false)
def z04m : Con := ⟨164, [.v (.s .net) false, .v (.sl .I) false], [(.B, true)], [], fun x => z03a x.1 x.2.1⟩
def z0fo : Fs := ⟨[z02o], [z047], []⟩
theorem z0fr : z0fo.Ok Tryz.prog := (fsK z04g (fsF z0di fs0))
theorem z0fx : z04m.Ok Tryz.prog := fn_ok (k := z04m) (fn := Tryz.f164) (W := []) (H := []) Tryz.func164 z0fr trivial rfl rfl (fun av x => by kernel_rfl)
def z08u (n : GNet) (marks : List Int) : Option Bool := (z08v n).bind fun x1 => (if x1 = true then ((z03a n marks).bind fun x3 => (some x3)) else (some false))
def z0bd : Con := ⟨94, [.v (.s .net) false, .v (.sl .I) false], [(.B, true)], [], fun x => z08u x.1 x.2.1⟩
def z0vt : Fs := ⟨[z0be, z04m], [], []⟩
theorem z0w9 : z0vt.Ok Tryz.prog := (fsK z0na (fsK z0fx fs0))
theorem z0n9 : z0bd.Ok Tryz.prog := fn_ok (k := z0bd) (fn := Tryz.f94) (W := []) (H := []) Tryz.func94 z0w9 trivial rfl rfl (fun av x => by kernel_rfl)
def z06a (busy : List GItem) : Option Bool := some (decide ((busy.length : Int) ≤ 6))
def z012 (n : GNet) (p0_0 : List GItem) (p0_1 : Int) (kx0_0 : Option Bool) : Nat → Int → Option Bool
  | 0, _ => none
  | n0 + 1, s0_0 => if decide (s0_0 < p0_1) = true then ((getI p0_0 s0_0).bind fun x2 => ((z00i n x2.task).bind fun x3 => (if x3 = true then ((z04s x2.who).bind fun x5 => (if x5 = true then ((getI n.tasks x2.task).bind fun x7 => (gd (ok64 (x7.need - 1)) ((z016 x2.did 0 (x7.need - 1)).bind fun x9 => (if x9 = true then (gd (ok64 (s0_0 + 1)) ((z012 n p0_0 p0_1 kx0_0 n0) (s0_0 + 1))) else (some false))))) else (some false))) else (some false)))) else (kx0_0)
def z02q (n : GNet) (busy : List GItem) : Option Bool := z012 n busy (busy.length : Int) (z06a busy) FUEL 0
def z00f : Con := ⟨95, [.v (.s .net) false, .v (.sl (.s .item)) false], [(.B, true)], [], fun x => z02q x.1 x.2.1⟩
def z0h6 : Fs := ⟨[z01h, z06t, z02z], [], []⟩
theorem z08h : z0h6.Ok Tryz.prog := (fsK z03c (fsK z0gi (fsK z03s fs0)))
def z07g : Tmpl := ⟨[(1, .c (.s (.s .item))), (2, .c (.bx 2 0)), (7, .c (.s (.s .item))), (8, .c .i), (9, .c .i)], [(2, .boxT (.s .net))]⟩
def z06f : Tmpl := ⟨[(1, .c (.s (.s .item)))], []⟩
def z0dk (av : AV) (x : HP z00f.ps) (n : Nat) (v : z07g.den) (K : Ks (CR z00f)) : Option (CR z00f) := z012 v.2.1 v.1.2.2.1 v.1.2.2.2.1 (z06f.at none ((v.1.1, ()), ()) (K (.exit 0))) n v.1.2.2.2.2.1
def z076 (av : AV) (x : HP z00f.ps) : Hdl (CR z00f) := hnd [] z07g (z0dk av x)
theorem z0ef : LP z00f Tryz.f95 [0] z076 := lp_ok (W := []) (H := []) (xs := [z06f]) z08h trivial rfl (fun av x v K => by kernel_rfl) (fun av x n v K => by kernel_rfl)
theorem z092 : z00f.Ok Tryz.prog := fn_ok (k := z00f) (fn := Tryz.f95) (W := []) (H := [z076]) Tryz.func95 z08h ⟨z0ef, trivial⟩ rfl rfl (fun av x => by kernel_rfl)
def z043 (q : Int) (marks : List Int) (reach : List Bool) : Option Bool := (getI marks q).bind fun x1 => (if decide (x1 = 0) = true then ((getI reach q).bind fun x3 => (some x3)) else (some false))
def z046 : FCon := ⟨203, .I, [(.sl .I), (.sl .B)], fun z c => z043 z c.1 c.2.1⟩
def z0d9 : Fs := ⟨[], [], []⟩
theorem z0db : z0d9.Ok Tryz.prog := fs0
theorem z0dh : z046.Ok Tryz.prog := FCon.ok (fn_ok (k := z046.con) (fn := Tryz.f203) (W := []) (H := []) Tryz.func203 z0db trivial rfl rfl (fun av x => by kernel_rfl))
def z02e (s1_0 : Int) (s1_1 : Int) (bk1 : Int → Int → List Int → Option Bool) (l2_1 : List Int) : Option Bool := gd (ok64 (s1_1 + 1)) (bk1 s1_0 (s1_1 + 1) l2_1)
def z00y (p2_0 : List GFlow) (p2_1 : Int) (kx2_0 : List Int → Option Bool) : Nat → Int → List Int → Option Bool
  | 0, _, _ => none
  | n2 + 1, s2_0, l2_1 => if decide (s2_0 < p2_1) = true then ((getI p2_0 s2_0).bind fun x15 => (gd (l2_1.length + [x15.to].length ≤ SMALL) (gd (ok64 (s2_0 + 1)) ((z00y p2_0 p2_1 kx2_0 n2) (s2_0 + 1) (l2_1 ++ [x15.to]))))) else (kx2_0 l2_1)
def z03q  : Option Bool := some false
def z00n (n : GNet) (t : Int) (p0_0 : List Int) (p0_2 : List Int) (l1_2 : List Int) (p3_0 : Int) (kx3_0 : Option Bool) : Nat → Int → Option Bool
  | 0, _ => none
  | n3 + 1, s3_0 => if decide (s3_0 < p3_0) = true then ((getI l1_2 s3_0).bind fun x20 => ((z04a n x20 t).bind fun x21 => ((z01e p0_0 (fun z => z043 z p0_2 x21)).bind fun x22 => (if x22 = true then (some true) else (gd (ok64 (s3_0 + 1)) ((z00n n t p0_0 p0_2 l1_2 p3_0 kx3_0 n3) (s3_0 + 1))))))) else (kx3_0)
def z00x (n : GNet) (t : Int) (p0_0 : List Int) (p0_2 : List Int) (l1_2 : List Int) : Option Bool := z00n n t p0_0 p0_2 l1_2 (l1_2.length : Int) z03q FUEL 0
def z00e (n : GNet) (busy : List GItem) (kx1_0 : List Int → Option Bool) : Nat → Int → Int → List Int → Option Bool
  | 0, _, _, _ => none
  | n1 + 1, s1_0, s1_1, l1_2 => if decide (s1_1 < s1_0) = true then ((getI busy s1_1).bind fun x12 => ((getI n.tasks x12.task).bind fun x13 => (z00y x13.out (x13.out.length : Int) (z02e s1_0 s1_1 (z00e n busy kx1_0 n1)) FUEL 0 l1_2))) else (kx1_0 l1_2)
def z02d (n : GNet) (busy : List GItem) (t : Int) (p0_0 : List Int) (p0_2 : List Int) (l0_1 : List Int) : Option Bool := z00e n busy (z00x n t p0_0 p0_2) FUEL (busy.length : Int) 0 l0_1
def z00d (marks : List Int) (p0_0 : List Int) (p0_1 : Int) (kx0_0 : List Int → Option Bool) : Nat → Int → List Int → Option Bool
  | 0, _, _ => none
  | n0 + 1, s0_0, l0_1 => if decide (s0_0 < p0_1) = true then ((getI marks s0_0).bind fun x3 => (if decide (0 < x3) = true then ((z06j p0_0 s0_0).bind fun x5 => (if x5 = true then (gd (ok64 (s0_0 + 1)) ((z00d marks p0_0 p0_1 kx0_0 n0) (s0_0 + 1) l0_1)) else (gd (l0_1.length + [s0_0].length ≤ SMALL) (gd (ok64 (s0_0 + 1)) ((z00d marks p0_0 p0_1 kx0_0 n0) (s0_0 + 1) (l0_1 ++ [s0_0])))))) else (gd (ok64 (s0_0 + 1)) ((z00d marks p0_0 p0_1 kx0_0 n0) (s0_0 + 1) l0_1)))) else (kx0_0 l0_1)
def z039 (n : GNet) (marks : List Int) (busy : List GItem) (t : Int) : Option Bool := (getI n.tasks t).bind fun x1 => (z00d marks x1.in_ (marks.length : Int) (z02d n busy t x1.in_ marks) FUEL 0 ([] : List Int))
def z000 : Con := ⟨168, [.v (.s .net) false, .v (.sl .I) false, .v (.sl (.s .item)) false, .v .I false], [(.B, true)], [], fun x => z039 x.1 x.2.1 x.2.2.1 x.2.2.2.1⟩
def z0fm : Fs := ⟨[z08m, z001, z02o], [z046], []⟩
theorem z025 : z0fm.Ok Tryz.prog := (fsK z0hi (fsK z0ip (fsK z04g (fsF z0dh fs0))))
def z05i : Tmpl := ⟨[(3, .c .i), (4, .c (.bx 4 0)), (5, .c (.bx 5 0)), (9, .c (.s .I)), (10, .c (.ref 500010)), (46, .c (.s (.s .item))), (47, .c .i), (48, .c .i), (58, .c (.s (.s .flow))), (59, .c .i), (60, .c .i)], [(4, .boxT (.s .net)), (5, .box [.s .I]), (500010, .arr .I true)]⟩
def z04v : Tmpl := ⟨[(3, .c .i), (4, .c (.bx 4 0)), (5, .c (.bx 5 0)), (9, .c (.s .I)), (10, .c (.ref 500010)), (46, .c (.s (.s .item))), (47, .c .i), (48, .c .i)], [(4, .boxT (.s .net)), (5, .box [.s .I]), (500010, .arr .I true)]⟩
def z0ah (av : AV) (x : HP z000.ps) (n : Nat) (v : z05i.den) (K : Ks (CR z000)) : Option (CR z000) := z00y v.1.2.2.2.2.2.2.2.2.1 v.1.2.2.2.2.2.2.2.2.2.1 (fun l2_1 => z04v.at none ((v.1.1, (), (), v.1.2.2.2.1, (), v.1.2.2.2.2.2.1, v.1.2.2.2.2.2.2.1, v.1.2.2.2.2.2.2.2.1, ()), (v.2.1, (v.2.2.1.1, ()), l2_1, ())) (K (.exit 4))) n v.1.2.2.2.2.2.2.2.2.2.2.1 v.2.2.2.1
def z05e (av : AV) (x : HP z000.ps) : Hdl (CR z000) := hnd [] z05i (z0ah av x)
theorem z0an : LP z000 Tryz.f168 [1, 0] z05e := lp_ok (W := []) (H := []) (xs := [z04v]) z025 trivial rfl (fun av x v K => by kernel_rfl) (fun av x n v K => by kernel_rfl)
def z06b : Tmpl := ⟨[(2, .c (.s (.s .item))), (3, .c .i), (4, .c (.bx 4 0)), (5, .c (.bx 5 0)), (9, .c (.s .I)), (10, .c (.ref 500010)), (26, .c (.s .I)), (27, .c .i), (28, .c .i)], [(4, .boxT (.s .net)), (5, .box [.s .I]), (500010, .arr .I true)]⟩
def z062 : Tmpl := ⟨[(2, .c (.s (.s .item))), (3, .c .i), (4, .c (.bx 4 0)), (5, .c (.bx 5 0)), (9, .c (.s .I)), (10, .c (.ref 500010))], [(4, .boxT (.s .net)), (5, .box [.s .I]), (500010, .arr .I true)]⟩
def z0d5 (av : AV) (x : HP z000.ps) (n : Nat) (v : z06b.den) (K : Ks (CR z000)) : Option (CR z000) := z00d v.1.2.2.2.2.2.2.1 v.1.2.2.2.2.1 v.1.2.2.2.2.2.2.2.1 (fun l0_1 => z062.at none ((v.1.1, v.1.2.1, (), (), v.1.2.2.2.2.1, (), ()), (v.2.1, (v.2.2.1.1, ()), l0_1, ())) (K (.exit 0))) n v.1.2.2.2.2.2.2.2.2.1 v.2.2.2.1
def z066 (av : AV) (x : HP z000.ps) : Hdl (CR z000) := hnd [.e 10 500010 .I] z06b (z0d5 av x)
theorem z0dd : LP z000 Tryz.f168 [0] z066 := lp_ok (W := []) (H := []) (xs := [z062]) z025 trivial rfl (fun av x v K => by kernel_rfl) (fun av x n v K => by kernel_rfl)
def z06c : Tmpl := ⟨[(3, .c .i), (4, .c (.bx 4 0)), (5, .c (.bx 5 0)), (9, .c (.s .I)), (10, .c (.ref 500010)), (46, .c (.s (.s .item))), (47, .c .i), (48, .c .i)], [(4, .boxT (.s .net)), (5, .box [.s .I]), (500010, .arr .I true)]⟩
def z063 : Tmpl := ⟨[(3, .c .i), (4, .c (.bx 4 0)), (5, .c (.bx 5 0)), (9, .c (.s .I)), (10, .c (.ref 500010))], [(4, .boxT (.s .net)), (5, .box [.s .I]), (500010, .arr .I true)]⟩
def z0d6 (av : AV) (x : HP z000.ps) (n : Nat) (v : z06c.den) (K : Ks (CR z000)) : Option (CR z000) := z00e v.2.1 v.1.2.2.2.2.2.1 (fun l1_2 => z063.at none ((v.1.1, (), (), v.1.2.2.2.1, (), ()), (v.2.1, (v.2.2.1.1, ()), l1_2, ())) (K (.exit 2))) n v.1.2.2.2.2.2.2.1 v.1.2.2.2.2.2.2.2.1 v.2.2.2.1
def z067 (av : AV) (x : HP z000.ps) : Hdl (CR z000) := hnd [] z06c (z0d6 av x)
theorem z0de : LP z000 Tryz.f168 [1] z067 := lp_ok (W := []) (H := [z05e]) (xs := [z063]) z025 ⟨z0an, trivial⟩ rfl (fun av x v K => by kernel_rfl) (fun av x n v K => by kernel_rfl)
def z06d : Tmpl := ⟨[(3, .c .i), (4, .c (.bx 4 0)), (5, .c (.bx 5 0)), (9, .c (.s .I)), (71, .c (.ref 500010)), (72, .c .i), (73, .c .i)], [(4, .boxT (.s .net)), (5, .box [.s .I]), (500010, .arr .I true)]⟩
def z064 : Tmpl := ⟨[], []⟩
def z0d7 (av : AV) (x : HP z000.ps) (n : Nat) (v : z06d.den) (K : Ks (CR z000)) : Option (CR z000) := z00n v.2.1 v.1.1 v.1.2.2.2.1 v.2.2.1.1 v.2.2.2.1 v.1.2.2.2.2.2.1 (z064.at none ((), ()) (K (.exit 6))) n v.1.2.2.2.2.2.2.1
def z068 (av : AV) (x : HP z000.ps) : Hdl (CR z000) := hnd [] z06d (z0d7 av x)
theorem z0df : LP z000 Tryz.f168 [2] z068 := lp_ok (W := []) (H := []) (xs := [z064]) z025 trivial rfl (fun av x v K => by kernel_rfl) (fun av x n v K => by kernel_rfl)
theorem z0fw : z000.Ok Tryz.prog := fn_ok (k := z000) (fn := Tryz.f168) (W := []) (H := [z066, z067, z068]) Tryz.func168 z025 ⟨z0dd, z0de, z0df, trivial⟩ rfl rfl (fun av x => by kernel_rfl)
def z01m (n : GNet) (marks : List Int) (busy : List GItem) (t : Int) (s0_0 : Bool) (s0_2 : Bool) : Option Bool := (getI n.tasks t).bind fun x14 => (if decide (x14.join = 1) = true then (some s0_0) else (if decide (x14.join = 2) = true then (some s0_2) else (if s0_2 = true then (if s0_0 = true then (some true) else ((z039 n marks busy t).bind fun x19 => (some (!x19)))) else (some false))))
def z00g (marks : List Int) (p0_0 : List Int) (p0_1 : Int) (kx0_0 : Bool → Bool → Option Bool) : Nat → Bool → Int → Bool → Option Bool
  | 0, _, _, _ => none
  | n0 + 1, s0_0, s0_1, s0_2 => if decide (s0_1 < p0_1) = true then ((getI p0_0 s0_1).bind fun x3 => (if s0_2 = true then (if s0_0 = true then ((getI marks x3).bind fun x6 => (gd (ok64 (s0_1 + 1)) ((z00g marks p0_0 p0_1 kx0_0 n0) (decide (0 < x6)) (s0_1 + 1) true))) else (gd (ok64 (s0_1 + 1)) ((z00g marks p0_0 p0_1 kx0_0 n0) false (s0_1 + 1) true))) else ((getI marks x3).bind fun x9 => (if s0_0 = true then ((getI marks x3).bind fun x11 => (gd (ok64 (s0_1 + 1)) ((z00g marks p0_0 p0_1 kx0_0 n0) (decide (0 < x11)) (s0_1 + 1) (decide (0 < x9))))) else (gd (ok64 (s0_1 + 1)) ((z00g marks p0_0 p0_1 kx0_0 n0) false (s0_1 + 1) (decide (0 < x9)))))))) else (kx0_0 s0_0 s0_2)
def z050 (n : GNet) (marks : List Int) (busy : List GItem) (t : Int) : Option Bool := (getI n.tasks t).bind fun x1 => (z00g marks x1.in_ (x1.in_.length : Int) (z01m n marks busy t) FUEL true 0 false)
def z015 : Con := ⟨104, [.v (.s .net) false, .v (.sl .I) false, .v (.sl (.s .item)) false, .v .I false], [(.B, true)], [], fun x => z050 x.1 x.2.1 x.2.2.1 x.2.2.2.1⟩
def z0kl : Fs := ⟨[z000], [], []⟩
theorem z0c4 : z0kl.Ok Tryz.prog := (fsK z0fw fs0)
def z0a5 : Tmpl := ⟨[(1, .c (.s .I)), (2, .c (.s (.s .item))), (3, .c .i), (4, .c (.bx 4 0)), (9, .c .b), (10, .c .b), (18, .c (.s .I)), (19, .c .i), (20, .c .i)], [(4, .boxT (.s .net))]⟩
def z09b : Tmpl := ⟨[(1, .c (.s .I)), (2, .c (.s (.s .item))), (3, .c .i), (4, .c (.bx 4 0)), (9, .c .b), (10, .c .b)], [(4, .boxT (.s .net))]⟩
def z0hp (av : AV) (x : HP z015.ps) (n : Nat) (v : z0a5.den) (K : Ks (CR z015)) : Option (CR z015) := z00g v.1.1 v.1.2.2.2.2.2.2.1 v.1.2.2.2.2.2.2.2.1 (fun s0_0 s0_2 => z09b.at none ((v.1.1, v.1.2.1, v.1.2.2.1, (), s0_2, s0_0, ()), (v.2.1, ())) (K (.exit 0))) n v.1.2.2.2.2.2.1 v.1.2.2.2.2.2.2.2.2.1 v.1.2.2.2.2.1
def z09g (av : AV) (x : HP z015.ps) : Hdl (CR z015) := hnd [] z0a5 (z0hp av x)
theorem z0il : LP z015 Tryz.f104 [0] z09g := lp_ok (W := []) (H := []) (xs := [z09b]) z0c4 trivial rfl (fun av x v K => by kernel_rfl) (fun av x n v K => by kernel_rfl)
theorem z0l0 : z015.Ok Tryz.prog := fn_ok (k := z015) (fn := Tryz.f104) (W := []) (H := [z09g]) Tryz.func104 z0c4 ⟨z0il, trivial⟩ rfl rfl (fun av x => by kernel_rfl)
def z09n (n : GNet) (marks : List Int) (busy : List GItem) (t : Int) : Option Bool := (z08u n marks).bind fun x1 => (if x1 = true then ((z02q n busy).bind fun x3 => (if x3 = true then ((z00i n t).bind fun x5 => (if x5 = true then ((z050 n marks busy t).bind fun x7 => (some x7)) else (some false))) else (some false))) else (some false))
def z0e3 : Con := ⟨33, [.v (.s .net) false, .v (.sl .I) false, .v (.sl (.s .item)) false, .v .I false], [(.B, true)], [], fun x => z09n x.1 x.2.1 x.2.2.1 x.2.2.2.1⟩
def z0t2 : Fs := ⟨[z0bd, z00f, z01h, z015], [], []⟩
theorem z0tp : z0t2.Ok Tryz.prog := (fsK z0n9 (fsK z092 (fsK z03c (fsK z0l0 fs0))))
theorem z0ue : z0e3.Ok Tryz.prog := fn_ok (k := z0e3) (fn := Tryz.f33) (W := []) (H := []) Tryz.func33 z0tp trivial rfl rfl (fun av x => by kernel_rfl)
def z07v (l0_1 : List Int) (x4 : Int) (x7 : Int) : Option (List Int) := some (l0_1.set x4.toNat (x7 - 1))
def z07w (l0_1 : List Int) : Option (List Int) := some l0_1
def z011 (n : GNet) (t : Int) (p0_0 : List Int) (p0_1 : Int) (kx0_0 : List Int → Int → Int → Option (List Int)) (kx0_1 : List Int → Option (List Int)) : Nat → Int → List Int → Option (List Int)
  | 0, _, _ => none
  | n0 + 1, s0_0, l0_1 => if decide (s0_0 < p0_1) = true then ((getI p0_0 s0_0).bind fun x4 => ((getI l0_1 x4).bind fun x5 => (if decide (0 < x5) = true then ((getI l0_1 x4).bind fun x7 => (gd (ok64 (x7 - 1)) ((getI l0_1 x4).bind fun x9 => ((getI n.tasks t).bind fun x10 => (if decide (x10.join = 2) = true then (kx0_0 l0_1 x4 x7) else (gd (ok64 (s0_0 + 1)) ((z011 n t p0_0 p0_1 kx0_0 kx0_1 n0) (s0_0 + 1) (l0_1.set x4.toNat (x7 - 1))))))))) else (gd (ok64 (s0_0 + 1)) ((z011 n t p0_0 p0_1 kx0_0 kx0_1 n0) (s0_0 + 1) l0_1))))) else (kx0_1 l0_1)
def z04i (n : GNet) (marks : List Int) (t : Int) : Option (List Int) := (z03f marks).bind fun x1 => ((getI n.tasks t).bind fun x2 => (z011 n t x2.in_ (x2.in_.length : Int) z07v z07w FUEL 0 x1))
def z00v : Con := ⟨93, [.v (.s .net) false, .v (.sl .I) false, .v .I false], [((.sl .I), true)], [], fun x => z04i x.1 x.2.1 x.2.2.1⟩
def z0je : Fs := ⟨[z05o], [], []⟩
theorem z0ak : z0je.Ok Tryz.prog := (fsK z0eq fs0)
def z098 : Tmpl := ⟨[(2, .c .i), (3, .c (.bx 3 0)), (7, .c (.ref 11)), (17, .c (.s .I)), (18, .c .i), (19, .c .i)], [(3, .boxT (.s .net)), (11, .arr .I true)]⟩
def z04o : Tmpl := ⟨[(7, .c (.ref 11))], [(11, .arr .I true)]⟩
def z0h2 (av : AV) (x : HP z00v.ps) (n : Nat) (v : z098.den) (K : Ks (CR z00v)) : Option (CR z00v) := z011 v.2.1 v.1.1 v.1.2.2.2.1 v.1.2.2.2.2.1 (fun l0_1 x4 x7 => z04o.at none (((), ()), ((l0_1.set x4.toNat (x7 - 1)), ())) (K (.exit 0))) (fun l0_1 => z04o.at none (((), ()), (l0_1, ())) (K (.exit 0))) n v.1.2.2.2.2.2.1 v.2.2.1
def z08j (av : AV) (x : HP z00v.ps) : Hdl (CR z00v) := hnd [] z098 (z0h2 av x)
theorem z0he : LP z00v Tryz.f93 [0] z08j := lp_ok (W := []) (H := []) (xs := [z04o]) z0ak trivial rfl (fun av x v K => by kernel_rfl) (fun av x n v K => by kernel_rfl)
theorem z0jl : z00v.Ok Tryz.prog := fn_ok (k := z00v) (fn := Tryz.f93) (W := []) (H := [z08j]) Tryz.func93 z0ak ⟨z0he, trivial⟩ rfl rfl (fun av x => by kernel_rfl)
def z0bo (n : Int) : Option Bool := (z016 n 0 7).bind fun x1 => (some (!x1))
def z0by : FCon := ⟨119, .I, [], fun z c => z0bo z ⟩
def z0qh : Fs := ⟨[z02z], [], []⟩
theorem z0r6 : z0qh.Ok Tryz.prog := (fsK z03s fs0)
theorem z0rx : z0by.Ok Tryz.prog := FCon.ok (fn_ok (k := z0by.con) (fn := Tryz.f119) (W := []) (H := []) Tryz.func119 z0r6 trivial rfl rfl (fun av x => by kernel_rfl))
def z08w (people : List Int) : Option Bool := (z016 (people.length : Int) 1 4).bind fun x1 => (if x1 = true then ((z01e people (fun z => z0bo z )).bind fun x3 => (some (!x3))) else (some false))
def z0bf : Con := ⟨50, [.v (.sl .I) false], [(.B, true)], [], fun x => z08w x.1⟩
def z0vv : Fs := ⟨[z02z, z02o], [z0by], []⟩
theorem z0wb : z0vv.Ok Tryz.prog := (fsK z03s (fsK z04g (fsF z0rx fs0)))
theorem z0nb : z0bf.Ok Tryz.prog := fn_ok (k := z0bf) (fn := Tryz.f50) (W := []) (H := []) Tryz.func50 z0wb trivial rfl rfl (fun av x => by kernel_rfl)
def z09p (people : List Int) (who : Int) (role : Int) : Option Bool := (z08w people).bind fun x1 => (if x1 = true then ((z016 who 1 (people.length : Int)).bind fun x3 => (if x3 = true then ((z07b role).bind fun x5 => (if x5 = true then (gd (ok64 (who - 1)) ((getI people (who - 1)).bind fun x8 => (gd (ok64 (role - 1)) (gd ((0 : Int) ≤ (role - 1) ∧ (role - 1) ≤ (63 : Int)) (some (decide ((andI (shrI x8 (role - 1)) 1) = 1))))))) else (some false))) else (some false))) else (some false))
def z0e5 : Con := ⟨80, [.v (.sl .I) false, .v .I false, .v .I false], [(.B, true)], [], fun x => z09p x.1 x.2.1 x.2.2.1⟩
def z0t4 : Fs := ⟨[z0bf, z02z, z09j], [], []⟩
theorem z0tr : z0t4.Ok Tryz.prog := (fsK z0nb (fsK z03s (fsK z0jz fs0)))
theorem z0ug : z0e5.Ok Tryz.prog := fn_ok (k := z0e5) (fn := Tryz.f80) (W := []) (H := []) Tryz.func80 z0tr trivial rfl rfl (fun av x => by kernel_rfl)
def z09o (did : List GDid) (who : Int) (task : Int) : Option Bool := (z0ad did (GDid.mk task who)).bind fun x1 => (some x1)
def z0e4 : Con := ⟨109, [.v (.sl (.s .did)) false, .v .I false, .v .I false], [(.B, true)], [], fun x => z09o x.1 x.2.1 x.2.2.1⟩
def z0t3 : Fs := ⟨[z0a9], [], []⟩
theorem z0tq : z0t3.Ok Tryz.prog := (fsK z0p3 fs0)
theorem z0uf : z0e4.Ok Tryz.prog := fn_ok (k := z0e4) (fn := Tryz.f109) (W := []) (H := []) Tryz.func109 z0tq trivial rfl rfl (fun av x => by kernel_rfl)
def z07o (l0_1 : List Int) : Option (List Int) := some l0_1
def z01y (p : Int → Option Bool) (p0_0 : Int) (kx0_0 : List Int → Option (List Int)) : Nat → Int → List Int → Option (List Int)
  | 0, _, _ => none
  | n0 + 1, s0_0, l0_1 => if decide (s0_0 < p0_0) = true then (gd (ok64 (s0_0 + 1)) ((p (s0_0 + 1)).bind fun x5 => (if x5 = true then (gd (ok64 (s0_0 + 1)) (gd (l0_1.length + [(s0_0 + 1)].length ≤ SMALL) (gd (ok64 (s0_0 + 1)) ((z01y p p0_0 kx0_0 n0) (s0_0 + 1) (l0_1 ++ [(s0_0 + 1)]))))) else (gd (ok64 (s0_0 + 1)) ((z01y p p0_0 kx0_0 n0) (s0_0 + 1) l0_1))))) else (kx0_0 l0_1)
def z0bp (people : List Int) (p : Int → Option Bool) : Option (List Int) := (z08w people).bind fun x1 => (if x1 = true then (z01y p (people.length : Int) z07o FUEL 0 ([] : List Int)) else (some []))
def z01p : Con := ⟨105, [.v (.sl .I) false, .fn .I], [((.sl .I), true)], [], fun x => z0bp x.1 x.2.1⟩
def z0qk : Fs := ⟨[z0bf], [], []⟩
theorem z0hy : z0qk.Ok Tryz.prog := (fsK z0nb fs0)
def z0eu : Tmpl := ⟨[(1, .c .fp), (5, .c (.ref 500005)), (11, .c .i), (12, .c .i)], [(500005, .arr .I true)]⟩
def z0cw : Tmpl := ⟨[(5, .c (.ref 500005))], [(500005, .arr .I true)]⟩
def z0ld (av : AV) (x : HP z01p.ps) (n : Nat) (v : z0eu.den) (K : Ks (CR z01p)) : Option (CR z01p) := z01y x.2.1 v.1.2.2.1 (fun l0_1 => z0cw.at (fpOf z01p.ps x av) (((), ()), (l0_1, ())) (K (.exit 0))) n v.1.2.2.2.1 v.2.1
def z0ds (av : AV) (x : HP z01p.ps) : Hdl (CR z01p) := hnd [.e 5 500005 .I] z0eu (z0ld av x)
theorem z0ms : LP z01p Tryz.f105 [0] z0ds := lp_ok (W := []) (H := []) (xs := [z0cw]) z0hy trivial rfl (fun av x v K => by kernel_rfl) (fun av x n v K => by kernel_rfl)
theorem z0rz : z01p.Ok Tryz.prog := fn_ok (k := z01p) (fn := Tryz.f105) (W := []) (H := [z0ds]) Tryz.func105 z0hy ⟨z0ms, trivial⟩ rfl rfl (fun av x => by kernel_rfl)
def z07n (b : GItem) (task : GTask) (who : Int) : Option Bool := if decide (b.task = task.apart) = true then (some (decide (b.who = who))) else (some false)
def z07p : FCon := ⟨108, (.s .item), [(.s .task), .I], fun z c => z07n z c.1 c.2.1⟩
def z0kn : Fs := ⟨[], [], []⟩
theorem z0kp : z0kn.Ok Tryz.prog := fs0
theorem z0l2 : z07p.Ok Tryz.prog := FCon.ok (fn_ok (k := z07p.con) (fn := Tryz.f108) (W := []) (H := []) Tryz.func108 z0kp trivial rfl rfl (fun av x => by kernel_rfl))
def z04r (who : Int) (busy : List GItem) (task : GTask) (people : List Int) (did : List GDid) : Option Bool := (z03o busy (fun z => z07n z task who)).bind fun x1 => ((z09p people who task.role).bind fun x2 => (if x2 = true then (if x1 = true then (some false) else ((z09o did who task.apart).bind fun x5 => (some (!x5)))) else (some false)))
def z0ag : FCon := ⟨106, .I, [(.sl (.s .item)), (.s .task), (.sl .I), (.sl (.s .did))], fun z c => z04r z c.1 c.2.1 c.2.2.1 c.2.2.2.1⟩
def z0oe : Fs := ⟨[z058, z0e5, z0e4], [z07p], []⟩
theorem z0op : z0oe.Ok Tryz.prog := (fsK z0hg (fsK z0ug (fsK z0uf (fsF z0l2 fs0))))
theorem z0p5 : z0ag.Ok Tryz.prog := FCon.ok (fn_ok (k := z0ag.con) (fn := Tryz.f106) (W := []) (H := []) Tryz.func106 z0op trivial rfl rfl (fun av x => by kernel_rfl))
def z09q (n : GNet) (people : List Int) (did : List GDid) (busy : List GItem) (t : Int) : Option (List Int) := (z08v n).bind fun x1 => (if x1 = true then ((z00i n t).bind fun x3 => (if x3 = true then ((getI n.tasks t).bind fun x5 => ((z0bp people (fun z => z04r z busy x5 people did)).bind fun x6 => (some x6))) else (some []))) else (some []))
def z0e6 : Con := ⟨35, [.v (.s .net) false, .v (.sl .I) false, .v (.sl (.s .did)) false, .v (.sl (.s .item)) false, .v .I false], [((.sl .I), true)], [], fun x => z09q x.1 x.2.1 x.2.2.1 x.2.2.2.1 x.2.2.2.2.1⟩
def z0t5 : Fs := ⟨[z0be, z01h, z01p], [z0ag], []⟩
theorem z0ts : z0t5.Ok Tryz.prog := (fsK z0na (fsK z03c (fsK z0rz (fsF z0p5 fs0))))
theorem z0uh : z0e6.Ok Tryz.prog := fn_ok (k := z0e6) (fn := Tryz.f35) (W := []) (H := []) Tryz.func35 z0ts trivial rfl rfl (fun av x => by kernel_rfl)
def z06u (c : GCase) : Option Bool := if decide (c.state = 1) = true then ((getI c.marks 1).bind fun x16 => (some (decide (x16 = 0)))) else (if decide (c.state = 2) = true then (if decide ((c.busy.length : Int) = 0) = true then ((getI c.marks 1).bind fun x19 => (some ((decide (c.state = 2)) == (decide (0 < x19))))) else (some false)) else (if decide (c.state = 3) = true then (if decide ((c.busy.length : Int) = 0) = true then ((getI c.marks 1).bind fun x22 => (some ((decide (c.state = 2)) == (decide (0 < x22))))) else (some false)) else (some false)))
def z03v (n : GNet) (p0_0 : List GDid) (p0_1 : Int) (kx0_0 : Option Bool) : Nat → Int → Option Bool
  | 0, _ => none
  | n0 + 1, s0_0 => if decide (s0_0 < p0_1) = true then ((getI p0_0 s0_0).bind fun x9 => ((z00i n x9.task).bind fun x10 => (if x10 = true then ((z04s x9.who).bind fun x12 => (if x12 = true then (gd (ok64 (s0_0 + 1)) ((z03v n p0_0 p0_1 kx0_0 n0) (s0_0 + 1))) else (some false))) else (some false)))) else (kx0_0)
def z08r (n : GNet) (c : GCase) : Option Bool := (z08u n c.marks).bind fun x1 => (if x1 = true then ((z02q n c.busy).bind fun x3 => (if x3 = true then ((z08s c.data).bind fun x5 => (if x5 = true then (if decide (60 < (c.did.length : Int)) = true then (some false) else (z03v n c.did (c.did.length : Int) (z06u c) FUEL 0)) else (some false))) else (some false))) else (some false))
def z036 : Con := ⟨30, [.v (.s .net) false, .v (.s .kase) false], [(.B, true)], [], fun x => z08r x.1 x.2.1⟩
def z0vq : Fs := ⟨[z0bd, z00f, z0bc, z01h, z06t], [], []⟩
theorem z0m2 : z0vq.Ok Tryz.prog := (fsK z0n9 (fsK z092 (fsK z0n8 (fsK z03c (fsK z0gi fs0)))))
def z0j1 : Tmpl := ⟨[(2, .c (.bx 2 0)), (3, .c (.bx 3 0)), (32, .c (.s (.s .did))), (33, .c .i), (34, .c .i)], [(2, .boxT (.s .net)), (3, .boxT (.s .kase))]⟩
def z0gu : Tmpl := ⟨[(3, .c (.bx 3 0))], [(3, .boxT (.s .kase))]⟩
def z0q0 (av : AV) (x : HP z036.ps) (n : Nat) (v : z0j1.den) (K : Ks (CR z036)) : Option (CR z036) := z03v v.2.1 v.1.2.2.1 v.1.2.2.2.1 (z0gu.at none (((), ()), (v.2.2.1, ())) (K (.exit 0))) n v.1.2.2.2.2.1
def z0i6 (av : AV) (x : HP z036.ps) : Hdl (CR z036) := hnd [] z0j1 (z0q0 av x)
theorem z0ri : LP z036 Tryz.f30 [0] z0i6 := lp_ok (W := []) (H := []) (xs := [z0gu]) z0m2 trivial rfl (fun av x v K => by kernel_rfl) (fun av x n v K => by kernel_rfl)
theorem z0n7 : z036.Ok Tryz.prog := fn_ok (k := z036) (fn := Tryz.f30) (W := []) (H := [z0i6]) Tryz.func30 z0m2 ⟨z0ri, trivial⟩ rfl rfl (fun av x => by kernel_rfl)
def z05t (n : GNet) (c : GCase) : Option Bool := (z08r n c).bind fun x1 => (if x1 = true then (some (decide (c.state = 1))) else (some false))
def z083 : Con := ⟨85, [.v (.s .net) false, .v (.s .kase) false], [(.B, true)], [], fun x => z05t x.1 x.2.1⟩
def z0ql : Fs := ⟨[z036], [], []⟩
theorem z0r8 : z0ql.Ok Tryz.prog := (fsK z0n7 fs0)
theorem z0ir : z083.Ok Tryz.prog := fn_ok (k := z083) (fn := Tryz.f85) (W := []) (H := []) Tryz.func85 z0r8 trivial rfl rfl (fun av x => by kernel_rfl)
def z06v (n : GNet) (people : List Int) (c : GCase) (t : Int) (who : Int) : Option (GCase × Bool) := (z018 c).bind fun x1 => ((z05t n c).bind fun x2 => (if x2 = true then (if decide ((c.busy.length : Int) = 6) = true then (some (x1, false)) else ((z09n n c.marks c.busy t).bind fun x5 => (if x5 = true then ((z09q n people c.did c.busy t).bind fun x7 => ((z06j x7 who).bind fun x8 => (if x8 = true then ((z04i n c.marks t).bind fun x10 => (gd (x1.busy.length + [(GItem.mk t who 0)].length ≤ SMALL) ((z018 (GCase.mk x1.state x10 (x1.busy ++ [(GItem.mk t who 0)]) x1.data x1.did)).bind fun x12 => (some (x12, true))))) else (some (x1, false))))) else (some (x1, false))))) else (some (x1, false))))
def z0aa : Con := ⟨27, [.v (.s .net) false, .v (.sl .I) false, .v (.s .kase) false, .v .I false, .v .I false], [((.s .kase), true), (.B, true)], [], fun x => z06v x.1 x.2.1 x.2.2.1 x.2.2.2.1 x.2.2.2.2.1⟩
def z0od : Fs := ⟨[z03m, z083, z0e3, z0e6, z08m, z00v], [], []⟩
theorem z0oo : z0od.Ok Tryz.prog := (fsK z091 (fsK z0ir (fsK z0ue (fsK z0uh (fsK z0hi (fsK z0jl fs0))))))
theorem z0p4 : z0aa.Ok Tryz.prog := fn_ok (k := z0aa) (fn := Tryz.f27) (W := []) (H := []) Tryz.func27 z0oo trivial rfl rfl (fun av x => by kernel_rfl)
def z05q (n : GNet) (c : GCase) : Option (GCase × Bool) := (z018 c).bind fun x1 => ((z05t n c).bind fun x2 => (if x2 = true then (some ((GCase.mk 3 x1.marks [] x1.data x1.did), true)) else (some (x1, false))))
def z0bb : Con := ⟨22, [.v (.s .net) false, .v (.s .kase) false], [((.s .kase), true), (.B, true)], [], fun x => z05q x.1 x.2.1⟩
def z0qe : Fs := ⟨[z03m, z083], [], []⟩
theorem z0r3 : z0qe.Ok Tryz.prog := (fsK z091 (fsK z0ir fs0))
theorem z0ru : z0bb.Ok Tryz.prog := fn_ok (k := z0bb) (fn := Tryz.f22) (W := []) (H := []) Tryz.func22 z0r3 trivial rfl rfl (fun av x => by kernel_rfl)
def z089 (code : List Int) : Option GRd := if decide (2000 < (code.length : Int)) = true then (gd ((0 : Int) ≤ 2000 ∧ 2000 ≤ (code.length : Int)) (some (GRd.mk (code.take (2000 : Int).toNat) 0))) else (some (GRd.mk code 0))
def z0ih : BCon := ⟨83, fun x => z089 x⟩
def z0qt : Fs := ⟨[], [], []⟩
theorem z0rc : z0qt.Ok Tryz.prog := fs0
theorem z0s7 : z0ih.Ok Tryz.prog := z17l (fn := Tryz.f83) Tryz.func83 z0rc rfl rfl rfl rfl rfl (fun l => by kernel_rfl)
def z009 (r : GRd) (n : Int) : Option (Int × GRd) := gd (ok64 (r.p + 1)) (if decide (n < 1) = true then (some (0, (GRd.mk r.b (r.p + 1)))) else (if decide ((r.b.length : Int) = 0) = true then (some (0, (GRd.mk r.b (r.p + 1)))) else (gd (ok64 ((r.p + 1) - 1)) (if decide (((r.p + 1) - 1) < (r.b.length : Int)) = true then ((getI r.b ((r.p + 1) - 1)).bind fun x6 => (gd (ok64 x6) (gd ((n : Int) ≠ 0) (some ((Int.tmod x6 n), (GRd.mk r.b (r.p + 1))))))) else (gd (((r.b.length : Int) : Int) ≠ 0) ((getI r.b (Int.tmod ((r.p + 1) - 1) (r.b.length : Int))).bind fun x10 => (gd (ok64 x10) (gd (ok64 (x10 * 131)) (gd (ok64 (((r.p + 1) - 1) * 7)) (gd (ok64 ((((r.p + 1) - 1) * 7) + 3)) (gd (((r.b.length : Int) : Int) ≠ 0) ((getI r.b (Int.tmod ((((r.p + 1) - 1) * 7) + 3) (r.b.length : Int))).bind fun x16 => (gd (ok64 x16) (gd (ok64 (x16 * 1117)) (gd (ok64 ((x10 * 131) + (x16 * 1117))) (gd (ok64 (((r.p + 1) - 1) * 29)) (gd (ok64 (((x10 * 131) + (x16 * 1117)) + (((r.p + 1) - 1) * 29))) (gd (((r.b.length : Int) : Int) ≠ 0 ∧ ok64 (Int.tdiv ((r.p + 1) - 1) (r.b.length : Int))) (gd (ok64 ((Int.tdiv ((r.p + 1) - 1) (r.b.length : Int)) * 53)) (gd (ok64 ((((x10 * 131) + (x16 * 1117)) + (((r.p + 1) - 1) * 29)) + ((Int.tdiv ((r.p + 1) - 1) (r.b.length : Int)) * 53))) (gd ((64 : Int) ≠ 0 ∧ ok64 (Int.tdiv ((((x10 * 131) + (x16 * 1117)) + (((r.p + 1) - 1) * 29)) + ((Int.tdiv ((r.p + 1) - 1) (r.b.length : Int)) * 53)) 64)) (gd ((n : Int) ≠ 0) (some ((Int.tmod (xorI ((((x10 * 131) + (x16 * 1117)) + (((r.p + 1) - 1) * 29)) + ((Int.tdiv ((r.p + 1) - 1) (r.b.length : Int)) * 53)) (Int.tdiv ((((x10 * 131) + (x16 * 1117)) + (((r.p + 1) - 1) * 29)) + ((Int.tdiv ((r.p + 1) - 1) (r.b.length : Int)) * 53)) 64)) n), (GRd.mk r.b (r.p + 1))))))))))))))))))))))))))
def z0ji : Con := ⟨98, [.ptr (.s .rd) false, .v .I false], [(.I, true)], [(0, .ptr (.s .rd) false)], fun x => z009 x.1 x.2.1⟩
def z191 : Fs := ⟨[], [], []⟩
theorem z192 : z191.Ok Tryz.prog := fs0
theorem z0ne : z0ji.Ok Tryz.prog := fn_ok (k := z0ji) (fn := Tryz.f98) (W := []) (H := []) Tryz.func98 z192 trivial rfl rfl (fun av x => by kernel_rfl)
def z055 (n : Int) (s0_0 : List Int) (s0_1 : Int) (l0_3 : List Int) : Option ((List Int) × GRd) := (z009 (GRd.mk s0_0 s0_1) n).bind fun x7 => (if decide (x7.1 = 0) = true then ((z009 x7.2 3).bind fun x9 => (if decide (x9.1 = 0) = true then ((z009 x9.2 3).bind fun x11 => ((z009 x11.2 4).bind fun x12 => ((getI [100, (-100), 9223372036854775807, (-9223372036854775808)] x12.1).bind fun x13 => ((getI l0_3 x11.1).bind fun x14 => (some ((l0_3.set x11.1.toNat x13), x12.2)))))) else (if decide (x9.1 = 1) = true then (gd ((0 : Int) ≤ 1 ∧ 1 ≤ (l0_3.length : Int)) (some ((l0_3.drop (1 : Int).toNat), x9.2))) else (gd (l0_3.length + [0].length ≤ SMALL) (some ((l0_3 ++ [0]), x9.2)))))) else (some (l0_3, x7.2)))
def z02x (kx0_0 : List Int → Int → List Int → Option ((List Int) × GRd)) : Nat → List Int → Int → Int → List Int → Option ((List Int) × GRd)
  | 0, _, _, _, _ => none
  | n0 + 1, s0_0, s0_1, s0_2, l0_3 => if decide (s0_2 < 3) = true then ((z009 (GRd.mk s0_0 s0_1) 9).bind fun x2 => ((z009 x2.2 7).bind fun x3 => ((getI [0, 1, (-1), 5, 99, (-99), x2.1] x3.1).bind fun x4 => (gd (l0_3.length + [x4].length ≤ SMALL) (gd (ok64 (s0_2 + 1)) ((z02x kx0_0 n0) x3.2.b x3.2.p (s0_2 + 1) (l0_3 ++ [x4]))))))) else (kx0_0 s0_0 s0_1 l0_3)
def z05w (r : GRd) (n : Int) : Option ((List Int) × GRd) := z02x (z055 n) FUEL r.b r.p 0 ([] : List Int)
def z029 : Con := ⟨156, [.ptr (.s .rd) false, .v .I false], [((.sl .I), false)], [(0, .ptr (.s .rd) false)], fun x => z05w x.1 x.2.1⟩
def z0qs : Fs := ⟨[z0ji], [], []⟩
theorem z0i1 : z0qs.Ok Tryz.prog := (fsK z0ne fs0)
def z0ez : Tmpl := ⟨[(0, .c (.bx 1000000 0)), (1, .c .i), (5, .c (.ref 7)), (6, .c .i)], [(1000000, .box [.s .Y, .i]), (7, .arr .I true)]⟩
def z0d0 : Tmpl := ⟨[(0, .c (.bx 1000000 0)), (1, .c .i), (5, .c (.ref 7))], [(1000000, .box [.s .Y, .i]), (7, .arr .I true)]⟩
def z0li (av : AV) (x : HP z029.ps) (n : Nat) (v : z0ez.den) (K : Ks (CR z029)) : Option (CR z029) := z02x (fun s0_0 s0_1 l0_3 => z0d0.at none (((), v.1.2.1, (), ()), ((s0_0, s0_1, ()), l0_3, ())) (K (.exit 0))) n v.2.1.1 v.2.1.2.1 v.1.2.2.2.1 v.2.2.1
def z0dx (av : AV) (x : HP z029.ps) : Hdl (CR z029) := hnd [] z0ez (z0li av x)
theorem z0mx : LP z029 Tryz.f156 [0] z0dx := lp_ok (W := [(12, [.froz 7])]) (H := []) (xs := [z0d0]) z0i1 trivial rfl (fun av x v K => by kernel_rfl) (fun av x n v K => by kernel_rfl)
theorem z0s6 : z029.Ok Tryz.prog := fn_ok (k := z029) (fn := Tryz.f156) (W := [(12, [.froz 7])]) (H := [z0dx]) Tryz.func156 z0i1 ⟨z0mx, trivial⟩ rfl rfl (fun av x => by kernel_rfl)
def z09x (r : GRd) (n : Int) : Option (GAsk × GRd) := (z009 r 3).bind fun x1 => (gd (ok64 (1 + x1.1)) ((z009 x1.2 3).bind fun x3 => ((z009 x3.2 9).bind fun x4 => ((z009 x4.2 6).bind fun x5 => ((getI [0, 1, 2, 5, (-1), x4.1] x5.1).bind fun x6 => ((z009 x5.2 6).bind fun x7 => (if decide (x7.1 = 0) = true then ((z009 x7.2 n).bind fun x9 => (if decide (x9.1 = 0) = true then ((z009 x9.2 3).bind fun x11 => (if decide (x11.1 = 0) = true then ((z009 x11.2 3).bind fun x13 => ((getI [0, 4, (-1)] x13.1).bind fun x14 => (some ((GAsk.mk x14 0 0), x13.2)))) else (if decide (x11.1 = 1) = true then ((z009 x11.2 3).bind fun x16 => ((getI [3, (-1), 1] x16.1).bind fun x17 => (some ((GAsk.mk 0 x17 0), x16.2)))) else ((z009 x11.2 3).bind fun x18 => ((getI [99, 100, (-99)] x18.1).bind fun x19 => (some ((GAsk.mk 0 0 x19), x18.2))))))) else (some ((GAsk.mk 0 0 0), x9.2)))) else ((z009 x7.2 n).bind fun x20 => (if decide (x20.1 = 0) = true then ((z009 x20.2 3).bind fun x22 => (if decide (x22.1 = 0) = true then ((z009 x22.2 3).bind fun x24 => ((getI [0, 4, (-1)] x24.1).bind fun x25 => (some ((GAsk.mk x25 x3.1 x6), x24.2)))) else (if decide (x22.1 = 1) = true then ((z009 x22.2 3).bind fun x27 => ((getI [3, (-1), 1] x27.1).bind fun x28 => (some ((GAsk.mk (1 + x1.1) x28 x6), x27.2)))) else ((z009 x22.2 3).bind fun x29 => ((getI [99, 100, (-99)] x29.1).bind fun x30 => (some ((GAsk.mk (1 + x1.1) x3.1 x30), x29.2))))))) else (some ((GAsk.mk (1 + x1.1) x3.1 x6), x20.2)))))))))))
def z0ec : Con := ⟨197, [.ptr (.s .rd) false, .v .I false], [((.s .ask), true)], [(0, .ptr (.s .rd) false)], fun x => z09x x.1 x.2.1⟩
def z0th : Fs := ⟨[z0ji], [], []⟩
theorem z0tz : z0th.Ok Tryz.prog := (fsK z0ne fs0)
theorem z0up : z0ec.Ok Tryz.prog := fn_ok (k := z0ec) (fn := Tryz.f197) (W := []) (H := []) Tryz.func197 z0tz trivial rfl rfl (fun av x => by kernel_rfl)
def z0cg (join : Int) (in_ : List Int) (p0_6 : Int) (p0_7 : Int) (p0_8 : Int) (p0_9 : Int) (p0_10 : Int) (s0_0 : List Int) (s0_1 : Int) (l0_3 : List GFlow) : Option (GTask × GRd) := some ((GTask.mk join p0_6 in_ l0_3 [] p0_7 p0_8 p0_9 p0_10), (GRd.mk s0_0 s0_1))
def z00u (split : Int) (to : List Int) (kx0_0 : List Int → Int → List GFlow → Option (GTask × GRd)) : Nat → List Int → Int → Int → List GFlow → Option (GTask × GRd)
  | 0, _, _, _, _ => none
  | n0 + 1, s0_0, s0_1, s0_2, l0_3 => if decide (s0_2 < (to.length : Int)) = true then ((getI to s0_2).bind fun x11 => (if decide (split = 1) = true then (gd (l0_3.length + [(GFlow.mk x11 (GAsk.mk 0 0 0))].length ≤ SMALL) (gd (ok64 (s0_2 + 1)) ((z00u split to kx0_0 n0) s0_0 s0_1 (s0_2 + 1) (l0_3 ++ [(GFlow.mk x11 (GAsk.mk 0 0 0))])))) else (gd (ok64 ((to.length : Int) - 1)) (if decide (s0_2 < ((to.length : Int) - 1)) = true then ((z009 (GRd.mk s0_0 s0_1) 3).bind fun x17 => (gd (ok64 (1 + x17.1)) ((z009 x17.2 3).bind fun x19 => ((z009 x19.2 5).bind fun x20 => (gd (ok64 (x20.1 - 1)) (gd (l0_3.length + [(GFlow.mk x11 (GAsk.mk (1 + x17.1) x19.1 (x20.1 - 1)))].length ≤ SMALL) (gd (ok64 (s0_2 + 1)) ((z00u split to kx0_0 n0) x20.2.b x20.2.p (s0_2 + 1) (l0_3 ++ [(GFlow.mk x11 (GAsk.mk (1 + x17.1) x19.1 (x20.1 - 1)))]))))))))) else (gd (l0_3.length + [(GFlow.mk x11 (GAsk.mk 0 0 0))].length ≤ SMALL) (gd (ok64 (s0_2 + 1)) ((z00u split to kx0_0 n0) s0_0 s0_1 (s0_2 + 1) (l0_3 ++ [(GFlow.mk x11 (GAsk.mk 0 0 0))])))))))) else (kx0_0 s0_0 s0_1 l0_3)
def z0ch (join : Int) (in_ : List Int) (p1_6 : Int) (p1_7 : Int) (p1_8 : Int) (p1_9 : Int) (p1_10 : Int) (s1_0 : List Int) (s1_1 : Int) (l1_3 : List GFlow) : Option (GTask × GRd) := some ((GTask.mk join p1_6 in_ l1_3 [] p1_7 p1_8 p1_9 p1_10), (GRd.mk s1_0 s1_1))
def z008 (r : GRd) (join : Int) (split : Int) (in_ : List Int) (to : List Int) (tasks : Int) : Option (GTask × GRd) := (z009 r 3).bind fun x1 => (gd (ok64 (1 + x1.1)) ((z009 x1.2 3).bind fun x3 => (gd (ok64 (1 + x3.1)) ((z009 x3.2 (1 + x3.1)).bind fun x5 => (gd (ok64 (1 + x5.1)) ((z009 x5.2 3).bind fun x7 => (if decide (x7.1 = 0) = true then ((z009 x7.2 tasks).bind fun x9 => (z00u split to (z0cg join in_ split (1 + x1.1) x9.1 (1 + x3.1) (1 + x5.1)) FUEL x9.2.b x9.2.p 0 ([] : List GFlow))) else (z00u split to (z0ch join in_ split (1 + x1.1) (-1) (1 + x3.1) (1 + x5.1)) FUEL x7.2.b x7.2.p 0 ([] : List GFlow)))))))))
def z02a : Con := ⟨213, [.ptr (.s .rd) false, .v .I false, .v .I false, .v (.sl .I) true, .v (.sl .I) true, .v .I false], [((.s .task), true)], [(0, .ptr (.s .rd) false)], fun x => z008 x.1 x.2.1 x.2.2.1 x.2.2.2.1 x.2.2.2.2.1 x.2.2.2.2.2.1⟩
def z0qu : Fs := ⟨[z0ji], [], []⟩
theorem z0i2 : z0qu.Ok Tryz.prog := (fsK z0ne fs0)
def z0f0 : Tmpl := ⟨[(0, .c (.bx 1000000 0)), (2, .c .i), (4, .c (.ref 1480000)), (12, .c (.bx 12 0)), (13, .c (.bx 13 0)), (14, .c .i)], [(1000000, .box [.s .Y, .i]), (12, .box [.i, .i, .nl, .nl, .nl, .i, .i, .i, .i]), (13, .box [.i, .i, .ref 1360000, .ref 511303, .nl, .i, .i, .i, .i]), (1480000, .arr .I true), (1360000, .arr .I true), (511303, .arr (.s .flow) true)]⟩
def z0d1 : Tmpl := ⟨[(12, .c (.bx 12 0)), (13, .c (.bx 13 0))], [(12, .box [.i, .i, .nl, .nl, .nl, .i, .i, .i, .i]), (13, .box [.i, .i, .ref 1360000, .ref 511303, .nl, .i, .i, .i, .i]), (1000000, .box [.s .Y, .i]), (1360000, .arr .I true), (511303, .arr (.s .flow) true)]⟩
def z0lj (av : AV) (x : HP z02a.ps) (n : Nat) (v : z0f0.den) (K : Ks (CR z02a)) : Option (CR z02a) := z00u v.1.2.1 v.2.2.2.2.1 (fun s0_0 s0_1 l0_3 => z0d1.at none (((), (), ()), ((v.2.2.1.1, v.2.2.1.2.1, (), (), (), v.2.2.1.2.2.2.2.2.1, v.2.2.1.2.2.2.2.2.2.1, v.2.2.1.2.2.2.2.2.2.2.1, v.2.2.1.2.2.2.2.2.2.2.2.1, ()), (v.2.2.2.1.1, v.2.2.2.1.2.1, (), (), (), v.2.2.2.1.2.2.2.2.2.1, v.2.2.2.1.2.2.2.2.2.2.1, v.2.2.2.1.2.2.2.2.2.2.2.1, v.2.2.2.1.2.2.2.2.2.2.2.2.1, ()), (s0_0, s0_1, ()), v.2.2.2.2.2.1, l0_3, ())) (K (.exit 0))) n v.2.1.1 v.2.1.2.1 v.1.2.2.2.2.2.1 v.2.2.2.2.2.2.1
def z0dy (av : AV) (x : HP z02a.ps) : Hdl (CR z02a) := hnd [.b 13 3 511303 (.s .flow)] z0f0 (z0lj av x)
theorem z0my : LP z02a Tryz.f213 [0] z0dy := lp_ok (W := []) (H := []) (xs := [z0d1]) z0i2 trivial rfl (fun av x v K => by kernel_rfl) (fun av x n v K => by kernel_rfl)
theorem z0s8 : z02a.Ok Tryz.prog := fn_ok (k := z02a) (fn := Tryz.f213) (W := []) (H := [z0dy]) Tryz.func213 z0i2 ⟨z0my, trivial⟩ rfl rfl (fun av x => by kernel_rfl)
end
end Go.Am
