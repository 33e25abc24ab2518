/- Mirrors and contracts, printed. Own work. -/
import Derived.Test.YtgolgnbgomhknaaGreatEaD1
set_option maxRecDepth 100000
set_option maxHeartbeats 4000000
set_option linter.unusedVariables false
set_option linter.unusedSimpArgs false
namespace Go.Am
noncomputable section
open Go Go.Proofs
def z03 (n : Int) (low : Int) (high : Int) : Option Bool := if decide (low ≤ n) = true then (some (decide (n ≤ high))) else (some false)
def z0n : Con := ⟨90, [.v .I false, .v .I false, .v .I false], [(.B, true)], [], fun x => z03 x.1 x.2.1 x.2.2.1⟩
def wx8 : Fs := ⟨[], [], []⟩
theorem wy2 : wx8.Ok Tryz.prog := fs0
theorem z0x : z0n.Ok Tryz.prog := fn_ok (k := z0n) (fn := Tryz.f90) (W := []) (H := []) Tryz.func90 wy2 trivial rfl rfl (fun av x => by kernel_rfl)
def y7i  : Option Bool := some true
def z6o (data : List Int) (kx0_0 : Option Bool) : Nat → Int → Option Bool
  | 0, _ => none
  | n0 + 1, s0_0 => if decide (s0_0 < (data.length : Int)) = true then ((getI data s0_0).bind fun x3 => ((z03 x3 (-99) 99).bind fun x4 => (if x4 = true then (gd (ok64 (s0_0 + 1)) ((z6o data kx0_0 n0) (s0_0 + 1))) else (some false)))) else (kx0_0)
def z2n (data : List Int) : Option Bool := if decide ((data.length : Int) = 3) = true then (z6o data y7i FUEL 0) else (some false)
def z15 : Con := ⟨89, [.v (.sl .I) false], [(.B, true)], [], fun x => z2n x.1⟩
def wm4 : Fs := ⟨[z0n], [], []⟩
theorem yw5 : wm4.Ok Tryz.prog := (fsK z0x fs0)
def ye2 : Tmpl := ⟨[(0, .c (.s .I)), (3, .c .i)], []⟩
def y8y : Tmpl := ⟨[], []⟩
def w5c (av : AV) (x : HP z15.ps) (n : Nat) (v : ye2.den) (K : Ks (CR z15)) : Option (CR z15) := z6o v.1.1 (y8y.at none ((), ()) (K (.exit 0))) n v.1.2.1
def yc1 (av : AV) (x : HP z15.ps) : Hdl (CR z15) := hnd [] ye2 (w5c av x)
theorem w6x : LP z15 Tryz.f89 [0] yc1 := lp_ok (W := []) (H := []) (xs := [y8y]) yw5 trivial rfl (fun av x v K => by kernel_rfl) (fun av x n v K => by kernel_rfl)
theorem z66 : z15.Ok Tryz.prog := fn_ok (k := z15) (fn := Tryz.f89) (W := []) (H := [yc1]) Tryz.func89 yw5 ⟨w6x, trivial⟩ rfl rfl (fun av x => by kernel_rfl)
def z77 (data : List Int) (k : Int) (n : Int) : Option (List Int) := (z2n data).bind fun x1 => (if x1 = true then ((z03 k 0 2).bind fun x3 => (if x3 = true then ((z03 n (-99) 99).bind fun x5 => (if x5 = true then (gd (([] : List Int).length + data.length ≤ SMALL) ((getI (([] : List Int) ++ data) k).bind fun x8 => (some ((([] : List Int) ++ data).set k.toNat n)))) else (gd (([] : List Int).length + data.length ≤ SMALL) (some (([] : List Int) ++ data))))) else (gd (([] : List Int).length + data.length ≤ SMALL) (some (([] : List Int) ++ data))))) else (gd (([] : List Int).length + data.length ≤ SMALL) (some (([] : List Int) ++ data))))
def zq7 : Con := ⟨171, [.v (.sl .I) false, .v .I false, .v .I false], [((.sl .I), true)], [], fun x => z77 x.1 x.2.1 x.2.2.1⟩
def w9f : Fs := ⟨[z15, z0n], [], []⟩
theorem wb4 : w9f.Ok Tryz.prog := (fsK z66 (fsK z0x fs0))
theorem yn4 : zq7.Ok Tryz.prog := fn_ok (k := zq7) (fn := Tryz.f171) (W := []) (H := []) Tryz.func171 wb4 trivial rfl rfl (fun av x => by kernel_rfl)
def z61 (e : GAsk) : Option Bool := if decide (e.op = 0) = true then (some (decide ([e.op, e.var, e.k] = [0, 0, 0]))) else ((z03 e.op 1 3).bind fun x2 => (if x2 = true then ((z03 e.var 0 2).bind fun x4 => (if x4 = true then ((z03 e.k (-99) 99).bind fun x6 => (some x6)) else (some false))) else (some false)))
def z84 : Con := ⟨138, [.v (.s .ask) false], [(.B, true)], [], fun x => z61 x.1⟩
def wm5 : Fs := ⟨[z0n], [], []⟩
theorem wo4 : wm5.Ok Tryz.prog := (fsK z0x fs0)
theorem zm8 : z84.Ok Tryz.prog := fn_ok (k := z84) (fn := Tryz.f138) (W := []) (H := []) Tryz.func138 wo4 trivial rfl rfl (fun av x => by kernel_rfl)
def z19 (e : GAsk) (data : List Int) : Option Bool := (z61 e).bind fun x1 => (if x1 = true then ((z2n data).bind fun x3 => (if x3 = true then (if decide (e.op = 1) = true then ((getI data e.var).bind fun x6 => (some (decide (x6 < e.k)))) else (if decide (e.op = 2) = true then ((getI data e.var).bind fun x8 => (some (decide (x8 = e.k)))) else (if decide (e.op = 3) = true then ((getI data e.var).bind fun x10 => (some (decide (e.k < x10)))) else (some true)))) else (some false))) else (some false))
def z48 : Con := ⟨181, [.v (.s .ask) false, .v (.sl .I) false], [(.B, true)], [], fun x => z19 x.1 x.2.1⟩
def w2s : Fs := ⟨[z84, z15], [], []⟩
theorem w3c : w2s.Ok Tryz.prog := (fsK zm8 (fsK z66 fs0))
theorem z6v : z48.Ok Tryz.prog := fn_ok (k := z48) (fn := Tryz.f181) (W := []) (H := []) Tryz.func181 w3c trivial rfl rfl (fun av x => by kernel_rfl)
def z0b (n : Int) (low : Int) (high : Int) : Option Bool := if decide (low ≤ n) = true then (some (decide (n ≤ high))) else (some false)
def z1z : Con := ⟨113, [.v .I false, .v .I false, .v .I false], [(.B, true)], [], fun x => z0b x.1 x.2.1 x.2.2.1⟩
def v42 : Fs := ⟨[], [], []⟩
theorem v4d : v42.Ok Tryz.prog := fs0
theorem z2p : z1z.Ok Tryz.prog := fn_ok (k := z1z) (fn := Tryz.f113) (W := []) (H := []) Tryz.func113 v4d trivial rfl rfl (fun av x => by kernel_rfl)
def z54 (n : Int) : Option Bool := (z0b n (-99) 99).bind fun x1 => (some x1)
def z7l : Con := ⟨114, [.v .I false], [(.B, true)], [], fun x => z54 x.1⟩
def w5t : Fs := ⟨[z1z], [], []⟩
theorem w6h : w5t.Ok Tryz.prog := (fsK z2p fs0)
theorem zl4 : z7l.Ok Tryz.prog := fn_ok (k := z7l) (fn := Tryz.f114) (W := []) (H := []) Tryz.func114 w6h trivial rfl rfl (fun av x => by kernel_rfl)
def z0l (list : List Int) : Option (List Int) := gd (([] : List Int).length + list.length ≤ SMALL) (some (([] : List Int) ++ list))
def z1s : Con := ⟨140, [.v (.sl .I) false], [((.sl .I), true)], [], fun x => z0l x.1⟩
def w0e : Fs := ⟨[], [], []⟩
theorem w0m : w0e.Ok Tryz.prog := fs0
theorem z3e : z1s.Ok Tryz.prog := fn_ok (k := z1s) (fn := Tryz.f140) (W := []) (H := []) Tryz.func140 w0m trivial rfl rfl (fun av x => by kernel_rfl)
def z6w (e : GAsk) : Option Bool := if decide (e.op = 0) = true then (if decide (e.var = 0) = true then (some (decide (e.k = 0))) else (some false)) else ((z0b e.op 1 3).bind fun x3 => (if x3 = true then ((z0b e.var 0 2).bind fun x5 => (if x5 = true then ((z54 e.k).bind fun x7 => (some x7)) else (some false))) else (some false)))
def zm1 : Con := ⟨141, [.v (.s .ask) false], [(.B, true)], [], fun x => z6w x.1⟩
def wl7 : Fs := ⟨[z1z, z7l], [], []⟩
theorem wo0 : wl7.Ok Tryz.prog := (fsK z2p (fsK zl4 fs0))
theorem y7u : zm1.Ok Tryz.prog := fn_ok (k := zm1) (fn := Tryz.f141) (W := []) (H := []) Tryz.func141 wo0 trivial rfl rfl (fun av x => by kernel_rfl)
def y1u  : Option Bool := some true
def z3q (list : List Int) (low : Int) (high : Int) (kx0_0 : Option Bool) : Nat → Int → Option Bool
  | 0, _ => none
  | n0 + 1, s0_0 => if decide (s0_0 < (list.length : Int)) = true then ((getI list s0_0).bind fun x4 => ((z03 x4 low high).bind fun x5 => (if x5 = true then (if decide (0 < s0_0) = true then (gd (ok64 (s0_0 - 1)) ((getI list (s0_0 - 1)).bind fun x9 => ((getI list s0_0).bind fun x10 => (if decide (x10 ≤ x9) = true then (some false) else (gd (ok64 (s0_0 + 1)) ((z3q list low high kx0_0 n0) (s0_0 + 1))))))) else (gd (ok64 (s0_0 + 1)) ((z3q list low high kx0_0 n0) (s0_0 + 1)))) else (some false)))) else (kx0_0)
def z9d (list : List Int) (least : Int) (most : Int) (low : Int) (high : Int) : Option Bool := (z03 (list.length : Int) least most).bind fun x1 => (if x1 = true then (z3q list low high y1u FUEL 0) else (some false))
def z42 : Con := ⟨214, [.v (.sl .I) false, .v .I false, .v .I false, .v .I false, .v .I false], [(.B, true)], [], fun x => z9d x.1 x.2.1 x.2.2.1 x.2.2.2.1 x.2.2.2.2.1⟩
def w6a : Fs := ⟨[z0n], [], []⟩
theorem yb3 : w6a.Ok Tryz.prog := (fsK z0x fs0)
def y5i : Tmpl := ⟨[(0, .c (.s .I)), (3, .c .i), (4, .c .i), (11, .c .i)], []⟩
def y2q : Tmpl := ⟨[], []⟩
def w09 (av : AV) (x : HP z42.ps) (n : Nat) (v : y5i.den) (K : Ks (CR z42)) : Option (CR z42) := z3q v.1.1 v.1.2.1 v.1.2.2.1 (y2q.at none ((), ()) (K (.exit 0))) n v.1.2.2.2.1
def y4p (av : AV) (x : HP z42.ps) : Hdl (CR z42) := hnd [] y5i (w09 av x)
theorem w17 : LP z42 Tryz.f214 [0] y4p := lp_ok (W := []) (H := []) (xs := [y2q]) yb3 trivial rfl (fun av x v K => by kernel_rfl) (fun av x n v K => by kernel_rfl)
theorem w7p : z42.Ok Tryz.prog := fn_ok (k := z42) (fn := Tryz.f214) (W := []) (H := [y4p]) Tryz.func214 yb3 ⟨w17, trivial⟩ rfl rfl (fun av x => by kernel_rfl)
def y7r  : Option Bool := some false
def z6t (list : List Int) (n : Int) (kx0_0 : Option Bool) : Nat → Int → Option Bool
  | 0, _ => none
  | n0 + 1, s0_0 => if decide (s0_0 < (list.length : Int)) = true then ((getI list s0_0).bind fun x2 => (if decide (x2 = n) = true then (some true) else (gd (ok64 (s0_0 + 1)) ((z6t list n kx0_0 n0) (s0_0 + 1))))) else (kx0_0)
def zb0 (list : List Int) (n : Int) : Option Bool := z6t list n y7r FUEL 0
def z4a : Con := ⟨101, [.v (.sl .I) false, .v .I false], [(.B, true)], [], fun x => zb0 x.1 x.2.1⟩
def wn1 : Fs := ⟨[], [], []⟩
theorem yx0 : wn1.Ok Tryz.prog := fs0
def ye8 : Tmpl := ⟨[(0, .c (.s .I)), (1, .c .i), (5, .c .i)], []⟩
def y93 : Tmpl := ⟨[], []⟩
def w5i (av : AV) (x : HP z4a.ps) (n : Nat) (v : ye8.den) (K : Ks (CR z4a)) : Option (CR z4a) := z6t v.1.1 v.1.2.1 (y93.at none ((), ()) (K (.exit 0))) n v.1.2.2.1
def yc7 (av : AV) (x : HP z4a.ps) : Hdl (CR z4a) := hnd [] ye8 (w5i av x)
theorem w73 : LP z4a Tryz.f101 [0] yc7 := lp_ok (W := []) (H := []) (xs := [y93]) yx0 trivial rfl (fun av x v K => by kernel_rfl) (fun av x n v K => by kernel_rfl)
theorem y86 : z4a.Ok Tryz.prog := fn_ok (k := z4a) (fn := Tryz.f101) (W := []) (H := [yc7]) Tryz.func101 yx0 ⟨w73, trivial⟩ rfl rfl (fun av x => by kernel_rfl)
def y1r (s0_0 : Int) (bk0 : Int → Option Bool) : Option Bool := gd (ok64 (s0_0 + 1)) (bk0 (s0_0 + 1))
def z2o (t : GTask) (s0_0 : Int) (x4 : GFlow) (kx1_0 : Option Bool) : Nat → Int → Option Bool
  | 0, _ => none
  | n1 + 1, s1_0 => if decide (s1_0 < s0_0) = true then ((getI t.out s1_0).bind fun x14 => (if decide (x14.to = x4.to) = true then (some false) else (gd (ok64 (s1_0 + 1)) ((z2o t s0_0 x4 kx1_0 n1) (s1_0 + 1))))) else (kx1_0)
def y1s (s0_0 : Int) (bk0 : Int → Option Bool) : Option Bool := gd (ok64 (s0_0 + 1)) (bk0 (s0_0 + 1))
def y1t  : Option Bool := some true
def z3p (t : GTask) (places : Int) (kx0_0 : Option Bool) : Nat → Int → Option Bool
  | 0, _ => none
  | n0 + 1, s0_0 => if decide (s0_0 < (t.out.length : Int)) = true then ((getI t.out s0_0).bind fun x4 => (gd (ok64 ((t.out.length : Int) - 1)) (if decide (s0_0 = ((t.out.length : Int) - 1)) = true then (gd (ok64 (places - 1)) ((z03 x4.to 1 (places - 1)).bind fun x8 => (if x8 = true then ((z61 x4.if_).bind fun x10 => (if x10 = true then (if (true == (decide (x4.if_.op = 0))) = true then (z2o t s0_0 x4 (y1r s0_0 (z3p t places kx0_0 n0)) FUEL 0) else (some false)) else (some false))) else (some false)))) else (gd (ok64 (places - 1)) ((z03 x4.to 1 (places - 1)).bind fun x19 => (if x19 = true then ((z61 x4.if_).bind fun x21 => (if x21 = true then (if ((decide (t.split = 1)) == (decide (x4.if_.op = 0))) = true then (z2o t s0_0 x4 (y1s s0_0 (z3p t places kx0_0 n0)) FUEL 0) else (some false)) else (some false))) else (some false))))))) else (kx0_0)
def zl3 (t : GTask) (places : Int) : Option Bool := (z03 (t.out.length : Int) 1 3).bind fun x1 => (if x1 = true then (z3p t places y1t FUEL 0) else (some false))
def z0w : Con := ⟨215, [.v (.s .task) false, .v .I false], [(.B, true)], [], fun x => zl3 x.1 x.2.1⟩
def w69 : Fs := ⟨[z0n, z84], [], []⟩
theorem y0c : w69.Ok Tryz.prog := (fsK z0x (fsK zm8 fs0))
def zz6 : Tmpl := ⟨[(1, .c .i), (2, .c (.bx 2 0)), (5, .c .i), (6, .c (.bx 6 0)), (8, .c .i)], [(2, .boxT (.s .task)), (6, .boxT (.s .flow))]⟩
def zw7 : Tmpl := ⟨[(1, .c .i), (2, .c (.bx 2 0)), (5, .c .i)], [(2, .boxT (.s .task))]⟩
def yi7 (av : AV) (x : HP z0w.ps) (n : Nat) (v : zz6.den) (K : Ks (CR z0w)) : Option (CR z0w) := z2o v.2.1 v.1.2.2.1 v.2.2.1 (zw7.at none ((v.1.1, (), v.1.2.2.1, ()), (v.2.1, ())) (K (.exit 2))) n v.1.2.2.2.2.1
def zx7 (av : AV) (x : HP z0w.ps) : Hdl (CR z0w) := hnd [] zz6 (yi7 av x)
theorem ym1 : LP z0w Tryz.f215 [0, 0] zx7 := lp_ok (W := []) (H := []) (xs := [zw7]) y0c trivial rfl (fun av x v K => by kernel_rfl) (fun av x n v K => by kernel_rfl)
def y5h : Tmpl := ⟨[(1, .c .i), (2, .c (.bx 2 0)), (5, .c .i)], [(2, .boxT (.s .task))]⟩
def y2p : Tmpl := ⟨[], []⟩
def w08 (av : AV) (x : HP z0w.ps) (n : Nat) (v : y5h.den) (K : Ks (CR z0w)) : Option (CR z0w) := z3p v.2.1 v.1.1 (y2p.at none ((), ()) (K (.exit 0))) n v.1.2.2.1
def y4o (av : AV) (x : HP z0w.ps) : Hdl (CR z0w) := hnd [] y5h (w08 av x)
theorem w16 : LP z0w Tryz.f215 [0] y4o := lp_ok (W := []) (H := [zx7]) (xs := [y2p]) y0c ⟨ym1, trivial⟩ rfl (fun av x v K => by kernel_rfl) (fun av x n v K => by kernel_rfl)
theorem w7o : z0w.Ok Tryz.prog := fn_ok (k := z0w) (fn := Tryz.f215) (W := []) (H := [y4o]) Tryz.func215 y0c ⟨w16, trivial⟩ rfl rfl (fun av x => by kernel_rfl)
def zs4 (t : GTask) (places : Int) (tasks : Int) : Option Bool := (z03 t.join 1 3).bind fun x1 => (if x1 = true then ((z03 t.split 1 3).bind fun x3 => (if x3 = true then (gd (ok64 (places - 1)) ((z9d t.in_ 1 3 0 (places - 1)).bind fun x6 => (if x6 = true then ((zb0 t.in_ 1).bind fun x8 => (if x8 = true then (some false) else ((zl3 t places).bind fun x10 => (if x10 = true then (gd (ok64 (places - 1)) ((z9d t.clear 0 places 2 (places - 1)).bind fun x13 => (if x13 = true then ((z03 t.role 1 3).bind fun x15 => (if x15 = true then (gd (ok64 (tasks - 1)) ((z03 t.apart (-1) (tasks - 1)).bind fun x18 => (if x18 = true then ((z03 t.all 1 3).bind fun x20 => (if x20 = true then ((z03 t.need 1 t.all).bind fun x22 => (some x22)) else (some false))) else (some false)))) else (some false))) else (some false)))) else (some false))))) else (some false)))) else (some false))) else (some false))
def y3f : Con := ⟨198, [.v (.s .task) false, .v .I false, .v .I false], [(.B, true)], [], fun x => zs4 x.1 x.2.1 x.2.2.1⟩
def w9r : Fs := ⟨[z0n, z42, z4a, z0w], [], []⟩
theorem wc1 : w9r.Ok Tryz.prog := (fsK z0x (fsK w7p (fsK y86 (fsK w7o fs0))))
theorem wf7 : y3f.Ok Tryz.prog := fn_ok (k := y3f) (fn := Tryz.f198) (W := []) (H := []) Tryz.func198 wc1 trivial rfl rfl (fun av x => by kernel_rfl)
def y7k  : Option Bool := some true
def z6q (n : GNet) (kx0_0 : Option Bool) : Nat → Int → Option Bool
  | 0, _ => none
  | n0 + 1, s0_0 => if decide (s0_0 < (n.tasks.length : Int)) = true then ((getI n.tasks s0_0).bind fun x6 => ((zs4 x6 n.places (n.tasks.length : Int)).bind fun x7 => (if x7 = true then (gd (ok64 (s0_0 + 1)) ((z6q n kx0_0 n0) (s0_0 + 1))) else (some false)))) else (kx0_0)
def z3b (n : GNet) : Option Bool := (z03 n.places 2 8).bind fun x1 => (if x1 = true then ((z03 (n.tasks.length : Int) 1 6).bind fun x3 => (if x3 = true then (z6q n y7k FUEL 0) else (some false))) else (some false))
def z2l : Con := ⟨161, [.v (.s .net) false], [(.B, true)], [], fun x => z3b x.1⟩
def wm7 : Fs := ⟨[z0n, y3f], [], []⟩
theorem yw7 : wm7.Ok Tryz.prog := (fsK z0x (fsK wf7 fs0))
def ye4 : Tmpl := ⟨[(1, .c (.bx 1 0)), (3, .c .i)], [(1, .boxT (.s .net))]⟩
def y90 : Tmpl := ⟨[], []⟩
def w5e (av : AV) (x : HP z2l.ps) (n : Nat) (v : ye4.den) (K : Ks (CR z2l)) : Option (CR z2l) := z6q v.2.1 (y90.at none ((), ()) (K (.exit 0))) n v.1.2.1
def yc3 (av : AV) (x : HP z2l.ps) : Hdl (CR z2l) := hnd [] ye4 (w5e av x)
theorem w6z : LP z2l Tryz.f161 [0] yc3 := lp_ok (W := []) (H := []) (xs := [y90]) yw7 trivial rfl (fun av x v K => by kernel_rfl) (fun av x n v K => by kernel_rfl)
theorem zm9 : z2l.Ok Tryz.prog := fn_ok (k := z2l) (fn := Tryz.f161) (W := []) (H := [yc3]) Tryz.func161 yw7 ⟨w6z, trivial⟩ rfl rfl (fun av x => by kernel_rfl)
def zf9 (s1_0 : Int) (bk1 : Int → List Bool → Option (List Bool)) (l3_1 : List Bool) : Option (List Bool) := gd (ok64 (s1_0 + 1)) (bk1 (s1_0 + 1) l3_1)
def zg0 (s1_0 : Int) (bk1 : Int → List Bool → Option (List Bool)) (l3_1 : List Bool) : Option (List Bool) := gd (ok64 (s1_0 + 1)) (bk1 (s1_0 + 1) l3_1)
def zg1 (s1_0 : Int) (bk1 : Int → List Bool → Option (List Bool)) (l3_1 : List Bool) : Option (List Bool) := gd (ok64 (s1_0 + 1)) (bk1 (s1_0 + 1) l3_1)
def z1h (n : GNet) (but : Int) (s1_0 : Int) (s2_0 : Bool) (kx3_0 : List Bool → Option (List Bool)) (kx3_1 : List Bool → Option (List Bool)) (kx3_2 : List Bool → Option (List Bool)) : Nat → Int → List Bool → Option (List Bool)
  | 0, _, _ => none
  | n3 + 1, s3_0, l3_1 => (getI n.tasks s1_0).bind fun x12 => (if decide (s3_0 < (x12.out.length : Int)) = true then (if s2_0 = true then (if decide (s1_0 = but) = true then (kx3_0 l3_1) else ((getI n.tasks s1_0).bind fun x17 => ((getI x17.out s3_0).bind fun x18 => ((getI l3_1 x18.to).bind fun x19 => (gd (ok64 (s3_0 + 1)) ((z1h n but s1_0 s2_0 kx3_0 kx3_1 kx3_2 n3) (s3_0 + 1) (l3_1.set x18.to.toNat true))))))) else (kx3_1 l3_1)) else (kx3_2 l3_1))
def zy6 (n : GNet) (but : Int) (s1_0 : Int) (l1_1 : List Bool) (bk1 : Int → List Bool → Option (List Bool)) (s2_0 : Bool) : Option (List Bool) := z1h n but s1_0 s2_0 (zf9 s1_0 bk1) (zg0 s1_0 bk1) (zg1 s1_0 bk1) FUEL 0 l1_1
def z23 (n : GNet) (s1_0 : Int) (l1_1 : List Bool) (kx2_0 : Bool → Option (List Bool)) : Nat → Bool → Int → Option (List Bool)
  | 0, _, _ => none
  | n2 + 1, s2_0, s2_1 => (getI n.tasks s1_0).bind fun x4 => (if decide (s2_1 < (x4.in_.length : Int)) = true then (if s2_0 = true then (gd (ok64 (s2_1 + 1)) ((z23 n s1_0 l1_1 kx2_0 n2) true (s2_1 + 1))) else ((getI n.tasks s1_0).bind fun x8 => ((getI x8.in_ s2_1).bind fun x9 => ((getI l1_1 x9).bind fun x10 => (gd (ok64 (s2_1 + 1)) ((z23 n s1_0 l1_1 kx2_0 n2) x10 (s2_1 + 1))))))) else (kx2_0 s2_0))
def zy7 (s0_0 : Int) (bk0 : Int → List Bool → Option (List Bool)) (l1_1 : List Bool) : Option (List Bool) := gd (ok64 (s0_0 + 1)) (bk0 (s0_0 + 1) l1_1)
def z0j (n : GNet) (but : Int) (kx1_0 : List Bool → Option (List Bool)) : Nat → Int → List Bool → Option (List Bool)
  | 0, _, _ => none
  | n1 + 1, s1_0, l1_1 => if decide (s1_0 < (n.tasks.length : Int)) = true then (z23 n s1_0 l1_1 (zy6 n but s1_0 l1_1 (z0j n but kx1_0 n1)) FUEL false 0) else (kx1_0 l1_1)
def zy8 (l0_1 : List Bool) : Option (List Bool) := some l0_1
def z4k (n : GNet) (but : Int) (kx0_0 : List Bool → Option (List Bool)) : Nat → Int → List Bool → Option (List Bool)
  | 0, _, _ => none
  | n0 + 1, s0_0, l0_1 => if decide (s0_0 < n.places) = true then (z0j n but (zy7 s0_0 (z4k n but kx0_0 n0)) FUEL 0 l0_1) else (kx0_0 l0_1)
def zf8 (n : GNet) (marked : List Bool) (but : Int) : Option (List Bool) := gd (([] : List Bool).length + marked.length ≤ SMALL) (z4k n but zy8 FUEL 0 (([] : List Bool) ++ marked))
def z06 : Con := ⟨216, [.v (.s .net) false, .v (.sl .B) false, .v .I false], [((.sl .B), true)], [], fun x => zf8 x.1 x.2.1 x.2.2.1⟩
def w2x : Fs := ⟨[], [], []⟩
theorem z80 : w2x.Ok Tryz.prog := fs0
def zn3 : Tmpl := ⟨[(2, .c .i), (3, .c (.bx 3 0)), (7, .c (.ref 15)), (8, .c .i), (9, .c .i), (10, .c .b), (11, .c .i)], [(3, .boxT (.s .net)), (15, .arr .B true)]⟩
def zi8 : Tmpl := ⟨[(2, .c .i), (3, .c (.bx 3 0)), (7, .c (.ref 15)), (8, .c .i), (9, .c .i), (10, .c .b)], [(3, .boxT (.s .net)), (15, .arr .B true)]⟩
def y64 (av : AV) (x : HP z06.ps) (n : Nat) (v : zn3.den) (K : Ks (CR z06)) : Option (CR z06) := z23 v.2.1 v.1.2.2.2.2.1 v.2.2.1 (fun s2_0 => zi8.at none ((v.1.1, (), (), v.1.2.2.2.1, v.1.2.2.2.2.1, s2_0, ()), (v.2.1, v.2.2.1, ())) (K (.exit 4))) n v.1.2.2.2.2.2.1 v.1.2.2.2.2.2.2.1
def zl8 (av : AV) (x : HP z06.ps) : Hdl (CR z06) := hnd [] zn3 (y64 av x)
theorem y7a : LP z06 Tryz.f216 [0, 0, 0] zl8 := lp_ok (W := []) (H := []) (xs := [zi8]) z80 trivial rfl (fun av x v K => by kernel_rfl) (fun av x n v K => by kernel_rfl)
def zn4 : Tmpl := ⟨[(2, .c .i), (3, .c (.bx 3 0)), (7, .c (.ref 15)), (8, .c .i), (9, .c .i), (10, .c .b), (12, .c .i)], [(3, .boxT (.s .net)), (15, .arr .B true)]⟩
def z5f : Tmpl := ⟨[(2, .c .i), (3, .c (.bx 3 0)), (7, .c (.ref 15)), (8, .c .i), (9, .c .i)], [(3, .boxT (.s .net)), (15, .arr .B true)]⟩
def y65 (av : AV) (x : HP z06.ps) (n : Nat) (v : zn4.den) (K : Ks (CR z06)) : Option (CR z06) := z1h v.2.1 v.1.1 v.1.2.2.2.2.1 v.1.2.2.2.2.2.1 (fun l3_1 => z5f.at none ((v.1.1, (), (), v.1.2.2.2.1, v.1.2.2.2.2.1, ()), (v.2.1, l3_1, ())) (K (.exit 6))) (fun l3_1 => z5f.at none ((v.1.1, (), (), v.1.2.2.2.1, v.1.2.2.2.2.1, ()), (v.2.1, l3_1, ())) (K (.exit 6))) (fun l3_1 => z5f.at none ((v.1.1, (), (), v.1.2.2.2.1, v.1.2.2.2.2.1, ()), (v.2.1, l3_1, ())) (K (.exit 6))) n v.1.2.2.2.2.2.2.1 v.2.2.1
def zl9 (av : AV) (x : HP z06.ps) : Hdl (CR z06) := hnd [] zn4 (y65 av x)
theorem y7b : LP z06 Tryz.f216 [0, 0, 1] zl9 := lp_ok (W := []) (H := []) (xs := [z5f]) z80 trivial rfl (fun av x v K => by kernel_rfl) (fun av x n v K => by kernel_rfl)
def zw2 : Tmpl := ⟨[(2, .c .i), (3, .c (.bx 3 0)), (7, .c (.ref 15)), (8, .c .i), (9, .c .i)], [(3, .boxT (.s .net)), (15, .arr .B true)]⟩
def zp9 : Tmpl := ⟨[(2, .c .i), (3, .c (.bx 3 0)), (7, .c (.ref 15)), (8, .c .i)], [(3, .boxT (.s .net)), (15, .arr .B true)]⟩
def yf3 (av : AV) (x : HP z06.ps) (n : Nat) (v : zw2.den) (K : Ks (CR z06)) : Option (CR z06) := z0j v.2.1 v.1.1 (fun l1_1 => zp9.at none ((v.1.1, (), (), v.1.2.2.2.1, ()), (v.2.1, l1_1, ())) (K (.exit 2))) n v.1.2.2.2.2.1 v.2.2.1
def zu3 (av : AV) (x : HP z06.ps) : Hdl (CR z06) := hnd [] zw2 (yf3 av x)
theorem yh0 : LP z06 Tryz.f216 [0, 0] zu3 := lp_ok (W := []) (H := [zl8, zl9]) (xs := [zp9]) z80 ⟨y7a, y7b, trivial⟩ rfl (fun av x v K => by kernel_rfl) (fun av x n v K => by kernel_rfl)
def y27 : Tmpl := ⟨[(2, .c .i), (3, .c (.bx 3 0)), (7, .c (.ref 15)), (8, .c .i)], [(3, .boxT (.s .net)), (15, .arr .B true)]⟩
def y04 : Tmpl := ⟨[(7, .c (.ref 15))], [(15, .arr .B true)]⟩
def yq8 (av : AV) (x : HP z06.ps) (n : Nat) (v : y27.den) (K : Ks (CR z06)) : Option (CR z06) := z4k v.2.1 v.1.1 (fun l0_1 => y04.at none (((), ()), (l0_1, ())) (K (.exit 0))) n v.1.2.2.2.1 v.2.2.1
def y1g (av : AV) (x : HP z06.ps) : Hdl (CR z06) := hnd [] y27 (yq8 av x)
theorem yt9 : LP z06 Tryz.f216 [0] y1g := lp_ok (W := []) (H := [zu3]) (xs := [y04]) z80 ⟨yh0, trivial⟩ rfl (fun av x v K => by kernel_rfl) (fun av x n v K => by kernel_rfl)
theorem w4a : z06.Ok Tryz.prog := fn_ok (k := z06) (fn := Tryz.f216) (W := []) (H := [y1g]) Tryz.func216 z80 ⟨yt9, trivial⟩ rfl rfl (fun av x => by kernel_rfl)
def zr8 (kind : Int) : Option Bool := (z0b kind 1 3).bind fun x1 => (some x1)
def y3d : Con := ⟨177, [.v .I false], [(.B, true)], [], fun x => zr8 x.1⟩
def w9b : Fs := ⟨[z1z], [], []⟩
theorem wb1 : w9b.Ok Tryz.prog := (fsK z2p fs0)
theorem wf1 : y3d.Ok Tryz.prog := fn_ok (k := y3d) (fn := Tryz.f177) (W := []) (H := []) Tryz.func177 wb1 trivial rfl rfl (fun av x => by kernel_rfl)
def ze2 (role : Int) : Option Bool := (z0b role 1 3).bind fun x1 => (some x1)
def zq5 : Con := ⟨151, [.v .I false], [(.B, true)], [], fun x => ze2 x.1⟩
def w9c : Fs := ⟨[z1z], [], []⟩
theorem wb2 : w9c.Ok Tryz.prog := (fsK z2p fs0)
theorem yn1 : zq5.Ok Tryz.prog := fn_ok (k := zq5) (fn := Tryz.f151) (W := []) (H := []) Tryz.func151 wb2 trivial rfl rfl (fun av x => by kernel_rfl)
def y0r (places : Int) (tasks : Int) : Option Bool := (z0b places 2 8).bind fun x1 => (if x1 = true then ((z0b tasks 1 6).bind fun x3 => (some x3)) else (some false))
def y0g : Con := ⟨122, [.v .I false, .v .I false], [(.B, true)], [], fun x => y0r x.1 x.2.1⟩
def w5w : Fs := ⟨[z1z], [], []⟩
theorem w6j : w5w.Ok Tryz.prog := (fsK z2p fs0)
theorem w7f : y0g.Ok Tryz.prog := fn_ok (k := y0g) (fn := Tryz.f122) (W := []) (H := []) Tryz.func122 w6j trivial rfl rfl (fun av x => by kernel_rfl)
def z0m (n : GNet) (t : Int) : Option Bool := gd (ok64 ((n.tasks.length : Int) - 1)) ((z0b t 0 ((n.tasks.length : Int) - 1)).bind fun x2 => (some x2))
def z1n : Con := ⟨96, [.v (.s .net) false, .v .I false], [(.B, true)], [], fun x => z0m x.1 x.2.1⟩
def y69 : Fs := ⟨[z1z], [], []⟩
theorem y6c : y69.Ok Tryz.prog := (fsK z2p fs0)
theorem z4d : z1n.Ok Tryz.prog := fn_ok (k := z1n) (fn := Tryz.f96) (W := []) (H := []) Tryz.func96 y6c trivial rfl rfl (fun av x => by kernel_rfl)
def z6b (t : GTask) : Option GTask := (z0l t.in_).bind fun x1 => (gd (([] : List GFlow).length + t.out.length ≤ SMALL) ((z0l t.clear).bind fun x3 => (some (GTask.mk t.join t.split x1 (([] : List GFlow) ++ t.out) x3 t.role t.apart t.all t.need))))
def z91 : Con := ⟨207, [.v (.s .task) false], [((.s .task), true)], [], fun x => z6b x.1⟩
def y9p : Fs := ⟨[z1s], [], []⟩
theorem y9v : y9p.Ok Tryz.prog := (fsK z3e fs0)
theorem ya1 : z91.Ok Tryz.prog := fn_ok (k := z91) (fn := Tryz.f207) (W := []) (H := []) Tryz.func207 y9v trivial rfl rfl (fun av x => by kernel_rfl)
def z7r (p0_3 : Int) (l0_1 : List GTask) : Option GNet := some (GNet.mk p0_3 l0_1)
def z28 (p0_0 : List GTask) (p0_1 : Int) (kx0_0 : List GTask → Option GNet) : Nat → Int → List GTask → Option GNet
  | 0, _, _ => none
  | n0 + 1, s0_0, l0_1 => if decide (s0_0 < p0_1) = true then ((getI p0_0 s0_0).bind fun x2 => ((z6b x2).bind fun x3 => (gd (l0_1.length + [x3].length ≤ SMALL) (gd (ok64 (s0_0 + 1)) ((z28 p0_0 p0_1 kx0_0 n0) (s0_0 + 1) (l0_1 ++ [x3])))))) else (kx0_0 l0_1)
def z73 (n : GNet) : Option GNet := z28 n.tasks (n.tasks.length : Int) (z7r n.places) FUEL 0 ([] : List GTask)
def z16 : Con := ⟨184, [.v (.s .net) false], [((.s .net), true)], [], fun x => z73 x.1⟩
def yf8 : Fs := ⟨[z91], [], []⟩
theorem zt7 : yf8.Ok Tryz.prog := (fsK ya1 fs0)
def zn1 : Tmpl := ⟨[(2, .c (.bx 2 0)), (3, .c (.bx 3 0)), (10, .c (.s (.s .task))), (11, .c .i), (12, .c .i)], [(2, .box [.i, .nl]), (3, .box [.i, .ref 510301]), (510301, .arr (.s .task) true)]⟩
def zi6 : Tmpl := ⟨[(2, .c (.bx 2 0)), (3, .c (.bx 3 0))], [(2, .box [.i, .nl]), (3, .box [.i, .ref 510301]), (510301, .arr (.s .task) true)]⟩
def y62 (av : AV) (x : HP z16.ps) (n : Nat) (v : zn1.den) (K : Ks (CR z16)) : Option (CR z16) := z28 v.1.2.2.1 v.1.2.2.2.1 (fun l0_1 => zi6.at none (((), (), ()), ((v.2.1.1, (), ()), (v.2.2.1.1, (), ()), l0_1, ())) (K (.exit 0))) n v.1.2.2.2.2.1 v.2.2.2.1
def zl6 (av : AV) (x : HP z16.ps) : Hdl (CR z16) := hnd [.b 3 1 510301 (.s .task)] zn1 (y62 av x)
theorem y78 : LP z16 Tryz.f184 [0] zl6 := lp_ok (W := []) (H := []) (xs := [zi6]) zt7 trivial rfl (fun av x v K => by kernel_rfl) (fun av x n v K => by kernel_rfl)
theorem yh7 : z16.Ok Tryz.prog := fn_ok (k := z16) (fn := Tryz.f184) (W := []) (H := [zl6]) Tryz.func184 zt7 ⟨y78, trivial⟩ rfl rfl (fun av x => by kernel_rfl)
def y7j  : Option Bool := some true
def z6p (marks : List Int) (kx0_0 : Option Bool) : Nat → Int → Option Bool
  | 0, _ => none
  | n0 + 1, s0_0 => if decide (s0_0 < (marks.length : Int)) = true then ((getI marks s0_0).bind fun x5 => ((z03 x5 0 4).bind fun x6 => (if x6 = true then (gd (ok64 (s0_0 + 1)) ((z6p marks kx0_0 n0) (s0_0 + 1))) else (some false)))) else (kx0_0)
def z8b (n : GNet) (marks : List Int) : Option Bool := (z3b n).bind fun x1 => (if x1 = true then (if decide ((marks.length : Int) = n.places) = true then (z6p marks y7j FUEL 0) else (some false)) else (some false))
def z38 : Con := ⟨87, [.v (.s .net) false, .v (.sl .I) false], [(.B, true)], [], fun x => z8b x.1 x.2.1⟩
def wm6 : Fs := ⟨[z2l, z0n], [], []⟩
theorem yw6 : wm6.Ok Tryz.prog := (fsK zm9 (fsK z0x fs0))
def ye3 : Tmpl := ⟨[(1, .c (.s .I)), (5, .c .i)], []⟩
def y8z : Tmpl := ⟨[], []⟩
def w5d (av : AV) (x : HP z38.ps) (n : Nat) (v : ye3.den) (K : Ks (CR z38)) : Option (CR z38) := z6p v.1.1 (y8z.at none ((), ()) (K (.exit 0))) n v.1.2.1
def yc2 (av : AV) (x : HP z38.ps) : Hdl (CR z38) := hnd [] ye3 (w5d av x)
theorem w6y : LP z38 Tryz.f87 [0] yc2 := lp_ok (W := []) (H := []) (xs := [y8z]) yw6 trivial rfl (fun av x v K => by kernel_rfl) (fun av x n v K => by kernel_rfl)
theorem zz1 : z38.Ok Tryz.prog := fn_ok (k := z38) (fn := Tryz.f87) (W := []) (H := [yc2]) Tryz.func87 yw6 ⟨w6y, trivial⟩ rfl rfl (fun av x => by kernel_rfl)
def z9q (s0_0 : Bool) (s0_1 : Bool) : Option (Bool × Bool) := some (s0_0, s0_1)
def z1v (marks : List Int) (list : List Int) (kx0_0 : Bool → Bool → Option (Bool × Bool)) : Nat → Bool → Bool → Int → Option (Bool × Bool)
  | 0, _, _, _ => none
  | n0 + 1, s0_0, s0_1, s0_2 => if decide (s0_2 < (list.length : Int)) = true then (if s0_0 = true then (if s0_1 = true then ((getI list s0_2).bind fun x4 => ((getI marks x4).bind fun x5 => (gd (ok64 (s0_2 + 1)) ((z1v marks list kx0_0 n0) true (decide (0 < x5)) (s0_2 + 1))))) else (gd (ok64 (s0_2 + 1)) ((z1v marks list kx0_0 n0) true false (s0_2 + 1)))) else ((getI list s0_2).bind fun x8 => ((getI marks x8).bind fun x9 => (if s0_1 = true then ((getI list s0_2).bind fun x11 => ((getI marks x11).bind fun x12 => (gd (ok64 (s0_2 + 1)) ((z1v marks list kx0_0 n0) (decide (0 < x9)) (decide (0 < x12)) (s0_2 + 1))))) else (gd (ok64 (s0_2 + 1)) ((z1v marks list kx0_0 n0) (decide (0 < x9)) false (s0_2 + 1))))))) else (kx0_0 s0_0 s0_1)
def zs5 (marks : List Int) (list : List Int) : Option (Bool × Bool) := z1v marks list z9q FUEL false true 0
def z4y : Con := ⟨200, [.v (.sl .I) false, .v (.sl .I) false], [(.B, true), (.B, true)], [], fun x => zs5 x.1 x.2.1⟩
def w9t : Fs := ⟨[], [], []⟩
theorem yk9 : w9t.Ok Tryz.prog := fs0
def y8k : Tmpl := ⟨[(0, .c (.s .I)), (1, .c (.s .I)), (6, .c .b), (7, .c .b), (8, .c .i)], []⟩
def y5s : Tmpl := ⟨[(6, .c .b), (7, .c .b)], []⟩
def w25 (av : AV) (x : HP z4y.ps) (n : Nat) (v : y8k.den) (K : Ks (CR z4y)) : Option (CR z4y) := z1v v.1.1 v.1.2.1 (fun s0_0 s0_1 => y5s.at none ((s0_0, s0_1, ()), ()) (K (.exit 0))) n v.1.2.2.1 v.1.2.2.2.1 v.1.2.2.2.2.1
def y6u (av : AV) (x : HP z4y.ps) : Hdl (CR z4y) := hnd [] y8k (w25 av x)
theorem w3t : LP z4y Tryz.f200 [0] y6u := lp_ok (W := []) (H := []) (xs := [y5s]) yk9 trivial rfl (fun av x v K => by kernel_rfl) (fun av x n v K => by kernel_rfl)
theorem wf8 : z4y.Ok Tryz.prog := fn_ok (k := z4y) (fn := Tryz.f200) (W := []) (H := [y6u]) Tryz.func200 yk9 ⟨w3t, trivial⟩ rfl rfl (fun av x => by kernel_rfl)
def z4m (s1_0 : Int) (bk1 : Int → List Bool → Option Bool) (l2_1 : List Bool) : Option Bool := gd (ok64 (s1_0 + 1)) (bk1 (s1_0 + 1) l2_1)
def z32 (p2_0 : List GFlow) (kx2_0 : List Bool → Option Bool) : Nat → Int → List Bool → Option Bool
  | 0, _, _ => none
  | n2 + 1, s2_0, l2_1 => if decide (s2_0 < (p2_0.length : Int)) = true then ((getI p2_0 s2_0).bind fun x15 => ((getI l2_1 x15.to).bind fun x16 => (gd (ok64 (s2_0 + 1)) ((z32 p2_0 kx2_0 n2) (s2_0 + 1) (l2_1.set x15.to.toNat true))))) else (kx2_0 l2_1)
def zg4  : Option Bool := some false
def z26 (n : GNet) (marks : List Int) (t : Int) (x19 : (List Bool)) (kx3_0 : Option Bool) : Nat → Int → Option Bool
  | 0, _ => none
  | n3 + 1, s3_0 => (getI n.tasks t).bind fun x20 => (if decide (s3_0 < (x20.in_.length : Int)) = true then ((getI n.tasks t).bind fun x22 => ((getI x22.in_ s3_0).bind fun x23 => ((getI marks x23).bind fun x24 => (if decide (x24 = 0) = true then ((getI n.tasks t).bind fun x26 => ((getI x26.in_ s3_0).bind fun x27 => ((getI x19 x27).bind fun x28 => (if x28 = true then (some true) else (gd (ok64 (s3_0 + 1)) ((z26 n marks t x19 kx3_0 n3) (s3_0 + 1))))))) else (gd (ok64 (s3_0 + 1)) ((z26 n marks t x19 kx3_0 n3) (s3_0 + 1))))))) else (kx3_0))
def z24 (n : GNet) (marks : List Int) (t : Int) (l1_1 : List Bool) : Option Bool := (zf8 n l1_1 t).bind fun x19 => (z26 n marks t x19 zg4 FUEL 0)
def z14 (n : GNet) (busy : List GItem) (kx1_0 : List Bool → Option Bool) : Nat → Int → List Bool → Option Bool
  | 0, _, _ => none
  | n1 + 1, s1_0, l1_1 => if decide (s1_0 < (busy.length : Int)) = true then ((getI busy s1_0).bind fun x12 => ((getI n.tasks x12.task).bind fun x13 => (z32 x13.out (z4m s1_0 (z14 n busy kx1_0 n1)) FUEL 0 l1_1))) else (kx1_0 l1_1)
def z4l (n : GNet) (marks : List Int) (busy : List GItem) (t : Int) (l0_1 : List Bool) : Option Bool := z14 n busy (z24 n marks t) FUEL 0 l0_1
def z25 (n : GNet) (marks : List Int) (t : Int) (kx0_0 : List Bool → Option Bool) : Nat → Int → List Bool → Option Bool
  | 0, _, _ => none
  | n0 + 1, s0_0, l0_1 => if decide (s0_0 < n.places) = true then ((getI marks s0_0).bind fun x3 => (if decide (0 < x3) = true then ((getI n.tasks t).bind fun x5 => ((zb0 x5.in_ s0_0).bind fun x6 => ((getI l0_1 s0_0).bind fun x7 => (gd (ok64 (s0_0 + 1)) ((z25 n marks t kx0_0 n0) (s0_0 + 1) (l0_1.set s0_0.toNat (!x6))))))) else ((getI l0_1 s0_0).bind fun x9 => (gd (ok64 (s0_0 + 1)) ((z25 n marks t kx0_0 n0) (s0_0 + 1) (l0_1.set s0_0.toNat false)))))) else (kx0_0 l0_1)
def zg3 (n : GNet) (marks : List Int) (busy : List GItem) (t : Int) : Option Bool := gd ((0 : Int) ≤ n.places ∧ n.places ≤ (1000000000 : Int)) (z25 n marks t (z4l n marks busy t) FUEL 0 (List.replicate n.places.toNat false))
def z07 : Con := ⟨201, [.v (.s .net) false, .v (.sl .I) false, .v (.sl (.s .item)) false, .v .I false], [(.B, true)], [], fun x => zg3 x.1 x.2.1 x.2.2.1 x.2.2.2.1⟩
def w2y : Fs := ⟨[z4a, z06], [], []⟩
theorem z81 : w2y.Ok Tryz.prog := (fsK y86 (fsK w4a fs0))
def zw3 : Tmpl := ⟨[(1, .c (.s .I)), (2, .c (.s (.s .item))), (3, .c .i), (4, .c (.bx 4 0)), (9, .c (.ref 18)), (11, .c .i), (12, .c (.s (.s .flow))), (13, .c .i)], [(4, .boxT (.s .net)), (18, .arr .B true)]⟩
def zq0 : Tmpl := ⟨[(1, .c (.s .I)), (2, .c (.s (.s .item))), (3, .c .i), (4, .c (.bx 4 0)), (9, .c (.ref 18)), (11, .c .i)], [(4, .boxT (.s .net)), (18, .arr .B true)]⟩
def yf4 (av : AV) (x : HP z07.ps) (n : Nat) (v : zw3.den) (K : Ks (CR z07)) : Option (CR z07) := z32 v.1.2.2.2.2.2.2.1 (fun l2_1 => zq0.at none ((v.1.1, v.1.2.1, v.1.2.2.1, (), (), v.1.2.2.2.2.2.1, ()), (v.2.1, l2_1, ())) (K (.exit 4))) n v.1.2.2.2.2.2.2.2.1 v.2.2.1
def zu4 (av : AV) (x : HP z07.ps) : Hdl (CR z07) := hnd [] zw3 (yf4 av x)
theorem yh1 : LP z07 Tryz.f201 [1, 0] zu4 := lp_ok (W := []) (H := []) (xs := [zq0]) z81 trivial rfl (fun av x v K => by kernel_rfl) (fun av x n v K => by kernel_rfl)
def y28 : Tmpl := ⟨[(1, .c (.s .I)), (2, .c (.s (.s .item))), (3, .c .i), (4, .c (.bx 4 0)), (9, .c (.ref 18)), (10, .c .i)], [(4, .boxT (.s .net)), (18, .arr .B true)]⟩
def y05 : Tmpl := ⟨[(1, .c (.s .I)), (2, .c (.s (.s .item))), (3, .c .i), (4, .c (.bx 4 0)), (9, .c (.ref 18))], [(4, .boxT (.s .net)), (18, .arr .B true)]⟩
def yq9 (av : AV) (x : HP z07.ps) (n : Nat) (v : y28.den) (K : Ks (CR z07)) : Option (CR z07) := z25 v.2.1 v.1.1 v.1.2.2.1 (fun l0_1 => y05.at none ((v.1.1, v.1.2.1, v.1.2.2.1, (), (), ()), (v.2.1, l0_1, ())) (K (.exit 0))) n v.1.2.2.2.2.2.1 v.2.2.1
def y1h (av : AV) (x : HP z07.ps) : Hdl (CR z07) := hnd [] y28 (yq9 av x)
theorem yu0 : LP z07 Tryz.f201 [0] y1h := lp_ok (W := []) (H := []) (xs := [y05]) z81 trivial rfl (fun av x v K => by kernel_rfl) (fun av x n v K => by kernel_rfl)
def y29 : Tmpl := ⟨[(1, .c (.s .I)), (2, .c (.s (.s .item))), (3, .c .i), (4, .c (.bx 4 0)), (9, .c (.ref 18)), (11, .c .i)], [(4, .boxT (.s .net)), (18, .arr .B true)]⟩
def y06 : Tmpl := ⟨[(1, .c (.s .I)), (3, .c .i), (4, .c (.bx 4 0)), (9, .c (.ref 18))], [(4, .boxT (.s .net)), (18, .arr .B true)]⟩
def yr0 (av : AV) (x : HP z07.ps) (n : Nat) (v : y29.den) (K : Ks (CR z07)) : Option (CR z07) := z14 v.2.1 v.1.2.1 (fun l1_1 => y06.at none ((v.1.1, v.1.2.2.1, (), (), ()), (v.2.1, l1_1, ())) (K (.exit 2))) n v.1.2.2.2.2.2.1 v.2.2.1
def y1i (av : AV) (x : HP z07.ps) : Hdl (CR z07) := hnd [] y29 (yr0 av x)
theorem yu1 : LP z07 Tryz.f201 [1] y1i := lp_ok (W := []) (H := [zu4]) (xs := [y06]) z81 ⟨yh1, trivial⟩ rfl (fun av x v K => by kernel_rfl) (fun av x n v K => by kernel_rfl)
def y2a : Tmpl := ⟨[(1, .c (.s .I)), (3, .c .i), (4, .c (.bx 4 0)), (14, .c (.ref 76)), (15, .c .i)], [(4, .boxT (.s .net)), (76, .arr .B true)]⟩
def y07 : Tmpl := ⟨[], []⟩
def yr1 (av : AV) (x : HP z07.ps) (n : Nat) (v : y2a.den) (K : Ks (CR z07)) : Option (CR z07) := z26 v.2.1 v.1.1 v.1.2.1 v.2.2.1 (y07.at none ((), ()) (K (.exit 6))) n v.1.2.2.2.2.1
def y1j (av : AV) (x : HP z07.ps) : Hdl (CR z07) := hnd [] y2a (yr1 av x)
theorem yu2 : LP z07 Tryz.f201 [2] y1j := lp_ok (W := []) (H := []) (xs := [y07]) z81 trivial rfl (fun av x v K => by kernel_rfl) (fun av x n v K => by kernel_rfl)
theorem w4b : z07.Ok Tryz.prog := fn_ok (k := z07) (fn := Tryz.f201) (W := []) (H := [y1h, y1i, y1j]) Tryz.func201 z81 ⟨yu0, yu1, yu2, trivial⟩ rfl rfl (fun av x => by kernel_rfl)
def zy9 (n : GNet) (marks : List Int) (busy : List GItem) (t : Int) : Option Bool := (getI n.tasks t).bind fun x1 => ((zs5 marks x1.in_).bind fun x2 => ((getI n.tasks t).bind fun x3 => (if decide (x3.join = 1) = true then (some x2.2) else (if decide (x3.join = 2) = true then (some x2.1) else (if x2.1 = true then (if x2.2 = true then (some true) else ((zg3 n marks busy t).bind fun x8 => (some (!x8)))) else (some false))))))
def y76 : Con := ⟨165, [.v (.s .net) false, .v (.sl .I) false, .v (.sl (.s .item)) false, .v .I false], [(.B, true)], [], fun x => zy9 x.1 x.2.1 x.2.2.1 x.2.2.2.1⟩
def wn2 : Fs := ⟨[z4y, z07], [], []⟩
theorem wo5 : wn2.Ok Tryz.prog := (fsK wf8 (fsK w4b fs0))
theorem ws0 : y76.Ok Tryz.prog := fn_ok (k := y76) (fn := Tryz.f165) (W := []) (H := []) Tryz.func165 wo5 trivial rfl rfl (fun av x => by kernel_rfl)
def y4u  : Option Bool := some true
def z5n (n : GNet) (busy : List GItem) (kx0_0 : Option Bool) : Nat → Int → Option Bool
  | 0, _ => none
  | n0 + 1, s0_0 => if decide (s0_0 < (busy.length : Int)) = true then ((getI busy s0_0).bind fun x3 => (gd (ok64 ((n.tasks.length : Int) - 1)) ((z03 x3.task 0 ((n.tasks.length : Int) - 1)).bind fun x5 => (if x5 = true then ((getI busy s0_0).bind fun x7 => ((z03 x7.who 1 4).bind fun x8 => (if x8 = true then ((getI busy s0_0).bind fun x10 => ((getI busy s0_0).bind fun x11 => ((getI n.tasks x11.task).bind fun x12 => (gd (ok64 (x12.need - 1)) ((z03 x10.did 0 (x12.need - 1)).bind fun x14 => (if x14 = true then (gd (ok64 (s0_0 + 1)) ((z5n n busy kx0_0 n0) (s0_0 + 1))) else (some false))))))) else (some false)))) else (some false))))) else (kx0_0)
def zg2 (n : GNet) (busy : List GItem) : Option Bool := if decide (6 < (busy.length : Int)) = true then (some false) else (z5n n busy y4u FUEL 0)
def z43 : Con := ⟨88, [.v (.s .net) false, .v (.sl (.s .item)) false], [(.B, true)], [], fun x => zg2 x.1 x.2.1⟩
def w9s : Fs := ⟨[z0n], [], []⟩
theorem yk8 : w9s.Ok Tryz.prog := (fsK z0x fs0)
def y8j : Tmpl := ⟨[(1, .c (.s (.s .item))), (2, .c (.bx 2 0)), (5, .c .i)], [(2, .boxT (.s .net))]⟩
def y5r : Tmpl := ⟨[], []⟩
def w24 (av : AV) (x : HP z43.ps) (n : Nat) (v : y8j.den) (K : Ks (CR z43)) : Option (CR z43) := z5n v.2.1 v.1.1 (y5r.at none ((), ()) (K (.exit 0))) n v.1.2.2.1
def y6t (av : AV) (x : HP z43.ps) : Hdl (CR z43) := hnd [] y8j (w24 av x)
theorem w3s : LP z43 Tryz.f88 [0] y6t := lp_ok (W := []) (H := []) (xs := [y5r]) yk8 trivial rfl (fun av x v K => by kernel_rfl) (fun av x n v K => by kernel_rfl)
theorem yo0 : z43.Ok Tryz.prog := fn_ok (k := z43) (fn := Tryz.f88) (W := []) (H := [y6t]) Tryz.func88 yk8 ⟨w3s, trivial⟩ rfl rfl (fun av x => by kernel_rfl)
def ze5 (n : GNet) (marks : List Int) (busy : List GItem) (t : Int) : Option Bool := (z8b n marks).bind fun x1 => (if x1 = true then ((zg2 n busy).bind fun x3 => (if x3 = true then (gd (ok64 ((n.tasks.length : Int) - 1)) ((z03 t 0 ((n.tasks.length : Int) - 1)).bind fun x6 => (if x6 = true then ((zy9 n marks busy t).bind fun x8 => (some x8)) else (some false)))) else (some false))) else (some false))
def zq8 : Con := ⟨100, [.v (.s .net) false, .v (.sl .I) false, .v (.sl (.s .item)) false, .v .I false], [(.B, true)], [], fun x => ze5 x.1 x.2.1 x.2.2.1 x.2.2.2.1⟩
def w9g : Fs := ⟨[z38, z43, z0n, y76], [], []⟩
theorem wb5 : w9g.Ok Tryz.prog := (fsK zz1 (fsK yo0 (fsK z0x (fsK ws0 fs0))))
theorem yn5 : zq8.Ok Tryz.prog := fn_ok (k := zq8) (fn := Tryz.f100) (W := []) (H := []) Tryz.func100 wb5 trivial rfl rfl (fun av x => by kernel_rfl)
def ze6 (l0_1 : List Int) : Option (List Int) := some l0_1
def z30 (n : GNet) (marks : List Int) (busy : List GItem) (kx0_0 : List Int → Option (List Int)) : Nat → Int → List Int → Option (List Int)
  | 0, _, _ => none
  | n0 + 1, s0_0, l0_1 => if decide (s0_0 < (n.tasks.length : Int)) = true then ((ze5 n marks busy s0_0).bind fun x2 => (if x2 = true then (gd (l0_1.length + [s0_0].length ≤ SMALL) (gd (ok64 (s0_0 + 1)) ((z30 n marks busy kx0_0 n0) (s0_0 + 1) (l0_1 ++ [s0_0])))) else (gd (ok64 (s0_0 + 1)) ((z30 n marks busy kx0_0 n0) (s0_0 + 1) l0_1)))) else (kx0_0 l0_1)
def z5d (n : GNet) (marks : List Int) (busy : List GItem) : Option (List Int) := z30 n marks busy ze6 FUEL 0 ([] : List Int)
def z29 : Con := ⟨99, [.v (.s .net) false, .v (.sl .I) false, .v (.sl (.s .item)) false], [((.sl .I), true)], [], fun x => z5d x.1 x.2.1 x.2.2.1⟩
def w2q : Fs := ⟨[zq8], [], []⟩
theorem y6f : w2q.Ok Tryz.prog := (fsK yn5 fs0)
def y21 : Tmpl := ⟨[(1, .c (.s .I)), (2, .c (.s (.s .item))), (3, .c (.bx 3 0)), (7, .c (.ref 9)), (8, .c .i)], [(3, .boxT (.s .net)), (9, .arr .I true)]⟩
def zz8 : Tmpl := ⟨[(7, .c (.ref 9))], [(9, .arr .I true)]⟩
def yq2 (av : AV) (x : HP z29.ps) (n : Nat) (v : y21.den) (K : Ks (CR z29)) : Option (CR z29) := z30 v.2.1 v.1.1 v.1.2.1 (fun l0_1 => zz8.at none (((), ()), (l0_1, ())) (K (.exit 0))) n v.1.2.2.2.2.1 v.2.2.1
def y1a (av : AV) (x : HP z29.ps) : Hdl (CR z29) := hnd [] y21 (yq2 av x)
theorem yt3 : LP z29 Tryz.f99 [0] y1a := lp_ok (W := []) (H := []) (xs := [zz8]) y6f trivial rfl (fun av x v K => by kernel_rfl) (fun av x n v K => by kernel_rfl)
theorem y83 : z29.Ok Tryz.prog := fn_ok (k := z29) (fn := Tryz.f99) (W := []) (H := [y1a]) Tryz.func99 y6f ⟨yt3, trivial⟩ rfl rfl (fun av x => by kernel_rfl)
def y1n (l0_1 : List Int) (x10 : Int) (x13 : Int) : Option (List Int) := some (l0_1.set x10.toNat (x13 - 1))
def y1o (l0_1 : List Int) : Option (List Int) := some l0_1
def z3k (n : GNet) (t : Int) (kx0_0 : List Int → Int → Int → Option (List Int)) (kx0_1 : List Int → Option (List Int)) : Nat → Int → List Int → Option (List Int)
  | 0, _, _ => none
  | n0 + 1, s0_0, l0_1 => (getI n.tasks t).bind fun x7 => (if decide (s0_0 < (x7.in_.length : Int)) = true then ((getI n.tasks t).bind fun x9 => ((getI x9.in_ s0_0).bind fun x10 => ((getI l0_1 x10).bind fun x11 => (if decide (0 < x11) = true then ((getI l0_1 x10).bind fun x13 => (gd (ok64 (x13 - 1)) ((getI l0_1 x10).bind fun x15 => ((getI n.tasks t).bind fun x16 => (if decide (x16.join = 2) = true then (kx0_0 l0_1 x10 x13) else (gd (ok64 (s0_0 + 1)) ((z3k n t kx0_0 kx0_1 n0) (s0_0 + 1) (l0_1.set x10.toNat (x13 - 1))))))))) else (gd (ok64 (s0_0 + 1)) ((z3k n t kx0_0 kx0_1 n0) (s0_0 + 1) l0_1)))))) else (kx0_1 l0_1))
def zk7 (n : GNet) (marks : List Int) (t : Int) : Option (List Int) := (z8b n marks).bind fun x1 => (if x1 = true then (gd (ok64 ((n.tasks.length : Int) - 1)) ((z03 t 0 ((n.tasks.length : Int) - 1)).bind fun x4 => (if x4 = true then (gd (([] : List Int).length + marks.length ≤ SMALL) (z3k n t y1n y1o FUEL 0 (([] : List Int) ++ marks))) else (some ([] : List Int))))) else (some ([] : List Int)))
def z3w : Con := ⟨103, [.v (.s .net) false, .v (.sl .I) false, .v .I false], [((.sl .I), true)], [], fun x => zk7 x.1 x.2.1 x.2.2.1⟩
def w5z : Fs := ⟨[z38, z0n], [], []⟩
theorem ya7 : w5z.Ok Tryz.prog := (fsK zz1 (fsK z0x fs0))
def y58 : Tmpl := ⟨[(2, .c .i), (3, .c (.bx 3 0)), (7, .c (.ref 26)), (8, .c .i)], [(3, .boxT (.s .net)), (26, .arr .I true)]⟩
def zk0 : Tmpl := ⟨[(7, .c (.ref 26))], [(26, .arr .I true)]⟩
def yz9 (av : AV) (x : HP z3w.ps) (n : Nat) (v : y58.den) (K : Ks (CR z3w)) : Option (CR z3w) := z3k v.2.1 v.1.1 (fun l0_1 x10 x13 => zk0.at none (((), ()), ((l0_1.set x10.toNat (x13 - 1)), ())) (K (.exit 0))) (fun l0_1 => zk0.at none (((), ()), (l0_1, ())) (K (.exit 0))) n v.1.2.2.2.1 v.2.2.1
def y4f (av : AV) (x : HP z3w.ps) : Hdl (CR z3w) := hnd [] y58 (yz9 av x)
theorem w0x : LP z3w Tryz.f103 [0] y4f := lp_ok (W := []) (H := []) (xs := [zk0]) ya7 trivial rfl (fun av x v K => by kernel_rfl) (fun av x n v K => by kernel_rfl)
theorem w7h : z3w.Ok Tryz.prog := fn_ok (k := z3w) (fn := Tryz.f103) (W := []) (H := [y4f]) Tryz.func103 ya7 ⟨w0x, trivial⟩ rfl rfl (fun av x => by kernel_rfl)
def z89 (who : Int) : Option Bool := (z0b who 1 4).bind fun x1 => (some x1)
def zd2 : Con := ⟨97, [.v .I false], [(.B, true)], [], fun x => z89 x.1⟩
def w2o : Fs := ⟨[z1z], [], []⟩
theorem w39 : w2o.Ok Tryz.prog := (fsK z2p fs0)
theorem y80 : zd2.Ok Tryz.prog := fn_ok (k := zd2) (fn := Tryz.f97) (W := []) (H := []) Tryz.func97 w39 trivial rfl rfl (fun av x => by kernel_rfl)
def ze8 (l0_1 : List Int) (x8 : GFlow) : Option (List Int) := some (l0_1 ++ [x8.to])
def ze9 (l0_1 : List Int) (x13 : GFlow) : Option (List Int) := some (l0_1 ++ [x13.to])
def zf0 (l0_1 : List Int) (x18 : GFlow) : Option (List Int) := some (l0_1 ++ [x18.to])
def zv2 (l0_1 : List Int) : Option (List Int) := some l0_1
def z1q (t : GTask) (data : List Int) (kx0_0 : List Int → GFlow → Option (List Int)) (kx0_1 : List Int → GFlow → Option (List Int)) (kx0_2 : List Int → GFlow → Option (List Int)) (kx0_3 : List Int → Option (List Int)) : Nat → Int → List Int → Option (List Int)
  | 0, _, _ => none
  | n0 + 1, s0_0, l0_1 => if decide (s0_0 < (t.out.length : Int)) = true then ((getI t.out s0_0).bind fun x2 => ((z19 x2.if_ data).bind fun x3 => (if x3 = true then (if decide (t.split = 3) = true then (gd (ok64 ((t.out.length : Int) - 1)) (if decide (s0_0 < ((t.out.length : Int) - 1)) = true then ((getI t.out s0_0).bind fun x8 => (gd (l0_1.length + [x8.to].length ≤ SMALL) (if decide (t.split = 2) = true then (kx0_0 l0_1 x8) else (gd (ok64 (s0_0 + 1)) ((z1q t data kx0_0 kx0_1 kx0_2 kx0_3 n0) (s0_0 + 1) (l0_1 ++ [x8.to])))))) else (if decide ((l0_1.length : Int) = 0) = true then ((getI t.out s0_0).bind fun x13 => (gd (l0_1.length + [x13.to].length ≤ SMALL) (if decide (t.split = 2) = true then (kx0_1 l0_1 x13) else (gd (ok64 (s0_0 + 1)) ((z1q t data kx0_0 kx0_1 kx0_2 kx0_3 n0) (s0_0 + 1) (l0_1 ++ [x13.to])))))) else (gd (ok64 (s0_0 + 1)) ((z1q t data kx0_0 kx0_1 kx0_2 kx0_3 n0) (s0_0 + 1) l0_1))))) else ((getI t.out s0_0).bind fun x18 => (gd (l0_1.length + [x18.to].length ≤ SMALL) (if decide (t.split = 2) = true then (kx0_2 l0_1 x18) else (gd (ok64 (s0_0 + 1)) ((z1q t data kx0_0 kx0_1 kx0_2 kx0_3 n0) (s0_0 + 1) (l0_1 ++ [x18.to]))))))) else (gd (ok64 (s0_0 + 1)) ((z1q t data kx0_0 kx0_1 kx0_2 kx0_3 n0) (s0_0 + 1) l0_1))))) else (kx0_3 l0_1)
def zy5 (t : GTask) (data : List Int) : Option (List Int) := z1q t data ze8 ze9 zf0 zv2 FUEL 0 ([] : List Int)
def z5w : Con := ⟨205, [.v (.s .task) false, .v (.sl .I) false], [((.sl .I), true)], [], fun x => zy5 x.1 x.2.1⟩
def wn0 : Fs := ⟨[z48], [], []⟩
theorem yw9 : wn0.Ok Tryz.prog := (fsK z6v fs0)
def ye7 : Tmpl := ⟨[(1, .c (.s .I)), (2, .c (.bx 2 0)), (5, .c (.ref 7)), (6, .c .i)], [(2, .boxT (.s .task)), (7, .arr .I true)]⟩
def z8g : Tmpl := ⟨[(5, .c (.ref 49))], [(49, .arr .I true)]⟩
def w5h (av : AV) (x : HP z5w.ps) (n : Nat) (v : ye7.den) (K : Ks (CR z5w)) : Option (CR z5w) := z1q v.2.1 v.1.1 (fun l0_1 x8 => z8g.at none (((), ()), ((l0_1 ++ [x8.to]), ())) (K (.exit 0))) (fun l0_1 x13 => z8g.at none (((), ()), ((l0_1 ++ [x13.to]), ())) (K (.exit 0))) (fun l0_1 x18 => z8g.at none (((), ()), ((l0_1 ++ [x18.to]), ())) (K (.exit 0))) (fun l0_1 => z8g.at none (((), ()), (l0_1, ())) (K (.exit 0))) n v.1.2.2.2.1 v.2.2.1
def yc6 (av : AV) (x : HP z5w.ps) : Hdl (CR z5w) := hnd [] ye7 (w5h av x)
theorem w72 : LP z5w Tryz.f205 [0] yc6 := lp_ok (W := []) (H := []) (xs := [z8g]) yw9 trivial rfl (fun av x v K => by kernel_rfl) (fun av x n v K => by kernel_rfl)
theorem wr9 : z5w.Ok Tryz.prog := fn_ok (k := z5w) (fn := Tryz.f205) (W := []) (H := [yc6]) Tryz.func205 yw9 ⟨w72, trivial⟩ rfl rfl (fun av x => by kernel_rfl)
def z8r (l1_1 : List Int) : Option ((List Int) × Bool) := some (l1_1, true)
def z59 (x16 : (List Int)) (kx1_0 : List Int → Option ((List Int) × Bool)) : Nat → Int → List Int → Option ((List Int) × Bool)
  | 0, _, _ => none
  | n1 + 1, s1_0, l1_1 => if decide (s1_0 < (x16.length : Int)) = true then ((getI x16 s1_0).bind fun x18 => ((getI l1_1 x18).bind fun x19 => (if decide (x19 = 4) = true then (some (([] : List Int), false)) else ((getI x16 s1_0).bind fun x21 => ((getI x16 s1_0).bind fun x22 => ((getI l1_1 x22).bind fun x23 => (gd (ok64 (x23 + 1)) ((getI l1_1 x21).bind fun x25 => (gd (ok64 (s1_0 + 1)) ((z59 x16 kx1_0 n1) (s1_0 + 1) (l1_1.set x21.toNat (x23 + 1)))))))))))) else (kx1_0 l1_1)
def z8q (n : GNet) (t : Int) (data : List Int) (l0_1 : List Int) : Option ((List Int) × Bool) := (getI n.tasks t).bind fun x15 => ((zy5 x15 data).bind fun x16 => (z59 x16 z8r FUEL 0 l0_1))
def z58 (n : GNet) (t : Int) (kx0_0 : List Int → Option ((List Int) × Bool)) : Nat → Int → List Int → Option ((List Int) × Bool)
  | 0, _, _ => none
  | n0 + 1, s0_0, l0_1 => (getI n.tasks t).bind fun x9 => (if decide (s0_0 < (x9.clear.length : Int)) = true then ((getI n.tasks t).bind fun x11 => ((getI x11.clear s0_0).bind fun x12 => ((getI l0_1 x12).bind fun x13 => (gd (ok64 (s0_0 + 1)) ((z58 n t kx0_0 n0) (s0_0 + 1) (l0_1.set x12.toNat 0)))))) else (kx0_0 l0_1))
def zk8 (n : GNet) (marks : List Int) (t : Int) (data : List Int) : Option ((List Int) × Bool) := (z8b n marks).bind fun x1 => (if x1 = true then (gd (ok64 ((n.tasks.length : Int) - 1)) ((z03 t 0 ((n.tasks.length : Int) - 1)).bind fun x4 => (if x4 = true then ((z2n data).bind fun x6 => (if x6 = true then (gd (([] : List Int).length + marks.length ≤ SMALL) (z58 n t (z8q n t data) FUEL 0 (([] : List Int) ++ marks))) else (some (([] : List Int), false)))) else (some (([] : List Int), false))))) else (some (([] : List Int), false)))
def z0v : Con := ⟨172, [.v (.s .net) false, .v (.sl .I) false, .v .I false, .v (.sl .I) false], [((.sl .I), true), (.B, true)], [], fun x => zk8 x.1 x.2.1 x.2.2.1 x.2.2.2.1⟩
def w60 : Fs := ⟨[z38, z0n, z15, z5w], [], []⟩
theorem y0b : w60.Ok Tryz.prog := (fsK zz1 (fsK z0x (fsK z66 (fsK wr9 fs0))))
def y59 : Tmpl := ⟨[(2, .c .i), (3, .c (.s .I)), (4, .c (.bx 4 0)), (10, .c (.ref 35)), (11, .c .i)], [(4, .boxT (.s .net)), (35, .arr .I true)]⟩
def y2h : Tmpl := ⟨[(2, .c .i), (3, .c (.s .I)), (4, .c (.bx 4 0)), (10, .c (.ref 35))], [(4, .boxT (.s .net)), (35, .arr .I true)]⟩
def w00 (av : AV) (x : HP z0v.ps) (n : Nat) (v : y59.den) (K : Ks (CR z0v)) : Option (CR z0v) := z58 v.2.1 v.1.1 (fun l0_1 => y2h.at none ((v.1.1, v.1.2.1, (), (), ()), (v.2.1, l0_1, ())) (K (.exit 0))) n v.1.2.2.2.2.1 v.2.2.1
def y4g (av : AV) (x : HP z0v.ps) : Hdl (CR z0v) := hnd [] y59 (w00 av x)
theorem w0y : LP z0v Tryz.f172 [0] y4g := lp_ok (W := []) (H := []) (xs := [y2h]) y0b trivial rfl (fun av x v K => by kernel_rfl) (fun av x n v K => by kernel_rfl)
def y5a : Tmpl := ⟨[(10, .c (.ref 35)), (12, .c (.ref 64)), (13, .c .i)], [(35, .arr .I true), (64, .arr .I true)]⟩
def y2i : Tmpl := ⟨[(10, .c (.ref 35))], [(35, .arr .I true)]⟩
def w01 (av : AV) (x : HP z0v.ps) (n : Nat) (v : y5a.den) (K : Ks (CR z0v)) : Option (CR z0v) := z59 v.2.2.1 (fun l1_1 => y2i.at none (((), ()), (l1_1, ())) (K (.exit 2))) n v.1.2.2.1 v.2.1
def y4h (av : AV) (x : HP z0v.ps) : Hdl (CR z0v) := hnd [] y5a (w01 av x)
theorem w0z : LP z0v Tryz.f172 [1] y4h := lp_ok (W := []) (H := []) (xs := [y2i]) y0b trivial rfl (fun av x v K => by kernel_rfl) (fun av x n v K => by kernel_rfl)
theorem w7i : z0v.Ok Tryz.prog := fn_ok (k := z0v) (fn := Tryz.f172) (W := []) (H := [y4g, y4h]) Tryz.func172 y0b ⟨w0y, w0z, trivial⟩ rfl rfl (fun av x => by kernel_rfl)
def y7l  : Option Bool := some true
def z6r (people : List Int) (kx0_0 : Option Bool) : Nat → Int → Option Bool
  | 0, _ => none
  | n0 + 1, s0_0 => if decide (s0_0 < (people.length : Int)) = true then ((getI people s0_0).bind fun x4 => ((z03 x4 0 7).bind fun x5 => (if x5 = true then (gd (ok64 (s0_0 + 1)) ((z6r people kx0_0 n0) (s0_0 + 1))) else (some false)))) else (kx0_0)
def za8 (people : List Int) : Option Bool := (z03 (people.length : Int) 1 4).bind fun x1 => (if x1 = true then (z6r people y7l FUEL 0) else (some false))
def z49 : Con := ⟨44, [.v (.sl .I) false], [(.B, true)], [], fun x => za8 x.1⟩
def wm8 : Fs := ⟨[z0n], [], []⟩
theorem yw8 : wm8.Ok Tryz.prog := (fsK z0x fs0)
def ye5 : Tmpl := ⟨[(0, .c (.s .I)), (3, .c .i)], []⟩
def y91 : Tmpl := ⟨[], []⟩
def w5f (av : AV) (x : HP z49.ps) (n : Nat) (v : ye5.den) (K : Ks (CR z49)) : Option (CR z49) := z6r v.1.1 (y91.at none ((), ()) (K (.exit 0))) n v.1.2.1
def yc4 (av : AV) (x : HP z49.ps) : Hdl (CR z49) := hnd [] ye5 (w5f av x)
theorem w70 : LP z49 Tryz.f44 [0] yc4 := lp_ok (W := []) (H := []) (xs := [y91]) yw8 trivial rfl (fun av x v K => by kernel_rfl) (fun av x n v K => by kernel_rfl)
theorem y84 : z49.Ok Tryz.prog := fn_ok (k := z49) (fn := Tryz.f44) (W := []) (H := [yc4]) Tryz.func44 yw8 ⟨w70, trivial⟩ rfl rfl (fun av x => by kernel_rfl)
def z5l (s0_0 : Int) : Option Bool := gd ((2 : Int) ≠ 0) (some (decide ((Int.tmod s0_0 2) = 1)))
def z2h (role : Int) (kx0_0 : Int → Option Bool) : Nat → Int → Int → Option Bool
  | 0, _, _ => none
  | n0 + 1, s0_0, s0_1 => if decide (s0_1 < role) = true then (gd ((2 : Int) ≠ 0 ∧ ok64 (Int.tdiv s0_0 2)) (gd (ok64 (s0_1 + 1)) ((z2h role kx0_0 n0) (Int.tdiv s0_0 2) (s0_1 + 1)))) else (kx0_0 s0_0)
def zs2 (people : List Int) (who : Int) (role : Int) : Option Bool := (za8 people).bind fun x1 => (if x1 = true then ((z03 who 1 (people.length : Int)).bind fun x3 => (if x3 = true then ((z03 role 1 3).bind fun x5 => (if x5 = true then (gd (ok64 (who - 1)) ((getI people (who - 1)).bind fun x8 => (z2h role z5l FUEL x8 1))) else (some false))) else (some false))) else (some false))
def z4x : Con := ⟨166, [.v (.sl .I) false, .v .I false, .v .I false], [(.B, true)], [], fun x => zs2 x.1 x.2.1 x.2.2.1⟩
def w9j : Fs := ⟨[z49, z0n], [], []⟩
theorem yk6 : w9j.Ok Tryz.prog := (fsK y84 (fsK z0x fs0))
def y8g : Tmpl := ⟨[(2, .c .i), (7, .c .i), (8, .c .i)], []⟩
def y5o : Tmpl := ⟨[(7, .c .i)], []⟩
def w21 (av : AV) (x : HP z4x.ps) (n : Nat) (v : y8g.den) (K : Ks (CR z4x)) : Option (CR z4x) := z2h v.1.1 (fun s0_0 => y5o.at none ((s0_0, ()), ()) (K (.exit 0))) n v.1.2.1 v.1.2.2.1
def y6q (av : AV) (x : HP z4x.ps) : Hdl (CR z4x) := hnd [] y8g (w21 av x)
theorem w3p : LP z4x Tryz.f166 [0] y6q := lp_ok (W := []) (H := []) (xs := [y5o]) yk6 trivial rfl (fun av x v K => by kernel_rfl) (fun av x n v K => by kernel_rfl)
theorem wf5 : z4x.Ok Tryz.prog := fn_ok (k := z4x) (fn := Tryz.f166) (W := []) (H := [y6q]) Tryz.func166 yk6 ⟨w3p, trivial⟩ rfl rfl (fun av x => by kernel_rfl)
def y4s  : Option Bool := some false
def z4o (did : List GDid) (who : Int) (task : Int) (kx0_0 : Option Bool) : Nat → Int → Option Bool
  | 0, _ => none
  | n0 + 1, s0_0 => if decide (s0_0 < (did.length : Int)) = true then ((getI did s0_0).bind fun x2 => (if decide (x2.who = who) = true then ((getI did s0_0).bind fun x4 => (if decide (x4.task = task) = true then (some true) else (gd (ok64 (s0_0 + 1)) ((z4o did who task kx0_0 n0) (s0_0 + 1))))) else (gd (ok64 (s0_0 + 1)) ((z4o did who task kx0_0 n0) (s0_0 + 1))))) else (kx0_0)
def zs1 (did : List GDid) (who : Int) (task : Int) : Option Bool := z4o did who task y4s FUEL 0
def z4w : Con := ⟨167, [.v (.sl (.s .did)) false, .v .I false, .v .I false], [(.B, true)], [], fun x => zs1 x.1 x.2.1 x.2.2.1⟩
def w9i : Fs := ⟨[], [], []⟩
theorem yk5 : w9i.Ok Tryz.prog := fs0
def y8f : Tmpl := ⟨[(0, .c (.s (.s .did))), (1, .c .i), (2, .c .i), (7, .c .i)], []⟩
def y5n : Tmpl := ⟨[], []⟩
def w20 (av : AV) (x : HP z4w.ps) (n : Nat) (v : y8f.den) (K : Ks (CR z4w)) : Option (CR z4w) := z4o v.1.1 v.1.2.1 v.1.2.2.1 (y5n.at none ((), ()) (K (.exit 0))) n v.1.2.2.2.1
def y6p (av : AV) (x : HP z4w.ps) : Hdl (CR z4w) := hnd [] y8f (w20 av x)
theorem w3o : LP z4w Tryz.f167 [0] y6p := lp_ok (W := []) (H := []) (xs := [y5n]) yk5 trivial rfl (fun av x v K => by kernel_rfl) (fun av x n v K => by kernel_rfl)
theorem wf4 : z4w.Ok Tryz.prog := fn_ok (k := z4w) (fn := Tryz.f167) (W := []) (H := [y6p]) Tryz.func167 yk5 ⟨w3o, trivial⟩ rfl rfl (fun av x => by kernel_rfl)
def y4t (n : GNet) (people : List Int) (did : List GDid) (t : Int) (s0_0 : Int) (l0_1 : List Int) (bk0 : Int → List Int → Option (List Int)) (s1_0 : Bool) : Option (List Int) := (getI n.tasks t).bind fun x18 => ((zs2 people s0_0 x18.role).bind fun x19 => (if x19 = true then (if s1_0 = true then (gd (ok64 (s0_0 + 1)) (bk0 (s0_0 + 1) l0_1)) else ((getI n.tasks t).bind fun x23 => ((zs1 did s0_0 x23.apart).bind fun x24 => (if x24 = true then (gd (ok64 (s0_0 + 1)) (bk0 (s0_0 + 1) l0_1)) else (gd (l0_1.length + [s0_0].length ≤ SMALL) (gd (ok64 (s0_0 + 1)) (bk0 (s0_0 + 1) (l0_1 ++ [s0_0])))))))) else (gd (ok64 (s0_0 + 1)) (bk0 (s0_0 + 1) l0_1))))
def z2i (n : GNet) (busy : List GItem) (t : Int) (s0_0 : Int) (kx1_0 : Bool → Option (List Int)) : Nat → Bool → Int → Option (List Int)
  | 0, _, _ => none
  | n1 + 1, s1_0, s1_1 => if decide (s1_1 < (busy.length : Int)) = true then (if s1_0 = true then (gd (ok64 (s1_1 + 1)) ((z2i n busy t s0_0 kx1_0 n1) true (s1_1 + 1))) else ((getI busy s1_1).bind fun x12 => (if decide (x12.who = s0_0) = true then ((getI busy s1_1).bind fun x14 => ((getI n.tasks t).bind fun x15 => (gd (ok64 (s1_1 + 1)) ((z2i n busy t s0_0 kx1_0 n1) (decide (x14.task = x15.apart)) (s1_1 + 1))))) else (gd (ok64 (s1_1 + 1)) ((z2i n busy t s0_0 kx1_0 n1) false (s1_1 + 1)))))) else (kx1_0 s1_0)
def zn9 (l0_1 : List Int) : Option (List Int) := some l0_1
def z5m (n : GNet) (people : List Int) (did : List GDid) (busy : List GItem) (t : Int) (kx0_0 : List Int → Option (List Int)) : Nat → Int → List Int → Option (List Int)
  | 0, _, _ => none
  | n0 + 1, s0_0, l0_1 => if decide (s0_0 ≤ (people.length : Int)) = true then (z2i n busy t s0_0 (y4t n people did t s0_0 l0_1 (z5m n people did busy t kx0_0 n0)) FUEL false 0) else (kx0_0 l0_1)
def z8s (n : GNet) (people : List Int) (did : List GDid) (busy : List GItem) (t : Int) : Option (List Int) := (z3b n).bind fun x1 => (if x1 = true then ((za8 people).bind fun x3 => (if x3 = true then (gd (ok64 ((n.tasks.length : Int) - 1)) ((z03 t 0 ((n.tasks.length : Int) - 1)).bind fun x6 => (if x6 = true then (z5m n people did busy t zn9 FUEL 1 ([] : List Int)) else (some ([] : List Int))))) else (some ([] : List Int)))) else (some ([] : List Int)))
def z10 : Con := ⟨102, [.v (.s .net) false, .v (.sl .I) false, .v (.sl (.s .did)) false, .v (.sl (.s .item)) false, .v .I false], [((.sl .I), true)], [], fun x => z8s x.1 x.2.1 x.2.2.1 x.2.2.2.1 x.2.2.2.2.1⟩
def w9k : Fs := ⟨[z2l, z49, z0n, z4x, z4w], [], []⟩
theorem y33 : w9k.Ok Tryz.prog := (fsK zm9 (fsK y84 (fsK z0x (fsK wf5 (fsK wf4 fs0)))))
def y22 : Tmpl := ⟨[(1, .c (.s .I)), (2, .c (.s (.s .did))), (3, .c (.s (.s .item))), (4, .c .i), (5, .c (.bx 5 0)), (11, .c (.ref 15)), (12, .c .i), (13, .c .b), (14, .c .i)], [(5, .boxT (.s .net)), (15, .arr .I true)]⟩
def zz9 : Tmpl := ⟨[(1, .c (.s .I)), (2, .c (.s (.s .did))), (3, .c (.s (.s .item))), (4, .c .i), (5, .c (.bx 5 0)), (11, .c (.ref 15)), (12, .c .i), (13, .c .b)], [(5, .boxT (.s .net)), (15, .arr .I true)]⟩
def yq3 (av : AV) (x : HP z10.ps) (n : Nat) (v : y22.den) (K : Ks (CR z10)) : Option (CR z10) := z2i v.2.1 v.1.2.2.1 v.1.2.2.2.1 v.1.2.2.2.2.2.2.1 (fun s1_0 => zz9.at none ((v.1.1, v.1.2.1, v.1.2.2.1, v.1.2.2.2.1, (), (), v.1.2.2.2.2.2.2.1, s1_0, ()), (v.2.1, v.2.2.1, ())) (K (.exit 2))) n v.1.2.2.2.2.2.2.2.1 v.1.2.2.2.2.2.2.2.2.1
def y1b (av : AV) (x : HP z10.ps) : Hdl (CR z10) := hnd [] y22 (yq3 av x)
theorem yt4 : LP z10 Tryz.f102 [0, 0] y1b := lp_ok (W := []) (H := []) (xs := [zz9]) y33 trivial rfl (fun av x v K => by kernel_rfl) (fun av x n v K => by kernel_rfl)
def y8h : Tmpl := ⟨[(1, .c (.s .I)), (2, .c (.s (.s .did))), (3, .c (.s (.s .item))), (4, .c .i), (5, .c (.bx 5 0)), (11, .c (.ref 15)), (12, .c .i)], [(5, .boxT (.s .net)), (15, .arr .I true)]⟩
def y5p : Tmpl := ⟨[(11, .c (.ref 15))], [(15, .arr .I true)]⟩
def w22 (av : AV) (x : HP z10.ps) (n : Nat) (v : y8h.den) (K : Ks (CR z10)) : Option (CR z10) := z5m v.2.1 v.1.1 v.1.2.1 v.1.2.2.1 v.1.2.2.2.1 (fun l0_1 => y5p.at none (((), ()), (l0_1, ())) (K (.exit 0))) n v.1.2.2.2.2.2.2.1 v.2.2.1
def y6r (av : AV) (x : HP z10.ps) : Hdl (CR z10) := hnd [] y8h (w22 av x)
theorem w3q : LP z10 Tryz.f102 [0] y6r := lp_ok (W := []) (H := [y1b]) (xs := [y5p]) y33 ⟨yt4, trivial⟩ rfl (fun av x v K => by kernel_rfl) (fun av x n v K => by kernel_rfl)
theorem yn6 : z10.Ok Tryz.prog := fn_ok (k := z10) (fn := Tryz.f102) (W := []) (H := [y6r]) Tryz.func102 y33 ⟨w3q, trivial⟩ rfl rfl (fun av x => by kernel_rfl)
def z8p (n : GNet) (data : List Int) : Option GCase := (z3b n).bind fun x1 => (if x1 = true then ((z2n data).bind fun x3 => (if x3 = true then (gd ((0 : Int) ≤ n.places ∧ n.places ≤ (1000000000 : Int)) (gd (([] : List Int).length + data.length ≤ SMALL) ((getI (List.replicate n.places.toNat (0 : Int)) 0).bind fun x7 => (some (GCase.mk 1 ((List.replicate n.places.toNat (0 : Int)).set (0 : Int).toNat 1) [] (([] : List Int) ++ data) []))))) else (some (GCase.mk 0 [] [] [] [])))) else (some (GCase.mk 0 [] [] [] [])))
def zq6 : Con := ⟨155, [.v (.s .net) false, .v (.sl .I) false], [((.s .kase), true)], [], fun x => z8p x.1 x.2.1⟩
def w9e : Fs := ⟨[z2l, z15], [], []⟩
theorem wb3 : w9e.Ok Tryz.prog := (fsK zm9 (fsK z66 fs0))
theorem yn3 : zq6.Ok Tryz.prog := fn_ok (k := zq6) (fn := Tryz.f155) (W := []) (H := []) Tryz.func155 wb3 trivial rfl rfl (fun av x => by kernel_rfl)
def ze4 (c : GCase) : Option Bool := if decide (c.state = 1) = true then ((getI c.marks 1).bind fun x20 => (some (decide (x20 = 0)))) else (if decide ((c.busy.length : Int) = 0) = true then ((getI c.marks 1).bind fun x22 => (some ((decide (c.state = 2)) == (decide (0 < x22))))) else (some false))
def z6m (n : GNet) (c : GCase) (kx0_0 : Option Bool) : Nat → Int → Option Bool
  | 0, _ => none
  | n0 + 1, s0_0 => if decide (s0_0 < (c.did.length : Int)) = true then ((getI c.did s0_0).bind fun x11 => (gd (ok64 ((n.tasks.length : Int) - 1)) ((z03 x11.task 0 ((n.tasks.length : Int) - 1)).bind fun x13 => (if x13 = true then ((getI c.did s0_0).bind fun x15 => ((z03 x15.who 1 4).bind fun x16 => (if x16 = true then (gd (ok64 (s0_0 + 1)) ((z6m n c kx0_0 n0) (s0_0 + 1))) else (some false)))) else (some false))))) else (kx0_0)
def za7 (n : GNet) (c : GCase) : Option Bool := (z8b n c.marks).bind fun x1 => (if x1 = true then ((zg2 n c.busy).bind fun x3 => (if x3 = true then ((z2n c.data).bind fun x5 => (if x5 = true then (if decide (60 < (c.did.length : Int)) = true then (some false) else ((z03 c.state 1 3).bind fun x8 => (if x8 = true then (z6m n c (ze4 c) FUEL 0) else (some false)))) else (some false))) else (some false))) else (some false))
def z47 : Con := ⟨25, [.v (.s .net) false, .v (.s .kase) false], [(.B, true)], [], fun x => za7 x.1 x.2.1⟩
def wm3 : Fs := ⟨[z38, z43, z15, z0n], [], []⟩
theorem yw4 : wm3.Ok Tryz.prog := (fsK zz1 (fsK yo0 (fsK z66 (fsK z0x fs0))))
def ye1 : Tmpl := ⟨[(2, .c (.bx 2 0)), (3, .c (.bx 3 0)), (5, .c .i)], [(2, .boxT (.s .net)), (3, .boxT (.s .kase))]⟩
def y8x : Tmpl := ⟨[(3, .c (.bx 3 0))], [(3, .boxT (.s .kase))]⟩
def w5b (av : AV) (x : HP z47.ps) (n : Nat) (v : ye1.den) (K : Ks (CR z47)) : Option (CR z47) := z6m v.2.1 v.2.2.1 (y8x.at none (((), ()), (v.2.2.1, ())) (K (.exit 0))) n v.1.2.2.1
def yc0 (av : AV) (x : HP z47.ps) : Hdl (CR z47) := hnd [] ye1 (w5b av x)
theorem w6w : LP z47 Tryz.f25 [0] yc0 := lp_ok (W := []) (H := []) (xs := [y8x]) yw4 trivial rfl (fun av x v K => by kernel_rfl) (fun av x n v K => by kernel_rfl)
theorem y81 : z47.Ok Tryz.prog := fn_ok (k := z47) (fn := Tryz.f25) (W := []) (H := [yc0]) Tryz.func25 yw4 ⟨w6w, trivial⟩ rfl rfl (fun av x => by kernel_rfl)
def z64 (c : GCase) : Option GCase := gd (([] : List Int).length + c.marks.length ≤ SMALL) (gd (([] : List GItem).length + c.busy.length ≤ SMALL) (gd (([] : List Int).length + c.data.length ≤ SMALL) (gd (([] : List GDid).length + c.did.length ≤ SMALL) (some (GCase.mk c.state (([] : List Int) ++ c.marks) (([] : List GItem) ++ c.busy) (([] : List Int) ++ c.data) (([] : List GDid) ++ c.did))))))
def z8i : Con := ⟨86, [.v (.s .kase) false], [((.s .kase), true)], [], fun x => z64 x.1⟩
def w9u : Fs := ⟨[], [], []⟩
theorem wc2 : w9u.Ok Tryz.prog := fs0
theorem zt2 : z8i.Ok Tryz.prog := fn_ok (k := z8i) (fn := Tryz.f86) (W := []) (H := []) Tryz.func86 wc2 trivial rfl rfl (fun av x => by kernel_rfl)
def z6n (n : GNet) (people : List Int) (c : GCase) (t : Int) (who : Int) : Option (GCase × Bool) := (z64 c).bind fun x1 => ((za7 n c).bind fun x2 => (if x2 = true then (if decide (c.state = 1) = true then ((ze5 n c.marks c.busy t).bind fun x5 => (if x5 = true then ((z8s n people c.did c.busy t).bind fun x7 => ((zb0 x7 who).bind fun x8 => (if x8 = true then (if decide ((c.busy.length : Int) = 6) = true then (some (x1, false)) else ((zk7 n c.marks t).bind fun x11 => (gd (x1.busy.length + [(GItem.mk t who 0)].length ≤ SMALL) (some ((GCase.mk x1.state x11 (x1.busy ++ [(GItem.mk t who 0)]) x1.data x1.did), true))))) else (some (x1, false))))) else (some (x1, false)))) else (some (x1, false))) else (some (x1, false))))
def zd3 : Con := ⟨32, [.v (.s .net) false, .v (.sl .I) false, .v (.s .kase) false, .v .I false, .v .I false], [((.s .kase), true), (.B, true)], [], fun x => z6n x.1 x.2.1 x.2.2.1 x.2.2.2.1 x.2.2.2.2.1⟩
def w2p : Fs := ⟨[z8i, z47, zq8, z10, z4a, z3w], [], []⟩
theorem w3a : w2p.Ok Tryz.prog := (fsK zt2 (fsK y81 (fsK yn5 (fsK yn6 (fsK y86 (fsK w7h fs0))))))
theorem y82 : zd3.Ok Tryz.prog := fn_ok (k := zd3) (fn := Tryz.f32) (W := []) (H := []) Tryz.func32 w3a trivial rfl rfl (fun av x => by kernel_rfl)
def z9a (n : GNet) (c : GCase) (k : Int) (v : Int) (num : Int) : Option (GCase × Bool) := (z64 c).bind fun x1 => ((za7 n c).bind fun x2 => (if x2 = true then (if decide (c.state = 1) = true then (gd (ok64 ((c.busy.length : Int) - 1)) ((z03 k 0 ((c.busy.length : Int) - 1)).bind fun x6 => (if x6 = true then ((z03 v (-1) 2).bind fun x8 => (if x8 = true then ((z03 num (-99) 99).bind fun x10 => (if x10 = true then (if decide ((c.did.length : Int) = 60) = true then (some (x1, false)) else ((getI c.busy k).bind fun x13 => ((z77 c.data v num).bind fun x14 => (gd (ok64 (x13.did + 1)) ((getI x1.busy k).bind fun x16 => (gd (ok64 (x13.did + 1)) ((getI n.tasks x13.task).bind fun x18 => (if decide ((x13.did + 1) < x18.need) = true then (some ((GCase.mk x1.state x1.marks (x1.busy.set k.toNat (GItem.mk x16.task x16.who (x13.did + 1))) x14 x1.did), true)) else ((zk8 n c.marks x13.task x14).bind fun x20 => (if x20.2 = true then (gd ((0 : Int) ≤ k ∧ k ≤ (c.busy.length : Int)) (gd (([] : List GItem).length + (c.busy.take k.toNat).length ≤ SMALL) (gd (ok64 (k + 1)) (gd ((0 : Int) ≤ (k + 1) ∧ (k + 1) ≤ (c.busy.length : Int)) (gd ((([] : List GItem) ++ (c.busy.take k.toNat)).length + (c.busy.drop (k + 1).toNat).length ≤ SMALL) (gd (x1.did.length + [(GDid.mk x13.task x13.who)].length ≤ SMALL) ((getI x20.1 1).bind fun x28 => (if decide (0 < x28) = true then (some ((GCase.mk 2 x20.1 ([] : List GItem) x14 (x1.did ++ [(GDid.mk x13.task x13.who)])), true)) else (some ((GCase.mk x1.state x20.1 ((([] : List GItem) ++ (c.busy.take k.toNat)) ++ (c.busy.drop (k + 1).toNat)) x14 (x1.did ++ [(GDid.mk x13.task x13.who)])), true)))))))))) else ((z64 c).bind fun x30 => (some (x30, false))))))))))))) else (some (x1, false)))) else (some (x1, false)))) else (some (x1, false))))) else (some (x1, false))) else (some (x1, false))))
def zk1 : Con := ⟨112, [.v (.s .net) false, .v (.s .kase) false, .v .I false, .v .I false, .v .I false], [((.s .kase), true), (.B, true)], [], fun x => z9a x.1 x.2.1 x.2.2.1 x.2.2.2.1 x.2.2.2.2.1⟩
def w5y : Fs := ⟨[z8i, z47, z0n, zq7, z0v], [], []⟩
theorem w6l : w5y.Ok Tryz.prog := (fsK zt2 (fsK y81 (fsK z0x (fsK yn4 (fsK w7i fs0)))))
theorem yd1 : zk1.Ok Tryz.prog := fn_ok (k := zk1) (fn := Tryz.f112) (W := []) (H := []) Tryz.func112 w6l trivial rfl rfl (fun av x => by kernel_rfl)
def zk6 (n : GNet) (c : GCase) : Option (GCase × Bool) := (z64 c).bind fun x1 => ((za7 n c).bind fun x2 => (if x2 = true then (if decide (c.state = 1) = true then (some ((GCase.mk 3 x1.marks ([] : List GItem) x1.data x1.did), true)) else (some (x1, false))) else (some (x1, false))))
def y0h : Con := ⟨23, [.v (.s .net) false, .v (.s .kase) false], [((.s .kase), true), (.B, true)], [], fun x => zk6 x.1 x.2.1⟩
def w5x : Fs := ⟨[z8i, z47], [], []⟩
theorem w6k : w5x.Ok Tryz.prog := (fsK zt2 (fsK y81 fs0))
theorem w7g : y0h.Ok Tryz.prog := fn_ok (k := y0h) (fn := Tryz.f23) (W := []) (H := []) Tryz.func23 w6k trivial rfl rfl (fun av x => by kernel_rfl)
def z08 (c : GCase) : Option GCase := (z0l c.marks).bind fun x1 => (gd (([] : List GItem).length + c.busy.length ≤ SMALL) ((z0l c.data).bind fun x3 => (gd (([] : List GDid).length + c.did.length ≤ SMALL) (some (GCase.mk c.state x1 (([] : List GItem) ++ c.busy) x3 (([] : List GDid) ++ c.did))))))
def z33 : Con := ⟨84, [.v (.s .kase) false], [((.s .kase), true)], [], fun x => z08 x.1⟩
def y9n : Fs := ⟨[z1s], [], []⟩
theorem y9u : y9n.Ok Tryz.prog := (fsK z3e fs0)
theorem z6e : z33.Ok Tryz.prog := fn_ok (k := z33) (fn := Tryz.f84) (W := []) (H := []) Tryz.func84 y9u trivial rfl rfl (fun av x => by kernel_rfl)
def y7m (s0_0 : Int) (bk0 : Int → Option Bool) (s1_0 : Int) : Option Bool := if ((decide (s0_0 = 0)) == (decide (s1_0 = 0))) = true then (if decide (1 < s1_0) = true then (some false) else (gd (ok64 (s0_0 + 1)) (bk0 (s0_0 + 1)))) else (some false)
def z12 (tree : List GNode) (s0_0 : Int) (kx1_0 : Int → Option Bool) : Nat → Int → Int → Option Bool
  | 0, _, _ => none
  | n1 + 1, s1_0, s1_1 => if decide (s1_1 < (tree.length : Int)) = true then ((getI tree s1_1).bind fun x15 => (if decide (x15.yes = s0_0) = true then (gd (ok64 (s1_0 + 1)) ((getI tree s1_1).bind fun x18 => (if decide (x18.no = s0_0) = true then (gd (ok64 ((s1_0 + 1) + 1)) (gd (ok64 (s1_1 + 1)) ((z12 tree s0_0 kx1_0 n1) ((s1_0 + 1) + 1) (s1_1 + 1)))) else (gd (ok64 (s1_1 + 1)) ((z12 tree s0_0 kx1_0 n1) (s1_0 + 1) (s1_1 + 1)))))) else ((getI tree s1_1).bind fun x23 => (if decide (x23.no = s0_0) = true then (gd (ok64 (s1_0 + 1)) (gd (ok64 (s1_1 + 1)) ((z12 tree s0_0 kx1_0 n1) (s1_0 + 1) (s1_1 + 1)))) else (gd (ok64 (s1_1 + 1)) ((z12 tree s0_0 kx1_0 n1) s1_0 (s1_1 + 1))))))) else (kx1_0 s1_0)
def y7n (s0_0 : Int) (bk0 : Int → Option Bool) (s2_0 : Int) : Option Bool := if ((decide (s0_0 = 0)) == (decide (s2_0 = 0))) = true then (if decide (1 < s2_0) = true then (some false) else (gd (ok64 (s0_0 + 1)) (bk0 (s0_0 + 1)))) else (some false)
def y7o (s0_0 : Int) (bk0 : Int → Option Bool) (s3_0 : Int) : Option Bool := if ((decide (s0_0 = 0)) == (decide (s3_0 = 0))) = true then (if decide (1 < s3_0) = true then (some false) else (gd (ok64 (s0_0 + 1)) (bk0 (s0_0 + 1)))) else (some false)
def y7p (s0_0 : Int) (bk0 : Int → Option Bool) (s4_0 : Int) : Option Bool := if ((decide (s0_0 = 0)) == (decide (s4_0 = 0))) = true then (if decide (1 < s4_0) = true then (some false) else (gd (ok64 (s0_0 + 1)) (bk0 (s0_0 + 1)))) else (some false)
def y7q  : Option Bool := some true
def z31 (tree : List GNode) (kx0_0 : Option Bool) : Nat → Int → Option Bool
  | 0, _ => none
  | n0 + 1, s0_0 => if decide (s0_0 < (tree.length : Int)) = true then ((getI tree s0_0).bind fun x3 => ((z61 x3.if_).bind fun x4 => (if x4 = true then ((z03 x3.ans 0 2).bind fun x6 => (if x6 = true then ((z2n x3.stone).bind fun x8 => (if x8 = true then ((z19 x3.if_ x3.stone).bind fun x10 => (if x10 = true then (if decide (x3.yes = (-1)) = true then (if decide (x3.no = (-1)) = true then (z12 tree s0_0 (y7m s0_0 (z31 tree kx0_0 n0)) FUEL 0 0) else (gd (ok64 (s0_0 + 1)) (gd (ok64 ((tree.length : Int) - 1)) ((z03 x3.no (s0_0 + 1) ((tree.length : Int) - 1)).bind fun x33 => (if x33 = true then (z12 tree s0_0 (y7n s0_0 (z31 tree kx0_0 n0)) FUEL 0 0) else (some false)))))) else (gd (ok64 (s0_0 + 1)) (gd (ok64 ((tree.length : Int) - 1)) ((z03 x3.yes (s0_0 + 1) ((tree.length : Int) - 1)).bind fun x54 => (if x54 = true then (if decide (x3.no = (-1)) = true then (z12 tree s0_0 (y7o s0_0 (z31 tree kx0_0 n0)) FUEL 0 0) else (gd (ok64 (s0_0 + 1)) (gd (ok64 ((tree.length : Int) - 1)) ((z03 x3.no (s0_0 + 1) ((tree.length : Int) - 1)).bind fun x76 => (if x76 = true then (z12 tree s0_0 (y7p s0_0 (z31 tree kx0_0 n0)) FUEL 0 0) else (some false)))))) else (some false)))))) else (some false))) else (some false))) else (some false))) else (some false)))) else (kx0_0)
def za9 (tree : List GNode) : Option Bool := if decide (12 < (tree.length : Int)) = true then (some false) else (z31 tree y7q FUEL 0)
def z1e : Con := ⟨129, [.v (.sl (.s .node)) false], [(.B, true)], [], fun x => za9 x.1⟩
def wm9 : Fs := ⟨[z84, z0n, z15, z48], [], []⟩
theorem y6g : wm9.Ok Tryz.prog := (fsK zm8 (fsK z0x (fsK z66 (fsK z6v fs0))))
def y5b : Tmpl := ⟨[(0, .c (.s (.s .node))), (3, .c .i), (5, .c .i), (6, .c .i)], []⟩
def y2j : Tmpl := ⟨[(0, .c (.s (.s .node))), (3, .c .i), (5, .c .i)], []⟩
def w02 (av : AV) (x : HP z1e.ps) (n : Nat) (v : y5b.den) (K : Ks (CR z1e)) : Option (CR z1e) := z12 v.1.1 v.1.2.1 (fun s1_0 => y2j.at none ((v.1.1, v.1.2.1, s1_0, ()), ()) (K (.exit 2))) n v.1.2.2.1 v.1.2.2.2.1
def y4i (av : AV) (x : HP z1e.ps) : Hdl (CR z1e) := hnd [] y5b (w02 av x)
theorem w10 : LP z1e Tryz.f129 [0, 0] y4i := lp_ok (W := []) (H := []) (xs := [y2j]) y6g trivial rfl (fun av x v K => by kernel_rfl) (fun av x n v K => by kernel_rfl)
def ye6 : Tmpl := ⟨[(0, .c (.s (.s .node))), (3, .c .i)], []⟩
def y92 : Tmpl := ⟨[], []⟩
def w5g (av : AV) (x : HP z1e.ps) (n : Nat) (v : ye6.den) (K : Ks (CR z1e)) : Option (CR z1e) := z31 v.1.1 (y92.at none ((), ()) (K (.exit 0))) n v.1.2.1
def yc5 (av : AV) (x : HP z1e.ps) : Hdl (CR z1e) := hnd [] ye6 (w5g av x)
theorem w71 : LP z1e Tryz.f129 [0] yc5 := lp_ok (W := []) (H := [y4i]) (xs := [y92]) y6g ⟨w10, trivial⟩ rfl (fun av x v K => by kernel_rfl) (fun av x n v K => by kernel_rfl)
theorem yy1 : z1e.Ok Tryz.prog := fn_ok (k := z1e) (fn := Tryz.f129) (W := []) (H := [yc5]) Tryz.func129 y6g ⟨w71, trivial⟩ rfl rfl (fun av x => by kernel_rfl)
def y4v (s0_0 : Int) (s0_1 : Int) : Option (Int × Int) := some (s0_0, s0_1)
def y4w (s0_0 : Int) (s0_1 : Int) : Option (Int × Int) := some (s0_0, s0_1)
def z3c (tree : List GNode) (data : List Int) (kx0_0 : Int → Int → Option (Int × Int)) (kx0_1 : Int → Int → Option (Int × Int)) : Nat → Int → Int → Int → Int → Option (Int × Int)
  | 0, _, _, _, _ => none
  | n0 + 1, s0_0, s0_1, s0_2, s0_3 => if decide (s0_3 < 12) = true then (if decide (s0_2 = (-1)) = true then (kx0_0 s0_0 s0_1) else ((getI tree s0_2).bind fun x4 => ((z19 x4.if_ data).bind fun x5 => (if x5 = true then ((getI tree s0_2).bind fun x7 => (gd (ok64 (s0_3 + 1)) ((z3c tree data kx0_0 kx0_1 n0) s0_2 s0_2 x7.yes (s0_3 + 1)))) else ((getI tree s0_2).bind fun x9 => (gd (ok64 (s0_3 + 1)) ((z3c tree data kx0_0 kx0_1 n0) s0_0 s0_2 x9.no (s0_3 + 1)))))))) else (kx0_1 s0_0 s0_1)
def y4x (s1_0 : Int) (s1_1 : Int) : Option (Int × Int) := some (s1_0, s1_1)
def y4y (s1_0 : Int) (s1_1 : Int) : Option (Int × Int) := some (s1_0, s1_1)
def z7b (tree : List GNode) (data : List Int) : Option (Int × Int) := if decide ((tree.length : Int) = 0) = true then (z3c tree data y4v y4w FUEL (-1) (-1) (-1) 0) else (z3c tree data y4x y4y FUEL (-1) (-1) 0 0)
def z2y : Con := ⟨209, [.v (.sl (.s .node)) false, .v (.sl .I) false], [(.I, true), (.I, true)], [], fun x => z7b x.1 x.2.1⟩
def w9x : Fs := ⟨[z48], [], []⟩
theorem yl1 : w9x.Ok Tryz.prog := (fsK z6v fs0)
def y8m : Tmpl := ⟨[(0, .c (.s (.s .node))), (1, .c (.s .I)), (6, .c .i), (7, .c .i), (8, .c .i), (9, .c .i)], []⟩
def zo4 : Tmpl := ⟨[(6, .c .i), (7, .c .i)], []⟩
def w27 (av : AV) (x : HP z2y.ps) (n : Nat) (v : y8m.den) (K : Ks (CR z2y)) : Option (CR z2y) := z3c v.1.1 v.1.2.1 (fun s0_0 s0_1 => zo4.at none ((s0_0, s0_1, ()), ()) (K (.exit 0))) (fun s0_0 s0_1 => zo4.at none ((s0_0, s0_1, ()), ()) (K (.exit 0))) n v.1.2.2.1 v.1.2.2.2.1 v.1.2.2.2.2.1 v.1.2.2.2.2.2.1
def y6w (av : AV) (x : HP z2y.ps) : Hdl (CR z2y) := hnd [] y8m (w27 av x)
theorem w3v : LP z2y Tryz.f209 [0] y6w := lp_ok (W := []) (H := []) (xs := [zo4]) yl1 trivial rfl (fun av x v K => by kernel_rfl) (fun av x n v K => by kernel_rfl)
theorem y3x : z2y.Ok Tryz.prog := fn_ok (k := z2y) (fn := Tryz.f209) (W := []) (H := [y6w]) Tryz.func209 yl1 ⟨w3v, trivial⟩ rfl rfl (fun av x => by kernel_rfl)
def zs3 (tree : List GNode) (data : List Int) : Option Int := (za9 tree).bind fun x1 => (if x1 = true then ((z2n data).bind fun x3 => (if x3 = true then ((z7b tree data).bind fun x5 => (if decide (x5.1 = (-1)) = true then (some 0) else ((getI tree x5.1).bind fun x7 => (some x7.ans)))) else (some 0))) else (some 0))
def y3e : Con := ⟨186, [.v (.sl (.s .node)) false, .v (.sl .I) false], [(.I, true)], [], fun x => zs3 x.1 x.2.1⟩
def w9m : Fs := ⟨[z1e, z15, z2y], [], []⟩
theorem wb6 : w9m.Ok Tryz.prog := (fsK yy1 (fsK z66 (fsK y3x fs0)))
theorem wf6 : y3e.Ok Tryz.prog := fn_ok (k := y3e) (fn := Tryz.f186) (W := []) (H := []) Tryz.func186 wb6 trivial rfl rfl (fun av x => by kernel_rfl)
def zs6 (tree : List GNode) (a : List Int) (b : List Int) : Option Bool := (z7b tree a).bind fun x1 => ((z7b tree b).bind fun x2 => (if decide (x1.2 = x2.2) = true then (if decide (x1.2 = (-1)) = true then (some true) else ((getI tree x1.2).bind fun x5 => ((z19 x5.if_ a).bind fun x6 => ((getI tree x1.2).bind fun x7 => ((z19 x7.if_ b).bind fun x8 => (some (x6 == x8))))))) else (some false)))
def y3g : Con := ⟨210, [.v (.sl (.s .node)) false, .v (.sl .I) false, .v (.sl .I) false], [(.B, true)], [], fun x => zs6 x.1 x.2.1 x.2.2.1⟩
def w9w : Fs := ⟨[z2y, z48], [], []⟩
theorem wc3 : w9w.Ok Tryz.prog := (fsK y3x (fsK z6v fs0))
theorem wf9 : y3g.Ok Tryz.prog := fn_ok (k := y3g) (fn := Tryz.f210) (W := []) (H := []) Tryz.func210 wc3 trivial rfl rfl (fun av x => by kernel_rfl)
def zo0 (l0_1 : List GNode) : Option (List GNode) := some l0_1
def z5o (tree : List GNode) (kx0_0 : List GNode → Option (List GNode)) : Nat → Int → List GNode → Option (List GNode)
  | 0, _, _ => none
  | n0 + 1, s0_0, l0_1 => if decide (s0_0 < (tree.length : Int)) = true then ((getI tree s0_0).bind fun x2 => (gd (([] : List Int).length + x2.stone.length ≤ SMALL) (gd (l0_1.length + [(GNode.mk x2.if_ x2.yes x2.no x2.ans (([] : List Int) ++ x2.stone))].length ≤ SMALL) (gd (ok64 (s0_0 + 1)) ((z5o tree kx0_0 n0) (s0_0 + 1) (l0_1 ++ [(GNode.mk x2.if_ x2.yes x2.no x2.ans (([] : List Int) ++ x2.stone))])))))) else (kx0_0 l0_1)
def zg5 (tree : List GNode) : Option (List GNode) := z5o tree zo0 FUEL 0 ([] : List GNode)
def z44 : Con := ⟨189, [.v (.sl (.s .node)) false], [((.sl (.s .node)), true)], [], fun x => zg5 x.1⟩
def w9v : Fs := ⟨[], [], []⟩
theorem yl0 : w9v.Ok Tryz.prog := fs0
def y8l : Tmpl := ⟨[(0, .c (.s (.s .node))), (3, .c (.ref 6)), (4, .c .i)], [(6, .arr (.s .node) true)]⟩
def y5t : Tmpl := ⟨[(3, .c (.ref 6))], [(6, .arr (.s .node) true)]⟩
def w26 (av : AV) (x : HP z44.ps) (n : Nat) (v : y8l.den) (K : Ks (CR z44)) : Option (CR z44) := z5o v.1.1 (fun l0_1 => y5t.at none (((), ()), (l0_1, ())) (K (.exit 0))) n v.1.2.2.1 v.2.1
def y6v (av : AV) (x : HP z44.ps) : Hdl (CR z44) := hnd [] y8l (w26 av x)
theorem w3u : LP z44 Tryz.f189 [0] y6v := lp_ok (W := []) (H := []) (xs := [y5t]) yl0 trivial rfl (fun av x v K => by kernel_rfl) (fun av x n v K => by kernel_rfl)
theorem yo1 : z44.Ok Tryz.prog := fn_ok (k := z44) (fn := Tryz.f189) (W := []) (H := [y6v]) Tryz.func189 yl0 ⟨w3u, trivial⟩ rfl rfl (fun av x => by kernel_rfl)
def z9o (tree : List GNode) (data : List Int) (e : GAsk) (ans : Int) (x1 : (List GNode)) : Option ((List GNode) × Bool) := (z7b tree data).bind fun x20 => (if decide (x20.2 = (-1)) = true then (gd (([] : List Int).length + data.length ≤ SMALL) (gd (x1.length + [(GNode.mk e (-1) (-1) ans (([] : List Int) ++ data))].length ≤ SMALL) (some ((x1 ++ [(GNode.mk e (-1) (-1) ans (([] : List Int) ++ data))]), true)))) else ((getI tree x20.2).bind fun x24 => ((z19 x24.if_ data).bind fun x25 => (if x25 = true then ((getI x1 x20.2).bind fun x27 => (gd (([] : List Int).length + data.length ≤ SMALL) (gd ((x1.set x20.2.toNat (GNode.mk x27.if_ (tree.length : Int) x27.no x27.ans x27.stone)).length + [(GNode.mk e (-1) (-1) ans (([] : List Int) ++ data))].length ≤ SMALL) (some (((x1.set x20.2.toNat (GNode.mk x27.if_ (tree.length : Int) x27.no x27.ans x27.stone)) ++ [(GNode.mk e (-1) (-1) ans (([] : List Int) ++ data))]), true))))) else ((getI x1 x20.2).bind fun x30 => (gd (([] : List Int).length + data.length ≤ SMALL) (gd ((x1.set x20.2.toNat (GNode.mk x30.if_ x30.yes (tree.length : Int) x30.ans x30.stone)).length + [(GNode.mk e (-1) (-1) ans (([] : List Int) ++ data))].length ≤ SMALL) (some (((x1.set x20.2.toNat (GNode.mk x30.if_ x30.yes (tree.length : Int) x30.ans x30.stone)) ++ [(GNode.mk e (-1) (-1) ans (([] : List Int) ++ data))]), true)))))))))
def z4p (tree : List GNode) (data : List Int) (e : GAsk) (x1 : (List GNode)) (kx0_0 : Option ((List GNode) × Bool)) : Nat → Int → Option ((List GNode) × Bool)
  | 0, _ => none
  | n0 + 1, s0_0 => if decide (s0_0 < (tree.length : Int)) = true then ((getI tree s0_0).bind fun x12 => ((zs6 tree x12.stone data).bind fun x13 => (if x13 = true then ((getI tree s0_0).bind fun x15 => ((z19 e x15.stone).bind fun x16 => (if x16 = true then (some (x1, false)) else (gd (ok64 (s0_0 + 1)) ((z4p tree data e x1 kx0_0 n0) (s0_0 + 1)))))) else (gd (ok64 (s0_0 + 1)) ((z4p tree data e x1 kx0_0 n0) (s0_0 + 1)))))) else (kx0_0)
def z78 (tree : List GNode) (data : List Int) (e : GAsk) (ans : Int) : Option ((List GNode) × Bool) := (zg5 tree).bind fun x1 => ((za9 tree).bind fun x2 => (if x2 = true then ((z2n data).bind fun x4 => (if x4 = true then ((z19 e data).bind fun x6 => (if x6 = true then ((z03 ans 0 2).bind fun x8 => (if x8 = true then (if decide ((tree.length : Int) = 12) = true then (some (x1, false)) else (z4p tree data e x1 (z9o tree data e ans x1) FUEL 0)) else (some (x1, false)))) else (some (x1, false)))) else (some (x1, false)))) else (some (x1, false))))
def z3x : Con := ⟨187, [.v (.sl (.s .node)) false, .v (.sl .I) false, .v (.s .ask) false, .v .I false], [((.sl (.s .node)), true), (.B, true)], [], fun x => z78 x.1 x.2.1 x.2.2.1 x.2.2.2.1⟩
def w9l : Fs := ⟨[z44, z1e, z15, z48, z0n, y3g, z2y], [], []⟩
theorem yk7 : w9l.Ok Tryz.prog := (fsK yo1 (fsK yy1 (fsK z66 (fsK z6v (fsK z0x (fsK wf9 (fsK y3x fs0)))))))
def y8i : Tmpl := ⟨[(0, .c (.s (.s .node))), (1, .c (.s .I)), (3, .c .i), (6, .c (.bx 6 0)), (10, .c (.ref 15)), (11, .c .i)], [(6, .boxT (.s .ask)), (15, .arr (.s .node) true)]⟩
def y5q : Tmpl := ⟨[(0, .c (.s (.s .node))), (1, .c (.s .I)), (3, .c .i), (6, .c (.bx 6 0)), (10, .c (.ref 15))], [(6, .boxT (.s .ask)), (15, .arr (.s .node) true)]⟩
def w23 (av : AV) (x : HP z3x.ps) (n : Nat) (v : y8i.den) (K : Ks (CR z3x)) : Option (CR z3x) := z4p v.1.1 v.1.2.1 v.2.1 v.2.2.1 (y5q.at none ((v.1.1, v.1.2.1, v.1.2.2.1, (), (), ()), (v.2.1, v.2.2.1, ())) (K (.exit 0))) n v.1.2.2.2.2.2.1
def y6s (av : AV) (x : HP z3x.ps) : Hdl (CR z3x) := hnd [] y8i (w23 av x)
theorem w3r : LP z3x Tryz.f187 [0] y6s := lp_ok (W := []) (H := []) (xs := [y5q]) yk7 trivial rfl (fun av x v K => by kernel_rfl) (fun av x n v K => by kernel_rfl)
theorem yn7 : z3x.Ok Tryz.prog := fn_ok (k := z3x) (fn := Tryz.f187) (W := []) (H := [y6s]) Tryz.func187 yk7 ⟨w3r, trivial⟩ rfl rfl (fun av x => by kernel_rfl)
def z4c (ans : Int) : Option Bool := (z0b ans 0 2).bind fun x1 => (some x1)
def z83 : Con := ⟨121, [.v .I false], [(.B, true)], [], fun x => z4c x.1⟩
def w2n : Fs := ⟨[z1z], [], []⟩
theorem w38 : w2n.Ok Tryz.prog := (fsK z2p fs0)
theorem zv3 : z83.Ok Tryz.prog := fn_ok (k := z83) (fn := Tryz.f121) (W := []) (H := []) Tryz.func121 w38 trivial rfl rfl (fun av x => by kernel_rfl)
def z93 (l0_1 : List GNode) : Option (List GNode) := some l0_1
def z37 (tree : List GNode) (p0_0 : Int) (kx0_0 : List GNode → Option (List GNode)) : Nat → Int → List GNode → Option (List GNode)
  | 0, _, _ => none
  | n0 + 1, s0_0, l0_1 => if decide (s0_0 < p0_0) = true then ((getI tree s0_0).bind fun x2 => ((z0l x2.stone).bind fun x3 => (gd (l0_1.length + [(GNode.mk x2.if_ x2.yes x2.no x2.ans x3)].length ≤ SMALL) (gd (ok64 (s0_0 + 1)) ((z37 tree p0_0 kx0_0 n0) (s0_0 + 1) (l0_1 ++ [(GNode.mk x2.if_ x2.yes x2.no x2.ans x3)])))))) else (kx0_0 l0_1)
def z6l (tree : List GNode) : Option (List GNode) := z37 tree (tree.length : Int) z93 FUEL 0 ([] : List GNode)
def z1c : Con := ⟨183, [.v (.sl (.s .node)) false], [((.sl (.s .node)), true)], [], fun x => z6l x.1⟩
def ys0 : Fs := ⟨[z1s], [], []⟩
theorem y19 : ys0.Ok Tryz.prog := (fsK z3e fs0)
def zw1 : Tmpl := ⟨[(3, .c (.ref 500003)), (6, .c (.s (.s .node))), (7, .c .i), (8, .c .i)], [(500003, .arr (.s .node) true)]⟩
def zp8 : Tmpl := ⟨[(3, .c (.ref 500003))], [(500003, .arr (.s .node) true)]⟩
def yf2 (av : AV) (x : HP z1c.ps) (n : Nat) (v : zw1.den) (K : Ks (CR z1c)) : Option (CR z1c) := z37 v.1.2.1 v.1.2.2.1 (fun l0_1 => zp8.at none (((), ()), (l0_1, ())) (K (.exit 0))) n v.1.2.2.2.1 v.2.1
def zu2 (av : AV) (x : HP z1c.ps) : Hdl (CR z1c) := hnd [.e 3 500003 (.s .node)] zw1 (yf2 av x)
theorem yg9 : LP z1c Tryz.f183 [0] zu2 := lp_ok (W := []) (H := []) (xs := [zp8]) y19 trivial rfl (fun av x v K => by kernel_rfl) (fun av x n v K => by kernel_rfl)
theorem y1w : z1c.Ok Tryz.prog := fn_ok (k := z1c) (fn := Tryz.f183) (W := []) (H := [zu2]) Tryz.func183 y19 ⟨yg9, trivial⟩ rfl rfl (fun av x => by kernel_rfl)
def y4z  : Option Bool := some true
def z5r (nets : List GNet) (kx0_0 : Option Bool) : Nat → Int → Option Bool
  | 0, _ => none
  | n0 + 1, s0_0 => if decide (s0_0 < (nets.length : Int)) = true then ((getI nets s0_0).bind fun x4 => ((z3b x4).bind fun x5 => (if x5 = true then (gd (ok64 (s0_0 + 1)) ((z5r nets kx0_0 n0) (s0_0 + 1))) else (some false)))) else (kx0_0)
def zt0 (nets : List GNet) : Option Bool := (z03 (nets.length : Int) 1 3).bind fun x1 => (if x1 = true then (z5r nets y4z FUEL 0) else (some false))
def z4z : Con := ⟨128, [.v (.sl (.s .net)) false], [(.B, true)], [], fun x => zt0 x.1⟩
def wa1 : Fs := ⟨[z0n, z2l], [], []⟩
theorem yl2 : wa1.Ok Tryz.prog := (fsK z0x (fsK zm9 fs0))
def y8p : Tmpl := ⟨[(0, .c (.s (.s .net))), (3, .c .i)], []⟩
def y5w : Tmpl := ⟨[], []⟩
def w2a (av : AV) (x : HP z4z.ps) (n : Nat) (v : y8p.den) (K : Ks (CR z4z)) : Option (CR z4z) := z5r v.1.1 (y5w.at none ((), ()) (K (.exit 0))) n v.1.2.1
def y6z (av : AV) (x : HP z4z.ps) : Hdl (CR z4z) := hnd [] y8p (w2a av x)
theorem w3y : LP z4z Tryz.f128 [0] y6z := lp_ok (W := []) (H := []) (xs := [y5w]) yl2 trivial rfl (fun av x v K => by kernel_rfl) (fun av x n v K => by kernel_rfl)
theorem wg3 : z4z.Ok Tryz.prog := fn_ok (k := z4z) (fn := Tryz.f128) (W := []) (H := [y6z]) Tryz.func128 yl2 ⟨w3y, trivial⟩ rfl rfl (fun av x => by kernel_rfl)
def z9x (p0_1 : Int) (l0_1 : List GTask) : Option GNet := some (GNet.mk p0_1 l0_1)
def z3r (n : GNet) (kx0_0 : List GTask → Option GNet) : Nat → Int → List GTask → Option GNet
  | 0, _, _ => none
  | n0 + 1, s0_0, l0_1 => if decide (s0_0 < (n.tasks.length : Int)) = true then ((getI n.tasks s0_0).bind fun x2 => (gd (([] : List Int).length + x2.in_.length ≤ SMALL) (gd (([] : List GFlow).length + x2.out.length ≤ SMALL) (gd (([] : List Int).length + x2.clear.length ≤ SMALL) (gd (l0_1.length + [(GTask.mk x2.join x2.split (([] : List Int) ++ x2.in_) (([] : List GFlow) ++ x2.out) (([] : List Int) ++ x2.clear) x2.role x2.apart x2.all x2.need)].length ≤ SMALL) (gd (ok64 (s0_0 + 1)) ((z3r n kx0_0 n0) (s0_0 + 1) (l0_1 ++ [(GTask.mk x2.join x2.split (([] : List Int) ++ x2.in_) (([] : List GFlow) ++ x2.out) (([] : List Int) ++ x2.clear) x2.role x2.apart x2.all x2.need)])))))))) else (kx0_0 l0_1)
def z7i (n : GNet) : Option GNet := z3r n (z9x n.places) FUEL 0 ([] : List GTask)
def z1u : Con := ⟨190, [.v (.s .net) false], [((.s .net), true)], [], fun x => z7i x.1⟩
def w0k : Fs := ⟨[], [], []⟩
theorem y48 : w0k.Ok Tryz.prog := fs0
def zz7 : Tmpl := ⟨[(1, .c (.bx 1 0)), (2, .c (.bx 2 0)), (3, .c (.bx 3 0)), (4, .c .i)], [(1, .boxT (.s .net)), (2, .box [.i, .nl]), (3, .box [.i, .ref 510301]), (510301, .arr (.s .task) true)]⟩
def zw8 : Tmpl := ⟨[(2, .c (.bx 2 0)), (3, .c (.bx 3 0))], [(2, .box [.i, .nl]), (3, .box [.i, .ref 510301]), (510301, .arr (.s .task) true)]⟩
def yi8 (av : AV) (x : HP z1u.ps) (n : Nat) (v : zz7.den) (K : Ks (CR z1u)) : Option (CR z1u) := z3r v.2.1 (fun l0_1 => zw8.at none (((), (), ()), ((v.2.2.1.1, (), ()), (v.2.2.2.1.1, (), ()), l0_1, ())) (K (.exit 0))) n v.1.2.2.2.1 v.2.2.2.2.1
def zx8 (av : AV) (x : HP z1u.ps) : Hdl (CR z1u) := hnd [.b 3 1 510301 (.s .task)] zz7 (yi8 av x)
theorem ym2 : LP z1u Tryz.f190 [0] zx8 := lp_ok (W := []) (H := []) (xs := [zw8]) y48 trivial rfl (fun av x v K => by kernel_rfl) (fun av x n v K => by kernel_rfl)
theorem y51 : z1u.Ok Tryz.prog := fn_ok (k := z1u) (fn := Tryz.f190) (W := []) (H := [zx8]) Tryz.func190 y48 ⟨ym2, trivial⟩ rfl rfl (fun av x => by kernel_rfl)
def zn8 (p0_0 : List Int) (l0_1 : List GNet) : Option GHouse := some (GHouse.mk l0_1 p0_0 [] [])
def z5k (nets : List GNet) (kx0_0 : List GNet → Option GHouse) : Nat → Int → List GNet → Option GHouse
  | 0, _, _ => none
  | n0 + 1, s0_0, l0_1 => if decide (s0_0 < (nets.length : Int)) = true then ((getI nets s0_0).bind fun x7 => ((z7i x7).bind fun x8 => (gd (l0_1.length + [x8].length ≤ SMALL) (gd (ok64 (s0_0 + 1)) ((z5k nets kx0_0 n0) (s0_0 + 1) (l0_1 ++ [x8])))))) else (kx0_0 l0_1)
def zs0 (nets : List GNet) (people : List Int) : Option GHouse := (zt0 nets).bind fun x1 => (if x1 = true then ((za8 people).bind fun x3 => (if x3 = true then (gd (([] : List Int).length + people.length ≤ SMALL) (z5k nets (zn8 (([] : List Int) ++ people)) FUEL 0 ([] : List GNet))) else (some (GHouse.mk [] [] [] [])))) else (some (GHouse.mk [] [] [] [])))
def z4v : Con := ⟨195, [.v (.sl (.s .net)) false, .v (.sl .I) false], [((.s .house), true)], [], fun x => zs0 x.1 x.2.1⟩
def w9h : Fs := ⟨[z4z, z49, z1u], [], []⟩
theorem yk4 : w9h.Ok Tryz.prog := (fsK wg3 (fsK y84 (fsK y51 fs0)))
def y8e : Tmpl := ⟨[(0, .c (.s (.s .net))), (4, .c (.bx 4 0)), (5, .c (.bx 5 0)), (6, .c .i)], [(4, .box [.nl, .nl, .nl, .nl]), (5, .box [.ref 510500, .ref 18, .nl, .nl]), (510500, .arr (.s .net) true), (18, .arr .I true)]⟩
def y5m : Tmpl := ⟨[(4, .c (.bx 4 0)), (5, .c (.bx 5 0))], [(4, .box [.nl, .nl, .nl, .nl]), (5, .box [.ref 510500, .ref 18, .nl, .nl]), (510500, .arr (.s .net) true), (18, .arr .I true)]⟩
def w1z (av : AV) (x : HP z4v.ps) (n : Nat) (v : y8e.den) (K : Ks (CR z4v)) : Option (CR z4v) := z5k v.1.1 (fun l0_1 => y5m.at none (((), (), ()), (((), (), (), (), ()), ((), (), (), (), ()), l0_1, v.2.2.2.2.1, ())) (K (.exit 0))) n v.1.2.2.2.1 v.2.2.2.1
def y6o (av : AV) (x : HP z4v.ps) : Hdl (CR z4v) := hnd [.b 5 0 510500 (.s .net)] y8e (w1z av x)
theorem w3n : LP z4v Tryz.f195 [0] y6o := lp_ok (W := []) (H := []) (xs := [y5m]) yk4 trivial rfl (fun av x v K => by kernel_rfl) (fun av x n v K => by kernel_rfl)
theorem wf3 : z4v.Ok Tryz.prog := fn_ok (k := z4v) (fn := Tryz.f195) (W := []) (H := [y6o]) Tryz.func195 yk4 ⟨w3n, trivial⟩ rfl rfl (fun av x => by kernel_rfl)
def zo1 (x2 : (List GNode)) (p0_0 : List Int) (l0_1 : List GNet) (l1_1 : List GRun) : Option GHouse := some (GHouse.mk l0_1 p0_0 x2 l1_1)
def z5q (h : GHouse) (kx1_0 : List GRun → Option GHouse) : Nat → Int → List GRun → Option GHouse
  | 0, _, _ => none
  | n1 + 1, s1_0, l1_1 => if decide (s1_0 < (h.runs.length : Int)) = true then ((getI h.runs s1_0).bind fun x9 => ((getI h.runs s1_0).bind fun x10 => ((z64 x10.case).bind fun x11 => (gd (l1_1.length + [(GRun.mk x9.net x11)].length ≤ SMALL) (gd (ok64 (s1_0 + 1)) ((z5q h kx1_0 n1) (s1_0 + 1) (l1_1 ++ [(GRun.mk x9.net x11)]))))))) else (kx1_0 l1_1)
def z9r (h : GHouse) (x2 : (List GNode)) (p0_0 : List Int) (l0_1 : List GNet) : Option GHouse := z5q h (zo1 x2 p0_0 l0_1) FUEL 0 ([] : List GRun)
def z5p (h : GHouse) (kx0_0 : List GNet → Option GHouse) : Nat → Int → List GNet → Option GHouse
  | 0, _, _ => none
  | n0 + 1, s0_0, l0_1 => if decide (s0_0 < (h.nets.length : Int)) = true then ((getI h.nets s0_0).bind fun x4 => ((z7i x4).bind fun x5 => (gd (l0_1.length + [x5].length ≤ SMALL) (gd (ok64 (s0_0 + 1)) ((z5p h kx0_0 n0) (s0_0 + 1) (l0_1 ++ [x5])))))) else (kx0_0 l0_1)
def zs8 (h : GHouse) : Option GHouse := gd (([] : List Int).length + h.people.length ≤ SMALL) ((zg5 h.tree).bind fun x2 => (z5p h (z9r h x2 (([] : List Int) ++ h.people)) FUEL 0 ([] : List GNet)))
def z17 : Con := ⟨135, [.v (.s .house) false], [((.s .house), true)], [], fun x => zs8 x.1⟩
def w9z : Fs := ⟨[z44, z1u, z8i], [], []⟩
theorem y34 : w9z.Ok Tryz.prog := (fsK yo1 (fsK y51 (fsK zt2 fs0)))
def y8n : Tmpl := ⟨[(1, .c (.bx 1 0)), (2, .c (.bx 2 0)), (3, .c (.bx 3 0)), (4, .c .i)], [(1, .boxT (.s .house)), (2, .box [.nl, .nl, .nl, .nl]), (3, .box [.ref 510300, .ref 9, .ref 12, .nl]), (510300, .arr (.s .net) true), (9, .arr .I true), (12, .arr (.s .node) true)]⟩
def y5u : Tmpl := ⟨[(1, .c (.bx 1 0)), (2, .c (.bx 2 0)), (3, .c (.bx 3 0))], [(1, .boxT (.s .house)), (2, .box [.nl, .nl, .nl, .nl]), (3, .box [.ref 510300, .ref 9, .ref 12, .nl]), (510300, .arr (.s .net) true), (9, .arr .I true), (12, .arr (.s .node) true)]⟩
def w28 (av : AV) (x : HP z17.ps) (n : Nat) (v : y8n.den) (K : Ks (CR z17)) : Option (CR z17) := z5p v.2.1 (fun l0_1 => y5u.at none (((), (), (), ()), (v.2.1, ((), (), (), (), ()), ((), (), (), (), ()), l0_1, v.2.2.2.2.2.1, v.2.2.2.2.2.2.1, ())) (K (.exit 0))) n v.1.2.2.2.1 v.2.2.2.2.1
def y6x (av : AV) (x : HP z17.ps) : Hdl (CR z17) := hnd [.b 3 0 510300 (.s .net)] y8n (w28 av x)
theorem w3w : LP z17 Tryz.f135 [0] y6x := lp_ok (W := []) (H := []) (xs := [y5u]) y34 trivial rfl (fun av x v K => by kernel_rfl) (fun av x n v K => by kernel_rfl)
def y8o : Tmpl := ⟨[(1, .c (.bx 1 0)), (2, .c (.bx 2 0)), (3, .c (.bx 3 0)), (5, .c .i)], [(1, .boxT (.s .house)), (2, .box [.nl, .nl, .nl, .nl]), (3, .box [.ref 510300, .ref 9, .ref 12, .ref 510303]), (510300, .arr (.s .net) true), (9, .arr .I true), (12, .arr (.s .node) true), (510303, .arr (.s .run) true)]⟩
def y5v : Tmpl := ⟨[(2, .c (.bx 2 0)), (3, .c (.bx 3 0))], [(2, .box [.nl, .nl, .nl, .nl]), (3, .box [.ref 510300, .ref 9, .ref 12, .ref 510303]), (510300, .arr (.s .net) true), (9, .arr .I true), (12, .arr (.s .node) true), (510303, .arr (.s .run) true)]⟩
def w29 (av : AV) (x : HP z17.ps) (n : Nat) (v : y8o.den) (K : Ks (CR z17)) : Option (CR z17) := z5q v.2.1 (fun l1_1 => y5v.at none (((), (), ()), (((), (), (), (), ()), ((), (), (), (), ()), v.2.2.2.2.1, v.2.2.2.2.2.1, v.2.2.2.2.2.2.1, l1_1, ())) (K (.exit 2))) n v.1.2.2.2.1 v.2.2.2.2.2.2.2.1
def y6y (av : AV) (x : HP z17.ps) : Hdl (CR z17) := hnd [.b 3 3 510303 (.s .run)] y8o (w29 av x)
theorem w3x : LP z17 Tryz.f135 [1] y6y := lp_ok (W := []) (H := []) (xs := [y5v]) y34 trivial rfl (fun av x v K => by kernel_rfl) (fun av x n v K => by kernel_rfl)
theorem wg1 : z17.Ok Tryz.prog := fn_ok (k := z17) (fn := Tryz.f135) (W := []) (H := [y6x, y6y]) Tryz.func135 y34 ⟨w3w, w3x, trivial⟩ rfl rfl (fun av x => by kernel_rfl)
def zs9 (r : GReq) : Option GReq := if decide (r.kind = 1) = true then (some (GReq.mk r.kind 0 0 0 0 0 r.data (GAsk.mk 0 0 0) 0)) else (if decide (r.kind = 2) = true then (some (GReq.mk r.kind r.who r.case r.task 0 0 [] (GAsk.mk 0 0 0) 0)) else (if decide (r.kind = 3) = true then (some (GReq.mk r.kind 0 r.case r.task r.var r.num [] (GAsk.mk 0 0 0) 0)) else (if decide (r.kind = 4) = true then (some (GReq.mk r.kind 0 r.case 0 0 0 [] (GAsk.mk 0 0 0) 0)) else (if decide (r.kind = 5) = true then (some (GReq.mk r.kind 0 0 0 0 0 r.data r.if_ r.ans)) else (some (GReq.mk r.kind 0 0 0 0 0 [] (GAsk.mk 0 0 0) 0))))))
def y3i : Con := ⟨137, [.v (.s .req) false], [((.s .req), false)], [], fun x => zs9 x.1⟩
def wa0 : Fs := ⟨[], [], []⟩
theorem wc5 : wa0.Ok Tryz.prog := fs0
theorem wg2 : y3i.Ok Tryz.prog := fn_ok (k := y3i) (fn := Tryz.f137) (W := []) (H := []) Tryz.func137 wc5 trivial rfl rfl (fun av x => by kernel_rfl)
def z4r (a : GReq) (b : GReq) : Option Bool := if decide (a.kind = b.kind) = true then (if decide (a.who = b.who) = true then (if decide (a.case = b.case) = true then (if decide (a.task = b.task) = true then (if decide (a.var = b.var) = true then (if decide (a.num = b.num) = true then (if decide ([a.if_.op, a.if_.var, a.if_.k] = [b.if_.op, b.if_.var, b.if_.k]) = true then (some (decide (a.ans = b.ans))) else (some false)) else (some false)) else (some false)) else (some false)) else (some false)) else (some false)) else (some false)
def z3d (a : GReq) (b : GReq) (kx0_0 : Option Bool) : Nat → Int → Option Bool
  | 0, _ => none
  | n0 + 1, s0_0 => if decide (s0_0 < (a.data.length : Int)) = true then ((getI a.data s0_0).bind fun x3 => ((getI b.data s0_0).bind fun x4 => (if decide (x3 = x4) = true then (gd (ok64 (s0_0 + 1)) ((z3d a b kx0_0 n0) (s0_0 + 1))) else (some false)))) else (kx0_0)
def zt1 (a : GReq) (b : GReq) : Option Bool := if decide ((a.data.length : Int) = (b.data.length : Int)) = true then (z3d a b (z4r a b) FUEL 0) else (some false)
def z50 : Con := ⟨136, [.v (.s .req) false, .v (.s .req) false], [(.B, true)], [], fun x => zt1 x.1 x.2.1⟩
def wa2 : Fs := ⟨[], [], []⟩
theorem yl3 : wa2.Ok Tryz.prog := fs0
def y8q : Tmpl := ⟨[(2, .c (.bx 2 0)), (3, .c (.bx 3 0)), (5, .c .i)], [(2, .boxT (.s .req)), (3, .boxT (.s .req))]⟩
def y5x : Tmpl := ⟨[(2, .c (.bx 2 0)), (3, .c (.bx 3 0))], [(2, .boxT (.s .req)), (3, .boxT (.s .req))]⟩
def w2b (av : AV) (x : HP z50.ps) (n : Nat) (v : y8q.den) (K : Ks (CR z50)) : Option (CR z50) := z3d v.2.1 v.2.2.1 (y5x.at none (((), (), ()), (v.2.1, v.2.2.1, ())) (K (.exit 0))) n v.1.2.2.1
def y70 (av : AV) (x : HP z50.ps) : Hdl (CR z50) := hnd [] y8q (w2b av x)
theorem w3z : LP z50 Tryz.f136 [0] y70 := lp_ok (W := []) (H := []) (xs := [y5x]) yl3 trivial rfl (fun av x v K => by kernel_rfl) (fun av x n v K => by kernel_rfl)
theorem wg4 : z50.Ok Tryz.prog := fn_ok (k := z50) (fn := Tryz.f136) (W := []) (H := [y70]) Tryz.func136 yl3 ⟨w3z, trivial⟩ rfl rfl (fun av x => by kernel_rfl)
def ze7 (r : GReq) : Option Bool := (z03 r.kind 1 5).bind fun x1 => (if x1 = true then ((zs9 r).bind fun x3 => ((zt1 r x3).bind fun x4 => (if x4 = true then ((z03 r.who 0 4).bind fun x6 => (if x6 = true then ((z03 r.case 0 4).bind fun x8 => (if x8 = true then ((z03 r.task 0 5).bind fun x10 => (if x10 = true then ((z03 r.var (-1) 2).bind fun x12 => (if x12 = true then ((z03 r.num (-99) 99).bind fun x14 => (if x14 = true then ((z61 r.if_).bind fun x16 => (if x16 = true then ((z03 r.ans 0 2).bind fun x18 => (if x18 = true then (if decide (r.kind = 1) = true then ((z2n r.data).bind fun x21 => (some (true == x21))) else ((z2n r.data).bind fun x22 => (some ((decide (r.kind = 5)) == x22)))) else (some false))) else (some false))) else (some false))) else (some false))) else (some false))) else (some false))) else (some false))) else (some false)))) else (some false))
def zu8 : Con := ⟨63, [.v (.s .req) false], [(.B, true)], [], fun x => ze7 x.1⟩
def w2r : Fs := ⟨[z0n, y3i, z50, z84, z15], [], []⟩
theorem w3b : w2r.Ok Tryz.prog := (fsK z0x (fsK wg2 (fsK wg4 (fsK zm8 (fsK z66 fs0)))))
theorem w46 : zu8.Ok Tryz.prog := fn_ok (k := zu8) (fn := Tryz.f63) (W := []) (H := []) Tryz.func63 w3b trivial rfl rfl (fun av x => by kernel_rfl)
def zs7 (h : GHouse) (r : GReq) : Option (GHouse × Int) := if decide ((h.runs.length : Int) ≤ r.case) = true then (some (h, 2)) else ((getI h.runs r.case).bind fun x2 => ((getI h.nets x2.net).bind fun x3 => (if decide (r.kind = 2) = true then ((z6n x3 h.people x2.case r.task r.who).bind fun x5 => (if x5.2 = true then ((getI h.runs r.case).bind fun x7 => (some ((GHouse.mk h.nets h.people h.tree (h.runs.set r.case.toNat (GRun.mk x7.net x5.1))), 1))) else (some (h, 3)))) else (if decide (r.kind = 3) = true then ((z9a x3 x2.case r.task r.var r.num).bind fun x9 => (if x9.2 = true then ((getI h.runs r.case).bind fun x11 => (some ((GHouse.mk h.nets h.people h.tree (h.runs.set r.case.toNat (GRun.mk x11.net x9.1))), 1))) else (some (h, 3)))) else ((zk6 x3 x2.case).bind fun x12 => (if x12.2 = true then ((getI h.runs r.case).bind fun x14 => (some ((GHouse.mk h.nets h.people h.tree (h.runs.set r.case.toNat (GRun.mk x14.net x12.1))), 1))) else (some (h, 3))))))))
def y3h : Con := ⟨188, [.v (.s .house) true, .v (.s .req) false], [((.s .house), true), (.I, true)], [], fun x => zs7 x.1 x.2.1⟩
def w9y : Fs := ⟨[zd3, zk1, y0h], [], []⟩
theorem wc4 : w9y.Ok Tryz.prog := (fsK y82 (fsK yd1 (fsK w7g fs0)))
theorem wg0 : y3h.Ok Tryz.prog := fn_ok (k := y3h) (fn := Tryz.f188) (W := []) (H := []) Tryz.func188 wc4 trivial rfl rfl (fun av x => by kernel_rfl)
def y3s (h : GHouse) (r : GReq) : Option (GHouse × Int) := if decide (r.kind = 1) = true then (if decide ((h.runs.length : Int) = 5) = true then (some (h, 4)) else ((zs3 h.tree r.data).bind fun x3 => (if decide ((h.nets.length : Int) ≤ x3) = true then ((getI h.nets 0).bind fun x5 => ((z8p x5 r.data).bind fun x6 => (gd (h.runs.length + [(GRun.mk 0 x6)].length ≤ SMALL) (some ((GHouse.mk h.nets h.people h.tree (h.runs ++ [(GRun.mk 0 x6)])), 1))))) else ((getI h.nets x3).bind fun x8 => ((z8p x8 r.data).bind fun x9 => (gd (h.runs.length + [(GRun.mk x3 x9)].length ≤ SMALL) (some ((GHouse.mk h.nets h.people h.tree (h.runs ++ [(GRun.mk x3 x9)])), 1)))))))) else (if decide (r.kind = 5) = true then ((z78 h.tree r.data r.if_ r.ans).bind fun x12 => (if x12.2 = true then (some ((GHouse.mk h.nets h.people x12.1 h.runs), 1)) else (some (h, 3)))) else ((zs7 h r).bind fun x14 => (some (x14.1, x14.2))))
def yg5 : Con := ⟨134, [.v (.s .house) true, .v (.s .req) false], [((.s .house), true), (.I, true)], [], fun x => y3s x.1 x.2.1⟩
def wx9 : Fs := ⟨[y3e, zq6, z3x, y3h], [], []⟩
theorem wy3 : wx9.Ok Tryz.prog := (fsK wf6 (fsK yn3 (fsK yn7 (fsK wg0 fs0))))
theorem wz9 : yg5.Ok Tryz.prog := fn_ok (k := yg5) (fn := Tryz.f134) (W := []) (H := []) Tryz.func134 wy3 trivial rfl rfl (fun av x => by kernel_rfl)
def z6h (x1 : (List Int)) (x2 : (List GNode)) (l0_1 : List GNet) (l1_1 : List GRun) : Option GHouse := some (GHouse.mk l0_1 x1 x2 l1_1)
def z1k (p1_0 : List GRun) (p1_1 : Int) (kx1_0 : List GRun → Option GHouse) : Nat → Int → List GRun → Option GHouse
  | 0, _, _ => none
  | n1 + 1, s1_0, l1_1 => if decide (s1_0 < p1_1) = true then ((getI p1_0 s1_0).bind fun x9 => ((z08 x9.case).bind fun x10 => (gd (l1_1.length + [(GRun.mk x9.net x10)].length ≤ SMALL) (gd (ok64 (s1_0 + 1)) ((z1k p1_0 p1_1 kx1_0 n1) (s1_0 + 1) (l1_1 ++ [(GRun.mk x9.net x10)])))))) else (kx1_0 l1_1)
def z4g (h : GHouse) (x1 : (List Int)) (x2 : (List GNode)) (l0_1 : List GNet) : Option GHouse := z1k h.runs (h.runs.length : Int) (z6h x1 x2 l0_1) FUEL 0 ([] : List GRun)
def z1j (p0_0 : List GNet) (p0_1 : Int) (kx0_0 : List GNet → Option GHouse) : Nat → Int → List GNet → Option GHouse
  | 0, _, _ => none
  | n0 + 1, s0_0, l0_1 => if decide (s0_0 < p0_1) = true then ((getI p0_0 s0_0).bind fun x4 => ((z73 x4).bind fun x5 => (gd (l0_1.length + [x5].length ≤ SMALL) (gd (ok64 (s0_0 + 1)) ((z1j p0_0 p0_1 kx0_0 n0) (s0_0 + 1) (l0_1 ++ [x5])))))) else (kx0_0 l0_1)
def z2m (h : GHouse) : Option GHouse := (z0l h.people).bind fun x1 => ((z6l h.tree).bind fun x2 => (z1j h.nets (h.nets.length : Int) (z4g h x1 x2) FUEL 0 ([] : List GNet)))
def z09 : Con := ⟨132, [.v (.s .house) false], [((.s .house), true)], [], fun x => z2m x.1⟩
def y67 : Fs := ⟨[z1s, z1c, z16, z33], [], []⟩
theorem z7z : y67.Ok Tryz.prog := (fsK z3e (fsK y1w (fsK yh7 (fsK z6e fs0))))
def zh0 : Tmpl := ⟨[(1, .c (.bx 1 0)), (2, .c (.bx 2 0)), (3, .c (.bx 3 0)), (16, .c (.s (.s .net))), (17, .c .i), (18, .c .i)], [(1, .boxT (.s .house)), (2, .box [.nl, .nl, .nl, .nl]), (3, .box [.ref 510300, .ref 10, .ref 13, .nl]), (510300, .arr (.s .net) true), (10, .arr .I true), (13, .arr (.s .node) true)]⟩
def zb2 : Tmpl := ⟨[(1, .c (.bx 1 0)), (2, .c (.bx 2 0)), (3, .c (.bx 3 0))], [(1, .boxT (.s .house)), (2, .box [.nl, .nl, .nl, .nl]), (3, .box [.ref 510300, .ref 10, .ref 13, .nl]), (510300, .arr (.s .net) true), (10, .arr .I true), (13, .arr (.s .node) true)]⟩
def y2r (av : AV) (x : HP z09.ps) (n : Nat) (v : zh0.den) (K : Ks (CR z09)) : Option (CR z09) := z1j v.1.2.2.2.1 v.1.2.2.2.2.1 (fun l0_1 => zb2.at none (((), (), (), ()), (v.2.1, ((), (), (), (), ()), ((), (), (), (), ()), l0_1, v.2.2.2.2.2.1, v.2.2.2.2.2.2.1, ())) (K (.exit 0))) n v.1.2.2.2.2.2.1 v.2.2.2.2.1
def zc1 (av : AV) (x : HP z09.ps) : Hdl (CR z09) := hnd [.b 3 0 510300 (.s .net)] zh0 (y2r av x)
theorem y3j : LP z09 Tryz.f132 [0] zc1 := lp_ok (W := []) (H := []) (xs := [zb2]) z7z trivial rfl (fun av x v K => by kernel_rfl) (fun av x n v K => by kernel_rfl)
def zh1 : Tmpl := ⟨[(2, .c (.bx 2 0)), (3, .c (.bx 3 0)), (31, .c (.s (.s .run))), (32, .c .i), (33, .c .i)], [(2, .box [.nl, .nl, .nl, .nl]), (3, .box [.ref 510300, .ref 10, .ref 13, .ref 510303]), (510300, .arr (.s .net) true), (10, .arr .I true), (13, .arr (.s .node) true), (510303, .arr (.s .run) true)]⟩
def zb3 : Tmpl := ⟨[(2, .c (.bx 2 0)), (3, .c (.bx 3 0))], [(2, .box [.nl, .nl, .nl, .nl]), (3, .box [.ref 510300, .ref 10, .ref 13, .ref 510303]), (510300, .arr (.s .net) true), (10, .arr .I true), (13, .arr (.s .node) true), (510303, .arr (.s .run) true)]⟩
def y2s (av : AV) (x : HP z09.ps) (n : Nat) (v : zh1.den) (K : Ks (CR z09)) : Option (CR z09) := z1k v.1.2.2.1 v.1.2.2.2.1 (fun l1_1 => zb3.at none (((), (), ()), (((), (), (), (), ()), ((), (), (), (), ()), v.2.2.2.1, v.2.2.2.2.1, v.2.2.2.2.2.1, l1_1, ())) (K (.exit 2))) n v.1.2.2.2.2.1 v.2.2.2.2.2.2.1
def zc2 (av : AV) (x : HP z09.ps) : Hdl (CR z09) := hnd [.b 3 3 510303 (.s .run)] zh1 (y2s av x)
theorem y3k : LP z09 Tryz.f132 [1] zc2 := lp_ok (W := []) (H := []) (xs := [zb3]) z7z trivial rfl (fun av x v K => by kernel_rfl) (fun av x n v K => by kernel_rfl)
theorem y7t : z09.Ok Tryz.prog := fn_ok (k := z09) (fn := Tryz.f132) (W := []) (H := [zc1, zc2]) Tryz.func132 z7z ⟨y3j, y3k, trivial⟩ rfl rfl (fun av x => by kernel_rfl)
def y4q  : Option Int := some (-1)
def z5h (s : List Int) (p : Int → Option Bool) (p0_0 : Int) (kx0_0 : Option Int) : Nat → Int → Option Int
  | 0, _ => none
  | n0 + 1, s0_0 => if decide (s0_0 < p0_0) = true then ((getI s s0_0).bind fun x2 => ((p x2).bind fun x3 => (if x3 = true then (some s0_0) else (gd (ok64 (s0_0 + 1)) ((z5h s p p0_0 kx0_0 n0) (s0_0 + 1)))))) else (kx0_0)
def zr1 (s : List Int) (p : Int → Option Bool) : Option Int := z5h s p (s.length : Int) y4q FUEL 0
def z3t : Con := ⟨175, [.v (.sl .I) false, .fn .I], [(.I, true)], [], fun x => zr1 x.1 x.2.1⟩
def w92 : Fs := ⟨[], [], []⟩
theorem yj9 : w92.Ok Tryz.prog := fs0
def y8b : Tmpl := ⟨[(0, .c (.s .I)), (1, .c .fp), (7, .c .i), (8, .c .i)], []⟩
def y5j : Tmpl := ⟨[], []⟩
def w1w (av : AV) (x : HP z3t.ps) (n : Nat) (v : y8b.den) (K : Ks (CR z3t)) : Option (CR z3t) := z5h v.1.1 x.2.1 v.1.2.2.1 (y5j.at (fpOf z3t.ps x av) ((), ()) (K (.exit 0))) n v.1.2.2.2.1
def y6l (av : AV) (x : HP z3t.ps) : Hdl (CR z3t) := hnd [] y8b (w1w av x)
theorem w3k : LP z3t Tryz.f175 [0] y6l := lp_ok (W := []) (H := []) (xs := [y5j]) yj9 trivial rfl (fun av x v K => by kernel_rfl) (fun av x n v K => by kernel_rfl)
theorem we2 : z3t.Ok Tryz.prog := fn_ok (k := z3t) (fn := Tryz.f175) (W := []) (H := [y6l]) Tryz.func175 yj9 ⟨w3k, trivial⟩ rfl rfl (fun av x => by kernel_rfl)
def z2f (s : List Int) (p : Int → Option Bool) : Option Bool := (zr1 s p).bind fun x1 => (some (decide (0 ≤ x1)))
def z4n : Con := ⟨118, [.v (.sl .I) false, .fn .I], [(.B, true)], [], fun x => z2f x.1 x.2.1⟩
def w0b : Fs := ⟨[z3t], [], []⟩
theorem w0l : w0b.Ok Tryz.prog := (fsK we2 fs0)
theorem z7j : z4n.Ok Tryz.prog := fn_ok (k := z4n) (fn := Tryz.f118) (W := []) (H := []) Tryz.func118 w0l trivial rfl rfl (fun av x => by kernel_rfl)
def zp0  : Option Int := some (-1)
def z35 (s : List GTask) (p : GTask → Option Bool) (p0_0 : Int) (kx0_0 : Option Int) : Nat → Int → Option Int
  | 0, _ => none
  | n0 + 1, s0_0 => if decide (s0_0 < p0_0) = true then ((getI s s0_0).bind fun x2 => ((p x2).bind fun x3 => (if x3 = true then (some s0_0) else (gd (ok64 (s0_0 + 1)) ((z35 s p p0_0 kx0_0 n0) (s0_0 + 1)))))) else (kx0_0)
def z8k (s : List GTask) (p : GTask → Option Bool) : Option Int := z35 s p (s.length : Int) zp0 FUEL 0
def z1b : Con := ⟨176, [.v (.sl (.s .task)) false, .fn (.s .task)], [(.I, true)], [], fun x => z8k x.1 x.2.1⟩
def yr6 : Fs := ⟨[], [], []⟩
theorem y17 : yr6.Ok Tryz.prog := fs0
def zv9 : Tmpl := ⟨[(0, .c (.s (.s .task))), (1, .c .fp), (7, .c .i), (8, .c .i)], []⟩
def zp6 : Tmpl := ⟨[], []⟩
def yf0 (av : AV) (x : HP z1b.ps) (n : Nat) (v : zv9.den) (K : Ks (CR z1b)) : Option (CR z1b) := z35 v.1.1 x.2.1 v.1.2.2.1 (zp6.at (fpOf z1b.ps x av) ((), ()) (K (.exit 0))) n v.1.2.2.2.1
def zu0 (av : AV) (x : HP z1b.ps) : Hdl (CR z1b) := hnd [] zv9 (yf0 av x)
theorem yg7 : LP z1b Tryz.f176 [0] zu0 := lp_ok (W := []) (H := []) (xs := [zp6]) y17 trivial rfl (fun av x v K => by kernel_rfl) (fun av x n v K => by kernel_rfl)
theorem yu5 : z1b.Ok Tryz.prog := fn_ok (k := z1b) (fn := Tryz.f176) (W := []) (H := [zu0]) Tryz.func176 y17 ⟨yg7, trivial⟩ rfl rfl (fun av x => by kernel_rfl)
def z6a (s : List GTask) (p : GTask → Option Bool) : Option Bool := (z8k s p).bind fun x1 => (some (decide (0 ≤ x1)))
def z90 : Con := ⟨123, [.v (.sl (.s .task)) false, .fn (.s .task)], [(.B, true)], [], fun x => z6a x.1 x.2.1⟩
def y9m : Fs := ⟨[z1b], [], []⟩
theorem y9t : y9m.Ok Tryz.prog := (fsK yu5 fs0)
theorem ya0 : z90.Ok Tryz.prog := fn_ok (k := z90) (fn := Tryz.f123) (W := []) (H := []) Tryz.func123 y9t trivial rfl rfl (fun av x => by kernel_rfl)
def zv0  : Option Int := some (-1)
def z3h (s : List GNet) (p : GNet → Option Bool) (p0_0 : Int) (kx0_0 : Option Int) : Nat → Int → Option Int
  | 0, _ => none
  | n0 + 1, s0_0 => if decide (s0_0 < p0_0) = true then ((getI s s0_0).bind fun x2 => ((p x2).bind fun x3 => (if x3 = true then (some s0_0) else (gd (ok64 (s0_0 + 1)) ((z3h s p p0_0 kx0_0 n0) (s0_0 + 1)))))) else (kx0_0)
def z9k (s : List GNet) (p : GNet → Option Bool) : Option Int := z3h s p (s.length : Int) zv0 FUEL 0
def z1r : Con := ⟨180, [.v (.sl (.s .net)) false, .fn (.s .net)], [(.I, true)], [], fun x => z9k x.1 x.2.1⟩
def w0c : Fs := ⟨[], [], []⟩
theorem y45 : w0c.Ok Tryz.prog := fs0
def zz3 : Tmpl := ⟨[(0, .c (.s (.s .net))), (1, .c .fp), (7, .c .i), (8, .c .i)], []⟩
def zw4 : Tmpl := ⟨[], []⟩
def yi4 (av : AV) (x : HP z1r.ps) (n : Nat) (v : zz3.den) (K : Ks (CR z1r)) : Option (CR z1r) := z3h v.1.1 x.2.1 v.1.2.2.1 (zw4.at (fpOf z1r.ps x av) ((), ()) (K (.exit 0))) n v.1.2.2.2.1
def zx4 (av : AV) (x : HP z1r.ps) : Hdl (CR z1r) := hnd [] zz3 (yi4 av x)
theorem yl8 : LP z1r Tryz.f180 [0] zx4 := lp_ok (W := []) (H := []) (xs := [zw4]) y45 trivial rfl (fun av x v K => by kernel_rfl) (fun av x n v K => by kernel_rfl)
theorem w18 : z1r.Ok Tryz.prog := fn_ok (k := z1r) (fn := Tryz.f180) (W := []) (H := [zx4]) Tryz.func180 y45 ⟨yl8, trivial⟩ rfl rfl (fun av x => by kernel_rfl)
def z71 (s : List GNet) (p : GNet → Option Bool) : Option Bool := (z9k s p).bind fun x1 => (some (decide (0 ≤ x1)))
def z9t : Con := ⟨126, [.v (.sl (.s .net)) false, .fn (.s .net)], [(.B, true)], [], fun x => z71 x.1 x.2.1⟩
def yf6 : Fs := ⟨[z1r], [], []⟩
theorem yg0 : yf6.Ok Tryz.prog := (fsK w18 fs0)
theorem yh5 : z9t.Ok Tryz.prog := fn_ok (k := z9t) (fn := Tryz.f126) (W := []) (H := []) Tryz.func126 yg0 trivial rfl rfl (fun av x => by kernel_rfl)
def zo9  : Option Int := some (-1)
def z34 (s : List GItem) (p : GItem → Option Bool) (p0_0 : Int) (kx0_0 : Option Int) : Nat → Int → Option Int
  | 0, _ => none
  | n0 + 1, s0_0 => if decide (s0_0 < p0_0) = true then ((getI s s0_0).bind fun x2 => ((p x2).bind fun x3 => (if x3 = true then (some s0_0) else (gd (ok64 (s0_0 + 1)) ((z34 s p p0_0 kx0_0 n0) (s0_0 + 1)))))) else (kx0_0)
def z8j (s : List GItem) (p : GItem → Option Bool) : Option Int := z34 s p (s.length : Int) zo9 FUEL 0
def z1a : Con := ⟨169, [.v (.sl (.s .item)) false, .fn (.s .item)], [(.I, true)], [], fun x => z8j x.1 x.2.1⟩
def yr5 : Fs := ⟨[], [], []⟩
theorem y16 : yr5.Ok Tryz.prog := fs0
def zv8 : Tmpl := ⟨[(0, .c (.s (.s .item))), (1, .c .fp), (7, .c .i), (8, .c .i)], []⟩
def zp5 : Tmpl := ⟨[], []⟩
def ye9 (av : AV) (x : HP z1a.ps) (n : Nat) (v : zv8.den) (K : Ks (CR z1a)) : Option (CR z1a) := z34 v.1.1 x.2.1 v.1.2.2.1 (zp5.at (fpOf z1a.ps x av) ((), ()) (K (.exit 0))) n v.1.2.2.2.1
def zt9 (av : AV) (x : HP z1a.ps) : Hdl (CR z1a) := hnd [] zv8 (ye9 av x)
theorem yg6 : LP z1a Tryz.f169 [0] zt9 := lp_ok (W := []) (H := []) (xs := [zp5]) y16 trivial rfl (fun av x v K => by kernel_rfl) (fun av x n v K => by kernel_rfl)
theorem yu4 : z1a.Ok Tryz.prog := fn_ok (k := z1a) (fn := Tryz.f169) (W := []) (H := [zt9]) Tryz.func169 y16 ⟨yg6, trivial⟩ rfl rfl (fun av x => by kernel_rfl)
def z69 (s : List GItem) (p : GItem → Option Bool) : Option Bool := (z8j s p).bind fun x1 => (some (decide (0 ≤ x1)))
def z8z : Con := ⟨107, [.v (.sl (.s .item)) false, .fn (.s .item)], [(.B, true)], [], fun x => z69 x.1 x.2.1⟩
def y9l : Fs := ⟨[z1a], [], []⟩
theorem y9s : y9l.Ok Tryz.prog := (fsK yu4 fs0)
theorem y9z : z8z.Ok Tryz.prog := fn_ok (k := z8z) (fn := Tryz.f107) (W := []) (H := []) Tryz.func107 y9s trivial rfl rfl (fun av x => by kernel_rfl)
def yx7  : Option Int := some (-1)
def za4 (s : List Int) (v : Int) (p0_0 : Int) (kx0_0 : Option Int) : Nat → Int → Option Int
  | 0, _ => none
  | n0 + 1, s0_0 => if decide (s0_0 < p0_0) = true then ((getI s s0_0).bind fun x2 => (if decide (v = x2) = true then (some s0_0) else (gd (ok64 (s0_0 + 1)) ((za4 s v p0_0 kx0_0 n0) (s0_0 + 1))))) else (kx0_0)
def ym5 (s : List Int) (v : Int) : Option Int := za4 s v (s.length : Int) yx7 FUEL 0
def zc9 : Con := ⟨163, [.v (.sl .I) false, .v .I false], [(.I, true)], [], fun x => ym5 x.1 x.2.1⟩
def v41 : Fs := ⟨[], [], []⟩
theorem wn7 : v41.Ok Tryz.prog := fs0
def w51 : Tmpl := ⟨[(0, .c (.s .I)), (1, .c .i), (7, .c .i), (8, .c .i)], []⟩
def yz2 : Tmpl := ⟨[], []⟩
def ww6 (av : AV) (x : HP zc9.ps) (n : Nat) (v : w51.den) (K : Ks (CR zc9)) : Option (CR zc9) := za4 v.1.1 v.1.2.1 v.1.2.2.1 (yz2.at none ((), ()) (K (.exit 0))) n v.1.2.2.2.1
def w3e (av : AV) (x : HP zc9.ps) : Hdl (CR zc9) := hnd [] w51 (ww6 av x)
theorem wz3 : LP zc9 Tryz.f163 [0] w3e := lp_ok (W := []) (H := []) (xs := [yz2]) wn7 trivial rfl (fun av x v K => by kernel_rfl) (fun av x n v K => by kernel_rfl)
theorem v57 : zc9.Ok Tryz.prog := fn_ok (k := zc9) (fn := Tryz.f163) (W := []) (H := [w3e]) Tryz.func163 wn7 ⟨wz3, trivial⟩ rfl rfl (fun av x => by kernel_rfl)
def za2 (s : List Int) (v : Int) : Option Bool := (ym5 s v).bind fun x1 => (some (decide (0 ≤ x1)))
def zm0 : Con := ⟨92, [.v (.sl .I) false, .v .I false], [(.B, true)], [], fun x => za2 x.1 x.2.1⟩
def wl1 : Fs := ⟨[zc9], [], []⟩
theorem wn5 : wl1.Ok Tryz.prog := (fsK v57 fs0)
theorem y7s : zm0.Ok Tryz.prog := fn_ok (k := zm0) (fn := Tryz.f92) (W := []) (H := []) Tryz.func92 wn5 trivial rfl rfl (fun av x => by kernel_rfl)
def y7d  : Option Int := some (-1)
def z6f (s : List GDid) (v : GDid) (p0_0 : Int) (kx0_0 : Option Int) : Nat → Int → Option Int
  | 0, _ => none
  | n0 + 1, s0_0 => if decide (s0_0 < p0_0) = true then ((getI s s0_0).bind fun x2 => (if decide ([v.task, v.who] = [x2.task, x2.who]) = true then (some s0_0) else (gd (ok64 (s0_0 + 1)) ((z6f s v p0_0 kx0_0 n0) (s0_0 + 1))))) else (kx0_0)
def zy1 (s : List GDid) (v : GDid) : Option Int := z6f s v (s.length : Int) y7d FUEL 0
def z5s : Con := ⟨204, [.v (.sl (.s .did)) false, .v (.s .did) false], [(.I, true)], [], fun x => zy1 x.1 x.2.1⟩
def wl2 : Fs := ⟨[], [], []⟩
theorem yw0 : wl2.Ok Tryz.prog := fs0
def yd5 : Tmpl := ⟨[(0, .c (.s (.s .did))), (3, .c (.bx 3 0)), (7, .c .i), (8, .c .i)], [(3, .boxT (.s .did))]⟩
def y8r : Tmpl := ⟨[], []⟩
def w55 (av : AV) (x : HP z5s.ps) (n : Nat) (v : yd5.den) (K : Ks (CR z5s)) : Option (CR z5s) := z6f v.1.1 v.2.1 v.1.2.2.1 (y8r.at none ((), ()) (K (.exit 0))) n v.1.2.2.2.1
def yb4 (av : AV) (x : HP z5s.ps) : Hdl (CR z5s) := hnd [] yd5 (w55 av x)
theorem w6q : LP z5s Tryz.f204 [0] yb4 := lp_ok (W := []) (H := []) (xs := [y8r]) yw0 trivial rfl (fun av x v K => by kernel_rfl) (fun av x n v K => by kernel_rfl)
theorem wr5 : z5s.Ok Tryz.prog := fn_ok (k := z5s) (fn := Tryz.f204) (W := []) (H := [yb4]) Tryz.func204 yw0 ⟨w6q, trivial⟩ rfl rfl (fun av x => by kernel_rfl)
def zu9 (s : List GDid) (v : GDid) : Option Bool := (zy1 s v).bind fun x1 => (some (decide (0 ≤ x1)))
def zu5 : Con := ⟨170, [.v (.sl (.s .did)) false, .v (.s .did) false], [(.B, true)], [], fun x => zu9 x.1 x.2.1⟩
def w2i : Fs := ⟨[z5s], [], []⟩
theorem w33 : w2i.Ok Tryz.prog := (fsK wr5 fs0)
theorem w41 : zu5.Ok Tryz.prog := fn_ok (k := zu5) (fn := Tryz.f170) (W := []) (H := []) Tryz.func170 w33 trivial rfl rfl (fun av x => by kernel_rfl)
def yx6  : Option Bool := some true
def za3 (s1 : List Int) (s2 : List Int) (p0_0 : Int) (kx0_0 : Option Bool) : Nat → Int → Option Bool
  | 0, _ => none
  | n0 + 1, s0_0 => if decide (s0_0 < p0_0) = true then ((getI s1 s0_0).bind fun x3 => ((getI s2 s0_0).bind fun x4 => (if decide (x3 = x4) = true then (gd (ok64 (s0_0 + 1)) ((za3 s1 s2 p0_0 kx0_0 n0) (s0_0 + 1))) else (some false)))) else (kx0_0)
def ym4 (s1 : List Int) (s2 : List Int) : Option Bool := if decide ((s1.length : Int) = (s2.length : Int)) = true then (za3 s1 s2 (s1.length : Int) yx6 FUEL 0) else (some false)
def zc8 : Con := ⟨192, [.v (.sl .I) false, .v (.sl .I) false], [(.B, true)], [], fun x => ym4 x.1 x.2.1⟩
def v40 : Fs := ⟨[], [], []⟩
theorem wn6 : v40.Ok Tryz.prog := fs0
def w50 : Tmpl := ⟨[(0, .c (.s .I)), (1, .c (.s .I)), (12, .c .i), (13, .c .i)], []⟩
def yz1 : Tmpl := ⟨[], []⟩
def ww5 (av : AV) (x : HP zc8.ps) (n : Nat) (v : w50.den) (K : Ks (CR zc8)) : Option (CR zc8) := za3 v.1.1 v.1.2.1 v.1.2.2.1 (yz1.at none ((), ()) (K (.exit 0))) n v.1.2.2.2.1
def w3d (av : AV) (x : HP zc8.ps) : Hdl (CR zc8) := hnd [] w50 (ww5 av x)
theorem wz2 : LP zc8 Tryz.f192 [0] w3d := lp_ok (W := []) (H := []) (xs := [yz1]) wn6 trivial rfl (fun av x v K => by kernel_rfl) (fun av x n v K => by kernel_rfl)
theorem v56 : zc8.Ok Tryz.prog := fn_ok (k := zc8) (fn := Tryz.f192) (W := []) (H := [w3d]) Tryz.func192 wn6 ⟨wz2, trivial⟩ rfl rfl (fun av x => by kernel_rfl)
def y0m (n : Int) : Option Bool := (z54 n).bind fun x1 => (some (!x1))
def y0t : FCon := ⟨162, .I, [], fun z c => y0m z ⟩
def w5m : Fs := ⟨[z7l], [], []⟩
theorem w6d : w5m.Ok Tryz.prog := (fsK zl4 fs0)
theorem w77 : y0t.Ok Tryz.prog := FCon.ok (fn_ok (k := y0t.con) (fn := Tryz.f162) (W := []) (H := []) Tryz.func162 w6d trivial rfl rfl (fun av x => by kernel_rfl))
def z39 (data : List Int) : Option Bool := if decide ((data.length : Int) = 3) = true then ((z2f data (fun z => y0m z )).bind fun x2 => (some (!x2))) else (some false)
def z53 : Con := ⟨91, [.v (.sl .I) false], [(.B, true)], [], fun x => z39 x.1⟩
def wl4 : Fs := ⟨[z4n], [y0t], []⟩
theorem wn8 : wl4.Ok Tryz.prog := (fsK z7j (fsF w77 fs0))
theorem z6x : z53.Ok Tryz.prog := fn_ok (k := z53) (fn := Tryz.f91) (W := []) (H := []) Tryz.func91 wn8 trivial rfl rfl (fun av x => by kernel_rfl)
def z2b (e : GAsk) (data : List Int) : Option Bool := (z6w e).bind fun x1 => (if x1 = true then ((z39 data).bind fun x3 => (if x3 = true then (if decide (e.op = 1) = true then ((getI data e.var).bind fun x6 => (some (decide (x6 < e.k)))) else (if decide (e.op = 2) = true then ((getI data e.var).bind fun x8 => (some (decide (x8 = e.k)))) else (if decide (e.op = 3) = true then ((getI data e.var).bind fun x10 => (some (decide (e.k < x10)))) else (some true)))) else (some false))) else (some false))
def z46 : Con := ⟨120, [.v (.s .ask) false, .v (.sl .I) false], [(.B, true)], [], fun x => z2b x.1 x.2.1⟩
def w2l : Fs := ⟨[zm1, z53], [], []⟩
theorem w36 : w2l.Ok Tryz.prog := (fsK y7u (fsK z6x fs0))
theorem z6u : z46.Ok Tryz.prog := fn_ok (k := z46) (fn := Tryz.f120) (W := []) (H := []) Tryz.func120 w36 trivial rfl rfl (fun av x => by kernel_rfl)
def y1l  : Option Bool := some true
def z57 (list : List Int) (places : Int) (without : List Int) (p0_0 : Int) (kx0_0 : Option Bool) : Nat → Int → Int → Option Bool
  | 0, _, _ => none
  | n0 + 1, s0_0, s0_1 => if decide (s0_0 < p0_0) = true then ((getI list s0_0).bind fun x2 => (gd (ok64 (s0_1 + 1)) (gd (ok64 (places - 1)) ((z0b x2 (s0_1 + 1) (places - 1)).bind fun x5 => (if x5 = true then ((za2 without x2).bind fun x7 => (if x7 = true then (some false) else (gd (ok64 (s0_0 + 1)) ((z57 list places without p0_0 kx0_0 n0) (s0_0 + 1) x2)))) else (some false)))))) else (kx0_0)
def z99 (list : List Int) (places : Int) (without : List Int) : Option Bool := z57 list places without (list.length : Int) y1l FUEL 0 (-1)
def z3v : Con := ⟨178, [.v (.sl .I) false, .v .I false, .v (.sl .I) false], [(.B, true)], [], fun x => z99 x.1 x.2.1 x.2.2.1⟩
def w5s : Fs := ⟨[z1z, zm0], [], []⟩
theorem ya5 : w5s.Ok Tryz.prog := (fsK z2p (fsK y7s fs0))
def y56 : Tmpl := ⟨[(1, .c .i), (2, .c (.s .I)), (7, .c .i), (10, .c (.s .I)), (11, .c .i), (12, .c .i)], []⟩
def y2f : Tmpl := ⟨[], []⟩
def yz7 (av : AV) (x : HP z3v.ps) (n : Nat) (v : y56.den) (K : Ks (CR z3v)) : Option (CR z3v) := z57 v.1.2.2.2.1 v.1.1 v.1.2.1 v.1.2.2.2.2.1 (y2f.at none ((), ()) (K (.exit 0))) n v.1.2.2.2.2.2.1 v.1.2.2.1
def y4d (av : AV) (x : HP z3v.ps) : Hdl (CR z3v) := hnd [] y56 (yz7 av x)
theorem w0v : LP z3v Tryz.f178 [0] y4d := lp_ok (W := []) (H := []) (xs := [y2f]) ya5 trivial rfl (fun av x v K => by kernel_rfl) (fun av x n v K => by kernel_rfl)
theorem w7d : z3v.Ok Tryz.prog := fn_ok (k := z3v) (fn := Tryz.f178) (W := []) (H := [y4d]) Tryz.func178 ya5 ⟨w0v, trivial⟩ rfl rfl (fun av x => by kernel_rfl)
def z76 (t : GTask) : Option Bool := (z0b (t.out.length : Int) 1 3).bind fun x21 => (some x21)
def z18 (t : GTask) (places : Int) (p0_0 : List GFlow) (p0_1 : Int) (kx0_0 : Option Bool) : Nat → Int → List Int → Option Bool
  | 0, _, _ => none
  | n0 + 1, s0_0, m0_1 => if decide (s0_0 < p0_1) = true then ((getI p0_0 s0_0).bind fun x2 => (if decide (t.split = 1) = true then (gd (ok64 (places - 1)) ((z0b x2.to 0 (places - 1)).bind fun x5 => (if x5 = true then (if decide (x2.to ∈ m0_1) = true then (some false) else ((z6w x2.if_).bind fun x8 => (if x8 = true then (if ((decide (x2.if_.op = 0)) == true) = true then (gd (ok64 (s0_0 + 1)) ((z18 t places p0_0 p0_1 kx0_0 n0) (s0_0 + 1) (insKey m0_1 x2.to))) else (some false)) else (some false)))) else (some false)))) else (gd (ok64 ((t.out.length : Int) - 1)) (gd (ok64 (places - 1)) ((z0b x2.to 0 (places - 1)).bind fun x14 => (if x14 = true then (if decide (x2.to ∈ m0_1) = true then (some false) else ((z6w x2.if_).bind fun x17 => (if x17 = true then (if ((decide (x2.if_.op = 0)) == (decide (s0_0 = ((t.out.length : Int) - 1)))) = true then (gd (ok64 (s0_0 + 1)) ((z18 t places p0_0 p0_1 kx0_0 n0) (s0_0 + 1) (insKey m0_1 x2.to))) else (some false)) else (some false)))) else (some false))))))) else (kx0_0)
def z6c (t : GTask) (places : Int) : Option Bool := z18 t places t.out (t.out.length : Int) (z76 t) FUEL 0 (insKey ([] : List Int) 0)
def z0z : Con := ⟨179, [.v (.s .task) false, .v .I false], [(.B, true)], [], fun x => z6c x.1 x.2.1⟩
def y9q : Fs := ⟨[z1z, zm1], [], []⟩
theorem zo6 : y9q.Ok Tryz.prog := (fsK z2p (fsK y7u fs0))
def zi5 : Tmpl := ⟨[(1, .c .i), (2, .c (.bx 2 0)), (5, .c (.bx 9 0)), (12, .c (.s (.s .flow))), (13, .c .i), (14, .c .i)], [(2, .boxT (.s .task)), (9, .mp)]⟩
def zh7 : Tmpl := ⟨[(2, .c (.bx 2 0))], [(2, .boxT (.s .task))]⟩
def y5z (av : AV) (x : HP z0z.ps) (n : Nat) (v : zi5.den) (K : Ks (CR z0z)) : Option (CR z0z) := z18 v.2.1 v.1.1 v.1.2.2.2.1 v.1.2.2.2.2.1 (zh7.at none (((), ()), (v.2.1, ())) (K (.exit 0))) n v.1.2.2.2.2.2.1 v.2.2.1
def zh9 (av : AV) (x : HP z0z.ps) : Hdl (CR z0z) := hnd [] zi5 (y5z av x)
theorem y61 : LP z0z Tryz.f179 [0] zh9 := lp_ok (W := []) (H := []) (xs := [zh7]) zo6 trivial rfl (fun av x v K => by kernel_rfl) (fun av x n v K => by kernel_rfl)
theorem ya2 : z0z.Ok Tryz.prog := fn_ok (k := z0z) (fn := Tryz.f179) (W := []) (H := [zh9]) Tryz.func179 zo6 ⟨y61, trivial⟩ rfl rfl (fun av x => by kernel_rfl)
def z8o (t : GTask) (places : Int) (tasks : Int) : Option Bool := (zr8 t.join).bind fun x1 => (if x1 = true then ((zr8 t.split).bind fun x3 => (if x3 = true then ((z0b (t.in_.length : Int) 1 3).bind fun x5 => (if x5 = true then ((z99 t.in_ places [1]).bind fun x7 => (if x7 = true then ((z6c t places).bind fun x9 => (if x9 = true then ((z99 t.clear places [0, 1]).bind fun x11 => (if x11 = true then ((ze2 t.role).bind fun x13 => (if x13 = true then (gd (ok64 (tasks - 1)) ((z0b t.apart (-1) (tasks - 1)).bind fun x16 => (if x16 = true then ((z0b t.all 1 3).bind fun x18 => (if x18 = true then ((z0b t.need 1 t.all).bind fun x20 => (some x20)) else (some false))) else (some false)))) else (some false))) else (some false))) else (some false))) else (some false))) else (some false))) else (some false))) else (some false))
def zj3 : Con := ⟨125, [.v (.s .task) false, .v .I false, .v .I false], [(.B, true)], [], fun x => z8o x.1 x.2.1 x.2.2.1⟩
def yr8 : Fs := ⟨[y3d, z1z, z3v, z0z, zq5], [], []⟩
theorem ys4 : yr8.Ok Tryz.prog := (fsK wf1 (fsK z2p (fsK w7d (fsK ya2 (fsK yn1 fs0)))))
theorem yu7 : zj3.Ok Tryz.prog := fn_ok (k := zj3) (fn := Tryz.f125) (W := []) (H := []) Tryz.func125 ys4 trivial rfl rfl (fun av x => by kernel_rfl)
def y0o (t : GTask) (n : GNet) : Option Bool := (z8o t n.places (n.tasks.length : Int)).bind fun x1 => (some (!x1))
def y0v : FCon := ⟨124, (.s .task), [(.s .net)], fun z c => y0o z c.1⟩
def w5p : Fs := ⟨[zj3], [], []⟩
theorem w6f : w5p.Ok Tryz.prog := (fsK yu7 fs0)
theorem w7a : y0v.Ok Tryz.prog := FCon.ok (fn_ok (k := y0v.con) (fn := Tryz.f124) (W := []) (H := []) Tryz.func124 w6f trivial rfl rfl (fun av x => by kernel_rfl))
def z86 (n : GNet) : Option Bool := (y0r n.places (n.tasks.length : Int)).bind fun x1 => (if x1 = true then ((z6a n.tasks (fun z => y0o z n)).bind fun x3 => (some (!x3))) else (some false))
def za0 : Con := ⟨52, [.v (.s .net) false], [(.B, true)], [], fun x => z86 x.1⟩
def wl9 : Fs := ⟨[y0g, z90], [y0v], []⟩
theorem wo2 : wl9.Ok Tryz.prog := (fsK w7f (fsK ya0 (fsF w7a fs0)))
theorem zz0 : za0.Ok Tryz.prog := fn_ok (k := za0) (fn := Tryz.f52) (W := []) (H := []) Tryz.func52 wo2 trivial rfl rfl (fun av x => by kernel_rfl)
def z5z (p : Int) (out : List Bool) : Option Bool := (getI out p).bind fun x1 => (some x1)
def z8d : FCon := ⟨217, .I, [(.sl .B)], fun z c => z5z z c.1⟩
def y6b : Fs := ⟨[], [], []⟩
theorem y6e : y6b.Ok Tryz.prog := fs0
theorem y7x : z8d.Ok Tryz.prog := FCon.ok (fn_ok (k := z8d.con) (fn := Tryz.f217) (W := []) (H := []) Tryz.func217 y6e trivial rfl rfl (fun av x => by kernel_rfl))
def zi0 (s1_0 : List GTask) (s1_1 : Int) (s1_2 : Int) (bk1 : List GTask → Int → Int → Bool → List Bool → Option (List Bool)) (s2_1 : Bool) (l2_2 : List Bool) : Option (List Bool) := gd (ok64 (s1_2 + 1)) (bk1 s1_0 s1_1 (s1_2 + 1) s2_1 l2_2)
def z0k (p2_0 : List GFlow) (p2_1 : Int) (kx2_0 : Bool → List Bool → Option (List Bool)) : Nat → Int → Bool → List Bool → Option (List Bool)
  | 0, _, _, _ => none
  | n2 + 1, s2_0, s2_1, l2_2 => if decide (s2_0 < p2_1) = true then ((getI p2_0 s2_0).bind fun x11 => (if s2_1 = true then ((getI l2_2 x11.to).bind fun x13 => (gd (ok64 (s2_0 + 1)) ((z0k p2_0 p2_1 kx2_0 n2) (s2_0 + 1) true (l2_2.set x11.to.toNat true)))) else ((getI l2_2 x11.to).bind fun x15 => ((getI l2_2 x11.to).bind fun x16 => (gd (ok64 (s2_0 + 1)) ((z0k p2_0 p2_1 kx2_0 n2) (s2_0 + 1) (!x15) (l2_2.set x11.to.toNat true))))))) else (kx2_0 s2_1 l2_2)
def z7s (bk0 : Bool → List Bool → Option (List Bool)) (s1_3 : Bool) (l1_4 : List Bool) : Option (List Bool) := bk0 s1_3 l1_4
def z0d (but : Int) (kx1_0 : Bool → List Bool → Option (List Bool)) : Nat → List GTask → Int → Int → Bool → List Bool → Option (List Bool)
  | 0, _, _, _, _, _ => none
  | n1 + 1, s1_0, s1_1, s1_2, s1_3, l1_4 => if decide (s1_2 < s1_1) = true then ((getI s1_0 s1_2).bind fun x5 => (if decide (s1_2 = but) = true then (gd (ok64 (s1_2 + 1)) ((z0d but kx1_0 n1) s1_0 s1_1 (s1_2 + 1) s1_3 l1_4)) else ((z2f x5.in_ (fun z => z5z z l1_4)).bind fun x8 => (if x8 = true then (z0k x5.out (x5.out.length : Int) (zi0 s1_0 s1_1 s1_2 (z0d but kx1_0 n1)) FUEL 0 s1_3 l1_4) else (gd (ok64 (s1_2 + 1)) ((z0d but kx1_0 n1) s1_0 s1_1 (s1_2 + 1) s1_3 l1_4)))))) else (kx1_0 s1_3 l1_4)
def zi1 (l0_1 : List Bool) : Option (List Bool) := some l0_1
def z0y (n : GNet) (but : Int) (kx0_0 : List Bool → Option (List Bool)) : Nat → Bool → List Bool → Option (List Bool)
  | 0, _, _ => none
  | n0 + 1, s0_0, l0_1 => if s0_0 = true then (z0d but (z7s (z0y n but kx0_0 n0)) FUEL n.tasks (n.tasks.length : Int) 0 false l0_1) else (kx0_0 l0_1)
def z75 (n : GNet) (place : Int) (but : Int) : Option (List Bool) := gd ((0 : Int) ≤ n.places ∧ n.places ≤ (1000000000 : Int)) ((getI (List.replicate n.places.toNat false) place).bind fun x2 => (z0y n but zi1 FUEL true ((List.replicate n.places.toNat false).set place.toNat true)))
def z05 : Con := ⟨202, [.v (.s .net) false, .v .I false, .v .I false], [((.sl .B), true)], [], fun x => z75 x.1 x.2.1 x.2.2.1⟩
def yf9 : Fs := ⟨[z4n], [z8d], []⟩
theorem z6z : yf9.Ok Tryz.prog := (fsK z7j (fsF y7x fs0))
def z9g : Tmpl := ⟨[(2, .c .i), (3, .c (.bx 3 0)), (7, .c (.bx 7 0)), (8, .c .b), (21, .c (.s (.s .task))), (22, .c .i), (23, .c .i), (39, .c (.s (.s .flow))), (40, .c .i), (41, .c .i)], [(3, .boxT (.s .net)), (7, .box [.ref 15]), (15, .arr .B true)]⟩
def z8w : Tmpl := ⟨[(2, .c .i), (3, .c (.bx 3 0)), (7, .c (.bx 7 0)), (8, .c .b), (21, .c (.s (.s .task))), (22, .c .i), (23, .c .i)], [(3, .boxT (.s .net)), (7, .box [.ref 15]), (15, .arr .B true)]⟩
def y09 (av : AV) (x : HP z05.ps) (n : Nat) (v : z9g.den) (K : Ks (CR z05)) : Option (CR z05) := z0k v.1.2.2.2.2.2.2.2.1 v.1.2.2.2.2.2.2.2.2.1 (fun s2_1 l2_2 => z8w.at none ((v.1.1, (), (), s2_1, v.1.2.2.2.2.1, v.1.2.2.2.2.2.1, v.1.2.2.2.2.2.2.1, ()), (v.2.1, ((), ()), l2_2, ())) (K (.exit 4))) n v.1.2.2.2.2.2.2.2.2.2.1 v.1.2.2.2.1 v.2.2.2.1
def z97 (av : AV) (x : HP z05.ps) : Hdl (CR z05) := hnd [] z9g (y09 av x)
theorem y0l : LP z05 Tryz.f202 [0, 0, 0] z97 := lp_ok (W := []) (H := []) (xs := [z8w]) z6z trivial rfl (fun av x v K => by kernel_rfl) (fun av x n v K => by kernel_rfl)
def zh5 : Tmpl := ⟨[(2, .c .i), (3, .c (.bx 3 0)), (7, .c (.bx 7 0)), (8, .c .b), (21, .c (.s (.s .task))), (22, .c .i), (23, .c .i)], [(3, .boxT (.s .net)), (7, .box [.ref 15]), (15, .arr .B true)]⟩
def zb7 : Tmpl := ⟨[(2, .c .i), (3, .c (.bx 3 0)), (7, .c (.bx 7 0)), (8, .c .b)], [(3, .boxT (.s .net)), (7, .box [.ref 15]), (15, .arr .B true)]⟩
def y2w (av : AV) (x : HP z05.ps) (n : Nat) (v : zh5.den) (K : Ks (CR z05)) : Option (CR z05) := z0d v.1.1 (fun s1_3 l1_4 => zb7.at none ((v.1.1, (), (), s1_3, ()), (v.2.1, ((), ()), l1_4, ())) (K (.exit 2))) n v.1.2.2.2.2.1 v.1.2.2.2.2.2.1 v.1.2.2.2.2.2.2.1 v.1.2.2.2.1 v.2.2.2.1
def zc6 (av : AV) (x : HP z05.ps) : Hdl (CR z05) := hnd [] zh5 (y2w av x)
theorem y3o : LP z05 Tryz.f202 [0, 0] zc6 := lp_ok (W := []) (H := [z97]) (xs := [zb7]) z6z ⟨y0l, trivial⟩ rfl (fun av x v K => by kernel_rfl) (fun av x n v K => by kernel_rfl)
def zn2 : Tmpl := ⟨[(2, .c .i), (3, .c (.bx 3 0)), (7, .c (.bx 7 0)), (8, .c .b)], [(3, .boxT (.s .net)), (7, .box [.ref 15]), (15, .arr .B true)]⟩
def zi7 : Tmpl := ⟨[(7, .c (.bx 7 0))], [(7, .box [.ref 15]), (15, .arr .B true)]⟩
def y63 (av : AV) (x : HP z05.ps) (n : Nat) (v : zn2.den) (K : Ks (CR z05)) : Option (CR z05) := z0y v.2.1 v.1.1 (fun l0_1 => zi7.at none (((), ()), (((), ()), l0_1, ())) (K (.exit 0))) n v.1.2.2.2.1 v.2.2.2.1
def zl7 (av : AV) (x : HP z05.ps) : Hdl (CR z05) := hnd [] zn2 (y63 av x)
theorem y79 : LP z05 Tryz.f202 [0] zl7 := lp_ok (W := []) (H := [zc6]) (xs := [zi7]) z6z ⟨y3o, trivial⟩ rfl (fun av x v K => by kernel_rfl) (fun av x n v K => by kernel_rfl)
theorem yh8 : z05.Ok Tryz.prog := fn_ok (k := z05) (fn := Tryz.f202) (W := []) (H := [zl7]) Tryz.func202 z6z ⟨y79, trivial⟩ rfl rfl (fun av x => by kernel_rfl)
def z74 (m : Int) : Option Bool := (z0b m 0 4).bind fun x1 => (some (!x1))
def z7d : FCon := ⟨199, .I, [], fun z c => z74 z ⟩
def y2z : Fs := ⟨[z1z], [], []⟩
theorem y32 : y2z.Ok Tryz.prog := (fsK z2p fs0)
theorem y3u : z7d.Ok Tryz.prog := FCon.ok (fn_ok (k := z7d.con) (fn := Tryz.f199) (W := []) (H := []) Tryz.func199 y32 trivial rfl rfl (fun av x => by kernel_rfl))
def z4b (n : GNet) (marks : List Int) : Option Bool := if decide ((marks.length : Int) = n.places) = true then ((z2f marks (fun z => z74 z )).bind fun x2 => (some (!x2))) else (some false)
def z5u : Con := ⟨164, [.v (.s .net) false, .v (.sl .I) false], [(.B, true)], [], fun x => z4b x.1 x.2.1⟩
def y6a : Fs := ⟨[z4n], [z7d], []⟩
theorem y6d : y6a.Ok Tryz.prog := (fsK z7j (fsF y3u fs0))
theorem zm7 : z5u.Ok Tryz.prog := fn_ok (k := z5u) (fn := Tryz.f164) (W := []) (H := []) Tryz.func164 y6d trivial rfl rfl (fun av x => by kernel_rfl)
def za5 (n : GNet) (marks : List Int) : Option Bool := (z86 n).bind fun x1 => (if x1 = true then ((z4b n marks).bind fun x3 => (some x3)) else (some false))
def zm2 : Con := ⟨94, [.v (.s .net) false, .v (.sl .I) false], [(.B, true)], [], fun x => za5 x.1 x.2.1⟩
def wl8 : Fs := ⟨[za0, z5u], [], []⟩
theorem wo1 : wl8.Ok Tryz.prog := (fsK zz0 (fsK zm7 fs0))
theorem y7v : zm2.Ok Tryz.prog := fn_ok (k := zm2) (fn := Tryz.f94) (W := []) (H := []) Tryz.func94 wo1 trivial rfl rfl (fun av x => by kernel_rfl)
def ze0 (busy : List GItem) : Option Bool := some (decide ((busy.length : Int) ≤ 6))
def z1x (n : GNet) (p0_0 : List GItem) (p0_1 : Int) (kx0_0 : Option Bool) : Nat → Int → Option Bool
  | 0, _ => none
  | n0 + 1, s0_0 => if decide (s0_0 < p0_1) = true then ((getI p0_0 s0_0).bind fun x2 => ((z0m n x2.task).bind fun x3 => (if x3 = true then ((z89 x2.who).bind fun x5 => (if x5 = true then ((getI n.tasks x2.task).bind fun x7 => (gd (ok64 (x7.need - 1)) ((z0b x2.did 0 (x7.need - 1)).bind fun x9 => (if x9 = true then (gd (ok64 (s0_0 + 1)) ((z1x n p0_0 p0_1 kx0_0 n0) (s0_0 + 1))) else (some false))))) else (some false))) else (some false)))) else (kx0_0)
def z4s (n : GNet) (busy : List GItem) : Option Bool := z1x n busy (busy.length : Int) (ze0 busy) FUEL 0
def z0r : Con := ⟨95, [.v (.s .net) false, .v (.sl (.s .item)) false], [(.B, true)], [], fun x => z4s x.1 x.2.1⟩
def y9o : Fs := ⟨[z1n, zd2, z1z], [], []⟩
theorem zo5 : y9o.Ok Tryz.prog := (fsK z4d (fsK y80 (fsK z2p fs0)))
def zi4 : Tmpl := ⟨[(1, .c (.s (.s .item))), (2, .c (.bx 2 0)), (7, .c (.s (.s .item))), (8, .c .i), (9, .c .i)], [(2, .boxT (.s .net))]⟩
def zh6 : Tmpl := ⟨[(1, .c (.s (.s .item)))], []⟩
def y5y (av : AV) (x : HP z0r.ps) (n : Nat) (v : zi4.den) (K : Ks (CR z0r)) : Option (CR z0r) := z1x v.2.1 v.1.2.2.1 v.1.2.2.2.1 (zh6.at none ((v.1.1, ()), ()) (K (.exit 0))) n v.1.2.2.2.2.1
def zh8 (av : AV) (x : HP z0r.ps) : Hdl (CR z0r) := hnd [] zi4 (y5y av x)
theorem y60 : LP z0r Tryz.f95 [0] zh8 := lp_ok (W := []) (H := []) (xs := [zh6]) zo5 trivial rfl (fun av x v K => by kernel_rfl) (fun av x n v K => by kernel_rfl)
theorem zp1 : z0r.Ok Tryz.prog := fn_ok (k := z0r) (fn := Tryz.f95) (W := []) (H := [zh8]) Tryz.func95 zo5 ⟨y60, trivial⟩ rfl rfl (fun av x => by kernel_rfl)
def z72 (q : Int) (marks : List Int) (reach : List Bool) : Option Bool := (getI marks q).bind fun x1 => (if decide (x1 = 0) = true then ((getI reach q).bind fun x3 => (some x3)) else (some false))
def z7c : FCon := ⟨203, .I, [(.sl .I), (.sl .B)], fun z c => z72 z c.1 c.2.1⟩
def y2y : Fs := ⟨[], [], []⟩
theorem y31 : y2y.Ok Tryz.prog := fs0
theorem y3t : z7c.Ok Tryz.prog := FCon.ok (fn_ok (k := z7c.con) (fn := Tryz.f203) (W := []) (H := []) Tryz.func203 y31 trivial rfl rfl (fun av x => by kernel_rfl))
def z4i (s1_0 : Int) (s1_1 : Int) (bk1 : Int → Int → List Int → Option Bool) (l2_1 : List Int) : Option Bool := gd (ok64 (s1_1 + 1)) (bk1 s1_0 (s1_1 + 1) l2_1)
def z1m (p2_0 : List GFlow) (p2_1 : Int) (kx2_0 : List Int → Option Bool) : Nat → Int → List Int → Option Bool
  | 0, _, _ => none
  | n2 + 1, s2_0, l2_1 => if decide (s2_0 < p2_1) = true then ((getI p2_0 s2_0).bind fun x15 => (gd (l2_1.length + [x15.to].length ≤ SMALL) (gd (ok64 (s2_0 + 1)) ((z1m p2_0 p2_1 kx2_0 n2) (s2_0 + 1) (l2_1 ++ [x15.to]))))) else (kx2_0 l2_1)
def z6j  : Option Bool := some false
def z11 (n : GNet) (t : Int) (p0_0 : List Int) (p0_2 : List Int) (l1_2 : List Int) (p3_0 : Int) (kx3_0 : Option Bool) : Nat → Int → Option Bool
  | 0, _ => none
  | n3 + 1, s3_0 => if decide (s3_0 < p3_0) = true then ((getI l1_2 s3_0).bind fun x20 => ((z75 n x20 t).bind fun x21 => ((z2f p0_0 (fun z => z72 z p0_2 x21)).bind fun x22 => (if x22 = true then (some true) else (gd (ok64 (s3_0 + 1)) ((z11 n t p0_0 p0_2 l1_2 p3_0 kx3_0 n3) (s3_0 + 1))))))) else (kx3_0)
def z1l (n : GNet) (t : Int) (p0_0 : List Int) (p0_2 : List Int) (l1_2 : List Int) : Option Bool := z11 n t p0_0 p0_2 l1_2 (l1_2.length : Int) z6j FUEL 0
def z0q (n : GNet) (busy : List GItem) (kx1_0 : List Int → Option Bool) : Nat → Int → Int → List Int → Option Bool
  | 0, _, _, _ => none
  | n1 + 1, s1_0, s1_1, l1_2 => if decide (s1_1 < s1_0) = true then ((getI busy s1_1).bind fun x12 => ((getI n.tasks x12.task).bind fun x13 => (z1m x13.out (x13.out.length : Int) (z4i s1_0 s1_1 (z0q n busy kx1_0 n1)) FUEL 0 l1_2))) else (kx1_0 l1_2)
def z4h (n : GNet) (busy : List GItem) (t : Int) (p0_0 : List Int) (p0_2 : List Int) (l0_1 : List Int) : Option Bool := z0q n busy (z1l n t p0_0 p0_2) FUEL (busy.length : Int) 0 l0_1
def z0p (marks : List Int) (p0_0 : List Int) (p0_1 : Int) (kx0_0 : List Int → Option Bool) : Nat → Int → List Int → Option Bool
  | 0, _, _ => none
  | n0 + 1, s0_0, l0_1 => if decide (s0_0 < p0_1) = true then ((getI marks s0_0).bind fun x3 => (if decide (0 < x3) = true then ((za2 p0_0 s0_0).bind fun x5 => (if x5 = true then (gd (ok64 (s0_0 + 1)) ((z0p marks p0_0 p0_1 kx0_0 n0) (s0_0 + 1) l0_1)) else (gd (l0_1.length + [s0_0].length ≤ SMALL) (gd (ok64 (s0_0 + 1)) ((z0p marks p0_0 p0_1 kx0_0 n0) (s0_0 + 1) (l0_1 ++ [s0_0])))))) else (gd (ok64 (s0_0 + 1)) ((z0p marks p0_0 p0_1 kx0_0 n0) (s0_0 + 1) l0_1)))) else (kx0_0 l0_1)
def z5y (n : GNet) (marks : List Int) (busy : List GItem) (t : Int) : Option Bool := (getI n.tasks t).bind fun x1 => (z0p marks x1.in_ (marks.length : Int) (z4h n busy t x1.in_ marks) FUEL 0 ([] : List Int))
def z01 : Con := ⟨168, [.v (.s .net) false, .v (.sl .I) false, .v (.sl (.s .item)) false, .v .I false], [(.B, true)], [], fun x => z5y x.1 x.2.1 x.2.2.1 x.2.2.2.1⟩
def y68 : Fs := ⟨[zm0, z05, z4n], [z7c], []⟩
theorem z45 : y68.Ok Tryz.prog := (fsK y7s (fsK yh8 (fsK z7j (fsF y3t fs0))))
def z9f : Tmpl := ⟨[(3, .c .i), (4, .c (.bx 4 0)), (5, .c (.bx 5 0)), (9, .c (.s .I)), (10, .c (.ref 500010)), (46, .c (.s (.s .item))), (47, .c .i), (48, .c .i), (58, .c (.s (.s .flow))), (59, .c .i), (60, .c .i)], [(4, .boxT (.s .net)), (5, .box [.s .I]), (500010, .arr .I true)]⟩
def z8v : Tmpl := ⟨[(3, .c .i), (4, .c (.bx 4 0)), (5, .c (.bx 5 0)), (9, .c (.s .I)), (10, .c (.ref 500010)), (46, .c (.s (.s .item))), (47, .c .i), (48, .c .i)], [(4, .boxT (.s .net)), (5, .box [.s .I]), (500010, .arr .I true)]⟩
def y08 (av : AV) (x : HP z01.ps) (n : Nat) (v : z9f.den) (K : Ks (CR z01)) : Option (CR z01) := z1m v.1.2.2.2.2.2.2.2.2.1 v.1.2.2.2.2.2.2.2.2.2.1 (fun l2_1 => z8v.at none ((v.1.1, (), (), v.1.2.2.2.1, (), v.1.2.2.2.2.2.1, v.1.2.2.2.2.2.2.1, v.1.2.2.2.2.2.2.2.1, ()), (v.2.1, (v.2.2.1.1, ()), l2_1, ())) (K (.exit 4))) n v.1.2.2.2.2.2.2.2.2.2.2.1 v.2.2.2.1
def z96 (av : AV) (x : HP z01.ps) : Hdl (CR z01) := hnd [] z9f (y08 av x)
theorem y0k : LP z01 Tryz.f168 [1, 0] z96 := lp_ok (W := []) (H := []) (xs := [z8v]) z45 trivial rfl (fun av x v K => by kernel_rfl) (fun av x n v K => by kernel_rfl)
def zh2 : Tmpl := ⟨[(2, .c (.s (.s .item))), (3, .c .i), (4, .c (.bx 4 0)), (5, .c (.bx 5 0)), (9, .c (.s .I)), (10, .c (.ref 500010)), (26, .c (.s .I)), (27, .c .i), (28, .c .i)], [(4, .boxT (.s .net)), (5, .box [.s .I]), (500010, .arr .I true)]⟩
def zb4 : Tmpl := ⟨[(2, .c (.s (.s .item))), (3, .c .i), (4, .c (.bx 4 0)), (5, .c (.bx 5 0)), (9, .c (.s .I)), (10, .c (.ref 500010))], [(4, .boxT (.s .net)), (5, .box [.s .I]), (500010, .arr .I true)]⟩
def y2t (av : AV) (x : HP z01.ps) (n : Nat) (v : zh2.den) (K : Ks (CR z01)) : Option (CR z01) := z0p v.1.2.2.2.2.2.2.1 v.1.2.2.2.2.1 v.1.2.2.2.2.2.2.2.1 (fun l0_1 => zb4.at none ((v.1.1, v.1.2.1, (), (), v.1.2.2.2.2.1, (), ()), (v.2.1, (v.2.2.1.1, ()), l0_1, ())) (K (.exit 0))) n v.1.2.2.2.2.2.2.2.2.1 v.2.2.2.1
def zc3 (av : AV) (x : HP z01.ps) : Hdl (CR z01) := hnd [.e 10 500010 .I] zh2 (y2t av x)
theorem y3l : LP z01 Tryz.f168 [0] zc3 := lp_ok (W := []) (H := []) (xs := [zb4]) z45 trivial rfl (fun av x v K => by kernel_rfl) (fun av x n v K => by kernel_rfl)
def zh3 : Tmpl := ⟨[(3, .c .i), (4, .c (.bx 4 0)), (5, .c (.bx 5 0)), (9, .c (.s .I)), (10, .c (.ref 500010)), (46, .c (.s (.s .item))), (47, .c .i), (48, .c .i)], [(4, .boxT (.s .net)), (5, .box [.s .I]), (500010, .arr .I true)]⟩
def zb5 : Tmpl := ⟨[(3, .c .i), (4, .c (.bx 4 0)), (5, .c (.bx 5 0)), (9, .c (.s .I)), (10, .c (.ref 500010))], [(4, .boxT (.s .net)), (5, .box [.s .I]), (500010, .arr .I true)]⟩
def y2u (av : AV) (x : HP z01.ps) (n : Nat) (v : zh3.den) (K : Ks (CR z01)) : Option (CR z01) := z0q v.2.1 v.1.2.2.2.2.2.1 (fun l1_2 => zb5.at none ((v.1.1, (), (), v.1.2.2.2.1, (), ()), (v.2.1, (v.2.2.1.1, ()), l1_2, ())) (K (.exit 2))) n v.1.2.2.2.2.2.2.1 v.1.2.2.2.2.2.2.2.1 v.2.2.2.1
def zc4 (av : AV) (x : HP z01.ps) : Hdl (CR z01) := hnd [] zh3 (y2u av x)
theorem y3m : LP z01 Tryz.f168 [1] zc4 := lp_ok (W := []) (H := [z96]) (xs := [zb5]) z45 ⟨y0k, trivial⟩ rfl (fun av x v K => by kernel_rfl) (fun av x n v K => by kernel_rfl)
def zh4 : Tmpl := ⟨[(3, .c .i), (4, .c (.bx 4 0)), (5, .c (.bx 5 0)), (9, .c (.s .I)), (71, .c (.ref 500010)), (72, .c .i), (73, .c .i)], [(4, .boxT (.s .net)), (5, .box [.s .I]), (500010, .arr .I true)]⟩
def zb6 : Tmpl := ⟨[], []⟩
def y2v (av : AV) (x : HP z01.ps) (n : Nat) (v : zh4.den) (K : Ks (CR z01)) : Option (CR z01) := z11 v.2.1 v.1.1 v.1.2.2.2.1 v.2.2.1.1 v.2.2.2.1 v.1.2.2.2.2.2.1 (zb6.at none ((), ()) (K (.exit 6))) n v.1.2.2.2.2.2.2.1
def zc5 (av : AV) (x : HP z01.ps) : Hdl (CR z01) := hnd [] zh4 (y2v av x)
theorem y3n : LP z01 Tryz.f168 [2] zc5 := lp_ok (W := []) (H := []) (xs := [zb6]) z45 trivial rfl (fun av x v K => by kernel_rfl) (fun av x n v K => by kernel_rfl)
theorem y7w : z01.Ok Tryz.prog := fn_ok (k := z01) (fn := Tryz.f168) (W := []) (H := [zc3, zc4, zc5]) Tryz.func168 z45 ⟨y3l, y3m, y3n, trivial⟩ rfl rfl (fun av x => by kernel_rfl)
def z36 (n : GNet) (marks : List Int) (busy : List GItem) (t : Int) (s0_0 : Bool) (s0_2 : Bool) : Option Bool := (getI n.tasks t).bind fun x14 => (if decide (x14.join = 1) = true then (some s0_0) else (if decide (x14.join = 2) = true then (some s0_2) else (if s0_2 = true then (if s0_0 = true then (some true) else ((z5y n marks busy t).bind fun x19 => (some (!x19)))) else (some false))))
def z0s (marks : List Int) (p0_0 : List Int) (p0_1 : Int) (kx0_0 : Bool → Bool → Option Bool) : Nat → Bool → Int → Bool → Option Bool
  | 0, _, _, _ => none
  | n0 + 1, s0_0, s0_1, s0_2 => if decide (s0_1 < p0_1) = true then ((getI p0_0 s0_1).bind fun x3 => (if s0_2 = true then (if s0_0 = true then ((getI marks x3).bind fun x6 => (gd (ok64 (s0_1 + 1)) ((z0s marks p0_0 p0_1 kx0_0 n0) (decide (0 < x6)) (s0_1 + 1) true))) else (gd (ok64 (s0_1 + 1)) ((z0s marks p0_0 p0_1 kx0_0 n0) false (s0_1 + 1) true))) else ((getI marks x3).bind fun x9 => (if s0_0 = true then ((getI marks x3).bind fun x11 => (gd (ok64 (s0_1 + 1)) ((z0s marks p0_0 p0_1 kx0_0 n0) (decide (0 < x11)) (s0_1 + 1) (decide (0 < x9))))) else (gd (ok64 (s0_1 + 1)) ((z0s marks p0_0 p0_1 kx0_0 n0) false (s0_1 + 1) (decide (0 < x9)))))))) else (kx0_0 s0_0 s0_2)
def z8n (n : GNet) (marks : List Int) (busy : List GItem) (t : Int) : Option Bool := (getI n.tasks t).bind fun x1 => (z0s marks x1.in_ (x1.in_.length : Int) (z36 n marks busy t) FUEL true 0 false)
def z1w : Con := ⟨104, [.v (.s .net) false, .v (.sl .I) false, .v (.sl (.s .item)) false, .v .I false], [(.B, true)], [], fun x => z8n x.1 x.2.1 x.2.2.1 x.2.2.2.1⟩
def yr7 : Fs := ⟨[z01], [], []⟩
theorem y18 : yr7.Ok Tryz.prog := (fsK y7w fs0)
def zw0 : Tmpl := ⟨[(1, .c (.s .I)), (2, .c (.s (.s .item))), (3, .c .i), (4, .c (.bx 4 0)), (9, .c .b), (10, .c .b), (18, .c (.s .I)), (19, .c .i), (20, .c .i)], [(4, .boxT (.s .net))]⟩
def zp7 : Tmpl := ⟨[(1, .c (.s .I)), (2, .c (.s (.s .item))), (3, .c .i), (4, .c (.bx 4 0)), (9, .c .b), (10, .c .b)], [(4, .boxT (.s .net))]⟩
def yf1 (av : AV) (x : HP z1w.ps) (n : Nat) (v : zw0.den) (K : Ks (CR z1w)) : Option (CR z1w) := z0s v.1.1 v.1.2.2.2.2.2.2.1 v.1.2.2.2.2.2.2.2.1 (fun s0_0 s0_2 => zp7.at none ((v.1.1, v.1.2.1, v.1.2.2.1, (), s0_2, s0_0, ()), (v.2.1, ())) (K (.exit 0))) n v.1.2.2.2.2.2.1 v.1.2.2.2.2.2.2.2.2.1 v.1.2.2.2.2.1
def zu1 (av : AV) (x : HP z1w.ps) : Hdl (CR z1w) := hnd [] zw0 (yf1 av x)
theorem yg8 : LP z1w Tryz.f104 [0] zu1 := lp_ok (W := []) (H := []) (xs := [zp7]) y18 trivial rfl (fun av x v K => by kernel_rfl) (fun av x n v K => by kernel_rfl)
theorem yu6 : z1w.Ok Tryz.prog := fn_ok (k := z1w) (fn := Tryz.f104) (W := []) (H := [zu1]) Tryz.func104 y18 ⟨yg8, trivial⟩ rfl rfl (fun av x => by kernel_rfl)
def zr2 (n : GNet) (marks : List Int) (busy : List GItem) (t : Int) : Option Bool := (za5 n marks).bind fun x1 => (if x1 = true then ((z4s n busy).bind fun x3 => (if x3 = true then ((z0m n t).bind fun x5 => (if x5 = true then ((z8n n marks busy t).bind fun x7 => (some x7)) else (some false))) else (some false))) else (some false))
def y37 : Con := ⟨33, [.v (.s .net) false, .v (.sl .I) false, .v (.sl (.s .item)) false, .v .I false], [(.B, true)], [], fun x => zr2 x.1 x.2.1 x.2.2.1 x.2.2.2.1⟩
def w94 : Fs := ⟨[zm2, z0r, z1n, z1w], [], []⟩
theorem wa5 : w94.Ok Tryz.prog := (fsK y7v (fsK zp1 (fsK z4d (fsK yu6 fs0))))
theorem we4 : y37.Ok Tryz.prog := fn_ok (k := y37) (fn := Tryz.f33) (W := []) (H := []) Tryz.func33 wa5 trivial rfl rfl (fun av x => by kernel_rfl)
def zm5 (l0_1 : List Int) (x4 : Int) (x7 : Int) : Option (List Int) := some (l0_1.set x4.toNat (x7 - 1))
def zm6 (l0_1 : List Int) : Option (List Int) := some l0_1
def z1o (n : GNet) (t : Int) (p0_0 : List Int) (p0_1 : Int) (kx0_0 : List Int → Int → Int → Option (List Int)) (kx0_1 : List Int → Option (List Int)) : Nat → Int → List Int → Option (List Int)
  | 0, _, _ => none
  | n0 + 1, s0_0, l0_1 => if decide (s0_0 < p0_1) = true then ((getI p0_0 s0_0).bind fun x4 => ((getI l0_1 x4).bind fun x5 => (if decide (0 < x5) = true then ((getI l0_1 x4).bind fun x7 => (gd (ok64 (x7 - 1)) ((getI l0_1 x4).bind fun x9 => ((getI n.tasks t).bind fun x10 => (if decide (x10.join = 2) = true then (kx0_0 l0_1 x4 x7) else (gd (ok64 (s0_0 + 1)) ((z1o n t p0_0 p0_1 kx0_0 kx0_1 n0) (s0_0 + 1) (l0_1.set x4.toNat (x7 - 1))))))))) else (gd (ok64 (s0_0 + 1)) ((z1o n t p0_0 p0_1 kx0_0 kx0_1 n0) (s0_0 + 1) l0_1))))) else (kx0_1 l0_1)
def z7v (n : GNet) (marks : List Int) (t : Int) : Option (List Int) := (z0l marks).bind fun x1 => ((getI n.tasks t).bind fun x2 => (z1o n t x2.in_ (x2.in_.length : Int) zm5 zm6 FUEL 0 x1))
def z1f : Con := ⟨93, [.v (.s .net) false, .v (.sl .I) false, .v .I false], [((.sl .I), true)], [], fun x => z7v x.1 x.2.1 x.2.2.1⟩
def yj6 : Fs := ⟨[z1s], [], []⟩
theorem zx1 : yj6.Ok Tryz.prog := (fsK z3e fs0)
def zp3 : Tmpl := ⟨[(2, .c .i), (3, .c (.bx 3 0)), (7, .c (.ref 11)), (17, .c (.s .I)), (18, .c .i), (19, .c .i)], [(3, .boxT (.s .net)), (11, .arr .I true)]⟩
def z8f : Tmpl := ⟨[(7, .c (.ref 11))], [(11, .arr .I true)]⟩
def y9j (av : AV) (x : HP z1f.ps) (n : Nat) (v : zp3.den) (K : Ks (CR z1f)) : Option (CR z1f) := z1o v.2.1 v.1.1 v.1.2.2.2.1 v.1.2.2.2.2.1 (fun l0_1 x4 x7 => z8f.at none (((), ()), ((l0_1.set x4.toNat (x7 - 1)), ())) (K (.exit 0))) (fun l0_1 => z8f.at none (((), ()), (l0_1, ())) (K (.exit 0))) n v.1.2.2.2.2.2.1 v.2.2.1
def zo7 (av : AV) (x : HP z1f.ps) : Hdl (CR z1f) := hnd [] zp3 (y9j av x)
theorem y9x : LP z1f Tryz.f93 [0] zo7 := lp_ok (W := []) (H := []) (xs := [z8f]) zx1 trivial rfl (fun av x v K => by kernel_rfl) (fun av x n v K => by kernel_rfl)
theorem yn0 : z1f.Ok Tryz.prog := fn_ok (k := z1f) (fn := Tryz.f93) (W := []) (H := [zo7]) Tryz.func93 zx1 ⟨y9x, trivial⟩ rfl rfl (fun av x => by kernel_rfl)
def y7h (l0_1 : List Int) : Option (List Int) := some l0_1
def z0o (t : GTask) (data : List Int) (p0_0 : List GFlow) (p0_1 : Int) (kx0_0 : List Int → Option (List Int)) : Nat → Int → List Int → Option (List Int)
  | 0, _, _ => none
  | n0 + 1, s0_0, l0_1 => if decide (s0_0 < p0_1) = true then ((getI p0_0 s0_0).bind fun x2 => ((z2b x2.if_ data).bind fun x3 => (if x3 = true then (if decide (t.split = 2) = true then (if decide (0 < (l0_1.length : Int)) = true then (gd (ok64 (s0_0 + 1)) ((z0o t data p0_0 p0_1 kx0_0 n0) (s0_0 + 1) l0_1)) else (if decide (t.split = 3) = true then (gd (ok64 ((t.out.length : Int) - 1)) (if decide (s0_0 = ((t.out.length : Int) - 1)) = true then (if decide (0 < (l0_1.length : Int)) = true then (gd (ok64 (s0_0 + 1)) ((z0o t data p0_0 p0_1 kx0_0 n0) (s0_0 + 1) l0_1)) else (gd (l0_1.length + [x2.to].length ≤ SMALL) (gd (ok64 (s0_0 + 1)) ((z0o t data p0_0 p0_1 kx0_0 n0) (s0_0 + 1) (l0_1 ++ [x2.to]))))) else (gd (l0_1.length + [x2.to].length ≤ SMALL) (gd (ok64 (s0_0 + 1)) ((z0o t data p0_0 p0_1 kx0_0 n0) (s0_0 + 1) (l0_1 ++ [x2.to])))))) else (gd (l0_1.length + [x2.to].length ≤ SMALL) (gd (ok64 (s0_0 + 1)) ((z0o t data p0_0 p0_1 kx0_0 n0) (s0_0 + 1) (l0_1 ++ [x2.to])))))) else (if decide (t.split = 3) = true then (gd (ok64 ((t.out.length : Int) - 1)) (if decide (s0_0 = ((t.out.length : Int) - 1)) = true then (if decide (0 < (l0_1.length : Int)) = true then (gd (ok64 (s0_0 + 1)) ((z0o t data p0_0 p0_1 kx0_0 n0) (s0_0 + 1) l0_1)) else (gd (l0_1.length + [x2.to].length ≤ SMALL) (gd (ok64 (s0_0 + 1)) ((z0o t data p0_0 p0_1 kx0_0 n0) (s0_0 + 1) (l0_1 ++ [x2.to]))))) else (gd (l0_1.length + [x2.to].length ≤ SMALL) (gd (ok64 (s0_0 + 1)) ((z0o t data p0_0 p0_1 kx0_0 n0) (s0_0 + 1) (l0_1 ++ [x2.to])))))) else (gd (l0_1.length + [x2.to].length ≤ SMALL) (gd (ok64 (s0_0 + 1)) ((z0o t data p0_0 p0_1 kx0_0 n0) (s0_0 + 1) (l0_1 ++ [x2.to])))))) else (gd (ok64 (s0_0 + 1)) ((z0o t data p0_0 p0_1 kx0_0 n0) (s0_0 + 1) l0_1))))) else (kx0_0 l0_1)
def zy4 (t : GTask) (data : List Int) : Option (List Int) := z0o t data t.out (t.out.length : Int) y7h FUEL 0 ([] : List Int)
def z5v : Con := ⟨173, [.v (.s .task) false, .v (.sl .I) false], [((.sl .I), true)], [], fun x => zy4 x.1 x.2.1⟩
def wm2 : Fs := ⟨[z46], [], []⟩
theorem yw3 : wm2.Ok Tryz.prog := (fsK z6u fs0)
def ye0 : Tmpl := ⟨[(1, .c (.s .I)), (2, .c (.bx 2 0)), (5, .c (.ref 500005)), (9, .c (.s (.s .flow))), (10, .c .i), (11, .c .i)], [(2, .boxT (.s .task)), (500005, .arr .I true)]⟩
def y8w : Tmpl := ⟨[(5, .c (.ref 500005))], [(500005, .arr .I true)]⟩
def w5a (av : AV) (x : HP z5v.ps) (n : Nat) (v : ye0.den) (K : Ks (CR z5v)) : Option (CR z5v) := z0o v.2.1 v.1.1 v.1.2.2.2.1 v.1.2.2.2.2.1 (fun l0_1 => y8w.at none (((), ()), (l0_1, ())) (K (.exit 0))) n v.1.2.2.2.2.2.1 v.2.2.1
def yb9 (av : AV) (x : HP z5v.ps) : Hdl (CR z5v) := hnd [.e 5 500005 .I] ye0 (w5a av x)
theorem w6v : LP z5v Tryz.f173 [0] yb9 := lp_ok (W := []) (H := []) (xs := [y8w]) yw3 trivial rfl (fun av x v K => by kernel_rfl) (fun av x n v K => by kernel_rfl)
theorem wr8 : z5v.Ok Tryz.prog := fn_ok (k := z5v) (fn := Tryz.f173) (W := []) (H := [yb9]) Tryz.func173 yw3 ⟨w6v, trivial⟩ rfl rfl (fun av x => by kernel_rfl)
def z8m (n : GNet) (l1_1 : List Int) : Option ((List Int) × Bool) := (z4b n l1_1).bind fun x21 => (if x21 = true then (some (l1_1, true)) else (some ([], false)))
def z56 (x14 : (List Int)) (p1_0 : Int) (kx1_0 : List Int → Option ((List Int) × Bool)) : Nat → Int → List Int → Option ((List Int) × Bool)
  | 0, _, _ => none
  | n1 + 1, s1_0, l1_1 => if decide (s1_0 < p1_0) = true then ((getI x14 s1_0).bind fun x16 => ((getI l1_1 x16).bind fun x17 => (gd (ok64 (x17 + 1)) ((getI l1_1 x16).bind fun x19 => (gd (ok64 (s1_0 + 1)) ((z56 x14 p1_0 kx1_0 n1) (s1_0 + 1) (l1_1.set x16.toNat (x17 + 1)))))))) else (kx1_0 l1_1)
def z8l (n : GNet) (t : Int) (data : List Int) (l0_1 : List Int) : Option ((List Int) × Bool) := (getI n.tasks t).bind fun x13 => ((zy4 x13 data).bind fun x14 => (z56 x14 (x14.length : Int) (z8m n) FUEL 0 l0_1))
def z55 (p0_0 : List Int) (p0_1 : Int) (kx0_0 : List Int → Option ((List Int) × Bool)) : Nat → Int → List Int → Option ((List Int) × Bool)
  | 0, _, _ => none
  | n0 + 1, s0_0, l0_1 => if decide (s0_0 < p0_1) = true then ((getI p0_0 s0_0).bind fun x10 => ((getI l0_1 x10).bind fun x11 => (gd (ok64 (s0_0 + 1)) ((z55 p0_0 p0_1 kx0_0 n0) (s0_0 + 1) (l0_1.set x10.toNat 0))))) else (kx0_0 l0_1)
def z7n (n : GNet) (marks : List Int) (t : Int) (data : List Int) : Option ((List Int) × Bool) := (za5 n marks).bind fun x1 => (if x1 = true then ((z0m n t).bind fun x3 => (if x3 = true then ((z39 data).bind fun x5 => (if x5 = true then ((z0l marks).bind fun x7 => ((getI n.tasks t).bind fun x8 => (z55 x8.clear (x8.clear.length : Int) (z8l n t data) FUEL 0 x7))) else (some ([], false)))) else (some ([], false)))) else (some ([], false)))
def z0u : Con := ⟨115, [.v (.s .net) false, .v (.sl .I) false, .v .I false, .v (.sl .I) false], [((.sl .I), true), (.B, true)], [], fun x => z7n x.1 x.2.1 x.2.2.1 x.2.2.2.1⟩
def w5o : Fs := ⟨[zm2, z1n, z53, z1s, z5v, z5u], [], []⟩
theorem y0a : w5o.Ok Tryz.prog := (fsK y7v (fsK z4d (fsK z6x (fsK z3e (fsK wr8 (fsK zm7 fs0))))))
def y52 : Tmpl := ⟨[(2, .c .i), (3, .c (.s .I)), (4, .c (.bx 4 0)), (10, .c (.ref 31)), (37, .c (.s .I)), (38, .c .i), (39, .c .i)], [(4, .boxT (.s .net)), (31, .arr .I true)]⟩
def y2b : Tmpl := ⟨[(2, .c .i), (3, .c (.s .I)), (4, .c (.bx 4 0)), (10, .c (.ref 31))], [(4, .boxT (.s .net)), (31, .arr .I true)]⟩
def yz3 (av : AV) (x : HP z0u.ps) (n : Nat) (v : y52.den) (K : Ks (CR z0u)) : Option (CR z0u) := z55 v.1.2.2.2.2.1 v.1.2.2.2.2.2.1 (fun l0_1 => y2b.at none ((v.1.1, v.1.2.1, (), (), ()), (v.2.1, l0_1, ())) (K (.exit 0))) n v.1.2.2.2.2.2.2.1 v.2.2.1
def y49 (av : AV) (x : HP z0u.ps) : Hdl (CR z0u) := hnd [] y52 (yz3 av x)
theorem w0r : LP z0u Tryz.f115 [0] y49 := lp_ok (W := []) (H := []) (xs := [y2b]) y0a trivial rfl (fun av x v K => by kernel_rfl) (fun av x n v K => by kernel_rfl)
def y53 : Tmpl := ⟨[(4, .c (.bx 4 0)), (10, .c (.ref 31)), (53, .c (.ref 53)), (54, .c .i), (55, .c .i)], [(4, .boxT (.s .net)), (31, .arr .I true), (53, .arr .I true)]⟩
def y2c : Tmpl := ⟨[(4, .c (.bx 4 0)), (10, .c (.ref 31))], [(4, .boxT (.s .net)), (31, .arr .I true)]⟩
def yz4 (av : AV) (x : HP z0u.ps) (n : Nat) (v : y53.den) (K : Ks (CR z0u)) : Option (CR z0u) := z56 v.2.2.2.1 v.1.2.2.2.1 (fun l1_1 => y2c.at none (((), (), ()), (v.2.1, l1_1, ())) (K (.exit 2))) n v.1.2.2.2.2.1 v.2.2.1
def y4a (av : AV) (x : HP z0u.ps) : Hdl (CR z0u) := hnd [] y53 (yz4 av x)
theorem w0s : LP z0u Tryz.f115 [1] y4a := lp_ok (W := []) (H := []) (xs := [y2c]) y0a trivial rfl (fun av x v K => by kernel_rfl) (fun av x n v K => by kernel_rfl)
theorem w79 : z0u.Ok Tryz.prog := fn_ok (k := z0u) (fn := Tryz.f115) (W := []) (H := [y49, y4a]) Tryz.func115 y0a ⟨w0r, w0s, trivial⟩ rfl rfl (fun av x => by kernel_rfl)
def y0p (n : Int) : Option Bool := (z0b n 0 7).bind fun x1 => (some (!x1))
def y0w : FCon := ⟨119, .I, [], fun z c => y0p z ⟩
def w5q : Fs := ⟨[z1z], [], []⟩
theorem w6g : w5q.Ok Tryz.prog := (fsK z2p fs0)
theorem w7b : y0w.Ok Tryz.prog := FCon.ok (fn_ok (k := y0w.con) (fn := Tryz.f119) (W := []) (H := []) Tryz.func119 w6g trivial rfl rfl (fun av x => by kernel_rfl))
def za6 (people : List Int) : Option Bool := (z0b (people.length : Int) 1 4).bind fun x1 => (if x1 = true then ((z2f people (fun z => y0p z )).bind fun x3 => (some (!x3))) else (some false))
def zm3 : Con := ⟨50, [.v (.sl .I) false], [(.B, true)], [], fun x => za6 x.1⟩
def wm0 : Fs := ⟨[z1z, z4n], [y0w], []⟩
theorem wo3 : wm0.Ok Tryz.prog := (fsK z2p (fsK z7j (fsF w7b fs0)))
theorem y7y : zm3.Ok Tryz.prog := fn_ok (k := zm3) (fn := Tryz.f50) (W := []) (H := []) Tryz.func50 wo3 trivial rfl rfl (fun av x => by kernel_rfl)
def zr4 (people : List Int) (who : Int) (role : Int) : Option Bool := (za6 people).bind fun x1 => (if x1 = true then ((z0b who 1 (people.length : Int)).bind fun x3 => (if x3 = true then ((ze2 role).bind fun x5 => (if x5 = true then (gd (ok64 (who - 1)) ((getI people (who - 1)).bind fun x8 => (gd (ok64 (role - 1)) (gd ((0 : Int) ≤ (role - 1) ∧ (role - 1) ≤ (63 : Int)) (some (decide ((andI (shrI x8 (role - 1)) 1) = 1))))))) else (some false))) else (some false))) else (some false))
def y39 : Con := ⟨80, [.v (.sl .I) false, .v .I false, .v .I false], [(.B, true)], [], fun x => zr4 x.1 x.2.1 x.2.2.1⟩
def w96 : Fs := ⟨[zm3, z1z, zq5], [], []⟩
theorem wa7 : w96.Ok Tryz.prog := (fsK y7y (fsK z2p (fsK yn1 fs0)))
theorem we6 : y39.Ok Tryz.prog := fn_ok (k := y39) (fn := Tryz.f80) (W := []) (H := []) Tryz.func80 wa7 trivial rfl rfl (fun av x => by kernel_rfl)
def zr3 (did : List GDid) (who : Int) (task : Int) : Option Bool := (zu9 did (GDid.mk task who)).bind fun x1 => (some x1)
def y38 : Con := ⟨109, [.v (.sl (.s .did)) false, .v .I false, .v .I false], [(.B, true)], [], fun x => zr3 x.1 x.2.1 x.2.2.1⟩
def w95 : Fs := ⟨[zu5], [], []⟩
theorem wa6 : w95.Ok Tryz.prog := (fsK w41 fs0)
theorem we5 : y38.Ok Tryz.prog := fn_ok (k := y38) (fn := Tryz.f109) (W := []) (H := []) Tryz.func109 wa6 trivial rfl rfl (fun av x => by kernel_rfl)
def zj6 (l0_1 : List Int) : Option (List Int) := some l0_1
def z3j (p : Int → Option Bool) (p0_0 : Int) (kx0_0 : List Int → Option (List Int)) : Nat → Int → List Int → Option (List Int)
  | 0, _, _ => none
  | n0 + 1, s0_0, l0_1 => if decide (s0_0 < p0_0) = true then (gd (ok64 (s0_0 + 1)) ((p (s0_0 + 1)).bind fun x5 => (if x5 = true then (gd (ok64 (s0_0 + 1)) (gd (l0_1.length + [(s0_0 + 1)].length ≤ SMALL) (gd (ok64 (s0_0 + 1)) ((z3j p p0_0 kx0_0 n0) (s0_0 + 1) (l0_1 ++ [(s0_0 + 1)]))))) else (gd (ok64 (s0_0 + 1)) ((z3j p p0_0 kx0_0 n0) (s0_0 + 1) l0_1))))) else (kx0_0 l0_1)
def y0q (people : List Int) (p : Int → Option Bool) : Option (List Int) := (za6 people).bind fun x1 => (if x1 = true then (z3j p (people.length : Int) zj6 FUEL 0 ([] : List Int)) else (some []))
def z2t : Con := ⟨105, [.v (.sl .I) false, .fn .I], [((.sl .I), true)], [], fun x => y0q x.1 x.2.1⟩
def w5u : Fs := ⟨[zm3], [], []⟩
theorem ya6 : w5u.Ok Tryz.prog := (fsK y7y fs0)
def y57 : Tmpl := ⟨[(1, .c .fp), (5, .c (.ref 500005)), (11, .c .i), (12, .c .i)], [(500005, .arr .I true)]⟩
def y2g : Tmpl := ⟨[(5, .c (.ref 500005))], [(500005, .arr .I true)]⟩
def yz8 (av : AV) (x : HP z2t.ps) (n : Nat) (v : y57.den) (K : Ks (CR z2t)) : Option (CR z2t) := z3j x.2.1 v.1.2.2.1 (fun l0_1 => y2g.at (fpOf z2t.ps x av) (((), ()), (l0_1, ())) (K (.exit 0))) n v.1.2.2.2.1 v.2.1
def y4e (av : AV) (x : HP z2t.ps) : Hdl (CR z2t) := hnd [.e 5 500005 .I] y57 (yz8 av x)
theorem w0w : LP z2t Tryz.f105 [0] y4e := lp_ok (W := []) (H := []) (xs := [y2g]) ya6 trivial rfl (fun av x v K => by kernel_rfl) (fun av x n v K => by kernel_rfl)
theorem w7e : z2t.Ok Tryz.prog := fn_ok (k := z2t) (fn := Tryz.f105) (W := []) (H := [y4e]) Tryz.func105 ya6 ⟨w0w, trivial⟩ rfl rfl (fun av x => by kernel_rfl)
def zj4 (b : GItem) (task : GTask) (who : Int) : Option Bool := if decide (b.task = task.apart) = true then (some (decide (b.who = who))) else (some false)
def zj8 : FCon := ⟨108, (.s .item), [(.s .task), .I], fun z c => zj4 z c.1 c.2.1⟩
def yr9 : Fs := ⟨[], [], []⟩
theorem ys5 : yr9.Ok Tryz.prog := fs0
theorem yu8 : zj8.Ok Tryz.prog := FCon.ok (fn_ok (k := zj8.con) (fn := Tryz.f108) (W := []) (H := []) Tryz.func108 ys5 trivial rfl rfl (fun av x => by kernel_rfl))
def z87 (who : Int) (busy : List GItem) (task : GTask) (people : List Int) (did : List GDid) : Option Bool := (z69 busy (fun z => zj4 z task who)).bind fun x1 => ((zr4 people who task.role).bind fun x2 => (if x2 = true then (if x1 = true then (some false) else ((zr3 did who task.apart).bind fun x5 => (some (!x5)))) else (some false)))
def zv5 : FCon := ⟨106, .I, [(.sl (.s .item)), (.s .task), (.sl .I), (.sl (.s .did))], fun z c => z87 z c.1 c.2.1 c.2.2.1 c.2.2.2.1⟩
def w2m : Fs := ⟨[z8z, y39, y38], [zj8], []⟩
theorem w37 : w2m.Ok Tryz.prog := (fsK y9z (fsK we6 (fsK we5 (fsF yu8 fs0))))
theorem w44 : zv5.Ok Tryz.prog := FCon.ok (fn_ok (k := zv5.con) (fn := Tryz.f106) (W := []) (H := []) Tryz.func106 w37 trivial rfl rfl (fun av x => by kernel_rfl))
def zr5 (n : GNet) (people : List Int) (did : List GDid) (busy : List GItem) (t : Int) : Option (List Int) := (z86 n).bind fun x1 => (if x1 = true then ((z0m n t).bind fun x3 => (if x3 = true then ((getI n.tasks t).bind fun x5 => ((y0q people (fun z => z87 z busy x5 people did)).bind fun x6 => (some x6))) else (some []))) else (some []))
def y3a : Con := ⟨35, [.v (.s .net) false, .v (.sl .I) false, .v (.sl (.s .did)) false, .v (.sl (.s .item)) false, .v .I false], [((.sl .I), true)], [], fun x => zr5 x.1 x.2.1 x.2.2.1 x.2.2.2.1 x.2.2.2.2.1⟩
def w97 : Fs := ⟨[za0, z1n, z2t], [zv5], []⟩
theorem wa8 : w97.Ok Tryz.prog := (fsK zz0 (fsK z4d (fsK w7e (fsF w44 fs0))))
theorem we7 : y3a.Ok Tryz.prog := fn_ok (k := y3a) (fn := Tryz.f35) (W := []) (H := []) Tryz.func35 wa8 trivial rfl rfl (fun av x => by kernel_rfl)
def zd6 (n : GNet) (data : List Int) : Option GCase := (z86 n).bind fun x1 => (if x1 = true then ((z39 data).bind fun x3 => (if x3 = true then (gd ((0 : Int) ≤ n.places ∧ n.places ≤ (1000000000 : Int)) ((z0l data).bind fun x6 => ((getI (List.replicate n.places.toNat (0 : Int)) 0).bind fun x7 => (some (GCase.mk 1 ((List.replicate n.places.toNat (0 : Int)).set (0 : Int).toNat 1) [] x6 []))))) else (some (GCase.mk 0 [] [] [] [])))) else (some (GCase.mk 0 [] [] [] [])))
def y36 : Con := ⟨65, [.v (.s .net) false, .v (.sl .I) false], [((.s .kase), true)], [], fun x => zd6 x.1 x.2.1⟩
def w93 : Fs := ⟨[za0, z53, z1s], [], []⟩
theorem wa4 : w93.Ok Tryz.prog := (fsK zz0 (fsK z6x (fsK z3e fs0)))
theorem we3 : y36.Ok Tryz.prog := fn_ok (k := y36) (fn := Tryz.f65) (W := []) (H := []) Tryz.func65 wa4 trivial rfl rfl (fun av x => by kernel_rfl)
def zd7 (c : GCase) : Option Bool := if decide (c.state = 1) = true then ((getI c.marks 1).bind fun x16 => (some (decide (x16 = 0)))) else (if decide (c.state = 2) = true then (if decide ((c.busy.length : Int) = 0) = true then ((getI c.marks 1).bind fun x19 => (some ((decide (c.state = 2)) == (decide (0 < x19))))) else (some false)) else (if decide (c.state = 3) = true then (if decide ((c.busy.length : Int) = 0) = true then ((getI c.marks 1).bind fun x22 => (some ((decide (c.state = 2)) == (decide (0 < x22))))) else (some false)) else (some false)))
def z6g (n : GNet) (p0_0 : List GDid) (p0_1 : Int) (kx0_0 : Option Bool) : Nat → Int → Option Bool
  | 0, _ => none
  | n0 + 1, s0_0 => if decide (s0_0 < p0_1) = true then ((getI p0_0 s0_0).bind fun x9 => ((z0m n x9.task).bind fun x10 => (if x10 = true then ((z89 x9.who).bind fun x12 => (if x12 = true then (gd (ok64 (s0_0 + 1)) ((z6g n p0_0 p0_1 kx0_0 n0) (s0_0 + 1))) else (some false))) else (some false)))) else (kx0_0)
def zm4 (n : GNet) (c : GCase) : Option Bool := (za5 n c.marks).bind fun x1 => (if x1 = true then ((z4s n c.busy).bind fun x3 => (if x3 = true then ((z39 c.data).bind fun x5 => (if x5 = true then (if decide (60 < (c.did.length : Int)) = true then (some false) else (z6g n c.did (c.did.length : Int) (zd7 c) FUEL 0)) else (some false))) else (some false))) else (some false))
def z52 : Con := ⟨30, [.v (.s .net) false, .v (.s .kase) false], [(.B, true)], [], fun x => zm4 x.1 x.2.1⟩
def wl3 : Fs := ⟨[zm2, z0r, z53, z1n, zd2], [], []⟩
theorem yw1 : wl3.Ok Tryz.prog := (fsK y7v (fsK zp1 (fsK z6x (fsK z4d (fsK y80 fs0)))))
def yd6 : Tmpl := ⟨[(2, .c (.bx 2 0)), (3, .c (.bx 3 0)), (32, .c (.s (.s .did))), (33, .c .i), (34, .c .i)], [(2, .boxT (.s .net)), (3, .boxT (.s .kase))]⟩
def y8s : Tmpl := ⟨[(3, .c (.bx 3 0))], [(3, .boxT (.s .kase))]⟩
def w56 (av : AV) (x : HP z52.ps) (n : Nat) (v : yd6.den) (K : Ks (CR z52)) : Option (CR z52) := z6g v.2.1 v.1.2.2.1 v.1.2.2.2.1 (y8s.at none (((), ()), (v.2.2.1, ())) (K (.exit 0))) n v.1.2.2.2.2.1
def yb5 (av : AV) (x : HP z52.ps) : Hdl (CR z52) := hnd [] yd6 (w56 av x)
theorem w6r : LP z52 Tryz.f30 [0] yb5 := lp_ok (W := []) (H := []) (xs := [y8s]) yw1 trivial rfl (fun av x v K => by kernel_rfl) (fun av x n v K => by kernel_rfl)
theorem yy0 : z52.Ok Tryz.prog := fn_ok (k := z52) (fn := Tryz.f30) (W := []) (H := [yb5]) Tryz.func30 yw1 ⟨w6r, trivial⟩ rfl rfl (fun av x => by kernel_rfl)
def z7o (n : GNet) (c : GCase) : Option Bool := (zm4 n c).bind fun x1 => (if x1 = true then (some (decide (c.state = 1))) else (some false))
def z98 : Con := ⟨85, [.v (.s .net) false, .v (.s .kase) false], [(.B, true)], [], fun x => z7o x.1 x.2.1⟩
def w5v : Fs := ⟨[z52], [], []⟩
theorem w6i : w5v.Ok Tryz.prog := (fsK yy0 fs0)
theorem y0s : z98.Ok Tryz.prog := fn_ok (k := z98) (fn := Tryz.f85) (W := []) (H := []) Tryz.func85 w6i trivial rfl rfl (fun av x => by kernel_rfl)
def zd8 (n : GNet) (people : List Int) (c : GCase) (t : Int) (who : Int) : Option (GCase × Bool) := (z08 c).bind fun x1 => ((z7o n c).bind fun x2 => (if x2 = true then (if decide ((c.busy.length : Int) = 6) = true then (some (x1, false)) else ((zr2 n c.marks c.busy t).bind fun x5 => (if x5 = true then ((zr5 n people c.did c.busy t).bind fun x7 => ((za2 x7 who).bind fun x8 => (if x8 = true then ((z7v n c.marks t).bind fun x10 => (gd (x1.busy.length + [(GItem.mk t who 0)].length ≤ SMALL) ((z08 (GCase.mk x1.state x10 (x1.busy ++ [(GItem.mk t who 0)]) x1.data x1.did)).bind fun x12 => (some (x12, true))))) else (some (x1, false))))) else (some (x1, false))))) else (some (x1, false))))
def zu6 : Con := ⟨27, [.v (.s .net) false, .v (.sl .I) false, .v (.s .kase) false, .v .I false, .v .I false], [((.s .kase), true), (.B, true)], [], fun x => zd8 x.1 x.2.1 x.2.2.1 x.2.2.2.1 x.2.2.2.2.1⟩
def w2j : Fs := ⟨[z33, z98, y37, y3a, zm0, z1f], [], []⟩
theorem w34 : w2j.Ok Tryz.prog := (fsK z6e (fsK y0s (fsK we4 (fsK we7 (fsK y7s (fsK yn0 fs0))))))
theorem w42 : zu6.Ok Tryz.prog := fn_ok (k := zu6) (fn := Tryz.f27) (W := []) (H := []) Tryz.func27 w34 trivial rfl rfl (fun av x => by kernel_rfl)
end
end Go.Am
