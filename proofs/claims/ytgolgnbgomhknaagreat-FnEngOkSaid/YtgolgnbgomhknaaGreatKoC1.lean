/- Mirrors and contracts, printed. Own work. -/
import Derived.Test.YtgolgnbgomhknaaGreatKoB5
set_option maxRecDepth 100000
set_option maxHeartbeats 4000000
set_option linter.unusedVariables false
set_option linter.unusedSimpArgs false
namespace Go.Am
noncomputable section
open Go Go.Proofs
def z00 (n : Int) (low : Int) (high : Int) : Option Bool := if decide (low ≤ n) = true then (some (decide (n ≤ high))) else (some false)
def z0g : Con := ⟨90, [.v .I false, .v .I false, .v .I false], [(.B, true)], [], fun x => z00 x.1 x.2.1 x.2.2.1⟩
def w42 : Fs := ⟨[], [], []⟩
theorem w45 : w42.Ok Tryz.prog := fs0
theorem z0i : z0g.Ok Tryz.prog := fn_ok (k := z0g) (fn := Tryz.f90) (W := []) (H := []) Tryz.func90 w45 trivial rfl rfl (fun av x => by kernel_rfl)
def zz9  : Option Bool := some true
def z4k (data : List Int) (kx0_0 : Option Bool) : Nat → Int → Option Bool
  | 0, _ => none
  | n0 + 1, s0_0 => if decide (s0_0 < (data.length : Int)) = true then ((getI data s0_0).bind fun x3 => ((z00 x3 (-99) 99).bind fun x4 => (if x4 = true then (gd (ok64 (s0_0 + 1)) ((z4k data kx0_0 n0) (s0_0 + 1))) else (some false)))) else (kx0_0)
def z1n (data : List Int) : Option Bool := if decide ((data.length : Int) = 3) = true then (z4k data zz9 FUEL 0) else (some false)
def z0t : Con := ⟨89, [.v (.sl .I) false], [(.B, true)], [], fun x => z1n x.1⟩
def w1i : Fs := ⟨[z0g], [], []⟩
theorem y6y : w1i.Ok Tryz.prog := (fsK z0i fs0)
def y2v : Tmpl := ⟨[(0, .c (.s .I)), (3, .c .i)], []⟩
def y16 : Tmpl := ⟨[], []⟩
def yh8 (av : AV) (x : HP z0t.ps) (n : Nat) (v : y2v.den) (K : Ks (CR z0t)) : Option (CR z0t) := z4k v.1.1 (y16.at none ((), ()) (K (.exit 0))) n v.1.2.1
def y2c (av : AV) (x : HP z0t.ps) : Hdl (CR z0t) := hnd [] y2v (yh8 av x)
theorem ym4 : LP z0t Tryz.f89 [0] y2c := lp_ok (W := []) (H := []) (xs := [y16]) y6y trivial rfl (fun av x v K => by kernel_rfl) (fun av x n v K => by kernel_rfl)
theorem z4a : z0t.Ok Tryz.prog := fn_ok (k := z0t) (fn := Tryz.f89) (W := []) (H := [y2c]) Tryz.func89 y6y ⟨ym4, trivial⟩ rfl rfl (fun av x => by kernel_rfl)
def z4v (data : List Int) (k : Int) (n : Int) : Option (List Int) := (z1n data).bind fun x1 => (if x1 = true then ((z00 k 0 2).bind fun x3 => (if x3 = true then ((z00 n (-99) 99).bind fun x5 => (if x5 = true then (gd (([] : List Int).length + data.length ≤ SMALL) ((getI (([] : List Int) ++ data) k).bind fun x8 => (some ((([] : List Int) ++ data).set k.toNat n)))) else (gd (([] : List Int).length + data.length ≤ SMALL) (some (([] : List Int) ++ data))))) else (gd (([] : List Int).length + data.length ≤ SMALL) (some (([] : List Int) ++ data))))) else (gd (([] : List Int).length + data.length ≤ SMALL) (some (([] : List Int) ++ data))))
def z9j : Con := ⟨171, [.v (.sl .I) false, .v .I false, .v .I false], [((.sl .I), true)], [], fun x => z4v x.1 x.2.1 x.2.2.1⟩
def yt5 : Fs := ⟨[z0t, z0g], [], []⟩
theorem yw3 : yt5.Ok Tryz.prog := (fsK z4a (fsK z0i fs0))
theorem y4o : z9j.Ok Tryz.prog := fn_ok (k := z9j) (fn := Tryz.f171) (W := []) (H := []) Tryz.func171 yw3 trivial rfl rfl (fun av x => by kernel_rfl)
def z46 (e : GAsk) : Option Bool := if decide (e.op = 0) = true then (some (decide ([e.op, e.var, e.k] = [0, 0, 0]))) else ((z00 e.op 1 3).bind fun x2 => (if x2 = true then ((z00 e.var 0 2).bind fun x4 => (if x4 = true then ((z00 e.k (-99) 99).bind fun x6 => (some x6)) else (some false))) else (some false)))
def z5h : Con := ⟨138, [.v (.s .ask) false], [(.B, true)], [], fun x => z46 x.1⟩
def w1k : Fs := ⟨[z0g], [], []⟩
theorem w21 : w1k.Ok Tryz.prog := (fsK z0i fs0)
theorem z8t : z5h.Ok Tryz.prog := fn_ok (k := z5h) (fn := Tryz.f138) (W := []) (H := []) Tryz.func138 w21 trivial rfl rfl (fun av x => by kernel_rfl)
def z0x (e : GAsk) (data : List Int) : Option Bool := (z46 e).bind fun x1 => (if x1 = true then ((z1n data).bind fun x3 => (if x3 = true then (if decide (e.op = 1) = true then ((getI data e.var).bind fun x6 => (some (decide (x6 < e.k)))) else (if decide (e.op = 2) = true then ((getI data e.var).bind fun x8 => (some (decide (x8 = e.k)))) else (if decide (e.op = 3) = true then ((getI data e.var).bind fun x10 => (some (decide (e.k < x10)))) else (some true)))) else (some false))) else (some false))
def z2w : Con := ⟨181, [.v (.s .ask) false, .v (.sl .I) false], [(.B, true)], [], fun x => z0x x.1 x.2.1⟩
def ya1 : Fs := ⟨[z5h, z0t], [], []⟩
theorem yb7 : ya1.Ok Tryz.prog := (fsK z8t (fsK z4a fs0))
theorem z4r : z2w.Ok Tryz.prog := fn_ok (k := z2w) (fn := Tryz.f181) (W := []) (H := []) Tryz.func181 yb7 trivial rfl rfl (fun av x => by kernel_rfl)
def z0l (n : Int) (low : Int) (high : Int) : Option Bool := if decide (low ≤ n) = true then (some (decide (n ≤ high))) else (some false)
def z1r : Con := ⟨113, [.v .I false, .v .I false, .v .I false], [(.B, true)], [], fun x => z0l x.1 x.2.1 x.2.2.1⟩
def w8a : Fs := ⟨[], [], []⟩
theorem w8l : w8a.Ok Tryz.prog := fs0
theorem z2z : z1r.Ok Tryz.prog := fn_ok (k := z1r) (fn := Tryz.f113) (W := []) (H := []) Tryz.func113 w8l trivial rfl rfl (fun av x => by kernel_rfl)
def z65 (n : Int) : Option Bool := (z0l n (-99) 99).bind fun x1 => (some x1)
def z8a : Con := ⟨114, [.v .I false], [(.B, true)], [], fun x => z65 x.1⟩
def yj1 : Fs := ⟨[z1r], [], []⟩
theorem yl2 : yj1.Ok Tryz.prog := (fsK z2z fs0)
theorem y2m : z8a.Ok Tryz.prog := fn_ok (k := z8a) (fn := Tryz.f114) (W := []) (H := []) Tryz.func114 yl2 trivial rfl rfl (fun av x => by kernel_rfl)
def z6o (e : GAsk) : Option Bool := if decide (e.op = 0) = true then (if decide (e.var = 0) = true then (some (decide (e.k = 0))) else (some false)) else ((z0l e.op 1 3).bind fun x3 => (if x3 = true then ((z0l e.var 0 2).bind fun x5 => (if x5 = true then ((z65 e.k).bind fun x7 => (some x7)) else (some false))) else (some false)))
def zc9 : Con := ⟨141, [.v (.s .ask) false], [(.B, true)], [], fun x => z6o x.1⟩
def w1c : Fs := ⟨[z1r, z8a], [], []⟩
theorem w1x : w1c.Ok Tryz.prog := (fsK z2z (fsK y2m fs0))
theorem y7c : zc9.Ok Tryz.prog := fn_ok (k := zc9) (fn := Tryz.f141) (W := []) (H := []) Tryz.func141 w1x trivial rfl rfl (fun av x => by kernel_rfl)
def zk2  : Option Bool := some true
def z2h (list : List Int) (low : Int) (high : Int) (kx0_0 : Option Bool) : Nat → Int → Option Bool
  | 0, _ => none
  | n0 + 1, s0_0 => if decide (s0_0 < (list.length : Int)) = true then ((getI list s0_0).bind fun x4 => ((z00 x4 low high).bind fun x5 => (if x5 = true then (if decide (0 < s0_0) = true then (gd (ok64 (s0_0 - 1)) ((getI list (s0_0 - 1)).bind fun x9 => ((getI list s0_0).bind fun x10 => (if decide (x10 ≤ x9) = true then (some false) else (gd (ok64 (s0_0 + 1)) ((z2h list low high kx0_0 n0) (s0_0 + 1))))))) else (gd (ok64 (s0_0 + 1)) ((z2h list low high kx0_0 n0) (s0_0 + 1)))) else (some false)))) else (kx0_0)
def z68 (list : List Int) (least : Int) (most : Int) (low : Int) (high : Int) : Option Bool := (z00 (list.length : Int) least most).bind fun x1 => (if x1 = true then (z2h list low high zk2 FUEL 0) else (some false))
def z2s : Con := ⟨214, [.v (.sl .I) false, .v .I false, .v .I false, .v .I false, .v .I false], [(.B, true)], [], fun x => z68 x.1 x.2.1 x.2.2.1 x.2.2.2.1 x.2.2.2.2.1⟩
def yk7 : Fs := ⟨[z0g], [], []⟩
theorem y26 : yk7.Ok Tryz.prog := (fsK z0i fs0)
def zu1 : Tmpl := ⟨[(0, .c (.s .I)), (3, .c .i), (4, .c .i), (11, .c .i)], []⟩
def zn2 : Tmpl := ⟨[], []⟩
def y81 (av : AV) (x : HP z2s.ps) (n : Nat) (v : zu1.den) (K : Ks (CR z2s)) : Option (CR z2s) := z2h v.1.1 v.1.2.1 v.1.2.2.1 (zn2.at none ((), ()) (K (.exit 0))) n v.1.2.2.2.1
def zr5 (av : AV) (x : HP z2s.ps) : Hdl (CR z2s) := hnd [] zu1 (y81 av x)
theorem y8r : LP z2s Tryz.f214 [0] zr5 := lp_ok (W := []) (H := []) (xs := [zn2]) y26 trivial rfl (fun av x v K => by kernel_rfl) (fun av x n v K => by kernel_rfl)
theorem yo9 : z2s.Ok Tryz.prog := fn_ok (k := z2s) (fn := Tryz.f214) (W := []) (H := [zr5]) Tryz.func214 y26 ⟨y8r, trivial⟩ rfl rfl (fun av x => by kernel_rfl)
def y09  : Option Bool := some false
def z4q (list : List Int) (n : Int) (kx0_0 : Option Bool) : Nat → Int → Option Bool
  | 0, _ => none
  | n0 + 1, s0_0 => if decide (s0_0 < (list.length : Int)) = true then ((getI list s0_0).bind fun x2 => (if decide (x2 = n) = true then (some true) else (gd (ok64 (s0_0 + 1)) ((z4q list n kx0_0 n0) (s0_0 + 1))))) else (kx0_0)
def z6r (list : List Int) (n : Int) : Option Bool := z4q list n y09 FUEL 0
def z2x : Con := ⟨101, [.v (.sl .I) false, .v .I false], [(.B, true)], [], fun x => z6r x.1 x.2.1⟩
def w1q : Fs := ⟨[], [], []⟩
theorem y74 : w1q.Ok Tryz.prog := fs0
def y32 : Tmpl := ⟨[(0, .c (.s .I)), (1, .c .i), (5, .c .i)], []⟩
def y1c : Tmpl := ⟨[], []⟩
def yi5 (av : AV) (x : HP z2x.ps) (n : Nat) (v : y32.den) (K : Ks (CR z2x)) : Option (CR z2x) := z4q v.1.1 v.1.2.1 (y1c.at none ((), ()) (K (.exit 0))) n v.1.2.2.1
def y2j (av : AV) (x : HP z2x.ps) : Hdl (CR z2x) := hnd [] y32 (yi5 av x)
theorem yn1 : LP z2x Tryz.f101 [0] y2j := lp_ok (W := []) (H := []) (xs := [y1c]) y74 trivial rfl (fun av x v K => by kernel_rfl) (fun av x n v K => by kernel_rfl)
theorem y0i : z2x.Ok Tryz.prog := fn_ok (k := z2x) (fn := Tryz.f101) (W := []) (H := [y2j]) Tryz.func101 y74 ⟨yn1, trivial⟩ rfl rfl (fun av x => by kernel_rfl)
def zj9 (s0_0 : Int) (bk0 : Int → Option Bool) : Option Bool := gd (ok64 (s0_0 + 1)) (bk0 (s0_0 + 1))
def z1o (t : GTask) (s0_0 : Int) (x4 : GFlow) (kx1_0 : Option Bool) : Nat → Int → Option Bool
  | 0, _ => none
  | n1 + 1, s1_0 => if decide (s1_0 < s0_0) = true then ((getI t.out s1_0).bind fun x14 => (if decide (x14.to = x4.to) = true then (some false) else (gd (ok64 (s1_0 + 1)) ((z1o t s0_0 x4 kx1_0 n1) (s1_0 + 1))))) else (kx1_0)
def zk0 (s0_0 : Int) (bk0 : Int → Option Bool) : Option Bool := gd (ok64 (s0_0 + 1)) (bk0 (s0_0 + 1))
def zk1  : Option Bool := some true
def z2g (t : GTask) (places : Int) (kx0_0 : Option Bool) : Nat → Int → Option Bool
  | 0, _ => none
  | n0 + 1, s0_0 => if decide (s0_0 < (t.out.length : Int)) = true then ((getI t.out s0_0).bind fun x4 => (gd (ok64 ((t.out.length : Int) - 1)) (if decide (s0_0 = ((t.out.length : Int) - 1)) = true then (gd (ok64 (places - 1)) ((z00 x4.to 1 (places - 1)).bind fun x8 => (if x8 = true then ((z46 x4.if_).bind fun x10 => (if x10 = true then (if (true == (decide (x4.if_.op = 0))) = true then (z1o t s0_0 x4 (zj9 s0_0 (z2g t places kx0_0 n0)) FUEL 0) else (some false)) else (some false))) else (some false)))) else (gd (ok64 (places - 1)) ((z00 x4.to 1 (places - 1)).bind fun x19 => (if x19 = true then ((z46 x4.if_).bind fun x21 => (if x21 = true then (if ((decide (t.split = 1)) == (decide (x4.if_.op = 0))) = true then (z1o t s0_0 x4 (zk0 s0_0 (z2g t places kx0_0 n0)) FUEL 0) else (some false)) else (some false))) else (some false))))))) else (kx0_0)
def z8l (t : GTask) (places : Int) : Option Bool := (z00 (t.out.length : Int) 1 3).bind fun x1 => (if x1 = true then (z2g t places zk1 FUEL 0) else (some false))
def z0k : Con := ⟨215, [.v (.s .task) false, .v .I false], [(.B, true)], [], fun x => z8l x.1 x.2.1⟩
def yk6 : Fs := ⟨[z0g, z5h], [], []⟩
theorem zg0 : yk6.Ok Tryz.prog := (fsK z0i (fsK z8t fs0))
def ze4 : Tmpl := ⟨[(1, .c .i), (2, .c (.bx 2 0)), (5, .c .i), (6, .c (.bx 6 0)), (8, .c .i)], [(2, .boxT (.s .task)), (6, .boxT (.s .flow))]⟩
def zc1 : Tmpl := ⟨[(1, .c .i), (2, .c (.bx 2 0)), (5, .c .i)], [(2, .boxT (.s .task))]⟩
def y3o (av : AV) (x : HP z0k.ps) (n : Nat) (v : ze4.den) (K : Ks (CR z0k)) : Option (CR z0k) := z1o v.2.1 v.1.2.2.1 v.2.2.1 (zc1.at none ((v.1.1, (), v.1.2.2.1, ()), (v.2.1, ())) (K (.exit 2))) n v.1.2.2.2.2.1
def zc7 (av : AV) (x : HP z0k.ps) : Hdl (CR z0k) := hnd [] ze4 (y3o av x)
theorem y4c : LP z0k Tryz.f215 [0, 0] zc7 := lp_ok (W := []) (H := []) (xs := [zc1]) zg0 trivial rfl (fun av x v K => by kernel_rfl) (fun av x n v K => by kernel_rfl)
def zu0 : Tmpl := ⟨[(1, .c .i), (2, .c (.bx 2 0)), (5, .c .i)], [(2, .boxT (.s .task))]⟩
def zn1 : Tmpl := ⟨[], []⟩
def y80 (av : AV) (x : HP z0k.ps) (n : Nat) (v : zu0.den) (K : Ks (CR z0k)) : Option (CR z0k) := z2g v.2.1 v.1.1 (zn1.at none ((), ()) (K (.exit 0))) n v.1.2.2.1
def zr4 (av : AV) (x : HP z0k.ps) : Hdl (CR z0k) := hnd [] zu0 (y80 av x)
theorem y8q : LP z0k Tryz.f215 [0] zr4 := lp_ok (W := []) (H := [zc7]) (xs := [zn1]) zg0 ⟨y4c, trivial⟩ rfl (fun av x v K => by kernel_rfl) (fun av x n v K => by kernel_rfl)
theorem yo8 : z0k.Ok Tryz.prog := fn_ok (k := z0k) (fn := Tryz.f215) (W := []) (H := [zr4]) Tryz.func215 zg0 ⟨y8q, trivial⟩ rfl rfl (fun av x => by kernel_rfl)
def z9t (t : GTask) (places : Int) (tasks : Int) : Option Bool := (z00 t.join 1 3).bind fun x1 => (if x1 = true then ((z00 t.split 1 3).bind fun x3 => (if x3 = true then (gd (ok64 (places - 1)) ((z68 t.in_ 1 3 0 (places - 1)).bind fun x6 => (if x6 = true then ((z6r t.in_ 1).bind fun x8 => (if x8 = true then (some false) else ((z8l t places).bind fun x10 => (if x10 = true then (gd (ok64 (places - 1)) ((z68 t.clear 0 places 2 (places - 1)).bind fun x13 => (if x13 = true then ((z00 t.role 1 3).bind fun x15 => (if x15 = true then (gd (ok64 (tasks - 1)) ((z00 t.apart (-1) (tasks - 1)).bind fun x18 => (if x18 = true then ((z00 t.all 1 3).bind fun x20 => (if x20 = true then ((z00 t.need 1 t.all).bind fun x22 => (some x22)) else (some false))) else (some false)))) else (some false))) else (some false)))) else (some false))))) else (some false)))) else (some false))) else (some false))
def zo3 : Con := ⟨198, [.v (.s .task) false, .v .I false, .v .I false], [(.B, true)], [], fun x => z9t x.1 x.2.1 x.2.2.1⟩
def yu7 : Fs := ⟨[z0g, z2s, z2x, z0k], [], []⟩
theorem yx0 : yu7.Ok Tryz.prog := (fsK z0i (fsK yo9 (fsK y0i (fsK yo8 fs0))))
theorem yz6 : zo3.Ok Tryz.prog := fn_ok (k := zo3) (fn := Tryz.f198) (W := []) (H := []) Tryz.func198 yx0 trivial rfl rfl (fun av x => by kernel_rfl)
def y02  : Option Bool := some true
def z4n (n : GNet) (kx0_0 : Option Bool) : Nat → Int → Option Bool
  | 0, _ => none
  | n0 + 1, s0_0 => if decide (s0_0 < (n.tasks.length : Int)) = true then ((getI n.tasks s0_0).bind fun x6 => ((z9t x6 n.places (n.tasks.length : Int)).bind fun x7 => (if x7 = true then (gd (ok64 (s0_0 + 1)) ((z4n n kx0_0 n0) (s0_0 + 1))) else (some false)))) else (kx0_0)
def z26 (n : GNet) : Option Bool := (z00 n.places 2 8).bind fun x1 => (if x1 = true then ((z00 (n.tasks.length : Int) 1 6).bind fun x3 => (if x3 = true then (z4n n y02 FUEL 0) else (some false))) else (some false))
def z1m : Con := ⟨161, [.v (.s .net) false], [(.B, true)], [], fun x => z26 x.1⟩
def w1m : Fs := ⟨[z0g, zo3], [], []⟩
theorem y71 : w1m.Ok Tryz.prog := (fsK z0i (fsK yz6 fs0))
def y2y : Tmpl := ⟨[(1, .c (.bx 1 0)), (3, .c .i)], [(1, .boxT (.s .net))]⟩
def y19 : Tmpl := ⟨[], []⟩
def yi1 (av : AV) (x : HP z1m.ps) (n : Nat) (v : y2y.den) (K : Ks (CR z1m)) : Option (CR z1m) := z4n v.2.1 (y19.at none ((), ()) (K (.exit 0))) n v.1.2.1
def y2f (av : AV) (x : HP z1m.ps) : Hdl (CR z1m) := hnd [] y2y (yi1 av x)
theorem ym7 : LP z1m Tryz.f161 [0] y2f := lp_ok (W := []) (H := []) (xs := [y19]) y71 trivial rfl (fun av x v K => by kernel_rfl) (fun av x n v K => by kernel_rfl)
theorem z8u : z1m.Ok Tryz.prog := fn_ok (k := z1m) (fn := Tryz.f161) (W := []) (H := [y2f]) Tryz.func161 y71 ⟨ym7, trivial⟩ rfl rfl (fun av x => by kernel_rfl)
def z7k (s1_0 : Int) (bk1 : Int → List Bool → Option (List Bool)) (l3_1 : List Bool) : Option (List Bool) := gd (ok64 (s1_0 + 1)) (bk1 (s1_0 + 1) l3_1)
def z7l (s1_0 : Int) (bk1 : Int → List Bool → Option (List Bool)) (l3_1 : List Bool) : Option (List Bool) := gd (ok64 (s1_0 + 1)) (bk1 (s1_0 + 1) l3_1)
def z7m (s1_0 : Int) (bk1 : Int → List Bool → Option (List Bool)) (l3_1 : List Bool) : Option (List Bool) := gd (ok64 (s1_0 + 1)) (bk1 (s1_0 + 1) l3_1)
def z11 (n : GNet) (but : Int) (s1_0 : Int) (s2_0 : Bool) (kx3_0 : List Bool → Option (List Bool)) (kx3_1 : List Bool → Option (List Bool)) (kx3_2 : List Bool → Option (List Bool)) : Nat → Int → List Bool → Option (List Bool)
  | 0, _, _ => none
  | n3 + 1, s3_0, l3_1 => (getI n.tasks s1_0).bind fun x12 => (if decide (s3_0 < (x12.out.length : Int)) = true then (if s2_0 = true then (if decide (s1_0 = but) = true then (kx3_0 l3_1) else ((getI n.tasks s1_0).bind fun x17 => ((getI x17.out s3_0).bind fun x18 => ((getI l3_1 x18.to).bind fun x19 => (gd (ok64 (s3_0 + 1)) ((z11 n but s1_0 s2_0 kx3_0 kx3_1 kx3_2 n3) (s3_0 + 1) (l3_1.set x18.to.toNat true))))))) else (kx3_1 l3_1)) else (kx3_2 l3_1))
def zd4 (n : GNet) (but : Int) (s1_0 : Int) (l1_1 : List Bool) (bk1 : Int → List Bool → Option (List Bool)) (s2_0 : Bool) : Option (List Bool) := z11 n but s1_0 s2_0 (z7k s1_0 bk1) (z7l s1_0 bk1) (z7m s1_0 bk1) FUEL 0 l1_1
def z1b (n : GNet) (s1_0 : Int) (l1_1 : List Bool) (kx2_0 : Bool → Option (List Bool)) : Nat → Bool → Int → Option (List Bool)
  | 0, _, _ => none
  | n2 + 1, s2_0, s2_1 => (getI n.tasks s1_0).bind fun x4 => (if decide (s2_1 < (x4.in_.length : Int)) = true then (if s2_0 = true then (gd (ok64 (s2_1 + 1)) ((z1b n s1_0 l1_1 kx2_0 n2) true (s2_1 + 1))) else ((getI n.tasks s1_0).bind fun x8 => ((getI x8.in_ s2_1).bind fun x9 => ((getI l1_1 x9).bind fun x10 => (gd (ok64 (s2_1 + 1)) ((z1b n s1_0 l1_1 kx2_0 n2) x10 (s2_1 + 1))))))) else (kx2_0 s2_0))
def zd5 (s0_0 : Int) (bk0 : Int → List Bool → Option (List Bool)) (l1_1 : List Bool) : Option (List Bool) := gd (ok64 (s0_0 + 1)) (bk0 (s0_0 + 1) l1_1)
def z0d (n : GNet) (but : Int) (kx1_0 : List Bool → Option (List Bool)) : Nat → Int → List Bool → Option (List Bool)
  | 0, _, _ => none
  | n1 + 1, s1_0, l1_1 => if decide (s1_0 < (n.tasks.length : Int)) = true then (z1b n s1_0 l1_1 (zd4 n but s1_0 l1_1 (z0d n but kx1_0 n1)) FUEL false 0) else (kx1_0 l1_1)
def zd6 (l0_1 : List Bool) : Option (List Bool) := some l0_1
def z33 (n : GNet) (but : Int) (kx0_0 : List Bool → Option (List Bool)) : Nat → Int → List Bool → Option (List Bool)
  | 0, _, _ => none
  | n0 + 1, s0_0, l0_1 => if decide (s0_0 < n.places) = true then (z0d n but (zd5 s0_0 (z33 n but kx0_0 n0)) FUEL 0 l0_1) else (kx0_0 l0_1)
def z7j (n : GNet) (marked : List Bool) (but : Int) : Option (List Bool) := gd (([] : List Bool).length + marked.length ≤ SMALL) (z33 n but zd6 FUEL 0 (([] : List Bool) ++ marked))
def z04 : Con := ⟨216, [.v (.s .net) false, .v (.sl .B) false, .v .I false], [((.sl .B), true)], [], fun x => z7j x.1 x.2.1 x.2.2.1⟩
def ya6 : Fs := ⟨[], [], []⟩
theorem z5d : ya6.Ok Tryz.prog := fs0
def z8w : Tmpl := ⟨[(2, .c .i), (3, .c (.bx 3 0)), (7, .c (.ref 15)), (8, .c .i), (9, .c .i), (10, .c .b), (11, .c .i)], [(3, .boxT (.s .net)), (15, .arr .B true)]⟩
def z83 : Tmpl := ⟨[(2, .c .i), (3, .c (.bx 3 0)), (7, .c (.ref 15)), (8, .c .i), (9, .c .i), (10, .c .b)], [(3, .boxT (.s .net)), (15, .arr .B true)]⟩
def zv9 (av : AV) (x : HP z04.ps) (n : Nat) (v : z8w.den) (K : Ks (CR z04)) : Option (CR z04) := z1b v.2.1 v.1.2.2.2.2.1 v.2.2.1 (fun s2_0 => z83.at none ((v.1.1, (), (), v.1.2.2.2.1, v.1.2.2.2.2.1, s2_0, ()), (v.2.1, v.2.2.1, ())) (K (.exit 4))) n v.1.2.2.2.2.2.1 v.1.2.2.2.2.2.2.1
def z8m (av : AV) (x : HP z04.ps) : Hdl (CR z04) := hnd [] z8w (zv9 av x)
theorem zz3 : LP z04 Tryz.f216 [0, 0, 0] z8m := lp_ok (W := []) (H := []) (xs := [z83]) z5d trivial rfl (fun av x v K => by kernel_rfl) (fun av x n v K => by kernel_rfl)
def z8x : Tmpl := ⟨[(2, .c .i), (3, .c (.bx 3 0)), (7, .c (.ref 15)), (8, .c .i), (9, .c .i), (10, .c .b), (12, .c .i)], [(3, .boxT (.s .net)), (15, .arr .B true)]⟩
def z3q : Tmpl := ⟨[(2, .c .i), (3, .c (.bx 3 0)), (7, .c (.ref 15)), (8, .c .i), (9, .c .i)], [(3, .boxT (.s .net)), (15, .arr .B true)]⟩
def zw0 (av : AV) (x : HP z04.ps) (n : Nat) (v : z8x.den) (K : Ks (CR z04)) : Option (CR z04) := z11 v.2.1 v.1.1 v.1.2.2.2.2.1 v.1.2.2.2.2.2.1 (fun l3_1 => z3q.at none ((v.1.1, (), (), v.1.2.2.2.1, v.1.2.2.2.2.1, ()), (v.2.1, l3_1, ())) (K (.exit 6))) (fun l3_1 => z3q.at none ((v.1.1, (), (), v.1.2.2.2.1, v.1.2.2.2.2.1, ()), (v.2.1, l3_1, ())) (K (.exit 6))) (fun l3_1 => z3q.at none ((v.1.1, (), (), v.1.2.2.2.1, v.1.2.2.2.2.1, ()), (v.2.1, l3_1, ())) (K (.exit 6))) n v.1.2.2.2.2.2.2.1 v.2.2.1
def z8n (av : AV) (x : HP z04.ps) : Hdl (CR z04) := hnd [] z8x (zw0 av x)
theorem zz4 : LP z04 Tryz.f216 [0, 0, 1] z8n := lp_ok (W := []) (H := []) (xs := [z3q]) z5d trivial rfl (fun av x v K => by kernel_rfl) (fun av x n v K => by kernel_rfl)
def zb8 : Tmpl := ⟨[(2, .c .i), (3, .c (.bx 3 0)), (7, .c (.ref 15)), (8, .c .i), (9, .c .i)], [(3, .boxT (.s .net)), (15, .arr .B true)]⟩
def z9d : Tmpl := ⟨[(2, .c .i), (3, .c (.bx 3 0)), (7, .c (.ref 15)), (8, .c .i)], [(3, .boxT (.s .net)), (15, .arr .B true)]⟩
def y34 (av : AV) (x : HP z04.ps) (n : Nat) (v : zb8.den) (K : Ks (CR z04)) : Option (CR z04) := z0d v.2.1 v.1.1 (fun l1_1 => z9d.at none ((v.1.1, (), (), v.1.2.2.2.1, ()), (v.2.1, l1_1, ())) (K (.exit 2))) n v.1.2.2.2.2.1 v.2.2.1
def za6 (av : AV) (x : HP z04.ps) : Hdl (CR z04) := hnd [] zb8 (y34 av x)
theorem y3e : LP z04 Tryz.f216 [0, 0] za6 := lp_ok (W := []) (H := [z8m, z8n]) (xs := [z9d]) z5d ⟨zz3, zz4, trivial⟩ rfl (fun av x v K => by kernel_rfl) (fun av x n v K => by kernel_rfl)
def zl5 : Tmpl := ⟨[(2, .c .i), (3, .c (.bx 3 0)), (7, .c (.ref 15)), (8, .c .i)], [(3, .boxT (.s .net)), (15, .arr .B true)]⟩
def zf2 : Tmpl := ⟨[(7, .c (.ref 15))], [(15, .arr .B true)]⟩
def y5m (av : AV) (x : HP z04.ps) (n : Nat) (v : zl5.den) (K : Ks (CR z04)) : Option (CR z04) := z33 v.2.1 v.1.1 (fun l0_1 => zf2.at none (((), ()), (l0_1, ())) (K (.exit 0))) n v.1.2.2.2.1 v.2.2.1
def zi9 (av : AV) (x : HP z04.ps) : Hdl (CR z04) := hnd [] zl5 (y5m av x)
theorem y66 : LP z04 Tryz.f216 [0] zi9 := lp_ok (W := []) (H := [za6]) (xs := [zf2]) z5d ⟨y3e, trivial⟩ rfl (fun av x v K => by kernel_rfl) (fun av x n v K => by kernel_rfl)
theorem ye2 : z04.Ok Tryz.prog := fn_ok (k := z04) (fn := Tryz.f216) (W := []) (H := [zi9]) Tryz.func216 z5d ⟨y66, trivial⟩ rfl rfl (fun av x => by kernel_rfl)
def z9m (kind : Int) : Option Bool := (z0l kind 1 3).bind fun x1 => (some x1)
def zn8 : Con := ⟨177, [.v .I false], [(.B, true)], [], fun x => z9m x.1⟩
def yt2 : Fs := ⟨[z1r], [], []⟩
theorem yw0 : yt2.Ok Tryz.prog := (fsK z2z fs0)
theorem yy8 : zn8.Ok Tryz.prog := fn_ok (k := zn8) (fn := Tryz.f177) (W := []) (H := []) Tryz.func177 yw0 trivial rfl rfl (fun av x => by kernel_rfl)
def zo8 (role : Int) : Option Bool := (z0l role 1 3).bind fun x1 => (some x1)
def zn9 : Con := ⟨151, [.v .I false], [(.B, true)], [], fun x => zo8 x.1⟩
def yt3 : Fs := ⟨[z1r], [], []⟩
theorem yw1 : yt3.Ok Tryz.prog := (fsK z2z fs0)
theorem yy9 : zn9.Ok Tryz.prog := fn_ok (k := zn9) (fn := Tryz.f151) (W := []) (H := []) Tryz.func151 yw1 trivial rfl rfl (fun av x => by kernel_rfl)
def zg8 (places : Int) (tasks : Int) : Option Bool := (z0l places 2 8).bind fun x1 => (if x1 = true then ((z0l tasks 1 6).bind fun x3 => (some x3)) else (some false))
def zg1 : Con := ⟨122, [.v .I false, .v .I false], [(.B, true)], [], fun x => zg8 x.1 x.2.1⟩
def yj2 : Fs := ⟨[z1r], [], []⟩
theorem yl3 : yj2.Ok Tryz.prog := (fsK z2z fs0)
theorem yn7 : zg1.Ok Tryz.prog := fn_ok (k := zg1) (fn := Tryz.f122) (W := []) (H := []) Tryz.func122 yl3 trivial rfl rfl (fun av x => by kernel_rfl)
def z2y (n : GNet) (t : Int) : Option Bool := gd (ok64 ((n.tasks.length : Int) - 1)) ((z0l t 0 ((n.tasks.length : Int) - 1)).bind fun x2 => (some x2))
def z42 : Con := ⟨96, [.v (.s .net) false, .v .I false], [(.B, true)], [], fun x => z2y x.1 x.2.1⟩
def zw5 : Fs := ⟨[z1r], [], []⟩
theorem zw7 : zw5.Ok Tryz.prog := (fsK z2z fs0)
theorem z8s : z42.Ok Tryz.prog := fn_ok (k := z42) (fn := Tryz.f96) (W := []) (H := []) Tryz.func96 zw7 trivial rfl rfl (fun av x => by kernel_rfl)
def y01  : Option Bool := some true
def z4m (marks : List Int) (kx0_0 : Option Bool) : Nat → Int → Option Bool
  | 0, _ => none
  | n0 + 1, s0_0 => if decide (s0_0 < (marks.length : Int)) = true then ((getI marks s0_0).bind fun x5 => ((z00 x5 0 4).bind fun x6 => (if x6 = true then (gd (ok64 (s0_0 + 1)) ((z4m marks kx0_0 n0) (s0_0 + 1))) else (some false)))) else (kx0_0)
def z5l (n : GNet) (marks : List Int) : Option Bool := (z26 n).bind fun x1 => (if x1 = true then (if decide ((marks.length : Int) = n.places) = true then (z4m marks y01 FUEL 0) else (some false)) else (some false))
def z24 : Con := ⟨87, [.v (.s .net) false, .v (.sl .I) false], [(.B, true)], [], fun x => z5l x.1 x.2.1⟩
def w1l : Fs := ⟨[z1m, z0g], [], []⟩
theorem y70 : w1l.Ok Tryz.prog := (fsK z8u (fsK z0i fs0))
def y2x : Tmpl := ⟨[(1, .c (.s .I)), (5, .c .i)], []⟩
def y18 : Tmpl := ⟨[], []⟩
def yi0 (av : AV) (x : HP z24.ps) (n : Nat) (v : y2x.den) (K : Ks (CR z24)) : Option (CR z24) := z4m v.1.1 (y18.at none ((), ()) (K (.exit 0))) n v.1.2.1
def y2e (av : AV) (x : HP z24.ps) : Hdl (CR z24) := hnd [] y2x (yi0 av x)
theorem ym6 : LP z24 Tryz.f87 [0] y2e := lp_ok (W := []) (H := []) (xs := [y18]) y70 trivial rfl (fun av x v K => by kernel_rfl) (fun av x n v K => by kernel_rfl)
theorem zd9 : z24.Ok Tryz.prog := fn_ok (k := z24) (fn := Tryz.f87) (W := []) (H := [y2e]) Tryz.func87 y70 ⟨ym6, trivial⟩ rfl rfl (fun av x => by kernel_rfl)
def z6g (s0_0 : Bool) (s0_1 : Bool) : Option (Bool × Bool) := some (s0_0, s0_1)
def z16 (marks : List Int) (list : List Int) (kx0_0 : Bool → Bool → Option (Bool × Bool)) : Nat → Bool → Bool → Int → Option (Bool × Bool)
  | 0, _, _, _ => none
  | n0 + 1, s0_0, s0_1, s0_2 => if decide (s0_2 < (list.length : Int)) = true then (if s0_0 = true then (if s0_1 = true then ((getI list s0_2).bind fun x4 => ((getI marks x4).bind fun x5 => (gd (ok64 (s0_2 + 1)) ((z16 marks list kx0_0 n0) true (decide (0 < x5)) (s0_2 + 1))))) else (gd (ok64 (s0_2 + 1)) ((z16 marks list kx0_0 n0) true false (s0_2 + 1)))) else ((getI list s0_2).bind fun x8 => ((getI marks x8).bind fun x9 => (if s0_1 = true then ((getI list s0_2).bind fun x11 => ((getI marks x11).bind fun x12 => (gd (ok64 (s0_2 + 1)) ((z16 marks list kx0_0 n0) (decide (0 < x9)) (decide (0 < x12)) (s0_2 + 1))))) else (gd (ok64 (s0_2 + 1)) ((z16 marks list kx0_0 n0) (decide (0 < x9)) false (s0_2 + 1))))))) else (kx0_0 s0_0 s0_1)
def z9u (marks : List Int) (list : List Int) : Option (Bool × Bool) := z16 marks list z6g FUEL false true 0
def z3f : Con := ⟨200, [.v (.sl .I) false, .v (.sl .I) false], [(.B, true), (.B, true)], [], fun x => z9u x.1 x.2.1⟩
def yu9 : Fs := ⟨[], [], []⟩
theorem y42 : yu9.Ok Tryz.prog := fs0
def y0u : Tmpl := ⟨[(0, .c (.s .I)), (1, .c (.s .I)), (6, .c .b), (7, .c .b), (8, .c .i)], []⟩
def zu9 : Tmpl := ⟨[(6, .c .b), (7, .c .b)], []⟩
def y9h (av : AV) (x : HP z3f.ps) (n : Nat) (v : y0u.den) (K : Ks (CR z3f)) : Option (CR z3f) := z16 v.1.1 v.1.2.1 (fun s0_0 s0_1 => zu9.at none ((s0_0, s0_1, ()), ()) (K (.exit 0))) n v.1.2.2.1 v.1.2.2.2.1 v.1.2.2.2.2.1
def zy2 (av : AV) (x : HP z3f.ps) : Hdl (CR z3f) := hnd [] y0u (y9h av x)
theorem yc6 : LP z3f Tryz.f200 [0] zy2 := lp_ok (W := []) (H := []) (xs := [zu9]) y42 trivial rfl (fun av x v K => by kernel_rfl) (fun av x n v K => by kernel_rfl)
theorem yz7 : z3f.Ok Tryz.prog := fn_ok (k := z3f) (fn := Tryz.f200) (W := []) (H := [zy2]) Tryz.func200 y42 ⟨yc6, trivial⟩ rfl rfl (fun av x => by kernel_rfl)
def z35 (s1_0 : Int) (bk1 : Int → List Bool → Option Bool) (l2_1 : List Bool) : Option Bool := gd (ok64 (s1_0 + 1)) (bk1 (s1_0 + 1) l2_1)
def z21 (p2_0 : List GFlow) (kx2_0 : List Bool → Option Bool) : Nat → Int → List Bool → Option Bool
  | 0, _, _ => none
  | n2 + 1, s2_0, l2_1 => if decide (s2_0 < (p2_0.length : Int)) = true then ((getI p2_0 s2_0).bind fun x15 => ((getI l2_1 x15.to).bind fun x16 => (gd (ok64 (s2_0 + 1)) ((z21 p2_0 kx2_0 n2) (s2_0 + 1) (l2_1.set x15.to.toNat true))))) else (kx2_0 l2_1)
def z7p  : Option Bool := some false
def z1e (n : GNet) (marks : List Int) (t : Int) (x19 : (List Bool)) (kx3_0 : Option Bool) : Nat → Int → Option Bool
  | 0, _ => none
  | n3 + 1, s3_0 => (getI n.tasks t).bind fun x20 => (if decide (s3_0 < (x20.in_.length : Int)) = true then ((getI n.tasks t).bind fun x22 => ((getI x22.in_ s3_0).bind fun x23 => ((getI marks x23).bind fun x24 => (if decide (x24 = 0) = true then ((getI n.tasks t).bind fun x26 => ((getI x26.in_ s3_0).bind fun x27 => ((getI x19 x27).bind fun x28 => (if x28 = true then (some true) else (gd (ok64 (s3_0 + 1)) ((z1e n marks t x19 kx3_0 n3) (s3_0 + 1))))))) else (gd (ok64 (s3_0 + 1)) ((z1e n marks t x19 kx3_0 n3) (s3_0 + 1))))))) else (kx3_0))
def z1c (n : GNet) (marks : List Int) (t : Int) (l1_1 : List Bool) : Option Bool := (z7j n l1_1 t).bind fun x19 => (z1e n marks t x19 z7p FUEL 0)
def z0s (n : GNet) (busy : List GItem) (kx1_0 : List Bool → Option Bool) : Nat → Int → List Bool → Option Bool
  | 0, _, _ => none
  | n1 + 1, s1_0, l1_1 => if decide (s1_0 < (busy.length : Int)) = true then ((getI busy s1_0).bind fun x12 => ((getI n.tasks x12.task).bind fun x13 => (z21 x13.out (z35 s1_0 (z0s n busy kx1_0 n1)) FUEL 0 l1_1))) else (kx1_0 l1_1)
def z34 (n : GNet) (marks : List Int) (busy : List GItem) (t : Int) (l0_1 : List Bool) : Option Bool := z0s n busy (z1c n marks t) FUEL 0 l0_1
def z1d (n : GNet) (marks : List Int) (t : Int) (kx0_0 : List Bool → Option Bool) : Nat → Int → List Bool → Option Bool
  | 0, _, _ => none
  | n0 + 1, s0_0, l0_1 => if decide (s0_0 < n.places) = true then ((getI marks s0_0).bind fun x3 => (if decide (0 < x3) = true then ((getI n.tasks t).bind fun x5 => ((z6r x5.in_ s0_0).bind fun x6 => ((getI l0_1 s0_0).bind fun x7 => (gd (ok64 (s0_0 + 1)) ((z1d n marks t kx0_0 n0) (s0_0 + 1) (l0_1.set s0_0.toNat (!x6))))))) else ((getI l0_1 s0_0).bind fun x9 => (gd (ok64 (s0_0 + 1)) ((z1d n marks t kx0_0 n0) (s0_0 + 1) (l0_1.set s0_0.toNat false)))))) else (kx0_0 l0_1)
def z7o (n : GNet) (marks : List Int) (busy : List GItem) (t : Int) : Option Bool := gd ((0 : Int) ≤ n.places ∧ n.places ≤ (1000000000 : Int)) (z1d n marks t (z34 n marks busy t) FUEL 0 (List.replicate n.places.toNat false))
def z05 : Con := ⟨201, [.v (.s .net) false, .v (.sl .I) false, .v (.sl (.s .item)) false, .v .I false], [(.B, true)], [], fun x => z7o x.1 x.2.1 x.2.2.1 x.2.2.2.1⟩
def ya7 : Fs := ⟨[z2x, z04], [], []⟩
theorem z5e : ya7.Ok Tryz.prog := (fsK y0i (fsK ye2 fs0))
def zb9 : Tmpl := ⟨[(1, .c (.s .I)), (2, .c (.s (.s .item))), (3, .c .i), (4, .c (.bx 4 0)), (9, .c (.ref 18)), (11, .c .i), (12, .c (.s (.s .flow))), (13, .c .i)], [(4, .boxT (.s .net)), (18, .arr .B true)]⟩
def z9e : Tmpl := ⟨[(1, .c (.s .I)), (2, .c (.s (.s .item))), (3, .c .i), (4, .c (.bx 4 0)), (9, .c (.ref 18)), (11, .c .i)], [(4, .boxT (.s .net)), (18, .arr .B true)]⟩
def y35 (av : AV) (x : HP z05.ps) (n : Nat) (v : zb9.den) (K : Ks (CR z05)) : Option (CR z05) := z21 v.1.2.2.2.2.2.2.1 (fun l2_1 => z9e.at none ((v.1.1, v.1.2.1, v.1.2.2.1, (), (), v.1.2.2.2.2.2.1, ()), (v.2.1, l2_1, ())) (K (.exit 4))) n v.1.2.2.2.2.2.2.2.1 v.2.2.1
def za7 (av : AV) (x : HP z05.ps) : Hdl (CR z05) := hnd [] zb9 (y35 av x)
theorem y3f : LP z05 Tryz.f201 [1, 0] za7 := lp_ok (W := []) (H := []) (xs := [z9e]) z5e trivial rfl (fun av x v K => by kernel_rfl) (fun av x n v K => by kernel_rfl)
def zl6 : Tmpl := ⟨[(1, .c (.s .I)), (2, .c (.s (.s .item))), (3, .c .i), (4, .c (.bx 4 0)), (9, .c (.ref 18)), (10, .c .i)], [(4, .boxT (.s .net)), (18, .arr .B true)]⟩
def zf3 : Tmpl := ⟨[(1, .c (.s .I)), (2, .c (.s (.s .item))), (3, .c .i), (4, .c (.bx 4 0)), (9, .c (.ref 18))], [(4, .boxT (.s .net)), (18, .arr .B true)]⟩
def y5n (av : AV) (x : HP z05.ps) (n : Nat) (v : zl6.den) (K : Ks (CR z05)) : Option (CR z05) := z1d v.2.1 v.1.1 v.1.2.2.1 (fun l0_1 => zf3.at none ((v.1.1, v.1.2.1, v.1.2.2.1, (), (), ()), (v.2.1, l0_1, ())) (K (.exit 0))) n v.1.2.2.2.2.2.1 v.2.2.1
def zj0 (av : AV) (x : HP z05.ps) : Hdl (CR z05) := hnd [] zl6 (y5n av x)
theorem y67 : LP z05 Tryz.f201 [0] zj0 := lp_ok (W := []) (H := []) (xs := [zf3]) z5e trivial rfl (fun av x v K => by kernel_rfl) (fun av x n v K => by kernel_rfl)
def zl7 : Tmpl := ⟨[(1, .c (.s .I)), (2, .c (.s (.s .item))), (3, .c .i), (4, .c (.bx 4 0)), (9, .c (.ref 18)), (11, .c .i)], [(4, .boxT (.s .net)), (18, .arr .B true)]⟩
def zf4 : Tmpl := ⟨[(1, .c (.s .I)), (3, .c .i), (4, .c (.bx 4 0)), (9, .c (.ref 18))], [(4, .boxT (.s .net)), (18, .arr .B true)]⟩
def y5o (av : AV) (x : HP z05.ps) (n : Nat) (v : zl7.den) (K : Ks (CR z05)) : Option (CR z05) := z0s v.2.1 v.1.2.1 (fun l1_1 => zf4.at none ((v.1.1, v.1.2.2.1, (), (), ()), (v.2.1, l1_1, ())) (K (.exit 2))) n v.1.2.2.2.2.2.1 v.2.2.1
def zj1 (av : AV) (x : HP z05.ps) : Hdl (CR z05) := hnd [] zl7 (y5o av x)
theorem y68 : LP z05 Tryz.f201 [1] zj1 := lp_ok (W := []) (H := [za7]) (xs := [zf4]) z5e ⟨y3f, trivial⟩ rfl (fun av x v K => by kernel_rfl) (fun av x n v K => by kernel_rfl)
def zl8 : Tmpl := ⟨[(1, .c (.s .I)), (3, .c .i), (4, .c (.bx 4 0)), (14, .c (.ref 76)), (15, .c .i)], [(4, .boxT (.s .net)), (76, .arr .B true)]⟩
def zf5 : Tmpl := ⟨[], []⟩
def y5p (av : AV) (x : HP z05.ps) (n : Nat) (v : zl8.den) (K : Ks (CR z05)) : Option (CR z05) := z1e v.2.1 v.1.1 v.1.2.1 v.2.2.1 (zf5.at none ((), ()) (K (.exit 6))) n v.1.2.2.2.2.1
def zj2 (av : AV) (x : HP z05.ps) : Hdl (CR z05) := hnd [] zl8 (y5p av x)
theorem y69 : LP z05 Tryz.f201 [2] zj2 := lp_ok (W := []) (H := []) (xs := [zf5]) z5e trivial rfl (fun av x v K => by kernel_rfl) (fun av x n v K => by kernel_rfl)
theorem ye3 : z05.Ok Tryz.prog := fn_ok (k := z05) (fn := Tryz.f201) (W := []) (H := [zj0, zj1, zj2]) Tryz.func201 z5e ⟨y67, y68, y69, trivial⟩ rfl rfl (fun av x => by kernel_rfl)
def zd7 (n : GNet) (marks : List Int) (busy : List GItem) (t : Int) : Option Bool := (getI n.tasks t).bind fun x1 => ((z9u marks x1.in_).bind fun x2 => ((getI n.tasks t).bind fun x3 => (if decide (x3.join = 1) = true then (some x2.2) else (if decide (x3.join = 2) = true then (some x2.1) else (if x2.1 = true then (if x2.2 = true then (some true) else ((z7o n marks busy t).bind fun x8 => (some (!x8)))) else (some false))))))
def zz1 : Con := ⟨165, [.v (.s .net) false, .v (.sl .I) false, .v (.sl (.s .item)) false, .v .I false], [(.B, true)], [], fun x => zd7 x.1 x.2.1 x.2.2.1 x.2.2.2.1⟩
def w1r : Fs := ⟨[z3f, z05], [], []⟩
theorem w22 : w1r.Ok Tryz.prog := (fsK yz7 (fsK ye3 fs0))
theorem w2q : zz1.Ok Tryz.prog := fn_ok (k := zz1) (fn := Tryz.f165) (W := []) (H := []) Tryz.func165 w22 trivial rfl rfl (fun av x => by kernel_rfl)
def zr9  : Option Bool := some true
def z3w (n : GNet) (busy : List GItem) (kx0_0 : Option Bool) : Nat → Int → Option Bool
  | 0, _ => none
  | n0 + 1, s0_0 => if decide (s0_0 < (busy.length : Int)) = true then ((getI busy s0_0).bind fun x3 => (gd (ok64 ((n.tasks.length : Int) - 1)) ((z00 x3.task 0 ((n.tasks.length : Int) - 1)).bind fun x5 => (if x5 = true then ((getI busy s0_0).bind fun x7 => ((z00 x7.who 1 4).bind fun x8 => (if x8 = true then ((getI busy s0_0).bind fun x10 => ((getI busy s0_0).bind fun x11 => ((getI n.tasks x11.task).bind fun x12 => (gd (ok64 (x12.need - 1)) ((z00 x10.did 0 (x12.need - 1)).bind fun x14 => (if x14 = true then (gd (ok64 (s0_0 + 1)) ((z3w n busy kx0_0 n0) (s0_0 + 1))) else (some false))))))) else (some false)))) else (some false))))) else (kx0_0)
def z7n (n : GNet) (busy : List GItem) : Option Bool := if decide (6 < (busy.length : Int)) = true then (some false) else (z3w n busy zr9 FUEL 0)
def z2t : Con := ⟨88, [.v (.s .net) false, .v (.sl (.s .item)) false], [(.B, true)], [], fun x => z7n x.1 x.2.1⟩
def yu8 : Fs := ⟨[z0g], [], []⟩
theorem y41 : yu8.Ok Tryz.prog := (fsK z0i fs0)
def y0t : Tmpl := ⟨[(1, .c (.s (.s .item))), (2, .c (.bx 2 0)), (5, .c .i)], [(2, .boxT (.s .net))]⟩
def zu8 : Tmpl := ⟨[], []⟩
def y9g (av : AV) (x : HP z2t.ps) (n : Nat) (v : y0t.den) (K : Ks (CR z2t)) : Option (CR z2t) := z3w v.2.1 v.1.1 (zu8.at none ((), ()) (K (.exit 0))) n v.1.2.2.1
def zy1 (av : AV) (x : HP z2t.ps) : Hdl (CR z2t) := hnd [] y0t (y9g av x)
theorem yc5 : LP z2t Tryz.f88 [0] zy1 := lp_ok (W := []) (H := []) (xs := [zu8]) y41 trivial rfl (fun av x v K => by kernel_rfl) (fun av x n v K => by kernel_rfl)
theorem y4s : z2t.Ok Tryz.prog := fn_ok (k := z2t) (fn := Tryz.f88) (W := []) (H := [zy1]) Tryz.func88 y41 ⟨yc5, trivial⟩ rfl rfl (fun av x => by kernel_rfl)
def z77 (n : GNet) (marks : List Int) (busy : List GItem) (t : Int) : Option Bool := (z5l n marks).bind fun x1 => (if x1 = true then ((z7n n busy).bind fun x3 => (if x3 = true then (gd (ok64 ((n.tasks.length : Int) - 1)) ((z00 t 0 ((n.tasks.length : Int) - 1)).bind fun x6 => (if x6 = true then ((zd7 n marks busy t).bind fun x8 => (some x8)) else (some false)))) else (some false))) else (some false))
def z9k : Con := ⟨100, [.v (.s .net) false, .v (.sl .I) false, .v (.sl (.s .item)) false, .v .I false], [(.B, true)], [], fun x => z77 x.1 x.2.1 x.2.2.1 x.2.2.2.1⟩
def yt6 : Fs := ⟨[z24, z2t, z0g, zz1], [], []⟩
theorem yw4 : yt6.Ok Tryz.prog := (fsK zd9 (fsK y4s (fsK z0i (fsK w2q fs0))))
theorem y4p : z9k.Ok Tryz.prog := fn_ok (k := z9k) (fn := Tryz.f100) (W := []) (H := []) Tryz.func100 yw4 trivial rfl rfl (fun av x => by kernel_rfl)
def z78 (l0_1 : List Int) : Option (List Int) := some l0_1
def z1z (n : GNet) (marks : List Int) (busy : List GItem) (kx0_0 : List Int → Option (List Int)) : Nat → Int → List Int → Option (List Int)
  | 0, _, _ => none
  | n0 + 1, s0_0, l0_1 => if decide (s0_0 < (n.tasks.length : Int)) = true then ((z77 n marks busy s0_0).bind fun x2 => (if x2 = true then (gd (l0_1.length + [s0_0].length ≤ SMALL) (gd (ok64 (s0_0 + 1)) ((z1z n marks busy kx0_0 n0) (s0_0 + 1) (l0_1 ++ [s0_0])))) else (gd (ok64 (s0_0 + 1)) ((z1z n marks busy kx0_0 n0) (s0_0 + 1) l0_1)))) else (kx0_0 l0_1)
def z3p (n : GNet) (marks : List Int) (busy : List GItem) : Option (List Int) := z1z n marks busy z78 FUEL 0 ([] : List Int)
def z1h : Con := ⟨99, [.v (.s .net) false, .v (.sl .I) false, .v (.sl (.s .item)) false], [((.sl .I), true)], [], fun x => z3p x.1 x.2.1 x.2.2.1⟩
def y9z : Fs := ⟨[z9k], [], []⟩
theorem zw9 : y9z.Ok Tryz.prog := (fsK y4p fs0)
def zk9 : Tmpl := ⟨[(1, .c (.s .I)), (2, .c (.s (.s .item))), (3, .c (.bx 3 0)), (7, .c (.ref 9)), (8, .c .i)], [(3, .boxT (.s .net)), (9, .arr .I true)]⟩
def ze6 : Tmpl := ⟨[(7, .c (.ref 9))], [(9, .arr .I true)]⟩
def y5g (av : AV) (x : HP z1h.ps) (n : Nat) (v : zk9.den) (K : Ks (CR z1h)) : Option (CR z1h) := z1z v.2.1 v.1.1 v.1.2.1 (fun l0_1 => ze6.at none (((), ()), (l0_1, ())) (K (.exit 0))) n v.1.2.2.2.2.1 v.2.2.1
def zi3 (av : AV) (x : HP z1h.ps) : Hdl (CR z1h) := hnd [] zk9 (y5g av x)
theorem y60 : LP z1h Tryz.f99 [0] zi3 := lp_ok (W := []) (H := []) (xs := [ze6]) zw9 trivial rfl (fun av x v K => by kernel_rfl) (fun av x n v K => by kernel_rfl)
theorem y0g : z1h.Ok Tryz.prog := fn_ok (k := z1h) (fn := Tryz.f99) (W := []) (H := [zi3]) Tryz.func99 zw9 ⟨y60, trivial⟩ rfl rfl (fun av x => by kernel_rfl)
def zj5 (l0_1 : List Int) (x10 : Int) (x13 : Int) : Option (List Int) := some (l0_1.set x10.toNat (x13 - 1))
def zj6 (l0_1 : List Int) : Option (List Int) := some l0_1
def z2c (n : GNet) (t : Int) (kx0_0 : List Int → Int → Int → Option (List Int)) (kx0_1 : List Int → Option (List Int)) : Nat → Int → List Int → Option (List Int)
  | 0, _, _ => none
  | n0 + 1, s0_0, l0_1 => (getI n.tasks t).bind fun x7 => (if decide (s0_0 < (x7.in_.length : Int)) = true then ((getI n.tasks t).bind fun x9 => ((getI x9.in_ s0_0).bind fun x10 => ((getI l0_1 x10).bind fun x11 => (if decide (0 < x11) = true then ((getI l0_1 x10).bind fun x13 => (gd (ok64 (x13 - 1)) ((getI l0_1 x10).bind fun x15 => ((getI n.tasks t).bind fun x16 => (if decide (x16.join = 2) = true then (kx0_0 l0_1 x10 x13) else (gd (ok64 (s0_0 + 1)) ((z2c n t kx0_0 kx0_1 n0) (s0_0 + 1) (l0_1.set x10.toNat (x13 - 1))))))))) else (gd (ok64 (s0_0 + 1)) ((z2c n t kx0_0 kx0_1 n0) (s0_0 + 1) l0_1)))))) else (kx0_1 l0_1))
def z8e (n : GNet) (marks : List Int) (t : Int) : Option (List Int) := (z5l n marks).bind fun x1 => (if x1 = true then (gd (ok64 ((n.tasks.length : Int) - 1)) ((z00 t 0 ((n.tasks.length : Int) - 1)).bind fun x4 => (if x4 = true then (gd (([] : List Int).length + marks.length ≤ SMALL) (z2c n t zj5 zj6 FUEL 0 (([] : List Int) ++ marks))) else (some ([] : List Int))))) else (some ([] : List Int)))
def z2m : Con := ⟨103, [.v (.s .net) false, .v (.sl .I) false, .v .I false], [((.sl .I), true)], [], fun x => z8e x.1 x.2.1 x.2.2.1⟩
def yj6 : Fs := ⟨[z24, z0g], [], []⟩
theorem y20 : yj6.Ok Tryz.prog := (fsK zd9 (fsK z0i fs0))
def zt1 : Tmpl := ⟨[(2, .c .i), (3, .c (.bx 3 0)), (7, .c (.ref 26)), (8, .c .i)], [(3, .boxT (.s .net)), (26, .arr .I true)]⟩
def z89 : Tmpl := ⟨[(7, .c (.ref 26))], [(26, .arr .I true)]⟩
def y7r (av : AV) (x : HP z2m.ps) (n : Nat) (v : zt1.den) (K : Ks (CR z2m)) : Option (CR z2m) := z2c v.2.1 v.1.1 (fun l0_1 x10 x13 => z89.at none (((), ()), ((l0_1.set x10.toNat (x13 - 1)), ())) (K (.exit 0))) (fun l0_1 => z89.at none (((), ()), (l0_1, ())) (K (.exit 0))) n v.1.2.2.2.1 v.2.2.1
def zq5 (av : AV) (x : HP z2m.ps) : Hdl (CR z2m) := hnd [] zt1 (y7r av x)
theorem y8h : LP z2m Tryz.f103 [0] zq5 := lp_ok (W := []) (H := []) (xs := [z89]) y20 trivial rfl (fun av x v K => by kernel_rfl) (fun av x n v K => by kernel_rfl)
theorem yo0 : z2m.Ok Tryz.prog := fn_ok (k := z2m) (fn := Tryz.f103) (W := []) (H := [zq5]) Tryz.func103 y20 ⟨y8h, trivial⟩ rfl rfl (fun av x => by kernel_rfl)
def z5j (who : Int) : Option Bool := (z0l who 1 4).bind fun x1 => (some x1)
def z6y : Con := ⟨97, [.v .I false], [(.B, true)], [], fun x => z5j x.1⟩
def y9x : Fs := ⟨[z1r], [], []⟩
theorem yb4 : y9x.Ok Tryz.prog := (fsK z2z fs0)
theorem y0e : z6y.Ok Tryz.prog := fn_ok (k := z6y) (fn := Tryz.f97) (W := []) (H := []) Tryz.func97 yb4 trivial rfl rfl (fun av x => by kernel_rfl)
def z7a (l0_1 : List Int) (x8 : GFlow) : Option (List Int) := some (l0_1 ++ [x8.to])
def z7b (l0_1 : List Int) (x13 : GFlow) : Option (List Int) := some (l0_1 ++ [x13.to])
def z7c (l0_1 : List Int) (x18 : GFlow) : Option (List Int) := some (l0_1 ++ [x18.to])
def zb3 (l0_1 : List Int) : Option (List Int) := some l0_1
def z13 (t : GTask) (data : List Int) (kx0_0 : List Int → GFlow → Option (List Int)) (kx0_1 : List Int → GFlow → Option (List Int)) (kx0_2 : List Int → GFlow → Option (List Int)) (kx0_3 : List Int → Option (List Int)) : Nat → Int → List Int → Option (List Int)
  | 0, _, _ => none
  | n0 + 1, s0_0, l0_1 => if decide (s0_0 < (t.out.length : Int)) = true then ((getI t.out s0_0).bind fun x2 => ((z0x x2.if_ data).bind fun x3 => (if x3 = true then (if decide (t.split = 3) = true then (gd (ok64 ((t.out.length : Int) - 1)) (if decide (s0_0 < ((t.out.length : Int) - 1)) = true then ((getI t.out s0_0).bind fun x8 => (gd (l0_1.length + [x8.to].length ≤ SMALL) (if decide (t.split = 2) = true then (kx0_0 l0_1 x8) else (gd (ok64 (s0_0 + 1)) ((z13 t data kx0_0 kx0_1 kx0_2 kx0_3 n0) (s0_0 + 1) (l0_1 ++ [x8.to])))))) else (if decide ((l0_1.length : Int) = 0) = true then ((getI t.out s0_0).bind fun x13 => (gd (l0_1.length + [x13.to].length ≤ SMALL) (if decide (t.split = 2) = true then (kx0_1 l0_1 x13) else (gd (ok64 (s0_0 + 1)) ((z13 t data kx0_0 kx0_1 kx0_2 kx0_3 n0) (s0_0 + 1) (l0_1 ++ [x13.to])))))) else (gd (ok64 (s0_0 + 1)) ((z13 t data kx0_0 kx0_1 kx0_2 kx0_3 n0) (s0_0 + 1) l0_1))))) else ((getI t.out s0_0).bind fun x18 => (gd (l0_1.length + [x18.to].length ≤ SMALL) (if decide (t.split = 2) = true then (kx0_2 l0_1 x18) else (gd (ok64 (s0_0 + 1)) ((z13 t data kx0_0 kx0_1 kx0_2 kx0_3 n0) (s0_0 + 1) (l0_1 ++ [x18.to]))))))) else (gd (ok64 (s0_0 + 1)) ((z13 t data kx0_0 kx0_1 kx0_2 kx0_3 n0) (s0_0 + 1) l0_1))))) else (kx0_3 l0_1)
def zd3 (t : GTask) (data : List Int) : Option (List Int) := z13 t data z7a z7b z7c zb3 FUEL 0 ([] : List Int)
def z44 : Con := ⟨205, [.v (.s .task) false, .v (.sl .I) false], [((.sl .I), true)], [], fun x => zd3 x.1 x.2.1⟩
def w1p : Fs := ⟨[z2w], [], []⟩
theorem y73 : w1p.Ok Tryz.prog := (fsK z4r fs0)
def y31 : Tmpl := ⟨[(1, .c (.s .I)), (2, .c (.bx 2 0)), (5, .c (.ref 7)), (6, .c .i)], [(2, .boxT (.s .task)), (7, .arr .I true)]⟩
def z5q : Tmpl := ⟨[(5, .c (.ref 49))], [(49, .arr .I true)]⟩
def yi4 (av : AV) (x : HP z44.ps) (n : Nat) (v : y31.den) (K : Ks (CR z44)) : Option (CR z44) := z13 v.2.1 v.1.1 (fun l0_1 x8 => z5q.at none (((), ()), ((l0_1 ++ [x8.to]), ())) (K (.exit 0))) (fun l0_1 x13 => z5q.at none (((), ()), ((l0_1 ++ [x13.to]), ())) (K (.exit 0))) (fun l0_1 x18 => z5q.at none (((), ()), ((l0_1 ++ [x18.to]), ())) (K (.exit 0))) (fun l0_1 => z5q.at none (((), ()), (l0_1, ())) (K (.exit 0))) n v.1.2.2.2.1 v.2.2.1
def y2i (av : AV) (x : HP z44.ps) : Hdl (CR z44) := hnd [] y31 (yi4 av x)
theorem yn0 : LP z44 Tryz.f205 [0] y2i := lp_ok (W := []) (H := []) (xs := [z5q]) y73 trivial rfl (fun av x v K => by kernel_rfl) (fun av x n v K => by kernel_rfl)
theorem w2p : z44.Ok Tryz.prog := fn_ok (k := z44) (fn := Tryz.f205) (W := []) (H := [y2i]) Tryz.func205 y73 ⟨yn0, trivial⟩ rfl rfl (fun av x => by kernel_rfl)
def z5w (l1_1 : List Int) : Option ((List Int) × Bool) := some (l1_1, true)
def z3l (x16 : (List Int)) (kx1_0 : List Int → Option ((List Int) × Bool)) : Nat → Int → List Int → Option ((List Int) × Bool)
  | 0, _, _ => none
  | n1 + 1, s1_0, l1_1 => if decide (s1_0 < (x16.length : Int)) = true then ((getI x16 s1_0).bind fun x18 => ((getI l1_1 x18).bind fun x19 => (if decide (x19 = 4) = true then (some (([] : List Int), false)) else ((getI x16 s1_0).bind fun x21 => ((getI x16 s1_0).bind fun x22 => ((getI l1_1 x22).bind fun x23 => (gd (ok64 (x23 + 1)) ((getI l1_1 x21).bind fun x25 => (gd (ok64 (s1_0 + 1)) ((z3l x16 kx1_0 n1) (s1_0 + 1) (l1_1.set x21.toNat (x23 + 1)))))))))))) else (kx1_0 l1_1)
def z5v (n : GNet) (t : Int) (data : List Int) (l0_1 : List Int) : Option ((List Int) × Bool) := (getI n.tasks t).bind fun x15 => ((zd3 x15 data).bind fun x16 => (z3l x16 z5w FUEL 0 l0_1))
def z3k (n : GNet) (t : Int) (kx0_0 : List Int → Option ((List Int) × Bool)) : Nat → Int → List Int → Option ((List Int) × Bool)
  | 0, _, _ => none
  | n0 + 1, s0_0, l0_1 => (getI n.tasks t).bind fun x9 => (if decide (s0_0 < (x9.clear.length : Int)) = true then ((getI n.tasks t).bind fun x11 => ((getI x11.clear s0_0).bind fun x12 => ((getI l0_1 x12).bind fun x13 => (gd (ok64 (s0_0 + 1)) ((z3k n t kx0_0 n0) (s0_0 + 1) (l0_1.set x12.toNat 0)))))) else (kx0_0 l0_1))
def z8f (n : GNet) (marks : List Int) (t : Int) (data : List Int) : Option ((List Int) × Bool) := (z5l n marks).bind fun x1 => (if x1 = true then (gd (ok64 ((n.tasks.length : Int) - 1)) ((z00 t 0 ((n.tasks.length : Int) - 1)).bind fun x4 => (if x4 = true then ((z1n data).bind fun x6 => (if x6 = true then (gd (([] : List Int).length + marks.length ≤ SMALL) (z3k n t (z5v n t data) FUEL 0 (([] : List Int) ++ marks))) else (some (([] : List Int), false)))) else (some (([] : List Int), false))))) else (some (([] : List Int), false)))
def z0j : Con := ⟨172, [.v (.s .net) false, .v (.sl .I) false, .v .I false, .v (.sl .I) false], [((.sl .I), true), (.B, true)], [], fun x => z8f x.1 x.2.1 x.2.2.1 x.2.2.2.1⟩
def yj7 : Fs := ⟨[z24, z0g, z0t, z44], [], []⟩
theorem zf9 : yj7.Ok Tryz.prog := (fsK zd9 (fsK z0i (fsK z4a (fsK w2p fs0))))
def zt2 : Tmpl := ⟨[(2, .c .i), (3, .c (.s .I)), (4, .c (.bx 4 0)), (10, .c (.ref 35)), (11, .c .i)], [(4, .boxT (.s .net)), (35, .arr .I true)]⟩
def zm3 : Tmpl := ⟨[(2, .c .i), (3, .c (.s .I)), (4, .c (.bx 4 0)), (10, .c (.ref 35))], [(4, .boxT (.s .net)), (35, .arr .I true)]⟩
def y7s (av : AV) (x : HP z0j.ps) (n : Nat) (v : zt2.den) (K : Ks (CR z0j)) : Option (CR z0j) := z3k v.2.1 v.1.1 (fun l0_1 => zm3.at none ((v.1.1, v.1.2.1, (), (), ()), (v.2.1, l0_1, ())) (K (.exit 0))) n v.1.2.2.2.2.1 v.2.2.1
def zq6 (av : AV) (x : HP z0j.ps) : Hdl (CR z0j) := hnd [] zt2 (y7s av x)
theorem y8i : LP z0j Tryz.f172 [0] zq6 := lp_ok (W := []) (H := []) (xs := [zm3]) zf9 trivial rfl (fun av x v K => by kernel_rfl) (fun av x n v K => by kernel_rfl)
def zt3 : Tmpl := ⟨[(10, .c (.ref 35)), (12, .c (.ref 64)), (13, .c .i)], [(35, .arr .I true), (64, .arr .I true)]⟩
def zm4 : Tmpl := ⟨[(10, .c (.ref 35))], [(35, .arr .I true)]⟩
def y7t (av : AV) (x : HP z0j.ps) (n : Nat) (v : zt3.den) (K : Ks (CR z0j)) : Option (CR z0j) := z3l v.2.2.1 (fun l1_1 => zm4.at none (((), ()), (l1_1, ())) (K (.exit 2))) n v.1.2.2.1 v.2.1
def zq7 (av : AV) (x : HP z0j.ps) : Hdl (CR z0j) := hnd [] zt3 (y7t av x)
theorem y8j : LP z0j Tryz.f172 [1] zq7 := lp_ok (W := []) (H := []) (xs := [zm4]) zf9 trivial rfl (fun av x v K => by kernel_rfl) (fun av x n v K => by kernel_rfl)
theorem yo1 : z0j.Ok Tryz.prog := fn_ok (k := z0j) (fn := Tryz.f172) (W := []) (H := [zq6, zq7]) Tryz.func172 zf9 ⟨y8i, y8j, trivial⟩ rfl rfl (fun av x => by kernel_rfl)
def y03  : Option Bool := some true
def z4o (people : List Int) (kx0_0 : Option Bool) : Nat → Int → Option Bool
  | 0, _ => none
  | n0 + 1, s0_0 => if decide (s0_0 < (people.length : Int)) = true then ((getI people s0_0).bind fun x4 => ((z00 x4 0 7).bind fun x5 => (if x5 = true then (gd (ok64 (s0_0 + 1)) ((z4o people kx0_0 n0) (s0_0 + 1))) else (some false)))) else (kx0_0)
def z5m (people : List Int) : Option Bool := (z00 (people.length : Int) 1 4).bind fun x1 => (if x1 = true then (z4o people y03 FUEL 0) else (some false))
def z25 : Con := ⟨44, [.v (.sl .I) false], [(.B, true)], [], fun x => z5m x.1⟩
def w1n : Fs := ⟨[z0g], [], []⟩
theorem y72 : w1n.Ok Tryz.prog := (fsK z0i fs0)
def y2z : Tmpl := ⟨[(0, .c (.s .I)), (3, .c .i)], []⟩
def y1a : Tmpl := ⟨[], []⟩
def yi2 (av : AV) (x : HP z25.ps) (n : Nat) (v : y2z.den) (K : Ks (CR z25)) : Option (CR z25) := z4o v.1.1 (y1a.at none ((), ()) (K (.exit 0))) n v.1.2.1
def y2g (av : AV) (x : HP z25.ps) : Hdl (CR z25) := hnd [] y2z (yi2 av x)
theorem ym8 : LP z25 Tryz.f44 [0] y2g := lp_ok (W := []) (H := []) (xs := [y1a]) y72 trivial rfl (fun av x v K => by kernel_rfl) (fun av x n v K => by kernel_rfl)
theorem ze0 : z25.Ok Tryz.prog := fn_ok (k := z25) (fn := Tryz.f44) (W := []) (H := [y2g]) Tryz.func44 y72 ⟨ym8, trivial⟩ rfl rfl (fun av x => by kernel_rfl)
def z3u (s0_0 : Int) : Option Bool := gd ((2 : Int) ≠ 0) (some (decide ((Int.tmod s0_0 2) = 1)))
def z1j (role : Int) (kx0_0 : Int → Option Bool) : Nat → Int → Int → Option Bool
  | 0, _, _ => none
  | n0 + 1, s0_0, s0_1 => if decide (s0_1 < role) = true then (gd ((2 : Int) ≠ 0 ∧ ok64 (Int.tdiv s0_0 2)) (gd (ok64 (s0_1 + 1)) ((z1j role kx0_0 n0) (Int.tdiv s0_0 2) (s0_1 + 1)))) else (kx0_0 s0_0)
def z9p (people : List Int) (who : Int) (role : Int) : Option Bool := (z5m people).bind fun x1 => (if x1 = true then ((z00 who 1 (people.length : Int)).bind fun x3 => (if x3 = true then ((z00 role 1 3).bind fun x5 => (if x5 = true then (gd (ok64 (who - 1)) ((getI people (who - 1)).bind fun x8 => (z1j role z3u FUEL x8 1))) else (some false))) else (some false))) else (some false))
def z3e : Con := ⟨166, [.v (.sl .I) false, .v .I false, .v .I false], [(.B, true)], [], fun x => z9p x.1 x.2.1 x.2.2.1⟩
def yt9 : Fs := ⟨[z25, z0g], [], []⟩
theorem y3z : yt9.Ok Tryz.prog := (fsK ze0 (fsK z0i fs0))
def y0q : Tmpl := ⟨[(2, .c .i), (7, .c .i), (8, .c .i)], []⟩
def zu5 : Tmpl := ⟨[(7, .c .i)], []⟩
def y9d (av : AV) (x : HP z3e.ps) (n : Nat) (v : y0q.den) (K : Ks (CR z3e)) : Option (CR z3e) := z1j v.1.1 (fun s0_0 => zu5.at none ((s0_0, ()), ()) (K (.exit 0))) n v.1.2.1 v.1.2.2.1
def zx8 (av : AV) (x : HP z3e.ps) : Hdl (CR z3e) := hnd [] y0q (y9d av x)
theorem yc2 : LP z3e Tryz.f166 [0] zx8 := lp_ok (W := []) (H := []) (xs := [zu5]) y3z trivial rfl (fun av x v K => by kernel_rfl) (fun av x n v K => by kernel_rfl)
theorem yz2 : z3e.Ok Tryz.prog := fn_ok (k := z3e) (fn := Tryz.f166) (W := []) (H := [zx8]) Tryz.func166 y3z ⟨yc2, trivial⟩ rfl rfl (fun av x => by kernel_rfl)
def zr7  : Option Bool := some false
def z36 (did : List GDid) (who : Int) (task : Int) (kx0_0 : Option Bool) : Nat → Int → Option Bool
  | 0, _ => none
  | n0 + 1, s0_0 => if decide (s0_0 < (did.length : Int)) = true then ((getI did s0_0).bind fun x2 => (if decide (x2.who = who) = true then ((getI did s0_0).bind fun x4 => (if decide (x4.task = task) = true then (some true) else (gd (ok64 (s0_0 + 1)) ((z36 did who task kx0_0 n0) (s0_0 + 1))))) else (gd (ok64 (s0_0 + 1)) ((z36 did who task kx0_0 n0) (s0_0 + 1))))) else (kx0_0)
def z9o (did : List GDid) (who : Int) (task : Int) : Option Bool := z36 did who task zr7 FUEL 0
def z3d : Con := ⟨167, [.v (.sl (.s .did)) false, .v .I false, .v .I false], [(.B, true)], [], fun x => z9o x.1 x.2.1 x.2.2.1⟩
def yt8 : Fs := ⟨[], [], []⟩
theorem y3y : yt8.Ok Tryz.prog := fs0
def y0p : Tmpl := ⟨[(0, .c (.s (.s .did))), (1, .c .i), (2, .c .i), (7, .c .i)], []⟩
def zu4 : Tmpl := ⟨[], []⟩
def y9c (av : AV) (x : HP z3d.ps) (n : Nat) (v : y0p.den) (K : Ks (CR z3d)) : Option (CR z3d) := z36 v.1.1 v.1.2.1 v.1.2.2.1 (zu4.at none ((), ()) (K (.exit 0))) n v.1.2.2.2.1
def zx7 (av : AV) (x : HP z3d.ps) : Hdl (CR z3d) := hnd [] y0p (y9c av x)
theorem yc1 : LP z3d Tryz.f167 [0] zx7 := lp_ok (W := []) (H := []) (xs := [zu4]) y3y trivial rfl (fun av x v K => by kernel_rfl) (fun av x n v K => by kernel_rfl)
theorem yz1 : z3d.Ok Tryz.prog := fn_ok (k := z3d) (fn := Tryz.f167) (W := []) (H := [zx7]) Tryz.func167 y3y ⟨yc1, trivial⟩ rfl rfl (fun av x => by kernel_rfl)
def zr8 (n : GNet) (people : List Int) (did : List GDid) (t : Int) (s0_0 : Int) (l0_1 : List Int) (bk0 : Int → List Int → Option (List Int)) (s1_0 : Bool) : Option (List Int) := (getI n.tasks t).bind fun x18 => ((z9p people s0_0 x18.role).bind fun x19 => (if x19 = true then (if s1_0 = true then (gd (ok64 (s0_0 + 1)) (bk0 (s0_0 + 1) l0_1)) else ((getI n.tasks t).bind fun x23 => ((z9o did s0_0 x23.apart).bind fun x24 => (if x24 = true then (gd (ok64 (s0_0 + 1)) (bk0 (s0_0 + 1) l0_1)) else (gd (l0_1.length + [s0_0].length ≤ SMALL) (gd (ok64 (s0_0 + 1)) (bk0 (s0_0 + 1) (l0_1 ++ [s0_0])))))))) else (gd (ok64 (s0_0 + 1)) (bk0 (s0_0 + 1) l0_1))))
def z1k (n : GNet) (busy : List GItem) (t : Int) (s0_0 : Int) (kx1_0 : Bool → Option (List Int)) : Nat → Bool → Int → Option (List Int)
  | 0, _, _ => none
  | n1 + 1, s1_0, s1_1 => if decide (s1_1 < (busy.length : Int)) = true then (if s1_0 = true then (gd (ok64 (s1_1 + 1)) ((z1k n busy t s0_0 kx1_0 n1) true (s1_1 + 1))) else ((getI busy s1_1).bind fun x12 => (if decide (x12.who = s0_0) = true then ((getI busy s1_1).bind fun x14 => ((getI n.tasks t).bind fun x15 => (gd (ok64 (s1_1 + 1)) ((z1k n busy t s0_0 kx1_0 n1) (decide (x14.task = x15.apart)) (s1_1 + 1))))) else (gd (ok64 (s1_1 + 1)) ((z1k n busy t s0_0 kx1_0 n1) false (s1_1 + 1)))))) else (kx1_0 s1_0)
def z90 (l0_1 : List Int) : Option (List Int) := some l0_1
def z3v (n : GNet) (people : List Int) (did : List GDid) (busy : List GItem) (t : Int) (kx0_0 : List Int → Option (List Int)) : Nat → Int → List Int → Option (List Int)
  | 0, _, _ => none
  | n0 + 1, s0_0, l0_1 => if decide (s0_0 ≤ (people.length : Int)) = true then (z1k n busy t s0_0 (zr8 n people did t s0_0 l0_1 (z3v n people did busy t kx0_0 n0)) FUEL false 0) else (kx0_0 l0_1)
def z5x (n : GNet) (people : List Int) (did : List GDid) (busy : List GItem) (t : Int) : Option (List Int) := (z26 n).bind fun x1 => (if x1 = true then ((z5m people).bind fun x3 => (if x3 = true then (gd (ok64 ((n.tasks.length : Int) - 1)) ((z00 t 0 ((n.tasks.length : Int) - 1)).bind fun x6 => (if x6 = true then (z3v n people did busy t z90 FUEL 1 ([] : List Int)) else (some ([] : List Int))))) else (some ([] : List Int)))) else (some ([] : List Int)))
def z0o : Con := ⟨102, [.v (.s .net) false, .v (.sl .I) false, .v (.sl (.s .did)) false, .v (.sl (.s .item)) false, .v .I false], [((.sl .I), true)], [], fun x => z5x x.1 x.2.1 x.2.2.1 x.2.2.2.1 x.2.2.2.2.1⟩
def yu0 : Fs := ⟨[z1m, z25, z0g, z3e, z3d], [], []⟩
theorem zn6 : yu0.Ok Tryz.prog := (fsK z8u (fsK ze0 (fsK z0i (fsK yz2 (fsK yz1 fs0)))))
def zl0 : Tmpl := ⟨[(1, .c (.s .I)), (2, .c (.s (.s .did))), (3, .c (.s (.s .item))), (4, .c .i), (5, .c (.bx 5 0)), (11, .c (.ref 15)), (12, .c .i), (13, .c .b), (14, .c .i)], [(5, .boxT (.s .net)), (15, .arr .I true)]⟩
def ze7 : Tmpl := ⟨[(1, .c (.s .I)), (2, .c (.s (.s .did))), (3, .c (.s (.s .item))), (4, .c .i), (5, .c (.bx 5 0)), (11, .c (.ref 15)), (12, .c .i), (13, .c .b)], [(5, .boxT (.s .net)), (15, .arr .I true)]⟩
def y5h (av : AV) (x : HP z0o.ps) (n : Nat) (v : zl0.den) (K : Ks (CR z0o)) : Option (CR z0o) := z1k v.2.1 v.1.2.2.1 v.1.2.2.2.1 v.1.2.2.2.2.2.2.1 (fun s1_0 => ze7.at none ((v.1.1, v.1.2.1, v.1.2.2.1, v.1.2.2.2.1, (), (), v.1.2.2.2.2.2.2.1, s1_0, ()), (v.2.1, v.2.2.1, ())) (K (.exit 2))) n v.1.2.2.2.2.2.2.2.1 v.1.2.2.2.2.2.2.2.2.1
def zi4 (av : AV) (x : HP z0o.ps) : Hdl (CR z0o) := hnd [] zl0 (y5h av x)
theorem y61 : LP z0o Tryz.f102 [0, 0] zi4 := lp_ok (W := []) (H := []) (xs := [ze7]) zn6 trivial rfl (fun av x v K => by kernel_rfl) (fun av x n v K => by kernel_rfl)
def y0r : Tmpl := ⟨[(1, .c (.s .I)), (2, .c (.s (.s .did))), (3, .c (.s (.s .item))), (4, .c .i), (5, .c (.bx 5 0)), (11, .c (.ref 15)), (12, .c .i)], [(5, .boxT (.s .net)), (15, .arr .I true)]⟩
def zu6 : Tmpl := ⟨[(11, .c (.ref 15))], [(15, .arr .I true)]⟩
def y9e (av : AV) (x : HP z0o.ps) (n : Nat) (v : y0r.den) (K : Ks (CR z0o)) : Option (CR z0o) := z3v v.2.1 v.1.1 v.1.2.1 v.1.2.2.1 v.1.2.2.2.1 (fun l0_1 => zu6.at none (((), ()), (l0_1, ())) (K (.exit 0))) n v.1.2.2.2.2.2.2.1 v.2.2.1
def zx9 (av : AV) (x : HP z0o.ps) : Hdl (CR z0o) := hnd [] y0r (y9e av x)
theorem yc3 : LP z0o Tryz.f102 [0] zx9 := lp_ok (W := []) (H := [zi4]) (xs := [zu6]) zn6 ⟨y61, trivial⟩ rfl (fun av x v K => by kernel_rfl) (fun av x n v K => by kernel_rfl)
theorem y4q : z0o.Ok Tryz.prog := fn_ok (k := z0o) (fn := Tryz.f102) (W := []) (H := [zx9]) Tryz.func102 zn6 ⟨yc3, trivial⟩ rfl rfl (fun av x => by kernel_rfl)
def z5u (n : GNet) (data : List Int) : Option GCase := (z26 n).bind fun x1 => (if x1 = true then ((z1n data).bind fun x3 => (if x3 = true then (gd ((0 : Int) ≤ n.places ∧ n.places ≤ (1000000000 : Int)) (gd (([] : List Int).length + data.length ≤ SMALL) ((getI (List.replicate n.places.toNat (0 : Int)) 0).bind fun x7 => (some (GCase.mk 1 ((List.replicate n.places.toNat (0 : Int)).set (0 : Int).toNat 1) [] (([] : List Int) ++ data) []))))) else (some (GCase.mk 0 [] [] [] [])))) else (some (GCase.mk 0 [] [] [] [])))
def z9i : Con := ⟨155, [.v (.s .net) false, .v (.sl .I) false], [((.s .kase), true)], [], fun x => z5u x.1 x.2.1⟩
def yt4 : Fs := ⟨[z1m, z0t], [], []⟩
theorem yw2 : yt4.Ok Tryz.prog := (fsK z8u (fsK z4a fs0))
theorem y4n : z9i.Ok Tryz.prog := fn_ok (k := z9i) (fn := Tryz.f155) (W := []) (H := []) Tryz.func155 yw2 trivial rfl rfl (fun av x => by kernel_rfl)
def z76 (c : GCase) : Option Bool := if decide (c.state = 1) = true then ((getI c.marks 1).bind fun x20 => (some (decide (x20 = 0)))) else (if decide ((c.busy.length : Int) = 0) = true then ((getI c.marks 1).bind fun x22 => (some ((decide (c.state = 2)) == (decide (0 < x22))))) else (some false))
def z4i (n : GNet) (c : GCase) (kx0_0 : Option Bool) : Nat → Int → Option Bool
  | 0, _ => none
  | n0 + 1, s0_0 => if decide (s0_0 < (c.did.length : Int)) = true then ((getI c.did s0_0).bind fun x11 => (gd (ok64 ((n.tasks.length : Int) - 1)) ((z00 x11.task 0 ((n.tasks.length : Int) - 1)).bind fun x13 => (if x13 = true then ((getI c.did s0_0).bind fun x15 => ((z00 x15.who 1 4).bind fun x16 => (if x16 = true then (gd (ok64 (s0_0 + 1)) ((z4i n c kx0_0 n0) (s0_0 + 1))) else (some false)))) else (some false))))) else (kx0_0)
def z5k (n : GNet) (c : GCase) : Option Bool := (z5l n c.marks).bind fun x1 => (if x1 = true then ((z7n n c.busy).bind fun x3 => (if x3 = true then ((z1n c.data).bind fun x5 => (if x5 = true then (if decide (60 < (c.did.length : Int)) = true then (some false) else ((z00 c.state 1 3).bind fun x8 => (if x8 = true then (z4i n c (z76 c) FUEL 0) else (some false)))) else (some false))) else (some false))) else (some false))
def z23 : Con := ⟨25, [.v (.s .net) false, .v (.s .kase) false], [(.B, true)], [], fun x => z5k x.1 x.2.1⟩
def w1h : Fs := ⟨[z24, z2t, z0t, z0g], [], []⟩
theorem y6x : w1h.Ok Tryz.prog := (fsK zd9 (fsK y4s (fsK z4a (fsK z0i fs0))))
def y2u : Tmpl := ⟨[(2, .c (.bx 2 0)), (3, .c (.bx 3 0)), (5, .c .i)], [(2, .boxT (.s .net)), (3, .boxT (.s .kase))]⟩
def y15 : Tmpl := ⟨[(3, .c (.bx 3 0))], [(3, .boxT (.s .kase))]⟩
def yh7 (av : AV) (x : HP z23.ps) (n : Nat) (v : y2u.den) (K : Ks (CR z23)) : Option (CR z23) := z4i v.2.1 v.2.2.1 (y15.at none (((), ()), (v.2.2.1, ())) (K (.exit 0))) n v.1.2.2.1
def y2b (av : AV) (x : HP z23.ps) : Hdl (CR z23) := hnd [] y2u (yh7 av x)
theorem ym3 : LP z23 Tryz.f25 [0] y2b := lp_ok (W := []) (H := []) (xs := [y15]) y6x trivial rfl (fun av x v K => by kernel_rfl) (fun av x n v K => by kernel_rfl)
theorem zd8 : z23.Ok Tryz.prog := fn_ok (k := z23) (fn := Tryz.f25) (W := []) (H := [y2b]) Tryz.func25 y6x ⟨ym3, trivial⟩ rfl rfl (fun av x => by kernel_rfl)
def z49 (c : GCase) : Option GCase := gd (([] : List Int).length + c.marks.length ≤ SMALL) (gd (([] : List GItem).length + c.busy.length ≤ SMALL) (gd (([] : List Int).length + c.data.length ≤ SMALL) (gd (([] : List GDid).length + c.did.length ≤ SMALL) (some (GCase.mk c.state (([] : List Int) ++ c.marks) (([] : List GItem) ++ c.busy) (([] : List Int) ++ c.data) (([] : List GDid) ++ c.did))))))
def z5r : Con := ⟨86, [.v (.s .kase) false], [((.s .kase), true)], [], fun x => z49 x.1⟩
def yv0 : Fs := ⟨[], [], []⟩
theorem yx1 : yv0.Ok Tryz.prog := fs0
theorem za0 : z5r.Ok Tryz.prog := fn_ok (k := z5r) (fn := Tryz.f86) (W := []) (H := []) Tryz.func86 yx1 trivial rfl rfl (fun av x => by kernel_rfl)
def z4j (n : GNet) (people : List Int) (c : GCase) (t : Int) (who : Int) : Option (GCase × Bool) := (z49 c).bind fun x1 => ((z5k n c).bind fun x2 => (if x2 = true then (if decide (c.state = 1) = true then ((z77 n c.marks c.busy t).bind fun x5 => (if x5 = true then ((z5x n people c.did c.busy t).bind fun x7 => ((z6r x7 who).bind fun x8 => (if x8 = true then (if decide ((c.busy.length : Int) = 6) = true then (some (x1, false)) else ((z8e n c.marks t).bind fun x11 => (gd (x1.busy.length + [(GItem.mk t who 0)].length ≤ SMALL) (some ((GCase.mk x1.state x11 (x1.busy ++ [(GItem.mk t who 0)]) x1.data x1.did), true))))) else (some (x1, false))))) else (some (x1, false)))) else (some (x1, false))) else (some (x1, false))))
def z6z : Con := ⟨32, [.v (.s .net) false, .v (.sl .I) false, .v (.s .kase) false, .v .I false, .v .I false], [((.s .kase), true), (.B, true)], [], fun x => z4j x.1 x.2.1 x.2.2.1 x.2.2.2.1 x.2.2.2.2.1⟩
def y9y : Fs := ⟨[z5r, z23, z9k, z0o, z2x, z2m], [], []⟩
theorem yb5 : y9y.Ok Tryz.prog := (fsK za0 (fsK zd8 (fsK y4p (fsK y4q (fsK y0i (fsK yo0 fs0))))))
theorem y0f : z6z.Ok Tryz.prog := fn_ok (k := z6z) (fn := Tryz.f32) (W := []) (H := []) Tryz.func32 yb5 trivial rfl rfl (fun av x => by kernel_rfl)
def z66 (n : GNet) (c : GCase) (k : Int) (v : Int) (num : Int) : Option (GCase × Bool) := (z49 c).bind fun x1 => ((z5k n c).bind fun x2 => (if x2 = true then (if decide (c.state = 1) = true then (gd (ok64 ((c.busy.length : Int) - 1)) ((z00 k 0 ((c.busy.length : Int) - 1)).bind fun x6 => (if x6 = true then ((z00 v (-1) 2).bind fun x8 => (if x8 = true then ((z00 num (-99) 99).bind fun x10 => (if x10 = true then (if decide ((c.did.length : Int) = 60) = true then (some (x1, false)) else ((getI c.busy k).bind fun x13 => ((z4v c.data v num).bind fun x14 => (gd (ok64 (x13.did + 1)) ((getI x1.busy k).bind fun x16 => (gd (ok64 (x13.did + 1)) ((getI n.tasks x13.task).bind fun x18 => (if decide ((x13.did + 1) < x18.need) = true then (some ((GCase.mk x1.state x1.marks (x1.busy.set k.toNat (GItem.mk x16.task x16.who (x13.did + 1))) x14 x1.did), true)) else ((z8f n c.marks x13.task x14).bind fun x20 => (if x20.2 = true then (gd ((0 : Int) ≤ k ∧ k ≤ (c.busy.length : Int)) (gd (([] : List GItem).length + (c.busy.take k.toNat).length ≤ SMALL) (gd (ok64 (k + 1)) (gd ((0 : Int) ≤ (k + 1) ∧ (k + 1) ≤ (c.busy.length : Int)) (gd ((([] : List GItem) ++ (c.busy.take k.toNat)).length + (c.busy.drop (k + 1).toNat).length ≤ SMALL) (gd (x1.did.length + [(GDid.mk x13.task x13.who)].length ≤ SMALL) ((getI x20.1 1).bind fun x28 => (if decide (0 < x28) = true then (some ((GCase.mk 2 x20.1 ([] : List GItem) x14 (x1.did ++ [(GDid.mk x13.task x13.who)])), true)) else (some ((GCase.mk x1.state x20.1 ((([] : List GItem) ++ (c.busy.take k.toNat)) ++ (c.busy.drop (k + 1).toNat)) x14 (x1.did ++ [(GDid.mk x13.task x13.who)])), true)))))))))) else ((z49 c).bind fun x30 => (some (x30, false))))))))))))) else (some (x1, false)))) else (some (x1, false)))) else (some (x1, false))))) else (some (x1, false))) else (some (x1, false))))
def z8b : Con := ⟨112, [.v (.s .net) false, .v (.s .kase) false, .v .I false, .v .I false, .v .I false], [((.s .kase), true), (.B, true)], [], fun x => z66 x.1 x.2.1 x.2.2.1 x.2.2.2.1 x.2.2.2.2.1⟩
def yj5 : Fs := ⟨[z5r, z23, z0g, z9j, z0j], [], []⟩
theorem yl5 : yj5.Ok Tryz.prog := (fsK za0 (fsK zd8 (fsK z0i (fsK y4o (fsK yo1 fs0)))))
theorem y2n : z8b.Ok Tryz.prog := fn_ok (k := z8b) (fn := Tryz.f112) (W := []) (H := []) Tryz.func112 yl5 trivial rfl rfl (fun av x => by kernel_rfl)
def z8d (n : GNet) (c : GCase) : Option (GCase × Bool) := (z49 c).bind fun x1 => ((z5k n c).bind fun x2 => (if x2 = true then (if decide (c.state = 1) = true then (some ((GCase.mk 3 x1.marks ([] : List GItem) x1.data x1.did), true)) else (some (x1, false))) else (some (x1, false))))
def zg2 : Con := ⟨23, [.v (.s .net) false, .v (.s .kase) false], [((.s .kase), true), (.B, true)], [], fun x => z8d x.1 x.2.1⟩
def yj4 : Fs := ⟨[z5r, z23], [], []⟩
theorem yl4 : yj4.Ok Tryz.prog := (fsK za0 (fsK zd8 fs0))
theorem yn9 : zg2.Ok Tryz.prog := fn_ok (k := zg2) (fn := Tryz.f23) (W := []) (H := []) Tryz.func23 yl4 trivial rfl rfl (fun av x => by kernel_rfl)
def y04 (s0_0 : Int) (bk0 : Int → Option Bool) (s1_0 : Int) : Option Bool := if ((decide (s0_0 = 0)) == (decide (s1_0 = 0))) = true then (if decide (1 < s1_0) = true then (some false) else (gd (ok64 (s0_0 + 1)) (bk0 (s0_0 + 1)))) else (some false)
def z0p (tree : List GNode) (s0_0 : Int) (kx1_0 : Int → Option Bool) : Nat → Int → Int → Option Bool
  | 0, _, _ => none
  | n1 + 1, s1_0, s1_1 => if decide (s1_1 < (tree.length : Int)) = true then ((getI tree s1_1).bind fun x15 => (if decide (x15.yes = s0_0) = true then (gd (ok64 (s1_0 + 1)) ((getI tree s1_1).bind fun x18 => (if decide (x18.no = s0_0) = true then (gd (ok64 ((s1_0 + 1) + 1)) (gd (ok64 (s1_1 + 1)) ((z0p tree s0_0 kx1_0 n1) ((s1_0 + 1) + 1) (s1_1 + 1)))) else (gd (ok64 (s1_1 + 1)) ((z0p tree s0_0 kx1_0 n1) (s1_0 + 1) (s1_1 + 1)))))) else ((getI tree s1_1).bind fun x23 => (if decide (x23.no = s0_0) = true then (gd (ok64 (s1_0 + 1)) (gd (ok64 (s1_1 + 1)) ((z0p tree s0_0 kx1_0 n1) (s1_0 + 1) (s1_1 + 1)))) else (gd (ok64 (s1_1 + 1)) ((z0p tree s0_0 kx1_0 n1) s1_0 (s1_1 + 1))))))) else (kx1_0 s1_0)
def y05 (s0_0 : Int) (bk0 : Int → Option Bool) (s2_0 : Int) : Option Bool := if ((decide (s0_0 = 0)) == (decide (s2_0 = 0))) = true then (if decide (1 < s2_0) = true then (some false) else (gd (ok64 (s0_0 + 1)) (bk0 (s0_0 + 1)))) else (some false)
def y06 (s0_0 : Int) (bk0 : Int → Option Bool) (s3_0 : Int) : Option Bool := if ((decide (s0_0 = 0)) == (decide (s3_0 = 0))) = true then (if decide (1 < s3_0) = true then (some false) else (gd (ok64 (s0_0 + 1)) (bk0 (s0_0 + 1)))) else (some false)
def y07 (s0_0 : Int) (bk0 : Int → Option Bool) (s4_0 : Int) : Option Bool := if ((decide (s0_0 = 0)) == (decide (s4_0 = 0))) = true then (if decide (1 < s4_0) = true then (some false) else (gd (ok64 (s0_0 + 1)) (bk0 (s0_0 + 1)))) else (some false)
def y08  : Option Bool := some true
def z20 (tree : List GNode) (kx0_0 : Option Bool) : Nat → Int → Option Bool
  | 0, _ => none
  | n0 + 1, s0_0 => if decide (s0_0 < (tree.length : Int)) = true then ((getI tree s0_0).bind fun x3 => ((z46 x3.if_).bind fun x4 => (if x4 = true then ((z00 x3.ans 0 2).bind fun x6 => (if x6 = true then ((z1n x3.stone).bind fun x8 => (if x8 = true then ((z0x x3.if_ x3.stone).bind fun x10 => (if x10 = true then (if decide (x3.yes = (-1)) = true then (if decide (x3.no = (-1)) = true then (z0p tree s0_0 (y04 s0_0 (z20 tree kx0_0 n0)) FUEL 0 0) else (gd (ok64 (s0_0 + 1)) (gd (ok64 ((tree.length : Int) - 1)) ((z00 x3.no (s0_0 + 1) ((tree.length : Int) - 1)).bind fun x33 => (if x33 = true then (z0p tree s0_0 (y05 s0_0 (z20 tree kx0_0 n0)) FUEL 0 0) else (some false)))))) else (gd (ok64 (s0_0 + 1)) (gd (ok64 ((tree.length : Int) - 1)) ((z00 x3.yes (s0_0 + 1) ((tree.length : Int) - 1)).bind fun x54 => (if x54 = true then (if decide (x3.no = (-1)) = true then (z0p tree s0_0 (y06 s0_0 (z20 tree kx0_0 n0)) FUEL 0 0) else (gd (ok64 (s0_0 + 1)) (gd (ok64 ((tree.length : Int) - 1)) ((z00 x3.no (s0_0 + 1) ((tree.length : Int) - 1)).bind fun x76 => (if x76 = true then (z0p tree s0_0 (y07 s0_0 (z20 tree kx0_0 n0)) FUEL 0 0) else (some false)))))) else (some false)))))) else (some false))) else (some false))) else (some false))) else (some false)))) else (kx0_0)
def z5n (tree : List GNode) : Option Bool := if decide (12 < (tree.length : Int)) = true then (some false) else (z20 tree y08 FUEL 0)
def z0u : Con := ⟨129, [.v (.sl (.s .node)) false], [(.B, true)], [], fun x => z5n x.1⟩
def w1o : Fs := ⟨[z5h, z0g, z0t, z2w], [], []⟩
theorem zx0 : w1o.Ok Tryz.prog := (fsK z8t (fsK z0i (fsK z4a (fsK z4r fs0))))
def zt4 : Tmpl := ⟨[(0, .c (.s (.s .node))), (3, .c .i), (5, .c .i), (6, .c .i)], []⟩
def zm5 : Tmpl := ⟨[(0, .c (.s (.s .node))), (3, .c .i), (5, .c .i)], []⟩
def y7u (av : AV) (x : HP z0u.ps) (n : Nat) (v : zt4.den) (K : Ks (CR z0u)) : Option (CR z0u) := z0p v.1.1 v.1.2.1 (fun s1_0 => zm5.at none ((v.1.1, v.1.2.1, s1_0, ()), ()) (K (.exit 2))) n v.1.2.2.1 v.1.2.2.2.1
def zq8 (av : AV) (x : HP z0u.ps) : Hdl (CR z0u) := hnd [] zt4 (y7u av x)
theorem y8k : LP z0u Tryz.f129 [0, 0] zq8 := lp_ok (W := []) (H := []) (xs := [zm5]) zx0 trivial rfl (fun av x v K => by kernel_rfl) (fun av x n v K => by kernel_rfl)
def y30 : Tmpl := ⟨[(0, .c (.s (.s .node))), (3, .c .i)], []⟩
def y1b : Tmpl := ⟨[], []⟩
def yi3 (av : AV) (x : HP z0u.ps) (n : Nat) (v : y30.den) (K : Ks (CR z0u)) : Option (CR z0u) := z20 v.1.1 (y1b.at none ((), ()) (K (.exit 0))) n v.1.2.1
def y2h (av : AV) (x : HP z0u.ps) : Hdl (CR z0u) := hnd [] y30 (yi3 av x)
theorem ym9 : LP z0u Tryz.f129 [0] y2h := lp_ok (W := []) (H := [zq8]) (xs := [y1b]) zx0 ⟨y8k, trivial⟩ rfl (fun av x v K => by kernel_rfl) (fun av x n v K => by kernel_rfl)
theorem y0h : z0u.Ok Tryz.prog := fn_ok (k := z0u) (fn := Tryz.f129) (W := []) (H := [y2h]) Tryz.func129 zx0 ⟨ym9, trivial⟩ rfl rfl (fun av x => by kernel_rfl)
def zs0 (s0_0 : Int) (s0_1 : Int) : Option (Int × Int) := some (s0_0, s0_1)
def zs1 (s0_0 : Int) (s0_1 : Int) : Option (Int × Int) := some (s0_0, s0_1)
def z27 (tree : List GNode) (data : List Int) (kx0_0 : Int → Int → Option (Int × Int)) (kx0_1 : Int → Int → Option (Int × Int)) : Nat → Int → Int → Int → Int → Option (Int × Int)
  | 0, _, _, _, _ => none
  | n0 + 1, s0_0, s0_1, s0_2, s0_3 => if decide (s0_3 < 12) = true then (if decide (s0_2 = (-1)) = true then (kx0_0 s0_0 s0_1) else ((getI tree s0_2).bind fun x4 => ((z0x x4.if_ data).bind fun x5 => (if x5 = true then ((getI tree s0_2).bind fun x7 => (gd (ok64 (s0_3 + 1)) ((z27 tree data kx0_0 kx0_1 n0) s0_2 s0_2 x7.yes (s0_3 + 1)))) else ((getI tree s0_2).bind fun x9 => (gd (ok64 (s0_3 + 1)) ((z27 tree data kx0_0 kx0_1 n0) s0_0 s0_2 x9.no (s0_3 + 1)))))))) else (kx0_1 s0_0 s0_1)
def zs2 (s1_0 : Int) (s1_1 : Int) : Option (Int × Int) := some (s1_0, s1_1)
def zs3 (s1_0 : Int) (s1_1 : Int) : Option (Int × Int) := some (s1_0, s1_1)
def z4z (tree : List GNode) (data : List Int) : Option (Int × Int) := if decide ((tree.length : Int) = 0) = true then (z27 tree data zs0 zs1 FUEL (-1) (-1) (-1) 0) else (z27 tree data zs2 zs3 FUEL (-1) (-1) 0 0)
def z1w : Con := ⟨209, [.v (.sl (.s .node)) false, .v (.sl .I) false], [(.I, true), (.I, true)], [], fun x => z4z x.1 x.2.1⟩
def yv3 : Fs := ⟨[z2w], [], []⟩
theorem y44 : yv3.Ok Tryz.prog := (fsK z4r fs0)
def y0w : Tmpl := ⟨[(0, .c (.s (.s .node))), (1, .c (.s .I)), (6, .c .i), (7, .c .i), (8, .c .i), (9, .c .i)], []⟩
def z96 : Tmpl := ⟨[(6, .c .i), (7, .c .i)], []⟩
def y9j (av : AV) (x : HP z1w.ps) (n : Nat) (v : y0w.den) (K : Ks (CR z1w)) : Option (CR z1w) := z27 v.1.1 v.1.2.1 (fun s0_0 s0_1 => z96.at none ((s0_0, s0_1, ()), ()) (K (.exit 0))) (fun s0_0 s0_1 => z96.at none ((s0_0, s0_1, ()), ()) (K (.exit 0))) n v.1.2.2.1 v.1.2.2.2.1 v.1.2.2.2.2.1 v.1.2.2.2.2.2.1
def zy4 (av : AV) (x : HP z1w.ps) : Hdl (CR z1w) := hnd [] y0w (y9j av x)
theorem yc8 : LP z1w Tryz.f209 [0] zy4 := lp_ok (W := []) (H := []) (xs := [z96]) y44 trivial rfl (fun av x v K => by kernel_rfl) (fun av x n v K => by kernel_rfl)
theorem zp3 : z1w.Ok Tryz.prog := fn_ok (k := z1w) (fn := Tryz.f209) (W := []) (H := [zy4]) Tryz.func209 y44 ⟨yc8, trivial⟩ rfl rfl (fun av x => by kernel_rfl)
def z9q (tree : List GNode) (data : List Int) : Option Int := (z5n tree).bind fun x1 => (if x1 = true then ((z1n data).bind fun x3 => (if x3 = true then ((z4z tree data).bind fun x5 => (if decide (x5.1 = (-1)) = true then (some 0) else ((getI tree x5.1).bind fun x7 => (some x7.ans)))) else (some 0))) else (some 0))
def zo0 : Con := ⟨186, [.v (.sl (.s .node)) false, .v (.sl .I) false], [(.I, true)], [], fun x => z9q x.1 x.2.1⟩
def yu2 : Fs := ⟨[z0u, z0t, z1w], [], []⟩
theorem yw5 : yu2.Ok Tryz.prog := (fsK y0h (fsK z4a (fsK zp3 fs0)))
theorem yz3 : zo0.Ok Tryz.prog := fn_ok (k := zo0) (fn := Tryz.f186) (W := []) (H := []) Tryz.func186 yw5 trivial rfl rfl (fun av x => by kernel_rfl)
def z9v (tree : List GNode) (a : List Int) (b : List Int) : Option Bool := (z4z tree a).bind fun x1 => ((z4z tree b).bind fun x2 => (if decide (x1.2 = x2.2) = true then (if decide (x1.2 = (-1)) = true then (some true) else ((getI tree x1.2).bind fun x5 => ((z0x x5.if_ a).bind fun x6 => ((getI tree x1.2).bind fun x7 => ((z0x x7.if_ b).bind fun x8 => (some (x6 == x8))))))) else (some false)))
def zo4 : Con := ⟨210, [.v (.sl (.s .node)) false, .v (.sl .I) false, .v (.sl .I) false], [(.B, true)], [], fun x => z9v x.1 x.2.1 x.2.2.1⟩
def yv2 : Fs := ⟨[z1w, z2w], [], []⟩
theorem yx2 : yv2.Ok Tryz.prog := (fsK zp3 (fsK z4r fs0))
theorem yz8 : zo4.Ok Tryz.prog := fn_ok (k := zo4) (fn := Tryz.f210) (W := []) (H := []) Tryz.func210 yx2 trivial rfl rfl (fun av x => by kernel_rfl)
def z91 (l0_1 : List GNode) : Option (List GNode) := some l0_1
def z3x (tree : List GNode) (kx0_0 : List GNode → Option (List GNode)) : Nat → Int → List GNode → Option (List GNode)
  | 0, _, _ => none
  | n0 + 1, s0_0, l0_1 => if decide (s0_0 < (tree.length : Int)) = true then ((getI tree s0_0).bind fun x2 => (gd (([] : List Int).length + x2.stone.length ≤ SMALL) (gd (l0_1.length + [(GNode.mk x2.if_ x2.yes x2.no x2.ans (([] : List Int) ++ x2.stone))].length ≤ SMALL) (gd (ok64 (s0_0 + 1)) ((z3x tree kx0_0 n0) (s0_0 + 1) (l0_1 ++ [(GNode.mk x2.if_ x2.yes x2.no x2.ans (([] : List Int) ++ x2.stone))])))))) else (kx0_0 l0_1)
def z7q (tree : List GNode) : Option (List GNode) := z3x tree z91 FUEL 0 ([] : List GNode)
def z2u : Con := ⟨189, [.v (.sl (.s .node)) false], [((.sl (.s .node)), true)], [], fun x => z7q x.1⟩
def yv1 : Fs := ⟨[], [], []⟩
theorem y43 : yv1.Ok Tryz.prog := fs0
def y0v : Tmpl := ⟨[(0, .c (.s (.s .node))), (3, .c (.ref 6)), (4, .c .i)], [(6, .arr (.s .node) true)]⟩
def zv0 : Tmpl := ⟨[(3, .c (.ref 6))], [(6, .arr (.s .node) true)]⟩
def y9i (av : AV) (x : HP z2u.ps) (n : Nat) (v : y0v.den) (K : Ks (CR z2u)) : Option (CR z2u) := z3x v.1.1 (fun l0_1 => zv0.at none (((), ()), (l0_1, ())) (K (.exit 0))) n v.1.2.2.1 v.2.1
def zy3 (av : AV) (x : HP z2u.ps) : Hdl (CR z2u) := hnd [] y0v (y9i av x)
theorem yc7 : LP z2u Tryz.f189 [0] zy3 := lp_ok (W := []) (H := []) (xs := [zv0]) y43 trivial rfl (fun av x v K => by kernel_rfl) (fun av x n v K => by kernel_rfl)
theorem y4t : z2u.Ok Tryz.prog := fn_ok (k := z2u) (fn := Tryz.f189) (W := []) (H := [zy3]) Tryz.func189 y43 ⟨yc7, trivial⟩ rfl rfl (fun av x => by kernel_rfl)
def z6f (tree : List GNode) (data : List Int) (e : GAsk) (ans : Int) (x1 : (List GNode)) : Option ((List GNode) × Bool) := (z4z tree data).bind fun x20 => (if decide (x20.2 = (-1)) = true then (gd (([] : List Int).length + data.length ≤ SMALL) (gd (x1.length + [(GNode.mk e (-1) (-1) ans (([] : List Int) ++ data))].length ≤ SMALL) (some ((x1 ++ [(GNode.mk e (-1) (-1) ans (([] : List Int) ++ data))]), true)))) else ((getI tree x20.2).bind fun x24 => ((z0x x24.if_ data).bind fun x25 => (if x25 = true then ((getI x1 x20.2).bind fun x27 => (gd (([] : List Int).length + data.length ≤ SMALL) (gd ((x1.set x20.2.toNat (GNode.mk x27.if_ (tree.length : Int) x27.no x27.ans x27.stone)).length + [(GNode.mk e (-1) (-1) ans (([] : List Int) ++ data))].length ≤ SMALL) (some (((x1.set x20.2.toNat (GNode.mk x27.if_ (tree.length : Int) x27.no x27.ans x27.stone)) ++ [(GNode.mk e (-1) (-1) ans (([] : List Int) ++ data))]), true))))) else ((getI x1 x20.2).bind fun x30 => (gd (([] : List Int).length + data.length ≤ SMALL) (gd ((x1.set x20.2.toNat (GNode.mk x30.if_ x30.yes (tree.length : Int) x30.ans x30.stone)).length + [(GNode.mk e (-1) (-1) ans (([] : List Int) ++ data))].length ≤ SMALL) (some (((x1.set x20.2.toNat (GNode.mk x30.if_ x30.yes (tree.length : Int) x30.ans x30.stone)) ++ [(GNode.mk e (-1) (-1) ans (([] : List Int) ++ data))]), true)))))))))
def z37 (tree : List GNode) (data : List Int) (e : GAsk) (x1 : (List GNode)) (kx0_0 : Option ((List GNode) × Bool)) : Nat → Int → Option ((List GNode) × Bool)
  | 0, _ => none
  | n0 + 1, s0_0 => if decide (s0_0 < (tree.length : Int)) = true then ((getI tree s0_0).bind fun x12 => ((z9v tree x12.stone data).bind fun x13 => (if x13 = true then ((getI tree s0_0).bind fun x15 => ((z0x e x15.stone).bind fun x16 => (if x16 = true then (some (x1, false)) else (gd (ok64 (s0_0 + 1)) ((z37 tree data e x1 kx0_0 n0) (s0_0 + 1)))))) else (gd (ok64 (s0_0 + 1)) ((z37 tree data e x1 kx0_0 n0) (s0_0 + 1)))))) else (kx0_0)
def z4w (tree : List GNode) (data : List Int) (e : GAsk) (ans : Int) : Option ((List GNode) × Bool) := (z7q tree).bind fun x1 => ((z5n tree).bind fun x2 => (if x2 = true then ((z1n data).bind fun x4 => (if x4 = true then ((z0x e data).bind fun x6 => (if x6 = true then ((z00 ans 0 2).bind fun x8 => (if x8 = true then (if decide ((tree.length : Int) = 12) = true then (some (x1, false)) else (z37 tree data e x1 (z6f tree data e ans x1) FUEL 0)) else (some (x1, false)))) else (some (x1, false)))) else (some (x1, false)))) else (some (x1, false))))
def z2n : Con := ⟨187, [.v (.sl (.s .node)) false, .v (.sl .I) false, .v (.s .ask) false, .v .I false], [((.sl (.s .node)), true), (.B, true)], [], fun x => z4w x.1 x.2.1 x.2.2.1 x.2.2.2.1⟩
def yu1 : Fs := ⟨[z2u, z0u, z0t, z2w, z0g, zo4, z1w], [], []⟩
theorem y40 : yu1.Ok Tryz.prog := (fsK y4t (fsK y0h (fsK z4a (fsK z4r (fsK z0i (fsK yz8 (fsK zp3 fs0)))))))
def y0s : Tmpl := ⟨[(0, .c (.s (.s .node))), (1, .c (.s .I)), (3, .c .i), (6, .c (.bx 6 0)), (10, .c (.ref 15)), (11, .c .i)], [(6, .boxT (.s .ask)), (15, .arr (.s .node) true)]⟩
def zu7 : Tmpl := ⟨[(0, .c (.s (.s .node))), (1, .c (.s .I)), (3, .c .i), (6, .c (.bx 6 0)), (10, .c (.ref 15))], [(6, .boxT (.s .ask)), (15, .arr (.s .node) true)]⟩
def y9f (av : AV) (x : HP z2n.ps) (n : Nat) (v : y0s.den) (K : Ks (CR z2n)) : Option (CR z2n) := z37 v.1.1 v.1.2.1 v.2.1 v.2.2.1 (zu7.at none ((v.1.1, v.1.2.1, v.1.2.2.1, (), (), ()), (v.2.1, v.2.2.1, ())) (K (.exit 0))) n v.1.2.2.2.2.2.1
def zy0 (av : AV) (x : HP z2n.ps) : Hdl (CR z2n) := hnd [] y0s (y9f av x)
theorem yc4 : LP z2n Tryz.f187 [0] zy0 := lp_ok (W := []) (H := []) (xs := [zu7]) y40 trivial rfl (fun av x v K => by kernel_rfl) (fun av x n v K => by kernel_rfl)
theorem y4r : z2n.Ok Tryz.prog := fn_ok (k := z2n) (fn := Tryz.f187) (W := []) (H := [zy0]) Tryz.func187 y40 ⟨yc4, trivial⟩ rfl rfl (fun av x => by kernel_rfl)
def zb2 (ans : Int) : Option Bool := (z0l ans 0 2).bind fun x1 => (some x1)
def za9 : Con := ⟨121, [.v .I false], [(.B, true)], [], fun x => zb2 x.1⟩
def y9w : Fs := ⟨[z1r], [], []⟩
theorem yb3 : y9w.Ok Tryz.prog := (fsK z2z fs0)
theorem yd5 : za9.Ok Tryz.prog := fn_ok (k := za9) (fn := Tryz.f121) (W := []) (H := []) Tryz.func121 yb3 trivial rfl rfl (fun av x => by kernel_rfl)
def zs4  : Option Bool := some true
def z40 (nets : List GNet) (kx0_0 : Option Bool) : Nat → Int → Option Bool
  | 0, _ => none
  | n0 + 1, s0_0 => if decide (s0_0 < (nets.length : Int)) = true then ((getI nets s0_0).bind fun x4 => ((z26 x4).bind fun x5 => (if x5 = true then (gd (ok64 (s0_0 + 1)) ((z40 nets kx0_0 n0) (s0_0 + 1))) else (some false)))) else (kx0_0)
def z7r (nets : List GNet) : Option Bool := (z00 (nets.length : Int) 1 3).bind fun x1 => (if x1 = true then (z40 nets zs4 FUEL 0) else (some false))
def z2v : Con := ⟨128, [.v (.sl (.s .net)) false], [(.B, true)], [], fun x => z7r x.1⟩
def yv7 : Fs := ⟨[z0g, z1m], [], []⟩
theorem y45 : yv7.Ok Tryz.prog := (fsK z0i (fsK z8u fs0))
def y0z : Tmpl := ⟨[(0, .c (.s (.s .net))), (3, .c .i)], []⟩
def zv3 : Tmpl := ⟨[], []⟩
def y9m (av : AV) (x : HP z2v.ps) (n : Nat) (v : y0z.den) (K : Ks (CR z2v)) : Option (CR z2v) := z40 v.1.1 (zv3.at none ((), ()) (K (.exit 0))) n v.1.2.1
def zy7 (av : AV) (x : HP z2v.ps) : Hdl (CR z2v) := hnd [] y0z (y9m av x)
theorem yd1 : LP z2v Tryz.f128 [0] zy7 := lp_ok (W := []) (H := []) (xs := [zv3]) y45 trivial rfl (fun av x v K => by kernel_rfl) (fun av x n v K => by kernel_rfl)
theorem y4u : z2v.Ok Tryz.prog := fn_ok (k := z2v) (fn := Tryz.f128) (W := []) (H := [zy7]) Tryz.func128 y45 ⟨yd1, trivial⟩ rfl rfl (fun av x => by kernel_rfl)
def z6k (p0_1 : Int) (l0_1 : List GTask) : Option GNet := some (GNet.mk p0_1 l0_1)
def z2i (n : GNet) (kx0_0 : List GTask → Option GNet) : Nat → Int → List GTask → Option GNet
  | 0, _, _ => none
  | n0 + 1, s0_0, l0_1 => if decide (s0_0 < (n.tasks.length : Int)) = true then ((getI n.tasks s0_0).bind fun x2 => (gd (([] : List Int).length + x2.in_.length ≤ SMALL) (gd (([] : List GFlow).length + x2.out.length ≤ SMALL) (gd (([] : List Int).length + x2.clear.length ≤ SMALL) (gd (l0_1.length + [(GTask.mk x2.join x2.split (([] : List Int) ++ x2.in_) (([] : List GFlow) ++ x2.out) (([] : List Int) ++ x2.clear) x2.role x2.apart x2.all x2.need)].length ≤ SMALL) (gd (ok64 (s0_0 + 1)) ((z2i n kx0_0 n0) (s0_0 + 1) (l0_1 ++ [(GTask.mk x2.join x2.split (([] : List Int) ++ x2.in_) (([] : List GFlow) ++ x2.out) (([] : List Int) ++ x2.clear) x2.role x2.apart x2.all x2.need)])))))))) else (kx0_0 l0_1)
def z54 (n : GNet) : Option GNet := z2i n (z6k n.places) FUEL 0 ([] : List GTask)
def z15 : Con := ⟨190, [.v (.s .net) false], [((.s .net), true)], [], fun x => z54 x.1⟩
def y88 : Fs := ⟨[], [], []⟩
theorem zq0 : y88.Ok Tryz.prog := fs0
def ze5 : Tmpl := ⟨[(1, .c (.bx 1 0)), (2, .c (.bx 2 0)), (3, .c (.bx 3 0)), (4, .c .i)], [(1, .boxT (.s .net)), (2, .box [.i, .nl]), (3, .box [.i, .ref 510301]), (510301, .arr (.s .task) true)]⟩
def zc2 : Tmpl := ⟨[(2, .c (.bx 2 0)), (3, .c (.bx 3 0))], [(2, .box [.i, .nl]), (3, .box [.i, .ref 510301]), (510301, .arr (.s .task) true)]⟩
def y3p (av : AV) (x : HP z15.ps) (n : Nat) (v : ze5.den) (K : Ks (CR z15)) : Option (CR z15) := z2i v.2.1 (fun l0_1 => zc2.at none (((), (), ()), ((v.2.2.1.1, (), ()), (v.2.2.2.1.1, (), ()), l0_1, ())) (K (.exit 0))) n v.1.2.2.2.1 v.2.2.2.2.1
def zc8 (av : AV) (x : HP z15.ps) : Hdl (CR z15) := hnd [.b 3 1 510301 (.s .task)] ze5 (y3p av x)
theorem y4d : LP z15 Tryz.f190 [0] zc8 := lp_ok (W := []) (H := []) (xs := [zc2]) zq0 trivial rfl (fun av x v K => by kernel_rfl) (fun av x n v K => by kernel_rfl)
theorem zs6 : z15.Ok Tryz.prog := fn_ok (k := z15) (fn := Tryz.f190) (W := []) (H := [zc8]) Tryz.func190 zq0 ⟨y4d, trivial⟩ rfl rfl (fun av x => by kernel_rfl)
def z8z (p0_0 : List Int) (l0_1 : List GNet) : Option GHouse := some (GHouse.mk l0_1 p0_0 [] [])
def z3t (nets : List GNet) (kx0_0 : List GNet → Option GHouse) : Nat → Int → List GNet → Option GHouse
  | 0, _, _ => none
  | n0 + 1, s0_0, l0_1 => if decide (s0_0 < (nets.length : Int)) = true then ((getI nets s0_0).bind fun x7 => ((z54 x7).bind fun x8 => (gd (l0_1.length + [x8].length ≤ SMALL) (gd (ok64 (s0_0 + 1)) ((z3t nets kx0_0 n0) (s0_0 + 1) (l0_1 ++ [x8])))))) else (kx0_0 l0_1)
def z9n (nets : List GNet) (people : List Int) : Option GHouse := (z7r nets).bind fun x1 => (if x1 = true then ((z5m people).bind fun x3 => (if x3 = true then (gd (([] : List Int).length + people.length ≤ SMALL) (z3t nets (z8z (([] : List Int) ++ people)) FUEL 0 ([] : List GNet))) else (some (GHouse.mk [] [] [] [])))) else (some (GHouse.mk [] [] [] [])))
def z3c : Con := ⟨195, [.v (.sl (.s .net)) false, .v (.sl .I) false], [((.s .house), true)], [], fun x => z9n x.1 x.2.1⟩
def yt7 : Fs := ⟨[z2v, z25, z15], [], []⟩
theorem y3x : yt7.Ok Tryz.prog := (fsK y4u (fsK ze0 (fsK zs6 fs0)))
def y0o : Tmpl := ⟨[(0, .c (.s (.s .net))), (4, .c (.bx 4 0)), (5, .c (.bx 5 0)), (6, .c .i)], [(4, .box [.nl, .nl, .nl, .nl]), (5, .box [.ref 510500, .ref 18, .nl, .nl]), (510500, .arr (.s .net) true), (18, .arr .I true)]⟩
def zu3 : Tmpl := ⟨[(4, .c (.bx 4 0)), (5, .c (.bx 5 0))], [(4, .box [.nl, .nl, .nl, .nl]), (5, .box [.ref 510500, .ref 18, .nl, .nl]), (510500, .arr (.s .net) true), (18, .arr .I true)]⟩
def y9b (av : AV) (x : HP z3c.ps) (n : Nat) (v : y0o.den) (K : Ks (CR z3c)) : Option (CR z3c) := z3t v.1.1 (fun l0_1 => zu3.at none (((), (), ()), (((), (), (), (), ()), ((), (), (), (), ()), l0_1, v.2.2.2.2.1, ())) (K (.exit 0))) n v.1.2.2.2.1 v.2.2.2.1
def zx6 (av : AV) (x : HP z3c.ps) : Hdl (CR z3c) := hnd [.b 5 0 510500 (.s .net)] y0o (y9b av x)
theorem yc0 : LP z3c Tryz.f195 [0] zx6 := lp_ok (W := []) (H := []) (xs := [zu3]) y3x trivial rfl (fun av x v K => by kernel_rfl) (fun av x n v K => by kernel_rfl)
theorem yz0 : z3c.Ok Tryz.prog := fn_ok (k := z3c) (fn := Tryz.f195) (W := []) (H := [zx6]) Tryz.func195 y3x ⟨yc0, trivial⟩ rfl rfl (fun av x => by kernel_rfl)
def y00  : Option Bool := some true
def z4l (h : GHouse) (kx0_0 : Option Bool) : Nat → Int → Option Bool
  | 0, _ => none
  | n0 + 1, s0_0 => if decide (s0_0 < (h.runs.length : Int)) = true then ((getI h.runs s0_0).bind fun x9 => (gd (ok64 ((h.nets.length : Int) - 1)) ((z00 x9.net 0 ((h.nets.length : Int) - 1)).bind fun x11 => (if x11 = true then ((getI h.runs s0_0).bind fun x13 => ((getI h.nets x13.net).bind fun x14 => ((getI h.runs s0_0).bind fun x15 => ((z5k x14 x15.case).bind fun x16 => (if x16 = true then (gd (ok64 (s0_0 + 1)) ((z4l h kx0_0 n0) (s0_0 + 1))) else (some false)))))) else (some false))))) else (kx0_0)
def z19 (h : GHouse) : Option Bool := (z7r h.nets).bind fun x1 => (if x1 = true then ((z5m h.people).bind fun x3 => (if x3 = true then ((z5n h.tree).bind fun x5 => (if x5 = true then (if decide (5 < (h.runs.length : Int)) = true then (some false) else (z4l h y00 FUEL 0)) else (some false))) else (some false))) else (some false))
def z43 : Con := ⟨54, [.v (.s .house) false], [(.B, true)], [], fun x => z19 x.1⟩
def w1j : Fs := ⟨[z2v, z25, z0u, z0g, z23], [], []⟩
theorem y6z : w1j.Ok Tryz.prog := (fsK y4u (fsK ze0 (fsK y0h (fsK z0i (fsK zd8 fs0)))))
def y2w : Tmpl := ⟨[(1, .c (.bx 1 0)), (3, .c .i)], [(1, .boxT (.s .house))]⟩
def y17 : Tmpl := ⟨[], []⟩
def yh9 (av : AV) (x : HP z43.ps) (n : Nat) (v : y2w.den) (K : Ks (CR z43)) : Option (CR z43) := z4l v.2.1 (y17.at none ((), ()) (K (.exit 0))) n v.1.2.1
def y2d (av : AV) (x : HP z43.ps) : Hdl (CR z43) := hnd [] y2w (yh9 av x)
theorem ym5 : LP z43 Tryz.f54 [0] y2d := lp_ok (W := []) (H := []) (xs := [y17]) y6z trivial rfl (fun av x v K => by kernel_rfl) (fun av x n v K => by kernel_rfl)
theorem w2o : z43.Ok Tryz.prog := fn_ok (k := z43) (fn := Tryz.f54) (W := []) (H := [y2d]) Tryz.func54 y6z ⟨ym5, trivial⟩ rfl rfl (fun av x => by kernel_rfl)
def z92 (x2 : (List GNode)) (p0_0 : List Int) (l0_1 : List GNet) (l1_1 : List GRun) : Option GHouse := some (GHouse.mk l0_1 p0_0 x2 l1_1)
def z3z (h : GHouse) (kx1_0 : List GRun → Option GHouse) : Nat → Int → List GRun → Option GHouse
  | 0, _, _ => none
  | n1 + 1, s1_0, l1_1 => if decide (s1_0 < (h.runs.length : Int)) = true then ((getI h.runs s1_0).bind fun x9 => ((getI h.runs s1_0).bind fun x10 => ((z49 x10.case).bind fun x11 => (gd (l1_1.length + [(GRun.mk x9.net x11)].length ≤ SMALL) (gd (ok64 (s1_0 + 1)) ((z3z h kx1_0 n1) (s1_0 + 1) (l1_1 ++ [(GRun.mk x9.net x11)]))))))) else (kx1_0 l1_1)
def z6h (h : GHouse) (x2 : (List GNode)) (p0_0 : List Int) (l0_1 : List GNet) : Option GHouse := z3z h (z92 x2 p0_0 l0_1) FUEL 0 ([] : List GRun)
def z3y (h : GHouse) (kx0_0 : List GNet → Option GHouse) : Nat → Int → List GNet → Option GHouse
  | 0, _, _ => none
  | n0 + 1, s0_0, l0_1 => if decide (s0_0 < (h.nets.length : Int)) = true then ((getI h.nets s0_0).bind fun x4 => ((z54 x4).bind fun x5 => (gd (l0_1.length + [x5].length ≤ SMALL) (gd (ok64 (s0_0 + 1)) ((z3y h kx0_0 n0) (s0_0 + 1) (l0_1 ++ [x5])))))) else (kx0_0 l0_1)
def z9x (h : GHouse) : Option GHouse := gd (([] : List Int).length + h.people.length ≤ SMALL) ((z7q h.tree).bind fun x2 => (z3y h (z6h h x2 (([] : List Int) ++ h.people)) FUEL 0 ([] : List GNet)))
def z0v : Con := ⟨135, [.v (.s .house) false], [((.s .house), true)], [], fun x => z9x x.1⟩
def yv5 : Fs := ⟨[z2u, z15, z5r], [], []⟩
theorem zn7 : yv5.Ok Tryz.prog := (fsK y4t (fsK zs6 (fsK za0 fs0)))
def y0x : Tmpl := ⟨[(1, .c (.bx 1 0)), (2, .c (.bx 2 0)), (3, .c (.bx 3 0)), (4, .c .i)], [(1, .boxT (.s .house)), (2, .box [.nl, .nl, .nl, .nl]), (3, .box [.ref 510300, .ref 9, .ref 12, .nl]), (510300, .arr (.s .net) true), (9, .arr .I true), (12, .arr (.s .node) true)]⟩
def zv1 : Tmpl := ⟨[(1, .c (.bx 1 0)), (2, .c (.bx 2 0)), (3, .c (.bx 3 0))], [(1, .boxT (.s .house)), (2, .box [.nl, .nl, .nl, .nl]), (3, .box [.ref 510300, .ref 9, .ref 12, .nl]), (510300, .arr (.s .net) true), (9, .arr .I true), (12, .arr (.s .node) true)]⟩
def y9k (av : AV) (x : HP z0v.ps) (n : Nat) (v : y0x.den) (K : Ks (CR z0v)) : Option (CR z0v) := z3y v.2.1 (fun l0_1 => zv1.at none (((), (), (), ()), (v.2.1, ((), (), (), (), ()), ((), (), (), (), ()), l0_1, v.2.2.2.2.2.1, v.2.2.2.2.2.2.1, ())) (K (.exit 0))) n v.1.2.2.2.1 v.2.2.2.2.1
def zy5 (av : AV) (x : HP z0v.ps) : Hdl (CR z0v) := hnd [.b 3 0 510300 (.s .net)] y0x (y9k av x)
theorem yc9 : LP z0v Tryz.f135 [0] zy5 := lp_ok (W := []) (H := []) (xs := [zv1]) zn7 trivial rfl (fun av x v K => by kernel_rfl) (fun av x n v K => by kernel_rfl)
def y0y : Tmpl := ⟨[(1, .c (.bx 1 0)), (2, .c (.bx 2 0)), (3, .c (.bx 3 0)), (5, .c .i)], [(1, .boxT (.s .house)), (2, .box [.nl, .nl, .nl, .nl]), (3, .box [.ref 510300, .ref 9, .ref 12, .ref 510303]), (510300, .arr (.s .net) true), (9, .arr .I true), (12, .arr (.s .node) true), (510303, .arr (.s .run) true)]⟩
def zv2 : Tmpl := ⟨[(2, .c (.bx 2 0)), (3, .c (.bx 3 0))], [(2, .box [.nl, .nl, .nl, .nl]), (3, .box [.ref 510300, .ref 9, .ref 12, .ref 510303]), (510300, .arr (.s .net) true), (9, .arr .I true), (12, .arr (.s .node) true), (510303, .arr (.s .run) true)]⟩
def y9l (av : AV) (x : HP z0v.ps) (n : Nat) (v : y0y.den) (K : Ks (CR z0v)) : Option (CR z0v) := z3z v.2.1 (fun l1_1 => zv2.at none (((), (), ()), (((), (), (), (), ()), ((), (), (), (), ()), v.2.2.2.2.1, v.2.2.2.2.2.1, v.2.2.2.2.2.2.1, l1_1, ())) (K (.exit 2))) n v.1.2.2.2.1 v.2.2.2.2.2.2.2.1
def zy6 (av : AV) (x : HP z0v.ps) : Hdl (CR z0v) := hnd [.b 3 3 510303 (.s .run)] y0y (y9l av x)
theorem yd0 : LP z0v Tryz.f135 [1] zy6 := lp_ok (W := []) (H := []) (xs := [zv2]) zn7 trivial rfl (fun av x v K => by kernel_rfl) (fun av x n v K => by kernel_rfl)
theorem w00 : z0v.Ok Tryz.prog := fn_ok (k := z0v) (fn := Tryz.f135) (W := []) (H := [zy5, zy6]) Tryz.func135 zn7 ⟨yc9, yd0, trivial⟩ rfl rfl (fun av x => by kernel_rfl)
def z9y (r : GReq) : Option GReq := if decide (r.kind = 1) = true then (some (GReq.mk r.kind 0 0 0 0 0 r.data (GAsk.mk 0 0 0) 0)) else (if decide (r.kind = 2) = true then (some (GReq.mk r.kind r.who r.case r.task 0 0 [] (GAsk.mk 0 0 0) 0)) else (if decide (r.kind = 3) = true then (some (GReq.mk r.kind 0 r.case r.task r.var r.num [] (GAsk.mk 0 0 0) 0)) else (if decide (r.kind = 4) = true then (some (GReq.mk r.kind 0 r.case 0 0 0 [] (GAsk.mk 0 0 0) 0)) else (if decide (r.kind = 5) = true then (some (GReq.mk r.kind 0 0 0 0 0 r.data r.if_ r.ans)) else (some (GReq.mk r.kind 0 0 0 0 0 [] (GAsk.mk 0 0 0) 0))))))
def zo6 : Con := ⟨137, [.v (.s .req) false], [((.s .req), false)], [], fun x => z9y x.1⟩
def yv6 : Fs := ⟨[], [], []⟩
theorem yx4 : yv6.Ok Tryz.prog := fs0
theorem w01 : zo6.Ok Tryz.prog := fn_ok (k := zo6) (fn := Tryz.f137) (W := []) (H := []) Tryz.func137 yx4 trivial rfl rfl (fun av x => by kernel_rfl)
def z39 (a : GReq) (b : GReq) : Option Bool := if decide (a.kind = b.kind) = true then (if decide (a.who = b.who) = true then (if decide (a.case = b.case) = true then (if decide (a.task = b.task) = true then (if decide (a.var = b.var) = true then (if decide (a.num = b.num) = true then (if decide ([a.if_.op, a.if_.var, a.if_.k] = [b.if_.op, b.if_.var, b.if_.k]) = true then (some (decide (a.ans = b.ans))) else (some false)) else (some false)) else (some false)) else (some false)) else (some false)) else (some false)) else (some false)
def z28 (a : GReq) (b : GReq) (kx0_0 : Option Bool) : Nat → Int → Option Bool
  | 0, _ => none
  | n0 + 1, s0_0 => if decide (s0_0 < (a.data.length : Int)) = true then ((getI a.data s0_0).bind fun x3 => ((getI b.data s0_0).bind fun x4 => (if decide (x3 = x4) = true then (gd (ok64 (s0_0 + 1)) ((z28 a b kx0_0 n0) (s0_0 + 1))) else (some false)))) else (kx0_0)
def z9z (a : GReq) (b : GReq) : Option Bool := if decide ((a.data.length : Int) = (b.data.length : Int)) = true then (z28 a b (z39 a b) FUEL 0) else (some false)
def z3g : Con := ⟨136, [.v (.s .req) false, .v (.s .req) false], [(.B, true)], [], fun x => z9z x.1 x.2.1⟩
def yv8 : Fs := ⟨[], [], []⟩
theorem y46 : yv8.Ok Tryz.prog := fs0
def y10 : Tmpl := ⟨[(2, .c (.bx 2 0)), (3, .c (.bx 3 0)), (5, .c .i)], [(2, .boxT (.s .req)), (3, .boxT (.s .req))]⟩
def zv4 : Tmpl := ⟨[(2, .c (.bx 2 0)), (3, .c (.bx 3 0))], [(2, .boxT (.s .req)), (3, .boxT (.s .req))]⟩
def y9n (av : AV) (x : HP z3g.ps) (n : Nat) (v : y10.den) (K : Ks (CR z3g)) : Option (CR z3g) := z28 v.2.1 v.2.2.1 (zv4.at none (((), (), ()), (v.2.1, v.2.2.1, ())) (K (.exit 0))) n v.1.2.2.1
def zy8 (av : AV) (x : HP z3g.ps) : Hdl (CR z3g) := hnd [] y10 (y9n av x)
theorem yd2 : LP z3g Tryz.f136 [0] zy8 := lp_ok (W := []) (H := []) (xs := [zv4]) y46 trivial rfl (fun av x v K => by kernel_rfl) (fun av x n v K => by kernel_rfl)
theorem w02 : z3g.Ok Tryz.prog := fn_ok (k := z3g) (fn := Tryz.f136) (W := []) (H := [zy8]) Tryz.func136 y46 ⟨yd2, trivial⟩ rfl rfl (fun av x => by kernel_rfl)
def z79 (r : GReq) : Option Bool := (z00 r.kind 1 5).bind fun x1 => (if x1 = true then ((z9y r).bind fun x3 => ((z9z r x3).bind fun x4 => (if x4 = true then ((z00 r.who 0 4).bind fun x6 => (if x6 = true then ((z00 r.case 0 4).bind fun x8 => (if x8 = true then ((z00 r.task 0 5).bind fun x10 => (if x10 = true then ((z00 r.var (-1) 2).bind fun x12 => (if x12 = true then ((z00 r.num (-99) 99).bind fun x14 => (if x14 = true then ((z46 r.if_).bind fun x16 => (if x16 = true then ((z00 r.ans 0 2).bind fun x18 => (if x18 = true then (if decide (r.kind = 1) = true then ((z1n r.data).bind fun x21 => (some (true == x21))) else ((z1n r.data).bind fun x22 => (some ((decide (r.kind = 5)) == x22)))) else (some false))) else (some false))) else (some false))) else (some false))) else (some false))) else (some false))) else (some false))) else (some false)))) else (some false))
def zb0 : Con := ⟨63, [.v (.s .req) false], [(.B, true)], [], fun x => z79 x.1⟩
def ya0 : Fs := ⟨[z0g, zo6, z3g, z5h, z0t], [], []⟩
theorem yb6 : ya0.Ok Tryz.prog := (fsK z0i (fsK w01 (fsK w02 (fsK z8t (fsK z4a fs0)))))
theorem yd7 : zb0.Ok Tryz.prog := fn_ok (k := zb0) (fn := Tryz.f63) (W := []) (H := []) Tryz.func63 yb6 trivial rfl rfl (fun av x => by kernel_rfl)
def z9w (h : GHouse) (r : GReq) : Option (GHouse × Int) := if decide ((h.runs.length : Int) ≤ r.case) = true then (some (h, 2)) else ((getI h.runs r.case).bind fun x2 => ((getI h.nets x2.net).bind fun x3 => (if decide (r.kind = 2) = true then ((z4j x3 h.people x2.case r.task r.who).bind fun x5 => (if x5.2 = true then ((getI h.runs r.case).bind fun x7 => (some ((GHouse.mk h.nets h.people h.tree (h.runs.set r.case.toNat (GRun.mk x7.net x5.1))), 1))) else (some (h, 3)))) else (if decide (r.kind = 3) = true then ((z66 x3 x2.case r.task r.var r.num).bind fun x9 => (if x9.2 = true then ((getI h.runs r.case).bind fun x11 => (some ((GHouse.mk h.nets h.people h.tree (h.runs.set r.case.toNat (GRun.mk x11.net x9.1))), 1))) else (some (h, 3)))) else ((z8d x3 x2.case).bind fun x12 => (if x12.2 = true then ((getI h.runs r.case).bind fun x14 => (some ((GHouse.mk h.nets h.people h.tree (h.runs.set r.case.toNat (GRun.mk x14.net x12.1))), 1))) else (some (h, 3))))))))
def zo5 : Con := ⟨188, [.v (.s .house) true, .v (.s .req) false], [((.s .house), true), (.I, true)], [], fun x => z9w x.1 x.2.1⟩
def yv4 : Fs := ⟨[z6z, z8b, zg2], [], []⟩
theorem yx3 : yv4.Ok Tryz.prog := (fsK y0f (fsK y2n (fsK yn9 fs0)))
theorem yz9 : zo5.Ok Tryz.prog := fn_ok (k := zo5) (fn := Tryz.f188) (W := []) (H := []) Tryz.func188 yx3 trivial rfl rfl (fun av x => by kernel_rfl)
def zo9 (h : GHouse) (r : GReq) : Option (GHouse × Int) := if decide (r.kind = 1) = true then (if decide ((h.runs.length : Int) = 5) = true then (some (h, 4)) else ((z9q h.tree r.data).bind fun x3 => (if decide ((h.nets.length : Int) ≤ x3) = true then ((getI h.nets 0).bind fun x5 => ((z5u x5 r.data).bind fun x6 => (gd (h.runs.length + [(GRun.mk 0 x6)].length ≤ SMALL) (some ((GHouse.mk h.nets h.people h.tree (h.runs ++ [(GRun.mk 0 x6)])), 1))))) else ((getI h.nets x3).bind fun x8 => ((z5u x8 r.data).bind fun x9 => (gd (h.runs.length + [(GRun.mk x3 x9)].length ≤ SMALL) (some ((GHouse.mk h.nets h.people h.tree (h.runs ++ [(GRun.mk x3 x9)])), 1)))))))) else (if decide (r.kind = 5) = true then ((z4w h.tree r.data r.if_ r.ans).bind fun x12 => (if x12.2 = true then (some ((GHouse.mk h.nets h.people x12.1 h.runs), 1)) else (some (h, 3)))) else ((z9w h r).bind fun x14 => (some (x14.1, x14.2))))
def y3c : Con := ⟨134, [.v (.s .house) true, .v (.s .req) false], [((.s .house), true), (.I, true)], [], fun x => zo9 x.1 x.2.1⟩
def w43 : Fs := ⟨[zo0, z9i, z2n, zo5], [], []⟩
theorem w46 : w43.Ok Tryz.prog := (fsK yz3 (fsK y4n (fsK y4r (fsK yz9 fs0))))
theorem w4g : y3c.Ok Tryz.prog := fn_ok (k := y3c) (fn := Tryz.f134) (W := []) (H := []) Tryz.func134 w46 trivial rfl rfl (fun av x => by kernel_rfl)
def zr6  : Option Int := some (-1)
def z3s (s : List Int) (p : Int → Option Bool) (p0_0 : Int) (kx0_0 : Option Int) : Nat → Int → Option Int
  | 0, _ => none
  | n0 + 1, s0_0 => if decide (s0_0 < p0_0) = true then ((getI s s0_0).bind fun x2 => ((p x2).bind fun x3 => (if x3 = true then (some s0_0) else (gd (ok64 (s0_0 + 1)) ((z3s s p p0_0 kx0_0 n0) (s0_0 + 1)))))) else (kx0_0)
def z9l (s : List Int) (p : Int → Option Bool) : Option Int := z3s s p (s.length : Int) zr6 FUEL 0
def z2k : Con := ⟨175, [.v (.sl .I) false, .fn .I], [(.I, true)], [], fun x => z9l x.1 x.2.1⟩
def yt1 : Fs := ⟨[], [], []⟩
theorem y3w : yt1.Ok Tryz.prog := fs0
def y0n : Tmpl := ⟨[(0, .c (.s .I)), (1, .c .fp), (7, .c .i), (8, .c .i)], []⟩
def zu2 : Tmpl := ⟨[], []⟩
def y9a (av : AV) (x : HP z2k.ps) (n : Nat) (v : y0n.den) (K : Ks (CR z2k)) : Option (CR z2k) := z3s v.1.1 x.2.1 v.1.2.2.1 (zu2.at (fpOf z2k.ps x av) ((), ()) (K (.exit 0))) n v.1.2.2.2.1
def zx5 (av : AV) (x : HP z2k.ps) : Hdl (CR z2k) := hnd [] y0n (y9a av x)
theorem yb9 : LP z2k Tryz.f175 [0] zx5 := lp_ok (W := []) (H := []) (xs := [zu2]) y3w trivial rfl (fun av x v K => by kernel_rfl) (fun av x n v K => by kernel_rfl)
theorem yy7 : z2k.Ok Tryz.prog := fn_ok (k := z2k) (fn := Tryz.f175) (W := []) (H := [zx5]) Tryz.func175 y3w ⟨yb9, trivial⟩ rfl rfl (fun av x => by kernel_rfl)
def z3r (s : List Int) (p : Int → Option Bool) : Option Bool := (z9l s p).bind fun x1 => (some (decide (0 ≤ x1)))
def z51 : Con := ⟨118, [.v (.sl .I) false, .fn .I], [(.B, true)], [], fun x => z3r x.1 x.2.1⟩
def y83 : Fs := ⟨[z2k], [], []⟩
theorem y89 : y83.Ok Tryz.prog := (fsK yy7 fs0)
theorem z93 : z51.Ok Tryz.prog := fn_ok (k := z51) (fn := Tryz.f118) (W := []) (H := []) Tryz.func118 y89 trivial rfl rfl (fun av x => by kernel_rfl)
def z99  : Option Int := some (-1)
def z22 (s : List GTask) (p : GTask → Option Bool) (p0_0 : Int) (kx0_0 : Option Int) : Nat → Int → Option Int
  | 0, _ => none
  | n0 + 1, s0_0 => if decide (s0_0 < p0_0) = true then ((getI s s0_0).bind fun x2 => ((p x2).bind fun x3 => (if x3 = true then (some s0_0) else (gd (ok64 (s0_0 + 1)) ((z22 s p p0_0 kx0_0 n0) (s0_0 + 1)))))) else (kx0_0)
def z5s (s : List GTask) (p : GTask → Option Bool) : Option Int := z22 s p (s.length : Int) z99 FUEL 0
def z0y : Con := ⟨176, [.v (.sl (.s .task)) false, .fn (.s .task)], [(.I, true)], [], fun x => z5s x.1 x.2.1⟩
def y5r : Fs := ⟨[], [], []⟩
theorem zi2 : y5r.Ok Tryz.prog := fs0
def zb7 : Tmpl := ⟨[(0, .c (.s (.s .task))), (1, .c .fp), (7, .c .i), (8, .c .i)], []⟩
def z9c : Tmpl := ⟨[], []⟩
def y33 (av : AV) (x : HP z0y.ps) (n : Nat) (v : zb7.den) (K : Ks (CR z0y)) : Option (CR z0y) := z22 v.1.1 x.2.1 v.1.2.2.1 (z9c.at (fpOf z0y.ps x av) ((), ()) (K (.exit 0))) n v.1.2.2.2.1
def za5 (av : AV) (x : HP z0y.ps) : Hdl (CR z0y) := hnd [] zb7 (y33 av x)
theorem y3d : LP z0y Tryz.f176 [0] za5 := lp_ok (W := []) (H := []) (xs := [z9c]) zi2 trivial rfl (fun av x v K => by kernel_rfl) (fun av x n v K => by kernel_rfl)
theorem y6k : z0y.Ok Tryz.prog := fn_ok (k := z0y) (fn := Tryz.f176) (W := []) (H := [za5]) Tryz.func176 zi2 ⟨y3d, trivial⟩ rfl rfl (fun av x => by kernel_rfl)
def z4c (s : List GTask) (p : GTask → Option Bool) : Option Bool := (z5s s p).bind fun x1 => (some (decide (0 ≤ x1)))
def z62 : Con := ⟨123, [.v (.sl (.s .task)) false, .fn (.s .task)], [(.B, true)], [], fun x => z4c x.1 x.2.1⟩
def y1s : Fs := ⟨[z0y], [], []⟩
theorem y1v : y1s.Ok Tryz.prog := (fsK y6k fs0)
theorem y1w : z62.Ok Tryz.prog := fn_ok (k := z62) (fn := Tryz.f123) (W := []) (H := []) Tryz.func123 y1v trivial rfl rfl (fun av x => by kernel_rfl)
def zb1  : Option Int := some (-1)
def z2b (s : List GNet) (p : GNet → Option Bool) (p0_0 : Int) (kx0_0 : Option Int) : Nat → Int → Option Int
  | 0, _ => none
  | n0 + 1, s0_0 => if decide (s0_0 < p0_0) = true then ((getI s s0_0).bind fun x2 => ((p x2).bind fun x3 => (if x3 = true then (some s0_0) else (gd (ok64 (s0_0 + 1)) ((z2b s p p0_0 kx0_0 n0) (s0_0 + 1)))))) else (kx0_0)
def z6d (s : List GNet) (p : GNet → Option Bool) : Option Int := z2b s p (s.length : Int) zb1 FUEL 0
def z14 : Con := ⟨180, [.v (.sl (.s .net)) false, .fn (.s .net)], [(.I, true)], [], fun x => z6d x.1 x.2.1⟩
def y84 : Fs := ⟨[], [], []⟩
theorem zp9 : y84.Ok Tryz.prog := fs0
def ze3 : Tmpl := ⟨[(0, .c (.s (.s .net))), (1, .c .fp), (7, .c .i), (8, .c .i)], []⟩
def zc0 : Tmpl := ⟨[], []⟩
def y3n (av : AV) (x : HP z14.ps) (n : Nat) (v : ze3.den) (K : Ks (CR z14)) : Option (CR z14) := z2b v.1.1 x.2.1 v.1.2.2.1 (zc0.at (fpOf z14.ps x av) ((), ()) (K (.exit 0))) n v.1.2.2.2.1
def zc6 (av : AV) (x : HP z14.ps) : Hdl (CR z14) := hnd [] ze3 (y3n av x)
theorem y4b : LP z14 Tryz.f180 [0] zc6 := lp_ok (W := []) (H := []) (xs := [zc0]) zp9 trivial rfl (fun av x v K => by kernel_rfl) (fun av x n v K => by kernel_rfl)
theorem y8s : z14.Ok Tryz.prog := fn_ok (k := z14) (fn := Tryz.f180) (W := []) (H := [zc6]) Tryz.func180 zp9 ⟨y4b, trivial⟩ rfl rfl (fun av x => by kernel_rfl)
def z4s (s : List GNet) (p : GNet → Option Bool) : Option Bool := (z6d s p).bind fun x1 => (some (decide (0 ≤ x1)))
def z6j : Con := ⟨126, [.v (.sl (.s .net)) false, .fn (.s .net)], [(.B, true)], [], fun x => z4s x.1 x.2.1⟩
def y37 : Fs := ⟨[z14], [], []⟩
theorem y39 : y37.Ok Tryz.prog := (fsK y8s fs0)
theorem y3j : z6j.Ok Tryz.prog := fn_ok (k := z6j) (fn := Tryz.f126) (W := []) (H := []) Tryz.func126 y39 trivial rfl rfl (fun av x => by kernel_rfl)
def y79  : Option Int := some (-1)
def z6m (s : List Int) (v : Int) (p0_0 : Int) (kx0_0 : Option Int) : Nat → Int → Option Int
  | 0, _ => none
  | n0 + 1, s0_0 => if decide (s0_0 < p0_0) = true then ((getI s s0_0).bind fun x2 => (if decide (v = x2) = true then (some s0_0) else (gd (ok64 (s0_0 + 1)) ((z6m s v p0_0 kx0_0 n0) (s0_0 + 1))))) else (kx0_0)
def y4f (s : List Int) (v : Int) : Option Int := z6m s v (s.length : Int) y79 FUEL 0
def z6x : Con := ⟨163, [.v (.sl .I) false, .v .I false], [(.I, true)], [], fun x => y4f x.1 x.2.1⟩
def w89 : Fs := ⟨[], [], []⟩
theorem w1v : w89.Ok Tryz.prog := fs0
def yh0 : Tmpl := ⟨[(0, .c (.s .I)), (1, .c .i), (7, .c .i), (8, .c .i)], []⟩
def y7m : Tmpl := ⟨[], []⟩
def w3t (av : AV) (x : HP z6x.ps) (n : Nat) (v : yh0.den) (K : Ks (CR z6x)) : Option (CR z6x) := z6m v.1.1 v.1.2.1 v.1.2.2.1 (y7m.at none ((), ()) (K (.exit 0))) n v.1.2.2.2.1
def yb8 (av : AV) (x : HP z6x.ps) : Hdl (CR z6x) := hnd [] yh0 (w3t av x)
theorem w4a : LP z6x Tryz.f163 [0] yb8 := lp_ok (W := []) (H := []) (xs := [y7m]) w1v trivial rfl (fun av x v K => by kernel_rfl) (fun av x n v K => by kernel_rfl)
theorem w9h : z6x.Ok Tryz.prog := fn_ok (k := z6x) (fn := Tryz.f163) (W := []) (H := [yb8]) Tryz.func163 w1v ⟨w4a, trivial⟩ rfl rfl (fun av x => by kernel_rfl)
def zd1 (s : List Int) (v : Int) : Option Bool := (y4f s v).bind fun x1 => (some (decide (0 ≤ x1)))
def zy9 : Con := ⟨92, [.v (.sl .I) false, .v .I false], [(.B, true)], [], fun x => zd1 x.1 x.2.1⟩
def w18 : Fs := ⟨[z6x], [], []⟩
theorem w1u : w18.Ok Tryz.prog := (fsK w9h fs0)
theorem w2l : zy9.Ok Tryz.prog := fn_ok (k := zy9) (fn := Tryz.f92) (W := []) (H := []) Tryz.func92 w1u trivial rfl rfl (fun av x => by kernel_rfl)
def zg4 (n : Int) : Option Bool := (z65 n).bind fun x1 => (some (!x1))
def zh1 : FCon := ⟨162, .I, [], fun z c => zg4 z ⟩
def yi6 : Fs := ⟨[z8a], [], []⟩
theorem yk8 : yi6.Ok Tryz.prog := (fsK y2m fs0)
theorem yn2 : zh1.Ok Tryz.prog := FCon.ok (fn_ok (k := zh1.con) (fn := Tryz.f162) (W := []) (H := []) Tryz.func162 yk8 trivial rfl rfl (fun av x => by kernel_rfl))
def z6n (data : List Int) : Option Bool := if decide ((data.length : Int) = 3) = true then ((z3r data (fun z => zg4 z )).bind fun x2 => (some (!x2))) else (some false)
def z8o : Con := ⟨91, [.v (.sl .I) false], [(.B, true)], [], fun x => z6n x.1⟩
def w1a : Fs := ⟨[z51], [zh1], []⟩
theorem w1w : w1a.Ok Tryz.prog := (fsK z93 (fsF yn2 fs0))
theorem y0b : z8o.Ok Tryz.prog := fn_ok (k := z8o) (fn := Tryz.f91) (W := []) (H := []) Tryz.func91 w1w trivial rfl rfl (fun av x => by kernel_rfl)
def z73 (e : GAsk) (data : List Int) : Option Bool := (z6o e).bind fun x1 => (if x1 = true then ((z6n data).bind fun x3 => (if x3 = true then (if decide (e.op = 1) = true then ((getI data e.var).bind fun x6 => (some (decide (x6 < e.k)))) else (if decide (e.op = 2) = true then ((getI data e.var).bind fun x8 => (some (decide (x8 = e.k)))) else (if decide (e.op = 3) = true then ((getI data e.var).bind fun x10 => (some (decide (e.k < x10)))) else (some true)))) else (some false))) else (some false))
def za8 : Con := ⟨120, [.v (.s .ask) false, .v (.sl .I) false], [(.B, true)], [], fun x => z73 x.1 x.2.1⟩
def y9v : Fs := ⟨[zc9, z8o], [], []⟩
theorem yb2 : y9v.Ok Tryz.prog := (fsK y7c (fsK y0b fs0))
theorem yd4 : za8.Ok Tryz.prog := fn_ok (k := za8) (fn := Tryz.f120) (W := []) (H := []) Tryz.func120 yb2 trivial rfl rfl (fun av x => by kernel_rfl)
def zj4  : Option Bool := some true
def z3j (list : List Int) (places : Int) (without : List Int) (p0_0 : Int) (kx0_0 : Option Bool) : Nat → Int → Int → Option Bool
  | 0, _, _ => none
  | n0 + 1, s0_0, s0_1 => if decide (s0_0 < p0_0) = true then ((getI list s0_0).bind fun x2 => (gd (ok64 (s0_1 + 1)) (gd (ok64 (places - 1)) ((z0l x2 (s0_1 + 1) (places - 1)).bind fun x5 => (if x5 = true then ((zd1 without x2).bind fun x7 => (if x7 = true then (some false) else (gd (ok64 (s0_0 + 1)) ((z3j list places without p0_0 kx0_0 n0) (s0_0 + 1) x2)))) else (some false)))))) else (kx0_0)
def z64 (list : List Int) (places : Int) (without : List Int) : Option Bool := z3j list places without (list.length : Int) zj4 FUEL 0 (-1)
def z2l : Con := ⟨178, [.v (.sl .I) false, .v .I false, .v (.sl .I) false], [(.B, true)], [], fun x => z64 x.1 x.2.1 x.2.2.1⟩
def yj0 : Fs := ⟨[z1r, zy9], [], []⟩
theorem y1z : yj0.Ok Tryz.prog := (fsK z2z (fsK w2l fs0))
def zs8 : Tmpl := ⟨[(1, .c .i), (2, .c (.s .I)), (7, .c .i), (10, .c (.s .I)), (11, .c .i), (12, .c .i)], []⟩
def zm0 : Tmpl := ⟨[], []⟩
def y7o (av : AV) (x : HP z2l.ps) (n : Nat) (v : zs8.den) (K : Ks (CR z2l)) : Option (CR z2l) := z3j v.1.2.2.2.1 v.1.1 v.1.2.1 v.1.2.2.2.2.1 (zm0.at none ((), ()) (K (.exit 0))) n v.1.2.2.2.2.2.1 v.1.2.2.1
def zq2 (av : AV) (x : HP z2l.ps) : Hdl (CR z2l) := hnd [] zs8 (y7o av x)
theorem y8e : LP z2l Tryz.f178 [0] zq2 := lp_ok (W := []) (H := []) (xs := [zm0]) y1z trivial rfl (fun av x v K => by kernel_rfl) (fun av x n v K => by kernel_rfl)
theorem yn6 : z2l.Ok Tryz.prog := fn_ok (k := z2l) (fn := Tryz.f178) (W := []) (H := [zq2]) Tryz.func178 y1z ⟨y8e, trivial⟩ rfl rfl (fun av x => by kernel_rfl)
def z4u (t : GTask) : Option Bool := (z0l (t.out.length : Int) 1 3).bind fun x21 => (some x21)
def z0w (t : GTask) (places : Int) (p0_0 : List GFlow) (p0_1 : Int) (kx0_0 : Option Bool) : Nat → Int → List Int → Option Bool
  | 0, _, _ => none
  | n0 + 1, s0_0, m0_1 => if decide (s0_0 < p0_1) = true then ((getI p0_0 s0_0).bind fun x2 => (if decide (t.split = 1) = true then (gd (ok64 (places - 1)) ((z0l x2.to 0 (places - 1)).bind fun x5 => (if x5 = true then (if decide (x2.to ∈ m0_1) = true then (some false) else ((z6o x2.if_).bind fun x8 => (if x8 = true then (if ((decide (x2.if_.op = 0)) == true) = true then (gd (ok64 (s0_0 + 1)) ((z0w t places p0_0 p0_1 kx0_0 n0) (s0_0 + 1) (insKey m0_1 x2.to))) else (some false)) else (some false)))) else (some false)))) else (gd (ok64 ((t.out.length : Int) - 1)) (gd (ok64 (places - 1)) ((z0l x2.to 0 (places - 1)).bind fun x14 => (if x14 = true then (if decide (x2.to ∈ m0_1) = true then (some false) else ((z6o x2.if_).bind fun x17 => (if x17 = true then (if ((decide (x2.if_.op = 0)) == (decide (s0_0 = ((t.out.length : Int) - 1)))) = true then (gd (ok64 (s0_0 + 1)) ((z0w t places p0_0 p0_1 kx0_0 n0) (s0_0 + 1) (insKey m0_1 x2.to))) else (some false)) else (some false)))) else (some false))))))) else (kx0_0)
def z4e (t : GTask) (places : Int) : Option Bool := z0w t places t.out (t.out.length : Int) (z4u t) FUEL 0 (insKey ([] : List Int) 0)
def z0n : Con := ⟨179, [.v (.s .task) false, .v .I false], [(.B, true)], [], fun x => z4e x.1 x.2.1⟩
def y1u : Fs := ⟨[z1r, zc9], [], []⟩
theorem z98 : y1u.Ok Tryz.prog := (fsK z2z (fsK y7c fs0))
def z82 : Tmpl := ⟨[(1, .c .i), (2, .c (.bx 2 0)), (5, .c (.bx 9 0)), (12, .c (.s (.s .flow))), (13, .c .i), (14, .c .i)], [(2, .boxT (.s .task)), (9, .mp)]⟩
def z7w : Tmpl := ⟨[(2, .c (.bx 2 0))], [(2, .boxT (.s .task))]⟩
def zv6 (av : AV) (x : HP z0n.ps) (n : Nat) (v : z82.den) (K : Ks (CR z0n)) : Option (CR z0n) := z0w v.2.1 v.1.1 v.1.2.2.2.1 v.1.2.2.2.2.1 (z7w.at none (((), ()), (v.2.1, ())) (K (.exit 0))) n v.1.2.2.2.2.2.1 v.2.2.1
def z7y (av : AV) (x : HP z0n.ps) : Hdl (CR z0n) := hnd [] z82 (zv6 av x)
theorem zv8 : LP z0n Tryz.f179 [0] z7y := lp_ok (W := []) (H := []) (xs := [z7w]) z98 trivial rfl (fun av x v K => by kernel_rfl) (fun av x n v K => by kernel_rfl)
theorem y1y : z0n.Ok Tryz.prog := fn_ok (k := z0n) (fn := Tryz.f179) (W := []) (H := [z7y]) Tryz.func179 z98 ⟨zv8, trivial⟩ rfl rfl (fun av x => by kernel_rfl)
def z5t (t : GTask) (places : Int) (tasks : Int) : Option Bool := (z9m t.join).bind fun x1 => (if x1 = true then ((z9m t.split).bind fun x3 => (if x3 = true then ((z0l (t.in_.length : Int) 1 3).bind fun x5 => (if x5 = true then ((z64 t.in_ places [1]).bind fun x7 => (if x7 = true then ((z4e t places).bind fun x9 => (if x9 = true then ((z64 t.clear places [0, 1]).bind fun x11 => (if x11 = true then ((zo8 t.role).bind fun x13 => (if x13 = true then (gd (ok64 (tasks - 1)) ((z0l t.apart (-1) (tasks - 1)).bind fun x16 => (if x16 = true then ((z0l t.all 1 3).bind fun x18 => (if x18 = true then ((z0l t.need 1 t.all).bind fun x20 => (some x20)) else (some false))) else (some false)))) else (some false))) else (some false))) else (some false))) else (some false))) else (some false))) else (some false))) else (some false))
def z88 : Con := ⟨125, [.v (.s .task) false, .v .I false, .v .I false], [(.B, true)], [], fun x => z5t x.1 x.2.1 x.2.2.1⟩
def y5s : Fs := ⟨[zn8, z1r, z2l, z0n, zn9], [], []⟩
theorem y5w : y5s.Ok Tryz.prog := (fsK yy8 (fsK z2z (fsK yn6 (fsK y1y (fsK yy9 fs0)))))
theorem y6l : z88.Ok Tryz.prog := fn_ok (k := z88) (fn := Tryz.f125) (W := []) (H := []) Tryz.func125 y5w trivial rfl rfl (fun av x => by kernel_rfl)
def zg6 (t : GTask) (n : GNet) : Option Bool := (z5t t n.places (n.tasks.length : Int)).bind fun x1 => (some (!x1))
def zh3 : FCon := ⟨124, (.s .task), [(.s .net)], fun z c => zg6 z c.1⟩
def yi8 : Fs := ⟨[z88], [], []⟩
theorem yl0 : yi8.Ok Tryz.prog := (fsK y6l fs0)
theorem yn4 : zh3.Ok Tryz.prog := FCon.ok (fn_ok (k := zh3.con) (fn := Tryz.f124) (W := []) (H := []) Tryz.func124 yl0 trivial rfl rfl (fun av x => by kernel_rfl))
def z6p (n : GNet) : Option Bool := (zg8 n.places (n.tasks.length : Int)).bind fun x1 => (if x1 = true then ((z4c n.tasks (fun z => zg6 z n)).bind fun x3 => (some (!x3))) else (some false))
def z8p : Con := ⟨52, [.v (.s .net) false], [(.B, true)], [], fun x => z6p x.1⟩
def w1e : Fs := ⟨[zg1, z62], [zh3], []⟩
theorem w1z : w1e.Ok Tryz.prog := (fsK yn7 (fsK y1w (fsF yn4 fs0)))
theorem y0d : z8p.Ok Tryz.prog := fn_ok (k := z8p) (fn := Tryz.f52) (W := []) (H := []) Tryz.func52 w1z trivial rfl rfl (fun av x => by kernel_rfl)
def z4t (m : Int) : Option Bool := (z0l m 0 4).bind fun x1 => (some (!x1))
def z50 : FCon := ⟨199, .I, [], fun z c => z4t z ⟩
def zn4 : Fs := ⟨[z1r], [], []⟩
theorem zn5 : zn4.Ok Tryz.prog := (fsK z2z fs0)
theorem zp0 : z50.Ok Tryz.prog := FCon.ok (fn_ok (k := z50.con) (fn := Tryz.f199) (W := []) (H := []) Tryz.func199 zn5 trivial rfl rfl (fun av x => by kernel_rfl))
def z45 (n : GNet) (marks : List Int) : Option Bool := if decide ((marks.length : Int) = n.places) = true then ((z3r marks (fun z => z4t z )).bind fun x2 => (some (!x2))) else (some false)
def z5g : Con := ⟨164, [.v (.s .net) false, .v (.sl .I) false], [(.B, true)], [], fun x => z45 x.1 x.2.1⟩
def zw6 : Fs := ⟨[z51], [z50], []⟩
theorem zw8 : zw6.Ok Tryz.prog := (fsK z93 (fsF zp0 fs0))
theorem y0c : z5g.Ok Tryz.prog := fn_ok (k := z5g) (fn := Tryz.f164) (W := []) (H := []) Tryz.func164 zw8 trivial rfl rfl (fun av x => by kernel_rfl)
def zd2 (n : GNet) (marks : List Int) : Option Bool := (z6p n).bind fun x1 => (if x1 = true then ((z45 n marks).bind fun x3 => (some x3)) else (some false))
def zz0 : Con := ⟨94, [.v (.s .net) false, .v (.sl .I) false], [(.B, true)], [], fun x => zd2 x.1 x.2.1⟩
def w1d : Fs := ⟨[z8p, z5g], [], []⟩
theorem w1y : w1d.Ok Tryz.prog := (fsK y0d (fsK y0c fs0))
theorem w2n : zz0.Ok Tryz.prog := fn_ok (k := zz0) (fn := Tryz.f94) (W := []) (H := []) Tryz.func94 w1y trivial rfl rfl (fun av x => by kernel_rfl)
def z74 (busy : List GItem) : Option Bool := some (decide ((busy.length : Int) ≤ 6))
def z17 (n : GNet) (p0_0 : List GItem) (p0_1 : Int) (kx0_0 : Option Bool) : Nat → Int → Option Bool
  | 0, _ => none
  | n0 + 1, s0_0 => if decide (s0_0 < p0_1) = true then ((getI p0_0 s0_0).bind fun x2 => ((z2y n x2.task).bind fun x3 => (if x3 = true then ((z5j x2.who).bind fun x5 => (if x5 = true then ((getI n.tasks x2.task).bind fun x7 => (gd (ok64 (x7.need - 1)) ((z0l x2.did 0 (x7.need - 1)).bind fun x9 => (if x9 = true then (gd (ok64 (s0_0 + 1)) ((z17 n p0_0 p0_1 kx0_0 n0) (s0_0 + 1))) else (some false))))) else (some false))) else (some false)))) else (kx0_0)
def z4d (n : GNet) (busy : List GItem) : Option Bool := z17 n busy (busy.length : Int) (z74 busy) FUEL 0
def z0m : Con := ⟨95, [.v (.s .net) false, .v (.sl (.s .item)) false], [(.B, true)], [], fun x => z4d x.1 x.2.1⟩
def y1t : Fs := ⟨[z42, z6y, z1r], [], []⟩
theorem z97 : y1t.Ok Tryz.prog := (fsK z8s (fsK y0e (fsK z2z fs0)))
def z81 : Tmpl := ⟨[(1, .c (.s (.s .item))), (2, .c (.bx 2 0)), (7, .c (.s (.s .item))), (8, .c .i), (9, .c .i)], [(2, .boxT (.s .net))]⟩
def z7v : Tmpl := ⟨[(1, .c (.s (.s .item)))], []⟩
def zv5 (av : AV) (x : HP z0m.ps) (n : Nat) (v : z81.den) (K : Ks (CR z0m)) : Option (CR z0m) := z17 v.2.1 v.1.2.2.1 v.1.2.2.2.1 (z7v.at none ((v.1.1, ()), ()) (K (.exit 0))) n v.1.2.2.2.2.1
def z7x (av : AV) (x : HP z0m.ps) : Hdl (CR z0m) := hnd [] z81 (zv5 av x)
theorem zv7 : LP z0m Tryz.f95 [0] z7x := lp_ok (W := []) (H := []) (xs := [z7v]) z97 trivial rfl (fun av x v K => by kernel_rfl) (fun av x n v K => by kernel_rfl)
theorem y1x : z0m.Ok Tryz.prog := fn_ok (k := z0m) (fn := Tryz.f95) (W := []) (H := [z7x]) Tryz.func95 z97 ⟨zv7, trivial⟩ rfl rfl (fun av x => by kernel_rfl)
def zg7 (n : Int) : Option Bool := (z0l n 0 7).bind fun x1 => (some (!x1))
def zh4 : FCon := ⟨119, .I, [], fun z c => zg7 z ⟩
def yi9 : Fs := ⟨[z1r], [], []⟩
theorem yl1 : yi9.Ok Tryz.prog := (fsK z2z fs0)
theorem yn5 : zh4.Ok Tryz.prog := FCon.ok (fn_ok (k := zh4.con) (fn := Tryz.f119) (W := []) (H := []) Tryz.func119 yl1 trivial rfl rfl (fun av x => by kernel_rfl))
def z8r (people : List Int) : Option Bool := (z0l (people.length : Int) 1 4).bind fun x1 => (if x1 = true then ((z3r people (fun z => zg7 z )).bind fun x3 => (some (!x3))) else (some false))
def zd0 : Con := ⟨50, [.v (.sl .I) false], [(.B, true)], [], fun x => z8r x.1⟩
def w1f : Fs := ⟨[z1r, z51], [zh4], []⟩
theorem w20 : w1f.Ok Tryz.prog := (fsK z2z (fsK z93 (fsF yn5 fs0)))
theorem y7d : zd0.Ok Tryz.prog := fn_ok (k := zd0) (fn := Tryz.f50) (W := []) (H := []) Tryz.func50 w20 trivial rfl rfl (fun av x => by kernel_rfl)
def z72 (c : GCase) : Option Bool := if decide (c.state = 1) = true then ((getI c.marks 1).bind fun x16 => (some (decide (x16 = 0)))) else (if decide (c.state = 2) = true then (if decide ((c.busy.length : Int) = 0) = true then ((getI c.marks 1).bind fun x19 => (some ((decide (c.state = 2)) == (decide (0 < x19))))) else (some false)) else (if decide (c.state = 3) = true then (if decide ((c.busy.length : Int) = 0) = true then ((getI c.marks 1).bind fun x22 => (some ((decide (c.state = 2)) == (decide (0 < x22))))) else (some false)) else (some false)))
def z4f (n : GNet) (p0_0 : List GDid) (p0_1 : Int) (kx0_0 : Option Bool) : Nat → Int → Option Bool
  | 0, _ => none
  | n0 + 1, s0_0 => if decide (s0_0 < p0_1) = true then ((getI p0_0 s0_0).bind fun x9 => ((z2y n x9.task).bind fun x10 => (if x10 = true then ((z5j x9.who).bind fun x12 => (if x12 = true then (gd (ok64 (s0_0 + 1)) ((z4f n p0_0 p0_1 kx0_0 n0) (s0_0 + 1))) else (some false))) else (some false)))) else (kx0_0)
def z8q (n : GNet) (c : GCase) : Option Bool := (zd2 n c.marks).bind fun x1 => (if x1 = true then ((z4d n c.busy).bind fun x3 => (if x3 = true then ((z6n c.data).bind fun x5 => (if x5 = true then (if decide (60 < (c.did.length : Int)) = true then (some false) else (z4f n c.did (c.did.length : Int) (z72 c) FUEL 0)) else (some false))) else (some false))) else (some false))
def z3i : Con := ⟨30, [.v (.s .net) false, .v (.s .kase) false], [(.B, true)], [], fun x => z8q x.1 x.2.1⟩
def w19 : Fs := ⟨[zz0, z0m, z8o, z42, z6y], [], []⟩
theorem y6v : w19.Ok Tryz.prog := (fsK w2n (fsK y1x (fsK y0b (fsK z8s (fsK y0e fs0)))))
def y2q : Tmpl := ⟨[(2, .c (.bx 2 0)), (3, .c (.bx 3 0)), (32, .c (.s (.s .did))), (33, .c .i), (34, .c .i)], [(2, .boxT (.s .net)), (3, .boxT (.s .kase))]⟩
def y11 : Tmpl := ⟨[(3, .c (.bx 3 0))], [(3, .boxT (.s .kase))]⟩
def yh3 (av : AV) (x : HP z3i.ps) (n : Nat) (v : y2q.den) (K : Ks (CR z3i)) : Option (CR z3i) := z4f v.2.1 v.1.2.2.1 v.1.2.2.2.1 (y11.at none (((), ()), (v.2.2.1, ())) (K (.exit 0))) n v.1.2.2.2.2.1
def y27 (av : AV) (x : HP z3i.ps) : Hdl (CR z3i) := hnd [] y2q (yh3 av x)
theorem yl9 : LP z3i Tryz.f30 [0] y27 := lp_ok (W := []) (H := []) (xs := [y11]) y6v trivial rfl (fun av x v K => by kernel_rfl) (fun av x n v K => by kernel_rfl)
theorem y7b : z3i.Ok Tryz.prog := fn_ok (k := z3i) (fn := Tryz.f30) (W := []) (H := [y27]) Tryz.func30 y6v ⟨yl9, trivial⟩ rfl rfl (fun av x => by kernel_rfl)
def zz7 (s0_0 : List GNode) (s0_1 : Int) (bk0 : List GNode → Int → Int → List Int → Option Bool) (p1_0 : Int) (l1_1 : List Int) : Option Bool := gd (ok64 (p1_0 + 1)) (bk0 s0_0 s0_1 (p1_0 + 1) l1_1)
def z1x (tree : List GNode) (s0_2 : Int) (p1_1 : Int) (p1_2 : List Int) (kx1_0 : List Int → Option Bool) : Nat → Int → List Int → Option Bool
  | 0, _, _ => none
  | n1 + 1, s1_0, l1_1 => if decide (s1_0 < p1_1) = true then ((getI p1_2 s1_0).bind fun x9 => (if decide (x9 = (-1)) = true then (gd (ok64 (s1_0 + 1)) ((z1x tree s0_2 p1_1 p1_2 kx1_0 n1) (s1_0 + 1) l1_1)) else (gd (ok64 (s0_2 + 1)) (gd (ok64 ((tree.length : Int) - 1)) ((z0l x9 (s0_2 + 1) ((tree.length : Int) - 1)).bind fun x14 => (if x14 = true then ((getI l1_1 x9).bind fun x16 => (gd (ok64 (x16 + 1)) ((getI l1_1 x9).bind fun x18 => (gd (ok64 (s1_0 + 1)) ((z1x tree s0_2 p1_1 p1_2 kx1_0 n1) (s1_0 + 1) (l1_1.set x9.toNat (x16 + 1))))))) else (some false))))))) else (kx1_0 l1_1)
def zz8 (tree : List GNode) : Option Bool := some (decide ((tree.length : Int) ≤ 12))
def z3o (l0_3 : List Int) (p2_0 : Int) (kx2_0 : Option Bool) : Nat → Int → Option Bool
  | 0, _ => none
  | n2 + 1, s2_0 => if decide (s2_0 < p2_0) = true then ((getI l0_3 s2_0).bind fun x22 => (if decide (0 < s2_0) = true then (if decide (x22 = 1) = true then (gd (ok64 (s2_0 + 1)) ((z3o l0_3 p2_0 kx2_0 n2) (s2_0 + 1))) else (some false)) else (gd (ok64 (s2_0 + 1)) ((z3o l0_3 p2_0 kx2_0 n2) (s2_0 + 1))))) else (kx2_0)
def z75 (tree : List GNode) (l0_3 : List Int) : Option Bool := z3o l0_3 (l0_3.length : Int) (zz8 tree) FUEL 0
def z4h (tree : List GNode) (kx0_0 : List Int → Option Bool) : Nat → List GNode → Int → Int → List Int → Option Bool
  | 0, _, _, _, _ => none
  | n0 + 1, s0_0, s0_1, s0_2, l0_3 => if decide (s0_2 < s0_1) = true then ((getI s0_0 s0_2).bind fun x3 => ((z73 x3.if_ x3.stone).bind fun x4 => (if x4 = true then ((zb2 x3.ans).bind fun x6 => (if x6 = true then (z1x tree s0_2 ([x3.yes, x3.no].length : Int) [x3.yes, x3.no] (zz7 s0_0 s0_1 (z4h tree kx0_0 n0) s0_2) FUEL 0 l0_3) else (some false))) else (some false)))) else (kx0_0 l0_3)
def z6q (tree : List GNode) : Option Bool := gd ((0 : Int) ≤ (tree.length : Int) ∧ (tree.length : Int) ≤ (1000000000 : Int)) (z4h tree (z75 tree) FUEL tree (tree.length : Int) 0 (List.replicate (tree.length : Int).toNat (0 : Int)))
def z0e : Con := ⟨51, [.v (.sl (.s .node)) false], [(.B, true)], [], fun x => z6q x.1⟩
def w1g : Fs := ⟨[za8, za9, z1r], [], []⟩
theorem zc5 : w1g.Ok Tryz.prog := (fsK yd4 (fsK yd5 (fsK z2z fs0)))
def zs7 : Tmpl := ⟨[(0, .c (.s (.s .node))), (3, .c (.ref 12)), (4, .c .i), (13, .c (.s (.s .node))), (14, .c .i), (15, .c .i), (36, .c (.ref 36)), (37, .c .i), (38, .c .i)], [(12, .arr .I true), (36, .arr .I true)]⟩
def zl9 : Tmpl := ⟨[(0, .c (.s (.s .node))), (3, .c (.ref 12)), (13, .c (.s (.s .node))), (14, .c .i), (15, .c .i)], [(12, .arr .I true)]⟩
def y7n (av : AV) (x : HP z0e.ps) (n : Nat) (v : zs7.den) (K : Ks (CR z0e)) : Option (CR z0e) := z1x v.1.1 v.1.2.2.1 v.1.2.2.2.2.2.2.2.1 v.2.2.1 (fun l1_1 => zl9.at none ((v.1.1, (), v.1.2.2.2.1, v.1.2.2.2.2.1, v.1.2.2.2.2.2.1, ()), (l1_1, ())) (K (.exit 2))) n v.1.2.2.2.2.2.2.2.2.1 v.2.1
def zq1 (av : AV) (x : HP z0e.ps) : Hdl (CR z0e) := hnd [] zs7 (y7n av x)
theorem y8d : LP z0e Tryz.f51 [0, 0] zq1 := lp_ok (W := []) (H := []) (xs := [zl9]) zc5 trivial rfl (fun av x v K => by kernel_rfl) (fun av x n v K => by kernel_rfl)
def y2s : Tmpl := ⟨[(0, .c (.s (.s .node))), (3, .c (.ref 12)), (13, .c (.s (.s .node))), (14, .c .i), (15, .c .i)], [(12, .arr .I true)]⟩
def y13 : Tmpl := ⟨[(0, .c (.s (.s .node))), (3, .c (.ref 12))], [(12, .arr .I true)]⟩
def yh5 (av : AV) (x : HP z0e.ps) (n : Nat) (v : y2s.den) (K : Ks (CR z0e)) : Option (CR z0e) := z4h v.1.1 (fun l0_3 => y13.at none ((v.1.1, (), ()), (l0_3, ())) (K (.exit 0))) n v.1.2.2.1 v.1.2.2.2.1 v.1.2.2.2.2.1 v.2.1
def y29 (av : AV) (x : HP z0e.ps) : Hdl (CR z0e) := hnd [] y2s (yh5 av x)
theorem ym1 : LP z0e Tryz.f51 [0] y29 := lp_ok (W := []) (H := [zq1]) (xs := [y13]) zc5 ⟨y8d, trivial⟩ rfl (fun av x v K => by kernel_rfl) (fun av x n v K => by kernel_rfl)
def y2t : Tmpl := ⟨[(0, .c (.s (.s .node))), (60, .c (.ref 12)), (61, .c .i), (62, .c .i)], [(12, .arr .I true)]⟩
def y14 : Tmpl := ⟨[(0, .c (.s (.s .node)))], []⟩
def yh6 (av : AV) (x : HP z0e.ps) (n : Nat) (v : y2t.den) (K : Ks (CR z0e)) : Option (CR z0e) := z3o v.2.1 v.1.2.2.1 (y14.at none ((v.1.1, ()), ()) (K (.exit 4))) n v.1.2.2.2.1
def y2a (av : AV) (x : HP z0e.ps) : Hdl (CR z0e) := hnd [] y2t (yh6 av x)
theorem ym2 : LP z0e Tryz.f51 [1] y2a := lp_ok (W := []) (H := []) (xs := [y14]) zc5 trivial rfl (fun av x v K => by kernel_rfl) (fun av x n v K => by kernel_rfl)
theorem y7e : z0e.Ok Tryz.prog := fn_ok (k := z0e) (fn := Tryz.f51) (W := []) (H := [y29, y2a]) Tryz.func51 zc5 ⟨ym1, ym2, trivial⟩ rfl rfl (fun av x => by kernel_rfl)
def zg5 (n : GNet) : Option Bool := (z6p n).bind fun x1 => (some (!x1))
def zh2 : FCon := ⟨127, (.s .net), [], fun z c => zg5 z ⟩
def yi7 : Fs := ⟨[z8p], [], []⟩
theorem yk9 : yi7.Ok Tryz.prog := (fsK y0d fs0)
theorem yn3 : zh2.Ok Tryz.prog := FCon.ok (fn_ok (k := zh2.con) (fn := Tryz.f127) (W := []) (H := []) Tryz.func127 yk9 trivial rfl rfl (fun av x => by kernel_rfl))
def zz6  : Option Bool := some true
def z4g (h : GHouse) (p0_0 : List GRun) (p0_1 : Int) (kx0_0 : Option Bool) : Nat → Int → Option Bool
  | 0, _ => none
  | n0 + 1, s0_0 => if decide (s0_0 < p0_1) = true then ((getI p0_0 s0_0).bind fun x11 => (gd (ok64 ((h.nets.length : Int) - 1)) ((z0l x11.net 0 ((h.nets.length : Int) - 1)).bind fun x13 => (if x13 = true then ((getI h.nets x11.net).bind fun x15 => ((z8q x15 x11.case).bind fun x16 => (if x16 = true then (gd (ok64 (s0_0 + 1)) ((z4g h p0_0 p0_1 kx0_0 n0) (s0_0 + 1))) else (some false)))) else (some false))))) else (kx0_0)
def z09 (h : GHouse) : Option Bool := (z0l (h.nets.length : Int) 1 3).bind fun x1 => (if x1 = true then ((z4s h.nets (fun z => zg5 z )).bind fun x3 => (if x3 = true then (some false) else ((z8r h.people).bind fun x5 => (if x5 = true then ((z6q h.tree).bind fun x7 => (if x7 = true then (if decide (5 < (h.runs.length : Int)) = true then (some false) else (z4g h h.runs (h.runs.length : Int) zz6 FUEL 0)) else (some false))) else (some false))))) else (some false))
def z41 : Con := ⟨53, [.v (.s .house) false], [(.B, true)], [], fun x => z09 x.1⟩
def w1b : Fs := ⟨[z1r, z6j, zd0, z0e, z3i], [zh2], []⟩
theorem y6w : w1b.Ok Tryz.prog := (fsK z2z (fsK y3j (fsK y7d (fsK y7e (fsK y7b (fsF yn3 fs0))))))
def y2r : Tmpl := ⟨[(1, .c (.bx 1 0)), (34, .c (.s (.s .run))), (35, .c .i), (36, .c .i)], [(1, .boxT (.s .house))]⟩
def y12 : Tmpl := ⟨[], []⟩
def yh4 (av : AV) (x : HP z41.ps) (n : Nat) (v : y2r.den) (K : Ks (CR z41)) : Option (CR z41) := z4g v.2.1 v.1.2.1 v.1.2.2.1 (y12.at none ((), ()) (K (.exit 0))) n v.1.2.2.2.1
def y28 (av : AV) (x : HP z41.ps) : Hdl (CR z41) := hnd [] y2r (yh4 av x)
theorem ym0 : LP z41 Tryz.f53 [0] y28 := lp_ok (W := []) (H := []) (xs := [y12]) y6w trivial rfl (fun av x v K => by kernel_rfl) (fun av x n v K => by kernel_rfl)
theorem w2m : z41.Ok Tryz.prog := fn_ok (k := z41) (fn := Tryz.f53) (W := []) (H := [y28]) Tryz.func53 y6w ⟨ym0, trivial⟩ rfl rfl (fun av x => by kernel_rfl)
def z8h (code : List Int) : Option GRd := if decide (2000 < (code.length : Int)) = true then (gd ((0 : Int) ≤ 2000 ∧ 2000 ≤ (code.length : Int)) (some (GRd.mk (code.take (2000 : Int).toNat) 0))) else (some (GRd.mk code 0))
def y2k : BCon := ⟨83, fun x => z8h x⟩
def yk1 : Fs := ⟨[], [], []⟩
theorem yl7 : yk1.Ok Tryz.prog := fs0
theorem yo3 : y2k.Ok Tryz.prog := wo3 (fn := Tryz.f83) Tryz.func83 yl7 rfl rfl rfl rfl rfl (fun l => by kernel_rfl)
def z01 (r : GRd) (n : Int) : Option (Int × GRd) := gd (ok64 (r.p + 1)) (if decide (n < 1) = true then (some (0, (GRd.mk r.b (r.p + 1)))) else (if decide ((r.b.length : Int) = 0) = true then (some (0, (GRd.mk r.b (r.p + 1)))) else (gd (ok64 ((r.p + 1) - 1)) (if decide (((r.p + 1) - 1) < (r.b.length : Int)) = true then ((getI r.b ((r.p + 1) - 1)).bind fun x6 => (gd (ok64 x6) (gd ((n : Int) ≠ 0) (some ((Int.tmod x6 n), (GRd.mk r.b (r.p + 1))))))) else (gd (((r.b.length : Int) : Int) ≠ 0) ((getI r.b (Int.tmod ((r.p + 1) - 1) (r.b.length : Int))).bind fun x10 => (gd (ok64 x10) (gd (ok64 (x10 * 131)) (gd (ok64 (((r.p + 1) - 1) * 7)) (gd (ok64 ((((r.p + 1) - 1) * 7) + 3)) (gd (((r.b.length : Int) : Int) ≠ 0) ((getI r.b (Int.tmod ((((r.p + 1) - 1) * 7) + 3) (r.b.length : Int))).bind fun x16 => (gd (ok64 x16) (gd (ok64 (x16 * 1117)) (gd (ok64 ((x10 * 131) + (x16 * 1117))) (gd (ok64 (((r.p + 1) - 1) * 29)) (gd (ok64 (((x10 * 131) + (x16 * 1117)) + (((r.p + 1) - 1) * 29))) (gd (((r.b.length : Int) : Int) ≠ 0 ∧ ok64 (Int.tdiv ((r.p + 1) - 1) (r.b.length : Int))) (gd (ok64 ((Int.tdiv ((r.p + 1) - 1) (r.b.length : Int)) * 53)) (gd (ok64 ((((x10 * 131) + (x16 * 1117)) + (((r.p + 1) - 1) * 29)) + ((Int.tdiv ((r.p + 1) - 1) (r.b.length : Int)) * 53))) (gd ((64 : Int) ≠ 0 ∧ ok64 (Int.tdiv ((((x10 * 131) + (x16 * 1117)) + (((r.p + 1) - 1) * 29)) + ((Int.tdiv ((r.p + 1) - 1) (r.b.length : Int)) * 53)) 64)) (gd ((n : Int) ≠ 0) (some ((Int.tmod (xorI ((((x10 * 131) + (x16 * 1117)) + (((r.p + 1) - 1) * 29)) + ((Int.tdiv ((r.p + 1) - 1) (r.b.length : Int)) * 53)) (Int.tdiv ((((x10 * 131) + (x16 * 1117)) + (((r.p + 1) - 1) * 29)) + ((Int.tdiv ((r.p + 1) - 1) (r.b.length : Int)) * 53)) 64)) n), (GRd.mk r.b (r.p + 1))))))))))))))))))))))))))
def z7z : Con := ⟨98, [.ptr (.s .rd) false, .v .I false], [(.I, true)], [(0, .ptr (.s .rd) false)], fun x => z01 x.1 x.2.1⟩
def wt4 : Fs := ⟨[], [], []⟩
theorem wt5 : wt4.Ok Tryz.prog := fs0
theorem z9a : z7z.Ok Tryz.prog := fn_ok (k := z7z) (fn := Tryz.f98) (W := []) (H := []) Tryz.func98 wt5 trivial rfl rfl (fun av x => by kernel_rfl)
def z5z (n : Int) (s0_0 : List Int) (s0_1 : Int) (l0_3 : List Int) : Option ((List Int) × GRd) := (z01 (GRd.mk s0_0 s0_1) n).bind fun x7 => (if decide (x7.1 = 0) = true then ((z01 x7.2 3).bind fun x9 => (if decide (x9.1 = 0) = true then ((z01 x9.2 3).bind fun x11 => ((z01 x11.2 4).bind fun x12 => ((getI [100, (-100), 9223372036854775807, (-9223372036854775808)] x12.1).bind fun x13 => ((getI l0_3 x11.1).bind fun x14 => (some ((l0_3.set x11.1.toNat x13), x12.2)))))) else (if decide (x9.1 = 1) = true then (gd ((0 : Int) ≤ 1 ∧ 1 ≤ (l0_3.length : Int)) (some ((l0_3.drop (1 : Int).toNat), x9.2))) else (gd (l0_3.length + [0].length ≤ SMALL) (some ((l0_3 ++ [0]), x9.2)))))) else (some (l0_3, x7.2)))
def z3m (kx0_0 : List Int → Int → List Int → Option ((List Int) × GRd)) : Nat → List Int → Int → Int → List Int → Option ((List Int) × GRd)
  | 0, _, _, _, _ => none
  | n0 + 1, s0_0, s0_1, s0_2, l0_3 => if decide (s0_2 < 3) = true then ((z01 (GRd.mk s0_0 s0_1) 9).bind fun x2 => ((z01 x2.2 7).bind fun x3 => ((getI [0, 1, (-1), 5, 99, (-99), x2.1] x3.1).bind fun x4 => (gd (l0_3.length + [x4].length ≤ SMALL) (gd (ok64 (s0_2 + 1)) ((z3m kx0_0 n0) x3.2.b x3.2.p (s0_2 + 1) (l0_3 ++ [x4]))))))) else (kx0_0 s0_0 s0_1 l0_3)
def z1p (r : GRd) (n : Int) : Option ((List Int) × GRd) := z3m (z5z n) FUEL r.b r.p 0 ([] : List Int)
def z1i : Con := ⟨156, [.ptr (.s .rd) false, .v .I false], [((.sl .I), false)], [(0, .ptr (.s .rd) false)], fun x => z1p x.1 x.2.1⟩
def yj9 : Fs := ⟨[z7z], [], []⟩
theorem y22 : yj9.Ok Tryz.prog := (fsK z9a fs0)
def zt6 : Tmpl := ⟨[(0, .c (.bx 1000000 0)), (1, .c .i), (5, .c (.ref 7)), (6, .c .i)], [(1000000, .box [.s .Y, .i]), (7, .arr .I true)]⟩
def zm7 : Tmpl := ⟨[(0, .c (.bx 1000000 0)), (1, .c .i), (5, .c (.ref 7))], [(1000000, .box [.s .Y, .i]), (7, .arr .I true)]⟩
def y7w (av : AV) (x : HP z1i.ps) (n : Nat) (v : zt6.den) (K : Ks (CR z1i)) : Option (CR z1i) := z3m (fun s0_0 s0_1 l0_3 => zm7.at none (((), v.1.2.1, (), ()), ((s0_0, s0_1, ()), l0_3, ())) (K (.exit 0))) n v.2.1.1 v.2.1.2.1 v.1.2.2.2.1 v.2.2.1
def zr0 (av : AV) (x : HP z1i.ps) : Hdl (CR z1i) := hnd [] zt6 (y7w av x)
theorem y8m : LP z1i Tryz.f156 [0] zr0 := lp_ok (W := [(12, [.froz 7])]) (H := []) (xs := [zm7]) y22 trivial rfl (fun av x v K => by kernel_rfl) (fun av x n v K => by kernel_rfl)
theorem zh0 : z1i.Ok Tryz.prog := fn_ok (k := z1i) (fn := Tryz.f156) (W := [(12, [.froz 7])]) (H := [zr0]) Tryz.func156 y22 ⟨y8m, trivial⟩ rfl rfl (fun av x => by kernel_rfl)
def z4x (r : GRd) (n : Int) : Option (GAsk × GRd) := (z01 r 3).bind fun x1 => (gd (ok64 (1 + x1.1)) ((z01 x1.2 3).bind fun x3 => ((z01 x3.2 9).bind fun x4 => ((z01 x4.2 6).bind fun x5 => ((getI [0, 1, 2, 5, (-1), x4.1] x5.1).bind fun x6 => ((z01 x5.2 6).bind fun x7 => (if decide (x7.1 = 0) = true then ((z01 x7.2 n).bind fun x9 => (if decide (x9.1 = 0) = true then ((z01 x9.2 3).bind fun x11 => (if decide (x11.1 = 0) = true then ((z01 x11.2 3).bind fun x13 => ((getI [0, 4, (-1)] x13.1).bind fun x14 => (some ((GAsk.mk x14 0 0), x13.2)))) else (if decide (x11.1 = 1) = true then ((z01 x11.2 3).bind fun x16 => ((getI [3, (-1), 1] x16.1).bind fun x17 => (some ((GAsk.mk 0 x17 0), x16.2)))) else ((z01 x11.2 3).bind fun x18 => ((getI [99, 100, (-99)] x18.1).bind fun x19 => (some ((GAsk.mk 0 0 x19), x18.2))))))) else (some ((GAsk.mk 0 0 0), x9.2)))) else ((z01 x7.2 n).bind fun x20 => (if decide (x20.1 = 0) = true then ((z01 x20.2 3).bind fun x22 => (if decide (x22.1 = 0) = true then ((z01 x22.2 3).bind fun x24 => ((getI [0, 4, (-1)] x24.1).bind fun x25 => (some ((GAsk.mk x25 x3.1 x6), x24.2)))) else (if decide (x22.1 = 1) = true then ((z01 x22.2 3).bind fun x27 => ((getI [3, (-1), 1] x27.1).bind fun x28 => (some ((GAsk.mk (1 + x1.1) x28 x6), x27.2)))) else ((z01 x22.2 3).bind fun x29 => ((getI [99, 100, (-99)] x29.1).bind fun x30 => (some ((GAsk.mk (1 + x1.1) x3.1 x30), x29.2))))))) else (some ((GAsk.mk (1 + x1.1) x3.1 x6), x20.2)))))))))))
def z70 : Con := ⟨197, [.ptr (.s .rd) false, .v .I false], [((.s .ask), true)], [(0, .ptr (.s .rd) false)], fun x => z4x x.1 x.2.1⟩
def yu3 : Fs := ⟨[z7z], [], []⟩
theorem yw6 : yu3.Ok Tryz.prog := (fsK z9a fs0)
theorem zp1 : z70.Ok Tryz.prog := fn_ok (k := z70) (fn := Tryz.f197) (W := []) (H := []) Tryz.func197 yw6 trivial rfl rfl (fun av x => by kernel_rfl)
def zj7 (join : Int) (in_ : List Int) (p0_6 : Int) (p0_7 : Int) (p0_8 : Int) (p0_9 : Int) (p0_10 : Int) (s0_0 : List Int) (s0_1 : Int) (l0_3 : List GFlow) : Option (GTask × GRd) := some ((GTask.mk join p0_6 in_ l0_3 [] p0_7 p0_8 p0_9 p0_10), (GRd.mk s0_0 s0_1))
def z0z (split : Int) (to : List Int) (kx0_0 : List Int → Int → List GFlow → Option (GTask × GRd)) : Nat → List Int → Int → Int → List GFlow → Option (GTask × GRd)
  | 0, _, _, _, _ => none
  | n0 + 1, s0_0, s0_1, s0_2, l0_3 => if decide (s0_2 < (to.length : Int)) = true then ((getI to s0_2).bind fun x11 => (if decide (split = 1) = true then (gd (l0_3.length + [(GFlow.mk x11 (GAsk.mk 0 0 0))].length ≤ SMALL) (gd (ok64 (s0_2 + 1)) ((z0z split to kx0_0 n0) s0_0 s0_1 (s0_2 + 1) (l0_3 ++ [(GFlow.mk x11 (GAsk.mk 0 0 0))])))) else (gd (ok64 ((to.length : Int) - 1)) (if decide (s0_2 < ((to.length : Int) - 1)) = true then ((z01 (GRd.mk s0_0 s0_1) 3).bind fun x17 => (gd (ok64 (1 + x17.1)) ((z01 x17.2 3).bind fun x19 => ((z01 x19.2 5).bind fun x20 => (gd (ok64 (x20.1 - 1)) (gd (l0_3.length + [(GFlow.mk x11 (GAsk.mk (1 + x17.1) x19.1 (x20.1 - 1)))].length ≤ SMALL) (gd (ok64 (s0_2 + 1)) ((z0z split to kx0_0 n0) x20.2.b x20.2.p (s0_2 + 1) (l0_3 ++ [(GFlow.mk x11 (GAsk.mk (1 + x17.1) x19.1 (x20.1 - 1)))]))))))))) else (gd (l0_3.length + [(GFlow.mk x11 (GAsk.mk 0 0 0))].length ≤ SMALL) (gd (ok64 (s0_2 + 1)) ((z0z split to kx0_0 n0) s0_0 s0_1 (s0_2 + 1) (l0_3 ++ [(GFlow.mk x11 (GAsk.mk 0 0 0))])))))))) else (kx0_0 s0_0 s0_1 l0_3)
def zj8 (join : Int) (in_ : List Int) (p1_6 : Int) (p1_7 : Int) (p1_8 : Int) (p1_9 : Int) (p1_10 : Int) (s1_0 : List Int) (s1_1 : Int) (l1_3 : List GFlow) : Option (GTask × GRd) := some ((GTask.mk join p1_6 in_ l1_3 [] p1_7 p1_8 p1_9 p1_10), (GRd.mk s1_0 s1_1))
def z06 (r : GRd) (join : Int) (split : Int) (in_ : List Int) (to : List Int) (tasks : Int) : Option (GTask × GRd) := (z01 r 3).bind fun x1 => (gd (ok64 (1 + x1.1)) ((z01 x1.2 3).bind fun x3 => (gd (ok64 (1 + x3.1)) ((z01 x3.2 (1 + x3.1)).bind fun x5 => (gd (ok64 (1 + x5.1)) ((z01 x5.2 3).bind fun x7 => (if decide (x7.1 = 0) = true then ((z01 x7.2 tasks).bind fun x9 => (z0z split to (zj7 join in_ split (1 + x1.1) x9.1 (1 + x3.1) (1 + x5.1)) FUEL x9.2.b x9.2.p 0 ([] : List GFlow))) else (z0z split to (zj8 join in_ split (1 + x1.1) (-1) (1 + x3.1) (1 + x5.1)) FUEL x7.2.b x7.2.p 0 ([] : List GFlow)))))))))
def z2p : Con := ⟨213, [.ptr (.s .rd) false, .v .I false, .v .I false, .v (.sl .I) true, .v (.sl .I) true, .v .I false], [((.s .task), true)], [(0, .ptr (.s .rd) false)], fun x => z06 x.1 x.2.1 x.2.2.1 x.2.2.2.1 x.2.2.2.2.1 x.2.2.2.2.2.1⟩
def yk2 : Fs := ⟨[z7z], [], []⟩
theorem y23 : yk2.Ok Tryz.prog := (fsK z9a fs0)
def zt7 : Tmpl := ⟨[(0, .c (.bx 1000000 0)), (2, .c .i), (4, .c (.ref 1480000)), (12, .c (.bx 12 0)), (13, .c (.bx 13 0)), (14, .c .i)], [(1000000, .box [.s .Y, .i]), (12, .box [.i, .i, .nl, .nl, .nl, .i, .i, .i, .i]), (13, .box [.i, .i, .ref 1360000, .ref 511303, .nl, .i, .i, .i, .i]), (1480000, .arr .I true), (1360000, .arr .I true), (511303, .arr (.s .flow) true)]⟩
def zm8 : Tmpl := ⟨[(12, .c (.bx 12 0)), (13, .c (.bx 13 0))], [(12, .box [.i, .i, .nl, .nl, .nl, .i, .i, .i, .i]), (13, .box [.i, .i, .ref 1360000, .ref 511303, .nl, .i, .i, .i, .i]), (1000000, .box [.s .Y, .i]), (1360000, .arr .I true), (511303, .arr (.s .flow) true)]⟩
def y7x (av : AV) (x : HP z2p.ps) (n : Nat) (v : zt7.den) (K : Ks (CR z2p)) : Option (CR z2p) := z0z v.1.2.1 v.2.2.2.2.1 (fun s0_0 s0_1 l0_3 => zm8.at none (((), (), ()), ((v.2.2.1.1, v.2.2.1.2.1, (), (), (), v.2.2.1.2.2.2.2.2.1, v.2.2.1.2.2.2.2.2.2.1, v.2.2.1.2.2.2.2.2.2.2.1, v.2.2.1.2.2.2.2.2.2.2.2.1, ()), (v.2.2.2.1.1, v.2.2.2.1.2.1, (), (), (), v.2.2.2.1.2.2.2.2.2.1, v.2.2.2.1.2.2.2.2.2.2.1, v.2.2.2.1.2.2.2.2.2.2.2.1, v.2.2.2.1.2.2.2.2.2.2.2.2.1, ()), (s0_0, s0_1, ()), v.2.2.2.2.2.1, l0_3, ())) (K (.exit 0))) n v.2.1.1 v.2.1.2.1 v.1.2.2.2.2.2.1 v.2.2.2.2.2.2.1
def zr1 (av : AV) (x : HP z2p.ps) : Hdl (CR z2p) := hnd [.b 13 3 511303 (.s .flow)] zt7 (y7x av x)
theorem y8n : LP z2p Tryz.f213 [0] zr1 := lp_ok (W := []) (H := []) (xs := [zm8]) y23 trivial rfl (fun av x v K => by kernel_rfl) (fun av x n v K => by kernel_rfl)
theorem yo4 : z2p.Ok Tryz.prog := fn_ok (k := z2p) (fn := Tryz.f213) (W := []) (H := [zr1]) Tryz.func213 y23 ⟨y8n, trivial⟩ rfl rfl (fun av x => by kernel_rfl)
end
end Go.Am
