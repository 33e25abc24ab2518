/- Mirrors and contracts, printed. Own work. -/
import Derived.Test.YtgolgnbgomhknaaClC1
set_option maxRecDepth 100000
set_option maxHeartbeats 4000000
set_option linter.unusedVariables false
set_option linter.unusedSimpArgs false
namespace Go.Am
noncomputable section
open Go Go.Proofs
def z3t (n : Int) (p0_0 : List Int) (p0_3 : GNet) (s0_0 : List Int) (s0_1 : Int) (s0_2 : Int) (l0_4 : List Int) (l0_5 : List GItem) (l0_6 : List Int) (l0_7 : List GDid) : Option (GNet × (List Int) × GCase × GRd) := (z00 (GRd.mk s0_0 s0_1) n).bind fun x11 => (if decide (0 < x11.1) = true then (some (p0_3, p0_0, (GCase.mk s0_2 l0_4 l0_5 l0_6 l0_7), x11.2)) else ((z00 x11.2 7).bind fun x13 => (if decide (x13.1 = 0) = true then ((z5d x13.2 1).bind fun x15 => (some (x15.1, p0_0, (GCase.mk s0_2 l0_4 l0_5 l0_6 l0_7), x15.2))) else (if decide (x13.1 = 1) = true then ((z00 x13.2 5).bind fun x17 => (some (p0_3, p0_0, (GCase.mk x17.1 l0_4 l0_5 l0_6 l0_7), x17.2))) else (if decide (x13.1 = 2) = true then ((z66 x13.2 p0_3.places 2).bind fun x19 => (some (p0_3, p0_0, (GCase.mk s0_2 x19.1 l0_5 l0_6 l0_7), x19.2))) else (if decide (x13.1 = 3) = true then ((z72 x13.2 p0_3 2).bind fun x21 => (some (p0_3, p0_0, (GCase.mk s0_2 l0_4 x21.1 l0_6 l0_7), x21.2))) else (if decide (x13.1 = 4) = true then ((z55 x13.2 1).bind fun x23 => (some (p0_3, p0_0, (GCase.mk s0_2 l0_4 l0_5 x23.1 l0_7), x23.2))) else (if decide (x13.1 = 5) = true then ((z00 x13.2 3).bind fun x25 => ((getI [(-1), 6, 0] x25.1).bind fun x26 => ((z00 x25.2 3).bind fun x27 => ((getI [0, 5, 1] x27.1).bind fun x28 => (gd (l0_7.length + [(GDid.mk x26 x28)].length ≤ SMALL) (some (p0_3, p0_0, (GCase.mk s0_2 l0_4 l0_5 l0_6 (l0_7 ++ [(GDid.mk x26 x28)])), x27.2))))))) else ((z43 x13.2 1).bind fun x30 => (some (p0_3, x30.1, (GCase.mk s0_2 l0_4 l0_5 l0_6 l0_7), x30.2)))))))))))
def z1r (p0_0 : List Int) (p0_3 : GNet) (kx0_0 : List Int → Int → Int → List Int → List GItem → List Int → List GDid → Option (GNet × (List Int) × GCase × GRd)) : Nat → List Int → Int → Int → Int → List Int → List GItem → List Int → List GDid → Option (GNet × (List Int) × GCase × GRd)
  | 0, _, _, _, _, _, _, _, _ => none
  | n0 + 1, s0_0, s0_1, s0_2, s0_3, l0_4, l0_5, l0_6, l0_7 => if decide (0 < s0_3) = true then ((z75 (GRd.mk s0_0 s0_1) p0_3 p0_0 (GCase.mk s0_2 l0_4 l0_5 l0_6 l0_7)).bind fun x9 => (gd (ok64 (s0_3 - 1)) ((z1r p0_0 p0_3 kx0_0 n0) x9.2.b x9.2.p x9.1.state (s0_3 - 1) x9.1.marks x9.1.busy x9.1.data x9.1.did))) else (kx0_0 s0_0 s0_1 s0_2 l0_4 l0_5 l0_6 l0_7)
def z74 (r : GRd) (n : Int) : Option (GNet × (List Int) × GCase × GRd) := (z67 r).bind fun x1 => ((z43 x1.2 99999).bind fun x2 => ((z55 x2.2 99999).bind fun x3 => ((z87 x1.1 x3.1).bind fun x4 => ((z00 x3.2 16).bind fun x5 => ((z00 x5.2 5).bind fun x6 => ((getI [0, 3, 6, 12, x5.1] x6.1).bind fun x7 => (z1r x2.1 x1.1 (z3t n x2.1 x1.1) FUEL x6.2.b x6.2.p x4.state x7 x4.marks x4.busy x4.data x4.did)))))))
def z21 : Con := ⟨48, [.ptr (.s .rd) false, .v .I false], [((.s .net), false), ((.sl .I), false), ((.s .kase), false)], [(0, .ptr (.s .rd) false)], fun x => z74 x.1 x.2.1⟩
def y7i : Fs := ⟨[z81, z7j, z1z, zg7, z8n, za0, z7i, z1g, z1y], [], []⟩
theorem zv5 : y7i.Ok Try.prog := (fsK y0t (fsK y43 (fsK y8h (fsK yd2 (fsK zd7 (fsK y8l (fsK y42 (fsK y5v (fsK y8g fs0)))))))))
def zk8 : Tmpl := ⟨[(0, .c (.bx 1000000 0)), (1, .c .i), (4, .c (.bx 4 0)), (6, .c (.bx 6 0)), (7, .c (.bx 7 0)), (8, .c (.s .I)), (9, .c (.bx 9 0)), (10, .c .i)], [(1000000, .box [.s .Y, .i]), (4, .box [.i, .nl]), (6, .box [.i, .nl, .nl, .nl, .nl]), (7, .boxT (.s .net)), (9, .box [.i, .ref 10018, .ref 20018, .ref 30018, .ref 40018]), (10018, .arr .I true), (20018, .arr (.s .item) true), (30018, .arr .I true), (40018, .arr (.s .did) true)]⟩
def zf7 : Tmpl := ⟨[(0, .c (.bx 1000000 0)), (1, .c .i), (4, .c (.bx 4 0)), (6, .c (.bx 6 0)), (7, .c (.bx 7 0)), (8, .c (.s .I)), (9, .c (.bx 9 0))], [(1000000, .box [.s .Y, .i]), (4, .box [.i, .nl]), (6, .box [.i, .nl, .nl, .nl, .nl]), (7, .boxT (.s .net)), (9, .box [.i, .ref 10018, .ref 20018, .ref 30018, .ref 40018]), (10018, .arr .I true), (20018, .arr (.s .item) true), (30018, .arr .I true), (40018, .arr (.s .did) true)]⟩
def y3e (av : AV) (x : HP z21.ps) (n : Nat) (v : zk8.den) (K : Ks (CR z21)) : Option (CR z21) := z1r v.1.2.2.2.2.2.1 v.2.2.2.2.1 (fun s0_0 s0_1 s0_2 l0_4 l0_5 l0_6 l0_7 => zf7.at none (((), v.1.2.1, (), (), (), v.1.2.2.2.2.2.1, (), ()), ((s0_0, s0_1, ()), (v.2.2.1.1, (), ()), (v.2.2.2.1.1, (), (), (), (), ()), v.2.2.2.2.1, (s0_2, (), (), (), (), ()), l0_4, l0_5, l0_6, l0_7, ())) (K (.exit 0))) n v.2.1.1 v.2.1.2.1 v.2.2.2.2.2.1.1 v.1.2.2.2.2.2.2.2.1 v.2.2.2.2.2.2.1 v.2.2.2.2.2.2.2.1 v.2.2.2.2.2.2.2.2.1 v.2.2.2.2.2.2.2.2.2.1
def zi8 (av : AV) (x : HP z21.ps) : Hdl (CR z21) := hnd [] zk8 (y3e av x)
theorem y3z : LP z21 Try.f48 [0] zi8 := lp_ok (W := [(7, [.froz 10012, .froz 14]), (19, [.froz 10012]), (1000004, [.froz 14, .froz 10012])]) (H := []) (xs := [zf7]) zv5 trivial rfl (fun av x v K => by kernel_rfl) (fun av x n v K => by kernel_rfl)
theorem y8k : z21.Ok Try.prog := fn_ok (k := z21) (fn := Try.f48) (W := [(7, [.froz 10012, .froz 14]), (19, [.froz 10012]), (1000004, [.froz 14, .froz 10012])]) (H := [zi8]) Try.func48 zv5 ⟨y3z, trivial⟩ rfl rfl (fun av x => by kernel_rfl)
def z28 (p0_3 : GNet) (s0_0 : List Int) (s0_1 : Int) (t0_3 : GCase) : Option (GNet × GCase × Int × Int × Int) := gd (ok64 ((t0_3.busy.length : Int) + 1)) ((z00 (GRd.mk s0_0 s0_1) ((t0_3.busy.length : Int) + 1)).bind fun x10 => ((z00 x10.2 9).bind fun x11 => (gd ((8 : Int) ≠ 0 ∧ ok64 (Int.tdiv x11.1 8)) (gd (ok64 (x10.1 - (Int.tdiv x11.1 8))) ((z00 x11.2 5).bind fun x14 => (gd (ok64 (x14.1 - 1)) ((z00 x14.2 4).bind fun x16 => ((getI [0, 3, 99, 100] x16.1).bind fun x17 => (some (p0_3, t0_3, (x10.1 - (Int.tdiv x11.1 8)), (x14.1 - 1), x17))))))))))
def z4i (p0_3 : GNet) (s0_0 : List Int) (s0_1 : Int) (t0_3 : GCase) : Option (GNet × GCase × Int × Int × Int) := gd (ok64 ((t0_3.busy.length : Int) + 1)) ((z00 (GRd.mk s0_0 s0_1) ((t0_3.busy.length : Int) + 1)).bind fun x19 => ((z00 x19.2 9).bind fun x20 => (gd ((8 : Int) ≠ 0 ∧ ok64 (Int.tdiv x20.1 8)) (gd (ok64 (x19.1 - (Int.tdiv x20.1 8))) ((z00 x20.2 5).bind fun x23 => (gd (ok64 (x23.1 - 1)) ((z00 x23.2 4).bind fun x25 => ((getI [0, 3, 99, 100] x25.1).bind fun x26 => (some (p0_3, t0_3, (x19.1 - (Int.tdiv x20.1 8)), (x23.1 - 1), x26))))))))))
def z4j (p0_3 : GNet) (s0_0 : List Int) (s0_1 : Int) (t0_3 : GCase) : Option (GNet × GCase × Int × Int × Int) := gd (ok64 ((t0_3.busy.length : Int) + 1)) ((z00 (GRd.mk s0_0 s0_1) ((t0_3.busy.length : Int) + 1)).bind fun x28 => ((z00 x28.2 9).bind fun x29 => (gd ((8 : Int) ≠ 0 ∧ ok64 (Int.tdiv x29.1 8)) (gd (ok64 (x28.1 - (Int.tdiv x29.1 8))) ((z00 x29.2 5).bind fun x32 => (gd (ok64 (x32.1 - 1)) ((z00 x32.2 4).bind fun x34 => ((getI [0, 3, 99, 100] x34.1).bind fun x35 => (some (p0_3, t0_3, (x28.1 - (Int.tdiv x29.1 8)), (x32.1 - 1), x35))))))))))
def z1d (p0_0 : List Int) (p0_3 : GNet) (kx0_0 : List Int → Int → GCase → Option (GNet × GCase × Int × Int × Int)) (kx0_1 : List Int → Int → GCase → Option (GNet × GCase × Int × Int × Int)) (kx0_2 : List Int → Int → GCase → Option (GNet × GCase × Int × Int × Int)) : Nat → List Int → Int → Int → GCase → Option (GNet × GCase × Int × Int × Int)
  | 0, _, _, _, _ => none
  | n0 + 1, s0_0, s0_1, s0_2, t0_3 => if decide (s0_2 < 3) = true then (if decide ((t0_3.busy.length : Int) = 0) = true then ((z5m p0_3 t0_3).bind fun x5 => (if x5 = true then ((z69 (GRd.mk s0_0 s0_1) p0_3 p0_0 t0_3).bind fun x7 => (gd (ok64 (s0_2 + 1)) ((z1d p0_0 p0_3 kx0_0 kx0_1 kx0_2 n0) x7.2.b x7.2.p (s0_2 + 1) x7.1))) else (kx0_0 s0_0 s0_1 t0_3))) else (kx0_1 s0_0 s0_1 t0_3)) else (kx0_2 s0_0 s0_1 t0_3)
def z48 (code : List Int) : Option (GNet × GCase × Int × Int × Int) := (z73 code).bind fun x1 => ((z74 x1 16).bind fun x2 => (z1d x2.2.1 x2.1 (z28 x2.1) (z4i x2.1) (z4j x2.1) FUEL x2.2.2.2.b x2.2.2.2.p 0 x2.2.2.1))
def z0r : Con := ⟨23, [.v (.sl .Y) false], [((.s .net), false), ((.s .kase), false), (.I, true), (.I, true), (.I, true)], [], fun x => z48 x.1⟩
def y0a : Fs := ⟨[z21, z25, z8p, z8n], [], [zx0]⟩
theorem z90 : y0a.Ok Try.prog := (fsK y8k (fsK zp9 (fsK y5x (fsK zd7 (fsB y8i fs0)))))
def z7r : Tmpl := ⟨[(2, .c (.bx 2 0)), (3, .c (.bx 3 0)), (7, .c (.bx 13 0)), (8, .c (.bx 8 0)), (9, .c (.s .I)), (10, .c (.bx 10 0)), (11, .c .i)], [(2, .box [.i, .nl]), (3, .box [.i, .nl, .nl, .nl, .nl]), (13, .box [.s .Y, .i]), (8, .boxT (.s .net)), (10, .boxT (.s .kase))]⟩
def z3e : Tmpl := ⟨[(2, .c (.bx 2 0)), (3, .c (.bx 3 0)), (7, .c (.bx 13 0)), (8, .c (.bx 8 0)), (10, .c (.bx 10 0))], [(2, .box [.i, .nl]), (3, .box [.i, .nl, .nl, .nl, .nl]), (13, .box [.s .Y, .i]), (8, .boxT (.s .net)), (10, .boxT (.s .kase))]⟩
def zt7 (av : AV) (x : HP z0r.ps) (n : Nat) (v : z7r.den) (K : Ks (CR z0r)) : Option (CR z0r) := z1d v.1.2.2.2.2.1 v.2.2.2.2.1 (fun s0_0 s0_1 t0_3 => z3e.at none (((), (), (), (), (), ()), ((v.2.1.1, (), ()), (v.2.2.1.1, (), (), (), (), ()), (s0_0, s0_1, ()), v.2.2.2.2.1, t0_3, ())) (K (.exit 0))) (fun s0_0 s0_1 t0_3 => z3e.at none (((), (), (), (), (), ()), ((v.2.1.1, (), ()), (v.2.2.1.1, (), (), (), (), ()), (s0_0, s0_1, ()), v.2.2.2.2.1, t0_3, ())) (K (.exit 0))) (fun s0_0 s0_1 t0_3 => z3e.at none (((), (), (), (), (), ()), ((v.2.1.1, (), ()), (v.2.2.1.1, (), (), (), (), ()), (s0_0, s0_1, ()), v.2.2.2.2.1, t0_3, ())) (K (.exit 0))) n v.2.2.2.1.1 v.2.2.2.1.2.1 v.1.2.2.2.2.2.2.1 v.2.2.2.2.2.1
def z7o (av : AV) (x : HP z0r.ps) : Hdl (CR z0r) := hnd [] z7r (zt7 av x)
theorem zu4 : LP z0r Try.f23 [0] z7o := lp_ok (W := []) (H := []) (xs := [z3e]) z90 trivial rfl (fun av x v K => by kernel_rfl) (fun av x n v K => by kernel_rfl)
theorem y0r : z0r.Ok Try.prog := fn_ok (k := z0r) (fn := Try.f23) (W := []) (H := [z7o]) Try.func23 z90 ⟨zu4, trivial⟩ rfl rfl (fun av x => by kernel_rfl)
def zj3  : Option Bool := some true
def z32 (a : List Int) (b : List Int) (kx0_0 : Option Bool) : Nat → Int → Option Bool
  | 0, _ => none
  | n0 + 1, s0_0 => if decide (s0_0 < (a.length : Int)) = true then ((getI a s0_0).bind fun x3 => ((getI b s0_0).bind fun x4 => (if decide (x3 = x4) = true then (gd (ok64 (s0_0 + 1)) ((z32 a b kx0_0 n0) (s0_0 + 1))) else (some false)))) else (kx0_0)
def z5y (a : List Int) (b : List Int) : Option Bool := if decide ((a.length : Int) = (b.length : Int)) = true then (z32 a b zj3 FUEL 0) else (some false)
def z2i : Con := ⟨27, [.v (.sl .I) false, .v (.sl .I) false], [(.B, true)], [], fun x => z5y x.1 x.2.1⟩
def y9r : Fs := ⟨[], [], []⟩
theorem y0e : y9r.Ok Try.prog := fs0
def zr1 : Tmpl := ⟨[(0, .c (.s .I)), (1, .c (.s .I)), (5, .c .i)], []⟩
def zl3 : Tmpl := ⟨[], []⟩
def y4m (av : AV) (x : HP z2i.ps) (n : Nat) (v : zr1.den) (K : Ks (CR z2i)) : Option (CR z2i) := z32 v.1.1 v.1.2.1 (zl3.at none ((), ()) (K (.exit 0))) n v.1.2.2.1
def zn5 (av : AV) (x : HP z2i.ps) : Hdl (CR z2i) := hnd [] zr1 (y4m av x)
theorem y5l : LP z2i Try.f27 [0] zn5 := lp_ok (W := []) (H := []) (xs := [zl3]) y0e trivial rfl (fun av x v K => by kernel_rfl) (fun av x n v K => by kernel_rfl)
theorem yd1 : z2i.Ok Try.prog := fn_ok (k := z2i) (fn := Try.f27) (W := []) (H := [zn5]) Try.func27 y0e ⟨y5l, trivial⟩ rfl rfl (fun av x => by kernel_rfl)
def zj2  : Option Bool := some true
def z31 (a : List GItem) (b : List GItem) (kx0_0 : Option Bool) : Nat → Int → Option Bool
  | 0, _ => none
  | n0 + 1, s0_0 => if decide (s0_0 < (a.length : Int)) = true then ((getI a s0_0).bind fun x3 => ((getI b s0_0).bind fun x4 => (if decide ([x3.task, x3.who, x3.did] = [x4.task, x4.who, x4.did]) = true then (gd (ok64 (s0_0 + 1)) ((z31 a b kx0_0 n0) (s0_0 + 1))) else (some false)))) else (kx0_0)
def z85 (a : List GItem) (b : List GItem) : Option Bool := if decide ((a.length : Int) = (b.length : Int)) = true then (z31 a b zj2 FUEL 0) else (some false)
def z2h : Con := ⟨59, [.v (.sl (.s .item)) false, .v (.sl (.s .item)) false], [(.B, true)], [], fun x => z85 x.1 x.2.1⟩
def y9p : Fs := ⟨[], [], []⟩
theorem y0d : y9p.Ok Try.prog := fs0
def zr0 : Tmpl := ⟨[(0, .c (.s (.s .item))), (1, .c (.s (.s .item))), (5, .c .i)], []⟩
def zl2 : Tmpl := ⟨[], []⟩
def y4l (av : AV) (x : HP z2h.ps) (n : Nat) (v : zr0.den) (K : Ks (CR z2h)) : Option (CR z2h) := z31 v.1.1 v.1.2.1 (zl2.at none ((), ()) (K (.exit 0))) n v.1.2.2.1
def zn4 (av : AV) (x : HP z2h.ps) : Hdl (CR z2h) := hnd [] zr0 (y4l av x)
theorem y5k : LP z2h Try.f59 [0] zn4 := lp_ok (W := []) (H := []) (xs := [zl2]) y0d trivial rfl (fun av x v K => by kernel_rfl) (fun av x n v K => by kernel_rfl)
theorem yc9 : z2h.Ok Try.prog := fn_ok (k := z2h) (fn := Try.f59) (W := []) (H := [zn4]) Try.func59 y0d ⟨y5k, trivial⟩ rfl rfl (fun av x => by kernel_rfl)
def zp1  : Option Bool := some true
def z3m (a : List GDid) (b : List GDid) (kx0_0 : Option Bool) : Nat → Int → Option Bool
  | 0, _ => none
  | n0 + 1, s0_0 => if decide (s0_0 < (a.length : Int)) = true then ((getI a s0_0).bind fun x3 => ((getI b s0_0).bind fun x4 => (if decide ([x3.task, x3.who] = [x4.task, x4.who]) = true then (gd (ok64 (s0_0 + 1)) ((z3m a b kx0_0 n0) (s0_0 + 1))) else (some false)))) else (kx0_0)
def z99 (a : List GDid) (b : List GDid) : Option Bool := if decide ((a.length : Int) = (b.length : Int)) = true then (z3m a b zp1 FUEL 0) else (some false)
def z38 : Con := ⟨28, [.v (.sl (.s .did)) false, .v (.sl (.s .did)) false], [(.B, true)], [], fun x => z99 x.1 x.2.1⟩
def yi4 : Fs := ⟨[], [], []⟩
theorem y2g : yi4.Ok Try.prog := fs0
def zx5 : Tmpl := ⟨[(0, .c (.s (.s .did))), (1, .c (.s (.s .did))), (5, .c .i)], []⟩
def zr9 : Tmpl := ⟨[], []⟩
def y6t (av : AV) (x : HP z38.ps) (n : Nat) (v : zx5.den) (K : Ks (CR z38)) : Option (CR z38) := z3m v.1.1 v.1.2.1 (zr9.at none ((), ()) (K (.exit 0))) n v.1.2.2.1
def zv9 (av : AV) (x : HP z38.ps) : Hdl (CR z38) := hnd [] zx5 (y6t av x)
theorem y7x : LP z38 Try.f28 [0] zv9 := lp_ok (W := []) (H := []) (xs := [zr9]) y2g trivial rfl (fun av x v K => by kernel_rfl) (fun av x n v K => by kernel_rfl)
theorem ym5 : z38.Ok Try.prog := fn_ok (k := z38) (fn := Try.f28) (W := []) (H := [zv9]) Try.func28 y2g ⟨y7x, trivial⟩ rfl rfl (fun av x => by kernel_rfl)
def z86 (a : GCase) (b : GCase) : Option Bool := if decide (a.state = b.state) = true then ((z5y a.marks b.marks).bind fun x2 => (if x2 = true then ((z85 a.busy b.busy).bind fun x4 => (if x4 = true then ((z5y a.data b.data).bind fun x6 => (if x6 = true then ((z99 a.did b.did).bind fun x8 => (some x8)) else (some false))) else (some false))) else (some false))) else (some false)
def zg6 : Con := ⟨16, [.v (.s .kase) false, .v (.s .kase) false], [(.B, true)], [], fun x => z86 x.1 x.2.1⟩
def y9q : Fs := ⟨[z2i, z2h, z38], [], []⟩
theorem ya8 : y9q.Ok Try.prog := (fsK yd1 (fsK yc9 (fsK ym5 fs0)))
theorem yd0 : zg6.Ok Try.prog := fn_ok (k := zg6) (fn := Try.f16) (W := []) (H := []) Try.func16 ya8 trivial rfl rfl (fun av x => by kernel_rfl)
def zp2  : Option Bool := some false
def z3n (list : List Int) (n : Int) (kx0_0 : Option Bool) : Nat → Int → Option Bool
  | 0, _ => none
  | n0 + 1, s0_0 => if decide (s0_0 < (list.length : Int)) = true then ((getI list s0_0).bind fun x2 => (if decide (x2 = n) = true then (some true) else (gd (ok64 (s0_0 + 1)) ((z3n list n kx0_0 n0) (s0_0 + 1))))) else (kx0_0)
def z9a (list : List Int) (n : Int) : Option Bool := z3n list n zp2 FUEL 0
def z39 : Con := ⟨31, [.v (.sl .I) false, .v .I false], [(.B, true)], [], fun x => z9a x.1 x.2.1⟩
def yi5 : Fs := ⟨[], [], []⟩
theorem y2h : yi5.Ok Try.prog := fs0
def zx6 : Tmpl := ⟨[(0, .c (.s .I)), (1, .c .i), (5, .c .i)], []⟩
def zs0 : Tmpl := ⟨[], []⟩
def y6u (av : AV) (x : HP z39.ps) (n : Nat) (v : zx6.den) (K : Ks (CR z39)) : Option (CR z39) := z3n v.1.1 v.1.2.1 (zs0.at none ((), ()) (K (.exit 0))) n v.1.2.2.1
def zw0 (av : AV) (x : HP z39.ps) : Hdl (CR z39) := hnd [] zx6 (y6u av x)
theorem y7y : LP z39 Try.f31 [0] zw0 := lp_ok (W := []) (H := []) (xs := [zs0]) y2h trivial rfl (fun av x v K => by kernel_rfl) (fun av x n v K => by kernel_rfl)
theorem ym6 : z39.Ok Try.prog := fn_ok (k := z39) (fn := Try.f31) (W := []) (H := [zw0]) Try.func31 y2h ⟨y7y, trivial⟩ rfl rfl (fun av x => by kernel_rfl)
def z6w  : Option Bool := (z4g [0, 0, 0]).bind fun x1 => (some x1)
def zz3 : Con := ⟨17, [], [(.B, true)], [], fun x => z6w ⟩
def yr2 : Fs := ⟨[z5i], [], []⟩
theorem yr4 : yr2.Ok Try.prog := (fsK z9g fs0)
theorem ys5 : zz3.Ok Try.prog := fn_ok (k := zz3) (fn := Try.f17) (W := []) (H := []) Try.func17 yr4 trivial rfl rfl (fun av x => by kernel_rfl)
def z3j  : Option Bool := (z6w).bind fun x26 => (some x26)
def z0q (x12 : GTask) (x13 : (List Int)) (p0_1 : List Int) (kx0_0 : Option Bool) : Nat → Int → Option Bool
  | 0, _ => none
  | n0 + 1, s0_0 => if decide (s0_0 < (x12.clear.length : Int)) = true then ((getI x12.clear s0_0).bind fun x15 => ((z9a x13 x15).bind fun x16 => (if x16 = true then ((getI x12.clear s0_0).bind fun x18 => ((getI p0_1 x18).bind fun x19 => (if decide (x19 = 1) = true then (gd (ok64 (s0_0 + 1)) ((z0q x12 x13 p0_1 kx0_0 n0) (s0_0 + 1))) else (some false)))) else ((getI x12.clear s0_0).bind fun x22 => ((getI p0_1 x22).bind fun x23 => (if decide (x23 = 0) = true then (gd (ok64 (s0_0 + 1)) ((z0q x12 x13 p0_1 kx0_0 n0) (s0_0 + 1))) else (some false))))))) else (kx0_0)
def z6v (code : List Int) : Option Bool := if decide (1048576 < (code.length : Int)) = true then (some true) else ((z48 code).bind fun x2 => ((z6y x2.1 x2.2.1 x2.2.2.1 x2.2.2.2.1 x2.2.2.2.2).bind fun x3 => ((z47 x2.1 x2.2.1 x2.2.2.1 x2.2.2.2.1 x2.2.2.2.2).bind fun x4 => ((z86 x3.1 x4.1).bind fun x5 => (if x5 = true then (if (x3.2 == x4.2) = true then (if x3.2 = true then (if decide ((x3.1.did.length : Int) = (x2.2.1.did.length : Int)) = true then ((z6w).bind fun x10 => (some x10)) else ((getI x2.2.1.busy x2.2.2.1).bind fun x11 => ((getI x2.1.tasks x11.task).bind fun x12 => ((z5l x12 x3.1.data).bind fun x13 => (z0q x12 x13 x3.1.marks z3j FUEL 0))))) else ((z6w).bind fun x27 => (some x27))) else (some false)) else (some false))))))
def z1b : Con := ⟨6, [.v (.sl .Y) false], [(.B, true)], [], fun x => z6v x.1⟩
def y1l : Fs := ⟨[z0r, z9x, z53, zg6, zz3, z2m, z39], [], []⟩
theorem zb6 : y1l.Ok Try.prog := (fsK y0r (fsK y87 (fsK za5 (fsK yd0 (fsK ys5 (fsK y2w (fsK ym6 fs0)))))))
def z8u : Tmpl := ⟨[(8, .c (.bx 8 0)), (12, .c (.bx 12 0)), (13, .c (.ref 79)), (14, .c .i)], [(8, .box [.i, .ref 10033, .ref 20033, .ref 30033, .ref 40033]), (12, .boxT (.s .task)), (10033, .arr .I true), (20033, .arr (.s .item) true), (30033, .arr .I true), (40033, .arr (.s .did) true), (79, .arr .I true)]⟩
def z7t : Tmpl := ⟨[], []⟩
def zy5 (av : AV) (x : HP z1b.ps) (n : Nat) (v : z8u.den) (K : Ks (CR z1b)) : Option (CR z1b) := z0q v.2.2.1 v.2.2.2.2.2.2.2.1 v.2.2.2.1 (z7t.at none ((), ()) (K (.exit 0))) n v.1.2.2.2.1
def z8j (av : AV) (x : HP z1b.ps) : Hdl (CR z1b) := hnd [] z8u (zy5 av x)
theorem zz5 : LP z1b Try.f6 [0] z8j := lp_ok (W := []) (H := []) (xs := [z7t]) zb6 trivial rfl (fun av x v K => by kernel_rfl) (fun av x n v K => by kernel_rfl)
theorem y22 : z1b.Ok Try.prog := fn_ok (k := z1b) (fn := Try.f6) (W := []) (H := [z8j]) Try.func6 zb6 ⟨zz5, trivial⟩ rfl rfl (fun av x => by kernel_rfl)
end
end Go.Am
