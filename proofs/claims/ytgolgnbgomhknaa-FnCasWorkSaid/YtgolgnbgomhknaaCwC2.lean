/- Mirrors and contracts, printed. Own work. -/
import Derived.Test.YtgolgnbgomhknaaCwC1
set_option maxRecDepth 100000
set_option maxHeartbeats 4000000
set_option linter.unusedVariables false
set_option linter.unusedSimpArgs false
namespace Go.Am
noncomputable section
open Go Go.Proofs
def z3s (n : Int) (p0_0 : List Int) (p0_3 : GNet) (s0_0 : List Int) (s0_1 : Int) (s0_2 : Int) (l0_4 : List Int) (l0_5 : List GItem) (l0_6 : List Int) (l0_7 : List GDid) : Option (GNet × (List Int) × GCase × GRd) := (z00 (GRd.mk s0_0 s0_1) n).bind fun x11 => (if decide (0 < x11.1) = true then (some (p0_3, p0_0, (GCase.mk s0_2 l0_4 l0_5 l0_6 l0_7), x11.2)) else ((z00 x11.2 7).bind fun x13 => (if decide (x13.1 = 0) = true then ((z5a x13.2 1).bind fun x15 => (some (x15.1, p0_0, (GCase.mk s0_2 l0_4 l0_5 l0_6 l0_7), x15.2))) else (if decide (x13.1 = 1) = true then ((z00 x13.2 5).bind fun x17 => (some (p0_3, p0_0, (GCase.mk x17.1 l0_4 l0_5 l0_6 l0_7), x17.2))) else (if decide (x13.1 = 2) = true then ((z63 x13.2 p0_3.places 2).bind fun x19 => (some (p0_3, p0_0, (GCase.mk s0_2 x19.1 l0_5 l0_6 l0_7), x19.2))) else (if decide (x13.1 = 3) = true then ((z70 x13.2 p0_3 2).bind fun x21 => (some (p0_3, p0_0, (GCase.mk s0_2 l0_4 x21.1 l0_6 l0_7), x21.2))) else (if decide (x13.1 = 4) = true then ((z54 x13.2 1).bind fun x23 => (some (p0_3, p0_0, (GCase.mk s0_2 l0_4 l0_5 x23.1 l0_7), x23.2))) else (if decide (x13.1 = 5) = true then ((z00 x13.2 3).bind fun x25 => ((getI [(-1), 6, 0] x25.1).bind fun x26 => ((z00 x25.2 3).bind fun x27 => ((getI [0, 5, 1] x27.1).bind fun x28 => (gd (l0_7.length + [(GDid.mk x26 x28)].length ≤ SMALL) (some (p0_3, p0_0, (GCase.mk s0_2 l0_4 l0_5 l0_6 (l0_7 ++ [(GDid.mk x26 x28)])), x27.2))))))) else ((z43 x13.2 1).bind fun x30 => (some (p0_3, x30.1, (GCase.mk s0_2 l0_4 l0_5 l0_6 l0_7), x30.2)))))))))))
def z1p (p0_0 : List Int) (p0_3 : GNet) (kx0_0 : List Int → Int → Int → List Int → List GItem → List Int → List GDid → Option (GNet × (List Int) × GCase × GRd)) : Nat → List Int → Int → Int → Int → List Int → List GItem → List Int → List GDid → Option (GNet × (List Int) × GCase × GRd)
  | 0, _, _, _, _, _, _, _, _ => none
  | n0 + 1, s0_0, s0_1, s0_2, s0_3, l0_4, l0_5, l0_6, l0_7 => if decide (0 < s0_3) = true then ((z73 (GRd.mk s0_0 s0_1) p0_3 p0_0 (GCase.mk s0_2 l0_4 l0_5 l0_6 l0_7)).bind fun x9 => (gd (ok64 (s0_3 - 1)) ((z1p p0_0 p0_3 kx0_0 n0) x9.2.b x9.2.p x9.1.state (s0_3 - 1) x9.1.marks x9.1.busy x9.1.data x9.1.did))) else (kx0_0 s0_0 s0_1 s0_2 l0_4 l0_5 l0_6 l0_7)
def z72 (r : GRd) (n : Int) : Option (GNet × (List Int) × GCase × GRd) := (z64 r).bind fun x1 => ((z43 x1.2 99999).bind fun x2 => ((z54 x2.2 99999).bind fun x3 => ((z86 x1.1 x3.1).bind fun x4 => ((z00 x3.2 16).bind fun x5 => ((z00 x5.2 5).bind fun x6 => ((getI [0, 3, 6, 12, x5.1] x6.1).bind fun x7 => (z1p x2.1 x1.1 (z3s n x2.1 x1.1) FUEL x6.2.b x6.2.p x4.state x7 x4.marks x4.busy x4.data x4.did)))))))
def z20 : Con := ⟨48, [.ptr (.s .rd) false, .v .I false], [((.s .net), false), ((.sl .I), false), ((.s .kase), false)], [(0, .ptr (.s .rd) false)], fun x => z72 x.1 x.2.1⟩
def y7g : Fs := ⟨[z80, z7i, z1y, zg1, z8l, z9w, z7h, z1e, z1x], [], []⟩
theorem zu9 : y7g.Ok Try.prog := (fsK y0m (fsK y3x (fsK y8d (fsK yc9 (fsK zd1 (fsK y8h (fsK y3w (fsK y5t (fsK y8c fs0)))))))))
def zk4 : Tmpl := ⟨[(0, .c (.bx 1000000 0)), (1, .c .i), (4, .c (.bx 4 0)), (6, .c (.bx 6 0)), (7, .c (.bx 7 0)), (8, .c (.s .I)), (9, .c (.bx 9 0)), (10, .c .i)], [(1000000, .box [.s .Y, .i]), (4, .box [.i, .nl]), (6, .box [.i, .nl, .nl, .nl, .nl]), (7, .boxT (.s .net)), (9, .box [.i, .ref 10018, .ref 20018, .ref 30018, .ref 40018]), (10018, .arr .I true), (20018, .arr (.s .item) true), (30018, .arr .I true), (40018, .arr (.s .did) true)]⟩
def zf1 : Tmpl := ⟨[(0, .c (.bx 1000000 0)), (1, .c .i), (4, .c (.bx 4 0)), (6, .c (.bx 6 0)), (7, .c (.bx 7 0)), (8, .c (.s .I)), (9, .c (.bx 9 0))], [(1000000, .box [.s .Y, .i]), (4, .box [.i, .nl]), (6, .box [.i, .nl, .nl, .nl, .nl]), (7, .boxT (.s .net)), (9, .box [.i, .ref 10018, .ref 20018, .ref 30018, .ref 40018]), (10018, .arr .I true), (20018, .arr (.s .item) true), (30018, .arr .I true), (40018, .arr (.s .did) true)]⟩
def y35 (av : AV) (x : HP z20.ps) (n : Nat) (v : zk4.den) (K : Ks (CR z20)) : Option (CR z20) := z1p v.1.2.2.2.2.2.1 v.2.2.2.2.1 (fun s0_0 s0_1 s0_2 l0_4 l0_5 l0_6 l0_7 => zf1.at none (((), v.1.2.1, (), (), (), v.1.2.2.2.2.2.1, (), ()), ((s0_0, s0_1, ()), (v.2.2.1.1, (), ()), (v.2.2.2.1.1, (), (), (), (), ()), v.2.2.2.2.1, (s0_2, (), (), (), (), ()), l0_4, l0_5, l0_6, l0_7, ())) (K (.exit 0))) n v.2.1.1 v.2.1.2.1 v.2.2.2.2.2.1.1 v.1.2.2.2.2.2.2.2.1 v.2.2.2.2.2.2.1 v.2.2.2.2.2.2.2.1 v.2.2.2.2.2.2.2.2.1 v.2.2.2.2.2.2.2.2.2.1
def zi4 (av : AV) (x : HP z20.ps) : Hdl (CR z20) := hnd [] zk4 (y35 av x)
theorem y3s : LP z20 Try.f48 [0] zi4 := lp_ok (W := [(7, [.froz 10012, .froz 14]), (19, [.froz 10012]), (1000004, [.froz 14, .froz 10012])]) (H := []) (xs := [zf1]) zu9 trivial rfl (fun av x v K => by kernel_rfl) (fun av x n v K => by kernel_rfl)
theorem y8g : z20.Ok Try.prog := fn_ok (k := z20) (fn := Try.f48) (W := [(7, [.froz 10012, .froz 14]), (19, [.froz 10012]), (1000004, [.froz 14, .froz 10012])]) (H := [zi4]) Try.func48 zu9 ⟨y3s, trivial⟩ rfl rfl (fun av x => by kernel_rfl)
def z27 (p0_3 : GNet) (s0_0 : List Int) (s0_1 : Int) (t0_3 : GCase) : Option (GNet × GCase × Int × Int × Int) := gd (ok64 ((t0_3.busy.length : Int) + 1)) ((z00 (GRd.mk s0_0 s0_1) ((t0_3.busy.length : Int) + 1)).bind fun x10 => ((z00 x10.2 9).bind fun x11 => (gd ((8 : Int) ≠ 0 ∧ ok64 (Int.tdiv x11.1 8)) (gd (ok64 (x10.1 - (Int.tdiv x11.1 8))) ((z00 x11.2 5).bind fun x14 => (gd (ok64 (x14.1 - 1)) ((z00 x14.2 4).bind fun x16 => ((getI [0, 3, 99, 100] x16.1).bind fun x17 => (some (p0_3, t0_3, (x10.1 - (Int.tdiv x11.1 8)), (x14.1 - 1), x17))))))))))
def z4j (p0_3 : GNet) (s0_0 : List Int) (s0_1 : Int) (t0_3 : GCase) : Option (GNet × GCase × Int × Int × Int) := gd (ok64 ((t0_3.busy.length : Int) + 1)) ((z00 (GRd.mk s0_0 s0_1) ((t0_3.busy.length : Int) + 1)).bind fun x19 => ((z00 x19.2 9).bind fun x20 => (gd ((8 : Int) ≠ 0 ∧ ok64 (Int.tdiv x20.1 8)) (gd (ok64 (x19.1 - (Int.tdiv x20.1 8))) ((z00 x20.2 5).bind fun x23 => (gd (ok64 (x23.1 - 1)) ((z00 x23.2 4).bind fun x25 => ((getI [0, 3, 99, 100] x25.1).bind fun x26 => (some (p0_3, t0_3, (x19.1 - (Int.tdiv x20.1 8)), (x23.1 - 1), x26))))))))))
def z4k (p0_3 : GNet) (s0_0 : List Int) (s0_1 : Int) (t0_3 : GCase) : Option (GNet × GCase × Int × Int × Int) := gd (ok64 ((t0_3.busy.length : Int) + 1)) ((z00 (GRd.mk s0_0 s0_1) ((t0_3.busy.length : Int) + 1)).bind fun x28 => ((z00 x28.2 9).bind fun x29 => (gd ((8 : Int) ≠ 0 ∧ ok64 (Int.tdiv x29.1 8)) (gd (ok64 (x28.1 - (Int.tdiv x29.1 8))) ((z00 x29.2 5).bind fun x32 => (gd (ok64 (x32.1 - 1)) ((z00 x32.2 4).bind fun x34 => ((getI [0, 3, 99, 100] x34.1).bind fun x35 => (some (p0_3, t0_3, (x28.1 - (Int.tdiv x29.1 8)), (x32.1 - 1), x35))))))))))
def z1b (p0_0 : List Int) (p0_3 : GNet) (kx0_0 : List Int → Int → GCase → Option (GNet × GCase × Int × Int × Int)) (kx0_1 : List Int → Int → GCase → Option (GNet × GCase × Int × Int × Int)) (kx0_2 : List Int → Int → GCase → Option (GNet × GCase × Int × Int × Int)) : Nat → List Int → Int → Int → GCase → Option (GNet × GCase × Int × Int × Int)
  | 0, _, _, _, _ => none
  | n0 + 1, s0_0, s0_1, s0_2, t0_3 => if decide (s0_2 < 3) = true then (if decide ((t0_3.busy.length : Int) = 0) = true then ((z5h p0_3 t0_3).bind fun x5 => (if x5 = true then ((z66 (GRd.mk s0_0 s0_1) p0_3 p0_0 t0_3).bind fun x7 => (gd (ok64 (s0_2 + 1)) ((z1b p0_0 p0_3 kx0_0 kx0_1 kx0_2 n0) x7.2.b x7.2.p (s0_2 + 1) x7.1))) else (kx0_0 s0_0 s0_1 t0_3))) else (kx0_1 s0_0 s0_1 t0_3)) else (kx0_2 s0_0 s0_1 t0_3)
def z47 (code : List Int) : Option (GNet × GCase × Int × Int × Int) := (z71 code).bind fun x1 => ((z72 x1 16).bind fun x2 => (z1b x2.2.1 x2.1 (z27 x2.1) (z4j x2.1) (z4k x2.1) FUEL x2.2.2.2.b x2.2.2.2.p 0 x2.2.2.1))
def z0s : Con := ⟨23, [.v (.sl .Y) false], [((.s .net), false), ((.s .kase), false), (.I, true), (.I, true), (.I, true)], [], fun x => z47 x.1⟩
def y00 : Fs := ⟨[z20, z24, z8n, z8l], [], [zw2]⟩
theorem z8x : y00.Ok Try.prog := (fsK y8g (fsK zp4 (fsK y5v (fsK zd1 (fsB y8e fs0)))))
def z7s : Tmpl := ⟨[(2, .c (.bx 2 0)), (3, .c (.bx 3 0)), (7, .c (.bx 13 0)), (8, .c (.bx 8 0)), (9, .c (.s .I)), (10, .c (.bx 10 0)), (11, .c .i)], [(2, .box [.i, .nl]), (3, .box [.i, .nl, .nl, .nl, .nl]), (13, .box [.s .Y, .i]), (8, .boxT (.s .net)), (10, .boxT (.s .kase))]⟩
def z3d : Tmpl := ⟨[(2, .c (.bx 2 0)), (3, .c (.bx 3 0)), (7, .c (.bx 13 0)), (8, .c (.bx 8 0)), (10, .c (.bx 10 0))], [(2, .box [.i, .nl]), (3, .box [.i, .nl, .nl, .nl, .nl]), (13, .box [.s .Y, .i]), (8, .boxT (.s .net)), (10, .boxT (.s .kase))]⟩
def zt1 (av : AV) (x : HP z0s.ps) (n : Nat) (v : z7s.den) (K : Ks (CR z0s)) : Option (CR z0s) := z1b v.1.2.2.2.2.1 v.2.2.2.2.1 (fun s0_0 s0_1 t0_3 => z3d.at none (((), (), (), (), (), ()), ((v.2.1.1, (), ()), (v.2.2.1.1, (), (), (), (), ()), (s0_0, s0_1, ()), v.2.2.2.2.1, t0_3, ())) (K (.exit 0))) (fun s0_0 s0_1 t0_3 => z3d.at none (((), (), (), (), (), ()), ((v.2.1.1, (), ()), (v.2.2.1.1, (), (), (), (), ()), (s0_0, s0_1, ()), v.2.2.2.2.1, t0_3, ())) (K (.exit 0))) (fun s0_0 s0_1 t0_3 => z3d.at none (((), (), (), (), (), ()), ((v.2.1.1, (), ()), (v.2.2.1.1, (), (), (), (), ()), (s0_0, s0_1, ()), v.2.2.2.2.1, t0_3, ())) (K (.exit 0))) n v.2.2.2.1.1 v.2.2.2.1.2.1 v.1.2.2.2.2.2.2.1 v.2.2.2.2.2.1
def z7p (av : AV) (x : HP z0s.ps) : Hdl (CR z0s) := hnd [] z7s (zt1 av x)
theorem zt8 : LP z0s Try.f23 [0] z7p := lp_ok (W := []) (H := []) (xs := [z3d]) z8x trivial rfl (fun av x v K => by kernel_rfl) (fun av x n v K => by kernel_rfl)
theorem y0k : z0s.Ok Try.prog := fn_ok (k := z0s) (fn := Try.f23) (W := []) (H := [z7p]) Try.func23 z8x ⟨zt8, trivial⟩ rfl rfl (fun av x => by kernel_rfl)
def zj0  : Option Bool := some true
def z31 (a : List Int) (b : List Int) (kx0_0 : Option Bool) : Nat → Int → Option Bool
  | 0, _ => none
  | n0 + 1, s0_0 => if decide (s0_0 < (a.length : Int)) = true then ((getI a s0_0).bind fun x3 => ((getI b s0_0).bind fun x4 => (if decide (x3 = x4) = true then (gd (ok64 (s0_0 + 1)) ((z31 a b kx0_0 n0) (s0_0 + 1))) else (some false)))) else (kx0_0)
def z38 (a : List Int) (b : List Int) : Option Bool := if decide ((a.length : Int) = (b.length : Int)) = true then (z31 a b zj0 FUEL 0) else (some false)
def z1v : Con := ⟨27, [.v (.sl .I) false, .v (.sl .I) false], [(.B, true)], [], fun x => z38 x.1 x.2.1⟩
def y9n : Fs := ⟨[], [], []⟩
theorem y04 : y9n.Ok Try.prog := fs0
def zq5 : Tmpl := ⟨[(0, .c (.s .I)), (1, .c (.s .I)), (5, .c .i)], []⟩
def zk9 : Tmpl := ⟨[], []⟩
def y4i (av : AV) (x : HP z1v.ps) (n : Nat) (v : zq5.den) (K : Ks (CR z1v)) : Option (CR z1v) := z31 v.1.1 v.1.2.1 (zk9.at none ((), ()) (K (.exit 0))) n v.1.2.2.1
def zn1 (av : AV) (x : HP z1v.ps) : Hdl (CR z1v) := hnd [] zq5 (y4i av x)
theorem y5i : LP z1v Try.f27 [0] zn1 := lp_ok (W := []) (H := []) (xs := [zk9]) y04 trivial rfl (fun av x v K => by kernel_rfl) (fun av x n v K => by kernel_rfl)
theorem y0j : z1v.Ok Try.prog := fn_ok (k := z1v) (fn := Try.f27) (W := []) (H := [zn1]) Try.func27 y04 ⟨y5i, trivial⟩ rfl rfl (fun av x => by kernel_rfl)
def zi9  : Option Bool := some true
def z30 (a : List GItem) (b : List GItem) (kx0_0 : Option Bool) : Nat → Int → Option Bool
  | 0, _ => none
  | n0 + 1, s0_0 => if decide (s0_0 < (a.length : Int)) = true then ((getI a s0_0).bind fun x3 => ((getI b s0_0).bind fun x4 => (if decide ([x3.task, x3.who, x3.did] = [x4.task, x4.who, x4.did]) = true then (gd (ok64 (s0_0 + 1)) ((z30 a b kx0_0 n0) (s0_0 + 1))) else (some false)))) else (kx0_0)
def z85 (a : List GItem) (b : List GItem) : Option Bool := if decide ((a.length : Int) = (b.length : Int)) = true then (z30 a b zi9 FUEL 0) else (some false)
def z2i : Con := ⟨59, [.v (.sl (.s .item)) false, .v (.sl (.s .item)) false], [(.B, true)], [], fun x => z85 x.1 x.2.1⟩
def y9l : Fs := ⟨[], [], []⟩
theorem y03 : y9l.Ok Try.prog := fs0
def zq4 : Tmpl := ⟨[(0, .c (.s (.s .item))), (1, .c (.s (.s .item))), (5, .c .i)], []⟩
def zk8 : Tmpl := ⟨[], []⟩
def y4h (av : AV) (x : HP z2i.ps) (n : Nat) (v : zq4.den) (K : Ks (CR z2i)) : Option (CR z2i) := z30 v.1.1 v.1.2.1 (zk8.at none ((), ()) (K (.exit 0))) n v.1.2.2.1
def zn0 (av : AV) (x : HP z2i.ps) : Hdl (CR z2i) := hnd [] zq4 (y4h av x)
theorem y5h : LP z2i Try.f59 [0] zn0 := lp_ok (W := []) (H := []) (xs := [zk8]) y03 trivial rfl (fun av x v K => by kernel_rfl) (fun av x n v K => by kernel_rfl)
theorem yc7 : z2i.Ok Try.prog := fn_ok (k := z2i) (fn := Try.f59) (W := []) (H := [zn0]) Try.func59 y03 ⟨y5h, trivial⟩ rfl rfl (fun av x => by kernel_rfl)
def zo7  : Option Bool := some true
def z3m (a : List GDid) (b : List GDid) (kx0_0 : Option Bool) : Nat → Int → Option Bool
  | 0, _ => none
  | n0 + 1, s0_0 => if decide (s0_0 < (a.length : Int)) = true then ((getI a s0_0).bind fun x3 => ((getI b s0_0).bind fun x4 => (if decide ([x3.task, x3.who] = [x4.task, x4.who]) = true then (gd (ok64 (s0_0 + 1)) ((z3m a b kx0_0 n0) (s0_0 + 1))) else (some false)))) else (kx0_0)
def z79 (a : List GDid) (b : List GDid) : Option Bool := if decide ((a.length : Int) = (b.length : Int)) = true then (z3m a b zo7 FUEL 0) else (some false)
def z2n : Con := ⟨28, [.v (.sl (.s .did)) false, .v (.sl (.s .did)) false], [(.B, true)], [], fun x => z79 x.1 x.2.1⟩
def yi2 : Fs := ⟨[], [], []⟩
theorem y27 : yi2.Ok Try.prog := fs0
def zw8 : Tmpl := ⟨[(0, .c (.s (.s .did))), (1, .c (.s (.s .did))), (5, .c .i)], []⟩
def zr3 : Tmpl := ⟨[], []⟩
def y6s (av : AV) (x : HP z2n.ps) (n : Nat) (v : zw8.den) (K : Ks (CR z2n)) : Option (CR z2n) := z3m v.1.1 v.1.2.1 (zr3.at none ((), ()) (K (.exit 0))) n v.1.2.2.1
def zv3 (av : AV) (x : HP z2n.ps) : Hdl (CR z2n) := hnd [] zw8 (y6s av x)
theorem y7v : LP z2n Try.f28 [0] zv3 := lp_ok (W := []) (H := []) (xs := [zr3]) y27 trivial rfl (fun av x v K => by kernel_rfl) (fun av x n v K => by kernel_rfl)
theorem y2n : z2n.Ok Try.prog := fn_ok (k := z2n) (fn := Try.f28) (W := []) (H := [zv3]) Try.func28 y27 ⟨y7v, trivial⟩ rfl rfl (fun av x => by kernel_rfl)
def z5v (a : GCase) (b : GCase) : Option Bool := if decide (a.state = b.state) = true then ((z38 a.marks b.marks).bind fun x2 => (if x2 = true then ((z85 a.busy b.busy).bind fun x4 => (if x4 = true then ((z38 a.data b.data).bind fun x6 => (if x6 = true then ((z79 a.did b.did).bind fun x8 => (some x8)) else (some false))) else (some false))) else (some false))) else (some false)
def zg0 : Con := ⟨16, [.v (.s .kase) false, .v (.s .kase) false], [(.B, true)], [], fun x => z5v x.1 x.2.1⟩
def y9m : Fs := ⟨[z1v, z2i, z2n], [], []⟩
theorem ya5 : y9m.Ok Try.prog := (fsK y0j (fsK yc7 (fsK y2n fs0)))
theorem yc8 : zg0.Ok Try.prog := fn_ok (k := zg0) (fn := Try.f16) (W := []) (H := []) Try.func16 ya5 trivial rfl rfl (fun av x => by kernel_rfl)
def zg7  : Option Bool := (z3u [0, 0, 0]).bind fun x1 => (some x1)
def zy3 : Con := ⟨17, [], [(.B, true)], [], fun x => zg7 ⟩
def yq5 : Fs := ⟨[z4f], [], []⟩
theorem yq7 : yq5.Ok Try.prog := (fsK z7b fs0)
theorem yr8 : zy3.Ok Try.prog := fn_ok (k := zy3) (fn := Try.f17) (W := []) (H := []) Try.func17 yq7 trivial rfl rfl (fun av x => by kernel_rfl)
def z7j (code : List Int) : Option Bool := if decide (1048576 < (code.length : Int)) = true then (some true) else ((z47 code).bind fun x2 => ((z6w x2.1 x2.2.1 x2.2.2.1 x2.2.2.2.1 x2.2.2.2.2).bind fun x3 => ((z46 x2.1 x2.2.1 x2.2.2.1 x2.2.2.2.1 x2.2.2.2.2).bind fun x4 => ((z5v x3.1 x4.1).bind fun x5 => (if x5 = true then (if (x3.2 == x4.2) = true then (if x3.2 = true then ((getI x2.2.1.busy x2.2.2.1).bind fun x9 => ((z83 x2.2.1.data x2.2.2.2.1 x2.2.2.2.2).bind fun x10 => (gd (ok64 (x9.did + 1)) ((getI x2.1.tasks x9.task).bind fun x12 => (if decide ((x9.did + 1) < x12.need) = true then ((getI x3.1.busy x2.2.2.1).bind fun x14 => (gd (ok64 (x9.did + 1)) (if decide (x14.did = (x9.did + 1)) = true then (if decide ((x3.1.busy.length : Int) = (x2.2.1.busy.length : Int)) = true then ((z38 x3.1.marks x2.2.1.marks).bind fun x18 => (if x18 = true then ((z38 x3.1.data x10).bind fun x20 => (if x20 = true then ((z79 x3.1.did x2.2.1.did).bind fun x22 => (if x22 = true then ((z4h x2.1 x3.1).bind fun x24 => (some x24)) else (some false))) else (some false))) else (some false))) else (some false)) else (some false)))) else ((z3f x2.1 x2.2.1.marks x9.task x10).bind fun x25 => ((getI x25.1 1).bind fun x26 => (if x25.2 = true then ((z38 x3.1.marks x25.1).bind fun x28 => (if x28 = true then (gd (ok64 ((x2.2.1.did.length : Int) + 1)) (if decide ((x3.1.did.length : Int) = ((x2.2.1.did.length : Int) + 1)) = true then ((getI x3.1.did (x2.2.1.did.length : Int)).bind fun x32 => (if decide ([x32.task, x32.who] = [x9.task, x9.who]) = true then (if ((decide (0 < x26)) == (decide (x3.1.state = 2))) = true then (if decide (0 < x26) = true then (if decide ((x3.1.busy.length : Int) = 0) = true then ((z4h x2.1 x3.1).bind fun x37 => (some x37)) else (some false)) else (gd (ok64 ((x2.2.1.busy.length : Int) - 1)) (if decide ((x3.1.busy.length : Int) = ((x2.2.1.busy.length : Int) - 1)) = true then ((z4h x2.1 x3.1).bind fun x40 => (some x40)) else (some false)))) else (some false)) else (some false))) else (some false))) else (some false))) else (some false))))))))) else ((z5v x3.1 x2.2.1).bind fun x41 => (if x41 = true then ((zg7).bind fun x43 => (some x43)) else (some false)))) else (some false)) else (some false))))))
def zi7 : Con := ⟨5, [.v (.sl .Y) false], [(.B, true)], [], fun x => z7j x.1⟩
def y3b : Fs := ⟨[z0s, z9t, z52, zg0, zf7, z1v, z2n, z2m, z0c, zy3], [], []⟩
theorem y3g : y3b.Ok Try.prog := (fsK y0k (fsK y84 (fsK za0 (fsK yc8 (fsK yc4 (fsK y0j (fsK y2n (fsK y2k (fsK zw4 (fsK yr8 fs0))))))))))
theorem y3v : zi7.Ok Try.prog := fn_ok (k := zi7) (fn := Try.f5) (W := []) (H := []) Try.func5 y3g trivial rfl rfl (fun av x => by kernel_rfl)
end
end Go.Am
