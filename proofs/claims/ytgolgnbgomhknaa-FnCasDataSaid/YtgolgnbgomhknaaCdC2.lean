/- Mirrors and contracts, printed. Own work. -/
import Derived.Test.YtgolgnbgomhknaaCdC1
set_option linter.unusedSimpArgs false
set_option maxRecDepth 100000
set_option maxHeartbeats 4000000
set_option linter.unusedVariables false
namespace Go.Am
noncomputable section
open Go Go.Proofs
def z03h (n : Int) (p0_0 : List Int) (p0_3 : GNet) (s0_0 : List Int) (s0_1 : Int) (s0_2 : Int) (l0_4 : List Int) (l0_5 : List GItem) (l0_6 : List Int) (l0_7 : List GDid) : Option (GNet × (List Int) × GCase × GRd) := (z004 (GRd.mk s0_0 s0_1) n).bind fun x11 => (if decide (0 < x11.1) = true then (some (p0_3, p0_0, (GCase.mk s0_2 l0_4 l0_5 l0_6 l0_7), x11.2)) else ((z004 x11.2 7).bind fun x13 => (if decide (x13.1 = 0) = true then ((z052 x13.2 1).bind fun x15 => (some (x15.1, p0_0, (GCase.mk s0_2 l0_4 l0_5 l0_6 l0_7), x15.2))) else (if decide (x13.1 = 1) = true then ((z004 x13.2 5).bind fun x17 => (some (p0_3, p0_0, (GCase.mk x17.1 l0_4 l0_5 l0_6 l0_7), x17.2))) else (if decide (x13.1 = 2) = true then ((z060 x13.2 p0_3.places 2).bind fun x19 => (some (p0_3, p0_0, (GCase.mk s0_2 x19.1 l0_5 l0_6 l0_7), x19.2))) else (if decide (x13.1 = 3) = true then ((z06t x13.2 p0_3 2).bind fun x21 => (some (p0_3, p0_0, (GCase.mk s0_2 l0_4 x21.1 l0_6 l0_7), x21.2))) else (if decide (x13.1 = 4) = true then ((z053 x13.2 1).bind fun x23 => (some (p0_3, p0_0, (GCase.mk s0_2 l0_4 l0_5 x23.1 l0_7), x23.2))) else (if decide (x13.1 = 5) = true then ((z004 x13.2 3).bind fun x25 => ((getI [(-1), 6, 0] x25.1).bind fun x26 => ((z004 x25.2 3).bind fun x27 => ((getI [0, 5, 1] x27.1).bind fun x28 => (gd (l0_7.length + [(GDid.mk x26 x28)].length ≤ SMALL) (some (p0_3, p0_0, (GCase.mk s0_2 l0_4 l0_5 l0_6 (l0_7 ++ [(GDid.mk x26 x28)])), x27.2))))))) else ((z03x x13.2 1).bind fun x30 => (some (p0_3, x30.1, (GCase.mk s0_2 l0_4 l0_5 l0_6 l0_7), x30.2)))))))))))
def z01m (p0_0 : List Int) (p0_3 : GNet) (kx0_0 : List Int → Int → Int → List Int → List GItem → List Int → List GDid → Option (GNet × (List Int) × GCase × GRd)) : Nat → List Int → Int → Int → Int → List Int → List GItem → List Int → List GDid → Option (GNet × (List Int) × GCase × GRd)
  | 0, _, _, _, _, _, _, _, _ => none
  | n0 + 1, s0_0, s0_1, s0_2, s0_3, l0_4, l0_5, l0_6, l0_7 => if decide (0 < s0_3) = true then ((z06w (GRd.mk s0_0 s0_1) p0_3 p0_0 (GCase.mk s0_2 l0_4 l0_5 l0_6 l0_7)).bind fun x9 => (gd (ok64 (s0_3 - 1)) ((z01m p0_0 p0_3 kx0_0 n0) x9.2.b x9.2.p x9.1.state (s0_3 - 1) x9.1.marks x9.1.busy x9.1.data x9.1.did))) else (kx0_0 s0_0 s0_1 s0_2 l0_4 l0_5 l0_6 l0_7)
def z06v (r : GRd) (n : Int) : Option (GNet × (List Int) × GCase × GRd) := (z068 r).bind fun x1 => ((z03x x1.2 99999).bind fun x2 => ((z053 x2.2 99999).bind fun x3 => ((z080 x1.1 x3.1).bind fun x4 => ((z004 x3.2 16).bind fun x5 => ((z004 x5.2 5).bind fun x6 => ((getI [0, 3, 6, 12, x5.1] x6.1).bind fun x7 => (z01m x2.1 x1.1 (z03h n x2.1 x1.1) FUEL x6.2.b x6.2.p x4.state x7 x4.marks x4.busy x4.data x4.did)))))))
def z01y : Con := ⟨48, [.ptr (.s .rd) false, .v .I false], [((.s .net), false), ((.sl .I), false), ((.s .kase), false)], [(0, .ptr (.s .rd) false)], fun x => z06v x.1 x.2.1⟩
def z0ns : Fs := ⟨[z07u, z078, z01w, z0bw, z0ew, z09f, z077, z01e, z01v], [], []⟩
theorem z0fm : z0ns.Ok Try.prog := (fsK z0hi (fsK z0kn (fsK z0oy (fsK z0r6 (fsK z0h2 (fsK z0p2 (fsK z0km (fsK z0m8 (fsK z0ox fs0)))))))))
def z0cs : Tmpl := ⟨[(0, .c (.bx 1000000 0)), (1, .c .i), (4, .c (.bx 4 0)), (6, .c (.bx 6 0)), (7, .c (.bx 7 0)), (8, .c (.s .I)), (9, .c (.bx 9 0)), (10, .c .i)], [(1000000, .box [.s .Y, .i]), (4, .box [.i, .nl]), (6, .box [.i, .nl, .nl, .nl, .nl]), (7, .boxT (.s .net)), (9, .box [.i, .ref 10018, .ref 20018, .ref 30018, .ref 40018]), (10018, .arr .I true), (20018, .arr (.s .item) true), (30018, .arr .I true), (40018, .arr (.s .did) true)]⟩
def z0b1 : Tmpl := ⟨[(0, .c (.bx 1000000 0)), (1, .c .i), (4, .c (.bx 4 0)), (6, .c (.bx 6 0)), (7, .c (.bx 7 0)), (8, .c (.s .I)), (9, .c (.bx 9 0))], [(1000000, .box [.s .Y, .i]), (4, .box [.i, .nl]), (6, .box [.i, .nl, .nl, .nl, .nl]), (7, .boxT (.s .net)), (9, .box [.i, .ref 10018, .ref 20018, .ref 30018, .ref 40018]), (10018, .arr .I true), (20018, .arr (.s .item) true), (30018, .arr .I true), (40018, .arr (.s .did) true)]⟩
def z0iw (av : AV) (x : HP z01y.ps) (n : Nat) (v : z0cs.den) (K : Ks (CR z01y)) : Option (CR z01y) := z01m v.1.2.2.2.2.2.1 v.2.2.2.2.1 (fun s0_0 s0_1 s0_2 l0_4 l0_5 l0_6 l0_7 => z0b1.at none (((), v.1.2.1, (), (), (), v.1.2.2.2.2.2.1, (), ()), ((s0_0, s0_1, ()), (v.2.2.1.1, (), ()), (v.2.2.2.1.1, (), (), (), (), ()), v.2.2.2.2.1, (s0_2, (), (), (), (), ()), l0_4, l0_5, l0_6, l0_7, ())) (K (.exit 0))) n v.2.1.1 v.2.1.2.1 v.2.2.2.2.2.1.1 v.1.2.2.2.2.2.2.2.1 v.2.2.2.2.2.2.1 v.2.2.2.2.2.2.2.1 v.2.2.2.2.2.2.2.2.1 v.2.2.2.2.2.2.2.2.2.1
def z0bp (av : AV) (x : HP z01y.ps) : Hdl (CR z01y) := hnd [] z0cs (z0iw av x)
theorem z0k9 : LP z01y Try.f48 [0] z0bp := lp_ok (W := [(7, [.froz 10012, .froz 14]), (19, [.froz 10012]), (1000004, [.froz 14, .froz 10012])]) (H := []) (xs := [z0b1]) z0fm trivial rfl (fun av x v K => by kernel_rfl) (fun av x n v K => by kernel_rfl)
theorem z0p1 : z01y.Ok Try.prog := fn_ok (k := z01y) (fn := Try.f48) (W := [(7, [.froz 10012, .froz 14]), (19, [.froz 10012]), (1000004, [.froz 14, .froz 10012])]) (H := [z0bp]) Try.func48 z0fm ⟨z0k9, trivial⟩ rfl rfl (fun av x => by kernel_rfl)
def z01s (p0_3 : GNet) (s0_0 : List Int) (s0_1 : Int) (t0_3 : GCase) : Option (GNet × GCase × Int × Int × Int) := gd (ok64 ((t0_3.busy.length : Int) + 1)) ((z004 (GRd.mk s0_0 s0_1) ((t0_3.busy.length : Int) + 1)).bind fun x10 => ((z004 x10.2 9).bind fun x11 => (gd ((8 : Int) ≠ 0 ∧ ok64 (Int.tdiv x11.1 8)) (gd (ok64 (x10.1 - (Int.tdiv x11.1 8))) ((z004 x11.2 5).bind fun x14 => (gd (ok64 (x14.1 - 1)) ((z004 x14.2 4).bind fun x16 => ((getI [0, 3, 99, 100] x16.1).bind fun x17 => (some (p0_3, t0_3, (x10.1 - (Int.tdiv x11.1 8)), (x14.1 - 1), x17))))))))))
def z045 (p0_3 : GNet) (s0_0 : List Int) (s0_1 : Int) (t0_3 : GCase) : Option (GNet × GCase × Int × Int × Int) := gd (ok64 ((t0_3.busy.length : Int) + 1)) ((z004 (GRd.mk s0_0 s0_1) ((t0_3.busy.length : Int) + 1)).bind fun x19 => ((z004 x19.2 9).bind fun x20 => (gd ((8 : Int) ≠ 0 ∧ ok64 (Int.tdiv x20.1 8)) (gd (ok64 (x19.1 - (Int.tdiv x20.1 8))) ((z004 x20.2 5).bind fun x23 => (gd (ok64 (x23.1 - 1)) ((z004 x23.2 4).bind fun x25 => ((getI [0, 3, 99, 100] x25.1).bind fun x26 => (some (p0_3, t0_3, (x19.1 - (Int.tdiv x20.1 8)), (x23.1 - 1), x26))))))))))
def z046 (p0_3 : GNet) (s0_0 : List Int) (s0_1 : Int) (t0_3 : GCase) : Option (GNet × GCase × Int × Int × Int) := gd (ok64 ((t0_3.busy.length : Int) + 1)) ((z004 (GRd.mk s0_0 s0_1) ((t0_3.busy.length : Int) + 1)).bind fun x28 => ((z004 x28.2 9).bind fun x29 => (gd ((8 : Int) ≠ 0 ∧ ok64 (Int.tdiv x29.1 8)) (gd (ok64 (x28.1 - (Int.tdiv x29.1 8))) ((z004 x29.2 5).bind fun x32 => (gd (ok64 (x32.1 - 1)) ((z004 x32.2 4).bind fun x34 => ((getI [0, 3, 99, 100] x34.1).bind fun x35 => (some (p0_3, t0_3, (x28.1 - (Int.tdiv x29.1 8)), (x32.1 - 1), x35))))))))))
def z018 (p0_0 : List Int) (p0_3 : GNet) (kx0_0 : List Int → Int → GCase → Option (GNet × GCase × Int × Int × Int)) (kx0_1 : List Int → Int → GCase → Option (GNet × GCase × Int × Int × Int)) (kx0_2 : List Int → Int → GCase → Option (GNet × GCase × Int × Int × Int)) : Nat → List Int → Int → Int → GCase → Option (GNet × GCase × Int × Int × Int)
  | 0, _, _, _, _ => none
  | n0 + 1, s0_0, s0_1, s0_2, t0_3 => if decide (s0_2 < 3) = true then (if decide ((t0_3.busy.length : Int) = 0) = true then ((z05h p0_3 t0_3).bind fun x5 => (if x5 = true then ((z062 (GRd.mk s0_0 s0_1) p0_3 p0_0 t0_3).bind fun x7 => (gd (ok64 (s0_2 + 1)) ((z018 p0_0 p0_3 kx0_0 kx0_1 kx0_2 n0) x7.2.b x7.2.p (s0_2 + 1) x7.1))) else (kx0_0 s0_0 s0_1 t0_3))) else (kx0_1 s0_0 s0_1 t0_3)) else (kx0_2 s0_0 s0_1 t0_3)
def z042 (code : List Int) : Option (GNet × GCase × Int × Int × Int) := (z06u code).bind fun x1 => ((z06v x1 16).bind fun x2 => (z018 x2.2.1 x2.1 (z01s x2.1) (z045 x2.1) (z046 x2.1) FUEL x2.2.2.2.b x2.2.2.2.p 0 x2.2.2.1))
def z00o : Con := ⟨23, [.v (.sl .Y) false], [((.s .net), false), ((.s .kase), false), (.I, true), (.I, true), (.I, true)], [], fun x => z042 x.1⟩
def z0gw : Fs := ⟨[z01y, z02a, z08h, z0ew], [], [z0g2]⟩
theorem z08l : z0gw.Ok Try.prog := (fsK z0p1 (fsK z0f3 (fsK z0ma (fsK z0h2 (fsB z0oz fs0)))))
def z07j : Tmpl := ⟨[(2, .c (.bx 2 0)), (3, .c (.bx 3 0)), (7, .c (.bx 13 0)), (8, .c (.bx 8 0)), (9, .c (.s .I)), (10, .c (.bx 10 0)), (11, .c .i)], [(2, .box [.i, .nl]), (3, .box [.i, .nl, .nl, .nl, .nl]), (13, .box [.s .Y, .i]), (8, .boxT (.s .net)), (10, .boxT (.s .kase))]⟩
def z02w : Tmpl := ⟨[(2, .c (.bx 2 0)), (3, .c (.bx 3 0)), (7, .c (.bx 13 0)), (8, .c (.bx 8 0)), (10, .c (.bx 10 0))], [(2, .box [.i, .nl]), (3, .box [.i, .nl, .nl, .nl, .nl]), (13, .box [.s .Y, .i]), (8, .boxT (.s .net)), (10, .boxT (.s .kase))]⟩
def z0el (av : AV) (x : HP z00o.ps) (n : Nat) (v : z07j.den) (K : Ks (CR z00o)) : Option (CR z00o) := z018 v.1.2.2.2.2.1 v.2.2.2.2.1 (fun s0_0 s0_1 t0_3 => z02w.at none (((), (), (), (), (), ()), ((v.2.1.1, (), ()), (v.2.2.1.1, (), (), (), (), ()), (s0_0, s0_1, ()), v.2.2.2.2.1, t0_3, ())) (K (.exit 0))) (fun s0_0 s0_1 t0_3 => z02w.at none (((), (), (), (), (), ()), ((v.2.1.1, (), ()), (v.2.2.1.1, (), (), (), (), ()), (s0_0, s0_1, ()), v.2.2.2.2.1, t0_3, ())) (K (.exit 0))) (fun s0_0 s0_1 t0_3 => z02w.at none (((), (), (), (), (), ()), ((v.2.1.1, (), ()), (v.2.2.1.1, (), (), (), (), ()), (s0_0, s0_1, ()), v.2.2.2.2.1, t0_3, ())) (K (.exit 0))) n v.2.2.2.1.1 v.2.2.2.1.2.1 v.1.2.2.2.2.2.2.1 v.2.2.2.2.2.1
def z075 (av : AV) (x : HP z00o.ps) : Hdl (CR z00o) := hnd [] z07j (z0el av x)
theorem z0ey : LP z00o Try.f23 [0] z075 := lp_ok (W := []) (H := []) (xs := [z02w]) z08l trivial rfl (fun av x v K => by kernel_rfl) (fun av x n v K => by kernel_rfl)
theorem z0h3 : z00o.Ok Try.prog := fn_ok (k := z00o) (fn := Try.f23) (W := []) (H := [z075]) Try.func23 z08l ⟨z0ey, trivial⟩ rfl rfl (fun av x => by kernel_rfl)
def z0c6  : Option Bool := some true
def z031 (a : List Int) (b : List Int) (kx0_0 : Option Bool) : Nat → Int → Option Bool
  | 0, _ => none
  | n0 + 1, s0_0 => if decide (s0_0 < (a.length : Int)) = true then ((getI a s0_0).bind fun x3 => ((getI b s0_0).bind fun x4 => (if decide (x3 = x4) = true then (gd (ok64 (s0_0 + 1)) ((z031 a b kx0_0 n0) (s0_0 + 1))) else (some false)))) else (kx0_0)
def z02p (a : List Int) (b : List Int) : Option Bool := if decide ((a.length : Int) = (b.length : Int)) = true then (z031 a b z0c6 FUEL 0) else (some false)
def z021 : Con := ⟨27, [.v (.sl .I) false, .v (.sl .I) false], [(.B, true)], [], fun x => z02p x.1 x.2.1⟩
def z0q1 : Fs := ⟨[], [], []⟩
theorem z0h9 : z0q1.Ok Try.prog := fs0
def z0e6 : Tmpl := ⟨[(0, .c (.s .I)), (1, .c (.s .I)), (5, .c .i)], []⟩
def z0cx : Tmpl := ⟨[], []⟩
def z0l9 (av : AV) (x : HP z021.ps) (n : Nat) (v : z0e6.den) (K : Ks (CR z021)) : Option (CR z021) := z031 v.1.1 v.1.2.1 (z0cx.at none ((), ()) (K (.exit 0))) n v.1.2.2.1
def z0dm (av : AV) (x : HP z021.ps) : Hdl (CR z021) := hnd [] z0e6 (z0l9 av x)
theorem z0ly : LP z021 Try.f27 [0] z0dm := lp_ok (W := []) (H := []) (xs := [z0cx]) z0h9 trivial rfl (fun av x v K => by kernel_rfl) (fun av x n v K => by kernel_rfl)
theorem z0hg : z021.Ok Try.prog := fn_ok (k := z021) (fn := Try.f27) (W := []) (H := [z0dm]) Try.func27 z0h9 ⟨z0ly, trivial⟩ rfl rfl (fun av x => by kernel_rfl)
def z0c5  : Option Bool := some true
def z030 (a : List GItem) (b : List GItem) (kx0_0 : Option Bool) : Nat → Int → Option Bool
  | 0, _ => none
  | n0 + 1, s0_0 => if decide (s0_0 < (a.length : Int)) = true then ((getI a s0_0).bind fun x3 => ((getI b s0_0).bind fun x4 => (if decide ([x3.task, x3.who, x3.did] = [x4.task, x4.who, x4.did]) = true then (gd (ok64 (s0_0 + 1)) ((z030 a b kx0_0 n0) (s0_0 + 1))) else (some false)))) else (kx0_0)
def z07y (a : List GItem) (b : List GItem) : Option Bool := if decide ((a.length : Int) = (b.length : Int)) = true then (z030 a b z0c5 FUEL 0) else (some false)
def z02l : Con := ⟨59, [.v (.sl (.s .item)) false, .v (.sl (.s .item)) false], [(.B, true)], [], fun x => z07y x.1 x.2.1⟩
def z0pz : Fs := ⟨[], [], []⟩
theorem z0h8 : z0pz.Ok Try.prog := fs0
def z0e5 : Tmpl := ⟨[(0, .c (.s (.s .item))), (1, .c (.s (.s .item))), (5, .c .i)], []⟩
def z0cw : Tmpl := ⟨[], []⟩
def z0l8 (av : AV) (x : HP z02l.ps) (n : Nat) (v : z0e5.den) (K : Ks (CR z02l)) : Option (CR z02l) := z030 v.1.1 v.1.2.1 (z0cw.at none ((), ()) (K (.exit 0))) n v.1.2.2.1
def z0dl (av : AV) (x : HP z02l.ps) : Hdl (CR z02l) := hnd [] z0e5 (z0l8 av x)
theorem z0lx : LP z02l Try.f59 [0] z0dl := lp_ok (W := []) (H := []) (xs := [z0cw]) z0h8 trivial rfl (fun av x v K => by kernel_rfl) (fun av x n v K => by kernel_rfl)
theorem z0r4 : z02l.Ok Try.prog := fn_ok (k := z02l) (fn := Try.f59) (W := []) (H := [z0dl]) Try.func59 z0h8 ⟨z0lx, trivial⟩ rfl rfl (fun av x => by kernel_rfl)
def z0dt  : Option Bool := some true
def z03j (a : List GDid) (b : List GDid) (kx0_0 : Option Bool) : Nat → Int → Option Bool
  | 0, _ => none
  | n0 + 1, s0_0 => if decide (s0_0 < (a.length : Int)) = true then ((getI a s0_0).bind fun x3 => ((getI b s0_0).bind fun x4 => (if decide ([x3.task, x3.who] = [x4.task, x4.who]) = true then (gd (ok64 (s0_0 + 1)) ((z03j a b kx0_0 n0) (s0_0 + 1))) else (some false)))) else (kx0_0)
def z09n (a : List GDid) (b : List GDid) : Option Bool := if decide ((a.length : Int) = (b.length : Int)) = true then (z03j a b z0dt FUEL 0) else (some false)
def z03b : Con := ⟨28, [.v (.sl (.s .did)) false, .v (.sl (.s .did)) false], [(.B, true)], [], fun x => z09n x.1 x.2.1⟩
def z0sd : Fs := ⟨[], [], []⟩
theorem z0jh : z0sd.Ok Try.prog := fs0
def z0gj : Tmpl := ⟨[(0, .c (.s (.s .did))), (1, .c (.s (.s .did))), (5, .c .i)], []⟩
def z0ee : Tmpl := ⟨[], []⟩
def z0my (av : AV) (x : HP z03b.ps) (n : Nat) (v : z0gj.den) (K : Ks (CR z03b)) : Option (CR z03b) := z03j v.1.1 v.1.2.1 (z0ee.at none ((), ()) (K (.exit 0))) n v.1.2.2.1
def z0fq (av : AV) (x : HP z03b.ps) : Hdl (CR z03b) := hnd [] z0gj (z0my av x)
theorem z0oe : LP z03b Try.f28 [0] z0fq := lp_ok (W := []) (H := []) (xs := [z0ee]) z0jh trivial rfl (fun av x v K => by kernel_rfl) (fun av x n v K => by kernel_rfl)
theorem z0tb : z03b.Ok Try.prog := fn_ok (k := z03b) (fn := Try.f28) (W := []) (H := [z0fq]) Try.func28 z0jh ⟨z0oe, trivial⟩ rfl rfl (fun av x => by kernel_rfl)
def z07z (a : GCase) (b : GCase) : Option Bool := if decide (a.state = b.state) = true then ((z02p a.marks b.marks).bind fun x2 => (if x2 = true then ((z07y a.busy b.busy).bind fun x4 => (if x4 = true then ((z02p a.data b.data).bind fun x6 => (if x6 = true then ((z09n a.did b.did).bind fun x8 => (some x8)) else (some false))) else (some false))) else (some false))) else (some false)
def z0bv : Con := ⟨16, [.v (.s .kase) false, .v (.s .kase) false], [(.B, true)], [], fun x => z07z x.1 x.2.1⟩
def z0q0 : Fs := ⟨[z021, z02l, z03b], [], []⟩
theorem z0qi : z0q0.Ok Try.prog := (fsK z0hg (fsK z0r4 (fsK z0tb fs0)))
theorem z0r5 : z0bv.Ok Try.prog := fn_ok (k := z0bv) (fn := Try.f16) (W := []) (H := []) Try.func16 z0qi trivial rfl rfl (fun av x => by kernel_rfl)
def z05g  : Option Bool := (z04p [0, 0, 0]).bind fun x1 => (some x1)
def z0gy : Con := ⟨17, [], [(.B, true)], [], fun x => z05g ⟩
def z0vn : Fs := ⟨[z05d], [], []⟩
theorem z0vp : z0vn.Ok Try.prog := (fsK z09q fs0)
theorem z0vu : z0gy.Ok Try.prog := fn_ok (k := z0gy) (fn := Try.f17) (W := []) (H := []) Try.func17 z0vp trivial rfl rfl (fun av x => by kernel_rfl)
def z0g8 (p0_2 : Bool) (p0_3 : GCase) (p0_12 : List Int) (s0_0 : Int) : Option Bool := if decide (s0_0 ≤ 1) = true then (if p0_2 = true then ((z02p p0_12 p0_3.data).bind fun x22 => (if x22 = true then ((z05g).bind fun x24 => (some x24)) else (some false))) else (if decide (s0_0 = 0) = true then ((z02p p0_12 p0_3.data).bind fun x26 => (if x26 = true then ((z05g).bind fun x28 => (some x28)) else (some false))) else (some false))) else (some false)
def z051 (p0_2 : Bool) (p0_3 : GCase) (p0_12 : List Int) (s0_0 : Int) : Option Bool := if decide (s0_0 ≤ 1) = true then (if p0_2 = true then ((z02p p0_12 p0_3.data).bind fun x31 => (if x31 = true then ((z05g).bind fun x33 => (some x33)) else (some false))) else (if decide (s0_0 = 0) = true then ((z02p p0_12 p0_3.data).bind fun x35 => (if x35 = true then ((z05g).bind fun x37 => (some x37)) else (some false))) else (some false))) else (some false)
def z00s (p0_0 : Int) (p0_1 : Int) (p0_3 : GCase) (p0_8 : List Int) (kx0_0 : Int → Option Bool) (kx0_1 : Int → Option Bool) : Nat → Int → Int → Option Bool
  | 0, _, _ => none
  | n0 + 1, s0_0, s0_1 => if decide (s0_1 < (p0_3.data.length : Int)) = true then (if decide ((p0_8.length : Int) = (p0_3.data.length : Int)) = true then ((getI p0_8 s0_1).bind fun x11 => ((getI p0_3.data s0_1).bind fun x12 => (if decide (x11 = x12) = true then (gd (ok64 (s0_1 + 1)) ((z00s p0_0 p0_1 p0_3 p0_8 kx0_0 kx0_1 n0) s0_0 (s0_1 + 1))) else (gd (ok64 (s0_0 + 1)) (if decide (s0_1 = p0_0) = true then ((getI p0_8 s0_1).bind fun x17 => (if decide (x17 = p0_1) = true then (gd (ok64 (s0_1 + 1)) ((z00s p0_0 p0_1 p0_3 p0_8 kx0_0 kx0_1 n0) (s0_0 + 1) (s0_1 + 1))) else (some false))) else (some false)))))) else (kx0_0 s0_0)) else (kx0_1 s0_0)
def z07b (code : List Int) : Option Bool := if decide (1048576 < (code.length : Int)) = true then (some true) else ((z042 code).bind fun x2 => ((z06q x2.1 x2.2.1 x2.2.2.1 x2.2.2.2.1 x2.2.2.2.2).bind fun x3 => ((z041 x2.1 x2.2.1 x2.2.2.1 x2.2.2.2.1 x2.2.2.2.2).bind fun x4 => ((z07z x3.1 x4.1).bind fun x5 => (if x5 = true then (if (x3.2 == x4.2) = true then ((z06p x2.1 x2.2.1).bind fun x8 => (z00s x2.2.2.2.1 x2.2.2.2.2 x2.2.1 x3.1.data (z0g8 x3.2 x2.2.1 x8.1.data) (z051 x3.2 x2.2.1 x8.1.data) FUEL 0 0)) else (some false)) else (some false))))))
def z01g : Con := ⟨7, [.v (.sl .Y) false], [(.B, true)], [], fun x => z07b x.1⟩
def z0j6 : Fs := ⟨[z00o, z09a, z04x, z0bv, z099, z021, z0gy], [], []⟩
theorem z0be : z0j6.Ok Try.prog := (fsK z0h3 (fsK z0op (fsK z09s (fsK z0r5 (fsK z0oo (fsK z0hg (fsK z0vu fs0)))))))
def z08r : Tmpl := ⟨[(4, .c (.bx 4 0)), (6, .c .i), (7, .c .i), (8, .c (.bx 8 0)), (9, .c .b), (12, .c (.bx 12 0)), (14, .c .i), (15, .c .i)], [(4, .boxT (.s .kase)), (8, .box [.i, .ref 10033, .ref 20033, .ref 30033, .ref 40033]), (12, .box [.i, .ref 10057, .ref 20057, .ref 30057, .ref 40057]), (10033, .arr .I true), (20033, .arr (.s .item) true), (30033, .arr .I true), (40033, .arr (.s .did) true), (10057, .arr .I true), (20057, .arr (.s .item) true), (30057, .arr .I true), (40057, .arr (.s .did) true)]⟩
def z058 : Tmpl := ⟨[(4, .c (.bx 4 0)), (9, .c .b), (12, .c (.bx 12 0)), (14, .c .i)], [(4, .boxT (.s .kase)), (12, .box [.i, .ref 10057, .ref 20057, .ref 30057, .ref 40057]), (10057, .arr .I true), (20057, .arr (.s .item) true), (30057, .arr .I true), (40057, .arr (.s .did) true)]⟩
def z0gs (av : AV) (x : HP z01g.ps) (n : Nat) (v : z08r.den) (K : Ks (CR z01g)) : Option (CR z01g) := z00s v.1.2.1 v.1.2.2.1 v.2.1 v.2.2.2.2.2.2.1 (fun s0_0 => z058.at none (((), v.1.2.2.2.2.1, (), s0_0, ()), (v.2.1, (v.2.2.2.1.1, (), (), (), (), ()), v.2.2.2.2.2.2.2.2.1, v.2.2.2.2.2.2.2.2.2.1, v.2.2.2.2.2.2.2.2.2.2.1, v.2.2.2.2.2.2.2.2.2.2.2.1, ())) (K (.exit 0))) (fun s0_0 => z058.at none (((), v.1.2.2.2.2.1, (), s0_0, ()), (v.2.1, (v.2.2.2.1.1, (), (), (), (), ()), v.2.2.2.2.2.2.2.2.1, v.2.2.2.2.2.2.2.2.2.1, v.2.2.2.2.2.2.2.2.2.2.1, v.2.2.2.2.2.2.2.2.2.2.2.1, ())) (K (.exit 0))) n v.1.2.2.2.2.2.2.1 v.1.2.2.2.2.2.2.2.1
def z08m (av : AV) (x : HP z01g.ps) : Hdl (CR z01g) := hnd [] z08r (z0gs av x)
theorem z0gz : LP z01g Try.f7 [0] z08m := lp_ok (W := []) (H := []) (xs := [z058]) z0be trivial rfl (fun av x v K => by kernel_rfl) (fun av x n v K => by kernel_rfl)
theorem z0kj : z01g.Ok Try.prog := fn_ok (k := z01g) (fn := Try.f7) (W := []) (H := [z08m]) Try.func7 z0be ⟨z0gz, trivial⟩ rfl rfl (fun av x => by kernel_rfl)
end
end Go.Am
