/- Mirrors and contracts, printed. Own work. -/
import Derived.Test.YtgolgnbgomhknaaCkB5
set_option linter.unusedSimpArgs false
set_option maxRecDepth 100000
set_option maxHeartbeats 4000000
set_option linter.unusedVariables false
namespace Go.Am
noncomputable section
open Go Go.Proofs
def z003 (n : Int) (low : Int) (high : Int) : Option Bool := if decide (low ≤ n) = true then (some (decide (n ≤ high))) else (some false)
def z00k : Con := ⟨56, [.v .I false, .v .I false, .v .I false], [(.B, true)], [], fun x => z003 x.1 x.2.1 x.2.2.1⟩
def z0t1 : Fs := ⟨[], [], []⟩
theorem z0t3 : z0t1.Ok Try.prog := fs0
theorem z00v : z00k.Ok Try.prog := fn_ok (k := z00k) (fn := Try.f56) (W := []) (H := []) Try.func56 z0t3 trivial rfl rfl (fun av x => by kernel_rfl)
def z0ce  : Option Bool := some true
def z02y (data : List Int) (kx0_0 : Option Bool) : Nat → Int → Option Bool
  | 0, _ => none
  | n0 + 1, s0_0 => if decide (s0_0 < (data.length : Int)) = true then ((getI data s0_0).bind fun x3 => ((z003 x3 (-99) 99).bind fun x4 => (if x4 = true then (gd (ok64 (s0_0 + 1)) ((z02y data kx0_0 n0) (s0_0 + 1))) else (some false)))) else (kx0_0)
def z03b (data : List Int) : Option Bool := if decide ((data.length : Int) = 3) = true then (z02y data z0ce FUEL 0) else (some false)
def z010 : Con := ⟨55, [.v (.sl .I) false], [(.B, true)], [], fun x => z03b x.1⟩
def z0pz : Fs := ⟨[z00k], [], []⟩
theorem z0hg : z0pz.Ok Try.prog := (fsK z00v fs0)
def z0ev : Tmpl := ⟨[(0, .c (.s .I)), (3, .c .i)], []⟩
def z0cx : Tmpl := ⟨[], []⟩
def z0kt (av : AV) (x : HP z010.ps) (n : Nat) (v : z0ev.den) (K : Ks (CR z010)) : Option (CR z010) := z02y v.1.1 (z0cx.at none ((), ()) (K (.exit 0))) n v.1.2.1
def z0e5 (av : AV) (x : HP z010.ps) : Hdl (CR z010) := hnd [] z0ev (z0kt av x)
theorem z0m5 : LP z010 Try.f55 [0] z0e5 := lp_ok (W := []) (H := []) (xs := [z0cx]) z0hg trivial rfl (fun av x v K => by kernel_rfl) (fun av x n v K => by kernel_rfl)
theorem z06l : z010.Ok Try.prog := fn_ok (k := z010) (fn := Try.f55) (W := []) (H := [z0e5]) Try.func55 z0hg ⟨z0m5, trivial⟩ rfl rfl (fun av x => by kernel_rfl)
def z073 (data : List Int) (k : Int) (n : Int) : Option (List Int) := (z03b data).bind fun x1 => (if x1 = true then ((z003 k 0 2).bind fun x3 => (if x3 = true then ((z003 n (-99) 99).bind fun x5 => (if x5 = true then (gd (([] : List Int).length + data.length ≤ SMALL) ((getI (([] : List Int) ++ data) k).bind fun x8 => (some ((([] : List Int) ++ data).set k.toNat n)))) else (gd (([] : List Int).length + data.length ≤ SMALL) (some (([] : List Int) ++ data))))) else (gd (([] : List Int).length + data.length ≤ SMALL) (some (([] : List Int) ++ data))))) else (gd (([] : List Int).length + data.length ≤ SMALL) (some (([] : List Int) ++ data))))
def z0ak : Con := ⟨70, [.v (.sl .I) false, .v .I false, .v .I false], [((.sl .I), true)], [], fun x => z073 x.1 x.2.1 x.2.2.1⟩
def z0nq : Fs := ⟨[z010, z00k], [], []⟩
theorem z0o7 : z0nq.Ok Try.prog := (fsK z06l (fsK z00v fs0))
theorem z0os : z0ak.Ok Try.prog := fn_ok (k := z0ak) (fn := Try.f70) (W := []) (H := []) Try.func70 z0o7 trivial rfl rfl (fun av x => by kernel_rfl)
def z04p (e : GAsk) : Option Bool := if decide (e.op = 0) = true then (some (decide ([e.op, e.var, e.k] = [0, 0, 0]))) else ((z003 e.op 1 3).bind fun x2 => (if x2 = true then ((z003 e.var 0 2).bind fun x4 => (if x4 = true then ((z003 e.k (-99) 99).bind fun x6 => (some x6)) else (some false))) else (some false)))
def z08c : Con := ⟨133, [.v (.s .ask) false], [(.B, true)], [], fun x => z04p x.1⟩
def z0q0 : Fs := ⟨[z00k], [], []⟩
theorem z0qd : z0q0.Ok Try.prog := (fsK z00v fs0)
theorem z0ii : z08c.Ok Try.prog := fn_ok (k := z08c) (fn := Try.f133) (W := []) (H := []) Try.func133 z0qd trivial rfl rfl (fun av x => by kernel_rfl)
def z04z (e : GAsk) (data : List Int) : Option Bool := (z04p e).bind fun x1 => (if x1 = true then ((z03b data).bind fun x3 => (if x3 = true then (if decide (e.op = 1) = true then ((getI data e.var).bind fun x6 => (some (decide (x6 < e.k)))) else (if decide (e.op = 2) = true then ((getI data e.var).bind fun x8 => (some (decide (x8 = e.k)))) else (if decide (e.op = 3) = true then ((getI data e.var).bind fun x10 => (some (decide (e.k < x10)))) else (some true)))) else (some false))) else (some false))
def z07j : Con := ⟨136, [.v (.s .ask) false, .v (.sl .I) false], [(.B, true)], [], fun x => z04z x.1 x.2.1⟩
def z0jh : Fs := ⟨[z08c, z010], [], []⟩
theorem z0jo : z0jh.Ok Try.prog := (fsK z0ii (fsK z06l fs0))
theorem z0k1 : z07j.Ok Try.prog := fn_ok (k := z07j) (fn := Try.f136) (W := []) (H := []) Try.func136 z0jo trivial rfl rfl (fun av x => by kernel_rfl)
def z00z (n : Int) (low : Int) (high : Int) : Option Bool := if decide (low ≤ n) = true then (some (decide (n ≤ high))) else (some false)
def z037 : Con := ⟨67, [.v .I false, .v .I false, .v .I false], [(.B, true)], [], fun x => z00z x.1 x.2.1 x.2.2.1⟩
def z0ws : Fs := ⟨[], [], []⟩
theorem z0wx : z0ws.Ok Try.prog := fs0
theorem z03t : z037.Ok Try.prog := fn_ok (k := z037) (fn := Try.f67) (W := []) (H := []) Try.func67 z0wx trivial rfl rfl (fun av x => by kernel_rfl)
def z047 (n : Int) : Option Bool := (z00z n (-99) 99).bind fun x1 => (some x1)
def z05s : Con := ⟨64, [.v .I false], [(.B, true)], [], fun x => z047 x.1⟩
def z0l7 : Fs := ⟨[z037], [], []⟩
theorem z0ls : z0l7.Ok Try.prog := (fsK z03t fs0)
theorem z0ek : z05s.Ok Try.prog := fn_ok (k := z05s) (fn := Try.f64) (W := []) (H := []) Try.func64 z0ls trivial rfl rfl (fun av x => by kernel_rfl)
def z03a (list : List Int) : Option (List Int) := gd (([] : List Int).length + list.length ≤ SMALL) (some (([] : List Int) ++ list))
def z06b : Con := ⟨72, [.v (.sl .I) false], [((.sl .I), true)], [], fun x => z03a x.1⟩
def z0h3 : Fs := ⟨[], [], []⟩
theorem z0hd : z0h3.Ok Try.prog := fs0
theorem z0if : z06b.Ok Try.prog := fn_ok (k := z06b) (fn := Try.f72) (W := []) (H := []) Try.func72 z0hd trivial rfl rfl (fun av x => by kernel_rfl)
def z06h (e : GAsk) : Option Bool := if decide (e.op = 0) = true then (if decide (e.var = 0) = true then (some (decide (e.k = 0))) else (some false)) else ((z00z e.op 1 3).bind fun x3 => (if x3 = true then ((z00z e.var 0 2).bind fun x5 => (if x5 = true then ((z047 e.k).bind fun x7 => (some x7)) else (some false))) else (some false)))
def z0d9 : Con := ⟨83, [.v (.s .ask) false], [(.B, true)], [], fun x => z06h x.1⟩
def z0pu : Fs := ⟨[z037, z05s], [], []⟩
theorem z0qa : z0pu.Ok Try.prog := (fsK z03t (fsK z0ek fs0))
theorem z0qq : z0d9.Ok Try.prog := fn_ok (k := z0d9) (fn := Try.f83) (W := []) (H := []) Try.func83 z0qa trivial rfl rfl (fun av x => by kernel_rfl)
def z09b  : Option Bool := some true
def z01f (list : List Int) (low : Int) (high : Int) (kx0_0 : Option Bool) : Nat → Int → Option Bool
  | 0, _ => none
  | n0 + 1, s0_0 => if decide (s0_0 < (list.length : Int)) = true then ((getI list s0_0).bind fun x4 => ((z003 x4 low high).bind fun x5 => (if x5 = true then (if decide (0 < s0_0) = true then (gd (ok64 (s0_0 - 1)) ((getI list (s0_0 - 1)).bind fun x9 => ((getI list s0_0).bind fun x10 => (if decide (x10 ≤ x9) = true then (some false) else (gd (ok64 (s0_0 + 1)) ((z01f list low high kx0_0 n0) (s0_0 + 1))))))) else (gd (ok64 (s0_0 + 1)) ((z01f list low high kx0_0 n0) (s0_0 + 1)))) else (some false)))) else (kx0_0)
def z04c (list : List Int) (least : Int) (most : Int) (low : Int) (high : Int) : Option Bool := (z003 (list.length : Int) least most).bind fun x1 => (if x1 = true then (z01f list low high z09b FUEL 0) else (some false))
def z01o : Con := ⟨161, [.v (.sl .I) false, .v .I false, .v .I false, .v .I false, .v .I false], [(.B, true)], [], fun x => z04c x.1 x.2.1 x.2.2.1 x.2.2.2.1 x.2.2.2.2.1⟩
def z0ll : Fs := ⟨[z00k], [], []⟩
theorem z0e1 : z0ll.Ok Try.prog := (fsK z00v fs0)
def z0bc : Tmpl := ⟨[(0, .c (.s .I)), (3, .c .i), (4, .c .i), (11, .c .i)], []⟩
def z09u : Tmpl := ⟨[], []⟩
def z0gx (av : AV) (x : HP z01o.ps) (n : Nat) (v : z0bc.den) (K : Ks (CR z01o)) : Option (CR z01o) := z01f v.1.1 v.1.2.1 v.1.2.2.1 (z09u.at none ((), ()) (K (.exit 0))) n v.1.2.2.2.1
def z0af (av : AV) (x : HP z01o.ps) : Hdl (CR z01o) := hnd [] z0bc (z0gx av x)
theorem z0i7 : LP z01o Try.f161 [0] z0af := lp_ok (W := []) (H := []) (xs := [z09u]) z0e1 trivial rfl (fun av x v K => by kernel_rfl) (fun av x n v K => by kernel_rfl)
theorem z0mt : z01o.Ok Try.prog := fn_ok (k := z01o) (fn := Try.f161) (W := []) (H := [z0af]) Try.func161 z0e1 ⟨z0i7, trivial⟩ rfl rfl (fun av x => by kernel_rfl)
def z0ci  : Option Bool := some false
def z032 (list : List Int) (n : Int) (kx0_0 : Option Bool) : Nat → Int → Option Bool
  | 0, _ => none
  | n0 + 1, s0_0 => if decide (s0_0 < (list.length : Int)) = true then ((getI list s0_0).bind fun x2 => (if decide (x2 = n) = true then (some true) else (gd (ok64 (s0_0 + 1)) ((z032 list n kx0_0 n0) (s0_0 + 1))))) else (kx0_0)
def z04q (list : List Int) (n : Int) : Option Bool := z032 list n z0ci FUEL 0
def z01y : Con := ⟨146, [.v (.sl .I) false, .v .I false], [(.B, true)], [], fun x => z04q x.1 x.2.1⟩
def z0q5 : Fs := ⟨[], [], []⟩
theorem z0ho : z0q5.Ok Try.prog := fs0
def z0f0 : Tmpl := ⟨[(0, .c (.s .I)), (1, .c .i), (5, .c .i)], []⟩
def z0d1 : Tmpl := ⟨[], []⟩
def z0ky (av : AV) (x : HP z01y.ps) (n : Nat) (v : z0f0.den) (K : Ks (CR z01y)) : Option (CR z01y) := z032 v.1.1 v.1.2.1 (z0d1.at none ((), ()) (K (.exit 0))) n v.1.2.2.1
def z0ea (av : AV) (x : HP z01y.ps) : Hdl (CR z01y) := hnd [] z0f0 (z0ky av x)
theorem z0ma : LP z01y Try.f146 [0] z0ea := lp_ok (W := []) (H := []) (xs := [z0d1]) z0ho trivial rfl (fun av x v K => by kernel_rfl) (fun av x n v K => by kernel_rfl)
theorem z0dj : z01y.Ok Try.prog := fn_ok (k := z01y) (fn := Try.f146) (W := []) (H := [z0ea]) Try.func146 z0ho ⟨z0ma, trivial⟩ rfl rfl (fun av x => by kernel_rfl)
def z098 (s0_0 : Int) (bk0 : Int → Option Bool) : Option Bool := gd (ok64 (s0_0 + 1)) (bk0 (s0_0 + 1))
def z00y (t : GTask) (s0_0 : Int) (x4 : GFlow) (kx1_0 : Option Bool) : Nat → Int → Option Bool
  | 0, _ => none
  | n1 + 1, s1_0 => if decide (s1_0 < s0_0) = true then ((getI t.out s1_0).bind fun x14 => (if decide (x14.to = x4.to) = true then (some false) else (gd (ok64 (s1_0 + 1)) ((z00y t s0_0 x4 kx1_0 n1) (s1_0 + 1))))) else (kx1_0)
def z099 (s0_0 : Int) (bk0 : Int → Option Bool) : Option Bool := gd (ok64 (s0_0 + 1)) (bk0 (s0_0 + 1))
def z09a  : Option Bool := some true
def z01e (t : GTask) (places : Int) (kx0_0 : Option Bool) : Nat → Int → Option Bool
  | 0, _ => none
  | n0 + 1, s0_0 => if decide (s0_0 < (t.out.length : Int)) = true then ((getI t.out s0_0).bind fun x4 => (gd (ok64 ((t.out.length : Int) - 1)) (if decide (s0_0 = ((t.out.length : Int) - 1)) = true then (gd (ok64 (places - 1)) ((z003 x4.to 1 (places - 1)).bind fun x8 => (if x8 = true then ((z04p x4.if_).bind fun x10 => (if x10 = true then (if (true == (decide (x4.if_.op = 0))) = true then (z00y t s0_0 x4 (z098 s0_0 (z01e t places kx0_0 n0)) FUEL 0) else (some false)) else (some false))) else (some false)))) else (gd (ok64 (places - 1)) ((z003 x4.to 1 (places - 1)).bind fun x19 => (if x19 = true then ((z04p x4.if_).bind fun x21 => (if x21 = true then (if ((decide (t.split = 1)) == (decide (x4.if_.op = 0))) = true then (z00y t s0_0 x4 (z099 s0_0 (z01e t places kx0_0 n0)) FUEL 0) else (some false)) else (some false))) else (some false))))))) else (kx0_0)
def z062 (t : GTask) (places : Int) : Option Bool := (z003 (t.out.length : Int) 1 3).bind fun x1 => (if x1 = true then (z01e t places z09a FUEL 0) else (some false))
def z00d : Con := ⟨162, [.v (.s .task) false, .v .I false], [(.B, true)], [], fun x => z062 x.1 x.2.1⟩
def z0lk : Fs := ⟨[z00k, z08c], [], []⟩
theorem z084 : z0lk.Ok Try.prog := (fsK z00v (fsK z0ii fs0))
def z07s : Tmpl := ⟨[(1, .c .i), (2, .c (.bx 2 0)), (5, .c .i), (6, .c (.bx 6 0)), (8, .c .i)], [(2, .boxT (.s .task)), (6, .boxT (.s .flow))]⟩
def z07h : Tmpl := ⟨[(1, .c .i), (2, .c (.bx 2 0)), (5, .c .i)], [(2, .boxT (.s .task))]⟩
def z0f2 (av : AV) (x : HP z00d.ps) (n : Nat) (v : z07s.den) (K : Ks (CR z00d)) : Option (CR z00d) := z00y v.2.1 v.1.2.2.1 v.2.2.1 (z07h.at none ((v.1.1, (), v.1.2.2.1, ()), (v.2.1, ())) (K (.exit 2))) n v.1.2.2.2.2.1
def z07o (av : AV) (x : HP z00d.ps) : Hdl (CR z00d) := hnd [] z07s (z0f2 av x)
theorem z0f8 : LP z00d Try.f162 [0, 0] z07o := lp_ok (W := []) (H := []) (xs := [z07h]) z084 trivial rfl (fun av x v K => by kernel_rfl) (fun av x n v K => by kernel_rfl)
def z0bb : Tmpl := ⟨[(1, .c .i), (2, .c (.bx 2 0)), (5, .c .i)], [(2, .boxT (.s .task))]⟩
def z09t : Tmpl := ⟨[], []⟩
def z0gw (av : AV) (x : HP z00d.ps) (n : Nat) (v : z0bb.den) (K : Ks (CR z00d)) : Option (CR z00d) := z01e v.2.1 v.1.1 (z09t.at none ((), ()) (K (.exit 0))) n v.1.2.2.1
def z0ae (av : AV) (x : HP z00d.ps) : Hdl (CR z00d) := hnd [] z0bb (z0gw av x)
theorem z0i6 : LP z00d Try.f162 [0] z0ae := lp_ok (W := []) (H := [z07o]) (xs := [z09t]) z084 ⟨z0f8, trivial⟩ rfl (fun av x v K => by kernel_rfl) (fun av x n v K => by kernel_rfl)
theorem z0ms : z00d.Ok Try.prog := fn_ok (k := z00d) (fn := Try.f162) (W := []) (H := [z0ae]) Try.func162 z084 ⟨z0i6, trivial⟩ rfl rfl (fun av x => by kernel_rfl)
def z077 (t : GTask) (places : Int) (tasks : Int) : Option Bool := (z003 t.join 1 3).bind fun x1 => (if x1 = true then ((z003 t.split 1 3).bind fun x3 => (if x3 = true then (gd (ok64 (places - 1)) ((z04c t.in_ 1 3 0 (places - 1)).bind fun x6 => (if x6 = true then ((z04q t.in_ 1).bind fun x8 => (if x8 = true then (some false) else ((z062 t places).bind fun x10 => (if x10 = true then (gd (ok64 (places - 1)) ((z04c t.clear 0 places 2 (places - 1)).bind fun x13 => (if x13 = true then ((z003 t.role 1 3).bind fun x15 => (if x15 = true then (gd (ok64 (tasks - 1)) ((z003 t.apart (-1) (tasks - 1)).bind fun x18 => (if x18 = true then ((z003 t.all 1 3).bind fun x20 => (if x20 = true then ((z003 t.need 1 t.all).bind fun x22 => (some x22)) else (some false))) else (some false)))) else (some false))) else (some false)))) else (some false))))) else (some false)))) else (some false))) else (some false))
def z0am : Con := ⟨140, [.v (.s .task) false, .v .I false, .v .I false], [(.B, true)], [], fun x => z077 x.1 x.2.1 x.2.2.1⟩
def z0nx : Fs := ⟨[z00k, z01o, z01y, z00d], [], []⟩
theorem z0ob : z0nx.Ok Try.prog := (fsK z00v (fsK z0mt (fsK z0dj (fsK z0ms fs0))))
theorem z0ow : z0am.Ok Try.prog := fn_ok (k := z0am) (fn := Try.f140) (W := []) (H := []) Try.func140 z0ob trivial rfl rfl (fun av x => by kernel_rfl)
def z0cg  : Option Bool := some true
def z030 (n : GNet) (kx0_0 : Option Bool) : Nat → Int → Option Bool
  | 0, _ => none
  | n0 + 1, s0_0 => if decide (s0_0 < (n.tasks.length : Int)) = true then ((getI n.tasks s0_0).bind fun x6 => ((z077 x6 n.places (n.tasks.length : Int)).bind fun x7 => (if x7 = true then (gd (ok64 (s0_0 + 1)) ((z030 n kx0_0 n0) (s0_0 + 1))) else (some false)))) else (kx0_0)
def z01z (n : GNet) : Option Bool := (z003 n.places 2 8).bind fun x1 => (if x1 = true then ((z003 (n.tasks.length : Int) 1 6).bind fun x3 => (if x3 = true then (z030 n z0cg FUEL 0) else (some false))) else (some false))
def z01a : Con := ⟨105, [.v (.s .net) false], [(.B, true)], [], fun x => z01z x.1⟩
def z0q2 : Fs := ⟨[z00k, z0am], [], []⟩
theorem z0hj : z0q2.Ok Try.prog := (fsK z00v (fsK z0ow fs0))
def z0ex : Tmpl := ⟨[(1, .c (.bx 1 0)), (3, .c .i)], [(1, .boxT (.s .net))]⟩
def z0cz : Tmpl := ⟨[], []⟩
def z0kv (av : AV) (x : HP z01a.ps) (n : Nat) (v : z0ex.den) (K : Ks (CR z01a)) : Option (CR z01a) := z030 v.2.1 (z0cz.at none ((), ()) (K (.exit 0))) n v.1.2.1
def z0e7 (av : AV) (x : HP z01a.ps) : Hdl (CR z01a) := hnd [] z0ex (z0kv av x)
theorem z0m7 : LP z01a Try.f105 [0] z0e7 := lp_ok (W := []) (H := []) (xs := [z0cz]) z0hj trivial rfl (fun av x v K => by kernel_rfl) (fun av x n v K => by kernel_rfl)
theorem z08o : z01a.Ok Try.prog := fn_ok (k := z01a) (fn := Try.f105) (W := []) (H := [z0e7]) Try.func105 z0hj ⟨z0m7, trivial⟩ rfl rfl (fun av x => by kernel_rfl)
def z04r (s1_0 : Int) (bk1 : Int → List Bool → Option (List Bool)) (l3_1 : List Bool) : Option (List Bool) := gd (ok64 (s1_0 + 1)) (bk1 (s1_0 + 1) l3_1)
def z04s (s1_0 : Int) (bk1 : Int → List Bool → Option (List Bool)) (l3_1 : List Bool) : Option (List Bool) := gd (ok64 (s1_0 + 1)) (bk1 (s1_0 + 1) l3_1)
def z04t (s1_0 : Int) (bk1 : Int → List Bool → Option (List Bool)) (l3_1 : List Bool) : Option (List Bool) := gd (ok64 (s1_0 + 1)) (bk1 (s1_0 + 1) l3_1)
def z00m (n : GNet) (but : Int) (s1_0 : Int) (s2_0 : Bool) (kx3_0 : List Bool → Option (List Bool)) (kx3_1 : List Bool → Option (List Bool)) (kx3_2 : List Bool → Option (List Bool)) : Nat → Int → List Bool → Option (List Bool)
  | 0, _, _ => none
  | n3 + 1, s3_0, l3_1 => (getI n.tasks s1_0).bind fun x12 => (if decide (s3_0 < (x12.out.length : Int)) = true then (if s2_0 = true then (if decide (s1_0 = but) = true then (kx3_0 l3_1) else ((getI n.tasks s1_0).bind fun x17 => ((getI x17.out s3_0).bind fun x18 => ((getI l3_1 x18.to).bind fun x19 => (gd (ok64 (s3_0 + 1)) ((z00m n but s1_0 s2_0 kx3_0 kx3_1 kx3_2 n3) (s3_0 + 1) (l3_1.set x18.to.toNat true))))))) else (kx3_1 l3_1)) else (kx3_2 l3_1))
def z07p (n : GNet) (but : Int) (s1_0 : Int) (l1_1 : List Bool) (bk1 : Int → List Bool → Option (List Bool)) (s2_0 : Bool) : Option (List Bool) := z00m n but s1_0 s2_0 (z04r s1_0 bk1) (z04s s1_0 bk1) (z04t s1_0 bk1) FUEL 0 l1_1
def z00r (n : GNet) (s1_0 : Int) (l1_1 : List Bool) (kx2_0 : Bool → Option (List Bool)) : Nat → Bool → Int → Option (List Bool)
  | 0, _, _ => none
  | n2 + 1, s2_0, s2_1 => (getI n.tasks s1_0).bind fun x4 => (if decide (s2_1 < (x4.in_.length : Int)) = true then (if s2_0 = true then (gd (ok64 (s2_1 + 1)) ((z00r n s1_0 l1_1 kx2_0 n2) true (s2_1 + 1))) else ((getI n.tasks s1_0).bind fun x8 => ((getI x8.in_ s2_1).bind fun x9 => ((getI l1_1 x9).bind fun x10 => (gd (ok64 (s2_1 + 1)) ((z00r n s1_0 l1_1 kx2_0 n2) x10 (s2_1 + 1))))))) else (kx2_0 s2_0))
def z07q (s0_0 : Int) (bk0 : Int → List Bool → Option (List Bool)) (l1_1 : List Bool) : Option (List Bool) := gd (ok64 (s0_0 + 1)) (bk0 (s0_0 + 1) l1_1)
def z006 (n : GNet) (but : Int) (kx1_0 : List Bool → Option (List Bool)) : Nat → Int → List Bool → Option (List Bool)
  | 0, _, _ => none
  | n1 + 1, s1_0, l1_1 => if decide (s1_0 < (n.tasks.length : Int)) = true then (z00r n s1_0 l1_1 (z07p n but s1_0 l1_1 (z006 n but kx1_0 n1)) FUEL false 0) else (kx1_0 l1_1)
def z07r (l0_1 : List Bool) : Option (List Bool) := some l0_1
def z01s (n : GNet) (but : Int) (kx0_0 : List Bool → Option (List Bool)) : Nat → Int → List Bool → Option (List Bool)
  | 0, _, _ => none
  | n0 + 1, s0_0, l0_1 => if decide (s0_0 < n.places) = true then (z006 n but (z07q s0_0 (z01s n but kx0_0 n0)) FUEL 0 l0_1) else (kx0_0 l0_1)
def z055 (n : GNet) (marked : List Bool) (but : Int) : Option (List Bool) := gd (([] : List Bool).length + marked.length ≤ SMALL) (z01s n but z07r FUEL 0 (([] : List Bool) ++ marked))
def z001 : Con := ⟨173, [.v (.s .net) false, .v (.sl .B) false, .v .I false], [((.sl .B), true)], [], fun x => z055 x.1 x.2.1 x.2.2.1⟩
def z0jk : Fs := ⟨[], [], []⟩
theorem z03g : z0jk.Ok Try.prog := fs0
def z05o : Tmpl := ⟨[(2, .c .i), (3, .c (.bx 3 0)), (7, .c (.ref 15)), (8, .c .i), (9, .c .i), (10, .c .b), (11, .c .i)], [(3, .boxT (.s .net)), (15, .arr .B true)]⟩
def z05f : Tmpl := ⟨[(2, .c .i), (3, .c (.bx 3 0)), (7, .c (.ref 15)), (8, .c .i), (9, .c .i), (10, .c .b)], [(3, .boxT (.s .net)), (15, .arr .B true)]⟩
def z0br (av : AV) (x : HP z001.ps) (n : Nat) (v : z05o.den) (K : Ks (CR z001)) : Option (CR z001) := z00r v.2.1 v.1.2.2.2.2.1 v.2.2.1 (fun s2_0 => z05f.at none ((v.1.1, (), (), v.1.2.2.2.1, v.1.2.2.2.2.1, s2_0, ()), (v.2.1, v.2.2.1, ())) (K (.exit 4))) n v.1.2.2.2.2.2.1 v.1.2.2.2.2.2.2.1
def z05k (av : AV) (x : HP z001.ps) : Hdl (CR z001) := hnd [] z05o (z0br av x)
theorem z0bx : LP z001 Try.f173 [0, 0, 0] z05k := lp_ok (W := []) (H := []) (xs := [z05f]) z03g trivial rfl (fun av x v K => by kernel_rfl) (fun av x n v K => by kernel_rfl)
def z05p : Tmpl := ⟨[(2, .c .i), (3, .c (.bx 3 0)), (7, .c (.ref 15)), (8, .c .i), (9, .c .i), (10, .c .b), (12, .c .i)], [(3, .boxT (.s .net)), (15, .arr .B true)]⟩
def z02b : Tmpl := ⟨[(2, .c .i), (3, .c (.bx 3 0)), (7, .c (.ref 15)), (8, .c .i), (9, .c .i)], [(3, .boxT (.s .net)), (15, .arr .B true)]⟩
def z0bs (av : AV) (x : HP z001.ps) (n : Nat) (v : z05p.den) (K : Ks (CR z001)) : Option (CR z001) := z00m v.2.1 v.1.1 v.1.2.2.2.2.1 v.1.2.2.2.2.2.1 (fun l3_1 => z02b.at none ((v.1.1, (), (), v.1.2.2.2.1, v.1.2.2.2.2.1, ()), (v.2.1, l3_1, ())) (K (.exit 6))) (fun l3_1 => z02b.at none ((v.1.1, (), (), v.1.2.2.2.1, v.1.2.2.2.2.1, ()), (v.2.1, l3_1, ())) (K (.exit 6))) (fun l3_1 => z02b.at none ((v.1.1, (), (), v.1.2.2.2.1, v.1.2.2.2.2.1, ()), (v.2.1, l3_1, ())) (K (.exit 6))) n v.1.2.2.2.2.2.2.1 v.2.2.1
def z05l (av : AV) (x : HP z001.ps) : Hdl (CR z001) := hnd [] z05p (z0bs av x)
theorem z0by : LP z001 Try.f173 [0, 0, 1] z05l := lp_ok (W := []) (H := []) (xs := [z02b]) z03g trivial rfl (fun av x v K => by kernel_rfl) (fun av x n v K => by kernel_rfl)
def z07f : Tmpl := ⟨[(2, .c .i), (3, .c (.bx 3 0)), (7, .c (.ref 15)), (8, .c .i), (9, .c .i)], [(3, .boxT (.s .net)), (15, .arr .B true)]⟩
def z06p : Tmpl := ⟨[(2, .c .i), (3, .c (.bx 3 0)), (7, .c (.ref 15)), (8, .c .i)], [(3, .boxT (.s .net)), (15, .arr .B true)]⟩
def z0do (av : AV) (x : HP z001.ps) (n : Nat) (v : z07f.den) (K : Ks (CR z001)) : Option (CR z001) := z006 v.2.1 v.1.1 (fun l1_1 => z06p.at none ((v.1.1, (), (), v.1.2.2.2.1, ()), (v.2.1, l1_1, ())) (K (.exit 2))) n v.1.2.2.2.2.1 v.2.2.1
def z06t (av : AV) (x : HP z001.ps) : Hdl (CR z001) := hnd [] z07f (z0do av x)
theorem z0eg : LP z001 Try.f173 [0, 0] z06t := lp_ok (W := []) (H := [z05k, z05l]) (xs := [z06p]) z03g ⟨z0bx, z0by, trivial⟩ rfl (fun av x v K => by kernel_rfl) (fun av x n v K => by kernel_rfl)
def z09h : Tmpl := ⟨[(2, .c .i), (3, .c (.bx 3 0)), (7, .c (.ref 15)), (8, .c .i)], [(3, .boxT (.s .net)), (15, .arr .B true)]⟩
def z07x : Tmpl := ⟨[(7, .c (.ref 15))], [(15, .arr .B true)]⟩
def z0fz (av : AV) (x : HP z001.ps) (n : Nat) (v : z09h.den) (K : Ks (CR z001)) : Option (CR z001) := z01s v.2.1 v.1.1 (fun l0_1 => z07x.at none (((), ()), (l0_1, ())) (K (.exit 0))) n v.1.2.2.2.1 v.2.2.1
def z08z (av : AV) (x : HP z001.ps) : Hdl (CR z001) := hnd [] z09h (z0fz av x)
theorem z0ga : LP z001 Try.f173 [0] z08z := lp_ok (W := []) (H := [z06t]) (xs := [z07x]) z03g ⟨z0eg, trivial⟩ rfl (fun av x v K => by kernel_rfl) (fun av x n v K => by kernel_rfl)
theorem z0k4 : z001.Ok Try.prog := fn_ok (k := z001) (fn := Try.f173) (W := []) (H := [z08z]) Try.func173 z03g ⟨z0ga, trivial⟩ rfl rfl (fun av x => by kernel_rfl)
def z06z (kind : Int) : Option Bool := (z00z kind 1 3).bind fun x1 => (some x1)
def z0ag : Con := ⟨142, [.v .I false], [(.B, true)], [], fun x => z06z x.1⟩
def z0nk : Fs := ⟨[z037], [], []⟩
theorem z0o3 : z0nk.Ok Try.prog := (fsK z03t fs0)
theorem z0om : z0ag.Ok Try.prog := fn_ok (k := z0ag) (fn := Try.f142) (W := []) (H := []) Try.func142 z0o3 trivial rfl rfl (fun av x => by kernel_rfl)
def z0ar (role : Int) : Option Bool := (z00z role 1 3).bind fun x1 => (some x1)
def z0ah : Con := ⟨145, [.v .I false], [(.B, true)], [], fun x => z0ar x.1⟩
def z0nl : Fs := ⟨[z037], [], []⟩
theorem z0o4 : z0nl.Ok Try.prog := (fsK z03t fs0)
theorem z0on : z0ah.Ok Try.prog := fn_ok (k := z0ah) (fn := Try.f145) (W := []) (H := []) Try.func145 z0o4 trivial rfl rfl (fun av x => by kernel_rfl)
def z08i (places : Int) (tasks : Int) : Option Bool := (z00z places 2 8).bind fun x1 => (if x1 = true then ((z00z tasks 1 6).bind fun x3 => (some x3)) else (some false))
def z08a : Con := ⟨106, [.v .I false, .v .I false], [(.B, true)], [], fun x => z08i x.1 x.2.1⟩
def z0l9 : Fs := ⟨[z037], [], []⟩
theorem z0lu : z0l9.Ok Try.prog := (fsK z03t fs0)
theorem z0mh : z08a.Ok Try.prog := fn_ok (k := z08a) (fn := Try.f106) (W := []) (H := []) Try.func106 z0lu trivial rfl rfl (fun av x => by kernel_rfl)
def z01h (n : GNet) (t : Int) : Option Bool := gd (ok64 ((n.tasks.length : Int) - 1)) ((z00z t 0 ((n.tasks.length : Int) - 1)).bind fun x2 => (some x2))
def z02e : Con := ⟨51, [.v (.s .net) false, .v .I false], [(.B, true)], [], fun x => z01h x.1 x.2.1⟩
def z0bt : Fs := ⟨[z037], [], []⟩
theorem z0bv : z0bt.Ok Try.prog := (fsK z03t fs0)
theorem z05n : z02e.Ok Try.prog := fn_ok (k := z02e) (fn := Try.f51) (W := []) (H := []) Try.func51 z0bv trivial rfl rfl (fun av x => by kernel_rfl)
def z0cf  : Option Bool := some true
def z02z (marks : List Int) (kx0_0 : Option Bool) : Nat → Int → Option Bool
  | 0, _ => none
  | n0 + 1, s0_0 => if decide (s0_0 < (marks.length : Int)) = true then ((getI marks s0_0).bind fun x5 => ((z003 x5 0 4).bind fun x6 => (if x6 = true then (gd (ok64 (s0_0 + 1)) ((z02z marks kx0_0 n0) (s0_0 + 1))) else (some false)))) else (kx0_0)
def z03x (n : GNet) (marks : List Int) : Option Bool := (z01z n).bind fun x1 => (if x1 = true then (if decide ((marks.length : Int) = n.places) = true then (z02z marks z0cf FUEL 0) else (some false)) else (some false))
def z019 : Con := ⟨53, [.v (.s .net) false, .v (.sl .I) false], [(.B, true)], [], fun x => z03x x.1 x.2.1⟩
def z0q1 : Fs := ⟨[z01a, z00k], [], []⟩
theorem z0hi : z0q1.Ok Try.prog := (fsK z08o (fsK z00v fs0))
def z0ew : Tmpl := ⟨[(1, .c (.s .I)), (5, .c .i)], []⟩
def z0cy : Tmpl := ⟨[], []⟩
def z0ku (av : AV) (x : HP z019.ps) (n : Nat) (v : z0ew.den) (K : Ks (CR z019)) : Option (CR z019) := z02z v.1.1 (z0cy.at none ((), ()) (K (.exit 0))) n v.1.2.1
def z0e6 (av : AV) (x : HP z019.ps) : Hdl (CR z019) := hnd [] z0ew (z0ku av x)
theorem z0m6 : LP z019 Try.f53 [0] z0e6 := lp_ok (W := []) (H := []) (xs := [z0cy]) z0hi trivial rfl (fun av x v K => by kernel_rfl) (fun av x n v K => by kernel_rfl)
theorem z08n : z019.Ok Try.prog := fn_ok (k := z019) (fn := Try.f53) (W := []) (H := [z0e6]) Try.func53 z0hi ⟨z0m6, trivial⟩ rfl rfl (fun av x => by kernel_rfl)
def z04d (s0_0 : Bool) (s0_1 : Bool) : Option (Bool × Bool) := some (s0_0, s0_1)
def z00p (marks : List Int) (list : List Int) (kx0_0 : Bool → Bool → Option (Bool × Bool)) : Nat → Bool → Bool → Int → Option (Bool × Bool)
  | 0, _, _, _ => none
  | n0 + 1, s0_0, s0_1, s0_2 => if decide (s0_2 < (list.length : Int)) = true then (if s0_0 = true then (if s0_1 = true then ((getI list s0_2).bind fun x4 => ((getI marks x4).bind fun x5 => (gd (ok64 (s0_2 + 1)) ((z00p marks list kx0_0 n0) true (decide (0 < x5)) (s0_2 + 1))))) else (gd (ok64 (s0_2 + 1)) ((z00p marks list kx0_0 n0) true false (s0_2 + 1)))) else ((getI list s0_2).bind fun x8 => ((getI marks x8).bind fun x9 => (if s0_1 = true then ((getI list s0_2).bind fun x11 => ((getI marks x11).bind fun x12 => (gd (ok64 (s0_2 + 1)) ((z00p marks list kx0_0 n0) (decide (0 < x9)) (decide (0 < x12)) (s0_2 + 1))))) else (gd (ok64 (s0_2 + 1)) ((z00p marks list kx0_0 n0) (decide (0 < x9)) false (s0_2 + 1))))))) else (kx0_0 s0_0 s0_1)
def z078 (marks : List Int) (list : List Int) : Option (Bool × Bool) := z00p marks list z04d FUEL false true 0
def z029 : Con := ⟨167, [.v (.sl .I) false, .v (.sl .I) false], [(.B, true), (.B, true)], [], fun x => z078 x.1 x.2.1⟩
def z0nz : Fs := ⟨[], [], []⟩
theorem z0fi : z0nz.Ok Try.prog := fs0
def z0ct : Tmpl := ⟨[(0, .c (.s .I)), (1, .c (.s .I)), (6, .c .b), (7, .c .b), (8, .c .i)], []⟩
def z0bk : Tmpl := ⟨[(6, .c .b), (7, .c .b)], []⟩
def z0jc (av : AV) (x : HP z029.ps) (n : Nat) (v : z0ct.den) (K : Ks (CR z029)) : Option (CR z029) := z00p v.1.1 v.1.2.1 (fun s0_0 s0_1 => z0bk.at none ((s0_0, s0_1, ()), ()) (K (.exit 0))) n v.1.2.2.1 v.1.2.2.2.1 v.1.2.2.2.2.1
def z0cb (av : AV) (x : HP z029.ps) : Hdl (CR z029) := hnd [] z0ct (z0jc av x)
theorem z0jw : LP z029 Try.f167 [0] z0cb := lp_ok (W := []) (H := []) (xs := [z0bk]) z0fi trivial rfl (fun av x v K => by kernel_rfl) (fun av x n v K => by kernel_rfl)
theorem z0ox : z029.Ok Try.prog := fn_ok (k := z029) (fn := Try.f167) (W := []) (H := [z0cb]) Try.func167 z0fi ⟨z0jw, trivial⟩ rfl rfl (fun av x => by kernel_rfl)
def z01u (s1_0 : Int) (bk1 : Int → List Bool → Option Bool) (l2_1 : List Bool) : Option Bool := gd (ok64 (s1_0 + 1)) (bk1 (s1_0 + 1) l2_1)
def z013 (p2_0 : List GFlow) (kx2_0 : List Bool → Option Bool) : Nat → Int → List Bool → Option Bool
  | 0, _, _ => none
  | n2 + 1, s2_0, l2_1 => if decide (s2_0 < (p2_0.length : Int)) = true then ((getI p2_0 s2_0).bind fun x15 => ((getI l2_1 x15.to).bind fun x16 => (gd (ok64 (s2_0 + 1)) ((z013 p2_0 kx2_0 n2) (s2_0 + 1) (l2_1.set x15.to.toNat true))))) else (kx2_0 l2_1)
def z04u  : Option Bool := some false
def z00u (n : GNet) (marks : List Int) (t : Int) (x19 : (List Bool)) (kx3_0 : Option Bool) : Nat → Int → Option Bool
  | 0, _ => none
  | n3 + 1, s3_0 => (getI n.tasks t).bind fun x20 => (if decide (s3_0 < (x20.in_.length : Int)) = true then ((getI n.tasks t).bind fun x22 => ((getI x22.in_ s3_0).bind fun x23 => ((getI marks x23).bind fun x24 => (if decide (x24 = 0) = true then ((getI n.tasks t).bind fun x26 => ((getI x26.in_ s3_0).bind fun x27 => ((getI x19 x27).bind fun x28 => (if x28 = true then (some true) else (gd (ok64 (s3_0 + 1)) ((z00u n marks t x19 kx3_0 n3) (s3_0 + 1))))))) else (gd (ok64 (s3_0 + 1)) ((z00u n marks t x19 kx3_0 n3) (s3_0 + 1))))))) else (kx3_0))
def z00s (n : GNet) (marks : List Int) (t : Int) (l1_1 : List Bool) : Option Bool := (z055 n l1_1 t).bind fun x19 => (z00u n marks t x19 z04u FUEL 0)
def z00e (n : GNet) (busy : List GItem) (kx1_0 : List Bool → Option Bool) : Nat → Int → List Bool → Option Bool
  | 0, _, _ => none
  | n1 + 1, s1_0, l1_1 => if decide (s1_0 < (busy.length : Int)) = true then ((getI busy s1_0).bind fun x12 => ((getI n.tasks x12.task).bind fun x13 => (z013 x13.out (z01u s1_0 (z00e n busy kx1_0 n1)) FUEL 0 l1_1))) else (kx1_0 l1_1)
def z01t (n : GNet) (marks : List Int) (busy : List GItem) (t : Int) (l0_1 : List Bool) : Option Bool := z00e n busy (z00s n marks t) FUEL 0 l0_1
def z00t (n : GNet) (marks : List Int) (t : Int) (kx0_0 : List Bool → Option Bool) : Nat → Int → List Bool → Option Bool
  | 0, _, _ => none
  | n0 + 1, s0_0, l0_1 => if decide (s0_0 < n.places) = true then ((getI marks s0_0).bind fun x3 => (if decide (0 < x3) = true then ((getI n.tasks t).bind fun x5 => ((z04q x5.in_ s0_0).bind fun x6 => ((getI l0_1 s0_0).bind fun x7 => (gd (ok64 (s0_0 + 1)) ((z00t n marks t kx0_0 n0) (s0_0 + 1) (l0_1.set s0_0.toNat (!x6))))))) else ((getI l0_1 s0_0).bind fun x9 => (gd (ok64 (s0_0 + 1)) ((z00t n marks t kx0_0 n0) (s0_0 + 1) (l0_1.set s0_0.toNat false)))))) else (kx0_0 l0_1)
def z056 (n : GNet) (marks : List Int) (busy : List GItem) (t : Int) : Option Bool := gd ((0 : Int) ≤ n.places ∧ n.places ≤ (1000000000 : Int)) (z00t n marks t (z01t n marks busy t) FUEL 0 (List.replicate n.places.toNat false))
def z002 : Con := ⟨168, [.v (.s .net) false, .v (.sl .I) false, .v (.sl (.s .item)) false, .v .I false], [(.B, true)], [], fun x => z056 x.1 x.2.1 x.2.2.1 x.2.2.2.1⟩
def z0jl : Fs := ⟨[z01y, z001], [], []⟩
theorem z03h : z0jl.Ok Try.prog := (fsK z0dj (fsK z0k4 fs0))
def z07g : Tmpl := ⟨[(1, .c (.s .I)), (2, .c (.s (.s .item))), (3, .c .i), (4, .c (.bx 4 0)), (9, .c (.ref 18)), (11, .c .i), (12, .c (.s (.s .flow))), (13, .c .i)], [(4, .boxT (.s .net)), (18, .arr .B true)]⟩
def z06q : Tmpl := ⟨[(1, .c (.s .I)), (2, .c (.s (.s .item))), (3, .c .i), (4, .c (.bx 4 0)), (9, .c (.ref 18)), (11, .c .i)], [(4, .boxT (.s .net)), (18, .arr .B true)]⟩
def z0dp (av : AV) (x : HP z002.ps) (n : Nat) (v : z07g.den) (K : Ks (CR z002)) : Option (CR z002) := z013 v.1.2.2.2.2.2.2.1 (fun l2_1 => z06q.at none ((v.1.1, v.1.2.1, v.1.2.2.1, (), (), v.1.2.2.2.2.2.1, ()), (v.2.1, l2_1, ())) (K (.exit 4))) n v.1.2.2.2.2.2.2.2.1 v.2.2.1
def z06u (av : AV) (x : HP z002.ps) : Hdl (CR z002) := hnd [] z07g (z0dp av x)
theorem z0eh : LP z002 Try.f168 [1, 0] z06u := lp_ok (W := []) (H := []) (xs := [z06q]) z03h trivial rfl (fun av x v K => by kernel_rfl) (fun av x n v K => by kernel_rfl)
def z09i : Tmpl := ⟨[(1, .c (.s .I)), (2, .c (.s (.s .item))), (3, .c .i), (4, .c (.bx 4 0)), (9, .c (.ref 18)), (10, .c .i)], [(4, .boxT (.s .net)), (18, .arr .B true)]⟩
def z07y : Tmpl := ⟨[(1, .c (.s .I)), (2, .c (.s (.s .item))), (3, .c .i), (4, .c (.bx 4 0)), (9, .c (.ref 18))], [(4, .boxT (.s .net)), (18, .arr .B true)]⟩
def z0g0 (av : AV) (x : HP z002.ps) (n : Nat) (v : z09i.den) (K : Ks (CR z002)) : Option (CR z002) := z00t v.2.1 v.1.1 v.1.2.2.1 (fun l0_1 => z07y.at none ((v.1.1, v.1.2.1, v.1.2.2.1, (), (), ()), (v.2.1, l0_1, ())) (K (.exit 0))) n v.1.2.2.2.2.2.1 v.2.2.1
def z090 (av : AV) (x : HP z002.ps) : Hdl (CR z002) := hnd [] z09i (z0g0 av x)
theorem z0gb : LP z002 Try.f168 [0] z090 := lp_ok (W := []) (H := []) (xs := [z07y]) z03h trivial rfl (fun av x v K => by kernel_rfl) (fun av x n v K => by kernel_rfl)
def z09j : Tmpl := ⟨[(1, .c (.s .I)), (2, .c (.s (.s .item))), (3, .c .i), (4, .c (.bx 4 0)), (9, .c (.ref 18)), (11, .c .i)], [(4, .boxT (.s .net)), (18, .arr .B true)]⟩
def z07z : Tmpl := ⟨[(1, .c (.s .I)), (3, .c .i), (4, .c (.bx 4 0)), (9, .c (.ref 18))], [(4, .boxT (.s .net)), (18, .arr .B true)]⟩
def z0g1 (av : AV) (x : HP z002.ps) (n : Nat) (v : z09j.den) (K : Ks (CR z002)) : Option (CR z002) := z00e v.2.1 v.1.2.1 (fun l1_1 => z07z.at none ((v.1.1, v.1.2.2.1, (), (), ()), (v.2.1, l1_1, ())) (K (.exit 2))) n v.1.2.2.2.2.2.1 v.2.2.1
def z091 (av : AV) (x : HP z002.ps) : Hdl (CR z002) := hnd [] z09j (z0g1 av x)
theorem z0gc : LP z002 Try.f168 [1] z091 := lp_ok (W := []) (H := [z06u]) (xs := [z07z]) z03h ⟨z0eh, trivial⟩ rfl (fun av x v K => by kernel_rfl) (fun av x n v K => by kernel_rfl)
def z09k : Tmpl := ⟨[(1, .c (.s .I)), (3, .c .i), (4, .c (.bx 4 0)), (14, .c (.ref 76)), (15, .c .i)], [(4, .boxT (.s .net)), (76, .arr .B true)]⟩
def z080 : Tmpl := ⟨[], []⟩
def z0g2 (av : AV) (x : HP z002.ps) (n : Nat) (v : z09k.den) (K : Ks (CR z002)) : Option (CR z002) := z00u v.2.1 v.1.1 v.1.2.1 v.2.2.1 (z080.at none ((), ()) (K (.exit 6))) n v.1.2.2.2.2.1
def z092 (av : AV) (x : HP z002.ps) : Hdl (CR z002) := hnd [] z09k (z0g2 av x)
theorem z0gd : LP z002 Try.f168 [2] z092 := lp_ok (W := []) (H := []) (xs := [z080]) z03h trivial rfl (fun av x v K => by kernel_rfl) (fun av x n v K => by kernel_rfl)
theorem z0k5 : z002.Ok Try.prog := fn_ok (k := z002) (fn := Try.f168) (W := []) (H := [z090, z091, z092]) Try.func168 z03h ⟨z0gb, z0gc, z0gd, trivial⟩ rfl rfl (fun av x => by kernel_rfl)
def z08m (n : GNet) (marks : List Int) (busy : List GItem) (t : Int) : Option Bool := (getI n.tasks t).bind fun x1 => ((z078 marks x1.in_).bind fun x2 => ((getI n.tasks t).bind fun x3 => (if decide (x3.join = 1) = true then (some x2.2) else (if decide (x3.join = 2) = true then (some x2.1) else (if x2.1 = true then (if x2.2 = true then (some true) else ((z056 n marks busy t).bind fun x8 => (some (!x8)))) else (some false))))))
def z0db : Con := ⟨152, [.v (.s .net) false, .v (.sl .I) false, .v (.sl (.s .item)) false, .v .I false], [(.B, true)], [], fun x => z08m x.1 x.2.1 x.2.2.1 x.2.2.2.1⟩
def z0q6 : Fs := ⟨[z029, z002], [], []⟩
theorem z0qe : z0q6.Ok Try.prog := (fsK z0ox (fsK z0k5 fs0))
theorem z0qv : z0db.Ok Try.prog := fn_ok (k := z0db) (fn := Try.f152) (W := []) (H := []) Try.func152 z0qe trivial rfl rfl (fun av x => by kernel_rfl)
def z0ax  : Option Bool := some true
def z02m (n : GNet) (busy : List GItem) (kx0_0 : Option Bool) : Nat → Int → Option Bool
  | 0, _ => none
  | n0 + 1, s0_0 => if decide (s0_0 < (busy.length : Int)) = true then ((getI busy s0_0).bind fun x3 => (gd (ok64 ((n.tasks.length : Int) - 1)) ((z003 x3.task 0 ((n.tasks.length : Int) - 1)).bind fun x5 => (if x5 = true then ((getI busy s0_0).bind fun x7 => ((z003 x7.who 1 4).bind fun x8 => (if x8 = true then ((getI busy s0_0).bind fun x10 => ((getI busy s0_0).bind fun x11 => ((getI n.tasks x11.task).bind fun x12 => (gd (ok64 (x12.need - 1)) ((z003 x10.did 0 (x12.need - 1)).bind fun x14 => (if x14 = true then (gd (ok64 (s0_0 + 1)) ((z02m n busy kx0_0 n0) (s0_0 + 1))) else (some false))))))) else (some false)))) else (some false))))) else (kx0_0)
def z05c (n : GNet) (busy : List GItem) : Option Bool := if decide (6 < (busy.length : Int)) = true then (some false) else (z02m n busy z0ax FUEL 0)
def z01q : Con := ⟨54, [.v (.s .net) false, .v (.sl (.s .item)) false], [(.B, true)], [], fun x => z05c x.1 x.2.1⟩
def z0ny : Fs := ⟨[z00k], [], []⟩
theorem z0fh : z0ny.Ok Try.prog := (fsK z00v fs0)
def z0cs : Tmpl := ⟨[(1, .c (.s (.s .item))), (2, .c (.bx 2 0)), (5, .c .i)], [(2, .boxT (.s .net))]⟩
def z0bj : Tmpl := ⟨[], []⟩
def z0jb (av : AV) (x : HP z01q.ps) (n : Nat) (v : z0cs.den) (K : Ks (CR z01q)) : Option (CR z01q) := z02m v.2.1 v.1.1 (z0bj.at none ((), ()) (K (.exit 0))) n v.1.2.2.1
def z0ca (av : AV) (x : HP z01q.ps) : Hdl (CR z01q) := hnd [] z0cs (z0jb av x)
theorem z0jv : LP z01q Try.f54 [0] z0ca := lp_ok (W := []) (H := []) (xs := [z0bj]) z0fh trivial rfl (fun av x v K => by kernel_rfl) (fun av x n v K => by kernel_rfl)
theorem z0fo : z01q.Ok Try.prog := fn_ok (k := z01q) (fn := Try.f54) (W := []) (H := [z0ca]) Try.func54 z0fh ⟨z0jv, trivial⟩ rfl rfl (fun av x => by kernel_rfl)
def z05a (n : GNet) (marks : List Int) (busy : List GItem) (t : Int) : Option Bool := (z03x n marks).bind fun x1 => (if x1 = true then ((z05c n busy).bind fun x3 => (if x3 = true then (gd (ok64 ((n.tasks.length : Int) - 1)) ((z003 t 0 ((n.tasks.length : Int) - 1)).bind fun x6 => (if x6 = true then ((z08m n marks busy t).bind fun x8 => (some x8)) else (some false)))) else (some false))) else (some false))
def z06v : Con := ⟨121, [.v (.s .net) false, .v (.sl .I) false, .v (.sl (.s .item)) false, .v .I false], [(.B, true)], [], fun x => z05a x.1 x.2.1 x.2.2.1 x.2.2.2.1⟩
def z0nr : Fs := ⟨[z019, z01q, z00k, z0db], [], []⟩
theorem z0o8 : z0nr.Ok Try.prog := (fsK z08n (fsK z0fo (fsK z00v (fsK z0qv fs0))))
theorem z0fl : z06v.Ok Try.prog := fn_ok (k := z06v) (fn := Try.f121) (W := []) (H := []) Try.func121 z0o8 trivial rfl rfl (fun av x => by kernel_rfl)
def z04o (l0_1 : List Int) : Option (List Int) := some l0_1
def z012 (n : GNet) (marks : List Int) (busy : List GItem) (kx0_0 : List Int → Option (List Int)) : Nat → Int → List Int → Option (List Int)
  | 0, _, _ => none
  | n0 + 1, s0_0, l0_1 => if decide (s0_0 < (n.tasks.length : Int)) = true then ((z05a n marks busy s0_0).bind fun x2 => (if x2 = true then (gd (l0_1.length + [s0_0].length ≤ SMALL) (gd (ok64 (s0_0 + 1)) ((z012 n marks busy kx0_0 n0) (s0_0 + 1) (l0_1 ++ [s0_0])))) else (gd (ok64 (s0_0 + 1)) ((z012 n marks busy kx0_0 n0) (s0_0 + 1) l0_1)))) else (kx0_0 l0_1)
def z03l (n : GNet) (marks : List Int) (busy : List GItem) : Option (List Int) := z012 n marks busy z04o FUEL 0 ([] : List Int)
def z014 : Con := ⟨76, [.v (.s .net) false, .v (.sl .I) false, .v (.sl (.s .item)) false], [((.sl .I), true)], [], fun x => z03l x.1 x.2.1 x.2.2.1⟩
def z0jg : Fs := ⟨[z06v], [], []⟩
theorem z0c1 : z0jg.Ok Try.prog := (fsK z0fl fs0)
def z09d : Tmpl := ⟨[(1, .c (.s .I)), (2, .c (.s (.s .item))), (3, .c (.bx 3 0)), (7, .c (.ref 9)), (8, .c .i)], [(3, .boxT (.s .net)), (9, .arr .I true)]⟩
def z07t : Tmpl := ⟨[(7, .c (.ref 9))], [(9, .arr .I true)]⟩
def z0fv (av : AV) (x : HP z014.ps) (n : Nat) (v : z09d.den) (K : Ks (CR z014)) : Option (CR z014) := z012 v.2.1 v.1.1 v.1.2.1 (fun l0_1 => z07t.at none (((), ()), (l0_1, ())) (K (.exit 0))) n v.1.2.2.2.2.1 v.2.2.1
def z08v (av : AV) (x : HP z014.ps) : Hdl (CR z014) := hnd [] z09d (z0fv av x)
theorem z0g6 : LP z014 Try.f76 [0] z08v := lp_ok (W := []) (H := []) (xs := [z07t]) z0c1 trivial rfl (fun av x v K => by kernel_rfl) (fun av x n v K => by kernel_rfl)
theorem z0k0 : z014.Ok Try.prog := fn_ok (k := z014) (fn := Try.f76) (W := []) (H := [z08v]) Try.func76 z0c1 ⟨z0g6, trivial⟩ rfl rfl (fun av x => by kernel_rfl)
def z094 (l0_1 : List Int) (x10 : Int) (x13 : Int) : Option (List Int) := some (l0_1.set x10.toNat (x13 - 1))
def z095 (l0_1 : List Int) : Option (List Int) := some l0_1
def z01b (n : GNet) (t : Int) (kx0_0 : List Int → Int → Int → Option (List Int)) (kx0_1 : List Int → Option (List Int)) : Nat → Int → List Int → Option (List Int)
  | 0, _, _ => none
  | n0 + 1, s0_0, l0_1 => (getI n.tasks t).bind fun x7 => (if decide (s0_0 < (x7.in_.length : Int)) = true then ((getI n.tasks t).bind fun x9 => ((getI x9.in_ s0_0).bind fun x10 => ((getI l0_1 x10).bind fun x11 => (if decide (0 < x11) = true then ((getI l0_1 x10).bind fun x13 => (gd (ok64 (x13 - 1)) ((getI l0_1 x10).bind fun x15 => ((getI n.tasks t).bind fun x16 => (if decide (x16.join = 2) = true then (kx0_0 l0_1 x10 x13) else (gd (ok64 (s0_0 + 1)) ((z01b n t kx0_0 kx0_1 n0) (s0_0 + 1) (l0_1.set x10.toNat (x13 - 1))))))))) else (gd (ok64 (s0_0 + 1)) ((z01b n t kx0_0 kx0_1 n0) (s0_0 + 1) l0_1)))))) else (kx0_1 l0_1))
def z05w (n : GNet) (marks : List Int) (t : Int) : Option (List Int) := (z03x n marks).bind fun x1 => (if x1 = true then (gd (ok64 ((n.tasks.length : Int) - 1)) ((z003 t 0 ((n.tasks.length : Int) - 1)).bind fun x4 => (if x4 = true then (gd (([] : List Int).length + marks.length ≤ SMALL) (z01b n t z094 z095 FUEL 0 (([] : List Int) ++ marks))) else (some ([] : List Int))))) else (some ([] : List Int)))
def z01j : Con := ⟨147, [.v (.s .net) false, .v (.sl .I) false, .v .I false], [((.sl .I), true)], [], fun x => z05w x.1 x.2.1 x.2.2.1⟩
def z0lc : Fs := ⟨[z019, z00k], [], []⟩
theorem z0dw : z0lc.Ok Try.prog := (fsK z08n (fsK z00v fs0))
def z0b4 : Tmpl := ⟨[(2, .c .i), (3, .c (.bx 3 0)), (7, .c (.ref 26)), (8, .c .i)], [(3, .boxT (.s .net)), (26, .arr .I true)]⟩
def z05j : Tmpl := ⟨[(7, .c (.ref 26))], [(26, .arr .I true)]⟩
def z0gp (av : AV) (x : HP z01j.ps) (n : Nat) (v : z0b4.den) (K : Ks (CR z01j)) : Option (CR z01j) := z01b v.2.1 v.1.1 (fun l0_1 x10 x13 => z05j.at none (((), ()), ((l0_1.set x10.toNat (x13 - 1)), ())) (K (.exit 0))) (fun l0_1 => z05j.at none (((), ()), (l0_1, ())) (K (.exit 0))) n v.1.2.2.2.1 v.2.2.1
def z0a7 (av : AV) (x : HP z01j.ps) : Hdl (CR z01j) := hnd [] z0b4 (z0gp av x)
theorem z0hz : LP z01j Try.f147 [0] z0a7 := lp_ok (W := []) (H := []) (xs := [z05j]) z0dw trivial rfl (fun av x v K => by kernel_rfl) (fun av x n v K => by kernel_rfl)
theorem z0mk : z01j.Ok Try.prog := fn_ok (k := z01j) (fn := Try.f147) (W := []) (H := [z0a7]) Try.func147 z0dw ⟨z0hz, trivial⟩ rfl rfl (fun av x => by kernel_rfl)
def z03j (who : Int) : Option Bool := (z00z who 1 4).bind fun x1 => (some x1)
def z04w : Con := ⟨52, [.v .I false], [(.B, true)], [], fun x => z03j x.1⟩
def z0je : Fs := ⟨[z037], [], []⟩
theorem z0jm : z0je.Ok Try.prog := (fsK z03t fs0)
theorem z0cj : z04w.Ok Try.prog := fn_ok (k := z04w) (fn := Try.f52) (W := []) (H := []) Try.func52 z0jm trivial rfl rfl (fun av x => by kernel_rfl)
def z050 (l0_1 : List Int) (x8 : GFlow) : Option (List Int) := some (l0_1 ++ [x8.to])
def z051 (l0_1 : List Int) (x13 : GFlow) : Option (List Int) := some (l0_1 ++ [x13.to])
def z052 (l0_1 : List Int) (x18 : GFlow) : Option (List Int) := some (l0_1 ++ [x18.to])
def z07k (l0_1 : List Int) : Option (List Int) := some l0_1
def z00o (t : GTask) (data : List Int) (kx0_0 : List Int → GFlow → Option (List Int)) (kx0_1 : List Int → GFlow → Option (List Int)) (kx0_2 : List Int → GFlow → Option (List Int)) (kx0_3 : List Int → Option (List Int)) : Nat → Int → List Int → Option (List Int)
  | 0, _, _ => none
  | n0 + 1, s0_0, l0_1 => if decide (s0_0 < (t.out.length : Int)) = true then ((getI t.out s0_0).bind fun x2 => ((z04z x2.if_ data).bind fun x3 => (if x3 = true then (if decide (t.split = 3) = true then (gd (ok64 ((t.out.length : Int) - 1)) (if decide (s0_0 < ((t.out.length : Int) - 1)) = true then ((getI t.out s0_0).bind fun x8 => (gd (l0_1.length + [x8.to].length ≤ SMALL) (if decide (t.split = 2) = true then (kx0_0 l0_1 x8) else (gd (ok64 (s0_0 + 1)) ((z00o t data kx0_0 kx0_1 kx0_2 kx0_3 n0) (s0_0 + 1) (l0_1 ++ [x8.to])))))) else (if decide ((l0_1.length : Int) = 0) = true then ((getI t.out s0_0).bind fun x13 => (gd (l0_1.length + [x13.to].length ≤ SMALL) (if decide (t.split = 2) = true then (kx0_1 l0_1 x13) else (gd (ok64 (s0_0 + 1)) ((z00o t data kx0_0 kx0_1 kx0_2 kx0_3 n0) (s0_0 + 1) (l0_1 ++ [x13.to])))))) else (gd (ok64 (s0_0 + 1)) ((z00o t data kx0_0 kx0_1 kx0_2 kx0_3 n0) (s0_0 + 1) l0_1))))) else ((getI t.out s0_0).bind fun x18 => (gd (l0_1.length + [x18.to].length ≤ SMALL) (if decide (t.split = 2) = true then (kx0_2 l0_1 x18) else (gd (ok64 (s0_0 + 1)) ((z00o t data kx0_0 kx0_1 kx0_2 kx0_3 n0) (s0_0 + 1) (l0_1 ++ [x18.to]))))))) else (gd (ok64 (s0_0 + 1)) ((z00o t data kx0_0 kx0_1 kx0_2 kx0_3 n0) (s0_0 + 1) l0_1))))) else (kx0_3 l0_1)
def z08l (t : GTask) (data : List Int) : Option (List Int) := z00o t data z050 z051 z052 z07k FUEL 0 ([] : List Int)
def z02o : Con := ⟨113, [.v (.s .task) false, .v (.sl .I) false], [((.sl .I), true)], [], fun x => z08l x.1 x.2.1⟩
def z0q4 : Fs := ⟨[z07j], [], []⟩
theorem z0hl : z0q4.Ok Try.prog := (fsK z0k1 fs0)
def z0ez : Tmpl := ⟨[(1, .c (.s .I)), (2, .c (.bx 2 0)), (5, .c (.ref 7)), (6, .c .i)], [(2, .boxT (.s .task)), (7, .arr .I true)]⟩
def z03m : Tmpl := ⟨[(5, .c (.ref 49))], [(49, .arr .I true)]⟩
def z0kx (av : AV) (x : HP z02o.ps) (n : Nat) (v : z0ez.den) (K : Ks (CR z02o)) : Option (CR z02o) := z00o v.2.1 v.1.1 (fun l0_1 x8 => z03m.at none (((), ()), ((l0_1 ++ [x8.to]), ())) (K (.exit 0))) (fun l0_1 x13 => z03m.at none (((), ()), ((l0_1 ++ [x13.to]), ())) (K (.exit 0))) (fun l0_1 x18 => z03m.at none (((), ()), ((l0_1 ++ [x18.to]), ())) (K (.exit 0))) (fun l0_1 => z03m.at none (((), ()), (l0_1, ())) (K (.exit 0))) n v.1.2.2.2.1 v.2.2.1
def z0e9 (av : AV) (x : HP z02o.ps) : Hdl (CR z02o) := hnd [] z0ez (z0kx av x)
theorem z0m9 : LP z02o Try.f113 [0] z0e9 := lp_ok (W := []) (H := []) (xs := [z03m]) z0hl trivial rfl (fun av x v K => by kernel_rfl) (fun av x n v K => by kernel_rfl)
theorem z0qu : z02o.Ok Try.prog := fn_ok (k := z02o) (fn := Try.f113) (W := []) (H := [z0e9]) Try.func113 z0hl ⟨z0m9, trivial⟩ rfl rfl (fun av x => by kernel_rfl)
def z03q (l1_1 : List Int) : Option ((List Int) × Bool) := some (l1_1, true)
def z023 (x16 : (List Int)) (kx1_0 : List Int → Option ((List Int) × Bool)) : Nat → Int → List Int → Option ((List Int) × Bool)
  | 0, _, _ => none
  | n1 + 1, s1_0, l1_1 => if decide (s1_0 < (x16.length : Int)) = true then ((getI x16 s1_0).bind fun x18 => ((getI l1_1 x18).bind fun x19 => (if decide (x19 = 4) = true then (some (([] : List Int), false)) else ((getI x16 s1_0).bind fun x21 => ((getI x16 s1_0).bind fun x22 => ((getI l1_1 x22).bind fun x23 => (gd (ok64 (x23 + 1)) ((getI l1_1 x21).bind fun x25 => (gd (ok64 (s1_0 + 1)) ((z023 x16 kx1_0 n1) (s1_0 + 1) (l1_1.set x21.toNat (x23 + 1)))))))))))) else (kx1_0 l1_1)
def z03p (n : GNet) (t : Int) (data : List Int) (l0_1 : List Int) : Option ((List Int) × Bool) := (getI n.tasks t).bind fun x15 => ((z08l x15 data).bind fun x16 => (z023 x16 z03q FUEL 0 l0_1))
def z022 (n : GNet) (t : Int) (kx0_0 : List Int → Option ((List Int) × Bool)) : Nat → Int → List Int → Option ((List Int) × Bool)
  | 0, _, _ => none
  | n0 + 1, s0_0, l0_1 => (getI n.tasks t).bind fun x9 => (if decide (s0_0 < (x9.clear.length : Int)) = true then ((getI n.tasks t).bind fun x11 => ((getI x11.clear s0_0).bind fun x12 => ((getI l0_1 x12).bind fun x13 => (gd (ok64 (s0_0 + 1)) ((z022 n t kx0_0 n0) (s0_0 + 1) (l0_1.set x12.toNat 0)))))) else (kx0_0 l0_1))
def z05x (n : GNet) (marks : List Int) (t : Int) (data : List Int) : Option ((List Int) × Bool) := (z03x n marks).bind fun x1 => (if x1 = true then (gd (ok64 ((n.tasks.length : Int) - 1)) ((z003 t 0 ((n.tasks.length : Int) - 1)).bind fun x4 => (if x4 = true then ((z03b data).bind fun x6 => (if x6 = true then (gd (([] : List Int).length + marks.length ≤ SMALL) (z022 n t (z03p n t data) FUEL 0 (([] : List Int) ++ marks))) else (some (([] : List Int), false)))) else (some (([] : List Int), false))))) else (some (([] : List Int), false)))
def z00c : Con := ⟨71, [.v (.s .net) false, .v (.sl .I) false, .v .I false, .v (.sl .I) false], [((.sl .I), true), (.B, true)], [], fun x => z05x x.1 x.2.1 x.2.2.1 x.2.2.2.1⟩
def z0ld : Fs := ⟨[z019, z00k, z010, z02o], [], []⟩
theorem z083 : z0ld.Ok Try.prog := (fsK z08n (fsK z00v (fsK z06l (fsK z0qu fs0))))
def z0b5 : Tmpl := ⟨[(2, .c .i), (3, .c (.s .I)), (4, .c (.bx 4 0)), (10, .c (.ref 35)), (11, .c .i)], [(4, .boxT (.s .net)), (35, .arr .I true)]⟩
def z09n : Tmpl := ⟨[(2, .c .i), (3, .c (.s .I)), (4, .c (.bx 4 0)), (10, .c (.ref 35))], [(4, .boxT (.s .net)), (35, .arr .I true)]⟩
def z0gq (av : AV) (x : HP z00c.ps) (n : Nat) (v : z0b5.den) (K : Ks (CR z00c)) : Option (CR z00c) := z022 v.2.1 v.1.1 (fun l0_1 => z09n.at none ((v.1.1, v.1.2.1, (), (), ()), (v.2.1, l0_1, ())) (K (.exit 0))) n v.1.2.2.2.2.1 v.2.2.1
def z0a8 (av : AV) (x : HP z00c.ps) : Hdl (CR z00c) := hnd [] z0b5 (z0gq av x)
theorem z0i0 : LP z00c Try.f71 [0] z0a8 := lp_ok (W := []) (H := []) (xs := [z09n]) z083 trivial rfl (fun av x v K => by kernel_rfl) (fun av x n v K => by kernel_rfl)
def z0b6 : Tmpl := ⟨[(10, .c (.ref 35)), (12, .c (.ref 64)), (13, .c .i)], [(35, .arr .I true), (64, .arr .I true)]⟩
def z09o : Tmpl := ⟨[(10, .c (.ref 35))], [(35, .arr .I true)]⟩
def z0gr (av : AV) (x : HP z00c.ps) (n : Nat) (v : z0b6.den) (K : Ks (CR z00c)) : Option (CR z00c) := z023 v.2.2.1 (fun l1_1 => z09o.at none (((), ()), (l1_1, ())) (K (.exit 2))) n v.1.2.2.1 v.2.1
def z0a9 (av : AV) (x : HP z00c.ps) : Hdl (CR z00c) := hnd [] z0b6 (z0gr av x)
theorem z0i1 : LP z00c Try.f71 [1] z0a9 := lp_ok (W := []) (H := []) (xs := [z09o]) z083 trivial rfl (fun av x v K => by kernel_rfl) (fun av x n v K => by kernel_rfl)
theorem z0ml : z00c.Ok Try.prog := fn_ok (k := z00c) (fn := Try.f71) (W := []) (H := [z0a8, z0a9]) Try.func71 z083 ⟨z0i0, z0i1, trivial⟩ rfl rfl (fun av x => by kernel_rfl)
def z0ch  : Option Bool := some true
def z031 (people : List Int) (kx0_0 : Option Bool) : Nat → Int → Option Bool
  | 0, _ => none
  | n0 + 1, s0_0 => if decide (s0_0 < (people.length : Int)) = true then ((getI people s0_0).bind fun x4 => ((z003 x4 0 7).bind fun x5 => (if x5 = true then (gd (ok64 (s0_0 + 1)) ((z031 people kx0_0 n0) (s0_0 + 1))) else (some false)))) else (kx0_0)
def z06k (people : List Int) : Option Bool := (z003 (people.length : Int) 1 4).bind fun x1 => (if x1 = true then (z031 people z0ch FUEL 0) else (some false))
def z02d : Con := ⟨92, [.v (.sl .I) false], [(.B, true)], [], fun x => z06k x.1⟩
def z0q3 : Fs := ⟨[z00k], [], []⟩
theorem z0hk : z0q3.Ok Try.prog := (fsK z00v fs0)
def z0ey : Tmpl := ⟨[(0, .c (.s .I)), (3, .c .i)], []⟩
def z0d0 : Tmpl := ⟨[], []⟩
def z0kw (av : AV) (x : HP z02d.ps) (n : Nat) (v : z0ey.den) (K : Ks (CR z02d)) : Option (CR z02d) := z031 v.1.1 (z0d0.at none ((), ()) (K (.exit 0))) n v.1.2.1
def z0e8 (av : AV) (x : HP z02d.ps) : Hdl (CR z02d) := hnd [] z0ey (z0kw av x)
theorem z0m8 : LP z02d Try.f92 [0] z0e8 := lp_ok (W := []) (H := []) (xs := [z0d0]) z0hk trivial rfl (fun av x v K => by kernel_rfl) (fun av x n v K => by kernel_rfl)
theorem z0ij : z02d.Ok Try.prog := fn_ok (k := z02d) (fn := Try.f92) (W := []) (H := [z0e8]) Try.func92 z0hk ⟨z0m8, trivial⟩ rfl rfl (fun av x => by kernel_rfl)
def z0av (s0_0 : Int) : Option Bool := gd ((2 : Int) ≠ 0) (some (decide ((Int.tmod s0_0 2) = 1)))
def z049 (role : Int) (kx0_0 : Int → Option Bool) : Nat → Int → Int → Option Bool
  | 0, _, _ => none
  | n0 + 1, s0_0, s0_1 => if decide (s0_1 < role) = true then (gd ((2 : Int) ≠ 0 ∧ ok64 (Int.tdiv s0_0 2)) (gd (ok64 (s0_1 + 1)) ((z049 role kx0_0 n0) (Int.tdiv s0_0 2) (s0_1 + 1)))) else (kx0_0 s0_0)
def z075 (people : List Int) (who : Int) (role : Int) : Option Bool := (z06k people).bind fun x1 => (if x1 = true then ((z003 who 1 (people.length : Int)).bind fun x3 => (if x3 = true then ((z003 role 1 3).bind fun x5 => (if x5 = true then (gd (ok64 (who - 1)) ((getI people (who - 1)).bind fun x8 => (z049 role z0av FUEL x8 1))) else (some false))) else (some false))) else (some false))
def z028 : Con := ⟨122, [.v (.sl .I) false, .v .I false, .v .I false], [(.B, true)], [], fun x => z075 x.1 x.2.1 x.2.2.1⟩
def z0nt : Fs := ⟨[z02d, z00k], [], []⟩
theorem z0fg : z0nt.Ok Try.prog := (fsK z0ij (fsK z00v fs0))
def z0cq : Tmpl := ⟨[(2, .c .i), (7, .c .i), (8, .c .i)], []⟩
def z0bh : Tmpl := ⟨[(7, .c .i)], []⟩
def z0j9 (av : AV) (x : HP z028.ps) (n : Nat) (v : z0cq.den) (K : Ks (CR z028)) : Option (CR z028) := z049 v.1.1 (fun s0_0 => z0bh.at none ((s0_0, ()), ()) (K (.exit 0))) n v.1.2.1 v.1.2.2.1
def z0c8 (av : AV) (x : HP z028.ps) : Hdl (CR z028) := hnd [] z0cq (z0j9 av x)
theorem z0jt : LP z028 Try.f122 [0] z0c8 := lp_ok (W := []) (H := []) (xs := [z0bh]) z0fg trivial rfl (fun av x v K => by kernel_rfl) (fun av x n v K => by kernel_rfl)
theorem z0ou : z028.Ok Try.prog := fn_ok (k := z028) (fn := Try.f122) (W := []) (H := [z0c8]) Try.func122 z0fg ⟨z0jt, trivial⟩ rfl rfl (fun av x => by kernel_rfl)
def z0au  : Option Bool := some false
def z020 (did : List GDid) (who : Int) (task : Int) (kx0_0 : Option Bool) : Nat → Int → Option Bool
  | 0, _ => none
  | n0 + 1, s0_0 => if decide (s0_0 < (did.length : Int)) = true then ((getI did s0_0).bind fun x2 => (if decide (x2.who = who) = true then ((getI did s0_0).bind fun x4 => (if decide (x4.task = task) = true then (some true) else (gd (ok64 (s0_0 + 1)) ((z020 did who task kx0_0 n0) (s0_0 + 1))))) else (gd (ok64 (s0_0 + 1)) ((z020 did who task kx0_0 n0) (s0_0 + 1))))) else (kx0_0)
def z074 (did : List GDid) (who : Int) (task : Int) : Option Bool := z020 did who task z0au FUEL 0
def z027 : Con := ⟨123, [.v (.sl (.s .did)) false, .v .I false, .v .I false], [(.B, true)], [], fun x => z074 x.1 x.2.1 x.2.2.1⟩
def z0ns : Fs := ⟨[], [], []⟩
theorem z0ff : z0ns.Ok Try.prog := fs0
def z0cp : Tmpl := ⟨[(0, .c (.s (.s .did))), (1, .c .i), (2, .c .i), (7, .c .i)], []⟩
def z0bg : Tmpl := ⟨[], []⟩
def z0j8 (av : AV) (x : HP z027.ps) (n : Nat) (v : z0cp.den) (K : Ks (CR z027)) : Option (CR z027) := z020 v.1.1 v.1.2.1 v.1.2.2.1 (z0bg.at none ((), ()) (K (.exit 0))) n v.1.2.2.2.1
def z0c7 (av : AV) (x : HP z027.ps) : Hdl (CR z027) := hnd [] z0cp (z0j8 av x)
theorem z0js : LP z027 Try.f123 [0] z0c7 := lp_ok (W := []) (H := []) (xs := [z0bg]) z0ff trivial rfl (fun av x v K => by kernel_rfl) (fun av x n v K => by kernel_rfl)
theorem z0ot : z027.Ok Try.prog := fn_ok (k := z027) (fn := Try.f123) (W := []) (H := [z0c7]) Try.func123 z0ff ⟨z0js, trivial⟩ rfl rfl (fun av x => by kernel_rfl)
def z0aw (n : GNet) (people : List Int) (did : List GDid) (t : Int) (s0_0 : Int) (l0_1 : List Int) (bk0 : Int → List Int → Option (List Int)) (s1_0 : Bool) : Option (List Int) := (getI n.tasks t).bind fun x18 => ((z075 people s0_0 x18.role).bind fun x19 => (if x19 = true then (if s1_0 = true then (gd (ok64 (s0_0 + 1)) (bk0 (s0_0 + 1) l0_1)) else ((getI n.tasks t).bind fun x23 => ((z074 did s0_0 x23.apart).bind fun x24 => (if x24 = true then (gd (ok64 (s0_0 + 1)) (bk0 (s0_0 + 1) l0_1)) else (gd (l0_1.length + [s0_0].length ≤ SMALL) (gd (ok64 (s0_0 + 1)) (bk0 (s0_0 + 1) (l0_1 ++ [s0_0])))))))) else (gd (ok64 (s0_0 + 1)) (bk0 (s0_0 + 1) l0_1))))
def z00w (n : GNet) (busy : List GItem) (t : Int) (s0_0 : Int) (kx1_0 : Bool → Option (List Int)) : Nat → Bool → Int → Option (List Int)
  | 0, _, _ => none
  | n1 + 1, s1_0, s1_1 => if decide (s1_1 < (busy.length : Int)) = true then (if s1_0 = true then (gd (ok64 (s1_1 + 1)) ((z00w n busy t s0_0 kx1_0 n1) true (s1_1 + 1))) else ((getI busy s1_1).bind fun x12 => (if decide (x12.who = s0_0) = true then ((getI busy s1_1).bind fun x14 => ((getI n.tasks t).bind fun x15 => (gd (ok64 (s1_1 + 1)) ((z00w n busy t s0_0 kx1_0 n1) (decide (x14.task = x15.apart)) (s1_1 + 1))))) else (gd (ok64 (s1_1 + 1)) ((z00w n busy t s0_0 kx1_0 n1) false (s1_1 + 1)))))) else (kx1_0 s1_0)
def z06j (l0_1 : List Int) : Option (List Int) := some l0_1
def z02k (n : GNet) (people : List Int) (did : List GDid) (busy : List GItem) (t : Int) (kx0_0 : List Int → Option (List Int)) : Nat → Int → List Int → Option (List Int)
  | 0, _, _ => none
  | n0 + 1, s0_0, l0_1 => if decide (s0_0 ≤ (people.length : Int)) = true then (z00w n busy t s0_0 (z0aw n people did t s0_0 l0_1 (z02k n people did busy t kx0_0 n0)) FUEL false 0) else (kx0_0 l0_1)
def z03z (n : GNet) (people : List Int) (did : List GDid) (busy : List GItem) (t : Int) : Option (List Int) := (z01z n).bind fun x1 => (if x1 = true then ((z06k people).bind fun x3 => (if x3 = true then (gd (ok64 ((n.tasks.length : Int) - 1)) ((z003 t 0 ((n.tasks.length : Int) - 1)).bind fun x6 => (if x6 = true then (z02k n people did busy t z06j FUEL 1 ([] : List Int)) else (some ([] : List Int))))) else (some ([] : List Int)))) else (some ([] : List Int)))
def z00f : Con := ⟨77, [.v (.s .net) false, .v (.sl .I) false, .v (.sl (.s .did)) false, .v (.sl (.s .item)) false, .v .I false], [((.sl .I), true)], [], fun x => z03z x.1 x.2.1 x.2.2.1 x.2.2.2.1 x.2.2.2.2.1⟩
def z0nu : Fs := ⟨[z01a, z02d, z00k, z028, z027], [], []⟩
theorem z0a5 : z0nu.Ok Try.prog := (fsK z08o (fsK z0ij (fsK z00v (fsK z0ou (fsK z0ot fs0)))))
def z09e : Tmpl := ⟨[(1, .c (.s .I)), (2, .c (.s (.s .did))), (3, .c (.s (.s .item))), (4, .c .i), (5, .c (.bx 5 0)), (11, .c (.ref 15)), (12, .c .i), (13, .c .b), (14, .c .i)], [(5, .boxT (.s .net)), (15, .arr .I true)]⟩
def z07u : Tmpl := ⟨[(1, .c (.s .I)), (2, .c (.s (.s .did))), (3, .c (.s (.s .item))), (4, .c .i), (5, .c (.bx 5 0)), (11, .c (.ref 15)), (12, .c .i), (13, .c .b)], [(5, .boxT (.s .net)), (15, .arr .I true)]⟩
def z0fw (av : AV) (x : HP z00f.ps) (n : Nat) (v : z09e.den) (K : Ks (CR z00f)) : Option (CR z00f) := z00w v.2.1 v.1.2.2.1 v.1.2.2.2.1 v.1.2.2.2.2.2.2.1 (fun s1_0 => z07u.at none ((v.1.1, v.1.2.1, v.1.2.2.1, v.1.2.2.2.1, (), (), v.1.2.2.2.2.2.2.1, s1_0, ()), (v.2.1, v.2.2.1, ())) (K (.exit 2))) n v.1.2.2.2.2.2.2.2.1 v.1.2.2.2.2.2.2.2.2.1
def z08w (av : AV) (x : HP z00f.ps) : Hdl (CR z00f) := hnd [] z09e (z0fw av x)
theorem z0g7 : LP z00f Try.f77 [0, 0] z08w := lp_ok (W := []) (H := []) (xs := [z07u]) z0a5 trivial rfl (fun av x v K => by kernel_rfl) (fun av x n v K => by kernel_rfl)
def z0cr : Tmpl := ⟨[(1, .c (.s .I)), (2, .c (.s (.s .did))), (3, .c (.s (.s .item))), (4, .c .i), (5, .c (.bx 5 0)), (11, .c (.ref 15)), (12, .c .i)], [(5, .boxT (.s .net)), (15, .arr .I true)]⟩
def z0bi : Tmpl := ⟨[(11, .c (.ref 15))], [(15, .arr .I true)]⟩
def z0ja (av : AV) (x : HP z00f.ps) (n : Nat) (v : z0cr.den) (K : Ks (CR z00f)) : Option (CR z00f) := z02k v.2.1 v.1.1 v.1.2.1 v.1.2.2.1 v.1.2.2.2.1 (fun l0_1 => z0bi.at none (((), ()), (l0_1, ())) (K (.exit 0))) n v.1.2.2.2.2.2.2.1 v.2.2.1
def z0c9 (av : AV) (x : HP z00f.ps) : Hdl (CR z00f) := hnd [] z0cr (z0ja av x)
theorem z0ju : LP z00f Try.f77 [0] z0c9 := lp_ok (W := []) (H := [z08w]) (xs := [z0bi]) z0a5 ⟨z0g7, trivial⟩ rfl (fun av x v K => by kernel_rfl) (fun av x n v K => by kernel_rfl)
theorem z0fm : z00f.Ok Try.prog := fn_ok (k := z00f) (fn := Try.f77) (W := []) (H := [z0c9]) Try.func77 z0a5 ⟨z0ju, trivial⟩ rfl rfl (fun av x => by kernel_rfl)
def z072 (n : GNet) (data : List Int) : Option GCase := (z01z n).bind fun x1 => (if x1 = true then ((z03b data).bind fun x3 => (if x3 = true then (gd ((0 : Int) ≤ n.places ∧ n.places ≤ (1000000000 : Int)) (gd (([] : List Int).length + data.length ≤ SMALL) ((getI (List.replicate n.places.toNat (0 : Int)) 0).bind fun x7 => (some (GCase.mk 1 ((List.replicate n.places.toNat (0 : Int)).set (0 : Int).toNat 1) [] (([] : List Int) ++ data) []))))) else (some (GCase.mk 0 [] [] [] [])))) else (some (GCase.mk 0 [] [] [] [])))
def z0aj : Con := ⟨100, [.v (.s .net) false, .v (.sl .I) false], [((.s .kase), true)], [], fun x => z072 x.1 x.2.1⟩
def z0np : Fs := ⟨[z01a, z010], [], []⟩
theorem z0o6 : z0np.Ok Try.prog := (fsK z08o (fsK z06l fs0))
theorem z0or : z0aj.Ok Try.prog := fn_ok (k := z0aj) (fn := Try.f100) (W := []) (H := []) Try.func100 z0o6 trivial rfl rfl (fun av x => by kernel_rfl)
def z04y (c : GCase) : Option Bool := if decide (c.state = 1) = true then ((getI c.marks 1).bind fun x20 => (some (decide (x20 = 0)))) else (if decide ((c.busy.length : Int) = 0) = true then ((getI c.marks 1).bind fun x22 => (some ((decide (c.state = 2)) == (decide (0 < x22))))) else (some false))
def z02x (n : GNet) (c : GCase) (kx0_0 : Option Bool) : Nat → Int → Option Bool
  | 0, _ => none
  | n0 + 1, s0_0 => if decide (s0_0 < (c.did.length : Int)) = true then ((getI c.did s0_0).bind fun x11 => (gd (ok64 ((n.tasks.length : Int) - 1)) ((z003 x11.task 0 ((n.tasks.length : Int) - 1)).bind fun x13 => (if x13 = true then ((getI c.did s0_0).bind fun x15 => ((z003 x15.who 1 4).bind fun x16 => (if x16 = true then (gd (ok64 (s0_0 + 1)) ((z02x n c kx0_0 n0) (s0_0 + 1))) else (some false)))) else (some false))))) else (kx0_0)
def z04n (n : GNet) (c : GCase) : Option Bool := (z03x n c.marks).bind fun x1 => (if x1 = true then ((z05c n c.busy).bind fun x3 => (if x3 = true then ((z03b c.data).bind fun x5 => (if x5 = true then (if decide (60 < (c.did.length : Int)) = true then (some false) else ((z003 c.state 1 3).bind fun x8 => (if x8 = true then (z02x n c (z04y c) FUEL 0) else (some false)))) else (some false))) else (some false))) else (some false))
def z01x : Con := ⟨14, [.v (.s .net) false, .v (.s .kase) false], [(.B, true)], [], fun x => z04n x.1 x.2.1⟩
def z0py : Fs := ⟨[z019, z01q, z010, z00k], [], []⟩
theorem z0hf : z0py.Ok Try.prog := (fsK z08n (fsK z0fo (fsK z06l (fsK z00v fs0))))
def z0eu : Tmpl := ⟨[(2, .c (.bx 2 0)), (3, .c (.bx 3 0)), (5, .c .i)], [(2, .boxT (.s .net)), (3, .boxT (.s .kase))]⟩
def z0cw : Tmpl := ⟨[(3, .c (.bx 3 0))], [(3, .boxT (.s .kase))]⟩
def z0ks (av : AV) (x : HP z01x.ps) (n : Nat) (v : z0eu.den) (K : Ks (CR z01x)) : Option (CR z01x) := z02x v.2.1 v.2.2.1 (z0cw.at none (((), ()), (v.2.2.1, ())) (K (.exit 0))) n v.1.2.2.1
def z0e4 (av : AV) (x : HP z01x.ps) : Hdl (CR z01x) := hnd [] z0eu (z0ks av x)
theorem z0m4 : LP z01x Try.f14 [0] z0e4 := lp_ok (W := []) (H := []) (xs := [z0cw]) z0hf trivial rfl (fun av x v K => by kernel_rfl) (fun av x n v K => by kernel_rfl)
theorem z0di : z01x.Ok Try.prog := fn_ok (k := z01x) (fn := Try.f14) (W := []) (H := [z0e4]) Try.func14 z0hf ⟨z0m4, trivial⟩ rfl rfl (fun av x => by kernel_rfl)
def z040 (c : GCase) : Option GCase := gd (([] : List Int).length + c.marks.length ≤ SMALL) (gd (([] : List GItem).length + c.busy.length ≤ SMALL) (gd (([] : List Int).length + c.data.length ≤ SMALL) (gd (([] : List GDid).length + c.did.length ≤ SMALL) (some (GCase.mk c.state (([] : List Int) ++ c.marks) (([] : List GItem) ++ c.busy) (([] : List Int) ++ c.data) (([] : List GDid) ++ c.did))))))
def z06x : Con := ⟨69, [.v (.s .kase) false], [((.s .kase), true)], [], fun x => z040 x.1⟩
def z0o0 : Fs := ⟨[], [], []⟩
theorem z0oc : z0o0.Ok Try.prog := fs0
theorem z0fp : z06x.Ok Try.prog := fn_ok (k := z06x) (fn := Try.f69) (W := []) (H := []) Try.func69 z0oc trivial rfl rfl (fun av x => by kernel_rfl)
def z03k (n : GNet) (people : List Int) (c : GCase) (t : Int) (who : Int) : Option (GCase × Bool) := (z040 c).bind fun x1 => ((z04n n c).bind fun x2 => (if x2 = true then (if decide (c.state = 1) = true then ((z05a n c.marks c.busy t).bind fun x5 => (if x5 = true then ((z03z n people c.did c.busy t).bind fun x7 => ((z04q x7 who).bind fun x8 => (if x8 = true then (if decide ((c.busy.length : Int) = 6) = true then (some (x1, false)) else ((z05w n c.marks t).bind fun x11 => (gd (x1.busy.length + [(GItem.mk t who 0)].length ≤ SMALL) (some ((GCase.mk x1.state x11 (x1.busy ++ [(GItem.mk t who 0)]) x1.data x1.did), true))))) else (some (x1, false))))) else (some (x1, false)))) else (some (x1, false))) else (some (x1, false))))
def z07i : Con := ⟨112, [.v (.s .net) false, .v (.sl .I) false, .v (.s .kase) false, .v .I false, .v .I false], [((.s .kase), true), (.B, true)], [], fun x => z03k x.1 x.2.1 x.2.2.1 x.2.2.2.1 x.2.2.2.2.1⟩
def z0jf : Fs := ⟨[z06x, z01x, z06v, z00f, z01y, z01j], [], []⟩
theorem z0jn : z0jf.Ok Try.prog := (fsK z0fp (fsK z0di (fsK z0fl (fsK z0fm (fsK z0dj (fsK z0mk fs0))))))
theorem z0jz : z07i.Ok Try.prog := fn_ok (k := z07i) (fn := Try.f112) (W := []) (H := []) Try.func112 z0jn trivial rfl rfl (fun av x => by kernel_rfl)
def z05v (n : GNet) (c : GCase) (k : Int) (v : Int) (num : Int) : Option (GCase × Bool) := (z040 c).bind fun x1 => ((z04n n c).bind fun x2 => (if x2 = true then (if decide (c.state = 1) = true then (gd (ok64 ((c.busy.length : Int) - 1)) ((z003 k 0 ((c.busy.length : Int) - 1)).bind fun x6 => (if x6 = true then ((z003 v (-1) 2).bind fun x8 => (if x8 = true then ((z003 num (-99) 99).bind fun x10 => (if x10 = true then (if decide ((c.did.length : Int) = 60) = true then (some (x1, false)) else ((getI c.busy k).bind fun x13 => ((z073 c.data v num).bind fun x14 => (gd (ok64 (x13.did + 1)) ((getI x1.busy k).bind fun x16 => (gd (ok64 (x13.did + 1)) ((getI n.tasks x13.task).bind fun x18 => (if decide ((x13.did + 1) < x18.need) = true then (some ((GCase.mk x1.state x1.marks (x1.busy.set k.toNat (GItem.mk x16.task x16.who (x13.did + 1))) x14 x1.did), true)) else ((z05x n c.marks x13.task x14).bind fun x20 => (if x20.2 = true then (gd ((0 : Int) ≤ k ∧ k ≤ (c.busy.length : Int)) (gd (([] : List GItem).length + (c.busy.take k.toNat).length ≤ SMALL) (gd (ok64 (k + 1)) (gd ((0 : Int) ≤ (k + 1) ∧ (k + 1) ≤ (c.busy.length : Int)) (gd ((([] : List GItem) ++ (c.busy.take k.toNat)).length + (c.busy.drop (k + 1).toNat).length ≤ SMALL) (gd (x1.did.length + [(GDid.mk x13.task x13.who)].length ≤ SMALL) ((getI x20.1 1).bind fun x28 => (if decide (0 < x28) = true then (some ((GCase.mk 2 x20.1 ([] : List GItem) x14 (x1.did ++ [(GDid.mk x13.task x13.who)])), true)) else (some ((GCase.mk x1.state x20.1 ((([] : List GItem) ++ (c.busy.take k.toNat)) ++ (c.busy.drop (k + 1).toNat)) x14 (x1.did ++ [(GDid.mk x13.task x13.who)])), true)))))))))) else ((z040 c).bind fun x30 => (some (x30, false))))))))))))) else (some (x1, false)))) else (some (x1, false)))) else (some (x1, false))))) else (some (x1, false))) else (some (x1, false))))
def z08b : Con := ⟨25, [.v (.s .net) false, .v (.s .kase) false, .v .I false, .v .I false, .v .I false], [((.s .kase), true), (.B, true)], [], fun x => z05v x.1 x.2.1 x.2.2.1 x.2.2.2.1 x.2.2.2.2.1⟩
def z0lb : Fs := ⟨[z06x, z01x, z00k, z0ak, z00c], [], []⟩
theorem z0lw : z0lb.Ok Try.prog := (fsK z0fp (fsK z0di (fsK z00v (fsK z0os (fsK z0ml fs0)))))
theorem z0mj : z08b.Ok Try.prog := fn_ok (k := z08b) (fn := Try.f25) (W := []) (H := []) Try.func25 z0lw trivial rfl rfl (fun av x => by kernel_rfl)
def z02q (c : GCase) : Option GCase := (z03a c.marks).bind fun x1 => (gd (([] : List GItem).length + c.busy.length ≤ SMALL) ((z03a c.data).bind fun x3 => (gd (([] : List GDid).length + c.did.length ≤ SMALL) (some (GCase.mk c.state x1 (([] : List GItem) ++ c.busy) x3 (([] : List GDid) ++ c.did))))))
def z03w : Con := ⟨57, [.v (.s .kase) false], [((.s .kase), true)], [], fun x => z02q x.1⟩
def z0d3 : Fs := ⟨[z06b], [], []⟩
theorem z0d7 : z0d3.Ok Try.prog := (fsK z0if fs0)
theorem z0de : z03w.Ok Try.prog := fn_ok (k := z03w) (fn := Try.f57) (W := []) (H := []) Try.func57 z0d7 trivial rfl rfl (fun av x => by kernel_rfl)
def z0aq  : Option Int := some (-1)
def z02h (s : List Int) (p : Int → Option Bool) (p0_0 : Int) (kx0_0 : Option Int) : Nat → Int → Option Int
  | 0, _ => none
  | n0 + 1, s0_0 => if decide (s0_0 < p0_0) = true then ((getI s s0_0).bind fun x2 => ((p x2).bind fun x3 => (if x3 = true then (some s0_0) else (gd (ok64 (s0_0 + 1)) ((z02h s p p0_0 kx0_0 n0) (s0_0 + 1)))))) else (kx0_0)
def z06y (s : List Int) (p : Int → Option Bool) : Option Int := z02h s p (s.length : Int) z0aq FUEL 0
def z01p : Con := ⟨111, [.v (.sl .I) false, .fn .I], [(.I, true)], [], fun x => z06y x.1 x.2.1⟩
def z0nj : Fs := ⟨[], [], []⟩
theorem z0fc : z0nj.Ok Try.prog := fs0
def z0cm : Tmpl := ⟨[(0, .c (.s .I)), (1, .c .fp), (7, .c .i), (8, .c .i)], []⟩
def z0bd : Tmpl := ⟨[], []⟩
def z0j5 (av : AV) (x : HP z01p.ps) (n : Nat) (v : z0cm.den) (K : Ks (CR z01p)) : Option (CR z01p) := z02h v.1.1 x.2.1 v.1.2.2.1 (z0bd.at (fpOf z01p.ps x av) ((), ()) (K (.exit 0))) n v.1.2.2.2.1
def z0c4 (av : AV) (x : HP z01p.ps) : Hdl (CR z01p) := hnd [] z0cm (z0j5 av x)
theorem z0jp : LP z01p Try.f111 [0] z0c4 := lp_ok (W := []) (H := []) (xs := [z0bd]) z0fc trivial rfl (fun av x v K => by kernel_rfl) (fun av x n v K => by kernel_rfl)
theorem z0ol : z01p.Ok Try.prog := fn_ok (k := z01p) (fn := Try.f111) (W := []) (H := [z0c4]) Try.func111 z0fc ⟨z0jp, trivial⟩ rfl rfl (fun av x => by kernel_rfl)
def z039 (s : List Int) (p : Int → Option Bool) : Option Bool := (z06y s p).bind fun x1 => (some (decide (0 ≤ x1)))
def z044 : Con := ⟨62, [.v (.sl .I) false, .fn .I], [(.B, true)], [], fun x => z039 x.1 x.2.1⟩
def z0h2 : Fs := ⟨[z01p], [], []⟩
theorem z0hb : z0h2.Ok Try.prog := (fsK z0ol fs0)
theorem z0az : z044.Ok Try.prog := fn_ok (k := z044) (fn := Try.f62) (W := []) (H := []) Try.func62 z0hb trivial rfl rfl (fun av x => by kernel_rfl)
def z06f  : Option Int := some (-1)
def z011 (s : List GTask) (p : GTask → Option Bool) (p0_0 : Int) (kx0_0 : Option Int) : Nat → Int → Option Int
  | 0, _ => none
  | n0 + 1, s0_0 => if decide (s0_0 < p0_0) = true then ((getI s s0_0).bind fun x2 => ((p x2).bind fun x3 => (if x3 = true then (some s0_0) else (gd (ok64 (s0_0 + 1)) ((z011 s p p0_0 kx0_0 n0) (s0_0 + 1)))))) else (kx0_0)
def z03n (s : List GTask) (p : GTask → Option Bool) : Option Int := z011 s p (s.length : Int) z06f FUEL 0
def z00i : Con := ⟨141, [.v (.sl (.s .task)) false, .fn (.s .task)], [(.I, true)], [], fun x => z03n x.1 x.2.1⟩
def z0g3 : Fs := ⟨[], [], []⟩
theorem z08u : z0g3.Ok Try.prog := fs0
def z07e : Tmpl := ⟨[(0, .c (.s (.s .task))), (1, .c .fp), (7, .c .i), (8, .c .i)], []⟩
def z06o : Tmpl := ⟨[], []⟩
def z0dn (av : AV) (x : HP z00i.ps) (n : Nat) (v : z07e.den) (K : Ks (CR z00i)) : Option (CR z00i) := z011 v.1.1 x.2.1 v.1.2.2.1 (z06o.at (fpOf z00i.ps x av) ((), ()) (K (.exit 0))) n v.1.2.2.2.1
def z06s (av : AV) (x : HP z00i.ps) : Hdl (CR z00i) := hnd [] z07e (z0dn av x)
theorem z0ef : LP z00i Try.f141 [0] z06s := lp_ok (W := []) (H := []) (xs := [z06o]) z08u trivial rfl (fun av x v K => by kernel_rfl) (fun av x n v K => by kernel_rfl)
theorem z0ge : z00i.Ok Try.prog := fn_ok (k := z00i) (fn := Try.f141) (W := []) (H := [z06s]) Try.func141 z08u ⟨z0ef, trivial⟩ rfl rfl (fun av x => by kernel_rfl)
def z02p (s : List GTask) (p : GTask → Option Bool) : Option Bool := (z03n s p).bind fun x1 => (some (decide (0 ≤ x1)))
def z03v : Con := ⟨107, [.v (.sl (.s .task)) false, .fn (.s .task)], [(.B, true)], [], fun x => z02p x.1 x.2.1⟩
def z0d2 : Fs := ⟨[z00i], [], []⟩
theorem z0d6 : z0d2.Ok Try.prog := (fsK z0ge fs0)
theorem z0dd : z03v.Ok Try.prog := fn_ok (k := z03v) (fn := Try.f107) (W := []) (H := []) Try.func107 z0d6 trivial rfl rfl (fun av x => by kernel_rfl)
def z0ib  : Option Int := some (-1)
def z04l (s : List Int) (v : Int) (p0_0 : Int) (kx0_0 : Option Int) : Nat → Int → Option Int
  | 0, _ => none
  | n0 + 1, s0_0 => if decide (s0_0 < p0_0) = true then ((getI s s0_0).bind fun x2 => (if decide (v = x2) = true then (some s0_0) else (gd (ok64 (s0_0 + 1)) ((z04l s v p0_0 kx0_0 n0) (s0_0 + 1))))) else (kx0_0)
def z0gi (s : List Int) (v : Int) : Option Int := z04l s v (s.length : Int) z0ib FUEL 0
def z05r : Con := ⟨124, [.v (.sl .I) false, .v .I false], [(.I, true)], [], fun x => z0gi x.1 x.2.1⟩
def z0wr : Fs := ⟨[], [], []⟩
theorem z0s4 : z0wr.Ok Try.prog := fs0
def z0ko : Tmpl := ⟨[(0, .c (.s .I)), (1, .c .i), (7, .c .i), (8, .c .i)], []⟩
def z0j3 : Tmpl := ⟨[], []⟩
def z0sx (av : AV) (x : HP z05r.ps) (n : Nat) (v : z0ko.den) (K : Ks (CR z05r)) : Option (CR z05r) := z04l v.1.1 v.1.2.1 v.1.2.2.1 (z0j3.at none ((), ()) (K (.exit 0))) n v.1.2.2.2.1
def z0kf (av : AV) (x : HP z05r.ps) : Hdl (CR z05r) := hnd [] z0ko (z0sx av x)
theorem z0t6 : LP z05r Try.f124 [0] z0kf := lp_ok (W := []) (H := []) (xs := [z0j3]) z0s4 trivial rfl (fun av x v K => by kernel_rfl) (fun av x n v K => by kernel_rfl)
theorem z0x4 : z05r.Ok Try.prog := fn_ok (k := z05r) (fn := Try.f124) (W := []) (H := [z0kf]) Try.func124 z0s4 ⟨z0t6, trivial⟩ rfl rfl (fun av x => by kernel_rfl)
def z08e (s : List Int) (v : Int) : Option Bool := (z0gi s v).bind fun x1 => (some (decide (0 ≤ x1)))
def z0d8 : Con := ⟨79, [.v (.sl .I) false, .v .I false], [(.B, true)], [], fun x => z08e x.1 x.2.1⟩
def z0pr : Fs := ⟨[z05r], [], []⟩
theorem z0q8 : z0pr.Ok Try.prog := (fsK z0x4 fs0)
theorem z0qp : z0d8.Ok Try.prog := fn_ok (k := z0d8) (fn := Try.f79) (W := []) (H := []) Try.func79 z0q8 trivial rfl rfl (fun av x => by kernel_rfl)
def z08f (n : Int) : Option Bool := (z047 n).bind fun x1 => (some (!x1))
def z08p : FCon := ⟨63, .I, [], fun z c => z08f z ⟩
def z0l4 : Fs := ⟨[z05s], [], []⟩
theorem z0lq : z0l4.Ok Try.prog := (fsK z0ek fs0)
theorem z0md : z08p.Ok Try.prog := FCon.ok (fn_ok (k := z08p.con) (fn := Try.f63) (W := []) (H := []) Try.func63 z0lq trivial rfl rfl (fun av x => by kernel_rfl))
def z04m (data : List Int) : Option Bool := if decide ((data.length : Int) = 3) = true then ((z039 data (fun z => z08f z )).bind fun x2 => (some (!x2))) else (some false)
def z06a : Con := ⟨19, [.v (.sl .I) false], [(.B, true)], [], fun x => z04m x.1⟩
def z0pt : Fs := ⟨[z044], [z08p], []⟩
theorem z0q9 : z0pt.Ok Try.prog := (fsK z0az (fsF z0md fs0))
theorem z0df : z06a.Ok Try.prog := fn_ok (k := z06a) (fn := Try.f19) (W := []) (H := []) Try.func19 z0q9 trivial rfl rfl (fun av x => by kernel_rfl)
def z093  : Option Bool := some true
def z021 (list : List Int) (places : Int) (without : List Int) (p0_0 : Int) (kx0_0 : Option Bool) : Nat → Int → Int → Option Bool
  | 0, _, _ => none
  | n0 + 1, s0_0, s0_1 => if decide (s0_0 < p0_0) = true then ((getI list s0_0).bind fun x2 => (gd (ok64 (s0_1 + 1)) (gd (ok64 (places - 1)) ((z00z x2 (s0_1 + 1) (places - 1)).bind fun x5 => (if x5 = true then ((z08e without x2).bind fun x7 => (if x7 = true then (some false) else (gd (ok64 (s0_0 + 1)) ((z021 list places without p0_0 kx0_0 n0) (s0_0 + 1) x2)))) else (some false)))))) else (kx0_0)
def z046 (list : List Int) (places : Int) (without : List Int) : Option Bool := z021 list places without (list.length : Int) z093 FUEL 0 (-1)
def z01i : Con := ⟨143, [.v (.sl .I) false, .v .I false, .v (.sl .I) false], [(.B, true)], [], fun x => z046 x.1 x.2.1 x.2.2.1⟩
def z0l6 : Fs := ⟨[z037, z0d8], [], []⟩
theorem z0dv : z0l6.Ok Try.prog := (fsK z03t (fsK z0qp fs0))
def z0b3 : Tmpl := ⟨[(1, .c .i), (2, .c (.s .I)), (7, .c .i), (10, .c (.s .I)), (11, .c .i), (12, .c .i)], []⟩
def z09m : Tmpl := ⟨[], []⟩
def z0go (av : AV) (x : HP z01i.ps) (n : Nat) (v : z0b3.den) (K : Ks (CR z01i)) : Option (CR z01i) := z021 v.1.2.2.2.1 v.1.1 v.1.2.1 v.1.2.2.2.2.1 (z09m.at none ((), ()) (K (.exit 0))) n v.1.2.2.2.2.2.1 v.1.2.2.1
def z0a6 (av : AV) (x : HP z01i.ps) : Hdl (CR z01i) := hnd [] z0b3 (z0go av x)
theorem z0hy : LP z01i Try.f143 [0] z0a6 := lp_ok (W := []) (H := []) (xs := [z09m]) z0dv trivial rfl (fun av x v K => by kernel_rfl) (fun av x n v K => by kernel_rfl)
theorem z0mf : z01i.Ok Try.prog := fn_ok (k := z01i) (fn := Try.f143) (W := []) (H := [z0a6]) Try.func143 z0dv ⟨z0hy, trivial⟩ rfl rfl (fun av x => by kernel_rfl)
def z034 (t : GTask) : Option Bool := (z00z (t.out.length : Int) 1 3).bind fun x21 => (some x21)
def z00g (t : GTask) (places : Int) (p0_0 : List GFlow) (p0_1 : Int) (kx0_0 : Option Bool) : Nat → Int → List Int → Option Bool
  | 0, _, _ => none
  | n0 + 1, s0_0, m0_1 => if decide (s0_0 < p0_1) = true then ((getI p0_0 s0_0).bind fun x2 => (if decide (t.split = 1) = true then (gd (ok64 (places - 1)) ((z00z x2.to 0 (places - 1)).bind fun x5 => (if x5 = true then (if decide (x2.to ∈ m0_1) = true then (some false) else ((z06h x2.if_).bind fun x8 => (if x8 = true then (if ((decide (x2.if_.op = 0)) == true) = true then (gd (ok64 (s0_0 + 1)) ((z00g t places p0_0 p0_1 kx0_0 n0) (s0_0 + 1) (insKey m0_1 x2.to))) else (some false)) else (some false)))) else (some false)))) else (gd (ok64 ((t.out.length : Int) - 1)) (gd (ok64 (places - 1)) ((z00z x2.to 0 (places - 1)).bind fun x14 => (if x14 = true then (if decide (x2.to ∈ m0_1) = true then (some false) else ((z06h x2.if_).bind fun x17 => (if x17 = true then (if ((decide (x2.if_.op = 0)) == (decide (s0_0 = ((t.out.length : Int) - 1)))) = true then (gd (ok64 (s0_0 + 1)) ((z00g t places p0_0 p0_1 kx0_0 n0) (s0_0 + 1) (insKey m0_1 x2.to))) else (some false)) else (some false)))) else (some false))))))) else (kx0_0)
def z02s (t : GTask) (places : Int) : Option Bool := z00g t places t.out (t.out.length : Int) (z034 t) FUEL 0 (insKey ([] : List Int) 0)
def z00b : Con := ⟨144, [.v (.s .task) false, .v .I false], [(.B, true)], [], fun x => z02s x.1 x.2.1⟩
def z0d5 : Fs := ⟨[z037, z0d9], [], []⟩
theorem z068 : z0d5.Ok Try.prog := (fsK z03t (fsK z0qq fs0))
def z05e : Tmpl := ⟨[(1, .c .i), (2, .c (.bx 2 0)), (5, .c (.bx 9 0)), (12, .c (.s (.s .flow))), (13, .c .i), (14, .c .i)], [(2, .boxT (.s .task)), (9, .mp)]⟩
def z04j : Tmpl := ⟨[(2, .c (.bx 2 0))], [(2, .boxT (.s .task))]⟩
def z0a0 (av : AV) (x : HP z00b.ps) (n : Nat) (v : z05e.den) (K : Ks (CR z00b)) : Option (CR z00b) := z00g v.2.1 v.1.1 v.1.2.2.2.1 v.1.2.2.2.2.1 (z04j.at none (((), ()), (v.2.1, ())) (K (.exit 0))) n v.1.2.2.2.2.2.1 v.2.2.1
def z058 (av : AV) (x : HP z00b.ps) : Hdl (CR z00b) := hnd [] z05e (z0a0 av x)
theorem z0ap : LP z00b Try.f144 [0] z058 := lp_ok (W := []) (H := []) (xs := [z04j]) z068 trivial rfl (fun av x v K => by kernel_rfl) (fun av x n v K => by kernel_rfl)
theorem z0dh : z00b.Ok Try.prog := fn_ok (k := z00b) (fn := Try.f144) (W := []) (H := [z058]) Try.func144 z068 ⟨z0ap, trivial⟩ rfl rfl (fun av x => by kernel_rfl)
def z03o (t : GTask) (places : Int) (tasks : Int) : Option Bool := (z06z t.join).bind fun x1 => (if x1 = true then ((z06z t.split).bind fun x3 => (if x3 = true then ((z00z (t.in_.length : Int) 1 3).bind fun x5 => (if x5 = true then ((z046 t.in_ places [1]).bind fun x7 => (if x7 = true then ((z02s t places).bind fun x9 => (if x9 = true then ((z046 t.clear places [0, 1]).bind fun x11 => (if x11 = true then ((z0ar t.role).bind fun x13 => (if x13 = true then (gd (ok64 (tasks - 1)) ((z00z t.apart (-1) (tasks - 1)).bind fun x16 => (if x16 = true then ((z00z t.all 1 3).bind fun x18 => (if x18 = true then ((z00z t.need 1 t.all).bind fun x20 => (some x20)) else (some false))) else (some false)))) else (some false))) else (some false))) else (some false))) else (some false))) else (some false))) else (some false))) else (some false))
def z05i : Con := ⟨109, [.v (.s .task) false, .v .I false, .v .I false], [(.B, true)], [], fun x => z03o x.1 x.2.1 x.2.2.1⟩
def z0g4 : Fs := ⟨[z0ag, z037, z01i, z00b, z0ah], [], []⟩
theorem z0g5 : z0g4.Ok Try.prog := (fsK z0om (fsK z03t (fsK z0mf (fsK z0dh (fsK z0on fs0)))))
theorem z0gf : z05i.Ok Try.prog := fn_ok (k := z05i) (fn := Try.f109) (W := []) (H := []) Try.func109 z0g5 trivial rfl rfl (fun av x => by kernel_rfl)
def z08h (t : GTask) (n : GNet) : Option Bool := (z03o t n.places (n.tasks.length : Int)).bind fun x1 => (some (!x1))
def z08q : FCon := ⟨108, (.s .task), [(.s .net)], fun z c => z08h z c.1⟩
def z0l5 : Fs := ⟨[z05i], [], []⟩
theorem z0lr : z0l5.Ok Try.prog := (fsK z0gf fs0)
theorem z0me : z08q.Ok Try.prog := FCon.ok (fn_ok (k := z08q.con) (fn := Try.f108) (W := []) (H := []) Try.func108 z0lr trivial rfl rfl (fun av x => by kernel_rfl))
def z08g (n : GNet) : Option Bool := (z08i n.places (n.tasks.length : Int)).bind fun x1 => (if x1 = true then ((z02p n.tasks (fun z => z08h z n)).bind fun x3 => (some (!x3))) else (some false))
def z0da : Con := ⟨60, [.v (.s .net) false], [(.B, true)], [], fun x => z08g x.1⟩
def z0pw : Fs := ⟨[z08a, z03v], [z08q], []⟩
theorem z0qc : z0pw.Ok Try.prog := (fsK z0mh (fsK z0dd (fsF z0me fs0)))
theorem z0qr : z0da.Ok Try.prog := fn_ok (k := z0da) (fn := Try.f60) (W := []) (H := []) Try.func60 z0qc trivial rfl rfl (fun av x => by kernel_rfl)
def z033 (m : Int) : Option Bool := (z00z m 0 4).bind fun x1 => (some (!x1))
def z035 : FCon := ⟨110, .I, [], fun z c => z033 z ⟩
def z09v : Fs := ⟨[z037], [], []⟩
theorem z09w : z09v.Ok Try.prog := (fsK z03t fs0)
theorem z09x : z035.Ok Try.prog := FCon.ok (fn_ok (k := z035.con) (fn := Try.f110) (W := []) (H := []) Try.func110 z09w trivial rfl rfl (fun av x => by kernel_rfl))
def z02f (n : GNet) (marks : List Int) : Option Bool := if decide ((marks.length : Int) = n.places) = true then ((z039 marks (fun z => z033 z )).bind fun x2 => (some (!x2))) else (some false)
def z03f : Con := ⟨61, [.v (.s .net) false, .v (.sl .I) false], [(.B, true)], [], fun x => z02f x.1 x.2.1⟩
def z0bu : Fs := ⟨[z044], [z035], []⟩
theorem z0bw : z0bu.Ok Try.prog := (fsK z0az (fsF z09x fs0))
theorem z0bz : z03f.Ok Try.prog := fn_ok (k := z03f) (fn := Try.f61) (W := []) (H := []) Try.func61 z0bw trivial rfl rfl (fun av x => by kernel_rfl)
def z06i (n : GNet) (marks : List Int) : Option Bool := (z08g n).bind fun x1 => (if x1 = true then ((z02f n marks).bind fun x3 => (some x3)) else (some false))
def z088 : Con := ⟨18, [.v (.s .net) false, .v (.sl .I) false], [(.B, true)], [], fun x => z06i x.1 x.2.1⟩
def z0pv : Fs := ⟨[z0da, z03f], [], []⟩
theorem z0qb : z0pv.Ok Try.prog := (fsK z0qr (fsK z0bz fs0))
theorem z0ie : z088.Ok Try.prog := fn_ok (k := z088) (fn := Try.f18) (W := []) (H := []) Try.func18 z0qb trivial rfl rfl (fun av x => by kernel_rfl)
def z04h (busy : List GItem) : Option Bool := some (decide ((busy.length : Int) ≤ 6))
def z00n (n : GNet) (p0_0 : List GItem) (p0_1 : Int) (kx0_0 : Option Bool) : Nat → Int → Option Bool
  | 0, _ => none
  | n0 + 1, s0_0 => if decide (s0_0 < p0_1) = true then ((getI p0_0 s0_0).bind fun x2 => ((z01h n x2.task).bind fun x3 => (if x3 = true then ((z03j x2.who).bind fun x5 => (if x5 = true then ((getI n.tasks x2.task).bind fun x7 => (gd (ok64 (x7.need - 1)) ((z00z x2.did 0 (x7.need - 1)).bind fun x9 => (if x9 = true then (gd (ok64 (s0_0 + 1)) ((z00n n p0_0 p0_1 kx0_0 n0) (s0_0 + 1))) else (some false))))) else (some false))) else (some false)))) else (kx0_0)
def z02r (n : GNet) (busy : List GItem) : Option Bool := z00n n busy (busy.length : Int) (z04h busy) FUEL 0
def z00a : Con := ⟨50, [.v (.s .net) false, .v (.sl (.s .item)) false], [(.B, true)], [], fun x => z02r x.1 x.2.1⟩
def z0d4 : Fs := ⟨[z02e, z04w, z037], [], []⟩
theorem z067 : z0d4.Ok Try.prog := (fsK z05n (fsK z0cj (fsK z03t fs0)))
def z05d : Tmpl := ⟨[(1, .c (.s (.s .item))), (2, .c (.bx 2 0)), (7, .c (.s (.s .item))), (8, .c .i), (9, .c .i)], [(2, .boxT (.s .net))]⟩
def z04i : Tmpl := ⟨[(1, .c (.s (.s .item)))], []⟩
def z09z (av : AV) (x : HP z00a.ps) (n : Nat) (v : z05d.den) (K : Ks (CR z00a)) : Option (CR z00a) := z00n v.2.1 v.1.2.2.1 v.1.2.2.2.1 (z04i.at none ((v.1.1, ()), ()) (K (.exit 0))) n v.1.2.2.2.2.1
def z057 (av : AV) (x : HP z00a.ps) : Hdl (CR z00a) := hnd [] z05d (z09z av x)
theorem z0ao : LP z00a Try.f50 [0] z057 := lp_ok (W := []) (H := []) (xs := [z04i]) z067 trivial rfl (fun av x v K => by kernel_rfl) (fun av x n v K => by kernel_rfl)
theorem z0dg : z00a.Ok Try.prog := fn_ok (k := z00a) (fn := Try.f50) (W := []) (H := [z057]) Try.func50 z067 ⟨z0ao, trivial⟩ rfl rfl (fun av x => by kernel_rfl)
def z04x (c : GCase) : Option Bool := if decide (c.state = 1) = true then ((getI c.marks 1).bind fun x16 => (some (decide (x16 = 0)))) else (if decide (c.state = 2) = true then (if decide ((c.busy.length : Int) = 0) = true then ((getI c.marks 1).bind fun x19 => (some ((decide (c.state = 2)) == (decide (0 < x19))))) else (some false)) else (if decide (c.state = 3) = true then (if decide ((c.busy.length : Int) = 0) = true then ((getI c.marks 1).bind fun x22 => (some ((decide (c.state = 2)) == (decide (0 < x22))))) else (some false)) else (some false)))
def z02v (n : GNet) (p0_0 : List GDid) (p0_1 : Int) (kx0_0 : Option Bool) : Nat → Int → Option Bool
  | 0, _ => none
  | n0 + 1, s0_0 => if decide (s0_0 < p0_1) = true then ((getI p0_0 s0_0).bind fun x9 => ((z01h n x9.task).bind fun x10 => (if x10 = true then ((z03j x9.who).bind fun x12 => (if x12 = true then (gd (ok64 (s0_0 + 1)) ((z02v n p0_0 p0_1 kx0_0 n0) (s0_0 + 1))) else (some false))) else (some false)))) else (kx0_0)
def z06g (n : GNet) (c : GCase) : Option Bool := (z06i n c.marks).bind fun x1 => (if x1 = true then ((z02r n c.busy).bind fun x3 => (if x3 = true then ((z04m c.data).bind fun x5 => (if x5 = true then (if decide (60 < (c.did.length : Int)) = true then (some false) else (z02v n c.did (c.did.length : Int) (z04x c) FUEL 0)) else (some false))) else (some false))) else (some false))
def z02c : Con := ⟨13, [.v (.s .net) false, .v (.s .kase) false], [(.B, true)], [], fun x => z06g x.1 x.2.1⟩
def z0ps : Fs := ⟨[z088, z00a, z06a, z02e, z04w], [], []⟩
theorem z0hc : z0ps.Ok Try.prog := (fsK z0ie (fsK z0dg (fsK z0df (fsK z05n (fsK z0cj fs0)))))
def z0es : Tmpl := ⟨[(2, .c (.bx 2 0)), (3, .c (.bx 3 0)), (32, .c (.s (.s .did))), (33, .c .i), (34, .c .i)], [(2, .boxT (.s .net)), (3, .boxT (.s .kase))]⟩
def z0cu : Tmpl := ⟨[(3, .c (.bx 3 0))], [(3, .boxT (.s .kase))]⟩
def z0kq (av : AV) (x : HP z02c.ps) (n : Nat) (v : z0es.den) (K : Ks (CR z02c)) : Option (CR z02c) := z02v v.2.1 v.1.2.2.1 v.1.2.2.2.1 (z0cu.at none (((), ()), (v.2.2.1, ())) (K (.exit 0))) n v.1.2.2.2.2.1
def z0e2 (av : AV) (x : HP z02c.ps) : Hdl (CR z02c) := hnd [] z0es (z0kq av x)
theorem z0m2 : LP z02c Try.f13 [0] z0e2 := lp_ok (W := []) (H := []) (xs := [z0cu]) z0hc trivial rfl (fun av x v K => by kernel_rfl) (fun av x n v K => by kernel_rfl)
theorem z0id : z02c.Ok Try.prog := fn_ok (k := z02c) (fn := Try.f13) (W := []) (H := [z0e2]) Try.func13 z0hc ⟨z0m2, trivial⟩ rfl rfl (fun av x => by kernel_rfl)
def z05u (n : GNet) (c : GCase) : Option Bool := (z06g n c).bind fun x1 => (if x1 = true then (some (decide (c.state = 1))) else (some false))
def z089 : Con := ⟨58, [.v (.s .net) false, .v (.s .kase) false], [(.B, true)], [], fun x => z05u x.1 x.2.1⟩
def z0l8 : Fs := ⟨[z02c], [], []⟩
theorem z0lt : z0l8.Ok Try.prog := (fsK z0id fs0)
theorem z0mg : z089.Ok Try.prog := fn_ok (k := z089) (fn := Try.f58) (W := []) (H := []) Try.func58 z0lt trivial rfl rfl (fun av x => by kernel_rfl)
def z05t (n : GNet) (c : GCase) : Option (GCase × Bool) := (z02q c).bind fun x1 => ((z05u n c).bind fun x2 => (if x2 = true then (some ((GCase.mk 3 x1.marks [] x1.data x1.did), true)) else (some (x1, false))))
def z087 : Con := ⟨15, [.v (.s .net) false, .v (.s .kase) false], [((.s .kase), true), (.B, true)], [], fun x => z05t x.1 x.2.1⟩
def z0l3 : Fs := ⟨[z03w, z089], [], []⟩
theorem z0lp : z0l3.Ok Try.prog := (fsK z0de (fsK z0mg fs0))
theorem z0mc : z087.Ok Try.prog := fn_ok (k := z087) (fn := Try.f15) (W := []) (H := []) Try.func15 z0lp trivial rfl rfl (fun av x => by kernel_rfl)
def z05z (code : List Int) : Option GRd := if decide (2000 < (code.length : Int)) = true then (gd ((0 : Int) ≤ 2000 ∧ 2000 ≤ (code.length : Int)) (some (GRd.mk (code.take (2000 : Int).toNat) 0))) else (some (GRd.mk code 0))
def z0ed : BCon := ⟨49, fun x => z05z x⟩
def z0lg : Fs := ⟨[], [], []⟩
theorem z0lx : z0lg.Ok Try.prog := fs0
theorem z0mo : z0ed.Ok Try.prog := z11c (fn := Try.f49) Try.func49 z0lx rfl rfl rfl rfl rfl (fun l => by kernel_rfl)
def z005 (r : GRd) (n : Int) : Option (Int × GRd) := gd (ok64 (r.p + 1)) (if decide (n < 1) = true then (some (0, (GRd.mk r.b (r.p + 1)))) else (if decide ((r.b.length : Int) = 0) = true then (some (0, (GRd.mk r.b (r.p + 1)))) else (gd (ok64 ((r.p + 1) - 1)) (if decide (((r.p + 1) - 1) < (r.b.length : Int)) = true then ((getI r.b ((r.p + 1) - 1)).bind fun x6 => (gd (ok64 x6) (gd ((n : Int) ≠ 0) (some ((Int.tmod x6 n), (GRd.mk r.b (r.p + 1))))))) else (gd (((r.b.length : Int) : Int) ≠ 0) ((getI r.b (Int.tmod ((r.p + 1) - 1) (r.b.length : Int))).bind fun x10 => (gd (ok64 x10) (gd (ok64 (x10 * 131)) (gd (ok64 (((r.p + 1) - 1) * 7)) (gd (ok64 ((((r.p + 1) - 1) * 7) + 3)) (gd (((r.b.length : Int) : Int) ≠ 0) ((getI r.b (Int.tmod ((((r.p + 1) - 1) * 7) + 3) (r.b.length : Int))).bind fun x16 => (gd (ok64 x16) (gd (ok64 (x16 * 1117)) (gd (ok64 ((x10 * 131) + (x16 * 1117))) (gd (ok64 (((r.p + 1) - 1) * 29)) (gd (ok64 (((x10 * 131) + (x16 * 1117)) + (((r.p + 1) - 1) * 29))) (gd (((r.b.length : Int) : Int) ≠ 0 ∧ ok64 (Int.tdiv ((r.p + 1) - 1) (r.b.length : Int))) (gd (ok64 ((Int.tdiv ((r.p + 1) - 1) (r.b.length : Int)) * 53)) (gd (ok64 ((((x10 * 131) + (x16 * 1117)) + (((r.p + 1) - 1) * 29)) + ((Int.tdiv ((r.p + 1) - 1) (r.b.length : Int)) * 53))) (gd ((64 : Int) ≠ 0 ∧ ok64 (Int.tdiv ((((x10 * 131) + (x16 * 1117)) + (((r.p + 1) - 1) * 29)) + ((Int.tdiv ((r.p + 1) - 1) (r.b.length : Int)) * 53)) 64)) (gd ((n : Int) ≠ 0) (some ((Int.tmod (xorI ((((x10 * 131) + (x16 * 1117)) + (((r.p + 1) - 1) * 29)) + ((Int.tdiv ((r.p + 1) - 1) (r.b.length : Int)) * 53)) (Int.tdiv ((((x10 * 131) + (x16 * 1117)) + (((r.p + 1) - 1) * 29)) + ((Int.tdiv ((r.p + 1) - 1) (r.b.length : Int)) * 53)) 64)) n), (GRd.mk r.b (r.p + 1))))))))))))))))))))))))))
def z0f7 : Con := ⟨65, [.ptr (.s .rd) false, .v .I false], [(.I, true)], [(0, .ptr (.s .rd) false)], fun x => z005 x.1 x.2.1⟩
def z12s : Fs := ⟨[], [], []⟩
theorem z12t : z12s.Ok Try.prog := fs0
theorem z0ig : z0f7.Ok Try.prog := fn_ok (k := z0f7) (fn := Try.f65) (W := []) (H := []) Try.func65 z12t trivial rfl rfl (fun av x => by kernel_rfl)
def z03s (n : Int) (s0_0 : List Int) (s0_1 : Int) (l0_3 : List Int) : Option ((List Int) × GRd) := (z005 (GRd.mk s0_0 s0_1) n).bind fun x7 => (if decide (x7.1 = 0) = true then ((z005 x7.2 3).bind fun x9 => (if decide (x9.1 = 0) = true then ((z005 x9.2 3).bind fun x11 => ((z005 x11.2 4).bind fun x12 => ((getI [100, (-100), 9223372036854775807, (-9223372036854775808)] x12.1).bind fun x13 => ((getI l0_3 x11.1).bind fun x14 => (some ((l0_3.set x11.1.toNat x13), x12.2)))))) else (if decide (x9.1 = 1) = true then (gd ((0 : Int) ≤ 1 ∧ 1 ≤ (l0_3.length : Int)) (some ((l0_3.drop (1 : Int).toNat), x9.2))) else (gd (l0_3.length + [0].length ≤ SMALL) (some ((l0_3 ++ [0]), x9.2)))))) else (some (l0_3, x7.2)))
def z024 (kx0_0 : List Int → Int → List Int → Option ((List Int) × GRd)) : Nat → List Int → Int → Int → List Int → Option ((List Int) × GRd)
  | 0, _, _, _, _ => none
  | n0 + 1, s0_0, s0_1, s0_2, l0_3 => if decide (s0_2 < 3) = true then ((z005 (GRd.mk s0_0 s0_1) 9).bind fun x2 => ((z005 x2.2 7).bind fun x3 => ((getI [0, 1, (-1), 5, 99, (-99), x2.1] x3.1).bind fun x4 => (gd (l0_3.length + [x4].length ≤ SMALL) (gd (ok64 (s0_2 + 1)) ((z024 kx0_0 n0) x3.2.b x3.2.p (s0_2 + 1) (l0_3 ++ [x4]))))))) else (kx0_0 s0_0 s0_1 l0_3)
def z04b (r : GRd) (n : Int) : Option ((List Int) × GRd) := z024 (z03s n) FUEL r.b r.p 0 ([] : List Int)
def z01l : Con := ⟨101, [.ptr (.s .rd) false, .v .I false], [((.sl .I), false)], [(0, .ptr (.s .rd) false)], fun x => z04b x.1 x.2.1⟩
def z0lf : Fs := ⟨[z0f7], [], []⟩
theorem z0dy : z0lf.Ok Try.prog := (fsK z0ig fs0)
def z0b8 : Tmpl := ⟨[(0, .c (.bx 1000000 0)), (1, .c .i), (5, .c (.ref 7)), (6, .c .i)], [(1000000, .box [.s .Y, .i]), (7, .arr .I true)]⟩
def z09q : Tmpl := ⟨[(0, .c (.bx 1000000 0)), (1, .c .i), (5, .c (.ref 7))], [(1000000, .box [.s .Y, .i]), (7, .arr .I true)]⟩
def z0gt (av : AV) (x : HP z01l.ps) (n : Nat) (v : z0b8.den) (K : Ks (CR z01l)) : Option (CR z01l) := z024 (fun s0_0 s0_1 l0_3 => z09q.at none (((), v.1.2.1, (), ()), ((s0_0, s0_1, ()), l0_3, ())) (K (.exit 0))) n v.2.1.1 v.2.1.2.1 v.1.2.2.2.1 v.2.2.1
def z0ab (av : AV) (x : HP z01l.ps) : Hdl (CR z01l) := hnd [] z0b8 (z0gt av x)
theorem z0i3 : LP z01l Try.f101 [0] z0ab := lp_ok (W := [(12, [.froz 7])]) (H := []) (xs := [z09q]) z0dy trivial rfl (fun av x v K => by kernel_rfl) (fun av x n v K => by kernel_rfl)
theorem z0mn : z01l.Ok Try.prog := fn_ok (k := z01l) (fn := Try.f101) (W := [(12, [.froz 7])]) (H := [z0ab]) Try.func101 z0dy ⟨z0i3, trivial⟩ rfl rfl (fun av x => by kernel_rfl)
def z076 (r : GRd) (n : Int) : Option (GAsk × GRd) := (z005 r 3).bind fun x1 => (gd (ok64 (1 + x1.1)) ((z005 x1.2 3).bind fun x3 => ((z005 x3.2 9).bind fun x4 => ((z005 x4.2 6).bind fun x5 => ((getI [0, 1, 2, 5, (-1), x4.1] x5.1).bind fun x6 => ((z005 x5.2 6).bind fun x7 => (if decide (x7.1 = 0) = true then ((z005 x7.2 n).bind fun x9 => (if decide (x9.1 = 0) = true then ((z005 x9.2 3).bind fun x11 => (if decide (x11.1 = 0) = true then ((z005 x11.2 3).bind fun x13 => ((getI [0, 4, (-1)] x13.1).bind fun x14 => (some ((GAsk.mk x14 0 0), x13.2)))) else (if decide (x11.1 = 1) = true then ((z005 x11.2 3).bind fun x16 => ((getI [3, (-1), 1] x16.1).bind fun x17 => (some ((GAsk.mk 0 x17 0), x16.2)))) else ((z005 x11.2 3).bind fun x18 => ((getI [99, 100, (-99)] x18.1).bind fun x19 => (some ((GAsk.mk 0 0 x19), x18.2))))))) else (some ((GAsk.mk 0 0 0), x9.2)))) else ((z005 x7.2 n).bind fun x20 => (if decide (x20.1 = 0) = true then ((z005 x20.2 3).bind fun x22 => (if decide (x22.1 = 0) = true then ((z005 x22.2 3).bind fun x24 => ((getI [0, 4, (-1)] x24.1).bind fun x25 => (some ((GAsk.mk x25 x3.1 x6), x24.2)))) else (if decide (x22.1 = 1) = true then ((z005 x22.2 3).bind fun x27 => ((getI [3, (-1), 1] x27.1).bind fun x28 => (some ((GAsk.mk (1 + x1.1) x28 x6), x27.2)))) else ((z005 x22.2 3).bind fun x29 => ((getI [99, 100, (-99)] x29.1).bind fun x30 => (some ((GAsk.mk (1 + x1.1) x3.1 x30), x29.2))))))) else (some ((GAsk.mk (1 + x1.1) x3.1 x6), x20.2)))))))))))
def z0al : Con := ⟨139, [.ptr (.s .rd) false, .v .I false], [((.s .ask), true)], [(0, .ptr (.s .rd) false)], fun x => z076 x.1 x.2.1⟩
def z0nv : Fs := ⟨[z0f7], [], []⟩
theorem z0o9 : z0nv.Ok Try.prog := (fsK z0ig fs0)
theorem z0ov : z0al.Ok Try.prog := fn_ok (k := z0al) (fn := Try.f139) (W := []) (H := []) Try.func139 z0o9 trivial rfl rfl (fun av x => by kernel_rfl)
def z096 (join : Int) (in_ : List Int) (p0_6 : Int) (p0_7 : Int) (p0_8 : Int) (p0_9 : Int) (p0_10 : Int) (s0_0 : List Int) (s0_1 : Int) (l0_3 : List GFlow) : Option (GTask × GRd) := some ((GTask.mk join p0_6 in_ l0_3 [] p0_7 p0_8 p0_9 p0_10), (GRd.mk s0_0 s0_1))
def z00j (split : Int) (to : List Int) (kx0_0 : List Int → Int → List GFlow → Option (GTask × GRd)) : Nat → List Int → Int → Int → List GFlow → Option (GTask × GRd)
  | 0, _, _, _, _ => none
  | n0 + 1, s0_0, s0_1, s0_2, l0_3 => if decide (s0_2 < (to.length : Int)) = true then ((getI to s0_2).bind fun x11 => (if decide (split = 1) = true then (gd (l0_3.length + [(GFlow.mk x11 (GAsk.mk 0 0 0))].length ≤ SMALL) (gd (ok64 (s0_2 + 1)) ((z00j split to kx0_0 n0) s0_0 s0_1 (s0_2 + 1) (l0_3 ++ [(GFlow.mk x11 (GAsk.mk 0 0 0))])))) else (gd (ok64 ((to.length : Int) - 1)) (if decide (s0_2 < ((to.length : Int) - 1)) = true then ((z005 (GRd.mk s0_0 s0_1) 3).bind fun x17 => (gd (ok64 (1 + x17.1)) ((z005 x17.2 3).bind fun x19 => ((z005 x19.2 5).bind fun x20 => (gd (ok64 (x20.1 - 1)) (gd (l0_3.length + [(GFlow.mk x11 (GAsk.mk (1 + x17.1) x19.1 (x20.1 - 1)))].length ≤ SMALL) (gd (ok64 (s0_2 + 1)) ((z00j split to kx0_0 n0) x20.2.b x20.2.p (s0_2 + 1) (l0_3 ++ [(GFlow.mk x11 (GAsk.mk (1 + x17.1) x19.1 (x20.1 - 1)))]))))))))) else (gd (l0_3.length + [(GFlow.mk x11 (GAsk.mk 0 0 0))].length ≤ SMALL) (gd (ok64 (s0_2 + 1)) ((z00j split to kx0_0 n0) s0_0 s0_1 (s0_2 + 1) (l0_3 ++ [(GFlow.mk x11 (GAsk.mk 0 0 0))])))))))) else (kx0_0 s0_0 s0_1 l0_3)
def z097 (join : Int) (in_ : List Int) (p1_6 : Int) (p1_7 : Int) (p1_8 : Int) (p1_9 : Int) (p1_10 : Int) (s1_0 : List Int) (s1_1 : Int) (l1_3 : List GFlow) : Option (GTask × GRd) := some ((GTask.mk join p1_6 in_ l1_3 [] p1_7 p1_8 p1_9 p1_10), (GRd.mk s1_0 s1_1))
def z004 (r : GRd) (join : Int) (split : Int) (in_ : List Int) (to : List Int) (tasks : Int) : Option (GTask × GRd) := (z005 r 3).bind fun x1 => (gd (ok64 (1 + x1.1)) ((z005 x1.2 3).bind fun x3 => (gd (ok64 (1 + x3.1)) ((z005 x3.2 (1 + x3.1)).bind fun x5 => (gd (ok64 (1 + x5.1)) ((z005 x5.2 3).bind fun x7 => (if decide (x7.1 = 0) = true then ((z005 x7.2 tasks).bind fun x9 => (z00j split to (z096 join in_ split (1 + x1.1) x9.1 (1 + x3.1) (1 + x5.1)) FUEL x9.2.b x9.2.p 0 ([] : List GFlow))) else (z00j split to (z097 join in_ split (1 + x1.1) (-1) (1 + x3.1) (1 + x5.1)) FUEL x7.2.b x7.2.p 0 ([] : List GFlow)))))))))
def z01m : Con := ⟨160, [.ptr (.s .rd) false, .v .I false, .v .I false, .v (.sl .I) true, .v (.sl .I) true, .v .I false], [((.s .task), true)], [(0, .ptr (.s .rd) false)], fun x => z004 x.1 x.2.1 x.2.2.1 x.2.2.2.1 x.2.2.2.2.1 x.2.2.2.2.2.1⟩
def z0lh : Fs := ⟨[z0f7], [], []⟩
theorem z0dz : z0lh.Ok Try.prog := (fsK z0ig fs0)
def z0b9 : Tmpl := ⟨[(0, .c (.bx 1000000 0)), (2, .c .i), (4, .c (.ref 1480000)), (12, .c (.bx 12 0)), (13, .c (.bx 13 0)), (14, .c .i)], [(1000000, .box [.s .Y, .i]), (12, .box [.i, .i, .nl, .nl, .nl, .i, .i, .i, .i]), (13, .box [.i, .i, .ref 1360000, .ref 511303, .nl, .i, .i, .i, .i]), (1480000, .arr .I true), (1360000, .arr .I true), (511303, .arr (.s .flow) true)]⟩
def z09r : Tmpl := ⟨[(12, .c (.bx 12 0)), (13, .c (.bx 13 0))], [(12, .box [.i, .i, .nl, .nl, .nl, .i, .i, .i, .i]), (13, .box [.i, .i, .ref 1360000, .ref 511303, .nl, .i, .i, .i, .i]), (1000000, .box [.s .Y, .i]), (1360000, .arr .I true), (511303, .arr (.s .flow) true)]⟩
def z0gu (av : AV) (x : HP z01m.ps) (n : Nat) (v : z0b9.den) (K : Ks (CR z01m)) : Option (CR z01m) := z00j v.1.2.1 v.2.2.2.2.1 (fun s0_0 s0_1 l0_3 => z09r.at none (((), (), ()), ((v.2.2.1.1, v.2.2.1.2.1, (), (), (), v.2.2.1.2.2.2.2.2.1, v.2.2.1.2.2.2.2.2.2.1, v.2.2.1.2.2.2.2.2.2.2.1, v.2.2.1.2.2.2.2.2.2.2.2.1, ()), (v.2.2.2.1.1, v.2.2.2.1.2.1, (), (), (), v.2.2.2.1.2.2.2.2.2.1, v.2.2.2.1.2.2.2.2.2.2.1, v.2.2.2.1.2.2.2.2.2.2.2.1, v.2.2.2.1.2.2.2.2.2.2.2.2.1, ()), (s0_0, s0_1, ()), v.2.2.2.2.2.1, l0_3, ())) (K (.exit 0))) n v.2.1.1 v.2.1.2.1 v.1.2.2.2.2.2.1 v.2.2.2.2.2.2.1
def z0ac (av : AV) (x : HP z01m.ps) : Hdl (CR z01m) := hnd [.b 13 3 511303 (.s .flow)] z0b9 (z0gu av x)
theorem z0i4 : LP z01m Try.f160 [0] z0ac := lp_ok (W := []) (H := []) (xs := [z09r]) z0dz trivial rfl (fun av x v K => by kernel_rfl) (fun av x n v K => by kernel_rfl)
theorem z0mp : z01m.Ok Try.prog := fn_ok (k := z01m) (fn := Try.f160) (W := []) (H := [z0ac]) Try.func160 z0dz ⟨z0i4, trivial⟩ rfl rfl (fun av x => by kernel_rfl)
def z02l (p0_2 : Int) (s0_0 : List Int) (s0_1 : Int) (l0_3 : List GTask) : Option (GNet × GRd) := some ((GNet.mk p0_2 l0_3), (GRd.mk s0_0 s0_1))
def z00l (p0_0 : Int) (p0_2 : Int) (kx0_0 : List Int → Int → List GTask → Option (GNet × GRd)) : Nat → List Int → Int → Int → List GTask → Option (GNet × GRd)
  | 0, _, _, _, _ => none
  | n0 + 1, s0_0, s0_1, s0_2, l0_3 => if decide (s0_2 < p0_0) = true then (gd (ok64 (p0_2 - 2)) ((z005 (GRd.mk s0_0 s0_1) (p0_2 - 2)).bind fun x39 => (gd (ok64 (2 + x39.1)) ((z005 x39.2 4).bind fun x41 => ((getI [0, 2, 2, (2 + x39.1)] x41.1).bind fun x42 => (gd (ok64 (p0_2 - 1)) ((z005 x41.2 (p0_2 - 1)).bind fun x44 => (gd (ok64 (1 + x44.1)) ((z005 x44.2 2).bind fun x46 => (if decide (x46.1 = 0) = true then ((getI [(1 + x44.1)] 0).bind fun x48 => (if decide (x48 = 2) = true then ((z005 x46.2 3).bind fun x50 => (gd (ok64 (1 + x50.1)) ((z005 x50.2 3).bind fun x52 => (gd (ok64 (1 + x52.1)) ((z004 x52.2 (1 + x50.1) (1 + x52.1) [x42] [(1 + x44.1)] p0_0).bind fun x54 => (gd (l0_3.length + [x54.1].length ≤ SMALL) (gd (ok64 (s0_2 + 1)) ((z00l p0_0 p0_2 kx0_0 n0) x54.2.b x54.2.p (s0_2 + 1) (l0_3 ++ [x54.1]))))))))) else (gd ([(1 + x44.1)].length + [2].length ≤ SMALL) ((z005 x46.2 3).bind fun x58 => (gd (ok64 (1 + x58.1)) ((z005 x58.2 3).bind fun x60 => (gd (ok64 (1 + x60.1)) ((z004 x60.2 (1 + x58.1) (1 + x60.1) [x42] ([(1 + x44.1)] ++ [2]) p0_0).bind fun x62 => (gd (l0_3.length + [x62.1].length ≤ SMALL) (gd (ok64 (s0_2 + 1)) ((z00l p0_0 p0_2 kx0_0 n0) x62.2.b x62.2.p (s0_2 + 1) (l0_3 ++ [x62.1])))))))))))) else ((z005 x46.2 3).bind fun x65 => (gd (ok64 (1 + x65.1)) ((z005 x65.2 3).bind fun x67 => (gd (ok64 (1 + x67.1)) ((z004 x67.2 (1 + x65.1) (1 + x67.1) [x42] [(1 + x44.1)] p0_0).bind fun x69 => (gd (l0_3.length + [x69.1].length ≤ SMALL) (gd (ok64 (s0_2 + 1)) ((z00l p0_0 p0_2 kx0_0 n0) x69.2.b x69.2.p (s0_2 + 1) (l0_3 ++ [x69.1]))))))))))))))))))) else (kx0_0 s0_0 s0_1 l0_3)
def z054 (r : GRd) : Option (GNet × GRd) := (z005 r 3).bind fun x1 => (gd (ok64 (1 + x1.1)) ((z005 x1.2 3).bind fun x3 => (gd (ok64 (1 + x3.1)) ((z005 x3.2 4).bind fun x5 => ((getI [(1 + x1.1), (1 + x1.1), (1 + x1.1), (1 + x3.1)] x5.1).bind fun x6 => ((z005 x5.2 6).bind fun x7 => (if decide (x7.1 = 0) = true then ((z004 x7.2 (1 + x1.1) 1 [0] [2] 2).bind fun x9 => ((z004 x9.2 x6 2 [2] [1] 2).bind fun x10 => (some ((GNet.mk 3 [x9.1, x10.1]), x10.2)))) else (if decide (x7.1 = 1) = true then ((z004 x7.2 1 (1 + x1.1) [0] [2, 3] 4).bind fun x12 => ((z004 x12.2 1 1 [2] [4] 4).bind fun x13 => ((z004 x13.2 2 1 [3] [5] 4).bind fun x14 => ((z004 x14.2 x6 2 [4, 5] [1] 4).bind fun x15 => (some ((GNet.mk 6 [x12.1, x13.1, x14.1, x15.1]), x15.2)))))) else (if decide (x7.1 = 2) = true then ((z004 x7.2 2 1 [0] [2] 3).bind fun x17 => ((z005 x17.2 2).bind fun x18 => (gd (ok64 (2 + x18.1)) ((z004 x18.2 1 2 [2] [(2 + x18.1), 1] 3).bind fun x20 => ((z004 x20.2 2 1 [3] [2] 3).bind fun x21 => (some ((GNet.mk 4 [x17.1, x20.1, x21.1]), x21.2))))))) else (if decide (x7.1 = 3) = true then ((z004 x7.2 1 (1 + x1.1) [0] [2, 3, 4] 4).bind fun x23 => ((z004 x23.2 1 1 [2] [5] 4).bind fun x24 => ((z004 x24.2 x6 1 [3, 4] [6] 4).bind fun x25 => ((z005 x25.2 3).bind fun x26 => (gd (ok64 (1 + x26.1)) ((z004 x26.2 (1 + x26.1) 1 [5, 6] [1] 4).bind fun x28 => (some ((GNet.mk 7 [x23.1, x24.1, x25.1, x28.1]), x28.2)))))))) else (if decide (x7.1 = 4) = true then ((z004 x7.2 1 1 [0] [2, 3] 3).bind fun x30 => ((z004 x30.2 1 2 [2] [4, 1] 3).bind fun x31 => ((z004 x31.2 (1 + x1.1) 1 [3, 4] [1] 3).bind fun x32 => (some ((GNet.mk 5 [x30.1, x31.1, x32.1]), x32.2))))) else ((z005 x7.2 4).bind fun x33 => (gd (ok64 (3 + x33.1)) ((z005 x33.2 4).bind fun x35 => (gd (ok64 (1 + x35.1)) (z00l (1 + x35.1) (3 + x33.1) (z02l (3 + x33.1)) FUEL x35.2.b x35.2.p 0 ([] : List GTask)))))))))))))))))
def z016 : Con := ⟨138, [.ptr (.s .rd) false], [((.s .net), true)], [(0, .ptr (.s .rd) false)], fun x => z054 x.1⟩
def z0jj : Fs := ⟨[z0f7, z01m], [], []⟩
theorem z0c3 : z0jj.Ok Try.prog := (fsK z0ig (fsK z0mp fs0))
def z09g : Tmpl := ⟨[(0, .c (.bx 1000000 0)), (2, .c (.bx 2 0)), (5, .c (.bx 5 0)), (6, .c .i), (7, .c .i)], [(1000000, .box [.s .Y, .i]), (2, .box [.i, .nl]), (5, .box [.i, .ref 510501]), (510501, .arr (.s .task) true)]⟩
def z07w : Tmpl := ⟨[(2, .c (.bx 2 0)), (5, .c (.bx 5 0))], [(2, .box [.i, .nl]), (5, .box [.i, .ref 510501]), (1000000, .box [.s .Y, .i]), (510501, .arr (.s .task) true)]⟩
def z0fy (av : AV) (x : HP z016.ps) (n : Nat) (v : z09g.den) (K : Ks (CR z016)) : Option (CR z016) := z00l v.1.2.2.2.1 v.2.2.2.1.1 (fun s0_0 s0_1 l0_3 => z07w.at none (((), (), ()), ((v.2.2.1.1, (), ()), (v.2.2.2.1.1, (), ()), (s0_0, s0_1, ()), l0_3, ())) (K (.exit 1))) n v.2.1.1 v.2.1.2.1 v.1.2.2.2.2.1 v.2.2.2.2.1
def z08y (av : AV) (x : HP z016.ps) : Hdl (CR z016) := hnd [.b 5 1 510501 (.s .task)] z09g (z0fy av x)
theorem z0g9 : LP z016 Try.f138 [0] z08y := lp_ok (W := []) (H := []) (xs := [z07w]) z0c3 trivial rfl (fun av x v K => by kernel_rfl) (fun av x n v K => by kernel_rfl)
theorem z0k3 : z016.Ok Try.prog := fn_ok (k := z016) (fn := Try.f138) (W := []) (H := [z08y]) Try.func138 z0c3 ⟨z0g9, trivial⟩ rfl rfl (fun av x => by kernel_rfl)
def z05b (r : GRd) : Option (GNet × GRd) := (z054 r).bind fun x1 => ((z005 x1.2 3).bind fun x2 => (if decide (x2.1 = 0) = true then (if decide (3 < x1.1.places) = true then (if decide (0 < (x1.1.tasks.length : Int)) = true then ((z005 x2.2 (x1.1.tasks.length : Int)).bind fun x6 => ((getI x1.1.tasks x6.1).bind fun x7 => ((z01z (GNet.mk x1.1.places (x1.1.tasks.set x6.1.toNat (GTask.mk x7.join x7.split x7.in_ x7.out [2, 3] x7.role x7.apart x7.all x7.need)))).bind fun x8 => (if x8 = true then (some ((GNet.mk x1.1.places (x1.1.tasks.set x6.1.toNat (GTask.mk x7.join x7.split x7.in_ x7.out [2, 3] x7.role x7.apart x7.all x7.need))), x6.2)) else (some ((GNet.mk 2 [(GTask.mk 1 1 [0] [(GFlow.mk 1 (GAsk.mk 0 0 0))] [] 1 (-1) 1 1)]), x6.2)))))) else ((z01z x1.1).bind fun x10 => (if x10 = true then (some (x1.1, x2.2)) else (some ((GNet.mk 2 [(GTask.mk 1 1 [0] [(GFlow.mk 1 (GAsk.mk 0 0 0))] [] 1 (-1) 1 1)]), x2.2))))) else ((z01z x1.1).bind fun x12 => (if x12 = true then (some (x1.1, x2.2)) else (some ((GNet.mk 2 [(GTask.mk 1 1 [0] [(GFlow.mk 1 (GAsk.mk 0 0 0))] [] 1 (-1) 1 1)]), x2.2))))) else ((z01z x1.1).bind fun x14 => (if x14 = true then (some (x1.1, x2.2)) else (some ((GNet.mk 2 [(GTask.mk 1 1 [0] [(GFlow.mk 1 (GAsk.mk 0 0 0))] [] 1 (-1) 1 1)]), x2.2))))))
def z06w : Con := ⟨98, [.ptr (.s .rd) false], [((.s .net), true)], [(0, .ptr (.s .rd) false)], fun x => z05b x.1⟩
def z0nw : Fs := ⟨[z016, z0f7, z01a], [], []⟩
theorem z0oa : z0nw.Ok Try.prog := (fsK z0k3 (fsK z0ig (fsK z08o fs0)))
theorem z0fn : z06w.Ok Try.prog := fn_ok (k := z06w) (fn := Try.f98) (W := []) (H := []) Try.func98 z0oa trivial rfl rfl (fun av x => by kernel_rfl)
def z04a (r : GRd) (n : Int) : Option (GNet × GRd) := (z05b r).bind fun x1 => ((z005 x1.2 n).bind fun x2 => (if decide (0 < x2.1) = true then (some (x1.1, x2.2)) else ((z005 x2.2 6).bind fun x4 => (if decide (x4.1 = 0) = true then ((z005 x4.2 3).bind fun x6 => ((getI [1, 2, 9] x6.1).bind fun x7 => (some ((GNet.mk x7 x1.1.tasks), x6.2)))) else ((z005 x4.2 (x1.1.tasks.length : Int)).bind fun x8 => ((getI x1.1.tasks x8.1).bind fun x9 => ((z005 x8.2 9).bind fun x10 => (if decide (x10.1 = 0) = true then ((z005 x10.2 2).bind fun x12 => ((getI [0, 4] x12.1).bind fun x13 => ((getI x1.1.tasks x8.1).bind fun x14 => (some ((GNet.mk x1.1.places (x1.1.tasks.set x8.1.toNat (GTask.mk x13 x9.split x9.in_ x9.out x9.clear x9.role x9.apart x9.all x9.need))), x12.2))))) else (if decide (x10.1 = 1) = true then ((z005 x10.2 4).bind fun x16 => ((getI [0, 4, 1, 2] x16.1).bind fun x17 => ((getI x1.1.tasks x8.1).bind fun x18 => (some ((GNet.mk x1.1.places (x1.1.tasks.set x8.1.toNat (GTask.mk x9.join x17 x9.in_ x9.out x9.clear x9.role x9.apart x9.all x9.need))), x16.2))))) else (if decide (x10.1 = 2) = true then (gd (([] : List Int).length + x9.in_.length ≤ SMALL) ((z005 x10.2 4).bind fun x21 => ((getI [1, 0, 7, 3] x21.1).bind fun x22 => (gd ((([] : List Int) ++ x9.in_).length + [x22].length ≤ SMALL) ((getI x1.1.tasks x8.1).bind fun x24 => (some ((GNet.mk x1.1.places (x1.1.tasks.set x8.1.toNat (GTask.mk x9.join x9.split ((([] : List Int) ++ x9.in_) ++ [x22]) x9.out x9.clear x9.role x9.apart x9.all x9.need))), x21.2))))))) else (if decide (x10.1 = 3) = true then (gd (([] : List GFlow).length + x9.out.length ≤ SMALL) ((z005 x10.2 4).bind fun x27 => ((z076 x27.2 2).bind fun x28 => (gd ((([] : List GFlow) ++ x9.out).length + [(GFlow.mk x27.1 x28.1)].length ≤ SMALL) ((getI x1.1.tasks x8.1).bind fun x30 => (some ((GNet.mk x1.1.places (x1.1.tasks.set x8.1.toNat (GTask.mk x9.join x9.split x9.in_ ((([] : List GFlow) ++ x9.out) ++ [(GFlow.mk x27.1 x28.1)]) x9.clear x9.role x9.apart x9.all x9.need))), x28.2))))))) else (if decide (x10.1 = 4) = true then (gd (([] : List Int).length + x9.clear.length ≤ SMALL) ((z005 x10.2 4).bind fun x33 => ((getI [0, 1, 2, 9] x33.1).bind fun x34 => (gd ((([] : List Int) ++ x9.clear).length + [x34].length ≤ SMALL) ((getI x1.1.tasks x8.1).bind fun x36 => (some ((GNet.mk x1.1.places (x1.1.tasks.set x8.1.toNat (GTask.mk x9.join x9.split x9.in_ x9.out ((([] : List Int) ++ x9.clear) ++ [x34]) x9.role x9.apart x9.all x9.need))), x33.2))))))) else (if decide (x10.1 = 5) = true then ((z005 x10.2 2).bind fun x38 => ((getI [0, 4] x38.1).bind fun x39 => ((getI x1.1.tasks x8.1).bind fun x40 => (some ((GNet.mk x1.1.places (x1.1.tasks.set x8.1.toNat (GTask.mk x9.join x9.split x9.in_ x9.out x9.clear x39 x9.apart x9.all x9.need))), x38.2))))) else (if decide (x10.1 = 6) = true then ((z005 x10.2 2).bind fun x42 => ((getI [(-2), 6] x42.1).bind fun x43 => ((getI x1.1.tasks x8.1).bind fun x44 => (some ((GNet.mk x1.1.places (x1.1.tasks.set x8.1.toNat (GTask.mk x9.join x9.split x9.in_ x9.out x9.clear x9.role x43 x9.all x9.need))), x42.2))))) else (if decide (x10.1 = 7) = true then (gd (ok64 (x9.all + 1)) ((z005 x10.2 2).bind fun x47 => ((getI [0, (x9.all + 1)] x47.1).bind fun x48 => ((getI x1.1.tasks x8.1).bind fun x49 => (some ((GNet.mk x1.1.places (x1.1.tasks.set x8.1.toNat (GTask.mk x9.join x9.split x9.in_ x9.out x9.clear x9.role x9.apart x9.all x48))), x47.2)))))) else ((z005 x10.2 3).bind fun x50 => ((getI [0, 4, 1] x50.1).bind fun x51 => ((getI x1.1.tasks x8.1).bind fun x52 => (some ((GNet.mk x1.1.places (x1.1.tasks.set x8.1.toNat (GTask.mk x9.join x9.split x9.in_ x9.out x9.clear x9.role x9.apart x51 x9.need))), x50.2))))))))))))))))))))
def z06d : Con := ⟨102, [.ptr (.s .rd) false, .v .I false], [((.s .net), false)], [(0, .ptr (.s .rd) false)], fun x => z04a x.1 x.2.1⟩
def z0h5 : Fs := ⟨[z06w, z0f7, z0al], [], []⟩
theorem z0hm : z0h5.Ok Try.prog := (fsK z0fn (fsK z0ig (fsK z0ov fs0)))
theorem z0ik : z06d.Ok Try.prog := fn_ok (k := z06d) (fn := Try.f102) (W := [(8, [.share 10009])]) (H := []) Try.func102 z0hm trivial rfl rfl (fun av x => by kernel_rfl)
def z03e (p : Int) (n : Int) (s0_0 : List Int) (s0_1 : Int) (l0_3 : List Int) : Option ((List Int) × GRd) := if decide (1 < p) = true then ((z005 (GRd.mk s0_0 s0_1) 4).bind fun x7 => (if decide (0 < x7.1) = true then ((getI l0_3 1).bind fun x9 => ((z005 x7.2 n).bind fun x10 => (if decide (x10.1 = 0) = true then ((z005 x10.2 2).bind fun x12 => (if decide (x12.1 = 0) = true then (if decide (0 < p) = true then ((z005 x12.2 p).bind fun x15 => ((z005 x15.2 2).bind fun x16 => ((getI [(-1), 5] x16.1).bind fun x17 => ((getI (l0_3.set (1 : Int).toNat 0) x15.1).bind fun x18 => (some (((l0_3.set (1 : Int).toNat 0).set x15.1.toNat x17), x16.2)))))) else (gd ((l0_3.set (1 : Int).toNat 0).length + [0].length ≤ SMALL) (some (((l0_3.set (1 : Int).toNat 0) ++ [0]), x12.2)))) else (gd ((l0_3.set (1 : Int).toNat 0).length + [0].length ≤ SMALL) (some (((l0_3.set (1 : Int).toNat 0) ++ [0]), x12.2))))) else (some ((l0_3.set (1 : Int).toNat 0), x10.2))))) else ((z005 x7.2 n).bind fun x21 => (if decide (x21.1 = 0) = true then ((z005 x21.2 2).bind fun x23 => (if decide (x23.1 = 0) = true then (if decide (0 < p) = true then ((z005 x23.2 p).bind fun x26 => ((z005 x26.2 2).bind fun x27 => ((getI [(-1), 5] x27.1).bind fun x28 => ((getI l0_3 x26.1).bind fun x29 => (some ((l0_3.set x26.1.toNat x28), x27.2)))))) else (gd (l0_3.length + [0].length ≤ SMALL) (some ((l0_3 ++ [0]), x23.2)))) else (gd (l0_3.length + [0].length ≤ SMALL) (some ((l0_3 ++ [0]), x23.2))))) else (some (l0_3, x21.2)))))) else ((z005 (GRd.mk s0_0 s0_1) n).bind fun x32 => (if decide (x32.1 = 0) = true then ((z005 x32.2 2).bind fun x34 => (if decide (x34.1 = 0) = true then (if decide (0 < p) = true then ((z005 x34.2 p).bind fun x37 => ((z005 x37.2 2).bind fun x38 => ((getI [(-1), 5] x38.1).bind fun x39 => ((getI l0_3 x37.1).bind fun x40 => (some ((l0_3.set x37.1.toNat x39), x38.2)))))) else (gd (l0_3.length + [0].length ≤ SMALL) (some ((l0_3 ++ [0]), x34.2)))) else (gd (l0_3.length + [0].length ≤ SMALL) (some ((l0_3 ++ [0]), x34.2))))) else (some (l0_3, x32.2))))
def z01r (p : Int) (kx0_0 : List Int → Int → List Int → Option ((List Int) × GRd)) : Nat → List Int → Int → Int → List Int → Option ((List Int) × GRd)
  | 0, _, _, _, _ => none
  | n0 + 1, s0_0, s0_1, s0_2, l0_3 => if decide (s0_2 < p) = true then ((z005 (GRd.mk s0_0 s0_1) 6).bind fun x2 => ((getI [0, 0, 1, 1, 2, 4] x2.1).bind fun x3 => (gd (l0_3.length + [x3].length ≤ SMALL) (gd (ok64 (s0_2 + 1)) ((z01r p kx0_0 n0) x2.2.b x2.2.p (s0_2 + 1) (l0_3 ++ [x3])))))) else (kx0_0 s0_0 s0_1 l0_3)
def z053 (r : GRd) (p : Int) (n : Int) : Option ((List Int) × GRd) := z01r p (z03e p n) FUEL r.b r.p 0 ([] : List Int)
def z015 : Con := ⟨103, [.ptr (.s .rd) false, .v .I false, .v .I false], [((.sl .I), true)], [(0, .ptr (.s .rd) false)], fun x => z053 x.1 x.2.1 x.2.2.1⟩
def z0ji : Fs := ⟨[z0f7], [], []⟩
theorem z0c2 : z0ji.Ok Try.prog := (fsK z0ig fs0)
def z09f : Tmpl := ⟨[(0, .c (.bx 1000000 0)), (1, .c .i), (2, .c .i), (7, .c (.ref 9)), (8, .c .i)], [(1000000, .box [.s .Y, .i]), (9, .arr .I true)]⟩
def z07v : Tmpl := ⟨[(0, .c (.bx 1000000 0)), (1, .c .i), (2, .c .i), (7, .c (.ref 9))], [(1000000, .box [.s .Y, .i]), (9, .arr .I true)]⟩
def z0fx (av : AV) (x : HP z015.ps) (n : Nat) (v : z09f.den) (K : Ks (CR z015)) : Option (CR z015) := z01r v.1.2.1 (fun s0_0 s0_1 l0_3 => z07v.at none (((), v.1.2.1, v.1.2.2.1, (), ()), ((s0_0, s0_1, ()), l0_3, ())) (K (.exit 0))) n v.2.1.1 v.2.1.2.1 v.1.2.2.2.2.1 v.2.2.1
def z08x (av : AV) (x : HP z015.ps) : Hdl (CR z015) := hnd [] z09f (z0fx av x)
theorem z0g8 : LP z015 Try.f103 [0] z08x := lp_ok (W := []) (H := []) (xs := [z07v]) z0c2 trivial rfl (fun av x v K => by kernel_rfl) (fun av x n v K => by kernel_rfl)
theorem z0k2 : z015.Ok Try.prog := fn_ok (k := z015) (fn := Try.f103) (W := []) (H := [z08x]) Try.func103 z0c2 ⟨z0g8, trivial⟩ rfl rfl (fun av x => by kernel_rfl)
def z03r (k : Int) (s0_0 : List Int) (s0_1 : Int) (l0_3 : List GItem) : Option ((List GItem) × GRd) := (z005 (GRd.mk s0_0 s0_1) k).bind fun x14 => (if decide (x14.1 = 0) = true then ((z005 x14.2 3).bind fun x16 => ((getI [(-1), 6, 0] x16.1).bind fun x17 => ((z005 x16.2 3).bind fun x18 => ((getI [0, 5, 1] x18.1).bind fun x19 => ((z005 x18.2 3).bind fun x20 => ((getI [(-1), 3, 0] x20.1).bind fun x21 => (gd (l0_3.length + [(GItem.mk x17 x19 x21)].length ≤ SMALL) (some ((l0_3 ++ [(GItem.mk x17 x19 x21)]), x20.2))))))))) else (some (l0_3, x14.2)))
def z01c (n : GNet) (kx0_0 : List Int → Int → List GItem → Option ((List GItem) × GRd)) : Nat → List Int → Int → Int → List GItem → Option ((List GItem) × GRd)
  | 0, _, _, _, _ => none
  | n0 + 1, s0_0, s0_1, s0_2, l0_3 => if decide (0 < s0_2) = true then ((z005 (GRd.mk s0_0 s0_1) (n.tasks.length : Int)).bind fun x3 => ((z005 x3.2 4).bind fun x4 => (gd (ok64 (1 + x4.1)) ((getI n.tasks x3.1).bind fun x6 => (if decide (1 < x6.need) = true then ((getI n.tasks x3.1).bind fun x8 => ((z005 x4.2 x8.need).bind fun x9 => (gd (l0_3.length + [(GItem.mk x3.1 (1 + x4.1) x9.1)].length ≤ SMALL) (gd (ok64 (s0_2 - 1)) ((z01c n kx0_0 n0) x9.2.b x9.2.p (s0_2 - 1) (l0_3 ++ [(GItem.mk x3.1 (1 + x4.1) x9.1)])))))) else (gd (l0_3.length + [(GItem.mk x3.1 (1 + x4.1) 0)].length ≤ SMALL) (gd (ok64 (s0_2 - 1)) ((z01c n kx0_0 n0) x4.2.b x4.2.p (s0_2 - 1) (l0_3 ++ [(GItem.mk x3.1 (1 + x4.1) 0)]))))))))) else (kx0_0 s0_0 s0_1 l0_3)
def z05y (r : GRd) (n : GNet) (k : Int) : Option ((List GItem) × GRd) := (z005 r 3).bind fun x1 => (z01c n (z03r k) FUEL x1.2.b x1.2.p x1.1 ([] : List GItem))
def z01k : Con := ⟨104, [.ptr (.s .rd) false, .v (.s .net) false, .v .I false], [((.sl (.s .item)), true)], [(0, .ptr (.s .rd) false)], fun x => z05y x.1 x.2.1 x.2.2.1⟩
def z0le : Fs := ⟨[z0f7], [], []⟩
theorem z0dx : z0le.Ok Try.prog := (fsK z0ig fs0)
def z0b7 : Tmpl := ⟨[(0, .c (.bx 1000000 0)), (2, .c .i), (4, .c (.bx 4 0)), (7, .c (.ref 11)), (8, .c .i)], [(1000000, .box [.s .Y, .i]), (4, .boxT (.s .net)), (11, .arr (.s .item) true)]⟩
def z09p : Tmpl := ⟨[(0, .c (.bx 1000000 0)), (2, .c .i), (7, .c (.ref 11))], [(1000000, .box [.s .Y, .i]), (11, .arr (.s .item) true)]⟩
def z0gs (av : AV) (x : HP z01k.ps) (n : Nat) (v : z0b7.den) (K : Ks (CR z01k)) : Option (CR z01k) := z01c v.2.2.1 (fun s0_0 s0_1 l0_3 => z09p.at none (((), v.1.2.1, (), ()), ((s0_0, s0_1, ()), l0_3, ())) (K (.exit 0))) n v.2.1.1 v.2.1.2.1 v.1.2.2.2.2.1 v.2.2.2.1
def z0aa (av : AV) (x : HP z01k.ps) : Hdl (CR z01k) := hnd [] z0b7 (z0gs av x)
theorem z0i2 : LP z01k Try.f104 [0] z0aa := lp_ok (W := []) (H := []) (xs := [z09p]) z0dx trivial rfl (fun av x v K => by kernel_rfl) (fun av x n v K => by kernel_rfl)
theorem z0mm : z01k.Ok Try.prog := fn_ok (k := z01k) (fn := Try.f104) (W := []) (H := [z0aa]) Try.func104 z0dx ⟨z0i2, trivial⟩ rfl rfl (fun av x => by kernel_rfl)
def z03c (r : GRd) (n : Int) : Option ((List Int) × GRd) := (z005 r 5).bind fun x1 => ((getI [[7], [7, 7], [1, 2, 4], [3, 5, 6, 7], [7, 3, 4]] x1.1).bind fun x2 => (gd (([] : List Int).length + x2.length ≤ SMALL) ((z005 x1.2 n).bind fun x4 => (if decide (x4.1 = 0) = true then ((z005 x4.2 3).bind fun x6 => (if decide (x6.1 = 0) = true then (some (([] : List Int), x6.2)) else (if decide (x6.1 = 1) = true then ((z005 x6.2 3).bind fun x9 => ((getI [(-1), 8, 0] x9.1).bind fun x10 => ((getI (([] : List Int) ++ x2) 0).bind fun x11 => (some (((([] : List Int) ++ x2).set (0 : Int).toNat x10), x9.2))))) else (some ([1, 1, 1, 1, 1], x6.2))))) else (some ((([] : List Int) ++ x2), x4.2))))))
def z06e : Con := ⟨99, [.ptr (.s .rd) false, .v .I false], [((.sl .I), true)], [(0, .ptr (.s .rd) false)], fun x => z03c x.1 x.2.1⟩
def z0h6 : Fs := ⟨[z0f7], [], []⟩
theorem z0hn : z0h6.Ok Try.prog := (fsK z0ig fs0)
theorem z0il : z06e.Ok Try.prog := fn_ok (k := z06e) (fn := Try.f99) (W := []) (H := []) Try.func99 z0hn trivial rfl rfl (fun av x => by kernel_rfl)
def z061 (r : GRd) (n : GNet) (p : List Int) (c : GCase) : Option (GCase × GRd) := if decide (0 < (c.busy.length : Int)) = true then ((z005 r 3).bind fun x2 => (if decide (0 < x2.1) = true then ((z005 x2.2 (c.busy.length : Int)).bind fun x4 => ((z005 x4.2 4).bind fun x5 => (gd (ok64 (x5.1 - 1)) ((z005 x5.2 7).bind fun x7 => (gd (ok64 (x7.1 - 2)) ((z05v n c x4.1 (x5.1 - 1) (x7.1 - 2)).bind fun x9 => (some (x9.1, x7.2)))))))) else ((z03l n c.marks c.busy).bind fun x10 => (if decide ((x10.length : Int) = 0) = true then (some (c, x2.2)) else ((z005 x2.2 (x10.length : Int)).bind fun x12 => ((getI x10 x12.1).bind fun x13 => ((z03z n p c.did c.busy x13).bind fun x14 => (if decide ((x14.length : Int) = 0) = true then (some (c, x12.2)) else ((z005 x12.2 (x14.length : Int)).bind fun x16 => ((getI x14 x16.1).bind fun x17 => ((z03k n p c x13 x17).bind fun x18 => (some (x18.1, x16.2))))))))))))) else ((z03l n c.marks c.busy).bind fun x19 => (if decide ((x19.length : Int) = 0) = true then (some (c, r)) else ((z005 r (x19.length : Int)).bind fun x21 => ((getI x19 x21.1).bind fun x22 => ((z03z n p c.did c.busy x22).bind fun x23 => (if decide ((x23.length : Int) = 0) = true then (some (c, x21.2)) else ((z005 x21.2 (x23.length : Int)).bind fun x25 => ((getI x23 x25.1).bind fun x26 => ((z03k n p c x22 x26).bind fun x27 => (some (x27.1, x25.2)))))))))))
def z08d : Con := ⟨66, [.ptr (.s .rd) false, .v (.s .net) false, .v (.sl .I) false, .v (.s .kase) true], [((.s .kase), true)], [(0, .ptr (.s .rd) false)], fun x => z061 x.1 x.2.1 x.2.2.1 x.2.2.2.1⟩
def z0lj : Fs := ⟨[z0f7, z08b, z014, z00f, z07i], [], []⟩
theorem z0ly : z0lj.Ok Try.prog := (fsK z0ig (fsK z0mj (fsK z0k0 (fsK z0fm (fsK z0jz fs0)))))
theorem z0mr : z08d.Ok Try.prog := fn_ok (k := z08d) (fn := Try.f66) (W := []) (H := []) Try.func66 z0ly trivial rfl rfl (fun av x => by kernel_rfl)
def z02u (n : Int) (p0_0 : List Int) (p0_3 : GNet) (s0_0 : List Int) (s0_1 : Int) (s0_2 : Int) (l0_4 : List Int) (l0_5 : List GItem) (l0_6 : List Int) (l0_7 : List GDid) : Option (GNet × (List Int) × GCase × GRd) := (z005 (GRd.mk s0_0 s0_1) n).bind fun x11 => (if decide (0 < x11.1) = true then (some (p0_3, p0_0, (GCase.mk s0_2 l0_4 l0_5 l0_6 l0_7), x11.2)) else ((z005 x11.2 7).bind fun x13 => (if decide (x13.1 = 0) = true then ((z04a x13.2 1).bind fun x15 => (some (x15.1, p0_0, (GCase.mk s0_2 l0_4 l0_5 l0_6 l0_7), x15.2))) else (if decide (x13.1 = 1) = true then ((z005 x13.2 5).bind fun x17 => (some (p0_3, p0_0, (GCase.mk x17.1 l0_4 l0_5 l0_6 l0_7), x17.2))) else (if decide (x13.1 = 2) = true then ((z053 x13.2 p0_3.places 2).bind fun x19 => (some (p0_3, p0_0, (GCase.mk s0_2 x19.1 l0_5 l0_6 l0_7), x19.2))) else (if decide (x13.1 = 3) = true then ((z05y x13.2 p0_3 2).bind fun x21 => (some (p0_3, p0_0, (GCase.mk s0_2 l0_4 x21.1 l0_6 l0_7), x21.2))) else (if decide (x13.1 = 4) = true then ((z04b x13.2 1).bind fun x23 => (some (p0_3, p0_0, (GCase.mk s0_2 l0_4 l0_5 x23.1 l0_7), x23.2))) else (if decide (x13.1 = 5) = true then ((z005 x13.2 3).bind fun x25 => ((getI [(-1), 6, 0] x25.1).bind fun x26 => ((z005 x25.2 3).bind fun x27 => ((getI [0, 5, 1] x27.1).bind fun x28 => (gd (l0_7.length + [(GDid.mk x26 x28)].length ≤ SMALL) (some (p0_3, p0_0, (GCase.mk s0_2 l0_4 l0_5 l0_6 (l0_7 ++ [(GDid.mk x26 x28)])), x27.2))))))) else ((z03c x13.2 1).bind fun x30 => (some (p0_3, x30.1, (GCase.mk s0_2 l0_4 l0_5 l0_6 l0_7), x30.2)))))))))))
def z01d (p0_0 : List Int) (p0_3 : GNet) (kx0_0 : List Int → Int → Int → List Int → List GItem → List Int → List GDid → Option (GNet × (List Int) × GCase × GRd)) : Nat → List Int → Int → Int → Int → List Int → List GItem → List Int → List GDid → Option (GNet × (List Int) × GCase × GRd)
  | 0, _, _, _, _, _, _, _, _ => none
  | n0 + 1, s0_0, s0_1, s0_2, s0_3, l0_4, l0_5, l0_6, l0_7 => if decide (0 < s0_3) = true then ((z061 (GRd.mk s0_0 s0_1) p0_3 p0_0 (GCase.mk s0_2 l0_4 l0_5 l0_6 l0_7)).bind fun x9 => (gd (ok64 (s0_3 - 1)) ((z01d p0_0 p0_3 kx0_0 n0) x9.2.b x9.2.p x9.1.state (s0_3 - 1) x9.1.marks x9.1.busy x9.1.data x9.1.did))) else (kx0_0 s0_0 s0_1 s0_2 l0_4 l0_5 l0_6 l0_7)
def z060 (r : GRd) (n : Int) : Option (GNet × (List Int) × GCase × GRd) := (z05b r).bind fun x1 => ((z03c x1.2 99999).bind fun x2 => ((z04b x2.2 99999).bind fun x3 => ((z072 x1.1 x3.1).bind fun x4 => ((z005 x3.2 16).bind fun x5 => ((z005 x5.2 5).bind fun x6 => ((getI [0, 3, 6, 12, x5.1] x6.1).bind fun x7 => (z01d x2.1 x1.1 (z02u n x2.1 x1.1) FUEL x6.2.b x6.2.p x4.state x7 x4.marks x4.busy x4.data x4.did)))))))
def z01n : Con := ⟨48, [.ptr (.s .rd) false, .v .I false], [((.s .net), false), ((.sl .I), false), ((.s .kase), false)], [(0, .ptr (.s .rd) false)], fun x => z060 x.1 x.2.1⟩
def z0li : Fs := ⟨[z06w, z06e, z01l, z0aj, z0f7, z08d, z06d, z015, z01k], [], []⟩
theorem z0e0 : z0li.Ok Try.prog := (fsK z0fn (fsK z0il (fsK z0mn (fsK z0or (fsK z0ig (fsK z0mr (fsK z0ik (fsK z0k2 (fsK z0mm fs0)))))))))
def z0ba : Tmpl := ⟨[(0, .c (.bx 1000000 0)), (1, .c .i), (4, .c (.bx 4 0)), (6, .c (.bx 6 0)), (7, .c (.bx 7 0)), (8, .c (.s .I)), (9, .c (.bx 9 0)), (10, .c .i)], [(1000000, .box [.s .Y, .i]), (4, .box [.i, .nl]), (6, .box [.i, .nl, .nl, .nl, .nl]), (7, .boxT (.s .net)), (9, .box [.i, .ref 10018, .ref 20018, .ref 30018, .ref 40018]), (10018, .arr .I true), (20018, .arr (.s .item) true), (30018, .arr .I true), (40018, .arr (.s .did) true)]⟩
def z09s : Tmpl := ⟨[(0, .c (.bx 1000000 0)), (1, .c .i), (4, .c (.bx 4 0)), (6, .c (.bx 6 0)), (7, .c (.bx 7 0)), (8, .c (.s .I)), (9, .c (.bx 9 0))], [(1000000, .box [.s .Y, .i]), (4, .box [.i, .nl]), (6, .box [.i, .nl, .nl, .nl, .nl]), (7, .boxT (.s .net)), (9, .box [.i, .ref 10018, .ref 20018, .ref 30018, .ref 40018]), (10018, .arr .I true), (20018, .arr (.s .item) true), (30018, .arr .I true), (40018, .arr (.s .did) true)]⟩
def z0gv (av : AV) (x : HP z01n.ps) (n : Nat) (v : z0ba.den) (K : Ks (CR z01n)) : Option (CR z01n) := z01d v.1.2.2.2.2.2.1 v.2.2.2.2.1 (fun s0_0 s0_1 s0_2 l0_4 l0_5 l0_6 l0_7 => z09s.at none (((), v.1.2.1, (), (), (), v.1.2.2.2.2.2.1, (), ()), ((s0_0, s0_1, ()), (v.2.2.1.1, (), ()), (v.2.2.2.1.1, (), (), (), (), ()), v.2.2.2.2.1, (s0_2, (), (), (), (), ()), l0_4, l0_5, l0_6, l0_7, ())) (K (.exit 0))) n v.2.1.1 v.2.1.2.1 v.2.2.2.2.2.1.1 v.1.2.2.2.2.2.2.2.1 v.2.2.2.2.2.2.1 v.2.2.2.2.2.2.2.1 v.2.2.2.2.2.2.2.2.1 v.2.2.2.2.2.2.2.2.2.1
def z0ad (av : AV) (x : HP z01n.ps) : Hdl (CR z01n) := hnd [] z0ba (z0gv av x)
theorem z0i5 : LP z01n Try.f48 [0] z0ad := lp_ok (W := [(7, [.froz 10012, .froz 14]), (19, [.froz 10012]), (1000004, [.froz 14, .froz 10012])]) (H := []) (xs := [z09s]) z0e0 trivial rfl (fun av x v K => by kernel_rfl) (fun av x n v K => by kernel_rfl)
theorem z0mq : z01n.Ok Try.prog := fn_ok (k := z01n) (fn := Try.f48) (W := [(7, [.froz 10012, .froz 14]), (19, [.froz 10012]), (1000004, [.froz 14, .froz 10012])]) (H := [z0ad]) Try.func48 z0e0 ⟨z0i5, trivial⟩ rfl rfl (fun av x => by kernel_rfl)
def z048 (code : List Int) : Option (GNet × GCase) := (z05z code).bind fun x1 => ((z060 x1 2).bind fun x2 => (some (x2.1, x2.2.2.1)))
def z06c : Con := ⟨12, [.v (.sl .Y) false], [((.s .net), false), ((.s .kase), false)], [], fun x => z048 x.1⟩
def z0h4 : Fs := ⟨[z01n], [], [z0ed]⟩
theorem z0hh : z0h4.Ok Try.prog := (fsK z0mq (fsB z0mo fs0))
theorem z0ih : z06c.Ok Try.prog := fn_ok (k := z06c) (fn := Try.f12) (W := []) (H := []) Try.func12 z0hh trivial rfl rfl (fun av x => by kernel_rfl)
def z0at  : Option Bool := some true
def z02j (a : List Int) (b : List Int) (kx0_0 : Option Bool) : Nat → Int → Option Bool
  | 0, _ => none
  | n0 + 1, s0_0 => if decide (s0_0 < (a.length : Int)) = true then ((getI a s0_0).bind fun x3 => ((getI b s0_0).bind fun x4 => (if decide (x3 = x4) = true then (gd (ok64 (s0_0 + 1)) ((z02j a b kx0_0 n0) (s0_0 + 1))) else (some false)))) else (kx0_0)
def z059 (a : List Int) (b : List Int) : Option Bool := if decide ((a.length : Int) = (b.length : Int)) = true then (z02j a b z0at FUEL 0) else (some false)
def z026 : Con := ⟨27, [.v (.sl .I) false, .v (.sl .I) false], [(.B, true)], [], fun x => z059 x.1 x.2.1⟩
def z0no : Fs := ⟨[], [], []⟩
theorem z0fe : z0no.Ok Try.prog := fs0
def z0co : Tmpl := ⟨[(0, .c (.s .I)), (1, .c (.s .I)), (5, .c .i)], []⟩
def z0bf : Tmpl := ⟨[], []⟩
def z0j7 (av : AV) (x : HP z026.ps) (n : Nat) (v : z0co.den) (K : Ks (CR z026)) : Option (CR z026) := z02j v.1.1 v.1.2.1 (z0bf.at none ((), ()) (K (.exit 0))) n v.1.2.2.1
def z0c6 (av : AV) (x : HP z026.ps) : Hdl (CR z026) := hnd [] z0co (z0j7 av x)
theorem z0jr : LP z026 Try.f27 [0] z0c6 := lp_ok (W := []) (H := []) (xs := [z0bf]) z0fe trivial rfl (fun av x v K => by kernel_rfl) (fun av x n v K => by kernel_rfl)
theorem z0oq : z026.Ok Try.prog := fn_ok (k := z026) (fn := Try.f27) (W := []) (H := [z0c6]) Try.func27 z0fe ⟨z0jr, trivial⟩ rfl rfl (fun av x => by kernel_rfl)
def z0as  : Option Bool := some true
def z02i (a : List GItem) (b : List GItem) (kx0_0 : Option Bool) : Nat → Int → Option Bool
  | 0, _ => none
  | n0 + 1, s0_0 => if decide (s0_0 < (a.length : Int)) = true then ((getI a s0_0).bind fun x3 => ((getI b s0_0).bind fun x4 => (if decide ([x3.task, x3.who, x3.did] = [x4.task, x4.who, x4.did]) = true then (gd (ok64 (s0_0 + 1)) ((z02i a b kx0_0 n0) (s0_0 + 1))) else (some false)))) else (kx0_0)
def z070 (a : List GItem) (b : List GItem) : Option Bool := if decide ((a.length : Int) = (b.length : Int)) = true then (z02i a b z0as FUEL 0) else (some false)
def z025 : Con := ⟨59, [.v (.sl (.s .item)) false, .v (.sl (.s .item)) false], [(.B, true)], [], fun x => z070 x.1 x.2.1⟩
def z0nm : Fs := ⟨[], [], []⟩
theorem z0fd : z0nm.Ok Try.prog := fs0
def z0cn : Tmpl := ⟨[(0, .c (.s (.s .item))), (1, .c (.s (.s .item))), (5, .c .i)], []⟩
def z0be : Tmpl := ⟨[], []⟩
def z0j6 (av : AV) (x : HP z025.ps) (n : Nat) (v : z0cn.den) (K : Ks (CR z025)) : Option (CR z025) := z02i v.1.1 v.1.2.1 (z0be.at none ((), ()) (K (.exit 0))) n v.1.2.2.1
def z0c5 (av : AV) (x : HP z025.ps) : Hdl (CR z025) := hnd [] z0cn (z0j6 av x)
theorem z0jq : LP z025 Try.f59 [0] z0c5 := lp_ok (W := []) (H := []) (xs := [z0be]) z0fd trivial rfl (fun av x v K => by kernel_rfl) (fun av x n v K => by kernel_rfl)
theorem z0oo : z025.Ok Try.prog := fn_ok (k := z025) (fn := Try.f59) (W := []) (H := [z0c5]) Try.func59 z0fd ⟨z0jq, trivial⟩ rfl rfl (fun av x => by kernel_rfl)
def z0cd  : Option Bool := some true
def z02w (a : List GDid) (b : List GDid) (kx0_0 : Option Bool) : Nat → Int → Option Bool
  | 0, _ => none
  | n0 + 1, s0_0 => if decide (s0_0 < (a.length : Int)) = true then ((getI a s0_0).bind fun x3 => ((getI b s0_0).bind fun x4 => (if decide ([x3.task, x3.who] = [x4.task, x4.who]) = true then (gd (ok64 (s0_0 + 1)) ((z02w a b kx0_0 n0) (s0_0 + 1))) else (some false)))) else (kx0_0)
def z08k (a : List GDid) (b : List GDid) : Option Bool := if decide ((a.length : Int) = (b.length : Int)) = true then (z02w a b z0cd FUEL 0) else (some false)
def z02n : Con := ⟨28, [.v (.sl (.s .did)) false, .v (.sl (.s .did)) false], [(.B, true)], [], fun x => z08k x.1 x.2.1⟩
def z0px : Fs := ⟨[], [], []⟩
theorem z0he : z0px.Ok Try.prog := fs0
def z0et : Tmpl := ⟨[(0, .c (.s (.s .did))), (1, .c (.s (.s .did))), (5, .c .i)], []⟩
def z0cv : Tmpl := ⟨[], []⟩
def z0kr (av : AV) (x : HP z02n.ps) (n : Nat) (v : z0et.den) (K : Ks (CR z02n)) : Option (CR z02n) := z02w v.1.1 v.1.2.1 (z0cv.at none ((), ()) (K (.exit 0))) n v.1.2.2.1
def z0e3 (av : AV) (x : HP z02n.ps) : Hdl (CR z02n) := hnd [] z0et (z0kr av x)
theorem z0m3 : LP z02n Try.f28 [0] z0e3 := lp_ok (W := []) (H := []) (xs := [z0cv]) z0he trivial rfl (fun av x v K => by kernel_rfl) (fun av x n v K => by kernel_rfl)
theorem z0qt : z02n.Ok Try.prog := fn_ok (k := z02n) (fn := Try.f28) (W := []) (H := [z0e3]) Try.func28 z0he ⟨z0m3, trivial⟩ rfl rfl (fun av x => by kernel_rfl)
def z071 (a : GCase) (b : GCase) : Option Bool := if decide (a.state = b.state) = true then ((z059 a.marks b.marks).bind fun x2 => (if x2 = true then ((z070 a.busy b.busy).bind fun x4 => (if x4 = true then ((z059 a.data b.data).bind fun x6 => (if x6 = true then ((z08k a.did b.did).bind fun x8 => (some x8)) else (some false))) else (some false))) else (some false))) else (some false)
def z0ai : Con := ⟨16, [.v (.s .kase) false, .v (.s .kase) false], [(.B, true)], [], fun x => z071 x.1 x.2.1⟩
def z0nn : Fs := ⟨[z026, z025, z02n], [], []⟩
theorem z0o5 : z0nn.Ok Try.prog := (fsK z0oq (fsK z0oo (fsK z0qt fs0)))
theorem z0op : z0ai.Ok Try.prog := fn_ok (k := z0ai) (fn := Try.f16) (W := []) (H := []) Try.func16 z0o5 trivial rfl rfl (fun av x => by kernel_rfl)
def z0bn  : Option Bool := (z04m [0, 0, 0]).bind fun x1 => (some x1)
def z0f6 : Con := ⟨17, [], [(.B, true)], [], fun x => z0bn ⟩
def z0t0 : Fs := ⟨[z06a], [], []⟩
theorem z0t2 : z0t0.Ok Try.prog := (fsK z0df fs0)
theorem z0t7 : z0f6.Ok Try.prog := fn_ok (k := z0f6) (fn := Try.f17) (W := []) (H := []) Try.func17 z0t2 trivial rfl rfl (fun av x => by kernel_rfl)
def z08j (code : List Int) : Option Bool := if decide (1048576 < (code.length : Int)) = true then (some true) else ((z048 code).bind fun x2 => ((z06g x2.1 x2.2).bind fun x3 => ((z04n x2.1 x2.2).bind fun x4 => (if (x3 == x4) = true then (if x3 = true then ((z06i x2.1 x2.2.marks).bind fun x7 => (if x7 = true then ((z04m x2.2.data).bind fun x9 => (if x9 = true then ((getI x2.2.marks 1).bind fun x11 => (if ((decide (x2.2.state = 2)) == (decide (0 < x11))) = true then (if decide (x2.2.state = 1) = true then (some true) else (some (decide ((x2.2.busy.length : Int) = 0)))) else (some false))) else (some false))) else (some false))) else ((z05t x2.1 x2.2).bind fun x14 => (if x14.2 = true then (some false) else ((z071 x14.1 x2.2).bind fun x16 => (if x16 = true then ((z0bn).bind fun x18 => (some x18)) else (some false)))))) else (some false)))))
def z0ec : Con := ⟨3, [.v (.sl .Y) false], [(.B, true)], [], fun x => z08j x.1⟩
def z0la : Fs := ⟨[z06c, z02c, z01x, z088, z06a, z087, z0ai, z0f6], [], []⟩
theorem z0lv : z0la.Ok Try.prog := (fsK z0ih (fsK z0id (fsK z0di (fsK z0ie (fsK z0df (fsK z0mc (fsK z0op (fsK z0t7 fs0))))))))
theorem z0mi : z0ec.Ok Try.prog := fn_ok (k := z0ec) (fn := Try.f3) (W := []) (H := []) Try.func3 z0lv trivial rfl rfl (fun av x => by kernel_rfl)
end
end Go.Am
