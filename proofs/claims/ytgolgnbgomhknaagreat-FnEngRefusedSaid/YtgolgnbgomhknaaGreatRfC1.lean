/- Mirrors and contracts, printed. Own work. -/
import Derived.Test.YtgolgnbgomhknaaGreatRfD1
set_option linter.unusedSimpArgs false
set_option maxRecDepth 100000
set_option maxHeartbeats 4000000
set_option linter.unusedVariables false
namespace Go.Am
noncomputable section
open Go Go.Proofs
def z002 (n : Int) (low : Int) (high : Int) : Option Bool := if decide (low ≤ n) = true then (some (decide (n ≤ high))) else (some false)
def z00q : Con := ⟨90, [.v .I false, .v .I false, .v .I false], [(.B, true)], [], fun x => z002 x.1 x.2.1 x.2.2.1⟩
def z1gl : Fs := ⟨[], [], []⟩
theorem z1gp : z1gl.Ok Tryz.prog := fs0
theorem z00u : z00q.Ok Tryz.prog := fn_ok (k := z00q) (fn := Tryz.f90) (W := []) (H := []) Tryz.func90 z1gp trivial rfl rfl (fun av x => by kernel_rfl)
def z0oz  : Option Bool := some true
def z06s (data : List Int) (kx0_0 : Option Bool) : Nat → Int → Option Bool
  | 0, _ => none
  | n0 + 1, s0_0 => if decide (s0_0 < (data.length : Int)) = true then ((getI data s0_0).bind fun x3 => ((z002 x3 (-99) 99).bind fun x4 => (if x4 = true then (gd (ok64 (s0_0 + 1)) ((z06s data kx0_0 n0) (s0_0 + 1))) else (some false)))) else (kx0_0)
def z02o (data : List Int) : Option Bool := if decide ((data.length : Int) = 3) = true then (z06s data z0oz FUEL 0) else (some false)
def z019 : Con := ⟨89, [.v (.sl .I) false], [(.B, true)], [], fun x => z02o x.1⟩
def z1c7 : Fs := ⟨[z00q], [], []⟩
theorem z0yi : z1c7.Ok Tryz.prog := (fsK z00u fs0)
def z0tv : Tmpl := ⟨[(0, .c (.s .I)), (3, .c .i)], []⟩
def z0q9 : Tmpl := ⟨[], []⟩
def z147 (av : AV) (x : HP z019.ps) (n : Nat) (v : z0tv.den) (K : Ks (CR z019)) : Option (CR z019) := z06s v.1.1 (z0q9.at none ((), ()) (K (.exit 0))) n v.1.2.1
def z0si (av : AV) (x : HP z019.ps) : Hdl (CR z019) := hnd [] z0tv (z147 av x)
theorem z16a : LP z019 Tryz.f89 [0] z0si := lp_ok (W := []) (H := []) (xs := [z0q9]) z0yi trivial rfl (fun av x v K => by kernel_rfl) (fun av x n v K => by kernel_rfl)
theorem z06h : z019.Ok Tryz.prog := fn_ok (k := z019) (fn := Tryz.f89) (W := []) (H := [z0si]) Tryz.func89 z0yi ⟨z16a, trivial⟩ rfl rfl (fun av x => by kernel_rfl)
def z07i (data : List Int) (k : Int) (n : Int) : Option (List Int) := (z02o data).bind fun x1 => (if x1 = true then ((z002 k 0 2).bind fun x3 => (if x3 = true then ((z002 n (-99) 99).bind fun x5 => (if x5 = true then (gd (([] : List Int).length + data.length ≤ SMALL) ((getI (([] : List Int) ++ data) k).bind fun x8 => (some ((([] : List Int) ++ data).set k.toNat n)))) else (gd (([] : List Int).length + data.length ≤ SMALL) (some (([] : List Int) ++ data))))) else (gd (([] : List Int).length + data.length ≤ SMALL) (some (([] : List Int) ++ data))))) else (gd (([] : List Int).length + data.length ≤ SMALL) (some (([] : List Int) ++ data))))
def z0eo : Con := ⟨171, [.v (.sl .I) false, .v .I false, .v .I false], [((.sl .I), true)], [], fun x => z07i x.1 x.2.1 x.2.2.1⟩
def z18f : Fs := ⟨[z019, z00q], [], []⟩
theorem z19h : z18f.Ok Tryz.prog := (fsK z06h (fsK z00u fs0))
theorem z0ve : z0eo.Ok Tryz.prog := fn_ok (k := z0eo) (fn := Tryz.f171) (W := []) (H := []) Tryz.func171 z19h trivial rfl rfl (fun av x => by kernel_rfl)
def z06e (e : GAsk) : Option Bool := if decide (e.op = 0) = true then (some (decide ([e.op, e.var, e.k] = [0, 0, 0]))) else ((z002 e.op 1 3).bind fun x2 => (if x2 = true then ((z002 e.var 0 2).bind fun x4 => (if x4 = true then ((z002 e.k (-99) 99).bind fun x6 => (some x6)) else (some false))) else (some false)))
def z08u : Con := ⟨138, [.v (.s .ask) false], [(.B, true)], [], fun x => z06e x.1⟩
def z1ca : Fs := ⟨[z00q], [], []⟩
theorem z1cq : z1ca.Ok Tryz.prog := (fsK z00u fs0)
theorem z0dy : z08u.Ok Tryz.prog := fn_ok (k := z08u) (fn := Tryz.f138) (W := []) (H := []) Tryz.func138 z1cq trivial rfl rfl (fun av x => by kernel_rfl)
def z01e (e : GAsk) (data : List Int) : Option Bool := (z06e e).bind fun x1 => (if x1 = true then ((z02o data).bind fun x3 => (if x3 = true then (if decide (e.op = 1) = true then ((getI data e.var).bind fun x6 => (some (decide (x6 < e.k)))) else (if decide (e.op = 2) = true then ((getI data e.var).bind fun x8 => (some (decide (x8 = e.k)))) else (if decide (e.op = 3) = true then ((getI data e.var).bind fun x10 => (some (decide (e.k < x10)))) else (some true)))) else (some false))) else (some false))
def z042 : Con := ⟨181, [.v (.s .ask) false, .v (.sl .I) false], [(.B, true)], [], fun x => z01e x.1 x.2.1⟩
def z11o : Fs := ⟨[z08u, z019], [], []⟩
theorem z124 : z11o.Ok Tryz.prog := (fsK z0dy (fsK z06h fs0))
theorem z06z : z042.Ok Tryz.prog := fn_ok (k := z042) (fn := Tryz.f181) (W := []) (H := []) Tryz.func181 z124 trivial rfl rfl (fun av x => by kernel_rfl)
def z00c (n : Int) (low : Int) (high : Int) : Option Bool := if decide (low ≤ n) = true then (some (decide (n ≤ high))) else (some false)
def z02h : Con := ⟨113, [.v .I false, .v .I false, .v .I false], [(.B, true)], [], fun x => z00c x.1 x.2.1 x.2.2.1⟩
def z1l9 : Fs := ⟨[], [], []⟩
theorem z1le : z1l9.Ok Tryz.prog := fs0
theorem z036 : z02h.Ok Tryz.prog := fn_ok (k := z02h) (fn := Tryz.f113) (W := []) (H := []) Tryz.func113 z1le trivial rfl rfl (fun av x => by kernel_rfl)
def z055 (n : Int) : Option Bool := (z00c n (-99) 99).bind fun x1 => (some x1)
def z07r : Con := ⟨114, [.v .I false], [(.B, true)], [], fun x => z055 x.1⟩
def z14w : Fs := ⟨[z02h], [], []⟩
theorem z15o : z14w.Ok Tryz.prog := (fsK z036 fs0)
theorem z0d7 : z07r.Ok Tryz.prog := fn_ok (k := z07r) (fn := Tryz.f114) (W := []) (H := []) Tryz.func114 z15o trivial rfl rfl (fun av x => by kernel_rfl)
def z00g (list : List Int) : Option (List Int) := gd (([] : List Int).length + list.length ≤ SMALL) (some (([] : List Int) ++ list))
def z01r : Con := ⟨140, [.v (.sl .I) false], [((.sl .I), true)], [], fun x => z00g x.1⟩
def z0xy : Fs := ⟨[], [], []⟩
theorem z0ye : z0xy.Ok Tryz.prog := fs0
theorem z033 : z01r.Ok Tryz.prog := fn_ok (k := z01r) (fn := Tryz.f140) (W := []) (H := []) Tryz.func140 z0ye trivial rfl rfl (fun av x => by kernel_rfl)
def z07f (e : GAsk) : Option Bool := if decide (e.op = 0) = true then (if decide (e.var = 0) = true then (some (decide (e.k = 0))) else (some false)) else ((z00c e.op 1 3).bind fun x3 => (if x3 = true then ((z00c e.var 0 2).bind fun x5 => (if x5 = true then ((z055 e.k).bind fun x7 => (some x7)) else (some false))) else (some false)))
def z0dj : Con := ⟨141, [.v (.s .ask) false], [(.B, true)], [], fun x => z07f x.1⟩
def z1by : Fs := ⟨[z02h, z07r], [], []⟩
theorem z1cl : z1by.Ok Tryz.prog := (fsK z036 (fsK z0d7 fs0))
theorem z0r5 : z0dj.Ok Tryz.prog := fn_ok (k := z0dj) (fn := Tryz.f141) (W := []) (H := []) Tryz.func141 z1cl trivial rfl rfl (fun av x => by kernel_rfl)
def z0ix  : Option Bool := some true
def z03j (list : List Int) (low : Int) (high : Int) (kx0_0 : Option Bool) : Nat → Int → Option Bool
  | 0, _ => none
  | n0 + 1, s0_0 => if decide (s0_0 < (list.length : Int)) = true then ((getI list s0_0).bind fun x4 => ((z002 x4 low high).bind fun x5 => (if x5 = true then (if decide (0 < s0_0) = true then (gd (ok64 (s0_0 - 1)) ((getI list (s0_0 - 1)).bind fun x9 => ((getI list s0_0).bind fun x10 => (if decide (x10 ≤ x9) = true then (some false) else (gd (ok64 (s0_0 + 1)) ((z03j list low high kx0_0 n0) (s0_0 + 1))))))) else (gd (ok64 (s0_0 + 1)) ((z03j list low high kx0_0 n0) (s0_0 + 1)))) else (some false)))) else (kx0_0)
def z09s (list : List Int) (least : Int) (most : Int) (low : Int) (high : Int) : Option Bool := (z002 (list.length : Int) least most).bind fun x1 => (if x1 = true then (z03j list low high z0ix FUEL 0) else (some false))
def z03v : Con := ⟨214, [.v (.sl .I) false, .v .I false, .v .I false, .v .I false, .v .I false], [(.B, true)], [], fun x => z09s x.1 x.2.1 x.2.2.1 x.2.2.2.1 x.2.2.2.2.1⟩
def z15e : Fs := ⟨[z00q], [], []⟩
theorem z0s8 : z15e.Ok Tryz.prog := (fsK z00u fs0)
def z0mq : Tmpl := ⟨[(0, .c (.s .I)), (3, .c .i), (4, .c .i), (11, .c .i)], []⟩
def z0jr : Tmpl := ⟨[], []⟩
def z0xq (av : AV) (x : HP z03v.ps) (n : Nat) (v : z0mq.den) (K : Ks (CR z03v)) : Option (CR z03v) := z03j v.1.1 v.1.2.1 v.1.2.2.1 (z0jr.at none ((), ()) (K (.exit 0))) n v.1.2.2.2.1
def z0l3 (av : AV) (x : HP z03v.ps) : Hdl (CR z03v) := hnd [] z0mq (z0xq av x)
theorem z0zq : LP z03v Tryz.f214 [0] z0l3 := lp_ok (W := []) (H := []) (xs := [z0jr]) z0s8 trivial rfl (fun av x v K => by kernel_rfl) (fun av x n v K => by kernel_rfl)
theorem z178 : z03v.Ok Tryz.prog := fn_ok (k := z03v) (fn := Tryz.f214) (W := []) (H := [z0l3]) Tryz.func214 z0s8 ⟨z0zq, trivial⟩ rfl rfl (fun av x => by kernel_rfl)
def z0p9  : Option Bool := some false
def z06x (list : List Int) (n : Int) (kx0_0 : Option Bool) : Nat → Int → Option Bool
  | 0, _ => none
  | n0 + 1, s0_0 => if decide (s0_0 < (list.length : Int)) = true then ((getI list s0_0).bind fun x2 => (if decide (x2 = n) = true then (some true) else (gd (ok64 (s0_0 + 1)) ((z06x list n kx0_0 n0) (s0_0 + 1))))) else (kx0_0)
def z0aw (list : List Int) (n : Int) : Option Bool := z06x list n z0p9 FUEL 0
def z04g : Con := ⟨101, [.v (.sl .I) false, .v .I false], [(.B, true)], [], fun x => z0aw x.1 x.2.1⟩
def z1cg : Fs := ⟨[], [], []⟩
theorem z0ys : z1cg.Ok Tryz.prog := fs0
def z0u2 : Tmpl := ⟨[(0, .c (.s .I)), (1, .c .i), (5, .c .i)], []⟩
def z0qf : Tmpl := ⟨[], []⟩
def z14e (av : AV) (x : HP z04g.ps) (n : Nat) (v : z0u2.den) (K : Ks (CR z04g)) : Option (CR z04g) := z06x v.1.1 v.1.2.1 (z0qf.at none ((), ()) (K (.exit 0))) n v.1.2.2.1
def z0sp (av : AV) (x : HP z04g.ps) : Hdl (CR z04g) := hnd [] z0u2 (z14e av x)
theorem z16h : LP z04g Tryz.f101 [0] z0sp := lp_ok (W := []) (H := []) (xs := [z0qf]) z0ys trivial rfl (fun av x v K => by kernel_rfl) (fun av x n v K => by kernel_rfl)
theorem z0rc : z04g.Ok Tryz.prog := fn_ok (k := z04g) (fn := Tryz.f101) (W := []) (H := [z0sp]) Tryz.func101 z0ys ⟨z16h, trivial⟩ rfl rfl (fun av x => by kernel_rfl)
def z0iu (s0_0 : Int) (bk0 : Int → Option Bool) : Option Bool := gd (ok64 (s0_0 + 1)) (bk0 (s0_0 + 1))
def z02g (t : GTask) (s0_0 : Int) (x4 : GFlow) (kx1_0 : Option Bool) : Nat → Int → Option Bool
  | 0, _ => none
  | n1 + 1, s1_0 => if decide (s1_0 < s0_0) = true then ((getI t.out s1_0).bind fun x14 => (if decide (x14.to = x4.to) = true then (some false) else (gd (ok64 (s1_0 + 1)) ((z02g t s0_0 x4 kx1_0 n1) (s1_0 + 1))))) else (kx1_0)
def z0iv (s0_0 : Int) (bk0 : Int → Option Bool) : Option Bool := gd (ok64 (s0_0 + 1)) (bk0 (s0_0 + 1))
def z0iw  : Option Bool := some true
def z03i (t : GTask) (places : Int) (kx0_0 : Option Bool) : Nat → Int → Option Bool
  | 0, _ => none
  | n0 + 1, s0_0 => if decide (s0_0 < (t.out.length : Int)) = true then ((getI t.out s0_0).bind fun x4 => (gd (ok64 ((t.out.length : Int) - 1)) (if decide (s0_0 = ((t.out.length : Int) - 1)) = true then (gd (ok64 (places - 1)) ((z002 x4.to 1 (places - 1)).bind fun x8 => (if x8 = true then ((z06e x4.if_).bind fun x10 => (if x10 = true then (if (true == (decide (x4.if_.op = 0))) = true then (z02g t s0_0 x4 (z0iu s0_0 (z03i t places kx0_0 n0)) FUEL 0) else (some false)) else (some false))) else (some false)))) else (gd (ok64 (places - 1)) ((z002 x4.to 1 (places - 1)).bind fun x19 => (if x19 = true then ((z06e x4.if_).bind fun x21 => (if x21 = true then (if ((decide (t.split = 1)) == (decide (x4.if_.op = 0))) = true then (z02g t s0_0 x4 (z0iv s0_0 (z03i t places kx0_0 n0)) FUEL 0) else (some false)) else (some false))) else (some false))))))) else (kx0_0)
def z0d6 (t : GTask) (places : Int) : Option Bool := (z002 (t.out.length : Int) 1 3).bind fun x1 => (if x1 = true then (z03i t places z0iw FUEL 0) else (some false))
def z00z : Con := ⟨215, [.v (.s .task) false, .v .I false], [(.B, true)], [], fun x => z0d6 x.1 x.2.1⟩
def z15d : Fs := ⟨[z00q, z08u], [], []⟩
theorem z0h7 : z15d.Ok Tryz.prog := (fsK z00u (fsK z0dy fs0))
def z0go : Tmpl := ⟨[(1, .c .i), (2, .c (.bx 2 0)), (5, .c .i), (6, .c (.bx 6 0)), (8, .c .i)], [(2, .boxT (.s .task)), (6, .boxT (.s .flow))]⟩
def z0fs : Tmpl := ⟨[(1, .c .i), (2, .c (.bx 2 0)), (5, .c .i)], [(2, .boxT (.s .task))]⟩
def z0u7 (av : AV) (x : HP z00z.ps) (n : Nat) (v : z0go.den) (K : Ks (CR z00z)) : Option (CR z00z) := z02g v.2.1 v.1.2.2.1 v.2.2.1 (z0fs.at none ((v.1.1, (), v.1.2.2.1, ()), (v.2.1, ())) (K (.exit 2))) n v.1.2.2.2.2.1
def z0g9 (av : AV) (x : HP z00z.ps) : Hdl (CR z00z) := hnd [] z0go (z0u7 av x)
theorem z0uj : LP z00z Tryz.f215 [0, 0] z0g9 := lp_ok (W := []) (H := []) (xs := [z0fs]) z0h7 trivial rfl (fun av x v K => by kernel_rfl) (fun av x n v K => by kernel_rfl)
def z0mp : Tmpl := ⟨[(1, .c .i), (2, .c (.bx 2 0)), (5, .c .i)], [(2, .boxT (.s .task))]⟩
def z0jq : Tmpl := ⟨[], []⟩
def z0xp (av : AV) (x : HP z00z.ps) (n : Nat) (v : z0mp.den) (K : Ks (CR z00z)) : Option (CR z00z) := z03i v.2.1 v.1.1 (z0jq.at none ((), ()) (K (.exit 0))) n v.1.2.2.1
def z0l2 (av : AV) (x : HP z00z.ps) : Hdl (CR z00z) := hnd [] z0mp (z0xp av x)
theorem z0zp : LP z00z Tryz.f215 [0] z0l2 := lp_ok (W := []) (H := [z0g9]) (xs := [z0jq]) z0h7 ⟨z0uj, trivial⟩ rfl (fun av x v K => by kernel_rfl) (fun av x n v K => by kernel_rfl)
theorem z177 : z00z.Ok Tryz.prog := fn_ok (k := z00z) (fn := Tryz.f215) (W := []) (H := [z0l2]) Tryz.func215 z0h7 ⟨z0zp, trivial⟩ rfl rfl (fun av x => by kernel_rfl)
def z0f9 (t : GTask) (places : Int) (tasks : Int) : Option Bool := (z002 t.join 1 3).bind fun x1 => (if x1 = true then ((z002 t.split 1 3).bind fun x3 => (if x3 = true then (gd (ok64 (places - 1)) ((z09s t.in_ 1 3 0 (places - 1)).bind fun x6 => (if x6 = true then ((z0aw t.in_ 1).bind fun x8 => (if x8 = true then (some false) else ((z0d6 t places).bind fun x10 => (if x10 = true then (gd (ok64 (places - 1)) ((z09s t.clear 0 places 2 (places - 1)).bind fun x13 => (if x13 = true then ((z002 t.role 1 3).bind fun x15 => (if x15 = true then (gd (ok64 (tasks - 1)) ((z002 t.apart (-1) (tasks - 1)).bind fun x18 => (if x18 = true then ((z002 t.all 1 3).bind fun x20 => (if x20 = true then ((z002 t.need 1 t.all).bind fun x22 => (some x22)) else (some false))) else (some false)))) else (some false))) else (some false)))) else (some false))))) else (some false)))) else (some false))) else (some false))
def z0lf : Con := ⟨198, [.v (.s .task) false, .v .I false, .v .I false], [(.B, true)], [], fun x => z0f9 x.1 x.2.1 x.2.2.1⟩
def z18r : Fs := ⟨[z00q, z03v, z04g, z00z], [], []⟩
theorem z19o : z18r.Ok Tryz.prog := (fsK z00u (fsK z178 (fsK z0rc (fsK z177 fs0))))
theorem z1as : z0lf.Ok Tryz.prog := fn_ok (k := z0lf) (fn := Tryz.f198) (W := []) (H := []) Tryz.func198 z19o trivial rfl rfl (fun av x => by kernel_rfl)
def z0p2  : Option Bool := some true
def z06v (n : GNet) (kx0_0 : Option Bool) : Nat → Int → Option Bool
  | 0, _ => none
  | n0 + 1, s0_0 => if decide (s0_0 < (n.tasks.length : Int)) = true then ((getI n.tasks s0_0).bind fun x6 => ((z0f9 x6 n.places (n.tasks.length : Int)).bind fun x7 => (if x7 = true then (gd (ok64 (s0_0 + 1)) ((z06v n kx0_0 n0) (s0_0 + 1))) else (some false)))) else (kx0_0)
def z03e (n : GNet) : Option Bool := (z002 n.places 2 8).bind fun x1 => (if x1 = true then ((z002 (n.tasks.length : Int) 1 6).bind fun x3 => (if x3 = true then (z06v n z0p2 FUEL 0) else (some false))) else (some false))
def z02j : Con := ⟨161, [.v (.s .net) false], [(.B, true)], [], fun x => z03e x.1⟩
def z1cc : Fs := ⟨[z00q, z0lf], [], []⟩
theorem z0ym : z1cc.Ok Tryz.prog := (fsK z00u (fsK z1as fs0))
def z0ty : Tmpl := ⟨[(1, .c (.bx 1 0)), (3, .c .i)], [(1, .boxT (.s .net))]⟩
def z0qc : Tmpl := ⟨[], []⟩
def z14a (av : AV) (x : HP z02j.ps) (n : Nat) (v : z0ty.den) (K : Ks (CR z02j)) : Option (CR z02j) := z06v v.2.1 (z0qc.at none ((), ()) (K (.exit 0))) n v.1.2.1
def z0sl (av : AV) (x : HP z02j.ps) : Hdl (CR z02j) := hnd [] z0ty (z14a av x)
theorem z16d : LP z02j Tryz.f161 [0] z0sl := lp_ok (W := []) (H := []) (xs := [z0qc]) z0ym trivial rfl (fun av x v K => by kernel_rfl) (fun av x n v K => by kernel_rfl)
theorem z0dz : z02j.Ok Tryz.prog := fn_ok (k := z02j) (fn := Tryz.f161) (W := []) (H := [z0sl]) Tryz.func161 z0ym ⟨z16d, trivial⟩ rfl rfl (fun av x => by kernel_rfl)
def z0ax (s1_0 : Int) (bk1 : Int → List Bool → Option (List Bool)) (l3_1 : List Bool) : Option (List Bool) := gd (ok64 (s1_0 + 1)) (bk1 (s1_0 + 1) l3_1)
def z0ay (s1_0 : Int) (bk1 : Int → List Bool → Option (List Bool)) (l3_1 : List Bool) : Option (List Bool) := gd (ok64 (s1_0 + 1)) (bk1 (s1_0 + 1) l3_1)
def z0az (s1_0 : Int) (bk1 : Int → List Bool → Option (List Bool)) (l3_1 : List Bool) : Option (List Bool) := gd (ok64 (s1_0 + 1)) (bk1 (s1_0 + 1) l3_1)
def z01m (n : GNet) (but : Int) (s1_0 : Int) (s2_0 : Bool) (kx3_0 : List Bool → Option (List Bool)) (kx3_1 : List Bool → Option (List Bool)) (kx3_2 : List Bool → Option (List Bool)) : Nat → Int → List Bool → Option (List Bool)
  | 0, _, _ => none
  | n3 + 1, s3_0, l3_1 => (getI n.tasks s1_0).bind fun x12 => (if decide (s3_0 < (x12.out.length : Int)) = true then (if s2_0 = true then (if decide (s1_0 = but) = true then (kx3_0 l3_1) else ((getI n.tasks s1_0).bind fun x17 => ((getI x17.out s3_0).bind fun x18 => ((getI l3_1 x18.to).bind fun x19 => (gd (ok64 (s3_0 + 1)) ((z01m n but s1_0 s2_0 kx3_0 kx3_1 kx3_2 n3) (s3_0 + 1) (l3_1.set x18.to.toNat true))))))) else (kx3_1 l3_1)) else (kx3_2 l3_1))
def z0gh (n : GNet) (but : Int) (s1_0 : Int) (l1_1 : List Bool) (bk1 : Int → List Bool → Option (List Bool)) (s2_0 : Bool) : Option (List Bool) := z01m n but s1_0 s2_0 (z0ax s1_0 bk1) (z0ay s1_0 bk1) (z0az s1_0 bk1) FUEL 0 l1_1
def z021 (n : GNet) (s1_0 : Int) (l1_1 : List Bool) (kx2_0 : Bool → Option (List Bool)) : Nat → Bool → Int → Option (List Bool)
  | 0, _, _ => none
  | n2 + 1, s2_0, s2_1 => (getI n.tasks s1_0).bind fun x4 => (if decide (s2_1 < (x4.in_.length : Int)) = true then (if s2_0 = true then (gd (ok64 (s2_1 + 1)) ((z021 n s1_0 l1_1 kx2_0 n2) true (s2_1 + 1))) else ((getI n.tasks s1_0).bind fun x8 => ((getI x8.in_ s2_1).bind fun x9 => ((getI l1_1 x9).bind fun x10 => (gd (ok64 (s2_1 + 1)) ((z021 n s1_0 l1_1 kx2_0 n2) x10 (s2_1 + 1))))))) else (kx2_0 s2_0))
def z0gi (s0_0 : Int) (bk0 : Int → List Bool → Option (List Bool)) (l1_1 : List Bool) : Option (List Bool) := gd (ok64 (s0_0 + 1)) (bk0 (s0_0 + 1) l1_1)
def z00e (n : GNet) (but : Int) (kx1_0 : List Bool → Option (List Bool)) : Nat → Int → List Bool → Option (List Bool)
  | 0, _, _ => none
  | n1 + 1, s1_0, l1_1 => if decide (s1_0 < (n.tasks.length : Int)) = true then (z021 n s1_0 l1_1 (z0gh n but s1_0 l1_1 (z00e n but kx1_0 n1)) FUEL false 0) else (kx1_0 l1_1)
def z0gj (l0_1 : List Bool) : Option (List Bool) := some l0_1
def z049 (n : GNet) (but : Int) (kx0_0 : List Bool → Option (List Bool)) : Nat → Int → List Bool → Option (List Bool)
  | 0, _, _ => none
  | n0 + 1, s0_0, l0_1 => if decide (s0_0 < n.places) = true then (z00e n but (z0gi s0_0 (z049 n but kx0_0 n0)) FUEL 0 l0_1) else (kx0_0 l0_1)
def z0bh (n : GNet) (marked : List Bool) (but : Int) : Option (List Bool) := gd (([] : List Bool).length + marked.length ≤ SMALL) (z049 n but z0gj FUEL 0 (([] : List Bool) ++ marked))
def z006 : Con := ⟨216, [.v (.s .net) false, .v (.sl .B) false, .v .I false], [((.sl .B), true)], [], fun x => z0bh x.1 x.2.1 x.2.2.1⟩
def z11t : Fs := ⟨[], [], []⟩
theorem z081 : z11t.Ok Tryz.prog := fs0
def z0co : Tmpl := ⟨[(2, .c .i), (3, .c (.bx 3 0)), (7, .c (.ref 15)), (8, .c .i), (9, .c .i), (10, .c .b), (11, .c .i)], [(3, .boxT (.s .net)), (15, .arr .B true)]⟩
def z0c3 : Tmpl := ⟨[(2, .c .i), (3, .c (.bx 3 0)), (7, .c (.ref 15)), (8, .c .i), (9, .c .i), (10, .c .b)], [(3, .boxT (.s .net)), (15, .arr .B true)]⟩
def z0nm (av : AV) (x : HP z006.ps) (n : Nat) (v : z0co.den) (K : Ks (CR z006)) : Option (CR z006) := z021 v.2.1 v.1.2.2.2.2.1 v.2.2.1 (fun s2_0 => z0c3.at none ((v.1.1, (), (), v.1.2.2.2.1, v.1.2.2.2.2.1, s2_0, ()), (v.2.1, v.2.2.1, ())) (K (.exit 4))) n v.1.2.2.2.2.2.1 v.1.2.2.2.2.2.2.1
def z0cg (av : AV) (x : HP z006.ps) : Hdl (CR z006) := hnd [] z0co (z0nm av x)
theorem z0ny : LP z006 Tryz.f216 [0, 0, 0] z0cg := lp_ok (W := []) (H := []) (xs := [z0c3]) z081 trivial rfl (fun av x v K => by kernel_rfl) (fun av x n v K => by kernel_rfl)
def z0cp : Tmpl := ⟨[(2, .c .i), (3, .c (.bx 3 0)), (7, .c (.ref 15)), (8, .c .i), (9, .c .i), (10, .c .b), (12, .c .i)], [(3, .boxT (.s .net)), (15, .arr .B true)]⟩
def z059 : Tmpl := ⟨[(2, .c .i), (3, .c (.bx 3 0)), (7, .c (.ref 15)), (8, .c .i), (9, .c .i)], [(3, .boxT (.s .net)), (15, .arr .B true)]⟩
def z0nn (av : AV) (x : HP z006.ps) (n : Nat) (v : z0cp.den) (K : Ks (CR z006)) : Option (CR z006) := z01m v.2.1 v.1.1 v.1.2.2.2.2.1 v.1.2.2.2.2.2.1 (fun l3_1 => z059.at none ((v.1.1, (), (), v.1.2.2.2.1, v.1.2.2.2.2.1, ()), (v.2.1, l3_1, ())) (K (.exit 6))) (fun l3_1 => z059.at none ((v.1.1, (), (), v.1.2.2.2.1, v.1.2.2.2.2.1, ()), (v.2.1, l3_1, ())) (K (.exit 6))) (fun l3_1 => z059.at none ((v.1.1, (), (), v.1.2.2.2.1, v.1.2.2.2.2.1, ()), (v.2.1, l3_1, ())) (K (.exit 6))) n v.1.2.2.2.2.2.2.1 v.2.2.1
def z0ch (av : AV) (x : HP z006.ps) : Hdl (CR z006) := hnd [] z0cp (z0nn av x)
theorem z0nz : LP z006 Tryz.f216 [0, 0, 1] z0ch := lp_ok (W := []) (H := []) (xs := [z059]) z081 trivial rfl (fun av x v K => by kernel_rfl) (fun av x n v K => by kernel_rfl)
def z0fp : Tmpl := ⟨[(2, .c .i), (3, .c (.bx 3 0)), (7, .c (.ref 15)), (8, .c .i), (9, .c .i)], [(3, .boxT (.s .net)), (15, .arr .B true)]⟩
def z0ea : Tmpl := ⟨[(2, .c .i), (3, .c (.bx 3 0)), (7, .c (.ref 15)), (8, .c .i)], [(3, .boxT (.s .net)), (15, .arr .B true)]⟩
def z0rl (av : AV) (x : HP z006.ps) (n : Nat) (v : z0fp.den) (K : Ks (CR z006)) : Option (CR z006) := z00e v.2.1 v.1.1 (fun l1_1 => z0ea.at none ((v.1.1, (), (), v.1.2.2.2.1, ()), (v.2.1, l1_1, ())) (K (.exit 2))) n v.1.2.2.2.2.1 v.2.2.1
def z0ej (av : AV) (x : HP z006.ps) : Hdl (CR z006) := hnd [] z0fp (z0rl av x)
theorem z0t1 : LP z006 Tryz.f216 [0, 0] z0ej := lp_ok (W := []) (H := [z0cg, z0ch]) (xs := [z0ea]) z081 ⟨z0ny, z0nz, trivial⟩ rfl (fun av x v K => by kernel_rfl) (fun av x n v K => by kernel_rfl)
def z0j5 : Tmpl := ⟨[(2, .c .i), (3, .c (.bx 3 0)), (7, .c (.ref 15)), (8, .c .i)], [(3, .boxT (.s .net)), (15, .arr .B true)]⟩
def z0gw : Tmpl := ⟨[(7, .c (.ref 15))], [(15, .arr .B true)]⟩
def z0w3 (av : AV) (x : HP z006.ps) (n : Nat) (v : z0j5.den) (K : Ks (CR z006)) : Option (CR z006) := z049 v.2.1 v.1.1 (fun l0_1 => z0gw.at none (((), ()), (l0_1, ())) (K (.exit 0))) n v.1.2.2.2.1 v.2.2.1
def z0ik (av : AV) (x : HP z006.ps) : Hdl (CR z006) := hnd [] z0j5 (z0w3 av x)
theorem z0wl : LP z006 Tryz.f216 [0] z0ik := lp_ok (W := []) (H := [z0ej]) (xs := [z0gw]) z081 ⟨z0t1, trivial⟩ rfl (fun av x v K => by kernel_rfl) (fun av x n v K => by kernel_rfl)
theorem z12y : z006.Ok Tryz.prog := fn_ok (k := z006) (fn := Tryz.f216) (W := []) (H := [z0ik]) Tryz.func216 z081 ⟨z0wl, trivial⟩ rfl rfl (fun av x => by kernel_rfl)
def z0ez (kind : Int) : Option Bool := (z00c kind 1 3).bind fun x1 => (some x1)
def z0lb : Con := ⟨177, [.v .I false], [(.B, true)], [], fun x => z0ez x.1⟩
def z187 : Fs := ⟨[z02h], [], []⟩
theorem z19c : z187.Ok Tryz.prog := (fsK z036 fs0)
theorem z1ah : z0lb.Ok Tryz.prog := fn_ok (k := z0lb) (fn := Tryz.f177) (W := []) (H := []) Tryz.func177 z19c trivial rfl rfl (fun av x => by kernel_rfl)
def z0br (role : Int) : Option Bool := (z00c role 1 3).bind fun x1 => (some x1)
def z0el : Con := ⟨151, [.v .I false], [(.B, true)], [], fun x => z0br x.1⟩
def z188 : Fs := ⟨[z02h], [], []⟩
theorem z19d : z188.Ok Tryz.prog := (fsK z036 fs0)
theorem z0vc : z0el.Ok Tryz.prog := fn_ok (k := z0el) (fn := Tryz.f151) (W := []) (H := []) Tryz.func151 z19d trivial rfl rfl (fun av x => by kernel_rfl)
def z0hq (places : Int) (tasks : Int) : Option Bool := (z00c places 2 8).bind fun x1 => (if x1 = true then ((z00c tasks 1 6).bind fun x3 => (some x3)) else (some false))
def z0he : Con := ⟨122, [.v .I false, .v .I false], [(.B, true)], [], fun x => z0hq x.1 x.2.1⟩
def z14z : Fs := ⟨[z02h], [], []⟩
theorem z15q : z14z.Ok Tryz.prog := (fsK z036 fs0)
theorem z16w : z0he.Ok Tryz.prog := fn_ok (k := z0he) (fn := Tryz.f122) (W := []) (H := []) Tryz.func122 z15q trivial rfl rfl (fun av x => by kernel_rfl)
def z00j (n : GNet) (t : Int) : Option Bool := gd (ok64 ((n.tasks.length : Int) - 1)) ((z00c t 0 ((n.tasks.length : Int) - 1)).bind fun x2 => (some x2))
def z01n : Con := ⟨96, [.v (.s .net) false, .v .I false], [(.B, true)], [], fun x => z00j x.1 x.2.1⟩
def z0nq : Fs := ⟨[z02h], [], []⟩
theorem z0nt : z0nq.Ok Tryz.prog := (fsK z036 fs0)
theorem z03n : z01n.Ok Tryz.prog := fn_ok (k := z01n) (fn := Tryz.f96) (W := []) (H := []) Tryz.func96 z0nt trivial rfl rfl (fun av x => by kernel_rfl)
def z06c (t : GTask) : Option GTask := (z00g t.in_).bind fun x1 => (gd (([] : List GFlow).length + t.out.length ≤ SMALL) ((z00g t.clear).bind fun x3 => (some (GTask.mk t.join t.split x1 (([] : List GFlow) ++ t.out) x3 t.role t.apart t.all t.need))))
def z08t : Con := ⟨207, [.v (.s .task) false], [((.s .task), true)], [], fun x => z06c x.1⟩
def z0qm : Fs := ⟨[z01r], [], []⟩
theorem z0qr : z0qm.Ok Tryz.prog := (fsK z033 fs0)
theorem z0r7 : z08t.Ok Tryz.prog := fn_ok (k := z08t) (fn := Tryz.f207) (W := []) (H := []) Tryz.func207 z0qr trivial rfl rfl (fun av x => by kernel_rfl)
def z07g (p0_3 : Int) (l0_1 : List GTask) : Option GNet := some (GNet.mk p0_3 l0_1)
def z01z (p0_0 : List GTask) (p0_1 : Int) (kx0_0 : List GTask → Option GNet) : Nat → Int → List GTask → Option GNet
  | 0, _, _ => none
  | n0 + 1, s0_0, l0_1 => if decide (s0_0 < p0_1) = true then ((getI p0_0 s0_0).bind fun x2 => ((z06c x2).bind fun x3 => (gd (l0_1.length + [x3].length ≤ SMALL) (gd (ok64 (s0_0 + 1)) ((z01z p0_0 p0_1 kx0_0 n0) (s0_0 + 1) (l0_1 ++ [x3])))))) else (kx0_0 l0_1)
def z078 (n : GNet) : Option GNet := z01z n.tasks (n.tasks.length : Int) (z07g n.places) FUEL 0 ([] : List GTask)
def z017 : Con := ⟨184, [.v (.s .net) false], [((.s .net), true)], [], fun x => z078 x.1⟩
def z0rt : Fs := ⟨[z08t], [], []⟩
theorem z0ed : z0rt.Ok Tryz.prog := (fsK z0r7 fs0)
def z0cm : Tmpl := ⟨[(2, .c (.bx 2 0)), (3, .c (.bx 3 0)), (10, .c (.s (.s .task))), (11, .c .i), (12, .c .i)], [(2, .box [.i, .nl]), (3, .box [.i, .ref 510301]), (510301, .arr (.s .task) true)]⟩
def z0c1 : Tmpl := ⟨[(2, .c (.bx 2 0)), (3, .c (.bx 3 0))], [(2, .box [.i, .nl]), (3, .box [.i, .ref 510301]), (510301, .arr (.s .task) true)]⟩
def z0nk (av : AV) (x : HP z017.ps) (n : Nat) (v : z0cm.den) (K : Ks (CR z017)) : Option (CR z017) := z01z v.1.2.2.1 v.1.2.2.2.1 (fun l0_1 => z0c1.at none (((), (), ()), ((v.2.1.1, (), ()), (v.2.2.1.1, (), ()), l0_1, ())) (K (.exit 0))) n v.1.2.2.2.2.1 v.2.2.2.1
def z0ce (av : AV) (x : HP z017.ps) : Hdl (CR z017) := hnd [.b 3 1 510301 (.s .task)] z0cm (z0nk av x)
theorem z0nw : LP z017 Tryz.f184 [0] z0ce := lp_ok (W := []) (H := []) (xs := [z0c1]) z0ed trivial rfl (fun av x v K => by kernel_rfl) (fun av x n v K => by kernel_rfl)
theorem z0t7 : z017.Ok Tryz.prog := fn_ok (k := z017) (fn := Tryz.f184) (W := []) (H := [z0ce]) Tryz.func184 z0ed ⟨z0nw, trivial⟩ rfl rfl (fun av x => by kernel_rfl)
def z0p1  : Option Bool := some true
def z06u (marks : List Int) (kx0_0 : Option Bool) : Nat → Int → Option Bool
  | 0, _ => none
  | n0 + 1, s0_0 => if decide (s0_0 < (marks.length : Int)) = true then ((getI marks s0_0).bind fun x5 => ((z002 x5 0 4).bind fun x6 => (if x6 = true then (gd (ok64 (s0_0 + 1)) ((z06u marks kx0_0 n0) (s0_0 + 1))) else (some false)))) else (kx0_0)
def z08z (n : GNet) (marks : List Int) : Option Bool := (z03e n).bind fun x1 => (if x1 = true then (if decide ((marks.length : Int) = n.places) = true then (z06u marks z0p1 FUEL 0) else (some false)) else (some false))
def z038 : Con := ⟨87, [.v (.s .net) false, .v (.sl .I) false], [(.B, true)], [], fun x => z08z x.1 x.2.1⟩
def z1cb : Fs := ⟨[z02j, z00q], [], []⟩
theorem z0yl : z1cb.Ok Tryz.prog := (fsK z0dz (fsK z00u fs0))
def z0tx : Tmpl := ⟨[(1, .c (.s .I)), (5, .c .i)], []⟩
def z0qb : Tmpl := ⟨[], []⟩
def z149 (av : AV) (x : HP z038.ps) (n : Nat) (v : z0tx.den) (K : Ks (CR z038)) : Option (CR z038) := z06u v.1.1 (z0qb.at none ((), ()) (K (.exit 0))) n v.1.2.1
def z0sk (av : AV) (x : HP z038.ps) : Hdl (CR z038) := hnd [] z0tx (z149 av x)
theorem z16c : LP z038 Tryz.f87 [0] z0sk := lp_ok (W := []) (H := []) (xs := [z0qb]) z0yl trivial rfl (fun av x v K => by kernel_rfl) (fun av x n v K => by kernel_rfl)
theorem z0i0 : z038.Ok Tryz.prog := fn_ok (k := z038) (fn := Tryz.f87) (W := []) (H := [z0sk]) Tryz.func87 z0yl ⟨z16c, trivial⟩ rfl rfl (fun av x => by kernel_rfl)
def z09t (s0_0 : Bool) (s0_1 : Bool) : Option (Bool × Bool) := some (s0_0, s0_1)
def z01u (marks : List Int) (list : List Int) (kx0_0 : Bool → Bool → Option (Bool × Bool)) : Nat → Bool → Bool → Int → Option (Bool × Bool)
  | 0, _, _, _ => none
  | n0 + 1, s0_0, s0_1, s0_2 => if decide (s0_2 < (list.length : Int)) = true then (if s0_0 = true then (if s0_1 = true then ((getI list s0_2).bind fun x4 => ((getI marks x4).bind fun x5 => (gd (ok64 (s0_2 + 1)) ((z01u marks list kx0_0 n0) true (decide (0 < x5)) (s0_2 + 1))))) else (gd (ok64 (s0_2 + 1)) ((z01u marks list kx0_0 n0) true false (s0_2 + 1)))) else ((getI list s0_2).bind fun x8 => ((getI marks x8).bind fun x9 => (if s0_1 = true then ((getI list s0_2).bind fun x11 => ((getI marks x11).bind fun x12 => (gd (ok64 (s0_2 + 1)) ((z01u marks list kx0_0 n0) (decide (0 < x9)) (decide (0 < x12)) (s0_2 + 1))))) else (gd (ok64 (s0_2 + 1)) ((z01u marks list kx0_0 n0) (decide (0 < x9)) false (s0_2 + 1))))))) else (kx0_0 s0_0 s0_1)
def z0fa (marks : List Int) (list : List Int) : Option (Bool × Bool) := z01u marks list z09t FUEL false true 0
def z052 : Con := ⟨200, [.v (.sl .I) false, .v (.sl .I) false], [(.B, true), (.B, true)], [], fun x => z0fa x.1 x.2.1⟩
def z18t : Fs := ⟨[], [], []⟩
theorem z0v4 : z18t.Ok Tryz.prog := fs0
def z0pt : Tmpl := ⟨[(0, .c (.s .I)), (1, .c (.s .I)), (6, .c .b), (7, .c .b), (8, .c .i)], []⟩
def z0n4 : Tmpl := ⟨[(6, .c .b), (7, .c .b)], []⟩
def z116 (av : AV) (x : HP z052.ps) (n : Nat) (v : z0pt.den) (K : Ks (CR z052)) : Option (CR z052) := z01u v.1.1 v.1.2.1 (fun s0_0 s0_1 => z0n4.at none ((s0_0, s0_1, ()), ()) (K (.exit 0))) n v.1.2.2.1 v.1.2.2.2.1 v.1.2.2.2.2.1
def z0ol (av : AV) (x : HP z052.ps) : Hdl (CR z052) := hnd [] z0pt (z116 av x)
theorem z12i : LP z052 Tryz.f200 [0] z0ol := lp_ok (W := []) (H := []) (xs := [z0n4]) z0v4 trivial rfl (fun av x v K => by kernel_rfl) (fun av x n v K => by kernel_rfl)
theorem z1at : z052.Ok Tryz.prog := fn_ok (k := z052) (fn := Tryz.f200) (W := []) (H := [z0ol]) Tryz.func200 z0v4 ⟨z12i, trivial⟩ rfl rfl (fun av x => by kernel_rfl)
def z04b (s1_0 : Int) (bk1 : Int → List Bool → Option Bool) (l2_1 : List Bool) : Option Bool := gd (ok64 (s1_0 + 1)) (bk1 (s1_0 + 1) l2_1)
def z02q (p2_0 : List GFlow) (kx2_0 : List Bool → Option Bool) : Nat → Int → List Bool → Option Bool
  | 0, _, _ => none
  | n2 + 1, s2_0, l2_1 => if decide (s2_0 < (p2_0.length : Int)) = true then ((getI p2_0 s2_0).bind fun x15 => ((getI l2_1 x15.to).bind fun x16 => (gd (ok64 (s2_0 + 1)) ((z02q p2_0 kx2_0 n2) (s2_0 + 1) (l2_1.set x15.to.toNat true))))) else (kx2_0 l2_1)
def z0b0  : Option Bool := some false
def z024 (n : GNet) (marks : List Int) (t : Int) (x19 : (List Bool)) (kx3_0 : Option Bool) : Nat → Int → Option Bool
  | 0, _ => none
  | n3 + 1, s3_0 => (getI n.tasks t).bind fun x20 => (if decide (s3_0 < (x20.in_.length : Int)) = true then ((getI n.tasks t).bind fun x22 => ((getI x22.in_ s3_0).bind fun x23 => ((getI marks x23).bind fun x24 => (if decide (x24 = 0) = true then ((getI n.tasks t).bind fun x26 => ((getI x26.in_ s3_0).bind fun x27 => ((getI x19 x27).bind fun x28 => (if x28 = true then (some true) else (gd (ok64 (s3_0 + 1)) ((z024 n marks t x19 kx3_0 n3) (s3_0 + 1))))))) else (gd (ok64 (s3_0 + 1)) ((z024 n marks t x19 kx3_0 n3) (s3_0 + 1))))))) else (kx3_0))
def z022 (n : GNet) (marks : List Int) (t : Int) (l1_1 : List Bool) : Option Bool := (z0bh n l1_1 t).bind fun x19 => (z024 n marks t x19 z0b0 FUEL 0)
def z013 (n : GNet) (busy : List GItem) (kx1_0 : List Bool → Option Bool) : Nat → Int → List Bool → Option Bool
  | 0, _, _ => none
  | n1 + 1, s1_0, l1_1 => if decide (s1_0 < (busy.length : Int)) = true then ((getI busy s1_0).bind fun x12 => ((getI n.tasks x12.task).bind fun x13 => (z02q x13.out (z04b s1_0 (z013 n busy kx1_0 n1)) FUEL 0 l1_1))) else (kx1_0 l1_1)
def z04a (n : GNet) (marks : List Int) (busy : List GItem) (t : Int) (l0_1 : List Bool) : Option Bool := z013 n busy (z022 n marks t) FUEL 0 l0_1
def z023 (n : GNet) (marks : List Int) (t : Int) (kx0_0 : List Bool → Option Bool) : Nat → Int → List Bool → Option Bool
  | 0, _, _ => none
  | n0 + 1, s0_0, l0_1 => if decide (s0_0 < n.places) = true then ((getI marks s0_0).bind fun x3 => (if decide (0 < x3) = true then ((getI n.tasks t).bind fun x5 => ((z0aw x5.in_ s0_0).bind fun x6 => ((getI l0_1 s0_0).bind fun x7 => (gd (ok64 (s0_0 + 1)) ((z023 n marks t kx0_0 n0) (s0_0 + 1) (l0_1.set s0_0.toNat (!x6))))))) else ((getI l0_1 s0_0).bind fun x9 => (gd (ok64 (s0_0 + 1)) ((z023 n marks t kx0_0 n0) (s0_0 + 1) (l0_1.set s0_0.toNat false)))))) else (kx0_0 l0_1)
def z0bi (n : GNet) (marks : List Int) (busy : List GItem) (t : Int) : Option Bool := gd ((0 : Int) ≤ n.places ∧ n.places ≤ (1000000000 : Int)) (z023 n marks t (z04a n marks busy t) FUEL 0 (List.replicate n.places.toNat false))
def z007 : Con := ⟨201, [.v (.s .net) false, .v (.sl .I) false, .v (.sl (.s .item)) false, .v .I false], [(.B, true)], [], fun x => z0bi x.1 x.2.1 x.2.2.1 x.2.2.2.1⟩
def z11u : Fs := ⟨[z04g, z006], [], []⟩
theorem z082 : z11u.Ok Tryz.prog := (fsK z0rc (fsK z12y fs0))
def z0fq : Tmpl := ⟨[(1, .c (.s .I)), (2, .c (.s (.s .item))), (3, .c .i), (4, .c (.bx 4 0)), (9, .c (.ref 18)), (11, .c .i), (12, .c (.s (.s .flow))), (13, .c .i)], [(4, .boxT (.s .net)), (18, .arr .B true)]⟩
def z0eb : Tmpl := ⟨[(1, .c (.s .I)), (2, .c (.s (.s .item))), (3, .c .i), (4, .c (.bx 4 0)), (9, .c (.ref 18)), (11, .c .i)], [(4, .boxT (.s .net)), (18, .arr .B true)]⟩
def z0rm (av : AV) (x : HP z007.ps) (n : Nat) (v : z0fq.den) (K : Ks (CR z007)) : Option (CR z007) := z02q v.1.2.2.2.2.2.2.1 (fun l2_1 => z0eb.at none ((v.1.1, v.1.2.1, v.1.2.2.1, (), (), v.1.2.2.2.2.2.1, ()), (v.2.1, l2_1, ())) (K (.exit 4))) n v.1.2.2.2.2.2.2.2.1 v.2.2.1
def z0ek (av : AV) (x : HP z007.ps) : Hdl (CR z007) := hnd [] z0fq (z0rm av x)
theorem z0t2 : LP z007 Tryz.f201 [1, 0] z0ek := lp_ok (W := []) (H := []) (xs := [z0eb]) z082 trivial rfl (fun av x v K => by kernel_rfl) (fun av x n v K => by kernel_rfl)
def z0j6 : Tmpl := ⟨[(1, .c (.s .I)), (2, .c (.s (.s .item))), (3, .c .i), (4, .c (.bx 4 0)), (9, .c (.ref 18)), (10, .c .i)], [(4, .boxT (.s .net)), (18, .arr .B true)]⟩
def z0gx : Tmpl := ⟨[(1, .c (.s .I)), (2, .c (.s (.s .item))), (3, .c .i), (4, .c (.bx 4 0)), (9, .c (.ref 18))], [(4, .boxT (.s .net)), (18, .arr .B true)]⟩
def z0w4 (av : AV) (x : HP z007.ps) (n : Nat) (v : z0j6.den) (K : Ks (CR z007)) : Option (CR z007) := z023 v.2.1 v.1.1 v.1.2.2.1 (fun l0_1 => z0gx.at none ((v.1.1, v.1.2.1, v.1.2.2.1, (), (), ()), (v.2.1, l0_1, ())) (K (.exit 0))) n v.1.2.2.2.2.2.1 v.2.2.1
def z0il (av : AV) (x : HP z007.ps) : Hdl (CR z007) := hnd [] z0j6 (z0w4 av x)
theorem z0wm : LP z007 Tryz.f201 [0] z0il := lp_ok (W := []) (H := []) (xs := [z0gx]) z082 trivial rfl (fun av x v K => by kernel_rfl) (fun av x n v K => by kernel_rfl)
def z0j7 : Tmpl := ⟨[(1, .c (.s .I)), (2, .c (.s (.s .item))), (3, .c .i), (4, .c (.bx 4 0)), (9, .c (.ref 18)), (11, .c .i)], [(4, .boxT (.s .net)), (18, .arr .B true)]⟩
def z0gy : Tmpl := ⟨[(1, .c (.s .I)), (3, .c .i), (4, .c (.bx 4 0)), (9, .c (.ref 18))], [(4, .boxT (.s .net)), (18, .arr .B true)]⟩
def z0w5 (av : AV) (x : HP z007.ps) (n : Nat) (v : z0j7.den) (K : Ks (CR z007)) : Option (CR z007) := z013 v.2.1 v.1.2.1 (fun l1_1 => z0gy.at none ((v.1.1, v.1.2.2.1, (), (), ()), (v.2.1, l1_1, ())) (K (.exit 2))) n v.1.2.2.2.2.2.1 v.2.2.1
def z0im (av : AV) (x : HP z007.ps) : Hdl (CR z007) := hnd [] z0j7 (z0w5 av x)
theorem z0wn : LP z007 Tryz.f201 [1] z0im := lp_ok (W := []) (H := [z0ek]) (xs := [z0gy]) z082 ⟨z0t2, trivial⟩ rfl (fun av x v K => by kernel_rfl) (fun av x n v K => by kernel_rfl)
def z0j8 : Tmpl := ⟨[(1, .c (.s .I)), (3, .c .i), (4, .c (.bx 4 0)), (14, .c (.ref 76)), (15, .c .i)], [(4, .boxT (.s .net)), (76, .arr .B true)]⟩
def z0gz : Tmpl := ⟨[], []⟩
def z0w6 (av : AV) (x : HP z007.ps) (n : Nat) (v : z0j8.den) (K : Ks (CR z007)) : Option (CR z007) := z024 v.2.1 v.1.1 v.1.2.1 v.2.2.1 (z0gz.at none ((), ()) (K (.exit 6))) n v.1.2.2.2.2.1
def z0in (av : AV) (x : HP z007.ps) : Hdl (CR z007) := hnd [] z0j8 (z0w6 av x)
theorem z0wo : LP z007 Tryz.f201 [2] z0in := lp_ok (W := []) (H := []) (xs := [z0gz]) z082 trivial rfl (fun av x v K => by kernel_rfl) (fun av x n v K => by kernel_rfl)
theorem z12z : z007.Ok Tryz.prog := fn_ok (k := z007) (fn := Tryz.f201) (W := []) (H := [z0il, z0im, z0in]) Tryz.func201 z082 ⟨z0wm, z0wn, z0wo, trivial⟩ rfl rfl (fun av x => by kernel_rfl)
def z0hw (n : GNet) (marks : List Int) (busy : List GItem) (t : Int) : Option Bool := (getI n.tasks t).bind fun x1 => ((z0fa marks x1.in_).bind fun x2 => ((getI n.tasks t).bind fun x3 => (if decide (x3.join = 1) = true then (some x2.2) else (if decide (x3.join = 2) = true then (some x2.1) else (if x2.1 = true then (if x2.2 = true then (some true) else ((z0bi n marks busy t).bind fun x8 => (some (!x8)))) else (some false))))))
def z0qz : Con := ⟨165, [.v (.s .net) false, .v (.sl .I) false, .v (.sl (.s .item)) false, .v .I false], [(.B, true)], [], fun x => z0hw x.1 x.2.1 x.2.2.1 x.2.2.2.1⟩
def z1ch : Fs := ⟨[z052, z007], [], []⟩
theorem z1cr : z1ch.Ok Tryz.prog := (fsK z1at (fsK z12z fs0))
theorem z1dh : z0qz.Ok Tryz.prog := fn_ok (k := z0qz) (fn := Tryz.f165) (W := []) (H := []) Tryz.func165 z1cr trivial rfl rfl (fun av x => by kernel_rfl)
def z0lt  : Option Bool := some true
def z05t (n : GNet) (busy : List GItem) (kx0_0 : Option Bool) : Nat → Int → Option Bool
  | 0, _ => none
  | n0 + 1, s0_0 => if decide (s0_0 < (busy.length : Int)) = true then ((getI busy s0_0).bind fun x3 => (gd (ok64 ((n.tasks.length : Int) - 1)) ((z002 x3.task 0 ((n.tasks.length : Int) - 1)).bind fun x5 => (if x5 = true then ((getI busy s0_0).bind fun x7 => ((z002 x7.who 1 4).bind fun x8 => (if x8 = true then ((getI busy s0_0).bind fun x10 => ((getI busy s0_0).bind fun x11 => ((getI n.tasks x11.task).bind fun x12 => (gd (ok64 (x12.need - 1)) ((z002 x10.did 0 (x12.need - 1)).bind fun x14 => (if x14 = true then (gd (ok64 (s0_0 + 1)) ((z05t n busy kx0_0 n0) (s0_0 + 1))) else (some false))))))) else (some false)))) else (some false))))) else (kx0_0)
def z0bu (n : GNet) (busy : List GItem) : Option Bool := if decide (6 < (busy.length : Int)) = true then (some false) else (z05t n busy z0lt FUEL 0)
def z044 : Con := ⟨88, [.v (.s .net) false, .v (.sl (.s .item)) false], [(.B, true)], [], fun x => z0bu x.1 x.2.1⟩
def z18s : Fs := ⟨[z00q], [], []⟩
theorem z0v3 : z18s.Ok Tryz.prog := (fsK z00u fs0)
def z0ps : Tmpl := ⟨[(1, .c (.s (.s .item))), (2, .c (.bx 2 0)), (5, .c .i)], [(2, .boxT (.s .net))]⟩
def z0n3 : Tmpl := ⟨[], []⟩
def z115 (av : AV) (x : HP z044.ps) (n : Nat) (v : z0ps.den) (K : Ks (CR z044)) : Option (CR z044) := z05t v.2.1 v.1.1 (z0n3.at none ((), ()) (K (.exit 0))) n v.1.2.2.1
def z0ok (av : AV) (x : HP z044.ps) : Hdl (CR z044) := hnd [] z0ps (z115 av x)
theorem z12h : LP z044 Tryz.f88 [0] z0ok := lp_ok (W := []) (H := []) (xs := [z0n3]) z0v3 trivial rfl (fun av x v K => by kernel_rfl) (fun av x n v K => by kernel_rfl)
theorem z0vj : z044.Ok Tryz.prog := fn_ok (k := z044) (fn := Tryz.f88) (W := []) (H := [z0ok]) Tryz.func88 z0v3 ⟨z12h, trivial⟩ rfl rfl (fun av x => by kernel_rfl)
def z0bs (n : GNet) (marks : List Int) (busy : List GItem) (t : Int) : Option Bool := (z08z n marks).bind fun x1 => (if x1 = true then ((z0bu n busy).bind fun x3 => (if x3 = true then (gd (ok64 ((n.tasks.length : Int) - 1)) ((z002 t 0 ((n.tasks.length : Int) - 1)).bind fun x6 => (if x6 = true then ((z0hw n marks busy t).bind fun x8 => (some x8)) else (some false)))) else (some false))) else (some false))
def z0ep : Con := ⟨100, [.v (.s .net) false, .v (.sl .I) false, .v (.sl (.s .item)) false, .v .I false], [(.B, true)], [], fun x => z0bs x.1 x.2.1 x.2.2.1 x.2.2.2.1⟩
def z18g : Fs := ⟨[z038, z044, z00q, z0qz], [], []⟩
theorem z19i : z18g.Ok Tryz.prog := (fsK z0i0 (fsK z0vj (fsK z00u (fsK z1dh fs0))))
theorem z0vf : z0ep.Ok Tryz.prog := fn_ok (k := z0ep) (fn := Tryz.f100) (W := []) (H := []) Tryz.func100 z19i trivial rfl rfl (fun av x => by kernel_rfl)
def z0at (l0_1 : List Int) : Option (List Int) := some l0_1
def z02p (n : GNet) (marks : List Int) (busy : List GItem) (kx0_0 : List Int → Option (List Int)) : Nat → Int → List Int → Option (List Int)
  | 0, _, _ => none
  | n0 + 1, s0_0, l0_1 => if decide (s0_0 < (n.tasks.length : Int)) = true then ((z0bs n marks busy s0_0).bind fun x2 => (if x2 = true then (gd (l0_1.length + [s0_0].length ≤ SMALL) (gd (ok64 (s0_0 + 1)) ((z02p n marks busy kx0_0 n0) (s0_0 + 1) (l0_1 ++ [s0_0])))) else (gd (ok64 (s0_0 + 1)) ((z02p n marks busy kx0_0 n0) (s0_0 + 1) l0_1)))) else (kx0_0 l0_1)
def z05d (n : GNet) (marks : List Int) (busy : List GItem) : Option (List Int) := z02p n marks busy z0at FUEL 0 ([] : List Int)
def z025 : Con := ⟨99, [.v (.s .net) false, .v (.sl .I) false, .v (.sl (.s .item)) false], [((.sl .I), true)], [], fun x => z05d x.1 x.2.1 x.2.2.1⟩
def z11m : Fs := ⟨[z0ep], [], []⟩
theorem z0o4 : z11m.Ok Tryz.prog := (fsK z0vf fs0)
def z0iz : Tmpl := ⟨[(1, .c (.s .I)), (2, .c (.s (.s .item))), (3, .c (.bx 3 0)), (7, .c (.ref 9)), (8, .c .i)], [(3, .boxT (.s .net)), (9, .arr .I true)]⟩
def z0gq : Tmpl := ⟨[(7, .c (.ref 9))], [(9, .arr .I true)]⟩
def z0vx (av : AV) (x : HP z025.ps) (n : Nat) (v : z0iz.den) (K : Ks (CR z025)) : Option (CR z025) := z02p v.2.1 v.1.1 v.1.2.1 (fun l0_1 => z0gq.at none (((), ()), (l0_1, ())) (K (.exit 0))) n v.1.2.2.2.2.1 v.2.2.1
def z0ie (av : AV) (x : HP z025.ps) : Hdl (CR z025) := hnd [] z0iz (z0vx av x)
theorem z0wf : LP z025 Tryz.f99 [0] z0ie := lp_ok (W := []) (H := []) (xs := [z0gq]) z0o4 trivial rfl (fun av x v K => by kernel_rfl) (fun av x n v K => by kernel_rfl)
theorem z0pc : z025.Ok Tryz.prog := fn_ok (k := z025) (fn := Tryz.f99) (W := []) (H := [z0ie]) Tryz.func99 z0o4 ⟨z0wf, trivial⟩ rfl rfl (fun av x => by kernel_rfl)
def z0iq (l0_1 : List Int) (x10 : Int) (x13 : Int) : Option (List Int) := some (l0_1.set x10.toNat (x13 - 1))
def z0ir (l0_1 : List Int) : Option (List Int) := some l0_1
def z03d (n : GNet) (t : Int) (kx0_0 : List Int → Int → Int → Option (List Int)) (kx0_1 : List Int → Option (List Int)) : Nat → Int → List Int → Option (List Int)
  | 0, _, _ => none
  | n0 + 1, s0_0, l0_1 => (getI n.tasks t).bind fun x7 => (if decide (s0_0 < (x7.in_.length : Int)) = true then ((getI n.tasks t).bind fun x9 => ((getI x9.in_ s0_0).bind fun x10 => ((getI l0_1 x10).bind fun x11 => (if decide (0 < x11) = true then ((getI l0_1 x10).bind fun x13 => (gd (ok64 (x13 - 1)) ((getI l0_1 x10).bind fun x15 => ((getI n.tasks t).bind fun x16 => (if decide (x16.join = 2) = true then (kx0_0 l0_1 x10 x13) else (gd (ok64 (s0_0 + 1)) ((z03d n t kx0_0 kx0_1 n0) (s0_0 + 1) (l0_1.set x10.toNat (x13 - 1))))))))) else (gd (ok64 (s0_0 + 1)) ((z03d n t kx0_0 kx0_1 n0) (s0_0 + 1) l0_1)))))) else (kx0_1 l0_1))
def z0cz (n : GNet) (marks : List Int) (t : Int) : Option (List Int) := (z08z n marks).bind fun x1 => (if x1 = true then (gd (ok64 ((n.tasks.length : Int) - 1)) ((z002 t 0 ((n.tasks.length : Int) - 1)).bind fun x4 => (if x4 = true then (gd (([] : List Int).length + marks.length ≤ SMALL) (z03d n t z0iq z0ir FUEL 0 (([] : List Int) ++ marks))) else (some ([] : List Int))))) else (some ([] : List Int)))
def z03q : Con := ⟨103, [.v (.s .net) false, .v (.sl .I) false, .v .I false], [((.sl .I), true)], [], fun x => z0cz x.1 x.2.1 x.2.2.1⟩
def z153 : Fs := ⟨[z038, z00q], [], []⟩
theorem z0s2 : z153.Ok Tryz.prog := (fsK z0i0 (fsK z00u fs0))
def z0mg : Tmpl := ⟨[(2, .c .i), (3, .c (.bx 3 0)), (7, .c (.ref 26)), (8, .c .i)], [(3, .boxT (.s .net)), (26, .arr .I true)]⟩
def z0cc : Tmpl := ⟨[(7, .c (.ref 26))], [(26, .arr .I true)]⟩
def z0xg (av : AV) (x : HP z03q.ps) (n : Nat) (v : z0mg.den) (K : Ks (CR z03q)) : Option (CR z03q) := z03d v.2.1 v.1.1 (fun l0_1 x10 x13 => z0cc.at none (((), ()), ((l0_1.set x10.toNat (x13 - 1)), ())) (K (.exit 0))) (fun l0_1 => z0cc.at none (((), ()), (l0_1, ())) (K (.exit 0))) n v.1.2.2.2.1 v.2.2.1
def z0kt (av : AV) (x : HP z03q.ps) : Hdl (CR z03q) := hnd [] z0mg (z0xg av x)
theorem z0zg : LP z03q Tryz.f103 [0] z0kt := lp_ok (W := []) (H := []) (xs := [z0cc]) z0s2 trivial rfl (fun av x v K => by kernel_rfl) (fun av x n v K => by kernel_rfl)
theorem z16z : z03q.Ok Tryz.prog := fn_ok (k := z03q) (fn := Tryz.f103) (W := []) (H := [z0kt]) Tryz.func103 z0s2 ⟨z0zg, trivial⟩ rfl rfl (fun av x => by kernel_rfl)
def z086 (who : Int) : Option Bool := (z00c who 1 4).bind fun x1 => (some x1)
def z0b3 : Con := ⟨97, [.v .I false], [(.B, true)], [], fun x => z086 x.1⟩
def z11k : Fs := ⟨[z02h], [], []⟩
theorem z121 : z11k.Ok Tryz.prog := (fsK z036 fs0)
theorem z0pa : z0b3.Ok Tryz.prog := fn_ok (k := z0b3) (fn := Tryz.f97) (W := []) (H := []) Tryz.func97 z121 trivial rfl rfl (fun av x => by kernel_rfl)
def z0bb (l0_1 : List Int) (x8 : GFlow) : Option (List Int) := some (l0_1 ++ [x8.to])
def z0bc (l0_1 : List Int) (x13 : GFlow) : Option (List Int) := some (l0_1 ++ [x13.to])
def z0bd (l0_1 : List Int) (x18 : GFlow) : Option (List Int) := some (l0_1 ++ [x18.to])
def z0fz (l0_1 : List Int) : Option (List Int) := some l0_1
def z01t (t : GTask) (data : List Int) (kx0_0 : List Int → GFlow → Option (List Int)) (kx0_1 : List Int → GFlow → Option (List Int)) (kx0_2 : List Int → GFlow → Option (List Int)) (kx0_3 : List Int → Option (List Int)) : Nat → Int → List Int → Option (List Int)
  | 0, _, _ => none
  | n0 + 1, s0_0, l0_1 => if decide (s0_0 < (t.out.length : Int)) = true then ((getI t.out s0_0).bind fun x2 => ((z01e x2.if_ data).bind fun x3 => (if x3 = true then (if decide (t.split = 3) = true then (gd (ok64 ((t.out.length : Int) - 1)) (if decide (s0_0 < ((t.out.length : Int) - 1)) = true then ((getI t.out s0_0).bind fun x8 => (gd (l0_1.length + [x8.to].length ≤ SMALL) (if decide (t.split = 2) = true then (kx0_0 l0_1 x8) else (gd (ok64 (s0_0 + 1)) ((z01t t data kx0_0 kx0_1 kx0_2 kx0_3 n0) (s0_0 + 1) (l0_1 ++ [x8.to])))))) else (if decide ((l0_1.length : Int) = 0) = true then ((getI t.out s0_0).bind fun x13 => (gd (l0_1.length + [x13.to].length ≤ SMALL) (if decide (t.split = 2) = true then (kx0_1 l0_1 x13) else (gd (ok64 (s0_0 + 1)) ((z01t t data kx0_0 kx0_1 kx0_2 kx0_3 n0) (s0_0 + 1) (l0_1 ++ [x13.to])))))) else (gd (ok64 (s0_0 + 1)) ((z01t t data kx0_0 kx0_1 kx0_2 kx0_3 n0) (s0_0 + 1) l0_1))))) else ((getI t.out s0_0).bind fun x18 => (gd (l0_1.length + [x18.to].length ≤ SMALL) (if decide (t.split = 2) = true then (kx0_2 l0_1 x18) else (gd (ok64 (s0_0 + 1)) ((z01t t data kx0_0 kx0_1 kx0_2 kx0_3 n0) (s0_0 + 1) (l0_1 ++ [x18.to]))))))) else (gd (ok64 (s0_0 + 1)) ((z01t t data kx0_0 kx0_1 kx0_2 kx0_3 n0) (s0_0 + 1) l0_1))))) else (kx0_3 l0_1)
def z0hv (t : GTask) (data : List Int) : Option (List Int) := z01t t data z0bb z0bc z0bd z0fz FUEL 0 ([] : List Int)
def z066 : Con := ⟨205, [.v (.s .task) false, .v (.sl .I) false], [((.sl .I), true)], [], fun x => z0hv x.1 x.2.1⟩
def z1cf : Fs := ⟨[z042], [], []⟩
theorem z0yo : z1cf.Ok Tryz.prog := (fsK z06z fs0)
def z0u1 : Tmpl := ⟨[(1, .c (.s .I)), (2, .c (.bx 2 0)), (5, .c (.ref 7)), (6, .c .i)], [(2, .boxT (.s .task)), (7, .arr .I true)]⟩
def z08d : Tmpl := ⟨[(5, .c (.ref 49))], [(49, .arr .I true)]⟩
def z14d (av : AV) (x : HP z066.ps) (n : Nat) (v : z0u1.den) (K : Ks (CR z066)) : Option (CR z066) := z01t v.2.1 v.1.1 (fun l0_1 x8 => z08d.at none (((), ()), ((l0_1 ++ [x8.to]), ())) (K (.exit 0))) (fun l0_1 x13 => z08d.at none (((), ()), ((l0_1 ++ [x13.to]), ())) (K (.exit 0))) (fun l0_1 x18 => z08d.at none (((), ()), ((l0_1 ++ [x18.to]), ())) (K (.exit 0))) (fun l0_1 => z08d.at none (((), ()), (l0_1, ())) (K (.exit 0))) n v.1.2.2.2.1 v.2.2.1
def z0so (av : AV) (x : HP z066.ps) : Hdl (CR z066) := hnd [] z0u1 (z14d av x)
theorem z16g : LP z066 Tryz.f205 [0] z0so := lp_ok (W := []) (H := []) (xs := [z08d]) z0yo trivial rfl (fun av x v K => by kernel_rfl) (fun av x n v K => by kernel_rfl)
theorem z1dg : z066.Ok Tryz.prog := fn_ok (k := z066) (fn := Tryz.f205) (W := []) (H := [z0so]) Tryz.func205 z0yo ⟨z16g, trivial⟩ rfl rfl (fun av x => by kernel_rfl)
def z08n (l1_1 : List Int) : Option ((List Int) × Bool) := some (l1_1, true)
def z04t (x16 : (List Int)) (kx1_0 : List Int → Option ((List Int) × Bool)) : Nat → Int → List Int → Option ((List Int) × Bool)
  | 0, _, _ => none
  | n1 + 1, s1_0, l1_1 => if decide (s1_0 < (x16.length : Int)) = true then ((getI x16 s1_0).bind fun x18 => ((getI l1_1 x18).bind fun x19 => (if decide (x19 = 4) = true then (some (([] : List Int), false)) else ((getI x16 s1_0).bind fun x21 => ((getI x16 s1_0).bind fun x22 => ((getI l1_1 x22).bind fun x23 => (gd (ok64 (x23 + 1)) ((getI l1_1 x21).bind fun x25 => (gd (ok64 (s1_0 + 1)) ((z04t x16 kx1_0 n1) (s1_0 + 1) (l1_1.set x21.toNat (x23 + 1)))))))))))) else (kx1_0 l1_1)
def z08m (n : GNet) (t : Int) (data : List Int) (l0_1 : List Int) : Option ((List Int) × Bool) := (getI n.tasks t).bind fun x15 => ((z0hv x15 data).bind fun x16 => (z04t x16 z08n FUEL 0 l0_1))
def z04s (n : GNet) (t : Int) (kx0_0 : List Int → Option ((List Int) × Bool)) : Nat → Int → List Int → Option ((List Int) × Bool)
  | 0, _, _ => none
  | n0 + 1, s0_0, l0_1 => (getI n.tasks t).bind fun x9 => (if decide (s0_0 < (x9.clear.length : Int)) = true then ((getI n.tasks t).bind fun x11 => ((getI x11.clear s0_0).bind fun x12 => ((getI l0_1 x12).bind fun x13 => (gd (ok64 (s0_0 + 1)) ((z04s n t kx0_0 n0) (s0_0 + 1) (l0_1.set x12.toNat 0)))))) else (kx0_0 l0_1))
def z0d0 (n : GNet) (marks : List Int) (t : Int) (data : List Int) : Option ((List Int) × Bool) := (z08z n marks).bind fun x1 => (if x1 = true then (gd (ok64 ((n.tasks.length : Int) - 1)) ((z002 t 0 ((n.tasks.length : Int) - 1)).bind fun x4 => (if x4 = true then ((z02o data).bind fun x6 => (if x6 = true then (gd (([] : List Int).length + marks.length ≤ SMALL) (z04s n t (z08m n t data) FUEL 0 (([] : List Int) ++ marks))) else (some (([] : List Int), false)))) else (some (([] : List Int), false))))) else (some (([] : List Int), false)))
def z00y : Con := ⟨172, [.v (.s .net) false, .v (.sl .I) false, .v .I false, .v (.sl .I) false], [((.sl .I), true), (.B, true)], [], fun x => z0d0 x.1 x.2.1 x.2.2.1 x.2.2.2.1⟩
def z154 : Fs := ⟨[z038, z00q, z019, z066], [], []⟩
theorem z0h6 : z154.Ok Tryz.prog := (fsK z0i0 (fsK z00u (fsK z06h (fsK z1dg fs0))))
def z0mh : Tmpl := ⟨[(2, .c .i), (3, .c (.s .I)), (4, .c (.bx 4 0)), (10, .c (.ref 35)), (11, .c .i)], [(4, .boxT (.s .net)), (35, .arr .I true)]⟩
def z0ji : Tmpl := ⟨[(2, .c .i), (3, .c (.s .I)), (4, .c (.bx 4 0)), (10, .c (.ref 35))], [(4, .boxT (.s .net)), (35, .arr .I true)]⟩
def z0xh (av : AV) (x : HP z00y.ps) (n : Nat) (v : z0mh.den) (K : Ks (CR z00y)) : Option (CR z00y) := z04s v.2.1 v.1.1 (fun l0_1 => z0ji.at none ((v.1.1, v.1.2.1, (), (), ()), (v.2.1, l0_1, ())) (K (.exit 0))) n v.1.2.2.2.2.1 v.2.2.1
def z0ku (av : AV) (x : HP z00y.ps) : Hdl (CR z00y) := hnd [] z0mh (z0xh av x)
theorem z0zh : LP z00y Tryz.f172 [0] z0ku := lp_ok (W := []) (H := []) (xs := [z0ji]) z0h6 trivial rfl (fun av x v K => by kernel_rfl) (fun av x n v K => by kernel_rfl)
def z0mi : Tmpl := ⟨[(10, .c (.ref 35)), (12, .c (.ref 64)), (13, .c .i)], [(35, .arr .I true), (64, .arr .I true)]⟩
def z0jj : Tmpl := ⟨[(10, .c (.ref 35))], [(35, .arr .I true)]⟩
def z0xi (av : AV) (x : HP z00y.ps) (n : Nat) (v : z0mi.den) (K : Ks (CR z00y)) : Option (CR z00y) := z04t v.2.2.1 (fun l1_1 => z0jj.at none (((), ()), (l1_1, ())) (K (.exit 2))) n v.1.2.2.1 v.2.1
def z0kv (av : AV) (x : HP z00y.ps) : Hdl (CR z00y) := hnd [] z0mi (z0xi av x)
theorem z0zi : LP z00y Tryz.f172 [1] z0kv := lp_ok (W := []) (H := []) (xs := [z0jj]) z0h6 trivial rfl (fun av x v K => by kernel_rfl) (fun av x n v K => by kernel_rfl)
theorem z170 : z00y.Ok Tryz.prog := fn_ok (k := z00y) (fn := Tryz.f172) (W := []) (H := [z0ku, z0kv]) Tryz.func172 z0h6 ⟨z0zh, z0zi, trivial⟩ rfl rfl (fun av x => by kernel_rfl)
def z0p3  : Option Bool := some true
def z06w (people : List Int) (kx0_0 : Option Bool) : Nat → Int → Option Bool
  | 0, _ => none
  | n0 + 1, s0_0 => if decide (s0_0 < (people.length : Int)) = true then ((getI people s0_0).bind fun x4 => ((z002 x4 0 7).bind fun x5 => (if x5 = true then (gd (ok64 (s0_0 + 1)) ((z06w people kx0_0 n0) (s0_0 + 1))) else (some false)))) else (kx0_0)
def z090 (people : List Int) : Option Bool := (z002 (people.length : Int) 1 4).bind fun x1 => (if x1 = true then (z06w people z0p3 FUEL 0) else (some false))
def z039 : Con := ⟨44, [.v (.sl .I) false], [(.B, true)], [], fun x => z090 x.1⟩
def z1cd : Fs := ⟨[z00q], [], []⟩
theorem z0yn : z1cd.Ok Tryz.prog := (fsK z00u fs0)
def z0tz : Tmpl := ⟨[(0, .c (.s .I)), (3, .c .i)], []⟩
def z0qd : Tmpl := ⟨[], []⟩
def z14b (av : AV) (x : HP z039.ps) (n : Nat) (v : z0tz.den) (K : Ks (CR z039)) : Option (CR z039) := z06w v.1.1 (z0qd.at none ((), ()) (K (.exit 0))) n v.1.2.1
def z0sm (av : AV) (x : HP z039.ps) : Hdl (CR z039) := hnd [] z0tz (z14b av x)
theorem z16e : LP z039 Tryz.f44 [0] z0sm := lp_ok (W := []) (H := []) (xs := [z0qd]) z0yn trivial rfl (fun av x v K => by kernel_rfl) (fun av x n v K => by kernel_rfl)
theorem z0i1 : z039.Ok Tryz.prog := fn_ok (k := z039) (fn := Tryz.f44) (W := []) (H := [z0sm]) Tryz.func44 z0yn ⟨z16e, trivial⟩ rfl rfl (fun av x => by kernel_rfl)
def z05p (s0_0 : Int) : Option Bool := gd ((2 : Int) ≠ 0) (some (decide ((Int.tmod s0_0 2) = 1)))
def z029 (role : Int) (kx0_0 : Int → Option Bool) : Nat → Int → Int → Option Bool
  | 0, _, _ => none
  | n0 + 1, s0_0, s0_1 => if decide (s0_1 < role) = true then (gd ((2 : Int) ≠ 0 ∧ ok64 (Int.tdiv s0_0 2)) (gd (ok64 (s0_1 + 1)) ((z029 role kx0_0 n0) (Int.tdiv s0_0 2) (s0_1 + 1)))) else (kx0_0 s0_0)
def z0f6 (people : List Int) (who : Int) (role : Int) : Option Bool := (z090 people).bind fun x1 => (if x1 = true then ((z002 who 1 (people.length : Int)).bind fun x3 => (if x3 = true then ((z002 role 1 3).bind fun x5 => (if x5 = true then (gd (ok64 (who - 1)) ((getI people (who - 1)).bind fun x8 => (z029 role z05p FUEL x8 1))) else (some false))) else (some false))) else (some false))
def z051 : Con := ⟨166, [.v (.sl .I) false, .v .I false, .v .I false], [(.B, true)], [], fun x => z0f6 x.1 x.2.1 x.2.2.1⟩
def z18j : Fs := ⟨[z039, z00q], [], []⟩
theorem z0v1 : z18j.Ok Tryz.prog := (fsK z0i1 (fsK z00u fs0))
def z0pp : Tmpl := ⟨[(2, .c .i), (7, .c .i), (8, .c .i)], []⟩
def z0n0 : Tmpl := ⟨[(7, .c .i)], []⟩
def z112 (av : AV) (x : HP z051.ps) (n : Nat) (v : z0pp.den) (K : Ks (CR z051)) : Option (CR z051) := z029 v.1.1 (fun s0_0 => z0n0.at none ((s0_0, ()), ()) (K (.exit 0))) n v.1.2.1 v.1.2.2.1
def z0oh (av : AV) (x : HP z051.ps) : Hdl (CR z051) := hnd [] z0pp (z112 av x)
theorem z12e : LP z051 Tryz.f166 [0] z0oh := lp_ok (W := []) (H := []) (xs := [z0n0]) z0v1 trivial rfl (fun av x v K => by kernel_rfl) (fun av x n v K => by kernel_rfl)
theorem z1ap : z051.Ok Tryz.prog := fn_ok (k := z051) (fn := Tryz.f166) (W := []) (H := [z0oh]) Tryz.func166 z0v1 ⟨z12e, trivial⟩ rfl rfl (fun av x => by kernel_rfl)
def z0lr  : Option Bool := some false
def z04i (did : List GDid) (who : Int) (task : Int) (kx0_0 : Option Bool) : Nat → Int → Option Bool
  | 0, _ => none
  | n0 + 1, s0_0 => if decide (s0_0 < (did.length : Int)) = true then ((getI did s0_0).bind fun x2 => (if decide (x2.who = who) = true then ((getI did s0_0).bind fun x4 => (if decide (x4.task = task) = true then (some true) else (gd (ok64 (s0_0 + 1)) ((z04i did who task kx0_0 n0) (s0_0 + 1))))) else (gd (ok64 (s0_0 + 1)) ((z04i did who task kx0_0 n0) (s0_0 + 1))))) else (kx0_0)
def z0f5 (did : List GDid) (who : Int) (task : Int) : Option Bool := z04i did who task z0lr FUEL 0
def z050 : Con := ⟨167, [.v (.sl (.s .did)) false, .v .I false, .v .I false], [(.B, true)], [], fun x => z0f5 x.1 x.2.1 x.2.2.1⟩
def z18i : Fs := ⟨[], [], []⟩
theorem z0v0 : z18i.Ok Tryz.prog := fs0
def z0po : Tmpl := ⟨[(0, .c (.s (.s .did))), (1, .c .i), (2, .c .i), (7, .c .i)], []⟩
def z0mz : Tmpl := ⟨[], []⟩
def z111 (av : AV) (x : HP z050.ps) (n : Nat) (v : z0po.den) (K : Ks (CR z050)) : Option (CR z050) := z04i v.1.1 v.1.2.1 v.1.2.2.1 (z0mz.at none ((), ()) (K (.exit 0))) n v.1.2.2.2.1
def z0og (av : AV) (x : HP z050.ps) : Hdl (CR z050) := hnd [] z0po (z111 av x)
theorem z12d : LP z050 Tryz.f167 [0] z0og := lp_ok (W := []) (H := []) (xs := [z0mz]) z0v0 trivial rfl (fun av x v K => by kernel_rfl) (fun av x n v K => by kernel_rfl)
theorem z1ao : z050.Ok Tryz.prog := fn_ok (k := z050) (fn := Tryz.f167) (W := []) (H := [z0og]) Tryz.func167 z0v0 ⟨z12d, trivial⟩ rfl rfl (fun av x => by kernel_rfl)
def z0ls (n : GNet) (people : List Int) (did : List GDid) (t : Int) (s0_0 : Int) (l0_1 : List Int) (bk0 : Int → List Int → Option (List Int)) (s1_0 : Bool) : Option (List Int) := (getI n.tasks t).bind fun x18 => ((z0f6 people s0_0 x18.role).bind fun x19 => (if x19 = true then (if s1_0 = true then (gd (ok64 (s0_0 + 1)) (bk0 (s0_0 + 1) l0_1)) else ((getI n.tasks t).bind fun x23 => ((z0f5 did s0_0 x23.apart).bind fun x24 => (if x24 = true then (gd (ok64 (s0_0 + 1)) (bk0 (s0_0 + 1) l0_1)) else (gd (l0_1.length + [s0_0].length ≤ SMALL) (gd (ok64 (s0_0 + 1)) (bk0 (s0_0 + 1) (l0_1 ++ [s0_0])))))))) else (gd (ok64 (s0_0 + 1)) (bk0 (s0_0 + 1) l0_1))))
def z02a (n : GNet) (busy : List GItem) (t : Int) (s0_0 : Int) (kx1_0 : Bool → Option (List Int)) : Nat → Bool → Int → Option (List Int)
  | 0, _, _ => none
  | n1 + 1, s1_0, s1_1 => if decide (s1_1 < (busy.length : Int)) = true then (if s1_0 = true then (gd (ok64 (s1_1 + 1)) ((z02a n busy t s0_0 kx1_0 n1) true (s1_1 + 1))) else ((getI busy s1_1).bind fun x12 => (if decide (x12.who = s0_0) = true then ((getI busy s1_1).bind fun x14 => ((getI n.tasks t).bind fun x15 => (gd (ok64 (s1_1 + 1)) ((z02a n busy t s0_0 kx1_0 n1) (decide (x14.task = x15.apart)) (s1_1 + 1))))) else (gd (ok64 (s1_1 + 1)) ((z02a n busy t s0_0 kx1_0 n1) false (s1_1 + 1)))))) else (kx1_0 s1_0)
def z0du (l0_1 : List Int) : Option (List Int) := some l0_1
def z05q (n : GNet) (people : List Int) (did : List GDid) (busy : List GItem) (t : Int) (kx0_0 : List Int → Option (List Int)) : Nat → Int → List Int → Option (List Int)
  | 0, _, _ => none
  | n0 + 1, s0_0, l0_1 => if decide (s0_0 ≤ (people.length : Int)) = true then (z02a n busy t s0_0 (z0ls n people did t s0_0 l0_1 (z05q n people did busy t kx0_0 n0)) FUEL false 0) else (kx0_0 l0_1)
def z098 (n : GNet) (people : List Int) (did : List GDid) (busy : List GItem) (t : Int) : Option (List Int) := (z03e n).bind fun x1 => (if x1 = true then ((z090 people).bind fun x3 => (if x3 = true then (gd (ok64 ((n.tasks.length : Int) - 1)) ((z002 t 0 ((n.tasks.length : Int) - 1)).bind fun x6 => (if x6 = true then (z05q n people did busy t z0du FUEL 1 ([] : List Int)) else (some ([] : List Int))))) else (some ([] : List Int)))) else (some ([] : List Int)))
def z014 : Con := ⟨102, [.v (.s .net) false, .v (.sl .I) false, .v (.sl (.s .did)) false, .v (.sl (.s .item)) false, .v .I false], [((.sl .I), true)], [], fun x => z098 x.1 x.2.1 x.2.2.1 x.2.2.2.1 x.2.2.2.2.1⟩
def z18k : Fs := ⟨[z02j, z039, z00q, z051, z050], [], []⟩
theorem z0ki : z18k.Ok Tryz.prog := (fsK z0dz (fsK z0i1 (fsK z00u (fsK z1ap (fsK z1ao fs0)))))
def z0j0 : Tmpl := ⟨[(1, .c (.s .I)), (2, .c (.s (.s .did))), (3, .c (.s (.s .item))), (4, .c .i), (5, .c (.bx 5 0)), (11, .c (.ref 15)), (12, .c .i), (13, .c .b), (14, .c .i)], [(5, .boxT (.s .net)), (15, .arr .I true)]⟩
def z0gr : Tmpl := ⟨[(1, .c (.s .I)), (2, .c (.s (.s .did))), (3, .c (.s (.s .item))), (4, .c .i), (5, .c (.bx 5 0)), (11, .c (.ref 15)), (12, .c .i), (13, .c .b)], [(5, .boxT (.s .net)), (15, .arr .I true)]⟩
def z0vy (av : AV) (x : HP z014.ps) (n : Nat) (v : z0j0.den) (K : Ks (CR z014)) : Option (CR z014) := z02a v.2.1 v.1.2.2.1 v.1.2.2.2.1 v.1.2.2.2.2.2.2.1 (fun s1_0 => z0gr.at none ((v.1.1, v.1.2.1, v.1.2.2.1, v.1.2.2.2.1, (), (), v.1.2.2.2.2.2.2.1, s1_0, ()), (v.2.1, v.2.2.1, ())) (K (.exit 2))) n v.1.2.2.2.2.2.2.2.1 v.1.2.2.2.2.2.2.2.2.1
def z0if (av : AV) (x : HP z014.ps) : Hdl (CR z014) := hnd [] z0j0 (z0vy av x)
theorem z0wg : LP z014 Tryz.f102 [0, 0] z0if := lp_ok (W := []) (H := []) (xs := [z0gr]) z0ki trivial rfl (fun av x v K => by kernel_rfl) (fun av x n v K => by kernel_rfl)
def z0pq : Tmpl := ⟨[(1, .c (.s .I)), (2, .c (.s (.s .did))), (3, .c (.s (.s .item))), (4, .c .i), (5, .c (.bx 5 0)), (11, .c (.ref 15)), (12, .c .i)], [(5, .boxT (.s .net)), (15, .arr .I true)]⟩
def z0n1 : Tmpl := ⟨[(11, .c (.ref 15))], [(15, .arr .I true)]⟩
def z113 (av : AV) (x : HP z014.ps) (n : Nat) (v : z0pq.den) (K : Ks (CR z014)) : Option (CR z014) := z05q v.2.1 v.1.1 v.1.2.1 v.1.2.2.1 v.1.2.2.2.1 (fun l0_1 => z0n1.at none (((), ()), (l0_1, ())) (K (.exit 0))) n v.1.2.2.2.2.2.2.1 v.2.2.1
def z0oi (av : AV) (x : HP z014.ps) : Hdl (CR z014) := hnd [] z0pq (z113 av x)
theorem z12f : LP z014 Tryz.f102 [0] z0oi := lp_ok (W := []) (H := [z0if]) (xs := [z0n1]) z0ki ⟨z0wg, trivial⟩ rfl (fun av x v K => by kernel_rfl) (fun av x n v K => by kernel_rfl)
theorem z0vg : z014.Ok Tryz.prog := fn_ok (k := z014) (fn := Tryz.f102) (W := []) (H := [z0oi]) Tryz.func102 z0ki ⟨z12f, trivial⟩ rfl rfl (fun av x => by kernel_rfl)
def z097 (n : GNet) (data : List Int) : Option GCase := (z03e n).bind fun x1 => (if x1 = true then ((z02o data).bind fun x3 => (if x3 = true then (gd ((0 : Int) ≤ n.places ∧ n.places ≤ (1000000000 : Int)) (gd (([] : List Int).length + data.length ≤ SMALL) ((getI (List.replicate n.places.toNat (0 : Int)) 0).bind fun x7 => (some (GCase.mk 1 ((List.replicate n.places.toNat (0 : Int)).set (0 : Int).toNat 1) [] (([] : List Int) ++ data) []))))) else (some (GCase.mk 0 [] [] [] [])))) else (some (GCase.mk 0 [] [] [] [])))
def z0en : Con := ⟨155, [.v (.s .net) false, .v (.sl .I) false], [((.s .kase), true)], [], fun x => z097 x.1 x.2.1⟩
def z18e : Fs := ⟨[z02j, z019], [], []⟩
theorem z19g : z18e.Ok Tryz.prog := (fsK z0dz (fsK z06h fs0))
theorem z0vd : z0en.Ok Tryz.prog := fn_ok (k := z0en) (fn := Tryz.f155) (W := []) (H := []) Tryz.func155 z19g trivial rfl rfl (fun av x => by kernel_rfl)
def z0ba (c : GCase) : Option Bool := if decide (c.state = 1) = true then ((getI c.marks 1).bind fun x20 => (some (decide (x20 = 0)))) else (if decide ((c.busy.length : Int) = 0) = true then ((getI c.marks 1).bind fun x22 => (some ((decide (c.state = 2)) == (decide (0 < x22))))) else (some false))
def z06q (n : GNet) (c : GCase) (kx0_0 : Option Bool) : Nat → Int → Option Bool
  | 0, _ => none
  | n0 + 1, s0_0 => if decide (s0_0 < (c.did.length : Int)) = true then ((getI c.did s0_0).bind fun x11 => (gd (ok64 ((n.tasks.length : Int) - 1)) ((z002 x11.task 0 ((n.tasks.length : Int) - 1)).bind fun x13 => (if x13 = true then ((getI c.did s0_0).bind fun x15 => ((z002 x15.who 1 4).bind fun x16 => (if x16 = true then (gd (ok64 (s0_0 + 1)) ((z06q n c kx0_0 n0) (s0_0 + 1))) else (some false)))) else (some false))))) else (kx0_0)
def z08y (n : GNet) (c : GCase) : Option Bool := (z08z n c.marks).bind fun x1 => (if x1 = true then ((z0bu n c.busy).bind fun x3 => (if x3 = true then ((z02o c.data).bind fun x5 => (if x5 = true then (if decide (60 < (c.did.length : Int)) = true then (some false) else ((z002 c.state 1 3).bind fun x8 => (if x8 = true then (z06q n c (z0ba c) FUEL 0) else (some false)))) else (some false))) else (some false))) else (some false))
def z037 : Con := ⟨25, [.v (.s .net) false, .v (.s .kase) false], [(.B, true)], [], fun x => z08y x.1 x.2.1⟩
def z1c6 : Fs := ⟨[z038, z044, z019, z00q], [], []⟩
theorem z0yh : z1c6.Ok Tryz.prog := (fsK z0i0 (fsK z0vj (fsK z06h (fsK z00u fs0))))
def z0tu : Tmpl := ⟨[(2, .c (.bx 2 0)), (3, .c (.bx 3 0)), (5, .c .i)], [(2, .boxT (.s .net)), (3, .boxT (.s .kase))]⟩
def z0q8 : Tmpl := ⟨[(3, .c (.bx 3 0))], [(3, .boxT (.s .kase))]⟩
def z146 (av : AV) (x : HP z037.ps) (n : Nat) (v : z0tu.den) (K : Ks (CR z037)) : Option (CR z037) := z06q v.2.1 v.2.2.1 (z0q8.at none (((), ()), (v.2.2.1, ())) (K (.exit 0))) n v.1.2.2.1
def z0sh (av : AV) (x : HP z037.ps) : Hdl (CR z037) := hnd [] z0tu (z146 av x)
theorem z169 : LP z037 Tryz.f25 [0] z0sh := lp_ok (W := []) (H := []) (xs := [z0q8]) z0yh trivial rfl (fun av x v K => by kernel_rfl) (fun av x n v K => by kernel_rfl)
theorem z0hz : z037.Ok Tryz.prog := fn_ok (k := z037) (fn := Tryz.f25) (W := []) (H := [z0sh]) Tryz.func25 z0yh ⟨z169, trivial⟩ rfl rfl (fun av x => by kernel_rfl)
def z05z (c : GCase) : Option GCase := gd (([] : List Int).length + c.marks.length ≤ SMALL) (gd (([] : List GItem).length + c.busy.length ≤ SMALL) (gd (([] : List Int).length + c.data.length ≤ SMALL) (gd (([] : List GDid).length + c.did.length ≤ SMALL) (some (GCase.mk c.state (([] : List Int) ++ c.marks) (([] : List GItem) ++ c.busy) (([] : List Int) ++ c.data) (([] : List GDid) ++ c.did))))))
def z096 : Con := ⟨86, [.v (.s .kase) false], [((.s .kase), true)], [], fun x => z05z x.1⟩
def z18u : Fs := ⟨[], [], []⟩
theorem z19p : z18u.Ok Tryz.prog := fs0
theorem z0fg : z096.Ok Tryz.prog := fn_ok (k := z096) (fn := Tryz.f86) (W := []) (H := []) Tryz.func86 z19p trivial rfl rfl (fun av x => by kernel_rfl)
def z06r (n : GNet) (people : List Int) (c : GCase) (t : Int) (who : Int) : Option (GCase × Bool) := (z05z c).bind fun x1 => ((z08y n c).bind fun x2 => (if x2 = true then (if decide (c.state = 1) = true then ((z0bs n c.marks c.busy t).bind fun x5 => (if x5 = true then ((z098 n people c.did c.busy t).bind fun x7 => ((z0aw x7 who).bind fun x8 => (if x8 = true then (if decide ((c.busy.length : Int) = 6) = true then (some (x1, false)) else ((z0cz n c.marks t).bind fun x11 => (gd (x1.busy.length + [(GItem.mk t who 0)].length ≤ SMALL) (some ((GCase.mk x1.state x11 (x1.busy ++ [(GItem.mk t who 0)]) x1.data x1.did), true))))) else (some (x1, false))))) else (some (x1, false)))) else (some (x1, false))) else (some (x1, false))))
def z0b4 : Con := ⟨32, [.v (.s .net) false, .v (.sl .I) false, .v (.s .kase) false, .v .I false, .v .I false], [((.s .kase), true), (.B, true)], [], fun x => z06r x.1 x.2.1 x.2.2.1 x.2.2.2.1 x.2.2.2.2.1⟩
def z11l : Fs := ⟨[z096, z037, z0ep, z014, z04g, z03q], [], []⟩
theorem z122 : z11l.Ok Tryz.prog := (fsK z0fg (fsK z0hz (fsK z0vf (fsK z0vg (fsK z0rc (fsK z16z fs0))))))
theorem z0pb : z0b4.Ok Tryz.prog := fn_ok (k := z0b4) (fn := Tryz.f32) (W := []) (H := []) Tryz.func32 z122 trivial rfl rfl (fun av x => by kernel_rfl)
def z09n (n : GNet) (c : GCase) (k : Int) (v : Int) (num : Int) : Option (GCase × Bool) := (z05z c).bind fun x1 => ((z08y n c).bind fun x2 => (if x2 = true then (if decide (c.state = 1) = true then (gd (ok64 ((c.busy.length : Int) - 1)) ((z002 k 0 ((c.busy.length : Int) - 1)).bind fun x6 => (if x6 = true then ((z002 v (-1) 2).bind fun x8 => (if x8 = true then ((z002 num (-99) 99).bind fun x10 => (if x10 = true then (if decide ((c.did.length : Int) = 60) = true then (some (x1, false)) else ((getI c.busy k).bind fun x13 => ((z07i c.data v num).bind fun x14 => (gd (ok64 (x13.did + 1)) ((getI x1.busy k).bind fun x16 => (gd (ok64 (x13.did + 1)) ((getI n.tasks x13.task).bind fun x18 => (if decide ((x13.did + 1) < x18.need) = true then (some ((GCase.mk x1.state x1.marks (x1.busy.set k.toNat (GItem.mk x16.task x16.who (x13.did + 1))) x14 x1.did), true)) else ((z0d0 n c.marks x13.task x14).bind fun x20 => (if x20.2 = true then (gd ((0 : Int) ≤ k ∧ k ≤ (c.busy.length : Int)) (gd (([] : List GItem).length + (c.busy.take k.toNat).length ≤ SMALL) (gd (ok64 (k + 1)) (gd ((0 : Int) ≤ (k + 1) ∧ (k + 1) ≤ (c.busy.length : Int)) (gd ((([] : List GItem) ++ (c.busy.take k.toNat)).length + (c.busy.drop (k + 1).toNat).length ≤ SMALL) (gd (x1.did.length + [(GDid.mk x13.task x13.who)].length ≤ SMALL) ((getI x20.1 1).bind fun x28 => (if decide (0 < x28) = true then (some ((GCase.mk 2 x20.1 ([] : List GItem) x14 (x1.did ++ [(GDid.mk x13.task x13.who)])), true)) else (some ((GCase.mk x1.state x20.1 ((([] : List GItem) ++ (c.busy.take k.toNat)) ++ (c.busy.drop (k + 1).toNat)) x14 (x1.did ++ [(GDid.mk x13.task x13.who)])), true)))))))))) else ((z05z c).bind fun x30 => (some (x30, false))))))))))))) else (some (x1, false)))) else (some (x1, false)))) else (some (x1, false))))) else (some (x1, false))) else (some (x1, false))))
def z0ct : Con := ⟨112, [.v (.s .net) false, .v (.s .kase) false, .v .I false, .v .I false, .v .I false], [((.s .kase), true), (.B, true)], [], fun x => z09n x.1 x.2.1 x.2.2.1 x.2.2.2.1 x.2.2.2.2.1⟩
def z152 : Fs := ⟨[z096, z037, z00q, z0eo, z00y], [], []⟩
theorem z15s : z152.Ok Tryz.prog := (fsK z0fg (fsK z0hz (fsK z00u (fsK z0ve (fsK z170 fs0)))))
theorem z0ta : z0ct.Ok Tryz.prog := fn_ok (k := z0ct) (fn := Tryz.f112) (W := []) (H := []) Tryz.func112 z15s trivial rfl rfl (fun av x => by kernel_rfl)
def z0cy (n : GNet) (c : GCase) : Option (GCase × Bool) := (z05z c).bind fun x1 => ((z08y n c).bind fun x2 => (if x2 = true then (if decide (c.state = 1) = true then (some ((GCase.mk 3 x1.marks ([] : List GItem) x1.data x1.did), true)) else (some (x1, false))) else (some (x1, false))))
def z0hf : Con := ⟨23, [.v (.s .net) false, .v (.s .kase) false], [((.s .kase), true), (.B, true)], [], fun x => z0cy x.1 x.2.1⟩
def z151 : Fs := ⟨[z096, z037], [], []⟩
theorem z15r : z151.Ok Tryz.prog := (fsK z0fg (fsK z0hz fs0))
theorem z16y : z0hf.Ok Tryz.prog := fn_ok (k := z0hf) (fn := Tryz.f23) (W := []) (H := []) Tryz.func23 z15r trivial rfl rfl (fun av x => by kernel_rfl)
def z008 (c : GCase) : Option GCase := (z00g c.marks).bind fun x1 => (gd (([] : List GItem).length + c.busy.length ≤ SMALL) ((z00g c.data).bind fun x3 => (gd (([] : List GDid).length + c.did.length ≤ SMALL) (some (GCase.mk c.state x1 (([] : List GItem) ++ c.busy) x3 (([] : List GDid) ++ c.did))))))
def z02i : Con := ⟨84, [.v (.s .kase) false], [((.s .kase), true)], [], fun x => z008 x.1⟩
def z0qk : Fs := ⟨[z01r], [], []⟩
theorem z0qq : z0qk.Ok Tryz.prog := (fsK z033 fs0)
theorem z06g : z02i.Ok Tryz.prog := fn_ok (k := z02i) (fn := Tryz.f84) (W := []) (H := []) Tryz.func84 z0qq trivial rfl rfl (fun av x => by kernel_rfl)
def z0p4 (s0_0 : Int) (bk0 : Int → Option Bool) (s1_0 : Int) : Option Bool := if ((decide (s0_0 = 0)) == (decide (s1_0 = 0))) = true then (if decide (1 < s1_0) = true then (some false) else (gd (ok64 (s0_0 + 1)) (bk0 (s0_0 + 1)))) else (some false)
def z012 (tree : List GNode) (s0_0 : Int) (kx1_0 : Int → Option Bool) : Nat → Int → Int → Option Bool
  | 0, _, _ => none
  | n1 + 1, s1_0, s1_1 => if decide (s1_1 < (tree.length : Int)) = true then ((getI tree s1_1).bind fun x15 => (if decide (x15.yes = s0_0) = true then (gd (ok64 (s1_0 + 1)) ((getI tree s1_1).bind fun x18 => (if decide (x18.no = s0_0) = true then (gd (ok64 ((s1_0 + 1) + 1)) (gd (ok64 (s1_1 + 1)) ((z012 tree s0_0 kx1_0 n1) ((s1_0 + 1) + 1) (s1_1 + 1)))) else (gd (ok64 (s1_1 + 1)) ((z012 tree s0_0 kx1_0 n1) (s1_0 + 1) (s1_1 + 1)))))) else ((getI tree s1_1).bind fun x23 => (if decide (x23.no = s0_0) = true then (gd (ok64 (s1_0 + 1)) (gd (ok64 (s1_1 + 1)) ((z012 tree s0_0 kx1_0 n1) (s1_0 + 1) (s1_1 + 1)))) else (gd (ok64 (s1_1 + 1)) ((z012 tree s0_0 kx1_0 n1) s1_0 (s1_1 + 1))))))) else (kx1_0 s1_0)
def z0p5 (s0_0 : Int) (bk0 : Int → Option Bool) (s2_0 : Int) : Option Bool := if ((decide (s0_0 = 0)) == (decide (s2_0 = 0))) = true then (if decide (1 < s2_0) = true then (some false) else (gd (ok64 (s0_0 + 1)) (bk0 (s0_0 + 1)))) else (some false)
def z0p6 (s0_0 : Int) (bk0 : Int → Option Bool) (s3_0 : Int) : Option Bool := if ((decide (s0_0 = 0)) == (decide (s3_0 = 0))) = true then (if decide (1 < s3_0) = true then (some false) else (gd (ok64 (s0_0 + 1)) (bk0 (s0_0 + 1)))) else (some false)
def z0p7 (s0_0 : Int) (bk0 : Int → Option Bool) (s4_0 : Int) : Option Bool := if ((decide (s0_0 = 0)) == (decide (s4_0 = 0))) = true then (if decide (1 < s4_0) = true then (some false) else (gd (ok64 (s0_0 + 1)) (bk0 (s0_0 + 1)))) else (some false)
def z0p8  : Option Bool := some true
def z02x (tree : List GNode) (kx0_0 : Option Bool) : Nat → Int → Option Bool
  | 0, _ => none
  | n0 + 1, s0_0 => if decide (s0_0 < (tree.length : Int)) = true then ((getI tree s0_0).bind fun x3 => ((z06e x3.if_).bind fun x4 => (if x4 = true then ((z002 x3.ans 0 2).bind fun x6 => (if x6 = true then ((z02o x3.stone).bind fun x8 => (if x8 = true then ((z01e x3.if_ x3.stone).bind fun x10 => (if x10 = true then (if decide (x3.yes = (-1)) = true then (if decide (x3.no = (-1)) = true then (z012 tree s0_0 (z0p4 s0_0 (z02x tree kx0_0 n0)) FUEL 0 0) else (gd (ok64 (s0_0 + 1)) (gd (ok64 ((tree.length : Int) - 1)) ((z002 x3.no (s0_0 + 1) ((tree.length : Int) - 1)).bind fun x33 => (if x33 = true then (z012 tree s0_0 (z0p5 s0_0 (z02x tree kx0_0 n0)) FUEL 0 0) else (some false)))))) else (gd (ok64 (s0_0 + 1)) (gd (ok64 ((tree.length : Int) - 1)) ((z002 x3.yes (s0_0 + 1) ((tree.length : Int) - 1)).bind fun x54 => (if x54 = true then (if decide (x3.no = (-1)) = true then (z012 tree s0_0 (z0p6 s0_0 (z02x tree kx0_0 n0)) FUEL 0 0) else (gd (ok64 (s0_0 + 1)) (gd (ok64 ((tree.length : Int) - 1)) ((z002 x3.no (s0_0 + 1) ((tree.length : Int) - 1)).bind fun x76 => (if x76 = true then (z012 tree s0_0 (z0p7 s0_0 (z02x tree kx0_0 n0)) FUEL 0 0) else (some false)))))) else (some false)))))) else (some false))) else (some false))) else (some false))) else (some false)))) else (kx0_0)
def z091 (tree : List GNode) : Option Bool := if decide (12 < (tree.length : Int)) = true then (some false) else (z02x tree z0p8 FUEL 0)
def z01a : Con := ⟨129, [.v (.sl (.s .node)) false], [(.B, true)], [], fun x => z091 x.1⟩
def z1ce : Fs := ⟨[z08u, z00q, z019, z042], [], []⟩
theorem z0qs : z1ce.Ok Tryz.prog := (fsK z0dy (fsK z00u (fsK z06h (fsK z06z fs0))))
def z0mj : Tmpl := ⟨[(0, .c (.s (.s .node))), (3, .c .i), (5, .c .i), (6, .c .i)], []⟩
def z0jk : Tmpl := ⟨[(0, .c (.s (.s .node))), (3, .c .i), (5, .c .i)], []⟩
def z0xj (av : AV) (x : HP z01a.ps) (n : Nat) (v : z0mj.den) (K : Ks (CR z01a)) : Option (CR z01a) := z012 v.1.1 v.1.2.1 (fun s1_0 => z0jk.at none ((v.1.1, v.1.2.1, s1_0, ()), ()) (K (.exit 2))) n v.1.2.2.1 v.1.2.2.2.1
def z0kw (av : AV) (x : HP z01a.ps) : Hdl (CR z01a) := hnd [] z0mj (z0xj av x)
theorem z0zj : LP z01a Tryz.f129 [0, 0] z0kw := lp_ok (W := []) (H := []) (xs := [z0jk]) z0qs trivial rfl (fun av x v K => by kernel_rfl) (fun av x n v K => by kernel_rfl)
def z0u0 : Tmpl := ⟨[(0, .c (.s (.s .node))), (3, .c .i)], []⟩
def z0qe : Tmpl := ⟨[], []⟩
def z14c (av : AV) (x : HP z01a.ps) (n : Nat) (v : z0u0.den) (K : Ks (CR z01a)) : Option (CR z01a) := z02x v.1.1 (z0qe.at none ((), ()) (K (.exit 0))) n v.1.2.1
def z0sn (av : AV) (x : HP z01a.ps) : Hdl (CR z01a) := hnd [] z0u0 (z14c av x)
theorem z16f : LP z01a Tryz.f129 [0] z0sn := lp_ok (W := []) (H := [z0kw]) (xs := [z0qe]) z0qs ⟨z0zj, trivial⟩ rfl (fun av x v K => by kernel_rfl) (fun av x n v K => by kernel_rfl)
theorem z0rb : z01a.Ok Tryz.prog := fn_ok (k := z01a) (fn := Tryz.f129) (W := []) (H := [z0sn]) Tryz.func129 z0qs ⟨z16f, trivial⟩ rfl rfl (fun av x => by kernel_rfl)
def z0lu (s0_0 : Int) (s0_1 : Int) : Option (Int × Int) := some (s0_0, s0_1)
def z0lv (s0_0 : Int) (s0_1 : Int) : Option (Int × Int) := some (s0_0, s0_1)
def z030 (tree : List GNode) (data : List Int) (kx0_0 : Int → Int → Option (Int × Int)) (kx0_1 : Int → Int → Option (Int × Int)) : Nat → Int → Int → Int → Int → Option (Int × Int)
  | 0, _, _, _, _ => none
  | n0 + 1, s0_0, s0_1, s0_2, s0_3 => if decide (s0_3 < 12) = true then (if decide (s0_2 = (-1)) = true then (kx0_0 s0_0 s0_1) else ((getI tree s0_2).bind fun x4 => ((z01e x4.if_ data).bind fun x5 => (if x5 = true then ((getI tree s0_2).bind fun x7 => (gd (ok64 (s0_3 + 1)) ((z030 tree data kx0_0 kx0_1 n0) s0_2 s0_2 x7.yes (s0_3 + 1)))) else ((getI tree s0_2).bind fun x9 => (gd (ok64 (s0_3 + 1)) ((z030 tree data kx0_0 kx0_1 n0) s0_0 s0_2 x9.no (s0_3 + 1)))))))) else (kx0_1 s0_0 s0_1)
def z0lw (s1_0 : Int) (s1_1 : Int) : Option (Int × Int) := some (s1_0, s1_1)
def z0lx (s1_0 : Int) (s1_1 : Int) : Option (Int × Int) := some (s1_0, s1_1)
def z07n (tree : List GNode) (data : List Int) : Option (Int × Int) := if decide ((tree.length : Int) = 0) = true then (z030 tree data z0lu z0lv FUEL (-1) (-1) (-1) 0) else (z030 tree data z0lw z0lx FUEL (-1) (-1) 0 0)
def z02y : Con := ⟨209, [.v (.sl (.s .node)) false, .v (.sl .I) false], [(.I, true), (.I, true)], [], fun x => z07n x.1 x.2.1⟩
def z18x : Fs := ⟨[z042], [], []⟩
theorem z0v6 : z18x.Ok Tryz.prog := (fsK z06z fs0)
def z0pv : Tmpl := ⟨[(0, .c (.s (.s .node))), (1, .c (.s .I)), (6, .c .i), (7, .c .i), (8, .c .i), (9, .c .i)], []⟩
def z0ec : Tmpl := ⟨[(6, .c .i), (7, .c .i)], []⟩
def z118 (av : AV) (x : HP z02y.ps) (n : Nat) (v : z0pv.den) (K : Ks (CR z02y)) : Option (CR z02y) := z030 v.1.1 v.1.2.1 (fun s0_0 s0_1 => z0ec.at none ((s0_0, s0_1, ()), ()) (K (.exit 0))) (fun s0_0 s0_1 => z0ec.at none ((s0_0, s0_1, ()), ()) (K (.exit 0))) n v.1.2.2.1 v.1.2.2.2.1 v.1.2.2.2.2.1 v.1.2.2.2.2.2.1
def z0on (av : AV) (x : HP z02y.ps) : Hdl (CR z02y) := hnd [] z0pv (z118 av x)
theorem z12k : LP z02y Tryz.f209 [0] z0on := lp_ok (W := []) (H := []) (xs := [z0ec]) z0v6 trivial rfl (fun av x v K => by kernel_rfl) (fun av x n v K => by kernel_rfl)
theorem z0m3 : z02y.Ok Tryz.prog := fn_ok (k := z02y) (fn := Tryz.f209) (W := []) (H := [z0on]) Tryz.func209 z0v6 ⟨z12k, trivial⟩ rfl rfl (fun av x => by kernel_rfl)
def z0f7 (tree : List GNode) (data : List Int) : Option Int := (z091 tree).bind fun x1 => (if x1 = true then ((z02o data).bind fun x3 => (if x3 = true then ((z07n tree data).bind fun x5 => (if decide (x5.1 = (-1)) = true then (some 0) else ((getI tree x5.1).bind fun x7 => (some x7.ans)))) else (some 0))) else (some 0))
def z0ld : Con := ⟨186, [.v (.sl (.s .node)) false, .v (.sl .I) false], [(.I, true)], [], fun x => z0f7 x.1 x.2.1⟩
def z18m : Fs := ⟨[z01a, z019, z02y], [], []⟩
theorem z19j : z18m.Ok Tryz.prog := (fsK z0rb (fsK z06h (fsK z0m3 fs0)))
theorem z1aq : z0ld.Ok Tryz.prog := fn_ok (k := z0ld) (fn := Tryz.f186) (W := []) (H := []) Tryz.func186 z19j trivial rfl rfl (fun av x => by kernel_rfl)
def z0fb (tree : List GNode) (a : List Int) (b : List Int) : Option Bool := (z07n tree a).bind fun x1 => ((z07n tree b).bind fun x2 => (if decide (x1.2 = x2.2) = true then (if decide (x1.2 = (-1)) = true then (some true) else ((getI tree x1.2).bind fun x5 => ((z01e x5.if_ a).bind fun x6 => ((getI tree x1.2).bind fun x7 => ((z01e x7.if_ b).bind fun x8 => (some (x6 == x8))))))) else (some false)))
def z0lg : Con := ⟨210, [.v (.sl (.s .node)) false, .v (.sl .I) false, .v (.sl .I) false], [(.B, true)], [], fun x => z0fb x.1 x.2.1 x.2.2.1⟩
def z18w : Fs := ⟨[z02y, z042], [], []⟩
theorem z19q : z18w.Ok Tryz.prog := (fsK z0m3 (fsK z06z fs0))
theorem z1au : z0lg.Ok Tryz.prog := fn_ok (k := z0lg) (fn := Tryz.f210) (W := []) (H := []) Tryz.func210 z19q trivial rfl rfl (fun av x => by kernel_rfl)
def z0dv (l0_1 : List GNode) : Option (List GNode) := some l0_1
def z05u (tree : List GNode) (kx0_0 : List GNode → Option (List GNode)) : Nat → Int → List GNode → Option (List GNode)
  | 0, _, _ => none
  | n0 + 1, s0_0, l0_1 => if decide (s0_0 < (tree.length : Int)) = true then ((getI tree s0_0).bind fun x2 => (gd (([] : List Int).length + x2.stone.length ≤ SMALL) (gd (l0_1.length + [(GNode.mk x2.if_ x2.yes x2.no x2.ans (([] : List Int) ++ x2.stone))].length ≤ SMALL) (gd (ok64 (s0_0 + 1)) ((z05u tree kx0_0 n0) (s0_0 + 1) (l0_1 ++ [(GNode.mk x2.if_ x2.yes x2.no x2.ans (([] : List Int) ++ x2.stone))])))))) else (kx0_0 l0_1)
def z0bv (tree : List GNode) : Option (List GNode) := z05u tree z0dv FUEL 0 ([] : List GNode)
def z045 : Con := ⟨189, [.v (.sl (.s .node)) false], [((.sl (.s .node)), true)], [], fun x => z0bv x.1⟩
def z18v : Fs := ⟨[], [], []⟩
theorem z0v5 : z18v.Ok Tryz.prog := fs0
def z0pu : Tmpl := ⟨[(0, .c (.s (.s .node))), (3, .c (.ref 6)), (4, .c .i)], [(6, .arr (.s .node) true)]⟩
def z0n5 : Tmpl := ⟨[(3, .c (.ref 6))], [(6, .arr (.s .node) true)]⟩
def z117 (av : AV) (x : HP z045.ps) (n : Nat) (v : z0pu.den) (K : Ks (CR z045)) : Option (CR z045) := z05u v.1.1 (fun l0_1 => z0n5.at none (((), ()), (l0_1, ())) (K (.exit 0))) n v.1.2.2.1 v.2.1
def z0om (av : AV) (x : HP z045.ps) : Hdl (CR z045) := hnd [] z0pu (z117 av x)
theorem z12j : LP z045 Tryz.f189 [0] z0om := lp_ok (W := []) (H := []) (xs := [z0n5]) z0v5 trivial rfl (fun av x v K => by kernel_rfl) (fun av x n v K => by kernel_rfl)
theorem z0vk : z045.Ok Tryz.prog := fn_ok (k := z045) (fn := Tryz.f189) (W := []) (H := [z0om]) Tryz.func189 z0v5 ⟨z12j, trivial⟩ rfl rfl (fun av x => by kernel_rfl)
def z09p (tree : List GNode) (data : List Int) (e : GAsk) (ans : Int) (x1 : (List GNode)) : Option ((List GNode) × Bool) := (z07n tree data).bind fun x20 => (if decide (x20.2 = (-1)) = true then (gd (([] : List Int).length + data.length ≤ SMALL) (gd (x1.length + [(GNode.mk e (-1) (-1) ans (([] : List Int) ++ data))].length ≤ SMALL) (some ((x1 ++ [(GNode.mk e (-1) (-1) ans (([] : List Int) ++ data))]), true)))) else ((getI tree x20.2).bind fun x24 => ((z01e x24.if_ data).bind fun x25 => (if x25 = true then ((getI x1 x20.2).bind fun x27 => (gd (([] : List Int).length + data.length ≤ SMALL) (gd ((x1.set x20.2.toNat (GNode.mk x27.if_ (tree.length : Int) x27.no x27.ans x27.stone)).length + [(GNode.mk e (-1) (-1) ans (([] : List Int) ++ data))].length ≤ SMALL) (some (((x1.set x20.2.toNat (GNode.mk x27.if_ (tree.length : Int) x27.no x27.ans x27.stone)) ++ [(GNode.mk e (-1) (-1) ans (([] : List Int) ++ data))]), true))))) else ((getI x1 x20.2).bind fun x30 => (gd (([] : List Int).length + data.length ≤ SMALL) (gd ((x1.set x20.2.toNat (GNode.mk x30.if_ x30.yes (tree.length : Int) x30.ans x30.stone)).length + [(GNode.mk e (-1) (-1) ans (([] : List Int) ++ data))].length ≤ SMALL) (some (((x1.set x20.2.toNat (GNode.mk x30.if_ x30.yes (tree.length : Int) x30.ans x30.stone)) ++ [(GNode.mk e (-1) (-1) ans (([] : List Int) ++ data))]), true)))))))))
def z04j (tree : List GNode) (data : List Int) (e : GAsk) (x1 : (List GNode)) (kx0_0 : Option ((List GNode) × Bool)) : Nat → Int → Option ((List GNode) × Bool)
  | 0, _ => none
  | n0 + 1, s0_0 => if decide (s0_0 < (tree.length : Int)) = true then ((getI tree s0_0).bind fun x12 => ((z0fb tree x12.stone data).bind fun x13 => (if x13 = true then ((getI tree s0_0).bind fun x15 => ((z01e e x15.stone).bind fun x16 => (if x16 = true then (some (x1, false)) else (gd (ok64 (s0_0 + 1)) ((z04j tree data e x1 kx0_0 n0) (s0_0 + 1)))))) else (gd (ok64 (s0_0 + 1)) ((z04j tree data e x1 kx0_0 n0) (s0_0 + 1)))))) else (kx0_0)
def z07j (tree : List GNode) (data : List Int) (e : GAsk) (ans : Int) : Option ((List GNode) × Bool) := (z0bv tree).bind fun x1 => ((z091 tree).bind fun x2 => (if x2 = true then ((z02o data).bind fun x4 => (if x4 = true then ((z01e e data).bind fun x6 => (if x6 = true then ((z002 ans 0 2).bind fun x8 => (if x8 = true then (if decide ((tree.length : Int) = 12) = true then (some (x1, false)) else (z04j tree data e x1 (z09p tree data e ans x1) FUEL 0)) else (some (x1, false)))) else (some (x1, false)))) else (some (x1, false)))) else (some (x1, false))))
def z043 : Con := ⟨187, [.v (.sl (.s .node)) false, .v (.sl .I) false, .v (.s .ask) false, .v .I false], [((.sl (.s .node)), true), (.B, true)], [], fun x => z07j x.1 x.2.1 x.2.2.1 x.2.2.2.1⟩
def z18l : Fs := ⟨[z045, z01a, z019, z042, z00q, z0lg, z02y], [], []⟩
theorem z0v2 : z18l.Ok Tryz.prog := (fsK z0vk (fsK z0rb (fsK z06h (fsK z06z (fsK z00u (fsK z1au (fsK z0m3 fs0)))))))
def z0pr : Tmpl := ⟨[(0, .c (.s (.s .node))), (1, .c (.s .I)), (3, .c .i), (6, .c (.bx 6 0)), (10, .c (.ref 15)), (11, .c .i)], [(6, .boxT (.s .ask)), (15, .arr (.s .node) true)]⟩
def z0n2 : Tmpl := ⟨[(0, .c (.s (.s .node))), (1, .c (.s .I)), (3, .c .i), (6, .c (.bx 6 0)), (10, .c (.ref 15))], [(6, .boxT (.s .ask)), (15, .arr (.s .node) true)]⟩
def z114 (av : AV) (x : HP z043.ps) (n : Nat) (v : z0pr.den) (K : Ks (CR z043)) : Option (CR z043) := z04j v.1.1 v.1.2.1 v.2.1 v.2.2.1 (z0n2.at none ((v.1.1, v.1.2.1, v.1.2.2.1, (), (), ()), (v.2.1, v.2.2.1, ())) (K (.exit 0))) n v.1.2.2.2.2.2.1
def z0oj (av : AV) (x : HP z043.ps) : Hdl (CR z043) := hnd [] z0pr (z114 av x)
theorem z12g : LP z043 Tryz.f187 [0] z0oj := lp_ok (W := []) (H := []) (xs := [z0n2]) z0v2 trivial rfl (fun av x v K => by kernel_rfl) (fun av x n v K => by kernel_rfl)
theorem z0vh : z043.Ok Tryz.prog := fn_ok (k := z043) (fn := Tryz.f187) (W := []) (H := [z0oj]) Tryz.func187 z0v2 ⟨z12g, trivial⟩ rfl rfl (fun av x => by kernel_rfl)
def z047 (ans : Int) : Option Bool := (z00c ans 0 2).bind fun x1 => (some x1)
def z083 : Con := ⟨121, [.v .I false], [(.B, true)], [], fun x => z047 x.1⟩
def z11j : Fs := ⟨[z02h], [], []⟩
theorem z120 : z11j.Ok Tryz.prog := (fsK z036 fs0)
theorem z0g0 : z083.Ok Tryz.prog := fn_ok (k := z083) (fn := Tryz.f121) (W := []) (H := []) Tryz.func121 z120 trivial rfl rfl (fun av x => by kernel_rfl)
def z08x (l0_1 : List GNode) : Option (List GNode) := some l0_1
def z02n (tree : List GNode) (p0_0 : Int) (kx0_0 : List GNode → Option (List GNode)) : Nat → Int → List GNode → Option (List GNode)
  | 0, _, _ => none
  | n0 + 1, s0_0, l0_1 => if decide (s0_0 < p0_0) = true then ((getI tree s0_0).bind fun x2 => ((z00g x2.stone).bind fun x3 => (gd (l0_1.length + [(GNode.mk x2.if_ x2.yes x2.no x2.ans x3)].length ≤ SMALL) (gd (ok64 (s0_0 + 1)) ((z02n tree p0_0 kx0_0 n0) (s0_0 + 1) (l0_1 ++ [(GNode.mk x2.if_ x2.yes x2.no x2.ans x3)])))))) else (kx0_0 l0_1)
def z06i (tree : List GNode) : Option (List GNode) := z02n tree (tree.length : Int) z08x FUEL 0 ([] : List GNode)
def z01d : Con := ⟨183, [.v (.sl (.s .node)) false], [((.sl (.s .node)), true)], [], fun x => z06i x.1⟩
def z0wc : Fs := ⟨[z01r], [], []⟩
theorem z0id : z0wc.Ok Tryz.prog := (fsK z033 fs0)
def z0fo : Tmpl := ⟨[(3, .c (.ref 500003)), (6, .c (.s (.s .node))), (7, .c .i), (8, .c .i)], [(500003, .arr (.s .node) true)]⟩
def z0e9 : Tmpl := ⟨[(3, .c (.ref 500003))], [(500003, .arr (.s .node) true)]⟩
def z0rk (av : AV) (x : HP z01d.ps) (n : Nat) (v : z0fo.den) (K : Ks (CR z01d)) : Option (CR z01d) := z02n v.1.2.1 v.1.2.2.1 (fun l0_1 => z0e9.at none (((), ()), (l0_1, ())) (K (.exit 0))) n v.1.2.2.2.1 v.2.1
def z0ei (av : AV) (x : HP z01d.ps) : Hdl (CR z01d) := hnd [.e 3 500003 (.s .node)] z0fo (z0rk av x)
theorem z0t0 : LP z01d Tryz.f183 [0] z0ei := lp_ok (W := []) (H := []) (xs := [z0e9]) z0id trivial rfl (fun av x v K => by kernel_rfl) (fun av x n v K => by kernel_rfl)
theorem z0iy : z01d.Ok Tryz.prog := fn_ok (k := z01d) (fn := Tryz.f183) (W := []) (H := [z0ei]) Tryz.func183 z0id ⟨z0t0, trivial⟩ rfl rfl (fun av x => by kernel_rfl)
def z0ly  : Option Bool := some true
def z05x (nets : List GNet) (kx0_0 : Option Bool) : Nat → Int → Option Bool
  | 0, _ => none
  | n0 + 1, s0_0 => if decide (s0_0 < (nets.length : Int)) = true then ((getI nets s0_0).bind fun x4 => ((z03e x4).bind fun x5 => (if x5 = true then (gd (ok64 (s0_0 + 1)) ((z05x nets kx0_0 n0) (s0_0 + 1))) else (some false)))) else (kx0_0)
def z0bx (nets : List GNet) : Option Bool := (z002 (nets.length : Int) 1 3).bind fun x1 => (if x1 = true then (z05x nets z0ly FUEL 0) else (some false))
def z046 : Con := ⟨128, [.v (.sl (.s .net)) false], [(.B, true)], [], fun x => z0bx x.1⟩
def z191 : Fs := ⟨[z00q, z02j], [], []⟩
theorem z0v7 : z191.Ok Tryz.prog := (fsK z00u (fsK z0dz fs0))
def z0py : Tmpl := ⟨[(0, .c (.s (.s .net))), (3, .c .i)], []⟩
def z0n8 : Tmpl := ⟨[], []⟩
def z11b (av : AV) (x : HP z046.ps) (n : Nat) (v : z0py.den) (K : Ks (CR z046)) : Option (CR z046) := z05x v.1.1 (z0n8.at none ((), ()) (K (.exit 0))) n v.1.2.1
def z0oq (av : AV) (x : HP z046.ps) : Hdl (CR z046) := hnd [] z0py (z11b av x)
theorem z12n : LP z046 Tryz.f128 [0] z0oq := lp_ok (W := []) (H := []) (xs := [z0n8]) z0v7 trivial rfl (fun av x v K => by kernel_rfl) (fun av x n v K => by kernel_rfl)
theorem z0vm : z046.Ok Tryz.prog := fn_ok (k := z046) (fn := Tryz.f128) (W := []) (H := [z0oq]) Tryz.func128 z0v7 ⟨z12n, trivial⟩ rfl rfl (fun av x => by kernel_rfl)
def z09u (p0_1 : Int) (l0_1 : List GTask) : Option GNet := some (GNet.mk p0_1 l0_1)
def z035 (n : GNet) (kx0_0 : List GTask → Option GNet) : Nat → Int → List GTask → Option GNet
  | 0, _, _ => none
  | n0 + 1, s0_0, l0_1 => if decide (s0_0 < (n.tasks.length : Int)) = true then ((getI n.tasks s0_0).bind fun x2 => (gd (([] : List Int).length + x2.in_.length ≤ SMALL) (gd (([] : List GFlow).length + x2.out.length ≤ SMALL) (gd (([] : List Int).length + x2.clear.length ≤ SMALL) (gd (l0_1.length + [(GTask.mk x2.join x2.split (([] : List Int) ++ x2.in_) (([] : List GFlow) ++ x2.out) (([] : List Int) ++ x2.clear) x2.role x2.apart x2.all x2.need)].length ≤ SMALL) (gd (ok64 (s0_0 + 1)) ((z035 n kx0_0 n0) (s0_0 + 1) (l0_1 ++ [(GTask.mk x2.join x2.split (([] : List Int) ++ x2.in_) (([] : List GFlow) ++ x2.out) (([] : List Int) ++ x2.clear) x2.role x2.apart x2.all x2.need)])))))))) else (kx0_0 l0_1)
def z07o (n : GNet) : Option GNet := z035 n (z09u n.places) FUEL 0 ([] : List GTask)
def z01s : Con := ⟨190, [.v (.s .net) false], [((.s .net), true)], [], fun x => z07o x.1⟩
def z0y3 : Fs := ⟨[], [], []⟩
theorem z0kk : z0y3.Ok Tryz.prog := fs0
def z0gp : Tmpl := ⟨[(1, .c (.bx 1 0)), (2, .c (.bx 2 0)), (3, .c (.bx 3 0)), (4, .c .i)], [(1, .boxT (.s .net)), (2, .box [.i, .nl]), (3, .box [.i, .ref 510301]), (510301, .arr (.s .task) true)]⟩
def z0ft : Tmpl := ⟨[(2, .c (.bx 2 0)), (3, .c (.bx 3 0))], [(2, .box [.i, .nl]), (3, .box [.i, .ref 510301]), (510301, .arr (.s .task) true)]⟩
def z0u8 (av : AV) (x : HP z01s.ps) (n : Nat) (v : z0gp.den) (K : Ks (CR z01s)) : Option (CR z01s) := z035 v.2.1 (fun l0_1 => z0ft.at none (((), (), ()), ((v.2.2.1.1, (), ()), (v.2.2.2.1.1, (), ()), l0_1, ())) (K (.exit 0))) n v.1.2.2.2.1 v.2.2.2.2.1
def z0ga (av : AV) (x : HP z01s.ps) : Hdl (CR z01s) := hnd [.b 3 1 510301 (.s .task)] z0gp (z0u8 av x)
theorem z0uk : LP z01s Tryz.f190 [0] z0ga := lp_ok (W := []) (H := []) (xs := [z0ft]) z0kk trivial rfl (fun av x v K => by kernel_rfl) (fun av x n v K => by kernel_rfl)
theorem z0m4 : z01s.Ok Tryz.prog := fn_ok (k := z01s) (fn := Tryz.f190) (W := []) (H := [z0ga]) Tryz.func190 z0kk ⟨z0uk, trivial⟩ rfl rfl (fun av x => by kernel_rfl)
def z0dt (p0_0 : List Int) (l0_1 : List GNet) : Option GHouse := some (GHouse.mk l0_1 p0_0 [] [])
def z05o (nets : List GNet) (kx0_0 : List GNet → Option GHouse) : Nat → Int → List GNet → Option GHouse
  | 0, _, _ => none
  | n0 + 1, s0_0, l0_1 => if decide (s0_0 < (nets.length : Int)) = true then ((getI nets s0_0).bind fun x7 => ((z07o x7).bind fun x8 => (gd (l0_1.length + [x8].length ≤ SMALL) (gd (ok64 (s0_0 + 1)) ((z05o nets kx0_0 n0) (s0_0 + 1) (l0_1 ++ [x8])))))) else (kx0_0 l0_1)
def z0f4 (nets : List GNet) (people : List Int) : Option GHouse := (z0bx nets).bind fun x1 => (if x1 = true then ((z090 people).bind fun x3 => (if x3 = true then (gd (([] : List Int).length + people.length ≤ SMALL) (z05o nets (z0dt (([] : List Int) ++ people)) FUEL 0 ([] : List GNet))) else (some (GHouse.mk [] [] [] [])))) else (some (GHouse.mk [] [] [] [])))
def z04z : Con := ⟨195, [.v (.sl (.s .net)) false, .v (.sl .I) false], [((.s .house), true)], [], fun x => z0f4 x.1 x.2.1⟩
def z18h : Fs := ⟨[z046, z039, z01s], [], []⟩
theorem z0uz : z18h.Ok Tryz.prog := (fsK z0vm (fsK z0i1 (fsK z0m4 fs0)))
def z0pn : Tmpl := ⟨[(0, .c (.s (.s .net))), (4, .c (.bx 4 0)), (5, .c (.bx 5 0)), (6, .c .i)], [(4, .box [.nl, .nl, .nl, .nl]), (5, .box [.ref 510500, .ref 18, .nl, .nl]), (510500, .arr (.s .net) true), (18, .arr .I true)]⟩
def z0my : Tmpl := ⟨[(4, .c (.bx 4 0)), (5, .c (.bx 5 0))], [(4, .box [.nl, .nl, .nl, .nl]), (5, .box [.ref 510500, .ref 18, .nl, .nl]), (510500, .arr (.s .net) true), (18, .arr .I true)]⟩
def z110 (av : AV) (x : HP z04z.ps) (n : Nat) (v : z0pn.den) (K : Ks (CR z04z)) : Option (CR z04z) := z05o v.1.1 (fun l0_1 => z0my.at none (((), (), ()), (((), (), (), (), ()), ((), (), (), (), ()), l0_1, v.2.2.2.2.1, ())) (K (.exit 0))) n v.1.2.2.2.1 v.2.2.2.1
def z0of (av : AV) (x : HP z04z.ps) : Hdl (CR z04z) := hnd [.b 5 0 510500 (.s .net)] z0pn (z110 av x)
theorem z12c : LP z04z Tryz.f195 [0] z0of := lp_ok (W := []) (H := []) (xs := [z0my]) z0uz trivial rfl (fun av x v K => by kernel_rfl) (fun av x n v K => by kernel_rfl)
theorem z1an : z04z.Ok Tryz.prog := fn_ok (k := z04z) (fn := Tryz.f195) (W := []) (H := [z0of]) Tryz.func195 z0uz ⟨z12c, trivial⟩ rfl rfl (fun av x => by kernel_rfl)
def z0p0  : Option Bool := some true
def z06t (h : GHouse) (kx0_0 : Option Bool) : Nat → Int → Option Bool
  | 0, _ => none
  | n0 + 1, s0_0 => if decide (s0_0 < (h.runs.length : Int)) = true then ((getI h.runs s0_0).bind fun x9 => (gd (ok64 ((h.nets.length : Int) - 1)) ((z002 x9.net 0 ((h.nets.length : Int) - 1)).bind fun x11 => (if x11 = true then ((getI h.runs s0_0).bind fun x13 => ((getI h.nets x13.net).bind fun x14 => ((getI h.runs s0_0).bind fun x15 => ((z08y x14 x15.case).bind fun x16 => (if x16 = true then (gd (ok64 (s0_0 + 1)) ((z06t h kx0_0 n0) (s0_0 + 1))) else (some false)))))) else (some false))))) else (kx0_0)
def z0hu (h : GHouse) : Option Bool := (z0bx h.nets).bind fun x1 => (if x1 = true then ((z090 h.people).bind fun x3 => (if x3 = true then ((z091 h.tree).bind fun x5 => (if x5 = true then (if decide (5 < (h.runs.length : Int)) = true then (some false) else (z06t h z0p0 FUEL 0)) else (some false))) else (some false))) else (some false))
def z065 : Con := ⟨54, [.v (.s .house) false], [(.B, true)], [], fun x => z0hu x.1⟩
def z1c9 : Fs := ⟨[z046, z039, z01a, z00q, z037], [], []⟩
theorem z0yk : z1c9.Ok Tryz.prog := (fsK z0vm (fsK z0i1 (fsK z0rb (fsK z00u (fsK z0hz fs0)))))
def z0tw : Tmpl := ⟨[(1, .c (.bx 1 0)), (3, .c .i)], [(1, .boxT (.s .house))]⟩
def z0qa : Tmpl := ⟨[], []⟩
def z148 (av : AV) (x : HP z065.ps) (n : Nat) (v : z0tw.den) (K : Ks (CR z065)) : Option (CR z065) := z06t v.2.1 (z0qa.at none ((), ()) (K (.exit 0))) n v.1.2.1
def z0sj (av : AV) (x : HP z065.ps) : Hdl (CR z065) := hnd [] z0tw (z148 av x)
theorem z16b : LP z065 Tryz.f54 [0] z0sj := lp_ok (W := []) (H := []) (xs := [z0qa]) z0yk trivial rfl (fun av x v K => by kernel_rfl) (fun av x n v K => by kernel_rfl)
theorem z1df : z065.Ok Tryz.prog := fn_ok (k := z065) (fn := Tryz.f54) (W := []) (H := [z0sj]) Tryz.func54 z0yk ⟨z16b, trivial⟩ rfl rfl (fun av x => by kernel_rfl)
def z0dw (x2 : (List GNode)) (p0_0 : List Int) (l0_1 : List GNet) (l1_1 : List GRun) : Option GHouse := some (GHouse.mk l0_1 p0_0 x2 l1_1)
def z05w (h : GHouse) (kx1_0 : List GRun → Option GHouse) : Nat → Int → List GRun → Option GHouse
  | 0, _, _ => none
  | n1 + 1, s1_0, l1_1 => if decide (s1_0 < (h.runs.length : Int)) = true then ((getI h.runs s1_0).bind fun x9 => ((getI h.runs s1_0).bind fun x10 => ((z05z x10.case).bind fun x11 => (gd (l1_1.length + [(GRun.mk x9.net x11)].length ≤ SMALL) (gd (ok64 (s1_0 + 1)) ((z05w h kx1_0 n1) (s1_0 + 1) (l1_1 ++ [(GRun.mk x9.net x11)]))))))) else (kx1_0 l1_1)
def z09v (h : GHouse) (x2 : (List GNode)) (p0_0 : List Int) (l0_1 : List GNet) : Option GHouse := z05w h (z0dw x2 p0_0 l0_1) FUEL 0 ([] : List GRun)
def z05v (h : GHouse) (kx0_0 : List GNet → Option GHouse) : Nat → Int → List GNet → Option GHouse
  | 0, _, _ => none
  | n0 + 1, s0_0, l0_1 => if decide (s0_0 < (h.nets.length : Int)) = true then ((getI h.nets s0_0).bind fun x4 => ((z07o x4).bind fun x5 => (gd (l0_1.length + [x5].length ≤ SMALL) (gd (ok64 (s0_0 + 1)) ((z05v h kx0_0 n0) (s0_0 + 1) (l0_1 ++ [x5])))))) else (kx0_0 l0_1)
def z0bw (h : GHouse) : Option GHouse := gd (([] : List Int).length + h.people.length ≤ SMALL) ((z0bv h.tree).bind fun x2 => (z05v h (z09v h x2 (([] : List Int) ++ h.people)) FUEL 0 ([] : List GNet)))
def z015 : Con := ⟨135, [.v (.s .house) false], [((.s .house), true)], [], fun x => z0bw x.1⟩
def z18z : Fs := ⟨[z045, z01s, z096], [], []⟩
theorem z0kj : z18z.Ok Tryz.prog := (fsK z0vk (fsK z0m4 (fsK z0fg fs0)))
def z0pw : Tmpl := ⟨[(1, .c (.bx 1 0)), (2, .c (.bx 2 0)), (3, .c (.bx 3 0)), (4, .c .i)], [(1, .boxT (.s .house)), (2, .box [.nl, .nl, .nl, .nl]), (3, .box [.ref 510300, .ref 9, .ref 12, .nl]), (510300, .arr (.s .net) true), (9, .arr .I true), (12, .arr (.s .node) true)]⟩
def z0n6 : Tmpl := ⟨[(1, .c (.bx 1 0)), (2, .c (.bx 2 0)), (3, .c (.bx 3 0))], [(1, .boxT (.s .house)), (2, .box [.nl, .nl, .nl, .nl]), (3, .box [.ref 510300, .ref 9, .ref 12, .nl]), (510300, .arr (.s .net) true), (9, .arr .I true), (12, .arr (.s .node) true)]⟩
def z119 (av : AV) (x : HP z015.ps) (n : Nat) (v : z0pw.den) (K : Ks (CR z015)) : Option (CR z015) := z05v v.2.1 (fun l0_1 => z0n6.at none (((), (), (), ()), (v.2.1, ((), (), (), (), ()), ((), (), (), (), ()), l0_1, v.2.2.2.2.2.1, v.2.2.2.2.2.2.1, ())) (K (.exit 0))) n v.1.2.2.2.1 v.2.2.2.2.1
def z0oo (av : AV) (x : HP z015.ps) : Hdl (CR z015) := hnd [.b 3 0 510300 (.s .net)] z0pw (z119 av x)
theorem z12l : LP z015 Tryz.f135 [0] z0oo := lp_ok (W := []) (H := []) (xs := [z0n6]) z0kj trivial rfl (fun av x v K => by kernel_rfl) (fun av x n v K => by kernel_rfl)
def z0px : Tmpl := ⟨[(1, .c (.bx 1 0)), (2, .c (.bx 2 0)), (3, .c (.bx 3 0)), (5, .c .i)], [(1, .boxT (.s .house)), (2, .box [.nl, .nl, .nl, .nl]), (3, .box [.ref 510300, .ref 9, .ref 12, .ref 510303]), (510300, .arr (.s .net) true), (9, .arr .I true), (12, .arr (.s .node) true), (510303, .arr (.s .run) true)]⟩
def z0n7 : Tmpl := ⟨[(2, .c (.bx 2 0)), (3, .c (.bx 3 0))], [(2, .box [.nl, .nl, .nl, .nl]), (3, .box [.ref 510300, .ref 9, .ref 12, .ref 510303]), (510300, .arr (.s .net) true), (9, .arr .I true), (12, .arr (.s .node) true), (510303, .arr (.s .run) true)]⟩
def z11a (av : AV) (x : HP z015.ps) (n : Nat) (v : z0px.den) (K : Ks (CR z015)) : Option (CR z015) := z05w v.2.1 (fun l1_1 => z0n7.at none (((), (), ()), (((), (), (), (), ()), ((), (), (), (), ()), v.2.2.2.2.1, v.2.2.2.2.2.1, v.2.2.2.2.2.2.1, l1_1, ())) (K (.exit 2))) n v.1.2.2.2.1 v.2.2.2.2.2.2.2.1
def z0op (av : AV) (x : HP z015.ps) : Hdl (CR z015) := hnd [.b 3 3 510303 (.s .run)] z0px (z11a av x)
theorem z12m : LP z015 Tryz.f135 [1] z0op := lp_ok (W := []) (H := []) (xs := [z0n7]) z0kj trivial rfl (fun av x v K => by kernel_rfl) (fun av x n v K => by kernel_rfl)
theorem z0vl : z015.Ok Tryz.prog := fn_ok (k := z015) (fn := Tryz.f135) (W := []) (H := [z0oo, z0op]) Tryz.func135 z0kj ⟨z12l, z12m, trivial⟩ rfl rfl (fun av x => by kernel_rfl)
def z0fd (r : GReq) : Option GReq := if decide (r.kind = 1) = true then (some (GReq.mk r.kind 0 0 0 0 0 r.data (GAsk.mk 0 0 0) 0)) else (if decide (r.kind = 2) = true then (some (GReq.mk r.kind r.who r.case r.task 0 0 [] (GAsk.mk 0 0 0) 0)) else (if decide (r.kind = 3) = true then (some (GReq.mk r.kind 0 r.case r.task r.var r.num [] (GAsk.mk 0 0 0) 0)) else (if decide (r.kind = 4) = true then (some (GReq.mk r.kind 0 r.case 0 0 0 [] (GAsk.mk 0 0 0) 0)) else (if decide (r.kind = 5) = true then (some (GReq.mk r.kind 0 0 0 0 0 r.data r.if_ r.ans)) else (some (GReq.mk r.kind 0 0 0 0 0 [] (GAsk.mk 0 0 0) 0))))))
def z0li : Con := ⟨137, [.v (.s .req) false], [((.s .req), false)], [], fun x => z0fd x.1⟩
def z190 : Fs := ⟨[], [], []⟩
theorem z19s : z190.Ok Tryz.prog := fs0
theorem z1aw : z0li.Ok Tryz.prog := fn_ok (k := z0li) (fn := Tryz.f137) (W := []) (H := []) Tryz.func137 z19s trivial rfl rfl (fun av x => by kernel_rfl)
def z04l (a : GReq) (b : GReq) : Option Bool := if decide (a.kind = b.kind) = true then (if decide (a.who = b.who) = true then (if decide (a.case = b.case) = true then (if decide (a.task = b.task) = true then (if decide (a.var = b.var) = true then (if decide (a.num = b.num) = true then (if decide ([a.if_.op, a.if_.var, a.if_.k] = [b.if_.op, b.if_.var, b.if_.k]) = true then (some (decide (a.ans = b.ans))) else (some false)) else (some false)) else (some false)) else (some false)) else (some false)) else (some false)) else (some false)
def z031 (a : GReq) (b : GReq) (kx0_0 : Option Bool) : Nat → Int → Option Bool
  | 0, _ => none
  | n0 + 1, s0_0 => if decide (s0_0 < (a.data.length : Int)) = true then ((getI a.data s0_0).bind fun x3 => ((getI b.data s0_0).bind fun x4 => (if decide (x3 = x4) = true then (gd (ok64 (s0_0 + 1)) ((z031 a b kx0_0 n0) (s0_0 + 1))) else (some false)))) else (kx0_0)
def z0fe (a : GReq) (b : GReq) : Option Bool := if decide ((a.data.length : Int) = (b.data.length : Int)) = true then (z031 a b (z04l a b) FUEL 0) else (some false)
def z053 : Con := ⟨136, [.v (.s .req) false, .v (.s .req) false], [(.B, true)], [], fun x => z0fe x.1 x.2.1⟩
def z192 : Fs := ⟨[], [], []⟩
theorem z0v8 : z192.Ok Tryz.prog := fs0
def z0pz : Tmpl := ⟨[(2, .c (.bx 2 0)), (3, .c (.bx 3 0)), (5, .c .i)], [(2, .boxT (.s .req)), (3, .boxT (.s .req))]⟩
def z0n9 : Tmpl := ⟨[(2, .c (.bx 2 0)), (3, .c (.bx 3 0))], [(2, .boxT (.s .req)), (3, .boxT (.s .req))]⟩
def z11c (av : AV) (x : HP z053.ps) (n : Nat) (v : z0pz.den) (K : Ks (CR z053)) : Option (CR z053) := z031 v.2.1 v.2.2.1 (z0n9.at none (((), (), ()), (v.2.1, v.2.2.1, ())) (K (.exit 0))) n v.1.2.2.1
def z0or (av : AV) (x : HP z053.ps) : Hdl (CR z053) := hnd [] z0pz (z11c av x)
theorem z12o : LP z053 Tryz.f136 [0] z0or := lp_ok (W := []) (H := []) (xs := [z0n9]) z0v8 trivial rfl (fun av x v K => by kernel_rfl) (fun av x n v K => by kernel_rfl)
theorem z1ax : z053.Ok Tryz.prog := fn_ok (k := z053) (fn := Tryz.f136) (W := []) (H := [z0or]) Tryz.func136 z0v8 ⟨z12o, trivial⟩ rfl rfl (fun av x => by kernel_rfl)
def z087 (r : GReq) : Option Bool := (z002 r.kind 1 5).bind fun x1 => (if x1 = true then ((z0fd r).bind fun x3 => ((z0fe r x3).bind fun x4 => (if x4 = true then ((z002 r.who 0 4).bind fun x6 => (if x6 = true then ((z002 r.case 0 4).bind fun x8 => (if x8 = true then ((z002 r.task 0 5).bind fun x10 => (if x10 = true then ((z002 r.var (-1) 2).bind fun x12 => (if x12 = true then ((z002 r.num (-99) 99).bind fun x14 => (if x14 = true then ((z06e r.if_).bind fun x16 => (if x16 = true then ((z002 r.ans 0 2).bind fun x18 => (if x18 = true then (if decide (r.kind = 1) = true then ((z02o r.data).bind fun x21 => (some (true == x21))) else ((z02o r.data).bind fun x22 => (some ((decide (r.kind = 5)) == x22)))) else (some false))) else (some false))) else (some false))) else (some false))) else (some false))) else (some false))) else (some false))) else (some false)))) else (some false))
def z0b5 : Con := ⟨63, [.v (.s .req) false], [(.B, true)], [], fun x => z087 x.1⟩
def z11n : Fs := ⟨[z00q, z0li, z053, z08u, z019], [], []⟩
theorem z123 : z11n.Ok Tryz.prog := (fsK z00u (fsK z1aw (fsK z1ax (fsK z0dy (fsK z06h fs0)))))
theorem z0pd : z0b5.Ok Tryz.prog := fn_ok (k := z0b5) (fn := Tryz.f63) (W := []) (H := []) Tryz.func63 z123 trivial rfl rfl (fun av x => by kernel_rfl)
def z0fc (h : GHouse) (r : GReq) : Option (GHouse × Int) := if decide ((h.runs.length : Int) ≤ r.case) = true then (some (h, 2)) else ((getI h.runs r.case).bind fun x2 => ((getI h.nets x2.net).bind fun x3 => (if decide (r.kind = 2) = true then ((z06r x3 h.people x2.case r.task r.who).bind fun x5 => (if x5.2 = true then ((getI h.runs r.case).bind fun x7 => (some ((GHouse.mk h.nets h.people h.tree (h.runs.set r.case.toNat (GRun.mk x7.net x5.1))), 1))) else (some (h, 3)))) else (if decide (r.kind = 3) = true then ((z09n x3 x2.case r.task r.var r.num).bind fun x9 => (if x9.2 = true then ((getI h.runs r.case).bind fun x11 => (some ((GHouse.mk h.nets h.people h.tree (h.runs.set r.case.toNat (GRun.mk x11.net x9.1))), 1))) else (some (h, 3)))) else ((z0cy x3 x2.case).bind fun x12 => (if x12.2 = true then ((getI h.runs r.case).bind fun x14 => (some ((GHouse.mk h.nets h.people h.tree (h.runs.set r.case.toNat (GRun.mk x14.net x12.1))), 1))) else (some (h, 3))))))))
def z0lh : Con := ⟨188, [.v (.s .house) true, .v (.s .req) false], [((.s .house), true), (.I, true)], [], fun x => z0fc x.1 x.2.1⟩
def z18y : Fs := ⟨[z0b4, z0ct, z0hf], [], []⟩
theorem z19r : z18y.Ok Tryz.prog := (fsK z0pb (fsK z0ta (fsK z16y fs0)))
theorem z1av : z0lh.Ok Tryz.prog := fn_ok (k := z0lh) (fn := Tryz.f188) (W := []) (H := []) Tryz.func188 z19r trivial rfl rfl (fun av x => by kernel_rfl)
def z0gk (h : GHouse) (r : GReq) : Option (GHouse × Int) := if decide (r.kind = 1) = true then (if decide ((h.runs.length : Int) = 5) = true then (some (h, 4)) else ((z0f7 h.tree r.data).bind fun x3 => (if decide ((h.nets.length : Int) ≤ x3) = true then ((getI h.nets 0).bind fun x5 => ((z097 x5 r.data).bind fun x6 => (gd (h.runs.length + [(GRun.mk 0 x6)].length ≤ SMALL) (some ((GHouse.mk h.nets h.people h.tree (h.runs ++ [(GRun.mk 0 x6)])), 1))))) else ((getI h.nets x3).bind fun x8 => ((z097 x8 r.data).bind fun x9 => (gd (h.runs.length + [(GRun.mk x3 x9)].length ≤ SMALL) (some ((GHouse.mk h.nets h.people h.tree (h.runs ++ [(GRun.mk x3 x9)])), 1)))))))) else (if decide (r.kind = 5) = true then ((z07j h.tree r.data r.if_ r.ans).bind fun x12 => (if x12.2 = true then (some ((GHouse.mk h.nets h.people x12.1 h.runs), 1)) else (some (h, 3)))) else ((z0fc h r).bind fun x14 => (some (x14.1, x14.2))))
def z0ne : Con := ⟨134, [.v (.s .house) true, .v (.s .req) false], [((.s .house), true), (.I, true)], [], fun x => z0gk x.1 x.2.1⟩
def z1gm : Fs := ⟨[z0ld, z0en, z043, z0lh], [], []⟩
theorem z1gq : z1gm.Ok Tryz.prog := (fsK z1aq (fsK z0vd (fsK z0vh (fsK z1av fs0))))
theorem z13h : z0ne.Ok Tryz.prog := fn_ok (k := z0ne) (fn := Tryz.f134) (W := []) (H := []) Tryz.func134 z1gq trivial rfl rfl (fun av x => by kernel_rfl)
def z0ht (h : GHouse) (r : GReq) : Option (GHouse × Int) := (z0hu h).bind fun x1 => (if x1 = true then ((z087 r).bind fun x3 => (if x3 = true then ((z0bw h).bind fun x5 => ((z0gk x5 r).bind fun x6 => (some (x6.1, x6.2)))) else (some ((GHouse.mk [] [] [] []), 0)))) else (some ((GHouse.mk [] [] [] []), 0)))
def z0qy : Con := ⟨60, [.v (.s .house) false, .v (.s .req) false], [((.s .house), true), (.I, true)], [], fun x => z0ht x.1 x.2.1⟩
def z1c8 : Fs := ⟨[z065, z0b5, z015, z0ne], [], []⟩
theorem z1cp : z1c8.Ok Tryz.prog := (fsK z1df (fsK z0pd (fsK z0vl (fsK z13h fs0))))
theorem z1de : z0qy.Ok Tryz.prog := fn_ok (k := z0qy) (fn := Tryz.f60) (W := []) (H := []) Tryz.func60 z1cp trivial rfl rfl (fun av x => by kernel_rfl)
def z06a (x1 : (List Int)) (x2 : (List GNode)) (l0_1 : List GNet) (l1_1 : List GRun) : Option GHouse := some (GHouse.mk l0_1 x1 x2 l1_1)
def z01i (p1_0 : List GRun) (p1_1 : Int) (kx1_0 : List GRun → Option GHouse) : Nat → Int → List GRun → Option GHouse
  | 0, _, _ => none
  | n1 + 1, s1_0, l1_1 => if decide (s1_0 < p1_1) = true then ((getI p1_0 s1_0).bind fun x9 => ((z008 x9.case).bind fun x10 => (gd (l1_1.length + [(GRun.mk x9.net x10)].length ≤ SMALL) (gd (ok64 (s1_0 + 1)) ((z01i p1_0 p1_1 kx1_0 n1) (s1_0 + 1) (l1_1 ++ [(GRun.mk x9.net x10)])))))) else (kx1_0 l1_1)
def z03w (h : GHouse) (x1 : (List Int)) (x2 : (List GNode)) (l0_1 : List GNet) : Option GHouse := z01i h.runs (h.runs.length : Int) (z06a x1 x2 l0_1) FUEL 0 ([] : List GRun)
def z01h (p0_0 : List GNet) (p0_1 : Int) (kx0_0 : List GNet → Option GHouse) : Nat → Int → List GNet → Option GHouse
  | 0, _, _ => none
  | n0 + 1, s0_0, l0_1 => if decide (s0_0 < p0_1) = true then ((getI p0_0 s0_0).bind fun x4 => ((z078 x4).bind fun x5 => (gd (l0_1.length + [x5].length ≤ SMALL) (gd (ok64 (s0_0 + 1)) ((z01h p0_0 p0_1 kx0_0 n0) (s0_0 + 1) (l0_1 ++ [x5])))))) else (kx0_0 l0_1)
def z02d (h : GHouse) : Option GHouse := (z00g h.people).bind fun x1 => ((z06i h.tree).bind fun x2 => (z01h h.nets (h.nets.length : Int) (z03w h x1 x2) FUEL 0 ([] : List GNet)))
def z009 : Con := ⟨132, [.v (.s .house) false], [((.s .house), true)], [], fun x => z02d x.1⟩
def z0no : Fs := ⟨[z01r, z01d, z017, z02i], [], []⟩
theorem z07y : z0no.Ok Tryz.prog := (fsK z033 (fsK z0iy (fsK z0t7 (fsK z06g fs0))))
def z0ac : Tmpl := ⟨[(1, .c (.bx 1 0)), (2, .c (.bx 2 0)), (3, .c (.bx 3 0)), (16, .c (.s (.s .net))), (17, .c .i), (18, .c .i)], [(1, .boxT (.s .house)), (2, .box [.nl, .nl, .nl, .nl]), (3, .box [.ref 510300, .ref 10, .ref 13, .nl]), (510300, .arr (.s .net) true), (10, .arr .I true), (13, .arr (.s .node) true)]⟩
def z09z : Tmpl := ⟨[(1, .c (.bx 1 0)), (2, .c (.bx 2 0)), (3, .c (.bx 3 0))], [(1, .boxT (.s .house)), (2, .box [.nl, .nl, .nl, .nl]), (3, .box [.ref 510300, .ref 10, .ref 13, .nl]), (510300, .arr (.s .net) true), (10, .arr .I true), (13, .arr (.s .node) true)]⟩
def z0js (av : AV) (x : HP z009.ps) (n : Nat) (v : z0ac.den) (K : Ks (CR z009)) : Option (CR z009) := z01h v.1.2.2.2.1 v.1.2.2.2.2.1 (fun l0_1 => z09z.at none (((), (), (), ()), (v.2.1, ((), (), (), (), ()), ((), (), (), (), ()), l0_1, v.2.2.2.2.2.1, v.2.2.2.2.2.2.1, ())) (K (.exit 0))) n v.1.2.2.2.2.2.1 v.2.2.2.2.1
def z0a5 (av : AV) (x : HP z009.ps) : Hdl (CR z009) := hnd [.b 3 0 510300 (.s .net)] z0ac (z0js av x)
theorem z0k2 : LP z009 Tryz.f132 [0] z0a5 := lp_ok (W := []) (H := []) (xs := [z09z]) z07y trivial rfl (fun av x v K => by kernel_rfl) (fun av x n v K => by kernel_rfl)
def z0ad : Tmpl := ⟨[(2, .c (.bx 2 0)), (3, .c (.bx 3 0)), (31, .c (.s (.s .run))), (32, .c .i), (33, .c .i)], [(2, .box [.nl, .nl, .nl, .nl]), (3, .box [.ref 510300, .ref 10, .ref 13, .ref 510303]), (510300, .arr (.s .net) true), (10, .arr .I true), (13, .arr (.s .node) true), (510303, .arr (.s .run) true)]⟩
def z0a0 : Tmpl := ⟨[(2, .c (.bx 2 0)), (3, .c (.bx 3 0))], [(2, .box [.nl, .nl, .nl, .nl]), (3, .box [.ref 510300, .ref 10, .ref 13, .ref 510303]), (510300, .arr (.s .net) true), (10, .arr .I true), (13, .arr (.s .node) true), (510303, .arr (.s .run) true)]⟩
def z0jt (av : AV) (x : HP z009.ps) (n : Nat) (v : z0ad.den) (K : Ks (CR z009)) : Option (CR z009) := z01i v.1.2.2.1 v.1.2.2.2.1 (fun l1_1 => z0a0.at none (((), (), ()), (((), (), (), (), ()), ((), (), (), (), ()), v.2.2.2.1, v.2.2.2.2.1, v.2.2.2.2.2.1, l1_1, ())) (K (.exit 2))) n v.1.2.2.2.2.1 v.2.2.2.2.2.2.1
def z0a6 (av : AV) (x : HP z009.ps) : Hdl (CR z009) := hnd [.b 3 3 510303 (.s .run)] z0ad (z0jt av x)
theorem z0k3 : LP z009 Tryz.f132 [1] z0a6 := lp_ok (W := []) (H := []) (xs := [z0a0]) z07y trivial rfl (fun av x v K => by kernel_rfl) (fun av x n v K => by kernel_rfl)
theorem z0o0 : z009.Ok Tryz.prog := fn_ok (k := z009) (fn := Tryz.f132) (W := []) (H := [z0a5, z0a6]) Tryz.func132 z07y ⟨z0k2, z0k3, trivial⟩ rfl rfl (fun av x => by kernel_rfl)
def z0lm  : Option Int := some (-1)
def z05i (s : List Int) (p : Int → Option Bool) (p0_0 : Int) (kx0_0 : Option Int) : Nat → Int → Option Int
  | 0, _ => none
  | n0 + 1, s0_0 => if decide (s0_0 < p0_0) = true then ((getI s s0_0).bind fun x2 => ((p x2).bind fun x3 => (if x3 = true then (some s0_0) else (gd (ok64 (s0_0 + 1)) ((z05i s p p0_0 kx0_0 n0) (s0_0 + 1)))))) else (kx0_0)
def z0es (s : List Int) (p : Int → Option Bool) : Option Int := z05i s p (s.length : Int) z0lm FUEL 0
def z040 : Con := ⟨175, [.v (.sl .I) false, .fn .I], [(.I, true)], [], fun x => z0es x.1 x.2.1⟩
def z17y : Fs := ⟨[], [], []⟩
theorem z0ut : z17y.Ok Tryz.prog := fs0
def z0ph : Tmpl := ⟨[(0, .c (.s .I)), (1, .c .fp), (7, .c .i), (8, .c .i)], []⟩
def z0mr : Tmpl := ⟨[], []⟩
def z10u (av : AV) (x : HP z040.ps) (n : Nat) (v : z0ph.den) (K : Ks (CR z040)) : Option (CR z040) := z05i v.1.1 x.2.1 v.1.2.2.1 (z0mr.at (fpOf z040.ps x av) ((), ()) (K (.exit 0))) n v.1.2.2.2.1
def z0o9 (av : AV) (x : HP z040.ps) : Hdl (CR z040) := hnd [] z0ph (z10u av x)
theorem z126 : LP z040 Tryz.f175 [0] z0o9 := lp_ok (W := []) (H := []) (xs := [z0mr]) z0ut trivial rfl (fun av x v K => by kernel_rfl) (fun av x n v K => by kernel_rfl)
theorem z1a8 : z040.Ok Tryz.prog := fn_ok (k := z040) (fn := Tryz.f175) (W := []) (H := [z0o9]) Tryz.func175 z0ut ⟨z126, trivial⟩ rfl rfl (fun av x => by kernel_rfl)
def z028 (s : List Int) (p : Int → Option Bool) : Option Bool := (z0es s p).bind fun x1 => (some (decide (0 ≤ x1)))
def z04f : Con := ⟨118, [.v (.sl .I) false, .fn .I], [(.B, true)], [], fun x => z028 x.1 x.2.1⟩
def z0xw : Fs := ⟨[z040], [], []⟩
theorem z0y9 : z0xw.Ok Tryz.prog := (fsK z1a8 fs0)
theorem z07p : z04f.Ok Tryz.prog := fn_ok (k := z04f) (fn := Tryz.f118) (W := []) (H := []) Tryz.func118 z0y9 trivial rfl rfl (fun av x => by kernel_rfl)
def z0dp  : Option Int := some (-1)
def z02l (s : List GTask) (p : GTask → Option Bool) (p0_0 : Int) (kx0_0 : Option Int) : Nat → Int → Option Int
  | 0, _ => none
  | n0 + 1, s0_0 => if decide (s0_0 < p0_0) = true then ((getI s s0_0).bind fun x2 => ((p x2).bind fun x3 => (if x3 = true then (some s0_0) else (gd (ok64 (s0_0 + 1)) ((z02l s p p0_0 kx0_0 n0) (s0_0 + 1)))))) else (kx0_0)
def z08h (s : List GTask) (p : GTask → Option Bool) : Option Int := z02l s p (s.length : Int) z0dp FUEL 0
def z01c : Con := ⟨176, [.v (.sl (.s .task)) false, .fn (.s .task)], [(.I, true)], [], fun x => z08h x.1 x.2.1⟩
def z0w8 : Fs := ⟨[], [], []⟩
theorem z0ib : z0w8.Ok Tryz.prog := fs0
def z0fm : Tmpl := ⟨[(0, .c (.s (.s .task))), (1, .c .fp), (7, .c .i), (8, .c .i)], []⟩
def z0e7 : Tmpl := ⟨[], []⟩
def z0ri (av : AV) (x : HP z01c.ps) (n : Nat) (v : z0fm.den) (K : Ks (CR z01c)) : Option (CR z01c) := z02l v.1.1 x.2.1 v.1.2.2.1 (z0e7.at (fpOf z01c.ps x av) ((), ()) (K (.exit 0))) n v.1.2.2.2.1
def z0eg (av : AV) (x : HP z01c.ps) : Hdl (CR z01c) := hnd [] z0fm (z0ri av x)
theorem z0sy : LP z01c Tryz.f176 [0] z0eg := lp_ok (W := []) (H := []) (xs := [z0e7]) z0ib trivial rfl (fun av x v K => by kernel_rfl) (fun av x n v K => by kernel_rfl)
theorem z0wq : z01c.Ok Tryz.prog := fn_ok (k := z01c) (fn := Tryz.f176) (W := []) (H := [z0eg]) Tryz.func176 z0ib ⟨z0sy, trivial⟩ rfl rfl (fun av x => by kernel_rfl)
def z068 (s : List GTask) (p : GTask → Option Bool) : Option Bool := (z08h s p).bind fun x1 => (some (decide (0 ≤ x1)))
def z08s : Con := ⟨123, [.v (.sl (.s .task)) false, .fn (.s .task)], [(.B, true)], [], fun x => z068 x.1 x.2.1⟩
def z0qj : Fs := ⟨[z01c], [], []⟩
theorem z0qp : z0qj.Ok Tryz.prog := (fsK z0wq fs0)
theorem z0r3 : z08s.Ok Tryz.prog := fn_ok (k := z08s) (fn := Tryz.f123) (W := []) (H := []) Tryz.func123 z0qp trivial rfl rfl (fun av x => by kernel_rfl)
def z0er  : Option Int := some (-1)
def z034 (s : List GNet) (p : GNet → Option Bool) (p0_0 : Int) (kx0_0 : Option Int) : Nat → Int → Option Int
  | 0, _ => none
  | n0 + 1, s0_0 => if decide (s0_0 < p0_0) = true then ((getI s s0_0).bind fun x2 => ((p x2).bind fun x3 => (if x3 = true then (some s0_0) else (gd (ok64 (s0_0 + 1)) ((z034 s p p0_0 kx0_0 n0) (s0_0 + 1)))))) else (kx0_0)
def z09i (s : List GNet) (p : GNet → Option Bool) : Option Int := z034 s p (s.length : Int) z0er FUEL 0
def z01q : Con := ⟨180, [.v (.sl (.s .net)) false, .fn (.s .net)], [(.I, true)], [], fun x => z09i x.1 x.2.1⟩
def z0xx : Fs := ⟨[], [], []⟩
theorem z0kh : z0xx.Ok Tryz.prog := fs0
def z0gn : Tmpl := ⟨[(0, .c (.s (.s .net))), (1, .c .fp), (7, .c .i), (8, .c .i)], []⟩
def z0fr : Tmpl := ⟨[], []⟩
def z0u6 (av : AV) (x : HP z01q.ps) (n : Nat) (v : z0gn.den) (K : Ks (CR z01q)) : Option (CR z01q) := z034 v.1.1 x.2.1 v.1.2.2.1 (z0fr.at (fpOf z01q.ps x av) ((), ()) (K (.exit 0))) n v.1.2.2.2.1
def z0g8 (av : AV) (x : HP z01q.ps) : Hdl (CR z01q) := hnd [] z0gn (z0u6 av x)
theorem z0ui : LP z01q Tryz.f180 [0] z0g8 := lp_ok (W := []) (H := []) (xs := [z0fr]) z0kh trivial rfl (fun av x v K => by kernel_rfl) (fun av x n v K => by kernel_rfl)
theorem z0zz : z01q.Ok Tryz.prog := fn_ok (k := z01q) (fn := Tryz.f180) (W := []) (H := [z0g8]) Tryz.func180 z0kh ⟨z0ui, trivial⟩ rfl rfl (fun av x => by kernel_rfl)
def z077 (s : List GNet) (p : GNet → Option Bool) : Option Bool := (z09i s p).bind fun x1 => (some (decide (0 ≤ x1)))
def z09d : Con := ⟨126, [.v (.sl (.s .net)) false, .fn (.s .net)], [(.B, true)], [], fun x => z077 x.1 x.2.1⟩
def z0rr : Fs := ⟨[z01q], [], []⟩
theorem z0rw : z0rr.Ok Tryz.prog := (fsK z0zz fs0)
theorem z0t5 : z09d.Ok Tryz.prog := fn_ok (k := z09d) (fn := Tryz.f126) (W := []) (H := []) Tryz.func126 z0rw trivial rfl rfl (fun av x => by kernel_rfl)
def z0do  : Option Int := some (-1)
def z02k (s : List GItem) (p : GItem → Option Bool) (p0_0 : Int) (kx0_0 : Option Int) : Nat → Int → Option Int
  | 0, _ => none
  | n0 + 1, s0_0 => if decide (s0_0 < p0_0) = true then ((getI s s0_0).bind fun x2 => ((p x2).bind fun x3 => (if x3 = true then (some s0_0) else (gd (ok64 (s0_0 + 1)) ((z02k s p p0_0 kx0_0 n0) (s0_0 + 1)))))) else (kx0_0)
def z08g (s : List GItem) (p : GItem → Option Bool) : Option Int := z02k s p (s.length : Int) z0do FUEL 0
def z01b : Con := ⟨169, [.v (.sl (.s .item)) false, .fn (.s .item)], [(.I, true)], [], fun x => z08g x.1 x.2.1⟩
def z0w7 : Fs := ⟨[], [], []⟩
theorem z0ia : z0w7.Ok Tryz.prog := fs0
def z0fl : Tmpl := ⟨[(0, .c (.s (.s .item))), (1, .c .fp), (7, .c .i), (8, .c .i)], []⟩
def z0e6 : Tmpl := ⟨[], []⟩
def z0rh (av : AV) (x : HP z01b.ps) (n : Nat) (v : z0fl.den) (K : Ks (CR z01b)) : Option (CR z01b) := z02k v.1.1 x.2.1 v.1.2.2.1 (z0e6.at (fpOf z01b.ps x av) ((), ()) (K (.exit 0))) n v.1.2.2.2.1
def z0ef (av : AV) (x : HP z01b.ps) : Hdl (CR z01b) := hnd [] z0fl (z0rh av x)
theorem z0sx : LP z01b Tryz.f169 [0] z0ef := lp_ok (W := []) (H := []) (xs := [z0e6]) z0ia trivial rfl (fun av x v K => by kernel_rfl) (fun av x n v K => by kernel_rfl)
theorem z0wp : z01b.Ok Tryz.prog := fn_ok (k := z01b) (fn := Tryz.f169) (W := []) (H := [z0ef]) Tryz.func169 z0ia ⟨z0sx, trivial⟩ rfl rfl (fun av x => by kernel_rfl)
def z067 (s : List GItem) (p : GItem → Option Bool) : Option Bool := (z08g s p).bind fun x1 => (some (decide (0 ≤ x1)))
def z08r : Con := ⟨107, [.v (.sl (.s .item)) false, .fn (.s .item)], [(.B, true)], [], fun x => z067 x.1 x.2.1⟩
def z0qi : Fs := ⟨[z01b], [], []⟩
theorem z0qo : z0qi.Ok Tryz.prog := (fsK z0wp fs0)
theorem z0r2 : z08r.Ok Tryz.prog := fn_ok (k := z08r) (fn := Tryz.f107) (W := []) (H := []) Tryz.func107 z0qo trivial rfl rfl (fun av x => by kernel_rfl)
def z0zv  : Option Int := some (-1)
def z0aq (s : List Int) (v : Int) (p0_0 : Int) (kx0_0 : Option Int) : Nat → Int → Option Int
  | 0, _ => none
  | n0 + 1, s0_0 => if decide (s0_0 < p0_0) = true then ((getI s s0_0).bind fun x2 => (if decide (v = x2) = true then (some s0_0) else (gd (ok64 (s0_0 + 1)) ((z0aq s v p0_0 kx0_0 n0) (s0_0 + 1))))) else (kx0_0)
def z0wz (s : List Int) (v : Int) : Option Int := z0aq s v (s.length : Int) z0zv FUEL 0
def z0cs : Con := ⟨163, [.v (.sl .I) false, .v .I false], [(.I, true)], [], fun x => z0wz x.1 x.2.1⟩
def z1l8 : Fs := ⟨[], [], []⟩
theorem z1ez : z1l8.Ok Tryz.prog := fs0
def z13u : Tmpl := ⟨[(0, .c (.s .I)), (1, .c .i), (7, .c .i), (8, .c .i)], []⟩
def z10r : Tmpl := ⟨[], []⟩
def z1gf (av : AV) (x : HP z0cs.ps) (n : Nat) (v : z13u.den) (K : Ks (CR z0cs)) : Option (CR z0cs) := z0aq v.1.1 v.1.2.1 v.1.2.2.1 (z10r.at none ((), ()) (K (.exit 0))) n v.1.2.2.2.1
def z13e (av : AV) (x : HP z0cs.ps) : Hdl (CR z0cs) := hnd [] z13u (z1gf av x)
theorem z1h0 : LP z0cs Tryz.f163 [0] z13e := lp_ok (W := []) (H := []) (xs := [z10r]) z1ez trivial rfl (fun av x v K => by kernel_rfl) (fun av x n v K => by kernel_rfl)
theorem z1lt : z0cs.Ok Tryz.prog := fn_ok (k := z0cs) (fn := Tryz.f163) (W := []) (H := [z13e]) Tryz.func163 z1ez ⟨z1h0, trivial⟩ rfl rfl (fun av x => by kernel_rfl)
def z0ao (s : List Int) (v : Int) : Option Bool := (z0wz s v).bind fun x1 => (some (decide (0 ≤ x1)))
def z0di : Con := ⟨92, [.v (.sl .I) false, .v .I false], [(.B, true)], [], fun x => z0ao x.1 x.2.1⟩
def z1bs : Fs := ⟨[z0cs], [], []⟩
theorem z1ci : z1bs.Ok Tryz.prog := (fsK z1lt fs0)
theorem z0r4 : z0di.Ok Tryz.prog := fn_ok (k := z0di) (fn := Tryz.f92) (W := []) (H := []) Tryz.func92 z1ci trivial rfl rfl (fun av x => by kernel_rfl)
def z0ot  : Option Int := some (-1)
def z06k (s : List GDid) (v : GDid) (p0_0 : Int) (kx0_0 : Option Int) : Nat → Int → Option Int
  | 0, _ => none
  | n0 + 1, s0_0 => if decide (s0_0 < p0_0) = true then ((getI s s0_0).bind fun x2 => (if decide ([v.task, v.who] = [x2.task, x2.who]) = true then (some s0_0) else (gd (ok64 (s0_0 + 1)) ((z06k s v p0_0 kx0_0 n0) (s0_0 + 1))))) else (kx0_0)
def z0hh (s : List GDid) (v : GDid) : Option Int := z06k s v (s.length : Int) z0ot FUEL 0
def z060 : Con := ⟨204, [.v (.sl (.s .did)) false, .v (.s .did) false], [(.I, true)], [], fun x => z0hh x.1 x.2.1⟩
def z1bt : Fs := ⟨[], [], []⟩
theorem z0ya : z1bt.Ok Tryz.prog := fs0
def z0tm : Tmpl := ⟨[(0, .c (.s (.s .did))), (3, .c (.bx 3 0)), (7, .c .i), (8, .c .i)], [(3, .boxT (.s .did))]⟩
def z0q0 : Tmpl := ⟨[], []⟩
def z13y (av : AV) (x : HP z060.ps) (n : Nat) (v : z0tm.den) (K : Ks (CR z060)) : Option (CR z060) := z06k v.1.1 v.2.1 v.1.2.2.1 (z0q0.at none ((), ()) (K (.exit 0))) n v.1.2.2.2.1
def z0s9 (av : AV) (x : HP z060.ps) : Hdl (CR z060) := hnd [] z0tm (z13y av x)
theorem z161 : LP z060 Tryz.f204 [0] z0s9 := lp_ok (W := []) (H := []) (xs := [z0q0]) z0ya trivial rfl (fun av x v K => by kernel_rfl) (fun av x n v K => by kernel_rfl)
theorem z1d7 : z060.Ok Tryz.prog := fn_ok (k := z060) (fn := Tryz.f204) (W := []) (H := [z0s9]) Tryz.func204 z0ya ⟨z161, trivial⟩ rfl rfl (fun av x => by kernel_rfl)
def z0fx (s : List GDid) (v : GDid) : Option Bool := (z0hh s v).bind fun x1 => (some (decide (0 ≤ x1)))
def z0fu : Con := ⟨170, [.v (.sl (.s .did)) false, .v (.s .did) false], [(.B, true)], [], fun x => z0fx x.1 x.2.1⟩
def z11e : Fs := ⟨[z060], [], []⟩
theorem z11v : z11e.Ok Tryz.prog := (fsK z1d7 fs0)
theorem z12r : z0fu.Ok Tryz.prog := fn_ok (k := z0fu) (fn := Tryz.f170) (W := []) (H := []) Tryz.func170 z11v trivial rfl rfl (fun av x => by kernel_rfl)
def z0zu  : Option Bool := some true
def z0ap (s1 : List Int) (s2 : List Int) (p0_0 : Int) (kx0_0 : Option Bool) : Nat → Int → Option Bool
  | 0, _ => none
  | n0 + 1, s0_0 => if decide (s0_0 < p0_0) = true then ((getI s1 s0_0).bind fun x3 => ((getI s2 s0_0).bind fun x4 => (if decide (x3 = x4) = true then (gd (ok64 (s0_0 + 1)) ((z0ap s1 s2 p0_0 kx0_0 n0) (s0_0 + 1))) else (some false)))) else (kx0_0)
def z0wy (s1 : List Int) (s2 : List Int) : Option Bool := if decide ((s1.length : Int) = (s2.length : Int)) = true then (z0ap s1 s2 (s1.length : Int) z0zu FUEL 0) else (some false)
def z0cr : Con := ⟨192, [.v (.sl .I) false, .v (.sl .I) false], [(.B, true)], [], fun x => z0wy x.1 x.2.1⟩
def z1l7 : Fs := ⟨[], [], []⟩
theorem z1ey : z1l7.Ok Tryz.prog := fs0
def z13t : Tmpl := ⟨[(0, .c (.s .I)), (1, .c (.s .I)), (12, .c .i), (13, .c .i)], []⟩
def z10q : Tmpl := ⟨[], []⟩
def z1ge (av : AV) (x : HP z0cr.ps) (n : Nat) (v : z13t.den) (K : Ks (CR z0cr)) : Option (CR z0cr) := z0ap v.1.1 v.1.2.1 v.1.2.2.1 (z10q.at none ((), ()) (K (.exit 0))) n v.1.2.2.2.1
def z13d (av : AV) (x : HP z0cr.ps) : Hdl (CR z0cr) := hnd [] z13t (z1ge av x)
theorem z1gz : LP z0cr Tryz.f192 [0] z13d := lp_ok (W := []) (H := []) (xs := [z10q]) z1ey trivial rfl (fun av x v K => by kernel_rfl) (fun av x n v K => by kernel_rfl)
theorem z1ls : z0cr.Ok Tryz.prog := fn_ok (k := z0cr) (fn := Tryz.f192) (W := []) (H := [z13d]) Tryz.func192 z1ey ⟨z1gz, trivial⟩ rfl rfl (fun av x => by kernel_rfl)
def z0hi (n : Int) : Option Bool := (z055 n).bind fun x1 => (some (!x1))
def z0i2 : FCon := ⟨162, .I, [], fun z c => z0hi z ⟩
def z14p : Fs := ⟨[z07r], [], []⟩
theorem z15k : z14p.Ok Tryz.prog := (fsK z0d7 fs0)
theorem z16o : z0i2.Ok Tryz.prog := FCon.ok (fn_ok (k := z0i2.con) (fn := Tryz.f162) (W := []) (H := []) Tryz.func162 z15k trivial rfl rfl (fun av x => by kernel_rfl))
def z03a (data : List Int) : Option Bool := if decide ((data.length : Int) = 3) = true then ((z028 data (fun z => z0hi z )).bind fun x2 => (some (!x2))) else (some false)
def z05b : Con := ⟨91, [.v (.sl .I) false], [(.B, true)], [], fun x => z03a x.1⟩
def z1bv : Fs := ⟨[z04f], [z0i2], []⟩
theorem z1cj : z1bv.Ok Tryz.prog := (fsK z07p (fsF z16o fs0))
theorem z07q : z05b.Ok Tryz.prog := fn_ok (k := z05b) (fn := Tryz.f91) (W := []) (H := []) Tryz.func91 z1cj trivial rfl rfl (fun av x => by kernel_rfl)
def z027 (e : GAsk) (data : List Int) : Option Bool := (z07f e).bind fun x1 => (if x1 = true then ((z03a data).bind fun x3 => (if x3 = true then (if decide (e.op = 1) = true then ((getI data e.var).bind fun x6 => (some (decide (x6 < e.k)))) else (if decide (e.op = 2) = true then ((getI data e.var).bind fun x8 => (some (decide (x8 = e.k)))) else (if decide (e.op = 3) = true then ((getI data e.var).bind fun x10 => (some (decide (e.k < x10)))) else (some true)))) else (some false))) else (some false))
def z041 : Con := ⟨120, [.v (.s .ask) false, .v (.sl .I) false], [(.B, true)], [], fun x => z027 x.1 x.2.1⟩
def z11h : Fs := ⟨[z0dj, z05b], [], []⟩
theorem z11y : z11h.Ok Tryz.prog := (fsK z0r5 (fsK z07q fs0))
theorem z06y : z041.Ok Tryz.prog := fn_ok (k := z041) (fn := Tryz.f120) (W := []) (H := []) Tryz.func120 z11y trivial rfl rfl (fun av x => by kernel_rfl)
def z0io  : Option Bool := some true
def z04q (list : List Int) (places : Int) (without : List Int) (p0_0 : Int) (kx0_0 : Option Bool) : Nat → Int → Int → Option Bool
  | 0, _, _ => none
  | n0 + 1, s0_0, s0_1 => if decide (s0_0 < p0_0) = true then ((getI list s0_0).bind fun x2 => (gd (ok64 (s0_1 + 1)) (gd (ok64 (places - 1)) ((z00c x2 (s0_1 + 1) (places - 1)).bind fun x5 => (if x5 = true then ((z0ao without x2).bind fun x7 => (if x7 = true then (some false) else (gd (ok64 (s0_0 + 1)) ((z04q list places without p0_0 kx0_0 n0) (s0_0 + 1) x2)))) else (some false)))))) else (kx0_0)
def z09k (list : List Int) (places : Int) (without : List Int) : Option Bool := z04q list places without (list.length : Int) z0io FUEL 0 (-1)
def z03p : Con := ⟨178, [.v (.sl .I) false, .v .I false, .v (.sl .I) false], [(.B, true)], [], fun x => z09k x.1 x.2.1 x.2.2.1⟩
def z14v : Fs := ⟨[z02h, z0di], [], []⟩
theorem z0rz : z14v.Ok Tryz.prog := (fsK z036 (fsK z0r4 fs0))
def z0mc : Tmpl := ⟨[(1, .c .i), (2, .c (.s .I)), (7, .c .i), (10, .c (.s .I)), (11, .c .i), (12, .c .i)], []⟩
def z0je : Tmpl := ⟨[], []⟩
def z0xc (av : AV) (x : HP z03p.ps) (n : Nat) (v : z0mc.den) (K : Ks (CR z03p)) : Option (CR z03p) := z04q v.1.2.2.2.1 v.1.1 v.1.2.1 v.1.2.2.2.2.1 (z0je.at none ((), ()) (K (.exit 0))) n v.1.2.2.2.2.2.1 v.1.2.2.1
def z0kp (av : AV) (x : HP z03p.ps) : Hdl (CR z03p) := hnd [] z0mc (z0xc av x)
theorem z0zc : LP z03p Tryz.f178 [0] z0kp := lp_ok (W := []) (H := []) (xs := [z0je]) z0rz trivial rfl (fun av x v K => by kernel_rfl) (fun av x n v K => by kernel_rfl)
theorem z16u : z03p.Ok Tryz.prog := fn_ok (k := z03p) (fn := Tryz.f178) (W := []) (H := [z0kp]) Tryz.func178 z0rz ⟨z0zc, trivial⟩ rfl rfl (fun av x => by kernel_rfl)
def z072 (t : GTask) : Option Bool := (z00c (t.out.length : Int) 1 3).bind fun x21 => (some x21)
def z016 (t : GTask) (places : Int) (p0_0 : List GFlow) (p0_1 : Int) (kx0_0 : Option Bool) : Nat → Int → List Int → Option Bool
  | 0, _, _ => none
  | n0 + 1, s0_0, m0_1 => if decide (s0_0 < p0_1) = true then ((getI p0_0 s0_0).bind fun x2 => (if decide (t.split = 1) = true then (gd (ok64 (places - 1)) ((z00c x2.to 0 (places - 1)).bind fun x5 => (if x5 = true then (if decide (x2.to ∈ m0_1) = true then (some false) else ((z07f x2.if_).bind fun x8 => (if x8 = true then (if ((decide (x2.if_.op = 0)) == true) = true then (gd (ok64 (s0_0 + 1)) ((z016 t places p0_0 p0_1 kx0_0 n0) (s0_0 + 1) (insKey m0_1 x2.to))) else (some false)) else (some false)))) else (some false)))) else (gd (ok64 ((t.out.length : Int) - 1)) (gd (ok64 (places - 1)) ((z00c x2.to 0 (places - 1)).bind fun x14 => (if x14 = true then (if decide (x2.to ∈ m0_1) = true then (some false) else ((z07f x2.if_).bind fun x17 => (if x17 = true then (if ((decide (x2.if_.op = 0)) == (decide (s0_0 = ((t.out.length : Int) - 1)))) = true then (gd (ok64 (s0_0 + 1)) ((z016 t places p0_0 p0_1 kx0_0 n0) (s0_0 + 1) (insKey m0_1 x2.to))) else (some false)) else (some false)))) else (some false))))))) else (kx0_0)
def z06d (t : GTask) (places : Int) : Option Bool := z016 t places t.out (t.out.length : Int) (z072 t) FUEL 0 (insKey ([] : List Int) 0)
def z00w : Con := ⟨179, [.v (.s .task) false, .v .I false], [(.B, true)], [], fun x => z06d x.1 x.2.1⟩
def z0qn : Fs := ⟨[z02h, z0dj], [], []⟩
theorem z0df : z0qn.Ok Tryz.prog := (fsK z036 (fsK z0r5 fs0))
def z0c0 : Tmpl := ⟨[(1, .c .i), (2, .c (.bx 2 0)), (5, .c (.bx 9 0)), (12, .c (.s (.s .flow))), (13, .c .i), (14, .c .i)], [(2, .boxT (.s .task)), (9, .mp)]⟩
def z0aj : Tmpl := ⟨[(2, .c (.bx 2 0))], [(2, .boxT (.s .task))]⟩
def z0kd (av : AV) (x : HP z00w.ps) (n : Nat) (v : z0c0.den) (K : Ks (CR z00w)) : Option (CR z00w) := z016 v.2.1 v.1.1 v.1.2.2.2.1 v.1.2.2.2.2.1 (z0aj.at none (((), ()), (v.2.1, ())) (K (.exit 0))) n v.1.2.2.2.2.2.1 v.2.2.1
def z0bk (av : AV) (x : HP z00w.ps) : Hdl (CR z00w) := hnd [] z0c0 (z0kd av x)
theorem z0ll : LP z00w Tryz.f179 [0] z0bk := lp_ok (W := []) (H := []) (xs := [z0aj]) z0df trivial rfl (fun av x v K => by kernel_rfl) (fun av x n v K => by kernel_rfl)
theorem z0r8 : z00w.Ok Tryz.prog := fn_ok (k := z00w) (fn := Tryz.f179) (W := []) (H := [z0bk]) Tryz.func179 z0df ⟨z0ll, trivial⟩ rfl rfl (fun av x => by kernel_rfl)
def z08l (t : GTask) (places : Int) (tasks : Int) : Option Bool := (z0ez t.join).bind fun x1 => (if x1 = true then ((z0ez t.split).bind fun x3 => (if x3 = true then ((z00c (t.in_.length : Int) 1 3).bind fun x5 => (if x5 = true then ((z09k t.in_ places [1]).bind fun x7 => (if x7 = true then ((z06d t places).bind fun x9 => (if x9 = true then ((z09k t.clear places [0, 1]).bind fun x11 => (if x11 = true then ((z0br t.role).bind fun x13 => (if x13 = true then (gd (ok64 (tasks - 1)) ((z00c t.apart (-1) (tasks - 1)).bind fun x16 => (if x16 = true then ((z00c t.all 1 3).bind fun x18 => (if x18 = true then ((z00c t.need 1 t.all).bind fun x20 => (some x20)) else (some false))) else (some false)))) else (some false))) else (some false))) else (some false))) else (some false))) else (some false))) else (some false))) else (some false))
def z0c6 : Con := ⟨125, [.v (.s .task) false, .v .I false, .v .I false], [(.B, true)], [], fun x => z08l x.1 x.2.1 x.2.2.1⟩
def z0wa : Fs := ⟨[z0lb, z02h, z03p, z00w, z0el], [], []⟩
theorem z0wd : z0wa.Ok Tryz.prog := (fsK z1ah (fsK z036 (fsK z16u (fsK z0r8 (fsK z0vc fs0)))))
theorem z0ws : z0c6.Ok Tryz.prog := fn_ok (k := z0c6) (fn := Tryz.f125) (W := []) (H := []) Tryz.func125 z0wd trivial rfl rfl (fun av x => by kernel_rfl)
def z0hm (t : GTask) (n : GNet) : Option Bool := (z08l t n.places (n.tasks.length : Int)).bind fun x1 => (some (!x1))
def z0i4 : FCon := ⟨124, (.s .task), [(.s .net)], fun z c => z0hm z c.1⟩
def z14s : Fs := ⟨[z0c6], [], []⟩
theorem z15m : z14s.Ok Tryz.prog := (fsK z0ws fs0)
theorem z16r : z0i4.Ok Tryz.prog := FCon.ok (fn_ok (k := z0i4.con) (fn := Tryz.f124) (W := []) (H := []) Tryz.func124 z15m trivial rfl rfl (fun av x => by kernel_rfl))
def z08v (n : GNet) : Option Bool := (z0hq n.places (n.tasks.length : Int)).bind fun x1 => (if x1 = true then ((z068 n.tasks (fun z => z0hm z n)).bind fun x3 => (some (!x3))) else (some false))
def z0an : Con := ⟨52, [.v (.s .net) false], [(.B, true)], [], fun x => z08v x.1⟩
def z1c0 : Fs := ⟨[z0he, z08s], [z0i4], []⟩
theorem z1cn : z1c0.Ok Tryz.prog := (fsK z16w (fsK z0r3 (fsF z16r fs0)))
theorem z0hx : z0an.Ok Tryz.prog := fn_ok (k := z0an) (fn := Tryz.f52) (W := []) (H := []) Tryz.func52 z1cn trivial rfl rfl (fun av x => by kernel_rfl)
def z05g (p : Int) (out : List Bool) : Option Bool := (getI out p).bind fun x1 => (some x1)
def z07z : FCon := ⟨217, .I, [(.sl .B)], fun z c => z05g z c.1⟩
def z0ns : Fs := ⟨[], [], []⟩
theorem z0nv : z0ns.Ok Tryz.prog := fs0
theorem z0o2 : z07z.Ok Tryz.prog := FCon.ok (fn_ok (k := z07z.con) (fn := Tryz.f217) (W := []) (H := []) Tryz.func217 z0nv trivial rfl rfl (fun av x => by kernel_rfl))
def z0bp (s1_0 : List GTask) (s1_1 : Int) (s1_2 : Int) (bk1 : List GTask → Int → Int → Bool → List Bool → Option (List Bool)) (s2_1 : Bool) (l2_2 : List Bool) : Option (List Bool) := gd (ok64 (s1_2 + 1)) (bk1 s1_0 s1_1 (s1_2 + 1) s2_1 l2_2)
def z00d (p2_0 : List GFlow) (p2_1 : Int) (kx2_0 : Bool → List Bool → Option (List Bool)) : Nat → Int → Bool → List Bool → Option (List Bool)
  | 0, _, _, _ => none
  | n2 + 1, s2_0, s2_1, l2_2 => if decide (s2_0 < p2_1) = true then ((getI p2_0 s2_0).bind fun x11 => (if s2_1 = true then ((getI l2_2 x11.to).bind fun x13 => (gd (ok64 (s2_0 + 1)) ((z00d p2_0 p2_1 kx2_0 n2) (s2_0 + 1) true (l2_2.set x11.to.toNat true)))) else ((getI l2_2 x11.to).bind fun x15 => ((getI l2_2 x11.to).bind fun x16 => (gd (ok64 (s2_0 + 1)) ((z00d p2_0 p2_1 kx2_0 n2) (s2_0 + 1) (!x15) (l2_2.set x11.to.toNat true))))))) else (kx2_0 s2_1 l2_2)
def z07h (bk0 : Bool → List Bool → Option (List Bool)) (s1_3 : Bool) (l1_4 : List Bool) : Option (List Bool) := bk0 s1_3 l1_4
def z00a (but : Int) (kx1_0 : Bool → List Bool → Option (List Bool)) : Nat → List GTask → Int → Int → Bool → List Bool → Option (List Bool)
  | 0, _, _, _, _, _ => none
  | n1 + 1, s1_0, s1_1, s1_2, s1_3, l1_4 => if decide (s1_2 < s1_1) = true then ((getI s1_0 s1_2).bind fun x5 => (if decide (s1_2 = but) = true then (gd (ok64 (s1_2 + 1)) ((z00a but kx1_0 n1) s1_0 s1_1 (s1_2 + 1) s1_3 l1_4)) else ((z028 x5.in_ (fun z => z05g z l1_4)).bind fun x8 => (if x8 = true then (z00d x5.out (x5.out.length : Int) (z0bp s1_0 s1_1 s1_2 (z00a but kx1_0 n1)) FUEL 0 s1_3 l1_4) else (gd (ok64 (s1_2 + 1)) ((z00a but kx1_0 n1) s1_0 s1_1 (s1_2 + 1) s1_3 l1_4)))))) else (kx1_0 s1_3 l1_4)
def z0bq (l0_1 : List Bool) : Option (List Bool) := some l0_1
def z00t (n : GNet) (but : Int) (kx0_0 : List Bool → Option (List Bool)) : Nat → Bool → List Bool → Option (List Bool)
  | 0, _, _ => none
  | n0 + 1, s0_0, l0_1 => if s0_0 = true then (z00a but (z07h (z00t n but kx0_0 n0)) FUEL n.tasks (n.tasks.length : Int) 0 false l0_1) else (kx0_0 l0_1)
def z079 (n : GNet) (place : Int) (but : Int) : Option (List Bool) := gd ((0 : Int) ≤ n.places ∧ n.places ≤ (1000000000 : Int)) ((getI (List.replicate n.places.toNat false) place).bind fun x2 => (z00t n but z0bq FUEL true ((List.replicate n.places.toNat false).set place.toNat true)))
def z003 : Con := ⟨202, [.v (.s .net) false, .v .I false, .v .I false], [((.sl .B), true)], [], fun x => z079 x.1 x.2.1 x.2.2.1⟩
def z0ru : Fs := ⟨[z04f], [z07z], []⟩
theorem z076 : z0ru.Ok Tryz.prog := (fsK z07p (fsF z0o2 fs0))
def z09a : Tmpl := ⟨[(2, .c .i), (3, .c (.bx 3 0)), (7, .c (.bx 7 0)), (8, .c .b), (21, .c (.s (.s .task))), (22, .c .i), (23, .c .i), (39, .c (.s (.s .flow))), (40, .c .i), (41, .c .i)], [(3, .boxT (.s .net)), (7, .box [.ref 15]), (15, .arr .B true)]⟩
def z08c : Tmpl := ⟨[(2, .c .i), (3, .c (.bx 3 0)), (7, .c (.bx 7 0)), (8, .c .b), (21, .c (.s (.s .task))), (22, .c .i), (23, .c .i)], [(3, .boxT (.s .net)), (7, .box [.ref 15]), (15, .arr .B true)]⟩
def z0g4 (av : AV) (x : HP z003.ps) (n : Nat) (v : z09a.den) (K : Ks (CR z003)) : Option (CR z003) := z00d v.1.2.2.2.2.2.2.2.1 v.1.2.2.2.2.2.2.2.2.1 (fun s2_1 l2_2 => z08c.at none ((v.1.1, (), (), s2_1, v.1.2.2.2.2.1, v.1.2.2.2.2.2.1, v.1.2.2.2.2.2.2.1, ()), (v.2.1, ((), ()), l2_2, ())) (K (.exit 4))) n v.1.2.2.2.2.2.2.2.2.2.1 v.1.2.2.2.1 v.2.2.2.1
def z094 (av : AV) (x : HP z003.ps) : Hdl (CR z003) := hnd [] z09a (z0g4 av x)
theorem z0ge : LP z003 Tryz.f202 [0, 0, 0] z094 := lp_ok (W := []) (H := []) (xs := [z08c]) z076 trivial rfl (fun av x v K => by kernel_rfl) (fun av x n v K => by kernel_rfl)
def z0ah : Tmpl := ⟨[(2, .c .i), (3, .c (.bx 3 0)), (7, .c (.bx 7 0)), (8, .c .b), (21, .c (.s (.s .task))), (22, .c .i), (23, .c .i)], [(3, .boxT (.s .net)), (7, .box [.ref 15]), (15, .arr .B true)]⟩
def z0a4 : Tmpl := ⟨[(2, .c .i), (3, .c (.bx 3 0)), (7, .c (.bx 7 0)), (8, .c .b)], [(3, .boxT (.s .net)), (7, .box [.ref 15]), (15, .arr .B true)]⟩
def z0jx (av : AV) (x : HP z003.ps) (n : Nat) (v : z0ah.den) (K : Ks (CR z003)) : Option (CR z003) := z00a v.1.1 (fun s1_3 l1_4 => z0a4.at none ((v.1.1, (), (), s1_3, ()), (v.2.1, ((), ()), l1_4, ())) (K (.exit 2))) n v.1.2.2.2.2.1 v.1.2.2.2.2.2.1 v.1.2.2.2.2.2.2.1 v.1.2.2.2.1 v.2.2.2.1
def z0aa (av : AV) (x : HP z003.ps) : Hdl (CR z003) := hnd [] z0ah (z0jx av x)
theorem z0k7 : LP z003 Tryz.f202 [0, 0] z0aa := lp_ok (W := []) (H := [z094]) (xs := [z0a4]) z076 ⟨z0ge, trivial⟩ rfl (fun av x v K => by kernel_rfl) (fun av x n v K => by kernel_rfl)
def z0cn : Tmpl := ⟨[(2, .c .i), (3, .c (.bx 3 0)), (7, .c (.bx 7 0)), (8, .c .b)], [(3, .boxT (.s .net)), (7, .box [.ref 15]), (15, .arr .B true)]⟩
def z0c2 : Tmpl := ⟨[(7, .c (.bx 7 0))], [(7, .box [.ref 15]), (15, .arr .B true)]⟩
def z0nl (av : AV) (x : HP z003.ps) (n : Nat) (v : z0cn.den) (K : Ks (CR z003)) : Option (CR z003) := z00t v.2.1 v.1.1 (fun l0_1 => z0c2.at none (((), ()), (((), ()), l0_1, ())) (K (.exit 0))) n v.1.2.2.2.1 v.2.2.2.1
def z0cf (av : AV) (x : HP z003.ps) : Hdl (CR z003) := hnd [] z0cn (z0nl av x)
theorem z0nx : LP z003 Tryz.f202 [0] z0cf := lp_ok (W := []) (H := [z0aa]) (xs := [z0c2]) z076 ⟨z0k7, trivial⟩ rfl (fun av x v K => by kernel_rfl) (fun av x n v K => by kernel_rfl)
theorem z0t8 : z003.Ok Tryz.prog := fn_ok (k := z003) (fn := Tryz.f202) (W := []) (H := [z0cf]) Tryz.func202 z076 ⟨z0nx, trivial⟩ rfl rfl (fun av x => by kernel_rfl)
def z071 (m : Int) : Option Bool := (z00c m 0 4).bind fun x1 => (some (!x1))
def z074 : FCon := ⟨199, .I, [], fun z c => z071 z ⟩
def z0jz : Fs := ⟨[z02h], [], []⟩
theorem z0k1 : z0jz.Ok Tryz.prog := (fsK z036 fs0)
theorem z0k9 : z074.Ok Tryz.prog := FCon.ok (fn_ok (k := z074.con) (fn := Tryz.f199) (W := []) (H := []) Tryz.func199 z0k1 trivial rfl rfl (fun av x => by kernel_rfl))
def z03m (n : GNet) (marks : List Int) : Option Bool := if decide ((marks.length : Int) = n.places) = true then ((z028 marks (fun z => z071 z )).bind fun x2 => (some (!x2))) else (some false)
def z05e : Con := ⟨164, [.v (.s .net) false, .v (.sl .I) false], [(.B, true)], [], fun x => z03m x.1 x.2.1⟩
def z0nr : Fs := ⟨[z04f], [z074], []⟩
theorem z0nu : z0nr.Ok Tryz.prog := (fsK z07p (fsF z0k9 fs0))
theorem z0cl : z05e.Ok Tryz.prog := fn_ok (k := z05e) (fn := Tryz.f164) (W := []) (H := []) Tryz.func164 z0nu trivial rfl rfl (fun av x => by kernel_rfl)
def z0ar (n : GNet) (marks : List Int) : Option Bool := (z08v n).bind fun x1 => (if x1 = true then ((z03m n marks).bind fun x3 => (some x3)) else (some false))
def z0dk : Con := ⟨94, [.v (.s .net) false, .v (.sl .I) false], [(.B, true)], [], fun x => z0ar x.1 x.2.1⟩
def z1bz : Fs := ⟨[z0an, z05e], [], []⟩
theorem z1cm : z1bz.Ok Tryz.prog := (fsK z0hx (fsK z0cl fs0))
theorem z0r6 : z0dk.Ok Tryz.prog := fn_ok (k := z0dk) (fn := Tryz.f94) (W := []) (H := []) Tryz.func94 z1cm trivial rfl rfl (fun av x => by kernel_rfl)
def z0ab (busy : List GItem) : Option Bool := some (decide ((busy.length : Int) ≤ 6))
def z01p (n : GNet) (p0_0 : List GItem) (p0_1 : Int) (kx0_0 : Option Bool) : Nat → Int → Option Bool
  | 0, _ => none
  | n0 + 1, s0_0 => if decide (s0_0 < p0_1) = true then ((getI p0_0 s0_0).bind fun x2 => ((z00j n x2.task).bind fun x3 => (if x3 = true then ((z086 x2.who).bind fun x5 => (if x5 = true then ((getI n.tasks x2.task).bind fun x7 => (gd (ok64 (x7.need - 1)) ((z00c x2.did 0 (x7.need - 1)).bind fun x9 => (if x9 = true then (gd (ok64 (s0_0 + 1)) ((z01p n p0_0 p0_1 kx0_0 n0) (s0_0 + 1))) else (some false))))) else (some false))) else (some false)))) else (kx0_0)
def z04h (n : GNet) (busy : List GItem) : Option Bool := z01p n busy (busy.length : Int) (z0ab busy) FUEL 0
def z00m : Con := ⟨95, [.v (.s .net) false, .v (.sl (.s .item)) false], [(.B, true)], [], fun x => z04h x.1 x.2.1⟩
def z0ql : Fs := ⟨[z01n, z0b3, z02h], [], []⟩
theorem z0de : z0ql.Ok Tryz.prog := (fsK z03n (fsK z0pa (fsK z036 fs0)))
def z0bz : Tmpl := ⟨[(1, .c (.s (.s .item))), (2, .c (.bx 2 0)), (7, .c (.s (.s .item))), (8, .c .i), (9, .c .i)], [(2, .boxT (.s .net))]⟩
def z0ai : Tmpl := ⟨[(1, .c (.s (.s .item)))], []⟩
def z0kc (av : AV) (x : HP z00m.ps) (n : Nat) (v : z0bz.den) (K : Ks (CR z00m)) : Option (CR z00m) := z01p v.2.1 v.1.2.2.1 v.1.2.2.2.1 (z0ai.at none ((v.1.1, ()), ()) (K (.exit 0))) n v.1.2.2.2.2.1
def z0bj (av : AV) (x : HP z00m.ps) : Hdl (CR z00m) := hnd [] z0bz (z0kc av x)
theorem z0lk : LP z00m Tryz.f95 [0] z0bj := lp_ok (W := []) (H := []) (xs := [z0ai]) z0de trivial rfl (fun av x v K => by kernel_rfl) (fun av x n v K => by kernel_rfl)
theorem z0dx : z00m.Ok Tryz.prog := fn_ok (k := z00m) (fn := Tryz.f95) (W := []) (H := [z0bj]) Tryz.func95 z0de ⟨z0lk, trivial⟩ rfl rfl (fun av x => by kernel_rfl)
def z070 (q : Int) (marks : List Int) (reach : List Bool) : Option Bool := (getI marks q).bind fun x1 => (if decide (x1 = 0) = true then ((getI reach q).bind fun x3 => (some x3)) else (some false))
def z073 : FCon := ⟨203, .I, [(.sl .I), (.sl .B)], fun z c => z070 z c.1 c.2.1⟩
def z0jy : Fs := ⟨[], [], []⟩
theorem z0k0 : z0jy.Ok Tryz.prog := fs0
theorem z0k8 : z073.Ok Tryz.prog := FCon.ok (fn_ok (k := z073.con) (fn := Tryz.f203) (W := []) (H := []) Tryz.func203 z0k0 trivial rfl rfl (fun av x => by kernel_rfl))
def z03y (s1_0 : Int) (s1_1 : Int) (bk1 : Int → Int → List Int → Option Bool) (l2_1 : List Int) : Option Bool := gd (ok64 (s1_1 + 1)) (bk1 s1_0 (s1_1 + 1) l2_1)
def z01k (p2_0 : List GFlow) (p2_1 : Int) (kx2_0 : List Int → Option Bool) : Nat → Int → List Int → Option Bool
  | 0, _, _ => none
  | n2 + 1, s2_0, l2_1 => if decide (s2_0 < p2_1) = true then ((getI p2_0 s2_0).bind fun x15 => (gd (l2_1.length + [x15.to].length ≤ SMALL) (gd (ok64 (s2_0 + 1)) ((z01k p2_0 p2_1 kx2_0 n2) (s2_0 + 1) (l2_1 ++ [x15.to]))))) else (kx2_0 l2_1)
def z06b  : Option Bool := some false
def z010 (n : GNet) (t : Int) (p0_0 : List Int) (p0_2 : List Int) (l1_2 : List Int) (p3_0 : Int) (kx3_0 : Option Bool) : Nat → Int → Option Bool
  | 0, _ => none
  | n3 + 1, s3_0 => if decide (s3_0 < p3_0) = true then ((getI l1_2 s3_0).bind fun x20 => ((z079 n x20 t).bind fun x21 => ((z028 p0_0 (fun z => z070 z p0_2 x21)).bind fun x22 => (if x22 = true then (some true) else (gd (ok64 (s3_0 + 1)) ((z010 n t p0_0 p0_2 l1_2 p3_0 kx3_0 n3) (s3_0 + 1))))))) else (kx3_0)
def z01j (n : GNet) (t : Int) (p0_0 : List Int) (p0_2 : List Int) (l1_2 : List Int) : Option Bool := z010 n t p0_0 p0_2 l1_2 (l1_2.length : Int) z06b FUEL 0
def z00l (n : GNet) (busy : List GItem) (kx1_0 : List Int → Option Bool) : Nat → Int → Int → List Int → Option Bool
  | 0, _, _, _ => none
  | n1 + 1, s1_0, s1_1, l1_2 => if decide (s1_1 < s1_0) = true then ((getI busy s1_1).bind fun x12 => ((getI n.tasks x12.task).bind fun x13 => (z01k x13.out (x13.out.length : Int) (z03y s1_0 s1_1 (z00l n busy kx1_0 n1)) FUEL 0 l1_2))) else (kx1_0 l1_2)
def z03x (n : GNet) (busy : List GItem) (t : Int) (p0_0 : List Int) (p0_2 : List Int) (l0_1 : List Int) : Option Bool := z00l n busy (z01j n t p0_0 p0_2) FUEL (busy.length : Int) 0 l0_1
def z00k (marks : List Int) (p0_0 : List Int) (p0_1 : Int) (kx0_0 : List Int → Option Bool) : Nat → Int → List Int → Option Bool
  | 0, _, _ => none
  | n0 + 1, s0_0, l0_1 => if decide (s0_0 < p0_1) = true then ((getI marks s0_0).bind fun x3 => (if decide (0 < x3) = true then ((z0ao p0_0 s0_0).bind fun x5 => (if x5 = true then (gd (ok64 (s0_0 + 1)) ((z00k marks p0_0 p0_1 kx0_0 n0) (s0_0 + 1) l0_1)) else (gd (l0_1.length + [s0_0].length ≤ SMALL) (gd (ok64 (s0_0 + 1)) ((z00k marks p0_0 p0_1 kx0_0 n0) (s0_0 + 1) (l0_1 ++ [s0_0])))))) else (gd (ok64 (s0_0 + 1)) ((z00k marks p0_0 p0_1 kx0_0 n0) (s0_0 + 1) l0_1)))) else (kx0_0 l0_1)
def z05f (n : GNet) (marks : List Int) (busy : List GItem) (t : Int) : Option Bool := (getI n.tasks t).bind fun x1 => (z00k marks x1.in_ (marks.length : Int) (z03x n busy t x1.in_ marks) FUEL 0 ([] : List Int))
def z000 : Con := ⟨168, [.v (.s .net) false, .v (.sl .I) false, .v (.sl (.s .item)) false, .v .I false], [(.B, true)], [], fun x => z05f x.1 x.2.1 x.2.2.1 x.2.2.2.1⟩
def z0np : Fs := ⟨[z0di, z003, z04f], [z073], []⟩
theorem z03l : z0np.Ok Tryz.prog := (fsK z0r4 (fsK z0t8 (fsK z07p (fsF z0k8 fs0))))
def z099 : Tmpl := ⟨[(3, .c .i), (4, .c (.bx 4 0)), (5, .c (.bx 5 0)), (9, .c (.s .I)), (10, .c (.ref 500010)), (46, .c (.s (.s .item))), (47, .c .i), (48, .c .i), (58, .c (.s (.s .flow))), (59, .c .i), (60, .c .i)], [(4, .boxT (.s .net)), (5, .box [.s .I]), (500010, .arr .I true)]⟩
def z08b : Tmpl := ⟨[(3, .c .i), (4, .c (.bx 4 0)), (5, .c (.bx 5 0)), (9, .c (.s .I)), (10, .c (.ref 500010)), (46, .c (.s (.s .item))), (47, .c .i), (48, .c .i)], [(4, .boxT (.s .net)), (5, .box [.s .I]), (500010, .arr .I true)]⟩
def z0g3 (av : AV) (x : HP z000.ps) (n : Nat) (v : z099.den) (K : Ks (CR z000)) : Option (CR z000) := z01k v.1.2.2.2.2.2.2.2.2.1 v.1.2.2.2.2.2.2.2.2.2.1 (fun l2_1 => z08b.at none ((v.1.1, (), (), v.1.2.2.2.1, (), v.1.2.2.2.2.2.1, v.1.2.2.2.2.2.2.1, v.1.2.2.2.2.2.2.2.1, ()), (v.2.1, (v.2.2.1.1, ()), l2_1, ())) (K (.exit 4))) n v.1.2.2.2.2.2.2.2.2.2.2.1 v.2.2.2.1
def z093 (av : AV) (x : HP z000.ps) : Hdl (CR z000) := hnd [] z099 (z0g3 av x)
theorem z0gd : LP z000 Tryz.f168 [1, 0] z093 := lp_ok (W := []) (H := []) (xs := [z08b]) z03l trivial rfl (fun av x v K => by kernel_rfl) (fun av x n v K => by kernel_rfl)
def z0ae : Tmpl := ⟨[(2, .c (.s (.s .item))), (3, .c .i), (4, .c (.bx 4 0)), (5, .c (.bx 5 0)), (9, .c (.s .I)), (10, .c (.ref 500010)), (26, .c (.s .I)), (27, .c .i), (28, .c .i)], [(4, .boxT (.s .net)), (5, .box [.s .I]), (500010, .arr .I true)]⟩
def z0a1 : Tmpl := ⟨[(2, .c (.s (.s .item))), (3, .c .i), (4, .c (.bx 4 0)), (5, .c (.bx 5 0)), (9, .c (.s .I)), (10, .c (.ref 500010))], [(4, .boxT (.s .net)), (5, .box [.s .I]), (500010, .arr .I true)]⟩
def z0ju (av : AV) (x : HP z000.ps) (n : Nat) (v : z0ae.den) (K : Ks (CR z000)) : Option (CR z000) := z00k v.1.2.2.2.2.2.2.1 v.1.2.2.2.2.1 v.1.2.2.2.2.2.2.2.1 (fun l0_1 => z0a1.at none ((v.1.1, v.1.2.1, (), (), v.1.2.2.2.2.1, (), ()), (v.2.1, (v.2.2.1.1, ()), l0_1, ())) (K (.exit 0))) n v.1.2.2.2.2.2.2.2.2.1 v.2.2.2.1
def z0a7 (av : AV) (x : HP z000.ps) : Hdl (CR z000) := hnd [.e 10 500010 .I] z0ae (z0ju av x)
theorem z0k4 : LP z000 Tryz.f168 [0] z0a7 := lp_ok (W := []) (H := []) (xs := [z0a1]) z03l trivial rfl (fun av x v K => by kernel_rfl) (fun av x n v K => by kernel_rfl)
def z0af : Tmpl := ⟨[(3, .c .i), (4, .c (.bx 4 0)), (5, .c (.bx 5 0)), (9, .c (.s .I)), (10, .c (.ref 500010)), (46, .c (.s (.s .item))), (47, .c .i), (48, .c .i)], [(4, .boxT (.s .net)), (5, .box [.s .I]), (500010, .arr .I true)]⟩
def z0a2 : Tmpl := ⟨[(3, .c .i), (4, .c (.bx 4 0)), (5, .c (.bx 5 0)), (9, .c (.s .I)), (10, .c (.ref 500010))], [(4, .boxT (.s .net)), (5, .box [.s .I]), (500010, .arr .I true)]⟩
def z0jv (av : AV) (x : HP z000.ps) (n : Nat) (v : z0af.den) (K : Ks (CR z000)) : Option (CR z000) := z00l v.2.1 v.1.2.2.2.2.2.1 (fun l1_2 => z0a2.at none ((v.1.1, (), (), v.1.2.2.2.1, (), ()), (v.2.1, (v.2.2.1.1, ()), l1_2, ())) (K (.exit 2))) n v.1.2.2.2.2.2.2.1 v.1.2.2.2.2.2.2.2.1 v.2.2.2.1
def z0a8 (av : AV) (x : HP z000.ps) : Hdl (CR z000) := hnd [] z0af (z0jv av x)
theorem z0k5 : LP z000 Tryz.f168 [1] z0a8 := lp_ok (W := []) (H := [z093]) (xs := [z0a2]) z03l ⟨z0gd, trivial⟩ rfl (fun av x v K => by kernel_rfl) (fun av x n v K => by kernel_rfl)
def z0ag : Tmpl := ⟨[(3, .c .i), (4, .c (.bx 4 0)), (5, .c (.bx 5 0)), (9, .c (.s .I)), (71, .c (.ref 500010)), (72, .c .i), (73, .c .i)], [(4, .boxT (.s .net)), (5, .box [.s .I]), (500010, .arr .I true)]⟩
def z0a3 : Tmpl := ⟨[], []⟩
def z0jw (av : AV) (x : HP z000.ps) (n : Nat) (v : z0ag.den) (K : Ks (CR z000)) : Option (CR z000) := z010 v.2.1 v.1.1 v.1.2.2.2.1 v.2.2.1.1 v.2.2.2.1 v.1.2.2.2.2.2.1 (z0a3.at none ((), ()) (K (.exit 6))) n v.1.2.2.2.2.2.2.1
def z0a9 (av : AV) (x : HP z000.ps) : Hdl (CR z000) := hnd [] z0ag (z0jw av x)
theorem z0k6 : LP z000 Tryz.f168 [2] z0a9 := lp_ok (W := []) (H := []) (xs := [z0a3]) z03l trivial rfl (fun av x v K => by kernel_rfl) (fun av x n v K => by kernel_rfl)
theorem z0o1 : z000.Ok Tryz.prog := fn_ok (k := z000) (fn := Tryz.f168) (W := []) (H := [z0a7, z0a8, z0a9]) Tryz.func168 z03l ⟨z0k4, z0k5, z0k6, trivial⟩ rfl rfl (fun av x => by kernel_rfl)
def z02m (n : GNet) (marks : List Int) (busy : List GItem) (t : Int) (s0_0 : Bool) (s0_2 : Bool) : Option Bool := (getI n.tasks t).bind fun x14 => (if decide (x14.join = 1) = true then (some s0_0) else (if decide (x14.join = 2) = true then (some s0_2) else (if s0_2 = true then (if s0_0 = true then (some true) else ((z05f n marks busy t).bind fun x19 => (some (!x19)))) else (some false))))
def z00n (marks : List Int) (p0_0 : List Int) (p0_1 : Int) (kx0_0 : Bool → Bool → Option Bool) : Nat → Bool → Int → Bool → Option Bool
  | 0, _, _, _ => none
  | n0 + 1, s0_0, s0_1, s0_2 => if decide (s0_1 < p0_1) = true then ((getI p0_0 s0_1).bind fun x3 => (if s0_2 = true then (if s0_0 = true then ((getI marks x3).bind fun x6 => (gd (ok64 (s0_1 + 1)) ((z00n marks p0_0 p0_1 kx0_0 n0) (decide (0 < x6)) (s0_1 + 1) true))) else (gd (ok64 (s0_1 + 1)) ((z00n marks p0_0 p0_1 kx0_0 n0) false (s0_1 + 1) true))) else ((getI marks x3).bind fun x9 => (if s0_0 = true then ((getI marks x3).bind fun x11 => (gd (ok64 (s0_1 + 1)) ((z00n marks p0_0 p0_1 kx0_0 n0) (decide (0 < x11)) (s0_1 + 1) (decide (0 < x9))))) else (gd (ok64 (s0_1 + 1)) ((z00n marks p0_0 p0_1 kx0_0 n0) false (s0_1 + 1) (decide (0 < x9)))))))) else (kx0_0 s0_0 s0_2)
def z08k (n : GNet) (marks : List Int) (busy : List GItem) (t : Int) : Option Bool := (getI n.tasks t).bind fun x1 => (z00n marks x1.in_ (x1.in_.length : Int) (z02m n marks busy t) FUEL true 0 false)
def z01v : Con := ⟨104, [.v (.s .net) false, .v (.sl .I) false, .v (.sl (.s .item)) false, .v .I false], [(.B, true)], [], fun x => z08k x.1 x.2.1 x.2.2.1 x.2.2.2.1⟩
def z0w9 : Fs := ⟨[z000], [], []⟩
theorem z0ic : z0w9.Ok Tryz.prog := (fsK z0o1 fs0)
def z0fn : Tmpl := ⟨[(1, .c (.s .I)), (2, .c (.s (.s .item))), (3, .c .i), (4, .c (.bx 4 0)), (9, .c .b), (10, .c .b), (18, .c (.s .I)), (19, .c .i), (20, .c .i)], [(4, .boxT (.s .net))]⟩
def z0e8 : Tmpl := ⟨[(1, .c (.s .I)), (2, .c (.s (.s .item))), (3, .c .i), (4, .c (.bx 4 0)), (9, .c .b), (10, .c .b)], [(4, .boxT (.s .net))]⟩
def z0rj (av : AV) (x : HP z01v.ps) (n : Nat) (v : z0fn.den) (K : Ks (CR z01v)) : Option (CR z01v) := z00n v.1.1 v.1.2.2.2.2.2.2.1 v.1.2.2.2.2.2.2.2.1 (fun s0_0 s0_2 => z0e8.at none ((v.1.1, v.1.2.1, v.1.2.2.1, (), s0_2, s0_0, ()), (v.2.1, ())) (K (.exit 0))) n v.1.2.2.2.2.2.1 v.1.2.2.2.2.2.2.2.2.1 v.1.2.2.2.2.1
def z0eh (av : AV) (x : HP z01v.ps) : Hdl (CR z01v) := hnd [] z0fn (z0rj av x)
theorem z0sz : LP z01v Tryz.f104 [0] z0eh := lp_ok (W := []) (H := []) (xs := [z0e8]) z0ic trivial rfl (fun av x v K => by kernel_rfl) (fun av x n v K => by kernel_rfl)
theorem z0wr : z01v.Ok Tryz.prog := fn_ok (k := z01v) (fn := Tryz.f104) (W := []) (H := [z0eh]) Tryz.func104 z0ic ⟨z0sz, trivial⟩ rfl rfl (fun av x => by kernel_rfl)
def z0et (n : GNet) (marks : List Int) (busy : List GItem) (t : Int) : Option Bool := (z0ar n marks).bind fun x1 => (if x1 = true then ((z04h n busy).bind fun x3 => (if x3 = true then ((z00j n t).bind fun x5 => (if x5 = true then ((z08k n marks busy t).bind fun x7 => (some x7)) else (some false))) else (some false))) else (some false))
def z0l5 : Con := ⟨33, [.v (.s .net) false, .v (.sl .I) false, .v (.sl (.s .item)) false, .v .I false], [(.B, true)], [], fun x => z0et x.1 x.2.1 x.2.2.1 x.2.2.2.1⟩
def z180 : Fs := ⟨[z0dk, z00m, z01n, z01v], [], []⟩
theorem z196 : z180.Ok Tryz.prog := (fsK z0r6 (fsK z0dx (fsK z03n (fsK z0wr fs0))))
theorem z1aa : z0l5.Ok Tryz.prog := fn_ok (k := z0l5) (fn := Tryz.f33) (W := []) (H := []) Tryz.func33 z196 trivial rfl rfl (fun av x => by kernel_rfl)
def z0cj (l0_1 : List Int) (x4 : Int) (x7 : Int) : Option (List Int) := some (l0_1.set x4.toNat (x7 - 1))
def z0ck (l0_1 : List Int) : Option (List Int) := some l0_1
def z01o (n : GNet) (t : Int) (p0_0 : List Int) (p0_1 : Int) (kx0_0 : List Int → Int → Int → Option (List Int)) (kx0_1 : List Int → Option (List Int)) : Nat → Int → List Int → Option (List Int)
  | 0, _, _ => none
  | n0 + 1, s0_0, l0_1 => if decide (s0_0 < p0_1) = true then ((getI p0_0 s0_0).bind fun x4 => ((getI l0_1 x4).bind fun x5 => (if decide (0 < x5) = true then ((getI l0_1 x4).bind fun x7 => (gd (ok64 (x7 - 1)) ((getI l0_1 x4).bind fun x9 => ((getI n.tasks t).bind fun x10 => (if decide (x10.join = 2) = true then (kx0_0 l0_1 x4 x7) else (gd (ok64 (s0_0 + 1)) ((z01o n t p0_0 p0_1 kx0_0 kx0_1 n0) (s0_0 + 1) (l0_1.set x4.toNat (x7 - 1))))))))) else (gd (ok64 (s0_0 + 1)) ((z01o n t p0_0 p0_1 kx0_0 kx0_1 n0) (s0_0 + 1) l0_1))))) else (kx0_1 l0_1)
def z07u (n : GNet) (marks : List Int) (t : Int) : Option (List Int) := (z00g marks).bind fun x1 => ((getI n.tasks t).bind fun x2 => (z01o n t x2.in_ (x2.in_.length : Int) z0cj z0ck FUEL 0 x1))
def z01g : Con := ⟨93, [.v (.s .net) false, .v (.sl .I) false, .v .I false], [((.sl .I), true)], [], fun x => z07u x.1 x.2.1 x.2.2.1⟩
def z0ud : Fs := ⟨[z01r], [], []⟩
theorem z0g7 : z0ud.Ok Tryz.prog := (fsK z033 fs0)
def z0e5 : Tmpl := ⟨[(2, .c .i), (3, .c (.bx 3 0)), (7, .c (.ref 11)), (17, .c (.s .I)), (18, .c .i), (19, .c .i)], [(3, .boxT (.s .net)), (11, .arr .I true)]⟩
def z080 : Tmpl := ⟨[(7, .c (.ref 11))], [(11, .arr .I true)]⟩
def z0qg (av : AV) (x : HP z01g.ps) (n : Nat) (v : z0e5.den) (K : Ks (CR z01g)) : Option (CR z01g) := z01o v.2.1 v.1.1 v.1.2.2.2.1 v.1.2.2.2.2.1 (fun l0_1 x4 x7 => z080.at none (((), ()), ((l0_1.set x4.toNat (x7 - 1)), ())) (K (.exit 0))) (fun l0_1 => z080.at none (((), ()), (l0_1, ())) (K (.exit 0))) n v.1.2.2.2.2.2.1 v.2.2.1
def z0dg (av : AV) (x : HP z01g.ps) : Hdl (CR z01g) := hnd [] z0e5 (z0qg av x)
theorem z0r0 : LP z01g Tryz.f93 [0] z0dg := lp_ok (W := []) (H := []) (xs := [z080]) z0g7 trivial rfl (fun av x v K => by kernel_rfl) (fun av x n v K => by kernel_rfl)
theorem z0up : z01g.Ok Tryz.prog := fn_ok (k := z01g) (fn := Tryz.f93) (W := []) (H := [z0dg]) Tryz.func93 z0g7 ⟨z0r0, trivial⟩ rfl rfl (fun av x => by kernel_rfl)
def z0ox (l0_1 : List Int) : Option (List Int) := some l0_1
def z00o (t : GTask) (data : List Int) (p0_0 : List GFlow) (p0_1 : Int) (kx0_0 : List Int → Option (List Int)) : Nat → Int → List Int → Option (List Int)
  | 0, _, _ => none
  | n0 + 1, s0_0, l0_1 => if decide (s0_0 < p0_1) = true then ((getI p0_0 s0_0).bind fun x2 => ((z027 x2.if_ data).bind fun x3 => (if x3 = true then (if decide (t.split = 2) = true then (if decide (0 < (l0_1.length : Int)) = true then (gd (ok64 (s0_0 + 1)) ((z00o t data p0_0 p0_1 kx0_0 n0) (s0_0 + 1) l0_1)) else (if decide (t.split = 3) = true then (gd (ok64 ((t.out.length : Int) - 1)) (if decide (s0_0 = ((t.out.length : Int) - 1)) = true then (if decide (0 < (l0_1.length : Int)) = true then (gd (ok64 (s0_0 + 1)) ((z00o t data p0_0 p0_1 kx0_0 n0) (s0_0 + 1) l0_1)) else (gd (l0_1.length + [x2.to].length ≤ SMALL) (gd (ok64 (s0_0 + 1)) ((z00o t data p0_0 p0_1 kx0_0 n0) (s0_0 + 1) (l0_1 ++ [x2.to]))))) else (gd (l0_1.length + [x2.to].length ≤ SMALL) (gd (ok64 (s0_0 + 1)) ((z00o t data p0_0 p0_1 kx0_0 n0) (s0_0 + 1) (l0_1 ++ [x2.to])))))) else (gd (l0_1.length + [x2.to].length ≤ SMALL) (gd (ok64 (s0_0 + 1)) ((z00o t data p0_0 p0_1 kx0_0 n0) (s0_0 + 1) (l0_1 ++ [x2.to])))))) else (if decide (t.split = 3) = true then (gd (ok64 ((t.out.length : Int) - 1)) (if decide (s0_0 = ((t.out.length : Int) - 1)) = true then (if decide (0 < (l0_1.length : Int)) = true then (gd (ok64 (s0_0 + 1)) ((z00o t data p0_0 p0_1 kx0_0 n0) (s0_0 + 1) l0_1)) else (gd (l0_1.length + [x2.to].length ≤ SMALL) (gd (ok64 (s0_0 + 1)) ((z00o t data p0_0 p0_1 kx0_0 n0) (s0_0 + 1) (l0_1 ++ [x2.to]))))) else (gd (l0_1.length + [x2.to].length ≤ SMALL) (gd (ok64 (s0_0 + 1)) ((z00o t data p0_0 p0_1 kx0_0 n0) (s0_0 + 1) (l0_1 ++ [x2.to])))))) else (gd (l0_1.length + [x2.to].length ≤ SMALL) (gd (ok64 (s0_0 + 1)) ((z00o t data p0_0 p0_1 kx0_0 n0) (s0_0 + 1) (l0_1 ++ [x2.to])))))) else (gd (ok64 (s0_0 + 1)) ((z00o t data p0_0 p0_1 kx0_0 n0) (s0_0 + 1) l0_1))))) else (kx0_0 l0_1)
def z0ho (t : GTask) (data : List Int) : Option (List Int) := z00o t data t.out (t.out.length : Int) z0ox FUEL 0 ([] : List Int)
def z062 : Con := ⟨173, [.v (.s .task) false, .v (.sl .I) false], [((.sl .I), true)], [], fun x => z0ho x.1 x.2.1⟩
def z1c3 : Fs := ⟨[z041], [], []⟩
theorem z0yd : z1c3.Ok Tryz.prog := (fsK z06y fs0)
def z0tr : Tmpl := ⟨[(1, .c (.s .I)), (2, .c (.bx 2 0)), (5, .c (.ref 500005)), (9, .c (.s (.s .flow))), (10, .c .i), (11, .c .i)], [(2, .boxT (.s .task)), (500005, .arr .I true)]⟩
def z0q5 : Tmpl := ⟨[(5, .c (.ref 500005))], [(500005, .arr .I true)]⟩
def z143 (av : AV) (x : HP z062.ps) (n : Nat) (v : z0tr.den) (K : Ks (CR z062)) : Option (CR z062) := z00o v.2.1 v.1.1 v.1.2.2.2.1 v.1.2.2.2.2.1 (fun l0_1 => z0q5.at none (((), ()), (l0_1, ())) (K (.exit 0))) n v.1.2.2.2.2.2.1 v.2.2.1
def z0se (av : AV) (x : HP z062.ps) : Hdl (CR z062) := hnd [.e 5 500005 .I] z0tr (z143 av x)
theorem z166 : LP z062 Tryz.f173 [0] z0se := lp_ok (W := []) (H := []) (xs := [z0q5]) z0yd trivial rfl (fun av x v K => by kernel_rfl) (fun av x n v K => by kernel_rfl)
theorem z1da : z062.Ok Tryz.prog := fn_ok (k := z062) (fn := Tryz.f173) (W := []) (H := [z0se]) Tryz.func173 z0yd ⟨z166, trivial⟩ rfl rfl (fun av x => by kernel_rfl)
def z08j (n : GNet) (l1_1 : List Int) : Option ((List Int) × Bool) := (z03m n l1_1).bind fun x21 => (if x21 = true then (some (l1_1, true)) else (some ([], false)))
def z04p (x14 : (List Int)) (p1_0 : Int) (kx1_0 : List Int → Option ((List Int) × Bool)) : Nat → Int → List Int → Option ((List Int) × Bool)
  | 0, _, _ => none
  | n1 + 1, s1_0, l1_1 => if decide (s1_0 < p1_0) = true then ((getI x14 s1_0).bind fun x16 => ((getI l1_1 x16).bind fun x17 => (gd (ok64 (x17 + 1)) ((getI l1_1 x16).bind fun x19 => (gd (ok64 (s1_0 + 1)) ((z04p x14 p1_0 kx1_0 n1) (s1_0 + 1) (l1_1.set x16.toNat (x17 + 1)))))))) else (kx1_0 l1_1)
def z08i (n : GNet) (t : Int) (data : List Int) (l0_1 : List Int) : Option ((List Int) × Bool) := (getI n.tasks t).bind fun x13 => ((z0ho x13 data).bind fun x14 => (z04p x14 (x14.length : Int) (z08j n) FUEL 0 l0_1))
def z04o (p0_0 : List Int) (p0_1 : Int) (kx0_0 : List Int → Option ((List Int) × Bool)) : Nat → Int → List Int → Option ((List Int) × Bool)
  | 0, _, _ => none
  | n0 + 1, s0_0, l0_1 => if decide (s0_0 < p0_1) = true then ((getI p0_0 s0_0).bind fun x10 => ((getI l0_1 x10).bind fun x11 => (gd (ok64 (s0_0 + 1)) ((z04o p0_0 p0_1 kx0_0 n0) (s0_0 + 1) (l0_1.set x10.toNat 0))))) else (kx0_0 l0_1)
def z07t (n : GNet) (marks : List Int) (t : Int) (data : List Int) : Option ((List Int) × Bool) := (z0ar n marks).bind fun x1 => (if x1 = true then ((z00j n t).bind fun x3 => (if x3 = true then ((z03a data).bind fun x5 => (if x5 = true then ((z00g marks).bind fun x7 => ((getI n.tasks t).bind fun x8 => (z04o x8.clear (x8.clear.length : Int) (z08i n t data) FUEL 0 x7))) else (some ([], false)))) else (some ([], false)))) else (some ([], false)))
def z00v : Con := ⟨115, [.v (.s .net) false, .v (.sl .I) false, .v .I false, .v (.sl .I) false], [((.sl .I), true), (.B, true)], [], fun x => z07t x.1 x.2.1 x.2.2.1 x.2.2.2.1⟩
def z14r : Fs := ⟨[z0dk, z01n, z05b, z01r, z062, z05e], [], []⟩
theorem z0h3 : z14r.Ok Tryz.prog := (fsK z0r6 (fsK z03n (fsK z07q (fsK z033 (fsK z1da (fsK z0cl fs0))))))
def z0m8 : Tmpl := ⟨[(2, .c .i), (3, .c (.s .I)), (4, .c (.bx 4 0)), (10, .c (.ref 31)), (37, .c (.s .I)), (38, .c .i), (39, .c .i)], [(4, .boxT (.s .net)), (31, .arr .I true)]⟩
def z0ja : Tmpl := ⟨[(2, .c .i), (3, .c (.s .I)), (4, .c (.bx 4 0)), (10, .c (.ref 31))], [(4, .boxT (.s .net)), (31, .arr .I true)]⟩
def z0x8 (av : AV) (x : HP z00v.ps) (n : Nat) (v : z0m8.den) (K : Ks (CR z00v)) : Option (CR z00v) := z04o v.1.2.2.2.2.1 v.1.2.2.2.2.2.1 (fun l0_1 => z0ja.at none ((v.1.1, v.1.2.1, (), (), ()), (v.2.1, l0_1, ())) (K (.exit 0))) n v.1.2.2.2.2.2.2.1 v.2.2.1
def z0kl (av : AV) (x : HP z00v.ps) : Hdl (CR z00v) := hnd [] z0m8 (z0x8 av x)
theorem z0z8 : LP z00v Tryz.f115 [0] z0kl := lp_ok (W := []) (H := []) (xs := [z0ja]) z0h3 trivial rfl (fun av x v K => by kernel_rfl) (fun av x n v K => by kernel_rfl)
def z0m9 : Tmpl := ⟨[(4, .c (.bx 4 0)), (10, .c (.ref 31)), (53, .c (.ref 53)), (54, .c .i), (55, .c .i)], [(4, .boxT (.s .net)), (31, .arr .I true), (53, .arr .I true)]⟩
def z0jb : Tmpl := ⟨[(4, .c (.bx 4 0)), (10, .c (.ref 31))], [(4, .boxT (.s .net)), (31, .arr .I true)]⟩
def z0x9 (av : AV) (x : HP z00v.ps) (n : Nat) (v : z0m9.den) (K : Ks (CR z00v)) : Option (CR z00v) := z04p v.2.2.2.1 v.1.2.2.2.1 (fun l1_1 => z0jb.at none (((), (), ()), (v.2.1, l1_1, ())) (K (.exit 2))) n v.1.2.2.2.2.1 v.2.2.1
def z0km (av : AV) (x : HP z00v.ps) : Hdl (CR z00v) := hnd [] z0m9 (z0x9 av x)
theorem z0z9 : LP z00v Tryz.f115 [1] z0km := lp_ok (W := []) (H := []) (xs := [z0jb]) z0h3 trivial rfl (fun av x v K => by kernel_rfl) (fun av x n v K => by kernel_rfl)
theorem z16q : z00v.Ok Tryz.prog := fn_ok (k := z00v) (fn := Tryz.f115) (W := []) (H := [z0kl, z0km]) Tryz.func115 z0h3 ⟨z0z8, z0z9, trivial⟩ rfl rfl (fun av x => by kernel_rfl)
def z0hn (n : Int) : Option Bool := (z00c n 0 7).bind fun x1 => (some (!x1))
def z0i5 : FCon := ⟨119, .I, [], fun z c => z0hn z ⟩
def z14t : Fs := ⟨[z02h], [], []⟩
theorem z15n : z14t.Ok Tryz.prog := (fsK z036 fs0)
theorem z16s : z0i5.Ok Tryz.prog := FCon.ok (fn_ok (k := z0i5.con) (fn := Tryz.f119) (W := []) (H := []) Tryz.func119 z15n trivial rfl rfl (fun av x => by kernel_rfl))
def z0as (people : List Int) : Option Bool := (z00c (people.length : Int) 1 4).bind fun x1 => (if x1 = true then ((z028 people (fun z => z0hn z )).bind fun x3 => (some (!x3))) else (some false))
def z0dl : Con := ⟨50, [.v (.sl .I) false], [(.B, true)], [], fun x => z0as x.1⟩
def z1c1 : Fs := ⟨[z02h, z04f], [z0i5], []⟩
theorem z1co : z1c1.Ok Tryz.prog := (fsK z036 (fsK z07p (fsF z16s fs0)))
theorem z0r9 : z0dl.Ok Tryz.prog := fn_ok (k := z0dl) (fn := Tryz.f50) (W := []) (H := []) Tryz.func50 z1co trivial rfl rfl (fun av x => by kernel_rfl)
def z0ev (people : List Int) (who : Int) (role : Int) : Option Bool := (z0as people).bind fun x1 => (if x1 = true then ((z00c who 1 (people.length : Int)).bind fun x3 => (if x3 = true then ((z0br role).bind fun x5 => (if x5 = true then (gd (ok64 (who - 1)) ((getI people (who - 1)).bind fun x8 => (gd (ok64 (role - 1)) (gd ((0 : Int) ≤ (role - 1) ∧ (role - 1) ≤ (63 : Int)) (some (decide ((andI (shrI x8 (role - 1)) 1) = 1))))))) else (some false))) else (some false))) else (some false))
def z0l7 : Con := ⟨80, [.v (.sl .I) false, .v .I false, .v .I false], [(.B, true)], [], fun x => z0ev x.1 x.2.1 x.2.2.1⟩
def z182 : Fs := ⟨[z0dl, z02h, z0el], [], []⟩
theorem z198 : z182.Ok Tryz.prog := (fsK z0r9 (fsK z036 (fsK z0vc fs0)))
theorem z1ac : z0l7.Ok Tryz.prog := fn_ok (k := z0l7) (fn := Tryz.f80) (W := []) (H := []) Tryz.func80 z198 trivial rfl rfl (fun av x => by kernel_rfl)
def z0eu (did : List GDid) (who : Int) (task : Int) : Option Bool := (z0fx did (GDid.mk task who)).bind fun x1 => (some x1)
def z0l6 : Con := ⟨109, [.v (.sl (.s .did)) false, .v .I false, .v .I false], [(.B, true)], [], fun x => z0eu x.1 x.2.1 x.2.2.1⟩
def z181 : Fs := ⟨[z0fu], [], []⟩
theorem z197 : z181.Ok Tryz.prog := (fsK z12r fs0)
theorem z1ab : z0l6.Ok Tryz.prog := fn_ok (k := z0l6) (fn := Tryz.f109) (W := []) (H := []) Tryz.func109 z197 trivial rfl rfl (fun av x => by kernel_rfl)
def z0c9 (l0_1 : List Int) : Option (List Int) := some l0_1
def z03b (p : Int → Option Bool) (p0_0 : Int) (kx0_0 : List Int → Option (List Int)) : Nat → Int → List Int → Option (List Int)
  | 0, _, _ => none
  | n0 + 1, s0_0, l0_1 => if decide (s0_0 < p0_0) = true then (gd (ok64 (s0_0 + 1)) ((p (s0_0 + 1)).bind fun x5 => (if x5 = true then (gd (ok64 (s0_0 + 1)) (gd (l0_1.length + [(s0_0 + 1)].length ≤ SMALL) (gd (ok64 (s0_0 + 1)) ((z03b p p0_0 kx0_0 n0) (s0_0 + 1) (l0_1 ++ [(s0_0 + 1)]))))) else (gd (ok64 (s0_0 + 1)) ((z03b p p0_0 kx0_0 n0) (s0_0 + 1) l0_1))))) else (kx0_0 l0_1)
def z0hp (people : List Int) (p : Int → Option Bool) : Option (List Int) := (z0as people).bind fun x1 => (if x1 = true then (z03b p (people.length : Int) z0c9 FUEL 0 ([] : List Int)) else (some []))
def z02s : Con := ⟨105, [.v (.sl .I) false, .fn .I], [((.sl .I), true)], [], fun x => z0hp x.1 x.2.1⟩
def z14x : Fs := ⟨[z0dl], [], []⟩
theorem z0s0 : z14x.Ok Tryz.prog := (fsK z0r9 fs0)
def z0md : Tmpl := ⟨[(1, .c .fp), (5, .c (.ref 500005)), (11, .c .i), (12, .c .i)], [(500005, .arr .I true)]⟩
def z0jf : Tmpl := ⟨[(5, .c (.ref 500005))], [(500005, .arr .I true)]⟩
def z0xd (av : AV) (x : HP z02s.ps) (n : Nat) (v : z0md.den) (K : Ks (CR z02s)) : Option (CR z02s) := z03b x.2.1 v.1.2.2.1 (fun l0_1 => z0jf.at (fpOf z02s.ps x av) (((), ()), (l0_1, ())) (K (.exit 0))) n v.1.2.2.2.1 v.2.1
def z0kq (av : AV) (x : HP z02s.ps) : Hdl (CR z02s) := hnd [.e 5 500005 .I] z0md (z0xd av x)
theorem z0zd : LP z02s Tryz.f105 [0] z0kq := lp_ok (W := []) (H := []) (xs := [z0jf]) z0s0 trivial rfl (fun av x v K => by kernel_rfl) (fun av x n v K => by kernel_rfl)
theorem z16v : z02s.Ok Tryz.prog := fn_ok (k := z02s) (fn := Tryz.f105) (W := []) (H := [z0kq]) Tryz.func105 z0s0 ⟨z0zd, trivial⟩ rfl rfl (fun av x => by kernel_rfl)
def z0c7 (b : GItem) (task : GTask) (who : Int) : Option Bool := if decide (b.task = task.apart) = true then (some (decide (b.who = who))) else (some false)
def z0cb : FCon := ⟨108, (.s .item), [(.s .task), .I], fun z c => z0c7 z c.1 c.2.1⟩
def z0wb : Fs := ⟨[], [], []⟩
theorem z0we : z0wb.Ok Tryz.prog := fs0
theorem z0wt : z0cb.Ok Tryz.prog := FCon.ok (fn_ok (k := z0cb.con) (fn := Tryz.f108) (W := []) (H := []) Tryz.func108 z0we trivial rfl rfl (fun av x => by kernel_rfl))
def z085 (who : Int) (busy : List GItem) (task : GTask) (people : List Int) (did : List GDid) : Option Bool := (z067 busy (fun z => z0c7 z task who)).bind fun x1 => ((z0ev people who task.role).bind fun x2 => (if x2 = true then (if x1 = true then (some false) else ((z0eu did who task.apart).bind fun x5 => (some (!x5)))) else (some false)))
def z0g2 : FCon := ⟨106, .I, [(.sl (.s .item)), (.s .task), (.sl .I), (.sl (.s .did))], fun z c => z085 z c.1 c.2.1 c.2.2.1 c.2.2.2.1⟩
def z11i : Fs := ⟨[z08r, z0l7, z0l6], [z0cb], []⟩
theorem z11z : z11i.Ok Tryz.prog := (fsK z0r2 (fsK z1ac (fsK z1ab (fsF z0wt fs0))))
theorem z12u : z0g2.Ok Tryz.prog := FCon.ok (fn_ok (k := z0g2.con) (fn := Tryz.f106) (W := []) (H := []) Tryz.func106 z11z trivial rfl rfl (fun av x => by kernel_rfl))
def z0ew (n : GNet) (people : List Int) (did : List GDid) (busy : List GItem) (t : Int) : Option (List Int) := (z08v n).bind fun x1 => (if x1 = true then ((z00j n t).bind fun x3 => (if x3 = true then ((getI n.tasks t).bind fun x5 => ((z0hp people (fun z => z085 z busy x5 people did)).bind fun x6 => (some x6))) else (some []))) else (some []))
def z0l8 : Con := ⟨35, [.v (.s .net) false, .v (.sl .I) false, .v (.sl (.s .did)) false, .v (.sl (.s .item)) false, .v .I false], [((.sl .I), true)], [], fun x => z0ew x.1 x.2.1 x.2.2.1 x.2.2.2.1 x.2.2.2.2.1⟩
def z183 : Fs := ⟨[z0an, z01n, z02s], [z0g2], []⟩
theorem z199 : z183.Ok Tryz.prog := (fsK z0hx (fsK z03n (fsK z16v (fsF z12u fs0))))
theorem z1ad : z0l8.Ok Tryz.prog := fn_ok (k := z0l8) (fn := Tryz.f35) (W := []) (H := []) Tryz.func35 z199 trivial rfl rfl (fun av x => by kernel_rfl)
def z0bo (n : GNet) (data : List Int) : Option GCase := (z08v n).bind fun x1 => (if x1 = true then ((z03a data).bind fun x3 => (if x3 = true then (gd ((0 : Int) ≤ n.places ∧ n.places ≤ (1000000000 : Int)) ((z00g data).bind fun x6 => ((getI (List.replicate n.places.toNat (0 : Int)) 0).bind fun x7 => (some (GCase.mk 1 ((List.replicate n.places.toNat (0 : Int)).set (0 : Int).toNat 1) [] x6 []))))) else (some (GCase.mk 0 [] [] [] [])))) else (some (GCase.mk 0 [] [] [] [])))
def z0l4 : Con := ⟨65, [.v (.s .net) false, .v (.sl .I) false], [((.s .kase), true)], [], fun x => z0bo x.1 x.2.1⟩
def z17z : Fs := ⟨[z0an, z05b, z01r], [], []⟩
theorem z195 : z17z.Ok Tryz.prog := (fsK z0hx (fsK z07q (fsK z033 fs0)))
theorem z1a9 : z0l4.Ok Tryz.prog := fn_ok (k := z0l4) (fn := Tryz.f65) (W := []) (H := []) Tryz.func65 z195 trivial rfl rfl (fun av x => by kernel_rfl)
def z0b6 (c : GCase) : Option Bool := if decide (c.state = 1) = true then ((getI c.marks 1).bind fun x16 => (some (decide (x16 = 0)))) else (if decide (c.state = 2) = true then (if decide ((c.busy.length : Int) = 0) = true then ((getI c.marks 1).bind fun x19 => (some ((decide (c.state = 2)) == (decide (0 < x19))))) else (some false)) else (if decide (c.state = 3) = true then (if decide ((c.busy.length : Int) = 0) = true then ((getI c.marks 1).bind fun x22 => (some ((decide (c.state = 2)) == (decide (0 < x22))))) else (some false)) else (some false)))
def z06l (n : GNet) (p0_0 : List GDid) (p0_1 : Int) (kx0_0 : Option Bool) : Nat → Int → Option Bool
  | 0, _ => none
  | n0 + 1, s0_0 => if decide (s0_0 < p0_1) = true then ((getI p0_0 s0_0).bind fun x9 => ((z00j n x9.task).bind fun x10 => (if x10 = true then ((z086 x9.who).bind fun x12 => (if x12 = true then (gd (ok64 (s0_0 + 1)) ((z06l n p0_0 p0_1 kx0_0 n0) (s0_0 + 1))) else (some false))) else (some false)))) else (kx0_0)
def z0dq (n : GNet) (c : GCase) : Option Bool := (z0ar n c.marks).bind fun x1 => (if x1 = true then ((z04h n c.busy).bind fun x3 => (if x3 = true then ((z03a c.data).bind fun x5 => (if x5 = true then (if decide (60 < (c.did.length : Int)) = true then (some false) else (z06l n c.did (c.did.length : Int) (z0b6 c) FUEL 0)) else (some false))) else (some false))) else (some false))
def z05a : Con := ⟨30, [.v (.s .net) false, .v (.s .kase) false], [(.B, true)], [], fun x => z0dq x.1 x.2.1⟩
def z1bu : Fs := ⟨[z0dk, z00m, z05b, z01n, z0b3], [], []⟩
theorem z0yb : z1bu.Ok Tryz.prog := (fsK z0r6 (fsK z0dx (fsK z07q (fsK z03n (fsK z0pa fs0)))))
def z0tn : Tmpl := ⟨[(2, .c (.bx 2 0)), (3, .c (.bx 3 0)), (32, .c (.s (.s .did))), (33, .c .i), (34, .c .i)], [(2, .boxT (.s .net)), (3, .boxT (.s .kase))]⟩
def z0q1 : Tmpl := ⟨[(3, .c (.bx 3 0))], [(3, .boxT (.s .kase))]⟩
def z13z (av : AV) (x : HP z05a.ps) (n : Nat) (v : z0tn.den) (K : Ks (CR z05a)) : Option (CR z05a) := z06l v.2.1 v.1.2.2.1 v.1.2.2.2.1 (z0q1.at none (((), ()), (v.2.2.1, ())) (K (.exit 0))) n v.1.2.2.2.2.1
def z0sa (av : AV) (x : HP z05a.ps) : Hdl (CR z05a) := hnd [] z0tn (z13z av x)
theorem z162 : LP z05a Tryz.f30 [0] z0sa := lp_ok (W := []) (H := []) (xs := [z0q1]) z0yb trivial rfl (fun av x v K => by kernel_rfl) (fun av x n v K => by kernel_rfl)
theorem z100 : z05a.Ok Tryz.prog := fn_ok (k := z05a) (fn := Tryz.f30) (W := []) (H := [z0sa]) Tryz.func30 z0yb ⟨z162, trivial⟩ rfl rfl (fun av x => by kernel_rfl)
def z07v (n : GNet) (c : GCase) : Option Bool := (z0dq n c).bind fun x1 => (if x1 = true then (some (decide (c.state = 1))) else (some false))
def z09f : Con := ⟨85, [.v (.s .net) false, .v (.s .kase) false], [(.B, true)], [], fun x => z07v x.1 x.2.1⟩
def z14y : Fs := ⟨[z05a], [], []⟩
theorem z15p : z14y.Ok Tryz.prog := (fsK z100 fs0)
theorem z0hy : z09f.Ok Tryz.prog := fn_ok (k := z09f) (fn := Tryz.f85) (W := []) (H := []) Tryz.func85 z15p trivial rfl rfl (fun av x => by kernel_rfl)
def z0b7 (n : GNet) (people : List Int) (c : GCase) (t : Int) (who : Int) : Option (GCase × Bool) := (z008 c).bind fun x1 => ((z07v n c).bind fun x2 => (if x2 = true then (if decide ((c.busy.length : Int) = 6) = true then (some (x1, false)) else ((z0et n c.marks c.busy t).bind fun x5 => (if x5 = true then ((z0ew n people c.did c.busy t).bind fun x7 => ((z0ao x7 who).bind fun x8 => (if x8 = true then ((z07u n c.marks t).bind fun x10 => (gd (x1.busy.length + [(GItem.mk t who 0)].length ≤ SMALL) ((z008 (GCase.mk x1.state x10 (x1.busy ++ [(GItem.mk t who 0)]) x1.data x1.did)).bind fun x12 => (some (x12, true))))) else (some (x1, false))))) else (some (x1, false))))) else (some (x1, false))))
def z0fv : Con := ⟨27, [.v (.s .net) false, .v (.sl .I) false, .v (.s .kase) false, .v .I false, .v .I false], [((.s .kase), true), (.B, true)], [], fun x => z0b7 x.1 x.2.1 x.2.2.1 x.2.2.2.1 x.2.2.2.2.1⟩
def z11f : Fs := ⟨[z02i, z09f, z0l5, z0l8, z0di, z01g], [], []⟩
theorem z11w : z11f.Ok Tryz.prog := (fsK z06g (fsK z0hy (fsK z1aa (fsK z1ad (fsK z0r4 (fsK z0up fs0))))))
theorem z12s : z0fv.Ok Tryz.prog := fn_ok (k := z0fv) (fn := Tryz.f27) (W := []) (H := []) Tryz.func27 z11w trivial rfl rfl (fun av x => by kernel_rfl)
end
end Go.Am
