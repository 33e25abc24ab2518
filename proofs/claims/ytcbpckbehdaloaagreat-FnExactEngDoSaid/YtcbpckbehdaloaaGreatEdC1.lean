/- Mirrors and contracts, printed. Own work. -/
import Derived.Test.YtcbpckbehdaloaaGreatEdD1
set_option linter.unusedSimpArgs false
set_option maxRecDepth 100000
set_option maxHeartbeats 4000000
set_option linter.unusedVariables false
namespace Go.Am
noncomputable section
open Go Go.Proofs
def z1jf (l : List Int) (left : Int) : Option Int := gd (ok64 (left - (l.length : Int))) (if decide ((left - (l.length : Int)) < 0) = true then (some (-1)) else (some (left - (l.length : Int))))
def z1iz : Con := ⟨57, [.v (.sl .I) false, .v .I false], [(.I, true)], [], fun x => z1jf x.1 x.2.1⟩
def z1xb : Fs := ⟨[], []⟩
theorem z1xi : z1xb.Ok Tryz.prog := fs0
theorem z1y0 : z1iz.Ok Tryz.prog := fn_ok (k := z1iz) (fn := Tryz.f57) (W := []) (H := []) Tryz.func57 z1xi trivial rfl rfl (fun av x => by kernel_rfl)
noncomputable def z0hp (l : List Int) (left : Int) : Option Int := @gd ((0 ≤ left) ∧ (left ≤ 1048576) ∧ (l.length ≤ 9223372036854775807)) (Classical.propDecidable _) _ (some (szR left l.length))
theorem z0rx (l : List Int) (left : Int) (h : (0 ≤ left) ∧ (left ≤ 1048576) ∧ (l.length ≤ 9223372036854775807)) : z0hp l left = some (szR left l.length) := gdC h
theorem z24m (l : List Int) (left : Int) (h : (0 ≤ left) ∧ (left ≤ 1048576) ∧ (l.length ≤ 9223372036854775807)) : z1jf l left = some (szR left l.length) := by
  exact z1sq h.1 h.2.1 h.2.2
noncomputable def z0xe : Con := ⟨57, [.v (.sl .I) false, .v .I false], [(.I, true)], [], fun x => z0hp x.1 x.2.1⟩
theorem z165 : z0xe.Ok Tryz.prog := z00q z1y0 fun x z hz => by
  obtain ⟨h, e⟩ := z00a hz
  subst e
  exact z24m _ _ h
def z0vu (l : List GFlow) (left : Int) : Option Int := gd (ok64 (left - (l.length : Int))) (if decide ((left - (l.length : Int)) < 0) = true then (some (-1)) else (some (left - (l.length : Int))))
def z0ve : Con := ⟨213, [.v (.sl (.s .flow)) false, .v .I false], [(.I, true)], [], fun x => z0vu x.1 x.2.1⟩
def z1bo : Fs := ⟨[], []⟩
theorem z1cv : z1bo.Ok Tryz.prog := fs0
theorem z1e5 : z0ve.Ok Tryz.prog := fn_ok (k := z0ve) (fn := Tryz.f213) (W := []) (H := []) Tryz.func213 z1cv trivial rfl rfl (fun av x => by kernel_rfl)
noncomputable def z0t0 (l : List GFlow) (left : Int) : Option Int := @gd ((0 ≤ left) ∧ (left ≤ 1048576) ∧ (l.length ≤ 9223372036854775807)) (Classical.propDecidable _) _ (some (szR left l.length))
theorem z1ma (l : List GFlow) (left : Int) (h : (0 ≤ left) ∧ (left ≤ 1048576) ∧ (l.length ≤ 9223372036854775807)) : z0t0 l left = some (szR left l.length) := gdC h
theorem z1qo (l : List GFlow) (left : Int) (h : (0 ≤ left) ∧ (left ≤ 1048576) ∧ (l.length ≤ 9223372036854775807)) : z0vu l left = some (szR left l.length) := by
  exact z1sq h.1 h.2.1 h.2.2
noncomputable def z145 : Con := ⟨213, [.v (.sl (.s .flow)) false, .v .I false], [(.I, true)], [], fun x => z0t0 x.1 x.2.1⟩
theorem z1pp : z145.Ok Tryz.prog := z00q z1e5 fun x z hz => by
  obtain ⟨h, e⟩ := z00a hz
  subst e
  exact z1qo _ _ h
def z0mc (x : GTask) (left : Int) : Option Int := (z0hp x.in_ left).bind fun x1 => (if decide (x1 < 0) = true then (some (-1)) else ((z0t0 x.out x1).bind fun x3 => (if decide (x3 < 0) = true then (some (-1)) else ((z0hp x.clear x3).bind fun x5 => (if decide (x5 < 0) = true then (some (-1)) else (some x5))))))
def z0z8 : Con := ⟨171, [.v (.s .task) false, .v .I false], [(.I, true)], [], fun x => z0mc x.1 x.2.1⟩
def z1g9 : Fs := ⟨[z0xe, z145], []⟩
theorem z1hr : z1g9.Ok Tryz.prog := (fsK z165 (fsK z1pp fs0))
theorem z1jz : z0z8.Ok Tryz.prog := fn_ok (k := z0z8) (fn := Tryz.f171) (W := []) (H := []) Tryz.func171 z1hr trivial rfl rfl (fun av x => by kernel_rfl)
noncomputable def z0xw (x : GTask) (left : Int) : Option Int := @gd ((0 ≤ left) ∧ (left ≤ 1048576) ∧ (GTask.lens (· ≤ 9223372036854775807) x)) (Classical.propDecidable _) _ (some (szR left (GTask.W x)))
theorem z1tg (x : GTask) (left : Int) (h : (0 ≤ left) ∧ (left ≤ 1048576) ∧ (GTask.lens (· ≤ 9223372036854775807) x)) : z0xw x left = some (szR left (GTask.W x)) := gdC h
theorem z1vj (x : GTask) (left : Int) (h : (0 ≤ left) ∧ (left ≤ 1048576) ∧ (GTask.lens (· ≤ 9223372036854775807) x)) : z0mc x left = some (szR left (GTask.W x)) := by
  have e : GTask.W x = (x.in_.length + (x.out.length + (x.clear.length + 0))) := by simp only [GTask.W]; omega
  rw [e]
  have g1 := h.1
  have g2 := h.2.1
  unfold z0mc
  rw [z0rx _ _ ⟨g1, g2, h.2.2.1⟩]; refine z0dx g1 g2 fun left g1 g2 => ?_
  rw [z1ma _ _ ⟨g1, g2, h.2.2.2.1⟩]; refine z0dx g1 g2 fun left g1 g2 => ?_
  rw [z0rx _ _ ⟨g1, g2, h.2.2.2.2⟩]; refine z0dx g1 g2 fun left g1 g2 => ?_
  exact z0tk g1
noncomputable def z1a9 : Con := ⟨171, [.v (.s .task) false, .v .I false], [(.I, true)], [], fun x => z0xw x.1 x.2.1⟩
theorem z1um : z1a9.Ok Tryz.prog := z00q z1jz fun x z hz => by
  obtain ⟨h, e⟩ := z00a hz
  subst e
  exact z1vj _ _ h
def z0ii (s0_0 : Int) : Option Int := some s0_0
def z043 (l : List GTask) (kx0_0 : Int → Option Int) : Nat → Int → Int → Option Int
  | 0, _, _ => none
  | n0 + 1, s0_0, s0_1 => if decide (s0_1 < (l.length : Int)) = true then ((getI l s0_1).bind fun x4 => ((z0xw x4 s0_0).bind fun x5 => (if decide (x5 < 0) = true then (some (-1)) else (gd (ok64 (s0_1 + 1)) ((z043 l kx0_0 n0) x5 (s0_1 + 1)))))) else (kx0_0 s0_0)
def z0vv (l : List GTask) (left : Int) : Option Int := gd (ok64 (left - (l.length : Int))) (if decide ((left - (l.length : Int)) < 0) = true then (some (-1)) else (z043 l z0ii FUEL (left - (l.length : Int)) 0))
def z04j : Con := ⟨94, [.v (.sl (.s .task)) false, .v .I false], [(.I, true)], [], fun x => z0vv x.1 x.2.1⟩
def z1bp : Fs := ⟨[z1a9], []⟩
theorem z0u7 : z1bp.Ok Tryz.prog := (fsK z1um fs0)
def z0n5 : Tmpl := ⟨[(0, .c (.s (.s .task))), (1, .c .i), (5, .c .i)], []⟩
def z0j5 : Tmpl := ⟨[(1, .c .i)], []⟩
def z11m (av : AV) (x : HP z04j.ps) (n : Nat) (v : z0n5.den) (K : Ks (CR z04j)) : Option (CR z04j) := z043 v.1.1 (fun s0_0 => z0j5.at none ((s0_0, ()), ()) (K (.exit 0))) n v.1.2.1 v.1.2.2.1
def z0kr (av : AV) (x : HP z04j.ps) : Hdl (CR z04j) := hnd [] z0n5 (z11m av x)
theorem z14i : LP z04j Tryz.f94 [0] z0kr := lp_ok (W := []) (H := []) (xs := [z0j5]) z0u7 trivial rfl (fun av x v K => by kernel_rfl) (fun av x n v K => by kernel_rfl)
theorem z1e6 : z04j.Ok Tryz.prog := fn_ok (k := z04j) (fn := Tryz.f94) (W := []) (H := [z0kr]) Tryz.func94 z0u7 ⟨z14i, trivial⟩ rfl rfl (fun av x => by kernel_rfl)
noncomputable def z0t1 (l : List GTask) (left : Int) : Option Int := @gd ((0 ≤ left) ∧ (left ≤ 1048576) ∧ (l.length ≤ 9223372036854775807) ∧ (∀ y ∈ l, GTask.lens (· ≤ 9223372036854775807) y)) (Classical.propDecidable _) _ (some (szR left (l.length + sumW GTask.W l)))
theorem z1mb (l : List GTask) (left : Int) (h : (0 ≤ left) ∧ (left ≤ 1048576) ∧ (l.length ≤ 9223372036854775807) ∧ (∀ y ∈ l, GTask.lens (· ≤ 9223372036854775807) y)) : z0t1 l left = some (szR left (l.length + sumW GTask.W l)) := gdC h
theorem z1qp (l : List GTask) (left : Int) (h : (0 ≤ left) ∧ (left ≤ 1048576) ∧ (l.length ≤ 9223372036854775807) ∧ (∀ y ∈ l, GTask.lens (· ≤ 9223372036854775807) y)) : z0vv l left = some (szR left (l.length + sumW GTask.W l)) := by
  refine z1sr (f := z043 l z0ii) h.1 h.2.1 h.2.2.1 (fun n i m hi hn g1 g2 => ?_) (fun n m => ?_)
  · rw [z043, if_pos (decide_eq_true (Int.ofNat_lt.2 hi)), z02e hi, Option.bind_some, z1tg _ _ ⟨g1, g2, h.2.2.2 _ (List.getElem_mem _)⟩, Option.bind_some, z001 (ok64i hi hn)]; rfl
  · rw [z043, if_neg (by simp)]; rfl
noncomputable def z146 : Con := ⟨94, [.v (.sl (.s .task)) false, .v .I false], [(.I, true)], [], fun x => z0t1 x.1 x.2.1⟩
theorem z1pq : z146.Ok Tryz.prog := z00q z1e6 fun x z hz => by
  obtain ⟨h, e⟩ := z00a hz
  subst e
  exact z1qp _ _ h
def z0sq (x : GNet) (left : Int) : Option Int := (z0t1 x.tasks left).bind fun x1 => (if decide (x1 < 0) = true then (some (-1)) else (some x1))
def z13s : Con := ⟨33, [.v (.s .net) false, .v .I false], [(.I, true)], [], fun x => z0sq x.1 x.2.1⟩
def z1ms : Fs := ⟨[z146], []⟩
theorem z1nt : z1ms.Ok Tryz.prog := (fsK z1pq fs0)
theorem z1p3 : z13s.Ok Tryz.prog := fn_ok (k := z13s) (fn := Tryz.f33) (W := []) (H := []) Tryz.func33 z1nt trivial rfl rfl (fun av x => by kernel_rfl)
noncomputable def z15u (x : GNet) (left : Int) : Option Int := @gd ((0 ≤ left) ∧ (left ≤ 1048576) ∧ (GNet.lens (· ≤ 9223372036854775807) x)) (Classical.propDecidable _) _ (some (szR left (GNet.W x)))
theorem z1wy (x : GNet) (left : Int) (h : (0 ≤ left) ∧ (left ≤ 1048576) ∧ (GNet.lens (· ≤ 9223372036854775807) x)) : z15u x left = some (szR left (GNet.W x)) := gdC h
theorem z1z9 (x : GNet) (left : Int) (h : (0 ≤ left) ∧ (left ≤ 1048576) ∧ (GNet.lens (· ≤ 9223372036854775807) x)) : z0sq x left = some (szR left (GNet.W x)) := by
  have e : GNet.W x = ((x.tasks.length + sumW GTask.W x.tasks) + 0) := by simp only [GNet.W]; omega
  rw [e]
  have g1 := h.1
  have g2 := h.2.1
  unfold z0sq
  rw [z1mb _ _ ⟨g1, g2, h.2.2.1, h.2.2.2⟩]; refine z0dx g1 g2 fun left g1 g2 => ?_
  exact z0tk g1
noncomputable def z1j6 : Con := ⟨33, [.v (.s .net) false, .v .I false], [(.I, true)], [], fun x => z15u x.1 x.2.1⟩
theorem z1y8 : z1j6.Ok Tryz.prog := z00q z1p3 fun x z hz => by
  obtain ⟨h, e⟩ := z00a hz
  subst e
  exact z1z9 _ _ h
def z0mb (s0_0 : Int) : Option Int := some s0_0
def z05l (l : List GNet) (kx0_0 : Int → Option Int) : Nat → Int → Int → Option Int
  | 0, _, _ => none
  | n0 + 1, s0_0, s0_1 => if decide (s0_1 < (l.length : Int)) = true then ((getI l s0_1).bind fun x4 => ((z15u x4 s0_0).bind fun x5 => (if decide (x5 < 0) = true then (some (-1)) else (gd (ok64 (s0_1 + 1)) ((z05l l kx0_0 n0) x5 (s0_1 + 1)))))) else (kx0_0 s0_0)
def z0zm (l : List GNet) (left : Int) : Option Int := gd (ok64 (left - (l.length : Int))) (if decide ((left - (l.length : Int)) < 0) = true then (some (-1)) else (z05l l z0mb FUEL (left - (l.length : Int)) 0))
def z060 : Con := ⟨47, [.v (.sl (.s .net)) false, .v .I false], [(.I, true)], [], fun x => z0zm x.1 x.2.1⟩
def z1g8 : Fs := ⟨[z1j6], []⟩
theorem z0yh : z1g8.Ok Tryz.prog := (fsK z1y8 fs0)
def z0qt : Tmpl := ⟨[(0, .c (.s (.s .net))), (1, .c .i), (5, .c .i)], []⟩
def z0o0 : Tmpl := ⟨[(1, .c .i)], []⟩
def z176 (av : AV) (x : HP z060.ps) (n : Nat) (v : z0qt.den) (K : Ks (CR z060)) : Option (CR z060) := z05l v.1.1 (fun s0_0 => z0o0.at none ((s0_0, ()), ()) (K (.exit 0))) n v.1.2.1 v.1.2.2.1
def z0pg (av : AV) (x : HP z060.ps) : Hdl (CR z060) := hnd [] z0qt (z176 av x)
theorem z18m : LP z060 Tryz.f47 [0] z0pg := lp_ok (W := []) (H := []) (xs := [z0o0]) z0yh trivial rfl (fun av x v K => by kernel_rfl) (fun av x n v K => by kernel_rfl)
theorem z1jy : z060.Ok Tryz.prog := fn_ok (k := z060) (fn := Tryz.f47) (W := []) (H := [z0pg]) Tryz.func47 z0yh ⟨z18m, trivial⟩ rfl rfl (fun av x => by kernel_rfl)
noncomputable def z0xv (l : List GNet) (left : Int) : Option Int := @gd ((0 ≤ left) ∧ (left ≤ 1048576) ∧ (l.length ≤ 9223372036854775807) ∧ (∀ y ∈ l, GNet.lens (· ≤ 9223372036854775807) y)) (Classical.propDecidable _) _ (some (szR left (l.length + sumW GNet.W l)))
theorem z1tf (l : List GNet) (left : Int) (h : (0 ≤ left) ∧ (left ≤ 1048576) ∧ (l.length ≤ 9223372036854775807) ∧ (∀ y ∈ l, GNet.lens (· ≤ 9223372036854775807) y)) : z0xv l left = some (szR left (l.length + sumW GNet.W l)) := gdC h
theorem z1vi (l : List GNet) (left : Int) (h : (0 ≤ left) ∧ (left ≤ 1048576) ∧ (l.length ≤ 9223372036854775807) ∧ (∀ y ∈ l, GNet.lens (· ≤ 9223372036854775807) y)) : z0zm l left = some (szR left (l.length + sumW GNet.W l)) := by
  refine z1sr (f := z05l l z0mb) h.1 h.2.1 h.2.2.1 (fun n i m hi hn g1 g2 => ?_) (fun n m => ?_)
  · rw [z05l, if_pos (decide_eq_true (Int.ofNat_lt.2 hi)), z02e hi, Option.bind_some, z1wy _ _ ⟨g1, g2, h.2.2.2 _ (List.getElem_mem _)⟩, Option.bind_some, z001 (ok64i hi hn)]; rfl
  · rw [z05l, if_neg (by simp)]; rfl
noncomputable def z1a8 : Con := ⟨47, [.v (.sl (.s .net)) false, .v .I false], [(.I, true)], [], fun x => z0xv x.1 x.2.1⟩
theorem z1ul : z1a8.Ok Tryz.prog := z00q z1jy fun x z hz => by
  obtain ⟨h, e⟩ := z00a hz
  subst e
  exact z1vi _ _ h
def z0vt (l : List GItem) (left : Int) : Option Int := gd (ok64 (left - (l.length : Int))) (if decide ((left - (l.length : Int)) < 0) = true then (some (-1)) else (some (left - (l.length : Int))))
def z0vc : Con := ⟨95, [.v (.sl (.s .item)) false, .v .I false], [(.I, true)], [], fun x => z0vt x.1 x.2.1⟩
def z1bm : Fs := ⟨[], []⟩
theorem z1ct : z1bm.Ok Tryz.prog := fs0
theorem z1e3 : z0vc.Ok Tryz.prog := fn_ok (k := z0vc) (fn := Tryz.f95) (W := []) (H := []) Tryz.func95 z1ct trivial rfl rfl (fun av x => by kernel_rfl)
noncomputable def z0sy (l : List GItem) (left : Int) : Option Int := @gd ((0 ≤ left) ∧ (left ≤ 1048576) ∧ (l.length ≤ 9223372036854775807)) (Classical.propDecidable _) _ (some (szR left l.length))
theorem z1m8 (l : List GItem) (left : Int) (h : (0 ≤ left) ∧ (left ≤ 1048576) ∧ (l.length ≤ 9223372036854775807)) : z0sy l left = some (szR left l.length) := gdC h
theorem z1qm (l : List GItem) (left : Int) (h : (0 ≤ left) ∧ (left ≤ 1048576) ∧ (l.length ≤ 9223372036854775807)) : z0vt l left = some (szR left l.length) := by
  exact z1sq h.1 h.2.1 h.2.2
noncomputable def z143 : Con := ⟨95, [.v (.sl (.s .item)) false, .v .I false], [(.I, true)], [], fun x => z0sy x.1 x.2.1⟩
theorem z1pn : z143.Ok Tryz.prog := z00q z1e3 fun x z hz => by
  obtain ⟨h, e⟩ := z00a hz
  subst e
  exact z1qm _ _ h
def z0zk (l : List GDid) (left : Int) : Option Int := gd (ok64 (left - (l.length : Int))) (if decide ((left - (l.length : Int)) < 0) = true then (some (-1)) else (some (left - (l.length : Int))))
def z0z7 : Con := ⟨96, [.v (.sl (.s .did)) false, .v .I false], [(.I, true)], [], fun x => z0zk x.1 x.2.1⟩
def z1g6 : Fs := ⟨[], []⟩
theorem z1hq : z1g6.Ok Tryz.prog := fs0
theorem z1jw : z0z7.Ok Tryz.prog := fn_ok (k := z0z7) (fn := Tryz.f96) (W := []) (H := []) Tryz.func96 z1hq trivial rfl rfl (fun av x => by kernel_rfl)
noncomputable def z0xt (l : List GDid) (left : Int) : Option Int := @gd ((0 ≤ left) ∧ (left ≤ 1048576) ∧ (l.length ≤ 9223372036854775807)) (Classical.propDecidable _) _ (some (szR left l.length))
theorem z1td (l : List GDid) (left : Int) (h : (0 ≤ left) ∧ (left ≤ 1048576) ∧ (l.length ≤ 9223372036854775807)) : z0xt l left = some (szR left l.length) := gdC h
theorem z1vg (l : List GDid) (left : Int) (h : (0 ≤ left) ∧ (left ≤ 1048576) ∧ (l.length ≤ 9223372036854775807)) : z0zk l left = some (szR left l.length) := by
  exact z1sq h.1 h.2.1 h.2.2
noncomputable def z1a6 : Con := ⟨96, [.v (.sl (.s .did)) false, .v .I false], [(.I, true)], [], fun x => z0xt x.1 x.2.1⟩
theorem z1uj : z1a6.Ok Tryz.prog := z00q z1jw fun x z hz => by
  obtain ⟨h, e⟩ := z00a hz
  subst e
  exact z1vg _ _ h
def z0md (x : GNode) (left : Int) : Option Int := (z0hp x.stone left).bind fun x1 => (if decide (x1 < 0) = true then (some (-1)) else (some x1))
def z0z9 : Con := ⟨124, [.v (.s .node) false, .v .I false], [(.I, true)], [], fun x => z0md x.1 x.2.1⟩
def z1ga : Fs := ⟨[z0xe], []⟩
theorem z1hs : z1ga.Ok Tryz.prog := (fsK z165 fs0)
theorem z1k0 : z0z9.Ok Tryz.prog := fn_ok (k := z0z9) (fn := Tryz.f124) (W := []) (H := []) Tryz.func124 z1hs trivial rfl rfl (fun av x => by kernel_rfl)
noncomputable def z0xx (x : GNode) (left : Int) : Option Int := @gd ((0 ≤ left) ∧ (left ≤ 1048576) ∧ (GNode.lens (· ≤ 9223372036854775807) x)) (Classical.propDecidable _) _ (some (szR left (GNode.W x)))
theorem z1th (x : GNode) (left : Int) (h : (0 ≤ left) ∧ (left ≤ 1048576) ∧ (GNode.lens (· ≤ 9223372036854775807) x)) : z0xx x left = some (szR left (GNode.W x)) := gdC h
theorem z1vk (x : GNode) (left : Int) (h : (0 ≤ left) ∧ (left ≤ 1048576) ∧ (GNode.lens (· ≤ 9223372036854775807) x)) : z0md x left = some (szR left (GNode.W x)) := by
  have e : GNode.W x = (x.stone.length + 0) := by simp only [GNode.W]; omega
  rw [e]
  have g1 := h.1
  have g2 := h.2.1
  unfold z0md
  rw [z0rx _ _ ⟨g1, g2, h.2.2⟩]; refine z0dx g1 g2 fun left g1 g2 => ?_
  exact z0tk g1
noncomputable def z1aa : Con := ⟨124, [.v (.s .node) false, .v .I false], [(.I, true)], [], fun x => z0xx x.1 x.2.1⟩
theorem z1un : z1aa.Ok Tryz.prog := z00q z1k0 fun x z hz => by
  obtain ⟨h, e⟩ := z00a hz
  subst e
  exact z1vk _ _ h
def z0ij (s0_0 : Int) : Option Int := some s0_0
def z044 (l : List GNode) (kx0_0 : Int → Option Int) : Nat → Int → Int → Option Int
  | 0, _, _ => none
  | n0 + 1, s0_0, s0_1 => if decide (s0_1 < (l.length : Int)) = true then ((getI l s0_1).bind fun x4 => ((z0xx x4 s0_0).bind fun x5 => (if decide (x5 < 0) = true then (some (-1)) else (gd (ok64 (s0_1 + 1)) ((z044 l kx0_0 n0) x5 (s0_1 + 1)))))) else (kx0_0 s0_0)
def z0vw (l : List GNode) (left : Int) : Option Int := gd (ok64 (left - (l.length : Int))) (if decide ((left - (l.length : Int)) < 0) = true then (some (-1)) else (z044 l z0ij FUEL (left - (l.length : Int)) 0))
def z04k : Con := ⟨58, [.v (.sl (.s .node)) false, .v .I false], [(.I, true)], [], fun x => z0vw x.1 x.2.1⟩
def z1bq : Fs := ⟨[z1aa], []⟩
theorem z0u8 : z1bq.Ok Tryz.prog := (fsK z1un fs0)
def z0n6 : Tmpl := ⟨[(0, .c (.s (.s .node))), (1, .c .i), (5, .c .i)], []⟩
def z0j6 : Tmpl := ⟨[(1, .c .i)], []⟩
def z11n (av : AV) (x : HP z04k.ps) (n : Nat) (v : z0n6.den) (K : Ks (CR z04k)) : Option (CR z04k) := z044 v.1.1 (fun s0_0 => z0j6.at none ((s0_0, ()), ()) (K (.exit 0))) n v.1.2.1 v.1.2.2.1
def z0ks (av : AV) (x : HP z04k.ps) : Hdl (CR z04k) := hnd [] z0n6 (z11n av x)
theorem z14j : LP z04k Tryz.f58 [0] z0ks := lp_ok (W := []) (H := []) (xs := [z0j6]) z0u8 trivial rfl (fun av x v K => by kernel_rfl) (fun av x n v K => by kernel_rfl)
theorem z1e7 : z04k.Ok Tryz.prog := fn_ok (k := z04k) (fn := Tryz.f58) (W := []) (H := [z0ks]) Tryz.func58 z0u8 ⟨z14j, trivial⟩ rfl rfl (fun av x => by kernel_rfl)
noncomputable def z0t2 (l : List GNode) (left : Int) : Option Int := @gd ((0 ≤ left) ∧ (left ≤ 1048576) ∧ (l.length ≤ 9223372036854775807) ∧ (∀ y ∈ l, GNode.lens (· ≤ 9223372036854775807) y)) (Classical.propDecidable _) _ (some (szR left (l.length + sumW GNode.W l)))
theorem z1mc (l : List GNode) (left : Int) (h : (0 ≤ left) ∧ (left ≤ 1048576) ∧ (l.length ≤ 9223372036854775807) ∧ (∀ y ∈ l, GNode.lens (· ≤ 9223372036854775807) y)) : z0t2 l left = some (szR left (l.length + sumW GNode.W l)) := gdC h
theorem z1qq (l : List GNode) (left : Int) (h : (0 ≤ left) ∧ (left ≤ 1048576) ∧ (l.length ≤ 9223372036854775807) ∧ (∀ y ∈ l, GNode.lens (· ≤ 9223372036854775807) y)) : z0vw l left = some (szR left (l.length + sumW GNode.W l)) := by
  refine z1sr (f := z044 l z0ij) h.1 h.2.1 h.2.2.1 (fun n i m hi hn g1 g2 => ?_) (fun n m => ?_)
  · rw [z044, if_pos (decide_eq_true (Int.ofNat_lt.2 hi)), z02e hi, Option.bind_some, z1th _ _ ⟨g1, g2, h.2.2.2 _ (List.getElem_mem _)⟩, Option.bind_some, z001 (ok64i hi hn)]; rfl
  · rw [z044, if_neg (by simp)]; rfl
noncomputable def z147 : Con := ⟨58, [.v (.sl (.s .node)) false, .v .I false], [(.I, true)], [], fun x => z0t2 x.1 x.2.1⟩
theorem z1pr : z147.Ok Tryz.prog := z00q z1e7 fun x z hz => by
  obtain ⟨h, e⟩ := z00a hz
  subst e
  exact z1qq _ _ h
def z0m9 (x : GCase) (left : Int) : Option Int := (z0hp x.marks left).bind fun x1 => (if decide (x1 < 0) = true then (some (-1)) else ((z0sy x.busy x1).bind fun x3 => (if decide (x3 < 0) = true then (some (-1)) else ((z0hp x.data x3).bind fun x5 => (if decide (x5 < 0) = true then (some (-1)) else ((z0xt x.did x5).bind fun x7 => (if decide (x7 < 0) = true then (some (-1)) else (some x7))))))))
def z0z6 : Con := ⟨34, [.v (.s .kase) false, .v .I false], [(.I, true)], [], fun x => z0m9 x.1 x.2.1⟩
def z1g5 : Fs := ⟨[z0xe, z143, z1a6], []⟩
theorem z1hp : z1g5.Ok Tryz.prog := (fsK z165 (fsK z1pn (fsK z1uj fs0)))
theorem z1jv : z0z6.Ok Tryz.prog := fn_ok (k := z0z6) (fn := Tryz.f34) (W := []) (H := []) Tryz.func34 z1hp trivial rfl rfl (fun av x => by kernel_rfl)
noncomputable def z0xs (x : GCase) (left : Int) : Option Int := @gd ((0 ≤ left) ∧ (left ≤ 1048576) ∧ (GCase.lens (· ≤ 9223372036854775807) x)) (Classical.propDecidable _) _ (some (szR left (GCase.W x)))
theorem z1tc (x : GCase) (left : Int) (h : (0 ≤ left) ∧ (left ≤ 1048576) ∧ (GCase.lens (· ≤ 9223372036854775807) x)) : z0xs x left = some (szR left (GCase.W x)) := gdC h
theorem z1vf (x : GCase) (left : Int) (h : (0 ≤ left) ∧ (left ≤ 1048576) ∧ (GCase.lens (· ≤ 9223372036854775807) x)) : z0m9 x left = some (szR left (GCase.W x)) := by
  have e : GCase.W x = (x.marks.length + (x.busy.length + (x.data.length + (x.did.length + 0)))) := by simp only [GCase.W]; omega
  rw [e]
  have g1 := h.1
  have g2 := h.2.1
  unfold z0m9
  rw [z0rx _ _ ⟨g1, g2, h.2.2.1⟩]; refine z0dx g1 g2 fun left g1 g2 => ?_
  rw [z1m8 _ _ ⟨g1, g2, h.2.2.2.1⟩]; refine z0dx g1 g2 fun left g1 g2 => ?_
  rw [z0rx _ _ ⟨g1, g2, h.2.2.2.2.1⟩]; refine z0dx g1 g2 fun left g1 g2 => ?_
  rw [z1td _ _ ⟨g1, g2, h.2.2.2.2.2⟩]; refine z0dx g1 g2 fun left g1 g2 => ?_
  exact z0tk g1
noncomputable def z1a5 : Con := ⟨34, [.v (.s .kase) false, .v .I false], [(.I, true)], [], fun x => z0xs x.1 x.2.1⟩
theorem z1ui : z1a5.Ok Tryz.prog := z00q z1jv fun x z hz => by
  obtain ⟨h, e⟩ := z00a hz
  subst e
  exact z1vf _ _ h
def z0sp (x : GRun) (left : Int) : Option Int := (z0xs x.case left).bind fun x1 => (if decide (x1 < 0) = true then (some (-1)) else (some x1))
def z13r : Con := ⟨125, [.v (.s .run) false, .v .I false], [(.I, true)], [], fun x => z0sp x.1 x.2.1⟩
def z1mr : Fs := ⟨[z1a5], []⟩
theorem z1ns : z1mr.Ok Tryz.prog := (fsK z1ui fs0)
theorem z1p2 : z13r.Ok Tryz.prog := fn_ok (k := z13r) (fn := Tryz.f125) (W := []) (H := []) Tryz.func125 z1ns trivial rfl rfl (fun av x => by kernel_rfl)
noncomputable def z15t (x : GRun) (left : Int) : Option Int := @gd ((0 ≤ left) ∧ (left ≤ 1048576) ∧ (GRun.lens (· ≤ 9223372036854775807) x)) (Classical.propDecidable _) _ (some (szR left (GRun.W x)))
theorem z1wx (x : GRun) (left : Int) (h : (0 ≤ left) ∧ (left ≤ 1048576) ∧ (GRun.lens (· ≤ 9223372036854775807) x)) : z15t x left = some (szR left (GRun.W x)) := gdC h
theorem z1z8 (x : GRun) (left : Int) (h : (0 ≤ left) ∧ (left ≤ 1048576) ∧ (GRun.lens (· ≤ 9223372036854775807) x)) : z0sp x left = some (szR left (GRun.W x)) := by
  have e : GRun.W x = (GCase.W x.case + 0) := by simp only [GRun.W]; omega
  rw [e]
  have g1 := h.1
  have g2 := h.2.1
  unfold z0sp
  rw [z1tc _ _ ⟨g1, g2, h.2.2⟩]; refine z0dx g1 g2 fun left g1 g2 => ?_
  exact z0tk g1
noncomputable def z1j5 : Con := ⟨125, [.v (.s .run) false, .v .I false], [(.I, true)], [], fun x => z15t x.1 x.2.1⟩
theorem z1y7 : z1j5.Ok Tryz.prog := z00q z1p2 fun x z hz => by
  obtain ⟨h, e⟩ := z00a hz
  subst e
  exact z1z8 _ _ h
def z0ma (s0_0 : Int) : Option Int := some s0_0
def z05k (l : List GRun) (kx0_0 : Int → Option Int) : Nat → Int → Int → Option Int
  | 0, _, _ => none
  | n0 + 1, s0_0, s0_1 => if decide (s0_1 < (l.length : Int)) = true then ((getI l s0_1).bind fun x4 => ((z15t x4 s0_0).bind fun x5 => (if decide (x5 < 0) = true then (some (-1)) else (gd (ok64 (s0_1 + 1)) ((z05k l kx0_0 n0) x5 (s0_1 + 1)))))) else (kx0_0 s0_0)
def z0zl (l : List GRun) (left : Int) : Option Int := gd (ok64 (left - (l.length : Int))) (if decide ((left - (l.length : Int)) < 0) = true then (some (-1)) else (z05k l z0ma FUEL (left - (l.length : Int)) 0))
def z05z : Con := ⟨59, [.v (.sl (.s .run)) false, .v .I false], [(.I, true)], [], fun x => z0zl x.1 x.2.1⟩
def z1g7 : Fs := ⟨[z1j5], []⟩
theorem z0yg : z1g7.Ok Tryz.prog := (fsK z1y7 fs0)
def z0qs : Tmpl := ⟨[(0, .c (.s (.s .run))), (1, .c .i), (5, .c .i)], []⟩
def z0nz : Tmpl := ⟨[(1, .c .i)], []⟩
def z175 (av : AV) (x : HP z05z.ps) (n : Nat) (v : z0qs.den) (K : Ks (CR z05z)) : Option (CR z05z) := z05k v.1.1 (fun s0_0 => z0nz.at none ((s0_0, ()), ()) (K (.exit 0))) n v.1.2.1 v.1.2.2.1
def z0pf (av : AV) (x : HP z05z.ps) : Hdl (CR z05z) := hnd [] z0qs (z175 av x)
theorem z18l : LP z05z Tryz.f59 [0] z0pf := lp_ok (W := []) (H := []) (xs := [z0nz]) z0yg trivial rfl (fun av x v K => by kernel_rfl) (fun av x n v K => by kernel_rfl)
theorem z1jx : z05z.Ok Tryz.prog := fn_ok (k := z05z) (fn := Tryz.f59) (W := []) (H := [z0pf]) Tryz.func59 z0yg ⟨z18l, trivial⟩ rfl rfl (fun av x => by kernel_rfl)
noncomputable def z0xu (l : List GRun) (left : Int) : Option Int := @gd ((0 ≤ left) ∧ (left ≤ 1048576) ∧ (l.length ≤ 9223372036854775807) ∧ (∀ y ∈ l, GRun.lens (· ≤ 9223372036854775807) y)) (Classical.propDecidable _) _ (some (szR left (l.length + sumW GRun.W l)))
theorem z1te (l : List GRun) (left : Int) (h : (0 ≤ left) ∧ (left ≤ 1048576) ∧ (l.length ≤ 9223372036854775807) ∧ (∀ y ∈ l, GRun.lens (· ≤ 9223372036854775807) y)) : z0xu l left = some (szR left (l.length + sumW GRun.W l)) := gdC h
theorem z1vh (l : List GRun) (left : Int) (h : (0 ≤ left) ∧ (left ≤ 1048576) ∧ (l.length ≤ 9223372036854775807) ∧ (∀ y ∈ l, GRun.lens (· ≤ 9223372036854775807) y)) : z0zl l left = some (szR left (l.length + sumW GRun.W l)) := by
  refine z1sr (f := z05k l z0ma) h.1 h.2.1 h.2.2.1 (fun n i m hi hn g1 g2 => ?_) (fun n m => ?_)
  · rw [z05k, if_pos (decide_eq_true (Int.ofNat_lt.2 hi)), z02e hi, Option.bind_some, z1wx _ _ ⟨g1, g2, h.2.2.2 _ (List.getElem_mem _)⟩, Option.bind_some, z001 (ok64i hi hn)]; rfl
  · rw [z05k, if_neg (by simp)]; rfl
noncomputable def z1a7 : Con := ⟨59, [.v (.sl (.s .run)) false, .v .I false], [(.I, true)], [], fun x => z0xu x.1 x.2.1⟩
theorem z1uk : z1a7.Ok Tryz.prog := z00q z1jx fun x z hz => by
  obtain ⟨h, e⟩ := z00a hz
  subst e
  exact z1vh _ _ h
def z0so (x : GReq) (left : Int) : Option Int := (z0hp x.data left).bind fun x1 => (if decide (x1 < 0) = true then (some (-1)) else (some x1))
def z13q : Con := ⟨12, [.v (.s .req) false, .v .I false], [(.I, true)], [], fun x => z0so x.1 x.2.1⟩
def z1mq : Fs := ⟨[z0xe], []⟩
theorem z1nr : z1mq.Ok Tryz.prog := (fsK z165 fs0)
theorem z1p1 : z13q.Ok Tryz.prog := fn_ok (k := z13q) (fn := Tryz.f12) (W := []) (H := []) Tryz.func12 z1nr trivial rfl rfl (fun av x => by kernel_rfl)
noncomputable def z15s (x : GReq) (left : Int) : Option Int := @gd ((0 ≤ left) ∧ (left ≤ 1048576) ∧ (GReq.lens (· ≤ 9223372036854775807) x)) (Classical.propDecidable _) _ (some (szR left (GReq.W x)))
theorem z1ww (x : GReq) (left : Int) (h : (0 ≤ left) ∧ (left ≤ 1048576) ∧ (GReq.lens (· ≤ 9223372036854775807) x)) : z15s x left = some (szR left (GReq.W x)) := gdC h
theorem z1z7 (x : GReq) (left : Int) (h : (0 ≤ left) ∧ (left ≤ 1048576) ∧ (GReq.lens (· ≤ 9223372036854775807) x)) : z0so x left = some (szR left (GReq.W x)) := by
  have e : GReq.W x = (x.data.length + 0) := by simp only [GReq.W]; omega
  rw [e]
  have g1 := h.1
  have g2 := h.2.1
  unfold z0so
  rw [z0rx _ _ ⟨g1, g2, h.2.2⟩]; refine z0dx g1 g2 fun left g1 g2 => ?_
  exact z0tk g1
noncomputable def z1j4 : Con := ⟨12, [.v (.s .req) false, .v .I false], [(.I, true)], [], fun x => z15s x.1 x.2.1⟩
theorem z1y6 : z1j4.Ok Tryz.prog := z00q z1p1 fun x z hz => by
  obtain ⟨h, e⟩ := z00a hz
  subst e
  exact z1z7 _ _ h
def z0h9 (x : GHouse) (left : Int) : Option Int := (z0xv x.nets left).bind fun x1 => (if decide (x1 < 0) = true then (some (-1)) else ((z0hp x.people x1).bind fun x3 => (if decide (x3 < 0) = true then (some (-1)) else ((z0t2 x.tree x3).bind fun x5 => (if decide (x5 < 0) = true then (some (-1)) else ((z0xu x.runs x5).bind fun x7 => (if decide (x7 < 0) = true then (some (-1)) else (some x7))))))))
def z0vd : Con := ⟨11, [.v (.s .house) false, .v .I false], [(.I, true)], [], fun x => z0h9 x.1 x.2.1⟩
def z1bn : Fs := ⟨[z1a8, z0xe, z147, z1a7], []⟩
theorem z1cu : z1bn.Ok Tryz.prog := (fsK z1ul (fsK z165 (fsK z1pr (fsK z1uk fs0))))
theorem z1e4 : z0vd.Ok Tryz.prog := fn_ok (k := z0vd) (fn := Tryz.f11) (W := []) (H := []) Tryz.func11 z1cu trivial rfl rfl (fun av x => by kernel_rfl)
noncomputable def z0sz (x : GHouse) (left : Int) : Option Int := @gd ((0 ≤ left) ∧ (left ≤ 1048576) ∧ (GHouse.lens (· ≤ 9223372036854775807) x)) (Classical.propDecidable _) _ (some (szR left (GHouse.W x)))
theorem z1m9 (x : GHouse) (left : Int) (h : (0 ≤ left) ∧ (left ≤ 1048576) ∧ (GHouse.lens (· ≤ 9223372036854775807) x)) : z0sz x left = some (szR left (GHouse.W x)) := gdC h
theorem z1qn (x : GHouse) (left : Int) (h : (0 ≤ left) ∧ (left ≤ 1048576) ∧ (GHouse.lens (· ≤ 9223372036854775807) x)) : z0h9 x left = some (szR left (GHouse.W x)) := by
  have e : GHouse.W x = ((x.nets.length + sumW GNet.W x.nets) + (x.people.length + ((x.tree.length + sumW GNode.W x.tree) + ((x.runs.length + sumW GRun.W x.runs) + 0)))) := by simp only [GHouse.W]; omega
  rw [e]
  have g1 := h.1
  have g2 := h.2.1
  unfold z0h9
  rw [z1tf _ _ ⟨g1, g2, h.2.2.1.1, h.2.2.1.2⟩]; refine z0dx g1 g2 fun left g1 g2 => ?_
  rw [z0rx _ _ ⟨g1, g2, h.2.2.2.1⟩]; refine z0dx g1 g2 fun left g1 g2 => ?_
  rw [z1mc _ _ ⟨g1, g2, h.2.2.2.2.1.1, h.2.2.2.2.1.2⟩]; refine z0dx g1 g2 fun left g1 g2 => ?_
  rw [z1te _ _ ⟨g1, g2, h.2.2.2.2.2.1, h.2.2.2.2.2.2⟩]; refine z0dx g1 g2 fun left g1 g2 => ?_
  exact z0tk g1
noncomputable def z144 : Con := ⟨11, [.v (.s .house) false, .v .I false], [(.I, true)], [], fun x => z0sz x.1 x.2.1⟩
theorem z1po : z144.Ok Tryz.prog := z00q z1e4 fun x z hz => by
  obtain ⟨h, e⟩ := z00a hz
  subst e
  exact z1qn _ _ h
def z0zq (l0_1 : List Int) : Option (List Int) := some l0_1
def z09b (l : List Int) (kx0_0 : List Int → Option (List Int)) : Nat → Int → List Int → Option (List Int)
  | 0, _, _ => none
  | n0 + 1, s0_0, l0_1 => if decide (s0_0 < (l.length : Int)) = true then ((getI l s0_0).bind fun x3 => ((getI l0_1 s0_0).bind fun x4 => (gd (ok64 (s0_0 + 1)) ((z09b l kx0_0 n0) (s0_0 + 1) (l0_1.set s0_0.toNat x3))))) else (kx0_0 l0_1)
def z1jg (l : List Int) : Option (List Int) := gd ((0 : Int) ≤ (l.length : Int) ∧ (l.length : Int) ≤ (1000000000 : Int)) (z09b l z0zq FUEL 0 (List.replicate (l.length : Int).toNat (0 : Int)))
def z0br : Con := ⟨37, [.v (.sl .I) false], [((.sl .I), true)], [], fun x => z1jg x.1⟩
def z1xc : Fs := ⟨[], []⟩
theorem z1hv : z1xc.Ok Tryz.prog := fs0
def z16r : Tmpl := ⟨[(0, .c (.s .I)), (3, .c (.ref 7)), (4, .c .i)], [(7, .arr .I true)]⟩
def z107 : Tmpl := ⟨[(3, .c (.ref 7))], [(7, .arr .I true)]⟩
def z1lu (av : AV) (x : HP z0br.ps) (n : Nat) (v : z16r.den) (K : Ks (CR z0br)) : Option (CR z0br) := z09b v.1.1 (fun l0_1 => z107.at none (((), ()), (l0_1, ())) (K (.exit 0))) n v.1.2.2.1 v.2.1
def z136 (av : AV) (x : HP z0br.ps) : Hdl (CR z0br) := hnd [] z16r (z1lu av x)
theorem z1on : LP z0br Tryz.f37 [0] z136 := lp_ok (W := []) (H := []) (xs := [z107]) z1hv trivial rfl (fun av x v K => by kernel_rfl) (fun av x n v K => by kernel_rfl)
theorem z1y1 : z0br.Ok Tryz.prog := fn_ok (k := z0br) (fn := Tryz.f37) (W := []) (H := [z136]) Tryz.func37 z1hv ⟨z1on, trivial⟩ rfl rfl (fun av x => by kernel_rfl)
noncomputable def z0hq (l : List Int) : Option (List Int) := @gd ((l.length ≤ 1048576)) (Classical.propDecidable _) _ (some l)
theorem z0ry (l : List Int) (h : (l.length ≤ 1048576)) : z0hq l = some l := gdC h
theorem z24n (l : List Int) (h : (l.length ≤ 1048576)) : z1jg l = some l := by
  refine (z001 (toOk h)).trans ?_
  have hl := h
  refine z1lo (f := z09b l z0zq) (by omega) (fun n i acc hi ha => ?_) (fun n acc => ?_)
  · rw [z09b, if_pos (decide_eq_true (Int.ofNat_lt.2 hi)), z02e hi, Option.bind_some, z02e (by omega), Option.bind_some, z001 (ok64i hi h)]; rfl
  · rw [z09b, if_neg (by simp)]; rfl
noncomputable def z0xf : Con := ⟨37, [.v (.sl .I) false], [((.sl .I), true)], [], fun x => z0hq x.1⟩
theorem z167 : z0xf.Ok Tryz.prog := z00q z1y1 fun x z hz => by
  obtain ⟨h, e⟩ := z00a hz
  subst e
  exact z24n _ h
def z15h (x : GAsk) : Option GAsk := some x
def z13w : Con := ⟨65, [.v (.s .ask) false], [((.s .ask), true)], [], fun x => z15h x.1⟩
def z1mw : Fs := ⟨[], []⟩
theorem z1nx : z1mw.Ok Tryz.prog := fs0
theorem z1p7 : z13w.Ok Tryz.prog := fn_ok (k := z13w) (fn := Tryz.f65) (W := []) (H := []) Tryz.func65 z1nx trivial rfl rfl (fun av x => by kernel_rfl)
noncomputable def z0mx (x : GAsk) : Option GAsk := @gd (True) (Classical.propDecidable _) _ (some x)
theorem z12g (x : GAsk) (h : True) : z0mx x = some x := gdC h
theorem z1zd (x : GAsk) (h : True) : z15h x = some x := by
  rfl
noncomputable def z0vh : Con := ⟨65, [.v (.s .ask) false], [((.s .ask), true)], [], fun x => z0mx x.1⟩
theorem z166 : z0vh.Ok Tryz.prog := z00q z1p7 fun x z hz => by
  obtain ⟨h, e⟩ := z00a hz
  subst e
  exact z1zd _ h
def z0mh (x : GFlow) : Option GFlow := (z0mx x.if_).bind fun x1 => (some (GFlow.mk x.to x1))
def z0zc : Con := ⟨229, [.v (.s .flow) false], [((.s .flow), true)], [], fun x => z0mh x.1⟩
def z1gf : Fs := ⟨[z0vh], []⟩
theorem z1hw : z1gf.Ok Tryz.prog := (fsK z166 fs0)
theorem z1k5 : z0zc.Ok Tryz.prog := fn_ok (k := z0zc) (fn := Tryz.f229) (W := []) (H := []) Tryz.func229 z1hw trivial rfl rfl (fun av x => by kernel_rfl)
noncomputable def z0y2 (x : GFlow) : Option GFlow := @gd (True) (Classical.propDecidable _) _ (some x)
theorem z1tm (x : GFlow) (h : True) : z0y2 x = some x := gdC h
theorem z1vp (x : GFlow) (h : True) : z0mh x = some x := by
  rw [z0mh, z12g _ trivial, Option.bind_some]
noncomputable def z1af : Con := ⟨229, [.v (.s .flow) false], [((.s .flow), true)], [], fun x => z0y2 x.1⟩
theorem z1us : z1af.Ok Tryz.prog := z00q z1k5 fun x z hz => by
  obtain ⟨h, e⟩ := z00a hz
  subst e
  exact z1vp _ h
def z0il (l0_1 : List GFlow) : Option (List GFlow) := some l0_1
def z046 (l : List GFlow) (kx0_0 : List GFlow → Option (List GFlow)) : Nat → Int → List GFlow → Option (List GFlow)
  | 0, _, _ => none
  | n0 + 1, s0_0, l0_1 => if decide (s0_0 < (l.length : Int)) = true then ((getI l s0_0).bind fun x3 => ((z0y2 x3).bind fun x4 => ((getI l0_1 s0_0).bind fun x5 => (gd (ok64 (s0_0 + 1)) ((z046 l kx0_0 n0) (s0_0 + 1) (l0_1.set s0_0.toNat x4)))))) else (kx0_0 l0_1)
def z0vy (l : List GFlow) : Option (List GFlow) := gd ((0 : Int) ≤ (l.length : Int) ∧ (l.length : Int) ≤ (1000000000 : Int)) (z046 l z0il FUEL 0 (List.replicate (l.length : Int).toNat GFlow.zero))
def z04m : Con := ⟨216, [.v (.sl (.s .flow)) false], [((.sl (.s .flow)), true)], [], fun x => z0vy x.1⟩
def z1bt : Fs := ⟨[z1af], []⟩
theorem z0ua : z1bt.Ok Tryz.prog := (fsK z1us fs0)
def z0n8 : Tmpl := ⟨[(0, .c (.s (.s .flow))), (3, .c (.ref 7)), (4, .c .i)], [(7, .arr (.s .flow) true)]⟩
def z0j8 : Tmpl := ⟨[(3, .c (.ref 7))], [(7, .arr (.s .flow) true)]⟩
def z11p (av : AV) (x : HP z04m.ps) (n : Nat) (v : z0n8.den) (K : Ks (CR z04m)) : Option (CR z04m) := z046 v.1.1 (fun l0_1 => z0j8.at none (((), ()), (l0_1, ())) (K (.exit 0))) n v.1.2.2.1 v.2.1
def z0ku (av : AV) (x : HP z04m.ps) : Hdl (CR z04m) := hnd [] z0n8 (z11p av x)
theorem z14l : LP z04m Tryz.f216 [0] z0ku := lp_ok (W := []) (H := []) (xs := [z0j8]) z0ua trivial rfl (fun av x v K => by kernel_rfl) (fun av x n v K => by kernel_rfl)
theorem z1ea : z04m.Ok Tryz.prog := fn_ok (k := z04m) (fn := Tryz.f216) (W := []) (H := [z0ku]) Tryz.func216 z0ua ⟨z14l, trivial⟩ rfl rfl (fun av x => by kernel_rfl)
noncomputable def z0t4 (l : List GFlow) : Option (List GFlow) := @gd ((l.length ≤ 1048576)) (Classical.propDecidable _) _ (some l)
theorem z1mf (l : List GFlow) (h : (l.length ≤ 1048576)) : z0t4 l = some l := gdC h
theorem z1qt (l : List GFlow) (h : (l.length ≤ 1048576)) : z0vy l = some l := by
  refine (z001 (toOk h)).trans ?_
  have hl := h
  refine z1lo (f := z046 l z0il) (by omega) (fun n i acc hi ha => ?_) (fun n acc => ?_)
  · rw [z046, if_pos (decide_eq_true (Int.ofNat_lt.2 hi)), z02e hi, Option.bind_some, z1tm _ trivial, Option.bind_some, z02e (by omega), Option.bind_some, z001 (ok64i hi h)]; rfl
  · rw [z046, if_neg (by simp)]; rfl
noncomputable def z14a : Con := ⟨216, [.v (.sl (.s .flow)) false], [((.sl (.s .flow)), true)], [], fun x => z0t4 x.1⟩
theorem z1pu : z14a.Ok Tryz.prog := z00q z1ea fun x z hz => by
  obtain ⟨h, e⟩ := z00a hz
  subst e
  exact z1qt _ h
def z0mj (x : GTask) : Option GTask := (z0hq x.in_).bind fun x1 => ((z0t4 x.out).bind fun x2 => ((z0hq x.clear).bind fun x3 => (some (GTask.mk x.join x.split x1 x2 x3 x.role x.apart x.all x.need))))
def z0zd : Con := ⟨175, [.v (.s .task) false], [((.s .task), true)], [], fun x => z0mj x.1⟩
def z1gh : Fs := ⟨[z0xf, z14a], []⟩
theorem z1hx : z1gh.Ok Tryz.prog := (fsK z167 (fsK z1pu fs0))
theorem z1k7 : z0zd.Ok Tryz.prog := fn_ok (k := z0zd) (fn := Tryz.f175) (W := []) (H := []) Tryz.func175 z1hx trivial rfl rfl (fun av x => by kernel_rfl)
noncomputable def z0y4 (x : GTask) : Option GTask := @gd ((GTask.lens (· ≤ 1048576) x)) (Classical.propDecidable _) _ (some x)
theorem z1to (x : GTask) (h : (GTask.lens (· ≤ 1048576) x)) : z0y4 x = some x := gdC h
theorem z1vr (x : GTask) (h : (GTask.lens (· ≤ 1048576) x)) : z0mj x = some x := by
  rw [z0mj, z0ry _ h.1, Option.bind_some, z1mf _ h.2.1, Option.bind_some, z0ry _ h.2.2, Option.bind_some]
noncomputable def z1ah : Con := ⟨175, [.v (.s .task) false], [((.s .task), true)], [], fun x => z0y4 x.1⟩
theorem z1uu : z1ah.Ok Tryz.prog := z00q z1k7 fun x z hz => by
  obtain ⟨h, e⟩ := z00a hz
  subst e
  exact z1vr _ h
def z0im (l0_1 : List GTask) : Option (List GTask) := some l0_1
def z047 (l : List GTask) (kx0_0 : List GTask → Option (List GTask)) : Nat → Int → List GTask → Option (List GTask)
  | 0, _, _ => none
  | n0 + 1, s0_0, l0_1 => if decide (s0_0 < (l.length : Int)) = true then ((getI l s0_0).bind fun x3 => ((z0y4 x3).bind fun x4 => ((getI l0_1 s0_0).bind fun x5 => (gd (ok64 (s0_0 + 1)) ((z047 l kx0_0 n0) (s0_0 + 1) (l0_1.set s0_0.toNat x4)))))) else (kx0_0 l0_1)
def z0vz (l : List GTask) : Option (List GTask) := gd ((0 : Int) ≤ (l.length : Int) ∧ (l.length : Int) ≤ (1000000000 : Int)) (z047 l z0im FUEL 0 (List.replicate (l.length : Int).toNat GTask.zero))
def z04n : Con := ⟨102, [.v (.sl (.s .task)) false], [((.sl (.s .task)), true)], [], fun x => z0vz x.1⟩
def z1bu : Fs := ⟨[z1ah], []⟩
theorem z0ub : z1bu.Ok Tryz.prog := (fsK z1uu fs0)
def z0n9 : Tmpl := ⟨[(0, .c (.s (.s .task))), (3, .c (.ref 7)), (4, .c .i)], [(7, .arr (.s .task) true)]⟩
def z0j9 : Tmpl := ⟨[(3, .c (.ref 7))], [(7, .arr (.s .task) true)]⟩
def z11q (av : AV) (x : HP z04n.ps) (n : Nat) (v : z0n9.den) (K : Ks (CR z04n)) : Option (CR z04n) := z047 v.1.1 (fun l0_1 => z0j9.at none (((), ()), (l0_1, ())) (K (.exit 0))) n v.1.2.2.1 v.2.1
def z0kv (av : AV) (x : HP z04n.ps) : Hdl (CR z04n) := hnd [] z0n9 (z11q av x)
theorem z14m : LP z04n Tryz.f102 [0] z0kv := lp_ok (W := []) (H := []) (xs := [z0j9]) z0ub trivial rfl (fun av x v K => by kernel_rfl) (fun av x n v K => by kernel_rfl)
theorem z1eb : z04n.Ok Tryz.prog := fn_ok (k := z04n) (fn := Tryz.f102) (W := []) (H := [z0kv]) Tryz.func102 z0ub ⟨z14m, trivial⟩ rfl rfl (fun av x => by kernel_rfl)
noncomputable def z0t5 (l : List GTask) : Option (List GTask) := @gd ((l.length ≤ 1048576) ∧ (∀ y ∈ l, GTask.lens (· ≤ 1048576) y)) (Classical.propDecidable _) _ (some l)
theorem z1mg (l : List GTask) (h : (l.length ≤ 1048576) ∧ (∀ y ∈ l, GTask.lens (· ≤ 1048576) y)) : z0t5 l = some l := gdC h
theorem z1qu (l : List GTask) (h : (l.length ≤ 1048576) ∧ (∀ y ∈ l, GTask.lens (· ≤ 1048576) y)) : z0vz l = some l := by
  refine (z001 (toOk h.1)).trans ?_
  have hl := h.1
  refine z1lo (f := z047 l z0im) (by omega) (fun n i acc hi ha => ?_) (fun n acc => ?_)
  · rw [z047, if_pos (decide_eq_true (Int.ofNat_lt.2 hi)), z02e hi, Option.bind_some, z1to _ (h.2 _ (List.getElem_mem _)), Option.bind_some, z02e (by omega), Option.bind_some, z001 (ok64i hi h.1)]; rfl
  · rw [z047, if_neg (by simp)]; rfl
noncomputable def z14b : Con := ⟨102, [.v (.sl (.s .task)) false], [((.sl (.s .task)), true)], [], fun x => z0t5 x.1⟩
theorem z1pv : z14b.Ok Tryz.prog := z00q z1eb fun x z hz => by
  obtain ⟨h, e⟩ := z00a hz
  subst e
  exact z1qu _ h
def z0st (x : GNet) : Option GNet := (z0t5 x.tasks).bind fun x1 => (some (GNet.mk x.places x1))
def z13x : Con := ⟨36, [.v (.s .net) false], [((.s .net), true)], [], fun x => z0st x.1⟩
def z1mx : Fs := ⟨[z14b], []⟩
theorem z1ny : z1mx.Ok Tryz.prog := (fsK z1pv fs0)
theorem z1p8 : z13x.Ok Tryz.prog := fn_ok (k := z13x) (fn := Tryz.f36) (W := []) (H := []) Tryz.func36 z1ny trivial rfl rfl (fun av x => by kernel_rfl)
noncomputable def z15x (x : GNet) : Option GNet := @gd ((GNet.lens (· ≤ 1048576) x)) (Classical.propDecidable _) _ (some x)
theorem z1x2 (x : GNet) (h : (GNet.lens (· ≤ 1048576) x)) : z15x x = some x := gdC h
theorem z1ze (x : GNet) (h : (GNet.lens (· ≤ 1048576) x)) : z0st x = some x := by
  rw [z0st, z1mg _ ⟨h.1, h.2⟩, Option.bind_some]
noncomputable def z1ja : Con := ⟨36, [.v (.s .net) false], [((.s .net), true)], [], fun x => z15x x.1⟩
theorem z1yc : z1ja.Ok Tryz.prog := z00q z1p8 fun x z hz => by
  obtain ⟨h, e⟩ := z00a hz
  subst e
  exact z1ze _ h
def z0mi (l0_1 : List GNet) : Option (List GNet) := some l0_1
def z05o (l : List GNet) (kx0_0 : List GNet → Option (List GNet)) : Nat → Int → List GNet → Option (List GNet)
  | 0, _, _ => none
  | n0 + 1, s0_0, l0_1 => if decide (s0_0 < (l.length : Int)) = true then ((getI l s0_0).bind fun x3 => ((z15x x3).bind fun x4 => ((getI l0_1 s0_0).bind fun x5 => (gd (ok64 (s0_0 + 1)) ((z05o l kx0_0 n0) (s0_0 + 1) (l0_1.set s0_0.toNat x4)))))) else (kx0_0 l0_1)
def z0zr (l : List GNet) : Option (List GNet) := gd ((0 : Int) ≤ (l.length : Int) ∧ (l.length : Int) ≤ (1000000000 : Int)) (z05o l z0mi FUEL 0 (List.replicate (l.length : Int).toNat GNet.zero))
def z063 : Con := ⟨49, [.v (.sl (.s .net)) false], [((.sl (.s .net)), true)], [], fun x => z0zr x.1⟩
def z1gg : Fs := ⟨[z1ja], []⟩
theorem z0yk : z1gg.Ok Tryz.prog := (fsK z1yc fs0)
def z0qw : Tmpl := ⟨[(0, .c (.s (.s .net))), (3, .c (.ref 7)), (4, .c .i)], [(7, .arr (.s .net) true)]⟩
def z0o3 : Tmpl := ⟨[(3, .c (.ref 7))], [(7, .arr (.s .net) true)]⟩
def z179 (av : AV) (x : HP z063.ps) (n : Nat) (v : z0qw.den) (K : Ks (CR z063)) : Option (CR z063) := z05o v.1.1 (fun l0_1 => z0o3.at none (((), ()), (l0_1, ())) (K (.exit 0))) n v.1.2.2.1 v.2.1
def z0pj (av : AV) (x : HP z063.ps) : Hdl (CR z063) := hnd [] z0qw (z179 av x)
theorem z18p : LP z063 Tryz.f49 [0] z0pj := lp_ok (W := []) (H := []) (xs := [z0o3]) z0yk trivial rfl (fun av x v K => by kernel_rfl) (fun av x n v K => by kernel_rfl)
theorem z1k6 : z063.Ok Tryz.prog := fn_ok (k := z063) (fn := Tryz.f49) (W := []) (H := [z0pj]) Tryz.func49 z0yk ⟨z18p, trivial⟩ rfl rfl (fun av x => by kernel_rfl)
noncomputable def z0y3 (l : List GNet) : Option (List GNet) := @gd ((l.length ≤ 1048576) ∧ (∀ y ∈ l, GNet.lens (· ≤ 1048576) y)) (Classical.propDecidable _) _ (some l)
theorem z1tn (l : List GNet) (h : (l.length ≤ 1048576) ∧ (∀ y ∈ l, GNet.lens (· ≤ 1048576) y)) : z0y3 l = some l := gdC h
theorem z1vq (l : List GNet) (h : (l.length ≤ 1048576) ∧ (∀ y ∈ l, GNet.lens (· ≤ 1048576) y)) : z0zr l = some l := by
  refine (z001 (toOk h.1)).trans ?_
  have hl := h.1
  refine z1lo (f := z05o l z0mi) (by omega) (fun n i acc hi ha => ?_) (fun n acc => ?_)
  · rw [z05o, if_pos (decide_eq_true (Int.ofNat_lt.2 hi)), z02e hi, Option.bind_some, z1x2 _ (h.2 _ (List.getElem_mem _)), Option.bind_some, z02e (by omega), Option.bind_some, z001 (ok64i hi h.1)]; rfl
  · rw [z05o, if_neg (by simp)]; rfl
noncomputable def z1ag : Con := ⟨49, [.v (.sl (.s .net)) false], [((.sl (.s .net)), true)], [], fun x => z0y3 x.1⟩
theorem z1ut : z1ag.Ok Tryz.prog := z00q z1k6 fun x z hz => by
  obtain ⟨h, e⟩ := z00a hz
  subst e
  exact z1vq _ h
def z0zo (x : GItem) : Option GItem := some x
def z0zb : Con := ⟨176, [.v (.s .item) false], [((.s .item), true)], [], fun x => z0zo x.1⟩
def z1gd : Fs := ⟨[], []⟩
theorem z1hu : z1gd.Ok Tryz.prog := fs0
theorem z1k3 : z0zb.Ok Tryz.prog := fn_ok (k := z0zb) (fn := Tryz.f176) (W := []) (H := []) Tryz.func176 z1hu trivial rfl rfl (fun av x => by kernel_rfl)
noncomputable def z0y0 (x : GItem) : Option GItem := @gd (True) (Classical.propDecidable _) _ (some x)
theorem z1tk (x : GItem) (h : True) : z0y0 x = some x := gdC h
theorem z1vn (x : GItem) (h : True) : z0zo x = some x := by
  rfl
noncomputable def z1ad : Con := ⟨176, [.v (.s .item) false], [((.s .item), true)], [], fun x => z0y0 x.1⟩
theorem z1uq : z1ad.Ok Tryz.prog := z00q z1k3 fun x z hz => by
  obtain ⟨h, e⟩ := z00a hz
  subst e
  exact z1vn _ h
def z0ik (l0_1 : List GItem) : Option (List GItem) := some l0_1
def z045 (l : List GItem) (kx0_0 : List GItem → Option (List GItem)) : Nat → Int → List GItem → Option (List GItem)
  | 0, _, _ => none
  | n0 + 1, s0_0, l0_1 => if decide (s0_0 < (l.length : Int)) = true then ((getI l s0_0).bind fun x3 => ((z0y0 x3).bind fun x4 => ((getI l0_1 s0_0).bind fun x5 => (gd (ok64 (s0_0 + 1)) ((z045 l kx0_0 n0) (s0_0 + 1) (l0_1.set s0_0.toNat x4)))))) else (kx0_0 l0_1)
def z0vx (l : List GItem) : Option (List GItem) := gd ((0 : Int) ≤ (l.length : Int) ∧ (l.length : Int) ≤ (1000000000 : Int)) (z045 l z0ik FUEL 0 (List.replicate (l.length : Int).toNat GItem.zero))
def z04l : Con := ⟨103, [.v (.sl (.s .item)) false], [((.sl (.s .item)), true)], [], fun x => z0vx x.1⟩
def z1br : Fs := ⟨[z1ad], []⟩
theorem z0u9 : z1br.Ok Tryz.prog := (fsK z1uq fs0)
def z0n7 : Tmpl := ⟨[(0, .c (.s (.s .item))), (3, .c (.ref 7)), (4, .c .i)], [(7, .arr (.s .item) true)]⟩
def z0j7 : Tmpl := ⟨[(3, .c (.ref 7))], [(7, .arr (.s .item) true)]⟩
def z11o (av : AV) (x : HP z04l.ps) (n : Nat) (v : z0n7.den) (K : Ks (CR z04l)) : Option (CR z04l) := z045 v.1.1 (fun l0_1 => z0j7.at none (((), ()), (l0_1, ())) (K (.exit 0))) n v.1.2.2.1 v.2.1
def z0kt (av : AV) (x : HP z04l.ps) : Hdl (CR z04l) := hnd [] z0n7 (z11o av x)
theorem z14k : LP z04l Tryz.f103 [0] z0kt := lp_ok (W := []) (H := []) (xs := [z0j7]) z0u9 trivial rfl (fun av x v K => by kernel_rfl) (fun av x n v K => by kernel_rfl)
theorem z1e8 : z04l.Ok Tryz.prog := fn_ok (k := z04l) (fn := Tryz.f103) (W := []) (H := [z0kt]) Tryz.func103 z0u9 ⟨z14k, trivial⟩ rfl rfl (fun av x => by kernel_rfl)
noncomputable def z0t3 (l : List GItem) : Option (List GItem) := @gd ((l.length ≤ 1048576)) (Classical.propDecidable _) _ (some l)
theorem z1md (l : List GItem) (h : (l.length ≤ 1048576)) : z0t3 l = some l := gdC h
theorem z1qr (l : List GItem) (h : (l.length ≤ 1048576)) : z0vx l = some l := by
  refine (z001 (toOk h)).trans ?_
  have hl := h
  refine z1lo (f := z045 l z0ik) (by omega) (fun n i acc hi ha => ?_) (fun n acc => ?_)
  · rw [z045, if_pos (decide_eq_true (Int.ofNat_lt.2 hi)), z02e hi, Option.bind_some, z1tk _ trivial, Option.bind_some, z02e (by omega), Option.bind_some, z001 (ok64i hi h)]; rfl
  · rw [z045, if_neg (by simp)]; rfl
noncomputable def z148 : Con := ⟨103, [.v (.sl (.s .item)) false], [((.sl (.s .item)), true)], [], fun x => z0t3 x.1⟩
theorem z1ps : z148.Ok Tryz.prog := z00q z1e8 fun x z hz => by
  obtain ⟨h, e⟩ := z00a hz
  subst e
  exact z1qr _ h
def z15g (x : GDid) : Option GDid := some x
def z13t : Con := ⟨177, [.v (.s .did) false], [((.s .did), true)], [], fun x => z15g x.1⟩
def z1mt : Fs := ⟨[], []⟩
theorem z1nu : z1mt.Ok Tryz.prog := fs0
theorem z1p4 : z13t.Ok Tryz.prog := fn_ok (k := z13t) (fn := Tryz.f177) (W := []) (H := []) Tryz.func177 z1nu trivial rfl rfl (fun av x => by kernel_rfl)
noncomputable def z15v (x : GDid) : Option GDid := @gd (True) (Classical.propDecidable _) _ (some x)
theorem z1wz (x : GDid) (h : True) : z15v x = some x := gdC h
theorem z1za (x : GDid) (h : True) : z15g x = some x := by
  rfl
noncomputable def z1j7 : Con := ⟨177, [.v (.s .did) false], [((.s .did), true)], [], fun x => z15v x.1⟩
theorem z1y9 : z1j7.Ok Tryz.prog := z00q z1p4 fun x z hz => by
  obtain ⟨h, e⟩ := z00a hz
  subst e
  exact z1za _ h
def z0mf (l0_1 : List GDid) : Option (List GDid) := some l0_1
def z05m (l : List GDid) (kx0_0 : List GDid → Option (List GDid)) : Nat → Int → List GDid → Option (List GDid)
  | 0, _, _ => none
  | n0 + 1, s0_0, l0_1 => if decide (s0_0 < (l.length : Int)) = true then ((getI l s0_0).bind fun x3 => ((z15v x3).bind fun x4 => ((getI l0_1 s0_0).bind fun x5 => (gd (ok64 (s0_0 + 1)) ((z05m l kx0_0 n0) (s0_0 + 1) (l0_1.set s0_0.toNat x4)))))) else (kx0_0 l0_1)
def z0zn (l : List GDid) : Option (List GDid) := gd ((0 : Int) ≤ (l.length : Int) ∧ (l.length : Int) ≤ (1000000000 : Int)) (z05m l z0mf FUEL 0 (List.replicate (l.length : Int).toNat GDid.zero))
def z061 : Con := ⟨104, [.v (.sl (.s .did)) false], [((.sl (.s .did)), true)], [], fun x => z0zn x.1⟩
def z1gc : Fs := ⟨[z1j7], []⟩
theorem z0yi : z1gc.Ok Tryz.prog := (fsK z1y9 fs0)
def z0qu : Tmpl := ⟨[(0, .c (.s (.s .did))), (3, .c (.ref 7)), (4, .c .i)], [(7, .arr (.s .did) true)]⟩
def z0o1 : Tmpl := ⟨[(3, .c (.ref 7))], [(7, .arr (.s .did) true)]⟩
def z177 (av : AV) (x : HP z061.ps) (n : Nat) (v : z0qu.den) (K : Ks (CR z061)) : Option (CR z061) := z05m v.1.1 (fun l0_1 => z0o1.at none (((), ()), (l0_1, ())) (K (.exit 0))) n v.1.2.2.1 v.2.1
def z0ph (av : AV) (x : HP z061.ps) : Hdl (CR z061) := hnd [] z0qu (z177 av x)
theorem z18n : LP z061 Tryz.f104 [0] z0ph := lp_ok (W := []) (H := []) (xs := [z0o1]) z0yi trivial rfl (fun av x v K => by kernel_rfl) (fun av x n v K => by kernel_rfl)
theorem z1k2 : z061.Ok Tryz.prog := fn_ok (k := z061) (fn := Tryz.f104) (W := []) (H := [z0ph]) Tryz.func104 z0yi ⟨z18n, trivial⟩ rfl rfl (fun av x => by kernel_rfl)
noncomputable def z0xz (l : List GDid) : Option (List GDid) := @gd ((l.length ≤ 1048576)) (Classical.propDecidable _) _ (some l)
theorem z1tj (l : List GDid) (h : (l.length ≤ 1048576)) : z0xz l = some l := gdC h
theorem z1vm (l : List GDid) (h : (l.length ≤ 1048576)) : z0zn l = some l := by
  refine (z001 (toOk h)).trans ?_
  have hl := h
  refine z1lo (f := z05m l z0mf) (by omega) (fun n i acc hi ha => ?_) (fun n acc => ?_)
  · rw [z05m, if_pos (decide_eq_true (Int.ofNat_lt.2 hi)), z02e hi, Option.bind_some, z1wz _ trivial, Option.bind_some, z02e (by omega), Option.bind_some, z001 (ok64i hi h)]; rfl
  · rw [z05m, if_neg (by simp)]; rfl
noncomputable def z1ac : Con := ⟨104, [.v (.sl (.s .did)) false], [((.sl (.s .did)), true)], [], fun x => z0xz x.1⟩
theorem z1up : z1ac.Ok Tryz.prog := z00q z1k2 fun x z hz => by
  obtain ⟨h, e⟩ := z00a hz
  subst e
  exact z1vm _ h
def z0mk (x : GNode) : Option GNode := (z0mx x.if_).bind fun x1 => ((z0hq x.stone).bind fun x2 => (some (GNode.mk x1 x.yes x.no x.ans x2)))
def z0ze : Con := ⟨135, [.v (.s .node) false], [((.s .node), true)], [], fun x => z0mk x.1⟩
def z1gi : Fs := ⟨[z0vh, z0xf], []⟩
theorem z1hy : z1gi.Ok Tryz.prog := (fsK z166 (fsK z167 fs0))
theorem z1k8 : z0ze.Ok Tryz.prog := fn_ok (k := z0ze) (fn := Tryz.f135) (W := []) (H := []) Tryz.func135 z1hy trivial rfl rfl (fun av x => by kernel_rfl)
noncomputable def z0y5 (x : GNode) : Option GNode := @gd ((GNode.lens (· ≤ 1048576) x)) (Classical.propDecidable _) _ (some x)
theorem z1tp (x : GNode) (h : (GNode.lens (· ≤ 1048576) x)) : z0y5 x = some x := gdC h
theorem z1vs (x : GNode) (h : (GNode.lens (· ≤ 1048576) x)) : z0mk x = some x := by
  rw [z0mk, z12g _ trivial, Option.bind_some, z0ry _ h, Option.bind_some]
noncomputable def z1ai : Con := ⟨135, [.v (.s .node) false], [((.s .node), true)], [], fun x => z0y5 x.1⟩
theorem z1uv : z1ai.Ok Tryz.prog := z00q z1k8 fun x z hz => by
  obtain ⟨h, e⟩ := z00a hz
  subst e
  exact z1vs _ h
def z0in (l0_1 : List GNode) : Option (List GNode) := some l0_1
def z048 (l : List GNode) (kx0_0 : List GNode → Option (List GNode)) : Nat → Int → List GNode → Option (List GNode)
  | 0, _, _ => none
  | n0 + 1, s0_0, l0_1 => if decide (s0_0 < (l.length : Int)) = true then ((getI l s0_0).bind fun x3 => ((z0y5 x3).bind fun x4 => ((getI l0_1 s0_0).bind fun x5 => (gd (ok64 (s0_0 + 1)) ((z048 l kx0_0 n0) (s0_0 + 1) (l0_1.set s0_0.toNat x4)))))) else (kx0_0 l0_1)
def z0w0 (l : List GNode) : Option (List GNode) := gd ((0 : Int) ≤ (l.length : Int) ∧ (l.length : Int) ≤ (1000000000 : Int)) (z048 l z0in FUEL 0 (List.replicate (l.length : Int).toNat GNode.zero))
def z04o : Con := ⟨63, [.v (.sl (.s .node)) false], [((.sl (.s .node)), true)], [], fun x => z0w0 x.1⟩
def z1bv : Fs := ⟨[z1ai], []⟩
theorem z0uc : z1bv.Ok Tryz.prog := (fsK z1uv fs0)
def z0na : Tmpl := ⟨[(0, .c (.s (.s .node))), (3, .c (.ref 7)), (4, .c .i)], [(7, .arr (.s .node) true)]⟩
def z0ja : Tmpl := ⟨[(3, .c (.ref 7))], [(7, .arr (.s .node) true)]⟩
def z11r (av : AV) (x : HP z04o.ps) (n : Nat) (v : z0na.den) (K : Ks (CR z04o)) : Option (CR z04o) := z048 v.1.1 (fun l0_1 => z0ja.at none (((), ()), (l0_1, ())) (K (.exit 0))) n v.1.2.2.1 v.2.1
def z0kw (av : AV) (x : HP z04o.ps) : Hdl (CR z04o) := hnd [] z0na (z11r av x)
theorem z14n : LP z04o Tryz.f63 [0] z0kw := lp_ok (W := []) (H := []) (xs := [z0ja]) z0uc trivial rfl (fun av x v K => by kernel_rfl) (fun av x n v K => by kernel_rfl)
theorem z1ec : z04o.Ok Tryz.prog := fn_ok (k := z04o) (fn := Tryz.f63) (W := []) (H := [z0kw]) Tryz.func63 z0uc ⟨z14n, trivial⟩ rfl rfl (fun av x => by kernel_rfl)
noncomputable def z0t6 (l : List GNode) : Option (List GNode) := @gd ((l.length ≤ 1048576) ∧ (∀ y ∈ l, GNode.lens (· ≤ 1048576) y)) (Classical.propDecidable _) _ (some l)
theorem z1mh (l : List GNode) (h : (l.length ≤ 1048576) ∧ (∀ y ∈ l, GNode.lens (· ≤ 1048576) y)) : z0t6 l = some l := gdC h
theorem z1qv (l : List GNode) (h : (l.length ≤ 1048576) ∧ (∀ y ∈ l, GNode.lens (· ≤ 1048576) y)) : z0w0 l = some l := by
  refine (z001 (toOk h.1)).trans ?_
  have hl := h.1
  refine z1lo (f := z048 l z0in) (by omega) (fun n i acc hi ha => ?_) (fun n acc => ?_)
  · rw [z048, if_pos (decide_eq_true (Int.ofNat_lt.2 hi)), z02e hi, Option.bind_some, z1tp _ (h.2 _ (List.getElem_mem _)), Option.bind_some, z02e (by omega), Option.bind_some, z001 (ok64i hi h.1)]; rfl
  · rw [z048, if_neg (by simp)]; rfl
noncomputable def z14c : Con := ⟨63, [.v (.sl (.s .node)) false], [((.sl (.s .node)), true)], [], fun x => z0t6 x.1⟩
theorem z1pw : z14c.Ok Tryz.prog := z00q z1ec fun x z hz => by
  obtain ⟨h, e⟩ := z00a hz
  subst e
  exact z1qv _ h
def z0me (x : GCase) : Option GCase := (z0hq x.marks).bind fun x1 => ((z0t3 x.busy).bind fun x2 => ((z0hq x.data).bind fun x3 => ((z0xz x.did).bind fun x4 => (some (GCase.mk x.state x1 x2 x3 x4)))))
def z0za : Con := ⟨38, [.v (.s .kase) false], [((.s .kase), true)], [], fun x => z0me x.1⟩
def z1gb : Fs := ⟨[z0xf, z148, z1ac], []⟩
theorem z1ht : z1gb.Ok Tryz.prog := (fsK z167 (fsK z1ps (fsK z1up fs0)))
theorem z1k1 : z0za.Ok Tryz.prog := fn_ok (k := z0za) (fn := Tryz.f38) (W := []) (H := []) Tryz.func38 z1ht trivial rfl rfl (fun av x => by kernel_rfl)
noncomputable def z0xy (x : GCase) : Option GCase := @gd ((GCase.lens (· ≤ 1048576) x)) (Classical.propDecidable _) _ (some x)
theorem z1ti (x : GCase) (h : (GCase.lens (· ≤ 1048576) x)) : z0xy x = some x := gdC h
theorem z1vl (x : GCase) (h : (GCase.lens (· ≤ 1048576) x)) : z0me x = some x := by
  rw [z0me, z0ry _ h.1, Option.bind_some, z1md _ h.2.1, Option.bind_some, z0ry _ h.2.2.1, Option.bind_some, z1tj _ h.2.2.2, Option.bind_some]
noncomputable def z1ab : Con := ⟨38, [.v (.s .kase) false], [((.s .kase), true)], [], fun x => z0xy x.1⟩
theorem z1uo : z1ab.Ok Tryz.prog := z00q z1k1 fun x z hz => by
  obtain ⟨h, e⟩ := z00a hz
  subst e
  exact z1vl _ h
def z0ss (x : GRun) : Option GRun := (z0xy x.case).bind fun x1 => (some (GRun.mk x.net x1))
def z13v : Con := ⟨136, [.v (.s .run) false], [((.s .run), true)], [], fun x => z0ss x.1⟩
def z1mv : Fs := ⟨[z1ab], []⟩
theorem z1nw : z1mv.Ok Tryz.prog := (fsK z1uo fs0)
theorem z1p6 : z13v.Ok Tryz.prog := fn_ok (k := z13v) (fn := Tryz.f136) (W := []) (H := []) Tryz.func136 z1nw trivial rfl rfl (fun av x => by kernel_rfl)
noncomputable def z15w (x : GRun) : Option GRun := @gd ((GRun.lens (· ≤ 1048576) x)) (Classical.propDecidable _) _ (some x)
theorem z1x1 (x : GRun) (h : (GRun.lens (· ≤ 1048576) x)) : z15w x = some x := gdC h
theorem z1zc (x : GRun) (h : (GRun.lens (· ≤ 1048576) x)) : z0ss x = some x := by
  rw [z0ss, z1ti _ h, Option.bind_some]
noncomputable def z1j9 : Con := ⟨136, [.v (.s .run) false], [((.s .run), true)], [], fun x => z15w x.1⟩
theorem z1yb : z1j9.Ok Tryz.prog := z00q z1p6 fun x z hz => by
  obtain ⟨h, e⟩ := z00a hz
  subst e
  exact z1zc _ h
def z0mg (l0_1 : List GRun) : Option (List GRun) := some l0_1
def z05n (l : List GRun) (kx0_0 : List GRun → Option (List GRun)) : Nat → Int → List GRun → Option (List GRun)
  | 0, _, _ => none
  | n0 + 1, s0_0, l0_1 => if decide (s0_0 < (l.length : Int)) = true then ((getI l s0_0).bind fun x3 => ((z15w x3).bind fun x4 => ((getI l0_1 s0_0).bind fun x5 => (gd (ok64 (s0_0 + 1)) ((z05n l kx0_0 n0) (s0_0 + 1) (l0_1.set s0_0.toNat x4)))))) else (kx0_0 l0_1)
def z0zp (l : List GRun) : Option (List GRun) := gd ((0 : Int) ≤ (l.length : Int) ∧ (l.length : Int) ≤ (1000000000 : Int)) (z05n l z0mg FUEL 0 (List.replicate (l.length : Int).toNat GRun.zero))
def z062 : Con := ⟨64, [.v (.sl (.s .run)) false], [((.sl (.s .run)), true)], [], fun x => z0zp x.1⟩
def z1ge : Fs := ⟨[z1j9], []⟩
theorem z0yj : z1ge.Ok Tryz.prog := (fsK z1yb fs0)
def z0qv : Tmpl := ⟨[(0, .c (.s (.s .run))), (3, .c (.ref 7)), (4, .c .i)], [(7, .arr (.s .run) true)]⟩
def z0o2 : Tmpl := ⟨[(3, .c (.ref 7))], [(7, .arr (.s .run) true)]⟩
def z178 (av : AV) (x : HP z062.ps) (n : Nat) (v : z0qv.den) (K : Ks (CR z062)) : Option (CR z062) := z05n v.1.1 (fun l0_1 => z0o2.at none (((), ()), (l0_1, ())) (K (.exit 0))) n v.1.2.2.1 v.2.1
def z0pi (av : AV) (x : HP z062.ps) : Hdl (CR z062) := hnd [] z0qv (z178 av x)
theorem z18o : LP z062 Tryz.f64 [0] z0pi := lp_ok (W := []) (H := []) (xs := [z0o2]) z0yj trivial rfl (fun av x v K => by kernel_rfl) (fun av x n v K => by kernel_rfl)
theorem z1k4 : z062.Ok Tryz.prog := fn_ok (k := z062) (fn := Tryz.f64) (W := []) (H := [z0pi]) Tryz.func64 z0yj ⟨z18o, trivial⟩ rfl rfl (fun av x => by kernel_rfl)
noncomputable def z0y1 (l : List GRun) : Option (List GRun) := @gd ((l.length ≤ 1048576) ∧ (∀ y ∈ l, GRun.lens (· ≤ 1048576) y)) (Classical.propDecidable _) _ (some l)
theorem z1tl (l : List GRun) (h : (l.length ≤ 1048576) ∧ (∀ y ∈ l, GRun.lens (· ≤ 1048576) y)) : z0y1 l = some l := gdC h
theorem z1vo (l : List GRun) (h : (l.length ≤ 1048576) ∧ (∀ y ∈ l, GRun.lens (· ≤ 1048576) y)) : z0zp l = some l := by
  refine (z001 (toOk h.1)).trans ?_
  have hl := h.1
  refine z1lo (f := z05n l z0mg) (by omega) (fun n i acc hi ha => ?_) (fun n acc => ?_)
  · rw [z05n, if_pos (decide_eq_true (Int.ofNat_lt.2 hi)), z02e hi, Option.bind_some, z1x1 _ (h.2 _ (List.getElem_mem _)), Option.bind_some, z02e (by omega), Option.bind_some, z001 (ok64i hi h.1)]; rfl
  · rw [z05n, if_neg (by simp)]; rfl
noncomputable def z1ae : Con := ⟨64, [.v (.sl (.s .run)) false], [((.sl (.s .run)), true)], [], fun x => z0y1 x.1⟩
theorem z1ur : z1ae.Ok Tryz.prog := z00q z1k4 fun x z hz => by
  obtain ⟨h, e⟩ := z00a hz
  subst e
  exact z1vo _ h
def z0sr (x : GReq) : Option GReq := (z0hq x.data).bind fun x1 => ((z0mx x.if_).bind fun x2 => (some (GReq.mk x.kind x.who x.case x.task x.var x.num x1 x2 x.ans)))
def z13u : Con := ⟨15, [.v (.s .req) false], [((.s .req), true)], [], fun x => z0sr x.1⟩
def z1mu : Fs := ⟨[z0xf, z0vh], []⟩
theorem z1nv : z1mu.Ok Tryz.prog := (fsK z167 (fsK z166 fs0))
theorem z1p5 : z13u.Ok Tryz.prog := fn_ok (k := z13u) (fn := Tryz.f15) (W := []) (H := []) Tryz.func15 z1nv trivial rfl rfl (fun av x => by kernel_rfl)
noncomputable def z0gf (x : GReq) : Option GReq := @gd ((GReq.lens (· ≤ 1048576) x)) (Classical.propDecidable _) _ (some x)
theorem z1x0 (x : GReq) (h : (GReq.lens (· ≤ 1048576) x)) : z0gf x = some x := gdC h
theorem z1zb (x : GReq) (h : (GReq.lens (· ≤ 1048576) x)) : z0sr x = some x := by
  rw [z0sr, z0ry _ h, Option.bind_some, z12g _ trivial, Option.bind_some]
noncomputable def z1j8 : Con := ⟨15, [.v (.s .req) false], [((.s .req), true)], [], fun x => z0gf x.1⟩
theorem z1ya : z1j8.Ok Tryz.prog := z00q z1p5 fun x z hz => by
  obtain ⟨h, e⟩ := z00a hz
  subst e
  exact z1zb _ h
def z0ha (x : GHouse) : Option GHouse := (z0y3 x.nets).bind fun x1 => ((z0hq x.people).bind fun x2 => ((z0t6 x.tree).bind fun x3 => ((z0y1 x.runs).bind fun x4 => (some (GHouse.mk x1 x2 x3 x4)))))
def z0vf : Con := ⟨14, [.v (.s .house) false], [((.s .house), true)], [], fun x => z0ha x.1⟩
def z1bs : Fs := ⟨[z1ag, z0xf, z14c, z1ae], []⟩
theorem z1cw : z1bs.Ok Tryz.prog := (fsK z1ut (fsK z167 (fsK z1pw (fsK z1ur fs0))))
theorem z1e9 : z0vf.Ok Tryz.prog := fn_ok (k := z0vf) (fn := Tryz.f14) (W := []) (H := []) Tryz.func14 z1cw trivial rfl rfl (fun av x => by kernel_rfl)
noncomputable def z0b6 (x : GHouse) : Option GHouse := @gd ((GHouse.lens (· ≤ 1048576) x)) (Classical.propDecidable _) _ (some x)
theorem z1me (x : GHouse) (h : (GHouse.lens (· ≤ 1048576) x)) : z0b6 x = some x := gdC h
theorem z1qs (x : GHouse) (h : (GHouse.lens (· ≤ 1048576) x)) : z0ha x = some x := by
  rw [z0ha, z1tn _ ⟨h.1.1, h.1.2⟩, Option.bind_some, z0ry _ h.2.1, Option.bind_some, z1mh _ ⟨h.2.2.1.1, h.2.2.1.2⟩, Option.bind_some, z1tl _ ⟨h.2.2.2.1, h.2.2.2.2⟩, Option.bind_some]
noncomputable def z149 : Con := ⟨14, [.v (.s .house) false], [((.s .house), true)], [], fun x => z0b6 x.1⟩
theorem z1pt : z149.Ok Tryz.prog := z00q z1e9 fun x z hz => by
  obtain ⟨h, e⟩ := z00a hz
  subst e
  exact z1qs _ h
def z0zi  : Option Bool := some true
def z09a (a : List Int) (b : List Int) (kx0_0 : Option Bool) : Nat → Int → Option Bool
  | 0, _ => none
  | n0 + 1, s0_0 => if decide (s0_0 < (a.length : Int)) = true then ((getI a s0_0).bind fun x3 => ((getI b s0_0).bind fun x4 => (if decide (x3 = x4) = true then (gd (ok64 (s0_0 + 1)) ((z09a a b kx0_0 n0) (s0_0 + 1))) else (some false)))) else (kx0_0)
def z1je (a : List Int) (b : List Int) : Option Bool := if decide ((a.length : Int) = (b.length : Int)) = true then (z09a a b z0zi FUEL 0) else (some false)
def z0bq : Con := ⟨42, [.v (.sl .I) false, .v (.sl .I) false], [(.B, true)], [], fun x => z1je x.1 x.2.1⟩
def z1xa : Fs := ⟨[], []⟩
theorem z1hl : z1xa.Ok Tryz.prog := fs0
def z16q : Tmpl := ⟨[(0, .c (.s .I)), (1, .c (.s .I)), (5, .c .i)], []⟩
def z106 : Tmpl := ⟨[], []⟩
def z1lt (av : AV) (x : HP z0bq.ps) (n : Nat) (v : z16q.den) (K : Ks (CR z0bq)) : Option (CR z0bq) := z09a v.1.1 v.1.2.1 (z106.at none ((), ()) (K (.exit 0))) n v.1.2.2.1
def z135 (av : AV) (x : HP z0bq.ps) : Hdl (CR z0bq) := hnd [] z16q (z1lt av x)
theorem z1om : LP z0bq Tryz.f42 [0] z135 := lp_ok (W := []) (H := []) (xs := [z106]) z1hl trivial rfl (fun av x v K => by kernel_rfl) (fun av x n v K => by kernel_rfl)
theorem z1xz : z0bq.Ok Tryz.prog := fn_ok (k := z0bq) (fn := Tryz.f42) (W := []) (H := [z135]) Tryz.func42 z1hl ⟨z1om, trivial⟩ rfl rfl (fun av x => by kernel_rfl)
noncomputable def z0hb (a : List Int) (b : List Int) : Option Bool := @gd ((a.length ≤ 1048576)) (Classical.propDecidable _) _ (some (decide (a = b)))
theorem z0rw (a : List Int) (b : List Int) (h : (a.length ≤ 1048576)) : z0hb a b = some (decide (a = b)) := gdC h
theorem z24l (a : List Int) (b : List Int) (h : (a.length ≤ 1048576)) : z1je a b = some (decide (a = b)) := by
  have hl := h
  refine z1fv fun hab => z1fu (f := z09a a b z0zi) (by omega) hab (fun n i hi hj => ?_) (fun n => ?_)
  · rw [z09a, if_pos (decide_eq_true (Int.ofNat_lt.2 hi)), z02e hi, Option.bind_some, z02e hj, Option.bind_some, z001 (ok64i hi h)]; rfl
  · rw [z09a, if_neg (by simp)]; rfl
noncomputable def z0xb : Con := ⟨42, [.v (.sl .I) false, .v (.sl .I) false], [(.B, true)], [], fun x => z0hb x.1 x.2.1⟩
theorem z162 : z0xb.Ok Tryz.prog := z00q z1xz fun x z hz => by
  obtain ⟨h, e⟩ := z00a hz
  subst e
  exact z24l _ _ h
def z0sm (x : GAsk) (y : GAsk) : Option Bool := if decide (x.op = y.op) = true then (if decide (x.var = y.var) = true then (if decide (x.k = y.k) = true then (some true) else (some false)) else (some false)) else (some false)
def z13o : Con := ⟨71, [.v (.s .ask) false, .v (.s .ask) false], [(.B, true)], [], fun x => z0sm x.1 x.2.1⟩
def z1mo : Fs := ⟨[], []⟩
theorem z1np : z1mo.Ok Tryz.prog := fs0
theorem z1oz : z13o.Ok Tryz.prog := fn_ok (k := z13o) (fn := Tryz.f71) (W := []) (H := []) Tryz.func71 z1np trivial rfl rfl (fun av x => by kernel_rfl)
noncomputable def z0ml (x : GAsk) (y : GAsk) : Option Bool := @gd (True) (Classical.propDecidable _) _ (some (decide (x = y)))
theorem z12f (x : GAsk) (y : GAsk) (h : True) : z0ml x y = some (decide (x = y)) := gdC h
theorem z1z5 (x : GAsk) (y : GAsk) (h : True) : z0sm x y = some (decide (x = y)) := by
  unfold z0sm
  refine (z00h (z00h (z00h z12i))).trans (congrArg some (decide_eq_decide.2 ⟨fun ⟨h0, h1, h2, _⟩ => ?_, fun h => by subst h; simp⟩))
  cases x; cases y; simp_all
noncomputable def z0vg : Con := ⟨71, [.v (.s .ask) false, .v (.s .ask) false], [(.B, true)], [], fun x => z0ml x.1 x.2.1⟩
theorem z161 : z0vg.Ok Tryz.prog := z00q z1oz fun x z hz => by
  obtain ⟨h, e⟩ := z00a hz
  subst e
  exact z1z5 _ _ h
def z0m5 (x : GFlow) (y : GFlow) : Option Bool := if decide (x.to = y.to) = true then ((z0ml x.if_ y.if_).bind fun x2 => (if x2 = true then (some true) else (some false))) else (some false)
def z0z3 : Con := ⟨233, [.v (.s .flow) false, .v (.s .flow) false], [(.B, true)], [], fun x => z0m5 x.1 x.2.1⟩
def z1g1 : Fs := ⟨[z0vg], []⟩
theorem z1hm : z1g1.Ok Tryz.prog := (fsK z161 fs0)
theorem z1jr : z0z3.Ok Tryz.prog := fn_ok (k := z0z3) (fn := Tryz.f233) (W := []) (H := []) Tryz.func233 z1hm trivial rfl rfl (fun av x => by kernel_rfl)
noncomputable def z0xo (x : GFlow) (y : GFlow) : Option Bool := @gd (True) (Classical.propDecidable _) _ (some (decide (x = y)))
theorem z1t8 (x : GFlow) (y : GFlow) (h : True) : z0xo x y = some (decide (x = y)) := gdC h
theorem z1vb (x : GFlow) (y : GFlow) (h : True) : z0m5 x y = some (decide (x = y)) := by
  rw [z0m5, z12f _ _ trivial, Option.bind_some]
  refine (z00h (z00h z12i)).trans (congrArg some (decide_eq_decide.2 ⟨fun ⟨h0, h1, _⟩ => ?_, fun h => by subst h; simp⟩))
  cases x; cases y; simp_all
noncomputable def z1a1 : Con := ⟨233, [.v (.s .flow) false, .v (.s .flow) false], [(.B, true)], [], fun x => z0xo x.1 x.2.1⟩
theorem z1uc : z1a1.Ok Tryz.prog := z00q z1jr fun x z hz => by
  obtain ⟨h, e⟩ := z00a hz
  subst e
  exact z1vb _ _ h
def z0if  : Option Bool := some true
def z040 (a : List GFlow) (b : List GFlow) (kx0_0 : Option Bool) : Nat → Int → Option Bool
  | 0, _ => none
  | n0 + 1, s0_0 => if decide (s0_0 < (a.length : Int)) = true then ((getI a s0_0).bind fun x3 => ((getI b s0_0).bind fun x4 => ((z0xo x3 x4).bind fun x5 => (if x5 = true then (gd (ok64 (s0_0 + 1)) ((z040 a b kx0_0 n0) (s0_0 + 1))) else (some false))))) else (kx0_0)
def z0vq (a : List GFlow) (b : List GFlow) : Option Bool := if decide ((a.length : Int) = (b.length : Int)) = true then (z040 a b z0if FUEL 0) else (some false)
def z04g : Con := ⟨220, [.v (.sl (.s .flow)) false, .v (.sl (.s .flow)) false], [(.B, true)], [], fun x => z0vq x.1 x.2.1⟩
def z1bj : Fs := ⟨[z1a1], []⟩
theorem z0u4 : z1bj.Ok Tryz.prog := (fsK z1uc fs0)
def z0n2 : Tmpl := ⟨[(0, .c (.s (.s .flow))), (1, .c (.s (.s .flow))), (5, .c .i)], []⟩
def z0j2 : Tmpl := ⟨[], []⟩
def z11j (av : AV) (x : HP z04g.ps) (n : Nat) (v : z0n2.den) (K : Ks (CR z04g)) : Option (CR z04g) := z040 v.1.1 v.1.2.1 (z0j2.at none ((), ()) (K (.exit 0))) n v.1.2.2.1
def z0ko (av : AV) (x : HP z04g.ps) : Hdl (CR z04g) := hnd [] z0n2 (z11j av x)
theorem z14f : LP z04g Tryz.f220 [0] z0ko := lp_ok (W := []) (H := []) (xs := [z0j2]) z0u4 trivial rfl (fun av x v K => by kernel_rfl) (fun av x n v K => by kernel_rfl)
theorem z1e0 : z04g.Ok Tryz.prog := fn_ok (k := z04g) (fn := Tryz.f220) (W := []) (H := [z0ko]) Tryz.func220 z0u4 ⟨z14f, trivial⟩ rfl rfl (fun av x => by kernel_rfl)
noncomputable def z0sv (a : List GFlow) (b : List GFlow) : Option Bool := @gd ((a.length ≤ 1048576)) (Classical.propDecidable _) _ (some (decide (a = b)))
theorem z1m5 (a : List GFlow) (b : List GFlow) (h : (a.length ≤ 1048576)) : z0sv a b = some (decide (a = b)) := gdC h
theorem z1qj (a : List GFlow) (b : List GFlow) (h : (a.length ≤ 1048576)) : z0vq a b = some (decide (a = b)) := by
  have hl := h
  refine z1fv fun hab => z1fu (f := z040 a b z0if) (by omega) hab (fun n i hi hj => ?_) (fun n => ?_)
  · rw [z040, if_pos (decide_eq_true (Int.ofNat_lt.2 hi)), z02e hi, Option.bind_some, z02e hj, Option.bind_some, z1t8 _ _ trivial, Option.bind_some, z001 (ok64i hi h)]; rfl
  · rw [z040, if_neg (by simp)]; rfl
noncomputable def z140 : Con := ⟨220, [.v (.sl (.s .flow)) false, .v (.sl (.s .flow)) false], [(.B, true)], [], fun x => z0sv x.1 x.2.1⟩
theorem z1pb : z140.Ok Tryz.prog := z00q z1e0 fun x z hz => by
  obtain ⟨h, e⟩ := z00a hz
  subst e
  exact z1qj _ _ h
def z0m7 (x : GTask) (y : GTask) : Option Bool := if decide (x.join = y.join) = true then (if decide (x.split = y.split) = true then ((z0hb x.in_ y.in_).bind fun x3 => (if x3 = true then ((z0sv x.out y.out).bind fun x5 => (if x5 = true then ((z0hb x.clear y.clear).bind fun x7 => (if x7 = true then (if decide (x.role = y.role) = true then (if decide (x.apart = y.apart) = true then (if decide (x.all = y.all) = true then (if decide (x.need = y.need) = true then (some true) else (some false)) else (some false)) else (some false)) else (some false)) else (some false))) else (some false))) else (some false))) else (some false)) else (some false)
def z0z4 : Con := ⟨188, [.v (.s .task) false, .v (.s .task) false], [(.B, true)], [], fun x => z0m7 x.1 x.2.1⟩
def z1g3 : Fs := ⟨[z0xb, z140], []⟩
theorem z1hn : z1g3.Ok Tryz.prog := (fsK z162 (fsK z1pb fs0))
theorem z1jt : z0z4.Ok Tryz.prog := fn_ok (k := z0z4) (fn := Tryz.f188) (W := []) (H := []) Tryz.func188 z1hn trivial rfl rfl (fun av x => by kernel_rfl)
noncomputable def z0xq (x : GTask) (y : GTask) : Option Bool := @gd ((GTask.lens (· ≤ 1048576) x) ∧ (GTask.lens (· ≤ 1048576) y)) (Classical.propDecidable _) _ (some (decide (x = y)))
theorem z1ta (x : GTask) (y : GTask) (h : (GTask.lens (· ≤ 1048576) x) ∧ (GTask.lens (· ≤ 1048576) y)) : z0xq x y = some (decide (x = y)) := gdC h
theorem z1vd (x : GTask) (y : GTask) (h : (GTask.lens (· ≤ 1048576) x) ∧ (GTask.lens (· ≤ 1048576) y)) : z0m7 x y = some (decide (x = y)) := by
  rw [z0m7, z0rw _ _ h.1.1, Option.bind_some, z1m5 _ _ h.1.2.1, Option.bind_some, z0rw _ _ h.1.2.2, Option.bind_some]
  refine (z00h (z00h (z00h (z00h (z00h (z00h (z00h (z00h (z00h z12i))))))))).trans (congrArg some (decide_eq_decide.2 ⟨fun ⟨h0, h1, h2, h3, h4, h5, h6, h7, h8, _⟩ => ?_, fun h => by subst h; simp⟩))
  cases x; cases y; simp_all
noncomputable def z1a3 : Con := ⟨188, [.v (.s .task) false, .v (.s .task) false], [(.B, true)], [], fun x => z0xq x.1 x.2.1⟩
theorem z1ue : z1a3.Ok Tryz.prog := z00q z1jt fun x z hz => by
  obtain ⟨h, e⟩ := z00a hz
  subst e
  exact z1vd _ _ h
def z0ig  : Option Bool := some true
def z041 (a : List GTask) (b : List GTask) (kx0_0 : Option Bool) : Nat → Int → Option Bool
  | 0, _ => none
  | n0 + 1, s0_0 => if decide (s0_0 < (a.length : Int)) = true then ((getI a s0_0).bind fun x3 => ((getI b s0_0).bind fun x4 => ((z0xq x3 x4).bind fun x5 => (if x5 = true then (gd (ok64 (s0_0 + 1)) ((z041 a b kx0_0 n0) (s0_0 + 1))) else (some false))))) else (kx0_0)
def z0vr (a : List GTask) (b : List GTask) : Option Bool := if decide ((a.length : Int) = (b.length : Int)) = true then (z041 a b z0ig FUEL 0) else (some false)
def z04h : Con := ⟨113, [.v (.sl (.s .task)) false, .v (.sl (.s .task)) false], [(.B, true)], [], fun x => z0vr x.1 x.2.1⟩
def z1bk : Fs := ⟨[z1a3], []⟩
theorem z0u5 : z1bk.Ok Tryz.prog := (fsK z1ue fs0)
def z0n3 : Tmpl := ⟨[(0, .c (.s (.s .task))), (1, .c (.s (.s .task))), (5, .c .i)], []⟩
def z0j3 : Tmpl := ⟨[], []⟩
def z11k (av : AV) (x : HP z04h.ps) (n : Nat) (v : z0n3.den) (K : Ks (CR z04h)) : Option (CR z04h) := z041 v.1.1 v.1.2.1 (z0j3.at none ((), ()) (K (.exit 0))) n v.1.2.2.1
def z0kp (av : AV) (x : HP z04h.ps) : Hdl (CR z04h) := hnd [] z0n3 (z11k av x)
theorem z14g : LP z04h Tryz.f113 [0] z0kp := lp_ok (W := []) (H := []) (xs := [z0j3]) z0u5 trivial rfl (fun av x v K => by kernel_rfl) (fun av x n v K => by kernel_rfl)
theorem z1e1 : z04h.Ok Tryz.prog := fn_ok (k := z04h) (fn := Tryz.f113) (W := []) (H := [z0kp]) Tryz.func113 z0u5 ⟨z14g, trivial⟩ rfl rfl (fun av x => by kernel_rfl)
noncomputable def z0sw (a : List GTask) (b : List GTask) : Option Bool := @gd ((a.length ≤ 1048576) ∧ (∀ y ∈ a, GTask.lens (· ≤ 1048576) y) ∧ (∀ y ∈ b, GTask.lens (· ≤ 1048576) y)) (Classical.propDecidable _) _ (some (decide (a = b)))
theorem z1m6 (a : List GTask) (b : List GTask) (h : (a.length ≤ 1048576) ∧ (∀ y ∈ a, GTask.lens (· ≤ 1048576) y) ∧ (∀ y ∈ b, GTask.lens (· ≤ 1048576) y)) : z0sw a b = some (decide (a = b)) := gdC h
theorem z1qk (a : List GTask) (b : List GTask) (h : (a.length ≤ 1048576) ∧ (∀ y ∈ a, GTask.lens (· ≤ 1048576) y) ∧ (∀ y ∈ b, GTask.lens (· ≤ 1048576) y)) : z0vr a b = some (decide (a = b)) := by
  have hl := h.1
  refine z1fv fun hab => z1fu (f := z041 a b z0ig) (by omega) hab (fun n i hi hj => ?_) (fun n => ?_)
  · rw [z041, if_pos (decide_eq_true (Int.ofNat_lt.2 hi)), z02e hi, Option.bind_some, z02e hj, Option.bind_some, z1ta _ _ ⟨h.2.1 _ (List.getElem_mem _), h.2.2 _ (List.getElem_mem _)⟩, Option.bind_some, z001 (ok64i hi h.1)]; rfl
  · rw [z041, if_neg (by simp)]; rfl
noncomputable def z141 : Con := ⟨113, [.v (.sl (.s .task)) false, .v (.sl (.s .task)) false], [(.B, true)], [], fun x => z0sw x.1 x.2.1⟩
theorem z1pc : z141.Ok Tryz.prog := z00q z1e1 fun x z hz => by
  obtain ⟨h, e⟩ := z00a hz
  subst e
  exact z1qk _ _ h
def z0sn (x : GNet) (y : GNet) : Option Bool := if decide (x.places = y.places) = true then ((z0sw x.tasks y.tasks).bind fun x2 => (if x2 = true then (some true) else (some false))) else (some false)
def z13p : Con := ⟨41, [.v (.s .net) false, .v (.s .net) false], [(.B, true)], [], fun x => z0sn x.1 x.2.1⟩
def z1mp : Fs := ⟨[z141], []⟩
theorem z1nq : z1mp.Ok Tryz.prog := (fsK z1pc fs0)
theorem z1p0 : z13p.Ok Tryz.prog := fn_ok (k := z13p) (fn := Tryz.f41) (W := []) (H := []) Tryz.func41 z1nq trivial rfl rfl (fun av x => by kernel_rfl)
noncomputable def z15l (x : GNet) (y : GNet) : Option Bool := @gd ((GNet.lens (· ≤ 1048576) x) ∧ (GNet.lens (· ≤ 1048576) y)) (Classical.propDecidable _) _ (some (decide (x = y)))
theorem z1wv (x : GNet) (y : GNet) (h : (GNet.lens (· ≤ 1048576) x) ∧ (GNet.lens (· ≤ 1048576) y)) : z15l x y = some (decide (x = y)) := gdC h
theorem z1z6 (x : GNet) (y : GNet) (h : (GNet.lens (· ≤ 1048576) x) ∧ (GNet.lens (· ≤ 1048576) y)) : z0sn x y = some (decide (x = y)) := by
  rw [z0sn, z1m6 _ _ ⟨h.1.1, h.1.2, h.2.2⟩, Option.bind_some]
  refine (z00h (z00h z12i)).trans (congrArg some (decide_eq_decide.2 ⟨fun ⟨h0, h1, _⟩ => ?_, fun h => by subst h; simp⟩))
  cases x; cases y; simp_all
noncomputable def z1j3 : Con := ⟨41, [.v (.s .net) false, .v (.s .net) false], [(.B, true)], [], fun x => z15l x.1 x.2.1⟩
theorem z1y5 : z1j3.Ok Tryz.prog := z00q z1p0 fun x z hz => by
  obtain ⟨h, e⟩ := z00a hz
  subst e
  exact z1z6 _ _ h
def z0m6  : Option Bool := some true
def z05j (a : List GNet) (b : List GNet) (kx0_0 : Option Bool) : Nat → Int → Option Bool
  | 0, _ => none
  | n0 + 1, s0_0 => if decide (s0_0 < (a.length : Int)) = true then ((getI a s0_0).bind fun x3 => ((getI b s0_0).bind fun x4 => ((z15l x3 x4).bind fun x5 => (if x5 = true then (gd (ok64 (s0_0 + 1)) ((z05j a b kx0_0 n0) (s0_0 + 1))) else (some false))))) else (kx0_0)
def z0zj (a : List GNet) (b : List GNet) : Option Bool := if decide ((a.length : Int) = (b.length : Int)) = true then (z05j a b z0m6 FUEL 0) else (some false)
def z05y : Con := ⟨51, [.v (.sl (.s .net)) false, .v (.sl (.s .net)) false], [(.B, true)], [], fun x => z0zj x.1 x.2.1⟩
def z1g2 : Fs := ⟨[z1j3], []⟩
theorem z0yf : z1g2.Ok Tryz.prog := (fsK z1y5 fs0)
def z0qr : Tmpl := ⟨[(0, .c (.s (.s .net))), (1, .c (.s (.s .net))), (5, .c .i)], []⟩
def z0ny : Tmpl := ⟨[], []⟩
def z174 (av : AV) (x : HP z05y.ps) (n : Nat) (v : z0qr.den) (K : Ks (CR z05y)) : Option (CR z05y) := z05j v.1.1 v.1.2.1 (z0ny.at none ((), ()) (K (.exit 0))) n v.1.2.2.1
def z0pe (av : AV) (x : HP z05y.ps) : Hdl (CR z05y) := hnd [] z0qr (z174 av x)
theorem z18k : LP z05y Tryz.f51 [0] z0pe := lp_ok (W := []) (H := []) (xs := [z0ny]) z0yf trivial rfl (fun av x v K => by kernel_rfl) (fun av x n v K => by kernel_rfl)
theorem z1js : z05y.Ok Tryz.prog := fn_ok (k := z05y) (fn := Tryz.f51) (W := []) (H := [z0pe]) Tryz.func51 z0yf ⟨z18k, trivial⟩ rfl rfl (fun av x => by kernel_rfl)
noncomputable def z0xp (a : List GNet) (b : List GNet) : Option Bool := @gd ((a.length ≤ 1048576) ∧ (∀ y ∈ a, GNet.lens (· ≤ 1048576) y) ∧ (∀ y ∈ b, GNet.lens (· ≤ 1048576) y)) (Classical.propDecidable _) _ (some (decide (a = b)))
theorem z1t9 (a : List GNet) (b : List GNet) (h : (a.length ≤ 1048576) ∧ (∀ y ∈ a, GNet.lens (· ≤ 1048576) y) ∧ (∀ y ∈ b, GNet.lens (· ≤ 1048576) y)) : z0xp a b = some (decide (a = b)) := gdC h
theorem z1vc (a : List GNet) (b : List GNet) (h : (a.length ≤ 1048576) ∧ (∀ y ∈ a, GNet.lens (· ≤ 1048576) y) ∧ (∀ y ∈ b, GNet.lens (· ≤ 1048576) y)) : z0zj a b = some (decide (a = b)) := by
  have hl := h.1
  refine z1fv fun hab => z1fu (f := z05j a b z0m6) (by omega) hab (fun n i hi hj => ?_) (fun n => ?_)
  · rw [z05j, if_pos (decide_eq_true (Int.ofNat_lt.2 hi)), z02e hi, Option.bind_some, z02e hj, Option.bind_some, z1wv _ _ ⟨h.2.1 _ (List.getElem_mem _), h.2.2 _ (List.getElem_mem _)⟩, Option.bind_some, z001 (ok64i hi h.1)]; rfl
  · rw [z05j, if_neg (by simp)]; rfl
noncomputable def z1a2 : Con := ⟨51, [.v (.sl (.s .net)) false, .v (.sl (.s .net)) false], [(.B, true)], [], fun x => z0xp x.1 x.2.1⟩
theorem z1ud : z1a2.Ok Tryz.prog := z00q z1js fun x z hz => by
  obtain ⟨h, e⟩ := z00a hz
  subst e
  exact z1vc _ _ h
def z0m3 (x : GItem) (y : GItem) : Option Bool := if decide (x.task = y.task) = true then (if decide (x.who = y.who) = true then (if decide (x.did = y.did) = true then (some true) else (some false)) else (some false)) else (some false)
def z0z2 : Con := ⟨186, [.v (.s .item) false, .v (.s .item) false], [(.B, true)], [], fun x => z0m3 x.1 x.2.1⟩
def z1fz : Fs := ⟨[], []⟩
theorem z1hk : z1fz.Ok Tryz.prog := fs0
theorem z1jp : z0z2.Ok Tryz.prog := fn_ok (k := z0z2) (fn := Tryz.f186) (W := []) (H := []) Tryz.func186 z1hk trivial rfl rfl (fun av x => by kernel_rfl)
noncomputable def z0xm (x : GItem) (y : GItem) : Option Bool := @gd (True) (Classical.propDecidable _) _ (some (decide (x = y)))
theorem z1t6 (x : GItem) (y : GItem) (h : True) : z0xm x y = some (decide (x = y)) := gdC h
theorem z1v9 (x : GItem) (y : GItem) (h : True) : z0m3 x y = some (decide (x = y)) := by
  unfold z0m3
  refine (z00h (z00h (z00h z12i))).trans (congrArg some (decide_eq_decide.2 ⟨fun ⟨h0, h1, h2, _⟩ => ?_, fun h => by subst h; simp⟩))
  cases x; cases y; simp_all
noncomputable def z19z : Con := ⟨186, [.v (.s .item) false, .v (.s .item) false], [(.B, true)], [], fun x => z0xm x.1 x.2.1⟩
theorem z1ua : z19z.Ok Tryz.prog := z00q z1jp fun x z hz => by
  obtain ⟨h, e⟩ := z00a hz
  subst e
  exact z1v9 _ _ h
def z0ie  : Option Bool := some true
def z03z (a : List GItem) (b : List GItem) (kx0_0 : Option Bool) : Nat → Int → Option Bool
  | 0, _ => none
  | n0 + 1, s0_0 => if decide (s0_0 < (a.length : Int)) = true then ((getI a s0_0).bind fun x3 => ((getI b s0_0).bind fun x4 => ((z0xm x3 x4).bind fun x5 => (if x5 = true then (gd (ok64 (s0_0 + 1)) ((z03z a b kx0_0 n0) (s0_0 + 1))) else (some false))))) else (kx0_0)
def z0vp (a : List GItem) (b : List GItem) : Option Bool := if decide ((a.length : Int) = (b.length : Int)) = true then (z03z a b z0ie FUEL 0) else (some false)
def z04f : Con := ⟨111, [.v (.sl (.s .item)) false, .v (.sl (.s .item)) false], [(.B, true)], [], fun x => z0vp x.1 x.2.1⟩
def z1bh : Fs := ⟨[z19z], []⟩
theorem z0u3 : z1bh.Ok Tryz.prog := (fsK z1ua fs0)
def z0n1 : Tmpl := ⟨[(0, .c (.s (.s .item))), (1, .c (.s (.s .item))), (5, .c .i)], []⟩
def z0j1 : Tmpl := ⟨[], []⟩
def z11i (av : AV) (x : HP z04f.ps) (n : Nat) (v : z0n1.den) (K : Ks (CR z04f)) : Option (CR z04f) := z03z v.1.1 v.1.2.1 (z0j1.at none ((), ()) (K (.exit 0))) n v.1.2.2.1
def z0kn (av : AV) (x : HP z04f.ps) : Hdl (CR z04f) := hnd [] z0n1 (z11i av x)
theorem z14e : LP z04f Tryz.f111 [0] z0kn := lp_ok (W := []) (H := []) (xs := [z0j1]) z0u3 trivial rfl (fun av x v K => by kernel_rfl) (fun av x n v K => by kernel_rfl)
theorem z1dy : z04f.Ok Tryz.prog := fn_ok (k := z04f) (fn := Tryz.f111) (W := []) (H := [z0kn]) Tryz.func111 z0u3 ⟨z14e, trivial⟩ rfl rfl (fun av x => by kernel_rfl)
noncomputable def z0su (a : List GItem) (b : List GItem) : Option Bool := @gd ((a.length ≤ 1048576)) (Classical.propDecidable _) _ (some (decide (a = b)))
theorem z1m4 (a : List GItem) (b : List GItem) (h : (a.length ≤ 1048576)) : z0su a b = some (decide (a = b)) := gdC h
theorem z1qh (a : List GItem) (b : List GItem) (h : (a.length ≤ 1048576)) : z0vp a b = some (decide (a = b)) := by
  have hl := h
  refine z1fv fun hab => z1fu (f := z03z a b z0ie) (by omega) hab (fun n i hi hj => ?_) (fun n => ?_)
  · rw [z03z, if_pos (decide_eq_true (Int.ofNat_lt.2 hi)), z02e hi, Option.bind_some, z02e hj, Option.bind_some, z1t6 _ _ trivial, Option.bind_some, z001 (ok64i hi h)]; rfl
  · rw [z03z, if_neg (by simp)]; rfl
noncomputable def z13y : Con := ⟨111, [.v (.sl (.s .item)) false, .v (.sl (.s .item)) false], [(.B, true)], [], fun x => z0su x.1 x.2.1⟩
theorem z1p9 : z13y.Ok Tryz.prog := z00q z1dy fun x z hz => by
  obtain ⟨h, e⟩ := z00a hz
  subst e
  exact z1qh _ _ h
def z0sj (x : GDid) (y : GDid) : Option Bool := if decide (x.task = y.task) = true then (if decide (x.who = y.who) = true then (some true) else (some false)) else (some false)
def z13l : Con := ⟨187, [.v (.s .did) false, .v (.s .did) false], [(.B, true)], [], fun x => z0sj x.1 x.2.1⟩
def z1ml : Fs := ⟨[], []⟩
theorem z1nm : z1ml.Ok Tryz.prog := fs0
theorem z1ow : z13l.Ok Tryz.prog := fn_ok (k := z13l) (fn := Tryz.f187) (W := []) (H := []) Tryz.func187 z1nm trivial rfl rfl (fun av x => by kernel_rfl)
noncomputable def z15i (x : GDid) (y : GDid) : Option Bool := @gd (True) (Classical.propDecidable _) _ (some (decide (x = y)))
theorem z1ws (x : GDid) (y : GDid) (h : True) : z15i x y = some (decide (x = y)) := gdC h
theorem z1z2 (x : GDid) (y : GDid) (h : True) : z0sj x y = some (decide (x = y)) := by
  unfold z0sj
  refine (z00h (z00h z12i)).trans (congrArg some (decide_eq_decide.2 ⟨fun ⟨h0, h1, _⟩ => ?_, fun h => by subst h; simp⟩))
  cases x; cases y; simp_all
noncomputable def z1j0 : Con := ⟨187, [.v (.s .did) false, .v (.s .did) false], [(.B, true)], [], fun x => z15i x.1 x.2.1⟩
theorem z1y2 : z1j0.Ok Tryz.prog := z00q z1ow fun x z hz => by
  obtain ⟨h, e⟩ := z00a hz
  subst e
  exact z1z2 _ _ h
def z0m2  : Option Bool := some true
def z05h (a : List GDid) (b : List GDid) (kx0_0 : Option Bool) : Nat → Int → Option Bool
  | 0, _ => none
  | n0 + 1, s0_0 => if decide (s0_0 < (a.length : Int)) = true then ((getI a s0_0).bind fun x3 => ((getI b s0_0).bind fun x4 => ((z15i x3 x4).bind fun x5 => (if x5 = true then (gd (ok64 (s0_0 + 1)) ((z05h a b kx0_0 n0) (s0_0 + 1))) else (some false))))) else (kx0_0)
def z0zg (a : List GDid) (b : List GDid) : Option Bool := if decide ((a.length : Int) = (b.length : Int)) = true then (z05h a b z0m2 FUEL 0) else (some false)
def z05w : Con := ⟨112, [.v (.sl (.s .did)) false, .v (.sl (.s .did)) false], [(.B, true)], [], fun x => z0zg x.1 x.2.1⟩
def z1fy : Fs := ⟨[z1j0], []⟩
theorem z0yd : z1fy.Ok Tryz.prog := (fsK z1y2 fs0)
def z0qp : Tmpl := ⟨[(0, .c (.s (.s .did))), (1, .c (.s (.s .did))), (5, .c .i)], []⟩
def z0nw : Tmpl := ⟨[], []⟩
def z172 (av : AV) (x : HP z05w.ps) (n : Nat) (v : z0qp.den) (K : Ks (CR z05w)) : Option (CR z05w) := z05h v.1.1 v.1.2.1 (z0nw.at none ((), ()) (K (.exit 0))) n v.1.2.2.1
def z0pc (av : AV) (x : HP z05w.ps) : Hdl (CR z05w) := hnd [] z0qp (z172 av x)
theorem z18i : LP z05w Tryz.f112 [0] z0pc := lp_ok (W := []) (H := []) (xs := [z0nw]) z0yd trivial rfl (fun av x v K => by kernel_rfl) (fun av x n v K => by kernel_rfl)
theorem z1jo : z05w.Ok Tryz.prog := fn_ok (k := z05w) (fn := Tryz.f112) (W := []) (H := [z0pc]) Tryz.func112 z0yd ⟨z18i, trivial⟩ rfl rfl (fun av x => by kernel_rfl)
noncomputable def z0xl (a : List GDid) (b : List GDid) : Option Bool := @gd ((a.length ≤ 1048576)) (Classical.propDecidable _) _ (some (decide (a = b)))
theorem z1t5 (a : List GDid) (b : List GDid) (h : (a.length ≤ 1048576)) : z0xl a b = some (decide (a = b)) := gdC h
theorem z1v8 (a : List GDid) (b : List GDid) (h : (a.length ≤ 1048576)) : z0zg a b = some (decide (a = b)) := by
  have hl := h
  refine z1fv fun hab => z1fu (f := z05h a b z0m2) (by omega) hab (fun n i hi hj => ?_) (fun n => ?_)
  · rw [z05h, if_pos (decide_eq_true (Int.ofNat_lt.2 hi)), z02e hi, Option.bind_some, z02e hj, Option.bind_some, z1ws _ _ trivial, Option.bind_some, z001 (ok64i hi h)]; rfl
  · rw [z05h, if_neg (by simp)]; rfl
noncomputable def z19y : Con := ⟨112, [.v (.sl (.s .did)) false, .v (.sl (.s .did)) false], [(.B, true)], [], fun x => z0xl x.1 x.2.1⟩
theorem z1u9 : z19y.Ok Tryz.prog := z00q z1jo fun x z hz => by
  obtain ⟨h, e⟩ := z00a hz
  subst e
  exact z1v8 _ _ h
def z0m8 (x : GNode) (y : GNode) : Option Bool := (z0ml x.if_ y.if_).bind fun x1 => (if x1 = true then (if decide (x.yes = y.yes) = true then (if decide (x.no = y.no) = true then (if decide (x.ans = y.ans) = true then ((z0hb x.stone y.stone).bind fun x6 => (if x6 = true then (some true) else (some false))) else (some false)) else (some false)) else (some false)) else (some false))
def z0z5 : Con := ⟨150, [.v (.s .node) false, .v (.s .node) false], [(.B, true)], [], fun x => z0m8 x.1 x.2.1⟩
def z1g4 : Fs := ⟨[z0vg, z0xb], []⟩
theorem z1ho : z1g4.Ok Tryz.prog := (fsK z161 (fsK z162 fs0))
theorem z1ju : z0z5.Ok Tryz.prog := fn_ok (k := z0z5) (fn := Tryz.f150) (W := []) (H := []) Tryz.func150 z1ho trivial rfl rfl (fun av x => by kernel_rfl)
noncomputable def z0xr (x : GNode) (y : GNode) : Option Bool := @gd ((GNode.lens (· ≤ 1048576) x) ∧ (GNode.lens (· ≤ 1048576) y)) (Classical.propDecidable _) _ (some (decide (x = y)))
theorem z1tb (x : GNode) (y : GNode) (h : (GNode.lens (· ≤ 1048576) x) ∧ (GNode.lens (· ≤ 1048576) y)) : z0xr x y = some (decide (x = y)) := gdC h
theorem z1ve (x : GNode) (y : GNode) (h : (GNode.lens (· ≤ 1048576) x) ∧ (GNode.lens (· ≤ 1048576) y)) : z0m8 x y = some (decide (x = y)) := by
  rw [z0m8, z12f _ _ trivial, Option.bind_some, z0rw _ _ h.1, Option.bind_some]
  refine (z00h (z00h (z00h (z00h (z00h z12i))))).trans (congrArg some (decide_eq_decide.2 ⟨fun ⟨h0, h1, h2, h3, h4, _⟩ => ?_, fun h => by subst h; simp⟩))
  cases x; cases y; simp_all
noncomputable def z1a4 : Con := ⟨150, [.v (.s .node) false, .v (.s .node) false], [(.B, true)], [], fun x => z0xr x.1 x.2.1⟩
theorem z1uf : z1a4.Ok Tryz.prog := z00q z1ju fun x z hz => by
  obtain ⟨h, e⟩ := z00a hz
  subst e
  exact z1ve _ _ h
def z0ih  : Option Bool := some true
def z042 (a : List GNode) (b : List GNode) (kx0_0 : Option Bool) : Nat → Int → Option Bool
  | 0, _ => none
  | n0 + 1, s0_0 => if decide (s0_0 < (a.length : Int)) = true then ((getI a s0_0).bind fun x3 => ((getI b s0_0).bind fun x4 => ((z0xr x3 x4).bind fun x5 => (if x5 = true then (gd (ok64 (s0_0 + 1)) ((z042 a b kx0_0 n0) (s0_0 + 1))) else (some false))))) else (kx0_0)
def z0vs (a : List GNode) (b : List GNode) : Option Bool := if decide ((a.length : Int) = (b.length : Int)) = true then (z042 a b z0ih FUEL 0) else (some false)
def z04i : Con := ⟨69, [.v (.sl (.s .node)) false, .v (.sl (.s .node)) false], [(.B, true)], [], fun x => z0vs x.1 x.2.1⟩
def z1bl : Fs := ⟨[z1a4], []⟩
theorem z0u6 : z1bl.Ok Tryz.prog := (fsK z1uf fs0)
def z0n4 : Tmpl := ⟨[(0, .c (.s (.s .node))), (1, .c (.s (.s .node))), (5, .c .i)], []⟩
def z0j4 : Tmpl := ⟨[], []⟩
def z11l (av : AV) (x : HP z04i.ps) (n : Nat) (v : z0n4.den) (K : Ks (CR z04i)) : Option (CR z04i) := z042 v.1.1 v.1.2.1 (z0j4.at none ((), ()) (K (.exit 0))) n v.1.2.2.1
def z0kq (av : AV) (x : HP z04i.ps) : Hdl (CR z04i) := hnd [] z0n4 (z11l av x)
theorem z14h : LP z04i Tryz.f69 [0] z0kq := lp_ok (W := []) (H := []) (xs := [z0j4]) z0u6 trivial rfl (fun av x v K => by kernel_rfl) (fun av x n v K => by kernel_rfl)
theorem z1e2 : z04i.Ok Tryz.prog := fn_ok (k := z04i) (fn := Tryz.f69) (W := []) (H := [z0kq]) Tryz.func69 z0u6 ⟨z14h, trivial⟩ rfl rfl (fun av x => by kernel_rfl)
noncomputable def z0sx (a : List GNode) (b : List GNode) : Option Bool := @gd ((a.length ≤ 1048576) ∧ (∀ y ∈ a, GNode.lens (· ≤ 1048576) y) ∧ (∀ y ∈ b, GNode.lens (· ≤ 1048576) y)) (Classical.propDecidable _) _ (some (decide (a = b)))
theorem z1m7 (a : List GNode) (b : List GNode) (h : (a.length ≤ 1048576) ∧ (∀ y ∈ a, GNode.lens (· ≤ 1048576) y) ∧ (∀ y ∈ b, GNode.lens (· ≤ 1048576) y)) : z0sx a b = some (decide (a = b)) := gdC h
theorem z1ql (a : List GNode) (b : List GNode) (h : (a.length ≤ 1048576) ∧ (∀ y ∈ a, GNode.lens (· ≤ 1048576) y) ∧ (∀ y ∈ b, GNode.lens (· ≤ 1048576) y)) : z0vs a b = some (decide (a = b)) := by
  have hl := h.1
  refine z1fv fun hab => z1fu (f := z042 a b z0ih) (by omega) hab (fun n i hi hj => ?_) (fun n => ?_)
  · rw [z042, if_pos (decide_eq_true (Int.ofNat_lt.2 hi)), z02e hi, Option.bind_some, z02e hj, Option.bind_some, z1tb _ _ ⟨h.2.1 _ (List.getElem_mem _), h.2.2 _ (List.getElem_mem _)⟩, Option.bind_some, z001 (ok64i hi h.1)]; rfl
  · rw [z042, if_neg (by simp)]; rfl
noncomputable def z142 : Con := ⟨69, [.v (.sl (.s .node)) false, .v (.sl (.s .node)) false], [(.B, true)], [], fun x => z0sx x.1 x.2.1⟩
theorem z1pd : z142.Ok Tryz.prog := z00q z1e2 fun x z hz => by
  obtain ⟨h, e⟩ := z00a hz
  subst e
  exact z1ql _ _ h
def z0m1 (x : GCase) (y : GCase) : Option Bool := if decide (x.state = y.state) = true then ((z0hb x.marks y.marks).bind fun x2 => (if x2 = true then ((z0su x.busy y.busy).bind fun x4 => (if x4 = true then ((z0hb x.data y.data).bind fun x6 => (if x6 = true then ((z0xl x.did y.did).bind fun x8 => (if x8 = true then (some true) else (some false))) else (some false))) else (some false))) else (some false))) else (some false)
def z0z1 : Con := ⟨40, [.v (.s .kase) false, .v (.s .kase) false], [(.B, true)], [], fun x => z0m1 x.1 x.2.1⟩
def z1fx : Fs := ⟨[z0xb, z13y, z19y], []⟩
theorem z1hj : z1fx.Ok Tryz.prog := (fsK z162 (fsK z1p9 (fsK z1u9 fs0)))
theorem z1jn : z0z1.Ok Tryz.prog := fn_ok (k := z0z1) (fn := Tryz.f40) (W := []) (H := []) Tryz.func40 z1hj trivial rfl rfl (fun av x => by kernel_rfl)
noncomputable def z0xk (x : GCase) (y : GCase) : Option Bool := @gd ((GCase.lens (· ≤ 1048576) x) ∧ (GCase.lens (· ≤ 1048576) y)) (Classical.propDecidable _) _ (some (decide (x = y)))
theorem z1t4 (x : GCase) (y : GCase) (h : (GCase.lens (· ≤ 1048576) x) ∧ (GCase.lens (· ≤ 1048576) y)) : z0xk x y = some (decide (x = y)) := gdC h
theorem z1v7 (x : GCase) (y : GCase) (h : (GCase.lens (· ≤ 1048576) x) ∧ (GCase.lens (· ≤ 1048576) y)) : z0m1 x y = some (decide (x = y)) := by
  rw [z0m1, z0rw _ _ h.1.1, Option.bind_some, z1m4 _ _ h.1.2.1, Option.bind_some, z0rw _ _ h.1.2.2.1, Option.bind_some, z1t5 _ _ h.1.2.2.2, Option.bind_some]
  refine (z00h (z00h (z00h (z00h (z00h z12i))))).trans (congrArg some (decide_eq_decide.2 ⟨fun ⟨h0, h1, h2, h3, h4, _⟩ => ?_, fun h => by subst h; simp⟩))
  cases x; cases y; simp_all
noncomputable def z19x : Con := ⟨40, [.v (.s .kase) false, .v (.s .kase) false], [(.B, true)], [], fun x => z0xk x.1 x.2.1⟩
theorem z1u8 : z19x.Ok Tryz.prog := z00q z1jn fun x z hz => by
  obtain ⟨h, e⟩ := z00a hz
  subst e
  exact z1v7 _ _ h
def z0sl (x : GRun) (y : GRun) : Option Bool := if decide (x.net = y.net) = true then ((z0xk x.case y.case).bind fun x2 => (if x2 = true then (some true) else (some false))) else (some false)
def z13n : Con := ⟨151, [.v (.s .run) false, .v (.s .run) false], [(.B, true)], [], fun x => z0sl x.1 x.2.1⟩
def z1mn : Fs := ⟨[z19x], []⟩
theorem z1no : z1mn.Ok Tryz.prog := (fsK z1u8 fs0)
theorem z1oy : z13n.Ok Tryz.prog := fn_ok (k := z13n) (fn := Tryz.f151) (W := []) (H := []) Tryz.func151 z1no trivial rfl rfl (fun av x => by kernel_rfl)
noncomputable def z15k (x : GRun) (y : GRun) : Option Bool := @gd ((GRun.lens (· ≤ 1048576) x) ∧ (GRun.lens (· ≤ 1048576) y)) (Classical.propDecidable _) _ (some (decide (x = y)))
theorem z1wu (x : GRun) (y : GRun) (h : (GRun.lens (· ≤ 1048576) x) ∧ (GRun.lens (· ≤ 1048576) y)) : z15k x y = some (decide (x = y)) := gdC h
theorem z1z4 (x : GRun) (y : GRun) (h : (GRun.lens (· ≤ 1048576) x) ∧ (GRun.lens (· ≤ 1048576) y)) : z0sl x y = some (decide (x = y)) := by
  rw [z0sl, z1t4 _ _ ⟨h.1, h.2⟩, Option.bind_some]
  refine (z00h (z00h z12i)).trans (congrArg some (decide_eq_decide.2 ⟨fun ⟨h0, h1, _⟩ => ?_, fun h => by subst h; simp⟩))
  cases x; cases y; simp_all
noncomputable def z1j2 : Con := ⟨151, [.v (.s .run) false, .v (.s .run) false], [(.B, true)], [], fun x => z15k x.1 x.2.1⟩
theorem z1y4 : z1j2.Ok Tryz.prog := z00q z1oy fun x z hz => by
  obtain ⟨h, e⟩ := z00a hz
  subst e
  exact z1z4 _ _ h
def z0m4  : Option Bool := some true
def z05i (a : List GRun) (b : List GRun) (kx0_0 : Option Bool) : Nat → Int → Option Bool
  | 0, _ => none
  | n0 + 1, s0_0 => if decide (s0_0 < (a.length : Int)) = true then ((getI a s0_0).bind fun x3 => ((getI b s0_0).bind fun x4 => ((z15k x3 x4).bind fun x5 => (if x5 = true then (gd (ok64 (s0_0 + 1)) ((z05i a b kx0_0 n0) (s0_0 + 1))) else (some false))))) else (kx0_0)
def z0zh (a : List GRun) (b : List GRun) : Option Bool := if decide ((a.length : Int) = (b.length : Int)) = true then (z05i a b z0m4 FUEL 0) else (some false)
def z05x : Con := ⟨70, [.v (.sl (.s .run)) false, .v (.sl (.s .run)) false], [(.B, true)], [], fun x => z0zh x.1 x.2.1⟩
def z1g0 : Fs := ⟨[z1j2], []⟩
theorem z0ye : z1g0.Ok Tryz.prog := (fsK z1y4 fs0)
def z0qq : Tmpl := ⟨[(0, .c (.s (.s .run))), (1, .c (.s (.s .run))), (5, .c .i)], []⟩
def z0nx : Tmpl := ⟨[], []⟩
def z173 (av : AV) (x : HP z05x.ps) (n : Nat) (v : z0qq.den) (K : Ks (CR z05x)) : Option (CR z05x) := z05i v.1.1 v.1.2.1 (z0nx.at none ((), ()) (K (.exit 0))) n v.1.2.2.1
def z0pd (av : AV) (x : HP z05x.ps) : Hdl (CR z05x) := hnd [] z0qq (z173 av x)
theorem z18j : LP z05x Tryz.f70 [0] z0pd := lp_ok (W := []) (H := []) (xs := [z0nx]) z0ye trivial rfl (fun av x v K => by kernel_rfl) (fun av x n v K => by kernel_rfl)
theorem z1jq : z05x.Ok Tryz.prog := fn_ok (k := z05x) (fn := Tryz.f70) (W := []) (H := [z0pd]) Tryz.func70 z0ye ⟨z18j, trivial⟩ rfl rfl (fun av x => by kernel_rfl)
noncomputable def z0xn (a : List GRun) (b : List GRun) : Option Bool := @gd ((a.length ≤ 1048576) ∧ (∀ y ∈ a, GRun.lens (· ≤ 1048576) y) ∧ (∀ y ∈ b, GRun.lens (· ≤ 1048576) y)) (Classical.propDecidable _) _ (some (decide (a = b)))
theorem z1t7 (a : List GRun) (b : List GRun) (h : (a.length ≤ 1048576) ∧ (∀ y ∈ a, GRun.lens (· ≤ 1048576) y) ∧ (∀ y ∈ b, GRun.lens (· ≤ 1048576) y)) : z0xn a b = some (decide (a = b)) := gdC h
theorem z1va (a : List GRun) (b : List GRun) (h : (a.length ≤ 1048576) ∧ (∀ y ∈ a, GRun.lens (· ≤ 1048576) y) ∧ (∀ y ∈ b, GRun.lens (· ≤ 1048576) y)) : z0zh a b = some (decide (a = b)) := by
  have hl := h.1
  refine z1fv fun hab => z1fu (f := z05i a b z0m4) (by omega) hab (fun n i hi hj => ?_) (fun n => ?_)
  · rw [z05i, if_pos (decide_eq_true (Int.ofNat_lt.2 hi)), z02e hi, Option.bind_some, z02e hj, Option.bind_some, z1wu _ _ ⟨h.2.1 _ (List.getElem_mem _), h.2.2 _ (List.getElem_mem _)⟩, Option.bind_some, z001 (ok64i hi h.1)]; rfl
  · rw [z05i, if_neg (by simp)]; rfl
noncomputable def z1a0 : Con := ⟨70, [.v (.sl (.s .run)) false, .v (.sl (.s .run)) false], [(.B, true)], [], fun x => z0xn x.1 x.2.1⟩
theorem z1ub : z1a0.Ok Tryz.prog := z00q z1jq fun x z hz => by
  obtain ⟨h, e⟩ := z00a hz
  subst e
  exact z1va _ _ h
def z0sk (x : GReq) (y : GReq) : Option Bool := if decide (x.kind = y.kind) = true then (if decide (x.who = y.who) = true then (if decide (x.case = y.case) = true then (if decide (x.task = y.task) = true then (if decide (x.var = y.var) = true then (if decide (x.num = y.num) = true then ((z0hb x.data y.data).bind fun x7 => (if x7 = true then ((z0ml x.if_ y.if_).bind fun x9 => (if x9 = true then (if decide (x.ans = y.ans) = true then (some true) else (some false)) else (some false))) else (some false))) else (some false)) else (some false)) else (some false)) else (some false)) else (some false)) else (some false)
def z13m : Con := ⟨18, [.v (.s .req) false, .v (.s .req) false], [(.B, true)], [], fun x => z0sk x.1 x.2.1⟩
def z1mm : Fs := ⟨[z0xb, z0vg], []⟩
theorem z1nn : z1mm.Ok Tryz.prog := (fsK z162 (fsK z161 fs0))
theorem z1ox : z13m.Ok Tryz.prog := fn_ok (k := z13m) (fn := Tryz.f18) (W := []) (H := []) Tryz.func18 z1nn trivial rfl rfl (fun av x => by kernel_rfl)
noncomputable def z15j (x : GReq) (y : GReq) : Option Bool := @gd ((GReq.lens (· ≤ 1048576) x) ∧ (GReq.lens (· ≤ 1048576) y)) (Classical.propDecidable _) _ (some (decide (x = y)))
theorem z1wt (x : GReq) (y : GReq) (h : (GReq.lens (· ≤ 1048576) x) ∧ (GReq.lens (· ≤ 1048576) y)) : z15j x y = some (decide (x = y)) := gdC h
theorem z1z3 (x : GReq) (y : GReq) (h : (GReq.lens (· ≤ 1048576) x) ∧ (GReq.lens (· ≤ 1048576) y)) : z0sk x y = some (decide (x = y)) := by
  rw [z0sk, z0rw _ _ h.1, Option.bind_some, z12f _ _ trivial, Option.bind_some]
  refine (z00h (z00h (z00h (z00h (z00h (z00h (z00h (z00h (z00h z12i))))))))).trans (congrArg some (decide_eq_decide.2 ⟨fun ⟨h0, h1, h2, h3, h4, h5, h6, h7, h8, _⟩ => ?_, fun h => by subst h; simp⟩))
  cases x; cases y; simp_all
noncomputable def z1j1 : Con := ⟨18, [.v (.s .req) false, .v (.s .req) false], [(.B, true)], [], fun x => z15j x.1 x.2.1⟩
theorem z1y3 : z1j1.Ok Tryz.prog := z00q z1ox fun x z hz => by
  obtain ⟨h, e⟩ := z00a hz
  subst e
  exact z1z3 _ _ h
def z0h8 (x : GHouse) (y : GHouse) : Option Bool := (z0xp x.nets y.nets).bind fun x1 => (if x1 = true then ((z0hb x.people y.people).bind fun x3 => (if x3 = true then ((z0sx x.tree y.tree).bind fun x5 => (if x5 = true then ((z0xn x.runs y.runs).bind fun x7 => (if x7 = true then (some true) else (some false))) else (some false))) else (some false))) else (some false))
def z0vb : Con := ⟨17, [.v (.s .house) false, .v (.s .house) false], [(.B, true)], [], fun x => z0h8 x.1 x.2.1⟩
def z1bi : Fs := ⟨[z1a2, z0xb, z142, z1a0], []⟩
theorem z1cs : z1bi.Ok Tryz.prog := (fsK z1ud (fsK z162 (fsK z1pd (fsK z1ub fs0))))
theorem z1dz : z0vb.Ok Tryz.prog := fn_ok (k := z0vb) (fn := Tryz.f17) (W := []) (H := []) Tryz.func17 z1cs trivial rfl rfl (fun av x => by kernel_rfl)
noncomputable def z0ax (x : GHouse) (y : GHouse) : Option Bool := @gd ((GHouse.lens (· ≤ 1048576) x) ∧ (GHouse.lens (· ≤ 1048576) y)) (Classical.propDecidable _) _ (some (decide (x = y)))
theorem z12e (x : GHouse) (y : GHouse) (h : (GHouse.lens (· ≤ 1048576) x) ∧ (GHouse.lens (· ≤ 1048576) y)) : z0ax x y = some (decide (x = y)) := gdC h
theorem z1qi (x : GHouse) (y : GHouse) (h : (GHouse.lens (· ≤ 1048576) x) ∧ (GHouse.lens (· ≤ 1048576) y)) : z0h8 x y = some (decide (x = y)) := by
  rw [z0h8, z1t9 _ _ ⟨h.1.1.1, h.1.1.2, h.2.1.2⟩, Option.bind_some, z0rw _ _ h.1.2.1, Option.bind_some, z1m7 _ _ ⟨h.1.2.2.1.1, h.1.2.2.1.2, h.2.2.2.1.2⟩, Option.bind_some, z1t7 _ _ ⟨h.1.2.2.2.1, h.1.2.2.2.2, h.2.2.2.2.2⟩, Option.bind_some]
  refine (z00h (z00h (z00h (z00h z12i)))).trans (congrArg some (decide_eq_decide.2 ⟨fun ⟨h0, h1, h2, h3, _⟩ => ?_, fun h => by subst h; simp⟩))
  cases x; cases y; simp_all
noncomputable def z13z : Con := ⟨17, [.v (.s .house) false, .v (.s .house) false], [(.B, true)], [], fun x => z0ax x.1 x.2.1⟩
theorem z1pa : z13z.Ok Tryz.prog := z00q z1dz fun x z hz => by
  obtain ⟨h, e⟩ := z00a hz
  subst e
  exact z1qi _ _ h
def z002 (n : Int) (low : Int) (high : Int) : Option Bool := if decide (low ≤ n) = true then (some (decide (n ≤ high))) else (some false)
def z00o : Con := ⟨85, [.v .I false, .v .I false, .v .I false], [(.B, true)], [], fun x => z002 x.1 x.2.1 x.2.2.1⟩
def z1ts : Fs := ⟨[], []⟩
theorem z1tv : z1ts.Ok Tryz.prog := fs0
theorem z00t : z00o.Ok Tryz.prog := fn_ok (k := z00o) (fn := Tryz.f85) (W := []) (H := []) Tryz.func85 z1tv trivial rfl rfl (fun av x => by kernel_rfl)
def z0q9  : Option Bool := some true
def z071 (data : List Int) (kx0_0 : Option Bool) : Nat → Int → Option Bool
  | 0, _ => none
  | n0 + 1, s0_0 => if decide (s0_0 < (data.length : Int)) = true then ((getI data s0_0).bind fun x3 => ((z002 x3 (-99) 99).bind fun x4 => (if x4 = true then (gd (ok64 (s0_0 + 1)) ((z071 data kx0_0 n0) (s0_0 + 1))) else (some false)))) else (kx0_0)
def z02b (data : List Int) : Option Bool := if decide ((data.length : Int) = 3) = true then (z071 data z0q9 FUEL 0) else (some false)
def z013 : Con := ⟨129, [.v (.sl .I) false], [(.B, true)], [], fun x => z02b x.1⟩
def z1na : Fs := ⟨[z00o], []⟩
theorem z12w : z1na.Ok Tryz.prog := (fsK z00t fs0)
def z0wq : Tmpl := ⟨[(0, .c (.s .I)), (3, .c .i)], []⟩
def z0ro : Tmpl := ⟨[], []⟩
def z1b2 (av : AV) (x : HP z013.ps) (n : Nat) (v : z0wq.den) (K : Ks (CR z013)) : Option (CR z013) := z071 v.1.1 (z0ro.at none ((), ()) (K (.exit 0))) n v.1.2.1
def z0uz (av : AV) (x : HP z013.ps) : Hdl (CR z013) := hnd [] z0wq (z1b2 av x)
theorem z1dm : LP z013 Tryz.f129 [0] z0uz := lp_ok (W := []) (H := []) (xs := [z0ro]) z12w trivial rfl (fun av x v K => by kernel_rfl) (fun av x n v K => by kernel_rfl)
theorem z06l : z013.Ok Tryz.prog := fn_ok (k := z013) (fn := Tryz.f129) (W := []) (H := [z0uz]) Tryz.func129 z12w ⟨z1dm, trivial⟩ rfl rfl (fun av x => by kernel_rfl)
def z0ew (data : List Int) (k : Int) (n : Int) : Option (List Int) := (z02b data).bind fun x1 => (if x1 = true then ((z002 k 0 2).bind fun x3 => (if x3 = true then ((z002 n (-99) 99).bind fun x5 => (if x5 = true then (gd (([] : List Int).length + data.length ≤ SMALL) ((getI (([] : List Int) ++ data) k).bind fun x8 => (some ((([] : List Int) ++ data).set k.toNat n)))) else (gd (([] : List Int).length + data.length ≤ SMALL) (some (([] : List Int) ++ data))))) else (gd (([] : List Int).length + data.length ≤ SMALL) (some (([] : List Int) ++ data))))) else (gd (([] : List Int).length + data.length ≤ SMALL) (some (([] : List Int) ++ data))))
def z0lq : Con := ⟨190, [.v (.sl .I) false, .v .I false, .v .I false], [((.sl .I), true)], [], fun x => z0ew x.1 x.2.1 x.2.2.1⟩
def z1h0 : Fs := ⟨[z013, z00o], []⟩
theorem z1ic : z1h0.Ok Tryz.prog := (fsK z06l (fsK z00t fs0))
theorem z1kq : z0lq.Ok Tryz.prog := fn_ok (k := z0lq) (fn := Tryz.f190) (W := []) (H := []) Tryz.func190 z1ic trivial rfl rfl (fun av x => by kernel_rfl)
def z07v (e : GAsk) : Option Bool := if decide (e.op = 0) = true then (some (decide ([e.op, e.var, e.k] = [0, 0, 0]))) else ((z002 e.op 1 3).bind fun x2 => (if x2 = true then ((z002 e.var 0 2).bind fun x4 => (if x4 = true then ((z002 e.k (-99) 99).bind fun x6 => (some x6)) else (some false))) else (some false)))
def z0at : Con := ⟨128, [.v (.s .ask) false], [(.B, true)], [], fun x => z07v x.1⟩
def z1nd : Fs := ⟨[z00o], []⟩
theorem z1o7 : z1nd.Ok Tryz.prog := (fsK z00t fs0)
theorem z0hu : z0at.Ok Tryz.prog := fn_ok (k := z0at) (fn := Tryz.f128) (W := []) (H := []) Tryz.func128 z1o7 trivial rfl rfl (fun av x => by kernel_rfl)
def z01n (e : GAsk) (data : List Int) : Option Bool := (z07v e).bind fun x1 => (if x1 = true then ((z02b data).bind fun x3 => (if x3 = true then (if decide (e.op = 1) = true then ((getI data e.var).bind fun x6 => (some (decide (x6 < e.k)))) else (if decide (e.op = 2) = true then ((getI data e.var).bind fun x8 => (some (decide (x8 = e.k)))) else (if decide (e.op = 3) = true then ((getI data e.var).bind fun x10 => (some (decide (e.k < x10)))) else (some true)))) else (some false))) else (some false))
def z057 : Con := ⟨156, [.v (.s .ask) false, .v (.sl .I) false], [(.B, true)], [], fun x => z01n x.1 x.2.1⟩
def z183 : Fs := ⟨[z0at, z013], []⟩
theorem z18f : z183.Ok Tryz.prog := (fsK z0hu (fsK z06l fs0))
theorem z08e : z057.Ok Tryz.prog := fn_ok (k := z057) (fn := Tryz.f156) (W := []) (H := []) Tryz.func156 z18f trivial rfl rfl (fun av x => by kernel_rfl)
def z00b (n : Int) (low : Int) (high : Int) : Option Bool := if decide (low ≤ n) = true then (some (decide (n ≤ high))) else (some false)
def z025 : Con := ⟨87, [.v .I false, .v .I false, .v .I false], [(.B, true)], [], fun x => z00b x.1 x.2.1 x.2.2.1⟩
def z20j : Fs := ⟨[], []⟩
theorem z20n : z20j.Ok Tryz.prog := fs0
theorem z02s : z025.Ok Tryz.prog := fn_ok (k := z025) (fn := Tryz.f87) (W := []) (H := []) Tryz.func87 z20n trivial rfl rfl (fun av x => by kernel_rfl)
def z053 (n : Int) : Option Bool := (z00b n (-99) 99).bind fun x1 => (some x1)
def z07y : Con := ⟨137, [.v .I false], [(.B, true)], [], fun x => z053 x.1⟩
def z1ca : Fs := ⟨[z025], []⟩
theorem z1d4 : z1ca.Ok Tryz.prog := (fsK z02s fs0)
theorem z0d7 : z07y.Ok Tryz.prog := fn_ok (k := z07y) (fn := Tryz.f137) (W := []) (H := []) Tryz.func137 z1d4 trivial rfl rfl (fun av x => by kernel_rfl)
def z00f (list : List Int) : Option (List Int) := gd (([] : List Int).length + list.length ≤ SMALL) (some (([] : List Int) ++ list))
def z01m : Con := ⟨143, [.v (.sl .I) false], [((.sl .I), true)], [], fun x => z00f x.1⟩
def z12l : Fs := ⟨[], []⟩
theorem z12u : z12l.Ok Tryz.prog := fs0
theorem z02p : z01m.Ok Tryz.prog := fn_ok (k := z01m) (fn := Tryz.f143) (W := []) (H := []) Tryz.func143 z12u trivial rfl rfl (fun av x => by kernel_rfl)
def z07p (e : GAsk) : Option Bool := if decide (e.op = 0) = true then (if decide (e.var = 0) = true then (some (decide (e.k = 0))) else (some false)) else ((z00b e.op 1 3).bind fun x3 => (if x3 = true then ((z00b e.var 0 2).bind fun x5 => (if x5 = true then ((z053 e.k).bind fun x7 => (some x7)) else (some false))) else (some false)))
def z0dh : Con := ⟨138, [.v (.s .ask) false], [(.B, true)], [], fun x => z07p x.1⟩
def z1n2 : Fs := ⟨[z025, z07y], []⟩
theorem z1o1 : z1n2.Ok Tryz.prog := (fsK z02s (fsK z0d7 fs0))
theorem z0ta : z0dh.Ok Tryz.prog := fn_ok (k := z0dh) (fn := Tryz.f138) (W := []) (H := []) Tryz.func138 z1o1 trivial rfl rfl (fun av x => by kernel_rfl)
def z0iu  : Option Bool := some true
def z02z (list : List Int) (low : Int) (high : Int) (kx0_0 : Option Bool) : Nat → Int → Option Bool
  | 0, _ => none
  | n0 + 1, s0_0 => if decide (s0_0 < (list.length : Int)) = true then ((getI list s0_0).bind fun x4 => ((z002 x4 low high).bind fun x5 => (if x5 = true then (if decide (0 < s0_0) = true then (gd (ok64 (s0_0 - 1)) ((getI list (s0_0 - 1)).bind fun x9 => ((getI list s0_0).bind fun x10 => (if decide (x10 ≤ x9) = true then (some false) else (gd (ok64 (s0_0 + 1)) ((z02z list low high kx0_0 n0) (s0_0 + 1))))))) else (gd (ok64 (s0_0 + 1)) ((z02z list low high kx0_0 n0) (s0_0 + 1)))) else (some false)))) else (kx0_0)
def z09u (list : List Int) (least : Int) (most : Int) (low : Int) (high : Int) : Option Bool := (z002 (list.length : Int) least most).bind fun x1 => (if x1 = true then (z02z list low high z0iu FUEL 0) else (some false))
def z03e : Con := ⟨225, [.v (.sl .I) false, .v .I false, .v .I false, .v .I false, .v .I false], [(.B, true)], [], fun x => z09u x.1 x.2.1 x.2.2.1 x.2.2.2.1 x.2.2.2.2.1⟩
def z1co : Fs := ⟨[z00o], []⟩
theorem z0ur : z1co.Ok Tryz.prog := (fsK z00t fs0)
def z0nu : Tmpl := ⟨[(0, .c (.s .I)), (3, .c .i), (4, .c .i), (11, .c .i)], []⟩
def z0jt : Tmpl := ⟨[], []⟩
def z12b (av : AV) (x : HP z03e.ps) (n : Nat) (v : z0nu.den) (K : Ks (CR z03e)) : Option (CR z03e) := z02z v.1.1 v.1.2.1 v.1.2.2.1 (z0jt.at none ((), ()) (K (.exit 0))) n v.1.2.2.2.1
def z0lg (av : AV) (x : HP z03e.ps) : Hdl (CR z03e) := hnd [] z0nu (z12b av x)
theorem z157 : LP z03e Tryz.f225 [0] z0lg := lp_ok (W := []) (H := []) (xs := [z0jt]) z0ur trivial rfl (fun av x v K => by kernel_rfl) (fun av x n v K => by kernel_rfl)
theorem z1f3 : z03e.Ok Tryz.prog := fn_ok (k := z03e) (fn := Tryz.f225) (W := []) (H := [z0lg]) Tryz.func225 z0ur ⟨z157, trivial⟩ rfl rfl (fun av x => by kernel_rfl)
def z0qj  : Option Bool := some false
def z076 (list : List Int) (n : Int) (kx0_0 : Option Bool) : Nat → Int → Option Bool
  | 0, _ => none
  | n0 + 1, s0_0 => if decide (s0_0 < (list.length : Int)) = true then ((getI list s0_0).bind fun x2 => (if decide (x2 = n) = true then (some true) else (gd (ok64 (s0_0 + 1)) ((z076 list n kx0_0 n0) (s0_0 + 1))))) else (kx0_0)
def z0b1 (list : List Int) (n : Int) : Option Bool := z076 list n z0qj FUEL 0
def z03s : Con := ⟨99, [.v (.sl .I) false, .v .I false], [(.B, true)], [], fun x => z0b1 x.1 x.2.1⟩
def z1nj : Fs := ⟨[], []⟩
theorem z132 : z1nj.Ok Tryz.prog := fs0
def z0wx : Tmpl := ⟨[(0, .c (.s .I)), (1, .c .i), (5, .c .i)], []⟩
def z0ru : Tmpl := ⟨[], []⟩
def z1b9 (av : AV) (x : HP z03s.ps) (n : Nat) (v : z0wx.den) (K : Ks (CR z03s)) : Option (CR z03s) := z076 v.1.1 v.1.2.1 (z0ru.at none ((), ()) (K (.exit 0))) n v.1.2.2.1
def z0v6 (av : AV) (x : HP z03s.ps) : Hdl (CR z03s) := hnd [] z0wx (z1b9 av x)
theorem z1dt : LP z03s Tryz.f99 [0] z0v6 := lp_ok (W := []) (H := []) (xs := [z0ru]) z132 trivial rfl (fun av x v K => by kernel_rfl) (fun av x n v K => by kernel_rfl)
theorem z0ti : z03s.Ok Tryz.prog := fn_ok (k := z03s) (fn := Tryz.f99) (W := []) (H := [z0v6]) Tryz.func99 z132 ⟨z1dt, trivial⟩ rfl rfl (fun av x => by kernel_rfl)
def z0ir (s0_0 : Int) (bk0 : Int → Option Bool) : Option Bool := gd (ok64 (s0_0 + 1)) (bk0 (s0_0 + 1))
def z024 (t : GTask) (s0_0 : Int) (x4 : GFlow) (kx1_0 : Option Bool) : Nat → Int → Option Bool
  | 0, _ => none
  | n1 + 1, s1_0 => if decide (s1_0 < s0_0) = true then ((getI t.out s1_0).bind fun x14 => (if decide (x14.to = x4.to) = true then (some false) else (gd (ok64 (s1_0 + 1)) ((z024 t s0_0 x4 kx1_0 n1) (s1_0 + 1))))) else (kx1_0)
def z0is (s0_0 : Int) (bk0 : Int → Option Bool) : Option Bool := gd (ok64 (s0_0 + 1)) (bk0 (s0_0 + 1))
def z0it  : Option Bool := some true
def z02y (t : GTask) (places : Int) (kx0_0 : Option Bool) : Nat → Int → Option Bool
  | 0, _ => none
  | n0 + 1, s0_0 => if decide (s0_0 < (t.out.length : Int)) = true then ((getI t.out s0_0).bind fun x4 => (gd (ok64 ((t.out.length : Int) - 1)) (if decide (s0_0 = ((t.out.length : Int) - 1)) = true then (gd (ok64 (places - 1)) ((z002 x4.to 1 (places - 1)).bind fun x8 => (if x8 = true then ((z07v x4.if_).bind fun x10 => (if x10 = true then (if (true == (decide (x4.if_.op = 0))) = true then (z024 t s0_0 x4 (z0ir s0_0 (z02y t places kx0_0 n0)) FUEL 0) else (some false)) else (some false))) else (some false)))) else (gd (ok64 (places - 1)) ((z002 x4.to 1 (places - 1)).bind fun x19 => (if x19 = true then ((z07v x4.if_).bind fun x21 => (if x21 = true then (if ((decide (t.split = 1)) == (decide (x4.if_.op = 0))) = true then (z024 t s0_0 x4 (z0is s0_0 (z02y t places kx0_0 n0)) FUEL 0) else (some false)) else (some false))) else (some false))))))) else (kx0_0)
def z0d6 (t : GTask) (places : Int) : Option Bool := (z002 (t.out.length : Int) 1 3).bind fun x1 => (if x1 = true then (z02y t places z0it FUEL 0) else (some false))
def z00x : Con := ⟨226, [.v (.s .task) false, .v .I false], [(.B, true)], [], fun x => z0d6 x.1 x.2.1⟩
def z1cn : Fs := ⟨[z00o, z0at], []⟩
theorem z0gv : z1cn.Ok Tryz.prog := (fsK z00t (fsK z0hu fs0))
def z0gk : Tmpl := ⟨[(1, .c .i), (2, .c (.bx 2 0)), (5, .c .i), (6, .c (.bx 6 0)), (8, .c .i)], [(2, .boxT (.s .task)), (6, .boxT (.s .flow))]⟩
def z0fn : Tmpl := ⟨[(1, .c .i), (2, .c (.bx 2 0)), (5, .c .i)], [(2, .boxT (.s .task))]⟩
def z0x1 (av : AV) (x : HP z00x.ps) (n : Nat) (v : z0gk.den) (K : Ks (CR z00x)) : Option (CR z00x) := z024 v.2.1 v.1.2.2.1 v.2.2.1 (z0fn.at none ((v.1.1, (), v.1.2.2.1, ()), (v.2.1, ())) (K (.exit 2))) n v.1.2.2.2.2.1
def z0g7 (av : AV) (x : HP z00x.ps) : Hdl (CR z00x) := hnd [] z0gk (z0x1 av x)
theorem z0xh : LP z00x Tryz.f226 [0, 0] z0g7 := lp_ok (W := []) (H := []) (xs := [z0fn]) z0gv trivial rfl (fun av x v K => by kernel_rfl) (fun av x n v K => by kernel_rfl)
def z0nt : Tmpl := ⟨[(1, .c .i), (2, .c (.bx 2 0)), (5, .c .i)], [(2, .boxT (.s .task))]⟩
def z0js : Tmpl := ⟨[], []⟩
def z12a (av : AV) (x : HP z00x.ps) (n : Nat) (v : z0nt.den) (K : Ks (CR z00x)) : Option (CR z00x) := z02y v.2.1 v.1.1 (z0js.at none ((), ()) (K (.exit 0))) n v.1.2.2.1
def z0lf (av : AV) (x : HP z00x.ps) : Hdl (CR z00x) := hnd [] z0nt (z12a av x)
theorem z156 : LP z00x Tryz.f226 [0] z0lf := lp_ok (W := []) (H := [z0g7]) (xs := [z0js]) z0gv ⟨z0xh, trivial⟩ rfl (fun av x v K => by kernel_rfl) (fun av x n v K => by kernel_rfl)
theorem z1f2 : z00x.Ok Tryz.prog := fn_ok (k := z00x) (fn := Tryz.f226) (W := []) (H := [z0lf]) Tryz.func226 z0gv ⟨z156, trivial⟩ rfl rfl (fun av x => by kernel_rfl)
def z0f3 (t : GTask) (places : Int) (tasks : Int) : Option Bool := (z002 t.join 1 3).bind fun x1 => (if x1 = true then ((z002 t.split 1 3).bind fun x3 => (if x3 = true then (gd (ok64 (places - 1)) ((z09u t.in_ 1 3 0 (places - 1)).bind fun x6 => (if x6 = true then ((z0b1 t.in_ 1).bind fun x8 => (if x8 = true then (some false) else ((z0d6 t places).bind fun x10 => (if x10 = true then (gd (ok64 (places - 1)) ((z09u t.clear 0 places 2 (places - 1)).bind fun x13 => (if x13 = true then ((z002 t.role 1 3).bind fun x15 => (if x15 = true then (gd (ok64 (tasks - 1)) ((z002 t.apart (-1) (tasks - 1)).bind fun x18 => (if x18 = true then ((z002 t.all 1 3).bind fun x20 => (if x20 = true then ((z002 t.need 1 t.all).bind fun x22 => (some x22)) else (some false))) else (some false)))) else (some false))) else (some false)))) else (some false))))) else (some false)))) else (some false))) else (some false))
def z0lt : Con := ⟨205, [.v (.s .task) false, .v .I false, .v .I false], [(.B, true)], [], fun x => z0f3 x.1 x.2.1 x.2.2.1⟩
def z1h7 : Fs := ⟨[z00o, z03e, z03s, z00x], []⟩
theorem z1if : z1h7.Ok Tryz.prog := (fsK z00t (fsK z1f3 (fsK z0ti (fsK z1f2 fs0))))
theorem z1kx : z0lt.Ok Tryz.prog := fn_ok (k := z0lt) (fn := Tryz.f205) (W := []) (H := []) Tryz.func205 z1if trivial rfl rfl (fun av x => by kernel_rfl)
def z0qc  : Option Bool := some true
def z074 (n : GNet) (kx0_0 : Option Bool) : Nat → Int → Option Bool
  | 0, _ => none
  | n0 + 1, s0_0 => if decide (s0_0 < (n.tasks.length : Int)) = true then ((getI n.tasks s0_0).bind fun x6 => ((z0f3 x6 n.places (n.tasks.length : Int)).bind fun x7 => (if x7 = true then (gd (ok64 (s0_0 + 1)) ((z074 n kx0_0 n0) (s0_0 + 1))) else (some false)))) else (kx0_0)
def z092 (n : GNet) : Option Bool := (z002 n.places 2 8).bind fun x1 => (if x1 = true then ((z002 (n.tasks.length : Int) 1 6).bind fun x3 => (if x3 = true then (z074 n z0qc FUEL 0) else (some false))) else (some false))
def z02v : Con := ⟨155, [.v (.s .net) false], [(.B, true)], [], fun x => z092 x.1⟩
def z1nf : Fs := ⟨[z00o, z0lt], []⟩
theorem z12z : z1nf.Ok Tryz.prog := (fsK z00t (fsK z1kx fs0))
def z0wt : Tmpl := ⟨[(1, .c (.bx 1 0)), (3, .c .i)], [(1, .boxT (.s .net))]⟩
def z0rr : Tmpl := ⟨[], []⟩
def z1b5 (av : AV) (x : HP z02v.ps) (n : Nat) (v : z0wt.den) (K : Ks (CR z02v)) : Option (CR z02v) := z074 v.2.1 (z0rr.at none ((), ()) (K (.exit 0))) n v.1.2.1
def z0v2 (av : AV) (x : HP z02v.ps) : Hdl (CR z02v) := hnd [] z0wt (z1b5 av x)
theorem z1dp : LP z02v Tryz.f155 [0] z0v2 := lp_ok (W := []) (H := []) (xs := [z0rr]) z12z trivial rfl (fun av x v K => by kernel_rfl) (fun av x n v K => by kernel_rfl)
theorem z0hw : z02v.Ok Tryz.prog := fn_ok (k := z02v) (fn := Tryz.f155) (W := []) (H := [z0v2]) Tryz.func155 z12z ⟨z1dp, trivial⟩ rfl rfl (fun av x => by kernel_rfl)
def z0b2 (s1_0 : Int) (bk1 : Int → List Bool → Option (List Bool)) (l3_1 : List Bool) : Option (List Bool) := gd (ok64 (s1_0 + 1)) (bk1 (s1_0 + 1) l3_1)
def z0b3 (s1_0 : Int) (bk1 : Int → List Bool → Option (List Bool)) (l3_1 : List Bool) : Option (List Bool) := gd (ok64 (s1_0 + 1)) (bk1 (s1_0 + 1) l3_1)
def z0b4 (s1_0 : Int) (bk1 : Int → List Bool → Option (List Bool)) (l3_1 : List Bool) : Option (List Bool) := gd (ok64 (s1_0 + 1)) (bk1 (s1_0 + 1) l3_1)
def z01f (n : GNet) (but : Int) (s1_0 : Int) (s2_0 : Bool) (kx3_0 : List Bool → Option (List Bool)) (kx3_1 : List Bool → Option (List Bool)) (kx3_2 : List Bool → Option (List Bool)) : Nat → Int → List Bool → Option (List Bool)
  | 0, _, _ => none
  | n3 + 1, s3_0, l3_1 => (getI n.tasks s1_0).bind fun x12 => (if decide (s3_0 < (x12.out.length : Int)) = true then (if s2_0 = true then (if decide (s1_0 = but) = true then (kx3_0 l3_1) else ((getI n.tasks s1_0).bind fun x17 => ((getI x17.out s3_0).bind fun x18 => ((getI l3_1 x18.to).bind fun x19 => (gd (ok64 (s3_0 + 1)) ((z01f n but s1_0 s2_0 kx3_0 kx3_1 kx3_2 n3) (s3_0 + 1) (l3_1.set x18.to.toNat true))))))) else (kx3_1 l3_1)) else (kx3_2 l3_1))
def z0gc (n : GNet) (but : Int) (s1_0 : Int) (l1_1 : List Bool) (bk1 : Int → List Bool → Option (List Bool)) (s2_0 : Bool) : Option (List Bool) := z01f n but s1_0 s2_0 (z0b2 s1_0 bk1) (z0b3 s1_0 bk1) (z0b4 s1_0 bk1) FUEL 0 l1_1
def z01u (n : GNet) (s1_0 : Int) (l1_1 : List Bool) (kx2_0 : Bool → Option (List Bool)) : Nat → Bool → Int → Option (List Bool)
  | 0, _, _ => none
  | n2 + 1, s2_0, s2_1 => (getI n.tasks s1_0).bind fun x4 => (if decide (s2_1 < (x4.in_.length : Int)) = true then (if s2_0 = true then (gd (ok64 (s2_1 + 1)) ((z01u n s1_0 l1_1 kx2_0 n2) true (s2_1 + 1))) else ((getI n.tasks s1_0).bind fun x8 => ((getI x8.in_ s2_1).bind fun x9 => ((getI l1_1 x9).bind fun x10 => (gd (ok64 (s2_1 + 1)) ((z01u n s1_0 l1_1 kx2_0 n2) x10 (s2_1 + 1))))))) else (kx2_0 s2_0))
def z0gd (s0_0 : Int) (bk0 : Int → List Bool → Option (List Bool)) (l1_1 : List Bool) : Option (List Bool) := gd (ok64 (s0_0 + 1)) (bk0 (s0_0 + 1) l1_1)
def z00d (n : GNet) (but : Int) (kx1_0 : List Bool → Option (List Bool)) : Nat → Int → List Bool → Option (List Bool)
  | 0, _, _ => none
  | n1 + 1, s1_0, l1_1 => if decide (s1_0 < (n.tasks.length : Int)) = true then (z01u n s1_0 l1_1 (z0gc n but s1_0 l1_1 (z00d n but kx1_0 n1)) FUEL false 0) else (kx1_0 l1_1)
def z0ge (l0_1 : List Bool) : Option (List Bool) := some l0_1
def z03n (n : GNet) (but : Int) (kx0_0 : List Bool → Option (List Bool)) : Nat → Int → List Bool → Option (List Bool)
  | 0, _, _ => none
  | n0 + 1, s0_0, l0_1 => if decide (s0_0 < n.places) = true then (z00d n but (z0gd s0_0 (z03n n but kx0_0 n0)) FUEL 0 l0_1) else (kx0_0 l0_1)
def z0bl (n : GNet) (marked : List Bool) (but : Int) : Option (List Bool) := gd (([] : List Bool).length + marked.length ≤ SMALL) (z03n n but z0ge FUEL 0 (([] : List Bool) ++ marked))
def z005 : Con := ⟨228, [.v (.s .net) false, .v (.sl .B) false, .v .I false], [((.sl .B), true)], [], fun x => z0bl x.1 x.2.1 x.2.2.1⟩
def z184 : Fs := ⟨[], []⟩
theorem z087 : z184.Ok Tryz.prog := fs0
def z0cn : Tmpl := ⟨[(2, .c .i), (3, .c (.bx 3 0)), (7, .c (.ref 15)), (8, .c .i), (9, .c .i), (10, .c .b), (11, .c .i)], [(3, .boxT (.s .net)), (15, .arr .B true)]⟩
def z0c3 : Tmpl := ⟨[(2, .c .i), (3, .c (.bx 3 0)), (7, .c (.ref 15)), (8, .c .i), (9, .c .i), (10, .c .b)], [(3, .boxT (.s .net)), (15, .arr .B true)]⟩
def z0ot (av : AV) (x : HP z005.ps) (n : Nat) (v : z0cn.den) (K : Ks (CR z005)) : Option (CR z005) := z01u v.2.1 v.1.2.2.2.2.1 v.2.2.1 (fun s2_0 => z0c3.at none ((v.1.1, (), (), v.1.2.2.2.1, v.1.2.2.2.2.1, s2_0, ()), (v.2.1, v.2.2.1, ())) (K (.exit 4))) n v.1.2.2.2.2.2.1 v.1.2.2.2.2.2.2.1
def z0cf (av : AV) (x : HP z005.ps) : Hdl (CR z005) := hnd [] z0cn (z0ot av x)
theorem z0p5 : LP z005 Tryz.f228 [0, 0, 0] z0cf := lp_ok (W := []) (H := []) (xs := [z0c3]) z087 trivial rfl (fun av x v K => by kernel_rfl) (fun av x n v K => by kernel_rfl)
def z0co : Tmpl := ⟨[(2, .c .i), (3, .c (.bx 3 0)), (7, .c (.ref 15)), (8, .c .i), (9, .c .i), (10, .c .b), (12, .c .i)], [(3, .boxT (.s .net)), (15, .arr .B true)]⟩
def z055 : Tmpl := ⟨[(2, .c .i), (3, .c (.bx 3 0)), (7, .c (.ref 15)), (8, .c .i), (9, .c .i)], [(3, .boxT (.s .net)), (15, .arr .B true)]⟩
def z0ou (av : AV) (x : HP z005.ps) (n : Nat) (v : z0co.den) (K : Ks (CR z005)) : Option (CR z005) := z01f v.2.1 v.1.1 v.1.2.2.2.2.1 v.1.2.2.2.2.2.1 (fun l3_1 => z055.at none ((v.1.1, (), (), v.1.2.2.2.1, v.1.2.2.2.2.1, ()), (v.2.1, l3_1, ())) (K (.exit 6))) (fun l3_1 => z055.at none ((v.1.1, (), (), v.1.2.2.2.1, v.1.2.2.2.2.1, ()), (v.2.1, l3_1, ())) (K (.exit 6))) (fun l3_1 => z055.at none ((v.1.1, (), (), v.1.2.2.2.1, v.1.2.2.2.2.1, ()), (v.2.1, l3_1, ())) (K (.exit 6))) n v.1.2.2.2.2.2.2.1 v.2.2.1
def z0cg (av : AV) (x : HP z005.ps) : Hdl (CR z005) := hnd [] z0co (z0ou av x)
theorem z0p6 : LP z005 Tryz.f228 [0, 0, 1] z0cg := lp_ok (W := []) (H := []) (xs := [z055]) z087 trivial rfl (fun av x v K => by kernel_rfl) (fun av x n v K => by kernel_rfl)
def z0fk : Tmpl := ⟨[(2, .c .i), (3, .c (.bx 3 0)), (7, .c (.ref 15)), (8, .c .i), (9, .c .i)], [(3, .boxT (.s .net)), (15, .arr .B true)]⟩
def z0e3 : Tmpl := ⟨[(2, .c .i), (3, .c (.bx 3 0)), (7, .c (.ref 15)), (8, .c .i)], [(3, .boxT (.s .net)), (15, .arr .B true)]⟩
def z0tq (av : AV) (x : HP z005.ps) (n : Nat) (v : z0fk.den) (K : Ks (CR z005)) : Option (CR z005) := z00d v.2.1 v.1.1 (fun l1_1 => z0e3.at none ((v.1.1, (), (), v.1.2.2.2.1, ()), (v.2.1, l1_1, ())) (K (.exit 2))) n v.1.2.2.2.2.1 v.2.2.1
def z0ec (av : AV) (x : HP z005.ps) : Hdl (CR z005) := hnd [] z0fk (z0tq av x)
theorem z0vn : LP z005 Tryz.f228 [0, 0] z0ec := lp_ok (W := []) (H := [z0cf, z0cg]) (xs := [z0e3]) z087 ⟨z0p5, z0p6, trivial⟩ rfl (fun av x v K => by kernel_rfl) (fun av x n v K => by kernel_rfl)
def z0ix : Tmpl := ⟨[(2, .c .i), (3, .c (.bx 3 0)), (7, .c (.ref 15)), (8, .c .i)], [(3, .boxT (.s .net)), (15, .arr .B true)]⟩
def z0gn : Tmpl := ⟨[(7, .c (.ref 15))], [(15, .arr .B true)]⟩
def z10c (av : AV) (x : HP z005.ps) (n : Nat) (v : z0ix.den) (K : Ks (CR z005)) : Option (CR z005) := z03n v.2.1 v.1.1 (fun l0_1 => z0gn.at none (((), ()), (l0_1, ())) (K (.exit 0))) n v.1.2.2.2.1 v.2.2.1
def z0ia (av : AV) (x : HP z005.ps) : Hdl (CR z005) := hnd [] z0ix (z10c av x)
theorem z10p : LP z005 Tryz.f228 [0] z0ia := lp_ok (W := []) (H := [z0ec]) (xs := [z0gn]) z087 ⟨z0vn, trivial⟩ rfl (fun av x v K => by kernel_rfl) (fun av x n v K => by kernel_rfl)
theorem z19h : z005.Ok Tryz.prog := fn_ok (k := z005) (fn := Tryz.f228) (W := []) (H := [z0ia]) Tryz.func228 z087 ⟨z10p, trivial⟩ rfl rfl (fun av x => by kernel_rfl)
def z0es (kind : Int) : Option Bool := (z00b kind 1 3).bind fun x1 => (some x1)
def z0lo : Con := ⟨207, [.v .I false], [(.B, true)], [], fun x => z0es x.1⟩
def z1gu : Fs := ⟨[z025], []⟩
theorem z1i7 : z1gu.Ok Tryz.prog := (fsK z02s fs0)
theorem z1kk : z0lo.Ok Tryz.prog := fn_ok (k := z0lo) (fn := Tryz.f207) (W := []) (H := []) Tryz.func207 z1i7 trivial rfl rfl (fun av x => by kernel_rfl)
def z0bv (role : Int) : Option Bool := (z00b role 1 3).bind fun x1 => (some x1)
def z0ef : Con := ⟨210, [.v .I false], [(.B, true)], [], fun x => z0bv x.1⟩
def z1gv : Fs := ⟨[z025], []⟩
theorem z1i8 : z1gv.Ok Tryz.prog := (fsK z02s fs0)
theorem z0zx : z0ef.Ok Tryz.prog := fn_ok (k := z0ef) (fn := Tryz.f210) (W := []) (H := []) Tryz.func210 z1i8 trivial rfl rfl (fun av x => by kernel_rfl)
def z0hj (places : Int) (tasks : Int) : Option Bool := (z00b places 2 8).bind fun x1 => (if x1 = true then ((z00b tasks 1 6).bind fun x3 => (some x3)) else (some false))
def z0h3 : Con := ⟨160, [.v .I false, .v .I false], [(.B, true)], [], fun x => z0hj x.1 x.2.1⟩
def z1cd : Fs := ⟨[z025], []⟩
theorem z1d6 : z1cd.Ok Tryz.prog := (fsK z02s fs0)
theorem z1es : z0h3.Ok Tryz.prog := fn_ok (k := z0h3) (fn := Tryz.f160) (W := []) (H := []) Tryz.func160 z1d6 trivial rfl rfl (fun av x => by kernel_rfl)
def z00i (n : GNet) (t : Int) : Option Bool := gd (ok64 ((n.tasks.length : Int) - 1)) ((z00b t 0 ((n.tasks.length : Int) - 1)).bind fun x2 => (some x2))
def z01h : Con := ⟨169, [.v (.s .net) false, .v .I false], [(.B, true)], [], fun x => z00i x.1 x.2.1⟩
def z0ox : Fs := ⟨[z025], []⟩
theorem z0p0 : z0ox.Ok Tryz.prog := (fsK z02s fs0)
theorem z032 : z01h.Ok Tryz.prog := fn_ok (k := z01h) (fn := Tryz.f169) (W := []) (H := []) Tryz.func169 z0p0 trivial rfl rfl (fun av x => by kernel_rfl)
def z06i (t : GTask) : Option GTask := (z00f t.in_).bind fun x1 => (gd (([] : List GFlow).length + t.out.length ≤ SMALL) ((z00f t.clear).bind fun x3 => (some (GTask.mk t.join t.split x1 (([] : List GFlow) ++ t.out) x3 t.role t.apart t.all t.need))))
def z08w : Con := ⟨200, [.v (.s .task) false], [((.s .task), true)], [], fun x => z06i x.1⟩
def z0s3 : Fs := ⟨[z01m], []⟩
theorem z0s8 : z0s3.Ok Tryz.prog := (fsK z02p fs0)
theorem z0tc : z08w.Ok Tryz.prog := fn_ok (k := z08w) (fn := Tryz.f200) (W := []) (H := []) Tryz.func200 z0s8 trivial rfl rfl (fun av x => by kernel_rfl)
def z07q (p0_3 : Int) (l0_1 : List GTask) : Option GNet := some (GNet.mk p0_3 l0_1)
def z01t (p0_0 : List GTask) (p0_1 : Int) (kx0_0 : List GTask → Option GNet) : Nat → Int → List GTask → Option GNet
  | 0, _, _ => none
  | n0 + 1, s0_0, l0_1 => if decide (s0_0 < p0_1) = true then ((getI p0_0 s0_0).bind fun x2 => ((z06i x2).bind fun x3 => (gd (l0_1.length + [x3].length ≤ SMALL) (gd (ok64 (s0_0 + 1)) ((z01t p0_0 p0_1 kx0_0 n0) (s0_0 + 1) (l0_1 ++ [x3])))))) else (kx0_0 l0_1)
def z07g (n : GNet) : Option GNet := z01t n.tasks (n.tasks.length : Int) (z07q n.places) FUEL 0 ([] : List GTask)
def z012 : Con := ⟨145, [.v (.s .net) false], [((.s .net), true)], [], fun x => z07g x.1⟩
def z0tz : Fs := ⟨[z08w], []⟩
theorem z0e7 : z0tz.Ok Tryz.prog := (fsK z0tc fs0)
def z0cl : Tmpl := ⟨[(2, .c (.bx 2 0)), (3, .c (.bx 3 0)), (10, .c (.s (.s .task))), (11, .c .i), (12, .c .i)], [(2, .box [.i, .nl]), (3, .box [.i, .ref 510301]), (510301, .arr (.s .task) true)]⟩
def z0c1 : Tmpl := ⟨[(2, .c (.bx 2 0)), (3, .c (.bx 3 0))], [(2, .box [.i, .nl]), (3, .box [.i, .ref 510301]), (510301, .arr (.s .task) true)]⟩
def z0or (av : AV) (x : HP z012.ps) (n : Nat) (v : z0cl.den) (K : Ks (CR z012)) : Option (CR z012) := z01t v.1.2.2.1 v.1.2.2.2.1 (fun l0_1 => z0c1.at none (((), (), ()), ((v.2.1.1, (), ()), (v.2.2.1.1, (), ()), l0_1, ())) (K (.exit 0))) n v.1.2.2.2.2.1 v.2.2.2.1
def z0cd (av : AV) (x : HP z012.ps) : Hdl (CR z012) := hnd [.b 3 1 510301 (.s .task)] z0cl (z0or av x)
theorem z0p3 : LP z012 Tryz.f145 [0] z0cd := lp_ok (W := []) (H := []) (xs := [z0c1]) z0e7 trivial rfl (fun av x v K => by kernel_rfl) (fun av x n v K => by kernel_rfl)
theorem z0w5 : z012.Ok Tryz.prog := fn_ok (k := z012) (fn := Tryz.f145) (W := []) (H := [z0cd]) Tryz.func145 z0e7 ⟨z0p3, trivial⟩ rfl rfl (fun av x => by kernel_rfl)
def z0qb  : Option Bool := some true
def z073 (marks : List Int) (kx0_0 : Option Bool) : Nat → Int → Option Bool
  | 0, _ => none
  | n0 + 1, s0_0 => if decide (s0_0 < (marks.length : Int)) = true then ((getI marks s0_0).bind fun x5 => ((z002 x5 0 4).bind fun x6 => (if x6 = true then (gd (ok64 (s0_0 + 1)) ((z073 marks kx0_0 n0) (s0_0 + 1))) else (some false)))) else (kx0_0)
def z091 (n : GNet) (marks : List Int) : Option Bool := (z092 n).bind fun x1 => (if x1 = true then (if decide ((marks.length : Int) = n.places) = true then (z073 marks z0qb FUEL 0) else (some false)) else (some false))
def z02u : Con := ⟨157, [.v (.s .net) false, .v (.sl .I) false], [(.B, true)], [], fun x => z091 x.1 x.2.1⟩
def z1ne : Fs := ⟨[z02v, z00o], []⟩
theorem z12y : z1ne.Ok Tryz.prog := (fsK z0hw (fsK z00t fs0))
def z0ws : Tmpl := ⟨[(1, .c (.s .I)), (5, .c .i)], []⟩
def z0rq : Tmpl := ⟨[], []⟩
def z1b4 (av : AV) (x : HP z02u.ps) (n : Nat) (v : z0ws.den) (K : Ks (CR z02u)) : Option (CR z02u) := z073 v.1.1 (z0rq.at none ((), ()) (K (.exit 0))) n v.1.2.1
def z0v1 (av : AV) (x : HP z02u.ps) : Hdl (CR z02u) := hnd [] z0ws (z1b4 av x)
theorem z1do : LP z02u Tryz.f157 [0] z0v1 := lp_ok (W := []) (H := []) (xs := [z0rq]) z12y trivial rfl (fun av x v K => by kernel_rfl) (fun av x n v K => by kernel_rfl)
theorem z0hv : z02u.Ok Tryz.prog := fn_ok (k := z02u) (fn := Tryz.f157) (W := []) (H := [z0v1]) Tryz.func157 z12y ⟨z1do, trivial⟩ rfl rfl (fun av x => by kernel_rfl)
def z09v (s0_0 : Bool) (s0_1 : Bool) : Option (Bool × Bool) := some (s0_0, s0_1)
def z01p (marks : List Int) (list : List Int) (kx0_0 : Bool → Bool → Option (Bool × Bool)) : Nat → Bool → Bool → Int → Option (Bool × Bool)
  | 0, _, _, _ => none
  | n0 + 1, s0_0, s0_1, s0_2 => if decide (s0_2 < (list.length : Int)) = true then (if s0_0 = true then (if s0_1 = true then ((getI list s0_2).bind fun x4 => ((getI marks x4).bind fun x5 => (gd (ok64 (s0_2 + 1)) ((z01p marks list kx0_0 n0) true (decide (0 < x5)) (s0_2 + 1))))) else (gd (ok64 (s0_2 + 1)) ((z01p marks list kx0_0 n0) true false (s0_2 + 1)))) else ((getI list s0_2).bind fun x8 => ((getI marks x8).bind fun x9 => (if s0_1 = true then ((getI list s0_2).bind fun x11 => ((getI marks x11).bind fun x12 => (gd (ok64 (s0_2 + 1)) ((z01p marks list kx0_0 n0) (decide (0 < x9)) (decide (0 < x12)) (s0_2 + 1))))) else (gd (ok64 (s0_2 + 1)) ((z01p marks list kx0_0 n0) (decide (0 < x9)) false (s0_2 + 1))))))) else (kx0_0 s0_0 s0_1)
def z0f4 (marks : List Int) (list : List Int) : Option (Bool × Bool) := z01p marks list z09v FUEL false true 0
def z04z : Con := ⟨214, [.v (.sl .I) false, .v (.sl .I) false], [(.B, true), (.B, true)], [], fun x => z0f4 x.1 x.2.1⟩
def z1h9 : Fs := ⟨[], []⟩
theorem z0yw : z1h9.Ok Tryz.prog := fs0
def z0r9 : Tmpl := ⟨[(0, .c (.s .I)), (1, .c (.s .I)), (6, .c .b), (7, .c .b), (8, .c .i)], []⟩
def z0oh : Tmpl := ⟨[(6, .c .b), (7, .c .b)], []⟩
def z17m (av : AV) (x : HP z04z.ps) (n : Nat) (v : z0r9.den) (K : Ks (CR z04z)) : Option (CR z04z) := z01p v.1.1 v.1.2.1 (fun s0_0 s0_1 => z0oh.at none ((s0_0, s0_1, ()), ()) (K (.exit 0))) n v.1.2.2.1 v.1.2.2.2.1 v.1.2.2.2.2.1
def z0pw (av : AV) (x : HP z04z.ps) : Hdl (CR z04z) := hnd [] z0r9 (z17m av x)
theorem z192 : LP z04z Tryz.f214 [0] z0pw := lp_ok (W := []) (H := []) (xs := [z0oh]) z0yw trivial rfl (fun av x v K => by kernel_rfl) (fun av x n v K => by kernel_rfl)
theorem z1ky : z04z.Ok Tryz.prog := fn_ok (k := z04z) (fn := Tryz.f214) (W := []) (H := [z0pw]) Tryz.func214 z0yw ⟨z192, trivial⟩ rfl rfl (fun av x => by kernel_rfl)
def z03p (s1_0 : Int) (bk1 : Int → List Bool → Option Bool) (l2_1 : List Bool) : Option Bool := gd (ok64 (s1_0 + 1)) (bk1 (s1_0 + 1) l2_1)
def z02c (p2_0 : List GFlow) (kx2_0 : List Bool → Option Bool) : Nat → Int → List Bool → Option Bool
  | 0, _, _ => none
  | n2 + 1, s2_0, l2_1 => if decide (s2_0 < (p2_0.length : Int)) = true then ((getI p2_0 s2_0).bind fun x15 => ((getI l2_1 x15.to).bind fun x16 => (gd (ok64 (s2_0 + 1)) ((z02c p2_0 kx2_0 n2) (s2_0 + 1) (l2_1.set x15.to.toNat true))))) else (kx2_0 l2_1)
def z0b5  : Option Bool := some false
def z01x (n : GNet) (marks : List Int) (t : Int) (x19 : (List Bool)) (kx3_0 : Option Bool) : Nat → Int → Option Bool
  | 0, _ => none
  | n3 + 1, s3_0 => (getI n.tasks t).bind fun x20 => (if decide (s3_0 < (x20.in_.length : Int)) = true then ((getI n.tasks t).bind fun x22 => ((getI x22.in_ s3_0).bind fun x23 => ((getI marks x23).bind fun x24 => (if decide (x24 = 0) = true then ((getI n.tasks t).bind fun x26 => ((getI x26.in_ s3_0).bind fun x27 => ((getI x19 x27).bind fun x28 => (if x28 = true then (some true) else (gd (ok64 (s3_0 + 1)) ((z01x n marks t x19 kx3_0 n3) (s3_0 + 1))))))) else (gd (ok64 (s3_0 + 1)) ((z01x n marks t x19 kx3_0 n3) (s3_0 + 1))))))) else (kx3_0))
def z01v (n : GNet) (marks : List Int) (t : Int) (l1_1 : List Bool) : Option Bool := (z0bl n l1_1 t).bind fun x19 => (z01x n marks t x19 z0b5 FUEL 0)
def z010 (n : GNet) (busy : List GItem) (kx1_0 : List Bool → Option Bool) : Nat → Int → List Bool → Option Bool
  | 0, _, _ => none
  | n1 + 1, s1_0, l1_1 => if decide (s1_0 < (busy.length : Int)) = true then ((getI busy s1_0).bind fun x12 => ((getI n.tasks x12.task).bind fun x13 => (z02c x13.out (z03p s1_0 (z010 n busy kx1_0 n1)) FUEL 0 l1_1))) else (kx1_0 l1_1)
def z03o (n : GNet) (marks : List Int) (busy : List GItem) (t : Int) (l0_1 : List Bool) : Option Bool := z010 n busy (z01v n marks t) FUEL 0 l0_1
def z01w (n : GNet) (marks : List Int) (t : Int) (kx0_0 : List Bool → Option Bool) : Nat → Int → List Bool → Option Bool
  | 0, _, _ => none
  | n0 + 1, s0_0, l0_1 => if decide (s0_0 < n.places) = true then ((getI marks s0_0).bind fun x3 => (if decide (0 < x3) = true then ((getI n.tasks t).bind fun x5 => ((z0b1 x5.in_ s0_0).bind fun x6 => ((getI l0_1 s0_0).bind fun x7 => (gd (ok64 (s0_0 + 1)) ((z01w n marks t kx0_0 n0) (s0_0 + 1) (l0_1.set s0_0.toNat (!x6))))))) else ((getI l0_1 s0_0).bind fun x9 => (gd (ok64 (s0_0 + 1)) ((z01w n marks t kx0_0 n0) (s0_0 + 1) (l0_1.set s0_0.toNat false)))))) else (kx0_0 l0_1)
def z0bm (n : GNet) (marks : List Int) (busy : List GItem) (t : Int) : Option Bool := gd ((0 : Int) ≤ n.places ∧ n.places ≤ (1000000000 : Int)) (z01w n marks t (z03o n marks busy t) FUEL 0 (List.replicate n.places.toNat false))
def z006 : Con := ⟨215, [.v (.s .net) false, .v (.sl .I) false, .v (.sl (.s .item)) false, .v .I false], [(.B, true)], [], fun x => z0bm x.1 x.2.1 x.2.2.1 x.2.2.2.1⟩
def z185 : Fs := ⟨[z03s, z005], []⟩
theorem z088 : z185.Ok Tryz.prog := (fsK z0ti (fsK z19h fs0))
def z0fl : Tmpl := ⟨[(1, .c (.s .I)), (2, .c (.s (.s .item))), (3, .c .i), (4, .c (.bx 4 0)), (9, .c (.ref 18)), (11, .c .i), (12, .c (.s (.s .flow))), (13, .c .i)], [(4, .boxT (.s .net)), (18, .arr .B true)]⟩
def z0e4 : Tmpl := ⟨[(1, .c (.s .I)), (2, .c (.s (.s .item))), (3, .c .i), (4, .c (.bx 4 0)), (9, .c (.ref 18)), (11, .c .i)], [(4, .boxT (.s .net)), (18, .arr .B true)]⟩
def z0tr (av : AV) (x : HP z006.ps) (n : Nat) (v : z0fl.den) (K : Ks (CR z006)) : Option (CR z006) := z02c v.1.2.2.2.2.2.2.1 (fun l2_1 => z0e4.at none ((v.1.1, v.1.2.1, v.1.2.2.1, (), (), v.1.2.2.2.2.2.1, ()), (v.2.1, l2_1, ())) (K (.exit 4))) n v.1.2.2.2.2.2.2.2.1 v.2.2.1
def z0ed (av : AV) (x : HP z006.ps) : Hdl (CR z006) := hnd [] z0fl (z0tr av x)
theorem z0vo : LP z006 Tryz.f215 [1, 0] z0ed := lp_ok (W := []) (H := []) (xs := [z0e4]) z088 trivial rfl (fun av x v K => by kernel_rfl) (fun av x n v K => by kernel_rfl)
def z0iy : Tmpl := ⟨[(1, .c (.s .I)), (2, .c (.s (.s .item))), (3, .c .i), (4, .c (.bx 4 0)), (9, .c (.ref 18)), (10, .c .i)], [(4, .boxT (.s .net)), (18, .arr .B true)]⟩
def z0go : Tmpl := ⟨[(1, .c (.s .I)), (2, .c (.s (.s .item))), (3, .c .i), (4, .c (.bx 4 0)), (9, .c (.ref 18))], [(4, .boxT (.s .net)), (18, .arr .B true)]⟩
def z10d (av : AV) (x : HP z006.ps) (n : Nat) (v : z0iy.den) (K : Ks (CR z006)) : Option (CR z006) := z01w v.2.1 v.1.1 v.1.2.2.1 (fun l0_1 => z0go.at none ((v.1.1, v.1.2.1, v.1.2.2.1, (), (), ()), (v.2.1, l0_1, ())) (K (.exit 0))) n v.1.2.2.2.2.2.1 v.2.2.1
def z0ib (av : AV) (x : HP z006.ps) : Hdl (CR z006) := hnd [] z0iy (z10d av x)
theorem z10q : LP z006 Tryz.f215 [0] z0ib := lp_ok (W := []) (H := []) (xs := [z0go]) z088 trivial rfl (fun av x v K => by kernel_rfl) (fun av x n v K => by kernel_rfl)
def z0iz : Tmpl := ⟨[(1, .c (.s .I)), (2, .c (.s (.s .item))), (3, .c .i), (4, .c (.bx 4 0)), (9, .c (.ref 18)), (11, .c .i)], [(4, .boxT (.s .net)), (18, .arr .B true)]⟩
def z0gp : Tmpl := ⟨[(1, .c (.s .I)), (3, .c .i), (4, .c (.bx 4 0)), (9, .c (.ref 18))], [(4, .boxT (.s .net)), (18, .arr .B true)]⟩
def z10e (av : AV) (x : HP z006.ps) (n : Nat) (v : z0iz.den) (K : Ks (CR z006)) : Option (CR z006) := z010 v.2.1 v.1.2.1 (fun l1_1 => z0gp.at none ((v.1.1, v.1.2.2.1, (), (), ()), (v.2.1, l1_1, ())) (K (.exit 2))) n v.1.2.2.2.2.2.1 v.2.2.1
def z0ic (av : AV) (x : HP z006.ps) : Hdl (CR z006) := hnd [] z0iz (z10e av x)
theorem z10r : LP z006 Tryz.f215 [1] z0ic := lp_ok (W := []) (H := [z0ed]) (xs := [z0gp]) z088 ⟨z0vo, trivial⟩ rfl (fun av x v K => by kernel_rfl) (fun av x n v K => by kernel_rfl)
def z0j0 : Tmpl := ⟨[(1, .c (.s .I)), (3, .c .i), (4, .c (.bx 4 0)), (14, .c (.ref 76)), (15, .c .i)], [(4, .boxT (.s .net)), (76, .arr .B true)]⟩
def z0gq : Tmpl := ⟨[], []⟩
def z10f (av : AV) (x : HP z006.ps) (n : Nat) (v : z0j0.den) (K : Ks (CR z006)) : Option (CR z006) := z01x v.2.1 v.1.1 v.1.2.1 v.2.2.1 (z0gq.at none ((), ()) (K (.exit 6))) n v.1.2.2.2.2.1
def z0id (av : AV) (x : HP z006.ps) : Hdl (CR z006) := hnd [] z0j0 (z10f av x)
theorem z10s : LP z006 Tryz.f215 [2] z0id := lp_ok (W := []) (H := []) (xs := [z0gq]) z088 trivial rfl (fun av x v K => by kernel_rfl) (fun av x n v K => by kernel_rfl)
theorem z19i : z006.Ok Tryz.prog := fn_ok (k := z006) (fn := Tryz.f215) (W := []) (H := [z0ib, z0ic, z0id]) Tryz.func215 z088 ⟨z10q, z10r, z10s, trivial⟩ rfl rfl (fun av x => by kernel_rfl)
def z0ho (n : GNet) (marks : List Int) (busy : List GItem) (t : Int) : Option Bool := (getI n.tasks t).bind fun x1 => ((z0f4 marks x1.in_).bind fun x2 => ((getI n.tasks t).bind fun x3 => (if decide (x3.join = 1) = true then (some x2.2) else (if decide (x3.join = 2) = true then (some x2.1) else (if x2.1 = true then (if x2.2 = true then (some true) else ((z0bm n marks busy t).bind fun x8 => (some (!x8)))) else (some false))))))
def z0sh : Con := ⟨172, [.v (.s .net) false, .v (.sl .I) false, .v (.sl (.s .item)) false, .v .I false], [(.B, true)], [], fun x => z0ho x.1 x.2.1 x.2.2.1 x.2.2.2.1⟩
def z1nk : Fs := ⟨[z04z, z006], []⟩
theorem z1o8 : z1nk.Ok Tryz.prog := (fsK z1ky (fsK z19i fs0))
theorem z1pm : z0sh.Ok Tryz.prog := fn_ok (k := z0sh) (fn := Tryz.f172) (W := []) (H := []) Tryz.func172 z1o8 trivial rfl rfl (fun av x => by kernel_rfl)
def z0mr  : Option Bool := some true
def z05r (n : GNet) (busy : List GItem) (kx0_0 : Option Bool) : Nat → Int → Option Bool
  | 0, _ => none
  | n0 + 1, s0_0 => if decide (s0_0 < (busy.length : Int)) = true then ((getI busy s0_0).bind fun x3 => (gd (ok64 ((n.tasks.length : Int) - 1)) ((z002 x3.task 0 ((n.tasks.length : Int) - 1)).bind fun x5 => (if x5 = true then ((getI busy s0_0).bind fun x7 => ((z002 x7.who 1 4).bind fun x8 => (if x8 = true then ((getI busy s0_0).bind fun x10 => ((getI busy s0_0).bind fun x11 => ((getI n.tasks x11.task).bind fun x12 => (gd (ok64 (x12.need - 1)) ((z002 x10.did 0 (x12.need - 1)).bind fun x14 => (if x14 = true then (gd (ok64 (s0_0 + 1)) ((z05r n busy kx0_0 n0) (s0_0 + 1))) else (some false))))))) else (some false)))) else (some false))))) else (kx0_0)
def z0bx (n : GNet) (busy : List GItem) : Option Bool := if decide (6 < (busy.length : Int)) = true then (some false) else (z05r n busy z0mr FUEL 0)
def z03k : Con := ⟨158, [.v (.s .net) false, .v (.sl (.s .item)) false], [(.B, true)], [], fun x => z0bx x.1 x.2.1⟩
def z1h8 : Fs := ⟨[z00o], []⟩
theorem z0yv : z1h8.Ok Tryz.prog := (fsK z00t fs0)
def z0r8 : Tmpl := ⟨[(1, .c (.s (.s .item))), (2, .c (.bx 2 0)), (5, .c .i)], [(2, .boxT (.s .net))]⟩
def z0og : Tmpl := ⟨[], []⟩
def z17l (av : AV) (x : HP z03k.ps) (n : Nat) (v : z0r8.den) (K : Ks (CR z03k)) : Option (CR z03k) := z05r v.2.1 v.1.1 (z0og.at none ((), ()) (K (.exit 0))) n v.1.2.2.1
def z0pv (av : AV) (x : HP z03k.ps) : Hdl (CR z03k) := hnd [] z0r8 (z17l av x)
theorem z191 : LP z03k Tryz.f158 [0] z0pv := lp_ok (W := []) (H := []) (xs := [z0og]) z0yv trivial rfl (fun av x v K => by kernel_rfl) (fun av x n v K => by kernel_rfl)
theorem z0zy : z03k.Ok Tryz.prog := fn_ok (k := z03k) (fn := Tryz.f158) (W := []) (H := [z0pv]) Tryz.func158 z0yv ⟨z191, trivial⟩ rfl rfl (fun av x => by kernel_rfl)
def z0ex (n : GNet) (marks : List Int) (busy : List GItem) (t : Int) : Option Bool := (z091 n marks).bind fun x1 => (if x1 = true then ((z0bx n busy).bind fun x3 => (if x3 = true then (gd (ok64 ((n.tasks.length : Int) - 1)) ((z002 t 0 ((n.tasks.length : Int) - 1)).bind fun x6 => (if x6 = true then ((z0ho n marks busy t).bind fun x8 => (some x8)) else (some false)))) else (some false))) else (some false))
def z0lr : Con := ⟨98, [.v (.s .net) false, .v (.sl .I) false, .v (.sl (.s .item)) false, .v .I false], [(.B, true)], [], fun x => z0ex x.1 x.2.1 x.2.2.1 x.2.2.2.1⟩
def z1h1 : Fs := ⟨[z02u, z03k, z00o, z0sh], []⟩
theorem z1id : z1h1.Ok Tryz.prog := (fsK z0hv (fsK z0zy (fsK z00t (fsK z1pm fs0))))
theorem z1kr : z0lr.Ok Tryz.prog := fn_ok (k := z0lr) (fn := Tryz.f98) (W := []) (H := []) Tryz.func98 z1id trivial rfl rfl (fun av x => by kernel_rfl)
def z0ip (l0_1 : List Int) (x10 : Int) (x13 : Int) : Option (List Int) := some (l0_1.set x10.toNat (x13 - 1))
def z0iq (l0_1 : List Int) : Option (List Int) := some l0_1
def z02x (n : GNet) (t : Int) (kx0_0 : List Int → Int → Int → Option (List Int)) (kx0_1 : List Int → Option (List Int)) : Nat → Int → List Int → Option (List Int)
  | 0, _, _ => none
  | n0 + 1, s0_0, l0_1 => (getI n.tasks t).bind fun x7 => (if decide (s0_0 < (x7.in_.length : Int)) = true then ((getI n.tasks t).bind fun x9 => ((getI x9.in_ s0_0).bind fun x10 => ((getI l0_1 x10).bind fun x11 => (if decide (0 < x11) = true then ((getI l0_1 x10).bind fun x13 => (gd (ok64 (x13 - 1)) ((getI l0_1 x10).bind fun x15 => ((getI n.tasks t).bind fun x16 => (if decide (x16.join = 2) = true then (kx0_0 l0_1 x10 x13) else (gd (ok64 (s0_0 + 1)) ((z02x n t kx0_0 kx0_1 n0) (s0_0 + 1) (l0_1.set x10.toNat (x13 - 1))))))))) else (gd (ok64 (s0_0 + 1)) ((z02x n t kx0_0 kx0_1 n0) (s0_0 + 1) l0_1)))))) else (kx0_1 l0_1))
def z0d4 (n : GNet) (marks : List Int) (t : Int) : Option (List Int) := (z091 n marks).bind fun x1 => (if x1 = true then (gd (ok64 ((n.tasks.length : Int) - 1)) ((z002 t 0 ((n.tasks.length : Int) - 1)).bind fun x4 => (if x4 = true then (gd (([] : List Int).length + marks.length ≤ SMALL) (z02x n t z0ip z0iq FUEL 0 (([] : List Int) ++ marks))) else (some ([] : List Int))))) else (some ([] : List Int)))
def z03d : Con := ⟨101, [.v (.s .net) false, .v (.sl .I) false, .v .I false], [((.sl .I), true)], [], fun x => z0d4 x.1 x.2.1 x.2.2.1⟩
def z1cl : Fs := ⟨[z02u, z00o], []⟩
theorem z0uq : z1cl.Ok Tryz.prog := (fsK z0hv (fsK z00t fs0))
def z0np : Tmpl := ⟨[(2, .c .i), (3, .c (.bx 3 0)), (7, .c (.ref 26)), (8, .c .i)], [(3, .boxT (.s .net)), (26, .arr .I true)]⟩
def z0cc : Tmpl := ⟨[(7, .c (.ref 26))], [(26, .arr .I true)]⟩
def z126 (av : AV) (x : HP z03d.ps) (n : Nat) (v : z0np.den) (K : Ks (CR z03d)) : Option (CR z03d) := z02x v.2.1 v.1.1 (fun l0_1 x10 x13 => z0cc.at none (((), ()), ((l0_1.set x10.toNat (x13 - 1)), ())) (K (.exit 0))) (fun l0_1 => z0cc.at none (((), ()), (l0_1, ())) (K (.exit 0))) n v.1.2.2.2.1 v.2.2.1
def z0lb (av : AV) (x : HP z03d.ps) : Hdl (CR z03d) := hnd [] z0np (z126 av x)
theorem z152 : LP z03d Tryz.f101 [0] z0lb := lp_ok (W := []) (H := []) (xs := [z0cc]) z0uq trivial rfl (fun av x v K => by kernel_rfl) (fun av x n v K => by kernel_rfl)
theorem z1f0 : z03d.Ok Tryz.prog := fn_ok (k := z03d) (fn := Tryz.f101) (W := []) (H := [z0lb]) Tryz.func101 z0uq ⟨z152, trivial⟩ rfl rfl (fun av x => by kernel_rfl)
def z08c (who : Int) : Option Bool := (z00b who 1 4).bind fun x1 => (some x1)
def z0b9 : Con := ⟨170, [.v .I false], [(.B, true)], [], fun x => z08c x.1⟩
def z180 : Fs := ⟨[z025], []⟩
theorem z18c : z180.Ok Tryz.prog := (fsK z02s fs0)
theorem z0qk : z0b9.Ok Tryz.prog := fn_ok (k := z0b9) (fn := Tryz.f170) (W := []) (H := []) Tryz.func170 z18c trivial rfl rfl (fun av x => by kernel_rfl)
def z0bi (l0_1 : List Int) (x8 : GFlow) : Option (List Int) := some (l0_1 ++ [x8.to])
def z0bj (l0_1 : List Int) (x13 : GFlow) : Option (List Int) := some (l0_1 ++ [x13.to])
def z0bk (l0_1 : List Int) (x18 : GFlow) : Option (List Int) := some (l0_1 ++ [x18.to])
def z0fw (l0_1 : List Int) : Option (List Int) := some l0_1
def z01o (t : GTask) (data : List Int) (kx0_0 : List Int → GFlow → Option (List Int)) (kx0_1 : List Int → GFlow → Option (List Int)) (kx0_2 : List Int → GFlow → Option (List Int)) (kx0_3 : List Int → Option (List Int)) : Nat → Int → List Int → Option (List Int)
  | 0, _, _ => none
  | n0 + 1, s0_0, l0_1 => if decide (s0_0 < (t.out.length : Int)) = true then ((getI t.out s0_0).bind fun x2 => ((z01n x2.if_ data).bind fun x3 => (if x3 = true then (if decide (t.split = 3) = true then (gd (ok64 ((t.out.length : Int) - 1)) (if decide (s0_0 < ((t.out.length : Int) - 1)) = true then ((getI t.out s0_0).bind fun x8 => (gd (l0_1.length + [x8.to].length ≤ SMALL) (if decide (t.split = 2) = true then (kx0_0 l0_1 x8) else (gd (ok64 (s0_0 + 1)) ((z01o t data kx0_0 kx0_1 kx0_2 kx0_3 n0) (s0_0 + 1) (l0_1 ++ [x8.to])))))) else (if decide ((l0_1.length : Int) = 0) = true then ((getI t.out s0_0).bind fun x13 => (gd (l0_1.length + [x13.to].length ≤ SMALL) (if decide (t.split = 2) = true then (kx0_1 l0_1 x13) else (gd (ok64 (s0_0 + 1)) ((z01o t data kx0_0 kx0_1 kx0_2 kx0_3 n0) (s0_0 + 1) (l0_1 ++ [x13.to])))))) else (gd (ok64 (s0_0 + 1)) ((z01o t data kx0_0 kx0_1 kx0_2 kx0_3 n0) (s0_0 + 1) l0_1))))) else ((getI t.out s0_0).bind fun x18 => (gd (l0_1.length + [x18.to].length ≤ SMALL) (if decide (t.split = 2) = true then (kx0_2 l0_1 x18) else (gd (ok64 (s0_0 + 1)) ((z01o t data kx0_0 kx0_1 kx0_2 kx0_3 n0) (s0_0 + 1) (l0_1 ++ [x18.to]))))))) else (gd (ok64 (s0_0 + 1)) ((z01o t data kx0_0 kx0_1 kx0_2 kx0_3 n0) (s0_0 + 1) l0_1))))) else (kx0_3 l0_1)
def z0hn (t : GTask) (data : List Int) : Option (List Int) := z01o t data z0bi z0bj z0bk z0fw FUEL 0 ([] : List Int)
def z06c : Con := ⟨221, [.v (.s .task) false, .v (.sl .I) false], [((.sl .I), true)], [], fun x => z0hn x.1 x.2.1⟩
def z1ni : Fs := ⟨[z057], []⟩
theorem z131 : z1ni.Ok Tryz.prog := (fsK z08e fs0)
def z0ww : Tmpl := ⟨[(1, .c (.s .I)), (2, .c (.bx 2 0)), (5, .c (.ref 7)), (6, .c .i)], [(2, .boxT (.s .task)), (7, .arr .I true)]⟩
def z08h : Tmpl := ⟨[(5, .c (.ref 49))], [(49, .arr .I true)]⟩
def z1b8 (av : AV) (x : HP z06c.ps) (n : Nat) (v : z0ww.den) (K : Ks (CR z06c)) : Option (CR z06c) := z01o v.2.1 v.1.1 (fun l0_1 x8 => z08h.at none (((), ()), ((l0_1 ++ [x8.to]), ())) (K (.exit 0))) (fun l0_1 x13 => z08h.at none (((), ()), ((l0_1 ++ [x13.to]), ())) (K (.exit 0))) (fun l0_1 x18 => z08h.at none (((), ()), ((l0_1 ++ [x18.to]), ())) (K (.exit 0))) (fun l0_1 => z08h.at none (((), ()), (l0_1, ())) (K (.exit 0))) n v.1.2.2.2.1 v.2.2.1
def z0v5 (av : AV) (x : HP z06c.ps) : Hdl (CR z06c) := hnd [] z0ww (z1b8 av x)
theorem z1ds : LP z06c Tryz.f221 [0] z0v5 := lp_ok (W := []) (H := []) (xs := [z08h]) z131 trivial rfl (fun av x v K => by kernel_rfl) (fun av x n v K => by kernel_rfl)
theorem z1pl : z06c.Ok Tryz.prog := fn_ok (k := z06c) (fn := Tryz.f221) (W := []) (H := [z0v5]) Tryz.func221 z131 ⟨z1ds, trivial⟩ rfl rfl (fun av x => by kernel_rfl)
def z08r (l1_1 : List Int) : Option ((List Int) × Bool) := some (l1_1, true)
def z04d (x16 : (List Int)) (kx1_0 : List Int → Option ((List Int) × Bool)) : Nat → Int → List Int → Option ((List Int) × Bool)
  | 0, _, _ => none
  | n1 + 1, s1_0, l1_1 => if decide (s1_0 < (x16.length : Int)) = true then ((getI x16 s1_0).bind fun x18 => ((getI l1_1 x18).bind fun x19 => (if decide (x19 = 4) = true then (some (([] : List Int), false)) else ((getI x16 s1_0).bind fun x21 => ((getI x16 s1_0).bind fun x22 => ((getI l1_1 x22).bind fun x23 => (gd (ok64 (x23 + 1)) ((getI l1_1 x21).bind fun x25 => (gd (ok64 (s1_0 + 1)) ((z04d x16 kx1_0 n1) (s1_0 + 1) (l1_1.set x21.toNat (x23 + 1)))))))))))) else (kx1_0 l1_1)
def z08q (n : GNet) (t : Int) (data : List Int) (l0_1 : List Int) : Option ((List Int) × Bool) := (getI n.tasks t).bind fun x15 => ((z0hn x15 data).bind fun x16 => (z04d x16 z08r FUEL 0 l0_1))
def z04c (n : GNet) (t : Int) (kx0_0 : List Int → Option ((List Int) × Bool)) : Nat → Int → List Int → Option ((List Int) × Bool)
  | 0, _, _ => none
  | n0 + 1, s0_0, l0_1 => (getI n.tasks t).bind fun x9 => (if decide (s0_0 < (x9.clear.length : Int)) = true then ((getI n.tasks t).bind fun x11 => ((getI x11.clear s0_0).bind fun x12 => ((getI l0_1 x12).bind fun x13 => (gd (ok64 (s0_0 + 1)) ((z04c n t kx0_0 n0) (s0_0 + 1) (l0_1.set x12.toNat 0)))))) else (kx0_0 l0_1))
def z0d5 (n : GNet) (marks : List Int) (t : Int) (data : List Int) : Option ((List Int) × Bool) := (z091 n marks).bind fun x1 => (if x1 = true then (gd (ok64 ((n.tasks.length : Int) - 1)) ((z002 t 0 ((n.tasks.length : Int) - 1)).bind fun x4 => (if x4 = true then ((z02b data).bind fun x6 => (if x6 = true then (gd (([] : List Int).length + marks.length ≤ SMALL) (z04c n t (z08q n t data) FUEL 0 (([] : List Int) ++ marks))) else (some (([] : List Int), false)))) else (some (([] : List Int), false))))) else (some (([] : List Int), false)))
def z00w : Con := ⟨191, [.v (.s .net) false, .v (.sl .I) false, .v .I false, .v (.sl .I) false], [((.sl .I), true), (.B, true)], [], fun x => z0d5 x.1 x.2.1 x.2.2.1 x.2.2.2.1⟩
def z1cm : Fs := ⟨[z02u, z00o, z013, z06c], []⟩
theorem z0gu : z1cm.Ok Tryz.prog := (fsK z0hv (fsK z00t (fsK z06l (fsK z1pl fs0))))
def z0nq : Tmpl := ⟨[(2, .c .i), (3, .c (.s .I)), (4, .c (.bx 4 0)), (10, .c (.ref 35)), (11, .c .i)], [(4, .boxT (.s .net)), (35, .arr .I true)]⟩
def z0jp : Tmpl := ⟨[(2, .c .i), (3, .c (.s .I)), (4, .c (.bx 4 0)), (10, .c (.ref 35))], [(4, .boxT (.s .net)), (35, .arr .I true)]⟩
def z127 (av : AV) (x : HP z00w.ps) (n : Nat) (v : z0nq.den) (K : Ks (CR z00w)) : Option (CR z00w) := z04c v.2.1 v.1.1 (fun l0_1 => z0jp.at none ((v.1.1, v.1.2.1, (), (), ()), (v.2.1, l0_1, ())) (K (.exit 0))) n v.1.2.2.2.2.1 v.2.2.1
def z0lc (av : AV) (x : HP z00w.ps) : Hdl (CR z00w) := hnd [] z0nq (z127 av x)
theorem z153 : LP z00w Tryz.f191 [0] z0lc := lp_ok (W := []) (H := []) (xs := [z0jp]) z0gu trivial rfl (fun av x v K => by kernel_rfl) (fun av x n v K => by kernel_rfl)
def z0nr : Tmpl := ⟨[(10, .c (.ref 35)), (12, .c (.ref 64)), (13, .c .i)], [(35, .arr .I true), (64, .arr .I true)]⟩
def z0jq : Tmpl := ⟨[(10, .c (.ref 35))], [(35, .arr .I true)]⟩
def z128 (av : AV) (x : HP z00w.ps) (n : Nat) (v : z0nr.den) (K : Ks (CR z00w)) : Option (CR z00w) := z04d v.2.2.1 (fun l1_1 => z0jq.at none (((), ()), (l1_1, ())) (K (.exit 2))) n v.1.2.2.1 v.2.1
def z0ld (av : AV) (x : HP z00w.ps) : Hdl (CR z00w) := hnd [] z0nr (z128 av x)
theorem z154 : LP z00w Tryz.f191 [1] z0ld := lp_ok (W := []) (H := []) (xs := [z0jq]) z0gu trivial rfl (fun av x v K => by kernel_rfl) (fun av x n v K => by kernel_rfl)
theorem z1f1 : z00w.Ok Tryz.prog := fn_ok (k := z00w) (fn := Tryz.f191) (W := []) (H := [z0lc, z0ld]) Tryz.func191 z0gu ⟨z153, z154, trivial⟩ rfl rfl (fun av x => by kernel_rfl)
def z0qd  : Option Bool := some true
def z075 (people : List Int) (kx0_0 : Option Bool) : Nat → Int → Option Bool
  | 0, _ => none
  | n0 + 1, s0_0 => if decide (s0_0 < (people.length : Int)) = true then ((getI people s0_0).bind fun x4 => ((z002 x4 0 7).bind fun x5 => (if x5 = true then (gd (ok64 (s0_0 + 1)) ((z075 people kx0_0 n0) (s0_0 + 1))) else (some false)))) else (kx0_0)
def z0b0 (people : List Int) : Option Bool := (z002 (people.length : Int) 1 4).bind fun x1 => (if x1 = true then (z075 people z0qd FUEL 0) else (some false))
def z03r : Con := ⟨83, [.v (.sl .I) false], [(.B, true)], [], fun x => z0b0 x.1⟩
def z1ng : Fs := ⟨[z00o], []⟩
theorem z130 : z1ng.Ok Tryz.prog := (fsK z00t fs0)
def z0wu : Tmpl := ⟨[(0, .c (.s .I)), (3, .c .i)], []⟩
def z0rs : Tmpl := ⟨[], []⟩
def z1b6 (av : AV) (x : HP z03r.ps) (n : Nat) (v : z0wu.den) (K : Ks (CR z03r)) : Option (CR z03r) := z075 v.1.1 (z0rs.at none ((), ()) (K (.exit 0))) n v.1.2.1
def z0v3 (av : AV) (x : HP z03r.ps) : Hdl (CR z03r) := hnd [] z0wu (z1b6 av x)
theorem z1dq : LP z03r Tryz.f83 [0] z0v3 := lp_ok (W := []) (H := []) (xs := [z0rs]) z130 trivial rfl (fun av x v K => by kernel_rfl) (fun av x n v K => by kernel_rfl)
theorem z0tg : z03r.Ok Tryz.prog := fn_ok (k := z03r) (fn := Tryz.f83) (W := []) (H := [z0v3]) Tryz.func83 z130 ⟨z1dq, trivial⟩ rfl rfl (fun av x => by kernel_rfl)
def z0mp (s0_0 : Int) : Option Bool := gd ((2 : Int) ≠ 0) (some (decide ((Int.tmod s0_0 2) = 1)))
def z09s (role : Int) (kx0_0 : Int → Option Bool) : Nat → Int → Int → Option Bool
  | 0, _, _ => none
  | n0 + 1, s0_0, s0_1 => if decide (s0_1 < role) = true then (gd ((2 : Int) ≠ 0 ∧ ok64 (Int.tdiv s0_0 2)) (gd (ok64 (s0_1 + 1)) ((z09s role kx0_0 n0) (Int.tdiv s0_0 2) (s0_1 + 1)))) else (kx0_0 s0_0)
def z0ez (people : List Int) (who : Int) (role : Int) : Option Bool := (z0b0 people).bind fun x1 => (if x1 = true then ((z002 who 1 (people.length : Int)).bind fun x3 => (if x3 = true then ((z002 role 1 3).bind fun x5 => (if x5 = true then (gd (ok64 (who - 1)) ((getI people (who - 1)).bind fun x8 => (z09s role z0mp FUEL x8 1))) else (some false))) else (some false))) else (some false))
def z04x : Con := ⟨173, [.v (.sl .I) false, .v .I false, .v .I false], [(.B, true)], [], fun x => z0ez x.1 x.2.1 x.2.2.1⟩
def z1h3 : Fs := ⟨[z03r, z00o], []⟩
theorem z0yt : z1h3.Ok Tryz.prog := (fsK z0tg (fsK z00t fs0))
def z0r5 : Tmpl := ⟨[(2, .c .i), (7, .c .i), (8, .c .i)], []⟩
def z0od : Tmpl := ⟨[(7, .c .i)], []⟩
def z17i (av : AV) (x : HP z04x.ps) (n : Nat) (v : z0r5.den) (K : Ks (CR z04x)) : Option (CR z04x) := z09s v.1.1 (fun s0_0 => z0od.at none ((s0_0, ()), ()) (K (.exit 0))) n v.1.2.1 v.1.2.2.1
def z0ps (av : AV) (x : HP z04x.ps) : Hdl (CR z04x) := hnd [] z0r5 (z17i av x)
theorem z18y : LP z04x Tryz.f173 [0] z0ps := lp_ok (W := []) (H := []) (xs := [z0od]) z0yt trivial rfl (fun av x v K => by kernel_rfl) (fun av x n v K => by kernel_rfl)
theorem z1kt : z04x.Ok Tryz.prog := fn_ok (k := z04x) (fn := Tryz.f173) (W := []) (H := [z0ps]) Tryz.func173 z0yt ⟨z18y, trivial⟩ rfl rfl (fun av x => by kernel_rfl)
def z0mo  : Option Bool := some false
def z03v (did : List GDid) (who : Int) (task : Int) (kx0_0 : Option Bool) : Nat → Int → Option Bool
  | 0, _ => none
  | n0 + 1, s0_0 => if decide (s0_0 < (did.length : Int)) = true then ((getI did s0_0).bind fun x2 => (if decide (x2.who = who) = true then ((getI did s0_0).bind fun x4 => (if decide (x4.task = task) = true then (some true) else (gd (ok64 (s0_0 + 1)) ((z03v did who task kx0_0 n0) (s0_0 + 1))))) else (gd (ok64 (s0_0 + 1)) ((z03v did who task kx0_0 n0) (s0_0 + 1))))) else (kx0_0)
def z0ey (did : List GDid) (who : Int) (task : Int) : Option Bool := z03v did who task z0mo FUEL 0
def z04w : Con := ⟨174, [.v (.sl (.s .did)) false, .v .I false, .v .I false], [(.B, true)], [], fun x => z0ey x.1 x.2.1 x.2.2.1⟩
def z1h2 : Fs := ⟨[], []⟩
theorem z0ys : z1h2.Ok Tryz.prog := fs0
def z0r4 : Tmpl := ⟨[(0, .c (.s (.s .did))), (1, .c .i), (2, .c .i), (7, .c .i)], []⟩
def z0oc : Tmpl := ⟨[], []⟩
def z17h (av : AV) (x : HP z04w.ps) (n : Nat) (v : z0r4.den) (K : Ks (CR z04w)) : Option (CR z04w) := z03v v.1.1 v.1.2.1 v.1.2.2.1 (z0oc.at none ((), ()) (K (.exit 0))) n v.1.2.2.2.1
def z0pr (av : AV) (x : HP z04w.ps) : Hdl (CR z04w) := hnd [] z0r4 (z17h av x)
theorem z18x : LP z04w Tryz.f174 [0] z0pr := lp_ok (W := []) (H := []) (xs := [z0oc]) z0ys trivial rfl (fun av x v K => by kernel_rfl) (fun av x n v K => by kernel_rfl)
theorem z1ks : z04w.Ok Tryz.prog := fn_ok (k := z04w) (fn := Tryz.f174) (W := []) (H := [z0pr]) Tryz.func174 z0ys ⟨z18x, trivial⟩ rfl rfl (fun av x => by kernel_rfl)
def z0mq (n : GNet) (people : List Int) (did : List GDid) (t : Int) (s0_0 : Int) (l0_1 : List Int) (bk0 : Int → List Int → Option (List Int)) (s1_0 : Bool) : Option (List Int) := (getI n.tasks t).bind fun x18 => ((z0ez people s0_0 x18.role).bind fun x19 => (if x19 = true then (if s1_0 = true then (gd (ok64 (s0_0 + 1)) (bk0 (s0_0 + 1) l0_1)) else ((getI n.tasks t).bind fun x23 => ((z0ey did s0_0 x23.apart).bind fun x24 => (if x24 = true then (gd (ok64 (s0_0 + 1)) (bk0 (s0_0 + 1) l0_1)) else (gd (l0_1.length + [s0_0].length ≤ SMALL) (gd (ok64 (s0_0 + 1)) (bk0 (s0_0 + 1) (l0_1 ++ [s0_0])))))))) else (gd (ok64 (s0_0 + 1)) (bk0 (s0_0 + 1) l0_1))))
def z021 (n : GNet) (busy : List GItem) (t : Int) (s0_0 : Int) (kx1_0 : Bool → Option (List Int)) : Nat → Bool → Int → Option (List Int)
  | 0, _, _ => none
  | n1 + 1, s1_0, s1_1 => if decide (s1_1 < (busy.length : Int)) = true then (if s1_0 = true then (gd (ok64 (s1_1 + 1)) ((z021 n busy t s0_0 kx1_0 n1) true (s1_1 + 1))) else ((getI busy s1_1).bind fun x12 => (if decide (x12.who = s0_0) = true then ((getI busy s1_1).bind fun x14 => ((getI n.tasks t).bind fun x15 => (gd (ok64 (s1_1 + 1)) ((z021 n busy t s0_0 kx1_0 n1) (decide (x14.task = x15.apart)) (s1_1 + 1))))) else (gd (ok64 (s1_1 + 1)) ((z021 n busy t s0_0 kx1_0 n1) false (s1_1 + 1)))))) else (kx1_0 s1_0)
def z0do (l0_1 : List Int) : Option (List Int) := some l0_1
def z05q (n : GNet) (people : List Int) (did : List GDid) (busy : List GItem) (t : Int) (kx0_0 : List Int → Option (List Int)) : Nat → Int → List Int → Option (List Int)
  | 0, _, _ => none
  | n0 + 1, s0_0, l0_1 => if decide (s0_0 ≤ (people.length : Int)) = true then (z021 n busy t s0_0 (z0mq n people did t s0_0 l0_1 (z05q n people did busy t kx0_0 n0)) FUEL false 0) else (kx0_0 l0_1)
def z0f0 (n : GNet) (people : List Int) (did : List GDid) (busy : List GItem) (t : Int) : Option (List Int) := (z092 n).bind fun x1 => (if x1 = true then ((z0b0 people).bind fun x3 => (if x3 = true then (gd (ok64 ((n.tasks.length : Int) - 1)) ((z002 t 0 ((n.tasks.length : Int) - 1)).bind fun x6 => (if x6 = true then (z05q n people did busy t z0do FUEL 1 ([] : List Int)) else (some ([] : List Int))))) else (some ([] : List Int)))) else (some ([] : List Int)))
def z014 : Con := ⟨100, [.v (.s .net) false, .v (.sl .I) false, .v (.sl (.s .did)) false, .v (.sl (.s .item)) false, .v .I false], [((.sl .I), true)], [], fun x => z0f0 x.1 x.2.1 x.2.2.1 x.2.2.2.1 x.2.2.2.2.1⟩
def z1h4 : Fs := ⟨[z02v, z03r, z00o, z04x, z04w], []⟩
theorem z0kk : z1h4.Ok Tryz.prog := (fsK z0hw (fsK z0tg (fsK z00t (fsK z1kt (fsK z1ks fs0)))))
def z0iw : Tmpl := ⟨[(1, .c (.s .I)), (2, .c (.s (.s .did))), (3, .c (.s (.s .item))), (4, .c .i), (5, .c (.bx 5 0)), (11, .c (.ref 15)), (12, .c .i), (13, .c .b), (14, .c .i)], [(5, .boxT (.s .net)), (15, .arr .I true)]⟩
def z0gm : Tmpl := ⟨[(1, .c (.s .I)), (2, .c (.s (.s .did))), (3, .c (.s (.s .item))), (4, .c .i), (5, .c (.bx 5 0)), (11, .c (.ref 15)), (12, .c .i), (13, .c .b)], [(5, .boxT (.s .net)), (15, .arr .I true)]⟩
def z10b (av : AV) (x : HP z014.ps) (n : Nat) (v : z0iw.den) (K : Ks (CR z014)) : Option (CR z014) := z021 v.2.1 v.1.2.2.1 v.1.2.2.2.1 v.1.2.2.2.2.2.2.1 (fun s1_0 => z0gm.at none ((v.1.1, v.1.2.1, v.1.2.2.1, v.1.2.2.2.1, (), (), v.1.2.2.2.2.2.2.1, s1_0, ()), (v.2.1, v.2.2.1, ())) (K (.exit 2))) n v.1.2.2.2.2.2.2.2.1 v.1.2.2.2.2.2.2.2.2.1
def z0i9 (av : AV) (x : HP z014.ps) : Hdl (CR z014) := hnd [] z0iw (z10b av x)
theorem z10o : LP z014 Tryz.f100 [0, 0] z0i9 := lp_ok (W := []) (H := []) (xs := [z0gm]) z0kk trivial rfl (fun av x v K => by kernel_rfl) (fun av x n v K => by kernel_rfl)
def z0r6 : Tmpl := ⟨[(1, .c (.s .I)), (2, .c (.s (.s .did))), (3, .c (.s (.s .item))), (4, .c .i), (5, .c (.bx 5 0)), (11, .c (.ref 15)), (12, .c .i)], [(5, .boxT (.s .net)), (15, .arr .I true)]⟩
def z0oe : Tmpl := ⟨[(11, .c (.ref 15))], [(15, .arr .I true)]⟩
def z17j (av : AV) (x : HP z014.ps) (n : Nat) (v : z0r6.den) (K : Ks (CR z014)) : Option (CR z014) := z05q v.2.1 v.1.1 v.1.2.1 v.1.2.2.1 v.1.2.2.2.1 (fun l0_1 => z0oe.at none (((), ()), (l0_1, ())) (K (.exit 0))) n v.1.2.2.2.2.2.2.1 v.2.2.1
def z0pt (av : AV) (x : HP z014.ps) : Hdl (CR z014) := hnd [] z0r6 (z17j av x)
theorem z18z : LP z014 Tryz.f100 [0] z0pt := lp_ok (W := []) (H := [z0i9]) (xs := [z0oe]) z0kk ⟨z10o, trivial⟩ rfl (fun av x v K => by kernel_rfl) (fun av x n v K => by kernel_rfl)
theorem z1ku : z014.Ok Tryz.prog := fn_ok (k := z014) (fn := Tryz.f100) (W := []) (H := [z0pt]) Tryz.func100 z0kk ⟨z18z, trivial⟩ rfl rfl (fun av x => by kernel_rfl)
def z0bw (n : GNet) (data : List Int) : Option GCase := (z092 n).bind fun x1 => (if x1 = true then ((z02b data).bind fun x3 => (if x3 = true then (gd ((0 : Int) ≤ n.places ∧ n.places ≤ (1000000000 : Int)) (gd (([] : List Int).length + data.length ≤ SMALL) ((getI (List.replicate n.places.toNat (0 : Int)) 0).bind fun x7 => (some (GCase.mk 1 ((List.replicate n.places.toNat (0 : Int)).set (0 : Int).toNat 1) [] (([] : List Int) ++ data) []))))) else (some (GCase.mk 0 [] [] [] [])))) else (some (GCase.mk 0 [] [] [] [])))
def z0lp : Con := ⟨131, [.v (.s .net) false, .v (.sl .I) false], [((.s .kase), true)], [], fun x => z0bw x.1 x.2.1⟩
def z1gz : Fs := ⟨[z02v, z013], []⟩
theorem z1ib : z1gz.Ok Tryz.prog := (fsK z0hw (fsK z06l fs0))
theorem z1kp : z0lp.Ok Tryz.prog := fn_ok (k := z0lp) (fn := Tryz.f131) (W := []) (H := []) Tryz.func131 z1ib trivial rfl rfl (fun av x => by kernel_rfl)
def z0bf (c : GCase) : Option Bool := if decide (c.state = 1) = true then ((getI c.marks 1).bind fun x20 => (some (decide (x20 = 0)))) else (if decide ((c.busy.length : Int) = 0) = true then ((getI c.marks 1).bind fun x22 => (some ((decide (c.state = 2)) == (decide (0 < x22))))) else (some false))
def z070 (n : GNet) (c : GCase) (kx0_0 : Option Bool) : Nat → Int → Option Bool
  | 0, _ => none
  | n0 + 1, s0_0 => if decide (s0_0 < (c.did.length : Int)) = true then ((getI c.did s0_0).bind fun x11 => (gd (ok64 ((n.tasks.length : Int) - 1)) ((z002 x11.task 0 ((n.tasks.length : Int) - 1)).bind fun x13 => (if x13 = true then ((getI c.did s0_0).bind fun x15 => ((z002 x15.who 1 4).bind fun x16 => (if x16 = true then (gd (ok64 (s0_0 + 1)) ((z070 n c kx0_0 n0) (s0_0 + 1))) else (some false)))) else (some false))))) else (kx0_0)
def z090 (n : GNet) (c : GCase) : Option Bool := (z091 n c.marks).bind fun x1 => (if x1 = true then ((z0bx n c.busy).bind fun x3 => (if x3 = true then ((z02b c.data).bind fun x5 => (if x5 = true then (if decide (60 < (c.did.length : Int)) = true then (some false) else ((z002 c.state 1 3).bind fun x8 => (if x8 = true then (z070 n c (z0bf c) FUEL 0) else (some false)))) else (some false))) else (some false))) else (some false))
def z02t : Con := ⟨86, [.v (.s .net) false, .v (.s .kase) false], [(.B, true)], [], fun x => z090 x.1 x.2.1⟩
def z1n9 : Fs := ⟨[z02u, z03k, z013, z00o], []⟩
theorem z12v : z1n9.Ok Tryz.prog := (fsK z0hv (fsK z0zy (fsK z06l (fsK z00t fs0))))
def z0wp : Tmpl := ⟨[(2, .c (.bx 2 0)), (3, .c (.bx 3 0)), (5, .c .i)], [(2, .boxT (.s .net)), (3, .boxT (.s .kase))]⟩
def z0rn : Tmpl := ⟨[(3, .c (.bx 3 0))], [(3, .boxT (.s .kase))]⟩
def z1b1 (av : AV) (x : HP z02t.ps) (n : Nat) (v : z0wp.den) (K : Ks (CR z02t)) : Option (CR z02t) := z070 v.2.1 v.2.2.1 (z0rn.at none (((), ()), (v.2.2.1, ())) (K (.exit 0))) n v.1.2.2.1
def z0uy (av : AV) (x : HP z02t.ps) : Hdl (CR z02t) := hnd [] z0wp (z1b1 av x)
theorem z1dl : LP z02t Tryz.f86 [0] z0uy := lp_ok (W := []) (H := []) (xs := [z0rn]) z12v trivial rfl (fun av x v K => by kernel_rfl) (fun av x n v K => by kernel_rfl)
theorem z0ht : z02t.Ok Tryz.prog := fn_ok (k := z02t) (fn := Tryz.f86) (W := []) (H := [z0uy]) Tryz.func86 z12v ⟨z1dl, trivial⟩ rfl rfl (fun av x => by kernel_rfl)
def z065 (c : GCase) : Option GCase := gd (([] : List Int).length + c.marks.length ≤ SMALL) (gd (([] : List GItem).length + c.busy.length ≤ SMALL) (gd (([] : List Int).length + c.data.length ≤ SMALL) (gd (([] : List GDid).length + c.did.length ≤ SMALL) (some (GCase.mk c.state (([] : List Int) ++ c.marks) (([] : List GItem) ++ c.busy) (([] : List Int) ++ c.data) (([] : List GDid) ++ c.did))))))
def z099 : Con := ⟨97, [.v (.s .kase) false], [((.s .kase), true)], [], fun x => z065 x.1⟩
def z1ha : Fs := ⟨[], []⟩
theorem z1ig : z1ha.Ok Tryz.prog := fs0
theorem z0fc : z099.Ok Tryz.prog := fn_ok (k := z099) (fn := Tryz.f97) (W := []) (H := []) Tryz.func97 z1ig trivial rfl rfl (fun av x => by kernel_rfl)
def z0bg (n : GNet) (people : List Int) (c : GCase) (t : Int) (who : Int) : Option (GCase × Bool) := (z065 c).bind fun x1 => ((z090 n c).bind fun x2 => (if x2 = true then (if decide (c.state = 1) = true then ((z0ex n c.marks c.busy t).bind fun x5 => (if x5 = true then ((z0f0 n people c.did c.busy t).bind fun x7 => ((z0b1 x7 who).bind fun x8 => (if x8 = true then (if decide ((c.busy.length : Int) = 6) = true then (some (x1, false)) else ((z0d4 n c.marks t).bind fun x11 => (gd (x1.busy.length + [(GItem.mk t who 0)].length ≤ SMALL) (some ((GCase.mk x1.state x11 (x1.busy ++ [(GItem.mk t who 0)]) x1.data x1.did), true))))) else (some (x1, false))))) else (some (x1, false)))) else (some (x1, false))) else (some (x1, false))))
def z0ft : Con := ⟨35, [.v (.s .net) false, .v (.sl .I) false, .v (.s .kase) false, .v .I false, .v .I false], [((.s .kase), true), (.B, true)], [], fun x => z0bg x.1 x.2.1 x.2.2.1 x.2.2.2.1 x.2.2.2.2.1⟩
def z181 : Fs := ⟨[z099, z02t, z0lr, z014, z03s, z03d], []⟩
theorem z18d : z181.Ok Tryz.prog := (fsK z0fc (fsK z0ht (fsK z1kr (fsK z1ku (fsK z0ti (fsK z1f0 fs0))))))
theorem z19f : z0ft.Ok Tryz.prog := fn_ok (k := z0ft) (fn := Tryz.f35) (W := []) (H := []) Tryz.func35 z18d trivial rfl rfl (fun av x => by kernel_rfl)
def z0d3 (n : GNet) (c : GCase) (k : Int) (v : Int) (num : Int) : Option (GCase × Bool) := (z065 c).bind fun x1 => ((z090 n c).bind fun x2 => (if x2 = true then (if decide (c.state = 1) = true then (gd (ok64 ((c.busy.length : Int) - 1)) ((z002 k 0 ((c.busy.length : Int) - 1)).bind fun x6 => (if x6 = true then ((z002 v (-1) 2).bind fun x8 => (if x8 = true then ((z002 num (-99) 99).bind fun x10 => (if x10 = true then (if decide ((c.did.length : Int) = 60) = true then (some (x1, false)) else ((getI c.busy k).bind fun x13 => ((z0ew c.data v num).bind fun x14 => (gd (ok64 (x13.did + 1)) ((getI x1.busy k).bind fun x16 => (gd (ok64 (x13.did + 1)) ((getI n.tasks x13.task).bind fun x18 => (if decide ((x13.did + 1) < x18.need) = true then (some ((GCase.mk x1.state x1.marks (x1.busy.set k.toNat (GItem.mk x16.task x16.who (x13.did + 1))) x14 x1.did), true)) else ((z0d5 n c.marks x13.task x14).bind fun x20 => (if x20.2 = true then (gd (0 ≤ k ∧ k ≤ (c.busy.length : Int)) (gd (([] : List GItem).length + (c.busy.take k.toNat).length ≤ SMALL) (gd (ok64 (k + 1)) (gd (0 ≤ (k + 1) ∧ (k + 1) ≤ (c.busy.length : Int)) (gd ((([] : List GItem) ++ (c.busy.take k.toNat)).length + (c.busy.drop (k + 1).toNat).length ≤ SMALL) (gd (x1.did.length + [(GDid.mk x13.task x13.who)].length ≤ SMALL) ((getI x20.1 1).bind fun x28 => (if decide (0 < x28) = true then (some ((GCase.mk 2 x20.1 ([] : List GItem) x14 (x1.did ++ [(GDid.mk x13.task x13.who)])), true)) else (some ((GCase.mk x1.state x20.1 ((([] : List GItem) ++ (c.busy.take k.toNat)) ++ (c.busy.drop (k + 1).toNat)) x14 (x1.did ++ [(GDid.mk x13.task x13.who)])), true)))))))))) else ((z065 c).bind fun x30 => (some (x30, false))))))))))))) else (some (x1, false)))) else (some (x1, false)))) else (some (x1, false))))) else (some (x1, false))) else (some (x1, false))))
def z0h6 : Con := ⟨120, [.v (.s .net) false, .v (.s .kase) false, .v .I false, .v .I false, .v .I false], [((.s .kase), true), (.B, true)], [], fun x => z0d3 x.1 x.2.1 x.2.2.1 x.2.2.2.1 x.2.2.2.2.1⟩
def z1ck : Fs := ⟨[z099, z02t, z00o, z0lq, z00w], []⟩
theorem z1d9 : z1ck.Ok Tryz.prog := (fsK z0fc (fsK z0ht (fsK z00t (fsK z1kq (fsK z1f1 fs0)))))
theorem z1ez : z0h6.Ok Tryz.prog := fn_ok (k := z0h6) (fn := Tryz.f120) (W := []) (H := []) Tryz.func120 z1d9 trivial rfl rfl (fun av x => by kernel_rfl)
def z0d2 (n : GNet) (c : GCase) : Option (GCase × Bool) := (z065 c).bind fun x1 => ((z090 n c).bind fun x2 => (if x2 = true then (if decide (c.state = 1) = true then (some ((GCase.mk 3 x1.marks ([] : List GItem) x1.data x1.did), true)) else (some (x1, false))) else (some (x1, false))))
def z0h5 : Con := ⟨197, [.v (.s .net) false, .v (.s .kase) false], [((.s .kase), true), (.B, true)], [], fun x => z0d2 x.1 x.2.1⟩
def z1cj : Fs := ⟨[z099, z02t], []⟩
theorem z1d8 : z1cj.Ok Tryz.prog := (fsK z0fc (fsK z0ht fs0))
theorem z1ey : z0h5.Ok Tryz.prog := fn_ok (k := z0h5) (fn := Tryz.f197) (W := []) (H := []) Tryz.func197 z1d8 trivial rfl rfl (fun av x => by kernel_rfl)
def z007 (c : GCase) : Option GCase := (z00f c.marks).bind fun x1 => (gd (([] : List GItem).length + c.busy.length ≤ SMALL) ((z00f c.data).bind fun x3 => (gd (([] : List GDid).length + c.did.length ≤ SMALL) (some (GCase.mk c.state x1 (([] : List GItem) ++ c.busy) x3 (([] : List GDid) ++ c.did))))))
def z026 : Con := ⟨105, [.v (.s .kase) false], [((.s .kase), true)], [], fun x => z007 x.1⟩
def z0s1 : Fs := ⟨[z01m], []⟩
theorem z0s7 : z0s1.Ok Tryz.prog := (fsK z02p fs0)
theorem z06k : z026.Ok Tryz.prog := fn_ok (k := z026) (fn := Tryz.f105) (W := []) (H := []) Tryz.func105 z0s7 trivial rfl rfl (fun av x => by kernel_rfl)
def z0qe (s0_0 : Int) (bk0 : Int → Option Bool) (s1_0 : Int) : Option Bool := if ((decide (s0_0 = 0)) == (decide (s1_0 = 0))) = true then (if decide (1 < s1_0) = true then (some false) else (gd (ok64 (s0_0 + 1)) (bk0 (s0_0 + 1)))) else (some false)
def z00z (tree : List GNode) (s0_0 : Int) (kx1_0 : Int → Option Bool) : Nat → Int → Int → Option Bool
  | 0, _, _ => none
  | n1 + 1, s1_0, s1_1 => if decide (s1_1 < (tree.length : Int)) = true then ((getI tree s1_1).bind fun x15 => (if decide (x15.yes = s0_0) = true then (gd (ok64 (s1_0 + 1)) ((getI tree s1_1).bind fun x18 => (if decide (x18.no = s0_0) = true then (gd (ok64 ((s1_0 + 1) + 1)) (gd (ok64 (s1_1 + 1)) ((z00z tree s0_0 kx1_0 n1) ((s1_0 + 1) + 1) (s1_1 + 1)))) else (gd (ok64 (s1_1 + 1)) ((z00z tree s0_0 kx1_0 n1) (s1_0 + 1) (s1_1 + 1)))))) else ((getI tree s1_1).bind fun x23 => (if decide (x23.no = s0_0) = true then (gd (ok64 (s1_0 + 1)) (gd (ok64 (s1_1 + 1)) ((z00z tree s0_0 kx1_0 n1) (s1_0 + 1) (s1_1 + 1)))) else (gd (ok64 (s1_1 + 1)) ((z00z tree s0_0 kx1_0 n1) s1_0 (s1_1 + 1))))))) else (kx1_0 s1_0)
def z0qf (s0_0 : Int) (bk0 : Int → Option Bool) (s2_0 : Int) : Option Bool := if ((decide (s0_0 = 0)) == (decide (s2_0 = 0))) = true then (if decide (1 < s2_0) = true then (some false) else (gd (ok64 (s0_0 + 1)) (bk0 (s0_0 + 1)))) else (some false)
def z0qg (s0_0 : Int) (bk0 : Int → Option Bool) (s3_0 : Int) : Option Bool := if ((decide (s0_0 = 0)) == (decide (s3_0 = 0))) = true then (if decide (1 < s3_0) = true then (some false) else (gd (ok64 (s0_0 + 1)) (bk0 (s0_0 + 1)))) else (some false)
def z0qh (s0_0 : Int) (bk0 : Int → Option Bool) (s4_0 : Int) : Option Bool := if ((decide (s0_0 = 0)) == (decide (s4_0 = 0))) = true then (if decide (1 < s4_0) = true then (some false) else (gd (ok64 (s0_0 + 1)) (bk0 (s0_0 + 1)))) else (some false)
def z0qi  : Option Bool := some true
def z02i (tree : List GNode) (kx0_0 : Option Bool) : Nat → Int → Option Bool
  | 0, _ => none
  | n0 + 1, s0_0 => if decide (s0_0 < (tree.length : Int)) = true then ((getI tree s0_0).bind fun x3 => ((z07v x3.if_).bind fun x4 => (if x4 = true then ((z002 x3.ans 0 2).bind fun x6 => (if x6 = true then ((z02b x3.stone).bind fun x8 => (if x8 = true then ((z01n x3.if_ x3.stone).bind fun x10 => (if x10 = true then (if decide (x3.yes = (-1)) = true then (if decide (x3.no = (-1)) = true then (z00z tree s0_0 (z0qe s0_0 (z02i tree kx0_0 n0)) FUEL 0 0) else (gd (ok64 (s0_0 + 1)) (gd (ok64 ((tree.length : Int) - 1)) ((z002 x3.no (s0_0 + 1) ((tree.length : Int) - 1)).bind fun x33 => (if x33 = true then (z00z tree s0_0 (z0qf s0_0 (z02i tree kx0_0 n0)) FUEL 0 0) else (some false)))))) else (gd (ok64 (s0_0 + 1)) (gd (ok64 ((tree.length : Int) - 1)) ((z002 x3.yes (s0_0 + 1) ((tree.length : Int) - 1)).bind fun x54 => (if x54 = true then (if decide (x3.no = (-1)) = true then (z00z tree s0_0 (z0qg s0_0 (z02i tree kx0_0 n0)) FUEL 0 0) else (gd (ok64 (s0_0 + 1)) (gd (ok64 ((tree.length : Int) - 1)) ((z002 x3.no (s0_0 + 1) ((tree.length : Int) - 1)).bind fun x76 => (if x76 = true then (z00z tree s0_0 (z0qh s0_0 (z02i tree kx0_0 n0)) FUEL 0 0) else (some false)))))) else (some false)))))) else (some false))) else (some false))) else (some false))) else (some false)))) else (kx0_0)
def z093 (tree : List GNode) : Option Bool := if decide (12 < (tree.length : Int)) = true then (some false) else (z02i tree z0qi FUEL 0)
def z015 : Con := ⟨84, [.v (.sl (.s .node)) false], [(.B, true)], [], fun x => z093 x.1⟩
def z1nh : Fs := ⟨[z0at, z00o, z013, z057], []⟩
theorem z0s9 : z1nh.Ok Tryz.prog := (fsK z0hu (fsK z00t (fsK z06l (fsK z08e fs0))))
def z0ns : Tmpl := ⟨[(0, .c (.s (.s .node))), (3, .c .i), (5, .c .i), (6, .c .i)], []⟩
def z0jr : Tmpl := ⟨[(0, .c (.s (.s .node))), (3, .c .i), (5, .c .i)], []⟩
def z129 (av : AV) (x : HP z015.ps) (n : Nat) (v : z0ns.den) (K : Ks (CR z015)) : Option (CR z015) := z00z v.1.1 v.1.2.1 (fun s1_0 => z0jr.at none ((v.1.1, v.1.2.1, s1_0, ()), ()) (K (.exit 2))) n v.1.2.2.1 v.1.2.2.2.1
def z0le (av : AV) (x : HP z015.ps) : Hdl (CR z015) := hnd [] z0ns (z129 av x)
theorem z155 : LP z015 Tryz.f84 [0, 0] z0le := lp_ok (W := []) (H := []) (xs := [z0jr]) z0s9 trivial rfl (fun av x v K => by kernel_rfl) (fun av x n v K => by kernel_rfl)
def z0wv : Tmpl := ⟨[(0, .c (.s (.s .node))), (3, .c .i)], []⟩
def z0rt : Tmpl := ⟨[], []⟩
def z1b7 (av : AV) (x : HP z015.ps) (n : Nat) (v : z0wv.den) (K : Ks (CR z015)) : Option (CR z015) := z02i v.1.1 (z0rt.at none ((), ()) (K (.exit 0))) n v.1.2.1
def z0v4 (av : AV) (x : HP z015.ps) : Hdl (CR z015) := hnd [] z0wv (z1b7 av x)
theorem z1dr : LP z015 Tryz.f84 [0] z0v4 := lp_ok (W := []) (H := [z0le]) (xs := [z0rt]) z0s9 ⟨z155, trivial⟩ rfl (fun av x v K => by kernel_rfl) (fun av x n v K => by kernel_rfl)
theorem z0th : z015.Ok Tryz.prog := fn_ok (k := z015) (fn := Tryz.f84) (W := []) (H := [z0v4]) Tryz.func84 z0s9 ⟨z1dr, trivial⟩ rfl rfl (fun av x => by kernel_rfl)
def z0ms (s0_0 : Int) (s0_1 : Int) : Option (Int × Int) := some (s0_0, s0_1)
def z0mt (s0_0 : Int) (s0_1 : Int) : Option (Int × Int) := some (s0_0, s0_1)
def z02m (tree : List GNode) (data : List Int) (kx0_0 : Int → Int → Option (Int × Int)) (kx0_1 : Int → Int → Option (Int × Int)) : Nat → Int → Int → Int → Int → Option (Int × Int)
  | 0, _, _, _, _ => none
  | n0 + 1, s0_0, s0_1, s0_2, s0_3 => if decide (s0_3 < 12) = true then (if decide (s0_2 = (-1)) = true then (kx0_0 s0_0 s0_1) else ((getI tree s0_2).bind fun x4 => ((z01n x4.if_ data).bind fun x5 => (if x5 = true then ((getI tree s0_2).bind fun x7 => (gd (ok64 (s0_3 + 1)) ((z02m tree data kx0_0 kx0_1 n0) s0_2 s0_2 x7.yes (s0_3 + 1)))) else ((getI tree s0_2).bind fun x9 => (gd (ok64 (s0_3 + 1)) ((z02m tree data kx0_0 kx0_1 n0) s0_0 s0_2 x9.no (s0_3 + 1)))))))) else (kx0_1 s0_0 s0_1)
def z0mu (s1_0 : Int) (s1_1 : Int) : Option (Int × Int) := some (s1_0, s1_1)
def z0mv (s1_0 : Int) (s1_1 : Int) : Option (Int × Int) := some (s1_0, s1_1)
def z07w (tree : List GNode) (data : List Int) : Option (Int × Int) := if decide ((tree.length : Int) = 0) = true then (z02m tree data z0ms z0mt FUEL (-1) (-1) (-1) 0) else (z02m tree data z0mu z0mv FUEL (-1) (-1) 0 0)
def z02k : Con := ⟨195, [.v (.sl (.s .node)) false, .v (.sl .I) false], [(.I, true), (.I, true)], [], fun x => z07w x.1 x.2.1⟩
def z1hd : Fs := ⟨[z057], []⟩
theorem z0yy : z1hd.Ok Tryz.prog := (fsK z08e fs0)
def z0rb : Tmpl := ⟨[(0, .c (.s (.s .node))), (1, .c (.s .I)), (6, .c .i), (7, .c .i), (8, .c .i), (9, .c .i)], []⟩
def z0e5 : Tmpl := ⟨[(6, .c .i), (7, .c .i)], []⟩
def z17o (av : AV) (x : HP z02k.ps) (n : Nat) (v : z0rb.den) (K : Ks (CR z02k)) : Option (CR z02k) := z02m v.1.1 v.1.2.1 (fun s0_0 s0_1 => z0e5.at none ((s0_0, s0_1, ()), ()) (K (.exit 0))) (fun s0_0 s0_1 => z0e5.at none ((s0_0, s0_1, ()), ()) (K (.exit 0))) n v.1.2.2.1 v.1.2.2.2.1 v.1.2.2.2.2.1 v.1.2.2.2.2.2.1
def z0py (av : AV) (x : HP z02k.ps) : Hdl (CR z02k) := hnd [] z0rb (z17o av x)
theorem z194 : LP z02k Tryz.f195 [0] z0py := lp_ok (W := []) (H := []) (xs := [z0e5]) z0yy trivial rfl (fun av x v K => by kernel_rfl) (fun av x n v K => by kernel_rfl)
theorem z0n0 : z02k.Ok Tryz.prog := fn_ok (k := z02k) (fn := Tryz.f195) (W := []) (H := [z0py]) Tryz.func195 z0yy ⟨z194, trivial⟩ rfl rfl (fun av x => by kernel_rfl)
def z0f2 (tree : List GNode) (data : List Int) : Option Int := (z093 tree).bind fun x1 => (if x1 = true then ((z02b data).bind fun x3 => (if x3 = true then ((z07w tree data).bind fun x5 => (if decide (x5.1 = (-1)) = true then (some 0) else ((getI tree x5.1).bind fun x7 => (some x7.ans)))) else (some 0))) else (some 0))
def z0ls : Con := ⟨130, [.v (.sl (.s .node)) false, .v (.sl .I) false], [(.I, true)], [], fun x => z0f2 x.1 x.2.1⟩
def z1h6 : Fs := ⟨[z015, z013, z02k], []⟩
theorem z1ie : z1h6.Ok Tryz.prog := (fsK z0th (fsK z06l (fsK z0n0 fs0)))
theorem z1kw : z0ls.Ok Tryz.prog := fn_ok (k := z0ls) (fn := Tryz.f130) (W := []) (H := []) Tryz.func130 z1ie trivial rfl rfl (fun av x => by kernel_rfl)
def z0f5 (tree : List GNode) (a : List Int) (b : List Int) : Option Bool := (z07w tree a).bind fun x1 => ((z07w tree b).bind fun x2 => (if decide (x1.2 = x2.2) = true then (if decide (x1.2 = (-1)) = true then (some true) else ((getI tree x1.2).bind fun x5 => ((z01n x5.if_ a).bind fun x6 => ((getI tree x1.2).bind fun x7 => ((z01n x7.if_ b).bind fun x8 => (some (x6 == x8))))))) else (some false)))
def z0lu : Con := ⟨196, [.v (.sl (.s .node)) false, .v (.sl .I) false, .v (.sl .I) false], [(.B, true)], [], fun x => z0f5 x.1 x.2.1 x.2.2.1⟩
def z1hc : Fs := ⟨[z02k, z057], []⟩
theorem z1ih : z1hc.Ok Tryz.prog := (fsK z0n0 (fsK z08e fs0))
theorem z1kz : z0lu.Ok Tryz.prog := fn_ok (k := z0lu) (fn := Tryz.f196) (W := []) (H := []) Tryz.func196 z1ih trivial rfl rfl (fun av x => by kernel_rfl)
def z0dp (l0_1 : List GNode) : Option (List GNode) := some l0_1
def z05s (tree : List GNode) (kx0_0 : List GNode → Option (List GNode)) : Nat → Int → List GNode → Option (List GNode)
  | 0, _, _ => none
  | n0 + 1, s0_0, l0_1 => if decide (s0_0 < (tree.length : Int)) = true then ((getI tree s0_0).bind fun x2 => (gd (([] : List Int).length + x2.stone.length ≤ SMALL) (gd (l0_1.length + [(GNode.mk x2.if_ x2.yes x2.no x2.ans (([] : List Int) ++ x2.stone))].length ≤ SMALL) (gd (ok64 (s0_0 + 1)) ((z05s tree kx0_0 n0) (s0_0 + 1) (l0_1 ++ [(GNode.mk x2.if_ x2.yes x2.no x2.ans (([] : List Int) ++ x2.stone))])))))) else (kx0_0 l0_1)
def z0by (tree : List GNode) : Option (List GNode) := z05s tree z0dp FUEL 0 ([] : List GNode)
def z03l : Con := ⟨134, [.v (.sl (.s .node)) false], [((.sl (.s .node)), true)], [], fun x => z0by x.1⟩
def z1hb : Fs := ⟨[], []⟩
theorem z0yx : z1hb.Ok Tryz.prog := fs0
def z0ra : Tmpl := ⟨[(0, .c (.s (.s .node))), (3, .c (.ref 6)), (4, .c .i)], [(6, .arr (.s .node) true)]⟩
def z0oi : Tmpl := ⟨[(3, .c (.ref 6))], [(6, .arr (.s .node) true)]⟩
def z17n (av : AV) (x : HP z03l.ps) (n : Nat) (v : z0ra.den) (K : Ks (CR z03l)) : Option (CR z03l) := z05s v.1.1 (fun l0_1 => z0oi.at none (((), ()), (l0_1, ())) (K (.exit 0))) n v.1.2.2.1 v.2.1
def z0px (av : AV) (x : HP z03l.ps) : Hdl (CR z03l) := hnd [] z0ra (z17n av x)
theorem z193 : LP z03l Tryz.f134 [0] z0px := lp_ok (W := []) (H := []) (xs := [z0oi]) z0yx trivial rfl (fun av x v K => by kernel_rfl) (fun av x n v K => by kernel_rfl)
theorem z0zz : z03l.Ok Tryz.prog := fn_ok (k := z03l) (fn := Tryz.f134) (W := []) (H := [z0px]) Tryz.func134 z0yx ⟨z193, trivial⟩ rfl rfl (fun av x => by kernel_rfl)
def z09t (tree : List GNode) (data : List Int) (e : GAsk) (ans : Int) (x1 : (List GNode)) : Option ((List GNode) × Bool) := (z07w tree data).bind fun x20 => (if decide (x20.2 = (-1)) = true then (gd (([] : List Int).length + data.length ≤ SMALL) (gd (x1.length + [(GNode.mk e (-1) (-1) ans (([] : List Int) ++ data))].length ≤ SMALL) (some ((x1 ++ [(GNode.mk e (-1) (-1) ans (([] : List Int) ++ data))]), true)))) else ((getI tree x20.2).bind fun x24 => ((z01n x24.if_ data).bind fun x25 => (if x25 = true then ((getI x1 x20.2).bind fun x27 => (gd (([] : List Int).length + data.length ≤ SMALL) (gd ((x1.set x20.2.toNat (GNode.mk x27.if_ (tree.length : Int) x27.no x27.ans x27.stone)).length + [(GNode.mk e (-1) (-1) ans (([] : List Int) ++ data))].length ≤ SMALL) (some (((x1.set x20.2.toNat (GNode.mk x27.if_ (tree.length : Int) x27.no x27.ans x27.stone)) ++ [(GNode.mk e (-1) (-1) ans (([] : List Int) ++ data))]), true))))) else ((getI x1 x20.2).bind fun x30 => (gd (([] : List Int).length + data.length ≤ SMALL) (gd ((x1.set x20.2.toNat (GNode.mk x30.if_ x30.yes (tree.length : Int) x30.ans x30.stone)).length + [(GNode.mk e (-1) (-1) ans (([] : List Int) ++ data))].length ≤ SMALL) (some (((x1.set x20.2.toNat (GNode.mk x30.if_ x30.yes (tree.length : Int) x30.ans x30.stone)) ++ [(GNode.mk e (-1) (-1) ans (([] : List Int) ++ data))]), true)))))))))
def z03w (tree : List GNode) (data : List Int) (e : GAsk) (x1 : (List GNode)) (kx0_0 : Option ((List GNode) × Bool)) : Nat → Int → Option ((List GNode) × Bool)
  | 0, _ => none
  | n0 + 1, s0_0 => if decide (s0_0 < (tree.length : Int)) = true then ((getI tree s0_0).bind fun x12 => ((z0f5 tree x12.stone data).bind fun x13 => (if x13 = true then ((getI tree s0_0).bind fun x15 => ((z01n e x15.stone).bind fun x16 => (if x16 = true then (some (x1, false)) else (gd (ok64 (s0_0 + 1)) ((z03w tree data e x1 kx0_0 n0) (s0_0 + 1)))))) else (gd (ok64 (s0_0 + 1)) ((z03w tree data e x1 kx0_0 n0) (s0_0 + 1)))))) else (kx0_0)
def z0f1 (tree : List GNode) (data : List Int) (e : GAsk) (ans : Int) : Option ((List GNode) × Bool) := (z0by tree).bind fun x1 => ((z093 tree).bind fun x2 => (if x2 = true then ((z02b data).bind fun x4 => (if x4 = true then ((z01n e data).bind fun x6 => (if x6 = true then ((z002 ans 0 2).bind fun x8 => (if x8 = true then (if decide ((tree.length : Int) = 12) = true then (some (x1, false)) else (z03w tree data e x1 (z09t tree data e ans x1) FUEL 0)) else (some (x1, false)))) else (some (x1, false)))) else (some (x1, false)))) else (some (x1, false))))
def z04y : Con := ⟨132, [.v (.sl (.s .node)) false, .v (.sl .I) false, .v (.s .ask) false, .v .I false], [((.sl (.s .node)), true), (.B, true)], [], fun x => z0f1 x.1 x.2.1 x.2.2.1 x.2.2.2.1⟩
def z1h5 : Fs := ⟨[z03l, z015, z013, z057, z00o, z0lu, z02k], []⟩
theorem z0yu : z1h5.Ok Tryz.prog := (fsK z0zz (fsK z0th (fsK z06l (fsK z08e (fsK z00t (fsK z1kz (fsK z0n0 fs0)))))))
def z0r7 : Tmpl := ⟨[(0, .c (.s (.s .node))), (1, .c (.s .I)), (3, .c .i), (6, .c (.bx 6 0)), (10, .c (.ref 15)), (11, .c .i)], [(6, .boxT (.s .ask)), (15, .arr (.s .node) true)]⟩
def z0of : Tmpl := ⟨[(0, .c (.s (.s .node))), (1, .c (.s .I)), (3, .c .i), (6, .c (.bx 6 0)), (10, .c (.ref 15))], [(6, .boxT (.s .ask)), (15, .arr (.s .node) true)]⟩
def z17k (av : AV) (x : HP z04y.ps) (n : Nat) (v : z0r7.den) (K : Ks (CR z04y)) : Option (CR z04y) := z03w v.1.1 v.1.2.1 v.2.1 v.2.2.1 (z0of.at none ((v.1.1, v.1.2.1, v.1.2.2.1, (), (), ()), (v.2.1, v.2.2.1, ())) (K (.exit 0))) n v.1.2.2.2.2.2.1
def z0pu (av : AV) (x : HP z04y.ps) : Hdl (CR z04y) := hnd [] z0r7 (z17k av x)
theorem z190 : LP z04y Tryz.f132 [0] z0pu := lp_ok (W := []) (H := []) (xs := [z0of]) z0yu trivial rfl (fun av x v K => by kernel_rfl) (fun av x n v K => by kernel_rfl)
theorem z1kv : z04y.Ok Tryz.prog := fn_ok (k := z04y) (fn := Tryz.f132) (W := []) (H := [z0pu]) Tryz.func132 z0yu ⟨z190, trivial⟩ rfl rfl (fun av x => by kernel_rfl)
def z03m (ans : Int) : Option Bool := (z00b ans 0 2).bind fun x1 => (some x1)
def z089 : Con := ⟨139, [.v .I false], [(.B, true)], [], fun x => z03m x.1⟩
def z17z : Fs := ⟨[z025], []⟩
theorem z18b : z17z.Ok Tryz.prog := (fsK z02s fs0)
theorem z0fx : z089.Ok Tryz.prog := fn_ok (k := z089) (fn := Tryz.f139) (W := []) (H := []) Tryz.func139 z18b trivial rfl rfl (fun av x => by kernel_rfl)
def z08z (l0_1 : List GNode) : Option (List GNode) := some l0_1
def z02a (tree : List GNode) (p0_0 : Int) (kx0_0 : List GNode → Option (List GNode)) : Nat → Int → List GNode → Option (List GNode)
  | 0, _, _ => none
  | n0 + 1, s0_0, l0_1 => if decide (s0_0 < p0_0) = true then ((getI tree s0_0).bind fun x2 => ((z00f x2.stone).bind fun x3 => (gd (l0_1.length + [(GNode.mk x2.if_ x2.yes x2.no x2.ans x3)].length ≤ SMALL) (gd (ok64 (s0_0 + 1)) ((z02a tree p0_0 kx0_0 n0) (s0_0 + 1) (l0_1 ++ [(GNode.mk x2.if_ x2.yes x2.no x2.ans x3)])))))) else (kx0_0 l0_1)
def z06r (tree : List GNode) : Option (List GNode) := z02a tree (tree.length : Int) z08z FUEL 0 ([] : List GNode)
def z019 : Con := ⟨144, [.v (.sl (.s .node)) false], [((.sl (.s .node)), true)], [], fun x => z06r x.1⟩
def z10l : Fs := ⟨[z01m], []⟩
theorem z0i8 : z10l.Ok Tryz.prog := (fsK z02p fs0)
def z0fj : Tmpl := ⟨[(3, .c (.ref 500003)), (6, .c (.s (.s .node))), (7, .c .i), (8, .c .i)], [(500003, .arr (.s .node) true)]⟩
def z0e2 : Tmpl := ⟨[(3, .c (.ref 500003))], [(500003, .arr (.s .node) true)]⟩
def z0tp (av : AV) (x : HP z019.ps) (n : Nat) (v : z0fj.den) (K : Ks (CR z019)) : Option (CR z019) := z02a v.1.2.1 v.1.2.2.1 (fun l0_1 => z0e2.at none (((), ()), (l0_1, ())) (K (.exit 0))) n v.1.2.2.2.1 v.2.1
def z0eb (av : AV) (x : HP z019.ps) : Hdl (CR z019) := hnd [.e 3 500003 (.s .node)] z0fj (z0tp av x)
theorem z0vm : LP z019 Tryz.f144 [0] z0eb := lp_ok (W := []) (H := []) (xs := [z0e2]) z0i8 trivial rfl (fun av x v K => by kernel_rfl) (fun av x n v K => by kernel_rfl)
theorem z0iv : z019.Ok Tryz.prog := fn_ok (k := z019) (fn := Tryz.f144) (W := []) (H := [z0eb]) Tryz.func144 z0i8 ⟨z0vm, trivial⟩ rfl rfl (fun av x => by kernel_rfl)
end
end Go.Am
