/- The plain law. Own work. -/
import Derived.Test.YtgolgnbgomhknaaGreatEyP2
set_option maxRecDepth 100000
set_option linter.unusedVariables false
set_option linter.unusedSimpArgs false
section
namespace Go.Am.Pl
open Go
theorem vy6 (lg : List GReq) (i : Int) : lg.flatMap (caseE i) = caseL lg i := by
  unfold caseL
  induction lg with
  | nil => rfl
  | cons r l ih =>
    rw [List.flatMap_cons, List.filter_cons, ih]
    unfold caseE aboutB
    by_cases h : 2 ≤ r.kind ∧ r.kind ≤ 4 ∧ r.case = i
    · rw [if_pos h, if_pos (zT h)]; rfl
    · rw [if_neg h, if_neg (by rw [zE]; exact h)]; rfl
structure LateI (em ek : GDid) (pre : List GReq) (first last : Int) : Prop where
  f0 : -1 ≤ first ∧ first < pre.length
  l0 : -1 ≤ last ∧ last < pre.length
  f1 : ∀ a b : List GReq, ∀ x, pre = a ++ x :: b → St em.who em.task x → (a.length : Int) ≤ first
  l1 : ∀ a b : List GReq, ∀ x, pre = a ++ x :: b → St ek.who ek.task x → 0 ≤ last ∧ last ≤ a.length
theorem v8i {α : Type} {pre a b : List α} {x y : α} (h : pre ++ [y] = a ++ x :: b) : (b = [] ∧ a = pre ∧ x = y) ∨ ∃ b', b = b' ++ [y] ∧ pre = a ++ x :: b' := by
  rcases List.eq_nil_or_concat b with rfl | ⟨b', z, rfl⟩
  · have h1 : pre ++ [y] = a ++ [x] := h
    obtain ⟨e1, e2⟩ := List.append_inj' h1 rfl
    exact .inl ⟨rfl, e1.symm, (List.cons.inj e2).1.symm⟩
  · rw [List.concat_eq_append] at h ⊢
    have h1 : pre ++ [y] = (a ++ x :: b') ++ [z] := by rw [h]; simp
    obtain ⟨e1, e2⟩ := List.append_inj' h1 rfl
    exact .inr ⟨b', by rw [(List.cons.inj e2).1], e1⟩
theorem LateI.nil {em ek : GDid} : LateI em ek [] (-1) (-1) := ⟨by simp, by simp, fun a b x h => by simp at h, fun a b x h => by simp at h⟩
theorem LateI.step {em ek : GDid} {pre : List GReq} {first last : Int} (I : LateI em ek pre first last) (r : GReq) :
    LateI em ek (pre ++ [r]) (if r.kind = 2 ∧ r.who = em.who ∧ r.task = em.task then (pre.length : Int) else first) (if (r.kind = 2 ∧ r.who = ek.who ∧ r.task = ek.task) ∧ last < 0 then (pre.length : Int) else last) := by
  obtain ⟨⟨f0, f0'⟩, ⟨l0, l0'⟩, f1, l1⟩ := I
  have hlen : ((pre ++ [r]).length : Int) = pre.length + 1 := by simp
  refine ⟨by split <;> omega, by split <;> omega, fun a b x h hx => ?_, fun a b x h hx => ?_⟩
  · rcases v8i h with ⟨_, e2, e3⟩ | ⟨b', _, e2⟩
    · subst e2; subst e3; rw [if_pos (show x.kind = 2 ∧ x.who = em.who ∧ x.task = em.task from hx)]; omega
    · have := f1 a b' x e2 hx
      have : a.length < pre.length := by rw [e2]; simp
      split <;> omega
  · rcases v8i h with ⟨_, e2, e3⟩ | ⟨b', _, e2⟩
    · subst e2; subst e3
      by_cases hl : last < 0
      · rw [if_pos (show (x.kind = 2 ∧ x.who = ek.who ∧ x.task = ek.task) ∧ last < 0 from ⟨hx, hl⟩)]; omega
      · rw [if_neg (show ¬ ((x.kind = 2 ∧ x.who = ek.who ∧ x.task = ek.task) ∧ last < 0) from fun c => hl c.2)]; omega
    · have h1 := l1 a b' x e2 hx
      rw [if_neg (show ¬ ((r.kind = 2 ∧ r.who = ek.who ∧ r.task = ek.task) ∧ last < 0) from fun c => by have := c.2; omega)]; exact h1
theorem u04 {lg : List GReq} {i : Int} {n : GNet} {did : List GDid} {m k : Int} (hs : lg.length ≤ 1000) (hd : ∀ r ∈ lg, r.data.length ≤ SMALL) (m0 : 0 ≤ m) (m1 : m < did.length) (k0 : 0 ≤ k) (k1 : k < did.length)
    (hB : Bef (caseL lg i) (St (atI did k).who (atI did k).task) (St (atI did m).who (atI did m).task)) : zx9 lg i n did m k = some true := by
  unfold zx9
  have gm := z0g did m0 m1
  have gk := z0g did k0 k1
  generalize atI did m = em at *
  generalize atI did k = ek at *
  rw [v3n lg i (by unfold SMALL; omega) hd, zB, vy6]
  have hcl : (caseL lg i).length ≤ 1000 := Nat.le_trans (List.length_filter_le _ _) hs
  generalize caseL lg i = l at *
  refine scan l (by omega) (fun f j (s : Int × Int) => z04 did m k l z67 f s.1 s.2 j) (fun _ _ _ => some true) (fun pre s => LateI em ek pre s.1 s.2) (fun f s I => ?_) (fun f pre r suf s a b g d I ih => ?_) FUEL (-1, -1) LateI.nil (by have := z1w; omega)
  · obtain ⟨A, B, e, ⟨x, hx, hPx⟩, y, hy, hQy⟩ := hB
    obtain ⟨a1, a2, rfl⟩ := List.mem_iff_append.1 hx
    obtain ⟨b1, b2, rfl⟩ := List.mem_iff_append.1 hy
    have h1 := I.l1 a1 (a2 ++ (b1 ++ y :: b2)) x (by rw [e]; simp) hPx
    have h2 := I.f1 ((a1 ++ x :: a2) ++ b1) b2 y (by rw [e]; simp) hQy
    simp only [zL, zC] at h2
    show z04 did m k l z67 (f + 1) s.1 s.2 (l.length : Int) = some true
    rw [z04, if_neg (by simp)]
    unfold z67
    rw [if_pos (zT h1.1), zT (by omega)]
  · have I2 := I.step r
    show z04 did m k l z67 (f + 1) s.1 s.2 (pre.length : Int) = some true
    have ih' : z04 did m k l z67 f (if r.kind = 2 ∧ r.who = em.who ∧ r.task = em.task then (pre.length : Int) else s.1) (if (r.kind = 2 ∧ r.who = ek.who ∧ r.task = ek.task) ∧ s.2 < 0 then (pre.length : Int) else s.2) ((pre.length : Int) + 1) = some true :=
      ih (if r.kind = 2 ∧ r.who = em.who ∧ r.task = em.task then (pre.length : Int) else s.1, if (r.kind = 2 ∧ r.who = ek.who ∧ r.task = ek.task) ∧ s.2 < 0 then (pre.length : Int) else s.2) I2
    rw [z04, if_pos (zT g)]
    simp only [b, gm, gk, zB, z00 d]
    rcases Classical.propComplete (r.kind = 2) with c1 | c1
    case inr =>
      simp only [c1, false_and, if_false, decide_false, Bool.false_eq_true] at ih' ⊢; exact ih'
    simp only [c1, true_and, decide_true, if_true] at ih' ⊢
    rcases Classical.propComplete (r.who = em.who) with c2 | c2 <;> rcases Classical.propComplete (r.task = em.task) with c3 | c3 <;> rcases Classical.propComplete (r.who = ek.who) with c4 | c4 <;> rcases Classical.propComplete (r.task = ek.task) with c5 | c5 <;> rcases Classical.propComplete (s.2 < 0) with c6 | c6 <;>
      simp only [c2, c3, c4, c5, c6, true_and, false_and, and_true, and_false, decide_true, decide_false, Bool.false_eq_true, if_true, if_false] at ih' ⊢ <;> exact ih'
theorem vz5 {lg : List GReq} {i : Int} {n : GNet} {people : List Int} {did : List GDid} {a : Int} {kk : Int} {kx : Option Bool} (hs : lg.length ≤ 1000) (hd : ∀ r ∈ lg, r.data.length ≤ SMALL) (hl : did.length ≤ 1000) (k0 : 0 ≤ kk) (k1 : kk < did.length)
    (hdd : ∀ m : Int, 0 ≤ m → m < kk → (atI did m).task = apartT n (atI did kk).task → (atI did m).who = (atI did kk).who → (atI did m).task ≠ (atI did kk).task → Bef (caseL lg i) (St (atI did kk).who (atI did kk).task) (St (atI did kk).who (atI did m).task))
    (ha : a = apartT n (atI did kk).task) (hk : kx = some true) : z0k i lg n did kk a kx FUEL 0 = some true := by
  have gk := z0g did k0 k1
  refine scan0 (nats kk.toNat) (by rw [yk8]; omega) (fun f j => z0k i lg n did kk a kx f j) (fun _ _ => some true) (fun f => ?_) (fun f pre r suf e g c d ih => ?_)
  · show z0k i lg n did kk a kx (f + 1) ((nats kk.toNat).length : Int) = some true
    rw [z0k, if_neg (by rw [yk8, zE]; omega)]; exact hk
  · rw [yk8] at c
    have c : (pre.length : Int) < kk := by omega
    have gm := z0g did (i := (pre.length : Int)) (by omega) (by omega)
    have H := hdd (pre.length : Int) (by omega) c
    have L := fun hB => u04 (lg := lg) (i := i) (n := n) (did := did) (m := (pre.length : Int)) (k := kk) hs hd (by omega) (by omega) k0 k1 hB
    show z0k i lg n did kk a kx (f + 1) (pre.length : Int) = some true
    have ih : z0k i lg n did kk a kx f ((pre.length : Int) + 1) = some true := ih
    generalize atI did (pre.length : Int) = em at *
    generalize atI did kk = ek at *
    rw [z0k, if_pos (zT c)]
    simp only [gm, gk, zB, z00 d, ih]
    by_cases h1 : em.task = a
    case neg => rw [if_neg (by simpa using h1)]
    rw [if_pos (zT h1)]
    by_cases h2 : em.who = ek.who
    case neg => rw [if_neg (by simpa using h2)]
    rw [if_pos (zT h2)]
    by_cases h3 : a = ek.task
    · rw [if_pos (zT h3)]
    rw [if_neg (by simpa using h3), L (by have := H (h1.trans ha) h2 (by rw [h1]; exact h3); rw [← h2] at this ⊢; rw [h2] at this ⊢; exact this), zB, if_pos rfl]
theorem dd_at {n : GNet} {l : List GReq} {did : List GDid} (h : did.Pairwise fun e d => e.task = apartT n d.task → e.who = d.who → e.task ≠ d.task → Bef l (St d.who d.task) (St d.who e.task)) {m k : Int} (m0 : 0 ≤ m) (mk : m < k) (kl : k < did.length) :
    (atI did m).task = apartT n (atI did k).task → (atI did m).who = (atI did k).who → (atI did m).task ≠ (atI did k).task → Bef l (St (atI did k).who (atI did k).task) (St (atI did k).who (atI did m).task) := by
  obtain ⟨a, rfl⟩ := Int.eq_ofNat_of_zero_le m0
  obtain ⟨b, rfl⟩ := Int.eq_ofNat_of_zero_le (show 0 ≤ k by omega)
  have hb : b < did.length := by omega
  have hab : a < b := by omega
  have := List.pairwise_iff_getElem.1 h a b (by omega) hb hab
  have e1 : atI did (a : Int) = did[a] := by unfold atI; rw [z30, List.getElem?_eq_getElem (by omega)]; rfl
  have e2 : atI did (b : Int) = did[b] := by unfold atI; rw [z30, List.getElem?_eq_getElem hb]; rfl
  rw [e1, e2]; exact this
theorem vc2 {lg : List GReq} {i : Int} {n : GNet} {people : List Int} {busy : List GItem} {did : List GDid} {kx : Option Bool} (hs : lg.length ≤ 1000) (hd : ∀ r ∈ lg, r.data.length ≤ SMALL) (hl : did.length ≤ 1000) (hp : people.length ≤ SMALL)
    (hdn : ∀ d ∈ did, 0 ≤ d.task ∧ d.task < n.tasks.length) (E : Eyes n people (caseL lg i) busy did) (hk : kx = some true) : z14 i people lg n kx FUEL did 0 = some true := by
  refine scan0 did (by omega) (fun f j => z14 i people lg n kx f did j) (fun _ _ => some true) (fun f => ?_) (fun f pre d suf e g c o ih => ?_)
  · show z14 i people lg n kx (f + 1) did (did.length : Int) = some true
    rw [z14, if_neg (by simp)]; exact hk
  · have hm : d ∈ did := by rw [e]; simp
    have hr := hdn d hm
    have gt := z0g n.tasks hr.1 hr.2
    have ed : atI did (pre.length : Int) = d := by unfold atI; rw [g]; rfl
    show z14 i people lg n kx (f + 1) did (pre.length : Int) = some true
    have ih : z14 i people lg n kx f did ((pre.length : Int) + 1) = some true := ih
    rw [z14, if_pos (zT c)]
    simp only [g, gt, zB, w8d people d.who _ hp]
    rw [if_pos (E.has d hm)]
    refine vz5 (people := people) hs hd hl (by omega) c (fun m m0 m1 => dd_at E.dd m0 m1 c) (by rw [ed]; rfl) ?_
    unfold y0k
    rw [z00 o]; exact ih
theorem law_FnCasEyes (code : List Int) (hl : code.length ≤ 9223372036854775807) (hb : ∀ y ∈ code, 0 ≤ y ∧ y ≤ 255) : zt3 code = some true := by
  unfold zt3
  by_cases hz : 1048576 < (code.length : Int)
  · rw [if_pos (zT hz)]
  rw [if_neg (by simpa using hz)]
  obtain ⟨⟨h, rs⟩, e, hh, hr⟩ := drawLogRun code hb
  dsimp only at hh hr
  obtain ⟨a1, a2⟩ := hr.small (by omega)
  have RR := vu2 (h := h) hr
  obtain ⟨b1, b2⟩ := RR.small (by omega)
  have sx := y6h (vu1 (rs := rs) hh)
  rw [e, zB]
  dsimp only
  rw [v68 h rs hh a1 a2, zB, v72 h rs hh a1 a2, zB, vq4 _ _ sx, zB, if_pos (by simp), u05 _ _ b1 b2, zB, if_pos (by simp)]
  by_cases h0 : 0 < (h.runs.length : Int)
  · rw [if_pos (zT h0), gu_Ok, zB]
  rw [if_neg (by simpa using h0)]
  have h0 : h.runs = [] := List.length_eq_zero_iff.1 (by omega)
  have k3 : z2t = some true := by unfold z2t; rw [gu_Ok, zB]
  have R1 := RR.1
  rcases v52 (h := h) (rs := rs) with ⟨h1, h2, e1⟩ | ⟨e1, hn⟩
  · have E := vp9 h0 h1 h2
    have hok : houseB (logRunB h rs).1 = true := by rw [e1]; exact yu2 rs h1 (wz8.1 h2).2
    have F := zn4.1 hok
    generalize (logRunB h rs).2 = lg at *
    generalize (logRunB h rs).1 = x at *
    have many := F.many
    refine scan0 x.runs (by omega) (fun f j => z13 z2t f x.nets x.runs j x.people lg x.tree) (fun _ _ => some true) (fun f => ?_) (fun f pre r suf ea g c o ih => ?_)
    · show z13 z2t (f + 1) x.nets x.runs (x.runs.length : Int) x.people lg x.tree = some true
      rw [z13, if_neg (by simp)]; exact k3
    · have hm : r ∈ x.runs := by rw [ea]; simp
      have er : atI x.runs (pre.length : Int) = r := by unfold atI; rw [g]; rfl
      have rb := w6f.1 (F.runs r hm)
      have C := zp1.1 rb.2
      have Ei := E (pre.length : Int) (by omega) c
      rw [er] at Ei
      show z13 z2t (f + 1) x.nets x.runs (pre.length : Int) x.people lg x.tree = some true
      have ih : z13 z2t f x.nets x.runs ((pre.length : Int) + 1) x.people lg x.tree = some true := ih
      rw [z13, if_pos (zT c)]
      simp only [g, z0g x.nets rb.1.1 rb.1.2, zB]
      refine vc2 (by omega) b2 (by have := C.2.2.2.1; omega) sx.2.1 (fun d hd => ?_) Ei ?_
      · have := zV.1 C.2.2.2.2.2.1 d hd
        simp only [didB, zA, z0d] at this; omega
      · unfold y0l
        rw [z00 o]; exact ih
  · rw [e1]
    obtain ⟨f, hF⟩ : ∃ f, FUEL = f + 1 := ⟨FUEL - 1, by have := z1w; omega⟩
    rw [hF, z13, if_neg (by simp [noHouse])]; exact k3
end Go.Am.Pl
end
