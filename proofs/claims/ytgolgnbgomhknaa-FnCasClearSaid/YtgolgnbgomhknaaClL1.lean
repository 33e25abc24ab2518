/- The plain law. Own work. -/
import Derived.Test.YtgolgnbgomhknaaClP2
set_option maxRecDepth 100000
set_option linter.unusedVariables false
set_option linter.unusedSimpArgs false
section
namespace Go.Am.Pl
open Go
theorem y2d {t : GTask} {places : Int} : ∀ {suf pre : List GFlow}, flowsB t places pre suf = true → (∀ f ∈ suf, ∀ g ∈ pre, g.to ≠ f.to) ∧ (suf.map (·.to)).Nodup
  | [], _, _ => ⟨fun f hf => by simp at hf, List.nodup_nil⟩
  | x :: suf, pre, h => by
    simp only [flowsB, Bool.and_eq_true, Bool.not_eq_true', List.any_eq_false, decide_eq_true_eq] at h
    obtain ⟨_, _, _, h4, h5⟩ := h
    obtain ⟨i1, i2⟩ := y2d h5
    refine ⟨fun f hf g hg => ?_, ?_⟩
    · rcases List.mem_cons.1 hf with rfl | hf
      · exact h4 g hg
      · exact i1 f hf g (by simp [hg])
    · rw [List.map_cons, List.nodup_cons]
      refine ⟨fun hm => ?_, i2⟩
      obtain ⟨f, hf, e⟩ := List.mem_map.1 hm
      exact i1 f hf x (by simp) e.symm
theorem y27 (split : Int) (data : List Int) : ∀ (fs : List GFlow) (l : List Int), (fs.map (·.to)).Nodup → l.Nodup → (∀ p ∈ l, ∀ f ∈ fs, f.to ≠ p) → (splL split data fs l).Nodup
  | [], l, _, h, _ => h
  | f :: fs, l, h1, h2, h3 => by
    rw [List.map_cons, List.nodup_cons] at h1
    unfold splL
    split
    · refine y27 split data fs (l ++ [f.to]) h1.2 ?_ (fun p hp g hg => ?_)
      · rw [List.nodup_append]
        refine ⟨h2, by simp, fun a ha b hb => ?_⟩
        rw [List.mem_singleton] at hb; subst hb
        exact fun e => h3 a ha f (by simp) e.symm
      · rw [List.mem_append, List.mem_singleton] at hp
        rcases hp with hp | rfl
        · exact h3 p hp g (by simp [hg])
        · exact fun e => h1.1 (List.mem_map.2 ⟨g, hg, e⟩)
    · exact y27 split data fs l h1.2 h2 (fun p hp g hg => h3 p hp g (by simp [hg]))
theorem w2a {p : Int} (p0 : 0 ≤ p) : ∀ (ps l : List Int), p < l.length → (∀ q ∈ ps, 0 ≤ q ∧ q < l.length) → atI (incs l ps) p = atI l p + (ps.count p : Nat)
  | [], l, _, _ => by simp [incs]
  | q :: ps, l, hp, hq => by
    have h0 := hq q (by simp)
    have e : incs l (q :: ps) = incs (inc l q) ps := rfl
    rw [e, w2a p0 ps (inc l q) (by rw [zz2]; exact hp) (fun r hr => by rw [zz2]; exact hq r (by simp [hr]))]
    unfold inc
    rw [w13 _ _ h0.1 p0 hp, List.count_cons]
    by_cases h : q = p
    · subst h; simp; omega
    · have : (q == p) = false := by simpa using h
      rw [if_neg h, this]; simp
theorem yy9 {p : Int} (p0 : 0 ≤ p) : ∀ (ps l : List Int), p < l.length → (∀ q ∈ ps, 0 ≤ q) → (atI l p = 0 ∨ p ∈ ps) → atI (zeros l ps) p = 0
  | [], l, _, _, h => h.elim id (fun h => by simp at h)
  | q :: ps, l, hp, hq, h => by
    have e : zeros l (q :: ps) = zeros (l.set q.toNat 0) ps := rfl
    have h0 := hq q (by simp)
    rw [e]
    refine yy9 p0 ps _ (by rw [List.length_set]; exact hp) (fun r hr => hq r (by simp [hr])) ?_
    rw [w13 _ _ h0 p0 hp]
    by_cases h2 : q = p
    · rw [if_pos h2]; exact .inl rfl
    · rw [if_neg h2]
      rcases h with h | h
      · exact .inl h
      · exact .inr ((List.mem_cons.1 h).resolve_left (fun e => h2 e.symm))
theorem law_FnCasClear (code : List Int) (hl : code.length ≤ 9223372036854775807) (hb : ∀ y ∈ code, 0 ≤ y ∧ y ≤ 255) : z6v code = some true := by
  unfold z6v
  by_cases hz : 1048576 < (code.length : Int)
  · rw [if_pos (decide_eq_true hz)]
  rw [if_neg (by simpa using hz)]
  obtain ⟨⟨n, c, k, v, num⟩, e, hn, hc⟩ := drawCasWork code hb
  dsimp only at hn hc
  have sn := hn.small
  have sc := hc.small (by omega)
  rw [e, Option.bind_some]
  dsimp only
  have sx := (y6p n c k v num).small sc
  rw [yl0 n c k v num sn sc, Option.bind_some, zq7 n c k v num sn sc, Option.bind_some, w6n _ _ sx, Option.bind_some, if_pos (by simp), if_pos (by simp)]
  by_cases h : (workB n c k v num).2 = true
  case neg => rw [if_neg h, gu_Ok, Option.bind_some]
  rw [if_pos h]
  obtain ⟨W, R⟩ := w0r h
  generalize (workB n c k v num).1 = x at R sx
  have F := z8g W.cas
  have hm := z4x c.busy W.k0 W.k1
  have hB := F.busy _ hm
  have hgt := z1a n.tasks hB.1.1 hB.1.2
  have htm := z4x n.tasks hB.1.1 hB.1.2
  have T := z57 F.net htm
  have main : ∀ m : List Int, m = giveL n c.marks (atI n.tasks (atI c.busy k).task) (datB c.data v num) →
      ((getI c.busy k).bind fun x11 => (getI n.tasks x11.task).bind fun x12 => (z5l x12 (datB c.data v num)).bind fun x13 => z0q x12 x13 m z3j FUEL 0) = some true := by
    intro m hm2
    rw [z1a c.busy W.k0 W.k1, Option.bind_some, hgt, Option.bind_some, y96 _ _ (sn.2 _ htm).2.1 (by rw [y08]; exact sc.2.2.1), Option.bind_some]
    generalize atI n.tasks (atI c.busy k).task = t at *
    have hlen : m.length = c.marks.length := by rw [hm2, w23]
    have hcl := (sn.2 _ htm).2.2
    have hout := (sn.2 _ htm).2.1
    have G := yr6 (m := c.marks) (data := datB c.data v num) (w4e.1 W.cas).1 htm
    have hfl : flowsB t n.places [] t.out = true := by
      have hnb := F.net
      simp only [netB, Bool.and_eq_true, List.all_eq_true] at hnb
      have := hnb.2.2 t htm
      simp only [taskB, Bool.and_eq_true] at this
      exact this.2.2.2.2.1.2
    have hnd : (splL t.split (datB c.data v num) t.out []).Nodup := y27 _ _ _ _ (y2d hfl).2 List.nodup_nil (fun p hp => by simp at hp)
    have hat : ∀ p ∈ t.clear, (0 ≤ p ∧ p < m.length) ∧ atI m p = if (splL t.split (datB c.data v num) t.out []).any (fun y => decide (y = p)) = true then 1 else 0 := by
      intro p hp
      have hr := G.clears p hp
      refine ⟨by omega, ?_⟩
      rw [hm2]
      unfold giveL
      rw [w2a hr.1 _ _ (by rw [zg0]; exact hr.2) G.tos, yy9 hr.1 _ _ hr.2 (fun q hq => (G.clears q hq).1) (.inr hp), hnd.count]
      by_cases h2 : p ∈ splL t.split (datB c.data v num) t.out []
      · rw [if_pos h2, if_pos (by rw [List.any_eq_true]; exact ⟨p, h2, by simp⟩)]; rfl
      · rw [if_neg h2, if_neg (by rw [List.any_eq_true]; rintro ⟨y, hy, e⟩; rw [decide_eq_true_eq] at e; subst e; exact h2 hy)]; rfl
    have Glen := G.len
    clear hnd G
    generalize splL t.split (datB c.data v num) t.out [] = tos at *
    refine scan0 t.clear (by unfold SMALL at hcl; omega) (z0q t tos m z3j) (fun _ _ => some true) (fun f => by rw [z0q, if_neg (by simp)]; unfold z3j; rw [gu_Ok]; rfl)
      (fun f pre p suf a b g d ih => ?_)
    obtain ⟨hr, ha⟩ := hat p (by rw [a]; simp)
    rw [z0q, if_pos (decide_eq_true g), b, Option.bind_some, w7j _ _ Glen, Option.bind_some, Option.bind_some, Option.bind_some, z1a m hr.1 hr.2, Option.bind_some, Option.bind_some, ha]
    by_cases h2 : tos.any (fun y => decide (y = p)) = true
    · rw [if_pos h2, if_pos h2, if_pos (by simp), z02 d, ih]
    · rw [if_neg h2, if_neg h2, if_pos (by simp), z02 d, ih]
  cases R with
  | more hd => rw [if_pos (by simp), gu_Ok, Option.bind_some]
  | ends hd G hp => rw [if_neg (by simp only [List.length_append, List.length_cons, List.length_nil, decide_eq_true_eq]; omega)]; exact main _ rfl
  | goes hd G hp => rw [if_neg (by simp only [List.length_append, List.length_cons, List.length_nil, decide_eq_true_eq]; omega)]; exact main _ rfl
end Go.Am.Pl
end
