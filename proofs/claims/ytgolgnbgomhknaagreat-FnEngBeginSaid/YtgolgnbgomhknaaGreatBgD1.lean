/- slices.Delete. Own work. -/
import Derived.Test.YtgolgnbgomhknaaGreatBgB5
import Derived.WalkKit
import Derived.OwnWalk
import Derived.KernelRfl
import Derived.Deep.LoopGhost
import Derived.Deep.RegionLaw
import Derived.Deep.RegionHeld3
import Derived.Deep.OwnRows
import Derived.Lib.LazyBuf
import Derived.Deep.Upon
import Derived.Lib.SliceRun
import Derived.Tactics2
set_option maxRecDepth 1000000
set_option maxHeartbeats 4000000
set_option linter.unusedVariables false
set_option linter.unusedSimpArgs false
section
namespace Go.Am
noncomputable section
open Go Go.Proofs
structure Hd (p : Prop) : Prop where
  out : p
theorem y1b (b : Nat) : ∀ (vs : List Value) (o : Nat) (w : World), (w.setCells b o vs).heap.size = w.heap.size := fun vs o w => by
  induction vs generalizing o w with
  | nil => rfl
  | cons v r ih => rw [World.setCells, ih]; simp [World.setCell]
theorem w2m {P : Program} (w : World) (t e ty : TypeId) (z u : Value) (ht : P.underlying t = some (.slice e)) (hv : ∀ w, (zeroValue e).run P w = .ok z w) (hz : z.cells = #[u, u, u]) (h1 : u.oneCell' = true) (b o n c : Nat) (hn : 0 < n)
    (hc : ∀ j, j < n * 3 → (w.cell? ⟨b, o + j, none⟩).isSome = true) (hf : ∀ j, j < n * 3 → w.frozen? ⟨b, o + j, none⟩ = false) :
    (Builtin.clear_ #[t] ty #[.slice (some ⟨b, o, none⟩) n c]).run P w = .ok (.tuple #[]) (w.setCells b o (List.replicate (n * 3) u)) := by
  have hzc : (Builtin.zeroCells z.cells n).toList = List.replicate (n * 3) u := by
    rw [hz]
    simp only [Builtin.zeroCells]
    apply List.ext_getElem
    · simp
    · intro i h1 h2
      have : i % 3 = 0 ∨ i % 3 = 1 ∨ i % 3 = 2 := by omega
      simp
      rcases this with h | h | h <;> simp [h]
  have hst := run_storeCells_cells (P := P) b o (List.replicate (n * 3) u) 0 w (by simpa using hc) (by simpa using hf) (by intro v hv'; rw [List.eq_of_mem_replicate hv']; exact h1)
  simp only [Nat.add_zero] at hst
  obtain ⟨m, rfl⟩ : ∃ m, n = m + 1 := ⟨n - 1, by omega⟩
  simp [Builtin.clear_, run_underlying ht, hv, hzc, hst]
theorem infoDel : (Tryz.prog.info? 50).map (fun i => (i.zero, i.size, i.bytes)) = some (some (.agg #[.int .i64 0, .int .i64 0, .int .i64 0]), 3, 24) := by kernel_rfl
theorem zeroDel (w : World) : (zeroValue 50).run Tryz.prog w = .ok (.agg #[.int .i64 0, .int .i64 0, .int .i64 0]) w := by
  obtain ⟨i, h1, h2, h3, h4⟩ := info_parts infoDel
  simp [zeroValue, typeInfo, h1, h2]
abbrev delNews (f : Nat → Value) (j n : Nat) : List Value := (List.range (n * 3)).map fun t => f (j * 3 + t)
theorem v9a (len cap i : Nat) (w : World) (hi : i ≤ len) (hl : len ≤ cap) (hm : len ≤ 9223372036854775807) (b : Nat) :
    Calls Tryz.prog 116 #[.slice (some ⟨b, 0, none⟩) len cap, .int .i64 i, .int .i64 i] w fun e w' => e = .returned (.slice (some ⟨b, 0, none⟩) len cap) ∧ w' = w := by
  go_enter Tryz.func116, Tryz.ntmps116
  go_wp2
  all_goals first | done | (go_ret; exact ⟨rfl, rfl⟩)
theorem vg1 (w : World) :
    Calls Tryz.prog 116 #[.slice none 0 0, .int .i64 0, .int .i64 0] w fun e w' => e = .returned (.slice none 0 0) ∧ w' = w := by
  go_enter Tryz.func116, Tryz.ntmps116
  go_wp2
  all_goals first | done | (go_ret; exact ⟨rfl, rfl⟩)
theorem v5g (b cap len i j : Nat) (w : World) (f : Nat → Value) (T : TypeId) (h : w.rowIs b T (cap * 3) f) (hone : ∀ k, k < len * 3 → (f k).oneCell' = true)
    (hl : len ≤ cap) (hm : len ≤ 9223372036854775807) (hlt : i < j) (hj : j ≤ len) :
    Calls Tryz.prog 116 #[.slice (some ⟨b, 0, none⟩) len cap, .int .i64 i, .int .i64 j] w fun e w' =>
      e = .returned (.slice (some ⟨b, 0, none⟩) (i + (len - j)) cap) ∧ w' = (w.drew.setCells b (i * 3) (delNews f j (len - j))).setCells b ((i + (len - j)) * 3) (List.replicate ((len - (i + (len - j))) * 3) (.int .i64 0)) := by
  obtain ⟨i0, hi0, hz0, hz1, hz2⟩ := info_parts infoDel
  obtain ⟨news, hnews⟩ : ∃ news, news = delNews f j (len - j) := ⟨_, rfl⟩
  rw [← hnews]
  have hlen : news.length = (len - j) * 3 := by rw [hnews]; simp
  have hget : ∀ t, t < (len - j) * 3 → news[t]? = some (f (j * 3 + t)) := by
    intro t ht
    rw [hnews]; simp [ht]
  have hd : w.drew.rowIs b T (cap * 3) f := h
  obtain ⟨A, hA, hsrc⟩ : ∃ A : Addr, (if cap = j then some (⟨b, 0, none⟩ : Addr) else some ⟨b, j * 3, none⟩) = some A ∧ Hd (∀ t u, news[t]? = some u → w.drew.cell? (A.add t) = some u) := by
    by_cases h0 : cap = j
    · refine ⟨⟨b, 0, none⟩, by simp [h0], ⟨fun t u hu => ?_⟩⟩
      have h1 : news.length = 0 := by rw [hlen]; omega
      rw [List.length_eq_zero_iff.1 h1] at hu
      exact absurd hu (by simp)
    · refine ⟨⟨b, j * 3, none⟩, by simp [h0], ⟨fun t u hu => ?_⟩⟩
      have ht : t < (len - j) * 3 := by
        have := (zG.1 hu).1
        rwa [hlen] at this
      rw [hget t ht] at hu
      rw [Addr.add_lit]
      rw [hd.cell (by omega)]; exact hu
  have s1 : Hd (news.length = (len - j) * 3) := ⟨hlen⟩
  have s2 : Hd (∀ u ∈ news, u.oneCell' = true) := by
    refine ⟨?_⟩
    intro u hu
    rw [hnews] at hu
    obtain ⟨x, hx, rfl⟩ := zQ.1 hu
    have := List.mem_range.1 hx
    exact hone _ (by omega)
  have s3 : Hd (∀ t, t < news.length → (w.drew.cell? ⟨b, 0 + i * 3 + t, none⟩).isSome = true ∧ w.drew.frozen? ⟨b, 0 + i * 3 + t, none⟩ = false) := by
    refine ⟨?_⟩
    intro t ht
    rw [hlen] at ht
    rw [Nat.zero_add]
    exact ⟨by rw [hd.cell (by omega)]; rfl, hd.frozen _⟩
  obtain ⟨W1, hW1⟩ : ∃ W1, W1 = w.drew.setCells b (0 + i * 3) news := ⟨_, rfl⟩
  have hr1 : ∃ g, W1.rowIs b T (cap * 3) g := ⟨_, hW1 ▸ rowIs_setCells news (0 + i * 3) _ f hd⟩
  obtain ⟨g, hr1⟩ := hr1
  have hcl : ∀ ty, (Builtin.clear_ #[27] ty #[.slice (some ⟨b, (i + (len - j)) * 3, none⟩) (len - (i + (len - j))) (cap - (i + (len - j)))]).run Tryz.prog W1 = .ok (.tuple #[]) (W1.setCells b ((i + (len - j)) * 3) (List.replicate ((len - (i + (len - j))) * 3) (.int .i64 0))) :=
    fun ty => w2m W1 _ _ ty _ _ Tryz.underlying27 zeroDel rfl rfl b ((i + (len - j)) * 3) _ _ (by omega) (fun t ht => by rw [hr1.cell (by omega)]; rfl) (fun t ht => hr1.frozen _)
  have hW : Hd (W1 = w.drew.setCells b (0 + i * 3) news) := ⟨hW1⟩
  have hic : i ≤ cap := by omega
  have hjc : j ≤ cap := by omega
  rw [Nat.zero_add] at hW1
  have X : Hd (w.drew.setCells b (i * 3) news = W1) := ⟨hW1.symm⟩
  rw [X.out]
  clear hW1 h hd hget hnews hlen hr1
  go_enter Tryz.func116, Tryz.ntmps116
  go_wp2_with fail
  go_region_law (refine step_append_room rfl (.tmp 22) (.tmp 25) 27 rfl 50 i0 3 Tryz.underlying27 hi0 hz1 b 0 i cap (by simp [Act.eval, Act.put]) A (len - j) (cap - j) news (by simp [Act.eval, Act.put, hA]) s1.out hsrc.out s2.out (by omega) s3.out ?_; rw [← hW.out])
  go_wp2
  go_ret
  exact ⟨rfl, by simp⟩
def GItem.vals (x : GItem) : List Value := [.int .i64 x.task, .int .i64 x.who, .int .i64 x.did]
def itemVals (s : List GItem) : List Value := s.flatMap GItem.vals
theorem zz1 (s : List GItem) : (itemVals s).length = s.length * 3 := by
  induction s with
  | nil => rfl
  | cons x s ih => simp only [itemVals, List.flatMap_cons, zL, zC] at ih ⊢; rw [ih]; simp only [GItem.vals, zC, zN]; omega
theorem w0i (s : List GItem) : (s.map (GItem.cells true)).flatten = (itemVals s).map Cell.lit := by
  induction s with
  | nil => rfl
  | cons x s ih => simp only [itemVals, List.map_cons, List.flatten_cons, List.flatMap_cons, List.map_append] at ih ⊢; rw [ih]; rfl
theorem wj6 (s : List GItem) (i : Nat) : itemVals (s.take i) = (itemVals s).take (i * 3) := by
  induction i generalizing s with
  | zero => simp [itemVals]
  | succ i ih =>
    cases s with
    | nil => simp [itemVals]
    | cons x s =>
      have := ih s
      simp only [itemVals] at this
      simp only [itemVals, List.take_succ_cons, List.flatMap_cons, this, GItem.vals, show (i + 1) * 3 = i * 3 + 1 + 1 + 1 by omega, List.cons_append, List.nil_append]
theorem wj5 (s : List GItem) (i : Nat) : itemVals (s.drop i) = (itemVals s).drop (i * 3) := by
  induction i generalizing s with
  | zero => simp [itemVals]
  | succ i ih =>
    cases s with
    | nil => simp [itemVals]
    | cons x s =>
      have := ih s
      simp only [itemVals] at this
      simp only [itemVals, List.drop_succ_cons, List.flatMap_cons, this, GItem.vals, show (i + 1) * 3 = i * 3 + 1 + 1 + 1 by omega, List.cons_append, List.nil_append]
theorem w4u (s t : List GItem) : itemVals (s ++ t) = itemVals s ++ itemVals t := by simp [itemVals]
theorem ww3 (s : List GItem) (u : Value) (h : u ∈ itemVals s) : u.oneCell' = true := by
  obtain ⟨x, _, hx⟩ := List.mem_flatMap.1 h
  simp only [GItem.vals, zM, List.not_mem_nil, or_false] at hx
  rcases hx with rfl | rfl | rfl <;> rfl
theorem argsSim1 {w : World} {A F : Blks} {x : Arg} {v : Value} (h : ArgSim w A F x v) : ArgsSim w A F [x] [v] := by
  refine ⟨fun i => if i = 0 then F else noBlk, rfl, ?_, ?_, ?_⟩
  · intro i b hb; by_cases h0 : i = 0
    · simpa [h0] using hb
    · simp [h0, noBlk] at hb
  · intro i j b hij hi hj
    by_cases h0 : i = 0
    · by_cases h1 : j = 0
      · exact hij (h0.trans h1.symm)
      · simp [h1, noBlk] at hj
    · simp [h0, noBlk] at hi
  · intro i y u hy hu
    cases i with
    | zero => simp at hy hu; subst hy; subst hu; exact h
    | succ i => simp at hy
def z6i (s : List GItem) (i : Int) (j : Int) : Option (List GItem) :=
  gd (0 ≤ i ∧ i ≤ j ∧ j ≤ s.length ∧ s.length ≤ 9223372036854775807) (some (s.take i.toNat ++ s.drop j.toNat))
theorem w71 (s : List GItem) (i : Int) (j : Int) (rz : List GItem) (hm : z6i s i j = some rz) :
    FnB Tryz.prog 116 [.c (.sl true 3 (s.map (GItem.cells true))), .c (cI i), .c (cI j)] [.c (.sl true 3 (rz.map (GItem.cells true)))] [] := by
  obtain ⟨⟨h0, h1, h2, h3⟩, hm⟩ := zd1 hm
  obtain rfl := Option.some.inj hm
  obtain ⟨i, rfl⟩ := Int.eq_ofNat_of_zero_le h0
  obtain ⟨j, rfl⟩ := Int.eq_ofNat_of_zero_le (Int.le_trans h0 h1)
  simp only [Int.toNat_natCast]
  have hij : i ≤ j := by omega
  have hjl : j ≤ s.length := by omega
  intro w A F vs hB hargs
  obtain ⟨G, a1, a2, a3, a4⟩ := hargs
  match vs, a1 with
  | [v0, v1, v2], _ =>
  have e1 : v1 = .int .i64 i := by have := a4 1 _ _ rfl rfl; cases this with | c h => cases h; rfl
  have e2 : v2 = .int .i64 j := by have := a4 2 _ _ rfl rfl; cases this with | c h => cases h; rfl
  subst e1; subst e2
  have hs0 := a4 0 _ _ rfl rfl
  cases hs0 with | c hown =>
  generalize hrows : s.map (GItem.cells true) = rows at hown
  have hrl : rows.length = s.length := by rw [← hrows]; simp
  cases hown with
  | nil =>
    have hs : s = [] := by cases s with | nil => rfl | cons x s => simp at hrows
    subst hs
    simp only [zN] at hjl
    obtain rfl : j = 0 := by omega
    obtain rfl : i = 0 := by omega
    refine (vg1 w).mono ?_
    rintro e w' ⟨rfl, rfl⟩
    exact ⟨_, [.slice none 0 0], [], noBlk, rfl, ⟨rfl, rfl⟩, Frame.refl _ _, fun _ h => h.elim, by simp, rfl, argsSim1 (.c (.nil true 3))⟩
  | @arr _ _ _ b cap c T Gc hb hk hsz hcap hF hG hGb hd h =>
    have hL : ∀ (k : Nat) u, (itemVals s)[k]? = some u → c[k]? = some u := by
      intro k u hu
      have hlt : k < c.size := by
        have := (zG.1 hu).1
        rw [zz1] at this
        rw [hsz]; have := Nat.mul_le_mul_right 3 hcap; omega
      have := h k (.lit u) c[k] (by rw [← hrows, w0i, zI, hu]; rfl) (Array.getElem?_eq_getElem hlt)
      rw [Array.getElem?_eq_getElem hlt]
      cases this; rfl
    rw [hrl] at hcap ⊢
    by_cases heq : i = j
    · subst heq
      refine (v9a s.length cap i w hjl hcap (by omega) b).mono ?_
      rintro e w' ⟨rfl, rfl⟩
      refine ⟨_, [.slice (some ⟨b, 0, none⟩) s.length cap], [], G 0, rfl, ⟨rfl, rfl⟩, Frame.refl _ _, fun x hx => ⟨.inl (a2 0 x hx), hB.f x (a2 0 x hx)⟩, by simp, rfl, argsSim1 (.c ?_)⟩
      rw [List.take_append_drop, hrows, ← hrl]
      exact .arr hb hk hsz (by omega) hF hG hGb hd fun k x v hx hv => (h k x v hx hv).mono (fun y hy => ⟨.inl hy, hB.a y hy, fun hf => hB.af y hy (a2 0 y hf)⟩) (fun _ h => h)
    · let f : Nat → Value := fun k => (c[k]?).getD undef
      have hf : w.rowIs b T (cap * 3) f := ⟨c, hb, hsz, fun k hk => by simp only [f]; rw [Array.getElem?_eq_getElem (by omega)]; rfl⟩
      have hfL : ∀ (k : Nat) u, (itemVals s)[k]? = some u → f k = u := fun k u hu => by simp only [f]; rw [hL k u hu]; rfl
      refine (v5g b cap s.length i j w f T hf ?_ hcap (by omega) (by omega) hjl).mono ?_
      · intro k hk
        have hk' : k < (itemVals s).length := by rw [zz1]; exact hk
        rw [hfL k _ (List.getElem?_eq_getElem hk')]
        exact ww3 s _ (List.getElem_mem hk')
      rintro e w' ⟨rfl, rfl⟩
      have hbs : b < w.heap.size := by
        rcases Nat.lt_or_ge b w.heap.size with h | h
        · exact h
        · rw [Array.getElem?_eq_none h] at hb; cases hb
      have hsize : ∀ vs o vs' o', ((w.drew.setCells b o vs).setCells b o' vs').heap.size = w.heap.size := by
        intro vs o vs' o'
        rw [y1b, y1b]; rfl
      refine ⟨_, [.slice (some ⟨b, 0, none⟩) (i + (s.length - j)) cap], [], G 0, rfl, ⟨rfl, rfl⟩, ⟨?_, ?_, ?_, ?_⟩, fun x hx => ⟨.inl (a2 0 x hx), ?_⟩, by simp, rfl, argsSim1 (.c ?_)⟩
      · intro b' hb' hnf
        have hne : b' ≠ b := fun h => hnf (h ▸ a2 0 b hF)
        rw [World.heap_setCells_other _ _ _ _ (by rw [y1b]; exact hb') hne, World.heap_setCells_other _ _ _ _ (by exact hb') hne]; rfl
      · rw [hsize]; exact Nat.le_refl _
      · rw [World.os_setCells, World.os_setCells]; rfl
      · rw [World.output_setCells, World.output_setCells]; rfl
      · rw [hsize]; exact hB.f x (a2 0 x hx)
      · have hr := rowIs_setCells (List.replicate ((s.length - (i + (s.length - j))) * 3) (.int .i64 0)) ((i + (s.length - j)) * 3) _ _ (rowIs_setCells (delNews f j (s.length - j)) (i * 3) _ f (show w.drew.rowIs b T (cap * 3) f from hf))
        obtain ⟨c', hb', hsz', hc'⟩ := hr
        have hlen : ((s.take i ++ s.drop j).map (GItem.cells true)).length = i + (s.length - j) := by simp; omega
        have hfin : ∀ (k : Nat) (u : Value), (itemVals (s.take i ++ s.drop j))[k]? = some u → c'[k]? = some u := by
          intro k u hu
          have hk : k < (i + (s.length - j)) * 3 := by
            have := (zG.1 hu).1
            rw [zz1] at this
            simp at this; omega
          rw [hc' k (by omega)]
          dsimp only
          rw [if_neg (by omega)]
          rw [w4u, wj6, wj5] at hu
          have hti : ((itemVals s).take (i * 3)).length = i * 3 := by rw [List.length_take, zz1]; omega
          by_cases hki : k < i * 3
          · rw [if_neg (by omega)]
            rw [List.getElem?_append_left (by omega), List.getElem?_take, if_pos hki] at hu
            rw [hfL k u hu]
          · rw [if_pos (by simp; omega)]
            rw [List.getElem?_append_right (by omega), List.getElem?_drop, hti] at hu
            have : (delNews f j (s.length - j))[k - i * 3]? = some (f (j * 3 + (k - i * 3))) := by
              simp only [delNews, zI]
              rw [List.getElem?_range (by omega)]; rfl
            rw [this, Option.getD_some, hfL _ u hu]
        rw [show Value.slice (some ⟨b, 0, none⟩) (i + (s.length - j)) cap = Value.slice (some ⟨b, 0, none⟩) ((s.take i ++ s.drop j).map (GItem.cells true)).length cap by rw [hlen]]
        refine .arr (G := fun _ => noBlk) hb' ?_ hsz' (by rw [hlen]; omega) hF (fun _ _ h => h.elim) (fun _ h => h) (fun _ _ _ _ h => h.elim) ?_
        · intro r hr; obtain ⟨x, _, rfl⟩ := zQ.1 hr; rfl
        · intro k x v hx hv
          rw [w0i, zI] at hx
          obtain ⟨u, hu, rfl⟩ := Option.map_eq_some_iff.1 hx
          rw [hfin k u hu] at hv
          cases hv
          exact .lit _
end
end Go.Am
end
section
namespace Go.Am
noncomputable section
open Go Go.Proofs
def yg1 : Con := ⟨116, [.v (.sl (.s .item)) true, .v .I false, .v .I false], [(.sl (.s .item), true)], [], fun x => z6i x.1 x.2.1 x.2.2.1⟩
theorem w8q : yg1.Ok Tryz.prog := by
  refine ⟨⟨_, _, Tryz.func116, rfl, rfl⟩, fun x xs z ha hz => ?_⟩
  obtain ⟨a1, r1, rfl, h1, ha⟩ := ha
  obtain ⟨a2, r2, rfl, h2, ha⟩ := ha
  obtain ⟨a3, r3, rfl, h3, ha⟩ := ha
  have e : r3 = [] := ha
  have e1 : a1 = argV (.sl (.s .item)) true x.1 := h1
  have e2 : a2 = argV .I false x.2.1 := h2
  have e3 : a3 = argV .I false x.2.2.1 := h3
  subst e e1 e2 e3
  exact w71 x.1 x.2.1 x.2.2.1 z hz
end
end Go.Am
end
