/- append; stores into slices. Own work; generic. -/
import Derived.Test.YtcbpckbehdaloaaAmI
set_option linter.unusedSimpArgs false
set_option linter.unusedVariables false
namespace Go.Am
open Go

section
variable {P : Program} {ops : Array Oper} {n : Nat}
variable {pn : Nat → Option Value} {w0 : World} {A0 F0 : Blks} {hv hv' : Nat → Value} {T T' : Nat → Blks} {st st' : St} {a : Act} {w w' : World} {D : Nat → Prop}

/-- The values of a slice's cells, with what each owns. -/
theorem own_values {A F : Blks} {o : Bool} {k : Nat} {rows : List (List Cell)} {v : Value} (h : Own w A F (.sl o k rows) v) :
    ∃ (vs : List Value) (G : Nat → Blks), vs.length = rows.length * k ∧ (∀ r ∈ rows, r.length = k) ∧ (∀ i b, G i b → F b) ∧ (∀ i j b, i ≠ j → G i b → ¬ G j b) ∧
      (∀ (i : Nat) x u, rows.flatten[i]? = some x → vs[i]? = some u → Own w A (G i) x u) ∧
      (∀ P : Program, (Builtin.firstCells k rows.length v).run P w = .ok vs.toArray w) ∧
      ((∃ b off cap c e fr, v = .slice (some ⟨b, off, none⟩) rows.length cap ∧ w.heap[b]? = some (.cells c e fr) ∧ vs = (c.toList.drop off).take (rows.length * k) ∧ off + rows.length * k ≤ c.size ∧ rows.length ≤ cap ∧
          (∀ i, ¬ G i b) ∧ (o = true → off = 0 ∧ fr = (0, 0) ∧ c.size = cap * k ∧ F b)) ∨ (rows = [] ∧ (o = true → v = .slice none 0 0))) := by
  have cells : ∀ {b off : Nat} {c : Array Value} {e : TypeId} {fr : Nat × Nat} {m : Nat}, w.heap[b]? = some (.cells c e fr) → off + m ≤ c.size →
      ∀ P : Program, (loadCells ⟨b, off, none⟩ m).run P w = .ok ((c.toList.drop off).take m).toArray w := by
    intro b off c e fr m hb hm P
    obtain ⟨h1, h2⟩ := window (c := c) (off := off) (m := m) hm
    have := run_loadCells_list (P := P) w ⟨b, off, none⟩ ((c.toList.drop off).take m) (fun j u hj => by rw [Addr.add_lit]; simp [World.cell?, hb, h2 j u hj])
    rw [h1] at this; exact this
  cases h with
  | nil => exact ⟨[], fun _ => noBlk, by simp, by simp, fun _ _ f => f.elim, fun _ _ _ _ f => f.elim, fun i x u h => by simp at h, fun P => by simp [Builtin.firstCells], .inr ⟨rfl, fun _ => rfl⟩⟩
  | emp => exact ⟨[], fun _ => noBlk, by simp, by simp, fun _ _ f => f.elim, fun _ _ _ _ f => f.elim, fun i x u h => by simp at h, fun P => by simp [Builtin.firstCells, loadCells, loadCellsFrom], .inr ⟨rfl, fun h => by cases h⟩⟩
  | @shr _ _ _ b off cap c e fr hb hA hk hs hcap hh =>
    refine ⟨(c.toList.drop off).take (rows.length * k), fun _ => noBlk, (window hs).1, hk, fun _ _ f => f.elim, fun _ _ _ _ f => f.elim, fun i x u h1 h2 => hh i x u h1 ((window hs).2 i u h2), fun P => ?_,
      .inl ⟨b, off, cap, c, e, fr, rfl, hb, rfl, hs, hcap, fun _ f => f, fun h => by cases h⟩⟩
    simp only [Builtin.firstCells]; exact cells hb hs P
  | @arr _ _ _ b cap c e G hb hk hs hcap hF hG hGb hd hh =>
    have hm : rows.length * k ≤ cap * k := Nat.mul_le_mul_right _ hcap
    have hs' : 0 + rows.length * k ≤ c.size := by omega
    refine ⟨(c.toList.drop 0).take (rows.length * k), G, (window hs').1, hk, hG, fun i j b hij => hd i j b hij, fun i x u h1 h2 => hh i x u h1 (by have := (window hs').2 i u h2; simpa using this), fun P => ?_,
      .inl ⟨b, 0, cap, c, e, (0, 0), rfl, hb, rfl, hs', hcap, hGb, fun _ => ⟨rfl, rfl, hs, hF⟩⟩⟩
    simp only [Builtin.firstCells]; exact cells hb hs' P

theorem oneCell_of_own {A F : Blks} {c : Cell} {v : Value} (h : Own w A F c v) (hl : ∀ u, c = .lit u → u.oneCell' = true) : v.oneCell' = true := by
  cases h with
  | lit => exact hl _ rfl
  | nil => rfl
  | emp => rfl
  | shr => rfl
  | arr => rfl
  | bx => rfl

/-- No aggregate among the literals. -/
def Cell.ok : Cell → Bool
  | .lit (.agg _) => false
  | .lit (.tuple _) => false
  | _ => true
theorem Cell.ok_lit {c : Cell} (h : c.ok = true) : ∀ u, c = .lit u → u.oneCell' = true := by
  rintro u rfl
  cases u <;> first | rfl | cases h

theorem nextslicecap_le (m c : Nat) (h : c < m) : Builtin.nextslicecap m c ≤ 2 * m + 1024 := by
  have g : ∀ r c, c < 2 * m + 512 → Builtin.growBy m r c ≤ 2 * m + 1024 := by
    intro r
    induction r with
    | zero => intro c hc; simp only [Builtin.growBy]; omega
    | succ r ih =>
      intro c hc
      simp only [Builtin.growBy]
      split
      · omega
      · exact ih _ (by omega)
  unfold Builtin.nextslicecap
  split
  · omega
  · split
    · omega
    · exact g 4 c (by omega)

/-- append, in the world: the old cells and the new ones, in place or elsewhere. -/
theorem append_world {t tx ty e e' : TypeId} {k bytes : Nat} {A FA FB : Blks} {ob : Bool} {rowsA rowsB : List (List Cell)} {sv xv : Value} (hty : ElemTy P t e k bytes) (htx : P.underlying tx = some (.slice e'))
    (hA : Own w A FA (.sl true k rowsA) sv) (hB : Own w A FB (.sl ob k rowsB) xv) (hAA : ∀ b, A b → ¬ FA b) (hAlt : ∀ b, A b → b < w.heap.size) (hFlt : ∀ b, FA b → b < w.heap.size) (hFB : ∀ b, FB b → b < w.heap.size)
    (hAB : ∀ b, FA b → ¬ FB b) (hok : ∀ r ∈ rowsB, ∀ c ∈ r, c.ok = true) (hbig : (2 * (rowsA.length + rowsB.length) + 1024) * bytes ≤ 281474976710656) (h63 : rowsA.length + rowsB.length ≤ 4611686018427387904) :
    ∃ v w' S, (Builtin.append_ #[t, tx] ty #[sv, xv]).run P w = .ok v w' ∧ Own w' A S (.sl true k (rowsA ++ rowsB)) v ∧ Frame FA w w' ∧ (∀ b, S b → FA b ∨ FB b ∨ (w.heap.size ≤ b ∧ b < w'.heap.size)) := by
  obtain ⟨ie, z, hie, hsz, hz, hzc, hbytes⟩ := hty.info
  have hkpos := hty.pos
  obtain ⟨va, GA, a1, a2, a3, a4, a5, a6, a7⟩ := own_values hA
  obtain ⟨vb, GB, b1, b2, b3, b4, b5, b6, b7⟩ := own_values hB
  have hxv : ∃ b c, xv = .slice b rowsB.length c := own_slice hB
  obtain ⟨bx, cx, rfl⟩ := hxv
  have hsv : ∃ b c, sv = .slice b rowsA.length c := own_slice hA
  obtain ⟨bs, cs, rfl⟩ := hsv
  have hk : ∀ r ∈ rowsA ++ rowsB, r.length = k := by
    intro r hr
    rcases List.mem_append.1 hr with h | h
    · exact a2 r h
    · exact b2 r h
  have hflA : rowsA.flatten.length = rowsA.length * k := flatten_length_const a2
  have hflB : rowsB.flatten.length = rowsB.length * k := flatten_length_const b2
  -- the two families in one
  let G : Nat → Blks := fun i => if i < rowsA.length * k then GA i else if i < rowsA.length * k + rowsB.length * k then GB (i - rowsA.length * k) else noBlk
  have hGF : ∀ i b, G i b → FA b ∨ FB b := by
    intro i b hb
    simp only [G] at hb
    split at hb
    · exact .inl (a3 i b hb)
    · split at hb
      · exact .inr (b3 _ b hb)
      · exact hb.elim
  have hGd : ∀ i j b, i ≠ j → G i b → ¬ G j b := by
    intro i j b hij hi hj
    simp only [G] at hi hj
    split at hi
    · split at hj
      · exact a4 i j b hij hi hj
      · split at hj
        · exact hAB b (a3 i b hi) (b3 _ b hj)
        · exact hj
    · split at hi
      · split at hj
        · exact hAB b (a3 j b hj) (b3 _ b hi)
        · split at hj
          · exact b4 _ _ b (by omega) hi hj
          · exact hj
      · exact hi
  by_cases hroom : rowsA.length + rowsB.length ≤ cs
  · -- in place
    rcases a7 with ⟨b, off, cap, c, e2, fr, he, hb, hva, hoff, hcap, hGb, htrue⟩ | ⟨hnil, he⟩
    · cases he
      obtain ⟨rfl, rfl, hcs, hFb⟩ := htrue rfl
      have hmul : rowsA.length * k + rowsB.length * k ≤ cs * k := by rw [← Nat.add_mul]; exact Nat.mul_le_mul_right _ hroom
      obtain ⟨w', c', r1, r2, r3, r4, r5, r6, r7, r8⟩ := run_storeCells (P := P) (off := rowsA.length * k) vb 0 w c hb (by omega) (by
        intro v hv1
        obtain ⟨i, hi, rfl⟩ := List.mem_iff_getElem.1 hv1
        have hi2 : i < rowsB.flatten.length := by omega
        have hx : rowsB.flatten[i]? = some rowsB.flatten[i] := by simp [hi2]
        obtain ⟨r, hr, hm⟩ := mem_flatten_of_getElem? hx
        exact oneCell_of_own (b5 i _ _ hx (List.getElem?_eq_getElem hi)) (Cell.ok_lit (hok r hr _ hm)))
      refine ⟨.slice (some ⟨b, 0, none⟩) (rowsA.length + rowsB.length) cs, w', fun x => x = b ∨ ∃ i, G i x, ?_, ?_, ⟨fun b2 hlt hno => r5 b2 (fun e => hno (by subst e; exact hFb)), by omega, r7, r8⟩, ?_⟩
      · simp only [Builtin.append_]
        simp [run_underlying hty.und, run_underlying htx, sizeOf, typeInfo, hie, hsz, Builtin.lenOf, hroom, b6 P, Addr.add_lit, r1]
      · have hdisj : ∀ i x, G i x → x ≠ b := by
          intro i x hx e
          subst e
          simp only [G] at hx
          split at hx
          · exact hGb i hx
          · split at hx
            · exact hAB x hFb (b3 _ x hx)
            · exact hx
        have fr' : ∀ {c0 : Cell} {u : Value} {i : Nat}, Own w A (G i) c0 u → Own w' A (G i) c0 u := fun ho => ho.frame fun x hx =>
          r5 x (hx.elim (fun h e => hAA x h (by subst e; exact hFb)) (fun h => hdisj _ x h))
        have := Own.arr (w := w') (A := A) (F := fun x => x = b ∨ ∃ i, G i x) (k := k) (rows := rowsA ++ rowsB) (b := b) (cap := cs) (c := c') (e := e2) (G := G) r2 hk (by omega) (by simp; omega)
          (.inl rfl) (fun i x hx => .inr ⟨i, hx⟩) (fun i hx => hdisj i b hx rfl) hGd (fun i x u h1 h2 => by
            rw [List.flatten_append] at h1
            rw [r4 i] at h2
            by_cases hi : i < rowsA.length * k
            · rw [List.getElem?_append_left (by omega)] at h1
              rw [if_neg (by omega)] at h2
              have hG : G i = GA i := by simp only [G]; rw [if_pos hi]
              refine fr' (i := i) ?_
              rw [hG]
              refine a5 i x u h1 ?_
              rw [hva]
              exact window' hi (by simpa using h2)
            · rw [List.getElem?_append_right (by omega)] at h1
              have hi2 : i - rowsA.flatten.length < rowsB.flatten.length := (List.getElem?_eq_some_iff.1 h1).1
              rw [if_pos (by omega)] at h2
              have hG : G i = GB (i - rowsA.length * k) := by simp only [G]; rw [if_neg hi, if_pos (by omega)]
              refine fr' (i := i) ?_
              rw [hG]
              refine b5 _ x u (by rw [hflA] at h1; exact h1) ?_
              simpa using h2)
        simpa using this
      · rintro x (rfl | ⟨i, hx⟩)
        · exact .inl hFb
        · rcases hGF i x hx with h | h
          · exact .inl h
          · exact .inr (.inl h)
    · have he := he rfl
      have hcs0 : cs = 0 := by injection he
      have hbs0 : bs = none := by injection he
      subst hnil hcs0 hbs0
      have hB0 : rowsB.length = 0 := by simp only [List.length_nil] at hroom; omega
      have hB0' : rowsB = [] := List.length_eq_zero_iff.1 hB0
      subst hB0'
      refine ⟨.slice none 0 0, w, noBlk, ?_, by simpa using Own.nil true k, .refl _ _, fun b f => f.elim⟩
      simp only [Builtin.append_]
      have hvb : vb = [] := by simpa using b1
      subst hvb
      have hb6 := b6 P
      simp only [List.length_nil] at hb6
      simp [run_underlying hty.und, run_underlying htx, sizeOf, typeInfo, hie, hsz, Builtin.lenOf, hb6]
  · -- elsewhere
    have hneed : cs < rowsA.length + rowsB.length := by omega
    have hcap := nextslicecap_le (rowsA.length + rowsB.length) cs hneed
    have hcb : Builtin.nextslicecap (rowsA.length + rowsB.length) cs * bytes ≤ 281474976710656 := Nat.le_trans (Nat.mul_le_mul_right _ hcap) hbig
    let nc := rowsA.length + rowsB.length + w.tape w.drawn (.appendCap (rowsA.length + rowsB.length) cs e) % (2 ^ 63 - (rowsA.length + rowsB.length))
    let w1 : World := { w with drawn := w.drawn + 1 }
    let cells := va.toArray ++ vb.toArray ++ Builtin.zeroCells z.cells (nc - (rowsA.length + rowsB.length))
    have hq : (Question.appendCap (rowsA.length + rowsB.length) cs e).forced = false := rfl
    have a6' : (Builtin.firstCells k rowsA.length (.slice bs rowsA.length cs)).run P w1 = .ok va.toArray w1 := by
      have h2 : Own w1 A FA (.sl true k rowsA) (.slice bs rowsA.length cs) := hA.frame fun _ _ => rfl
      obtain ⟨va', _, c1, _, _, _, _, c6, c7⟩ := own_values h2
      have : va' = va := by
        rcases c7 with ⟨b, off, cap, c, e2, fr, he, hb, hva, _⟩ | ⟨hn, he⟩
        · rcases a7 with ⟨b', off', cap', c', e2', fr', he', hb', hva', _⟩ | ⟨hn', he'⟩
          · rw [he] at he'; cases he'
            have hb2 : w.heap[b]? = some (.cells c e2 fr) := hb
            rw [hb'] at hb2; cases hb2
            rw [hva, hva']
          · subst hn'; simp at c1 a1 b1; first | rw [c1, a1] | rw [c1, b1]
        · subst hn; simp at c1 a1; rw [c1, a1]
      rw [← this]; exact c6 P
    have b6' : (Builtin.firstCells k rowsB.length (.slice bx rowsB.length cx)).run P w1 = .ok vb.toArray w1 := by
      have h2 : Own w1 A FB (.sl ob k rowsB) (.slice bx rowsB.length cx) := hB.frame fun _ _ => rfl
      obtain ⟨va', _, c1, _, _, _, _, c6, c7⟩ := own_values h2
      have : va' = vb := by
        rcases c7 with ⟨b, off, cap, c, e2, fr, he, hb, hva, _⟩ | ⟨hn, he⟩
        · rcases b7 with ⟨b', off', cap', c', e2', fr', he', hb', hva', _⟩ | ⟨hn', he'⟩
          · rw [he] at he'; cases he'
            have hb2 : w.heap[b]? = some (.cells c e2 fr) := hb
            rw [hb'] at hb2; cases hb2
            rw [hva, hva']
          · subst hn'; simp at c1 a1 b1; first | rw [c1, a1] | rw [c1, b1]
        · subst hn; simp at c1 b1; rw [c1, b1]
      rw [← this]; exact c6 P
    have hrun : (Builtin.append_ #[t, tx] ty #[.slice bs rowsA.length cs, .slice bx rowsB.length cx]).run P w = .ok (.slice (some ⟨w.heap.size, 0, none⟩) (rowsA.length + rowsB.length) nc) (w1.alloc (.cells cells e)) := by
      have n1 : ¬ (9223372036854775807 < ((rowsA.length : Int) + (rowsB.length : Int))) := by omega
      have n2 : ¬ (281474976710656 < Builtin.nextslicecap (rowsA.length + rowsB.length) cs * bytes) := by omega
      simp only [Builtin.append_]
      simp [run_underlying hty.und, run_underlying htx, sizeOf, typeInfo, hie, hsz, hbytes, Builtin.lenOf, hroom, n1, n2, hq, Question.cut, zeroValue, hz, newRow]
      have e1 : (Builtin.firstCells k rowsA.length (.slice bs rowsA.length cs)).run P w.drew = .ok va.toArray w.drew := a6'
      have e2 : (Builtin.firstCells k rowsB.length (.slice bx rowsB.length cx)).run P w.drew = .ok vb.toArray w.drew := b6'
      rw [e1, Result.andThen_ok, e2, Result.andThen_ok]
      have hncs : nc - (rowsA.length + rowsB.length) = w.tape w.drawn (.appendCap (rowsA.length + rowsB.length) cs e) % (9223372036854775808 - (rowsA.length + rowsB.length)) := Nat.add_sub_cancel_left _ _
      simp only [cells, hncs, Array.append_assoc]
      rfl
    have hnc : rowsA.length + rowsB.length ≤ nc := Nat.le_add_right _ _
    have hcsz : cells.size = nc * k := by
      simp only [cells, Array.size_append, List.size_toArray, a1, b1, Builtin.zeroCells, Array.size_map, Array.size_range, hzc]
      rw [← Nat.add_mul, ← Nat.add_mul]
      congr 1; omega
    have hGlt : ∀ i x, G i x → x < w.heap.size := fun i x hx => (hGF i x hx).elim (hFlt x) (hFB x)
    have hal : ∀ b, b < w.heap.size → (w1.alloc (.cells cells e)).heap[b]? = w.heap[b]? := fun b hb => (frame_alloc w1 (.cells cells e)).heap b hb (fun f => f)
    refine ⟨_, w1.alloc (.cells cells e), fun x => x = w.heap.size ∨ ∃ i, G i x, hrun, ?_, ⟨fun b hlt _ => hal b hlt, by show w.heap.size ≤ (w.heap.push _).size; simp, rfl, rfl⟩, ?_⟩
    · have := Own.arr (w := w1.alloc (.cells cells e)) (A := A) (F := fun x => x = w.heap.size ∨ ∃ i, G i x) (k := k) (rows := rowsA ++ rowsB) (b := w.heap.size) (cap := nc) (c := cells) (e := e) (G := G) (alloc_new w1 _) hk hcsz (by simpa using hnc)
        (.inl rfl) (fun i x hx => .inr ⟨i, hx⟩) (fun i hx => Nat.lt_irrefl _ (hGlt i _ hx)) hGd (fun i x u h1 h2 => by
          have fr' : ∀ {c0 : Cell} {u : Value}, Own w A (G i) c0 u → Own (w1.alloc (.cells cells e)) A (G i) c0 u := fun ho => ho.frame fun x hx => hal x (hx.elim (hAlt x) (hGlt _ x))
          rw [List.flatten_append] at h1
          have hi0 : i < rowsA.length * k + rowsB.length * k := by have := (List.getElem?_eq_some_iff.1 h1).1; simp only [List.length_append] at this; omega
          simp only [cells] at h2
          rw [Array.getElem?_append_left (by simp [a1, b1]; omega)] at h2
          by_cases hi : i < rowsA.length * k
          · rw [List.getElem?_append_left (by omega)] at h1
            rw [Array.getElem?_append_left (by simp [a1]; exact hi)] at h2
            have hG : G i = GA i := by simp only [G]; rw [if_pos hi]
            refine fr' ?_
            rw [hG]
            exact a5 i x u h1 (by simpa using h2)
          · rw [List.getElem?_append_right (by omega)] at h1
            rw [Array.getElem?_append_right (by simp [a1]; omega)] at h2
            have hG : G i = GB (i - rowsA.length * k) := by simp only [G]; rw [if_neg hi, if_pos (by omega)]
            refine fr' ?_
            rw [hG]
            exact b5 _ x u (by rw [hflA] at h1; exact h1) (by simpa [a1] using h2))
      simpa using this
    · rintro x (rfl | ⟨i, hx⟩)
      · exact .inr (.inr ⟨Nat.le_refl _, by show _ < (w.heap.push _).size; simp⟩)
      · rcases hGF i x hx with h | h
        · exact .inl h
        · exact .inr (.inl h)
end
end Go.Am
