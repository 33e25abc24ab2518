/- Weakening: less is known, and objects go by other names. Own work; generic. -/
import Derived.Test.YtcbpckbehdaloaaAmL
set_option linter.unusedSimpArgs false
set_option linter.unusedVariables false
namespace Go.Am
open Go

mutual
def AV.ren (τ : Nat → Nat) : AV → AV
  | .ref id p => .ref (τ id) p
  | .ptr id p k i j => .ptr (τ id) p k i j
  | .bx id j => .bx (τ id) j
  | .agg xs => .agg (renL τ xs)
  | .tup xs => .tup (renL τ xs)
  | .fn f xs => .fn f (renL τ xs)
  | .dead => .dead
  | .c x => .c x
  | .row xs => .row xs
  | .pts xs => .pts xs
def renL (τ : Nat → Nat) : List AV → List AV
  | [] => []
  | x :: r => x.ren τ :: renL τ r
end
theorem renL_eq (τ : Nat → Nat) : ∀ (l : List AV), renL τ l = l.map (AV.ren τ)
  | [] => rfl
  | x :: l => by simp only [renL, List.map_cons, renL_eq τ l]
def Obj.ren (τ : Nat → Nat) : Obj → Obj
  | .box xs => .box (renL τ xs)
  | .arr k rows => .arr k rows
  | .mp ks => .mp ks

theorem renL_ids (τ : Nat → Nat) {xs : List AV} (h : ∀ x ∈ xs, (x.ren τ).ids = x.ids.map τ) : idsL (renL τ xs) = (idsL xs).map τ := by
  induction xs with
  | nil => rfl
  | cons x xs ih =>
    simp only [renL, idsL, List.map_append]
    rw [h x (by simp), ih (fun y hy => h y (by simp [hy]))]

section
variable {P : Program} {n : Nat}
variable {pn : Nat → Option Value} {w0 : World} {A0 F0 : Blks} {hv : Nat → Value} {T : Nat → Blks} {st st' : St} {a : Act} {w w' : World}

/-- What a renamed value says under the new names. -/
theorem AVSim.unren {A A' : Blks} {obj obj' : Nat → Option Obj} {τ : Nat → Nat} (hA : ∀ b, A b → A' b) (hobj : ∀ id o, obj' id = some o → obj (τ id) = some (o.ren τ)) {y : AV} {v : Value} (h : AVSim w A hv obj y v) :
    ∀ (av : AV), y = av.ren τ → Live obj' av → AVSim w A' (fun i => hv (τ i)) obj' av v := by
  have some_of : ∀ {id : Nat} {av : AV}, Live obj' av → id ∈ av.ids → ∃ o, obj' id = some o := by
    intro id av hl hid
    have := hl id hid
    cases h : obj' id with
    | none => rw [h] at this; cases this
    | some o => exact ⟨o, rfl⟩
  induction h with
  | dead v => intro av e _; cases av <;> first | exact .dead _ | cases e
  | c ho => intro av e _; cases av <;> first | (cases e; exact .c (ho.mono hA (fun _ h => h))) | cases e
  | row hs hh => intro av e _; cases av <;> first | (cases e; exact .row hs fun i x v h1 h2 => (hh i x v h1 h2).mono hA (fun _ h => h)) | cases e
  | pts hb hA1 hs hh => intro av e _; cases av <;> first | (cases e; exact .pts hb (hA _ hA1) hs fun i x v h1 h2 => (hh i x v h1 h2).mono hA (fun _ h => h)) | cases e
  | ref ho hg hh =>
    intro av e hl
    cases av with
    | ref id2 p2 =>
      simp only [AV.ren, AV.ref.injEq] at e
      obtain ⟨rfl, rfl⟩ := e
      obtain ⟨o, ho2⟩ := some_of hl (id := id2) (by simp [AV.ids])
      have := hobj _ _ ho2
      rw [ho] at this
      cases o <;> simp only [Obj.ren, Option.some.injEq, Obj.arr.injEq, reduceCtorEq] at this
      obtain ⟨rfl, rfl⟩ := this
      exact .ref ho2 hg hh
    | _ => cases e
  | ptr ho hg hh =>
    intro av e hl
    cases av with
    | ptr id2 p2 k2 i2 j2 =>
      simp only [AV.ren, AV.ptr.injEq] at e
      obtain ⟨rfl, rfl, rfl, rfl, rfl⟩ := e
      obtain ⟨o, ho2⟩ := some_of hl (id := id2) (by simp [AV.ids])
      have := hobj _ _ ho2
      rw [ho] at this
      cases o <;> simp only [Obj.ren, Option.some.injEq, Obj.arr.injEq, reduceCtorEq] at this
      obtain ⟨rfl, rfl⟩ := this
      exact .ptr ho2 hg hh
    | _ => cases e
  | bx ho hh =>
    intro av e hl
    cases av with
    | bx id2 j2 =>
      simp only [AV.ren, AV.bx.injEq] at e
      obtain ⟨rfl, rfl⟩ := e
      obtain ⟨o, ho2⟩ := some_of hl (id := id2) (by simp [AV.ids])
      have := hobj _ _ ho2
      rw [ho] at this
      cases o <;> simp only [Obj.ren, Option.some.injEq, Obj.box.injEq, reduceCtorEq] at this
      exact .bx ho2 hh
    | _ => cases e
  | mp ho hh =>
    intro av e hl
    cases av with
    | bx id2 j2 =>
      simp only [AV.ren, AV.bx.injEq] at e
      obtain ⟨rfl, rfl⟩ := e
      obtain ⟨o, ho2⟩ := some_of hl (id := id2) (by simp [AV.ids])
      have := hobj _ _ ho2
      rw [ho] at this
      cases o <;> simp only [Obj.ren, Option.some.injEq, Obj.mp.injEq, reduceCtorEq] at this
      subst this
      exact .mp ho2 hh
    | _ => cases e
  | agg hs hh ih =>
    intro av e hl
    cases av with
    | agg ys =>
      simp only [AV.ren, AV.agg.injEq] at e
      subst e
      rw [renL_eq, List.length_map] at hs
      refine .agg hs fun i x v h1 h2 => ih i (x.ren τ) v (by rw [renL_eq, List.getElem?_map, h1]; rfl) h2 x rfl fun id hid => hl id ?_
      simp only [AV.ids]; exact mem_idsL h1 hid
    | _ => cases e
  | tup hs hh ih =>
    intro av e hl
    cases av with
    | tup ys =>
      simp only [AV.ren, AV.tup.injEq] at e
      subst e
      rw [renL_eq, List.length_map] at hs
      refine .tup hs fun i x v h1 h2 => ih i (x.ren τ) v (by rw [renL_eq, List.getElem?_map, h1]; rfl) h2 x rfl fun id hid => hl id ?_
      simp only [AV.ids]; exact mem_idsL h1 hid
    | _ => cases e
  | fn hs hh ih =>
    intro av e hl
    cases av with
    | fn f ys =>
      simp only [AV.ren, AV.fn.injEq] at e
      obtain ⟨rfl, rfl⟩ := e
      rw [renL_eq, List.length_map] at hs
      refine .fn hs fun i x v h1 h2 => ih i (x.ren τ) v (by rw [renL_eq, List.getElem?_map, h1]; rfl) h2 x rfl fun id hid => hl id ?_
      simp only [AV.ids]; exact mem_idsL h1 hid
    | _ => cases e

theorem live1 {obj obj' : Nat → Option Obj} {τ : Nat → Nat} (hobj : ∀ id o, obj' id = some o → obj (τ id) = some (o.ren τ)) {id : Nat} (h : (obj' id).isSome = true) : (obj (τ id)).isSome = true := by
  cases h' : obj' id with
  | none => rw [h'] at h; cases h
  | some o => rw [hobj _ _ h']; rfl

mutual
theorem ren_live_aux {obj obj' : Nat → Option Obj} {τ : Nat → Nat} (hobj : ∀ id o, obj' id = some o → obj (τ id) = some (o.ren τ)) : ∀ (av : AV), Live obj' av → Live obj (av.ren τ)
  | .ref id p, h => fun i hi => by
    simp only [AV.ren, AV.ids, List.mem_singleton] at hi; subst hi
    exact live1 hobj (h id (by simp [AV.ids]))
  | .ptr id p k i j, h => fun i hi => by
    simp only [AV.ren, AV.ids, List.mem_singleton] at hi; subst hi
    exact live1 hobj (h id (by simp [AV.ids]))
  | .bx id j, h => fun i hi => by
    simp only [AV.ren, AV.ids, List.mem_singleton] at hi; subst hi
    exact live1 hobj (h id (by simp [AV.ids]))
  | .agg xs, h => fun i hi => renL_live_aux hobj xs (fun j hj => h j (by simpa [AV.ids] using hj)) i (by simpa [AV.ren, AV.ids] using hi)
  | .tup xs, h => fun i hi => renL_live_aux hobj xs (fun j hj => h j (by simpa [AV.ids] using hj)) i (by simpa [AV.ren, AV.ids] using hi)
  | .fn _ xs, h => fun i hi => renL_live_aux hobj xs (fun j hj => h j (by simpa [AV.ids] using hj)) i (by simpa [AV.ren, AV.ids] using hi)
  | .dead, _ => fun i hi => by simp [AV.ren, AV.ids] at hi
  | .c _, _ => fun i hi => by simp [AV.ren, AV.ids] at hi
  | .row _, _ => fun i hi => by simp [AV.ren, AV.ids] at hi
  | .pts _, _ => fun i hi => by simp [AV.ren, AV.ids] at hi
theorem renL_live_aux {obj obj' : Nat → Option Obj} {τ : Nat → Nat} (hobj : ∀ id o, obj' id = some o → obj (τ id) = some (o.ren τ)) : ∀ (xs : List AV), (∀ i ∈ idsL xs, (obj' i).isSome = true) → ∀ i ∈ idsL (renL τ xs), (obj i).isSome = true
  | [], _, i, hi => by simp [renL, idsL] at hi
  | x :: xs, h, i, hi => by
    simp only [renL, idsL, List.mem_append] at hi
    rcases hi with hi | hi
    · exact ren_live_aux hobj x (fun j hj => h j (by simp [idsL, hj])) i hi
    · exact renL_live_aux hobj xs (fun j hj => h j (by simp [idsL, hj])) i hi
end

theorem StSim.ren (h : StSim n pn w0 A0 F0 hv T st a w) (τ : Nat → Nat) (hobj : ∀ id o, st'.obj id = some o → st.obj (τ id) = some (o.ren τ))
    (henv : ∀ x av, st'.env x = some av → av = .dead ∧ x < n ∨ st.env x = some (av.ren τ)) (hinj : ∀ i j, i ≠ j → (st'.obj i).isSome = true → (st'.obj j).isSome = true → τ i ≠ τ j)
    (huenv : ∀ x av, st'.env x = some av → ∀ id ∈ av.ids, st'.used id = true) (huobj : ∀ id o, st'.obj id = some o → st'.used id = true ∧ ∀ j ∈ o.ids, st'.used j = true)
    (hbig : ∀ id, 1000000 ≤ id → st'.used id = true ∧ ((st'.obj id).isSome = true → τ id = id)) :
    StSim n pn w0 A0 F0 (fun i => hv (τ i)) (fun i => T (τ i)) st' a w := by
  have hsh : ∀ b, Sh A0 F0 w0 T st.obj w b → Sh A0 F0 w0 (fun i => T (τ i)) st'.obj w b := fun b hb => ⟨hb.1, hb.2.1, fun id hid => hb.2.2 (τ id) (live1 hobj hid)⟩
  refine ⟨h.size, h.defers, h.frame, ?_, ?_, ?_, ?_, ?_, huenv, ?_, ?_, ?_, h.pbig⟩
  · intro x av hx hl
    rcases henv x av hx with ⟨rfl, hlt⟩ | h1
    · have : x < a.tmps.size := by rw [h.size]; exact hlt
      exact ⟨a.tmps[x], by simp [this], .dead _⟩
    · obtain ⟨v, h2, h3⟩ := h.env x _ h1 (ren_live_aux hobj av hl)
      exact ⟨v, h2, AVSim.unren hsh hobj h3 av rfl hl⟩
  · intro id o ho
    have h1 := hobj id o ho
    have h2 := h.heap _ _ h1
    cases o with
    | arr k rows =>
      simp only [Obj.ren, ObjSim] at h2 ⊢
      exact h2.mono hsh (fun _ h => h)
    | box xs =>
      simp only [Obj.ren, ObjSim] at h2 ⊢
      obtain ⟨b, c, e, g1, g2, g3, g4, g5⟩ := h2
      rw [renL_eq, List.length_map] at g3
      refine ⟨b, c, e, g1, g2, g3, g4, fun i x v hx hc hl => ?_⟩
      exact AVSim.unren hsh hobj (g5 i (x.ren τ) v (by rw [renL_eq, List.getElem?_map, hx]; rfl) hc (ren_live_aux hobj x hl)) x rfl hl
    | mp ks =>
      simp only [Obj.ren, ObjSim] at h2 ⊢
      exact h2
  · intro id hid b hb
    exact h.own (τ id) (live1 hobj hid) b hb
  · intro i j hij hi hj b hb
    exact h.dis (τ i) (τ j) (hinj i j hij hi hj) (live1 hobj hi) (live1 hobj hj) b hb
  · intro x av hx
    rcases henv x av hx with ⟨rfl, hlt⟩ | h1
    · exact hlt
    · exact h.slt x _ h1
  · intro id hid
    cases ho : st'.obj id with
    | none => rw [ho] at hid; cases hid
    | some o => exact (huobj id o ho).1
  · intro id v hp
    obtain ⟨b1, b2⟩ := hbig id (h.pbig id v hp)
    refine ⟨b1, fun hid => ?_⟩
    have e := b2 hid
    rw [e]
    have := live1 hobj hid
    rw [e] at this
    exact (h.pin id v hp).2 this
  · intro id xs hx j hj
    exact (huobj id _ hx).2 j hj

/-- A state as lists. -/
def envOf : List (Nat × AV) → Nat → Option AV
  | [], _ => none
  | (y, v) :: r, x => bif Nat.beq y x then some v else envOf r x
def objOf : List (Nat × Obj) → Nat → Option Obj
  | [], _ => none
  | (y, v) :: r, x => bif Nat.beq y x then some v else objOf r x
def stOf (env : List (Nat × AV)) (obj : List (Nat × Obj)) (us : List Nat) : St := ⟨envOf env, objOf obj, fun i => Nat.ble 1000000 i || us.any (Nat.beq · i)⟩

theorem beq_true {x y : Nat} (h : Nat.beq x y = true) : x = y := Nat.eq_of_beq_eq_true h
theorem envOf_mem {env : List (Nat × AV)} {x : Nat} {av : AV} (h : envOf env x = some av) : (x, av) ∈ env := by
  induction env with
  | nil => cases h
  | cons p env ih =>
    obtain ⟨y, v⟩ := p
    simp only [envOf] at h
    cases hb : Nat.beq y x with
    | true => rw [hb] at h; cases h; rw [beq_true hb]; simp
    | false => rw [hb] at h; exact List.mem_cons_of_mem _ (ih h)
theorem objOf_mem {env : List (Nat × Obj)} {x : Nat} {av : Obj} (h : objOf env x = some av) : (x, av) ∈ env := by
  induction env with
  | nil => cases h
  | cons p env ih =>
    obtain ⟨y, v⟩ := p
    simp only [objOf] at h
    cases hb : Nat.beq y x with
    | true => rw [hb] at h; cases h; rw [beq_true hb]; simp
    | false => rw [hb] at h; exact List.mem_cons_of_mem _ (ih h)

/-- Slot by slot. -/
inductive EnvLe (n : Nat) (st : St) (τ : Nat → Nat) (us : List Nat) : List (Nat × AV) → Prop
  | nil : EnvLe n st τ us []
  | cons {x : Nat} {av : AV} {r : List (Nat × AV)} (h : st.env x = some (av.ren τ)) (hu : av.ids.all (fun i => us.any (Nat.beq · i)) = true) (t : EnvLe n st τ us r) : EnvLe n st τ us ((x, av) :: r)
  | dead {x : Nat} {r : List (Nat × AV)} (h : x < n) (t : EnvLe n st τ us r) : EnvLe n st τ us ((x, .dead) :: r)
inductive ObjLe (st : St) (τ : Nat → Nat) (us : List Nat) : List (Nat × Obj) → Prop
  | nil : ObjLe st τ us []
  | cons {id : Nat} {o o' : Obj} {r : List (Nat × Obj)} (h : st.obj (τ id) = some o') (he : o' = o.ren τ) (hu : (id :: o.ids).all (fun i => us.any (Nat.beq · i)) = true) (hb : Nat.blt id 1000000 = true ∨ τ id = id)
      (t : ObjLe st τ us r) : ObjLe st τ us ((id, o) :: r)

def nodupB : List Nat → Bool
  | [] => true
  | x :: r => !(r.any (Nat.beq x)) && nodupB r
theorem nodupB_spec {l : List Nat} (h : nodupB l = true) : l.Nodup := by
  induction l with
  | nil => exact .nil
  | cons x l ih =>
    simp only [nodupB, Bool.and_eq_true, Bool.not_eq_true'] at h
    refine List.nodup_cons.2 ⟨fun hx => ?_, ih h.2⟩
    have : l.any (Nat.beq x) = true := List.any_eq_true.2 ⟨x, hx, by simp⟩
    rw [h.1] at this; cases this

theorem le_stOf (τ : Nat → Nat) {env : List (Nat × AV)} {obj : List (Nat × Obj)} {us : List Nat} (he : EnvLe n st τ us env) (ho : ObjLe st τ us obj) (hd : nodupB (obj.map fun p => τ p.1) = true) :
    Le n st (stOf env obj us) := by
  have hmem : ∀ {l : List Nat}, l.all (fun i => us.any (Nat.beq · i)) = true → ∀ i ∈ l, (stOf env obj us).used i = true := by
    intro l hl i hi
    have := List.all_eq_true.1 hl i hi
    show (Nat.ble 1000000 i || us.any (Nat.beq · i)) = true
    rw [this]; simp
  have he' : ∀ x av, (x, av) ∈ env → (av = .dead ∧ x < n ∨ st.env x = some (av.ren τ)) ∧ ∀ i ∈ av.ids, (stOf env obj us).used i = true := by
    clear ho hd
    generalize hU : (stOf env obj us).used = U at hmem ⊢
    clear hU
    induction he with
    | nil => intro x av h; simp at h
    | cons h hu t ih =>
      intro x av hm
      rcases List.mem_cons.1 hm with e | hm
      · cases e; exact ⟨.inr h, hmem hu⟩
      · exact ih x av hm
    | dead h t ih =>
      intro x av hm
      rcases List.mem_cons.1 hm with e | hm
      · cases e; exact ⟨.inl ⟨rfl, h⟩, fun i hi => by simp [AV.ids] at hi⟩
      · exact ih x av hm
  have ho' : ∀ id o, (id, o) ∈ obj → st.obj (τ id) = some (o.ren τ) ∧ (∀ i ∈ id :: o.ids, (stOf env obj us).used i = true) ∧ (id < 1000000 ∨ τ id = id) := by
    clear he hd he'
    generalize hU : (stOf env obj us).used = U at hmem ⊢
    clear hU
    induction ho with
    | nil => intro x av h; simp at h
    | cons h he hu hb t ih =>
      intro x av hm
      rcases List.mem_cons.1 hm with e | hm
      · cases e
        subst he
        exact ⟨h, hmem hu, hb.imp (fun h => Nat.lt_of_succ_le (Nat.le_of_ble_eq_true h)) (fun h => h)⟩
      · exact ih x av hm
  intro pn w0 A0 F0 a w ⟨hv, T, hT⟩
  refine ⟨_, _, hT.ren τ (st' := stOf env obj us) (fun id o h => (ho' id o (objOf_mem h)).1) (fun x av h => (he' x av (envOf_mem h)).1) ?_ (fun x av h => (he' x av (envOf_mem h)).2)
    (fun id o h => ⟨(ho' id o (objOf_mem h)).2.1 id (by simp), fun j hj => (ho' id o (objOf_mem h)).2.1 j (by simp [hj])⟩) ?_⟩
  · intro i j hij hi hj e
    have key : ∀ (l : List (Nat × Obj)), (l.map fun p => τ p.1).Nodup → ∀ i j, i ≠ j → (objOf l i).isSome = true → (objOf l j).isSome = true → τ i ≠ τ j := by
      intro l
      induction l with
      | nil => intro _ i j _ h; simp [objOf] at h
      | cons p l ih =>
        intro hnd i j hij hi hj e
        obtain ⟨y, v⟩ := p
        simp only [List.map_cons, List.nodup_cons] at hnd
        have here : ∀ k, (objOf l k).isSome = true → τ k ∈ l.map fun p => τ p.1 := by
          intro k hk
          cases h : objOf l k with
          | none => rw [h] at hk; cases hk
          | some o => exact List.mem_map.2 ⟨_, objOf_mem h, rfl⟩
        simp only [objOf] at hi hj
        cases h1 : Nat.beq y i with
        | true =>
          cases h2 : Nat.beq y j with
          | true => exact hij ((beq_true h1).symm.trans (beq_true h2))
          | false =>
            rw [h2] at hj
            refine hnd.1 ?_
            rw [beq_true h1, e]; exact here j hj
        | false =>
          rw [h1] at hi
          cases h2 : Nat.beq y j with
          | true =>
            refine hnd.1 ?_
            rw [beq_true h2, ← e]; exact here i hi
          | false => rw [h2] at hj; exact ih hnd.2 i j hij hi hj e
    exact key obj (nodupB_spec hd) i j hij hi hj e
  · intro id hid
    refine ⟨by show (Nat.ble 1000000 id || _) = true; rw [Nat.ble_eq_true_of_le hid]; rfl, fun hl => ?_⟩
    cases h : objOf obj id with
    | none => simp only [stOf] at hl; rw [h] at hl; cases hl
    | some o => exact (ho' id o (objOf_mem h)).2.2.resolve_left (by omega)
end
end Go.Am
