/- What is given over at a call: read only, or for good, or lent. Own work; generic. -/
import Derived.Test.YtcbpckbehdaloaaAmYa
set_option linter.unusedSimpArgs false
set_option linter.unusedVariables false
namespace Go.Am
open Go

def noCommon (a b : Obs) : Bool := a.all fun p => b.all fun q => !Nat.beq p.1 q.1
theorem noCommon_spec {a b : Obs} (h : noCommon a b = true) {p q : Nat × Obj} (hp : p ∈ a) (hq : q ∈ b) : p.1 ≠ q.1 := by
  intro e
  have := List.all_eq_true.1 (List.all_eq_true.1 h p hp) q hq
  rw [e] at this; simp at this

/-- Cells, where nothing may be an empty slice. -/
inductive RowN : List Cell → List Cell → Prop
  | nil : RowN [] []
  | c {x : Cell} {xs ys : List Cell} (hp : x.plain = true) (t : RowN xs ys) : RowN (x :: xs) (x :: ys)
  | nilc {o : Bool} {k : Nat} {xs ys : List Cell} (t : RowN xs ys) : RowN (.lit (.slice none 0 0) :: xs) (.sl o k [] :: ys)
theorem RowN.length {xs ys : List Cell} (h : RowN xs ys) : ys.length = xs.length := by induction h <;> simp [*]
theorem RowN.own {w : World} {A : Blks} {xs ys : List Cell} (h : RowN xs ys) : ∀ {vs : List Value}, (∀ (i : Nat) x v, xs[i]? = some x → vs[i]? = some v → Own w A noBlk x v) → ∀ (i : Nat) y v, ys[i]? = some y → vs[i]? = some v → Own w A noBlk y v := by
  induction h with
  | nil => intro vs _ i y v h1; simp at h1
  | c hp t ih =>
    intro vs hh i y v h1 h2
    cases vs with
    | nil => simp at h2
    | cons u us =>
      cases i with
      | zero => exact hh 0 y v (by simpa using h1) h2
      | succ i => exact ih (vs := us) (fun i x v g1 g2 => hh (i + 1) x v (by simpa using g1) (by simpa using g2)) i y v (by simpa using h1) (by simpa using h2)
  | nilc t ih =>
    intro vs hh i y v h1 h2
    cases vs with
    | nil => simp at h2
    | cons u us =>
      cases i with
      | zero =>
        simp at h1 h2; subst h1 h2
        have := hh 0 (.lit (.slice none 0 0)) u rfl rfl
        cases this; exact .nil _ _
      | succ i => exact ih (vs := us) (fun i x v g1 g2 => hh (i + 1) x v (by simpa using g1) (by simpa using g2)) i y v (by simpa using h1) (by simpa using h2)

/-- A value given over: what it is for the other one; which objects it leans on; which go with it. -/
inductive Giv : AV → Arg → Obs → Obs → Prop
  | c {x : Cell} (hp : x.plain = true) : Giv (.c x) (.c x) [] []
  | nil {o : Bool} {k : Nat} : Giv (.c (.lit (.slice none 0 0))) (.c (.sl o k [])) [] []
  | row {xs : List Cell} (hp : xs.all Cell.plain = true) : Giv (.row xs) (.row xs) [] []
  | rowN {xs ys : List Cell} (h : RowN xs ys) : Giv (.row xs) (.row ys) [] []
  | pts {xs : List Cell} (hp : xs.all Cell.plain = true) : Giv (.pts xs) (.pts xs) [] []
  | ref {id k k' : Nat} {p : Path} {o : Bool} {rows rows' rs : List (List Cell)} (hg : (Cell.sl true k rows).get p = some (.sl o k' rows')) (hb : ∀ r ∈ rows', ∀ c ∈ r, NoBox c) (hs : shareRows rows' = rs) :
      Giv (.ref id p) (.c (.sl false k' rs)) [(id, .arr k rows)] []
  | aggNil : Giv (.agg []) (.row []) [] []
  | aggCons {y : AV} {ys : List AV} {x : Cell} {xs : List Cell} {os os' ms ms' : Obs} (h : Giv y (.c x) os ms) (t : Giv (.agg ys) (.row xs) os' ms') (hd : noCommon ms ms' = true) :
      Giv (.agg (y :: ys)) (.row (x :: xs)) (os ++ os') (ms ++ ms')
  | fnNil {f : FuncId} : Giv (.fn f []) (.fn f []) [] []
  | fnCons {f : FuncId} {y : AV} {ys : List AV} {x : Arg} {xs : List Arg} {os os' : Obs} (h : Giv y x os []) (t : Giv (.fn f ys) (.fn f xs) os' []) : Giv (.fn f (y :: ys)) (.fn f (x :: xs)) (os ++ os') []
  | bxs {id : Nat} {ys : List AV} {xs : List Cell} {os : Obs} (h : Giv (.agg ys) (.row xs) os []) : Giv (.bx id 0) (.pts xs) ((id, .box ys) :: os) []
  | own {id k : Nat} {rows : List (List Cell)} : Giv (.ref id []) (.c (.sl true k rows)) [] [(id, .arr k rows)]
  | bxm {id : Nat} {ys : List AV} {xs : List Cell} {ms : Obs} (h : Giv (.agg ys) (.row xs) [] ms) (hd : noCommon [(id, .box ys)] ms = true) : Giv (.bx id 0) (.c (.bx xs)) [] ((id, .box ys) :: ms)
inductive GivL : List AV → List Arg → Obs → Obs → Prop
  | nil : GivL [] [] [] []
  | cons {y : AV} {ys : List AV} {x : Arg} {xs : List Arg} {os os' ms ms' : Obs} (h : Giv y x os ms) (t : GivL ys xs os' ms') (hd : noCommon ms ms' = true) : GivL (y :: ys) (x :: xs) (os ++ os') (ms ++ ms')

theorem Giv.ids {av : AV} {x : Arg} {os ms : Obs} (h : Giv av x os ms) : ∀ i ∈ av.ids, i ∈ os.map (·.1) ∨ i ∈ ms.map (·.1) := by
  induction h with
  | c | nil | row | rowN | pts => intro i hi; simp [AV.ids] at hi
  | ref => intro i hi; simp [AV.ids] at hi; subst hi; left; simp
  | own => intro i hi; simp [AV.ids] at hi; subst hi; right; simp
  | bxs => intro i hi; simp [AV.ids] at hi; subst hi; left; simp
  | bxm => intro i hi; simp [AV.ids] at hi; subst hi; right; simp
  | aggNil => intro i hi; simp [AV.ids, idsL] at hi
  | fnNil => intro i hi; simp [AV.ids, idsL] at hi
  | aggCons h t hd ih1 ih2 =>
    intro i hi
    simp only [AV.ids, idsL, List.mem_append] at hi
    simp only [List.map_append, List.mem_append]
    rcases hi with hi | hi
    · exact (ih1 i hi).imp .inl .inl
    · exact (ih2 i (by simpa [AV.ids] using hi)).imp .inr .inr
  | fnCons h t ih1 ih2 =>
    intro i hi
    simp only [AV.ids, idsL, List.mem_append] at hi
    simp only [List.map_append, List.mem_append]
    rcases hi with hi | hi
    · exact (ih1 i hi).imp .inl (fun h => h)
    · exact (ih2 i (by simpa [AV.ids] using hi)).imp .inr (fun h => h)

section
variable {P : Program} {n : Nat}
variable {pn : Nat → Option Value} {w0 : World} {A0 F0 : Blks} {hv : Nat → Value} {T : Nat → Blks} {st st' : St} {a : Act} {w w' : World}

/-- The blocks of some objects. -/
def ofs (T : Nat → Blks) (os : Obs) : Blks := fun b => ∃ p ∈ os, T p.1 b
theorem ofs_l {os os' : Obs} {b : Nat} (h : ofs T os b) : ofs T (os ++ os') b := let ⟨p, hp, h⟩ := h; ⟨p, by simp [hp], h⟩
theorem ofs_r {os os' : Obs} {b : Nat} (h : ofs T os' b) : ofs T (os ++ os') b := let ⟨p, hp, h⟩ := h; ⟨p, by simp [hp], h⟩
theorem ofs_sep (hT : StSim n pn w0 A0 F0 hv T st a w) {ms ms' : Obs} (hd : noCommon ms ms' = true) (h1 : ∀ p ∈ ms, st.obj p.1 = some p.2) (h2 : ∀ p ∈ ms', st.obj p.1 = some p.2) {b : Nat} (hb : ofs T ms b) : ¬ ofs T ms' b := by
  rintro ⟨q, hq, hTq⟩
  obtain ⟨p, hp, hTp⟩ := hb
  exact hT.dis p.1 q.1 (noCommon_spec hd hp hq) (by simp [h1 p hp]) (by simp [h2 q hq]) b hTp hTq

theorem giv_sim (hT : StSim n pn w0 A0 F0 hv T st a w) {av : AV} {x : Arg} {os ms : Obs} (h : Giv av x os ms) : ∀ {v : Value}, (∀ p ∈ os, st.obj p.1 = some p.2) → (∀ p ∈ ms, st.obj p.1 = some p.2) →
    AVSim w (Sh A0 F0 w0 T st.obj w) hv st.obj av v → ArgSim w (fun b => Sh A0 F0 w0 T st.obj w b ∨ ofs T os b) (ofs T ms) x v := by
  have none : ∀ {b : Nat}, ¬ ofs T [] b := fun ⟨p, hp, _⟩ => by simp at hp
  have ofBox : ∀ {id : Nat} {ys : List AV} {v : Value} {xs : List Cell} {os ms : Obs}, Giv (.agg ys) (.row xs) os ms → (∀ p ∈ os, st.obj p.1 = some p.2) → (∀ p ∈ ms, st.obj p.1 = some p.2) → st.obj id = some (.box ys) →
      AVSim w (Sh A0 F0 w0 T st.obj w) hv st.obj (.bx id 0) v → ∃ b c e, v = .pointer (some ⟨b, 0, Option.none⟩) ∧ w.heap[b]? = some (.cells c e (0, 0)) ∧ T id b ∧ AVSim w (Sh A0 F0 w0 T st.obj w) hv st.obj (.agg ys) (.agg c) := by
    intro id ys v xs os ms hg ho hm hid hs
    obtain ⟨b, hb, rfl⟩ := hs.bx_inv hid
    obtain ⟨b', c, e, g1, g2, g3, g4, g5⟩ := hT.heap id _ hid
    rw [hb] at g1; cases g1
    refine ⟨b, c, e, rfl, g2, g4, .agg g3 fun i y u hy hu => g5 i y u hy hu fun j hj => ?_⟩
    have hj' : j ∈ (AV.agg ys).ids := by simp only [AV.ids]; exact mem_idsL hy hj
    rcases hg.ids j hj' with h | h
    · obtain ⟨p, hp, rfl⟩ := List.mem_map.1 h; simp [ho p hp]
    · obtain ⟨p, hp, rfl⟩ := List.mem_map.1 h; simp [hm p hp]
  induction h with
  | c hp => intro v _ _ hs; cases hs with | c ho => exact .c ((ho.of_plain hp).mono (fun _ h => .inl h) (fun _ f => f.elim))
  | nil => intro v _ _ hs; cases hs with | c ho => cases ho; exact .c (.nil _ _)
  | row hp => intro v _ _ hs; cases hs with | row hz hh => exact .row (G := fun _ => noBlk) hz (fun _ _ f => f.elim) (fun _ _ _ _ f => f.elim) fun i x v h1 h2 => (hh i x v h1 h2).mono (fun _ h => .inl h) (fun _ h => h)
  | rowN h => intro v _ _ hs; cases hs with | row hz hh => exact .row (G := fun _ => noBlk) (by rw [h.length]; exact hz) (fun _ _ f => f.elim) (fun _ _ _ _ f => f.elim) fun i x v h1 h2 => (h.own (vs := _) (fun i x v g1 g2 => hh i x v g1 (by rw [← Array.getElem?_toList]; exact g2)) i x v h1 (by rw [Array.getElem?_toList]; exact h2)).mono (fun _ h => .inl h) (fun _ h => h)
  | pts hp => intro v _ _ hs; cases hs with | pts hb hA hz hh => exact .pts hb (.inl hA) hz fun i x v h1 h2 => (hh i x v h1 h2).mono (fun _ h => .inl h) (fun _ h => h)
  | @ref id k k' p o rows rows' rs hg hb hsr =>
    intro v ho _ hs
    have hob := ho (id, .arr k rows) (by simp)
    cases hs with
    | ref ho' hg' hh =>
      rw [hob] at ho'; cases ho'
      obtain ⟨F', hF', hown⟩ := Own.path (hT.heap id _ hob) hg hh
      have := hown.share (.sl o k' hb) (A' := fun b => Sh A0 F0 w0 T st.obj w b ∨ ofs T [(id, .arr k rows)] b) (F' := ofs T []) (fun b hb => hb.imp (fun h => h) (fun h => ⟨(id, .arr k rows), by simp, hF' b h⟩))
      rw [Cell.share, hsr] at this
      exact .c this
  | @own id k rows =>
    intro v _ hm hs
    have hob := hm (id, .arr k rows) (by simp)
    cases hs with
    | ref ho' hg' hh =>
      simp only [Hdr] at hh; subst hh
      exact .c (Own.mono (hT.heap id _ hob) (fun _ h => .inl h) (fun b hb => ⟨(id, .arr k rows), by simp, hb⟩))
  | @bxs id ys xs os h ih =>
    intro v ho hm hs
    have ho2 : ∀ p ∈ os, st.obj p.1 = some p.2 := fun p hp => ho p (by simp [hp])
    obtain ⟨b, c, e, rfl, g2, g4, g5⟩ := ofBox h ho2 hm (ho (id, .box ys) (by simp)) hs
    have := ih ho2 hm g5
    cases this with
    | row hz hG hd hh =>
      exact .pts g2 (.inr ⟨(id, .box ys), by simp, g4⟩) (by omega) fun i x v h1 h2 => (hh i x v h1 (by simpa using h2)).mono (fun _ h => h.imp (fun h => h) fun ⟨p, hp, h⟩ => ⟨p, by simp [hp], h⟩) (fun b h => none (hG i b h))
  | @bxm id ys xs ms h hd ih =>
    intro v ho hm hs
    have hm2 : ∀ p ∈ ms, st.obj p.1 = some p.2 := fun p hp => hm p (by simp [hp])
    have hid := hm (id, .box ys) (by simp)
    obtain ⟨b, c, e, rfl, g2, g4, g5⟩ := ofBox h ho hm2 hid hs
    have := ih ho hm2 g5
    cases this with
    | row hz hG hd2 hh =>
      refine .c (.bx g2 hz ⟨(id, .box ys), by simp, g4⟩ (fun i x hx => let ⟨p, hp, h⟩ := hG i x hx; ⟨p, by simp [hp], h⟩) (fun i hx => ?_) hd2 hh)
      exact ofs_sep hT hd (by simpa using hid) hm2 ⟨(id, .box ys), by simp, g4⟩ (hG i b hx)
  | aggNil =>
    intro v _ _ hs
    cases hs with
    | agg hz hh => exact .row (G := fun _ => noBlk) hz (fun _ _ f => f.elim) (fun _ _ _ _ f => f.elim) fun i x v h1 h2 => by simp at h1
  | @aggCons y ys x xs os os' ms ms' h t hd ih1 ih2 =>
    intro v ho hm hs
    cases hs with
    | @agg _ vs hz hh =>
      have hvs : ∃ u us, vs = (u :: us).toArray := by
        have : vs.size = ys.length + 1 := by simpa using hz
        cases h : vs.toList with
        | nil => have h2 : vs.toList.length = 0 := by rw [h]; rfl
                 rw [Array.length_toList] at h2; omega
        | cons u us => exact ⟨u, us, by rw [← h]⟩
      obtain ⟨u, us, rfl⟩ := hvs
      have hm1 : ∀ p ∈ ms, st.obj p.1 = some p.2 := fun p hp => hm p (by simp [hp])
      have hm2 : ∀ p ∈ ms', st.obj p.1 = some p.2 := fun p hp => hm p (by simp [hp])
      have g1 := ih1 (v := u) (fun p hp => ho p (by simp [hp])) hm1 (hh 0 y u rfl (by simp))
      have g2 := ih2 (v := .agg us.toArray) (fun p hp => ho p (by simp [hp])) hm2 (.agg (by simpa using hz) fun i z t h1 h2 => hh (i + 1) z t (by simpa using h1) (by simpa using h2))
      cases g1 with
      | c g1 =>
        cases g2 with
        | @row _ _ _ G hz2 hG hd2 hh2 =>
          refine .row (G := fun i => match i with | 0 => ofs T ms | i + 1 => G i) (by simp at hz2 ⊢; exact hz2) (fun i b hb => ?_) (fun i j b hij h1 h2 => ?_) fun i z t h1 h2 => ?_
          · cases i with
            | zero => exact ofs_l hb
            | succ i => exact ofs_r (hG i b hb)
          · cases i with
            | zero => cases j with
              | zero => exact hij rfl
              | succ j => exact ofs_sep hT hd hm1 hm2 h1 (hG j b h2)
            | succ i => cases j with
              | zero => exact ofs_sep hT hd hm1 hm2 h2 (hG i b h1)
              | succ j => exact hd2 i j b (fun e => hij (by rw [e])) h1 h2
          · cases i with
            | zero => simp at h1 h2; subst h1 h2; exact g1.mono (fun _ h => h.imp id ofs_l) (fun _ h => h)
            | succ i => exact (hh2 i z t (by simpa using h1) (by simpa using h2)).mono (fun _ h => h.imp id ofs_r) (fun b h => h)
  | fnNil =>
    intro v _ _ hs
    cases hs with
    | fn hz hh => exact .fn hz fun i x v h1 h2 => by simp at h1
  | @fnCons f y ys x xs os os' h t ih1 ih2 =>
    intro v ho hm hs
    cases hs with
    | @fn _ _ vs hz hh =>
      have hvs : ∃ u us, vs = (u :: us).toArray := by
        have : vs.size = ys.length + 1 := by simpa using hz
        cases h : vs.toList with
        | nil => have h2 : vs.toList.length = 0 := by rw [h]; rfl
                 rw [Array.length_toList] at h2; omega
        | cons u us => exact ⟨u, us, by rw [← h]⟩
      obtain ⟨u, us, rfl⟩ := hvs
      have g1 := ih1 (v := u) (fun p hp => ho p (by simp [hp])) (by simp) (hh 0 y u rfl (by simp))
      have g2 := ih2 (v := .func (.func f) #[] us.toArray) (fun p hp => ho p (by simp [hp])) (by simp) (.fn (by simpa using hz) fun i z t h1 h2 => hh (i + 1) z t (by simpa using h1) (by simpa using h2))
      cases g2 with
      | fn hz2 hh2 =>
        refine .fn (by simp at hz2 ⊢; exact hz2) fun i z t h1 h2 => ?_
        cases i with
        | zero => simp at h1 h2; subst h1 h2; exact g1.mono (fun _ h => h.imp id ofs_l) (fun _ h => none h)
        | succ i => exact (hh2 i z t (by simpa using h1) (by simpa using h2)).mono (fun _ h => h.imp id ofs_r) (fun b h => h)

theorem givL_sim (hT : StSim n pn w0 A0 F0 hv T st a w) {avs : List AV} {xs : List Arg} {os ms : Obs} (h : GivL avs xs os ms) : ∀ {vs : List Value}, (∀ p ∈ os, st.obj p.1 = some p.2) → (∀ p ∈ ms, st.obj p.1 = some p.2) → vs.length = avs.length →
    (∀ (i : Nat) av v, avs[i]? = some av → vs[i]? = some v → AVSim w (Sh A0 F0 w0 T st.obj w) hv st.obj av v) → ArgsSim w (fun b => Sh A0 F0 w0 T st.obj w b ∨ ofs T os b) (ofs T ms) xs vs := by
  induction h with
  | nil => intro vs _ _ hl _; exact ⟨fun _ => noBlk, by simpa using hl, fun _ _ f => f.elim, fun _ _ _ _ f => f.elim, fun i x v h1 => by simp at h1⟩
  | @cons y ys x xs os os' ms ms' h t hd ih =>
    intro vs ho hm hl hh
    cases vs with
    | nil => simp at hl
    | cons v vs =>
      have hm1 : ∀ p ∈ ms, st.obj p.1 = some p.2 := fun p hp => hm p (by simp [hp])
      have hm2 : ∀ p ∈ ms', st.obj p.1 = some p.2 := fun p hp => hm p (by simp [hp])
      obtain ⟨G, g1, g2, g3, g4⟩ := ih (vs := vs) (fun p hp => ho p (by simp [hp])) hm2 (by simpa using hl) (fun i av u h1 h2 => hh (i + 1) av u (by simpa using h1) (by simpa using h2))
      have g5 := giv_sim hT h (v := v) (fun p hp => ho p (by simp [hp])) hm1 (hh 0 _ v rfl rfl)
      refine ⟨fun i => match i with | 0 => ofs T ms | i + 1 => G i, by simp [g1], fun i b hb => ?_, fun i j b hij h1 h2 => ?_, fun i z u h1 h2 => ?_⟩
      · cases i with
        | zero => exact ofs_l hb
        | succ i => exact ofs_r (g2 i b hb)
      · cases i with
        | zero => cases j with
          | zero => exact hij rfl
          | succ j => exact ofs_sep hT hd hm1 hm2 h1 (g2 j b h2)
        | succ i => cases j with
          | zero => exact ofs_sep hT hd hm1 hm2 h2 (g2 i b h1)
          | succ j => exact g3 i j b (fun e => hij (by rw [e])) h1 h2
      · cases i with
        | zero => simp at h1 h2; subst h1 h2; exact g5.mono (fun _ h => h.imp id ofs_l) (fun _ h => h)
        | succ i => exact (g4 i z u (by simpa using h1) (by simpa using h2)).mono (fun _ h => h.imp id ofs_r) (fun _ h => h)
theorem GivL.ids {avs : List AV} {xs : List Arg} {os ms : Obs} (h : GivL avs xs os ms) : ∀ i ∈ idsL avs, i ∈ os.map (·.1) ∨ i ∈ ms.map (·.1) := by
  induction h with
  | nil => intro i hi; simp [idsL] at hi
  | cons h t hd ih =>
    intro i hi
    simp only [idsL, List.mem_append] at hi
    simp only [List.map_append, List.mem_append]
    rcases hi with hi | hi
    · exact (h.ids i hi).imp .inl .inl
    · exact (ih i hi).imp .inr .inr
end
end Go.Am
