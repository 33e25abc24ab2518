/- Calls, where all that is given over is only read. Own work; generic. -/
import Derived.Test.YtcbpckbehdaloaaAmM
set_option linter.unusedSimpArgs false
set_option linter.unusedVariables false
namespace Go.Am
open Go

/-- What a value is for another function that only reads it; and which owned slices it leans on. -/
inductive Shares : AV → Arg → Objs → Prop
  | c {x : Cell} (hp : x.plain = true) : Shares (.c x) (.c x) []
  | nilc {k : Nat} : Shares (.c (.lit (.slice none 0 0))) (.c (.sl false k [])) []
  | row {xs : List Cell} (hp : xs.all Cell.plain = true) : Shares (.row xs) (.row xs) []
  | ref {id k k' : Nat} {p : Path} {o : Bool} {rows rows' rs : List (List Cell)} (hg : (Cell.sl true k rows).get p = some (.sl o k' rows')) (hb : ∀ r ∈ rows', ∀ c ∈ r, NoBox c) (hs : shareRows rows' = rs) :
      Shares (.ref id p) (.c (.sl false k' rs)) [(id, k, rows)]
  | aggNil : Shares (.agg []) (.row []) []
  | aggCons {y : AV} {ys : List AV} {x : Cell} {xs : List Cell} {os os' : Objs} (h : Shares y (.c x) os) (t : Shares (.agg ys) (.row xs) os') : Shares (.agg (y :: ys)) (.row (x :: xs)) (os ++ os')
  | fnNil {f : FuncId} : Shares (.fn f []) (.fn f []) []
  | fnCons {f : FuncId} {y : AV} {ys : List AV} {x : Arg} {xs : List Arg} {os os' : Objs} (h : Shares y x os) (t : Shares (.fn f ys) (.fn f xs) os') : Shares (.fn f (y :: ys)) (.fn f (x :: xs)) (os ++ os')
inductive SharesL : List AV → List Arg → Objs → Prop
  | nil : SharesL [] [] []
  | cons {y : AV} {ys : List AV} {x : Arg} {xs : List Arg} {os os' : Objs} (h : Shares y x os) (t : SharesL ys xs os') : SharesL (y :: ys) (x :: xs) (os ++ os')

mutual
/-- All that is within is owned: it leans on nothing else. -/
def Cell.solid : Cell → Bool
  | .lit _ => true
  | .sl o _ rows => o && solidRows rows
  | .bx _ => false
def solidRows : List (List Cell) → Bool
  | [] => true
  | r :: rs => solidRow r && solidRows rs
def solidRow : List Cell → Bool
  | [] => true
  | c :: cs => c.solid && solidRow cs
end
theorem solidRow_all {r : List Cell} : solidRow r = true ↔ ∀ c ∈ r, c.solid = true := by
  induction r with
  | nil => simp [solidRow]
  | cons c r ih => simp [solidRow, ih]
theorem solidRows_all {r : List (List Cell)} : solidRows r = true ↔ ∀ x ∈ r, solidRow x = true := by
  induction r with
  | nil => simp [solidRows]
  | cons c r ih => simp [solidRows, ih]

theorem Own.solid {w : World} {A F : Blks} {c : Cell} {v : Value} (h : Own w A F c v) : c.solid = true → ∀ A' : Blks, Own w A' F c v := by
  induction h with
  | lit v => exact fun _ _ => .lit v
  | nil o k => exact fun _ _ => .nil o k
  | shr => intro hp; simp [Cell.solid] at hp
  | emp => intro hp; simp [Cell.solid] at hp
  | @arr F k rows b cap c e G hb hk hs hcap hF hG hGb hd hh ih =>
    intro hp A'
    simp only [Cell.solid, Bool.true_or, Bool.true_and] at hp
    refine .arr hb hk hs hcap hF hG hGb hd fun i x v h1 h2 => ih i x v h1 h2 ?_ A'
    obtain ⟨r, hr, hx⟩ := mem_flatten_of_getElem? h1
    exact solidRow_all.1 (solidRows_all.1 hp r hr) x hx
  | bx => intro hp; cases hp

def Arg.solid : Arg → Bool
  | .c x => x.solid
  | .row xs => solidRow xs
  | .fn _ caps => caps.isEmpty
  | .pts _ => false
theorem ArgSim.solid {w : World} {A F : Blks} {x : Arg} {v : Value} (h : ArgSim w A F x v) (hs : x.solid = true) (A' : Blks) : ArgSim w A' F x v := by
  cases h with
  | c ho => exact .c (ho.solid hs A')
  | row hz hG hd hh => exact .row hz hG hd fun i x v h1 h2 => (hh i x v h1 h2).solid (solidRow_all.1 hs x (List.mem_of_getElem? h1)) A'
  | @fn _ f caps vs hz hh =>
    simp only [Arg.solid, List.isEmpty_iff] at hs
    subst hs
    exact .fn hz fun i x v h1 _ => by simp at h1
  | pts => cases hs

section
variable {P : Program} {n : Nat}
variable {pn : Nat → Option Value} {w0 : World} {A0 F0 : Blks} {hv : Nat → Value} {T : Nat → Blks} {st st' : St} {a : Act} {w w' : World}

/-- The blocks that are leant on. -/
def leant (T : Nat → Blks) (os : Objs) : Blks := fun b => ∃ p ∈ os, T p.1 b

theorem shares_sim (hT : StSim n pn w0 A0 F0 hv T st a w) {av : AV} {x : Arg} {os : Objs} (h : Shares av x os) : ∀ {v : Value}, (∀ p ∈ os, st.obj p.1 = some (.arr p.2.1 p.2.2)) → AVSim w (Sh A0 F0 w0 T st.obj w) hv st.obj av v →
    ArgSim w (fun b => Sh A0 F0 w0 T st.obj w b ∨ leant T os b) noBlk x v := by
  induction h with
  | c hp => intro v _ hs; cases hs with | c ho => exact .c ((ho.of_plain hp).mono (fun _ h => .inl h) (fun _ h => h))
  | nilc => intro v _ hs; cases hs with | c ho => cases ho; exact .c (.nil _ _)
  | row hp => intro v _ hs; cases hs with | row hz hh => exact .row (G := fun _ => noBlk) hz (fun _ _ f => f) (fun _ _ _ _ f => f.elim) fun i x v h1 h2 => (hh i x v h1 h2).mono (fun _ h => .inl h) (fun _ h => h)
  | @ref id k k' p o rows rows' rs hg hb hsr =>
    intro v ho hs
    have hob := ho (id, k, rows) (by simp)
    cases hs with
    | ref ho' hg' hh =>
      rw [hob] at ho'; cases ho'
      obtain ⟨F', hF', hown⟩ := Own.path (hT.heap id _ hob) hg hh
      have := hown.share (.sl o k' hb) (A' := fun b => Sh A0 F0 w0 T st.obj w b ∨ leant T [(id, k, rows)] b) (F' := noBlk) (fun b hb => hb.imp (fun h => h) (fun h => ⟨(id, k, rows), by simp, hF' b h⟩))
      rw [Cell.share, hsr] at this
      exact .c this
  | aggNil =>
    intro v _ hs
    cases hs with
    | agg hz hh => exact .row (G := fun _ => noBlk) hz (fun _ _ f => f) (fun _ _ _ _ f => f.elim) fun i x v h1 h2 => by simp at h1
  | aggCons h t ih1 ih2 =>
    rename_i y ys x xs os os'
    intro v ho hs
    cases hs with
    | @agg _ vs hz hh =>
      have hvs : ∃ u us, vs = (u :: us).toArray := by
        have : vs.size = ys.length + 1 := by simpa using hz
        cases h : vs.toList with
        | nil => have h2 : vs.toList.length = 0 := by rw [h]; rfl
                 rw [Array.length_toList] at h2; omega
        | cons u us => exact ⟨u, us, by rw [← h]⟩
      obtain ⟨u, us, rfl⟩ := hvs
      have g1 := ih1 (v := u) (fun p hp => ho p (by simp [hp])) (hh 0 y u rfl (by simp))
      have g2 := ih2 (v := .agg us.toArray) (fun p hp => ho p (by simp [hp])) (.agg (by simpa using hz) fun i z t h1 h2 => hh (i + 1) z t (by simpa using h1) (by simpa using h2))
      cases g1 with
      | c g1 =>
        cases g2 with
        | row hz2 hG hd hh2 =>
          refine .row (G := fun _ => noBlk) (by simp at hz2 ⊢; exact hz2) (fun _ _ f => f) (fun _ _ _ _ f => f.elim) fun i z t h1 h2 => ?_
          cases i with
          | zero => simp at h1 h2; subst h1 h2; exact g1.mono (fun _ h => h.imp id fun ⟨p, hp, h⟩ => ⟨p, by simp [hp], h⟩) (fun _ h => h)
          | succ i => exact (hh2 i z t (by simpa using h1) (by simpa using h2)).mono (fun _ h => h.imp id fun ⟨p, hp, h⟩ => ⟨p, by simp [hp], h⟩) (fun b h => hG i b h)
  | fnNil =>
    intro v _ hs
    cases hs with
    | fn hz hh => exact .fn hz fun i x v h1 h2 => by simp at h1
  | fnCons h t ih1 ih2 =>
    rename_i f y ys x xs os os'
    intro v ho hs
    cases hs with
    | @fn _ _ vs hz hh =>
      have hvs : ∃ u us, vs = (u :: us).toArray := by
        have : vs.size = ys.length + 1 := by simpa using hz
        cases h : vs.toList with
        | nil => have h2 : vs.toList.length = 0 := by rw [h]; rfl
                 rw [Array.length_toList] at h2; omega
        | cons u us => exact ⟨u, us, by rw [← h]⟩
      obtain ⟨u, us, rfl⟩ := hvs
      have g1 := ih1 (v := u) (fun p hp => ho p (by simp [hp])) (hh 0 y u rfl (by simp))
      have g2 := ih2 (v := .func (.func f) #[] us.toArray) (fun p hp => ho p (by simp [hp])) (.fn (by simpa using hz) fun i z t h1 h2 => hh (i + 1) z t (by simpa using h1) (by simpa using h2))
      cases g2 with
      | fn hz2 hh2 =>
        refine .fn (by simp at hz2 ⊢; exact hz2) fun i z t h1 h2 => ?_
        cases i with
        | zero => simp at h1 h2; subst h1 h2; exact g1.mono (fun _ h => h.imp id fun ⟨p, hp, h⟩ => ⟨p, by simp [hp], h⟩) (fun _ h => h)
        | succ i => exact (hh2 i z t (by simpa using h1) (by simpa using h2)).mono (fun _ h => h.imp id fun ⟨p, hp, h⟩ => ⟨p, by simp [hp], h⟩) (fun b h => h)

theorem sharesL_sim (hT : StSim n pn w0 A0 F0 hv T st a w) {avs : List AV} {xs : List Arg} {os : Objs} (h : SharesL avs xs os) : ∀ {vs : List Value}, (∀ p ∈ os, st.obj p.1 = some (.arr p.2.1 p.2.2)) → vs.length = avs.length →
    (∀ (i : Nat) av v, avs[i]? = some av → vs[i]? = some v → AVSim w (Sh A0 F0 w0 T st.obj w) hv st.obj av v) → ArgsSim w (fun b => Sh A0 F0 w0 T st.obj w b ∨ leant T os b) noBlk xs vs := by
  suffices H : ∀ {vs : List Value}, (∀ p ∈ os, st.obj p.1 = some (.arr p.2.1 p.2.2)) → vs.length = avs.length →
      (∀ (i : Nat) av v, avs[i]? = some av → vs[i]? = some v → AVSim w (Sh A0 F0 w0 T st.obj w) hv st.obj av v) → vs.length = xs.length ∧ ∀ (i : Nat) x v, xs[i]? = some x → vs[i]? = some v → ArgSim w (fun b => Sh A0 F0 w0 T st.obj w b ∨ leant T os b) noBlk x v by
    intro vs h1 h2 h3
    obtain ⟨h4, h5⟩ := H h1 h2 h3
    exact ⟨fun _ => noBlk, h4, fun _ _ f => f, fun _ _ _ _ f => f.elim, h5⟩
  induction h with
  | nil => intro vs _ hl _; exact ⟨by simpa using hl, fun i x v h1 => by simp at h1⟩
  | cons h t ih =>
    intro vs ho hl hh
    cases vs with
    | nil => simp at hl
    | cons v vs =>
      obtain ⟨g1, g2⟩ := ih (vs := vs) (fun p hp => ho p (by simp [hp])) (by simpa using hl) (fun i av u h1 h2 => hh (i + 1) av u (by simpa using h1) (by simpa using h2))
      have g3 := shares_sim hT h (v := v) (fun p hp => ho p (by simp [hp])) (hh 0 _ v rfl rfl)
      refine ⟨by simp [g1], fun i x u h1 h2 => ?_⟩
      cases i with
      | zero => simp at h1 h2; subst h1 h2; exact g3.mono (fun _ h => h.imp id fun ⟨p, hp, h⟩ => ⟨p, by simp [hp], h⟩) (fun _ h => h)
      | succ i => exact (g2 i x u (by simpa using h1) (by simpa using h2)).mono (fun _ h => h.imp id fun ⟨p, hp, h⟩ => ⟨p, by simp [hp], h⟩) (fun _ h => h)
end
end Go.Am
