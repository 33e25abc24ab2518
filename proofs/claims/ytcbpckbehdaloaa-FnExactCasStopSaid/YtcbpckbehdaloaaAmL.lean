/- Code, contracts, calls. Own work; generic. -/
import Derived.Test.YtcbpckbehdaloaaAmK
set_option linter.unusedSimpArgs false
set_option linter.unusedVariables false
namespace Go.Am
open Go

section
variable {P : Program} {n : Nat}

def Kseq (P : Program) (n : Nat) (y : Code) (Q : Exit → St → Prop) : Exit → St → Prop
  | .normal, st => ACode P n y st Q
  | e, st => Q e st
theorem acode_seq {x y : Code} {st : St} {Q : Exit → St → Prop} (h : ACode P n x st (Kseq P n y Q)) : ACode P n (.seq x y) st Q := by
  intro pn w0 A0 F0 a w hB hS
  refine wp_seq (wp_mono (h pn w0 A0 F0 a w hB hS) ?_)
  rintro e a' w' ⟨st', hq, hS'⟩
  cases e with
  | normal => exact hq pn w0 A0 F0 a' w' hB hS'
  | _ => exact ⟨st', hq, hS'⟩
theorem kseq_normal {y : Code} {st : St} {Q : Exit → St → Prop} (h : ACode P n y st Q) : Kseq P n y Q .normal st := h
theorem kseq_ret {y : Code} {st : St} {Q : Exit → St → Prop} (h : Q .ret st) : Kseq P n y Q .ret st := h
theorem kseq_exit {y : Code} {st : St} {i : Nat} {Q : Exit → St → Prop} (h : Q (.exit i) st) : Kseq P n y Q (.exit i) st := h

theorem acode_skip {st : St} {Q : Exit → St → Prop} (h : Q .normal st) : ACode P n .skip st Q := fun _ _ _ _ _ _ _ hS => wp_skip ⟨st, h, hS⟩
theorem acode_ret {st : St} {Q : Exit → St → Prop} (h : Q .ret st) : ACode P n .ret st Q := fun _ _ _ _ _ _ _ hS => wp_ret ⟨st, h, hS⟩
theorem acode_exit {st : St} {i : Nat} {Q : Exit → St → Prop} (h : Q (.exit i) st) : ACode P n (.exit i) st Q := fun _ _ _ _ _ _ _ hS => wp_exit ⟨st, h, hS⟩

theorem acode_cond {c : Operand} {x y : Code} {st : St} {b : Bool} {Q : Exit → St → Prop} (hc : opIs st c (aBool b)) (ht : b = true → ACode P n x st Q) (hf : b = false → ACode P n y st Q) :
    ACode P n (.cond c x y) st Q := by
  intro pn w0 A0 F0 a w hB hS
  obtain ⟨hv, T, hT⟩ := hS
  have he := hT.lit (v := .bool b) hc
  exact wp_cond_split he (fun h => ht h pn w0 A0 F0 a w hB ⟨hv, T, hT⟩) (fun h => hf h pn w0 A0 F0 a w hB ⟨hv, T, hT⟩)
theorem acode_cond_true {c : Operand} {x y : Code} {st : St} {b : Bool} {Q : Exit → St → Prop} (hc : opIs st c (aBool b)) (hb : b = true) (ht : ACode P n x st Q) : ACode P n (.cond c x y) st Q :=
  acode_cond hc (fun _ => ht) (fun h => by rw [hb] at h; cases h)
theorem acode_cond_false {c : Operand} {x y : Code} {st : St} {b : Bool} {Q : Exit → St → Prop} (hc : opIs st c (aBool b)) (hb : b = false) (ht : ACode P n y st Q) : ACode P n (.cond c x y) st Q :=
  acode_cond hc (fun h => by rw [hb] at h; cases h) (fun _ => ht)

def Kblk (i : Nat) (Q : Exit → St → Prop) : Exit → St → Prop
  | .exit j, st => bif Nat.beq j i then Q .normal st else Q (.exit j) st
  | e, st => Q e st
theorem acode_block {i : Nat} {c : Code} {st : St} {Q : Exit → St → Prop} (h : ACode P n c st (Kblk i Q)) : ACode P n (.block i c) st Q := by
  intro pn w0 A0 F0 a w hB hS
  refine wp_block (wp_mono (h pn w0 A0 F0 a w hB hS) ?_)
  rintro e a' w' ⟨st', hq, hS'⟩
  cases e with
  | exit j =>
    simp only [Kblk] at hq
    simp only [Exit.inBlock]
    by_cases hj : j = i
    · subst hj; simp at hq; rw [if_pos rfl]; exact ⟨st', hq, hS'⟩
    · have : Nat.beq j i = false := by
        cases hb : Nat.beq j i with
        | false => rfl
        | true => exact absurd (Nat.eq_of_beq_eq_true hb) hj
      rw [this] at hq
      rw [if_neg hj]; exact ⟨st', hq, hS'⟩
  | _ => exact ⟨st', hq, hS'⟩

/-- The one state says what the other does, or less. -/
def Le (n : Nat) (st st' : St) : Prop := ∀ pn w0 A0 F0 a w, Sim n pn w0 A0 F0 st a w → Sim n pn w0 A0 F0 st' a w

def Klp {S : Type} (n : Nat) (inv : S → St) (μ : S → Nat) (s : S) (Q : Exit → St → Prop) : Exit → St → Prop
  | .normal, st => ∃ s', μ s' < μ s ∧ Le n st (inv s')
  | e, st => Q e st

theorem acode_loop {S : Type} (inv : S → St) (μ : S → Nat) {c : Code} {st : St} {Q : Exit → St → Prop} (s0 : S) (h0 : Le n st (inv s0)) (round : ∀ s, ACode P n c (inv s) (Klp n inv μ s Q)) :
    ACode P n (.loop c) st Q := by
  intro pn w0 A0 F0 a w hB hS b k cs
  have key : ∀ m s a w, μ s = m → Sim n pn w0 A0 F0 (inv s) a w →
      ∃ e a' w', Lift n pn w0 A0 F0 Q e a' w' ∧ Arrives P (lone (b.at a (.code c :: .inLoop c :: k)) cs w) b k cs e a' w' := by
    intro m
    induction m using Nat.strongRecOn with
    | _ m ih =>
      intro s a w hm hS
      obtain ⟨e, a₁, w₁, ⟨st', hq, hS'⟩, harr⟩ := round s pn w0 A0 F0 a w hB hS b (.inLoop c :: k) cs
      cases e with
      | normal =>
        obtain ⟨s', hlt, hle⟩ := hq
        obtain ⟨e₂, a₂, w₂, hq₂, harr₂⟩ := ih (μ s') (hm ▸ hlt) s' a₁ w₁ rfl (hle _ _ _ _ _ _ hS')
        exact ⟨e₂, a₂, w₂, hq₂, .of_steps (Steps.trans harr (.one step_inLoop)) harr₂⟩
      | exit i => exact ⟨_, a₁, w₁, ⟨st', hq, hS'⟩, .pass (x := .inLoop c) rfl (fun _ _ => .inl (by simp)) harr⟩
      | goto l => exact ⟨_, a₁, w₁, ⟨st', hq, hS'⟩, .pass (x := .inLoop c) rfl (fun _ _ => .inl (by simp)) harr⟩
      | ret => exact ⟨_, a₁, w₁, ⟨st', hq, hS'⟩, .pass (x := .inLoop c) rfl (fun _ _ => .inl (by simp)) harr⟩
      | panic ch => exact ⟨_, a₁, w₁, ⟨st', hq, hS'⟩, .pass (x := .inLoop c) rfl (fun _ _ => .inl (by simp)) harr⟩
      | outgrown => exact ⟨_, a₁, w₁, ⟨st', hq, hS'⟩, .pass (x := .inLoop c) rfl (fun _ _ => .inl (by simp)) harr⟩
  obtain ⟨e, a', w', hq, harr⟩ := key _ s0 a w rfl (h0 _ _ _ _ _ _ hS)
  exact ⟨e, a', w', hq, .of_steps (.one step_loop) harr⟩

/-- With a property of the rounds. -/
def Klg {S : Type} (n : Nat) (inv : S → St) (I : S → Prop) (μ : S → Nat) (s : S) (Q : Exit → St → Prop) : Exit → St → Prop
  | .normal, st => ∃ s', I s' ∧ μ s' < μ s ∧ Le n st (inv s')
  | e, st => Q e st
theorem acode_loopg {S : Type} (inv : S → St) (I : S → Prop) (μ : S → Nat) {c : Code} {st : St} {Q : Exit → St → Prop} (s0 : S) (hI : I s0) (h0 : Le n st (inv s0)) (round : ∀ s, I s → ACode P n c (inv s) (Klg n inv I μ s Q)) :
    ACode P n (.loop c) st Q := by
  refine acode_loop (S := { s : S // I s }) (fun s => inv s.1) (fun s => μ s.1) ⟨s0, hI⟩ h0 fun s => ?_
  intro pn w0 A0 F0 a w hB hS
  refine wp_mono (round s.1 s.2 pn w0 A0 F0 a w hB hS) ?_
  rintro e a' w' ⟨st', hq, hS'⟩
  refine ⟨st', ?_, hS'⟩
  cases e with
  | normal => obtain ⟨s', h1, h2, h3⟩ := hq; exact ⟨⟨s', h1⟩, h2, h3⟩
  | _ => exact hq

/-- Behind a weakening. -/
theorem acode_le {c : Code} {st st' : St} {Q : Exit → St → Prop} (h : Le n st st') (k : ACode P n c st' Q) : ACode P n c st Q :=
  fun pn w0 A0 F0 a w hB hS => k pn w0 A0 F0 a w hB (h _ _ _ _ _ _ hS)

/-! ### What goes over a call -/

inductive Arg where
  | c (x : Cell)
  | row (xs : List Cell)
  | fn (f : FuncId) (caps : List Arg)
  | pts (xs : List Cell)

inductive ArgSim (w : World) (A : Blks) : Blks → Arg → Value → Prop
  | c {F : Blks} {x : Cell} {v : Value} (h : Own w A F x v) : ArgSim w A F (.c x) v
  | row {F : Blks} {xs : List Cell} {vs : Array Value} {G : Nat → Blks} (hs : vs.size = xs.length) (hG : ∀ i b, G i b → F b) (hd : ∀ i j b, i ≠ j → G i b → ¬ G j b)
      (h : ∀ (i : Nat) x v, xs[i]? = some x → vs[i]? = some v → Own w A (G i) x v) : ArgSim w A F (.row xs) (.agg vs)
  | fn {F : Blks} {f : FuncId} {caps : List Arg} {vs : Array Value} (hs : vs.size = caps.length) (h : ∀ (i : Nat) x v, caps[i]? = some x → vs[i]? = some v → ArgSim w A noBlk x v) :
      ArgSim w A F (.fn f caps) (.func (.func f) #[] vs)
  | pts {F : Blks} {xs : List Cell} {b off : Nat} {c : Array Value} {e : TypeId} {fr : Nat × Nat} (hb : w.heap[b]? = some (.cells c e fr)) (hA : A b) (hs : off + xs.length ≤ c.size)
      (h : ∀ (i : Nat) x v, xs[i]? = some x → c[off + i]? = some v → Own w A noBlk x v) : ArgSim w A F (.pts xs) (.pointer (some ⟨b, off, none⟩))

def ArgsSim (w : World) (A F : Blks) (args : List Arg) (vs : List Value) : Prop :=
  ∃ G : Nat → Blks, vs.length = args.length ∧ (∀ i b, G i b → F b) ∧ (∀ i j b, i ≠ j → G i b → ¬ G j b) ∧ ∀ (i : Nat) x v, args[i]? = some x → vs[i]? = some v → ArgSim w A (G i) x v

def retVal : List Value → Value
  | [v] => v
  | vs => .tuple vs.toArray

/-- What may be read as shared behind a call. -/
def behind (w : World) (A F F' : Blks) (w' : World) : Blks := fun b => (A b ∨ F b ∨ w.heap.size ≤ b) ∧ b < w'.heap.size ∧ ¬ F' b

/-- A CONTRACT: whatever the arguments are in memory, the call comes back with results R; nothing else has turned. -/
def Fn (P : Program) (f : FuncId) (args : List Arg) (R : List Arg → List (Nat × Arg) → Prop) : Prop :=
  ∀ (w : World) (A F : Blks) (vs : List Value), Base w A F → ArgsSim w A F args vs → Calls P f vs.toArray w fun e w' =>
    ∃ res rvs back F', e = .returned (retVal rvs) ∧ R res back ∧ Frame F w w' ∧ (∀ b, F' b → (F b ∨ w.heap.size ≤ b) ∧ b < w'.heap.size) ∧ (∀ p ∈ back, p.1 < vs.length) ∧ rvs.length = res.length ∧
      ArgsSim w' (behind w A F F' w') F' (res ++ back.map (·.2)) (rvs ++ back.map fun p => vs.getD p.1 undef)

/-- The same, with results that are known, and nothing lent. -/
def FnP (P : Program) (f : FuncId) (args res : List Arg) : Prop := Fn P f args fun r b => r = res ∧ b = []

mutual
def Arg.av : Arg → AV
  | .c x => .c x
  | .row xs => .row xs
  | .fn f caps => .fn f (argAVs caps)
  | .pts xs => .pts xs
def argAVs : List Arg → List AV
  | [] => []
  | a :: as => a.av :: argAVs as
end
mutual
def Arg.plain : Arg → Bool
  | .c x => x.plain
  | .row xs => xs.all Cell.plain
  | .fn _ caps => plainArgs caps
  | .pts xs => xs.all Cell.plain
def plainArgs : List Arg → Bool
  | [] => true
  | a :: as => a.plain && plainArgs as
end
theorem argAVs_get : ∀ (l : List Arg) (i : Nat), (argAVs l)[i]? = (l[i]?).map Arg.av
  | [], i => by simp [argAVs]
  | a :: l, 0 => by simp [argAVs]
  | a :: l, i + 1 => by simp [argAVs, argAVs_get l i]
theorem plainArgs_get : ∀ {l : List Arg} {i : Nat} {x : Arg}, plainArgs l = true → l[i]? = some x → x.plain = true
  | [], _, _, _, h => by simp at h
  | a :: l, 0, x, hp, h => by simp at h; subst h; simp only [plainArgs, Bool.and_eq_true] at hp; exact hp.1
  | a :: l, i + 1, x, hp, h => by simp only [plainArgs, Bool.and_eq_true] at hp; exact plainArgs_get hp.2 (by simpa using h)

theorem argSim_av {w : World} {A F : Blks} {x : Arg} {v : Value} (h : ArgSim w A F x v) {A' : Blks} (hA : ∀ b, A b → A' b) (hv : Nat → Value) (obj : Nat → Option Obj) : x.plain = true → AVSim w A' hv obj x.av v := by
  induction h with
  | c ho => intro hp; exact .c ((ho.of_plain hp).mono hA (fun _ f => f))
  | row hs hG hd hh => intro hp; exact .row hs fun i x v h1 h2 => ((hh i x v h1 h2).of_plain (List.all_eq_true.1 hp x (List.mem_of_getElem? h1))).mono hA (fun _ f => f)
  | pts hb hAb hs hh => intro hp; exact .pts hb (hA _ hAb) hs fun i x v h1 h2 => ((hh i x v h1 h2).of_plain (List.all_eq_true.1 hp x (List.mem_of_getElem? h1))).mono hA (fun _ f => f)
  | fn hs hh ih =>
    intro hp
    refine .fn (by have : ∀ l : List Arg, (argAVs l).length = l.length := fun l => by induction l <;> simp [argAVs, *]
                   rw [this]; exact hs) fun i x v h1 h2 => ?_
    rw [argAVs_get] at h1
    obtain ⟨y, hy, rfl⟩ := Option.map_eq_some_iff.1 h1
    exact ih i y v hy h2 (plainArgs_get hp hy)

theorem argAV_ids : ∀ (x : Arg), x.av.ids = []
  | .c x => by simp [Arg.av, AV.ids]
  | .row xs => by simp [Arg.av, AV.ids]
  | .fn f caps => by simp only [Arg.av, AV.ids]; exact go caps
  | .pts xs => by simp [Arg.av, AV.ids]
where go : ∀ (l : List Arg), idsL (argAVs l) = []
  | [] => rfl
  | a :: l => by simp only [argAVs, idsL, argAV_ids a, go l, List.append_nil]

/-- The state at the beginning: the arguments in their slots. -/
def startSt (args : List Arg) : St := ⟨fun x => (args[x]?).map Arg.av, fun _ => none, fun i => Nat.ble 1000000 i⟩

/-- What a result variable holds. -/
inductive ResIs (P : Program) (st : St) : ResultVar → AV → Prop
  | tmp {t : Nat} {av : AV} (h : st.env t = some av) : ResIs P st (.tmp t) av
  | cell {t : Nat} {ty : TypeId} {id m : Nat} {xs : List AV} (h : st.env t = some (.bx id 0)) (ho : st.obj id = some (.box xs)) (ha : ∀ w, (isAgg ty).run P w = .ok true w)
      (hz : ∀ w, (Go.sizeOf ty).run P w = .ok m w) (hm : xs.length = m) : ResIs P st (.cell t ty) (.agg xs)

/-- A value handed back, with the owned slices that go with it. -/
inductive Clo : AV → Arg → Objs → Prop
  | c {x : Cell} : Clo (.c x) (.c x) []
  | nilc {o : Bool} {k : Nat} : Clo (.c (.lit (.slice none 0 0))) (.c (.sl o k [])) []
  | ref {id k : Nat} {rows : List (List Cell)} : Clo (.ref id []) (.c (.sl true k rows)) [(id, k, rows)]
  | row {xs : List Cell} : Clo (.row xs) (.row xs) []
  | agg {ys : List AV} {cs : List Cell} {os : Objs} (h : Absorb ys cs os) : Clo (.agg ys) (.row cs) os

theorem clo_own {pn : Nat → Option Value} {w0 w : World} {A0 F0 : Blks} {hv : Nat → Value} {T : Nat → Blks} {st : St} {a : Act} (hT : StSim n pn w0 A0 F0 hv T st a w) {av : AV} {x : Arg} {os : Objs} {v : Value}
    (h : Clo av x os) (hobj : ∀ p ∈ os, st.obj p.1 = some (.arr p.2.1 p.2.2)) (hs : AVSim w (Sh A0 F0 w0 T st.obj w) hv st.obj av v) :
    ArgSim w (Sh A0 F0 w0 T st.obj w) (fun b => ∃ p ∈ os, T p.1 b) x v := by
  cases h with
  | c => cases hs with | c ho => exact .c (ho.mono (fun _ h => h) (fun _ f => f.elim))
  | nilc => cases hs with | c ho => cases ho; exact .c (.nil _ _)
  | @ref id k rows =>
    have ho := hobj (id, k, rows) (by simp)
    cases hs with
    | ref _ hg hh =>
      simp only [Hdr] at hh; subst hh
      exact .c (Own.mono (hT.heap id _ ho) (fun _ h => h) (fun b hb => ⟨(id, k, rows), by simp, hb⟩))
  | row => cases hs with | row hs hh => exact .row (G := fun _ => noBlk) hs (fun _ _ f => f.elim) (fun _ _ _ _ f => f.elim) hh
  | agg habs =>
    cases hs with
    | @agg _ vs hsz hh =>
      obtain ⟨G, g1, g2, g3⟩ := absorb_own hT habs hobj (us := vs.toList) (by simpa using hsz) (fun i y u h1 h2 => hh i y u h1 (by simpa using h2))
      exact .row (G := G) (by rw [habs.length]; exact hsz) g1 g2 fun i x v h1 h2 => g3 i x v h1 (by simpa using h2)

/-- The end of a function: its results. -/
inductive Closes (P : Program) (st : St) : List ResultVar → List Arg → Objs → Prop
  | nil : Closes P st [] [] []
  | cons {rv : ResultVar} {av : AV} {x : Arg} {os : Objs} {rvs : List ResultVar} {xs : List Arg} {os' : Objs} (hr : ResIs P st rv av) (hl : ∀ i ∈ av.ids, (st.obj i).isSome = true) (hc : Clo av x os)
      (ho : ∀ p ∈ os, st.obj p.1 = some (.arr p.2.1 p.2.2)) (hd : ∀ p ∈ os, ∀ q ∈ os', p.1 ≠ q.1) (t : Closes P st rvs xs os') : Closes P st (rv :: rvs) (x :: xs) (os ++ os')

def Fin (P : Program) (rvs : List ResultVar) (R : List Arg → Prop) : Exit → St → Prop
  | .normal, st => ∃ res os, Closes P st rvs res os ∧ R res
  | .ret, st => ∃ res os, Closes P st rvs res os ∧ R res
  | _, _ => False

def resOne (tmps : Array Value) : ResultVar → Sem Value
  | .tmp t => pure (tmps.getD t undef)
  | .cell a t => do loadVar t (← asAddr (tmps.getD a undef))
theorem results_eq (fn : Func) (tmps : Array Value) : results fn tmps = (do let vs ← fn.results.mapM (resOne tmps); pure (if h : vs.size = 1 then vs[0] else .tuple vs)) := by
  unfold results
  congr 1

theorem closes_sim {pn : Nat → Option Value} {w0 w : World} {A0 F0 : Blks} {hv : Nat → Value} {T : Nat → Blks} {st : St} {a : Act} (hT : StSim n pn w0 A0 F0 hv T st a w) {rvs : List ResultVar} {res : List Arg} {os : Objs}
    (h : Closes P st rvs res os) : ∃ vs : List Value, (∀ p ∈ os, st.obj p.1 = some (.arr p.2.1 p.2.2)) ∧
      (rvs.mapM (resOne a.tmps)).run P w = Result.ok vs w ∧
      ArgsSim w (Sh A0 F0 w0 T st.obj w) (fun b => ∃ p ∈ os, T p.1 b) res vs := by
  induction h with
  | nil => exact ⟨[], by simp, by simp, fun _ => noBlk, rfl, fun _ _ f => f.elim, fun _ _ _ _ f => f.elim, fun i x v h => by simp at h⟩
  | @cons rv av x os rvs xs os' hr hl hc ho hd t ih =>
    obtain ⟨vs, i1, i2, G, i3, i4, i5, i6⟩ := ih
    have hval : ∃ v, (resOne a.tmps rv).run P w = Result.ok v w ∧ AVSim w (Sh A0 F0 w0 T st.obj w) hv st.obj av v := by
      cases hr with
      | @tmp t av h =>
        obtain ⟨v, h1, h2⟩ := hT.env t av h hl
        exact ⟨v, by simp [resOne, h1], h2⟩
      | @cell t ty id m xs' h hobj ha hz hm =>
        obtain ⟨v, h1, h2⟩ := hT.env t _ h (fun i hi => by simp [AV.ids] at hi; subst hi; simp [hobj])
        obtain ⟨b, hb, rfl⟩ := h2.bx_inv hobj
        obtain ⟨b', c, e, g1, g2, g3, g4, g5⟩ := hT.heap id _ hobj
        rw [hb] at g1; cases g1
        have hcells := run_loadCells_list (P := P) w ⟨b, 0, none⟩ c.toList (fun j u hj => by rw [Addr.add_lit]; simp [World.cell?, g2]; simpa using hj)
        refine ⟨.agg c, ?_, .agg g3 fun i y u hy hu => g5 i y u hy hu (fun id hid => hl id (mem_idsL hy hid))⟩
        have hcl : c.toList.length = m := by simp; omega
        rw [hcl] at hcells
        simp [resOne, h1, asAddr, loadVar, ha w, hz w, hcells]
    obtain ⟨v, hv1, hv2⟩ := hval
    have hx := clo_own hT hc ho hv2
    refine ⟨v :: vs, ?_, ?_, fun i => match i with | 0 => (fun b => ∃ p ∈ os, T p.1 b) | i + 1 => (fun b => G i b ∧ ∃ p ∈ os', T p.1 b), by simp [i3], ?_, ?_, ?_⟩
    · intro p hp
      rcases List.mem_append.1 hp with hp | hp
      · exact ho p hp
      · exact i1 p hp
    · rw [List.mapM_cons, Sem.run_bind, hv1, Result.andThen_ok, Sem.run_bind, i2, Result.andThen_ok, Sem.run_pure]
    · intro i b hb
      cases i with
      | zero => obtain ⟨p, hp, h⟩ := hb; exact ⟨p, List.mem_append_left _ hp, h⟩
      | succ i => obtain ⟨_, p, hp, h⟩ := hb; exact ⟨p, List.mem_append_right _ hp, h⟩
    · have sep : ∀ b, (∃ p ∈ os, T p.1 b) → (∃ p ∈ os', T p.1 b) → False := by
        rintro b ⟨p, hp, h1⟩ ⟨q, hq, h2⟩
        exact hT.dis p.1 q.1 (hd p hp q hq) (by simp [ho p hp]) (by simp [i1 q hq]) b h1 h2
      intro i j b hij hi hj
      cases i with
      | zero => cases j with | zero => exact hij rfl | succ j => exact sep b hi hj.2
      | succ i => cases j with | zero => exact sep b hj hi.2 | succ j => exact i5 i j b (fun e => hij (by rw [e])) hi.1 hj.1
    · intro i y u hy hu
      cases i with
      | zero => simp at hy hu; subst hy hu; exact hx
      | succ i =>
        have h6 := i6 i y u (by simpa using hy) (by simpa using hu)
        have hGe : (fun b => G i b ∧ ∃ p ∈ os', T p.1 b) = G i := by
          funext b; exact propext ⟨fun h => h.1, fun h => ⟨h, i4 i b h⟩⟩
        show ArgSim w _ (fun b => G i b ∧ ∃ p ∈ os', T p.1 b) y u
        rw [hGe]; exact h6

theorem ArgSim.mono {w : World} {A F : Blks} {x : Arg} {v : Value} (h : ArgSim w A F x v) : ∀ {A' F' : Blks}, (∀ b, A b → A' b) → (∀ b, F b → F' b) → ArgSim w A' F' x v := by
  induction h with
  | c ho => exact fun hA hF => .c (ho.mono hA hF)
  | row hs hG hd hh => exact fun hA hF => .row hs (fun i b hb => hF b (hG i b hb)) hd fun i x v h1 h2 => (hh i x v h1 h2).mono hA (fun _ h => h)
  | fn hs hh ih => exact fun hA hF => .fn hs fun i x v h1 h2 => ih i x v h1 h2 hA (fun _ f => f)
  | pts hb hAb hs hh => exact fun hA hF => .pts hb (hA _ hAb) hs fun i x v h1 h2 => (hh i x v h1 h2).mono hA (fun _ f => f)

/-- FROM THE BODY TO THE CONTRACT, where all arguments are only read. -/
theorem fn_intro {f : FuncId} {fn : Func} {c : Code} {rvs : List ResultVar} {args : List Arg} {R : List Arg → Prop} (hf : P.funcs[f]? = some fn) (hb : fn.body = some c) (hr : fn.results = rvs.toArray)
    (hn : fn.ntmps = n) (hl : args.length ≤ n) (hp : plainArgs args = true) (h : ACode P n c (startSt args) (Fin P rvs R)) : Fn P f args fun res back => R res ∧ back = [] := by
  intro w A F vs hB hargs
  obtain ⟨G, a1, a2, a3, a4⟩ := hargs
  refine calls_of_wp hf hb ?_
  have hS : Sim n (fun _ => none) w A F (startSt args) { tmps := vs.toArray ++ Array.replicate (fn.ntmps - vs.toArray.size) undef, defers := [] } w := by
    refine ⟨fun _ => undef, fun _ => noBlk, by simp; omega, rfl, .refl _ _, ?_, fun id o h => by simp [startSt] at h, fun id h => by simp [startSt] at h, fun i j _ h => by simp [startSt] at h, ?_, ?_, fun id h => by simp [startSt] at h,
      fun id v h => by simp at h, fun id xs h => by simp [startSt] at h, fun id v h => by simp at h⟩
    · intro x av hx _
      simp only [startSt] at hx
      obtain ⟨y, hy, rfl⟩ := Option.map_eq_some_iff.1 hx
      have hxl : x < args.length := (List.getElem?_eq_some_iff.1 hy).1
      have hxv : x < vs.length := by omega
      refine ⟨vs[x], ?_, argSim_av (a4 x y vs[x] hy (by simp [hxv])) (fun b hb => ⟨.inl hb, hB.a b hb, fun id h => by simp [startSt] at h⟩) _ _ (plainArgs_get hp hy)⟩
      rw [Array.getElem?_append_left (by simpa using hxv)]
      simp [hxv]
    · intro x av hx
      simp only [startSt] at hx
      obtain ⟨y, hy, rfl⟩ := Option.map_eq_some_iff.1 hx
      have hxl : x < args.length := (List.getElem?_eq_some_iff.1 hy).1
      omega
    · intro x av hx id hid
      simp only [startSt] at hx
      obtain ⟨y, hy, rfl⟩ := Option.map_eq_some_iff.1 hx
      rw [argAV_ids] at hid; cases hid
  refine wp_mono (h _ _ _ _ _ _ hB hS) ?_
  rintro e a' w' ⟨st', hq, hv, T, hT⟩
  have fin : (∃ res os, Closes P st' rvs res os ∧ R res) → a'.defers = [] ∧ ∃ v, (results fn a'.tmps).run P w' = .ok v w' ∧
      ∃ res rvs' back F', Ending.returned v = .returned (retVal rvs') ∧ (R res ∧ back = []) ∧ Frame F w w' ∧ (∀ b, F' b → (F b ∨ w.heap.size ≤ b) ∧ b < w'.heap.size) ∧ (∀ p ∈ back, p.1 < vs.length) ∧ rvs'.length = res.length ∧
        ArgsSim w' (behind w A F F' w') F' (res ++ back.map (·.2)) (rvs' ++ back.map fun (p : Nat × Arg) => vs.getD p.1 undef) := by
    rintro ⟨res, os, hcl, hR⟩
    obtain ⟨rv, c1, c2, c3⟩ := closes_sim hT hcl
    refine ⟨hT.defers, retVal rv, ?_, res, rv, [], (fun b => ∃ p ∈ os, T p.1 b), rfl, ⟨hR, rfl⟩, hT.frame, ?_, by simp, ?_, ?_⟩
    · rw [results_eq, hr, Array.mapM_eq_mapM_toList, map_eq_pure_bind, Sem.run_bind, Sem.run_bind, c2, Result.andThen_ok, Sem.run_pure, Result.andThen_ok, Sem.run_pure]
      congr 1
      match rv with
      | [] => rfl
      | [v] => rfl
      | v :: u :: l => simp [retVal]
    · rintro b ⟨p, hp, hTb⟩
      exact hT.own p.1 (by simp [c1 p hp]) b hTb
    · obtain ⟨_, h1, _⟩ := c3; exact h1
    · obtain ⟨G', h1, h2, h3, h4⟩ := c3
      simp only [List.map_nil, List.append_nil]
      refine ⟨G', h1, h2, h3, fun i x v hx hv => (h4 i x v hx hv).mono (fun b hb => ⟨hb.1, hb.2.1, ?_⟩) (fun _ h => h)⟩
      rintro ⟨p, hp, hTb⟩
      exact hb.2.2 p.1 (by simp [c1 p hp]) hTb
  cases e with
  | normal => exact fin hq
  | ret => exact fin hq
  | exit => exact hq.elim
  | goto => exact hq.elim
  | panic => exact hq.elim
  | outgrown => exact hq.elim
end
end Go.Am
