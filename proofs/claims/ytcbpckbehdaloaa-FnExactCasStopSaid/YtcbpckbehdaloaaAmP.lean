/- Helpers for scripts: continuations, states as lists, typed indexing. Own work; generic. -/
import Derived.Test.YtcbpckbehdaloaaAmT
set_option linter.unusedSimpArgs false
set_option linter.unusedVariables false
namespace Go.Am
open Go

section
variable {P : Program} {n : Nat} {st : St} {Q : Exit → St → Prop}

theorem kblk_normal {i : Nat} (h : Q .normal st) : Kblk i Q .normal st := h
theorem kblk_hit {i : Nat} (h : Q .normal st) : Kblk i Q (.exit i) st := by
  show (bif Nat.beq i i then Q .normal st else Q (.exit i) st)
  simpa using h
theorem kblk_miss {i j : Nat} (hj : Nat.beq j i = false) (h : Q (.exit j) st) : Kblk i Q (.exit j) st := by
  show (bif Nat.beq j i then Q .normal st else Q (.exit j) st)
  rw [hj]; exact h
theorem kblk_ret {i : Nat} (h : Q .ret st) : Kblk i Q .ret st := h
section
variable {S : Type} {inv : S → St} {I : S → Prop} {μ : S → Nat} {s : S}
theorem klg_exit {j : Nat} (h : Q (.exit j) st) : Klg n inv I μ s Q (.exit j) st := h
theorem klg_ret (h : Q .ret st) : Klg n inv I μ s Q .ret st := h
theorem klg_back (s' : S) (h1 : I s') (h2 : μ s' < μ s) (h3 : Le n st (inv s')) : Klg n inv I μ s Q .normal st := ⟨s', h1, h2, h3⟩
end
theorem fin_ret {rvs : List ResultVar} {R : List Arg → Prop} {res : List Arg} {os : Objs} (h : Closes P st rvs res os) (hR : R res) : Fin P rvs R .ret st := ⟨res, os, h, hR⟩
theorem fin_normal {rvs : List ResultVar} {R : List Arg → Prop} {res : List Arg} {os : Objs} (h : Closes P st rvs res os) (hR : R res) : Fin P rvs R .normal st := ⟨res, os, h, hR⟩

/-! ### States as lists -/

def idsE : List (Nat × AV) → List Nat
  | [] => []
  | p :: r => p.2.ids ++ idsE r
def idsO : List (Nat × Obj) → List Nat
  | [] => []
  | p :: r => p.1 :: (p.2.ids ++ idsO r)
def stU (env : List (Nat × AV)) (obj : List (Nat × Obj)) : St := stOf env obj (idsE env ++ idsO obj)

inductive Ents (n : Nat) (st : St) (τ : Nat → Nat) : List (Nat × AV) → Prop
  | nil : Ents n st τ []
  | cons {x : Nat} {av av' : AV} {r : List (Nat × AV)} (h : st.env x = some av') (e : av' = av.ren τ) (t : Ents n st τ r) : Ents n st τ ((x, av) :: r)
  | dead {x : Nat} {r : List (Nat × AV)} (h : x < n) (t : Ents n st τ r) : Ents n st τ ((x, .dead) :: r)
inductive Obls (st : St) (τ : Nat → Nat) : List (Nat × Obj) → Prop
  | nil : Obls st τ []
  | cons {id : Nat} {o o' : Obj} {r : List (Nat × Obj)} (h : st.obj (τ id) = some o') (e : o' = o.ren τ) (hb : Nat.blt id 1000000 = true ∨ τ id = id) (t : Obls st τ r) : Obls st τ ((id, o) :: r)

theorem any_of_mem {us l : List Nat} (h : ∀ i ∈ l, i ∈ us) : l.all (fun i => us.any (Nat.beq · i)) = true :=
  List.all_eq_true.2 fun i hi => List.any_eq_true.2 ⟨i, h i hi, by simp⟩

theorem le_stU (τ : Nat → Nat) {env : List (Nat × AV)} {obj : List (Nat × Obj)} (he : Ents n st τ env) (ho : Obls st τ obj) (hd : nodupB (obj.map fun p => τ p.1) = true) : Le n st (stU env obj) := by
  refine le_stOf τ ?_ ?_ hd
  · have : ∀ us, (∀ i ∈ idsE env, i ∈ us) → EnvLe n st τ us env := by
      intro us
      clear ho hd
      induction he with
      | nil => exact fun _ => .nil
      | cons h e t ih => exact fun hu => .cons (by rw [h, e]) (any_of_mem fun i hi => hu i (by simp [idsE, hi])) (ih fun i hi => hu i (by simp [idsE, hi]))
      | dead h t ih => exact fun hu => .dead h (ih fun i hi => hu i (by simp [idsE, hi]))
    exact this _ fun i hi => by simp [hi]
  · have : ∀ us, (∀ i ∈ idsO obj, i ∈ us) → ObjLe st τ us obj := by
      intro us
      clear he hd
      induction ho with
      | nil => exact fun _ => .nil
      | cons h e hb t ih => exact fun hu => .cons h e (any_of_mem fun i hi => hu i (by simp [idsO] at hi ⊢; rcases hi with h | h <;> simp [h])) hb (ih fun i hi => hu i (by simp [idsO, hi]))
    exact this _ fun i hi => by simp [hi]

/-- What stays as it is. -/
inductive Picks (st : St) : List Nat → List (Nat × AV) → Prop
  | nil : Picks st [] []
  | cons {x : Nat} {xs : List Nat} {av : AV} {r : List (Nat × AV)} (h : st.env x = some av) (t : Picks st xs r) : Picks st (x :: xs) ((x, av) :: r)
inductive PicksO (st : St) : List Nat → List (Nat × Obj) → Prop
  | nil : PicksO st [] []
  | cons {x : Nat} {xs : List Nat} {o : Obj} {r : List (Nat × Obj)} (h : st.obj x = some o) (t : PicksO st xs r) : PicksO st (x :: xs) ((x, o) :: r)

def idn : Nat → Nat := fun i => i
mutual
theorem ren_idn : ∀ (av : AV), av.ren idn = av
  | .agg xs => by simp only [AV.ren]; rw [renL_idn xs]
  | .tup xs => by simp only [AV.ren]; rw [renL_idn xs]
  | .fn f xs => by simp only [AV.ren]; rw [renL_idn xs]
  | .ref _ _ => rfl
  | .ptr _ _ _ _ _ => rfl
  | .bx _ _ => rfl
  | .dead => rfl
  | .c _ => rfl
  | .row _ => rfl
  | .pts _ => rfl
theorem renL_idn : ∀ (l : List AV), renL idn l = l
  | [] => rfl
  | x :: l => by rw [renL, ren_idn x, renL_idn l]
end
theorem renO_idn (o : Obj) : o.ren idn = o := by
  cases o with
  | box xs =>
    simp only [Obj.ren]; rw [renL_idn]
  | _ => rfl

/-- Slots and objects set anew, as they are. -/
inductive EntI (n : Nat) (st : St) : List (Nat × AV) → Prop
  | nil : EntI n st []
  | cons {x : Nat} {av av' : AV} {r : List (Nat × AV)} (h : st.env x = some av') (e : av' = av) (t : EntI n st r) : EntI n st ((x, av) :: r)
  | dead {x : Nat} {r : List (Nat × AV)} (h : x < n) (t : EntI n st r) : EntI n st ((x, .dead) :: r)
inductive ObI (st : St) : List (Nat × Obj) → Prop
  | nil : ObI st []
  | cons {id : Nat} {o o' : Obj} {r : List (Nat × Obj)} (h : st.obj id = some o') (e : o' = o) (t : ObI st r) : ObI st ((id, o) :: r)

theorem le_pick {ms L : List (Nat × AV)} {os O : List (Nat × Obj)} {xs ys : List Nat} (hm : EntI n st ms) (hom : ObI st os) (hL : Picks st xs L) (hO : PicksO st ys O) (hd : nodupB ((os ++ O).map (·.1)) = true) : Le n st (stU (ms ++ L) (os ++ O)) := by
  refine le_stU idn ?_ ?_ (by simpa [idn] using hd)
  · have h2 : Ents n st idn L := by
      clear hm hom hO hd
      induction hL with
      | nil => exact .nil
      | cons h t ih => exact .cons h (ren_idn _).symm ih
    clear hL hO hom hd
    induction hm with
    | nil => exact h2
    | cons h e t ih => exact .cons h (by rw [e, ren_idn]) ih
    | dead h t ih => exact .dead h ih
  · have h2 : Obls st idn O := by
      clear hm hom hL hd
      induction hO with
      | nil => exact .nil
      | cons h t ih => exact .cons h (renO_idn _).symm (.inr rfl) ih
    clear hL hO hm hd
    induction hom with
    | nil => exact h2
    | cons h e t ih => exact .cons h (by rw [e, renO_idn]) (.inr rfl) ih

/-- A loop: what turns is told, the rest is taken over. -/
theorem acode_loopk {S : Type} (ms : S → List (Nat × AV)) (os : S → List (Nat × Obj)) (I : S → Prop) (μ : S → Nat) (s0 : S) {xs ys : List Nat} {L : List (Nat × AV)} {O : List (Nat × Obj)} {c : Code}
    (hL : Picks st xs L) (hO : PicksO st ys O) (hm : EntI n st (ms s0)) (hom : ObI st (os s0)) (hd : nodupB ((os s0 ++ O).map (·.1)) = true) (hI : I s0)
    (round : ∀ s, I s → ACode P n c (stU (ms s ++ L) (os s ++ O)) (Klg n (fun s => stU (ms s ++ L) (os s ++ O)) I μ s Q)) : ACode P n (.loop c) st Q :=
  acode_loopg (fun s => stU (ms s ++ L) (os s ++ O)) I μ s0 hI (le_pick hm hom hL hO hd) round

/-- A place where ways meet: what is known there is told. -/
def Kmid (n : Nat) (mid : St) (Q : Exit → St → Prop) : Exit → St → Prop
  | .normal, st => Le n st mid
  | e, st => Q e st
theorem kmid_le {mid : St} (h : Le n st mid) : Kmid n mid Q .normal st := h
theorem kmid_exit {mid : St} {j : Nat} (h : Q (.exit j) st) : Kmid n mid Q (.exit j) st := h
theorem kmid_ret {mid : St} (h : Q .ret st) : Kmid n mid Q .ret st := h
theorem acode_mid {x y : Code} (mid : St) (h : ACode P n x st (Kmid n mid Q)) (k : ACode P n y mid Q) : ACode P n (.seq x y) st Q := by
  refine acode_seq ?_
  intro pn w0 A0 F0 a w hB hS
  refine wp_mono (h pn w0 A0 F0 a w hB hS) ?_
  rintro e a' w' ⟨st', hq, hS'⟩
  cases e with
  | normal => exact ⟨mid, k, hq _ _ _ _ _ _ hS'⟩
  | _ => exact ⟨st', hq, hS'⟩

/-- Less is kept. -/
theorem acode_pick {c : Code} {xs ys : List Nat} {L : List (Nat × AV)} {O : List (Nat × Obj)} (hL : Picks st xs L) (hO : PicksO st ys O) (hd : nodupB (O.map (·.1)) = true) (k : ACode P n c (stU L O) Q) : ACode P n c st Q :=
  acode_le (le_pick (ms := []) (os := []) .nil .nil hL hO hd) k

section
variable {d : Nat} {ty : TypeId} {pos : String} {after : Array Edge} {g : Option (Nat × Bool)} {t e : TypeId} {x y : Operand} {k : Nat} {α : Type} {f : α → List Cell} {l : List α} {i : Nat}

theorem op_index_shN (hu : P.underlying t = some (.slice e)) (hz : ∀ w, (Go.sizeOf e).run P w = .ok k w) (hn : d < n) (h : i < l.length) :
    OpL0 P n ⟨some d, .indexAddr t x y, ty, pos, after, g⟩ [.opd x (.c (.sl false k (l.map f))), .opd y (aInt (i : Int))] [.set d (.pts (f l[i]))] :=
  op_index_sh hu hz hn (by omega) (by simp [h])
theorem op_index_refN {id : Nat} (hu : P.underlying t = some (.slice e)) (hz : ∀ w, (Go.sizeOf e).run P w = .ok k w) (hn : d < n) (h : i < l.length) :
    OpL0 P n ⟨some d, .indexAddr t x y, ty, pos, after, g⟩ [.opd x (.ref id []), .opd y (aInt (i : Int)), .obj id (.arr k (l.map f))] [.set d (.ptr id [] k i 0)] := by
  have := op_index_ref (P := P) (n := n) (ty := ty) (pos := pos) (after := after) (g := g) (x := x) (y := y) (id := id) (p := []) (i := (i : Int)) (rows := l.map f) (k0 := k) hu hz hn rfl (by omega) (by simpa using h)
  simpa using this
theorem op_len_sh {o : Bool} (ht : P.underlying t = some (.slice e)) (hn : d < n) :
    OpL0 P n ⟨some d, .call ⟨.builtin .len, #[x], #[t]⟩, ty, pos, after, g⟩ [.opd x (.c (.sl o k (l.map f)))] [.set d (aInt (l.length : Int))] := by
  have := op_len (P := P) (n := n) (d := d) (ty := ty) (pos := pos) (after := after) (g := g) (x := x) (o := o) (k := k) (rows := l.map f) ht hn
  simpa using this
theorem op_len_refN {id : Nat} (ht : P.underlying t = some (.slice e)) (hn : d < n) :
    OpL0 P n ⟨some d, .call ⟨.builtin .len, #[x], #[t]⟩, ty, pos, after, g⟩ [.opd x (.ref id []), .obj id (.arr k (l.map f))] [.set d (aInt (l.length : Int))] := by
  have := op_len_ref (P := P) (n := n) (d := d) (ty := ty) (pos := pos) (after := after) (g := g) (x := x) (id := id) (k := k) (rows := l.map f) (p := []) ht hn rfl
  simpa using this
end

/-- A function, known results. -/
theorem fnp_intro {f : FuncId} {fn : Func} {c : Code} {rvs : List ResultVar} {args res : List Arg} (hf : P.funcs[f]? = some fn) (hb : fn.body = some c) (hr : fn.results = rvs.toArray)
    (hn : fn.ntmps = n) (hl : args.length ≤ n) (hp : plainArgs args = true) (h : ACode P n c (startSt args) (Fin P rvs (· = res))) : FnP P f args res :=
  fn_intro hf hb hr hn hl hp h
end
end Go.Am
