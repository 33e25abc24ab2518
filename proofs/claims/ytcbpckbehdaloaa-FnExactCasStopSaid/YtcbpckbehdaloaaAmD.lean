/- Regions: one operation's local triple; a region in its order, and in any order that its edges allow. Own work; generic. -/
import Derived.Test.YtcbpckbehdaloaaAmC
set_option linter.unusedSimpArgs false
set_option linter.unusedVariables false
namespace Go.Am
open Go

mutual
/-- Does it go through an object along a path (not the root)? -/
def AV.hasPath (id : Nat) : AV → Bool
  | .ref i (_ :: _) => Nat.beq i id
  | .ptr i (_ :: _) _ _ _ => Nat.beq i id
  | .agg xs => hasPathL id xs
  | .tup xs => hasPathL id xs
  | .fn _ xs => hasPathL id xs
  | .dead => false
  | .c _ => false
  | .row _ => false
  | .pts _ => false
  | .bx _ _ => false
  | .ref _ [] => false
  | .ptr _ [] _ _ _ => false
def hasPathL (id : Nat) : List AV → Bool
  | [] => false
  | x :: r => x.hasPath id || hasPathL id r
end

def Obj.ids : Obj → List Nat
  | .box xs => idsL xs
  | _ => []
def addU (u : Nat → Bool) (l : List Nat) : Nat → Bool := fun i => u i || l.any (Nat.beq · i)
theorem addU_true {u : Nat → Bool} {l : List Nat} {i : Nat} : addU u l i = true ↔ u i = true ∨ i ∈ l := by
  unfold addU
  simp only [Bool.or_eq_true, List.any_eq_true]
  constructor
  · rintro (h | ⟨x, hx, he⟩)
    · exact .inl h
    · exact .inr (Nat.eq_of_beq_eq_true he ▸ hx)
  · rintro (h | h)
    · exact .inl h
    · exact .inr ⟨i, h, by simp⟩
theorem addU_false {u : Nat → Bool} {l : List Nat} {i : Nat} : addU u l i = false ↔ u i = false ∧ i ∉ l := by
  rw [← Bool.not_eq_true, addU_true, not_or, Bool.not_eq_true]

inductive Upd where
  | set (x : Nat) (av : AV)
  | put (id : Nat) (o : Obj)
  | del (id : Nat)
  | kill (id : Nat)

def killAV (id : Nat) (av : AV) : AV := bif av.hasPath id then .dead else av
def Obj.killp (id : Nat) : Obj → Obj
  | .box xs => .box (xs.map (killAV id))
  | o => o

def Upd.app (st : St) : Upd → St
  | .set x av => ⟨upd st.env x (some av), st.obj, addU st.used av.ids⟩
  | .put id o => ⟨st.env, upd st.obj id (some o), addU st.used (id :: o.ids)⟩
  | .del id => ⟨st.env, upd st.obj id none, st.used⟩
  | .kill id => ⟨fun x => (st.env x).map (killAV id), fun i => (st.obj i).map (Obj.killp id), st.used⟩
def apps : List Upd → St → St
  | [], st => st
  | u :: us, st => apps us (u.app st)

/-- What a constant is. -/
def constAV : Value → AV
  | .agg vs => .row (vs.toList.map .lit)
  | v => .c (.lit v)
def opIs (st : St) : Operand → AV → Prop
  | .tmp t, av => st.env t = some av
  | .const v, av => av = constAV v
  | .func f, av => av = .fn f []
  | .global _, _ => False

inductive Req where
  | opd (x : Operand) (av : AV)
  | obj (id : Nat) (o : Obj)
  | fresh (id : Nat)
  | live (id : Nat)
def Req.sat (st : St) : Req → Prop
  | .opd x av => opIs st x av
  | .obj id o => st.obj id = some o
  | .fresh id => st.used id = false
  | .live id => (st.obj id).isSome = true

def Upd.slots : Upd → List Nat
  | .set x _ => [x]
  | _ => []
def Upd.objs : Upd → List Nat
  | .put id _ => [id]
  | .del id => [id]
  | _ => []
def Upd.ments : Upd → List Nat
  | .set _ av => av.ids
  | .put id o => id :: o.ids
  | _ => []
def Upd.noKill : Upd → Bool
  | .kill _ => false
  | _ => true
def Req.slots : Req → List Nat
  | .opd (.tmp x) _ => [x]
  | _ => []
def Req.objs : Req → List Nat
  | .obj id _ => [id]
  | .live id => [id]
  | _ => []
def Req.freshs : Req → List Nat
  | .fresh id => [id]
  | _ => []

structure Item where
  i : Nat
  rs : List Req
  us : List Upd

def apartL (l m : List Nat) : Bool := l.all fun x => m.all fun y => !Nat.beq x y
theorem apartL_spec {l m : List Nat} (h : apartL l m = true) {x : Nat} (hx : x ∈ l) : x ∉ m := by
  intro hy
  have := (List.all_eq_true.1 ((List.all_eq_true.1 h) x hx)) x hy
  simp at this

def compat (x y : Item) : Bool :=
  x.us.all Upd.noKill && y.us.all Upd.noKill &&
  apartL (x.us.flatMap Upd.slots) (y.rs.flatMap Req.slots) && apartL (x.us.flatMap Upd.slots) (y.us.flatMap Upd.slots) &&
  apartL (y.us.flatMap Upd.slots) (x.rs.flatMap Req.slots) &&
  apartL (x.us.flatMap Upd.objs) (y.rs.flatMap Req.objs) && apartL (x.us.flatMap Upd.objs) (y.us.flatMap Upd.objs) &&
  apartL (y.us.flatMap Upd.objs) (x.rs.flatMap Req.objs) && apartL (x.rs.flatMap Req.freshs) (y.us.flatMap Upd.ments)

theorem apps_append (us vs : List Upd) (st : St) : apps (us ++ vs) st = apps vs (apps us st) := by
  induction us generalizing st with
  | nil => rfl
  | cons u us ih => exact ih _

theorem app_env {u : Upd} (hk : u.noKill = true) {st : St} {x : Nat} (hx : x ∉ u.slots) : (u.app st).env x = st.env x := by
  cases u with
  | set y av => exact upd_ne _ _ (fun e => hx (by simp [Upd.slots, e]))
  | kill => cases hk
  | _ => rfl
theorem app_obj {u : Upd} (hk : u.noKill = true) {st : St} {x : Nat} (hx : x ∉ u.objs) : (u.app st).obj x = st.obj x := by
  cases u with
  | kill => cases hk
  | put y o => exact upd_ne _ _ (fun e => hx (by simp [Upd.objs, e]))
  | del y => exact upd_ne _ _ (fun e => hx (by simp [Upd.objs, e]))
  | _ => rfl
theorem app_used {u : Upd} {st : St} {i : Nat} : (u.app st).used i = true ↔ st.used i = true ∨ i ∈ u.ments := by
  cases u with
  | set y av => exact addU_true
  | put y o => exact addU_true
  | _ => simp [Upd.app, Upd.ments]

theorem apps_env {us : List Upd} (hk : us.all Upd.noKill = true) {st : St} {x : Nat} (hx : x ∉ us.flatMap Upd.slots) : (apps us st).env x = st.env x := by
  induction us generalizing st with
  | nil => rfl
  | cons u us ih =>
    simp only [List.all_cons, Bool.and_eq_true] at hk
    simp only [List.flatMap_cons, List.mem_append, not_or] at hx
    exact (ih hk.2 hx.2).trans (app_env hk.1 hx.1)
theorem apps_obj {us : List Upd} (hk : us.all Upd.noKill = true) {st : St} {x : Nat} (hx : x ∉ us.flatMap Upd.objs) : (apps us st).obj x = st.obj x := by
  induction us generalizing st with
  | nil => rfl
  | cons u us ih =>
    simp only [List.all_cons, Bool.and_eq_true] at hk
    simp only [List.flatMap_cons, List.mem_append, not_or] at hx
    exact (ih hk.2 hx.2).trans (app_obj hk.1 hx.1)
theorem apps_used {us : List Upd} {st : St} {i : Nat} : (apps us st).used i = true ↔ st.used i = true ∨ i ∈ us.flatMap Upd.ments := by
  induction us generalizing st with
  | nil => simp [apps]
  | cons u us ih =>
    show (apps us (u.app st)).used i = true ↔ _
    rw [ih, app_used]
    simp [List.flatMap_cons, or_assoc]

theorem app_comm {u v : Upd} (hu : u.noKill = true) (hv : v.noKill = true) (hs : ∀ x ∈ u.slots, x ∉ v.slots) (ho : ∀ x ∈ u.objs, x ∉ v.objs) (st : St) :
    v.app (u.app st) = u.app (v.app st) := by
  have hus : ∀ (f : Nat → Bool) (l m : List Nat), addU (addU f l) m = addU (addU f m) l := by
    intro f l m; funext i; unfold addU
    cases f i <;> cases l.any (Nat.beq · i) <;> cases m.any (Nat.beq · i) <;> rfl
  cases u with
  | kill => cases hu
  | set x a =>
    cases v with
    | kill => cases hv
    | set y b =>
      have hne : x ≠ y := fun e => hs x (by simp [Upd.slots]) (by simp [Upd.slots, e])
      simp only [Upd.app]; rw [upd_comm _ _ _ hne, hus]
    | put y b => simp only [Upd.app]; rw [hus]
    | del y => rfl
  | put x a =>
    cases v with
    | kill => cases hv
    | set y b => simp only [Upd.app]; rw [hus]
    | put y b =>
      have hne : x ≠ y := fun e => ho x (by simp [Upd.objs]) (by simp [Upd.objs, e])
      simp only [Upd.app]; rw [upd_comm _ _ _ hne, hus]
    | del y =>
      have hne : x ≠ y := fun e => ho x (by simp [Upd.objs]) (by simp [Upd.objs, e])
      simp only [Upd.app]; rw [upd_comm _ _ _ hne]
  | del x =>
    cases v with
    | kill => cases hv
    | set y b => rfl
    | put y b =>
      have hne : x ≠ y := fun e => ho x (by simp [Upd.objs]) (by simp [Upd.objs, e])
      simp only [Upd.app]; rw [upd_comm _ _ _ hne]
    | del y =>
      have hne : x ≠ y := fun e => ho x (by simp [Upd.objs]) (by simp [Upd.objs, e])
      simp only [Upd.app]; rw [upd_comm _ _ _ hne]

theorem app_apps_comm {u : Upd} (hu : u.noKill = true) : ∀ {vs : List Upd}, vs.all Upd.noKill = true → (∀ x ∈ u.slots, x ∉ vs.flatMap Upd.slots) → (∀ x ∈ u.objs, x ∉ vs.flatMap Upd.objs) →
    ∀ st, apps vs (u.app st) = u.app (apps vs st)
  | [], _, _, _, _ => rfl
  | v :: vs, hv, hs, ho, st => by
    simp only [List.all_cons, Bool.and_eq_true] at hv
    simp only [List.flatMap_cons, List.mem_append, not_or] at hs ho
    show apps vs (v.app (u.app st)) = u.app (apps vs (v.app st))
    rw [app_comm hu hv.1 (fun x hx => (hs x hx).1) (fun x hx => (ho x hx).1)]
    exact app_apps_comm hu hv.2 (fun x hx => (hs x hx).2) (fun x hx => (ho x hx).2) _

theorem apps_comm : ∀ {us vs : List Upd}, us.all Upd.noKill = true → vs.all Upd.noKill = true → (∀ x ∈ us.flatMap Upd.slots, x ∉ vs.flatMap Upd.slots) →
    (∀ x ∈ us.flatMap Upd.objs, x ∉ vs.flatMap Upd.objs) → ∀ st, apps vs (apps us st) = apps us (apps vs st)
  | [], _, _, _, _, _, _ => rfl
  | u :: us, vs, hu, hv, hs, ho, st => by
    simp only [List.all_cons, Bool.and_eq_true] at hu
    simp only [List.flatMap_cons, List.mem_append] at hs ho
    show apps vs (apps us (u.app st)) = apps us (u.app (apps vs st))
    rw [apps_comm hu.2 hv (fun x hx => hs x (.inr hx)) (fun x hx => ho x (.inr hx)), app_apps_comm hu.1 hv (fun x hx => hs x (.inl hx)) (fun x hx => ho x (.inl hx))]

section
variable {P : Program} {ops : Array Oper} {n : Nat}

/-- ONE OPERATION, LOCALLY: wherever what it asks holds, it turns the state so. -/
def OpL (P : Program) (ops : Array Oper) (n : Nat) (o : Oper) (rs : List Req) (us : List Upd) : Prop :=
  ∀ (pn : Nat → Option Value) (w0 : World) (A0 F0 : Blks) (st : St) (a : Act) (w : World), Base w0 A0 F0 → Sim n pn w0 A0 F0 st a w → (∀ r ∈ rs, r.sat st) →
    ∀ (K : Act → World → Prop) (Q : Exit → Act → World → Prop), (∀ a' w', Sim n pn w0 A0 F0 (apps us st) a' w' → K a' w') →
      if Region.wanted o (yielded ops a.tmps) then o.wp P a w K Q else K (a.put o.dst undef) w

def ChainI (P : Program) (ops : Array Oper) (n : Nat) : St → List Item → St → Prop
  | st, [], fin => st = fin
  | st, it :: rest, fin => (∃ o, ops[it.i]? = some o ∧ OpL P ops n o it.rs it.us) ∧ (∀ r ∈ it.rs, r.sat st) ∧ ChainI P ops n (apps it.us st) rest fin

theorem sat_of_apps {us : List Upd} (hk : us.all Upd.noKill = true) {st : St} {r : Req} (hs : ∀ x ∈ us.flatMap Upd.slots, x ∉ r.slots) (ho : ∀ x ∈ us.flatMap Upd.objs, x ∉ r.objs)
    (h : r.sat (apps us st)) : r.sat st := by
  cases r with
  | opd x av =>
    cases x with
    | tmp x => exact (apps_env (st := st) hk (fun hx => hs x hx (by simp [Req.slots]))).symm.trans h
    | const v => exact h
    | func f => exact h
    | global g => exact h
  | obj id o => exact (apps_obj (st := st) hk (fun hx => ho id hx (by simp [Req.objs]))).symm.trans h
  | live id =>
    have e := apps_obj (st := st) (x := id) (us := us) hk (fun hx => ho id hx (by simp [Req.objs]))
    simp only [Req.sat] at h ⊢
    rw [e] at h; exact h
  | fresh id =>
    simp only [Req.sat] at h ⊢
    cases hu : st.used id with
    | false => rfl
    | true => rw [apps_used.2 (.inl hu)] at h; cases h
theorem sat_apps {us : List Upd} (hk : us.all Upd.noKill = true) {st : St} {r : Req} (hs : ∀ x ∈ us.flatMap Upd.slots, x ∉ r.slots) (ho : ∀ x ∈ us.flatMap Upd.objs, x ∉ r.objs)
    (hf : ∀ x ∈ r.freshs, x ∉ us.flatMap Upd.ments) (h : r.sat st) : r.sat (apps us st) := by
  cases r with
  | opd x av =>
    cases x with
    | tmp x => exact (apps_env hk (fun hx => hs x hx (by simp [Req.slots]))).trans h
    | const v => exact h
    | func f => exact h
    | global g => exact h
  | obj id o => exact (apps_obj hk (fun hx => ho id hx (by simp [Req.objs]))).trans h
  | live id =>
    have e := apps_obj (st := st) (x := id) (us := us) hk (fun hx => ho id hx (by simp [Req.objs]))
    simp only [Req.sat] at h ⊢
    rw [e]; exact h
  | fresh id =>
    simp only [Req.sat] at h ⊢
    cases hu : (apps us st).used id with
    | false => rfl
    | true =>
      rcases apps_used.1 hu with h' | h'
      · rw [h] at h'; cases h'
      · exact absurd h' (hf id (by simp [Req.freshs]))

theorem chain_swap {st fin : St} {x y : Item} {rest : List Item} (hc : compat x y = true) (h : ChainI P ops n st (x :: y :: rest) fin) : ChainI P ops n st (y :: x :: rest) fin := by
  obtain ⟨hx, hsx, hy, hsy, hr⟩ := h
  simp only [compat, Bool.and_eq_true] at hc
  obtain ⟨⟨⟨⟨⟨⟨⟨⟨h1, h2⟩, h3⟩, h4⟩, h5⟩, h6⟩, h7⟩, h8⟩, h9⟩ := hc
  have mem : ∀ {f : Req → List Nat} {rs : List Req} {r : Req} {z : Nat}, r ∈ rs → z ∈ f r → z ∈ rs.flatMap f := fun hr hz => List.mem_flatMap.2 ⟨_, hr, hz⟩
  refine ⟨hy, fun r hr => ?_, hx, fun r hr => ?_, ?_⟩
  · exact sat_of_apps h1 (fun z hz hz' => apartL_spec h3 hz (mem hr hz')) (fun z hz hz' => apartL_spec h6 hz (mem hr hz')) (hsy r hr)
  · exact sat_apps h2 (fun z hz hz' => apartL_spec h5 hz (mem hr hz')) (fun z hz hz' => apartL_spec h8 hz (mem hr hz')) (fun z hz => apartL_spec h9 (mem hr hz)) (hsx r hr)
  · rw [← apps_comm h1 h2 (fun z hz => apartL_spec h4 hz) (fun z hz => apartL_spec h7 hz)]
    exact hr

theorem chain_front {y : Item} {post : List Item} {fin : St} : ∀ {pre : List Item} {st : St}, (∀ x ∈ pre, compat x y = true) → ChainI P ops n st (pre ++ y :: post) fin → ChainI P ops n st (y :: (pre ++ post)) fin
  | [], _, _, h => h
  | x :: pre, st, hc, h => by
    obtain ⟨hx, hsx, hr⟩ := h
    have := chain_front (fun z hz => hc z (by simp [hz])) hr
    exact chain_swap (hc x (by simp)) ⟨hx, hsx, this⟩

/-- x must come ahead of y. -/
def predsB (ops : Array Oper) : Nat → Nat → Nat → Bool
  | 0, _, _ => false
  | fuel + 1, y, x => match ops[y]? with
    | some o => o.after.toList.any fun e => Region.binds .any e && (Nat.beq e.on x || predsB ops fuel e.on x)
    | none => false

def indepB (ops : Array Oper) : List Item → Bool
  | [] => true
  | x :: rest => rest.all (fun y => predsB ops ops.size y.i x.i || compat x y) && indepB ops rest

def fwdB (ops : Array Oper) : Bool := (List.range ops.size).all fun i => match ops[i]? with
  | some o => o.after.toList.all fun e => Nat.blt e.on i
  | none => true

theorem predsB_listed {listed : Array Bool} (hcl : ∀ i o, ops[i]? = some o → listed.getD i false = true → ∀ e ∈ o.after, Region.binds .any e = true → listed.getD e.on false = true) :
    ∀ (fuel y x : Nat) (o : Oper), ops[y]? = some o → (∀ e ∈ o.after, Region.binds .any e = true → listed.getD e.on false = true) → predsB ops fuel y x = true → listed.getD x false = true
  | 0, _, _, _, _, _, h => by cases h
  | fuel + 1, y, x, o, ho, hd, h => by
    simp only [predsB, ho] at h
    obtain ⟨e, hm, he⟩ := List.any_eq_true.1 h
    simp only [Bool.and_eq_true, Bool.or_eq_true] at he
    obtain ⟨hb, he⟩ := he
    have hl := hd e (Array.mem_toList_iff.1 hm) hb
    rcases he with he | he
    · rw [← Nat.eq_of_beq_eq_true he]; exact hl
    · cases ho' : ops[e.on]? with
      | none => cases fuel <;> simp [predsB, ho'] at he
      | some o' => exact predsB_listed hcl fuel _ x o' ho' (hcl _ o' ho' hl) he

/-- The rest of a region. md: does the region draw its order? -/
def RG (P : Program) (ops : Array Oper) (n : Nat) (Q : Exit → St → Prop) (md : Bool) (i : Nat) (st : St) (acc : List Item) (rest : List Oper) : Prop :=
  match md with
  | false => rest = ops.toList.drop i → ∀ pn w0 A0 F0 a w, Base w0 A0 F0 → Sim n pn w0 A0 F0 st a w →
      wpOps P ops (fun e a w => ∃ st', Q e st' ∧ Sim n pn w0 A0 F0 st' a w) (List.range' i rest.length) a w
  | true => rest = ops.toList.drop i → ∃ more fin, more.map Item.i = List.range' i rest.length ∧ ChainI P ops n st more fin ∧ indepB ops (acc.reverse ++ more) = true ∧ Q .normal fin

theorem drop_cons {o : Oper} {rest : List Oper} {i : Nat} (h : o :: rest = ops.toList.drop i) : ops[i]? = some o ∧ rest = ops.toList.drop (i + 1) := by
  have h1 : ops.toList[i]? = some o := by
    have := congrArg (fun l : List Oper => l[0]?) h
    simpa using this.symm
  refine ⟨by simpa using h1, ?_⟩
  have := congrArg List.tail h
  simpa [List.tail_drop] using this

theorem rg_step {Q : Exit → St → Prop} {md : Bool} {i : Nat} {st : St} {acc : List Item} {o : Oper} {rest : List Oper} {rs : List Req} {us : List Upd}
    (h : OpL P ops n o rs us) (hs : ∀ r ∈ rs, r.sat st) (k : RG P ops n Q md (i + 1) (apps us st) (bif md then ⟨i, rs, us⟩ :: acc else []) rest) : RG P ops n Q md i st acc (o :: rest) := by
  cases md with
  | false =>
    intro hd pn w0 A0 F0 a w hB hS
    obtain ⟨ho, hr⟩ := drop_cons hd
    simp only [List.length_cons, List.range'_succ]
    rw [wpOps_cons]
    unfold wpOp
    rw [ho]
    have := h pn w0 A0 F0 st a w hB hS hs (wpOps P ops (fun e a w => ∃ st', Q e st' ∧ Sim n pn w0 A0 F0 st' a w) (List.range' (i + 1) rest.length))
      (fun e a w => ∃ st', Q e st' ∧ Sim n pn w0 A0 F0 st' a w) (fun a' w' h' => k hr pn w0 A0 F0 a' w' hB h')
    dsimp only
    split
    · rename_i hw; rw [if_pos hw] at this; exact .inl this
    · rename_i hw; rw [if_neg hw] at this; exact this
  | true =>
    intro hd
    obtain ⟨ho, hr⟩ := drop_cons hd
    obtain ⟨more, fin, h1, h2, h3, h4⟩ := k hr
    refine ⟨⟨i, rs, us⟩ :: more, fin, ?_, ⟨⟨o, ho, h⟩, hs, h2⟩, ?_, h4⟩
    · simp only [List.map_cons, List.length_cons, List.range'_succ, h1]
    · simpa using h3

theorem rg_nil_seq {Q : Exit → St → Prop} {i : Nat} {st : St} {acc : List Item} (h : Q .normal st) : RG P ops n Q false i st acc [] := by
  intro _ pn w0 A0 F0 a w hB hS
  exact ⟨st, h, hS⟩
theorem rg_nil_draw {Q : Exit → St → Prop} {i : Nat} {st : St} {acc : List Item} (hi : indepB ops acc.reverse = true) (h : Q .normal st) : RG P ops n Q true i st acc [] := by
  intro _
  exact ⟨[], st, rfl, rfl, by simpa using hi, h⟩

def Lift (n : Nat) (pn : Nat → Option Value) (w0 : World) (A0 F0 : Blks) (Q : Exit → St → Prop) : Exit → Act → World → Prop := fun e a w => ∃ st', Q e st' ∧ Sim n pn w0 A0 F0 st' a w

/-- CODE, ABSTRACTLY. -/
def ACode (P : Program) (n : Nat) (c : Code) (st : St) (Q : Exit → St → Prop) : Prop :=
  ∀ pn w0 A0 F0 a w, Base w0 A0 F0 → Sim n pn w0 A0 F0 st a w → c.wp P (Lift n pn w0 A0 F0 Q) a w

theorem acode_region {id : Nat} {l : List Oper} {st : St} {Q : Exit → St → Prop} (h : RG P l.toArray n Q false 0 st [] l) : ACode P n (.region id l.toArray false) st Q := by
  intro pn w0 A0 F0 a w hB hS
  have := h (by simp) pn w0 A0 F0 a w hB hS
  refine wp_region ?_
  rw [List.range_eq_range']
  simp only [List.size_toArray]
  exact this

theorem Sim.drew {pn : Nat → Option Value} {w0 : World} {A0 F0 : Blks} {st : St} {a : Act} {w : World} (h : Sim n pn w0 A0 F0 st a w) : Sim n pn w0 A0 F0 st a { w with drawn := w.drawn + 1 } := by
  obtain ⟨hv, T, h⟩ := h
  have fr : Frame F0 w { w with drawn := w.drawn + 1 } := ⟨fun _ _ _ => rfl, Nat.le_refl _, rfl, rfl⟩
  have own : ∀ {A F : Blks} {c : Cell} {v : Value}, Own w A F c v → Own { w with drawn := w.drawn + 1 } A F c v := fun ho => ho.frame fun _ _ => rfl
  have tr : Trade w0 A0 F0 hv hv T T st.obj st.obj (fun _ => False) w { w with drawn := w.drawn + 1 } :=
    ⟨fun _ hf => hf.elim, ⟨fun _ _ _ => rfl, Nat.le_refl _, rfl, rfl⟩, fun _ _ _ => ⟨rfl, rfl, rfl⟩, fun id hs hn => (hn.elim (fun f => f.elim) (fun e => by rw [e] at hs; cases hs))⟩
  refine ⟨hv, T, h.trade tr h.size h.defers ?_ ?_ h.slt h.uenv h.uobj h.pin h.ubox ?_ ?_⟩
  · intro i j _ hi; obtain ⟨hs, hn⟩ := hi; exact (hn.elim (fun f => f.elim) (fun e => by rw [e] at hs; cases hs))
  · intro id o hn ho; exact (hn.elim (fun f => f.elim) (fun e => by rw [e] at ho; cases ho))
  · intro id xs _ _ av _ hl; exact ⟨hl, fun v hav => h.keepAV tr hav fun _ _ f => f⟩
  · intro x av hx hl
    obtain ⟨v, h1, h2⟩ := h.env x av hx hl
    exact ⟨v, h1, h.keepAV tr h2 fun _ _ f => f⟩

theorem anyOrder {pn : Nat → Option Value} {w0 : World} {A0 F0 : Blks} {Q : Exit → St → Prop} {fin : St} (hB : Base w0 A0 F0) (hf : fwdB ops = true) (hQ : Q .normal fin) :
    ∀ (fuel : Nat) (listed : Array Bool) (items : List Item) (st : St) (a : Act) (w : World), items.length = fuel → listed.size = ops.size →
      (∀ i, i < ops.size → (listed.getD i true = false ↔ ∃ it ∈ items, it.i = i)) → (items.map Item.i).Pairwise (· < ·) →
      (∀ i o, ops[i]? = some o → listed.getD i false = true → ∀ e ∈ o.after, Region.binds .any e = true → listed.getD e.on false = true) →
      ChainI P ops n st items fin → indepB ops items = true → Sim n pn w0 A0 F0 st a w → wpAny P .any ops (Lift n pn w0 A0 F0 Q) fuel listed a w := by
  intro fuel
  induction fuel with
  | zero =>
    intro listed items st a w hl hsz hun _ _ hc _ hS
    obtain rfl : items = [] := List.length_eq_zero_iff.1 hl
    refine ⟨?_, fin, hQ, by have : st = fin := hc; exact this ▸ hS⟩
    cases hr : Region.ready .any ops listed with
    | nil => rfl
    | cons j r =>
      have hj : j ∈ Region.ready .any ops listed := by rw [hr]; simp
      obtain ⟨h0, o, ho, _⟩ := mem_ready.1 hj
      have hlt : j < ops.size := (Array.getElem?_eq_some_iff.1 ho).1
      obtain ⟨it, hit, _⟩ := (hun j hlt).1 h0
      cases hit
  | succ fuel ih =>
    intro listed items st a w hl hsz hun hpw hcl hc hi hS
    refine ⟨fun hnil => ?_, fun j hj => ?_⟩
    · exfalso
      cases items with
      | nil => simp at hl
      | cons it rest =>
        obtain ⟨⟨o, ho, _⟩, _⟩ := hc
        have hlt : it.i < ops.size := (Array.getElem?_eq_some_iff.1 ho).1
        have hmem : it.i ∈ Region.ready .any ops listed := by
          refine mem_ready.2 ⟨(hun it.i hlt).2 ⟨it, by simp, rfl⟩, o, ho, fun e he hb => ?_⟩
          have h1 := (List.all_eq_true.1 hf) it.i (List.mem_range.2 hlt)
          rw [ho] at h1
          obtain ⟨k, hk, rfl⟩ := Array.mem_iff_getElem.1 he
          have hlt' : o.after[k].on < it.i := by
            have h2 := (List.all_eq_true.1 h1) _ (Array.mem_toList_iff.2 (Array.getElem_mem hk))
            have h3 : o.after[k].on + 1 ≤ it.i := by simpa [Nat.blt] using h2
            exact h3
          have hon : o.after[k].on < listed.size := by omega
          have : ¬ (listed.getD (o.after[k].on) true = false) := by
            intro h0
            obtain ⟨it', hit', he'⟩ := (hun _ (by omega)).1 h0
            rcases List.mem_cons.1 hit' with rfl | hm
            · omega
            · have hp := (List.pairwise_cons.1 hpw).1 it'.i (List.mem_map.2 ⟨it', hm, rfl⟩)
              omega
          simp only [Array.getD_eq_getD_getElem?, Array.getElem?_eq_getElem hon, Option.getD_some, Bool.not_eq_false] at this ⊢
          exact this
        rw [hnil] at hmem; cases hmem
    · obtain ⟨h0, o, ho, hdeps⟩ := mem_ready.1 hj
      have hlt : j < ops.size := (Array.getElem?_eq_some_iff.1 ho).1
      obtain ⟨it, hit, rfl⟩ := (hun j hlt).1 h0
      obtain ⟨pre, post, rfl⟩ := List.append_of_mem hit
      have hcomp : ∀ x ∈ pre, compat x it = true := by
        intro x hx
        have hx' : predsB ops ops.size it.i x.i = true ∨ compat x it = true := by
          have : ∀ (pre : List Item), indepB ops (pre ++ it :: post) = true → ∀ x ∈ pre, (predsB ops ops.size it.i x.i || compat x it) = true := by
            intro pre
            induction pre with
            | nil => intro _ x hx; cases hx
            | cons y pre ih2 =>
              intro h x hx
              simp only [List.cons_append, indepB, Bool.and_eq_true] at h
              rcases List.mem_cons.1 hx with rfl | hx
              · exact (List.all_eq_true.1 h.1) it (by simp)
              · exact ih2 h.2 x hx
          simpa using this pre hi x hx
        rcases hx' with hx' | hx'
        · exfalso
          have hlst := predsB_listed hcl ops.size it.i x.i o ho hdeps hx'
          have hxlt : x.i < ops.size := by
            rcases Nat.lt_or_ge x.i listed.size with h' | h'
            · omega
            · simp [Array.getElem?_eq_none h'] at hlst
          have := (hun x.i hxlt).2 ⟨x, by simp [hx], rfl⟩
          have h' : x.i < listed.size := by omega
          simp [h'] at this hlst
          rw [this] at hlst; cases hlst
        · exact hx'
      obtain ⟨⟨o', ho', hop⟩, hsat, hch⟩ := chain_front hcomp hc
      obtain rfl : o = o' := by rw [ho] at ho'; exact Option.some.inj ho'
      unfold wpOp
      rw [ho]
      have key : ∀ a' w', Sim n pn w0 A0 F0 (apps it.us st) a' w' → wpAny P .any ops (Lift n pn w0 A0 F0 Q) fuel (listed.setIfInBounds it.i true) a' w' := by
        intro a' w' hS'
        refine ih (listed.setIfInBounds it.i true) (pre ++ post) (apps it.us st) a' w' (by simp at hl ⊢; omega) (by simpa using hsz) ?_ ?_ ?_ hch ?_ hS'
        · intro i hi'
          have hnd : ∀ x ∈ pre ++ post, x.i ≠ it.i := by
            intro x hx e
            simp only [List.map_append, List.map_cons] at hpw
            rcases List.mem_append.1 hx with hx | hx
            · have := (List.pairwise_append.1 hpw).2.2 x.i (List.mem_map.2 ⟨x, hx, rfl⟩) it.i (by simp)
              omega
            · have := (List.pairwise_cons.1 (List.pairwise_append.1 hpw).2.1).1 x.i (List.mem_map.2 ⟨x, hx, rfl⟩)
              omega
          by_cases hij : it.i = i
          · subst hij
            have h' : it.i < listed.size := by omega
            simp only [Array.getD_eq_getD_getElem?, Array.getElem?_setIfInBounds_self_of_lt h', Option.getD_some]
            constructor
            · intro h; cases h
            · rintro ⟨x, hx, e⟩; exact absurd e (hnd x hx)
          · rw [getD_set_ne true hij, hun i hi']
            constructor
            · rintro ⟨x, hx, rfl⟩
              simp only [List.mem_append, List.mem_cons] at hx
              rcases hx with hx | rfl | hx
              · exact ⟨x, by simp [hx], rfl⟩
              · exact absurd rfl hij
              · exact ⟨x, by simp [hx], rfl⟩
            · rintro ⟨x, hx, rfl⟩
              simp only [List.mem_append] at hx
              rcases hx with hx | hx
              · exact ⟨x, by simp [hx], rfl⟩
              · exact ⟨x, by simp [hx], rfl⟩
        · simp only [List.map_append, List.map_cons] at hpw ⊢
          have h1 := List.pairwise_append.1 hpw
          refine List.pairwise_append.2 ⟨h1.1, (List.pairwise_cons.1 h1.2.1).2, fun x hx y hy => h1.2.2 x hx y (by simp [hy])⟩
        · intro i o2 ho2 hl2 e he hb
          by_cases hij : it.i = i
          · subst hij
            obtain rfl : o = o2 := by rw [ho] at ho2; exact Option.some.inj ho2
            exact getD_set_true (hdeps e he hb)
          · rw [getD_set_ne false hij] at hl2
            exact getD_set_true (hcl i o2 ho2 hl2 e he hb)
        · have : ∀ (pre : List Item), indepB ops (pre ++ it :: post) = true → indepB ops (pre ++ post) = true := by
            intro pre
            induction pre with
            | nil => intro h; simp only [List.nil_append, indepB, Bool.and_eq_true] at h ⊢; exact h.2
            | cons y pre ih2 =>
              intro h
              simp only [List.cons_append, indepB, Bool.and_eq_true] at h ⊢
              refine ⟨?_, ih2 h.2⟩
              rw [List.all_eq_true] at h ⊢
              intro x hx
              exact h.1 x (by simp only [List.mem_append, List.mem_cons] at hx ⊢; rcases hx with hx | hx; exact .inl hx; exact .inr (.inr hx))
          exact this pre hi
      have := hop pn w0 A0 F0 st a w hB hS hsat _ (Lift n pn w0 A0 F0 Q) key
      dsimp only
      split
      · rename_i hw; rw [if_pos hw] at this; exact .inl this
      · rename_i hw; rw [if_neg hw] at this; exact this

theorem acode_region_draw {id : Nat} {l : List Oper} {st : St} {Q : Exit → St → Prop} (hm : P.follows .mixedOrders = true) (hf : fwdB l.toArray = true)
    (h : RG P l.toArray n Q true 0 st [] l) : ACode P n (.region id l.toArray true) st Q := by
  intro pn w0 A0 F0 a w hB hS
  obtain ⟨more, fin, h1, h2, h3, h4⟩ := h (by simp)
  have hlen : more.length = l.length := by
    have := congrArg List.length h1
    simpa using this
  have hmem : ∀ i, (∃ it ∈ more, it.i = i) ↔ i < l.length := by
    intro i
    have : (∃ it ∈ more, it.i = i) ↔ i ∈ more.map Item.i := by simp [List.mem_map]
    rw [this, h1]; simp [List.mem_range']
  refine wp_region_any hm (anyOrder hB hf h4 _ _ more st a _ (by simpa using hlen) (by simp) ?_ ?_ ?_ h2 (by simpa using h3) hS.drew)
  · intro i hi
    rw [hmem]
    simp only [List.size_toArray] at hi ⊢
    have : (Array.replicate l.length false).getD i true = false := by simp [hi]
    simp [this, hi]
  · rw [h1]; exact List.pairwise_lt_range'
  · intro i o ho hl
    exfalso
    by_cases h' : i < l.length <;> simp [h'] at hl
end
end Go.Am
