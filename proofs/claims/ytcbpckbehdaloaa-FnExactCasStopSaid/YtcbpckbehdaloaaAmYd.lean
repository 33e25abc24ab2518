/- Calls as operations; from the body to the contract, with lent arguments. Own work; generic. -/
import Derived.Test.YtcbpckbehdaloaaAmYc
import Derived.Test.YtcbpckbehdaloaaAmQ
set_option linter.unusedSimpArgs false
set_option linter.unusedVariables false
namespace Go.Am
open Go

section
variable {P : Program} {n : Nat} {d : Nat} {ty : TypeId} {pos : String} {after : Array Edge} {g : Option (Nat × Bool)} {tys : Array TypeId}

theorem sats_needsO {st : St} {os : Obs} (h : ∀ p ∈ os, st.obj p.1 = some p.2) : ∀ r ∈ needsO os, r.sat st := by
  intro r hr; obtain ⟨p, hp, rfl⟩ := List.mem_map.1 hr; exact h p hp
theorem sats_freshL {st : St} {l : List Nat} (h : l.all (fun i => !(st.used i)) = true) : ∀ r ∈ freshL l, r.sat st := by
  intro r hr; obtain ⟨i, hi, rfl⟩ := List.mem_map.1 hr
  have := List.all_eq_true.1 h i hi
  simpa [Req.sat] using this
theorem obs_nil {st : St} : ∀ p ∈ ([] : Obs), st.obj p.1 = some p.2 := fun p hp => by simp at hp
theorem obs_cons {st : St} {q : Nat × Obj} {os : Obs} (h : st.obj q.1 = some q.2) (t : ∀ p ∈ os, st.obj p.1 = some p.2) : ∀ p ∈ q :: os, st.obj p.1 = some p.2 := by
  intro p hp
  rcases List.mem_cons.1 hp with rfl | hp
  · exact h
  · exact t p hp

/-- A CALL of a function by its name. -/
theorem op_call2 {f : FuncId} {fn : Func} {c : Code} {xs : List Operand} {avs : List AV} {args res : List Arg} {back : List (Nat × Arg)} {ls ms rn nf : Obs} {ks : List Nat}
    (hf : P.funcs[f]? = some fn) (hname : (fn.name == "runtime.NumGoroutine") = false) (hb : fn.body = some c) (hF : FnB P f args res back) (hg : GivL avs args ls ms) (hl : xs.length = avs.length) (hsep : noCommon ls ms = true)
    (hsol : ls = [] ∨ (∀ x ∈ res, x.solid = true) ∧ ∀ p ∈ back, p.2.solid = true) (hbk : BkL avs (d + 600000) back rn nf) (hnd : nodupB ((asObs (openRes d res).2 ++ (rn ++ nf)).map (·.1)) = true)
    (hrn : rn.all (renewB ms ks) = true) (hn : d < n) :
    OpL0 P n ⟨some d, .call ⟨.value (.func f), xs.toArray, tys⟩, ty, pos, after, g⟩ (opds xs avs ++ (freshL ((asObs (openRes d res).2 ++ nf).map (·.1)) ++ needsO (ls ++ ms))) (callU d res ms rn nf ks) := by
  intro pn w0 A0 F0 st a w hB hS hs K Q hK
  obtain ⟨hv, T, hT⟩ := hS
  obtain ⟨ho, hrest⟩ := opds_of hl hs
  have hfr : ∀ p ∈ asObs (openRes d res).2 ++ nf, st.used p.1 = false := fun p hp => hrest (.fresh p.1) (List.mem_append_left _ (List.mem_map.2 ⟨p.1, List.mem_map.2 ⟨p, hp, rfl⟩, rfl⟩))
  have hobj : ∀ p ∈ ls ++ ms, st.obj p.1 = some p.2 := fun p hp => hrest (.obj p.1 p.2) (List.mem_append_right _ (List.mem_map.2 ⟨p, hp, rfl⟩))
  have hls : ∀ p ∈ ls, st.obj p.1 = some p.2 := fun p hp => hobj p (by simp [hp])
  have hms : ∀ p ∈ ms, st.obj p.1 = some p.2 := fun p hp => hobj p (by simp [hp])
  have hrun : (execOp a.eval ⟨some d, .call ⟨.value (.func f), xs.toArray, tys⟩, ty, pos, after, g⟩).run P w = .ok (.enter f (xs.map a.eval).toArray) w := by
    have := run_enter hf hname hb (xs.map a.eval).toArray w
    simp only [execOp, resolve, Act.eval, Deferred.ofValue, invoke, Sem.run_bind]
    simpa [Act.eval] using this
  refine call_core hT hF hg (by simpa using hl) ?_ hls hms hsep hsol hbk hnd hrn hfr hn rfl hrun hK
  intro i av v h1 h2
  rw [List.getElem?_map] at h2
  obtain ⟨x, hx, rfl⟩ := Option.map_eq_some_iff.1 h2
  refine hT.eval (ho.get hx h1) fun id hid => ?_
  rcases hg.ids id (mem_idsL h1 hid) with h | h
  · obtain ⟨p, hp, rfl⟩ := List.mem_map.1 h; simp [hls p hp]
  · obtain ⟨p, hp, rfl⟩ := List.mem_map.1 h; simp [hms p hp]

/-- A CALL of a function value. -/
theorem op_callv {t : Operand} {f : FuncId} {fn : Func} {c : Code} {xs : List Operand} {avs caps : List AV} {args res : List Arg} {back : List (Nat × Arg)} {ls ms rn nf : Obs} {ks : List Nat}
    (hf : P.funcs[f]? = some fn) (hname : (fn.name == "runtime.NumGoroutine") = false) (hb : fn.body = some c) (hF : FnB P f args res back) (hg : GivL (avs ++ caps) args ls ms) (hl : xs.length = avs.length) (hsep : noCommon ls ms = true)
    (hsol : ls = [] ∨ (∀ x ∈ res, x.solid = true) ∧ ∀ p ∈ back, p.2.solid = true) (hbk : BkL (avs ++ caps) (d + 600000) back rn nf) (hnd : nodupB ((asObs (openRes d res).2 ++ (rn ++ nf)).map (·.1)) = true)
    (hrn : rn.all (renewB ms ks) = true) (hn : d < n) :
    OpL0 P n ⟨some d, .call ⟨.value t, xs.toArray, tys⟩, ty, pos, after, g⟩ (.opd t (.fn f caps) :: (opds xs avs ++ (freshL ((asObs (openRes d res).2 ++ nf).map (·.1)) ++ needsO (ls ++ ms)))) (callU d res ms rn nf ks) := by
  intro pn w0 A0 F0 st a w hB hS hs K Q hK
  obtain ⟨hv, T, hT⟩ := hS
  have h0 : opIs st t (.fn f caps) := at0 hs
  obtain ⟨ho, hrest⟩ := opds_of hl (at_tail hs)
  have hfr : ∀ p ∈ asObs (openRes d res).2 ++ nf, st.used p.1 = false := fun p hp => hrest (.fresh p.1) (List.mem_append_left _ (List.mem_map.2 ⟨p.1, List.mem_map.2 ⟨p, hp, rfl⟩, rfl⟩))
  have hobj : ∀ p ∈ ls ++ ms, st.obj p.1 = some p.2 := fun p hp => hrest (.obj p.1 p.2) (List.mem_append_right _ (List.mem_map.2 ⟨p, hp, rfl⟩))
  have hls : ∀ p ∈ ls, st.obj p.1 = some p.2 := fun p hp => hobj p (by simp [hp])
  have hms : ∀ p ∈ ms, st.obj p.1 = some p.2 := fun p hp => hobj p (by simp [hp])
  have hlive : ∀ i ∈ idsL (avs ++ caps), (st.obj i).isSome = true := fun i hi => by
    rcases hg.ids i hi with h | h
    · obtain ⟨p, hp, rfl⟩ := List.mem_map.1 h; simp [hls p hp]
    · obtain ⟨p, hp, rfl⟩ := List.mem_map.1 h; simp [hms p hp]
  have app : ∀ (l m : List AV), idsL (l ++ m) = idsL l ++ idsL m := fun l m => by induction l with | nil => rfl | cons x l ih => simp [idsL, ih]
  have hf2 := hT.eval h0 (fun i hi => hlive i (by rw [app]; exact List.mem_append_right _ (by simpa [AV.ids] using hi)))
  generalize hft : a.eval t = vt at hf2
  cases hf2 with
  | @fn _ _ us hz hh =>
  have hrun : (execOp a.eval ⟨some d, .call ⟨.value t, xs.toArray, tys⟩, ty, pos, after, g⟩).run P w = .ok (.enter f (xs.map a.eval ++ us.toList).toArray) w := by
    have := run_enter hf hname hb (xs.map a.eval ++ us.toList).toArray w
    have e : (xs.map a.eval ++ us.toList).toArray = (xs.map a.eval).toArray ++ us := by simp
    rw [e] at this ⊢
    simp only [execOp, resolve, Sem.run_bind]
    rw [hft]
    simp only [Deferred.ofValue, Sem.run_pure, invoke]
    simpa using this
  refine call_core hT hF hg (by simp; omega) ?_ hls hms hsep hsol hbk hnd hrn hfr hn rfl hrun hK
  intro i av v h1 h2
  by_cases hi : i < avs.length
  · rw [List.getElem?_append_left hi] at h1
    rw [List.getElem?_append_left (by simp; omega), List.getElem?_map] at h2
    obtain ⟨x, hx, rfl⟩ := Option.map_eq_some_iff.1 h2
    exact hT.eval (ho.get hx h1) fun id hid => hlive id (by rw [app]; exact List.mem_append_left _ (mem_idsL h1 hid))
  · rw [List.getElem?_append_right (by omega)] at h1
    rw [List.getElem?_append_right (by simp; omega)] at h2
    exact hh (i - avs.length) av v h1 (by simp only [List.length_map, hl] at h2; simpa using h2)
end

/-! ### From the body to the contract -/

def parOpen (i : Nat) : Arg → AV × Obs
  | .c (.bx cs) => (.bx i 0, (i, .box (openRow (i + 10000) cs).1) :: asObs (openRow (i + 10000) cs).2)
  | .c (.sl true k rows) => (.ref i [], [(i, .arr k rows)])
  | .c x => (.c x, [])
  | .row xs => bif xs.all Cell.plain then (.row xs, []) else (.agg (openRow i xs).1, asObs (openRow i xs).2)
  | .fn f caps => (.fn f (argAVs caps), [])
  | .pts xs => (.pts xs, [])
def parOpens (i : Nat) : List Arg → List AV × Obs
  | [] => ([], [])
  | x :: xs => ((parOpen i x).1 :: (parOpens (i + 120000) xs).1, (parOpen i x).2 ++ (parOpens (i + 120000) xs).2)
/-- What may be given over as a parameter. -/
def Arg.par : Arg → Bool
  | .c _ => true
  | .row _ => true
  | .fn _ caps => plainArgs caps
  | .pts xs => xs.all Cell.plain
def bigIds (os : Obs) : Bool := os.all fun p => Nat.ble 1000000 p.1
def startSt2 (args : List Arg) : St := ⟨fun x => (parOpens 1000000 args).1[x]?, objOf (parOpens 1000000 args).2, fun i => Nat.ble 1000000 i⟩

section
variable {P : Program} {n : Nat}
variable {pn : Nat → Option Value} {w0 : World} {A0 F0 : Blks} {hv : Nat → Value} {T : Nat → Blks} {st st' : St} {a : Act} {w w' : World}

structure ParOk (w : World) (A F : Blks) (os : Obs) (ns : List NewO) : Prop where
  eq : ns.map NewO.at = os
  sub : ∀ m ∈ ns, ∀ b, m.S b → F b
  dis : ns.Pairwise fun p q => ∀ b, p.S b → ¬ q.S b
  ok : ∀ ns', (∀ m ∈ ns, m ∈ ns') → ∀ m ∈ ns, ObjOk w A ns' m
theorem ParOk.nil {A F : Blks} : ParOk w A F [] [] := ⟨rfl, fun m h => by simp at h, .nil, fun _ _ m h => by simp at h⟩
theorem ParOk.append {A F F1 F2 : Blks} {o1 o2 : Obs} {n1 n2 : List NewO} (h1 : ParOk w A F1 o1 n1) (h2 : ParOk w A F2 o2 n2) (hd : ∀ b, F1 b → ¬ F2 b) (g1 : ∀ b, F1 b → F b) (g2 : ∀ b, F2 b → F b) : ParOk w A F (o1 ++ o2) (n1 ++ n2) where
  eq := by rw [List.map_append, h1.eq, h2.eq]
  sub := fun m hm b hb => (List.mem_append.1 hm).elim (fun h => g1 b (h1.sub m h b hb)) (fun h => g2 b (h2.sub m h b hb))
  dis := List.pairwise_append.2 ⟨h1.dis, h2.dis, fun p hp q hq b hb hb' => hd b (h1.sub p hp b hb) (h2.sub q hq b hb')⟩
  ok := fun ns' hns m hm => (List.mem_append.1 hm).elim (fun h => h1.ok ns' (fun q hq => hns q (by simp [hq])) m h) (fun h => h2.ok ns' (fun q hq => hns q (by simp [hq])) m h)
theorem AtO.left {hv : Nat → Value} {obj : Nat → Option Obj} {n1 n2 : List NewO} (h : AtO hv obj (n1 ++ n2)) : AtO hv obj n1 := fun m hm => h m (by simp [hm])
theorem AtO.right {hv : Nat → Value} {obj : Nat → Option Obj} {n1 n2 : List NewO} (h : AtO hv obj (n1 ++ n2)) : AtO hv obj n2 := fun m hm => h m (by simp [hm])

theorem par_open {A F : Blks} {x : Arg} {v : Value} (i : Nat) (hp : x.par = true) (h : ArgSim w A F x v) : ∃ ns, ParOk w A F (parOpen i x).2 ns ∧ ∀ hv obj, AtO hv obj ns → AVSim w A hv obj (parOpen i x).1 v := by
  have toO : ∀ {F1 : Blks} {os : Objs} {ns : List New}, NewOk w A F1 os ns → ParOk w A F1 (asObs os) (ns.map New.toO) := by
    intro F1 os ns k
    refine ⟨by rw [← k.eq]; simp [asObs, New.toO, New.obj, NewO.at, Function.comp_def], fun m hm b hb => ?_, List.Pairwise.map _ (fun _ _ h => h) k.dis, fun ns' _ m hm => ?_⟩
    · obtain ⟨q, hq, rfl⟩ := List.mem_map.1 hm; exact (k.own q hq).2 b hb
    · obtain ⟨q, hq, rfl⟩ := List.mem_map.1 hm; exact (k.own q hq).1
  have atO : ∀ {ns : List New} {hv : Nat → Value} {obj : Nat → Option Obj}, AtO hv obj (ns.map New.toO) → At hv obj ns := fun h m hm => h m.toO (List.mem_map.2 ⟨m, hm, rfl⟩)
  cases h with
  | @c _ x v ho =>
    have plainC : x.plain = true → (parOpen i (.c x)) = (.c x, []) → ∃ ns, ParOk w A F (parOpen i (.c x)).2 ns ∧ ∀ hv obj, AtO hv obj ns → AVSim w A hv obj (parOpen i (.c x)).1 v := by
      intro h1 h2; rw [h2]; exact ⟨[], .nil, fun hv obj _ => .c (ho.of_plain h1)⟩
    cases x with
    | lit u => exact plainC rfl rfl
    | sl o k rows =>
      cases o with
      | false => exact plainC rfl rfl
      | true =>
        exact ⟨[⟨i, .arr k rows, v, F⟩], ⟨rfl, fun m hm b hb => by simp at hm; subst hm; exact hb, by simp, fun ns' _ m hm => by simp at hm; subst hm; exact ho⟩, fun hv obj ha => by
          obtain ⟨e1, e2⟩ := ha _ (List.mem_cons_self ..)
          exact .ref e2 (p := []) rfl e1.symm⟩
    | bx cs =>
      cases ho with
      | @bx _ _ b c e Gi hb hsz hF hG hGb hd hh =>
        obtain ⟨ns0, k1, k2⟩ := open_row (w := w) (A := A) cs (i + 10000) c.toList Gi (by simpa using hsz) (fun i j b hij => hd i j b hij) (fun i x v h1 h2 => hh i x v h1 (by simpa using h2))
        have k3 := toO k1
        refine ⟨⟨i, .box (openRow (i + 10000) cs).1, .pointer (some ⟨b, 0, none⟩), fun x => x = b⟩ :: ns0.map New.toO, ⟨?_, ?_, ?_, ?_⟩, ?_⟩
        · rw [List.map_cons, k3.eq]; rfl
        · intro m hm x hx
          rcases List.mem_cons.1 hm with rfl | hm
          · have hx' : x = b := hx
            rw [hx']; exact hF
          · obtain ⟨j, hj⟩ := k3.sub m hm x hx; exact hG j x hj
        · refine List.pairwise_cons.2 ⟨fun q hq x hx hx2 => ?_, k3.dis⟩
          have hx' : x = b := hx
          subst hx'
          obtain ⟨j, hj⟩ := k3.sub q hq x hx2
          exact hGb j hj
        · intro ns' hns m hm
          rcases List.mem_cons.1 hm with rfl | hm
          · refine ⟨b, c, e, rfl, hb, by rw [openRow_length]; exact hsz, rfl, fun j y u h1 h2 hv2 obj2 hat2 => k2 hv2 obj2 (fun m hm => ?_) j y u h1 (by simpa using h2)⟩
            exact hat2 m.toO (hns _ (List.mem_cons_of_mem _ (List.mem_map.2 ⟨m, hm, rfl⟩)))
          · exact k3.ok ns' (fun q hq => hns q (List.mem_cons_of_mem _ hq)) m hm
        · intro hv obj ha
          obtain ⟨e1, e2⟩ := ha _ (List.mem_cons_self ..)
          exact .bx e2 e1
  | @row _ xs vs G hs hG hd hh =>
    simp only [parOpen]
    cases hpl : xs.all Cell.plain with
    | true => exact ⟨[], .nil, fun hv obj _ => .row hs fun i x v h1 h2 => (hh i x v h1 h2).of_plain (List.all_eq_true.1 hpl x (List.mem_of_getElem? h1))⟩
    | false =>
      obtain ⟨ns, g1, g2⟩ := open_row xs i vs.toList G (by simpa using hs) hd (fun i x v h1 h2 => hh i x v h1 (by simpa using h2))
      have k3 := toO g1
      exact ⟨ns.map New.toO, ⟨k3.eq, fun m hm b hb => by obtain ⟨j, hj⟩ := k3.sub m hm b hb; exact hG j b hj, k3.dis, k3.ok⟩,
        fun hv obj ha => .agg (by rw [openRow_length]; exact hs) fun j y u h1 h2 => g2 hv obj (atO ha) j y u h1 (by simpa using h2)⟩
  | @fn _ f caps vs hs hh => exact ⟨[], .nil, fun hv obj _ => argSim_av (F := F) (.fn hs hh) (fun _ h => h) hv obj hp⟩
  | @pts _ xs b off c e fr hb hA hs hh => exact ⟨[], .nil, fun hv obj _ => .pts hb hA hs fun i x v h1 h2 => hh i x v h1 h2⟩

theorem parOpens_length : ∀ (i : Nat) (xs : List Arg), (parOpens i xs).1.length = xs.length
  | _, [] => rfl
  | i, x :: xs => by simp [parOpens, parOpens_length]

theorem par_opens {A : Blks} : ∀ (xs : List Arg) (i : Nat) (us : List Value) (G : Nat → Blks), (xs.all Arg.par = true) → us.length = xs.length → (∀ i j b, i ≠ j → G i b → ¬ G j b) →
    (∀ (i : Nat) x v, xs[i]? = some x → us[i]? = some v → ArgSim w A (G i) x v) →
    ∃ ns, ParOk w A (fun b => ∃ j, G j b) (parOpens i xs).2 ns ∧ ∀ hv obj, AtO hv obj ns → ∀ (j : Nat) y u, (parOpens i xs).1[j]? = some y → us[j]? = some u → AVSim w A hv obj y u
  | [], _, _, _, _, _, _, _ => ⟨[], .nil, fun _ _ _ j y u h => by simp [parOpens] at h⟩
  | x :: xs, i, [], _, _, hl, _, _ => by simp at hl
  | x :: xs, i, u :: us, G, hp, hl, hd, h => by
    simp only [List.all_cons, Bool.and_eq_true] at hp
    obtain ⟨n1, a1, a2⟩ := par_open i hp.1 (h 0 x u rfl rfl)
    obtain ⟨n2, b1, b2⟩ := par_opens xs (i + 120000) us (fun j => G (j + 1)) hp.2 (by simpa using hl) (fun i j b hij => hd _ _ b (by omega)) (fun i x v h1 h2 => h (i + 1) x v (by simpa using h1) (by simpa using h2))
    refine ⟨n1 ++ n2, a1.append b1 (fun b h1 ⟨j, h2⟩ => hd 0 (j + 1) b (by omega) h1 h2) (fun b hb => ⟨0, hb⟩) (fun b ⟨j, hb⟩ => ⟨j + 1, hb⟩), fun hv obj ha j y t h1 h2 => ?_⟩
    cases j with
    | zero => simp [parOpens] at h1 h2; subst h1 h2; exact a2 hv obj ha.left
    | succ j => exact b2 hv obj ha.right j y t (by simpa [parOpens] using h1) (by simpa using h2)

/-- What goes back to the caller of a value that was lent. -/
inductive BkE (st : St) : AV → Arg → Obs → Prop
  | sl {id k : Nat} {rows : List (List Cell)} (h : st.obj id = some (.arr k rows)) : BkE st (.ref id []) (.c (.sl true k rows)) [(id, .arr k rows)]
  | bx {id : Nat} {ys : List AV} {cs : List Cell} {os : Objs} (h : st.obj id = some (.box ys)) (ha : Abs st ys cs os) (hd : nodupB (id :: os.map (·.1)) = true) : BkE st (.bx id 0) (.c (.bx cs)) ((id, .box ys) :: asObs os)
  | aggNil : BkE st (.agg []) (.row []) []
  | aggRef {id k : Nat} {rows : List (List Cell)} {ys : List AV} {cs : List Cell} {os : Obs} (h : st.obj id = some (.arr k rows)) (t : BkE st (.agg ys) (.row cs) os) (hd : noCommon [(id, .arr k rows)] os = true) :
      BkE st (.agg (.ref id [] :: ys)) (.row (.sl true k rows :: cs)) ((id, .arr k rows) :: os)
  | aggC {x : Cell} {ys : List AV} {cs : List Cell} {os : Obs} (t : BkE st (.agg ys) (.row cs) os) : BkE st (.agg (.c x :: ys)) (.row (x :: cs)) os
inductive BkEL (st : St) (pars : List AV) : List (Nat × Arg) → Obs → Prop
  | nil : BkEL st pars [] []
  | cons {j : Nat} {av : AV} {x : Arg} {os os' : Obs} {bk : List (Nat × Arg)} (hx : pars[j]? = some av) (h : BkE st av x os) (t : BkEL st pars bk os') (hd : noCommon os os' = true) : BkEL st pars ((j, x) :: bk) (os ++ os')

def Fin2 (P : Program) (rvs : List ResultVar) (pars : List AV) (R : List Arg → List (Nat × Arg) → Prop) : Exit → St → Prop
  | .normal, st => ∃ res os bk ob, Closes P st rvs res os ∧ BkEL st pars bk ob ∧ noCommon (asObs os) ob = true ∧ R res bk
  | .ret, st => ∃ res os bk ob, Closes P st rvs res os ∧ BkEL st pars bk ob ∧ noCommon (asObs os) ob = true ∧ R res bk
  | _, _ => False

theorem BkE.objs {av : AV} {x : Arg} {os : Obs} (h : BkE st av x os) : ∀ p ∈ os, st.obj p.1 = some p.2 := by
  induction h with
  | sl h => intro p hp; simp at hp; subst hp; exact h
  | bx h ha hd =>
    intro p hp
    rcases List.mem_cons.1 hp with rfl | hp
    · exact h
    · obtain ⟨q, hq, rfl⟩ := List.mem_map.1 hp; exact ha.obj q hq
  | aggNil => intro p hp; simp at hp
  | aggRef h t hd ih =>
    intro p hp
    rcases List.mem_cons.1 hp with rfl | hp
    · exact h
    · exact ih p hp
  | aggC t ih => exact ih
theorem BkEL.objs {pars : List AV} {bk : List (Nat × Arg)} {os : Obs} (h : BkEL st pars bk os) : ∀ p ∈ os, st.obj p.1 = some p.2 := by
  induction h with
  | nil => intro p hp; simp at hp
  | cons hx h t hd ih => intro p hp; exact (List.mem_append.1 hp).elim (h.objs p) (ih p)

/-- hv0, obj0: how it was at the beginning. -/
theorem bke_sim {hv0 : Nat → Value} {obj0 : Nat → Option Obj} (hT : StSim n pn w0 A0 F0 hv T st a w) (hB : Base w0 A0 F0) (hpn : ∀ id, (obj0 id).isSome = true → pn id = some (hv0 id)) {av : AV} {x : Arg} {os : Obs} (h : BkE st av x os) : ∀ {v : Value},
    AVSim w0 A0 hv0 obj0 av v → ArgSim w (Sh A0 F0 w0 T st.obj w) (ofs T os) x v := by
  have pinned : ∀ {id : Nat} {o o0 : Obj}, st.obj id = some o → obj0 id = some o0 → hv id = hv0 id := fun h h0 => (hT.pin _ _ (hpn _ (by simp [h0]))).2 (by simp [h])
  induction h with
  | @sl id k rows h =>
    intro v ha
    cases ha with
    | ref ho hg hh =>
      simp only [Hdr] at hh
      rw [hh, ← pinned h ho]
      exact .c (Own.mono (hT.heap id _ h) (fun _ h => h) (fun b hb => ⟨_, List.mem_cons_self .., hb⟩))
  | @bx id ys cs os h ha hd =>
    intro v hav
    have hvv : v = hv id := by
      cases hav with
      | bx ho hh => rw [pinned h ho]; exact hh.symm
      | mp ho hh => rw [pinned h ho]; exact hh.symm
    obtain ⟨b, c, e, g1, g2, g3, g4, g5⟩ := hT.heap id _ h
    have hnd := nodupB_spec hd
    simp only [List.nodup_cons] at hnd
    have hos : nodupB (os.map (·.1)) = true := by
      have := hd
      simp only [nodupB, Bool.and_eq_true] at this
      exact this.2
    obtain ⟨G, k1, k2, k3⟩ := absorb_own hT (ha.absorb hos) ha.obj (us := c.toList) (by simpa using g3) (fun i y u h1 h2 => g5 i y u h1 (by simpa using h2) (fun j hj => ha.ids j (mem_idsL h1 hj)))
    rw [hvv, g1]
    refine .c (.bx g2 (by rw [(ha.absorb hos).length]; exact g3) ⟨_, List.mem_cons_self .., g4⟩ (fun i x hx => ?_) (fun i hx => ?_) (fun i j x hij => k2 i j x hij) (fun i x v h1 h2 => k3 i x v h1 (by simpa using h2)))
    · obtain ⟨p, hp, hx⟩ := k1 i x hx
      exact ⟨(p.1, .arr p.2.1 p.2.2), List.mem_cons_of_mem _ (List.mem_map.2 ⟨p, hp, rfl⟩), hx⟩
    · obtain ⟨p, hp, hx⟩ := k1 i b hx
      exact hT.dis id p.1 (fun e => hnd.1 (List.mem_map.2 ⟨p, hp, e.symm⟩)) (by simp [h]) (by simp [ha.obj p hp]) b g4 hx
  | aggNil =>
    intro v ha
    cases ha with
    | agg hz hh => exact .row (G := fun _ => noBlk) hz (fun _ _ f => f.elim) (fun _ _ _ _ f => f.elim) fun i x v h1 h2 => by simp at h1
  | @aggRef id k rows ys cs os h t hd ih =>
    intro v ha
    cases ha with
    | @agg _ us hz hh =>
      have hus : ∃ u us', us = (u :: us').toArray := by
        have : us.size = ys.length + 1 := by simpa using hz
        cases h : us.toList with
        | nil => have h2 : us.toList.length = 0 := by rw [h]; rfl
                 rw [Array.length_toList] at h2; omega
        | cons u us' => exact ⟨u, us', by rw [← h]⟩
      obtain ⟨u, us', rfl⟩ := hus
      have i2 := ih (v := .agg us'.toArray) (.agg (by simpa using hz) fun i y u h1 h2 => hh (i + 1) y u (by simpa using h1) (by simpa using h2))
      have h0 := hh 0 (.ref id []) u rfl (by simp)
      have hu : u = hv id := by cases h0 with | ref ho hg hhd => simp only [Hdr] at hhd; rw [hhd, pinned h ho]
      have ow := hT.heap id _ h
      simp only [ObjSim] at ow
      cases i2 with
      | @row _ _ _ G hz2 hG hd2 hh2 =>
        refine .row (G := fun i => match i with | 0 => T id | i + 1 => G i) (by simp at hz2 ⊢; exact hz2) (fun i b hb => ?_) (fun i j b hij h1 h2 => ?_) fun i z t h1 h2 => ?_
        · cases i with
          | zero => exact ⟨_, List.mem_cons_self .., hb⟩
          | succ i => obtain ⟨p, hp, hx⟩ := hG i b hb; exact ⟨p, List.mem_cons_of_mem _ hp, hx⟩
        · have sep : ∀ j, T id b → ¬ G j b := fun j h3 h4 => by
            obtain ⟨p, hp, hx⟩ := hG j b h4
            exact hT.dis id p.1 (noCommon_spec hd (List.mem_cons_self ..) hp) (by simp [h]) (by simp [t.objs p hp]) b h3 hx
          cases i with
          | zero => cases j with
            | zero => exact hij rfl
            | succ j => exact sep j h1 h2
          | succ i => cases j with
            | zero => exact sep i h2 h1
            | succ j => exact hd2 i j b (fun e => hij (by rw [e])) h1 h2
        · cases i with
          | zero => simp at h1 h2; subst h1 h2; rw [hu]; exact ow
          | succ i => exact hh2 i z t (by simpa using h1) (by simpa using h2)
  | @aggC x ys cs os t ih =>
    intro v ha
    cases ha with
    | @agg _ us hz hh =>
      have hus : ∃ u us', us = (u :: us').toArray := by
        have : us.size = ys.length + 1 := by simpa using hz
        cases h : us.toList with
        | nil => have h2 : us.toList.length = 0 := by rw [h]; rfl
                 rw [Array.length_toList] at h2; omega
        | cons u us' => exact ⟨u, us', by rw [← h]⟩
      obtain ⟨u, us', rfl⟩ := hus
      have i2 := ih (v := .agg us'.toArray) (.agg (by simpa using hz) fun i y u h1 h2 => hh (i + 1) y u (by simpa using h1) (by simpa using h2))
      have h0 := hh 0 (.c x) u rfl (by simp)
      cases h0 with
      | c h0 =>
        have hx : Own w (Sh A0 F0 w0 T st.obj w) noBlk x u := (h0.frame fun b hb => hb.elim (fun hb => hT.frame.heap b (hB.a b hb) (hB.af b hb)) (fun f => f.elim)).mono (fun b hb => ⟨.inl hb, Nat.lt_of_lt_of_le (hB.a b hb) hT.frame.size, fun id hid hTb => by
          rcases (hT.own id hid b hTb).1 with h | h
          · exact hB.af b hb h
          · have := hB.a b hb; omega⟩) (fun _ f => f)
        cases i2 with
        | @row _ _ _ G hz2 hG hd2 hh2 =>
          refine .row (G := fun i => match i with | 0 => noBlk | i + 1 => G i) (by simp at hz2 ⊢; exact hz2) (fun i b hb => ?_) (fun i j b hij h1 h2 => ?_) fun i z t h1 h2 => ?_
          · cases i with
            | zero => exact hb.elim
            | succ i => exact hG i b hb
          · cases i with
            | zero => exact h1
            | succ i => cases j with
              | zero => exact h2
              | succ j => exact hd2 i j b (fun e => hij (by rw [e])) h1 h2
          · cases i with
            | zero => simp at h1 h2; subst h1 h2; exact hx
            | succ i => exact hh2 i z t (by simpa using h1) (by simpa using h2)

theorem bkel_sim {hv0 : Nat → Value} {obj0 : Nat → Option Obj} (hT : StSim n pn w0 A0 F0 hv T st a w) (hB : Base w0 A0 F0) (hpn : ∀ id, (obj0 id).isSome = true → pn id = some (hv0 id)) {pars : List AV} {bk : List (Nat × Arg)} {os : Obs} {vs : List Value}
    (hpars : ∀ (j : Nat) y u, pars[j]? = some y → vs[j]? = some u → AVSim w0 A0 hv0 obj0 y u) (hl : vs.length = pars.length) (h : BkEL st pars bk os) :
    (∀ p ∈ bk, p.1 < vs.length) ∧ ∃ G : Nat → Blks, (∀ i b, G i b → ofs T os b) ∧ (∀ i j b, i ≠ j → G i b → ¬ G j b) ∧ ∀ (q : Nat) p, bk[q]? = some p → ArgSim w (Sh A0 F0 w0 T st.obj w) (G q) p.2 (vs.getD p.1 undef) := by
  induction h with
  | nil => exact ⟨fun p hp => by simp at hp, fun _ => noBlk, fun _ _ f => f.elim, fun _ _ _ _ f => f.elim, fun q p h => by simp at h⟩
  | @cons j av x os os' bk hx h t hd ih =>
    obtain ⟨i1, G, i2, i3, i4⟩ := ih
    have hjl : j < vs.length := by rw [hl]; exact (List.getElem?_eq_some_iff.1 hx).1
    have h0 := bke_sim hT hB hpn h (hpars j av vs[j] hx (by simp [hjl]))
    have e : vs.getD j undef = vs[j] := by simp [List.getD_eq_getElem?_getD, hjl]
    refine ⟨fun p hp => ?_, fun i => match i with | 0 => ofs T os | i + 1 => G i, fun i b hb => ?_, fun i j b hij h1 h2 => ?_, fun q p hq => ?_⟩
    · rcases List.mem_cons.1 hp with rfl | hp
      · exact hjl
      · exact i1 p hp
    · cases i with
      | zero => exact ofs_l hb
      | succ i => exact ofs_r (i2 i b hb)
    · cases i with
      | zero => cases j with
        | zero => exact hij rfl
        | succ j => exact ofs_sep hT hd h.objs t.objs h1 (i2 j b h2)
      | succ i => cases j with
        | zero => exact ofs_sep hT hd h.objs t.objs h2 (i2 i b h1)
        | succ j => exact i3 i j b (fun e => hij (by rw [e])) h1 h2
    · cases q with
      | zero => simp at hq; subst hq; simp only [e]; exact h0
      | succ q => exact i4 q p (by simpa using hq)

/-- FROM THE BODY TO THE CONTRACT. -/
theorem fn_intro2 {f : FuncId} {fn : Func} {c : Code} {rvs : List ResultVar} {args : List Arg} {R : List Arg → List (Nat × Arg) → Prop} (hf : P.funcs[f]? = some fn) (hb : fn.body = some c) (hr : fn.results = rvs.toArray)
    (hn : fn.ntmps = n) (hl : args.length ≤ n) (hp : args.all Arg.par = true) (hnd : nodupB ((parOpens 1000000 args).2.map (·.1)) = true) (hbig : bigIds (parOpens 1000000 args).2 = true)
    (hbx : (parOpens 1000000 args).2.all (fun p => p.2.ids.all (Nat.ble 1000000)) = true) (hev : (parOpens 1000000 args).1.all (fun av => av.ids.all (Nat.ble 1000000)) = true)
    (h : ACode P n c (startSt2 args) (Fin2 P rvs (parOpens 1000000 args).1 R)) : Fn P f args R := by
  intro w A F vs hB hargs
  obtain ⟨G, a1, a2, a3, a4⟩ := hargs
  refine calls_of_wp hf hb ?_
  obtain ⟨ns, p1, p2⟩ := par_opens (w := w) (A := A) args 1000000 vs G hp a1 a3 a4
  have hids : ns.map NewO.id = (parOpens 1000000 args).2.map (·.1) := by rw [← p1.eq]; simp [NewO.at, Function.comp_def]
  have hndp : (ns.map NewO.id).Nodup := by rw [hids]; exact nodupB_spec hnd
  let hv0 : Nat → Value := newAtO NewO.v (fun _ => undef) ns
  let T0 : Nat → Blks := newAtO NewO.S (fun _ => noBlk) ns
  have hvn : ∀ m ∈ ns, hv0 m.id = m.v := newAtO_new hndp
  have hTn : ∀ m ∈ ns, T0 m.id = m.S := newAtO_new hndp
  let obj0 : Nat → Option Obj := objOf (parOpens 1000000 args).2
  have hobjn : ∀ m ∈ ns, obj0 m.id = some m.o := by
    intro m hm
    have hmem : m.at ∈ (parOpens 1000000 args).2 := by rw [← p1.eq]; exact List.mem_map.2 ⟨m, hm, rfl⟩
    have key : ∀ (l : Obs), (l.map (·.1)).Nodup → ∀ p ∈ l, objOf l p.1 = some p.2 := by
      intro l
      induction l with
      | nil => intro _ p hp; simp at hp
      | cons q l ih =>
        intro hnd p hp
        obtain ⟨y, v⟩ := q
        simp only [List.map_cons, List.nodup_cons] at hnd
        simp only [objOf]
        rcases List.mem_cons.1 hp with rfl | hp
        · simp
        · have hne : Nat.beq y p.1 = false := by
            cases hb : Nat.beq y p.1 with
            | false => rfl
            | true => exact absurd (List.mem_map.2 ⟨p, hp, (Nat.eq_of_beq_eq_true hb).symm⟩) hnd.1
          rw [hne]; exact ih hnd.2 p hp
    exact key _ (nodupB_spec hnd) m.at hmem
  have hmemn : ∀ id o, obj0 id = some o → ∃ m ∈ ns, m.id = id ∧ m.o = o := by
    intro id o ho
    have := objOf_mem ho
    rw [← p1.eq] at this
    obtain ⟨m, hm, e⟩ := List.mem_map.1 this
    simp only [NewO.at, Prod.mk.injEq] at e
    exact ⟨m, hm, e.1, e.2⟩
  have hAt : AtO hv0 obj0 ns := fun m hm => ⟨hvn m hm, hobjn m hm⟩
  let pn0 : Nat → Option Value := fun id => (obj0 id).map fun _ => hv0 id
  have hpn : ∀ id, (obj0 id).isSome = true → pn0 id = some (hv0 id) := by
    intro id hid
    simp only [pn0]
    cases h : obj0 id with
    | none => rw [h] at hid; cases hid
    | some o => rfl
  have big : ∀ id, (obj0 id).isSome = true → Nat.ble 1000000 id = true := by
    intro id hid
    cases h : obj0 id with
    | none => rw [h] at hid; cases hid
    | some o => exact List.all_eq_true.1 hbig _ (objOf_mem h)
  have hSF : ∀ m ∈ ns, ∀ b, m.S b → F b := fun m hm b hb => by obtain ⟨j, hj⟩ := p1.sub m hm b hb; exact a2 j b hj
  have hSh : ∀ b, A b → Sh A F w T0 obj0 w b := fun b hb => ⟨.inl hb, hB.a b hb, fun id hid hTb => by
    cases ho : obj0 id with
    | none => rw [ho] at hid; cases hid
    | some o =>
      obtain ⟨m, hm, rfl, _⟩ := hmemn id o ho
      rw [hTn m hm] at hTb
      exact hB.af b hb (hSF m hm b hTb)⟩
  have hvl : vs.length = (parOpens 1000000 args).1.length := by rw [parOpens_length]; exact a1
  have hS : Sim n pn0 w A F (startSt2 args) { tmps := vs.toArray ++ Array.replicate (fn.ntmps - vs.toArray.size) undef, defers := [] } w := by
    refine ⟨hv0, T0, by simp; omega, rfl, .refl _ _, ?_, ?_, ?_, ?_, ?_, ?_, fun id hid => big id hid, ?_, ?_, ?_⟩
    · intro x av hx _
      have hxl : x < vs.length := by rw [hvl]; exact (List.getElem?_eq_some_iff.1 hx).1
      refine ⟨vs[x], ?_, (p2 hv0 obj0 hAt x av vs[x] hx (by simp [hxl])).mono hSh⟩
      rw [Array.getElem?_append_left (by simpa using hxl)]
      simp [hxl]
    · intro id o ho
      obtain ⟨m, hm, rfl, rfl⟩ := hmemn id o ho
      have hk := p1.ok ns (fun _ h => h) m hm
      rw [hTn m hm]
      unfold ObjOk at hk
      cases hmo : m.o with
      | arr k rows =>
        simp only [hmo] at hk
        simp only [ObjSim]
        rw [hvn m hm]
        exact hk.mono hSh (fun _ h => h)
      | box xs =>
        simp only [hmo] at hk
        obtain ⟨b, c, e, k1, k2, k3, k4, k5⟩ := hk
        simp only [ObjSim]
        rw [hvn m hm]
        exact ⟨b, c, e, k1, k2, k3, k4, fun i x v h1 h2 _ => (k5 i x v h1 h2 _ _ hAt).mono hSh⟩
      | mp => simp only [hmo] at hk
    · intro id hid b hTb
      cases ho : (startSt2 args).obj id with
      | none => rw [ho] at hid; cases hid
      | some o =>
        obtain ⟨m, hm, rfl, _⟩ := hmemn id o ho
        rw [hTn m hm] at hTb
        have hF := hSF m hm b hTb
        exact ⟨.inl hF, hB.f b hF⟩
    · intro i j hij hi hj b h1 h2
      cases ho : (startSt2 args).obj i with
      | none => rw [ho] at hi; cases hi
      | some o =>
        cases ho2 : (startSt2 args).obj j with
        | none => rw [ho2] at hj; cases hj
        | some o2 =>
          obtain ⟨p, hp, rfl, _⟩ := hmemn i o ho
          obtain ⟨q, hq, rfl, _⟩ := hmemn j o2 ho2
          rw [hTn p hp] at h1; rw [hTn q hq] at h2
          have sym : ∀ (l : List NewO), (l.Pairwise fun p q => ∀ b, p.S b → ¬ q.S b) → ∀ p ∈ l, ∀ q ∈ l, p.id ≠ q.id → ∀ b, p.S b → ¬ q.S b := by
            intro l
            induction l with
            | nil => intro _ p hp; simp at hp
            | cons x l ih =>
              intro hl p hp q hq hne b h1 h2
              obtain ⟨c1, c2⟩ := List.pairwise_cons.1 hl
              rcases List.mem_cons.1 hp with rfl | hp'
              · rcases List.mem_cons.1 hq with rfl | hq'
                · exact hne rfl
                · exact c1 q hq' b h1 h2
              · rcases List.mem_cons.1 hq with rfl | hq'
                · exact c1 p hp' b h2 h1
                · exact ih c2 p hp' q hq' hne b h1 h2
          exact sym ns p1.dis p hp q hq hij b h1 h2
    · intro x av hx
      have : x < (parOpens 1000000 args).1.length := (List.getElem?_eq_some_iff.1 hx).1
      rw [parOpens_length] at this; omega
    · intro x av hx id hid
      exact List.all_eq_true.1 (List.all_eq_true.1 hev av (List.mem_of_getElem? hx)) id hid
    · intro id v hp
      cases ho : obj0 id with
      | none => simp [pn0, ho] at hp
      | some o => simp [pn0, ho] at hp; exact ⟨big id (by simp [ho]), fun _ => hp⟩
    · intro id xs hx j hj
      exact List.all_eq_true.1 (List.all_eq_true.1 hbx _ (objOf_mem hx)) j hj
    · intro id v hp
      cases ho : obj0 id with
      | none => simp [pn0, ho] at hp
      | some o => exact Nat.le_of_ble_eq_true (big id (by simp [ho]))
  refine wp_mono (h _ _ _ _ _ _ hB hS) ?_
  rintro e a' w' ⟨st', hq, hv, T, hT⟩
  have fin : (∃ res os bk ob, Closes P st' rvs res os ∧ BkEL st' (parOpens 1000000 args).1 bk ob ∧ noCommon (asObs os) ob = true ∧ R res bk) → a'.defers = [] ∧ ∃ v, (results fn a'.tmps).run P w' = .ok v w' ∧
      ∃ res rvs' back F', Ending.returned v = .returned (retVal rvs') ∧ R res back ∧ Frame F w w' ∧ (∀ b, F' b → (F b ∨ w.heap.size ≤ b) ∧ b < w'.heap.size) ∧ (∀ p ∈ back, p.1 < vs.length) ∧ rvs'.length = res.length ∧
        ArgsSim w' (behind w A F F' w') F' (res ++ back.map (·.2)) (rvs' ++ back.map fun (p : Nat × Arg) => vs.getD p.1 undef) := by
    rintro ⟨res, os, bk, ob, hc, hbk, hsep, hR⟩
    obtain ⟨us, c1, c2, G1, c3, c4, c5, c6⟩ := closes_sim hT hc
    have c1' : ∀ p ∈ asObs os, st'.obj p.1 = some p.2 := fun p hp => by obtain ⟨q, hq, rfl⟩ := List.mem_map.1 hp; exact c1 q hq
    obtain ⟨d1, G2, d2, d3, d4⟩ := bkel_sim hT hB hpn (vs := vs) (fun j y u h1 h2 => p2 hv0 obj0 hAt j y u h1 h2) hvl hbk
    have e1 : ∀ b, (∃ p ∈ os, T p.1 b) → ofs T (asObs os) b := fun b ⟨p, hp, h⟩ => ⟨(p.1, .arr p.2.1 p.2.2), List.mem_map.2 ⟨p, hp, rfl⟩, h⟩
    let F' : Blks := fun b => ofs T (asObs os) b ∨ ofs T ob b
    have hF' : ∀ b, F' b → (F b ∨ w.heap.size ≤ b) ∧ b < w'.heap.size := by
      rintro b (⟨p, hp, h⟩ | ⟨p, hp, h⟩)
      · exact hT.own p.1 (by simp [c1' p hp]) b h
      · exact hT.own p.1 (by simp [hbk.objs p hp]) b h
    have hlen : us.length = res.length := c3
    refine ⟨hT.defers, retVal us, ?_, res, us, bk, F', rfl, hR, hT.frame, hF', d1, hlen, fun i => if i < res.length then G1 i else G2 (i - res.length), by simp [hlen], ?_, ?_, ?_⟩
    · rw [results_eq, hr, Array.mapM_eq_mapM_toList, map_eq_pure_bind, Sem.run_bind, Sem.run_bind, c2, Result.andThen_ok, Sem.run_pure, Result.andThen_ok, Sem.run_pure]
      congr 1
      match us with
      | [] => rfl
      | [v] => rfl
      | v :: u :: l => simp [retVal]
    · intro i b hb
      by_cases hi : i < res.length
      · simp only [hi, if_true] at hb; exact .inl (e1 b (c4 i b hb))
      · simp only [hi, if_false] at hb; exact .inr (d2 _ b hb)
    · intro i j b hij h1 h2
      have sep : ∀ b, ofs T (asObs os) b → ¬ ofs T ob b := fun b h1 h2 => ofs_sep hT hsep c1' hbk.objs h1 h2
      by_cases hi : i < res.length <;> by_cases hj : j < res.length
      · simp only [hi, hj, if_true] at h1 h2; exact c5 i j b hij h1 h2
      · simp only [hi, hj, if_true, if_false] at h1 h2; exact sep b (e1 b (c4 i b h1)) (d2 _ b h2)
      · simp only [hi, hj, if_true, if_false] at h1 h2; exact sep b (e1 b (c4 j b h2)) (d2 _ b h1)
      · simp only [hi, hj, if_false] at h1 h2; exact d3 _ _ b (by omega) h1 h2
    · have hbeh : ∀ b, Sh A F w T st'.obj w' b → behind w A F F' w' b := by
        rintro b ⟨h1, h2, h3⟩
        refine ⟨h1, h2, ?_⟩
        rintro (⟨p, hp, h⟩ | ⟨p, hp, h⟩)
        · exact h3 p.1 (by simp [c1' p hp]) h
        · exact h3 p.1 (by simp [hbk.objs p hp]) h
      intro i x v h1 h2
      by_cases hi : i < res.length
      · simp only [hi, if_true]
        rw [List.getElem?_append_left hi] at h1
        rw [List.getElem?_append_left (by omega)] at h2
        exact (c6 i x v h1 h2).mono hbeh (fun _ h => h)
      · simp only [hi, if_false]
        rw [List.getElem?_append_right (by omega), List.getElem?_map] at h1
        rw [List.getElem?_append_right (by omega), hlen, List.getElem?_map] at h2
        cases hp : bk[i - res.length]? with
        | none => rw [hp] at h1; cases h1
        | some p =>
          rw [hp] at h1 h2
          simp only [Option.map_some, Option.some.injEq] at h1 h2
          subst h1 h2
          exact (d4 _ p hp).mono hbeh (fun _ h => h)
  cases e with
  | normal => exact fin hq
  | ret => exact fin hq
  | _ => exact hq.elim
end
end Go.Am
