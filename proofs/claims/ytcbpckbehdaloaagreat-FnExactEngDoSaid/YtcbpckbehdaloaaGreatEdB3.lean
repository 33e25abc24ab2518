/- The base: lemmas about the machine, the executor. Own work. -/
import Derived.Test.YtcbpckbehdaloaaGreatEdB2
import Derived.Laws.StructEq
import Derived.Laws.Tables
import Derived.Laws.Entries
import Derived.MapKept
import Derived.KernelRfl
set_option linter.unusedSimpArgs false
set_option linter.unusedVariables false
section
namespace Go.Am
open Go
section
variable {P : Program} {n : Nat} {d : Nat} {ty : TypeId} {pos : String} {after : Array Edge} {g : Option (Nat × Bool)} {tys : Array TypeId}
theorem z1an {st : St} {os : Obs} (h : ∀ p ∈ os, st.obj p.1 = some p.2) : ∀ r ∈ needsO os, r.sat st := by
  intro r hr; obtain ⟨p, hp, rfl⟩ := List.mem_map.1 hr; exact h p hp
theorem z1am {st : St} {l : List Nat} (h : l.all (fun i => !(st.used i)) = true) : ∀ r ∈ freshL l, r.sat st := by
  intro r hr; obtain ⟨i, hi, rfl⟩ := List.mem_map.1 hr
  have := List.all_eq_true.1 h i hi
  simpa [Req.sat] using this
theorem z24a {f : FuncId} {fn : Func} {c : Code} {xs : List Operand} {avs : List AV} {args res : List Arg} {back : List (Nat × Arg)} {ls ms rn nf : Obs} {ks : List Nat}
    (hf : P.funcs[f]? = some fn) (hname : (fn.name == "runtime.NumGoroutine") = false) (hb : fn.body = some c) (hF : FnB P f args res back) (hg : GivL avs args ls ms) (hl : xs.length = avs.length) (hsep : noCommon ls ms = true)
    (hsol : ls = [] ∨ (∀ x ∈ res, x.solid = true) ∧ ∀ p ∈ back, p.2.solid = true) (hbk : BkL avs (d + 600000) back rn nf) (hnd : nodupB ((asObs (openRes d res).2 ++ (rn ++ nf)).map (·.1)) = true)
    (hrn : rn.all (renewB ms ks) = true) (hn : d < n) :
    OpL0 P n ⟨some d, .call ⟨.value (.func f), xs.toArray, tys⟩, ty, pos, after, g⟩ (opds xs avs ++ (freshL ((asObs (openRes d res).2 ++ nf).map (·.1)) ++ needsO (ls ++ ms))) (callU d res ms rn nf ks) := by
  intro pn w0 A0 F0 st a w hB hS hs K Q hK
  obtain ⟨hv, T, hT⟩ := hS
  obtain ⟨ho, hrest⟩ := z1le hl hs
  have hfr : ∀ p ∈ asObs (openRes d res).2 ++ nf, st.used p.1 = false := fun p hp => hrest (.fresh p.1) (List.mem_append_left _ (List.mem_map.2 ⟨p.1, List.mem_map.2 ⟨p, hp, rfl⟩, rfl⟩))
  have hobj : ∀ p ∈ ls ++ ms, st.obj p.1 = some p.2 := fun p hp => hrest (.obj p.1 p.2) (List.mem_append_right _ (List.mem_map.2 ⟨p, hp, rfl⟩))
  have hls : ∀ p ∈ ls, st.obj p.1 = some p.2 := fun p hp => hobj p (by simp [hp])
  have hms : ∀ p ∈ ms, st.obj p.1 = some p.2 := fun p hp => hobj p (by simp [hp])
  have hrun : (execOp a.eval ⟨some d, .call ⟨.value (.func f), xs.toArray, tys⟩, ty, pos, after, g⟩).run P w = .ok (.enter f (xs.map a.eval).toArray) w := by
    have := z1fc hf hname hb (xs.map a.eval).toArray w
    simp only [execOp, resolve, Act.eval, Deferred.ofValue, invoke, Sem.run_bind]
    simpa [Act.eval] using this
  refine z1rj hT hF hg (by simpa using hl) ?_ hls hms hsep hsol hbk hnd hrn hfr hn rfl hrun hK
  intro i av v h1 h2
  rw [List.getElem?_map] at h2
  obtain ⟨x, hx, rfl⟩ := Option.map_eq_some_iff.1 h2
  refine hT.eval (ho.get hx h1) fun id hid => ?_
  rcases hg.ids id (z02o h1 hid) with h | h
  · obtain ⟨p, hp, rfl⟩ := List.mem_map.1 h; simp [hls p hp]
  · obtain ⟨p, hp, rfl⟩ := List.mem_map.1 h; simp [hms p hp]
theorem z24c {t : Operand} {f : FuncId} {fn : Func} {c : Code} {xs : List Operand} {avs caps : List AV} {args res : List Arg} {back : List (Nat × Arg)} {ls ms rn nf : Obs} {ks : List Nat}
    (hf : P.funcs[f]? = some fn) (hname : (fn.name == "runtime.NumGoroutine") = false) (hb : fn.body = some c) (hF : FnB P f args res back) (hg : GivL (avs ++ caps) args ls ms) (hl : xs.length = avs.length) (hsep : noCommon ls ms = true)
    (hsol : ls = [] ∨ (∀ x ∈ res, x.solid = true) ∧ ∀ p ∈ back, p.2.solid = true) (hbk : BkL (avs ++ caps) (d + 600000) back rn nf) (hnd : nodupB ((asObs (openRes d res).2 ++ (rn ++ nf)).map (·.1)) = true)
    (hrn : rn.all (renewB ms ks) = true) (hn : d < n) :
    OpL0 P n ⟨some d, .call ⟨.value t, xs.toArray, tys⟩, ty, pos, after, g⟩ (.opd t (.fn f caps) :: (opds xs avs ++ (freshL ((asObs (openRes d res).2 ++ nf).map (·.1)) ++ needsO (ls ++ ms)))) (callU d res ms rn nf ks) := by
  intro pn w0 A0 F0 st a w hB hS hs K Q hK
  obtain ⟨hv, T, hT⟩ := hS
  have h0 : opIs st t (.fn f caps) := at0 hs
  obtain ⟨ho, hrest⟩ := z1le hl (z0g3 hs)
  have hfr : ∀ p ∈ asObs (openRes d res).2 ++ nf, st.used p.1 = false := fun p hp => hrest (.fresh p.1) (List.mem_append_left _ (List.mem_map.2 ⟨p.1, List.mem_map.2 ⟨p, hp, rfl⟩, rfl⟩))
  have hobj : ∀ p ∈ ls ++ ms, st.obj p.1 = some p.2 := fun p hp => hrest (.obj p.1 p.2) (List.mem_append_right _ (List.mem_map.2 ⟨p, hp, rfl⟩))
  have hls : ∀ p ∈ ls, st.obj p.1 = some p.2 := fun p hp => hobj p (by simp [hp])
  have hms : ∀ p ∈ ms, st.obj p.1 = some p.2 := fun p hp => hobj p (by simp [hp])
  have hlive : ∀ i ∈ idsL (avs ++ caps), (st.obj i).isSome = true := fun i hi => by
    rcases hg.ids i hi with h | h
    · obtain ⟨p, hp, rfl⟩ := List.mem_map.1 h; simp [hls p hp]
    · obtain ⟨p, hp, rfl⟩ := List.mem_map.1 h; simp [hms p hp]
  have app : ∀ (l m : List AV), idsL (l ++ m) = idsL l ++ idsL m := fun l m => by induction l with | nil => rfl | cons x l ih => simp [idsL, ih]
  have hf2 := hT.eval h0 (fun i hi => hlive i (by rw [app]; exact List.mem_append_right _ (by simpa [AV.ids] using hi)))
  generalize hft : a.eval t = vt at hf2
  cases hf2 with
  | @fn _ _ us hz hh =>
  have hrun : (execOp a.eval ⟨some d, .call ⟨.value t, xs.toArray, tys⟩, ty, pos, after, g⟩).run P w = .ok (.enter f (xs.map a.eval ++ us.toList).toArray) w := by
    have := z1fc hf hname hb (xs.map a.eval ++ us.toList).toArray w
    have e : (xs.map a.eval ++ us.toList).toArray = (xs.map a.eval).toArray ++ us := by simp
    rw [e] at this ⊢
    simp only [execOp, resolve, Sem.run_bind]
    rw [hft]
    simp only [Deferred.ofValue, Sem.run_pure, invoke]
    simpa using this
  refine z1rj hT hF hg (by simp; omega) ?_ hls hms hsep hsol hbk hnd hrn hfr hn rfl hrun hK
  intro i av v h1 h2
  by_cases hi : i < avs.length
  · rw [List.getElem?_append_left hi] at h1
    rw [List.getElem?_append_left (by simp; omega), List.getElem?_map] at h2
    obtain ⟨x, hx, rfl⟩ := Option.map_eq_some_iff.1 h2
    exact hT.eval (ho.get hx h1) fun id hid => hlive id (by rw [app]; exact List.mem_append_left _ (z02o h1 hid))
  · rw [List.getElem?_append_right (by omega)] at h1
    rw [List.getElem?_append_right (by simp; omega)] at h2
    exact hh (i - avs.length) av v h1 (by simp only [List.length_map, hl] at h2; simpa using h2)
end
def parOpen (i : Nat) : Arg → AV × Obs
  | .c (.bx cs) => (.bx i 0, (i, .box (openRow (i + 10000) cs).1) :: asObs (openRow (i + 10000) cs).2)
  | .c (.sl true k rows) => (.ref i [], [(i, .arr k rows)])
  | .c x => (.c x, [])
  | .row xs => bif xs.all Cell.plain then (.row xs, []) else (.agg (openRow i xs).1, asObs (openRow i xs).2)
  | .fn f caps => (.fn f (argAVs caps), [])
  | .pts xs => (.pts xs, [])
def parOpens (i : Nat) : List Arg → List AV × Obs
  | [] => ([], [])
  | x :: xs => ((parOpen i x).1 :: (parOpens (i + 120000) xs).1, (parOpen i x).2 ++ (parOpens (i + 120000) xs).2)
def Arg.par : Arg → Bool
  | .c _ => true
  | .row _ => true
  | .fn _ caps => plainArgs caps
  | .pts xs => xs.all Cell.plain
def bigIds (os : Obs) : Bool := os.all fun p => Nat.ble 1000000 p.1
def startSt2 (args : List Arg) : St := ⟨fun x => (parOpens 1000000 args).1[x]?, objOf (parOpens 1000000 args).2, fun i => Nat.ble 1000000 i⟩
section
variable {P : Program} {n : Nat}
variable {pn : Nat → Option Value} {w0 : World} {A0 F0 : Blks} {hv : Nat → Value} {T : Nat → Blks} {st st' : St} {a : Act} {w w' : World}
structure ParOk (w : World) (A F : Blks) (os : Obs) (ns : List NewO) : Prop where
  eq : ns.map NewO.at = os
  sub : ∀ m ∈ ns, ∀ b, m.S b → F b
  dis : ns.Pairwise fun p q => ∀ b, p.S b → ¬ q.S b
  ok : ∀ ns', (∀ m ∈ ns, m ∈ ns') → ∀ m ∈ ns, ObjOk w A ns' m
theorem ParOk.nil {A F : Blks} : ParOk w A F [] [] := ⟨rfl, fun m h => by simp at h, .nil, fun _ _ m h => by simp at h⟩
theorem ParOk.append {A F F1 F2 : Blks} {o1 o2 : Obs} {n1 n2 : List NewO} (h1 : ParOk w A F1 o1 n1) (h2 : ParOk w A F2 o2 n2) (hd : ∀ b, F1 b → ¬ F2 b) (g1 : ∀ b, F1 b → F b) (g2 : ∀ b, F2 b → F b) : ParOk w A F (o1 ++ o2) (n1 ++ n2) where
  eq := by rw [List.map_append, h1.eq, h2.eq]
  sub := fun m hm b hb => (List.mem_append.1 hm).elim (fun h => g1 b (h1.sub m h b hb)) (fun h => g2 b (h2.sub m h b hb))
  dis := List.pairwise_append.2 ⟨h1.dis, h2.dis, fun p hp q hq b hb hb' => hd b (h1.sub p hp b hb) (h2.sub q hq b hb')⟩
  ok := fun ns' hns m hm => (List.mem_append.1 hm).elim (fun h => h1.ok ns' (fun q hq => hns q (by simp [hq])) m h) (fun h => h2.ok ns' (fun q hq => hns q (by simp [hq])) m h)
theorem AtO.left {hv : Nat → Value} {obj : Nat → Option Obj} {n1 n2 : List NewO} (h : AtO hv obj (n1 ++ n2)) : AtO hv obj n1 := fun m hm => h m (by simp [hm])
theorem AtO.right {hv : Nat → Value} {obj : Nat → Option Obj} {n1 n2 : List NewO} (h : AtO hv obj (n1 ++ n2)) : AtO hv obj n2 := fun m hm => h m (by simp [hm])
theorem z24f {A F : Blks} {x : Arg} {v : Value} (i : Nat) (hp : x.par = true) (h : ArgSim w A F x v) : ∃ ns, ParOk w A F (parOpen i x).2 ns ∧ ∀ hv obj, AtO hv obj ns → AVSim w A hv obj (parOpen i x).1 v := by
  have toO : ∀ {F1 : Blks} {os : Objs} {ns : List New}, NewOk w A F1 os ns → ParOk w A F1 (asObs os) (ns.map New.toO) := by
    intro F1 os ns k
    refine ⟨by rw [← k.eq]; simp [asObs, New.toO, New.obj, NewO.at, Function.comp_def], fun m hm b hb => ?_, List.Pairwise.map _ (fun _ _ h => h) k.dis, fun ns' _ m hm => ?_⟩
    · obtain ⟨q, hq, rfl⟩ := List.mem_map.1 hm; exact (k.own q hq).2 b hb
    · obtain ⟨q, hq, rfl⟩ := List.mem_map.1 hm; exact (k.own q hq).1
  have atO : ∀ {ns : List New} {hv : Nat → Value} {obj : Nat → Option Obj}, AtO hv obj (ns.map New.toO) → At hv obj ns := fun h m hm => h m.toO (List.mem_map.2 ⟨m, hm, rfl⟩)
  cases h with
  | @c _ x v ho =>
    have plainC : x.plain = true → (parOpen i (.c x)) = (.c x, []) → ∃ ns, ParOk w A F (parOpen i (.c x)).2 ns ∧ ∀ hv obj, AtO hv obj ns → AVSim w A hv obj (parOpen i (.c x)).1 v := by
      intro h1 h2; rw [h2]; exact ⟨[], .nil, fun hv obj _ => .c (ho.of_plain h1)⟩
    cases x with
    | lit u => exact plainC rfl rfl
    | sl o k rows =>
      cases o with
      | false => exact plainC rfl rfl
      | true =>
        exact ⟨[⟨i, .arr k rows, v, F⟩], ⟨rfl, fun m hm b hb => by simp at hm; subst hm; exact hb, by simp, fun ns' _ m hm => by simp at hm; subst hm; exact ho⟩, fun hv obj ha => by
          obtain ⟨e1, e2⟩ := ha _ (List.mem_cons_self ..)
          exact .ref e2 (p := []) rfl e1.symm⟩
    | bx cs =>
      cases ho with
      | @bx _ _ b c e Gi hb hsz hF hG hGb hd hh =>
        obtain ⟨ns0, k1, k2⟩ := z16b (w := w) (A := A) cs (i + 10000) c.toList Gi (by simpa using hsz) (fun i j b hij => hd i j b hij) (fun i x v h1 h2 => hh i x v h1 (by simpa using h2))
        have k3 := toO k1
        refine ⟨⟨i, .box (openRow (i + 10000) cs).1, .pointer (some ⟨b, 0, none⟩), fun x => x = b⟩ :: ns0.map New.toO, ⟨?_, ?_, ?_, ?_⟩, ?_⟩
        · rw [List.map_cons, k3.eq]; rfl
        · intro m hm x hx
          rcases List.mem_cons.1 hm with rfl | hm
          · have hx' : x = b := hx
            rw [hx']; exact hF
          · obtain ⟨j, hj⟩ := k3.sub m hm x hx; exact hG j x hj
        · refine List.pairwise_cons.2 ⟨fun q hq x hx hx2 => ?_, k3.dis⟩
          have hx' : x = b := hx
          subst hx'
          obtain ⟨j, hj⟩ := k3.sub q hq x hx2
          exact hGb j hj
        · intro ns' hns m hm
          rcases List.mem_cons.1 hm with rfl | hm
          · refine ⟨b, c, e, rfl, hb, by rw [z0a1]; exact hsz, rfl, fun j y u h1 h2 hv2 obj2 hat2 => k2 hv2 obj2 (fun m hm => ?_) j y u h1 (by simpa using h2)⟩
            exact hat2 m.toO (hns _ (List.mem_cons_of_mem _ (List.mem_map.2 ⟨m, hm, rfl⟩)))
          · exact k3.ok ns' (fun q hq => hns q (List.mem_cons_of_mem _ hq)) m hm
        · intro hv obj ha
          obtain ⟨e1, e2⟩ := ha _ (List.mem_cons_self ..)
          exact .bx e2 e1
  | @row _ xs vs G hs hG hd hh =>
    simp only [parOpen]
    cases hpl : xs.all Cell.plain with
    | true => exact ⟨[], .nil, fun hv obj _ => .row hs fun i x v h1 h2 => (hh i x v h1 h2).of_plain (List.all_eq_true.1 hpl x (List.mem_of_getElem? h1))⟩
    | false =>
      obtain ⟨ns, g1, g2⟩ := z16b xs i vs.toList G (by simpa using hs) hd (fun i x v h1 h2 => hh i x v h1 (by simpa using h2))
      have k3 := toO g1
      exact ⟨ns.map New.toO, ⟨k3.eq, fun m hm b hb => by obtain ⟨j, hj⟩ := k3.sub m hm b hb; exact hG j b hj, k3.dis, k3.ok⟩,
        fun hv obj ha => .agg (by rw [z0a1]; exact hs) fun j y u h1 h2 => g2 hv obj (atO ha) j y u h1 (by simpa using h2)⟩
  | @fn _ f caps vs hs hh => exact ⟨[], .nil, fun hv obj _ => z20a (F := F) (.fn hs hh) (fun _ h => h) hv obj hp⟩
  | @pts _ xs b off c e fr hb hA hs hh => exact ⟨[], .nil, fun hv obj _ => .pts hb hA hs fun i x v h1 h2 => hh i x v h1 h2⟩
theorem z0fy : ∀ (i : Nat) (xs : List Arg), (parOpens i xs).1.length = xs.length
  | _, [] => rfl
  | i, x :: xs => by simp [parOpens, z0fy]
theorem z1sg {A : Blks} : ∀ (xs : List Arg) (i : Nat) (us : List Value) (G : Nat → Blks), (xs.all Arg.par = true) → us.length = xs.length → (∀ i j b, i ≠ j → G i b → ¬ G j b) →
    (∀ (i : Nat) x v, xs[i]? = some x → us[i]? = some v → ArgSim w A (G i) x v) →
    ∃ ns, ParOk w A (fun b => ∃ j, G j b) (parOpens i xs).2 ns ∧ ∀ hv obj, AtO hv obj ns → ∀ (j : Nat) y u, (parOpens i xs).1[j]? = some y → us[j]? = some u → AVSim w A hv obj y u
  | [], _, _, _, _, _, _, _ => ⟨[], .nil, fun _ _ _ j y u h => by simp [parOpens] at h⟩
  | x :: xs, i, [], _, _, hl, _, _ => by simp at hl
  | x :: xs, i, u :: us, G, hp, hl, hd, h => by
    simp only [List.all_cons, Bool.and_eq_true] at hp
    obtain ⟨n1, a1, a2⟩ := z24f i hp.1 (h 0 x u rfl rfl)
    obtain ⟨n2, b1, b2⟩ := z1sg xs (i + 120000) us (fun j => G (j + 1)) hp.2 (by simpa using hl) (fun i j b hij => hd _ _ b (by omega)) (fun i x v h1 h2 => h (i + 1) x v (by simpa using h1) (by simpa using h2))
    refine ⟨n1 ++ n2, a1.append b1 (fun b h1 ⟨j, h2⟩ => hd 0 (j + 1) b (by omega) h1 h2) (fun b hb => ⟨0, hb⟩) (fun b ⟨j, hb⟩ => ⟨j + 1, hb⟩), fun hv obj ha j y t h1 h2 => ?_⟩
    cases j with
    | zero => simp [parOpens] at h1 h2; subst h1 h2; exact a2 hv obj ha.left
    | succ j => exact b2 hv obj ha.right j y t (by simpa [parOpens] using h1) (by simpa using h2)
inductive BkE (st : St) : AV → Arg → Obs → Prop
  | sl {id k : Nat} {rows : List (List Cell)} (h : st.obj id = some (.arr k rows)) : BkE st (.ref id []) (.c (.sl true k rows)) [(id, .arr k rows)]
  | bx {id : Nat} {ys : List AV} {cs : List Cell} {os : Objs} (h : st.obj id = some (.box ys)) (ha : Abs st ys cs os) (hd : nodupB (id :: os.map (·.1)) = true) : BkE st (.bx id 0) (.c (.bx cs)) ((id, .box ys) :: asObs os)
  | aggNil : BkE st (.agg []) (.row []) []
  | aggRef {id k : Nat} {rows : List (List Cell)} {ys : List AV} {cs : List Cell} {os : Obs} (h : st.obj id = some (.arr k rows)) (t : BkE st (.agg ys) (.row cs) os) (hd : noCommon [(id, .arr k rows)] os = true) :
      BkE st (.agg (.ref id [] :: ys)) (.row (.sl true k rows :: cs)) ((id, .arr k rows) :: os)
  | aggC {x : Cell} {ys : List AV} {cs : List Cell} {os : Obs} (t : BkE st (.agg ys) (.row cs) os) : BkE st (.agg (.c x :: ys)) (.row (x :: cs)) os
inductive BkEL (st : St) (pars : List AV) : List (Nat × Arg) → Obs → Prop
  | nil : BkEL st pars [] []
  | cons {j : Nat} {av : AV} {x : Arg} {os os' : Obs} {bk : List (Nat × Arg)} (hx : pars[j]? = some av) (h : BkE st av x os) (t : BkEL st pars bk os') (hd : noCommon os os' = true) : BkEL st pars ((j, x) :: bk) (os ++ os')
def Fin2 (P : Program) (rvs : List ResultVar) (pars : List AV) (R : List Arg → List (Nat × Arg) → Prop) : Exit → St → Prop
  | .normal, st => ∃ res os bk ob, Closes P st rvs res os ∧ BkEL st pars bk ob ∧ noCommon (asObs os) ob = true ∧ R res bk
  | .ret, st => ∃ res os bk ob, Closes P st rvs res os ∧ BkEL st pars bk ob ∧ noCommon (asObs os) ob = true ∧ R res bk
  | _, _ => False
theorem BkE.objs {av : AV} {x : Arg} {os : Obs} (h : BkE st av x os) : ∀ p ∈ os, st.obj p.1 = some p.2 := by
  induction h with
  | sl h => intro p hp; simp at hp; subst hp; exact h
  | bx h ha hd =>
    intro p hp
    rcases List.mem_cons.1 hp with rfl | hp
    · exact h
    · obtain ⟨q, hq, rfl⟩ := List.mem_map.1 hp; exact ha.obj q hq
  | aggNil => intro p hp; simp at hp
  | aggRef h t hd ih =>
    intro p hp
    rcases List.mem_cons.1 hp with rfl | hp
    · exact h
    · exact ih p hp
  | aggC t ih => exact ih
theorem BkEL.objs {pars : List AV} {bk : List (Nat × Arg)} {os : Obs} (h : BkEL st pars bk os) : ∀ p ∈ os, st.obj p.1 = some p.2 := by
  induction h with
  | nil => intro p hp; simp at hp
  | cons hx h t hd ih => intro p hp; exact (List.mem_append.1 hp).elim (h.objs p) (ih p)
theorem z25e {hv0 : Nat → Value} {obj0 : Nat → Option Obj} (hT : StSim n pn w0 A0 F0 hv T st a w) (hB : Base w0 A0 F0) (hpn : ∀ id, (obj0 id).isSome = true → pn id = some (hv0 id)) {av : AV} {x : Arg} {os : Obs} (h : BkE st av x os) : ∀ {v : Value},
    AVSim w0 A0 hv0 obj0 av v → ArgSim w (Sh A0 F0 w0 T st.obj w) (ofs T os) x v := by
  have pinned : ∀ {id : Nat} {o o0 : Obj}, st.obj id = some o → obj0 id = some o0 → hv id = hv0 id := fun h h0 => (hT.pin _ _ (hpn _ (by simp [h0]))).2 (by simp [h])
  induction h with
  | @sl id k rows h =>
    intro v ha
    cases ha with
    | ref ho hg hh =>
      simp only [Hdr] at hh
      rw [hh, ← pinned h ho]
      exact .c (Own.mono (hT.heap id _ h) (fun _ h => h) (fun b hb => ⟨_, List.mem_cons_self .., hb⟩))
  | @bx id ys cs os h ha hd =>
    intro v hav
    have hvv : v = hv id := by
      cases hav with
      | bx ho hh => rw [pinned h ho]; exact hh.symm
      | mp ho hh => rw [pinned h ho]; exact hh.symm
    obtain ⟨b, c, e, g1, g2, g3, g4, g5⟩ := hT.heap id _ h
    have hnd := z0b7 hd
    simp only [List.nodup_cons] at hnd
    have hos : nodupB (os.map (·.1)) = true := by
      have := hd
      simp only [nodupB, Bool.and_eq_true] at this
      exact this.2
    obtain ⟨G, k1, k2, k3⟩ := z0ts hT (ha.absorb hos) ha.obj (us := c.toList) (by simpa using g3) (fun i y u h1 h2 => g5 i y u h1 (by simpa using h2) (fun j hj => ha.ids j (z02o h1 hj)))
    rw [hvv, g1]
    refine .c (.bx g2 (by rw [(ha.absorb hos).length]; exact g3) ⟨_, List.mem_cons_self .., g4⟩ (fun i x hx => ?_) (fun i hx => ?_) (fun i j x hij => k2 i j x hij) (fun i x v h1 h2 => k3 i x v h1 (by simpa using h2)))
    · obtain ⟨p, hp, hx⟩ := k1 i x hx
      exact ⟨(p.1, .arr p.2.1 p.2.2), List.mem_cons_of_mem _ (List.mem_map.2 ⟨p, hp, rfl⟩), hx⟩
    · obtain ⟨p, hp, hx⟩ := k1 i b hx
      exact hT.dis id p.1 (fun e => hnd.1 (List.mem_map.2 ⟨p, hp, e.symm⟩)) (by simp [h]) (by simp [ha.obj p hp]) b g4 hx
  | aggNil =>
    intro v ha
    cases ha with
    | agg hz hh => exact .row (G := fun _ => noBlk) hz (fun _ _ f => f.elim) (fun _ _ _ _ f => f.elim) fun i x v h1 h2 => by simp at h1
  | @aggRef id k rows ys cs os h t hd ih =>
    intro v ha
    cases ha with
    | @agg _ us hz hh =>
      have hus : ∃ u us', us = (u :: us').toArray := by
        have : us.size = ys.length + 1 := by simpa using hz
        cases h : us.toList with
        | nil => have h2 : us.toList.length = 0 := by rw [h]; rfl
                 rw [Array.length_toList] at h2; omega
        | cons u us' => exact ⟨u, us', by rw [← h]⟩
      obtain ⟨u, us', rfl⟩ := hus
      have i2 := ih (v := .agg us'.toArray) (.agg (by simpa using hz) fun i y u h1 h2 => hh (i + 1) y u (by simpa using h1) (by simpa using h2))
      have h0 := hh 0 (.ref id []) u rfl (by simp)
      have hu : u = hv id := by cases h0 with | ref ho hg hhd => simp only [Hdr] at hhd; rw [hhd, pinned h ho]
      have ow := hT.heap id _ h
      simp only [ObjSim] at ow
      cases i2 with
      | @row _ _ _ G hz2 hG hd2 hh2 =>
        refine .row (G := fun i => match i with | 0 => T id | i + 1 => G i) (by simp at hz2 ⊢; exact hz2) (fun i b hb => ?_) (fun i j b hij h1 h2 => ?_) fun i z t h1 h2 => ?_
        · cases i with
          | zero => exact ⟨_, List.mem_cons_self .., hb⟩
          | succ i => obtain ⟨p, hp, hx⟩ := hG i b hb; exact ⟨p, List.mem_cons_of_mem _ hp, hx⟩
        · have sep : ∀ j, T id b → ¬ G j b := fun j h3 h4 => by
            obtain ⟨p, hp, hx⟩ := hG j b h4
            exact hT.dis id p.1 (z0zw hd (List.mem_cons_self ..) hp) (by simp [h]) (by simp [t.objs p hp]) b h3 hx
          cases i with
          | zero => cases j with
            | zero => exact hij rfl
            | succ j => exact sep j h1 h2
          | succ i => cases j with
            | zero => exact sep i h2 h1
            | succ j => exact hd2 i j b (fun e => hij (by rw [e])) h1 h2
        · cases i with
          | zero => simp at h1 h2; subst h1 h2; rw [hu]; exact ow
          | succ i => exact hh2 i z t (by simpa using h1) (by simpa using h2)
  | @aggC x ys cs os t ih =>
    intro v ha
    cases ha with
    | @agg _ us hz hh =>
      have hus : ∃ u us', us = (u :: us').toArray := by
        have : us.size = ys.length + 1 := by simpa using hz
        cases h : us.toList with
        | nil => have h2 : us.toList.length = 0 := by rw [h]; rfl
                 rw [Array.length_toList] at h2; omega
        | cons u us' => exact ⟨u, us', by rw [← h]⟩
      obtain ⟨u, us', rfl⟩ := hus
      have i2 := ih (v := .agg us'.toArray) (.agg (by simpa using hz) fun i y u h1 h2 => hh (i + 1) y u (by simpa using h1) (by simpa using h2))
      have h0 := hh 0 (.c x) u rfl (by simp)
      cases h0 with
      | c h0 =>
        have hx : Own w (Sh A0 F0 w0 T st.obj w) noBlk x u := (h0.frame fun b hb => hb.elim (fun hb => hT.frame.heap b (hB.a b hb) (hB.af b hb)) (fun f => f.elim)).mono (fun b hb => ⟨.inl hb, Nat.lt_of_lt_of_le (hB.a b hb) hT.frame.size, fun id hid hTb => by
          rcases (hT.own id hid b hTb).1 with h | h
          · exact hB.af b hb h
          · have := hB.a b hb; omega⟩) (fun _ f => f)
        cases i2 with
        | @row _ _ _ G hz2 hG hd2 hh2 =>
          refine .row (G := fun i => match i with | 0 => noBlk | i + 1 => G i) (by simp at hz2 ⊢; exact hz2) (fun i b hb => ?_) (fun i j b hij h1 h2 => ?_) fun i z t h1 h2 => ?_
          · cases i with
            | zero => exact hb.elim
            | succ i => exact hG i b hb
          · cases i with
            | zero => exact h1
            | succ i => cases j with
              | zero => exact h2
              | succ j => exact hd2 i j b (fun e => hij (by rw [e])) h1 h2
          · cases i with
            | zero => simp at h1 h2; subst h1 h2; exact hx
            | succ i => exact hh2 i z t (by simpa using h1) (by simpa using h2)
theorem z23f {hv0 : Nat → Value} {obj0 : Nat → Option Obj} (hT : StSim n pn w0 A0 F0 hv T st a w) (hB : Base w0 A0 F0) (hpn : ∀ id, (obj0 id).isSome = true → pn id = some (hv0 id)) {pars : List AV} {bk : List (Nat × Arg)} {os : Obs} {vs : List Value}
    (hpars : ∀ (j : Nat) y u, pars[j]? = some y → vs[j]? = some u → AVSim w0 A0 hv0 obj0 y u) (hl : vs.length = pars.length) (h : BkEL st pars bk os) :
    (∀ p ∈ bk, p.1 < vs.length) ∧ ∃ G : Nat → Blks, (∀ i b, G i b → ofs T os b) ∧ (∀ i j b, i ≠ j → G i b → ¬ G j b) ∧ ∀ (q : Nat) p, bk[q]? = some p → ArgSim w (Sh A0 F0 w0 T st.obj w) (G q) p.2 (vs.getD p.1 undef) := by
  induction h with
  | nil => exact ⟨fun p hp => by simp at hp, fun _ => noBlk, fun _ _ f => f.elim, fun _ _ _ _ f => f.elim, fun q p h => by simp at h⟩
  | @cons j av x os os' bk hx h t hd ih =>
    obtain ⟨i1, G, i2, i3, i4⟩ := ih
    have hjl : j < vs.length := by rw [hl]; exact (List.getElem?_eq_some_iff.1 hx).1
    have h0 := z25e hT hB hpn h (hpars j av vs[j] hx (by simp [hjl]))
    have e : vs.getD j undef = vs[j] := by simp [List.getD_eq_getElem?_getD, hjl]
    refine ⟨fun p hp => ?_, fun i => match i with | 0 => ofs T os | i + 1 => G i, fun i b hb => ?_, fun i j b hij h1 h2 => ?_, fun q p hq => ?_⟩
    · rcases List.mem_cons.1 hp with rfl | hp
      · exact hjl
      · exact i1 p hp
    · cases i with
      | zero => exact ofs_l hb
      | succ i => exact ofs_r (i2 i b hb)
    · cases i with
      | zero => cases j with
        | zero => exact hij rfl
        | succ j => exact z0w8 hT hd h.objs t.objs h1 (i2 j b h2)
      | succ i => cases j with
        | zero => exact z0w8 hT hd h.objs t.objs h2 (i2 i b h1)
        | succ j => exact i3 i j b (fun e => hij (by rw [e])) h1 h2
    · cases q with
      | zero => simp at hq; subst hq; simp only [e]; exact h0
      | succ q => exact i4 q p (by simpa using hq)
theorem z20m {f : FuncId} {fn : Func} {c : Code} {rvs : List ResultVar} {args : List Arg} {R : List Arg → List (Nat × Arg) → Prop} (hf : P.funcs[f]? = some fn) (hb : fn.body = some c) (hr : fn.results = rvs.toArray)
    (hn : fn.ntmps = n) (hl : args.length ≤ n) (hp : args.all Arg.par = true) (hnd : nodupB ((parOpens 1000000 args).2.map (·.1)) = true) (hbig : bigIds (parOpens 1000000 args).2 = true)
    (hbx : (parOpens 1000000 args).2.all (fun p => p.2.ids.all (Nat.ble 1000000)) = true) (hev : (parOpens 1000000 args).1.all (fun av => av.ids.all (Nat.ble 1000000)) = true)
    (h : ACode P n c (startSt2 args) (Fin2 P rvs (parOpens 1000000 args).1 R)) : Fn P f args R := by
  intro w A F vs hB hargs
  obtain ⟨G, a1, a2, a3, a4⟩ := hargs
  refine calls_of_wp hf hb ?_
  obtain ⟨ns, p1, p2⟩ := z1sg (w := w) (A := A) args 1000000 vs G hp a1 a3 a4
  have hids : ns.map NewO.id = (parOpens 1000000 args).2.map (·.1) := by rw [← p1.eq]; simp [NewO.at, Function.comp_def]
  have hndp : (ns.map NewO.id).Nodup := by rw [hids]; exact z0b7 hnd
  let hv0 : Nat → Value := newAtO NewO.v (fun _ => undef) ns
  let T0 : Nat → Blks := newAtO NewO.S (fun _ => noBlk) ns
  have hvn : ∀ m ∈ ns, hv0 m.id = m.v := z0my hndp
  have hTn : ∀ m ∈ ns, T0 m.id = m.S := z0my hndp
  let obj0 : Nat → Option Obj := objOf (parOpens 1000000 args).2
  have hobjn : ∀ m ∈ ns, obj0 m.id = some m.o := by
    intro m hm
    have hmem : m.at ∈ (parOpens 1000000 args).2 := by rw [← p1.eq]; exact List.mem_map.2 ⟨m, hm, rfl⟩
    have key : ∀ (l : Obs), (l.map (·.1)).Nodup → ∀ p ∈ l, objOf l p.1 = some p.2 := by
      intro l
      induction l with
      | nil => intro _ p hp; simp at hp
      | cons q l ih =>
        intro hnd p hp
        obtain ⟨y, v⟩ := q
        simp only [List.map_cons, List.nodup_cons] at hnd
        simp only [objOf]
        rcases List.mem_cons.1 hp with rfl | hp
        · simp
        · have hne : Nat.beq y p.1 = false := by
            cases hb : Nat.beq y p.1 with
            | false => rfl
            | true => exact absurd (List.mem_map.2 ⟨p, hp, (Nat.eq_of_beq_eq_true hb).symm⟩) hnd.1
          rw [hne]; exact ih hnd.2 p hp
    exact key _ (z0b7 hnd) m.at hmem
  have hmemn : ∀ id o, obj0 id = some o → ∃ m ∈ ns, m.id = id ∧ m.o = o := by
    intro id o ho
    have := z0fd ho
    rw [← p1.eq] at this
    obtain ⟨m, hm, e⟩ := List.mem_map.1 this
    simp only [NewO.at, Prod.mk.injEq] at e
    exact ⟨m, hm, e.1, e.2⟩
  have hAt : AtO hv0 obj0 ns := fun m hm => ⟨hvn m hm, hobjn m hm⟩
  let pn0 : Nat → Option Value := fun id => (obj0 id).map fun _ => hv0 id
  have hpn : ∀ id, (obj0 id).isSome = true → pn0 id = some (hv0 id) := by
    intro id hid
    simp only [pn0]
    cases h : obj0 id with
    | none => rw [h] at hid; cases hid
    | some o => rfl
  have big : ∀ id, (obj0 id).isSome = true → Nat.ble 1000000 id = true := by
    intro id hid
    cases h : obj0 id with
    | none => rw [h] at hid; cases hid
    | some o => exact List.all_eq_true.1 hbig _ (z0fd h)
  have hSF : ∀ m ∈ ns, ∀ b, m.S b → F b := fun m hm b hb => by obtain ⟨j, hj⟩ := p1.sub m hm b hb; exact a2 j b hj
  have hSh : ∀ b, A b → Sh A F w T0 obj0 w b := fun b hb => ⟨.inl hb, hB.a b hb, fun id hid hTb => by
    cases ho : obj0 id with
    | none => rw [ho] at hid; cases hid
    | some o =>
      obtain ⟨m, hm, rfl, _⟩ := hmemn id o ho
      rw [hTn m hm] at hTb
      exact hB.af b hb (hSF m hm b hTb)⟩
  have hvl : vs.length = (parOpens 1000000 args).1.length := by rw [z0fy]; exact a1
  have hS : Sim n pn0 w A F (startSt2 args) { tmps := vs.toArray ++ Array.replicate (fn.ntmps - vs.toArray.size) undef, defers := [] } w := by
    refine ⟨hv0, T0, by simp; omega, rfl, .refl _ _, ?_, ?_, ?_, ?_, ?_, ?_, fun id hid => big id hid, ?_, ?_, ?_⟩
    · intro x av hx _
      have hxl : x < vs.length := by rw [hvl]; exact (List.getElem?_eq_some_iff.1 hx).1
      refine ⟨vs[x], ?_, (p2 hv0 obj0 hAt x av vs[x] hx (by simp [hxl])).mono hSh⟩
      rw [Array.getElem?_append_left (by simpa using hxl)]
      simp [hxl]
    · intro id o ho
      obtain ⟨m, hm, rfl, rfl⟩ := hmemn id o ho
      have hk := p1.ok ns (fun _ h => h) m hm
      rw [hTn m hm]
      unfold ObjOk at hk
      cases hmo : m.o with
      | arr k rows =>
        simp only [hmo] at hk
        simp only [ObjSim]
        rw [hvn m hm]
        exact hk.mono hSh (fun _ h => h)
      | box xs =>
        simp only [hmo] at hk
        obtain ⟨b, c, e, k1, k2, k3, k4, k5⟩ := hk
        simp only [ObjSim]
        rw [hvn m hm]
        exact ⟨b, c, e, k1, k2, k3, k4, fun i x v h1 h2 _ => (k5 i x v h1 h2 _ _ hAt).mono hSh⟩
      | mp => simp only [hmo] at hk
    · intro id hid b hTb
      cases ho : (startSt2 args).obj id with
      | none => rw [ho] at hid; cases hid
      | some o =>
        obtain ⟨m, hm, rfl, _⟩ := hmemn id o ho
        rw [hTn m hm] at hTb
        have hF := hSF m hm b hTb
        exact ⟨.inl hF, hB.f b hF⟩
    · intro i j hij hi hj b h1 h2
      cases ho : (startSt2 args).obj i with
      | none => rw [ho] at hi; cases hi
      | some o =>
        cases ho2 : (startSt2 args).obj j with
        | none => rw [ho2] at hj; cases hj
        | some o2 =>
          obtain ⟨p, hp, rfl, _⟩ := hmemn i o ho
          obtain ⟨q, hq, rfl, _⟩ := hmemn j o2 ho2
          rw [hTn p hp] at h1; rw [hTn q hq] at h2
          have sym : ∀ (l : List NewO), (l.Pairwise fun p q => ∀ b, p.S b → ¬ q.S b) → ∀ p ∈ l, ∀ q ∈ l, p.id ≠ q.id → ∀ b, p.S b → ¬ q.S b := by
            intro l
            induction l with
            | nil => intro _ p hp; simp at hp
            | cons x l ih =>
              intro hl p hp q hq hne b h1 h2
              obtain ⟨c1, c2⟩ := List.pairwise_cons.1 hl
              rcases List.mem_cons.1 hp with rfl | hp'
              · rcases List.mem_cons.1 hq with rfl | hq'
                · exact hne rfl
                · exact c1 q hq' b h1 h2
              · rcases List.mem_cons.1 hq with rfl | hq'
                · exact c1 p hp' b h2 h1
                · exact ih c2 p hp' q hq' hne b h1 h2
          exact sym ns p1.dis p hp q hq hij b h1 h2
    · intro x av hx
      have : x < (parOpens 1000000 args).1.length := (List.getElem?_eq_some_iff.1 hx).1
      rw [z0fy] at this; omega
    · intro x av hx id hid
      exact List.all_eq_true.1 (List.all_eq_true.1 hev av (List.mem_of_getElem? hx)) id hid
    · intro id v hp
      cases ho : obj0 id with
      | none => simp [pn0, ho] at hp
      | some o => simp [pn0, ho] at hp; exact ⟨big id (by simp [ho]), fun _ => hp⟩
    · intro id xs hx j hj
      exact List.all_eq_true.1 (List.all_eq_true.1 hbx _ (z0fd hx)) j hj
    · intro id v hp
      cases ho : obj0 id with
      | none => simp [pn0, ho] at hp
      | some o => exact Nat.le_of_ble_eq_true (big id (by simp [ho]))
  refine wp_mono (h _ _ _ _ _ _ hB hS) ?_
  rintro e a' w' ⟨st', hq, hv, T, hT⟩
  have fin : (∃ res os bk ob, Closes P st' rvs res os ∧ BkEL st' (parOpens 1000000 args).1 bk ob ∧ noCommon (asObs os) ob = true ∧ R res bk) → a'.defers = [] ∧ ∃ v, (results fn a'.tmps).run P w' = .ok v w' ∧
      ∃ res rvs' back F', Ending.returned v = .returned (retVal rvs') ∧ R res back ∧ Frame F w w' ∧ (∀ b, F' b → (F b ∨ w.heap.size ≤ b) ∧ b < w'.heap.size) ∧ (∀ p ∈ back, p.1 < vs.length) ∧ rvs'.length = res.length ∧
        ArgsSim w' (behind w A F F' w') F' (res ++ back.map (·.2)) (rvs' ++ back.map fun (p : Nat × Arg) => vs.getD p.1 undef) := by
    rintro ⟨res, os, bk, ob, hc, hbk, hsep, hR⟩
    obtain ⟨us, c1, c2, G1, c3, c4, c5, c6⟩ := z1x5 hT hc
    have c1' : ∀ p ∈ asObs os, st'.obj p.1 = some p.2 := fun p hp => by obtain ⟨q, hq, rfl⟩ := List.mem_map.1 hp; exact c1 q hq
    obtain ⟨d1, G2, d2, d3, d4⟩ := z23f hT hB hpn (vs := vs) (fun j y u h1 h2 => p2 hv0 obj0 hAt j y u h1 h2) hvl hbk
    have e1 : ∀ b, (∃ p ∈ os, T p.1 b) → ofs T (asObs os) b := fun b ⟨p, hp, h⟩ => ⟨(p.1, .arr p.2.1 p.2.2), List.mem_map.2 ⟨p, hp, rfl⟩, h⟩
    let F' : Blks := fun b => ofs T (asObs os) b ∨ ofs T ob b
    have hF' : ∀ b, F' b → (F b ∨ w.heap.size ≤ b) ∧ b < w'.heap.size := by
      rintro b (⟨p, hp, h⟩ | ⟨p, hp, h⟩)
      · exact hT.own p.1 (by simp [c1' p hp]) b h
      · exact hT.own p.1 (by simp [hbk.objs p hp]) b h
    have hlen : us.length = res.length := c3
    refine ⟨hT.defers, retVal us, ?_, res, us, bk, F', rfl, hR, hT.frame, hF', d1, hlen, fun i => if i < res.length then G1 i else G2 (i - res.length), by simp [hlen], ?_, ?_, ?_⟩
    · rw [z1yt, hr, Array.mapM_eq_mapM_toList, map_eq_pure_bind, Sem.run_bind, Sem.run_bind, c2, Result.andThen_ok, Sem.run_pure, Result.andThen_ok, Sem.run_pure]
      congr 1
      match us with
      | [] => rfl
      | [v] => rfl
      | v :: u :: l => simp [retVal]
    · intro i b hb
      by_cases hi : i < res.length
      · simp only [hi, if_true] at hb; exact .inl (e1 b (c4 i b hb))
      · simp only [hi, if_false] at hb; exact .inr (d2 _ b hb)
    · intro i j b hij h1 h2
      have sep : ∀ b, ofs T (asObs os) b → ¬ ofs T ob b := fun b h1 h2 => z0w8 hT hsep c1' hbk.objs h1 h2
      by_cases hi : i < res.length <;> by_cases hj : j < res.length
      · simp only [hi, hj, if_true] at h1 h2; exact c5 i j b hij h1 h2
      · simp only [hi, hj, if_true, if_false] at h1 h2; exact sep b (e1 b (c4 i b h1)) (d2 _ b h2)
      · simp only [hi, hj, if_true, if_false] at h1 h2; exact sep b (e1 b (c4 j b h2)) (d2 _ b h1)
      · simp only [hi, hj, if_false] at h1 h2; exact d3 _ _ b (by omega) h1 h2
    · have hbeh : ∀ b, Sh A F w T st'.obj w' b → behind w A F F' w' b := by
        rintro b ⟨h1, h2, h3⟩
        refine ⟨h1, h2, ?_⟩
        rintro (⟨p, hp, h⟩ | ⟨p, hp, h⟩)
        · exact h3 p.1 (by simp [c1' p hp]) h
        · exact h3 p.1 (by simp [hbk.objs p hp]) h
      intro i x v h1 h2
      by_cases hi : i < res.length
      · simp only [hi, if_true]
        rw [List.getElem?_append_left hi] at h1
        rw [List.getElem?_append_left (by omega)] at h2
        exact (c6 i x v h1 h2).mono hbeh (fun _ h => h)
      · simp only [hi, if_false]
        rw [List.getElem?_append_right (by omega), List.getElem?_map] at h1
        rw [List.getElem?_append_right (by omega), hlen, List.getElem?_map] at h2
        cases hp : bk[i - res.length]? with
        | none => rw [hp] at h1; cases h1
        | some p =>
          rw [hp] at h1 h2
          simp only [Option.map_some, Option.some.injEq] at h1 h2
          subst h1 h2
          exact (d4 _ p hp).mono hbeh (fun _ h => h)
  cases e with
  | normal => exact fin hq
  | ret => exact fin hq
  | _ => exact hq.elim
end
end Go.Am
end
section
namespace Go.Am
open Go
section
variable {P : Program} {n : Nat}
variable {pn : Nat → Option Value} {w0 : World} {A0 F0 : Blks} {hv : Nat → Value} {T : Nat → Blks} {st st' : St} {a : Act} {w w' : World}
theorem z242 {id k : Nat} {rows rs : List (List Cell)} (hid : st.obj id = some (.arr k rows)) (hnb : ∀ r ∈ rows, ∀ c ∈ r, NoBox c) (hs : shareRows rows = rs) :
    Le n st (apps (dels [id] ++ (killsU [id] ++ putsO [(id, .arr k rs)])) st) := by
  rintro pn w0 A0 F0 a w ⟨hv, T, hT⟩
  have hown := hT.heap id _ hid
  simp only [ObjSim] at hown
  have key : ∃ S : Blks, (∀ b, S b → T id b) ∧ ∀ B : Blks, (∀ b, Sh A0 F0 w0 T st.obj w b ∨ (T id b ∧ ¬ S b) → B b) → Own w B S (.sl true k rs) (hv id) := by
    generalize hv id = v at hown
    cases hown with
    | nil => exact ⟨noBlk, fun _ f => f.elim, fun B _ => by rw [← hs]; exact .nil _ _⟩
    | @arr _ _ _ b cap c e G hb hk hsz hcap hF hG hGb hd h =>
      refine ⟨fun x => x = b, fun x hx => hx ▸ hF, fun B hB => ?_⟩
      have hl : rs.length = rows.length := by rw [← hs, z059, List.length_map]
      have := Own.arr (w := w) (A := B) (F := fun x => x = b) (k := k) (rows := rs) (b := b) (cap := cap) (c := c) (e := e) (G := fun _ => noBlk) hb
        (by rw [← hs, z059]; intro r hr; obtain ⟨r', h1, rfl⟩ := List.mem_map.1 hr; simpa using hk r' h1) hsz (by omega) rfl (fun _ _ f => f.elim) (fun _ f => f) (fun _ _ _ _ f => f.elim)
        (by
          intro i x v h1 h2
          rw [← hs, z059, ← List.map_flatten, List.getElem?_map] at h1
          obtain ⟨y, h3, rfl⟩ := Option.map_eq_some_iff.1 h1
          obtain ⟨r, hr, hy⟩ := mem_flatten_of_getElem? h3
          exact (h i y v h3 h2).share (hnb r hr y hy) (A' := B) (F' := noBlk) (fun b' hb' => hB b' (hb'.imp (fun h => h) (fun h => ⟨hG i b' h, fun e => hGb i (e ▸ h)⟩))))
      rw [hl] at this
      exact this
  obtain ⟨S, k1, k2⟩ := key
  obtain ⟨hv', T', g1, _, _⟩ := hT.swap (ds := [id]) (ks := [id]) (w' := w) (fun d hd => by simp at hd; subst hd; simp [hid]) ⟨fun _ _ _ => rfl, Nat.le_refl _, rfl, rfl⟩ [⟨id, .arr k rs, hv id, S⟩] (by simp)
    (fun m hm => by simp at hm; subst hm; exact .inr ⟨by simp, rfl, _, hid, .inl ⟨_, _, _, rfl, rfl⟩, fun _ => by simp⟩) (fun m hm b hb => by simp at hm; subst hm; exact .inl ⟨id, by simp, k1 b hb⟩)
    (fun p hp q hq hne => by simp at hp hq; subst hp hq; exact absurd rfl hne) (fun b => Sh A0 F0 w0 T st.obj w b ∨ (T id b ∧ ¬ S b))
    (fun b hb => hb.imp (fun h => h) fun ⟨h1, h2⟩ => ⟨.inl ⟨id, by simp, h1⟩, fun m hm => by simp at hm; subst hm; exact h2⟩)
    (fun m hm => by simp at hm; subst hm; exact k2 _ (fun b h => h)) (fun m hm j hj => by simp at hm; subst hm; simp [Obj.ids] at hj)
  exact ⟨hv', T', g1⟩
theorem StSim.reEnv (h : StSim n pn w0 A0 F0 hv T st a w) {x : Nat} {av' : AV} (hx : x < n) (hu : ∀ i ∈ av'.ids, st.used i = true) (hav : ∀ v, a.tmps[x]? = some v → AVSim w (Sh A0 F0 w0 T st.obj w) hv st.obj av' v) :
    StSim n pn w0 A0 F0 hv T ((Upd.set x av').app st) a w where
  size := h.size
  defers := h.defers
  frame := h.frame
  env := by
    intro y av hy hl
    replace hy : upd st.env x (some av') y = some av := hy
    rw [z07i] at hy
    split at hy
    · rename_i e; subst e; cases hy
      have : x < a.tmps.size := by rw [h.size]; exact hx
      exact ⟨a.tmps[x], by simp [this], hav _ (by simp [this])⟩
    · exact h.env y av hy hl
  heap := h.heap
  own := h.own
  dis := h.dis
  slt := by
    intro y av hy
    replace hy : upd st.env x (some av') y = some av := hy
    rw [z07i] at hy
    split at hy
    · rename_i e; subst e; exact hx
    · exact h.slt y av hy
  uenv := by
    intro y av hy i hi
    refine z00g.2 (.inl ?_)
    replace hy : upd st.env x (some av') y = some av := hy
    rw [z07i] at hy
    split at hy
    · cases hy; exact hu i hi
    · exact h.uenv y av hy i hi
  uobj := fun i hi => z00g.2 (.inl (h.uobj i hi))
  pin := fun i v hp => ⟨z00g.2 (.inl (h.pin i v hp).1), (h.pin i v hp).2⟩
  ubox := fun i xs hx j hj => z00g.2 (.inl (h.ubox i xs hx j hj))
  pbig := h.pbig
theorem z1zt (hT : StSim n pn w0 A0 F0 hv T st a w) {id k : Nat} (hid : st.used id = false) :
    ∃ hv' T', StSim n pn w0 A0 F0 hv' T' (apps [.put id (.arr k [])] st) a w ∧ hv' id = .slice none 0 0 ∧ (apps [.put id (.arr k [])] st).obj id = some (.arr k []) := by
  obtain ⟨hv', T', g1, g2, _⟩ := hT.swap (ds := []) (ks := []) (w' := w) (fun d hd => by simp at hd) ⟨fun _ _ _ => rfl, Nat.le_refl _, rfl, rfl⟩ [⟨id, .arr k [], .slice none 0 0, noBlk⟩] (by simp)
    (fun m hm => by simp at hm; subst hm; exact .inl hid) (fun m hm b hb => by simp at hm; subst hm; exact hb.elim) (fun p hp q hq hne => by simp at hp hq; subst hp hq; exact absurd rfl hne) noBlk (fun b f => f.elim)
    (fun m hm => by simp at hm; subst hm; exact .nil _ _) (fun m hm j hj => by simp at hm; subst hm; simp [Obj.ids] at hj)
  exact ⟨hv', T', g1, (g2 _ (List.mem_cons_self ..)).1, z02d _ _ _⟩
theorem z25y {x id k : Nat} (hx : st.env x = some (.c (.lit (.slice none 0 0)))) (hid : st.used id = false) : Le n st (apps [.put id (.arr k []), .set x (.ref id [])] st) := by
  rintro pn w0 A0 F0 a w ⟨hv, T, hT⟩
  obtain ⟨v, h1, h2⟩ := hT.env x _ hx (z199 _ _)
  have hxn := hT.slt x _ hx
  obtain ⟨hv', T', g1, g2, g3⟩ := z1zt hT (k := k) hid
  refine ⟨hv', T', g1.reEnv hxn (fun i hi => ?_) fun u hu => ?_⟩
  · simp [AV.ids] at hi; subst hi; exact g1.uobj i (by simp [g3])
  · rw [h1] at hu; cases hu
    have : v = .slice none 0 0 := by cases h2 with | c h => cases h; rfl
    subst this
    exact .ref g3 (p := []) rfl (by simp only [Hdr]; exact g2.symm)
theorem StSim.reBox (h : StSim n pn w0 A0 F0 hv T st a w) {b j : Nat} {xs : List AV} {av av' : AV} (hb : st.obj b = some (.box xs)) (hj : xs[j]? = some av) (hu : ∀ i ∈ av'.ids, st.used i = true) (hlv : Live st.obj av)
    (hav : ∀ v, AVSim w (Sh A0 F0 w0 T st.obj w) hv st.obj av v → AVSim w (Sh A0 F0 w0 T st.obj w) hv st.obj av' v) :
    StSim n pn w0 A0 F0 hv T ((Upd.put b (.box (xs.set j av'))).app st) a w := by
  have hobj : ∀ i, ((Upd.put b (.box (xs.set j av'))).app st).obj i = if b = i then some (.box (xs.set j av')) else st.obj i := fun i => z07i _ _ _ _
  have live' : ∀ i, (((Upd.put b (.box (xs.set j av'))).app st).obj i).isSome = true ↔ (st.obj i).isSome = true := by
    intro i; rw [hobj]; split
    · rename_i e; subst e; simp [hb]
    · rfl
  have hsh : ∀ y, Sh A0 F0 w0 T st.obj w y → Sh A0 F0 w0 T ((Upd.put b (.box (xs.set j av'))).app st).obj w y := fun y hy => ⟨hy.1, hy.2.1, fun i hi => hy.2.2 i ((live' i).1 hi)⟩
  have key : ∀ {av : AV} {v : Value}, AVSim w (Sh A0 F0 w0 T st.obj w) hv st.obj av v → AVSim w (Sh A0 F0 w0 T ((Upd.put b (.box (xs.set j av'))).app st).obj w) hv ((Upd.put b (.box (xs.set j av'))).app st).obj av v := by
    intro av v ha
    have ne : ∀ {i k rows}, st.obj i = some (.arr k rows) → ((Upd.put b (.box (xs.set j av'))).app st).obj i = some (.arr k rows) := by
      intro i k rows h1; rw [hobj, if_neg (fun e => by subst e; rw [hb] at h1; cases h1)]; exact h1
    induction ha with
    | dead v => exact .dead v
    | c ho => exact .c (ho.mono hsh (fun _ f => f))
    | row hs hh => exact .row hs fun i x v h1 h2 => (hh i x v h1 h2).mono hsh (fun _ f => f)
    | ref ho hg hh => exact .ref (ne ho) hg hh
    | @ptr i p k1 i1 j1 k0 rw1 o rw2 b off len cap ho hg hh => exact .ptr (n := len) (cap := cap) (ne ho) hg hh
    | @bx i j2 b2 ys ho hh =>
      by_cases e : b = i
      · subst e; exact .bx (by rw [hobj, if_pos rfl]) hh
      · exact .bx (by rw [hobj, if_neg e]; exact ho) hh
    | pts hb hA hs hh => exact .pts hb (hsh _ hA) hs fun i x v h1 h2 => (hh i x v h1 h2).mono hsh (fun _ f => f)
    | @mp i ks v ho hh => exact .mp (by rw [hobj, if_neg (fun e => by subst e; rw [hb] at ho; cases ho)]; exact ho) hh
    | agg hs _ ih => exact .agg hs ih
    | tup hs _ ih => exact .tup hs ih
    | fn hs _ ih => exact .fn hs ih
  have lv : ∀ {av : AV}, Live ((Upd.put b (.box (xs.set j av'))).app st).obj av → Live st.obj av := fun hl i hi => (live' i).1 (hl i hi)
  refine ⟨h.size, h.defers, h.frame, ?_, ?_, ?_, ?_, h.slt, ?_, ?_, ?_, ?_, h.pbig⟩
  · intro y av2 hy hl
    obtain ⟨v, h1, h2⟩ := h.env y av2 hy (lv hl)
    exact ⟨v, h1, key h2⟩
  · intro i o ho
    rw [hobj] at ho
    split at ho
    · rename_i e; subst e; cases ho
      obtain ⟨b', c, e, k1, k2, k3, k4, k5⟩ := h.heap b _ hb
      refine ⟨b', c, e, k1, k2, by simpa using k3, k4, fun i x v hx hc hl => ?_⟩
      by_cases hij : j = i
      · subst hij
        rw [List.getElem?_set_self (List.getElem?_eq_some_iff.1 hj).1] at hx
        cases hx
        exact key (hav v (k5 j av v hj hc hlv))
      · rw [List.getElem?_set_ne hij] at hx
        exact key (k5 i x v hx hc (lv hl))
    · have hold := h.heap i o ho
      cases o with
      | arr k rows => simp only [ObjSim] at hold ⊢; exact hold.mono hsh (fun _ h => h)
      | box ys =>
        obtain ⟨b', c, e, k1, k2, k3, k4, k5⟩ := hold
        exact ⟨b', c, e, k1, k2, k3, k4, fun i x v hx hc hl => key (k5 i x v hx hc (lv hl))⟩
      | mp => exact hold
  · intro i hi y hy; exact h.own i ((live' i).1 hi) y hy
  · intro i j hij hi hj y h1 h2; exact h.dis i j hij ((live' i).1 hi) ((live' j).1 hj) y h1 h2
  · intro y av2 hy i hi; exact z00g.2 (.inl (h.uenv y av2 hy i hi))
  · intro i hi; exact z00g.2 (.inl (h.uobj i ((live' i).1 hi)))
  · intro i v hp; exact ⟨z00g.2 (.inl (h.pin i v hp).1), fun hi => (h.pin i v hp).2 ((live' i).1 hi)⟩
  · intro i ys hx q hq
    refine z00g.2 (.inl ?_)
    rw [hobj] at hx
    split at hx
    · cases hx
      have : ∀ (l : List AV) (j : Nat), q ∈ idsL (l.set j av') → q ∈ idsL l ∨ q ∈ av'.ids := by
        intro l
        induction l with
        | nil => intro j h; exact .inl h
        | cons x l ih =>
          intro j h
          cases j with
          | zero => simp only [List.set_cons_zero, idsL, List.mem_append] at h ⊢; exact h.elim .inr (fun h => .inl (.inr h))
          | succ j =>
            simp only [List.set_cons_succ, idsL, List.mem_append] at h ⊢
            rcases h with h | h
            · exact .inl (.inl h)
            · exact (ih j h).imp .inr (fun h => h)
      rcases this xs j hq with h1 | h1
      · exact h.ubox b xs hb q h1
      · exact hu q h1
    · exact h.ubox i ys hx q hq
theorem z25x {b j id k : Nat} {xs : List AV} (hb : st.obj b = some (.box xs)) (hj : xs[j]? = some (.c (.lit (.slice none 0 0)))) (hid : st.used id = false) :
    Le n st (apps [.put id (.arr k []), .put b (.box (xs.set j (.ref id [])))] st) := by
  rintro pn w0 A0 F0 a w ⟨hv, T, hT⟩
  have hne : id ≠ b := fun e => by subst e; have := hT.uobj id (by simp [hb]); rw [hid] at this; cases this
  obtain ⟨hv', T', g1, g2, g3⟩ := z1zt hT (k := k) hid
  have hb' : (apps [.put id (.arr k [])] st).obj b = some (.box xs) := (z07d _ _ hne).trans hb
  refine ⟨hv', T', g1.reBox (av' := .ref id []) hb' hj (fun i hi => ?_) (z199 _ _) fun u hu => ?_⟩
  · simp [AV.ids] at hi; subst hi; exact g1.uobj i (by simp [g3])
  · have : u = .slice none 0 0 := by cases hu with | c h => cases h; rfl
    subst this
    exact .ref g3 (p := []) rfl (by simp only [Hdr]; exact g2.symm)
end
end Go.Am
end
section
namespace Go.Am
open Go
def gd (p : Prop) [Decidable p] {α : Type} (x : Option α) : Option α := if p then x else none
theorem gd_some {p : Prop} [Decidable p] {α : Type} {x : Option α} {r : α} (h : gd p x = some r) : p ∧ x = some r := by
  unfold gd at h; split at h
  · exact ⟨‹p›, h⟩
  · cases h
theorem z001 {p : Prop} [Decidable p] {α : Type} {x : Option α} (h : p) : gd p x = x := by unfold gd; rw [if_pos h]
abbrev ok64 (v : Int) : Prop := -9223372036854775808 ≤ v ∧ v ≤ 9223372036854775807
def getI {α : Type} (l : List α) (i : Int) : Option α := if 0 ≤ i then l[i.toNat]? else none
theorem z0gx {α : Type} {l : List α} {i : Int} {x : α} (h : getI l i = some x) : 0 ≤ i ∧ i.toNat < l.length ∧ l[i.toNat]? = some x := by
  unfold getI at h; split at h
  · exact ⟨‹_›, (List.getElem?_eq_some_iff.1 h).1, h⟩
  · cases h
theorem z08t {α : Type} (l : List α) (i : Nat) : getI l (i : Int) = l[i]? := by
  unfold getI; rw [if_pos (Int.natCast_nonneg i), Int.toNat_natCast]
theorem bnd {α β : Type} {x : Option α} {f : α → Option β} {r : β} (h : x.bind f = some r) : ∃ a, x = some a ∧ f a = some r := Option.bind_eq_some_iff.1 h
noncomputable def FUEL : Nat := (Classical.choice (⟨⟨4611686018427387904, Nat.le_refl _⟩⟩ : Nonempty { n : Nat // 4611686018427387904 ≤ n })).1
theorem z02j : 4611686018427387904 ≤ FUEL := (Classical.choice (⟨⟨4611686018427387904, Nat.le_refl _⟩⟩ : Nonempty { n : Nat // 4611686018427387904 ≤ n })).2
def SMALL : Nat := 1000000000
section
variable {α : Type} {f : α → List Cell} {l m : List α} {x : α} {i : Nat}
theorem mapG (h : l[i]? = some x) : (l.map f)[i]? = some (f x) := by simp [h]
theorem getP1 {k : Nat} {o : Bool} {rows : List (List Cell)} {i j : Nat} {row : List Cell} {c : Cell} (h : rows[i]? = some row) (hc : row[j]? = some c) : (Cell.sl o k rows).get [(i, j)] = some c := by
  simp only [Cell.get, h, Option.bind_some, hc]
theorem appG : l.map f ++ m.map f = (l ++ m).map f := List.map_append.symm
theorem repG {n : Nat} {z : α} : List.replicate n (f z) = (List.replicate n z).map f := List.map_replicate.symm
end
theorem okAll {rows : List (List Cell)} (h : ∀ r ∈ rows, ∀ c ∈ r, c.ok = true) : (rows.all fun r => r.all Cell.ok) = true :=
  List.all_eq_true.2 fun r hr => List.all_eq_true.2 fun c hc => h r hr c hc
section
variable {P : Program} {n : Nat}
section
variable {ops : Array Oper} {md : Bool} {i : Nat} {acc : List Item} {o : Oper} {rest : List Oper} {rs : List Req} {us : List Upd} {Q : Exit → St → Prop} {st : St}
theorem z1yo {g dg d : Nat} {want : Bool} {v : Value} (hg : o.guard = some (g, want)) (hdst : o.dst = some d) (hn : d < n) (hd : (ops[g]?).bind (·.dst) = some dg) (hb : v = .bool (!want) ∨ v = undef) :
    OpL P ops n o [.opd (.tmp dg) (.c (.lit v))] [.set d (.c (.lit undef))] := by
  intro pn w0 A0 F0 st a w hB hS hs K Q hK
  have h1 : st.env dg = some (.c (.lit v)) := at0 hs
  obtain ⟨hv, T, hT⟩ := hS
  have : Region.wanted o (yielded ops a.tmps) = false := by
    unfold Region.wanted; rw [hg]
    rcases hb with rfl | rfl
    · simp [z1ls hT hd h1]
    · obtain ⟨u, g1, g2⟩ := hT.env dg _ h1 (fun id hid => by simp [AV.ids] at hid)
      have hu : u = undef := by cases g2 with | c ho => cases ho; rfl
      have : yielded ops a.tmps g = none := by unfold yielded; rw [hd, Option.bind_some, g1, hu]; rfl
      simp [this]
  rw [if_neg (by rw [this]; simp)]
  refine hK _ _ ⟨hv, T, ?_⟩
  rw [hdst]
  exact hT.set hn (fun _ => .c (.lit _))
end
section
variable {d : Nat} {ty : TypeId} {pos : String} {after : Array Edge} {g : Option (Nat × Bool)} {t e : TypeId} {x y : Operand} {k : Nat} {α : Type} {f : α → List Cell} {l : List α} {i : Int} {v : α}
theorem z1q3 (hu : P.underlying t = some (.slice e)) (hz : ∀ w, (Go.sizeOf e).run P w = .ok k w) (hn : d < n) (h : getI l i = some v) :
    OpL0 P n ⟨some d, .indexAddr t x y, ty, pos, after, g⟩ [.opd x (.c (.sl false k (l.map f))), .opd y (aInt i)] [.set d (.pts (f v))] := by
  obtain ⟨h1, h2, h3⟩ := z0gx h
  exact z1uy hu hz hn h1 (mapG h3)
theorem z1l6 {id k0 : Nat} {p : Path} {o : Bool} {rows : List (List Cell)} (hu : P.underlying t = some (.slice e)) (hz : ∀ w, (Go.sizeOf e).run P w = .ok k w) (hn : d < n)
    (hg : (Cell.sl true k0 rows).get p = some (.sl o k (l.map f))) (h : getI l i = some v) :
    OpL0 P n ⟨some d, .indexAddr t x y, ty, pos, after, g⟩ [.opd x (.ref id p), .opd y (aInt i), .obj id (.arr k0 rows)] [.set d (.ptr id p k i.toNat 0)] := by
  obtain ⟨h1, h2, _⟩ := z0gx h
  exact z1q2 hu hz hn hg h1 (by simp; omega)
theorem z1uz {id k0 : Nat} {p : Path} {o : Bool} {rows : List (List Cell)} (ht : P.underlying t = some (.slice e)) (hn : d < n) (hg : (Cell.sl true k0 rows).get p = some (.sl o k (l.map f))) :
    OpL0 P n ⟨some d, .call ⟨.builtin .len, #[x], #[t]⟩, ty, pos, after, g⟩ [.opd x (.ref id p), .obj id (.arr k0 rows)] [.set d (aInt (l.length : Int))] := by
  have := z1yi (P := P) (n := n) (d := d) (ty := ty) (pos := pos) (after := after) (g := g) (x := x) (id := id) (k := k0) (rows := rows) (p := p) ht hn hg
  simpa using this
theorem z1lb {id i j m : Nat} {row : List Cell} {av : AV} {ys : List AV} {cs : List Cell} {os : Objs} {rows rows' : List (List Cell)} (hz : ∀ w, (Go.sizeOf t).run P w = .ok m w)
    (hr : rows[i]? = some row) (hc : av.cells? = some ys) (habs : Absorb ys cs os) (hne : (os.any fun p => Nat.beq p.1 id) = false) (hone : ys.all AV.one = true) (hm : ys.length = m) (hl : Nat.ble (j + m) k = true) (hk : row.length = k)
    (hN : rows.set i (spl row j cs) = rows') :
    OpL0 P n ⟨none, .store t x y, ty, pos, after, g⟩ (.opd x (.ptr id [] k i j) :: .opd y av :: .obj id (.arr k rows) :: (objReqs os ++ lives av.ids))
      (dels (os.map (·.1)) ++ [.kill id, .put id (.arr k rows')]) := by
  rw [← hN]; exact z1lc hz hr hc habs hne hone hm hl hk
theorem z1yf {tx e' : TypeId} {bytes : Nat} {ax ay : AV} {ob : Bool} {rowsA rowsB rows : List (List Cell)} {osA osB : Objs} (hty : ElemTy P t e k bytes) (htx : P.underlying tx = some (.slice e'))
    (hA : SlOf ax true k rowsA osA) (hB : SlOf ay ob k rowsB osB) (hdis : (osA.all fun p => osB.all fun q => !Nat.beq p.1 q.1) = true) (hok : (rowsB.all fun r => r.all Cell.ok) = true)
    (hby : Nat.ble bytes 100000 = true) (hlen : rowsA.length + rowsB.length ≤ SMALL) (hn : d < n) (hN : rowsA ++ rowsB = rows) :
    OpL0 P n ⟨some d, .call ⟨.builtin .append, #[x, y], #[t, tx]⟩, ty, pos, after, g⟩ (.opd x ax :: .opd y ay :: .fresh d :: (objReqs (osA ++ osB) ++ []))
      (dels ((osA ++ osB).map (·.1)) ++ [.put d (.arr k rows), .set d (.ref d [])]) := by
  rw [← hN]
  have hb := Nat.le_of_ble_eq_true hby
  unfold SMALL at hlen
  have h1 : (2 * (rowsA.length + rowsB.length) + 1024) * bytes ≤ (2 * 1000000000 + 1024) * 100000 := Nat.mul_le_mul (by omega) hb
  exact z20z hty htx hA hB hdis hok (Nat.le_trans h1 (by decide)) (by omega) hn
theorem lenG {f2 : α → List Cell} {l m : List α} (h : l.length + m.length ≤ SMALL) : (l.map f).length + (m.map f2).length ≤ SMALL := by simpa using h
theorem z1l7 {bytes : Nat} {m : Int} {zr : List Cell} {zs : List Value} {rows : List (List Cell)} (hty : ElemTy P t e k bytes) (hz : ∀ i z, P.info? e = some i → i.zero = some z → z.cells.toList = zs)
    (hzr : Zeros zs zr) (h : 0 ≤ m ∧ m ≤ 1000000000) (hby : Nat.ble bytes 100000 = true) (hn : d < n) (hN : List.replicate m.toNat zr = rows) :
    OpL0 P n ⟨some d, .makeSlice t x y, ty, pos, after, g⟩ [.opd x (aInt m), .opd y (aInt m), .fresh d] [.put d (.arr k rows), .set d (.ref d [])] := by
  rw [← hN]
  have hb := Nat.le_of_ble_eq_true hby
  refine z1q4 hty hz hzr h.1 ?_ (by omega) hn
  have h1 : (bytes : Int) * m ≤ 100000 * 1000000000 := Int.mul_le_mul (by omega) h.2 h.1 (by decide)
  omega
theorem z1v2 {fid : FuncId} {cs : List Operand} {avs : List AV} (hl : cs.length = avs.length) (hn : d < n) :
    OpL0 P n ⟨some d, .makeFunc (.func fid) #[] cs.toArray, ty, pos, after, g⟩ (opds cs avs ++ lives (idsL avs)) [.set d (.fn fid avs)] :=
  z01g rfl hn fun _ _ _ _ _ _ st a w _ hT hs => by
    obtain ⟨ho, hrest⟩ := z1le hl hs
    have hlv := z159 hrest
    refine ⟨.func (.func fid) #[] (cs.map a.eval).toArray, ?_, fun _ => .fn (by simpa using hl) fun i av v h1 h2 => ?_⟩
    · have := z1qg (P := P) (f := fid) (caps := cs.toArray) (ρ := a.eval) (w := w) (d := d) (ty := ty) (pos := pos) (after := after) (g := g)
      simpa using this
    · simp only [List.getElem?_toArray, List.getElem?_map] at h2
      obtain ⟨x, hx, rfl⟩ := Option.map_eq_some_iff.1 h2
      exact hT.eval (ho.get hx h1) fun id hid => hlv id (z02o h1 hid)
end
end
end Go.Am
end
section
namespace Go.Am
open Go
section
variable {P : Program} {n : Nat}
variable {d : Nat} {ty : TypeId} {pos : String} {after : Array Edge} {g : Option (Nat × Bool)} {t e : TypeId} {x y z : Operand} {k : Nat}
theorem z1fb {v : Int} {m : Nat} {code : BoundsCode} {w : World} (h0 : 0 ≤ v) (h : v ≤ m) : (Instr.sliceBound (.int .i64 v) m code).run P w = .ok v.toNat w := by
  have : 0 ≤ v ∧ v ≤ (m : Int) := ⟨h0, h⟩
  simp [Instr.sliceBound, asIntOf, this]
theorem z218 {rows : List (List Cell)} (hk : ∀ r ∈ rows, r.length = k) {lo hi i : Nat} {c : Cell} (h : ((rows.take hi).drop lo).flatten[i]? = some c) : rows.flatten[lo * k + i]? = some c := by
  have hk2 : ∀ r ∈ (rows.take hi).drop lo, r.length = k := fun r hr => hk r (List.mem_of_mem_take (List.mem_of_mem_drop hr))
  have hlt := (List.getElem?_eq_some_iff.1 h).1
  rw [z01s hk2] at hlt
  have hkp : 0 < k := by rcases Nat.eq_zero_or_pos k with h | h; (subst h; simp at hlt); exact h
  have hmod : i % k < k := Nat.mod_lt _ hkp
  have hdm : i = i / k * k + i % k := by rw [Nat.mul_comm]; exact (Nat.div_add_mod i k).symm
  rw [hdm, List.flatten_getElem?_of_const hk2 _ _ hmod, List.getElem?_drop] at h
  have e2 : lo * k + i = (lo + i / k) * k + i % k := by rw [Nat.add_mul]; omega
  rw [e2, List.flatten_getElem?_of_const hk _ _ hmod]
  cases hr : (rows.take hi)[lo + i / k]? with
  | none => rw [hr] at h; cases h
  | some r =>
    rw [hr] at h
    have : rows[lo + i / k]? = some r := by
      rw [List.getElem?_take] at hr; split at hr
      · exact hr
      · cases hr
    rw [this]; exact h
theorem z1qc {w : World} {A F : Blks} {rows : List (List Cell)} {v : Value} (h : Own w A F (.sl false k rows) v) {lo hi : Nat} (h1 : lo ≤ hi) (h2 : hi ≤ rows.length) :
    ∃ a len cap, v = .slice a len cap ∧ len = rows.length ∧ rows.length ≤ cap ∧ Own w A F (.sl false k ((rows.take hi).drop lo)) (.slice (if cap = lo then a else a.map (·.add (lo * k))) (hi - lo) (cap - lo)) := by
  cases h with
  | nil =>
    simp at h2; subst h2
    obtain rfl : lo = 0 := by omega
    exact ⟨none, 0, 0, rfl, rfl, by simp, by simpa using Own.nil false k⟩
  | emp _ a =>
    simp at h2; subst h2
    obtain rfl : lo = 0 := by omega
    exact ⟨some a, 0, 0, rfl, rfl, by simp, by simpa using Own.emp k a⟩
  | @shr _ _ _ b off cap c e fr hb hA hk hs hcap hh =>
    refine ⟨_, _, _, rfl, rfl, hcap, ?_⟩
    have hl : ((rows.take hi).drop lo).length = hi - lo := by simp; omega
    by_cases hc : cap = lo
    · rw [if_pos hc]
      have e1 : hi - lo = 0 := by omega
      have e2 : (rows.take hi).drop lo = [] := List.length_eq_zero_iff.1 (by omega)
      rw [e1, e2, show cap - lo = 0 by omega]
      exact .emp k _
    · rw [if_neg hc]
      have ha : (Option.map (fun x : Addr => x.add (lo * k)) (some (⟨b, off, none⟩ : Addr))) = some ⟨b, off + lo * k, none⟩ := by
        simp only [Option.map_some, Option.some.injEq, Addr.add]
        split
        · rename_i h; simp [h]
        · rfl
      rw [ha, ← hl]
      have hm : lo * k + ((rows.take hi).drop lo).length * k ≤ rows.length * k := by rw [hl, ← Nat.add_mul]; exact Nat.mul_le_mul_right _ (by omega)
      refine .shr hb hA (fun r hr => hk r (List.mem_of_mem_take (List.mem_of_mem_drop hr))) (by omega) (by omega) fun i x v g1 g2 => ?_
      exact hh (lo * k + i) x v (z218 hk g1) (by rw [← Nat.add_assoc]; exact g2)
theorem z1ff {rows : List (List Cell)} {a0 : Option Addr} {cap : Nat} {lo hi : Option Value} {l h : Int} {w : World} (hu : P.underlying t = some (.slice e)) (hz : ∀ w, (Go.sizeOf e).run P w = .ok k w)
    (hlo : lo = some (.int .i64 l) ∨ (lo = none ∧ l = 0)) (hhi : hi = some (.int .i64 h) ∨ (hi = none ∧ h = rows.length)) (hb : 0 ≤ l ∧ l ≤ h ∧ h ≤ rows.length) (hc : rows.length ≤ cap) :
    (Instr.slice t (.slice a0 rows.length cap) lo hi none).run P w = .ok (.slice (if cap = l.toNat then a0 else a0.map (·.add (l.toNat * k))) (h.toNat - l.toNat) (cap - l.toNat)) w := by
  have e1 : ∀ code, (Instr.sliceBound (.int .i64 h) cap code).run P w = .ok h.toNat w := fun code => z1fb (by omega) (by omega)
  have e2 : ∀ code, (Instr.sliceBound (.int .i64 l) h.toNat code).run P w = .ok l.toNat w := fun code => z1fb (by omega) (by omega)
  rcases hlo with rfl | ⟨rfl, rfl⟩ <;> rcases hhi with rfl | ⟨rfl, hh⟩
  · simp [Instr.slice, Instr.sliceBounds, run_underlying hu, e1, e2, hz w]
  · subst hh
    have e2' : ∀ code, (Instr.sliceBound (.int .i64 l) rows.length code).run P w = .ok l.toNat w := fun code => z1fb (by omega) (by omega)
    simp [Instr.slice, Instr.sliceBounds, run_underlying hu, e2', hz w]
  · simp [Instr.slice, Instr.sliceBounds, run_underlying hu, e1, hz w]
  · subst hh; simp [Instr.slice, Instr.sliceBounds, run_underlying hu, hz w]
theorem z215 {rows : List (List Cell)} {lo hi : Operand} {l h : Int} (hu : P.underlying t = some (.slice e)) (hz : ∀ w, (Go.sizeOf e).run P w = .ok k w) (hb : 0 ≤ l ∧ l ≤ h ∧ h ≤ rows.length) (hn : d < n) :
    OpL0 P n ⟨some d, .slice t x (some lo) (some hi) none, ty, pos, after, g⟩ [.opd x (.c (.sl false k rows)), .opd lo (aInt l), .opd hi (aInt h)] [.set d (.c (.sl false k ((rows.take h.toNat).drop l.toNat)))] :=
  z01g rfl hn fun _ _ _ _ _ _ st a w _ hT hs => by
    have h0 := hT.eval (at0 hs) (z199 _ _)
    have h1 := hT.lit (at1 hs)
    have h2 := hT.lit (at2 hs)
    cases h0 with | c h0 =>
    obtain ⟨a0, len, cap, he, rfl, hc, ho⟩ := z1qc h0 (lo := l.toNat) (hi := h.toNat) (by omega) (by omega)
    refine ⟨_, ?_, fun _ => .c ho⟩
    have := z1ff (P := P) (t := t) (rows := rows) (a0 := a0) (cap := cap) (w := w) hu hz (.inl rfl) (.inl rfl) hb hc
    simp [execOp, he, h1, h2, this, Instr.sliceAt, run_underlying hu]
theorem z1q6 {rows : List (List Cell)} {hi : Operand} {h : Int} (hu : P.underlying t = some (.slice e)) (hz : ∀ w, (Go.sizeOf e).run P w = .ok k w) (hb : 0 ≤ h ∧ h ≤ rows.length) (hn : d < n) :
    OpL0 P n ⟨some d, .slice t x none (some hi) none, ty, pos, after, g⟩ [.opd x (.c (.sl false k rows)), .opd hi (aInt h)] [.set d (.c (.sl false k (rows.take h.toNat)))] :=
  z01g rfl hn fun _ _ _ _ _ _ st a w _ hT hs => by
    have h0 := hT.eval (at0 hs) (z199 _ _)
    have h2 := hT.lit (at1 hs)
    cases h0 with | c h0 =>
    obtain ⟨a0, len, cap, he, rfl, hc, ho⟩ := z1qc h0 (lo := 0) (hi := h.toNat) (by omega) (by omega)
    refine ⟨_, ?_, fun _ => .c (by simpa using ho)⟩
    have := z1ff (P := P) (t := t) (rows := rows) (a0 := a0) (cap := cap) (w := w) (l := 0) hu hz (.inr ⟨rfl, rfl⟩) (.inl rfl) ⟨by omega, hb⟩ hc
    simp [execOp, he, h2, this, Instr.sliceAt, run_underlying hu]
theorem z1q7 {rows : List (List Cell)} {lo : Operand} {l : Int} (hu : P.underlying t = some (.slice e)) (hz : ∀ w, (Go.sizeOf e).run P w = .ok k w) (hb : 0 ≤ l ∧ l ≤ rows.length) (hn : d < n) :
    OpL0 P n ⟨some d, .slice t x (some lo) none none, ty, pos, after, g⟩ [.opd x (.c (.sl false k rows)), .opd lo (aInt l)] [.set d (.c (.sl false k (rows.drop l.toNat)))] :=
  z01g rfl hn fun _ _ _ _ _ _ st a w _ hT hs => by
    have h0 := hT.eval (at0 hs) (z199 _ _)
    have h1 := hT.lit (at1 hs)
    cases h0 with | c h0 =>
    obtain ⟨a0, len, cap, he, rfl, hc, ho⟩ := z1qc h0 (lo := l.toNat) (hi := rows.length) (by omega) (Nat.le_refl _)
    refine ⟨_, ?_, fun _ => .c (by simpa using ho)⟩
    have := z1ff (P := P) (t := t) (rows := rows) (a0 := a0) (cap := cap) (w := w) (h := rows.length) hu hz (.inl rfl) (.inr ⟨rfl, rfl⟩) ⟨hb.1, by omega, by omega⟩ hc
    simp [execOp, he, h1, this, Instr.sliceAt, run_underlying hu]
theorem z27b {t' : TypeId} {i j : Int} (hn : d < n) (h : 0 ≤ j ∧ j ≤ 63) :
    OpL0 P n ⟨some d, .binOp .shr t x y t', ty, pos, after, g⟩ [.opd x (aInt i), .opd y (aInt j)] [.set d (aInt (i.fdiv (2 ^ j.toNat)))] :=
  z0pa hn fun w => by
    have h1 : ¬ j < 0 := by omega
    have h2 : min j.toNat 64 = j.toNat := by omega
    have : binOp .shr t (.int .i64 i) (.int .i64 j) = Op.shift .shr .i64 i .i64 j := rfl
    have hg : eqGuard .shr t x y (.int .i64 i) (.int .i64 j) = pure () := rfl
    rw [hg, this]
    simp [Op.shift, h1, IntKind.bits, h2]
theorem z26y {t' : TypeId} {i j : Int} (hn : d < n) :
    OpL0 P n ⟨some d, .binOp .and t x y t', ty, pos, after, g⟩ [.opd x (aInt i), .opd y (aInt j)] [.set d (aInt (IntKind.i64.wrap (BitVec.ofInt 64 i &&& BitVec.ofInt 64 j).toNat))] :=
  z0pa hn fun w => by
    have : binOp .and t (.int .i64 i) (.int .i64 j) = Op.intBits .and .i64 i j := rfl
    have hg : eqGuard .and t x y (.int .i64 i) (.int .i64 j) = pure () := rfl
    rw [hg, this]; rfl
theorem z27d {t' : TypeId} {i j : Int} (hn : d < n) :
    OpL0 P n ⟨some d, .binOp .xor t x y t', ty, pos, after, g⟩ [.opd x (aInt i), .opd y (aInt j)] [.set d (aInt (IntKind.i64.wrap (BitVec.ofInt 64 i ^^^ BitVec.ofInt 64 j).toNat))] :=
  z0pa hn fun w => by
    have : binOp .xor t (.int .i64 i) (.int .i64 j) = Op.intBits .xor .i64 i j := rfl
    have hg : eqGuard .xor t x y (.int .i64 i) (.int .i64 j) = pure () := rfl
    rw [hg, this]; rfl
def flatF (P : Program) (ti : TypeId) : List Field → Nat → Bool
  | [], _ => true
  | f :: fs, off => Nat.beq f.type ti && (Nat.beq f.offset off && (!(f.name == "_") && flatF P ti fs (off + 1)))
theorem z1yz {ti : TypeId} {w : World} {dp : Nat} (ht : P.underlying ti = some (.int .i64)) (ha : ∀ w, (isAgg ti).run P w = .ok false w) : ∀ (fs : List Field) (off : Nat) (us vs : List Int), flatF P ti fs off = true → us.length = off + fs.length → vs.length = off + fs.length →
    (Op.eqFields (dp + 1) (us.map fun i => Value.int .i64 i).toArray (vs.map fun i => Value.int .i64 i).toArray fs).run P w = .ok (decide (us.drop off = vs.drop off)) w
  | [], off, us, vs, _, h1, h2 => by
    rw [List.drop_eq_nil_of_le (by simp at h1; omega), List.drop_eq_nil_of_le (by simp at h2; omega)]; simp [Op.eqFields]
  | f :: fs, off, us, vs, hf, h1, h2 => by
    simp only [flatF, Bool.and_eq_true, Bool.not_eq_true'] at hf
    obtain ⟨g1, g2, g3, g4⟩ := hf
    have e1 := Nat.eq_of_beq_eq_true g1
    have e2 := Nat.eq_of_beq_eq_true g2
    have hn : f.name ≠ "_" := by simpa using g3
    have l1 : off < us.length := by simp at h1; omega
    have l2 : off < vs.length := by simp at h2; omega
    have p1 : ∀ (l : List Int) (h : off < l.length) (w : World), (part f.type (l.map fun i => Value.int .i64 i).toArray f.offset).run P w = .ok (.int .i64 l[off]) w := by
      intro l h w
      rw [e1, e2]
      simp [part, ha, h]
    have ih := z1yz (w := w) (dp := dp) ht ha fs (off + 1) us vs g4 (by simp at h1; omega) (by simp at h2; omega)
    have p2 : (Op.equalIn (dp + 1) f.type (.int .i64 us[off]) (.int .i64 vs[off])).run P w = .ok (us[off] == vs[off]) w := by rw [e1]; exact run_equalIn_int w dp ti .i64 .i64 _ _ ht
    simp only [Op.eqFields, hn, ne_eq, not_false_eq_true, if_true, Sem.run_bind, p1 us l1, p1 vs l2, Result.andThen_ok, p2]
    rw [List.drop_eq_getElem_cons l1, List.drop_eq_getElem_cons l2]
    by_cases e : us[off] = vs[off]
    · simp only [e, BEq.rfl, Bool.not_true, Bool.false_eq_true, if_false, ih, List.cons.injEq, true_and]
    · have : (us[off] == vs[off]) = false := by simp [e]
      simp only [this, Bool.not_false, if_true, Sem.run_pure, List.cons.injEq, e, false_and, decide_false]
inductive RowI : List Cell → List Int → Prop
  | nil : RowI [] []
  | cons {i : Int} {cs : List Cell} {l : List Int} (t : RowI cs l) : RowI (.lit (.int .i64 i) :: cs) (i :: l)
inductive AggI : List AV → List Int → Prop
  | nil : AggI [] []
  | cons {i : Int} {cs : List AV} {l : List Int} (t : AggI cs l) : AggI (aInt i :: cs) (i :: l)
inductive IntsOf : AV → List Int → Prop
  | row {cs : List Cell} {l : List Int} (h : RowI cs l) : IntsOf (.row cs) l
  | agg {cs : List AV} {l : List Int} (h : AggI cs l) : IntsOf (.agg cs) l
theorem RowI.eq {cs : List Cell} {l : List Int} (h : RowI cs l) : cs = l.map fun i => .lit (.int .i64 i) := by induction h <;> simp [*]
theorem AggI.eq {cs : List AV} {l : List Int} (h : AggI cs l) : cs = l.map fun i => aInt i := by induction h <;> simp [*]
theorem z0v9 {pn : Nat → Option Value} {w0 w : World} {A0 F0 : Blks} {hv : Nat → Value} {T : Nat → Blks} {st : St} {a : Act} (hT : StSim n pn w0 A0 F0 hv T st a w) {x : Operand} {av : AV} {l : List Int} (h : IntsOf av l) (hx : opIs st x av) :
    a.eval x = .agg (l.map fun i => Value.int .i64 i).toArray := by
  have hl : Live st.obj av := by
    cases h with
    | row h => exact z243 _ _
    | agg h =>
      rw [h.eq]
      intro id hid
      exfalso
      have : ∀ l : List Int, idsL (l.map fun i => aInt i) = [] := fun l => by induction l with | nil => rfl | cons i l ih => simp [idsL, AV.ids, ih]
      simp [AV.ids, this] at hid
  have h0 := hT.eval hx hl
  generalize hv : a.eval x = v at h0
  have fin : ∀ (vs : Array Value), vs.size = l.length → (∀ i (h : i < l.length), vs[i]? = some (.int .i64 l[i])) → Value.agg vs = .agg (l.map fun i => Value.int .i64 i).toArray := by
    intro vs h1 h2
    congr 1
    refine Array.ext (by simpa using h1) fun i hi hi2 => ?_
    have := h2 i (by omega)
    rw [Array.getElem?_eq_getElem hi] at this
    simpa using Option.some.inj this
  cases h with
  | row h =>
    cases h0 with
    | @row _ vs hs hh =>
      have e := h.eq
      refine fin vs (by rw [hs, e]; simp) fun i hi => ?_
      have hi2 : i < vs.size := by rw [hs, e]; simpa using hi
      have := hh i (.lit (.int .i64 l[i])) vs[i] (by rw [e]; simp [hi]) (by simp [hi2])
      rw [Array.getElem?_eq_getElem hi2]
      generalize vs[i] = u at this
      cases this; rfl
  | agg h =>
    cases h0 with
    | @agg _ vs hs hh =>
      have e := h.eq
      refine fin vs (by rw [hs, e]; simp) fun i hi => ?_
      have hi2 : i < vs.size := by rw [hs, e]; simpa using hi
      have := hh i (aInt l[i]) vs[i] (by rw [e]; simp [hi]) (by simp [hi2])
      rw [Array.getElem?_eq_getElem hi2]
      generalize vs[i] = u at this
      cases this with
      | c ho => cases ho; rfl
theorem z1uw {t' ti : TypeId} {ax ay : AV} {us vs : List Int} (hu : P.underlying t = some (.struct (P.fieldsOf t))) (hp : P.stoodInHeld t = false) (hm : P.eqGuardType P.depth t = false)
    (ht : P.underlying ti = some (.int .i64)) (ha : ∀ w, (isAgg ti).run P w = .ok false w) (hf : flatF P ti (P.fieldsOf t).toList 0 = true) (h1 : IntsOf ax us) (h2 : IntsOf ay vs)
    (l1 : Nat.beq us.length (P.fieldsOf t).toList.length = true) (l2 : Nat.beq vs.length (P.fieldsOf t).toList.length = true) (hn : d < n) :
    OpL0 P n ⟨some d, .binOp .eql t x y t', ty, pos, after, g⟩ [.opd x ax, .opd y ay] [.set d (aBool (decide (us = vs)))] :=
  z01g rfl hn fun _ _ _ _ _ _ st a w _ hT hs => by
    have e1 := z0v9 hT h1 (at0 hs)
    have e2 := z0v9 hT h2 (at1 hs)
    refine ⟨.bool (decide (us = vs)), ?_, fun _ => .c (.lit _)⟩
    have r := z1yz (w := w) (dp := 9998) ht ha (P.fieldsOf t).toList 0 us vs hf (by have := Nat.eq_of_beq_eq_true l1; omega) (by have := Nat.eq_of_beq_eq_true l2; omega)
    simp only [List.drop_zero] at r
    have r2 := run_equalIn_agg w 9999 t (us.map fun i => Value.int .i64 i).toArray (vs.map fun i => Value.int .i64 i).toArray hu hp
    rw [show (9999 + 1 : Nat) = 10000 from rfl] at r2
    simp only [execOp, e1, e2, Sem.run_bind, run_eqGuard_agg w _ _ _ _ _ _ hm, Result.andThen_ok, run_eql_struct, r2, r, Sem.run_pure]
theorem z1v3 {t' ti : TypeId} {ax ay : AV} {us vs : List Int} (hu : P.underlying t = some (.struct (P.fieldsOf t))) (hp : P.stoodInHeld t = false) (hm : P.eqGuardType P.depth t = false)
    (ht : P.underlying ti = some (.int .i64)) (ha : ∀ w, (isAgg ti).run P w = .ok false w) (hf : flatF P ti (P.fieldsOf t).toList 0 = true) (h1 : IntsOf ax us) (h2 : IntsOf ay vs)
    (l1 : Nat.beq us.length (P.fieldsOf t).toList.length = true) (l2 : Nat.beq vs.length (P.fieldsOf t).toList.length = true) (hn : d < n) :
    OpL0 P n ⟨some d, .binOp .neq t x y t', ty, pos, after, g⟩ [.opd x ax, .opd y ay] [.set d (aBool (!decide (us = vs)))] :=
  z01g rfl hn fun _ _ _ _ _ _ st a w _ hT hs => by
    have e1 := z0v9 hT h1 (at0 hs)
    have e2 := z0v9 hT h2 (at1 hs)
    refine ⟨.bool (!decide (us = vs)), ?_, fun _ => .c (.lit _)⟩
    have r := z1yz (w := w) (dp := 9998) ht ha (P.fieldsOf t).toList 0 us vs hf (by have := Nat.eq_of_beq_eq_true l1; omega) (by have := Nat.eq_of_beq_eq_true l2; omega)
    simp only [List.drop_zero] at r
    have r2 := run_equalIn_agg w 9999 t (us.map fun i => Value.int .i64 i).toArray (vs.map fun i => Value.int .i64 i).toArray hu hp
    rw [show (9999 + 1 : Nat) = 10000 from rfl] at r2
    simp only [execOp, e1, e2, Sem.run_bind, run_eqGuard_agg w _ _ _ _ _ _ hm, Result.andThen_ok, run_neq_struct, r2, r, Sem.run_pure]
end
end Go.Am
end
section
namespace Go.Am
open Go
theorem z03y {P : Program} {t : TypeId} {it : TypeInfo} {z : Value} {fields : Array Field} {places : List (Nat × Nat)} {zc : Array Value} (h1 : P.info? t = some it) (h2 : P.underlying t = some (.struct fields)) (h3 : it.zero = some z)
    (h4 : fields.toList.mapM (fun f => (P.info? f.type).map fun i => (f.offset, i.size)) = some places) (h5 : z.cells = zc) : ∀ ps, P.built t ps = Instr.fill (fun i => places.toArray[i]?) zc ps := by
  intro ps
  unfold Program.built
  rw [h1, h2]
  simp only [h3, h4, h5]
theorem z1da {α : Type} {l : List α} {i : Int} {v v2 : α} (h : getI l i = some v) : getI (l.set i.toNat v2) i = some v2 := by
  obtain ⟨h1, h2, _⟩ := z0gx h
  unfold getI; rw [if_pos h1]; simp [h2]
def shrI (i j : Int) : Int := i.fdiv (2 ^ j.toNat)
def andI (i j : Int) : Int := IntKind.i64.wrap (BitVec.ofInt 64 i &&& BitVec.ofInt 64 j).toNat
def xorI (i j : Int) : Int := IntKind.i64.wrap (BitVec.ofInt 64 i ^^^ BitVec.ofInt 64 j).toNat
theorem rowB : RowOk 1 (fun _ b => [cB b]) where
  len := fun _ _ => rfl
  share := fun _ _ => rfl
  nobox := fun _ x c hc => by simp at hc; subst hc; exact .lit _
  solid := fun _ => rfl
  plain := fun _ => rfl
  ok := fun _ x c hc => by simp at hc; subst hc; rfl
theorem rowIs : RowOk 1 (fun o l => [cIs o l]) where
  len := fun _ _ => rfl
  share := fun o l => by simp only [shareRow, z08i]
  nobox := fun o x c hc => by simp at hc; subst hc; exact z0b8 _ _
  solid := fun l => by simp [solidRow, z08j]
  plain := fun l => rfl
  ok := fun o x c hc => by simp at hc; subst hc; rfl
section
variable {P : Program} {n : Nat} {Q : Exit → St → Prop} {st : St}
variable {d : Nat} {ty : TypeId} {pos : String} {after : Array Edge} {g : Option (Nat × Bool)} {t e : TypeId} {x y : Operand} {k : Nat}
theorem z268 {t' : TypeId} {i j : Int} (hn : d < n) (h : 0 ≤ j ∧ j ≤ 63) : OpL0 P n ⟨some d, .binOp .shr t x y t', ty, pos, after, g⟩ [.opd x (aInt i), .opd y (aInt j)] [.set d (aInt (shrI i j))] := z27b hn h
theorem z263 {t' : TypeId} {i j : Int} (hn : d < n) : OpL0 P n ⟨some d, .binOp .and t x y t', ty, pos, after, g⟩ [.opd x (aInt i), .opd y (aInt j)] [.set d (aInt (andI i j))] := z26y hn
theorem z269 {t' : TypeId} {i j : Int} (hn : d < n) : OpL0 P n ⟨some d, .binOp .xor t x y t', ty, pos, after, g⟩ [.opd x (aInt i), .opd y (aInt j)] [.set d (aInt (xorI i j))] := z27d hn
section
variable {α : Type} {f : α → List Cell} {ls : List α}
theorem z1yl {lo hi : Operand} {l h : Int} (hu : P.underlying t = some (.slice e)) (hz : ∀ w, (Go.sizeOf e).run P w = .ok k w) (hb : 0 ≤ l ∧ l ≤ h ∧ h ≤ (ls.length : Int)) (hn : d < n) :
    OpL0 P n ⟨some d, .slice t x (some lo) (some hi) none, ty, pos, after, g⟩ [.opd x (.c (.sl false k (ls.map f))), .opd lo (aInt l), .opd hi (aInt h)] [.set d (.c (.sl false k (((ls.take h.toNat).drop l.toNat).map f)))] := by
  have := z215 (P := P) (n := n) (d := d) (ty := ty) (pos := pos) (after := after) (g := g) (x := x) (lo := lo) (hi := hi) (rows := ls.map f) hu hz (by simpa using hb) hn
  simpa only [List.map_take, List.map_drop] using this
theorem z1l9 {hi : Operand} {h : Int} (hu : P.underlying t = some (.slice e)) (hz : ∀ w, (Go.sizeOf e).run P w = .ok k w) (hb : 0 ≤ h ∧ h ≤ (ls.length : Int)) (hn : d < n) :
    OpL0 P n ⟨some d, .slice t x none (some hi) none, ty, pos, after, g⟩ [.opd x (.c (.sl false k (ls.map f))), .opd hi (aInt h)] [.set d (.c (.sl false k ((ls.take h.toNat).map f)))] := by
  have := z1q6 (P := P) (n := n) (d := d) (ty := ty) (pos := pos) (after := after) (g := g) (x := x) (hi := hi) (rows := ls.map f) hu hz (by simpa using hb) hn
  simpa only [List.map_take, List.map_drop] using this
theorem z1la {lo : Operand} {l : Int} (hu : P.underlying t = some (.slice e)) (hz : ∀ w, (Go.sizeOf e).run P w = .ok k w) (hb : 0 ≤ l ∧ l ≤ (ls.length : Int)) (hn : d < n) :
    OpL0 P n ⟨some d, .slice t x (some lo) none none, ty, pos, after, g⟩ [.opd x (.c (.sl false k (ls.map f))), .opd lo (aInt l)] [.set d (.c (.sl false k ((ls.drop l.toNat).map f)))] := by
  have := z1q7 (P := P) (n := n) (d := d) (ty := ty) (pos := pos) (after := after) (g := g) (x := x) (lo := lo) (rows := ls.map f) hu hz (by simpa using hb) hn
  simpa only [List.map_take, List.map_drop] using this
end
theorem Absorb.append {ys zs : List AV} {cs ds : List Cell} {os os' : Objs} (h : Absorb ys cs os) (h2 : Absorb zs ds os') (hd : (os.all fun p => os'.all fun q => !Nat.beq q.1 p.1) = true) : Absorb (ys ++ zs) (cs ++ ds) (os ++ os') := by
  induction h with
  | nil => exact h2
  | c hp t ih => exact .c hp (ih hd)
  | nilc t ih => exact .nilc (ih hd)
  | @ref id k rows ys cs os hn t ih =>
    simp only [List.all_cons, Bool.and_eq_true] at hd
    refine .ref ?_ (ih hd.2)
    show ((os ++ os').any fun p => Nat.beq p.1 id) = false
    rw [List.any_append, hn, Bool.false_or]
    rw [List.any_eq_false]
    intro q hq
    have := List.all_eq_true.1 hd.1 q hq
    intro e
    rw [e] at this; cases this
inductive AbsorbL (k : Nat) : List AV → List (List Cell) → Objs → List (List AV) → Prop
  | nil : AbsorbL k [] [] [] []
  | cons {av : AV} {avs : List AV} {row : List Cell} {rows : List (List Cell)} {os os' : Objs} {ys : List AV} {yss : List (List AV)} (hc : av.cells? = some ys) (h1 : Nat.beq ys.length k = true) (h2 : Nat.beq row.length k = true) (h : Absorb ys row os) (t : AbsorbL k avs rows os' yss)
      (hd : (os.all fun p => os'.all fun q => !Nat.beq q.1 p.1) = true) : AbsorbL k (av :: avs) (row :: rows) (os ++ os') (ys :: yss)
theorem AbsorbL.flat {avs : List AV} {rows : List (List Cell)} {os : Objs} {yss : List (List AV)} (h : AbsorbL k avs rows os yss) :
    avs.map AV.cells? = yss.map some ∧ (∀ ys ∈ yss, ys.length = k) ∧ Absorb yss.flatten rows.flatten os ∧ (∀ r ∈ rows, r.length = k) := by
  induction h with
  | nil => exact ⟨rfl, by simp, .nil, by simp⟩
  | cons hc h1 h2 h t hd ih =>
    obtain ⟨i1, i2, i3, i4⟩ := ih
    refine ⟨by simp [hc, i1], ?_, by simpa using h.append i3 hd, ?_⟩
    · intro ys hys
      rcases List.mem_cons.1 hys with rfl | hys
      · exact Nat.eq_of_beq_eq_true h1
      · exact i2 ys hys
    · intro r hr
      rcases List.mem_cons.1 hr with rfl | hr
      · exact Nat.eq_of_beq_eq_true h2
      · exact i4 r hr
theorem z1f7 {bytes len : Nat} {parts : List (Nat × Operand)} {avs : List AV} {yss : List (List AV)} {rows : List (List Cell)} {os : Objs}
    (hty : ElemTy P t e k bytes) (hd : parts.map (·.1) = List.range len) (hl : parts.length = avs.length) (hab : AbsorbL k avs rows os yss) (hlen : rows.length = len) (h0 : Nat.blt 0 len = true) (hbig : Nat.ble (len * k) 16777216 = true) (hn : d < n) :
    OpL0 P n ⟨some d, .buildSlice t len parts.toArray, ty, pos, after, g⟩ (opds (parts.map (·.2)) avs ++ (.fresh d :: (objReqs os ++ lives (idsL avs))))
      (dels (os.map (·.1)) ++ [.put d (.arr k rows), .set d (.ref d [])]) := by
  obtain ⟨h1, h2, h3, h4⟩ := hab.flat
  have := z1l5 (P := P) (n := n) (d := d) (ty := ty) (pos := pos) (after := after) (g := g) hty hd hl h1 h2 h3 h4 hlen (Nat.lt_of_succ_le (Nat.le_of_ble_eq_true h0)) (Nat.le_of_ble_eq_true hbig) hn
  exact this
end
end Go.Am
end
section
namespace Go.Am
open Go Go.Proofs
theorem elem240 : ElemTy Tryz.prog 240 4 Tryz.t4.size Tryz.t4.bytes := ⟨Tryz.underlying240, ⟨Tryz.t4, _, by kernel_rfl, rfl, rfl, rfl, rfl⟩, by decide⟩
theorem zero240 : ∀ i z, Tryz.prog.info? 4 = some i → i.zero = some z → z.cells.toList = (Tryz.t4.zero.getD undef).cells.toList := by intro i z h1 h2; have h3 : Tryz.prog.info? 4 = some Tryz.t4 := (by kernel_rfl); rw [h3] at h1; cases h1; rw [h2]; rfl
theorem built42 : ∀ ps, Tryz.prog.built 42 ps = Instr.fill (fun i => [(0, 1), (1, 1), (2, 1)].toArray[i]?) #[.int .i64 0, .int .i64 0, .int .i64 0] ps := z03y (it := Tryz.t42) (z := .agg #[.int .i64 0, .int .i64 0, .int .i64 0]) (by kernel_rfl) Tryz.underlying42 (by kernel_rfl) (by kernel_rfl) rfl
theorem eqfacts42 : Tryz.prog.underlying 42 = some (.struct (Tryz.prog.fieldsOf 42)) ∧ Tryz.prog.stoodInHeld 42 = false ∧ Tryz.prog.eqGuardType Tryz.prog.depth 42 = false ∧ flatF Tryz.prog 3 (Tryz.prog.fieldsOf 42).toList 0 = true := ⟨by kernel_rfl, by kernel_rfl, by kernel_rfl, by kernel_rfl⟩
theorem built234 : ∀ ps, Tryz.prog.built 234 ps = Instr.fill (fun i => [(0, 1), (1, 3)].toArray[i]?) #[.int .i64 0, .int .i64 0, .int .i64 0, .int .i64 0] ps := z03y (it := Tryz.t234) (z := .agg #[.int .i64 0, .int .i64 0, .int .i64 0, .int .i64 0]) (by kernel_rfl) Tryz.underlying234 (by kernel_rfl) (by kernel_rfl) rfl
theorem built187 : ∀ ps, Tryz.prog.built 187 ps = Instr.fill (fun i => [(0, 1), (1, 1), (2, 1), (3, 1), (4, 1), (5, 1), (6, 1), (7, 1), (8, 1)].toArray[i]?) #[.int .i64 0, .int .i64 0, .slice none 0 0, .slice none 0 0, .slice none 0 0, .int .i64 0, .int .i64 0, .int .i64 0, .int .i64 0] ps := z03y (it := Tryz.t187) (z := .agg #[.int .i64 0, .int .i64 0, .slice none 0 0, .slice none 0 0, .slice none 0 0, .int .i64 0, .int .i64 0, .int .i64 0, .int .i64 0]) (by kernel_rfl) Tryz.underlying187 (by kernel_rfl) (by kernel_rfl) rfl
theorem built81 : ∀ ps, Tryz.prog.built 81 ps = Instr.fill (fun i => [(0, 1), (1, 1)].toArray[i]?) #[.int .i64 0, .slice none 0 0] ps := z03y (it := Tryz.t81) (z := .agg #[.int .i64 0, .slice none 0 0]) (by kernel_rfl) Tryz.underlying81 (by kernel_rfl) (by kernel_rfl) rfl
theorem built137 : ∀ ps, Tryz.prog.built 137 ps = Instr.fill (fun i => [(0, 1), (1, 1), (2, 1)].toArray[i]?) #[.int .i64 0, .int .i64 0, .int .i64 0] ps := z03y (it := Tryz.t137) (z := .agg #[.int .i64 0, .int .i64 0, .int .i64 0]) (by kernel_rfl) Tryz.underlying137 (by kernel_rfl) (by kernel_rfl) rfl
theorem eqfacts137 : Tryz.prog.underlying 137 = some (.struct (Tryz.prog.fieldsOf 137)) ∧ Tryz.prog.stoodInHeld 137 = false ∧ Tryz.prog.eqGuardType Tryz.prog.depth 137 = false ∧ flatF Tryz.prog 3 (Tryz.prog.fieldsOf 137).toList 0 = true := ⟨by kernel_rfl, by kernel_rfl, by kernel_rfl, by kernel_rfl⟩
theorem built154 : ∀ ps, Tryz.prog.built 154 ps = Instr.fill (fun i => [(0, 1), (1, 1)].toArray[i]?) #[.int .i64 0, .int .i64 0] ps := z03y (it := Tryz.t154) (z := .agg #[.int .i64 0, .int .i64 0]) (by kernel_rfl) Tryz.underlying154 (by kernel_rfl) (by kernel_rfl) rfl
theorem eqfacts154 : Tryz.prog.underlying 154 = some (.struct (Tryz.prog.fieldsOf 154)) ∧ Tryz.prog.stoodInHeld 154 = false ∧ Tryz.prog.eqGuardType Tryz.prog.depth 154 = false ∧ flatF Tryz.prog 3 (Tryz.prog.fieldsOf 154).toList 0 = true := ⟨by kernel_rfl, by kernel_rfl, by kernel_rfl, by kernel_rfl⟩
theorem built76 : ∀ ps, Tryz.prog.built 76 ps = Instr.fill (fun i => [(0, 1), (1, 1), (2, 1), (3, 1), (4, 1)].toArray[i]?) #[.int .i64 0, .slice none 0 0, .slice none 0 0, .slice none 0 0, .slice none 0 0] ps := z03y (it := Tryz.t76) (z := .agg #[.int .i64 0, .slice none 0 0, .slice none 0 0, .slice none 0 0, .slice none 0 0]) (by kernel_rfl) Tryz.underlying76 (by kernel_rfl) (by kernel_rfl) rfl
theorem built168 : ∀ ps, Tryz.prog.built 168 ps = Instr.fill (fun i => [(0, 3), (3, 1), (4, 1), (5, 1), (6, 1)].toArray[i]?) #[.int .i64 0, .int .i64 0, .int .i64 0, .int .i64 0, .int .i64 0, .int .i64 0, .slice none 0 0] ps := z03y (it := Tryz.t168) (z := .agg #[.int .i64 0, .int .i64 0, .int .i64 0, .int .i64 0, .int .i64 0, .int .i64 0, .slice none 0 0]) (by kernel_rfl) Tryz.underlying168 (by kernel_rfl) (by kernel_rfl) rfl
theorem built124 : ∀ ps, Tryz.prog.built 124 ps = Instr.fill (fun i => [(0, 1), (1, 5)].toArray[i]?) #[.int .i64 0, .int .i64 0, .slice none 0 0, .slice none 0 0, .slice none 0 0, .slice none 0 0] ps := z03y (it := Tryz.t124) (z := .agg #[.int .i64 0, .int .i64 0, .slice none 0 0, .slice none 0 0, .slice none 0 0, .slice none 0 0]) (by kernel_rfl) Tryz.underlying124 (by kernel_rfl) (by kernel_rfl) rfl
theorem built38 : ∀ ps, Tryz.prog.built 38 ps = Instr.fill (fun i => [(0, 1), (1, 1), (2, 1), (3, 1)].toArray[i]?) #[.slice none 0 0, .slice none 0 0, .slice none 0 0, .slice none 0 0] ps := z03y (it := Tryz.t38) (z := .agg #[.slice none 0 0, .slice none 0 0, .slice none 0 0, .slice none 0 0]) (by kernel_rfl) Tryz.underlying38 (by kernel_rfl) (by kernel_rfl) rfl
theorem built44 : ∀ ps, Tryz.prog.built 44 ps = Instr.fill (fun i => [(0, 1), (1, 1), (2, 1), (3, 1), (4, 1), (5, 1), (6, 1), (7, 3), (10, 1)].toArray[i]?) #[.int .i64 0, .int .i64 0, .int .i64 0, .int .i64 0, .int .i64 0, .int .i64 0, .slice none 0 0, .int .i64 0, .int .i64 0, .int .i64 0, .int .i64 0] ps := z03y (it := Tryz.t44) (z := .agg #[.int .i64 0, .int .i64 0, .int .i64 0, .int .i64 0, .int .i64 0, .int .i64 0, .slice none 0 0, .int .i64 0, .int .i64 0, .int .i64 0, .int .i64 0]) (by kernel_rfl) Tryz.underlying44 (by kernel_rfl) (by kernel_rfl) rfl
end Go.Am
end
section
namespace Go.Am
open Go
def FnOk (P : Program) (f : FuncId) : Prop := ∃ fn c, P.funcs[f]? = some fn ∧ (fn.name == "runtime.NumGoroutine") = false ∧ fn.body = some c
mutual
theorem z25r : ∀ (x : Arg), x.plain = true → Giv x.av x [] []
  | .c x, h => .c h
  | .row xs, h => .row h
  | .fn f caps, h => z134 f caps h
  | .pts xs, h => .pts h
theorem z134 (f : FuncId) : ∀ (l : List Arg), plainArgs l = true → Giv (.fn f (argAVs l)) (.fn f l) [] []
  | [], _ => .fnNil
  | x :: l, h => by
    simp only [plainArgs, Bool.and_eq_true] at h
    exact .fnCons (z25r x h.1) (z134 f l h.2)
end
theorem z1rv : ∀ (l : List Arg), plainArgs l = true → GivL (argAVs l) l [] []
  | [], _ => .nil
  | x :: l, h => by
    simp only [plainArgs, Bool.and_eq_true] at h
    exact .cons (z25r x h.1) (z1rv l h.2) rfl
section
variable {P : Program} {n : Nat} {d : Nat} {ty : TypeId} {pos : String} {after : Array Edge} {g : Option (Nat × Bool)} {tys : Array TypeId}
theorem z24b {t x : Operand} {f : FuncId} {av : AV} {arg : Arg} {caps : List Arg} {b : Bool} {ls : Obs} (hf : FnOk P f) (hc : plainArgs caps = true) (hF : FnB P f (arg :: caps) [.c (.lit (.bool b))] []) (hg : Giv av arg ls []) (hn : d < n) :
    OpL0 P n ⟨some d, .call ⟨.value t, #[x], tys⟩, ty, pos, after, g⟩ (.opd t (.fn f (argAVs caps)) :: (opds [x] [av] ++ (freshL [] ++ needsO (ls ++ [])))) [.set d (aBool b)] := by
  obtain ⟨fn, c, h1, h2, h3⟩ := hf
  have hgl : GivL ([av] ++ argAVs caps) (arg :: caps) (ls ++ []) ([] ++ []) := .cons hg (z1rv caps hc) rfl
  have := z24c (P := P) (n := n) (d := d) (ty := ty) (pos := pos) (after := after) (g := g) (tys := tys) (t := t) (xs := [x]) (avs := [av]) (ks := []) h1 h2 h3 hF hgl rfl (by simp [noCommon]) (.inr ⟨fun x hx => by simp at hx; subst hx; rfl, fun p hp => (by cases hp)⟩) .nil rfl rfl hn
  simpa [callU, openRes, openArg, openCell, asObs, dels, killsU, putsO] using this
end
end Go.Am
end
section
namespace Go.Am
open Go
def insKey (keys : List Int) (n : Int) : List Int := if n ∈ keys then keys else keys ++ [n]
theorem z12o {n : Int} : ∀ {keys : List Int} {l : List MapEntry} (i : Nat), l.map (fun e => (e.key, e.val)) = keys.map (fun n => (Value.int .i64 n, Value.bool true)) →
    (n ∈ keys → ∃ q, q < l.length ∧ (l[q]?).map (·.key) = some (.int .i64 n) ∧ Instr.findNow (.int .i64) (.int .i64 n) l i = some (some (i + q, .bool true))) ∧ (n ∉ keys → Instr.findNow (.int .i64) (.int .i64 n) l i = some none)
  | [], [], i, _ => ⟨fun h => by simp at h, fun _ => rfl⟩
  | [], _ :: _, i, h => by simp at h
  | _ :: _, [], i, h => by simp at h
  | k :: keys, e :: l, i, h => by
    simp only [List.map_cons, List.cons.injEq, Prod.mk.injEq] at h
    obtain ⟨⟨h1, h2⟩, h3⟩ := h
    obtain ⟨i1, i2⟩ := z12o (n := n) (i + 1) h3
    have key : Instr.findNow (.int .i64) (.int .i64 n) (e :: l) i = if n = k then some (some (i, .bool true)) else Instr.findNow (.int .i64) (.int .i64 n) l (i + 1) := by
      rw [Instr.findNow, h1, h2]
      by_cases hk : n = k
      · simp [Instr.sameNow, hk]
      · have hb : (n == k) = false := by simp [hk]
        simp [Instr.sameNow, hk, hb]
    refine ⟨fun hm => ?_, fun hm => ?_⟩
    · by_cases e : n = k
      · exact ⟨0, by simp, by simp [h1, e], by rw [key, if_pos e]; rfl⟩
      · obtain ⟨q, q1, q2, q3⟩ := i1 (by simpa [e] using hm)
        exact ⟨q + 1, by simp; omega, by simpa using q2, by rw [key, if_neg e, q3]; congr 3; omega⟩
    · simp only [List.mem_cons, not_or] at hm
      rw [key, if_neg hm.1]; exact i2 hm.2
section
variable {P : Program} {n : Nat}
variable {pn : Nat → Option Value} {w0 : World} {A0 F0 : Blks} {hv hv' : Nat → Value} {T T' : Nat → Blks} {st st' : St} {a : Act} {w w' : World}
theorem StSim.setMap (h : StSim n pn w0 A0 F0 hv T st a w) {id b : Nat} {keys keys' : List Int} {es es' : Array MapEntry} {clock clock' : Nat} (hid : st.obj id = some (.mp keys)) (hh : hv id = .map (some b)) (hb : w.heap[b]? = some (.map es clock)) (hT : T id b)
    (hnd : keys'.Nodup) (hes : MapIs keys' es') : StSim n pn w0 A0 F0 hv T ((Upd.put id (.mp keys')).app st) a { w with heap := w.heap.setIfInBounds b (.map es' clock') } := by
  obtain ⟨hs1, hs2⟩ := MapKept.heap_set (o' := .map es' clock') hb
  have hobj : ∀ i, ((Upd.put id (.mp keys')).app st).obj i = if id = i then some (.mp keys') else st.obj i := fun i => z07i _ _ _ _
  have hlive : ∀ i, (((Upd.put id (.mp keys')).app st).obj i).isSome = true → (st.obj i).isSome = true := by
    intro i hi; rw [hobj] at hi
    by_cases e : id = i
    · subst e; simp [hid]
    · rwa [if_neg e] at hi
  have hfr : Frame (fun x => ∃ d, d = id ∧ T d x) w { w with heap := w.heap.setIfInBounds b (.map es' clock') } :=
    ⟨fun x _ hx => hs2 x (fun e => hx ⟨id, rfl, by subst e; exact hT⟩), by simp, rfl, rfl⟩
  have tr : Trade w0 A0 F0 hv hv T T st.obj ((Upd.put id (.mp keys')).app st).obj (fun d => d = id) w { w with heap := w.heap.setIfInBounds b (.map es' clock') } := by
    refine ⟨fun d hd => by subst hd; simp [hid], hfr, fun i hi hnd => ⟨?_, rfl, rfl⟩, fun i hi hor x hx => ?_⟩
    · rw [hobj, if_neg (fun e => hnd e.symm)]
    · rcases hor with rfl | hno
      · exact .inl ⟨_, rfl, hx⟩
      · have := hlive i hi; rw [hno] at this; cases this
  have keep : ∀ {av : AV} {v : Value}, AVSim w (Sh A0 F0 w0 T st.obj w) hv st.obj av v → AVSim { w with heap := w.heap.setIfInBounds b (.map es' clock') } (Sh A0 F0 w0 T ((Upd.put id (.mp keys')).app st).obj { w with heap := w.heap.setIfInBounds b (.map es' clock') }) hv ((Upd.put id (.mp keys')).app st).obj av v := by
    intro av v ha
    have hblk : ∀ i, (st.obj i).isSome = true → i ≠ id → ∀ x, Sh A0 F0 w0 T st.obj w x ∨ T i x → (w.heap.setIfInBounds b (.map es' clock'))[x]? = w.heap[x]? := by
      intro i hs hne x hx
      rcases hx with hx | hx
      · exact tr.same hx
      · exact hs2 x (fun e => by subst e; exact h.dis i id hne hs (by simp [hid]) x hx hT)
    induction ha with
    | dead v => exact .dead v
    | c ho => exact .c (tr.own ho)
    | row hs hh => exact .row hs fun i x v h1 h2 => tr.own (hh i x v h1 h2)
    | @ref i p k1 k2 o rw1 rw2 v ho hg hh =>
      have hne : i ≠ id := fun e => by subst e; rw [hid] at ho; cases ho
      exact .ref (by rw [hobj, if_neg hne.symm]; exact ho) hg (Hdr.frame (h.heap i _ ho) (hblk i (by simp [ho]) hne) hh)
    | @ptr i p k1 i1 j1 k0 rw1 o rw2 b2 off len cap ho hg hh =>
      have hne : i ≠ id := fun e => by subst e; rw [hid] at ho; cases ho
      exact .ptr (n := len) (cap := cap) (by rw [hobj, if_neg hne.symm]; exact ho) hg (Hdr.frame (h.heap i _ ho) (hblk i (by simp [ho]) hne) hh)
    | @bx i j b2 xs ho hh =>
      have hne : i ≠ id := fun e => by subst e; rw [hid] at ho; cases ho
      exact .bx (by rw [hobj, if_neg hne.symm]; exact ho) hh
    | @pts xs b2 off c e fr hb2 hA hs hh => exact .pts ((tr.same hA).trans hb2) (tr.sh hA) hs fun i x v h1 h2 => tr.own (hh i x v h1 h2)
    | @mp i ks v ho hh =>
      by_cases e : id = i
      · subst e; exact .mp (by rw [hobj, if_pos rfl]) hh
      · exact .mp (by rw [hobj, if_neg e]; exact ho) hh
    | agg hs _ ih => exact .agg hs ih
    | tup hs _ ih => exact .tup hs ih
    | fn hs _ ih => exact .fn hs ih
  have lv : ∀ {av : AV}, Live ((Upd.put id (.mp keys')).app st).obj av → Live st.obj av := fun hl i hi => hlive i (hl i hi)
  refine h.trade tr h.size h.defers ?_ ?_ h.slt ?_ ?_ ?_ ?_ ?_ ?_
  · intro i j hij hi hj x h1 h2
    exact h.dis i j hij (hlive i hi.1) (hlive j hj.1) x h1 h2
  · intro i o hor ho
    rw [hobj] at ho
    by_cases e : id = i
    · subst e
      rw [if_pos rfl] at ho; cases ho
      exact ⟨b, es', clock', hh, hs1, hT, hnd, hes⟩
    · rw [if_neg e] at ho
      rcases hor with rfl | hno
      · exact absurd rfl e
      · rw [hno] at ho; cases ho
  · intro x av hx i hi; exact z00g.2 (.inl (h.uenv x av hx i hi))
  · intro i hi; exact z00g.2 (.inl (h.uobj i (hlive i hi)))
  · intro i v hp; exact ⟨z00g.2 (.inl (h.pin i v hp).1), fun hi => (h.pin i v hp).2 (hlive i hi)⟩
  · intro i xs hx j hj
    rw [hobj] at hx
    by_cases e : id = i
    · rw [if_pos e] at hx; cases hx
    · rw [if_neg e] at hx; exact z00g.2 (.inl (h.ubox i xs hx j hj))
  · intro i xs _ _ av _ hl; exact ⟨lv hl, fun v ha => keep ha⟩
  · intro x av hx hl
    obtain ⟨v, h1, h2⟩ := h.env x av hx (lv hl)
    exact ⟨v, h1, keep h2⟩
variable {d : Nat} {ty : TypeId} {pos : String} {after : Array Edge} {g : Option (Nat × Bool)} {t kt et : TypeId} {x y z : Operand}
theorem z1yk (hn : d < n) : OpL0 P n ⟨some d, .makeMap t none, ty, pos, after, g⟩ [.fresh d] [.put d (.mp []), .set d (.bx d 0)] := by
  intro pn w0 A0 F0 st a w hB hS hs K Q hK
  obtain ⟨hv, T, hT⟩ := hS
  have hf : st.used d = false := at0 hs
  have hrun : (execOp a.eval ⟨some d, .makeMap t none, ty, pos, after, g⟩).run P w = .ok (.value (.map (some w.heap.size))) (w.alloc (.map #[] 0)) := by
    simp [execOp, Instr.makeMap]
  unfold Oper.wp
  rw [hrun]
  have h1 := hT.create (S := fun b => b = w.heap.size) (v := .map (some w.heap.size)) (o := .mp []) (z0d8 w (.map #[] 0)) hf (fun b hb => by subst hb; exact ⟨Nat.le_refl _, by show w.heap.size < (w.heap.push _).size; simp⟩) (fun j hj => by simp [Obj.ids] at hj)
    ⟨w.heap.size, #[], 0, z02d _ _ _, z0on _ _, rfl, .nil, rfl⟩
  exact hK _ _ ⟨_, _, h1.set hn fun _ => .mp (by simp [Upd.app, z02d]; rfl) (by rw [z02d])⟩
theorem mp_at {a : Act} (hT : StSim n pn w0 A0 F0 hv T st a w) {id : Nat} {keys : List Int} (hx : opIs st x (.bx id 0)) (hid : st.obj id = some (.mp keys)) :
    ∃ b es clock, a.eval x = .map (some b) ∧ hv id = .map (some b) ∧ w.heap[b]? = some (.map es clock) ∧ T id b ∧ keys.Nodup ∧ MapIs keys es := by
  have h0 := hT.eval hx (fun i hi => by simp [AV.ids] at hi; subst hi; simp [hid])
  obtain ⟨b, es, clock, k1, k2, k3, k4, k5⟩ := hT.heap id _ hid
  refine ⟨b, es, clock, ?_, k1, k2, k3, k4, k5⟩
  generalize hvx : a.eval x = v at h0
  cases h0 with
  | bx ho => rw [hid] at ho; cases ho
  | mp ho hh => rw [← hh]; exact k1
theorem z1z1 {b : Nat} {es : Array MapEntry} {clock : Nat} {keys : List Int} {i : Int} (hm : P.underlying t = some (.map kt et)) (hk : P.underlying kt = some (.int .i64)) (hb : w.heap[b]? = some (.map es clock)) (hes : MapIs keys es) (hnd : keys.Nodup) :
    ∃ es' clock', (Instr.mapUpdate t (.map (some b)) (.int .i64 i) (.bool true)).run P w = .ok () { w with heap := w.heap.setIfInBounds b (.map es' clock') } ∧ MapIs (insKey keys i) es' ∧ (insKey keys i).Nodup := by
  have hc : (Instr.checkKey false 10000 kt (.int .i64 i)).run P w = .ok () w := MapKept.run_checkKey (k := .int .i64 i) hk (by simp [MapKept.IsKey]) false 9999
  obtain ⟨f1, f2⟩ := z12o (n := i) 0 hes
  by_cases hin : i ∈ keys
  · obtain ⟨q, q1, q2, q3⟩ := f1 hin
    have hkey : ((es[q]?).map (·.key)).getD (Value.int .i64 i) = .int .i64 i := by
      rw [← Array.getElem?_toList, q2]; rfl
    have hst : (Instr.keyThatStays (.int .i64 i) (.int .i64 i)).run P w = .ok (.int .i64 i) w := by simp [Instr.keyThatStays, Instr.sameBits]
    refine ⟨es.modify q fun e => { e with key := .int .i64 i, val := .bool true }, clock, ?_, ?_, ?_⟩
    · have hf := MapKept.run_findKey (P := P) (w := w) (kt := kt) hk q3
      simp only [Nat.zero_add] at hf
      simp [Instr.mapUpdate, run_underlying hm, MapKept.run_getObj_map hb, hc, hf, hkey, hst, MapKept.run_setObj_map _ hb, Result.andThen]
    · rw [insKey, if_pos hin]
      unfold MapIs at hes ⊢
      rw [← hes]
      refine List.ext_getElem? fun m => ?_
      simp only [List.getElem?_map, Array.getElem?_toList, Array.getElem?_modify]
      by_cases hqm : q = m
      · subst hqm
        have hlt : q < es.size := by simpa using q1
        have hp : (es.toList.map fun e => (e.key, e.val))[q]? = (keys.map fun n => (Value.int .i64 n, Value.bool true))[q]? := by rw [hes]
        simp only [List.getElem?_map, Array.getElem?_toList, Array.getElem?_eq_getElem hlt, Option.map_some] at hp q2 ⊢
        cases hkq : keys[q]? with
        | none => rw [hkq] at hp; cases hp
        | some kq =>
          rw [hkq] at hp
          simp only [Option.map_some, Option.some.injEq, Prod.mk.injEq] at hp q2
          simp [hlt, hp.2, q2]
      · simp [hqm]
    · rw [insKey, if_pos hin]; exact hnd
  · refine ⟨es.push { key := .int .i64 i, val := .bool true, born := clock }, clock + 1, ?_, ?_, ?_⟩
    · have hf := MapKept.run_findKey (P := P) (w := w) (kt := kt) hk (f2 hin)
      simp [Instr.mapUpdate, run_underlying hm, MapKept.run_getObj_map hb, hc, hf, MapKept.run_setObj_map _ hb, Result.andThen]
    · rw [insKey, if_neg hin]
      unfold MapIs at hes ⊢
      simp [hes]
    · rw [insKey, if_neg hin]
      exact List.nodup_append.2 ⟨hnd, by simp, by intro a ha b hb; simp at hb; subst hb; exact fun e => hin (e ▸ ha)⟩
theorem z214 {id : Nat} {keys : List Int} {i : Int} (hm : P.underlying t = some (.map kt et)) (hk : P.underlying kt = some (.int .i64)) {o : Op} (hop : o = .mapUpdate t x y z ∨ o = .insert t x y z) :
    OpL0 P n ⟨none, o, ty, pos, after, g⟩ [.opd x (.bx id 0), .opd y (aInt i), .opd z (aBool true), .obj id (.mp keys)] [.put id (.mp (insKey keys i))] := by
  intro pn w0 A0 F0 st a w hB hS hs K Q hK
  obtain ⟨hv, T, hT⟩ := hS
  have h1 : opIs st y (aInt i) := at1 hs
  have h2 : opIs st z (aBool true) := at2 hs
  have hid : st.obj id = some (.mp keys) := at3 hs
  obtain ⟨b, es, clock, k0, k1, k2, k3, k4, k5⟩ := mp_at hT (at0 hs) hid
  obtain ⟨es', clock', r1, r2, r3⟩ := z1z1 (P := P) (t := t) (i := i) hm hk k2 k5 k4
  have hrun : (execOp a.eval ⟨none, o, ty, pos, after, g⟩).run P w = .ok .skip { w with heap := w.heap.setIfInBounds b (.map es' clock') } := by
    rcases hop with rfl | rfl <;> simp [execOp, k0, hT.lit h1, hT.lit h2, r1]
  unfold Oper.wp
  rw [hrun]
  exact hK _ _ ⟨hv, T, hT.setMap hid k1 k2 k3 r3 r2⟩
theorem z213 {id : Nat} {keys : List Int} {i : Int} (hm : P.underlying t = some (.map kt et)) (hk : P.underlying kt = some (.int .i64)) (hz : ∀ w, (zeroValue et).run P w = .ok (.bool false) w) (hn : d < n) :
    OpL0 P n ⟨some d, .lookup t x y false, ty, pos, after, g⟩ [.opd x (.bx id 0), .opd y (aInt i), .obj id (.mp keys)] [.set d (aBool (decide (i ∈ keys)))] :=
  z01g rfl hn fun pn w0 A0 F0 hv T st a w _ hT hs => by
    have h1 : opIs st y (aInt i) := at1 hs
    have hid : st.obj id = some (.mp keys) := at2 hs
    obtain ⟨b, es, clock, k0, k1, k2, k3, k4, k5⟩ := mp_at hT (at0 hs) hid
    refine ⟨.bool (decide (i ∈ keys)), ?_, fun _ => .c (.lit _)⟩
    have hc : ∀ e, (Instr.checkKey e 10000 kt (.int .i64 i)).run P w = .ok () w := fun e => MapKept.run_checkKey (k := .int .i64 i) hk (by simp [MapKept.IsKey]) e 9999
    obtain ⟨f1, f2⟩ := z12o (n := i) 0 k5
    by_cases hin : i ∈ keys
    · obtain ⟨q, q1, q2, q3⟩ := f1 hin
      have hf := MapKept.run_findKey (P := P) (w := w) (kt := kt) hk q3
      simp [execOp, k0, hT.lit h1, Instr.lookup, run_underlying hm, MapKept.run_getObj_map k2, hc, hf, hin]
    · have hf := MapKept.run_findKey (P := P) (w := w) (kt := kt) hk (f2 hin)
      simp [execOp, k0, hT.lit h1, Instr.lookup, run_underlying hm, MapKept.run_getObj_map k2, hc, hf, hin, hz w]
end
end Go.Am
end
section
namespace Go.Am
open Go
def depB (ops : Array Oper) (x y : Nat) : Bool := match ops[x]? with
  | some o => o.after.toList.any fun e => Region.binds .any e && Nat.beq e.on y
  | none => false
section
variable {P : Program} {ops : Array Oper} {n : Nat}
theorem anyOrderD {pn : Nat → Option Value} {w0 : World} {A0 F0 : Blks} {Q : Exit → St → Prop} {fin : St} (hB : Base w0 A0 F0) (hf : ∀ (i : Nat) (o : Oper), ops[i]? = some o → ∀ e ∈ o.after, e.on < ops.size) (hQ : Q .normal fin) :
    ∀ (fuel : Nat) (listed : Array Bool) (items : List Item) (st : St) (a : Act) (w : World), items.length = fuel → listed.size = ops.size →
      (∀ i, i < ops.size → (listed.getD i true = false ↔ ∃ it ∈ items, it.i = i)) → (items.map Item.i).Pairwise (fun x y => x ≠ y ∧ depB ops x y = false) → (∀ it ∈ items, depB ops it.i it.i = false) →
      (∀ i o, ops[i]? = some o → listed.getD i false = true → ∀ e ∈ o.after, Region.binds .any e = true → listed.getD e.on false = true) →
      ChainI P ops n st items fin → indepB ops items = true → Sim n pn w0 A0 F0 st a w → wpAny P .any ops (Lift n pn w0 A0 F0 Q) fuel listed a w := by
  intro fuel
  induction fuel with
  | zero =>
    intro listed items st a w hl hsz hun _ _ _ hc _ hS
    obtain rfl : items = [] := List.length_eq_zero_iff.1 hl
    refine ⟨?_, fin, hQ, by have : st = fin := hc; exact this ▸ hS⟩
    cases hr : Region.ready .any ops listed with
    | nil => rfl
    | cons j r =>
      have hj : j ∈ Region.ready .any ops listed := by rw [hr]; simp
      obtain ⟨h0, o, ho, _⟩ := mem_ready.1 hj
      have hlt : j < ops.size := (Array.getElem?_eq_some_iff.1 ho).1
      obtain ⟨it, hit, _⟩ := (hun j hlt).1 h0
      cases hit
  | succ fuel ih =>
    intro listed items st a w hl hsz hun hpw hself hcl hc hi hS
    refine ⟨fun hnil => ?_, fun j hj => ?_⟩
    · exfalso
      cases items with
      | nil => simp at hl
      | cons it rest =>
        obtain ⟨⟨o, ho, _⟩, _⟩ := hc
        have hlt : it.i < ops.size := (Array.getElem?_eq_some_iff.1 ho).1
        have hmem : it.i ∈ Region.ready .any ops listed := by
          refine mem_ready.2 ⟨(hun it.i hlt).2 ⟨it, by simp, rfl⟩, o, ho, fun e he hb => ?_⟩
          have hon : e.on < listed.size := by have := hf it.i o ho e he; omega
          have hdep : ∀ q, q = e.on → depB ops it.i q = true := by
            intro q hq; subst hq
            unfold depB; rw [ho]
            exact List.any_eq_true.2 ⟨e, Array.mem_toList_iff.2 he, by simp [hb]⟩
          have : ¬ (listed.getD (e.on) true = false) := by
            intro h0
            obtain ⟨it', hit', he'⟩ := (hun _ (by omega)).1 h0
            rcases List.mem_cons.1 hit' with rfl | hm
            · have := hself it' (by simp); rw [hdep _ he'] at this; cases this
            · have hp := ((List.pairwise_cons.1 hpw).1 it'.i (List.mem_map.2 ⟨it', hm, rfl⟩)).2
              rw [hdep _ he'] at hp; cases hp
          simp only [Array.getD_eq_getD_getElem?, Array.getElem?_eq_getElem hon, Option.getD_some, Bool.not_eq_false] at this ⊢
          exact this
        rw [hnil] at hmem; cases hmem
    · obtain ⟨h0, o, ho, hdeps⟩ := mem_ready.1 hj
      have hlt : j < ops.size := (Array.getElem?_eq_some_iff.1 ho).1
      obtain ⟨it, hit, rfl⟩ := (hun j hlt).1 h0
      obtain ⟨pre, post, rfl⟩ := List.append_of_mem hit
      have hcomp : ∀ x ∈ pre, compat x it = true := by
        intro x hx
        have hx' : predsB ops ops.size it.i x.i = true ∨ compat x it = true := by
          have : ∀ (pre : List Item), indepB ops (pre ++ it :: post) = true → ∀ x ∈ pre, (predsB ops ops.size it.i x.i || compat x it) = true := by
            intro pre
            induction pre with
            | nil => intro _ x hx; cases hx
            | cons y pre ih2 =>
              intro h x hx
              simp only [List.cons_append, indepB, Bool.and_eq_true] at h
              rcases List.mem_cons.1 hx with rfl | hx
              · exact (List.all_eq_true.1 h.1) it (by simp)
              · exact ih2 h.2 x hx
          simpa using this pre hi x hx
        rcases hx' with hx' | hx'
        · exfalso
          have hlst := z101 hcl ops.size it.i x.i o ho hdeps hx'
          have hxlt : x.i < ops.size := by
            rcases Nat.lt_or_ge x.i listed.size with h' | h'
            · omega
            · simp [Array.getElem?_eq_none h'] at hlst
          have := (hun x.i hxlt).2 ⟨x, by simp [hx], rfl⟩
          have h' : x.i < listed.size := by omega
          simp [h'] at this hlst
          rw [this] at hlst; cases hlst
        · exact hx'
      obtain ⟨⟨o', ho', hop⟩, hsat, hch⟩ := z19r hcomp hc
      obtain rfl : o = o' := by rw [ho] at ho'; exact Option.some.inj ho'
      unfold wpOp
      rw [ho]
      have key : ∀ a' w', Sim n pn w0 A0 F0 (apps it.us st) a' w' → wpAny P .any ops (Lift n pn w0 A0 F0 Q) fuel (listed.setIfInBounds it.i true) a' w' := by
        intro a' w' hS'
        refine ih (listed.setIfInBounds it.i true) (pre ++ post) (apps it.us st) a' w' (by simp at hl ⊢; omega) (by simpa using hsz) ?_ ?_ (fun x hx => hself x (by simp only [List.mem_append, List.mem_cons] at hx ⊢; rcases hx with hx | hx; exact .inl hx; exact .inr (.inr hx))) ?_ hch ?_ hS'
        · intro i hi'
          have hnd : ∀ x ∈ pre ++ post, x.i ≠ it.i := by
            intro x hx e
            simp only [List.map_append, List.map_cons] at hpw
            rcases List.mem_append.1 hx with hx | hx
            · exact ((List.pairwise_append.1 hpw).2.2 x.i (List.mem_map.2 ⟨x, hx, rfl⟩) it.i (by simp)).1 e
            · exact ((List.pairwise_cons.1 (List.pairwise_append.1 hpw).2.1).1 x.i (List.mem_map.2 ⟨x, hx, rfl⟩)).1 e.symm
          by_cases hij : it.i = i
          · subst hij
            have h' : it.i < listed.size := by omega
            simp only [Array.getD_eq_getD_getElem?, Array.getElem?_setIfInBounds_self_of_lt h', Option.getD_some]
            constructor
            · intro h; cases h
            · rintro ⟨x, hx, e⟩; exact absurd e (hnd x hx)
          · rw [getD_set_ne true hij, hun i hi']
            constructor
            · rintro ⟨x, hx, rfl⟩
              simp only [List.mem_append, List.mem_cons] at hx
              rcases hx with hx | rfl | hx
              · exact ⟨x, by simp [hx], rfl⟩
              · exact absurd rfl hij
              · exact ⟨x, by simp [hx], rfl⟩
            · rintro ⟨x, hx, rfl⟩
              simp only [List.mem_append] at hx
              rcases hx with hx | hx
              · exact ⟨x, by simp [hx], rfl⟩
              · exact ⟨x, by simp [hx], rfl⟩
        · simp only [List.map_append, List.map_cons] at hpw ⊢
          have h1 := List.pairwise_append.1 hpw
          refine List.pairwise_append.2 ⟨h1.1, (List.pairwise_cons.1 h1.2.1).2, fun x hx y hy => h1.2.2 x hx y (by simp [hy])⟩
        · intro i o2 ho2 hl2 e he hb
          by_cases hij : it.i = i
          · subst hij
            obtain rfl : o = o2 := by rw [ho] at ho2; exact Option.some.inj ho2
            exact getD_set_true (hdeps e he hb)
          · rw [getD_set_ne false hij] at hl2
            exact getD_set_true (hcl i o2 ho2 hl2 e he hb)
        · have : ∀ (pre : List Item), indepB ops (pre ++ it :: post) = true → indepB ops (pre ++ post) = true := by
            intro pre
            induction pre with
            | nil => intro h; simp only [List.nil_append, indepB, Bool.and_eq_true] at h ⊢; exact h.2
            | cons y pre ih2 =>
              intro h
              simp only [List.cons_append, indepB, Bool.and_eq_true] at h ⊢
              refine ⟨?_, ih2 h.2⟩
              rw [List.all_eq_true] at h ⊢
              intro x hx
              exact h.1 x (by simp only [List.mem_append, List.mem_cons] at hx ⊢; rcases hx with hx | hx; exact .inl hx; exact .inr (.inr hx))
          exact this pre hi
      have := hop pn w0 A0 F0 st a w hB hS hsat _ (Lift n pn w0 A0 F0 Q) key
      dsimp only
      split
      · rename_i hw; rw [if_pos hw] at this; exact .inl this
      · rename_i hw; rw [if_neg hw] at this; exact this
def pairB (p : Nat → Nat → Bool) : List Nat → Bool
  | [] => true
  | x :: r => r.all (p x) && pairB p r
theorem z1lf {p : Nat → Nat → Bool} : ∀ {l : List Nat}, pairB p l = true → l.Pairwise fun x y => p x y = true
  | [], _ => .nil
  | x :: r, h => by
    simp only [pairB, Bool.and_eq_true] at h
    exact List.pairwise_cons.2 ⟨fun y hy => List.all_eq_true.1 h.1 y hy, z1lf h.2⟩
def inB (ops : Array Oper) : Bool := ops.toList.all fun o => o.after.toList.all fun e => Nat.blt e.on ops.size
def topoB (ops : Array Oper) (order : List Nat) : Bool :=
  pairB (fun x y => !Nat.beq x y && !depB ops x y) order && (order.all (fun x => !depB ops x x) && (inB ops && ((List.range ops.size).all (fun i => order.any (Nat.beq i)) && order.all (Nat.blt · ops.size))))
def RGD (P : Program) (ops : Array Oper) (n : Nat) (Q : Exit → St → Prop) (order : List Nat) (st : St) (acc : List Item) : Prop :=
  ∃ more fin, more.map Item.i = order ∧ ChainI P ops n st more fin ∧ indepB ops (acc.reverse ++ more) = true ∧ Q .normal fin
theorem z24j {Q : Exit → St → Prop} {i : Nat} {order : List Nat} {st : St} {acc : List Item} {o : Oper} {rs : List Req} {us : List Upd} (ho : ops[i]? = some o)
    (h : OpL P ops n o rs us) (hs : ∀ r ∈ rs, r.sat st) (k : RGD P ops n Q order (apps us st) (⟨i, rs, us⟩ :: acc)) : RGD P ops n Q (i :: order) st acc := by
  obtain ⟨more, fin, h1, h2, h3, h4⟩ := k
  exact ⟨⟨i, rs, us⟩ :: more, fin, by simp [h1], ⟨⟨o, ho, h⟩, hs, h2⟩, by simpa using h3, h4⟩
theorem z26e {Q : Exit → St → Prop} {st : St} {acc : List Item} (hi : indepB ops acc.reverse = true) (h : Q .normal st) : RGD P ops n Q [] st acc := ⟨[], st, rfl, rfl, by simpa using hi, h⟩
section
variable {i : Nat} {order : List Nat} {acc : List Item} {o : Oper} {rs : List Req} {us : List Upd} {Q : Exit → St → Prop} {st : St}
end
theorem z0x3 {id : Nat} {l : List Oper} {st : St} {Q : Exit → St → Prop} (order : List Nat) (hm : P.follows .mixedOrders = true) (ht : topoB l.toArray order = true)
    (h : RGD P l.toArray n Q order st []) : ACode P n (.region id l.toArray true) st Q := by
  simp only [topoB, Bool.and_eq_true] at ht
  obtain ⟨t1, t2, t3, t4, t5⟩ := ht
  have hp := z1lf t1
  have hin : ∀ (i : Nat) (o : Oper), l.toArray[i]? = some o → ∀ e ∈ o.after, e.on < l.toArray.size := by
    intro i o ho e he
    have h1 := List.all_eq_true.1 t3 o (by simpa using List.mem_of_getElem? (by simpa using ho))
    have h2 := List.all_eq_true.1 h1 e (Array.mem_toList_iff.2 he)
    exact Nat.lt_of_succ_le (by simpa using Nat.le_of_ble_eq_true h2)
  intro pn w0 A0 F0 a w hB hS
  obtain ⟨more, fin, h1, h2, h3, h4⟩ := h
  have hnd : order.Nodup := hp.imp fun {x y} hxy => by
    simp only [Bool.and_eq_true, Bool.not_eq_true'] at hxy
    exact fun e => by subst e; simp at hxy
  have hmem : ∀ i, i < l.length ↔ i ∈ order := by
    intro i
    constructor
    · intro hi
      have := List.all_eq_true.1 t4 i (by simpa using hi)
      obtain ⟨x, hx, e⟩ := List.any_eq_true.1 this
      rw [Nat.eq_of_beq_eq_true e]; exact hx
    · intro hi
      have := List.all_eq_true.1 t5 i hi
      exact Nat.lt_of_succ_le (by simpa using Nat.le_of_ble_eq_true this)
  have hlen : more.length = l.length := by
    have e1 : more.length = order.length := by rw [← h1]; simp
    have e2 : order.Perm (List.range l.length) := (List.perm_ext_iff_of_nodup hnd List.nodup_range).2 fun i => by rw [← hmem i]; simp
    rw [e1, e2.length_eq]; simp
  have hit : ∀ i, (∃ it ∈ more, it.i = i) ↔ i < l.length := by
    intro i
    have : (∃ it ∈ more, it.i = i) ↔ i ∈ more.map Item.i := by simp [List.mem_map]
    rw [this, h1, hmem]
  refine wp_region_any hm (anyOrderD hB hin h4 _ _ more st a _ (by simpa using hlen) (by simp) ?_ ?_ ?_ ?_ h2 (by simpa using h3) hS.drew)
  · intro i hi
    rw [hit]
    simp only [List.size_toArray] at hi ⊢
    have : (Array.replicate l.length false).getD i true = false := by simp [hi]
    simp [this, hi]
  · rw [h1]
    refine hp.imp fun {x y} hxy => ?_
    simp only [Bool.and_eq_true, Bool.not_eq_true'] at hxy
    exact ⟨fun e => by subst e; simp at hxy, hxy.2⟩
  · intro it hi
    have := List.all_eq_true.1 t2 it.i (by rw [← h1]; exact List.mem_map.2 ⟨it, hi, rfl⟩)
    simpa using this
  · intro i o ho hl
    exfalso
    by_cases h' : i < l.length <;> simp [h'] at hl
end
end Go.Am
end
section
namespace Go.Am
open Go
theorem z24t {k : Nat} {rows : List (List Cell)} (hk : ∀ r ∈ rows, r.length = k) {i j : Nat} {row : List Cell} {z : Cell} (hr : rows[i]? = some row) (hj : j < k) (t : Nat) :
    (rows.set i (row.set j z)).flatten[t]? = if t = i * k + j then some z else rows.flatten[t]? := by
  have hrk : row.length = k := hk row (List.mem_of_getElem? hr)
  have hil : i < rows.length := (List.getElem?_eq_some_iff.1 hr).1
  have hk2 : ∀ r ∈ rows.set i (row.set j z), r.length = k := by
    intro r h
    rcases List.mem_or_eq_of_mem_set h with h | h
    · exact hk r h
    · rw [h, List.length_set]; exact hrk
  have hkp : 0 < k := by omega
  have hmod : t % k < k := Nat.mod_lt _ hkp
  have hdm : t = t / k * k + t % k := by rw [Nat.mul_comm]; exact (Nat.div_add_mod t k).symm
  have e1 : (rows.set i (row.set j z)).flatten[t]? = ((rows.set i (row.set j z))[t / k]?).bind (·[t % k]?) := by
    conv => lhs; rw [hdm]
    exact List.flatten_getElem?_of_const hk2 _ _ hmod
  have e2 : rows.flatten[t]? = (rows[t / k]?).bind (·[t % k]?) := by
    conv => lhs; rw [hdm]
    exact List.flatten_getElem?_of_const hk _ _ hmod
  rw [e1, e2]
  have key : ∀ a b c d : Nat, b < k → d < k → a * k + b = c * k + d → a = c ∧ b = d := by
    intro a b c d hb hd he
    have h1 : (a * k + b) / k = a := by rw [Nat.mul_comm, Nat.mul_add_div hkp, Nat.div_eq_of_lt hb, Nat.add_zero]
    have h2 : (c * k + d) / k = c := by rw [Nat.mul_comm, Nat.mul_add_div hkp, Nat.div_eq_of_lt hd, Nat.add_zero]
    have h3 : a = c := by rw [← h1, ← h2, he]
    subst h3
    exact ⟨rfl, by omega⟩
  by_cases h1 : t / k = i
  · rw [h1, List.getElem?_set_self hil, Option.bind_some, hr, Option.bind_some]
    by_cases h2 : t % k = j
    · rw [h2, List.getElem?_set_self (by omega), if_pos (by rw [hdm, h1, h2])]
    · rw [List.getElem?_set_ne (fun e => h2 e.symm), if_neg]
      intro e
      rw [hdm] at e
      exact h2 (key _ _ _ _ hmod hj e).2
  · rw [List.getElem?_set_ne (fun e => h1 e.symm), if_neg]
    intro e
    rw [hdm] at e
    exact h1 (key _ _ _ _ hmod hj e).1
theorem Own.sub {w : World} {A F : Blks} {k k' : Nat} {rows rows' : List (List Cell)} {v u : Value} (h : Own w A F (.sl true k rows) v) {i j : Nat} {row : List Cell} (hr : rows[i]? = some row) (hj : row[j]? = some (.sl true k' rows'))
    (hh : Hdr w (.sl true k rows) v [(i, j)] u) (hAF : ∀ b, A b → ¬ F b) :
    ∃ Gq : Blks, (∀ b, Gq b → F b) ∧ Own w A Gq (.sl true k' rows') u ∧ ∀ (w' : World) (A' Gn : Blks) (rows'' : List (List Cell)), (∀ b, (A b ∨ F b) → ¬ Gq b → w'.heap[b]? = w.heap[b]?) → (∀ b, A b → A' b) → (∀ b, Gn b → ¬ (F b ∧ ¬ Gq b)) →
      Own w' A' Gn (.sl true k' rows'') u → Own w' A' (fun b => (F b ∧ ¬ Gq b) ∨ Gn b) (.sl true k (rows.set i (row.set j (.sl true k' rows'')))) v := by
  cases h with
  | nil => simp at hr
  | @arr _ _ _ b cap c e G hb hk hs hcap hF hG hGb hd hsub =>
    simp only [Hdr] at hh
    obtain ⟨b', off', n', cap', cs, e', fr', u', x, hv, hb', hu, hx, hjk, hrest⟩ := hh
    cases hv
    rw [hb] at hb'; cases hb'
    rw [hr, Option.bind_some, hj] at hx; cases hx
    subst hrest
    have hfl : rows.flatten[i * k + j]? = some (.sl true k' rows') := by
      rw [List.flatten_getElem?_of_const hk i j hjk, hr]; exact hj
    refine ⟨G (i * k + j), hG _, hsub _ _ _ hfl (by simpa using hu), fun w' A' Gn rows'' hw hA hn ho => ?_⟩
    have hil : i < rows.length := (List.getElem?_eq_some_iff.1 hr).1
    have hrk : row.length = k := hk row (List.mem_of_getElem? hr)
    have hlen : (rows.set i (row.set j (.sl true k' rows''))).length = rows.length := by simp
    have := Own.arr (w := w') (A := A') (F := fun b => (F b ∧ ¬ G (i * k + j) b) ∨ Gn b) (k := k) (rows := rows.set i (row.set j (.sl true k' rows''))) (b := b) (cap := cap) (c := c) (e := e) (G := fun t => if t = i * k + j then Gn else G t)
      (by rw [hw b (.inr hF) (hGb _)]; exact hb)
      (by
        intro r h
        rcases List.mem_or_eq_of_mem_set h with h | h
        · exact hk r h
        · rw [h, List.length_set]; exact hrk) hs (by rw [hlen]; exact hcap) (.inl ⟨hF, hGb _⟩)
      (by
        intro t x hx
        by_cases ht : t = i * k + j
        · rw [if_pos ht] at hx; exact .inr hx
        · rw [if_neg ht] at hx; exact .inl ⟨hG t x hx, hd t _ x ht hx⟩)
      (by
        intro t hx
        by_cases ht : t = i * k + j
        · rw [if_pos ht] at hx; exact hn b hx ⟨hF, hGb _⟩
        · rw [if_neg ht] at hx; exact hGb t hx)
      (by
        intro t s x hts h1 h2
        by_cases ht : t = i * k + j
        · rw [if_pos ht] at h1
          rw [if_neg (by omega)] at h2
          exact hn x h1 ⟨hG s x h2, hd s _ x (by omega) h2⟩
        · rw [if_neg ht] at h1
          by_cases hs' : s = i * k + j
          · rw [if_pos hs'] at h2
            exact hn x h2 ⟨hG t x h1, hd t _ x ht h1⟩
          · rw [if_neg hs'] at h2
            exact hd t s x hts h1 h2)
      (by
        intro t x v h1 h2
        rw [z24t hk hr hjk] at h1
        by_cases ht : t = i * k + j
        · rw [if_pos ht] at h1; cases h1
          rw [if_pos ht]
          subst ht
          have : v = u := by
            have hu2 : c[i * k + j]? = some u := by simpa using hu
            rw [hu2] at h2; exact (Option.some.inj h2).symm
          rw [this]; exact ho
        · rw [if_neg ht] at h1
          rw [if_neg ht]
          refine ((hsub t x v h1 h2).frame fun b' hb' => ?_).mono hA (fun _ h => h)
          rcases hb' with hb' | hb'
          · exact hw b' (.inl hb') (fun hq => hAF b' hb' (hG _ b' hq))
          · exact hw b' (.inr (hG t b' hb')) (hd t _ b' ht hb'))
    rw [hlen] at this
    exact this
section
variable {P : Program} {n : Nat} {d : Nat} {ty : TypeId} {pos : String} {after : Array Edge} {g : Option (Nat × Bool)} {tys : Array TypeId}
theorem z211 {f : FuncId} {fn : Func} {c : Code} {x y : Operand} {id k k' i j : Nat} {rows : List (List Cell)} {row : List Cell} {rows' rows'' rowsN : List (List Cell)} {m r : Int}
    (hf : P.funcs[f]? = some fn) (hname : (fn.name == "runtime.NumGoroutine") = false) (hb : fn.body = some c) (hF : FnB P f [.c (.sl true k' rows'), .c (.lit (.int .i64 m))] [.c (.lit (.int .i64 r))] [(0, .c (.sl true k' rows''))])
    (hr : rows[i]? = some row) (hj : row[j]? = some (.sl true k' rows')) (hn : d < n) (hN : rows.set i (row.set j (.sl true k' rows'')) = rowsN) :
    OpL0 P n ⟨some d, .call ⟨.value (.func f), #[x, y], tys⟩, ty, pos, after, g⟩ [.opd x (.ref id [(i, j)]), .opd y (aInt m), .obj id (.arr k rows)]
      (dels [id] ++ (killsU [id] ++ (putsO [(id, .arr k rowsN)] ++ [.set d (aInt r)]))) := by
  subst hN
  intro pn w0 A0 F0 st a w hB hS hs K Q hK
  obtain ⟨hv, T, hT⟩ := hS
  have h0 : opIs st x (.ref id [(i, j)]) := at0 hs
  have h1 : opIs st y (aInt m) := at1 hs
  have hid : st.obj id = some (.arr k rows) := at2 hs
  have hx := hT.eval h0 (fun q hq => by simp [AV.ids] at hq; subst hq; simp [hid])
  have hown := hT.heap id _ hid
  simp only [ObjSim] at hown
  cases hx with
  | ref ho hg hh =>
  rw [hid] at ho; cases ho
  obtain ⟨Gq, q1, q2, q3⟩ := hown.sub hr hj hh (fun b hb => hb.2.2 id (by simp [hid]))
  have hBase : Base w (Sh A0 F0 w0 T st.obj w) Gq := ⟨fun b hb => hb.2.1, fun b hb => (hT.own id (by simp [hid]) b (q1 b hb)).2, fun b hb hq => hb.2.2 id (by simp [hid]) (q1 b hq)⟩
  have hargs : ArgsSim w (Sh A0 F0 w0 T st.obj w) Gq [.c (.sl true k' rows'), .c (.lit (.int .i64 m))] [a.eval x, a.eval y] := by
    refine ⟨fun q => if q = 0 then Gq else noBlk, rfl, fun q b hb => ?_, fun q s b hqs h3 h4 => ?_, fun q z v h3 h4 => ?_⟩
    · by_cases hq : q = 0
      · simp only [hq, if_true] at hb; exact hb
      · simp only [hq, if_false] at hb; exact hb.elim
    · by_cases hq : q = 0
      · have hs0 : s ≠ 0 := by omega
        simp only [hs0, if_false] at h4; exact h4
      · simp only [hq, if_false] at h3; exact h3
    · match q with
      | 0 => simp at h3 h4; subst h3 h4; exact .c q2
      | 1 => simp at h3 h4; subst h3 h4; rw [hT.lit h1]; exact .c (.lit _)
      | q + 2 => simp at h3
  have hcall := hF w _ _ _ hBase hargs
  have hrun : (execOp a.eval ⟨some d, .call ⟨.value (.func f), #[x, y], tys⟩, ty, pos, after, g⟩).run P w = .ok (.enter f [a.eval x, a.eval y].toArray) w := by
    have := z1fc hf hname hb [a.eval x, a.eval y].toArray w
    simp only [execOp, resolve, Act.eval, Deferred.ofValue, invoke, Sem.run_bind]
    simpa [Act.eval] using this
  unfold Oper.wp
  rw [hrun, Oper.upon_enter]
  refine hcall.mono ?_
  rintro e w' ⟨res', rvs, back', F', rfl, ⟨rfl, rfl⟩, hframe, hF', hbl, hrl, G, s1, s2, s3, s4⟩
  obtain ⟨rv, rfl⟩ : ∃ rv, rvs = [rv] := by
    match rvs, hrl with
    | [rv], _ => exact ⟨rv, rfl⟩
  have g0 := s4 0 (.c (.lit (.int .i64 r))) rv rfl rfl
  have g1 := s4 1 (.c (.sl true k' rows'')) (a.eval x) rfl rfl
  have hrv : rv = .int .i64 r := by cases g0 with | c h => cases h; rfl
  subst hrv
  cases g1 with
  | c g1 =>
  let B : Blks := fun b => Sh A0 F0 w0 T st.obj w b ∨ ((Gq b ∨ (w.heap.size ≤ b ∧ b < w'.heap.size)) ∧ ¬ F' b)
  have g2 : Own w' B (G 1) (.sl true k' rows'') (a.eval x) := g1.mono (fun b hb => by
    obtain ⟨h3, h4, h5⟩ := hb
    rcases h3 with h3 | h3 | h3
    · exact .inl h3
    · exact .inr ⟨.inl h3, h5⟩
    · exact .inr ⟨.inr ⟨h3, h4⟩, h5⟩) (fun _ h => h)
  have hG1 : ∀ b, G 1 b → Gq b ∨ (w.heap.size ≤ b ∧ b < w'.heap.size) := fun b hb => by
    obtain ⟨h3, h4⟩ := hF' b (s2 1 b hb)
    exact h3.imp (fun h => h) (fun h => ⟨h, h4⟩)
  have hnew := q3 w' B (G 1) rows'' (fun b hb hq => hframe.heap b (by
      rcases hb with hb | hb
      · exact hb.2.1
      · exact (hT.own id (by simp [hid]) b hb).2) hq) (fun b hb => .inl hb) (fun b hb hq => by
      rcases hG1 b hb with h | ⟨h, _⟩
      · exact hq.2 h
      · have := (hT.own id (by simp [hid]) b hq.1).2; omega) g2
  obtain ⟨hv', T', k1, k2, k3⟩ := hT.swap (ds := [id]) (ks := [id]) (w' := w') (fun q hq => by simp at hq; subst hq; simp [hid]) (hframe.mono fun b hb => ⟨id, by simp, q1 b hb⟩)
    [⟨id, .arr k (rows.set i (row.set j (.sl true k' rows''))), hv id, fun b => (T id b ∧ ¬ Gq b) ∨ G 1 b⟩] (by simp)
    (fun q hq => by simp at hq; subst hq; exact .inr ⟨by simp, rfl, _, hid, .inl ⟨_, _, _, rfl, rfl⟩, fun _ => by simp⟩)
    (fun q hq b hb => by
      simp at hq; subst hq
      rcases hb with hb | hb
      · exact .inl ⟨id, by simp, hb.1⟩
      · exact (hG1 b hb).imp (fun h => ⟨id, by simp, q1 b h⟩) (fun h => h))
    (fun p hp q hq hne => by simp at hp hq; subst hp hq; exact absurd rfl hne) B
    (fun b hb => hb.imp (fun h => h) fun ⟨h3, h4⟩ => ⟨h3.imp (fun h => ⟨id, by simp, q1 b h⟩) (fun h => h), fun q hq => by
      simp at hq; subst hq
      rintro (h5 | h5)
      · rcases h3 with h3 | h3
        · exact h5.2 h3
        · have := (hT.own id (by simp [hid]) b h5.1).2; omega
      · exact h4 (s2 1 b h5)⟩)
    (fun q hq => by simp at hq; subst hq; exact hnew) (fun q hq z hz => by simp at hq; subst hq; simp [Obj.ids] at hz)
  refine hK _ _ ?_
  have : apps (dels [id] ++ (killsU [id] ++ (putsO [(id, .arr k (rows.set i (row.set j (.sl true k' rows''))))] ++ [.set d (aInt r)]))) st =
      (Upd.set d (aInt r)).app (apps (dels [id] ++ (killsU [id] ++ putsO [(id, .arr k (rows.set i (row.set j (.sl true k' rows''))))])) st) := by
    simp only [apps_append]; rfl
  rw [this]
  exact ⟨hv', T', k1.set hn fun _ => .c (.lit _)⟩
end
end Go.Am
end
section
namespace Go.Am
open Go
section
variable {P : Program} {n : Nat} {st : St} {Q : Exit → St → Prop} {ops : Array Oper} {md : Bool} {i : Nat} {acc : List Am.Item} {rest : List Oper} {y : Code} {id : Nat} {l : List Oper}
variable {d : Nat} {ty : TypeId} {pos : String} {after : Array Edge} {x : Operand} {av : AV}
end
end Go.Am
end
section
namespace Go.Am
open Go
def cY (n : Int) : Cell := .lit (.int .u8 n)
theorem rowY : RowOk 1 (fun _ n => [cY n]) where
  len := fun _ _ => rfl
  share := fun _ _ => rfl
  nobox := fun _ x c hc => by simp at hc; subst hc; exact .lit _
  solid := fun _ => rfl
  plain := fun _ => rfl
  ok := fun _ x c hc => by simp at hc; subst hc; rfl
structure GRd where
  b : List Int
  p : Int
def GRd.cells (o : Bool) (x : GRd) : List Cell := [.sl o 1 (x.b.map fun n => [cY n]), cI x.p]
inductive SN where
  | ask | flow | task | net | item | did | kase | node | run | house | req | rd
  deriving DecidableEq
inductive Ty where
  | I | B | Y
  | s (n : SN)
  | sl (t : Ty)
  deriving DecidableEq
abbrev SN.den : SN → Type
  | .ask => GAsk | .flow => GFlow | .task => GTask | .net => GNet | .item => GItem | .did => GDid | .kase => GCase | .node => GNode | .run => GRun | .house => GHouse | .req => GReq | .rd => GRd
abbrev Ty.den : Ty → Type
  | .I => Int | .B => Bool | .Y => Int | .s n => n.den | .sl t => List t.den
def SN.w : SN → Nat
  | .ask => 3 | .flow => 4 | .task => 9 | .net => 2 | .item => 3 | .did => 2 | .kase => 5 | .node => 7 | .run => 6 | .house => 4 | .req => 11 | .rd => 2
def Ty.w : Ty → Nat
  | .s n => n.w
  | _ => 1
def SN.cells : (n : SN) → Bool → n.den → List Cell
  | .ask => GAsk.cells | .flow => GFlow.cells | .task => GTask.cells | .net => GNet.cells | .item => GItem.cells | .did => GDid.cells | .kase => GCase.cells | .node => GNode.cells
  | .run => GRun.cells | .house => GHouse.cells | .req => GReq.cells | .rd => GRd.cells
def Ty.cells : (t : Ty) → Bool → t.den → List Cell
  | .I, _, n => [cI n]
  | .B, _, b => [cB b]
  | .Y, _, n => [cY n]
  | .s n, o, x => n.cells o x
  | .sl t, o, l => [.sl o t.w (l.map (t.cells o))]
inductive LK where
  | I | B | Y
  | S (t : Ty)
abbrev LK.den : LK → Type
  | .I => Int | .B => Bool | .Y => Int | .S t => List t.den
abbrev HL : List LK → Type
  | [] => Unit
  | k :: r => k.den × HL r
def SN.lay : SN → List LK
  | .ask => [.I, .I, .I]
  | .flow => [.I, .I, .I, .I]
  | .task => [.I, .I, .S .I, .S (.s .flow), .S .I, .I, .I, .I, .I]
  | .net => [.I, .S (.s .task)]
  | .item => [.I, .I, .I]
  | .did => [.I, .I]
  | .kase => [.I, .S .I, .S (.s .item), .S .I, .S (.s .did)]
  | .node => [.I, .I, .I, .I, .I, .I, .S .I]
  | .run => [.I, .I, .S .I, .S (.s .item), .S .I, .S (.s .did)]
  | .house => [.S (.s .net), .S .I, .S (.s .node), .S (.s .run)]
  | .req => [.I, .I, .I, .I, .I, .I, .S .I, .I, .I, .I, .I]
  | .rd => [.S .Y, .I]
def SN.un : (n : SN) → n.den → HL n.lay
  | .ask, (x : GAsk) => (x.op, x.var, x.k, ())
  | .flow, (x : GFlow) => (x.to, x.if_.op, x.if_.var, x.if_.k, ())
  | .task, (x : GTask) => (x.join, x.split, x.in_, x.out, x.clear, x.role, x.apart, x.all, x.need, ())
  | .net, (x : GNet) => (x.places, x.tasks, ())
  | .item, (x : GItem) => (x.task, x.who, x.did, ())
  | .did, (x : GDid) => (x.task, x.who, ())
  | .kase, (x : GCase) => (x.state, x.marks, x.busy, x.data, x.did, ())
  | .node, (x : GNode) => (x.if_.op, x.if_.var, x.if_.k, x.yes, x.no, x.ans, x.stone, ())
  | .run, (x : GRun) => (x.net, x.case.state, x.case.marks, x.case.busy, x.case.data, x.case.did, ())
  | .house, (x : GHouse) => (x.nets, x.people, x.tree, x.runs, ())
  | .req, (x : GReq) => (x.kind, x.who, x.case, x.task, x.var, x.num, x.data, x.if_.op, x.if_.var, x.if_.k, x.ans, ())
  | .rd, (x : GRd) => (x.b, x.p, ())
def SN.mk : (n : SN) → HL n.lay → n.den
  | .ask, h => GAsk.mk h.1 h.2.1 h.2.2.1
  | .flow, h => GFlow.mk h.1 (GAsk.mk h.2.1 h.2.2.1 h.2.2.2.1)
  | .task, h => GTask.mk h.1 h.2.1 h.2.2.1 h.2.2.2.1 h.2.2.2.2.1 h.2.2.2.2.2.1 h.2.2.2.2.2.2.1 h.2.2.2.2.2.2.2.1 h.2.2.2.2.2.2.2.2.1
  | .net, h => GNet.mk h.1 h.2.1
  | .item, h => GItem.mk h.1 h.2.1 h.2.2.1
  | .did, h => GDid.mk h.1 h.2.1
  | .kase, h => GCase.mk h.1 h.2.1 h.2.2.1 h.2.2.2.1 h.2.2.2.2.1
  | .node, h => GNode.mk (GAsk.mk h.1 h.2.1 h.2.2.1) h.2.2.2.1 h.2.2.2.2.1 h.2.2.2.2.2.1 h.2.2.2.2.2.2.1
  | .run, h => GRun.mk h.1 (GCase.mk h.2.1 h.2.2.1 h.2.2.2.1 h.2.2.2.2.1 h.2.2.2.2.2.1)
  | .house, h => GHouse.mk h.1 h.2.1 h.2.2.1 h.2.2.2.1
  | .req, h => GReq.mk h.1 h.2.1 h.2.2.1 h.2.2.2.1 h.2.2.2.2.1 h.2.2.2.2.2.1 h.2.2.2.2.2.2.1 (GAsk.mk h.2.2.2.2.2.2.2.1 h.2.2.2.2.2.2.2.2.1 h.2.2.2.2.2.2.2.2.2.1) h.2.2.2.2.2.2.2.2.2.2.1
  | .rd, h => GRd.mk h.1 h.2.1
theorem SN.un_mk (n : SN) (h : HL n.lay) : n.un (n.mk h) = h := by cases n <;> rfl
inductive Lf where
  | i (n : Int)
  | b (v : Bool)
  | y (n : Int)
  | s (o : Bool) (t : Ty) (l : List t.den)
  | nl
def Lf.cell : Lf → Cell
  | .i v => cI v
  | .b v => cB v
  | .y v => cY v
  | .s o t l => .sl o t.w (l.map (t.cells o))
  | .nl => .lit (.slice none 0 0)
def LK.lf (o : Bool) : (k : LK) → k.den → Lf
  | .I, n => .i n
  | .B, b => .b b
  | .Y, n => .y n
  | .S t, l => .s o t l
def lvs (o : Bool) : (ks : List LK) → HL ks → List Lf
  | [], _ => []
  | k :: ks, h => k.lf o h.1 :: lvs o ks h.2
def Ty.out : (t : Ty) → Bool → t.den → List Lf
  | .I, _, n => [.i n]
  | .B, _, b => [.b b]
  | .Y, _, n => [.y n]
  | .s n, o, x => lvs o n.lay (n.un x)
  | .sl t, o, l => [.s o t l]
theorem Ty.out_cell (t : Ty) (o : Bool) (x : t.den) : (t.out o x).map Lf.cell = t.cells o x := by
  cases t with
  | s n => cases n <;> rfl
  | _ => rfl
theorem SN.row : (n : SN) → RowOk n.w n.cells
  | .ask => rowGAsk | .flow => rowGFlow | .task => rowGTask | .net => rowGNet | .item => rowGItem | .did => rowGDid | .kase => rowGCase | .node => rowGNode | .run => rowGRun | .house => rowGHouse | .req => rowGReq
  | .rd => {
    len := fun _ _ => rfl
    share := fun o x => by
      show shareRow [Cell.sl o 1 (x.b.map fun n => [cY n]), cI x.p] = [Cell.sl false 1 (x.b.map fun n => [cY n]), cI x.p]
      simp only [shareRow, z0c4]; rw [z0dw (f := fun _ n => [cY n]) rowY]
    nobox := fun o x c hc => by
      rcases List.mem_cons.1 hc with rfl | hc
      · exact z0dv (f := fun _ n => [cY n]) rowY o _
      · simp at hc; subst hc; exact .lit _
    solid := fun x => by
      show solidRow [Cell.sl true 1 (x.b.map fun n => [cY n]), cI x.p] = true
      simp only [solidRow, z0a2 (f := fun _ n => [cY n]) rowY, z0c5, Bool.and_true]
    plain := fun x => rfl
    ok := fun o x c hc => by
      rcases List.mem_cons.1 hc with rfl | hc
      · simp [Cell.ok]
      · simp at hc; subst hc; rfl }
theorem Ty.row : (t : Ty) → RowOk t.w t.cells
  | .I => rowI
  | .B => rowB
  | .Y => rowY
  | .s n => n.row
  | .sl t => {
    len := fun _ _ => rfl
    share := fun o l => by
      show shareRow [Cell.sl o t.w (l.map (t.cells o))] = [Cell.sl false t.w (l.map (t.cells false))]
      simp only [shareRow]; rw [z0dw t.row]
    nobox := fun o l c hc => by
      rcases List.mem_cons.1 hc with rfl | hc
      · exact z0dv t.row o l
      · simp at hc
    solid := fun l => by
      show solidRow [Cell.sl true t.w (l.map (t.cells true))] = true
      simp only [solidRow, z0a2 t.row, Bool.and_true]
    plain := fun l => rfl
    ok := fun o l c hc => by
      rcases List.mem_cons.1 hc with rfl | hc
      · simp [Cell.ok]
      · simp at hc }
def Ty.cast (a b : Ty) (l : List a.den) : Option (List b.den) := if h : a = b then some (h ▸ l) else none
theorem Ty.cast_some {a b : Ty} {l : List a.den} {m : List b.den} (h : a.cast b l = some m) : ∃ e : a = b, m = e ▸ l := by
  unfold Ty.cast at h
  split at h
  · rename_i e; exact ⟨e, (Option.some.inj h).symm⟩
  · cases h
theorem Ty.cast_leaf {a b : Ty} {l : List a.den} {m : List b.den} (h : a.cast b l = some m) (o : Bool) : Lf.s o b m = Lf.s o a l := by
  obtain ⟨e, rfl⟩ := Ty.cast_some h
  subst e; rfl
def LK.of (o : Bool) : (k : LK) → Lf → Option k.den
  | .I, .i n => some n
  | .B, .b b => some b
  | .Y, .y n => some n
  | .S t, .s o' t' l => bif o' == o then t'.cast t l else none
  | .S _, .nl => some []
  | _, _ => none
def prs (o : Bool) : (ks : List LK) → List Lf → Option (HL ks)
  | [], [] => some ()
  | k :: ks, x :: xs => (k.of o x).bind fun a => (prs o ks xs).bind fun r => some (a, r)
  | _, _ => none
def Ty.inn : (t : Ty) → Bool → List Lf → Option t.den
  | .I, o, xs => (prs o [.I] xs).bind fun h => some h.1
  | .B, o, xs => (prs o [.B] xs).bind fun h => some h.1
  | .Y, o, xs => (prs o [.Y] xs).bind fun h => some h.1
  | .s n, o, xs => (prs o n.lay xs).bind fun h => some (n.mk h)
  | .sl t, o, xs => (prs o [.S t] xs).bind fun h => some h.1
inductive LfN (o : Bool) : Lf → Lf → Prop
  | same (x : Lf) : LfN o x x
  | nil (t : Ty) : LfN o .nl (.s o t [])
inductive LfNs (o : Bool) : List Lf → List Lf → Prop
  | nil : LfNs o [] []
  | cons {x y : Lf} {xs ys : List Lf} (h : LfN o x y) (t : LfNs o xs ys) : LfNs o (x :: xs) (y :: ys)
theorem LK.of_lf {o : Bool} {k : LK} {x : Lf} {a : k.den} (h : k.of o x = some a) : LfN o x (k.lf o a) := by
  cases k with
  | I => cases x <;> first | (simp only [LK.of] at h; cases h; exact .same _) | cases h
  | B => cases x <;> first | (simp only [LK.of] at h; cases h; exact .same _) | cases h
  | Y => cases x <;> first | (simp only [LK.of] at h; cases h; exact .same _) | cases h
  | S t =>
    cases x with
    | s o' t' l =>
      simp only [LK.of] at h
      cases ho : o' == o with
      | false => rw [ho] at h; cases h
      | true =>
        rw [ho] at h
        have e : o' = o := by simpa using ho
        subst e
        show LfN o' (.s o' t' l) (.s o' t a)
        rw [Ty.cast_leaf h]; exact .same _
    | nl => simp only [LK.of] at h; cases h; exact .nil t
    | _ => cases h
theorem z1ak {o : Bool} : ∀ {ks : List LK} {xs : List Lf} {h : HL ks}, prs o ks xs = some h → LfNs o xs (lvs o ks h)
  | [], [], _, _ => .nil
  | [], _ :: _, _, h => by simp [prs] at h
  | _ :: _, [], _, h => by simp [prs] at h
  | k :: ks, x :: xs, hh, h => by
    simp only [prs] at h
    obtain ⟨a, h1, h⟩ := bnd h
    obtain ⟨r, h2, h⟩ := bnd h
    cases h
    exact .cons (LK.of_lf h1) (z1ak h2)
theorem Ty.inn_out {t : Ty} {o : Bool} {xs : List Lf} {x : t.den} (h : t.inn o xs = some x) : LfNs o xs (t.out o x) := by
  cases t with
  | s n =>
    simp only [Ty.inn] at h
    obtain ⟨a, h1, h⟩ := bnd h
    cases h
    have := z1ak h1
    simp only [Ty.out, SN.un_mk]; exact this
  | I => obtain ⟨a, h1, h⟩ := bnd h; cases h; exact z1ak h1
  | B => obtain ⟨a, h1, h⟩ := bnd h; cases h; exact z1ak h1
  | Y => obtain ⟨a, h1, h⟩ := bnd h; cases h; exact z1ak h1
  | sl t => obtain ⟨a, h1, h⟩ := bnd h; cases h; exact z1ak h1
end Go.Am
end
section
namespace Go.Am
open Go
def argV : (t : Ty) → Bool → t.den → Arg
  | .I, _, n => .c (cI n)
  | .B, _, b => .c (cB b)
  | .Y, _, n => .c (cY n)
  | .s n, o, x => .row (n.cells o x)
  | .sl t, o, l => .c (.sl o t.w (l.map (t.cells o)))
structure FP where
  av : AV
  t : Ty
  f : t.den → Option Bool
def FP.Ok (P : Program) (q : FP) : Prop := ∃ fid caps, q.av = .fn fid (argAVs caps) ∧ FnOk P fid ∧ plainArgs caps = true ∧ ∀ x y, q.f x = some y → FnB P fid (argV q.t false x :: caps) [.c (cB y)] []
variable {E : Option FP}
inductive TV where
  | dead | und
  | l (x : Lf)
  | kb (c : Bool)
  | b (k neg : Nat)
  | row (xs : List Lf)
  | agg (xs : List TV)
  | tup (xs : List TV)
  | ref (id : Nat)
  | rp (k j : Nat)
  | ptr (k j : Nat)
  | bx (id j : Nat)
  | pts (xs : List Lf)
  | fn (f : FuncId) (xs : List TV)
  | fp
inductive KB where
  | s (b : Bool)
  | k (c b : Bool)
def KB.val : KB → Bool
  | .s b => b
  | .k _ b => b
def nn : Nat → Bool → Bool
  | 0, b => b
  | n + 1, b => !(nn n b)
structure Tok where
  id : Nat
  p : Path
  i : Int
  t : Ty
  o : Bool
  v : t.den
  ok : Bool
structure Nm where
  bs : List (Nat × KB)
  tk : List (Nat × Tok)
  fp : Option FP
def FPav : Option FP → AV
  | some q => q.av
  | none => .dead
def look {α : Type} : List (Nat × α) → Nat → Option α
  | [], _ => none
  | (y, v) :: r, x => bif Nat.beq y x then some v else look r x
theorem z15c {α : Type} : ∀ {l : List (Nat × α)} {x : Nat} {v : α}, look l x = some v → (x, v) ∈ l
  | [], _, _, h => by simp [look] at h
  | (y, u) :: r, x, v, h => by
    simp only [look] at h
    cases hb : Nat.beq y x with
    | true => rw [hb] at h; cases h; rw [z0db hb]; exact List.mem_cons_self ..
    | false => rw [hb] at h; exact List.mem_cons_of_mem _ (z15c h)
theorem z0ba {α : Type} {l : List (Nat × α)} {y x : Nat} {u v : α} (h : look ((y, u) :: l) x = some v) : (x = y ∧ v = u) ∨ (x ≠ y ∧ look l x = some v) := by
  simp only [look] at h
  cases hb : Nat.beq y x with
  | true => rw [hb] at h; cases h; exact .inl ⟨(z0db hb).symm, rfl⟩
  | false => rw [hb] at h; exact .inr ⟨fun e => by subst e; simp at hb, h⟩
theorem z15d {α : Type} {l : List (Nat × α)} {y x : Nat} {u : α} (h : x ≠ y) : look ((y, u) :: l) x = look l x := by
  simp only [look]
  have : Nat.beq y x = false := by
    cases hb : Nat.beq y x with
    | false => rfl
    | true => exact absurd (z0db hb).symm h
  rw [this]; rfl
theorem z0zf {α : Type} {l : List (Nat × α)} {x : Nat} {u : α} : look ((x, u) :: l) x = some u := by simp [look]
theorem z15b {α β : Type} (f : Nat → α → β) : ∀ {l : List (Nat × α)} {x : Nat}, look (l.map fun p => (p.1, f p.1 p.2)) x = (look l x).map (f x)
  | [], _ => rfl
  | (y, u) :: r, x => by
    simp only [List.map_cons, look]
    cases hb : Nat.beq y x with
    | true => rw [z0db hb]; rfl
    | false => exact z15b f
def dropK {α : Type} (k : Nat) : List (Nat × α) → List (Nat × α)
  | [] => []
  | p :: r => bif Nat.beq p.1 k then dropK k r else p :: dropK k r
theorem z15a {α : Type} {k : Nat} : ∀ {l : List (Nat × α)} {x : Nat} {v : α}, look (dropK k l) x = some v → x ≠ k ∧ look l x = some v
  | [], _, _, h => by simp [dropK, look] at h
  | (y, u) :: r, x, v, h => by
    simp only [dropK] at h
    cases hb : Nat.beq y k with
    | true =>
      rw [hb] at h
      obtain ⟨h1, h2⟩ := z15a (l := r) h
      exact ⟨h1, by rw [z15d (by rw [z0db hb]; exact h1)]; exact h2⟩
    | false =>
      rw [hb] at h
      rcases z0ba h with ⟨rfl, rfl⟩ | ⟨h1, h2⟩
      · exact ⟨fun e => by subst e; simp at hb, z0zf⟩
      · obtain ⟨h3, h4⟩ := z15a (l := r) h2
        exact ⟨h3, by rw [z15d h1]; exact h4⟩
mutual
def TV.av (m : Nm) : TV → AV
  | .dead => .dead
  | .und => .c (.lit undef)
  | .l x => .c x.cell
  | .kb c => aBool c
  | .b k n => match look m.bs k with
    | some q => aBool (nn n q.val)
    | none => .dead
  | .row xs => .row (xs.map Lf.cell)
  | .agg xs => .agg (avL m xs)
  | .tup xs => .tup (avL m xs)
  | .ref id => .ref id []
  | .rp k j => match look m.tk k with
    | some t => .ref t.id (t.p ++ [(t.i.toNat, j)])
    | none => .dead
  | .ptr k j => match look m.tk k with
    | some t => .ptr t.id t.p t.t.w t.i.toNat j
    | none => .dead
  | .bx id j => .bx id j
  | .pts xs => .pts (xs.map Lf.cell)
  | .fn f xs => .fn f (avL m xs)
  | .fp => FPav m.fp
def avL (m : Nm) : List TV → List AV
  | [] => []
  | x :: r => x.av m :: avL m r
end
theorem z0d9 (m : Nm) : ∀ (l : List TV), avL m l = l.map (TV.av m)
  | [] => rfl
  | x :: l => by simp only [avL, List.map_cons, z0d9 m l]
mutual
def TV.dfn (m : Nm) : TV → Bool
  | .b k _ => (look m.bs k).isSome
  | .rp k _ => (look m.tk k).isSome
  | .ptr k _ => (look m.tk k).isSome
  | .agg xs => dfnL m xs
  | .tup xs => dfnL m xs
  | .fn _ xs => dfnL m xs
  | _ => true
def dfnL (m : Nm) : List TV → Bool
  | [] => true
  | x :: r => x.dfn m && dfnL m r
end
theorem z05e (m : Nm) {l : List TV} : dfnL m l = true ↔ ∀ x ∈ l, x.dfn m = true := by
  induction l with
  | nil => simp [dfnL]
  | cons x l ih => simp [dfnL, ih]
structure NmLe (m m' : Nm) : Prop where
  bs : ∀ k q, look m.bs k = some q → ∃ q', look m'.bs k = some q' ∧ q'.val = q.val
  tk : ∀ k t, look m.tk k = some t → ∃ t', look m'.tk k = some t' ∧ t'.id = t.id ∧ t'.p = t.p ∧ t'.i = t.i ∧ t'.t.w = t.t.w
  fp : m'.fp = m.fp
theorem NmLe.refl (m : Nm) : NmLe m m := ⟨fun _ q h => ⟨q, h, rfl⟩, fun _ t h => ⟨t, h, rfl, rfl, rfl, rfl⟩, rfl⟩
theorem NmLe.trans {m m' m'' : Nm} (h : NmLe m m') (h' : NmLe m' m'') : NmLe m m'' where
  bs := fun k q hq => by
    obtain ⟨q', h1, h2⟩ := h.bs k q hq
    obtain ⟨q'', h3, h4⟩ := h'.bs k q' h1
    exact ⟨q'', h3, h4.trans h2⟩
  tk := fun k t ht => by
    obtain ⟨t', h1, a1, a2, a3, a4⟩ := h.tk k t ht
    obtain ⟨t'', h3, b1, b2, b3, b4⟩ := h'.tk k t' h1
    exact ⟨t'', h3, b1.trans a1, b2.trans a2, b3.trans a3, b4.trans a4⟩
  fp := h'.fp.trans h.fp
mutual
theorem TV.av_le {m m' : Nm} (h : NmLe m m') : ∀ (x : TV), x.dfn m = true → x.av m' = x.av m ∧ x.dfn m' = true
  | .b k n, hd => by
    simp only [TV.dfn] at hd
    cases hq : look m.bs k with
    | none => rw [hq] at hd; cases hd
    | some q =>
      obtain ⟨q', h1, h2⟩ := h.bs k q hq
      exact ⟨by simp only [TV.av, hq, h1, h2], by simp only [TV.dfn, h1]; rfl⟩
  | .rp k j, hd => by
    simp only [TV.dfn] at hd
    cases hq : look m.tk k with
    | none => rw [hq] at hd; cases hd
    | some q =>
      obtain ⟨q', h1, h2, h3, h4, h5⟩ := h.tk k q hq
      exact ⟨by simp only [TV.av, hq, h1, h2, h3, h4], by simp only [TV.dfn, h1]; rfl⟩
  | .ptr k j, hd => by
    simp only [TV.dfn] at hd
    cases hq : look m.tk k with
    | none => rw [hq] at hd; cases hd
    | some q =>
      obtain ⟨q', h1, h2, h3, h4, h5⟩ := h.tk k q hq
      exact ⟨by simp only [TV.av, hq, h1, h2, h3, h4, h5], by simp only [TV.dfn, h1]; rfl⟩
  | .agg xs, hd => by
    simp only [TV.dfn] at hd
    obtain ⟨h1, h2⟩ := z1wo h xs hd
    exact ⟨by simp only [TV.av, h1], by simp only [TV.dfn, h2]⟩
  | .tup xs, hd => by
    simp only [TV.dfn] at hd
    obtain ⟨h1, h2⟩ := z1wo h xs hd
    exact ⟨by simp only [TV.av, h1], by simp only [TV.dfn, h2]⟩
  | .fn f xs, hd => by
    simp only [TV.dfn] at hd
    obtain ⟨h1, h2⟩ := z1wo h xs hd
    exact ⟨by simp only [TV.av, h1], by simp only [TV.dfn, h2]⟩
  | .fp, _ => ⟨by simp only [TV.av, h.fp], rfl⟩
  | .dead, _ => ⟨rfl, rfl⟩
  | .und, _ => ⟨rfl, rfl⟩
  | .l _, _ => ⟨rfl, rfl⟩
  | .kb _, _ => ⟨rfl, rfl⟩
  | .row _, _ => ⟨rfl, rfl⟩
  | .ref _, _ => ⟨rfl, rfl⟩
  | .bx _ _, _ => ⟨rfl, rfl⟩
  | .pts _, _ => ⟨rfl, rfl⟩
theorem z1wo {m m' : Nm} (h : NmLe m m') : ∀ (xs : List TV), dfnL m xs = true → avL m' xs = avL m xs ∧ dfnL m' xs = true
  | [], _ => ⟨rfl, rfl⟩
  | x :: xs, hd => by
    simp only [dfnL, Bool.and_eq_true] at hd
    obtain ⟨h1, h2⟩ := TV.av_le h x hd.1
    obtain ⟨h3, h4⟩ := z1wo h xs hd.2
    exact ⟨by simp only [avL, h1, h3], by simp only [dfnL, h2, h4]; rfl⟩
end
inductive TO where
  | arr (t : Ty) (l : List t.den) (o : Bool)
  | emp (t : Ty)
  | box (xs : List TV)
  | mp (ks : List Int)
def TO.ob (m : Nm) : TO → Obj
  | .arr t l o => .arr t.w (l.map (t.cells o))
  | .emp t => .arr t.w []
  | .box xs => .box (avL m xs)
  | .mp ks => .mp ks
def TO.dfn (m : Nm) : TO → Bool
  | .box xs => dfnL m xs
  | _ => true
theorem TO.ob_le {m m' : Nm} (h : NmLe m m') (o : TO) (hd : o.dfn m = true) : o.ob m' = o.ob m ∧ o.dfn m' = true := by
  cases o with
  | box xs => obtain ⟨h1, h2⟩ := z1wo h xs hd; exact ⟨by simp only [TO.ob, h1], h2⟩
  | _ => exact ⟨rfl, rfl⟩
structure XSt where
  env : List (Nat × TV)
  obj : List (Nat × TO)
  nm : Nm
  used : List Nat
def XSt.usd (st : XSt) (id : Nat) : Bool := Nat.ble 1000000 id || st.used.any (Nat.beq · id)
def Tok.fits (ac : St) (t : Tok) : Prop :=
  ∃ k0 rows o' l, ac.obj t.id = some (.arr k0 rows) ∧ (Cell.sl true k0 rows).get t.p = some (.sl o' t.t.w (l.map (t.t.cells t.o))) ∧ getI l t.i = some t.v
structure Rf (E : Option FP) (st : XSt) (ac : St) : Prop where
  env : ∀ x tv, look st.env x = some tv → tv.dfn st.nm = true ∧ (tv = .dead ∨ ac.env x = some (tv.av st.nm))
  obj : ∀ id o, look st.obj id = some o → o.dfn st.nm = true ∧ ac.obj id = some (o.ob st.nm)
  used : ∀ id, ac.used id = true → st.usd id = true
  tok : ∀ k t, look st.nm.tk k = some t → t.ok = true → t.fits ac
  bs : ∀ k c b, look st.nm.bs k = some (.k c b) → b = c
  fp : st.nm.fp = E
  fpi : (FPav st.nm.fp).ids = []
theorem Rf.names {st : XSt} {ac : St} (h : Rf E st ac) {m : Nm} (hm : NmLe st.nm m) (ht : ∀ k t, look m.tk k = some t → t.ok = true → t.fits ac) (hb : ∀ k c b, look m.bs k = some (.k c b) → b = c)   : Rf E { st with nm := m } ac where
  env := fun x tv hx => by
    obtain ⟨h1, h2⟩ := h.env x tv hx
    obtain ⟨h3, h4⟩ := TV.av_le hm tv h1
    exact ⟨h4, h2.imp id (fun e => by rw [h3]; exact e)⟩
  obj := fun id o hx => by
    obtain ⟨h1, h2⟩ := h.obj id o hx
    obtain ⟨h3, h4⟩ := TO.ob_le hm o h1
    exact ⟨h4, by rw [h3]; exact h2⟩
  used := h.used
  tok := ht
  bs := hb
  fp := hm.fp.trans h.fp
  fpi := by rw [hm.fp]; exact h.fpi
mutual
def TV.ids (m : Nm) : TV → List Nat
  | .ref id => [id]
  | .rp k _ => match look m.tk k with | some t => [t.id] | none => []
  | .ptr k _ => match look m.tk k with | some t => [t.id] | none => []
  | .bx id _ => [id]
  | .agg xs => tidsL m xs
  | .tup xs => tidsL m xs
  | .fn _ xs => tidsL m xs
  | .fp => []
  | _ => []
def tidsL (m : Nm) : List TV → List Nat
  | [] => []
  | x :: r => x.ids m ++ tidsL m r
end
mutual
theorem TV.ids_av (m : Nm) (hf : (FPav m.fp).ids = []) : ∀ (x : TV), x.dfn m = true → (x.av m).ids = x.ids m
  | .b k n, hd => by
    simp only [TV.dfn] at hd
    cases hq : look m.bs k with
    | none => rw [hq] at hd; cases hd
    | some q => simp only [TV.av, hq, TV.ids]; rfl
  | .rp k j, hd => by
    simp only [TV.dfn] at hd
    cases hq : look m.tk k with
    | none => rw [hq] at hd; cases hd
    | some q => simp only [TV.av, hq, TV.ids]; rfl
  | .ptr k j, hd => by
    simp only [TV.dfn] at hd
    cases hq : look m.tk k with
    | none => rw [hq] at hd; cases hd
    | some q => simp only [TV.av, hq, TV.ids]; rfl
  | .agg xs, hd => by simp only [TV.av, AV.ids, TV.ids]; exact z0fp m hf xs hd
  | .tup xs, hd => by simp only [TV.av, AV.ids, TV.ids]; exact z0fp m hf xs hd
  | .fn f xs, hd => by simp only [TV.av, AV.ids, TV.ids]; exact z0fp m hf xs hd
  | .fp, _ => by simp only [TV.av, TV.ids]; exact hf
  | .dead, _ => by simp only [TV.av, AV.ids, TV.ids]
  | .und, _ => by simp only [TV.av, AV.ids, TV.ids]
  | .l _, _ => by simp only [TV.av, AV.ids, TV.ids]
  | .kb _, _ => by simp only [TV.av, AV.ids, TV.ids]
  | .row _, _ => by simp only [TV.av, AV.ids, TV.ids]
  | .ref _, _ => by simp only [TV.av, AV.ids, TV.ids]
  | .bx _ _, _ => by simp only [TV.av, AV.ids, TV.ids]
  | .pts _, _ => by simp only [TV.av, AV.ids, TV.ids]
theorem z0fp (m : Nm) (hf : (FPav m.fp).ids = []) : ∀ (xs : List TV), dfnL m xs = true → idsL (avL m xs) = tidsL m xs
  | [], _ => rfl
  | x :: xs, hd => by
    simp only [dfnL, Bool.and_eq_true] at hd
    simp only [avL, idsL, tidsL, TV.ids_av m hf x hd.1, z0fp m hf xs hd.2]
end
def TO.ids (m : Nm) : TO → List Nat
  | .box xs => tidsL m xs
  | _ => []
theorem TO.ids_ob (m : Nm) (hf : (FPav m.fp).ids = []) (o : TO) (hd : o.dfn m = true) : (o.ob m).ids = o.ids m := by
  cases o with
  | box xs => exact z0fp m hf xs hd
  | _ => rfl
def isP : Path → Bool
  | [] => false
  | _ => true
mutual
def TV.hasP (m : Nm) (id : Nat) : TV → Bool
  | .rp k _ => match look m.tk k with | some t => Nat.beq t.id id | none => false
  | .ptr k _ => match look m.tk k with | some t => bif isP t.p then Nat.beq t.id id else false | none => false
  | .agg xs => hasPL m id xs
  | .tup xs => hasPL m id xs
  | .fn _ xs => hasPL m id xs
  | .fp => (FPav m.fp).hasPath id
  | _ => false
def hasPL (m : Nm) (id : Nat) : List TV → Bool
  | [] => false
  | x :: r => x.hasP m id || hasPL m id r
end
mutual
theorem TV.hasP_av (m : Nm) (id : Nat) : ∀ (x : TV), x.dfn m = true → (x.av m).hasPath id = x.hasP m id
  | .b k n, hd => by
    simp only [TV.dfn] at hd
    cases hq : look m.bs k with
    | none => rw [hq] at hd; cases hd
    | some q => simp only [TV.av, hq, TV.hasP]; rfl
  | .rp k j, hd => by
    simp only [TV.dfn] at hd
    cases hq : look m.tk k with
    | none => rw [hq] at hd; cases hd
    | some q =>
      simp only [TV.av, hq, TV.hasP]
      cases hp : q.p with
      | nil => rfl
      | cons a p => rfl
  | .ptr k j, hd => by
    simp only [TV.dfn] at hd
    cases hq : look m.tk k with
    | none => rw [hq] at hd; cases hd
    | some q =>
      simp only [TV.av, hq, TV.hasP]
      cases hp : q.p with
      | nil => rfl
      | cons a p => rfl
  | .agg xs, hd => by simp only [TV.av, AV.hasPath, TV.hasP]; exact z117 m id xs hd
  | .tup xs, hd => by simp only [TV.av, AV.hasPath, TV.hasP]; exact z117 m id xs hd
  | .fn f xs, hd => by simp only [TV.av, AV.hasPath, TV.hasP]; exact z117 m id xs hd
  | .fp, _ => by simp only [TV.av, TV.hasP]
  | .dead, _ => by simp only [TV.av, AV.hasPath, TV.hasP]
  | .und, _ => by simp only [TV.av, AV.hasPath, TV.hasP]
  | .l _, _ => by simp only [TV.av, AV.hasPath, TV.hasP]
  | .kb _, _ => by simp only [TV.av, AV.hasPath, TV.hasP]
  | .row _, _ => by simp only [TV.av, AV.hasPath, TV.hasP]
  | .ref _, _ => by simp only [TV.av, AV.hasPath, TV.hasP]
  | .bx _ _, _ => by simp only [TV.av, AV.hasPath, TV.hasP]
  | .pts _, _ => by simp only [TV.av, AV.hasPath, TV.hasP]
theorem z117 (m : Nm) (id : Nat) : ∀ (xs : List TV), dfnL m xs = true → hasPathL id (avL m xs) = hasPL m id xs
  | [], _ => rfl
  | x :: xs, hd => by
    simp only [dfnL, Bool.and_eq_true] at hd
    simp only [avL, hasPathL, hasPL, TV.hasP_av m id x hd.1, z117 m id xs hd.2]
end
def TV.kil (m : Nm) (id : Nat) (x : TV) : TV := bif x.hasP m id then .dead else x
theorem TV.kil_av (m : Nm) (id : Nat) (x : TV) (hd : x.dfn m = true) : (x.kil m id).av m = killAV id (x.av m) ∧ (x.kil m id).dfn m = true := by
  unfold TV.kil killAV
  rw [TV.hasP_av m id x hd]
  cases x.hasP m id with
  | true => exact ⟨rfl, rfl⟩
  | false => exact ⟨rfl, hd⟩
def TO.kil (m : Nm) (id : Nat) : TO → TO
  | .box xs => .box (xs.map (TV.kil m id))
  | o => o
theorem TO.kil_ob (m : Nm) (id : Nat) (o : TO) (hd : o.dfn m = true) : (o.kil m id).ob m = (o.ob m).killp id ∧ (o.kil m id).dfn m = true := by
  cases o with
  | box xs =>
    have hd' := (z05e m).1 hd
    refine ⟨?_, (z05e m).2 fun x hx => ?_⟩
    · simp only [TO.kil, TO.ob, Obj.killp, z0d9, List.map_map]
      congr 1
      exact List.map_congr_left fun x hx => (TV.kil_av m id x (hd' x hx)).1
    · obtain ⟨y, hy, rfl⟩ := List.mem_map.1 hx; exact (TV.kil_av m id y (hd' y hy)).2
  | _ => exact ⟨rfl, rfl⟩
def Tok.off (id : Nat) (t : Tok) : Tok := bif Nat.beq t.id id then { t with ok := false } else t
theorem Tok.off_eq (id : Nat) (t : Tok) : (t.off id).id = t.id ∧ (t.off id).p = t.p ∧ (t.off id).i = t.i ∧ (t.off id).t.w = t.t.w := by
  unfold Tok.off; cases Nat.beq t.id id <;> exact ⟨rfl, rfl, rfl, rfl⟩
theorem Tok.off_ok {id : Nat} {t : Tok} (h : (t.off id).ok = true) : t.id ≠ id ∧ t.off id = t := by
  unfold Tok.off at h ⊢
  cases hb : Nat.beq t.id id with
  | true => rw [hb] at h; cases h
  | false => exact ⟨fun e => by subst e; simp at hb, rfl⟩
def Nm.off (m : Nm) (id : Nat) : Nm := { m with tk := m.tk.map fun p => (p.1, p.2.off id) }
theorem Nm.off_le (m : Nm) (id : Nat) : NmLe m (m.off id) where
  bs := fun _ q h => ⟨q, h, rfl⟩
  tk := fun k t h => ⟨t.off id, by simp only [Nm.off]; rw [z15b (fun _ t => Tok.off id t), h]; rfl, t.off_eq id⟩
  fp := rfl
theorem Nm.off_look {m : Nm} {id k : Nat} {t : Tok} (h : look (m.off id).tk k = some t) (ho : t.ok = true) : look m.tk k = some t ∧ t.id ≠ id := by
  simp only [Nm.off] at h
  rw [z15b (fun _ t => Tok.off id t)] at h
  obtain ⟨u, hu, rfl⟩ := Option.map_eq_some_iff.1 h
  obtain ⟨h1, h2⟩ := Tok.off_ok ho
  rw [h2]; exact ⟨hu, h1⟩
inductive TU where
  | set (x : Nat) (tv : TV)
  | put (id : Nat) (o : TO)
  | del (id : Nat)
  | kill (id : Nat)
def TU.up (m : Nm) : TU → Upd
  | .set x tv => .set x (tv.av m)
  | .put id o => .put id (o.ob m)
  | .del id => .del id
  | .kill id => .kill id
def TU.dfn (m : Nm) : TU → Bool
  | .set _ tv => tv.dfn m
  | .put _ o => o.dfn m
  | _ => true
def XSt.app (st : XSt) : TU → XSt
  | .set x tv => { st with env := (x, tv) :: st.env, used := tv.ids st.nm ++ st.used }
  | .put id o => { st with obj := (id, o) :: st.obj, nm := st.nm.off id, used := id :: (o.ids st.nm ++ st.used) }
  | .del id => { st with obj := dropK id st.obj, nm := st.nm.off id }
  | .kill id => { st with env := st.env.map fun p => (p.1, p.2.kil st.nm id), obj := st.obj.map fun p => (p.1, p.2.kil st.nm id) }
def XSt.apps : List TU → XSt → XSt
  | [], st => st
  | u :: us, st => XSt.apps us (st.app u)
theorem z1zv {st : XSt} {l : List Nat} {i : Nat} (h : st.usd i = true ∨ i ∈ l) {st' : XSt} (hu : st'.used = l ++ st.used) : st'.usd i = true := by
  unfold XSt.usd at h ⊢
  rw [hu]
  simp only [Bool.or_eq_true, List.any_append, List.any_eq_true] at h ⊢
  rcases h with (h | ⟨x, hx, he⟩) | h
  · exact .inl h
  · exact .inr (.inr ⟨x, hx, he⟩)
  · exact .inr (.inl ⟨i, h, by simp⟩)
theorem NmLe.app (st : XSt) (u : TU) : NmLe st.nm (st.app u).nm := by
  cases u with
  | put id o => exact st.nm.off_le id
  | del id => exact st.nm.off_le id
  | _ => exact .refl _
theorem Rf.app {st : XSt} {ac : St} (h : Rf E st ac) {u : TU} (hd : u.dfn st.nm = true) : Rf E (st.app u) ((u.up st.nm).app ac) := by
  cases u with
  | set x tv =>
    refine ⟨fun y t hy => ?_, h.obj, fun i hi => ?_, h.tok, h.bs, h.fp, h.fpi⟩
    · rcases z0ba hy with ⟨rfl, rfl⟩ | ⟨hne, hy⟩
      · exact ⟨hd, .inr (z02d _ _ _)⟩
      · obtain ⟨h1, h2⟩ := h.env y t hy
        exact ⟨h1, h2.imp id fun e => (z07d _ _ (fun e => hne e.symm)).trans e⟩
    · have hi' : addU ac.used (tv.av st.nm).ids i = true := hi
      rw [z00g, TV.ids_av _ h.fpi _ hd] at hi'
      exact z1zv (hi'.imp (h.used i) id) rfl
  | put id o =>
    have hm := st.nm.off_le id
    have h' := h.names hm (fun k t hk ho => h.tok k t (Nm.off_look hk ho).1 ho) h.bs
    refine ⟨h'.env, fun j q hj => ?_, fun i hi => ?_, fun k t hk ho => ?_, h.bs, h.fp, h.fpi⟩
    · obtain ⟨h3, h4⟩ := TO.ob_le hm o hd
      rcases z0ba hj with ⟨rfl, rfl⟩ | ⟨hne, hj⟩
      · refine ⟨h4, ?_⟩
        show upd ac.obj j (some (q.ob st.nm)) j = some (q.ob (st.nm.off j))
        rw [z02d, h3]
      · obtain ⟨h1, h2⟩ := h'.obj j q hj
        exact ⟨h1, (z07d _ _ (fun e => hne e.symm)).trans h2⟩
    · have hi' : addU ac.used (id :: (o.ob st.nm).ids) i = true := hi
      rw [z00g, TO.ids_ob _ h.fpi _ hd] at hi'
      exact z1zv (l := id :: o.ids st.nm) (hi'.imp (h.used i) (fun x => x)) rfl
    · obtain ⟨hk', hne⟩ := Nm.off_look hk ho
      obtain ⟨k0, rows, o', l, a1, a2, a3⟩ := h.tok k t hk' ho
      exact ⟨k0, rows, o', l, (z07d _ _ (fun e => hne e.symm)).trans a1, a2, a3⟩
  | del id =>
    have hm := st.nm.off_le id
    have h' := h.names hm (fun k t hk ho => h.tok k t (Nm.off_look hk ho).1 ho) h.bs
    refine ⟨h'.env, fun j q hj => ?_, h.used, fun k t hk ho => ?_, h.bs, h.fp, h.fpi⟩
    · obtain ⟨hne, hj⟩ := z15a hj
      obtain ⟨h1, h2⟩ := h'.obj j q hj
      exact ⟨h1, (z07d _ _ (fun e => hne e.symm)).trans h2⟩
    · obtain ⟨hk', hne⟩ := Nm.off_look hk ho
      obtain ⟨k0, rows, o', l, a1, a2, a3⟩ := h.tok k t hk' ho
      exact ⟨k0, rows, o', l, (z07d _ _ (fun e => hne e.symm)).trans a1, a2, a3⟩
  | kill id =>
    refine ⟨fun y t hy => ?_, fun j q hj => ?_, h.used, fun k t hk ho => ?_, h.bs, h.fp, h.fpi⟩
    · have hy' : look (st.env.map fun p => (p.1, p.2.kil st.nm id)) y = some t := hy
      rw [z15b (fun _ v => TV.kil st.nm id v)] at hy'
      obtain ⟨u, hu, rfl⟩ := Option.map_eq_some_iff.1 hy'
      obtain ⟨h1, h2⟩ := h.env y u hu
      obtain ⟨h3, h4⟩ := TV.kil_av st.nm id u h1
      refine ⟨h4, ?_⟩
      rcases h2 with rfl | h2
      · exact .inl rfl
      · right
        show (ac.env y).map (killAV id) = some _
        rw [h2]; exact congrArg some h3.symm
    · have hj' : look (st.obj.map fun p => (p.1, p.2.kil st.nm id)) j = some q := hj
      rw [z15b (fun _ v => TO.kil st.nm id v)] at hj'
      obtain ⟨u, hu, rfl⟩ := Option.map_eq_some_iff.1 hj'
      obtain ⟨h1, h2⟩ := h.obj j u hu
      obtain ⟨h3, h4⟩ := TO.kil_ob st.nm id u h1
      refine ⟨h4, ?_⟩
      show (ac.obj j).map (Obj.killp id) = some _
      rw [h2]; exact congrArg some h3.symm
    · obtain ⟨k0, rows, o', l, a1, a2, a3⟩ := h.tok k t hk ho
      refine ⟨k0, rows, o', l, ?_, a2, a3⟩
      show (ac.obj t.id).map (Obj.killp id) = _
      rw [a1]; rfl
theorem TU.up_le {m m' : Nm} (h : NmLe m m') (u : TU) (hd : u.dfn m = true) : u.up m' = u.up m ∧ u.dfn m' = true := by
  cases u with
  | set x tv => obtain ⟨h1, h2⟩ := TV.av_le h tv hd; exact ⟨by simp only [TU.up, h1], h2⟩
  | put id o => obtain ⟨h1, h2⟩ := TO.ob_le h o hd; exact ⟨by simp only [TU.up, h1], h2⟩
  | _ => exact ⟨rfl, rfl⟩
theorem Rf.apps : ∀ {us : List TU} {st : XSt} {ac : St}, Rf E st ac → (∀ u ∈ us, u.dfn st.nm = true) → Rf E (XSt.apps us st) (Am.apps (us.map (TU.up st.nm)) ac)
  | [], _, _, h, _ => h
  | u :: us, st, ac, h, hd => by
    have h1 := h.app (hd u (List.mem_cons_self ..))
    have h2 : us.map (TU.up st.nm) = us.map (TU.up (st.app u).nm) := List.map_congr_left fun v hv => (TU.up_le (.app st u) v (hd v (List.mem_cons_of_mem _ hv))).1.symm
    simp only [List.map_cons, Am.apps, XSt.apps, h2]
    exact Rf.apps h1 fun v hv => (TU.up_le (.app st u) v (hd v (List.mem_cons_of_mem _ hv))).2
end Go.Am
end
section
namespace Go.Am
open Go
variable {E : Option FP}
def LK.zv : LK → Value
  | .I => .int .i64 0
  | .B => .bool false
  | .Y => .int .u8 0
  | .S _ => .slice none 0 0
def Ty.isS : Ty → Bool
  | .s _ => true
  | _ => false
def Ty.lks : Ty → List LK
  | .I => [.I] | .B => [.B] | .Y => [.Y]
  | .s n => n.lay
  | .sl t => [.S t]
def Ty.zv (t : Ty) : List Value := t.lks.map LK.zv
def LK.zt : LK → TV
  | .I => .l (.i 0)
  | .B => .kb false
  | .Y => .l (.y 0)
  | .S _ => .l .nl
def SN.places : SN → List (Nat × Nat)
  | .ask => [(0, 1), (1, 1), (2, 1)]
  | .flow => [(0, 1), (1, 3)]
  | .task => [(0, 1), (1, 1), (2, 1), (3, 1), (4, 1), (5, 1), (6, 1), (7, 1), (8, 1)]
  | .net => [(0, 1), (1, 1)]
  | .item => [(0, 1), (1, 1), (2, 1)]
  | .did => [(0, 1), (1, 1)]
  | .kase => [(0, 1), (1, 1), (2, 1), (3, 1), (4, 1)]
  | .node => [(0, 3), (3, 1), (4, 1), (5, 1), (6, 1)]
  | .run => [(0, 1), (1, 5)]
  | .house => [(0, 1), (1, 1), (2, 1), (3, 1)]
  | .req => [(0, 1), (1, 1), (2, 1), (3, 1), (4, 1), (5, 1), (6, 1), (7, 3), (10, 1)]
  | .rd => [(0, 1), (1, 1)]
def Ty.flat : Ty → Bool
  | .s .ask => true | .s .item => true | .s .did => true
  | _ => false
def UndOk (P : Program) (t : TypeId) : Ty → Prop
  | .I => P.underlying t = some (.int .i64)
  | .B => P.underlying t = some .bool
  | .Y => P.underlying t = some (.int .u8)
  | .sl e => ∃ et bytes, P.underlying t = some (.slice et) ∧ (∀ w, (Go.sizeOf et).run P w = .ok e.w w) ∧ ElemTy P t et e.w bytes ∧ Nat.ble bytes 100000 = true ∧ ∀ i z, P.info? et = some i → i.zero = some z → z.cells.toList = e.zv
  | .s n => ∃ fs : Array Field, P.underlying t = some (.struct fs) ∧ (∀ (fi : Nat) (p : Nat × Nat), n.places[fi]? = some p → ∃ ft : TypeId, (∀ w, (Go.sizeOf ft).run P w = .ok p.2 w) ∧ Nat.beq p.2 0 = false ∧ (fs[fi]?).map (fun z => (z.type, z.offset)) = some (ft, p.1)) ∧
      ∀ ps, P.built t ps = Instr.fill (fun i => n.places.toArray[i]?) (Ty.s n).zv.toArray ps
structure TyOk (P : Program) (t : TypeId) (y : Ty) : Prop where
  size : ∀ w, (Go.sizeOf t).run P w = .ok y.w w
  agg : ∀ w, (isAgg t).run P w = .ok y.isS w
  zero : ∃ z, (∀ w, (zeroValue t).run P w = .ok z w) ∧ z.cells.toList = y.zv
  und : UndOk P t y
  eq : y.flat = true → ∃ ti, P.underlying t = some (.struct (P.fieldsOf t)) ∧ P.stoodInHeld t = false ∧ P.eqGuardType P.depth t = false ∧ P.underlying ti = some (.int .i64) ∧ (∀ w, (isAgg ti).run P w = .ok false w) ∧
      flatF P ti (P.fieldsOf t).toList 0 = true ∧ (P.fieldsOf t).toList.length = y.w
structure Cx where
  P : Program
  n : Nat
  tt : List (Nat × Ty)
  mt : List Nat
  fp : Option FP
structure Cx.Ok (c : Cx) : Prop where
  ty : ∀ t y, look c.tt t = some y → TyOk c.P t y
  mt : ∀ t ∈ c.mt, ∃ kt et, c.P.underlying t = some (.map kt et) ∧ c.P.underlying kt = some (.int .i64) ∧ ∀ w, (zeroValue et).run c.P w = .ok (.bool false) w
  fp : ∀ q, c.fp = some q → q.Ok c.P
  mixed : c.P.follows .mixedOrders = true
abbrev Kt (ρ : Type) := XSt → List Req → List Upd → Option ρ
def Snd {ρ : Type} (c : Cx) (o : Oper) (ac : St) (K : Kt ρ) (r : ρ) : Prop :=
  ∃ st rs us, OpL0 c.P c.n o rs us ∧ (∀ q ∈ rs, q.sat ac) ∧ Rf c.fp st (apps us ac) ∧ K st rs us = some r
def setK {ρ : Type} (c : Cx) (d : Nat) (st : XSt) (tv : TV) (rs : List Req) (K : Kt ρ) : Option ρ :=
  bif Nat.blt d c.n then K (st.app (.set d tv)) rs [.set d (tv.av st.nm)] else none
theorem bif_t {α : Type} {b : Bool} {x : Option α} {r : α} (h : (bif b then x else none) = some r) : b = true ∧ x = some r := by
  cases b with
  | true => exact ⟨rfl, h⟩
  | false => cases h
theorem z00p {ρ : Type} {c : Cx} {d : Nat} {st : XSt} {tv : TV} {rs : List Req} {K : Kt ρ} {r : ρ} {ac : St} {o : Oper} (hR : Rf c.fp st ac) (hd : tv.dfn st.nm = true) (ho : d < c.n → OpL0 c.P c.n o rs [.set d (tv.av st.nm)])
    (hs : ∀ q ∈ rs, q.sat ac) (h : setK c d st tv rs K = some r) : Snd c o ac K r := by
  obtain ⟨h1, h2⟩ := bif_t h
  exact ⟨_, _, _, ho (lb h1), hs, hR.app (u := .set d tv) hd, h2⟩
def constLf : Value → Option Lf
  | .int .i64 n => some (.i n)
  | .int .u8 n => some (.y n)
  | .bool c => some (.b c)
  | .slice none 0 0 => some .nl
  | _ => none
def constLfs : List Value → Option (List Lf)
  | [] => some []
  | v :: vs => (constLf v).bind fun x => (constLfs vs).bind fun xs => some (x :: xs)
def constTV : Value → Option TV
  | .bool c => some (.kb c)
  | .agg vs => (constLfs vs.toList).bind fun xs => some (.row xs)
  | v => (constLf v).bind fun x => some (.l x)
theorem z12h : ∀ {v : Value} {x : Lf}, constLf v = some x → x.cell = .lit v := by
  intro v x h
  unfold constLf at h
  split at h <;> first | (cases h; rfl) | cases h
theorem z0yb : ∀ {vs : List Value} {xs : List Lf}, constLfs vs = some xs → xs.map Lf.cell = vs.map .lit
  | [], _, h => by cases h; rfl
  | v :: vs, _, h => by
    simp only [constLfs] at h
    obtain ⟨x, h1, h⟩ := bnd h
    obtain ⟨xs, h2, h⟩ := bnd h
    cases h
    simp only [List.map_cons, z12h h1, z0yb h2]
theorem z1x8 {v : Value} {tv : TV} (h : constTV v = some tv) (m : Nm) : tv.av m = constAV v ∧ tv.dfn m = true := by
  unfold constTV at h
  split at h
  · cases h; exact ⟨rfl, rfl⟩
  · obtain ⟨xs, h1, h⟩ := bnd h
    cases h
    exact ⟨by simp only [TV.av, constAV, z0yb h1], rfl⟩
  · rename_i h3 h4
    obtain ⟨x, h1, h⟩ := bnd h
    cases h
    refine ⟨?_, rfl⟩
    simp only [TV.av, z12h h1]
    unfold constAV
    split
    · exact absurd rfl (h4 _)
    · rfl
def opd (st : XSt) : Operand → Option TV
  | .tmp t => match look st.env t with
    | some .dead => none
    | x => x
  | .const v => constTV v
  | .func f => some (.fn f [])
  | .global _ => none
theorem z0kc {st : XSt} {ac : St} (hR : Rf E st ac) {x : Operand} {tv : TV} (h : opd st x = some tv) : opIs ac x (tv.av st.nm) ∧ tv.dfn st.nm = true := by
  cases x with
  | tmp t =>
    simp only [opd] at h
    split at h
    · cases h
    · rename_i hne
      obtain ⟨h1, h2⟩ := hR.env t tv h
      rcases h2 with rfl | h2
      · exact absurd h hne
      · exact ⟨h2, h1⟩
  | const v => obtain ⟨h1, h2⟩ := z1x8 (v := v) h st.nm; exact ⟨h1, h2⟩
  | func f => cases h; exact ⟨rfl, rfl⟩
  | global g => cases h
theorem so' {st : XSt} {ac : St} (hR : Rf E st ac) {x : Operand} {tv : TV} (h : opd st x = some tv) {rs : List Req} (k : ∀ r ∈ rs, r.sat ac) : ∀ r ∈ Req.opd x (tv.av st.nm) :: rs, r.sat ac := so (z0kc hR h).1 k
def XSt.liv (st : XSt) (l : List Nat) : Bool := l.all fun i => (look st.obj i).isSome
theorem sl' {st : XSt} {ac : St} (hR : Rf E st ac) {l : List Nat} (h : st.liv l = true) : ∀ r ∈ lives l, r.sat ac := by
  refine z1zh (List.all_eq_true.2 fun i hi => ?_)
  have := List.all_eq_true.1 h i hi
  cases ho : look st.obj i with
  | none => rw [ho] at this; cases this
  | some o => rw [(hR.obj i o ho).2]; rfl
theorem sf' {st : XSt} {ac : St} (hR : Rf E st ac) {id : Nat} (h : st.usd id = false) {rs : List Req} (k : ∀ r ∈ rs, r.sat ac) : ∀ r ∈ Req.fresh id :: rs, r.sat ac := by
  refine sf ?_ k
  cases hu : ac.used id with
  | false => rfl
  | true => rw [hR.used id hu] at h; cases h
def withB {ρ : Type} (v : Bool) (st : XSt) (K : XSt → TV → Option ρ) : Option ρ :=
  match look st.nm.bs st.nm.bs.length with
  | none => K { st with nm := { st.nm with bs := (st.nm.bs.length, .s v) :: st.nm.bs } } (.b st.nm.bs.length 0)
  | some _ => none
theorem z07j {ρ : Type} {v : Bool} {st : XSt} {K : XSt → TV → Option ρ} {r : ρ} {ac : St} (hR : Rf E st ac) (h : withB v st K = some r) :
    ∃ st1 k, Rf E st1 ac ∧ NmLe st.nm st1.nm ∧ (look st1.nm.bs k = some (.s v)) ∧ st1.env = st.env ∧ st1.obj = st.obj ∧ K st1 (.b k 0) = some r := by
  unfold withB at h
  split at h
  · rename_i hn
    have hm : NmLe st.nm { st.nm with bs := (st.nm.bs.length, .s v) :: st.nm.bs } := by
      refine ⟨fun k q hk => ⟨q, ?_, rfl⟩, fun k t hk => ⟨t, hk, rfl, rfl, rfl, rfl⟩, rfl⟩
      rw [z15d]; exact hk
      intro e; subst e; rw [hn] at hk; cases hk
    refine ⟨_, _, hR.names hm hR.tok (fun k c b hk => ?_), hm, z0zf, rfl, rfl, h⟩
    rcases z0ba hk with ⟨_, e⟩ | ⟨_, hk⟩
    · cases e
    · exact hR.bs k c b hk
  · cases h
def ofLf {ρ : Type} (x : Lf) (st : XSt) (K : XSt → TV → Option ρ) : Option ρ :=
  match x with
  | .b v => withB v st K
  | x => K st (.l x)
theorem z1py {ρ : Type} {x : Lf} {st : XSt} {K : XSt → TV → Option ρ} {r : ρ} {ac : St} (hR : Rf E st ac) (h : ofLf x st K = some r) :
    ∃ st1 tv, Rf E st1 ac ∧ NmLe st.nm st1.nm ∧ tv.dfn st1.nm = true ∧ tv.av st1.nm = .c x.cell ∧ K st1 tv = some r := by
  unfold ofLf at h
  split at h
  · obtain ⟨st1, k, h1, h2, h3, _, _, h4⟩ := z07j hR h
    exact ⟨st1, _, h1, h2, by simp only [TV.dfn, h3]; rfl, by simp only [TV.av, h3]; rfl, h4⟩
  · exact ⟨st, _, hR, .refl _, rfl, rfl, h⟩
def ofTV {ρ : Type} (x : TV) (st : XSt) (K : XSt → TV → Option ρ) : Option ρ :=
  match x with
  | .l x => ofLf x st K
  | x => K st x
theorem z1ye {ρ : Type} {x : TV} {st : XSt} {K : XSt → TV → Option ρ} {r : ρ} {ac : St} (hR : Rf E st ac) (hx : x.dfn st.nm = true) (h : ofTV x st K = some r) :
    ∃ st1 tv, Rf E st1 ac ∧ NmLe st.nm st1.nm ∧ tv.dfn st1.nm = true ∧ tv.av st1.nm = x.av st.nm ∧ K st1 tv = some r := by
  unfold ofTV at h
  split at h
  · exact z1py hR h
  · exact ⟨st, _, hR, .refl _, hx, rfl, h⟩
def intv : TV → Option Int
  | .l (.i n) => some n
  | _ => none
theorem z0ch {tv : TV} {i : Int} (h : intv tv = some i) (m : Nm) : tv.av m = aInt i := by
  unfold intv at h
  split at h
  · cases h; rfl
  · cases h
def boolv (m : Nm) : TV → Option Bool
  | .kb c => some c
  | .b k n => (look m.bs k).bind fun q => some (nn n q.val)
  | .l (.b v) => some v
  | _ => none
theorem z0gr {m : Nm} {tv : TV} {b : Bool} (h : boolv m tv = some b) : tv.av m = aBool b := by
  unfold boolv at h
  split at h
  · cases h; rfl
  · obtain ⟨q, h1, h⟩ := bnd h
    cases h
    simp only [TV.av, h1]
  · cases h; rfl
  · cases h
def knownv (m : Nm) : TV → Option Bool
  | .kb c => some c
  | .b k n => match look m.bs k with
    | some (.k c _) => some (nn n c)
    | _ => none
  | _ => none
theorem z0vi {st : XSt} {ac : St} (hR : Rf E st ac) {tv : TV} {c : Bool} (h : knownv st.nm tv = some c) : tv.av st.nm = aBool c := by
  unfold knownv at h
  split at h
  · cases h; rfl
  · rename_i k n
    split at h
    · rename_i c' b hk
      cases h
      have := hR.bs _ _ _ hk
      subst this
      simp only [TV.av, hk]; rfl
    · cases h
  · cases h
def x_mov {ρ : Type} (c : Cx) (d : Nat) (x : Operand) (st : XSt) (K : Kt ρ) : Option ρ :=
  (opd st x).bind fun tv => setK c d st tv [.opd x (tv.av st.nm)] K
def z26p {ρ : Type} (c : Cx) (d : Nat) (e x y : Operand) (st : XSt) (K : Kt ρ) : Option ρ :=
  (opd st e).bind fun tc => (knownv st.nm tc).bind fun b =>
    match b with
    | true => (opd st x).bind fun tv => setK c d st tv [.opd e (tc.av st.nm), .opd x (tv.av st.nm)] K
    | false => (opd st y).bind fun tv => setK c d st tv [.opd e (tc.av st.nm), .opd y (tv.av st.nm)] K
def binI {ρ : Type} (b : BinOp) (i j : Int) (st : XSt) (S : XSt → TV → Option ρ) : Option ρ :=
  match b with
  | .add => gd (ok64 (i + j)) (S st (.l (.i (i + j))))
  | .sub => gd (ok64 (i - j)) (S st (.l (.i (i - j))))
  | .mul => gd (ok64 (i * j)) (S st (.l (.i (i * j))))
  | .lss => withB (decide (i < j)) st S
  | .leq => withB (decide (i ≤ j)) st S
  | .gtr => withB (decide (j < i)) st S
  | .geq => withB (decide (j ≤ i)) st S
  | .eql => withB (decide (i = j)) st S
  | .neq => withB (decide (i = j)) st fun st tv => match tv with | .b k _ => S st (.b k 1) | _ => none
  | .rem => gd (j ≠ 0) (S st (.l (.i (Int.tmod i j))))
  | .quo => gd (j ≠ 0 ∧ ok64 (Int.tdiv i j)) (S st (.l (.i (Int.tdiv i j))))
  | .shr => gd ((0 : Int) ≤ j ∧ j ≤ (63 : Int)) (S st (.l (.i (shrI i j))))
  | .and => S st (.l (.i (andI i j)))
  | .xor => S st (.l (.i (xorI i j)))
  | _ => none
def binB {ρ : Type} (b : BinOp) (p q : Bool) (st : XSt) (S : XSt → TV → Option ρ) : Option ρ :=
  match b with
  | .eql => withB (p == q) st S
  | .neq => withB (p == q) st fun st tv => match tv with | .b k _ => S st (.b k 1) | _ => none
  | _ => none
def lfInts : List Lf → Option (List Int)
  | [] => some []
  | .i n :: xs => (lfInts xs).bind fun r => some (n :: r)
  | _ => none
def tvInts : List TV → Option (List Int)
  | [] => some []
  | .l (.i n) :: xs => (tvInts xs).bind fun r => some (n :: r)
  | _ => none
def intsv : TV → Option (List Int)
  | .row xs => lfInts xs
  | .agg xs => tvInts xs
  | _ => none
def x_bin {ρ : Type} (c : Cx) (d : Nat) (b : BinOp) (t : TypeId) (x y : Operand) (st : XSt) (K : Kt ρ) : Option ρ :=
  (opd st x).bind fun tx => (opd st y).bind fun ty =>
    match look c.tt t with
    | some .I => (intv tx).bind fun i => (intv ty).bind fun j => binI b i j st fun st' tv => setK c d st' tv [.opd x (tx.av st.nm), .opd y (ty.av st.nm)] K
    | some .B => (boolv st.nm tx).bind fun p => (boolv st.nm ty).bind fun q => binB b p q st fun st' tv => setK c d st' tv [.opd x (tx.av st.nm), .opd y (ty.av st.nm)] K
    | some (.s n) => bif (Ty.s n).flat then (intsv tx).bind fun us => (intsv ty).bind fun vs => bif Nat.beq us.length n.w && Nat.beq vs.length n.w then
        (match b with
        | .eql => withB (decide (us = vs)) st fun st' tv => setK c d st' tv [.opd x (tx.av st.nm), .opd y (ty.av st.nm)] K
        | .neq => withB (decide (us = vs)) st fun st' tv => match tv with | .b k _ => setK c d st' (.b k 1) [.opd x (tx.av st.nm), .opd y (ty.av st.nm)] K | _ => none
        | _ => none) else none else none
    | _ => none
def x_not {ρ : Type} (c : Cx) (d : Nat) (x : Operand) (st : XSt) (K : Kt ρ) : Option ρ :=
  (opd st x).bind fun tx =>
    match tx with
    | .kb v => setK c d st (.kb (!v)) [.opd x (tx.av st.nm)] K
    | .b k n => setK c d st (.b k (n + 1)) [.opd x (tx.av st.nm)] K
    | _ => none
def x_neg {ρ : Type} (c : Cx) (d : Nat) (x : Operand) (st : XSt) (K : Kt ρ) : Option ρ :=
  (opd st x).bind fun tx => (intv tx).bind fun i => gd (ok64 (0 - i)) (setK c d st (.l (.i (0 - i))) [.opd x (tx.av st.nm)] K)
def x_ext {ρ : Type} (c : Cx) (d : Nat) (x : Operand) (i : Nat) (st : XSt) (K : Kt ρ) : Option ρ :=
  (opd st x).bind fun tx =>
    match tx with
    | .tup xs => (xs[i]?).bind fun tv => bif st.liv (tidsL st.nm xs) then ofTV tv st fun st1 tv1 => setK c d st1 tv1 (.opd x (tx.av st.nm) :: lives (tidsL st.nm xs)) K else none
    | _ => none
section
variable {ρ : Type} {c : Cx} {d : Nat} {st : XSt} {K : Kt ρ} {r : ρ} {ac : St} {ty : TypeId} {pos : String} {after : Array Edge} {g : Option (Nat × Bool)} {x y e : Operand}
theorem z203 (hR : Rf c.fp st ac) (h : x_mov c d x st K = some r) : Snd c ⟨some d, .move x, ty, pos, after, g⟩ ac K r := by
  obtain ⟨tv, h1, h⟩ := bnd h
  exact z00p hR (z0kc hR h1).2 z265 (so' hR h1 sn) h
theorem z1r8 (hR : Rf c.fp st ac) (h : x_mov c d x st K = some r) : Snd c ⟨some d, .assign x, ty, pos, after, g⟩ ac K r := by
  obtain ⟨tv, h1, h⟩ := bnd h
  exact z00p hR (z0kc hR h1).2 z210 (so' hR h1 sn) h
theorem z204 (hR : Rf c.fp st ac) (h : z26p c d e x y st K = some r) : Snd c ⟨some d, .pick e x y, ty, pos, after, g⟩ ac K r := by
  obtain ⟨tc, h1, h⟩ := bnd h
  obtain ⟨b, h2, h⟩ := bnd h
  have hk := z0vi hR h2
  cases b with
  | true =>
    obtain ⟨tv, h3, h⟩ := bnd h
    exact z00p hR (z0kc hR h3).2 (fun hn => by rw [hk]; exact z1q5 hn rfl) (so' hR h1 (so' hR h3 sn)) h
  | false =>
    obtain ⟨tv, h3, h⟩ := bnd h
    exact z00p hR (z0kc hR h3).2 (fun hn => by rw [hk]; exact z1l8 hn rfl) (so' hR h1 (so' hR h3 sn)) h
theorem z08s {st1 : XSt} {k nt : Nat} {v : Bool} {rs : List Req} {o : Oper} (h1 : Rf c.fp st1 ac) (hk : look st1.nm.bs k = some (.s v)) (ho : d < c.n → OpL0 c.P c.n o rs [.set d (aBool (nn nt v))])
    (hs : ∀ q ∈ rs, q.sat ac) (h : setK c d st1 (.b k nt) rs K = some r) : Snd c o ac K r := by
  refine z00p h1 (by simp only [TV.dfn, hk]; rfl) (fun hn => ?_) hs h
  have e : (TV.b k nt).av st1.nm = aBool (nn nt v) := by simp only [TV.av, hk]; rfl
  rw [e]; exact ho hn
theorem z1s6 : ∀ {xs : List Lf} {l : List Int}, lfInts xs = some l → RowI (xs.map Lf.cell) l
  | [], _, h => by cases h; exact .nil
  | .i n :: xs, _, h => by
    obtain ⟨l, h1, h⟩ := bnd h
    cases h; exact .cons (z1s6 h1)
  | .b _ :: _, _, h => by cases h
  | .y _ :: _, _, h => by cases h
  | .s _ _ _ :: _, _, h => by cases h
  | .nl :: _, _, h => by cases h
theorem z21m (m : Nm) {xs : List TV} : ∀ {l : List Int}, tvInts xs = some l → AggI (avL m xs) l := by
  induction xs with
  | nil => intro l h; cases h; exact .nil
  | cons a xs ih =>
    intro l h
    unfold tvInts at h
    split at h
    · rename_i h0; cases h0
    · rename_i n ys h0
      cases h0
      obtain ⟨l, h1, h⟩ := bnd h
      cases h; exact .cons (ih h1)
    · cases h
theorem z1dc {tv : TV} {l : List Int} (h : intsv tv = some l) (m : Nm) : IntsOf (tv.av m) l := by
  unfold intsv at h
  split at h
  · exact .row (z1s6 h)
  · exact .agg (z21m m h)
  · cases h
theorem z21p {t t' : TypeId} {b : BinOp} (hc : c.Ok) (hR : Rf c.fp st ac) (h : x_bin c d b t x y st K = some r) : Snd c ⟨some d, .binOp b t x y t', ty, pos, after, g⟩ ac K r := by
  obtain ⟨tx, h1, h⟩ := bnd h
  obtain ⟨tz, h2, h⟩ := bnd h
  have hs := so' hR h1 (so' hR h2 sn)
  split at h
  · obtain ⟨i, h3, h⟩ := bnd h
    obtain ⟨j, h4, h⟩ := bnd h
    rw [z0ch h3, z0ch h4] at hs h
    unfold binI at h
    split at h
    · obtain ⟨g1, h⟩ := gd_some h; exact z00p hR rfl (fun hn => z26x hn g1) hs h
    · obtain ⟨g1, h⟩ := gd_some h; exact z00p hR rfl (fun hn => z27c hn g1) hs h
    · obtain ⟨g1, h⟩ := gd_some h; exact z00p hR rfl (fun hn => z276 hn g1) hs h
    · obtain ⟨st1, k, a1, a2, a3, _, _, h⟩ := z07j hR h; exact z08s a1 a3 (fun hn => z275 hn) hs h
    · obtain ⟨st1, k, a1, a2, a3, _, _, h⟩ := z07j hR h; exact z08s a1 a3 (fun hn => z274 hn) hs h
    · obtain ⟨st1, k, a1, a2, a3, _, _, h⟩ := z07j hR h; exact z08s a1 a3 (fun hn => z272 hn) hs h
    · obtain ⟨st1, k, a1, a2, a3, _, _, h⟩ := z07j hR h; exact z08s a1 a3 (fun hn => z271 hn) hs h
    · obtain ⟨st1, k, a1, a2, a3, _, _, h⟩ := z07j hR h; exact z08s a1 a3 (fun hn => z270 hn) hs h
    · obtain ⟨st1, k, a1, a2, a3, _, _, h⟩ := z07j hR h; exact z08s a1 a3 (fun hn => z278 hn) hs h
    · obtain ⟨g1, h⟩ := gd_some h; exact z00p hR rfl (fun hn => z27a hn g1) hs h
    · obtain ⟨g1, h⟩ := gd_some h; exact z00p hR rfl (fun hn => z279 hn g1.1 g1.2) hs h
    · obtain ⟨g1, h⟩ := gd_some h; exact z00p hR rfl (fun hn => z268 hn g1) hs h
    · exact z00p hR rfl (fun hn => z263 hn) hs h
    · exact z00p hR rfl (fun hn => z269 hn) hs h
    · cases h
  · rename_i ht
    have hu : c.P.underlying t = some .bool := (hc.ty _ _ ht).und
    obtain ⟨p, h3, h⟩ := bnd h
    obtain ⟨q, h4, h⟩ := bnd h
    rw [z0gr h3, z0gr h4] at hs h
    unfold binB at h
    split at h
    · obtain ⟨st1, k, a1, a2, a3, _, _, h⟩ := z07j hR h; exact z08s a1 a3 (fun hn => z264 hu hn) hs h
    · obtain ⟨st1, k, a1, a2, a3, _, _, h⟩ := z07j hR h; exact z08s a1 a3 (fun hn => z266 hu hn) hs h
    · cases h
  · rename_i n ht
    obtain ⟨hf, h⟩ := bif_t h
    obtain ⟨us, h3, h⟩ := bnd h
    obtain ⟨vs, h4, h⟩ := bnd h
    obtain ⟨hl, h⟩ := bif_t h
    simp only [Bool.and_eq_true] at hl
    obtain ⟨ti, e1, e2, e3, e4, e5, e6, e7⟩ := (hc.ty _ _ ht).eq hf
    have l1 : Nat.beq us.length (c.P.fieldsOf t).toList.length = true := by rw [e7]; exact hl.1
    have l2 : Nat.beq vs.length (c.P.fieldsOf t).toList.length = true := by rw [e7]; exact hl.2
    split at h
    · obtain ⟨st1, k, a1, a2, a3, _, _, h⟩ := z07j hR h
      exact z08s a1 a3 (fun hn => z1uw e1 e2 e3 e4 e5 e6 (z1dc h3 _) (z1dc h4 _) l1 l2 hn) hs h
    · obtain ⟨st1, k, a1, a2, a3, _, _, h⟩ := z07j hR h
      exact z08s a1 a3 (fun hn => z1v3 e1 e2 e3 e4 e5 e6 (z1dc h3 _) (z1dc h4 _) l1 l2 hn) hs h
    · cases h
  · cases h
theorem z221 {t : TypeId} (hR : Rf c.fp st ac) (h : x_not c d x st K = some r) : Snd c ⟨some d, .unOp .not t x, ty, pos, after, g⟩ ac K r := by
  obtain ⟨tx, h1, h⟩ := bnd h
  have hs := so' hR h1 sn
  split at h
  · exact z00p hR rfl (fun hn => z267 hn) hs h
  · rename_i k n
    have hd := (z0kc hR h1).2
    refine z00p hR (show (TV.b k (n + 1)).dfn st.nm = true from hd) (fun hn => ?_) hs h
    simp only [TV.dfn] at hd
    cases hk : look st.nm.bs k with
    | none => rw [hk] at hd; cases hd
    | some q =>
      have e1 : (TV.b k n).av st.nm = aBool (nn n q.val) := by simp only [TV.av, hk]
      have e2 : (TV.b k (n + 1)).av st.nm = aBool (!(nn n q.val)) := by simp only [TV.av, hk]; rfl
      rw [e1, e2]; exact z267 hn
  · cases h
theorem z21z {t : TypeId} (hR : Rf c.fp st ac) (h : x_neg c d x st K = some r) : Snd c ⟨some d, .unOp .neg t x, ty, pos, after, g⟩ ac K r := by
  obtain ⟨tx, h1, h⟩ := bnd h
  obtain ⟨i, h2, h⟩ := bnd h
  obtain ⟨g1, h⟩ := gd_some h
  have hs := so' hR h1 sn
  rw [z0ch h2] at hs h
  exact z00p hR rfl (fun hn => z277 hn g1) hs h
theorem z21s {i : Nat} (hR : Rf c.fp st ac) (h : x_ext c d x i st K = some r) : Snd c ⟨some d, .extract x i, ty, pos, after, g⟩ ac K r := by
  obtain ⟨tx, h1, h⟩ := bnd h
  obtain ⟨ho, hd⟩ := z0kc hR h1
  split at h
  · rename_i xs
    obtain ⟨tv, h2, h⟩ := bnd h
    obtain ⟨h3, h⟩ := bif_t h
    have hd' : dfnL st.nm xs = true := hd
    have he : idsL (avL st.nm xs) = tidsL st.nm xs := z0fp st.nm hR.fpi xs hd'
    obtain ⟨st1, tv1, f1, f2, f3, f4, h⟩ := z1ye hR ((z05e _).1 hd' tv (List.mem_of_getElem? h2)) h
    refine z00p f1 f3 (fun hn => ?_) (so' hR h1 (sl' hR h3)) h
    rw [← he, f4]
    refine z1yg ?_ hn
    rw [z0d9, List.getElem?_map, h2]; rfl
  · cases h
end
end Go.Am
end
